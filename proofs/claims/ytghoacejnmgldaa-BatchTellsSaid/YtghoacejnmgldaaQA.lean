/- The mathematics, part QA: loops whose state has a counter and more; ranges over lists; lists of places. -/
import Derived.Test.YtghoacejnmgldaaLibZR
import Derived.Test.YtghoacejnmgldaaMR0
set_option linter.unusedVariables false
set_option linter.unusedSimpArgs false
namespace Go.Taq
open Go

/-- a loop over a list's places: ix is where the state keeps the place -/
theorem V_loopc {α τ : Type} {xs : List α} (hm : xs.length ≤ maxLen) (ix : τ → Int) (I : Nat → τ → Prop) {t0 : τ} (hi0 : ix t0 = 0) (h0 : I 0 t0) {R : α → τ → (τ → Prop) → Prop} {E : τ → Prop}
    (hs : ∀ (i : Nat) x t, xs[i]? = some x → ix t = (i : Int) → I i t → R x t (fun t' => ix t' = w64 ((i : Int) + 1) ∧ I (i + 1) t'))
    (he : ∀ t, I xs.length t → E t) :
    Loop (fun t Y => Ite (decide (ix t < (xs.length : Int))) (∃ x, idx xs (ix t) = some x ∧ R x t Y) (E t)) t0 := by
  refine Loop.inv xs.length (fun i t => ix t = (i : Int) ∧ I i t) ⟨by simpa using hi0, h0⟩ (fun i t hi h => ?_) (fun t h => ?_)
  · have hx : xs[i]? = some (xs[i]'hi) := List.getElem?_eq_getElem hi
    refine Ite.lt (by omega) ⟨_, by rw [h.1]; exact idx_of rfl hx, ?_⟩
    have := hs i _ t hx h.1 h.2
    rw [w64_nat hi hm] at this; exact this
  · exact Ite.nlt (by omega) (he t h.2)
/-- ... where a round is a way that meets others first -/
theorem V_loopj {α τ : Type} {xs : List α} (hm : xs.length ≤ maxLen) (ix : τ → Int) (I : Nat → τ → Prop) {t0 : τ} (hi0 : ix t0 = 0) (h0 : I 0 t0) {R : τ → (τ → Prop) → Prop} {E : τ → Prop}
    (hs : ∀ (i : Nat) x t, xs[i]? = some x → ix t = (i : Int) → I i t → R t (fun t' => ix t' = w64 ((i : Int) + 1) ∧ I (i + 1) t'))
    (he : ∀ t, I xs.length t → E t) :
    Loop (fun t Y => Ite (decide (ix t < (xs.length : Int))) (R t Y) (E t)) t0 := by
  refine Loop.inv xs.length (fun i t => ix t = (i : Int) ∧ I i t) ⟨by simpa using hi0, h0⟩ (fun i t hi h => ?_) (fun t h => ?_)
  · have hx : xs[i]? = some (xs[i]'hi) := List.getElem?_eq_getElem hi
    refine Ite.lt (by omega) ?_
    have := hs i _ t hx h.1 h.2
    rw [w64_nat hi hm] at this; exact this
  · exact Ite.nlt (by omega) (he t h.2)
theorem fidx_cases {α : Type} (p : α → Bool) (xs : List α) : (∃ (i : Nat) (x : α), xs[i]? = some x ∧ fidx p xs = i ∧ p x = true ∧ ∀ (j : Nat) (y : α), j < i → xs[j]? = some y → p y = false) ∨ (fidx p xs = -1 ∧ ∀ x, x ∈ xs → p x = false) := by
  unfold fidx
  cases h : xs.findIdx? p with
  | none =>
    refine .inr ⟨rfl, fun x hx => ?_⟩
    rw [List.findIdx?_eq_none_iff] at h; exact h x hx
  | some i =>
    obtain ⟨hlt, hp, hb⟩ := List.findIdx?_eq_some_iff_getElem.1 h
    refine .inl ⟨i, xs[i], List.getElem?_eq_getElem hlt, rfl, hp, fun j y hj hy => ?_⟩
    have := hb j hj
    have hyj := (List.getElem?_eq_some_iff.1 hy).2
    rw [← hyj]; simpa using this
theorem take_succ {α : Type} {xs : List α} {i : Nat} {x : α} (h : xs[i]? = some x) : xs.take (i + 1) = xs.take i ++ [x] := by
  rw [List.take_add_one, h]; rfl
/-- slices.DeleteFunc behind its search -/
theorem V_delrest {α : Type} {xs : List α} (hm : xs.length ≤ maxLen) (z0 : α) (p : α → Bool) {T : α → (Bool → Prop) → Prop} (hT : ∀ x, x ∈ xs → ∀ {q : Bool → Prop}, q (p x) → T x q) {post : List α → Prop} (hp : post (xs.filter fun x => !p x)) :
    Ite (fidx p xs == (-1)) (post xs) (Jn (fun (J : (List α × Int) → Prop) => Loop (fun (s : List α × Int × Int) Y => Ite (decide (s.2.2 < (s.1.length : Int)))
      (∃ x, idx s.1 s.2.2 = some x ∧ T x (fun b => Jn (fun (J27 : (List α × Int) → Prop) => Ite (!b) (∃ y, idx s.1 s.2.1 = some y ∧ J27 ((s.1.set (Int.toNat s.2.1) x), w64 (s.2.1 + 1))) (J27 (s.1, s.2.1))) (fun (x26 : List α × Int) => Y (x26.1, x26.2, w64 (s.2.2 + 1)))))
      (J (s.1, s.2.1))) (xs, fidx p xs, w64 (fidx p xs + 1)))
      (fun (x : List α × Int) => (0 ≤ x.2 ∧ x.2 ≤ (x.1.length : Int) ∧ (x.1.length : Int) ≤ (x.1.length : Int)) ∧ ((Int.toNat x.2) + (Int.toNat ((x.1.length : Int) - x.2)) ≤ x.1.length) ∧
        (0 ≤ (0 : Int) ∧ (0 : Int) ≤ x.2 ∧ x.2 ≤ ((x.1.take (Int.toNat x.2) ++ (List.replicate (Int.toNat ((x.1.length : Int) - x.2)) z0 ++ x.1.drop ((Int.toNat x.2) + (Int.toNat ((x.1.length : Int) - x.2))))).length : Int)) ∧
        post (sub (x.1.take (Int.toNat x.2) ++ (List.replicate (Int.toNat ((x.1.length : Int) - x.2)) z0 ++ x.1.drop ((Int.toNat x.2) + (Int.toNat ((x.1.length : Int) - x.2))))) 0 x.2))) := by
  rcases fidx_cases p xs with ⟨i0, x0, hx0, e, hp0, hb0⟩ | ⟨e, hb⟩
  · rw [e]
    have hi0 := (List.getElem?_eq_some_iff.1 hx0).1
    refine Ite.f (beq_eq_false_iff_ne.2 (by omega)) ?_
    rw [w64_nat hi0 hm]
    have hfirst : (xs.take (i0 + 1)).filter (fun x => !p x) = xs.take i0 := by
      rw [take_succ hx0, List.filter_append]
      have h1 : (xs.take i0).filter (fun x => !p x) = xs.take i0 := by
        rw [List.filter_eq_self]
        intro y hy
        obtain ⟨j, hj⟩ := List.getElem?_of_mem hy
        have hlt : j < i0 := by have := (List.getElem?_eq_some_iff.1 hj).1; simp at this; omega
        rw [List.getElem?_take, if_pos hlt] at hj
        simp [hb0 j y hlt hj]
      rw [h1]; simp [List.filter_cons, hp0]
    refine Jn.mk (fun x : List α × Int => x.1.length = xs.length ∧ ∃ i : Nat, x.2 = (i : Int) ∧ i ≤ xs.length ∧ x.1.take i = xs.filter fun x => !p x)
      (Loop.mk (fun t : List α × Int × Int => t.1.length = xs.length ∧ ∃ i j : Nat, t.2.1 = (i : Int) ∧ t.2.2 = (j : Int) ∧ i < j ∧ j ≤ xs.length ∧ t.1.take i = (xs.take j).filter (fun x => !p x) ∧ ∀ q, j ≤ q → t.1[q]? = xs[q]?) (fun t => xs.length - t.2.2.toNat) ⟨rfl, i0, i0 + 1, rfl, rfl, by omega, by omega, hfirst.symm, fun _ _ => rfl⟩ ?_) ?_
    · rintro ⟨l, ti, tj⟩ ⟨hl, i, j, h1, h2, hij, hj, htk, hrest⟩
      simp only at hl h1 h2 htk hrest
      subst h1; subst h2
      refine Ite.mk (fun h => ?_) (fun h => ?_)
      · simp [hl] at h
        have hx : xs[j]? = some (xs[j]'h) := List.getElem?_eq_getElem h
        refine ⟨xs[j]'h, by rw [idx_nat, hrest j (Nat.le_refl _), hx], hT _ (List.getElem_mem h) ?_⟩
        have hli : l[i]? = some (l[i]'(by omega)) := List.getElem?_eq_getElem (by omega)
        refine Jn.mk (fun x : List α × Int => x.1.length = xs.length ∧ ∃ i' : Nat, x.2 = (i' : Int) ∧ i' < j + 1 ∧ x.1.take i' = (xs.take (j + 1)).filter (fun x => !p x) ∧ ∀ q, j + 1 ≤ q → x.1[q]? = xs[q]?) (Ite.mk (fun hd => ⟨l[i]'(by omega), idx_of rfl hli, ?_⟩) (fun hd => ?_)) ?_
        · refine ⟨by simp [hl], i + 1, by simp only; rw [w64_nat (by omega : i < xs.length) hm], by omega, ?_, fun q hq => ?_⟩
          · have : (i : Int).toNat = i := by omega
            simp only [this]
            rw [take_succ hx, List.filter_append, ← htk]
            have hs : (l.set i (xs[j]'h))[i]? = some (xs[j]'h) := by rw [List.getElem?_set_self (by omega)]
            rw [take_succ hs, List.take_set_of_le (Nat.le_refl _)]
            simp [List.filter_cons, hd]
          · have : (i : Int).toNat = i := by omega
            simp only [this]
            rw [List.getElem?_set_ne (by omega)]
            exact hrest q (by omega)
        · refine ⟨hl, i, rfl, by omega, ?_, fun q hq => hrest q (by omega)⟩
          simp only
          rw [take_succ hx, List.filter_append, ← htk]
          simp at hd
          simp [List.filter_cons, hd]
        · rintro ⟨l', ti'⟩ ⟨hl', i', h1', hij', htk', hrest'⟩
          simp only at hl' h1' htk' hrest' ⊢
          subst h1'
          refine ⟨⟨hl', i', j + 1, rfl, w64_nat (by omega : j < xs.length) hm, by omega, by omega, htk', hrest'⟩, ?_⟩
          rw [w64_nat (by omega : j < xs.length) hm]
          have e1 : ((j + 1 : Nat) : Int).toNat = j + 1 := by omega
          have e2 : ((j : Nat) : Int).toNat = j := by omega
          rw [e1, e2]; omega
      · simp [hl] at h
        have : j = xs.length := by omega
        subst this
        exact ⟨hl, i, rfl, by omega, by rw [List.take_length] at htk; exact htk⟩
    · rintro ⟨l, ti⟩ ⟨hl, i, h1, hi, htk⟩
      simp only at hl h1 htk ⊢
      subst h1
      have e1 : (i : Int).toNat = i := by omega
      have e2 : ((l.length : Int) - (i : Int)).toNat = l.length - i := by omega
      rw [e1, e2]
      refine ⟨⟨by omega, by omega, by omega⟩, by omega, ⟨by omega, by omega, by simp; omega⟩, ?_⟩
      rw [sub0, List.take_append_of_le_length (by simp; omega), List.take_take, Nat.min_self, htk]
      exact hp
  · rw [e]
    refine Ite.t (by decide) ?_
    have : xs.filter (fun x => !p x) = xs := by
      rw [List.filter_eq_self]; intro x hx; simp [hb x hx]
    rw [this] at hp; exact hp
end Go.Taq
