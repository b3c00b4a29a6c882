/- The mathematics, several parts in one text. -/
import Derived.Test.YtdcfcldpjfepiaaBD
import Derived.Test.YtdcfcldpjfepiaaMZ
/- The mathematics, part BE: Way; BankGrows but for the examples. -/
set_option linter.unusedVariables false
set_option linter.unusedSimpArgs false
namespace Go.Taq
open Go

section

end
end Go.Taq

/- The mathematics, part BF: Check; the examples of chapter 21; BankGrows. -/
set_option linter.unusedVariables false
set_option linter.unusedSimpArgs false
namespace Go.Taq
open Go

section

end
end Go.Taq

/- The mathematics, part BG: BankFinds. -/
set_option linter.unusedVariables false
set_option linter.unusedSimpArgs false
namespace Go.Taq
open Go

section

end
end Go.Taq

/- The mathematics, part GA: moves with prices, walks to a charger, the least fuel (chapter 33). -/
set_option linter.unusedVariables false
set_option linter.unusedSimpArgs false
namespace Go.Taq
open Go

/-- the fuel of a cell in a table -/
def fu (f : List Int) (c : Nat) : Int := f.getD c (-1)
theorem fu_idx {f : List Int} {c : Nat} (h : c < f.length) : idx f (c : Int) = some (fu f c) := by
  have hx := List.getElem?_eq_getElem h
  rw [idx_of rfl hx]; unfold fu; rw [List.getD_eq_getElem?_getD, hx]; rfl
theorem fu_get {f : List Int} {c : Nat} (h : c < f.length) : f[c]? = some (fu f c) := by
  have hx := List.getElem?_eq_getElem h
  rw [hx]; unfold fu; rw [List.getD_eq_getElem?_getD, hx]; rfl
theorem fu_set {f : List Int} {c d : Nat} {v : Int} (h : c < f.length) : fu (f.set c v) d = if d = c then v else fu f d := by
  unfold fu
  rw [List.getD_eq_getElem?_getD, List.getElem?_set, List.getD_eq_getElem?_getD]
  by_cases e : c = d
  · subst e; simp [h]
  · rw [if_neg e, if_neg (fun h => e h.symm)]
/-- a graph of moves -/
structure GOk (n : Nat) (P : Int) (g : ReachGraph) : Prop where
  n4 : n ≤ 1000
  p0 : 1 ≤ P ∧ P ≤ 10000
  lo : g.out.length = n
  li : g.in_.length = n
  lh : g.home.length = n
  to_ : ∀ (c : Nat) l x, g.out[c]? = some l → x ∈ l → (0 ≤ x.to_ ∧ x.to_ < n) ∧ 1 ≤ x.price ∧ x.price ≤ P
  inn : ∀ (y : Nat) l (c : Int), g.in_[y]? = some l → c ∈ l → 0 ≤ c ∧ c < n
  all : ∀ (c : Nat) l x, g.out[c]? = some l → x ∈ l → ∀ m, g.in_[x.to_.toNat]? = some m → (c : Int) ∈ m
  lol : ∀ (c : Nat) l, g.out[c]? = some l → l.length ≤ 6
  lil : ∀ (y : Nat) l, g.in_[y]? = some l → l.length ≤ 30000
/-- walks to a charger: cell, price; nobody enters the cell b -/
inductive Wg (g : ReachGraph) (b : Int) : Nat → Nat → Prop where
  | home {c : Nat} (h : g.home[c]? = some true) : Wg g b c 0
  | step {c : Nat} {l : List ReachStep} {x : ReachStep} {m : Nat} (h : g.home[c]? = some false) (hl : g.out[c]? = some l) (hx : x ∈ l) (hb : x.to_ ≠ b) (hm : Wg g b x.to_.toNat m) : Wg g b c (m + x.price.toNat)
/-- the table of the least fuels -/
structure FOk (g : ReachGraph) (b : Int) (n : Nat) (f : List Int) : Prop where
  len : f.length = n
  lo : ∀ c, c < n → -1 ≤ fu f c
  sound : ∀ c, c < n → 0 ≤ fu f c → Wg g b c (fu f c).toNat
  least : ∀ c, c < n → ∀ m, Wg g b c m → 0 ≤ fu f c ∧ fu f c ≤ m
theorem FOk.uniq {g : ReachGraph} {b : Int} {n : Nat} {f f' : List Int} (h : FOk g b n f) (h' : FOk g b n f') {c : Nat} (hc : c < n) : fu f c = fu f' c := by
  have l1 := h.lo c hc; have l2 := h'.lo c hc
  by_cases h0 : 0 ≤ fu f c
  · have g1 := h'.least c hc _ (h.sound c hc h0)
    have g2 := h.least c hc _ (h'.sound c hc g1.1)
    omega
  · by_cases h1 : 0 ≤ fu f' c
    · have g2 := h.least c hc _ (h'.sound c hc h1)
      omega
    · omega
theorem Wg.lt {g : ReachGraph} {b : Int} {c m : Nat} (h : Wg g b c m) : c < g.home.length := by
  cases h with
  | home h => exact (List.getElem?_eq_some_iff.1 h).1
  | step h => exact (List.getElem?_eq_some_iff.1 h).1
/-- the best move: least fuel, and the cell to which it leads -/
structure Best (f : List Int) (l : List ReachStep) (b : Int) (r : Int × Int) : Prop where
  is : r = (-1, -1) ∨ ∃ x, x ∈ l ∧ x.to_ ≠ b ∧ 0 ≤ fu f x.to_.toNat ∧ r = (fu f x.to_.toNat + x.price, x.to_)
  le : ∀ x, x ∈ l → x.to_ ≠ b → 0 ≤ fu f x.to_.toNat → 0 ≤ r.1 ∧ r.1 ≤ fu f x.to_.toNat + x.price
section
variable {g : ReachGraph} {n : Nat} {P : Int}
theorem S_reach_best (h : GOk n P g) {f : List Int} (hl : f.length = n) (hb : ∀ c, c < n → fu f c ≤ 5000000000) {c : Nat} (hc : c < n) {but : Int} {post : Int × Int → Prop} (hp : ∀ l r, g.out[c]? = some l → Best f l but r → post r) : V_reach_graph_best g f (c : Int) but post := by
  have hx := List.getElem?_eq_getElem (show c < g.out.length by rw [h.lo]; exact hc)
  generalize hlv : g.out[c]'_ = l at hx
  have hll := h.lol c l hx
  have p0 := h.p0
  unfold V_reach_graph_best
  refine ⟨l, idx_of rfl hx, Jn.mk (fun r => Best f l but r) (V_loopc (xs := l) (by unfold maxLen; omega) (fun t : Int × Int × Int => t.2.2) (fun i t => Best f (l.take i) but (t.1, t.2.1)) rfl ⟨.inl rfl, fun x hx => by simp at hx⟩ (fun i x t hxi ht hI => ?_) (fun t hI => by rw [List.take_length] at hI; exact hI)) (fun r hr => hp l r hx hr)⟩
  obtain ⟨⟨t0, t1⟩, hp1, hp2⟩ := h.to_ c l x hx (List.mem_of_getElem? hxi)
  obtain ⟨k, hk⟩ := Int.eq_ofNat_of_zero_le t0
  have hkn : k < n := by omega
  have hfk := fu_idx (f := f) (c := k) (by omega)
  have hkt : x.to_.toNat = k := by omega
  have hbk := hb k hkn
  obtain ⟨hI1, hI2⟩ := hI
  refine ⟨fu f k, by rw [hk]; exact hfk, ?_⟩
  have hw : 0 ≤ fu f k → w64 (fu f k + x.price) = fu f k + x.price := fun h0 => w64_eq (by omega) (by omega)
  refine Jn.mk (fun b => b = true ↔ (x.to_ ≠ but ∧ 0 ≤ fu f k ∧ (t.1 < 0 ∨ fu f k + x.price < t.1))) (Ite.mk (fun h1 => Ite.mk (fun h2 => Ite.mk (fun h3 => ?_) (fun h3 => ?_)) (fun h2 => ?_)) (fun h1 => ?_)) (fun b hbb => ?_)
  · have h1' : x.to_ ≠ but := by simpa using h1
    have h2' := of_decide_eq_true h2
    have h3' := of_decide_eq_true h3
    exact ⟨fun _ => ⟨h1', h2', .inl h3'⟩, fun _ => rfl⟩
  · have h1' : x.to_ ≠ but := by simpa using h1
    have h2' : 0 ≤ fu f k := of_decide_eq_true h2
    have h3' : ¬ t.1 < 0 := of_decide_eq_false h3
    show decide (w64 (fu f k + x.price) < t.1) = true ↔ _
    rw [hw h2', decide_eq_true_iff]
    exact ⟨fun h => ⟨h1', h2', .inr h⟩, fun h => h.2.2.resolve_left h3'⟩
  · have h2' : ¬ 0 ≤ fu f k := of_decide_eq_false h2
    exact ⟨fun h => (by cases h), fun h => absurd h.2.1 h2'⟩
  · have h1' : x.to_ = but := by simpa using h1
    exact ⟨fun h => (by cases h), fun h => absurd h1' h.1⟩
  refine Jn.mk (fun r => Best f (l.take (i + 1)) but r) (Ite.mk (fun h1 => ?_) (fun h1 => ?_)) (fun r hr => ⟨by rw [ht], hr⟩)
  · obtain ⟨g1, g2, g3⟩ := hbb.1 h1
    rw [hw g2]
    refine ⟨.inr ⟨x, by rw [take_succ hxi]; simp, g1, by rw [hkt]; exact g2, by rw [hkt]⟩, fun y hy hyb hy0 => ?_⟩
    rw [take_succ hxi] at hy
    rcases List.mem_append.1 hy with hy | hy
    · have := hI2 y hy hyb hy0
      refine ⟨by show 0 ≤ fu f k + x.price; omega, ?_⟩
      show fu f k + x.price ≤ _
      have : 0 ≤ t.1 ∧ t.1 ≤ fu f y.to_.toNat + y.price := this
      omega
    · simp at hy; subst hy
      rw [hkt]; exact ⟨by show 0 ≤ fu f k + y.price; omega, Int.le_refl _⟩
  · have hno : ¬ (x.to_ ≠ but ∧ 0 ≤ fu f k ∧ (t.1 < 0 ∨ fu f k + x.price < t.1)) := fun h => by rw [hbb.2 h] at h1; cases h1
    refine ⟨?_, fun y hy hyb hy0 => ?_⟩
    · rcases hI1 with e | ⟨y, hy, e⟩
      · exact .inl e
      · exact .inr ⟨y, by rw [take_succ hxi]; exact List.mem_append_left _ hy, e⟩
    · rw [take_succ hxi] at hy
      rcases List.mem_append.1 hy with hy | hy
      · exact hI2 y hy hyb hy0
      · simp at hy; subst hy
        rw [hkt] at hy0 ⊢
        show 0 ≤ t.1 ∧ t.1 ≤ _
        omega
end
/-! ## sums and counts over a table -/
theorem sum_set {α : Type} (w : α → Nat) : ∀ {l : List α} {i : Nat} {x y : α}, l[i]? = some x → ((l.set i y).map w).sum + w x = (l.map w).sum + w y
  | a :: l, 0, x, y, h => by simp at h; subst h; simp; omega
  | a :: l, i + 1, x, y, h => by
    simp at h
    have := sum_set w (y := y) h
    simp only [List.set_cons_succ, List.map_cons, List.sum_cons]; omega
theorem cnt_set {α : Type} (p : α → Bool) {l : List α} {i : Nat} {x y : α} (h : l[i]? = some x) : (l.set i y).countP p + (if p x = true then 1 else 0) = l.countP p + (if p y = true then 1 else 0) := by
  have e : ∀ l : List α, l.countP p = (l.map fun a => if p a = true then 1 else 0).sum := fun l => by
    induction l with
    | nil => rfl
    | cons a l ih => rw [List.countP_cons, ih, List.map_cons, List.sum_cons]; omega
  rw [e, e]; exact sum_set _ h
end Go.Taq
