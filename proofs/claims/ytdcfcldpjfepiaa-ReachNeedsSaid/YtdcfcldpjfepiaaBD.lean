/- The mathematics, several parts in one text. -/
import Derived.Test.YtdcfcldpjfepiaaMZ
/- The mathematics, part BA: floor.Back, floor.Path. -/
set_option linter.unusedVariables false
set_option linter.unusedSimpArgs false
namespace Go.Taq
open Go

def opp (d : Int) : Int := if d = 0 then 2 else if d = 1 then 3 else if d = 2 then 0 else if d = 3 then 1 else if d = 4 then 5 else if d = 5 then 4 else -1
/-- the cell from which one gets to a cell in a direction -/
def bk (f : ApiFloor) (c d : Int) : Int × Bool :=
  if nbr f c (opp d) < 0 then (0, false) else if (nx f (nbr f c (opp d)) d).2 = false then (0, false) else (nbr f c (opp d), true)
section
variable {f : ApiFloor}
/-- so many moves lead from a cell to another one -/
def PB (f : ApiFloor) (b : Int) (l : List Int) (k : Nat) (c : Int) : Prop := Pth f (bk f) [b] l k c
/-- exactly so many moves lead to the goal -/
def Dm (f : ApiFloor) (b : Int) (l : List Int) (m : Nat) (c : Int) : Prop := PB f b l m c ∧ ∀ i, PB f b l i c → m ≤ i
/-- a way -/
structure WayL (f : ApiFloor) (l : List Int) (a b : Int) (k : Nat) (p : List Int) : Prop where
  len : p.length = k + 1
  hd : p[0]? = some a
  lst : p[k]? = some b
  st : ∀ j, j < k → ∃ (x y d : Int), p[j]? = some x ∧ p[j + 1]? = some y ∧ 0 ≤ d ∧ d < 6 ∧ nx f x d = (y, true)
  ok : ∀ x, x ∈ p → okc f l x
  pb : ∀ (j : Nat) x, p[j]? = some x → PB f b l (k - j) x
  kb : k < f.Kind.length
  ft : ∀ j, j < k → ∃ (x y d : Int), p[j]? = some x ∧ p[j + 1]? = some y ∧ 0 ≤ d ∧ d < 6 ∧ nx f x d = (y, true) ∧ Dm f b l (k - (j + 1)) y ∧ ∀ d', 0 ≤ d' → d' < d → ¬ ((nx f x d').2 = true ∧ Dm f b l (k - (j + 1)) (nx f x d').1)
theorem PB.mono {b : Int} {l l' : List Int} (h : ∀ x, x ∈ l' → x ∈ l) : ∀ {k : Nat} {c : Int}, PB f b l k c → PB f b l' k c
  | 0, c, ⟨h1, h2, h3, h4⟩ => ⟨h1, h2, h3, fun hm => h4 (h _ hm)⟩
  | k + 1, c, ⟨p, d, h0, h1, h2, h3, h4, h5, h6⟩ => ⟨p, d, PB.mono h h0, h1, h2, h3, h4, h5, fun hm => h6 (h _ hm)⟩
theorem PB.congr {b : Int} {l l' : List Int} (h : ∀ c, c ∈ l ↔ c ∈ l') {k : Nat} {c : Int} : PB f b l k c ↔ PB f b l' k c := ⟨fun g => g.mono fun x hx => (h x).2 hx, fun g => g.mono fun x hx => (h x).1 hx⟩
theorem Dm.congr {b : Int} {l l' : List Int} (h : ∀ c, c ∈ l ↔ c ∈ l') {k : Nat} {c : Int} : Dm f b l k c ↔ Dm f b l' k c := by
  unfold Dm; rw [PB.congr h]
  exact ⟨fun g => ⟨g.1, fun i hi => g.2 i ((PB.congr h).2 hi)⟩, fun g => ⟨g.1, fun i hi => g.2 i ((PB.congr h).1 hi)⟩⟩
/-- there is but one way -/
theorem WayL.uniq {a b : Int} {l l' : List Int} {k : Nat} {p p' : List Int} (h : WayL f l a b k p) (h' : WayL f l' a b k p') (hm : ∀ c, c ∈ l ↔ c ∈ l') : p = p' := by
  have key : ∀ j, j ≤ k → p[j]? = p'[j]? := by
    intro j
    induction j with
    | zero => intro _; rw [h.hd, h'.hd]
    | succ j ih =>
      intro hj
      obtain ⟨x, y, d, g1, g2, g3, g4, g5, g6, g7⟩ := h.ft j (by omega)
      obtain ⟨x', y', d', q1, q2, q3, q4, q5, q6, q7⟩ := h'.ft j (by omega)
      have e := ih (by omega)
      rw [g1, q1] at e
      cases e
      have hd : d = d' := by
        rcases Int.lt_trichotomy d d' with hlt | he | hlt
        · exact absurd ⟨by rw [g5], by rw [g5]; exact (Dm.congr hm).1 g6⟩ (q7 d g3 hlt)
        · exact he
        · exact absurd ⟨by rw [q5], by rw [q5]; exact (Dm.congr hm).2 q6⟩ (g7 d' q3 hlt)
      subst hd
      rw [g5] at q5
      rw [g2, q2]
      exact congrArg some (congrArg Prod.fst q5)
  apply List.ext_getElem?
  intro j
  by_cases hj : j ≤ k
  · exact key j hj
  · rw [List.getElem?_eq_none (by rw [h.len]; omega), List.getElem?_eq_none (by rw [h'.len]; omega)]
end
end Go.Taq

/- The mathematics, part BB: ways home (bank.Way). -/
set_option linter.unusedVariables false
set_option linter.unusedSimpArgs false
namespace Go.Taq
open Go

end Go.Taq

/- The mathematics, part BC: region.Of, right homes, who is home, the bounds of the statements of chapter 21. -/
set_option linter.unusedVariables false
set_option linter.unusedSimpArgs false
namespace Go.Taq
open Go

section
variable {α : Type} [DecidableEq α]
end
end Go.Taq

/- The mathematics, part BD: all home, Safe, Check. -/
set_option linter.unusedVariables false
set_option linter.unusedSimpArgs false
namespace Go.Taq
open Go

theorem nodup_len : ∀ (n : Nat) (o : List Int), o.Nodup → (∀ x, x ∈ o → 0 ≤ x ∧ x < n) → o.length ≤ n
  | 0, o, _, h => by
    cases o with
    | nil => simp
    | cons x r => have := h x (by simp); omega
  | n + 1, o, hn, h => by
    by_cases hm : (n : Int) ∈ o
    · have h1 := nodup_len n (o.erase n) (hn.erase _) (fun x hx => by
        have h2 := (hn.mem_erase_iff).1 hx
        have := h x h2.2
        have := h2.1
        omega)
      rw [List.length_erase_of_mem hm] at h1
      omega
    · have := nodup_len n o hn (fun x hx => by
        have := h x hx
        have : x ≠ n := fun e => hm (e ▸ hx)
        omega)
      omega
section

end
end Go.Taq
