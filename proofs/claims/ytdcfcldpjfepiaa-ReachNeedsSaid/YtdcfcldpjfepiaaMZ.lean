/- The mathematics, several parts in one text. -/
import Derived.Test.YtdcfcldpjfepiaaAE
import Derived.Test.YtdcfcldpjfepiaaNC
import Derived.Test.YtdcfcldpjfepiaaVc
import Derived.IntWalk
import Derived.Test.YtdcfcldpjfepiaaMS
/- The mathematics, part AF: right states and right sites by the program's own functions; the bounds of the statements of chapter 16. -/
set_option linter.unusedVariables false
set_option linter.unusedSimpArgs false
namespace Go.Taq
open Go

section

/-! ## a bare site is right -/
/-! ## bounds -/
end
end Go.Taq

/- The mathematics, part AR: slices.Repeat of one number. -/
set_option linter.unusedVariables false
set_option linter.unusedSimpArgs false
namespace Go.Taq
open Go

end Go.Taq

/- The mathematics, part AG: the examples of chapter 16; ArenaTells. -/
set_option linter.unusedVariables false
set_option linter.unusedSimpArgs false
namespace Go.Taq
open Go

end Go.Taq

/- The mathematics, part Z: distances by breadth first search (floor.spread). -/
set_option linter.unusedVariables false
namespace Go.Taq
open Go
def gI (l : List Int) (c : Int) : Int := l.getD c.toNat (-1)
def gB (l : List Bool) (c : Int) : Bool := l.getD c.toNat false
theorem gI_set {l : List Int} {c c' v : Int} (h0 : 0 ≤ c) (h1 : c < l.length) (h2 : 0 ≤ c') : gI (l.set c.toNat v) c' = if c = c' then v else gI l c' := by
  unfold gI
  rw [List.getD_eq_getElem?_getD, List.getD_eq_getElem?_getD, List.getElem?_set]
  by_cases e : c = c'
  · subst e; rw [if_pos rfl, if_pos (by omega), if_pos rfl]; rfl
  · rw [if_neg (by omega), if_neg e]
theorem gB_set {l : List Bool} {c c' : Int} {v : Bool} (h0 : 0 ≤ c) (h1 : c < l.length) (h2 : 0 ≤ c') : gB (l.set c.toNat v) c' = if c = c' then v else gB l c' := by
  unfold gB
  rw [List.getD_eq_getElem?_getD, List.getD_eq_getElem?_getD, List.getElem?_set]
  by_cases e : c = c'
  · subst e; rw [if_pos rfl, if_pos (by omega), if_pos rfl]; rfl
  · rw [if_neg (by omega), if_neg e]
theorem count_set : ∀ {l : List Bool} {i : Nat}, l[i]? = some true → (l.set i false).count true + 1 = l.count true
  | [], i, h => by simp at h
  | b :: l, 0, h => by simp at h; subst h; simp
  | b :: l, i + 1, h => by
    have ih := count_set (l := l) (i := i) (by simpa using h)
    simp only [List.set_cons_succ, List.count_cons]
    omega
theorem count_gB {l : List Bool} {c : Int} (h0 : 0 ≤ c) (h1 : c < l.length) (h : gB l c = true) : (l.set c.toNat false).count true + 1 = l.count true := by
  refine count_set ?_
  unfold gB at h
  rw [List.getD_eq_getElem?_getD, List.getElem?_eq_getElem (by omega)] at h
  rw [List.getElem?_eq_getElem (by omega)]
  simpa using h

/-- one may be on a cell -/
def okc (f : ApiFloor) (l : List Int) (c : Int) : Prop := isC f c = true ∧ kd f c ≠ 0 ∧ c ∉ l
/-- so many moves lead to a cell -/
def Pth (f : ApiFloor) (mv : Int → Int → Int × Bool) (src l : List Int) : Nat → Int → Prop
  | 0, c => c ∈ src ∧ okc f l c
  | k + 1, c => ∃ p d, Pth f mv src l k p ∧ 0 ≤ d ∧ d < 6 ∧ mv p d = (c, true) ∧ okc f l c
theorem Pth.ok {f : ApiFloor} {mv : Int → Int → Int × Bool} {src l : List Int} : ∀ {k : Nat} {c : Int}, Pth f mv src l k c → okc f l c
  | 0, c, h => h.2
  | k + 1, c, ⟨_, _, _, _, _, _, h⟩ => h
/-- the search's state: what is reached has its distance; the rest of what is open is open -/
structure Bfs (f : ApiFloor) (mv : Int → Int → Int × Bool) (src l : List Int) (out queue : List Int) (opn : List Bool) (K : Nat) : Prop where
  ol : out.length = f.Kind.length
  pl : opn.length = f.Kind.length
  op : ∀ c, isC f c = true → (gB opn c = true ↔ okc f l c ∧ gI out c = -1)
  pt : ∀ c, isC f c = true → gI out c = -1 ∨ ∃ k : Nat, gI out c = k ∧ Pth f mv src l k c ∧ k + 1 ≤ K
  qu : ∀ q, q ∈ queue → isC f q = true ∧ 0 ≤ gI out q
  le : ∀ c q, isC f c = true → q ∈ queue → gI out c ≤ gI out q + 1
  so : queue.Pairwise (fun p q => gI out p ≤ gI out q)
  ct : K + opn.count true ≤ f.Kind.length
section
variable {f : ApiFloor} {mv : Int → Int → Int × Bool} {src l out queue : List Int} {opn : List Bool} {K : Nat}
theorem Bfs.put (hb : Bfs f mv src l out queue opn K) {c : Int} {k : Nat} (hc : gB opn c = true) (hcc : isC f c = true) (hP : okc f l c → Pth f mv src l k c) (hk : k ≤ K) (hle : ∀ q, q ∈ queue → gI out q ≤ k ∧ (k : Int) ≤ gI out q + 1) (hall : ∀ q, isC f q = true → gI out q ≤ k + 1) :
    Bfs f mv src l (out.set c.toNat k) (queue ++ [c]) (opn.set c.toNat false) (K + 1) := by
  have hc' := isC_iff.1 hcc
  have c0 := hc'.1
  have c1 : c < out.length := by rw [hb.ol]; exact hc'.2
  have c2 : c < opn.length := by rw [hb.pl]; exact hc'.2
  obtain ⟨ho, hn1⟩ := (hb.op c hcc).1 hc
  have gq : ∀ q, q ∈ queue → gI (out.set c.toNat k) q = gI out q := fun q hq => by
    obtain ⟨q1, q2⟩ := hb.qu q hq
    rw [gI_set c0 c1 (isC_iff.1 q1).1, if_neg]
    rintro rfl; omega
  refine ⟨by simp [hb.ol], by simp [hb.pl], fun q hq => ?_, fun q hq => ?_, fun q hq => ?_, fun q r hq hr => ?_, ?_, ?_⟩
  · have q0 := (isC_iff.1 hq).1
    rw [gB_set c0 c2 q0, gI_set c0 c1 q0]
    by_cases e : c = q
    · rw [if_pos e, if_pos e]; constructor
      · intro h; cases h
      · rintro ⟨_, h⟩; omega
    · rw [if_neg e, if_neg e]; exact hb.op q hq
  · have q0 := (isC_iff.1 hq).1
    rw [gI_set c0 c1 q0]
    by_cases e : c = q
    · subst e; rw [if_pos rfl]; exact .inr ⟨k, rfl, hP ho, by omega⟩
    · rw [if_neg e]
      rcases hb.pt q hq with h | ⟨j, h1, h2, h3⟩
      · exact .inl h
      · exact .inr ⟨j, h1, h2, by omega⟩
  · rcases List.mem_append.1 hq with hq | hq
    · rw [gq q hq]; exact hb.qu q hq
    · simp at hq; subst hq
      rw [gI_set c0 c1 c0, if_pos rfl]; exact ⟨hcc, by omega⟩
  · have q0 := (isC_iff.1 hq).1
    rw [gI_set c0 c1 q0]
    rcases List.mem_append.1 hr with hr | hr
    · rw [gq r hr]
      split
      · exact (hle r hr).2
      · exact hb.le q r hq hr
    · simp at hr; subst hr
      rw [gI_set c0 c1 c0, if_pos rfl]
      split
      · omega
      · exact hall q hq
  · rw [List.pairwise_append]
    refine ⟨?_, by simp, fun a ha b hb' => ?_⟩
    · refine hb.so.imp_of_mem (fun {a b} ha hb' h => ?_)
      rw [gq a ha, gq b hb']; exact h
    · simp at hb'; subst hb'
      rw [gq a ha, gI_set c0 c1 c0, if_pos rfl]; exact (hle a ha).1
  · have := count_gB c0 c2 hc
    have := hb.ct
    omega

end
end Go.Taq
