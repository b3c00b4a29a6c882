/- The mathematics, several parts in one text. -/
import Derived.Test.YthbeknnkokooiaaPI
import Derived.Test.YthbeknnkokooiaaLibZR
import Derived.Test.YthbeknnkokooiaaPC
/- The mathematics of the puzzle, part J: the table of distances. -/
set_option linter.unusedVariables false
set_option linter.unusedSimpArgs false
namespace Go.Taq
open Go
/-- the number of layouts -/
def nL (n k : Nat) : Nat := n * ch (n - 1) (k - 1)
/-- the layouts from which one shift leads to one -/
def preT (f : ApiFloor) (r : List Int) (n k : Nat) (i : Nat) : List Nat := (btw f r (unrank n k i) false).map fun s => rank n k (doL (unrank n k i) s.To.toNat s.From.toNat)
def srcT (n k : Nat) (goal : Int) (i : Nat) : Bool := decide ((unrank n k i).Target = goal)
/-- a shift that may have led to a layout -/
theorem back_ok {f : ApiFloor} {r : List Int} {l : ApiLayout} {full : Bool} {s : ApiShift} (h : s ∈ btw f r l full) : ∃ a b : Nat, s = { From := (a : Int), To := (b : Int) } ∧ l.Full[a]? = some full ∧ l.Full[b]? = some (!full) ∧ getsB f (r.getD a 0) (r.getD b 0) = true := by
  obtain ⟨a, b, _, _, rfl, h1⟩ := mem_btw.1 h
  unfold btP at h1
  simp only [Bool.and_eq_true, decide_eq_true_eq] at h1
  exact ⟨a, b, rfl, h1.1, h1.2.1, h1.2.2⟩
section
variable {f : ApiFloor} {r : List Int} {n k : Nat} (h1 : 1 ≤ k) (h2 : k ≤ n) (h3 : n ≤ 12)
include h1 h2 h3
omit h3 in
theorem preT_lt : ∀ j, j < nL n k → ∀ i, i ∈ preT f r n k j → i < nL n k := fun j hj i hi => by
  unfold preT at hi
  obtain ⟨s, hs, rfl⟩ := List.mem_map.1 hi
  obtain ⟨a, b, rfl, ha, hb, _⟩ := back_ok hs
  exact ((unrank_ok h1 h2 hj).1.doL hb ha).rank_lt
omit h1 h2 h3 in
theorem btw_len {l : ApiLayout} {full : Bool} (hl : l.Full.length ≤ 12) : (btw f r l full).length ≤ 144 := by
  unfold btw
  have key : ∀ m, ((List.range m).flatMap fun i => btR f r l full i l.Full.length).length ≤ m * 12 := by
    intro m
    induction m with
    | zero => simp
    | succ m ih =>
      rw [List.range_succ, List.flatMap_append, List.length_append]
      have := btR_len (f := f) (r := r) (l := l) (full := full) (i := m) (m := l.Full.length)
      simp only [List.flatMap_cons, List.flatMap_nil, List.append_nil]
      omega
  have := key l.Full.length
  omega
end
end Go.Taq

/- The mathematics of the puzzle, part K: the reference's table. -/
set_option linter.unusedVariables false
set_option linter.unusedSimpArgs false
namespace Go.Taq
open Go
section
variable {n k : Nat} (h1 : 1 ≤ k) (h2 : k ≤ n) (h3 : n ≤ 12)
include h1 h2 h3
end
end Go.Taq

/- The mathematics of the puzzle, part L: what the table says of layouts; the distance of one. -/
set_option linter.unusedVariables false
set_option linter.unusedSimpArgs false
namespace Go.Taq
open Go
/-- a shift, done -/
def doS (l : ApiLayout) (s : ApiShift) : ApiLayout := doL l s.From.toNat s.To.toNat
/-- a table that is right -/
structure Dst (f : ApiFloor) (r : List Int) (n k : Nat) (goal : Int) (t : List Int) : Prop where
  h1 : 1 ≤ k
  h2 : k ≤ n
  h3 : n ≤ 12
  hr : r.length = n
  ok : TOk (nL n k) (preT f r n k) (srcT n k goal) t
/-- the distance of a layout -/
def dT (n k : Nat) (t : List Int) (l : ApiLayout) : Int := gT t (rank n k l)
theorem LOk.doS {f : ApiFloor} {r : List Int} {n k : Nat} {l : ApiLayout} (h : LOk n k l) {s : ApiShift} (hs : s ∈ btw f r l true) : LOk n k (doS l s) := by
  obtain ⟨a, b, rfl, ha, hb, _⟩ := back_ok hs
  exact h.doL ha hb
section
variable {f : ApiFloor} {r : List Int} {n k : Nat} {goal : Int} {t : List Int}
theorem btw_intro {l : ApiLayout} {full : Bool} {a b : Nat} (ha : l.Full[a]? = some full) (hb : l.Full[b]? = some (!full)) (hg : getsB f (r.getD a 0) (r.getD b 0) = true) : ({ From := (a : Int), To := (b : Int) } : ApiShift) ∈ btw f r l full :=
  mem_btw.2 ⟨a, b, (List.getElem?_eq_some_iff.1 ha).1, (List.getElem?_eq_some_iff.1 hb).1, rfl, by unfold btP; rw [ha, hb, hg]; simp⟩
theorem doL_get {l : ApiLayout} {a b : Nat} (ha : l.Full[a]? = some true) (hb : l.Full[b]? = some false) : (doL l a b).Full[a]? = some false ∧ (doL l a b).Full[b]? = some true := by
  have hab : a ≠ b := by rintro rfl; rw [ha] at hb; simp at hb
  have hal := (List.getElem?_eq_some_iff.1 ha).1
  have hbl := (List.getElem?_eq_some_iff.1 hb).1
  refine ⟨?_, ?_⟩
  · show ((l.Full.set a false).set b true)[a]? = _
    rw [set2_get, if_neg (fun h => hab h.1.symm), if_pos ⟨rfl, hal⟩]
  · show ((l.Full.set a false).set b true)[b]? = _
    rw [set2_get, if_pos ⟨rfl, hbl⟩]
theorem Dst.pre (h : Dst f r n k goal t) {l : ApiLayout} (hl : LOk n k l) {s : ApiShift} (hs : s ∈ btw f r l true) : rank n k l ∈ preT f r n k (rank n k (doS l s)) := by
  have hl' := hl.doS hs
  obtain ⟨a, b, rfl, ha, hb, hg⟩ := back_ok hs
  obtain ⟨e1, e2⟩ := doL_get ha hb
  unfold preT
  rw [hl'.unrank]
  refine List.mem_map.2 ⟨{ From := (a : Int), To := (b : Int) }, btw_intro (full := false) e1 e2 hg, ?_⟩
  show rank n k (doL (doL l a b) b a) = _
  rw [doL_back hl ha hb]
theorem Dst.rl (h : Dst f r n k goal t) {l : ApiLayout} (hl : LOk n k l) : rank n k l < nL n k := hl.rank_lt
theorem Dst.neg (h : Dst f r n k goal t) {l : ApiLayout} (hl : LOk n k l) : dT n k t l = -1 ∨ ∃ d : Nat, dT n k t l = (d : Int) := by
  rcases h.ok.2.1 _ (h.rl hl) with ⟨a, _⟩ | ⟨d, a, _⟩
  · exact .inl a
  · exact .inr ⟨d, a⟩
theorem Dst.zero (h : Dst f r n k goal t) {l : ApiLayout} (hl : LOk n k l) : dT n k t l = 0 ↔ l.Target = goal := by
  have hs : srcT n k goal (rank n k l) = true ↔ l.Target = goal := by unfold srcT; rw [hl.unrank]; simp
  unfold dT
  rcases h.ok.2.1 _ (h.rl hl) with ⟨a, b⟩ | ⟨d, a, b, c⟩
  · rw [a]
    refine ⟨fun h => by omega, fun e => absurd (.zero (h.rl hl) (hs.2 e)) (b 0)⟩
  · rw [a]
    constructor
    · intro e
      have : d = 0 := by omega
      subst this
      cases b with
      | zero _ h => exact hs.1 h
    · intro e
      have := c 0 (.zero (h.rl hl) (hs.2 e))
      omega
end
section
variable {f : ApiFloor} {r : List Int} {n k : Nat} {l : ApiLayout}
variable (hl : LOk n k l) (hr : r.length = n) (hn : n ≤ 24) (hf : RF f) (ha : Asc r)
include hl hr hn hf ha
end
end Go.Taq

/- The mathematics, part QA: loops whose state has a counter and more; ranges over lists; lists of places. -/
set_option linter.unusedVariables false
set_option linter.unusedSimpArgs false
namespace Go.Taq
open Go

end Go.Taq
