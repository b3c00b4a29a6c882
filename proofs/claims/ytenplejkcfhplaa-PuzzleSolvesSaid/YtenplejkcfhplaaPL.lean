/- The mathematics of the puzzle, part L: what the table says of layouts; the distance of one. -/
import Derived.Test.YtenplejkcfhplaaPK
set_option linter.unusedVariables false
set_option linter.unusedSimpArgs false
namespace Go.Taq
open Go
/-- a shift, done -/
def doS (l : ApiLayout) (s : ApiShift) : ApiLayout := doL l s.From.toNat s.To.toNat
/-- a table that is right -/
structure Dst (f : ApiFloor) (r : List Int) (n k : Nat) (goal : Int) (t : List Int) : Prop where
  h1 : 1 ≤ k
  h2 : k ≤ n
  h3 : n ≤ 12
  hr : r.length = n
  ok : TOk (nL n k) (preT f r n k) (srcT n k goal) t
/-- the distance of a layout -/
def dT (n k : Nat) (t : List Int) (l : ApiLayout) : Int := gT t (rank n k l)
theorem LOk.doS {f : ApiFloor} {r : List Int} {n k : Nat} {l : ApiLayout} (h : LOk n k l) {s : ApiShift} (hs : s ∈ btw f r l true) : LOk n k (doS l s) := by
  obtain ⟨a, b, rfl, ha, hb, _⟩ := back_ok hs
  exact h.doL ha hb
section
variable {f : ApiFloor} {r : List Int} {n k : Nat} {goal : Int} {t : List Int}
theorem btw_intro {l : ApiLayout} {full : Bool} {a b : Nat} (ha : l.Full[a]? = some full) (hb : l.Full[b]? = some (!full)) (hg : getsB f (r.getD a 0) (r.getD b 0) = true) : ({ From := (a : Int), To := (b : Int) } : ApiShift) ∈ btw f r l full :=
  mem_btw.2 ⟨a, b, (List.getElem?_eq_some_iff.1 ha).1, (List.getElem?_eq_some_iff.1 hb).1, rfl, by unfold btP; rw [ha, hb, hg]; simp⟩
theorem doL_get {l : ApiLayout} {a b : Nat} (ha : l.Full[a]? = some true) (hb : l.Full[b]? = some false) : (doL l a b).Full[a]? = some false ∧ (doL l a b).Full[b]? = some true := by
  have hab : a ≠ b := by rintro rfl; rw [ha] at hb; simp at hb
  have hal := (List.getElem?_eq_some_iff.1 ha).1
  have hbl := (List.getElem?_eq_some_iff.1 hb).1
  refine ⟨?_, ?_⟩
  · show ((l.Full.set a false).set b true)[a]? = _
    rw [set2_get, if_neg (fun h => hab h.1.symm), if_pos ⟨rfl, hal⟩]
  · show ((l.Full.set a false).set b true)[b]? = _
    rw [set2_get, if_pos ⟨rfl, hbl⟩]
theorem Dst.pre (h : Dst f r n k goal t) {l : ApiLayout} (hl : LOk n k l) {s : ApiShift} (hs : s ∈ btw f r l true) : rank n k l ∈ preT f r n k (rank n k (doS l s)) := by
  have hl' := hl.doS hs
  obtain ⟨a, b, rfl, ha, hb, hg⟩ := back_ok hs
  obtain ⟨e1, e2⟩ := doL_get ha hb
  unfold preT
  rw [hl'.unrank]
  refine List.mem_map.2 ⟨{ From := (a : Int), To := (b : Int) }, btw_intro (full := false) e1 e2 hg, ?_⟩
  show rank n k (doL (doL l a b) b a) = _
  rw [doL_back hl ha hb]
theorem Dst.suc (h : Dst f r n k goal t) {l : ApiLayout} (hl : LOk n k l) {j : Nat} (hj : j < nL n k) (hp : rank n k l ∈ preT f r n k j) : ∃ s, s ∈ btw f r l true ∧ rank n k (doS l s) = j := by
  obtain ⟨hu, hur⟩ := unrank_ok h.h1 h.h2 hj
  unfold preT at hp
  obtain ⟨s, hs, he⟩ := List.mem_map.1 hp
  obtain ⟨a, b, rfl, ha, hb, hg⟩ := back_ok hs
  have hb' : (unrank n k j).Full[b]? = some true := by simpa using hb
  have hd := hu.doL hb' ha
  have e : doL (unrank n k j) b a = l := by
    rw [← hl.unrank, ← he]; exact hd.unrank.symm
  obtain ⟨e1, e2⟩ := doL_get hb' ha
  rw [e] at e1 e2
  refine ⟨{ From := (a : Int), To := (b : Int) }, btw_intro (full := true) e2 e1 hg, ?_⟩
  show rank n k (doL l a b) = j
  rw [← e, doL_back hu hb' ha, hur]
theorem Dst.rl (h : Dst f r n k goal t) {l : ApiLayout} (hl : LOk n k l) : rank n k l < nL n k := hl.rank_lt
theorem Dst.neg (h : Dst f r n k goal t) {l : ApiLayout} (hl : LOk n k l) : dT n k t l = -1 ∨ ∃ d : Nat, dT n k t l = (d : Int) := by
  rcases h.ok.2.1 _ (h.rl hl) with ⟨a, _⟩ | ⟨d, a, _⟩
  · exact .inl a
  · exact .inr ⟨d, a⟩
theorem Dst.zero (h : Dst f r n k goal t) {l : ApiLayout} (hl : LOk n k l) : dT n k t l = 0 ↔ l.Target = goal := by
  have hs : srcT n k goal (rank n k l) = true ↔ l.Target = goal := by unfold srcT; rw [hl.unrank]; simp
  unfold dT
  rcases h.ok.2.1 _ (h.rl hl) with ⟨a, b⟩ | ⟨d, a, b, c⟩
  · rw [a]
    refine ⟨fun h => by omega, fun e => absurd (.zero (h.rl hl) (hs.2 e)) (b 0)⟩
  · rw [a]
    constructor
    · intro e
      have : d = 0 := by omega
      subst this
      cases b with
      | zero _ h => exact hs.1 h
    · intro e
      have := c 0 (.zero (h.rl hl) (hs.2 e))
      omega
/-- a shift leads at most one nearer -/
theorem Dst.near (h : Dst f r n k goal t) {l : ApiLayout} (hl : LOk n k l) {s : ApiShift} (hs : s ∈ btw f r l true) (h0 : 0 ≤ dT n k t (doS l s)) : 0 ≤ dT n k t l ∧ dT n k t l ≤ dT n k t (doS l s) + 1 := by
  have hl' := hl.doS hs
  have hp := h.pre hl hs
  unfold dT at *
  rcases h.ok.2.1 _ (h.rl hl') with ⟨a, b⟩ | ⟨d, a, b, c⟩
  · omega
  · have hP := Pt.succ b hp
    rcases h.ok.2.1 _ (h.rl hl) with ⟨a2, b2⟩ | ⟨d2, a2, b2, c2⟩
    · exact absurd hP (b2 _)
    · have := c2 _ hP; omega
/-- one shift leads nearer -/
theorem Dst.nearer (h : Dst f r n k goal t) {l : ApiLayout} (hl : LOk n k l) {d : Nat} (hd : dT n k t l = ((d + 1 : Nat) : Int)) : ∃ s, s ∈ btw f r l true ∧ dT n k t (doS l s) = (d : Int) := by
  have hpl := preT_lt (f := f) (r := r) h.h1 h.h2
  unfold dT at *
  rcases h.ok.2.1 _ (h.rl hl) with ⟨a, b⟩ | ⟨e, a, b, c⟩
  · omega
  · have : e = d + 1 := by omega
    subst this
    cases b with
    | succ hj hi =>
      rename_i j
      have hjn := hj.lt hpl
      obtain ⟨s, hs, rfl⟩ := h.suc hl hjn hi
      refine ⟨s, hs, ?_⟩
      have h1 := (h.near hl hs)
      unfold dT at h1
      rcases h.ok.2.1 _ hjn with ⟨a3, b3⟩ | ⟨d3, a3, b3, c3⟩
      · exact absurd hj (b3 _)
      · have := c3 _ hj
        have := h1 (by omega)
        omega
end
/-- right regions -/
theorem S_r08_Right {r : List Int} (hl : r.length ≤ 1000000) {post : Bool → Prop} (hF : post false) (hT : Asc r → post true) : V_taquinref08_Right r post := by
  unfold V_taquinref08_Right
  refine Jn.mk (fun _ => Asc r) (Loop.inv r.length (fun i (s : Int) => s = (i : Int) ∧ ∀ (j : Nat) x y, j + 1 < i → r[j]? = some x → r[j + 1]? = some y → x < y) ⟨rfl, fun j x y h => by omega⟩ (fun i s hi hI => ?_) (fun s hI => ?_)) (fun _ h => hT h)
  · obtain ⟨rfl, hI⟩ := hI
    have hx : r[i]? = some (r[i]'hi) := List.getElem?_eq_getElem hi
    generalize r[i]'hi = x at hx
    refine Ite.lt (by omega) (Jn.mk (fun b => b = false → ∀ (j : Nat) x y, j + 1 < i + 1 → r[j]? = some x → r[j + 1]? = some y → x < y) ⟨x, idx_of rfl hx, Ite.mk (fun _ h => by cases h) (fun _ => Ite.mk (fun _ h => by cases h) (fun _ => Ite.mk (fun e => ?_) (fun e h => ?_)))⟩ (fun b hb => Ite.mk (fun e => hF) (fun e => ⟨w64_1 (by omega), hb e⟩)))
    · have e' : 0 < i := by have := of_decide_eq_true e; omega
      have hy : r[i - 1]? = some (r[i - 1]'(by omega)) := List.getElem?_eq_getElem (by omega)
      generalize r[i - 1]'(by omega) = y at hy
      refine ⟨y, ?_, fun h => ?_⟩
      · rw [w64_p (by omega) (by omega)]
        have : imax ((i - 1 : Nat) : Int) 0 = ((i - 1 : Nat) : Int) := by unfold imax; split <;> omega
        rw [this]; exact idx_of rfl hy
      · have h' := of_decide_eq_false h
        intro j x' y' hj h1 h2
        by_cases e2 : j + 1 = i
        · have : j = i - 1 := by omega
          subst this
          rw [hy] at h1; rw [e2, hx] at h2
          cases h1; cases h2; omega
        · exact hI j x' y' (by omega) h1 h2
    · have e' : ¬ 0 < i := by have := of_decide_eq_false e; omega
      intro j x' y' hj h1 h2; omega
  · obtain ⟨rfl, hI⟩ := hI
    refine Ite.nlt (by omega) (fun i j x y hij h1 h2 => ?_)
    have key : ∀ m (j : Nat) y, j = i + 1 + m → r[j]? = some y → x < y := by
      intro m
      induction m with
      | zero => intro j y e h2; subst e; exact hI i x y (by have := (List.getElem?_eq_some_iff.1 h2).1; omega) h1 h2
      | succ m ih =>
        intro j y e h2
        have hjl := (List.getElem?_eq_some_iff.1 h2).1
        have hz : r[i + 1 + m]? = some (r[i + 1 + m]'(by omega)) := List.getElem?_eq_getElem (by omega)
        have a1 := ih _ _ rfl hz
        have a2 := hI (i + 1 + m) _ y (by omega) hz (by rw [show i + 1 + m + 1 = j by omega]; exact h2)
        omega
    exact key (j - i - 1) j y (by omega) h2
section
variable {f : ApiFloor} {r : List Int} {n k : Nat} {l : ApiLayout} {goal : Int}
theorem S_Table_err {k : Int} {post : List Int × Int → Prop} (hE : 12 < r.length → post ([], 27)) (hR : r.length ≤ 12 → (k < 1 ∨ k > r.length ∨ goal < 0 ∨ goal ≥ r.length) → post ([], 3)) (hO : r.length ≤ 12 → 1 ≤ k → k ≤ r.length → 0 ≤ goal → goal < r.length → V_puzzle_Table f r k goal post) : V_puzzle_Table f r k goal post := by
  by_cases c0 : 12 < r.length
  · unfold V_puzzle_Table; exact Ite.t (by simp; omega) (hE c0)
  by_cases c : k < 1 ∨ k > r.length ∨ goal < 0 ∨ goal ≥ r.length
  · unfold V_puzzle_Table
    refine Ite.f (by simp; omega) (Jn.mk (fun b => b = true) (Ite.mk (fun _ => rfl) (fun a1 => Ite.mk (fun _ => rfl) (fun a2 => Ite.mk (fun _ => rfl) (fun a3 => ?_)))) (fun b e => Ite.t e (hR (by omega) c)))
    have b1 := of_decide_eq_false a1; have b2 := of_decide_eq_false a2; have b3 := of_decide_eq_false a3
    exact decide_eq_true (by omega)
  · exact hO (by omega) (by omega) (by omega) (by omega) (by omega)
variable (hl : LOk n k l) (hr : r.length = n) (hn : n ≤ 24) (hf : RF f) (ha : Asc r)
include hl hr hn hf ha
theorem S_distances {post : List Int × Int × Int → Prop} (hE : 12 < n → post ([], 0, 27)) (hR : n ≤ 12 → ¬ (0 ≤ goal ∧ goal < n) → post ([], 0, 3))
    (hN : n ≤ 12 → 0 ≤ goal ∧ goal < n → ∀ t, Dst f r n k goal t → dT n k t l = -1 → post ([], 0, 14)) (hS : n ≤ 12 → 0 ≤ goal ∧ goal < n → ∀ t, Dst f r n k goal t → ∀ d : Nat, dT n k t l = (d : Int) → post (t, (d : Int), 0)) : V_puzzle_distances f r l goal post := by
  unfold V_puzzle_distances
  have hk1 := hl.kpos; have hk2 := hl.kle
  refine S_Shelves (by rw [hl.len]; simp [maxLen]; omega) ?_
  rw [hl.cnt]
  refine S_Table_err (fun h => Ite.t rfl (hE (by omega))) (fun h h' => Ite.t rfl (hR (by omega) (by omega))) (fun h h1 h2 h3 h4 => ?_)
  refine S_Table hk1 hk2 (by omega) hf hr ha ⟨h3, by omega⟩ (fun t ht => Ite.f rfl (S_Rank hk1 hk2 (by omega) hl ?_))
  have hD : Dst f r n k goal t := ⟨hk1, hk2, by omega, hr, ht⟩
  refine ⟨_, idx_of rfl (gT_get (by rw [ht.1]; exact hl.rank_lt)), ?_⟩
  rcases hD.neg hl with e | ⟨d, e⟩
  · unfold dT at e; rw [e]; exact Ite.t (by simp) (hN (by omega) ⟨h3, by omega⟩ t hD e)
  · have e2 := e
    unfold dT at e2; rw [e2]; exact Ite.f (by simp) (hS (by omega) ⟨h3, by omega⟩ t hD d e)
theorem S_Least {post : Int × Int → Prop} (hE : 12 < n → post (0, 27)) (hR : n ≤ 12 → ¬ (0 ≤ goal ∧ goal < n) → post (0, 3))
    (hN : n ≤ 12 → 0 ≤ goal ∧ goal < n → ∀ t, Dst f r n k goal t → dT n k t l = -1 → post (0, 14)) (hS : n ≤ 12 → 0 ≤ goal ∧ goal < n → ∀ t, Dst f r n k goal t → ∀ d : Nat, dT n k t l = (d : Int) → post ((d : Int), 0)) : V_puzzle_Least f r l goal post := by
  unfold V_puzzle_Least
  exact S_distances hl hr hn hf ha hE hR hN hS
end
end Go.Taq
