/- The mathematics, several parts in one text. -/
import Derived.Test.YtghgknhkclpdhaaFE
import Derived.Test.YtghgknhkclpdhaaFA
/- The mathematics of the patterns, part FF: the reference's bound; what is given; the examples. -/
set_option linter.unusedVariables false
set_option linter.unusedSimpArgs false
namespace Go.Taq
open Go
section

end
/-! ## what is given -/
theorem S_region_Right {r : List Int} (hl : r.length ≤ 1000000) {post : Bool → Prop} (hF : post false) (hT : Asc r → (∀ x, x ∈ r → 0 ≤ x) → post true) : V_region_Right r post := by
  unfold V_region_Right
  refine Jn.mk (fun _ => Asc r ∧ ∀ x, x ∈ r → 0 ≤ x) (Loop.inv r.length (fun i (s : Int) => s = (i : Int) ∧ (∀ (j : Nat) x y, j + 1 < i → r[j]? = some x → r[j + 1]? = some y → x < y) ∧ ∀ (j : Nat) x, j < i → r[j]? = some x → 0 ≤ x) ⟨rfl, fun j x y h => by omega, fun j x h => by omega⟩ (fun i s hi hI => ?_) (fun s hI => ?_)) (fun _ h => hT h.1 h.2)
  · obtain ⟨rfl, hI, hP⟩ := hI
    have hx : r[i]? = some (r[i]'hi) := List.getElem?_eq_getElem hi
    generalize r[i]'hi = x at hx
    refine Ite.lt (by omega) ⟨x, idx_of rfl hx, Jn.mk (fun b => b = false → 0 ≤ x ∧ ∀ (j : Nat) x y, j + 1 < i + 1 → r[j]? = some x → r[j + 1]? = some y → x < y) ?_ (fun b hb => Ite.mk (fun e => hF) (fun e => ⟨w64_1 (by omega), (hb e).2, fun j y hj hy => ?_⟩))⟩
    · unfold V_region_isCell
      refine Jn.mk (fun b => b = true → 0 ≤ x) (Ite.mk (fun h1 h2 => of_decide_eq_true h1) (fun h1 h2 => by cases h2)) (fun b hb => Ite.mk (fun e => ?_) (fun e h => by cases h))
      have h0 := hb e
      refine Ite.mk (fun e => ?_) (fun e h => ⟨h0, ?_⟩)
      · have e' : 0 < i := by have := of_decide_eq_true e; omega
        have hy : r[i - 1]? = some (r[i - 1]'(by omega)) := List.getElem?_eq_getElem (by omega)
        generalize r[i - 1]'(by omega) = y at hy
        refine ⟨y, by rw [w64_p (by omega) (by omega)]; exact idx_of rfl hy, fun h => ⟨h0, ?_⟩⟩
        have h' := of_decide_eq_false h
        intro j x' y' hj h1 h2
        by_cases e2 : j + 1 = i
        · have : j = i - 1 := by omega
          subst this
          rw [hy] at h1; rw [e2, hx] at h2
          cases h1; cases h2; omega
        · exact hI j x' y' (by omega) h1 h2
      · have e' : ¬ 0 < i := by have := of_decide_eq_false e; omega
        intro j x' y' hj h1 h2; omega
    · by_cases e2 : j = i
      · subst e2; rw [hx] at hy; cases hy; exact (hb e).1
      · exact hP j y (by omega) hy
  · obtain ⟨rfl, hI, hP⟩ := hI
    refine Ite.nlt (by omega) ⟨fun i j x y hij h1 h2 => ?_, fun x hx => ?_⟩
    · have key : ∀ m (j : Nat) y, j = i + 1 + m → r[j]? = some y → x < y := by
        intro m
        induction m with
        | zero => intro j y e h2; subst e; exact hI i x y (by have := (List.getElem?_eq_some_iff.1 h2).1; omega) h1 h2
        | succ m ih =>
          intro j y e h2
          have hjl := (List.getElem?_eq_some_iff.1 h2).1
          have hz : r[i + 1 + m]? = some (r[i + 1 + m]'(by omega)) := List.getElem?_eq_getElem (by omega)
          have a1 := ih _ _ rfl hz
          have a2 := hI (i + 1 + m) _ y (by omega) hz (by rw [show i + 1 + m + 1 = j by omega]; exact h2)
          omega
      exact key (j - i - 1) j y (by omega) h2
    · obtain ⟨j, hj, e⟩ := List.mem_iff_getElem.1 hx
      exact hP j x hj (by rw [List.getElem?_eq_getElem hj, e])
theorem imax_gt {x y k : Int} : imax x y > k ↔ x > k ∨ y > k := by unfold imax; split <;> omega
theorem S_floor_Right {f : ApiFloor} {post : Bool → Prop} (hF : post false) (hT : RF f → post true) : V_floor_Right f post := by
  unfold V_floor_Right
  refine Jor3 (Ite.mk (fun _ => hF) (fun h1 => ?_))
  simp only [Bool.or_eq_false_iff, decide_eq_false_iff_not, imin_lt, imax_gt] at h1
  obtain ⟨⟨a1, a2⟩, a3⟩ := h1
  have e := size_eq (f := f) (by omega) (by omega) (by omega) (by omega) (by omega) (by omega)
  unfold V_floor_size
  rw [e.1]
  refine Jor3 (Ite.mk (fun _ => hF) (fun h2 => ?_))
  simp only [Bool.or_eq_false_iff, decide_eq_false_iff_not, bne_eq_false_iff_eq] at h2
  obtain ⟨⟨b1, b2⟩, b3⟩ := h2
  have hl : f.Kind.length ≤ maxLen := by unfold maxLen; omega
  refine Jn.mk (fun _ => ∀ (i : Nat) x y, f.Kind[i]? = some x → f.Out[i]? = some y → 0 ≤ x ∧ x < 7 ∧ 0 ≤ y ∧ y ≤ 63)
    (V_loopc hl (fun s => s) (fun n _ => ∀ (i : Nat) x y, i < n → f.Kind[i]? = some x → f.Out[i]? = some y → 0 ≤ x ∧ x < 7 ∧ 0 ≤ y ∧ y ≤ 63) rfl (fun i x y h => by omega) (fun n x t hx ht hall => ?_) (fun t h i x y hx hy => h i x y (List.getElem?_eq_some_iff.1 hx).1 hx hy)) (fun _ h => hT ?_)
  · have hn := (List.getElem?_eq_some_iff.1 hx).1
    have ho : f.Out[n]? = some (f.Out[n]'(by omega)) := List.getElem?_eq_getElem _
    refine Jn.eq (decide (x < 0) || decide (x ≥ 7) || decide (f.Out[n]'(by omega) < 0) || decide (f.Out[n]'(by omega) > 63)) ?_ ?_
    · refine Ite.mk (fun h => by rw [h]; rfl) (fun h => Ite.mk (fun h' => by rw [h, h']; rfl) (fun h' => ⟨_, by rw [ht]; exact idx_of rfl ho, Ite.mk (fun h'' => by rw [h, h', h'']; rfl) (fun h'' => by rw [h, h', h'']; rfl)⟩))
    · refine Ite.mk (fun _ => hF) (fun h3 => ⟨by rw [ht], fun i x' y' hi hx' hy' => ?_⟩)
      simp only [Bool.or_eq_false_iff, decide_eq_false_iff_not] at h3
      by_cases e : i = n
      · subst e; rw [hx] at hx'; rw [ho] at hy'; cases hx'; cases hy'; omega
      · exact hall i x' y' (by omega) hx' hy'
  · exact ⟨by omega, by omega, by omega, by omega, by omega, by omega, by omega, by omega, by omega, h⟩
end Go.Taq

/- The mathematics of the patterns, part FG: the examples; what the bounds say. -/
set_option linter.unusedVariables false
set_option linter.unusedSimpArgs false
namespace Go.Taq
open Go
/-- a table that is right, checked -/
def chkT (N : Nat) (pre : Nat → List Nat) (src : Nat → Bool) (t : List Int) : Bool :=
  decide (t.length = N) && (List.range N).all fun i => decide (gT t i ≤ N) && decide (-1 ≤ gT t i) && (src i == decide (gT t i = 0)) && (decide (gT t i ≤ 0) || (List.range N).any fun j => decide (gT t j = gT t i - 1) && (pre j).contains i) && (decide (gT t i < 0) || (pre i).all fun p => decide (0 ≤ gT t p) && decide (gT t p ≤ gT t i + 1))
theorem TOk.chk {N : Nat} {pre : Nat → List Nat} {src : Nat → Bool} {t : List Int} (hp : ∀ j, j < N → ∀ i, i ∈ pre j → i < N) (h : chkT N pre src t = true) : TOk N pre src t := by
  unfold chkT at h
  simp only [Bool.and_eq_true, decide_eq_true_eq, List.all_eq_true, List.mem_range, Bool.or_eq_true, List.any_eq_true, beq_iff_eq, List.contains_iff_mem] at h
  obtain ⟨hl, h⟩ := h
  have hpt : ∀ {e i : Nat}, Pt N pre src e i → 0 ≤ gT t i ∧ gT t i ≤ (e : Int) := by
    intro e i hP
    induction hP with
    | zero h1 h2 =>
      have h3 : src _ = _ := (h _ h1).1.1.2
      rw [h2] at h3
      have := of_decide_eq_true h3.symm
      omega
    | succ hj hi ih =>
      have hjn := hj.lt hp
      rcases (h _ hjn).2 with h3 | h3
      · omega
      · have := h3 _ hi; omega
  have hex : ∀ (d i : Nat), i < N → gT t i = (d : Int) → Pt N pre src d i := by
    intro d
    induction d with
    | zero =>
      intro i hi he
      refine .zero hi ?_
      rw [(h i hi).1.1.2]; exact decide_eq_true (by omega)
    | succ d ih =>
      intro i hi he
      rcases (h i hi).1.2 with h3 | ⟨j, hj, h4, h5⟩
      · omega
      · exact .succ (ih j hj (by omega)) h5
  refine ⟨hl, fun i hi => ?_, fun i hi => (h i hi).1.1.1.1⟩
  rcases Int.lt_or_le (gT t i) 0 with c | c
  · have := (h i hi).1.1.1.2
    exact .inl ⟨by omega, fun d hd => by have := hpt hd; omega⟩
  · obtain ⟨d, hd⟩ : ∃ d : Nat, gT t i = (d : Int) := ⟨(gT t i).toNat, by omega⟩
    exact .inr ⟨d, hd, hex d i hi hd, fun e he => by have := hpt he; omega⟩
def rowF : ApiFloor := { W := 4, H := 1, D := 1, Kind := [1, 1, 1, 1], Out := [1, 5, 5, 4] }
def r4 : List Int := [0, 1, 2, 3]
def tA : List Int := [3, 2, 1, 0]
def tB : List Int := (List.range 12).map fun i => let l := unrank 4 2 i; if l.Target = 3 then 0 else if (l.Full.drop (l.Target.toNat + 1)).contains true then -1 else 3 - l.Target
theorem RF_row : RF rowF := by
  refine ⟨by decide, by decide, by decide, by decide, by decide, by decide, by decide, by decide, by decide, fun i x y hx hy => ?_⟩
  have key : ∀ i : Nat, i < 4 → (0 ≤ rowF.Kind.getD i 0 ∧ rowF.Kind.getD i 0 < 7) ∧ (0 ≤ rowF.Out.getD i 0 ∧ rowF.Out.getD i 0 ≤ 63) := by decide
  have hi : i < 4 := (List.getElem?_eq_some_iff.1 hx).1
  have e1 : rowF.Kind.getD i 0 = x := by rw [List.getD_eq_getElem?_getD, hx]; rfl
  have e2 : rowF.Out.getD i 0 = y := by rw [List.getD_eq_getElem?_getD, hy]; rfl
  have := key i hi
  rw [e1, e2] at this
  omega
theorem Asc_r4 : Asc r4 := by
  intro i j x y hij hx hy
  have hj : j < 4 := (List.getElem?_eq_some_iff.1 hy).1
  have key : ∀ j, j < 4 → ∀ i, i < j → r4.getD i 0 < r4.getD j 0 := by decide +kernel
  have e1 : r4.getD i 0 = x := by rw [List.getD_eq_getElem?_getD, hx]; rfl
  have e2 : r4.getD j 0 = y := by rw [List.getD_eq_getElem?_getD, hy]; rfl
  rw [← e1, ← e2]; exact key j hj i hij
theorem chkA : chkT 4 (preT rowF r4 4 1) (srcT 4 1 3) tA = true := by decide +kernel
theorem chkB : chkT 12 (preT rowF r4 4 2) (srcT 4 2 3) tB = true := by decide +kernel
theorem row_tables {K : Nat} (hK : K ≤ 1) {ts : List (List Int)} (h : Db rowF r4 4 K 3 ts) : ts = if K = 0 then [tA] else [tA, tB] := by
  have a1 : ts.getD 0 [] = tA := (h.tb 0 (by omega)).eq (TOk.chk (preT_lt (by decide) (by decide)) chkA)
  have hl := h.len
  by_cases c : K = 0
  · subst c
    rw [if_pos rfl]
    match ts, hl with
    | [t], _ => simpa using a1
  · have : K = 1 := by omega
    subst this
    have a2 : ts.getD 1 [] = tB := (h.tb 1 (by omega)).eq (TOk.chk (preT_lt (by decide) (by decide)) chkB)
    rw [if_neg (by decide)]
    match ts, hl with
    | [t, u], _ => simp at a1 a2; rw [a1, a2]
theorem S_at {t o : Nat} (ht : t < 4) (ho : o < 4) {post : ApiLayout → Prop} (hp : post { Full := ((List.replicate 4 false).set t true).set o true, Target := (t : Int) }) : V_taquinlaw27_at (t : Int) (o : Int) post := by
  unfold V_taquinlaw27_at
  have key : ∀ t : Nat, t < 4 → band .i64 (t : Int) 3 = (t : Int) := by decide +kernel
  rw [key t ht, key o ho]
  refine ⟨⟨by decide, by decide⟩, false, idx_of rfl ?_, ?_⟩
  · simp only [Int.reduceToNat, List.getElem?_replicate]; rw [if_pos ht]
  · simp only [Int.reduceToNat, Int.toNat_natCast]
    have hx : ((List.replicate 4 false).set t true)[o]? = some (((List.replicate 4 false).set t true)[o]'(by simpa using ho)) := List.getElem?_eq_getElem _
    exact ⟨_, idx_of rfl hx, hp⟩
theorem okA {t o : Nat} (ht : t < 4) (ho : o < 4) : LOk 4 (if t = o then 1 else 2) { Full := ((List.replicate 4 false).set t true).set o true, Target := (t : Int) } := by
  have key : ∀ t : Nat, t < 4 → ∀ o : Nat, o < 4 → (((List.replicate 4 false).set t true).set o true).count true = (if t = o then 1 else 2) ∧ (((List.replicate 4 false).set t true).set o true)[t]? = some true := by decide
  obtain ⟨a, b⟩ := key t ht o ho
  exact ⟨by simp, a, by show (0 : Int) ≤ t; omega, by show (((List.replicate 4 false).set t true).set o true)[(t : Int).toNat]? = _; rw [Int.toNat_natCast]; exact b⟩
theorem S_small {post : Bool → Prop} (hp : post true) : V_taquinlaw27_small post := by
  unfold V_taquinlaw27_small V_taquinlaw27_row
  have hl0 : lim 4 0 := by
    refine ⟨by decide, fun j hj => ?_⟩
    have e : j = 0 := by omega
    subst e
    decide +kernel
  have hl1 : lim 4 1 := by
    refine ⟨by decide, fun j hj => ?_⟩
    have e : j = 0 ∨ j = 1 := by omega
    rcases e with e | e <;> subst e <;> decide +kernel
  refine S_Build (n := 4) RF_row rfl (by decide) Asc_r4 (fun h => absurd (by decide) h) (fun _ h => absurd hl0 h) (fun K eK _ _ ts hD => ?_)
  obtain rfl : K = 0 := by omega
  refine S_Build (n := 4) RF_row rfl (by decide) Asc_r4 (fun h => absurd (by decide) h) (fun _ h => absurd hl1 h) (fun K eK _ _ us hU => ?_)
  obtain rfl : K = 1 := by omega
  have e1 := row_tables (by decide) hD
  have e2 := row_tables (by decide) hU
  rw [if_pos rfl] at e1; rw [if_neg (by decide)] at e2
  subst e1; subst e2
  refine Jn.mk (fun b => b = false) (Ite.f rfl rfl) (fun b e => Ite.f e (Jn.mk (fun b => b = true) ?_ (fun b e => by rw [e]; exact hp)))
  refine S_at (t := 0) (o := 0) (by decide) (by decide) (S_Bound hD (okA (t := 0) (o := 0) (by decide) (by decide)) (Ite.t (by decide +kernel) ?_))
  refine S_at (t := 0) (o := 2) (by decide) (by decide) (S_Bound hD (okA (t := 0) (o := 2) (by decide) (by decide)) (Ite.t (by decide +kernel) ?_))
  refine S_at (t := 0) (o := 2) (by decide) (by decide) (S_Bound hU (okA (t := 0) (o := 2) (by decide) (by decide)) (Ite.t (by decide +kernel) ?_))
  refine S_at (t := 2) (o := 0) (by decide) (by decide) (S_Bound hU (okA (t := 2) (o := 0) (by decide) (by decide)) ?_)
  decide +kernel
/-! ## what the bounds say -/
section
variable {f : ApiFloor} {r : List Int} {n K : Nat} {goal : Int} {ts : List (List Int)}
theorem Db.dst (h : Db f r n K goal ts) (hn : n ≤ 12) {j : Nat} (hj : j ≤ K) : Dst f r n (j + 1) goal (ts.getD j []) := ⟨by omega, by have := h.hK; omega, hn, h.hr, h.tb j hj⟩
end
end Go.Taq

/- The mathematics of the patterns, part FL: the distances within a region (region.Inside). -/
set_option linter.unusedVariables false
set_option linter.unusedSimpArgs false
namespace Go.Taq
open Go
/-- the place of a cell in a region -/
def ixr (r : List Int) (c : Int) : Option Nat := (List.range r.length).find? fun q => decide (r.getD q 0 = c)
theorem Asc.inj {r : List Int} (ha : Asc r) {p q : Nat} (hp : p < r.length) (hq : q < r.length) (h : r.getD p 0 = r.getD q 0) : p = q := by
  have e1 : r[p]? = some (r.getD p 0) := by rw [List.getD_eq_getElem?_getD, List.getElem?_eq_getElem hp]; rfl
  have e2 : r[q]? = some (r.getD q 0) := by rw [List.getD_eq_getElem?_getD, List.getElem?_eq_getElem hq]; rfl
  rcases Nat.lt_trichotomy p q with h1 | h1 | h1
  · have := ha p q _ _ h1 e1 e2; omega
  · exact h1
  · have := ha q p _ _ h1 e2 e1; omega
theorem ixr_some {r : List Int} (ha : Asc r) {c : Int} {q : Nat} : ixr r c = some q ↔ q < r.length ∧ r.getD q 0 = c := by
  unfold ixr
  constructor
  · intro h
    have h1 := List.find?_some h
    have h2 := List.mem_of_find?_eq_some h
    exact ⟨by simpa using h2, by simpa using h1⟩
  · rintro ⟨h1, h2⟩
    cases hf : (List.range r.length).find? fun q => decide (r.getD q 0 = c) with
    | none =>
      have := List.find?_eq_none.1 hf q (by simpa using h1)
      exact absurd (by simpa using h2) this
    | some p =>
      have h3 := List.find?_some hf
      have h4 := List.mem_of_find?_eq_some hf
      have : p = q := ha.inj (by simpa using h4) h1 (by rw [h2]; simpa using h3)
      rw [this]
theorem ixr_none {r : List Int} {c : Int} (h : ixr r c = none) : r.contains c = false := by
  unfold ixr at h
  cases hc : r.contains c with
  | false => rfl
  | true =>
    obtain ⟨q, hq, e⟩ := List.mem_iff_getElem.1 (List.contains_iff_mem.1 hc)
    have := List.find?_eq_none.1 h q (by simpa using hq)
    exact absurd (by simp [List.getD_eq_getElem?_getD, hq, e]) this
/-- what is known of the cells of a region -/
def MR (r : List Int) (out : List Int) (m : List (Int × Int)) : Prop := ∀ q, q < r.length → lk m (r.getD q 0) = if gT out q < 0 then none else some (gT out q)
/-- what a map says of the cells of a region -/
def outM (r : List Int) (m : List (Int × Int)) : List Int := (List.range r.length).map fun q => (lk m (r.getD q 0)).getD (-1)
theorem MR.eq {r out : List Int} {m : List (Int × Int)} (h : MR r out m) (hl : out.length = r.length) (h1 : ∀ q, q < r.length → -1 ≤ gT out q) : outM r m = out := by
  refine gT_ext (by simp [outM, hl]) (fun q hq => ?_)
  have hq' : q < r.length := by simpa [outM] using hq
  have h2 := h q hq'
  have e : gT (outM r m) q = (lk m (r.getD q 0)).getD (-1) := by
    unfold gT outM
    rw [List.getD_eq_getElem?_getD, List.getElem?_map, List.getElem?_range hq']; rfl
  rw [e, h2]
  have := h1 q hq'
  split
  · show (-1 : Int) = _; omega
  · rfl
section
variable {f : ApiFloor} {r : List Int} (hf : RF f) (ha : Asc r) (hr : r.length ≤ 1000)
include ha hr
theorem S_reach {out : List Int} {q : List Nat} {m : List (Int × Int)} (hM : MR r out m) (hol : out.length = r.length) (hq : q.length ≤ 100000) {c n : Int} (hn : 0 ≤ n) {post : List (Int × Int) × List Int → Prop}
    (hN : ixr r c = none → post (m, q.map fun p => r.getD p 0)) (hY : ∀ p, ixr r c = some p → ∀ m', MR r (rO out p n) m' → post (m', (rQ out q p).map fun p => r.getD p 0)) : V_region_spread_1__p0_p2 c n r m (q.map fun p => r.getD p 0) post := by
  unfold V_region_spread_1__p0_p2
  cases hi : ixr r c with
  | none =>
    have hc := ixr_none hi
    refine Jn.mk (fun b => b = false) (Ite.mk (fun _ => rfl) (fun _ => ?_)) (fun b e => Jn.mk (fun t => t = (m, q.map fun p => r.getD p 0)) (Ite.f e rfl) (fun t e => by rw [e]; exact hN hi))
    unfold V_region_Has
    exact S_slices_BinarySearch (by simp [maxLen]; omega) ha (fun i _ => hc)
  | some p =>
    obtain ⟨hp, hpc⟩ := (ixr_some ha).1 hi
    have hlk := hM p hp
    rw [hpc] at hlk
    have hY := hY p hi
    by_cases c0 : gT out p < 0
    · rw [if_pos c0] at hlk
      have e1 : rO out p n = out.set p n := if_pos c0
      have e2 : rQ out q p = q ++ [p] := if_pos c0
      rw [e1, e2] at hY
      have hcon : r.contains c = true := by
        rw [List.contains_iff_mem, ← hpc, List.getD_eq_getElem?_getD, List.getElem?_eq_getElem hp]
        exact List.getElem_mem hp
      refine Jn.mk (fun b => b = true) (Ite.f (by rw [hlk]; rfl) ?_) (fun b e => Jn.mk (fun t => t = (upd m c n, (q ++ [p]).map fun p => r.getD p 0)) (Ite.t e ⟨by simp; omega, ?_⟩) (fun t e => ?_))
      · unfold V_region_Has
        exact S_slices_BinarySearch (by simp [maxLen]; omega) ha (fun i _ => hcon)
      · rw [List.map_append, ← hpc]; rfl
      · rw [e]
        refine hY _ (fun q' hq' => ?_)
        rw [lk_upd, gT_set (by omega)]
        by_cases e3 : p = q'
        · subst e3; rw [if_pos hpc.symm, if_pos rfl, if_neg (by omega)]
        · rw [if_neg (fun h => e3 (ha.inj hp hq' (by rw [hpc]; exact h))), if_neg e3]; exact hM q' hq'
    · rw [if_neg c0] at hlk
      have e1 : rO out p n = out := if_neg c0
      have e2 : rQ out q p = q := if_neg c0
      rw [e1, e2] at hY
      exact Jn.mk (fun b => b = false) (Ite.t (by rw [hlk]; rfl) rfl) (fun b e => Jn.mk (fun t => t = (m, q.map fun p => r.getD p 0)) (Ite.f e rfl) (fun t e => by rw [e]; exact hY _ hM))
/-- where one gets in one step, within the region -/
def sucD (f : ApiFloor) (r : List Int) (j : Nat) (ds : List Nat) : List Nat := ds.filterMap fun (d : Nat) => if (nx f (r.getD j 0) (d : Int)).2 = true then ixr r (nx f (r.getD j 0) (d : Int)).1 else none
def suc (f : ApiFloor) (r : List Int) (j : Nat) : List Nat := sucD f r j (List.range 6)
omit ha hr in
theorem sucD_cons {j d : Nat} {ds : List Nat} : sucD f r j (d :: ds) = match (if (nx f (r.getD j 0) (d : Int)).2 = true then ixr r (nx f (r.getD j 0) (d : Int)).1 else none) with | none => sucD f r j ds | some p => p :: sucD f r j ds := by
  unfold sucD
  rw [List.filterMap_cons]
  generalize (if (nx f (r.getD j 0) (d : Int)).2 = true then ixr r (nx f (r.getD j 0) (d : Int)).1 else none) = o
  cases o <;> rfl
omit hr in
theorem suc_lt {j : Nat} : ∀ i, i ∈ suc f r j → i < r.length := fun i hi => by
  unfold suc sucD at hi
  obtain ⟨d, _, h⟩ := List.mem_filterMap.1 hi
  split at h
  · exact ((ixr_some ha).1 h).1
  · cases h
omit hr in
theorem suc_iff {j i : Nat} : i ∈ suc f r j ↔ i < r.length ∧ getsB f (r.getD j 0) (r.getD i 0) = true := by
  unfold suc sucD
  rw [List.mem_filterMap, getsB_iff]
  constructor
  · rintro ⟨d, hd, h⟩
    split at h
    · rename_i h2
      obtain ⟨h3, h4⟩ := (ixr_some ha).1 h
      exact ⟨h3, d, by simpa using hd, by rw [h4]; exact Prod.ext rfl h2⟩
    · cases h
  · rintro ⟨h1, d, hd, h⟩
    exact ⟨d, by simpa using hd, by rw [h, if_pos rfl]; exact (ixr_some ha).2 ⟨h1, rfl⟩⟩
include hf
omit hf ha hr in
theorem filter_range {i : Nat} : ∀ {n : Nat}, i < n → (List.range n).filter (fun q => q == i) = [i]
  | 0, h => by omega
  | n + 1, h => by
    rw [List.range_succ, List.filter_append]
    by_cases e : i = n
    · subst e
      have h1 : (List.range i).filter (fun q => q == i) = [] := by
        rw [List.filter_eq_nil_iff]; intro q hq; simp at hq ⊢; omega
      rw [h1]; simp
    · rw [filter_range (by omega)]
      have : ¬ (n == i) = true := by simp; omega
      rw [List.filter_cons_of_neg (by simpa using this)]; rfl
omit hf ha hr in
/-- a cell that there is, and that is no wall -/
def fineC (f : ApiFloor) (c : Int) : Bool := isC f c && decide (kd f c ≠ 0)
theorem S_spread {i : Nat} (hi : i < r.length) {fc : Bool} (hfc : fineC f (r.getD i 0) = fc) {post : List (Int × Int) → Prop} (hp : ∀ out m, TOk r.length (suc f r) (fun q => decide (q = i) && fc) out → MR r out m → post m) : V_region_spread__floor_Next f r [r.getD i 0] post := by
  unfold V_region_spread__floor_Next
  have hpl : ∀ j, j < r.length → ∀ q, q ∈ suc f r j → q < r.length := fun j _ => suc_lt ha
  have g0 : ∀ j, j < r.length → gT (List.replicate r.length (-1)) j = -1 := fun j hj => by unfold gT; rw [List.getD_eq_getElem?_getD, List.getElem?_replicate, if_pos hj]; rfl
  have hM0 : MR r (List.replicate r.length (-1)) [] := fun q hq => by rw [g0 q hq, if_pos (by omega)]; rfl
  obtain ⟨src, hsrc⟩ : ∃ src : Nat → Bool, src = fun q => decide (q = i) && fc := ⟨_, rfl⟩
  rw [← hsrc] at hp
  have hs1 : ∀ q, src q = true ↔ q = i ∧ fc = true := fun q => by rw [hsrc]; simp
  -- what is begun with
  have hbeg : Bf r.length (suc f r) src (if fc = true then rO (List.replicate r.length (-1)) i 0 else List.replicate r.length (-1)) (if fc = true then [i] else []) ∧
      (if fc = true then rO (List.replicate r.length (-1)) i 0 else List.replicate r.length (-1)).count (-1) + (if fc = true then [i] else []).length ≤ 2000 := by
    have h1 : iO r.length src r.length = if fc = true then rO (List.replicate r.length (-1)) i 0 else List.replicate r.length (-1) := by
      have e0 : rO (List.replicate r.length (-1)) i 0 = (List.replicate r.length (-1)).set i 0 := if_pos (by rw [g0 i hi]; omega)
      rw [e0]
      refine gT_ext (by split <;> simp [iO]) (fun j hj => ?_)
      rw [iO_len] at hj
      rw [iO_get hj, if_pos hj]
      by_cases c : fc = true
      · rw [if_pos c, gT_set (by simpa using hi)]
        by_cases e : i = j
        · subst e; rw [if_pos ((hs1 i).2 ⟨rfl, c⟩), if_pos rfl]
        · rw [if_neg (fun h => e ((hs1 j).1 h).1.symm), if_neg e, g0 j hj]
      · rw [if_neg c, if_neg (fun h => c ((hs1 j).1 h).2), g0 j hj]
    have h2 : iQ src r.length = if fc = true then [i] else [] := by
      unfold iQ
      by_cases c : fc = true
      · rw [if_pos c]
        have : (List.range r.length).filter src = (List.range r.length).filter (fun q => q == i) := by
          congr 1; funext q; rw [Bool.eq_iff_iff, hs1]; simp [c]
        rw [this, filter_range hi]
      · rw [if_neg c, List.filter_eq_nil_iff]; intro q _ h; exact c ((hs1 q).1 h).2
    have h3 : Bf r.length (suc f r) src (iO r.length src r.length) (iQ src r.length) := Bf.init
    have h4 : (iO r.length src r.length).count (-1) ≤ r.length := Nat.le_trans List.count_le_length (by rw [iO_len]; omega)
    have h5 := iQ_len (src := src) (i := r.length)
    rw [h1, h2] at h3
    rw [h1] at h4; rw [h2] at h5
    exact ⟨h3, by omega⟩
  refine Jn.mk (fun (t : List (Int × Int) × List Int) => ∃ out q, t.2 = (q.map fun p => r.getD p 0) ∧ MR r out t.1 ∧ Bf r.length (suc f r) src out q ∧ out.count (-1) + q.length ≤ 2000) (Loop.step (Ite.lt (by simp) ⟨_, idx_of rfl rfl, ?_⟩)) (fun t ht => ?_)
  · refine Jn.mk (fun b => b = fc) ?_ (fun b eb => ?_)
    · rw [← hfc]
      unfold fineC
      by_cases c : isC f (r.getD i 0) = true
      · have c' := isC_iff.1 c
        refine Ite.t (decide_eq_true (by omega)) (Ite.t (decide_eq_true (by omega)) ⟨_, idx_kd c, ?_⟩)
        rw [c, Bool.true_and]
        by_cases c2 : kd f (r.getD i 0) = 0
        · rw [c2]; rfl
        · rw [decide_eq_true c2]; simpa using c2
      · have c1 : isC f (r.getD i 0) = false := by simpa using c
        have c' := isC_not.1 c1
        rw [c1]
        refine Ite.mk (fun h1 => Ite.mk (fun h2 => ?_) (fun _ => rfl)) (fun _ => rfl)
        exact absurd ⟨of_decide_eq_true h1, of_decide_eq_true h2⟩ c'
    · subst eb
      have hend : ∀ (m : List (Int × Int)) (q : List Nat) out, MR r out m → Bf r.length (suc f r) src out q → out.count (-1) + q.length ≤ 2000 → Loop (fun (s13 : List (Int × Int) × List Int × Int) Y14 => Ite (decide (s13.2.2 < ((([r.getD i 0] : List Int).length : Nat) : Int))) 
        (∃ x20, idx [r.getD i 0] s13.2.2 = some x20 ∧ Jn 
          (fun (J22 : Bool → Prop) => Ite (decide (x20 ≥ 0)) (Ite (decide (x20 < (f.Kind.length : Int))) (∃ x25, idx f.Kind x20 = some x25 ∧ J22 (x25 != 0)) (J22 false)) (J22 false)) 
          (fun (x21 : Bool) => Jn 
            (fun (J27 : (List (Int × Int) × List Int) → Prop) => Ite x21 (V_region_spread_1__p0_p2 x20 0 r s13.1 s13.2.1 (fun x31 => J27 (x31.1, x31.2))) (J27 (s13.1, s13.2.1))) (fun (x26 : List (Int × Int) × List Int) => Y14 (x26.1, x26.2, w64 (s13.2.2 + 1))))) (∃ out q, (s13.1, s13.2.1).2 = (q.map fun p => r.getD p 0) ∧ MR r out (s13.1, s13.2.1).1 ∧ Bf r.length (suc f r) src out q ∧ out.count (-1) + q.length ≤ 2000)) (m, q.map fun p => r.getD p 0, w64 (0 + 1)) := fun m q out hm hB hc => Loop.step (Ite.nlt (by rw [show w64 (0 + 1) = 1 from rfl]; simp) ⟨out, q, rfl, hm, hB, hc⟩)
      refine Jn.mk (fun t => ∃ out q, t.2 = (q.map fun p => r.getD p 0) ∧ MR r out t.1 ∧ Bf r.length (suc f r) src out q ∧ out.count (-1) + q.length ≤ 2000) (Ite.mk (fun e => ?_) (fun e => ?_)) (fun t ht => ?_)
      · rw [e, if_pos rfl, if_pos rfl] at hbeg
        have hix : ixr r (r.getD i 0) = some i := (ixr_some ha).2 ⟨hi, rfl⟩
        refine S_reach (q := []) ha hr hM0 (by simp) (by simp) (n := 0) (by omega) (fun h => by rw [hix] at h; cases h) (fun p hpx m' hm' => ?_)
        rw [hix] at hpx; cases hpx
        have e2 : rQ (List.replicate r.length (-1)) [] i = [i] := if_pos (by rw [g0 i hi]; omega)
        rw [e2]
        exact ⟨_, [i], rfl, hm', hbeg.1, hbeg.2⟩
      · have e' : ¬ b = true := by rw [e]; simp
        rw [if_neg e', if_neg e'] at hbeg
        exact ⟨_, [], rfl, hM0, hbeg.1, hbeg.2⟩
      · obtain ⟨t1, t2⟩ := t
        obtain ⟨out, q, rfl, h2, h3, h4⟩ := ht
        exact hend _ _ out h2 h3 h4
  · obtain ⟨t1, t2⟩ := t
    obtain ⟨out0, q0, rfl, hM, hB, hct⟩ := ht
    refine Jn.mk (fun m => ∃ out, TOk r.length (suc f r) src out ∧ MR r out m) (Loop.mk (fun (s : List (Int × Int) × List Int) => ∃ out q, s.2 = (q.map fun p => r.getD p 0) ∧ MR r out s.1 ∧ Bf r.length (suc f r) src out q ∧ out.count (-1) + q.length ≤ 2000) (fun s => (outM r s.1).count (-1) + s.2.length) ⟨out0, q0, rfl, hM, hB, hct⟩ (fun s hI => ?_)) (fun m ⟨out, h1, h2⟩ => hp out m h1 h2)
    obtain ⟨m, qi⟩ := s
    obtain ⟨out, q, rfl, hM, hB, hct⟩ := hI
    replace hM : MR r out m := hM
    match q, hB, hct with
    | [], hB, hct => exact Ite.f (by simp) ⟨out, hB.ok hpl, hM⟩
    | x :: q, hB, hct =>
      simp only [List.length_cons] at hct
      have hx := (hB.qu x (by simp)).1
      have hMB := hB.pop
      have hpt := hB.pt
      have hsub : sub ((x :: q).map fun p => r.getD p 0) 1 (((x :: q).map fun p => r.getD p 0).length : Int) = q.map fun p => r.getD p 0 := by
        simp only [sub, List.map_cons, List.length_cons, List.length_map]
        show List.take _ (List.drop 1 _) = _
        rw [List.drop_succ_cons, List.drop_zero, List.take_of_length_le (by simp)]
      refine Ite.t (by simp) (Jn.mk (fun (t : List (Int × Int) × List Int) => ∃ out' q', t.2 = (q'.map fun p => r.getD p 0) ∧ MR r out' t.1 ∧ BfM r.length (suc f r) src out' q' x [] ∧ out'.count (-1) + q'.length = out.count (-1) + q.length)
        ⟨r.getD x 0, rfl, ⟨by omega, by simp only [List.length_map, List.length_cons]; omega, by omega⟩, ?_⟩ (fun t ht => ?_))
      · simp only [hsub]
        refine Jn.mk (fun (t : List (Int × Int) × List Int) => ∃ out' q', t.2 = (q'.map fun p => r.getD p 0) ∧ MR r out' t.1 ∧ BfM r.length (suc f r) src out' q' x [] ∧ out'.count (-1) + q'.length = out.count (-1) + q.length)
          (Loop.inv 6 (fun D (s : List (Int × Int) × List Int × Int) => s.2.2 = (D : Int) ∧ ∃ out' q', s.2.1 = (q'.map fun p => r.getD p 0) ∧ MR r out' s.1 ∧ BfM r.length (suc f r) src out' q' x (sucD f r x ((List.range 6).drop D)) ∧ out'.count (-1) + q'.length = out.count (-1) + q.length)
            ⟨rfl, out, q, rfl, hM, hMB, rfl⟩ (fun D s hD hJ => ?_) (fun s hJ => ?_)) (fun t ht => ht)
        · obtain ⟨m2, qi2, c⟩ := s
          obtain ⟨rfl, out2, q2, rfl, hM2, hB2, hc2⟩ := hJ
          replace hM2 : MR r out2 m2 := hM2
          have hdr : (List.range 6).drop D = D :: (List.range 6).drop (D + 1) := by
            rw [List.drop_eq_getElem_cons (by simpa using hD)]; simp
          rw [hdr, sucD_cons] at hB2
          have hqx := hB2.q0
          have hlk := hM2 x hx
          rw [if_neg (by omega)] at hlk
          have hgq : gT out2 x ≤ 100000 := by have := hB2.bd x hx; omega
          have w : w64 (((lk m2 (r.getD x 0)).getD 0) + 1) = gT out2 x + 1 := by rw [hlk, Option.getD_some, w64_eq (by omega) (by omega)]
          have w1 : w64 ((D : Int) + 1) = ((D + 1 : Nat) : Int) := w64_1 (by omega)
          simp only [w, w1]
          refine Ite.lt (by show (D : Int) < 6; omega) (S_floor_Next hf ?_)
          refine Jn.mk (fun (t : List (Int × Int) × List Int) => ∃ out' q', t.2 = (q'.map fun p => r.getD p 0) ∧ MR r out' t.1 ∧ BfM r.length (suc f r) src out' q' x (sucD f r x ((List.range 6).drop (D + 1))) ∧ out'.count (-1) + q'.length = out.count (-1) + q.length) (Ite.mk (fun e => ?_) (fun e => ?_)) (fun t ht => ⟨trivial, ht⟩)
          · have e' : (nx f (r.getD x 0) (D : Int)).2 = true := e
            rw [if_pos e'] at hB2
            refine S_reach ha hr hM2 hB2.ol (by omega) (by omega) (fun hi => ?_) (fun p hi m' hm' => ?_)
            · rw [hi] at hB2
              exact ⟨out2, q2, rfl, hM2, hB2, hc2⟩
            · rw [hi] at hB2
              obtain ⟨s1, s2, s3⟩ := hB2.step hpl
              exact ⟨_, _, rfl, hm', s1, by omega⟩
          · have e' : ¬ (nx f (r.getD x 0) (D : Int)).2 = true := by simpa using e
            rw [if_neg e'] at hB2
            exact ⟨out2, q2, rfl, hM2, hB2, hc2⟩
        · obtain ⟨m2, qi2, c⟩ := s
          obtain ⟨rfl, out2, q2, rfl, hM2, hB2, hc2⟩ := hJ
          exact Ite.nlt (by show ¬ ((6 : Nat) : Int) < 6; omega) ⟨out2, q2, rfl, hM2, hB2, hc2⟩
      · obtain ⟨t1, t2⟩ := t
        obtain ⟨out2, q2, rfl, hM2, hB2, hc2⟩ := ht
        replace hM2 : MR r out2 t1 := hM2
        refine ⟨⟨out2, q2, rfl, hM2, hB2.fin hpl, by omega⟩, ?_⟩
        show (outM r t1).count (-1) + (q2.map fun p => r.getD p 0).length < (outM r m).count (-1) + ((x :: q).map fun p => r.getD p 0).length
        rw [hM2.eq hB2.ol (fun q hq => by rcases hB2.pt q hq with h | ⟨d, h, _⟩ <;> omega), hM.eq hB.ol (fun q hq => by rcases hpt q hq with h | ⟨d, h, _⟩ <;> omega)]
        simp only [List.length_map, List.length_cons]; omega
end
end Go.Taq

/- The law PatternLimits, in plain data. -/
set_option linter.unusedVariables false
set_option linter.unusedSimpArgs false
namespace Go.Taq
open Go
/-- walks -/
inductive Wlk (E : Nat → Nat → Prop) : Nat → Nat → Nat → Prop
  | zero (a : Nat) : Wlk E 0 a a
  | succ {d a b c : Nat} : E a b → Wlk E d b c → Wlk E (d + 1) a c
theorem Wlk.snoc {E : Nat → Nat → Prop} {d a b c : Nat} (h : Wlk E d a b) (e : E b c) : Wlk E (d + 1) a c := by
  induction h with
  | zero a => exact .succ e (.zero _)
  | succ h1 _ ih => exact .succ h1 (ih e)
theorem Wlk.mono {E E' : Nat → Nat → Prop} (he : ∀ a b, E a b → E' a b) {d a b : Nat} (h : Wlk E d a b) : Wlk E' d a b := by
  induction h with
  | zero a => exact .zero a
  | succ h1 _ ih => exact .succ (he _ _ h1) ih
/-- without loops -/
theorem Wlk.short {E : Nat → Nat → Prop} {d a b : Nat} (h : Wlk E d a b) : ∃ d', d' ≤ d ∧ Wlk (fun a b => a ≠ b ∧ E a b) d' a b := by
  induction h with
  | zero a => exact ⟨0, Nat.le_refl _, .zero a⟩
  | @succ d a b c h1 _ ih =>
    obtain ⟨d', h2, h3⟩ := ih
    by_cases e : a = b
    · subst e; exact ⟨d', by omega, h3⟩
    · exact ⟨d' + 1, by omega, .succ ⟨e, h1⟩ h3⟩
section
variable {f : ApiFloor} {r : List Int} {n : Nat}
/-- the target alone -/
def one (n i : Nat) : ApiLayout := { Full := (List.replicate n false).set i true, Target := (i : Int) }
theorem one_get {i q : Nat} (hi : i < n) : (one n i).Full[q]? = if i = q then some true else if q < n then some false else none := by
  show ((List.replicate n false).set i true)[q]? = _
  rw [set_get1 (by simpa using hi), List.getElem?_replicate]
theorem one_ok {i : Nat} (hi : i < n) : LOk n 1 (one n i) := by
  refine ⟨by simp [one], ?_, by show (0 : Int) ≤ (i : Int); omega, by rw [one_get hi]; show (if i = (i : Int).toNat then some true else _) = _; rw [if_pos (by omega)]⟩
  show ((List.replicate n false).set i true).count true = 1
  rw [List.count_set (by simpa using hi)]
  simp [List.count_replicate]
theorem one_rank {i : Nat} (hi : i < n) : rank n 1 (one n i) = i := by
  have h := (one_ok hi).rkB_lt
  rw [show 1 - 1 = 0 from rfl, ch_zero] at h
  unfold rank
  rw [show 1 - 1 = 0 from rfl, ch_zero]
  have : (one n i).Target.toNat = i := by show (i : Int).toNat = i; omega
  rw [this] at h ⊢; omega
theorem one_unrank {i : Nat} (hi : i < n) : unrank n 1 i = one n i := by
  have := (one_ok hi).unrank
  rwa [one_rank hi] at this
theorem nL1 : nL n 1 = n := by unfold nL; rw [show 1 - 1 = 0 from rfl, ch_zero, Nat.mul_one]
def edg (f : ApiFloor) (r : List Int) (n a b : Nat) : Prop := a < n ∧ b < n ∧ getsB f (r.getD a 0) (r.getD b 0) = true
theorem pre_one {a j : Nat} (hj : j < n) : a ∈ preT f r n 1 j ↔ a ≠ j ∧ edg f r n a j := by
  unfold preT
  rw [one_unrank hj]
  have hdo : ∀ a, a < n → a ≠ j → doL (one n j) j a = one n a := fun a ha hne => by
    have h1 : (doL (one n j) j a).Full = (one n a).Full := by
      apply List.ext_getElem?
      intro q
      show (((one n j).Full.set j false).set a true)[q]? = _
      have hl : (one n j).Full.length = n := by simp [one]
      rw [set2_get, hl, one_get hj, one_get ha]
      by_cases e1 : a = q
      · rw [if_pos ⟨e1, ha⟩, if_pos e1]
      · rw [if_neg (fun h => e1 h.1), if_neg e1]
        by_cases e2 : j = q
        · subst e2; rw [if_pos ⟨rfl, hj⟩, if_pos hj]
        · rw [if_neg (fun h => e2 h.1), if_neg e2]
    have h2 : (doL (one n j) j a).Target = (one n a).Target := by
      show (if (j : Int) = (j : Int) then (a : Int) else (j : Int)) = (a : Int)
      rw [if_pos rfl]
    cases hx : doL (one n j) j a with
    | mk F T => rw [hx] at h1 h2; cases ho : one n a with
      | mk F' T' => rw [ho] at h1 h2; simp only at h1 h2; rw [h1, h2]
  rw [List.mem_map]
  constructor
  · rintro ⟨s, hs, he⟩
    obtain ⟨x, y, rfl, hx, hy, hg⟩ := back_ok hs
    simp only [Int.toNat_natCast] at he
    have hyj : y = j := by
      rw [one_get hj] at hy
      split at hy
      · rename_i h; exact h.symm
      · split at hy <;> simp at hy
    subst hyj
    have hxj : x ≠ y := by rintro rfl; rw [hx] at hy; simp at hy
    have hxn : x < n := by
      have := (List.getElem?_eq_some_iff.1 hx).1
      simpa [one] using this
    rw [hdo x hxn hxj, one_rank hxn] at he
    subst he
    exact ⟨hxj, hxn, hj, hg⟩
  · rintro ⟨hne, ha, _, hg⟩
    refine ⟨{ From := (a : Int), To := (j : Int) }, btw_intro (full := false) (by rw [one_get hj, if_neg (fun h => hne h.symm), if_pos ha]) (by rw [one_get hj, if_pos rfl]; rfl) hg, ?_⟩
    simp only [Int.toNat_natCast]
    rw [hdo a ha hne, one_rank ha]
/-- the table of layouts with one shelf, and the ways in the region -/
theorem one_dist (hf : RF f) (ha : Asc r) (hr : r.length = n) {i g : Nat} (hi : i < n) (hg : g < n) {t out : List Int} (ht : TOk (nL n 1) (preT f r n 1) (srcT n 1 (g : Int)) t) {fc : Bool} (hfc : fineC f (r.getD i 0) = fc) (ho : TOk r.length (suc f r) (fun q => decide (q = i) && fc) out) :
    gT t i = if i = g then 0 else gT out g := by
  rw [nL1] at ht
  have hsrc : ∀ q, q < n → (srcT n 1 (g : Int) q = true ↔ q = g) := fun q hq => by
    unfold srcT; rw [one_unrank hq]
    show decide ((q : Int) = (g : Int)) = true ↔ _
    rw [decide_eq_true_eq]; omega
  have hpl : ∀ j, j < n → ∀ q, q ∈ preT f r n 1 j → q < n := fun j hj q hq => ((pre_one hj).1 hq).2.1
  have b1 : ∀ {d q : Nat}, Pt n (preT f r n 1) (srcT n 1 (g : Int)) d q → Wlk (fun a b => a ≠ b ∧ edg f r n a b) d q g := by
    intro d q h
    induction h with
    | zero h1 h2 => rw [(hsrc _ h1).1 h2]; exact .zero _
    | succ hj h1 ih =>
      have hjn := hj.lt hpl
      exact .succ ((pre_one hjn).1 h1) ih
  have b2 : ∀ {d q : Nat}, q < n → Wlk (fun a b => a ≠ b ∧ edg f r n a b) d q g → Pt n (preT f r n 1) (srcT n 1 (g : Int)) d q := by
    intro d
    induction d with
    | zero => intro q hq h; cases h; exact .zero hq ((hsrc _ hq).2 rfl)
    | succ d ih =>
      intro q hq h
      cases h with
      | succ h1 h2 => exact .succ (ih h1.2.2.1 h2) ((pre_one h1.2.2.1).2 h1)
  have f1 : ∀ {d q : Nat}, Pt r.length (suc f r) (fun q => decide (q = i) && fc) d q → fc = true ∧ Wlk (edg f r n) d i q := by
    intro d q h
    induction h with
    | zero h1 h2 =>
      rw [Bool.and_eq_true, decide_eq_true_eq] at h2
      exact ⟨h2.2, by rw [h2.1]; exact .zero _⟩
    | succ hj h1 ih =>
      obtain ⟨h2, h3⟩ := (suc_iff ha).1 h1
      have hjn := hj.lt (fun j _ => suc_lt ha)
      exact ⟨ih.1, ih.2.snoc ⟨by omega, by omega, h3⟩⟩
  have f2 : ∀ {d a b : Nat}, Wlk (edg f r n) d a b → ∀ {e : Nat}, Pt r.length (suc f r) (fun q => decide (q = i) && fc) e a → Pt r.length (suc f r) (fun q => decide (q = i) && fc) (e + d) b := by
    intro d a b h
    induction h with
    | zero a => intro e h; exact h
    | @succ d a b c h1 _ ih =>
      intro e h
      have := ih (.succ h ((suc_iff ha).2 ⟨by have := h1.2.1; omega, h1.2.2⟩))
      rwa [show e + 1 + d = e + (d + 1) by omega] at this
  by_cases e : i = g
  · rw [if_pos e]
    rcases ht.2.1 i hi with ⟨_, h⟩ | ⟨d, h1, h2, h3⟩
    · exact absurd (.zero hi ((hsrc i hi).2 e)) (h 0)
    · have := h3 0 (.zero hi ((hsrc i hi).2 e))
      rw [h1]; omega
  · rw [if_neg e]
    have hgl : g < r.length := by omega
    have toF : ∀ d, Pt n (preT f r n 1) (srcT n 1 (g : Int)) d i → Pt r.length (suc f r) (fun q => decide (q = i) && fc) d g := fun d h => by
      have hw := b1 h
      have hc : fc = true := by
        cases hw with
        | zero => exact absurd rfl e
        | succ h1 _ =>
          obtain ⟨d, _, h3⟩ := getsB_iff.1 h1.2.2.2
          have := nx_ok hf (c := r.getD i 0) (d := (d : Int)) (by rw [h3])
          rw [← hfc]; unfold fineC
          rw [this.1, decide_eq_true this.2.2.2.2.2]; rfl
      have := f2 (hw.mono (fun a b h => h.2)) (e := 0) (.zero (by omega) (by simp [hc]))
      rwa [Nat.zero_add] at this
    have toB : ∀ d, Pt r.length (suc f r) (fun q => decide (q = i) && fc) d g → ∃ d', d' ≤ d ∧ Pt n (preT f r n 1) (srcT n 1 (g : Int)) d' i := fun d h => by
      obtain ⟨d', h1, h2⟩ := (f1 h).2.short
      exact ⟨d', h1, b2 hi h2⟩
    rcases ht.2.1 i hi with ⟨h1, h2⟩ | ⟨d, h1, h2, h3⟩
    · rcases ho.2.1 g hgl with ⟨k1, _⟩ | ⟨d', k1, k2, _⟩
      · rw [h1, k1]
      · obtain ⟨d2, _, k3⟩ := toB d' k2
        exact absurd k3 (h2 d2)
    · rcases ho.2.1 g hgl with ⟨_, k2⟩ | ⟨d', k1, k2, k3⟩
      · exact absurd (toF d h2) (k2 d)
      · have a1 := k3 d (toF d h2)
        obtain ⟨d2, a2, a3⟩ := toB d' k2
        have := h3 d2 a3
        rw [h1, k1]; omega
theorem S_Inside (hf : RF f) (ha : Asc r) (hr : r.length ≤ 1000) {i : Nat} (hi : i < r.length) {fc : Bool} (hfc : fineC f (r.getD i 0) = fc) {post : List Int → Prop} (hp : ∀ out, TOk r.length (suc f r) (fun q => decide (q = i) && fc) out → post out) : V_region_Inside f r [r.getD i 0] post := by
  unfold V_region_Inside
  refine S_spread hf ha hr hi hfc (fun out m ho hM => ?_)
  have hlow : ∀ q, q < r.length → -1 ≤ gT out q := fun q hq => by rcases ho.2.1 q hq with ⟨h, _⟩ | ⟨d, h, _⟩ <;> omega
  refine Jn.mk (fun x => x = out) (Loop.inv r.length (fun q (s : List Int × Int) => s.2 = (q : Int) ∧ s.1 = out.take q) ⟨rfl, rfl⟩ (fun q s hq hI => ?_) (fun s hI => ?_)) (fun x e => by subst e; exact hp _ ho)
  · obtain ⟨l, c⟩ := s
    obtain ⟨rfl, rfl⟩ := hI
    have hx : r[q]? = some (r.getD q 0) := by rw [List.getD_eq_getElem?_getD, List.getElem?_eq_getElem hq]; rfl
    have hm := hM q hq
    have w1 : w64 ((q : Int) + 1) = ((q + 1 : Nat) : Int) := w64_1 (by omega)
    simp only [w1]
    refine Ite.lt (by show (q : Int) < _; omega) ⟨_, idx_of rfl hx, Jn.mk (fun v => v = gT out q) ?_ (fun v e => ⟨by simp; omega, trivial, ?_⟩)⟩
    · by_cases c : gT out q < 0
      · rw [if_pos c] at hm
        refine Ite.t (by rw [hm]; rfl) ?_
        have := hlow q hq; omega
      · rw [if_neg c] at hm
        exact Ite.f (by rw [hm]; rfl) (by rw [hm]; rfl)
    · subst e
      show out.take q ++ [gT out q] = out.take (q + 1)
      rw [List.take_add_one, gT_get (by rw [ho.1]; exact hq)]; rfl
  · obtain ⟨l, c⟩ := s
    obtain ⟨rfl, rfl⟩ := hI
    exact Ite.nlt (by show ¬ ((r.length : Nat) : Int) < _; omega) (List.take_of_length_le (by rw [ho.1]; exact Nat.le_refl _))
end
theorem Said_taquinlaw27_PatternLimits (f : ApiFloor) (k0 : OkApiFloor f) (r : List Int) (k1 : (OkL I64) r) (k : Int) (k2 : I64 k) (goal : Int) (k3 : I64 goal) : V_taquinlaw27_PatternLimits f r k goal (fun y => y = true) := by
  unfold V_taquinlaw27_PatternLimits
  refine S_small (Jn.mk (fun b => b = false → RF f ∧ r.length ≤ 40 ∧ Asc r) (S_ref07_Few (Ite.f rfl (fun h => by cases h)) (fun _ _ => Ite.t rfl (Ite.mk (fun _ h => by cases h) (fun a1 => S_floor_Right (Ite.f rfl (fun h => by cases h)) (fun hf => Ite.t rfl ?_))))) (fun b hb => Ite.mk (fun _ => rfl) (fun e => ?_)))
  · have b1 := of_decide_eq_false a1
    exact S_region_Right (by omega) (fun h => by cases h) (fun ha _ _ => ⟨hf, by omega, ha⟩)
  obtain ⟨hf, hr, ha⟩ := hb e
  refine S_Refused (by omega) (fun hno => ?_) (fun hyes hli => ?_) (fun hyes hli => ?_)
  · refine Jn.mk (fun b => b = false) (Ite.f rfl rfl) (fun b e => Ite.f e ?_)
    exact S_Build hf rfl (by omega) ha (fun _ => Jn.mk (fun b => b = false) (Ite.f rfl rfl) (fun b e => Ite.f e rfl)) (fun h => absurd h hno) (fun K eK g0 g1 ts hT => absurd (by have := hT.hK; omega) hno)
  · refine Jn.mk (fun b => b = false) (Ite.f rfl rfl) (fun b e => Ite.f e ?_)
    refine S_Build hf rfl (by omega) ha (fun h => absurd hyes h) (fun _ _ => Jn.mk (fun b => b = false) (Ite.f rfl rfl) (fun b e => Ite.f e rfl)) (fun K eK g0 g1 ts hT => absurd hT.li ?_)
    subst eK; simpa using hli
  · refine Jn.mk (fun b => True) ?_ (fun b _ => Ite.mk (fun _ => rfl) (fun _ => ?_))
    · obtain ⟨K, rfl⟩ : ∃ K : Nat, k = (K : Int) := ⟨k.toNat, by omega⟩
      have h24 : r.length ≤ 24 := hli.1
      have w1 : w64 ((r.length : Int).tdiv 2) = ((r.length / 2 : Nat) : Int) := by
        have : (r.length : Int).tdiv 2 = ((r.length / 2 : Nat) : Int) := by
          rw [Int.tdiv_eq_ediv_of_nonneg (by omega)]; rfl
        rw [this, w64_eq (by omega) (by omega)]
      have w2 : w64 ((imin (K : Int) ((r.length / 2 : Nat) : Int)) + 1) = ((min K (r.length / 2) + 1 : Nat) : Int) := by
        have : imin (K : Int) ((r.length / 2 : Nat) : Int) = ((min K (r.length / 2) : Nat) : Int) := by unfold imin; split <;> omega
        rw [this, w64_1 (by omega)]
      rw [w1, w2]
      exact Ite.t rfl (S_rCount (by omega) (by omega) h24 trivial)
    · refine S_Build hf rfl (by omega) ha (fun h => absurd hyes h) (fun _ h => absurd hli h) (fun K eK g0 g1 ts hT => ?_)
      subst eK
      refine Jn.mk (fun b => b = false) (Ite.f rfl rfl) (fun b e => Ite.f e ?_)
      obtain ⟨g, rfl⟩ : ∃ g : Nat, goal = (g : Int) := ⟨goal.toNat, by omega⟩
      refine Jn.mk (fun _ => True) (Loop.inv r.length (fun i (s : Int) => s = (i : Int)) rfl (fun i s hi hI => ?_) (fun s hI => ?_)) (fun _ _ => rfl)
      · subst hI
        have hx : r[i]? = some (r.getD i 0) := by rw [List.getD_eq_getElem?_getD, List.getElem?_eq_getElem hi]; rfl
        have hrep : (List.replicate (Int.toNat (r.length : Int)) false)[i]? = some false := by rw [Int.toNat_natCast, List.getElem?_replicate, if_pos hi]
        obtain ⟨fc, hfc⟩ : ∃ fc, fineC f (r.getD i 0) = fc := ⟨_, rfl⟩
        refine Ite.lt (by omega) ⟨⟨by omega, by omega⟩, false, idx_of rfl hrep, _, idx_of rfl hx, S_Inside hf ha (by omega) hi hfc (fun out ho => ?_)⟩
        have hl1 : (List.replicate (Int.toNat (r.length : Int)) false).set (Int.toNat (i : Int)) true = (one r.length i).Full := by rw [Int.toNat_natCast, Int.toNat_natCast]; rfl
        rw [hl1]
        refine S_pDist (j := 0) (l := one r.length i) hT (one_ok hi) (fun _ => ?_) (fun h => by omega)
        refine Jn.mk (fun b => b = false) (Ite.t rfl ?_) (fun b e => Ite.f e ⟨gT out g, idx_of rfl (gT_get (by rw [ho.1]; omega)), ?_⟩)
        · show ((out.length : Int) != (r.length : Int)) = false
          rw [ho.1]; simp
        · have hd := one_dist hf ha rfl hi (g := g) (by omega) (hT.tb 0 (by omega)) hfc ho
          have hd2 : dD r.length 0 ts (one r.length i) = gT (ts.getD 0 []) i := by
            unfold dD dT; rw [one_rank hi]
          refine Jn.mk (fun v => v = if i = g then 0 else gT out g) (Ite.mk (fun e2 => ?_) (fun e2 => ?_)) (fun v ev => ?_)
          · have : i = g := by have := beq_iff_eq.1 e2; omega
            rw [if_pos this]
          · have : ¬ i = g := by intro h; rw [h] at e2; simp at e2
            rw [if_neg this]
          · refine Ite.f ?_ (w64_1 (by omega))
            show (dD r.length 0 ts (one r.length i) != v) = false
            rw [hd2, hd, ev]; simp
      · subst hI; exact Ite.nlt (by omega) trivial
end Go.Taq
