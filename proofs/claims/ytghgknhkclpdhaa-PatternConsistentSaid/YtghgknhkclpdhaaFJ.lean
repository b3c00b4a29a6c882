/- The mathematics, several parts in one text. -/
import Derived.Test.YtghgknhkclpdhaaFD
import Derived.Test.YtghgknhkclpdhaaAR
/- The mathematics of the patterns, part FE: the reference's bound; what is given; the examples. -/
set_option linter.unusedVariables false
set_option linter.unusedSimpArgs false
namespace Go.Taq
open Go
/-- the worst of some distances -/
def IsB (S : List Bool → Prop) (d : List Bool → Int) (b : Int) : Prop := ((∃ G, S G ∧ d G < 0) ∧ b = -1) ∨ ((∀ G, S G → 0 ≤ d G ∧ d G ≤ b) ∧ 0 ≤ b ∧ (b = 0 ∨ ∃ G, S G ∧ d G = b))
theorem IsB.eq {S : List Bool → Prop} {d : List Bool → Int} {a b : Int} (h : IsB S d a) (k : IsB S d b) : a = b := by
  rcases h with ⟨⟨G, h1, h2⟩, rfl⟩ | ⟨h1, h2, h3⟩
  · rcases k with ⟨_, rfl⟩ | ⟨k1, _⟩
    · rfl
    · have := (k1 G h1).1; omega
  · rcases k with ⟨⟨G, k1, k2⟩, rfl⟩ | ⟨k1, k2, k3⟩
    · have := (h1 G k1).1; omega
    · have a1 : a ≤ b := by
        rcases h3 with e | ⟨G, e1, e2⟩
        · omega
        · have := (k1 G e1).2; omega
      have a2 : b ≤ a := by
        rcases k3 with e | ⟨G, e1, e2⟩
        · omega
        · have := (h1 G e1).2; omega
      omega
theorem bndL_is (d : List Bool → Int) : ∀ (Gs : List (List Bool)) (s : Int), 0 ≤ s → ((∃ G, G ∈ Gs ∧ d G < 0) ∧ bndL d Gs s = -1) ∨ ((∀ G, G ∈ Gs → 0 ≤ d G ∧ d G ≤ bndL d Gs s) ∧ s ≤ bndL d Gs s ∧ (bndL d Gs s = s ∨ ∃ G, G ∈ Gs ∧ d G = bndL d Gs s))
  | [], s, h => .inr ⟨fun _ h => by simp at h, Int.le_refl _, .inl rfl⟩
  | G :: Gs, s, h => by
    rw [bndL]
    by_cases c : d G < 0
    · rw [if_pos c]; exact .inl ⟨⟨G, by simp, c⟩, rfl⟩
    · rw [if_neg c]
      have hm : s ≤ imax s (d G) ∧ d G ≤ imax s (d G) ∧ (imax s (d G) = s ∨ imax s (d G) = d G) := by unfold imax; split <;> omega
      rcases bndL_is d Gs (imax s (d G)) (by omega) with ⟨⟨G', h1, h2⟩, h3⟩ | ⟨h1, h2, h3⟩
      · exact .inl ⟨⟨G', by simp [h1], h2⟩, h3⟩
      · refine .inr ⟨fun G' hG' => ?_, by omega, ?_⟩
        · rcases List.mem_cons.1 hG' with e | e
          · subst e; omega
          · exact h1 G' e
        · rcases h3 with e | ⟨G', e1, e2⟩
          · rcases hm.2.2 with e2 | e2
            · left; omega
            · right; exact ⟨G, by simp, by omega⟩
          · exact .inr ⟨G', by simp [e1], e2⟩
section
variable {n K : Nat} {ts : List (List Int)}
/-- what is chosen -/
def Chosen (n j : Nat) (l : ApiLayout) (G : List Bool) : Prop := LOk n (j + 1) (mkL l.Target G) ∧ Subl (mkL l.Target G) l
theorem bnd_is {k : Nat} {l : ApiLayout} (hl : LOk n k l) : IsB (Chosen n (nO k K) l) (fun G => dD n (nO k K) ts (mkL l.Target G)) (bnd n k K ts l) := by
  have := bndL_is (fun G => dD n (nO k K) ts (mkL l.Target G)) (chs l.Target.toNat n 0 (nO k K) l.Full) 0 (Int.le_refl _)
  have hm : ∀ G, G ∈ chs l.Target.toNat n 0 (nO k K) l.Full ↔ Chosen n (nO k K) l G := fun G => chs_layout hl
  simp only [hm] at this
  exact this
end
/-! ## the reference's choice -/
end Go.Taq

/- The mathematics of the patterns, part FF: the reference's bound; what is given; the examples. -/
set_option linter.unusedVariables false
set_option linter.unusedSimpArgs false
namespace Go.Taq
open Go
section

end
/-! ## what is given -/
theorem S_LRight {l : ApiLayout} {post : Bool → Prop} (hF : post false) (hT : l.Full.length ≤ 24 → LOk l.Full.length (l.Full.count true) l → post true) : V_layout_Right l post := by
  unfold V_layout_Right
  by_cases c : (l.Full.length : Int) ≥ 1 ∧ (l.Full.length : Int) ≤ 24 ∧ l.Target ≥ 0 ∧ l.Target < (l.Full.length : Int)
  · obtain ⟨c1, c2, c3, c4⟩ := c
    have hx : l.Full[l.Target.toNat]? = some (l.Full[l.Target.toNat]'(by omega)) := List.getElem?_eq_getElem _
    generalize l.Full[l.Target.toNat]'(by omega) = b at hx
    refine Jn.mk (fun x => x = b) (Ite.t (by simpa using c1) (Ite.t (by simpa using c2) (Ite.t (by simpa using c3) (Ite.t (by simpa using c4) ⟨b, idx_of (by omega) hx, rfl⟩)))) (fun x e => ?_)
    subst e
    cases x with
    | false => exact hF
    | true => exact hT (by omega) ⟨rfl, rfl, by omega, hx⟩
  · refine Jn.mk (fun b => b = false) (Ite.mk (fun a1 => Ite.mk (fun a2 => Ite.mk (fun a3 => Ite.mk (fun a4 => ?_) (fun _ => rfl)) (fun _ => rfl)) (fun _ => rfl)) (fun _ => rfl)) (fun b e => by rw [e]; exact hF)
    exact absurd ⟨of_decide_eq_true a1, of_decide_eq_true a2, of_decide_eq_true a3, of_decide_eq_true a4⟩ c
theorem S_region_Right {r : List Int} (hl : r.length ≤ 1000000) {post : Bool → Prop} (hF : post false) (hT : Asc r → (∀ x, x ∈ r → 0 ≤ x) → post true) : V_region_Right r post := by
  unfold V_region_Right
  refine Jn.mk (fun _ => Asc r ∧ ∀ x, x ∈ r → 0 ≤ x) (Loop.inv r.length (fun i (s : Int) => s = (i : Int) ∧ (∀ (j : Nat) x y, j + 1 < i → r[j]? = some x → r[j + 1]? = some y → x < y) ∧ ∀ (j : Nat) x, j < i → r[j]? = some x → 0 ≤ x) ⟨rfl, fun j x y h => by omega, fun j x h => by omega⟩ (fun i s hi hI => ?_) (fun s hI => ?_)) (fun _ h => hT h.1 h.2)
  · obtain ⟨rfl, hI, hP⟩ := hI
    have hx : r[i]? = some (r[i]'hi) := List.getElem?_eq_getElem hi
    generalize r[i]'hi = x at hx
    refine Ite.lt (by omega) ⟨x, idx_of rfl hx, Jn.mk (fun b => b = false → 0 ≤ x ∧ ∀ (j : Nat) x y, j + 1 < i + 1 → r[j]? = some x → r[j + 1]? = some y → x < y) ?_ (fun b hb => Ite.mk (fun e => hF) (fun e => ⟨w64_1 (by omega), (hb e).2, fun j y hj hy => ?_⟩))⟩
    · unfold V_region_isCell
      refine Jn.mk (fun b => b = true → 0 ≤ x) (Ite.mk (fun h1 h2 => of_decide_eq_true h1) (fun h1 h2 => by cases h2)) (fun b hb => Ite.mk (fun e => ?_) (fun e h => by cases h))
      have h0 := hb e
      refine Ite.mk (fun e => ?_) (fun e h => ⟨h0, ?_⟩)
      · have e' : 0 < i := by have := of_decide_eq_true e; omega
        have hy : r[i - 1]? = some (r[i - 1]'(by omega)) := List.getElem?_eq_getElem (by omega)
        generalize r[i - 1]'(by omega) = y at hy
        refine ⟨y, by rw [w64_p (by omega) (by omega)]; exact idx_of rfl hy, fun h => ⟨h0, ?_⟩⟩
        have h' := of_decide_eq_false h
        intro j x' y' hj h1 h2
        by_cases e2 : j + 1 = i
        · have : j = i - 1 := by omega
          subst this
          rw [hy] at h1; rw [e2, hx] at h2
          cases h1; cases h2; omega
        · exact hI j x' y' (by omega) h1 h2
      · have e' : ¬ 0 < i := by have := of_decide_eq_false e; omega
        intro j x' y' hj h1 h2; omega
    · by_cases e2 : j = i
      · subst e2; rw [hx] at hy; cases hy; exact (hb e).1
      · exact hP j y (by omega) hy
  · obtain ⟨rfl, hI, hP⟩ := hI
    refine Ite.nlt (by omega) ⟨fun i j x y hij h1 h2 => ?_, fun x hx => ?_⟩
    · have key : ∀ m (j : Nat) y, j = i + 1 + m → r[j]? = some y → x < y := by
        intro m
        induction m with
        | zero => intro j y e h2; subst e; exact hI i x y (by have := (List.getElem?_eq_some_iff.1 h2).1; omega) h1 h2
        | succ m ih =>
          intro j y e h2
          have hjl := (List.getElem?_eq_some_iff.1 h2).1
          have hz : r[i + 1 + m]? = some (r[i + 1 + m]'(by omega)) := List.getElem?_eq_getElem (by omega)
          have a1 := ih _ _ rfl hz
          have a2 := hI (i + 1 + m) _ y (by omega) hz (by rw [show i + 1 + m + 1 = j by omega]; exact h2)
          omega
      exact key (j - i - 1) j y (by omega) h2
    · obtain ⟨j, hj, e⟩ := List.mem_iff_getElem.1 hx
      exact hP j x hj (by rw [List.getElem?_eq_getElem hj, e])
theorem imax_gt {x y k : Int} : imax x y > k ↔ x > k ∨ y > k := by unfold imax; split <;> omega
theorem S_floor_Right {f : ApiFloor} {post : Bool → Prop} (hF : post false) (hT : RF f → post true) : V_floor_Right f post := by
  unfold V_floor_Right
  refine Jor3 (Ite.mk (fun _ => hF) (fun h1 => ?_))
  simp only [Bool.or_eq_false_iff, decide_eq_false_iff_not, imin_lt, imax_gt] at h1
  obtain ⟨⟨a1, a2⟩, a3⟩ := h1
  have e := size_eq (f := f) (by omega) (by omega) (by omega) (by omega) (by omega) (by omega)
  unfold V_floor_size
  rw [e.1]
  refine Jor3 (Ite.mk (fun _ => hF) (fun h2 => ?_))
  simp only [Bool.or_eq_false_iff, decide_eq_false_iff_not, bne_eq_false_iff_eq] at h2
  obtain ⟨⟨b1, b2⟩, b3⟩ := h2
  have hl : f.Kind.length ≤ maxLen := by unfold maxLen; omega
  refine Jn.mk (fun _ => ∀ (i : Nat) x y, f.Kind[i]? = some x → f.Out[i]? = some y → 0 ≤ x ∧ x < 7 ∧ 0 ≤ y ∧ y ≤ 63)
    (V_loopc hl (fun s => s) (fun n _ => ∀ (i : Nat) x y, i < n → f.Kind[i]? = some x → f.Out[i]? = some y → 0 ≤ x ∧ x < 7 ∧ 0 ≤ y ∧ y ≤ 63) rfl (fun i x y h => by omega) (fun n x t hx ht hall => ?_) (fun t h i x y hx hy => h i x y (List.getElem?_eq_some_iff.1 hx).1 hx hy)) (fun _ h => hT ?_)
  · have hn := (List.getElem?_eq_some_iff.1 hx).1
    have ho : f.Out[n]? = some (f.Out[n]'(by omega)) := List.getElem?_eq_getElem _
    refine Jn.eq (decide (x < 0) || decide (x ≥ 7) || decide (f.Out[n]'(by omega) < 0) || decide (f.Out[n]'(by omega) > 63)) ?_ ?_
    · refine Ite.mk (fun h => by rw [h]; rfl) (fun h => Ite.mk (fun h' => by rw [h, h']; rfl) (fun h' => ⟨_, by rw [ht]; exact idx_of rfl ho, Ite.mk (fun h'' => by rw [h, h', h'']; rfl) (fun h'' => by rw [h, h', h'']; rfl)⟩))
    · refine Ite.mk (fun _ => hF) (fun h3 => ⟨by rw [ht], fun i x' y' hi hx' hy' => ?_⟩)
      simp only [Bool.or_eq_false_iff, decide_eq_false_iff_not] at h3
      by_cases e : i = n
      · subst e; rw [hx] at hx'; rw [ho] at hy'; cases hx'; cases hy'; omega
      · exact hall i x' y' (by omega) hx' hy'
  · exact ⟨by omega, by omega, by omega, by omega, by omega, by omega, by omega, by omega, by omega, h⟩
theorem S_given {f : ApiFloor} {r : List Int} {l : ApiLayout} {most : Nat} (hm : most ≤ 24) {post : Bool → Prop} (hF : post false) (hT : RF f → r.length ≤ most → Asc r → LOk r.length (l.Full.count true) l → post true) : V_taquinlaw27_given f r l (most : Int) post := by
  unfold V_taquinlaw27_given
  by_cases c : (r.length : Int) > most
  · refine Jn.mk (fun b => b = true) (S_ref07_Few (Ite.f rfl rfl) (fun _ _ => Ite.t rfl (Ite.t (by simpa using c) rfl))) (fun b e => Ite.t e hF)
  by_cases c2 : (l.Full.length : Int) = (r.length : Int)
  · have e2 : l.Full.length = r.length := by omega
    refine Jn.mk (fun b => b = false → LOk r.length (l.Full.count true) l) (S_ref07_Few (Ite.f rfl (fun h => by cases h)) (fun _ _ => Ite.t rfl (Ite.f (by simpa using c) (Ite.f (by simp [c2]) (S_LRight (fun h => by cases h) (fun _ hok _ => by rw [e2] at hok; exact hok)))))) (fun b hb => Ite.mk (fun _ => hF) (fun e => ?_))
    have hok := hb e
    exact Jn.mk' (S_floor_Right (Ite.f rfl hF) (fun hf => Ite.t rfl (S_region_Right (by omega) hF (fun ha _ => hT hf (by omega) ha hok))))
  · refine Jn.mk (fun b => b = true) (S_ref07_Few (Ite.f rfl rfl) (fun _ _ => Ite.t rfl (Ite.f (by simpa using c) (Ite.t (by simpa using c2) rfl)))) (fun b e => Ite.t e hF)
end Go.Taq

/- The mathematics of the patterns, part FG: the examples; what the bounds say. -/
set_option linter.unusedVariables false
set_option linter.unusedSimpArgs false
namespace Go.Taq
open Go
/-- a table that is right, checked -/
def chkT (N : Nat) (pre : Nat → List Nat) (src : Nat → Bool) (t : List Int) : Bool :=
  decide (t.length = N) && (List.range N).all fun i => decide (gT t i ≤ N) && decide (-1 ≤ gT t i) && (src i == decide (gT t i = 0)) && (decide (gT t i ≤ 0) || (List.range N).any fun j => decide (gT t j = gT t i - 1) && (pre j).contains i) && (decide (gT t i < 0) || (pre i).all fun p => decide (0 ≤ gT t p) && decide (gT t p ≤ gT t i + 1))
theorem TOk.chk {N : Nat} {pre : Nat → List Nat} {src : Nat → Bool} {t : List Int} (hp : ∀ j, j < N → ∀ i, i ∈ pre j → i < N) (h : chkT N pre src t = true) : TOk N pre src t := by
  unfold chkT at h
  simp only [Bool.and_eq_true, decide_eq_true_eq, List.all_eq_true, List.mem_range, Bool.or_eq_true, List.any_eq_true, beq_iff_eq, List.contains_iff_mem] at h
  obtain ⟨hl, h⟩ := h
  have hpt : ∀ {e i : Nat}, Pt N pre src e i → 0 ≤ gT t i ∧ gT t i ≤ (e : Int) := by
    intro e i hP
    induction hP with
    | zero h1 h2 =>
      have h3 : src _ = _ := (h _ h1).1.1.2
      rw [h2] at h3
      have := of_decide_eq_true h3.symm
      omega
    | succ hj hi ih =>
      have hjn := hj.lt hp
      rcases (h _ hjn).2 with h3 | h3
      · omega
      · have := h3 _ hi; omega
  have hex : ∀ (d i : Nat), i < N → gT t i = (d : Int) → Pt N pre src d i := by
    intro d
    induction d with
    | zero =>
      intro i hi he
      refine .zero hi ?_
      rw [(h i hi).1.1.2]; exact decide_eq_true (by omega)
    | succ d ih =>
      intro i hi he
      rcases (h i hi).1.2 with h3 | ⟨j, hj, h4, h5⟩
      · omega
      · exact .succ (ih j hj (by omega)) h5
  refine ⟨hl, fun i hi => ?_, fun i hi => (h i hi).1.1.1.1⟩
  rcases Int.lt_or_le (gT t i) 0 with c | c
  · have := (h i hi).1.1.1.2
    exact .inl ⟨by omega, fun d hd => by have := hpt hd; omega⟩
  · obtain ⟨d, hd⟩ : ∃ d : Nat, gT t i = (d : Int) := ⟨(gT t i).toNat, by omega⟩
    exact .inr ⟨d, hd, hex d i hi hd, fun e he => by have := hpt he; omega⟩
def rowF : ApiFloor := { W := 4, H := 1, D := 1, Kind := [1, 1, 1, 1], Out := [1, 5, 5, 4] }
def r4 : List Int := [0, 1, 2, 3]
def tA : List Int := [3, 2, 1, 0]
def tB : List Int := (List.range 12).map fun i => let l := unrank 4 2 i; if l.Target = 3 then 0 else if (l.Full.drop (l.Target.toNat + 1)).contains true then -1 else 3 - l.Target
theorem RF_row : RF rowF := by
  refine ⟨by decide, by decide, by decide, by decide, by decide, by decide, by decide, by decide, by decide, fun i x y hx hy => ?_⟩
  have key : ∀ i : Nat, i < 4 → (0 ≤ rowF.Kind.getD i 0 ∧ rowF.Kind.getD i 0 < 7) ∧ (0 ≤ rowF.Out.getD i 0 ∧ rowF.Out.getD i 0 ≤ 63) := by decide
  have hi : i < 4 := (List.getElem?_eq_some_iff.1 hx).1
  have e1 : rowF.Kind.getD i 0 = x := by rw [List.getD_eq_getElem?_getD, hx]; rfl
  have e2 : rowF.Out.getD i 0 = y := by rw [List.getD_eq_getElem?_getD, hy]; rfl
  have := key i hi
  rw [e1, e2] at this
  omega
theorem Asc_r4 : Asc r4 := by
  intro i j x y hij hx hy
  have hj : j < 4 := (List.getElem?_eq_some_iff.1 hy).1
  have key : ∀ j, j < 4 → ∀ i, i < j → r4.getD i 0 < r4.getD j 0 := by decide +kernel
  have e1 : r4.getD i 0 = x := by rw [List.getD_eq_getElem?_getD, hx]; rfl
  have e2 : r4.getD j 0 = y := by rw [List.getD_eq_getElem?_getD, hy]; rfl
  rw [← e1, ← e2]; exact key j hj i hij
theorem chkA : chkT 4 (preT rowF r4 4 1) (srcT 4 1 3) tA = true := by decide +kernel
theorem chkB : chkT 12 (preT rowF r4 4 2) (srcT 4 2 3) tB = true := by decide +kernel
theorem row_tables {K : Nat} (hK : K ≤ 1) {ts : List (List Int)} (h : Db rowF r4 4 K 3 ts) : ts = if K = 0 then [tA] else [tA, tB] := by
  have a1 : ts.getD 0 [] = tA := (h.tb 0 (by omega)).eq (TOk.chk (preT_lt (by decide) (by decide)) chkA)
  have hl := h.len
  by_cases c : K = 0
  · subst c
    rw [if_pos rfl]
    match ts, hl with
    | [t], _ => simpa using a1
  · have : K = 1 := by omega
    subst this
    have a2 : ts.getD 1 [] = tB := (h.tb 1 (by omega)).eq (TOk.chk (preT_lt (by decide) (by decide)) chkB)
    rw [if_neg (by decide)]
    match ts, hl with
    | [t, u], _ => simp at a1 a2; rw [a1, a2]
theorem S_at {t o : Nat} (ht : t < 4) (ho : o < 4) {post : ApiLayout → Prop} (hp : post { Full := ((List.replicate 4 false).set t true).set o true, Target := (t : Int) }) : V_taquinlaw27_at (t : Int) (o : Int) post := by
  unfold V_taquinlaw27_at
  have key : ∀ t : Nat, t < 4 → band .i64 (t : Int) 3 = (t : Int) := by decide +kernel
  rw [key t ht, key o ho]
  refine ⟨⟨by decide, by decide⟩, false, idx_of rfl ?_, ?_⟩
  · simp only [Int.reduceToNat, List.getElem?_replicate]; rw [if_pos ht]
  · simp only [Int.reduceToNat, Int.toNat_natCast]
    have hx : ((List.replicate 4 false).set t true)[o]? = some (((List.replicate 4 false).set t true)[o]'(by simpa using ho)) := List.getElem?_eq_getElem _
    exact ⟨_, idx_of rfl hx, hp⟩
theorem okA {t o : Nat} (ht : t < 4) (ho : o < 4) : LOk 4 (if t = o then 1 else 2) { Full := ((List.replicate 4 false).set t true).set o true, Target := (t : Int) } := by
  have key : ∀ t : Nat, t < 4 → ∀ o : Nat, o < 4 → (((List.replicate 4 false).set t true).set o true).count true = (if t = o then 1 else 2) ∧ (((List.replicate 4 false).set t true).set o true)[t]? = some true := by decide
  obtain ⟨a, b⟩ := key t ht o ho
  exact ⟨by simp, a, by show (0 : Int) ≤ t; omega, by show (((List.replicate 4 false).set t true).set o true)[(t : Int).toNat]? = _; rw [Int.toNat_natCast]; exact b⟩
theorem S_small {post : Bool → Prop} (hp : post true) : V_taquinlaw27_small post := by
  unfold V_taquinlaw27_small V_taquinlaw27_row
  have hl0 : lim 4 0 := by
    refine ⟨by decide, fun j hj => ?_⟩
    have e : j = 0 := by omega
    subst e
    decide +kernel
  have hl1 : lim 4 1 := by
    refine ⟨by decide, fun j hj => ?_⟩
    have e : j = 0 ∨ j = 1 := by omega
    rcases e with e | e <;> subst e <;> decide +kernel
  refine S_Build (n := 4) RF_row rfl (by decide) Asc_r4 (fun h => absurd (by decide) h) (fun _ h => absurd hl0 h) (fun K eK _ _ ts hD => ?_)
  obtain rfl : K = 0 := by omega
  refine S_Build (n := 4) RF_row rfl (by decide) Asc_r4 (fun h => absurd (by decide) h) (fun _ h => absurd hl1 h) (fun K eK _ _ us hU => ?_)
  obtain rfl : K = 1 := by omega
  have e1 := row_tables (by decide) hD
  have e2 := row_tables (by decide) hU
  rw [if_pos rfl] at e1; rw [if_neg (by decide)] at e2
  subst e1; subst e2
  refine Jn.mk (fun b => b = false) (Ite.f rfl rfl) (fun b e => Ite.f e (Jn.mk (fun b => b = true) ?_ (fun b e => by rw [e]; exact hp)))
  refine S_at (t := 0) (o := 0) (by decide) (by decide) (S_Bound hD (okA (t := 0) (o := 0) (by decide) (by decide)) (Ite.t (by decide +kernel) ?_))
  refine S_at (t := 0) (o := 2) (by decide) (by decide) (S_Bound hD (okA (t := 0) (o := 2) (by decide) (by decide)) (Ite.t (by decide +kernel) ?_))
  refine S_at (t := 0) (o := 2) (by decide) (by decide) (S_Bound hU (okA (t := 0) (o := 2) (by decide) (by decide)) (Ite.t (by decide +kernel) ?_))
  refine S_at (t := 2) (o := 0) (by decide) (by decide) (S_Bound hU (okA (t := 2) (o := 0) (by decide) (by decide)) ?_)
  decide +kernel
/-! ## what the bounds say -/
theorem lim10 {n K : Nat} (hn : n ≤ 10) : lim n K := by
  refine ⟨by omega, fun j _ => ?_⟩
  have h1 := ch_pow (n - 1) (j + 1 - 1)
  have h2 : 2 ^ (n - 1) ≤ 2 ^ 9 := Nat.pow_le_pow_right (by omega) (by omega)
  have h3 : ch (n - 1) (j + 1 - 1) ≤ 512 := by omega
  have := Nat.mul_le_mul hn h3
  unfold nL; omega
section
variable {f : ApiFloor} {r : List Int} {n K : Nat} {goal : Int} {ts : List (List Int)}
theorem Db.dst (h : Db f r n K goal ts) (hn : n ≤ 12) {j : Nat} (hj : j ≤ K) : Dst f r n (j + 1) goal (ts.getD j []) := ⟨by omega, by have := h.hK; omega, hn, h.hr, h.tb j hj⟩
theorem nO_le {k K : Nat} : nO k K ≤ K ∧ nO k K ≤ k - 1 := by unfold nO; omega
/-- the bound and one shift -/
theorem bnd_step (h : Db f r n K goal ts) (hn : n ≤ 12) {k : Nat} {l : ApiLayout} (hl : LOk n k l) {s : ApiShift} (hs : s ∈ btw f r l true) (h0 : 0 ≤ bnd n k K ts (doS l s)) : 0 ≤ bnd n k K ts l ∧ bnd n k K ts l ≤ bnd n k K ts (doS l s) + 1 := by
  have hm := hl.doS hs
  have n1 := nO_le (k := k) (K := K)
  have B := bnd_is (K := K) (ts := ts) hm
  have A := bnd_is (K := K) (ts := ts) hl
  rcases B with ⟨_, e⟩ | ⟨B1, _, _⟩
  · omega
  · have all : ∀ G, Chosen n (nO k K) l G → 0 ≤ dD n (nO k K) ts (mkL l.Target G) ∧ dD n (nO k K) ts (mkL l.Target G) ≤ bnd n k K ts (doS l s) + 1 := fun G hG => by
      obtain ⟨a', a1, a2, a3⟩ := hG.2.step hG.1 hs
      have ea : mkL (doS l s).Target a'.Full = a' := by cases a'; simp [mkL]; exact a2.tg.symm
      have hb1 : 0 ≤ dD n (nO k K) ts (mkL (doS l s).Target a'.Full) ∧ dD n (nO k K) ts (mkL (doS l s).Target a'.Full) ≤ bnd n k K ts (doS l s) := B1 a'.Full ⟨by rw [ea]; exact a1, by rw [ea]; exact a2⟩
      rw [ea] at hb1
      rcases a3 with e | ⟨q, hq, e⟩
      · rw [e] at hb1; omega
      · rw [e] at hb1
        have := (h.dst hn n1.1).near hG.1 hq hb1.1
        unfold dD at hb1 ⊢; omega
    rcases A with ⟨⟨G, g1, g2⟩, _⟩ | ⟨A1, A2, A3⟩
    · have := all G g1; simp only at g2; omega
    · refine ⟨A2, ?_⟩
      rcases A3 with e | ⟨G, g1, g2⟩
      · omega
      · have := all G g1; simp only at g2; omega
end
end Go.Taq

/- The law PatternConsistent, in plain data. -/
set_option linter.unusedVariables false
set_option linter.unusedSimpArgs false
namespace Go.Taq
open Go
theorem Said_taquinlaw27_PatternConsistent (f : ApiFloor) (k0 : OkApiFloor f) (r : List Int) (k1 : (OkL I64) r) (k : Int) (k2 : I64 k) (goal : Int) (k3 : I64 goal) (l : ApiLayout) (k4 : OkApiLayout l) : V_taquinlaw27_PatternConsistent f r k goal l (fun y => y = true) := by
  unfold V_taquinlaw27_PatternConsistent
  refine S_small (Jn.mk (fun b => b = false → RF f ∧ r.length ≤ 10 ∧ Asc r ∧ LOk r.length (l.Full.count true) l ∧ 0 ≤ k ∧ k < r.length ∧ 0 ≤ goal ∧ goal < r.length) (S_given (most := 10) (by decide) (Ite.f rfl (fun h => by cases h)) (fun hf hr ha hl => Ite.t rfl (Ite.mk (fun _ h => by cases h) (fun a1 => Ite.mk (fun _ h => by cases h) (fun a2 => Ite.mk (fun _ h => by cases h) (fun a3 => Ite.mk (fun _ h => by cases h) (fun a4 h => ?_))))))) (fun b hb => Ite.mk (fun _ => rfl) (fun e => ?_)))
  · have b1 := of_decide_eq_false a1; have b2 := of_decide_eq_false a2; have b3 := of_decide_eq_false a3; have b4 := of_decide_eq_false a4; have b5 := of_decide_eq_false h
    exact ⟨hf, hr, ha, hl, by omega, by omega, by omega, by omega⟩
  obtain ⟨hf, hr, ha, hl, c1, c2, c3, c4⟩ := hb e
  refine S_Build hf rfl (by omega) ha (fun h => absurd ⟨c3, c4, c1, c2⟩ h) (fun h h' => absurd (lim10 (by omega)) h') (fun K eK g0 g1 ts hT => ?_)
  subst eK
  have hkp := hl.kpos
  have hkl := hl.kle
  refine Jn.mk (fun b => b = false) (Ite.f rfl rfl) (fun b e => Ite.f e (S_Bound hT hl ?_))
  unfold V_layout_Shifts
  refine S_shifts hf (by rw [hl.len]) (by rw [hl.len]; omega) ha ?_
  have hbl := btw_len (f := f) (r := r) (l := l) (full := true) (by rw [hl.len]; omega)
  refine Jn.mk (fun _ => True) (Loop.inv (btw f r l true).length (fun i (s : Int) => s = (i : Int)) rfl (fun i s hi hI => ?_) (fun s hI => ?_)) (fun _ _ => rfl)
  · subst hI
    have hx : (btw f r l true)[i]? = some ((btw f r l true)[i]'hi) := List.getElem?_eq_getElem hi
    have hmem := List.mem_of_getElem? hx
    generalize (btw f r l true)[i]'hi = s at hx hmem
    obtain ⟨a, b, rfl, h1, h2, _⟩ := back_ok hmem
    have h2' : l.Full[b]? = some false := by simpa using h2
    have hst := bnd_step hT (by omega) hl hmem
    have hm := hl.doS hmem
    have hdo : doS l { From := (a : Int), To := (b : Int) } = doL l a b := rfl
    rw [hdo] at hst hm
    refine Ite.lt (by omega) (Jn.mk (fun (t : List Bool × Int × Int) => t = ((doL l a b).Full, (doL l a b).Target, 0)) ⟨_, idx_of rfl hx, S_Do h1 h2' (by rw [hl.len]; omega) rfl⟩ (fun t et => ?_))
    subst et
    refine Ite.f rfl (S_Bound (l := doL l a b) hT hm ?_)
    have hB := bnd_is (K := K) (ts := ts) hl
    have hB' := bnd_is (K := K) (ts := ts) hm
    have hlow : -1 ≤ bnd r.length (l.Full.count true) K ts l := by rcases hB with ⟨_, e⟩ | ⟨_, e, _⟩ <;> omega
    have hlow' : -1 ≤ bnd r.length (l.Full.count true) K ts (doL l a b) := by rcases hB' with ⟨_, e⟩ | ⟨_, e, _⟩ <;> omega
    have hup : bnd r.length (l.Full.count true) K ts l ≤ 1000000 := by
      rcases hB with ⟨_, e⟩ | ⟨_, _, e | ⟨G, g1, g2⟩⟩
      · omega
      · omega
      · rw [← g2]
        have n1 := nO_le (k := l.Full.count true) (K := K)
        have := (hT.tb _ n1.1).2.2 _ g1.1.rank_lt
        have h4 := (lim10 (n := r.length) (K := K) (by omega)).2 _ n1.1
        simp only [dD, dT]; omega
    generalize bnd r.length (l.Full.count true) K ts l = x at *
    generalize bnd r.length (l.Full.count true) K ts (doL l a b) = y at *
    have w : w64 (x - 1) = x - 1 := w64_eq (by omega) (by omega)
    rw [w]
    refine Jn.mk (fun b => b = false) ?_ (fun b e => Ite.f e (w64_1 (by omega)))
    have tail : Ite (decide (x > 0)) (Ite (decide (y ≥ 0)) (decide (y < x - 1) = false) (false = false)) (false = false) := by
      refine Ite.mk (fun e1 => Ite.mk (fun e2 => ?_) (fun _ => rfl)) (fun _ => rfl)
      have := hst (of_decide_eq_true e2)
      exact decide_eq_false (by omega)
    refine Ite.mk (fun e1 => Ite.mk (fun e2 => ?_) (fun _ => tail)) (fun _ => tail)
    exfalso
    have e1' : x = -1 := by simpa using e1
    have e2' : y ≠ -1 := by simpa using e2
    have := hst (by omega)
    omega
  · subst hI; exact Ite.nlt (by omega) trivial
end Go.Taq
