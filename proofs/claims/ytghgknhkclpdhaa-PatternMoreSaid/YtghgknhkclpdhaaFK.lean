/- The mathematics, several parts in one text. -/
import Derived.Test.YtghgknhkclpdhaaFD
import Derived.Test.YtghgknhkclpdhaaAR
/- The mathematics of the patterns, part FE: the reference's bound; what is given; the examples. -/
set_option linter.unusedVariables false
set_option linter.unusedSimpArgs false
namespace Go.Taq
open Go
/-- the worst of some distances -/
def IsB (S : List Bool → Prop) (d : List Bool → Int) (b : Int) : Prop := ((∃ G, S G ∧ d G < 0) ∧ b = -1) ∨ ((∀ G, S G → 0 ≤ d G ∧ d G ≤ b) ∧ 0 ≤ b ∧ (b = 0 ∨ ∃ G, S G ∧ d G = b))
theorem IsB.eq {S : List Bool → Prop} {d : List Bool → Int} {a b : Int} (h : IsB S d a) (k : IsB S d b) : a = b := by
  rcases h with ⟨⟨G, h1, h2⟩, rfl⟩ | ⟨h1, h2, h3⟩
  · rcases k with ⟨_, rfl⟩ | ⟨k1, _⟩
    · rfl
    · have := (k1 G h1).1; omega
  · rcases k with ⟨⟨G, k1, k2⟩, rfl⟩ | ⟨k1, k2, k3⟩
    · have := (h1 G k1).1; omega
    · have a1 : a ≤ b := by
        rcases h3 with e | ⟨G, e1, e2⟩
        · omega
        · have := (k1 G e1).2; omega
      have a2 : b ≤ a := by
        rcases k3 with e | ⟨G, e1, e2⟩
        · omega
        · have := (h1 G e1).2; omega
      omega
theorem bndL_is (d : List Bool → Int) : ∀ (Gs : List (List Bool)) (s : Int), 0 ≤ s → ((∃ G, G ∈ Gs ∧ d G < 0) ∧ bndL d Gs s = -1) ∨ ((∀ G, G ∈ Gs → 0 ≤ d G ∧ d G ≤ bndL d Gs s) ∧ s ≤ bndL d Gs s ∧ (bndL d Gs s = s ∨ ∃ G, G ∈ Gs ∧ d G = bndL d Gs s))
  | [], s, h => .inr ⟨fun _ h => by simp at h, Int.le_refl _, .inl rfl⟩
  | G :: Gs, s, h => by
    rw [bndL]
    by_cases c : d G < 0
    · rw [if_pos c]; exact .inl ⟨⟨G, by simp, c⟩, rfl⟩
    · rw [if_neg c]
      have hm : s ≤ imax s (d G) ∧ d G ≤ imax s (d G) ∧ (imax s (d G) = s ∨ imax s (d G) = d G) := by unfold imax; split <;> omega
      rcases bndL_is d Gs (imax s (d G)) (by omega) with ⟨⟨G', h1, h2⟩, h3⟩ | ⟨h1, h2, h3⟩
      · exact .inl ⟨⟨G', by simp [h1], h2⟩, h3⟩
      · refine .inr ⟨fun G' hG' => ?_, by omega, ?_⟩
        · rcases List.mem_cons.1 hG' with e | e
          · subst e; omega
          · exact h1 G' e
        · rcases h3 with e | ⟨G', e1, e2⟩
          · rcases hm.2.2 with e2 | e2
            · left; omega
            · right; exact ⟨G, by simp, by omega⟩
          · exact .inr ⟨G', by simp [e1], e2⟩
section
variable {n K : Nat} {ts : List (List Int)}
/-- what is chosen -/
def Chosen (n j : Nat) (l : ApiLayout) (G : List Bool) : Prop := LOk n (j + 1) (mkL l.Target G) ∧ Subl (mkL l.Target G) l
theorem bnd_is {k : Nat} {l : ApiLayout} (hl : LOk n k l) : IsB (Chosen n (nO k K) l) (fun G => dD n (nO k K) ts (mkL l.Target G)) (bnd n k K ts l) := by
  have := bndL_is (fun G => dD n (nO k K) ts (mkL l.Target G)) (chs l.Target.toNat n 0 (nO k K) l.Full) 0 (Int.le_refl _)
  have hm : ∀ G, G ∈ chs l.Target.toNat n 0 (nO k K) l.Full ↔ Chosen n (nO k K) l G := fun G => chs_layout hl
  simp only [hm] at this
  exact this
end
/-! ## the reference's choice -/
def bt (bits : Int) (i : Nat) : Bool := band .i64 (shrI .i64 bits (i : Int)) 1 == 1
def chB (F : List Bool) (T : Nat) (p : Nat → Bool) : List Bool := (List.range F.length).map fun i => decide (i = T) || (F.getD i false && p i)
theorem chB_len {F : List Bool} {T : Nat} {p : Nat → Bool} : (chB F T p).length = F.length := by simp [chB]
theorem chB_get {F : List Bool} {T : Nat} {p : Nat → Bool} {i : Nat} {x : Bool} (hx : F[i]? = some x) : (chB F T p)[i]? = some (decide (i = T) || (x && p i)) := by
  have hi := (List.getElem?_eq_some_iff.1 hx).1
  unfold chB
  rw [List.getElem?_map, List.getElem?_range hi, Option.map_some, List.getD_eq_getElem?_getD, hx]; rfl
theorem S_Choice {n : Nat} (hn : n ≤ 1000) {l : ApiLayout} (hl : l.Full.length = n) (t0 : 0 ≤ l.Target) {bits : Int} {post : ApiLayout → Prop} (hp : post (mkL l.Target (chB l.Full l.Target.toNat (bt bits)))) : V_taquinref27_Choice l bits post := by
  unfold V_taquinref27_Choice
  refine ⟨⟨by omega, by omega⟩, ?_⟩
  simp only [Int.toNat_natCast]
  refine Jn.mk (fun x => x = chB l.Full l.Target.toNat (bt bits)) (Loop.inv n (fun i (s : List Bool × Int) => s.2 = (i : Int) ∧ s.1.length = n ∧ ∀ q, q < i → s.1[q]? = (chB l.Full l.Target.toNat (bt bits))[q]?) ⟨rfl, by simp [hl], fun q h => by omega⟩ (fun i s hi hI => ?_) (fun s hI => ?_)) (fun x e => by subst e; exact hp)
  · obtain ⟨F, c⟩ := s
    obtain ⟨rfl, hF, hI⟩ := hI
    replace hF : F.length = n := hF
    replace hI : ∀ q, q < i → F[q]? = (chB l.Full l.Target.toNat (bt bits))[q]? := hI
    have hiF : i < F.length := by omega
    have hx : l.Full[i]? = some (l.Full[i]'(by omega)) := List.getElem?_eq_getElem _
    generalize l.Full[i]'(by omega) = x at hx
    have hy : F[i]? = some (F[i]'hiF) := List.getElem?_eq_getElem hiF
    have hg := chB_get (T := l.Target.toNat) (p := bt bits) hx
    have w1 : w64 ((i : Int) + 1) = ((i + 1 : Nat) : Int) := w64_1 (by omega)
    simp only [w1]
    refine Ite.lt (by show (i : Int) < _; omega) (Jn.mk (fun G => G = F.set i (decide (i = l.Target.toNat) || (x && bt bits i))) ?_ (fun G e => ?_))
    · refine Ite.mk (fun e => ⟨_, idx_of rfl hy, ?_⟩) (fun e => ⟨x, idx_of rfl hx, Ite.mk (fun e2 => ⟨by omega, _, idx_of rfl hy, ?_⟩) (fun e2 => ⟨_, idx_of rfl hy, ?_⟩)⟩)
      · have e' : i = l.Target.toNat := by have h := beq_iff_eq.1 e; have h : (i : Int) = l.Target := h; omega
        show F.set (Int.toNat (i : Int)) true = _
        rw [Int.toNat_natCast, decide_eq_true e']; simp
      · have e' : ¬ i = l.Target.toNat := by intro h; have h' : (((i : Nat) : Int) == l.Target) = true := by simp [h]; omega
                                             rw [show (((i : Nat) : Int) == l.Target) = false from e] at h'; cases h'
        subst e2
        show F.set (Int.toNat (i : Int)) (band .i64 (shrI .i64 bits (i : Int)) 1 == 1) = _
        rw [Int.toNat_natCast, decide_eq_false e']; simp [bt]
      · have e' : ¬ i = l.Target.toNat := by intro h; have h' : (((i : Nat) : Int) == l.Target) = true := by simp [h]; omega
                                             rw [show (((i : Nat) : Int) == l.Target) = false from e] at h'; cases h'
        subst e2
        show F.set (Int.toNat (i : Int)) false = _
        rw [Int.toNat_natCast, decide_eq_false e']; simp
    · subst e
      refine ⟨trivial, by simpa using hF, fun q hq => ?_⟩
      show (F.set i _)[q]? = _
      rw [set_get1 hiF]
      by_cases e : i = q
      · subst e; rw [if_pos rfl, hg]
      · rw [if_neg e]; exact hI q (by omega)
  · obtain ⟨F, c⟩ := s
    obtain ⟨rfl, hF, hI⟩ := hI
    replace hF : F.length = n := hF
    refine Ite.nlt (by show ¬ (n : Int) < (l.Full.length : Int); omega) ?_
    apply List.ext_getElem?
    intro q
    rcases Nat.lt_or_ge q n with h | h
    · exact hI q h
    · rw [List.getElem?_eq_none (by show F.length ≤ q; omega), List.getElem?_eq_none (by rw [chB_len]; omega)]
/-- the choice is a layout within the layout -/
theorem chB_ok {n k : Nat} {l : ApiLayout} (h : LOk n k l) (p : Nat → Bool) : LOk n ((chB l.Full l.Target.toNat p).count true) (mkL l.Target (chB l.Full l.Target.toNat p)) ∧ Subl (mkL l.Target (chB l.Full l.Target.toNat p)) l := by
  refine ⟨⟨by show (chB _ _ _).length = n; rw [chB_len, h.len], rfl, h.t0, ?_⟩, ⟨rfl, chB_len, fun i hi => ?_⟩⟩
  · show (chB _ _ _)[l.Target.toNat]? = _
    rw [chB_get h.get]; simp
  · have hi' : (chB l.Full l.Target.toNat p)[i]? = some true := hi
    have hil := (List.getElem?_eq_some_iff.1 hi').1
    rw [chB_len] at hil
    rcases bool_get hil with e | e
    · exact e
    · rw [chB_get e] at hi'
      have e2 : i = l.Target.toNat := by simpa using hi'
      subst e2; exact h.get
end Go.Taq

/- The mathematics of the patterns, part FF: the reference's bound; what is given; the examples. -/
set_option linter.unusedVariables false
set_option linter.unusedSimpArgs false
namespace Go.Taq
open Go
section

end
/-! ## what is given -/
theorem S_LRight {l : ApiLayout} {post : Bool → Prop} (hF : post false) (hT : l.Full.length ≤ 24 → LOk l.Full.length (l.Full.count true) l → post true) : V_layout_Right l post := by
  unfold V_layout_Right
  by_cases c : (l.Full.length : Int) ≥ 1 ∧ (l.Full.length : Int) ≤ 24 ∧ l.Target ≥ 0 ∧ l.Target < (l.Full.length : Int)
  · obtain ⟨c1, c2, c3, c4⟩ := c
    have hx : l.Full[l.Target.toNat]? = some (l.Full[l.Target.toNat]'(by omega)) := List.getElem?_eq_getElem _
    generalize l.Full[l.Target.toNat]'(by omega) = b at hx
    refine Jn.mk (fun x => x = b) (Ite.t (by simpa using c1) (Ite.t (by simpa using c2) (Ite.t (by simpa using c3) (Ite.t (by simpa using c4) ⟨b, idx_of (by omega) hx, rfl⟩)))) (fun x e => ?_)
    subst e
    cases x with
    | false => exact hF
    | true => exact hT (by omega) ⟨rfl, rfl, by omega, hx⟩
  · refine Jn.mk (fun b => b = false) (Ite.mk (fun a1 => Ite.mk (fun a2 => Ite.mk (fun a3 => Ite.mk (fun a4 => ?_) (fun _ => rfl)) (fun _ => rfl)) (fun _ => rfl)) (fun _ => rfl)) (fun b e => by rw [e]; exact hF)
    exact absurd ⟨of_decide_eq_true a1, of_decide_eq_true a2, of_decide_eq_true a3, of_decide_eq_true a4⟩ c
theorem S_region_Right {r : List Int} (hl : r.length ≤ 1000000) {post : Bool → Prop} (hF : post false) (hT : Asc r → (∀ x, x ∈ r → 0 ≤ x) → post true) : V_region_Right r post := by
  unfold V_region_Right
  refine Jn.mk (fun _ => Asc r ∧ ∀ x, x ∈ r → 0 ≤ x) (Loop.inv r.length (fun i (s : Int) => s = (i : Int) ∧ (∀ (j : Nat) x y, j + 1 < i → r[j]? = some x → r[j + 1]? = some y → x < y) ∧ ∀ (j : Nat) x, j < i → r[j]? = some x → 0 ≤ x) ⟨rfl, fun j x y h => by omega, fun j x h => by omega⟩ (fun i s hi hI => ?_) (fun s hI => ?_)) (fun _ h => hT h.1 h.2)
  · obtain ⟨rfl, hI, hP⟩ := hI
    have hx : r[i]? = some (r[i]'hi) := List.getElem?_eq_getElem hi
    generalize r[i]'hi = x at hx
    refine Ite.lt (by omega) ⟨x, idx_of rfl hx, Jn.mk (fun b => b = false → 0 ≤ x ∧ ∀ (j : Nat) x y, j + 1 < i + 1 → r[j]? = some x → r[j + 1]? = some y → x < y) ?_ (fun b hb => Ite.mk (fun e => hF) (fun e => ⟨w64_1 (by omega), (hb e).2, fun j y hj hy => ?_⟩))⟩
    · unfold V_region_isCell
      refine Jn.mk (fun b => b = true → 0 ≤ x) (Ite.mk (fun h1 h2 => of_decide_eq_true h1) (fun h1 h2 => by cases h2)) (fun b hb => Ite.mk (fun e => ?_) (fun e h => by cases h))
      have h0 := hb e
      refine Ite.mk (fun e => ?_) (fun e h => ⟨h0, ?_⟩)
      · have e' : 0 < i := by have := of_decide_eq_true e; omega
        have hy : r[i - 1]? = some (r[i - 1]'(by omega)) := List.getElem?_eq_getElem (by omega)
        generalize r[i - 1]'(by omega) = y at hy
        refine ⟨y, by rw [w64_p (by omega) (by omega)]; exact idx_of rfl hy, fun h => ⟨h0, ?_⟩⟩
        have h' := of_decide_eq_false h
        intro j x' y' hj h1 h2
        by_cases e2 : j + 1 = i
        · have : j = i - 1 := by omega
          subst this
          rw [hy] at h1; rw [e2, hx] at h2
          cases h1; cases h2; omega
        · exact hI j x' y' (by omega) h1 h2
      · have e' : ¬ 0 < i := by have := of_decide_eq_false e; omega
        intro j x' y' hj h1 h2; omega
    · by_cases e2 : j = i
      · subst e2; rw [hx] at hy; cases hy; exact (hb e).1
      · exact hP j y (by omega) hy
  · obtain ⟨rfl, hI, hP⟩ := hI
    refine Ite.nlt (by omega) ⟨fun i j x y hij h1 h2 => ?_, fun x hx => ?_⟩
    · have key : ∀ m (j : Nat) y, j = i + 1 + m → r[j]? = some y → x < y := by
        intro m
        induction m with
        | zero => intro j y e h2; subst e; exact hI i x y (by have := (List.getElem?_eq_some_iff.1 h2).1; omega) h1 h2
        | succ m ih =>
          intro j y e h2
          have hjl := (List.getElem?_eq_some_iff.1 h2).1
          have hz : r[i + 1 + m]? = some (r[i + 1 + m]'(by omega)) := List.getElem?_eq_getElem (by omega)
          have a1 := ih _ _ rfl hz
          have a2 := hI (i + 1 + m) _ y (by omega) hz (by rw [show i + 1 + m + 1 = j by omega]; exact h2)
          omega
      exact key (j - i - 1) j y (by omega) h2
    · obtain ⟨j, hj, e⟩ := List.mem_iff_getElem.1 hx
      exact hP j x hj (by rw [List.getElem?_eq_getElem hj, e])
theorem imax_gt {x y k : Int} : imax x y > k ↔ x > k ∨ y > k := by unfold imax; split <;> omega
theorem S_floor_Right {f : ApiFloor} {post : Bool → Prop} (hF : post false) (hT : RF f → post true) : V_floor_Right f post := by
  unfold V_floor_Right
  refine Jor3 (Ite.mk (fun _ => hF) (fun h1 => ?_))
  simp only [Bool.or_eq_false_iff, decide_eq_false_iff_not, imin_lt, imax_gt] at h1
  obtain ⟨⟨a1, a2⟩, a3⟩ := h1
  have e := size_eq (f := f) (by omega) (by omega) (by omega) (by omega) (by omega) (by omega)
  unfold V_floor_size
  rw [e.1]
  refine Jor3 (Ite.mk (fun _ => hF) (fun h2 => ?_))
  simp only [Bool.or_eq_false_iff, decide_eq_false_iff_not, bne_eq_false_iff_eq] at h2
  obtain ⟨⟨b1, b2⟩, b3⟩ := h2
  have hl : f.Kind.length ≤ maxLen := by unfold maxLen; omega
  refine Jn.mk (fun _ => ∀ (i : Nat) x y, f.Kind[i]? = some x → f.Out[i]? = some y → 0 ≤ x ∧ x < 7 ∧ 0 ≤ y ∧ y ≤ 63)
    (V_loopc hl (fun s => s) (fun n _ => ∀ (i : Nat) x y, i < n → f.Kind[i]? = some x → f.Out[i]? = some y → 0 ≤ x ∧ x < 7 ∧ 0 ≤ y ∧ y ≤ 63) rfl (fun i x y h => by omega) (fun n x t hx ht hall => ?_) (fun t h i x y hx hy => h i x y (List.getElem?_eq_some_iff.1 hx).1 hx hy)) (fun _ h => hT ?_)
  · have hn := (List.getElem?_eq_some_iff.1 hx).1
    have ho : f.Out[n]? = some (f.Out[n]'(by omega)) := List.getElem?_eq_getElem _
    refine Jn.eq (decide (x < 0) || decide (x ≥ 7) || decide (f.Out[n]'(by omega) < 0) || decide (f.Out[n]'(by omega) > 63)) ?_ ?_
    · refine Ite.mk (fun h => by rw [h]; rfl) (fun h => Ite.mk (fun h' => by rw [h, h']; rfl) (fun h' => ⟨_, by rw [ht]; exact idx_of rfl ho, Ite.mk (fun h'' => by rw [h, h', h'']; rfl) (fun h'' => by rw [h, h', h'']; rfl)⟩))
    · refine Ite.mk (fun _ => hF) (fun h3 => ⟨by rw [ht], fun i x' y' hi hx' hy' => ?_⟩)
      simp only [Bool.or_eq_false_iff, decide_eq_false_iff_not] at h3
      by_cases e : i = n
      · subst e; rw [hx] at hx'; rw [ho] at hy'; cases hx'; cases hy'; omega
      · exact hall i x' y' (by omega) hx' hy'
  · exact ⟨by omega, by omega, by omega, by omega, by omega, by omega, by omega, by omega, by omega, h⟩
theorem S_given {f : ApiFloor} {r : List Int} {l : ApiLayout} {most : Nat} (hm : most ≤ 24) {post : Bool → Prop} (hF : post false) (hT : RF f → r.length ≤ most → Asc r → LOk r.length (l.Full.count true) l → post true) : V_taquinlaw27_given f r l (most : Int) post := by
  unfold V_taquinlaw27_given
  by_cases c : (r.length : Int) > most
  · refine Jn.mk (fun b => b = true) (S_ref07_Few (Ite.f rfl rfl) (fun _ _ => Ite.t rfl (Ite.t (by simpa using c) rfl))) (fun b e => Ite.t e hF)
  by_cases c2 : (l.Full.length : Int) = (r.length : Int)
  · have e2 : l.Full.length = r.length := by omega
    refine Jn.mk (fun b => b = false → LOk r.length (l.Full.count true) l) (S_ref07_Few (Ite.f rfl (fun h => by cases h)) (fun _ _ => Ite.t rfl (Ite.f (by simpa using c) (Ite.f (by simp [c2]) (S_LRight (fun h => by cases h) (fun _ hok _ => by rw [e2] at hok; exact hok)))))) (fun b hb => Ite.mk (fun _ => hF) (fun e => ?_))
    have hok := hb e
    exact Jn.mk' (S_floor_Right (Ite.f rfl hF) (fun hf => Ite.t rfl (S_region_Right (by omega) hF (fun ha _ => hT hf (by omega) ha hok))))
  · refine Jn.mk (fun b => b = true) (S_ref07_Few (Ite.f rfl rfl) (fun _ _ => Ite.t rfl (Ite.f (by simpa using c) (Ite.t (by simpa using c2) rfl)))) (fun b e => Ite.t e hF)
end Go.Taq

/- The mathematics of the patterns, part FG: the examples; what the bounds say. -/
set_option linter.unusedVariables false
set_option linter.unusedSimpArgs false
namespace Go.Taq
open Go
/-- a table that is right, checked -/
def chkT (N : Nat) (pre : Nat → List Nat) (src : Nat → Bool) (t : List Int) : Bool :=
  decide (t.length = N) && (List.range N).all fun i => decide (gT t i ≤ N) && decide (-1 ≤ gT t i) && (src i == decide (gT t i = 0)) && (decide (gT t i ≤ 0) || (List.range N).any fun j => decide (gT t j = gT t i - 1) && (pre j).contains i) && (decide (gT t i < 0) || (pre i).all fun p => decide (0 ≤ gT t p) && decide (gT t p ≤ gT t i + 1))
theorem TOk.chk {N : Nat} {pre : Nat → List Nat} {src : Nat → Bool} {t : List Int} (hp : ∀ j, j < N → ∀ i, i ∈ pre j → i < N) (h : chkT N pre src t = true) : TOk N pre src t := by
  unfold chkT at h
  simp only [Bool.and_eq_true, decide_eq_true_eq, List.all_eq_true, List.mem_range, Bool.or_eq_true, List.any_eq_true, beq_iff_eq, List.contains_iff_mem] at h
  obtain ⟨hl, h⟩ := h
  have hpt : ∀ {e i : Nat}, Pt N pre src e i → 0 ≤ gT t i ∧ gT t i ≤ (e : Int) := by
    intro e i hP
    induction hP with
    | zero h1 h2 =>
      have h3 : src _ = _ := (h _ h1).1.1.2
      rw [h2] at h3
      have := of_decide_eq_true h3.symm
      omega
    | succ hj hi ih =>
      have hjn := hj.lt hp
      rcases (h _ hjn).2 with h3 | h3
      · omega
      · have := h3 _ hi; omega
  have hex : ∀ (d i : Nat), i < N → gT t i = (d : Int) → Pt N pre src d i := by
    intro d
    induction d with
    | zero =>
      intro i hi he
      refine .zero hi ?_
      rw [(h i hi).1.1.2]; exact decide_eq_true (by omega)
    | succ d ih =>
      intro i hi he
      rcases (h i hi).1.2 with h3 | ⟨j, hj, h4, h5⟩
      · omega
      · exact .succ (ih j hj (by omega)) h5
  refine ⟨hl, fun i hi => ?_, fun i hi => (h i hi).1.1.1.1⟩
  rcases Int.lt_or_le (gT t i) 0 with c | c
  · have := (h i hi).1.1.1.2
    exact .inl ⟨by omega, fun d hd => by have := hpt hd; omega⟩
  · obtain ⟨d, hd⟩ : ∃ d : Nat, gT t i = (d : Int) := ⟨(gT t i).toNat, by omega⟩
    exact .inr ⟨d, hd, hex d i hi hd, fun e he => by have := hpt he; omega⟩
def rowF : ApiFloor := { W := 4, H := 1, D := 1, Kind := [1, 1, 1, 1], Out := [1, 5, 5, 4] }
def r4 : List Int := [0, 1, 2, 3]
def tA : List Int := [3, 2, 1, 0]
def tB : List Int := (List.range 12).map fun i => let l := unrank 4 2 i; if l.Target = 3 then 0 else if (l.Full.drop (l.Target.toNat + 1)).contains true then -1 else 3 - l.Target
theorem RF_row : RF rowF := by
  refine ⟨by decide, by decide, by decide, by decide, by decide, by decide, by decide, by decide, by decide, fun i x y hx hy => ?_⟩
  have key : ∀ i : Nat, i < 4 → (0 ≤ rowF.Kind.getD i 0 ∧ rowF.Kind.getD i 0 < 7) ∧ (0 ≤ rowF.Out.getD i 0 ∧ rowF.Out.getD i 0 ≤ 63) := by decide
  have hi : i < 4 := (List.getElem?_eq_some_iff.1 hx).1
  have e1 : rowF.Kind.getD i 0 = x := by rw [List.getD_eq_getElem?_getD, hx]; rfl
  have e2 : rowF.Out.getD i 0 = y := by rw [List.getD_eq_getElem?_getD, hy]; rfl
  have := key i hi
  rw [e1, e2] at this
  omega
theorem Asc_r4 : Asc r4 := by
  intro i j x y hij hx hy
  have hj : j < 4 := (List.getElem?_eq_some_iff.1 hy).1
  have key : ∀ j, j < 4 → ∀ i, i < j → r4.getD i 0 < r4.getD j 0 := by decide +kernel
  have e1 : r4.getD i 0 = x := by rw [List.getD_eq_getElem?_getD, hx]; rfl
  have e2 : r4.getD j 0 = y := by rw [List.getD_eq_getElem?_getD, hy]; rfl
  rw [← e1, ← e2]; exact key j hj i hij
theorem chkA : chkT 4 (preT rowF r4 4 1) (srcT 4 1 3) tA = true := by decide +kernel
theorem chkB : chkT 12 (preT rowF r4 4 2) (srcT 4 2 3) tB = true := by decide +kernel
theorem row_tables {K : Nat} (hK : K ≤ 1) {ts : List (List Int)} (h : Db rowF r4 4 K 3 ts) : ts = if K = 0 then [tA] else [tA, tB] := by
  have a1 : ts.getD 0 [] = tA := (h.tb 0 (by omega)).eq (TOk.chk (preT_lt (by decide) (by decide)) chkA)
  have hl := h.len
  by_cases c : K = 0
  · subst c
    rw [if_pos rfl]
    match ts, hl with
    | [t], _ => simpa using a1
  · have : K = 1 := by omega
    subst this
    have a2 : ts.getD 1 [] = tB := (h.tb 1 (by omega)).eq (TOk.chk (preT_lt (by decide) (by decide)) chkB)
    rw [if_neg (by decide)]
    match ts, hl with
    | [t, u], _ => simp at a1 a2; rw [a1, a2]
theorem S_at {t o : Nat} (ht : t < 4) (ho : o < 4) {post : ApiLayout → Prop} (hp : post { Full := ((List.replicate 4 false).set t true).set o true, Target := (t : Int) }) : V_taquinlaw27_at (t : Int) (o : Int) post := by
  unfold V_taquinlaw27_at
  have key : ∀ t : Nat, t < 4 → band .i64 (t : Int) 3 = (t : Int) := by decide +kernel
  rw [key t ht, key o ho]
  refine ⟨⟨by decide, by decide⟩, false, idx_of rfl ?_, ?_⟩
  · simp only [Int.reduceToNat, List.getElem?_replicate]; rw [if_pos ht]
  · simp only [Int.reduceToNat, Int.toNat_natCast]
    have hx : ((List.replicate 4 false).set t true)[o]? = some (((List.replicate 4 false).set t true)[o]'(by simpa using ho)) := List.getElem?_eq_getElem _
    exact ⟨_, idx_of rfl hx, hp⟩
theorem okA {t o : Nat} (ht : t < 4) (ho : o < 4) : LOk 4 (if t = o then 1 else 2) { Full := ((List.replicate 4 false).set t true).set o true, Target := (t : Int) } := by
  have key : ∀ t : Nat, t < 4 → ∀ o : Nat, o < 4 → (((List.replicate 4 false).set t true).set o true).count true = (if t = o then 1 else 2) ∧ (((List.replicate 4 false).set t true).set o true)[t]? = some true := by decide
  obtain ⟨a, b⟩ := key t ht o ho
  exact ⟨by simp, a, by show (0 : Int) ≤ t; omega, by show (((List.replicate 4 false).set t true).set o true)[(t : Int).toNat]? = _; rw [Int.toNat_natCast]; exact b⟩
theorem S_small {post : Bool → Prop} (hp : post true) : V_taquinlaw27_small post := by
  unfold V_taquinlaw27_small V_taquinlaw27_row
  have hl0 : lim 4 0 := by
    refine ⟨by decide, fun j hj => ?_⟩
    have e : j = 0 := by omega
    subst e
    decide +kernel
  have hl1 : lim 4 1 := by
    refine ⟨by decide, fun j hj => ?_⟩
    have e : j = 0 ∨ j = 1 := by omega
    rcases e with e | e <;> subst e <;> decide +kernel
  refine S_Build (n := 4) RF_row rfl (by decide) Asc_r4 (fun h => absurd (by decide) h) (fun _ h => absurd hl0 h) (fun K eK _ _ ts hD => ?_)
  obtain rfl : K = 0 := by omega
  refine S_Build (n := 4) RF_row rfl (by decide) Asc_r4 (fun h => absurd (by decide) h) (fun _ h => absurd hl1 h) (fun K eK _ _ us hU => ?_)
  obtain rfl : K = 1 := by omega
  have e1 := row_tables (by decide) hD
  have e2 := row_tables (by decide) hU
  rw [if_pos rfl] at e1; rw [if_neg (by decide)] at e2
  subst e1; subst e2
  refine Jn.mk (fun b => b = false) (Ite.f rfl rfl) (fun b e => Ite.f e (Jn.mk (fun b => b = true) ?_ (fun b e => by rw [e]; exact hp)))
  refine S_at (t := 0) (o := 0) (by decide) (by decide) (S_Bound hD (okA (t := 0) (o := 0) (by decide) (by decide)) (Ite.t (by decide +kernel) ?_))
  refine S_at (t := 0) (o := 2) (by decide) (by decide) (S_Bound hD (okA (t := 0) (o := 2) (by decide) (by decide)) (Ite.t (by decide +kernel) ?_))
  refine S_at (t := 0) (o := 2) (by decide) (by decide) (S_Bound hU (okA (t := 0) (o := 2) (by decide) (by decide)) (Ite.t (by decide +kernel) ?_))
  refine S_at (t := 2) (o := 0) (by decide) (by decide) (S_Bound hU (okA (t := 2) (o := 0) (by decide) (by decide)) ?_)
  decide +kernel
/-! ## what the bounds say -/
theorem lim10 {n K : Nat} (hn : n ≤ 10) : lim n K := by
  refine ⟨by omega, fun j _ => ?_⟩
  have h1 := ch_pow (n - 1) (j + 1 - 1)
  have h2 : 2 ^ (n - 1) ≤ 2 ^ 9 := Nat.pow_le_pow_right (by omega) (by omega)
  have h3 : ch (n - 1) (j + 1 - 1) ≤ 512 := by omega
  have := Nat.mul_le_mul hn h3
  unfold nL; omega
section
variable {f : ApiFloor} {r : List Int} {n K : Nat} {goal : Int} {ts : List (List Int)}
theorem Db.dst (h : Db f r n K goal ts) (hn : n ≤ 12) {j : Nat} (hj : j ≤ K) : Dst f r n (j + 1) goal (ts.getD j []) := ⟨by omega, by have := h.hK; omega, hn, h.hr, h.tb j hj⟩
theorem nO_le {k K : Nat} : nO k K ≤ K ∧ nO k K ≤ k - 1 := by unfold nO; omega
/-- more is chosen, no less is asked -/
theorem chosen_le (h : Db f r n K goal ts) (hn : n ≤ 12) {i j : Nat} (hi : i ≤ K) (hj : j ≤ K) {a b : ApiLayout} (ha : LOk n (i + 1) a) (hb : LOk n (j + 1) b) (hs : Subl a b) (h0 : 0 ≤ dD n j ts b) : 0 ≤ dD n i ts a ∧ dD n i ts a ≤ dD n j ts b := by
  obtain ⟨d, hd⟩ : ∃ d : Nat, dD n j ts b = (d : Int) := ⟨(dD n j ts b).toNat, by omega⟩
  have := Subl.dist (h.dst hn hi) (h.dst hn hj) d hs ha hb hd
  rw [hd]; exact this
/-- the bound of a layout and of one within it, with as many tables or fewer -/
theorem bnd_le (h : Db f r n K goal ts) (hn : n ≤ 12) {K' : Nat} {ts' : List (List Int)} (h' : Db f r n K' goal ts') (hK : K' ≤ K) {k k' : Nat} {a b : ApiLayout} (ha : LOk n k' a) (hb : LOk n k b) (hs : Subl a b) (h0 : 0 ≤ bnd n k K ts b) : 0 ≤ bnd n k' K' ts' a ∧ bnd n k' K' ts' a ≤ bnd n k K ts b := by
  have hkk : k' ≤ k := by
    rw [← ha.cnt, ← hb.cnt]
    have : ∀ (x y : List Bool), x.length = y.length → (∀ i : Nat, x[i]? = some true → y[i]? = some true) → x.count true ≤ y.count true := by
      intro x
      induction x with
      | nil => intro y _ _; simp
      | cons u x ih =>
        intro y hy hxy
        match y, hy with
        | v :: y, hy =>
          have h1 := ih y (by simpa using hy) (fun i hi => by simpa using hxy (i + 1) (by simpa using hi))
          have h2 := hxy 0
          rw [List.count_cons, List.count_cons]
          cases u <;> cases v <;> simp at h2 ⊢ <;> omega
    exact this _ _ hs.len hs.sub
  have hno : nO k' K' ≤ nO k K := by unfold nO; omega
  have hk' := ha.kpos
  have n1 := nO_le (k := k) (K := K)
  have n2 := nO_le (k := k') (K := K')
  have te : ∀ q, q ≤ K' → ts'.getD q [] = ts.getD q [] := fun q hq => (h'.tb q hq).eq (h.tb q (by omega))
  have B := bnd_is (K := K) (ts := ts) hb
  have A := bnd_is (K := K') (ts := ts') ha
  rcases B with ⟨_, e⟩ | ⟨B1, _, _⟩
  · omega
  · have all : ∀ G, Chosen n (nO k' K') a G → 0 ≤ dD n (nO k' K') ts' (mkL a.Target G) ∧ dD n (nO k' K') ts' (mkL a.Target G) ≤ bnd n k K ts b := fun G hG => by
      obtain ⟨c, c1, c2, c3⟩ := grow hb (nO k K - nO k' K') (hG.2.trans hs) hG.1 (by omega)
      have ec : mkL b.Target c.Full = c := by cases c; simp [mkL]; exact c2.tg.symm
      have c3' : LOk n (nO k K + 1) c := by rw [show nO k K + 1 = nO k' K' + 1 + (nO k K - nO k' K') by omega]; exact c3
      have hb1 : 0 ≤ dD n (nO k K) ts (mkL b.Target c.Full) ∧ dD n (nO k K) ts (mkL b.Target c.Full) ≤ bnd n k K ts b := B1 c.Full ⟨by rw [ec]; exact c3', by rw [ec]; exact c2⟩
      rw [ec] at hb1
      have := chosen_le h hn (i := nO k' K') (j := nO k K) (by omega) (by omega) hG.1 c3' c1 hb1.1
      have e2 : dD n (nO k' K') ts' (mkL a.Target G) = dD n (nO k' K') ts (mkL a.Target G) := by unfold dD; rw [te _ n2.1]
      rw [e2]; omega
    rcases A with ⟨⟨G, g1, g2⟩, _⟩ | ⟨A1, A2, A3⟩
    · have := all G g1; simp only at g2; omega
    · refine ⟨A2, ?_⟩
      rcases A3 with e | ⟨G, g1, g2⟩
      · omega
      · have := all G g1; simp only at g2; omega
end
end Go.Taq

/- The law PatternMore, in plain data. -/
set_option linter.unusedVariables false
set_option linter.unusedSimpArgs false
namespace Go.Taq
open Go
theorem Said_taquinlaw27_PatternMore (f : ApiFloor) (k0 : OkApiFloor f) (r : List Int) (k1 : (OkL I64) r) (goal : Int) (k2 : I64 goal) (l : ApiLayout) (k3 : OkApiLayout l) (bits : Int) (k4 : I64 bits) : V_taquinlaw27_PatternMore f r goal l bits (fun y => y = true) := by
  unfold V_taquinlaw27_PatternMore
  refine S_small (Jn.mk (fun b => b = false → RF f ∧ r.length ≤ 9 ∧ Asc r ∧ LOk r.length (l.Full.count true) l ∧ 0 ≤ goal ∧ goal < r.length) (S_given (most := 9) (by decide) (Ite.f rfl (fun h => by cases h)) (fun hf hr ha hl => Ite.t rfl (Ite.mk (fun _ h => by cases h) (fun a1 h => ?_)))) (fun b hb => Ite.mk (fun _ => rfl) (fun e => ?_)))
  · have b1 := of_decide_eq_false a1; have b2 := of_decide_eq_false h
    exact ⟨hf, hr, ha, hl, by omega, by omega⟩
  obtain ⟨hf, hr, ha, hl, c3, c4⟩ := hb e
  have hkp := hl.kpos
  have hkl := hl.kle
  have hN : min 3 r.length ≤ r.length := by omega
  refine Jn.mk (fun _ => True) (Loop.inv (min 3 r.length) (fun i (s : Int × Int) => s.2 = (i : Int) ∧ ((i = 0 ∧ s.1 = 0) ∨ ∃ K ts, i = K + 1 ∧ Db f r r.length K goal ts ∧ s.1 = bnd r.length (l.Full.count true) K ts l)) ⟨rfl, .inl ⟨rfl, rfl⟩⟩ (fun i s hi hI => ?_) (fun s hI => ?_)) (fun _ _ => rfl)
  · obtain ⟨last, c⟩ := s
    obtain ⟨rfl, hI⟩ := hI
    replace hI : (i = 0 ∧ last = 0) ∨ ∃ K ts, i = K + 1 ∧ Db f r r.length K goal ts ∧ last = bnd r.length (l.Full.count true) K ts l := hI
    refine Jn.mk (fun b => b = true) (Ite.t (by show decide ((i : Int) < 3) = true; simp; omega) (by show decide ((i : Int) < (r.length : Int)) = true; simp; omega)) (fun b e => Ite.t e ?_)
    show V_pattern_Build f r (i : Int) goal _
    refine S_Build hf rfl (by omega) ha (fun h => absurd ⟨c3, c4, by omega, by omega⟩ h) (fun h h' => absurd (lim10 (by omega)) h') (fun K eK g0 g1 ts hT => ?_)
    obtain rfl : i = K := by omega
    refine Jn.mk (fun b => b = false) (Ite.f rfl rfl) (fun b e => Ite.f e (S_Bound hT hl ?_))
    have hlow : -1 ≤ bnd r.length (l.Full.count true) i ts l := by rcases bnd_is (K := i) (ts := ts) hl with ⟨_, e⟩ | ⟨_, e, _⟩ <;> omega
    have hmon : 0 ≤ bnd r.length (l.Full.count true) i ts l → 0 ≤ last ∧ last ≤ bnd r.length (l.Full.count true) i ts l := fun h0 => by
      rcases hI with ⟨_, rfl⟩ | ⟨K', ts', e1, hT', rfl⟩
      · omega
      · exact bnd_le hT (by omega) hT' (by omega) hl hl (.refl _) h0
    obtain ⟨hok, hsub⟩ := chB_ok hl (bt bits)
    have hch : 0 ≤ bnd r.length (l.Full.count true) i ts l → 0 ≤ bnd r.length _ i ts (mkL l.Target (chB l.Full l.Target.toNat (bt bits))) ∧ _ := fun h0 => bnd_le hT (by omega) hT (Nat.le_refl _) hok hl hsub h0
    refine Jn.mk (fun b => b = false) ?_ (fun b e => Ite.f e (S_Choice (n := r.length) (by omega) hl.len hl.t0 (S_Bound hT hok ?_)))
    · generalize bnd r.length (l.Full.count true) i ts l = x at *
      have tail : Ite (decide (x ≥ 0)) (decide (x < last) = false) (false = false) := Ite.mk (fun e1 => by have := hmon (of_decide_eq_true e1); exact decide_eq_false (by omega)) (fun _ => rfl)
      refine Ite.mk (fun e1 => Ite.mk (fun e2 => ?_) (fun _ => tail)) (fun _ => tail)
      exfalso
      have e1' : last = -1 := by simpa using e1
      have e2' : x ≠ -1 := by simpa using e2
      have := hmon (by omega)
      omega
    · refine Jn.mk (fun b => b = false) (Ite.mk (fun e1 => ?_) (fun _ => rfl)) (fun b e => Ite.f e ⟨w64_1 (by omega), .inr ⟨i, ts, rfl, hT, rfl⟩⟩)
      have := hch (of_decide_eq_true e1)
      exact Ite.f (decide_eq_false (by omega)) (decide_eq_false (by omega))
  · obtain ⟨last, c⟩ := s
    obtain ⟨rfl, hI⟩ := hI
    refine Jn.mk (fun b => b = false) (Ite.mk (fun e1 => ?_) (fun _ => rfl)) (fun b e => Ite.f e trivial)
    have e1' : ((min 3 r.length : Nat) : Int) < 3 := of_decide_eq_true e1
    show decide (((min 3 r.length : Nat) : Int) < (r.length : Int)) = false
    exact decide_eq_false (by omega)
end Go.Taq
