/- The mathematics, several parts in one text. -/
import Derived.Test.YthbeknnkokooiaaFC
import Derived.Test.YthbeknnkokooiaaQA
/- The mathematics of the patterns, part FD: the iterator of the choices; the bound, of the layer. -/
set_option linter.unusedVariables false
set_option linter.unusedSimpArgs false
namespace Go.Taq
open Go
theorem S_cloneB {xs : List Bool} (hl : xs.length ≤ 1000000) {post : List Bool → Prop} (hp : post xs) : V_slices_Clone_bool_bool xs post := by
  unfold V_slices_Clone_bool_bool
  intro b hz
  refine Ite.mk (fun h => by rw [← hz (by simpa using h)]; exact hp) (fun h => ⟨by simp; omega, by simpa using hp⟩)
theorem Each_yld {α : Type} {post : Option (List α) → Prop} {kV : Option (List α) → Prop} (h0 : post none) : ∀ (ys : List α) {rest : List α}, kV (some rest) → Each (fun (x : α) (s : Option (List α)) Y => Yld s x (fun b => Ite (!b.1) (post b.2) (Y b.2))) kV ys (some (ys ++ rest))
  | [], rest, hk => hk
  | y :: ys, rest, hk => ⟨ys ++ rest, rfl, Ite.f rfl (Each_yld h0 ys hk), Ite.t rfl h0⟩
def mkL (t : Int) (G : List Bool) : ApiLayout := { Full := G, Target := t }
/-- what the iterator yields -/
theorem S_choices {j n m i : Nat} {l : ApiLayout} {rest : List ApiLayout} (hj : j ≤ 1000000) (hn : n ≤ 1000) (hl : l.Full.length = n) (hi : n = i + m) (t0 : 0 ≤ l.Target) (hg : l.Full[l.Target.toNat]? = some true) :
    V_pattern_choices_1__p0_p1_p2 (j : Int) l (i : Int) (some ((chs l.Target.toNat m i j l.Full).map (mkL l.Target) ++ rest)) (fun r => r = none ∨ r = some rest) := by
  intro X hX
  have key : ∀ (j m i : Nat) (l : ApiLayout) (rest : List ApiLayout), l.Full.length = n → n = i + m → 0 ≤ l.Target → l.Full[l.Target.toNat]? = some true → j ≤ 1000000 →
      X ((j : Int), l, (i : Int), some ((chs l.Target.toNat m i j l.Full).map (mkL l.Target) ++ rest)) (fun r => r = none ∨ r = some rest) := by
    intro j
    induction j with
    | zero =>
      intro m i l rest hl hi t0 hg _
      refine hX _ _ ?_
      unfold B_pattern_choices_1__p0_p1_p2
      refine Ite.t rfl (Jn.mk (fun x => x = l.Full) (S_cloneB (by show l.Full.length ≤ _; omega) rfl) (fun x e => ?_))
      subst e
      refine Jn.mk (fun x => chs l.Target.toNat m i 0 l.Full = [x]) (Loop.inv m (fun q (s : List Bool × Int) => s.2 = ((i + q : Nat) : Int) ∧ s.1.length = n ∧ chs l.Target.toNat m i 0 l.Full = chs l.Target.toNat (m - q) (i + q) 0 s.1) ⟨rfl, hl, rfl⟩ (fun q s hq hI => ?_) (fun s hI => ?_)) (fun x e => ?_)
      · obtain ⟨F, c⟩ := s
        obtain ⟨rfl, hF, hc⟩ := hI
        replace hF : F.length = n := hF
        replace hc : chs l.Target.toNat m i 0 l.Full = chs l.Target.toNat (m - q) (i + q) 0 F := hc
        have hx : F[i + q]? = some (F[i + q]'(by omega)) := List.getElem?_eq_getElem _
        refine Ite.lt (by show ((i + q : Nat) : Int) < (l.Full.length : Int); omega) ⟨_, idx_of rfl hx, ?_, ?_, ?_⟩
        · show w64 (((i + q : Nat) : Int) + 1) = _
          rw [w64_1 (by omega)]; congr 1
        · show (F.set _ _).length = n
          simpa using hF
        · rw [hc, show m - q = (m - (q + 1)) + 1 by omega, chs]
          have e1 : ((((i + q : Nat) : Int)) == l.Target) = decide (i + q = l.Target.toNat) := by
            by_cases c : i + q = l.Target.toNat
            · simp [c]; omega
            · simp [c]; omega
          show _ = chs _ _ _ 0 (F.set (Int.toNat ((i + q : Nat) : Int)) (((i + q : Nat) : Int) == l.Target))
          rw [Int.toNat_natCast, e1]; congr 1
      · obtain ⟨F, c⟩ := s
        obtain ⟨rfl, hF, hc⟩ := hI
        refine Ite.nlt (by show ¬ ((i + m : Nat) : Int) < (l.Full.length : Int); omega) ?_
        rw [hc, Nat.sub_self, chs]; simp
      · rw [e]
        exact ⟨rest, rfl, .inr rfl, .inl rfl⟩
    | succ j ih =>
      intro m i l rest hl hi t0 hg hj
      refine hX _ _ ?_
      unfold B_pattern_choices_1__p0_p1_p2
      refine Ite.f (by simp; omega) ?_
      have wj : w64 (((j + 1 : Nat) : Int) - 1) = (j : Int) := by rw [w64_eq (by omega) (by omega)]; omega
      simp only [wj]
      refine Jn.mk (fun (x : List Bool × Option (List ApiLayout)) => x.2 = some rest) (Loop.inv m (fun q (s : List Bool × Option (List ApiLayout) × Int) => s.2.2 = ((i + q : Nat) : Int) ∧ s.1.length = n ∧ s.1[l.Target.toNat]? = some true ∧
        s.2.1 = some ((chs l.Target.toNat (m - q) (i + q) (j + 1) s.1).map (mkL l.Target) ++ rest)) ⟨rfl, hl, hg, rfl⟩ (fun q s hq hI => ?_) (fun s hI => ?_)) (fun x e => .inr e)
      · obtain ⟨F, oy, c⟩ := s
        obtain ⟨rfl, hF, hFg, ho⟩ := hI
        replace hF : F.length = n := hF
        replace ho : oy = some ((chs l.Target.toNat (m - q) (i + q) (j + 1) F).map (mkL l.Target) ++ rest) := ho
        subst ho
        replace hFg : F[l.Target.toNat]? = some true := hFg
        have hx : F[i + q]? = some (F[i + q]'(by omega)) := List.getElem?_eq_getElem _
        generalize F[i + q]'(by omega) = x at hx
        have w1 : w64 (((i + q : Nat) : Int) + 1) = ((i + (q + 1) : Nat) : Int) := by rw [w64_1 (by omega)]; congr 1
        have hme : m - q = (m - (q + 1)) + 1 := by omega
        have hie : i + q + 1 = i + (q + 1) := by omega
        simp only [w1]
        refine Ite.lt (by show ((i + q : Nat) : Int) < (F.length : Int); omega) ?_
        refine Jn.mk (fun (y : List Bool × Option (List ApiLayout)) => y.1.length = n ∧ y.1[l.Target.toNat]? = some true ∧ y.2 = some ((chs l.Target.toNat (m - (q + 1)) (i + (q + 1)) (j + 1) y.1).map (mkL l.Target) ++ rest)) ?_ (fun y hy => ⟨trivial, hy⟩)
        have e1 : ((((i + q : Nat) : Int)) == l.Target) = decide (i + q = l.Target.toNat) := by
          by_cases c : i + q = l.Target.toNat
          · simp [c]; omega
          · simp [c]; omega
        refine Jn.mk (fun b => b = !(x && !decide (i + q = l.Target.toNat))) ⟨x, idx_of rfl hx, Ite.mk (fun e => by subst e; show (((i + q : Nat) : Int) == l.Target) = _; rw [e1]; simp) (fun e => by subst e; rfl)⟩ (fun b hb => Ite.mk (fun e => ?_) (fun e => ?_))
        · have hc : ¬ (F[i + q]? = some true ∧ i + q ≠ l.Target.toNat) := by
            rintro ⟨h1, h2⟩
            rw [hx] at h1; cases h1
            rw [e] at hb; simp [h2] at hb
          refine ⟨hF, hFg, ?_⟩
          show some _ = some _
          rw [hme, chs, if_neg hc, hie]
        · have hc : F[i + q]? = some true ∧ i + q ≠ l.Target.toNat := by
            rw [e] at hb
            have : x = true ∧ ¬ i + q = l.Target.toNat := by simpa using hb.symm
            exact ⟨by rw [hx, this.1], this.2⟩
          have hL : chs l.Target.toNat (m - q) (i + q) (j + 1) F = chs l.Target.toNat (m - (q + 1)) (i + (q + 1)) j F ++ chs l.Target.toNat (m - (q + 1)) (i + (q + 1)) (j + 1) (F.set (i + q) false) := by rw [hme, chs, if_pos hc, hie]
          unfold V_pattern_choices
          refine ⟨(chs l.Target.toNat (m - (q + 1)) (i + (q + 1)) j F).map (mkL l.Target), ?_, ?_⟩
          · have := ih (m - (q + 1)) (i + (q + 1)) { Full := F, Target := l.Target } [] hF (by omega) t0 hFg (by omega)
            rw [List.append_nil] at this
            exact this
          · rw [hL, List.map_append, List.append_assoc]
            refine Each_yld (post := fun r => r = none ∨ r = some rest) (.inl rfl) _ ?_
            refine S_cloneB (by show F.length ≤ _; omega) ⟨_, idx_of rfl hx, ?_, ?_, ?_⟩
            · show (F.set _ false).length = n
              simpa using hF
            · show (F.set (Int.toNat ((i + q : Nat) : Int)) false)[l.Target.toNat]? = some true
              rw [Int.toNat_natCast, set_get1 (by omega), if_neg hc.2]; exact hFg
            · show some _ = some ((chs _ _ _ _ (F.set (Int.toNat ((i + q : Nat) : Int)) false)).map _ ++ rest)
              rw [Int.toNat_natCast]
      · obtain ⟨F, oy, c⟩ := s
        obtain ⟨rfl, hF, hFg, ho⟩ := hI
        replace hF : F.length = n := hF
        replace ho : oy = some ((chs l.Target.toNat (m - m) (i + m) (j + 1) F).map (mkL l.Target) ++ rest) := ho
        subst ho
        refine Ite.nlt (by show ¬ ((i + m : Nat) : Int) < (F.length : Int); omega) ?_
        show some _ = some rest
        rw [Nat.sub_self, chs, if_neg (by omega)]; rfl
  exact key j m i l rest hl hi t0 hg hj
/-- the worst of the distances: -1 is the worst -/
def bndL (d : List Bool → Int) : List (List Bool) → Int → Int
  | [], s => s
  | G :: Gs, s => if d G < 0 then -1 else bndL d Gs (imax s (d G))
section
variable {f : ApiFloor} {r : List Int} {n K : Nat} {goal : Int} {ts : List (List Int)}
/-- the distance in the tables -/
def dD (n j : Nat) (ts : List (List Int)) (l : ApiLayout) : Int := dT n (j + 1) (ts.getD j []) l
theorem Db.idx (h : Db f r n K goal ts) {j : Nat} (hj : j ≤ K) : ts[j]? = some (ts.getD j []) := by
  rw [List.getD_eq_getElem?_getD, List.getElem?_eq_getElem (by rw [h.len]; omega)]; rfl
theorem Db.get (h : Db f r n K goal ts) {j : Nat} (hj : j ≤ K) {l : ApiLayout} (hl : LOk n (j + 1) l) : (ts.getD j [])[rank n (j + 1) l]? = some (dD n j ts l) := by
  have := (h.tb j hj).1
  exact gT_get (by rw [this]; exact hl.rank_lt)
theorem S_pDist (h : Db f r n K goal ts) {j : Nat} {l : ApiLayout} (hl : LOk n (j + 1) l) {c : Int} {post : Int × Bool → Prop} (hY : j ≤ K → post (dD n j ts l, true)) (hN : K < j → post (0, false)) : V_pattern_DB_Dist { cells := c, goal := goal, tables := ts } l post := by
  unfold V_pattern_DB_Dist
  have h3 := h.li.1
  have hkl := hl.kle
  refine S_Shelves (by rw [hl.len]; simp [maxLen]; omega) ?_
  rw [hl.cnt]
  have w : w64 (((j + 1 : Nat) : Int) - 1) = (j : Int) := by rw [w64_eq (by omega) (by omega)]; omega
  simp only [w]
  have hlen := h.len
  by_cases hj : j ≤ K
  · refine Ite.f (by show decide ((j : Int) ≥ (ts.length : Int)) = false; simp; omega) ⟨_, idx_of rfl (h.idx hj), S_Rank (by omega) hl.kle h3 hl ⟨_, idx_of rfl (h.get hj hl), hY hj⟩⟩
  · exact Ite.t (by show decide ((j : Int) ≥ (ts.length : Int)) = true; simp; omega) (hN (by omega))
/-- how many others are chosen -/
def nO (k K : Nat) : Nat := min (k - 1) K
/-- the bound -/
def bnd (n k K : Nat) (ts : List (List Int)) (l : ApiLayout) : Int := bndL (fun G => dD n (nO k K) ts (mkL l.Target G)) (chs l.Target.toNat n 0 (nO k K) l.Full) 0
theorem S_Bound (h : Db f r n K goal ts) {k : Nat} {l : ApiLayout} (hl : LOk n k l) {c : Int} {post : Int → Prop} (hp : post (bnd n k K ts l)) : V_pattern_DB_Bound { cells := c, goal := goal, tables := ts } l post := by
  unfold V_pattern_DB_Bound
  have h3 := h.li.1
  have hK := h.hK
  have hkp := hl.kpos
  have hkl := hl.kle
  refine S_Shelves (by rw [hl.len]; simp [maxLen]; omega) ?_
  rw [hl.cnt]
  have hlen : ((ts.length : Nat) : Int) = ((K + 1 : Nat) : Int) := by rw [h.len]
  have w : w64 ((imin ((k : Nat) : Int) (ts.length : Int)) - 1) = ((nO k K : Nat) : Int) := by
    rw [hlen]
    have e : imin ((k : Nat) : Int) ((K + 1 : Nat) : Int) = ((nO k K + 1 : Nat) : Int) := by unfold imin nO; split <;> omega
    have hno : nO k K ≤ n := by unfold nO; omega
    rw [e, w64_eq (by omega) (by omega)]; omega
  simp only [w]
  unfold V_pattern_choices
  refine ⟨(chs l.Target.toNat n 0 (nO k K) l.Full).map (mkL l.Target), ?_, ?_⟩
  · have := S_choices (j := nO k K) (n := n) (m := n) (i := 0) (l := l) (rest := []) (by unfold nO; omega) (by omega) hl.len (by omega) hl.t0 hl.get
    rw [List.append_nil] at this
    exact this
  · have key : ∀ (Gs : List (List Bool)) (s : Int), (∀ G, G ∈ Gs → LOk n (nO k K + 1) (mkL l.Target G)) → post (bndL (fun G => dD n (nO k K) ts (mkL l.Target G)) Gs s) →
        Each (fun (x12 : ApiLayout) (s13 : Int) Y14 => V_pattern_DB_Dist { cells := c, goal := goal, tables := ts } x12 (fun x20 => Ite (decide (x20.1 < 0)) (post (-1)) (Y14 (imax s13 x20.1)))) (fun (s28 : Int) => post s28) (Gs.map (mkL l.Target)) s := by
      intro Gs
      induction Gs with
      | nil => intro s _ hp; exact hp
      | cons G Gs ih =>
        intro s hG hp
        rw [bndL] at hp
        rw [List.map_cons, Each]
        refine S_pDist h (hG G (by simp)) (fun _ => ?_) (fun hlt => by unfold nO at hlt; omega)
        refine Ite.mk (fun e => ?_) (fun e => ?_)
        · rw [if_pos (of_decide_eq_true e)] at hp; exact hp
        · rw [if_neg (of_decide_eq_false e)] at hp
          exact ih _ (fun G' hG' => hG G' (by simp [hG'])) hp
    exact key _ _ (fun G hG => ((chs_layout hl).1 hG).1) hp
end
end Go.Taq

/- The mathematics of the patterns, part FE: the reference's bound; what is given; the examples. -/
set_option linter.unusedVariables false
set_option linter.unusedSimpArgs false
namespace Go.Taq
open Go
/-- the worst of some distances -/
def IsB (S : List Bool → Prop) (d : List Bool → Int) (b : Int) : Prop := ((∃ G, S G ∧ d G < 0) ∧ b = -1) ∨ ((∀ G, S G → 0 ≤ d G ∧ d G ≤ b) ∧ 0 ≤ b ∧ (b = 0 ∨ ∃ G, S G ∧ d G = b))
theorem IsB.eq {S : List Bool → Prop} {d : List Bool → Int} {a b : Int} (h : IsB S d a) (k : IsB S d b) : a = b := by
  rcases h with ⟨⟨G, h1, h2⟩, rfl⟩ | ⟨h1, h2, h3⟩
  · rcases k with ⟨_, rfl⟩ | ⟨k1, _⟩
    · rfl
    · have := (k1 G h1).1; omega
  · rcases k with ⟨⟨G, k1, k2⟩, rfl⟩ | ⟨k1, k2, k3⟩
    · have := (h1 G k1).1; omega
    · have a1 : a ≤ b := by
        rcases h3 with e | ⟨G, e1, e2⟩
        · omega
        · have := (k1 G e1).2; omega
      have a2 : b ≤ a := by
        rcases k3 with e | ⟨G, e1, e2⟩
        · omega
        · have := (h1 G e1).2; omega
      omega
theorem bndL_is (d : List Bool → Int) : ∀ (Gs : List (List Bool)) (s : Int), 0 ≤ s → ((∃ G, G ∈ Gs ∧ d G < 0) ∧ bndL d Gs s = -1) ∨ ((∀ G, G ∈ Gs → 0 ≤ d G ∧ d G ≤ bndL d Gs s) ∧ s ≤ bndL d Gs s ∧ (bndL d Gs s = s ∨ ∃ G, G ∈ Gs ∧ d G = bndL d Gs s))
  | [], s, h => .inr ⟨fun _ h => by simp at h, Int.le_refl _, .inl rfl⟩
  | G :: Gs, s, h => by
    rw [bndL]
    by_cases c : d G < 0
    · rw [if_pos c]; exact .inl ⟨⟨G, by simp, c⟩, rfl⟩
    · rw [if_neg c]
      have hm : s ≤ imax s (d G) ∧ d G ≤ imax s (d G) ∧ (imax s (d G) = s ∨ imax s (d G) = d G) := by unfold imax; split <;> omega
      rcases bndL_is d Gs (imax s (d G)) (by omega) with ⟨⟨G', h1, h2⟩, h3⟩ | ⟨h1, h2, h3⟩
      · exact .inl ⟨⟨G', by simp [h1], h2⟩, h3⟩
      · refine .inr ⟨fun G' hG' => ?_, by omega, ?_⟩
        · rcases List.mem_cons.1 hG' with e | e
          · subst e; omega
          · exact h1 G' e
        · rcases h3 with e | ⟨G', e1, e2⟩
          · rcases hm.2.2 with e2 | e2
            · left; omega
            · right; exact ⟨G, by simp, by omega⟩
          · exact .inr ⟨G', by simp [e1], e2⟩
section
variable {n K : Nat} {ts : List (List Int)}
/-- what is chosen -/
def Chosen (n j : Nat) (l : ApiLayout) (G : List Bool) : Prop := LOk n (j + 1) (mkL l.Target G) ∧ Subl (mkL l.Target G) l
theorem bnd_is {k : Nat} {l : ApiLayout} (hl : LOk n k l) : IsB (Chosen n (nO k K) l) (fun G => dD n (nO k K) ts (mkL l.Target G)) (bnd n k K ts l) := by
  have := bndL_is (fun G => dD n (nO k K) ts (mkL l.Target G)) (chs l.Target.toNat n 0 (nO k K) l.Full) 0 (Int.le_refl _)
  have hm : ∀ G, G ∈ chs l.Target.toNat n 0 (nO k K) l.Full ↔ Chosen n (nO k K) l G := fun G => chs_layout hl
  simp only [hm] at this
  exact this
end
/-! ## the reference's choice -/
end Go.Taq

/- The mathematics of the patterns, part FF: the reference's bound; what is given; the examples. -/
set_option linter.unusedVariables false
set_option linter.unusedSimpArgs false
namespace Go.Taq
open Go
section

end
/-! ## what is given -/
end Go.Taq

/- The mathematics of the patterns, part FG: the examples; what the bounds say. -/
set_option linter.unusedVariables false
set_option linter.unusedSimpArgs false
namespace Go.Taq
open Go
/-- a table that is right, checked -/
def chkT (N : Nat) (pre : Nat → List Nat) (src : Nat → Bool) (t : List Int) : Bool :=
  decide (t.length = N) && (List.range N).all fun i => decide (gT t i ≤ N) && decide (-1 ≤ gT t i) && (src i == decide (gT t i = 0)) && (decide (gT t i ≤ 0) || (List.range N).any fun j => decide (gT t j = gT t i - 1) && (pre j).contains i) && (decide (gT t i < 0) || (pre i).all fun p => decide (0 ≤ gT t p) && decide (gT t p ≤ gT t i + 1))
theorem TOk.chk {N : Nat} {pre : Nat → List Nat} {src : Nat → Bool} {t : List Int} (hp : ∀ j, j < N → ∀ i, i ∈ pre j → i < N) (h : chkT N pre src t = true) : TOk N pre src t := by
  unfold chkT at h
  simp only [Bool.and_eq_true, decide_eq_true_eq, List.all_eq_true, List.mem_range, Bool.or_eq_true, List.any_eq_true, beq_iff_eq, List.contains_iff_mem] at h
  obtain ⟨hl, h⟩ := h
  have hpt : ∀ {e i : Nat}, Pt N pre src e i → 0 ≤ gT t i ∧ gT t i ≤ (e : Int) := by
    intro e i hP
    induction hP with
    | zero h1 h2 =>
      have h3 : src _ = _ := (h _ h1).1.1.2
      rw [h2] at h3
      have := of_decide_eq_true h3.symm
      omega
    | succ hj hi ih =>
      have hjn := hj.lt hp
      rcases (h _ hjn).2 with h3 | h3
      · omega
      · have := h3 _ hi; omega
  have hex : ∀ (d i : Nat), i < N → gT t i = (d : Int) → Pt N pre src d i := by
    intro d
    induction d with
    | zero =>
      intro i hi he
      refine .zero hi ?_
      rw [(h i hi).1.1.2]; exact decide_eq_true (by omega)
    | succ d ih =>
      intro i hi he
      rcases (h i hi).1.2 with h3 | ⟨j, hj, h4, h5⟩
      · omega
      · exact .succ (ih j hj (by omega)) h5
  refine ⟨hl, fun i hi => ?_, fun i hi => (h i hi).1.1.1.1⟩
  rcases Int.lt_or_le (gT t i) 0 with c | c
  · have := (h i hi).1.1.1.2
    exact .inl ⟨by omega, fun d hd => by have := hpt hd; omega⟩
  · obtain ⟨d, hd⟩ : ∃ d : Nat, gT t i = (d : Int) := ⟨(gT t i).toNat, by omega⟩
    exact .inr ⟨d, hd, hex d i hi hd, fun e he => by have := hpt he; omega⟩
def rowF : ApiFloor := { W := 4, H := 1, D := 1, Kind := [1, 1, 1, 1], Out := [1, 5, 5, 4] }
def r4 : List Int := [0, 1, 2, 3]
def tA : List Int := [3, 2, 1, 0]
def tB : List Int := (List.range 12).map fun i => let l := unrank 4 2 i; if l.Target = 3 then 0 else if (l.Full.drop (l.Target.toNat + 1)).contains true then -1 else 3 - l.Target
theorem RF_row : RF rowF := by
  refine ⟨by decide, by decide, by decide, by decide, by decide, by decide, by decide, by decide, by decide, fun i x y hx hy => ?_⟩
  have key : ∀ i : Nat, i < 4 → (0 ≤ rowF.Kind.getD i 0 ∧ rowF.Kind.getD i 0 < 7) ∧ (0 ≤ rowF.Out.getD i 0 ∧ rowF.Out.getD i 0 ≤ 63) := by decide
  have hi : i < 4 := (List.getElem?_eq_some_iff.1 hx).1
  have e1 : rowF.Kind.getD i 0 = x := by rw [List.getD_eq_getElem?_getD, hx]; rfl
  have e2 : rowF.Out.getD i 0 = y := by rw [List.getD_eq_getElem?_getD, hy]; rfl
  have := key i hi
  rw [e1, e2] at this
  omega
theorem Asc_r4 : Asc r4 := by
  intro i j x y hij hx hy
  have hj : j < 4 := (List.getElem?_eq_some_iff.1 hy).1
  have key : ∀ j, j < 4 → ∀ i, i < j → r4.getD i 0 < r4.getD j 0 := by decide +kernel
  have e1 : r4.getD i 0 = x := by rw [List.getD_eq_getElem?_getD, hx]; rfl
  have e2 : r4.getD j 0 = y := by rw [List.getD_eq_getElem?_getD, hy]; rfl
  rw [← e1, ← e2]; exact key j hj i hij
theorem chkA : chkT 4 (preT rowF r4 4 1) (srcT 4 1 3) tA = true := by decide +kernel
theorem chkB : chkT 12 (preT rowF r4 4 2) (srcT 4 2 3) tB = true := by decide +kernel
theorem row_tables {K : Nat} (hK : K ≤ 1) {ts : List (List Int)} (h : Db rowF r4 4 K 3 ts) : ts = if K = 0 then [tA] else [tA, tB] := by
  have a1 : ts.getD 0 [] = tA := (h.tb 0 (by omega)).eq (TOk.chk (preT_lt (by decide) (by decide)) chkA)
  have hl := h.len
  by_cases c : K = 0
  · subst c
    rw [if_pos rfl]
    match ts, hl with
    | [t], _ => simpa using a1
  · have : K = 1 := by omega
    subst this
    have a2 : ts.getD 1 [] = tB := (h.tb 1 (by omega)).eq (TOk.chk (preT_lt (by decide) (by decide)) chkB)
    rw [if_neg (by decide)]
    match ts, hl with
    | [t, u], _ => simp at a1 a2; rw [a1, a2]
/-! ## what the bounds say -/
theorem lim10 {n K : Nat} (hn : n ≤ 10) : lim n K := by
  refine ⟨by omega, fun j _ => ?_⟩
  have h1 := ch_pow (n - 1) (j + 1 - 1)
  have h2 : 2 ^ (n - 1) ≤ 2 ^ 9 := Nat.pow_le_pow_right (by omega) (by omega)
  have h3 : ch (n - 1) (j + 1 - 1) ≤ 512 := by omega
  have := Nat.mul_le_mul hn h3
  unfold nL; omega
section
variable {f : ApiFloor} {r : List Int} {n K : Nat} {goal : Int} {ts : List (List Int)}
theorem Db.dst (h : Db f r n K goal ts) (hn : n ≤ 12) {j : Nat} (hj : j ≤ K) : Dst f r n (j + 1) goal (ts.getD j []) := ⟨by omega, by have := h.hK; omega, hn, h.hr, h.tb j hj⟩
end
end Go.Taq
