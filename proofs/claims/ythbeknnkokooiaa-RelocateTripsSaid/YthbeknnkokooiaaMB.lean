/- The mathematics, several parts in one text. -/
import Derived.Test.YthbeknnkokooiaaPC
import Derived.Test.YthbeknnkokooiaaVc
import Derived.Test.YthbeknnkokooiaaMA
/- The mathematics of layouts, part D: from ranks to layouts, and shifts. -/
set_option linter.unusedVariables false
set_option linter.unusedSimpArgs false
namespace Go.Taq
open Go
theorem w64_1 {i : Nat} (h : i ≤ 1000000) : w64 ((i : Int) + 1) = ((i + 1 : Nat) : Int) := by rw [w64_eq (by omega) (by omega)]; simp
theorem w64_p {i : Nat} (h : i ≤ 1000000) (h' : 1 ≤ i) : w64 ((i : Int) - 1) = ((i - 1 : Nat) : Int) := by rw [w64_eq (by omega) (by omega)]; omega
theorem set_row {xs ys : List Bool} {i m : Nat} {b : Bool} (hi : i < xs.length) (h1 : ys = xs.take i ++ List.replicate (m + 1) false) (hx : xs[i]? = some b) :
    ys.set i b = xs.take (i + 1) ++ List.replicate m false := by
  subst h1
  rw [List.take_add_one, hx, List.set_append_right _ _ (by simp; omega)]
  have : i - (xs.take i).length = 0 := by simp; omega
  rw [this, List.replicate_succ, List.set_cons_zero]; simp
theorem skip_row {xs ys : List Bool} {i m : Nat} (hi : i < xs.length) (h1 : ys = xs.take i ++ List.replicate (m + 1) false) (hx : xs[i]? = some false) :
    ys = xs.take (i + 1) ++ List.replicate m false := by
  subst h1
  rw [List.take_add_one, hx, List.replicate_succ]; simp
theorem idx_row {xs ys : List Bool} {i m : Nat} (hi : i < xs.length) (h1 : ys = xs.take i ++ List.replicate (m + 1) false) : idx ys (i : Int) = some false := by
  rw [idx_nat, h1, List.getElem?_append_right (by simp; omega)]
  have : i - (xs.take i).length = 0 := by simp; omega
  rw [this]; rfl
theorem drop_cons {xs : List Bool} {i : Nat} {b : Bool} {t : List Bool} (h : xs.drop i = b :: t) : xs[i]? = some b ∧ xs.drop (i + 1) = t := by
  have h1 := congrArg (fun l : List Bool => l[0]?) h
  have h2 := congrArg (fun l : List Bool => l.drop 1) h
  simp only [List.getElem?_drop, List.drop_drop] at h1 h2
  exact ⟨by simpa using h1, by simpa using h2⟩
section
variable {n k : Nat} (h1 : 1 ≤ k) (h2 : k ≤ n) (h3 : n ≤ 24)
include h1 h2 h3
theorem S_Unrank {i : Nat} (hi : i < n * ch (n - 1) (k - 1)) {post : ApiLayout × Bool → Prop} (hp : post (unrank n k i, true)) : V_layout_Unrank (n : Int) (k : Int) (i : Int) post := by
  unfold V_layout_Unrank
  have hcl := count_le (k := k) h3
  have hc0 : 0 < ch (n - 1) (k - 1) := ch_pos (by omega)
  refine Jn.mk (fun b => b = false) (Ite.f (by simp) (S_Count h1 h2 h3 (by simp only [decide_eq_false_iff_not]; omega))) (fun b e => Ite.f e (S_choose fun c hc => ?_))
  have w1 := w64_p (i := n) (by omega) (by omega)
  have w2 := w64_p (i := k) (by omega) (by omega)
  have w3 : w64 ((i : Int).tdiv (ch (n - 1) (k - 1) : Nat)) = ((i / ch (n - 1) (k - 1) : Nat) : Int) := by
    have : (i : Int).tdiv (ch (n - 1) (k - 1) : Nat) = ((i / ch (n - 1) (k - 1) : Nat) : Int) := rfl
    have h := Nat.div_le_self i (ch (n - 1) (k - 1))
    rw [this]
    generalize i / ch (n - 1) (k - 1) = q at h
    rw [w64_eq (by omega) (by omega)]
  have w4 : (i : Int).tmod (ch (n - 1) (k - 1) : Nat) = ((i % ch (n - 1) (k - 1) : Nat) : Int) := rfl
  simp only [w1, w2, ix25]
  refine ⟨⟨by omega, by omega⟩, ⟨by omega, by omega⟩, _, hc (n - 1) (k - 1) (by omega) (by omega), by omega, ⟨by omega, by omega⟩, ⟨by omega, by omega⟩, ⟨by omega, by omega⟩, by omega, ?_⟩
  simp only [w3, w4]
  have hT : i / ch (n - 1) (k - 1) < n := (Nat.div_lt_iff_lt_mul hc0).2 hi
  have hr := Nat.mod_lt i hc0
  have hun : unrank n k i = { Full := unF (i / ch (n - 1) (k - 1)) 0 n (k - 1) (i % ch (n - 1) (k - 1)), Target := ((i / ch (n - 1) (k - 1) : Nat) : Int) } := rfl
  rw [hun] at hp
  generalize i / ch (n - 1) (k - 1) = T at *
  generalize i % ch (n - 1) (k - 1) = r0 at *
  generalize hfull : unF T 0 n (k - 1) r0 = full at *
  have hfl : full.length = n := by rw [← hfull]; exact unF_len _ _ _ _ _
  refine Jn.mk (fun x => x = full) (Loop.inv n (fun j (s : Int × List Bool × Int × Int × Int) => s.2.2.2.2 = (j : Int) ∧ s.2.1 = full.take j ++ List.replicate (n - j) false ∧ s.2.2.1 = (oth T j (n - j) : Nat) ∧
    ∃ nd r : Nat, s.2.2.2.1 = (nd : Int) ∧ s.1 = (r : Int) ∧ full.drop j = unF T j (n - j) nd r ∧ r < ch (oth T j (n - j)) nd ∧ nd ≤ 24) ⟨rfl, by simp, by simp [oth], k - 1, r0, rfl, rfl, by simpa using hfull.symm, by simpa [oth] using hr, by omega⟩ (fun j s hj hI => ?_) (fun s hI => ?_)) (fun x e => by subst e; exact hp)
  · obtain ⟨rs, row, lf, nd', q⟩ := s
    obtain ⟨rfl, hrow, rfl, nd, r, rfl, rfl, hdr, hr, hnd⟩ := hI
    obtain ⟨m, hm⟩ : ∃ m, n - j = m + 1 := ⟨n - j - 1, by omega⟩
    have hm' : n - (j + 1) = m := by omega
    rw [hm] at hdr hr
    replace hrow : row = full.take j ++ List.replicate (m + 1) false := by rw [← hm]; exact hrow
    have hix := idx_row (by omega) hrow
    have hom : oth T (j + 1) m ≤ 24 := by unfold oth; split <;> omega
    refine Ite.lt (by show (j : Int) < n; omega) (Jn.mk (fun (s : Int × List Bool × Int × Int) => s.2.1 = full.take (j + 1) ++ List.replicate m false ∧ s.2.2.1 = (oth T (j + 1) m : Nat) ∧ ∃ nd r : Nat, s.2.2.2 = (nd : Int) ∧ s.1 = (r : Int) ∧ full.drop (j + 1) = unF T (j + 1) m nd r ∧ r < ch (oth T (j + 1) m) nd ∧ nd ≤ 24) ?_
      (fun s ⟨e1, e2, e3⟩ => ⟨by show w64 ((j : Int) + 1) = _; exact w64_1 (by omega), by rw [hm']; exact e1, by rw [hm']; exact e2, by rw [hm']; exact e3⟩))
    unfold unF at hdr
    refine Ite.mk (fun e => ?_) (fun e => ?_)
    · have e' : j = T := by have : (j : Int) = (T : Int) := beq_iff_eq.1 e; omega
      rw [if_pos e'] at hdr
      obtain ⟨hx, hd2⟩ := drop_cons hdr
      refine ⟨_, hix, ?_, ?_, nd, r, rfl, rfl, hd2, ?_, hnd⟩
      · show row.set (Int.toNat (j : Int)) true = _
        rw [Int.toNat_natCast]; exact set_row (by omega) hrow hx
      · have : oth T (j + 1) m = oth T j (n - j) := by unfold oth; rw [if_neg (by omega), if_pos (by omega)]; omega
        show ((oth T j (n - j) : Nat) : Int) = _
        rw [this]
      · have : oth T (j + 1) m = oth T j (m + 1) := by unfold oth; rw [if_neg (by omega), if_pos (by omega)]; omega
        rw [this]; exact hr
    · have e' : j ≠ T := by rintro rfl; simp at e
      rw [if_neg e'] at hdr
      have hoi : oth T j (n - j) = oth T (j + 1) m + 1 := by unfold oth; split <;> split <;> omega
      have w5 : w64 (((oth T j (n - j) : Nat) : Int) - 1) = (oth T (j + 1) m : Nat) := by rw [hoi, w64_p (by omega) (by omega)]; simp
      have hoi' : oth T j (m + 1) = oth T (j + 1) m + 1 := by rw [← hm]; exact hoi
      rw [hoi', ch_succ] at hr
      refine Ite.mk (fun hz => ?_) (fun hz => ?_)
      · have hz' : nd = 0 := by simp at hz; omega
        subst hz'
        rw [if_neg (by simp [chm])] at hdr
        obtain ⟨hx, hd2⟩ := drop_cons hdr
        refine ⟨skip_row (by omega) hrow hx, w5, 0, r, rfl, rfl, by simpa [chm] using hd2, by simpa [chm] using hr, by omega⟩
      · have hz' : 1 ≤ nd := by simp at hz; omega
        have w6 := w64_p (i := nd) (by omega) hz'
        have hcm : chm (oth T (j + 1) m) nd = ch (oth T (j + 1) m) (nd - 1) := by
          obtain ⟨q, rfl⟩ : ∃ q, nd = q + 1 := ⟨nd - 1, by omega⟩
          rfl
        rw [hcm] at hdr hr
        have hb1 := ch_small (n := oth T (j + 1) m) (k := nd) (by omega)
        have hb2 := ch_small (n := oth T (j + 1) m) (k := nd - 1) (by omega)
        simp only [w5, w6, ix25]
        refine ⟨⟨by omega, by omega⟩, ⟨by omega, by omega⟩, _, hc _ _ (by omega) (by omega), Jn.mk (fun (s : Int × List Bool × Int) => s.2.1 = full.take (j + 1) ++ List.replicate m false ∧ ∃ nd r : Nat, s.2.2 = (nd : Int) ∧ s.1 = (r : Int) ∧ full.drop (j + 1) = unF T (j + 1) m nd r ∧ r < ch (oth T (j + 1) m) nd ∧ nd ≤ 24) (Ite.mk (fun hl => ?_) (fun hl => ?_)) (fun s ⟨e1, e2⟩ => ⟨e1, by trivial, e2⟩)⟩
        · have hl' : r < ch (oth T (j + 1) m) (nd - 1) := by have := of_decide_eq_true hl; omega
          rw [if_pos hl'] at hdr
          obtain ⟨hx, hd2⟩ := drop_cons hdr
          exact ⟨_, hix, (by show row.set (Int.toNat (j : Int)) true = _; rw [Int.toNat_natCast]; exact set_row (by omega) hrow hx), nd - 1, r, rfl, rfl, hd2, hl', by omega⟩
        · have hl' : ¬ r < ch (oth T (j + 1) m) (nd - 1) := by have := of_decide_eq_false hl; omega
          rw [if_neg hl'] at hdr
          obtain ⟨hx, hd2⟩ := drop_cons hdr
          refine ⟨⟨by omega, by omega⟩, ⟨by omega, by omega⟩, skip_row (by omega) hrow hx, nd, r - ch (oth T (j + 1) m) (nd - 1), rfl, ?_, hd2, by omega, hnd⟩
          show w64 ((r : Int) - (ch (oth T (j + 1) m) (nd - 1) : Nat)) = _
          rw [w64_eq (by omega) (by omega)]; omega
  · obtain ⟨rs, row, lf, nd', q⟩ := s
    obtain ⟨rfl, hrow, _⟩ := hI
    refine Ite.nlt (by show ¬ (n : Int) < n; omega) ?_
    show row = full
    replace hrow : row = full.take n ++ List.replicate (n - n) false := hrow
    rw [hrow, List.take_of_length_le (by omega)]; simp
end

/-- what a shift makes -/
def doL (l : ApiLayout) (a b : Nat) : ApiLayout := { Full := (l.Full.set a false).set b true, Target := if l.Target = (a : Int) then (b : Int) else l.Target }
theorem set2_get {xs : List Bool} {a b j : Nat} : ((xs.set a false).set b true)[j]? = if b = j ∧ b < xs.length then some true else if a = j ∧ a < xs.length then some false else xs[j]? := by
  rw [List.getElem?_set, List.getElem?_set]
  simp only [List.length_set]
  by_cases e1 : b = j
  · subst e1
    by_cases e2 : b < xs.length
    · simp [e2]
    · simp only [e2, if_true, if_false, and_false, true_and]
      by_cases e3 : a = b ∧ a < xs.length
      · omega
      · rw [if_neg e3, List.getElem?_eq_none (by omega)]
  · simp only [e1, if_false, false_and]
    by_cases e2 : a = j
    · subst e2
      by_cases e3 : a < xs.length
      · simp [e3]
      · simp only [e3, if_true, if_false, and_false]; rw [List.getElem?_eq_none (by omega)]
    · simp [e2]
theorem count_set_true : ∀ {l : List Bool} {i : Nat}, l[i]? = some false → (l.set i true).count true = l.count true + 1
  | [], i, h => by simp at h
  | b :: l, 0, h => by simp at h; subst h; simp
  | b :: l, i + 1, h => by
    have ih := count_set_true (l := l) (i := i) (by simpa using h)
    simp only [List.set_cons_succ, List.count_cons]
    omega
theorem count_set_false : ∀ {l : List Bool} {i : Nat}, l[i]? = some true → (l.set i false).count true + 1 = l.count true
  | [], i, h => by simp at h
  | b :: l, 0, h => by simp at h; subst h; simp
  | b :: l, i + 1, h => by
    have ih := count_set_false (l := l) (i := i) (by simpa using h)
    simp only [List.set_cons_succ, List.count_cons]
    omega
theorem LOk.doL {n k : Nat} {l : ApiLayout} (h : LOk n k l) {a b : Nat} (ha : l.Full[a]? = some true) (hb : l.Full[b]? = some false) : LOk n k (doL l a b) := by
  have hab : a ≠ b := by rintro rfl; rw [ha] at hb; simp at hb
  have hal := (List.getElem?_eq_some_iff.1 ha).1
  have hbl := (List.getElem?_eq_some_iff.1 hb).1
  have h0 := h.t0
  refine ⟨by simp [Go.Taq.doL, h.len], ?_, ?_, ?_⟩
  · have e1 := count_set_false ha
    have e2 := count_set_true (l := l.Full.set a false) (i := b) (by rw [List.getElem?_set_ne hab]; exact hb)
    show List.count true ((l.Full.set a false).set b true) = k
    rw [e2, e1, h.cnt]
  · show 0 ≤ (if l.Target = (a : Int) then (b : Int) else l.Target)
    split <;> omega
  · show ((l.Full.set a false).set b true)[(if l.Target = (a : Int) then (b : Int) else l.Target).toNat]? = some true
    rw [set2_get]
    split
    · rw [Int.toNat_natCast, if_pos ⟨rfl, hbl⟩]
    · rename_i hne
      have hg := h.get
      by_cases e : b = l.Target.toNat
      · rw [← e, hb] at hg; simp at hg
      · rw [if_neg (fun h => e h.1), if_neg (by rintro ⟨h, _⟩; omega)]; exact hg
theorem doL_back {n k : Nat} {l : ApiLayout} (h : LOk n k l) {a b : Nat} (ha : l.Full[a]? = some true) (hb : l.Full[b]? = some false) : Go.Taq.doL (Go.Taq.doL l a b) b a = l := by
  have hab : a ≠ b := by rintro rfl; rw [ha] at hb; simp at hb
  have hal := (List.getElem?_eq_some_iff.1 ha).1
  have hbl := (List.getElem?_eq_some_iff.1 hb).1
  have h0 := h.t0
  have hg := h.get
  have hTb : l.Target ≠ (b : Int) := by
    intro e; rw [e, Int.toNat_natCast, hb] at hg; simp at hg
  have e1 : ((((l.Full.set a false).set b true).set b false).set a true) = l.Full := by
    apply List.ext_getElem?
    intro j
    rw [set2_get, set2_get]
    simp only [List.length_set]
    by_cases e1 : a = j
    · subst e1; rw [if_pos ⟨rfl, hal⟩, ha]
    · rw [if_neg (fun h => e1 h.1)]
      by_cases e2 : b = j
      · subst e2; rw [if_pos ⟨rfl, hbl⟩, hb]
      · rw [if_neg (fun h => e2 h.1), if_neg (fun h => e2 h.1), if_neg (fun h => e1 h.1)]
  have e2 : (if (if l.Target = (a : Int) then (b : Int) else l.Target) = (b : Int) then (a : Int) else (if l.Target = (a : Int) then (b : Int) else l.Target)) = l.Target := by
    by_cases h1 : l.Target = (a : Int)
    · rw [if_pos h1, if_pos rfl, h1]
    · rw [if_neg h1, if_neg hTb]
  unfold Go.Taq.doL
  simp only [e1, e2]
theorem S_Do {l : ApiLayout} {a b : Nat} (ha : l.Full[a]? = some true) (hb : l.Full[b]? = some false) (hl : l.Full.length ≤ 1000) {post : ApiLayout × Int → Prop} (hp : post (doL l a b, 0)) : V_layout_Do l { From := a, To := b } post := by
  unfold V_layout_Do
  have hal := (List.getElem?_eq_some_iff.1 ha).1
  have hbl := (List.getElem?_eq_some_iff.1 hb).1
  have hab : a ≠ b := by rintro rfl; rw [ha] at hb; simp at hb
  refine Jn.mk (fun b => b = false) (Ite.f (by simp) (Ite.f (by simp; omega) (Ite.f (by simp) (by simp; omega)))) (fun x e => Ite.f e (Jn.mk (fun b => b = false) ⟨true, idx_of rfl ha, Ite.t rfl ⟨false, idx_of rfl hb, rfl⟩⟩ (fun x e => Ite.f e ?_)))
  unfold V_slices_Clone_bool_bool
  have key : ∀ xs : List Bool, xs = l.Full → ∃ x26, idx xs (a : Int) = some x26 ∧ ∃ x27, idx (xs.set (Int.toNat (a : Int)) false) (b : Int) = some x27 ∧ Jn (fun (J31 : Int → Prop) => Ite (l.Target == (a : Int)) (J31 (b : Int)) (J31 l.Target)) (fun (x30 : Int) => post (({ Full := ((xs.set (Int.toNat (a : Int)) false).set (Int.toNat (b : Int)) true), Target := x30 : ApiLayout }), 0)) := by
    intro xs e
    subst e
    refine ⟨true, idx_of rfl ha, false, idx_of rfl (by simpa [List.getElem?_set_ne hab] using hb), Jn.mk' ?_⟩
    simp only [Int.toNat_natCast]
    refine Ite.mk (fun h => ?_) (fun h => ?_)
    · have := beq_iff_eq.1 h
      simpa [doL, this] using hp
    · have h' : l.Target ≠ (a : Int) := by intro e; simp [e] at h
      simpa [doL, h'] using hp
  intro hb5 hz
  refine Ite.mk (fun h => key [] (hz (by simpa using h)).symm) (fun h => ⟨by simp; omega, key _ (by simp)⟩)
end Go.Taq

/- The mathematics of layouts, part E: the reference's ranks. -/
set_option linter.unusedVariables false
set_option linter.unusedSimpArgs false
namespace Go.Taq
open Go
section
variable {n k : Nat} (h1 : 1 ≤ k) (h2 : k ≤ n) (h3 : n ≤ 24)
include h1 h2 h3
end
end Go.Taq

/- The mathematics of layouts, part F: the reference's layouts and shifts; right layouts. -/
set_option linter.unusedVariables false
set_option linter.unusedSimpArgs false
namespace Go.Taq
open Go
section
variable {n k : Nat} (h1 : 1 ≤ k) (h2 : k ≤ n) (h3 : n ≤ 24)
include h1 h2 h3
end
end Go.Taq

/- The mathematics, part B: right floors, and the cells beside a cell. -/
set_option linter.unusedVariables false
namespace Go.Taq
open Go

/-- a right floor -/
structure RF (f : ApiFloor) : Prop where
  W1 : 1 ≤ f.W
  H1 : 1 ≤ f.H
  D1 : 1 ≤ f.D
  D4 : f.D ≤ 4
  W4 : f.W ≤ 4096
  H4 : f.H ≤ 4096
  n4 : f.W * f.H * f.D ≤ 4096
  kl : (f.Kind.length : Int) = f.W * f.H * f.D
  ol : (f.Out.length : Int) = f.W * f.H * f.D
  ko : ∀ (i : Nat) x y, f.Kind[i]? = some x → f.Out[i]? = some y → 0 ≤ x ∧ x < 7 ∧ 0 ≤ y ∧ y ≤ 63

theorem mul_bd {a b p q : Int} (ha : 0 ≤ a) (hb : 0 ≤ b) (h1 : a ≤ p) (h2 : b ≤ q) : 0 ≤ a * b ∧ a * b ≤ p * q :=
  ⟨Int.mul_nonneg ha hb, Int.mul_le_mul h1 h2 hb (by omega)⟩
theorem size_eq {f : ApiFloor} (w1 : 1 ≤ f.W) (h1 : 1 ≤ f.H) (d1 : 1 ≤ f.D) (d4 : f.D ≤ 4) (w4 : f.W ≤ 4096) (h4 : f.H ≤ 4096) : w64 ((w64 (f.W * f.H)) * f.D) = f.W * f.H * f.D ∧ w64 (f.W * f.H) = f.W * f.H ∧ 1 ≤ f.W * f.H ∧ f.W * f.H ≤ 16777216 := by
  have a := mul_bd (by omega : 0 ≤ f.W) (by omega : 0 ≤ f.H) w4 h4
  have b := mul_bd a.1 (by omega : 0 ≤ f.D) a.2 d4
  have c : 1 * 1 ≤ f.W * f.H := Int.mul_le_mul w1 h1 (by omega) (by omega)
  rw [w64_eq (x := f.W * f.H) (by omega) (by omega), w64_eq (x := f.W * f.H * f.D) (by omega) (by omega)]
  exact ⟨rfl, rfl, by omega, by omega⟩
theorem RF.size {f : ApiFloor} (h : RF f) : w64 ((w64 (f.W * f.H)) * f.D) = f.Kind.length := by rw [(size_eq h.W1 h.H1 h.D1 h.D4 h.W4 h.H4).1, h.kl]
theorem RF.wh {f : ApiFloor} (h : RF f) : w64 (f.W * f.H) = f.W * f.H ∧ 1 ≤ f.W * f.H ∧ f.W * f.H ≤ 4096 := by
  have e := size_eq h.W1 h.H1 h.D1 h.D4 h.W4 h.H4
  refine ⟨e.2.1, e.2.2.1, ?_⟩
  have : f.W * f.H * 1 ≤ f.W * f.H * f.D := Int.mul_le_mul_of_nonneg_left h.D1 (by omega)
  have := h.n4; omega
theorem RF.len {f : ApiFloor} (h : RF f) : f.Kind.length ≤ 4096 ∧ f.Out.length = f.Kind.length := by
  have := h.kl; have := h.ol; have := h.n4; omega

/-- the number of a cell is one -/
def isC (f : ApiFloor) (c : Int) : Bool := decide (0 ≤ c) && decide (c < f.Kind.length)
theorem S_floor_size {f : ApiFloor} (h : RF f) {post : Int → Prop} (hp : post f.Kind.length) : V_floor_size f post := by
  unfold V_floor_size; rw [h.size]; exact hp
theorem S_floor_is {f : ApiFloor} (h : RF f) {c : Int} {post : Bool → Prop} (hp : post (isC f c)) : V_floor_is f c post := by
  unfold V_floor_is
  refine Jn.eq (isC f c) (Ite.mk (fun h1 => S_floor_size h ?_) (fun h1 => ?_)) hp
  · simp at h1; simp [isC, h1]
  · simp at h1; simp [isC]; omega

def kd (f : ApiFloor) (c : Int) : Int := f.Kind.getD c.toNat 0
def ot (f : ApiFloor) (c : Int) : Int := f.Out.getD c.toNat 0
theorem isC_iff {f : ApiFloor} {c : Int} : isC f c = true ↔ 0 ≤ c ∧ c < f.Kind.length := by simp [isC]
theorem idx_kd {f : ApiFloor} {c : Int} (h : isC f c = true) : idx f.Kind c = some (kd f c) := by
  rw [isC_iff] at h
  rw [idx_get h.1 h.2, kd, List.getD_eq_getElem?_getD, List.getElem?_eq_getElem (by omega)]; rfl
theorem idx_ot {f : ApiFloor} (hf : RF f) {c : Int} (h : isC f c = true) : idx f.Out c = some (ot f c) := by
  rw [isC_iff] at h
  have := hf.len.2
  rw [idx_get h.1 (by omega), ot, List.getD_eq_getElem?_getD, List.getElem?_eq_getElem (by omega)]; rfl

theorem imin_lt {x y k : Int} : imin x y < k ↔ x < k ∨ y < k := by unfold imin; split <;> omega
/-- the cell at a place; -1, if there is none -/
def cellF (f : ApiFloor) (x y z : Int) : Int := if 0 ≤ x ∧ x < f.W ∧ 0 ≤ y ∧ y < f.H ∧ 0 ≤ z ∧ z < f.D then (z * f.H + y) * f.W + x else -1
theorem cellF_bd {f : ApiFloor} (h : RF f) {x y z : Int} (h1 : 0 ≤ x ∧ x < f.W ∧ 0 ≤ y ∧ y < f.H ∧ 0 ≤ z ∧ z < f.D) :
    0 ≤ z * f.H ∧ z * f.H ≤ 16384 ∧ 0 ≤ (z * f.H + y) * f.W ∧ (z * f.H + y) * f.W + x < f.Kind.length := by
  obtain ⟨a1, a2, a3, a4, a5, a6⟩ := h1
  have w := h.W4; have hh := h.H4; have d := h.D4
  have b := mul_bd a5 (by omega : 0 ≤ f.H) (by omega : z ≤ 4) hh
  have e1 : (z + 1) * f.H ≤ f.D * f.H := Int.mul_le_mul_of_nonneg_right (by omega) (by omega)
  have e2 : (z + 1) * f.H = z * f.H + f.H := by rw [Int.add_mul]; omega
  have e3 : z * f.H + y + 1 ≤ f.D * f.H := by omega
  have e4 : (z * f.H + y + 1) * f.W ≤ f.D * f.H * f.W := Int.mul_le_mul_of_nonneg_right e3 (by omega)
  have e5 : (z * f.H + y + 1) * f.W = (z * f.H + y) * f.W + f.W := by rw [Int.add_mul (z * f.H + y)]; omega
  have e6 : f.D * f.H * f.W = f.W * f.H * f.D := by rw [Int.mul_comm f.D f.H, Int.mul_comm _ f.W, Int.mul_assoc f.W f.H f.D]
  have e7 : 0 ≤ (z * f.H + y) * f.W := Int.mul_nonneg (by omega) (by omega)
  have := h.kl
  exact ⟨b.1, by omega, e7, by omega⟩
theorem cellF_ok {f : ApiFloor} (h : RF f) (x y z : Int) : cellF f x y z = -1 ∨ isC f (cellF f x y z) = true := by
  unfold cellF
  split
  · rename_i h1
    have := cellF_bd h h1
    exact .inr (isC_iff.2 (by omega))
  · exact .inl rfl
theorem cellF_w {f : ApiFloor} (h : RF f) {x y z : Int} (h1 : 0 ≤ x ∧ x < f.W ∧ 0 ≤ y ∧ y < f.H ∧ 0 ≤ z ∧ z < f.D) : w64 ((w64 ((w64 ((w64 (z * f.H)) + y)) * f.W)) + x) = cellF f x y z := by
  have := cellF_bd h h1
  have := h.len.1; have := h.H4
  rw [w64_eq (x := z * f.H) (by omega) (by omega), w64_eq (x := z * f.H + y) (by omega) (by omega), w64_eq (x := (z * f.H + y) * f.W) (by omega) (by omega), w64_eq (by omega) (by omega), cellF, if_pos h1]

/-- a place -/
def pX (f : ApiFloor) (c : Int) : Int := c % f.W
def pY (f : ApiFloor) (c : Int) : Int := c / f.W % f.H
def pZ (f : ApiFloor) (c : Int) : Int := c / f.W / f.H
theorem p_bd {f : ApiFloor} (h : RF f) {c : Int} (hc : isC f c = true) : 0 ≤ pX f c ∧ pX f c < f.W ∧ 0 ≤ pY f c ∧ pY f c < f.H ∧ 0 ≤ pZ f c ∧ pZ f c < f.D := by
  rw [isC_iff] at hc
  have w := h.W1; have hh := h.H1; have hd := h.D1
  refine ⟨Int.emod_nonneg _ (by omega), Int.emod_lt_of_pos _ (by omega), Int.emod_nonneg _ (by omega), Int.emod_lt_of_pos _ (by omega), Int.ediv_nonneg (Int.ediv_nonneg hc.1 (by omega)) (by omega), ?_⟩
  unfold pZ
  refine Int.ediv_lt_of_lt_mul (by omega) (Int.ediv_lt_of_lt_mul (by omega) ?_)
  have := h.kl
  have e6 : f.D * f.H * f.W = f.W * f.H * f.D := by rw [Int.mul_comm f.D f.H, Int.mul_comm _ f.W, Int.mul_assoc f.W f.H f.D]
  omega
/-- the neighbour in a direction; -1, if there is none -/
def nbr (f : ApiFloor) (c d : Int) : Int :=
  if isC f c = false then -1 else
  if d = 0 then cellF f (pX f c + 1) (pY f c) (pZ f c) else if d = 1 then cellF f (pX f c) (pY f c + 1) (pZ f c) else
  if d = 2 then cellF f (pX f c - 1) (pY f c) (pZ f c) else if d = 3 then cellF f (pX f c) (pY f c - 1) (pZ f c) else
  if d = 4 then cellF f (pX f c) (pY f c) (pZ f c + 1) else if d = 5 then cellF f (pX f c) (pY f c) (pZ f c - 1) else -1
theorem nbr_ok {f : ApiFloor} (h : RF f) (c d : Int) : nbr f c d = -1 ∨ isC f (nbr f c d) = true := by
  unfold nbr
  repeat' split
  all_goals first | exact .inl rfl | exact cellF_ok h _ _ _
/-- where one gets in a direction -/
def nx (f : ApiFloor) (c d : Int) : Int × Bool :=
  if nbr f c d < 0 ∨ kd f c = 0 ∨ kd f (nbr f c d) = 0 ∨ band .i64 (shrI .i64 (ot f c) d) 1 = 0 then (0, false)
  else if 4 ≤ d ∧ (kd f c ≠ 6 ∨ kd f (nbr f c d) ≠ 6) then (0, false) else (nbr f c d, true)
theorem S_floor_At {f : ApiFloor} (h : RF f) {c : Int} (hc : isC f c = true) {post : (Int × Int × Int) → Prop} (hp : post (pX f c, pY f c, pZ f c)) : V_floor_At f c post := by
  unfold V_floor_At
  refine S_floor_is h ?_
  rw [hc]
  refine Ite.f rfl ?_
  rw [isC_iff] at hc
  have w := h.W1; have hh := h.H1; have hd := h.D1; have wh := h.wh; have hl := h.len.1
  have e1 : 0 ≤ c / f.W ∧ c / f.W ≤ c := ⟨Int.ediv_nonneg hc.1 (by omega), Int.ediv_le_self _ hc.1⟩
  have e2 : 0 ≤ c / (f.W * f.H) ∧ c / (f.W * f.H) ≤ c := ⟨Int.ediv_nonneg hc.1 (by omega), Int.ediv_le_self _ hc.1⟩
  rw [wh.1]
  refine ⟨by omega, by omega, by omega, by omega, ?_⟩
  rw [Int.tmod_eq_emod_of_nonneg hc.1, Int.tdiv_eq_ediv_of_nonneg hc.1, w64_eq (x := c / f.W) (by omega) (by omega), Int.tmod_eq_emod_of_nonneg e1.1, Int.tdiv_eq_ediv_of_nonneg hc.1, w64_eq (x := c / (f.W * f.H)) (by omega) (by omega), ← Int.ediv_ediv_of_nonneg (by omega : 0 ≤ f.W)]
  exact hp
theorem S_floor_Cell {f : ApiFloor} (h : RF f) {x y z : Int} {post : Int → Prop} (hp : post (cellF f x y z)) : V_floor_Cell f x y z post := by
  unfold V_floor_Cell
  refine Jor4 (Ite.mk (fun h1 => ?_) (fun h1 => ?_))
  · have : cellF f x y z = -1 := by
      unfold cellF
      rw [if_neg]
      simp only [Bool.or_eq_true, decide_eq_true_eq, imin_lt] at h1
      omega
    rw [← this]; exact hp
  · have : 0 ≤ x ∧ x < f.W ∧ 0 ≤ y ∧ y < f.H ∧ 0 ≤ z ∧ z < f.D := by
      simp only [Bool.or_eq_false_iff, decide_eq_false_iff_not, imin_lt] at h1
      omega
    rw [cellF_w h this]; exact hp
theorem S_floor_beside {f : ApiFloor} (h : RF f) {c d : Int} {post : Int → Prop} (hp : post (nbr f c d)) : V_floor_beside f c d post := by
  unfold V_floor_beside
  refine Jn.eq (!isC f c || decide (d < 0) || decide (d ≥ 6)) (S_floor_is h ?_) (Ite.mk (fun h1 => ?_) (fun h1 => ?_))
  · cases isC f c
    · exact Ite.f rfl rfl
    · exact Ite.t rfl (Ite.mk (fun h => by rw [h]; rfl) (fun h => by rw [h]; rfl))
  · have : nbr f c d = -1 := by
      unfold nbr
      simp only [Bool.or_eq_true, Bool.not_eq_true', decide_eq_true_eq] at h1
      split
      · rfl
      · rename_i h2
        have h3 : ¬ (0 ≤ d ∧ d < 6) := by
          rcases h1 with (h1 | h1) | h1
          · exact absurd h1 h2
          · omega
          · omega
        rw [if_neg (by omega), if_neg (by omega), if_neg (by omega), if_neg (by omega), if_neg (by omega), if_neg (by omega)]
    rw [← this]; exact hp
  · simp only [Bool.or_eq_false_iff, Bool.not_eq_false', decide_eq_false_iff_not] at h1
    obtain ⟨⟨hc, h2⟩, h3⟩ := h1
    refine S_floor_At h hc (post := _) ?_
    unfold V_floor_steps
    have hb := p_bd h hc
    have w := h.W4; have hh := h.H4; have hd := h.D4
    have hn : nbr f c d = (if d = 0 then cellF f (pX f c + 1) (pY f c) (pZ f c) else if d = 1 then cellF f (pX f c) (pY f c + 1) (pZ f c) else
        if d = 2 then cellF f (pX f c - 1) (pY f c) (pZ f c) else if d = 3 then cellF f (pX f c) (pY f c - 1) (pZ f c) else
        if d = 4 then cellF f (pX f c) (pY f c) (pZ f c + 1) else if d = 5 then cellF f (pX f c) (pY f c) (pZ f c - 1) else -1) := by
      unfold nbr; rw [if_neg (by simp [hc])]
    have hd6 : d = 0 ∨ d = 1 ∨ d = 2 ∨ d = 3 ∨ d = 4 ∨ d = 5 := by omega
    rcases hd6 with e | e | e | e | e | e <;> subst e <;> simp only [if_pos, Int.reduceEq, if_false] at hn <;> rw [hn] at hp <;>
      refine ⟨_, rfl, S_floor_Cell h ?_⟩ <;> (try simp only []) <;> rw [w64_eq (by omega) (by omega), w64_eq (by omega) (by omega), w64_eq (by omega) (by omega)] <;>
      first | exact hp | (simpa [Int.sub_eq_add_neg] using hp)
theorem S_floor_Next {f : ApiFloor} (h : RF f) {c d : Int} {post : Int × Bool → Prop} (hp : post (nx f c d)) : V_floor_Next f c d post := by
  unfold V_floor_Next
  refine S_floor_beside h ?_
  have hb := nbr_ok h c d
  have hc : 0 ≤ nbr f c d → isC f c = true ∧ 0 ≤ d ∧ d < 6 := fun a1 => by
    have hc : isC f c = true := by
      cases hc : isC f c
      · exact absurd (by rw [nbr, if_pos hc]; omega) (Int.not_lt.2 a1)
      · rfl
    refine ⟨hc, ?_⟩
    unfold nbr at a1
    rw [if_neg (by simp [hc])] at a1
    repeat' split at a1
    all_goals omega
  have hn : 0 ≤ nbr f c d → isC f (nbr f c d) = true := fun a1 => by rcases hb with e | e; (exact absurd a1 (by omega)); exact e
  refine Jn.eq (decide (nbr f c d < 0 ∨ kd f c = 0 ∨ kd f (nbr f c d) = 0 ∨ band .i64 (shrI .i64 (ot f c) d) 1 = 0)) (Ite.mk (fun h1 => ?_) (fun h1 => ?_)) (Ite.mk (fun h1 => ?_) (fun h1 => ?_))
  · simp only [decide_eq_true_eq] at h1; simp [h1]
  · simp only [decide_eq_false_iff_not, Int.not_lt] at h1
    obtain ⟨hc, hd⟩ := hc h1
    refine ⟨_, idx_kd hc, Ite.mk (fun h2 => ?_) (fun h2 => ⟨_, idx_kd (hn h1), Ite.mk (fun h3 => ?_) (fun h3 => ⟨_, idx_ot h hc, hd.1, ?_⟩)⟩)⟩
    · simp at h2; simp [h2]
    · simp at h3; simp [h3]
    · simp at h2 h3; simp only [h2, h3, Int.not_lt.2 h1, false_or]; rfl
  · simp only [decide_eq_true_eq] at h1
    have : nx f c d = (0, false) := by unfold nx; rw [if_pos h1]
    rw [← this]; exact hp
  · simp only [decide_eq_false_iff_not] at h1
    have h0 : 0 ≤ nbr f c d := by simp only [not_or] at h1; omega
    obtain ⟨hc, hd⟩ := hc h0
    have e : nx f c d = if 4 ≤ d ∧ (kd f c ≠ 6 ∨ kd f (nbr f c d) ≠ 6) then (0, false) else (nbr f c d, true) := by unfold nx; rw [if_neg h1]
    have lift : ∀ {J : Bool → Prop}, J (decide (kd f c ≠ 6 ∨ kd f (nbr f c d) ≠ 6)) → ∃ x15, idx f.Kind c = some x15 ∧ Ite (x15 != 6) (J true) (∃ x17, idx f.Kind (nbr f c d) = some x17 ∧ J (x17 != 6)) := fun {J} hJ => by
      refine ⟨_, idx_kd hc, Ite.mk (fun h2 => ?_) (fun h2 => ⟨_, idx_kd (hn h0), ?_⟩)⟩
      · simp at h2; simpa [h2] using hJ
      · simp at h2
        have e : (kd f (nbr f c d) != 6) = decide (kd f c ≠ 6 ∨ kd f (nbr f c d) ≠ 6) := by rw [h2]; by_cases h3 : kd f (nbr f c d) = 6 <;> simp [h3]
        rw [e]; exact hJ
    refine Jn.eq (decide (4 ≤ d ∧ (kd f c ≠ 6 ∨ kd f (nbr f c d) ≠ 6))) (Ite.mk (fun h2 => ?_) (fun h2 => Ite.mk (fun h3 => ?_) (fun h3 => ?_))) (Ite.mk (fun h2 => ?_) (fun h2 => ?_))
    · simp at h2; exact lift (J := fun x => x = decide (4 ≤ d ∧ (kd f c ≠ 6 ∨ kd f (nbr f c d) ≠ 6))) (by simp [h2])
    · simp at h3; exact lift (J := fun x => x = decide (4 ≤ d ∧ (kd f c ≠ 6 ∨ kd f (nbr f c d) ≠ 6))) (by simp [h3])
    · simp at h2 h3
      have : ¬ 4 ≤ d := by omega
      simp [this]
    · simp only [decide_eq_true_eq] at h2
      rw [e, if_pos h2] at hp; exact hp
    · simp only [decide_eq_false_iff_not] at h2
      rw [e, if_neg h2] at hp; exact hp
end Go.Taq
