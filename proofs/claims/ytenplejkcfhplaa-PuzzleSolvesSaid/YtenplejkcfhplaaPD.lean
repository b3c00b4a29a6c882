/- The mathematics of layouts, part D: from ranks to layouts, and shifts. -/
import Derived.Test.YtenplejkcfhplaaPC
set_option linter.unusedVariables false
set_option linter.unusedSimpArgs false
namespace Go.Taq
open Go
theorem w64_1 {i : Nat} (h : i ≤ 1000000) : w64 ((i : Int) + 1) = ((i + 1 : Nat) : Int) := by rw [w64_eq (by omega) (by omega)]; simp
theorem w64_p {i : Nat} (h : i ≤ 1000000) (h' : 1 ≤ i) : w64 ((i : Int) - 1) = ((i - 1 : Nat) : Int) := by rw [w64_eq (by omega) (by omega)]; omega
theorem set_row {xs ys : List Bool} {i m : Nat} {b : Bool} (hi : i < xs.length) (h1 : ys = xs.take i ++ List.replicate (m + 1) false) (hx : xs[i]? = some b) :
    ys.set i b = xs.take (i + 1) ++ List.replicate m false := by
  subst h1
  rw [List.take_add_one, hx, List.set_append_right _ _ (by simp; omega)]
  have : i - (xs.take i).length = 0 := by simp; omega
  rw [this, List.replicate_succ, List.set_cons_zero]; simp
theorem skip_row {xs ys : List Bool} {i m : Nat} (hi : i < xs.length) (h1 : ys = xs.take i ++ List.replicate (m + 1) false) (hx : xs[i]? = some false) :
    ys = xs.take (i + 1) ++ List.replicate m false := by
  subst h1
  rw [List.take_add_one, hx, List.replicate_succ]; simp
theorem idx_row {xs ys : List Bool} {i m : Nat} (hi : i < xs.length) (h1 : ys = xs.take i ++ List.replicate (m + 1) false) : idx ys (i : Int) = some false := by
  rw [idx_nat, h1, List.getElem?_append_right (by simp; omega)]
  have : i - (xs.take i).length = 0 := by simp; omega
  rw [this]; rfl
theorem drop_cons {xs : List Bool} {i : Nat} {b : Bool} {t : List Bool} (h : xs.drop i = b :: t) : xs[i]? = some b ∧ xs.drop (i + 1) = t := by
  have h1 := congrArg (fun l : List Bool => l[0]?) h
  have h2 := congrArg (fun l : List Bool => l.drop 1) h
  simp only [List.getElem?_drop, List.drop_drop] at h1 h2
  exact ⟨by simpa using h1, by simpa using h2⟩
section
variable {n k : Nat} (h1 : 1 ≤ k) (h2 : k ≤ n) (h3 : n ≤ 12)
include h1 h2 h3
theorem S_Unrank {i : Nat} (hi : i < n * ch (n - 1) (k - 1)) {post : ApiLayout × Bool → Prop} (hp : post (unrank n k i, true)) : V_layout_Unrank (n : Int) (k : Int) (i : Int) post := by
  unfold V_layout_Unrank
  have hcl := count_le (k := k) h3
  have hc0 : 0 < ch (n - 1) (k - 1) := ch_pos (by omega)
  refine Jn.mk (fun b => b = false) (Ite.f (by simp) (S_Count h1 h2 h3 (by simp only [decide_eq_false_iff_not]; omega))) (fun b e => Ite.f e (S_choose fun c hc => ?_))
  have w1 := w64_p (i := n) (by omega) (by omega)
  have w2 := w64_p (i := k) (by omega) (by omega)
  have w3 : w64 ((i : Int).tdiv (ch (n - 1) (k - 1) : Nat)) = ((i / ch (n - 1) (k - 1) : Nat) : Int) := by
    have : (i : Int).tdiv (ch (n - 1) (k - 1) : Nat) = ((i / ch (n - 1) (k - 1) : Nat) : Int) := rfl
    have h := Nat.div_le_self i (ch (n - 1) (k - 1))
    rw [this]
    generalize i / ch (n - 1) (k - 1) = q at h
    rw [w64_eq (by omega) (by omega)]
  have w4 : (i : Int).tmod (ch (n - 1) (k - 1) : Nat) = ((i % ch (n - 1) (k - 1) : Nat) : Int) := rfl
  simp only [w1, w2, ix25]
  refine ⟨⟨by omega, by omega⟩, ⟨by omega, by omega⟩, _, hc (n - 1) (k - 1) (by omega) (by omega), by omega, ⟨by omega, by omega⟩, ⟨by omega, by omega⟩, ⟨by omega, by omega⟩, by omega, ?_⟩
  simp only [w3, w4]
  have hT : i / ch (n - 1) (k - 1) < n := (Nat.div_lt_iff_lt_mul hc0).2 hi
  have hr := Nat.mod_lt i hc0
  have hun : unrank n k i = { Full := unF (i / ch (n - 1) (k - 1)) 0 n (k - 1) (i % ch (n - 1) (k - 1)), Target := ((i / ch (n - 1) (k - 1) : Nat) : Int) } := rfl
  rw [hun] at hp
  generalize i / ch (n - 1) (k - 1) = T at *
  generalize i % ch (n - 1) (k - 1) = r0 at *
  generalize hfull : unF T 0 n (k - 1) r0 = full at *
  have hfl : full.length = n := by rw [← hfull]; exact unF_len _ _ _ _ _
  refine Jn.mk (fun x => x = full) (Loop.inv n (fun j (s : Int × List Bool × Int × Int × Int) => s.2.2.2.2 = (j : Int) ∧ s.2.1 = full.take j ++ List.replicate (n - j) false ∧ s.2.2.1 = (oth T j (n - j) : Nat) ∧
    ∃ nd r : Nat, s.2.2.2.1 = (nd : Int) ∧ s.1 = (r : Int) ∧ full.drop j = unF T j (n - j) nd r ∧ r < ch (oth T j (n - j)) nd ∧ nd ≤ 12) ⟨rfl, by simp, by simp [oth], k - 1, r0, rfl, rfl, by simpa using hfull.symm, by simpa [oth] using hr, by omega⟩ (fun j s hj hI => ?_) (fun s hI => ?_)) (fun x e => by subst e; exact hp)
  · obtain ⟨rs, row, lf, nd', q⟩ := s
    obtain ⟨rfl, hrow, rfl, nd, r, rfl, rfl, hdr, hr, hnd⟩ := hI
    obtain ⟨m, hm⟩ : ∃ m, n - j = m + 1 := ⟨n - j - 1, by omega⟩
    have hm' : n - (j + 1) = m := by omega
    rw [hm] at hdr hr
    replace hrow : row = full.take j ++ List.replicate (m + 1) false := by rw [← hm]; exact hrow
    have hix := idx_row (by omega) hrow
    have hom : oth T (j + 1) m ≤ 12 := by unfold oth; split <;> omega
    refine Ite.lt (by show (j : Int) < n; omega) (Jn.mk (fun (s : Int × List Bool × Int × Int) => s.2.1 = full.take (j + 1) ++ List.replicate m false ∧ s.2.2.1 = (oth T (j + 1) m : Nat) ∧ ∃ nd r : Nat, s.2.2.2 = (nd : Int) ∧ s.1 = (r : Int) ∧ full.drop (j + 1) = unF T (j + 1) m nd r ∧ r < ch (oth T (j + 1) m) nd ∧ nd ≤ 12) ?_
      (fun s ⟨e1, e2, e3⟩ => ⟨by show w64 ((j : Int) + 1) = _; exact w64_1 (by omega), by rw [hm']; exact e1, by rw [hm']; exact e2, by rw [hm']; exact e3⟩))
    unfold unF at hdr
    refine Ite.mk (fun e => ?_) (fun e => ?_)
    · have e' : j = T := by have : (j : Int) = (T : Int) := beq_iff_eq.1 e; omega
      rw [if_pos e'] at hdr
      obtain ⟨hx, hd2⟩ := drop_cons hdr
      refine ⟨_, hix, ?_, ?_, nd, r, rfl, rfl, hd2, ?_, hnd⟩
      · show row.set (Int.toNat (j : Int)) true = _
        rw [Int.toNat_natCast]; exact set_row (by omega) hrow hx
      · have : oth T (j + 1) m = oth T j (n - j) := by unfold oth; rw [if_neg (by omega), if_pos (by omega)]; omega
        show ((oth T j (n - j) : Nat) : Int) = _
        rw [this]
      · have : oth T (j + 1) m = oth T j (m + 1) := by unfold oth; rw [if_neg (by omega), if_pos (by omega)]; omega
        rw [this]; exact hr
    · have e' : j ≠ T := by rintro rfl; simp at e
      rw [if_neg e'] at hdr
      have hoi : oth T j (n - j) = oth T (j + 1) m + 1 := by unfold oth; split <;> split <;> omega
      have w5 : w64 (((oth T j (n - j) : Nat) : Int) - 1) = (oth T (j + 1) m : Nat) := by rw [hoi, w64_p (by omega) (by omega)]; simp
      have hoi' : oth T j (m + 1) = oth T (j + 1) m + 1 := by rw [← hm]; exact hoi
      rw [hoi', ch_succ] at hr
      refine Ite.mk (fun hz => ?_) (fun hz => ?_)
      · have hz' : nd = 0 := by simp at hz; omega
        subst hz'
        rw [if_neg (by simp [chm])] at hdr
        obtain ⟨hx, hd2⟩ := drop_cons hdr
        refine ⟨skip_row (by omega) hrow hx, w5, 0, r, rfl, rfl, by simpa [chm] using hd2, by simpa [chm] using hr, by omega⟩
      · have hz' : 1 ≤ nd := by simp at hz; omega
        have w6 := w64_p (i := nd) (by omega) hz'
        have hcm : chm (oth T (j + 1) m) nd = ch (oth T (j + 1) m) (nd - 1) := by
          obtain ⟨q, rfl⟩ : ∃ q, nd = q + 1 := ⟨nd - 1, by omega⟩
          rfl
        rw [hcm] at hdr hr
        have hb1 := ch_small (n := oth T (j + 1) m) (k := nd) (by omega)
        have hb2 := ch_small (n := oth T (j + 1) m) (k := nd - 1) (by omega)
        simp only [w5, w6, ix25]
        refine ⟨⟨by omega, by omega⟩, ⟨by omega, by omega⟩, _, hc _ _ (by omega) (by omega), Jn.mk (fun (s : Int × List Bool × Int) => s.2.1 = full.take (j + 1) ++ List.replicate m false ∧ ∃ nd r : Nat, s.2.2 = (nd : Int) ∧ s.1 = (r : Int) ∧ full.drop (j + 1) = unF T (j + 1) m nd r ∧ r < ch (oth T (j + 1) m) nd ∧ nd ≤ 12) (Ite.mk (fun hl => ?_) (fun hl => ?_)) (fun s ⟨e1, e2⟩ => ⟨e1, by trivial, e2⟩)⟩
        · have hl' : r < ch (oth T (j + 1) m) (nd - 1) := by have := of_decide_eq_true hl; omega
          rw [if_pos hl'] at hdr
          obtain ⟨hx, hd2⟩ := drop_cons hdr
          exact ⟨_, hix, (by show row.set (Int.toNat (j : Int)) true = _; rw [Int.toNat_natCast]; exact set_row (by omega) hrow hx), nd - 1, r, rfl, rfl, hd2, hl', by omega⟩
        · have hl' : ¬ r < ch (oth T (j + 1) m) (nd - 1) := by have := of_decide_eq_false hl; omega
          rw [if_neg hl'] at hdr
          obtain ⟨hx, hd2⟩ := drop_cons hdr
          refine ⟨⟨by omega, by omega⟩, ⟨by omega, by omega⟩, skip_row (by omega) hrow hx, nd, r - ch (oth T (j + 1) m) (nd - 1), rfl, ?_, hd2, by omega, hnd⟩
          show w64 ((r : Int) - (ch (oth T (j + 1) m) (nd - 1) : Nat)) = _
          rw [w64_eq (by omega) (by omega)]; omega
  · obtain ⟨rs, row, lf, nd', q⟩ := s
    obtain ⟨rfl, hrow, _⟩ := hI
    refine Ite.nlt (by show ¬ (n : Int) < n; omega) ?_
    show row = full
    replace hrow : row = full.take n ++ List.replicate (n - n) false := hrow
    rw [hrow, List.take_of_length_le (by omega)]; simp
end

/-- what a shift makes -/
def doL (l : ApiLayout) (a b : Nat) : ApiLayout := { Full := (l.Full.set a false).set b true, Target := if l.Target = (a : Int) then (b : Int) else l.Target }
theorem set2_get {xs : List Bool} {a b j : Nat} : ((xs.set a false).set b true)[j]? = if b = j ∧ b < xs.length then some true else if a = j ∧ a < xs.length then some false else xs[j]? := by
  rw [List.getElem?_set, List.getElem?_set]
  simp only [List.length_set]
  by_cases e1 : b = j
  · subst e1
    by_cases e2 : b < xs.length
    · simp [e2]
    · simp only [e2, if_true, if_false, and_false, true_and]
      by_cases e3 : a = b ∧ a < xs.length
      · omega
      · rw [if_neg e3, List.getElem?_eq_none (by omega)]
  · simp only [e1, if_false, false_and]
    by_cases e2 : a = j
    · subst e2
      by_cases e3 : a < xs.length
      · simp [e3]
      · simp only [e3, if_true, if_false, and_false]; rw [List.getElem?_eq_none (by omega)]
    · simp [e2]
theorem count_set_true : ∀ {l : List Bool} {i : Nat}, l[i]? = some false → (l.set i true).count true = l.count true + 1
  | [], i, h => by simp at h
  | b :: l, 0, h => by simp at h; subst h; simp
  | b :: l, i + 1, h => by
    have ih := count_set_true (l := l) (i := i) (by simpa using h)
    simp only [List.set_cons_succ, List.count_cons]
    omega
theorem count_set_false : ∀ {l : List Bool} {i : Nat}, l[i]? = some true → (l.set i false).count true + 1 = l.count true
  | [], i, h => by simp at h
  | b :: l, 0, h => by simp at h; subst h; simp
  | b :: l, i + 1, h => by
    have ih := count_set_false (l := l) (i := i) (by simpa using h)
    simp only [List.set_cons_succ, List.count_cons]
    omega
theorem LOk.doL {n k : Nat} {l : ApiLayout} (h : LOk n k l) {a b : Nat} (ha : l.Full[a]? = some true) (hb : l.Full[b]? = some false) : LOk n k (doL l a b) := by
  have hab : a ≠ b := by rintro rfl; rw [ha] at hb; simp at hb
  have hal := (List.getElem?_eq_some_iff.1 ha).1
  have hbl := (List.getElem?_eq_some_iff.1 hb).1
  have h0 := h.t0
  refine ⟨by simp [Go.Taq.doL, h.len], ?_, ?_, ?_⟩
  · have e1 := count_set_false ha
    have e2 := count_set_true (l := l.Full.set a false) (i := b) (by rw [List.getElem?_set_ne hab]; exact hb)
    show List.count true ((l.Full.set a false).set b true) = k
    rw [e2, e1, h.cnt]
  · show 0 ≤ (if l.Target = (a : Int) then (b : Int) else l.Target)
    split <;> omega
  · show ((l.Full.set a false).set b true)[(if l.Target = (a : Int) then (b : Int) else l.Target).toNat]? = some true
    rw [set2_get]
    split
    · rw [Int.toNat_natCast, if_pos ⟨rfl, hbl⟩]
    · rename_i hne
      have hg := h.get
      by_cases e : b = l.Target.toNat
      · rw [← e, hb] at hg; simp at hg
      · rw [if_neg (fun h => e h.1), if_neg (by rintro ⟨h, _⟩; omega)]; exact hg
theorem doL_back {n k : Nat} {l : ApiLayout} (h : LOk n k l) {a b : Nat} (ha : l.Full[a]? = some true) (hb : l.Full[b]? = some false) : Go.Taq.doL (Go.Taq.doL l a b) b a = l := by
  have hab : a ≠ b := by rintro rfl; rw [ha] at hb; simp at hb
  have hal := (List.getElem?_eq_some_iff.1 ha).1
  have hbl := (List.getElem?_eq_some_iff.1 hb).1
  have h0 := h.t0
  have hg := h.get
  have hTb : l.Target ≠ (b : Int) := by
    intro e; rw [e, Int.toNat_natCast, hb] at hg; simp at hg
  have e1 : ((((l.Full.set a false).set b true).set b false).set a true) = l.Full := by
    apply List.ext_getElem?
    intro j
    rw [set2_get, set2_get]
    simp only [List.length_set]
    by_cases e1 : a = j
    · subst e1; rw [if_pos ⟨rfl, hal⟩, ha]
    · rw [if_neg (fun h => e1 h.1)]
      by_cases e2 : b = j
      · subst e2; rw [if_pos ⟨rfl, hbl⟩, hb]
      · rw [if_neg (fun h => e2 h.1), if_neg (fun h => e2 h.1), if_neg (fun h => e1 h.1)]
  have e2 : (if (if l.Target = (a : Int) then (b : Int) else l.Target) = (b : Int) then (a : Int) else (if l.Target = (a : Int) then (b : Int) else l.Target)) = l.Target := by
    by_cases h1 : l.Target = (a : Int)
    · rw [if_pos h1, if_pos rfl, h1]
    · rw [if_neg h1, if_neg hTb]
  unfold Go.Taq.doL
  simp only [e1, e2]
theorem S_Do {l : ApiLayout} {a b : Nat} (ha : l.Full[a]? = some true) (hb : l.Full[b]? = some false) (hl : l.Full.length ≤ 1000) {post : ApiLayout × Int → Prop} (hp : post (doL l a b, 0)) : V_layout_Do l { From := a, To := b } post := by
  unfold V_layout_Do
  have hal := (List.getElem?_eq_some_iff.1 ha).1
  have hbl := (List.getElem?_eq_some_iff.1 hb).1
  have hab : a ≠ b := by rintro rfl; rw [ha] at hb; simp at hb
  refine Jn.mk (fun b => b = false) (Ite.f (by simp) (Ite.f (by simp; omega) (Ite.f (by simp) (by simp; omega)))) (fun x e => Ite.f e (Jn.mk (fun b => b = false) ⟨true, idx_of rfl ha, Ite.t rfl ⟨false, idx_of rfl hb, rfl⟩⟩ (fun x e => Ite.f e ?_)))
  unfold V_slices_Clone_bool_bool
  have key : ∀ xs : List Bool, xs = l.Full → ∃ x26, idx xs (a : Int) = some x26 ∧ ∃ x27, idx (xs.set (Int.toNat (a : Int)) false) (b : Int) = some x27 ∧ Jn (fun (J31 : Int → Prop) => Ite (l.Target == (a : Int)) (J31 (b : Int)) (J31 l.Target)) (fun (x30 : Int) => post (({ Full := ((xs.set (Int.toNat (a : Int)) false).set (Int.toNat (b : Int)) true), Target := x30 : ApiLayout }), 0)) := by
    intro xs e
    subst e
    refine ⟨true, idx_of rfl ha, false, idx_of rfl (by simpa [List.getElem?_set_ne hab] using hb), Jn.mk' ?_⟩
    simp only [Int.toNat_natCast]
    refine Ite.mk (fun h => ?_) (fun h => ?_)
    · have := beq_iff_eq.1 h
      simpa [doL, this] using hp
    · have h' : l.Target ≠ (a : Int) := by intro e; simp [e] at h
      simpa [doL, h'] using hp
  intro hb5 hz
  refine Ite.mk (fun h => key [] (hz (by simpa using h)).symm) (fun h => ⟨by simp; omega, key _ (by simp)⟩)
end Go.Taq
