/- The mathematics, several parts in one text. -/
import Derived.Test.YtlaehjhkcanffaaAR
import Derived.Test.YtlaehjhkcanffaaDC
import Derived.Test.YtlaehjhkcanffaaOH
/- The mathematics, part AG: the examples of chapter 16; ArenaTells. -/
set_option linter.unusedVariables false
set_option linter.unusedSimpArgs false
namespace Go.Taq
open Go

end Go.Taq

/- The mathematics, part BC: region.Of, right homes, who is home, the bounds of the statements of chapter 21. -/
set_option linter.unusedVariables false
set_option linter.unusedSimpArgs false
namespace Go.Taq
open Go

theorem w64_p {x : Int} (h1 : -1000000 ≤ x) (h2 : x ≤ 1000000000) : w64 x = x := w64_eq (by omega) (by omega)
theorem w64_1 {n : Nat} (h : n ≤ 1000000000) : w64 ((n : Int) + 1) = ((n + 1 : Nat) : Int) := by rw [w64_eq (by omega) (by omega)]; simp
def cmI {α : Type} [DecidableEq α] (xs : List α) : Nat → List α
  | 0 => []
  | i + 1 => cmI xs i ++ (if i = 0 ∨ xs[i]? ≠ xs[i - 1]? then xs[i]?.toList else [])
section
variable {α : Type} [DecidableEq α] {xs : List α}
theorem cmI_len : ∀ i, (cmI xs i).length ≤ i
  | 0 => by simp [cmI]
  | i + 1 => by
    have := cmI_len i
    unfold cmI
    rw [List.length_append]
    split
    · cases xs[i]? <;> simp <;> omega
    · simp; omega
theorem cmI_mem : ∀ i, i ≤ xs.length → ∀ s, s ∈ cmI xs i ↔ s ∈ xs.take i
  | 0, _, s => by simp [cmI]
  | i + 1, h, s => by
    have ih := cmI_mem i (by omega) s
    have hx : xs[i]? = some (xs[i]'(by omega)) := List.getElem?_eq_getElem (by omega)
    unfold cmI
    rw [List.take_add_one, List.mem_append, List.mem_append, ih]
    by_cases c : i = 0 ∨ xs[i]? ≠ xs[i - 1]?
    · rw [if_pos c]
    · rw [if_neg c]
      have c1 : i ≠ 0 := fun e => c (.inl e)
      have c2 : xs[i]? = xs[i - 1]? := Classical.byContradiction fun e => c (.inr e)
      constructor
      · rintro (h | h)
        · exact .inl h
        · simp at h
      · rintro (h | h)
        · exact .inl h
        · refine .inl ?_
          rw [c2] at h
          have : (xs.take i)[i - 1]? = xs[i - 1]? := List.getElem?_take_of_lt (by omega)
          rw [← this] at h
          exact List.mem_of_getElem? (Option.mem_toList.1 h)
theorem cmI_lt {lt : α → α → Prop} (ht : ∀ x y z, (lt x y ∨ x = y) → lt y z → lt x z) (hs : xs.Pairwise (fun x y => lt x y ∨ x = y)) : ∀ i, i ≤ xs.length → (cmI xs i).Pairwise lt
  | 0, _ => by simp [cmI]
  | i + 1, h => by
    have ih := cmI_lt ht hs i (by omega)
    unfold cmI
    by_cases c : i = 0 ∨ xs[i]? ≠ xs[i - 1]?
    · rw [if_pos c, List.pairwise_append]
      have hx : xs[i]? = some (xs[i]'(by omega)) := List.getElem?_eq_getElem (by omega)
      rw [hx]
      refine ⟨ih, by simp, fun a ha b hb => ?_⟩
      simp at hb; subst hb
      rw [cmI_mem i (by omega)] at ha
      rcases c with c | c
      · subst c; simp at ha
      · obtain ⟨j, hj⟩ := List.getElem?_of_mem ha
        have hji : j < i := by have := (List.getElem?_eq_some_iff.1 hj).1; simp at this; omega
        rw [List.getElem?_take_of_lt hji] at hj
        have hg := List.pairwise_iff_getElem.1 hs
        obtain ⟨hjl, hje⟩ := List.getElem?_eq_some_iff.1 hj
        have hx1 : xs[i - 1]? = some (xs[i - 1]'(by omega)) := List.getElem?_eq_getElem (by omega)
        have h1 : lt (xs[i - 1]'(by omega)) (xs[i]'(by omega)) := by
          rcases hg (i - 1) i (by omega) (by omega) (by omega) with e | e
          · exact e
          · exact absurd (by rw [hx, hx1, e]) c
        subst hje
        by_cases e : j = i - 1
        · subst e; exact h1
        · exact ht _ _ _ (hg j (i - 1) (by omega) (by omega) (by omega)) h1
    · rw [if_neg c]; simpa using ih
theorem cmI_same {i : Nat} (h : 1 ≤ i) (e : xs[i]? = xs[i - 1]?) : cmI xs (i + 1) = cmI xs i := by
  rw [cmI, if_neg (by intro h; rcases h with h | h; omega; exact h e)]; simp
theorem cmI_new {i : Nat} {x : α} (h : xs[i]? = some x) (e : i = 0 ∨ xs[i]? ≠ xs[i - 1]?) : cmI xs (i + 1) = cmI xs i ++ [x] := by
  rw [cmI, if_pos e, h]; rfl
end
theorem S_CompactI {xs : List Int} (hl : xs.length ≤ 1000000) {post : List Int → Prop} (hp : post (cmI xs xs.length)) : V_slices_Compact_int_int__o0 xs post := by
  unfold V_slices_Compact_int_int__o0
  refine Ite.mk (fun h => ?_) (fun h => ?_)
  · have h' : (xs.length : Int) < 2 := of_decide_eq_true h
    have : cmI xs xs.length = xs := by
      match xs, h' with
      | [], _ => rfl
      | [x], _ => rfl
      | _ :: _ :: _, h' => simp at h'; omega
    rw [this] at hp; exact hp
  have h' : ¬ (xs.length : Int) < 2 := of_decide_eq_false h
  have all : cmI xs xs.length = xs → post xs := fun e => by rw [e] at hp; exact hp
  refine Jn.mk (fun _ => post xs) (Loop.inv (xs.length - 1) (fun i (s : Int) => s = ((i + 1 : Nat) : Int) ∧ cmI xs (i + 1) = xs.take (i + 1)) ⟨rfl, ?_⟩ (fun i s hi hI => ?_) (fun s hI => ?_)) (fun _ h => h)
  · have hx : xs[0]? = some (xs[0]'(by omega)) := List.getElem?_eq_getElem (by omega)
    rw [cmI_new hx (.inl rfl), List.take_add_one, hx]; rfl
  · obtain ⟨rfl, hI⟩ := hI
    have hx : xs[i + 1]? = some (xs[i + 1]'(by omega)) := List.getElem?_eq_getElem (by omega)
    have hx0 : xs[i]? = some (xs[i]'(by omega)) := List.getElem?_eq_getElem (by omega)
    generalize hxv : xs[i + 1]'(by omega) = x at hx
    generalize hyv : xs[i]'(by omega) = y at hx0
    have w1 : w64 (((i + 1 : Nat) : Int) - 1) = (i : Int) := by rw [w64_p (by omega) (by omega)]; simp
    refine Ite.lt (by omega) (Jn.mk (fun _ => cmI xs (i + 2) = xs.take (i + 2)) ⟨x, idx_of rfl hx, y, idx_of w1 hx0, Ite.mk (fun e => ?_) (fun e => ?_)⟩ (fun _ e => ⟨w64_1 (by omega), e⟩))
    · have e' : x = y := by simpa using e
      have hsame : cmI xs (i + 1 + 1) = cmI xs (i + 1) := cmI_same (by omega) (by simp only [Nat.add_sub_cancel]; rw [hx, hx0, e'])
      have hn2 : Int.toNat ((xs.length : Int) - ((i + 1 : Nat) : Int)) = xs.length - (i + 1) := by omega
      simp only [hn2, Int.toNat_natCast]
      refine ⟨⟨by omega, by omega, by omega⟩, Jn.mk (fun (t : List Int × Int) => ∃ kk : Nat, t.2 = (kk : Int) ∧ t.1.length = xs.length ∧ kk ≤ xs.length ∧ t.1.take kk = cmI xs xs.length)
        (Loop.inv (xs.length - (i + 1) - 1) (fun j (t : List Int × Int × Int) => t.2.2 = ((j + 1 : Nat) : Int) ∧ ∃ kk : Nat, t.2.1 = (kk : Int) ∧ t.1.length = xs.length ∧ kk ≤ i + 1 + j ∧ t.1.take kk = cmI xs (i + 1 + j + 1) ∧ ∀ q, i + 1 + j ≤ q → t.1[q]? = xs[q]?)
          ⟨rfl, i + 1, rfl, rfl, by omega, by rw [Nat.add_zero, hsame, hI], fun q _ => rfl⟩ (fun j t hj hJ => ?_) (fun t hJ => ?_)) (fun t hJ => ?_)⟩
      · obtain ⟨ys, kk', q⟩ := t
        obtain ⟨rfl, kk, rfl, hyl, hkk, htk, hsm⟩ := hJ
        replace hyl : ys.length = xs.length := hyl
        replace htk : ys.take kk = cmI xs (i + 1 + j + 1) := htk
        replace hsm : ∀ q, i + 1 + j ≤ q → ys[q]? = xs[q]? := hsm
        have wj : w64 (((j + 1 : Nat) : Int) - 1) = (j : Int) := by rw [w64_p (by omega) (by omega)]; simp
        have wj1 : w64 (((j + 1 : Nat) : Int) + 1) = ((j + 1 + 1 : Nat) : Int) := w64_1 (by omega)
        have wk1 : w64 ((kk : Int) + 1) = ((kk + 1 : Nat) : Int) := w64_1 (by omega)
        have ha : xs[i + 1 + j + 1]? = some (xs[i + 1 + j + 1]'(by omega)) := List.getElem?_eq_getElem (by omega)
        have hb : xs[i + 1 + j]? = some (xs[i + 1 + j]'(by omega)) := List.getElem?_eq_getElem (by omega)
        generalize xs[i + 1 + j + 1]'(by omega) = a at ha
        generalize xs[i + 1 + j]'(by omega) = b at hb
        refine Ite.lt (by show ((j + 1 : Nat) : Int) < _; omega) ?_
        simp only [wj, wj1, wk1, Int.toNat_natCast]
        refine ⟨⟨by omega, by omega⟩, a, by rw [show i + 1 + (j + 1) = i + 1 + j + 1 by omega, hsm _ (by omega)]; exact ha, ⟨by omega, by omega⟩, b, by rw [hsm _ (by omega)]; exact hb, ?_⟩
        refine Jn.mk (fun (t : List Int × Int) => ∃ kk : Nat, t.2 = (kk : Int) ∧ t.1.length = xs.length ∧ kk ≤ i + 1 + (j + 1) ∧ t.1.take kk = cmI xs (i + 1 + (j + 1) + 1) ∧ ∀ q, i + 1 + (j + 1) ≤ q → t.1[q]? = xs[q]?) (Ite.mk (fun e => ?_) (fun e => ?_)) (fun t h => ⟨by trivial, h⟩)
        · have hab : ¬ a = b := by simpa using e
          have hkl : kk < ys.length := by omega
          refine ⟨⟨by omega, by omega⟩, _, idx_of rfl (List.getElem?_eq_getElem hkl), kk + 1, rfl, by simpa using hyl, by omega, ?_, fun q hq => ?_⟩
          · show (ys.set kk a).take (kk + 1) = _
            rw [List.take_add_one, List.take_set_of_le (Nat.le_refl _), htk, List.getElem?_set, if_pos rfl, if_pos hkl]
            have := cmI_new ha (.inr (by simp only [Nat.add_sub_cancel]; rw [ha, hb]; simpa using hab))
            rw [show i + 1 + (j + 1) + 1 = i + 1 + j + 1 + 1 by omega, this]; rfl
          · show (ys.set kk a)[q]? = _
            rw [List.getElem?_set_ne (by omega)]; exact hsm q (by omega)
        · have hab : a = b := by simpa using e
          have := cmI_same (xs := xs) (i := i + 1 + j + 1) (by omega) (by simp only [Nat.add_sub_cancel]; rw [ha, hb, hab])
          exact ⟨kk, rfl, hyl, by omega, by rw [show i + 1 + (j + 1) + 1 = i + 1 + j + 1 + 1 by omega, this]; exact htk, fun q hq => hsm q (by omega)⟩
      · obtain ⟨ys, kk', q⟩ := t
        obtain ⟨rfl, kk, rfl, hyl, hkk, htk, hsm⟩ := hJ
        refine Ite.nlt (by show ¬ ((xs.length - (i + 1) - 1 + 1 : Nat) : Int) < _; omega) ⟨kk, rfl, hyl, by omega, ?_⟩
        rw [show i + 1 + (xs.length - (i + 1) - 1) + 1 = xs.length by omega] at htk
        exact htk
      · obtain ⟨ys, kk'⟩ := t
        obtain ⟨kk, rfl, hyl, hkk, htk⟩ := hJ
        replace hyl : ys.length = xs.length := hyl
        replace htk : ys.take kk = cmI xs xs.length := htk
        have hn3 : Int.toNat ((ys.length : Int) - (kk : Int)) = ys.length - kk := by omega
        simp only [hn3, Int.toNat_natCast]
        refine ⟨⟨by omega, by omega, by omega⟩, by omega, ⟨by omega, by omega, ?_⟩, ?_⟩
        · simp only [List.length_append, List.length_take, List.length_replicate, List.length_drop]; omega
        · have : sub (ys.take kk ++ (List.replicate (ys.length - kk) 0 ++ ys.drop (kk + (ys.length - kk)))) 0 (kk : Int) = ys.take kk := by
            simp only [sub, Int.toNat_natCast, Int.toNat_zero, List.drop_zero, Nat.sub_zero]
            rw [List.take_append_of_le_length (by simp; omega)]
            rw [List.take_of_length_le (by simp; omega)]
          rw [this, htk]; exact hp
    · have e' : ¬ x = y := by simpa using e
      show cmI xs (i + 1 + 1) = xs.take (i + 1 + 1)
      rw [cmI_new hx (.inr (by simp only [Nat.add_sub_cancel]; rw [hx, hx0]; simpa using e')), List.take_add_one, hx, hI]; rfl
  · obtain ⟨rfl, hI⟩ := hI
    refine Ite.nlt (by omega) ?_
    rw [show xs.length - 1 + 1 = xs.length by omega, List.take_length] at hI
    exact all hI
end Go.Taq

/- The mathematics, part DD: the first of the greatest matchings, and the turns, of both (chapter 34). -/
set_option linter.unusedVariables false
set_option linter.unusedSimpArgs false
namespace Go.Taq
open Go

/-- the least charger of a list with which the greatest size is still possible -/
def BestC (l : List (List Int)) (w : Nat) (p : List Int) (row : List Int) (c : Int) : Prop :=
  (c = -1 ∧ ∀ d, d ∈ row → d ∉ p → ¬ Most l (p ++ [d]) w) ∨ (c ∈ row ∧ c ∉ p ∧ Most l (p ++ [c]) w ∧ ∀ d, d ∈ row → d ∉ p → Most l (p ++ [d]) w → c ≤ d)
theorem BestC.uniq {l : List (List Int)} {w : Nat} {p row : List Int} {c d : Int} (h : BestC l w p row c) (h' : BestC l w p row d) : c = d := by
  rcases h with ⟨e, h1⟩ | ⟨h1, h2, h3, h4⟩ <;> rcases h' with ⟨e', h1'⟩ | ⟨h1', h2', h3', h4'⟩
  · rw [e, e']
  · exact absurd h3' (h1 d h1' h2')
  · exact absurd h3 (h1' c h1 h2)
  · have := h4 d h1' h2' h3'; have := h4' c h1 h2 h3; omega
structure MR (l : List (List Int)) (w : Nat) (m : List Int) : Prop where
  most : Most l [] w
  len : m.length = l.length
  best : ∀ (i : Nat) c, m[i]? = some c → BestC l w (m.take i) (rowL l i) c
theorem MR.uniq {l : List (List Int)} {w w' : Nat} {m m' : List Int} (h : MR l w m) (h' : MR l w' m') : m = m' := by
  have ew := h.most.uniq h'.most
  subst ew
  have key : ∀ i, i ≤ l.length → m.take i = m'.take i := fun i => by
    induction i with
    | zero => intro _; simp
    | succ i ih =>
      intro hi
      have ih := ih (by omega)
      have h1 := List.getElem?_eq_getElem (show i < m.length by rw [h.len]; omega)
      have h2 := List.getElem?_eq_getElem (show i < m'.length by rw [h'.len]; omega)
      have b1 := h.best i _ h1
      have b2 := h'.best i _ h2
      rw [ih] at b1
      rw [take_succ h1, take_succ h2, ih, b1.uniq b2]
  have := key l.length (Nat.le_refl _)
  rwa [← h.len, List.take_length, h.len, ← h'.len, List.take_length] at this
/-- what has been chosen so far can be gone on with -/
structure Pre (l : List (List Int)) (w : Nat) (i : Nat) (p : List Int) : Prop where
  len : p.length = i
  beg : Beg l p
  ext : Most l p w
  best : ∀ (j : Nat) c, p[j]? = some c → BestC l w (p.take j) (rowL l j) c
theorem mem_take_succ' {α : Type} {l : List α} {i : Nat} {x y : α} (h : l[i]? = some x) : y ∈ l.take (i + 1) ↔ y ∈ l.take i ∨ y = x := by
  rw [take_succ h, List.mem_append, List.mem_singleton]
section
variable {l : List (List Int)} {w : Nat}
theorem Beg.snoc {p : List Int} {c : Int} (hp : Beg l p) (hl : p.length < l.length) (hc : c = -1 ∨ (0 ≤ c ∧ c ∈ rowL l p.length ∧ c ∉ p)) : Beg l (p ++ [c]) where
  len := by simp; omega
  ok := fun i d hd => by
    by_cases hi : i < p.length
    · rw [List.getElem?_append_left hi] at hd
      rcases hp.ok i d hd with e | ⟨h1, h2, h3⟩
      · exact .inl e
      · exact .inr ⟨h1, h2, fun j hj => by rw [List.getElem?_append_left (by omega)]; exact h3 j hj⟩
    · have hlt := (List.getElem?_eq_some_iff.1 hd).1
      simp at hlt
      have ei : i = p.length := by omega
      subst ei
      rw [List.getElem?_append_right (Nat.le_refl _)] at hd
      simp at hd; subst hd
      rcases hc with e | ⟨h1, h2, h3⟩
      · exact .inl e
      · exact .inr ⟨h1, h2, fun j hj he => by
          rw [List.getElem?_append_left hj] at he
          exact h3 (List.mem_of_getElem? he)⟩
theorem Pre.snoc {i : Nat} {p : List Int} {c : Int} (hl : FewL l) (h : Pre l w i p) (hi : i < l.length) (hb : BestC l w p (rowL l i) c) : Pre l w (i + 1) (p ++ [c]) := by
  have hpl := h.len
  have hbeg : Beg l (p ++ [c]) := h.beg.snoc (by omega) (by
    rcases hb with ⟨e, _⟩ | ⟨h1, h2, _⟩
    · exact .inl e
    · exact .inr ⟨(hl.bd h1).1, by rw [hpl]; exact h1, h2⟩)
  have htk : ∀ {m : List Int} {c : Int}, m.take p.length = p → m[p.length]? = some c → m.take (p ++ [c]).length = p ++ [c] := fun {m c} h1 h2 => by
    rw [List.length_append, List.length_singleton, take_succ h2, h1]
  have hmost : Most l (p ++ [c]) w := by
    rcases hb with ⟨e, h1⟩ | ⟨_, _, h3, _⟩
    · obtain ⟨m, m1, m2, m3⟩ := h.ext.is
      have hlt : p.length < m.length := by rw [m1.len]; omega
      have hx := List.getElem?_eq_getElem hlt
      have hle : ∀ d, ∀ m', Mat l m' → m'.take (p ++ [d]).length = p ++ [d] → szM m' ≤ w := fun d m' hm' hd => h.ext.le m' hm' (by
        have := congrArg (List.take p.length) hd
        rw [List.take_take, List.length_append, List.length_singleton, Nat.min_eq_left (by omega), List.take_left] at this
        exact this)
      have hm1 : m[p.length]'hlt = -1 := by
        rcases m1.ok p.length _ hx with e | ⟨e1, e2, e3⟩
        · exact e
        · exfalso
          refine h1 _ (by rw [← hpl]; exact e2) (fun hin => ?_) ⟨⟨m, m1, htk m2 hx, m3⟩, hle _⟩
          obtain ⟨j, hj⟩ := List.mem_iff_getElem?.1 hin
          have hjl := (List.getElem?_eq_some_iff.1 hj).1
          have ej : p[j]? = m[j]? := by
            conv => lhs; rw [← m2]
            exact List.getElem?_take_of_lt hjl
          exact e3 j hjl (ej ▸ hj)
      rw [hm1] at hx
      rw [e]
      exact ⟨⟨m, m1, htk m2 hx, m3⟩, hle _⟩
    · exact h3
  refine ⟨by simp; omega, hbeg, hmost, fun j d hd => ?_⟩
  by_cases hj : j < p.length
  · rw [List.getElem?_append_left hj] at hd
    rw [List.take_append_of_le_length (by omega)]
    exact h.best j d hd
  · have hlt := (List.getElem?_eq_some_iff.1 hd).1
    simp at hlt
    have ej : j = p.length := by omega
    subst ej
    rw [List.getElem?_append_right (Nat.le_refl _)] at hd
    simp at hd; subst hd
    rw [List.take_left, hpl]; exact hb
theorem Pre.start (h : Most l [] w) : Pre l w 0 [] := ⟨rfl, ⟨Nat.zero_le _, fun i c h => by simp at h⟩, h, fun j c h => by simp at h⟩
theorem Pre.done {m : List Int} (h : Pre l w l.length m) (h0 : Most l [] w) : MR l w m := ⟨h0, h.len, h.best⟩
theorem Pre.mat {m : List Int} (h : Pre l w l.length m) : Mat l m ∧ szM m = w := by
  have hm : Mat l m := ⟨h.len, h.beg.ok⟩
  refine ⟨hm, ?_⟩
  obtain ⟨m', m1, m2, m3⟩ := h.ext.is
  have e : m' = m := by rw [← m2, h.len, ← m1.len, List.take_length]
  rw [← e]; exact m3
theorem beg_nil : Beg l [] := ⟨Nat.zero_le _, fun i c h => by simp at h⟩
/-- the size with one more -/
theorem most_beq {p : List Int} {d : Int} {v : Nat} (hv : Most l (p ++ [d]) v) : ((v : Int) == (w : Int)) = true ↔ Most l (p ++ [d]) w := by
  rw [beq_iff_eq]
  constructor
  · intro e
    have : v = w := by omega
    rw [← this]; exact hv
  · intro h; rw [hv.uniq h]
theorem Pre.try {i : Nat} {p : List Int} {d : Int} (hl : FewL l) (h : Pre l w i p) (hi : i < l.length) (hd : d ∈ rowL l i) (hn : d ∉ p) : Beg l (p ++ [d]) :=
  h.beg.snoc (by rw [h.len]; exact hi) (.inr ⟨(hl.bd hd).1, by rw [h.len]; exact hd, hn⟩)
theorem S_sorted_set {xs : List Int} (hl : xs.length ≤ 1000) {K : List Int → Prop} (hK : ∀ m : List Int, m.length ≤ xs.length → m.Pairwise (· < ·) → (∀ a, a ∈ m ↔ a ∈ xs) → K m) :
    V_slices_Values_int_int xs (fun y => V_slices_Sorted_int__slices_Values_int_int_1 y (fun z => V_slices_Compact_int_int__o0 z K)) := by
  unfold V_slices_Values_int_int V_slices_Sorted_int__slices_Values_int_int_1 V_slices_Collect_int__slices_Values_int_int_1 V_slices_AppendSeq_int_int__o0_slices_Values_int_int_1
  refine ⟨by omega, ?_⟩
  refine Each.inv xs (fun i t => t = xs.take i) rfl (fun i x t hx ht Y hY => ?_) (fun t ht => ?_)
  · have := (List.getElem?_eq_some_iff.1 hx).1
    refine ⟨by rw [ht]; simp; omega, hY _ ?_⟩
    rw [ht, take_succ hx]
  rw [List.take_length] at ht; subst ht
  unfold V_slices_Sort_int_int__o0
  refine ⟨by omega, ?_⟩
  have hperm := List.mergeSort_perm t (fun x y => decide (x ≤ y))
  have hsort : (t.mergeSort fun x y => decide (x ≤ y)).Pairwise (fun x y => x < y ∨ x = y) := by
    have := List.pairwise_mergeSort (le := fun x y : Int => decide (x ≤ y)) (fun a b c h1 h2 => by simp at *; omega) (fun a b => by simp; omega) t
    exact this.imp (fun h => by simp at h; omega)
  have hlen := hperm.length_eq
  generalize t.mergeSort (fun x y => decide (x ≤ y)) = m at *
  refine S_CompactI (by omega) (hK _ (by have := cmI_len (xs := m) m.length; omega) (cmI_lt (lt := (· < ·)) (fun x y z h1 h2 => by omega) hsort m.length (Nat.le_refl _)) (fun a => ?_))
  rw [cmI_mem m.length (Nat.le_refl _), List.take_length, hperm.mem_iff]
theorem S_dock_Match (hl : FewL l) {post : List Int → Prop} (hp : ∀ w m, MR l w m → Mat l m → szM m = w → (∀ m', Mat l m' → szM m' = w → Tight l m') → post m) : V_dock_Match l post := by
  have hln := hl.len
  unfold V_dock_Match
  refine S_dock_most hl beg_nil (fun w hw hw24 => ?_)
  have h0 := hw.most beg_nil
  refine Jn.mk (fun m => Pre l w l.length m) (V_loopj (xs := l) (by unfold maxLen; omega) (fun t : List Int × Int => t.2) (fun i t => Pre l w i t.1) rfl (Pre.start h0) (fun i row t hrow ht hI => ?_) (fun t hI => hI)) (fun m hm => hp w m (hm.done h0) hm.mat.1 hm.mat.2 (fun m' h1 h2 => hw.tight h1 h2))
  have hi := (List.getElem?_eq_some_iff.1 hrow).1
  have er : rowL l (i : Int) = row := by unfold rowL; rw [Int.toNat_natCast, List.getD_eq_getElem?_getD, hrow]; rfl
  have hrl := hl.rlen (i : Int)
  rw [er] at hrl
  have hpl := hI.len
  refine Jn.mk' ⟨row, by rw [ht]; exact idx_of rfl hrow, S_sorted_set (by omega) (fun s hs1 hs2 hs3 => ?_)⟩
  refine Jn.mk (fun c => BestC l w t.1 row c) (Loop.mk (fun k : Int => ∃ j : Nat, k = (j : Int) ∧ j ≤ s.length ∧ ∀ d, d ∈ s.take j → d ∉ t.1 → ¬ Most l (t.1 ++ [d]) w) (fun k => s.length - k.toNat) ⟨0, rfl, by omega, fun d hd => by simp at hd⟩ ?_) (fun c hc => ⟨by simp; omega, by rw [ht], ?_⟩)
  · rintro k ⟨j, e, hj, hn⟩
    subst e
    refine Ite.mk (fun h => ?_) (fun h => ?_)
    · have hlt : j < s.length := by have h' : (j : Int) < s.length := of_decide_eq_true h; omega
      have hd := List.getElem?_eq_getElem hlt
      generalize s[j] = d at hd
      have hdr : d ∈ row := (hs3 d).1 (List.mem_of_getElem? hd)
      have ew : w64 ((j : Int) + 1) = ((j + 1 : Nat) : Int) := by rw [w64_eq (by omega) (by omega)]; simp
      refine ⟨d, idx_of rfl hd, Jn.mk (fun b => b = true ↔ (d ∉ t.1 ∧ Most l (t.1 ++ [d]) w)) (S_slices_Contains (by unfold maxLen; omega) (Ite.mk (fun hc => ?_) (fun hc => S_clone_i (by omega) ⟨by simp; omega, ?_⟩))) (fun b hb => Ite.mk (fun h2 => ?_) (fun h2 => ?_))⟩
      · have : d ∈ t.1 := List.contains_iff_mem.1 hc
        exact ⟨fun h => (by cases h), fun h => absurd this h.1⟩
      · have hdn : d ∉ t.1 := fun h => by rw [List.contains_iff_mem.2 h] at hc; cases hc
        have hbg := hI.try hl hi (by rw [er]; exact hdr) hdn
        refine S_dock_most hl hbg (fun v hv _ => ?_)
        have := most_beq (w := w) (hv.most hbg)
        exact ⟨fun h => ⟨hdn, this.1 h⟩, fun h => this.2 h.2⟩
      · obtain ⟨g1, g2⟩ := hb.1 h2
        refine .inr ⟨hdr, g1, g2, fun d' hd' hn' hm' => ?_⟩
        obtain ⟨j', hj'⟩ := List.mem_iff_getElem?.1 ((hs3 d').2 hd')
        rcases Nat.lt_or_ge j' j with hlt' | hge
        · exact absurd hm' (hn d' (List.mem_of_getElem? (by rw [List.getElem?_take_of_lt hlt']; exact hj')) hn')
        · by_cases e : j' = j
          · subst e; rw [hd] at hj'; cases hj'; exact Int.le_refl _
          · have h1 := (List.getElem?_eq_some_iff.1 hd)
            have h3 := (List.getElem?_eq_some_iff.1 hj')
            obtain ⟨a1, b1⟩ := h1
            obtain ⟨a2, b2⟩ := h3
            have := List.pairwise_iff_getElem.1 hs2 j j' a1 a2 (by omega)
            rw [b1, b2] at this; omega
      · refine ⟨⟨j + 1, ew, by omega, fun d' hd' hn' hm' => ?_⟩, by show s.length - (w64 ((j : Int) + 1)).toNat < s.length - ((j : Int)).toNat; rw [ew]; omega⟩
        rw [take_succ hd] at hd'
        rcases List.mem_append.1 hd' with h3 | h3
        · exact hn d' h3 hn' hm'
        · simp at h3; subst h3
          rw [hb.2 ⟨hn', hm'⟩] at h2; cases h2
    · have hje : j = s.length := by have h' : ¬ (j : Int) < s.length := of_decide_eq_false h; omega
      rw [hje, List.take_length] at hn
      exact .inl ⟨rfl, fun d hd => hn d ((hs3 d).2 hd)⟩
  · exact hI.snoc hl hi (by rw [er]; exact hc)
end
end Go.Taq

/- The mathematics, part DE: turns; matchings as the statements tell them; the examples (chapter 34). -/
set_option linter.unusedVariables false
set_option linter.unusedSimpArgs false
namespace Go.Taq
open Go

/-- the lists without those of the robots that have a charger -/
def offL (l : List (List Int)) (m : List Int) : List (List Int) := (List.range l.length).map fun i => if 0 ≤ m.getD i (-1) then [] else l.getD i []
def neL (l : List (List Int)) : Nat := l.countP fun r => decide (r ≠ [])
/-- the turns -/
inductive TR : List (List Int) → List (List Int) → Prop where
  | stop {l : List (List Int)} {m : List Int} (h : MR l 0 m) : TR l []
  | turn {l : List (List Int)} {w : Nat} {m : List Int} {out : List (List Int)} (h : MR l w m) (hm : Mat l m) (hs : szM m = w) (hw : 0 < w) (ht : TR (offL l m) out) : TR l (m :: out)
section
variable {l : List (List Int)} {m : List Int} {w : Nat}
theorem offL_len : (offL l m).length = l.length := by simp [offL]
theorem offL_get {i : Nat} (h : i < l.length) : (offL l m)[i]? = some (if 0 ≤ m.getD i (-1) then [] else l.getD i []) := by
  unfold offL
  rw [List.getElem?_map, List.getElem?_range h]; rfl
theorem offL_few (hl : FewL l) : FewL (offL l m) := by
  have hmem : ∀ r, r ∈ offL l m → r = [] ∨ r ∈ l := fun r hr => by
    unfold offL at hr
    obtain ⟨i, hi, e⟩ := List.mem_map.1 hr
    rw [List.mem_range] at hi
    split at e
    · exact .inl e.symm
    · right
      rw [← e, List.getD_eq_getElem?_getD, List.getElem?_eq_getElem hi]
      exact List.getElem_mem hi
  refine ⟨by rw [offL_len]; exact hl.len, fun r hr => ?_, fun r hr c hc => ?_⟩
  · rcases hmem r hr with e | h
    · rw [e]; simp
    · exact hl.row r h
  · rcases hmem r hr with e | h
    · rw [e] at hc; cases hc
    · exact hl.num r h c hc
theorem take_nil_eq {m : List Int} : m.take ([] : List Int).length = [] := by simp
theorem TR.uniq {a b : List (List Int)} (h : TR l a) : TR l b → a = b := by
  induction h generalizing b with
  | stop h =>
    intro h'
    cases h' with
    | stop _ => rfl
    | turn h2 _ _ hw _ => have := h.most.uniq h2.most; omega
  | turn h hm hs hw ht ih =>
    intro h'
    cases h' with
    | stop h2 => have := h.most.uniq h2.most; omega
    | turn h2 _ _ hw2 ht2 =>
      have e := h.uniq h2
      subst e
      rw [ih ht2]
theorem sz_pos (hs : 0 < szM m) : ∃ (i : Nat) (c : Int), m[i]? = some c ∧ 0 ≤ c := by
  rw [← hasM_len] at hs
  obtain ⟨r, hr⟩ := List.exists_mem_of_length_pos hs
  obtain ⟨j, c, _, h1, h2⟩ := hasM_mem.1 hr
  exact ⟨j, c, h1, h2⟩
theorem neL_lt (hl : FewL l) (hm : Mat l m) (hs : 0 < szM m) : neL (offL l m) < neL l := by
  obtain ⟨i, c, hc, h0⟩ := sz_pos hs
  have hi : i < l.length := by rw [← hm.len]; exact (List.getElem?_eq_some_iff.1 hc).1
  have hrow : c ∈ rowL l i := by
    rcases hm.ok i c hc with e | e
    · omega
    · exact e.2.1
  unfold neL offL
  rw [List.countP_map]
  have e2 : l = (List.range l.length).map fun j => l.getD j [] := by
    refine List.ext_getElem? fun j => ?_
    by_cases hj : j < l.length
    · rw [List.getElem?_map, List.getElem?_range hj, List.getElem?_eq_getElem hj]
      simp [List.getD_eq_getElem?_getD, List.getElem?_eq_getElem hj]
    · rw [List.getElem?_eq_none (by omega), List.getElem?_eq_none (by simp; omega)]
  conv => rhs; rw [e2, List.countP_map]
  have key : ∀ xs : List Nat, i ∈ xs → xs.countP ((fun r => decide (r ≠ [])) ∘ fun i => if 0 ≤ m.getD i (-1) then [] else l.getD i []) < xs.countP ((fun r => decide (r ≠ [])) ∘ fun j => l.getD j []) := fun xs hx => by
    induction xs with
    | nil => cases hx
    | cons b xs ih =>
      have hm1 : ∀ b, ((fun r => decide (r ≠ [])) ∘ fun i => if 0 ≤ m.getD i (-1) then ([] : List Int) else l.getD i []) b = true → ((fun r => decide (r ≠ [])) ∘ fun j => l.getD j []) b = true := fun b hb => by
        simp only [Function.comp, decide_eq_true_eq] at hb ⊢
        split at hb
        · exact absurd rfl hb
        · exact hb
      have hm2 := List.countP_mono_left (l := xs) (fun b _ hb => hm1 b hb)
      rw [List.countP_cons, List.countP_cons]
      by_cases e : b = i
      · subst e
        have h1 : ((fun r => decide (r ≠ [])) ∘ fun i => if 0 ≤ m.getD i (-1) then ([] : List Int) else l.getD i []) b = false := by
          exact decide_eq_false (fun h => h (if_pos (by rw [List.getD_eq_getElem?_getD, hc]; exact h0)))
        have h2 : ((fun r => decide (r ≠ [])) ∘ fun j => l.getD j []) b = true := by
          simp only [Function.comp, decide_eq_true_eq]
          intro e
          unfold rowL at hrow
          rw [Int.toNat_natCast, e] at hrow; cases hrow
        rw [h1, h2]
        simp only [Bool.false_eq_true, if_false, if_true]
        omega
      · have := ih ((List.mem_cons.1 hx).resolve_left fun e' => e e'.symm)
        have : (if ((fun r => decide (r ≠ [])) ∘ fun i => if 0 ≤ m.getD i (-1) then ([] : List Int) else l.getD i []) b = true then 1 else 0) ≤ (if ((fun r => decide (r ≠ [])) ∘ fun j => l.getD j []) b = true then 1 else 0) := by
          split
          · rename_i h; rw [if_pos (hm1 b h)]; omega
          · omega
        omega
  exact key _ (List.mem_range.2 hi)
theorem neL_le : neL l ≤ l.length := List.countP_le_length
theorem any_sz : (m.any fun c => decide (c ≥ 0)) = decide (0 < szM m) := by
  unfold szM
  rw [Bool.eq_iff_iff, List.any_eq_true, decide_eq_true_eq, List.countP_pos_iff]
theorem S_turns_any (hm : m.length ≤ 1000) {post : Bool → Prop} (hp : post (decide (0 < szM m))) : V_slices_ContainsFunc_int_int__dock_Turns_1 m post := by
  unfold V_slices_ContainsFunc_int_int__dock_Turns_1 V_slices_IndexFunc_int_int__dock_Turns_1
  refine V_fidxc (by unfold maxLen; omega) (fun c : Int => decide (c ≥ 0)) (T := fun x q => V_dock_Turns_1 x q) (fun x _ q hq => by unfold V_dock_Turns_1; exact hq) ?_
  rw [fidx_any, any_sz]; exact hp
theorem loop_off (hl : l.length ≤ 1000) (hm : m.length = l.length) {K : List (List Int) → Prop} (hK : K (offL l m)) :
    Jn (fun (J : (List (List Int)) → Prop) => Loop (fun (s : List (List Int) × Int) Y => Ite (decide (s.2 < (m.length : Int))) (∃ x, idx m s.2 = some x ∧ Jn (fun (J2 : (List (List Int)) → Prop) => Ite (decide (x ≥ 0)) (∃ y, idx s.1 s.2 = some y ∧ J2 (s.1.set (Int.toNat s.2) [])) (J2 s.1)) (fun (z : List (List Int)) => Y (z, w64 (s.2 + 1)))) (J s.1)) (l, 0)) K := by
  refine Jn.mk (fun a => a = offL l m) (V_loopc (xs := m) (by unfold maxLen; omega) (fun t : List (List Int) × Int => t.2) (fun i t => t.1.length = l.length ∧ ∀ j, t.1[j]? = if j < i ∧ j < l.length ∧ 0 ≤ m.getD j (-1) then some [] else l[j]?) rfl ⟨rfl, fun j => by rw [if_neg (by omega)]⟩ (fun i c t hc ht hI => ?_) (fun t hI => ?_)) (fun a ha => by rw [ha]; exact hK)
  · have hi := (List.getElem?_eq_some_iff.1 hc).1
    obtain ⟨h1, h2⟩ := hI
    have hcd : m.getD i (-1) = c := by rw [List.getD_eq_getElem?_getD, hc]; rfl
    rw [ht]
    refine Jn.mk (fun a : List (List Int) => a.length = l.length ∧ ∀ j, a[j]? = if j < i + 1 ∧ j < l.length ∧ 0 ≤ m.getD j (-1) then some [] else l[j]?) (Ite.mk (fun h => ?_) (fun h => ?_)) (fun a ha => ⟨rfl, ha⟩)
    · have h0 : 0 ≤ c := of_decide_eq_true h
      have hy := List.getElem?_eq_getElem (show i < t.1.length by omega)
      refine ⟨_, idx_of rfl hy, by rw [List.length_set]; exact h1, fun j => ?_⟩
      rw [Int.toNat_natCast, List.getElem?_set]
      by_cases e : i = j
      · subst e; rw [if_pos rfl, if_pos (by omega), if_pos ⟨by omega, by omega, by rw [hcd]; exact h0⟩]
      · rw [if_neg e, h2]
        by_cases hj : j < i
        · simp [hj, show j < i + 1 by omega]
        · simp [hj, show ¬ j < i + 1 by omega]
    · have h0 : ¬ 0 ≤ c := of_decide_eq_false h
      refine ⟨h1, fun j => ?_⟩
      rw [h2]
      by_cases e : j = i
      · subst e; rw [if_neg (by omega), if_neg (by rw [hcd]; omega)]
      · by_cases hj : j < i
        · simp [hj, show j < i + 1 by omega]
        · simp [hj, show ¬ j < i + 1 by omega]
  · obtain ⟨h1, h2⟩ := hI
    refine List.ext_getElem? fun j => ?_
    rw [h2]
    by_cases hj : j < l.length
    · rw [offL_get hj]
      by_cases h0 : 0 ≤ m.getD j (-1)
      · rw [if_pos ⟨by omega, hj, h0⟩, if_pos h0]
      · rw [if_neg (fun h => h0 h.2.2), if_neg h0, List.getD_eq_getElem?_getD, List.getElem?_eq_getElem hj]; rfl
    · rw [if_neg (by omega), List.getElem?_eq_none (by omega), List.getElem?_eq_none (by rw [offL_len]; omega)]
theorem set_snoc {α : Type} {a : List α} {x : α} : (a ++ [x]).set a.length x = a ++ [x] := by
  rw [List.set_append_right _ _ (Nat.le_refl _)]; simp
theorem S_clone_v2 {xs : List (List Int)} (hl : xs.length ≤ 1000) {post : List (List Int) → Prop} (hp : post xs) : V_slices_Clone_int_int_v2 xs post := by
  unfold V_slices_Clone_int_int_v2; exact S_clone (by omega) hp
theorem S_dock_Turns (hl : FewL l) {post : List (List Int) → Prop} (hp : ∀ out, TR l out → post out) : V_dock_Turns l post := by
  have hln := hl.len
  unfold V_dock_Turns
  refine S_clone_v2 (by omega) ?_
  refine Loop.mk (fun t : List (List Int) × List (List Int) => FewL t.1 ∧ t.1.length = l.length ∧ t.2.length + neL t.1 ≤ 12 ∧ ∀ rest, TR t.1 rest → TR l (t.2 ++ rest)) (fun t => neL t.1) ⟨hl, rfl, by have := neL_le (l := l); simp; omega, fun rest h => h⟩ ?_
  rintro ⟨left, out⟩ ⟨h1, h2, h3, h4⟩
  simp only at h1 h2 h3 h4
  refine Jn.mk' (S_dock_Match h1 (fun w m hM hm hs _ => ?_))
  have hml : m.length = left.length := hm.len
  refine S_turns_any (by omega) (Ite.mk (fun h => ?_) (fun h => ?_))
  · have h0 : ¬ 0 < szM m := by intro h'; rw [decide_eq_true h'] at h; cases h
    have hw0 : w = 0 := by omega
    subst hw0
    have := h4 [] (.stop hM)
    rw [List.append_nil] at this
    exact hp out this
  · have h0 : 0 < szM m := by
      cases hd : decide (0 < szM m) with
      | true => exact of_decide_eq_true hd
      | false => rw [hd] at h; cases h
    have hlt := neL_lt h1 hm h0
    refine loop_off (by omega) hml ⟨by show out.length + 1 ≤ _; omega, ⟨offL_few h1, by show (offL left m).length = _; rw [offL_len, h2], ?_, fun rest hr => ?_⟩, ?_⟩
    · show ((out ++ [m]).set out.length m).length + neL (offL left m) ≤ 12
      rw [set_snoc]; simp; omega
    · show TR l ((out ++ [m]).set out.length m ++ rest)
      rw [set_snoc, List.append_assoc]
      exact h4 (m :: rest) (.turn hM hm hs (by omega) hr)
    · exact hlt
end
end Go.Taq

/- The mathematics, part DF: matchings told by the statements; the examples; DockTurns (chapter 34). -/
set_option linter.unusedVariables false
set_option linter.unusedSimpArgs false
namespace Go.Taq
open Go

/-! ## small lists, by trying all -/
def allM : List (List Int) → List (List Int)
  | [] => [[]]
  | r :: l => ((-1) :: r).flatMap fun c => (allM l).map fun m => c :: m
def matB (l : List (List Int)) (m : List Int) : Bool := m.length == l.length && (List.range m.length).all fun i => m.getD i (-1) == -1 || (decide (0 ≤ m.getD i (-1)) && (l.getD i []).contains (m.getD i (-1)) && (List.range i).all fun j => m.getD j (-1) != m.getD i (-1))
def mxO : List Nat → Option Nat
  | [] => none
  | x :: xs => match mxO xs with | none => some x | some y => some (if x ≤ y then y else x)
def mostO (l : List (List Int)) (g : List Int) : Option Nat := mxO (((allM l).filter fun m => matB l m && m.take g.length == g).map szM)
def bestB (l : List (List Int)) (w : Nat) (p row : List Int) (c : Int) : Bool :=
  (c == -1 && row.all fun d => p.contains d || mostO l (p ++ [d]) != some w) || (row.contains c && !p.contains c && mostO l (p ++ [c]) == some w && row.all fun d => p.contains d || mostO l (p ++ [d]) != some w || decide (c ≤ d))
def mrB (l : List (List Int)) (w : Nat) (m : List Int) : Bool := mostO l [] == some w && m.length == l.length && (List.range l.length).all fun i => bestB l w (m.take i) (l.getD i []) (m.getD i (-1))
theorem mxO_some : ∀ {xs : List Nat} {v : Nat}, mxO xs = some v → v ∈ xs ∧ ∀ x, x ∈ xs → x ≤ v
  | [], v, h => by simp [mxO] at h
  | x :: xs, v, h => by
    unfold mxO at h
    cases e : mxO xs with
    | none =>
      rw [e] at h
      have hv := Option.some.inj h
      have hn : xs = [] := by
        cases xs with
        | nil => rfl
        | cons y ys => unfold mxO at e; split at e <;> cases e
      subst hn; subst hv
      simp
    | some y =>
      rw [e] at h
      have hv := Option.some.inj h
      obtain ⟨h1, h2⟩ := mxO_some e
      split at hv
      · subst hv
        exact ⟨List.mem_cons_of_mem _ h1, fun z hz => (List.mem_cons.1 hz).elim (fun e => by omega) (h2 z)⟩
      · subst hv
        exact ⟨List.mem_cons_self .., fun z hz => (List.mem_cons.1 hz).elim (fun e => by omega) (fun hz => by have := h2 z hz; omega)⟩
theorem mxO_ne : ∀ {xs : List Nat} {x : Nat}, x ∈ xs → ∃ v, mxO xs = some v
  | [], x, h => by cases h
  | x :: xs, _, _ => by
    unfold mxO
    cases mxO xs with
    | none => exact ⟨_, rfl⟩
    | some y => exact ⟨_, rfl⟩
section
variable {l : List (List Int)} {m : List Int} {w : Nat}
theorem getD_neg {m : List Int} {i : Nat} (h : i < m.length) : m[i]? = some (m.getD i (-1)) := by rw [List.getD_eq_getElem?_getD, List.getElem?_eq_getElem h]; rfl
theorem row_nat {l : List (List Int)} {i : Nat} : rowL l (i : Int) = l.getD i [] := by unfold rowL; rw [Int.toNat_natCast]
theorem matB_iff : matB l m = true ↔ Mat l m := by
  unfold matB
  simp only [Bool.and_eq_true, beq_iff_eq, List.all_eq_true, List.mem_range, Bool.or_eq_true, decide_eq_true_eq, List.contains_iff_mem, bne_iff_ne]
  constructor
  · rintro ⟨h1, h2⟩
    refine ⟨h1, fun i c hc => ?_⟩
    have hi := (List.getElem?_eq_some_iff.1 hc).1
    have e : m.getD i (-1) = c := by rw [List.getD_eq_getElem?_getD, hc]; rfl
    have := h2 i hi
    rw [e] at this
    rcases this with h | ⟨⟨h3, h4⟩, h5⟩
    · exact .inl h
    · refine .inr ⟨h3, by rw [row_nat]; exact h4, fun j hj he => h5 j hj ?_⟩
      rw [List.getD_eq_getElem?_getD, he]; rfl
  · rintro ⟨h1, h2⟩
    refine ⟨h1, fun i hi => ?_⟩
    rcases h2 i _ (getD_neg hi) with h | ⟨h3, h4, h5⟩
    · exact .inl h
    · rw [row_nat] at h4
      exact .inr ⟨⟨h3, h4⟩, fun j hj he => h5 j hj (by rw [getD_neg (by omega), he])⟩
theorem all_mem : ∀ {l : List (List Int)} {m : List Int}, m.length = l.length → (∀ i, i < m.length → m.getD i (-1) = -1 ∨ m.getD i (-1) ∈ l.getD i []) → m ∈ allM l
  | [], [], _, _ => by simp [allM]
  | [], c :: m, h, _ => by simp at h
  | r :: l, [], h, _ => by simp at h
  | r :: l, c :: m, h, h2 => by
    unfold allM
    rw [List.mem_flatMap]
    refine ⟨c, ?_, List.mem_map.2 ⟨m, all_mem (by simpa using h) (fun i hi => ?_), rfl⟩⟩
    · have := h2 0 (by simp)
      rw [List.mem_cons]; exact this
    · have := h2 (i + 1) (by simpa using hi)
      simpa using this
theorem Mat.all (h : Mat l m) : m ∈ allM l := all_mem h.len (fun i hi => by
  rcases h.ok i _ (getD_neg hi) with e | ⟨_, e, _⟩
  · exact .inl e
  · rw [row_nat] at e; exact .inr e)
theorem most_iff {g : List Int} : Most l g w ↔ mostO l g = some w := by
  unfold mostO
  have key : ∀ m, m ∈ ((allM l).filter fun m => matB l m && m.take g.length == g) ↔ Mat l m ∧ m.take g.length = g := fun m => by
    rw [List.mem_filter, Bool.and_eq_true, matB_iff, beq_iff_eq]
    exact ⟨fun h => h.2, fun h => ⟨h.1.all, h⟩⟩
  have back : ∀ v, mxO (((allM l).filter fun m => matB l m && m.take g.length == g).map szM) = some v → Most l g v := fun v hv => by
    obtain ⟨h1, h2⟩ := mxO_some hv
    obtain ⟨m, hm, e⟩ := List.mem_map.1 h1
    obtain ⟨q1, q2⟩ := (key m).1 hm
    exact ⟨⟨m, q1, q2, e⟩, fun m' hm' hg' => h2 _ (List.mem_map.2 ⟨m', (key m').2 ⟨hm', hg'⟩, rfl⟩)⟩
  refine ⟨fun h => ?_, back w⟩
  obtain ⟨m, h1, h2, h3⟩ := h.is
  obtain ⟨v, hv⟩ := mxO_ne (List.mem_map.2 ⟨m, (key m).2 ⟨h1, h2⟩, rfl⟩ : szM m ∈ ((allM l).filter fun m => matB l m && m.take g.length == g).map szM)
  rw [hv, h.uniq (back v hv)]
theorem mrB_ok (h : mrB l w m = true) : MR l w m := by
  unfold mrB at h
  simp only [Bool.and_eq_true, beq_iff_eq, List.all_eq_true, List.mem_range] at h
  obtain ⟨⟨h1, h2⟩, h3⟩ := h
  refine ⟨most_iff.2 h1, h2, fun i c hc => ?_⟩
  have hi := (List.getElem?_eq_some_iff.1 hc).1
  have e : m.getD i (-1) = c := by rw [List.getD_eq_getElem?_getD, hc]; rfl
  have := h3 i (by omega)
  rw [e, ← row_nat] at this
  unfold bestB at this
  simp only [Bool.or_eq_true, Bool.and_eq_true, beq_iff_eq, List.all_eq_true, List.contains_iff_mem, bne_iff_ne, Bool.not_eq_true', ← Bool.not_eq_true, decide_eq_true_eq] at this
  rcases this with ⟨g1, g2⟩ | ⟨⟨⟨g1, g2⟩, g3⟩, g4⟩
  · exact .inl ⟨g1, fun d hd hn hm => (g2 d hd).elim (fun h => hn h) (fun h => h (most_iff.1 hm))⟩
  · refine .inr ⟨g1, fun h => by simp [h] at g2, most_iff.2 g3, fun d hd hn hm => ?_⟩
    rcases g4 d hd with (h | h) | h
    · exact absurd h hn
    · exact absurd (most_iff.1 hm) h
    · exact h
end
theorem S_ref34_Few {l : List (List Int)} {post : Bool → Prop} (hF : post false) (hT : FewL l → post true) : V_taquinref34_Few l 12 post := by
  unfold V_taquinref34_Few
  refine Jn.mk (fun _ => (l.length ≤ 12 → FewL l)) (Loop.mk (fun t : Int => ∃ i : Nat, t = (i : Int) ∧ i ≤ l.length ∧ i ≤ 13 ∧ ∀ (j : Nat) r, j < i → l[j]? = some r → r.length ≤ 10 ∧ ∀ c, c ∈ r → 0 ≤ c ∧ c ≤ 63) (fun t => l.length - t.toNat) ⟨0, rfl, by omega, by omega, fun j r hj => by omega⟩ ?_) (fun _ h => ?_)
  · rintro t ⟨i, e, hi, hi2, hI⟩
    subst e
    refine Jn.mk (fun b => b = true ↔ (i < l.length ∧ i ≤ 12)) (Ite.mk (fun h => ?_) (fun h => ?_)) (fun b hb => Ite.mk (fun h => ?_) (fun h hl12 => ?_))
    · have h' : (i : Int) < l.length := of_decide_eq_true h
      show decide ((i : Int) ≤ 12) = true ↔ _
      rw [decide_eq_true_iff]; omega
    · have h' : ¬ (i : Int) < l.length := of_decide_eq_false h
      exact ⟨fun h => (by cases h), fun h => by omega⟩
    · obtain ⟨g1, g2⟩ := hb.1 h
      have hx := List.getElem?_eq_getElem g1
      generalize l[i] = r at hx
      have ew : w64 ((i : Int) + 1) = ((i + 1 : Nat) : Int) := by rw [w64_eq (by omega) (by omega)]; simp
      refine Jn.mk' (Jn.mk (fun _ => r.length ≤ 10 → ∀ c, c ∈ r → 0 ≤ c ∧ c ≤ 63) (Loop.mk (fun u : Int => ∃ k : Nat, u = (k : Int) ∧ k ≤ r.length ∧ k ≤ 11 ∧ ∀ c, c ∈ r.take k → 0 ≤ c ∧ c ≤ 63) (fun u => r.length - u.toNat) ⟨0, rfl, by omega, by omega, fun c hc => by simp at hc⟩ ?_) (fun _ hall => ⟨r, idx_of rfl hx, Ite.mk (fun _ => hF) (fun h2 => ?_)⟩))
      · rintro u ⟨k, e, hk, hk2, hK⟩
        subst e
        refine Jn.mk (fun b => b = true ↔ (k < r.length ∧ k ≤ 10)) ⟨r, idx_of rfl hx, Ite.mk (fun h => ?_) (fun h => ?_)⟩ (fun b hb => Ite.mk (fun h => ?_) (fun h h10 => ?_))
        · have h' : (k : Int) < r.length := of_decide_eq_true h
          show decide ((k : Int) ≤ 10) = true ↔ _
          rw [decide_eq_true_iff]; omega
        · have h' : ¬ (k : Int) < r.length := of_decide_eq_false h
          exact ⟨fun h => (by cases h), fun h => by omega⟩
        · obtain ⟨q1, q2⟩ := hb.1 h
          have hc := List.getElem?_eq_getElem q1
          generalize r[k] = c at hc
          have ek : w64 ((k : Int) + 1) = ((k + 1 : Nat) : Int) := by rw [w64_eq (by omega) (by omega)]; simp
          refine Jn.mk (fun b => b = false → 0 ≤ c ∧ c ≤ 63) ⟨r, idx_of rfl hx, c, idx_of rfl hc, Ite.mk (fun _ h => by cases h) (fun h1 h2 => ?_)⟩ (fun b hb => Ite.mk (fun _ => hF) (fun h1 => ⟨⟨k + 1, ek, by omega, by omega, fun d hd => ?_⟩, by rw [ek]; omega⟩))
          · have h1' : ¬ c < 0 := of_decide_eq_false h1
            have h2' : ¬ c > 63 := of_decide_eq_false h2
            omega
          · rcases (mem_take_succ' hc).1 hd with h3 | h3
            · exact hK d h3
            · subst h3; exact hb h1
        · have hkl : k = r.length := by
            rcases Nat.lt_or_ge k r.length with h3 | h3
            · rw [hb.2 ⟨h3, by omega⟩] at h; cases h
            · omega
          rw [hkl, List.take_length] at hK; exact hK
      · have h2' : ¬ (r.length : Int) > 10 := of_decide_eq_false h2
        refine ⟨⟨i + 1, ew, by omega, by omega, fun j r' hj hr' => ?_⟩, by rw [ew]; omega⟩
        by_cases e : j = i
        · subst e; rw [hx] at hr'; cases hr'; exact ⟨by omega, hall (by omega)⟩
        · exact hI j r' (by omega) hr'
    · have hil : i = l.length := by
        rcases Nat.lt_or_ge i l.length with h3 | h3
        · rw [hb.2 ⟨h3, by omega⟩] at h; cases h
        · omega
      have key : ∀ r, r ∈ l → r.length ≤ 10 ∧ ∀ c, c ∈ r → 0 ≤ c ∧ c ≤ 63 := fun r hr => by
        obtain ⟨j, hj⟩ := List.mem_iff_getElem?.1 hr
        exact hI j r (by rw [hil]; exact (List.getElem?_eq_some_iff.1 hj).1) hj
      exact ⟨hl12, fun r hr => (key r hr).1, fun r hr => (key r hr).2⟩
  · cases hd : decide ((l.length : Int) ≤ 12) with
    | false => exact hF
    | true => exact hT (h (by have := of_decide_eq_true hd; omega))
/-! ## matchings as the statements tell them -/
theorem S_law34_matches {l : List (List Int)} {m : List Int} (hl : FewL l) (hm : m.length ≤ 1000) {post : Int × Bool → Prop} (hT : Mat l m → post ((szM m : Int), true)) (hF : ¬ Mat l m → ∀ n, post (n, false)) : V_taquinlaw34_matches l m post := by
  unfold V_taquinlaw34_matches
  refine Ite.mk (fun h => ?_) (fun h => ?_)
  · have h' : ¬ (l.length : Int) = m.length := by simpa using h
    exact hF (fun hM => h' (by rw [hM.len])) _
  · have hlen : m.length = l.length := by have h' : (l.length : Int) = m.length := by simpa using h
                                          omega
    refine Jn.mk (fun n : Int => Mat l m ∧ n = (szM m : Int)) (V_loopj (xs := m) (by unfold maxLen; omega) (fun t : Int × Int => t.2) (fun i t => t.1 = ((szM (m.take i) : Nat) : Int) ∧ ∀ (j : Nat) c, j < i → m[j]? = some c → c = -1 ∨ (0 ≤ c ∧ c ∈ rowL l j ∧ ∀ k : Nat, k < j → m[k]? ≠ some c)) rfl ⟨by simp [szM], fun j c hj => by omega⟩ (fun i c t hc ht hI => ?_) (fun t hI => ?_)) (fun n hn => by rw [hn.2]; exact hT hn.1)
    · have hi := (List.getElem?_eq_some_iff.1 hc).1
      obtain ⟨g1, g2⟩ := hI
      have hrow := rowL_get (l := l) (x := (i : Int)) (by omega) (by omega)
      have hbad : (¬ (c = -1 ∨ (0 ≤ c ∧ c ∈ rowL l i ∧ ∀ k : Nat, k < i → m[k]? ≠ some c))) → ¬ Mat l m := fun hb hM => hb (hM.ok i c hc)
      have hszs : szM (m.take (i + 1)) = szM (m.take i) + if 0 ≤ c then 1 else 0 := by
        rw [take_succ hc]; unfold szM
        rw [List.countP_append]; simp
      have hsz : szM (m.take i) ≤ i := by
        have := List.countP_le_length (p := fun c : Int => decide (0 ≤ c)) (l := m.take i)
        rw [List.length_take] at this; unfold szM; omega
      have hnext : (c = -1 ∨ (0 ≤ c ∧ c ∈ rowL l i ∧ ∀ k : Nat, k < i → m[k]? ≠ some c)) → ∀ (j : Nat) d, j < i + 1 → m[j]? = some d → d = -1 ∨ (0 ≤ d ∧ d ∈ rowL l j ∧ ∀ k : Nat, k < j → m[k]? ≠ some d) := fun hok j d hj hd => by
        by_cases e : j = i
        · subst e; rw [hc] at hd; cases hd; exact hok
        · exact g2 j d (by omega) hd
      refine Jn.mk (fun n : Int => n = ((szM (m.take (i + 1)) : Nat) : Int) ∧ ∀ (j : Nat) d, j < i + 1 → m[j]? = some d → d = -1 ∨ (0 ≤ d ∧ d ∈ rowL l j ∧ ∀ k : Nat, k < j → m[k]? ≠ some d)) ⟨c, by rw [ht]; exact idx_of rfl hc, Ite.mk (fun h1 => Ite.mk (fun h2 => ?_) (fun h2 => ?_)) (fun h1 => ?_)⟩ (fun n hn => ⟨by rw [ht], hn⟩)
      · have h1' : c < 0 := of_decide_eq_true h1
        have h2' : c ≠ -1 := by simpa using h2
        exact hF (hbad (by omega)) _
      · have h1' : c < 0 := of_decide_eq_true h1
        have h2' : c = -1 := by simpa using h2
        exact ⟨by rw [hszs, if_neg (by omega), g1]; rfl, hnext (.inl h2')⟩
      · have h1' : ¬ c < 0 := of_decide_eq_false h1
        have hsub : sub m 0 t.2 = m.take i := by
          unfold sub; rw [ht]; simp
        refine Jn.mk (fun b => b = true ↔ ¬ (c ∈ rowL l i ∧ ∀ k : Nat, k < i → m[k]? ≠ some c)) ⟨rowL l i, by rw [ht]; exact hrow.2, S_ref07_Has (by have := hl.rlen (i : Int); unfold maxLen; omega) (Ite.mk (fun h3 => ⟨⟨by omega, by rw [ht]; omega, by rw [ht]; omega⟩, ?_⟩) (fun h3 => ?_))⟩ (fun b hb => Ite.mk (fun h3 => ?_) (fun h3 => ?_))
        · rw [hsub]
          refine S_ref07_Has (by unfold maxLen; simp; omega) ?_
          have hin : c ∈ rowL l i := List.contains_iff_mem.1 h3
          show (m.take i).contains c = true ↔ _
          rw [List.contains_iff_mem]
          constructor
          · intro h4 h5
            obtain ⟨k, hk⟩ := List.mem_iff_getElem?.1 h4
            have hkl := (List.getElem?_eq_some_iff.1 hk).1
            simp at hkl
            rw [List.getElem?_take_of_lt (by omega)] at hk
            exact h5.2 k (by omega) hk
          · intro h4
            by_cases h5 : c ∈ m.take i
            · exact h5
            · refine absurd ⟨hin, fun k hk he => h5 ?_⟩ h4
              exact List.mem_of_getElem? (by rw [List.getElem?_take_of_lt hk]; exact he)
        · have hin : ¬ c ∈ rowL l i := fun h4 => by rw [List.contains_iff_mem.2 h4] at h3; cases h3
          exact ⟨fun _ h4 => hin h4.1, fun _ => rfl⟩
        · refine hF (hbad (fun h4 => ?_)) _
          rcases h4 with h4 | h4
          · omega
          · exact hb.1 h3 h4.2
        · have hok : c ∈ rowL l i ∧ ∀ k : Nat, k < i → m[k]? ≠ some c := by
            by_cases h4 : c ∈ rowL l i ∧ ∀ k : Nat, k < i → m[k]? ≠ some c
            · exact h4
            · rw [hb.2 h4] at h3; cases h3
          refine ⟨?_, hnext (.inr ⟨by omega, hok⟩)⟩
          rw [hszs, if_pos (by omega), g1, w64_eq (by omega) (by omega)]; simp
    · rw [List.take_length] at hI
      exact ⟨⟨hlen, fun i c hc => hI.2 i c (List.getElem?_eq_some_iff.1 hc).1 hc⟩, hI.1⟩
/-! ## the examples -/
def e34a : List (List Int) := [[5, 9], [5]]
def e34b : List (List Int) := [[5, 9], [5], [9]]
def e34c : List (List Int) := [[5], [], [5]]
theorem few_lit {l : List (List Int)} (h : (decide (l.length ≤ 12) && l.all fun r => decide (r.length ≤ 10) && r.all fun c => decide (0 ≤ c) && decide (c ≤ 63)) = true) : FewL l := by
  simp only [Bool.and_eq_true, decide_eq_true_eq, List.all_eq_true] at h
  exact ⟨h.1, fun r hr => (h.2 r hr).1, fun r hr c hc => (h.2 r hr).2 c hc⟩
theorem e34b_tr : TR e34b [[5, -1, 9], [-1, 5, -1]] :=
  .turn (w := 2) (mrB_ok (by decide)) (matB_iff.1 (by decide)) (by decide) (by decide) (.turn (w := 1) (mrB_ok (by decide)) (matB_iff.1 (by decide)) (by decide) (by decide) (.stop (m := [-1, -1, -1]) (mrB_ok (by decide))))
theorem e34c_tr : TR e34c [[5, -1, -1], [-1, -1, 5]] :=
  .turn (w := 1) (mrB_ok (by decide)) (matB_iff.1 (by decide)) (by decide) (by decide) (.turn (w := 1) (mrB_ok (by decide)) (matB_iff.1 (by decide)) (by decide) (by decide) (.stop (m := [-1, -1, -1]) (mrB_ok (by decide))))
theorem S_law34_small {post : Bool → Prop} (hp : post true) : V_taquinlaw34_small post := by
  have same : ∀ {a : List Int} {q : Bool → Prop}, a.length ≤ 10 → q true → V_taquinref07_Same a a q := fun {a q} ha hq => S_ref07_SameL (by unfold maxLen; omega) hq
  unfold V_taquinlaw34_small
  refine S_dock_Match (l := e34a) (few_lit (by decide)) (fun w m hM _ _ _ => ?_)
  have em : m = [9, 5] := hM.uniq (mrB_ok (w := 2) (by decide))
  subst em
  refine S_dock_Match (l := e34b) (few_lit (by decide)) (fun w m hM _ _ _ => ?_)
  have em : m = [5, -1, 9] := hM.uniq (mrB_ok (w := 2) (by decide))
  subst em
  refine S_dock_Turns (l := e34b) (few_lit (by decide)) (fun o1 h1 => ?_)
  have eo := h1.uniq e34b_tr
  subst eo
  refine S_dock_Turns (l := e34c) (few_lit (by decide)) (fun o2 h2 => ?_)
  have eo := h2.uniq e34c_tr
  subst eo
  refine Jn.mk (fun b => b = false) (Ite.f rfl rfl) (fun b hb => Ite.f hb (Jn.mk (fun b => b = true) ?_ (fun b hb => by rw [hb]; exact hp)))
  refine same (by decide) (Ite.t rfl (same (by decide) (Ite.t rfl ⟨_, rfl, same (by decide) (Ite.t rfl ⟨_, rfl, by decide, same (by decide) (Ite.t rfl ⟨_, rfl, same (by decide) (Ite.t rfl ⟨_, rfl, by decide, same (by decide) rfl⟩)⟩)⟩)⟩)))
end Go.Taq

/- The mathematics, part DH: DockMost (chapter 34). -/
set_option linter.unusedVariables false
set_option linter.unusedSimpArgs false
namespace Go.Taq
open Go

theorem cntP_lt {α : Type} {p q : α → Bool} : ∀ {xs : List α}, (∀ x, x ∈ xs → p x = true → q x = true) → ∀ {y : α}, y ∈ xs → p y = false → q y = true → xs.countP p < xs.countP q
  | [], _, y, h, _, _ => by cases h
  | b :: xs, h, y, hy, h1, h2 => by
    have hm := List.countP_mono_left (l := xs) (p := p) (q := q) (fun x hx => h x (List.mem_cons_of_mem _ hx))
    have hb := h b (List.mem_cons_self ..)
    rw [List.countP_cons, List.countP_cons]
    rcases List.mem_cons.1 hy with e | hy
    · subst e; rw [h1, h2]; simp; omega
    · have := cntP_lt (fun x hx => h x (List.mem_cons_of_mem _ hx)) hy h1 h2
      have : (if p b = true then 1 else 0) ≤ (if q b = true then 1 else 0) := by
        split
        · rename_i h; rw [if_pos (hb h)]; omega
        · omega
      omega
/-- how many are set -/
def cnB (R : List Bool) (n : Nat) : Nat := (List.range n).countP fun i => R.getD i false
theorem getB_set {R : List Bool} {i j : Nat} {b : Bool} (h : i < R.length) : (R.set i b).getD j false = if j = i then b else R.getD j false := by
  rw [List.getD_eq_getElem?_getD, List.getElem?_set, List.getD_eq_getElem?_getD]
  by_cases e : i = j
  · subst e; rw [if_pos rfl, if_pos h, if_pos rfl]; rfl
  · rw [if_neg e, if_neg (fun e2 => e e2.symm)]
theorem getB {R : List Bool} {i : Nat} (h : i < R.length) : R[i]? = some (R.getD i false) := by rw [List.getD_eq_getElem?_getD, List.getElem?_eq_getElem h]; rfl
theorem sA_get {C : List Bool} {c : Int} (h0 : 0 ≤ c) (h1 : c < C.length) : idx C c = some (sA C c) := by
  unfold sA
  rw [decide_eq_true h0, Bool.true_and]
  exact idx_of (n := c.toNat) (by omega) (getB (by omega))
/-- a set of robots that is closed, and has all without a charger -/
def TiT (l : List (List Int)) (m : List Int) (T : Int → Prop) : Prop := (∀ j : Nat, m[j]? = some (-1) → T j) ∧ ∀ r, T r → ∀ c, c ∈ rowL l r → ∃ j : Nat, T j ∧ m[j]? = some c
structure Clo (l : List (List Int)) (m : List Int) (t : Nat) (R C : List Bool) : Prop where
  inT : ∀ T, TiT l m T → (∀ i, i < l.length → R.getD i false = true → T (i : Int)) ∧ ∀ c, sA C c = true → ∃ j : Nat, T j ∧ m[j]? = some c
  lr : R.length = l.length
  lc : C.length = 64
  un : ∀ i, i < l.length → m.getD i (-1) < 0 → R.getD i false = true
  im : ∀ i, i < l.length → R.getD i false = true → m.getD i (-1) < 0 ∨ sA C (m.getD i (-1)) = true
  im2 : ∀ i, i < l.length → 0 ≤ m.getD i (-1) → sA C (m.getD i (-1)) = true → R.getD i false = true
  fr : ∀ c, sA C c = true → ∃ i, i < l.length ∧ R.getD i false = true ∧ c ∈ rowL l (i : Int)
  clo : (∀ i, i < l.length → R.getD i false = true → ∀ c, c ∈ rowL l (i : Int) → sA C c = true) ∨ t ≤ cnB R l.length
section
variable {l : List (List Int)} {m : List Int}
theorem Mat.inj (hM : Mat l m) {i j : Nat} {c : Int} (hi : m[i]? = some c) (hj : m[j]? = some c) (h0 : 0 ≤ c) : i = j := by
  rcases Nat.lt_trichotomy i j with hlt | he | hgt
  · rcases hM.ok j c hj with e | e
    · omega
    · exact absurd hi (e.2.2 i hlt)
  · exact he
  · rcases hM.ok i c hi with e | e
    · omega
    · exact absurd hj (e.2.2 j hgt)
theorem Clo.step {t : Nat} {R C R' C' : List Bool} (hM : Mat l m) (h : Clo l m t R C) (hr : R'.length = l.length) (hc : C'.length = 64)
    (hC : ∀ c, sA C' c = true ↔ sA C c = true ∨ ∃ i, i < l.length ∧ R.getD i false = true ∧ c ∈ rowL l (i : Int)) (hR : ∀ i, i < l.length → (R'.getD i false = true ↔ R.getD i false = true ∨ (0 ≤ m.getD i (-1) ∧ sA C' (m.getD i (-1)) = true))) : Clo l m (t + 1) R' C' where
  inT := fun T hT => by
    obtain ⟨a1, a2⟩ := h.inT T hT
    have hc' : ∀ c, sA C' c = true → ∃ j : Nat, T j ∧ m[j]? = some c := fun c hcc => by
      rcases (hC c).1 hcc with g | ⟨i, g1, g2, g3⟩
      · exact a2 c g
      · exact hT.2 _ (a1 i g1 g2) c g3
    refine ⟨fun i hi hi2 => ?_, hc'⟩
    rcases (hR i hi).1 hi2 with g | ⟨g0, g⟩
    · exact a1 i hi g
    · obtain ⟨j, h1, h2⟩ := hc' _ g
      have := hM.inj h2 (getD_neg (m := m) (i := i) (by rw [hM.len]; exact hi)) g0
      subst this; exact h1
  lr := hr
  lc := hc
  un := fun i hi hm => (hR i hi).2 (.inl (h.un i hi hm))
  im := fun i hi hi2 => by
    rcases (hR i hi).1 hi2 with g | g
    · exact (h.im i hi g).imp id (fun g => (hC _).2 (.inl g))
    · exact .inr g.2
  im2 := fun i hi h0 hs => (hR i hi).2 (.inr ⟨h0, hs⟩)
  fr := fun c hcc => by
    rcases (hC c).1 hcc with g | ⟨i, g1, g2, g3⟩
    · obtain ⟨i, g1, g2, g3⟩ := h.fr c g
      exact ⟨i, g1, (hR i g1).2 (.inl g2), g3⟩
    · exact ⟨i, g1, (hR i g1).2 (.inl g2), g3⟩
  clo := by
    by_cases hsame : ∀ i, i < l.length → R'.getD i false = true → R.getD i false = true
    · exact .inl fun i hi hi2 c hcc => (hC c).2 (.inr ⟨i, hi, hsame i hi hi2, hcc⟩)
    · obtain ⟨i, hn⟩ := Classical.not_forall.1 hsame
      obtain ⟨hi, hn⟩ := Classical.not_imp.1 hn
      obtain ⟨hi2, hi3⟩ := Classical.not_imp.1 hn
      rcases h.clo with hcl | hcl
      · exfalso
        rcases (hR i hi).1 hi2 with g | ⟨g0, g⟩
        · exact hi3 g
        · rcases (hC _).1 g with g | ⟨j, g1, g2, g3⟩
          · exact hi3 (h.im2 i hi g0 g)
          · exact hi3 (h.im2 i hi g0 (hcl j g1 g2 _ g3))
      · right
        have : cnB R l.length < cnB R' l.length := by
          unfold cnB
          exact cntP_lt (fun x hx hx2 => (hR x (List.mem_range.1 hx)).2 (.inl hx2)) (List.mem_range.2 hi) (by cases hb : R.getD i false with
            | false => rfl
            | true => exact absurd hb hi3) hi2
        omega
theorem Clo.closed {R C : List Bool} (h : Clo l m (l.length + 1) R C) : ∀ i, i < l.length → R.getD i false = true → ∀ c, c ∈ rowL l (i : Int) → sA C c = true := by
  rcases h.clo with g | g
  · exact g
  · have := List.countP_le_length (p := fun i => R.getD i false) (l := List.range l.length)
    rw [List.length_range] at this
    unfold cnB at g; omega
/-- the cover has as many as the matching -/
theorem Clo.cover {R C : List Bool} (h : Clo l m (l.length + 1) R C) (hM : Mat l m) (ht : Tight l m) : (List.range l.length).countP (fun i => !R.getD i false) + (List.range 64).countP (fun (c : Nat) => C.getD c false) = szM m := by
  obtain ⟨T, t1, t2⟩ := ht
  obtain ⟨_, a2⟩ := h.inT T ⟨t1, t2⟩
  have hgm : ∀ i, i < l.length → m[i]? = some (m.getD i (-1)) := fun i hi => getD_neg (by rw [hM.len]; exact hi)
  have hval : ∀ i, i < l.length → m.getD i (-1) = -1 ∨ 0 ≤ m.getD i (-1) := fun i hi => (hM.ok i _ (hgm i hi)).imp id fun h => h.1
  have hsz : szM m = (List.range l.length).countP (fun i => decide (0 ≤ m.getD i (-1))) := by
    rw [← hasM_len]; unfold hasM
    rw [List.length_map, ← List.countP_eq_length_filter, hM.len]
  have split : ∀ xs : List Nat, xs.countP (fun i => decide (0 ≤ m.getD i (-1))) = xs.countP (fun i => decide (0 ≤ m.getD i (-1)) && !R.getD i false) + xs.countP (fun i => decide (0 ≤ m.getD i (-1)) && R.getD i false) := fun xs => by
    induction xs with
    | nil => rfl
    | cons b xs ih =>
      rw [List.countP_cons, List.countP_cons, List.countP_cons, ih]
      cases decide (0 ≤ m.getD b (-1)) <;> cases R.getD b false <;> simp <;> omega
  rw [hsz, split]
  have e1 : (List.range l.length).countP (fun i => !R.getD i false) = (List.range l.length).countP (fun i => decide (0 ≤ m.getD i (-1)) && !R.getD i false) := by
    refine List.countP_congr fun i hi => ?_
    have hi' := List.mem_range.1 hi
    cases hb : R.getD i false with
    | true => simp
    | false =>
      have : 0 ≤ m.getD i (-1) := by
        by_cases h0 : m.getD i (-1) < 0
        · rw [h.un i hi' h0] at hb; cases hb
        · omega
      rw [decide_eq_true this]; simp
  have e2 : (List.range 64).countP (fun (c : Nat) => C.getD c false) = (List.range l.length).countP (fun i => decide (0 ≤ m.getD i (-1)) && R.getD i false) := by
    have key : (((List.range 64).filter fun (c : Nat) => C.getD c false).map fun (j : Nat) => (j : Int)).length = (((List.range l.length).filter fun i => decide (0 ≤ m.getD i (-1)) && R.getD i false).map fun (j : Nat) => m.getD j (-1)).length := by
     refine nodup_eq (nodup_cast (List.nodup_range.filter _)) ?_ fun x => ?_
     · rw [List.Nodup, List.pairwise_map]
       refine ((List.nodup_range.filter _).imp_of_mem fun {a b} ha hb hab e => hab ?_)
       rw [List.mem_filter, List.mem_range, Bool.and_eq_true, decide_eq_true_eq] at ha hb
       exact hM.inj (hgm a ha.1) (by rw [e]; exact hgm b hb.1) ha.2.1
     · rw [List.mem_map, List.mem_map]
       constructor
       · rintro ⟨c, hc, e⟩
         rw [List.mem_filter, List.mem_range] at hc
         have hs : sA C x = true := by unfold sA; rw [← e, decide_eq_true (by omega), Int.toNat_natCast, hc.2]; rfl
         obtain ⟨j, _, hj⟩ := a2 x hs
         have hjl : j < l.length := by rw [← hM.len]; exact (List.getElem?_eq_some_iff.1 hj).1
         have ej : m.getD j (-1) = x := by rw [List.getD_eq_getElem?_getD, hj]; rfl
         refine ⟨j, List.mem_filter.2 ⟨List.mem_range.2 hjl, ?_⟩, ej⟩
         rw [Bool.and_eq_true, decide_eq_true_eq, ej]
         exact ⟨by omega, h.im2 j hjl (by rw [ej]; omega) (by rw [ej]; exact hs)⟩
       · rintro ⟨j, hj, e⟩
         rw [List.mem_filter, List.mem_range, Bool.and_eq_true, decide_eq_true_eq] at hj
         obtain ⟨j1, j2, j3⟩ := hj
         rcases h.im j j1 j3 with g | g
         · omega
         · rw [e] at g j2
           have hlt : x.toNat < C.length := by
             unfold sA at g
             rw [Bool.and_eq_true] at g
             rcases Nat.lt_or_ge x.toNat C.length with h | h
             · exact h
             · rw [List.getD_eq_getElem?_getD, List.getElem?_eq_none h] at g; simp at g
           rw [h.lc] at hlt
           refine ⟨x.toNat, List.mem_filter.2 ⟨List.mem_range.2 hlt, ?_⟩, by omega⟩
           unfold sA at g
           rw [Bool.and_eq_true] at g
           exact g.2
    rw [List.length_map, List.length_map] at key
    rw [List.countP_eq_length_filter, List.countP_eq_length_filter]; exact key
  rw [e1, e2]
/-! ## the loops of the statement -/
theorem Clo.start {R : List Bool} (hR : R.length = l.length) (hv : ∀ i, i < l.length → R.getD i false = decide (m.getD i (-1) < 0)) (hM : Mat l m) : Clo l m 0 R (List.replicate 64 false) := by
  have hz : ∀ c, sA (List.replicate 64 false) c = false := fun c => by
    unfold sA
    rw [List.getD_eq_getElem?_getD, List.getElem?_replicate]
    split <;> simp
  refine ⟨fun T hT => ⟨fun i hi h => ?_, fun c h => (by rw [hz] at h; cases h)⟩, hR, by simp, fun i hi h => by rw [hv i hi]; exact decide_eq_true h, fun i hi h => .inl (by rw [hv i hi] at h; exact of_decide_eq_true h), fun i hi h0 h => (by rw [hz] at h; cases h), fun c h => (by rw [hz] at h; cases h), .inr (Nat.zero_le _)⟩
  rw [hv i hi] at h
  have h' : m.getD i (-1) < 0 := of_decide_eq_true h
  have hg := getD_neg (m := m) (i := i) (by rw [hM.len]; exact hi)
  rcases hM.ok i _ hg with e | e
  · rw [e] at hg; exact hT.1 i hg
  · omega
end
theorem Said_taquinlaw34_DockMost (l : List (List Int)) (kl : (OkL (OkL I64)) l) (other : List Int) (ko : (OkL I64) other) : V_taquinlaw34_DockMost l other (fun y => y = true) := by
  unfold V_taquinlaw34_DockMost
  refine S_law34_small (Jn.mk (fun b => b = false → FewL l ∧ other.length ≤ 20) (S_ref34_Few (Ite.f rfl fun h => (by cases h)) (fun hl => Ite.t rfl (fun h => ⟨hl, ?_⟩))) (fun b hb => Ite.mk (fun _ => rfl) (fun h => ?_)))
  · have h' : ¬ (other.length : Int) > 20 := of_decide_eq_false h
    omega
  obtain ⟨hl, hol⟩ := hb h
  have hln := hl.len
  refine S_dock_Match hl (fun w m hMR hM hs htight => ?_)
  have hml : m.length = l.length := hM.len
  have hT : Tight l m := htight m hM hs
  have hw : w ≤ 12 := by
    have := List.countP_le_length (p := fun c : Int => decide (0 ≤ c)) (l := m)
    unfold szM at hs; omega
  refine S_law34_matches hl (by omega) (fun _ => Ite.f rfl ⟨⟨by omega, by omega⟩, ⟨by omega, by omega⟩, ?_⟩) (fun h => absurd hM h)
  -- robots without a charger
  refine Jn.mk (fun R : List Bool => R.length = l.length ∧ ∀ i, i < l.length → R.getD i false = decide (m.getD i (-1) < 0)) (V_loopc (xs := m) (by unfold maxLen; omega) (fun t : List Bool × Int => t.2) (fun i t => t.1.length = l.length ∧ ∀ j, j < i → j < l.length → t.1.getD j false = decide (m.getD j (-1) < 0)) rfl ⟨by simp, fun j hj => by omega⟩ (fun i c t hc ht hI => ?_) (fun t hI => ⟨hI.1, fun j hj => hI.2 j (by omega) hj⟩)) (fun R hR => ?_)
  · obtain ⟨g1, g2⟩ := hI
    have hi := (List.getElem?_eq_some_iff.1 hc).1
    have hcd : m.getD i (-1) = c := by rw [List.getD_eq_getElem?_getD, hc]; rfl
    rw [ht]
    refine ⟨_, idx_of rfl (getB (by omega)), rfl, by rw [List.length_set]; exact g1, fun j hj hj2 => ?_⟩
    rw [Int.toNat_natCast, getB_set (by omega)]
    by_cases e : j = i
    · subst e; rw [if_pos rfl, hcd]
    · rw [if_neg e]; exact g2 j (by omega) hj2
  -- what is reached
  refine Jn.mk (fun t : List Bool × List Bool => Clo l m (l.length + 1) t.1 t.2) (Loop.mk (fun t : List Bool × List Bool × Int => ∃ k : Nat, t.2.2 = (k : Int) ∧ k ≤ l.length + 1 ∧ Clo l m k t.1 t.2.1) (fun t => l.length + 1 - t.2.2.toNat) ⟨0, rfl, by omega, Clo.start hR.1 hR.2 hM⟩ ?_) (fun t ht => ?_)
  · rintro ⟨R, C, kk⟩ ⟨k, e, hk, hC⟩
    simp only at e hC
    subst e
    refine Ite.mk (fun hlt => ?_) (fun hnlt => ?_)
    · have hlt' : k ≤ l.length := by have h : (k : Int) ≤ l.length := of_decide_eq_true hlt; omega
      have ew : w64 ((k : Int) + 1) = ((k + 1 : Nat) : Int) := by rw [w64_eq (by omega) (by omega)]; simp
      have hrl := hC.lr
      have hcl := hC.lc
      refine Jn.mk' (Jn.mk (fun C' : List Bool => C'.length = 64 ∧ ∀ c, sA C' c = true ↔ sA C c = true ∨ ∃ i, i < l.length ∧ R.getD i false = true ∧ c ∈ rowL l (i : Int)) (V_loopj (xs := l) (by unfold maxLen; omega) (fun t : List Bool × Int => t.2) (fun i t => t.1.length = 64 ∧ ∀ c, sA t.1 c = true ↔ sA C c = true ∨ ∃ j, j < i ∧ R.getD j false = true ∧ c ∈ rowL l (j : Int)) rfl ⟨hcl, fun c => ⟨.inl, fun h => h.elim id (fun ⟨j, h, _⟩ => by omega)⟩⟩ (fun i row t hrow ht hI => ?_) (fun t hI => hI)) (fun C' hC' => ?_))
      · obtain ⟨g1, g2⟩ := hI
        obtain ⟨C0, ii⟩ := t
        simp only at ht g1 g2
        subst ht
        have hi := (List.getElem?_eq_some_iff.1 hrow).1
        have er : rowL l (i : Int) = row := by rw [row_nat, List.getD_eq_getElem?_getD, hrow]; rfl
        have hrl10 := hl.row row (List.mem_of_getElem? hrow)
        refine Jn.mk' (Jn.mk (fun C' : List Bool => C'.length = 64 ∧ ∀ c, sA C' c = true ↔ sA C0 c = true ∨ (R.getD i false = true ∧ c ∈ row)) (Loop.mk (fun u : List Bool × Int => ∃ q : Nat, u.2 = (q : Int) ∧ q ≤ row.length ∧ u.1.length = 64 ∧ ∀ c, sA u.1 c = true ↔ sA C0 c = true ∨ (R.getD i false = true ∧ c ∈ row.take q)) (fun u => row.length - u.2.toNat) ⟨0, rfl, by omega, g1, fun c => by simp⟩ ?_) (fun C' hC' => ?_))
        · rintro ⟨C1, qq⟩ ⟨q, e, hq, q1, q2⟩
          simp only at e q1 q2
          subst e
          refine Jn.mk (fun b => b = true ↔ (q < row.length ∧ R.getD i false = true)) ⟨row, idx_of rfl hrow, Ite.mk (fun h => ⟨_, idx_of rfl (getB (R := R) (by omega)), ?_⟩) (fun h => ?_)⟩ (fun b hb => Ite.mk (fun h => ?_) (fun h => ?_))
          · have h' : (q : Int) < row.length := of_decide_eq_true h
            exact ⟨fun h2 => ⟨by omega, h2⟩, fun h2 => h2.2⟩
          · have h' : ¬ (q : Int) < row.length := of_decide_eq_false h
            exact ⟨fun h2 => (by cases h2), fun h2 => by omega⟩
          · obtain ⟨h1, h2⟩ := hb.1 h
            have hc := List.getElem?_eq_getElem h1
            generalize row[q] = c at hc
            have hcb := hl.num row (List.mem_of_getElem? hrow) c (List.mem_of_getElem? hc)
            have eq1 : w64 ((q : Int) + 1) = ((q + 1 : Nat) : Int) := by rw [w64_eq (by omega) (by omega)]; simp
            refine ⟨row, idx_of rfl hrow, c, idx_of rfl hc, _, sA_get (C := C1) hcb.1 (by omega), ⟨q + 1, eq1, by omega, by rw [List.length_set]; exact q1, fun d => ?_⟩, by show row.length - (w64 ((q : Int) + 1)).toNat < row.length - ((q : Int)).toNat; rw [eq1]; omega⟩
            show sA (C1.set c.toNat true) d = true ↔ _
            rw [sA_set hcb.1 (by omega), q2, mem_take_succ' hc]
            constructor
            · rintro ((h3 | h3) | h3)
              · exact .inl h3
              · exact .inr ⟨h3.1, .inl h3.2⟩
              · exact .inr ⟨h2, .inr h3⟩
            · rintro (h3 | ⟨h3, h4 | h4⟩)
              · exact .inl (.inl h3)
              · exact .inl (.inr ⟨h3, h4⟩)
              · exact .inr h4
          · refine ⟨q1, fun c => ?_⟩
            rw [q2]
            by_cases hRi : R.getD i false = true
            · have hql : q = row.length := by
                rcases Nat.lt_or_ge q row.length with h3 | h3
                · rw [hb.2 ⟨h3, hRi⟩] at h; cases h
                · omega
              rw [hql, List.take_length]
            · exact ⟨fun h => h.imp id (fun h => absurd h.1 hRi), fun h => h.imp id (fun h => absurd h.1 hRi)⟩
        · refine ⟨rfl, hC'.1, fun c => ?_⟩
          rw [hC'.2, g2]
          constructor
          · rintro ((h3 | ⟨j, h3, h4⟩) | ⟨h3, h4⟩)
            · exact .inl h3
            · exact .inr ⟨j, by omega, h4⟩
            · exact .inr ⟨i, by omega, h3, by rw [er]; exact h4⟩
          · rintro (h3 | ⟨j, h3, h4, h5⟩)
            · exact .inl (.inl h3)
            · by_cases e : j = i
              · subst e; rw [er] at h5; exact .inr ⟨h4, h5⟩
              · exact .inl (.inr ⟨j, by omega, h4, h5⟩)
      · obtain ⟨c1, c2⟩ := hC'
        refine Jn.mk (fun R' : List Bool => R'.length = l.length ∧ ∀ i, i < l.length → (R'.getD i false = true ↔ R.getD i false = true ∨ (0 ≤ m.getD i (-1) ∧ sA C' (m.getD i (-1)) = true))) (V_loopc (xs := m) (by unfold maxLen; omega) (fun t : List Bool × Int => t.2) (fun i t => t.1.length = l.length ∧ ∀ j, j < l.length → (t.1.getD j false = true ↔ R.getD j false = true ∨ (j < i ∧ 0 ≤ m.getD j (-1) ∧ sA C' (m.getD j (-1)) = true))) rfl ⟨hrl, fun j hj => ⟨.inl, fun h => h.elim id (fun h => by omega)⟩⟩ (fun i c t hc ht hI => ?_) (fun t hI => ⟨hI.1, fun j hj => by rw [hI.2 j hj]; exact ⟨fun h => h.imp id (fun h => h.2), fun h => h.imp id (fun h => ⟨by omega, h⟩)⟩⟩)) (fun R' hR' => ?_)
        · obtain ⟨g1, g2⟩ := hI
          have hi := (List.getElem?_eq_some_iff.1 hc).1
          have hcd : m.getD i (-1) = c := by rw [List.getD_eq_getElem?_getD, hc]; rfl
          rw [ht]
          refine Jn.mk (fun R' : List Bool => R'.length = l.length ∧ ∀ j, j < l.length → (R'.getD j false = true ↔ R.getD j false = true ∨ (j < i + 1 ∧ 0 ≤ m.getD j (-1) ∧ sA C' (m.getD j (-1)) = true))) (Ite.mk (fun h => ?_) (fun h => ?_)) (fun R' hR' => ⟨rfl, hR'⟩)
          · have h0 : 0 ≤ c := of_decide_eq_true h
            have hcb : c ≤ 63 := by
              rcases hM.ok i c hc with e | e
              · omega
              · exact (hl.bd e.2.1).2
            have hset : ∀ b : Bool, (b = true ↔ t.1.getD i false = true ∨ sA C' c = true) → (t.1.set (Int.toNat (i : Int)) b).length = l.length ∧ ∀ j, j < l.length → ((t.1.set (Int.toNat (i : Int)) b).getD j false = true ↔ R.getD j false = true ∨ (j < i + 1 ∧ 0 ≤ m.getD j (-1) ∧ sA C' (m.getD j (-1)) = true)) := fun b hb => by
              refine ⟨by rw [List.length_set]; exact g1, fun j hj => ?_⟩
              rw [Int.toNat_natCast, getB_set (by omega)]
              by_cases e : j = i
              · subst e
                rw [if_pos rfl, hb, g2 j hj, hcd]
                constructor
                · rintro ((h3 | h3) | h3)
                  · exact .inl h3
                  · omega
                  · exact .inr ⟨by omega, h0, h3⟩
                · rintro (h3 | h3)
                  · exact .inl (.inl h3)
                  · exact .inr h3.2.2
              · rw [if_neg e, g2 j hj]
                exact ⟨fun h => h.imp id (fun h => ⟨by omega, h.2⟩), fun h => h.imp id (fun h => ⟨by omega, h.2⟩)⟩
            refine Jn.mk' ⟨_, idx_of rfl (getB (by omega)), Ite.mk (fun h3 => hset true ⟨fun _ => .inl h3, fun _ => rfl⟩) (fun h3 => ⟨_, sA_get h0 (by omega), hset _ ⟨.inr, fun h => h.elim (fun h => by rw [h3] at h; cases h) id⟩⟩)⟩
          · have h0 : ¬ 0 ≤ c := of_decide_eq_false h
            refine ⟨g1, fun j hj => ?_⟩
            rw [g2 j hj]
            constructor
            · exact fun h => h.imp id (fun h => ⟨by omega, h.2⟩)
            · intro h
              rcases h with h | ⟨h1, h2, h3⟩
              · exact .inl h
              · by_cases e : j = i
                · subst e; rw [hcd] at h2; exact absurd h2 h0
                · exact .inr ⟨by omega, h2, h3⟩
        · exact ⟨⟨k + 1, ew, by omega, hC.step hM hR'.1 c1 c2 hR'.2⟩, by show l.length + 1 - (w64 ((k : Int) + 1)).toNat < l.length + 1 - ((k : Int)).toNat; rw [ew]; omega⟩
    · have hk2 : k = l.length + 1 := by have h : ¬ (k : Int) ≤ l.length := of_decide_eq_false hnlt; omega
      subst hk2; exact hC
  -- the cover
  obtain ⟨R, C⟩ := t
  simp only at ht
  have hrl := ht.lr
  have hcl := ht.lc
  refine Jn.mk (fun n : Int => n = (((List.range l.length).countP (fun i => !R.getD i false) : Nat) : Int)) (V_loopj (xs := l) (by unfold maxLen; omega) (fun t : Int × Int => t.2) (fun i t => t.1 = (((List.range i).countP (fun i => !R.getD i false) : Nat) : Int)) rfl (by simp) (fun i row t hrow hti hI => ?_) (fun t hI => hI)) (fun n1 hn1 => ?_)
  · have hi := (List.getElem?_eq_some_iff.1 hrow).1
    have er : rowL l (i : Int) = row := by rw [row_nat, List.getD_eq_getElem?_getD, hrow]; rfl
    have hrl10 := hl.row row (List.mem_of_getElem? hrow)
    have hcnt := List.countP_le_length (p := fun i => !R.getD i false) (l := List.range i)
    rw [List.length_range] at hcnt
    have hsucc : (List.range (i + 1)).countP (fun i => !R.getD i false) = (List.range i).countP (fun i => !R.getD i false) + if R.getD i false = true then 0 else 1 := by
      rw [List.range_succ, List.countP_append, List.countP_cons, List.countP_nil]
      show _ + (0 + if (!R.getD i false) = true then 1 else 0) = _
      cases R.getD i false <;> rfl
    rw [hti]
    refine Jn.mk' ⟨_, idx_of rfl (getB (R := R) (by omega)), Jn.mk (fun n : Int => n = (((List.range (i + 1)).countP (fun i => !R.getD i false) : Nat) : Int)) (Ite.mk (fun h3 => ?_) (fun h3 => ?_)) (fun n hn => ?_)⟩
    · have h3' : R.getD i false = false := by simpa using h3
      rw [hsucc, h3', if_neg (by simp), hI, w64_eq (by omega) (by omega)]; simp
    · have h3' : R.getD i false = true := by simpa using h3
      rw [hsucc, if_pos h3', hI]; rfl
    · refine Jn.mk (fun _ => True) (Loop.mk (fun u : Int => ∃ q : Nat, u = (q : Int) ∧ q ≤ row.length) (fun u => row.length - u.toNat) ⟨0, rfl, by omega⟩ ?_) (fun _ _ => ⟨rfl, hn⟩)
      rintro u ⟨q, e, hq⟩
      subst e
      refine ⟨row, idx_of rfl hrow, Ite.mk (fun h3 => ?_) (fun _ => trivial)⟩
      have hlt : q < row.length := by have h : (q : Int) < row.length := of_decide_eq_true h3; omega
      have hc := List.getElem?_eq_getElem hlt
      generalize row[q] = c at hc
      have hcm := List.mem_of_getElem? hc
      have hcb := hl.num row (List.mem_of_getElem? hrow) c hcm
      have eq1 : w64 ((q : Int) + 1) = ((q + 1 : Nat) : Int) := by rw [w64_eq (by omega) (by omega)]; simp
      refine Jn.mk (fun b => b = false) ⟨_, idx_of rfl (getB (R := R) (by omega)), Ite.mk (fun h4 => ⟨c, idx_of rfl hc, _, sA_get (C := C) hcb.1 (by omega), ?_⟩) (fun _ => rfl)⟩ (fun b hb => Ite.f hb ⟨⟨q + 1, eq1, by omega⟩, by rw [eq1]; omega⟩)
      rw [ht.closed i hi h4 c (by rw [er]; exact hcm)]; rfl
  refine Jn.mk (fun n : Int => n = ((szM m : Nat) : Int)) (V_upto 64 (fun t : Int × Int => t.2) (fun i t => t.1 = n1 + (((List.range i).countP (fun (c : Nat) => C.getD c false) : Nat) : Int)) (by unfold maxLen; omega) rfl (by simp) (fun i t hi hti hI => ?_) (fun t hI => ?_)) (fun n2 hn2 => ?_)
  · have hcnt := List.countP_le_length (p := fun (c : Nat) => C.getD c false) (l := List.range i)
    rw [List.length_range] at hcnt
    have hcnt1 := List.countP_le_length (p := fun i => !R.getD i false) (l := List.range l.length)
    rw [List.length_range] at hcnt1
    have hsucc : (List.range (i + 1)).countP (fun (c : Nat) => C.getD c false) = (List.range i).countP (fun (c : Nat) => C.getD c false) + if C.getD i false = true then 1 else 0 := by
      rw [List.range_succ, List.countP_append, List.countP_cons, List.countP_nil]
      show _ + (0 + if C.getD i false = true then 1 else 0) = _
      cases C.getD i false <;> rfl
    rw [hti]
    refine ⟨_, idx_of rfl (getB (R := C) (by omega)), Jn.mk (fun n : Int => n = n1 + (((List.range (i + 1)).countP (fun (c : Nat) => C.getD c false) : Nat) : Int)) (Ite.mk (fun h3 => ?_) (fun h3 => ?_)) (fun n hn => ⟨rfl, hn⟩)⟩
    · rw [hsucc, if_pos h3, hI, hn1, w64_eq (by omega) (by omega)]; omega
    · rw [hsucc, if_neg (by rw [h3]; simp), hI]; rfl
  · rw [hI, hn1]
    have := ht.cover hM hT
    omega
  -- the other one
  have hfin : ∀ b : Bool, (b = true → Mat l other) → ∀ n : Int, (b = true → n = (szM other : Int)) → Jn (fun (J179 : Bool → Prop) => Ite (n2 != ((szM m : Nat) : Int)) (J179 true) (Ite b (J179 (decide (n > ((szM m : Nat) : Int)))) (J179 false))) (fun (x178 : Bool) => Ite x178 (false = true) (Jn (fun (J186 : Bool → Prop) => Ite b (J186 (decide (n < ((szM m : Nat) : Int)))) (J186 true)) (fun (x185 : Bool) => Ite x185 (true = true) (Jn (fun (J194 : Unit → Prop) => Loop (fun (s195 : Int) Y196 => Ite (decide (s195 < (m.length : Int))) (∃ x202, idx m s195 = some x202 ∧ ∃ x203, idx other s195 = some x203 ∧ Ite (x202 != x203) (Jn (fun (J206 : Bool → Prop) => Ite true (Ite (decide (x202 ≥ 0)) (Ite (decide (x203 < 0)) (J206 true) (J206 (decide (x202 < x203)))) (J206 false)) (J206 false)) (fun (x205 : Bool) => x205 = true)) (Y196 (w64 (s195 + 1)))) (J194 ())) 0) (fun (x193 : Unit) => true = true))))) := fun b hbM n hbn => by
    refine Jn.mk (fun b => b = false) (Ite.f (by rw [hn2]; simp) (Ite.mk (fun h3 => ?_) (fun _ => rfl))) (fun b1 hb1 => Ite.f hb1 (Jn.mk (fun c => c = false → b = true ∧ ¬ n < ((szM m : Nat) : Int)) (Ite.mk (fun h3 h4 => ⟨h3, of_decide_eq_false h4⟩) (fun h3 h4 => by cases h4)) (fun c hc => Ite.mk (fun _ => rfl) (fun h3 => ?_))))
    · have hle := hMR.most.le other (hbM h3) take_nil_eq
      rw [hbn h3]
      exact decide_eq_false (by omega)
    · obtain ⟨hb', hn'⟩ := hc h3
      have hO := hbM hb'
      have hoz : szM other = w := by
        have := hMR.most.le other hO take_nil_eq
        rw [hbn hb'] at hn'; omega
      refine Jn.mk (fun _ => True) (V_loopc (xs := m) (by unfold maxLen; omega) (fun t : Int => t) (fun i t => m.take i = other.take i) rfl (by simp) (fun i c t hc2 ht2 hI => ?_) (fun t _ => trivial)) (fun _ _ => rfl)
      have hi := (List.getElem?_eq_some_iff.1 hc2).1
      have hoi := List.getElem?_eq_getElem (show i < other.length by rw [hO.len]; omega)
      generalize other[i]'_ = d at hoi
      refine ⟨d, by rw [ht2]; exact idx_of rfl hoi, Ite.mk (fun h4 => ?_) (fun h4 => ?_)⟩
      · have hne : c ≠ d := by simpa using h4
        have hbest := hMR.best i c hc2
        have hcd : 0 ≤ c ∧ (d < 0 ∨ c < d) := by
          rcases hO.ok i d hoi with e | ⟨e1, e2, e3⟩
          · rcases hM.ok i c hc2 with e4 | e4
            · omega
            · omega
          · have hdn : d ∉ m.take i := fun hin => by
              rw [hI] at hin
              obtain ⟨j, hj⟩ := List.mem_iff_getElem?.1 hin
              have hjl := (List.getElem?_eq_some_iff.1 hj).1
              simp at hjl
              rw [List.getElem?_take_of_lt (by omega)] at hj
              exact e3 j (by omega) hj
            have hmost : Most l (m.take i ++ [d]) w := by
              refine ⟨⟨other, hO, ?_, hoz⟩, fun m' hm' _ => hMR.most.le m' hm' take_nil_eq⟩
              have e5 : (m.take i ++ [d]).length = i + 1 := by simp; omega
              rw [e5, take_succ hoi, hI]
            rcases hbest with ⟨e4, e5⟩ | ⟨e4, e5, e6, e7⟩
            · exact absurd hmost (e5 d e2 hdn)
            · have := e7 d e2 hdn hmost
              have := (hl.bd e4).1
              omega
        refine Jn.mk (fun b => b = true) (Ite.t rfl (Ite.t (decide_eq_true hcd.1) (Ite.mk (fun _ => rfl) (fun h5 => ?_)))) (fun b hb => hb)
        have h5' : ¬ d < 0 := of_decide_eq_false h5
        exact decide_eq_true (by omega)
      · have he : c = d := by simpa using h4
        refine ⟨by rw [ht2], ?_⟩
        rw [take_succ hc2, take_succ hoi, hI, he]
  exact S_law34_matches hl (by omega) (fun hO => hfin true (fun _ => hO) _ (fun _ => rfl)) (fun hO n => hfin false (fun h => by cases h) n (fun h => by cases h))
end Go.Taq
