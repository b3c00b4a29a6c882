/- The mathematics, several parts in one text. -/
import Derived.Test.YtlaehjhkcanffaaAR
import Derived.Test.YtlaehjhkcanffaaDC
import Derived.Test.YtlaehjhkcanffaaOH
/- The mathematics, part AG: the examples of chapter 16; ArenaTells. -/
set_option linter.unusedVariables false
set_option linter.unusedSimpArgs false
namespace Go.Taq
open Go

end Go.Taq

/- The mathematics, part BC: region.Of, right homes, who is home, the bounds of the statements of chapter 21. -/
set_option linter.unusedVariables false
set_option linter.unusedSimpArgs false
namespace Go.Taq
open Go

theorem w64_p {x : Int} (h1 : -1000000 ≤ x) (h2 : x ≤ 1000000000) : w64 x = x := w64_eq (by omega) (by omega)
theorem w64_1 {n : Nat} (h : n ≤ 1000000000) : w64 ((n : Int) + 1) = ((n + 1 : Nat) : Int) := by rw [w64_eq (by omega) (by omega)]; simp
def cmI {α : Type} [DecidableEq α] (xs : List α) : Nat → List α
  | 0 => []
  | i + 1 => cmI xs i ++ (if i = 0 ∨ xs[i]? ≠ xs[i - 1]? then xs[i]?.toList else [])
section
variable {α : Type} [DecidableEq α] {xs : List α}
theorem cmI_len : ∀ i, (cmI xs i).length ≤ i
  | 0 => by simp [cmI]
  | i + 1 => by
    have := cmI_len i
    unfold cmI
    rw [List.length_append]
    split
    · cases xs[i]? <;> simp <;> omega
    · simp; omega
theorem cmI_mem : ∀ i, i ≤ xs.length → ∀ s, s ∈ cmI xs i ↔ s ∈ xs.take i
  | 0, _, s => by simp [cmI]
  | i + 1, h, s => by
    have ih := cmI_mem i (by omega) s
    have hx : xs[i]? = some (xs[i]'(by omega)) := List.getElem?_eq_getElem (by omega)
    unfold cmI
    rw [List.take_add_one, List.mem_append, List.mem_append, ih]
    by_cases c : i = 0 ∨ xs[i]? ≠ xs[i - 1]?
    · rw [if_pos c]
    · rw [if_neg c]
      have c1 : i ≠ 0 := fun e => c (.inl e)
      have c2 : xs[i]? = xs[i - 1]? := Classical.byContradiction fun e => c (.inr e)
      constructor
      · rintro (h | h)
        · exact .inl h
        · simp at h
      · rintro (h | h)
        · exact .inl h
        · refine .inl ?_
          rw [c2] at h
          have : (xs.take i)[i - 1]? = xs[i - 1]? := List.getElem?_take_of_lt (by omega)
          rw [← this] at h
          exact List.mem_of_getElem? (Option.mem_toList.1 h)
theorem cmI_lt {lt : α → α → Prop} (ht : ∀ x y z, (lt x y ∨ x = y) → lt y z → lt x z) (hs : xs.Pairwise (fun x y => lt x y ∨ x = y)) : ∀ i, i ≤ xs.length → (cmI xs i).Pairwise lt
  | 0, _ => by simp [cmI]
  | i + 1, h => by
    have ih := cmI_lt ht hs i (by omega)
    unfold cmI
    by_cases c : i = 0 ∨ xs[i]? ≠ xs[i - 1]?
    · rw [if_pos c, List.pairwise_append]
      have hx : xs[i]? = some (xs[i]'(by omega)) := List.getElem?_eq_getElem (by omega)
      rw [hx]
      refine ⟨ih, by simp, fun a ha b hb => ?_⟩
      simp at hb; subst hb
      rw [cmI_mem i (by omega)] at ha
      rcases c with c | c
      · subst c; simp at ha
      · obtain ⟨j, hj⟩ := List.getElem?_of_mem ha
        have hji : j < i := by have := (List.getElem?_eq_some_iff.1 hj).1; simp at this; omega
        rw [List.getElem?_take_of_lt hji] at hj
        have hg := List.pairwise_iff_getElem.1 hs
        obtain ⟨hjl, hje⟩ := List.getElem?_eq_some_iff.1 hj
        have hx1 : xs[i - 1]? = some (xs[i - 1]'(by omega)) := List.getElem?_eq_getElem (by omega)
        have h1 : lt (xs[i - 1]'(by omega)) (xs[i]'(by omega)) := by
          rcases hg (i - 1) i (by omega) (by omega) (by omega) with e | e
          · exact e
          · exact absurd (by rw [hx, hx1, e]) c
        subst hje
        by_cases e : j = i - 1
        · subst e; exact h1
        · exact ht _ _ _ (hg j (i - 1) (by omega) (by omega) (by omega)) h1
    · rw [if_neg c]; simpa using ih
theorem cmI_same {i : Nat} (h : 1 ≤ i) (e : xs[i]? = xs[i - 1]?) : cmI xs (i + 1) = cmI xs i := by
  rw [cmI, if_neg (by intro h; rcases h with h | h; omega; exact h e)]; simp
theorem cmI_new {i : Nat} {x : α} (h : xs[i]? = some x) (e : i = 0 ∨ xs[i]? ≠ xs[i - 1]?) : cmI xs (i + 1) = cmI xs i ++ [x] := by
  rw [cmI, if_pos e, h]; rfl
end
theorem S_CompactI {xs : List Int} (hl : xs.length ≤ 1000000) {post : List Int → Prop} (hp : post (cmI xs xs.length)) : V_slices_Compact_int_int__o0 xs post := by
  unfold V_slices_Compact_int_int__o0
  refine Ite.mk (fun h => ?_) (fun h => ?_)
  · have h' : (xs.length : Int) < 2 := of_decide_eq_true h
    have : cmI xs xs.length = xs := by
      match xs, h' with
      | [], _ => rfl
      | [x], _ => rfl
      | _ :: _ :: _, h' => simp at h'; omega
    rw [this] at hp; exact hp
  have h' : ¬ (xs.length : Int) < 2 := of_decide_eq_false h
  have all : cmI xs xs.length = xs → post xs := fun e => by rw [e] at hp; exact hp
  refine Jn.mk (fun _ => post xs) (Loop.inv (xs.length - 1) (fun i (s : Int) => s = ((i + 1 : Nat) : Int) ∧ cmI xs (i + 1) = xs.take (i + 1)) ⟨rfl, ?_⟩ (fun i s hi hI => ?_) (fun s hI => ?_)) (fun _ h => h)
  · have hx : xs[0]? = some (xs[0]'(by omega)) := List.getElem?_eq_getElem (by omega)
    rw [cmI_new hx (.inl rfl), List.take_add_one, hx]; rfl
  · obtain ⟨rfl, hI⟩ := hI
    have hx : xs[i + 1]? = some (xs[i + 1]'(by omega)) := List.getElem?_eq_getElem (by omega)
    have hx0 : xs[i]? = some (xs[i]'(by omega)) := List.getElem?_eq_getElem (by omega)
    generalize hxv : xs[i + 1]'(by omega) = x at hx
    generalize hyv : xs[i]'(by omega) = y at hx0
    have w1 : w64 (((i + 1 : Nat) : Int) - 1) = (i : Int) := by rw [w64_p (by omega) (by omega)]; simp
    refine Ite.lt (by omega) (Jn.mk (fun _ => cmI xs (i + 2) = xs.take (i + 2)) ⟨x, idx_of rfl hx, y, idx_of w1 hx0, Ite.mk (fun e => ?_) (fun e => ?_)⟩ (fun _ e => ⟨w64_1 (by omega), e⟩))
    · have e' : x = y := by simpa using e
      have hsame : cmI xs (i + 1 + 1) = cmI xs (i + 1) := cmI_same (by omega) (by simp only [Nat.add_sub_cancel]; rw [hx, hx0, e'])
      have hn2 : Int.toNat ((xs.length : Int) - ((i + 1 : Nat) : Int)) = xs.length - (i + 1) := by omega
      simp only [hn2, Int.toNat_natCast]
      refine ⟨⟨by omega, by omega, by omega⟩, Jn.mk (fun (t : List Int × Int) => ∃ kk : Nat, t.2 = (kk : Int) ∧ t.1.length = xs.length ∧ kk ≤ xs.length ∧ t.1.take kk = cmI xs xs.length)
        (Loop.inv (xs.length - (i + 1) - 1) (fun j (t : List Int × Int × Int) => t.2.2 = ((j + 1 : Nat) : Int) ∧ ∃ kk : Nat, t.2.1 = (kk : Int) ∧ t.1.length = xs.length ∧ kk ≤ i + 1 + j ∧ t.1.take kk = cmI xs (i + 1 + j + 1) ∧ ∀ q, i + 1 + j ≤ q → t.1[q]? = xs[q]?)
          ⟨rfl, i + 1, rfl, rfl, by omega, by rw [Nat.add_zero, hsame, hI], fun q _ => rfl⟩ (fun j t hj hJ => ?_) (fun t hJ => ?_)) (fun t hJ => ?_)⟩
      · obtain ⟨ys, kk', q⟩ := t
        obtain ⟨rfl, kk, rfl, hyl, hkk, htk, hsm⟩ := hJ
        replace hyl : ys.length = xs.length := hyl
        replace htk : ys.take kk = cmI xs (i + 1 + j + 1) := htk
        replace hsm : ∀ q, i + 1 + j ≤ q → ys[q]? = xs[q]? := hsm
        have wj : w64 (((j + 1 : Nat) : Int) - 1) = (j : Int) := by rw [w64_p (by omega) (by omega)]; simp
        have wj1 : w64 (((j + 1 : Nat) : Int) + 1) = ((j + 1 + 1 : Nat) : Int) := w64_1 (by omega)
        have wk1 : w64 ((kk : Int) + 1) = ((kk + 1 : Nat) : Int) := w64_1 (by omega)
        have ha : xs[i + 1 + j + 1]? = some (xs[i + 1 + j + 1]'(by omega)) := List.getElem?_eq_getElem (by omega)
        have hb : xs[i + 1 + j]? = some (xs[i + 1 + j]'(by omega)) := List.getElem?_eq_getElem (by omega)
        generalize xs[i + 1 + j + 1]'(by omega) = a at ha
        generalize xs[i + 1 + j]'(by omega) = b at hb
        refine Ite.lt (by show ((j + 1 : Nat) : Int) < _; omega) ?_
        simp only [wj, wj1, wk1, Int.toNat_natCast]
        refine ⟨⟨by omega, by omega⟩, a, by rw [show i + 1 + (j + 1) = i + 1 + j + 1 by omega, hsm _ (by omega)]; exact ha, ⟨by omega, by omega⟩, b, by rw [hsm _ (by omega)]; exact hb, ?_⟩
        refine Jn.mk (fun (t : List Int × Int) => ∃ kk : Nat, t.2 = (kk : Int) ∧ t.1.length = xs.length ∧ kk ≤ i + 1 + (j + 1) ∧ t.1.take kk = cmI xs (i + 1 + (j + 1) + 1) ∧ ∀ q, i + 1 + (j + 1) ≤ q → t.1[q]? = xs[q]?) (Ite.mk (fun e => ?_) (fun e => ?_)) (fun t h => ⟨by trivial, h⟩)
        · have hab : ¬ a = b := by simpa using e
          have hkl : kk < ys.length := by omega
          refine ⟨⟨by omega, by omega⟩, _, idx_of rfl (List.getElem?_eq_getElem hkl), kk + 1, rfl, by simpa using hyl, by omega, ?_, fun q hq => ?_⟩
          · show (ys.set kk a).take (kk + 1) = _
            rw [List.take_add_one, List.take_set_of_le (Nat.le_refl _), htk, List.getElem?_set, if_pos rfl, if_pos hkl]
            have := cmI_new ha (.inr (by simp only [Nat.add_sub_cancel]; rw [ha, hb]; simpa using hab))
            rw [show i + 1 + (j + 1) + 1 = i + 1 + j + 1 + 1 by omega, this]; rfl
          · show (ys.set kk a)[q]? = _
            rw [List.getElem?_set_ne (by omega)]; exact hsm q (by omega)
        · have hab : a = b := by simpa using e
          have := cmI_same (xs := xs) (i := i + 1 + j + 1) (by omega) (by simp only [Nat.add_sub_cancel]; rw [ha, hb, hab])
          exact ⟨kk, rfl, hyl, by omega, by rw [show i + 1 + (j + 1) + 1 = i + 1 + j + 1 + 1 by omega, this]; exact htk, fun q hq => hsm q (by omega)⟩
      · obtain ⟨ys, kk', q⟩ := t
        obtain ⟨rfl, kk, rfl, hyl, hkk, htk, hsm⟩ := hJ
        refine Ite.nlt (by show ¬ ((xs.length - (i + 1) - 1 + 1 : Nat) : Int) < _; omega) ⟨kk, rfl, hyl, by omega, ?_⟩
        rw [show i + 1 + (xs.length - (i + 1) - 1) + 1 = xs.length by omega] at htk
        exact htk
      · obtain ⟨ys, kk'⟩ := t
        obtain ⟨kk, rfl, hyl, hkk, htk⟩ := hJ
        replace hyl : ys.length = xs.length := hyl
        replace htk : ys.take kk = cmI xs xs.length := htk
        have hn3 : Int.toNat ((ys.length : Int) - (kk : Int)) = ys.length - kk := by omega
        simp only [hn3, Int.toNat_natCast]
        refine ⟨⟨by omega, by omega, by omega⟩, by omega, ⟨by omega, by omega, ?_⟩, ?_⟩
        · simp only [List.length_append, List.length_take, List.length_replicate, List.length_drop]; omega
        · have : sub (ys.take kk ++ (List.replicate (ys.length - kk) 0 ++ ys.drop (kk + (ys.length - kk)))) 0 (kk : Int) = ys.take kk := by
            simp only [sub, Int.toNat_natCast, Int.toNat_zero, List.drop_zero, Nat.sub_zero]
            rw [List.take_append_of_le_length (by simp; omega)]
            rw [List.take_of_length_le (by simp; omega)]
          rw [this, htk]; exact hp
    · have e' : ¬ x = y := by simpa using e
      show cmI xs (i + 1 + 1) = xs.take (i + 1 + 1)
      rw [cmI_new hx (.inr (by simp only [Nat.add_sub_cancel]; rw [hx, hx0]; simpa using e')), List.take_add_one, hx, hI]; rfl
  · obtain ⟨rfl, hI⟩ := hI
    refine Ite.nlt (by omega) ?_
    rw [show xs.length - 1 + 1 = xs.length by omega, List.take_length] at hI
    exact all hI
end Go.Taq

/- The mathematics, part DD: the first of the greatest matchings, and the turns, of both (chapter 34). -/
set_option linter.unusedVariables false
set_option linter.unusedSimpArgs false
namespace Go.Taq
open Go

/-- the least charger of a list with which the greatest size is still possible -/
def BestC (l : List (List Int)) (w : Nat) (p : List Int) (row : List Int) (c : Int) : Prop :=
  (c = -1 ∧ ∀ d, d ∈ row → d ∉ p → ¬ Most l (p ++ [d]) w) ∨ (c ∈ row ∧ c ∉ p ∧ Most l (p ++ [c]) w ∧ ∀ d, d ∈ row → d ∉ p → Most l (p ++ [d]) w → c ≤ d)
theorem BestC.uniq {l : List (List Int)} {w : Nat} {p row : List Int} {c d : Int} (h : BestC l w p row c) (h' : BestC l w p row d) : c = d := by
  rcases h with ⟨e, h1⟩ | ⟨h1, h2, h3, h4⟩ <;> rcases h' with ⟨e', h1'⟩ | ⟨h1', h2', h3', h4'⟩
  · rw [e, e']
  · exact absurd h3' (h1 d h1' h2')
  · exact absurd h3 (h1' c h1 h2)
  · have := h4 d h1' h2' h3'; have := h4' c h1 h2 h3; omega
structure MR (l : List (List Int)) (w : Nat) (m : List Int) : Prop where
  most : Most l [] w
  len : m.length = l.length
  best : ∀ (i : Nat) c, m[i]? = some c → BestC l w (m.take i) (rowL l i) c
theorem MR.uniq {l : List (List Int)} {w w' : Nat} {m m' : List Int} (h : MR l w m) (h' : MR l w' m') : m = m' := by
  have ew := h.most.uniq h'.most
  subst ew
  have key : ∀ i, i ≤ l.length → m.take i = m'.take i := fun i => by
    induction i with
    | zero => intro _; simp
    | succ i ih =>
      intro hi
      have ih := ih (by omega)
      have h1 := List.getElem?_eq_getElem (show i < m.length by rw [h.len]; omega)
      have h2 := List.getElem?_eq_getElem (show i < m'.length by rw [h'.len]; omega)
      have b1 := h.best i _ h1
      have b2 := h'.best i _ h2
      rw [ih] at b1
      rw [take_succ h1, take_succ h2, ih, b1.uniq b2]
  have := key l.length (Nat.le_refl _)
  rwa [← h.len, List.take_length, h.len, ← h'.len, List.take_length] at this
/-- what has been chosen so far can be gone on with -/
structure Pre (l : List (List Int)) (w : Nat) (i : Nat) (p : List Int) : Prop where
  len : p.length = i
  beg : Beg l p
  ext : Most l p w
  best : ∀ (j : Nat) c, p[j]? = some c → BestC l w (p.take j) (rowL l j) c
theorem mem_take_succ' {α : Type} {l : List α} {i : Nat} {x y : α} (h : l[i]? = some x) : y ∈ l.take (i + 1) ↔ y ∈ l.take i ∨ y = x := by
  rw [take_succ h, List.mem_append, List.mem_singleton]
section
variable {l : List (List Int)} {w : Nat}
theorem Beg.snoc {p : List Int} {c : Int} (hp : Beg l p) (hl : p.length < l.length) (hc : c = -1 ∨ (0 ≤ c ∧ c ∈ rowL l p.length ∧ c ∉ p)) : Beg l (p ++ [c]) where
  len := by simp; omega
  ok := fun i d hd => by
    by_cases hi : i < p.length
    · rw [List.getElem?_append_left hi] at hd
      rcases hp.ok i d hd with e | ⟨h1, h2, h3⟩
      · exact .inl e
      · exact .inr ⟨h1, h2, fun j hj => by rw [List.getElem?_append_left (by omega)]; exact h3 j hj⟩
    · have hlt := (List.getElem?_eq_some_iff.1 hd).1
      simp at hlt
      have ei : i = p.length := by omega
      subst ei
      rw [List.getElem?_append_right (Nat.le_refl _)] at hd
      simp at hd; subst hd
      rcases hc with e | ⟨h1, h2, h3⟩
      · exact .inl e
      · exact .inr ⟨h1, h2, fun j hj he => by
          rw [List.getElem?_append_left hj] at he
          exact h3 (List.mem_of_getElem? he)⟩
theorem Pre.snoc {i : Nat} {p : List Int} {c : Int} (hl : FewL l) (h : Pre l w i p) (hi : i < l.length) (hb : BestC l w p (rowL l i) c) : Pre l w (i + 1) (p ++ [c]) := by
  have hpl := h.len
  have hbeg : Beg l (p ++ [c]) := h.beg.snoc (by omega) (by
    rcases hb with ⟨e, _⟩ | ⟨h1, h2, _⟩
    · exact .inl e
    · exact .inr ⟨(hl.bd h1).1, by rw [hpl]; exact h1, h2⟩)
  have htk : ∀ {m : List Int} {c : Int}, m.take p.length = p → m[p.length]? = some c → m.take (p ++ [c]).length = p ++ [c] := fun {m c} h1 h2 => by
    rw [List.length_append, List.length_singleton, take_succ h2, h1]
  have hmost : Most l (p ++ [c]) w := by
    rcases hb with ⟨e, h1⟩ | ⟨_, _, h3, _⟩
    · obtain ⟨m, m1, m2, m3⟩ := h.ext.is
      have hlt : p.length < m.length := by rw [m1.len]; omega
      have hx := List.getElem?_eq_getElem hlt
      have hle : ∀ d, ∀ m', Mat l m' → m'.take (p ++ [d]).length = p ++ [d] → szM m' ≤ w := fun d m' hm' hd => h.ext.le m' hm' (by
        have := congrArg (List.take p.length) hd
        rw [List.take_take, List.length_append, List.length_singleton, Nat.min_eq_left (by omega), List.take_left] at this
        exact this)
      have hm1 : m[p.length]'hlt = -1 := by
        rcases m1.ok p.length _ hx with e | ⟨e1, e2, e3⟩
        · exact e
        · exfalso
          refine h1 _ (by rw [← hpl]; exact e2) (fun hin => ?_) ⟨⟨m, m1, htk m2 hx, m3⟩, hle _⟩
          obtain ⟨j, hj⟩ := List.mem_iff_getElem?.1 hin
          have hjl := (List.getElem?_eq_some_iff.1 hj).1
          have ej : p[j]? = m[j]? := by
            conv => lhs; rw [← m2]
            exact List.getElem?_take_of_lt hjl
          exact e3 j hjl (ej ▸ hj)
      rw [hm1] at hx
      rw [e]
      exact ⟨⟨m, m1, htk m2 hx, m3⟩, hle _⟩
    · exact h3
  refine ⟨by simp; omega, hbeg, hmost, fun j d hd => ?_⟩
  by_cases hj : j < p.length
  · rw [List.getElem?_append_left hj] at hd
    rw [List.take_append_of_le_length (by omega)]
    exact h.best j d hd
  · have hlt := (List.getElem?_eq_some_iff.1 hd).1
    simp at hlt
    have ej : j = p.length := by omega
    subst ej
    rw [List.getElem?_append_right (Nat.le_refl _)] at hd
    simp at hd; subst hd
    rw [List.take_left, hpl]; exact hb
theorem Pre.start (h : Most l [] w) : Pre l w 0 [] := ⟨rfl, ⟨Nat.zero_le _, fun i c h => by simp at h⟩, h, fun j c h => by simp at h⟩
theorem Pre.done {m : List Int} (h : Pre l w l.length m) (h0 : Most l [] w) : MR l w m := ⟨h0, h.len, h.best⟩
theorem Pre.mat {m : List Int} (h : Pre l w l.length m) : Mat l m ∧ szM m = w := by
  have hm : Mat l m := ⟨h.len, h.beg.ok⟩
  refine ⟨hm, ?_⟩
  obtain ⟨m', m1, m2, m3⟩ := h.ext.is
  have e : m' = m := by rw [← m2, h.len, ← m1.len, List.take_length]
  rw [← e]; exact m3
theorem beg_nil : Beg l [] := ⟨Nat.zero_le _, fun i c h => by simp at h⟩
/-- the size with one more -/
theorem most_beq {p : List Int} {d : Int} {v : Nat} (hv : Most l (p ++ [d]) v) : ((v : Int) == (w : Int)) = true ↔ Most l (p ++ [d]) w := by
  rw [beq_iff_eq]
  constructor
  · intro e
    have : v = w := by omega
    rw [← this]; exact hv
  · intro h; rw [hv.uniq h]
theorem Pre.try {i : Nat} {p : List Int} {d : Int} (hl : FewL l) (h : Pre l w i p) (hi : i < l.length) (hd : d ∈ rowL l i) (hn : d ∉ p) : Beg l (p ++ [d]) :=
  h.beg.snoc (by rw [h.len]; exact hi) (.inr ⟨(hl.bd hd).1, by rw [h.len]; exact hd, hn⟩)
theorem S_sorted_set {xs : List Int} (hl : xs.length ≤ 1000) {K : List Int → Prop} (hK : ∀ m : List Int, m.length ≤ xs.length → m.Pairwise (· < ·) → (∀ a, a ∈ m ↔ a ∈ xs) → K m) :
    V_slices_Values_int_int xs (fun y => V_slices_Sorted_int__slices_Values_int_int_1 y (fun z => V_slices_Compact_int_int__o0 z K)) := by
  unfold V_slices_Values_int_int V_slices_Sorted_int__slices_Values_int_int_1 V_slices_Collect_int__slices_Values_int_int_1 V_slices_AppendSeq_int_int__o0_slices_Values_int_int_1
  refine ⟨by omega, ?_⟩
  refine Each.inv xs (fun i t => t = xs.take i) rfl (fun i x t hx ht Y hY => ?_) (fun t ht => ?_)
  · have := (List.getElem?_eq_some_iff.1 hx).1
    refine ⟨by rw [ht]; simp; omega, hY _ ?_⟩
    rw [ht, take_succ hx]
  rw [List.take_length] at ht; subst ht
  unfold V_slices_Sort_int_int__o0
  refine ⟨by omega, ?_⟩
  have hperm := List.mergeSort_perm t (fun x y => decide (x ≤ y))
  have hsort : (t.mergeSort fun x y => decide (x ≤ y)).Pairwise (fun x y => x < y ∨ x = y) := by
    have := List.pairwise_mergeSort (le := fun x y : Int => decide (x ≤ y)) (fun a b c h1 h2 => by simp at *; omega) (fun a b => by simp; omega) t
    exact this.imp (fun h => by simp at h; omega)
  have hlen := hperm.length_eq
  generalize t.mergeSort (fun x y => decide (x ≤ y)) = m at *
  refine S_CompactI (by omega) (hK _ (by have := cmI_len (xs := m) m.length; omega) (cmI_lt (lt := (· < ·)) (fun x y z h1 h2 => by omega) hsort m.length (Nat.le_refl _)) (fun a => ?_))
  rw [cmI_mem m.length (Nat.le_refl _), List.take_length, hperm.mem_iff]
theorem S_dock_Match (hl : FewL l) {post : List Int → Prop} (hp : ∀ w m, MR l w m → Mat l m → szM m = w → (∀ m', Mat l m' → szM m' = w → Tight l m') → post m) : V_dock_Match l post := by
  have hln := hl.len
  unfold V_dock_Match
  refine S_dock_most hl beg_nil (fun w hw hw24 => ?_)
  have h0 := hw.most beg_nil
  refine Jn.mk (fun m => Pre l w l.length m) (V_loopj (xs := l) (by unfold maxLen; omega) (fun t : List Int × Int => t.2) (fun i t => Pre l w i t.1) rfl (Pre.start h0) (fun i row t hrow ht hI => ?_) (fun t hI => hI)) (fun m hm => hp w m (hm.done h0) hm.mat.1 hm.mat.2 (fun m' h1 h2 => hw.tight h1 h2))
  have hi := (List.getElem?_eq_some_iff.1 hrow).1
  have er : rowL l (i : Int) = row := by unfold rowL; rw [Int.toNat_natCast, List.getD_eq_getElem?_getD, hrow]; rfl
  have hrl := hl.rlen (i : Int)
  rw [er] at hrl
  have hpl := hI.len
  refine Jn.mk' ⟨row, by rw [ht]; exact idx_of rfl hrow, S_sorted_set (by omega) (fun s hs1 hs2 hs3 => ?_)⟩
  refine Jn.mk (fun c => BestC l w t.1 row c) (Loop.mk (fun k : Int => ∃ j : Nat, k = (j : Int) ∧ j ≤ s.length ∧ ∀ d, d ∈ s.take j → d ∉ t.1 → ¬ Most l (t.1 ++ [d]) w) (fun k => s.length - k.toNat) ⟨0, rfl, by omega, fun d hd => by simp at hd⟩ ?_) (fun c hc => ⟨by simp; omega, by rw [ht], ?_⟩)
  · rintro k ⟨j, e, hj, hn⟩
    subst e
    refine Ite.mk (fun h => ?_) (fun h => ?_)
    · have hlt : j < s.length := by have h' : (j : Int) < s.length := of_decide_eq_true h; omega
      have hd := List.getElem?_eq_getElem hlt
      generalize s[j] = d at hd
      have hdr : d ∈ row := (hs3 d).1 (List.mem_of_getElem? hd)
      have ew : w64 ((j : Int) + 1) = ((j + 1 : Nat) : Int) := by rw [w64_eq (by omega) (by omega)]; simp
      refine ⟨d, idx_of rfl hd, Jn.mk (fun b => b = true ↔ (d ∉ t.1 ∧ Most l (t.1 ++ [d]) w)) (S_slices_Contains (by unfold maxLen; omega) (Ite.mk (fun hc => ?_) (fun hc => S_clone_i (by omega) ⟨by simp; omega, ?_⟩))) (fun b hb => Ite.mk (fun h2 => ?_) (fun h2 => ?_))⟩
      · have : d ∈ t.1 := List.contains_iff_mem.1 hc
        exact ⟨fun h => (by cases h), fun h => absurd this h.1⟩
      · have hdn : d ∉ t.1 := fun h => by rw [List.contains_iff_mem.2 h] at hc; cases hc
        have hbg := hI.try hl hi (by rw [er]; exact hdr) hdn
        refine S_dock_most hl hbg (fun v hv _ => ?_)
        have := most_beq (w := w) (hv.most hbg)
        exact ⟨fun h => ⟨hdn, this.1 h⟩, fun h => this.2 h.2⟩
      · obtain ⟨g1, g2⟩ := hb.1 h2
        refine .inr ⟨hdr, g1, g2, fun d' hd' hn' hm' => ?_⟩
        obtain ⟨j', hj'⟩ := List.mem_iff_getElem?.1 ((hs3 d').2 hd')
        rcases Nat.lt_or_ge j' j with hlt' | hge
        · exact absurd hm' (hn d' (List.mem_of_getElem? (by rw [List.getElem?_take_of_lt hlt']; exact hj')) hn')
        · by_cases e : j' = j
          · subst e; rw [hd] at hj'; cases hj'; exact Int.le_refl _
          · have h1 := (List.getElem?_eq_some_iff.1 hd)
            have h3 := (List.getElem?_eq_some_iff.1 hj')
            obtain ⟨a1, b1⟩ := h1
            obtain ⟨a2, b2⟩ := h3
            have := List.pairwise_iff_getElem.1 hs2 j j' a1 a2 (by omega)
            rw [b1, b2] at this; omega
      · refine ⟨⟨j + 1, ew, by omega, fun d' hd' hn' hm' => ?_⟩, by show s.length - (w64 ((j : Int) + 1)).toNat < s.length - ((j : Int)).toNat; rw [ew]; omega⟩
        rw [take_succ hd] at hd'
        rcases List.mem_append.1 hd' with h3 | h3
        · exact hn d' h3 hn' hm'
        · simp at h3; subst h3
          rw [hb.2 ⟨hn', hm'⟩] at h2; cases h2
    · have hje : j = s.length := by have h' : ¬ (j : Int) < s.length := of_decide_eq_false h; omega
      rw [hje, List.take_length] at hn
      exact .inl ⟨rfl, fun d hd => hn d ((hs3 d).2 hd)⟩
  · exact hI.snoc hl hi (by rw [er]; exact hc)
end
end Go.Taq

/- The mathematics, part DE: turns; matchings as the statements tell them; the examples (chapter 34). -/
set_option linter.unusedVariables false
set_option linter.unusedSimpArgs false
namespace Go.Taq
open Go

/-- the lists without those of the robots that have a charger -/
def offL (l : List (List Int)) (m : List Int) : List (List Int) := (List.range l.length).map fun i => if 0 ≤ m.getD i (-1) then [] else l.getD i []
def neL (l : List (List Int)) : Nat := l.countP fun r => decide (r ≠ [])
/-- the turns -/
inductive TR : List (List Int) → List (List Int) → Prop where
  | stop {l : List (List Int)} {m : List Int} (h : MR l 0 m) : TR l []
  | turn {l : List (List Int)} {w : Nat} {m : List Int} {out : List (List Int)} (h : MR l w m) (hm : Mat l m) (hs : szM m = w) (hw : 0 < w) (ht : TR (offL l m) out) : TR l (m :: out)
section
variable {l : List (List Int)} {m : List Int} {w : Nat}
theorem offL_len : (offL l m).length = l.length := by simp [offL]
theorem offL_get {i : Nat} (h : i < l.length) : (offL l m)[i]? = some (if 0 ≤ m.getD i (-1) then [] else l.getD i []) := by
  unfold offL
  rw [List.getElem?_map, List.getElem?_range h]; rfl
theorem offL_row (r : Int) (hr : 0 ≤ r) : rowL (offL l m) r = if 0 ≤ m.getD r.toNat (-1) then [] else rowL l r := by
  unfold rowL
  by_cases h : r.toNat < l.length
  · rw [List.getD_eq_getElem?_getD, offL_get h]; rfl
  · have e1 : (offL l m)[r.toNat]? = none := List.getElem?_eq_none (by rw [offL_len]; omega)
    have e2 : l[r.toNat]? = none := List.getElem?_eq_none (by omega)
    have e3 : (offL l m).getD r.toNat [] = [] := by rw [List.getD_eq_getElem?_getD, e1]; rfl
    have e4 : l.getD r.toNat [] = [] := by rw [List.getD_eq_getElem?_getD, e2]; rfl
    rw [e3, e4]; simp
theorem offL_few (hl : FewL l) : FewL (offL l m) := by
  have hmem : ∀ r, r ∈ offL l m → r = [] ∨ r ∈ l := fun r hr => by
    unfold offL at hr
    obtain ⟨i, hi, e⟩ := List.mem_map.1 hr
    rw [List.mem_range] at hi
    split at e
    · exact .inl e.symm
    · right
      rw [← e, List.getD_eq_getElem?_getD, List.getElem?_eq_getElem hi]
      exact List.getElem_mem hi
  refine ⟨by rw [offL_len]; exact hl.len, fun r hr => ?_, fun r hr c hc => ?_⟩
  · rcases hmem r hr with e | h
    · rw [e]; simp
    · exact hl.row r h
  · rcases hmem r hr with e | h
    · rw [e] at hc; cases hc
    · exact hl.num r h c hc
theorem off_sub {r c : Int} (hr : 0 ≤ r) (hc : c ∈ rowL (offL l m) r) : c ∈ rowL l r := by
  rw [offL_row r hr] at hc
  split at hc
  · cases hc
  · exact hc
theorem Mat.off {m' : List Int} (h : Mat (offL l m) m') : Mat l m' :=
  ⟨by rw [h.len, offL_len], fun i c hc => (h.ok i c hc).imp id fun ⟨h1, h2, h3⟩ => ⟨h1, off_sub (by omega) h2, h3⟩⟩
theorem take_nil_eq {m : List Int} : m.take ([] : List Int).length = [] := by simp
/-- one robot alone -/
theorem mat_one {i : Nat} {c : Int} (hi : i < l.length) (hc : c ∈ rowL l i) (h0 : 0 ≤ c) : ∃ m', Mat l m' ∧ szM m' = 1 := by
  refine ⟨(List.replicate l.length (-1)).set i c, ⟨by simp, fun j d hd => ?_⟩, ?_⟩
  · rw [List.getElem?_set] at hd
    split at hd
    · rename_i e
      subst e
      split at hd
      · cases hd
        refine .inr ⟨h0, hc, fun k hk he => ?_⟩
        rw [List.getElem?_set_ne (by omega), List.getElem?_replicate] at he
        split at he <;> simp at he; omega
      · cases hd
    · rw [List.getElem?_replicate] at hd
      split at hd <;> simp at hd
      exact .inl hd.symm
  · rw [← hasM_len]
    have : (hasM ((List.replicate l.length (-1)).set i c)).length = [(i : Int)].length := by
      refine nodup_eq (hasM_nodup _) (by simp) fun r => ?_
      rw [hasM_mem, List.mem_singleton]
      constructor
      · rintro ⟨j, d, e, e2, e3⟩
        rw [List.getElem?_set] at e2
        split at e2
        · rename_i e4; omega
        · rw [List.getElem?_replicate] at e2
          split at e2 <;> simp at e2; omega
      · intro e
        exact ⟨i, c, e, by rw [List.getElem?_set_self (by simpa using hi)], h0⟩
    rw [this]; rfl
theorem MR.empty (hl : FewL l) (h : MR l 0 m) {i : Nat} (hi : i < l.length) : rowL l i = [] := by
  cases he : rowL l i with
  | nil => rfl
  | cons c r =>
    have hc : c ∈ rowL l i := by rw [he]; exact List.mem_cons_self ..
    obtain ⟨m', h1, h2⟩ := mat_one hi hc (hl.bd hc).1
    have := h.most.le m' h1 take_nil_eq
    omega
theorem TR.uniq {a b : List (List Int)} (h : TR l a) : TR l b → a = b := by
  induction h generalizing b with
  | stop h =>
    intro h'
    cases h' with
    | stop _ => rfl
    | turn h2 _ _ hw _ => have := h.most.uniq h2.most; omega
  | turn h hm hs hw ht ih =>
    intro h'
    cases h' with
    | stop h2 => have := h.most.uniq h2.most; omega
    | turn h2 _ _ hw2 ht2 =>
      have e := h.uniq h2
      subst e
      rw [ih ht2]
theorem sz_pos (hs : 0 < szM m) : ∃ (i : Nat) (c : Int), m[i]? = some c ∧ 0 ≤ c := by
  rw [← hasM_len] at hs
  obtain ⟨r, hr⟩ := List.exists_mem_of_length_pos hs
  obtain ⟨j, c, _, h1, h2⟩ := hasM_mem.1 hr
  exact ⟨j, c, h1, h2⟩
theorem neL_lt (hl : FewL l) (hm : Mat l m) (hs : 0 < szM m) : neL (offL l m) < neL l := by
  obtain ⟨i, c, hc, h0⟩ := sz_pos hs
  have hi : i < l.length := by rw [← hm.len]; exact (List.getElem?_eq_some_iff.1 hc).1
  have hrow : c ∈ rowL l i := by
    rcases hm.ok i c hc with e | e
    · omega
    · exact e.2.1
  unfold neL offL
  rw [List.countP_map]
  have e2 : l = (List.range l.length).map fun j => l.getD j [] := by
    refine List.ext_getElem? fun j => ?_
    by_cases hj : j < l.length
    · rw [List.getElem?_map, List.getElem?_range hj, List.getElem?_eq_getElem hj]
      simp [List.getD_eq_getElem?_getD, List.getElem?_eq_getElem hj]
    · rw [List.getElem?_eq_none (by omega), List.getElem?_eq_none (by simp; omega)]
  conv => rhs; rw [e2, List.countP_map]
  have key : ∀ xs : List Nat, i ∈ xs → xs.countP ((fun r => decide (r ≠ [])) ∘ fun i => if 0 ≤ m.getD i (-1) then [] else l.getD i []) < xs.countP ((fun r => decide (r ≠ [])) ∘ fun j => l.getD j []) := fun xs hx => by
    induction xs with
    | nil => cases hx
    | cons b xs ih =>
      have hm1 : ∀ b, ((fun r => decide (r ≠ [])) ∘ fun i => if 0 ≤ m.getD i (-1) then ([] : List Int) else l.getD i []) b = true → ((fun r => decide (r ≠ [])) ∘ fun j => l.getD j []) b = true := fun b hb => by
        simp only [Function.comp, decide_eq_true_eq] at hb ⊢
        split at hb
        · exact absurd rfl hb
        · exact hb
      have hm2 := List.countP_mono_left (l := xs) (fun b _ hb => hm1 b hb)
      rw [List.countP_cons, List.countP_cons]
      by_cases e : b = i
      · subst e
        have h1 : ((fun r => decide (r ≠ [])) ∘ fun i => if 0 ≤ m.getD i (-1) then ([] : List Int) else l.getD i []) b = false := by
          exact decide_eq_false (fun h => h (if_pos (by rw [List.getD_eq_getElem?_getD, hc]; exact h0)))
        have h2 : ((fun r => decide (r ≠ [])) ∘ fun j => l.getD j []) b = true := by
          simp only [Function.comp, decide_eq_true_eq]
          intro e
          unfold rowL at hrow
          rw [Int.toNat_natCast, e] at hrow; cases hrow
        rw [h1, h2]
        simp only [Bool.false_eq_true, if_false, if_true]
        omega
      · have := ih ((List.mem_cons.1 hx).resolve_left fun e' => e e'.symm)
        have : (if ((fun r => decide (r ≠ [])) ∘ fun i => if 0 ≤ m.getD i (-1) then ([] : List Int) else l.getD i []) b = true then 1 else 0) ≤ (if ((fun r => decide (r ≠ [])) ∘ fun j => l.getD j []) b = true then 1 else 0) := by
          split
          · rename_i h; rw [if_pos (hm1 b h)]; omega
          · omega
        omega
  exact key _ (List.mem_range.2 hi)
theorem neL_le : neL l ≤ l.length := List.countP_le_length
theorem any_sz : (m.any fun c => decide (c ≥ 0)) = decide (0 < szM m) := by
  unfold szM
  rw [Bool.eq_iff_iff, List.any_eq_true, decide_eq_true_eq, List.countP_pos_iff]
theorem S_turns_any (hm : m.length ≤ 1000) {post : Bool → Prop} (hp : post (decide (0 < szM m))) : V_slices_ContainsFunc_int_int__dock_Turns_1 m post := by
  unfold V_slices_ContainsFunc_int_int__dock_Turns_1 V_slices_IndexFunc_int_int__dock_Turns_1
  refine V_fidxc (by unfold maxLen; omega) (fun c : Int => decide (c ≥ 0)) (T := fun x q => V_dock_Turns_1 x q) (fun x _ q hq => by unfold V_dock_Turns_1; exact hq) ?_
  rw [fidx_any, any_sz]; exact hp
theorem loop_off (hl : l.length ≤ 1000) (hm : m.length = l.length) {K : List (List Int) → Prop} (hK : K (offL l m)) :
    Jn (fun (J : (List (List Int)) → Prop) => Loop (fun (s : List (List Int) × Int) Y => Ite (decide (s.2 < (m.length : Int))) (∃ x, idx m s.2 = some x ∧ Jn (fun (J2 : (List (List Int)) → Prop) => Ite (decide (x ≥ 0)) (∃ y, idx s.1 s.2 = some y ∧ J2 (s.1.set (Int.toNat s.2) [])) (J2 s.1)) (fun (z : List (List Int)) => Y (z, w64 (s.2 + 1)))) (J s.1)) (l, 0)) K := by
  refine Jn.mk (fun a => a = offL l m) (V_loopc (xs := m) (by unfold maxLen; omega) (fun t : List (List Int) × Int => t.2) (fun i t => t.1.length = l.length ∧ ∀ j, t.1[j]? = if j < i ∧ j < l.length ∧ 0 ≤ m.getD j (-1) then some [] else l[j]?) rfl ⟨rfl, fun j => by rw [if_neg (by omega)]⟩ (fun i c t hc ht hI => ?_) (fun t hI => ?_)) (fun a ha => by rw [ha]; exact hK)
  · have hi := (List.getElem?_eq_some_iff.1 hc).1
    obtain ⟨h1, h2⟩ := hI
    have hcd : m.getD i (-1) = c := by rw [List.getD_eq_getElem?_getD, hc]; rfl
    rw [ht]
    refine Jn.mk (fun a : List (List Int) => a.length = l.length ∧ ∀ j, a[j]? = if j < i + 1 ∧ j < l.length ∧ 0 ≤ m.getD j (-1) then some [] else l[j]?) (Ite.mk (fun h => ?_) (fun h => ?_)) (fun a ha => ⟨rfl, ha⟩)
    · have h0 : 0 ≤ c := of_decide_eq_true h
      have hy := List.getElem?_eq_getElem (show i < t.1.length by omega)
      refine ⟨_, idx_of rfl hy, by rw [List.length_set]; exact h1, fun j => ?_⟩
      rw [Int.toNat_natCast, List.getElem?_set]
      by_cases e : i = j
      · subst e; rw [if_pos rfl, if_pos (by omega), if_pos ⟨by omega, by omega, by rw [hcd]; exact h0⟩]
      · rw [if_neg e, h2]
        by_cases hj : j < i
        · simp [hj, show j < i + 1 by omega]
        · simp [hj, show ¬ j < i + 1 by omega]
    · have h0 : ¬ 0 ≤ c := of_decide_eq_false h
      refine ⟨h1, fun j => ?_⟩
      rw [h2]
      by_cases e : j = i
      · subst e; rw [if_neg (by omega), if_neg (by rw [hcd]; omega)]
      · by_cases hj : j < i
        · simp [hj, show j < i + 1 by omega]
        · simp [hj, show ¬ j < i + 1 by omega]
  · obtain ⟨h1, h2⟩ := hI
    refine List.ext_getElem? fun j => ?_
    rw [h2]
    by_cases hj : j < l.length
    · rw [offL_get hj]
      by_cases h0 : 0 ≤ m.getD j (-1)
      · rw [if_pos ⟨by omega, hj, h0⟩, if_pos h0]
      · rw [if_neg (fun h => h0 h.2.2), if_neg h0, List.getD_eq_getElem?_getD, List.getElem?_eq_getElem hj]; rfl
    · rw [if_neg (by omega), List.getElem?_eq_none (by omega), List.getElem?_eq_none (by rw [offL_len]; omega)]
theorem set_snoc {α : Type} {a : List α} {x : α} : (a ++ [x]).set a.length x = a ++ [x] := by
  rw [List.set_append_right _ _ (Nat.le_refl _)]; simp
theorem S_clone_v2 {xs : List (List Int)} (hl : xs.length ≤ 1000) {post : List (List Int) → Prop} (hp : post xs) : V_slices_Clone_int_int_v2 xs post := by
  unfold V_slices_Clone_int_int_v2; exact S_clone (by omega) hp
theorem S_dock_Turns (hl : FewL l) {post : List (List Int) → Prop} (hp : ∀ out, TR l out → post out) : V_dock_Turns l post := by
  have hln := hl.len
  unfold V_dock_Turns
  refine S_clone_v2 (by omega) ?_
  refine Loop.mk (fun t : List (List Int) × List (List Int) => FewL t.1 ∧ t.1.length = l.length ∧ t.2.length + neL t.1 ≤ 12 ∧ ∀ rest, TR t.1 rest → TR l (t.2 ++ rest)) (fun t => neL t.1) ⟨hl, rfl, by have := neL_le (l := l); simp; omega, fun rest h => h⟩ ?_
  rintro ⟨left, out⟩ ⟨h1, h2, h3, h4⟩
  simp only at h1 h2 h3 h4
  refine Jn.mk' (S_dock_Match h1 (fun w m hM hm hs _ => ?_))
  have hml : m.length = left.length := hm.len
  refine S_turns_any (by omega) (Ite.mk (fun h => ?_) (fun h => ?_))
  · have h0 : ¬ 0 < szM m := by intro h'; rw [decide_eq_true h'] at h; cases h
    have hw0 : w = 0 := by omega
    subst hw0
    have := h4 [] (.stop hM)
    rw [List.append_nil] at this
    exact hp out this
  · have h0 : 0 < szM m := by
      cases hd : decide (0 < szM m) with
      | true => exact of_decide_eq_true hd
      | false => rw [hd] at h; cases h
    have hlt := neL_lt h1 hm h0
    refine loop_off (by omega) hml ⟨by show out.length + 1 ≤ _; omega, ⟨offL_few h1, by show (offL left m).length = _; rw [offL_len, h2], ?_, fun rest hr => ?_⟩, ?_⟩
    · show ((out ++ [m]).set out.length m).length + neL (offL left m) ≤ 12
      rw [set_snoc]; simp; omega
    · show TR l ((out ++ [m]).set out.length m ++ rest)
      rw [set_snoc, List.append_assoc]
      exact h4 (m :: rest) (.turn hM hm hs (by omega) hr)
    · exact hlt
end
end Go.Taq

/- The mathematics, part DF: matchings told by the statements; the examples; DockTurns (chapter 34). -/
set_option linter.unusedVariables false
set_option linter.unusedSimpArgs false
namespace Go.Taq
open Go

/-! ## small lists, by trying all -/
def allM : List (List Int) → List (List Int)
  | [] => [[]]
  | r :: l => ((-1) :: r).flatMap fun c => (allM l).map fun m => c :: m
def matB (l : List (List Int)) (m : List Int) : Bool := m.length == l.length && (List.range m.length).all fun i => m.getD i (-1) == -1 || (decide (0 ≤ m.getD i (-1)) && (l.getD i []).contains (m.getD i (-1)) && (List.range i).all fun j => m.getD j (-1) != m.getD i (-1))
def mxO : List Nat → Option Nat
  | [] => none
  | x :: xs => match mxO xs with | none => some x | some y => some (if x ≤ y then y else x)
def mostO (l : List (List Int)) (g : List Int) : Option Nat := mxO (((allM l).filter fun m => matB l m && m.take g.length == g).map szM)
def bestB (l : List (List Int)) (w : Nat) (p row : List Int) (c : Int) : Bool :=
  (c == -1 && row.all fun d => p.contains d || mostO l (p ++ [d]) != some w) || (row.contains c && !p.contains c && mostO l (p ++ [c]) == some w && row.all fun d => p.contains d || mostO l (p ++ [d]) != some w || decide (c ≤ d))
def mrB (l : List (List Int)) (w : Nat) (m : List Int) : Bool := mostO l [] == some w && m.length == l.length && (List.range l.length).all fun i => bestB l w (m.take i) (l.getD i []) (m.getD i (-1))
theorem mxO_some : ∀ {xs : List Nat} {v : Nat}, mxO xs = some v → v ∈ xs ∧ ∀ x, x ∈ xs → x ≤ v
  | [], v, h => by simp [mxO] at h
  | x :: xs, v, h => by
    unfold mxO at h
    cases e : mxO xs with
    | none =>
      rw [e] at h
      have hv := Option.some.inj h
      have hn : xs = [] := by
        cases xs with
        | nil => rfl
        | cons y ys => unfold mxO at e; split at e <;> cases e
      subst hn; subst hv
      simp
    | some y =>
      rw [e] at h
      have hv := Option.some.inj h
      obtain ⟨h1, h2⟩ := mxO_some e
      split at hv
      · subst hv
        exact ⟨List.mem_cons_of_mem _ h1, fun z hz => (List.mem_cons.1 hz).elim (fun e => by omega) (h2 z)⟩
      · subst hv
        exact ⟨List.mem_cons_self .., fun z hz => (List.mem_cons.1 hz).elim (fun e => by omega) (fun hz => by have := h2 z hz; omega)⟩
theorem mxO_ne : ∀ {xs : List Nat} {x : Nat}, x ∈ xs → ∃ v, mxO xs = some v
  | [], x, h => by cases h
  | x :: xs, _, _ => by
    unfold mxO
    cases mxO xs with
    | none => exact ⟨_, rfl⟩
    | some y => exact ⟨_, rfl⟩
section
variable {l : List (List Int)} {m : List Int} {w : Nat}
theorem getD_neg {m : List Int} {i : Nat} (h : i < m.length) : m[i]? = some (m.getD i (-1)) := by rw [List.getD_eq_getElem?_getD, List.getElem?_eq_getElem h]; rfl
theorem row_nat {l : List (List Int)} {i : Nat} : rowL l (i : Int) = l.getD i [] := by unfold rowL; rw [Int.toNat_natCast]
theorem matB_iff : matB l m = true ↔ Mat l m := by
  unfold matB
  simp only [Bool.and_eq_true, beq_iff_eq, List.all_eq_true, List.mem_range, Bool.or_eq_true, decide_eq_true_eq, List.contains_iff_mem, bne_iff_ne]
  constructor
  · rintro ⟨h1, h2⟩
    refine ⟨h1, fun i c hc => ?_⟩
    have hi := (List.getElem?_eq_some_iff.1 hc).1
    have e : m.getD i (-1) = c := by rw [List.getD_eq_getElem?_getD, hc]; rfl
    have := h2 i hi
    rw [e] at this
    rcases this with h | ⟨⟨h3, h4⟩, h5⟩
    · exact .inl h
    · refine .inr ⟨h3, by rw [row_nat]; exact h4, fun j hj he => h5 j hj ?_⟩
      rw [List.getD_eq_getElem?_getD, he]; rfl
  · rintro ⟨h1, h2⟩
    refine ⟨h1, fun i hi => ?_⟩
    rcases h2 i _ (getD_neg hi) with h | ⟨h3, h4, h5⟩
    · exact .inl h
    · rw [row_nat] at h4
      exact .inr ⟨⟨h3, h4⟩, fun j hj he => h5 j hj (by rw [getD_neg (by omega), he])⟩
theorem all_mem : ∀ {l : List (List Int)} {m : List Int}, m.length = l.length → (∀ i, i < m.length → m.getD i (-1) = -1 ∨ m.getD i (-1) ∈ l.getD i []) → m ∈ allM l
  | [], [], _, _ => by simp [allM]
  | [], c :: m, h, _ => by simp at h
  | r :: l, [], h, _ => by simp at h
  | r :: l, c :: m, h, h2 => by
    unfold allM
    rw [List.mem_flatMap]
    refine ⟨c, ?_, List.mem_map.2 ⟨m, all_mem (by simpa using h) (fun i hi => ?_), rfl⟩⟩
    · have := h2 0 (by simp)
      rw [List.mem_cons]; exact this
    · have := h2 (i + 1) (by simpa using hi)
      simpa using this
theorem Mat.all (h : Mat l m) : m ∈ allM l := all_mem h.len (fun i hi => by
  rcases h.ok i _ (getD_neg hi) with e | ⟨_, e, _⟩
  · exact .inl e
  · rw [row_nat] at e; exact .inr e)
theorem most_iff {g : List Int} : Most l g w ↔ mostO l g = some w := by
  unfold mostO
  have key : ∀ m, m ∈ ((allM l).filter fun m => matB l m && m.take g.length == g) ↔ Mat l m ∧ m.take g.length = g := fun m => by
    rw [List.mem_filter, Bool.and_eq_true, matB_iff, beq_iff_eq]
    exact ⟨fun h => h.2, fun h => ⟨h.1.all, h⟩⟩
  have back : ∀ v, mxO (((allM l).filter fun m => matB l m && m.take g.length == g).map szM) = some v → Most l g v := fun v hv => by
    obtain ⟨h1, h2⟩ := mxO_some hv
    obtain ⟨m, hm, e⟩ := List.mem_map.1 h1
    obtain ⟨q1, q2⟩ := (key m).1 hm
    exact ⟨⟨m, q1, q2, e⟩, fun m' hm' hg' => h2 _ (List.mem_map.2 ⟨m', (key m').2 ⟨hm', hg'⟩, rfl⟩)⟩
  refine ⟨fun h => ?_, back w⟩
  obtain ⟨m, h1, h2, h3⟩ := h.is
  obtain ⟨v, hv⟩ := mxO_ne (List.mem_map.2 ⟨m, (key m).2 ⟨h1, h2⟩, rfl⟩ : szM m ∈ ((allM l).filter fun m => matB l m && m.take g.length == g).map szM)
  rw [hv, h.uniq (back v hv)]
theorem mrB_ok (h : mrB l w m = true) : MR l w m := by
  unfold mrB at h
  simp only [Bool.and_eq_true, beq_iff_eq, List.all_eq_true, List.mem_range] at h
  obtain ⟨⟨h1, h2⟩, h3⟩ := h
  refine ⟨most_iff.2 h1, h2, fun i c hc => ?_⟩
  have hi := (List.getElem?_eq_some_iff.1 hc).1
  have e : m.getD i (-1) = c := by rw [List.getD_eq_getElem?_getD, hc]; rfl
  have := h3 i (by omega)
  rw [e, ← row_nat] at this
  unfold bestB at this
  simp only [Bool.or_eq_true, Bool.and_eq_true, beq_iff_eq, List.all_eq_true, List.contains_iff_mem, bne_iff_ne, Bool.not_eq_true', ← Bool.not_eq_true, decide_eq_true_eq] at this
  rcases this with ⟨g1, g2⟩ | ⟨⟨⟨g1, g2⟩, g3⟩, g4⟩
  · exact .inl ⟨g1, fun d hd hn hm => (g2 d hd).elim (fun h => hn h) (fun h => h (most_iff.1 hm))⟩
  · refine .inr ⟨g1, fun h => by simp [h] at g2, most_iff.2 g3, fun d hd hn hm => ?_⟩
    rcases g4 d hd with (h | h) | h
    · exact absurd h hn
    · exact absurd (most_iff.1 hm) h
    · exact h
end
theorem S_ref34_Few {l : List (List Int)} {post : Bool → Prop} (hF : post false) (hT : FewL l → post true) : V_taquinref34_Few l 12 post := by
  unfold V_taquinref34_Few
  refine Jn.mk (fun _ => (l.length ≤ 12 → FewL l)) (Loop.mk (fun t : Int => ∃ i : Nat, t = (i : Int) ∧ i ≤ l.length ∧ i ≤ 13 ∧ ∀ (j : Nat) r, j < i → l[j]? = some r → r.length ≤ 10 ∧ ∀ c, c ∈ r → 0 ≤ c ∧ c ≤ 63) (fun t => l.length - t.toNat) ⟨0, rfl, by omega, by omega, fun j r hj => by omega⟩ ?_) (fun _ h => ?_)
  · rintro t ⟨i, e, hi, hi2, hI⟩
    subst e
    refine Jn.mk (fun b => b = true ↔ (i < l.length ∧ i ≤ 12)) (Ite.mk (fun h => ?_) (fun h => ?_)) (fun b hb => Ite.mk (fun h => ?_) (fun h hl12 => ?_))
    · have h' : (i : Int) < l.length := of_decide_eq_true h
      show decide ((i : Int) ≤ 12) = true ↔ _
      rw [decide_eq_true_iff]; omega
    · have h' : ¬ (i : Int) < l.length := of_decide_eq_false h
      exact ⟨fun h => (by cases h), fun h => by omega⟩
    · obtain ⟨g1, g2⟩ := hb.1 h
      have hx := List.getElem?_eq_getElem g1
      generalize l[i] = r at hx
      have ew : w64 ((i : Int) + 1) = ((i + 1 : Nat) : Int) := by rw [w64_eq (by omega) (by omega)]; simp
      refine Jn.mk' (Jn.mk (fun _ => r.length ≤ 10 → ∀ c, c ∈ r → 0 ≤ c ∧ c ≤ 63) (Loop.mk (fun u : Int => ∃ k : Nat, u = (k : Int) ∧ k ≤ r.length ∧ k ≤ 11 ∧ ∀ c, c ∈ r.take k → 0 ≤ c ∧ c ≤ 63) (fun u => r.length - u.toNat) ⟨0, rfl, by omega, by omega, fun c hc => by simp at hc⟩ ?_) (fun _ hall => ⟨r, idx_of rfl hx, Ite.mk (fun _ => hF) (fun h2 => ?_)⟩))
      · rintro u ⟨k, e, hk, hk2, hK⟩
        subst e
        refine Jn.mk (fun b => b = true ↔ (k < r.length ∧ k ≤ 10)) ⟨r, idx_of rfl hx, Ite.mk (fun h => ?_) (fun h => ?_)⟩ (fun b hb => Ite.mk (fun h => ?_) (fun h h10 => ?_))
        · have h' : (k : Int) < r.length := of_decide_eq_true h
          show decide ((k : Int) ≤ 10) = true ↔ _
          rw [decide_eq_true_iff]; omega
        · have h' : ¬ (k : Int) < r.length := of_decide_eq_false h
          exact ⟨fun h => (by cases h), fun h => by omega⟩
        · obtain ⟨q1, q2⟩ := hb.1 h
          have hc := List.getElem?_eq_getElem q1
          generalize r[k] = c at hc
          have ek : w64 ((k : Int) + 1) = ((k + 1 : Nat) : Int) := by rw [w64_eq (by omega) (by omega)]; simp
          refine Jn.mk (fun b => b = false → 0 ≤ c ∧ c ≤ 63) ⟨r, idx_of rfl hx, c, idx_of rfl hc, Ite.mk (fun _ h => by cases h) (fun h1 h2 => ?_)⟩ (fun b hb => Ite.mk (fun _ => hF) (fun h1 => ⟨⟨k + 1, ek, by omega, by omega, fun d hd => ?_⟩, by rw [ek]; omega⟩))
          · have h1' : ¬ c < 0 := of_decide_eq_false h1
            have h2' : ¬ c > 63 := of_decide_eq_false h2
            omega
          · rcases (mem_take_succ' hc).1 hd with h3 | h3
            · exact hK d h3
            · subst h3; exact hb h1
        · have hkl : k = r.length := by
            rcases Nat.lt_or_ge k r.length with h3 | h3
            · rw [hb.2 ⟨h3, by omega⟩] at h; cases h
            · omega
          rw [hkl, List.take_length] at hK; exact hK
      · have h2' : ¬ (r.length : Int) > 10 := of_decide_eq_false h2
        refine ⟨⟨i + 1, ew, by omega, by omega, fun j r' hj hr' => ?_⟩, by rw [ew]; omega⟩
        by_cases e : j = i
        · subst e; rw [hx] at hr'; cases hr'; exact ⟨by omega, hall (by omega)⟩
        · exact hI j r' (by omega) hr'
    · have hil : i = l.length := by
        rcases Nat.lt_or_ge i l.length with h3 | h3
        · rw [hb.2 ⟨h3, by omega⟩] at h; cases h
        · omega
      have key : ∀ r, r ∈ l → r.length ≤ 10 ∧ ∀ c, c ∈ r → 0 ≤ c ∧ c ≤ 63 := fun r hr => by
        obtain ⟨j, hj⟩ := List.mem_iff_getElem?.1 hr
        exact hI j r (by rw [hil]; exact (List.getElem?_eq_some_iff.1 hj).1) hj
      exact ⟨hl12, fun r hr => (key r hr).1, fun r hr => (key r hr).2⟩
  · cases hd : decide ((l.length : Int) ≤ 12) with
    | false => exact hF
    | true => exact hT (h (by have := of_decide_eq_true hd; omega))
/-! ## matchings as the statements tell them -/
theorem S_law34_matches {l : List (List Int)} {m : List Int} (hl : FewL l) (hm : m.length ≤ 1000) {post : Int × Bool → Prop} (hT : Mat l m → post ((szM m : Int), true)) (hF : ¬ Mat l m → ∀ n, post (n, false)) : V_taquinlaw34_matches l m post := by
  unfold V_taquinlaw34_matches
  refine Ite.mk (fun h => ?_) (fun h => ?_)
  · have h' : ¬ (l.length : Int) = m.length := by simpa using h
    exact hF (fun hM => h' (by rw [hM.len])) _
  · have hlen : m.length = l.length := by have h' : (l.length : Int) = m.length := by simpa using h
                                          omega
    refine Jn.mk (fun n : Int => Mat l m ∧ n = (szM m : Int)) (V_loopj (xs := m) (by unfold maxLen; omega) (fun t : Int × Int => t.2) (fun i t => t.1 = ((szM (m.take i) : Nat) : Int) ∧ ∀ (j : Nat) c, j < i → m[j]? = some c → c = -1 ∨ (0 ≤ c ∧ c ∈ rowL l j ∧ ∀ k : Nat, k < j → m[k]? ≠ some c)) rfl ⟨by simp [szM], fun j c hj => by omega⟩ (fun i c t hc ht hI => ?_) (fun t hI => ?_)) (fun n hn => by rw [hn.2]; exact hT hn.1)
    · have hi := (List.getElem?_eq_some_iff.1 hc).1
      obtain ⟨g1, g2⟩ := hI
      have hrow := rowL_get (l := l) (x := (i : Int)) (by omega) (by omega)
      have hbad : (¬ (c = -1 ∨ (0 ≤ c ∧ c ∈ rowL l i ∧ ∀ k : Nat, k < i → m[k]? ≠ some c))) → ¬ Mat l m := fun hb hM => hb (hM.ok i c hc)
      have hszs : szM (m.take (i + 1)) = szM (m.take i) + if 0 ≤ c then 1 else 0 := by
        rw [take_succ hc]; unfold szM
        rw [List.countP_append]; simp
      have hsz : szM (m.take i) ≤ i := by
        have := List.countP_le_length (p := fun c : Int => decide (0 ≤ c)) (l := m.take i)
        rw [List.length_take] at this; unfold szM; omega
      have hnext : (c = -1 ∨ (0 ≤ c ∧ c ∈ rowL l i ∧ ∀ k : Nat, k < i → m[k]? ≠ some c)) → ∀ (j : Nat) d, j < i + 1 → m[j]? = some d → d = -1 ∨ (0 ≤ d ∧ d ∈ rowL l j ∧ ∀ k : Nat, k < j → m[k]? ≠ some d) := fun hok j d hj hd => by
        by_cases e : j = i
        · subst e; rw [hc] at hd; cases hd; exact hok
        · exact g2 j d (by omega) hd
      refine Jn.mk (fun n : Int => n = ((szM (m.take (i + 1)) : Nat) : Int) ∧ ∀ (j : Nat) d, j < i + 1 → m[j]? = some d → d = -1 ∨ (0 ≤ d ∧ d ∈ rowL l j ∧ ∀ k : Nat, k < j → m[k]? ≠ some d)) ⟨c, by rw [ht]; exact idx_of rfl hc, Ite.mk (fun h1 => Ite.mk (fun h2 => ?_) (fun h2 => ?_)) (fun h1 => ?_)⟩ (fun n hn => ⟨by rw [ht], hn⟩)
      · have h1' : c < 0 := of_decide_eq_true h1
        have h2' : c ≠ -1 := by simpa using h2
        exact hF (hbad (by omega)) _
      · have h1' : c < 0 := of_decide_eq_true h1
        have h2' : c = -1 := by simpa using h2
        exact ⟨by rw [hszs, if_neg (by omega), g1]; rfl, hnext (.inl h2')⟩
      · have h1' : ¬ c < 0 := of_decide_eq_false h1
        have hsub : sub m 0 t.2 = m.take i := by
          unfold sub; rw [ht]; simp
        refine Jn.mk (fun b => b = true ↔ ¬ (c ∈ rowL l i ∧ ∀ k : Nat, k < i → m[k]? ≠ some c)) ⟨rowL l i, by rw [ht]; exact hrow.2, S_ref07_Has (by have := hl.rlen (i : Int); unfold maxLen; omega) (Ite.mk (fun h3 => ⟨⟨by omega, by rw [ht]; omega, by rw [ht]; omega⟩, ?_⟩) (fun h3 => ?_))⟩ (fun b hb => Ite.mk (fun h3 => ?_) (fun h3 => ?_))
        · rw [hsub]
          refine S_ref07_Has (by unfold maxLen; simp; omega) ?_
          have hin : c ∈ rowL l i := List.contains_iff_mem.1 h3
          show (m.take i).contains c = true ↔ _
          rw [List.contains_iff_mem]
          constructor
          · intro h4 h5
            obtain ⟨k, hk⟩ := List.mem_iff_getElem?.1 h4
            have hkl := (List.getElem?_eq_some_iff.1 hk).1
            simp at hkl
            rw [List.getElem?_take_of_lt (by omega)] at hk
            exact h5.2 k (by omega) hk
          · intro h4
            by_cases h5 : c ∈ m.take i
            · exact h5
            · refine absurd ⟨hin, fun k hk he => h5 ?_⟩ h4
              exact List.mem_of_getElem? (by rw [List.getElem?_take_of_lt hk]; exact he)
        · have hin : ¬ c ∈ rowL l i := fun h4 => by rw [List.contains_iff_mem.2 h4] at h3; cases h3
          exact ⟨fun _ h4 => hin h4.1, fun _ => rfl⟩
        · refine hF (hbad (fun h4 => ?_)) _
          rcases h4 with h4 | h4
          · omega
          · exact hb.1 h3 h4.2
        · have hok : c ∈ rowL l i ∧ ∀ k : Nat, k < i → m[k]? ≠ some c := by
            by_cases h4 : c ∈ rowL l i ∧ ∀ k : Nat, k < i → m[k]? ≠ some c
            · exact h4
            · rw [hb.2 h4] at h3; cases h3
          refine ⟨?_, hnext (.inr ⟨by omega, hok⟩)⟩
          rw [hszs, if_pos (by omega), g1, w64_eq (by omega) (by omega)]; simp
    · rw [List.take_length] at hI
      exact ⟨⟨hlen, fun i c hc => hI.2 i c (List.getElem?_eq_some_iff.1 hc).1 hc⟩, hI.1⟩
/-! ## the examples -/
def e34a : List (List Int) := [[5, 9], [5]]
def e34b : List (List Int) := [[5, 9], [5], [9]]
def e34c : List (List Int) := [[5], [], [5]]
theorem few_lit {l : List (List Int)} (h : (decide (l.length ≤ 12) && l.all fun r => decide (r.length ≤ 10) && r.all fun c => decide (0 ≤ c) && decide (c ≤ 63)) = true) : FewL l := by
  simp only [Bool.and_eq_true, decide_eq_true_eq, List.all_eq_true] at h
  exact ⟨h.1, fun r hr => (h.2 r hr).1, fun r hr c hc => (h.2 r hr).2 c hc⟩
theorem e34b_tr : TR e34b [[5, -1, 9], [-1, 5, -1]] :=
  .turn (w := 2) (mrB_ok (by decide)) (matB_iff.1 (by decide)) (by decide) (by decide) (.turn (w := 1) (mrB_ok (by decide)) (matB_iff.1 (by decide)) (by decide) (by decide) (.stop (m := [-1, -1, -1]) (mrB_ok (by decide))))
theorem e34c_tr : TR e34c [[5, -1, -1], [-1, -1, 5]] :=
  .turn (w := 1) (mrB_ok (by decide)) (matB_iff.1 (by decide)) (by decide) (by decide) (.turn (w := 1) (mrB_ok (by decide)) (matB_iff.1 (by decide)) (by decide) (by decide) (.stop (m := [-1, -1, -1]) (mrB_ok (by decide))))
theorem S_law34_small {post : Bool → Prop} (hp : post true) : V_taquinlaw34_small post := by
  have same : ∀ {a : List Int} {q : Bool → Prop}, a.length ≤ 10 → q true → V_taquinref07_Same a a q := fun {a q} ha hq => S_ref07_SameL (by unfold maxLen; omega) hq
  unfold V_taquinlaw34_small
  refine S_dock_Match (l := e34a) (few_lit (by decide)) (fun w m hM _ _ _ => ?_)
  have em : m = [9, 5] := hM.uniq (mrB_ok (w := 2) (by decide))
  subst em
  refine S_dock_Match (l := e34b) (few_lit (by decide)) (fun w m hM _ _ _ => ?_)
  have em : m = [5, -1, 9] := hM.uniq (mrB_ok (w := 2) (by decide))
  subst em
  refine S_dock_Turns (l := e34b) (few_lit (by decide)) (fun o1 h1 => ?_)
  have eo := h1.uniq e34b_tr
  subst eo
  refine S_dock_Turns (l := e34c) (few_lit (by decide)) (fun o2 h2 => ?_)
  have eo := h2.uniq e34c_tr
  subst eo
  refine Jn.mk (fun b => b = false) (Ite.f rfl rfl) (fun b hb => Ite.f hb (Jn.mk (fun b => b = true) ?_ (fun b hb => by rw [hb]; exact hp)))
  refine same (by decide) (Ite.t rfl (same (by decide) (Ite.t rfl ⟨_, rfl, same (by decide) (Ite.t rfl ⟨_, rfl, by decide, same (by decide) (Ite.t rfl ⟨_, rfl, same (by decide) (Ite.t rfl ⟨_, rfl, by decide, same (by decide) rfl⟩)⟩)⟩)⟩)))
end Go.Taq

/- The mathematics, part DG: DockTurns (chapter 34). -/
set_option linter.unusedVariables false
set_option linter.unusedSimpArgs false
namespace Go.Taq
open Go

section
variable {l : List (List Int)} {out : List (List Int)}
theorem TR.mats (h : TR l out) : ∀ m, m ∈ out → Mat l m ∧ 0 < szM m := by
  induction h with
  | stop h => intro m hm; cases hm
  | turn h hm hs hw ht ih =>
    intro m' hm'
    rcases List.mem_cons.1 hm' with e | h'
    · subst e; exact ⟨hm, by omega⟩
    · exact ⟨(ih m' h').1.off, (ih m' h').2⟩
theorem TR.first (h : TR l out) {m : List Int} (hm : out[0]? = some m) : ∃ w, MR l w m := by
  cases h with
  | stop h => cases hm
  | turn h _ _ _ _ => cases hm; exact ⟨_, h⟩
/-- no turn is greater than the one before -/
theorem TR.desc (h : TR l out) : ∀ (i : Nat) a b, out[i]? = some a → out[i + 1]? = some b → szM b ≤ szM a := by
  induction h with
  | stop h => intro i a b ha; cases ha
  | turn h hm hs hw ht ih =>
    rename_i l w m out
    intro i a b ha hb
    match i with
    | 0 =>
      cases ha
      simp only [Nat.zero_add, List.getElem?_cons_succ] at hb
      have := (ht.mats b (List.mem_of_getElem? hb)).1.off
      have := h.most.le b this take_nil_eq
      omega
    | i + 1 => exact ih i a b (by simpa using ha) (by simpa using hb)
/-- each robot whose list is not empty has one turn -/
theorem TR.count (hl : FewL l) (h : TR l out) {i : Nat} (hi : i < l.length) : out.countP (fun m => decide (0 ≤ m.getD i (-1))) = if rowL l i = [] then 0 else 1 := by
  induction h with
  | stop h => rw [h.empty hl hi, if_pos rfl]; rfl
  | turn h hm hs hw ht ih =>
    rename_i l w m out
    rw [List.countP_cons, ih (offL_few hl) (by rw [offL_len]; exact hi), offL_row _ (by omega), Int.toNat_natCast]
    by_cases h0 : 0 ≤ m.getD i (-1)
    · rw [if_pos h0, if_pos rfl, if_pos (decide_eq_true h0), if_neg]
      intro e
      have hmi := getD_neg (m := m) (i := i) (by rw [hm.len]; exact hi)
      rcases hm.ok i _ hmi with e2 | ⟨_, e2, _⟩
      · omega
      · rw [e] at e2; cases e2
    · have hd : decide (0 ≤ m.getD i (-1)) = false := decide_eq_false h0
      rw [if_neg h0, hd]; simp
end
theorem Said_taquinlaw34_DockTurns (l : List (List Int)) (kl : (OkL (OkL I64)) l) : V_taquinlaw34_DockTurns l (fun y => y = true) := by
  unfold V_taquinlaw34_DockTurns
  refine S_law34_small (S_ref34_Few (Ite.t rfl rfl) (fun hl => Ite.f rfl (S_dock_Turns hl (fun out hO => ⟨⟨by omega, by have := hl.len; omega⟩, ?_⟩))))
  have hln := hl.len
  have hol : out.length ≤ 12 := by
    -- each turn has a robot of its own
    have key : ∀ {l out}, TR l out → FewL l → out.length ≤ neL l := fun {l out} h => by
      induction h with
      | stop h => intro _; simp
      | turn h hm hs hw ht ih =>
        intro hl
        have := ih (offL_few hl)
        have := neL_lt hl hm (by omega)
        simp only [List.length_cons]; omega
    have := key hO hl
    have := neL_le (l := l); omega
  refine Jn.mk (fun g : List Int => g.length = l.length ∧ ∀ i, i < l.length → g.getD i 0 = if rowL l i = [] then 0 else 1) (Loop.mk (fun t : List (List Int) × List Int × Int × Int => ∃ i : Nat, t.1 = out ∧ t.2.2.2 = (i : Int) ∧ i ≤ out.length ∧ t.2.1.length = l.length ∧ (∀ j, j < l.length → t.2.1.getD j 0 = (((out.take i).countP (fun m => decide (0 ≤ m.getD j (-1))) : Nat) : Int)) ∧ (∀ m, out[i]? = some m → (szM m : Int) ≤ t.2.2.1)) (fun t => out.length - t.2.2.2.toNat) ⟨0, rfl, rfl, by omega, by simp, fun j hj => ?_, fun m hm => ?_⟩ ?_) (fun g hg => ?_)
  · simp only [List.take_zero, List.countP_nil]
    rw [List.getD_eq_getElem?_getD, List.getElem?_replicate]
    split <;> rfl
  · have hM := (hO.mats m (List.mem_of_getElem? hm)).1
    have := List.countP_le_length (p := fun c : Int => decide (0 ≤ c)) (l := m)
    show ((szM m : Nat) : Int) ≤ (l.length : Int)
    rw [← hM.len]; unfold szM; omega
  · rintro ⟨o, g, last, ii⟩ ⟨i, e0, e, hi, hgl, hg, hlast⟩
    simp only at e0 e hgl hg hlast
    subst e0; subst e
    refine Ite.mk (fun hlt => ?_) (fun hnlt => ?_)
    · have hlt' : i < o.length := by have h : (i : Int) < o.length := of_decide_eq_true hlt; omega
      have hm := List.getElem?_eq_getElem hlt'
      generalize o[i] = m at hm
      obtain ⟨hM, hpos⟩ := hO.mats m (List.mem_of_getElem? hm)
      have ew : w64 ((i : Int) + 1) = ((i + 1 : Nat) : Int) := by rw [w64_eq (by omega) (by omega)]; simp
      have hml : m.length = l.length := hM.len
      have hsm : szM m ≤ 12 := by
        have := List.countP_le_length (p := fun c : Int => decide (0 ≤ c)) (l := m)
        unfold szM; omega
      refine Jn.mk' ⟨m, idx_of rfl hm, S_law34_matches hl (by omega) (fun _ => ?_) (fun h => absurd hM h)⟩
      refine Jn.mk (fun b => b = false) (Ite.t rfl (Ite.f (by show decide ((szM m : Int) < 1) = false; simp; omega) (Ite.f (by show decide ((szM m : Int) > last) = false; have := hlast m hm; simp; omega) (Ite.mk (fun h0 => ?_) (fun h0 => rfl))))) (fun b hb => Ite.f hb ?_)
      · have hi0 : i = 0 := by have h : (i : Int) = 0 := by simpa using h0
                               omega
        subst hi0
        obtain ⟨w, hMR⟩ := hO.first hm
        refine S_dock_Match hl (fun w' m' hM' _ _ _ => ?_)
        have := hMR.uniq hM'
        subst this
        exact S_ref07_SameL (by unfold maxLen; omega) rfl
      · have hset : ((o.set (Int.toNat (i : Int)) m).set (Int.toNat (i : Int)) m) = o := by
          have h1 : o.set i m = o := by
            refine List.ext_getElem? fun j => ?_
            rw [List.getElem?_set]
            by_cases e : i = j
            · subst e; rw [if_pos rfl, if_pos hlt', hm]
            · rw [if_neg e]
          rw [Int.toNat_natCast, h1, h1]
        show Jn _ _
        simp only
        rw [hset]
        refine Jn.mk (fun t => t.1 = o ∧ t.2.length = l.length ∧ ∀ j, j < l.length → t.2.getD j 0 = (((o.take (i + 1)).countP (fun m => decide (0 ≤ m.getD j (-1))) : Nat) : Int)) (V_upto l.length (fun t : List (List Int) × List Int × Int => t.2.2) (fun k t => t.1 = o ∧ t.2.1.length = l.length ∧ ∀ j, j < l.length → t.2.1.getD j 0 = (((o.take (if j < k then i + 1 else i)).countP (fun m => decide (0 ≤ m.getD j (-1))) : Nat) : Int)) (by unfold maxLen; omega) rfl ⟨rfl, hgl, fun j hj => by rw [if_neg (by omega)]; exact hg j hj⟩ (fun k t hk ht hI => ?_) (fun t hI => ⟨hI.1, hI.2.1, fun j hj => by have := hI.2.2 j hj; rw [if_pos hj] at this; exact this⟩)) (fun t ht => ?_)
        · obtain ⟨q1, q2, q3⟩ := hI
          obtain ⟨o', g', kk⟩ := t
          simp only at ht q1 q2 q3 ⊢
          subst ht; subst q1
          have hmk := getD_neg (m := m) (i := k) (by omega)
          have hcnt : ∀ j, (o'.take (i + 1)).countP (fun m => decide (0 ≤ m.getD j (-1))) = (o'.take i).countP (fun m => decide (0 ≤ m.getD j (-1))) + if 0 ≤ m.getD j (-1) then 1 else 0 := fun j => by
            rw [take_succ hm, List.countP_append]; simp
          have hcl : ∀ j, (o'.take i).countP (fun m => decide (0 ≤ m.getD j (-1))) ≤ i := fun j => by
            have := List.countP_le_length (p := fun m : List Int => decide (0 ≤ m.getD j (-1))) (l := o'.take i)
            rw [List.length_take] at this; omega
          refine ⟨m, idx_of rfl hm, _, idx_of rfl hmk, Jn.mk (fun g2 : List Int => g2.length = l.length ∧ ∀ j, j < l.length → g2.getD j 0 = (((o'.take (if j < k + 1 then i + 1 else i)).countP (fun m => decide (0 ≤ m.getD j (-1))) : Nat) : Int)) (Ite.mk (fun h0 => ?_) (fun h0 => ?_)) (fun g2 hg2 => ⟨rfl, ?_, hg2⟩)⟩
          · have h0' : 0 ≤ m.getD k (-1) := of_decide_eq_true h0
            have hgk : g'[k]? = some (g'.getD k 0) := by rw [List.getD_eq_getElem?_getD, List.getElem?_eq_getElem (by omega)]; rfl
            have hgv := q3 k hk
            rw [if_neg (by omega)] at hgv
            have hb := hcl k
            refine ⟨_, idx_of rfl hgk, by rw [List.length_set]; exact q2, fun j hj => ?_⟩
            rw [List.getD_eq_getElem?_getD, Int.toNat_natCast, List.getElem?_set]
            by_cases e : k = j
            · subst e
              rw [if_pos rfl, if_pos (by omega), if_pos (by omega), hcnt, if_pos h0', hgv]
              show w64 _ = _
              rw [w64_eq (by omega) (by omega)]; simp
            · rw [if_neg e, ← List.getD_eq_getElem?_getD, q3 j hj]
              by_cases hjk : j < k
              · rw [if_pos hjk, if_pos (by omega)]
              · rw [if_neg hjk, if_neg (by omega)]
          · have h0' : ¬ 0 ≤ m.getD k (-1) := of_decide_eq_false h0
            refine ⟨q2, fun j hj => ?_⟩
            rw [q3 j hj]
            by_cases e : j = k
            · subst e; rw [if_neg (by omega), if_pos (by omega), hcnt, if_neg h0']; rfl
            · by_cases hjk : j < k
              · rw [if_pos hjk, if_pos (by omega)]
              · rw [if_neg hjk, if_neg (by omega)]
          · show o'.set (Int.toNat (i : Int)) m = o'
            refine List.ext_getElem? fun j => ?_
            rw [Int.toNat_natCast, List.getElem?_set]
            by_cases e : i = j
            · subst e; rw [if_pos rfl, if_pos hlt', hm]
            · rw [if_neg e]
        · refine ⟨⟨i + 1, ht.1, ew, by omega, ht.2.1, ht.2.2, fun m' hm' => ?_⟩, by show o.length - (w64 ((i : Int) + 1)).toNat < o.length - ((i : Int)).toNat; rw [ew]; omega⟩
          have := hO.desc i m m' hm hm'
          show (szM m' : Int) ≤ (szM m : Int)
          omega
    · have hie : i = o.length := by have h : ¬ (i : Int) < o.length := of_decide_eq_false hnlt; omega
      subst hie
      rw [List.take_length] at hg
      refine ⟨hgl, fun j hj => ?_⟩
      rw [hg j hj, hO.count hl hj]
      split <;> rfl
  · obtain ⟨g1, g2⟩ := hg
    refine Jn.mk (fun _ => True) (V_loopj (xs := l) (by unfold maxLen; omega) (fun t : Int => t) (fun i t => True) rfl trivial (fun i r t hr ht _ => ?_) (fun t _ => trivial)) (fun _ _ => rfl)
    have hi := (List.getElem?_eq_some_iff.1 hr).1
    have er : rowL l (i : Int) = r := by rw [row_nat, List.getD_eq_getElem?_getD, hr]; rfl
    have hgi : g[i]? = some (g.getD i 0) := by rw [List.getD_eq_getElem?_getD, List.getElem?_eq_getElem (by omega)]; rfl
    have hv := g2 i hi
    rw [er] at hv
    rw [ht]
    refine ⟨_, idx_of rfl hgi, r, idx_of rfl hr, Ite.f ?_ ⟨rfl, trivial⟩⟩
    have : g.getD i 0 = imin (r.length : Int) 1 := by
      rw [hv]
      cases r with
      | nil => rfl
      | cons c r =>
        rw [if_neg (by simp)]
        unfold imin
        simp only [List.length_cons]
        split <;> omega
    rw [this]; simp
end Go.Taq
