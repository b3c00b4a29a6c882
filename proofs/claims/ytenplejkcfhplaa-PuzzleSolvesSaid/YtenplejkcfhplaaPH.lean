/- The mathematics of layouts, part H: the possible shifts, in the reference and in the layer. -/
import Derived.Test.YtenplejkcfhplaaPG
set_option linter.unusedVariables false
set_option linter.unusedSimpArgs false
namespace Go.Taq
open Go
/-- one gets from a cell to another one -/
def getsB (f : ApiFloor) (a b : Int) : Bool := (List.range 6).any fun d => decide (nx f a (d : Int) = (b, true))
theorem getsB_iff {f : ApiFloor} {a b : Int} : getsB f a b = true ↔ ∃ d : Nat, d < 6 ∧ nx f a (d : Int) = (b, true) := by
  simp only [getsB, List.any_eq_true, List.mem_range, decide_eq_true_eq]
/-- a shift is possible (or may have led here) -/
def btP (f : ApiFloor) (r : List Int) (l : ApiLayout) (full : Bool) (i j : Nat) : Bool := decide (l.Full[i]? = some full) && (decide (l.Full[j]? = some (!full)) && getsB f (r.getD i 0) (r.getD j 0))
def btR (f : ApiFloor) (r : List Int) (l : ApiLayout) (full : Bool) (i m : Nat) : List ApiShift := ((List.range m).filter (btP f r l full i)).map fun j => { From := (i : Int), To := ((j : Nat) : Int) }
/-- all shifts between cells with a shelf, or without one, and others -/
def btw (f : ApiFloor) (r : List Int) (l : ApiLayout) (full : Bool) : List ApiShift := (List.range l.Full.length).flatMap fun i => btR f r l full i l.Full.length
section
variable {f : ApiFloor} {r : List Int} {l : ApiLayout} {full : Bool}
theorem btR_succ {i m : Nat} : btR f r l full i (m + 1) = btR f r l full i m ++ (if btP f r l full i m = true then [{ From := (i : Int), To := (m : Int) }] else []) := by
  unfold btR
  rw [List.range_succ, List.filter_append, List.map_append]
  congr 1
  by_cases h : btP f r l full i m = true
  · rw [if_pos h, List.filter_cons_of_pos h]; rfl
  · rw [if_neg h, List.filter_cons_of_neg h]; rfl
theorem btR_len {i m : Nat} : (btR f r l full i m).length ≤ m := by
  unfold btR; rw [List.length_map]; exact Nat.le_trans (List.length_filter_le _ _) (by simp)
theorem mem_btR {i m : Nat} {s : ApiShift} : s ∈ btR f r l full i m ↔ ∃ j : Nat, j < m ∧ s = { From := (i : Int), To := (j : Int) } ∧ btP f r l full i j = true := by
  unfold btR
  simp only [List.mem_map, List.mem_filter, List.mem_range]
  constructor
  · rintro ⟨j, ⟨h1, h2⟩, rfl⟩; exact ⟨j, h1, rfl, h2⟩
  · rintro ⟨j, h1, rfl, h2⟩; exact ⟨j, ⟨h1, h2⟩, rfl⟩
theorem mem_btw {s : ApiShift} : s ∈ btw f r l full ↔ ∃ i j : Nat, i < l.Full.length ∧ j < l.Full.length ∧ s = { From := (i : Int), To := (j : Int) } ∧ btP f r l full i j = true := by
  unfold btw
  simp only [List.mem_flatMap, List.mem_range, mem_btR]
  constructor
  · rintro ⟨i, h1, j, h2, h3, h4⟩; exact ⟨i, j, h1, h2, h3, h4⟩
  · rintro ⟨i, j, h1, h2, h3, h4⟩; exact ⟨i, h1, j, h2, h3, h4⟩
/-- the order of shifts -/
def shLt (a b : ApiShift) : Prop := a.From < b.From ∨ a.From = b.From ∧ a.To < b.To
theorem btR_lt {i : Nat} : ∀ m, (btR f r l full i m).Pairwise shLt
  | 0 => by simp [btR]
  | m + 1 => by
    rw [btR_succ, List.pairwise_append]
    refine ⟨btR_lt m, by split <;> simp, fun a ha b hb => ?_⟩
    obtain ⟨j, hj, rfl, _⟩ := mem_btR.1 ha
    split at hb
    · simp at hb; subst hb; exact .inr ⟨rfl, by show (j : Int) < m; omega⟩
    · simp at hb
theorem btw_lt : (btw f r l full).Pairwise shLt := by
  unfold btw
  generalize l.Full.length = n
  have key : ∀ k, ((List.range k).flatMap fun i => btR f r l full i n).Pairwise shLt := by
    intro k
    induction k with
    | zero => simp
    | succ k ih =>
      rw [List.range_succ, List.flatMap_append, List.pairwise_append]
      refine ⟨ih, by simpa using btR_lt n, fun a ha b hb => ?_⟩
      simp only [List.mem_flatMap, List.mem_range] at ha
      obtain ⟨i, hi, ha⟩ := ha
      simp only [List.flatMap_cons, List.flatMap_nil, List.append_nil] at hb
      obtain ⟨j, _, rfl, _⟩ := mem_btR.1 ha
      obtain ⟨j', _, rfl, _⟩ := mem_btR.1 hb
      exact .inl (by show (i : Int) < k; omega)
  exact key n
/-- a comparison of shifts -/
def cfS (a b : ApiShift) : Int := if a.From = b.From then a.To - b.To else a.From - b.From
def pS (s : ApiShift) : Prop := 0 ≤ s.From ∧ s.From ≤ 1000 ∧ 0 ≤ s.To ∧ s.To ≤ 1000
theorem swoS : SWOc fun x y : Subtype pS => cfS x.1 y.1 := by
  refine ⟨fun x => ?_, fun x y z => ?_, fun x y z => ?_⟩
  · simp [cfS]
  · simp only [cfS]; repeat' split
    all_goals omega
  · simp only [cfS]; repeat' split
    all_goals omega
theorem cfS_le {x y : ApiShift} : ¬ cfS y x < 0 ↔ (shLt x y ∨ x = y) := by
  cases x; cases y
  simp only [cfS, shLt, ApiShift.mk.injEq]
  split <;> omega
theorem S_shifts (h : RF f) (hr : r.length = l.Full.length) (hl : l.Full.length ≤ 24) (ha : Asc r) {post : List ApiShift → Prop} (hp : post (btw f r l full)) : V_layout_shifts f r l full post := by
  unfold V_layout_shifts
  have hrm : r.length ≤ maxLen := by rw [hr]; simp [maxLen]; omega
  have Inj : ∀ {i j : Nat} {x : Int}, r[i]? = some x → r[j]? = some x → i = j := fun {i j x} h1 h2 => by
    rcases Nat.lt_trichotomy i j with h | h | h
    · have := ha _ _ _ _ h h1 h2; omega
    · exact h
    · have := ha _ _ _ _ h h2 h1; omega
  refine Jn.mk (fun o => o.length ≤ 1000 ∧ ∀ s, s ∈ o ↔ s ∈ btw f r l full)
    (Loop.inv r.length (fun i (s : List ApiShift × Int) => s.2 = (i : Int) ∧ s.1.length ≤ i * 6 ∧ ∀ t, t ∈ s.1 ↔ ∃ a b : Nat, a < i ∧ b < l.Full.length ∧ t = { From := (a : Int), To := (b : Int) } ∧ btP f r l full a b = true) ⟨rfl, by simp, fun t => by simp⟩ (fun i s hi hI => ?_) (fun s hI => ?_)) (fun o hO => ?_)
  · obtain ⟨o, q⟩ := s
    obtain ⟨rfl, hol, ho⟩ := hI
    replace hol : o.length ≤ i * 6 := hol
    have hx : l.Full[i]? = some (l.Full[i]'(by omega)) := List.getElem?_eq_getElem (by omega)
    have hri : r[i]? = some (r[i]'(by omega)) := List.getElem?_eq_getElem (by omega)
    have hrD : r.getD i 0 = r[i]'(by omega) := by rw [List.getD_eq_getElem?_getD, hri]; rfl
    generalize r[i]'(by omega) = ri at hri hrD
    generalize l.Full[i]'(by omega) = b at hx
    refine Ite.lt (by show (i : Int) < _; omega) (Jn.mk (fun o => o.length ≤ (i + 1) * 6 ∧ ∀ t, t ∈ o ↔ ∃ a b : Nat, a < i + 1 ∧ b < l.Full.length ∧ t = { From := (a : Int), To := (b : Int) } ∧ btP f r l full a b = true) ⟨ri, idx_of rfl hri, b, idx_of rfl hx, Ite.mk (fun e => ?_) (fun e => ?_)⟩ (fun o e => ⟨w64_1 (by omega), e⟩))
    · have e' : b ≠ full := by simpa using e
      refine ⟨by show o.length ≤ _; omega, fun t => (ho t).trans ⟨?_, ?_⟩⟩
      · rintro ⟨a, c, h1, h2⟩; exact ⟨a, c, by omega, h2⟩
      · rintro ⟨a, c, h1, h2, h3, h4⟩
        refine ⟨a, c, ?_, h2, h3, h4⟩
        rcases Nat.lt_or_ge a i with h5 | h5
        · exact h5
        · have : a = i := by omega
          subst this
          unfold btP at h4; rw [hx] at h4; simp [e'] at h4
    · have e' : b = full := by simpa using e
      subst e'
      refine Jn.mk (fun o2 => o2.length ≤ (i + 1) * 6 ∧ ∀ t, t ∈ o2 ↔ ∃ a c : Nat, a < i + 1 ∧ c < l.Full.length ∧ t = { From := (a : Int), To := (c : Int) } ∧ btP f r l b a c = true)
        (Loop.inv 6 (fun d (s : List ApiShift × Int) => s.2 = (d : Int) ∧ s.1.length ≤ i * 6 + d ∧ ∀ t, t ∈ s.1 ↔ t ∈ o ∨ ∃ c : Nat, c < l.Full.length ∧ t = { From := (i : Int), To := (c : Int) } ∧ l.Full[c]? = some (!b) ∧ ∃ d' : Nat, d' < d ∧ nx f ri (d' : Int) = (r.getD c 0, true)) ⟨rfl, hol, fun t => by simp⟩ (fun d s hd hJ => ?_) (fun s hJ => ?_)) (fun o2 hO => hO)
      · obtain ⟨o2, q⟩ := s
        obtain ⟨rfl, hol2, ho2⟩ := hJ
        replace hol2 : o2.length ≤ i * 6 + d := hol2
        refine Ite.lt (by show (d : Int) < 6; omega) (Jn.mk (fun o3 => o3.length ≤ i * 6 + (d + 1) ∧ ∀ t, t ∈ o3 ↔ t ∈ o ∨ ∃ c : Nat, c < l.Full.length ∧ t = { From := (i : Int), To := (c : Int) } ∧ l.Full[c]? = some (!b) ∧ ∃ d' : Nat, d' < d + 1 ∧ nx f ri (d' : Int) = (r.getD c 0, true)) (S_floor_Next h ?_) (fun o3 e => ⟨w64_1 (by omega), e⟩))
        have stay : (∀ c : Nat, c < l.Full.length → l.Full[c]? = some (!b) → nx f ri (d : Int) = (r.getD c 0, true) → False) → o2.length ≤ i * 6 + (d + 1) ∧ ∀ t, t ∈ o2 ↔ t ∈ o ∨ ∃ c : Nat, c < l.Full.length ∧ t = { From := (i : Int), To := (c : Int) } ∧ l.Full[c]? = some (!b) ∧ ∃ d' : Nat, d' < d + 1 ∧ nx f ri (d' : Int) = (r.getD c 0, true) := fun hno => by
          refine ⟨by omega, fun t => (ho2 t).trans (or_congr Iff.rfl ⟨?_, ?_⟩)⟩
          · rintro ⟨c, h1, h2, h3, d', h4, h5⟩; exact ⟨c, h1, h2, h3, d', by omega, h5⟩
          · rintro ⟨c, h1, h2, h3, d', h4, h5⟩
            refine ⟨c, h1, h2, h3, d', ?_, h5⟩
            rcases Nat.lt_or_ge d' d with h6 | h6
            · exact h6
            · have : d' = d := by omega
              subst this; exact (hno c h1 h3 h5).elim
        generalize hq : nx f ri (d : Int) = q at stay ⊢
        obtain ⟨to, ok⟩ := q
        refine Ite.mk (fun e => ?_) (fun e => ?_)
        · have e' : ok = false := by simpa using e
          subst e'
          exact stay (fun c h1 h2 h3 => by simp at h3)
        · have e' : ok = true := by simpa using e
          subst e'
          refine S_slices_BinarySearch hrm ha (fun k hk => ?_)
          cases hc : r.contains to with
          | false =>
            have hno : ∀ c : Nat, c < l.Full.length → r.getD c 0 ≠ to := fun c h1 e => by
              have hm : to ∈ r := by
                have h2 : r[c]? = some (r[c]'(by omega)) := List.getElem?_eq_getElem (by omega)
                rw [List.getD_eq_getElem?_getD, h2] at e
                exact e ▸ List.mem_of_getElem? h2
              rw [List.contains_iff_mem.2 hm] at hc; cases hc
            refine Jn.eq false (Ite.f rfl rfl) (Jn.mk' (Ite.f rfl (stay (fun c h1 h2 h3 => hno c h1 (by simp at h3; exact h3.symm)))))
          | true =>
            obtain ⟨hk0, hkx⟩ := hk hc
            obtain ⟨kn, rfl⟩ : ∃ kn : Nat, k = (kn : Int) := ⟨k.toNat, by omega⟩
            rw [Int.toNat_natCast] at hkx
            have hkl : kn < l.Full.length := by have := (List.getElem?_eq_some_iff.1 hkx).1; omega
            have hkD : r.getD kn 0 = to := by rw [List.getD_eq_getElem?_getD, hkx]; rfl
            have hy : l.Full[kn]? = some (l.Full[kn]'hkl) := List.getElem?_eq_getElem hkl
            generalize l.Full[kn]'hkl = c at hy
            have only : ∀ c' : Nat, c' < l.Full.length → r.getD c' 0 = to → c' = kn := fun c' h1 e => by
              have h2 : r[c']? = some (r[c']'(by omega)) := List.getElem?_eq_getElem (by omega)
              rw [List.getD_eq_getElem?_getD, h2] at e
              exact Inj (h2.trans (congrArg some e)) hkx
            refine Jn.eq (!(c == b)) (Ite.t rfl ⟨c, idx_of rfl hy, rfl⟩) (Jn.mk' (Ite.mk (fun e => ⟨by simp only [List.length_cons, List.length_nil]; omega, ?_⟩) (fun e => stay (fun c' h1 h2 h3 => ?_))))
            · have e' : c = !b := by revert e; cases c <;> cases b <;> simp
              subst e'
              refine ⟨by show (o2 ++ [_]).length ≤ _; rw [List.length_append]; simp only [List.length_cons, List.length_nil]; omega, fun t => ?_⟩
              show t ∈ o2 ++ [_] ↔ _
              rw [List.mem_append, ho2 t]
              constructor
              · rintro ((h1 | ⟨c, h1, h2, h3, d', h4, h5⟩) | h1)
                · exact .inl h1
                · exact .inr ⟨c, h1, h2, h3, d', by omega, h5⟩
                · simp at h1; exact .inr ⟨kn, hkl, h1, hy, d, by omega, by rw [hkD]; exact hq⟩
              · rintro (h1 | ⟨c, h1, h2, h3, d', h4, h5⟩)
                · exact .inl (.inl h1)
                · rcases Nat.lt_or_ge d' d with h6 | h6
                  · exact .inl (.inr ⟨c, h1, h2, h3, d', h6, h5⟩)
                  · have : d' = d := by omega
                    subst this
                    rw [hq] at h5
                    have := only c h1 (by simp at h5; exact h5.symm)
                    subst this; exact .inr (by simp [h2])
            · have e' : c = b := by revert e; cases c <;> cases b <;> simp
              have := only c' h1 (by simp at h3; exact h3.symm)
              subst this; subst e'; rw [hy] at h2; cases c <;> simp at h2
      · obtain ⟨o2, q⟩ := s
        obtain ⟨rfl, hol2, ho2⟩ := hJ
        refine Ite.nlt (by show ¬ ((6 : Nat) : Int) < 6; omega) ⟨by show o2.length ≤ _; replace hol2 : o2.length ≤ i * 6 + 6 := hol2; omega, fun t => (ho2 t).trans ?_⟩
        rw [ho t]
        constructor
        · rintro (⟨a, c, h1, h2⟩ | ⟨c, h1, h2, h3, d', h4, h5⟩)
          · exact ⟨a, c, by omega, h2⟩
          · refine ⟨i, c, by omega, h1, h2, ?_⟩
            have : getsB f ri (r.getD c 0) = true := getsB_iff.2 ⟨d', h4, h5⟩
            unfold btP; rw [hx, h3, hrD, this]; simp
        · rintro ⟨a, c, h1, h2, h3, h4⟩
          rcases Nat.lt_or_ge a i with h5 | h5
          · exact .inl ⟨a, c, h5, h2, h3, h4⟩
          · have : a = i := by omega
            subst this
            unfold btP at h4
            simp only [Bool.and_eq_true, decide_eq_true_eq] at h4
            obtain ⟨_, h6, h7⟩ := h4
            rw [hrD] at h7
            obtain ⟨d', h8, h9⟩ := getsB_iff.1 h7
            exact .inr ⟨c, h2, h3, h6, d', h8, h9⟩
  · obtain ⟨o, q⟩ := s
    obtain ⟨rfl, hol, ho⟩ := hI
    refine Ite.nlt (by show ¬ (r.length : Int) < _; omega) ⟨by show o.length ≤ _; replace hol : o.length ≤ r.length * 6 := hol; omega, fun t => (ho t).trans ?_⟩
    rw [mem_btw]
    constructor
    · rintro ⟨a, c, h1, h2⟩; exact ⟨a, c, by omega, h2⟩
    · rintro ⟨a, c, h1, h2⟩; exact ⟨a, c, by omega, h2⟩
  · obtain ⟨hol, ho⟩ := hO
    refine ⟨pS, cfS, ?_, swoS, fun s hs => ?_, fun x y hx hy => ?_, by omega, fun ys hp1 hs => S_Compact (by rw [hp1.length_eq]; omega) ?_⟩
    · refine ⟨?_, ?_, ?_, ?_⟩ <;> decide
    · obtain ⟨a, c, h1, h2, rfl, _⟩ := mem_btw.1 ((ho s).1 hs)
      refine ⟨?_, ?_, ?_, ?_⟩ <;> simp <;> omega
    · unfold V_layout_shifts_1
      obtain ⟨a1, a2, a3, a4⟩ := hx
      obtain ⟨b1, b2, b3, b4⟩ := hy
      refine Ite.mk (fun e => ?_) (fun e => ?_)
      · have e' : x.From ≠ y.From := by simpa using e
        simp only [cfS, if_neg e']; exact w64_eq (by omega) (by omega)
      · have e' : x.From = y.From := by simpa using e
        simp only [cfS, if_pos e']; exact w64_eq (by omega) (by omega)
    · have hsort : ys.Pairwise (fun x y => shLt x y ∨ x = y) := hs.imp fun h => cfS_le.1 h
      have hlt : (cmI ys ys.length).Pairwise shLt := cmI_lt (fun x y z h1 h2 => by
        unfold shLt at *
        rcases h1 with h1 | h1
        · omega
        · subst h1; exact h2) hsort _ (Nat.le_refl _)
      have : cmI ys ys.length = btw f r l full := sorted_ext (lt := shLt) (fun x y h1 h2 => by unfold shLt at *; omega) hlt btw_lt (fun s => by
        rw [cmI_mem _ (Nat.le_refl _), List.take_length, hp1.mem_iff, ho s])
      rw [this]; exact hp
end
end Go.Taq
