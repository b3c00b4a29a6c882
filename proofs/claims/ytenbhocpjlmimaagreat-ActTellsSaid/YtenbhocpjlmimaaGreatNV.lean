/- The mathematics, several parts in one text. -/
import Derived.Test.YtenbhocpjlmimaaGreatND
import Derived.Test.YtenbhocpjlmimaaGreatQA
/- The mathematics, part NE: dropping; the rules' statements: bounds, examples. -/
set_option linter.unusedVariables false
set_option linter.unusedSimpArgs false
namespace Go.Taq
open Go

def dHit (st : ApiState) (shelf c : Int) (i : Nat) : Bool := !((i : Int) == shelf) && !carB st i && (st.Shelves.getD i 0 == c)
def dAp (s : ApiSite) (st : ApiState) (shelf c : Int) (i : Nat) : Bool := !((i : Int) == shelf) && !carB st i && nearB s.Floor (st.Shelves.getD i 0) c && nev s (clsS s shelf) (clsS s i)
def dropS (s : ApiSite) (st : ApiState) (shelf c : Int) : Int :=
  if shelf < 0 ∨ shelf ≥ st.Shelves.length then 4 else if stB s c = false then 13 else if (List.range st.Shelves.length).any (dHit st shelf c) = true then 13 else if (List.range st.Shelves.length).any (dAp s st shelf c) = true then 17 else 0
theorem any_range_succ (p : Nat → Bool) (n : Nat) : (List.range (n + 1)).any p = ((List.range n).any p || p n) := by rw [List.range_succ, List.any_append]; simp
theorem any_range_mem {p : Nat → Bool} {n i : Nat} (hi : i < n) (hp : p i = true) : (List.range n).any p = true := List.any_eq_true.2 ⟨i, by simpa using hi, hp⟩
section
variable {s : ApiSite} {st : ApiState}
theorem getD_of {l : List Int} {n : Nat} {x : Int} (h : l[n]? = some x) : l.getD n 0 = x := by rw [List.getD_eq_getElem?_getD, h]; rfl
theorem S_rules_Drop (ks : OkApiSite s) (k : OkApiState st) (hf : RF s.Floor) (hl : st.Shelves.length ≤ 1000000) {shelf c : Int} {post : Int → Prop} (hp : post (dropS s st shelf c)) : V_rules_Drop s st shelf c post := by
  unfold V_rules_Drop
  refine Jor2 (Ite.mk (fun h => ?_) (fun h => S_rules_Stands (Ite.mk (fun h2 => ?_) (fun h2 => ?_))))
  · unfold dropS at hp; rw [if_pos (by simp at h; omega)] at hp; exact hp
  · unfold dropS at hp; rw [if_neg (by simp at h; omega), if_pos (by simpa using h2)] at hp; exact hp
  · unfold dropS at hp; rw [if_neg (by simp at h; omega), if_neg (by simp at h2; simp [h2])] at hp
    refine Jn.mk (fun e => (List.range st.Shelves.length).any (dHit st shelf c) = false ∧ e = if (List.range st.Shelves.length).any (dAp s st shelf c) = true then 17 else 0)
      (V_loopj (xs := st.Shelves) k.Shelves.1 (fun t : Int × Int => t.2) (fun n (t : Int × Int) => (List.range n).any (dHit st shelf c) = false ∧ t.1 = if (List.range n).any (dAp s st shelf c) = true then 17 else 0) rfl ⟨rfl, rfl⟩ (fun n x t hx ht hI => ?_) (fun t h => h)) (fun e he => by rw [he.1] at hp; rw [he.2]; exact hp)
    have hn := (List.getElem?_eq_some_iff.1 hx).1
    have hxg := getD_of hx
    rw [ht]
    refine Jn.mk (fun e => (List.range (n + 1)).any (dHit st shelf c) = false ∧ e = if (List.range (n + 1)).any (dAp s st shelf c) = true then 17 else 0) ⟨x, idx_of rfl hx, ?_⟩ (fun e he => ⟨rfl, he⟩)
    rw [any_range_succ, any_range_succ, hI.1, hI.2]
    refine Jn.mk (fun b => (b = true → dHit st shelf c n = false ∧ dAp s st shelf c n = false) ∧ (b = false → ((n : Int) == shelf) = false ∧ carB st n = false ∧ (x ≠ c → nearB s.Floor x c = true))) ?_ (fun b hb => Ite.mk (fun h3 => ?_) (fun h3 => ?_))
    · refine Ite.mk (fun h3 => ⟨fun _ => ⟨by unfold dHit; rw [h3]; rfl, by unfold dAp; rw [h3]; rfl⟩, fun h => by cases h⟩) (fun h3 => Ite.mk (fun h4 => S_floor_Near hf (Ite.mk (fun h5 => S_rules_Carried k ⟨fun h6 => ?_, fun h6 => ?_⟩) (fun h5 => ⟨fun _ => ⟨?_, ?_⟩, fun h => by cases h⟩))) (fun h4 => S_rules_Carried k ⟨fun h6 => ?_, fun h6 => ?_⟩))
      · have : carB st n = true := by unfold carB; simpa using h6
        exact ⟨by unfold dHit; rw [this]; simp, by unfold dAp; rw [this]; simp⟩
      · have : carB st n = false := by unfold carB; simpa using h6
        exact ⟨h3, this, fun _ => h5⟩
      · unfold dHit; rw [hxg]; simp at h4; simp [h4]
      · unfold dAp; rw [hxg, h5]; simp
      · have : carB st n = true := by unfold carB; simpa using h6
        exact ⟨by unfold dHit; rw [this]; simp, by unfold dAp; rw [this]; simp⟩
      · have : carB st n = false := by unfold carB; simpa using h6
        exact ⟨h3, this, fun h => absurd (by simpa using h4) h⟩
    · rw [(hb.1 h3).1, (hb.1 h3).2]; exact ⟨by simp, by simp⟩
    · obtain ⟨g1, g2, g3⟩ := hb.2 h3
      refine Ite.mk (fun h4 => ?_) (fun h4 => S_rules_Class (S_rules_Class (S_rules_Never ks ?_)))
      · have : dHit st shelf c n = true := by unfold dHit; rw [g1, g2, hxg, h4]; rfl
        rw [any_range_mem hn this] at hp; exact hp
      · have e1 : dHit st shelf c n = false := by unfold dHit; rw [hxg, h4]; simp
        have e2 : dAp s st shelf c n = nev s (clsS s shelf) (clsS s n) := by unfold dAp; rw [g1, g2, hxg, g3 (by simpa using h4)]; rfl
        rw [e1, e2]
        refine Jn.mk (fun e => e = if ((List.range n).any (dAp s st shelf c) || nev s (clsS s shelf) (clsS s n)) = true then 17 else 0) (Ite.mk (fun h5 => by rw [h5]; simp) (fun h5 => by rw [h5]; simp)) (fun e he => ⟨by simp, he⟩)
end

/-- a right small site, and a state with as many shelves, at cells -/
structure FitS (s : ApiSite) (st : ApiState) : Prop where
  r : RSite s
  few : FewS s 60 20
  rob : st.Robots.length ≤ 20
  len : st.Shelves.length = s.Shelves.length
  cell : ∀ c, c ∈ st.Shelves → isC s.Floor c = true
theorem FitS.sl {s : ApiSite} {st : ApiState} (h : FitS s st) : st.Shelves.length ≤ 20 := by have := h.few.shelves; have := h.len; omega
/-! ## the examples -/
theorem ok_ml {α : Type} {X : α → Prop} {xs : List α} (h1 : xs.length ≤ 1000) (h2 : ∀ x, x ∈ xs → X x) : OkL X xs := ⟨Nat.le_trans h1 (by decide), h2⟩
theorem i64_of {x : Int} (h : -1000000 ≤ x ∧ x ≤ 1000000) : I64 x := by constructor <;> omega
end Go.Taq

/- The mathematics, part NF: the rules' statements: examples, RulesApart. -/
set_option linter.unusedVariables false
set_option linter.unusedSimpArgs false
namespace Go.Taq
open Go

end Go.Taq

/- The mathematics, part NG: being near is symmetric; zones are apart; what changes where a shelf is put. -/
set_option linter.unusedVariables false
set_option linter.unusedSimpArgs false
namespace Go.Taq
open Go

section

end
theorem mem_getD {l : List Int} {i : Nat} (h : i < l.length) : l.getD i 0 ∈ l := by rw [List.getD_eq_getElem?_getD, List.getElem?_eq_getElem h]; exact List.getElem_mem h

end Go.Taq

/- The mathematics, part NV: zones in the reference. -/
set_option linter.unusedVariables false
namespace Go.Taq
open Go

/-- the search's step, its test first -/
theorem Jn_pull {α : Type} {xs : List α} {A : α → (Bool → Prop) → Prop} {B : Prop} {E : Int → α → Prop} (h : Jn (fun (J : Unit → Prop) => Loop (fun (s : Int) Y => Ite (decide (s < (xs.length : Int))) (∃ x, idx xs s = some x ∧ Jn (A x) (fun b => Ite b (E s x) (Y (w64 (s + 1))))) (J ())) 0) (fun _ => B)) (hE : ∀ s x y, E s x → E s y) {F : Int → Prop} (hF : ∀ s x, E s x → F s) :
    Jn (fun (J : Unit → Prop) => Loop (fun (s : Int) Y => Ite (decide (s < (xs.length : Int))) (Jn (fun J7 => ∃ x, idx xs s = some x ∧ A x J7) (fun b => Ite b (F s) (Y (w64 (s + 1))))) (J ())) 0) (fun _ => B) := by
  obtain ⟨J, hJ, hL⟩ := h
  refine ⟨J, hJ, fun X hX => hL X (fun s Y hb hY => hX s Y ?_ hY)⟩
  refine hb.cs (fun h1 h2 => Ite.t h1 ?_) (fun h1 h2 => Ite.f h1 h2)
  obtain ⟨x, hx, J', g1, g2⟩ := h2
  exact ⟨J', fun b hb => (g1 b hb).cs (fun h1 h2 => Ite.t h1 (hF _ _ h2)) (fun h1 h2 => Ite.f h1 h2), x, hx, g2⟩
theorem S_ref08_Has {r : List Int} (hl : r.length ≤ 1000000000) (ha : Asc r) {c : Int} {post : Bool → Prop} (hp : post (r.contains c)) : V_taquinref08_Has r c post := by
  unfold V_taquinref08_Has
  refine Jn.mk (fun i : Int => 0 ≤ i ∧ i ≤ r.length ∧ (∀ (j : Nat) x, (j : Int) < i → r[j]? = some x → x < c) ∧ (∀ (j : Nat) x, i ≤ (j : Int) → r[j]? = some x → c ≤ x))
    (Loop.mk (fun s : Int × Int => 0 ≤ s.1 ∧ s.1 ≤ s.2 ∧ s.2 ≤ r.length ∧ (∀ (j : Nat) x, (j : Int) < s.1 → r[j]? = some x → x < c) ∧ (∀ (j : Nat) x, s.2 ≤ (j : Int) → r[j]? = some x → c ≤ x)) (fun s => (s.2 - s.1).toNat) ⟨by simp, by simp, by simp, fun j x hj => absurd hj (by simp), fun j x hj hx => ?_⟩ ?_) ?_
  · have := (List.getElem?_eq_some_iff.1 hx).1
    simp at hj; omega
  · rintro ⟨i, j⟩ ⟨h0, h1, h2, h3, h4⟩
    simp only at h0 h1 h2 h3 h4
    refine Ite.mk (fun hlt => ?_) (fun hge => ?_)
    · simp only [decide_eq_true_eq] at hlt
      have e : w64 ((w64 (i + j)).tdiv 2) = (i + j) / 2 := by
        rw [w64_eq (x := i + j) (by omega) (by omega), Int.tdiv_eq_ediv_of_nonneg (by omega), w64_eq (by omega) (by omega)]
      simp only []
      rw [e]
      have hmid : i ≤ (i + j) / 2 ∧ (i + j) / 2 < j := by omega
      refine ⟨_, idx_get (by omega) (by omega), ?_⟩
      generalize hx : r[((i + j) / 2).toNat]'(by omega) = x
      have hx' : r[((i + j) / 2).toNat]? = some x := by rw [List.getElem?_eq_getElem (by omega), hx]
      refine Jn.mk' (Ite.mk (fun h5 => ?_) (fun h5 => ?_))
      · simp at h5
        rw [w64_eq (by omega) (by omega)]
        refine ⟨⟨by omega, by simp only []; omega, by simp only []; omega, fun q y hq hy => ?_, h4⟩, by simp only []; omega⟩
        rcases Nat.lt_or_ge q ((i + j) / 2).toNat with h6 | h6
        · exact Int.lt_trans (ha _ _ _ _ h6 hy hx') h5
        · have : q = ((i + j) / 2).toNat := by simp only [] at hq; omega
          subst this; rw [hx'] at hy; cases hy; exact h5
      · simp at h5
        refine ⟨⟨by omega, by simp only []; omega, by simp only []; omega, h3, fun q y hq hy => ?_⟩, by simp only []; omega⟩
        rcases Nat.lt_or_ge ((i + j) / 2).toNat q with h6 | h6
        · have := ha _ _ _ _ h6 hx' hy; omega
        · have : q = ((i + j) / 2).toNat := by simp only [] at hq; omega
          subst this; rw [hx'] at hy; cases hy; omega
    · simp only [decide_eq_false_iff_not] at hge
      have : i = j := by omega
      subst this
      exact ⟨h0, h2, h3, h4⟩
  · rintro i ⟨h0, h1, h3, h4⟩
    have hc : r.contains c = true ↔ ∃ j : Nat, r[j]? = some c := by
      rw [List.contains_iff_mem]; exact List.mem_iff_getElem?
    refine Ite.mk (fun h5 => ?_) (fun h5 => ?_)
    · simp at h5
      cases hcc : r.contains c
      · rw [hcc] at hp; exact hp
      · obtain ⟨j, hj⟩ := hc.1 hcc
        have := (List.getElem?_eq_some_iff.1 hj).1
        have := h3 j c (by omega) hj; omega
    · simp at h5
      have hlt : i < r.length := by omega
      refine ⟨_, idx_get h0 hlt, ?_⟩
      generalize hx : r[i.toNat]'(by omega) = x
      have hx' : r[i.toNat]? = some x := by rw [List.getElem?_eq_getElem (by omega), hx]
      have : (x == c) = r.contains c := by
        rw [Bool.eq_iff_iff, hc, beq_iff_eq]
        constructor
        · rintro rfl; exact ⟨_, hx'⟩
        · rintro ⟨j, hj⟩
          rcases Nat.lt_trichotomy j i.toNat with h6 | h6 | h6
          · have := h3 j c (by omega) hj; omega
          · subst h6; rw [hx'] at hj; cases hj; rfl
          · have := ha _ _ _ _ h6 hx' hj
            have := h4 i.toNat x (by omega) hx'
            omega
      rw [this]; exact hp

theorem zlen {s : ApiSite} (h : RSite s) {z : ApiZone} (hz : z ∈ s.Zones) : z.Cells.length ≤ s.Floor.Kind.length := by
  have ha := h.rs.asc z hz
  have hc := h.rs.zc z hz
  have key : ∀ (i : Nat) x, z.Cells[i]? = some x → (i : Int) ≤ x := by
    intro i
    induction i with
    | zero => intro x hx; have := isC_iff.1 (hc x (List.mem_of_getElem? hx)); omega
    | succ i ih =>
      intro x hx
      have hlt := (List.getElem?_eq_some_iff.1 hx).1
      have hy : z.Cells[i]? = some (z.Cells[i]'(by omega)) := List.getElem?_eq_getElem _
      have := ih _ hy
      have := ha i (i + 1) _ x (by omega) hy hx
      omega
  rcases Nat.eq_zero_or_pos z.Cells.length with e | e
  · omega
  · have hx : z.Cells[z.Cells.length - 1]? = some (z.Cells[z.Cells.length - 1]'(by omega)) := List.getElem?_eq_getElem _
    have h1 := key _ _ hx
    have h2 := isC_iff.1 (hc _ (List.mem_of_getElem? hx))
    omega
theorem S_ref12_ZoneOf {s : ApiSite} (k : OkApiSite s) (h : RSite s) {c : Int} {post : Int → Prop} (hp : post (zn s c)) : V_taquinref12_ZoneOf s c post := by
  unfold V_taquinref12_ZoneOf
  refine V_fidxc k.Zones.1 (fun z : ApiZone => z.Cells.contains c) (T := fun z post => V_taquinref08_Has z.Cells c post) (fun z hz post hq => ?_) hp
  have := zlen h hz; have := h.fl.len.1
  exact S_ref08_Has (by omega) (h.rs.asc z hz) hq
theorem S_ref12_Open {s : ApiSite} (k : OkApiSite s) (h : RSite s) {c t : Int} {post : Bool → Prop} (hp : post (opn s c t)) : V_taquinref12_Open s c t post := by
  unfold V_taquinref12_Open
  refine S_ref07_Is h.fl (Ite.mk (fun h1 => ?_) (fun h1 => S_ref12_ZoneOf k h (Ite.mk (fun h2 => ?_) (fun h2 => ⟨_, idx_zn (by simpa using h2), ?_⟩))))
  · simp at h1; unfold opn at hp; rw [h1] at hp; exact hp
  · simp at h1 h2; unfold opn at hp; simpa [h1, h2] using hp
  · simp at h1 h2; unfold opn at hp
    rw [h1, decide_eq_false (Int.not_lt.2 h2)] at hp
    exact Jn_pull (V_allc (post := post) (k.Zones.2 _ (mem_zn h2)).Shut.1 (inS t) (T := fun x13 post => Jn (fun (J12 : Bool → Prop) => Ite (decide (t ≥ x13.From)) (J12 (decide (t < x13.To))) (J12 false)) post) (fun x _ post hq => Jand2 hq) (by simpa using hp)) (fun _ _ _ h => h) (fun _ _ h => h)
theorem S_ref12_Speed {s : ApiSite} (k : OkApiSite s) (h : RSite s) {c : Int} {post : Int → Prop} (hp : post (spd s c)) : V_taquinref12_Speed s c post := by
  unfold V_taquinref12_Speed
  refine S_ref12_ZoneOf k h (Ite.mk (fun h1 => ?_) (fun h1 => ⟨_, idx_zn (by simpa using h1), ?_⟩))
  · simp at h1; rw [spd, if_pos h1] at hp; exact hp
  · simp at h1; rw [spd, if_neg (by omega)] at hp; exact hp
end Go.Taq
