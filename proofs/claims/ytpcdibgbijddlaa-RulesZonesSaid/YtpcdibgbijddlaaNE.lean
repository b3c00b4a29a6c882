/- The mathematics, part NE: dropping; the rules' statements: bounds, examples. -/
import Derived.Test.YtpcdibgbijddlaaNB
import Derived.Test.YtpcdibgbijddlaaND
set_option linter.unusedVariables false
set_option linter.unusedSimpArgs false
namespace Go.Taq
open Go

def dHit (st : ApiState) (shelf c : Int) (i : Nat) : Bool := !((i : Int) == shelf) && !carB st i && (st.Shelves.getD i 0 == c)
def dAp (s : ApiSite) (st : ApiState) (shelf c : Int) (i : Nat) : Bool := !((i : Int) == shelf) && !carB st i && nearB s.Floor (st.Shelves.getD i 0) c && nev s (clsS s shelf) (clsS s i)
def dropS (s : ApiSite) (st : ApiState) (shelf c : Int) : Int :=
  if shelf < 0 ∨ shelf ≥ st.Shelves.length then 4 else if stB s c = false then 13 else if (List.range st.Shelves.length).any (dHit st shelf c) = true then 13 else if (List.range st.Shelves.length).any (dAp s st shelf c) = true then 17 else 0
theorem any_range_succ (p : Nat → Bool) (n : Nat) : (List.range (n + 1)).any p = ((List.range n).any p || p n) := by rw [List.range_succ, List.any_append]; simp
theorem any_range_mem {p : Nat → Bool} {n i : Nat} (hi : i < n) (hp : p i = true) : (List.range n).any p = true := List.any_eq_true.2 ⟨i, by simpa using hi, hp⟩
section
variable {s : ApiSite} {st : ApiState}
theorem getD_of {l : List Int} {n : Nat} {x : Int} (h : l[n]? = some x) : l.getD n 0 = x := by rw [List.getD_eq_getElem?_getD, h]; rfl
theorem S_rules_Drop (ks : OkApiSite s) (k : OkApiState st) (hf : RF s.Floor) (hl : st.Shelves.length ≤ 1000000) {shelf c : Int} {post : Int → Prop} (hp : post (dropS s st shelf c)) : V_rules_Drop s st shelf c post := by
  unfold V_rules_Drop
  refine Jor2 (Ite.mk (fun h => ?_) (fun h => S_rules_Stands (Ite.mk (fun h2 => ?_) (fun h2 => ?_))))
  · unfold dropS at hp; rw [if_pos (by simp at h; omega)] at hp; exact hp
  · unfold dropS at hp; rw [if_neg (by simp at h; omega), if_pos (by simpa using h2)] at hp; exact hp
  · unfold dropS at hp; rw [if_neg (by simp at h; omega), if_neg (by simp at h2; simp [h2])] at hp
    refine Jn.mk (fun e => (List.range st.Shelves.length).any (dHit st shelf c) = false ∧ e = if (List.range st.Shelves.length).any (dAp s st shelf c) = true then 17 else 0)
      (V_loopj (xs := st.Shelves) k.Shelves.1 (fun t : Int × Int => t.2) (fun n (t : Int × Int) => (List.range n).any (dHit st shelf c) = false ∧ t.1 = if (List.range n).any (dAp s st shelf c) = true then 17 else 0) rfl ⟨rfl, rfl⟩ (fun n x t hx ht hI => ?_) (fun t h => h)) (fun e he => by rw [he.1] at hp; rw [he.2]; exact hp)
    have hn := (List.getElem?_eq_some_iff.1 hx).1
    have hxg := getD_of hx
    rw [ht]
    refine Jn.mk (fun e => (List.range (n + 1)).any (dHit st shelf c) = false ∧ e = if (List.range (n + 1)).any (dAp s st shelf c) = true then 17 else 0) ⟨x, idx_of rfl hx, ?_⟩ (fun e he => ⟨rfl, he⟩)
    rw [any_range_succ, any_range_succ, hI.1, hI.2]
    refine Jn.mk (fun b => (b = true → dHit st shelf c n = false ∧ dAp s st shelf c n = false) ∧ (b = false → ((n : Int) == shelf) = false ∧ carB st n = false ∧ (x ≠ c → nearB s.Floor x c = true))) ?_ (fun b hb => Ite.mk (fun h3 => ?_) (fun h3 => ?_))
    · refine Ite.mk (fun h3 => ⟨fun _ => ⟨by unfold dHit; rw [h3]; rfl, by unfold dAp; rw [h3]; rfl⟩, fun h => by cases h⟩) (fun h3 => Ite.mk (fun h4 => S_floor_Near hf (Ite.mk (fun h5 => S_rules_Carried k ⟨fun h6 => ?_, fun h6 => ?_⟩) (fun h5 => ⟨fun _ => ⟨?_, ?_⟩, fun h => by cases h⟩))) (fun h4 => S_rules_Carried k ⟨fun h6 => ?_, fun h6 => ?_⟩))
      · have : carB st n = true := by unfold carB; simpa using h6
        exact ⟨by unfold dHit; rw [this]; simp, by unfold dAp; rw [this]; simp⟩
      · have : carB st n = false := by unfold carB; simpa using h6
        exact ⟨h3, this, fun _ => h5⟩
      · unfold dHit; rw [hxg]; simp at h4; simp [h4]
      · unfold dAp; rw [hxg, h5]; simp
      · have : carB st n = true := by unfold carB; simpa using h6
        exact ⟨by unfold dHit; rw [this]; simp, by unfold dAp; rw [this]; simp⟩
      · have : carB st n = false := by unfold carB; simpa using h6
        exact ⟨h3, this, fun h => absurd (by simpa using h4) h⟩
    · rw [(hb.1 h3).1, (hb.1 h3).2]; exact ⟨by simp, by simp⟩
    · obtain ⟨g1, g2, g3⟩ := hb.2 h3
      refine Ite.mk (fun h4 => ?_) (fun h4 => S_rules_Class (S_rules_Class (S_rules_Never ks ?_)))
      · have : dHit st shelf c n = true := by unfold dHit; rw [g1, g2, hxg, h4]; rfl
        rw [any_range_mem hn this] at hp; exact hp
      · have e1 : dHit st shelf c n = false := by unfold dHit; rw [hxg, h4]; simp
        have e2 : dAp s st shelf c n = nev s (clsS s shelf) (clsS s n) := by unfold dAp; rw [g1, g2, hxg, g3 (by simpa using h4)]; rfl
        rw [e1, e2]
        refine Jn.mk (fun e => e = if ((List.range n).any (dAp s st shelf c) || nev s (clsS s shelf) (clsS s n)) = true then 17 else 0) (Ite.mk (fun h5 => by rw [h5]; simp) (fun h5 => by rw [h5]; simp)) (fun e he => ⟨by simp, he⟩)
end

/-- a right small site, and a state with as many shelves, at cells -/
structure FitS (s : ApiSite) (st : ApiState) : Prop where
  r : RSite s
  few : FewS s 60 20
  rob : st.Robots.length ≤ 20
  len : st.Shelves.length = s.Shelves.length
  cell : ∀ c, c ∈ st.Shelves → isC s.Floor c = true
theorem FitS.sl {s : ApiSite} {st : ApiState} (h : FitS s st) : st.Shelves.length ≤ 20 := by have := h.few.shelves; have := h.len; omega
theorem S_law12_fits {s : ApiSite} {st : ApiState} (ks : OkApiSite s) (k : OkApiState st) {post : Bool → Prop} (hF : post false) (hT : FitS s st → post true) : V_taquinlaw12_fits s st post := by
  unfold V_taquinlaw12_fits
  refine Jn.mk (fun b => b = false → FewS s 60 20 ∧ st.Robots.length ≤ 20 ∧ st.Shelves.length = s.Shelves.length ∧ RSite s) (S_ref11_Few ks (by omega) (Ite.f rfl (fun h => by cases h)) (fun hf => Ite.t rfl (Ite.mk (fun _ h => by cases h) (fun h1 => Ite.mk (fun _ h => by cases h) (fun h2 => S_survey_Right ks hf (by omega) (fun h => by cases h) (fun hr _ => ⟨hf, ?_, ?_, hr⟩)))))) (fun b hb => Ite.mk (fun _ => hF) (fun hb' => ?_))
  · simp at h1; omega
  · simp at h2; omega
  · obtain ⟨h1, h2, h3, h4⟩ := hb hb'
    refine Jn.mk (fun _ => ∀ c, c ∈ st.Shelves → isC s.Floor c = true) (V_loopc k.Shelves.1 (fun t => t) (fun n _ => ∀ (i : Nat) c, i < n → st.Shelves[i]? = some c → isC s.Floor c = true) rfl (fun i c h => by omega) (fun n c t hc ht hI => S_ref07_Is h4.fl (Ite.mk (fun _ => hF) (fun h5 => ⟨by rw [ht], fun i c' hi hc' => ?_⟩))) (fun t h c hc => ?_)) (fun _ h => hT ⟨h4, h1, h2, h3, h⟩)
    · by_cases e : i = n
      · subst e; rw [hc] at hc'; cases hc'; simpa using h5
      · exact hI i c' (by omega) hc'
    · obtain ⟨i, hi⟩ := List.getElem?_of_mem hc
      exact h i c (List.getElem?_eq_some_iff.1 hi).1 hi

/-! ## the examples -/
def e12F : ApiFloor := { W := 4, H := 1, D := 1, Kind := [1, 1, 1, 3], Out := [1, 5, 5, 4] }
def e12S : ApiSite := { Floor := e12F, Zones := [{ Name := ByteArray.mk #[122], Cells := [0, 1], Speed := 2, Keep := 1, Shut := [{ From := 5, To := 8 }] }], Aparts := [{ A := ByteArray.mk #[65], B := ByteArray.mk #[66] }], Shelves := [{ Cell := 0, Class := ByteArray.mk #[65] }, { Cell := 2, Class := ByteArray.mk #[66] }], Robots := [] }
def e12T : ApiState := { Tick := 0, Shelves := [0, 2], Robots := [], People := [], Dead := [], Stuck := [] }
theorem e12RF : RF e12F := by
  refine ⟨by decide, by decide, by decide, by decide, by decide, by decide, by decide, by decide, by decide, fun i x y hx hy => ?_⟩
  match i, hx, hy with
  | 0, hx, hy => simp [e12F] at hx hy; omega
  | 1, hx, hy => simp [e12F] at hx hy; omega
  | 2, hx, hy => simp [e12F] at hx hy; omega
  | 3, hx, hy => simp [e12F] at hx hy; omega
  | n + 4, hx, hy => simp [e12F] at hx
theorem ok_ml {α : Type} {X : α → Prop} {xs : List α} (h1 : xs.length ≤ 1000) (h2 : ∀ x, x ∈ xs → X x) : OkL X xs := ⟨Nat.le_trans h1 (by decide), h2⟩
theorem i64_of {x : Int} (h : -1000000 ≤ x ∧ x ≤ 1000000) : I64 x := by constructor <;> omega
theorem e12Ok : OkApiSite e12S where
  Floor := ⟨i64_of (by decide), i64_of (by decide), i64_of (by decide), ok_ml (by decide) (fun x hx => i64_of (by simp [e12S, e12F] at hx; omega)), ok_ml (by decide) (fun x hx => i64_of (by simp [e12S, e12F] at hx; omega))⟩
  Zones := ok_ml (by decide) (fun z hz => by
    simp only [e12S, List.mem_singleton] at hz; subst hz
    exact ⟨by unfold OkS; decide, ok_ml (by decide) (fun x hx => i64_of (by simp at hx; omega)), i64_of (by decide), i64_of (by decide), ok_ml (by decide) (fun x hx => by simp at hx; subst hx; exact ⟨i64_of (by decide), i64_of (by decide)⟩)⟩)
  Aparts := ok_ml (by decide) (fun x hx => by simp only [e12S, List.mem_singleton] at hx; subst hx; exact ⟨by unfold OkS; decide, by unfold OkS; decide⟩)
  Shelves := ok_ml (by decide) (fun x hx => by
    simp only [e12S, List.mem_cons, List.not_mem_nil, or_false] at hx
    rcases hx with rfl | rfl
    · exact ⟨i64_of (by decide), by unfold OkS; decide⟩
    · exact ⟨i64_of (by decide), by unfold OkS; decide⟩)
  Robots := ok_ml (by decide) (fun x hx => by simp [e12S] at hx)
theorem e12OkT : OkApiState e12T where
  Tick := i64_of (by decide)
  Shelves := ok_ml (by decide) (fun x hx => i64_of (by simp [e12T] at hx; omega))
  Robots := ok_ml (by decide) (fun x hx => by simp [e12T] at hx)
  People := ok_ml (by decide) (fun x hx => by simp [e12T] at hx)
  Dead := ok_ml (by decide) (fun x hx => by simp [e12T] at hx)
  Stuck := ok_ml (by decide) (fun x hx => by simp [e12T] at hx)
theorem e12RS : RS e12S where
  fl := e12RF
  asc := fun z hz => by
    simp only [e12S, List.mem_singleton] at hz; subst hz
    refine asc_of (fun i x y hx hy => ?_)
    match i, hx, hy with
    | 0, hx, hy => simp at hx hy; omega
    | n + 1, hx, hy => simp at hy
  zc := fun z hz c hc => by
    simp only [e12S, List.mem_singleton] at hz; subst hz
    simp at hc; rcases hc with rfl | rfl <;> decide
  sp := fun z hz => by
    simp only [e12S, List.mem_singleton] at hz; subst hz
    decide
theorem seq_dec (x y : ByteArray) : seq x y = decide (x = y) := by rw [Bool.eq_iff_iff, seq_eq, decide_eq_true_eq]
theorem e12nev (a b : ByteArray) : nev e12S a b = (!decide (a = ByteArray.empty) && !decide (b = ByteArray.empty) && ((decide (ByteArray.mk #[65] = a) && decide (ByteArray.mk #[66] = b)) || (decide (ByteArray.mk #[65] = b) && decide (ByteArray.mk #[66] = a)))) := by
  unfold nev apB nosh
  simp [e12S, seq_dec]
end Go.Taq
