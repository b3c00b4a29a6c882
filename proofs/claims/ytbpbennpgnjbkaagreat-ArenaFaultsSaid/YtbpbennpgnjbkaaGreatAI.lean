/- The mathematics, several parts in one text. -/
import Derived.Test.YtbpbennpgnjbkaaGreatQA
import Derived.Test.YtbpbennpgnjbkaaGreatVc
import Derived.IntWalk
import Derived.Test.YtbpbennpgnjbkaaGreatAF
/- The mathematics, part AR: slices.Repeat of one number. -/
set_option linter.unusedVariables false
set_option linter.unusedSimpArgs false
namespace Go.Taq
open Go

end Go.Taq

/- The mathematics, part AG: the examples of chapter 16; ArenaTells. -/
set_option linter.unusedVariables false
set_option linter.unusedSimpArgs false
namespace Go.Taq
open Go

def e16F : ApiFloor := { W := 6, H := 1, D := 1, Kind := [1, 1, 1, 1, 1, 3], Out := [1, 5, 5, 5, 5, 4] }
def e16S : ApiSite := { Floor := e16F, Zones := [], Aparts := [], Shelves := [], Robots := [{ Cell := 0, Charge := 100 }, { Cell := 2, Charge := 100 }] }
def e16T : ApiState := { Tick := 0, Shelves := [], Robots := [{ Cell := 0, Load := -1, Charge := 100, Rest := 0, Mute := 0, Dead := false }, { Cell := 2, Load := -1, Charge := 100, Rest := 0, Mute := 0, Dead := false }], People := [], Dead := [], Stuck := [] }
theorem e16RF : RF e16F := by
  refine ⟨by decide, by decide, by decide, by decide, by decide, by decide, by decide, by decide, by decide, fun i x y hx hy => ?_⟩
  match i, hx, hy with
  | 0, hx, hy => simp [e16F] at hx hy; omega
  | 1, hx, hy => simp [e16F] at hx hy; omega
  | 2, hx, hy => simp [e16F] at hx hy; omega
  | 3, hx, hy => simp [e16F] at hx hy; omega
  | 4, hx, hy => simp [e16F] at hx hy; omega
  | 5, hx, hy => simp [e16F] at hx hy; omega
  | n + 6, hx, hy => simp [e16F] at hx
theorem e16Ok : OkApiSite e16S where
  Floor := ⟨i64_of (by decide), i64_of (by decide), i64_of (by decide), ok_ml (by decide) (fun x hx => i64_of (by simp [e16S, e16F] at hx; omega)), ok_ml (by decide) (fun x hx => i64_of (by simp [e16S, e16F] at hx; omega))⟩
  Zones := ok_ml (by decide) (fun z hz => by simp [e16S] at hz)
  Aparts := ok_ml (by decide) (fun x hx => by simp [e16S] at hx)
  Shelves := ok_ml (by decide) (fun x hx => by simp [e16S] at hx)
  Robots := ok_ml (by decide) (fun x hx => by
    simp only [e16S, List.mem_cons, List.not_mem_nil, or_false] at hx
    rcases hx with rfl | rfl
    · exact ⟨i64_of (by decide), i64_of (by decide)⟩
    · exact ⟨i64_of (by decide), i64_of (by decide)⟩)
theorem e16RS : RS e16S := ⟨e16RF, fun z hz => by simp [e16S] at hz, fun z hz => by simp [e16S] at hz, fun z hz => by simp [e16S] at hz⟩
theorem e16R : RSt e16S e16T where
  tick := by decide
  sl := by decide
  rl := by decide
  pl := by decide
  rob := fun i r hr => by
    match i, hr with
    | 0, hr => simp [e16T] at hr; subst hr; exact ⟨by decide, by decide, by decide, by decide, by decide, by decide, fun h => by simp at h⟩
    | 1, hr => simp [e16T] at hr; subst hr; exact ⟨by decide, by decide, by decide, by decide, by decide, by decide, fun h => by simp at h⟩
    | n + 2, hr => simp [e16T] at hr
  shel := fun i c h => by simp [e16T] at h
  ppl := fun i c h => by simp [e16T] at h
  dead := fun i c h => by simp [e16T] at h
  deadA := fun i x y h => by simp [e16T] at h
  stuck := fun i x h => by simp [e16T] at h
  stuckA := fun i x y h => by simp [e16T] at h
  clash := by decide
theorem e16Z : SzN 12 e16T := ⟨by decide, by decide, by decide, by decide, by decide⟩
theorem S_law16_site {post : ApiSite → Prop} (hp : post e16S) : V_taquinlaw16_site post := by
  unfold V_taquinlaw16_site
  refine Jn.mk (fun t => t = ([1, 1, 1, 1, 1, 3], [1, 5, 5, 5, 5, 4])) (V_upto 6 (fun t : List Int × List Int × Int => t.2.2) (fun i t => t.1 = ([1, 1, 1, 1, 1, 3] : List Int).take i ∧ t.2.1 = ([1, 5, 5, 5, 5, 4] : List Int).take i) (by decide) rfl ⟨rfl, rfl⟩ (fun i t hi ht hI => ?_) (fun t h => by obtain ⟨h1, h2⟩ := h; show (t.1, t.2.1) = _; rw [h1, h2]; rfl)) (fun t ht => by subst ht; exact hp)
  obtain ⟨h1, h2⟩ := hI
  rw [ht]
  refine Jn.mk (fun x => x = if (i : Int) = 5 then 3 else 1) (Ite.mk (fun h => by rw [if_pos (by simpa using h)]) (fun h => by rw [if_neg (by simpa using h)])) (fun x hx => ?_)
  refine Jn.mk (fun y => y = if (i : Int) < 5 then 1 else 0) (Ite.mk (fun h => by rw [if_pos (by simpa using h)]) (fun h => by rw [if_neg (by simpa using h)])) (fun y hy => ?_)
  refine Jn.mk (fun z => z = if (i : Int) > 0 then y + 4 else y) (Ite.mk (fun h => by rw [if_pos (by simpa using h), w64_eq (by rw [hy]; split <;> omega) (by rw [hy]; split <;> omega)]) (fun h => by rw [if_neg (by simpa using h)])) (fun z hz => ?_)
  refine ⟨by rw [h1]; simp; omega, by rw [h2]; simp; omega, rfl, ?_⟩
  show t.1 ++ [x] = _ ∧ t.2.1 ++ [z] = _
  rw [h1, h2, hz, hy, hx]
  have : i = 0 ∨ i = 1 ∨ i = 2 ∨ i = 3 ∨ i = 4 ∨ i = 5 := by omega
  rcases this with rfl | rfl | rfl | rfl | rfl | rfl <;> decide
theorem S_body_First {s : ApiSite} (h1 : s.Shelves.length ≤ 1000000) (h2 : s.Robots.length ≤ 1000000) {post : ApiState → Prop}
    (hp : post { Tick := 0, Shelves := s.Shelves.map (·.Cell), Robots := s.Robots.map (fun x => { Cell := x.Cell, Load := -1, Charge := x.Charge, Rest := 0, Mute := 0, Dead := false }), People := [], Dead := [], Stuck := [] }) : V_body_First s post := by
  unfold V_body_First
  refine Jn.mk (fun l => l = s.Shelves.map (·.Cell)) (V_loopc (xs := s.Shelves) (by unfold maxLen; omega) (fun t : List Int × Int => t.2) (fun i t => t.1 = (s.Shelves.take i).map (·.Cell)) rfl rfl (fun i x t hx ht hI => ?_) (fun t h => by rw [List.take_length] at h; exact h)) (fun l hl => ?_)
  · have := (List.getElem?_eq_some_iff.1 hx).1
    rw [ht]
    exact ⟨by rw [hI]; simp; omega, rfl, by show t.1 ++ [x.Cell] = _; rw [hI, take_succ hx, List.map_append]; rfl⟩
  subst hl
  refine Jn.mk (fun l => l = s.Robots.map (fun x => ({ Cell := x.Cell, Load := -1, Charge := x.Charge, Rest := 0, Mute := 0, Dead := false } : ApiRobot))) (V_loopc (xs := s.Robots) (by unfold maxLen; omega) (fun t : List ApiRobot × Int => t.2) (fun i t => t.1 = (s.Robots.take i).map (fun x => ({ Cell := x.Cell, Load := -1, Charge := x.Charge, Rest := 0, Mute := 0, Dead := false } : ApiRobot))) rfl rfl (fun i x t hx ht hI => ?_) (fun t h => by rw [List.take_length] at h; exact h)) (fun l hl => by subst hl; exact hp)
  have := (List.getElem?_eq_some_iff.1 hx).1
  rw [ht]
  exact ⟨by rw [hI]; simp; omega, rfl, by show t.1 ++ [_] = _; rw [hI, take_succ hx, List.map_append]; rfl⟩
def e16B : ApiState := endsS e16T (runS e16S [1, 0] 2 0 { e16T with Dead := [1] })
def e16C : ApiState := endsS e16T (runS e16S [1, 1] 2 0 e16T)
theorem e16b : e16B.Robots.map (·.Cell) = [0, 2] := by decide
theorem e16c : e16C.Robots.map (·.Cell) = [1, 3] ∧ e16C.Tick = 1 := by decide
theorem e16k1 : chkS e16S e16T [1, 3] = 15 := by
  unfold chkS
  have e : fstB e16S e16T [1, 3] ([1, 3] : List Int).length 0 = 0 := by decide
  rw [if_neg (by decide), if_neg (by decide), if_neg (by rw [e]; simp), if_pos (by decide)]
theorem e16k2 : chkS e16S e16T [1, 0] = 0 := by
  unfold chkS
  have e : fstB e16S e16T [1, 0] ([1, 0] : List Int).length 0 = 0 := by decide
  rw [if_neg (by decide), if_neg (by decide), if_neg (by rw [e]; simp), if_neg (by decide)]
  decide
theorem e16k3 : chkS e16S e16T [1, 1] = 0 := by
  unfold chkS
  have e : fstB e16S e16T [1, 1] ([1, 1] : List Int).length 0 = 0 := by decide
  rw [if_neg (by decide), if_neg (by decide), if_neg (by rw [e]; simp), if_neg (by decide)]
  decide
theorem e16s1 : stepS e16S e16T [1, 3] { Kind := 0, A := 0, N := 0 } = (emptyS, 15) := by
  unfold stepS; rw [e16k1, if_pos (by decide)]
theorem e16s2 : stepS e16S e16T [1, 0] { Kind := 2, A := 1, N := 0 } = (e16B, 0) := by
  have hb : possB e16S e16T { Kind := 2, A := 1, N := 0 } = true := by decide
  unfold stepS; rw [e16k2, if_neg (by decide), if_neg (by rw [hb]; simp)]
  unfold tickS; rw [happ_2 hb rfl]
  have : srtI (e16T.Dead ++ [1]) = [1] := by unfold srtI; simp [e16T]
  show (endsS e16T (runS e16S [1, 0] 2 0 { e16T with Dead := srtI (e16T.Dead ++ [1]) }), 0) = _
  rw [this]; rfl
theorem e16s3 : stepS e16S e16T [1, 1] { Kind := 0, A := 0, N := 0 } = (e16C, 0) := by
  have hb : possB e16S e16T { Kind := 0, A := 0, N := 0 } = true := by decide
  unfold stepS; rw [e16k3, if_neg (by decide), if_neg (by rw [hb]; simp)]
  unfold tickS; rw [happ_0 rfl]; rfl
theorem idx_map {α : Type} {xs : List α} {g : α → Int} {l : List Int} (h : xs.map g = l) {n : Nat} {c : Int} (hc : l[n]? = some c) : ∃ x, idx xs (n : Int) = some x ∧ g x = c := by
  rw [← h, List.getElem?_map] at hc
  cases e : xs[n]? with
  | none => rw [e] at hc; cases hc
  | some x => rw [e] at hc; exact ⟨x, idx_of rfl e, Option.some.inj hc⟩
theorem S_law16_small {post : Bool → Prop} (hp : post true) : V_taquinlaw16_small post := by
  unfold V_taquinlaw16_small
  refine S_law16_site (S_body_First (by decide) (by decide) ?_)
  have kA : ∀ a b : Int, (-1000000 ≤ a ∧ a ≤ 1000000) → (-1000000 ≤ b ∧ b ≤ 1000000) → OkL I64 [a, b] := fun a b h1 h2 => ok_ml (by simp) (fun x hx => by
    simp at hx; rcases hx with rfl | rfl
    · exact i64_of h1
    · exact i64_of h2)
  refine S_arena_Step (n := 12) (st := e16T) (by decide) e16Ok e16RF e16RS e16R e16Z (kA 1 3 (by decide) (by decide)) (S_arena_Step (n := 12) (st := e16T) (by decide) e16Ok e16RF e16RS e16R e16Z (kA 1 0 (by decide) (by decide)) (S_arena_Step (n := 12) (st := e16T) (by decide) e16Ok e16RF e16RS e16R e16Z (kA 1 1 (by decide) (by decide)) ?_))
  rw [e16s1, e16s2, e16s3]
  refine Jor3 (Ite.f ?_ ?_)
  · have l1 : e16B.Robots.length = 2 := by have := congrArg List.length e16b; simpa using this
    have l2 : e16C.Robots.length = 2 := by have := congrArg List.length e16c.1; simpa using this
    show ((2 : Int) != 2 || ((e16B.Robots.length : Int) != 2) || ((e16C.Robots.length : Int) != 2)) = false
    rw [l1, l2]; rfl
  refine Jn.mk (fun b => b = true) (Ite.t rfl (Ite.t rfl ?_)) (fun b hb => hb ▸ hp)
  obtain ⟨x, hx, hxc⟩ := idx_map e16b (n := 0) (c := 0) rfl
  obtain ⟨y, hy, hyc⟩ := idx_map e16c.1 (n := 0) (c := 1) rfl
  obtain ⟨z, hz, hzc⟩ := idx_map e16c.1 (n := 1) (c := 3) rfl
  refine ⟨x, hx, Ite.t (by simpa using hxc) (Ite.t rfl ⟨y, hy, Ite.t (by simpa using hyc) ⟨z, hz, Ite.t (by simpa using hzc) (Ite.t (by show (e16C.Tick == 1) = true; rw [e16c.2]; rfl) ?_)⟩⟩)⟩
  refine S_survey_bare e16Ok e16RF rfl rfl rfl (by decide) (fun i x hi => ?_) (by decide) rfl
  match i, hi with
  | 0, hi => simp [e16S] at hi; subst hi; decide
  | 1, hi => simp [e16S] at hi; subst hi; decide
  | n + 2, hi => simp [e16S] at hi
end Go.Taq

/- The mathematics, part AH: what acts one after the other do to a robot and to a shelf; ArenaHinders. -/
set_option linter.unusedVariables false
set_option linter.unusedSimpArgs false
namespace Go.Taq
open Go

section
variable {s : ApiSite} {st : ApiState}
/-- what a fault leaves as it was -/
theorem happ_rob (f : ApiFault) : (happS s st f).Shelves = st.Shelves ∧ ∀ (j : Nat) r, st.Robots[j]? = some r → ∃ r', (happS s st f).Robots[j]? = some r' ∧ r'.Cell = r.Cell ∧ r'.Load = r.Load ∧ (r.Dead = true → r'.Dead = true) := by
  have same : ∀ X : ApiState, X.Shelves = st.Shelves → X.Robots = st.Robots → X.Shelves = st.Shelves ∧ ∀ (j : Nat) r, st.Robots[j]? = some r → ∃ r', X.Robots[j]? = some r' ∧ r'.Cell = r.Cell ∧ r'.Load = r.Load ∧ (r.Dead = true → r'.Dead = true) :=
    fun X h1 h2 => ⟨h1, fun j r h => ⟨r, by rw [h2]; exact h, rfl, rfl, id⟩⟩
  have one : ∀ (n : Nat) (r0 y : ApiRobot), st.Robots[n]? = some r0 → y.Cell = r0.Cell → y.Load = r0.Load → (r0.Dead = true → y.Dead = true) → ∀ (j : Nat) r, st.Robots[j]? = some r → ∃ r', (st.Robots.set n y)[j]? = some r' ∧ r'.Cell = r.Cell ∧ r'.Load = r.Load ∧ (r.Dead = true → r'.Dead = true) := fun n r0 y hx h1 h2 h3 j r h => by
    by_cases e : j = n
    · subst e; rw [hx] at h; cases h
      exact ⟨y, List.getElem?_set_self (List.getElem?_eq_some_iff.1 hx).1, h1, h2, h3⟩
    · exact ⟨r, by rw [List.getElem?_set_ne (Ne.symm e)]; exact h, rfl, rfl, id⟩
  cases hb : possB s st f with
  | false => rw [happ_no hb]; exact same _ rfl rfl
  | true =>
    by_cases h1 : f.Kind = 1
    · have hl := hb; rw [possB_1 h1] at hl
      obtain ⟨n, r0, hn, hx, _, hr⟩ := liveB_iff hl
      rw [happ_1 hb h1, hr]; refine ⟨rfl, ?_⟩
      show ∀ (j : Nat) r, _ → ∃ r', (st.Robots.set f.A.toNat _)[j]? = some r' ∧ _
      rw [hn]; exact one n r0 _ hx rfl rfl fun _ => rfl
    by_cases h2 : f.Kind = 2
    · rw [happ_2 hb h2]; exact same _ rfl rfl
    by_cases h3 : f.Kind = 3
    · have hl := hb; rw [possB_3 h3, Bool.and_eq_true] at hl
      obtain ⟨n, r0, hn, hx, _, hr⟩ := liveB_iff hl.1
      rw [happ_3 hb h3, hr]; refine ⟨rfl, ?_⟩
      show ∀ (j : Nat) r, _ → ∃ r', (st.Robots.set f.A.toNat _)[j]? = some r' ∧ _
      rw [hn]; exact one n r0 _ hx rfl rfl id
    by_cases h4 : f.Kind = 4
    · rw [happ_4 hb h4]; exact same _ rfl rfl
    by_cases h5 : f.Kind = 5
    · rw [happ_5 hb h5]; exact same _ rfl rfl
    · by_cases h0 : f.Kind = 0
      · rw [happ_0 h0]; exact same _ rfl rfl
      · have := possB_n (s := s) (st := st) h0 h1 h2 h3 h4 h5
        rw [this] at hb; cases hb
end
theorem idxN {α : Type} {l : List α} {n : Nat} {x : α} (h : l[n]? = some x) : idx l (n : Int) = some x := idx_of rfl h
end Go.Taq

/- The mathematics, part AI: when two states are the same; ArenaFaults. -/
set_option linter.unusedVariables false
set_option linter.unusedSimpArgs false
namespace Go.Taq
open Go

theorem V_eqsI {α : Type} {xs ys : List α} (hm : xs.length ≤ maxLen) (hl : xs.length = ys.length) {C : α → α → Bool} (hC : ∀ x y, C x y = false ↔ x = y) {F E : Prop} (hF : xs ≠ ys → F) (hE : xs = ys → E) :
    Jn (fun (J : Unit → Prop) => Loop (fun (s : Int) Y => Ite (decide (s < (xs.length : Int))) (∃ x, idx xs s = some x ∧ ∃ y, idx ys s = some y ∧ Ite (C x y) F (Y (w64 (s + 1)))) (J ())) 0) (fun _ => E) := by
  refine Jn.mk (fun _ => xs = ys) (V_loopc hm (fun t => t) (fun i _ => ∀ j, j < i → xs[j]? = ys[j]?) rfl (fun j hj => by omega) (fun n x t hx ht hI => ?_) (fun t h => ?_)) (fun _ h => hE h)
  · have hn := (List.getElem?_eq_some_iff.1 hx).1
    have hy := List.getElem?_eq_getElem (show n < ys.length by omega)
    generalize ys[n]'_ = y at hy
    rw [ht]
    refine ⟨y, idx_of rfl hy, Ite.mk (fun h => hF fun e => ?_) (fun h => ⟨rfl, fun j hj => ?_⟩)⟩
    · rw [e, hy] at hx
      rw [(hC x _).2 (Option.some.inj hx).symm] at h; cases h
    · by_cases e : j = n
      · subst e; rw [hx, hy, (hC x y).1 h]
      · exact hI j (by omega)
  · apply List.ext_getElem?
    intro j
    by_cases hj : j < xs.length
    · exact h j hj
    · rw [List.getElem?_eq_none (by omega), List.getElem?_eq_none (by omega)]
theorem S_slices_EqualI {xs ys : List Int} (hm : xs.length ≤ maxLen) {post : Bool → Prop} (hT : xs = ys → post true) (hF : xs ≠ ys → post false) : V_slices_Equal_int_int xs ys post := by
  unfold V_slices_Equal_int_int
  refine Ite.mk (fun h => hF fun e => by rw [e] at h; simp at h) (fun h => V_eqsI hm (by simp at h; omega) (C := fun x y => x != y) (fun x y => by simp) hF hT)
theorem S_body_SameI {a b : ApiState} (hz : Sz a) {post : Bool → Prop} (hT : a = b → post true) (hF : a ≠ b → post false) : V_body_Same a b post := by
  have q1 := hz.sh; have q2 := hz.rb; have q3 := hz.pp; have q4 := hz.dd; have q5 := hz.sk
  unfold V_body_Same
  refine Jn.mk (fun x => (x = true → a.Tick = b.Tick ∧ a.Shelves = b.Shelves ∧ a.People = b.People) ∧ (x = false → a ≠ b)) (Ite.mk (fun h => S_slices_EqualI (by unfold maxLen; omega) (fun e1 => Ite.t rfl (S_slices_EqualI (by unfold maxLen; omega) (fun e2 => ⟨fun _ => ⟨by simpa using h, e1, e2⟩, fun h => by cases h⟩) (fun n2 => ⟨fun h => (by cases h), fun _ e => n2 (by rw [e])⟩))) (fun n1 => Ite.f rfl ⟨fun h => (by cases h), fun _ e => n1 (by rw [e])⟩)) (fun h => ⟨fun h => (by cases h), fun _ e => by rw [e] at h; simp at h⟩)) (fun x3 h3 => ?_)
  refine Jn.mk (fun y => (y = true → a ≠ b) ∧ (y = false → x3 = true ∧ a.Robots.length = b.Robots.length)) (Ite.mk (fun h => ⟨fun h2 e => by rw [e] at h2; simp at h2, fun h2 => ⟨h, by simp at h2; omega⟩⟩) (fun h => ⟨fun _ => h3.2 h, fun h => by cases h⟩)) (fun y hy => Ite.mk (fun h => hF (hy.1 h)) (fun h => ?_))
  obtain ⟨hx3, hrl⟩ := hy.2 h
  obtain ⟨g1, g2, g3⟩ := h3.1 hx3
  refine V_eqsI (xs := a.Robots) (ys := b.Robots) (by unfold maxLen; omega) hrl (C := fun x y => !((x.Cell == y.Cell) && ((x.Load == y.Load) && ((x.Charge == y.Charge) && ((x.Rest == y.Rest) && ((x.Mute == y.Mute) && ((x.Dead == y.Dead) && true))))))) (fun x y => ?_) (fun n => hF (fun e => n (by rw [e]))) (fun e4 => ?_)
  · cases x; cases y; simp
  refine Jn.mk' (S_slices_EqualI (by unfold maxLen; omega) (fun e5 => Ite.t rfl ?_) (fun n => Ite.f rfl (hF (fun e => n (by rw [e])))))
  unfold V_slices_Equal_api_Stuck_api_Stuck
  refine Ite.mk (fun h => hF fun e => by rw [e] at h; simp at h) (fun h => V_eqsI (xs := a.Stuck) (ys := b.Stuck) (by unfold maxLen; omega) (by simp at h; omega) (C := fun x y : ApiStuck => !((x.Cell == y.Cell) && ((x.Left == y.Left) && true))) (fun x y => ?_) (fun n => hF (fun e => n (by rw [e]))) (fun e6 => hT ?_))
  · cases x; cases y; simp
  · cases a; cases b; simp_all
section
variable {s : ApiSite} {st : ApiState}
theorem happ_ppl (f : ApiFault) : st.People.length ≤ (happS s st f).People.length ∧ ∀ (i : Nat) x, st.People[i]? = some x → ∃ x', (happS s st f).People[i]? = some x' ∧ (x' = x ∨ f.Kind = 5 ∧ f.A = i) := by
  have same : ∀ X : ApiState, X.People = st.People → st.People.length ≤ X.People.length ∧ ∀ (i : Nat) x, st.People[i]? = some x → ∃ x', X.People[i]? = some x' ∧ (x' = x ∨ f.Kind = 5 ∧ f.A = i) :=
    fun X h => by rw [h]; exact ⟨Nat.le_refl _, fun i x hx => ⟨x, hx, .inl rfl⟩⟩
  cases hb : possB s st f with
  | false => rw [happ_no hb]; exact same _ rfl
  | true =>
    by_cases h1 : f.Kind = 1
    · rw [happ_1 hb h1]; exact same _ rfl
    by_cases h2 : f.Kind = 2
    · rw [happ_2 hb h2]; exact same _ rfl
    by_cases h3 : f.Kind = 3
    · rw [happ_3 hb h3]; exact same _ rfl
    by_cases h4 : f.Kind = 4
    · rw [happ_4 hb h4]; exact same _ rfl
    by_cases h5 : f.Kind = 5
    · have hl := hb; rw [possB_5 h5] at hl
      rw [happ_5 hb h5]
      rcases stepB_A hl with hA | ⟨n, hA, hn⟩
      · rw [if_pos hA]
        exact ⟨by simp, fun i x hx => ⟨x, by show (st.People ++ [f.N])[i]? = _; rw [List.getElem?_append_left (List.getElem?_eq_some_iff.1 hx).1]; exact hx, .inl rfl⟩⟩
      · rw [if_neg (by omega), hA]
        refine ⟨by show _ ≤ (st.People.set _ _).length; simp, fun i x hx => ?_⟩
        show ∃ x', (st.People.set n f.N)[i]? = some x' ∧ _
        by_cases e : i = n
        · subst e; exact ⟨_, List.getElem?_set_self hn, .inr ⟨h5, rfl⟩⟩
        · exact ⟨x, by rw [List.getElem?_set_ne (Ne.symm e)]; exact hx, .inl rfl⟩
    · by_cases h0 : f.Kind = 0
      · rw [happ_0 h0]; exact same _ rfl
      · have := possB_n (s := s) (st := st) h0 h1 h2 h3 h4 h5
        rw [this] at hb; cases hb
/-- a robot dies but once, a shelf place too -/
theorem happ_once {f : ApiFault} (hb : possB s st f = true) (h : f.Kind = 1 ∨ f.Kind = 2) : possB s (happS s st f) f = false := by
  rcases h with h | h
  · have hl := hb; rw [possB_1 h] at hl
    obtain ⟨n, r, hn, hx, _, hr⟩ := liveB_iff hl
    rw [possB_1 h, happ_1 hb h, hr]
    unfold liveB setR
    rw [hn]
    show (decide _ && decide _ && !((st.Robots.set n _).getD n default).Dead) = false
    rw [getD_r (st := { st with Robots := st.Robots.set n { r with Dead := true } }) (List.getElem?_set_self (List.getElem?_eq_some_iff.1 hx).1)]
    simp
  · rw [possB_2 h, happ_2 hb h]
    have : (srtI (st.Dead ++ [f.A])).contains f.A = true := by
      have := (srtI_perm (st.Dead ++ [f.A])).mem_iff (a := f.A)
      simp [this]
    show (_ && !(srtI (st.Dead ++ [f.A])).contains f.A) = false
    rw [this]; simp
end
theorem Said_taquinlaw16_ArenaFaults (s : ApiSite) (ks : OkApiSite s) (st : ApiState) (k : OkApiState st) (f : ApiFault) (kf : OkApiFault f) : V_taquinlaw16_ArenaFaults s st f (fun y => y = true) := by
  unfold V_taquinlaw16_ArenaFaults
  refine S_law16_small (Jn.mk (fun b => b = false → RSite s ∧ Few12 st ∧ RSt s st) (S_ref11_Few ks (by omega) (Ite.f rfl fun h => by cases h) (fun h1 => Ite.t rfl (S_survey_Right ks h1 (by omega) (Ite.f rfl fun h => by cases h) (fun h2 => Ite.t rfl (S_ref14_Few (Ite.f rfl fun h => by cases h) (fun h3 => Ite.t rfl (S_body_RightI h3.sz (fun h => by cases h) (fun h4 => fun _ => ⟨h2, h3, h4⟩)))))))) (fun b hb => Ite.mk (fun _ => rfl) (fun h => ?_)))
  obtain ⟨hrs, h12, hr⟩ := hb h
  have hf := hrs.fl
  have hsz := h12.sz
  have hzN : SzN 12 st := h12.szN
  have ne : ∀ a : Int, (a != a) = false := fun a => by simp
  refine S_arena_Happen hf hsz (S_arena_Possible hf hsz (Ite.mk (fun h1 => ?_) (fun h1 => ?_)))
  · have hb : possB s st f = false := by
      cases e : possB s st f with
      | false => rfl
      | true => have := possS_iff.2 e; simp [this] at h1
    exact Jn.mk (fun b => b = true) (Ite.t rfl (S_body_Same (by rw [happ_no hb]; exact hsz) (happ_no hb) rfl)) (fun b hb => hb)
  have hpb : possB s st f = true := possS_iff.1 (by simpa using h1)
  obtain ⟨e1, e2⟩ := happ_rl (s := s) (st := st) f
  obtain ⟨hs1, hs2⟩ := happ_rob (s := s) (st := st) f
  obtain ⟨p1, p2⟩ := happ_ppl (s := s) (st := st) f
  have hzX := (szN_happ hf hr hzN f).sz (by omega)
  have hrX := rst_happ hf hr f
  have hrb := hsz.rb; have hsh := hsz.sh; have hpp := hsz.pp
  refine Jn.mk (fun b => b = false) (S_body_Right hrX hzX (Ite.t rfl (Ite.f (by rw [e2]; exact ne _) (Ite.f (by rw [e1]; exact ne _) ?_)))) (fun b hb => Ite.f hb ?_)
  · rw [hs1]
    unfold V_taquinref14_SameInts
    exact Ite.f (ne _) (V_eqs (by unfold maxLen; omega) (C := fun x y => x != y) (by simp) rfl)
  refine Jn.mk (fun _ => True) (Loop.inv st.Robots.length (fun i (t : Int) => t = (i : Int)) rfl (fun i t hi ht => ?_) (fun t ht => Ite.nlt (by omega) trivial)) (fun _ _ => ?_)
  · subst ht
    have hx := List.getElem?_eq_getElem hi
    generalize st.Robots[i] = r at hx
    obtain ⟨r', g1, g2, g3, g4⟩ := hs2 i r hx
    refine Ite.lt (by omega) (Jn.mk (fun b => b = false) ⟨r', idxN g1, r, idxN hx, Ite.f (by simp [g2]) (Ite.f (by simp [g3]) (Ite.mk (fun h => by rw [g4 h]; rfl) (fun h => rfl)))⟩ (fun b hb => Ite.f hb (by show w64 _ = _; rw [w64_eq (by omega) (by omega)]; simp)))
  refine Jn.mk (fun _ => True) (Loop.inv st.People.length (fun i (t : Int) => t = (i : Int)) rfl (fun i t hi ht => ?_) (fun t ht => Jn.mk (fun b => b = false) (Ite.nlt (by omega) rfl) (fun b hb => Ite.f hb trivial))) (fun _ _ => ?_)
  · subst ht
    have hx := List.getElem?_eq_getElem hi
    generalize st.People[i] = c at hx
    obtain ⟨c', g1, g2⟩ := p2 i c hx
    refine Jn.mk (fun b => b = true) (Ite.lt (by omega) (decide_eq_true (by omega))) (fun b hb => Ite.t hb ?_)
    refine Jn.mk (fun b => b = false) ⟨c', idxN g1, c, idxN hx, Ite.mk (fun h => ?_) (fun h => rfl)⟩ (fun b hb => Ite.f hb (by show w64 _ = _; rw [w64_eq (by omega) (by omega)]; simp))
    have h' : c' ≠ c := by simpa using h
    rcases g2 with g2 | ⟨g2, g3⟩
    · exact absurd g2 h'
    · exact Ite.f (by simp [g2]) (by simp [g3])
  refine Jn.mk (fun b => b = (f.Kind == 1 || f.Kind == 2)) (Ite.mk (fun h => by rw [h]; rfl) (fun h => by rw [h]; rfl)) (fun b hb2 => Ite.mk (fun h => ?_) (fun h => ?_))
  · have hk : f.Kind = 1 ∨ f.Kind = 2 := by rw [hb2] at h; simpa using h
    have hX := happ_once hpb hk
    refine Jn.mk (fun b => b = true) (Ite.t rfl (S_arena_Possible hf hzX (Ite.t (by unfold possS; rw [hX]; rfl) (S_body_SameI hzX (fun e => ?_) (fun _ => rfl))))) (fun b hb => hb)
    rw [e, hpb] at hX; cases hX
  · exact Jn.mk (fun b => b = true) (Ite.t rfl (decide_eq_true (by omega))) (fun b hb => hb)
end Go.Taq
