/- The mathematics, several parts in one text. -/
import Derived.Test.YtbpbennpgnjbkaaGreatAR
/- The mathematics, part AG: the examples of chapter 16; ArenaTells. -/
set_option linter.unusedVariables false
set_option linter.unusedSimpArgs false
namespace Go.Taq
open Go

def e16F : ApiFloor := { W := 6, H := 1, D := 1, Kind := [1, 1, 1, 1, 1, 3], Out := [1, 5, 5, 5, 5, 4] }
def e16S : ApiSite := { Floor := e16F, Zones := [], Aparts := [], Shelves := [], Robots := [{ Cell := 0, Charge := 100 }, { Cell := 2, Charge := 100 }] }
def e16T : ApiState := { Tick := 0, Shelves := [], Robots := [{ Cell := 0, Load := -1, Charge := 100, Rest := 0, Mute := 0, Dead := false }, { Cell := 2, Load := -1, Charge := 100, Rest := 0, Mute := 0, Dead := false }], People := [], Dead := [], Stuck := [] }
theorem e16RF : RF e16F := by
  refine ⟨by decide, by decide, by decide, by decide, by decide, by decide, by decide, by decide, by decide, fun i x y hx hy => ?_⟩
  match i, hx, hy with
  | 0, hx, hy => simp [e16F] at hx hy; omega
  | 1, hx, hy => simp [e16F] at hx hy; omega
  | 2, hx, hy => simp [e16F] at hx hy; omega
  | 3, hx, hy => simp [e16F] at hx hy; omega
  | 4, hx, hy => simp [e16F] at hx hy; omega
  | 5, hx, hy => simp [e16F] at hx hy; omega
  | n + 6, hx, hy => simp [e16F] at hx
theorem e16Ok : OkApiSite e16S where
  Floor := ⟨i64_of (by decide), i64_of (by decide), i64_of (by decide), ok_ml (by decide) (fun x hx => i64_of (by simp [e16S, e16F] at hx; omega)), ok_ml (by decide) (fun x hx => i64_of (by simp [e16S, e16F] at hx; omega))⟩
  Zones := ok_ml (by decide) (fun z hz => by simp [e16S] at hz)
  Aparts := ok_ml (by decide) (fun x hx => by simp [e16S] at hx)
  Shelves := ok_ml (by decide) (fun x hx => by simp [e16S] at hx)
  Robots := ok_ml (by decide) (fun x hx => by
    simp only [e16S, List.mem_cons, List.not_mem_nil, or_false] at hx
    rcases hx with rfl | rfl
    · exact ⟨i64_of (by decide), i64_of (by decide)⟩
    · exact ⟨i64_of (by decide), i64_of (by decide)⟩)
theorem e16RS : RS e16S := ⟨e16RF, fun z hz => by simp [e16S] at hz, fun z hz => by simp [e16S] at hz, fun z hz => by simp [e16S] at hz⟩
theorem e16R : RSt e16S e16T where
  tick := by decide
  sl := by decide
  rl := by decide
  pl := by decide
  rob := fun i r hr => by
    match i, hr with
    | 0, hr => simp [e16T] at hr; subst hr; exact ⟨by decide, by decide, by decide, by decide, by decide, by decide, fun h => by simp at h⟩
    | 1, hr => simp [e16T] at hr; subst hr; exact ⟨by decide, by decide, by decide, by decide, by decide, by decide, fun h => by simp at h⟩
    | n + 2, hr => simp [e16T] at hr
  shel := fun i c h => by simp [e16T] at h
  ppl := fun i c h => by simp [e16T] at h
  dead := fun i c h => by simp [e16T] at h
  deadA := fun i x y h => by simp [e16T] at h
  stuck := fun i x h => by simp [e16T] at h
  stuckA := fun i x y h => by simp [e16T] at h
  clash := by decide
theorem e16Z : SzN 12 e16T := ⟨by decide, by decide, by decide, by decide, by decide⟩
theorem S_law16_site {post : ApiSite → Prop} (hp : post e16S) : V_taquinlaw16_site post := by
  unfold V_taquinlaw16_site
  refine Jn.mk (fun t => t = ([1, 1, 1, 1, 1, 3], [1, 5, 5, 5, 5, 4])) (V_upto 6 (fun t : List Int × List Int × Int => t.2.2) (fun i t => t.1 = ([1, 1, 1, 1, 1, 3] : List Int).take i ∧ t.2.1 = ([1, 5, 5, 5, 5, 4] : List Int).take i) (by decide) rfl ⟨rfl, rfl⟩ (fun i t hi ht hI => ?_) (fun t h => by obtain ⟨h1, h2⟩ := h; show (t.1, t.2.1) = _; rw [h1, h2]; rfl)) (fun t ht => by subst ht; exact hp)
  obtain ⟨h1, h2⟩ := hI
  rw [ht]
  refine Jn.mk (fun x => x = if (i : Int) = 5 then 3 else 1) (Ite.mk (fun h => by rw [if_pos (by simpa using h)]) (fun h => by rw [if_neg (by simpa using h)])) (fun x hx => ?_)
  refine Jn.mk (fun y => y = if (i : Int) < 5 then 1 else 0) (Ite.mk (fun h => by rw [if_pos (by simpa using h)]) (fun h => by rw [if_neg (by simpa using h)])) (fun y hy => ?_)
  refine Jn.mk (fun z => z = if (i : Int) > 0 then y + 4 else y) (Ite.mk (fun h => by rw [if_pos (by simpa using h), w64_eq (by rw [hy]; split <;> omega) (by rw [hy]; split <;> omega)]) (fun h => by rw [if_neg (by simpa using h)])) (fun z hz => ?_)
  refine ⟨by rw [h1]; simp; omega, by rw [h2]; simp; omega, rfl, ?_⟩
  show t.1 ++ [x] = _ ∧ t.2.1 ++ [z] = _
  rw [h1, h2, hz, hy, hx]
  have : i = 0 ∨ i = 1 ∨ i = 2 ∨ i = 3 ∨ i = 4 ∨ i = 5 := by omega
  rcases this with rfl | rfl | rfl | rfl | rfl | rfl <;> decide
theorem S_body_First {s : ApiSite} (h1 : s.Shelves.length ≤ 1000000) (h2 : s.Robots.length ≤ 1000000) {post : ApiState → Prop}
    (hp : post { Tick := 0, Shelves := s.Shelves.map (·.Cell), Robots := s.Robots.map (fun x => { Cell := x.Cell, Load := -1, Charge := x.Charge, Rest := 0, Mute := 0, Dead := false }), People := [], Dead := [], Stuck := [] }) : V_body_First s post := by
  unfold V_body_First
  refine Jn.mk (fun l => l = s.Shelves.map (·.Cell)) (V_loopc (xs := s.Shelves) (by unfold maxLen; omega) (fun t : List Int × Int => t.2) (fun i t => t.1 = (s.Shelves.take i).map (·.Cell)) rfl rfl (fun i x t hx ht hI => ?_) (fun t h => by rw [List.take_length] at h; exact h)) (fun l hl => ?_)
  · have := (List.getElem?_eq_some_iff.1 hx).1
    rw [ht]
    exact ⟨by rw [hI]; simp; omega, rfl, by show t.1 ++ [x.Cell] = _; rw [hI, take_succ hx, List.map_append]; rfl⟩
  subst hl
  refine Jn.mk (fun l => l = s.Robots.map (fun x => ({ Cell := x.Cell, Load := -1, Charge := x.Charge, Rest := 0, Mute := 0, Dead := false } : ApiRobot))) (V_loopc (xs := s.Robots) (by unfold maxLen; omega) (fun t : List ApiRobot × Int => t.2) (fun i t => t.1 = (s.Robots.take i).map (fun x => ({ Cell := x.Cell, Load := -1, Charge := x.Charge, Rest := 0, Mute := 0, Dead := false } : ApiRobot))) rfl rfl (fun i x t hx ht hI => ?_) (fun t h => by rw [List.take_length] at h; exact h)) (fun l hl => by subst hl; exact hp)
  have := (List.getElem?_eq_some_iff.1 hx).1
  rw [ht]
  exact ⟨by rw [hI]; simp; omega, rfl, by show t.1 ++ [_] = _; rw [hI, take_succ hx, List.map_append]; rfl⟩
def e16B : ApiState := endsS e16T (runS e16S [1, 0] 2 0 { e16T with Dead := [1] })
def e16C : ApiState := endsS e16T (runS e16S [1, 1] 2 0 e16T)
theorem e16b : e16B.Robots.map (·.Cell) = [0, 2] := by decide
theorem e16c : e16C.Robots.map (·.Cell) = [1, 3] ∧ e16C.Tick = 1 := by decide
theorem e16k1 : chkS e16S e16T [1, 3] = 15 := by
  unfold chkS
  have e : fstB e16S e16T [1, 3] ([1, 3] : List Int).length 0 = 0 := by decide
  rw [if_neg (by decide), if_neg (by decide), if_neg (by rw [e]; simp), if_pos (by decide)]
theorem e16k2 : chkS e16S e16T [1, 0] = 0 := by
  unfold chkS
  have e : fstB e16S e16T [1, 0] ([1, 0] : List Int).length 0 = 0 := by decide
  rw [if_neg (by decide), if_neg (by decide), if_neg (by rw [e]; simp), if_neg (by decide)]
  decide
theorem e16k3 : chkS e16S e16T [1, 1] = 0 := by
  unfold chkS
  have e : fstB e16S e16T [1, 1] ([1, 1] : List Int).length 0 = 0 := by decide
  rw [if_neg (by decide), if_neg (by decide), if_neg (by rw [e]; simp), if_neg (by decide)]
  decide
theorem e16s1 : stepS e16S e16T [1, 3] { Kind := 0, A := 0, N := 0 } = (emptyS, 15) := by
  unfold stepS; rw [e16k1, if_pos (by decide)]
theorem e16s2 : stepS e16S e16T [1, 0] { Kind := 2, A := 1, N := 0 } = (e16B, 0) := by
  have hb : possB e16S e16T { Kind := 2, A := 1, N := 0 } = true := by decide
  unfold stepS; rw [e16k2, if_neg (by decide), if_neg (by rw [hb]; simp)]
  unfold tickS; rw [happ_2 hb rfl]
  have : srtI (e16T.Dead ++ [1]) = [1] := by unfold srtI; simp [e16T]
  show (endsS e16T (runS e16S [1, 0] 2 0 { e16T with Dead := srtI (e16T.Dead ++ [1]) }), 0) = _
  rw [this]; rfl
theorem e16s3 : stepS e16S e16T [1, 1] { Kind := 0, A := 0, N := 0 } = (e16C, 0) := by
  have hb : possB e16S e16T { Kind := 0, A := 0, N := 0 } = true := by decide
  unfold stepS; rw [e16k3, if_neg (by decide), if_neg (by rw [hb]; simp)]
  unfold tickS; rw [happ_0 rfl]; rfl
theorem idx_map {α : Type} {xs : List α} {g : α → Int} {l : List Int} (h : xs.map g = l) {n : Nat} {c : Int} (hc : l[n]? = some c) : ∃ x, idx xs (n : Int) = some x ∧ g x = c := by
  rw [← h, List.getElem?_map] at hc
  cases e : xs[n]? with
  | none => rw [e] at hc; cases hc
  | some x => rw [e] at hc; exact ⟨x, idx_of rfl e, Option.some.inj hc⟩
theorem S_law16_small {post : Bool → Prop} (hp : post true) : V_taquinlaw16_small post := by
  unfold V_taquinlaw16_small
  refine S_law16_site (S_body_First (by decide) (by decide) ?_)
  have kA : ∀ a b : Int, (-1000000 ≤ a ∧ a ≤ 1000000) → (-1000000 ≤ b ∧ b ≤ 1000000) → OkL I64 [a, b] := fun a b h1 h2 => ok_ml (by simp) (fun x hx => by
    simp at hx; rcases hx with rfl | rfl
    · exact i64_of h1
    · exact i64_of h2)
  refine S_arena_Step (n := 12) (st := e16T) (by decide) e16Ok e16RF e16RS e16R e16Z (kA 1 3 (by decide) (by decide)) (S_arena_Step (n := 12) (st := e16T) (by decide) e16Ok e16RF e16RS e16R e16Z (kA 1 0 (by decide) (by decide)) (S_arena_Step (n := 12) (st := e16T) (by decide) e16Ok e16RF e16RS e16R e16Z (kA 1 1 (by decide) (by decide)) ?_))
  rw [e16s1, e16s2, e16s3]
  refine Jor3 (Ite.f ?_ ?_)
  · have l1 : e16B.Robots.length = 2 := by have := congrArg List.length e16b; simpa using this
    have l2 : e16C.Robots.length = 2 := by have := congrArg List.length e16c.1; simpa using this
    show ((2 : Int) != 2 || ((e16B.Robots.length : Int) != 2) || ((e16C.Robots.length : Int) != 2)) = false
    rw [l1, l2]; rfl
  refine Jn.mk (fun b => b = true) (Ite.t rfl (Ite.t rfl ?_)) (fun b hb => hb ▸ hp)
  obtain ⟨x, hx, hxc⟩ := idx_map e16b (n := 0) (c := 0) rfl
  obtain ⟨y, hy, hyc⟩ := idx_map e16c.1 (n := 0) (c := 1) rfl
  obtain ⟨z, hz, hzc⟩ := idx_map e16c.1 (n := 1) (c := 3) rfl
  refine ⟨x, hx, Ite.t (by simpa using hxc) (Ite.t rfl ⟨y, hy, Ite.t (by simpa using hyc) ⟨z, hz, Ite.t (by simpa using hzc) (Ite.t (by show (e16C.Tick == 1) = true; rw [e16c.2]; rfl) ?_)⟩⟩)⟩
  refine S_survey_bare e16Ok e16RF rfl rfl rfl (by decide) (fun i x hi => ?_) (by decide) rfl
  match i, hi with
  | 0, hi => simp [e16S] at hi; subst hi; decide
  | 1, hi => simp [e16S] at hi; subst hi; decide
  | n + 2, hi => simp [e16S] at hi
theorem S_arena_Stays {st : ApiState} (hz : Sz st) {post : List Int → Prop} (hp : post (List.replicate st.Robots.length 0)) : V_arena_Stays st post := by
  unfold V_arena_Stays
  exact S_slices_Repeat1 (by have := hz.rb; omega) hp
/-- what the next state is -/
theorem step_next {s : ApiSite} {st : ApiState} {n : Nat} (hn : n < 999) (hf : RF s.Floor) (hs : RS s) (h : RSt s st) (hz : SzN n st) {acts : List Int} {f : ApiFault} (h0 : (stepS s st acts f).2 = 0) :
    chkS s st acts = 0 ∧ possB s st f = true ∧ (stepS s st acts f).1 = tickS s st acts f ∧ RSt s (stepS s st acts f).1 ∧ SzN (n + 1) (stepS s st acts f).1 := by
  unfold stepS at h0 ⊢
  by_cases hc : chkS s st acts = 0
  · rw [if_neg (by simpa using hc)] at h0 ⊢
    cases hb : possB s st f with
    | false => rw [if_pos hb] at h0; simp at h0
    | true =>
      rw [if_neg (by simp)]
      have := tick_keeps (by omega) hf hs h hz hc f
      exact ⟨hc, rfl, rfl, this.1, this.2.1⟩
  · rw [if_pos hc] at h0; exact absurd h0 hc
end Go.Taq

/- The mathematics, part AH: what acts one after the other do to a robot and to a shelf; ArenaHinders. -/
set_option linter.unusedVariables false
set_option linter.unusedSimpArgs false
namespace Go.Taq
open Go

def actR (s : ApiSite) (st : ApiState) (r : ApiRobot) (b : Int) : ApiRobot := if r.Dead = true then r else nwR s st r b
section
variable {s : ApiSite} {st : ApiState}
theorem doA_own {i : Nat} {r : ApiRobot} (hx : st.Robots[i]? = some r) (a : Int) : ∃ b, (b = a ∨ b = 0) ∧ (legS s st i a = 0 → b = a) ∧ legR s st r b = 0 ∧ doA s st i a = doR s st i r b := by
  have hi := (List.getElem?_eq_some_iff.1 hx).1
  have hl := legA (s := s) hi a
  refine ⟨if legS s st i a = 0 then a else 0, by split <;> simp, fun h => if_pos h, ?_, by unfold doA; exact doS_eq rfl hx⟩
  generalize (if legS s st i a = 0 then a else 0) = b at *
  rw [legS_eq rfl hx] at hl; exact hl
theorem doR_at {i : Nat} {r : ApiRobot} (hx : st.Robots[i]? = some r) (b : Int) : (doR s st i r b).Robots[i]? = some (actR s st r b) := by
  unfold doR actR; split
  · exact hx
  · exact List.getElem?_set_self (List.getElem?_eq_some_iff.1 hx).1
theorem doR_ne {i j : Nat} {r : ApiRobot} (h : j ≠ i) (b : Int) : (doR s st i r b).Robots[j]? = st.Robots[j]? := by
  unfold doR; split
  · rfl
  · exact List.getElem?_set_ne (Ne.symm h)
theorem run_ne {acts : List Int} : ∀ (k i : Nat) (st : ApiState), i + k ≤ st.Robots.length → ∀ j, j < i ∨ i + k ≤ j → (runS s acts k i st).Robots[j]? = st.Robots[j]?
  | 0, i, st, _, j, _ => rfl
  | k + 1, i, st, hi, j, hj => by
    have hx := List.getElem?_eq_getElem (show i < st.Robots.length by omega)
    obtain ⟨b, _, _, _, e⟩ := doA_own (s := s) hx (acts.getD i 0)
    have hl := (doA_same (s := s) (st := st) i (acts.getD i 0)).2.1
    show (runS s acts k (i + 1) (doA s st i (acts.getD i 0))).Robots[j]? = _
    rw [run_ne k (i + 1) _ (by rw [hl]; omega) j (by omega), e, doR_ne (by omega)]
/-- what a robot becomes -/
theorem run_own {acts : List Int} : ∀ (k i : Nat) (st : ApiState), i + k ≤ st.Robots.length → ∀ j r, i ≤ j → j < i + k → st.Robots[j]? = some r →
    ∃ st' b, (b = acts.getD j 0 ∨ b = 0) ∧ (seqB s acts k i st = 0 → b = acts.getD j 0) ∧ st'.Tick = st.Tick ∧ legR s st' r b = 0 ∧ (runS s acts k i st).Robots[j]? = some (actR s st' r b)
  | 0, i, st, _, j, r, h1, h2, _ => by omega
  | k + 1, i, st, hi, j, r, h1, h2, hx => by
    by_cases c : j = i
    · subst c
      obtain ⟨b, hb1, hb2, hb3, e⟩ := doA_own (s := s) hx (acts.getD j 0)
      have hl := (doA_same (s := s) (st := st) j (acts.getD j 0)).2.1
      refine ⟨st, b, hb1, fun hs => hb2 ?_, rfl, hb3, ?_⟩
      · unfold seqB at hs
        by_cases hleg : legS s st j (acts.getD j 0) = 0
        · exact hleg
        · rw [if_neg hleg] at hs; exact absurd hs hleg
      · show (runS s acts k (j + 1) (doA s st j (acts.getD j 0))).Robots[j]? = _
        rw [run_ne k (j + 1) _ (by rw [hl]; omega) j (.inl (by omega)), e]; exact doR_at hx b
    · have hx0 := List.getElem?_eq_getElem (show i < st.Robots.length by omega)
      obtain ⟨b, hb1, hb2, hb3, e⟩ := doA_own (s := s) hx0 (acts.getD i 0)
      obtain ⟨ht, hl, _⟩ := doA_same (s := s) (st := st) i (acts.getD i 0)
      obtain ⟨st', b', p1, p2, p3, p4, p5⟩ := run_own (acts := acts) k (i + 1) (doA s st i (acts.getD i 0)) (by rw [hl]; omega) j r (by omega) (by omega) (by rw [e, doR_ne c]; exact hx)
      refine ⟨st', b', p1, fun hs => p2 ?_, p3.trans ht, p4, p5⟩
      unfold seqB at hs
      by_cases hleg : legS s st i (acts.getD i 0) = 0
      · rw [if_pos hleg] at hs; unfold doA; rw [if_pos hleg]; exact hs
      · rw [if_neg hleg] at hs; exact absurd hs hleg
/-- what a fault leaves as it was -/
theorem happ_rob (f : ApiFault) : (happS s st f).Shelves = st.Shelves ∧ ∀ (j : Nat) r, st.Robots[j]? = some r → ∃ r', (happS s st f).Robots[j]? = some r' ∧ r'.Cell = r.Cell ∧ r'.Load = r.Load ∧ (r.Dead = true → r'.Dead = true) := by
  have same : ∀ X : ApiState, X.Shelves = st.Shelves → X.Robots = st.Robots → X.Shelves = st.Shelves ∧ ∀ (j : Nat) r, st.Robots[j]? = some r → ∃ r', X.Robots[j]? = some r' ∧ r'.Cell = r.Cell ∧ r'.Load = r.Load ∧ (r.Dead = true → r'.Dead = true) :=
    fun X h1 h2 => ⟨h1, fun j r h => ⟨r, by rw [h2]; exact h, rfl, rfl, id⟩⟩
  have one : ∀ (n : Nat) (r0 y : ApiRobot), st.Robots[n]? = some r0 → y.Cell = r0.Cell → y.Load = r0.Load → (r0.Dead = true → y.Dead = true) → ∀ (j : Nat) r, st.Robots[j]? = some r → ∃ r', (st.Robots.set n y)[j]? = some r' ∧ r'.Cell = r.Cell ∧ r'.Load = r.Load ∧ (r.Dead = true → r'.Dead = true) := fun n r0 y hx h1 h2 h3 j r h => by
    by_cases e : j = n
    · subst e; rw [hx] at h; cases h
      exact ⟨y, List.getElem?_set_self (List.getElem?_eq_some_iff.1 hx).1, h1, h2, h3⟩
    · exact ⟨r, by rw [List.getElem?_set_ne (Ne.symm e)]; exact h, rfl, rfl, id⟩
  cases hb : possB s st f with
  | false => rw [happ_no hb]; exact same _ rfl rfl
  | true =>
    by_cases h1 : f.Kind = 1
    · have hl := hb; rw [possB_1 h1] at hl
      obtain ⟨n, r0, hn, hx, _, hr⟩ := liveB_iff hl
      rw [happ_1 hb h1, hr]; refine ⟨rfl, ?_⟩
      show ∀ (j : Nat) r, _ → ∃ r', (st.Robots.set f.A.toNat _)[j]? = some r' ∧ _
      rw [hn]; exact one n r0 _ hx rfl rfl fun _ => rfl
    by_cases h2 : f.Kind = 2
    · rw [happ_2 hb h2]; exact same _ rfl rfl
    by_cases h3 : f.Kind = 3
    · have hl := hb; rw [possB_3 h3, Bool.and_eq_true] at hl
      obtain ⟨n, r0, hn, hx, _, hr⟩ := liveB_iff hl.1
      rw [happ_3 hb h3, hr]; refine ⟨rfl, ?_⟩
      show ∀ (j : Nat) r, _ → ∃ r', (st.Robots.set f.A.toNat _)[j]? = some r' ∧ _
      rw [hn]; exact one n r0 _ hx rfl rfl id
    by_cases h4 : f.Kind = 4
    · rw [happ_4 hb h4]; exact same _ rfl rfl
    by_cases h5 : f.Kind = 5
    · rw [happ_5 hb h5]; exact same _ rfl rfl
    · by_cases h0 : f.Kind = 0
      · rw [happ_0 h0]; exact same _ rfl rfl
      · have := possB_n (s := s) (st := st) h0 h1 h2 h3 h4 h5
        rw [this] at hb; cases hb
theorem ends_get {b : ApiState} {j : Nat} {r : ApiRobot} (h : st.Robots[j]? = some r) : (endsS b st).Robots[j]? = some (endR (b.Robots.getD j default) r) := by
  show ((List.range st.Robots.length).map _)[j]? = _
  rw [List.getElem?_map, List.getElem?_range (List.getElem?_eq_some_iff.1 h).1, Option.map_some, getD_r h]
theorem leg_dead {r : ApiRobot} {a : Int} (h : legR s st r a = 0) (hd : r.Dead = true ∨ r.Mute > 0) : a = 0 := by
  unfold legR at h
  by_cases h0 : a < 0 ∨ a ≥ 10
  · rw [if_pos h0] at h; simp at h
  rw [if_neg h0] at h
  by_cases h1 : a = 0
  · exact h1
  rw [if_neg h1, if_pos (by rcases hd with h | h <;> simp [h])] at h; simp at h
theorem chk_seq {acts : List Int} (h : chkS s st acts = 0) : seqB s acts acts.length 0 st = 0 ∧ (movL s.Floor st acts).Nodup := by
  unfold chkS at h
  by_cases h1 : st.Tick ≥ 20000
  · rw [if_pos h1] at h; simp at h
  rw [if_neg h1] at h
  by_cases h2 : (acts.length : Int) ≠ st.Robots.length
  · rw [if_pos h2] at h; simp at h
  rw [if_neg h2] at h
  by_cases h3 : fstB s st acts acts.length 0 ≠ 0
  · rw [if_pos h3] at h; exact absurd h h3
  rw [if_neg h3] at h
  by_cases h4 : ¬ (movL s.Floor st acts).Nodup
  · rw [if_pos h4] at h; simp at h
  rw [if_neg h4] at h
  exact ⟨h, by simpa using h4⟩
end
theorem idxN {α : Type} {l : List α} {n : Nat} {x : α} (h : l[n]? = some x) : idx l (n : Int) = some x := idx_of rfl h
end Go.Taq

/- The mathematics, part AI: when two states are the same; ArenaFaults. -/
set_option linter.unusedVariables false
set_option linter.unusedSimpArgs false
namespace Go.Taq
open Go

section

end
end Go.Taq

/- The mathematics, part AK: acts that stay; ArenaStays. -/
set_option linter.unusedVariables false
set_option linter.unusedSimpArgs false
namespace Go.Taq
open Go

theorem rep_getD (n i : Nat) : (List.replicate n (0 : Int)).getD i 0 = 0 := by
  rw [List.getD_eq_getElem?_getD, List.getElem?_replicate]; split <;> rfl
section
variable {s : ApiSite} {st : ApiState}
theorem fst_stay {m : Nat} : ∀ (n i : Nat), i + n ≤ st.Robots.length → fstB s st (List.replicate m 0) n i = 0
  | 0, _, _ => rfl
  | n + 1, i, h => by
    unfold fstB; rw [rep_getD, if_pos (legS_stay ⟨by omega, by omega⟩)]; exact fst_stay n (i + 1) (by omega)
theorem seq_stay {m : Nat} : ∀ (n i : Nat) (st : ApiState), i + n ≤ st.Robots.length → seqB s (List.replicate m 0) n i st = 0
  | 0, _, _, _ => rfl
  | n + 1, i, st, h => by
    have hl := legS_stay (s := s) (st := st) (i := (i : Int)) ⟨by omega, by omega⟩
    have := (doA_same (s := s) (st := st) i 0).2.1
    unfold doA at this; rw [if_pos hl] at this
    unfold seqB; rw [rep_getD, if_pos hl]; exact seq_stay n (i + 1) _ (by rw [this]; omega)
theorem chk_stay (h : RSt s st) : chkS s st (List.replicate st.Robots.length 0) = if st.Tick ≥ 20000 then 28 else 0 := by
  unfold chkS
  split
  · rfl
  · have e : movL s.Floor st (List.replicate st.Robots.length 0) = allS st := by
      unfold movL
      have : (List.range st.Robots.length).flatMap (mvS s.Floor st (List.replicate st.Robots.length 0)) = [] := List.flatMap_eq_nil_iff.2 fun i _ => by
        unfold mvS; rw [rep_getD, if_pos (by simp [mvB])]
      rw [this, List.append_nil]
    have e1 : fstB s st (List.replicate st.Robots.length 0) (List.replicate st.Robots.length (0 : Int)).length 0 = 0 := fst_stay _ 0 (by rw [List.length_replicate]; omega)
    rw [if_neg (by simp), if_neg (by rw [e1]; simp), if_neg (by rw [e]; simpa using h.clash)]
    exact seq_stay _ 0 st (by rw [List.length_replicate]; omega)
theorem actR_zero {r : ApiRobot} : (actR s st r 0).Cell = r.Cell ∧ (actR s st r 0).Load = r.Load ∧ (actR s st r 0).Dead = r.Dead := by
  unfold actR; split
  · exact ⟨rfl, rfl, rfl⟩
  · unfold nwR; rw [if_neg (by simp [mvB])]; exact ⟨rfl, by simp [lod], rfl⟩
theorem tick_zero {acts : List Int} (hl : acts.length = st.Robots.length) (f : ApiFault) {j : Nat} {r : ApiRobot} (hx : st.Robots[j]? = some r) (ha : acts.getD j 0 = 0) :
    ∃ r', (tickS s st acts f).Robots[j]? = some r' ∧ r'.Cell = r.Cell ∧ r'.Load = r.Load ∧ (r.Dead = true → r'.Dead = true) := by
  obtain ⟨e1, e2⟩ := happ_rl (s := s) (st := st) f
  obtain ⟨r1, hx1, g1, g2, g3⟩ := (happ_rob (s := s) f).2 j r hx
  have hj := (List.getElem?_eq_some_iff.1 hx).1
  obtain ⟨st', b, b1, _, _, b3, b4⟩ := run_own (s := s) (acts := acts) acts.length 0 (happS s st f) (by rw [e1]; omega) j r1 (by omega) (by omega) hx1
  have hb : b = 0 := by rcases b1 with h | h; · rw [h, ha]
                        · exact h
  subst hb
  obtain ⟨q1, q2, q3⟩ := actR_zero (s := s) (st := st') (r := r1)
  exact ⟨_, ends_get b4, q1.trans g1, q2.trans g2, fun h => q3.trans (g3 h)⟩
theorem dead_act {acts : List Int} (hc : chkS s st acts = 0) {j : Nat} {r : ApiRobot} (hx : st.Robots[j]? = some r) (hd : r.Dead = true ∨ r.Mute > 0) : acts.getD j 0 = 0 := by
  have hl := (chk_tick hc).2
  have hj := (List.getElem?_eq_some_iff.1 hx).1
  obtain ⟨st', b, _, b2, _, b3, _⟩ := run_own (s := s) (acts := acts) acts.length 0 st (by omega) j r (by omega) (by omega) hx
  rw [← b2 (chk_seq hc).1]
  exact leg_dead b3 hd
end
theorem okZ {n : Nat} (h : n ≤ 1000) : OkL I64 (List.replicate n 0) := ok_ml (by rw [List.length_replicate]; exact h) (fun x hx => by rw [(List.mem_replicate.1 hx).2]; exact i64_of (by omega))
def mk6 (u : Int × List Int × List ApiRobot × List Int × List Int × List ApiStuck) : ApiState := { Tick := u.1, Shelves := u.2.1, Robots := u.2.2.1, People := u.2.2.2.1, Dead := u.2.2.2.2.1, Stuck := u.2.2.2.2.2 }
theorem Said_taquinlaw16_ArenaStays (s : ApiSite) (ks : OkApiSite s) (st : ApiState) (k : OkApiState st) (l : List Taquinref16Act) (kl : (OkL OkTaquinref16Act) l) : V_taquinlaw16_ArenaStays s st l (fun y => y = true) := by
  unfold V_taquinlaw16_ArenaStays
  refine S_law16_small (Jn.mk (fun b => b = false → RSite s ∧ Few12 st ∧ RSt s st ∧ l.length ≤ 12) (S_ref11_Few ks (by omega) (Ite.f rfl fun h => by cases h) (fun h1 => Ite.t rfl (S_survey_Right ks h1 (by omega) (Ite.f rfl fun h => by cases h) (fun h2 => Ite.t rfl (S_ref14_Few (Ite.f rfl fun h => by cases h) (fun h3 => Ite.t rfl (S_body_RightI h3.sz (Ite.f rfl fun h => by cases h) (fun h4 => Ite.t rfl (S_ref16_Few (by omega) kl (fun h => by cases h) (fun h5 _ => ⟨h2, h3, h4, by omega⟩)))))))))) (fun b hb => Ite.mk (fun _ => rfl) (fun h => ?_)))
  obtain ⟨hrs, h12, hr0, hl12⟩ := hb h
  have hf := hrs.fl
  have hR := hrs.rs
  have ne : ∀ a : Int, (a != a) = false := fun a => by simp
  refine Jn.mk (fun _ => True) (V_loopj (xs := l) kl.1 (fun t : Int × List Int × List ApiRobot × List Int × List Int × List ApiStuck × Int => t.2.2.2.2.2.2) (fun i t => RSt s (stOf t) ∧ SzN (12 + i) (stOf t)) rfl (by exact ⟨hr0, h12.szN⟩) (fun i x t hx ht hI => ?_) (fun _ _ => trivial)) (fun _ _ => rfl)
  obtain ⟨hr, hz⟩ := hI
  have hi := (List.getElem?_eq_some_iff.1 hx).1
  have kx := kl.2 x (List.mem_of_getElem? hx)
  have hsz := hz.sz (by omega)
  have hok := rst_ok hf hr hsz
  have hls := rst_ls hf hR hr hsz
  have hrb := hsz.rb
  rw [ht]
  refine Jn.mk (fun u => RSt s (mk6 u) ∧ SzN (12 + (i + 1)) (mk6 u)) (S_arena_Stays (st := stOf t) hsz (S_arena_Check (st := stOf t) ks hok hls (okZ hrb) (Ite.f ?_ (S_arena_Step (st := stOf t) (n := 12 + i) (by omega) ks hf hR hr hz (okZ hrb) ?_)))) (fun u hu => ⟨rfl, hu⟩)
  · rw [chk_stay hr]
    have e : (stOf t).Tick = t.1 := rfl
    rw [e]; by_cases h : t.1 ≥ 20000
    · rw [if_pos h, decide_eq_false (by omega)]; rfl
    · rw [if_neg h, decide_eq_true (by omega)]; rfl
  refine Jn.mk (fun _ => True) ?_ (fun _ _ => ?_)
  · by_cases h0 : (stepS s (stOf t) (List.replicate (stOf t).Robots.length 0) { Kind := 0, A := 0, N := 0 }).2 = 0
    · obtain ⟨hc, _, et, _, _⟩ := step_next (n := 12 + i) (by omega) hf hR hr hz h0
      rw [et, h0]
      refine Loop.inv (stOf t).Robots.length (fun i (t : Int) => t = (i : Int)) rfl (fun j q hj hq => ?_) (fun q hq => Jn.mk (fun b => b = false) (Ite.nlt (by show ¬ q < ((stOf t).Robots.length : Int); omega) rfl) (fun b hb => Ite.f hb trivial))
      subst hq
      have hy := List.getElem?_eq_getElem hj
      generalize (stOf t).Robots[j] = r at hy
      obtain ⟨r', g1, g2, g3, _⟩ := tick_zero (s := s) (List.length_replicate ..) { Kind := 0, A := 0, N := 0 } hy (rep_getD _ _)
      refine Jn.mk (fun b => b = true) (Ite.lt (by show (j : Int) < ((stOf t).Robots.length : Int); omega) rfl) (fun b hb => Ite.t hb (Jn.mk (fun b => b = false) ⟨r', idxN g1, r, idxN hy, Ite.f (by simp [g2]) (by simp [g3])⟩ (fun b hb => Ite.f hb (by show w64 _ = _; rw [w64_eq (by omega) (by omega)]; simp))))
    · refine Loop.inv 0 (fun i (t : Int) => True) trivial (fun j q hj => by omega) (fun q _ => Jn.mk (fun b => b = false) (Ite.mk (fun _ => ?_) (fun _ => rfl)) (fun b hb => Ite.f hb trivial))
      simpa using h0
  refine Jn.mk (fun u => u = ((stepS s (stOf t) x.Acts x.Fault).1.Tick, (stepS s (stOf t) x.Acts x.Fault).1.Shelves, (stepS s (stOf t) x.Acts x.Fault).1.Robots, (stepS s (stOf t) x.Acts x.Fault).1.People, (stepS s (stOf t) x.Acts x.Fault).1.Dead, (stepS s (stOf t) x.Acts x.Fault).1.Stuck, (stepS s (stOf t) x.Acts x.Fault).2)) ⟨x, idxN hx, S_arena_Step (st := stOf t) (n := 12 + i) (by omega) ks hf hR hr hz kx.Acts rfl⟩ (fun u hu => ?_)
  subst hu
  refine Ite.mk (fun h => ⟨hr, hz.mono (by omega)⟩) (fun h => ?_)
  obtain ⟨hc, _, et, hr', hz'⟩ := step_next (n := 12 + i) (by omega) hf hR hr hz (acts := x.Acts) (f := x.Fault) (by simpa using h)
  have hl := (chk_tick hc).2
  refine Jn.mk (fun _ => True) (Loop.inv (stOf t).Robots.length (fun i (t : Int) => t = (i : Int)) rfl (fun j q hj hq => ?_) (fun q hq => Ite.nlt (by show ¬ q < ((stOf t).Robots.length : Int); omega) trivial)) (fun _ _ => ⟨hr', hz'⟩)
  subst hq
  have hy := List.getElem?_eq_getElem hj
  generalize (stOf t).Robots[j] = r at hy
  have hax := List.getElem?_eq_getElem (show j < x.Acts.length by omega)
  have hgd : x.Acts.getD j 0 = x.Acts[j]'(by omega) := getD_i hax
  generalize x.Acts[j]'_ = c at hax hgd
  have hD := fun hd => dead_act hc hy hd
  have hT := fun h0 => tick_zero (s := s) hl x.Fault hy h0
  rw [hgd] at hD
  rw [← et] at hT
  refine Ite.lt (by show (j : Int) < ((stOf t).Robots.length : Int); omega) ⟨r, idxN hy, Jn.mk (fun b => b = false) (Ite.mk (fun h1 => ?_) (fun h1 => Ite.mk (fun h2 => ?_) (fun h2 => rfl))) (fun b hb => Ite.f hb (Jn.mk (fun b => b = false) (Ite.mk (fun h1 => ?_) (fun h1 => rfl)) (fun b hb => Ite.f hb (by show w64 _ = _; rw [w64_eq (by omega) (by omega)]; simp))))⟩
  · have hc0 := hD (.inl h1)
    obtain ⟨r', g1, g2, g3, _⟩ := hT (hgd.trans hc0)
    exact ⟨x, idxN hx, c, idxN hax, Ite.f (by simp [hc0]) ⟨r', idxN g1, Ite.f (by simp [g2]) (by simp [g3])⟩⟩
  · have hc0 := hD (.inr (by simpa using h2))
    obtain ⟨r', g1, g2, g3, _⟩ := hT (hgd.trans hc0)
    exact ⟨x, idxN hx, c, idxN hax, Ite.f (by simp [hc0]) ⟨r', idxN g1, Ite.f (by simp [g2]) (by simp [g3])⟩⟩
  · obtain ⟨r', g1, _, _, g4⟩ := hT (hgd.trans (hD (.inl h1)))
    exact ⟨r', idxN g1, by simp [g4 h1]⟩
end Go.Taq
