/- The mathematics, several parts in one text. -/
import Derived.Test.YtbpbennpgnjbkaaGreatAG
/- The mathematics, part AH: what acts one after the other do to a robot and to a shelf; ArenaHinders. -/
set_option linter.unusedVariables false
set_option linter.unusedSimpArgs false
namespace Go.Taq
open Go

def actR (s : ApiSite) (st : ApiState) (r : ApiRobot) (b : Int) : ApiRobot := if r.Dead = true then r else nwR s st r b
section
variable {s : ApiSite} {st : ApiState}
theorem doA_own {i : Nat} {r : ApiRobot} (hx : st.Robots[i]? = some r) (a : Int) : ∃ b, (b = a ∨ b = 0) ∧ (legS s st i a = 0 → b = a) ∧ legR s st r b = 0 ∧ doA s st i a = doR s st i r b := by
  have hi := (List.getElem?_eq_some_iff.1 hx).1
  have hl := legA (s := s) hi a
  refine ⟨if legS s st i a = 0 then a else 0, by split <;> simp, fun h => if_pos h, ?_, by unfold doA; exact doS_eq rfl hx⟩
  generalize (if legS s st i a = 0 then a else 0) = b at *
  rw [legS_eq rfl hx] at hl; exact hl
theorem doR_at {i : Nat} {r : ApiRobot} (hx : st.Robots[i]? = some r) (b : Int) : (doR s st i r b).Robots[i]? = some (actR s st r b) := by
  unfold doR actR; split
  · exact hx
  · exact List.getElem?_set_self (List.getElem?_eq_some_iff.1 hx).1
theorem doR_ne {i j : Nat} {r : ApiRobot} (h : j ≠ i) (b : Int) : (doR s st i r b).Robots[j]? = st.Robots[j]? := by
  unfold doR; split
  · rfl
  · exact List.getElem?_set_ne (Ne.symm h)
theorem run_ne {acts : List Int} : ∀ (k i : Nat) (st : ApiState), i + k ≤ st.Robots.length → ∀ j, j < i ∨ i + k ≤ j → (runS s acts k i st).Robots[j]? = st.Robots[j]?
  | 0, i, st, _, j, _ => rfl
  | k + 1, i, st, hi, j, hj => by
    have hx := List.getElem?_eq_getElem (show i < st.Robots.length by omega)
    obtain ⟨b, _, _, _, e⟩ := doA_own (s := s) hx (acts.getD i 0)
    have hl := (doA_same (s := s) (st := st) i (acts.getD i 0)).2.1
    show (runS s acts k (i + 1) (doA s st i (acts.getD i 0))).Robots[j]? = _
    rw [run_ne k (i + 1) _ (by rw [hl]; omega) j (by omega), e, doR_ne (by omega)]
/-- what a robot becomes -/
theorem run_own {acts : List Int} : ∀ (k i : Nat) (st : ApiState), i + k ≤ st.Robots.length → ∀ j r, i ≤ j → j < i + k → st.Robots[j]? = some r →
    ∃ st' b, (b = acts.getD j 0 ∨ b = 0) ∧ (seqB s acts k i st = 0 → b = acts.getD j 0) ∧ st'.Tick = st.Tick ∧ legR s st' r b = 0 ∧ (runS s acts k i st).Robots[j]? = some (actR s st' r b)
  | 0, i, st, _, j, r, h1, h2, _ => by omega
  | k + 1, i, st, hi, j, r, h1, h2, hx => by
    by_cases c : j = i
    · subst c
      obtain ⟨b, hb1, hb2, hb3, e⟩ := doA_own (s := s) hx (acts.getD j 0)
      have hl := (doA_same (s := s) (st := st) j (acts.getD j 0)).2.1
      refine ⟨st, b, hb1, fun hs => hb2 ?_, rfl, hb3, ?_⟩
      · unfold seqB at hs
        by_cases hleg : legS s st j (acts.getD j 0) = 0
        · exact hleg
        · rw [if_neg hleg] at hs; exact absurd hs hleg
      · show (runS s acts k (j + 1) (doA s st j (acts.getD j 0))).Robots[j]? = _
        rw [run_ne k (j + 1) _ (by rw [hl]; omega) j (.inl (by omega)), e]; exact doR_at hx b
    · have hx0 := List.getElem?_eq_getElem (show i < st.Robots.length by omega)
      obtain ⟨b, hb1, hb2, hb3, e⟩ := doA_own (s := s) hx0 (acts.getD i 0)
      obtain ⟨ht, hl, _⟩ := doA_same (s := s) (st := st) i (acts.getD i 0)
      obtain ⟨st', b', p1, p2, p3, p4, p5⟩ := run_own (acts := acts) k (i + 1) (doA s st i (acts.getD i 0)) (by rw [hl]; omega) j r (by omega) (by omega) (by rw [e, doR_ne c]; exact hx)
      refine ⟨st', b', p1, fun hs => p2 ?_, p3.trans ht, p4, p5⟩
      unfold seqB at hs
      by_cases hleg : legS s st i (acts.getD i 0) = 0
      · rw [if_pos hleg] at hs; unfold doA; rw [if_pos hleg]; exact hs
      · rw [if_neg hleg] at hs; exact absurd hs hleg
theorem lod_mv {r : ApiRobot} {a : Int} (h : mvB a = true) : lod st r a = r.Load := by
  have := mvB_iff.1 h
  unfold lod; rw [if_neg (by omega), if_neg (by omega)]
theorem nwS_get {r : ApiRobot} {b : Int} {m : Nat} {c : Int} (hc : st.Shelves[m]? = some c) : ∃ c1, (nwS s st r b)[m]? = some c1 ∧ (c1 = c ∨ mvB b = true ∧ (nx s.Floor r.Cell (b - 1)).2 = true ∧ r.Load = (m : Int) ∧ c1 = (nx s.Floor r.Cell (b - 1)).1) := by
  unfold nwS
  split
  · rename_i h
    obtain ⟨h1, h2⟩ := h
    rw [Bool.and_eq_true] at h1
    rw [lod_mv h1.1] at h2 ⊢
    by_cases e : r.Load.toNat = m
    · exact ⟨_, by rw [e]; exact List.getElem?_set_self (List.getElem?_eq_some_iff.1 hc).1, .inr ⟨h1.1, h1.2, by omega, rfl⟩⟩
    · exact ⟨c, by rw [List.getElem?_set_ne e]; exact hc, .inl rfl⟩
  · exact ⟨c, hc, .inl rfl⟩
/-- where a shelf comes to stand -/
theorem run_shelf {acts : List Int} {m : Nat} : ∀ (k i : Nat) (st : ApiState), i + k ≤ st.Robots.length → ∀ c, st.Shelves[m]? = some c →
    ∃ c', (runS s acts k i st).Shelves[m]? = some c' ∧ (c' = c ∨ ∃ j r, i ≤ j ∧ j < i + k ∧ st.Robots[j]? = some r ∧ r.Load = (m : Int) ∧ r.Dead = false ∧ mvB (acts.getD j 0) = true ∧ (nx s.Floor r.Cell (acts.getD j 0 - 1)).2 = true ∧ c' = (nx s.Floor r.Cell (acts.getD j 0 - 1)).1)
  | 0, i, st, _, c, hc => ⟨c, hc, .inl rfl⟩
  | k + 1, i, st, hi, c, hc => by
    have hx := List.getElem?_eq_getElem (show i < st.Robots.length by omega)
    generalize st.Robots[i]'_ = r at hx
    obtain ⟨b, hb1, hb2, hb3, e⟩ := doA_own (s := s) hx (acts.getD i 0)
    have hl := (doA_same (s := s) (st := st) i (acts.getD i 0)).2.1
    have h1 : ∃ c1, (doA s st i (acts.getD i 0)).Shelves[m]? = some c1 ∧ (c1 = c ∨ r.Load = (m : Int) ∧ r.Dead = false ∧ mvB (acts.getD i 0) = true ∧ (nx s.Floor r.Cell (acts.getD i 0 - 1)).2 = true ∧ c1 = (nx s.Floor r.Cell (acts.getD i 0 - 1)).1) := by
      rw [e]; unfold doR; split
      · exact ⟨c, hc, .inl rfl⟩
      · rename_i hd
        obtain ⟨c1, q1, q2⟩ := nwS_get (s := s) (r := r) (b := b) hc
        refine ⟨c1, q1, ?_⟩
        rcases q2 with q2 | ⟨g1, g2, g3, g4⟩
        · exact .inl q2
        · have : b = acts.getD i 0 := by
            rcases hb1 with h | h
            · exact h
            · rw [h] at g1; exact absurd g1 (by decide)
          rw [this] at g1 g2 g4
          exact .inr ⟨g3, by simpa using hd, g1, g2, g4⟩
    obtain ⟨c1, q1, q2⟩ := h1
    obtain ⟨c', p1, p2⟩ := run_shelf (acts := acts) k (i + 1) (doA s st i (acts.getD i 0)) (by rw [hl]; omega) c1 q1
    refine ⟨c', p1, ?_⟩
    rcases p2 with p2 | ⟨j, r2, j1, j2, j3, j4⟩
    · rcases q2 with q2 | q2
      · exact .inl (p2.trans q2)
      · exact .inr ⟨i, r, by omega, by omega, hx, q2.1, q2.2.1, q2.2.2.1, q2.2.2.2.1, p2.trans q2.2.2.2.2⟩
    · rw [e, doR_ne (by omega)] at j3
      exact .inr ⟨j, r2, by omega, by omega, j3, j4⟩
/-- what a fault leaves as it was -/
theorem happ_rob (f : ApiFault) : (happS s st f).Shelves = st.Shelves ∧ ∀ (j : Nat) r, st.Robots[j]? = some r → ∃ r', (happS s st f).Robots[j]? = some r' ∧ r'.Cell = r.Cell ∧ r'.Load = r.Load ∧ (r.Dead = true → r'.Dead = true) := by
  have same : ∀ X : ApiState, X.Shelves = st.Shelves → X.Robots = st.Robots → X.Shelves = st.Shelves ∧ ∀ (j : Nat) r, st.Robots[j]? = some r → ∃ r', X.Robots[j]? = some r' ∧ r'.Cell = r.Cell ∧ r'.Load = r.Load ∧ (r.Dead = true → r'.Dead = true) :=
    fun X h1 h2 => ⟨h1, fun j r h => ⟨r, by rw [h2]; exact h, rfl, rfl, id⟩⟩
  have one : ∀ (n : Nat) (r0 y : ApiRobot), st.Robots[n]? = some r0 → y.Cell = r0.Cell → y.Load = r0.Load → (r0.Dead = true → y.Dead = true) → ∀ (j : Nat) r, st.Robots[j]? = some r → ∃ r', (st.Robots.set n y)[j]? = some r' ∧ r'.Cell = r.Cell ∧ r'.Load = r.Load ∧ (r.Dead = true → r'.Dead = true) := fun n r0 y hx h1 h2 h3 j r h => by
    by_cases e : j = n
    · subst e; rw [hx] at h; cases h
      exact ⟨y, List.getElem?_set_self (List.getElem?_eq_some_iff.1 hx).1, h1, h2, h3⟩
    · exact ⟨r, by rw [List.getElem?_set_ne (Ne.symm e)]; exact h, rfl, rfl, id⟩
  cases hb : possB s st f with
  | false => rw [happ_no hb]; exact same _ rfl rfl
  | true =>
    by_cases h1 : f.Kind = 1
    · have hl := hb; rw [possB_1 h1] at hl
      obtain ⟨n, r0, hn, hx, _, hr⟩ := liveB_iff hl
      rw [happ_1 hb h1, hr]; refine ⟨rfl, ?_⟩
      show ∀ (j : Nat) r, _ → ∃ r', (st.Robots.set f.A.toNat _)[j]? = some r' ∧ _
      rw [hn]; exact one n r0 _ hx rfl rfl fun _ => rfl
    by_cases h2 : f.Kind = 2
    · rw [happ_2 hb h2]; exact same _ rfl rfl
    by_cases h3 : f.Kind = 3
    · have hl := hb; rw [possB_3 h3, Bool.and_eq_true] at hl
      obtain ⟨n, r0, hn, hx, _, hr⟩ := liveB_iff hl.1
      rw [happ_3 hb h3, hr]; refine ⟨rfl, ?_⟩
      show ∀ (j : Nat) r, _ → ∃ r', (st.Robots.set f.A.toNat _)[j]? = some r' ∧ _
      rw [hn]; exact one n r0 _ hx rfl rfl id
    by_cases h4 : f.Kind = 4
    · rw [happ_4 hb h4]; exact same _ rfl rfl
    by_cases h5 : f.Kind = 5
    · rw [happ_5 hb h5]; exact same _ rfl rfl
    · by_cases h0 : f.Kind = 0
      · rw [happ_0 h0]; exact same _ rfl rfl
      · have := possB_n (s := s) (st := st) h0 h1 h2 h3 h4 h5
        rw [this] at hb; cases hb
theorem ends_get {b : ApiState} {j : Nat} {r : ApiRobot} (h : st.Robots[j]? = some r) : (endsS b st).Robots[j]? = some (endR (b.Robots.getD j default) r) := by
  show ((List.range st.Robots.length).map _)[j]? = _
  rw [List.getElem?_map, List.getElem?_range (List.getElem?_eq_some_iff.1 h).1, Option.map_some, getD_r h]
theorem actR_cell {r : ApiRobot} {b : Int} : (actR s st r b).Cell = r.Cell ∨ r.Dead = false ∧ mvB b = true ∧ (nx s.Floor r.Cell (b - 1)).2 = true ∧ (actR s st r b).Cell = (nx s.Floor r.Cell (b - 1)).1 := by
  unfold actR; split
  · exact .inl rfl
  · rename_i hd
    unfold nwR; split
    · rename_i h; rw [Bool.and_eq_true] at h; exact .inr ⟨by simpa using hd, h.1, h.2, rfl⟩
    · exact .inl rfl
/-- a robot after a tick -/
theorem tick_rob {acts : List Int} (hl : acts.length = st.Robots.length) (f : ApiFault) {j : Nat} {r : ApiRobot} (hx : st.Robots[j]? = some r) :
    ∃ r', (tickS s st acts f).Robots[j]? = some r' ∧ (r'.Cell = r.Cell ∨ mvB (acts.getD j 0) = true ∧ (nx s.Floor r.Cell (acts.getD j 0 - 1)).2 = true ∧ r'.Cell = (nx s.Floor r.Cell (acts.getD j 0 - 1)).1) := by
  obtain ⟨e1, e2⟩ := happ_rl (s := s) (st := st) f
  obtain ⟨r1, hx1, g1, g2, g3⟩ := (happ_rob (s := s) f).2 j r hx
  have hj := (List.getElem?_eq_some_iff.1 hx).1
  obtain ⟨st', b, b1, _, _, b3, b4⟩ := run_own (s := s) (acts := acts) acts.length 0 (happS s st f) (by rw [e1]; omega) j r1 (by omega) (by omega) hx1
  refine ⟨_, ends_get b4, ?_⟩
  show (actR s st' r1 b).Cell = _ ∨ _ ∧ _ ∧ (actR s st' r1 b).Cell = _
  rw [← g1]
  rcases actR_cell (s := s) (st := st') (r := r1) (b := b) with h | ⟨_, h1, h2, h3⟩
  · exact .inl h
  · have : b = acts.getD j 0 := by
      rcases b1 with h | h
      · exact h
      · rw [h] at h1; exact absurd h1 (by decide)
    rw [this] at h1 h2
    exact .inr ⟨h1, h2, by rw [h3, this]⟩
theorem chk_seq {acts : List Int} (h : chkS s st acts = 0) : seqB s acts acts.length 0 st = 0 ∧ (movL s.Floor st acts).Nodup := by
  unfold chkS at h
  by_cases h1 : st.Tick ≥ 20000
  · rw [if_pos h1] at h; simp at h
  rw [if_neg h1] at h
  by_cases h2 : (acts.length : Int) ≠ st.Robots.length
  · rw [if_pos h2] at h; simp at h
  rw [if_neg h2] at h
  by_cases h3 : fstB s st acts acts.length 0 ≠ 0
  · rw [if_pos h3] at h; exact absurd h h3
  rw [if_neg h3] at h
  by_cases h4 : ¬ (movL s.Floor st acts).Nodup
  · rw [if_pos h4] at h; simp at h
  rw [if_neg h4] at h
  exact ⟨h, by simpa using h4⟩
end
theorem idxN {α : Type} {l : List α} {n : Nat} {x : α} (h : l[n]? = some x) : idx l (n : Int) = some x := idx_of rfl h
end Go.Taq

/- The mathematics, part AI: when two states are the same; ArenaFaults. -/
set_option linter.unusedVariables false
set_option linter.unusedSimpArgs false
namespace Go.Taq
open Go

section

end
end Go.Taq

/- The mathematics, part AK: acts that stay; ArenaStays. -/
set_option linter.unusedVariables false
set_option linter.unusedSimpArgs false
namespace Go.Taq
open Go

section
variable {s : ApiSite} {st : ApiState}
theorem actR_zero {r : ApiRobot} : (actR s st r 0).Cell = r.Cell ∧ (actR s st r 0).Load = r.Load ∧ (actR s st r 0).Dead = r.Dead := by
  unfold actR; split
  · exact ⟨rfl, rfl, rfl⟩
  · unfold nwR; rw [if_neg (by simp [mvB])]; exact ⟨rfl, by simp [lod], rfl⟩
end
def mk6 (u : Int × List Int × List ApiRobot × List Int × List Int × List ApiStuck) : ApiState := { Tick := u.1, Shelves := u.2.1, Robots := u.2.2.1, People := u.2.2.2.1, Dead := u.2.2.2.2.1, Stuck := u.2.2.2.2.2 }
end Go.Taq

/- The mathematics, part AL: steps to neighbours, shelves with their robots; ArenaSafe. -/
set_option linter.unusedVariables false
set_option linter.unusedSimpArgs false
namespace Go.Taq
open Go

theorem S_near {f : ApiFloor} (hf : RF f) {a b : Int} (h : a = b ∨ ∃ d : Nat, d < 6 ∧ nx f a d = (b, true)) {post : Bool → Prop} (hp : post true) : V_taquinlaw16_near f a b post := by
  unfold V_taquinlaw16_near
  refine Jn.mk (fun x => x = true) (Loop.inv 6 (fun i (t : Bool × Int) => t.2 = (i : Int) ∧ ((a = b ∨ ∃ d : Nat, d < i ∧ nx f a d = (b, true)) → t.1 = true)) ⟨rfl, fun h => ?_⟩ (fun i t hi hI => ?_) (fun t hI => Ite.nlt (by omega) (hI.2 h))) (fun x hx => hx ▸ hp)
  · rcases h with h | ⟨d, hd, _⟩
    · simp [h]
    · omega
  obtain ⟨ht, hI⟩ := hI
  rw [ht]
  refine Ite.lt (by omega) (S_floor_Next hf (Jn.mk (fun x => (t.1 = true → x = true) ∧ (nx f a i = (b, true) → x = true)) (Ite.mk (fun h1 => ⟨fun _ => rfl, fun _ => rfl⟩) (fun h1 => Ite.mk (fun h2 => ⟨fun h => (by rw [h1] at h; cases h), fun h => by rw [h]; simp⟩) (fun h2 => ⟨fun h => (by rw [h1] at h; cases h), fun h => by rw [h] at h2; cases h2⟩))) (fun x hx => ⟨by show w64 _ = _; rw [w64_eq (by omega) (by omega)]; simp, fun h => ?_⟩)))
  rcases h with h | ⟨d, hd, e⟩
  · exact hx.1 (hI (.inl h))
  · by_cases e2 : d = i
    · subst e2; exact hx.2 e
    · exact hx.1 (hI (.inr ⟨d, by omega, e⟩))
section
variable {s : ApiSite} {st : ApiState}
theorem actR_load {r : ApiRobot} {b : Int} (h : b = 0 ∨ mvB b = true) : (actR s st r b).Load = r.Load := by
  rcases h with h | h
  · subst h; exact actR_zero.2.1
  · unfold actR; split
    · rfl
    · unfold nwR; split <;> exact lod_mv h
theorem tick_load {acts : List Int} (hl : acts.length = st.Robots.length) (f : ApiFault) {j : Nat} {r : ApiRobot} (hx : st.Robots[j]? = some r) (hm : mvB (acts.getD j 0) = true) :
    ∃ r', (tickS s st acts f).Robots[j]? = some r' ∧ r'.Load = r.Load := by
  obtain ⟨e1, e2⟩ := happ_rl (s := s) (st := st) f
  obtain ⟨r1, hx1, g1, g2, g3⟩ := (happ_rob (s := s) f).2 j r hx
  have hj := (List.getElem?_eq_some_iff.1 hx).1
  obtain ⟨st', b, b1, _, _, b3, b4⟩ := run_own (s := s) (acts := acts) acts.length 0 (happS s st f) (by rw [e1]; omega) j r1 (by omega) (by omega) hx1
  refine ⟨_, ends_get b4, ?_⟩
  refine (actR_load (s := s) (st := st') (r := r1) (b := b) ?_).trans g2
  rcases b1 with h | h
  · exact .inr (by rw [h]; exact hm)
  · exact .inl h
theorem step_fail {acts : List Int} {f : ApiFault} (h : (stepS s st acts f).2 ≠ 0) : (stepS s st acts f).1 = emptyS := by
  unfold stepS at h ⊢
  by_cases hc : chkS s st acts ≠ 0
  · rw [if_pos hc]
  · rw [if_neg hc] at h ⊢
    by_cases hb : possB s st f = false
    · rw [if_pos hb]
    · rw [if_neg hb] at h; exact absurd rfl h
/-- a shelf that stands elsewhere after a tick: a robot took it along -/
theorem tick_shelf {acts : List Int} (hl : acts.length = st.Robots.length) (f : ApiFault) {m : Nat} {c : Int} (hx : st.Shelves[m]? = some c) :
    ∃ c', (tickS s st acts f).Shelves[m]? = some c' ∧ (c' = c ∨ ∃ (j : Nat) (r r' : ApiRobot), st.Robots[j]? = some r ∧ r.Load = (m : Int) ∧ (tickS s st acts f).Robots[j]? = some r' ∧ r'.Load = (m : Int)) := by
  obtain ⟨e1, e2⟩ := happ_rl (s := s) (st := st) f
  obtain ⟨hs1, hs2⟩ := happ_rob (s := s) (st := st) f
  obtain ⟨c', g, d⟩ := run_shelf (s := s) (acts := acts) (m := m) acts.length 0 (happS s st f) (by rw [e1]; omega) c (by rw [hs1]; exact hx)
  refine ⟨c', g, ?_⟩
  rcases d with e | ⟨j, rX, j1, j2, j3, j4, _, j5, _⟩
  · exact .inl e
  · have hy := List.getElem?_eq_getElem (show j < st.Robots.length by omega)
    generalize st.Robots[j] = r at hy
    obtain ⟨r', p1, p2, p3, _⟩ := hs2 j r hy
    rw [j3] at p1; cases p1
    obtain ⟨r2, q1, q2⟩ := tick_load (s := s) hl f hy j5
    exact .inr ⟨j, r, r2, hy, p3.symm.trans j4, q1, q2.trans (p3.symm.trans j4)⟩
end
theorem Said_taquinlaw16_ArenaSafe (s : ApiSite) (ks : OkApiSite s) (st : ApiState) (k : OkApiState st) (l : List Taquinref16Act) (kl : (OkL OkTaquinref16Act) l) : V_taquinlaw16_ArenaSafe s st l (fun y => y = true) := by
  unfold V_taquinlaw16_ArenaSafe
  refine S_law16_small (Jn.mk (fun b => b = false → RSite s ∧ Few12 st ∧ RSt s st ∧ l.length ≤ 12) (S_ref11_Few ks (by omega) (Ite.f rfl fun h => by cases h) (fun h1 => Ite.t rfl (S_survey_Right ks h1 (by omega) (Ite.f rfl fun h => by cases h) (fun h2 => Ite.t rfl (S_ref14_Few (Ite.f rfl fun h => by cases h) (fun h3 => Ite.t rfl (S_body_RightI h3.sz (Ite.f rfl fun h => by cases h) (fun h4 => Ite.t rfl (S_ref16_Few (by omega) kl (fun h => by cases h) (fun h5 _ => ⟨h2, h3, h4, by omega⟩)))))))))) (fun b hb => Ite.mk (fun _ => rfl) (fun h => ?_)))
  obtain ⟨hrs, h12, hr0, hl12⟩ := hb h
  have hf := hrs.fl
  have hR := hrs.rs
  have ne : ∀ a : Int, (a != a) = false := fun a => by simp
  refine Jn.mk (fun _ => True) (V_loopj (xs := l) kl.1 (fun t : Int × List Int × List ApiRobot × List Int × List Int × List ApiStuck × Int => t.2.2.2.2.2.2) (fun i t => RSt s (stOf t) ∧ SzN (12 + i) (stOf t)) rfl (by exact ⟨hr0, h12.szN⟩) (fun i x t hx ht hI => ?_) (fun _ _ => trivial)) (fun _ _ => rfl)
  obtain ⟨hr, hz⟩ := hI
  have hi := (List.getElem?_eq_some_iff.1 hx).1
  have kx := kl.2 x (List.mem_of_getElem? hx)
  have hsz := hz.sz (by omega)
  have hrb := hsz.rb
  have hsh := hsz.sh
  rw [ht]
  refine Jn.mk (fun u => RSt s (mk6 u) ∧ SzN (12 + (i + 1)) (mk6 u)) ?_ (fun u hu => ⟨rfl, hu⟩)
  refine Jn.mk (fun u => u = ((stepS s (stOf t) x.Acts x.Fault).1.Tick, (stepS s (stOf t) x.Acts x.Fault).1.Shelves, (stepS s (stOf t) x.Acts x.Fault).1.Robots, (stepS s (stOf t) x.Acts x.Fault).1.People, (stepS s (stOf t) x.Acts x.Fault).1.Dead, (stepS s (stOf t) x.Acts x.Fault).1.Stuck, (stepS s (stOf t) x.Acts x.Fault).2)) ⟨x, idxN hx, S_arena_Step (st := stOf t) (n := 12 + i) (by omega) ks hf hR hr hz kx.Acts rfl⟩ (fun u hu => ?_)
  subst hu
  refine Ite.mk (fun h => ?_) (fun h => ?_)
  · have e := step_fail (s := s) (st := stOf t) (acts := x.Acts) (f := x.Fault) (by simpa using h)
    have := S_body_Same (a := (stepS s (stOf t) x.Acts x.Fault).1) (b := emptyS) (by rw [e]; exact sz_empty) e (post := fun x40 => Ite (!x40) (false = true) (RSt s (stOf t) ∧ SzN (12 + (i + 1)) (stOf t))) (Ite.f rfl ⟨hr, hz.mono (by omega)⟩)
    exact this
  obtain ⟨hc, _, et, hr', hz'⟩ := step_next (n := 12 + i) (by omega) hf hR hr hz (acts := x.Acts) (f := x.Fault) (by simpa using h)
  have hl := (chk_tick hc).2
  have hnd := (chk_seq hc).2
  have hk := tick_keeps (n := 12 + i) (by omega) hf hR hr hz hc x.Fault
  have hsz' := hz'.sz (by omega)
  have htk := hr.tick
  rw [← et] at hk
  obtain ⟨_, _, hkt, hkl⟩ := hk
  have hT := fun {j : Nat} {r : ApiRobot} hy => tick_rob (s := s) hl x.Fault (j := j) (r := r) hy
  have hS := fun {m : Nat} {c : Int} hy => tick_shelf (s := s) hl x.Fault (m := m) (c := c) hy
  rw [← et] at hT hS
  refine ⟨x, idxN hx, S_body_Moving (st := stOf t) hf hsz hl (fun l hp => S_body_Clash (by have := hp.length_eq; have := movL_len hsz s.Floor x.Acts; omega) (hp.nodup_iff.2 hnd) ?_)⟩
  generalize (stepS s (stOf t) x.Acts x.Fault).1 = nxt at *
  refine Jn.mk (fun b => b = false) (Ite.f rfl (S_body_Right (st := nxt) hr' hsz' (Ite.t rfl (Ite.f ?_ (Ite.f ?_ ?_))))) (fun b hb => Ite.f hb ?_)
  · rw [w64_eq (by have : (stOf t).Tick = t.1 := rfl; omega) (by have : (stOf t).Tick = t.1 := rfl; omega)]
    show (nxt.Tick != (stOf t).Tick + 1) = false
    rw [hkt]; exact ne _
  · show ((nxt.Robots.length : Int) != ((stOf t).Robots.length : Int)) = false
    rw [hkl]; exact ne _
  · show ((nxt.Shelves.length : Int) != ((stOf t).Shelves.length : Int)) = false
    rw [hr'.sl, hr.sl]; exact ne _
  refine Jn.mk (fun _ => True) (Loop.inv (stOf t).Robots.length (fun i (t : Int) => t = (i : Int)) rfl (fun j q hj hq => ?_) (fun q hq => Ite.nlt (by show ¬ q < ((stOf t).Robots.length : Int); omega) trivial)) (fun _ _ => ?_)
  · subst hq
    have hy := List.getElem?_eq_getElem hj
    generalize (stOf t).Robots[j] = r at hy
    obtain ⟨r', g1, g2⟩ := hT hy
    refine Ite.lt (by show (j : Int) < ((stOf t).Robots.length : Int); omega) ⟨r, idxN hy, r', idxN g1, S_near hf ?_ (Ite.f rfl (by show w64 _ = _; rw [w64_eq (by omega) (by omega)]; simp))⟩
    rcases g2 with g2 | ⟨g2, g3, g4⟩
    · exact .inl g2.symm
    · have := mvB_iff.1 g2
      refine .inr ⟨(x.Acts.getD j 0 - 1).toNat, by omega, ?_⟩
      rw [Int.toNat_of_nonneg (by omega)]
      exact Prod.ext g4.symm g3
  refine Jn.mk (fun _ => True) (Loop.inv (stOf t).Shelves.length (fun i (t : Int) => t = (i : Int)) rfl (fun m q hm hq => ?_) (fun q hq => Ite.nlt (by show ¬ q < ((stOf t).Shelves.length : Int); omega) trivial)) (fun _ _ => ⟨hr', hz'⟩)
  subst hq
  have hy := List.getElem?_eq_getElem hm
  generalize (stOf t).Shelves[m] = c at hy
  obtain ⟨c', g1, g2⟩ := hS hy
  refine Ite.lt (by show (m : Int) < ((stOf t).Shelves.length : Int); omega) (Jn.mk (fun b => b = false) ⟨c, idxN hy, c', idxN g1, Ite.mk (fun h2 => ?_) (fun h2 => rfl)⟩ (fun b hb => Ite.f hb (by show w64 _ = _; rw [w64_eq (by omega) (by omega)]; simp)))
  have h2' : c ≠ c' := by simpa using h2
  rcases g2 with g2 | ⟨j, r, r', q1, q2, q3, q4⟩
  · exact absurd g2.symm h2'
  · have o1 := ((hr.rob j r q1).own (by omega)).1
    have o2 := ((hr'.rob j r' q3).own (by omega)).1
    rw [q2] at o1
    rw [q4] at o2
    refine S_body_Carrier (st := stOf t) hsz (Ite.f (by rw [o1]; exact decide_eq_false (by omega)) (S_body_Carrier (st := stOf t) hsz (S_body_Carrier (st := nxt) hsz' ?_)))
    rw [o1, o2]; exact ne _
end Go.Taq
