/- The mathematics, several parts in one text. -/
import Derived.Test.YtbpbennpgnjbkaaGreatAE
import Derived.Test.YtbpbennpgnjbkaaGreatNC
import Derived.Test.YtbpbennpgnjbkaaGreatVc
import Derived.IntWalk
/- The mathematics, part AF: right states and right sites by the program's own functions; the bounds of the statements of chapter 16. -/
set_option linter.unusedVariables false
set_option linter.unusedSimpArgs false
namespace Go.Taq
open Go

section
variable {s : ApiSite} {st : ApiState}
theorem S_body_withinI {x a b : Int} {post : Bool → Prop} (hp : post (decide (x ≥ a) && decide (x ≤ b))) : V_body_within x a b post := by
  unfold V_body_within; exact Jand2 hp
theorem S_body_onI {f : ApiFloor} {c : Int} {ks : List Int} (hk : ks.length ≤ 10) (h1 : ks.contains (-1) = false) {post : Bool → Prop} (hp : post (ks.contains (kx f c))) : V_body_on f c ks post := by
  unfold V_body_on
  unfold kx at hp
  refine Jn.mk' (Ite.mk (fun h2 => Ite.mk (fun h3 => ?_) (fun h3 => ?_)) (fun h2 => ?_))
  · have hc : isC f c = true := isC_iff.2 ⟨by simpa using h2, by simpa using h3⟩
    rw [if_pos hc] at hp
    exact ⟨_, idx_kd hc, S_slices_Contains (by unfold maxLen; omega) hp⟩
  · have hc : isC f c = false := isC_not.2 (fun h => by simp at h3; omega)
    rw [hc] at hp; simp only [Bool.false_eq_true, if_false] at hp; rw [h1] at hp; exact hp
  · have hc : isC f c = false := isC_not.2 (fun h => by simp at h2; omega)
    rw [hc] at hp; simp only [Bool.false_eq_true, if_false] at hp; rw [h1] at hp; exact hp
theorem S_body_robotsI (hz : Sz st) {post : Bool → Prop} (hF : post false) (hT : (∀ (i : Nat) r, st.Robots[i]? = some r → RRob s st i r) → post true) : V_body_robots s st post := by
  unfold V_body_robots
  have q1 := hz.rb
  have q2 := hz.sh
  let P : Nat → ApiRobot → Prop := fun k z => isC s.Floor z.Cell = true ∧ kd s.Floor z.Cell ≠ 0 ∧ (-1 ≤ z.Load ∧ z.Load < st.Shelves.length) ∧ (0 ≤ z.Charge ∧ z.Charge ≤ 1000000) ∧ (0 ≤ z.Rest ∧ z.Rest ≤ 20000) ∧ (0 ≤ z.Mute ∧ z.Mute ≤ 20000) ∧ (0 ≤ z.Load → st.Shelves.getD z.Load.toNat 0 = z.Cell ∧ ∀ (j : Nat) y, j < k → st.Robots[j]? = some y → y.Load ≠ z.Load)
  refine Jn.mk (fun _ => ∀ (k : Nat) z, st.Robots[k]? = some z → P k z) (V_loopc (xs := st.Robots) (by unfold maxLen; omega) (fun t : List (Int × Bool) × Int => t.2) (fun i t => (∀ x, (lk t.1 x).getD false = true ↔ ∃ (k : Nat) (z : ApiRobot), k < i ∧ st.Robots[k]? = some z ∧ z.Load = x) ∧ ∀ (k : Nat) z, k < i → st.Robots[k]? = some z → P k z) rfl ⟨fun x => ⟨fun hx => by simp [lk] at hx, fun ⟨k, z, h, _⟩ => by omega⟩, fun k z h => by omega⟩ (fun i r t hx ht hI => ?_) (fun t h k z hk => h.2 k z (List.getElem?_eq_some_iff.1 hk).1 hk)) (fun _ hall => hT fun i r hi => ?_)
  · obtain ⟨hm, hP⟩ := hI
    refine Jn.mk (fun b => b = false → isC s.Floor r.Cell = true ∧ kd s.Floor r.Cell ≠ 0 ∧ (-1 ≤ r.Load ∧ r.Load < st.Shelves.length)) (Ite.mk (fun _ h => by cases h) (fun h1 => Ite.mk (fun _ h => by cases h) (fun h2 => ?_))) (fun b hb => Ite.mk (fun _ => hF) (fun h => ?_))
    · have hc : isC s.Floor r.Cell = true := isC_iff.2 ⟨by simp at h1; omega, by simp at h2; omega⟩
      refine ⟨_, idx_kd hc, Ite.mk (fun _ h => by cases h) (fun h3 => S_body_withinI (fun h4 => ⟨hc, by simpa using h3, ?_⟩))⟩
      rw [w64_eq (by omega) (by omega)] at h4
      simp at h4; omega
    obtain ⟨c1, c2, c3⟩ := hb h
    refine Jn.mk (fun b => b = false → (0 ≤ r.Charge ∧ r.Charge ≤ 1000000) ∧ (0 ≤ r.Rest ∧ r.Rest ≤ 20000) ∧ (0 ≤ r.Mute ∧ r.Mute ≤ 20000)) (S_body_withinI (Ite.mk (fun h1 => S_body_withinI (Ite.mk (fun h2 => S_body_withinI (fun h3 => ?_)) (fun _ h => by cases h))) (fun _ h => by cases h))) (fun b hb => Ite.mk (fun _ => hF) (fun h => ?_))
    · simp at h1 h2 h3; omega
    obtain ⟨c4, c5, c6⟩ := hb h
    refine Jn.mk (fun b => b = false → 0 ≤ r.Load → st.Shelves.getD r.Load.toNat 0 = r.Cell ∧ ∀ (j : Nat) y, j < i → st.Robots[j]? = some y → y.Load ≠ r.Load) (Ite.mk (fun h0 => Ite.mk (fun _ h => by cases h) (fun h1 => ?_)) (fun h0 _ h => by simp at h0; omega)) (fun b hb => Ite.mk (fun _ => hF) (fun h => ⟨by show w64 (t.2 + 1) = _; rw [ht], fun x => ?_, fun k z hk hz2 => ?_⟩))
    · have h0' : 0 ≤ r.Load := by simpa using h0
      obtain ⟨m, hm2⟩ := Int.eq_ofNat_of_zero_le h0'
      have hsx := List.getElem?_eq_getElem (show m < st.Shelves.length by omega)
      refine ⟨_, idx_of hm2 hsx, fun h2 _ => ⟨?_, fun j y hj hy e => ?_⟩⟩
      · rw [hm2]; show st.Shelves.getD m 0 = _; rw [getD_i hsx]; simpa using h2
      · have := (hm r.Load).2 ⟨j, y, hj, hy, e⟩
        rw [h1] at this; cases this
    · show (lk (upd t.1 r.Load true) x).getD false = true ↔ _
      rw [lk_upd]
      by_cases e : r.Load = x
      · rw [if_pos e]; exact ⟨fun _ => ⟨i, r, by omega, hx, e⟩, fun _ => rfl⟩
      · rw [if_neg e, hm x]
        constructor
        · rintro ⟨k, z, h1, h2, h3⟩; exact ⟨k, z, by omega, h2, h3⟩
        · rintro ⟨k, z, h1, h2, h3⟩
          refine ⟨k, z, ?_, h2, h3⟩
          by_cases e2 : k = i
          · subst e2; rw [hx] at h2; cases h2; exact absurd h3 e
          · omega
    · by_cases e : k = i
      · subst e; rw [hx] at hz2; cases hz2
        exact ⟨c1, c2, c3, c4, c5, c6, hb h⟩
      · exact hP k z (by omega) hz2
  · obtain ⟨c1, c2, c3, c4, c5, c6, c7⟩ := hall i r hi
    refine ⟨c1, c2, c3, c4, c5, c6, fun h0 => ⟨carr_at hi h0 (fun k z hk e => ?_), (c7 h0).1⟩⟩
    rcases Nat.lt_trichotomy k i with h | h | h
    · exact absurd e ((c7 h0).2 k z h hk)
    · exact h
    · exact absurd e.symm (((hall k z hk).2.2.2.2.2.2 (by omega)).2 i r h hi)
theorem S_body_restI (hz : Sz st) {post : Bool → Prop} (hF : post false) (hT : (∀ (i : Nat) c, st.Dead[i]? = some c → isC s.Floor c = true) → (∀ (i : Nat) x y, st.Dead[i]? = some x → st.Dead[i + 1]? = some y → x < y) → (∀ (i : Nat) x, st.Stuck[i]? = some x → kx s.Floor x.Cell = 6 ∧ 1 ≤ x.Left ∧ x.Left ≤ 20000) → (∀ (i : Nat) x y, st.Stuck[i]? = some x → st.Stuck[i + 1]? = some y → x.Cell < y.Cell) → post true) : V_body_rest s.Floor st post := by
  unfold V_body_rest
  have q4 := hz.dd; have q5 := hz.sk
  refine V_chk (xs := st.Dead) (by unfold maxLen; omega) (fun i x => isC s.Floor x = true ∧ ∀ y, 0 < i → st.Dead[i - 1]? = some y → y < x) (T := fun i q => ∃ x14, idx st.Dead i = some x14 ∧ Jn (fun (J16 : Bool → Prop) => Ite (decide (x14 < 0)) (J16 true) (Ite (decide (x14 ≥ (s.Floor.Kind.length : Int))) (J16 true) (Ite (decide (i > 0)) (∃ x20, idx st.Dead (w64 (i - 1)) = some x20 ∧ J16 (decide (x14 ≤ x20))) (J16 false)))) q) (fun i x hx q qT qF => ⟨x, idx_of rfl hx, Jn.mk' ?_⟩) hF (fun hd => ?_)
  · have hil := (List.getElem?_eq_some_iff.1 hx).1
    refine Ite.mk (fun _ => qT) (fun h1 => Ite.mk (fun _ => qT) (fun h2 => Ite.mk (fun h3 => ?_) (fun h3 => qF ⟨isC_iff.2 ⟨by simp at h1; omega, by simp at h2; omega⟩, fun y hy => by simp at h3; omega⟩)))
    have hi0 : 0 < i := by simp at h3; omega
    have hy := List.getElem?_eq_getElem (show i - 1 < st.Dead.length by omega)
    refine ⟨_, idx_of (n := i - 1) (by rw [w64_eq (by omega) (by omega)]; omega) hy, ?_⟩
    by_cases h4 : x ≤ st.Dead[i - 1]
    · rw [decide_eq_true h4]; exact qT
    · rw [decide_eq_false h4]
      refine qF ⟨isC_iff.2 ⟨by simp at h1; omega, by simp at h2; omega⟩, fun y _ hy2 => ?_⟩
      rw [hy] at hy2; cases hy2; omega
  refine V_chk (xs := st.Stuck) (by unfold maxLen; omega) (fun i x => (kx s.Floor x.Cell = 6 ∧ 1 ≤ x.Left ∧ x.Left ≤ 20000) ∧ ∀ y, 0 < i → st.Stuck[i - 1]? = some y → y.Cell < x.Cell) (T := fun i q => ∃ x37, idx st.Stuck i = some x37 ∧ Jn (fun (J39 : Bool → Prop) => V_body_on s.Floor x37.Cell ([6] : List Int) (fun x40 => Ite x40 (V_body_within x37.Left 1 20000 (fun x42 => Ite x42 (Ite (decide (i > 0)) (∃ x45, idx st.Stuck (w64 (i - 1)) = some x45 ∧ J39 (decide (x37.Cell ≤ x45.Cell))) (J39 false)) (J39 true))) (J39 true))) q) (fun i x hx q qT qF => ⟨x, idx_of rfl hx, Jn.mk' ?_⟩) hF (fun hs => hT (fun i c hi => (hd i c hi).1) (fun i x y hx hy => (hd (i + 1) y hy).2 x (by omega) (by simpa using hx)) (fun i x hi => (hs i x hi).1) (fun i x y hx hy => (hs (i + 1) y hy).2 x (by omega) (by simpa using hx)))
  have hil := (List.getElem?_eq_some_iff.1 hx).1
  refine S_body_onI (by decide) (by decide) (Ite.mk (fun h1 => S_body_withinI (Ite.mk (fun h2 => Ite.mk (fun h3 => ?_) (fun h3 => qF ⟨⟨by simpa using h1, by simp at h2; omega⟩, fun y hy => by simp at h3; omega⟩)) (fun _ => qT))) (fun _ => qT))
  have hi0 : 0 < i := by simp at h3; omega
  have hy := List.getElem?_eq_getElem (show i - 1 < st.Stuck.length by omega)
  refine ⟨_, idx_of (n := i - 1) (by rw [w64_eq (by omega) (by omega)]; omega) hy, ?_⟩
  by_cases h4 : x.Cell ≤ (st.Stuck[i - 1]).Cell
  · rw [decide_eq_true h4]; exact qT
  · rw [decide_eq_false h4]
    refine qF ⟨⟨by simpa using h1, by simp at h2; omega⟩, fun y _ hy2 => ?_⟩
    rw [hy] at hy2; cases hy2; omega
theorem S_body_RightI (hz : Sz st) {post : Bool → Prop} (hF : post false) (hT : RSt s st → post true) : V_body_Right s st post := by
  unfold V_body_Right
  have q1 := hz.sh; have q3 := hz.pp
  refine Jn.mk (fun b => b = false → (0 ≤ st.Tick ∧ st.Tick ≤ 20000) ∧ st.Shelves.length = s.Shelves.length ∧ st.Robots.length = s.Robots.length ∧ st.People.length ≤ 20 ∧ (∀ (i : Nat) r, st.Robots[i]? = some r → RRob s st i r) ∧ (∀ (i : Nat) c, st.Dead[i]? = some c → isC s.Floor c = true) ∧ (∀ (i : Nat) x y, st.Dead[i]? = some x → st.Dead[i + 1]? = some y → x < y) ∧ (∀ (i : Nat) x, st.Stuck[i]? = some x → kx s.Floor x.Cell = 6 ∧ 1 ≤ x.Left ∧ x.Left ≤ 20000) ∧ (∀ (i : Nat) x y, st.Stuck[i]? = some x → st.Stuck[i + 1]? = some y → x.Cell < y.Cell))
    (S_body_withinI (Ite.mk (fun h1 => Ite.mk (fun _ h => by cases h) (fun h2 => Ite.mk (fun _ h => by cases h) (fun h3 => Ite.mk (fun _ h => by cases h) (fun h4 => S_body_robotsI hz (Ite.f rfl (fun h => by cases h)) (fun h5 => Ite.t rfl (S_body_restI hz (fun h => by cases h) (fun h6 h7 h8 h9 _ => ⟨by simp at h1; omega, by simp at h2; omega, by simp at h3; omega, by simp at h4; omega, h5, h6, h7, h8, h9⟩))))))) (fun _ h => by cases h))) (fun b hb => Ite.mk (fun _ => hF) (fun h => ?_))
  obtain ⟨g1, g2, g3, g4, g5, g6, g7, g8, g9⟩ := hb h
  refine V_chk (xs := st.Shelves) (by unfold maxLen; omega) (fun i x => carB st i = false → kx s.Floor x = 1 ∨ kx s.Floor x = 2) (T := fun i q => ∃ x27, idx st.Shelves i = some x27 ∧ Jn (fun (J29 : Bool → Prop) => V_body_Carrier st i (fun x30 => Ite (decide (x30 < 0)) (V_body_on s.Floor x27 ([1, 2] : List Int) (fun x32 => J29 (!x32))) (J29 false))) q) (fun i x hx q qT qF => ⟨x, idx_of rfl hx, Jn.mk' (S_body_Carrier hz (Ite.mk (fun h1 => S_body_onI (by decide) (by decide) ?_) (fun h1 => qF (fun hc => ?_))))⟩) hF (fun hs => ?_)
  · cases e : ([1, 2] : List Int).contains (kx s.Floor x) with
    | true => exact qF (fun _ => by simpa using e)
    | false => exact qT
  · exfalso; unfold carB at hc; simp at h1 hc; omega
  refine V_chk (xs := st.People) (by unfold maxLen; omega) (fun i x => kx s.Floor x = 4 ∨ kx s.Floor x = 5) (T := fun i q => ∃ x49, idx st.People i = some x49 ∧ V_body_on s.Floor x49 ([4, 5] : List Int) (fun x52 => q (!x52))) (fun i x hx q qT qF => ⟨x, idx_of rfl hx, S_body_onI (by decide) (by decide) ?_⟩) hF (fun hp => ?_)
  · cases e : ([4, 5] : List Int).contains (kx s.Floor x) with
    | true => exact qF (by simpa using e)
    | false => exact qT
  refine S_body_all hz (S_body_ClashI (by have := allS_len hz; omega) (fun n b hb => ?_))
  cases b with
  | true => exact hF
  | false =>
    refine hT ⟨g1, g2, g3, g4, g5, hs, hp, g6, g7, g8, g9, ?_⟩
    by_cases e : (allS st).Nodup
    · exact e
    · have := hb.2 e; cases this
/-! ## a bare site is right -/
theorem S_floor_RightT {f : ApiFloor} (h : RF f) {post : Bool → Prop} (hp : post true) : V_floor_Right f post := by
  have w1 := h.W1; have w2 := h.H1; have w3 := h.D1; have w4 := h.D4; have w5 := h.W4; have w6 := h.H4; have w7 := h.n4; have w8 := h.kl; have w9 := h.ol
  have e := size_eq (f := f) (by omega) (by omega) (by omega) (by omega) (by omega) (by omega)
  unfold V_floor_Right V_floor_size
  rw [e.1]
  refine Jor3 (Ite.f ?_ (Jor3 (Ite.f ?_ ?_)))
  · simp only [Bool.or_eq_false_iff, decide_eq_false_iff_not, imin_lt, imax_gt]; omega
  · simp only [Bool.or_eq_false_iff, decide_eq_false_iff_not, bne_eq_false_iff_eq]; omega
  have hl : f.Kind.length ≤ maxLen := by unfold maxLen; omega
  refine Jn.mk (fun _ => True) (V_loopc hl (fun s => s) (fun _ _ => True) rfl trivial (fun n x t hx ht _ => ?_) (fun _ _ => trivial)) (fun _ _ => hp)
  have hn := (List.getElem?_eq_some_iff.1 hx).1
  have ho : f.Out[n]? = some (f.Out[n]'(by omega)) := List.getElem?_eq_getElem _
  have hb := h.ko n x _ hx ho
  refine Jn.mk (fun b => b = false) (Ite.f (by simp; omega) (Ite.f (by simp; omega) ⟨_, by rw [ht]; exact idx_of rfl ho, Ite.f (by simp; omega) (by simp; omega)⟩)) (fun b hb => Ite.f hb ⟨by rw [ht], trivial⟩)
theorem S_survey_addRobotT (k : OkApiSite s) (hs : s.Robots.length ≤ 1000000) {nz na ns n : Nat} {m : SurveyMaker} (hI : MInv s nz na ns n m) {x : ApiStart} (hx : s.Robots[n]? = some x) {post : Int × SurveyMaker → Prop} (h200 : n < 200)
    (h : isC s.Floor x.Cell = true ∧ 0 ≤ x.Charge ∧ x.Charge ≤ 1000000 ∧ kd s.Floor x.Cell ≠ 0 ∧ rbAt (s.Robots.take n) x.Cell = false) (hT : ∀ m', MInv s nz na ns (n + 1) m' → post (0, m')) : V_survey_maker_addRobot__p0 x m post := by
  have hn := (List.getElem?_eq_some_iff.1 hx).1
  have hlen : m.site.Robots.length = n := by rw [hI.rs]; simp; omega
  unfold V_survey_maker_addRobot__p0
  refine S_survey_kindAt ?_
  rw [hI.fl, if_pos h.1]
  refine Jn.mk (fun b => b = false) (Ite.t rfl ?_) (fun b hb => Ite.f hb (Ite.f (by simpa using h.2.2.2.1) (Ite.f (by rw [hI.robot]; exact h.2.2.2.2) (Ite.f (by rw [hlen]; simp; omega) ⟨by rw [hlen]; simp; omega, hT _ ⟨rfl, hI.zs, hI.aps, hI.sh, ?_, hI.names, hI.zoned, hI.shelf, fun c => ?_⟩⟩))))
  · unfold V_survey_within; refine Jand2 ?_
    rw [decide_eq_true (show x.Charge ≥ 0 from h.2.1), decide_eq_true h.2.2.1]; rfl
  · show m.site.Robots ++ [x] = _; rw [hI.rs, take_succ hx]
  · show (lk (upd m.robot x.Cell true) c).getD false = _
    rw [lk_upd, take_succ hx, rbAt_app]
    by_cases e : x.Cell = c
    · rw [if_pos e]; simp [e]
    · rw [if_neg e, hI.robot]; simp [e]
theorem S_survey_bare (k : OkApiSite s) (hf : RF s.Floor) (hz : s.Zones = []) (ha : s.Aparts = []) (hs : s.Shelves = []) (h2 : s.Robots.length ≤ 200)
    (hr : ∀ (i : Nat) x, s.Robots[i]? = some x → isC s.Floor x.Cell = true ∧ 0 ≤ x.Charge ∧ x.Charge ≤ 1000000 ∧ kd s.Floor x.Cell ≠ 0 ∧ rbAt (s.Robots.take i) x.Cell = false) (hc : s.Floor.Kind.contains 3 = true) {post : Bool → Prop} (hp : post true) : V_survey_Right s post := by
  unfold V_survey_Right
  refine S_floor_RightT hf (Ite.f rfl ?_)
  unfold V_survey_newMaker
  rw [hz, ha, hs]
  refine Jn.mk (fun t : T16 => MInv s 0 0 0 0 (of16 t)) (Loop.step (Ite.nlt (by simp) ⟨rfl, rfl, rfl, rfl, rfl, fun n => rfl, fun c => rfl, fun c => rfl, fun c => rfl⟩)) (fun t1 h1 => ?_)
  refine Jn.mk (fun t : T16 => MInv s 0 0 0 0 (of16 t)) (Loop.step (Ite.nlt (by simp) h1)) (fun t2 h3 => ?_)
  refine Jn.mk (fun t : T16 => MInv s 0 0 0 0 (of16 t)) (Loop.step (Ite.nlt (by simp) h3)) (fun t3 h4 => ?_)
  refine Jn.mk (fun t : T16 => MInv s 0 0 0 s.Robots.length (of16 t))
    (V_loopc k.Robots.1 (fun t : T17 Int => lst t) (fun n (t : T17 Int) => MInv s 0 0 0 n (ofT t)) rfl (by exact h4) (fun n x t hx ht hI => ?_) (fun t h => h)) (fun t4 h5 => ?_)
  · exact S_survey_addRobotT (m := ofT t) k (by omega) hI hx (by have := (List.getElem?_eq_some_iff.1 hx).1; omega) (hr n x hx) (fun m' hm' => Ite.f rfl ⟨by show w64 (lst t + 1) = _; rw [show lst t = (n : Int) from ht], hm'⟩)
  · have e1 : (of16 t4).site.Shelves = [] := by rw [h5.sh]; rfl
    have e2 : (of16 t4).site.Zones = [] := by rw [h5.zs]; rfl
    have e3 : (of16 t4).site.Floor = s.Floor := h5.fl
    refine Jn.mk (fun b => b = true) ?_ (fun b hb => hb ▸ hp)
    show V_survey_maker_beside (of16 t4) _
    unfold V_survey_maker_beside
    rw [e1]
    refine Jn.mk (fun _ => True) (Loop.step (Ite.nlt (by simp) trivial)) (fun _ _ => Ite.t (by decide) ?_)
    show V_survey_maker_crowded (of16 t4) _
    unfold V_survey_maker_crowded V_slices_IndexFunc_api_Zone_api_Zone__survey_maker_crowded_1
    rw [e2]
    refine Jn.mk (fun _ => True) (Loop.step (Ite.nlt (by simp) trivial)) (fun _ _ => Ite.t (by decide) ?_)
    show V_survey_maker_charger (of16 t4) _
    unfold V_survey_maker_charger
    rw [e3]
    exact S_slices_Contains k.Floor.Kind.1 (by rw [hc])
/-! ## bounds -/
end
end Go.Taq

/- The mathematics, part AR: slices.Repeat of one number. -/
set_option linter.unusedVariables false
set_option linter.unusedSimpArgs false
namespace Go.Taq
open Go

end Go.Taq

/- The mathematics, part AG: the examples of chapter 16; ArenaTells. -/
set_option linter.unusedVariables false
set_option linter.unusedSimpArgs false
namespace Go.Taq
open Go

def e16F : ApiFloor := { W := 6, H := 1, D := 1, Kind := [1, 1, 1, 1, 1, 3], Out := [1, 5, 5, 5, 5, 4] }
def e16S : ApiSite := { Floor := e16F, Zones := [], Aparts := [], Shelves := [], Robots := [{ Cell := 0, Charge := 100 }, { Cell := 2, Charge := 100 }] }
def e16T : ApiState := { Tick := 0, Shelves := [], Robots := [{ Cell := 0, Load := -1, Charge := 100, Rest := 0, Mute := 0, Dead := false }, { Cell := 2, Load := -1, Charge := 100, Rest := 0, Mute := 0, Dead := false }], People := [], Dead := [], Stuck := [] }
theorem e16RF : RF e16F := by
  refine ⟨by decide, by decide, by decide, by decide, by decide, by decide, by decide, by decide, by decide, fun i x y hx hy => ?_⟩
  match i, hx, hy with
  | 0, hx, hy => simp [e16F] at hx hy; omega
  | 1, hx, hy => simp [e16F] at hx hy; omega
  | 2, hx, hy => simp [e16F] at hx hy; omega
  | 3, hx, hy => simp [e16F] at hx hy; omega
  | 4, hx, hy => simp [e16F] at hx hy; omega
  | 5, hx, hy => simp [e16F] at hx hy; omega
  | n + 6, hx, hy => simp [e16F] at hx
theorem e16Ok : OkApiSite e16S where
  Floor := ⟨i64_of (by decide), i64_of (by decide), i64_of (by decide), ok_ml (by decide) (fun x hx => i64_of (by simp [e16S, e16F] at hx; omega)), ok_ml (by decide) (fun x hx => i64_of (by simp [e16S, e16F] at hx; omega))⟩
  Zones := ok_ml (by decide) (fun z hz => by simp [e16S] at hz)
  Aparts := ok_ml (by decide) (fun x hx => by simp [e16S] at hx)
  Shelves := ok_ml (by decide) (fun x hx => by simp [e16S] at hx)
  Robots := ok_ml (by decide) (fun x hx => by
    simp only [e16S, List.mem_cons, List.not_mem_nil, or_false] at hx
    rcases hx with rfl | rfl
    · exact ⟨i64_of (by decide), i64_of (by decide)⟩
    · exact ⟨i64_of (by decide), i64_of (by decide)⟩)
theorem e16RS : RS e16S := ⟨e16RF, fun z hz => by simp [e16S] at hz, fun z hz => by simp [e16S] at hz, fun z hz => by simp [e16S] at hz⟩
theorem e16R : RSt e16S e16T where
  tick := by decide
  sl := by decide
  rl := by decide
  pl := by decide
  rob := fun i r hr => by
    match i, hr with
    | 0, hr => simp [e16T] at hr; subst hr; exact ⟨by decide, by decide, by decide, by decide, by decide, by decide, fun h => by simp at h⟩
    | 1, hr => simp [e16T] at hr; subst hr; exact ⟨by decide, by decide, by decide, by decide, by decide, by decide, fun h => by simp at h⟩
    | n + 2, hr => simp [e16T] at hr
  shel := fun i c h => by simp [e16T] at h
  ppl := fun i c h => by simp [e16T] at h
  dead := fun i c h => by simp [e16T] at h
  deadA := fun i x y h => by simp [e16T] at h
  stuck := fun i x h => by simp [e16T] at h
  stuckA := fun i x y h => by simp [e16T] at h
  clash := by decide
theorem e16Z : SzN 12 e16T := ⟨by decide, by decide, by decide, by decide, by decide⟩
theorem S_law16_site {post : ApiSite → Prop} (hp : post e16S) : V_taquinlaw16_site post := by
  unfold V_taquinlaw16_site
  refine Jn.mk (fun t => t = ([1, 1, 1, 1, 1, 3], [1, 5, 5, 5, 5, 4])) (V_upto 6 (fun t : List Int × List Int × Int => t.2.2) (fun i t => t.1 = ([1, 1, 1, 1, 1, 3] : List Int).take i ∧ t.2.1 = ([1, 5, 5, 5, 5, 4] : List Int).take i) (by decide) rfl ⟨rfl, rfl⟩ (fun i t hi ht hI => ?_) (fun t h => by obtain ⟨h1, h2⟩ := h; show (t.1, t.2.1) = _; rw [h1, h2]; rfl)) (fun t ht => by subst ht; exact hp)
  obtain ⟨h1, h2⟩ := hI
  rw [ht]
  refine Jn.mk (fun x => x = if (i : Int) = 5 then 3 else 1) (Ite.mk (fun h => by rw [if_pos (by simpa using h)]) (fun h => by rw [if_neg (by simpa using h)])) (fun x hx => ?_)
  refine Jn.mk (fun y => y = if (i : Int) < 5 then 1 else 0) (Ite.mk (fun h => by rw [if_pos (by simpa using h)]) (fun h => by rw [if_neg (by simpa using h)])) (fun y hy => ?_)
  refine Jn.mk (fun z => z = if (i : Int) > 0 then y + 4 else y) (Ite.mk (fun h => by rw [if_pos (by simpa using h), w64_eq (by rw [hy]; split <;> omega) (by rw [hy]; split <;> omega)]) (fun h => by rw [if_neg (by simpa using h)])) (fun z hz => ?_)
  refine ⟨by rw [h1]; simp; omega, by rw [h2]; simp; omega, rfl, ?_⟩
  show t.1 ++ [x] = _ ∧ t.2.1 ++ [z] = _
  rw [h1, h2, hz, hy, hx]
  have : i = 0 ∨ i = 1 ∨ i = 2 ∨ i = 3 ∨ i = 4 ∨ i = 5 := by omega
  rcases this with rfl | rfl | rfl | rfl | rfl | rfl <;> decide
theorem S_body_First {s : ApiSite} (h1 : s.Shelves.length ≤ 1000000) (h2 : s.Robots.length ≤ 1000000) {post : ApiState → Prop}
    (hp : post { Tick := 0, Shelves := s.Shelves.map (·.Cell), Robots := s.Robots.map (fun x => { Cell := x.Cell, Load := -1, Charge := x.Charge, Rest := 0, Mute := 0, Dead := false }), People := [], Dead := [], Stuck := [] }) : V_body_First s post := by
  unfold V_body_First
  refine Jn.mk (fun l => l = s.Shelves.map (·.Cell)) (V_loopc (xs := s.Shelves) (by unfold maxLen; omega) (fun t : List Int × Int => t.2) (fun i t => t.1 = (s.Shelves.take i).map (·.Cell)) rfl rfl (fun i x t hx ht hI => ?_) (fun t h => by rw [List.take_length] at h; exact h)) (fun l hl => ?_)
  · have := (List.getElem?_eq_some_iff.1 hx).1
    rw [ht]
    exact ⟨by rw [hI]; simp; omega, rfl, by show t.1 ++ [x.Cell] = _; rw [hI, take_succ hx, List.map_append]; rfl⟩
  subst hl
  refine Jn.mk (fun l => l = s.Robots.map (fun x => ({ Cell := x.Cell, Load := -1, Charge := x.Charge, Rest := 0, Mute := 0, Dead := false } : ApiRobot))) (V_loopc (xs := s.Robots) (by unfold maxLen; omega) (fun t : List ApiRobot × Int => t.2) (fun i t => t.1 = (s.Robots.take i).map (fun x => ({ Cell := x.Cell, Load := -1, Charge := x.Charge, Rest := 0, Mute := 0, Dead := false } : ApiRobot))) rfl rfl (fun i x t hx ht hI => ?_) (fun t h => by rw [List.take_length] at h; exact h)) (fun l hl => by subst hl; exact hp)
  have := (List.getElem?_eq_some_iff.1 hx).1
  rw [ht]
  exact ⟨by rw [hI]; simp; omega, rfl, by show t.1 ++ [_] = _; rw [hI, take_succ hx, List.map_append]; rfl⟩
def e16B : ApiState := endsS e16T (runS e16S [1, 0] 2 0 { e16T with Dead := [1] })
def e16C : ApiState := endsS e16T (runS e16S [1, 1] 2 0 e16T)
theorem e16b : e16B.Robots.map (·.Cell) = [0, 2] := by decide
theorem e16c : e16C.Robots.map (·.Cell) = [1, 3] ∧ e16C.Tick = 1 := by decide
theorem e16k1 : chkS e16S e16T [1, 3] = 15 := by
  unfold chkS
  have e : fstB e16S e16T [1, 3] ([1, 3] : List Int).length 0 = 0 := by decide
  rw [if_neg (by decide), if_neg (by decide), if_neg (by rw [e]; simp), if_pos (by decide)]
theorem e16k2 : chkS e16S e16T [1, 0] = 0 := by
  unfold chkS
  have e : fstB e16S e16T [1, 0] ([1, 0] : List Int).length 0 = 0 := by decide
  rw [if_neg (by decide), if_neg (by decide), if_neg (by rw [e]; simp), if_neg (by decide)]
  decide
theorem e16k3 : chkS e16S e16T [1, 1] = 0 := by
  unfold chkS
  have e : fstB e16S e16T [1, 1] ([1, 1] : List Int).length 0 = 0 := by decide
  rw [if_neg (by decide), if_neg (by decide), if_neg (by rw [e]; simp), if_neg (by decide)]
  decide
theorem e16s1 : stepS e16S e16T [1, 3] { Kind := 0, A := 0, N := 0 } = (emptyS, 15) := by
  unfold stepS; rw [e16k1, if_pos (by decide)]
theorem e16s2 : stepS e16S e16T [1, 0] { Kind := 2, A := 1, N := 0 } = (e16B, 0) := by
  have hb : possB e16S e16T { Kind := 2, A := 1, N := 0 } = true := by decide
  unfold stepS; rw [e16k2, if_neg (by decide), if_neg (by rw [hb]; simp)]
  unfold tickS; rw [happ_2 hb rfl]
  have : srtI (e16T.Dead ++ [1]) = [1] := by unfold srtI; simp [e16T]
  show (endsS e16T (runS e16S [1, 0] 2 0 { e16T with Dead := srtI (e16T.Dead ++ [1]) }), 0) = _
  rw [this]; rfl
theorem e16s3 : stepS e16S e16T [1, 1] { Kind := 0, A := 0, N := 0 } = (e16C, 0) := by
  have hb : possB e16S e16T { Kind := 0, A := 0, N := 0 } = true := by decide
  unfold stepS; rw [e16k3, if_neg (by decide), if_neg (by rw [hb]; simp)]
  unfold tickS; rw [happ_0 rfl]; rfl
theorem idx_map {α : Type} {xs : List α} {g : α → Int} {l : List Int} (h : xs.map g = l) {n : Nat} {c : Int} (hc : l[n]? = some c) : ∃ x, idx xs (n : Int) = some x ∧ g x = c := by
  rw [← h, List.getElem?_map] at hc
  cases e : xs[n]? with
  | none => rw [e] at hc; cases hc
  | some x => rw [e] at hc; exact ⟨x, idx_of rfl e, Option.some.inj hc⟩
theorem S_law16_small {post : Bool → Prop} (hp : post true) : V_taquinlaw16_small post := by
  unfold V_taquinlaw16_small
  refine S_law16_site (S_body_First (by decide) (by decide) ?_)
  have kA : ∀ a b : Int, (-1000000 ≤ a ∧ a ≤ 1000000) → (-1000000 ≤ b ∧ b ≤ 1000000) → OkL I64 [a, b] := fun a b h1 h2 => ok_ml (by simp) (fun x hx => by
    simp at hx; rcases hx with rfl | rfl
    · exact i64_of h1
    · exact i64_of h2)
  refine S_arena_Step (n := 12) (st := e16T) (by decide) e16Ok e16RF e16RS e16R e16Z (kA 1 3 (by decide) (by decide)) (S_arena_Step (n := 12) (st := e16T) (by decide) e16Ok e16RF e16RS e16R e16Z (kA 1 0 (by decide) (by decide)) (S_arena_Step (n := 12) (st := e16T) (by decide) e16Ok e16RF e16RS e16R e16Z (kA 1 1 (by decide) (by decide)) ?_))
  rw [e16s1, e16s2, e16s3]
  refine Jor3 (Ite.f ?_ ?_)
  · have l1 : e16B.Robots.length = 2 := by have := congrArg List.length e16b; simpa using this
    have l2 : e16C.Robots.length = 2 := by have := congrArg List.length e16c.1; simpa using this
    show ((2 : Int) != 2 || ((e16B.Robots.length : Int) != 2) || ((e16C.Robots.length : Int) != 2)) = false
    rw [l1, l2]; rfl
  refine Jn.mk (fun b => b = true) (Ite.t rfl (Ite.t rfl ?_)) (fun b hb => hb ▸ hp)
  obtain ⟨x, hx, hxc⟩ := idx_map e16b (n := 0) (c := 0) rfl
  obtain ⟨y, hy, hyc⟩ := idx_map e16c.1 (n := 0) (c := 1) rfl
  obtain ⟨z, hz, hzc⟩ := idx_map e16c.1 (n := 1) (c := 3) rfl
  refine ⟨x, hx, Ite.t (by simpa using hxc) (Ite.t rfl ⟨y, hy, Ite.t (by simpa using hyc) ⟨z, hz, Ite.t (by simpa using hzc) (Ite.t (by show (e16C.Tick == 1) = true; rw [e16c.2]; rfl) ?_)⟩⟩)⟩
  refine S_survey_bare e16Ok e16RF rfl rfl rfl (by decide) (fun i x hi => ?_) (by decide) rfl
  match i, hi with
  | 0, hi => simp [e16S] at hi; subst hi; decide
  | 1, hi => simp [e16S] at hi; subst hi; decide
  | n + 2, hi => simp [e16S] at hi
/-- what the next state is -/
theorem step_next {s : ApiSite} {st : ApiState} {n : Nat} (hn : n < 999) (hf : RF s.Floor) (hs : RS s) (h : RSt s st) (hz : SzN n st) {acts : List Int} {f : ApiFault} (h0 : (stepS s st acts f).2 = 0) :
    chkS s st acts = 0 ∧ possB s st f = true ∧ (stepS s st acts f).1 = tickS s st acts f ∧ RSt s (stepS s st acts f).1 ∧ SzN (n + 1) (stepS s st acts f).1 := by
  unfold stepS at h0 ⊢
  by_cases hc : chkS s st acts = 0
  · rw [if_neg (by simpa using hc)] at h0 ⊢
    cases hb : possB s st f with
    | false => rw [if_pos hb] at h0; simp at h0
    | true =>
      rw [if_neg (by simp)]
      have := tick_keeps (by omega) hf hs h hz hc f
      exact ⟨hc, rfl, rfl, this.1, this.2.1⟩
  · rw [if_pos hc] at h0; exact absurd h0 hc
end Go.Taq

/- The mathematics, part AH: what acts one after the other do to a robot and to a shelf; ArenaHinders. -/
set_option linter.unusedVariables false
set_option linter.unusedSimpArgs false
namespace Go.Taq
open Go

def actR (s : ApiSite) (st : ApiState) (r : ApiRobot) (b : Int) : ApiRobot := if r.Dead = true then r else nwR s st r b
section
variable {s : ApiSite} {st : ApiState}
theorem doA_own {i : Nat} {r : ApiRobot} (hx : st.Robots[i]? = some r) (a : Int) : ∃ b, (b = a ∨ b = 0) ∧ (legS s st i a = 0 → b = a) ∧ legR s st r b = 0 ∧ doA s st i a = doR s st i r b := by
  have hi := (List.getElem?_eq_some_iff.1 hx).1
  have hl := legA (s := s) hi a
  refine ⟨if legS s st i a = 0 then a else 0, by split <;> simp, fun h => if_pos h, ?_, by unfold doA; exact doS_eq rfl hx⟩
  generalize (if legS s st i a = 0 then a else 0) = b at *
  rw [legS_eq rfl hx] at hl; exact hl
theorem doR_at {i : Nat} {r : ApiRobot} (hx : st.Robots[i]? = some r) (b : Int) : (doR s st i r b).Robots[i]? = some (actR s st r b) := by
  unfold doR actR; split
  · exact hx
  · exact List.getElem?_set_self (List.getElem?_eq_some_iff.1 hx).1
theorem doR_ne {i j : Nat} {r : ApiRobot} (h : j ≠ i) (b : Int) : (doR s st i r b).Robots[j]? = st.Robots[j]? := by
  unfold doR; split
  · rfl
  · exact List.getElem?_set_ne (Ne.symm h)
theorem run_ne {acts : List Int} : ∀ (k i : Nat) (st : ApiState), i + k ≤ st.Robots.length → ∀ j, j < i ∨ i + k ≤ j → (runS s acts k i st).Robots[j]? = st.Robots[j]?
  | 0, i, st, _, j, _ => rfl
  | k + 1, i, st, hi, j, hj => by
    have hx := List.getElem?_eq_getElem (show i < st.Robots.length by omega)
    obtain ⟨b, _, _, _, e⟩ := doA_own (s := s) hx (acts.getD i 0)
    have hl := (doA_same (s := s) (st := st) i (acts.getD i 0)).2.1
    show (runS s acts k (i + 1) (doA s st i (acts.getD i 0))).Robots[j]? = _
    rw [run_ne k (i + 1) _ (by rw [hl]; omega) j (by omega), e, doR_ne (by omega)]
/-- what a robot becomes -/
theorem run_own {acts : List Int} : ∀ (k i : Nat) (st : ApiState), i + k ≤ st.Robots.length → ∀ j r, i ≤ j → j < i + k → st.Robots[j]? = some r →
    ∃ st' b, (b = acts.getD j 0 ∨ b = 0) ∧ (seqB s acts k i st = 0 → b = acts.getD j 0) ∧ st'.Tick = st.Tick ∧ legR s st' r b = 0 ∧ (runS s acts k i st).Robots[j]? = some (actR s st' r b)
  | 0, i, st, _, j, r, h1, h2, _ => by omega
  | k + 1, i, st, hi, j, r, h1, h2, hx => by
    by_cases c : j = i
    · subst c
      obtain ⟨b, hb1, hb2, hb3, e⟩ := doA_own (s := s) hx (acts.getD j 0)
      have hl := (doA_same (s := s) (st := st) j (acts.getD j 0)).2.1
      refine ⟨st, b, hb1, fun hs => hb2 ?_, rfl, hb3, ?_⟩
      · unfold seqB at hs
        by_cases hleg : legS s st j (acts.getD j 0) = 0
        · exact hleg
        · rw [if_neg hleg] at hs; exact absurd hs hleg
      · show (runS s acts k (j + 1) (doA s st j (acts.getD j 0))).Robots[j]? = _
        rw [run_ne k (j + 1) _ (by rw [hl]; omega) j (.inl (by omega)), e]; exact doR_at hx b
    · have hx0 := List.getElem?_eq_getElem (show i < st.Robots.length by omega)
      obtain ⟨b, hb1, hb2, hb3, e⟩ := doA_own (s := s) hx0 (acts.getD i 0)
      obtain ⟨ht, hl, _⟩ := doA_same (s := s) (st := st) i (acts.getD i 0)
      obtain ⟨st', b', p1, p2, p3, p4, p5⟩ := run_own (acts := acts) k (i + 1) (doA s st i (acts.getD i 0)) (by rw [hl]; omega) j r (by omega) (by omega) (by rw [e, doR_ne c]; exact hx)
      refine ⟨st', b', p1, fun hs => p2 ?_, p3.trans ht, p4, p5⟩
      unfold seqB at hs
      by_cases hleg : legS s st i (acts.getD i 0) = 0
      · rw [if_pos hleg] at hs; unfold doA; rw [if_pos hleg]; exact hs
      · rw [if_neg hleg] at hs; exact absurd hs hleg
theorem lod_mv {r : ApiRobot} {a : Int} (h : mvB a = true) : lod st r a = r.Load := by
  have := mvB_iff.1 h
  unfold lod; rw [if_neg (by omega), if_neg (by omega)]
theorem nwS_get {r : ApiRobot} {b : Int} {m : Nat} {c : Int} (hc : st.Shelves[m]? = some c) : ∃ c1, (nwS s st r b)[m]? = some c1 ∧ (c1 = c ∨ mvB b = true ∧ (nx s.Floor r.Cell (b - 1)).2 = true ∧ r.Load = (m : Int) ∧ c1 = (nx s.Floor r.Cell (b - 1)).1) := by
  unfold nwS
  split
  · rename_i h
    obtain ⟨h1, h2⟩ := h
    rw [Bool.and_eq_true] at h1
    rw [lod_mv h1.1] at h2 ⊢
    by_cases e : r.Load.toNat = m
    · exact ⟨_, by rw [e]; exact List.getElem?_set_self (List.getElem?_eq_some_iff.1 hc).1, .inr ⟨h1.1, h1.2, by omega, rfl⟩⟩
    · exact ⟨c, by rw [List.getElem?_set_ne e]; exact hc, .inl rfl⟩
  · exact ⟨c, hc, .inl rfl⟩
/-- where a shelf comes to stand -/
theorem run_shelf {acts : List Int} {m : Nat} : ∀ (k i : Nat) (st : ApiState), i + k ≤ st.Robots.length → ∀ c, st.Shelves[m]? = some c →
    ∃ c', (runS s acts k i st).Shelves[m]? = some c' ∧ (c' = c ∨ ∃ j r, i ≤ j ∧ j < i + k ∧ st.Robots[j]? = some r ∧ r.Load = (m : Int) ∧ r.Dead = false ∧ mvB (acts.getD j 0) = true ∧ (nx s.Floor r.Cell (acts.getD j 0 - 1)).2 = true ∧ c' = (nx s.Floor r.Cell (acts.getD j 0 - 1)).1)
  | 0, i, st, _, c, hc => ⟨c, hc, .inl rfl⟩
  | k + 1, i, st, hi, c, hc => by
    have hx := List.getElem?_eq_getElem (show i < st.Robots.length by omega)
    generalize st.Robots[i]'_ = r at hx
    obtain ⟨b, hb1, hb2, hb3, e⟩ := doA_own (s := s) hx (acts.getD i 0)
    have hl := (doA_same (s := s) (st := st) i (acts.getD i 0)).2.1
    have h1 : ∃ c1, (doA s st i (acts.getD i 0)).Shelves[m]? = some c1 ∧ (c1 = c ∨ r.Load = (m : Int) ∧ r.Dead = false ∧ mvB (acts.getD i 0) = true ∧ (nx s.Floor r.Cell (acts.getD i 0 - 1)).2 = true ∧ c1 = (nx s.Floor r.Cell (acts.getD i 0 - 1)).1) := by
      rw [e]; unfold doR; split
      · exact ⟨c, hc, .inl rfl⟩
      · rename_i hd
        obtain ⟨c1, q1, q2⟩ := nwS_get (s := s) (r := r) (b := b) hc
        refine ⟨c1, q1, ?_⟩
        rcases q2 with q2 | ⟨g1, g2, g3, g4⟩
        · exact .inl q2
        · have : b = acts.getD i 0 := by
            rcases hb1 with h | h
            · exact h
            · rw [h] at g1; exact absurd g1 (by decide)
          rw [this] at g1 g2 g4
          exact .inr ⟨g3, by simpa using hd, g1, g2, g4⟩
    obtain ⟨c1, q1, q2⟩ := h1
    obtain ⟨c', p1, p2⟩ := run_shelf (acts := acts) k (i + 1) (doA s st i (acts.getD i 0)) (by rw [hl]; omega) c1 q1
    refine ⟨c', p1, ?_⟩
    rcases p2 with p2 | ⟨j, r2, j1, j2, j3, j4⟩
    · rcases q2 with q2 | q2
      · exact .inl (p2.trans q2)
      · exact .inr ⟨i, r, by omega, by omega, hx, q2.1, q2.2.1, q2.2.2.1, q2.2.2.2.1, p2.trans q2.2.2.2.2⟩
    · rw [e, doR_ne (by omega)] at j3
      exact .inr ⟨j, r2, by omega, by omega, j3, j4⟩
/-- what a fault leaves as it was -/
theorem happ_rob (f : ApiFault) : (happS s st f).Shelves = st.Shelves ∧ ∀ (j : Nat) r, st.Robots[j]? = some r → ∃ r', (happS s st f).Robots[j]? = some r' ∧ r'.Cell = r.Cell ∧ r'.Load = r.Load ∧ (r.Dead = true → r'.Dead = true) := by
  have same : ∀ X : ApiState, X.Shelves = st.Shelves → X.Robots = st.Robots → X.Shelves = st.Shelves ∧ ∀ (j : Nat) r, st.Robots[j]? = some r → ∃ r', X.Robots[j]? = some r' ∧ r'.Cell = r.Cell ∧ r'.Load = r.Load ∧ (r.Dead = true → r'.Dead = true) :=
    fun X h1 h2 => ⟨h1, fun j r h => ⟨r, by rw [h2]; exact h, rfl, rfl, id⟩⟩
  have one : ∀ (n : Nat) (r0 y : ApiRobot), st.Robots[n]? = some r0 → y.Cell = r0.Cell → y.Load = r0.Load → (r0.Dead = true → y.Dead = true) → ∀ (j : Nat) r, st.Robots[j]? = some r → ∃ r', (st.Robots.set n y)[j]? = some r' ∧ r'.Cell = r.Cell ∧ r'.Load = r.Load ∧ (r.Dead = true → r'.Dead = true) := fun n r0 y hx h1 h2 h3 j r h => by
    by_cases e : j = n
    · subst e; rw [hx] at h; cases h
      exact ⟨y, List.getElem?_set_self (List.getElem?_eq_some_iff.1 hx).1, h1, h2, h3⟩
    · exact ⟨r, by rw [List.getElem?_set_ne (Ne.symm e)]; exact h, rfl, rfl, id⟩
  cases hb : possB s st f with
  | false => rw [happ_no hb]; exact same _ rfl rfl
  | true =>
    by_cases h1 : f.Kind = 1
    · have hl := hb; rw [possB_1 h1] at hl
      obtain ⟨n, r0, hn, hx, _, hr⟩ := liveB_iff hl
      rw [happ_1 hb h1, hr]; refine ⟨rfl, ?_⟩
      show ∀ (j : Nat) r, _ → ∃ r', (st.Robots.set f.A.toNat _)[j]? = some r' ∧ _
      rw [hn]; exact one n r0 _ hx rfl rfl fun _ => rfl
    by_cases h2 : f.Kind = 2
    · rw [happ_2 hb h2]; exact same _ rfl rfl
    by_cases h3 : f.Kind = 3
    · have hl := hb; rw [possB_3 h3, Bool.and_eq_true] at hl
      obtain ⟨n, r0, hn, hx, _, hr⟩ := liveB_iff hl.1
      rw [happ_3 hb h3, hr]; refine ⟨rfl, ?_⟩
      show ∀ (j : Nat) r, _ → ∃ r', (st.Robots.set f.A.toNat _)[j]? = some r' ∧ _
      rw [hn]; exact one n r0 _ hx rfl rfl id
    by_cases h4 : f.Kind = 4
    · rw [happ_4 hb h4]; exact same _ rfl rfl
    by_cases h5 : f.Kind = 5
    · rw [happ_5 hb h5]; exact same _ rfl rfl
    · by_cases h0 : f.Kind = 0
      · rw [happ_0 h0]; exact same _ rfl rfl
      · have := possB_n (s := s) (st := st) h0 h1 h2 h3 h4 h5
        rw [this] at hb; cases hb
theorem ends_get {b : ApiState} {j : Nat} {r : ApiRobot} (h : st.Robots[j]? = some r) : (endsS b st).Robots[j]? = some (endR (b.Robots.getD j default) r) := by
  show ((List.range st.Robots.length).map _)[j]? = _
  rw [List.getElem?_map, List.getElem?_range (List.getElem?_eq_some_iff.1 h).1, Option.map_some, getD_r h]
theorem leg_mv {r : ApiRobot} {a : Int} (h : legR s st r a = 0) (hm : mvB a = true) : r.Dead = false ∧ ¬ r.Mute > 0 ∧ (nx s.Floor r.Cell (a - 1)).2 = true := by
  have hm' := mvB_iff.1 hm
  unfold legR at h
  rw [if_neg (by omega), if_neg (by omega)] at h
  by_cases h1 : (r.Dead || decide (r.Mute > 0)) = true
  · rw [if_pos h1] at h; simp at h
  rw [if_neg h1] at h
  by_cases h2 : (mvB a && decide (r.Rest > 0)) = true
  · rw [if_pos h2] at h; simp at h
  rw [if_neg h2] at h
  by_cases h3 : (aft st.Tick r.Charge a (decide (r.Load ≥ 0))).2 = 16
  · rw [if_pos h3] at h; simp at h
  rw [if_neg h3, if_pos hm] at h
  simp at h1
  refine ⟨h1.1, by omega, ?_⟩
  unfold movS at h
  cases e : (nx s.Floor r.Cell (a - 1)).2 with
  | true => rfl
  | false => rw [e] at h; simp at h
theorem actR_cell {r : ApiRobot} {b : Int} : (actR s st r b).Cell = r.Cell ∨ r.Dead = false ∧ mvB b = true ∧ (nx s.Floor r.Cell (b - 1)).2 = true ∧ (actR s st r b).Cell = (nx s.Floor r.Cell (b - 1)).1 := by
  unfold actR; split
  · exact .inl rfl
  · rename_i hd
    unfold nwR; split
    · rename_i h; rw [Bool.and_eq_true] at h; exact .inr ⟨by simpa using hd, h.1, h.2, rfl⟩
    · exact .inl rfl
theorem actR_mv {r : ApiRobot} {b : Int} (h : legR s st r b = 0) (hm : mvB b = true) : (nx s.Floor r.Cell (b - 1)).2 = true ∧ (actR s st r b).Cell = (nx s.Floor r.Cell (b - 1)).1 ∧ (actR s st r b).Load = r.Load := by
  obtain ⟨h1, _, h2⟩ := leg_mv h hm
  refine ⟨h2, ?_⟩
  unfold actR nwR; rw [h1, if_neg (by simp), hm, h2]
  exact ⟨rfl, lod_mv hm⟩
/-- a robot after a tick -/
theorem tick_rob {acts : List Int} (hl : acts.length = st.Robots.length) (f : ApiFault) {j : Nat} {r : ApiRobot} (hx : st.Robots[j]? = some r) :
    ∃ r', (tickS s st acts f).Robots[j]? = some r' ∧ (r'.Cell = r.Cell ∨ mvB (acts.getD j 0) = true ∧ (nx s.Floor r.Cell (acts.getD j 0 - 1)).2 = true ∧ r'.Cell = (nx s.Floor r.Cell (acts.getD j 0 - 1)).1) := by
  obtain ⟨e1, e2⟩ := happ_rl (s := s) (st := st) f
  obtain ⟨r1, hx1, g1, g2, g3⟩ := (happ_rob (s := s) f).2 j r hx
  have hj := (List.getElem?_eq_some_iff.1 hx).1
  obtain ⟨st', b, b1, _, _, b3, b4⟩ := run_own (s := s) (acts := acts) acts.length 0 (happS s st f) (by rw [e1]; omega) j r1 (by omega) (by omega) hx1
  refine ⟨_, ends_get b4, ?_⟩
  show (actR s st' r1 b).Cell = _ ∨ _ ∧ _ ∧ (actR s st' r1 b).Cell = _
  rw [← g1]
  rcases actR_cell (s := s) (st := st') (r := r1) (b := b) with h | ⟨_, h1, h2, h3⟩
  · exact .inl h
  · have : b = acts.getD j 0 := by
      rcases b1 with h | h
      · exact h
      · rw [h] at h1; exact absurd h1 (by decide)
    rw [this] at h1 h2
    exact .inr ⟨h1, h2, by rw [h3, this]⟩
theorem chk_seq {acts : List Int} (h : chkS s st acts = 0) : seqB s acts acts.length 0 st = 0 ∧ (movL s.Floor st acts).Nodup := by
  unfold chkS at h
  by_cases h1 : st.Tick ≥ 20000
  · rw [if_pos h1] at h; simp at h
  rw [if_neg h1] at h
  by_cases h2 : (acts.length : Int) ≠ st.Robots.length
  · rw [if_pos h2] at h; simp at h
  rw [if_neg h2] at h
  by_cases h3 : fstB s st acts acts.length 0 ≠ 0
  · rw [if_pos h3] at h; exact absurd h h3
  rw [if_neg h3] at h
  by_cases h4 : ¬ (movL s.Floor st acts).Nodup
  · rw [if_pos h4] at h; simp at h
  rw [if_neg h4] at h
  exact ⟨h, by simpa using h4⟩
/-- .. when its acts can all be done -/
theorem tick_rob0 {acts : List Int} (hc : chkS s st acts = 0) {f : ApiFault} (h0 : f.Kind = 0) {j : Nat} {r : ApiRobot} (hx : st.Robots[j]? = some r) (hm : mvB (acts.getD j 0) = true) :
    (nx s.Floor r.Cell (acts.getD j 0 - 1)).2 = true ∧ ∃ r', (tickS s st acts f).Robots[j]? = some r' ∧ r'.Cell = (nx s.Floor r.Cell (acts.getD j 0 - 1)).1 ∧ r'.Load = r.Load := by
  have hl := (chk_tick hc).2
  have hj := (List.getElem?_eq_some_iff.1 hx).1
  obtain ⟨st', b, _, b2, _, b3, b4⟩ := run_own (s := s) (acts := acts) acts.length 0 st (by omega) j r (by omega) (by omega) hx
  rw [b2 (chk_seq hc).1] at b3 b4
  obtain ⟨q1, q2, q3⟩ := actR_mv b3 hm
  have e := ends_get (b := st) b4
  exact ⟨q1, endR (st.Robots.getD j default) (actR s st' r (acts.getD j 0)), by unfold tickS; rw [happ_0 h0]; exact e, q2, q3⟩
end
theorem idxN {α : Type} {l : List α} {n : Nat} {x : α} (h : l[n]? = some x) : idx l (n : Int) = some x := idx_of rfl h
theorem Said_taquinlaw16_ArenaHinders (s : ApiSite) (ks : OkApiSite s) (st : ApiState) (k : OkApiState st) (a : Taquinref16Act) (ka : OkTaquinref16Act a) : V_taquinlaw16_ArenaHinders s st a (fun y => y = true) := by
  unfold V_taquinlaw16_ArenaHinders
  refine S_law16_small (Jn.mk (fun b => b = false → RSite s ∧ Few12 st ∧ RSt s st) (S_ref11_Few ks (by omega) (Ite.f rfl fun h => by cases h) (fun h1 => Ite.t rfl (S_survey_Right ks h1 (by omega) (Ite.f rfl fun h => by cases h) (fun h2 => Ite.t rfl (S_ref14_Few (Ite.f rfl fun h => by cases h) (fun h3 => Ite.t rfl (S_body_RightI h3.sz (Ite.f rfl fun h => by cases h) (fun h4 => Ite.t rfl fun _ => ⟨h2, h3, h4⟩)))))))) (fun b hb => Ite.mk (fun _ => rfl) (fun h => ?_)))
  obtain ⟨hrs, h12, hr⟩ := hb h
  have hf := hrs.fl
  have hR := hrs.rs
  have hsz := h12.sz
  have hzN : SzN 12 st := h12.szN
  have hls := rst_ls hf hR hr hsz
  have ne : ∀ a : Int, (a != a) = false := fun a => by simp
  refine S_arena_Check ks k hls ka.Acts (S_arena_Possible hf hsz (S_arena_Step (n := 12) (by omega) ks hf hR hr hzN ka.Acts (S_arena_Step (n := 12) (by omega) ks hf hR hr hzN ka.Acts ?_)))
  have eF : (stepS s st a.Acts { Kind := 0, A := 0, N := 0 }).2 = chkS s st a.Acts := by
    unfold stepS
    by_cases hc : chkS s st a.Acts = 0
    · rw [if_neg (by simpa using hc), if_neg (by rw [possB_0 rfl]; simp), hc]
    · rw [if_pos hc]
  have e30 : chkS s st a.Acts ≠ 0 → (stepS s st a.Acts a.Fault).2 = chkS s st a.Acts := fun hc => by unfold stepS; rw [if_pos hc]
  have e31 : chkS s st a.Acts = 0 → (stepS s st a.Acts a.Fault).2 = possS s st a.Fault := fun hc => by
    unfold stepS possS; rw [if_neg (by simpa using hc)]
    cases possB s st a.Fault <;> simp
  refine Jn.mk (fun b => b = false) (Ite.f (by rw [eF]; exact ne _) (Ite.mk (fun h1 => ?_) (fun h1 => ?_))) (fun b hb => Ite.f hb ?_)
  · have hc : chkS s st a.Acts ≠ 0 := by simpa using h1
    refine Ite.f (by rw [e30 hc]; exact ne _) (Ite.f (by simpa using hc) rfl)
  · have hc : chkS s st a.Acts = 0 := by simpa using h1
    exact Ite.t (by simp [hc]) (by rw [e31 hc]; exact ne _)
  refine Ite.mk (fun _ => rfl) (fun h1 => ?_)
  have h30 : (stepS s st a.Acts a.Fault).2 = 0 := by simpa using h1
  obtain ⟨hc, hpb, et, _, _⟩ := step_next (n := 12) (by omega) hf hR hr hzN h30
  have h27 : (stepS s st a.Acts { Kind := 0, A := 0, N := 0 }).2 = 0 := by rw [eF, hc]
  obtain ⟨_, _, et0, hr27, hz27⟩ := step_next (n := 12) (by omega) hf hR hr hzN h27
  have hl := (chk_tick hc).2
  have hrb := hsz.rb
  have hsh := hsz.sh
  rw [et, et0]
  rw [et0] at hr27
  have hrun := run_keeps (n := 12) (by omega) hf hR a.Acts a.Acts.length 0 st (by omega) hr hzN
  refine Jn.mk (fun _ => True) (Loop.inv st.Robots.length (fun i (t : Int) => t = (i : Int)) rfl (fun i t hi ht => ?_) (fun t ht => Ite.nlt (by omega) trivial)) (fun _ _ => ?_)
  · subst ht
    have hx := List.getElem?_eq_getElem hi
    generalize st.Robots[i] = r at hx
    have hax := List.getElem?_eq_getElem (show i < a.Acts.length by omega)
    have hgd : a.Acts.getD i 0 = a.Acts[i]'(by omega) := getD_i hax
    generalize a.Acts[i]'_ = c at hax hgd
    have kc := ka.Acts.2 c (List.mem_of_getElem? hax)
    obtain ⟨r30, g30, c30⟩ := tick_rob (s := s) hl a.Fault hx
    obtain ⟨r27, g27, c27⟩ := tick_rob (s := s) hl { Kind := 0, A := 0, N := 0 } hx
    have hmv := fun hm => tick_rob0 (s := s) hc (f := { Kind := 0, A := 0, N := 0 }) rfl hx hm
    rw [hgd] at c30 c27 hmv
    refine Ite.lt (by omega) (Jn.mk (fun b => b = false) ⟨r30, idxN g30, r27, idxN g27, Ite.mk (fun h2 => ⟨r, idxN hx, ?_⟩) (fun h2 => rfl)⟩ (fun b hb => Ite.f hb ?_))
    · have h2' : r30.Cell ≠ r27.Cell := by simpa using h2
      rcases c30 with e | ⟨e1, e2, e3⟩
      · simp [e]
      · obtain ⟨_, r', q1, q2, _⟩ := hmv e1
        rw [g27] at q1; cases q1
        exact absurd (e3.trans q2.symm) h2'
    · refine Jn.mk (fun b => b = mvB c) ⟨c, idxN hax, Ite.mk (fun h2 => ?_) (fun h2 => ?_)⟩ (fun b hb => ?_)
      · unfold mvB; have : decide (1 ≤ c) = true := h2; rw [this]; rfl
      · unfold mvB; have : decide (1 ≤ c) = false := h2; rw [this]; rfl
      refine Jn.mk (fun _ => True) (Ite.mk (fun h2 => ?_) (fun _ => trivial)) (fun _ _ => by show w64 _ = _; rw [w64_eq (by omega) (by omega)]; simp)
      have hm : mvB c = true := by rw [← hb]; exact h2
      have hm' := mvB_iff.1 hm
      obtain ⟨q0, r', q1, q2, _⟩ := hmv hm
      rw [g27] at q1; cases q1
      refine ⟨r, idxN hx, c, idxN hax, ?_⟩
      rw [w64_eq (by omega) (by omega)]
      refine S_floor_Next hf (Jn.mk (fun b => b = false) (Ite.t q0 ⟨r27, idxN g27, by simp [q2]⟩) (fun b hb => Ite.f hb trivial))
  · refine Jn.mk (fun _ => True) (Loop.inv st.Shelves.length (fun i (t : Int) => t = (i : Int)) rfl (fun i t hi ht => ?_) (fun t ht => Ite.nlt (by omega) trivial)) (fun _ _ => rfl)
    subst ht
    have hx := List.getElem?_eq_getElem hi
    generalize st.Shelves[i] = c at hx
    obtain ⟨e1, e2⟩ := happ_rl (s := s) (st := st) a.Fault
    obtain ⟨hs1, hs2⟩ := happ_rob (s := s) (st := st) a.Fault
    obtain ⟨c30, g30, d30⟩ := run_shelf (s := s) (acts := a.Acts) (m := i) a.Acts.length 0 (happS s st a.Fault) (by rw [e1]; omega) c (by rw [hs1]; exact hx)
    obtain ⟨c27, g27, _⟩ := run_shelf (s := s) (acts := a.Acts) (m := i) a.Acts.length 0 st (by omega) c hx
    have g27' : (tickS s st a.Acts { Kind := 0, A := 0, N := 0 }).Shelves[i]? = some c27 := by unfold tickS; rw [happ_0 rfl]; exact g27
    refine Ite.lt (by omega) (Jn.mk (fun b => b = false) ⟨c30, idxN g30, c27, idxN g27', Ite.mk (fun h2 => ⟨c, idxN hx, ?_⟩) (fun h2 => rfl)⟩ (fun b hb => Ite.f hb (by show w64 _ = _; rw [w64_eq (by omega) (by omega)]; simp)))
    have h2' : c30 ≠ c27 := by simpa using h2
    rcases d30 with e | ⟨j, rX, j1, j2, j3, j4, _, j5, j6, j7⟩
    · simp [e]
    · have hjl : j < st.Robots.length := by omega
      have hy := List.getElem?_eq_getElem hjl
      generalize st.Robots[j] = r at hy
      obtain ⟨r', p1, p2, p3, _⟩ := hs2 j r hy
      rw [j3] at p1; cases p1
      obtain ⟨_, r2, q1, q2, q3⟩ := tick_rob0 (s := s) hc (f := { Kind := 0, A := 0, N := 0 }) rfl hy j5
      have own := (hr27.rob j r2 q1).own (by rw [q3, ← p3, j4]; omega)
      rw [q3, ← p3, j4] at own
      have : c27 = r2.Cell := by
        have h3 := own.2
        rw [show Int.toNat (i : Int) = i from rfl, getD_i g27'] at h3; exact h3
      exact absurd (by rw [j7, this, q2, ← p2]) h2'
end Go.Taq
