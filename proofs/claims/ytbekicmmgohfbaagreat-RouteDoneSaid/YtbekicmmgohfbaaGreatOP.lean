/- The mathematics, several parts in one text. -/
import Derived.Test.YtbekicmmgohfbaaGreatOD
import Derived.Test.YtbekicmmgohfbaaGreatNB
/- The mathematics, part OE: what actions do, in both; equal states. -/
set_option linter.unusedVariables false
set_option linter.unusedSimpArgs false
namespace Go.Taq
open Go

def doS (s : ApiSite) (st : ApiState) (i a : Int) : ApiState := if i < 0 ∨ i ≥ st.Robots.length then st else doR s st i.toNat (st.Robots.getD i.toNat default) a
section
variable {s : ApiSite} {st : ApiState}
theorem S_clone {α : Type} {xs : List α} (hl : xs.length ≤ 1099511627776) {post : List α → Prop} (hp : post xs) : ∀ hb5 : Bool, (hb5 = true → xs = []) → Ite (hb5 == true) (post []) ((([] : List α).length + xs.length ≤ 1099511627776) ∧ post (([] : List α) ++ xs)) := by
  intro b hb
  refine Ite.mk (fun h => ?_) (fun h => ⟨by simp; omega, by rw [List.nil_append]; exact hp⟩)
  rw [hb (by simpa using h)] at hp; exact hp
theorem S_clone_i {xs : List Int} (hl : xs.length ≤ 1000) {post : List Int → Prop} (hp : post xs) : V_slices_Clone_int_int xs post := by
  unfold V_slices_Clone_int_int; exact S_clone (by omega) hp
theorem S_clone_r {xs : List ApiRobot} (hl : xs.length ≤ 1000) {post : List ApiRobot → Prop} (hp : post xs) : V_slices_Clone_api_Robot_api_Robot xs post := by
  unfold V_slices_Clone_api_Robot_api_Robot; exact S_clone (by omega) hp
theorem S_clone_s {xs : List ApiStuck} (hl : xs.length ≤ 1000) {post : List ApiStuck → Prop} (hp : post xs) : V_slices_Clone_api_Stuck_api_Stuck xs post := by
  unfold V_slices_Clone_api_Stuck_api_Stuck; exact S_clone (by omega) hp
theorem S_body_Clone (hz : Sz st) {post : ApiState → Prop} (hp : post st) : V_body_Clone st post := by
  unfold V_body_Clone
  exact S_clone_i hz.sh (S_clone_r hz.rb (S_clone_i hz.pp (S_clone_i hz.dd (S_clone_s hz.sk hp))))
theorem atS_lt (c : Int) : -1 ≤ atS st c ∧ atS st c < st.Shelves.length := atS_bd st c
theorem lod_bd (h : LS s st) {n : Nat} {r : ApiRobot} (hx : st.Robots[n]? = some r) (a : Int) : -1 ≤ lod st r a ∧ lod st r a < st.Shelves.length := by
  have := h.rob n r hx
  unfold lod; split
  · exact atS_lt _
  · split <;> omega
theorem idx_put {α : Type} {l : List α} {n : Nat} {i : Int} {a : α} (hi : i = n) (h : n < l.length) : idx (l.set i.toNat a) i = some a := by
  refine idx_of hi ?_
  rw [hi]; simp [h]
theorem S_act_Do (ks : OkApiSite s) (k : OkApiState st) (h : LS s st) {i a : Int} (h0 : 0 ≤ a) (h9 : a < 10) {post : ApiState → Prop} (hp : post (doS s st i a)) : V_act_Do s st i a post := by
  have hsl : st.Shelves.length ≤ 1000000 := by have := h.sz.sh; omega
  unfold V_act_Do
  refine S_body_Clone h.sz ?_
  by_cases hv : i < 0 ∨ i ≥ st.Robots.length
  · unfold doS at hp; rw [if_pos hv] at hp
    refine Jn.mk (fun b => b = true) (Ite.mk (fun _ => rfl) (fun h1 => Ite.mk (fun _ => rfl) (fun h2 => ?_))) (fun b hb => Ite.t hb hp)
    simp at h1 h2; omega
  unfold doS at hp; rw [if_neg hv] at hp
  obtain ⟨n, hn⟩ := Int.eq_ofNat_of_zero_le (show 0 ≤ i by omega)
  have hlt : n < st.Robots.length := by omega
  have hx := List.getElem?_eq_getElem hlt
  have hg : st.Robots.getD i.toNat default = st.Robots[n] := by rw [hn]; exact getD_r hx
  rw [hg] at hp
  generalize st.Robots[n] = r at hp hx
  have hb := lod_bd h hx a
  refine Jn.mk (fun b => b = r.Dead) (Ite.f (by simp; omega) (Ite.f (by simp; omega) ⟨r, idx_of hn hx, rfl⟩)) (fun b hbd => ?_)
  subst hbd
  unfold doR at hp
  refine Ite.mk (fun h1 => ?_) (fun h1 => ?_)
  · rw [if_pos h1] at hp; exact hp
  rw [if_neg (by rw [h1]; simp)] at hp
  refine ⟨r, idx_of hn hx, S_battery_After ?_⟩
  refine Jn.mk (fun c => c = chg st r a) (Ite.mk (fun h2 => ?_) (fun h2 => ?_)) (fun c hc => ?_)
  · unfold chg; rw [if_neg (by simpa using h2)]
  · unfold chg; rw [if_pos (by simpa using h2)]
  subst hc
  refine Jn.mk (fun l => l = st.Robots.set i.toNat { r with Load := lod st r a, Charge := chg st r a }) (Ite.mk (fun h2 => S_rules_At k hsl ?_) (fun h2 => Jn.mk' (Ite.mk (fun h3 => ?_) (fun h3 => ?_)))) (fun l hl => ?_)
  · rw [List.set_set]; unfold lod; rw [if_pos (by simpa using h2)]
  · rw [List.set_set]; unfold lod; rw [if_neg (by simpa using h2), if_pos (by simpa using h3)]
  · unfold lod; rw [if_neg (by simpa using h2), if_neg (by simpa using h3)]
  subst hl
  refine S_act_direction h0 h9 (Ite.mk (fun h2 => ?_) (fun h2 => ?_))
  · have hm : mvB a = false := by simpa using h2
    unfold nwR nwS at hp; rw [hm] at hp
    simp only [Bool.false_and, Bool.false_eq_true, false_and, if_false] at hp
    exact hp
  have hm : mvB a = true := by simpa using h2
  refine ⟨_, idx_put hn hlt, S_floor_Next h.fl ?_⟩
  unfold nwR nwS at hp; rw [hm, Bool.true_and] at hp
  show Jn _ _
  refine Jn.mk (fun p : List Int × List ApiRobot => p = (nwS s st r a, st.Robots.set i.toNat (nwR s st r a))) (Ite.mk (fun h3 => S_rules_Speed ks h.rs ?_) (fun h3 => ?_)) (fun p hpp => ?_)
  · have h3' : (nx s.Floor r.Cell (a - 1)).2 = true := h3
    have hsp := spd_bd h.rs (nx s.Floor r.Cell (a - 1)).1
    refine Jn.mk (fun l => l = nwS s st r a) (Ite.mk (fun h4 => ?_) (fun h4 => ?_)) (fun l hl => ?_)
    · have h4' : 0 ≤ lod st r a := by simpa using h4
      obtain ⟨m, hm2⟩ := Int.eq_ofNat_of_zero_le h4'
      refine ⟨_, idx_of hm2 (List.getElem?_eq_getElem (by omega)), ?_⟩
      unfold nwS; rw [if_pos ⟨by rw [hm, h3']; rfl, h4'⟩]
    · have h4' : ¬ 0 ≤ lod st r a := by simpa using h4
      unfold nwS; rw [if_neg (fun e => h4' e.2)]
    · subst hl
      have ew : w64 (spd s (nx s.Floor r.Cell (a - 1)).1 - 1) = spd s (nx s.Floor r.Cell (a - 1)).1 - 1 := w64_eq (by omega) (by omega)
      rw [List.set_set, List.set_set]
      simp only [] at ew ⊢
      rw [ew]
      show (_, _) = (_, _)
      unfold nwR; rw [hm, h3']; rfl
  · have h3' : (nx s.Floor r.Cell (a - 1)).2 = false := h3
    show (_, _) = (_, _)
    unfold nwR nwS; rw [hm, h3']
    simp only [Bool.and_false, Bool.false_eq_true, false_and, if_false]
  · subst hpp
    unfold nwR nwS; rw [hm, Bool.true_and]; exact hp
end
end Go.Taq

/- The mathematics, part OF: actions keep what they need; examples; ActTells. -/
set_option linter.unusedVariables false
set_option linter.unusedSimpArgs false
namespace Go.Taq
open Go

section
variable {s : ApiSite} {st : ApiState}
theorem isC_i64 (hf : RF s.Floor) {c : Int} (h : isC s.Floor c = true) : I64 c := by
  have := isC_iff.1 h; have := hf.len.1
  exact i64_of (by omega)
theorem RSt.cells (h : RSt s st) : ∀ c, c ∈ st.Shelves → isC s.Floor c = true := by
  intro c hc
  obtain ⟨i, hi⟩ := List.getElem?_of_mem hc
  cases hb : carB st i with
  | true =>
    rw [carB_any (by omega)] at hb
    obtain ⟨r, hr, hl⟩ := List.any_eq_true.1 hb
    obtain ⟨j, hj⟩ := List.getElem?_of_mem hr
    have hR := h.rob j r hj
    have hl' : r.Load = (i : Int) := by simpa using hl
    have := (hR.own (by omega)).2
    rw [hl'] at this
    have e : st.Shelves.getD i 0 = c := getD_i hi
    rw [← e]; show isC s.Floor (st.Shelves.getD ((i : Int)).toNat 0) = true
    rw [this]; exact hR.cell
  | false =>
    have := h.shel i c hi hb
    unfold kx at this
    cases hic : isC s.Floor c with
    | true => rfl
    | false => rw [hic] at this; simp at this
end
/-! ## the example -/
end Go.Taq

/- The mathematics, part OG: ActAlone. -/
set_option linter.unusedVariables false
set_option linter.unusedSimpArgs false
namespace Go.Taq
open Go

section
variable {s : ApiSite} {st : ApiState}
theorem doS_eq {i a : Int} {n : Nat} {r : ApiRobot} (hn : i = n) (hx : st.Robots[n]? = some r) : doS s st i a = doR s st n r a := by
  have hlt := (List.getElem?_eq_some_iff.1 hx).1
  subst hn
  unfold doS
  rw [if_neg (by omega)]
  show doR s st n (st.Robots.getD n default) a = _
  rw [getD_r hx]
theorem legS_eq {i a : Int} {n : Nat} {r : ApiRobot} (hn : i = n) (hx : st.Robots[n]? = some r) : legS s st i a = legR s st r a := by
  have hlt := (List.getElem?_eq_some_iff.1 hx).1
  subst hn
  unfold legS
  rw [if_neg (by omega)]
  show legR s st (st.Robots.getD n default) a = _
  rw [getD_r hx]
end
end Go.Taq

/- The mathematics, part OP: RouteDone. -/
set_option linter.unusedVariables false
set_option linter.unusedSimpArgs false
namespace Go.Taq
open Go

theorem nbr_ne {f : ApiFloor} (hf : RF f) {c d : Int} (hc : isC f c = true) : nbr f c d ≠ c := by
  intro h
  have hb := p_bd hf hc
  have hk := isC_iff.1 hc
  have key : ∀ {x y z : Int}, (x ≠ pX f c ∨ y ≠ pY f c ∨ z ≠ pZ f c) → cellF f x y z = c → False := by
    intro x y z hne e
    unfold cellF at e
    by_cases hin : 0 ≤ x ∧ x < f.W ∧ 0 ≤ y ∧ y < f.H ∧ 0 ≤ z ∧ z < f.D
    · have := p_cellF hf hin
      unfold cellF at this
      rw [e] at this
      obtain ⟨h1, h2, h3⟩ := this
      rcases hne with g | g | g
      · exact g h1.symm
      · exact g h2.symm
      · exact g h3.symm
    · rw [if_neg hin] at e; omega
  unfold nbr at h
  rw [if_neg (by rw [hc]; simp)] at h
  split at h
  · exact key (.inl (by omega)) h
  split at h
  · exact key (.inr (.inl (by omega))) h
  split at h
  · exact key (.inl (by omega)) h
  split at h
  · exact key (.inr (.inl (by omega))) h
  split at h
  · exact key (.inr (.inr (by omega))) h
  split at h
  · exact key (.inr (.inr (by omega))) h
  · omega
theorem nx_ne {f : ApiFloor} (hf : RF f) {c d : Int} (h : (nx f c d).2 = true) : (nx f c d).1 ≠ c := by
  have hc := (nx_ok hf h).1
  have := nbr_ne hf hc (d := d)
  unfold nx at h ⊢
  split
  · rename_i h1; rw [if_pos h1] at h; cases h
  · rename_i h1
    rw [if_neg h1] at h
    split
    · rename_i h2; rw [if_pos h2] at h; cases h
    · exact this
theorem low_eq {f : ApiFloor} (hf : RF f) {c : Int} (h : isC f c = true) : low c = 2 * c := by
  have h1 := isC_iff.1 h; have h2 := hf.len.1
  unfold low; exact w64_eq (by omega) (by omega)
/-- a robot by itself -/
def oneT (tick : Int) (avoid : List Int) (q : Int × Int) (ch : Int) : ApiState := { Tick := tick, Shelves := [], Robots := [{ Cell := q.1, Load := -1, Charge := ch, Rest := q.2, Mute := 0, Dead := false }], People := [], Dead := avoid, Stuck := [] }
def oneS (s : ApiSite) (c : Int) : ApiSite := { s with Shelves := [], Robots := [{ Cell := c, Charge := 1000000 }] }
section
variable {s : ApiSite} {avoid : List Int}
theorem oneS_rs {c : Int} (h : RS s) : RS (oneS s c) := ⟨h.fl, h.asc, h.zc, h.sp⟩
theorem oneT_ls {c tick ch : Int} {q : Int × Int} (h : RS s) (hav : avoid.length ≤ 1000) (hq : isQ s q) : LS (oneS s c) (oneT tick avoid q ch) where
  fl := h.fl
  rs := oneS_rs h
  sz := ⟨by show 0 ≤ 1000; decide, by show 1 ≤ 1000; decide, by show 0 ≤ 1000; decide, hav, by show 0 ≤ 1000; decide⟩
  cell := fun c hc => by cases hc
  rob := fun i r hr => by
    match i, hr with
    | 0, hr => cases hr; exact ⟨hq.1, by simp, by show (-1 : Int) < ((0 : Nat) : Int); decide⟩
    | n + 1, hr => cases hr
theorem oneT_ok {tick ch : Int} {q : Int × Int} (hf : RF s.Floor) (kav : OkL I64 avoid) (hq : isQ s q) (ht : 0 ≤ tick ∧ tick ≤ 1000000) (hc : 0 ≤ ch ∧ ch ≤ 1000000) : OkApiState (oneT tick avoid q ch) where
  Tick := i64_of (by show -1000000 ≤ tick ∧ tick ≤ 1000000; omega)
  Shelves := ok_ml (by show 0 ≤ 1000; decide) (fun x hx => by cases hx)
  Robots := ok_ml (by show 1 ≤ 1000; decide) (fun x hx => by
    rw [List.mem_singleton.1 hx]
    have := hq.2
    exact ⟨isC_i64 hf hq.1, i64_of (by simp), i64_of (by simp only; omega), i64_of (by simp only; omega), i64_of (by simp), trivial⟩)
  People := ok_ml (by show 0 ≤ 1000; decide) (fun x hx => by cases hx)
  Dead := kav
  Stuck := ok_ml (by show 0 ≤ 1000; decide) (fun x hx => by cases hx)
/-- each step of a good walk is a legal action, and does what the walk says -/
theorem one_step {c tick ch a : Int} {q : Int × Int} (h : RS s) (hq : isQ s q) (ha : 0 ≤ a ∧ a < 7) (hc : 100 ≤ ch ∧ ch ≤ 1000000) (he : (stepF s [] avoid tick q a).2 = 0) :
    legR (oneS s c) (oneT tick avoid q ch) { Cell := q.1, Load := -1, Charge := ch, Rest := q.2, Mute := 0, Dead := false } a = 0 ∧
    ∃ ch', ch - 21 ≤ ch' ∧ ch' ≤ ch ∧ doR (oneS s c) (oneT tick avoid q ch) 0 { Cell := q.1, Load := -1, Charge := ch, Rest := q.2, Mute := 0, Dead := false } a = oneT tick avoid (if a = 0 then q else (stepF s [] avoid tick q a).1) ch' := by
  have hcb := cst_bd tick a false
  have haf : aft tick ch a false = (ch - cst tick a false, 0) := by
    unfold aft; rw [if_neg (by omega), if_neg (by omega), if_neg (by omega)]
  have hdec : decide ((-1 : Int) ≥ 0) = false := by decide
  have hchg : chg (oneT tick avoid q ch) { Cell := q.1, Load := -1, Charge := ch, Rest := q.2, Mute := 0, Dead := false } a = ch - cst tick a false := by
    unfold chg; simp only [hdec]
    show (if (aft tick ch a false).2 = 0 then (aft tick ch a false).1 else 0) = _
    rw [haf]; rfl
  have hlod : lod (oneT tick avoid q ch) { Cell := q.1, Load := -1, Charge := ch, Rest := q.2, Mute := 0, Dead := false } a = -1 := by unfold lod; rw [if_neg (by omega), if_neg (by omega)]
  refine ⟨?_, ch - cst tick a false, by omega, by omega, ?_⟩
  · unfold legR
    rw [if_neg (by omega)]
    by_cases h0 : a = 0
    · rw [if_pos h0]
    rw [if_neg h0, if_neg (by simp)]
    have hm : mvB a = true := mvB_iff.2 (by omega)
    unfold stepF at he
    rw [if_neg h0] at he
    split at he
    · cases he
    rename_i hre
    split at he
    · cases he
    rename_i h1
    split at he
    · cases he
    rename_i h2
    rw [if_neg (by simp; omega)]
    simp only [hdec]
    rw [if_neg (by show ¬ (aft tick ch a false).2 = 16; rw [haf]; simp), if_pos hm]
    simp only [not_or, Bool.not_eq_false, Bool.not_eq_true] at h1
    unfold movS
    show (if (!(nx s.Floor q.1 (a - 1)).2 || avoid.contains (nx s.Floor q.1 (a - 1)).1) = true then (14 : Int) else _) = 0
    rw [if_neg (by rw [h1.1, h1.2]; simp)]
    rw [if_neg (by show ¬ ((a - 1 == 4 || a - 1 == 5) && false) = true; simp)]
    rw [if_neg (by show ¬ opn s (nx s.Floor q.1 (a - 1)).1 tick = false; exact h2)]
    have hx := nx_ok h.fl h1.1
    have l1 := low_eq h.fl hq.1
    have l2 := low_eq h.fl hx.2.1
    have hne := nx_ne h.fl h1.1
    rw [if_neg]
    simp only [hdec, Bool.false_and, Bool.or_false, Bool.not_eq_true]
    show ([low q.1] : List Int).contains (low (nx s.Floor q.1 (a - 1)).1) = false
    rw [l1, l2]; simp; omega
  · unfold doR
    rw [if_neg (by simp)]
    unfold nwR nwS
    rw [hchg, hlod]
    by_cases h0 : a = 0
    · rw [if_pos h0, h0]; rfl
    have hm : mvB a = true := mvB_iff.2 (by omega)
    unfold stepF at he ⊢
    rw [if_neg h0] at he ⊢
    rw [if_neg h0]
    split at he
    · cases he
    rename_i hre
    split at he
    · cases he
    rename_i h1
    split at he
    · cases he
    rename_i h2
    split at he
    · cases he
    rename_i h3
    rw [if_neg hre, if_neg h1, if_neg h2, if_neg h3]
    simp only [not_or, Bool.not_eq_false, Bool.not_eq_true] at h1
    have e1 : (nx (oneS s c).Floor q.1 (a - 1)) = nx s.Floor q.1 (a - 1) := rfl
    simp only [e1, hm, h1.1, Bool.and_self, if_true]
    rfl
end
theorem one_ok {s : ApiSite} (ks : OkApiSite s) {c : Int} (hc : I64 c) : OkApiSite (oneS s c) where
  Floor := ks.Floor
  Zones := ks.Zones
  Aparts := ks.Aparts
  Shelves := ok_ml (by show 0 ≤ 1000; decide) (fun x hx => by cases hx)
  Robots := ok_ml (by show 1 ≤ 1000; decide) (fun x hx => by rw [List.mem_singleton.1 hx]; exact ⟨hc, i64_of (by simp)⟩)
theorem bare_ok {s : ApiSite} (ks : OkApiSite s) : OkApiSite { s with Shelves := [], Robots := [] } where
  Floor := ks.Floor
  Zones := ks.Zones
  Aparts := ks.Aparts
  Shelves := ok_ml (by show 0 ≤ 1000; decide) (fun x hx => by cases hx)
  Robots := ok_ml (by show 0 ≤ 1000; decide) (fun x hx => by cases hx)
def tupT (t : ApiState) (i : Int) : Int × List Int × List ApiRobot × List Int × List Int × List ApiStuck × Int := (t.Tick, t.Shelves, t.Robots, t.People, t.Dead, t.Stuck, i)
theorem Said_taquinlaw23_RouteDone (s : ApiSite) (ks : OkApiSite s) (a : Int) (ka : I64 a) (b : Int) (kb : I64 b) (tick : Int) (kt : I64 tick) (dead : List Int) (kd : OkL I64 dead) : V_taquinlaw23_RouteDone s a b tick dead (fun y => y = true) := by
  unfold V_taquinlaw23_RouteDone
  refine S_law23_small ?_
  refine Jn.mk (fun x => x = false → RSite { s with Shelves := [], Robots := [] } ∧ dead.length ≤ 30 ∧ tick ≤ 10000) (S_law23_fair (bare_ok ks) (Ite.f rfl (fun h => by cases h)) (fun hr _ _ _ h2 => Ite.t rfl (fun h => ⟨hr, h2, by simp at h; omega⟩))) (fun x hx => Ite.mk (fun _ => rfl) (fun h => ?_))
  obtain ⟨hr, hd, htk⟩ := hx h
  have hrs := hr.rs
  have ks1 := bare_ok ks
  have hfe : s.Floor = ({ s with Shelves := [], Robots := [] } : ApiSite).Floor := rfl
  refine V_chk (xs := dead) kd.1 (post := fun _ => true = true) (fun _ _ => True) (T := fun i q => Jn (fun (J27 : Bool → Prop) => ∃ x28, idx dead i = some x28 ∧ Ite (decide (x28 < 0)) (J27 true) (Ite (decide (x28 ≥ (s.Floor.Kind.length : Int))) (J27 true) (Ite (decide (i > 0)) (∃ x32, idx dead (imax (w64 (i - 1)) 0) = some x32 ∧ J27 (decide (x32 ≥ x28))) (J27 false)))) q) (fun i x hx q qt qf => Jn.mk' ⟨x, idx_of rfl hx, ?_⟩) rfl (fun _ => ?_)
  · refine Ite.mk (fun _ => qt) (fun _ => Ite.mk (fun _ => qt) (fun _ => Ite.mk (fun h1 => ?_) (fun _ => qf trivial)))
    have hil := (List.getElem?_eq_some_iff.1 hx).1
    cases i with
    | zero => simp at h1
    | succ j =>
      have hy := List.getElem?_eq_getElem (show j < dead.length by omega)
      refine ⟨_, idx_of (n := j) (by rw [w64_eq (by omega) (by omega)]; unfold imax; split <;> omega) hy, ?_⟩
      cases e : decide (dead[j] ≥ x)
      · exact qf trivial
      · exact qt
  refine S_route_Find (s := { s with Shelves := [], Robots := [] }) (bare_ok ks) hrs kd.1 (by simp) (fun _ => Ite.t rfl rfl) (fun _ g => by omega) (fun _ _ _ _ => Ite.t rfl rfl) (fun hg _ _ v gv gl _ => Ite.f rfl ?_)
  have hg' : isC s.Floor a = true ∧ 0 ≤ tick := by
    unfold rightR at hg; simp only [Bool.and_eq_true, decide_eq_true_eq] at hg; exact ⟨hg.1.1.1, hg.2.1⟩
  obtain ⟨s1, hs1⟩ : ∃ s1 : ApiSite, s1 = { s with Shelves := [], Robots := [] } := ⟨_, rfl⟩
  have gv' : GoodW s1 a b tick [] dead v := by rw [hs1]; exact gv
  have ks1' : OkApiSite s1 := by rw [hs1]; exact ks1
  have hrs1 : RS s1 := by rw [hs1]; exact hrs
  have hf1 : s1.Floor = s.Floor := by rw [hs1]
  have hz1 : oneS s1 a = { s with Shelves := [], Robots := [{ Cell := a, Charge := 1000000 }] } := by rw [hs1]; rfl
  clear gv hs1
  obtain ⟨hact, hrun, hgoal⟩ := gv'
  have hgb : (runF s1 [] dead tick (a, 0) v).1.1 = b := hgoal.1
  refine Jn.mk (fun t => ∃ T q ch, t = ((oneT T dead q ch).Tick, (oneT T dead q ch).Shelves, (oneT T dead q ch).Robots, (oneT T dead q ch).People, (oneT T dead q ch).Dead, (oneT T dead q ch).Stuck) ∧ q.1 = b) ?_ (fun t ht => ?_)
  rotate_left
  · obtain ⟨T, q, ch, rfl, hq⟩ := ht
    refine Jn.mk (fun x => x = true) (Ite.t rfl ⟨_, rfl, ?_⟩) (fun x hx => hx)
    show (q.1 == b) = true
    simp [hq]
  have hvl : v.length ≤ 25 := by omega
  refine Loop.inv v.length (fun i t => ∃ q ch, t = tupT (oneT (tick + i) dead q ch) i ∧ isQ s1 q ∧ 1000000 - 21 * (i : Int) ≤ ch ∧ ch ≤ 1000000 ∧ runF s1 [] dead (tick + i) q (v.drop i) = runF s1 [] dead tick (a, 0) v) ⟨(a, 0), 1000000, by simp [tupT, oneT], ⟨by rw [hf1]; exact hg'.1, by simp, by simp⟩, by omega, by omega, by simp⟩ (fun i t hi hI => ?_) (fun t hI => ?_)
  · obtain ⟨q, ch, rfl, hq, hc1, hc2, hrn⟩ := hI
    have hx := List.getElem?_eq_getElem hi
    have ha7 := hact _ (List.getElem_mem hi)
    have hdr : v.drop i = v[i] :: v.drop (i + 1) := List.drop_eq_getElem_cons hi
    rw [hdr] at hrn
    generalize v[i] = x at hx ha7 hrn
    rw [← hrn] at hrun
    rw [runF] at hrun hrn
    have he : (stepF s1 [] dead (tick + i) q x).2 = 0 := by
      by_cases e : (stepF s1 [] dead (tick + i) q x).2 = 0
      · exact e
      · rw [if_neg e] at hrun; exact hrun
    rw [if_pos he] at hrn
    obtain ⟨hleg, ch', hch1, hch2, hdo⟩ := one_step (avoid := dead) (c := a) hrs1 hq ha7 (ch := ch) (by omega) he
    have hls : LS (oneS s1 a) (oneT (tick + i) dead q ch) := oneT_ls hrs1 (by omega) hq
    have hok : OkApiState (oneT (tick + i) dead q ch) := oneT_ok hrs1.fl kd hq (by omega) (by omega)
    have hrx : (oneT (tick + i) dead q ch).Robots[0]? = some { Cell := q.1, Load := -1, Charge := ch, Rest := q.2, Mute := 0, Dead := false } := rfl
    refine Ite.lt (by show (i : Int) < (v.length : Int); omega) ⟨x, idx_of (n := i) rfl hx, ?_⟩
    rw [← hz1]
    refine S_act_Legal (s := oneS s1 a) (st := oneT (tick + i) dead q ch) (one_ok ks1' ka) hok hls ?_
    rw [legS_eq (i := 0) (n := 0) rfl hrx, hleg]
    refine Ite.f rfl ⟨_, rfl, S_act_Do (s := oneS s1 a) (st := oneT (tick + i) dead q ch) (one_ok ks1' ka) hok hls ha7.1 (by omega) ?_⟩
    rw [doS_eq (i := 0) (n := 0) rfl hrx, hdo]
    refine Ite.f rfl ?_
    have hq2 := stepF_ok hrs1 hq he
    refine Jn.mk (fun l => l = (oneT (tick + i) dead (stepF s1 [] dead (tick + i) q x).1 ch').Robots) (Ite.mk (fun h0 => ⟨_, rfl, ?_⟩) (fun h0 => ?_)) (fun l hl => ?_)
    · have h0' : x = 0 := by simpa using h0
      have hs : (stepF s1 [] dead (tick + i) q x).1 = (q.1, imax (q.2 - 1) 0) := by
        unfold stepF at he ⊢
        rw [if_pos h0'] at he ⊢
        split at he
        · cases he
        · rename_i hh; rw [if_neg hh]
      rw [hs, if_pos h0']
      have e : w64 (q.2 - 1) = q.2 - 1 := by have := hq.2; exact w64_eq (by omega) (by omega)
      show [({ Cell := q.1, Load := -1, Charge := ch', Rest := imax (w64 (q.2 - 1)) 0, Mute := 0, Dead := false } : ApiRobot)] = _
      rw [e]; rfl
    · rw [if_neg (by simpa using h0)]
    · subst hl
      refine ⟨(stepF s1 [] dead (tick + i) q x).1, ch', ?_, hq2, by omega, by omega, ?_⟩
      · have e1 : w64 (tick + (i : Int) + 1) = tick + ((i + 1 : Nat) : Int) := by rw [w64_eq (by omega) (by omega)]; omega
        have e2 : w64 ((i : Int) + 1) = ((i + 1 : Nat) : Int) := by rw [w64_eq (by omega) (by omega)]; omega
        show (w64 (tick + (i : Int) + 1), _, _, _, _, _, w64 ((i : Int) + 1)) = _
        rw [e1, e2]; rfl
      · rw [← hrn]; congr 1; omega
  · obtain ⟨q, ch, rfl, hq, hc1, hc2, hrn⟩ := hI
    rw [List.drop_length, runF] at hrn
    refine Ite.nlt (by show ¬ ((v.length : Int) < (v.length : Int)); omega) ⟨tick + v.length, q, ch, rfl, ?_⟩
    rw [← hgb, ← hrn]
end Go.Taq
