/- The mathematics, several parts in one text. -/
import Derived.Test.YtbpbennpgnjbkaaGreatAD
import Derived.Test.YtbpbennpgnjbkaaGreatNB
import Derived.Test.YtbpbennpgnjbkaaGreatVc
import Derived.IntWalk
/- The mathematics, part AE: the end of a tick; a whole tick (arena.Step and its reference). -/
set_option linter.unusedVariables false
set_option linter.unusedSimpArgs false
namespace Go.Taq
open Go

/-- the places of a list, turned one after the other -/
def mset {α : Type} (g : Nat → α) (xs : List α) (i : Nat) : List α := (List.range i).map g ++ xs.drop i
theorem mset_0 {α : Type} (g : Nat → α) (xs : List α) : mset g xs 0 = xs := by unfold mset; simp
theorem mset_get {α : Type} (g : Nat → α) {xs : List α} {i : Nat} {x : α} (h : xs[i]? = some x) : (mset g xs i)[i]? = some x := by
  unfold mset; rw [List.getElem?_append_right (by simp)]; simp [h]
theorem mset_set {α : Type} (g : Nat → α) {xs : List α} {i : Nat} (h : i < xs.length) : (mset g xs i).set i (g i) = mset g xs (i + 1) := by
  unfold mset
  rw [List.set_append, if_neg (by simp), List.length_map, List.length_range, Nat.sub_self, List.drop_eq_getElem_cons h, List.set_cons_zero, List.range_succ, List.map_append]
  simp
theorem mset_end {α : Type} (g : Nat → α) (xs : List α) : mset g xs xs.length = (List.range xs.length).map g := by unfold mset; simp
theorem range_map {α β : Type} (f : α → β) (xs : List α) (d : α) : (List.range xs.length).map (fun i => f (xs.getD i d)) = xs.map f := by
  apply List.ext_getElem?
  intro i
  rw [List.getElem?_map, List.getElem?_map]
  by_cases h : i < xs.length
  · rw [List.getElem?_range h, List.getElem?_eq_getElem h, Option.map_some, Option.map_some, List.getD_eq_getElem?_getD, List.getElem?_eq_getElem h]; rfl
  · rw [List.getElem?_eq_none (by simp; omega), List.getElem?_eq_none (by omega)]; rfl
/-- a robot at the end of a tick -/
def endR (b r : ApiRobot) : ApiRobot := { r with Rest := if r.Cell = b.Cell then imax (r.Rest - 1) 0 else r.Rest, Mute := imax (r.Mute - 1) 0 }
def decL (x : ApiStuck) : ApiStuck := { x with Left := x.Left - 1 }
def endsS (b st : ApiState) : ApiState :=
  { st with Tick := st.Tick + 1, Robots := (List.range st.Robots.length).map (fun i => endR (b.Robots.getD i default) (st.Robots.getD i default)), Stuck := (st.Stuck.map decL).filter fun x => !decide (x.Left ≤ 0) }
section
variable {s : ApiSite} {st b : ApiState}
theorem S_arena_ends (h : RSt s st) (hz : Sz st) (hl : b.Robots.length = st.Robots.length) {post : ApiState → Prop} (hp : post (endsS b st)) : V_arena_ends__ag b st post := by
  unfold V_arena_ends__ag
  have q2 := hz.rb; have q5 := hz.sk
  have htk := h.tick
  refine Jn.mk (fun l => l = (List.range st.Robots.length).map (fun i => endR (b.Robots.getD i default) (st.Robots.getD i default))) (V_upto st.Robots.length (fun t : List ApiRobot × Int => t.2) (fun i t => t.1 = mset (fun i => endR (b.Robots.getD i default) (st.Robots.getD i default)) st.Robots i) (by unfold maxLen; omega) rfl (mset_0 _ _).symm (fun i t hi ht hI => ?_) (fun t h => by rw [mset_end] at h; exact h)) (fun l hl2 => ?_)
  · have hx := List.getElem?_eq_getElem hi
    generalize st.Robots[i] = r at hx
    have hy := List.getElem?_eq_getElem (show i < b.Robots.length by omega)
    generalize b.Robots[i]'_ = r0 at hy
    have hR := h.rob i r hx
    have h1 := hR.rest; have h2 := hR.mute
    have eg : endR (b.Robots.getD i default) (st.Robots.getD i default) = endR r0 r := by rw [getD_r hx, getD_r hy]
    have em : w64 (r.Mute - 1) = r.Mute - 1 := w64_eq (by omega) (by omega)
    have er : w64 (r.Rest - 1) = r.Rest - 1 := w64_eq (by omega) (by omega)
    rw [ht]
    refine Jn.mk (fun l => l = t.1.set i (endR r0 r)) ⟨r, idx_of rfl (by rw [hI]; exact mset_get _ hx), r0, idx_of rfl hy, Ite.mk (fun h3 => ?_) (fun h3 => ?_)⟩ (fun l hl2 => ⟨rfl, by show l = _; rw [hl2, hI, ← eg]; exact mset_set _ hi⟩)
    · have h3' : r.Cell ≠ r0.Cell := by simpa using h3
      show t.1.set i _ = _
      unfold endR; rw [if_neg h3', em]
    · have h3' : r.Cell = r0.Cell := by simpa using h3
      show (t.1.set i _).set i _ = _
      rw [List.set_set]
      unfold endR; rw [if_pos h3', em, er]
  · refine Jn.mk (fun m => m = st.Stuck.map decL) (V_upto st.Stuck.length (fun t : List ApiStuck × Int => t.2) (fun i t => t.1 = mset (fun i => decL (st.Stuck.getD i default)) st.Stuck i) (by unfold maxLen; omega) rfl (mset_0 _ _).symm (fun i t hi ht hI => ?_) (fun t h => by rw [mset_end, range_map] at h; exact h)) (fun m hm => ?_)
    · have hx := List.getElem?_eq_getElem hi
      generalize st.Stuck[i] = x at hx
      have hK := h.stuck i x hx
      rw [ht]
      have eg : decL (st.Stuck.getD i default) = decL x := by rw [List.getD_eq_getElem?_getD, hx]; rfl
      refine ⟨x, idx_of rfl (by rw [hI]; exact mset_get _ hx), rfl, ?_⟩
      show t.1.set i _ = _
      rw [hI, w64_eq (by omega) (by omega)]
      have := mset_set (fun i => decL (st.Stuck.getD i default)) hi
      rw [← this, eg]; rfl
    · unfold V_slices_DeleteFunc_api_Stuck_api_Stuck__o0_arena_ends_1 V_slices_IndexFunc_api_Stuck_api_Stuck__arena_ends_1
      have hml : m.length ≤ maxLen := by rw [hm]; simp; unfold maxLen; omega
      refine V_fidxc hml (fun x : ApiStuck => decide (x.Left ≤ 0)) (T := fun x q => V_arena_ends_1 x q) (fun x _ q hq => by unfold V_arena_ends_1; exact hq) ?_
      refine V_delrest hml ({ Cell := 0, Left := 0 } : ApiStuck) (fun x : ApiStuck => decide (x.Left ≤ 0)) (T := fun x q => V_arena_ends_1 x q) (fun x _ q hq => by unfold V_arena_ends_1; exact hq) (post := fun y => post { Tick := w64 (st.Tick + 1), Shelves := st.Shelves, Robots := l, People := st.People, Dead := st.Dead, Stuck := y }) ?_
      rw [hm, hl2, w64_eq (by omega) (by omega)]
      exact hp
theorem rst_ends (h : RSt s st) (hl : b.Robots.length = st.Robots.length) (ht : st.Tick < 20000) : RSt s (endsS b st) := by
  have hget : ∀ (i : Nat) r', (endsS b st).Robots[i]? = some r' → ∃ r, st.Robots[i]? = some r ∧ r' = endR (b.Robots.getD i default) r := fun i r' hi => by
    have hi' : ((List.range st.Robots.length).map (fun i => endR (b.Robots.getD i default) (st.Robots.getD i default)))[i]? = some r' := hi
    rw [List.getElem?_map] at hi'
    cases e : (List.range st.Robots.length)[i]? with
    | none => rw [e] at hi'; cases hi'
    | some j =>
      rw [e] at hi'
      obtain ⟨h1, h2⟩ := List.getElem?_eq_some_iff.1 e
      simp at h1 h2
      subst h2
      have hx := List.getElem?_eq_getElem h1
      refine ⟨_, hx, ?_⟩
      exact (Option.some.inj hi').symm.trans (by show endR _ (st.Robots.getD _ default) = _; rw [getD_r hx])
  refine rst_like h (st' := endsS b st) ?_ rfl rfl (by have := h.tick; show 0 ≤ st.Tick + 1 ∧ st.Tick + 1 ≤ 20000; omega) (fun i r' hi => ?_) h.dead h.deadA (fun i x hi => ?_) (fun i x y hx hy => ?_)
  · show ((List.range st.Robots.length).map (fun i => endR (b.Robots.getD i default) (st.Robots.getD i default))).map CL = _
    rw [List.map_map]
    have : (CL ∘ fun i => endR (b.Robots.getD i default) (st.Robots.getD i default)) = fun i => CL (st.Robots.getD i default) := rfl
    rw [this]; exact range_map CL st.Robots default
  · obtain ⟨r, hr, e⟩ := hget i r' hi
    have hR := h.rob i r hr
    have h1 := hR.rest; have h2 := hR.mute
    subst e
    refine ⟨hR.charge, ?_, ?_⟩
    · unfold endR; simp only; split
      · unfold imax; split <;> omega
      · exact h1
    · unfold endR; simp only; unfold imax; split <;> omega
  · have hm := List.mem_of_getElem? hi
    have hm' : x ∈ (st.Stuck.map decL).filter fun x => !decide (x.Left ≤ 0) := hm
    obtain ⟨h1, h2⟩ := List.mem_filter.1 hm'
    obtain ⟨y, hy, e⟩ := List.mem_map.1 h1
    obtain ⟨j, hj⟩ := List.getElem?_of_mem hy
    have hK := h.stuck j y hj
    subst e
    have h2' : ¬ (decL y).Left ≤ 0 := by simpa using h2
    refine ⟨hK.1, ?_⟩
    have : (decL y).Left = y.Left - 1 := rfl
    omega
  · have h1 := pw_of_adj (g := fun x : ApiStuck => x.Cell) h.stuckA
    have h2 : ((st.Stuck.map decL).filter fun x => !decide (x.Left ≤ 0)).Pairwise (fun x y => x.Cell < y.Cell) := List.Pairwise.filter _ (List.pairwise_map.2 (h1.imp (fun h => h)))
    exact adj_of_pw (g := fun x : ApiStuck => x.Cell) h2 i x y hx hy
/-! ## lengths -/
/-- how long the lists of a state may be -/
structure SzN (n : Nat) (st : ApiState) : Prop where
  sh : st.Shelves.length ≤ 20
  rb : st.Robots.length ≤ 20
  pp : st.People.length ≤ 20
  dd : st.Dead.length ≤ n
  sk : st.Stuck.length ≤ n
theorem SzN.sz {n : Nat} (h : SzN n st) (hn : n ≤ 1000) : Sz st := ⟨by have := h.sh; omega, by have := h.rb; omega, by have := h.pp; omega, by have := h.dd; omega, by have := h.sk; omega⟩
theorem SzN.mono {n m : Nat} (h : SzN n st) (hn : n ≤ m) : SzN m st := ⟨h.sh, h.rb, h.pp, by have := h.dd; omega, by have := h.sk; omega⟩
theorem Few12.szN (h : Few12 st) : SzN 12 st := ⟨by have := h.sh; omega, by have := h.rb; omega, by have := h.pp; omega, h.dd, h.sk⟩
theorem szN_happ {n : Nat} (hf : RF s.Floor) (h : RSt s st) (hz : SzN n st) (f : ApiFault) : SzN (n + 1) (happS s st f) := by
  have hr := rst_happ hf h f
  have hpl := hr.pl
  cases hb : possB s st f with
  | false => rw [happ_no hb]; exact hz.mono (by omega)
  | true =>
    have q1 := hz.sh; have q2 := hz.rb; have q3 := hz.dd; have q4 := hz.sk
    by_cases h1 : f.Kind = 1
    · rw [happ_1 hb h1] at hpl ⊢; exact ⟨q1, by unfold setR; simp only; rw [List.length_set]; exact q2, hpl, by show st.Dead.length ≤ _; omega, by show st.Stuck.length ≤ _; omega⟩
    by_cases h2 : f.Kind = 2
    · rw [happ_2 hb h2] at hpl ⊢; exact ⟨q1, q2, hpl, by show (srtI _).length ≤ _; rw [(srtI_perm _).length_eq]; simp; omega, by show st.Stuck.length ≤ _; omega⟩
    by_cases h3 : f.Kind = 3
    · rw [happ_3 hb h3] at hpl ⊢; exact ⟨q1, by unfold setR; simp only; rw [List.length_set]; exact q2, hpl, by show st.Dead.length ≤ _; omega, by show st.Stuck.length ≤ _; omega⟩
    by_cases h4 : f.Kind = 4
    · rw [happ_4 hb h4] at hpl ⊢; exact ⟨q1, q2, hpl, by show st.Dead.length ≤ _; omega, by have := (stickS_len f.A f.N st.Stuck).2; show (stickS _ _ _).length ≤ _; omega⟩
    by_cases h5 : f.Kind = 5
    · rw [happ_5 hb h5] at hpl ⊢; exact ⟨q1, q2, hpl, by show st.Dead.length ≤ _; omega, by show st.Stuck.length ≤ _; omega⟩
    · by_cases h0 : f.Kind = 0
      · rw [happ_0 h0]; exact hz.mono (by omega)
      · have := possB_n (s := s) (st := st) h0 h1 h2 h3 h4 h5
        rw [this] at hb; cases hb
/-- what an act leaves as it was -/
theorem doA_same (i : Nat) (a : Int) : (doA s st i a).Tick = st.Tick ∧ (doA s st i a).Robots.length = st.Robots.length ∧ (doA s st i a).Shelves.length = st.Shelves.length ∧ (doA s st i a).People = st.People ∧ (doA s st i a).Dead = st.Dead ∧ (doA s st i a).Stuck = st.Stuck := by
  unfold doA
  generalize (if legS s st i a = 0 then a else 0) = c
  unfold doS
  split
  · exact ⟨rfl, rfl, rfl, rfl, rfl, rfl⟩
  · refine ⟨?_, doR_rl _ _ _, doR_sl _ _ _, ?_, ?_, ?_⟩ <;> (unfold doR; split <;> rfl)
theorem szN_doA {n : Nat} (hz : SzN n st) (i : Nat) (a : Int) : SzN n (doA s st i a) := by
  obtain ⟨_, h1, h2, h3, h4, h5⟩ := doA_same (s := s) (st := st) i a
  exact ⟨by rw [h2]; exact hz.sh, by rw [h1]; exact hz.rb, by rw [h3]; exact hz.pp, by rw [h4]; exact hz.dd, by rw [h5]; exact hz.sk⟩
theorem szN_ends {n : Nat} (hz : SzN n st) : SzN n (endsS b st) :=
  ⟨hz.sh, by show ((List.range st.Robots.length).map _).length ≤ 20; simp; exact hz.rb, hz.pp, hz.dd, by
    show ((st.Stuck.map decL).filter _).length ≤ n
    exact Nat.le_trans (List.length_filter_le _ _) (by simp; exact hz.sk)⟩
/-- what holds of acts one after the other -/
theorem run_keeps {n : Nat} (hn : n ≤ 1000) (hf : RF s.Floor) (hs : RS s) (acts : List Int) : ∀ (k i : Nat) (st : ApiState), i + k ≤ st.Robots.length → RSt s st → SzN n st → RSt s (runS s acts k i st) ∧ SzN n (runS s acts k i st) ∧ (runS s acts k i st).Tick = st.Tick ∧ (runS s acts k i st).Robots.length = st.Robots.length
  | 0, i, st, _, h, hz => ⟨h, hz, rfl, rfl⟩
  | k + 1, i, st, hi, h, hz => by
    obtain ⟨g1, g2, _⟩ := doA_same (s := s) (st := st) i (acts.getD i 0)
    obtain ⟨h1, h2, h3, h4⟩ := run_keeps hn hf hs acts k (i + 1) (doA s st i (acts.getD i 0)) (by rw [g2]; omega) (rst_doA hf hs h (hz.sz hn) (by omega) _) (szN_doA hz i _)
    exact ⟨h1, h2, h3.trans g1, h4.trans g2⟩
/-- the loop over the acts of a tick -/
theorem V_run {n : Nat} (hn : n ≤ 1000) (hf : RF s.Floor) (hs : RS s) {acts : List Int} (hm : acts.length ≤ maxLen) {now : ApiState} (h : RSt s now) (hz : SzN n now) (hl : acts.length = now.Robots.length)
    {L : ApiState → Int → Int → (Int → Prop) → Prop} (hL : ∀ st, OkApiState st → LS s st → ∀ i a {q : Int → Prop}, q (legS s st i a) → L st i a q)
    {D : ApiState → Int → Int → (ApiState → Prop) → Prop} (hD : ∀ st, OkApiState st → LS s st → ∀ i a {q : ApiState → Prop}, 0 ≤ a → a < 10 → q (doS s st i a) → D st i a q)
    {K : Int × List Int × List ApiRobot × List Int × List Int × List ApiStuck → Prop} (hp : ∀ t : Int × List Int × List ApiRobot × List Int × List Int × List ApiStuck, ({ Tick := t.1, Shelves := t.2.1, Robots := t.2.2.1, People := t.2.2.2.1, Dead := t.2.2.2.2.1, Stuck := t.2.2.2.2.2 } : ApiState) = runS s acts acts.length 0 now → K t) :
    Jn (fun (J : (Int × List Int × List ApiRobot × List Int × List Int × List ApiStuck) → Prop) => Loop (fun (t : Int × List Int × List ApiRobot × List Int × List Int × List ApiStuck × Int) Y => Ite (decide (t.2.2.2.2.2.2 < (acts.length : Int)))
      (∃ x, idx acts t.2.2.2.2.2.2 = some x ∧ L (stOf t) t.2.2.2.2.2.2 x (fun y => Jn (fun (J2 : Int → Prop) => Ite (y != 0) (J2 0) (J2 x)) (fun (a : Int) => D (stOf t) t.2.2.2.2.2.2 a (fun z => Y (z.Tick, z.Shelves, z.Robots, z.People, z.Dead, z.Stuck, w64 (t.2.2.2.2.2.2 + 1))))))
      (J (t.1, t.2.1, t.2.2.1, t.2.2.2.1, t.2.2.2.2.1, t.2.2.2.2.2.1))) (now.Tick, now.Shelves, now.Robots, now.People, now.Dead, now.Stuck, 0)) K := by
  refine Jn.mk (fun t => ({ Tick := t.1, Shelves := t.2.1, Robots := t.2.2.1, People := t.2.2.2.1, Dead := t.2.2.2.2.1, Stuck := t.2.2.2.2.2 } : ApiState) = runS s acts acts.length 0 now) (Loop.inv acts.length (fun i t => t.2.2.2.2.2.2 = (i : Int) ∧ RSt s (stOf t) ∧ SzN n (stOf t) ∧ (stOf t).Robots.length = acts.length ∧ runS s acts acts.length 0 now = runS s acts (acts.length - i) i (stOf t)) ⟨rfl, h, hz, hl.symm, rfl⟩ (fun i t hi hI => ?_) (fun t hI => ?_)) hp
  · obtain ⟨ht, hr, hsz, hlen, hI⟩ := hI
    have hx := List.getElem?_eq_getElem hi
    generalize acts[i] = a at hx
    have hn' : acts.length - i = (acts.length - (i + 1)) + 1 := by omega
    rw [hn', runS, getD_i hx] at hI
    have hls := rst_ls hf hs hr (hsz.sz hn)
    have hok := rst_ok hf hr (hsz.sz hn)
    rw [ht]
    refine Ite.lt (by omega) ⟨a, idx_of rfl hx, hL _ hok hls i a ?_⟩
    refine Jn.mk (fun c => c = if legS s (stOf t) i a = 0 then a else 0) (Ite.mk (fun h6 => by rw [if_neg (by simpa using h6)]) (fun h6 => by rw [if_pos (by simpa using h6)])) (fun c hc => ?_)
    have hleg := legA (s := s) (st := stOf t) (i := i) (by omega) a
    rw [← hc] at hleg
    have hb := legS_lt hleg
    have e : doS s (stOf t) i c = doA s (stOf t) i a := by unfold doA; rw [← hc]
    refine hD _ hok hls i c hb.1 hb.2 ?_
    rw [e]
    refine ⟨w64_nat hi hm, rst_doA hf hs hr (hsz.sz hn) (by omega) a, szN_doA hsz i a, ?_, hI⟩
    show (doA s (stOf t) i a).Robots.length = _
    rw [(doA_same (s := s) (st := stOf t) i a).2.1]; exact hlen
  · obtain ⟨ht, hr, hsz, hlen, hI⟩ := hI
    rw [Nat.sub_self, runS] at hI
    exact Ite.nlt (by omega) hI.symm
def emptyS : ApiState := { Tick := 0, Shelves := [], Robots := [], People := [], Dead := [], Stuck := [] }
def tickS (s : ApiSite) (st : ApiState) (acts : List Int) (f : ApiFault) : ApiState := endsS st (runS s acts acts.length 0 (happS s st f))
noncomputable def stepS (s : ApiSite) (st : ApiState) (acts : List Int) (f : ApiFault) : ApiState × Int :=
  if chkS s st acts ≠ 0 then (emptyS, chkS s st acts) else if possB s st f = false then (emptyS, 26) else (tickS s st acts f, 0)
theorem chk_tick {acts : List Int} (h : chkS s st acts = 0) : st.Tick < 20000 ∧ acts.length = st.Robots.length := by
  unfold chkS at h
  by_cases h1 : st.Tick ≥ 20000
  · rw [if_pos h1] at h; simp at h
  · rw [if_neg h1] at h
    by_cases h2 : (acts.length : Int) ≠ st.Robots.length
    · rw [if_pos h2] at h; simp at h
    · exact ⟨by omega, by omega⟩
theorem happ_rl (f : ApiFault) : (happS s st f).Robots.length = st.Robots.length ∧ (happS s st f).Tick = st.Tick := by
  unfold happS setR; split
  · exact ⟨rfl, rfl⟩
  · (repeat' split) <;> first | exact ⟨rfl, rfl⟩ | exact ⟨by simp, rfl⟩
/-- a tick that can be done -/
theorem tick_keeps {n : Nat} (hn : n < 1000) (hf : RF s.Floor) (hs : RS s) (h : RSt s st) (hz : SzN n st) {acts : List Int} (hc : chkS s st acts = 0) (f : ApiFault) : RSt s (tickS s st acts f) ∧ SzN (n + 1) (tickS s st acts f) ∧ (tickS s st acts f).Tick = st.Tick + 1 ∧ (tickS s st acts f).Robots.length = st.Robots.length := by
  obtain ⟨ht, hl⟩ := chk_tick hc
  obtain ⟨e1, e2⟩ := happ_rl (s := s) (st := st) f
  have hr := rst_happ hf h f
  have hsz := szN_happ hf h hz f
  obtain ⟨g1, g2, g3, g4⟩ := run_keeps (n := n + 1) (by omega) hf hs acts acts.length 0 (happS s st f) (by rw [e1]; omega) hr hsz
  refine ⟨rst_ends g1 (by rw [g4, e1]) (by rw [g3, e2]; exact ht), szN_ends g2, ?_, ?_⟩
  · show (runS s acts acts.length 0 (happS s st f)).Tick + 1 = _; rw [g3, e2]
  · show ((List.range _).map _).length = _; simp; rw [g4, e1]
theorem S_arena_Step {n : Nat} (hn : n < 1000) (ks : OkApiSite s) (hf : RF s.Floor) (hs : RS s) (h : RSt s st) (hz : SzN n st) {acts : List Int} (ka : OkL I64 acts) {f : ApiFault} {post : ApiState × Int → Prop} (hp : post (stepS s st acts f)) : V_arena_Step s st acts f post := by
  unfold V_arena_Step
  have hsz := hz.sz (by omega)
  have hok := rst_ok hf h hsz
  unfold stepS at hp
  refine S_arena_Check ks hok (rst_ls hf hs h hsz) ka (Ite.mk (fun h1 => ?_) (fun h1 => ?_))
  · rw [if_pos (by simpa using h1)] at hp; exact hp
  have hc : chkS s st acts = 0 := by simpa using h1
  rw [if_neg (by simpa using h1)] at hp
  refine S_arena_Possible hf hsz (Ite.mk (fun h2 => ?_) (fun h2 => ?_))
  · have h2' : possS s st f ≠ 0 := by simpa using h2
    have hb : possB s st f = false := by
      cases e : possB s st f with
      | false => rfl
      | true => exact absurd (possS_iff.2 e) h2'
    have : possS s st f = 26 := by unfold possS; rw [hb]; rfl
    rw [if_pos hb] at hp; rw [this]; exact hp
  have hb : possB s st f = true := possS_iff.1 (by simpa using h2)
  rw [if_neg (by rw [hb]; simp)] at hp
  obtain ⟨ht, hl⟩ := chk_tick hc
  obtain ⟨e1, e2⟩ := happ_rl (s := s) (st := st) f
  have hr := rst_happ hf h f
  have hsz1 := szN_happ hf h hz f
  obtain ⟨g1, g2, g3, g4⟩ := run_keeps (n := n + 1) (by omega) hf hs acts acts.length 0 (happS s st f) (by rw [e1]; omega) hr hsz1
  refine S_arena_Happen hf hsz (V_run (n := n + 1) (by omega) hf hs ka.1 hr hsz1 (by rw [e1]; exact hl) (L := fun st i a q => V_act_Legal s st i a q) (fun st k h i a q hq => S_act_Legal ks k h hq) (D := fun st i a q => V_act_Do s st i a q) (fun st k h i a q h0 h9 hq => S_act_Do ks k h h0 h9 hq) (fun t ht => ?_))
  rw [ht]
  exact S_body_Clone (g2.sz (by omega)) (S_arena_ends g1 (g2.sz (by omega)) (by rw [g4, e1]) hp)
end
end Go.Taq

/- The mathematics, part AF: right states and right sites by the program's own functions; the bounds of the statements of chapter 16. -/
set_option linter.unusedVariables false
set_option linter.unusedSimpArgs false
namespace Go.Taq
open Go

section
variable {s : ApiSite} {st : ApiState}
theorem S_body_withinI {x a b : Int} {post : Bool → Prop} (hp : post (decide (x ≥ a) && decide (x ≤ b))) : V_body_within x a b post := by
  unfold V_body_within; exact Jand2 hp
theorem S_body_onI {f : ApiFloor} {c : Int} {ks : List Int} (hk : ks.length ≤ 10) (h1 : ks.contains (-1) = false) {post : Bool → Prop} (hp : post (ks.contains (kx f c))) : V_body_on f c ks post := by
  unfold V_body_on
  unfold kx at hp
  refine Jn.mk' (Ite.mk (fun h2 => Ite.mk (fun h3 => ?_) (fun h3 => ?_)) (fun h2 => ?_))
  · have hc : isC f c = true := isC_iff.2 ⟨by simpa using h2, by simpa using h3⟩
    rw [if_pos hc] at hp
    exact ⟨_, idx_kd hc, S_slices_Contains (by unfold maxLen; omega) hp⟩
  · have hc : isC f c = false := isC_not.2 (fun h => by simp at h3; omega)
    rw [hc] at hp; simp only [Bool.false_eq_true, if_false] at hp; rw [h1] at hp; exact hp
  · have hc : isC f c = false := isC_not.2 (fun h => by simp at h2; omega)
    rw [hc] at hp; simp only [Bool.false_eq_true, if_false] at hp; rw [h1] at hp; exact hp
theorem S_body_robotsI (hz : Sz st) {post : Bool → Prop} (hF : post false) (hT : (∀ (i : Nat) r, st.Robots[i]? = some r → RRob s st i r) → post true) : V_body_robots s st post := by
  unfold V_body_robots
  have q1 := hz.rb
  have q2 := hz.sh
  let P : Nat → ApiRobot → Prop := fun k z => isC s.Floor z.Cell = true ∧ kd s.Floor z.Cell ≠ 0 ∧ (-1 ≤ z.Load ∧ z.Load < st.Shelves.length) ∧ (0 ≤ z.Charge ∧ z.Charge ≤ 1000000) ∧ (0 ≤ z.Rest ∧ z.Rest ≤ 20000) ∧ (0 ≤ z.Mute ∧ z.Mute ≤ 20000) ∧ (0 ≤ z.Load → st.Shelves.getD z.Load.toNat 0 = z.Cell ∧ ∀ (j : Nat) y, j < k → st.Robots[j]? = some y → y.Load ≠ z.Load)
  refine Jn.mk (fun _ => ∀ (k : Nat) z, st.Robots[k]? = some z → P k z) (V_loopc (xs := st.Robots) (by unfold maxLen; omega) (fun t : List (Int × Bool) × Int => t.2) (fun i t => (∀ x, (lk t.1 x).getD false = true ↔ ∃ (k : Nat) (z : ApiRobot), k < i ∧ st.Robots[k]? = some z ∧ z.Load = x) ∧ ∀ (k : Nat) z, k < i → st.Robots[k]? = some z → P k z) rfl ⟨fun x => ⟨fun hx => by simp [lk] at hx, fun ⟨k, z, h, _⟩ => by omega⟩, fun k z h => by omega⟩ (fun i r t hx ht hI => ?_) (fun t h k z hk => h.2 k z (List.getElem?_eq_some_iff.1 hk).1 hk)) (fun _ hall => hT fun i r hi => ?_)
  · obtain ⟨hm, hP⟩ := hI
    refine Jn.mk (fun b => b = false → isC s.Floor r.Cell = true ∧ kd s.Floor r.Cell ≠ 0 ∧ (-1 ≤ r.Load ∧ r.Load < st.Shelves.length)) (Ite.mk (fun _ h => by cases h) (fun h1 => Ite.mk (fun _ h => by cases h) (fun h2 => ?_))) (fun b hb => Ite.mk (fun _ => hF) (fun h => ?_))
    · have hc : isC s.Floor r.Cell = true := isC_iff.2 ⟨by simp at h1; omega, by simp at h2; omega⟩
      refine ⟨_, idx_kd hc, Ite.mk (fun _ h => by cases h) (fun h3 => S_body_withinI (fun h4 => ⟨hc, by simpa using h3, ?_⟩))⟩
      rw [w64_eq (by omega) (by omega)] at h4
      simp at h4; omega
    obtain ⟨c1, c2, c3⟩ := hb h
    refine Jn.mk (fun b => b = false → (0 ≤ r.Charge ∧ r.Charge ≤ 1000000) ∧ (0 ≤ r.Rest ∧ r.Rest ≤ 20000) ∧ (0 ≤ r.Mute ∧ r.Mute ≤ 20000)) (S_body_withinI (Ite.mk (fun h1 => S_body_withinI (Ite.mk (fun h2 => S_body_withinI (fun h3 => ?_)) (fun _ h => by cases h))) (fun _ h => by cases h))) (fun b hb => Ite.mk (fun _ => hF) (fun h => ?_))
    · simp at h1 h2 h3; omega
    obtain ⟨c4, c5, c6⟩ := hb h
    refine Jn.mk (fun b => b = false → 0 ≤ r.Load → st.Shelves.getD r.Load.toNat 0 = r.Cell ∧ ∀ (j : Nat) y, j < i → st.Robots[j]? = some y → y.Load ≠ r.Load) (Ite.mk (fun h0 => Ite.mk (fun _ h => by cases h) (fun h1 => ?_)) (fun h0 _ h => by simp at h0; omega)) (fun b hb => Ite.mk (fun _ => hF) (fun h => ⟨by show w64 (t.2 + 1) = _; rw [ht], fun x => ?_, fun k z hk hz2 => ?_⟩))
    · have h0' : 0 ≤ r.Load := by simpa using h0
      obtain ⟨m, hm2⟩ := Int.eq_ofNat_of_zero_le h0'
      have hsx := List.getElem?_eq_getElem (show m < st.Shelves.length by omega)
      refine ⟨_, idx_of hm2 hsx, fun h2 _ => ⟨?_, fun j y hj hy e => ?_⟩⟩
      · rw [hm2]; show st.Shelves.getD m 0 = _; rw [getD_i hsx]; simpa using h2
      · have := (hm r.Load).2 ⟨j, y, hj, hy, e⟩
        rw [h1] at this; cases this
    · show (lk (upd t.1 r.Load true) x).getD false = true ↔ _
      rw [lk_upd]
      by_cases e : r.Load = x
      · rw [if_pos e]; exact ⟨fun _ => ⟨i, r, by omega, hx, e⟩, fun _ => rfl⟩
      · rw [if_neg e, hm x]
        constructor
        · rintro ⟨k, z, h1, h2, h3⟩; exact ⟨k, z, by omega, h2, h3⟩
        · rintro ⟨k, z, h1, h2, h3⟩
          refine ⟨k, z, ?_, h2, h3⟩
          by_cases e2 : k = i
          · subst e2; rw [hx] at h2; cases h2; exact absurd h3 e
          · omega
    · by_cases e : k = i
      · subst e; rw [hx] at hz2; cases hz2
        exact ⟨c1, c2, c3, c4, c5, c6, hb h⟩
      · exact hP k z (by omega) hz2
  · obtain ⟨c1, c2, c3, c4, c5, c6, c7⟩ := hall i r hi
    refine ⟨c1, c2, c3, c4, c5, c6, fun h0 => ⟨carr_at hi h0 (fun k z hk e => ?_), (c7 h0).1⟩⟩
    rcases Nat.lt_trichotomy k i with h | h | h
    · exact absurd e ((c7 h0).2 k z h hk)
    · exact h
    · exact absurd e.symm (((hall k z hk).2.2.2.2.2.2 (by omega)).2 i r h hi)
theorem S_body_restI (hz : Sz st) {post : Bool → Prop} (hF : post false) (hT : (∀ (i : Nat) c, st.Dead[i]? = some c → isC s.Floor c = true) → (∀ (i : Nat) x y, st.Dead[i]? = some x → st.Dead[i + 1]? = some y → x < y) → (∀ (i : Nat) x, st.Stuck[i]? = some x → kx s.Floor x.Cell = 6 ∧ 1 ≤ x.Left ∧ x.Left ≤ 20000) → (∀ (i : Nat) x y, st.Stuck[i]? = some x → st.Stuck[i + 1]? = some y → x.Cell < y.Cell) → post true) : V_body_rest s.Floor st post := by
  unfold V_body_rest
  have q4 := hz.dd; have q5 := hz.sk
  refine V_chk (xs := st.Dead) (by unfold maxLen; omega) (fun i x => isC s.Floor x = true ∧ ∀ y, 0 < i → st.Dead[i - 1]? = some y → y < x) (T := fun i q => ∃ x14, idx st.Dead i = some x14 ∧ Jn (fun (J16 : Bool → Prop) => Ite (decide (x14 < 0)) (J16 true) (Ite (decide (x14 ≥ (s.Floor.Kind.length : Int))) (J16 true) (Ite (decide (i > 0)) (∃ x20, idx st.Dead (w64 (i - 1)) = some x20 ∧ J16 (decide (x14 ≤ x20))) (J16 false)))) q) (fun i x hx q qT qF => ⟨x, idx_of rfl hx, Jn.mk' ?_⟩) hF (fun hd => ?_)
  · have hil := (List.getElem?_eq_some_iff.1 hx).1
    refine Ite.mk (fun _ => qT) (fun h1 => Ite.mk (fun _ => qT) (fun h2 => Ite.mk (fun h3 => ?_) (fun h3 => qF ⟨isC_iff.2 ⟨by simp at h1; omega, by simp at h2; omega⟩, fun y hy => by simp at h3; omega⟩)))
    have hi0 : 0 < i := by simp at h3; omega
    have hy := List.getElem?_eq_getElem (show i - 1 < st.Dead.length by omega)
    refine ⟨_, idx_of (n := i - 1) (by rw [w64_eq (by omega) (by omega)]; omega) hy, ?_⟩
    by_cases h4 : x ≤ st.Dead[i - 1]
    · rw [decide_eq_true h4]; exact qT
    · rw [decide_eq_false h4]
      refine qF ⟨isC_iff.2 ⟨by simp at h1; omega, by simp at h2; omega⟩, fun y _ hy2 => ?_⟩
      rw [hy] at hy2; cases hy2; omega
  refine V_chk (xs := st.Stuck) (by unfold maxLen; omega) (fun i x => (kx s.Floor x.Cell = 6 ∧ 1 ≤ x.Left ∧ x.Left ≤ 20000) ∧ ∀ y, 0 < i → st.Stuck[i - 1]? = some y → y.Cell < x.Cell) (T := fun i q => ∃ x37, idx st.Stuck i = some x37 ∧ Jn (fun (J39 : Bool → Prop) => V_body_on s.Floor x37.Cell ([6] : List Int) (fun x40 => Ite x40 (V_body_within x37.Left 1 20000 (fun x42 => Ite x42 (Ite (decide (i > 0)) (∃ x45, idx st.Stuck (w64 (i - 1)) = some x45 ∧ J39 (decide (x37.Cell ≤ x45.Cell))) (J39 false)) (J39 true))) (J39 true))) q) (fun i x hx q qT qF => ⟨x, idx_of rfl hx, Jn.mk' ?_⟩) hF (fun hs => hT (fun i c hi => (hd i c hi).1) (fun i x y hx hy => (hd (i + 1) y hy).2 x (by omega) (by simpa using hx)) (fun i x hi => (hs i x hi).1) (fun i x y hx hy => (hs (i + 1) y hy).2 x (by omega) (by simpa using hx)))
  have hil := (List.getElem?_eq_some_iff.1 hx).1
  refine S_body_onI (by decide) (by decide) (Ite.mk (fun h1 => S_body_withinI (Ite.mk (fun h2 => Ite.mk (fun h3 => ?_) (fun h3 => qF ⟨⟨by simpa using h1, by simp at h2; omega⟩, fun y hy => by simp at h3; omega⟩)) (fun _ => qT))) (fun _ => qT))
  have hi0 : 0 < i := by simp at h3; omega
  have hy := List.getElem?_eq_getElem (show i - 1 < st.Stuck.length by omega)
  refine ⟨_, idx_of (n := i - 1) (by rw [w64_eq (by omega) (by omega)]; omega) hy, ?_⟩
  by_cases h4 : x.Cell ≤ (st.Stuck[i - 1]).Cell
  · rw [decide_eq_true h4]; exact qT
  · rw [decide_eq_false h4]
    refine qF ⟨⟨by simpa using h1, by simp at h2; omega⟩, fun y _ hy2 => ?_⟩
    rw [hy] at hy2; cases hy2; omega
theorem S_body_RightI (hz : Sz st) {post : Bool → Prop} (hF : post false) (hT : RSt s st → post true) : V_body_Right s st post := by
  unfold V_body_Right
  have q1 := hz.sh; have q3 := hz.pp
  refine Jn.mk (fun b => b = false → (0 ≤ st.Tick ∧ st.Tick ≤ 20000) ∧ st.Shelves.length = s.Shelves.length ∧ st.Robots.length = s.Robots.length ∧ st.People.length ≤ 20 ∧ (∀ (i : Nat) r, st.Robots[i]? = some r → RRob s st i r) ∧ (∀ (i : Nat) c, st.Dead[i]? = some c → isC s.Floor c = true) ∧ (∀ (i : Nat) x y, st.Dead[i]? = some x → st.Dead[i + 1]? = some y → x < y) ∧ (∀ (i : Nat) x, st.Stuck[i]? = some x → kx s.Floor x.Cell = 6 ∧ 1 ≤ x.Left ∧ x.Left ≤ 20000) ∧ (∀ (i : Nat) x y, st.Stuck[i]? = some x → st.Stuck[i + 1]? = some y → x.Cell < y.Cell))
    (S_body_withinI (Ite.mk (fun h1 => Ite.mk (fun _ h => by cases h) (fun h2 => Ite.mk (fun _ h => by cases h) (fun h3 => Ite.mk (fun _ h => by cases h) (fun h4 => S_body_robotsI hz (Ite.f rfl (fun h => by cases h)) (fun h5 => Ite.t rfl (S_body_restI hz (fun h => by cases h) (fun h6 h7 h8 h9 _ => ⟨by simp at h1; omega, by simp at h2; omega, by simp at h3; omega, by simp at h4; omega, h5, h6, h7, h8, h9⟩))))))) (fun _ h => by cases h))) (fun b hb => Ite.mk (fun _ => hF) (fun h => ?_))
  obtain ⟨g1, g2, g3, g4, g5, g6, g7, g8, g9⟩ := hb h
  refine V_chk (xs := st.Shelves) (by unfold maxLen; omega) (fun i x => carB st i = false → kx s.Floor x = 1 ∨ kx s.Floor x = 2) (T := fun i q => ∃ x27, idx st.Shelves i = some x27 ∧ Jn (fun (J29 : Bool → Prop) => V_body_Carrier st i (fun x30 => Ite (decide (x30 < 0)) (V_body_on s.Floor x27 ([1, 2] : List Int) (fun x32 => J29 (!x32))) (J29 false))) q) (fun i x hx q qT qF => ⟨x, idx_of rfl hx, Jn.mk' (S_body_Carrier hz (Ite.mk (fun h1 => S_body_onI (by decide) (by decide) ?_) (fun h1 => qF (fun hc => ?_))))⟩) hF (fun hs => ?_)
  · cases e : ([1, 2] : List Int).contains (kx s.Floor x) with
    | true => exact qF (fun _ => by simpa using e)
    | false => exact qT
  · exfalso; unfold carB at hc; simp at h1 hc; omega
  refine V_chk (xs := st.People) (by unfold maxLen; omega) (fun i x => kx s.Floor x = 4 ∨ kx s.Floor x = 5) (T := fun i q => ∃ x49, idx st.People i = some x49 ∧ V_body_on s.Floor x49 ([4, 5] : List Int) (fun x52 => q (!x52))) (fun i x hx q qT qF => ⟨x, idx_of rfl hx, S_body_onI (by decide) (by decide) ?_⟩) hF (fun hp => ?_)
  · cases e : ([4, 5] : List Int).contains (kx s.Floor x) with
    | true => exact qF (by simpa using e)
    | false => exact qT
  refine S_body_all hz (S_body_ClashI (by have := allS_len hz; omega) (fun n b hb => ?_))
  cases b with
  | true => exact hF
  | false =>
    refine hT ⟨g1, g2, g3, g4, g5, hs, hp, g6, g7, g8, g9, ?_⟩
    by_cases e : (allS st).Nodup
    · exact e
    · have := hb.2 e; cases this
/-! ## a bare site is right -/
theorem S_floor_RightT {f : ApiFloor} (h : RF f) {post : Bool → Prop} (hp : post true) : V_floor_Right f post := by
  have w1 := h.W1; have w2 := h.H1; have w3 := h.D1; have w4 := h.D4; have w5 := h.W4; have w6 := h.H4; have w7 := h.n4; have w8 := h.kl; have w9 := h.ol
  have e := size_eq (f := f) (by omega) (by omega) (by omega) (by omega) (by omega) (by omega)
  unfold V_floor_Right V_floor_size
  rw [e.1]
  refine Jor3 (Ite.f ?_ (Jor3 (Ite.f ?_ ?_)))
  · simp only [Bool.or_eq_false_iff, decide_eq_false_iff_not, imin_lt, imax_gt]; omega
  · simp only [Bool.or_eq_false_iff, decide_eq_false_iff_not, bne_eq_false_iff_eq]; omega
  have hl : f.Kind.length ≤ maxLen := by unfold maxLen; omega
  refine Jn.mk (fun _ => True) (V_loopc hl (fun s => s) (fun _ _ => True) rfl trivial (fun n x t hx ht _ => ?_) (fun _ _ => trivial)) (fun _ _ => hp)
  have hn := (List.getElem?_eq_some_iff.1 hx).1
  have ho : f.Out[n]? = some (f.Out[n]'(by omega)) := List.getElem?_eq_getElem _
  have hb := h.ko n x _ hx ho
  refine Jn.mk (fun b => b = false) (Ite.f (by simp; omega) (Ite.f (by simp; omega) ⟨_, by rw [ht]; exact idx_of rfl ho, Ite.f (by simp; omega) (by simp; omega)⟩)) (fun b hb => Ite.f hb ⟨by rw [ht], trivial⟩)
theorem S_survey_addRobotT (k : OkApiSite s) (hs : s.Robots.length ≤ 1000000) {nz na ns n : Nat} {m : SurveyMaker} (hI : MInv s nz na ns n m) {x : ApiStart} (hx : s.Robots[n]? = some x) {post : Int × SurveyMaker → Prop} (h200 : n < 200)
    (h : isC s.Floor x.Cell = true ∧ 0 ≤ x.Charge ∧ x.Charge ≤ 1000000 ∧ kd s.Floor x.Cell ≠ 0 ∧ rbAt (s.Robots.take n) x.Cell = false) (hT : ∀ m', MInv s nz na ns (n + 1) m' → post (0, m')) : V_survey_maker_addRobot__p0 x m post := by
  have hn := (List.getElem?_eq_some_iff.1 hx).1
  have hlen : m.site.Robots.length = n := by rw [hI.rs]; simp; omega
  unfold V_survey_maker_addRobot__p0
  refine S_survey_kindAt ?_
  rw [hI.fl, if_pos h.1]
  refine Jn.mk (fun b => b = false) (Ite.t rfl ?_) (fun b hb => Ite.f hb (Ite.f (by simpa using h.2.2.2.1) (Ite.f (by rw [hI.robot]; exact h.2.2.2.2) (Ite.f (by rw [hlen]; simp; omega) ⟨by rw [hlen]; simp; omega, hT _ ⟨rfl, hI.zs, hI.aps, hI.sh, ?_, hI.names, hI.zoned, hI.shelf, fun c => ?_⟩⟩))))
  · unfold V_survey_within; refine Jand2 ?_
    rw [decide_eq_true (show x.Charge ≥ 0 from h.2.1), decide_eq_true h.2.2.1]; rfl
  · show m.site.Robots ++ [x] = _; rw [hI.rs, take_succ hx]
  · show (lk (upd m.robot x.Cell true) c).getD false = _
    rw [lk_upd, take_succ hx, rbAt_app]
    by_cases e : x.Cell = c
    · rw [if_pos e]; simp [e]
    · rw [if_neg e, hI.robot]; simp [e]
theorem S_survey_bare (k : OkApiSite s) (hf : RF s.Floor) (hz : s.Zones = []) (ha : s.Aparts = []) (hs : s.Shelves = []) (h2 : s.Robots.length ≤ 200)
    (hr : ∀ (i : Nat) x, s.Robots[i]? = some x → isC s.Floor x.Cell = true ∧ 0 ≤ x.Charge ∧ x.Charge ≤ 1000000 ∧ kd s.Floor x.Cell ≠ 0 ∧ rbAt (s.Robots.take i) x.Cell = false) (hc : s.Floor.Kind.contains 3 = true) {post : Bool → Prop} (hp : post true) : V_survey_Right s post := by
  unfold V_survey_Right
  refine S_floor_RightT hf (Ite.f rfl ?_)
  unfold V_survey_newMaker
  rw [hz, ha, hs]
  refine Jn.mk (fun t : T16 => MInv s 0 0 0 0 (of16 t)) (Loop.step (Ite.nlt (by simp) ⟨rfl, rfl, rfl, rfl, rfl, fun n => rfl, fun c => rfl, fun c => rfl, fun c => rfl⟩)) (fun t1 h1 => ?_)
  refine Jn.mk (fun t : T16 => MInv s 0 0 0 0 (of16 t)) (Loop.step (Ite.nlt (by simp) h1)) (fun t2 h3 => ?_)
  refine Jn.mk (fun t : T16 => MInv s 0 0 0 0 (of16 t)) (Loop.step (Ite.nlt (by simp) h3)) (fun t3 h4 => ?_)
  refine Jn.mk (fun t : T16 => MInv s 0 0 0 s.Robots.length (of16 t))
    (V_loopc k.Robots.1 (fun t : T17 Int => lst t) (fun n (t : T17 Int) => MInv s 0 0 0 n (ofT t)) rfl (by exact h4) (fun n x t hx ht hI => ?_) (fun t h => h)) (fun t4 h5 => ?_)
  · exact S_survey_addRobotT (m := ofT t) k (by omega) hI hx (by have := (List.getElem?_eq_some_iff.1 hx).1; omega) (hr n x hx) (fun m' hm' => Ite.f rfl ⟨by show w64 (lst t + 1) = _; rw [show lst t = (n : Int) from ht], hm'⟩)
  · have e1 : (of16 t4).site.Shelves = [] := by rw [h5.sh]; rfl
    have e2 : (of16 t4).site.Zones = [] := by rw [h5.zs]; rfl
    have e3 : (of16 t4).site.Floor = s.Floor := h5.fl
    refine Jn.mk (fun b => b = true) ?_ (fun b hb => hb ▸ hp)
    show V_survey_maker_beside (of16 t4) _
    unfold V_survey_maker_beside
    rw [e1]
    refine Jn.mk (fun _ => True) (Loop.step (Ite.nlt (by simp) trivial)) (fun _ _ => Ite.t (by decide) ?_)
    show V_survey_maker_crowded (of16 t4) _
    unfold V_survey_maker_crowded V_slices_IndexFunc_api_Zone_api_Zone__survey_maker_crowded_1
    rw [e2]
    refine Jn.mk (fun _ => True) (Loop.step (Ite.nlt (by simp) trivial)) (fun _ _ => Ite.t (by decide) ?_)
    show V_survey_maker_charger (of16 t4) _
    unfold V_survey_maker_charger
    rw [e3]
    exact S_slices_Contains k.Floor.Kind.1 (by rw [hc])
/-! ## bounds -/
theorem S_ref16_Few {l : List Taquinref16Act} {most : Int} (hm : 0 ≤ most ∧ most ≤ 1000) (k : OkL OkTaquinref16Act l) {post : Bool → Prop} (hF : post false) (hT : (l.length : Int) ≤ most → post true) : V_taquinref16_Few l most post := by
  unfold V_taquinref16_Few
  have hk := k.1
  unfold maxLen at hk
  have hend : post (decide ((l.length : Int) ≤ most)) := by
    by_cases h : (l.length : Int) ≤ most
    · rw [decide_eq_true h]; exact hT h
    · rw [decide_eq_false h]; exact hF
  refine Jn.mk (fun _ => True) (Loop.mk (fun t => ∃ i : Nat, t = (i : Int) ∧ i ≤ l.length ∧ (i : Int) ≤ most + 1) (fun t => l.length + 1 - t.toNat) ⟨0, rfl, by omega, by omega⟩ ?_) (fun _ _ => hend)
  rintro t ⟨i, rfl, hi, hi2⟩
  refine Jn.mk (fun b => b = true → (i : Int) < l.length ∧ (i : Int) ≤ most) (Ite.mk (fun h1 h2 => ⟨by simpa using h1, by simpa using h2⟩) (fun h1 h => by cases h)) (fun b hb => Ite.mk (fun h => ?_) (fun _ => trivial))
  obtain ⟨h1, h2⟩ := hb h
  have hx := List.getElem?_eq_getElem (show i < l.length by omega)
  refine ⟨_, idx_of rfl hx, Ite.mk (fun _ => hF) (fun _ => ⟨⟨i + 1, by rw [w64_eq (by omega) (by omega)]; simp, by omega, by omega⟩, ?_⟩)⟩
  rw [w64_eq (by omega) (by omega)]; omega
end
end Go.Taq

/- The mathematics, part AR: slices.Repeat of one number. -/
set_option linter.unusedVariables false
set_option linter.unusedSimpArgs false
namespace Go.Taq
open Go

end Go.Taq

/- The mathematics, part AG: the examples of chapter 16; ArenaTells. -/
set_option linter.unusedVariables false
set_option linter.unusedSimpArgs false
namespace Go.Taq
open Go

def e16F : ApiFloor := { W := 6, H := 1, D := 1, Kind := [1, 1, 1, 1, 1, 3], Out := [1, 5, 5, 5, 5, 4] }
def e16S : ApiSite := { Floor := e16F, Zones := [], Aparts := [], Shelves := [], Robots := [{ Cell := 0, Charge := 100 }, { Cell := 2, Charge := 100 }] }
def e16T : ApiState := { Tick := 0, Shelves := [], Robots := [{ Cell := 0, Load := -1, Charge := 100, Rest := 0, Mute := 0, Dead := false }, { Cell := 2, Load := -1, Charge := 100, Rest := 0, Mute := 0, Dead := false }], People := [], Dead := [], Stuck := [] }
theorem e16RF : RF e16F := by
  refine ⟨by decide, by decide, by decide, by decide, by decide, by decide, by decide, by decide, by decide, fun i x y hx hy => ?_⟩
  match i, hx, hy with
  | 0, hx, hy => simp [e16F] at hx hy; omega
  | 1, hx, hy => simp [e16F] at hx hy; omega
  | 2, hx, hy => simp [e16F] at hx hy; omega
  | 3, hx, hy => simp [e16F] at hx hy; omega
  | 4, hx, hy => simp [e16F] at hx hy; omega
  | 5, hx, hy => simp [e16F] at hx hy; omega
  | n + 6, hx, hy => simp [e16F] at hx
theorem e16Ok : OkApiSite e16S where
  Floor := ⟨i64_of (by decide), i64_of (by decide), i64_of (by decide), ok_ml (by decide) (fun x hx => i64_of (by simp [e16S, e16F] at hx; omega)), ok_ml (by decide) (fun x hx => i64_of (by simp [e16S, e16F] at hx; omega))⟩
  Zones := ok_ml (by decide) (fun z hz => by simp [e16S] at hz)
  Aparts := ok_ml (by decide) (fun x hx => by simp [e16S] at hx)
  Shelves := ok_ml (by decide) (fun x hx => by simp [e16S] at hx)
  Robots := ok_ml (by decide) (fun x hx => by
    simp only [e16S, List.mem_cons, List.not_mem_nil, or_false] at hx
    rcases hx with rfl | rfl
    · exact ⟨i64_of (by decide), i64_of (by decide)⟩
    · exact ⟨i64_of (by decide), i64_of (by decide)⟩)
theorem e16RS : RS e16S := ⟨e16RF, fun z hz => by simp [e16S] at hz, fun z hz => by simp [e16S] at hz, fun z hz => by simp [e16S] at hz⟩
theorem e16R : RSt e16S e16T where
  tick := by decide
  sl := by decide
  rl := by decide
  pl := by decide
  rob := fun i r hr => by
    match i, hr with
    | 0, hr => simp [e16T] at hr; subst hr; exact ⟨by decide, by decide, by decide, by decide, by decide, by decide, fun h => by simp at h⟩
    | 1, hr => simp [e16T] at hr; subst hr; exact ⟨by decide, by decide, by decide, by decide, by decide, by decide, fun h => by simp at h⟩
    | n + 2, hr => simp [e16T] at hr
  shel := fun i c h => by simp [e16T] at h
  ppl := fun i c h => by simp [e16T] at h
  dead := fun i c h => by simp [e16T] at h
  deadA := fun i x y h => by simp [e16T] at h
  stuck := fun i x h => by simp [e16T] at h
  stuckA := fun i x y h => by simp [e16T] at h
  clash := by decide
theorem e16Z : SzN 12 e16T := ⟨by decide, by decide, by decide, by decide, by decide⟩
theorem S_law16_site {post : ApiSite → Prop} (hp : post e16S) : V_taquinlaw16_site post := by
  unfold V_taquinlaw16_site
  refine Jn.mk (fun t => t = ([1, 1, 1, 1, 1, 3], [1, 5, 5, 5, 5, 4])) (V_upto 6 (fun t : List Int × List Int × Int => t.2.2) (fun i t => t.1 = ([1, 1, 1, 1, 1, 3] : List Int).take i ∧ t.2.1 = ([1, 5, 5, 5, 5, 4] : List Int).take i) (by decide) rfl ⟨rfl, rfl⟩ (fun i t hi ht hI => ?_) (fun t h => by obtain ⟨h1, h2⟩ := h; show (t.1, t.2.1) = _; rw [h1, h2]; rfl)) (fun t ht => by subst ht; exact hp)
  obtain ⟨h1, h2⟩ := hI
  rw [ht]
  refine Jn.mk (fun x => x = if (i : Int) = 5 then 3 else 1) (Ite.mk (fun h => by rw [if_pos (by simpa using h)]) (fun h => by rw [if_neg (by simpa using h)])) (fun x hx => ?_)
  refine Jn.mk (fun y => y = if (i : Int) < 5 then 1 else 0) (Ite.mk (fun h => by rw [if_pos (by simpa using h)]) (fun h => by rw [if_neg (by simpa using h)])) (fun y hy => ?_)
  refine Jn.mk (fun z => z = if (i : Int) > 0 then y + 4 else y) (Ite.mk (fun h => by rw [if_pos (by simpa using h), w64_eq (by rw [hy]; split <;> omega) (by rw [hy]; split <;> omega)]) (fun h => by rw [if_neg (by simpa using h)])) (fun z hz => ?_)
  refine ⟨by rw [h1]; simp; omega, by rw [h2]; simp; omega, rfl, ?_⟩
  show t.1 ++ [x] = _ ∧ t.2.1 ++ [z] = _
  rw [h1, h2, hz, hy, hx]
  have : i = 0 ∨ i = 1 ∨ i = 2 ∨ i = 3 ∨ i = 4 ∨ i = 5 := by omega
  rcases this with rfl | rfl | rfl | rfl | rfl | rfl <;> decide
theorem S_body_First {s : ApiSite} (h1 : s.Shelves.length ≤ 1000000) (h2 : s.Robots.length ≤ 1000000) {post : ApiState → Prop}
    (hp : post { Tick := 0, Shelves := s.Shelves.map (·.Cell), Robots := s.Robots.map (fun x => { Cell := x.Cell, Load := -1, Charge := x.Charge, Rest := 0, Mute := 0, Dead := false }), People := [], Dead := [], Stuck := [] }) : V_body_First s post := by
  unfold V_body_First
  refine Jn.mk (fun l => l = s.Shelves.map (·.Cell)) (V_loopc (xs := s.Shelves) (by unfold maxLen; omega) (fun t : List Int × Int => t.2) (fun i t => t.1 = (s.Shelves.take i).map (·.Cell)) rfl rfl (fun i x t hx ht hI => ?_) (fun t h => by rw [List.take_length] at h; exact h)) (fun l hl => ?_)
  · have := (List.getElem?_eq_some_iff.1 hx).1
    rw [ht]
    exact ⟨by rw [hI]; simp; omega, rfl, by show t.1 ++ [x.Cell] = _; rw [hI, take_succ hx, List.map_append]; rfl⟩
  subst hl
  refine Jn.mk (fun l => l = s.Robots.map (fun x => ({ Cell := x.Cell, Load := -1, Charge := x.Charge, Rest := 0, Mute := 0, Dead := false } : ApiRobot))) (V_loopc (xs := s.Robots) (by unfold maxLen; omega) (fun t : List ApiRobot × Int => t.2) (fun i t => t.1 = (s.Robots.take i).map (fun x => ({ Cell := x.Cell, Load := -1, Charge := x.Charge, Rest := 0, Mute := 0, Dead := false } : ApiRobot))) rfl rfl (fun i x t hx ht hI => ?_) (fun t h => by rw [List.take_length] at h; exact h)) (fun l hl => by subst hl; exact hp)
  have := (List.getElem?_eq_some_iff.1 hx).1
  rw [ht]
  exact ⟨by rw [hI]; simp; omega, rfl, by show t.1 ++ [_] = _; rw [hI, take_succ hx, List.map_append]; rfl⟩
def e16B : ApiState := endsS e16T (runS e16S [1, 0] 2 0 { e16T with Dead := [1] })
def e16C : ApiState := endsS e16T (runS e16S [1, 1] 2 0 e16T)
theorem e16b : e16B.Robots.map (·.Cell) = [0, 2] := by decide
theorem e16c : e16C.Robots.map (·.Cell) = [1, 3] ∧ e16C.Tick = 1 := by decide
theorem e16k1 : chkS e16S e16T [1, 3] = 15 := by
  unfold chkS
  have e : fstB e16S e16T [1, 3] ([1, 3] : List Int).length 0 = 0 := by decide
  rw [if_neg (by decide), if_neg (by decide), if_neg (by rw [e]; simp), if_pos (by decide)]
theorem e16k2 : chkS e16S e16T [1, 0] = 0 := by
  unfold chkS
  have e : fstB e16S e16T [1, 0] ([1, 0] : List Int).length 0 = 0 := by decide
  rw [if_neg (by decide), if_neg (by decide), if_neg (by rw [e]; simp), if_neg (by decide)]
  decide
theorem e16k3 : chkS e16S e16T [1, 1] = 0 := by
  unfold chkS
  have e : fstB e16S e16T [1, 1] ([1, 1] : List Int).length 0 = 0 := by decide
  rw [if_neg (by decide), if_neg (by decide), if_neg (by rw [e]; simp), if_neg (by decide)]
  decide
theorem e16s1 : stepS e16S e16T [1, 3] { Kind := 0, A := 0, N := 0 } = (emptyS, 15) := by
  unfold stepS; rw [e16k1, if_pos (by decide)]
theorem e16s2 : stepS e16S e16T [1, 0] { Kind := 2, A := 1, N := 0 } = (e16B, 0) := by
  have hb : possB e16S e16T { Kind := 2, A := 1, N := 0 } = true := by decide
  unfold stepS; rw [e16k2, if_neg (by decide), if_neg (by rw [hb]; simp)]
  unfold tickS; rw [happ_2 hb rfl]
  have : srtI (e16T.Dead ++ [1]) = [1] := by unfold srtI; simp [e16T]
  show (endsS e16T (runS e16S [1, 0] 2 0 { e16T with Dead := srtI (e16T.Dead ++ [1]) }), 0) = _
  rw [this]; rfl
theorem e16s3 : stepS e16S e16T [1, 1] { Kind := 0, A := 0, N := 0 } = (e16C, 0) := by
  have hb : possB e16S e16T { Kind := 0, A := 0, N := 0 } = true := by decide
  unfold stepS; rw [e16k3, if_neg (by decide), if_neg (by rw [hb]; simp)]
  unfold tickS; rw [happ_0 rfl]; rfl
theorem idx_map {α : Type} {xs : List α} {g : α → Int} {l : List Int} (h : xs.map g = l) {n : Nat} {c : Int} (hc : l[n]? = some c) : ∃ x, idx xs (n : Int) = some x ∧ g x = c := by
  rw [← h, List.getElem?_map] at hc
  cases e : xs[n]? with
  | none => rw [e] at hc; cases hc
  | some x => rw [e] at hc; exact ⟨x, idx_of rfl e, Option.some.inj hc⟩
theorem S_law16_small {post : Bool → Prop} (hp : post true) : V_taquinlaw16_small post := by
  unfold V_taquinlaw16_small
  refine S_law16_site (S_body_First (by decide) (by decide) ?_)
  have kA : ∀ a b : Int, (-1000000 ≤ a ∧ a ≤ 1000000) → (-1000000 ≤ b ∧ b ≤ 1000000) → OkL I64 [a, b] := fun a b h1 h2 => ok_ml (by simp) (fun x hx => by
    simp at hx; rcases hx with rfl | rfl
    · exact i64_of h1
    · exact i64_of h2)
  refine S_arena_Step (n := 12) (st := e16T) (by decide) e16Ok e16RF e16RS e16R e16Z (kA 1 3 (by decide) (by decide)) (S_arena_Step (n := 12) (st := e16T) (by decide) e16Ok e16RF e16RS e16R e16Z (kA 1 0 (by decide) (by decide)) (S_arena_Step (n := 12) (st := e16T) (by decide) e16Ok e16RF e16RS e16R e16Z (kA 1 1 (by decide) (by decide)) ?_))
  rw [e16s1, e16s2, e16s3]
  refine Jor3 (Ite.f ?_ ?_)
  · have l1 : e16B.Robots.length = 2 := by have := congrArg List.length e16b; simpa using this
    have l2 : e16C.Robots.length = 2 := by have := congrArg List.length e16c.1; simpa using this
    show ((2 : Int) != 2 || ((e16B.Robots.length : Int) != 2) || ((e16C.Robots.length : Int) != 2)) = false
    rw [l1, l2]; rfl
  refine Jn.mk (fun b => b = true) (Ite.t rfl (Ite.t rfl ?_)) (fun b hb => hb ▸ hp)
  obtain ⟨x, hx, hxc⟩ := idx_map e16b (n := 0) (c := 0) rfl
  obtain ⟨y, hy, hyc⟩ := idx_map e16c.1 (n := 0) (c := 1) rfl
  obtain ⟨z, hz, hzc⟩ := idx_map e16c.1 (n := 1) (c := 3) rfl
  refine ⟨x, hx, Ite.t (by simpa using hxc) (Ite.t rfl ⟨y, hy, Ite.t (by simpa using hyc) ⟨z, hz, Ite.t (by simpa using hzc) (Ite.t (by show (e16C.Tick == 1) = true; rw [e16c.2]; rfl) ?_)⟩⟩)⟩
  refine S_survey_bare e16Ok e16RF rfl rfl rfl (by decide) (fun i x hi => ?_) (by decide) rfl
  match i, hi with
  | 0, hi => simp [e16S] at hi; subst hi; decide
  | 1, hi => simp [e16S] at hi; subst hi; decide
  | n + 2, hi => simp [e16S] at hi
theorem sz_empty : Sz emptyS := ⟨by decide, by decide, by decide, by decide, by decide⟩
/-- what the next state is -/
theorem step_next {s : ApiSite} {st : ApiState} {n : Nat} (hn : n < 999) (hf : RF s.Floor) (hs : RS s) (h : RSt s st) (hz : SzN n st) {acts : List Int} {f : ApiFault} (h0 : (stepS s st acts f).2 = 0) :
    chkS s st acts = 0 ∧ possB s st f = true ∧ (stepS s st acts f).1 = tickS s st acts f ∧ RSt s (stepS s st acts f).1 ∧ SzN (n + 1) (stepS s st acts f).1 := by
  unfold stepS at h0 ⊢
  by_cases hc : chkS s st acts = 0
  · rw [if_neg (by simpa using hc)] at h0 ⊢
    cases hb : possB s st f with
    | false => rw [if_pos hb] at h0; simp at h0
    | true =>
      rw [if_neg (by simp)]
      have := tick_keeps (by omega) hf hs h hz hc f
      exact ⟨hc, rfl, rfl, this.1, this.2.1⟩
  · rw [if_pos hc] at h0; exact absurd h0 hc
end Go.Taq
