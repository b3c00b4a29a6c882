/- The mathematics, several parts in one text. -/
import Derived.Test.YtenbhocpjlmimaaGreatOE
/- The mathematics, part OF: actions keep what they need; examples; ActTells. -/
set_option linter.unusedVariables false
set_option linter.unusedSimpArgs false
namespace Go.Taq
open Go

section
variable {s : ApiSite} {st : ApiState}
theorem nwS_len (r : ApiRobot) (a : Int) : (nwS s st r a).length = st.Shelves.length := by unfold nwS; split <;> simp
theorem nwS_mem (h : LS s st) (r : ApiRobot) (a : Int) {c : Int} (hc : c ∈ nwS s st r a) : isC s.Floor c = true := by
  unfold nwS at hc
  split at hc
  · rename_i hif
    simp only [Bool.and_eq_true] at hif
    rcases List.mem_or_eq_of_mem_set hc with e | e
    · exact h.cell c e
    · rw [e]; exact (nx_ok h.fl hif.1.2).2.1
  · exact h.cell c hc
theorem nwR_cell (h : LS s st) {n : Nat} {r : ApiRobot} (hx : st.Robots[n]? = some r) (a : Int) : isC s.Floor (nwR s st r a).Cell = true := by
  unfold nwR
  split
  · rename_i hif
    simp only [Bool.and_eq_true] at hif
    exact (nx_ok h.fl hif.2).2.1
  · exact (h.rob n r hx).1
theorem nwR_load (r : ApiRobot) (a : Int) : (nwR s st r a).Load = lod st r a := by unfold nwR; split <;> rfl
theorem nwR_charge (r : ApiRobot) (a : Int) : (nwR s st r a).Charge = chg st r a := by unfold nwR; split <;> rfl
theorem nwR_mute (r : ApiRobot) (a : Int) : (nwR s st r a).Mute = r.Mute ∧ (nwR s st r a).Dead = r.Dead := by unfold nwR; split <;> exact ⟨rfl, rfl⟩
theorem nwR_rest (h : LS s st) (r : ApiRobot) (a : Int) : (nwR s st r a).Rest = r.Rest ∨ 0 ≤ (nwR s st r a).Rest ∧ (nwR s st r a).Rest ≤ 100 := by
  unfold nwR; split
  · have := spd_bd h.rs (nx s.Floor r.Cell (a - 1)).1
    right; simp only; omega
  · exact .inl rfl
theorem put_get {α : Type} {l : List α} {n j : Nat} {a x : α} (h : (l.set n a)[j]? = some x) : (j = n ∧ n < l.length ∧ x = a) ∨ (j ≠ n ∧ l[j]? = some x) := by
  rw [List.getElem?_set] at h
  split at h
  · split at h
    · cases h; exact .inl ⟨by omega, by assumption, rfl⟩
    · cases h
  · exact .inr ⟨by omega, h⟩
theorem isC_i64 (hf : RF s.Floor) {c : Int} (h : isC s.Floor c = true) : I64 c := by
  have := isC_iff.1 h; have := hf.len.1
  exact i64_of (by omega)
theorem doR_ls (k : OkApiState st) (h : LS s st) {n : Nat} {r : ApiRobot} (hx : st.Robots[n]? = some r) (a : Int) : LS s (doR s st n r a) ∧ OkApiState (doR s st n r a) := by
  unfold doR
  split
  · exact ⟨h, k⟩
  have hlt := (List.getElem?_eq_some_iff.1 hx).1
  have hr := k.Robots.2 r (List.mem_of_getElem? hx)
  have hb := lod_bd h hx a
  have h3 := h.sz.sh
  have hmx : (1000000 : Nat) ≤ maxLen := by decide
  refine ⟨⟨h.fl, h.rs, ⟨by simp only; rw [nwS_len]; exact h.sz.sh, by simp only; rw [List.length_set]; exact h.sz.rb, h.sz.pp, h.sz.dd, h.sz.sk⟩, fun c hc => nwS_mem h r a hc, fun i x hxi => ?_⟩, ⟨k.Tick, ⟨by rw [nwS_len]; exact k.Shelves.1, fun c hc => isC_i64 h.fl (nwS_mem h r a hc)⟩, ⟨by rw [List.length_set]; exact k.Robots.1, fun x hxm => ?_⟩, k.People, k.Dead, k.Stuck⟩⟩
  · show _ ∧ _ ∧ x.Load < ((nwS s st r a).length : Int)
    rw [nwS_len]
    rcases put_get hxi with ⟨_, _, e⟩ | ⟨_, e⟩
    · subst e; rw [nwR_load]; exact ⟨nwR_cell h hx a, hb.1, hb.2⟩
    · exact h.rob i x e
  · rcases List.mem_or_eq_of_mem_set hxm with e | e
    · exact k.Robots.2 x e
    · subst e
      refine ⟨isC_i64 h.fl (nwR_cell h hx a), ?_, ?_, ?_, ?_, trivial⟩
      · rw [nwR_load]; exact i64_of (by omega)
      · rw [nwR_charge]; exact chg_bd k hx a
      · rcases nwR_rest h r a with e | e
        · rw [e]; exact hr.Rest
        · exact i64_of (by omega)
      · rw [(nwR_mute r a).1]; exact hr.Mute
theorem doS_ls (k : OkApiState st) (h : LS s st) (i a : Int) : LS s (doS s st i a) ∧ OkApiState (doS s st i a) := by
  unfold doS
  split
  · exact ⟨h, k⟩
  · obtain ⟨n, hn⟩ := Int.eq_ofNat_of_zero_le (show 0 ≤ i by omega)
    have hlt : n < st.Robots.length := by omega
    have hx := List.getElem?_eq_getElem hlt
    rw [hn]; show LS s (doR s st n (st.Robots.getD n default) a) ∧ OkApiState (doR s st n (st.Robots.getD n default) a)
    rw [getD_r hx]; exact doR_ls k h hx a
theorem RSt.cells (h : RSt s st) : ∀ c, c ∈ st.Shelves → isC s.Floor c = true := by
  intro c hc
  obtain ⟨i, hi⟩ := List.getElem?_of_mem hc
  cases hb : carB st i with
  | true =>
    rw [carB_any (by omega)] at hb
    obtain ⟨r, hr, hl⟩ := List.any_eq_true.1 hb
    obtain ⟨j, hj⟩ := List.getElem?_of_mem hr
    have hR := h.rob j r hj
    have hl' : r.Load = (i : Int) := by simpa using hl
    have := (hR.own (by omega)).2
    rw [hl'] at this
    have e : st.Shelves.getD i 0 = c := getD_i hi
    rw [← e]; show isC s.Floor (st.Shelves.getD ((i : Int)).toNat 0) = true
    rw [this]; exact hR.cell
  | false =>
    have := h.shel i c hi hb
    unfold kx at this
    cases hic : isC s.Floor c with
    | true => rfl
    | false => rw [hic] at this; simp at this
theorem Fair.ls (h : Fair s st) : LS s st := ⟨h.r.fl, h.r.rs, h.f12.sz, h.rst.cells, fun i r hr => ⟨(h.rst.rob i r hr).cell, (h.rst.rob i r hr).load.1, (h.rst.rob i r hr).load.2⟩⟩
end
/-! ## the example -/
def e15F : ApiFloor := { W := 4, H := 1, D := 1, Kind := [3, 1, 1, 1], Out := [1, 5, 5, 4] }
def e15S : ApiSite := { Floor := e15F, Zones := [], Aparts := [], Shelves := [{ Cell := 1, Class := ByteArray.empty }], Robots := [{ Cell := 0, Charge := 300 }, { Cell := 2, Charge := 300 }] }
def e15T : ApiState := { Tick := 0, Shelves := [1], Robots := [{ Cell := 0, Load := -1, Charge := 300, Rest := 0, Mute := 0, Dead := false }, { Cell := 2, Load := -1, Charge := 300, Rest := 0, Mute := 0, Dead := false }], People := [], Dead := [], Stuck := [] }
theorem e15RF : RF e15F := by
  refine ⟨by decide, by decide, by decide, by decide, by decide, by decide, by decide, by decide, by decide, fun i x y hx hy => ?_⟩
  match i, hx, hy with
  | 0, hx, hy => simp [e15F] at hx hy; omega
  | 1, hx, hy => simp [e15F] at hx hy; omega
  | 2, hx, hy => simp [e15F] at hx hy; omega
  | 3, hx, hy => simp [e15F] at hx hy; omega
  | n + 4, hx, hy => simp [e15F] at hx
theorem e15Ok : OkApiSite e15S where
  Floor := ⟨i64_of (by decide), i64_of (by decide), i64_of (by decide), ok_ml (by decide) (fun x hx => i64_of (by simp [e15S, e15F] at hx; omega)), ok_ml (by decide) (fun x hx => i64_of (by simp [e15S, e15F] at hx; omega))⟩
  Zones := ok_ml (by decide) (fun z hz => by simp [e15S] at hz)
  Aparts := ok_ml (by decide) (fun x hx => by simp [e15S] at hx)
  Shelves := ok_ml (by decide) (fun x hx => by
    simp only [e15S, List.mem_singleton] at hx; subst hx
    exact ⟨i64_of (by decide), by unfold OkS; decide⟩)
  Robots := ok_ml (by decide) (fun x hx => by
    simp only [e15S, List.mem_cons, List.not_mem_nil, or_false] at hx
    rcases hx with rfl | rfl
    · exact ⟨i64_of (by decide), i64_of (by decide)⟩
    · exact ⟨i64_of (by decide), i64_of (by decide)⟩)
theorem e15OkT : OkApiState e15T where
  Tick := i64_of (by decide)
  Shelves := ok_ml (by decide) (fun x hx => i64_of (by simp [e15T] at hx; omega))
  Robots := ok_ml (by decide) (fun x hx => by
    simp only [e15T, List.mem_cons, List.not_mem_nil, or_false] at hx
    rcases hx with rfl | rfl
    · exact ⟨i64_of (by decide), i64_of (by decide), i64_of (by decide), i64_of (by decide), i64_of (by decide), trivial⟩
    · exact ⟨i64_of (by decide), i64_of (by decide), i64_of (by decide), i64_of (by decide), i64_of (by decide), trivial⟩)
  People := ok_ml (by decide) (fun x hx => by simp [e15T] at hx)
  Dead := ok_ml (by decide) (fun x hx => by simp [e15T] at hx)
  Stuck := ok_ml (by decide) (fun x hx => by simp [e15T] at hx)
theorem e15LS : LS e15S e15T where
  fl := e15RF
  rs := ⟨e15RF, fun z hz => by simp [e15S] at hz, fun z hz => by simp [e15S] at hz, fun z hz => by simp [e15S] at hz⟩
  sz := ⟨by decide, by decide, by decide, by decide, by decide⟩
  cell := fun c hc => by simp [e15T] at hc; subst hc; decide
  rob := fun i r hr => by
    match i, hr with
    | 0, hr => simp [e15T] at hr; subst hr; decide
    | 1, hr => simp [e15T] at hr; subst hr; decide
    | n + 2, hr => simp [e15T] at hr
def e15V : ApiState := doS e15S (doS e15S e15T 0 1) 0 7
theorem e15v : e15V = { Tick := 0, Shelves := [1], Robots := [{ Cell := 1, Load := 0, Charge := 295, Rest := 0, Mute := 0, Dead := false }, { Cell := 2, Load := -1, Charge := 300, Rest := 0, Mute := 0, Dead := false }], People := [], Dead := [], Stuck := [] } := by decide
theorem e15l : legS e15S e15T 0 1 = 0 ∧ legS e15S e15T 0 3 = 14 ∧ legS e15S e15T 0 7 = 4 ∧ legS e15S e15V 0 1 = 15 := by
  rw [e15v]; decide
theorem S_law15_small {post : Bool → Prop} (hp : post true) : V_taquinlaw15_small post := by
  unfold V_taquinlaw15_small V_taquinlaw15_example
  obtain ⟨h1, k1⟩ := doS_ls e15OkT e15LS 0 1
  obtain ⟨h2, k2⟩ := doS_ls k1 h1 0 7
  obtain ⟨l1, l2, l3, l4⟩ := e15l
  refine S_act_Legal (s := e15S) (st := e15T) e15Ok e15OkT e15LS (S_act_Legal (s := e15S) (st := e15T) e15Ok e15OkT e15LS (S_act_Legal (s := e15S) (st := e15T) e15Ok e15OkT e15LS ?_))
  refine S_act_Do (s := e15S) (st := e15T) e15Ok e15OkT e15LS (by decide) (by decide) (S_act_Do (s := e15S) e15Ok k1 h1 (by decide) (by decide) ?_)
  show Jn (fun (J22 : Bool → Prop) => Ite ((e15V.Robots.length : Int) != 2) (J22 true) (J22 ((e15V.Shelves.length : Int) != 1))) _
  refine Jor2 (Ite.f (by rw [e15v]; decide) ?_)
  rw [l1, l2, l3]
  refine Jn.mk (fun b => b = true) (Ite.t rfl (Ite.t rfl (Ite.t rfl ⟨{ Cell := 1, Load := 0, Charge := 295, Rest := 0, Mute := 0, Dead := false }, by show idx e15V.Robots 0 = _; rw [e15v]; rfl, Ite.t (by decide) (Ite.t (by decide) (Ite.t (by decide) (S_act_Legal (s := e15S) e15Ok k2 h2 ?_)))⟩))) (fun b hb => hb ▸ hp)
  show (legS e15S e15V 0 1 == 15) = true
  rw [l4]; rfl
end Go.Taq

/- The mathematics, part OG: ActAlone. -/
set_option linter.unusedVariables false
set_option linter.unusedSimpArgs false
namespace Go.Taq
open Go

section
variable {s : ApiSite} {st : ApiState}
theorem legS_eq {i a : Int} {n : Nat} {r : ApiRobot} (hn : i = n) (hx : st.Robots[n]? = some r) : legS s st i a = legR s st r a := by
  have hlt := (List.getElem?_eq_some_iff.1 hx).1
  subst hn
  unfold legS
  rw [if_neg (by omega)]
  show legR s st (st.Robots.getD n default) a = _
  rw [getD_r hx]
end
end Go.Taq

/- The mathematics, part OH: ActLifts. -/
set_option linter.unusedVariables false
set_option linter.unusedSimpArgs false
namespace Go.Taq
open Go

section

end
end Go.Taq

/- The mathematics, part OI: ActRefuses. -/
set_option linter.unusedVariables false
set_option linter.unusedSimpArgs false
namespace Go.Taq
open Go

section
variable {s : ApiSite} {st : ApiState}
theorem actS_mem {i : Int} {n : Nat} {a : Int} : a ∈ actS s st i n ↔ 0 ≤ a ∧ a < n ∧ legS s st i a = 0 := by
  unfold actS
  rw [List.mem_map]
  constructor
  · rintro ⟨m, hm, rfl⟩
    rw [List.mem_filter] at hm
    obtain ⟨h1, h2⟩ := hm
    exact ⟨by omega, by simpa using h1, by simpa using h2⟩
  · rintro ⟨h1, h2, h3⟩
    obtain ⟨m, rfl⟩ := Int.eq_ofNat_of_zero_le h1
    exact ⟨m, List.mem_filter.2 ⟨by simpa using h2, by simpa using h3⟩, rfl⟩
theorem actS_pw (s : ApiSite) (st : ApiState) (i : Int) (n : Nat) : (actS s st i n).Pairwise (· < ·) := by
  unfold actS
  rw [List.pairwise_map]
  refine (List.Pairwise.filter _ (List.pairwise_lt_range (n := n))).imp ?_
  intro a b h; exact Int.ofNat_lt.2 h
theorem legS_stay {i : Int} (h : 0 ≤ i ∧ i < st.Robots.length) : legS s st i 0 = 0 := by
  unfold legS; rw [if_neg (by omega)]; unfold legR; rw [if_neg (by omega), if_pos rfl]
theorem actS_head {i : Int} (h : 0 ≤ i ∧ i < st.Robots.length) : ∃ t, actS s st i 10 = 0 :: t := by
  unfold actS
  rw [show List.range 10 = 0 :: (List.range 9).map Nat.succ from rfl, List.filter_cons, if_pos (by show (legS s st i 0 == 0) = true; rw [legS_stay h]; rfl)]
  exact ⟨_, rfl⟩
theorem actS_out {i : Int} (h : i < 0 ∨ i ≥ st.Robots.length) : actS s st i 10 = [] := by
  rw [List.eq_nil_iff_forall_not_mem]
  intro a ha
  have := (actS_mem.1 ha).2.2
  unfold legS at this; rw [if_pos h] at this; cases this
theorem actS_down {i : Int} {n : Nat} {r : ApiRobot} (hn : i = n) (hx : st.Robots[n]? = some r) (hd : (r.Dead || decide (r.Mute > 0)) = true) {a : Int} (ha : a ∈ actS s st i 10) : a = 0 := by
  obtain ⟨h1, h2, h3⟩ := actS_mem.1 ha
  rw [legS_eq hn hx] at h3
  unfold legR at h3
  rw [if_neg (by omega)] at h3
  split at h3
  · assumption
  · first | cases h3 | (rw [if_pos hd] at h3; cases h3)
theorem leg_split {r : ApiRobot} {a : Int} (ha : 1 ≤ a ∧ a < 10) (h : legR s st r a = 0) : (mvB a = true → r.Rest ≤ 0 ∧ movS s st r (a - 1) = 0) ∧ (a = 7 → r.Load < 0 ∧ 0 ≤ atS st r.Cell) ∧ (a = 8 → 0 ≤ r.Load ∧ stB s r.Cell = true) ∧ (a = 9 → kd s.Floor r.Cell = 3) := by
  unfold legR at h
  rw [if_neg (by omega), if_neg (by omega)] at h
  split at h
  · cases h
  split at h
  · cases h
  rename_i hb
  split at h
  · cases h
  refine ⟨fun hm => ?_, fun e => ?_, fun e => ?_, fun e => ?_⟩
  · rw [if_pos hm] at h; rw [hm] at hb; exact ⟨by simpa using hb, h⟩
  · rw [if_neg (by rw [mvB_iff]; omega), if_pos e] at h
    split at h
    · cases h
    split at h
    · cases h
    exact ⟨by omega, by omega⟩
  · rw [if_neg (by rw [mvB_iff]; omega), if_neg (by omega), if_pos e] at h
    split at h
    · cases h
    refine ⟨by omega, ?_⟩
    unfold dropS at h
    split at h
    · cases h
    split at h
    · cases h
    rename_i hst
    cases e2 : stB s r.Cell with
    | true => rfl
    | false => exact absurd e2 hst
  · rw [if_neg (by rw [mvB_iff]; omega), if_neg (by omega), if_neg (by omega)] at h
    split at h
    · assumption
    · cases h
theorem mov_split {r : ApiRobot} {d : Int} (h : movS s st r d = 0) : (nx s.Floor r.Cell d).2 = true ∧ st.Dead.contains (nx s.Floor r.Cell d).1 = false ∧ opn s (nx s.Floor r.Cell d).1 st.Tick = true ∧ (allS st).contains (low (nx s.Floor r.Cell d).1) = false ∧ (0 ≤ r.Load → (allS st).contains (high (nx s.Floor r.Cell d).1) = false) := by
  unfold movS at h
  split at h
  · cases h
  rename_i h1
  split at h
  · cases h
  split at h
  · cases h
  rename_i h3
  split at h
  · cases h
  rename_i h4
  simp only [Bool.or_eq_true, Bool.not_eq_true', not_or, Bool.not_eq_true, Bool.not_eq_false, Bool.and_eq_true, decide_eq_true_eq, not_and] at h1 h3 h4
  exact ⟨h1.1, h1.2, h3, h4.1, h4.2⟩
end
theorem Said_taquinlaw15_ActRefuses (s : ApiSite) (ks : OkApiSite s) (st : ApiState) (k : OkApiState st) (robot : Int) (k2 : I64 robot) : V_taquinlaw15_ActRefuses s st robot (fun y => y = true) := by
  unfold V_taquinlaw15_ActRefuses
  refine S_law15_small (S_law15_fair ks k (Ite.t rfl rfl) (fun hf => Ite.f rfl ?_))
  have hl := hf.ls
  have hsl : st.Shelves.length ≤ 1000000 := by have := hl.sz.sh; omega
  refine S_act_Acts ks k hl ?_
  refine Jor2 (Ite.mk (fun h => ?_) (fun h => ?_))
  · have ho : robot < 0 ∨ robot ≥ st.Robots.length := by simpa using h
    rw [actS_out ho]
    refine Jn.mk (fun b => b = true) (Ite.t rfl (Ite.t rfl (S_act_Legal ks k hl (by unfold legS; rw [if_pos ho]; rfl)))) (fun b hb => hb)
  have hv : 0 ≤ robot ∧ robot < st.Robots.length := by simp at h; omega
  obtain ⟨n, hn⟩ := Int.eq_ofNat_of_zero_le hv.1
  have hlt : n < st.Robots.length := by omega
  have hx := List.getElem?_eq_getElem hlt
  generalize st.Robots[n] = r at hx
  have hR := hf.rst.rob n r hx
  refine ⟨r, idx_of hn hx, S_body_All hl.sz (fun all hall => ?_)⟩
  have halm : all.length ≤ maxLen := by rw [hall.length_eq]; have := allS_len hl.sz; unfold maxLen; omega
  obtain ⟨t, ht⟩ := actS_head (s := s) hv
  have hL : ∀ a, a ∈ actS s st robot 10 → legR s st r a = 0 ∧ 0 ≤ a ∧ a < 10 := fun a ha => by
    obtain ⟨h1, h2, h3⟩ := actS_mem.1 ha
    rw [legS_eq hn hx] at h3; exact ⟨h3, h1, h2⟩
  have hpw := actS_pw s st robot 10
  have hlen := actS_len s st robot 10
  have hdown := fun hd a ha => actS_down (s := s) hn hx hd (a := a) ha
  generalize actS s st robot 10 = l at *
  subst ht
  refine Ite.f (by simp; omega) ?_
  refine Jn.mk (fun b => b = false) ⟨0, rfl, Ite.f rfl ?_⟩ (fun b hb => Ite.f hb ?_)
  · have key : (r.Dead || decide (r.Mute > 0)) = true → t = [] := fun hd => by
      cases t with
      | nil => rfl
      | cons a t =>
        have h1 := hdown hd a (by simp)
        have h2 := (List.pairwise_cons.1 hpw).1 a (by simp)
        omega
    refine Ite.mk (fun h1 => ?_) (fun h1 => Ite.mk (fun h2 => ?_) (fun h2 => rfl))
    · rw [key (by rw [h1]; rfl)]; rfl
    · rw [key (by rw [h2]; simp)]; rfl
  refine Jn.mk (fun _ => True) ?_ (fun _ _ => Jn.mk (fun b => b = true) (Ite.t rfl (S_act_Legal ks k hl (Ite.t ?_ (S_act_Legal ks k hl ?_)))) (fun b hb => hb))
  rotate_left
  · rw [legS_eq hn hx]; unfold legR; rw [if_pos (by omega)]; rfl
  · show (legS s st robot 10 == 1) = true
    rw [legS_eq hn hx]; unfold legR; rw [if_pos (by omega)]; rfl
  refine Loop.inv t.length (fun i q => q = (i : Int) + 1) rfl (fun i q hi hq => ?_) (fun q hq => Ite.f (by subst hq; simp) trivial)
  subst hq
  have hget : (0 :: t)[i + 1]? = some t[i] := by simp [hi]
  have hmem : t[i] ∈ (0 :: t) := List.mem_cons_of_mem _ (List.getElem_mem hi)
  have hpos : 0 < t[i] := (List.pairwise_cons.1 hpw).1 _ (List.getElem_mem hi)
  have hprev : ∃ p, (0 :: t)[i]? = some p ∧ p < t[i] := by
    cases i with
    | zero => exact ⟨0, rfl, hpos⟩
    | succ j =>
      have hj : j < t.length := by omega
      refine ⟨t[j], by simp [hj], ?_⟩
      exact List.pairwise_iff_getElem.1 (List.pairwise_cons.1 hpw).2 j (j + 1) hj hi (by omega)
  generalize t[i] = a at hget hmem hpos hprev
  obtain ⟨hleg, _, ha9⟩ := hL a hmem
  obtain ⟨hmv, h7, h8, h9⟩ := leg_split ⟨by omega, ha9⟩ hleg
  refine Ite.lt (by simp only [List.length_cons]; omega) ⟨a, idx_of (n := i + 1) (by omega) hget, ?_⟩
  rw [w64_eq (x := a - 1) (by omega) (by omega)]
  refine S_floor_Next hl.fl ?_
  refine Jn.mk (fun _ => True) ?_ (fun _ _ => ?_)
  · refine Ite.mk (fun e => ?_) (fun e => ?_)
    · have e : a = 7 := by simpa using e
      obtain ⟨g1, g2⟩ := h7 e
      refine Jn.mk (fun b => b = false) (Ite.f (by simp; omega) (S_rules_At k hsl (by simp; omega))) (fun b hb => Ite.f hb trivial)
    have e7 : a ≠ 7 := by simpa using e
    refine Jn.mk (fun _ => True) ?_ (fun _ _ => trivial)
    refine Ite.mk (fun e => ?_) (fun e => ?_)
    · have e : a = 8 := by simpa using e
      obtain ⟨g1, g2⟩ := h8 e
      refine Jn.mk (fun b => b = false) (Ite.f (by simp; omega) (S_rules_Stands (by rw [g2]; rfl))) (fun b hb => Ite.f hb trivial)
    have e8 : a ≠ 8 := by simpa using e
    refine Jn.mk (fun _ => True) ?_ (fun _ _ => trivial)
    refine Ite.mk (fun e => ?_) (fun e => ?_)
    · have e : a = 9 := by simpa using e
      exact ⟨_, idx_kd hR.cell, Ite.f (by rw [h9 e]; rfl) trivial⟩
    have e9 : a ≠ 9 := by simpa using e
    obtain ⟨g1, g2⟩ := hmv (mvB_iff.2 (by omega))
    obtain ⟨m1, m2, m3, m4, m5⟩ := mov_split g2
    unfold V_body_Low V_body_High
    refine Jn.mk (fun b => b = false) (Ite.t m1 (Ite.f (by simp; omega) (S_ref07_Has halm ?_))) (fun b hb => Ite.f hb trivial)
    have hdd : st.Dead.length ≤ maxLen := by have := hl.sz.dd; unfold maxLen; omega
    rw [perm_contains hall]
    refine Ite.f m4 (Ite.mk (fun g => S_ref07_Has halm ?_) (fun g => S_ref07_Has hdd (Ite.f m2 (S_rules_Open ks hl.rs (by rw [m3]; rfl)))))
    rw [perm_contains hall]
    exact Ite.f (m5 (by simpa using g)) (S_ref07_Has hdd (Ite.f m2 (S_rules_Open ks hl.rs (by rw [m3]; rfl))))
  · obtain ⟨p, hp1, hp2⟩ := hprev
    have hi10 : t.length < 10 := by simp at hlen; omega
    refine Jn.mk (fun b => b = false) ⟨p, idx_of (n := i) (by rw [w64_eq (by omega) (by omega)]; omega) hp1, Ite.f (by simp; omega) (S_act_Legal ks k hl (by rw [legS_eq hn hx, hleg]; rfl))⟩ (fun b hb => Ite.f hb ?_)
    rw [w64_eq (by omega) (by omega)]; simp
end Go.Taq
