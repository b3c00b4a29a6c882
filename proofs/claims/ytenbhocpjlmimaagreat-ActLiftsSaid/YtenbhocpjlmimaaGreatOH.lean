/- The mathematics, several parts in one text. -/
import Derived.Test.YtenbhocpjlmimaaGreatOD
/- The mathematics, part OE: what actions do, in both; equal states. -/
set_option linter.unusedVariables false
set_option linter.unusedSimpArgs false
namespace Go.Taq
open Go

def doS (s : ApiSite) (st : ApiState) (i a : Int) : ApiState := if i < 0 ∨ i ≥ st.Robots.length then st else doR s st i.toNat (st.Robots.getD i.toNat default) a
section
variable {s : ApiSite} {st : ApiState}
theorem S_clone {α : Type} {xs : List α} (hl : xs.length ≤ 1099511627776) {post : List α → Prop} (hp : post xs) : ∀ hb5 : Bool, (hb5 = true → xs = []) → Ite (hb5 == true) (post []) ((([] : List α).length + xs.length ≤ 1099511627776) ∧ post (([] : List α) ++ xs)) := by
  intro b hb
  refine Ite.mk (fun h => ?_) (fun h => ⟨by simp; omega, by rw [List.nil_append]; exact hp⟩)
  rw [hb (by simpa using h)] at hp; exact hp
theorem S_clone_i {xs : List Int} (hl : xs.length ≤ 1000) {post : List Int → Prop} (hp : post xs) : V_slices_Clone_int_int xs post := by
  unfold V_slices_Clone_int_int; exact S_clone (by omega) hp
theorem S_clone_r {xs : List ApiRobot} (hl : xs.length ≤ 1000) {post : List ApiRobot → Prop} (hp : post xs) : V_slices_Clone_api_Robot_api_Robot xs post := by
  unfold V_slices_Clone_api_Robot_api_Robot; exact S_clone (by omega) hp
theorem S_clone_s {xs : List ApiStuck} (hl : xs.length ≤ 1000) {post : List ApiStuck → Prop} (hp : post xs) : V_slices_Clone_api_Stuck_api_Stuck xs post := by
  unfold V_slices_Clone_api_Stuck_api_Stuck; exact S_clone (by omega) hp
theorem S_body_Clone (hz : Sz st) {post : ApiState → Prop} (hp : post st) : V_body_Clone st post := by
  unfold V_body_Clone
  exact S_clone_i hz.sh (S_clone_r hz.rb (S_clone_i hz.pp (S_clone_i hz.dd (S_clone_s hz.sk hp))))
theorem atS_lt (c : Int) : -1 ≤ atS st c ∧ atS st c < st.Shelves.length := atS_bd st c
theorem lod_bd (h : LS s st) {n : Nat} {r : ApiRobot} (hx : st.Robots[n]? = some r) (a : Int) : -1 ≤ lod st r a ∧ lod st r a < st.Shelves.length := by
  have := h.rob n r hx
  unfold lod; split
  · exact atS_lt _
  · split <;> omega
theorem aft_bd {t ch a : Int} {l : Bool} (h : I64 ch) : I64 (aft t ch a l).1 := by
  have hc := cst_bd t a l
  unfold aft
  split
  · exact h
  · split
    · split <;> constructor <;> (simp only; omega)
    · split
      · exact h
      · constructor <;> (simp only; omega)
theorem chg_bd (k : OkApiState st) {n : Nat} {r : ApiRobot} (hx : st.Robots[n]? = some r) (a : Int) : I64 (chg st r a) := by
  have h := (k.Robots.2 r (List.mem_of_getElem? hx)).Charge
  unfold chg
  split
  · exact aft_bd h
  · exact i64_of (by decide)
theorem idx_put {α : Type} {l : List α} {n : Nat} {i : Int} {a : α} (hi : i = n) (h : n < l.length) : idx (l.set i.toNat a) i = some a := by
  refine idx_of hi ?_
  rw [hi]; simp [h]
theorem S_act_Do (ks : OkApiSite s) (k : OkApiState st) (h : LS s st) {i a : Int} (h0 : 0 ≤ a) (h9 : a < 10) {post : ApiState → Prop} (hp : post (doS s st i a)) : V_act_Do s st i a post := by
  have hsl : st.Shelves.length ≤ 1000000 := by have := h.sz.sh; omega
  unfold V_act_Do
  refine S_body_Clone h.sz ?_
  by_cases hv : i < 0 ∨ i ≥ st.Robots.length
  · unfold doS at hp; rw [if_pos hv] at hp
    refine Jn.mk (fun b => b = true) (Ite.mk (fun _ => rfl) (fun h1 => Ite.mk (fun _ => rfl) (fun h2 => ?_))) (fun b hb => Ite.t hb hp)
    simp at h1 h2; omega
  unfold doS at hp; rw [if_neg hv] at hp
  obtain ⟨n, hn⟩ := Int.eq_ofNat_of_zero_le (show 0 ≤ i by omega)
  have hlt : n < st.Robots.length := by omega
  have hx := List.getElem?_eq_getElem hlt
  have hg : st.Robots.getD i.toNat default = st.Robots[n] := by rw [hn]; exact getD_r hx
  rw [hg] at hp
  generalize st.Robots[n] = r at hp hx
  have hb := lod_bd h hx a
  refine Jn.mk (fun b => b = r.Dead) (Ite.f (by simp; omega) (Ite.f (by simp; omega) ⟨r, idx_of hn hx, rfl⟩)) (fun b hbd => ?_)
  subst hbd
  unfold doR at hp
  refine Ite.mk (fun h1 => ?_) (fun h1 => ?_)
  · rw [if_pos h1] at hp; exact hp
  rw [if_neg (by rw [h1]; simp)] at hp
  refine ⟨r, idx_of hn hx, S_battery_After ?_⟩
  refine Jn.mk (fun c => c = chg st r a) (Ite.mk (fun h2 => ?_) (fun h2 => ?_)) (fun c hc => ?_)
  · unfold chg; rw [if_neg (by simpa using h2)]
  · unfold chg; rw [if_pos (by simpa using h2)]
  subst hc
  refine Jn.mk (fun l => l = st.Robots.set i.toNat { r with Load := lod st r a, Charge := chg st r a }) (Ite.mk (fun h2 => S_rules_At k hsl ?_) (fun h2 => Jn.mk' (Ite.mk (fun h3 => ?_) (fun h3 => ?_)))) (fun l hl => ?_)
  · rw [List.set_set]; unfold lod; rw [if_pos (by simpa using h2)]
  · rw [List.set_set]; unfold lod; rw [if_neg (by simpa using h2), if_pos (by simpa using h3)]
  · unfold lod; rw [if_neg (by simpa using h2), if_neg (by simpa using h3)]
  subst hl
  refine S_act_direction h0 h9 (Ite.mk (fun h2 => ?_) (fun h2 => ?_))
  · have hm : mvB a = false := by simpa using h2
    unfold nwR nwS at hp; rw [hm] at hp
    simp only [Bool.false_and, Bool.false_eq_true, false_and, if_false] at hp
    exact hp
  have hm : mvB a = true := by simpa using h2
  refine ⟨_, idx_put hn hlt, S_floor_Next h.fl ?_⟩
  unfold nwR nwS at hp; rw [hm, Bool.true_and] at hp
  show Jn _ _
  refine Jn.mk (fun p : List Int × List ApiRobot => p = (nwS s st r a, st.Robots.set i.toNat (nwR s st r a))) (Ite.mk (fun h3 => S_rules_Speed ks h.rs ?_) (fun h3 => ?_)) (fun p hpp => ?_)
  · have h3' : (nx s.Floor r.Cell (a - 1)).2 = true := h3
    have hsp := spd_bd h.rs (nx s.Floor r.Cell (a - 1)).1
    refine Jn.mk (fun l => l = nwS s st r a) (Ite.mk (fun h4 => ?_) (fun h4 => ?_)) (fun l hl => ?_)
    · have h4' : 0 ≤ lod st r a := by simpa using h4
      obtain ⟨m, hm2⟩ := Int.eq_ofNat_of_zero_le h4'
      refine ⟨_, idx_of hm2 (List.getElem?_eq_getElem (by omega)), ?_⟩
      unfold nwS; rw [if_pos ⟨by rw [hm, h3']; rfl, h4'⟩]
    · have h4' : ¬ 0 ≤ lod st r a := by simpa using h4
      unfold nwS; rw [if_neg (fun e => h4' e.2)]
    · subst hl
      have ew : w64 (spd s (nx s.Floor r.Cell (a - 1)).1 - 1) = spd s (nx s.Floor r.Cell (a - 1)).1 - 1 := w64_eq (by omega) (by omega)
      rw [List.set_set, List.set_set]
      simp only [] at ew ⊢
      rw [ew]
      show (_, _) = (_, _)
      unfold nwR; rw [hm, h3']; rfl
  · have h3' : (nx s.Floor r.Cell (a - 1)).2 = false := h3
    show (_, _) = (_, _)
    unfold nwR nwS; rw [hm, h3']
    simp only [Bool.and_false, Bool.false_eq_true, false_and, if_false]
  · subst hpp
    unfold nwR nwS; rw [hm, Bool.true_and]; exact hp
/-- equal states are the same -/
theorem V_eqs {α : Type} {xs : List α} (hm : xs.length ≤ maxLen) {C : α → α → Bool} (hC : ∀ x, C x x = false) {F : Prop} {E : Prop} (hE : E) :
    Jn (fun (J : Unit → Prop) => Loop (fun (s : Int) Y => Ite (decide (s < (xs.length : Int))) (∃ x, idx xs s = some x ∧ ∃ y, idx xs s = some y ∧ Ite (C x y) F (Y (w64 (s + 1)))) (J ())) 0) (fun _ => E) :=
  Jn.mk (fun _ => True) (V_loopc hm (fun t => t) (fun _ _ => True) rfl trivial (fun n x t hx ht _ => ⟨x, by rw [ht]; exact idx_of rfl hx, Ite.f (hC x) ⟨by rw [ht], trivial⟩⟩) (fun _ _ => trivial)) (fun _ _ => hE)
theorem S_body_Same {a b : ApiState} (hz : Sz a) (hab : a = b) {post : Bool → Prop} (hp : post true) : V_body_Same a b post := by
  subst hab
  have q1 := hz.sh; have q2 := hz.rb; have q3 := hz.pp; have q4 := hz.dd; have q5 := hz.sk
  unfold V_body_Same V_slices_Equal_int_int V_slices_Equal_api_Stuck_api_Stuck
  refine Jn.mk (fun b => b = true) (Ite.t (by simp) (Ite.f (by simp) (V_eqs (by unfold maxLen; omega) (by simp) (Ite.t rfl (Ite.f (by simp) (V_eqs (by unfold maxLen; omega) (by simp) rfl)))))) (fun b hb => ?_)
  subst hb
  refine Jn.mk (fun b => b = false) (Ite.t rfl (by simp)) (fun b hb => Ite.f hb ?_)
  refine V_eqs (xs := a.Robots) (by unfold maxLen; omega) (C := fun x y => !((x.Cell == y.Cell) && ((x.Load == y.Load) && ((x.Charge == y.Charge) && ((x.Rest == y.Rest) && ((x.Mute == y.Mute) && ((x.Dead == y.Dead) && true))))))) (by simp) ?_
  refine Jn.mk' (Ite.f (by simp) (V_eqs (by unfold maxLen; omega) (by simp) (Ite.t rfl (Ite.f (by simp) (V_eqs (xs := a.Stuck) (by unfold maxLen; omega) (C := fun x y => !((x.Cell == y.Cell) && ((x.Left == y.Left) && true))) (by simp) hp)))))
end
end Go.Taq

/- The mathematics, part OF: actions keep what they need; examples; ActTells. -/
set_option linter.unusedVariables false
set_option linter.unusedSimpArgs false
namespace Go.Taq
open Go

section
variable {s : ApiSite} {st : ApiState}
theorem nwS_len (r : ApiRobot) (a : Int) : (nwS s st r a).length = st.Shelves.length := by unfold nwS; split <;> simp
theorem nwS_mem (h : LS s st) (r : ApiRobot) (a : Int) {c : Int} (hc : c ∈ nwS s st r a) : isC s.Floor c = true := by
  unfold nwS at hc
  split at hc
  · rename_i hif
    simp only [Bool.and_eq_true] at hif
    rcases List.mem_or_eq_of_mem_set hc with e | e
    · exact h.cell c e
    · rw [e]; exact (nx_ok h.fl hif.1.2).2.1
  · exact h.cell c hc
theorem nwR_cell (h : LS s st) {n : Nat} {r : ApiRobot} (hx : st.Robots[n]? = some r) (a : Int) : isC s.Floor (nwR s st r a).Cell = true := by
  unfold nwR
  split
  · rename_i hif
    simp only [Bool.and_eq_true] at hif
    exact (nx_ok h.fl hif.2).2.1
  · exact (h.rob n r hx).1
theorem nwR_load (r : ApiRobot) (a : Int) : (nwR s st r a).Load = lod st r a := by unfold nwR; split <;> rfl
theorem nwR_charge (r : ApiRobot) (a : Int) : (nwR s st r a).Charge = chg st r a := by unfold nwR; split <;> rfl
theorem nwR_mute (r : ApiRobot) (a : Int) : (nwR s st r a).Mute = r.Mute ∧ (nwR s st r a).Dead = r.Dead := by unfold nwR; split <;> exact ⟨rfl, rfl⟩
theorem nwR_rest (h : LS s st) (r : ApiRobot) (a : Int) : (nwR s st r a).Rest = r.Rest ∨ 0 ≤ (nwR s st r a).Rest ∧ (nwR s st r a).Rest ≤ 100 := by
  unfold nwR; split
  · have := spd_bd h.rs (nx s.Floor r.Cell (a - 1)).1
    right; simp only; omega
  · exact .inl rfl
theorem put_get {α : Type} {l : List α} {n j : Nat} {a x : α} (h : (l.set n a)[j]? = some x) : (j = n ∧ n < l.length ∧ x = a) ∨ (j ≠ n ∧ l[j]? = some x) := by
  rw [List.getElem?_set] at h
  split at h
  · split at h
    · cases h; exact .inl ⟨by omega, by assumption, rfl⟩
    · cases h
  · exact .inr ⟨by omega, h⟩
theorem isC_i64 (hf : RF s.Floor) {c : Int} (h : isC s.Floor c = true) : I64 c := by
  have := isC_iff.1 h; have := hf.len.1
  exact i64_of (by omega)
theorem doR_ls (k : OkApiState st) (h : LS s st) {n : Nat} {r : ApiRobot} (hx : st.Robots[n]? = some r) (a : Int) : LS s (doR s st n r a) ∧ OkApiState (doR s st n r a) := by
  unfold doR
  split
  · exact ⟨h, k⟩
  have hlt := (List.getElem?_eq_some_iff.1 hx).1
  have hr := k.Robots.2 r (List.mem_of_getElem? hx)
  have hb := lod_bd h hx a
  have h3 := h.sz.sh
  have hmx : (1000000 : Nat) ≤ maxLen := by decide
  refine ⟨⟨h.fl, h.rs, ⟨by simp only; rw [nwS_len]; exact h.sz.sh, by simp only; rw [List.length_set]; exact h.sz.rb, h.sz.pp, h.sz.dd, h.sz.sk⟩, fun c hc => nwS_mem h r a hc, fun i x hxi => ?_⟩, ⟨k.Tick, ⟨by rw [nwS_len]; exact k.Shelves.1, fun c hc => isC_i64 h.fl (nwS_mem h r a hc)⟩, ⟨by rw [List.length_set]; exact k.Robots.1, fun x hxm => ?_⟩, k.People, k.Dead, k.Stuck⟩⟩
  · show _ ∧ _ ∧ x.Load < ((nwS s st r a).length : Int)
    rw [nwS_len]
    rcases put_get hxi with ⟨_, _, e⟩ | ⟨_, e⟩
    · subst e; rw [nwR_load]; exact ⟨nwR_cell h hx a, hb.1, hb.2⟩
    · exact h.rob i x e
  · rcases List.mem_or_eq_of_mem_set hxm with e | e
    · exact k.Robots.2 x e
    · subst e
      refine ⟨isC_i64 h.fl (nwR_cell h hx a), ?_, ?_, ?_, ?_, trivial⟩
      · rw [nwR_load]; exact i64_of (by omega)
      · rw [nwR_charge]; exact chg_bd k hx a
      · rcases nwR_rest h r a with e | e
        · rw [e]; exact hr.Rest
        · exact i64_of (by omega)
      · rw [(nwR_mute r a).1]; exact hr.Mute
theorem doS_ls (k : OkApiState st) (h : LS s st) (i a : Int) : LS s (doS s st i a) ∧ OkApiState (doS s st i a) := by
  unfold doS
  split
  · exact ⟨h, k⟩
  · obtain ⟨n, hn⟩ := Int.eq_ofNat_of_zero_le (show 0 ≤ i by omega)
    have hlt : n < st.Robots.length := by omega
    have hx := List.getElem?_eq_getElem hlt
    rw [hn]; show LS s (doR s st n (st.Robots.getD n default) a) ∧ OkApiState (doR s st n (st.Robots.getD n default) a)
    rw [getD_r hx]; exact doR_ls k h hx a
theorem RSt.cells (h : RSt s st) : ∀ c, c ∈ st.Shelves → isC s.Floor c = true := by
  intro c hc
  obtain ⟨i, hi⟩ := List.getElem?_of_mem hc
  cases hb : carB st i with
  | true =>
    rw [carB_any (by omega)] at hb
    obtain ⟨r, hr, hl⟩ := List.any_eq_true.1 hb
    obtain ⟨j, hj⟩ := List.getElem?_of_mem hr
    have hR := h.rob j r hj
    have hl' : r.Load = (i : Int) := by simpa using hl
    have := (hR.own (by omega)).2
    rw [hl'] at this
    have e : st.Shelves.getD i 0 = c := getD_i hi
    rw [← e]; show isC s.Floor (st.Shelves.getD ((i : Int)).toNat 0) = true
    rw [this]; exact hR.cell
  | false =>
    have := h.shel i c hi hb
    unfold kx at this
    cases hic : isC s.Floor c with
    | true => rfl
    | false => rw [hic] at this; simp at this
theorem Fair.ls (h : Fair s st) : LS s st := ⟨h.r.fl, h.r.rs, h.f12.sz, h.rst.cells, fun i r hr => ⟨(h.rst.rob i r hr).cell, (h.rst.rob i r hr).load.1, (h.rst.rob i r hr).load.2⟩⟩
end
/-! ## the example -/
def e15F : ApiFloor := { W := 4, H := 1, D := 1, Kind := [3, 1, 1, 1], Out := [1, 5, 5, 4] }
def e15S : ApiSite := { Floor := e15F, Zones := [], Aparts := [], Shelves := [{ Cell := 1, Class := ByteArray.empty }], Robots := [{ Cell := 0, Charge := 300 }, { Cell := 2, Charge := 300 }] }
def e15T : ApiState := { Tick := 0, Shelves := [1], Robots := [{ Cell := 0, Load := -1, Charge := 300, Rest := 0, Mute := 0, Dead := false }, { Cell := 2, Load := -1, Charge := 300, Rest := 0, Mute := 0, Dead := false }], People := [], Dead := [], Stuck := [] }
theorem e15RF : RF e15F := by
  refine ⟨by decide, by decide, by decide, by decide, by decide, by decide, by decide, by decide, by decide, fun i x y hx hy => ?_⟩
  match i, hx, hy with
  | 0, hx, hy => simp [e15F] at hx hy; omega
  | 1, hx, hy => simp [e15F] at hx hy; omega
  | 2, hx, hy => simp [e15F] at hx hy; omega
  | 3, hx, hy => simp [e15F] at hx hy; omega
  | n + 4, hx, hy => simp [e15F] at hx
theorem e15Ok : OkApiSite e15S where
  Floor := ⟨i64_of (by decide), i64_of (by decide), i64_of (by decide), ok_ml (by decide) (fun x hx => i64_of (by simp [e15S, e15F] at hx; omega)), ok_ml (by decide) (fun x hx => i64_of (by simp [e15S, e15F] at hx; omega))⟩
  Zones := ok_ml (by decide) (fun z hz => by simp [e15S] at hz)
  Aparts := ok_ml (by decide) (fun x hx => by simp [e15S] at hx)
  Shelves := ok_ml (by decide) (fun x hx => by
    simp only [e15S, List.mem_singleton] at hx; subst hx
    exact ⟨i64_of (by decide), by unfold OkS; decide⟩)
  Robots := ok_ml (by decide) (fun x hx => by
    simp only [e15S, List.mem_cons, List.not_mem_nil, or_false] at hx
    rcases hx with rfl | rfl
    · exact ⟨i64_of (by decide), i64_of (by decide)⟩
    · exact ⟨i64_of (by decide), i64_of (by decide)⟩)
theorem e15OkT : OkApiState e15T where
  Tick := i64_of (by decide)
  Shelves := ok_ml (by decide) (fun x hx => i64_of (by simp [e15T] at hx; omega))
  Robots := ok_ml (by decide) (fun x hx => by
    simp only [e15T, List.mem_cons, List.not_mem_nil, or_false] at hx
    rcases hx with rfl | rfl
    · exact ⟨i64_of (by decide), i64_of (by decide), i64_of (by decide), i64_of (by decide), i64_of (by decide), trivial⟩
    · exact ⟨i64_of (by decide), i64_of (by decide), i64_of (by decide), i64_of (by decide), i64_of (by decide), trivial⟩)
  People := ok_ml (by decide) (fun x hx => by simp [e15T] at hx)
  Dead := ok_ml (by decide) (fun x hx => by simp [e15T] at hx)
  Stuck := ok_ml (by decide) (fun x hx => by simp [e15T] at hx)
theorem e15LS : LS e15S e15T where
  fl := e15RF
  rs := ⟨e15RF, fun z hz => by simp [e15S] at hz, fun z hz => by simp [e15S] at hz, fun z hz => by simp [e15S] at hz⟩
  sz := ⟨by decide, by decide, by decide, by decide, by decide⟩
  cell := fun c hc => by simp [e15T] at hc; subst hc; decide
  rob := fun i r hr => by
    match i, hr with
    | 0, hr => simp [e15T] at hr; subst hr; decide
    | 1, hr => simp [e15T] at hr; subst hr; decide
    | n + 2, hr => simp [e15T] at hr
def e15V : ApiState := doS e15S (doS e15S e15T 0 1) 0 7
theorem e15v : e15V = { Tick := 0, Shelves := [1], Robots := [{ Cell := 1, Load := 0, Charge := 295, Rest := 0, Mute := 0, Dead := false }, { Cell := 2, Load := -1, Charge := 300, Rest := 0, Mute := 0, Dead := false }], People := [], Dead := [], Stuck := [] } := by decide
theorem e15l : legS e15S e15T 0 1 = 0 ∧ legS e15S e15T 0 3 = 14 ∧ legS e15S e15T 0 7 = 4 ∧ legS e15S e15V 0 1 = 15 := by
  rw [e15v]; decide
theorem S_law15_small {post : Bool → Prop} (hp : post true) : V_taquinlaw15_small post := by
  unfold V_taquinlaw15_small V_taquinlaw15_example
  obtain ⟨h1, k1⟩ := doS_ls e15OkT e15LS 0 1
  obtain ⟨h2, k2⟩ := doS_ls k1 h1 0 7
  obtain ⟨l1, l2, l3, l4⟩ := e15l
  refine S_act_Legal (s := e15S) (st := e15T) e15Ok e15OkT e15LS (S_act_Legal (s := e15S) (st := e15T) e15Ok e15OkT e15LS (S_act_Legal (s := e15S) (st := e15T) e15Ok e15OkT e15LS ?_))
  refine S_act_Do (s := e15S) (st := e15T) e15Ok e15OkT e15LS (by decide) (by decide) (S_act_Do (s := e15S) e15Ok k1 h1 (by decide) (by decide) ?_)
  show Jn (fun (J22 : Bool → Prop) => Ite ((e15V.Robots.length : Int) != 2) (J22 true) (J22 ((e15V.Shelves.length : Int) != 1))) _
  refine Jor2 (Ite.f (by rw [e15v]; decide) ?_)
  rw [l1, l2, l3]
  refine Jn.mk (fun b => b = true) (Ite.t rfl (Ite.t rfl (Ite.t rfl ⟨{ Cell := 1, Load := 0, Charge := 295, Rest := 0, Mute := 0, Dead := false }, by show idx e15V.Robots 0 = _; rw [e15v]; rfl, Ite.t (by decide) (Ite.t (by decide) (Ite.t (by decide) (S_act_Legal (s := e15S) e15Ok k2 h2 ?_)))⟩))) (fun b hb => hb ▸ hp)
  show (legS e15S e15V 0 1 == 15) = true
  rw [l4]; rfl
theorem legS_ok {s : ApiSite} {st : ApiState} {i a : Int} (h : legS s st i a = 0) : (0 ≤ i ∧ i < st.Robots.length) ∧ 0 ≤ a ∧ a < 10 := by
  unfold legS at h
  split at h
  · cases h
  · unfold legR at h
    split at h
    · cases h
    · omega
end Go.Taq

/- The mathematics, part OG: ActAlone. -/
set_option linter.unusedVariables false
set_option linter.unusedSimpArgs false
namespace Go.Taq
open Go

section
variable {s : ApiSite} {st : ApiState}
theorem doS_eq {i a : Int} {n : Nat} {r : ApiRobot} (hn : i = n) (hx : st.Robots[n]? = some r) : doS s st i a = doR s st n r a := by
  have hlt := (List.getElem?_eq_some_iff.1 hx).1
  subst hn
  unfold doS
  rw [if_neg (by omega)]
  show doR s st n (st.Robots.getD n default) a = _
  rw [getD_r hx]
theorem legS_eq {i a : Int} {n : Nat} {r : ApiRobot} (hn : i = n) (hx : st.Robots[n]? = some r) : legS s st i a = legR s st r a := by
  have hlt := (List.getElem?_eq_some_iff.1 hx).1
  subst hn
  unfold legS
  rw [if_neg (by omega)]
  show legR s st (st.Robots.getD n default) a = _
  rw [getD_r hx]
theorem set_same {α : Type} {l : List α} {n : Nat} {x : α} (h : l[n]? = some x) : l.set n x = l := by
  have := set_idx (xs := l) (i := (n : Int)) (x := x) (idx_of rfl h)
  simpa using this
end
end Go.Taq

/- The mathematics, part OH: ActLifts. -/
set_option linter.unusedVariables false
set_option linter.unusedSimpArgs false
namespace Go.Taq
open Go

section
variable {s : ApiSite} {st : ApiState}
theorem flat_nodup {f : Nat → List Int} {n : Nat} (h : ((List.range n).flatMap f).Nodup) {i j : Nat} (hi : i < n) (hj : j < n) (hij : i ≠ j) {x : Int} (h1 : x ∈ f i) : x ∉ f j := by
  intro h2
  have key : ∀ n : Nat, ((List.range n).flatMap f).Nodup → i < n → j < n → False := by
    intro n
    induction n with
    | zero => intro _ hi; omega
    | succ n ih =>
      intro h hi hj
      rw [List.range_succ, List.flatMap_append, List.nodup_append] at h
      obtain ⟨ha, hb, hc⟩ := h
      by_cases ei : i = n
      · subst ei
        exact hc x (List.mem_flatMap.2 ⟨j, by simp; omega, h2⟩) x (by simpa using h1) rfl
      · by_cases ej : j = n
        · subst ej
          exact hc x (List.mem_flatMap.2 ⟨i, by simp; omega, h1⟩) x (by simpa using h2) rfl
        · exact ih ha (by omega) (by omega)
  exact key n h hi hj
theorem RSt.alone (h : RSt s st) {i j : Nat} (hi : i < st.Shelves.length) (hj : j < st.Shelves.length) (hij : i ≠ j) (ci : carB st i = false) (cj : carB st j = false) : st.Shelves.getD i 0 ≠ st.Shelves.getD j 0 := by
  intro e
  have hc := h.clash
  unfold allS at hc
  rw [List.nodup_append, List.nodup_append] at hc
  have := flat_nodup hc.1.2.1 hi hj hij (x := high (st.Shelves.getD i 0)) (by unfold slS; rw [ci]; simp)
  exact this (by unfold slS; rw [cj, e]; simp)
theorem RSt.stand (h : RSt s st) {i : Nat} (hi : i < st.Shelves.length) (ci : carB st i = false) : stB s (st.Shelves.getD i 0) = true := by
  have hx := List.getElem?_eq_getElem hi
  have := h.shel i _ hx ci
  rw [getD_i hx]
  unfold kx at this
  unfold stB
  cases e : isC s.Floor st.Shelves[i] with
  | false => rw [e] at this; simp at this
  | true => rw [e] at this; simp at this; unfold standK; simp; omega
/-- no two shelves disturb each other -/
theorem apart_none (h : (apartS s st).2.2 = false) {a b : Nat} (ha : a < st.Shelves.length) (hb : b < st.Shelves.length) (hab : a < b) : badP s st a b = false := by
  rw [apartS_found, decide_eq_false_iff_not] at h
  rcases fnat_cases (fun a => decide (0 ≤ partner s st a)) st.Shelves.length with ⟨i, hi, e, _⟩ | ⟨e, hn⟩
  · rw [e] at h; omega
  · have h1 := hn a ha
    simp only [decide_eq_false_iff_not] at h1
    unfold partner at h1
    rcases fnat_cases (fun b => decide (a < b) && badP s st a b) st.Shelves.length with ⟨i, hi, e, _⟩ | ⟨e, hn⟩
    · rw [e] at h1; omega
    · have := hn b hb; simpa [hab] using this
theorem shelf_mem {a : Nat} (ha : a < st.Shelves.length) : st.Shelves.getD a 0 ∈ st.Shelves := by rw [getD_i (List.getElem?_eq_getElem ha)]; exact List.getElem_mem ha
theorem apart_pair (hf : RF s.Floor) (hcs : ∀ c, c ∈ st.Shelves → isC s.Floor c = true) (h : (apartS s st).2.2 = false) {a b : Nat} (ha : a < st.Shelves.length) (hb : b < st.Shelves.length) (hab : a ≠ b) (ca : carB st a = false) (cb : carB st b = false) (hn : nearB s.Floor (st.Shelves.getD a 0) (st.Shelves.getD b 0) = true) : nev s (clsS s a) (clsS s b) = false := by
  by_cases hlt : a < b
  · have := apart_none h ha hb hlt
    unfold badP at this; rw [hn, ca, cb] at this; simpa using this
  · have := apart_none h hb ha (by omega)
    unfold badP at this
    rw [nearB_comm hf (hcs _ (shelf_mem ha)) (hcs _ (shelf_mem hb))] at hn
    rw [hn, ca, cb, nev_comm] at this; simpa using this
theorem atS_pos {c : Int} (h : 0 ≤ atS st c) : ∃ i : Nat, i < st.Shelves.length ∧ atS st c = i ∧ st.Shelves.getD i 0 = c ∧ carB st i = false := by
  rcases fnat_cases (atP st c) st.Shelves.length with ⟨i, hi, e, hp, _⟩ | ⟨e, _⟩
  · refine ⟨i, hi, e, ?_⟩
    unfold atP at hp; simpa using hp
  · unfold atS at h; rw [e] at h; omega
theorem aft_ok {t ch a : Int} {l : Bool} (hc : 0 ≤ ch ∧ ch ≤ 1000000) (ha : 0 ≤ a ∧ a < 9) (h : (aft t ch a l).2 ≠ 16) : cst t a l ≤ ch ∧ aft t ch a l = (ch - cst t a l, 0) := by
  unfold aft at h ⊢
  rw [if_neg (by omega), if_neg (by omega)] at h ⊢
  split at h
  · exact absurd rfl h
  · rename_i h1; rw [if_neg h1]; exact ⟨by omega, rfl⟩
theorem aft_low {t ch a : Int} {l : Bool} (hc : 0 ≤ ch ∧ ch ≤ 1000000) (ha : 0 ≤ a ∧ a < 9) : (aft t ch a l).2 = 16 ↔ ch < cst t a l := by
  unfold aft
  rw [if_neg (by omega), if_neg (by omega)]
  split
  · simp; assumption
  · simp; omega
/-- a lift undone -/
theorem drop_back (h : RSt s st) (hf : RF s.Floor) (hap : (apartS s st).2.2 = false) {n : Nat} {r y : ApiRobot} (hx : st.Robots[n]? = some r) (hr : r.Load < 0) {i : Nat} (hi : i < st.Shelves.length) (hc : st.Shelves.getD i 0 = r.Cell) (ci : carB st i = false) (hy : y.Load = i) : dropS s { st with Robots := st.Robots.set n y } i r.Cell = 0 := by
  have hlt := (List.getElem?_eq_some_iff.1 hx).1
  have hcar : ∀ j : Nat, j ≠ i → carB ({ st with Robots := st.Robots.set n y } : ApiState) j = false → carB st j = false := by
    intro j hj h1
    rw [carB_any (by omega)] at h1 ⊢
    rw [List.any_eq_false] at h1 ⊢
    intro z hz
    obtain ⟨m, hm⟩ := List.getElem?_of_mem hz
    by_cases e : m = n
    · subst e; rw [hx] at hm; cases hm; simp; omega
    · exact h1 z (List.mem_of_getElem? (i := m) (by simp only; rw [List.getElem?_set_ne (by omega)]; exact hm))
  unfold dropS
  rw [if_neg (by simp only; omega), if_neg (by rw [← hc, h.stand hi ci]; simp), if_neg, if_neg]
  · intro h1
    obtain ⟨j, hj, h2⟩ := List.any_eq_true.1 h1
    have hjl : j < st.Shelves.length := by simpa using hj
    unfold dAp at h2
    simp only [Bool.and_eq_true, Bool.not_eq_true', beq_eq_false_iff_ne, ne_eq] at h2
    obtain ⟨⟨⟨h3, h4⟩, h5⟩, h6⟩ := h2
    have hne : j ≠ i := fun e => h3 (by rw [e])
    have := apart_pair hf h.cells hap hjl hi hne (hcar j hne h4) ci (by rw [hc]; exact h5)
    rw [nev_comm] at this
    rw [this] at h6; cases h6
  · intro h1
    obtain ⟨j, hj, h2⟩ := List.any_eq_true.1 h1
    have hjl : j < st.Shelves.length := by simpa using hj
    unfold dHit at h2
    simp only [Bool.and_eq_true, Bool.not_eq_true', beq_eq_false_iff_ne, ne_eq, beq_iff_eq] at h2
    obtain ⟨⟨h3, h4⟩, h5⟩ := h2
    have hne : j ≠ i := fun e => h3 (by rw [e])
    exact h.alone hjl hi hne (hcar j hne h4) ci (by rw [hc]; exact h5)
end
theorem Said_taquinlaw15_ActLifts (s : ApiSite) (ks : OkApiSite s) (st : ApiState) (k : OkApiState st) (robot : Int) (k2 : I64 robot) : V_taquinlaw15_ActLifts s st robot (fun y => y = true) := by
  unfold V_taquinlaw15_ActLifts
  refine S_law15_small (Jn.mk (fun b => b = false → Fair s st ∧ legS s st robot 7 = 0) (S_law15_fair ks k (Ite.f rfl (fun h => by cases h)) (fun hf => Ite.t rfl (S_act_Legal ks k hf.ls (fun h => ⟨hf, by simpa using h⟩)))) (fun b hb => Ite.mk (fun _ => rfl) (fun h => ?_)))
  obtain ⟨hf, h0⟩ := hb h
  have hl := hf.ls
  have hsl : st.Shelves.length ≤ 1000000 := by have := hl.sz.sh; omega
  obtain ⟨⟨hi0, hi1⟩, _⟩ := legS_ok h0
  obtain ⟨n, hn⟩ := Int.eq_ofNat_of_zero_le hi0
  have hlt : n < st.Robots.length := by omega
  have hx := List.getElem?_eq_getElem hlt
  generalize st.Robots[n] = r at hx
  have hR := hf.rst.rob n r hx
  rw [legS_eq hn hx] at h0
  -- what legal says
  have hm7 : mvB 7 = false := by decide
  have hm8 : mvB 8 = false := by decide
  unfold legR at h0
  rw [if_neg (by omega), if_neg (by omega)] at h0
  split at h0
  · cases h0
  rename_i hdm
  rw [hm7] at h0
  simp only [Bool.false_and, Bool.false_eq_true, if_false] at h0
  split at h0
  · cases h0
  rename_i haf
  rw [if_pos trivial] at h0
  split at h0
  · cases h0
  rename_i hld
  split at h0
  · cases h0
  rename_i hat
  have hr : r.Load = -1 := by have := hR.load.1; omega
  have hdec : decide (r.Load ≥ 0) = false := by simp; omega
  rw [hdec] at haf
  obtain ⟨hc7, he7⟩ := aft_ok hR.charge (by omega) haf
  obtain ⟨i, hi, hie, hcell, hcar⟩ := atS_pos (st := st) (c := r.Cell) (by omega)
  refine S_rules_Apart ks k hl.fl hsl hl.cell (Ite.mk (fun _ => rfl) (fun hap => ?_))
  refine S_act_Do ks k hl (by omega) (by omega) ?_
  obtain ⟨lu, ku⟩ := doS_ls k hl robot 7
  rw [doS_eq hn hx] at lu ku ⊢
  have hdd : r.Dead = false := by cases e : r.Dead with | false => rfl | true => rw [e] at hdm; simp at hdm
  have hmu : ¬ r.Mute > 0 := by intro e; rw [decide_eq_true e] at hdm; simp at hdm
  let y : ApiRobot := { r with Load := (i : Int), Charge := r.Charge - cst st.Tick 7 false }
  have hu : doR s st n r 7 = { st with Robots := st.Robots.set n y } := by
    unfold doR nwR nwS
    rw [hdd, hm7]
    have e1 : lod st r 7 = i := by unfold lod; rw [if_pos rfl, hie]
    have e2 : chg st r 7 = r.Charge - cst st.Tick 7 false := by unfold chg; rw [hdec, he7]; rfl
    rw [e1, e2]; simp [y, hdd]
  rw [hu] at lu ku ⊢
  have hyx : ({ st with Robots := st.Robots.set n y } : ApiState).Robots[n]? = some y := by show (st.Robots.set n y)[n]? = _; simp [hlt]
  refine Jor2 (Ite.f (by simp; omega) (S_act_Legal ks ku lu ?_))
  rw [legS_eq hn hyx]
  refine ⟨y, idx_of hn hyx, S_battery_Cost (by omega) (by omega) ?_⟩
  have hcb := cst_bd st.Tick 7 false
  have hcb3 : 3 ≤ cst st.Tick 7 false := by
    have e : bas 7 false = 3 := by decide
    have := agT_bd st.Tick
    unfold cst; rw [e]; omega
  have hchy : 0 ≤ y.Charge ∧ y.Charge ≤ 1000000 := by show 0 ≤ r.Charge - _ ∧ r.Charge - _ ≤ _; have := hR.charge; omega
  have hyld : decide (y.Load ≥ 0) = true := by show decide ((i : Int) ≥ 0) = true; simp
  have hleg : legR s { st with Robots := st.Robots.set n y } y 8 = if y.Charge < cst st.Tick 8 true then 16 else dropS s { st with Robots := st.Robots.set n y } i r.Cell := by
    unfold legR
    rw [if_neg (by omega), if_neg (by omega), if_neg (by show ¬ (r.Dead || decide (r.Mute > 0)) = true; exact hdm), hm8]
    simp only [Bool.false_and, Bool.false_eq_true, if_false]
    rw [hyld]
    by_cases hlow : y.Charge < cst st.Tick 8 true
    · rw [if_pos ((aft_low hchy (by omega)).2 hlow), if_pos hlow]
    · rw [if_neg (fun e => hlow ((aft_low hchy (by omega)).1 e)), if_neg hlow, if_neg (by omega), if_pos trivial, if_neg (by show ¬ (i : Int) < 0; omega)]
  rw [hleg]
  refine Ite.mk (fun hlow => ?_) (fun hlow => ?_)
  · rw [if_pos (by simpa using hlow)]
    exact Jn.mk (fun b => b = true) (Ite.t rfl rfl) (fun b hb => hb)
  have hlow' : ¬ y.Charge < cst st.Tick 8 true := by simpa using hlow
  rw [if_neg hlow', drop_back hf.rst hl.fl hap hx (by omega) hi hcell hcar rfl]
  refine Ite.f rfl (S_act_Do ks ku lu (by omega) (by omega) ?_)
  obtain ⟨lv, kv⟩ := doS_ls ku lu robot 8
  rw [doS_eq hn hyx] at lv kv ⊢
  obtain ⟨hc8, he8⟩ := aft_ok (t := st.Tick) (l := true) hchy (a := 8) (by omega) (fun e => hlow' ((aft_low hchy (by omega)).1 e))
  let v : ApiRobot := { r with Load := -1, Charge := y.Charge - cst st.Tick 8 true }
  have hv : doR s { st with Robots := st.Robots.set n y } n y 8 = { st with Robots := st.Robots.set n v } := by
    unfold doR nwR nwS
    rw [show y.Dead = false from hdd, hm8]
    have e1 : lod ({ st with Robots := st.Robots.set n y } : ApiState) y 8 = -1 := by unfold lod; rw [if_neg (by omega), if_pos rfl]
    have e2 : chg ({ st with Robots := st.Robots.set n y } : ApiState) y 8 = y.Charge - cst st.Tick 8 true := by unfold chg; rw [hyld]; show (if (aft st.Tick y.Charge 8 true).2 = 0 then _ else _) = _; rw [he8]; rfl
    rw [e1, e2]; simp [v, y, hdd]
  rw [hv] at lv kv ⊢
  have hvx : ({ st with Robots := st.Robots.set n v } : ApiState).Robots[n]? = some v := by show (st.Robots.set n v)[n]? = _; simp [hlt]
  refine Ite.f (by simp; omega) (S_body_Clone lv.sz ⟨r, idx_of hn hx, v, idx_of hn hvx, ?_⟩)
  have hback : ({ Tick := st.Tick, Shelves := st.Shelves, Robots := (st.Robots.set n v).set (Int.toNat robot) { Cell := v.Cell, Load := v.Load, Charge := r.Charge, Rest := v.Rest, Mute := v.Mute, Dead := v.Dead }, People := st.People, Dead := st.Dead, Stuck := st.Stuck } : ApiState) = st := by
    have e : (st.Robots.set n v).set (Int.toNat robot) { Cell := v.Cell, Load := v.Load, Charge := r.Charge, Rest := v.Rest, Mute := v.Mute, Dead := v.Dead } = st.Robots := by
      rw [hn]; show (st.Robots.set n v).set n _ = _
      rw [List.set_set]
      have : ({ Cell := v.Cell, Load := v.Load, Charge := r.Charge, Rest := v.Rest, Mute := v.Mute, Dead := v.Dead } : ApiRobot) = r := by
        show ({ Cell := r.Cell, Load := -1, Charge := r.Charge, Rest := r.Rest, Mute := r.Mute, Dead := r.Dead } : ApiRobot) = r
        rw [← hr]
      rw [this]; exact set_same hx
    rw [e]
  refine Jn.mk (fun b => b = true) (Ite.t rfl (S_body_Same (by rw [hback]; exact hl.sz) hback (Ite.t rfl ⟨v, idx_of hn hvx, ?_⟩))) (fun b hb => hb)
  show decide (v.Charge < r.Charge) = true
  show decide (r.Charge - cst st.Tick 7 false - cst st.Tick 8 true < r.Charge) = true
  have := cst_bd st.Tick 8 true
  simp; omega
end Go.Taq
