/- The mathematics, several parts in one text. -/
import Derived.Test.YtbkpekodmhkbdaaGreatNA
/- The mathematics, part NB: survey.Right. -/
set_option linter.unusedVariables false
namespace Go.Taq
open Go

/-- what a maker holds when all is in it -/
abbrev MAll (s : ApiSite) (m : SurveyMaker) : Prop := MInv s s.Zones.length s.Aparts.length s.Shelves.length s.Robots.length m
section
variable {s : ApiSite} {m : SurveyMaker}
theorem MInv.zs' (h : MAll s m) : m.site.Zones = s.Zones := by rw [h.zs, List.take_length]
theorem MInv.as' (h : MAll s m) : m.site.Aparts = s.Aparts := by rw [h.aps, List.take_length]
theorem MInv.sh' (h : MAll s m) : m.site.Shelves = s.Shelves := by rw [h.sh, List.take_length]
theorem MInv.shelf' (h : MAll s m) (c : Int) : lk m.shelf c = if 0 ≤ shAt s.Shelves c then some (shAt s.Shelves c) else none := by
  have := h.shelf c; rwa [List.take_length] at this

theorem S_survey_beside (k : OkApiSite s) (hf : RF s.Floor) (h : MAll s m) (hc : ∀ x, x ∈ s.Shelves → isC s.Floor x.Cell = true) {post : Int → Prop} (hF : ∀ i : Nat, i < s.Shelves.length → post (i : Int))
    (hT : (∀ (i : Nat) (d : Int), 0 ≤ d → d < 4 → ¬ badSh s i d) → post (-1)) : V_survey_maker_beside m post := by
  unfold V_survey_maker_beside
  rw [h.sh', h.fl, h.as']
  refine Jn.mk (fun _ => ∀ (i : Nat) (d : Int), i < s.Shelves.length → 0 ≤ d → d < 4 → ¬ badSh s i d)
    (V_loopj (xs := s.Shelves) k.Shelves.1 (fun t => t) (fun n _ => ∀ (i : Nat) (d : Int), i < n → 0 ≤ d → d < 4 → ¬ badSh s i d) rfl (fun i d h => by omega) (fun n x t hx ht hall => ?_) (fun t h => h)) (fun _ h => hT (fun i d h0 h1 hb => ?_))
  · have hn := (List.getElem?_eq_some_iff.1 hx).1
    have hxc := hc x (List.mem_of_getElem? hx)
    refine Jn.mk (fun _ => ∀ d : Int, 0 ≤ d → d < 4 → ¬ badSh s n d) ⟨x, by rw [ht]; exact idx_of rfl hx, S_floor_At hf hxc ?_⟩ (fun _ hd => ⟨by rw [ht], fun i d hi h0 h1 => ?_⟩)
    · have hb := p_bd hf hxc
      have w := hf.W4; have hh := hf.H4; have hd := hf.D4
      dsimp only
      rw [w64_eq (x := pX s.Floor x.Cell + 1) (by omega) (by omega), w64_eq (x := pY s.Floor x.Cell + 1) (by omega) (by omega), w64_eq (x := pX s.Floor x.Cell - 1) (by omega) (by omega), w64_eq (x := pY s.Floor x.Cell - 1) (by omega) (by omega)]
      refine S_floor_Cell hf (S_floor_Cell hf (S_floor_Cell hf (S_floor_Cell hf ?_)))
      have n0 : cellF s.Floor (pX s.Floor x.Cell + 1) (pY s.Floor x.Cell) (pZ s.Floor x.Cell) = nbr s.Floor x.Cell 0 := by simp [nbr, hxc]
      have n1 : cellF s.Floor (pX s.Floor x.Cell) (pY s.Floor x.Cell + 1) (pZ s.Floor x.Cell) = nbr s.Floor x.Cell 1 := by simp [nbr, hxc]
      have n2 : cellF s.Floor (pX s.Floor x.Cell - 1) (pY s.Floor x.Cell) (pZ s.Floor x.Cell) = nbr s.Floor x.Cell 2 := by simp [nbr, hxc]
      have n3 : cellF s.Floor (pX s.Floor x.Cell) (pY s.Floor x.Cell - 1) (pZ s.Floor x.Cell) = nbr s.Floor x.Cell 3 := by simp [nbr, hxc]
      rw [n0, n1, n2, n3]
      have hl : ∀ (i : Nat) (c : Int), [nbr s.Floor x.Cell 0, nbr s.Floor x.Cell 1, nbr s.Floor x.Cell 2, nbr s.Floor x.Cell 3][i]? = some c → c = nbr s.Floor x.Cell (i : Int) ∧ i < 4 := fun i c hi => by
        match i, hi with
        | 0, hi => simp at hi; exact ⟨hi.symm, by omega⟩
        | 1, hi => simp at hi; exact ⟨hi.symm, by omega⟩
        | 2, hi => simp at hi; exact ⟨hi.symm, by omega⟩
        | 3, hi => simp at hi; exact ⟨hi.symm, by omega⟩
      refine Jn.mk (fun _ => ∀ d : Int, 0 ≤ d → d < 4 → ¬ badSh s n d)
        (V_loopc (xs := [nbr s.Floor x.Cell 0, nbr s.Floor x.Cell 1, nbr s.Floor x.Cell 2, nbr s.Floor x.Cell 3]) (by simp [maxLen]) (fun t => t) (fun q _ => ∀ d : Int, 0 ≤ d → d < q → ¬ badSh s n d) rfl (fun d h0 h1 => by omega) (fun q c t' hq ht' hqa => ?_) (fun t' h' d h0 h1 => h' d h0 (by simpa using h1))) (fun _ h' => h')
      obtain ⟨rfl, hq4⟩ := hl q c hq
      rw [h.shelf']
      refine Jn.mk (fun b => b = false → ¬ badSh s n q) ?_ (fun b hb' => Ite.mk (fun _ => by rw [ht]; exact hF n hn) (fun hb'' => ⟨by rw [ht'], fun d h0 h1 => ?_⟩))
      · by_cases h1 : 0 ≤ shAt s.Shelves (nbr s.Floor x.Cell q)
        · rw [if_pos h1]
          refine Ite.t rfl (Ite.mk (fun h2 => ?_) (fun h2 _ => ?_))
          · simp at h2
            have hlt : (shAt s.Shelves (nbr s.Floor x.Cell q)).toNat < s.Shelves.length := by omega
            have hy : s.Shelves[(shAt s.Shelves (nbr s.Floor x.Cell q)).toNat]? = some (s.Shelves[(shAt s.Shelves (nbr s.Floor x.Cell q)).toNat]'hlt) := List.getElem?_eq_getElem _
            refine ⟨_, idx_of (n := (shAt s.Shelves (nbr s.Floor x.Cell q)).toNat) (by simp; omega) hy, S_survey_Apart k.Aparts.1 (fun h3 => ?_)⟩
            rintro ⟨x', y', hx', _, _, _, h5, h6⟩
            rw [hx] at hx'; cases hx'
            rw [idx_of (n := (shAt s.Shelves (nbr s.Floor x.Cell q)).toNat) (by omega) hy] at h5; cases h5
            rw [h3] at h6; cases h6
          · simp at h2
            rintro ⟨x', y', hx', _, _, h5, _⟩
            rw [hx] at hx'; cases hx'; omega
        · rw [if_neg h1]
          refine Ite.f rfl (fun _ => ?_)
          rintro ⟨x', y', hx', _, h5, _⟩
          rw [hx] at hx'; cases hx'; omega
      · by_cases e : d = q
        · subst e; exact hb' hb''
        · exact hqa d h0 (by omega)
    · by_cases e : i = n
      · subst e; exact hd d h0 h1
      · exact hall i d (by omega) h0 h1
  · obtain ⟨x, y, hx, _⟩ := id hb
    exact h i d (List.getElem?_eq_some_iff.1 hx).1 h0 h1 hb

theorem countP_take {p : Int → Bool} {l : List Int} {i : Nat} {c : Int} (h : l[i]? = some c) : (l.take (i + 1)).countP p = (l.take i).countP p + if p c = true then 1 else 0 := by
  rw [take_succ h, List.countP_append, List.countP_singleton]
theorem S_survey_crowded1 (k : OkApiSite s) (h : MAll s m) {z : ApiZone} (hz : z.Cells.length ≤ maxLen) (hc : ∀ c, c ∈ z.Cells → isC s.Floor c = true) {post : Bool → Prop} (hp : post (decide ((z.Cells.countP (blankB s) : Nat) < z.Keep))) : V_survey_maker_crowded_1 z m post := by
  unfold V_survey_maker_crowded_1
  refine Jn.mk (fun n => n = ((z.Cells.countP (blankB s) : Nat) : Int)) (V_loopc hz (fun t : Int × Int => t.2) (fun i (t : Int × Int) => t.1 = (((z.Cells.take i).countP (blankB s) : Nat) : Int)) rfl rfl (fun i c t hcx ht hI => ?_) (fun t h => by rw [h, List.take_length])) (fun n hn => by rw [hn]; exact hp)
  have hcc := hc c (List.mem_of_getElem? hcx)
  have hle := List.countP_le_length (p := blankB s) (l := z.Cells.take i)
  have hle2 : (z.Cells.take i).length ≤ i := by simp; omega
  have hi := (List.getElem?_eq_some_iff.1 hcx).1
  rw [h.shelf', h.fl]
  refine Jn.mk (fun b => b = blankB s c) ?_ (fun b hb => Jn.mk (fun n => n = (((z.Cells.take (i + 1)).countP (blankB s) : Nat) : Int)) ?_ (fun n hn => ⟨by rw [ht], hn⟩))
  · by_cases h1 : 0 ≤ shAt s.Shelves c
    · rw [if_pos h1]; exact Ite.t rfl (by simp [blankB]; omega)
    · rw [if_neg h1]
      exact Ite.f rfl ⟨_, idx_kd hcc, S_survey_stands (by simp [blankB]; omega)⟩
  · rw [countP_take hcx]
    subst hb
    refine Ite.mk (fun h => ?_) (fun h => ?_)
    · rw [hI, h, w64_eq (by omega) (by unfold maxLen at hz; omega)]; simp
    · rw [hI, h]; simp

abbrev T17 (α : Type) := Int × Int × Int × List Int × List Int × List ApiZone × List ApiApart × List ApiShelf × List ApiStart × List (Int × Int) × List (Int × Bool) × List (Int × Bool) × List (ByteArray × Int) × List (Int × Bool) × List Int × List Int × α
def ofT {α : Type} (t : T17 α) : SurveyMaker := { site := { Floor := { W := t.1, H := t.2.1, D := t.2.2.1, Kind := t.2.2.2.1, Out := t.2.2.2.2.1 }, Zones := t.2.2.2.2.2.1, Aparts := t.2.2.2.2.2.2.1, Shelves := t.2.2.2.2.2.2.2.1, Robots := t.2.2.2.2.2.2.2.2.1 }, shelf := t.2.2.2.2.2.2.2.2.2.1, robot := t.2.2.2.2.2.2.2.2.2.2.1, zoned := t.2.2.2.2.2.2.2.2.2.2.2.1, names := t.2.2.2.2.2.2.2.2.2.2.2.2.1, oneways := t.2.2.2.2.2.2.2.2.2.2.2.2.2.1, shelves := t.2.2.2.2.2.2.2.2.2.2.2.2.2.2.1, zones := t.2.2.2.2.2.2.2.2.2.2.2.2.2.2.2.1 }
abbrev T16 := Int × Int × Int × List Int × List Int × List ApiZone × List ApiApart × List ApiShelf × List ApiStart × List (Int × Int) × List (Int × Bool) × List (Int × Bool) × List (ByteArray × Int) × List (Int × Bool) × List Int × List Int
def of16 (t : T16) : SurveyMaker := { site := { Floor := { W := t.1, H := t.2.1, D := t.2.2.1, Kind := t.2.2.2.1, Out := t.2.2.2.2.1 }, Zones := t.2.2.2.2.2.1, Aparts := t.2.2.2.2.2.2.1, Shelves := t.2.2.2.2.2.2.2.1, Robots := t.2.2.2.2.2.2.2.2.1 }, shelf := t.2.2.2.2.2.2.2.2.2.1, robot := t.2.2.2.2.2.2.2.2.2.2.1, zoned := t.2.2.2.2.2.2.2.2.2.2.2.1, names := t.2.2.2.2.2.2.2.2.2.2.2.2.1, oneways := t.2.2.2.2.2.2.2.2.2.2.2.2.2.1, shelves := t.2.2.2.2.2.2.2.2.2.2.2.2.2.2.1, zones := t.2.2.2.2.2.2.2.2.2.2.2.2.2.2.2 }
def lst {α : Type} (t : T17 α) : α := t.2.2.2.2.2.2.2.2.2.2.2.2.2.2.2.2
end
theorem S_survey_Right {s : ApiSite} (k : OkApiSite s) {cells most : Int} (hfew : FewS s cells most) (hm : most ≤ 1000000) {post : Bool → Prop} (hF : post false) (hT : RSite s → post true) : V_survey_Right s post := by
  have f2 := hfew.aparts; have f3 := hfew.shelves; have f4 := hfew.robots
  unfold V_survey_Right
  refine S_floor_Right (Ite.t rfl hF) (fun hf => Ite.f rfl ?_)
  unfold V_survey_newMaker
  refine Jn.mk (fun t : T16 => MInv s s.Zones.length 0 0 0 (of16 t) ∧ s.Zones.length ≤ 64 ∧ ∀ (i : Nat) z, s.Zones[i]? = some z → RZone s (s.Zones.take i) z)
    (V_loopc k.Zones.1 (fun t : T17 Int => lst t) (fun n (t : T17 Int) => MInv s n 0 0 0 (ofT t) ∧ n ≤ 64 ∧ ∀ (i : Nat) z, i < n → s.Zones[i]? = some z → RZone s (s.Zones.take i) z) rfl ⟨⟨rfl, rfl, rfl, rfl, rfl, fun n => rfl, fun c => rfl, fun c => rfl, fun c => rfl⟩, by omega, fun i z h => by omega⟩ (fun n z t hz ht hI => ?_) (fun t h => ⟨h.1, h.2.1, fun i z hz => h.2.2 i z (List.getElem?_eq_some_iff.1 hz).1 hz⟩)) (fun t1 hI1 => ?_)
  · have kz := k.Zones.2 z (List.mem_of_getElem? hz)
    refine Jn.mk (fun x : T17 Bool => lst x = false → MInv s (n + 1) 0 0 0 (ofT x) ∧ n < 64 ∧ RZone s (s.Zones.take n) z)
      (S_survey_Name kz.Name (Ite.f rfl (fun h => by cases h)) (fun n1 n2 => Ite.t rfl (S_survey_within (Ite.mk (fun h1 => Ite.mk (fun _ h => by cases h) (fun h2 => S_survey_shut kz.Shut.1 (Ite.f rfl (fun h => by cases h)) (fun h3 => Ite.t rfl
        (S_survey_cells (m := ofT t) kz.Cells.1 (Ite.f rfl (fun h => by cases h)) (fun c1 c2 c3 => Ite.t rfl (S_survey_addZone (m := ofT t) k hI.1 hz (fun e he h => ?_) (fun a1 a2 a3 m' hm' _ => ⟨hm', a1, ?_⟩))))))) (fun _ h => by cases h))))) (fun x hx => Ite.mk (fun _ => hF) (fun hx' => ⟨by show w64 (lst t + 1) = _; rw [show lst t = (n : Int) from ht], (hx hx').1, (hx hx').2.1, fun i z' hi hz' => ?_⟩))
    · exfalso; have : (e != 0) = false := h; simp at this; exact he this
    · simp at h1 h2
      exact ⟨⟨n1, n2⟩, a2, c1, h1, h2, h3, a3, c3⟩
    · by_cases e : i = n
      · subst e; rw [hz] at hz'; cases hz'; exact (hx hx').2.2
      · exact hI.2.2 i z' (by omega) hz'
  obtain ⟨hI1, hz64, hzone⟩ := hI1
  refine Jn.mk (fun t : T16 => MInv s s.Zones.length s.Aparts.length 0 0 (of16 t) ∧ ∀ (i : Nat) x, s.Aparts[i]? = some x → 1 ≤ x.A.size ∧ 1 ≤ x.B.size ∧ apB (s.Aparts.take i) x.A x.B = false)
    (V_loopc k.Aparts.1 (fun t : T17 Int => lst t) (fun n (t : T17 Int) => MInv s s.Zones.length n 0 0 (ofT t) ∧ ∀ (i : Nat) x, i < n → s.Aparts[i]? = some x → 1 ≤ x.A.size ∧ 1 ≤ x.B.size ∧ apB (s.Aparts.take i) x.A x.B = false) rfl (by exact ⟨hI1, fun i z h => by omega⟩) (fun n x t hx ht hI => ?_) (fun t h => ⟨h.1, fun i z hz => h.2 i z (List.getElem?_eq_some_iff.1 hz).1 hz⟩)) (fun t2 hI2 => ?_)
  · refine S_survey_addApart (m := ofT t) k (by omega) hI.1 hx (fun e he => Ite.t (by simpa using he) hF) (fun a m' hm' => Ite.f rfl ⟨by show w64 (lst t + 1) = _; rw [show lst t = (n : Int) from ht], hm', fun i x' hi hx' => ?_⟩)
    by_cases e : i = n
    · subst e; rw [hx] at hx'; cases hx'; exact a
    · exact hI.2 i x' (by omega) hx'
  obtain ⟨hI2, hap⟩ := hI2
  refine Jn.mk (fun t : T16 => MInv s s.Zones.length s.Aparts.length s.Shelves.length 0 (of16 t) ∧ s.Shelves.length ≤ 3000 ∧ ∀ (i : Nat) x, s.Shelves[i]? = some x → isC s.Floor x.Cell = true ∧ standK (kd s.Floor x.Cell) = true ∧ shAt (s.Shelves.take i) x.Cell < 0)
    (V_loopc k.Shelves.1 (fun t : T17 Int => lst t) (fun n (t : T17 Int) => MInv s s.Zones.length s.Aparts.length n 0 (ofT t) ∧ n ≤ 3000 ∧ ∀ (i : Nat) x, i < n → s.Shelves[i]? = some x → isC s.Floor x.Cell = true ∧ standK (kd s.Floor x.Cell) = true ∧ shAt (s.Shelves.take i) x.Cell < 0) rfl (by exact ⟨hI2, by omega, fun i z h => by omega⟩) (fun n x t hx ht hI => ?_) (fun t h => ⟨h.1, h.2.1, fun i z hz => h.2.2 i z (List.getElem?_eq_some_iff.1 hz).1 hz⟩)) (fun t3 hI3 => ?_)
  · refine S_survey_addShelf (m := ofT t) k (by omega) hI.1 hx (fun e he => Ite.t (by simpa using he) hF) (fun l a m' hm' => Ite.f rfl ⟨by show w64 (lst t + 1) = _; rw [show lst t = (n : Int) from ht], hm', by omega, fun i x' hi hx' => ?_⟩)
    by_cases e : i = n
    · subst e; rw [hx] at hx'; cases hx'; exact a
    · exact hI.2.2 i x' (by omega) hx'
  obtain ⟨hI3, hs3, hsh⟩ := hI3
  refine Jn.mk (fun t : T16 => MAll s (of16 t) ∧ s.Robots.length ≤ 200 ∧ ∀ (i : Nat) x, s.Robots[i]? = some x → isC s.Floor x.Cell = true ∧ 0 ≤ x.Charge ∧ x.Charge ≤ 1000000 ∧ kd s.Floor x.Cell ≠ 0 ∧ rbAt (s.Robots.take i) x.Cell = false)
    (V_loopc k.Robots.1 (fun t : T17 Int => lst t) (fun n (t : T17 Int) => MInv s s.Zones.length s.Aparts.length s.Shelves.length n (ofT t) ∧ n ≤ 200 ∧ ∀ (i : Nat) x, i < n → s.Robots[i]? = some x → isC s.Floor x.Cell = true ∧ 0 ≤ x.Charge ∧ x.Charge ≤ 1000000 ∧ kd s.Floor x.Cell ≠ 0 ∧ rbAt (s.Robots.take i) x.Cell = false) rfl (by exact ⟨hI3, by omega, fun i z h => by omega⟩) (fun n x t hx ht hI => ?_) (fun t h => ⟨h.1, h.2.1, fun i z hz => h.2.2 i z (List.getElem?_eq_some_iff.1 hz).1 hz⟩)) (fun t4 hI4 => ?_)
  · refine S_survey_addRobot (m := ofT t) k (by omega) hI.1 hx (fun e he => Ite.t (by simpa using he) hF) (fun l a m' hm' => Ite.f rfl ⟨by show w64 (lst t + 1) = _; rw [show lst t = (n : Int) from ht], hm', by omega, fun i x' hi hx' => ?_⟩)
    by_cases e : i = n
    · subst e; rw [hx] at hx'; cases hx'; exact a
    · exact hI.2.2 i x' (by omega) hx'
  obtain ⟨hI4, hr2, hrb⟩ := hI4
  refine Jn.mk' (S_survey_beside (m := of16 t4) k hf hI4 (fun x hx => ?_) (fun i hi => Ite.f (by simp) hF) (fun hbs => Ite.t (by decide) ?_))
  · obtain ⟨i, hi⟩ := List.getElem?_of_mem hx
    exact (hsh i x hi).1
  · unfold V_survey_maker_crowded
    have hzs : (of16 t4).site.Zones = s.Zones := hI4.zs'
    show V_slices_IndexFunc_api_Zone_api_Zone__survey_maker_crowded_1 (of16 t4).site.Zones (of16 t4) _
    rw [hzs]
    unfold V_slices_IndexFunc_api_Zone_api_Zone__survey_maker_crowded_1
    refine V_fidxc k.Zones.1 (fun z => decide ((z.Cells.countP (blankB s) : Nat) < z.Keep)) (T := fun z post => V_survey_maker_crowded_1 z (of16 t4) post) (fun z hz {q} hq => S_survey_crowded1 k hI4 (k.Zones.2 z hz).Cells.1 (fun c hc => ?_) hq) (Ite.mk (fun h => ?_) (fun _ => hF))
    · obtain ⟨i, hi⟩ := List.getElem?_of_mem hz
      exact ((hzone i z hi).cell c hc).1
    · unfold V_survey_maker_charger
      have hfl : (of16 t4).site.Floor = s.Floor := hI4.fl
      show V_slices_Contains_int_int (of16 t4).site.Floor.Kind 3 _
      rw [hfl]
      refine S_slices_Contains k.Floor.Kind.1 ?_
      cases hch : s.Floor.Kind.contains 3
      · exact hF
      · refine hT ⟨hf, hz64, hzone, hs3, hr2, hap, hsh, hrb, fun z hz => ?_, hbs, hch⟩
        rcases fidx_cases (fun z : ApiZone => decide (((z.Cells.countP (blankB s) : Nat) : Int) < z.Keep)) s.Zones with ⟨i, y, hy, e, _⟩ | ⟨e, hb⟩
        · exfalso; rw [e] at h; have := of_decide_eq_true h; omega
        · have := hb z hz; simp at this; exact this
end Go.Taq

/- The mathematics, part NC: what may stand where (rules): cells, classes, who is carried, what stands at a cell, rooms. -/
set_option linter.unusedVariables false
set_option linter.unusedSimpArgs false
namespace Go.Taq
open Go

def carr (st : ApiState) (i : Int) : Int := if i < 0 then -1 else fidx (fun r : ApiRobot => r.Load == i) st.Robots
def carB (st : ApiState) (i : Int) : Bool := decide (0 ≤ carr st i)
theorem carB_any {st : ApiState} {i : Int} (h : 0 ≤ i) : carB st i = st.Robots.any fun r => r.Load == i := by
  unfold carB carr
  rw [if_neg (by omega)]
  have := fidx_any (p := fun r : ApiRobot => r.Load == i) (xs := st.Robots)
  rw [← this]
/-- the shelf that stands at a cell, or -1 -/
def atP (st : ApiState) (c : Int) (i : Nat) : Bool := (st.Shelves.getD i 0 == c) && !carB st i
def atS (st : ApiState) (c : Int) : Int := fnat (atP st c) st.Shelves.length
theorem fnat_step {p : Nat → Bool} {a n : Nat} (h : a < n) : fnat (fun i => decide (a ≤ i) && p i) n = if p a = true then (a : Int) else fnat (fun i => decide (a + 1 ≤ i) && p i) n := by
  by_cases hp : p a = true
  · rw [if_pos hp]
    exact fnat_some h (by simp [hp]) (fun j hj => by simp; intro h'; omega)
  · rw [if_neg hp]
    have : (fun i => decide (a ≤ i) && p i) = fun i => decide (a + 1 ≤ i) && p i := by
      funext i
      by_cases e : i = a
      · subst e; simp [hp]
      · have : (a ≤ i) = (a + 1 ≤ i) := by simp; omega
        simp only [this]
    rw [this]
theorem fnat_zero (p : Nat → Bool) (n : Nat) : fnat (fun i => decide (0 ≤ i) && p i) n = fnat p n := by simp
theorem fnat_end (p : Nat → Bool) (n : Nat) : fnat (fun i => decide (n ≤ i) && p i) n = -1 := fnat_none fun i hi => by simp; intro; omega

section
variable {st : ApiState}
theorem S_rules_Carried (k : OkApiState st) {i : Int} {post : Int → Prop} (hp : post (carr st i)) : V_rules_Carried st i post := by
  unfold V_rules_Carried
  refine Ite.mk (fun h => ?_) (fun h => ?_)
  · unfold carr at hp; rw [if_pos (by simpa using h)] at hp; exact hp
  · unfold carr at hp; rw [if_neg (by simpa using h)] at hp
    unfold V_slices_IndexFunc_api_Robot_api_Robot__rules_Carried_1
    refine V_fidxc k.Robots.1 (fun r : ApiRobot => r.Load == i) (T := fun r post => V_rules_Carried_1 r i post) (fun r _ q hq => ?_) hp
    unfold V_rules_Carried_1; exact hq
end
end Go.Taq

/- The mathematics, part ND: what is near, which shelves disturb each other, dropping (rules). -/
set_option linter.unusedVariables false
set_option linter.unusedSimpArgs false
namespace Go.Taq
open Go

section

end
end Go.Taq

/- The mathematics, part NE: dropping; the rules' statements: bounds, examples. -/
set_option linter.unusedVariables false
set_option linter.unusedSimpArgs false
namespace Go.Taq
open Go

section

theorem getD_of {l : List Int} {n : Nat} {x : Int} (h : l[n]? = some x) : l.getD n 0 = x := by rw [List.getD_eq_getElem?_getD, h]; rfl
end

/-- a right small site, and a state with as many shelves, at cells -/
structure FitS (s : ApiSite) (st : ApiState) : Prop where
  r : RSite s
  few : FewS s 60 20
  rob : st.Robots.length ≤ 20
  len : st.Shelves.length = s.Shelves.length
  cell : ∀ c, c ∈ st.Shelves → isC s.Floor c = true
theorem FitS.sl {s : ApiSite} {st : ApiState} (h : FitS s st) : st.Shelves.length ≤ 20 := by have := h.few.shelves; have := h.len; omega
/-! ## the examples -/
theorem ok_ml {α : Type} {X : α → Prop} {xs : List α} (h1 : xs.length ≤ 1000) (h2 : ∀ x, x ∈ xs → X x) : OkL X xs := ⟨Nat.le_trans h1 (by decide), h2⟩
theorem i64_of {x : Int} (h : -1000000 ≤ x ∧ x ≤ 1000000) : I64 x := by constructor <;> omega
end Go.Taq
