/- The mathematics, several parts in one text. -/
import Derived.Test.YtbkpekodmhkbdaaGreatBK
import Derived.Test.YtbkpekodmhkbdaaGreatAG
/- The mathematics, part BL: the reference's Check (taquinref21.Check). -/
set_option linter.unusedVariables false
set_option linter.unusedSimpArgs false
namespace Go.Taq
open Go

section

end
end Go.Taq

/- The mathematics, part BM: right homes exactly, in the program and in the reference. -/
set_option linter.unusedVariables false
set_option linter.unusedSimpArgs false
namespace Go.Taq
open Go

theorem nodup_of_len : ∀ {a b : List Int}, a.Nodup → (∀ x, x ∈ a → x ∈ b) → b.length ≤ a.length → b.Nodup
  | [], b, _, _, h => by
    have : b = [] := List.length_eq_zero_iff.1 (by simpa using h)
    subst this; exact .nil
  | x :: a, b, hn, h, hl => by
    have hn' := List.nodup_cons.1 hn
    have hx : x ∈ b := h x (by simp)
    have hbl := List.length_pos_of_mem hx
    have hsub : ∀ y, y ∈ a → y ∈ b.erase x := fun y hy => by
      have hne : y ≠ x := fun e => hn'.1 (e ▸ hy)
      exact (List.mem_erase_of_ne hne).2 (h y (by simp [hy]))
    have hbe := List.length_erase_of_mem hx
    have h1 := nodup_of_len (a := a) (b := b.erase x) hn'.2 hsub (by simp at hl; omega)
    have hx2 : x ∉ b.erase x := fun hm => by
      have h2 := nodup_same (a := a) (b := (b.erase x).erase x) hn'.2 (fun y hy => by
        have hne : y ≠ x := fun e => hn'.1 (e ▸ hy)
        exact (List.mem_erase_of_ne hne).2 (hsub y hy))
      rw [List.length_erase_of_mem hm] at h2
      have := List.length_pos_of_mem hm
      simp at hl; omega
    exact (List.perm_cons_erase hx).nodup_iff.2 (List.nodup_cons.2 ⟨hx2, h1⟩)
theorem S_region_OfL {l : List Int} (hl : l.length ≤ 1000) {post : List Int → Prop} (hp : ∀ l' : List Int, (l'.length = l.length ↔ l.Nodup ∧ ∀ c, c ∈ l → 0 ≤ c ∧ c < 4096) → post l') : V_region_Of l post := by
  unfold V_region_Of
  refine S_clone_i hl ?_
  unfold V_slices_DeleteFunc_int_int__o0_region_Of_1 V_slices_IndexFunc_int_int__region_Of_1
  have hm : l.length ≤ maxLen := by unfold maxLen; omega
  have hT : ∀ c, ∀ {q : Bool → Prop}, q (!(decide (c ≥ 0) && decide (c < 4096))) → V_region_Of_1 c q := fun c {q} hq => by
    unfold V_region_Of_1 V_region_isCell
    exact Jand2 hq
  refine V_fidxc hm (fun c => !(decide (c ≥ 0) && decide (c < 4096))) (T := fun c q => V_region_Of_1 c q) (fun c _ q hq => hT c hq) ?_
  refine V_delrest hm 0 (fun c => !(decide (c ≥ 0) && decide (c < 4096))) (T := fun c q => V_region_Of_1 c q) (fun c _ q hq => hT c hq) (post := fun y => V_slices_Sort_int_int__o0 y _) ?_
  unfold V_slices_Sort_int_int__o0
  have h1 := List.length_filter_le (fun c : Int => !(!(decide (c ≥ 0) && decide (c < 4096)))) l
  refine ⟨by omega, S_CompactI (by rw [(List.mergeSort_perm _ _).length_eq]; omega) (hp _ ?_)⟩
  generalize hfl : l.filter (fun c : Int => !(!(decide (c ≥ 0) && decide (c < 4096)))) = fl at h1 ⊢
  have hfm : ∀ c, c ∈ fl ↔ c ∈ l ∧ 0 ≤ c ∧ c < 4096 := fun c => by rw [← hfl, List.mem_filter]; simp
  generalize hms : fl.mergeSort (fun a b => decide (a ≤ b)) = ms
  have hperm : ms.Perm fl := hms ▸ List.mergeSort_perm _ _
  have hsrt : ms.Pairwise (fun a b => a < b ∨ a = b) := by
    rw [← hms]
    refine (List.pairwise_mergeSort (fun a b c h1 h2 => ?_) (fun a b => ?_) fl).imp (fun h => ?_)
    · simp at h1 h2 ⊢; omega
    · simp; omega
    · have := of_decide_eq_true h; omega
  have hlt := cmI_lt (lt := fun a b : Int => a < b) (fun x y z h1 h2 => by rcases h1 with h | h <;> omega) hsrt ms.length (Nat.le_refl _)
  have hnd : (cmI ms ms.length).Nodup := hlt.imp (fun h => by omega)
  have hmem : ∀ x, x ∈ cmI ms ms.length ↔ x ∈ l ∧ 0 ≤ x ∧ x < 4096 := fun x => by
    rw [cmI_mem ms.length (Nat.le_refl _), List.take_length, hperm.mem_iff, hfm]
  constructor
  · intro h
    have hn := nodup_of_len hnd (fun x hx => ((hmem x).1 hx).1) (by omega)
    refine ⟨hn, fun c hc => Classical.byContradiction fun hne => ?_⟩
    have := nodup_same hnd (b := l.erase c) (fun x hx => by
      have hx' := (hmem x).1 hx
      have : x ≠ c := fun e => hne (e ▸ hx'.2)
      exact (List.mem_erase_of_ne this).2 hx'.1)
    rw [List.length_erase_of_mem hc] at this
    have := List.length_pos_of_mem hc
    omega
  · rintro ⟨hn, hb⟩
    have := nodup_same hn (fun x hx => (hmem x).2 ⟨hx, hb x hx⟩)
    have := cmI_len (xs := ms) ms.length
    have := hperm.length_eq
    omega
def badH (s : ApiSite) (st : ApiState) (c : Int) : Bool := !isC s.Floor c || kd s.Floor c == 0 || st.Dead.contains c || st.People.contains c || st.Robots.any fun r => r.Dead && r.Cell == c
/-- right homes -/
structure HomesR (s : ApiSite) (st : ApiState) (homes : List Int) : Prop where
  len : homes.length = st.Robots.length
  nd : homes.Nodup
  ok : ∀ c, c ∈ homes → badH s st c = false
section
variable {s : ApiSite} {st : ApiState} {homes : List Int}
theorem S_bank_RightX (hf : RF s.Floor) (hz : Sz st) (hh : homes.length ≤ 1000) {post : Bool → Prop} (hF : ¬ HomesR s st homes → post false) (hT : HomesR s st homes → post true) : V_bank_Right s st homes post := by
  have q2 := hz.rb; have q3 := hz.pp; have q4 := hz.dd
  have hn4 := hf.len.1
  unfold V_bank_Right
  refine Jn.mk (fun x => x = false ↔ homes.length = st.Robots.length ∧ homes.Nodup ∧ ∀ c, c ∈ homes → 0 ≤ c ∧ c < 4096) (Ite.mk (fun h => ?_) (fun h => S_region_OfL hh fun l' hl' => ?_)) (fun x hx => Ite.mk (fun h => hF fun hr => ?_) (fun h => ?_))
  · have : homes.length ≠ st.Robots.length := fun e => by rw [e] at h; simp at h
    show (true = false) ↔ _
    exact ⟨fun h => (by cases h), fun h => absurd h.1 this⟩
  · have h' : homes.length = st.Robots.length := by simp at h; omega
    have e : ((l'.length : Int) != (homes.length : Int)) = false ↔ l'.length = homes.length := by simp; omega
    show ((l'.length : Int) != (homes.length : Int)) = false ↔ _
    rw [e, hl']
    exact ⟨fun h => ⟨h', h⟩, fun h => h.2⟩
  · have : x = false := hx.2 ⟨hr.len, hr.nd, fun c hc => by
      have := hr.ok c hc
      unfold badH at this
      simp only [Bool.or_eq_false_iff, Bool.not_eq_false'] at this
      have := isC_iff.1 this.1.1.1.1
      omega⟩
    rw [this] at h; cases h
  obtain ⟨hl, hnd, hrg⟩ := hx.1 h
  refine Jn.mk (fun l => l = st.Dead ++ st.People) (S_clone_i q4 ⟨by omega, rfl⟩) (fun l hl2 => ?_)
  refine Jn.mk (fun l => l.length ≤ 3000 ∧ ∀ c, l.contains c = (st.Dead.contains c || st.People.contains c || st.Robots.any fun r => r.Dead && r.Cell == c)) (V_loopc (xs := st.Robots) (by unfold maxLen; omega) (fun t : List Int × Int => t.2) (fun i t => t.1.length ≤ 2000 + i ∧ ∀ c, t.1.contains c = (st.Dead.contains c || st.People.contains c || (st.Robots.take i).any fun r => r.Dead && r.Cell == c)) rfl ⟨by rw [hl2, List.length_append]; omega, fun c => by rw [hl2]; simp⟩ (fun i r t hx ht hI => ?_) (fun t h => ⟨by have := h.1; omega, by have := h.2; rw [List.take_length] at this; exact this⟩)) (fun l hl3 => ?_)
  · have := (List.getElem?_eq_some_iff.1 hx).1
    obtain ⟨hI1, hI2⟩ := hI
    rw [ht]
    refine Jn.mk (fun l => l.length ≤ 2000 + (i + 1) ∧ ∀ c, l.contains c = (st.Dead.contains c || st.People.contains c || (st.Robots.take (i + 1)).any fun r => r.Dead && r.Cell == c)) (Ite.mk (fun h => ⟨by simp; omega, by simp; omega, fun c => ?_⟩) (fun h => ⟨by omega, fun c => ?_⟩)) (fun l h => ⟨rfl, h⟩)
    · have e := hI2 c
      rw [take_succ hx, List.any_append, ← Bool.or_assoc, ← e]
      have h' : r.Dead = true := h
      have e3 : (t.1 ++ [r.Cell]).contains c = (t.1.contains c || r.Cell == c) := by
        rw [Bool.eq_iff_iff, Bool.or_eq_true, beq_iff_eq, List.contains_iff_mem, List.contains_iff_mem, List.mem_append, List.mem_singleton, eq_comm (a := c)]
      show (t.1 ++ [r.Cell]).contains c = (t.1.contains c || ((r.Dead && r.Cell == c) || false))
      rw [e3, h', Bool.true_and, Bool.or_false]
    · have h' : r.Dead = false := h
      rw [take_succ hx, List.any_append, ← Bool.or_assoc, ← hI2 c]; simp [h']
  · unfold V_slices_ContainsFunc_int_int__bank_Right_1 V_slices_IndexFunc_int_int__bank_Right_1
    refine V_fidxc (by unfold maxLen; omega) (fun c => badH s st c) (T := fun c q => V_bank_Right_1 c s l q) (fun c _ q hq => ?_) ?_
    · unfold V_bank_Right_1
      refine Jn.mk' ?_
      unfold badH at hq
      refine Ite.mk (fun h1 => ?_) (fun h1 => Ite.mk (fun h2 => ?_) (fun h2 => ?_))
      · have : isC s.Floor c = false := by unfold isC; have : ¬ 0 ≤ c := by simp at h1; omega
                                           rw [decide_eq_false this]; rfl
        rw [this] at hq; exact hq
      · have : isC s.Floor c = false := by unfold isC; have : ¬ c < (s.Floor.Kind.length : Int) := by simp at h2; omega
                                           rw [decide_eq_false this]; simp
        rw [this] at hq; exact hq
      · have hc : isC s.Floor c = true := isC_iff.2 ⟨by simp at h1; omega, by simp at h2; omega⟩
        rw [hc] at hq
        refine ⟨_, idx_kd hc, Ite.mk (fun h3 => ?_) (fun h3 => S_slices_Contains (by unfold maxLen; omega) ?_)⟩
        · rw [h3] at hq; exact hq
        · rw [h3] at hq
          rw [hl3.2 c]
          simpa using hq
    · have e := fidx_any (p := fun c => badH s st c) (xs := homes)
      show post (!decide (fidx (fun c => badH s st c) homes ≥ 0))
      rw [e]
      cases e2 : homes.any (fun c => badH s st c) with
      | false =>
        refine hT ⟨hl, hnd, fun c hc => ?_⟩
        rw [List.any_eq_false] at e2
        simpa using e2 c hc
      | true =>
        refine hF fun hr => ?_
        obtain ⟨c, hc, hb⟩ := List.any_eq_true.1 e2
        rw [hr.ok c hc] at hb; cases hb
end
end Go.Taq

/- The mathematics, part BO: right sites are found right (survey.Right). -/
set_option linter.unusedVariables false
set_option linter.unusedSimpArgs false
namespace Go.Taq
open Go

theorem S_survey_shutT {l : List ApiSpan} (hm : l.length ≤ maxLen) {post : Bool → Prop} (h : spansFrom 0 l) (hT : post true) : V_survey_shut l post := by
  unfold V_survey_shut
  refine Jn.mk (fun _ => True) (V_loopc hm (fun s : Int × Int => s.2) (fun n (s : Int × Int) => spansFrom s.1 (l.drop n)) rfl h (fun n x t hx ht hI => ?_) (fun t h => trivial)) (fun _ _ => hT)
  have hd : l.drop n = x :: l.drop (n + 1) := by
    obtain ⟨hlt, he⟩ := List.getElem?_eq_some_iff.1 hx
    rw [List.drop_eq_getElem_cons hlt, he]
  rw [hd] at hI
  obtain ⟨h1, h2, h3, h4⟩ := hI
  refine Jor3 (Ite.f ?_ ⟨by rw [ht], h4⟩)
  simp only [Bool.or_eq_false_iff, decide_eq_false_iff_not]
  omega
theorem S_survey_cellsT {m : SurveyMaker} {l : List Int} (hm : l.length ≤ maxLen) {post : Bool → Prop} (hne : l ≠ []) (hc : ∀ c, c ∈ l → isC m.site.Floor c = true) (ha : ∀ (i : Nat) x y, l[i]? = some x → l[i + 1]? = some y → x < y) (hT : post true) : V_survey_maker_cells m l post := by
  unfold V_survey_maker_cells
  have hl : 0 < l.length := List.length_pos_iff.2 hne
  refine Jn.mk (fun _ => True) (V_loopc hm (fun s => s) (fun n _ => True) rfl trivial (fun n c t hx ht _ => ?_) (fun t _ => trivial)) (fun _ _ => by
    have : decide ((l.length : Int) > 0) = true := decide_eq_true (by omega)
    rw [this]; exact hT)
  refine S_survey_kindAt ?_
  rw [if_pos (hc c (List.mem_of_getElem? hx))]
  refine Jn.mk (fun b => b = false) (Ite.t rfl (Ite.mk (fun h => ?_) (fun h => rfl))) (fun b hb => Ite.f hb ⟨by rw [ht], trivial⟩)
  simp at h
  have hn := (List.getElem?_eq_some_iff.1 hx).1
  have hx' : l[n - 1]? = some (l[n - 1]'(by omega)) := List.getElem?_eq_getElem _
  have e1 : w64 (t - 1) = ((n - 1 : Nat) : Int) := by rw [ht, w64_eq (by omega) (by unfold maxLen at hm; omega)]; omega
  refine ⟨l[n - 1]'(by omega), by rw [e1]; exact idx_of rfl hx', ?_⟩
  have := ha (n - 1) _ c hx' (by rw [show n - 1 + 1 = n by omega]; exact hx)
  exact decide_eq_false (by omega)
section
variable {s : ApiSite}
theorem S_survey_addZoneT (k : OkApiSite s) {n : Nat} {m : SurveyMaker} (hI : MInv s n 0 0 0 m) {z : ApiZone} (hz : s.Zones[n]? = some z) {post : Int × SurveyMaker → Prop} (h64 : n < 64) (hr : RZone s (s.Zones.take n) z) (hT : ∀ m', MInv s (n + 1) 0 0 0 m' → post (0, m')) : V_survey_maker_addZone__p0 z m post := by
  have kz := k.Zones.2 z (List.mem_of_getElem? hz)
  have hn := (List.getElem?_eq_some_iff.1 hz).1
  unfold V_survey_maker_addZone__p0
  have hlen : m.site.Zones.length = n := by rw [hI.zs]; simp; omega
  refine Ite.f (by rw [hI.names, List.any_eq_false]; intro y hy; rw [hr.name y hy]; simp) (Ite.f (by rw [hlen]; exact decide_eq_false (by omega)) ?_)
  refine Jn.mk (fun _ => True) (V_loopc kz.Cells.1 (fun t => t) (fun i _ => True) rfl trivial (fun i c t hc ht _ => ?_) (fun t h => trivial)) (fun _ _ => ?_)
  · obtain ⟨c1, c2, c3⟩ := hr.cell c (List.mem_of_getElem? hc)
    refine S_survey_kindAt ?_
    rw [hI.fl, if_pos c1]
    refine Jn.mk (fun b => b = false) (S_survey_zoned (Ite.t c2 ?_)) (fun b hb => Ite.f hb ⟨by rw [ht], trivial⟩)
    rw [hI.zoned]; exact c3
  · refine Jn.mk (fun zm => ∀ c, (lk zm c).getD false = (zAt (s.Zones.take n) c || z.Cells.contains c))
      (V_loopc kz.Cells.1 (fun t : List (Int × Bool) × Int => t.2) (fun i t => ∀ c, (lk t.1 c).getD false = (zAt (s.Zones.take n) c || (z.Cells.take i).contains c)) rfl (fun c => by simp [hI.zoned]) (fun i x t hx ht h => ⟨by rw [ht], fun c => ?_⟩) (fun t h c => by have := h c; rwa [List.take_length] at this)) (fun zm hzm => ⟨by rw [hlen]; simp; omega, ?_⟩)
    · rw [lk_upd, take_succ hx]
      by_cases e : x = c
      · subst e; simp
      · rw [if_neg e, h c]
        simp [show ¬ c = x from fun h => e h.symm]
    · refine hT _ ⟨hI.fl, ?_, hI.aps, hI.sh, hI.rs, fun nm => ?_, fun c => ?_, hI.shelf, hI.robot⟩
      · show m.site.Zones ++ [z] = _; rw [hI.zs, take_succ hz]
      · show (lk (upd m.names z.Name _) nm).isSome = _
        rw [lk_upd, take_succ hz, List.any_append]
        by_cases e : z.Name = nm
        · rw [if_pos e]; simp [seq_eq.2 e]
        · rw [if_neg e, hI.names]
          have : seq z.Name nm = false := by rw [Bool.eq_false_iff]; exact fun h => e (seq_eq.1 h)
          simp [this]
      · show (lk zm c).getD false = _
        rw [hzm c, take_succ hz, zAt_app]
theorem S_survey_addApartT (k : OkApiSite s) (hf : s.Aparts.length ≤ 1000000) {nz n : Nat} {m : SurveyMaker} (hI : MInv s nz n 0 0 m) {x : ApiApart} (hx : s.Aparts[n]? = some x) {post : Int × SurveyMaker → Prop}
    (h : apB (s.Aparts.take n) x.A x.B = false) (hn : nmB x.A = true ∧ nmB x.B = true) (hT : ∀ m', MInv s nz (n + 1) 0 0 m' → post (0, m')) : V_survey_maker_addApart__p0 x m post := by
  have kx := k.Aparts.2 x (List.mem_of_getElem? hx)
  have hnl := (List.getElem?_eq_some_iff.1 hx).1
  have hm : (s.Aparts.take n).length ≤ maxLen := Nat.le_trans (by simp; omega) k.Aparts.1
  unfold V_survey_maker_addApart__p0
  refine Jn.mk (fun b => b = false) (S_survey_NameX kx.A (Ite.t hn.1 (S_survey_NameX kx.B (by rw [hn.2]; rfl)))) (fun b hb => Ite.f hb ?_)
  rw [hI.aps]
  refine S_survey_Apart hm (Ite.f h ⟨by simp; omega, hT _ ⟨hI.fl, hI.zs, ?_, hI.sh, hI.rs, hI.names, hI.zoned, hI.shelf, hI.robot⟩⟩)
  show s.Aparts.take n ++ [x] = _; rw [take_succ hx]
theorem S_survey_addShelfT (k : OkApiSite s) (hs : s.Shelves.length ≤ 1000000) {nz na n : Nat} {m : SurveyMaker} (hI : MInv s nz na n 0 m) {x : ApiShelf} (hx : s.Shelves[n]? = some x) {post : Int × SurveyMaker → Prop} (h3 : n < 3000)
    (h : isC s.Floor x.Cell = true ∧ standK (kd s.Floor x.Cell) = true ∧ shAt (s.Shelves.take n) x.Cell < 0) (hnm : (seq x.Class ByteArray.empty || nmB x.Class) = true) (hT : ∀ m', MInv s nz na (n + 1) 0 m' → post (0, m')) : V_survey_maker_addShelf__p0 x m post := by
  have kx := k.Shelves.2 x (List.mem_of_getElem? hx)
  have hn := (List.getElem?_eq_some_iff.1 hx).1
  have hlen : m.site.Shelves.length = n := by rw [hI.sh]; simp; omega
  obtain ⟨hc, h1, h2'⟩ := h
  unfold V_survey_maker_addShelf__p0
  refine Jn.mk (fun b => b = false) (Ite.mk (fun h => rfl) (fun h => S_survey_NameX kx.Class (by rw [h] at hnm; rw [show nmB x.Class = true by simpa using hnm]; rfl))) (fun b hb => Ite.f hb (S_survey_kindAt ?_))
  rw [hI.fl, if_pos hc]
  refine Ite.f rfl (S_survey_stands (Ite.f (by rw [h1]; rfl) (Ite.f ?_ (Ite.f ?_ ?_))))
  · rw [hI.shelf, if_neg (by omega)]; rfl
  · rw [hlen]; exact decide_eq_false (by omega)
  · rw [hlen]
    refine ⟨by simp; omega, hT _ ⟨rfl, hI.zs, hI.aps, ?_, hI.rs, hI.names, hI.zoned, fun c => ?_, hI.robot⟩⟩
    · show m.site.Shelves ++ [x] = _; rw [hI.sh, take_succ hx]
    · show lk (upd m.shelf x.Cell (n : Int)) c = _
      rw [lk_upd, take_succ hx, shAt_app]
      have hl : (s.Shelves.take n).length = n := by simp; omega
      by_cases e : x.Cell = c
      · subst e
        have e0 : ¬ 0 ≤ shAt (s.Shelves.take n) x.Cell := by omega
        simp only [if_neg e0, if_true, hl]
        rw [if_pos (by omega)]
      · rw [if_neg e, if_neg e, hI.shelf c]
        by_cases h : 0 ≤ shAt (s.Shelves.take n) c
        · rw [if_pos h, if_pos h, if_pos h]
        · rw [if_neg h, if_neg h, if_neg (by omega)]
/-- right sites, exactly: what is right is found right -/
theorem S_survey_RightT (k : OkApiSite s) (ha : s.Aparts.length ≤ 1000000) (hr : RSite s) (hn : RNames s) {post : Bool → Prop} (hp : post true) : V_survey_Right s post := by
  have r2 := hr.r2; have sh3 := hr.sh3
  unfold V_survey_Right
  refine S_floor_RightT hr.fl (Ite.f rfl ?_)
  unfold V_survey_newMaker
  refine Jn.mk (fun t : T16 => MInv s s.Zones.length 0 0 0 (of16 t))
    (V_loopc k.Zones.1 (fun t : T17 Int => lst t) (fun n (t : T17 Int) => MInv s n 0 0 0 (ofT t)) rfl ⟨rfl, rfl, rfl, rfl, rfl, fun n => rfl, fun c => rfl, fun c => rfl, fun c => rfl⟩ (fun n z t hz ht hI => ?_) (fun t h => h)) (fun t1 hI1 => ?_)
  · have kz := k.Zones.2 z (List.mem_of_getElem? hz)
    have hzn := hr.zone n z hz
    have h64 : n < 64 := by have := hr.z64; have := (List.getElem?_eq_some_iff.1 hz).1; omega
    refine Jn.mk (fun x : T17 Bool => lst x = false ∧ MInv s (n + 1) 0 0 0 (ofT x)) (S_survey_NameX kz.Name (Ite.t (hn.zn n z hz) (S_survey_within (Ite.t ?_ (Ite.f ?_ (S_survey_shutT kz.Shut.1 hzn.spans (Ite.t rfl (S_survey_cellsT (m := ofT t) kz.Cells.1 hzn.ne (fun c hc => by rw [hI.fl]; exact (hzn.cell c hc).1) hzn.asc (Ite.t rfl (S_survey_addZoneT (m := ofT t) k hI hz h64 hzn (fun m' hm' => ⟨rfl, hm'⟩)))))))))))
      (fun x hx => Ite.f hx.1 ⟨by show w64 (lst t + 1) = _; rw [show lst t = (n : Int) from ht], hx.2⟩)
    · have := hzn.sp; simp; omega
    · have := hzn.keep; simp; omega
  refine Jn.mk (fun t : T16 => MInv s s.Zones.length s.Aparts.length 0 0 (of16 t))
    (V_loopc k.Aparts.1 (fun t : T17 Int => lst t) (fun n (t : T17 Int) => MInv s s.Zones.length n 0 0 (ofT t)) rfl (by exact hI1) (fun n x t hx ht hI => ?_) (fun t h => h)) (fun t2 hI2 => ?_)
  · exact S_survey_addApartT (m := ofT t) k ha hI hx (hr.ap n x hx).2.2 (hn.an n x hx) (fun m' hm' => Ite.f rfl ⟨by show w64 (lst t + 1) = _; rw [show lst t = (n : Int) from ht], hm'⟩)
  refine Jn.mk (fun t : T16 => MInv s s.Zones.length s.Aparts.length s.Shelves.length 0 (of16 t))
    (V_loopc k.Shelves.1 (fun t : T17 Int => lst t) (fun n (t : T17 Int) => MInv s s.Zones.length s.Aparts.length n 0 (ofT t)) rfl (by exact hI2) (fun n x t hx ht hI => ?_) (fun t h => h)) (fun t3 hI3 => ?_)
  · exact S_survey_addShelfT (m := ofT t) k (by omega) hI hx (by have := (List.getElem?_eq_some_iff.1 hx).1; omega) (hr.sh n x hx) (hn.sn n x hx) (fun m' hm' => Ite.f rfl ⟨by show w64 (lst t + 1) = _; rw [show lst t = (n : Int) from ht], hm'⟩)
  refine Jn.mk (fun t : T16 => MAll s (of16 t))
    (V_loopc k.Robots.1 (fun t : T17 Int => lst t) (fun n (t : T17 Int) => MInv s s.Zones.length s.Aparts.length s.Shelves.length n (ofT t)) rfl (by exact hI3) (fun n x t hx ht hI => ?_) (fun t h => h)) (fun t4 hI4 => ?_)
  · exact S_survey_addRobotT (m := ofT t) k (by omega) hI hx (by have := (List.getElem?_eq_some_iff.1 hx).1; omega) (hr.rb n x hx) (fun m' hm' => Ite.f rfl ⟨by show w64 (lst t + 1) = _; rw [show lst t = (n : Int) from ht], hm'⟩)
  refine Jn.mk (fun b => b = true) (S_survey_beside (m := of16 t4) k hr.fl hI4 (fun x hx => ?_) (fun i hi hb => ?_) (fun hbs => Ite.t (by decide) ?_)) (fun b hb => hb ▸ hp)
  · obtain ⟨i, hi⟩ := List.getElem?_of_mem hx
    exact (hr.sh i x hi).1
  · obtain ⟨d, d0, d1, hb⟩ := hb
    exact absurd hb (hr.apart i d d0 d1)
  · unfold V_survey_maker_crowded
    have hzs : (of16 t4).site.Zones = s.Zones := hI4.zs'
    show V_slices_IndexFunc_api_Zone_api_Zone__survey_maker_crowded_1 (of16 t4).site.Zones (of16 t4) _
    rw [hzs]
    unfold V_slices_IndexFunc_api_Zone_api_Zone__survey_maker_crowded_1
    refine V_fidxc k.Zones.1 (fun z => decide ((z.Cells.countP (blankB s) : Nat) < z.Keep)) (T := fun z post => V_survey_maker_crowded_1 z (of16 t4) post) (fun z hz {q} hq => S_survey_crowded1 k hI4 (k.Zones.2 z hz).Cells.1 (fun c hc => ?_) hq) (Ite.t ?_ ?_)
    · obtain ⟨i, hi⟩ := List.getElem?_of_mem hz
      exact ((hr.zone i z hi).cell c hc).1
    · rcases fidx_cases (fun z : ApiZone => decide (((z.Cells.countP (blankB s) : Nat) : Int) < z.Keep)) s.Zones with ⟨i, y, hy, e, hb, _⟩ | ⟨e, hb⟩
      · exfalso
        have := hr.room y (List.mem_of_getElem? hy)
        have := of_decide_eq_true hb; omega
      · rw [e]; decide
    · unfold V_survey_maker_charger
      have hfl : (of16 t4).site.Floor = s.Floor := hI4.fl
      show V_slices_Contains_int_int (of16 t4).site.Floor.Kind 3 _
      rw [hfl]
      exact S_slices_Contains k.Floor.Kind.1 hr.charger
end
end Go.Taq

/- The mathematics, part BP: BankFewer. -/
set_option linter.unusedVariables false
set_option linter.unusedSimpArgs false
namespace Go.Taq
open Go

theorem sub_erase {α : Type} {xs : List α} {n : Nat} : ([] ++ sub xs 0 (n : Int)) ++ sub xs (((n + 1 : Nat) : Int)) (xs.length : Int) = xs.eraseIdx n := by
  rw [List.nil_append, List.eraseIdx_eq_take_drop_succ]
  unfold sub
  simp only [Int.toNat_natCast, Int.toNat_zero, List.drop_zero, Nat.sub_zero]
  rw [List.take_of_length_le (l := xs.drop (n + 1)) (by simp)]
def upN (n j : Nat) : Nat := if j < n then j else j + 1
def dnI (n : Nat) (i : Int) : Int := if i > n then i - 1 else i
theorem er_get {α : Type} {xs : List α} {n j : Nat} : (xs.eraseIdx n)[j]? = xs[upN n j]? := by
  unfold upN; rw [List.getElem?_eraseIdx]; split <;> rfl
theorem er_getD {α : Type} {xs : List α} {n j : Nat} {d : α} : (xs.eraseIdx n).getD j d = xs.getD (upN n j) d := by
  rw [List.getD_eq_getElem?_getD, List.getD_eq_getElem?_getD, er_get]
theorem up_inj {n j k : Nat} (h : upN n j = upN n k) : j = k := by unfold upN at h; split at h <;> split at h <;> omega
theorem up_ne {n j : Nat} : upN n j ≠ n := by unfold upN; split <;> omega
theorem dn_up {n j : Nat} : dnI n (upN n j : Nat) = j := by unfold dnI upN; split <;> split <;> omega
theorem up_dn {n : Nat} {i : Int} (h0 : 0 ≤ i) (hn : i ≠ n) : ((upN n (dnI n i).toNat : Nat) : Int) = i := by unfold dnI upN; split <;> split <;> omega
theorem dn_inj {n : Nat} {i j : Int} (hi : i ≠ n) (hj : j ≠ n) (h : dnI n i = dnI n j) : i = j := by unfold dnI at h; split at h <;> split at h <;> omega
def rmU (st : ApiState) (n : Nat) : ApiState := { st with Robots := st.Robots.eraseIdx n }
def rmT (s : ApiSite) (n : Nat) : ApiSite := { s with Robots := s.Robots.eraseIdx n }
section
variable {s : ApiSite} {st : ApiState} {homes : List Int} {n : Nat} {r : ApiRobot}
theorem er_any {α : Type} {xs : List α} {r : α} (hx : xs[n]? = some r) {p : α → Bool} (hp : p r = false) : (xs.eraseIdx n).any p = xs.any p := by
  rw [Bool.eq_iff_iff, List.any_eq_true, List.any_eq_true]
  constructor
  · rintro ⟨x, h1, h2⟩
    exact ⟨x, List.mem_of_mem_eraseIdx h1, h2⟩
  · rintro ⟨x, h1, h2⟩
    obtain ⟨i, hi⟩ := List.getElem?_of_mem h1
    refine ⟨x, List.mem_eraseIdx_iff_getElem?.2 ⟨i, fun e => ?_, hi⟩, h2⟩
    subst e; rw [hx] at hi; cases hi; rw [hp] at h2; cases h2
theorem rm_carB (hx : st.Robots[n]? = some r) (hl : r.Load < 0) (j : Nat) : carB (rmU st n) j = carB st j := by
  rw [carB_any (by omega), carB_any (by omega)]
  exact er_any hx (p := fun r => r.Load == (j : Int)) (by simp; omega)
theorem rm_live (hx : st.Robots[n]? = some r) {i : Int} (hi : i ≠ n) : liveB (rmU st n) (dnI n i) = liveB st i := by
  have hn := (List.getElem?_eq_some_iff.1 hx).1
  have hlen : (st.Robots.eraseIdx n).length = st.Robots.length - 1 := List.length_eraseIdx_of_lt hn
  by_cases h0 : 0 ≤ i
  · have h1 := up_dn h0 hi
    have e1 : upN n (dnI n i).toNat = i.toNat := by omega
    have e2 : decide (0 ≤ dnI n i) = decide (0 ≤ i) := by unfold dnI; rw [Bool.eq_iff_iff]; split <;> simp <;> omega
    have e3 : decide (dnI n i < (((rmU st n).Robots.length : Nat) : Int)) = decide (i < (st.Robots.length : Int)) := by
      show decide (dnI n i < (((st.Robots.eraseIdx n).length : Nat) : Int)) = _
      rw [hlen]; unfold dnI; rw [Bool.eq_iff_iff]; split <;> simp <;> omega
    unfold liveB
    rw [e2, e3]
    show (_ && _ && !((st.Robots.eraseIdx n).getD (dnI n i).toNat default).Dead) = _
    rw [er_getD, e1]
  · have : dnI n i = i := by unfold dnI; split <;> omega
    rw [this]
    unfold liveB
    rw [decide_eq_false h0]; rfl
theorem rm_rAt {i : Int} (h0 : 0 ≤ i) (hi : i ≠ n) : rAt (rmU st n) (dnI n i) = rAt st i := by
  have h1 := up_dn h0 hi
  unfold rAt
  show (st.Robots.eraseIdx n).getD (dnI n i).toNat default = _
  rw [er_getD, show upN n (dnI n i).toNat = i.toNat by omega]
theorem rm_home {i : Int} (h0 : 0 ≤ i) (hi : i ≠ n) : (homes.eraseIdx n).getD (dnI n i).toNat 0 = homes.getD i.toNat 0 := by
  have h1 := up_dn h0 hi
  rw [er_getD, show upN n (dnI n i).toNat = i.toNat by omega]
/-- what is barred with a robot less is barred with it -/
theorem rm_avL (hx : st.Robots[n]? = some r) (hl : r.Load < 0) {p p' : List Int} (hh : ∀ i : Int, i ≠ n → hB (sitO s st homes p) i = true → hB (sitO (rmT s n) (rmU st n) (homes.eraseIdx n) p') (dnI n i) = true) {i c : Int} (h0 : 0 ≤ i) (hi : i ≠ n)
    (hc : c ∈ avL (sitO (rmT s n) (rmU st n) (homes.eraseIdx n) p') (dnI n i)) : c ∈ avL (sitO s st homes p) i := by
  have hn := (List.getElem?_eq_some_iff.1 hx).1
  have hlen : (st.Robots.eraseIdx n).length = st.Robots.length - 1 := List.length_eraseIdx_of_lt hn
  have hra : rAt (sitO (rmT s n) (rmU st n) (homes.eraseIdx n) p').st (dnI n i) = rAt (sitO s st homes p).st i := rm_rAt h0 hi
  unfold avL at hc ⊢
  rw [hra, List.mem_filter] at hc
  rw [List.mem_filter]
  refine ⟨?_, hc.2⟩
  rcases List.mem_append.1 hc.1 with h1 | h1
  · refine List.mem_append_left _ ?_
    rcases List.mem_append.1 h1 with h1 | h1
    · exact List.mem_append_left _ h1
    · refine List.mem_append_right _ ?_
      obtain ⟨j, hj, hcj⟩ := List.mem_flatMap.1 h1
      have hj' : j < (st.Robots.eraseIdx n).length := List.mem_range.1 hj
      have hup : upN n j < st.Robots.length := by unfold upN; split <;> omega
      refine List.mem_flatMap.2 ⟨upN n j, List.mem_range.2 hup, ?_⟩
      unfold avF at hcj ⊢
      by_cases e : ((upN n j : Nat) : Int) = i
      · have : (j : Int) = dnI n i := by rw [← e, dn_up]
        rw [if_pos this] at hcj; cases hcj
      · have e' : ¬ (j : Int) = dnI n i := fun h => e (by
          have := up_dn h0 hi
          rw [← h] at this
          simpa using this)
        rw [if_neg e'] at hcj; rw [if_neg e]
        have g1 : (sitO (rmT s n) (rmU st n) (homes.eraseIdx n) p').homes.getD j 0 = (sitO s st homes p).homes.getD (upN n j) 0 := er_getD
        have g2 : (sitO (rmT s n) (rmU st n) (homes.eraseIdx n) p').st.Robots.getD j default = (sitO s st homes p).st.Robots.getD (upN n j) default := er_getD
        rw [g1, g2] at hcj
        rcases List.mem_cons.1 hcj with h | h
        · rw [h]; exact List.mem_cons_self ..
        · refine List.mem_cons_of_mem _ ?_
          by_cases hb : hB (sitO s st homes p) (upN n j : Nat) = true
          · have := hh (upN n j : Nat) (by have := @up_ne n j; omega) hb
            rw [dn_up] at this
            rw [if_pos this] at h; cases h
          · rw [if_neg hb]
            split at h
            · cases h
            · exact h
  · refine List.mem_append_right _ ?_
    split at h1
    · rename_i hld
      rw [if_pos hld]
      obtain ⟨j, hj, hcj⟩ := List.mem_flatMap.1 h1
      refine List.mem_flatMap.2 ⟨j, hj, ?_⟩
      have hcb := rm_carB hx hl j
      unfold carB at hcb
      unfold avS at hcj ⊢
      split at hcj
      · rename_i hca
        have hca' : carr (rmU st n) j < 0 := hca
        have : carr (sitO s st homes p).st j < 0 := by
          show carr st j < 0
          rw [decide_eq_false (by omega)] at hcb
          have := of_decide_eq_false hcb.symm
          omega
        rw [if_pos this]; exact hcj
      · cases hcj
    · cases h1
/-- what is found with a robot is found without it -/
theorem rm_fewer (hx : st.Robots[n]? = some r) (hl : r.Load < 0) {o' : List Int} (hs : Stop (rmT s n) (rmU st n) (homes.eraseIdx n) o') : ∀ {g : List Int}, Chain s st homes g → ∀ i : Int, i ∈ g → i ≠ n → dnI n i ∈ o' := by
  intro g
  generalize hn : g.reverse = q
  induction q generalizing g with
  | nil => intro h i hi; have : g = [] := by simpa using hn
           subst this; cases hi
  | cons a q ih =>
    intro h i hi hne
    have ho : g = q.reverse ++ [a] := by have := congrArg List.reverse hn; simpa using this
    subst ho
    have h1 : Chain s st homes q.reverse := fun p j w e => h p j (w ++ [a]) (by rw [e]; simp)
    have h2 := ih (by simp) h1
    rcases List.mem_append.1 hi with hi | hi
    · exact h2 i hi hne
    simp at hi; subst hi
    have hw := h q.reverse i [] rfl
    have h0 : 0 ≤ i := (live_rg hw.1).1
    have hlv : ∀ j : Int, j ≠ n → liveB (rmU st n) (dnI n j) = liveB st j := fun j hj => rm_live hx hj
    refine in_stop (g := (q.reverse.filter fun j => !(j == (n : Int))).map (dnI n)) hs (fun x hxm => ?_) ?_
    · obtain ⟨j, hj, e⟩ := List.mem_map.1 hxm
      obtain ⟨hj1, hj2⟩ := List.mem_filter.1 hj
      subst e
      exact h2 j hj1 (by simpa using hj2)
    · obtain ⟨w1, w2, k, hk⟩ := hw
      refine ⟨by rw [show (sitO (rmT s n) (rmU st n) (homes.eraseIdx n) ((q.reverse.filter fun j => !(j == (n : Int))).map (dnI n))).st = rmU st n from rfl, hlv i hne]; exact w1, ?_, k, ?_⟩
      · cases e : hB (sitO (rmT s n) (rmU st n) (homes.eraseIdx n) ((q.reverse.filter fun j => !(j == (n : Int))).map (dnI n))) (dnI n i) with
        | false => rfl
        | true =>
          obtain ⟨j, hj, e2⟩ := List.mem_map.1 (hB_sit.1 e).1
          obtain ⟨hj1, hj2⟩ := List.mem_filter.1 hj
          have hji := dn_inj (by simpa using hj2) hne e2
          subst hji
          have := (hB_sit (s := s) (st := st) (homes := homes)).2 ⟨hj1, w1⟩
          rw [w2] at this; cases this
      · have e1 : (sitO (rmT s n) (rmU st n) (homes.eraseIdx n) ((q.reverse.filter fun j => !(j == (n : Int))).map (dnI n))).homes.getD (dnI n i).toNat 0 = homes.getD i.toNat 0 := rm_home h0 hne
        have e2 : rAt (sitO (rmT s n) (rmU st n) (homes.eraseIdx n) ((q.reverse.filter fun j => !(j == (n : Int))).map (dnI n))).st (dnI n i) = rAt st i := rm_rAt h0 hne
        rw [e1, e2]
        refine PB.mono (fun c hc => rm_avL hx hl (fun j hj hb => ?_) h0 hne hc) hk
        obtain ⟨b1, b2⟩ := hB_sit.1 hb
        exact hB_sit.2 ⟨List.mem_map.2 ⟨j, List.mem_filter.2 ⟨b1, by simpa using hj⟩, rfl⟩, by rw [hlv j hj]; exact b2⟩
/-! ## what is right stays right -/
theorem RZone.fl {s s' : ApiSite} (e : s.Floor = s'.Floor) {b : List ApiZone} {z : ApiZone} (h : RZone s b z) : RZone s' b z :=
  ⟨h.named, h.name, h.ne, h.sp, h.keep, h.spans, fun c hc => by rw [← e]; exact h.cell c hc, h.asc⟩
theorem rm_RSite (h : RSite s) : RSite (rmT s n) where
  fl := h.fl
  z64 := h.z64
  zone := fun i z hz => RZone.fl (s := s) (s' := rmT s n) rfl (h.zone i z hz)
  sh3 := h.sh3
  r2 := Nat.le_trans (List.length_eraseIdx_le ..) h.r2
  ap := h.ap
  sh := h.sh
  rb := fun i x hx => by
    have hx' : (s.Robots.eraseIdx n)[i]? = some x := hx
    rw [er_get] at hx'
    obtain ⟨g1, g2, g3, g4, g5⟩ := h.rb _ x hx'
    refine ⟨g1, g2, g3, g4, ?_⟩
    unfold rbAt at g5 ⊢
    rw [List.any_eq_false] at g5 ⊢
    intro y hy
    refine g5 y ?_
    have hy' : y ∈ (s.Robots.eraseIdx n).take i := hy
    obtain ⟨j, hj⟩ := List.getElem?_of_mem hy'
    have hji : j < i := by have := (List.getElem?_eq_some_iff.1 hj).1; simp at this; omega
    rw [List.getElem?_take_of_lt hji, er_get] at hj
    have hup : upN n j < upN n i := by unfold upN; split <;> split <;> omega
    exact List.mem_of_getElem? (by rw [List.getElem?_take_of_lt hup]; exact hj)
  room := h.room
  apart := h.apart
  charger := h.charger
theorem rm_RNames (h : RNames s) : RNames (rmT s n) := ⟨h.zn, h.an, h.sn⟩
theorem okl_erase {α : Type} {P : α → Prop} {xs : List α} (h : OkL P xs) : OkL P (xs.eraseIdx n) := ⟨Nat.le_trans (List.length_eraseIdx_le ..) h.1, fun x hx => h.2 x (List.mem_of_mem_eraseIdx hx)⟩
theorem rm_okS (k : OkApiSite s) : OkApiSite (rmT s n) := ⟨k.Floor, k.Zones, k.Aparts, k.Shelves, okl_erase k.Robots⟩
theorem rm_okU (k : OkApiState st) : OkApiState (rmU st n) := ⟨k.Tick, k.Shelves, okl_erase k.Robots, k.People, k.Dead, k.Stuck⟩
theorem flat_list {α : Type} (f : α → List Int) (d : α) (xs : List α) : (List.range xs.length).flatMap (fun i => f (xs.getD i d)) = xs.flatMap f := by
  have h := range_map (fun x => x) xs d
  rw [List.map_id'] at h
  conv => rhs; rw [← h]
  rw [List.flatMap_map]
theorem sub_flat {α : Type} (f : α → List Int) {a b : List α} (h : a.Sublist b) : (a.flatMap f).Sublist (b.flatMap f) := by
  induction h with
  | slnil => exact List.Sublist.refl _
  | cons x h ih => rw [List.flatMap_cons]; exact ih.trans (List.sublist_append_right _ _)
  | cons_cons x h ih => rw [List.flatMap_cons, List.flatMap_cons]; exact List.Sublist.append (List.Sublist.refl _) ih
theorem rm_allS (hx : st.Robots[n]? = some r) (hl : r.Load < 0) : (allS (rmU st n)).Sublist (allS st) := by
  unfold allS
  refine List.Sublist.append (List.Sublist.append ?_ ?_) (List.Sublist.refl _)
  · rw [flat_list slR default, flat_list slR default]
    exact sub_flat slR (List.eraseIdx_sublist st.Robots n)
  · have : slS (rmU st n) = slS st := by
      funext j
      unfold slS
      rw [rm_carB hx hl]; rfl
    rw [this]; exact List.Sublist.refl _
theorem rm_RSt (hx : st.Robots[n]? = some r) (hl : r.Load < 0) (h : RSt s st) : RSt (rmT s n) (rmU st n) where
  tick := h.tick
  sl := h.sl
  rl := by
    show (st.Robots.eraseIdx n).length = (s.Robots.eraseIdx n).length
    rw [List.length_eraseIdx, List.length_eraseIdx, h.rl]
  pl := h.pl
  rob := fun i x hi => by
    have hi' : (st.Robots.eraseIdx n)[i]? = some x := hi
    rw [er_get] at hi'
    have g := h.rob _ x hi'
    refine ⟨g.cell, g.kind, g.load, g.charge, g.rest, g.mute, fun h0 => ⟨?_, (g.own h0).2⟩⟩
    refine carr_at (j := i) (a := x) hi h0 (fun k z hz e => ?_)
    have hz' : (st.Robots.eraseIdx n)[k]? = some z := hz
    rw [er_get] at hz'
    have g2 := h.rob _ z hz'
    have a1 := (g.own h0).1
    have a2 := (g2.own (by omega)).1
    rw [e] at a2
    exact up_inj (n := n) (by omega)
  shel := fun i c hc hb => h.shel i c hc (by rw [← rm_carB hx hl]; exact hb)
  ppl := h.ppl
  dead := h.dead
  deadA := h.deadA
  stuck := h.stuck
  stuckA := h.stuckA
  clash := List.Nodup.sublist (rm_allS hx hl) h.clash
theorem rm_HomesR (hn : n < st.Robots.length) (h : HomesR s st homes) : HomesR (rmT s n) (rmU st n) (homes.eraseIdx n) where
  len := by
    show (homes.eraseIdx n).length = (st.Robots.eraseIdx n).length
    rw [List.length_eraseIdx, List.length_eraseIdx, h.len]
  nd := List.Nodup.sublist (List.eraseIdx_sublist homes n) h.nd
  ok := fun c hc => by
    have g := h.ok c (List.mem_of_mem_eraseIdx hc)
    unfold badH at g ⊢
    rw [Bool.or_eq_false_iff] at g ⊢
    refine ⟨g.1, ?_⟩
    have g2 := g.2
    rw [List.any_eq_false] at g2 ⊢
    exact fun y hy => g2 y (List.mem_of_mem_eraseIdx hy)
theorem S_law21_fitsX {s : ApiSite} {st : ApiState} {homes : List Int} {n : Int} (ks : OkApiSite s) (hn : 0 ≤ n ∧ n ≤ 100000) {post : Bool → Prop} (hF : post false) (hT : Fair21 s st homes → RNames s → HomesR s st homes → s.Aparts.length ≤ 20 → post true) : V_taquinlaw21_fits s st homes n post := by
  unfold V_taquinlaw21_fits
  refine Jn.mk' (S_ref11_Few ks (by omega) (Ite.f rfl hF) (fun h1 => Ite.t rfl (S_ref14_Few (Ite.f rfl hF) (fun h2 => Ite.t rfl (Ite.mk (fun h3 => Ite.mk (fun h4 => S_survey_RightN ks h1 (by omega) (Ite.f rfl hF) (fun h5 h5n => Ite.t rfl (S_body_RightI h2.sz (Ite.f rfl hF) (fun h6 => Ite.t rfl (S_bank_RightX h5.fl h2.sz (by simp at h4; omega) (fun _ => hF) (fun h7 => hT ⟨h5, h2, h6, by simp at h3; omega, h7.len⟩ h5n h7 (by have := h1.aparts; omega))))))) (fun _ => hF)) (fun _ => hF))))))
end
theorem Said_taquinlaw21_BankFewer (s : ApiSite) (ks : OkApiSite s) (st : ApiState) (k : OkApiState st) (homes : List Int) (kh : (OkL I64) homes) (robot : Int) (kr : I64 robot) : V_taquinlaw21_BankFewer s st homes robot (fun y => y = true) := by
  unfold V_taquinlaw21_BankFewer
  refine S_law21_small (Jn.mk (fun b => b = false → Fair21 s st homes ∧ RNames s ∧ HomesR s st homes ∧ s.Aparts.length ≤ 20 ∧ 0 ≤ robot ∧ robot < (st.Robots.length : Int)) (S_law21_fitsX ks (by omega) (Ite.f rfl fun h => by cases h) (fun h hn hh ha => Ite.t rfl (Ite.mk (fun _ h => by cases h) (fun h1 h2 => ⟨h, hn, hh, ha, by simpa using h1, by simpa using h2⟩)))) (fun b hb => Ite.mk (fun _ => rfl) (fun h => ?_)))
  obtain ⟨hF, hN, hH, hap, r0, r1⟩ := hb h
  have hf := hF.r.fl
  have hz := hF.f12.sz
  have hl := hF.hl
  have r6 := hF.r6
  obtain ⟨n, hn⟩ := Int.eq_ofNat_of_zero_le r0
  subst hn
  have hnl : n < st.Robots.length := by omega
  have hx := List.getElem?_eq_getElem hnl
  generalize st.Robots[n] = r at hx
  refine Jn.mk (fun b => b = false → r.Load < 0 ∧ s.Robots.length = st.Robots.length) ⟨r, idx_of rfl hx, Ite.mk (fun _ h => by cases h) (fun h1 h2 => ⟨by simp at h1; omega, by simp at h2; omega⟩)⟩ (fun b2 hb2 => Ite.mk (fun _ => rfl) (fun h2 => ?_))
  obtain ⟨hld, hrl⟩ := hb2 h2
  have w1 : w64 ((n : Int) + 1) = ((n + 1 : Nat) : Int) := by rw [w64_eq (by omega) (by omega)]; simp
  simp only [w1, sub_erase]
  have l1 : ∀ {α : Type} (xs : List α), xs.length ≤ 20 → (([] : List α).length + (sub xs 0 (n : Int)).length ≤ 1099511627776) ∧ ((([] : List α) ++ sub xs 0 (n : Int)).length + (sub xs ((n + 1 : Nat) : Int) (xs.length : Int)).length ≤ 1099511627776) := fun xs h => by
    simp [sub]; omega
  have l2 := l1 s.Robots (by omega)
  have l3 := l1 st.Robots (by omega)
  have l4 := l1 homes (by omega)
  refine ⟨by omega, by omega, l2.1, l2.2, by omega, by omega, l3.1, l3.2, by omega, by omega, l4.1, l4.2, ?_⟩
  have zU : Sz (rmU st n) := ⟨hz.sh, Nat.le_trans (List.length_eraseIdx_le ..) hz.rb, hz.pp, hz.dd, hz.sk⟩
  have hH' := rm_HomesR hnl hH
  have kU := rm_okU (n := n) k
  have kT := rm_okS (n := n) ks
  refine Jn.mk (fun b => b = false) (S_survey_RightT (s := rmT s n) kT (by show s.Aparts.length ≤ _; omega) (rm_RSite hF.r) (rm_RNames hN) (Ite.t rfl (S_body_Right (s := rmT s n) (st := rmU st n) (rm_RSt hx hld hF.rst) zU (Ite.t rfl (S_bank_RightX (s := rmT s n) (st := rmU st n) hf zU (by have := hH'.len; have : (rmU st n).Robots.length ≤ 1000 := zU.rb; omega) (fun hno => absurd hH' hno) (fun _ => rfl)))))) (fun b3 hb3 => Ite.f hb3 ?_)
  refine S_bank_Safe hf hz k hl (fun o b hc _ hs hball => S_bank_Safe (s := rmT s n) (st := rmU st n) hf zU kU hH'.len (fun o' b' hc' _ hs' hball' => ?_))
  have key := rm_fewer hx hld hs' hc
  have hol := hc.len hz
  have hol' := hc'.len zU
  refine Jn.mk (fun _ => True) (Loop.inv o.length (fun i (t : Int) => t = (i : Int)) rfl (fun i t hi ht => ?_) (fun t ht => Ite.nlt (by show ¬ t < ((o.length : Nat) : Int); omega) trivial)) (fun _ _ => ?_)
  · subst ht
    have hi' : i < o.length := hi
    have ho := List.getElem?_eq_getElem hi'
    generalize o[i] = x at ho
    have hxm := List.mem_of_getElem? ho
    refine Ite.lt (by show (i : Int) < ((o.length : Nat) : Int); omega) ⟨x, idx_of rfl ho, Jn.mk (fun y => y = dnI n x) (Ite.mk (fun h3 => ?_) (fun h3 => ?_)) (fun y hy => Jn.mk (fun b => b = false) (Ite.mk (fun h4 => S_ref07_Has (by show o'.length ≤ maxLen; have := zU.rb; unfold maxLen; omega) ?_) (fun _ => rfl)) (fun b4 hb4 => Ite.f hb4 (by show w64 _ = _; rw [w64_eq (by omega) (by omega)]; simp)))⟩
    · have h3' : x > (n : Int) := of_decide_eq_true h3
      have hlt := live_rg (hc.nodup.2 x hxm)
      show w64 (x - 1) = _
      rw [w64_eq (by omega) (by omega)]; unfold dnI; rw [if_pos h3']
    · have h3' : ¬ x > (n : Int) := of_decide_eq_false h3
      unfold dnI; rw [if_neg h3']
    · subst hy
      have := key x hxm (by simpa using h4)
      show (!o'.contains (dnI n x)) = false
      simpa using this
  · refine Jn.mk (fun b => b = true) (Ite.t rfl (Ite.mk (fun h3 => ?_) (fun _ => rfl))) (fun b5 hb5 => hb5)
    have h3' : b = true := h3
    refine hball'.2 (fun i hi => ?_)
    have hig := live_rg hi
    obtain ⟨j, hj⟩ := Int.eq_ofNat_of_zero_le hig.1
    subst hj
    have hne : ((upN n j : Nat) : Int) ≠ n := by have := @up_ne n j; omega
    have hlv := rm_live hx hne
    rw [dn_up, hi] at hlv
    have := key _ (hball.1 h3' _ hlv.symm) hne
    rw [dn_up] at this; exact this
end Go.Taq
