/- The mathematics, several parts in one text. -/
import Derived.Test.YtbkpekodmhkbdaaGreatBJ
/- The mathematics, part BK: the reference's Safe (taquinref21.Safe, alive). -/
set_option linter.unusedVariables false
set_option linter.unusedSimpArgs false
namespace Go.Taq
open Go

section
variable {s : ApiSite} {st : ApiState} {homes : List Int}
/-- how many live -/
def liveN (st : ApiState) : Nat := st.Robots.countP fun r => !r.Dead
theorem S_ref21_alive (hz : Sz st) {post : Int → Prop} (hp : post (liveN st : Nat)) : V_taquinref21_alive st post := by
  have q2 := hz.rb
  unfold V_taquinref21_alive
  refine Jn.mk (fun n => n = ((liveN st : Nat) : Int)) (V_loopc (xs := st.Robots) (by unfold maxLen; omega) (fun t : Int × Int => t.2) (fun i t => t.1 = (((st.Robots.take i).countP fun r => !r.Dead : Nat) : Int)) rfl rfl (fun i r t hx ht hI => ?_) (fun t h => by rw [List.take_length] at h; exact h)) (fun n hn => hn ▸ hp)
  have hil := (List.getElem?_eq_some_iff.1 hx).1
  have hle := List.countP_le_length (p := fun r : ApiRobot => !r.Dead) (l := st.Robots.take i)
  rw [List.length_take] at hle
  rw [ht]
  refine Jn.mk (fun n => n = (((st.Robots.take (i + 1)).countP fun r => !r.Dead : Nat) : Int)) (Ite.mk (fun h => ?_) (fun h => ?_)) (fun n hn => ⟨rfl, hn⟩)
  · rw [take_succ hx, List.countP_append, List.countP_singleton, if_pos h, hI, w64_eq (by omega) (by omega)]; simp
  · rw [take_succ hx, List.countP_append, List.countP_singleton, if_neg (by rw [h]; simp), hI]; simp
theorem S_ref21_Safe (ks : OkApiSite s) (hf : RF s.Floor) (hr : RSt s st) (hz : Sz st) (k : OkApiState st) (hl : homes.length = st.Robots.length) {post : List Int × Bool → Prop}
    (hp : ∀ o, Chain s st homes o → Fst1 s st homes o → Stop s st homes o → post (o, (o.length : Int) == ((liveN st : Nat) : Int))) : V_taquinref21_Safe s st homes post := by
  have q2 := hz.rb
  unfold V_taquinref21_Safe
  refine Jn.mk (fun o => Chain s st homes o ∧ Fst1 s st homes o ∧ Stop s st homes o) (Loop.mk (fun t : List Int × Bool => Chain s st homes t.1 ∧ Fst1 s st homes t.1 ∧ (t.2 = false → Stop s st homes t.1)) (fun t => (st.Robots.length - t.1.length) * 2 + (if t.2 = true then 1 else 0)) ⟨fun p i q e => by simp at e, fun p i q e => by simp at e, fun h => by cases h⟩ ?_) (fun o ho => S_ref21_alive hz (hp o ho.1 ho.2.1 ho.2.2))
  rintro ⟨g, a⟩ ⟨hc, hfi, hs⟩
  simp only at hc hfi hs
  refine Ite.mk (fun ha => ?_) (fun ha => ⟨hc, hfi, hs ha⟩)
  have ha' : a = true := ha
  subst ha'
  have hgl := Chain.len hz hc
  refine Jn.mk (fun t : List Int × Bool => Chain s st homes t.1 ∧ Fst1 s st homes t.1 ∧ (t.2 = false → t.1 = g ∧ Stop s st homes g) ∧ (t.2 = true → t.1.length = g.length + 1)) (Jn.mk (fun t : List Int × Bool => Chain s st homes t.1 ∧ Fst1 s st homes t.1 ∧ (t.2 = false → t.1 = g ∧ Stop s st homes g) ∧ (t.2 = true → t.1.length = g.length + 1))
    (Loop.mk (fun t : List Int × Bool × Int => ∃ j : Nat, t.2.2 = (j : Int) ∧ j ≤ st.Robots.length ∧ Chain s st homes t.1 ∧ Fst1 s st homes t.1 ∧ (t.2.1 = false → t.1 = g ∧ ∀ q : Int, q < j → ¬ Wy (sitO s st homes g) q) ∧ (t.2.1 = true → t.1.length = g.length + 1)) (fun t => st.Robots.length - t.2.2.toNat)
      ⟨0, rfl, by omega, hc, hfi, fun _ => ⟨rfl, fun q hq hw => by have : 0 ≤ q ∧ q < (st.Robots.length : Int) := live_rg hw.1; have : q < (0 : Int) := hq; omega⟩, fun h => by cases h⟩ ?_) (fun t ht => ht)) (fun t ht => ?_)
  · rintro ⟨g1, b, i⟩ ⟨j, e, hj, j2, j3, j4, j5⟩
    simp only at e j2 j3 j4 j5; subst e
    refine Jn.mk (fun x => x = (decide ((j : Int) < (st.Robots.length : Int)) && !b)) (Ite.mk (fun h => by rw [h]; rfl) (fun h => by rw [h]; rfl)) (fun x hx => Ite.mk (fun h => ?_) (fun h => ?_))
    · rw [h] at hx
      have hx' := hx.symm
      simp only [Bool.and_eq_true, decide_eq_true_eq, Bool.not_eq_true'] at hx'
      obtain ⟨hjl, hb⟩ := hx'
      subst hb
      obtain ⟨e1, hno⟩ := j4 rfl
      subst e1
      have w1 : w64 ((j : Int) + 1) = ((j + 1 : Nat) : Int) := by rw [w64_eq (by omega) (by omega)]; simp
      have mu : st.Robots.length - (w64 ((j : Int) + 1)).toNat < st.Robots.length - ((j : Int)).toNat := by rw [w1]; omega
      refine S_ref21_Way ks hf hr hz k hl (by show g1.length ≤ maxLen; unfold maxLen; omega) (fun hw => ?_) (fun kk p hw _ _ hway => ?_)
      · refine Jn.mk (fun u => u = (g1, false)) (Ite.f rfl rfl) (fun u hu => ?_)
        subst hu
        refine ⟨⟨j + 1, w1, by omega, j2, j3, fun _ => ⟨rfl, fun q hq => ?_⟩, fun h => by cases h⟩, mu⟩
        by_cases e : q = j
        · subst e; exact hw
        · exact hno q (by omega)
      · refine Jn.mk (fun u => u = (g1 ++ [(j : Int)], true)) (Ite.t (by rw [hway.len]; exact decide_eq_true (by omega)) ⟨by simp; omega, rfl⟩) (fun u hu => ?_)
        subst hu
        exact ⟨⟨j + 1, w1, by omega, j2.snoc hw, j3.snoc hno, fun h => (by cases h), fun _ => by simp⟩, mu⟩
    · rw [h] at hx
      refine ⟨j2, j3, fun hb => ?_, j5⟩
      have hb' : b = false := hb
      subst hb'
      have : ¬ (j : Int) < (st.Robots.length : Int) := by simpa using hx.symm
      refine ⟨(j4 rfl).1, fun q hw => (j4 rfl).2 q ?_ hw⟩
      have : 0 ≤ q ∧ q < (st.Robots.length : Int) := live_rg hw.1
      omega
  · obtain ⟨t1, t2, t3, t4⟩ := ht
    have htl := Chain.len hz t1
    refine ⟨⟨t1, t2, fun h => by have := t3 h; show Stop s st homes t.1; rw [this.1]; exact this.2⟩, ?_⟩
    show (st.Robots.length - t.1.length) * 2 + (if t.2 = true then 1 else 0) < (st.Robots.length - g.length) * 2 + (if true = true then 1 else 0)
    rw [if_pos rfl]
    cases e : t.2 with
    | false => rw [(t3 e).1]; simp
    | true => have := t4 e; simp; omega
end
end Go.Taq

/- The mathematics, part BL: the reference's Check (taquinref21.Check). -/
set_option linter.unusedVariables false
set_option linter.unusedSimpArgs false
namespace Go.Taq
open Go

/-- how many robots live: as many as there are indexes of such -/
theorem countP_range {α : Type} (p : α → Bool) (d : α) : ∀ (xs : List α), xs.countP p = ((List.range xs.length).filter fun i => p (xs.getD i d)).length := by
  intro xs
  rw [← List.countP_eq_length_filter]
  have h := range_map (fun x => x) xs d
  rw [List.map_id'] at h
  conv => lhs; rw [← h]
  rw [List.countP_map]
  rfl
section
variable {st : ApiState}
def liveL (st : ApiState) : List Int := ((List.range st.Robots.length).filter fun i => !(st.Robots.getD i default).Dead).map fun i : Nat => (i : Int)
theorem liveL_len : (liveL st).length = liveN st := by
  unfold liveL liveN; rw [List.length_map, countP_range _ default]
theorem liveL_mem {x : Int} : x ∈ liveL st ↔ liveB st x = true := by
  unfold liveL
  rw [List.mem_map]
  constructor
  · rintro ⟨i, hi, e⟩
    obtain ⟨h1, h2⟩ := List.mem_filter.1 hi
    have hil := List.mem_range.1 h1
    have hx := List.getElem?_eq_getElem hil
    subst e
    unfold liveB
    rw [decide_eq_true (show (0 : Int) ≤ (i : Int) by omega), decide_eq_true (show (i : Int) < (st.Robots.length : Int) by omega)]
    simpa using h2
  · intro h
    obtain ⟨n, r, hn, hx, hd, _⟩ := liveB_iff h
    have := (List.getElem?_eq_some_iff.1 hx).1
    exact ⟨n, List.mem_filter.2 ⟨List.mem_range.2 this, by rw [getD_r hx, hd]; rfl⟩, hn.symm⟩
theorem liveL_nodup : (liveL st).Nodup := by
  unfold liveL
  refine List.Pairwise.map _ (fun a b h => ?_) (List.Pairwise.filter _ List.nodup_range)
  intro e; exact h (by omega)
theorem all_len {o : List Int} (hn : o.Nodup) (hl : ∀ x, x ∈ o → liveB st x = true) : (∀ i : Int, liveB st i = true → i ∈ o) ↔ o.length = liveN st := by
  have h1 := nodup_same hn (fun x hx => liveL_mem.2 (hl x hx))
  rw [liveL_len] at h1
  constructor
  · intro h
    have h2 := nodup_same liveL_nodup (fun x hx => h x (liveL_mem.1 hx))
    rw [liveL_len] at h2; omega
  · intro h i hi
    by_cases hm : i ∈ o
    · exact hm
    · have h2 := nodup_same (a := i :: o) (b := liveL st) (List.nodup_cons.2 ⟨hm, hn⟩) (fun x hx => by
        rcases List.mem_cons.1 hx with e | e
        · subst e; exact liveL_mem.2 hi
        · exact liveL_mem.2 (hl x e))
      rw [liveL_len, List.length_cons] at h2; omega
end
end Go.Taq

/- The mathematics, part BM: right homes exactly, in the program and in the reference. -/
set_option linter.unusedVariables false
set_option linter.unusedSimpArgs false
namespace Go.Taq
open Go

theorem nodup_of_len : ∀ {a b : List Int}, a.Nodup → (∀ x, x ∈ a → x ∈ b) → b.length ≤ a.length → b.Nodup
  | [], b, _, _, h => by
    have : b = [] := List.length_eq_zero_iff.1 (by simpa using h)
    subst this; exact .nil
  | x :: a, b, hn, h, hl => by
    have hn' := List.nodup_cons.1 hn
    have hx : x ∈ b := h x (by simp)
    have hbl := List.length_pos_of_mem hx
    have hsub : ∀ y, y ∈ a → y ∈ b.erase x := fun y hy => by
      have hne : y ≠ x := fun e => hn'.1 (e ▸ hy)
      exact (List.mem_erase_of_ne hne).2 (h y (by simp [hy]))
    have hbe := List.length_erase_of_mem hx
    have h1 := nodup_of_len (a := a) (b := b.erase x) hn'.2 hsub (by simp at hl; omega)
    have hx2 : x ∉ b.erase x := fun hm => by
      have h2 := nodup_same (a := a) (b := (b.erase x).erase x) hn'.2 (fun y hy => by
        have hne : y ≠ x := fun e => hn'.1 (e ▸ hy)
        exact (List.mem_erase_of_ne hne).2 (hsub y hy))
      rw [List.length_erase_of_mem hm] at h2
      have := List.length_pos_of_mem hm
      simp at hl; omega
    exact (List.perm_cons_erase hx).nodup_iff.2 (List.nodup_cons.2 ⟨hx2, h1⟩)
theorem S_region_OfL {l : List Int} (hl : l.length ≤ 1000) {post : List Int → Prop} (hp : ∀ l' : List Int, (l'.length = l.length ↔ l.Nodup ∧ ∀ c, c ∈ l → 0 ≤ c ∧ c < 4096) → post l') : V_region_Of l post := by
  unfold V_region_Of
  refine S_clone_i hl ?_
  unfold V_slices_DeleteFunc_int_int__o0_region_Of_1 V_slices_IndexFunc_int_int__region_Of_1
  have hm : l.length ≤ maxLen := by unfold maxLen; omega
  have hT : ∀ c, ∀ {q : Bool → Prop}, q (!(decide (c ≥ 0) && decide (c < 4096))) → V_region_Of_1 c q := fun c {q} hq => by
    unfold V_region_Of_1 V_region_isCell
    exact Jand2 hq
  refine V_fidxc hm (fun c => !(decide (c ≥ 0) && decide (c < 4096))) (T := fun c q => V_region_Of_1 c q) (fun c _ q hq => hT c hq) ?_
  refine V_delrest hm 0 (fun c => !(decide (c ≥ 0) && decide (c < 4096))) (T := fun c q => V_region_Of_1 c q) (fun c _ q hq => hT c hq) (post := fun y => V_slices_Sort_int_int__o0 y _) ?_
  unfold V_slices_Sort_int_int__o0
  have h1 := List.length_filter_le (fun c : Int => !(!(decide (c ≥ 0) && decide (c < 4096)))) l
  refine ⟨by omega, S_CompactI (by rw [(List.mergeSort_perm _ _).length_eq]; omega) (hp _ ?_)⟩
  generalize hfl : l.filter (fun c : Int => !(!(decide (c ≥ 0) && decide (c < 4096)))) = fl at h1 ⊢
  have hfm : ∀ c, c ∈ fl ↔ c ∈ l ∧ 0 ≤ c ∧ c < 4096 := fun c => by rw [← hfl, List.mem_filter]; simp
  generalize hms : fl.mergeSort (fun a b => decide (a ≤ b)) = ms
  have hperm : ms.Perm fl := hms ▸ List.mergeSort_perm _ _
  have hsrt : ms.Pairwise (fun a b => a < b ∨ a = b) := by
    rw [← hms]
    refine (List.pairwise_mergeSort (fun a b c h1 h2 => ?_) (fun a b => ?_) fl).imp (fun h => ?_)
    · simp at h1 h2 ⊢; omega
    · simp; omega
    · have := of_decide_eq_true h; omega
  have hlt := cmI_lt (lt := fun a b : Int => a < b) (fun x y z h1 h2 => by rcases h1 with h | h <;> omega) hsrt ms.length (Nat.le_refl _)
  have hnd : (cmI ms ms.length).Nodup := hlt.imp (fun h => by omega)
  have hmem : ∀ x, x ∈ cmI ms ms.length ↔ x ∈ l ∧ 0 ≤ x ∧ x < 4096 := fun x => by
    rw [cmI_mem ms.length (Nat.le_refl _), List.take_length, hperm.mem_iff, hfm]
  constructor
  · intro h
    have hn := nodup_of_len hnd (fun x hx => ((hmem x).1 hx).1) (by omega)
    refine ⟨hn, fun c hc => Classical.byContradiction fun hne => ?_⟩
    have := nodup_same hnd (b := l.erase c) (fun x hx => by
      have hx' := (hmem x).1 hx
      have : x ≠ c := fun e => hne (e ▸ hx'.2)
      exact (List.mem_erase_of_ne this).2 hx'.1)
    rw [List.length_erase_of_mem hc] at this
    have := List.length_pos_of_mem hc
    omega
  · rintro ⟨hn, hb⟩
    have := nodup_same hn (fun x hx => (hmem x).2 ⟨hx, hb x hx⟩)
    have := cmI_len (xs := ms) ms.length
    have := hperm.length_eq
    omega
def badH (s : ApiSite) (st : ApiState) (c : Int) : Bool := !isC s.Floor c || kd s.Floor c == 0 || st.Dead.contains c || st.People.contains c || st.Robots.any fun r => r.Dead && r.Cell == c
/-- right homes -/
structure HomesR (s : ApiSite) (st : ApiState) (homes : List Int) : Prop where
  len : homes.length = st.Robots.length
  nd : homes.Nodup
  ok : ∀ c, c ∈ homes → badH s st c = false
section
variable {s : ApiSite} {st : ApiState} {homes : List Int}
theorem S_bank_RightX (hf : RF s.Floor) (hz : Sz st) (hh : homes.length ≤ 1000) {post : Bool → Prop} (hF : ¬ HomesR s st homes → post false) (hT : HomesR s st homes → post true) : V_bank_Right s st homes post := by
  have q2 := hz.rb; have q3 := hz.pp; have q4 := hz.dd
  have hn4 := hf.len.1
  unfold V_bank_Right
  refine Jn.mk (fun x => x = false ↔ homes.length = st.Robots.length ∧ homes.Nodup ∧ ∀ c, c ∈ homes → 0 ≤ c ∧ c < 4096) (Ite.mk (fun h => ?_) (fun h => S_region_OfL hh fun l' hl' => ?_)) (fun x hx => Ite.mk (fun h => hF fun hr => ?_) (fun h => ?_))
  · have : homes.length ≠ st.Robots.length := fun e => by rw [e] at h; simp at h
    show (true = false) ↔ _
    exact ⟨fun h => (by cases h), fun h => absurd h.1 this⟩
  · have h' : homes.length = st.Robots.length := by simp at h; omega
    have e : ((l'.length : Int) != (homes.length : Int)) = false ↔ l'.length = homes.length := by simp; omega
    show ((l'.length : Int) != (homes.length : Int)) = false ↔ _
    rw [e, hl']
    exact ⟨fun h => ⟨h', h⟩, fun h => h.2⟩
  · have : x = false := hx.2 ⟨hr.len, hr.nd, fun c hc => by
      have := hr.ok c hc
      unfold badH at this
      simp only [Bool.or_eq_false_iff, Bool.not_eq_false'] at this
      have := isC_iff.1 this.1.1.1.1
      omega⟩
    rw [this] at h; cases h
  obtain ⟨hl, hnd, hrg⟩ := hx.1 h
  refine Jn.mk (fun l => l = st.Dead ++ st.People) (S_clone_i q4 ⟨by omega, rfl⟩) (fun l hl2 => ?_)
  refine Jn.mk (fun l => l.length ≤ 3000 ∧ ∀ c, l.contains c = (st.Dead.contains c || st.People.contains c || st.Robots.any fun r => r.Dead && r.Cell == c)) (V_loopc (xs := st.Robots) (by unfold maxLen; omega) (fun t : List Int × Int => t.2) (fun i t => t.1.length ≤ 2000 + i ∧ ∀ c, t.1.contains c = (st.Dead.contains c || st.People.contains c || (st.Robots.take i).any fun r => r.Dead && r.Cell == c)) rfl ⟨by rw [hl2, List.length_append]; omega, fun c => by rw [hl2]; simp⟩ (fun i r t hx ht hI => ?_) (fun t h => ⟨by have := h.1; omega, by have := h.2; rw [List.take_length] at this; exact this⟩)) (fun l hl3 => ?_)
  · have := (List.getElem?_eq_some_iff.1 hx).1
    obtain ⟨hI1, hI2⟩ := hI
    rw [ht]
    refine Jn.mk (fun l => l.length ≤ 2000 + (i + 1) ∧ ∀ c, l.contains c = (st.Dead.contains c || st.People.contains c || (st.Robots.take (i + 1)).any fun r => r.Dead && r.Cell == c)) (Ite.mk (fun h => ⟨by simp; omega, by simp; omega, fun c => ?_⟩) (fun h => ⟨by omega, fun c => ?_⟩)) (fun l h => ⟨rfl, h⟩)
    · have e := hI2 c
      rw [take_succ hx, List.any_append, ← Bool.or_assoc, ← e]
      have h' : r.Dead = true := h
      have e3 : (t.1 ++ [r.Cell]).contains c = (t.1.contains c || r.Cell == c) := by
        rw [Bool.eq_iff_iff, Bool.or_eq_true, beq_iff_eq, List.contains_iff_mem, List.contains_iff_mem, List.mem_append, List.mem_singleton, eq_comm (a := c)]
      show (t.1 ++ [r.Cell]).contains c = (t.1.contains c || ((r.Dead && r.Cell == c) || false))
      rw [e3, h', Bool.true_and, Bool.or_false]
    · have h' : r.Dead = false := h
      rw [take_succ hx, List.any_append, ← Bool.or_assoc, ← hI2 c]; simp [h']
  · unfold V_slices_ContainsFunc_int_int__bank_Right_1 V_slices_IndexFunc_int_int__bank_Right_1
    refine V_fidxc (by unfold maxLen; omega) (fun c => badH s st c) (T := fun c q => V_bank_Right_1 c s l q) (fun c _ q hq => ?_) ?_
    · unfold V_bank_Right_1
      refine Jn.mk' ?_
      unfold badH at hq
      refine Ite.mk (fun h1 => ?_) (fun h1 => Ite.mk (fun h2 => ?_) (fun h2 => ?_))
      · have : isC s.Floor c = false := by unfold isC; have : ¬ 0 ≤ c := by simp at h1; omega
                                           rw [decide_eq_false this]; rfl
        rw [this] at hq; exact hq
      · have : isC s.Floor c = false := by unfold isC; have : ¬ c < (s.Floor.Kind.length : Int) := by simp at h2; omega
                                           rw [decide_eq_false this]; simp
        rw [this] at hq; exact hq
      · have hc : isC s.Floor c = true := isC_iff.2 ⟨by simp at h1; omega, by simp at h2; omega⟩
        rw [hc] at hq
        refine ⟨_, idx_kd hc, Ite.mk (fun h3 => ?_) (fun h3 => S_slices_Contains (by unfold maxLen; omega) ?_)⟩
        · rw [h3] at hq; exact hq
        · rw [h3] at hq
          rw [hl3.2 c]
          simpa using hq
    · have e := fidx_any (p := fun c => badH s st c) (xs := homes)
      show post (!decide (fidx (fun c => badH s st c) homes ≥ 0))
      rw [e]
      cases e2 : homes.any (fun c => badH s st c) with
      | false =>
        refine hT ⟨hl, hnd, fun c hc => ?_⟩
        rw [List.any_eq_false] at e2
        simpa using e2 c hc
      | true =>
        refine hF fun hr => ?_
        obtain ⟨c, hc, hb⟩ := List.any_eq_true.1 e2
        rw [hr.ok c hc] at hb; cases hb
theorem S_ref21_Right (hf : RF s.Floor) (hz : Sz st) (hh : homes.length ≤ 1000) {post : Bool → Prop} (hF : ¬ HomesR s st homes → post false) (hT : HomesR s st homes → post true) : V_taquinref21_Right s st homes post := by
  have q2 := hz.rb; have q3 := hz.pp; have q4 := hz.dd
  have hn4 := hf.len.1
  unfold V_taquinref21_Right
  refine Ite.mk (fun h => hF fun hr => ?_) (fun h => ?_)
  · have := hr.len; simp at h; omega
  have hl : homes.length = st.Robots.length := by simp at h; omega
  refine Jn.mk (fun _ => HomesR s st homes) (Loop.inv homes.length (fun i (t : Int) => t = (i : Int) ∧ (homes.take i).Nodup ∧ ∀ c, c ∈ homes.take i → badH s st c = false) ⟨rfl, by simp, fun c hc => by simp at hc⟩ (fun i t hi hI => ?_) (fun t hI => ?_)) (fun _ hr => hT hr)
  · obtain ⟨ht, hI1, hI2⟩ := hI
    subst ht
    have hx := List.getElem?_eq_getElem hi
    generalize homes[i] = c at hx
    have hcm : c ∈ homes := List.mem_of_getElem? hx
    have esub : sub homes 0 (i : Int) = homes.take i := by simp [sub]
    have hbad : badH s st c = true → post false := fun hb => hF fun hr => by rw [hr.ok c hcm] at hb; cases hb
    refine Ite.lt (by omega) (Jn.mk (fun _ => badH s st c = false ∧ c ∉ homes.take i) ⟨c, idx_of rfl hx, S_ref07_Is hf (Ite.mk (fun h1 => hbad ?_) (fun h1 => ?_))⟩ (fun _ hb => ⟨by rw [w64_eq (by omega) (by omega)]; simp, ?_⟩))
    · unfold badH; rw [h1]; simp
    · have hc : isC s.Floor c = true := by simpa using h1
      refine Jn.mk (fun b => b = (kd s.Floor c == 0 || st.Dead.contains c || st.People.contains c || (homes.take i).contains c)) ⟨_, idx_kd hc, Ite.mk (fun h2 => by rw [h2]; rfl) (fun h2 => S_ref07_Has (by unfold maxLen; omega) (Ite.mk (fun h3 => by rw [h3]; simp) (fun h3 => S_ref07_Has (by unfold maxLen; omega) (Ite.mk (fun h4 => by rw [h4]; simp) (fun h4 => ⟨⟨by omega, by omega, by omega⟩, ?_⟩)))))⟩ (fun b hb => Ite.mk (fun h2 => ?_) (fun h2 => ?_))
      · rw [esub]
        refine S_ref07_Has (by rw [List.length_take]; unfold maxLen; omega) ?_
        rw [h2, h3, h4]; rfl
      · rw [h2] at hb
        by_cases hd : c ∈ homes.take i
        · refine hF fun hr => ?_
          have h7 := hr.nd
          rw [← List.take_append_drop i homes, List.nodup_append] at h7
          refine h7.2.2 _ hd c ?_ rfl
          rw [List.drop_eq_getElem_cons hi]
          have := List.getElem?_eq_getElem hi
          rw [hx] at this
          rw [← Option.some.inj this]; exact List.mem_cons_self ..
        · refine hbad ?_
          have e : (homes.take i).contains c = false := by simpa using hd
          rw [e] at hb
          unfold badH
          have hb' := hb.symm
          rw [Bool.or_false] at hb'
          rw [hc]
          show (kd s.Floor c == 0 || st.Dead.contains c || st.People.contains c || _) = true
          rw [hb']; rfl
      · rw [h2] at hb
        have hb' := hb.symm
        simp only [Bool.or_eq_false_iff] at hb'
        obtain ⟨⟨⟨b1, b2⟩, b3⟩, b4⟩ := hb'
        refine Jn.mk (fun _ => (st.Robots.any fun r => r.Dead && r.Cell == c) = false) (Loop.inv st.Robots.length (fun j (t : Int) => t = (j : Int) ∧ ((st.Robots.take j).any fun r => r.Dead && r.Cell == c) = false) ⟨rfl, by simp⟩ (fun j t hj hJ => ?_) (fun t hJ => ?_)) (fun _ hrb => ⟨?_, by simpa using b4⟩)
        · obtain ⟨ht, hJ⟩ := hJ
          subst ht
          have hy := List.getElem?_eq_getElem hj
          generalize st.Robots[j] = r at hy
          refine Ite.lt (by omega) (Jn.mk (fun b => b = (r.Dead && r.Cell == c)) ⟨r, idx_of rfl hy, Ite.mk (fun h3 => by rw [h3]; rfl) (fun h3 => by rw [h3]; rfl)⟩ (fun b hb3 => Ite.mk (fun h3 => hbad ?_) (fun h3 => ⟨by rw [w64_eq (by omega) (by omega)]; simp, ?_⟩)))
          · rw [h3] at hb3
            have : (st.Robots.any fun r => r.Dead && r.Cell == c) = true := List.any_eq_true.2 ⟨r, List.mem_of_getElem? hy, hb3.symm⟩
            unfold badH; rw [this]; simp
          · rw [h3] at hb3
            rw [take_succ hy, List.any_append, hJ]; simp [← hb3]
        · obtain ⟨ht, hJ⟩ := hJ
          rw [List.take_length] at hJ
          exact Ite.nlt (by omega) hJ
        · unfold badH; rw [hc, b1, b2, b3, hrb]; rfl
    · rw [take_succ hx]
      refine ⟨List.nodup_append.2 ⟨hI1, by simp, fun a ha b hb2 => ?_⟩, fun y hy => ?_⟩
      · simp at hb2; subst hb2
        intro e; subst e
        exact hb.2 ha
      · rcases List.mem_append.1 hy with h | h
        · exact hI2 y h
        · simp at h; subst h; exact hb.1
  · obtain ⟨ht, hI1, hI2⟩ := hI
    rw [List.take_length] at hI1 hI2
    exact Ite.nlt (by omega) ⟨hl, hI1, hI2⟩
end
end Go.Taq

/- The mathematics, part BN: Check in the reference; BankTells. -/
set_option linter.unusedVariables false
set_option linter.unusedSimpArgs false
namespace Go.Taq
open Go

section
variable {s : ApiSite} {st : ApiState} {homes : List Int}
theorem len_live {o : List Int} (hn : o.Nodup) (hl : ∀ x, x ∈ o → liveB st x = true) : o.length ≤ liveN st := by
  have h1 := nodup_same hn (fun x hx => liveL_mem.2 (hl x hx))
  rw [liveL_len] at h1; exact h1
theorem S_ref21_Check (ks : OkApiSite s) (hf : RF s.Floor) (hr : RSt s st) (hz : Sz st) (k : OkApiState st) (hl : homes.length = st.Robots.length) {o : List Int} (ho : o.length ≤ 1000) {post : Int × Int → Prop}
    (h1 : ∀ i : Nat, i < o.length → badI st o i → (∀ j, j < i → ¬ badI st o j) → post ((i : Int), 1))
    (h2 : ∀ p x q, o = p ++ x :: q → Chain s st homes p → ¬ Wy (sitO s st homes p) x → o.Nodup → (∀ x, x ∈ o → liveB st x = true) → post ((p.length : Int), 14))
    (h3 : Chain s st homes o → (∀ i : Int, liveB st i = true → i ∈ o) → post (-1, 0))
    (h4 : Chain s st homes o → ¬ (∀ i : Int, liveB st i = true → i ∈ o) → post ((o.length : Int), 19)) : V_taquinref21_Check s st homes o post := by
  unfold V_taquinref21_Check
  have esub : ∀ i : Nat, sub o 0 (i : Int) = o.take i := fun i => by simp [sub]
  refine Jn.mk (fun _ => o.Nodup ∧ ∀ x, x ∈ o → liveB st x = true) (Loop.inv o.length (fun i (t : Int) => t = (i : Int) ∧ NoBad st o i) ⟨rfl, .zero⟩ (fun i t hi hI => ?_) (fun t hI => ?_)) (fun _ hlv => ?_)
  · obtain ⟨ht, hI⟩ := hI
    subst ht
    have hx := List.getElem?_eq_getElem hi
    generalize o[i] = x at hx
    refine Ite.lt (by omega) (Jn.mk (fun b => b = (!liveB st x || (o.take i).contains x)) ⟨x, idx_of rfl hx, S_ref21_there (Ite.mk (fun h => ⟨⟨by omega, by omega, by omega⟩, ?_⟩) (fun h => ?_))⟩ (fun b hb => Ite.mk (fun h => ?_) (fun h => ⟨by rw [w64_eq (by omega) (by omega)]; simp, ?_⟩)))
    · rw [esub]
      refine S_ref07_Has (by rw [List.length_take]; unfold maxLen; omega) ?_
      have h' : liveB st x = true := h
      rw [h']; rfl
    · have h' : liveB st x = false := h
      rw [h']; rfl
    · rw [h] at hb
      exact h1 i hi (bad_t hx hb) hI.2.2
    · rw [h] at hb
      exact hI.step hx hb
  · obtain ⟨ht, hI⟩ := hI
    exact Ite.nlt (by omega) hI.all
  · obtain ⟨hnd, hlv⟩ := hlv
    refine Jn.mk (fun _ => Chain s st homes o) (Loop.inv o.length (fun i (t : Int) => t = (i : Int) ∧ Chain s st homes (o.take i)) ⟨rfl, fun p x q e => by simp at e⟩ (fun i t hi hI => ?_) (fun t hI => ?_)) (fun _ hc => ?_)
    · obtain ⟨ht, hI2⟩ := hI
      subst ht
      have hx := List.getElem?_eq_getElem hi
      have hsplit : o = o.take i ++ o[i] :: o.drop (i + 1) := by
        conv => lhs; rw [← List.take_append_drop i o]
        rw [List.drop_eq_getElem_cons hi]
      generalize o[i] = x at hx hsplit
      have hti : (o.take i).length = i := by rw [List.length_take]; omega
      refine Ite.lt (by omega) ⟨⟨by omega, by omega, by omega⟩, x, idx_of rfl hx, ?_⟩
      rw [esub]
      refine S_ref21_Way ks hf hr hz k hl (by rw [hti]; unfold maxLen; omega) (fun hw => Ite.t rfl ?_) (fun kk p hw _ _ hp => Ite.f (by rw [hp.len]; simp; omega) ⟨by rw [w64_eq (by omega) (by omega)]; simp, ?_⟩)
      · have := h2 (o.take i) x _ hsplit hI2 hw hnd hlv
        rw [hti] at this; exact this
      · rw [take_succ hx]; exact hI2.snoc hw
    · obtain ⟨ht, hI2⟩ := hI
      rw [List.take_length] at hI2
      exact Ite.nlt (by omega) hI2
    · have hle := len_live hnd hlv
      have hal := all_len hnd hlv
      refine S_ref21_alive hz (Ite.mk (fun h => h4 hc fun ha => ?_) (fun h => h3 hc (hal.2 ?_)))
      · have := hal.1 ha
        have h' : (o.length : Int) < ((liveN st : Nat) : Int) := of_decide_eq_true h
        omega
      · have h' : ¬ (o.length : Int) < ((liveN st : Nat) : Int) := of_decide_eq_false h
        omega
/-- what Check says of an order -/
def CkR (s : ApiSite) (st : ApiState) (homes o : List Int) (r : Int × Int) : Prop :=
  (∃ i : Nat, i < o.length ∧ badI st o i ∧ (∀ j, j < i → ¬ badI st o j) ∧ r = ((i : Int), 1)) ∨
  (∃ p x q, o = p ++ x :: q ∧ Chain s st homes p ∧ ¬ Wy (sitO s st homes p) x ∧ (∀ i, i < o.length → ¬ badI st o i) ∧ r = ((p.length : Int), 14)) ∨
  (Chain s st homes o ∧ (∀ i : Int, liveB st i = true → i ∈ o) ∧ r = (-1, 0)) ∨
  (Chain s st homes o ∧ ¬ (∀ i : Int, liveB st i = true → i ∈ o) ∧ r = ((o.length : Int), 19))
theorem split_lt {o p p' q q' : List Int} {x x' : Int} (h : o = p ++ x :: q) (h' : o = p' ++ x' :: q') (hl : p.length < p'.length) : ∃ w, p' = p ++ x :: w := by
  rw [h] at h'
  rcases List.append_eq_append_iff.1 h' with ⟨w, h1, h2⟩ | ⟨w, h1, h2⟩
  · cases w with
    | nil => simp at h1; rw [h1] at hl; omega
    | cons y w =>
      simp at h2
      exact ⟨w, by rw [h1, h2.1]⟩
  · rw [h1] at hl; simp at hl; omega
theorem CkR.uniq {o : List Int} {r r' : Int × Int} (h : CkR s st homes o r) (h' : CkR s st homes o r') : r = r' := by
  have cno : Chain s st homes o → ∀ i, i < o.length → ¬ badI st o i := fun hc i hi => badI_no hc.nodup.1 hc.nodup.2 hi
  rcases h with ⟨i, hi, hb, hm, e⟩ | ⟨p, x, q, ho, hc, hw, hn, e⟩ | ⟨hc, ha, e⟩ | ⟨hc, ha, e⟩
  · rcases h' with ⟨i', hi', hb', hm', e'⟩ | ⟨p, x, q, ho, hc, hw, hn, e'⟩ | ⟨hc, ha, e'⟩ | ⟨hc, ha, e'⟩
    · have : i = i' := by
        rcases Nat.lt_trichotomy i i' with h | h | h
        · exact absurd hb (hm' i h)
        · exact h
        · exact absurd hb' (hm i' h)
      rw [e, e', this]
    · exact absurd hb (hn i hi)
    · exact absurd hb (cno hc i hi)
    · exact absurd hb (cno hc i hi)
  · rcases h' with ⟨i', hi', hb', hm', e'⟩ | ⟨p', x', q', ho', hc', hw', hn', e'⟩ | ⟨hc', ha', e'⟩ | ⟨hc', ha', e'⟩
    · exact absurd hb' (hn i' hi')
    · have : p.length = p'.length := by
        rcases Nat.lt_trichotomy p.length p'.length with h | h | h
        · obtain ⟨w, ew⟩ := split_lt ho ho' h
          exact absurd (hc' p x w ew) hw
        · exact h
        · obtain ⟨w, ew⟩ := split_lt ho' ho h
          exact absurd (hc p' x' w ew) hw'
      rw [e, e', this]
    · exact absurd (hc' p x q ho) hw
    · exact absurd (hc' p x q ho) hw
  · rcases h' with ⟨i', hi', hb', hm', e'⟩ | ⟨p', x', q', ho', hc', hw', hn', e'⟩ | ⟨hc', ha', e'⟩ | ⟨hc', ha', e'⟩
    · exact absurd hb' (cno hc i' hi')
    · exact absurd (hc p' x' q' ho') hw'
    · rw [e, e']
    · exact absurd ha ha'
  · rcases h' with ⟨i', hi', hb', hm', e'⟩ | ⟨p', x', q', ho', hc', hw', hn', e'⟩ | ⟨hc', ha', e'⟩ | ⟨hc', ha', e'⟩
    · exact absurd hb' (cno hc i' hi')
    · exact absurd (hc p' x' q' ho') hw'
    · exact absurd ha' ha
    · rw [e, e']
end
theorem Said_taquinlaw21_BankTells (s : ApiSite) (ks : OkApiSite s) (st : ApiState) (k : OkApiState st) (homes : List Int) (kh : (OkL I64) homes) (l : List Int) (kl : (OkL I64) l) (robot : Int) (kr : I64 robot) : V_taquinlaw21_BankTells s st homes l robot (fun y => y = true) := by
  unfold V_taquinlaw21_BankTells
  refine S_law21_small (Jn.mk (fun b => b = false → RSite s ∧ Few12 st ∧ RSt s st ∧ st.Robots.length ≤ 6 ∧ homes.length ≤ 10 ∧ l.length ≤ 10) (S_ref11_Few ks (by omega) (Ite.f rfl fun h => by cases h) (fun h1 => Ite.t rfl (S_ref14_Few (Ite.f rfl fun h => by cases h) (fun h2 => Ite.t rfl (Ite.mk (fun _ h => by cases h) (fun h3 => Ite.mk (fun _ h => by cases h) (fun h4 => Ite.mk (fun _ h => by cases h) (fun h5 => S_survey_Right ks h1 (by omega) (Ite.f rfl fun h => by cases h) (fun h6 => Ite.t rfl (S_body_RightI h2.sz (fun h => by cases h) (fun h7 _ => ⟨h6, h2, h7, by simp at h3; omega, by simp at h4; omega, by simp at h5; omega⟩))))))))))) (fun b hb => Ite.mk (fun _ => rfl) (fun h => ?_)))
  obtain ⟨hS, hF, hT, r6, hh10, hl10⟩ := hb h
  have hf := hS.fl
  have hz := hF.sz
  refine S_bank_RightX hf hz (by omega) (fun hno => S_ref21_Right hf hz (by omega) (fun _ => Ite.f rfl (S_bank_RightX hf hz (by omega) (fun _ => Ite.t rfl rfl) (fun hr => absurd hr hno))) (fun hr => absurd hr hno)) (fun hr => S_ref21_Right hf hz (by omega) (fun h => absurd hr h) (fun _ => Ite.f rfl (S_bank_RightX hf hz (by omega) (fun h => absurd hr h) (fun _ => Ite.f rfl ?_))))
  have hl := hr.len
  refine S_bank_Safe hf hz k hl (fun o b hc hfi hs hball => S_ref21_Safe ks hf hT hz k hl (fun o' hc' hfi' hs' => ?_))
  have eo : o = o' := by
    have := safe_uniq o (p := []) (o := o') hc hfi hs ⟨o', rfl⟩ hc' hfi' hs'
    simpa using this
  subst eo
  have eb : b = ((o.length : Int) == ((liveN st : Nat) : Int)) := by
    have := all_len hc.nodup.1 hc.nodup.2
    rw [Bool.eq_iff_iff, hball, this]; simp; omega
  have hol := hc.len hz
  have c1 : ∀ {post : Int × Int → Prop}, (∀ r, CkR s st homes l r → post r) → V_bank_Check s st homes l post := fun hp =>
    S_bank_Check hf hz k hl (by omega) (fun i a b c => hp _ (.inl ⟨i, a, b, c, rfl⟩)) (fun p x q a b c d e => hp _ (.inr (.inl ⟨p, x, q, a, b, c, fun i hi => badI_no d e hi, rfl⟩))) (fun a b => hp _ (.inr (.inr (.inl ⟨a, b, rfl⟩)))) (fun a b => hp _ (.inr (.inr (.inr ⟨a, b, rfl⟩))))
  have c2 : ∀ {post : Int × Int → Prop}, (∀ r, CkR s st homes l r → post r) → V_taquinref21_Check s st homes l post := fun hp =>
    S_ref21_Check ks hf hT hz k hl (by omega) (fun i a b c => hp _ (.inl ⟨i, a, b, c, rfl⟩)) (fun p x q a b c d e => hp _ (.inr (.inl ⟨p, x, q, a, b, c, fun i hi => badI_no d e hi, rfl⟩))) (fun a b => hp _ (.inr (.inr (.inl ⟨a, b, rfl⟩)))) (fun a b => hp _ (.inr (.inr (.inr ⟨a, b, rfl⟩))))
  refine c1 (fun r hr1 => c2 (fun r' hr2 => ?_))
  have er := hr1.uniq hr2
  subst er
  refine Jn.mk' (Ite.t rfl (Ite.t (by rw [eb]; simp) (S_ref07_SameL (by show o.length ≤ maxLen; unfold maxLen; omega) (Ite.t rfl (Ite.t (by simp) (Ite.t (by simp) ?_))))))
  have hgm : l.length ≤ maxLen := by unfold maxLen; omega
  refine S_bank_Way hf hz k hl hgm (fun hno => S_ref21_Way ks hf hT hz k hl hgm (fun _ => S_ref07_SameL (by simp) rfl) (fun _ _ hw _ _ _ => absurd hw hno)) (fun kk p hw hmin hp => S_ref21_Way ks hf hT hz k hl hgm (fun hno => absurd hw hno) (fun kk' p' _ hmin' _ hp' => ?_))
  have pb0 := hp.pb 0 _ hp.hd
  have pb0' := hp'.pb 0 _ hp'.hd
  have e1 := hmin _ pb0'
  have e2 := hmin' _ pb0
  have e : kk = kk' := by omega
  subst e
  have ep := hp.uniq hp' (fun c => Iff.rfl)
  subst ep
  exact S_ref07_SameL (by rw [hp.len]; have := hp.kb; have := hf.len.1; unfold maxLen; omega) rfl
end Go.Taq
