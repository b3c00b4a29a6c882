/- The mathematics, several parts in one text. -/
import Derived.Test.YtbpbennpgnjbkaaGreatOE
/- The mathematics, part OF: actions keep what they need; examples; ActTells. -/
set_option linter.unusedVariables false
set_option linter.unusedSimpArgs false
namespace Go.Taq
open Go

section
variable {s : ApiSite} {st : ApiState}
theorem nwS_len (r : ApiRobot) (a : Int) : (nwS s st r a).length = st.Shelves.length := by unfold nwS; split <;> simp
theorem nwS_mem (h : LS s st) (r : ApiRobot) (a : Int) {c : Int} (hc : c ∈ nwS s st r a) : isC s.Floor c = true := by
  unfold nwS at hc
  split at hc
  · rename_i hif
    simp only [Bool.and_eq_true] at hif
    rcases List.mem_or_eq_of_mem_set hc with e | e
    · exact h.cell c e
    · rw [e]; exact (nx_ok h.fl hif.1.2).2.1
  · exact h.cell c hc
theorem nwR_cell (h : LS s st) {n : Nat} {r : ApiRobot} (hx : st.Robots[n]? = some r) (a : Int) : isC s.Floor (nwR s st r a).Cell = true := by
  unfold nwR
  split
  · rename_i hif
    simp only [Bool.and_eq_true] at hif
    exact (nx_ok h.fl hif.2).2.1
  · exact (h.rob n r hx).1
theorem nwR_load (r : ApiRobot) (a : Int) : (nwR s st r a).Load = lod st r a := by unfold nwR; split <;> rfl
theorem nwR_charge (r : ApiRobot) (a : Int) : (nwR s st r a).Charge = chg st r a := by unfold nwR; split <;> rfl
theorem nwR_mute (r : ApiRobot) (a : Int) : (nwR s st r a).Mute = r.Mute ∧ (nwR s st r a).Dead = r.Dead := by unfold nwR; split <;> exact ⟨rfl, rfl⟩
theorem nwR_rest (h : LS s st) (r : ApiRobot) (a : Int) : (nwR s st r a).Rest = r.Rest ∨ 0 ≤ (nwR s st r a).Rest ∧ (nwR s st r a).Rest ≤ 100 := by
  unfold nwR; split
  · have := spd_bd h.rs (nx s.Floor r.Cell (a - 1)).1
    right; simp only; omega
  · exact .inl rfl
theorem put_get {α : Type} {l : List α} {n j : Nat} {a x : α} (h : (l.set n a)[j]? = some x) : (j = n ∧ n < l.length ∧ x = a) ∨ (j ≠ n ∧ l[j]? = some x) := by
  rw [List.getElem?_set] at h
  split at h
  · split at h
    · cases h; exact .inl ⟨by omega, by assumption, rfl⟩
    · cases h
  · exact .inr ⟨by omega, h⟩
theorem isC_i64 (hf : RF s.Floor) {c : Int} (h : isC s.Floor c = true) : I64 c := by
  have := isC_iff.1 h; have := hf.len.1
  exact i64_of (by omega)
theorem doR_ls (k : OkApiState st) (h : LS s st) {n : Nat} {r : ApiRobot} (hx : st.Robots[n]? = some r) (a : Int) : LS s (doR s st n r a) ∧ OkApiState (doR s st n r a) := by
  unfold doR
  split
  · exact ⟨h, k⟩
  have hlt := (List.getElem?_eq_some_iff.1 hx).1
  have hr := k.Robots.2 r (List.mem_of_getElem? hx)
  have hb := lod_bd h hx a
  have h3 := h.sz.sh
  have hmx : (1000000 : Nat) ≤ maxLen := by decide
  refine ⟨⟨h.fl, h.rs, ⟨by simp only; rw [nwS_len]; exact h.sz.sh, by simp only; rw [List.length_set]; exact h.sz.rb, h.sz.pp, h.sz.dd, h.sz.sk⟩, fun c hc => nwS_mem h r a hc, fun i x hxi => ?_⟩, ⟨k.Tick, ⟨by rw [nwS_len]; exact k.Shelves.1, fun c hc => isC_i64 h.fl (nwS_mem h r a hc)⟩, ⟨by rw [List.length_set]; exact k.Robots.1, fun x hxm => ?_⟩, k.People, k.Dead, k.Stuck⟩⟩
  · show _ ∧ _ ∧ x.Load < ((nwS s st r a).length : Int)
    rw [nwS_len]
    rcases put_get hxi with ⟨_, _, e⟩ | ⟨_, e⟩
    · subst e; rw [nwR_load]; exact ⟨nwR_cell h hx a, hb.1, hb.2⟩
    · exact h.rob i x e
  · rcases List.mem_or_eq_of_mem_set hxm with e | e
    · exact k.Robots.2 x e
    · subst e
      refine ⟨isC_i64 h.fl (nwR_cell h hx a), ?_, ?_, ?_, ?_, trivial⟩
      · rw [nwR_load]; exact i64_of (by omega)
      · rw [nwR_charge]; exact chg_bd k hx a
      · rcases nwR_rest h r a with e | e
        · rw [e]; exact hr.Rest
        · exact i64_of (by omega)
      · rw [(nwR_mute r a).1]; exact hr.Mute
theorem doS_ls (k : OkApiState st) (h : LS s st) (i a : Int) : LS s (doS s st i a) ∧ OkApiState (doS s st i a) := by
  unfold doS
  split
  · exact ⟨h, k⟩
  · obtain ⟨n, hn⟩ := Int.eq_ofNat_of_zero_le (show 0 ≤ i by omega)
    have hlt : n < st.Robots.length := by omega
    have hx := List.getElem?_eq_getElem hlt
    rw [hn]; show LS s (doR s st n (st.Robots.getD n default) a) ∧ OkApiState (doR s st n (st.Robots.getD n default) a)
    rw [getD_r hx]; exact doR_ls k h hx a
theorem RSt.cells (h : RSt s st) : ∀ c, c ∈ st.Shelves → isC s.Floor c = true := by
  intro c hc
  obtain ⟨i, hi⟩ := List.getElem?_of_mem hc
  cases hb : carB st i with
  | true =>
    rw [carB_any (by omega)] at hb
    obtain ⟨r, hr, hl⟩ := List.any_eq_true.1 hb
    obtain ⟨j, hj⟩ := List.getElem?_of_mem hr
    have hR := h.rob j r hj
    have hl' : r.Load = (i : Int) := by simpa using hl
    have := (hR.own (by omega)).2
    rw [hl'] at this
    have e : st.Shelves.getD i 0 = c := getD_i hi
    rw [← e]; show isC s.Floor (st.Shelves.getD ((i : Int)).toNat 0) = true
    rw [this]; exact hR.cell
  | false =>
    have := h.shel i c hi hb
    unfold kx at this
    cases hic : isC s.Floor c with
    | true => rfl
    | false => rw [hic] at this; simp at this
theorem Fair.ls (h : Fair s st) : LS s st := ⟨h.r.fl, h.r.rs, h.f12.sz, h.rst.cells, fun i r hr => ⟨(h.rst.rob i r hr).cell, (h.rst.rob i r hr).load.1, (h.rst.rob i r hr).load.2⟩⟩
end
/-! ## the example -/
theorem legS_ok {s : ApiSite} {st : ApiState} {i a : Int} (h : legS s st i a = 0) : (0 ≤ i ∧ i < st.Robots.length) ∧ 0 ≤ a ∧ a < 10 := by
  unfold legS at h
  split at h
  · cases h
  · unfold legR at h
    split at h
    · cases h
    · omega
end Go.Taq

/- The mathematics, part OG: ActAlone. -/
set_option linter.unusedVariables false
set_option linter.unusedSimpArgs false
namespace Go.Taq
open Go

section
variable {s : ApiSite} {st : ApiState}
theorem doS_eq {i a : Int} {n : Nat} {r : ApiRobot} (hn : i = n) (hx : st.Robots[n]? = some r) : doS s st i a = doR s st n r a := by
  have hlt := (List.getElem?_eq_some_iff.1 hx).1
  subst hn
  unfold doS
  rw [if_neg (by omega)]
  show doR s st n (st.Robots.getD n default) a = _
  rw [getD_r hx]
theorem legS_eq {i a : Int} {n : Nat} {r : ApiRobot} (hn : i = n) (hx : st.Robots[n]? = some r) : legS s st i a = legR s st r a := by
  have hlt := (List.getElem?_eq_some_iff.1 hx).1
  subst hn
  unfold legS
  rw [if_neg (by omega)]
  show legR s st (st.Robots.getD n default) a = _
  rw [getD_r hx]
theorem doR_rl (n : Nat) (r : ApiRobot) (a : Int) : (doR s st n r a).Robots.length = st.Robots.length := by unfold doR; split <;> simp
theorem doR_sl (n : Nat) (r : ApiRobot) (a : Int) : (doR s st n r a).Shelves.length = st.Shelves.length := by
  unfold doR; split
  · rfl
  · exact nwS_len r a
theorem set_same {α : Type} {l : List α} {n : Nat} {x : α} (h : l[n]? = some x) : l.set n x = l := by
  have := set_idx (xs := l) (i := (n : Int)) (x := x) (idx_of rfl h)
  simpa using this
/-- a legal move has a way -/
theorem leg_move {r : ApiRobot} {a : Int} (hm : mvB a = true) (hd : r.Dead = false) (h : legR s st r a = 0) : (nx s.Floor r.Cell (a - 1)).2 = true ∧ r.Rest ≤ 0 ∧ movS s st r (a - 1) = 0 := by
  have h1 := mvB_iff.1 hm
  unfold legR at h
  rw [if_neg (by omega), if_neg (by omega)] at h
  split at h
  · cases h
  split at h
  · cases h
  rename_i hb
  split at h
  · cases h
  refine ⟨?_, ?_, h⟩
  · unfold movS at h
    split at h
    · cases h
    · rename_i hc
      cases e : (nx s.Floor r.Cell (a - 1)).2 with
      | true => rfl
      | false => exact absurd (by rw [e]; rfl) hc
  · rw [hm] at hb; simpa using hb
end
end Go.Taq

/- The mathematics, part OH: ActLifts. -/
set_option linter.unusedVariables false
set_option linter.unusedSimpArgs false
namespace Go.Taq
open Go

section
variable {st : ApiState}
theorem shelf_mem {a : Nat} (ha : a < st.Shelves.length) : st.Shelves.getD a 0 ∈ st.Shelves := by rw [getD_i (List.getElem?_eq_getElem ha)]; exact List.getElem_mem ha
theorem atS_pos {c : Int} (h : 0 ≤ atS st c) : ∃ i : Nat, i < st.Shelves.length ∧ atS st c = i ∧ st.Shelves.getD i 0 = c ∧ carB st i = false := by
  rcases fnat_cases (atP st c) st.Shelves.length with ⟨i, hi, e, hp, _⟩ | ⟨e, _⟩
  · refine ⟨i, hi, e, ?_⟩
    unfold atP at hp; simpa using hp
  · unfold atS at h; rw [e] at h; omega
end
end Go.Taq

/- The mathematics, part OI: ActRefuses. -/
set_option linter.unusedVariables false
set_option linter.unusedSimpArgs false
namespace Go.Taq
open Go

section
variable {s : ApiSite} {st : ApiState}
theorem legS_stay {i : Int} (h : 0 ≤ i ∧ i < st.Robots.length) : legS s st i 0 = 0 := by
  unfold legS; rw [if_neg (by omega)]; unfold legR; rw [if_neg (by omega), if_pos rfl]
theorem leg_split {r : ApiRobot} {a : Int} (ha : 1 ≤ a ∧ a < 10) (h : legR s st r a = 0) : (mvB a = true → r.Rest ≤ 0 ∧ movS s st r (a - 1) = 0) ∧ (a = 7 → r.Load < 0 ∧ 0 ≤ atS st r.Cell) ∧ (a = 8 → 0 ≤ r.Load ∧ stB s r.Cell = true) ∧ (a = 9 → kd s.Floor r.Cell = 3) := by
  unfold legR at h
  rw [if_neg (by omega), if_neg (by omega)] at h
  split at h
  · cases h
  split at h
  · cases h
  rename_i hb
  split at h
  · cases h
  refine ⟨fun hm => ?_, fun e => ?_, fun e => ?_, fun e => ?_⟩
  · rw [if_pos hm] at h; rw [hm] at hb; exact ⟨by simpa using hb, h⟩
  · rw [if_neg (by rw [mvB_iff]; omega), if_pos e] at h
    split at h
    · cases h
    split at h
    · cases h
    exact ⟨by omega, by omega⟩
  · rw [if_neg (by rw [mvB_iff]; omega), if_neg (by omega), if_pos e] at h
    split at h
    · cases h
    refine ⟨by omega, ?_⟩
    unfold dropS at h
    split at h
    · cases h
    split at h
    · cases h
    rename_i hst
    cases e2 : stB s r.Cell with
    | true => rfl
    | false => exact absurd e2 hst
  · rw [if_neg (by rw [mvB_iff]; omega), if_neg (by omega), if_neg (by omega)] at h
    split at h
    · assumption
    · cases h
theorem mov_split {r : ApiRobot} {d : Int} (h : movS s st r d = 0) : (nx s.Floor r.Cell d).2 = true ∧ st.Dead.contains (nx s.Floor r.Cell d).1 = false ∧ opn s (nx s.Floor r.Cell d).1 st.Tick = true ∧ (allS st).contains (low (nx s.Floor r.Cell d).1) = false ∧ (0 ≤ r.Load → (allS st).contains (high (nx s.Floor r.Cell d).1) = false) := by
  unfold movS at h
  split at h
  · cases h
  rename_i h1
  split at h
  · cases h
  split at h
  · cases h
  rename_i h3
  split at h
  · cases h
  rename_i h4
  simp only [Bool.or_eq_true, Bool.not_eq_true', not_or, Bool.not_eq_true, Bool.not_eq_false, Bool.and_eq_true, decide_eq_true_eq, not_and] at h1 h3 h4
  exact ⟨h1.1, h1.2, h3, h4.1, h4.2⟩
end
end Go.Taq
