/- The mathematics, part NH: RulesZones. -/
import Derived.Test.YtpcdibgbijddlaaNG
set_option linter.unusedVariables false
set_option linter.unusedSimpArgs false
namespace Go.Taq
open Go

theorem mem_okU {f : ApiFloor} {k : Int} {n : Nat} {x : Int} : x ∈ okU f k n ↔ ∃ j : Nat, j < n ∧ x = (j : Int) ∧ f.Kind.getD j 0 = k := by
  unfold okU
  rw [List.mem_map]
  constructor
  · rintro ⟨j, hj, rfl⟩
    rw [List.mem_filter] at hj
    exact ⟨j, by simpa using hj.1, rfl, by simpa using hj.2⟩
  · rintro ⟨j, h1, rfl, h2⟩
    exact ⟨j, List.mem_filter.2 ⟨by simpa using h1, by rw [h2]; simp⟩, rfl⟩
theorem okU_pw (f : ApiFloor) (k : Int) (n : Nat) : (okU f k n).Pairwise (· < ·) := by
  unfold okU
  rw [List.pairwise_map]
  refine List.Pairwise.imp (R := fun a b : Nat => a < b) (fun h => by omega) (List.Pairwise.filter _ ?_)
  rw [List.range_eq_range']; exact List.pairwise_lt_range'
/-- how many cells are of a kind below k -/
def below (f : ApiFloor) (k : Int) (n : Nat) : Nat := (List.range n).countP fun j => decide (f.Kind.getD j 0 < k)
theorem below_succ (f : ApiFloor) (k : Int) (n : Nat) : below f (k + 1) n = below f k n + (okU f k n).length := by
  unfold below okU
  rw [List.length_map, ← List.countP_eq_length_filter]
  induction n with
  | zero => rfl
  | succ n ih =>
    rw [List.range_succ, List.countP_append, List.countP_append, List.countP_append, ih, List.countP_singleton, List.countP_singleton, List.countP_singleton]
    by_cases h1 : f.Kind.getD n 0 < k
    · have h2 : f.Kind.getD n 0 < k + 1 := by omega
      have h3 : ¬ f.Kind.getD n 0 = k := by omega
      rw [if_pos (decide_eq_true h2), if_pos (decide_eq_true h1), if_neg (by simpa using h3)]; omega
    · by_cases h3 : f.Kind.getD n 0 = k
      · have h2 : f.Kind.getD n 0 < k + 1 := by omega
        rw [if_pos (decide_eq_true h2), if_neg (by rw [decide_eq_true_eq]; exact h1), if_pos (by simpa using h3)]; omega
      · have h2 : ¬ f.Kind.getD n 0 < k + 1 := by omega
        rw [if_neg (by rw [decide_eq_true_eq]; exact h2), if_neg (by rw [decide_eq_true_eq]; exact h1), if_neg (by simpa using h3)]; omega
theorem RF.kd_bd {f : ApiFloor} (h : RF f) {j : Nat} (hj : j < f.Kind.length) : 0 ≤ f.Kind.getD j 0 ∧ f.Kind.getD j 0 < 7 := by
  have hl := h.len.2
  have := h.ko j _ _ (List.getElem?_eq_getElem hj) (List.getElem?_eq_getElem (by omega))
  rw [List.getD_eq_getElem?_getD, List.getElem?_eq_getElem hj]; exact ⟨this.1, this.2.1⟩
theorem below_0 {f : ApiFloor} (h : RF f) : below f 0 f.Kind.length = 0 := by
  unfold below
  rw [List.countP_eq_zero]
  intro j hj
  have := h.kd_bd (j := j) (by simpa using hj)
  simp only [decide_eq_true_eq]; omega
theorem below_7 {f : ApiFloor} (h : RF f) : below f 7 f.Kind.length = f.Kind.length := by
  unfold below
  have : (List.range f.Kind.length).countP (fun j => decide (f.Kind.getD j 0 < 7)) = (List.range f.Kind.length).length := by
    rw [List.countP_eq_length]
    intro j hj
    have := h.kd_bd (j := j) (by simpa using hj)
    simp only [decide_eq_true_eq]; omega
  rw [this]; simp
theorem below_le (f : ApiFloor) (k : Int) (n : Nat) : below f k n ≤ n := by
  unfold below; exact Nat.le_trans (List.countP_le_length ..) (by simp)

theorem spansFrom_to : ∀ {a : Int} {l : List ApiSpan}, spansFrom a l → ∀ x, x ∈ l → x.To ≤ 20000
  | _, [], _, x, h => by simp at h
  | a, y :: l, h, x, hx => by
    obtain ⟨_, _, h3, h4⟩ := h
    rcases List.mem_cons.1 hx with rfl | hx
    · exact h3
    · exact spansFrom_to h4 x hx

theorem zeroOk {n : Nat} (h : n ≤ 8796093022208) : OkApiState { Tick := 0, Shelves := List.replicate n 0, Robots := [], People := [], Dead := [], Stuck := [] } where
  Tick := i64_of (by simp)
  Shelves := ⟨by rw [List.length_replicate]; unfold maxLen; omega, fun x hx => by rw [List.eq_of_mem_replicate hx]; exact i64_of (by decide)⟩
  Robots := ok_ml (by show 0 ≤ 1000; decide) (fun x hx => by cases hx)
  People := ok_ml (by show 0 ≤ 1000; decide) (fun x hx => by cases hx)
  Dead := ok_ml (by show 0 ≤ 1000; decide) (fun x hx => by cases hx)
  Stuck := ok_ml (by show 0 ≤ 1000; decide) (fun x hx => by cases hx)
theorem opn_late {s : ApiSite} (hr : RSite s) {c : Int} (hc : isC s.Floor c = true) : opn s c 20000 = true := by
  unfold opn
  rw [hc]
  by_cases h : zn s c < 0
  · simp [h]
  · have hz := mem_zn (s := s) (c := c) (by omega)
    obtain ⟨i, hR⟩ := hr.zm hz
    have : (s.Zones.getD (zn s c).toNat default).Shut.any (inS 20000) = false := by
      rw [List.any_eq_false]
      intro x hx
      have := spansFrom_to hR.spans x hx
      unfold inS; simp; omega
    rw [this]; simp
theorem open_fold (l : List ApiSpan) (t : Int) : (!l.any (inS t)) = l.all fun x => decide (t < x.From) || decide (t ≥ x.To) := by
  induction l with
  | nil => rfl
  | cons x l ih =>
    rw [List.any_cons, List.all_cons, ← ih, Bool.not_or]
    congr 1
    unfold inS
    by_cases h1 : x.From ≤ t <;> by_cases h2 : t < x.To <;> simp [h1, h2] <;> omega
theorem Said_taquinlaw12_RulesZones (s : ApiSite) (ks : OkApiSite s) (tick : Int) (k2 : I64 tick) (hb : s.Shelves.length ≤ 8796093022208) : V_taquinlaw12_RulesZones s tick (fun y => y = true) := by
  unfold V_taquinlaw12_RulesZones
  refine S_law12_small ⟨⟨by omega, by omega⟩, ?_⟩
  refine S_law12_fits ks (zeroOk hb) (Ite.t rfl rfl) (fun hf => Ite.f rfl ?_)
  have hr := hf.r
  have hfl := hr.fl
  have hrs := hr.rs
  have hlen := hfl.len.1
  have hok := fun k => okU_len s.Floor k s.Floor.Kind.length
  refine Jn.mk (fun n => n = (s.Floor.Kind.length : Int)) ?_ (fun n hn => Ite.f (by rw [hn]; simp) ?_)
  · refine V_upto 7 (fun t : Int × Int => t.2) (fun k t => t.1 = (below s.Floor k s.Floor.Kind.length : Nat)) (by decide) rfl (by rw [show (((0 : Nat) : Int)) = 0 from rfl, below_0 hfl]; rfl) (fun k t hk ht hI => ?_) (fun t h => by show t.1 = _; rw [h]; have := below_7 hfl; exact congrArg Int.ofNat this)
    refine Jn.mk (fun n => n = (below s.Floor ((k + 1 : Nat) : Int) s.Floor.Kind.length : Nat)) (S_rules_OfKind hfl ?_) (fun n hn => ⟨by show w64 (t.2 + 1) = _; rw [ht], hn⟩)
    rw [ht]
    have hlk := hok (k : Int)
    refine Jn.mk (fun _ => True) (V_loopj (xs := okU s.Floor k s.Floor.Kind.length) (by unfold maxLen; omega) (fun t => t) (fun _ _ => True) rfl trivial (fun i x u hx hu _ => ?_) (fun _ _ => trivial)) (fun _ _ => ?_)
    · have hil := (List.getElem?_eq_some_iff.1 hx).1
      obtain ⟨j, hj, hxj, hkj⟩ := mem_okU.1 (List.mem_of_getElem? hx)
      have hc : isC s.Floor x = true := isC_iff.2 (by omega)
      have hkd : kd s.Floor x = k := by unfold kd; rw [hxj]; exact hkj
      refine Jn.mk (fun b => b = false) ⟨x, idx_of hu hx, S_ref07_Is hfl (Ite.t hc (Ite.mk (fun h1 => ?_) (fun _ => rfl)))⟩ (fun b hb => Ite.f hb ?_)
      · cases i with
        | zero => rw [hu] at h1; simp at h1
        | succ m =>
          have hy := List.getElem?_eq_getElem (show m < (okU s.Floor k s.Floor.Kind.length).length by omega)
          refine ⟨_, idx_of (n := m) (by rw [hu, w64_eq (by omega) (by omega)]; unfold imax; split <;> omega) hy, ?_⟩
          have := List.pairwise_iff_getElem.1 (okU_pw s.Floor k s.Floor.Kind.length) m (m + 1) (by omega) hil (by omega)
          have e := (List.getElem?_eq_some_iff.1 hx).2
          rw [e] at this
          exact decide_eq_false (by omega)
      · refine Jn.mk (fun b => b = false) ⟨x, idx_of hu hx, _, idx_kd hc, Ite.f (by rw [hkd]; simp) (S_rules_Stands ?_)⟩ (fun b hb => Ite.f hb ⟨by rw [hu], trivial⟩)
        unfold stB standK; rw [hc, hkd]
        refine Ite.mk (fun h1 => ?_) (fun h1 => ?_)
        · rw [h1]; rfl
        · rw [h1]; cases e : ((k : Int) == 2) <;> rfl
    · have h1 := below_succ s.Floor k s.Floor.Kind.length
      have h2 := below_le s.Floor ((k : Int) + 1) s.Floor.Kind.length
      rw [hI, w64_eq (by omega) (by omega)]
      have e : (((k + 1 : Nat) : Int)) = (k : Int) + 1 := by omega
      rw [e, h1]; simp
  have hst : ∀ {A : Prop}, A → A := fun h => h
  refine Jn.mk (fun _ => True) (V_upto s.Floor.Kind.length (fun t : Int => t) (fun _ _ => True) (by unfold maxLen; omega) rfl trivial (fun c t hc ht _ => ?_) (fun _ _ => trivial)) (fun _ _ => ?_)
  rotate_left
  · refine Jn.mk (fun b => b = true) (Ite.t rfl (S_rules_Open ks hrs (Ite.f ?_ (S_rules_Open ks hrs ?_)))) (fun b hb => hb)
    · unfold opn; rw [isC_not.2 (by omega)]; rfl
    · unfold opn; rw [isC_not.2 (by omega)]; rfl
  have hcC : isC s.Floor t = true := isC_iff.2 (by rw [ht]; omega)
  refine Jn.mk (fun _ => True) ?_ (fun _ _ => ⟨by rw [ht], trivial⟩)
  refine Jn.mk (fun z => z = zn s t) ?_ (fun z hz => ?_)
  · refine V_loopc (xs := s.Zones) ks.Zones.1 (fun u : Int × Int => u.2) (fun i u => u.1 = if zn s t < i then zn s t else -1) rfl (by show (-1 : Int) = _; have := (zn_lt (s := s) (c := t)).1; split <;> omega) (fun i x u hx hu hI => ?_) (fun u h => by show u.1 = _; have := (zn_lt (s := s) (c := t)).2; rw [h, if_pos this])
    have hz := zn_iff hr hx (c := t)
    refine S_ref07_Has (by have := (ks.Zones.2 x (List.mem_of_getElem? hx)).Cells.1; exact this) ?_
    refine Jn.mk (fun v => v = if zn s t < ((i + 1 : Nat) : Int) then zn s t else -1) (Ite.mk (fun h => ?_) (fun h => ?_)) (fun v hv => ⟨by show w64 (u.2 + 1) = _; rw [hu], hv⟩)
    · have := hz.1 h; rw [if_pos (by omega), this]; exact hu
    · have : zn s t ≠ i := fun e => by rw [hz.2 e] at h; cases h
      rw [hI]
      by_cases h1 : zn s t < i
      · rw [if_pos h1, if_pos (by omega)]
      · rw [if_neg h1, if_neg (by omega)]
  subst hz
  refine Jn.mk (fun p : Bool × Int => p = (opn s t tick, spd s t)) (Ite.mk (fun h => ?_) (fun h => ?_)) (fun p hp => ?_)
  · have h0 : 0 ≤ zn s t := by simpa using h
    refine ⟨_, idx_zn h0, ?_⟩
    generalize hZ : s.Zones.getD (zn s t).toNat default = Z
    refine Jn.mk (fun b => b = Z.Shut.all fun x => decide (tick < x.From) || decide (tick ≥ x.To)) ?_ (fun b hb => ?_)
    · have hzi := idx_zn h0
      rw [hZ] at hzi
      have hZm : Z ∈ s.Zones := by rw [← hZ]; exact mem_zn h0
      have hml := (ks.Zones.2 Z hZm).Shut.1
      refine Loop.inv Z.Shut.length (fun i (u : Bool × Int) => u.2 = (i : Int) ∧ u.1 = (Z.Shut.take i).all fun x => decide (tick < x.From) || decide (tick ≥ x.To)) ⟨rfl, rfl⟩ (fun i u hi hI => ?_) (fun u hI => ?_)
      · obtain ⟨h1, h2⟩ := hI
        have hx := List.getElem?_eq_getElem hi
        generalize Z.Shut[i] = x at hx
        refine ⟨Z, hzi, Ite.lt (by omega) ⟨x, idx_of h1 hx, ?_⟩⟩
        refine Jn.mk (fun b => b = (u.1 && (decide (tick < x.From) || decide (tick ≥ x.To)))) (Ite.mk (fun g => Ite.mk (fun g1 => ?_) (fun g1 => ?_)) (fun g => ?_)) (fun b hb => ⟨by show w64 (u.2 + 1) = _; rw [h1]; exact w64_nat hi hml, ?_⟩)
        · rw [g, g1]; rfl
        · rw [g, g1]; rfl
        · rw [g]; rfl
        · show b = _
          rw [hb, h2, take_succ hx, List.all_append]; simp
      · obtain ⟨h1, h2⟩ := hI
        refine ⟨Z, hzi, Ite.nlt (by omega) ?_⟩
        rw [List.take_length] at h2; exact h2
    · subst hb
      show (_, _) = (_, _)
      unfold opn spd
      rw [hcC, hZ, if_neg (by omega), ← open_fold, decide_eq_false (by omega)]; simp
  · have h0 : zn s t < 0 := by simpa using h
    show (_, _) = (_, _)
    unfold opn spd
    rw [hcC, if_pos h0, decide_eq_true h0]; simp
  · subst hp
    refine Jn.mk (fun b => b = false) (S_rules_ZoneOf ks hrs (Ite.f (by simp) (S_rules_Speed ks hrs (Ite.f (by simp) (S_rules_Open ks hrs (Ite.t (by simp) (S_rules_Open ks hrs (by rw [opn_late hr hcC]; rfl)))))))) (fun b hb => Ite.f hb trivial)
end Go.Taq
