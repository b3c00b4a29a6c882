/- The mathematics, part NI: RulesRoom. -/
import Derived.Test.YtpcdibgbijddlaaNG
set_option linter.unusedVariables false
set_option linter.unusedSimpArgs false
namespace Go.Taq
open Go

/-- the state in which all shelves stand where the site says -/
def firstS (s : ApiSite) : ApiState := { Tick := 0, Shelves := s.Shelves.map (·.Cell), Robots := [], People := [], Dead := [], Stuck := [] }
section
variable {s : ApiSite}
theorem first_car (s : ApiSite) (i : Int) : carB (firstS s) i = false := by
  unfold carB carr firstS; split <;> simp [fidx]
theorem first_get {i : Nat} {x : ApiShelf} (h : s.Shelves[i]? = some x) : (firstS s).Shelves.getD i 0 = x.Cell := by
  simp [firstS, List.getD_eq_getElem?_getD, h]
theorem first_at (c : Int) : atS (firstS s) c = shAt s.Shelves c := by
  have hl : (firstS s).Shelves.length = s.Shelves.length := by simp [firstS]
  unfold shAt
  rcases fidx_cases (fun x : ApiShelf => x.Cell == c) s.Shelves with ⟨i, x, hx, e, hp, hb⟩ | ⟨e, hb⟩
  · rw [e]
    have hi := (List.getElem?_eq_some_iff.1 hx).1
    refine fnat_some (by rw [hl]; exact hi) (by unfold atP; rw [first_get hx, first_car]; simpa using hp) (fun j hj => ?_)
    have hy : s.Shelves[j]? = some (s.Shelves[j]'(by omega)) := List.getElem?_eq_getElem _
    have := hb j _ hj hy
    unfold atP; rw [first_get hy, this]; rfl
  · rw [e]
    refine fnat_none fun j hj => ?_
    have hj' : j < s.Shelves.length := by rw [← hl]; exact hj
    have hy : s.Shelves[j]? = some (s.Shelves[j]'hj') := List.getElem?_eq_getElem _
    have := hb _ (List.mem_of_getElem? hy)
    unfold atP; rw [first_get hy, this]; rfl
theorem first_roomP (hr : RSite s) {c : Int} (hc : isC s.Floor c = true) : roomP s (firstS s) c = blankB s c := by
  unfold roomP blankB stB; rw [first_at, hc]; simp
theorem first_room (hr : RSite s) (z : Int) : ¬ roomS s (firstS s) z < 0 := by
  unfold roomS
  split
  · omega
  · rename_i h
    have hz : s.Zones[z.toNat]? = some (s.Zones[z.toNat]'(by omega)) := List.getElem?_eq_getElem _
    have hg : s.Zones.getD z.toNat default = s.Zones[z.toNat]'(by omega) := by rw [List.getD_eq_getElem?_getD, hz]; rfl
    rw [hg]
    have h1 := hr.room _ (List.mem_of_getElem? hz)
    have h2 := fun c hc => ((hr.zone _ _ hz).cell c hc).1
    have h3 : (s.Zones[z.toNat]'(by omega)).Cells.countP (roomP s (firstS s)) = (s.Zones[z.toNat]'(by omega)).Cells.countP (blankB s) := List.countP_congr fun c hc => by rw [first_roomP hr (h2 c hc)]
    omega
theorem shAt_cell (hr : RSite s) {i : Nat} {x : ApiShelf} (hx : s.Shelves[i]? = some x) : shAt s.Shelves x.Cell = i := by
  have hi := (List.getElem?_eq_some_iff.1 hx).1
  unfold shAt
  rcases fidx_cases (fun y : ApiShelf => y.Cell == x.Cell) s.Shelves with ⟨j, y, hy, e, hp, hb⟩ | ⟨e, hb⟩
  · have h1 : ¬ i < j := fun h => by have := hb i x h hx; simp at this
    have h2 : ¬ j < i := fun h => by
      have := (hr.sh i x hx).2.2
      unfold shAt at this
      rcases fidx_cases (fun y : ApiShelf => y.Cell == x.Cell) (s.Shelves.take i) with ⟨q, w, hw, e', _⟩ | ⟨e', hb'⟩
      · rw [e'] at this; omega
      · have := hb' y (List.mem_of_getElem? (i := j) (by rw [List.getElem?_take, if_pos h]; exact hy))
        rw [hp] at this; cases this
    rw [e]; omega
  · have := hb x (List.mem_of_getElem? hx); simp at this
theorem clsS_get {i : Nat} {x : ApiShelf} (hx : s.Shelves[i]? = some x) : clsS s i = x.Class := by
  have hi := (List.getElem?_eq_some_iff.1 hx).1
  unfold clsS; rw [if_pos (by omega), show ((i : Nat) : Int).toNat = i by omega, List.getD_eq_getElem?_getD, hx]; rfl
theorem first_apart (hr : RSite s) : (apartS s (firstS s)).2.2 = false := by
  cases e : (apartS s (firstS s)).2.2 with
  | false => rfl
  | true =>
    exfalso
    obtain ⟨a, b, hab, hb, hbad⟩ := apartS_iff.1 e
    have hl : (firstS s).Shelves.length = s.Shelves.length := by simp [firstS]
    rw [hl] at hb
    have hxa : s.Shelves[a]? = some (s.Shelves[a]'(by omega)) := List.getElem?_eq_getElem _
    have hxb : s.Shelves[b]? = some (s.Shelves[b]'hb) := List.getElem?_eq_getElem _
    generalize s.Shelves[a]'(by omega) = x at hxa
    generalize s.Shelves[b]'hb = y at hxb
    unfold badP at hbad
    rw [first_get hxa, first_get hxb, clsS_get hxa, clsS_get hxb] at hbad
    simp only [Bool.and_eq_true] at hbad
    have ca := (hr.sh a x hxa).1
    have cb := (hr.sh b y hxb).1
    have hn := hbad.1.1.1
    rw [nearB_comm hr.fl ca cb] at hn
    unfold nearB at hn
    rw [ca, Bool.true_and, List.any_eq_true] at hn
    obtain ⟨d, hd, he⟩ := hn
    have he' : nbr s.Floor y.Cell d = x.Cell := by simpa using he
    have hd' : 0 ≤ d ∧ d < 4 := by simp at hd; omega
    refine hr.apart b d hd'.1 hd'.2 ⟨y, x, hxb, ?_, ?_, ?_, ?_, ?_⟩
    · rw [he']; exact (isC_iff.1 ca).1
    · rw [he', shAt_cell hr hxa]; omega
    · rw [he', shAt_cell hr hxa]; omega
    · rw [he', shAt_cell hr hxa]; exact idx_of rfl hxa
    · have := hbad.1.1.2; rw [nev_comm] at this; exact this
end
theorem Said_taquinlaw12_RulesRoom (s : ApiSite) (ks : OkApiSite s) (st : ApiState) (k : OkApiState st) : V_taquinlaw12_RulesRoom s st (fun y => y = true) := by
  unfold V_taquinlaw12_RulesRoom
  refine S_law12_small (S_law12_fits ks k (Ite.t rfl rfl) (fun hf => Ite.f rfl ?_))
  have hsl := hf.sl
  have hsl2 : s.Shelves.length ≤ 20 := by rw [← hf.len]; exact hsl
  have hfl := hf.r.fl
  refine Jn.mk (fun l => l = s.Shelves.map (·.Cell)) (V_loopc ks.Shelves.1 (fun t : List Int × Int => t.2) (fun n (t : List Int × Int) => t.1 = (s.Shelves.take n).map (·.Cell)) rfl rfl (fun n x t hx ht hI => ⟨by rw [hI]; simp; omega, by rw [ht], by rw [take_succ hx, List.map_append, hI]; rfl⟩) (fun t h => by rwa [List.take_length] at h)) (fun l hl => ?_)
  subst hl
  have hst1 : ({ Tick := 0, Shelves := s.Shelves.map (·.Cell), Robots := [], People := [], Dead := [], Stuck := [] } : ApiState) = firstS s := rfl
  rw [hst1]
  have kf : OkApiState (firstS s) := ⟨i64_of (x := 0) (by decide), ⟨by simp [firstS]; exact ks.Shelves.1, fun x hx => by
    simp only [firstS, List.mem_map] at hx
    obtain ⟨y, hy, rfl⟩ := hx
    exact (ks.Shelves.2 y hy).Cell⟩, ok_ml (by simp [firstS]) (fun x hx => by simp [firstS] at hx), ok_ml (by simp [firstS]) (fun x hx => by simp [firstS] at hx), ok_ml (by simp [firstS]) (fun x hx => by simp [firstS] at hx), ok_ml (by simp [firstS]) (fun x hx => by simp [firstS] at hx)⟩
  have hflen : (firstS s).Shelves.length ≤ 1000000 := by simp [firstS]; omega
  refine Jn.mk (fun b => b = keepS s st) (V_loopj (xs := s.Zones) ks.Zones.1 (fun t : Int × Int => t.2) (fun n (t : Int × Int) => (t.1 = -1 ∧ ∀ i : Nat, i < n → ¬ roomS s st i < 0) ∨ (0 ≤ t.1 ∧ t.1 = keepS s st)) rfl (.inl ⟨rfl, fun i h => by omega⟩) (fun n z t hz ht hI => ?_) (fun t h => ?_)) (fun bad hbad => ?_)
  · have hn := (List.getElem?_eq_some_iff.1 hz).1
    have hzg : s.Zones.getD n default = z := by rw [List.getD_eq_getElem?_getD, hz]; rfl
    have kz := ks.Zones.2 z (List.mem_of_getElem? hz)
    obtain ⟨z1, z2⟩ := hf.zn z (List.mem_of_getElem? hz)
    have z3 : z.Keep ≤ 9223372036854775807 := kz.Keep.2
    rw [ht]
    have hle := List.countP_le_length (p := roomP s st) (l := z.Cells)
    have hroom : roomS s st n = (z.Cells.countP (roomP s st) : Nat) - z.Keep := by
      unfold roomS; rw [if_neg (by omega), show ((n : Nat) : Int).toNat = n by omega, hzg]
    refine Jn.mk (fun b => (b = -1 ∧ ∀ i : Nat, i < n + 1 → ¬ roomS s st i < 0) ∨ (0 ≤ b ∧ b = keepS s st)) (Jn.mk (fun q => q = ((z.Cells.countP (roomP s st) : Nat) : Int)) (Loop.mk (fun t : Int × Int => ∃ m : Nat, t.2 = (m : Int) ∧ m ≤ z.Cells.length ∧ t.1 = (((z.Cells.take m).countP (roomP s st) : Nat) : Int)) (fun t => z.Cells.length - t.2.toNat) ⟨0, rfl, by omega, rfl⟩ ?_) (fun q hq => ?_)) (fun b hb => ⟨rfl, hb⟩)
    · rintro ⟨q, ti⟩ ⟨m, rfl, hm, hq⟩
      simp only at hq
      refine ⟨z, idx_of rfl hz, Ite.mk (fun h => ?_) (fun h => ?_)⟩
      · simp at h
        have hx : z.Cells[m]? = some (z.Cells[m]'h) := List.getElem?_eq_getElem h
        generalize z.Cells[m]'h = c at hx
        have hcl := countP_le (roomP s st) z.Cells m
        refine ⟨c, idx_of rfl hx, Jn.mk (fun b => b = roomP s st c) (S_rules_Stands (Ite.mk (fun h1 => S_rules_At k (by omega) ?_) (fun h1 => ?_))) (fun b hb => Jn.mk (fun r => r = (((z.Cells.take (m + 1)).countP (roomP s st) : Nat) : Int)) ?_ (fun r hr => ⟨⟨m + 1, w64_nat h kz.Cells.1, by omega, hr⟩, ?_⟩))⟩
        · have := atS_bd st c
          unfold roomP; rw [h1, Bool.true_and]
          show (atS st c == -1) = decide (atS st c < 0)
          rw [Bool.eq_iff_iff, beq_iff_eq, decide_eq_true_eq]; omega
        · unfold roomP; rw [h1]; rfl
        · rw [countP_take' hx]
          subst hb
          refine Ite.mk (fun h2 => ?_) (fun h2 => ?_)
          · rw [hq, h2, w64_eq (by omega) (by omega)]; simp
          · rw [hq, h2]; simp
        · rw [w64_nat h kz.Cells.1]
          have e1 : ((m + 1 : Nat) : Int).toNat = m + 1 := by omega
          have e2 : ((m : Nat) : Int).toNat = m := by omega
          rw [e1, e2]; omega
      · simp at h
        have : m = z.Cells.length := by omega
        subst this
        show q = _
        rw [hq, List.take_length]
    · refine ⟨z, idx_of rfl hz, S_rules_Room ks k (by omega) hf.zn (Ite.f ?_ ?_)⟩
      · rw [hq, hroom, w64_eq (by omega) (by omega)]; simp
      · have hlt : decide (q < z.Keep) = decide (roomS s st n < 0) := by rw [hq, hroom, Bool.eq_iff_iff, decide_eq_true_eq, decide_eq_true_eq]; omega
        rw [hlt]
        refine Jn.mk (fun b => b = (decide (t.1 < 0) && decide (roomS s st n < 0))) (Ite.mk (fun h => by rw [h]; rfl) (fun h => by rw [h]; rfl)) (fun b hb => Jn.mk' (Ite.mk (fun h => ?_) (fun h => ?_)))
        · rw [hb] at h
          simp at h
          rcases hI with ⟨h1, h2⟩ | ⟨h1, _⟩
          · exact .inr ⟨by omega, (fnat_some hn (by simpa using h.2) (fun j hj => by simpa using h2 j hj)).symm⟩
          · omega
        · rw [hb] at h
          rcases hI with ⟨h1, h2⟩ | h1
          · refine .inl ⟨h1, fun i hi => ?_⟩
            by_cases e : i = n
            · subst e; rw [h1] at h; simpa using h
            · exact h2 i (by omega)
          · exact .inr h1
  · rcases h with ⟨h1, h2⟩ | ⟨_, h2⟩
    · show t.1 = _
      rw [h1]; exact (fnat_none fun i hi => by simpa using h2 i hi).symm
    · exact h2
  · have hc1 : ∀ c, c ∈ (firstS s).Shelves → isC s.Floor c = true := fun c hc => by
      simp only [firstS, List.mem_map] at hc
      obtain ⟨x, hx, rfl⟩ := hc
      obtain ⟨i, hi⟩ := List.getElem?_of_mem hx
      exact (hf.r.sh i x hi).1
    have hk1 : keepS s (firstS s) = -1 := fnat_none fun i _ => by simpa using first_room hf.r (i : Int)
    refine S_rules_Apart ks kf hfl hflen hc1 (Jn.mk' (Ite.t rfl (S_rules_Keeps ks k (by omega) hf.zn (Ite.t (by rw [hbad]; simp) (S_rules_Keeps ks kf hflen hf.zn (Ite.t (by rw [hk1]; decide) (Ite.f (first_apart hf.r) (S_rules_Room ks k (by omega) hf.zn (Ite.t (by unfold roomS; simp) (S_rules_Room ks k (by omega) hf.zn ?_))))))))))
    unfold roomS; simp
end Go.Taq
