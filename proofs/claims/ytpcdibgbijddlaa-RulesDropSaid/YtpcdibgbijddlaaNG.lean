/- The mathematics, part NG: being near is symmetric; zones are apart; what changes where a shelf is put. -/
import Derived.Test.YtpcdibgbijddlaaNF
set_option linter.unusedVariables false
set_option linter.unusedSimpArgs false
namespace Go.Taq
open Go

theorem cellF_in {f : ApiFloor} {x y z : Int} (h : 0 ≤ cellF f x y z) : 0 ≤ x ∧ x < f.W ∧ 0 ≤ y ∧ y < f.H ∧ 0 ≤ z ∧ z < f.D := by
  unfold cellF at h
  split at h
  · assumption
  · omega
theorem p_cellF {f : ApiFloor} (hf : RF f) {x y z : Int} (h : 0 ≤ x ∧ x < f.W ∧ 0 ≤ y ∧ y < f.H ∧ 0 ≤ z ∧ z < f.D) : pX f (cellF f x y z) = x ∧ pY f (cellF f x y z) = y ∧ pZ f (cellF f x y z) = z := by
  have e : cellF f x y z = (z * f.H + y) * f.W + x := by unfold cellF; rw [if_pos h]
  have w := hf.W1; have hh := hf.H1
  have d1 : ((z * f.H + y) * f.W + x) / f.W = z * f.H + y := by
    rw [Int.add_comm, Int.add_mul_ediv_right _ _ (by omega), Int.ediv_eq_zero_of_lt h.1 h.2.1]; omega
  have d2 : (z * f.H + y) / f.H = z := by
    rw [Int.add_comm, Int.add_mul_ediv_right _ _ (by omega), Int.ediv_eq_zero_of_lt h.2.2.1 h.2.2.2.1]; omega
  unfold pX pY pZ
  rw [e, d1, d2]
  refine ⟨?_, ?_, rfl⟩
  · rw [Int.add_comm, Int.add_mul_emod_self_right, Int.emod_eq_of_lt h.1 h.2.1]
  · rw [Int.add_comm, Int.add_mul_emod_self_right, Int.emod_eq_of_lt h.2.2.1 h.2.2.2.1]
theorem cellF_p {f : ApiFloor} (hf : RF f) {c : Int} (hc : isC f c = true) : cellF f (pX f c) (pY f c) (pZ f c) = c := by
  have hb := p_bd hf hc
  unfold cellF; rw [if_pos hb]
  unfold pX pY pZ
  have w := hf.W1; have hh := hf.H1
  have e1 : c / f.W / f.H * f.H + c / f.W % f.H = c / f.W := by rw [Int.mul_comm]; exact Int.mul_ediv_add_emod ..
  rw [e1, Int.mul_comm]
  exact Int.mul_ediv_add_emod ..
theorem nbr_back {f : ApiFloor} (hf : RF f) {a b d : Int} (hb : isC f b = true) (hd : 0 ≤ d ∧ d < 4) (h : nbr f a d = b) : isC f a = true ∧ nbr f b (if d < 2 then d + 2 else d - 2) = a := by
  have ha : isC f a = true := by
    cases e : isC f a with
    | true => rfl
    | false => unfold nbr at h; rw [if_pos e] at h; rw [isC_iff] at hb; omega
  refine ⟨ha, ?_⟩
  have hb0 : 0 ≤ b := (isC_iff.1 hb).1
  have hd' : d = 0 ∨ d = 1 ∨ d = 2 ∨ d = 3 := by omega
  rcases hd' with rfl | rfl | rfl | rfl <;> (
    simp only [nbr, ha, hb, Bool.true_eq_false, if_false, reduceCtorEq] at h ⊢
    simp at h ⊢
    obtain ⟨q1, q2, q3⟩ := p_cellF hf (cellF_in (by rw [h]; exact hb0))
    rw [h] at q1 q2 q3
    rw [q1, q2, q3]
    have := cellF_p hf ha
    simpa using this)
theorem nearB_comm {f : ApiFloor} (hf : RF f) {a b : Int} (ha : isC f a = true) (hb : isC f b = true) : nearB f a b = nearB f b a := by
  have key : ∀ {a b : Int}, isC f a = true → isC f b = true → nearB f a b = true → nearB f b a = true := fun {a b} ha hb h => by
    unfold nearB at h ⊢
    rw [hb, Bool.true_and, List.any_eq_true] at h
    obtain ⟨d, hd, e⟩ := h
    have hd' : 0 ≤ d ∧ d < 4 := by simp at hd; omega
    obtain ⟨_, h2⟩ := nbr_back hf hb hd' (by simpa using e)
    rw [ha, Bool.true_and, List.any_eq_true]
    refine ⟨if d < 2 then d + 2 else d - 2, ?_, by simp [h2]⟩
    simp at hd; rcases hd with rfl | rfl | rfl | rfl <;> decide
  rw [Bool.eq_iff_iff]; exact ⟨key ha hb, key hb ha⟩

/-- the zone of a cell is the only one that has it -/
theorem zn_iff {s : ApiSite} (hr : RSite s) {i : Nat} {z : ApiZone} (hz : s.Zones[i]? = some z) {c : Int} : z.Cells.contains c = true ↔ zn s c = i := by
  have hi := (List.getElem?_eq_some_iff.1 hz).1
  constructor
  · intro h
    rcases fidx_cases (fun z : ApiZone => z.Cells.contains c) s.Zones with ⟨j, y, hy, e, hp, hb⟩ | ⟨e, hb⟩
    · have h1 : ¬ i < j := fun hlt => by have := hb i z hlt hz; rw [h] at this; cases this
      have h2 : ¬ j < i := fun hlt => by
        have := ((hr.zone i z hz).cell c (by simpa using h)).2.2
        unfold zAt at this
        rw [List.any_eq_false] at this
        exact this y (List.mem_of_getElem? (i := j) (by rw [List.getElem?_take, if_pos hlt]; exact hy)) hp
      unfold zn; rw [e]; omega
    · have := hb z (List.mem_of_getElem? hz); rw [h] at this; cases this
  · intro h
    rcases fidx_cases (fun z : ApiZone => z.Cells.contains c) s.Zones with ⟨j, y, hy, e, hp, hb⟩ | ⟨e, hb⟩
    · unfold zn at h; rw [e] at h
      have : j = i := by omega
      subst this; rw [hz] at hy; cases hy; exact hp
    · unfold zn at h; rw [e] at h; omega

theorem apartS_iff {s : ApiSite} {st : ApiState} : (apartS s st).2.2 = true ↔ ∃ a b : Nat, a < b ∧ b < st.Shelves.length ∧ badP s st a b = true := by
  rw [apartS_found, decide_eq_true_eq]
  rcases fnat_cases (fun a => decide (0 ≤ partner s st a)) st.Shelves.length with ⟨a, ha, e, hp, _⟩ | ⟨e, hb⟩
  · rw [e]
    refine ⟨fun _ => ?_, fun _ => by omega⟩
    rcases fnat_cases (fun b => decide (a < b) && badP s st a b) st.Shelves.length with ⟨b, hb, e2, hp2, _⟩ | ⟨e2, _⟩
    · simp at hp2; exact ⟨a, b, hp2.1, hb, hp2.2⟩
    · simp [partner, e2] at hp
  · rw [e]
    refine ⟨fun h => by omega, fun ⟨a, b, h1, h2, h3⟩ => ?_⟩
    have := hb a (by omega)
    rcases fnat_cases (fun b => decide (a < b) && badP s st a b) st.Shelves.length with ⟨w, _, e2, _, _⟩ | ⟨e2, hb2⟩
    · simp [partner, e2] at this
    · have := hb2 b h2; simp [h1, h3] at this

/-- a shelf is put at a cell -/
def unl (shelf : Int) (r : ApiRobot) : ApiRobot := if r.Load = shelf then { r with Load := -1 } else r
def putS (st : ApiState) (shelf c : Int) : ApiState := { st with Shelves := st.Shelves.set shelf.toNat c, Robots := st.Robots.map (unl shelf) }
theorem S_law12_put {st : ApiState} (k : OkApiState st) (h1 : st.Shelves.length ≤ 1000000) (h2 : st.Robots.length ≤ 1000000) {shelf c : Int} (h0 : 0 ≤ shelf ∧ shelf < st.Shelves.length) {post : ApiState → Prop} (hp : post (putS st shelf c)) : V_taquinlaw12_put st shelf c post := by
  unfold V_taquinlaw12_put
  refine ⟨by simp; omega, by simp; omega, _, by rw [List.nil_append]; exact idx_get h0.1 h0.2, ?_⟩
  rw [List.nil_append, List.nil_append]
  refine Jn.mk (fun l => l = st.Robots.map (unl shelf)) (Loop.mk (fun t : List ApiRobot × Int => ∃ n : Nat, t.2 = (n : Int) ∧ n ≤ st.Robots.length ∧ t.1 = (st.Robots.take n).map (unl shelf) ++ st.Robots.drop n) (fun t => st.Robots.length - t.2.toNat) ⟨0, rfl, by omega, by simp⟩ ?_) (fun l hl => by rw [hl]; exact hp)
  rintro ⟨l, ti⟩ ⟨n, rfl, hn, hl⟩
  simp only at hl
  dsimp only
  have hll : l.length = st.Robots.length := by rw [hl]; simp; omega
  refine Ite.mk (fun h => ?_) (fun h => ?_)
  · simp [hll] at h
    have hx : st.Robots[n]? = some (st.Robots[n]'h) := List.getElem?_eq_getElem h
    generalize st.Robots[n]'h = x at hx
    have hlx : l[n]? = some x := by
      rw [hl, List.getElem?_append_right (by rw [List.length_map, List.length_take]; omega), List.length_map, List.length_take, show n - min n st.Robots.length = 0 by omega, List.getElem?_drop]; simpa using hx
    have hd : st.Robots.drop n = x :: st.Robots.drop (n + 1) := by
      obtain ⟨hlt, he⟩ := List.getElem?_eq_some_iff.1 hx
      rw [List.drop_eq_getElem_cons hlt, he]
    have tl : ((st.Robots.take n).map (unl shelf)).length = n := by simp; omega
    refine ⟨x, idx_of rfl hlx, Jn.mk (fun l' => l' = (st.Robots.take (n + 1)).map (unl shelf) ++ st.Robots.drop (n + 1)) (Ite.mk (fun h2 => ?_) (fun h2 => ?_)) (fun l' hl' => ⟨⟨n + 1, w64_nat h k.Robots.1, by omega, hl'⟩, ?_⟩)⟩
    · simp at h2
      rw [hl, hd, show ((n : Nat) : Int).toNat = n by omega, List.set_append_right _ _ (by omega), tl, Nat.sub_self, List.set_cons_zero, take_succ hx, List.map_append, List.append_assoc]
      simp [unl, h2]
    · simp at h2
      rw [hl, hd, take_succ hx, List.map_append, List.append_assoc]
      simp [unl, h2]
    · rw [w64_nat h k.Robots.1]
      have e1 : ((n + 1 : Nat) : Int).toNat = n + 1 := by omega
      have e2 : ((n : Nat) : Int).toNat = n := by omega
      rw [e1, e2]; omega
  · simp [hll] at h
    have : n = st.Robots.length := by omega
    subst this
    show l = _
    rw [hl]; simp
section
variable {s : ApiSite} {st : ApiState} {shelf c : Int}
theorem putS_ok (k : OkApiState st) (hc : I64 c) : OkApiState (putS st shelf c) where
  Tick := k.Tick
  Shelves := ⟨by simp [putS]; exact k.Shelves.1, fun x hx => by
    rcases List.mem_or_eq_of_mem_set hx with h | h
    · exact k.Shelves.2 x h
    · subst h; exact hc⟩
  Robots := ⟨by simp [putS]; exact k.Robots.1, fun r hr => by
    simp only [putS, List.mem_map] at hr
    obtain ⟨q, hq, rfl⟩ := hr
    have kq := k.Robots.2 q hq
    unfold unl
    split
    · exact ⟨kq.Cell, i64_of (x := -1) (by decide), kq.Charge, kq.Rest, kq.Mute, trivial⟩
    · exact kq⟩
  People := k.People
  Dead := k.Dead
  Stuck := k.Stuck
theorem putS_len : (putS st shelf c).Shelves.length = st.Shelves.length := by simp [putS]
theorem putS_same (h0 : 0 ≤ shelf ∧ shelf < st.Shelves.length) : (putS st shelf c).Shelves.getD shelf.toNat 0 = c := by
  simp only [putS, List.getD_eq_getElem?_getD]; rw [List.getElem?_set_self (by omega)]; rfl
theorem putS_other (h0 : 0 ≤ shelf) {i : Nat} (h : (i : Int) ≠ shelf) : (putS st shelf c).Shelves.getD i 0 = st.Shelves.getD i 0 := by
  simp only [putS, List.getD_eq_getElem?_getD]; rw [List.getElem?_set_ne (by omega)]
theorem putS_car (h0 : 0 ≤ shelf) {i : Nat} : carB (putS st shelf c) i = (!((i : Int) == shelf) && carB st i) := by
  rw [carB_any (by omega), carB_any (by omega)]
  show (st.Robots.map (unl shelf)).any _ = _
  rw [List.any_map]
  by_cases e : (i : Int) = shelf
  · have : (fun r : ApiRobot => (unl shelf r).Load == (i : Int)) = fun _ => false := by
      funext r; unfold unl; split
      · simp
      · rename_i h; simp [e]; exact h
    show st.Robots.any (fun r => (unl shelf r).Load == (i : Int)) = _
    rw [this]; simp [e]
  · have : (fun r : ApiRobot => (unl shelf r).Load == (i : Int)) = fun r => r.Load == (i : Int) := by
      funext r; unfold unl; split
      · rename_i h; rw [h]
        have e1 : ((-1 : Int) == (i : Int)) = false := by simp
        have e2 : (shelf == (i : Int)) = false := by simp; exact fun h => e h.symm
        show ((-1 : Int) == (i : Int)) = _
        rw [e1, e2]
      · rfl
    show st.Robots.any (fun r => (unl shelf r).Load == (i : Int)) = _
    rw [this]; simp [e]
theorem putS_badP_other (h0 : 0 ≤ shelf) {a b : Nat} (ha : (a : Int) ≠ shelf) (hb : (b : Int) ≠ shelf) : badP s (putS st shelf c) a b = badP s st a b := by
  unfold badP
  rw [putS_other h0 ha, putS_other h0 hb, putS_car h0, putS_car h0]
  have e1 : ((a : Int) == shelf) = false := by simpa using ha
  have e2 : ((b : Int) == shelf) = false := by simpa using hb
  rw [e1, e2]; simp
end
theorem mem_getD {l : List Int} {i : Nat} (h : i < l.length) : l.getD i 0 ∈ l := by rw [List.getD_eq_getElem?_getD, List.getElem?_eq_getElem h]; exact List.getElem_mem h

theorem Said_taquinlaw12_RulesDrop (s : ApiSite) (ks : OkApiSite s) (st : ApiState) (k : OkApiState st) (shelf : Int) (k2 : I64 shelf) (c : Int) (k3 : I64 c) : V_taquinlaw12_RulesDrop s st shelf c (fun y => y = true) := by
  unfold V_taquinlaw12_RulesDrop
  refine S_law12_small (Jn.mk (fun b => b = false → FitS s st ∧ 0 ≤ shelf ∧ shelf < st.Shelves.length) (S_law12_fits ks k (Ite.f rfl (fun h => by cases h)) (fun hf => Ite.t rfl (Ite.mk (fun _ h => by cases h) (fun h1 h2 => ⟨hf, by simp at h1; omega, by simp at h2; omega⟩)))) (fun b hb => Ite.mk (fun _ => rfl) (fun hb' => ?_)))
  obtain ⟨hf, h0⟩ := hb hb'
  have hsl := hf.sl
  have hfl := hf.r.fl
  refine S_rules_Apart ks k hfl (by omega) hf.cell ?_
  refine Jn.mk (fun b => b = false → (apartS s st).2.2 = false ∧ carB st shelf = true) (Ite.mk (fun _ h => by cases h) (fun h1 => S_rules_Carried k (fun h2 => ⟨h1, by unfold carB; simp at h2; simpa using h2⟩))) (fun b hb => Ite.mk (fun _ => rfl) (fun hb' => ?_))
  obtain ⟨hgood, hcar⟩ := hb hb'
  have hno : ∀ a b : Nat, a < b → b < st.Shelves.length → badP s st a b = false := fun a b h1 h2 => by
    cases e : badP s st a b with
    | false => rfl
    | true => rw [apartS_iff.2 ⟨a, b, h1, h2, e⟩] at hgood; cases hgood
  refine S_rules_Drop ks k hfl (by omega) ?_
  -- what Drop says
  have hd : dropS s st shelf c = if stB s c = false then 13 else if (List.range st.Shelves.length).any (dHit st shelf c) = true then 13 else if (List.range st.Shelves.length).any (dAp s st shelf c) = true then 17 else 0 := by
    unfold dropS; rw [if_neg (by omega)]
  refine Ite.mk (fun h13 => ?_) (fun h13 => ?_)
  · simp at h13
    refine Jn.mk' (Ite.t rfl (S_rules_Stands (Ite.mk (fun hst => S_rules_At k (by omega) ?_) (fun _ => rfl))))
    rw [hd, if_neg (by rw [hst]; simp)] at h13
    cases hh : (List.range st.Shelves.length).any (dHit st shelf c) with
    | false => rw [hh] at h13; simp at h13; split at h13 <;> simp at h13
    | true =>
      obtain ⟨i, hi, hp⟩ := List.any_eq_true.1 hh
      unfold dHit at hp
      simp at hi
      simp only [Bool.and_eq_true] at hp
      rcases fnat_cases (atP st c) st.Shelves.length with ⟨w, _, e, _⟩ | ⟨e, hb⟩
      · have e' : atS st c = w := e
        rw [e']; simp
      · have := hb i hi; unfold atP at this; rw [hp.2, hp.1.2] at this; simp at this
  · simp at h13
    have hst : stB s c = true := by
      cases e : stB s c with
      | true => rfl
      | false => rw [hd, if_pos e] at h13; exact absurd rfl h13
    have hcc : isC s.Floor c = true := by unfold stB at hst; rw [Bool.and_eq_true] at hst; exact hst.1
    have hhit : (List.range st.Shelves.length).any (dHit st shelf c) = false := by
      cases e : (List.range st.Shelves.length).any (dHit st shelf c) with
      | false => rfl
      | true => rw [hd, if_neg (by simp [hst]), if_pos e] at h13; exact absurd rfl h13
    have hnh : ∀ i : Nat, i < st.Shelves.length → (i : Int) ≠ shelf → carB st i = false → st.Shelves.getD i 0 ≠ c := fun i hi h1 h2 h3 => by
      have := List.any_eq_false.1 hhit i (by simpa using hi)
      unfold dHit at this
      have e1 : ((i : Int) == shelf) = false := by simpa using h1
      rw [e1, h2, h3] at this; simp at this
    have kn := putS_ok (shelf := shelf) k k3
    refine S_law12_put k (by omega) (by have := hf.rob; omega) h0 (S_rules_Apart ks kn hfl (by rw [putS_len]; omega) (fun x hx => ?_) ?_)
    · rcases List.mem_or_eq_of_mem_set hx with h | h
      · exact hf.cell x h
      · subst h; exact hcc
    -- the pairs with the shelf that was put
    have hpair : ∀ i : Nat, i < st.Shelves.length → (i : Int) ≠ shelf → badP s (putS st shelf c) shelf.toNat i = dAp s st shelf c i ∧ badP s (putS st shelf c) i shelf.toNat = dAp s st shelf c i := fun i hi h1 => by
      have hci := hf.cell _ (mem_getD hi)
      have e1 : ((i : Int) == shelf) = false := by simpa using h1
      have e2 : ((shelf.toNat : Int) == shelf) = true := by simp; omega
      have e3 : (shelf.toNat : Int) = shelf := by omega
      unfold badP dAp
      rw [putS_same h0, putS_other h0.1 h1, putS_car h0.1, putS_car h0.1, e1, e2, e3, nearB_comm hfl hcc hci, nev_comm (clsS s i) (clsS s shelf)]
      simp only [Bool.not_false, Bool.not_true, Bool.true_and, Bool.false_and, Bool.and_true]
      constructor
      · cases carB st i <;> cases nearB s.Floor (st.Shelves.getD i 0) c <;> cases nev s (clsS s shelf) (clsS s i) <;> rfl
      · cases carB st i <;> cases nearB s.Floor (st.Shelves.getD i 0) c <;> cases nev s (clsS s shelf) (clsS s i) <;> rfl
    have hnow : (apartS s (putS st shelf c)).2.2 = (List.range st.Shelves.length).any (dAp s st shelf c) := by
      rw [Bool.eq_iff_iff, apartS_iff, List.any_eq_true]
      rw [putS_len]
      constructor
      · rintro ⟨a, b, hab, hbl, hbad⟩
        by_cases ha : (a : Int) = shelf
        · have : a = shelf.toNat := by omega
          subst this
          rw [(hpair b hbl (by omega)).1] at hbad
          exact ⟨b, by simpa using hbl, hbad⟩
        · by_cases hb : (b : Int) = shelf
          · have : b = shelf.toNat := by omega
            subst this
            rw [(hpair a (by omega) ha).2] at hbad
            exact ⟨a, by simp; omega, hbad⟩
          · rw [putS_badP_other h0.1 ha hb, hno a b hab hbl] at hbad; cases hbad
      · rintro ⟨i, hi, hp⟩
        simp at hi
        have h1 : (i : Int) ≠ shelf := fun e => by unfold dAp at hp; rw [e] at hp; simp at hp
        rcases Nat.lt_or_ge i shelf.toNat with h | h
        · exact ⟨i, shelf.toNat, h, by omega, by rw [(hpair i hi h1).2]; exact hp⟩
        · exact ⟨shelf.toNat, i, by omega, hi, by rw [(hpair i hi h1).1]; exact hp⟩
    have hd2 : dropS s st shelf c = if (apartS s (putS st shelf c)).2.2 = true then 17 else 0 := by rw [hd, if_neg (by simp [hst]), if_neg (by simp [hhit]), hnow]
    refine Ite.mk (fun h17 => ?_) (fun h17 => ?_)
    · simp at h17
      refine Jn.mk' (Ite.t rfl ?_)
      rw [hd2] at h17
      cases e : (apartS s (putS st shelf c)).2.2 with
      | true => rfl
      | false => rw [e] at h17; simp at h17
    · simp at h17
      have hn0 : (apartS s (putS st shelf c)).2.2 = false := by
        cases e : (apartS s (putS st shelf c)).2.2 with
        | false => rfl
        | true => rw [hd2, e] at h17; exact absurd rfl h17
      have hz0 : dropS s st shelf c = 0 := by rw [hd2, hn0]; rfl
      -- what stands at the cell
      have hat1 : atS (putS st shelf c) c = shelf := by
        have e3 : (shelf.toNat : Int) = shelf := by omega
        have : atS (putS st shelf c) c = shelf.toNat := by
          refine fnat_some (by rw [putS_len]; omega) ?_ (fun j hj => ?_)
          · unfold atP; rw [putS_same h0, putS_car h0.1, e3]; simp
          · unfold atP; rw [putS_other h0.1 (by omega), putS_car h0.1]
            have e1 : ((j : Int) == shelf) = false := by simp; omega
            rw [e1]
            cases hcj : carB st j with
            | true => simp
            | false => have := hnh j (by omega) (by omega) hcj; simpa using this
        rw [this, e3]
      have hat0 : atS st c = -1 := fnat_none fun i hi => by
        unfold atP
        by_cases e : (i : Int) = shelf
        · rw [e, hcar]; simp
        · cases hci : carB st i with
          | true => simp
          | false => have := hnh i hi e hci; simpa using this
      have hato : ∀ x, x ≠ c → atS (putS st shelf c) x = atS st x := fun x hx => by
        unfold atS; rw [putS_len]
        refine fnat_min fun i hi => ?_
        unfold atP
        by_cases e : (i : Int) = shelf
        · have : i = shelf.toNat := by omega
          subst this
          rw [putS_same h0, e, hcar]
          simp; intro h; exact absurd h.symm hx
        · rw [putS_other h0.1 e, putS_car h0.1]
          have e1 : ((i : Int) == shelf) = false := by simpa using e
          rw [e1]; rfl
      refine Jn.mk (fun b => b = false) (Ite.f (by rw [hz0]; decide) (Ite.f hn0 (S_rules_At kn (by rw [putS_len]; omega) (Ite.f (by rw [hat1]; simp) (S_rules_At k (by omega) (Ite.f (by rw [hat0]; decide) (S_rules_Stands (by rw [hst]; rfl)))))))) (fun b hb => Ite.f hb ?_)
      refine Jn.mk (fun _ => True) (V_loopj (xs := s.Zones) ks.Zones.1 (fun t => t) (fun n _ => True) rfl trivial (fun n z t hz ht _ => ?_) (fun _ _ => trivial)) (fun _ _ => rfl)
      have hn := (List.getElem?_eq_some_iff.1 hz).1
      have hzg : s.Zones.getD n default = z := by rw [List.getD_eq_getElem?_getD, hz]; rfl
      rw [ht]
      refine S_rules_Room ks k (by omega) hf.zn (S_rules_ZoneOf ks hf.r.rs ?_)
      have hroom : roomS s (putS st shelf c) n = roomS s st n - (if (n : Int) = zn s c then 1 else 0) := by
        unfold roomS
        rw [if_neg (by omega), if_neg (by omega), show ((n : Nat) : Int).toNat = n by omega, hzg]
        have hcnt : z.Cells.countP (roomP s st) = z.Cells.countP (roomP s (putS st shelf c)) + if z.Cells.contains c = true then 1 else 0 := by
          have hasc := (hf.r.zone n z hz).ascL
          have hnd : z.Cells.Nodup := by
            rw [List.nodup_iff_pairwise_ne, List.pairwise_iff_getElem]
            intro i j hi hj hij
            have := hasc i j _ _ hij (List.getElem?_eq_getElem hi) (List.getElem?_eq_getElem hj)
            omega
          have hp1 : ∀ x, x ≠ c → roomP s (putS st shelf c) x = roomP s st x := fun x hx => by unfold roomP; rw [hato x hx]
          have hp2 : roomP s (putS st shelf c) c = false := by unfold roomP; rw [hat1]; simp; intro; omega
          have hp3 : roomP s st c = true := by unfold roomP; rw [hat0, hst]; decide
          clear hz hzg hasc
          revert hnd
          induction z.Cells with
          | nil => intro _; simp
          | cons x l ih =>
            intro hnd
            have ih := ih (List.nodup_cons.1 hnd).2
            rw [List.countP_cons, List.countP_cons, ih]
            by_cases e : x = c
            · subst e
              have hnc : l.contains x = false := by
                have := (List.nodup_cons.1 hnd).1
                cases h : l.contains x with
                | false => rfl
                | true => exact absurd (by simpa using h) this
              rw [hp2, hp3, hnc]; simp
            · rw [hp1 x e]
              have : (x :: l).contains c = l.contains c := by
                rw [List.contains_cons]
                have : (c == x) = false := by simp; exact fun h => e h.symm
                rw [this]; rfl
              rw [this]; omega
        rw [hcnt]
        have hzz := zn_iff hf.r hz (c := c)
        by_cases e : (n : Int) = zn s c
        · rw [if_pos e, if_pos (hzz.2 e.symm)]; omega
        · rw [if_neg e, if_neg (fun h => e (hzz.1 h).symm)]; omega
      have hbd : -9223372036854775807 ≤ roomS s st n ∧ roomS s st n ≤ 1000000 := by
        unfold roomS
        rw [if_neg (by omega), show ((n : Nat) : Int).toNat = n by omega, hzg]
        have h1 := List.countP_le_length (p := roomP s st) (l := z.Cells)
        have h2 := hf.zn z (List.mem_of_getElem? hz)
        have h3 := (ks.Zones.2 z (List.mem_of_getElem? hz)).Keep
        have h4 : z.Keep ≤ 9223372036854775807 := h3.2
        omega
      refine Jn.mk (fun r => r = roomS s (putS st shelf c) n) (Ite.mk (fun h => ?_) (fun h => ?_)) (fun r hr => S_rules_Room ks kn (by rw [putS_len]; omega) hf.zn (Ite.f (by rw [hr]; simp) ⟨rfl, trivial⟩))
      · simp at h
        rw [hroom, if_pos h, w64_eq (by omega) (by omega)]
      · simp at h
        rw [hroom, if_neg h]; omega
end Go.Taq
