/- The mathematics, part P: without zones and with nothing taken, the walk is as long as the distance. -/
import Derived.Test.YtliikemkgfjpaaaMY
import Derived.Test.YtliikemkgfjpaaaMZ
set_option linter.unusedVariables false
namespace Go.Taq
open Go
section
variable {s : ApiSite} {a tick : Int} {avoid : List Int}
/-- the start is not avoided -/
def avL (a : Int) (avoid : List Int) : List Int := avoid.map fun x => if x = a then -1 else x
theorem not_avL {c : Int} (hc : 0 ≤ c) : c ∉ avL a avoid ↔ (c ∉ avoid ∨ c = a) := by
  unfold avL
  simp only [List.mem_map, not_exists, not_and]
  constructor
  · intro h
    by_cases e : c = a
    · exact .inr e
    · exact .inl (fun hm => h c hm (by rw [if_neg e]))
  · intro h x hx
    split
    · omega
    · rename_i e
      rintro rfl
      rcases h with h | h
      · exact h hx
      · exact e h
theorem held_nil {c t : Int} : heldT [] c t = false := rfl
theorem opn_nz (hz : s.Zones = []) {c t : Int} : opn s c t = isC s.Floor c := by
  unfold opn zn; rw [hz]; simp [fidx]
theorem spd_nz (hz : s.Zones = []) {c : Int} : spd s c = 1 := by
  unfold spd zn; rw [hz]; simp [fidx]
theorem step_nz (hf : RF s.Floor) (hz : s.Zones = []) {t c act : Int} {p : Int × Int} (h0 : 0 ≤ act) : stepF s [] avoid t (c, 0) act = (p, 0) ↔ (act = 0 ∧ p = (c, 0)) ∨ (act ≠ 0 ∧ (nx s.Floor c (act - 1)).2 = true ∧ (nx s.Floor c (act - 1)).1 ∉ avoid ∧ p = ((nx s.Floor c (act - 1)).1, 0)) := by
  unfold stepF
  by_cases e : act = 0
  · rw [if_pos e, if_neg (by simp [held_nil])]
    have : imax ((c, (0 : Int)).2 - 1) 0 = 0 := by simp [imax]
    rw [this]
    constructor
    · intro h; exact .inl ⟨e, (Prod.mk.inj h).1.symm⟩
    · rintro (⟨_, h⟩ | ⟨h, _⟩)
      · rw [h]
      · exact absurd e h
  · rw [if_neg e, if_neg (by simp)]
    simp only [held_nil, opn_nz hz, spd_nz hz]
    by_cases h1 : (nx s.Floor c (act - 1)).2 = true
    · have hx := nx_ok hf h1
      by_cases h2 : (nx s.Floor c (act - 1)).1 ∈ avoid
      · rw [if_pos (.inr (by simpa using h2))]; simp [e, h2]
      · rw [if_neg (by simp [h1, h2]), if_neg (by simp [hx.2.1]), if_neg (by simp)]
        constructor
        · intro h; exact .inr ⟨e, h1, h2, by rw [← (Prod.mk.inj h).1]; rfl⟩
        · rintro (⟨h, _⟩ | ⟨_, _, _, h⟩)
          · exact absurd h e
          · rw [h]; rfl
    · rw [if_pos (.inl (by simpa using h1))]; simp [e, h1]
abbrev PthA (s : ApiSite) (a : Int) (avoid : List Int) (k : Nat) (c : Int) : Prop := Pth s.Floor (nx s.Floor) [a] (avL a avoid) k c
theorem run_pth (hf : RF s.Floor) (hz : s.Zones = []) : ∀ (v : List Int) {t c : Int} {j : Nat}, (∀ x, x ∈ v → 0 ≤ x ∧ x < 7) → PthA s a avoid j c → (runF s [] avoid t (c, 0) v).2 = 0 → (runF s [] avoid t (c, 0) v).1.2 = 0 ∧ ∃ j', j' ≤ j + v.countP (fun x => x != 0) ∧ PthA s a avoid j' (runF s [] avoid t (c, 0) v).1.1
  | [], t, c, j, _, hp, _ => ⟨rfl, j, by simp, hp⟩
  | x :: v, t, c, j, hv, hp, he => by
    rw [runF] at he ⊢
    have hx := hv x (by simp)
    split at he
    · rename_i h1
      rw [if_pos h1]
      generalize hst : stepF s [] avoid t (c, 0) x = st at h1 he ⊢
      obtain ⟨p, e⟩ := st
      simp only at h1 he ⊢; subst h1
      rcases (step_nz hf hz hx.1).1 hst with ⟨rfl, rfl⟩ | ⟨h2, h3, h4, rfl⟩
      · obtain ⟨r1, j', r2, r3⟩ := run_pth hf hz v (fun y hy => hv y (by simp [hy])) hp he
        exact ⟨r1, j', by simpa using r2, r3⟩
      · have hn := nx_ok hf h3
        have hp' : PthA s a avoid (j + 1) (nx s.Floor c (x - 1)).1 := ⟨c, x - 1, hp, by omega, by omega, Prod.ext rfl h3, hn.2.1, hn.2.2.2.2.1, (not_avL (isC_iff.1 hn.2.1).1).2 (.inl h4)⟩
        obtain ⟨r1, j', r2, r3⟩ := run_pth hf hz v (fun y hy => hv y (by simp [hy])) hp' he
        refine ⟨r1, j', ?_, r3⟩
        rw [List.countP_cons_of_pos (by simpa using h2)]; omega
    · rename_i h1; exact absurd he h1
theorem pth_rch (hf : RF s.Floor) (hz : s.Zones = []) : ∀ (k : Nat) {c : Int}, PthA s a avoid k c → (∀ j, PthA s a avoid j c → k ≤ j) → Rch s a tick [] avoid k (c, 0)
  | 0, c, h, _ => by have := h.1; simp at this; subst this; rfl
  | k + 1, c, ⟨p, d, h1, h2, h3, h4, h5⟩, hm => by
    have hmp : ∀ j, PthA s a avoid j p → k ≤ j := fun j hj => by
      have := hm (j + 1) ⟨p, d, hj, h2, h3, h4, h5⟩; omega
    refine ⟨(p, 0), d + 1, pth_rch hf hz k h1 hmp, by omega, by omega, (step_nz hf hz (by omega)).2 (.inr ⟨by omega, ?_⟩)⟩
    have e : d + 1 - 1 = d := by omega
    rw [e, h4]
    refine ⟨rfl, ?_, rfl⟩
    rcases (not_avL (isC_iff.1 h5.1).1).1 h5.2.2 with h | h
    · exact h
    · subst h
      have := hm 0 ⟨by simp, h5⟩; omega
theorem cells_run (hf : RF s.Floor) (hz : s.Zones = []) : ∀ (v : List Int) {t c : Int}, (∀ x, x ∈ v → 1 ≤ x ∧ x < 7) → (runF s [] avoid t (c, 0) v).2 = 0 →
    (cellsL s.Floor c v)[v.length]? = some (runF s [] avoid t (c, 0) v).1.1 ∧ ∀ (i : Nat) x, v[i]? = some x → ∃ p, (cellsL s.Floor c v)[i]? = some p ∧ (nx s.Floor p (x - 1)).2 = true ∧ (cellsL s.Floor c v)[i + 1]? = some (nx s.Floor p (x - 1)).1
  | [], t, c, _, _ => ⟨rfl, by simp⟩
  | x :: v, t, c, hv, he => by
    have hx := hv x (by simp)
    rw [runF] at he ⊢
    split at he
    · rename_i h1
      rw [if_pos h1]
      generalize hst : stepF s [] avoid t (c, 0) x = st at h1 he ⊢
      obtain ⟨p, e⟩ := st
      simp only at h1 he ⊢; subst h1
      rcases (step_nz hf hz (by omega)).1 hst with ⟨h2, _⟩ | ⟨h2, h3, h4, rfl⟩
      · omega
      · have hm : moveA s.Floor c x = (nx s.Floor c (x - 1)).1 := by unfold moveA; rw [if_pos ⟨hx.1, hx.2, h3⟩]
        obtain ⟨r1, r2⟩ := cells_run hf hz v (fun y hy => hv y (by simp [hy])) he
        rw [cellsL, hm]
        refine ⟨by simpa using r1, fun i y hy => ?_⟩
        cases i with
        | zero =>
          simp at hy; subst hy
          refine ⟨c, rfl, h3, ?_⟩
          rw [cellsL_cons]; rfl
        | succ i => simpa using r2 i y (by simpa using hy)
    · rename_i h1; exact absurd he h1
end
theorem Said_taquinlaw23_RoutePlain (s : ApiSite) (ks : OkApiSite s) (a : Int) (ka : I64 a) (b : Int) (kb : I64 b) (tick : Int) (kt : I64 tick) (avoid : List Int) (kav : OkL I64 avoid) :
    V_taquinlaw23_RoutePlain s a b tick avoid (fun y => y = true) := by
  unfold V_taquinlaw23_RoutePlain
  have ks0 : OkApiSite { Floor := s.Floor, Zones := [], Aparts := s.Aparts, Shelves := s.Shelves, Robots := s.Robots } := ⟨ks.Floor, ⟨by simp [maxLen], by simp⟩, ks.Aparts, ks.Shelves, ks.Robots⟩
  generalize hs0 : ({ Floor := s.Floor, Zones := [], Aparts := s.Aparts, Shelves := s.Shelves, Robots := s.Robots } : ApiSite) = s0 at ks0 ⊢
  have hfl : s.Floor = s0.Floor := by rw [← hs0]
  have hz : s0.Zones = [] := by rw [← hs0]
  rw [hfl]
  refine S_law23_small (S_law23_fair ks0 (Ite.t rfl rfl) (fun hr hfew _ _ hav => Ite.f rfl ?_))
  have hf := hr.fl
  have hn : s0.Floor.Kind.length ≤ 50 := by have := hfew.kind; omega
  have hkl : avoid.length ≤ maxLen := kav.1
  -- the rest, once the walk is known
  have rest : ∀ (r : List Int) (e : Int), rightR s0 a b tick = true → ((e = 14 ∧ r = [] ∧ ∀ v, GoodW s0 a b tick [] avoid v → (60 : Int) < v.length) ∨ (e = 0 ∧ GoodW s0 a b tick [] avoid r ∧ r.length ≤ 60 ∧ ∀ v, GoodW s0 a b tick [] avoid v → r.length ≤ v.length)) → ∀ far, DistOk s0.Floor (nx s0.Floor) [a] (avL a avoid) far →
      Ite ((far.length : Int) != (s0.Floor.Kind.length : Int)) (false = true) (∃ x24, idx far b = some x24 ∧ Ite (decide (x24 < 0)) (Jn (fun (J27 : Bool → Prop) => Ite true (J27 (e == 14)) (J27 false)) (fun (x26 : Bool) => x26 = true)) (V_route_Cells s0 a r (fun x29 => Jn (fun (J31 : Bool → Prop) => Ite (e != 0) (J31 true) (Ite ((r.length : Int) != x24) (J31 true) (J31 ((x29.length : Int) != (w64 ((r.length : Int) + 1)))))) (fun (x30 : Bool) => Ite x30 (false = true) (Jn (fun (J36 : Unit → Prop) => Loop (fun (s37 : Int) Y38 => Ite (decide (s37 < (r.length : Int))) (∃ x40, idx x29 s37 = some x40 ∧ ∃ x41, idx r s37 = some x41 ∧ V_floor_Next s0.Floor x40 (w64 (x41 - 1)) (fun x42 => Jn (fun (J44 : Bool → Prop) => Ite x42.2 (∃ x46, idx x29 (w64 (s37 + 1)) = some x46 ∧ J44 (x42.1 != x46)) (J44 true)) (fun (x43 : Bool) => Ite x43 (false = true) (Y38 (w64 (s37 + 1)))))) (J36 ())) 0) (fun (x35 : Unit) => Jn (fun (J49 : Bool → Prop) => Ite true (∃ x51, idx x29 0 = some x51 ∧ Ite (x51 == a) (∃ x53, idx x29 (r.length : Int) = some x53 ∧ J49 (x53 == b)) (J49 false)) (J49 false)) (fun (x48 : Bool) => x48 = true))))))) := by
    intro r e hrt hre far hfar
    have hrt' := hrt
    simp only [rightR, Bool.and_eq_true, decide_eq_true_eq, bne_iff_ne] at hrt'
    obtain ⟨⟨⟨ac, a0⟩, bc, b0⟩, ht⟩ := hrt'
    have pA : PthA s0 a avoid 0 a := ⟨by simp, ac, a0, (not_avL (isC_iff.1 ac).1).2 (.inr rfl)⟩
    refine Ite.f (by simp [hfar.1]) ⟨_, idx_gI (isC_iff.1 bc).1 (by rw [hfar.1]; exact (isC_iff.1 bc).2), ?_⟩
    have good_pth : ∀ v, GoodW s0 a b tick [] avoid v → ∃ j, j ≤ v.countP (fun x => x != 0) ∧ PthA s0 a avoid j b := fun v hv => by
      obtain ⟨r1, j, r2, r3⟩ := run_pth hf hz v hv.1 pA hv.2.1
      rw [hv.2.2.1] at r3
      exact ⟨j, by omega, r3⟩
    rcases hfar.2 b bc with ⟨d1, d2⟩ | ⟨k, d1, d2, d3, d4⟩
    · rw [d1]
      refine Ite.t rfl (Jn.mk' (Ite.t rfl ?_))
      rcases hre with ⟨rfl, _⟩ | ⟨_, hg, _⟩
      · rfl
      · obtain ⟨j, _, hj⟩ := good_pth r hg
        exact absurd hj (d2 j)
    · rw [d1]
      have hR := pth_rch (tick := tick) hf hz k d2 d4
      obtain ⟨u, u1, u2, u3⟩ := rch_run hR
      have gu : GoodW s0 a b tick [] avoid u := ⟨u2, by rw [u3], by rw [u3]; exact ⟨rfl, rfl⟩⟩
      rcases hre with ⟨_, _, hno⟩ | ⟨rfl, hg, hr60, hmin⟩
      · have := hno u gu; omega
      · obtain ⟨j, j1, j2⟩ := good_pth r hg
        have h1 := d4 j j2
        have h2 := hmin u gu
        have h3 : r.countP (fun x => x != 0) ≤ r.length := List.countP_le_length
        have hlen : r.length = k := by omega
        have hnz : ∀ x, x ∈ r → 1 ≤ x ∧ x < 7 := fun x hx => by
          have := List.countP_eq_length.1 (by omega : r.countP (fun x => x != 0) = r.length) x hx
          have := hg.1 x hx
          simp at *; omega
        obtain ⟨c1, c2⟩ := cells_run hf hz r hnz hg.2.1
        rw [hg.2.2.1] at c1
        have kr : ∀ x, x ∈ r → I64 x := fun x hx => by have := hnz x hx; unfold I64; omega
        refine Ite.f (by simp) (S_route_Cells hf (by omega) kr ?_)
        have hcf : cellsF s0 a r = cellsL s0.Floor a r := by unfold cellsF; rw [if_pos ac]
        rw [hcf]
        have hcl := cellsL_len s0.Floor r a
        refine Jn.eq false (Ite.f rfl (Ite.f (by simp [hlen]) ?_)) (Ite.f rfl (Jn.mk (fun _ => True) (Loop.upto r.length (fun _ => True) trivial (fun i hi _ Y hY => Ite.lt (by omega) ?_) (fun _ => Ite.nlt (by omega) trivial)) (fun _ _ => ?_)))
        · rw [w64_eq (by omega) (by omega), hcl]; simp
        · have hx : r[i]? = some (r[i]'hi) := List.getElem?_eq_getElem hi
          generalize r[i]'hi = x at hx
          have hxb := hnz x (List.mem_of_getElem? hx)
          obtain ⟨p, p1, p2, p3⟩ := c2 i x hx
          have ew : w64 ((i : Int) + 1) = ((i + 1 : Nat) : Int) := w64_nat hi (by simp [maxLen]; omega)
          refine ⟨p, idx_of rfl p1, x, idx_of rfl hx, ?_⟩
          rw [w64_eq (x := x - 1) (by omega) (by omega), ew]
          refine S_floor_Next hf (Jn.mk' (Ite.t p2 ⟨_, idx_of rfl p3, Ite.f (by simp) (hY trivial)⟩))
        · refine Jn.mk' (Ite.t rfl ⟨a, ?_, Ite.t (by simp) ⟨b, idx_of rfl c1, by simp⟩⟩)
          rw [cellsL_cons]; rfl
  have lists : ∀ {post : List Int → Prop}, (0 ≤ a ∧ a < s0.Floor.Kind.length) → post (avL a avoid) → ((([] : List Int).length + avoid.length ≤ 1099511627776) ∧ Jn (fun (J14 : (List Int) → Prop) => Loop (fun (s15 : List Int × Int) Y16 => Ite (decide (s15.2 < (s15.1.length : Int))) (∃ x18, idx s15.1 s15.2 = some x18 ∧ Jn (fun (J20 : (List Int) → Prop) => Ite (x18 == a) (J20 (s15.1.set (Int.toNat s15.2) (-1))) (J20 s15.1)) (fun (x19 : List Int) => Y16 (x19, w64 (s15.2 + 1)))) (J14 s15.1)) (((([] : List Int) ++ avoid), 0) : List Int × Int)) post) := by
    intro post ha hp
    refine ⟨by simp; omega, Jn.mk (fun x => x = avL a avoid) (Loop.inv avoid.length (fun i (t : List Int × Int) => t.2 = (i : Int) ∧ t.1.length = avoid.length ∧ ∀ j : Nat, t.1[j]? = if j < i then (avL a avoid)[j]? else avoid[j]?) ⟨rfl, by simp, fun j => by simp⟩ (fun i t hi hI => ?_) (fun t hI => ?_)) (fun x e => e ▸ hp)⟩
    · obtain ⟨l, j⟩ := t
      obtain ⟨e, hl, hI⟩ := hI
      simp only at e hl hI; subst e
      have hx : avoid[i]? = some (avoid[i]'hi) := List.getElem?_eq_getElem hi
      generalize avoid[i]'hi = x at hx
      have hlx : l[i]? = some x := by rw [hI i, if_neg (by omega), hx]
      have hax : (avL a avoid)[i]? = some (if x = a then -1 else x) := by unfold avL; rw [List.getElem?_map, hx]; rfl
      refine Ite.lt (by simp only []; omega) ⟨x, idx_of rfl hlx, Jn.eq (l.set i (if x = a then -1 else x)) (Ite.mk (fun g => ?_) (fun g => ?_)) ⟨w64_nat hi hkl, by simp [hl], fun j => ?_⟩⟩
      · simp at g; simp [g]
      · simp at g; rw [if_neg g]
        exact (set_idx (idx_of rfl hlx)).symm
      · simp only []
        rw [List.getElem?_set]
        by_cases e : i = j
        · subst e; rw [if_pos rfl, if_pos (show i < l.length by omega), if_pos (show i < i + 1 by omega), hax]
        · rw [if_neg e, hI j]
          by_cases e2 : j < i
          · rw [if_pos e2, if_pos (by omega)]
          · rw [if_neg e2, if_neg (by omega)]
    · obtain ⟨l, j⟩ := t
      obtain ⟨e, hl, hI⟩ := hI
      simp only at e hl hI; subst e
      refine Ite.nlt (by simp only []; omega) (List.ext_getElem? fun j => ?_)
      simp only []
      rw [hI j]
      split
      · rfl
      · rename_i h
        rw [List.getElem?_eq_none (by omega), List.getElem?_eq_none (by simp [avL]; omega)]
  have front : ∀ {r : List Int} {e : Int}, rightR s0 a b tick = true → (e == 1) = false → ((e = 14 ∧ r = [] ∧ ∀ v, GoodW s0 a b tick [] avoid v → (60 : Int) < v.length) ∨ (e = 0 ∧ GoodW s0 a b tick [] avoid r ∧ r.length ≤ 60 ∧ ∀ v, GoodW s0 a b tick [] avoid v → r.length ≤ v.length)) → ∀ {Q : List Int → Prop}, (∀ far, DistOk s0.Floor (nx s0.Floor) [a] (avL a avoid) far → Q far) → V_floor_Dist s0.Floor ([a] : List Int) (avL a avoid) Q := by
    intro r e _ _ _ Q hQ
    exact S_floor_Dist hf (by simp [maxLen]) (by unfold avL; simpa using hkl) hQ
  refine S_route_Find ks0 hr.rs hkl (by simp) (fun g1 => Ite.t rfl rfl) (fun _ g1 => by omega) (fun g0 _ _ g1 => ?_) (fun g0 _ _ r gr grl gm => ?_)
  · have g0' := g0
    simp only [rightR, Bool.and_eq_true, decide_eq_true_eq, bne_iff_ne] at g0'
    have ha := isC_iff.1 g0'.1.1.1
    have hb := isC_iff.1 g0'.1.2.1
    refine Ite.f rfl (Jn.eq false (Ite.f (by simp; omega) (Ite.f (by simp; omega) (Ite.f (by simp; omega) (by simp; omega)))) (Ite.f rfl (lists ha ?_)))
    exact front (r := []) (e := 14) g0 rfl (.inl ⟨rfl, rfl, g1⟩) (fun far hfar => rest [] 14 g0 (.inl ⟨rfl, rfl, g1⟩) far hfar)
  · have g0' := g0
    simp only [rightR, Bool.and_eq_true, decide_eq_true_eq, bne_iff_ne] at g0'
    have ha := isC_iff.1 g0'.1.1.1
    have hb := isC_iff.1 g0'.1.2.1
    have hcase : (0 : Int) = 0 ∧ GoodW s0 a b tick [] avoid r ∧ r.length ≤ 60 ∧ ∀ v, GoodW s0 a b tick [] avoid v → r.length ≤ v.length := ⟨rfl, gr, by omega, fun v hv => (gm v hv).1⟩
    refine Ite.f rfl (Jn.eq false (Ite.f (by simp; omega) (Ite.f (by simp; omega) (Ite.f (by simp; omega) (by simp; omega)))) (Ite.f rfl (lists ha ?_)))
    exact front (r := r) (e := 0) g0 rfl (.inr hcase) (fun far hfar => rest r 0 g0 (.inr hcase) far hfar)
end Go.Taq
