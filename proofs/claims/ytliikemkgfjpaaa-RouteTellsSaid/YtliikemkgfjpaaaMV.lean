/- The mathematics, part V: the reference of the route: a step, and whether a walk is good. -/
import Derived.Test.YtliikemkgfjpaaaMU
set_option linter.unusedVariables false
namespace Go.Taq
open Go

/-- the search's step, its test first -/
theorem Jn_pull {α : Type} {xs : List α} {A : α → (Bool → Prop) → Prop} {B : Prop} {E : Int → α → Prop} (h : Jn (fun (J : Unit → Prop) => Loop (fun (s : Int) Y => Ite (decide (s < (xs.length : Int))) (∃ x, idx xs s = some x ∧ Jn (A x) (fun b => Ite b (E s x) (Y (w64 (s + 1))))) (J ())) 0) (fun _ => B)) (hE : ∀ s x y, E s x → E s y) {F : Int → Prop} (hF : ∀ s x, E s x → F s) :
    Jn (fun (J : Unit → Prop) => Loop (fun (s : Int) Y => Ite (decide (s < (xs.length : Int))) (Jn (fun J7 => ∃ x, idx xs s = some x ∧ A x J7) (fun b => Ite b (F s) (Y (w64 (s + 1))))) (J ())) 0) (fun _ => B) := by
  obtain ⟨J, hJ, hL⟩ := h
  refine ⟨J, hJ, fun X hX => hL X (fun s Y hb hY => hX s Y ?_ hY)⟩
  refine hb.cs (fun h1 h2 => Ite.t h1 ?_) (fun h1 h2 => Ite.f h1 h2)
  obtain ⟨x, hx, J', g1, g2⟩ := h2
  exact ⟨J', fun b hb => (g1 b hb).cs (fun h1 h2 => Ite.t h1 (hF _ _ h2)) (fun h1 h2 => Ite.f h1 h2), x, hx, g2⟩
theorem S_ref07_Next {f : ApiFloor} (h : RF f) {c d : Int} (hd : -1 ≤ d ∧ d < 1000) {post : Int × Bool → Prop} (hp : post (nx f c d)) : V_taquinref07_Next f c d post := by
  unfold V_taquinref07_Next
  refine S_ref07_Beside h ?_
  have hn := nx_ok h (c := c) (d := d)
  have hb := nbr_ok h c d
  unfold nx at hp
  refine Ite.mk (fun h1 => ?_) (fun h1 => ?_)
  · simp at h1; rw [if_pos (.inl h1)] at hp; exact hp
  · simp at h1
    have hc : isC f c = true := by
      cases hc : isC f c
      · exact absurd (by rw [nbr, if_pos hc]; omega) (Int.not_lt.2 h1)
      · rfl
    have hnb : isC f (nbr f c d) = true := by rcases hb with e | e; (exact absurd h1 (by omega)); exact e
    have hd6 : 0 ≤ d ∧ d < 6 := by
      unfold nbr at h1
      rw [if_neg (by simp [hc])] at h1
      repeat' split at h1
      all_goals omega
    have hw : IntKind.wrap .u64 d = d := by simp [IntKind.wrap, IntKind.signed, IntKind.bits]; omega
    rw [hw]
    refine Jn.eq (decide (kd f c = 0 ∨ kd f (nbr f c d) = 0 ∨ band .i64 (shrI .i64 (ot f c) d) 1 = 0)) ⟨_, idx_kd hc, Ite.mk (fun h2 => ?_) (fun h2 => ⟨_, idx_kd hnb, Ite.mk (fun h3 => ?_) (fun h3 => ⟨_, idx_ot h hc, hd6.1, ?_⟩)⟩)⟩ (Ite.mk (fun h2 => ?_) (fun h2 => ?_))
    · simp at h2; simp [h2]
    · simp at h3; simp [h3]
    · simp at h2 h3; simp only [h2, h3, false_or]; rfl
    · simp only [decide_eq_true_eq] at h2
      rw [if_pos (.inr h2)] at hp; exact hp
    · simp only [decide_eq_false_iff_not] at h2
      rw [if_neg (by simp only [not_or] at h2 ⊢; exact ⟨by omega, h2⟩)] at hp
      refine Jn.eq (decide (4 ≤ d ∧ (kd f c ≠ 6 ∨ kd f (nbr f c d) ≠ 6))) (Ite.mk (fun h3 => ⟨_, idx_kd hc, Ite.mk (fun h4 => ?_) (fun h4 => ⟨_, idx_kd hnb, ?_⟩)⟩) (fun h3 => ?_)) (Ite.mk (fun h3 => ?_) (fun h3 => ?_))
      · simp at h3 h4; simp [h3, h4]
      · simp at h3 h4; simp only [h3, h4]
        by_cases e : kd f (nbr f c d) = 6 <;> simp [e]
      · simp at h3; simp; omega
      · simp only [decide_eq_true_eq] at h3
        rw [if_pos h3] at hp; exact hp
      · simp only [decide_eq_false_iff_not] at h3
        rw [if_neg h3] at hp; exact hp

theorem S_ref08_Has {r : List Int} (hl : r.length ≤ 1000000000) (ha : Asc r) {c : Int} {post : Bool → Prop} (hp : post (r.contains c)) : V_taquinref08_Has r c post := by
  unfold V_taquinref08_Has
  refine Jn.mk (fun i : Int => 0 ≤ i ∧ i ≤ r.length ∧ (∀ (j : Nat) x, (j : Int) < i → r[j]? = some x → x < c) ∧ (∀ (j : Nat) x, i ≤ (j : Int) → r[j]? = some x → c ≤ x))
    (Loop.mk (fun s : Int × Int => 0 ≤ s.1 ∧ s.1 ≤ s.2 ∧ s.2 ≤ r.length ∧ (∀ (j : Nat) x, (j : Int) < s.1 → r[j]? = some x → x < c) ∧ (∀ (j : Nat) x, s.2 ≤ (j : Int) → r[j]? = some x → c ≤ x)) (fun s => (s.2 - s.1).toNat) ⟨by simp, by simp, by simp, fun j x hj => absurd hj (by simp), fun j x hj hx => ?_⟩ ?_) ?_
  · have := (List.getElem?_eq_some_iff.1 hx).1
    simp at hj; omega
  · rintro ⟨i, j⟩ ⟨h0, h1, h2, h3, h4⟩
    simp only at h0 h1 h2 h3 h4
    refine Ite.mk (fun hlt => ?_) (fun hge => ?_)
    · simp only [decide_eq_true_eq] at hlt
      have e : w64 ((w64 (i + j)).tdiv 2) = (i + j) / 2 := by
        rw [w64_eq (x := i + j) (by omega) (by omega), Int.tdiv_eq_ediv_of_nonneg (by omega), w64_eq (by omega) (by omega)]
      simp only []
      rw [e]
      have hmid : i ≤ (i + j) / 2 ∧ (i + j) / 2 < j := by omega
      refine ⟨_, idx_get (by omega) (by omega), ?_⟩
      generalize hx : r[((i + j) / 2).toNat]'(by omega) = x
      have hx' : r[((i + j) / 2).toNat]? = some x := by rw [List.getElem?_eq_getElem (by omega), hx]
      refine Jn.mk' (Ite.mk (fun h5 => ?_) (fun h5 => ?_))
      · simp at h5
        rw [w64_eq (by omega) (by omega)]
        refine ⟨⟨by omega, by simp only []; omega, by simp only []; omega, fun q y hq hy => ?_, h4⟩, by simp only []; omega⟩
        rcases Nat.lt_or_ge q ((i + j) / 2).toNat with h6 | h6
        · exact Int.lt_trans (ha _ _ _ _ h6 hy hx') h5
        · have : q = ((i + j) / 2).toNat := by simp only [] at hq; omega
          subst this; rw [hx'] at hy; cases hy; exact h5
      · simp at h5
        refine ⟨⟨by omega, by simp only []; omega, by simp only []; omega, h3, fun q y hq hy => ?_⟩, by simp only []; omega⟩
        rcases Nat.lt_or_ge ((i + j) / 2).toNat q with h6 | h6
        · have := ha _ _ _ _ h6 hx' hy; omega
        · have : q = ((i + j) / 2).toNat := by simp only [] at hq; omega
          subst this; rw [hx'] at hy; cases hy; omega
    · simp only [decide_eq_false_iff_not] at hge
      have : i = j := by omega
      subst this
      exact ⟨h0, h2, h3, h4⟩
  · rintro i ⟨h0, h1, h3, h4⟩
    have hc : r.contains c = true ↔ ∃ j : Nat, r[j]? = some c := by
      rw [List.contains_iff_mem]; exact List.mem_iff_getElem?
    refine Ite.mk (fun h5 => ?_) (fun h5 => ?_)
    · simp at h5
      cases hcc : r.contains c
      · rw [hcc] at hp; exact hp
      · obtain ⟨j, hj⟩ := hc.1 hcc
        have := (List.getElem?_eq_some_iff.1 hj).1
        have := h3 j c (by omega) hj; omega
    · simp at h5
      have hlt : i < r.length := by omega
      refine ⟨_, idx_get h0 hlt, ?_⟩
      generalize hx : r[i.toNat]'(by omega) = x
      have hx' : r[i.toNat]? = some x := by rw [List.getElem?_eq_getElem (by omega), hx]
      have : (x == c) = r.contains c := by
        rw [Bool.eq_iff_iff, hc, beq_iff_eq]
        constructor
        · rintro rfl; exact ⟨_, hx'⟩
        · rintro ⟨j, hj⟩
          rcases Nat.lt_trichotomy j i.toNat with h6 | h6 | h6
          · have := h3 j c (by omega) hj; omega
          · subst h6; rw [hx'] at hj; cases hj; rfl
          · have := ha _ _ _ _ h6 hx' hj
            have := h4 i.toNat x (by omega) hx'
            omega
      rw [this]; exact hp

theorem zlen {s : ApiSite} (h : RSite s) {z : ApiZone} (hz : z ∈ s.Zones) : z.Cells.length ≤ s.Floor.Kind.length := by
  have ha := h.rs.asc z hz
  have hc := h.rs.zc z hz
  have key : ∀ (i : Nat) x, z.Cells[i]? = some x → (i : Int) ≤ x := by
    intro i
    induction i with
    | zero => intro x hx; have := isC_iff.1 (hc x (List.mem_of_getElem? hx)); omega
    | succ i ih =>
      intro x hx
      have hlt := (List.getElem?_eq_some_iff.1 hx).1
      have hy : z.Cells[i]? = some (z.Cells[i]'(by omega)) := List.getElem?_eq_getElem _
      have := ih _ hy
      have := ha i (i + 1) _ x (by omega) hy hx
      omega
  rcases Nat.eq_zero_or_pos z.Cells.length with e | e
  · omega
  · have hx : z.Cells[z.Cells.length - 1]? = some (z.Cells[z.Cells.length - 1]'(by omega)) := List.getElem?_eq_getElem _
    have h1 := key _ _ hx
    have h2 := isC_iff.1 (hc _ (List.mem_of_getElem? hx))
    omega
theorem S_ref12_ZoneOf {s : ApiSite} (k : OkApiSite s) (h : RSite s) {c : Int} {post : Int → Prop} (hp : post (zn s c)) : V_taquinref12_ZoneOf s c post := by
  unfold V_taquinref12_ZoneOf
  refine V_fidxc k.Zones.1 (fun z : ApiZone => z.Cells.contains c) (T := fun z post => V_taquinref08_Has z.Cells c post) (fun z hz post hq => ?_) hp
  have := zlen h hz; have := h.fl.len.1
  exact S_ref08_Has (by omega) (h.rs.asc z hz) hq
theorem S_ref12_Open {s : ApiSite} (k : OkApiSite s) (h : RSite s) {c t : Int} {post : Bool → Prop} (hp : post (opn s c t)) : V_taquinref12_Open s c t post := by
  unfold V_taquinref12_Open
  refine S_ref07_Is h.fl (Ite.mk (fun h1 => ?_) (fun h1 => S_ref12_ZoneOf k h (Ite.mk (fun h2 => ?_) (fun h2 => ⟨_, idx_zn (by simpa using h2), ?_⟩))))
  · simp at h1; unfold opn at hp; rw [h1] at hp; exact hp
  · simp at h1 h2; unfold opn at hp; simpa [h1, h2] using hp
  · simp at h1 h2; unfold opn at hp
    rw [h1, decide_eq_false (Int.not_lt.2 h2)] at hp
    exact Jn_pull (V_allc (post := post) (k.Zones.2 _ (mem_zn h2)).Shut.1 (inS t) (T := fun x13 post => Jn (fun (J12 : Bool → Prop) => Ite (decide (t ≥ x13.From)) (J12 (decide (t < x13.To))) (J12 false)) post) (fun x _ post hq => Jand2 hq) (by simpa using hp)) (fun _ _ _ h => h) (fun _ _ h => h)
theorem S_ref12_Speed {s : ApiSite} (k : OkApiSite s) (h : RSite s) {c : Int} {post : Int → Prop} (hp : post (spd s c)) : V_taquinref12_Speed s c post := by
  unfold V_taquinref12_Speed
  refine S_ref12_ZoneOf k h (Ite.mk (fun h1 => ?_) (fun h1 => ⟨_, idx_zn (by simpa using h1), ?_⟩))
  · simp at h1; rw [spd, if_pos h1] at hp; exact hp
  · simp at h1; rw [spd, if_neg (by omega)] at hp; exact hp
theorem held_any (l : List ApiTaken) (c t : Int) : l.any (fun x => x.Cell == c && (decide (x.Span.From ≤ t) && decide (t < x.Span.To))) = heldT l c t := by
  unfold heldT spansOf
  induction l with
  | nil => rfl
  | cons x l ih =>
    by_cases e : x.Cell = c
    · rw [List.filter_cons_of_pos (by simpa using e), List.map_cons, List.any_cons, List.any_cons, ih]; simp [e, inS]
    · rw [List.filter_cons_of_neg (by simpa using e), List.any_cons, ih]; simp [e]
theorem S_ref23_Taken {l : List ApiTaken} (hl : l.length ≤ maxLen) {c t : Int} {post : Bool → Prop} (hp : post (heldT l c t)) : V_taquinref23_Taken l c t post := by
  unfold V_taquinref23_Taken
  rw [← held_any] at hp
  exact Jn_pull (V_anyc hl (fun x : ApiTaken => x.Cell == c && (decide (x.Span.From ≤ t) && decide (t < x.Span.To))) (T := fun x post => Jn (fun (J7 : Bool → Prop) => Ite (x.Cell == c) (Ite (decide (x.Span.From ≤ t)) (J7 (decide (t < x.Span.To))) (J7 false)) (J7 false)) post) (fun x _ post hq => by
    have := Jand3 (a1 := x.Cell == c) (a2 := decide (x.Span.From ≤ t)) (a3 := decide (t < x.Span.To)) (k := post) (by rw [Bool.and_assoc]; exact hq)
    exact this) hp) (fun _ _ _ h => h) (fun _ _ h => h)
theorem S_ref23_right {s : ApiSite} (h : RF s.Floor) {a b tick : Int} {post : Bool → Prop} (hp : post (rightR s a b tick)) : V_taquinref23_right s a b tick post := by
  unfold V_taquinref23_right
  refine Jn.mk (fun x => (x = true → rightR s a b tick = false) ∧ (x = false → isC s.Floor a = true ∧ isC s.Floor b = true ∧ 0 ≤ tick ∧ tick ≤ 20000)) (S_ref07_Is h (Ite.mk (fun h1 => S_ref07_Is h (Ite.mk (fun h2 => Ite.mk (fun h3 => ?_) (fun h3 => ?_)) (fun h2 => ?_))) (fun h1 => ?_))) (fun x hx => Ite.mk (fun h1 => ?_) (fun h1 => ?_))
  · simp at h3; simp [rightR]; omega
  · simp at h3
    cases h4 : decide (tick > 20000)
    · simp at h4; exact ⟨fun h => (by cases h), fun _ => ⟨h1, h2, h3, h4⟩⟩
    · simp at h4; exact ⟨fun _ => by simp [rightR]; omega, fun h => (by cases h)⟩
  · exact ⟨fun _ => by simp [rightR, h2], fun h => by cases h⟩
  · exact ⟨fun _ => by simp [rightR, h1], fun h => by cases h⟩
  · rw [hx.1 h1] at hp; exact hp
  · obtain ⟨g1, g2, g3, g4⟩ := hx.2 h1
    have : rightR s a b tick = ((kd s.Floor a != 0) && (kd s.Floor b != 0)) := by simp [rightR, g1, g2, g3, g4]
    rw [this] at hp
    refine Jn.mk' ⟨_, idx_kd g1, Ite.mk (fun h2 => ⟨_, idx_kd g2, ?_⟩) (fun h2 => ?_)⟩
    · rw [h2] at hp; exact hp
    · rw [h2] at hp; exact hp
section
variable {s : ApiSite} {a b tick : Int} {taken : List ApiTaken} {avoid : List Int}
theorem S_ref23_step (k : OkApiSite s) (h : RSite s) (hav : avoid.length ≤ maxLen) (hl : taken.length ≤ maxLen) {t : Int} {q : Taquinref23Place} {a : Int} (hq : isQ s (q.cell, q.rest)) (ha : 0 ≤ a ∧ a ≤ 100)
    {post : Taquinref23Place × Int → Prop} (hp : post (⟨(stepF s taken avoid t (q.cell, q.rest) a).1.1, (stepF s taken avoid t (q.cell, q.rest) a).1.2⟩, (stepF s taken avoid t (q.cell, q.rest) a).2)) : V_taquinref23_step s q t taken avoid a post := by
  unfold V_taquinref23_step
  obtain ⟨q1, q2, q3⟩ := hq
  simp only at q1 q2 q3
  unfold stepF at hp
  simp only [] at hp
  refine Ite.mk (fun h1 => ?_) (fun h1 => ?_)
  · simp at h1; subst h1
    simp only [if_true] at hp
    refine S_ref23_Taken hl (Ite.mk (fun h2 => ?_) (fun h2 => ?_))
    · rw [if_pos h2] at hp; exact hp
    · rw [if_neg (by simp [h2])] at hp
      rw [w64_eq (by omega) (by omega)]; exact hp
  · simp at h1
    rw [if_neg h1] at hp
    refine Ite.mk (fun h2 => ?_) (fun h2 => ?_)
    · simp at h2; rw [if_pos h2] at hp; exact hp
    · simp at h2
      rw [if_neg (by omega)] at hp
      rw [w64_eq (x := a - 1) (by omega) (by omega)]
      refine S_ref07_Next h.fl (by omega) ?_
      generalize nx s.Floor q.cell (a - 1) = m at hp ⊢
      refine Jn.eq (!m.2 || avoid.contains m.1) (Ite.mk (fun h3 => ?_) (fun h3 => by rw [h3]; rfl)) (Ite.mk (fun h3 => ?_) (fun h3 => ?_))
      · rw [h3]; exact S_ref07_Has hav rfl
      · simp only [Bool.or_eq_true, Bool.not_eq_true'] at h3
        rw [if_pos h3] at hp; exact hp
      · simp only [Bool.or_eq_false_iff, Bool.not_eq_false'] at h3
        rw [if_neg (by rw [h3.1, h3.2]; decide)] at hp
        refine S_ref12_Open k h (Ite.mk (fun h4 => ?_) (fun h4 => ?_))
        · simp only [Bool.not_eq_true'] at h4
          rw [if_pos h4] at hp; exact hp
        · simp only [Bool.not_eq_false'] at h4
          rw [if_neg (by simp [h4])] at hp
          refine Jn.eq (heldT taken q.cell t || heldT taken m.1 t) (S_ref23_Taken hl (Ite.mk (fun h5 => by rw [h5]; rfl) (fun h5 => S_ref23_Taken hl (by rw [h5]; rfl)))) (Ite.mk (fun h5 => ?_) (fun h5 => ?_))
          · simp only [Bool.or_eq_true] at h5
            rw [if_pos h5] at hp; exact hp
          · simp only [Bool.or_eq_false_iff] at h5
            rw [if_neg (by simp [h5])] at hp
            refine S_ref12_Speed k h ?_
            have := spd_bd h.rs m.1
            rw [w64_eq (by omega) (by omega)]; exact hp
theorem S_ref23_Check {acts : List Int} (k : OkApiSite s) (h : RSite s) (hav : avoid.length ≤ maxLen) (hl : taken.length ≤ maxLen) (hacts : acts.length ≤ 1000000)
    {post : Int → Prop} (hp : post (checkF s a b tick taken avoid acts)) : V_taquinref23_Check s a b tick taken avoid acts post := by
  unfold V_taquinref23_Check
  have hm : acts.length ≤ maxLen := by simp [maxLen]; omega
  refine S_ref23_right h.fl (Ite.mk (fun h1 => ?_) (fun h1 => ?_))
  · simp at h1; rw [checkF, if_pos (.inl h1)] at hp; exact hp
  · simp at h1
    have hr' := h1
    simp only [rightR, Bool.and_eq_true, decide_eq_true_eq] at hr'
    have ht : 0 ≤ tick ∧ tick ≤ 20000 := hr'.2
    refine Jn_pull (V_findc hm foreignA (T := fun x post => Jn (fun (J7 : Bool → Prop) => Ite (decide (x < 0)) (J7 true) (J7 (decide (x ≥ 7)))) post) (fun x _ post hq => Jor2 hq) (A := fun _ _ => post 1) (fun i x _ _ hf => ?_) (fun hn _ => ?_)) (fun _ _ _ h => h) (fun _ _ h => h)
    · rw [checkF, if_pos (.inr (any_find hf))] at hp; exact hp
    · have hf := any_none hn
      rw [checkF, if_neg (by rw [h1, hf]; decide)] at hp
      have hfa := foreign_iff.1 hf
      refine Jn.mk (fun q => runF s taken avoid tick (a, 0) acts = (q, 0) ∧ isC s.Floor q.1 = true) (Loop.inv acts.length (fun i (q : Int × Int × Int) => q.2.2 = (i : Int) ∧ isQ s (q.1, q.2.1) ∧ runF s taken avoid tick (a, 0) acts = runF s taken avoid (tick + i) (q.1, q.2.1) (acts.drop i))
        ⟨rfl, ⟨hr'.1.1.1, by simp, by simp⟩, by simp⟩ (fun i q hi hI => ?_) (fun q hI => ?_)) ?_
      · obtain ⟨c, r, n⟩ := q
        obtain ⟨e, hq, he⟩ := hI
        simp only at e hq he; subst e
        have hx : acts[i]? = some (acts[i]'hi) := List.getElem?_eq_getElem hi
        generalize hxe : acts[i]'hi = x at hx
        have hd : acts.drop i = x :: acts.drop (i + 1) := by rw [List.drop_eq_getElem_cons hi, hxe]
        have hxa := hfa x (List.mem_of_getElem? hx)
        rw [hd, runF] at he
        refine Ite.lt (by simp only []; omega) (Jn.mk' ⟨x, idx_of rfl hx, ?_⟩)
        rw [w64_eq (x := tick + _) (by simp only []; omega) (by simp only []; omega)]
        refine S_ref23_step k h hav hl hq (by omega) (Ite.mk (fun h2 => ?_) (fun h2 => ?_))
        · simp at h2
          rw [if_neg h2] at he
          rw [he] at hp
          simp only [ne_eq] at hp
          rw [if_pos h2] at hp; exact hp
        · simp at h2
          rw [if_pos h2] at he
          refine ⟨w64_nat hi hm, stepF_ok h.rs hq h2, ?_⟩
          rw [he]
          have e3 : tick + (i : Int) + 1 = tick + ((i + 1 : Nat) : Int) := by omega
          rw [e3]
      · obtain ⟨c, r, n⟩ := q
        obtain ⟨e, hq, he⟩ := hI
        simp only at e hq he; subst e
        refine Ite.nlt (by simp) ⟨?_, hq.1⟩
        rw [he]; simp [runF]
      · rintro ⟨c, r⟩ ⟨he, hc⟩
        rw [he] at hp
        simp only [ne_eq, not_true_eq_false, if_false] at hp
        rw [w64_eq (x := tick + _) (by omega) (by omega)]
        refine S_ref23_Taken hl (Ite.mk (fun h2 => ?_) (fun h2 => ?_))
        · rw [if_pos h2] at hp; exact hp
        · rw [if_neg (by simp [h2])] at hp
          refine Ite.mk (fun h3 => ?_) (fun h3 => ?_)
          · simp at h3; rw [if_pos h3] at hp; exact hp
          · simp at h3; rw [if_neg (by simp [h3])] at hp; exact hp
end
end Go.Taq
