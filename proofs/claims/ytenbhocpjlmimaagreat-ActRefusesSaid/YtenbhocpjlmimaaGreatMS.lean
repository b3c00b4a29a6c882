/- The mathematics, several parts in one text. -/
import Derived.Test.YtenbhocpjlmimaaGreatVc
import Derived.Test.YtenbhocpjlmimaaGreatMB
/- The mathematics, part C: lists: searches, halving. -/
set_option linter.unusedVariables false
namespace Go.Taq
open Go

theorem S_slices_Index {xs : List Int} {v : Int} (hl : xs.length ≤ maxLen) {post : Int → Prop} (hp : post (fidx (fun x => v == x) xs)) : V_slices_Index_int_int xs v post := by
  unfold V_slices_Index_int_int
  have hm : (xs.length : Int) ≤ 9223372036854775807 := by simp [maxLen] at hl; omega
  refine Jn.mk (fun _ => post (-1)) (Loop.find xs (fun x => v == x) (fun i x hi hx hpx => ?_) (fun i x hi hx hpx hf => ?_) (fun hn hf => ?_)) (fun _ h => h)
  · refine Ite.t (by simp; omega) ⟨x, idx_of rfl hx, Ite.f hpx ?_⟩
    rw [w64_eq (by omega) (by omega)]; omega
  · refine Ite.t (by simp; omega) ⟨x, idx_of rfl hx, Ite.t hpx ?_⟩
    simpa [fidx, hf] using hp
  · refine Ite.f (by simp) ?_
    simpa [fidx, hf] using hp
theorem S_slices_Contains {xs : List Int} {v : Int} (hl : xs.length ≤ maxLen) {post : Bool → Prop} (hp : post (xs.contains v)) : V_slices_Contains_int_int xs v post := by
  unfold V_slices_Contains_int_int
  refine S_slices_Index hl ?_
  have : decide (fidx (fun x => v == x) xs ≥ 0) = xs.contains v := by rw [fidx_any, List.contains_eq_any_beq]
  rw [this]; exact hp

/-- ascending -/
def Asc (xs : List Int) : Prop := ∀ (i j : Nat) x y, i < j → xs[i]? = some x → xs[j]? = some y → x < y
theorem S_slices_BinarySearch {xs : List Int} {t : Int} (hl : xs.length ≤ maxLen) (ha : Asc xs) {post : Int × Bool → Prop} (hp : ∀ i, post (i, xs.contains t)) : V_slices_BinarySearch_int_int xs t post := by
  unfold V_slices_BinarySearch_int_int
  have hm : (xs.length : Int) ≤ 9223372036854775807 := by simp [maxLen] at hl; omega
  refine Jn.mk (fun i : Int => 0 ≤ i ∧ i ≤ xs.length ∧ (∀ (j : Nat) x, (j : Int) < i → xs[j]? = some x → x < t) ∧ (∀ (j : Nat) x, i ≤ (j : Int) → xs[j]? = some x → t ≤ x))
    (Loop.mk (fun s : Int × Int => 0 ≤ s.1 ∧ s.1 ≤ s.2 ∧ s.2 ≤ xs.length ∧ (∀ (j : Nat) x, (j : Int) < s.1 → xs[j]? = some x → x < t) ∧ (∀ (j : Nat) x, s.2 ≤ (j : Int) → xs[j]? = some x → t ≤ x)) (fun s => (s.2 - s.1).toNat) ⟨by simp, by simp, by simp, fun j x hj => absurd hj (by simp), fun j x hj hx => ?_⟩ ?_) ?_
  · have := (List.getElem?_eq_some_iff.1 hx).1
    simp at hj; omega
  · rintro ⟨i, j⟩ ⟨h0, h1, h2, h3, h4⟩
    simp only at h0 h1 h2 h3 h4
    refine Ite.mk (fun hlt => ?_) (fun hge => ?_)
    · simp only [decide_eq_true_eq] at hlt
      have e : IntKind.wrap .i64 (shrI .u64 (IntKind.wrap .u64 (w64 (i + j))) 1) = (i + j) / 2 := by
        have e1 : IntKind.wrap .u64 (w64 (i + j)) = i + j := by simp [w64, IntKind.wrap, IntKind.signed, IntKind.bits]; omega
        rw [e1, shrI]
        have e2 : (i + j).fdiv (2 ^ (min (1 : Int).toNat IntKind.u64.bits)) = (i + j) / 2 := by
          rw [Int.fdiv_eq_ediv_of_nonneg _ (by decide)]; rfl
        rw [e2]
        exact w64_eq (by omega) (by omega)
      simp only []
      rw [e]
      have hmid : i ≤ (i + j) / 2 ∧ (i + j) / 2 < j := by omega
      refine ⟨_, idx_get (by omega) (by omega), ?_⟩
      generalize hx : xs[((i + j) / 2).toNat]'(by omega) = x
      have hx' : xs[((i + j) / 2).toNat]? = some x := by rw [List.getElem?_eq_getElem (by omega), hx]
      unfold V_cmp_Less_int V_cmp_isNaN_int
      refine Jn.eq (decide (x < t)) (Ite.f (by simp) rfl) ?_
      refine Jn.mk (fun s : Int × Int => s = (if x < t then (i + j) / 2 + 1 else i, if x < t then j else (i + j) / 2)) (Ite.mk (fun h5 => ?_) (fun h5 => ?_)) ?_
      · simp at h5; simp only [h5, if_true]
        rw [w64_eq (by omega) (by omega)]
      · simp at h5; simp [Int.not_lt.2 h5]
      · rintro ⟨a, b⟩ e3
        cases e3
        by_cases h5 : x < t
        · simp only [h5, if_true]
          refine ⟨⟨by omega, by omega, by omega, fun q y hq hy => ?_, h4⟩, by omega⟩
          rcases Nat.lt_or_ge q ((i + j) / 2).toNat with h6 | h6
          · exact Int.lt_trans (ha _ _ _ _ h6 hy hx') h5
          · have : q = ((i + j) / 2).toNat := by omega
            subst this; rw [hx'] at hy; cases hy; exact h5
        · simp only [h5, if_false]
          refine ⟨⟨by omega, by omega, by omega, h3, fun q y hq hy => ?_⟩, by omega⟩
          rcases Nat.lt_or_ge ((i + j) / 2).toNat q with h6 | h6
          · have := ha _ _ _ _ h6 hx' hy; omega
          · have : q = ((i + j) / 2).toNat := by omega
            subst this; rw [hx'] at hy; cases hy; omega
    · simp only [decide_eq_false_iff_not] at hge
      have : i = j := by omega
      subst this
      exact ⟨h0, h2, h3, h4⟩
  · rintro i ⟨h0, h1, h3, h4⟩
    have hc : xs.contains t = true ↔ ∃ j : Nat, xs[j]? = some t := by
      rw [List.contains_iff_mem]; exact List.mem_iff_getElem?
    refine Jn.eq (xs.contains t) (Ite.mk (fun hlt => ?_) (fun hge => ?_)) (hp i)
    · simp only [decide_eq_true_eq] at hlt
      refine ⟨_, idx_get h0 hlt, ?_⟩
      generalize hx : xs[i.toNat]'(by omega) = x
      have hx' : xs[i.toNat]? = some x := by rw [List.getElem?_eq_getElem (by omega), hx]
      refine Ite.mk (fun h5 => ?_) (fun h5 => ?_)
      · simp at h5; subst h5
        exact (hc.2 ⟨_, hx'⟩).symm
      · unfold V_slices_isNaN_int
        refine Ite.f (by simp) ?_
        simp at h5
        cases hcc : xs.contains t
        · rfl
        · obtain ⟨j, hj⟩ := hc.1 hcc
          exfalso
          rcases Nat.lt_or_ge j i.toNat with h6 | h6
          · have := h3 j t (by omega) hj; omega
          · rcases Nat.lt_or_ge i.toNat j with h7 | h7
            · have := ha _ _ _ _ h7 hx' hj
              have := h4 i.toNat x (by omega) hx'
              omega
            · have : j = i.toNat := by omega
              subst this; rw [hx'] at hj; cases hj; exact h5 rfl
    · simp only [decide_eq_false_iff_not] at hge
      cases hcc : xs.contains t
      · rfl
      · obtain ⟨j, hj⟩ := hc.1 hcc
        have := (List.getElem?_eq_some_iff.1 hj).1
        have := h3 j t (by omega) hj; omega
end Go.Taq

/- The mathematics, part D: zones, what is open, what is taken; a step of a walk. -/
set_option linter.unusedVariables false
namespace Go.Taq
open Go

/-- what of a right site is needed most -/
structure RS (s : ApiSite) : Prop where
  fl : RF s.Floor
  asc : ∀ z, z ∈ s.Zones → Asc z.Cells
  zc : ∀ z, z ∈ s.Zones → ∀ c, c ∈ z.Cells → isC s.Floor c = true
  sp : ∀ z, z ∈ s.Zones → 1 ≤ z.Speed ∧ z.Speed ≤ 100

/-- the zone of a cell -/
def zn (s : ApiSite) (c : Int) : Int := fidx (fun z : ApiZone => z.Cells.contains c) s.Zones
def inS (t : Int) (x : ApiSpan) : Bool := decide (x.From ≤ t) && decide (t < x.To)
def spd (s : ApiSite) (c : Int) : Int := if zn s c < 0 then 1 else (s.Zones.getD (zn s c).toNat default).Speed
def opn (s : ApiSite) (c t : Int) : Bool := isC s.Floor c && (decide (zn s c < 0) || !((s.Zones.getD (zn s c).toNat default).Shut.any (inS t)))
theorem zn_lt {s : ApiSite} {c : Int} : -1 ≤ zn s c ∧ zn s c < s.Zones.length := fidx_lt
theorem idx_zn {s : ApiSite} {c : Int} (h : 0 ≤ zn s c) : idx s.Zones (zn s c) = some (s.Zones.getD (zn s c).toNat default) := by
  have := zn_lt (s := s) (c := c)
  rw [idx_get h (by omega), List.getD_eq_getElem?_getD, List.getElem?_eq_getElem (by omega)]; rfl
theorem mem_zn {s : ApiSite} {c : Int} (h : 0 ≤ zn s c) : s.Zones.getD (zn s c).toNat default ∈ s.Zones := by
  have := zn_lt (s := s) (c := c)
  rw [List.getD_eq_getElem?_getD, List.getElem?_eq_getElem (by omega)]; exact List.getElem_mem _
theorem spd_bd {s : ApiSite} (h : RS s) (c : Int) : 1 ≤ spd s c ∧ spd s c ≤ 100 := by
  unfold spd
  split
  · omega
  · exact h.sp _ (mem_zn (by omega))

theorem S_rules_ZoneOf {s : ApiSite} (k : OkApiSite s) (h : RS s) {c : Int} {post : Int → Prop} (hp : post (zn s c)) : V_rules_ZoneOf s c post := by
  unfold V_rules_ZoneOf V_slices_IndexFunc_api_Zone_api_Zone__rules_ZoneOf_1
  have hl := k.Zones.1
  simp only [maxLen] at hl
  have step : ∀ (x : ApiZone), x ∈ s.Zones → ∀ {post : Bool → Prop}, post (x.Cells.contains c) → V_rules_ZoneOf_1 x c post := fun x hx post hp => by
    unfold V_rules_ZoneOf_1
    exact S_slices_BinarySearch (k.Zones.2 x hx).Cells.1 (h.asc x hx) (fun _ => hp)
  refine Jn.mk (fun _ => post (-1)) (Loop.find s.Zones (fun z : ApiZone => z.Cells.contains c) (fun i x hi hx hpx => ?_) (fun i x hi hx hpx hf => ?_) (fun hn hf => ?_)) (fun _ h => h)
  · refine Ite.t (by simp; omega) ⟨x, idx_of rfl hx, step x (List.mem_of_getElem? hx) (Ite.f hpx ?_)⟩
    rw [w64_eq (by omega) (by omega)]; omega
  · refine Ite.t (by simp; omega) ⟨x, idx_of rfl hx, step x (List.mem_of_getElem? hx) (Ite.t hpx ?_)⟩
    rw [zn, fidx, hf] at hp; exact hp
  · refine Ite.f (by simp) ?_
    rw [zn, fidx, hf] at hp; exact hp
theorem S_rules_isCell {s : ApiSite} {c : Int} {post : Bool → Prop} (hp : post (isC s.Floor c)) : V_rules_isCell s c post := by
  unfold V_rules_isCell
  refine Jand2 ?_
  have : (decide (c ≥ 0) && decide (c < (s.Floor.Kind.length : Int))) = isC s.Floor c := rfl
  rw [this]; exact hp
theorem S_rules_Speed {s : ApiSite} (k : OkApiSite s) (h : RS s) {c : Int} {post : Int → Prop} (hp : post (spd s c)) : V_rules_Speed s c post := by
  unfold V_rules_Speed
  refine S_rules_ZoneOf k h (Ite.mk (fun h1 => ⟨_, idx_zn (by simpa using h1), ?_⟩) (fun h1 => ?_))
  · simp at h1; rw [spd, if_neg (by omega)] at hp; exact hp
  · simp at h1; rw [spd, if_pos (by omega)] at hp; exact hp
theorem S_spans_rules {xs : List ApiSpan} {t : Int} (hl : xs.length ≤ maxLen) {post : Bool → Prop} (hp : post (xs.any (inS t))) : V_slices_ContainsFunc_api_Span_api_Span__rules_Open_1 xs t post := by
  unfold V_slices_ContainsFunc_api_Span_api_Span__rules_Open_1 V_slices_IndexFunc_api_Span_api_Span__rules_Open_1
  simp only [maxLen] at hl
  rw [← fidx_any] at hp
  have step : ∀ (x : ApiSpan) {post : Bool → Prop}, post (inS t x) → V_rules_Open_1 x t post := fun x post hp => by unfold V_rules_Open_1; exact Jand2 hp
  refine Jn.mk (fun _ => post (decide ((-1 : Int) ≥ 0))) (Loop.find xs (inS t) (fun i x hi hx hpx => ?_) (fun i x hi hx hpx hf => ?_) (fun hn hf => ?_)) (fun _ h => h)
  · refine Ite.t (by simp; omega) ⟨x, idx_of rfl hx, step x (Ite.f hpx ?_)⟩
    rw [w64_eq (by omega) (by omega)]; omega
  · refine Ite.t (by simp; omega) ⟨x, idx_of rfl hx, step x (Ite.t hpx ?_)⟩
    rw [fidx, hf] at hp; exact hp
  · refine Ite.f (by simp) ?_
    rw [fidx, hf] at hp; exact hp
theorem S_rules_Open {s : ApiSite} (k : OkApiSite s) (h : RS s) {c t : Int} {post : Bool → Prop} (hp : post (opn s c t)) : V_rules_Open s c t post := by
  unfold V_rules_Open
  refine S_rules_ZoneOf k h ?_
  refine Jn.eq (!isC s.Floor c || decide (zn s c < 0)) (S_rules_isCell (Ite.mk (fun h1 => by rw [h1]; rfl) (fun h1 => by rw [h1]; rfl))) (Ite.mk (fun h1 => S_rules_isCell ?_) (fun h1 => ?_))
  · have : opn s c t = isC s.Floor c := by
      unfold opn
      cases hc : isC s.Floor c
      · rfl
      · rw [hc] at h1; simp only [Bool.not_true, Bool.false_or] at h1; simp [h1]
    rw [← this]; exact hp
  · simp only [Bool.or_eq_false_iff, Bool.not_eq_false', decide_eq_false_iff_not, Int.not_lt] at h1
    refine ⟨_, idx_zn h1.2, S_spans_rules (k.Zones.2 _ (mem_zn h1.2)).Shut.1 ?_⟩
    have : opn s c t = !((s.Zones.getD (zn s c).toNat default).Shut.any (inS t)) := by
      unfold opn; rw [h1.1, decide_eq_false (Int.not_lt.2 h1.2)]; rfl
    rw [← this]; exact hp

/-! ## what is taken -/
end Go.Taq

/- The mathematics, part R: right sites. -/
set_option linter.unusedVariables false
namespace Go.Taq
open Go

theorem S_ref07_Has {l : List Int} (hm : l.length ≤ maxLen) {n : Int} {post : Bool → Prop} (hp : post (l.contains n)) : V_taquinref07_Has l n post := by
  unfold V_taquinref07_Has
  exact V_any hm (p := fun x => x == n) (by rw [any_beq]; exact hp)
theorem S_ref07_Size {f : ApiFloor} (h : RF f) {post : Int → Prop} (hp : post f.Kind.length) : V_taquinref07_Size f post := by
  unfold V_taquinref07_Size; rw [h.size]; exact hp
theorem S_ref07_Is {f : ApiFloor} (h : RF f) {c : Int} {post : Bool → Prop} (hp : post (isC f c)) : V_taquinref07_Is f c post := by
  unfold V_taquinref07_Is
  refine Jn.mk' (Ite.mk (fun h1 => S_ref07_Size h ?_) (fun h1 => ?_))
  · have : isC f c = decide (c < f.Kind.length) := by simp at h1; simp [isC, h1]
    rw [← this]; exact hp
  · have : isC f c = false := by simp at h1; simp [isC]; omega
    rw [← this]; exact hp
theorem S_ref07_Cell {f : ApiFloor} (h : RF f) {x y z : Int} {post : Int → Prop} (hp : post (cellF f x y z)) : V_taquinref07_Cell f x y z post := by
  unfold V_taquinref07_Cell
  refine Jor6 (Ite.mk (fun h1 => ?_) (fun h1 => ?_))
  · have : cellF f x y z = -1 := by
      unfold cellF
      rw [if_neg]
      simp only [Bool.or_eq_true, decide_eq_true_eq] at h1
      omega
    rw [← this]; exact hp
  · have : 0 ≤ x ∧ x < f.W ∧ 0 ≤ y ∧ y < f.H ∧ 0 ≤ z ∧ z < f.D := by
      simp only [Bool.or_eq_false_iff, decide_eq_false_iff_not] at h1
      omega
    rw [cellF_w h this]; exact hp
theorem S_ref07_At {f : ApiFloor} (h : RF f) {c : Int} (hc : isC f c = true) {post : (Int × Int × Int) → Prop} (hp : post (pX f c, pY f c, pZ f c)) : V_taquinref07_At f c post := by
  unfold V_taquinref07_At
  refine S_ref07_Is h ?_
  rw [hc]
  refine Ite.f rfl ?_
  rw [isC_iff] at hc
  have w := h.W1; have hh := h.H1; have hd := h.D1; have wh := h.wh; have hl := h.len.1
  have e1 : 0 ≤ c / f.W ∧ c / f.W ≤ c := ⟨Int.ediv_nonneg hc.1 (by omega), Int.ediv_le_self _ hc.1⟩
  have e2 : 0 ≤ c / f.W / f.H ∧ c / f.W / f.H ≤ c / f.W := ⟨Int.ediv_nonneg e1.1 (by omega), Int.ediv_le_self _ e1.1⟩
  refine ⟨by omega, by omega, by omega, ?_⟩
  rw [Int.tmod_eq_emod_of_nonneg hc.1, Int.tdiv_eq_ediv_of_nonneg hc.1, w64_eq (x := c / f.W) (by omega) (by omega), Int.tmod_eq_emod_of_nonneg e1.1, Int.tdiv_eq_ediv_of_nonneg e1.1, w64_eq (x := c / f.W / f.H) (by omega) (by omega)]
  exact ⟨by omega, by omega, hp⟩
theorem S_ref07_Beside {f : ApiFloor} (h : RF f) {c d : Int} {post : Int → Prop} (hp : post (nbr f c d)) : V_taquinref07_Beside f c d post := by
  unfold V_taquinref07_Beside
  refine S_ref07_Is h (Ite.mk (fun h1 => ?_) (fun h1 => ?_))
  · simp only [Bool.not_eq_true'] at h1
    rw [nbr, if_pos h1] at hp; exact hp
  · simp only [Bool.not_eq_false'] at h1
    refine S_ref07_At h h1 ?_
    have hb := p_bd h h1
    have w := h.W4; have hh := h.H4; have hd := h.D4
    rw [nbr, if_neg (by simp [h1])] at hp
    simp only [Ite_if, beq_iff_eq]
    repeat' split at hp
    all_goals (repeat' split) <;> first | omega | skip
    all_goals first | (refine S_ref07_Cell h ?_; (try simp only []); rw [w64_eq (by omega) (by omega)]; exact hp) | exact hp

theorem S_ref11_Name {x : ByteArray} {post : Bool → Prop} (hx : OkS x) (hF : post false) (hT : 1 ≤ x.size → x.size ≤ 20 → post true) : V_taquinref11_Name x post := by
  unfold V_taquinref11_Name
  refine Jn.mk (fun _ => True) (Loop.upto x.size (fun _ => True) trivial (fun i hi _ Y hY => Ite.lt (by omega) ?_) (fun _ => Ite.nlt (by omega) trivial)) (fun _ _ => ?_)
  · have hl : x.data.toList.length = x.size := by simp
    refine ⟨_, idx_of rfl (List.getElem?_eq_getElem (by omega)), Jn.mk (fun _ => True) (by simp [Ite]) (fun b7 _ => Jn.mk (fun _ => True) (by simp [Ite]) (fun b10 _ => Ite.mk (fun _ => hF) (fun _ => ?_)))⟩
    rw [w64_nat hi (by simpa [OkS] using hx)]
    exact hY trivial
  · refine Jand2 ?_
    cases hb : (decide ((x.size : Int) ≥ 1) && decide ((x.size : Int) ≤ 20))
    · exact hF
    · simp only [Bool.and_eq_true, decide_eq_true_eq] at hb
      exact hT (by omega) (by omega)

/-- the shelf at a cell, or -1 -/
def shAt (l : List ApiShelf) (c : Int) : Int := fidx (fun x : ApiShelf => x.Cell == c) l
def zAt (l : List ApiZone) (c : Int) : Bool := l.any fun z => z.Cells.contains c
def rbAt (l : List ApiStart) (c : Int) : Bool := l.any fun x => x.Cell == c
def standK (k : Int) : Bool := (k == 1) || (k == 2)
def zonedK (k : Int) : Bool := (k != 0) && (k != 4) && (k != 5)
def nosh (x : ByteArray) : Bool := seq x ByteArray.empty
/-- two classes are apart by some rule of a list -/
def apB (l : List ApiApart) (a b : ByteArray) : Bool := !nosh a && !nosh b && l.any fun x => (seq x.A a && seq x.B b) || (seq x.A b && seq x.B a)
theorem S_ref11_shelfAt {l : List ApiShelf} (hm : l.length ≤ maxLen) {c : Int} {post : Int → Prop} (hp : post (shAt l c)) : V_taquinref11_shelfAt l c post := by
  unfold V_taquinref11_shelfAt; exact V_fidx hm hp
theorem S_ref11_robotAt {l : List ApiStart} (hm : l.length ≤ maxLen) {c : Int} {post : Bool → Prop} (hp : post (rbAt l c)) : V_taquinref11_robotAt l c post := by
  unfold V_taquinref11_robotAt; exact V_any hm hp
theorem S_ref11_zoneAt {l : List ApiZone} (hm : l.length ≤ maxLen) (hc : ∀ z, z ∈ l → z.Cells.length ≤ maxLen) {c : Int} {post : Bool → Prop} (hp : post (zAt l c)) : V_taquinref11_zoneAt l c post := by
  unfold V_taquinref11_zoneAt; exact V_anyc hm (fun z => z.Cells.contains c) (T := fun z post => V_taquinref07_Has z.Cells c post) (fun z hz post h => S_ref07_Has (hc z hz) h) hp
theorem S_ref11_named {l : List ApiZone} (hm : l.length ≤ maxLen) {c : ByteArray} {post : Int → Prop} (hp : post (fidx (fun z : ApiZone => seq z.Name c) l)) : V_taquinref11_named l c post := by
  unfold V_taquinref11_named; exact V_fidx hm hp
theorem S_ref11_stands {k : Int} {post : Bool → Prop} (hp : post (standK k)) : V_taquinref11_stands k post := by
  unfold V_taquinref11_stands; exact Jor2 hp
theorem S_ref11_zoned {k : Int} {post : Bool → Prop} (hp : post (zonedK k)) : V_taquinref11_zoned k post := by
  unfold V_taquinref11_zoned; exact Jand3 hp
theorem S_ref11_charger {f : ApiFloor} (hm : f.Kind.length ≤ maxLen) {post : Bool → Prop} (hp : post (f.Kind.contains 3)) : V_taquinref11_charger f post := by
  unfold V_taquinref11_charger; exact S_ref07_Has hm hp
theorem S_ref11_Apart {l : List ApiApart} (hm : l.length ≤ maxLen) {a b : ByteArray} {post : Bool → Prop} (hp : post (apB l a b)) : V_taquinref11_Apart l a b post := by
  unfold V_taquinref11_Apart
  unfold apB nosh at hp
  cases ha : seq a ByteArray.empty <;> cases hb : seq b ByteArray.empty <;> rw [ha, hb] at hp <;> simp only [Bool.not_false, Bool.not_true, Bool.true_and, Bool.false_and, Bool.and_false, Ite_true, Ite_false] at hp ⊢
  · have := V_anyc hm (fun x : ApiApart => (seq x.A a && seq x.B b) || (seq x.A b && seq x.B a)) (T := fun x post => Jn (fun (J11 : Bool → Prop) => Ite (seq x.A a) (Ite (seq x.B b) (J11 true) (Ite (seq x.A b) (J11 (seq x.B a)) (J11 false))) (Ite (seq x.A b) (J11 (seq x.B a)) (J11 false))) post) (fun x _ post h => ?_) hp
    · refine Jn.mk (fun _ => post false) ?_ (fun _ h => h)
      obtain ⟨J, hJ, hL⟩ := this
      intro X hX
      refine hL X (fun s Y hb hY => hX s Y ?_ hY)
      refine hb.cs (fun h1 h2 => ?_) (fun h1 h2 => ?_)
      · obtain ⟨x, hx, hT⟩ := h2
        refine Jn.eq true (Ite.t h1 rfl) (Ite.t rfl ?_)
        obtain ⟨J', h3, h4⟩ := hT
        exact ⟨J', h3, ⟨x, hx, h4⟩⟩
      · exact Jn.eq false (Ite.f h1 rfl) (Ite.f rfl (hJ () h2))
    · refine Jn.mk' ?_
      revert h
      cases seq x.A a <;> cases seq x.B b <;> cases seq x.A b <;> cases seq x.B a <;> simp
  all_goals
    refine Jn.mk (fun _ => post false) ?_ (fun _ h => h)
    refine Loop.step ?_
    refine Jn.eq false ?_ (Ite.f rfl hp)
    exact Ite.mk (fun _ => rfl) (fun _ => rfl)

/-- spans one after the other, from a tick on -/
def spansFrom : Int → List ApiSpan → Prop
  | _, [] => True
  | t, x :: r => t ≤ x.From ∧ x.From < x.To ∧ x.To ≤ 20000 ∧ spansFrom x.To r
theorem S_ref11_spans {l : List ApiSpan} (hm : l.length ≤ maxLen) {post : Bool → Prop} (hF : post false) (hT : spansFrom 0 l → post true) : V_taquinref11_spans l post := by
  unfold V_taquinref11_spans
  refine Jn.mk (fun _ => spansFrom 0 l) (Loop.inv l.length (fun i (s : Int × Int) => s.2 = (i : Int) ∧ (spansFrom s.1 (l.drop i) → spansFrom 0 l)) ⟨rfl, fun h => by simpa using h⟩ (fun i s hi h => ?_) (fun s h => ?_)) (fun _ h => hT h)
  · obtain ⟨t, j⟩ := s
    obtain ⟨e, h⟩ := h
    simp only at e h; subst e
    have hx : l[i]? = some (l[i]'hi) := List.getElem?_eq_getElem hi
    generalize hxe : l[i]'hi = x at hx
    have hd : l.drop i = x :: l.drop (i + 1) := by rw [List.drop_eq_getElem_cons hi, hxe]
    refine Ite.lt (by simp only []; omega) (Jn.ex x (idx_of rfl hx) (Jor3 (Ite.mk (fun _ => hF) (fun h1 => ⟨x, idx_of rfl hx, ?_⟩))))
    · simp only [Bool.or_eq_false_iff, decide_eq_false_iff_not] at h1
      refine ⟨w64_nat hi hm, fun h2 => h ?_⟩
      rw [hd]
      exact ⟨by omega, by omega, by omega, h2⟩
  · obtain ⟨e, h⟩ := h
    refine Ite.nlt (by rw [e]; omega) (h ?_)
    rw [List.drop_length]; trivial

/-- a cell on which a shelf may stand, and none does -/
def blankB (s : ApiSite) (c : Int) : Bool := standK (kd s.Floor c) && decide (shAt s.Shelves c < 0)
theorem S_ref11_blanks {s : ApiSite} (k : OkApiSite s) {z : ApiZone} (hz : z.Cells.length ≤ maxLen) (hc : ∀ c, c ∈ z.Cells → isC s.Floor c = true) {post : Int → Prop} (hp : post (z.Cells.countP (blankB s) : Nat)) : V_taquinref11_blanks s z post := by
  unfold V_taquinref11_blanks
  refine Jn.mk (fun n => n = (z.Cells.countP (blankB s) : Nat)) (Loop.inv z.Cells.length (fun i (t : Int × Int) => t.2 = (i : Int) ∧ t.1 = ((z.Cells.take i).countP (blankB s) : Nat)) ⟨rfl, rfl⟩ (fun i t hi h => ?_) (fun t h => ?_)) (fun _ h => h ▸ hp)
  · obtain ⟨n, j⟩ := t
    obtain ⟨e, h⟩ := h
    simp only at e h; subst e
    have hx : z.Cells[i]? = some (z.Cells[i]'hi) := List.getElem?_eq_getElem hi
    generalize hxe : z.Cells[i]'hi = x at hx
    have hcx := hc x (List.mem_of_getElem? hx)
    have e1 : z.Cells.take (i + 1) = z.Cells.take i ++ [x] := by rw [List.take_add_one, hx]; rfl
    have hle : (z.Cells.take i).countP (blankB s) ≤ i := Nat.le_trans List.countP_le_length (by simp; omega)
    refine Ite.lt (by simp only []; omega) (Jn.eq (blankB s x) ⟨x, idx_of rfl hx, _, idx_kd hcx, S_ref11_stands (Ite.mk (fun h1 => S_ref11_shelfAt k.Shelves.1 ?_) (fun h1 => ?_))⟩ ?_)
    · simp [blankB, h1]
    · simp [blankB, h1]
    · refine Jn.eq (n + (if blankB s x = true then 1 else 0)) (Ite.mk (fun h1 => ?_) (fun h1 => ?_)) ⟨w64_nat hi hz, ?_⟩
      · simp only [h1, if_true]
        rw [w64_eq (by omega) (by simp [maxLen] at hz; omega)]
      · simp [h1]
      · simp only []
        rw [e1, List.countP_append, h]
        cases hb : blankB s x <;> simp [hb]
  · obtain ⟨e, h⟩ := h
    refine Ite.nlt (by rw [e]; omega) ?_
    rw [h, List.take_length]
end Go.Taq

/- The mathematics, part S: right sites, whole. -/
set_option linter.unusedVariables false
namespace Go.Taq
open Go

/-- a zone is right, after some others -/
structure RZone (s : ApiSite) (before : List ApiZone) (z : ApiZone) : Prop where
  named : 1 ≤ z.Name.size ∧ z.Name.size ≤ 20
  name : ∀ y, y ∈ before → seq y.Name z.Name = false
  ne : z.Cells ≠ []
  sp : 1 ≤ z.Speed ∧ z.Speed ≤ 100
  keep : 0 ≤ z.Keep
  spans : spansFrom 0 z.Shut
  cell : ∀ c, c ∈ z.Cells → isC s.Floor c = true ∧ zonedK (kd s.Floor c) = true ∧ zAt before c = false
  asc : ∀ (i : Nat) x y, z.Cells[i]? = some x → z.Cells[i + 1]? = some y → x < y
theorem asc_of {l : List Int} (h : ∀ (i : Nat) x y, l[i]? = some x → l[i + 1]? = some y → x < y) : Asc l := by
  have key : ∀ (d i : Nat) x y, l[i]? = some x → l[i + d + 1]? = some y → x < y := by
    intro d
    induction d with
    | zero => intro i x y hx hy; exact h i x y hx hy
    | succ d ih =>
      intro i x y hx hy
      have hlt := (List.getElem?_eq_some_iff.1 hy).1
      have hz : l[i + d + 1]? = some (l[i + d + 1]'(by omega)) := List.getElem?_eq_getElem _
      exact Int.lt_trans (ih i x _ hx hz) (h (i + d + 1) _ y hz (by rw [← hy]; congr 1))
  intro i j x y hij hx hy
  exact key (j - i - 1) i x y hx (by rw [← hy]; congr 1; omega)
theorem RZone.ascL {s : ApiSite} {b : List ApiZone} {z : ApiZone} (h : RZone s b z) : Asc z.Cells := asc_of h.asc
theorem mem_take {α : Type} {xs : List α} {i : Nat} {x : α} (h : x ∈ xs.take i) : x ∈ xs := List.mem_of_mem_take h

theorem S_ref11_rightZones {s : ApiSite} (k : OkApiSite s) (hf : RF s.Floor) {post : Bool → Prop} (hF : post false)
    (hT : s.Zones.length ≤ 64 → (∀ (i : Nat) z, s.Zones[i]? = some z → RZone s (s.Zones.take i) z) → post true) : V_taquinref11_rightZones s post := by
  unfold V_taquinref11_rightZones
  refine Jn.mk (fun _ => ∀ (i : Nat) z, s.Zones[i]? = some z → RZone s (s.Zones.take i) z) (Loop.each s.Zones k.Zones.1 (fun i => ∀ (j : Nat) z, j < i → s.Zones[j]? = some z → RZone s (s.Zones.take j) z) (fun j z h => by omega) (fun i z hz hidx hlt hall Y hY => Ite.lt hlt ?_) (fun h => Ite.nlt (by omega) (fun i z hz => h i z (List.getElem?_eq_some_iff.1 hz).1 hz))) (fun _ h => ?_)
  · have kz := k.Zones.2 z (List.mem_of_getElem? hz)
    have kt : ∀ x, x ∈ s.Zones.take i → x.Cells.length ≤ maxLen := fun x hx => (k.Zones.2 x (mem_take hx)).Cells.1
    have ktl : (s.Zones.take i).length ≤ maxLen := Nat.le_trans (by simp; omega) k.Zones.1
    refine Jn.mk (fun _ => RZone s (s.Zones.take i) z) ⟨z, hidx, Jn.mk (fun b => b = false → (1 ≤ z.Name.size ∧ z.Name.size ≤ 20) ∧ (∀ y, y ∈ s.Zones.take i → seq y.Name z.Name = false) ∧ z.Cells ≠ [] ∧ (1 ≤ z.Speed ∧ z.Speed ≤ 100) ∧ 0 ≤ z.Keep ∧ spansFrom 0 z.Shut) ?_ ?_⟩ ?_
    · refine S_ref11_Name kz.Name (Ite.f rfl (fun h => by cases h)) (fun n1 n2 => Ite.t rfl ⟨⟨by omega, by omega, by omega⟩, ?_⟩)
      rw [sub0]
      refine S_ref11_named ktl (Ite.mk (fun _ h => by cases h) (fun h1 => Ite.mk (fun _ h => by cases h) (fun h2 => Ite.mk (fun _ h => by cases h) (fun h3 => Ite.mk (fun _ h => by cases h) (fun h4 => Ite.mk (fun _ h => by cases h) (fun h5 => ?_))))))
      rw [fidx_any] at h1
      refine S_ref11_spans kz.Shut.1 (fun h => by simp at h) (fun h6 _ => ⟨⟨n1, n2⟩, fun y hy => ?_, ?_, ?_, ?_, h6⟩)
      · exact Bool.eq_false_iff.2 (List.any_eq_false.1 h1 y hy)
      · intro e; rw [e] at h2; simp at h2
      · simp at h3 h4; omega
      · simp at h5; omega
    · intro b hb
      refine Ite.mk (fun _ => hF) (fun h1 => ?_)
      obtain ⟨b1, b2, b3, b4, b5, b6⟩ := hb h1
      refine Jn.mk (fun _ => (∀ c, c ∈ z.Cells → isC s.Floor c = true ∧ zonedK (kd s.Floor c) = true ∧ zAt (s.Zones.take i) c = false) ∧ (∀ (i : Nat) x y, z.Cells[i]? = some x → z.Cells[i + 1]? = some y → x < y))
        (Loop.each z.Cells kz.Cells.1 (fun m => (∀ (j : Nat) c, j < m → z.Cells[j]? = some c → isC s.Floor c = true ∧ zonedK (kd s.Floor c) = true ∧ zAt (s.Zones.take i) c = false) ∧ (∀ (j : Nat) x y, j + 1 < m → z.Cells[j]? = some x → z.Cells[j + 1]? = some y → x < y)) ⟨fun j c h => by omega, fun j x y h => by omega⟩ (fun m c hc hidc hlc hm Y2 hY2 => Ite.lt hlc ⟨c, hidc, ?_⟩)
          (fun h => Ite.nlt (by omega) ⟨fun c hc => ?_, fun j x y hx hy => h.2 j x y (List.getElem?_eq_some_iff.1 hy).1 hx hy⟩)) (fun _ h => ?_)
      · refine Jn.mk (fun b => b = false → isC s.Floor c = true ∧ ∀ x, 0 < m → z.Cells[m - 1]? = some x → x < c) (S_ref07_Is hf (Ite.mk (fun h2 => Ite.mk (fun h3 => ?_) (fun h3 => fun _ => ⟨h2, fun x h0 => by simp at h3; omega⟩)) (fun h2 h => by cases h))) (fun b hb => Ite.mk (fun _ => hF) (fun h2 => ?_))
        · simp at h3
          have hl := kz.Cells.1
          have hx : z.Cells[m - 1]? = some (z.Cells[m - 1]'(by omega)) := List.getElem?_eq_getElem _
          refine ⟨_, idx_of (n := m - 1) ?_ hx, fun h4 => ⟨h2, fun x h0 hx' => ?_⟩⟩
          · simp only [maxLen] at hl
            rw [w64_eq (by omega) (by omega), imax]; split <;> omega
          · rw [hx] at hx'; cases hx'
            simp at h4; exact h4
        · obtain ⟨hcc, hasc⟩ := hb h2
          refine Jn.mk (fun b => b = false → zonedK (kd s.Floor c) = true ∧ zAt (s.Zones.take i) c = false) ⟨_, idx_kd hcc, S_ref11_zoned (Ite.mk (fun h3 => ⟨⟨by omega, by omega, by omega⟩, ?_⟩) (fun h3 h => by cases h))⟩ (fun b hb' => Ite.mk (fun _ => hF) (fun h4 => hY2 ?_))
          · rw [sub0]; exact S_ref11_zoneAt ktl kt (fun h => ⟨h3, h⟩)
          · obtain ⟨q1, q2⟩ := hb' h4
            refine ⟨fun j c' hj hc' => ?_, fun j x y hj hx hy => ?_⟩
            · by_cases e : j = m
              · subst e; rw [hc] at hc'; cases hc'; exact ⟨hcc, q1, q2⟩
              · exact hm.1 j c' (by omega) hc'
            · by_cases e : j + 1 = m
              · subst e
                rw [hc] at hy; cases hy
                exact hasc x (by omega) (by simpa using hx)
              · exact hm.2 j x y (by omega) hx hy
      · obtain ⟨j, hj⟩ := List.getElem?_of_mem hc
        exact h.1 j c (List.getElem?_eq_some_iff.1 hj).1 hj
      · exact ⟨b1, b2, b3, b4, b5, b6, h.1, h.2⟩
    · intro _ hz'
      refine hY (fun j y hj hy => ?_)
      by_cases e : j = i
      · subst e; rw [hz] at hy; cases hy; exact hz'
      · exact hall j y (by omega) hy
  · cases hb : decide ((s.Zones.length : Int) ≤ 64)
    · exact hF
    · exact hT (by simp at hb; omega) h

/-- a shelf is near an earlier one from whose class its class is apart -/
def badSh (s : ApiSite) (i : Nat) (d : Int) : Prop := ∃ x y, s.Shelves[i]? = some x ∧ 0 ≤ nbr s.Floor x.Cell d ∧ 0 ≤ shAt s.Shelves (nbr s.Floor x.Cell d) ∧ shAt s.Shelves (nbr s.Floor x.Cell d) < i ∧ idx s.Shelves (shAt s.Shelves (nbr s.Floor x.Cell d)) = some y ∧ apB s.Aparts x.Class y.Class = true
theorem shAt_bd (l : List ApiShelf) (c : Int) : -1 ≤ shAt l c ∧ shAt l c < l.length := fidx_lt
theorem S_ref11_Beside {s : ApiSite} (k : OkApiSite s) (hf : RF s.Floor) {post : Int → Prop} (hF : ∀ i : Nat, i < s.Shelves.length → post (i : Int)) (hT : (∀ (i : Nat) (d : Int), 0 ≤ d → d < 4 → ¬ badSh s i d) → post (-1)) : V_taquinref11_Beside s post := by
  unfold V_taquinref11_Beside
  refine Jn.mk (fun _ => ∀ (i : Nat) (d : Int), 0 ≤ d → d < 4 → ¬ badSh s i d) (Loop.each s.Shelves k.Shelves.1 (fun i => ∀ (j : Nat) (d : Int), j < i → 0 ≤ d → d < 4 → ¬ badSh s j d) (fun j d h => by omega) (fun i x hx hidx hlt hall Y hY => Ite.lt hlt ?_)
    (fun h => Ite.nlt (by omega) (fun i d h0 h1 hb => by
      obtain ⟨x, y, hx, _⟩ := hb
      exact h i d (List.getElem?_eq_some_iff.1 hx).1 h0 h1 ⟨x, y, hx, ‹_›⟩))) (fun _ h => hT h)
  refine Jn.mk (fun _ => ∀ d : Int, 0 ≤ d → d < 4 → ¬ badSh s i d) (Jn.mk (fun _ => ∀ d : Int, 0 ≤ d → d < 4 → ¬ badSh s i d) (Loop.upto 4 (fun n => ∀ d : Int, 0 ≤ d → d < n → ¬ badSh s i d) (fun d h0 h1 => by omega) (fun n hn hd Y2 hY2 => Ite.lt (by omega) ⟨x, hidx, S_ref07_Beside hf (S_ref11_shelfAt k.Shelves.1 ?_)⟩) (fun h => Ite.nlt (by omega) h)) (fun _ h => h)) (fun _ h => hY (fun j d hj h0 h1 => ?_))
  · have hb := shAt_bd s.Shelves (nbr s.Floor x.Cell n)
    refine Jn.mk (fun b => b = false → ¬ badSh s i n) (Ite.mk (fun h1 => Ite.mk (fun h2 => Ite.mk (fun h3 => ?_) (fun h3 _ => ?_)) (fun h2 _ => ?_)) (fun h1 _ => ?_)) (fun b hb' => Ite.mk (fun _ => hF i (by omega)) (fun h4 => ?_))
    · simp at h1 h2 h3
      have e : imax (shAt s.Shelves (nbr s.Floor x.Cell n)) 0 = shAt s.Shelves (nbr s.Floor x.Cell n) := by rw [imax]; split <;> omega
      rw [e]
      have hy := idx_get (xs := s.Shelves) h2 (by omega)
      refine ⟨_, hy, S_ref11_Apart k.Aparts.1 (fun h => ?_)⟩
      rintro ⟨x', y', hx', _, _, _, hy', hap⟩
      rw [hx] at hx'; cases hx'
      rw [hy] at hy'; cases hy'
      rw [h] at hap; cases hap
    · simp at h3
      rintro ⟨x', y', hx', _, _, h5, _⟩
      rw [hx] at hx'; cases hx'
      omega
    · simp at h2
      rintro ⟨x', y', hx', _, h5, _⟩
      rw [hx] at hx'; cases hx'
      omega
    · simp at h1
      rintro ⟨x', y', hx', h5, _⟩
      rw [hx] at hx'; cases hx'
      omega
    · have := hY2 (fun d h0 h1 => by
        by_cases e : d = n
        · subst e; exact hb' h4
        · exact hd d h0 (by omega))
      rw [w64_eq (by omega) (by omega)]; simpa using this
  · by_cases e : j = i
    · subst e; exact h d h0 h1
    · exact hall j d (by omega) h0 h1

/-- a right site -/
structure RSite (s : ApiSite) : Prop where
  fl : RF s.Floor
  z64 : s.Zones.length ≤ 64
  zone : ∀ (i : Nat) z, s.Zones[i]? = some z → RZone s (s.Zones.take i) z
  sh3 : s.Shelves.length ≤ 3000
  r2 : s.Robots.length ≤ 200
  ap : ∀ (i : Nat) x, s.Aparts[i]? = some x → 1 ≤ x.A.size ∧ 1 ≤ x.B.size ∧ apB (s.Aparts.take i) x.A x.B = false
  sh : ∀ (i : Nat) x, s.Shelves[i]? = some x → isC s.Floor x.Cell = true ∧ standK (kd s.Floor x.Cell) = true ∧ shAt (s.Shelves.take i) x.Cell < 0
  rb : ∀ (i : Nat) x, s.Robots[i]? = some x → isC s.Floor x.Cell = true ∧ 0 ≤ x.Charge ∧ x.Charge ≤ 1000000 ∧ kd s.Floor x.Cell ≠ 0 ∧ rbAt (s.Robots.take i) x.Cell = false
  room : ∀ z, z ∈ s.Zones → z.Keep ≤ (z.Cells.countP (blankB s) : Nat)
  apart : ∀ (i : Nat) (d : Int), 0 ≤ d → d < 4 → ¬ badSh s i d
  charger : s.Floor.Kind.contains 3 = true
theorem RSite.zm {s : ApiSite} (h : RSite s) {z : ApiZone} (hz : z ∈ s.Zones) : ∃ i : Nat, RZone s (s.Zones.take i) z := by
  obtain ⟨i, hi⟩ := List.getElem?_of_mem hz
  exact ⟨i, h.zone i z hi⟩
theorem RSite.rs {s : ApiSite} (h : RSite s) : RS s where
  fl := h.fl
  asc z hz := (h.zm hz).elim fun _ q => q.ascL
  zc z hz c hc := (h.zm hz).elim fun _ q => (q.cell c hc).1
  sp z hz := (h.zm hz).elim fun _ q => q.sp

theorem S_ref11_Right {s : ApiSite} (k : OkApiSite s) {post : Bool → Prop} (hF : post false) (hT : RSite s → post true) : V_taquinref11_Right s post := by
  unfold V_taquinref11_Right
  refine Jn.mk (fun b => b = false → RF s.Floor ∧ s.Zones.length ≤ 64 ∧ (∀ (i : Nat) z, s.Zones[i]? = some z → RZone s (s.Zones.take i) z) ∧ s.Shelves.length ≤ 3000 ∧ s.Robots.length ≤ 200)
    (S_ref07_Right (Ite.f rfl (fun h => by cases h)) (fun hf => Ite.t rfl (S_ref11_rightZones k hf (Ite.f rfl (fun h => by cases h)) (fun z1 z2 => Ite.t rfl (Ite.mk (fun _ h => by cases h) (fun h1 h2 => ⟨hf, z1, z2, by simp at h1; omega, by simp at h2; omega⟩)))))) (fun b hb => Ite.mk (fun _ => hF) (fun hb' => ?_))
  obtain ⟨hf, z1, z2, l1, l2⟩ := hb hb'
  refine Jn.mk (fun _ => ∀ (i : Nat) x, s.Aparts[i]? = some x → 1 ≤ x.A.size ∧ 1 ≤ x.B.size ∧ apB (s.Aparts.take i) x.A x.B = false) (Loop.each s.Aparts k.Aparts.1 (fun i => ∀ (j : Nat) x, j < i → s.Aparts[j]? = some x → 1 ≤ x.A.size ∧ 1 ≤ x.B.size ∧ apB (s.Aparts.take j) x.A x.B = false) (fun j z h => by omega) (fun i x hx hidx hlt hall Y hY => Ite.lt hlt ⟨x, hidx, ?_⟩) (fun h => Ite.nlt (by omega) (fun i z hz => h i z (List.getElem?_eq_some_iff.1 hz).1 hz))) (fun _ hap => ?_)
  · have kx := k.Aparts.2 x (List.mem_of_getElem? hx)
    refine Jn.mk (fun b => b = false → 1 ≤ x.A.size ∧ 1 ≤ x.B.size ∧ apB (s.Aparts.take i) x.A x.B = false) (S_ref11_Name kx.A (Ite.f rfl (fun h => by cases h)) (fun a1 a2 => Ite.t rfl (S_ref11_Name kx.B (Ite.f rfl (fun h => by cases h)) (fun b1 b2 => Ite.t rfl ⟨⟨by omega, by omega, by omega⟩, ?_⟩)))) (fun b hb => Ite.mk (fun _ => hF) (fun hb' => hY (fun j y hj hy => ?_)))
    · rw [sub0]; exact S_ref11_Apart (Nat.le_trans (by simp; omega) k.Aparts.1) (fun h => ⟨a1, b1, h⟩)
    · by_cases e : j = i
      · subst e; rw [hx] at hy; cases hy; exact hb hb'
      · exact hall j y (by omega) hy
  refine Jn.mk (fun _ => ∀ (i : Nat) x, s.Shelves[i]? = some x → isC s.Floor x.Cell = true ∧ standK (kd s.Floor x.Cell) = true ∧ shAt (s.Shelves.take i) x.Cell < 0) (Loop.each s.Shelves k.Shelves.1 (fun i => ∀ (j : Nat) x, j < i → s.Shelves[j]? = some x → isC s.Floor x.Cell = true ∧ standK (kd s.Floor x.Cell) = true ∧ shAt (s.Shelves.take j) x.Cell < 0) (fun j z h => by omega) (fun i x hx hidx hlt hall Y hY => Ite.lt hlt ⟨x, hidx, ?_⟩) (fun h => Ite.nlt (by omega) (fun i z hz => h i z (List.getElem?_eq_some_iff.1 hz).1 hz))) (fun _ hsh => ?_)
  · have kx := k.Shelves.2 x (List.mem_of_getElem? hx)
    refine Jn.mk (fun b => b = false → isC s.Floor x.Cell = true) (S_ref07_Is hf (Ite.mk (fun h1 => Ite.mk (fun _ _ => h1) (fun _ => S_ref11_Name kx.Class (fun h => by cases h) (fun _ _ _ => h1))) (fun _ h => by cases h))) (fun b hb => Ite.mk (fun _ => hF) (fun hb' => ?_))
    have hc := hb hb'
    refine Jn.mk (fun b => b = false → standK (kd s.Floor x.Cell) = true ∧ shAt (s.Shelves.take i) x.Cell < 0) ⟨_, idx_kd hc, S_ref11_stands (Ite.mk (fun h1 => ⟨⟨by omega, by omega, by omega⟩, ?_⟩) (fun h1 h => by cases h))⟩ (fun b hb => Ite.mk (fun _ => hF) (fun hb' => hY (fun j y hj hy => ?_)))
    · rw [sub0]; exact S_ref11_shelfAt (Nat.le_trans (by simp; omega) k.Shelves.1) (fun h => ⟨h1, by simpa using h⟩)
    · by_cases e : j = i
      · subst e; rw [hx] at hy; cases hy; exact ⟨hc, hb hb'⟩
      · exact hall j y (by omega) hy
  refine Jn.mk (fun _ => ∀ (i : Nat) x, s.Robots[i]? = some x → isC s.Floor x.Cell = true ∧ 0 ≤ x.Charge ∧ x.Charge ≤ 1000000 ∧ kd s.Floor x.Cell ≠ 0 ∧ rbAt (s.Robots.take i) x.Cell = false) (Loop.each s.Robots k.Robots.1 (fun i => ∀ (j : Nat) x, j < i → s.Robots[j]? = some x → isC s.Floor x.Cell = true ∧ 0 ≤ x.Charge ∧ x.Charge ≤ 1000000 ∧ kd s.Floor x.Cell ≠ 0 ∧ rbAt (s.Robots.take j) x.Cell = false) (fun j z h => by omega) (fun i x hx hidx hlt hall Y hY => Ite.lt hlt ⟨x, hidx, ?_⟩) (fun h => Ite.nlt (by omega) (fun i z hz => h i z (List.getElem?_eq_some_iff.1 hz).1 hz))) (fun _ hrb => ?_)
  · refine Jn.mk (fun b => b = false → isC s.Floor x.Cell = true ∧ 0 ≤ x.Charge ∧ x.Charge ≤ 1000000) (S_ref07_Is hf (Ite.mk (fun h1 => Ite.mk (fun _ h => by cases h) (fun h2 h3 => ⟨h1, by simpa using h2, by simpa using h3⟩)) (fun _ h => by cases h))) (fun b hb => Ite.mk (fun _ => hF) (fun hb' => ?_))
    obtain ⟨hc, c1, c2⟩ := hb hb'
    refine Jn.mk (fun b => b = false → kd s.Floor x.Cell ≠ 0 ∧ rbAt (s.Robots.take i) x.Cell = false) ⟨_, idx_kd hc, Ite.mk (fun h1 h => by cases h) (fun h1 => ⟨⟨by omega, by omega, by omega⟩, ?_⟩)⟩ (fun b hb => Ite.mk (fun _ => hF) (fun hb' => hY (fun j y hj hy => ?_)))
    · rw [sub0]; exact S_ref11_robotAt (Nat.le_trans (by simp; omega) k.Robots.1) (fun h => ⟨by simpa using h1, h⟩)
    · by_cases e : j = i
      · subst e; rw [hx] at hy; cases hy; exact ⟨hc, c1, c2, hb hb'⟩
      · exact hall j y (by omega) hy
  refine Jn.mk (fun _ => ∀ (i : Nat) z, s.Zones[i]? = some z → z.Keep ≤ (z.Cells.countP (blankB s) : Nat)) (Loop.each s.Zones k.Zones.1 (fun i => ∀ (j : Nat) z, j < i → s.Zones[j]? = some z → z.Keep ≤ (z.Cells.countP (blankB s) : Nat)) (fun j z h => by omega) (fun i x hx hidx hlt hall Y hY => Ite.lt hlt ⟨x, hidx, ?_⟩) (fun h => Ite.nlt (by omega) (fun i z hz => h i z (List.getElem?_eq_some_iff.1 hz).1 hz))) (fun _ hro => ?_)
  · refine S_ref11_blanks k (k.Zones.2 x (List.mem_of_getElem? hx)).Cells.1 (fun c hc => ((z2 i x hx).cell c hc).1) (Ite.mk (fun _ => hF) (fun h1 => hY (fun j y hj hy => ?_)))
    by_cases e : j = i
    · subst e; rw [hx] at hy; cases hy; simpa using h1
    · exact hall j y (by omega) hy
  refine Jn.mk' (S_ref11_Beside k hf (fun i hi => Ite.f (by simp) hF) (fun hbs => Ite.t (by decide) (S_ref11_charger k.Floor.Kind.1 ?_)))
  cases hch : s.Floor.Kind.contains 3
  · exact hF
  · exact hT ⟨hf, z1, z2, l1, l2, hap, hsh, hrb, fun z hz => (List.getElem?_of_mem hz).elim fun i hi => hro i z hi, hbs, hch⟩

theorem S_ref07_Few {f : ApiFloor} {n : Int} {post : Bool → Prop} (hF : post false) (hT : f.Kind.length ≤ n → f.Out.length ≤ n → post true) : V_taquinref07_Few f n post := by
  unfold V_taquinref07_Few
  refine Jn.mk' (Ite.mk (fun h1 => ?_) (fun h1 => hF))
  simp at h1
  cases hb : decide ((f.Out.length : Int) ≤ n)
  · exact hF
  · exact hT h1 (by simpa using hb)
/-- few -/
structure FewS (s : ApiSite) (cells most : Int) : Prop where
  kind : s.Floor.Kind.length ≤ cells
  zones : s.Zones.length ≤ most
  aparts : s.Aparts.length ≤ most
  shelves : s.Shelves.length ≤ most
  robots : s.Robots.length ≤ most
  zone : ∀ z, z ∈ s.Zones → z.Cells.length ≤ cells ∧ z.Shut.length ≤ 20
theorem S_ref11_Few {s : ApiSite} (k : OkApiSite s) {cells most : Int} (hm : 0 ≤ most ∧ most ≤ 1000000) {post : Bool → Prop} (hF : post false) (hT : FewS s cells most → post true) : V_taquinref11_Few s cells most post := by
  unfold V_taquinref11_Few
  refine V_few s.Zones k.Zones.1 (T := fun s3 q => Jn (fun (J10 : Bool → Prop) => ∃ x11, idx s.Zones s3 = some x11 ∧ Ite (decide ((x11.Cells.length : Int) > cells)) (J10 true) (Ite (decide ((x11.Shut.length : Int) > 20)) (J10 true) (J10 (decide ((x11.Name.size : Int) > 40))))) q) (fun z => z.Cells.length ≤ cells ∧ z.Shut.length ≤ 20) (fun i x hx q q1 q2 => Jn.ex x hx (Jor3 ?_)) hF (fun hz => ?_)
  · cases hb : (decide ((x.Cells.length : Int) > cells) || decide ((x.Shut.length : Int) > 20) || decide ((x.Name.size : Int) > 40))
    · simp only [Bool.or_eq_false_iff, decide_eq_false_iff_not] at hb
      exact q2 ⟨by omega, by omega⟩
    · exact q1
  refine V_few s.Aparts k.Aparts.1 (T := fun s3 q => Jn (fun (J10 : Bool → Prop) => ∃ x11, idx s.Aparts s3 = some x11 ∧ Ite (decide ((x11.A.size : Int) > 40)) (J10 true) (J10 (decide ((x11.B.size : Int) > 40)))) q) (fun z => True) (fun i x hx q q1 q2 => Jn.ex x hx (Jor2 ?_)) hF (fun _ => ?_)
  · cases hb : (decide ((x.A.size : Int) > 40) || decide ((x.B.size : Int) > 40))
    · exact q2 trivial
    · exact q1
  refine V_few s.Shelves k.Shelves.1 (T := fun s3 q => ∃ x11, idx s.Shelves s3 = some x11 ∧ q (decide ((x11.Class.size : Int) > 40))) (fun z => True) (fun i x hx q q1 q2 => ⟨x, hx, ?_⟩) hF (fun _ => ?_)
  · cases hb : (decide ((x.Class.size : Int) > 40))
    · exact q2 trivial
    · exact q1
  refine Jn.mk' (S_ref07_Few (Ite.f rfl hF) (fun f1 f2 => Ite.t rfl (Ite.mk (fun h1 => Ite.mk (fun h2 => Ite.mk (fun h3 => ?_) (fun _ => hF)) (fun _ => hF)) (fun _ => hF))))
  simp at h1 h2 h3
  cases hb : decide ((s.Robots.length : Int) ≤ most)
  · exact hF
  · exact hT ⟨f1, h1, h2, h3, by simpa using hb, hz h1⟩
end Go.Taq
