/- The mathematics, several parts in one text. -/
import Derived.Test.YtdcfcldpjfepiaaVc
import Derived.Test.YtdcfcldpjfepiaaMB
/- The mathematics, part C: lists: searches, halving. -/
set_option linter.unusedVariables false
namespace Go.Taq
open Go

theorem S_slices_Index {xs : List Int} {v : Int} (hl : xs.length ≤ maxLen) {post : Int → Prop} (hp : post (fidx (fun x => v == x) xs)) : V_slices_Index_int_int xs v post := by
  unfold V_slices_Index_int_int
  have hm : (xs.length : Int) ≤ 9223372036854775807 := by simp [maxLen] at hl; omega
  refine Jn.mk (fun _ => post (-1)) (Loop.find xs (fun x => v == x) (fun i x hi hx hpx => ?_) (fun i x hi hx hpx hf => ?_) (fun hn hf => ?_)) (fun _ h => h)
  · refine Ite.t (by simp; omega) ⟨x, idx_of rfl hx, Ite.f hpx ?_⟩
    rw [w64_eq (by omega) (by omega)]; omega
  · refine Ite.t (by simp; omega) ⟨x, idx_of rfl hx, Ite.t hpx ?_⟩
    simpa [fidx, hf] using hp
  · refine Ite.f (by simp) ?_
    simpa [fidx, hf] using hp
theorem S_slices_Contains {xs : List Int} {v : Int} (hl : xs.length ≤ maxLen) {post : Bool → Prop} (hp : post (xs.contains v)) : V_slices_Contains_int_int xs v post := by
  unfold V_slices_Contains_int_int
  refine S_slices_Index hl ?_
  have : decide (fidx (fun x => v == x) xs ≥ 0) = xs.contains v := by rw [fidx_any, List.contains_eq_any_beq]
  rw [this]; exact hp

/-- ascending -/
def Asc (xs : List Int) : Prop := ∀ (i j : Nat) x y, i < j → xs[i]? = some x → xs[j]? = some y → x < y
theorem S_slices_BinarySearch {xs : List Int} {t : Int} (hl : xs.length ≤ maxLen) (ha : Asc xs) {post : Int × Bool → Prop} (hp : ∀ i, post (i, xs.contains t)) : V_slices_BinarySearch_int_int xs t post := by
  unfold V_slices_BinarySearch_int_int
  have hm : (xs.length : Int) ≤ 9223372036854775807 := by simp [maxLen] at hl; omega
  refine Jn.mk (fun i : Int => 0 ≤ i ∧ i ≤ xs.length ∧ (∀ (j : Nat) x, (j : Int) < i → xs[j]? = some x → x < t) ∧ (∀ (j : Nat) x, i ≤ (j : Int) → xs[j]? = some x → t ≤ x))
    (Loop.mk (fun s : Int × Int => 0 ≤ s.1 ∧ s.1 ≤ s.2 ∧ s.2 ≤ xs.length ∧ (∀ (j : Nat) x, (j : Int) < s.1 → xs[j]? = some x → x < t) ∧ (∀ (j : Nat) x, s.2 ≤ (j : Int) → xs[j]? = some x → t ≤ x)) (fun s => (s.2 - s.1).toNat) ⟨by simp, by simp, by simp, fun j x hj => absurd hj (by simp), fun j x hj hx => ?_⟩ ?_) ?_
  · have := (List.getElem?_eq_some_iff.1 hx).1
    simp at hj; omega
  · rintro ⟨i, j⟩ ⟨h0, h1, h2, h3, h4⟩
    simp only at h0 h1 h2 h3 h4
    refine Ite.mk (fun hlt => ?_) (fun hge => ?_)
    · simp only [decide_eq_true_eq] at hlt
      have e : IntKind.wrap .i64 (shrI .u64 (IntKind.wrap .u64 (w64 (i + j))) 1) = (i + j) / 2 := by
        have e1 : IntKind.wrap .u64 (w64 (i + j)) = i + j := by simp [w64, IntKind.wrap, IntKind.signed, IntKind.bits]; omega
        rw [e1, shrI]
        have e2 : (i + j).fdiv (2 ^ (min (1 : Int).toNat IntKind.u64.bits)) = (i + j) / 2 := by
          rw [Int.fdiv_eq_ediv_of_nonneg _ (by decide)]; rfl
        rw [e2]
        exact w64_eq (by omega) (by omega)
      simp only []
      rw [e]
      have hmid : i ≤ (i + j) / 2 ∧ (i + j) / 2 < j := by omega
      refine ⟨_, idx_get (by omega) (by omega), ?_⟩
      generalize hx : xs[((i + j) / 2).toNat]'(by omega) = x
      have hx' : xs[((i + j) / 2).toNat]? = some x := by rw [List.getElem?_eq_getElem (by omega), hx]
      unfold V_cmp_Less_int V_cmp_isNaN_int
      refine Jn.eq (decide (x < t)) (Ite.f (by simp) rfl) ?_
      refine Jn.mk (fun s : Int × Int => s = (if x < t then (i + j) / 2 + 1 else i, if x < t then j else (i + j) / 2)) (Ite.mk (fun h5 => ?_) (fun h5 => ?_)) ?_
      · simp at h5; simp only [h5, if_true]
        rw [w64_eq (by omega) (by omega)]
      · simp at h5; simp [Int.not_lt.2 h5]
      · rintro ⟨a, b⟩ e3
        cases e3
        by_cases h5 : x < t
        · simp only [h5, if_true]
          refine ⟨⟨by omega, by omega, by omega, fun q y hq hy => ?_, h4⟩, by omega⟩
          rcases Nat.lt_or_ge q ((i + j) / 2).toNat with h6 | h6
          · exact Int.lt_trans (ha _ _ _ _ h6 hy hx') h5
          · have : q = ((i + j) / 2).toNat := by omega
            subst this; rw [hx'] at hy; cases hy; exact h5
        · simp only [h5, if_false]
          refine ⟨⟨by omega, by omega, by omega, h3, fun q y hq hy => ?_⟩, by omega⟩
          rcases Nat.lt_or_ge ((i + j) / 2).toNat q with h6 | h6
          · have := ha _ _ _ _ h6 hx' hy; omega
          · have : q = ((i + j) / 2).toNat := by omega
            subst this; rw [hx'] at hy; cases hy; omega
    · simp only [decide_eq_false_iff_not] at hge
      have : i = j := by omega
      subst this
      exact ⟨h0, h2, h3, h4⟩
  · rintro i ⟨h0, h1, h3, h4⟩
    have hc : xs.contains t = true ↔ ∃ j : Nat, xs[j]? = some t := by
      rw [List.contains_iff_mem]; exact List.mem_iff_getElem?
    refine Jn.eq (xs.contains t) (Ite.mk (fun hlt => ?_) (fun hge => ?_)) (hp i)
    · simp only [decide_eq_true_eq] at hlt
      refine ⟨_, idx_get h0 hlt, ?_⟩
      generalize hx : xs[i.toNat]'(by omega) = x
      have hx' : xs[i.toNat]? = some x := by rw [List.getElem?_eq_getElem (by omega), hx]
      refine Ite.mk (fun h5 => ?_) (fun h5 => ?_)
      · simp at h5; subst h5
        exact (hc.2 ⟨_, hx'⟩).symm
      · unfold V_slices_isNaN_int
        refine Ite.f (by simp) ?_
        simp at h5
        cases hcc : xs.contains t
        · rfl
        · obtain ⟨j, hj⟩ := hc.1 hcc
          exfalso
          rcases Nat.lt_or_ge j i.toNat with h6 | h6
          · have := h3 j t (by omega) hj; omega
          · rcases Nat.lt_or_ge i.toNat j with h7 | h7
            · have := ha _ _ _ _ h7 hx' hj
              have := h4 i.toNat x (by omega) hx'
              omega
            · have : j = i.toNat := by omega
              subst this; rw [hx'] at hj; cases hj; exact h5 rfl
    · simp only [decide_eq_false_iff_not] at hge
      cases hcc : xs.contains t
      · rfl
      · obtain ⟨j, hj⟩ := hc.1 hcc
        have := (List.getElem?_eq_some_iff.1 hj).1
        have := h3 j t (by omega) hj; omega
end Go.Taq

/- The mathematics, part D: zones, what is open, what is taken; a step of a walk. -/
set_option linter.unusedVariables false
namespace Go.Taq
open Go

/-- what of a right site is needed most -/
structure RS (s : ApiSite) : Prop where
  fl : RF s.Floor
  asc : ∀ z, z ∈ s.Zones → Asc z.Cells
  zc : ∀ z, z ∈ s.Zones → ∀ c, c ∈ z.Cells → isC s.Floor c = true
  sp : ∀ z, z ∈ s.Zones → 1 ≤ z.Speed ∧ z.Speed ≤ 100

/-- the zone of a cell -/
def zn (s : ApiSite) (c : Int) : Int := fidx (fun z : ApiZone => z.Cells.contains c) s.Zones
def inS (t : Int) (x : ApiSpan) : Bool := decide (x.From ≤ t) && decide (t < x.To)
def spd (s : ApiSite) (c : Int) : Int := if zn s c < 0 then 1 else (s.Zones.getD (zn s c).toNat default).Speed
def opn (s : ApiSite) (c t : Int) : Bool := isC s.Floor c && (decide (zn s c < 0) || !((s.Zones.getD (zn s c).toNat default).Shut.any (inS t)))
theorem zn_lt {s : ApiSite} {c : Int} : -1 ≤ zn s c ∧ zn s c < s.Zones.length := fidx_lt
theorem idx_zn {s : ApiSite} {c : Int} (h : 0 ≤ zn s c) : idx s.Zones (zn s c) = some (s.Zones.getD (zn s c).toNat default) := by
  have := zn_lt (s := s) (c := c)
  rw [idx_get h (by omega), List.getD_eq_getElem?_getD, List.getElem?_eq_getElem (by omega)]; rfl
theorem mem_zn {s : ApiSite} {c : Int} (h : 0 ≤ zn s c) : s.Zones.getD (zn s c).toNat default ∈ s.Zones := by
  have := zn_lt (s := s) (c := c)
  rw [List.getD_eq_getElem?_getD, List.getElem?_eq_getElem (by omega)]; exact List.getElem_mem _
theorem spd_bd {s : ApiSite} (h : RS s) (c : Int) : 1 ≤ spd s c ∧ spd s c ≤ 100 := by
  unfold spd
  split
  · omega
  · exact h.sp _ (mem_zn (by omega))

theorem S_rules_ZoneOf {s : ApiSite} (k : OkApiSite s) (h : RS s) {c : Int} {post : Int → Prop} (hp : post (zn s c)) : V_rules_ZoneOf s c post := by
  unfold V_rules_ZoneOf V_slices_IndexFunc_api_Zone_api_Zone__rules_ZoneOf_1
  have hl := k.Zones.1
  simp only [maxLen] at hl
  have step : ∀ (x : ApiZone), x ∈ s.Zones → ∀ {post : Bool → Prop}, post (x.Cells.contains c) → V_rules_ZoneOf_1 x c post := fun x hx post hp => by
    unfold V_rules_ZoneOf_1
    exact S_slices_BinarySearch (k.Zones.2 x hx).Cells.1 (h.asc x hx) (fun _ => hp)
  refine Jn.mk (fun _ => post (-1)) (Loop.find s.Zones (fun z : ApiZone => z.Cells.contains c) (fun i x hi hx hpx => ?_) (fun i x hi hx hpx hf => ?_) (fun hn hf => ?_)) (fun _ h => h)
  · refine Ite.t (by simp; omega) ⟨x, idx_of rfl hx, step x (List.mem_of_getElem? hx) (Ite.f hpx ?_)⟩
    rw [w64_eq (by omega) (by omega)]; omega
  · refine Ite.t (by simp; omega) ⟨x, idx_of rfl hx, step x (List.mem_of_getElem? hx) (Ite.t hpx ?_)⟩
    rw [zn, fidx, hf] at hp; exact hp
  · refine Ite.f (by simp) ?_
    rw [zn, fidx, hf] at hp; exact hp
theorem S_rules_Speed {s : ApiSite} (k : OkApiSite s) (h : RS s) {c : Int} {post : Int → Prop} (hp : post (spd s c)) : V_rules_Speed s c post := by
  unfold V_rules_Speed
  refine S_rules_ZoneOf k h (Ite.mk (fun h1 => ⟨_, idx_zn (by simpa using h1), ?_⟩) (fun h1 => ?_))
  · simp at h1; rw [spd, if_neg (by omega)] at hp; exact hp
  · simp at h1; rw [spd, if_pos (by omega)] at hp; exact hp
/-! ## what is taken -/
end Go.Taq

/- The mathematics, part R: right sites. -/
set_option linter.unusedVariables false
namespace Go.Taq
open Go

theorem S_ref07_Has {l : List Int} (hm : l.length ≤ maxLen) {n : Int} {post : Bool → Prop} (hp : post (l.contains n)) : V_taquinref07_Has l n post := by
  unfold V_taquinref07_Has
  exact V_any hm (p := fun x => x == n) (by rw [any_beq]; exact hp)
/-- the shelf at a cell, or -1 -/
def shAt (l : List ApiShelf) (c : Int) : Int := fidx (fun x : ApiShelf => x.Cell == c) l
def zAt (l : List ApiZone) (c : Int) : Bool := l.any fun z => z.Cells.contains c
def rbAt (l : List ApiStart) (c : Int) : Bool := l.any fun x => x.Cell == c
def standK (k : Int) : Bool := (k == 1) || (k == 2)
def zonedK (k : Int) : Bool := (k != 0) && (k != 4) && (k != 5)
def nosh (x : ByteArray) : Bool := seq x ByteArray.empty
/-- two classes are apart by some rule of a list -/
def apB (l : List ApiApart) (a b : ByteArray) : Bool := !nosh a && !nosh b && l.any fun x => (seq x.A a && seq x.B b) || (seq x.A b && seq x.B a)
/-- spans one after the other, from a tick on -/
def spansFrom : Int → List ApiSpan → Prop
  | _, [] => True
  | t, x :: r => t ≤ x.From ∧ x.From < x.To ∧ x.To ≤ 20000 ∧ spansFrom x.To r
/-- a cell on which a shelf may stand, and none does -/
def blankB (s : ApiSite) (c : Int) : Bool := standK (kd s.Floor c) && decide (shAt s.Shelves c < 0)
end Go.Taq

/- The mathematics, part S: right sites, whole. -/
set_option linter.unusedVariables false
namespace Go.Taq
open Go

/-- a zone is right, after some others -/
structure RZone (s : ApiSite) (before : List ApiZone) (z : ApiZone) : Prop where
  named : 1 ≤ z.Name.size ∧ z.Name.size ≤ 20
  name : ∀ y, y ∈ before → seq y.Name z.Name = false
  ne : z.Cells ≠ []
  sp : 1 ≤ z.Speed ∧ z.Speed ≤ 100
  keep : 0 ≤ z.Keep
  spans : spansFrom 0 z.Shut
  cell : ∀ c, c ∈ z.Cells → isC s.Floor c = true ∧ zonedK (kd s.Floor c) = true ∧ zAt before c = false
  asc : ∀ (i : Nat) x y, z.Cells[i]? = some x → z.Cells[i + 1]? = some y → x < y
theorem asc_of {l : List Int} (h : ∀ (i : Nat) x y, l[i]? = some x → l[i + 1]? = some y → x < y) : Asc l := by
  have key : ∀ (d i : Nat) x y, l[i]? = some x → l[i + d + 1]? = some y → x < y := by
    intro d
    induction d with
    | zero => intro i x y hx hy; exact h i x y hx hy
    | succ d ih =>
      intro i x y hx hy
      have hlt := (List.getElem?_eq_some_iff.1 hy).1
      have hz : l[i + d + 1]? = some (l[i + d + 1]'(by omega)) := List.getElem?_eq_getElem _
      exact Int.lt_trans (ih i x _ hx hz) (h (i + d + 1) _ y hz (by rw [← hy]; congr 1))
  intro i j x y hij hx hy
  exact key (j - i - 1) i x y hx (by rw [← hy]; congr 1; omega)
theorem RZone.ascL {s : ApiSite} {b : List ApiZone} {z : ApiZone} (h : RZone s b z) : Asc z.Cells := asc_of h.asc
/-- a shelf is near an earlier one from whose class its class is apart -/
def badSh (s : ApiSite) (i : Nat) (d : Int) : Prop := ∃ x y, s.Shelves[i]? = some x ∧ 0 ≤ nbr s.Floor x.Cell d ∧ 0 ≤ shAt s.Shelves (nbr s.Floor x.Cell d) ∧ shAt s.Shelves (nbr s.Floor x.Cell d) < i ∧ idx s.Shelves (shAt s.Shelves (nbr s.Floor x.Cell d)) = some y ∧ apB s.Aparts x.Class y.Class = true
/-- a right site -/
structure RSite (s : ApiSite) : Prop where
  fl : RF s.Floor
  z64 : s.Zones.length ≤ 64
  zone : ∀ (i : Nat) z, s.Zones[i]? = some z → RZone s (s.Zones.take i) z
  sh3 : s.Shelves.length ≤ 3000
  r2 : s.Robots.length ≤ 200
  ap : ∀ (i : Nat) x, s.Aparts[i]? = some x → 1 ≤ x.A.size ∧ 1 ≤ x.B.size ∧ apB (s.Aparts.take i) x.A x.B = false
  sh : ∀ (i : Nat) x, s.Shelves[i]? = some x → isC s.Floor x.Cell = true ∧ standK (kd s.Floor x.Cell) = true ∧ shAt (s.Shelves.take i) x.Cell < 0
  rb : ∀ (i : Nat) x, s.Robots[i]? = some x → isC s.Floor x.Cell = true ∧ 0 ≤ x.Charge ∧ x.Charge ≤ 1000000 ∧ kd s.Floor x.Cell ≠ 0 ∧ rbAt (s.Robots.take i) x.Cell = false
  room : ∀ z, z ∈ s.Zones → z.Keep ≤ (z.Cells.countP (blankB s) : Nat)
  apart : ∀ (i : Nat) (d : Int), 0 ≤ d → d < 4 → ¬ badSh s i d
  charger : s.Floor.Kind.contains 3 = true
theorem RSite.zm {s : ApiSite} (h : RSite s) {z : ApiZone} (hz : z ∈ s.Zones) : ∃ i : Nat, RZone s (s.Zones.take i) z := by
  obtain ⟨i, hi⟩ := List.getElem?_of_mem hz
  exact ⟨i, h.zone i z hi⟩
theorem RSite.rs {s : ApiSite} (h : RSite s) : RS s where
  fl := h.fl
  asc z hz := (h.zm hz).elim fun _ q => q.ascL
  zc z hz c hc := (h.zm hz).elim fun _ q => (q.cell c hc).1
  sp z hz := (h.zm hz).elim fun _ q => q.sp

theorem S_ref07_Few {f : ApiFloor} {n : Int} {post : Bool → Prop} (hF : post false) (hT : f.Kind.length ≤ n → f.Out.length ≤ n → post true) : V_taquinref07_Few f n post := by
  unfold V_taquinref07_Few
  refine Jn.mk' (Ite.mk (fun h1 => ?_) (fun h1 => hF))
  simp at h1
  cases hb : decide ((f.Out.length : Int) ≤ n)
  · exact hF
  · exact hT h1 (by simpa using hb)
/-- few -/
structure FewS (s : ApiSite) (cells most : Int) : Prop where
  kind : s.Floor.Kind.length ≤ cells
  zones : s.Zones.length ≤ most
  aparts : s.Aparts.length ≤ most
  shelves : s.Shelves.length ≤ most
  robots : s.Robots.length ≤ most
  zone : ∀ z, z ∈ s.Zones → z.Cells.length ≤ cells ∧ z.Shut.length ≤ 20
theorem S_ref11_Few {s : ApiSite} (k : OkApiSite s) {cells most : Int} (hm : 0 ≤ most ∧ most ≤ 1000000) {post : Bool → Prop} (hF : post false) (hT : FewS s cells most → post true) : V_taquinref11_Few s cells most post := by
  unfold V_taquinref11_Few
  refine V_few s.Zones k.Zones.1 (T := fun s3 q => Jn (fun (J10 : Bool → Prop) => ∃ x11, idx s.Zones s3 = some x11 ∧ Ite (decide ((x11.Cells.length : Int) > cells)) (J10 true) (Ite (decide ((x11.Shut.length : Int) > 20)) (J10 true) (J10 (decide ((x11.Name.size : Int) > 40))))) q) (fun z => z.Cells.length ≤ cells ∧ z.Shut.length ≤ 20) (fun i x hx q q1 q2 => Jn.ex x hx (Jor3 ?_)) hF (fun hz => ?_)
  · cases hb : (decide ((x.Cells.length : Int) > cells) || decide ((x.Shut.length : Int) > 20) || decide ((x.Name.size : Int) > 40))
    · simp only [Bool.or_eq_false_iff, decide_eq_false_iff_not] at hb
      exact q2 ⟨by omega, by omega⟩
    · exact q1
  refine V_few s.Aparts k.Aparts.1 (T := fun s3 q => Jn (fun (J10 : Bool → Prop) => ∃ x11, idx s.Aparts s3 = some x11 ∧ Ite (decide ((x11.A.size : Int) > 40)) (J10 true) (J10 (decide ((x11.B.size : Int) > 40)))) q) (fun z => True) (fun i x hx q q1 q2 => Jn.ex x hx (Jor2 ?_)) hF (fun _ => ?_)
  · cases hb : (decide ((x.A.size : Int) > 40) || decide ((x.B.size : Int) > 40))
    · exact q2 trivial
    · exact q1
  refine V_few s.Shelves k.Shelves.1 (T := fun s3 q => ∃ x11, idx s.Shelves s3 = some x11 ∧ q (decide ((x11.Class.size : Int) > 40))) (fun z => True) (fun i x hx q q1 q2 => ⟨x, hx, ?_⟩) hF (fun _ => ?_)
  · cases hb : (decide ((x.Class.size : Int) > 40))
    · exact q2 trivial
    · exact q1
  refine Jn.mk' (S_ref07_Few (Ite.f rfl hF) (fun f1 f2 => Ite.t rfl (Ite.mk (fun h1 => Ite.mk (fun h2 => Ite.mk (fun h3 => ?_) (fun _ => hF)) (fun _ => hF)) (fun _ => hF))))
  simp at h1 h2 h3
  cases hb : decide ((s.Robots.length : Int) ≤ most)
  · exact hF
  · exact hT ⟨f1, h1, h2, h3, by simpa using hb, hz h1⟩
end Go.Taq
