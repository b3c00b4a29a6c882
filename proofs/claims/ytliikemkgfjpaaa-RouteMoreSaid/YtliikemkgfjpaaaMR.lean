/- The mathematics, part R: right sites. -/
import Derived.Test.YtliikemkgfjpaaaMB
import Derived.Test.YtliikemkgfjpaaaMR0
set_option linter.unusedVariables false
namespace Go.Taq
open Go

theorem S_ref07_Has {l : List Int} (hm : l.length ≤ maxLen) {n : Int} {post : Bool → Prop} (hp : post (l.contains n)) : V_taquinref07_Has l n post := by
  unfold V_taquinref07_Has
  exact V_any hm (p := fun x => x == n) (by rw [any_beq]; exact hp)
theorem S_ref07_Size {f : ApiFloor} (h : RF f) {post : Int → Prop} (hp : post f.Kind.length) : V_taquinref07_Size f post := by
  unfold V_taquinref07_Size; rw [h.size]; exact hp
theorem S_ref07_Is {f : ApiFloor} (h : RF f) {c : Int} {post : Bool → Prop} (hp : post (isC f c)) : V_taquinref07_Is f c post := by
  unfold V_taquinref07_Is
  refine Jn.mk' (Ite.mk (fun h1 => S_ref07_Size h ?_) (fun h1 => ?_))
  · have : isC f c = decide (c < f.Kind.length) := by simp at h1; simp [isC, h1]
    rw [← this]; exact hp
  · have : isC f c = false := by simp at h1; simp [isC]; omega
    rw [← this]; exact hp
theorem S_ref07_Cell {f : ApiFloor} (h : RF f) {x y z : Int} {post : Int → Prop} (hp : post (cellF f x y z)) : V_taquinref07_Cell f x y z post := by
  unfold V_taquinref07_Cell
  refine Jor6 (Ite.mk (fun h1 => ?_) (fun h1 => ?_))
  · have : cellF f x y z = -1 := by
      unfold cellF
      rw [if_neg]
      simp only [Bool.or_eq_true, decide_eq_true_eq] at h1
      omega
    rw [← this]; exact hp
  · have : 0 ≤ x ∧ x < f.W ∧ 0 ≤ y ∧ y < f.H ∧ 0 ≤ z ∧ z < f.D := by
      simp only [Bool.or_eq_false_iff, decide_eq_false_iff_not] at h1
      omega
    rw [cellF_w h this]; exact hp
theorem S_ref07_At {f : ApiFloor} (h : RF f) {c : Int} (hc : isC f c = true) {post : (Int × Int × Int) → Prop} (hp : post (pX f c, pY f c, pZ f c)) : V_taquinref07_At f c post := by
  unfold V_taquinref07_At
  refine S_ref07_Is h ?_
  rw [hc]
  refine Ite.f rfl ?_
  rw [isC_iff] at hc
  have w := h.W1; have hh := h.H1; have hd := h.D1; have wh := h.wh; have hl := h.len.1
  have e1 : 0 ≤ c / f.W ∧ c / f.W ≤ c := ⟨Int.ediv_nonneg hc.1 (by omega), Int.ediv_le_self _ hc.1⟩
  have e2 : 0 ≤ c / f.W / f.H ∧ c / f.W / f.H ≤ c / f.W := ⟨Int.ediv_nonneg e1.1 (by omega), Int.ediv_le_self _ e1.1⟩
  refine ⟨by omega, by omega, by omega, ?_⟩
  rw [Int.tmod_eq_emod_of_nonneg hc.1, Int.tdiv_eq_ediv_of_nonneg hc.1, w64_eq (x := c / f.W) (by omega) (by omega), Int.tmod_eq_emod_of_nonneg e1.1, Int.tdiv_eq_ediv_of_nonneg e1.1, w64_eq (x := c / f.W / f.H) (by omega) (by omega)]
  exact ⟨by omega, by omega, hp⟩
theorem S_ref07_Beside {f : ApiFloor} (h : RF f) {c d : Int} {post : Int → Prop} (hp : post (nbr f c d)) : V_taquinref07_Beside f c d post := by
  unfold V_taquinref07_Beside
  refine S_ref07_Is h (Ite.mk (fun h1 => ?_) (fun h1 => ?_))
  · simp only [Bool.not_eq_true'] at h1
    rw [nbr, if_pos h1] at hp; exact hp
  · simp only [Bool.not_eq_false'] at h1
    refine S_ref07_At h h1 ?_
    have hb := p_bd h h1
    have w := h.W4; have hh := h.H4; have hd := h.D4
    rw [nbr, if_neg (by simp [h1])] at hp
    simp only [Ite_if, beq_iff_eq]
    repeat' split at hp
    all_goals (repeat' split) <;> first | omega | skip
    all_goals first | (refine S_ref07_Cell h ?_; (try simp only []); rw [w64_eq (by omega) (by omega)]; exact hp) | exact hp

theorem S_ref11_Name {x : ByteArray} {post : Bool → Prop} (hx : OkS x) (hF : post false) (hT : 1 ≤ x.size → x.size ≤ 20 → post true) : V_taquinref11_Name x post := by
  unfold V_taquinref11_Name
  refine Jn.mk (fun _ => True) (Loop.upto x.size (fun _ => True) trivial (fun i hi _ Y hY => Ite.lt (by omega) ?_) (fun _ => Ite.nlt (by omega) trivial)) (fun _ _ => ?_)
  · have hl : x.data.toList.length = x.size := by simp
    refine ⟨_, idx_of rfl (List.getElem?_eq_getElem (by omega)), Jn.mk (fun _ => True) (by simp [Ite]) (fun b7 _ => Jn.mk (fun _ => True) (by simp [Ite]) (fun b10 _ => Ite.mk (fun _ => hF) (fun _ => ?_)))⟩
    rw [w64_nat hi (by simpa [OkS] using hx)]
    exact hY trivial
  · refine Jand2 ?_
    cases hb : (decide ((x.size : Int) ≥ 1) && decide ((x.size : Int) ≤ 20))
    · exact hF
    · simp only [Bool.and_eq_true, decide_eq_true_eq] at hb
      exact hT (by omega) (by omega)

/-- the shelf at a cell, or -1 -/
def shAt (l : List ApiShelf) (c : Int) : Int := fidx (fun x : ApiShelf => x.Cell == c) l
def zAt (l : List ApiZone) (c : Int) : Bool := l.any fun z => z.Cells.contains c
def rbAt (l : List ApiStart) (c : Int) : Bool := l.any fun x => x.Cell == c
def standK (k : Int) : Bool := (k == 1) || (k == 2)
def zonedK (k : Int) : Bool := (k != 0) && (k != 4) && (k != 5)
def nosh (x : ByteArray) : Bool := seq x ByteArray.empty
/-- two classes are apart by some rule of a list -/
def apB (l : List ApiApart) (a b : ByteArray) : Bool := !nosh a && !nosh b && l.any fun x => (seq x.A a && seq x.B b) || (seq x.A b && seq x.B a)
theorem S_ref11_shelfAt {l : List ApiShelf} (hm : l.length ≤ maxLen) {c : Int} {post : Int → Prop} (hp : post (shAt l c)) : V_taquinref11_shelfAt l c post := by
  unfold V_taquinref11_shelfAt; exact V_fidx hm hp
theorem S_ref11_robotAt {l : List ApiStart} (hm : l.length ≤ maxLen) {c : Int} {post : Bool → Prop} (hp : post (rbAt l c)) : V_taquinref11_robotAt l c post := by
  unfold V_taquinref11_robotAt; exact V_any hm hp
theorem S_ref11_zoneAt {l : List ApiZone} (hm : l.length ≤ maxLen) (hc : ∀ z, z ∈ l → z.Cells.length ≤ maxLen) {c : Int} {post : Bool → Prop} (hp : post (zAt l c)) : V_taquinref11_zoneAt l c post := by
  unfold V_taquinref11_zoneAt; exact V_anyc hm (fun z => z.Cells.contains c) (T := fun z post => V_taquinref07_Has z.Cells c post) (fun z hz post h => S_ref07_Has (hc z hz) h) hp
theorem S_ref11_named {l : List ApiZone} (hm : l.length ≤ maxLen) {c : ByteArray} {post : Int → Prop} (hp : post (fidx (fun z : ApiZone => seq z.Name c) l)) : V_taquinref11_named l c post := by
  unfold V_taquinref11_named; exact V_fidx hm hp
theorem S_ref11_stands {k : Int} {post : Bool → Prop} (hp : post (standK k)) : V_taquinref11_stands k post := by
  unfold V_taquinref11_stands; exact Jor2 hp
theorem S_ref11_zoned {k : Int} {post : Bool → Prop} (hp : post (zonedK k)) : V_taquinref11_zoned k post := by
  unfold V_taquinref11_zoned; exact Jand3 hp
theorem S_ref11_charger {f : ApiFloor} (hm : f.Kind.length ≤ maxLen) {post : Bool → Prop} (hp : post (f.Kind.contains 3)) : V_taquinref11_charger f post := by
  unfold V_taquinref11_charger; exact S_ref07_Has hm hp
theorem S_ref11_Apart {l : List ApiApart} (hm : l.length ≤ maxLen) {a b : ByteArray} {post : Bool → Prop} (hp : post (apB l a b)) : V_taquinref11_Apart l a b post := by
  unfold V_taquinref11_Apart
  unfold apB nosh at hp
  cases ha : seq a ByteArray.empty <;> cases hb : seq b ByteArray.empty <;> rw [ha, hb] at hp <;> simp only [Bool.not_false, Bool.not_true, Bool.true_and, Bool.false_and, Bool.and_false, Ite_true, Ite_false] at hp ⊢
  · have := V_anyc hm (fun x : ApiApart => (seq x.A a && seq x.B b) || (seq x.A b && seq x.B a)) (T := fun x post => Jn (fun (J11 : Bool → Prop) => Ite (seq x.A a) (Ite (seq x.B b) (J11 true) (Ite (seq x.A b) (J11 (seq x.B a)) (J11 false))) (Ite (seq x.A b) (J11 (seq x.B a)) (J11 false))) post) (fun x _ post h => ?_) hp
    · refine Jn.mk (fun _ => post false) ?_ (fun _ h => h)
      obtain ⟨J, hJ, hL⟩ := this
      intro X hX
      refine hL X (fun s Y hb hY => hX s Y ?_ hY)
      refine hb.cs (fun h1 h2 => ?_) (fun h1 h2 => ?_)
      · obtain ⟨x, hx, hT⟩ := h2
        refine Jn.eq true (Ite.t h1 rfl) (Ite.t rfl ?_)
        obtain ⟨J', h3, h4⟩ := hT
        exact ⟨J', h3, ⟨x, hx, h4⟩⟩
      · exact Jn.eq false (Ite.f h1 rfl) (Ite.f rfl (hJ () h2))
    · refine Jn.mk' ?_
      revert h
      cases seq x.A a <;> cases seq x.B b <;> cases seq x.A b <;> cases seq x.B a <;> simp
  all_goals
    refine Jn.mk (fun _ => post false) ?_ (fun _ h => h)
    refine Loop.step ?_
    refine Jn.eq false ?_ (Ite.f rfl hp)
    exact Ite.mk (fun _ => rfl) (fun _ => rfl)

/-- spans one after the other, from a tick on -/
def spansFrom : Int → List ApiSpan → Prop
  | _, [] => True
  | t, x :: r => t ≤ x.From ∧ x.From < x.To ∧ x.To ≤ 20000 ∧ spansFrom x.To r
theorem S_ref11_spans {l : List ApiSpan} (hm : l.length ≤ maxLen) {post : Bool → Prop} (hF : post false) (hT : spansFrom 0 l → post true) : V_taquinref11_spans l post := by
  unfold V_taquinref11_spans
  refine Jn.mk (fun _ => spansFrom 0 l) (Loop.inv l.length (fun i (s : Int × Int) => s.2 = (i : Int) ∧ (spansFrom s.1 (l.drop i) → spansFrom 0 l)) ⟨rfl, fun h => by simpa using h⟩ (fun i s hi h => ?_) (fun s h => ?_)) (fun _ h => hT h)
  · obtain ⟨t, j⟩ := s
    obtain ⟨e, h⟩ := h
    simp only at e h; subst e
    have hx : l[i]? = some (l[i]'hi) := List.getElem?_eq_getElem hi
    generalize hxe : l[i]'hi = x at hx
    have hd : l.drop i = x :: l.drop (i + 1) := by rw [List.drop_eq_getElem_cons hi, hxe]
    refine Ite.lt (by simp only []; omega) (Jn.ex x (idx_of rfl hx) (Jor3 (Ite.mk (fun _ => hF) (fun h1 => ⟨x, idx_of rfl hx, ?_⟩))))
    · simp only [Bool.or_eq_false_iff, decide_eq_false_iff_not] at h1
      refine ⟨w64_nat hi hm, fun h2 => h ?_⟩
      rw [hd]
      exact ⟨by omega, by omega, by omega, h2⟩
  · obtain ⟨e, h⟩ := h
    refine Ite.nlt (by rw [e]; omega) (h ?_)
    rw [List.drop_length]; trivial

/-- a cell on which a shelf may stand, and none does -/
def blankB (s : ApiSite) (c : Int) : Bool := standK (kd s.Floor c) && decide (shAt s.Shelves c < 0)
theorem S_ref11_blanks {s : ApiSite} (k : OkApiSite s) {z : ApiZone} (hz : z.Cells.length ≤ maxLen) (hc : ∀ c, c ∈ z.Cells → isC s.Floor c = true) {post : Int → Prop} (hp : post (z.Cells.countP (blankB s) : Nat)) : V_taquinref11_blanks s z post := by
  unfold V_taquinref11_blanks
  refine Jn.mk (fun n => n = (z.Cells.countP (blankB s) : Nat)) (Loop.inv z.Cells.length (fun i (t : Int × Int) => t.2 = (i : Int) ∧ t.1 = ((z.Cells.take i).countP (blankB s) : Nat)) ⟨rfl, rfl⟩ (fun i t hi h => ?_) (fun t h => ?_)) (fun _ h => h ▸ hp)
  · obtain ⟨n, j⟩ := t
    obtain ⟨e, h⟩ := h
    simp only at e h; subst e
    have hx : z.Cells[i]? = some (z.Cells[i]'hi) := List.getElem?_eq_getElem hi
    generalize hxe : z.Cells[i]'hi = x at hx
    have hcx := hc x (List.mem_of_getElem? hx)
    have e1 : z.Cells.take (i + 1) = z.Cells.take i ++ [x] := by rw [List.take_add_one, hx]; rfl
    have hle : (z.Cells.take i).countP (blankB s) ≤ i := Nat.le_trans List.countP_le_length (by simp; omega)
    refine Ite.lt (by simp only []; omega) (Jn.eq (blankB s x) ⟨x, idx_of rfl hx, _, idx_kd hcx, S_ref11_stands (Ite.mk (fun h1 => S_ref11_shelfAt k.Shelves.1 ?_) (fun h1 => ?_))⟩ ?_)
    · simp [blankB, h1]
    · simp [blankB, h1]
    · refine Jn.eq (n + (if blankB s x = true then 1 else 0)) (Ite.mk (fun h1 => ?_) (fun h1 => ?_)) ⟨w64_nat hi hz, ?_⟩
      · simp only [h1, if_true]
        rw [w64_eq (by omega) (by simp [maxLen] at hz; omega)]
      · simp [h1]
      · simp only []
        rw [e1, List.countP_append, h]
        cases hb : blankB s x <;> simp [hb]
  · obtain ⟨e, h⟩ := h
    refine Ite.nlt (by rw [e]; omega) ?_
    rw [h, List.take_length]
end Go.Taq
