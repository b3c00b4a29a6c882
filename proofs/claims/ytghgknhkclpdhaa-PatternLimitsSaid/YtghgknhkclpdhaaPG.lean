/- The mathematics, several parts in one text. -/
import Derived.Test.YtghgknhkclpdhaaPE
import Derived.Test.YtghgknhkclpdhaaVc
import Derived.Test.YtghgknhkclpdhaaPA
/- The mathematics of layouts, part F: the reference's layouts and shifts; right layouts. -/
set_option linter.unusedVariables false
set_option linter.unusedSimpArgs false
namespace Go.Taq
open Go
section
variable {n k : Nat} (h1 : 1 ≤ k) (h2 : k ≤ n) (h3 : n ≤ 24)
include h1 h2 h3
end
end Go.Taq

/- The mathematics, part B: right floors, and the cells beside a cell. -/
set_option linter.unusedVariables false
namespace Go.Taq
open Go

/-- a right floor -/
structure RF (f : ApiFloor) : Prop where
  W1 : 1 ≤ f.W
  H1 : 1 ≤ f.H
  D1 : 1 ≤ f.D
  D4 : f.D ≤ 4
  W4 : f.W ≤ 4096
  H4 : f.H ≤ 4096
  n4 : f.W * f.H * f.D ≤ 4096
  kl : (f.Kind.length : Int) = f.W * f.H * f.D
  ol : (f.Out.length : Int) = f.W * f.H * f.D
  ko : ∀ (i : Nat) x y, f.Kind[i]? = some x → f.Out[i]? = some y → 0 ≤ x ∧ x < 7 ∧ 0 ≤ y ∧ y ≤ 63

theorem mul_bd {a b p q : Int} (ha : 0 ≤ a) (hb : 0 ≤ b) (h1 : a ≤ p) (h2 : b ≤ q) : 0 ≤ a * b ∧ a * b ≤ p * q :=
  ⟨Int.mul_nonneg ha hb, Int.mul_le_mul h1 h2 hb (by omega)⟩
theorem size_eq {f : ApiFloor} (w1 : 1 ≤ f.W) (h1 : 1 ≤ f.H) (d1 : 1 ≤ f.D) (d4 : f.D ≤ 4) (w4 : f.W ≤ 4096) (h4 : f.H ≤ 4096) : w64 ((w64 (f.W * f.H)) * f.D) = f.W * f.H * f.D ∧ w64 (f.W * f.H) = f.W * f.H ∧ 1 ≤ f.W * f.H ∧ f.W * f.H ≤ 16777216 := by
  have a := mul_bd (by omega : 0 ≤ f.W) (by omega : 0 ≤ f.H) w4 h4
  have b := mul_bd a.1 (by omega : 0 ≤ f.D) a.2 d4
  have c : 1 * 1 ≤ f.W * f.H := Int.mul_le_mul w1 h1 (by omega) (by omega)
  rw [w64_eq (x := f.W * f.H) (by omega) (by omega), w64_eq (x := f.W * f.H * f.D) (by omega) (by omega)]
  exact ⟨rfl, rfl, by omega, by omega⟩
theorem RF.size {f : ApiFloor} (h : RF f) : w64 ((w64 (f.W * f.H)) * f.D) = f.Kind.length := by rw [(size_eq h.W1 h.H1 h.D1 h.D4 h.W4 h.H4).1, h.kl]
theorem RF.wh {f : ApiFloor} (h : RF f) : w64 (f.W * f.H) = f.W * f.H ∧ 1 ≤ f.W * f.H ∧ f.W * f.H ≤ 4096 := by
  have e := size_eq h.W1 h.H1 h.D1 h.D4 h.W4 h.H4
  refine ⟨e.2.1, e.2.2.1, ?_⟩
  have : f.W * f.H * 1 ≤ f.W * f.H * f.D := Int.mul_le_mul_of_nonneg_left h.D1 (by omega)
  have := h.n4; omega
theorem RF.len {f : ApiFloor} (h : RF f) : f.Kind.length ≤ 4096 ∧ f.Out.length = f.Kind.length := by
  have := h.kl; have := h.ol; have := h.n4; omega

/-- the number of a cell is one -/
def isC (f : ApiFloor) (c : Int) : Bool := decide (0 ≤ c) && decide (c < f.Kind.length)
theorem S_floor_size {f : ApiFloor} (h : RF f) {post : Int → Prop} (hp : post f.Kind.length) : V_floor_size f post := by
  unfold V_floor_size; rw [h.size]; exact hp
theorem S_floor_is {f : ApiFloor} (h : RF f) {c : Int} {post : Bool → Prop} (hp : post (isC f c)) : V_floor_is f c post := by
  unfold V_floor_is
  refine Jn.eq (isC f c) (Ite.mk (fun h1 => S_floor_size h ?_) (fun h1 => ?_)) hp
  · simp at h1; simp [isC, h1]
  · simp at h1; simp [isC]; omega

def kd (f : ApiFloor) (c : Int) : Int := f.Kind.getD c.toNat 0
def ot (f : ApiFloor) (c : Int) : Int := f.Out.getD c.toNat 0
theorem isC_iff {f : ApiFloor} {c : Int} : isC f c = true ↔ 0 ≤ c ∧ c < f.Kind.length := by simp [isC]
theorem isC_not {f : ApiFloor} {c : Int} : isC f c = false ↔ ¬ (0 ≤ c ∧ c < f.Kind.length) := by rw [← isC_iff]; simp
theorem idx_kd {f : ApiFloor} {c : Int} (h : isC f c = true) : idx f.Kind c = some (kd f c) := by
  rw [isC_iff] at h
  rw [idx_get h.1 h.2, kd, List.getD_eq_getElem?_getD, List.getElem?_eq_getElem (by omega)]; rfl
theorem idx_ot {f : ApiFloor} (hf : RF f) {c : Int} (h : isC f c = true) : idx f.Out c = some (ot f c) := by
  rw [isC_iff] at h
  have := hf.len.2
  rw [idx_get h.1 (by omega), ot, List.getD_eq_getElem?_getD, List.getElem?_eq_getElem (by omega)]; rfl

theorem imin_lt {x y k : Int} : imin x y < k ↔ x < k ∨ y < k := by unfold imin; split <;> omega
/-- the cell at a place; -1, if there is none -/
def cellF (f : ApiFloor) (x y z : Int) : Int := if 0 ≤ x ∧ x < f.W ∧ 0 ≤ y ∧ y < f.H ∧ 0 ≤ z ∧ z < f.D then (z * f.H + y) * f.W + x else -1
theorem cellF_bd {f : ApiFloor} (h : RF f) {x y z : Int} (h1 : 0 ≤ x ∧ x < f.W ∧ 0 ≤ y ∧ y < f.H ∧ 0 ≤ z ∧ z < f.D) :
    0 ≤ z * f.H ∧ z * f.H ≤ 16384 ∧ 0 ≤ (z * f.H + y) * f.W ∧ (z * f.H + y) * f.W + x < f.Kind.length := by
  obtain ⟨a1, a2, a3, a4, a5, a6⟩ := h1
  have w := h.W4; have hh := h.H4; have d := h.D4
  have b := mul_bd a5 (by omega : 0 ≤ f.H) (by omega : z ≤ 4) hh
  have e1 : (z + 1) * f.H ≤ f.D * f.H := Int.mul_le_mul_of_nonneg_right (by omega) (by omega)
  have e2 : (z + 1) * f.H = z * f.H + f.H := by rw [Int.add_mul]; omega
  have e3 : z * f.H + y + 1 ≤ f.D * f.H := by omega
  have e4 : (z * f.H + y + 1) * f.W ≤ f.D * f.H * f.W := Int.mul_le_mul_of_nonneg_right e3 (by omega)
  have e5 : (z * f.H + y + 1) * f.W = (z * f.H + y) * f.W + f.W := by rw [Int.add_mul (z * f.H + y)]; omega
  have e6 : f.D * f.H * f.W = f.W * f.H * f.D := by rw [Int.mul_comm f.D f.H, Int.mul_comm _ f.W, Int.mul_assoc f.W f.H f.D]
  have e7 : 0 ≤ (z * f.H + y) * f.W := Int.mul_nonneg (by omega) (by omega)
  have := h.kl
  exact ⟨b.1, by omega, e7, by omega⟩
theorem cellF_ok {f : ApiFloor} (h : RF f) (x y z : Int) : cellF f x y z = -1 ∨ isC f (cellF f x y z) = true := by
  unfold cellF
  split
  · rename_i h1
    have := cellF_bd h h1
    exact .inr (isC_iff.2 (by omega))
  · exact .inl rfl
theorem cellF_w {f : ApiFloor} (h : RF f) {x y z : Int} (h1 : 0 ≤ x ∧ x < f.W ∧ 0 ≤ y ∧ y < f.H ∧ 0 ≤ z ∧ z < f.D) : w64 ((w64 ((w64 ((w64 (z * f.H)) + y)) * f.W)) + x) = cellF f x y z := by
  have := cellF_bd h h1
  have := h.len.1; have := h.H4
  rw [w64_eq (x := z * f.H) (by omega) (by omega), w64_eq (x := z * f.H + y) (by omega) (by omega), w64_eq (x := (z * f.H + y) * f.W) (by omega) (by omega), w64_eq (by omega) (by omega), cellF, if_pos h1]

/-- a place -/
def pX (f : ApiFloor) (c : Int) : Int := c % f.W
def pY (f : ApiFloor) (c : Int) : Int := c / f.W % f.H
def pZ (f : ApiFloor) (c : Int) : Int := c / f.W / f.H
theorem p_bd {f : ApiFloor} (h : RF f) {c : Int} (hc : isC f c = true) : 0 ≤ pX f c ∧ pX f c < f.W ∧ 0 ≤ pY f c ∧ pY f c < f.H ∧ 0 ≤ pZ f c ∧ pZ f c < f.D := by
  rw [isC_iff] at hc
  have w := h.W1; have hh := h.H1; have hd := h.D1
  refine ⟨Int.emod_nonneg _ (by omega), Int.emod_lt_of_pos _ (by omega), Int.emod_nonneg _ (by omega), Int.emod_lt_of_pos _ (by omega), Int.ediv_nonneg (Int.ediv_nonneg hc.1 (by omega)) (by omega), ?_⟩
  unfold pZ
  refine Int.ediv_lt_of_lt_mul (by omega) (Int.ediv_lt_of_lt_mul (by omega) ?_)
  have := h.kl
  have e6 : f.D * f.H * f.W = f.W * f.H * f.D := by rw [Int.mul_comm f.D f.H, Int.mul_comm _ f.W, Int.mul_assoc f.W f.H f.D]
  omega
/-- the neighbour in a direction; -1, if there is none -/
def nbr (f : ApiFloor) (c d : Int) : Int :=
  if isC f c = false then -1 else
  if d = 0 then cellF f (pX f c + 1) (pY f c) (pZ f c) else if d = 1 then cellF f (pX f c) (pY f c + 1) (pZ f c) else
  if d = 2 then cellF f (pX f c - 1) (pY f c) (pZ f c) else if d = 3 then cellF f (pX f c) (pY f c - 1) (pZ f c) else
  if d = 4 then cellF f (pX f c) (pY f c) (pZ f c + 1) else if d = 5 then cellF f (pX f c) (pY f c) (pZ f c - 1) else -1
theorem nbr_ok {f : ApiFloor} (h : RF f) (c d : Int) : nbr f c d = -1 ∨ isC f (nbr f c d) = true := by
  unfold nbr
  repeat' split
  all_goals first | exact .inl rfl | exact cellF_ok h _ _ _
/-- where one gets in a direction -/
def nx (f : ApiFloor) (c d : Int) : Int × Bool :=
  if nbr f c d < 0 ∨ kd f c = 0 ∨ kd f (nbr f c d) = 0 ∨ band .i64 (shrI .i64 (ot f c) d) 1 = 0 then (0, false)
  else if 4 ≤ d ∧ (kd f c ≠ 6 ∨ kd f (nbr f c d) ≠ 6) then (0, false) else (nbr f c d, true)
theorem nx_ok {f : ApiFloor} (h : RF f) {c d : Int} (hn : (nx f c d).2 = true) : isC f c = true ∧ isC f (nx f c d).1 = true ∧ 0 ≤ d ∧ d < 6 ∧ kd f (nx f c d).1 ≠ 0 ∧ kd f c ≠ 0 := by
  unfold nx at hn ⊢
  split at hn
  · cases hn
  · rename_i h1
    split at hn
    · cases hn
    · rename_i h2
      rw [if_neg h1, if_neg h2]
      simp only [not_or] at h1
      obtain ⟨a1, a2, a3, a4⟩ := h1
      have hb := nbr_ok h c d
      have hc : isC f c = true := by
        cases hc : isC f c
        · exact absurd (by rw [nbr, if_pos hc]; omega) a1
        · rfl
      have hd : 0 ≤ d ∧ d < 6 := by
        unfold nbr at a1
        rw [if_neg (by simp [hc])] at a1
        repeat' split at a1
        all_goals omega
      exact ⟨hc, by rcases hb with e | e; (exact absurd (by omega) a1); exact e, hd.1, hd.2, a3, a2⟩

theorem S_floor_At {f : ApiFloor} (h : RF f) {c : Int} (hc : isC f c = true) {post : (Int × Int × Int) → Prop} (hp : post (pX f c, pY f c, pZ f c)) : V_floor_At f c post := by
  unfold V_floor_At
  refine S_floor_is h ?_
  rw [hc]
  refine Ite.f rfl ?_
  rw [isC_iff] at hc
  have w := h.W1; have hh := h.H1; have hd := h.D1; have wh := h.wh; have hl := h.len.1
  have e1 : 0 ≤ c / f.W ∧ c / f.W ≤ c := ⟨Int.ediv_nonneg hc.1 (by omega), Int.ediv_le_self _ hc.1⟩
  have e2 : 0 ≤ c / (f.W * f.H) ∧ c / (f.W * f.H) ≤ c := ⟨Int.ediv_nonneg hc.1 (by omega), Int.ediv_le_self _ hc.1⟩
  rw [wh.1]
  refine ⟨by omega, by omega, by omega, by omega, ?_⟩
  rw [Int.tmod_eq_emod_of_nonneg hc.1, Int.tdiv_eq_ediv_of_nonneg hc.1, w64_eq (x := c / f.W) (by omega) (by omega), Int.tmod_eq_emod_of_nonneg e1.1, Int.tdiv_eq_ediv_of_nonneg hc.1, w64_eq (x := c / (f.W * f.H)) (by omega) (by omega), ← Int.ediv_ediv_of_nonneg (by omega : 0 ≤ f.W)]
  exact hp
theorem S_floor_Cell {f : ApiFloor} (h : RF f) {x y z : Int} {post : Int → Prop} (hp : post (cellF f x y z)) : V_floor_Cell f x y z post := by
  unfold V_floor_Cell
  refine Jor4 (Ite.mk (fun h1 => ?_) (fun h1 => ?_))
  · have : cellF f x y z = -1 := by
      unfold cellF
      rw [if_neg]
      simp only [Bool.or_eq_true, decide_eq_true_eq, imin_lt] at h1
      omega
    rw [← this]; exact hp
  · have : 0 ≤ x ∧ x < f.W ∧ 0 ≤ y ∧ y < f.H ∧ 0 ≤ z ∧ z < f.D := by
      simp only [Bool.or_eq_false_iff, decide_eq_false_iff_not, imin_lt] at h1
      omega
    rw [cellF_w h this]; exact hp
theorem S_floor_beside {f : ApiFloor} (h : RF f) {c d : Int} {post : Int → Prop} (hp : post (nbr f c d)) : V_floor_beside f c d post := by
  unfold V_floor_beside
  refine Jn.eq (!isC f c || decide (d < 0) || decide (d ≥ 6)) (S_floor_is h ?_) (Ite.mk (fun h1 => ?_) (fun h1 => ?_))
  · cases isC f c
    · exact Ite.f rfl rfl
    · exact Ite.t rfl (Ite.mk (fun h => by rw [h]; rfl) (fun h => by rw [h]; rfl))
  · have : nbr f c d = -1 := by
      unfold nbr
      simp only [Bool.or_eq_true, Bool.not_eq_true', decide_eq_true_eq] at h1
      split
      · rfl
      · rename_i h2
        have h3 : ¬ (0 ≤ d ∧ d < 6) := by
          rcases h1 with (h1 | h1) | h1
          · exact absurd h1 h2
          · omega
          · omega
        rw [if_neg (by omega), if_neg (by omega), if_neg (by omega), if_neg (by omega), if_neg (by omega), if_neg (by omega)]
    rw [← this]; exact hp
  · simp only [Bool.or_eq_false_iff, Bool.not_eq_false', decide_eq_false_iff_not] at h1
    obtain ⟨⟨hc, h2⟩, h3⟩ := h1
    refine S_floor_At h hc (post := _) ?_
    unfold V_floor_steps
    have hb := p_bd h hc
    have w := h.W4; have hh := h.H4; have hd := h.D4
    have hn : nbr f c d = (if d = 0 then cellF f (pX f c + 1) (pY f c) (pZ f c) else if d = 1 then cellF f (pX f c) (pY f c + 1) (pZ f c) else
        if d = 2 then cellF f (pX f c - 1) (pY f c) (pZ f c) else if d = 3 then cellF f (pX f c) (pY f c - 1) (pZ f c) else
        if d = 4 then cellF f (pX f c) (pY f c) (pZ f c + 1) else if d = 5 then cellF f (pX f c) (pY f c) (pZ f c - 1) else -1) := by
      unfold nbr; rw [if_neg (by simp [hc])]
    have hd6 : d = 0 ∨ d = 1 ∨ d = 2 ∨ d = 3 ∨ d = 4 ∨ d = 5 := by omega
    rcases hd6 with e | e | e | e | e | e <;> subst e <;> simp only [if_pos, Int.reduceEq, if_false] at hn <;> rw [hn] at hp <;>
      refine ⟨_, rfl, S_floor_Cell h ?_⟩ <;> (try simp only []) <;> rw [w64_eq (by omega) (by omega), w64_eq (by omega) (by omega), w64_eq (by omega) (by omega)] <;>
      first | exact hp | (simpa [Int.sub_eq_add_neg] using hp)
theorem S_floor_Next {f : ApiFloor} (h : RF f) {c d : Int} {post : Int × Bool → Prop} (hp : post (nx f c d)) : V_floor_Next f c d post := by
  unfold V_floor_Next
  refine S_floor_beside h ?_
  have hb := nbr_ok h c d
  have hc : 0 ≤ nbr f c d → isC f c = true ∧ 0 ≤ d ∧ d < 6 := fun a1 => by
    have hc : isC f c = true := by
      cases hc : isC f c
      · exact absurd (by rw [nbr, if_pos hc]; omega) (Int.not_lt.2 a1)
      · rfl
    refine ⟨hc, ?_⟩
    unfold nbr at a1
    rw [if_neg (by simp [hc])] at a1
    repeat' split at a1
    all_goals omega
  have hn : 0 ≤ nbr f c d → isC f (nbr f c d) = true := fun a1 => by rcases hb with e | e; (exact absurd a1 (by omega)); exact e
  refine Jn.eq (decide (nbr f c d < 0 ∨ kd f c = 0 ∨ kd f (nbr f c d) = 0 ∨ band .i64 (shrI .i64 (ot f c) d) 1 = 0)) (Ite.mk (fun h1 => ?_) (fun h1 => ?_)) (Ite.mk (fun h1 => ?_) (fun h1 => ?_))
  · simp only [decide_eq_true_eq] at h1; simp [h1]
  · simp only [decide_eq_false_iff_not, Int.not_lt] at h1
    obtain ⟨hc, hd⟩ := hc h1
    refine ⟨_, idx_kd hc, Ite.mk (fun h2 => ?_) (fun h2 => ⟨_, idx_kd (hn h1), Ite.mk (fun h3 => ?_) (fun h3 => ⟨_, idx_ot h hc, hd.1, ?_⟩)⟩)⟩
    · simp at h2; simp [h2]
    · simp at h3; simp [h3]
    · simp at h2 h3; simp only [h2, h3, Int.not_lt.2 h1, false_or]; rfl
  · simp only [decide_eq_true_eq] at h1
    have : nx f c d = (0, false) := by unfold nx; rw [if_pos h1]
    rw [← this]; exact hp
  · simp only [decide_eq_false_iff_not] at h1
    have h0 : 0 ≤ nbr f c d := by simp only [not_or] at h1; omega
    obtain ⟨hc, hd⟩ := hc h0
    have e : nx f c d = if 4 ≤ d ∧ (kd f c ≠ 6 ∨ kd f (nbr f c d) ≠ 6) then (0, false) else (nbr f c d, true) := by unfold nx; rw [if_neg h1]
    have lift : ∀ {J : Bool → Prop}, J (decide (kd f c ≠ 6 ∨ kd f (nbr f c d) ≠ 6)) → ∃ x15, idx f.Kind c = some x15 ∧ Ite (x15 != 6) (J true) (∃ x17, idx f.Kind (nbr f c d) = some x17 ∧ J (x17 != 6)) := fun {J} hJ => by
      refine ⟨_, idx_kd hc, Ite.mk (fun h2 => ?_) (fun h2 => ⟨_, idx_kd (hn h0), ?_⟩)⟩
      · simp at h2; simpa [h2] using hJ
      · simp at h2
        have e : (kd f (nbr f c d) != 6) = decide (kd f c ≠ 6 ∨ kd f (nbr f c d) ≠ 6) := by rw [h2]; by_cases h3 : kd f (nbr f c d) = 6 <;> simp [h3]
        rw [e]; exact hJ
    refine Jn.eq (decide (4 ≤ d ∧ (kd f c ≠ 6 ∨ kd f (nbr f c d) ≠ 6))) (Ite.mk (fun h2 => ?_) (fun h2 => Ite.mk (fun h3 => ?_) (fun h3 => ?_))) (Ite.mk (fun h2 => ?_) (fun h2 => ?_))
    · simp at h2; exact lift (J := fun x => x = decide (4 ≤ d ∧ (kd f c ≠ 6 ∨ kd f (nbr f c d) ≠ 6))) (by simp [h2])
    · simp at h3; exact lift (J := fun x => x = decide (4 ≤ d ∧ (kd f c ≠ 6 ∨ kd f (nbr f c d) ≠ 6))) (by simp [h3])
    · simp at h2 h3
      have : ¬ 4 ≤ d := by omega
      simp [this]
    · simp only [decide_eq_true_eq] at h2
      rw [e, if_pos h2] at hp; exact hp
    · simp only [decide_eq_false_iff_not] at h2
      rw [e, if_neg h2] at hp; exact hp
end Go.Taq

/- The mathematics, part PR: the floor's reference, few cells, and the search in a row that ascends. -/
set_option linter.unusedVariables false
set_option linter.unusedSimpArgs false
namespace Go.Taq
open Go
theorem S_ref07_Few {f : ApiFloor} {n : Int} {post : Bool → Prop} (hF : post false) (hT : f.Kind.length ≤ n → f.Out.length ≤ n → post true) : V_taquinref07_Few f n post := by
  unfold V_taquinref07_Few
  refine Jn.mk' (Ite.mk (fun h1 => ?_) (fun h1 => hF))
  simp at h1
  cases hb : decide ((f.Out.length : Int) ≤ n)
  · exact hF
  · exact hT h1 (by simpa using hb)
/-- ascending -/
def Asc (xs : List Int) : Prop := ∀ (i j : Nat) x y, i < j → xs[i]? = some x → xs[j]? = some y → x < y
theorem S_slices_BinarySearch {xs : List Int} {t : Int} (hl : xs.length ≤ maxLen) (ha : Asc xs) {post : Int × Bool → Prop} (hp : ∀ i, (xs.contains t = true → 0 ≤ i ∧ xs[i.toNat]? = some t) → post (i, xs.contains t)) : V_slices_BinarySearch_int_int xs t post := by
  unfold V_slices_BinarySearch_int_int
  have hm : (xs.length : Int) ≤ 9223372036854775807 := by simp [maxLen] at hl; omega
  refine Jn.mk (fun i : Int => 0 ≤ i ∧ i ≤ xs.length ∧ (∀ (j : Nat) x, (j : Int) < i → xs[j]? = some x → x < t) ∧ (∀ (j : Nat) x, i ≤ (j : Int) → xs[j]? = some x → t ≤ x))
    (Loop.mk (fun s : Int × Int => 0 ≤ s.1 ∧ s.1 ≤ s.2 ∧ s.2 ≤ xs.length ∧ (∀ (j : Nat) x, (j : Int) < s.1 → xs[j]? = some x → x < t) ∧ (∀ (j : Nat) x, s.2 ≤ (j : Int) → xs[j]? = some x → t ≤ x)) (fun s => (s.2 - s.1).toNat) ⟨by simp, by simp, by simp, fun j x hj => absurd hj (by simp), fun j x hj hx => ?_⟩ ?_) ?_
  · have := (List.getElem?_eq_some_iff.1 hx).1
    simp at hj; omega
  · rintro ⟨i, j⟩ ⟨h0, h1, h2, h3, h4⟩
    simp only at h0 h1 h2 h3 h4
    refine Ite.mk (fun hlt => ?_) (fun hge => ?_)
    · simp only [decide_eq_true_eq] at hlt
      have e : IntKind.wrap .i64 (shrI .u64 (IntKind.wrap .u64 (w64 (i + j))) 1) = (i + j) / 2 := by
        have e1 : IntKind.wrap .u64 (w64 (i + j)) = i + j := by simp [w64, IntKind.wrap, IntKind.signed, IntKind.bits]; omega
        rw [e1, shrI]
        have e2 : (i + j).fdiv (2 ^ (min (1 : Int).toNat IntKind.u64.bits)) = (i + j) / 2 := by
          rw [Int.fdiv_eq_ediv_of_nonneg _ (by decide)]; rfl
        rw [e2]
        exact w64_eq (by omega) (by omega)
      simp only []
      rw [e]
      have hmid : i ≤ (i + j) / 2 ∧ (i + j) / 2 < j := by omega
      refine ⟨_, idx_get (by omega) (by omega), ?_⟩
      generalize hx : xs[((i + j) / 2).toNat]'(by omega) = x
      have hx' : xs[((i + j) / 2).toNat]? = some x := by rw [List.getElem?_eq_getElem (by omega), hx]
      unfold V_cmp_Less_int V_cmp_isNaN_int
      refine Jn.eq (decide (x < t)) (Ite.f (by simp) rfl) ?_
      refine Jn.mk (fun s : Int × Int => s = (if x < t then (i + j) / 2 + 1 else i, if x < t then j else (i + j) / 2)) (Ite.mk (fun h5 => ?_) (fun h5 => ?_)) ?_
      · simp at h5; simp only [h5, if_true]
        rw [w64_eq (by omega) (by omega)]
      · simp at h5; simp [Int.not_lt.2 h5]
      · rintro ⟨a, b⟩ e3
        cases e3
        by_cases h5 : x < t
        · simp only [h5, if_true]
          refine ⟨⟨by omega, by omega, by omega, fun q y hq hy => ?_, h4⟩, by omega⟩
          rcases Nat.lt_or_ge q ((i + j) / 2).toNat with h6 | h6
          · exact Int.lt_trans (ha _ _ _ _ h6 hy hx') h5
          · have : q = ((i + j) / 2).toNat := by omega
            subst this; rw [hx'] at hy; cases hy; exact h5
        · simp only [h5, if_false]
          refine ⟨⟨by omega, by omega, by omega, h3, fun q y hq hy => ?_⟩, by omega⟩
          rcases Nat.lt_or_ge ((i + j) / 2).toNat q with h6 | h6
          · have := ha _ _ _ _ h6 hx' hy; omega
          · have : q = ((i + j) / 2).toNat := by omega
            subst this; rw [hx'] at hy; cases hy; omega
    · simp only [decide_eq_false_iff_not] at hge
      have : i = j := by omega
      subst this
      exact ⟨h0, h2, h3, h4⟩
  · rintro i ⟨h0, h1, h3, h4⟩
    have hc : xs.contains t = true ↔ ∃ j : Nat, xs[j]? = some t := by
      rw [List.contains_iff_mem]; exact List.mem_iff_getElem?
    have hi : xs.contains t = true → 0 ≤ i ∧ xs[i.toNat]? = some t := fun hcc => by
      obtain ⟨j, hj⟩ := hc.1 hcc
      have hjl := (List.getElem?_eq_some_iff.1 hj).1
      refine ⟨h0, ?_⟩
      rcases Nat.lt_or_ge j i.toNat with h6 | h6
      · have := h3 j t (by omega) hj; omega
      · rcases Nat.lt_or_ge i.toNat j with h7 | h7
        · have hx : xs[i.toNat]? = some (xs[i.toNat]'(by omega)) := List.getElem?_eq_getElem _
          have := ha _ _ _ _ h7 hx hj
          have := h4 i.toNat _ (by omega) hx
          omega
        · have : j = i.toNat := by omega
          rw [← this]; exact hj
    refine Jn.eq (xs.contains t) (Ite.mk (fun hlt => ?_) (fun hge => ?_)) (hp i hi)
    · simp only [decide_eq_true_eq] at hlt
      refine ⟨_, idx_get h0 hlt, ?_⟩
      generalize hx : xs[i.toNat]'(by omega) = x
      have hx' : xs[i.toNat]? = some x := by rw [List.getElem?_eq_getElem (by omega), hx]
      refine Ite.mk (fun h5 => ?_) (fun h5 => ?_)
      · simp at h5; subst h5
        exact (hc.2 ⟨_, hx'⟩).symm
      · unfold V_slices_isNaN_int
        refine Ite.f (by simp) ?_
        simp at h5
        cases hcc : xs.contains t
        · rfl
        · obtain ⟨j, hj⟩ := hc.1 hcc
          exfalso
          rcases Nat.lt_or_ge j i.toNat with h6 | h6
          · have := h3 j t (by omega) hj; omega
          · rcases Nat.lt_or_ge i.toNat j with h7 | h7
            · have := ha _ _ _ _ h7 hx' hj
              have := h4 i.toNat x (by omega) hx'
              omega
            · have : j = i.toNat := by omega
              subst this; rw [hx'] at hj; cases hj; exact h5 rfl
    · simp only [decide_eq_false_iff_not] at hge
      cases hcc : xs.contains t
      · rfl
      · obtain ⟨j, hj⟩ := hc.1 hcc
        have := (List.getElem?_eq_some_iff.1 hj).1
        have := h3 j t (by omega) hj; omega
end Go.Taq

/- The mathematics of layouts, part G: the possible shifts. -/
set_option linter.unusedVariables false
set_option linter.unusedSimpArgs false
namespace Go.Taq
open Go
/-- rows that ascend and have the same elements are one -/
theorem sorted_ext {α : Type} {lt : α → α → Prop} (ha : ∀ x y, lt x y → lt y x → False) : ∀ {xs ys : List α}, xs.Pairwise lt → ys.Pairwise lt → (∀ x, x ∈ xs ↔ x ∈ ys) → xs = ys
  | [], [], _, _, _ => rfl
  | [], y :: ys, _, _, h => by have := (h y).2 (by simp); simp at this
  | x :: xs, [], _, _, h => by have := (h x).1 (by simp); simp at this
  | x :: xs, y :: ys, h1, h2, h => by
    rw [List.pairwise_cons] at h1 h2
    have e : x = y := by
      rcases List.mem_cons.1 ((h x).1 (by simp)) with e | e
      · exact e
      · rcases List.mem_cons.1 ((h y).2 (by simp)) with e2 | e2
        · exact e2.symm
        · exact (ha _ _ (h1.1 y e2) (h2.1 x e)).elim
    subst e
    rw [sorted_ext ha h1.2 h2.2 (fun z => ⟨fun hz => ?_, fun hz => ?_⟩)]
    · rcases List.mem_cons.1 ((h z).1 (List.mem_cons_of_mem _ hz)) with e | e
      · subst e; exact (ha _ _ (h1.1 z hz) (h1.1 z hz)).elim
      · exact e
    · rcases List.mem_cons.1 ((h z).2 (List.mem_cons_of_mem _ hz)) with e | e
      · subst e; exact (ha _ _ (h2.1 z hz) (h2.1 z hz)).elim
      · exact e
/-- a row without what comes twice -/
def cmI {α : Type} [DecidableEq α] (xs : List α) : Nat → List α
  | 0 => []
  | i + 1 => cmI xs i ++ (if i = 0 ∨ xs[i]? ≠ xs[i - 1]? then xs[i]?.toList else [])
section
variable {α : Type} [DecidableEq α] {xs : List α}
theorem cmI_mem : ∀ i, i ≤ xs.length → ∀ s, s ∈ cmI xs i ↔ s ∈ xs.take i
  | 0, _, s => by simp [cmI]
  | i + 1, h, s => by
    have ih := cmI_mem i (by omega) s
    have hx : xs[i]? = some (xs[i]'(by omega)) := List.getElem?_eq_getElem (by omega)
    unfold cmI
    rw [List.take_add_one, List.mem_append, List.mem_append, ih]
    by_cases c : i = 0 ∨ xs[i]? ≠ xs[i - 1]?
    · rw [if_pos c]
    · rw [if_neg c]
      have c1 : i ≠ 0 := fun e => c (.inl e)
      have c2 : xs[i]? = xs[i - 1]? := Classical.byContradiction fun e => c (.inr e)
      constructor
      · rintro (h | h)
        · exact .inl h
        · simp at h
      · rintro (h | h)
        · exact .inl h
        · refine .inl ?_
          rw [c2] at h
          have : (xs.take i)[i - 1]? = xs[i - 1]? := List.getElem?_take_of_lt (by omega)
          rw [← this] at h
          exact List.mem_of_getElem? (Option.mem_toList.1 h)
theorem cmI_lt {lt : α → α → Prop} (ht : ∀ x y z, (lt x y ∨ x = y) → lt y z → lt x z) (hs : xs.Pairwise (fun x y => lt x y ∨ x = y)) : ∀ i, i ≤ xs.length → (cmI xs i).Pairwise lt
  | 0, _ => by simp [cmI]
  | i + 1, h => by
    have ih := cmI_lt ht hs i (by omega)
    unfold cmI
    by_cases c : i = 0 ∨ xs[i]? ≠ xs[i - 1]?
    · rw [if_pos c, List.pairwise_append]
      have hx : xs[i]? = some (xs[i]'(by omega)) := List.getElem?_eq_getElem (by omega)
      rw [hx]
      refine ⟨ih, by simp, fun a ha b hb => ?_⟩
      simp at hb; subst hb
      rw [cmI_mem i (by omega)] at ha
      rcases c with c | c
      · subst c; simp at ha
      · obtain ⟨j, hj⟩ := List.getElem?_of_mem ha
        have hji : j < i := by have := (List.getElem?_eq_some_iff.1 hj).1; simp at this; omega
        rw [List.getElem?_take_of_lt hji] at hj
        have hg := List.pairwise_iff_getElem.1 hs
        obtain ⟨hjl, hje⟩ := List.getElem?_eq_some_iff.1 hj
        have hx1 : xs[i - 1]? = some (xs[i - 1]'(by omega)) := List.getElem?_eq_getElem (by omega)
        have h1 : lt (xs[i - 1]'(by omega)) (xs[i]'(by omega)) := by
          rcases hg (i - 1) i (by omega) (by omega) (by omega) with e | e
          · exact e
          · exact absurd (by rw [hx, hx1, e]) c
        subst hje
        by_cases e : j = i - 1
        · subst e; exact h1
        · exact ht _ _ _ (hg j (i - 1) (by omega) (by omega) (by omega)) h1
    · rw [if_neg c]; simpa using ih
theorem cmI_same {i : Nat} (h : 1 ≤ i) (e : xs[i]? = xs[i - 1]?) : cmI xs (i + 1) = cmI xs i := by
  rw [cmI, if_neg (by intro h; rcases h with h | h; omega; exact h e)]; simp
theorem cmI_new {i : Nat} {x : α} (h : xs[i]? = some x) (e : i = 0 ∨ xs[i]? ≠ xs[i - 1]?) : cmI xs (i + 1) = cmI xs i ++ [x] := by
  rw [cmI, if_pos e, h]; rfl
end
theorem shEq {a b : ApiShift} : ((a.From == b.From) && ((a.To == b.To) && true)) = decide (a = b) := by
  cases a; cases b; rw [Bool.eq_iff_iff]; simp
theorem S_Compact {xs : List ApiShift} (hl : xs.length ≤ 1000000) {post : List ApiShift → Prop} (hp : post (cmI xs xs.length)) : V_slices_Compact_api_Shift_api_Shift__o0 xs post := by
  unfold V_slices_Compact_api_Shift_api_Shift__o0
  simp only [shEq]
  refine Ite.mk (fun h => ?_) (fun h => ?_)
  · have h' : (xs.length : Int) < 2 := of_decide_eq_true h
    have : cmI xs xs.length = xs := by
      match xs, h' with
      | [], _ => rfl
      | [x], _ => rfl
      | _ :: _ :: _, h' => simp at h'; omega
    rw [this] at hp; exact hp
  have h' : ¬ (xs.length : Int) < 2 := of_decide_eq_false h
  have all : cmI xs xs.length = xs → post xs := fun e => by rw [e] at hp; exact hp
  refine Jn.mk (fun _ => post xs) (Loop.inv (xs.length - 1) (fun i (s : Int) => s = ((i + 1 : Nat) : Int) ∧ cmI xs (i + 1) = xs.take (i + 1)) ⟨rfl, ?_⟩ (fun i s hi hI => ?_) (fun s hI => ?_)) (fun _ h => h)
  · have hx : xs[0]? = some (xs[0]'(by omega)) := List.getElem?_eq_getElem (by omega)
    rw [cmI_new hx (.inl rfl), List.take_add_one, hx]; rfl
  · obtain ⟨rfl, hI⟩ := hI
    have hx : xs[i + 1]? = some (xs[i + 1]'(by omega)) := List.getElem?_eq_getElem (by omega)
    have hx0 : xs[i]? = some (xs[i]'(by omega)) := List.getElem?_eq_getElem (by omega)
    generalize hxv : xs[i + 1]'(by omega) = x at hx
    generalize hyv : xs[i]'(by omega) = y at hx0
    have w1 : w64 (((i + 1 : Nat) : Int) - 1) = (i : Int) := by rw [w64_p (by omega) (by omega)]; simp
    refine Ite.lt (by omega) (Jn.mk (fun _ => cmI xs (i + 2) = xs.take (i + 2)) ⟨x, idx_of rfl hx, y, idx_of w1 hx0, Ite.mk (fun e => ?_) (fun e => ?_)⟩ (fun _ e => ⟨w64_1 (by omega), e⟩))
    · have e' : x = y := of_decide_eq_true e
      have hsame : cmI xs (i + 1 + 1) = cmI xs (i + 1) := cmI_same (by omega) (by simp only [Nat.add_sub_cancel]; rw [hx, hx0, e'])
      have hn2 : Int.toNat ((xs.length : Int) - ((i + 1 : Nat) : Int)) = xs.length - (i + 1) := by omega
      simp only [hn2, Int.toNat_natCast]
      refine ⟨⟨by omega, by omega, by omega⟩, Jn.mk (fun (t : List ApiShift × Int) => ∃ kk : Nat, t.2 = (kk : Int) ∧ t.1.length = xs.length ∧ kk ≤ xs.length ∧ t.1.take kk = cmI xs xs.length)
        (Loop.inv (xs.length - (i + 1) - 1) (fun j (t : List ApiShift × Int × Int) => t.2.2 = ((j + 1 : Nat) : Int) ∧ ∃ kk : Nat, t.2.1 = (kk : Int) ∧ t.1.length = xs.length ∧ kk ≤ i + 1 + j ∧ t.1.take kk = cmI xs (i + 1 + j + 1) ∧ ∀ q, i + 1 + j ≤ q → t.1[q]? = xs[q]?)
          ⟨rfl, i + 1, rfl, rfl, by omega, by rw [Nat.add_zero, hsame, hI], fun q _ => rfl⟩ (fun j t hj hJ => ?_) (fun t hJ => ?_)) (fun t hJ => ?_)⟩
      · obtain ⟨ys, kk', q⟩ := t
        obtain ⟨rfl, kk, rfl, hyl, hkk, htk, hsm⟩ := hJ
        replace hyl : ys.length = xs.length := hyl
        replace htk : ys.take kk = cmI xs (i + 1 + j + 1) := htk
        replace hsm : ∀ q, i + 1 + j ≤ q → ys[q]? = xs[q]? := hsm
        have wj : w64 (((j + 1 : Nat) : Int) - 1) = (j : Int) := by rw [w64_p (by omega) (by omega)]; simp
        have wj1 : w64 (((j + 1 : Nat) : Int) + 1) = ((j + 1 + 1 : Nat) : Int) := w64_1 (by omega)
        have wk1 : w64 ((kk : Int) + 1) = ((kk + 1 : Nat) : Int) := w64_1 (by omega)
        have ha : xs[i + 1 + j + 1]? = some (xs[i + 1 + j + 1]'(by omega)) := List.getElem?_eq_getElem (by omega)
        have hb : xs[i + 1 + j]? = some (xs[i + 1 + j]'(by omega)) := List.getElem?_eq_getElem (by omega)
        generalize xs[i + 1 + j + 1]'(by omega) = a at ha
        generalize xs[i + 1 + j]'(by omega) = b at hb
        refine Ite.lt (by show ((j + 1 : Nat) : Int) < _; omega) ?_
        simp only [wj, wj1, wk1, Int.toNat_natCast]
        refine ⟨⟨by omega, by omega⟩, a, by rw [show i + 1 + (j + 1) = i + 1 + j + 1 by omega, hsm _ (by omega)]; exact ha, ⟨by omega, by omega⟩, b, by rw [hsm _ (by omega)]; exact hb, ?_⟩
        refine Jn.mk (fun (t : List ApiShift × Int) => ∃ kk : Nat, t.2 = (kk : Int) ∧ t.1.length = xs.length ∧ kk ≤ i + 1 + (j + 1) ∧ t.1.take kk = cmI xs (i + 1 + (j + 1) + 1) ∧ ∀ q, i + 1 + (j + 1) ≤ q → t.1[q]? = xs[q]?) (Ite.mk (fun e => ?_) (fun e => ?_)) (fun t h => ⟨by trivial, h⟩)
        · have hab : ¬ a = b := by simpa using e
          have hkl : kk < ys.length := by omega
          refine ⟨⟨by omega, by omega⟩, _, idx_of rfl (List.getElem?_eq_getElem hkl), kk + 1, rfl, by simpa using hyl, by omega, ?_, fun q hq => ?_⟩
          · show (ys.set kk a).take (kk + 1) = _
            rw [List.take_add_one, List.take_set_of_le (Nat.le_refl _), htk, List.getElem?_set, if_pos rfl, if_pos hkl]
            have := cmI_new ha (.inr (by simp only [Nat.add_sub_cancel]; rw [ha, hb]; simpa using hab))
            rw [show i + 1 + (j + 1) + 1 = i + 1 + j + 1 + 1 by omega, this]; rfl
          · show (ys.set kk a)[q]? = _
            rw [List.getElem?_set_ne (by omega)]; exact hsm q (by omega)
        · have hab : a = b := by simpa using e
          have := cmI_same (xs := xs) (i := i + 1 + j + 1) (by omega) (by simp only [Nat.add_sub_cancel]; rw [ha, hb, hab])
          exact ⟨kk, rfl, hyl, by omega, by rw [show i + 1 + (j + 1) + 1 = i + 1 + j + 1 + 1 by omega, this]; exact htk, fun q hq => hsm q (by omega)⟩
      · obtain ⟨ys, kk', q⟩ := t
        obtain ⟨rfl, kk, rfl, hyl, hkk, htk, hsm⟩ := hJ
        refine Ite.nlt (by show ¬ ((xs.length - (i + 1) - 1 + 1 : Nat) : Int) < _; omega) ⟨kk, rfl, hyl, by omega, ?_⟩
        rw [show i + 1 + (xs.length - (i + 1) - 1) + 1 = xs.length by omega] at htk
        exact htk
      · obtain ⟨ys, kk'⟩ := t
        obtain ⟨kk, rfl, hyl, hkk, htk⟩ := hJ
        replace hyl : ys.length = xs.length := hyl
        replace htk : ys.take kk = cmI xs xs.length := htk
        have hn3 : Int.toNat ((ys.length : Int) - (kk : Int)) = ys.length - kk := by omega
        simp only [hn3, Int.toNat_natCast]
        refine ⟨⟨by omega, by omega, by omega⟩, by omega, ⟨by omega, by omega, ?_⟩, ?_⟩
        · simp only [List.length_append, List.length_take, List.length_replicate, List.length_drop]; omega
        · have : sub (ys.take kk ++ (List.replicate (ys.length - kk) ({ From := 0, To := 0 : ApiShift }) ++ ys.drop (kk + (ys.length - kk)))) 0 (kk : Int) = ys.take kk := by
            simp only [sub, Int.toNat_natCast, Int.toNat_zero, List.drop_zero, Nat.sub_zero]
            rw [List.take_append_of_le_length (by simp; omega)]
            rw [List.take_of_length_le (by simp; omega)]
          rw [this, htk]; exact hp
    · have e' : ¬ x = y := of_decide_eq_false e
      show cmI xs (i + 1 + 1) = xs.take (i + 1 + 1)
      rw [cmI_new hx (.inr (by simp only [Nat.add_sub_cancel]; rw [hx, hx0]; simpa using e')), List.take_add_one, hx, hI]; rfl
  · obtain ⟨rfl, hI⟩ := hI
    refine Ite.nlt (by omega) ?_
    rw [show xs.length - 1 + 1 = xs.length by omega, List.take_length] at hI
    exact all hI
end Go.Taq
