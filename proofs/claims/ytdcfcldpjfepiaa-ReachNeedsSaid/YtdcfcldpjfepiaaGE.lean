/- The mathematics, several parts in one text. -/
import Derived.Test.YtdcfcldpjfepiaaGA
/- The mathematics, part GB: settle makes the fuel of cells less as long as that is possible (chapter 33). -/
set_option linter.unusedVariables false
set_option linter.unusedSimpArgs false
namespace Go.Taq
open Go

def wtF (B : Nat) (v : Int) : Nat := if v < 0 then B + 1 else v.toNat
def WF (B : Nat) (f : List Int) : Nat := (f.map (wtF B)).sum
def nn (f : List Int) : Nat := f.countP fun v => decide (0 ≤ v)
/-- what holds while the queue is worked off -/
structure SInv (g : ReachGraph) (b : Int) (n : Nat) (P K : Int) (may : Nat → Prop) (f0 f q : List Int) : Prop where
  len : f.length = n
  lo : ∀ c, c < n → -1 ≤ fu f c
  hi : ∀ c, c < n → fu f c ≤ K + P * nn f
  sound : ∀ c, c < n → 0 ≤ fu f c → Wg g b c (fu f c).toNat
  home : ∀ c, c < n → g.home[c]? = some true → fu f c = 0
  relax : ∀ (c : Nat) l x, may c → g.home[c]? = some false → g.out[c]? = some l → x ∈ l → x.to_ ≠ b → 0 ≤ fu f x.to_.toNat → x.to_ ∉ q → 0 ≤ fu f c ∧ fu f c ≤ fu f x.to_.toNat + x.price
  q : ∀ x, x ∈ q → 0 ≤ x ∧ x < n
  keep : ∀ c, c < n → ¬ may c → fu f c = fu f0 c
section
variable {g : ReachGraph} {n : Nat} {P K b : Int} {may : Nat → Prop} {f0 f q : List Int}
theorem nn_le (h : SInv g b n P K may f0 f q) : nn f ≤ n := by
  have := List.countP_le_length (p := fun v : Int => decide (0 ≤ v)) (l := f)
  unfold nn; rw [h.len] at this; exact this
theorem SInv.top (hg : GOk n P g) (h : SInv g b n P K may f0 f q) {c : Nat} (hc : c < n) : fu f c ≤ K + P * n := by
  have h1 := h.hi c hc
  have h2 := nn_le h
  have : P * (nn f : Int) ≤ P * (n : Int) := Int.mul_le_mul_of_nonneg_left (by omega) (by have := hg.p0; omega)
  omega
theorem top_bd (hg : GOk n P g) (hK : 0 ≤ K ∧ K ≤ 20000000) : 0 ≤ P * (n : Int) ∧ P * (n : Int) ≤ 10000000 := by
  have h1 := hg.p0; have h2 := hg.n4
  refine ⟨Int.mul_nonneg (by omega) (by omega), ?_⟩
  have : P * (n : Int) ≤ 10000 * 1000 := Int.mul_le_mul (by omega) (by omega) (by omega) (by omega)
  omega
/-- a cell gets less fuel, and goes into the queue -/
theorem SInv.put (hg : GOk n P g) (hK : 0 ≤ K ∧ K ≤ 20000000) (h : SInv g b n P K may f0 f q) {c : Nat} {l : List ReachStep} {r : Int × Int} (hc : c < n) (hm : may c) (hh : g.home[c]? = some false) (hl : g.out[c]? = some l) (hB : Best f l b r) (h0 : 0 ≤ r.1) (hlt : fu f c < 0 ∨ r.1 < fu f c) :
    SInv g b n P K may f0 (f.set c r.1) (q ++ [(c : Int)]) ∧ WF (K + P * n).toNat (f.set c r.1) < WF (K + P * n).toNat f := by
  have hlen := h.len
  have hcl : c < f.length := by omega
  have hfc := fu_get hcl
  have hp := hg.p0
  have hcnt := cnt_set (fun v : Int => decide (0 ≤ v)) (y := r.1) hfc
  have hset : ∀ d, fu (f.set c r.1) d = if d = c then r.1 else fu f d := fun d => fu_set hcl
  obtain ⟨x, hx, hxb, hx0, hr⟩ : ∃ x, x ∈ l ∧ x.to_ ≠ b ∧ 0 ≤ fu f x.to_.toNat ∧ r = (fu f x.to_.toNat + x.price, x.to_) := by
    rcases hB.is with e | e
    · rw [e] at h0; exact absurd h0 (by decide)
    · exact e
  obtain ⟨⟨t0, t1⟩, p1, p2⟩ := hg.to_ c l x hl hx
  have hk : x.to_.toNat < n := by omega
  have hr1 : r.1 = fu f x.to_.toNat + x.price := by rw [hr]
  have hhix := h.hi _ hk
  -- the count
  have hnn : (nn (f.set c r.1) : Int) = nn f + (if fu f c < 0 then 1 else 0) := by
    unfold nn
    rw [if_pos (decide_eq_true h0)] at hcnt
    split
    · rename_i hneg
      rw [if_neg (by simp; omega)] at hcnt; omega
    · rename_i hneg
      rw [if_pos (by simp; omega)] at hcnt; omega
  have hmul : P * (nn (f.set c r.1) : Int) = P * nn f + (if fu f c < 0 then P else 0) := by
    rw [hnn, Int.mul_add]; split <;> simp
  have hrhi : r.1 ≤ K + P * nn (f.set c r.1) := by
    rw [hmul]
    split
    · omega
    · have := h.hi c hc; omega
  refine ⟨⟨by rw [List.length_set]; exact hlen, fun d hd => ?_, fun d hd => ?_, fun d hd hd0 => ?_, fun d hd hdh => ?_, fun d m y hdm hdh hdl hy hyb hy0 hyq => ?_, fun y hy => ?_, fun d hd hdm => ?_⟩, ?_⟩
  · rw [hset]; split
    · omega
    · exact h.lo d hd
  · rw [hset]; split
    · exact hrhi
    · have := h.hi d hd; rw [hmul]; split <;> omega
  · rw [hset] at hd0 ⊢
    split
    · rename_i e
      subst e
      have hs := h.sound _ hk hx0
      have := Wg.step (b := b) hh hl hx hxb hs
      have e2 : r.1.toNat = (fu f x.to_.toNat).toNat + x.price.toNat := by omega
      rw [e2]; exact this
    · rename_i e
      rw [if_neg e] at hd0
      exact h.sound d hd hd0
  · rw [hset]; split
    · rename_i e
      subst e; rw [hh] at hdh; cases hdh
    · exact h.home d hd hdh
  · have hyq2 : y.to_ ∉ q := fun hm => hyq (List.mem_append_left _ hm)
    have hyc : y.to_ ≠ (c : Int) := fun e => hyq (List.mem_append_right _ (by simp [e]))
    obtain ⟨⟨s0, s1⟩, _⟩ := hg.to_ d m y hdl hy
    have hyc2 : y.to_.toNat ≠ c := by omega
    rw [hset, if_neg hyc2] at hy0
    have ey : fu (f.set c r.1) y.to_.toNat = fu f y.to_.toNat := by rw [hset, if_neg hyc2]
    rw [ey, hset]
    split
    · rename_i e
      subst e
      rw [hl] at hdl; cases hdl
      have := hB.le y hy hyb hy0
      exact this
    · exact h.relax d m y hdm hdh hdl hy hyb hy0 hyq2
  · rcases List.mem_append.1 hy with hy | hy
    · exact h.q y hy
    · simp at hy; subst hy; omega
  · rw [hset, if_neg (by intro e; subst e; exact hdm hm)]
    exact h.keep d hd hdm
  · have hs := sum_set (wtF (K + P * n).toNat) (y := r.1) hfc
    have htop := h.top hg hc
    have hb2 := top_bd hg hK
    have hrtop : r.1 ≤ K + P * n := by
      have : P * (nn (f.set c r.1) : Int) ≤ P * (n : Int) := Int.mul_le_mul_of_nonneg_left (by
        have := List.countP_le_length (p := fun v : Int => decide (0 ≤ v)) (l := f.set c r.1)
        rw [List.length_set, hlen] at this
        unfold nn; omega) (by omega)
      omega
    have : wtF (K + P * n).toNat r.1 < wtF (K + P * n).toNat (fu f c) := by
      unfold wtF
      rw [if_neg (by omega)]
      split <;> omega
    unfold WF; omega
theorem S_settle (hg : GOk n P g) (hK : 0 ≤ K ∧ K ≤ 20000000) {M : Int → (Bool → Prop) → Prop} [DecidablePred may] (hM : ∀ c : Nat, ∀ {q : Bool → Prop}, c < n → q (decide (may c)) → M (c : Int) q) (h : SInv g b n P K may f0 f q) (hq : 2 * WF (K + P * n).toNat f + q.length ≤ 100000000000) {post : List Int → Prop} (hp : ∀ f', SInv g b n P K may f0 f' [] → post f') :
  Jn (fun (J2 : (List Int) → Prop) => Loop (fun (s3 : List Int × List Int) Y4 => Ite (decide ((s3.2.length : Int) > 0)) (Jn (fun (J9 : (List Int × List Int) → Prop) => ∃ x12, idx s3.2 0 = some x12 ∧ ∃ x13, idx g.in_ x12 = some x13 ∧ Jn (fun (J15 : (List Int × List Int) → Prop) => Loop (fun (s16 : List Int × List Int × Int) Y17 => Ite (decide (s16.2.2 < (x13.length : Int))) (Jn (fun (J22 : (List Int × List Int) → Prop) => ∃ x25, idx x13 s16.2.2 = some x25 ∧ Jn (fun (J27 : Bool → Prop) => ∃ x28, idx g.home x25 = some x28 ∧ Ite x28 (J27 true) (M x25 (fun x30 => J27 (!x30)))) (fun (x26 : Bool) => Ite x26 (J22 (s16.1, s16.2.1)) (V_reach_graph_best g s16.1 x25 b (fun x34 => Jn (fun (J36 : Bool → Prop) => Ite (decide (x34.1 ≥ 0)) (∃ x38, idx s16.1 x25 = some x38 ∧ Ite (decide (x38 < 0)) (J36 true) (J36 (decide (x34.1 < x38)))) (J36 false)) (fun (x35 : Bool) => Jn (fun (J41 : (List Int × List Int) → Prop) => Ite x35 (∃ x45, idx s16.1 x25 = some x45 ∧ (s16.2.1.length + ([x25] : List Int).length ≤ 1099511627776) ∧ J41 ((s16.1.set (Int.toNat x25) x34.1), (s16.2.1 ++ ([x25] : List Int)))) (J41 (s16.1, s16.2.1))) (fun (x40 : List Int × List Int) => J22 (x40.1, x40.2))))))) (fun (x21 : List Int × List Int) => Y17 (x21.1, x21.2, w64 (s16.2.2 + 1)))) (J15 (s16.1, s16.2.1))) (s3.1, s3.2, 0)) (fun (x14 : List Int × List Int) => J9 (x14.1, x14.2))) (fun (x8 : List Int × List Int) => (0 ≤ (1 : Int) ∧ (1 : Int) ≤ (x8.2.length : Int) ∧ (x8.2.length : Int) ≤ (x8.2.length : Int)) ∧ Y4 (x8.1, (sub x8.2 1 (x8.2.length : Int))))) (J2 s3.1)) (f, q)) (fun (x1 : List Int) => post x1) := by
  refine Jn.mk (fun f' => SInv g b n P K may f0 f' []) (Loop.mk (fun s : List Int × List Int => SInv g b n P K may f0 s.1 s.2 ∧ 2 * WF (K + P * n).toNat s.1 + s.2.length ≤ 100000000000) (fun s => 2 * WF (K + P * n).toNat s.1 + s.2.length) ⟨h, hq⟩ ?_) (fun f' h => hp f' h)
  rintro ⟨f1, q1⟩ ⟨h1, hq1⟩
  simp only at h1 hq1
  match q1, h1, hq1 with
  | [], h1, hq1 => exact Ite.f (by simp) h1
  | hd :: q2, h1, hq1 =>
    refine Ite.t (decide_eq_true (show (((hd :: q2).length : Nat) : Int) > 0 by rw [List.length_cons]; omega)) ?_
    have hhd := h1.q hd (by simp)
    obtain ⟨k, hk⟩ := Int.eq_ofNat_of_zero_le hhd.1
    subst hk
    have hkn : k < n := by omega
    have hin := List.getElem?_eq_getElem (show k < g.in_.length by rw [hg.li]; exact hkn)
    generalize hinv : g.in_[k]'_ = l at hin
    have hll := hg.lil k l hin
    refine Jn.mk (fun s : List Int × List Int => ∃ r, s.2 = (k : Int) :: r ∧ SInv g b n P K may f0 s.1 r ∧ 2 * WF (K + P * n).toNat s.1 + s.2.length ≤ 2 * WF (K + P * n).toNat f1 + ((k : Int) :: q2).length) ⟨(k : Int), rfl, l, idx_of rfl hin, ?_⟩ (fun s hs => ?_)
    · refine Jn.mk (fun s : List Int × List Int => ∃ r, s.2 = (k : Int) :: r ∧ SInv g b n P K may f0 s.1 r ∧ 2 * WF (K + P * n).toNat s.1 + s.2.length ≤ 2 * WF (K + P * n).toNat f1 + ((k : Int) :: q2).length)
        (V_loopj (xs := l) (by unfold maxLen; omega) (fun t : List Int × List Int × Int => t.2.2) (fun i t => ∃ r, t.2.1 = (k : Int) :: r ∧ SInv g b n P K may f0 t.1 t.2.1 ∧ 2 * WF (K + P * n).toNat t.1 + t.2.1.length ≤ 2 * WF (K + P * n).toNat f1 + ((k : Int) :: q2).length ∧
          ∀ (c : Nat), (c : Int) ∈ l.take i → may c → g.home[c]? = some false → ∀ m x, g.out[c]? = some m → x ∈ m → x.to_ = k → x.to_ ≠ b → 0 ≤ fu t.1 k → (k : Int) ∉ r → 0 ≤ fu t.1 c ∧ fu t.1 c ≤ fu t.1 k + x.price) rfl ⟨q2, rfl, h1, Nat.le_refl _, fun c hc => by simp at hc⟩ (fun i x t hx ht hI => ?_) (fun t hI => ?_)) (fun s hs => hs)
      · obtain ⟨r, hr, hS, hW, hpr⟩ := hI
        have hxm := List.mem_of_getElem? hx
        have hxn := hg.inn k l x hin hxm
        obtain ⟨c, hc⟩ := Int.eq_ofNat_of_zero_le hxn.1
        subst hc
        have hcn : c < n := by omega
        have hho := List.getElem?_eq_getElem (show c < g.home.length by rw [hg.lh]; exact hcn)
        generalize hhv : g.home[c]'_ = ho at hho
        -- what the round leaves
        refine Jn.mk (fun s : List Int × List Int => ∃ r, s.2 = (k : Int) :: r ∧ SInv g b n P K may f0 s.1 s.2 ∧ 2 * WF (K + P * n).toNat s.1 + s.2.length ≤ 2 * WF (K + P * n).toNat f1 + ((k : Int) :: q2).length ∧
          ∀ (c : Nat), (c : Int) ∈ l.take (i + 1) → may c → g.home[c]? = some false → ∀ m x, g.out[c]? = some m → x ∈ m → x.to_ = k → x.to_ ≠ b → 0 ≤ fu s.1 k → (k : Int) ∉ r → 0 ≤ fu s.1 c ∧ fu s.1 c ≤ fu s.1 k + x.price) ?_ (fun s hs => ⟨by rw [ht], hs⟩)
        have stay : ∀ (hno : may c → g.home[c]? = some false → ∀ m x, g.out[c]? = some m → x ∈ m → x.to_ = k → x.to_ ≠ b → 0 ≤ fu t.1 k → (k : Int) ∉ r → 0 ≤ fu t.1 c ∧ fu t.1 c ≤ fu t.1 k + x.price),
            ∃ r, t.2.1 = (k : Int) :: r ∧ SInv g b n P K may f0 t.1 t.2.1 ∧ 2 * WF (K + P * n).toNat t.1 + t.2.1.length ≤ 2 * WF (K + P * n).toNat f1 + ((k : Int) :: q2).length ∧
          ∀ (c : Nat), (c : Int) ∈ l.take (i + 1) → may c → g.home[c]? = some false → ∀ m x, g.out[c]? = some m → x ∈ m → x.to_ = k → x.to_ ≠ b → 0 ≤ fu t.1 k → (k : Int) ∉ r → 0 ≤ fu t.1 c ∧ fu t.1 c ≤ fu t.1 k + x.price := fun hno => ⟨r, hr, hS, hW, fun d hd => by
            rw [take_succ hx] at hd
            rcases List.mem_append.1 hd with hd | hd
            · exact hpr d hd
            · simp at hd
              have : d = c := by omega
              subst this; exact hno⟩
        refine ⟨(c : Int), by rw [ht]; exact idx_of rfl hx, Jn.mk (fun bb => bb = (ho || !decide (may c))) ⟨ho, idx_of rfl hho, Ite.mk (fun e => by rw [e]; rfl) (fun e => by rw [e]; exact hM c hcn rfl)⟩ (fun bb hbb => Ite.mk (fun e => ?_) (fun e => ?_))⟩
        · refine stay (fun hm hh => ?_)
          rw [e] at hbb
          rw [hho] at hh
          have hh2 := Option.some.inj hh
          rw [hh2, decide_eq_true hm] at hbb
          cases hbb
        · rw [e] at hbb
          have hbb' := hbb.symm
          simp at hbb'
          obtain ⟨hof, hmc⟩ := hbb'
          rw [hof] at hho
          have htop := fun d hd => hS.top hg (c := d) hd
          have htb := top_bd hg hK
          refine S_reach_best hg hS.len (fun d hd => by have := htop d hd; omega) hcn (fun lo rr hlo hB => ?_)
          have hfc := fu_idx (f := t.1) (c := c) (by rw [hS.len]; exact hcn)
          refine Jn.mk (fun x => x = true ↔ 0 ≤ rr.1 ∧ (fu t.1 c < 0 ∨ rr.1 < fu t.1 c)) (Ite.mk (fun e1 => ⟨_, hfc, Ite.mk (fun e2 => ?_) (fun e2 => ?_)⟩) (fun e1 => ?_)) (fun x35 h35 => ?_)
          · exact ⟨fun _ => ⟨of_decide_eq_true e1, .inl (of_decide_eq_true e2)⟩, fun _ => rfl⟩
          · show decide _ = true ↔ _
            rw [decide_eq_true_iff]
            exact ⟨fun h => ⟨of_decide_eq_true e1, .inr h⟩, fun h => h.2.resolve_left (of_decide_eq_false e2)⟩
          · exact ⟨fun h => (by cases h), fun h => absurd h.1 (of_decide_eq_false e1)⟩
          refine Jn.mk (fun s : List Int × List Int => ∃ r, s.2 = (k : Int) :: r ∧ SInv g b n P K may f0 s.1 s.2 ∧ 2 * WF (K + P * n).toNat s.1 + s.2.length ≤ 2 * WF (K + P * n).toNat f1 + ((k : Int) :: q2).length ∧
          ∀ (c : Nat), (c : Int) ∈ l.take (i + 1) → may c → g.home[c]? = some false → ∀ m x, g.out[c]? = some m → x ∈ m → x.to_ = k → x.to_ ≠ b → 0 ≤ fu s.1 k → (k : Int) ∉ r → 0 ≤ fu s.1 c ∧ fu s.1 c ≤ fu s.1 k + x.price) (Ite.mk (fun e3 => ?_) (fun e3 => ?_)) (fun s hs => hs)
          · obtain ⟨g0, glt⟩ := h35.1 e3
            obtain ⟨hS', hW'⟩ := hS.put hg hK hcn hmc hho hlo hB g0 glt
            have hlen1 : ((k : Int) :: q2).length = q2.length + 1 := rfl
            refine ⟨_, hfc, by simp; omega, r ++ [(c : Int)], by show t.2.1 ++ [(c : Int)] = _; rw [hr]; rfl, hS', ?_, fun d hd hdm hdh m x hdl hxm2 hxk hxb hk0 hkr => ?_⟩
            · show 2 * WF _ (t.1.set c rr.1) + (t.2.1 ++ [(c : Int)]).length ≤ _
              rw [List.length_append, List.length_singleton]; omega
            · have hkc : k ≠ c := fun e => hkr (List.mem_append_right _ (by simp [e]))
              have hkr2 : (k : Int) ∉ r := fun hm => hkr (List.mem_append_left _ hm)
              have hset : ∀ d, fu (t.1.set c rr.1) d = if d = c then rr.1 else fu t.1 d := fun d => fu_set (by rw [hS.len]; exact hcn)
              have hk0' : 0 ≤ fu t.1 k := by
                have : 0 ≤ fu (t.1.set c rr.1) k := hk0
                rw [hset, if_neg hkc] at this; exact this
              show 0 ≤ fu (t.1.set c rr.1) d ∧ fu (t.1.set c rr.1) d ≤ fu (t.1.set c rr.1) k + x.price
              rw [hset, hset, if_neg hkc]
              have hkt : x.to_.toNat = k := by omega
              split
              · rename_i e
                subst e
                rw [hlo] at hdl; cases hdl
                have := hB.le x hxm2 hxb (by rw [hkt]; exact hk0')
                rw [hkt] at this; exact this
              · rename_i e
                rw [take_succ hx] at hd
                rcases List.mem_append.1 hd with hd | hd
                · exact hpr d hd hdm hdh m x hdl hxm2 hxk hxb hk0' hkr2
                · simp at hd; exact absurd (by omega) e
          · refine stay (fun hdm hdh m x hdl hxm2 hxk hxb hk0 hkr => ?_)
            have hno : ¬ (0 ≤ rr.1 ∧ (fu t.1 c < 0 ∨ rr.1 < fu t.1 c)) := fun hh => by rw [h35.2 hh] at e3; cases e3
            rw [hlo] at hdl; cases hdl
            have hkt : x.to_.toNat = k := by omega
            have := hB.le x hxm2 hxb (by rw [hkt]; exact hk0)
            rw [hkt] at this
            omega
      · obtain ⟨r, hr, hS, hW, hpr⟩ := hI
        rw [List.take_length] at hpr
        refine ⟨r, hr, ⟨hS.len, hS.lo, hS.hi, hS.sound, hS.home, fun c m x hm hh hlx hx hxb hx0 hxr => ?_, fun x hx => hS.q x (by rw [hr]; exact List.mem_cons_of_mem _ hx), hS.keep⟩, hW⟩
        obtain ⟨⟨t0, t1⟩, _⟩ := hg.to_ c m x hlx hx
        by_cases e : x.to_ = (k : Int)
        · have hkt : x.to_.toNat = k := by omega
          rw [hkt] at hx0 ⊢
          refine hpr c ?_ hm hh m x hlx hx e hxb hx0 (by rw [← e]; exact hxr)
          exact hg.all c m x hlx hx l (by rw [hkt]; exact hin)
        · refine hS.relax c m x hm hh hlx hx hxb hx0 ?_
          rw [hr]
          intro hm2
          rcases List.mem_cons.1 hm2 with h2 | h2
          · exact e h2
          · exact hxr h2
    · obtain ⟨r, hr, hS, hW⟩ := hs
      have hlen1 : s.2.length = r.length + 1 := by rw [hr]; rfl
      have hsub : sub s.2 1 (s.2.length : Int) = r := by
        rw [hr]; simp [sub]
      refine ⟨by rw [hlen1]; omega, ⟨by show SInv g b n P K may f0 s.1 (sub s.2 1 _); rw [hsub]; exact hS, ?_⟩, ?_⟩
      · show 2 * WF _ s.1 + (sub s.2 1 (s.2.length : Int)).length ≤ _
        rw [hsub]; omega
      · show 2 * WF _ s.1 + (sub s.2 1 (s.2.length : Int)).length < 2 * WF _ f1 + ((k : Int) :: q2).length
        rw [hsub]; omega
end
end Go.Taq

/- The mathematics, part GC: the graph of a site, its fuel (chapter 33). -/
set_option linter.unusedVariables false
set_option linter.unusedSimpArgs false
namespace Go.Taq
open Go

/-- the price of a move -/
def prS (s : ApiSite) (d x : Int) : Int := if d < 0 ∨ d ≥ 6 ∨ isC s.Floor x = false then 0 else cst 20000 (1 + d) true + (if kd s.Floor x = 3 then 0 else (spd s x - 1) * 3)
theorem cst_mv {d : Int} (h0 : 0 ≤ d) (h6 : d < 6) : 1 ≤ cst 20000 (1 + d) true ∧ cst 20000 (1 + d) true ≤ 21 := by
  have : d = 0 ∨ d = 1 ∨ d = 2 ∨ d = 3 ∨ d = 4 ∨ d = 5 := by omega
  rcases this with e | e | e | e | e | e <;> subst e <;> decide
theorem prS_bd {s : ApiSite} (hs : RS s) {d x : Int} (h0 : 0 ≤ d) (h6 : d < 6) (hx : isC s.Floor x = true) : 1 ≤ prS s d x ∧ prS s d x ≤ 400 := by
  have h1 := cst_mv h0 h6
  have h2 := spd_bd hs x
  unfold prS
  rw [if_neg (by rw [hx]; simp; omega)]
  split <;> omega
theorem S_reach_Stay {post : Int → Prop} (hp : post 3) : V_reach_Stay post := by
  unfold V_reach_Stay
  exact S_battery_Cost (by omega) (by omega) hp
theorem S_reach_Price {s : ApiSite} (ks : OkApiSite s) (hs : RS s) {d x : Int} {post : Int → Prop} (hp : post (prS s d x)) : V_reach_Price s d x post := by
  unfold V_reach_Price V_reach_isCell V_reach_isCharger
  refine Jn.mk (fun b => b = (decide (d < 0) || decide (d ≥ 6) || !isC s.Floor x)) (Ite.mk (fun h => by rw [h]; rfl) (fun h => Ite.mk (fun h2 => by rw [h, h2]; rfl) (fun h2 => Jn.mk' (Ite.mk (fun h3 => ?_) (fun h3 => ?_))))) (fun b hb => Ite.mk (fun h => ?_) (fun h => ?_))
  · rw [h, h2]
    have : isC s.Floor x = decide (x < (s.Floor.Kind.length : Int)) := by unfold isC; rw [decide_eq_true (show 0 ≤ x from of_decide_eq_true h3)]; rfl
    rw [this]; rfl
  · rw [h, h2]
    have : isC s.Floor x = false := by unfold isC; rw [decide_eq_false (show ¬ 0 ≤ x from of_decide_eq_false h3)]; rfl
    rw [this]; rfl
  · rw [h] at hb
    have hb' := hb.symm
    simp only [Bool.or_eq_true, decide_eq_true_eq, Bool.not_eq_true'] at hb'
    unfold prS at hp
    rw [if_pos (by rcases hb' with (h | h) | h; exact .inl h; exact .inr (.inl h); exact .inr (.inr h))] at hp; exact hp
  · rw [h] at hb
    have hb' := hb.symm
    simp only [Bool.or_eq_false_iff, decide_eq_false_iff_not, Bool.not_eq_false'] at hb'
    obtain ⟨⟨h1, h2⟩, h3⟩ := hb'
    have hsb := spd_bd hs x
    have hcb := cst_mv (d := d) (by omega) (by omega)
    unfold prS at hp
    rw [if_neg (by rw [h3]; simp; omega)] at hp
    rw [w64_eq (x := 1 + d) (by omega) (by omega)]
    refine S_battery_Cost (by omega) (by omega) ⟨_, idx_kd h3, Jn.mk' (Ite.mk (fun h4 => S_rules_Speed ks hs (S_reach_Stay ?_)) (fun h4 => ?_))⟩
    · rw [if_neg (by simpa using h4)] at hp
      rw [w64_eq (x := spd s x - 1) (by omega) (by omega), w64_eq (x := (spd s x - 1) * 3) (by omega) (by omega), w64_eq (by omega) (by omega)]
      exact hp
    · rw [if_pos (by simpa using h4), Int.add_zero] at hp
      exact hp
/-- the graph of a site -/
structure GrS (s : ApiSite) (L : List Int) (g : ReachGraph) : Prop where
  lo : g.out.length = s.Floor.Kind.length
  li : g.in_.length = s.Floor.Kind.length
  lh : g.home.length = s.Floor.Kind.length
  out : ∀ e, e < s.Floor.Kind.length → ∃ l, g.out[e]? = some l ∧ l.length ≤ 6 ∧ ∀ x, x ∈ l ↔ ∃ d : Nat, d < 6 ∧ nx s.Floor e d = (x.to_, true) ∧ x.to_ ∉ L ∧ x.price = prS s d x.to_
  inn : ∀ y, y < s.Floor.Kind.length → ∃ l, g.in_[y]? = some l ∧ l.length ≤ 6 * s.Floor.Kind.length ∧ (∀ a, a ∈ l → 0 ≤ a ∧ a < s.Floor.Kind.length) ∧ ∀ e d : Nat, e < s.Floor.Kind.length → d < 6 → nx s.Floor e d = ((y : Int), true) → (y : Int) ∉ L → (e : Int) ∈ l
  home : ∀ e : Nat, e < s.Floor.Kind.length → g.home[e]? = some (kd s.Floor e == 3)
theorem GrS.ok {s : ApiSite} {L : List Int} {g : ReachGraph} (hf : RF s.Floor) (hs : RS s) (h : GrS s L g) (hn : s.Floor.Kind.length ≤ 1000) : GOk s.Floor.Kind.length 400 g where
  n4 := hn
  p0 := by omega
  lo := h.lo
  li := h.li
  lh := h.lh
  to_ := fun c l x hl hx => by
    have hc : c < s.Floor.Kind.length := by rw [← h.lo]; exact (List.getElem?_eq_some_iff.1 hl).1
    obtain ⟨l', e1, _, e3⟩ := h.out c hc
    rw [hl] at e1; cases e1
    obtain ⟨d, d6, hnx, _, hp⟩ := (e3 x).1 hx
    have hok := nx_ok hf (c := (c : Int)) (d := (d : Int)) (by rw [hnx])
    rw [hnx] at hok
    have hb := prS_bd hs (d := (d : Int)) (x := x.to_) (by omega) (by omega) hok.2.1
    have := isC_iff.1 hok.2.1
    exact ⟨by omega, by omega, by omega⟩
  inn := fun y l c hl hc => by
    have hy : y < s.Floor.Kind.length := by rw [← h.li]; exact (List.getElem?_eq_some_iff.1 hl).1
    obtain ⟨l', e1, _, e3, _⟩ := h.inn y hy
    rw [hl] at e1; cases e1
    exact e3 c hc
  all := fun c l x hl hx m hm => by
    have hc : c < s.Floor.Kind.length := by rw [← h.lo]; exact (List.getElem?_eq_some_iff.1 hl).1
    obtain ⟨l', e1, _, e3⟩ := h.out c hc
    rw [hl] at e1; cases e1
    obtain ⟨d, d6, hnx, hL, hp⟩ := (e3 x).1 hx
    have hok := nx_ok hf (c := (c : Int)) (d := (d : Int)) (by rw [hnx])
    rw [hnx] at hok
    have ht := isC_iff.1 hok.2.1
    have e : ((x.to_.toNat : Nat) : Int) = x.to_ := by omega
    obtain ⟨m', e4, _, _, e5⟩ := h.inn x.to_.toNat (by omega)
    rw [hm] at e4; cases e4
    exact e5 c d hc d6 (by rw [e]; exact hnx) (by rw [e]; exact hL)
  lol := fun c l hl => by
    have hc : c < s.Floor.Kind.length := by rw [← h.lo]; exact (List.getElem?_eq_some_iff.1 hl).1
    obtain ⟨l', e1, e2, _⟩ := h.out c hc
    rw [hl] at e1; cases e1; exact e2
  lil := fun y l hl => by
    have hy : y < s.Floor.Kind.length := by rw [← h.li]; exact (List.getElem?_eq_some_iff.1 hl).1
    obtain ⟨l', e1, e2, _⟩ := h.inn y hy
    rw [hl] at e1; cases e1; omega
def prB (c d e d' : Nat) : Prop := e < c ∧ d' < 6 ∨ e = c ∧ d' < d
/-- the rows while they are written -/
structure GI (s : ApiSite) (L : List Int) (c d : Nat) (o : List (List ReachStep)) (i : List (List Int)) : Prop where
  lo : o.length = s.Floor.Kind.length
  li : i.length = s.Floor.Kind.length
  out : ∀ e, e < s.Floor.Kind.length → ∃ l, o[e]? = some l ∧ (l.length ≤ 6 ∧ (e = c → l.length ≤ d) ∧ (c < e → l = [])) ∧ ∀ x, x ∈ l ↔ ∃ d' : Nat, prB c d e d' ∧ nx s.Floor e d' = (x.to_, true) ∧ x.to_ ∉ L ∧ x.price = prS s d' x.to_
  inn : ∀ y, y < s.Floor.Kind.length → ∃ l, i[y]? = some l ∧ l.length ≤ 6 * c + d ∧ (∀ a, a ∈ l → 0 ≤ a ∧ a < s.Floor.Kind.length) ∧ ∀ e d' : Nat, prB c d e d' → nx s.Floor e d' = ((y : Int), true) → (y : Int) ∉ L → (e : Int) ∈ l
section
variable {s : ApiSite} {L : List Int} {c d : Nat} {o : List (List ReachStep)} {i : List (List Int)}
theorem prB_succ {e d' : Nat} : prB c (d + 1) e d' ↔ prB c d e d' ∨ (e = c ∧ d' = d) := by unfold prB; omega
theorem GI.skip (h : GI s L c d o i) (hd : d < 6) (hno : ∀ y, nx s.Floor c d = (y, true) → y ∈ L) : GI s L c (d + 1) o i := by
  refine ⟨h.lo, h.li, fun e he => ?_, fun y hy => ?_⟩
  · obtain ⟨l, e1, ⟨e2, e3, e4⟩, e5⟩ := h.out e he
    refine ⟨l, e1, ⟨e2, fun h => by have := e3 h; omega, e4⟩, fun x => ?_⟩
    rw [e5]
    constructor
    · rintro ⟨d', h1, h2⟩; exact ⟨d', prB_succ.2 (.inl h1), h2⟩
    · rintro ⟨d', h1, h2⟩
      rcases prB_succ.1 h1 with h1 | ⟨h3, h4⟩
      · exact ⟨d', h1, h2⟩
      · subst h3; subst h4; exact absurd (hno _ h2.1) h2.2.1
  · obtain ⟨l, e1, e2, e3, e4⟩ := h.inn y hy
    refine ⟨l, e1, by omega, e3, fun e d' h1 h2 h3 => ?_⟩
    rcases prB_succ.1 h1 with h1 | ⟨h5, h6⟩
    · exact e4 e d' h1 h2 h3
    · subst h5; subst h6; exact absurd (hno _ h2) h3
theorem GI.add (hf : RF s.Floor) (h : GI s L c d o i) (hc : c < s.Floor.Kind.length) (hd : d < 6) {y : Int} (hy : nx s.Floor c d = (y, true)) (hL : y ∉ L) {l : List ReachStep} {m : List Int} (hl : o[c]? = some l) (hm : i[y.toNat]? = some m) :
    GI s L c (d + 1) (o.set c (l ++ [{ to_ := y, price := prS s d y }])) (i.set y.toNat (m ++ [(c : Int)])) := by
  have hok := nx_ok hf (c := (c : Int)) (d := (d : Int)) (by rw [hy])
  rw [hy] at hok
  have ht := isC_iff.1 hok.2.1
  refine ⟨by rw [List.length_set]; exact h.lo, by rw [List.length_set]; exact h.li, fun e he => ?_, fun z hz => ?_⟩
  · obtain ⟨l', e1, ⟨e2, e3, e4⟩, e5⟩ := h.out e he
    by_cases ec : e = c
    · subst ec
      rw [hl] at e1; cases e1
      refine ⟨_, List.getElem?_set_self (by rw [h.lo]; exact hc), ⟨?_, fun _ => ?_, fun h => by omega⟩, fun x => ?_⟩
      · have := e3 rfl; simp; omega
      · have := e3 rfl; simp; omega
      · rw [List.mem_append, e5, List.mem_singleton]
        constructor
        · rintro (⟨d', h1, h2⟩ | h1)
          · exact ⟨d', prB_succ.2 (.inl h1), h2⟩
          · subst h1; exact ⟨d, prB_succ.2 (.inr ⟨rfl, rfl⟩), hy, hL, rfl⟩
        · rintro ⟨d', h1, h2, h3, h4⟩
          rcases prB_succ.1 h1 with h1 | ⟨_, h6⟩
          · exact .inl ⟨d', h1, h2, h3, h4⟩
          · subst h6
            rw [hy] at h2
            have h7 : y = x.to_ := by injection h2
            refine .inr ?_
            obtain ⟨a, b⟩ := x
            simp only at h7 h4
            subst h7; subst h4; rfl
    · refine ⟨l', by rw [List.getElem?_set_ne (Ne.symm ec)]; exact e1, ⟨e2, fun h => absurd h ec, e4⟩, fun x => ?_⟩
      rw [e5]
      constructor
      · rintro ⟨d', h1, h2⟩; exact ⟨d', prB_succ.2 (.inl h1), h2⟩
      · rintro ⟨d', h1, h2⟩
        rcases prB_succ.1 h1 with h1 | ⟨h3, _⟩
        · exact ⟨d', h1, h2⟩
        · exact absurd h3 ec
  · obtain ⟨m', e1, e2, e3, e4⟩ := h.inn z hz
    by_cases ez : z = y.toNat
    · subst ez
      rw [hm] at e1; cases e1
      refine ⟨_, List.getElem?_set_self (by rw [h.li]; exact hz), by simp; omega, fun a ha => ?_, fun e d' h1 h2 h3 => ?_⟩
      · rcases List.mem_append.1 ha with ha | ha
        · exact e3 a ha
        · simp at ha; subst ha; omega
      · rcases prB_succ.1 h1 with h1 | ⟨h5, h6⟩
        · exact List.mem_append_left _ (e4 e d' h1 h2 h3)
        · subst h5; simp
    · refine ⟨m', by rw [List.getElem?_set_ne (Ne.symm ez)]; exact e1, by omega, e3, fun e d' h1 h2 h3 => ?_⟩
      rcases prB_succ.1 h1 with h1 | ⟨h5, h6⟩
      · exact e4 e d' h1 h2 h3
      · subst h5; subst h6
        rw [hy] at h2
        have h7 : y = (z : Int) := by injection h2
        exact absurd (by omega) ez
theorem GI.next (h : GI s L c 6 o i) : GI s L (c + 1) 0 o i := by
  have hp : ∀ e d' : Nat, prB (c + 1) 0 e d' ↔ prB c 6 e d' := fun e d' => by unfold prB; omega
  refine ⟨h.lo, h.li, fun e he => ?_, fun y hy => ?_⟩
  · obtain ⟨l, e1, ⟨e2, e3, e4⟩, e5⟩ := h.out e he
    refine ⟨l, e1, ⟨e2, fun h => by rw [e4 (by omega)]; simp, fun h => e4 (by omega)⟩, fun x => ?_⟩
    rw [e5]
    exact ⟨fun ⟨d', h1, h2⟩ => ⟨d', (hp e d').2 h1, h2⟩, fun ⟨d', h1, h2⟩ => ⟨d', (hp e d').1 h1, h2⟩⟩
  · obtain ⟨l, e1, e2, e3, e4⟩ := h.inn y hy
    exact ⟨l, e1, by omega, e3, fun e d' h1 h2 h3 => e4 e d' ((hp e d').1 h1) h2 h3⟩
theorem S_reach_newGraph (ks : OkApiSite s) (hf : RF s.Floor) (hs : RS s) (hn : s.Floor.Kind.length ≤ 1000) (hL : L.length ≤ maxLen) {post : ReachGraph → Prop} (hp : ∀ g, GrS s L g → post g) : V_reach_newGraph s L post := by
  unfold V_reach_newGraph
  refine ⟨by omega, by omega, by omega, ?_⟩
  refine Jn.mk (fun t : List (List ReachStep) × List (List Int) × List Bool => GI s L s.Floor.Kind.length 0 t.1 t.2.1 ∧ t.2.2.length = s.Floor.Kind.length ∧ ∀ e : Nat, e < s.Floor.Kind.length → t.2.2[e]? = some (kd s.Floor e == 3))
    (V_upto s.Floor.Kind.length (fun t : List (List ReachStep) × List (List Int) × List Bool × Int => t.2.2.2) (fun c t => GI s L c 0 t.1 t.2.1 ∧ t.2.2.1.length = s.Floor.Kind.length ∧ ∀ e : Nat, e < c → t.2.2.1[e]? = some (kd s.Floor e == 3)) (by unfold maxLen; omega) rfl ⟨⟨by simp, by simp, fun e he => ⟨[], by simp [he], ⟨by simp, fun _ => by simp, fun _ => rfl⟩, fun x => ⟨fun h => (by cases h), fun ⟨d', h1, _⟩ => (by unfold prB at h1; omega)⟩⟩, fun y hy => ⟨[], by simp [hy], by simp, fun a ha => (by cases ha), fun e d' h1 => (by unfold prB at h1; omega)⟩⟩, by simp, fun e he => by omega⟩ (fun c t hc ht hI => ?_) (fun t hI => hI)) (fun t hI => hp _ ⟨hI.1.lo, hI.1.li, hI.2.1, fun e he => ?_, fun y hy => ?_, hI.2.2⟩)
  · obtain ⟨hG, hl, hh⟩ := hI
    have hcc : isC s.Floor (c : Int) = true := isC_iff.2 (by omega)
    have hhx := List.getElem?_eq_getElem (show c < t.2.2.1.length by omega)
    refine Jn.mk (fun u : List (List ReachStep) × List (List Int) × List Bool => GI s L (c + 1) 0 u.1 u.2.1 ∧ u.2.2.length = s.Floor.Kind.length ∧ ∀ e : Nat, e < c + 1 → u.2.2[e]? = some (kd s.Floor e == 3)) ?_ (fun u hu => ⟨by rw [ht], hu⟩)
    unfold V_reach_isCharger
    rw [ht]
    refine ⟨_, idx_kd hcc, _, idx_of rfl hhx, Jn.mk (fun u : List (List ReachStep) × List (List Int) => GI s L c 6 u.1 u.2) (V_upto 6 (fun t : List (List ReachStep) × List (List Int) × Int => t.2.2) (fun d t => GI s L c d t.1 t.2.1) (by unfold maxLen; omega) rfl hG (fun d u hd hu hI => ?_) (fun u hI => hI)) (fun u hu => ⟨hu.next, by show (t.2.2.1.set _ _).length = _; rw [List.length_set]; exact hl, fun e he => ?_⟩)⟩
    · rw [hu]
      refine S_floor_Next hf (Jn.mk (fun b => b = true ↔ (nx s.Floor c d).2 = true ∧ (nx s.Floor c d).1 ∉ L) (Ite.mk (fun h1 => S_slices_Contains hL ?_) (fun h1 => ?_)) (fun b hb => ?_))
      · have h1' : (nx s.Floor c d).2 = true := h1
        simp [h1']
      · have h1' : (nx s.Floor c d).2 = false := h1
        simp [h1']
      · refine Jn.mk (fun u : List (List ReachStep) × List (List Int) => GI s L c (d + 1) u.1 u.2) (Ite.mk (fun h1 => ?_) (fun h1 => ?_)) (fun u hu2 => ⟨rfl, hu2⟩)
        · obtain ⟨g1, g2⟩ := hb.1 h1
          generalize hy : (nx s.Floor c d).1 = y at g2
          have hnx : nx s.Floor c d = (y, true) := by rw [← hy, ← g1]
          have hok := nx_ok hf (c := (c : Int)) (d := (d : Int)) g1
          rw [hy] at hok
          have hty := isC_iff.1 hok.2.1
          obtain ⟨l, e1, ⟨e2, _⟩, _⟩ := hI.out c hc
          obtain ⟨m, e5, e6, _⟩ := hI.inn y.toNat (by omega)
          refine ⟨l, idx_of rfl e1, S_reach_Price ks hs ⟨by simp; omega, m, idx_of (n := y.toNat) (by omega) e5, by simp; omega, ?_⟩⟩
          have := hI.add hf hc hd hnx g2 e1 e5
          show GI s L c (d + 1) (u.1.set (Int.toNat (c : Int)) _) (u.2.1.set (Int.toNat y) _)
          simpa using this
        · refine hI.skip hd (fun y hy => Classical.byContradiction fun hno => ?_)
          have : b = true := hb.2 (by rw [hy]; exact ⟨rfl, hno⟩)
          rw [this] at h1; cases h1
    · have hn : Int.toNat (c : Int) = c := by simp
      show (t.2.2.1.set (Int.toNat (c : Int)) _)[e]? = _
      rw [hn]
      by_cases ee : e = c
      · subst ee
        rw [List.getElem?_set_self (by omega)]
      · rw [List.getElem?_set_ne (Ne.symm ee)]; exact hh e (by omega)
  · obtain ⟨l, e1, ⟨e2, _⟩, e5⟩ := hI.1.out e he
    refine ⟨l, e1, e2, fun x => ?_⟩
    rw [e5]
    exact ⟨fun ⟨d', h1, h2⟩ => ⟨d', by unfold prB at h1; omega, h2⟩, fun ⟨d', h1, h2⟩ => ⟨d', by unfold prB; omega, h2⟩⟩
  · obtain ⟨l, e1, e2, e3, e4⟩ := hI.1.inn y hy
    exact ⟨l, e1, by omega, e3, fun e d' h1 h2 h3 => e4 e d' (by unfold prB; omega) h3⟩
end
end Go.Taq

/- The mathematics, part GD: the fuel of a site's cells is right (chapter 33). -/
set_option linter.unusedVariables false
set_option linter.unusedSimpArgs false
namespace Go.Taq
open Go

theorem sum_le {α : Type} (w : α → Nat) {K : Nat} : ∀ {l : List α}, (∀ x, x ∈ l → w x ≤ K) → (l.map w).sum ≤ l.length * K
  | [], _ => by simp
  | a :: l, h => by
    have h1 := h a (by simp)
    have h2 := sum_le w (l := l) (fun x hx => h x (by simp [hx]))
    rw [List.map_cons, List.sum_cons, List.length_cons, Nat.add_mul]; omega
section
variable {g : ReachGraph} {n : Nat} {P K b : Int} {may : Nat → Prop} {f0 f q : List Int}
theorem WF_le (hg : GOk n P g) (hK : 0 ≤ K ∧ K ≤ 20000000) (hl : f.length = n) (ht : ∀ c, c < n → fu f c ≤ K + P * n) : 2 * WF (K + P * n).toNat f + n ≤ 100000000000 := by
  have hb := top_bd hg hK
  have h1 : WF (K + P * n).toNat f ≤ f.length * ((K + P * n).toNat + 1) := sum_le _ (fun x hx => by
    obtain ⟨i, hi⟩ := List.getElem?_of_mem hx
    have hil := (List.getElem?_eq_some_iff.1 hi).1
    have := ht i (by omega)
    rw [fu_get hil] at hi
    have e := Option.some.inj hi
    rw [e] at this
    unfold wtF; split <;> omega)
  have h2 := hg.n4
  have h3 : f.length * ((K + P * n).toNat + 1) ≤ 1000 * 30000001 := Nat.mul_le_mul (by omega) (by omega)
  omega
theorem SInv.least (hg : GOk n P g) (h : SInv g b n P K may f0 f []) (hk : ∀ c, c < n → ¬ may c → g.home[c]? = some false → ∀ m, Wg g b c m → 0 ≤ fu f0 c ∧ fu f0 c ≤ m) : FOk g b n f where
  len := h.len
  lo := h.lo
  sound := h.sound
  least := fun c hc m hm => by
    induction hm with
    | home hh => rw [h.home _ hc hh]; omega
    | step hh hl hx hb hm ih =>
      rename_i c l x m
      obtain ⟨⟨t0, t1⟩, p1, p2⟩ := hg.to_ c l x hl hx
      have h1 := ih (by omega)
      by_cases hmay : may c
      · have h2 := h.relax c l x hmay hh hl hx hb h1.1 (by simp)
        omega
      · rw [h.keep c hc hmay]
        exact hk c hc hmay hh _ (.step hh hl hx hb hm)
theorem S_graph_fuel (hg : GOk n P g) {post : List Int → Prop} (hp : ∀ f, FOk g (-1) n f → (∀ c, c < n → fu f c ≤ P * n) → post f) : V_reach_graph_fuel g post := by
  have hlh := hg.lh
  have hn4 := hg.n4
  have hp0 := hg.p0
  unfold V_reach_graph_fuel
  refine ⟨by omega, ?_⟩
  have e0 : (List.replicate (Int.toNat (g.home.length : Int)) (0 : Int)).length = n := by simp [hlh]
  refine Jn.mk (fun t : List Int × List Int => t.1.length = n ∧ (∀ c, c < n → ∃ h, g.home[c]? = some h ∧ fu t.1 c = (if h = true then 0 else -1) ∧ (h = true → (c : Int) ∈ t.2)) ∧ (∀ x, x ∈ t.2 → 0 ≤ x ∧ x < n) ∧ t.2.length ≤ n)
    (V_loopc (xs := g.home) (by unfold maxLen; omega) (fun t : List Int × List Int × Int => t.2.2) (fun i t => t.1.length = n ∧ (∀ c, c < i → ∃ h, g.home[c]? = some h ∧ fu t.1 c = (if h = true then 0 else -1) ∧ (h = true → (c : Int) ∈ t.2.1)) ∧ (∀ x, x ∈ t.2.1 → 0 ≤ x ∧ x < n) ∧ t.2.1.length ≤ i) rfl ⟨e0, fun c hc => (by omega), fun x hx => (by cases hx), by simp⟩ (fun i h t hx ht hI => ?_) (fun t hI => by rw [hlh] at hI; exact hI)) (fun t ht => ?_)
  · obtain ⟨i1, i2, i3, i4⟩ := hI
    have hi := (List.getElem?_eq_some_iff.1 hx).1
    have hin : i < n := by omega
    rw [ht]
    have hn : Int.toNat (i : Int) = i := by simp
    refine ⟨_, fu_idx (by omega), Jn.mk (fun u : List Int × List Int => u.1.length = n ∧ (∀ c, c < i + 1 → ∃ h, g.home[c]? = some h ∧ fu u.1 c = (if h = true then 0 else -1) ∧ (h = true → (c : Int) ∈ u.2)) ∧ (∀ x, x ∈ u.2 → 0 ≤ x ∧ x < n) ∧ u.2.length ≤ i + 1) (Ite.mk (fun hh => ⟨by simp; omega, ?_⟩) (fun hh => ?_)) (fun u hu => ⟨rfl, hu⟩)⟩
    · rw [hn, List.set_set]
      have hset : ∀ d, fu (t.1.set i 0) d = if d = i then 0 else fu t.1 d := fun d => fu_set (by omega)
      refine ⟨by rw [List.length_set]; exact i1, fun c hc => ?_, fun x hx => ?_, by simp; omega⟩
      · by_cases e : c = i
        · subst e
          exact ⟨h, hx, by show fu (t.1.set c 0) c = _; rw [hset, if_pos rfl, if_pos hh], fun _ => by simp⟩
        · obtain ⟨h', a1, a2, a3⟩ := i2 c (by omega)
          exact ⟨h', a1, by show fu (t.1.set i 0) c = _; rw [hset, if_neg e]; exact a2, fun hb => List.mem_append_left _ (a3 hb)⟩
      · rcases List.mem_append.1 hx with hx | hx
        · exact i3 x hx
        · simp at hx; subst hx; omega
    · rw [hn]
      have hset : ∀ d, fu (t.1.set i (-1)) d = if d = i then -1 else fu t.1 d := fun d => fu_set (by omega)
      refine ⟨by rw [List.length_set]; exact i1, fun c hc => ?_, i3, by show t.2.1.length ≤ _; omega⟩
      by_cases e : c = i
      · subst e
        exact ⟨h, hx, by show fu (t.1.set c (-1)) c = _; rw [hset, if_pos rfl, if_neg (by rw [hh]; simp)], fun hb => by rw [hh] at hb; cases hb⟩
      · obtain ⟨h', a1, a2, a3⟩ := i2 c (by omega)
        exact ⟨h', a1, by show fu (t.1.set i (-1)) c = _; rw [hset, if_neg e]; exact a2, a3⟩
  · obtain ⟨t1, t2, t3, t4⟩ := ht
    have hnnP : 0 ≤ P * (nn t.1 : Int) := Int.mul_nonneg (by omega) (by omega)
    have hS : SInv g (-1) n P 0 (fun _ => True) t.1 t.1 t.2 := by
      refine ⟨t1, fun c hc => ?_, fun c hc => ?_, fun c hc h0 => ?_, fun c hc hh => ?_, fun c l x _ hh hl hx hxb hx0 hxq => ?_, t3, fun c hc h => absurd trivial h⟩
      · obtain ⟨h, a1, a2, _⟩ := t2 c hc
        rw [a2]; split <;> omega
      · obtain ⟨h, a1, a2, _⟩ := t2 c hc
        rw [a2]; split <;> omega
      · obtain ⟨h, a1, a2, _⟩ := t2 c hc
        rw [a2] at h0 ⊢
        by_cases hb : h = true
        · rw [if_pos hb]; rw [hb] at a1; exact .home a1
        · rw [if_neg hb] at h0; omega
      · obtain ⟨h, a1, a2, _⟩ := t2 c hc
        rw [hh] at a1
        have := Option.some.inj a1
        rw [a2, ← this, if_pos rfl]
      · exfalso
        obtain ⟨⟨s0, s1⟩, _⟩ := hg.to_ c l x hl hx
        obtain ⟨h, a1, a2, a3⟩ := t2 x.to_.toNat (by omega)
        rw [a2] at hx0
        by_cases hb : h = true
        · have := a3 hb
          rw [show ((x.to_.toNat : Nat) : Int) = x.to_ by omega] at this
          exact hxq this
        · rw [if_neg hb] at hx0; omega
    have hwf := WF_le (K := 0) hg (by omega) t1 (fun c hc => hS.top hg hc)
    unfold V_reach_graph_settle__o0_o1_reach_graph_fuel_1
    haveI : DecidablePred (fun _ : Nat => True) := fun _ => .isTrue trivial
    refine S_settle (may := fun _ => True) (f0 := t.1) (K := 0) hg (by omega) (M := V_reach_graph_fuel_1) (fun c q hc hq => ?_) hS (by omega) (fun f' hf' => hp f' (hf'.least hg (fun c hc h => absurd trivial h)) (fun c hc => by have := hf'.top hg hc; omega))
    unfold V_reach_graph_fuel_1
    simpa using hq
end
/-! ## walks on the site -/
/-- walks to a charger on the floor: nobody enters the cells of a list -/
inductive WL (s : ApiSite) (L : List Int) : Nat → Nat → Prop where
  | home {c : Nat} (hc : c < s.Floor.Kind.length) (h : kd s.Floor c = 3) : WL s L c 0
  | step {c d y m : Nat} (hc : c < s.Floor.Kind.length) (h : kd s.Floor c ≠ 3) (hd : d < 6) (hn : nx s.Floor c d = ((y : Int), true)) (hL : (y : Int) ∉ L) (hm : WL s L y m) : WL s L c (m + (prS s d y).toNat)
theorem WL.congr {s : ApiSite} {L L' : List Int} (h : ∀ y : Nat, (y : Int) ∈ L' → (y : Int) ∈ L) {c m : Nat} (hw : WL s L c m) : WL s L' c m := by
  induction hw with
  | home hc hh => exact .home hc hh
  | step hc hh hd hn hL hm ih => exact .step hc hh hd hn (fun hm => hL (h _ hm)) ih
theorem WL.lt {s : ApiSite} {L : List Int} {c m : Nat} (h : WL s L c m) : c < s.Floor.Kind.length := by
  cases h with
  | home h => exact h
  | step h => exact h
theorem wg_wl {s : ApiSite} {L : List Int} {g : ReachGraph} {b : Int} (hf : RF s.Floor) (h : GrS s L g) {c m : Nat} : Wg g b c m ↔ WL s (b :: L) c m := by
  constructor
  · intro hw
    induction hw with
    | home hh =>
      rename_i c
      have hc : c < s.Floor.Kind.length := by rw [← h.lh]; exact (List.getElem?_eq_some_iff.1 hh).1
      rw [h.home c hc] at hh
      exact .home hc (by simpa using Option.some.inj hh)
    | step hh hl hx hb hm ih =>
      rename_i c l x m
      have hc : c < s.Floor.Kind.length := by rw [← h.lh]; exact (List.getElem?_eq_some_iff.1 hh).1
      rw [h.home c hc] at hh
      obtain ⟨l', e1, _, e3⟩ := h.out c hc
      rw [hl] at e1; cases e1
      obtain ⟨d, d6, hnx, hL, hp⟩ := (e3 x).1 hx
      have hok := nx_ok hf (c := (c : Int)) (d := (d : Int)) (by rw [hnx])
      rw [hnx] at hok
      have ht := isC_iff.1 hok.2.1
      have e : ((x.to_.toNat : Nat) : Int) = x.to_ := by omega
      rw [hp]
      have := WL.step (s := s) (L := b :: L) hc (by simpa using Option.some.inj hh) d6 (by rw [e]; exact hnx) (by rw [e]; simp; exact ⟨hb, hL⟩) ih
      rw [e] at this; exact this
  · intro hw
    induction hw with
    | home hc hh => exact .home (by rw [h.home _ hc, hh]; rfl)
    | step hc hh hd hn hL hm ih =>
      rename_i c d y m
      obtain ⟨l, e1, _, e3⟩ := h.out c hc
      have hx := (e3 { to_ := (y : Int), price := prS s d y }).2 ⟨d, hd, hn, fun hm => hL (List.mem_cons_of_mem _ hm), rfl⟩
      have e : ((y : Int)).toNat = y := by simp
      exact Wg.step (x := { to_ := (y : Int), price := prS s d y }) (by rw [h.home _ hc]; simp [hh]) e1 hx (fun e => hL (by rw [← e]; exact List.mem_cons_self ..)) (by show Wg g b ((y : Int)).toNat m; rw [e]; exact ih)
/-- the table of the least fuels on the site -/
structure FuL (s : ApiSite) (L : List Int) (f : List Int) : Prop where
  len : f.length = s.Floor.Kind.length
  lo : ∀ c, c < s.Floor.Kind.length → -1 ≤ fu f c
  sound : ∀ c, c < s.Floor.Kind.length → 0 ≤ fu f c → WL s L c (fu f c).toNat
  least : ∀ c m, WL s L c m → 0 ≤ fu f c ∧ fu f c ≤ m
theorem FuL.of {s : ApiSite} {L L' : List Int} {g : ReachGraph} {b : Int} {f : List Int} (hf : RF s.Floor) (h : GrS s L g) (hF : FOk g b s.Floor.Kind.length f) (hL : ∀ y : Nat, (y : Int) ∈ b :: L ↔ (y : Int) ∈ L') : FuL s L' f where
  len := hF.len
  lo := hF.lo
  sound := fun c hc h0 => ((wg_wl hf h).1 (hF.sound c hc h0)).congr (fun y hy => (hL y).2 hy)
  least := fun c m hm => hF.least c hm.lt m ((wg_wl hf h).2 (hm.congr (fun y hy => (hL y).1 hy)))
theorem FuL.uniq {s : ApiSite} {L L' f f' : List Int} (h : FuL s L f) (h' : FuL s L' f') (hL : ∀ y : Nat, (y : Int) ∈ L ↔ (y : Int) ∈ L') : f = f' := by
  refine List.ext_getElem? fun i => ?_
  by_cases hi : i < s.Floor.Kind.length
  · rw [fu_get (by rw [h.len]; exact hi), fu_get (by rw [h'.len]; exact hi)]
    have l1 := h.lo i hi; have l2 := h'.lo i hi
    by_cases h0 : 0 ≤ fu f i
    · have g1 := h'.least i _ ((h.sound i hi h0).congr (fun y hy => (hL y).2 hy))
      have g2 := h.least i _ ((h'.sound i hi g1.1).congr (fun y hy => (hL y).1 hy))
      congr 1; omega
    · by_cases h1 : 0 ≤ fu f' i
      · have g2 := h.least i _ ((h'.sound i hi h1).congr (fun y hy => (hL y).1 hy))
        omega
      · congr 1; omega
  · rw [List.getElem?_eq_none (by rw [h.len]; omega), List.getElem?_eq_none (by rw [h'.len]; omega)]
theorem S_reach_Fuel {s : ApiSite} {L : List Int} (ks : OkApiSite s) (hf : RF s.Floor) (hs : RS s) (hn : s.Floor.Kind.length ≤ 1000) (hL : L.length ≤ maxLen) {post : List Int → Prop} (hp : ∀ f, FuL s L f → post f) : V_reach_Fuel s L post := by
  unfold V_reach_Fuel
  exact S_reach_newGraph ks hf hs hn hL (fun g hg => S_graph_fuel (hg.ok hf hs hn) (fun f hF _ => hp f (.of hf hg hF (fun y => by simp))))
end Go.Taq

/- The mathematics, part GE: the cells whose best ways lead over a cell, and their fuel without it (chapter 33). -/
set_option linter.unusedVariables false
set_option linter.unusedSimpArgs false
namespace Go.Taq
open Go

theorem nodup_inj {α : Type} {l : List α} (h : l.Nodup) {i j : Nat} {a : α} (hi : l[i]? = some a) (hj : l[j]? = some a) : i = j := by
  obtain ⟨h1, e1⟩ := List.getElem?_eq_some_iff.1 hi
  obtain ⟨h2, e2⟩ := List.getElem?_eq_some_iff.1 hj
  have hp := List.pairwise_iff_getElem.1 h
  rcases Nat.lt_trichotomy i j with hlt | he | hlt
  · exact absurd (e1.trans e2.symm) (hp i j h1 h2 hlt)
  · exact he
  · exact absurd (e2.trans e1.symm) (hp j i h2 h1 hlt)
/-- a best move of a cell leads to another one -/
def Par (g : ReachGraph) (f : List Int) (c y : Nat) : Prop := g.home[c]? = some false ∧ 0 ≤ fu f c ∧ 0 ≤ fu f y ∧ ∃ l x, g.out[c]? = some l ∧ x ∈ l ∧ x.to_ = (y : Int) ∧ fu f c = fu f y + x.price
/-- the tree of best moves, of the first cells -/
structure ChOk (g : ReachGraph) (n : Nat) (f : List Int) (i : Nat) (ch : List (List Int)) : Prop where
  len : ch.length = n
  mem : ∀ (y : Nat) (l : List Int), ch[y]? = some l → l.Nodup ∧ ∀ a, a ∈ l → ∃ c : Nat, a = (c : Int) ∧ c < i ∧ Par g f c y
  uniq : ∀ (y y' : Nat) (l l' : List Int) (a : Int), ch[y]? = some l → ch[y']? = some l' → a ∈ l → a ∈ l' → y = y'
  all : ∀ c, c < i → g.home[c]? = some false → 0 ≤ fu f c → ∃ (y : Nat) (l : List Int), ch[y]? = some l ∧ (c : Int) ∈ l
/-- below a cell in the tree -/
inductive Und (ch : List (List Int)) (x : Nat) : Nat → Prop where
  | one {c : Nat} {l : List Int} (h : ch[x]? = some l) (hc : (c : Int) ∈ l) : Und ch x c
  | step {c y : Nat} {l : List Int} (hy : Und ch x y) (h : ch[y]? = some l) (hc : (c : Int) ∈ l) : Und ch x c
section
variable {g : ReachGraph} {n : Nat} {P : Int} {f : List Int} {ch : List (List Int)} {x : Nat}
theorem Par.lt (hg : GOk n P g) {c y : Nat} (h : Par g f c y) : fu f y < fu f c := by
  obtain ⟨_, _, _, l, z, hl, hz, _, he⟩ := h
  have := (hg.to_ c l z hl hz).2.1
  omega
theorem ChOk.par {i : Nat} (h : ChOk g n f i ch) {y c : Nat} {l : List Int} (hl : ch[y]? = some l) (hc : (c : Int) ∈ l) : c < i ∧ Par g f c y := by
  obtain ⟨c', e, h1, h2⟩ := (h.mem y l hl).2 _ hc
  have : c = c' := by omega
  subst this; exact ⟨h1, h2⟩
theorem und_lt (hg : GOk n P g) (h : ChOk g n f n ch) {c : Nat} (hu : Und ch x c) : fu f x < fu f c ∧ c < n ∧ g.home[c]? = some false ∧ 0 ≤ fu f x := by
  induction hu with
  | one hl hc => have := h.par hl hc; exact ⟨this.2.lt hg, this.1, this.2.1, this.2.2.2.1⟩
  | step hy hl hc ih => have := h.par hl hc; have h2 := this.2.lt hg; exact ⟨by omega, this.1, this.2.1, ih.2.2.2⟩
theorem ChOk.row {i : Nat} (h : ChOk g n f i ch) {y : Nat} (hy : y < n) : ∃ l, ch[y]? = some l := ⟨_, List.getElem?_eq_getElem (by rw [h.len]; exact hy)⟩
theorem ChOk.rlen (h : ChOk g n f n ch) {y : Nat} {l : List Int} (hl : ch[y]? = some l) : l.length ≤ n := nodup_len n l (h.mem y l hl).1 (fun a ha => by
  obtain ⟨c, e, h1, _⟩ := (h.mem y l hl).2 a ha
  omega)
structure Blw (ch : List (List Int)) (x n : Nat) (bl : List Int) : Prop where
  nd : bl.Nodup
  mem : ∀ c : Nat, (c : Int) ∈ bl ↔ Und ch x c
  rng : ∀ a, a ∈ bl → 0 ≤ a ∧ a < n
theorem below_loop (hg : GOk n P g) (h : ChOk g n f n ch) {row : List Int} (hx : ch[x]? = some row) {K : List Int → Prop} (hK : ∀ bl, Blw ch x n bl → K bl) :
    Jn (fun (J10 : (List Int) → Prop) => Loop (fun (s11 : List Int × Int) Y12 => Ite (decide (s11.2 < (s11.1.length : Int))) (∃ x18, idx s11.1 s11.2 = some x18 ∧ ∃ x19, idx ch x18 = some x19 ∧ (s11.1.length + x19.length ≤ 1099511627776) ∧ Y12 ((s11.1 ++ x19), w64 (s11.2 + 1))) (J10 s11.1)) (row, 0)) (fun (x9 : List Int) => K x9) := by
  have hn4 := hg.n4
  have hrow := h.mem x row hx
  refine Jn.mk (fun bl => Blw ch x n bl) (Loop.mk (fun t : List Int × Int => ∃ i : Nat, t.2 = (i : Int) ∧ i ≤ t.1.length ∧ t.1.Nodup ∧ (∀ a, a ∈ t.1 → 0 ≤ a ∧ a < n) ∧ (∀ c : Nat, (c : Int) ∈ t.1 → Und ch x c) ∧ (∀ a, a ∈ row → a ∈ t.1) ∧ (∀ (j y : Nat) (l : List Int), j < i → t.1[j]? = some (y : Int) → ch[y]? = some l → ∀ a, a ∈ l → a ∈ t.1) ∧
      (∀ a, a ∈ t.1 → a ∈ row ∨ ∃ (j y : Nat) (l : List Int), j < i ∧ t.1[j]? = some (y : Int) ∧ ch[y]? = some l ∧ a ∈ l)) (fun t => n - t.2.toNat) ⟨0, rfl, by omega, hrow.1, fun a ha => ?_, fun c hc => .one hx hc, fun a ha => ha, fun j y l hj => by omega, fun a ha => .inl ha⟩ ?_) (fun bl hbl => hK bl hbl)
  · obtain ⟨c, e, h1, _⟩ := hrow.2 a ha; omega
  · rintro ⟨bl, ii⟩ ⟨i, e, hi, hnd, hrg, hund, hrw, hcl, hsrc⟩
    simp only at e hi hnd hrg hund hrw hcl hsrc
    subst e
    have hbn := nodup_len n bl hnd hrg
    refine Ite.mk (fun hlt => ?_) (fun hlt => ?_)
    · have hlt' : i < bl.length := by have := of_decide_eq_true hlt; simp at this; exact this
      have ha := List.getElem?_eq_getElem hlt'
      generalize bl[i] = a at ha
      have ham := List.mem_of_getElem? ha
      have har := hrg a ham
      obtain ⟨y, hy⟩ := Int.eq_ofNat_of_zero_le har.1
      subst hy
      obtain ⟨l, hl⟩ := h.row (show y < n by omega)
      have hll := h.rlen hl
      have hlm := h.mem y l hl
      have huy := hund y ham
      have hyx := (und_lt hg h huy).1
      have hdis : ∀ a, a ∈ bl → a ∈ l → False := fun a hab hal => by
        rcases hsrc a hab with hr | ⟨j, z, l', hj, hz, hl', hal'⟩
        · have := h.uniq x y row l a hx hl hr hal
          subst this; omega
        · have := h.uniq z y l' l a hl' hl hal' hal
          subst this
          have hjn : j = i := nodup_inj hnd hz ha
          omega
      refine ⟨(y : Int), idx_of rfl ha, l, idx_of rfl hl, by show bl.length + l.length ≤ _; omega, ⟨i + 1, by show w64 _ = _; rw [w64_eq (by omega) (by omega)]; simp, by show i + 1 ≤ (bl ++ l).length; rw [List.length_append]; omega, ?_, fun a ha => ?_, fun c hc => ?_, fun a ha => List.mem_append_left _ (hrw a ha), fun j z l' hj hz hl' a ha' => ?_, fun a ha' => ?_⟩, ?_⟩
      · show (bl ++ l).Nodup
        exact List.nodup_append.2 ⟨hnd, hlm.1, fun a ha b hb e => hdis a ha (e ▸ hb)⟩
      · rcases List.mem_append.1 ha with ha | ha
        · exact hrg a ha
        · obtain ⟨c, e, h1, _⟩ := hlm.2 a ha; omega
      · rcases List.mem_append.1 hc with hc | hc
        · exact hund c hc
        · exact .step huy hl hc
      · have hjl : j < bl.length := by omega
        have hz' : (bl ++ l)[j]? = some (z : Int) := hz
        rw [List.getElem?_append_left hjl] at hz'
        by_cases ej : j = i
        · subst ej
          rw [ha] at hz'
          have : y = z := by have := Option.some.inj hz'; omega
          subst this
          rw [hl] at hl'; cases hl'
          exact List.mem_append_right _ ha'
        · exact List.mem_append_left _ (hcl j z l' (by omega) hz' hl' a ha')
      · rcases List.mem_append.1 ha' with ha' | ha'
        · rcases hsrc a ha' with hr | ⟨j, z, l', hj, hz, hl', hal'⟩
          · exact .inl hr
          · exact .inr ⟨j, z, l', by omega, by show (bl ++ l)[j]? = _; rw [List.getElem?_append_left (by omega)]; exact hz, hl', hal'⟩
        · exact .inr ⟨i, y, l, by omega, by show (bl ++ l)[i]? = _; rw [List.getElem?_append_left hlt']; exact ha, hl, ha'⟩
      · show n - (w64 ((i : Int) + 1)).toNat < n - ((i : Int)).toNat
        rw [w64_eq (by omega) (by omega)]; omega
    · have hlt' : ¬ i < bl.length := by have := of_decide_eq_false hlt; simp at this; omega
      have hie : i = bl.length := by omega
      refine ⟨hnd, fun c => ⟨hund c, fun hu => ?_⟩, hrg⟩
      show (c : Int) ∈ bl
      induction hu with
      | one hl hc => rw [hx] at hl; cases hl; exact hrw _ hc
      | step hy hl hc ih =>
        obtain ⟨j, hj⟩ := List.getElem?_of_mem ih
        exact hcl j _ _ (by have := (List.getElem?_eq_some_iff.1 hj).1; omega) hj hl _ hc
/-- the best walks of the others do not lead over the cell -/
theorem wg_other (hg : GOk n P g) (hF : FOk g (-1) n f) (h : ChOk g n f n ch) (hh : ∀ c, c < n → g.home[c]? = some true → fu f c = 0) : ∀ (k c : Nat), c < n → (fu f c).toNat = k → ¬ Und ch x c → 0 ≤ fu f c → Wg g x c (fu f c).toNat := by
  intro k
  induction k using Nat.strongRecOn with
  | _ k ih =>
    intro c hc hk hu h0
    have hho := List.getElem?_eq_getElem (show c < g.home.length by rw [hg.lh]; exact hc)
    cases hb : g.home[c]'(by rw [hg.lh]; exact hc) with
    | true =>
      rw [hb] at hho
      rw [hh c hc hho]; exact .home hho
    | false =>
      rw [hb] at hho
      obtain ⟨y, l, hl, hcl⟩ := h.all c hc hho h0
      obtain ⟨_, hpar⟩ := h.par hl hcl
      have hlt := hpar.lt hg
      obtain ⟨_, _, y0, m, z, hm, hz, hzt, he⟩ := hpar
      have hyn : y < n := by rw [← h.len]; exact (List.getElem?_eq_some_iff.1 hl).1
      have hyx : y ≠ x := fun e => by subst e; exact hu (.one hl hcl)
      have hyu : ¬ Und ch x y := fun h2 => hu (.step h2 hl hcl)
      have hw := ih (fu f y).toNat (by omega) y hyn rfl hyu y0
      have hp := (hg.to_ c m z hm hz).2
      have e1 : z.to_.toNat = y := by omega
      have := Wg.step (b := (x : Int)) hho hm hz (by omega) (by rw [e1]; exact hw)
      rw [show (fu f c).toNat = (fu f y).toNat + z.price.toNat by omega]
      exact this
theorem Wg.weak (hg : GOk n P g) {b : Int} {c m : Nat} (h : Wg g b c m) : Wg g (-1) c m := by
  induction h with
  | home h => exact .home h
  | step h hl hx hb hm ih => exact .step h hl hx (by have := (hg.to_ _ _ _ hl hx).1; omega) ih
end
end Go.Taq
