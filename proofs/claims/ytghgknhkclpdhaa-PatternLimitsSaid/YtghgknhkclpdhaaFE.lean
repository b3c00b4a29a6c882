/- The mathematics, several parts in one text. -/
import Derived.Test.YtghgknhkclpdhaaFA
/- The mathematics of the patterns, part FB: what is refused; Build, of the layer and of the reference. -/
set_option linter.unusedVariables false
set_option linter.unusedSimpArgs false
namespace Go.Taq
open Go
/-- the limits of the tables -/
def lim (n k : Nat) : Prop := n ≤ 24 ∧ ∀ j, j ≤ k → nL n (j + 1) ≤ 20000
/-- right tables -/
structure Db (f : ApiFloor) (r : List Int) (n K : Nat) (goal : Int) (ts : List (List Int)) : Prop where
  hr : r.length = n
  hK : K < n
  li : lim n K
  len : ts.length = K + 1
  tb : ∀ j, j ≤ K → TOk (nL n (j + 1)) (preT f r n (j + 1)) (srcT n (j + 1) goal) (ts.getD j [])
theorem Db.eq {f : ApiFloor} {r : List Int} {n K : Nat} {goal : Int} {ts us : List (List Int)} (h1 : Db f r n K goal ts) (h2 : Db f r n K goal us) : ts = us := by
  apply List.ext_getElem?
  intro j
  rcases Nat.lt_or_ge j (K + 1) with h | h
  · have e1 := (h1.tb j (by omega)).eq (h2.tb j (by omega))
    rw [List.getD_eq_getElem?_getD, List.getD_eq_getElem?_getD] at e1
    have a1 : ts[j]? = some (ts[j]'(by rw [h1.len]; omega)) := List.getElem?_eq_getElem _
    have a2 : us[j]? = some (us[j]'(by rw [h2.len]; omega)) := List.getElem?_eq_getElem _
    rw [a1, a2] at e1 ⊢
    simpa using e1
  · rw [List.getElem?_eq_none (by rw [h1.len]; omega), List.getElem?_eq_none (by rw [h2.len]; omega)]
theorem S_Refused {n : Nat} (hn : n ≤ 1000000) {k goal : Int} {post : Int → Prop} (hE3 : ¬ (0 ≤ goal ∧ goal < n ∧ 0 ≤ k ∧ k < n) → post 3) (hE27 : 0 ≤ goal ∧ goal < n ∧ 0 ≤ k ∧ k < n → ¬ lim n k.toNat → post 27) (hO : 0 ≤ goal ∧ goal < n ∧ 0 ≤ k ∧ k < n → lim n k.toNat → post 0) : V_taquinref27_Refused (n : Int) k goal post := by
  unfold V_taquinref27_Refused
  by_cases c : 0 ≤ goal ∧ goal < n ∧ 0 ≤ k ∧ k < n
  · obtain ⟨K, rfl⟩ : ∃ K : Nat, k = (K : Int) := ⟨k.toNat, by omega⟩
    have hE := hE27 c; have hO := hO c
    simp only [Int.toNat_natCast] at hE hO
    have hKn : K < n := by omega
    refine Jn.mk (fun b => b = false) (Ite.f (by simp; omega) (Ite.f (by simp; omega) (Ite.f (by simp) (by simp; omega)))) (fun b e => Ite.f e ?_)
    refine Jn.mk (fun _ => lim n K) (Loop.inv (K + 1) (fun i (s : Int) => s = (i : Int) ∧ (0 < i → n ≤ 24) ∧ ∀ j, j < i → nL n (j + 1) ≤ 20000) ⟨rfl, fun h => by omega, fun j h => by omega⟩ (fun i s hi hI => ?_) (fun s hI => ?_)) (fun _ h => hO h)
    · obtain ⟨rfl, hi24, hI⟩ := hI
      refine Ite.t (by simp; omega) ?_
      have w : w64 ((i : Int) + 1) = ((i + 1 : Nat) : Int) := by rw [w64_1 (by omega)]
      rw [w]
      by_cases c1 : n ≤ 24
      · refine Jn.mk (fun b => b = decide (20000 < nL n (i + 1))) (Ite.f (by simp; omega) (S_rCount (by omega) (by omega) c1 ?_)) (fun b e => Ite.mk (fun h => ?_) (fun h => ?_))
        · show decide (((nL n (i + 1) : Nat) : Int) > 20000) = _
          simp; omega
        · rw [e] at h
          have := of_decide_eq_true h
          exact hE (fun hl => by have := hl.2 i (by omega); omega)
        · rw [e] at h
          have := of_decide_eq_false h
          refine ⟨rfl, fun _ => c1, fun j hj => ?_⟩
          by_cases e2 : j = i
          · subst e2; omega
          · exact hI j (by omega)
      · refine Jn.mk (fun b => b = true) (Ite.t (by simp; omega) rfl) (fun b e => Ite.t e (hE (fun hl => c1 hl.1)))
    · obtain ⟨rfl, hi24, hI⟩ := hI
      exact Ite.f (by simp; omega) ⟨hi24 (by omega), fun j hj => hI j (by omega)⟩
  · refine Jn.mk (fun b => b = true) (Ite.mk (fun _ => rfl) (fun a1 => Ite.mk (fun _ => rfl) (fun a2 => Ite.mk (fun _ => rfl) (fun a3 => ?_)))) (fun b e => Ite.t e (hE3 c))
    have b1 := of_decide_eq_false a1; have b2 := of_decide_eq_false a2; have b3 := of_decide_eq_false a3
    exact decide_eq_true (by omega)
section
variable {f : ApiFloor} {r : List Int} {n : Nat} {k goal : Int} (hf : RF f) (hr : r.length = n) (hn : n ≤ 1000000) (ha : Asc r)
include hf hr hn ha
theorem S_Build {post : (Sum (Unit × Int) (PatternDB × Int)) → Prop} (hE3 : ¬ (0 ≤ goal ∧ goal < n ∧ 0 ≤ k ∧ k < n) → post (.inl ((), 3))) (hE27 : 0 ≤ goal ∧ goal < n ∧ 0 ≤ k ∧ k < n → ¬ lim n k.toNat → post (.inl ((), 27)))
    (hO : ∀ K : Nat, k = (K : Int) → 0 ≤ goal → goal < n → ∀ ts, Db f r n K goal ts → post (.inr ({ cells := (n : Int), goal := goal, tables := ts }, 0))) : V_pattern_Build f r k goal post := by
  unfold V_pattern_Build
  rw [hr]
  by_cases c : 0 ≤ goal ∧ goal < n ∧ 0 ≤ k ∧ k < n
  · obtain ⟨K, rfl⟩ : ∃ K : Nat, k = (K : Int) := ⟨k.toNat, by omega⟩
    have hE := hE27 c
    simp only [Int.toNat_natCast] at hE
    have hKn : K < n := by omega
    have wK : w64 ((K : Int) + 1) = ((K + 1 : Nat) : Int) := by rw [w64_1 (by omega)]
    rw [wK]
    refine Jn.mk (fun b => b = false) (Ite.f (by simp; omega) (Ite.f (by simp; omega) (Ite.f (by simp) (by simp; omega)))) (fun b e => Ite.f e ?_)
    refine Jn.mk (fun _ => lim n K) (Loop.inv (K + 1) (fun i (s : Int) => s = (i : Int) ∧ (0 < i → n ≤ 24) ∧ ∀ j, j < i → nL n (j + 1) ≤ 20000) ⟨rfl, fun h => by omega, fun j h => by omega⟩ (fun i s hi hI => ?_) (fun s hI => ?_)) (fun _ hl => ?_)
    · obtain ⟨rfl, hi24, hI⟩ := hI
      refine Ite.lt (by omega) ?_
      have w : w64 ((i : Int) + 1) = ((i + 1 : Nat) : Int) := by rw [w64_1 (by omega)]
      rw [w]
      by_cases c1 : n ≤ 24
      · refine Jn.mk (fun b => b = decide (20000 < nL n (i + 1))) (Ite.f (by simp; omega) (S_Count (by omega) (by omega) c1 ?_)) (fun b e => Ite.mk (fun h => ?_) (fun h => ?_))
        · show decide (((nL n (i + 1) : Nat) : Int) > 20000) = _
          simp; omega
        · rw [e] at h
          have := of_decide_eq_true h
          exact hE (fun hl => by have := hl.2 i (by omega); omega)
        · rw [e] at h
          have := of_decide_eq_false h
          refine ⟨rfl, fun _ => c1, fun j hj => ?_⟩
          by_cases e2 : j = i
          · subst e2; omega
          · exact hI j (by omega)
      · refine Jn.mk (fun b => b = true) (Ite.t (by simp; omega) rfl) (fun b e => Ite.t e (hE (fun hl => c1 hl.1)))
    · obtain ⟨rfl, hi24, hI⟩ := hI
      exact Ite.nlt (by omega) ⟨hi24 (by omega), fun j hj => hI j (by omega)⟩
    · refine Jn.mk (fun ts => Db f r n K goal ts) (Loop.inv (K + 1) (fun i (s : List (List Int) × Int) => s.2 = (i : Int) ∧ s.1.length = i ∧ ∀ j, j < i → TOk (nL n (j + 1)) (preT f r n (j + 1)) (srcT n (j + 1) goal) (s.1.getD j [])) ⟨rfl, rfl, fun j h => by omega⟩ (fun i s hi hI => ?_) (fun s hI => ?_)) (fun ts hts => hO K rfl c.1 c.2.1 ts hts)
      · obtain ⟨ts, q⟩ := s
        obtain ⟨rfl, hlen, hI⟩ := hI
        replace hlen : ts.length = i := hlen
        have w : w64 ((i : Int) + 1) = ((i + 1 : Nat) : Int) := by rw [w64_1 (by omega)]
        simp only [w]
        refine Ite.lt (by show (i : Int) < _; omega) (S_ptable (by omega) (by omega) hl.1 (hl.2 i (by omega)) hf hr ha (fun t ht => ⟨by show ts.length + 1 ≤ _; omega, trivial, ?_, fun j hj => ?_⟩))
        · show ((ts ++ [t]).set ts.length t).length = i + 1
          simp; omega
        · have hs : (ts ++ [t]).set ts.length t = ts ++ [t] := by
            apply List.ext_getElem?
            intro q
            rw [List.getElem?_set]
            split
            · rename_i h; subst h; simp
            · rfl
          show TOk _ _ _ (((ts ++ [t]).set ts.length t).getD j [])
          rw [hs, List.getD_eq_getElem?_getD]
          by_cases e2 : j = i
          · subst e2
            rw [List.getElem?_append_right (by omega), hlen]; simpa using ht
          · rw [List.getElem?_append_left (by omega), ← List.getD_eq_getElem?_getD]; exact hI j (by omega)
      · obtain ⟨ts, q⟩ := s
        obtain ⟨rfl, hlen, hI⟩ := hI
        exact Ite.nlt (by show ¬ ((K + 1 : Nat) : Int) < _; omega) ⟨hr, hKn, hl, hlen, fun j hj => hI j (by omega)⟩
  · refine Jn.mk (fun b => b = true) (Ite.mk (fun _ => rfl) (fun a1 => Ite.mk (fun _ => rfl) (fun a2 => Ite.mk (fun _ => rfl) (fun a3 => ?_)))) (fun b e => Ite.t e (hE3 c))
    have b1 := of_decide_eq_false a1; have b2 := of_decide_eq_false a2; have b3 := of_decide_eq_false a3
    exact decide_eq_true (by omega)
end
end Go.Taq

/- The mathematics of the patterns, part FC: layouts within layouts; the list of the choices. -/
set_option linter.unusedVariables false
set_option linter.unusedSimpArgs false
namespace Go.Taq
open Go
/-- a layout some of whose shelves, but the target, are away -/
structure Subl (a b : ApiLayout) : Prop where
  tg : a.Target = b.Target
  len : a.Full.length = b.Full.length
  sub : ∀ i : Nat, a.Full[i]? = some true → b.Full[i]? = some true
theorem Subl.refl (a : ApiLayout) : Subl a a := ⟨rfl, rfl, fun _ h => h⟩
theorem Subl.trans {a b c : ApiLayout} (h : Subl a b) (k : Subl b c) : Subl a c := ⟨h.tg.trans k.tg, h.len.trans k.len, fun i hi => k.sub i (h.sub i hi)⟩
theorem bool_get {xs : List Bool} {i : Nat} (h : i < xs.length) : xs[i]? = some true ∨ xs[i]? = some false := by
  rw [List.getElem?_eq_getElem h]
  cases xs[i] <;> simp
section
variable {f : ApiFloor} {r : List Int} {n ka : Nat} {a b : ApiLayout}
/-- a shift of the greater one is a shift of the lesser one, or leaves it as it is -/
theorem Subl.step (h : Subl a b) (ha : LOk n ka a) {s : ApiShift} (hs : s ∈ btw f r b true) : ∃ a', LOk n ka a' ∧ Subl a' (doS b s) ∧ (a' = a ∨ ∃ q, q ∈ btw f r a true ∧ a' = doS a q) := by
  obtain ⟨x, y, rfl, hx, hy, hg⟩ := back_ok hs
  have hy' : b.Full[y]? = some false := by simpa using hy
  have hxl : x < b.Full.length := (List.getElem?_eq_some_iff.1 hx).1
  have hyl : y < b.Full.length := (List.getElem?_eq_some_iff.1 hy).1
  have hxy : x ≠ y := by rintro rfl; rw [hx] at hy'; cases hy'
  have hya : a.Full[y]? = some false := by
    rcases bool_get (xs := a.Full) (i := y) (by rw [h.len]; exact hyl) with e | e
    · have := h.sub y e; rw [hy'] at this; cases this
    · exact e
  rcases bool_get (xs := a.Full) (i := x) (by rw [h.len]; exact hxl) with e | e
  · have hq : ({ From := (x : Int), To := (y : Int) } : ApiShift) ∈ btw f r a true := btw_intro (full := true) e (by simpa using hya) hg
    refine ⟨doS a { From := (x : Int), To := (y : Int) }, ha.doS hq, ⟨?_, ?_, fun i hi => ?_⟩, .inr ⟨_, hq, rfl⟩⟩
    · show (if a.Target = (x : Int) then (y : Int) else a.Target) = if b.Target = (x : Int) then (y : Int) else b.Target
      rw [h.tg]
    · show ((a.Full.set x false).set y true).length = ((b.Full.set x false).set y true).length
      simp [h.len]
    · have hi' : ((a.Full.set x false).set y true)[i]? = some true := hi
      show ((b.Full.set x false).set y true)[i]? = some true
      rw [set2_get] at hi' ⊢
      by_cases e1 : y = i ∧ y < b.Full.length
      · rw [if_pos e1]
      · rw [if_neg (by rw [h.len]; exact e1)] at hi'
        rw [if_neg e1]
        by_cases e2 : x = i ∧ x < b.Full.length
        · rw [if_pos (by rw [h.len]; exact e2)] at hi'; cases hi'
        · rw [if_neg (by rw [h.len]; exact e2)] at hi'
          rw [if_neg e2]; exact h.sub i hi'
  · have hT : a.Target ≠ (x : Int) := fun e2 => by
      have := ha.get
      rw [e2] at this
      simp only [Int.toNat_natCast] at this
      rw [e] at this; cases this
    refine ⟨a, ha, ⟨?_, ?_, fun i hi => ?_⟩, .inl rfl⟩
    · show a.Target = if b.Target = (x : Int) then (y : Int) else b.Target
      rw [if_neg (by rw [← h.tg]; exact hT), h.tg]
    · show a.Full.length = ((b.Full.set x false).set y true).length
      simp [h.len]
    · show ((b.Full.set x false).set y true)[i]? = some true
      rw [set2_get]
      by_cases e1 : y = i ∧ y < b.Full.length
      · rw [if_pos e1]
      · rw [if_neg e1, if_neg]
        · exact h.sub i hi
        · rintro ⟨rfl, _⟩; rw [e] at hi; cases hi
end
/-! ## the list of the choices -/
/-- the choices of j others from cell i on, of so many cells -/
def chs (T : Nat) : Nat → Nat → Nat → List Bool → List (List Bool)
  | 0, _, j, F => if j = 0 then [F] else []
  | m + 1, i, 0, F => chs T m (i + 1) 0 (F.set i (decide (i = T)))
  | m + 1, i, j + 1, F => if F[i]? = some true ∧ i ≠ T then chs T m (i + 1) j F ++ chs T m (i + 1) (j + 1) (F.set i false) else chs T m (i + 1) (j + 1) F
/-- how many others there are from cell i on -/
def oc (T : Nat) : Nat → Nat → List Bool → Nat
  | 0, _, _ => 0
  | m + 1, i, G => (if G[i]? = some true ∧ i ≠ T then 1 else 0) + oc T m (i + 1) G
theorem set_get1 {F : List Bool} {i q : Nat} {v : Bool} (hi : i < F.length) : (F.set i v)[q]? = if i = q then some v else F[q]? := by
  rw [List.getElem?_set]
  by_cases e : i = q
  · subst e; rw [if_pos rfl, if_pos hi, if_pos rfl]
  · rw [if_neg e, if_neg e]
theorem chs_mem {T : Nat} {G : List Bool} : ∀ (m i j : Nat) (F : List Bool), F.length = i + m → (T < F.length → F[T]? = some true) →
    (G ∈ chs T m i j F ↔ G.length = i + m ∧ (∀ q, q < i → G[q]? = F[q]?) ∧ (∀ q, i ≤ q → G[q]? = some true → F[q]? = some true) ∧ (i ≤ T → T < i + m → G[T]? = some true) ∧ oc T m i G = j) := by
  intro m
  induction m with
  | zero =>
    intro i j F hF hT
    rw [chs]
    by_cases e : j = 0
    · subst e
      rw [if_pos rfl, List.mem_singleton]
      constructor
      · rintro rfl; exact ⟨hF, fun _ _ => rfl, fun _ _ h => h, fun h1 h2 => by omega, rfl⟩
      · rintro ⟨h1, h2, h3, h4, h5⟩
        apply List.ext_getElem?
        intro q
        rcases Nat.lt_or_ge q i with h | h
        · exact h2 q h
        · rw [List.getElem?_eq_none (by omega), List.getElem?_eq_none (by omega)]
    · rw [if_neg e]
      refine ⟨fun h => (by simp at h), fun h => absurd h.2.2.2.2.symm (by rw [oc]; exact e)⟩
  | succ m ih =>
    intro i j F hF hT
    have hiF : i < F.length := by omega
    cases j with
    | zero =>
      rw [chs, ih (i + 1) 0 (F.set i (decide (i = T))) (by simp; omega) (fun h => ?_)]
      · simp only [set_get1 hiF, oc]
        constructor
        · rintro ⟨h1, h2, h3, h4, h5⟩
          have hGi : G[i]? = some (decide (i = T)) := by have := h2 i (by omega); rw [if_pos rfl] at this; exact this
          refine ⟨by omega, fun q hq => by have := h2 q (by omega); rw [if_neg (by omega)] at this; exact this, fun q hq hG => ?_, fun h1 h2 => ?_, ?_⟩
          · by_cases e : q = i
            · subst e
              rw [hGi] at hG
              have : q = T := by simpa using hG
              subst this; exact hT hiF
            · have := h3 q (by omega) hG; rw [if_neg (by omega)] at this; exact this
          · by_cases e : i = T
            · subst e; rw [hGi]; simp
            · exact h4 (by omega) (by omega)
          · rw [if_neg, h5]
            rintro ⟨h6, h7⟩
            rw [hGi] at h6
            exact h7 (by simpa using h6)
        · rintro ⟨h1, h2, h3, h4, h5⟩
          have hn : ¬ (G[i]? = some true ∧ i ≠ T) := fun h => by rw [if_pos h] at h5; omega
          have hGi : G[i]? = some (decide (i = T)) := by
            by_cases e : i = T
            · subst e; rw [h4 (by omega) (by omega)]; simp
            · rcases bool_get (xs := G) (i := i) (by omega) with h | h
              · exact absurd ⟨h, e⟩ hn
              · rw [h]; simp [e]
          refine ⟨by omega, fun q hq => ?_, fun q hq hG => by rw [if_neg (by omega)]; exact h3 q (by omega) hG, fun h6 h7 => h4 (by omega) (by omega), by rw [if_neg hn] at h5; omega⟩
          by_cases e : i = q
          · subst e; rw [if_pos rfl]; exact hGi
          · rw [if_neg e]; exact h2 q (by omega)
      · rw [set_get1 hiF]
        by_cases e : i = T
        · rw [if_pos e]; simp [e]
        · rw [if_neg e]; exact hT (by simpa using h)
    | succ j =>
      rw [chs]
      by_cases c : F[i]? = some true ∧ i ≠ T
      · rw [if_pos c, List.mem_append, ih (i + 1) j F (by omega) hT, ih (i + 1) (j + 1) (F.set i false) (by simp; omega) (fun h => by rw [set_get1 hiF, if_neg c.2]; exact hT (by simpa using h))]
        simp only [set_get1 hiF, oc]
        constructor
        · rintro (⟨h1, h2, h3, h4, h5⟩ | ⟨h1, h2, h3, h4, h5⟩)
          · have hGi : G[i]? = some true := (h2 i (by omega)).trans c.1
            refine ⟨by omega, fun q hq => h2 q (by omega), fun q hq hG => ?_, fun h6 h7 => h4 (by omega) (by omega), by rw [if_pos ⟨hGi, c.2⟩]; omega⟩
            by_cases e : q = i
            · subst e; exact c.1
            · exact h3 q (by omega) hG
          · have hGi : G[i]? = some false := by have := h2 i (by omega); rw [if_pos rfl] at this; exact this
            refine ⟨by omega, fun q hq => by have := h2 q (by omega); rw [if_neg (by omega)] at this; exact this, fun q hq hG => ?_, fun h6 h7 => h4 (by omega) (by omega), by rw [if_neg (fun h => by rw [hGi] at h; cases h.1)]; omega⟩
            by_cases e : q = i
            · subst e; exact c.1
            · have := h3 q (by omega) hG; rw [if_neg (by omega)] at this; exact this
        · rintro ⟨h1, h2, h3, h4, h5⟩
          rcases bool_get (xs := G) (i := i) (by omega) with h | h
          · left
            rw [if_pos ⟨h, c.2⟩] at h5
            refine ⟨by omega, fun q hq => ?_, fun q hq hG => h3 q (by omega) hG, fun h6 h7 => h4 (by omega) (by omega), by omega⟩
            by_cases e : q = i
            · subst e; rw [h, c.1]
            · exact h2 q (by omega)
          · right
            rw [if_neg (fun h' => by rw [h] at h'; cases h'.1)] at h5
            refine ⟨by omega, fun q hq => ?_, fun q hq hG => by rw [if_neg (by omega)]; exact h3 q (by omega) hG, fun h6 h7 => h4 (by omega) (by omega), by omega⟩
            by_cases e : i = q
            · subst e; rw [if_pos rfl]; exact h
            · rw [if_neg e]; exact h2 q (by omega)
      · rw [if_neg c, ih (i + 1) (j + 1) F (by omega) hT]
        simp only [oc]
        constructor
        · rintro ⟨h1, h2, h3, h4, h5⟩
          have hGi := h2 i (by omega)
          refine ⟨by omega, fun q hq => h2 q (by omega), fun q hq hG => ?_, fun h6 h7 => ?_, by rw [if_neg (fun h => c ⟨hGi ▸ h.1, h.2⟩)]; omega⟩
          · by_cases e : q = i
            · subst e; rw [← hGi]; exact hG
            · exact h3 q (by omega) hG
          · by_cases e : i = T
            · subst e; rw [hGi]; exact hT hiF
            · exact h4 (by omega) (by omega)
        · rintro ⟨h1, h2, h3, h4, h5⟩
          have hGi : G[i]? = F[i]? := by
            by_cases e : i = T
            · subst e; rw [h4 (by omega) (by omega), hT hiF]
            · rcases bool_get (xs := G) (i := i) (by omega) with h | h
              · rw [h, h3 i (by omega) h]
              · rcases bool_get hiF with h' | h'
                · exact absurd ⟨h', e⟩ c
                · rw [h, h']
          rw [if_neg (fun h => c ⟨hGi ▸ h.1, h.2⟩)] at h5
          refine ⟨by omega, fun q hq => ?_, fun q hq hG => h3 q (by omega) hG, fun h6 h7 => h4 (by omega) (by omega), by omega⟩
          by_cases e : q = i
          · subst e; exact hGi
          · exact h2 q (by omega)
theorem oc_count {T : Nat} : ∀ (m i : Nat) (G : List Bool), G.length = i + m → (i ≤ T → T < i + m → G[T]? = some true) → (G.drop i).count true = oc T m i G + if i ≤ T ∧ T < i + m then 1 else 0 := by
  intro m
  induction m with
  | zero =>
    intro i G hG hT
    rw [List.drop_of_length_le (by omega), oc, if_neg (by omega)]; rfl
  | succ m ih =>
    intro i G hG hT
    have hi : i < G.length := by omega
    rw [List.drop_eq_getElem_cons hi, List.count_cons, ih (i + 1) G (by omega) (fun h1 h2 => hT (by omega) (by omega)), oc]
    have hx : G[i]? = some G[i] := List.getElem?_eq_getElem hi
    generalize G[i] = x at hx
    by_cases e : i = T
    · subst e
      have := hT (Nat.le_refl _) (by omega)
      rw [hx] at this
      cases this
      have p1 : ¬ (G[i]? = some true ∧ i ≠ i) := fun h => h.2 rfl
      have p2 : ¬ (i + 1 ≤ i ∧ i < i + 1 + m) := by omega
      have p3 : i ≤ i ∧ i < i + (m + 1) := by omega
      rw [if_neg p1, if_neg p2, if_pos p3]; simp
    · have e3 : (if i + 1 ≤ T ∧ T < i + 1 + m then 1 else 0) = if i ≤ T ∧ T < i + (m + 1) then 1 else 0 := by
        by_cases c : i + 1 ≤ T ∧ T < i + 1 + m
        · rw [if_pos c, if_pos (by omega)]
        · rw [if_neg c, if_neg (by omega)]
      rw [e3]
      cases x with
      | true =>
        have p1 : G[i]? = some true ∧ i ≠ T := ⟨hx, e⟩
        rw [if_pos p1]; simp; omega
      | false =>
        have p1 : ¬ (G[i]? = some true ∧ i ≠ T) := fun h => by rw [hx] at h; cases h.1
        rw [if_neg p1]; simp
/-- the choices of a layout -/
theorem chs_layout {n k j : Nat} {l : ApiLayout} (h : LOk n k l) {G : List Bool} : G ∈ chs l.Target.toNat n 0 j l.Full ↔ LOk n (j + 1) { Full := G, Target := l.Target } ∧ Subl { Full := G, Target := l.Target } l := by
  rw [chs_mem n 0 j l.Full (by rw [h.len]; omega) (fun _ => h.get)]
  have hT := h.tlt
  constructor
  · rintro ⟨h1, _, h3, h4, h5⟩
    have hG : G[l.Target.toNat]? = some true := h4 (Nat.zero_le _) (by omega)
    have hc := oc_count n 0 G (by omega) (fun _ _ => hG)
    rw [List.drop_zero, h5, if_pos (by omega)] at hc
    exact ⟨⟨by show G.length = n; omega, hc, h.t0, hG⟩, ⟨rfl, by show G.length = _; rw [h.len]; omega, fun i hi => h3 i (Nat.zero_le _) hi⟩⟩
  · rintro ⟨h1, h2⟩
    have hG : G[l.Target.toNat]? = some true := h1.get
    have hl : G.length = n := h1.len
    have hc := oc_count (T := l.Target.toNat) n 0 G (by omega) (fun _ _ => hG)
    have hcn : G.count true = j + 1 := h1.cnt
    rw [List.drop_zero, hcn, if_pos (by omega)] at hc
    exact ⟨by omega, fun q hq => by omega, fun q _ hq => h2.sub q hq, fun _ _ => hG, by omega⟩
/-- to choose that many is possible -/
theorem grow {n j k : Nat} {l : ApiLayout} (h : LOk n k l) : ∀ (e : Nat) {a : ApiLayout}, Subl a l → LOk n j a → j + e ≤ k → ∃ b, Subl a b ∧ Subl b l ∧ LOk n (j + e) b := by
  intro e
  induction e with
  | zero => intro a h1 h2 _; exact ⟨a, .refl _, h1, h2⟩
  | succ e ih =>
    intro a h1 h2 h3
    obtain ⟨b, b1, b2, b3⟩ := ih h1 h2 (by omega)
    -- a place that is free in b and not in l
    have hex : ∃ i : Nat, l.Full[i]? = some true ∧ b.Full[i]? = some false := by
      apply Classical.byContradiction
      intro hne
      have hall : ∀ i : Nat, l.Full[i]? = some true → b.Full[i]? = some true := fun i hi => by
        rcases bool_get (xs := b.Full) (i := i) (by rw [b2.len]; exact (List.getElem?_eq_some_iff.1 hi).1) with h | h
        · exact h
        · exact absurd ⟨i, hi, h⟩ hne
      have heq : b.Full = l.Full := by
        apply List.ext_getElem?
        intro i
        rcases Nat.lt_or_ge i l.Full.length with hi | hi
        · rcases bool_get (xs := l.Full) hi with h' | h'
          · rw [h', hall i h']
          · rcases bool_get (xs := b.Full) (i := i) (by rw [b2.len]; exact hi) with h'' | h''
            · have := b2.sub i h''; rw [h'] at this; cases this
            · rw [h', h'']
        · rw [List.getElem?_eq_none hi, List.getElem?_eq_none (by rw [b2.len]; exact hi)]
      have := b3.cnt
      rw [heq, h.cnt] at this
      omega
    obtain ⟨i, hi1, hi2⟩ := hex
    have hil : i < b.Full.length := (List.getElem?_eq_some_iff.1 hi2).1
    refine ⟨{ Full := b.Full.set i true, Target := b.Target }, ⟨b1.tg, by simp [b1.len], fun q hq => ?_⟩, ⟨b2.tg, by simp [b2.len], fun q hq => ?_⟩, ⟨by simp [b3.len], ?_, b3.t0, ?_⟩⟩
    · show (b.Full.set i true)[q]? = _
      rw [set_get1 hil]
      split
      · rfl
      · exact b1.sub q hq
    · have hq' : (b.Full.set i true)[q]? = some true := hq
      rw [set_get1 hil] at hq'
      by_cases e2 : i = q
      · subst e2; exact hi1
      · rw [if_neg e2] at hq'; exact b2.sub q hq'
    · show (b.Full.set i true).count true = _
      have hs := List.count_set (l := b.Full) (i := i) (a := true) (b := true) hil
      have e3 : b.Full[i] = false := by have := List.getElem?_eq_getElem hil; rw [hi2] at this; exact (Option.some.inj this).symm
      rw [hs, e3, b3.cnt]; simp; omega
    · show (b.Full.set i true)[b.Target.toNat]? = _
      rw [set_get1 hil]
      split
      · rfl
      · exact b3.get
end Go.Taq

/- The mathematics of the patterns, part FD: the iterator of the choices; the bound, of the layer. -/
set_option linter.unusedVariables false
set_option linter.unusedSimpArgs false
namespace Go.Taq
open Go
theorem S_cloneB {xs : List Bool} (hl : xs.length ≤ 1000000) {post : List Bool → Prop} (hp : post xs) : V_slices_Clone_bool_bool xs post := by
  unfold V_slices_Clone_bool_bool
  intro b hz
  refine Ite.mk (fun h => by rw [← hz (by simpa using h)]; exact hp) (fun h => ⟨by simp; omega, by simpa using hp⟩)
theorem Each_yld {α : Type} {post : Option (List α) → Prop} {kV : Option (List α) → Prop} (h0 : post none) : ∀ (ys : List α) {rest : List α}, kV (some rest) → Each (fun (x : α) (s : Option (List α)) Y => Yld s x (fun b => Ite (!b.1) (post b.2) (Y b.2))) kV ys (some (ys ++ rest))
  | [], rest, hk => hk
  | y :: ys, rest, hk => ⟨ys ++ rest, rfl, Ite.f rfl (Each_yld h0 ys hk), Ite.t rfl h0⟩
def mkL (t : Int) (G : List Bool) : ApiLayout := { Full := G, Target := t }
/-- what the iterator yields -/
theorem S_choices {j n m i : Nat} {l : ApiLayout} {rest : List ApiLayout} (hj : j ≤ 1000000) (hn : n ≤ 1000) (hl : l.Full.length = n) (hi : n = i + m) (t0 : 0 ≤ l.Target) (hg : l.Full[l.Target.toNat]? = some true) :
    V_pattern_choices_1__p0_p1_p2 (j : Int) l (i : Int) (some ((chs l.Target.toNat m i j l.Full).map (mkL l.Target) ++ rest)) (fun r => r = none ∨ r = some rest) := by
  intro X hX
  have key : ∀ (j m i : Nat) (l : ApiLayout) (rest : List ApiLayout), l.Full.length = n → n = i + m → 0 ≤ l.Target → l.Full[l.Target.toNat]? = some true → j ≤ 1000000 →
      X ((j : Int), l, (i : Int), some ((chs l.Target.toNat m i j l.Full).map (mkL l.Target) ++ rest)) (fun r => r = none ∨ r = some rest) := by
    intro j
    induction j with
    | zero =>
      intro m i l rest hl hi t0 hg _
      refine hX _ _ ?_
      unfold B_pattern_choices_1__p0_p1_p2
      refine Ite.t rfl (Jn.mk (fun x => x = l.Full) (S_cloneB (by show l.Full.length ≤ _; omega) rfl) (fun x e => ?_))
      subst e
      refine Jn.mk (fun x => chs l.Target.toNat m i 0 l.Full = [x]) (Loop.inv m (fun q (s : List Bool × Int) => s.2 = ((i + q : Nat) : Int) ∧ s.1.length = n ∧ chs l.Target.toNat m i 0 l.Full = chs l.Target.toNat (m - q) (i + q) 0 s.1) ⟨rfl, hl, rfl⟩ (fun q s hq hI => ?_) (fun s hI => ?_)) (fun x e => ?_)
      · obtain ⟨F, c⟩ := s
        obtain ⟨rfl, hF, hc⟩ := hI
        replace hF : F.length = n := hF
        replace hc : chs l.Target.toNat m i 0 l.Full = chs l.Target.toNat (m - q) (i + q) 0 F := hc
        have hx : F[i + q]? = some (F[i + q]'(by omega)) := List.getElem?_eq_getElem _
        refine Ite.lt (by show ((i + q : Nat) : Int) < (l.Full.length : Int); omega) ⟨_, idx_of rfl hx, ?_, ?_, ?_⟩
        · show w64 (((i + q : Nat) : Int) + 1) = _
          rw [w64_1 (by omega)]; congr 1
        · show (F.set _ _).length = n
          simpa using hF
        · rw [hc, show m - q = (m - (q + 1)) + 1 by omega, chs]
          have e1 : ((((i + q : Nat) : Int)) == l.Target) = decide (i + q = l.Target.toNat) := by
            by_cases c : i + q = l.Target.toNat
            · simp [c]; omega
            · simp [c]; omega
          show _ = chs _ _ _ 0 (F.set (Int.toNat ((i + q : Nat) : Int)) (((i + q : Nat) : Int) == l.Target))
          rw [Int.toNat_natCast, e1]; congr 1
      · obtain ⟨F, c⟩ := s
        obtain ⟨rfl, hF, hc⟩ := hI
        refine Ite.nlt (by show ¬ ((i + m : Nat) : Int) < (l.Full.length : Int); omega) ?_
        rw [hc, Nat.sub_self, chs]; simp
      · rw [e]
        exact ⟨rest, rfl, .inr rfl, .inl rfl⟩
    | succ j ih =>
      intro m i l rest hl hi t0 hg hj
      refine hX _ _ ?_
      unfold B_pattern_choices_1__p0_p1_p2
      refine Ite.f (by simp; omega) ?_
      have wj : w64 (((j + 1 : Nat) : Int) - 1) = (j : Int) := by rw [w64_eq (by omega) (by omega)]; omega
      simp only [wj]
      refine Jn.mk (fun (x : List Bool × Option (List ApiLayout)) => x.2 = some rest) (Loop.inv m (fun q (s : List Bool × Option (List ApiLayout) × Int) => s.2.2 = ((i + q : Nat) : Int) ∧ s.1.length = n ∧ s.1[l.Target.toNat]? = some true ∧
        s.2.1 = some ((chs l.Target.toNat (m - q) (i + q) (j + 1) s.1).map (mkL l.Target) ++ rest)) ⟨rfl, hl, hg, rfl⟩ (fun q s hq hI => ?_) (fun s hI => ?_)) (fun x e => .inr e)
      · obtain ⟨F, oy, c⟩ := s
        obtain ⟨rfl, hF, hFg, ho⟩ := hI
        replace hF : F.length = n := hF
        replace ho : oy = some ((chs l.Target.toNat (m - q) (i + q) (j + 1) F).map (mkL l.Target) ++ rest) := ho
        subst ho
        replace hFg : F[l.Target.toNat]? = some true := hFg
        have hx : F[i + q]? = some (F[i + q]'(by omega)) := List.getElem?_eq_getElem _
        generalize F[i + q]'(by omega) = x at hx
        have w1 : w64 (((i + q : Nat) : Int) + 1) = ((i + (q + 1) : Nat) : Int) := by rw [w64_1 (by omega)]; congr 1
        have hme : m - q = (m - (q + 1)) + 1 := by omega
        have hie : i + q + 1 = i + (q + 1) := by omega
        simp only [w1]
        refine Ite.lt (by show ((i + q : Nat) : Int) < (F.length : Int); omega) ?_
        refine Jn.mk (fun (y : List Bool × Option (List ApiLayout)) => y.1.length = n ∧ y.1[l.Target.toNat]? = some true ∧ y.2 = some ((chs l.Target.toNat (m - (q + 1)) (i + (q + 1)) (j + 1) y.1).map (mkL l.Target) ++ rest)) ?_ (fun y hy => ⟨trivial, hy⟩)
        have e1 : ((((i + q : Nat) : Int)) == l.Target) = decide (i + q = l.Target.toNat) := by
          by_cases c : i + q = l.Target.toNat
          · simp [c]; omega
          · simp [c]; omega
        refine Jn.mk (fun b => b = !(x && !decide (i + q = l.Target.toNat))) ⟨x, idx_of rfl hx, Ite.mk (fun e => by subst e; show (((i + q : Nat) : Int) == l.Target) = _; rw [e1]; simp) (fun e => by subst e; rfl)⟩ (fun b hb => Ite.mk (fun e => ?_) (fun e => ?_))
        · have hc : ¬ (F[i + q]? = some true ∧ i + q ≠ l.Target.toNat) := by
            rintro ⟨h1, h2⟩
            rw [hx] at h1; cases h1
            rw [e] at hb; simp [h2] at hb
          refine ⟨hF, hFg, ?_⟩
          show some _ = some _
          rw [hme, chs, if_neg hc, hie]
        · have hc : F[i + q]? = some true ∧ i + q ≠ l.Target.toNat := by
            rw [e] at hb
            have : x = true ∧ ¬ i + q = l.Target.toNat := by simpa using hb.symm
            exact ⟨by rw [hx, this.1], this.2⟩
          have hL : chs l.Target.toNat (m - q) (i + q) (j + 1) F = chs l.Target.toNat (m - (q + 1)) (i + (q + 1)) j F ++ chs l.Target.toNat (m - (q + 1)) (i + (q + 1)) (j + 1) (F.set (i + q) false) := by rw [hme, chs, if_pos hc, hie]
          unfold V_pattern_choices
          refine ⟨(chs l.Target.toNat (m - (q + 1)) (i + (q + 1)) j F).map (mkL l.Target), ?_, ?_⟩
          · have := ih (m - (q + 1)) (i + (q + 1)) { Full := F, Target := l.Target } [] hF (by omega) t0 hFg (by omega)
            rw [List.append_nil] at this
            exact this
          · rw [hL, List.map_append, List.append_assoc]
            refine Each_yld (post := fun r => r = none ∨ r = some rest) (.inl rfl) _ ?_
            refine S_cloneB (by show F.length ≤ _; omega) ⟨_, idx_of rfl hx, ?_, ?_, ?_⟩
            · show (F.set _ false).length = n
              simpa using hF
            · show (F.set (Int.toNat ((i + q : Nat) : Int)) false)[l.Target.toNat]? = some true
              rw [Int.toNat_natCast, set_get1 (by omega), if_neg hc.2]; exact hFg
            · show some _ = some ((chs _ _ _ _ (F.set (Int.toNat ((i + q : Nat) : Int)) false)).map _ ++ rest)
              rw [Int.toNat_natCast]
      · obtain ⟨F, oy, c⟩ := s
        obtain ⟨rfl, hF, hFg, ho⟩ := hI
        replace hF : F.length = n := hF
        replace ho : oy = some ((chs l.Target.toNat (m - m) (i + m) (j + 1) F).map (mkL l.Target) ++ rest) := ho
        subst ho
        refine Ite.nlt (by show ¬ ((i + m : Nat) : Int) < (F.length : Int); omega) ?_
        show some _ = some rest
        rw [Nat.sub_self, chs, if_neg (by omega)]; rfl
  exact key j m i l rest hl hi t0 hg hj
/-- the worst of the distances: -1 is the worst -/
def bndL (d : List Bool → Int) : List (List Bool) → Int → Int
  | [], s => s
  | G :: Gs, s => if d G < 0 then -1 else bndL d Gs (imax s (d G))
section
variable {f : ApiFloor} {r : List Int} {n K : Nat} {goal : Int} {ts : List (List Int)}
/-- the distance in the tables -/
def dD (n j : Nat) (ts : List (List Int)) (l : ApiLayout) : Int := dT n (j + 1) (ts.getD j []) l
theorem Db.idx (h : Db f r n K goal ts) {j : Nat} (hj : j ≤ K) : ts[j]? = some (ts.getD j []) := by
  rw [List.getD_eq_getElem?_getD, List.getElem?_eq_getElem (by rw [h.len]; omega)]; rfl
theorem Db.get (h : Db f r n K goal ts) {j : Nat} (hj : j ≤ K) {l : ApiLayout} (hl : LOk n (j + 1) l) : (ts.getD j [])[rank n (j + 1) l]? = some (dD n j ts l) := by
  have := (h.tb j hj).1
  exact gT_get (by rw [this]; exact hl.rank_lt)
theorem S_pDist (h : Db f r n K goal ts) {j : Nat} {l : ApiLayout} (hl : LOk n (j + 1) l) {c : Int} {post : Int × Bool → Prop} (hY : j ≤ K → post (dD n j ts l, true)) (hN : K < j → post (0, false)) : V_pattern_DB_Dist { cells := c, goal := goal, tables := ts } l post := by
  unfold V_pattern_DB_Dist
  have h3 := h.li.1
  have hkl := hl.kle
  refine S_Shelves (by rw [hl.len]; simp [maxLen]; omega) ?_
  rw [hl.cnt]
  have w : w64 (((j + 1 : Nat) : Int) - 1) = (j : Int) := by rw [w64_eq (by omega) (by omega)]; omega
  simp only [w]
  have hlen := h.len
  by_cases hj : j ≤ K
  · refine Ite.f (by show decide ((j : Int) ≥ (ts.length : Int)) = false; simp; omega) ⟨_, idx_of rfl (h.idx hj), S_Rank (by omega) hl.kle h3 hl ⟨_, idx_of rfl (h.get hj hl), hY hj⟩⟩
  · exact Ite.t (by show decide ((j : Int) ≥ (ts.length : Int)) = true; simp; omega) (hN (by omega))
/-- how many others are chosen -/
def nO (k K : Nat) : Nat := min (k - 1) K
/-- the bound -/
def bnd (n k K : Nat) (ts : List (List Int)) (l : ApiLayout) : Int := bndL (fun G => dD n (nO k K) ts (mkL l.Target G)) (chs l.Target.toNat n 0 (nO k K) l.Full) 0
theorem S_Bound (h : Db f r n K goal ts) {k : Nat} {l : ApiLayout} (hl : LOk n k l) {c : Int} {post : Int → Prop} (hp : post (bnd n k K ts l)) : V_pattern_DB_Bound { cells := c, goal := goal, tables := ts } l post := by
  unfold V_pattern_DB_Bound
  have h3 := h.li.1
  have hK := h.hK
  have hkp := hl.kpos
  have hkl := hl.kle
  refine S_Shelves (by rw [hl.len]; simp [maxLen]; omega) ?_
  rw [hl.cnt]
  have hlen : ((ts.length : Nat) : Int) = ((K + 1 : Nat) : Int) := by rw [h.len]
  have w : w64 ((imin ((k : Nat) : Int) (ts.length : Int)) - 1) = ((nO k K : Nat) : Int) := by
    rw [hlen]
    have e : imin ((k : Nat) : Int) ((K + 1 : Nat) : Int) = ((nO k K + 1 : Nat) : Int) := by unfold imin nO; split <;> omega
    have hno : nO k K ≤ n := by unfold nO; omega
    rw [e, w64_eq (by omega) (by omega)]; omega
  simp only [w]
  unfold V_pattern_choices
  refine ⟨(chs l.Target.toNat n 0 (nO k K) l.Full).map (mkL l.Target), ?_, ?_⟩
  · have := S_choices (j := nO k K) (n := n) (m := n) (i := 0) (l := l) (rest := []) (by unfold nO; omega) (by omega) hl.len (by omega) hl.t0 hl.get
    rw [List.append_nil] at this
    exact this
  · have key : ∀ (Gs : List (List Bool)) (s : Int), (∀ G, G ∈ Gs → LOk n (nO k K + 1) (mkL l.Target G)) → post (bndL (fun G => dD n (nO k K) ts (mkL l.Target G)) Gs s) →
        Each (fun (x12 : ApiLayout) (s13 : Int) Y14 => V_pattern_DB_Dist { cells := c, goal := goal, tables := ts } x12 (fun x20 => Ite (decide (x20.1 < 0)) (post (-1)) (Y14 (imax s13 x20.1)))) (fun (s28 : Int) => post s28) (Gs.map (mkL l.Target)) s := by
      intro Gs
      induction Gs with
      | nil => intro s _ hp; exact hp
      | cons G Gs ih =>
        intro s hG hp
        rw [bndL] at hp
        rw [List.map_cons, Each]
        refine S_pDist h (hG G (by simp)) (fun _ => ?_) (fun hlt => by unfold nO at hlt; omega)
        refine Ite.mk (fun e => ?_) (fun e => ?_)
        · rw [if_pos (of_decide_eq_true e)] at hp; exact hp
        · rw [if_neg (of_decide_eq_false e)] at hp
          exact ih _ (fun G' hG' => hG G' (by simp [hG'])) hp
    exact key _ _ (fun G hG => ((chs_layout hl).1 hG).1) hp
end
end Go.Taq

/- The mathematics of the patterns, part FE: the reference's bound; what is given; the examples. -/
set_option linter.unusedVariables false
set_option linter.unusedSimpArgs false
namespace Go.Taq
open Go
/-- the worst of some distances -/
def IsB (S : List Bool → Prop) (d : List Bool → Int) (b : Int) : Prop := ((∃ G, S G ∧ d G < 0) ∧ b = -1) ∨ ((∀ G, S G → 0 ≤ d G ∧ d G ≤ b) ∧ 0 ≤ b ∧ (b = 0 ∨ ∃ G, S G ∧ d G = b))
theorem IsB.eq {S : List Bool → Prop} {d : List Bool → Int} {a b : Int} (h : IsB S d a) (k : IsB S d b) : a = b := by
  rcases h with ⟨⟨G, h1, h2⟩, rfl⟩ | ⟨h1, h2, h3⟩
  · rcases k with ⟨_, rfl⟩ | ⟨k1, _⟩
    · rfl
    · have := (k1 G h1).1; omega
  · rcases k with ⟨⟨G, k1, k2⟩, rfl⟩ | ⟨k1, k2, k3⟩
    · have := (h1 G k1).1; omega
    · have a1 : a ≤ b := by
        rcases h3 with e | ⟨G, e1, e2⟩
        · omega
        · have := (k1 G e1).2; omega
      have a2 : b ≤ a := by
        rcases k3 with e | ⟨G, e1, e2⟩
        · omega
        · have := (h1 G e1).2; omega
      omega
section

end
/-! ## the reference's choice -/
end Go.Taq
