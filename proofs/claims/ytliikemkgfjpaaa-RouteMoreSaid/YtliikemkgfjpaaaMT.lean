/- The mathematics, part T: the route statements' small examples and bounds. -/
import Derived.Test.YtliikemkgfjpaaaMS
import Derived.Test.YtliikemkgfjpaaaMI
set_option linter.unusedVariables false
namespace Go.Taq
open Go

theorem S_law23_fair {s : ApiSite} (k : OkApiSite s) {taken : List ApiTaken} {avoid : List Int} {post : Bool → Prop} (hF : post false) (hT : RSite s → FewS s 50 20 → (∀ z, z ∈ s.Zones → z.Speed ≤ 6) → taken.length ≤ 30 → avoid.length ≤ 30 → post true) : V_taquinlaw23_fair s taken avoid post := by
  unfold V_taquinlaw23_fair
  refine V_few s.Zones k.Zones.1 (T := fun s3 q => ∃ x9, idx s.Zones s3 = some x9 ∧ q (decide (x9.Speed > 6))) (fun z => z.Speed ≤ 6) (fun i x hx q q1 q2 => ⟨x, hx, ?_⟩) hF (fun hz => ?_)
  · cases hb : (decide (x.Speed > 6))
    · exact q2 (by simpa using hb)
    · exact q1
  · refine Jn.mk' (S_ref11_Few k (by omega) (Ite.f rfl hF) (fun hf => Ite.t rfl (S_ref11_Right k (Ite.f rfl hF) (fun hr => Ite.t rfl (Ite.mk (fun h1 => ?_) (fun _ => hF))))))
    simp at h1
    cases hb : decide ((avoid.length : Int) ≤ 30)
    · exact hF
    · exact hT hr hf (hz hf.zones) (by omega) (by simp at hb; omega)

theorem S_ref07_Same {a b : List Int} (hm : a.length ≤ maxLen) {post : Bool → Prop} (hp : post (decide (a = b))) : V_taquinref07_Same a b post := by
  unfold V_taquinref07_Same
  refine Ite.mk (fun h1 => ?_) (fun h1 => ?_)
  · have : decide (a = b) = false := by
      simp at h1 ⊢
      rintro rfl; exact h1 rfl
    rw [← this]; exact hp
  · have hl : a.length = b.length := by simp at h1; omega
    refine Jn.mk (fun _ => a = b) (Loop.upto a.length (fun i => ∀ j : Nat, j < i → a[j]? = b[j]?) (fun j h => by omega) (fun i hi h Y hY => Ite.lt (by omega) ?_) (fun h => Ite.nlt (by omega) ?_)) (fun _ h => ?_)
    · have ha : a[i]? = some (a[i]'hi) := List.getElem?_eq_getElem hi
      have hb : b[i]? = some (b[i]'(by omega)) := List.getElem?_eq_getElem (by omega)
      refine ⟨_, idx_of rfl ha, _, idx_of rfl hb, Ite.mk (fun h2 => ?_) (fun h2 => ?_)⟩
      · have : decide (a = b) = false := by
          simp at h2 ⊢
          intro e; subst e; exact h2 rfl
        rw [← this]; exact hp
      · rw [w64_nat hi hm]
        refine hY (fun j hj => ?_)
        by_cases e : j = i
        · subst e; rw [ha, hb]; simp at h2; rw [h2]
        · exact h j (by omega)
    · apply List.ext_getElem?
      intro j
      rcases Nat.lt_or_ge j a.length with h2 | h2
      · exact h j h2
      · rw [List.getElem?_eq_none h2, List.getElem?_eq_none (by omega)]
    · simpa [h] using hp

/-! ## the examples -/
def exS : ApiSite := { Floor := ({ W := 4, H := 1, D := 1, Kind := ([3, 1, 1, 1] : List Int), Out := ([1, 5, 5, 4] : List Int) : ApiFloor }), Zones := [], Aparts := [], Shelves := [], Robots := [] }
def words : Nat → List (List Int)
  | 0 => [[]]
  | n + 1 => (words n).flatMap fun w => [0 :: w, 1 :: w, 2 :: w, 3 :: w, 4 :: w, 5 :: w, 6 :: w]
theorem mem_words : ∀ (v : List Int), (∀ x, x ∈ v → 0 ≤ x ∧ x < 7) → v ∈ words v.length
  | [], _ => by simp [words]
  | x :: v, h => by
    have hx := h x (by simp)
    have ih := mem_words v (fun y hy => h y (by simp [hy]))
    simp only [List.length_cons, words, List.mem_flatMap]
    refine ⟨v, ih, ?_⟩
    have : x = 0 ∨ x = 1 ∨ x = 2 ∨ x = 3 ∨ x = 4 ∨ x = 5 ∨ x = 6 := by omega
    rcases this with rfl | rfl | rfl | rfl | rfl | rfl | rfl <;> simp
def lexB : List Int → List Int → Bool
  | x :: u, y :: v => decide (x < y) || (decide (x = y) && lexB u v)
  | _, _ => false
theorem lexB_of : ∀ {u v : List Int}, LexLt u v → lexB u v = true
  | u, v, ⟨0, x, y, h1, h2, h3, h4⟩ => by
    cases u with
    | nil => simp at h2
    | cons a u => cases v with
      | nil => simp at h3
      | cons b v => simp at h2 h3; subst h2; subst h3; simp [lexB, h4]
  | u, v, ⟨j + 1, x, y, h1, h2, h3, h4⟩ => by
    cases u with
    | nil => simp at h2
    | cons a u => cases v with
      | nil => simp at h3
      | cons b v =>
        simp at h1 h2 h3
        have := lexB_of (u := u) (v := v) ⟨j, x, y, h1.2, h2, h3, h4⟩
        simp [lexB, h1.1, this]
section
variable {s : ApiSite} {a b tick : Int} {taken : List ApiTaken} {avoid : List Int}
def goodB (s : ApiSite) (a b tick : Int) (taken : List ApiTaken) (avoid : List Int) (v : List Int) : Bool :=
  decide ((runF s taken avoid tick (a, 0) v).2 = 0) && decide ((runF s taken avoid tick (a, 0) v).1.1 = b) && !(heldT taken b (tick + v.length))
theorem goodB_of {v : List Int} (h : GoodW s a b tick taken avoid v) : goodB s a b tick taken avoid v = true := by
  unfold goodB
  obtain ⟨_, h1, h2, h3⟩ := h
  simp [h1, h2, h3]
theorem good_of {v : List Int} (hv : ∀ x, x ∈ v → 0 ≤ x ∧ x < 7) (h : goodB s a b tick taken avoid v = true) : GoodW s a b tick taken avoid v := by
  unfold goodB at h
  simp only [Bool.and_eq_true, decide_eq_true_eq, Bool.not_eq_true'] at h
  exact ⟨hv, h.1.1, h.1.2, h.2⟩
/-- the least one is known, if all before it are tried -/
def leastB (s : ApiSite) (a b tick : Int) (taken : List ApiTaken) (avoid v : List Int) : Bool :=
  v.all (fun x => decide (0 ≤ x) && decide (x < 7)) && goodB s a b tick taken avoid v && (List.range v.length).all (fun i => (words i).all fun w => !goodB s a b tick taken avoid w) && (words v.length).all (fun w => !lexB w v || !goodB s a b tick taken avoid w)
theorem least_eq {v r : List Int} (h : leastB s a b tick taken avoid v = true) (hr : GoodW s a b tick taken avoid r) (hm : ∀ v, GoodW s a b tick taken avoid v → r.length ≤ v.length ∧ (v.length = r.length → v = r ∨ LexLt r v)) : GoodW s a b tick taken avoid v ∧ r = v := by
  unfold leastB at h
  simp only [Bool.and_eq_true, List.all_eq_true, List.mem_range, decide_eq_true_eq, Bool.not_eq_true', Bool.or_eq_true] at h
  obtain ⟨⟨⟨h1, h2⟩, h3⟩, h4⟩ := h
  have hg := good_of h1 h2
  refine ⟨hg, ?_⟩
  obtain ⟨m1, m2⟩ := hm v hg
  have hw := mem_words r hr.1
  have hgr := goodB_of hr
  by_cases e : r.length = v.length
  · rcases m2 e.symm with e2 | e2
    · exact e2.symm
    · rcases h4 r (by rw [← e]; exact hw) with h5 | h5
      · rw [lexB_of e2] at h5; cases h5
      · rw [hgr] at h5; cases h5
  · have := h3 r.length (by omega) r hw
    rw [hgr] at this; cases this
end
theorem exRF : RF exS.Floor := by
  refine ⟨by decide, by decide, by decide, by decide, by decide, by decide, by decide, by decide, by decide, fun i x y hx hy => ?_⟩
  have hi := (List.getElem?_eq_some_iff.1 hx).1
  have : i = 0 ∨ i = 1 ∨ i = 2 ∨ i = 3 := by simp [exS] at hi; omega
  rcases this with rfl | rfl | rfl | rfl <;> simp [exS] at hx hy <;> omega
theorem exRS : RS exS := ⟨exRF, by simp [exS], by simp [exS], by simp [exS]⟩
theorem exOk : OkApiSite exS := by
  refine ⟨⟨?_, ?_, ?_, ⟨?_, ?_⟩, ⟨?_, ?_⟩⟩, ⟨?_, ?_⟩, ⟨?_, ?_⟩, ⟨?_, ?_⟩, ⟨?_, ?_⟩⟩ <;> simp [exS, I64, maxLen]
theorem ex1 : leastB exS 0 2 0 [] [] [1, 1] = true := by decide +kernel
theorem ex2 : leastB exS 0 2 0 [⟨1, ⟨0, 2⟩⟩] [] [0, 0, 1, 1] = true := by decide +kernel
theorem exR : rightR exS 0 2 0 = true := by decide +kernel
theorem ex4 : checkF exS 0 3 0 [] [] [1, 1] = 13 := by decide +kernel
theorem ex3 {v : List Int} (h : GoodW exS 0 2 0 [⟨2, ⟨0, 400⟩⟩] [] v) : (20 : Int) < v.length := by
  have := h.2.2.2
  have e : heldT [⟨2, ⟨0, 400⟩⟩] 2 (0 + (v.length : Int)) = decide ((v.length : Int) < 400) := by
    simp [heldT, spansOf, inS]
  rw [e] at this
  simp at this; omega
theorem ex_find {v : List Int} {taken : List ApiTaken} (hl : taken.length ≤ 1) (h : leastB exS 0 2 0 taken [] v = true) (h20 : v.length ≤ 20) {post : List Int × Int → Prop} (hp : post (v, 0)) : V_route_Find exS 0 2 0 taken [] 20 post := by
  have hg : GoodW exS 0 2 0 taken [] v := by
    unfold leastB at h
    simp only [Bool.and_eq_true, List.all_eq_true, decide_eq_true_eq] at h
    exact good_of h.1.1.1 h.1.1.2
  refine S_route_Find exOk exRS (by simp [maxLen]) (by omega) (fun h1 => ?_) (fun _ h1 => by omega) (fun _ _ _ h1 => ?_) (fun _ _ _ r hr hrl hm => ?_)
  · rw [exR] at h1; simp at h1
  · have := h1 v hg; omega
  · rw [(least_eq h hr hm).2]; exact hp
theorem S_law23_small {post : Bool → Prop} (hp : post true) : V_taquinlaw23_small post := by
  unfold V_taquinlaw23_small V_taquinlaw23_example
  change V_route_Find exS _ _ _ _ _ _ _
  refine ex_find (by simp) ex1 (by simp) ?_
  change V_route_Find exS _ _ _ _ _ _ _
  refine ex_find (by simp) ex2 (by simp) ?_
  change V_route_Find exS _ _ _ _ _ _ _
  refine S_route_Find exOk exRS (by simp [maxLen]) (by simp) (fun h1 => ?_) (fun _ h1 => by omega) (fun _ _ _ h1 => ?_) (fun _ _ _ r hr hrl hm => ?_)
  · rw [exR] at h1; simp at h1
  · change V_route_Check exS _ _ _ _ _ _ _
    refine S_route_Check exOk exRS (by simp [maxLen]) (by simp) (by simp) ?_
    rw [ex4]
    refine Jn.mk' (S_ref07_Same (by simp [maxLen]) (Ite.t (by simp) (Ite.t rfl (S_ref07_Same (by simp [maxLen]) (Ite.t (by simp) (Ite.t rfl (Ite.t rfl hp)))))))
  · have := ex3 hr; omega
end Go.Taq
