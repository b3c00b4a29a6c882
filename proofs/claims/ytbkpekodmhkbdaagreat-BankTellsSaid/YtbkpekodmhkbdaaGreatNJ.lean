/- The mathematics, several parts in one text. -/
import Derived.Test.YtbkpekodmhkbdaaGreatNE
import Derived.Test.YtbkpekodmhkbdaaGreatNA
/- The mathematics, part NF: the rules' statements: examples, RulesApart. -/
set_option linter.unusedVariables false
set_option linter.unusedSimpArgs false
namespace Go.Taq
open Go

end Go.Taq

/- The mathematics, part NG: being near is symmetric; zones are apart; what changes where a shelf is put. -/
set_option linter.unusedVariables false
set_option linter.unusedSimpArgs false
namespace Go.Taq
open Go

section

end
end Go.Taq

/- The mathematics, part NV: zones in the reference. -/
set_option linter.unusedVariables false
namespace Go.Taq
open Go

end Go.Taq

/- The mathematics, part NJ: the reference of the rules; RulesTell. -/
set_option linter.unusedVariables false
set_option linter.unusedSimpArgs false
namespace Go.Taq
open Go
section
variable {s : ApiSite} {st : ApiState}
theorem S_ref12_StandingL (ks : OkApiSite s) (k : OkApiState st) (hf : RF s.Floor) (hl : st.Shelves.length ≤ 1000000) (hc : ∀ c, c ∈ st.Shelves → isC s.Floor c = true) {post : List Int → Prop} (hp : ∀ l : List Int, l.length = s.Floor.Kind.length → (∀ c, isC s.Floor c = true → idx l c = some (atS st c)) → post l) : V_taquinref12_Standing s st post := by
  unfold V_taquinref12_Standing
  have hk := hf.len.1
  have hkm : s.Floor.Kind.length ≤ maxLen := by unfold maxLen; omega
  refine ⟨by omega, Jn.mk (fun l : List Int => l.length = s.Floor.Kind.length ∧ ∀ j : Nat, j < s.Floor.Kind.length → l[j]? = some (-1)) (Loop.mk (fun t : List Int × Int => ∃ n : Nat, t.2 = (n : Int) ∧ n ≤ s.Floor.Kind.length ∧ t.1.length = s.Floor.Kind.length ∧ ∀ j : Nat, j < n → t.1[j]? = some (-1)) (fun t => s.Floor.Kind.length - t.2.toNat) ⟨0, rfl, by omega, by simp, fun j h => by omega⟩ ?_) (fun l0 hl0 => ⟨by omega, ?_⟩)⟩
  · rintro ⟨l, ti⟩ ⟨n, rfl, hn, hll, hI⟩
    simp only at hll hI
    dsimp only
    refine Ite.mk (fun h => ?_) (fun h => ?_)
    · simp [hll] at h
      refine ⟨_, idx_of rfl (List.getElem?_eq_getElem (by omega : n < l.length)), ⟨n + 1, w64_nat h hkm, by omega, by simp [hll], fun j hj => ?_⟩, ?_⟩
      · rw [show ((n : Nat) : Int).toNat = n by omega]
        by_cases e : j = n
        · subst e; rw [List.getElem?_set_self (by omega)]
        · rw [List.getElem?_set_ne (by omega)]; exact hI j (by omega)
      · rw [w64_nat h hkm]
        have e1 : ((n + 1 : Nat) : Int).toNat = n + 1 := by omega
        have e2 : ((n : Nat) : Int).toNat = n := by omega
        rw [e1, e2]; omega
    · simp [hll] at h
      exact ⟨hll, fun j hj => hI j (by omega)⟩
  · refine Jn.mk (fun l : List Bool => l.length = st.Shelves.length ∧ ∀ i : Nat, i < st.Shelves.length → l[i]? = some (carB st i))
      (V_loopc k.Robots.1 (fun t : List Bool × Int => t.2) (fun n (t : List Bool × Int) => t.1.length = st.Shelves.length ∧ ∀ i : Nat, i < st.Shelves.length → t.1[i]? = some ((st.Robots.take n).any fun r => r.Load == (i : Int))) rfl ⟨by simp, fun i hi => by simp [List.getElem?_replicate]; omega⟩ (fun n r t hr ht hI => ?_) (fun t h => ⟨h.1, fun i hi => by rw [h.2 i hi, List.take_length, carB_any (by omega)]⟩)) (fun cl hcl => ?_)
    · refine Jn.mk (fun b => b = (decide (r.Load ≥ 0) && decide (r.Load < (t.1.length : Int)))) (Ite.mk (fun h => by rw [h]; rfl) (fun h => by rw [h]; rfl)) (fun b hb => Jn.mk (fun l : List Bool => l.length = st.Shelves.length ∧ ∀ i : Nat, i < st.Shelves.length → l[i]? = some ((st.Robots.take (n + 1)).any fun r => r.Load == (i : Int))) (Ite.mk (fun h => ?_) (fun h => ?_)) (fun l hl => ⟨by rw [ht], hl⟩))
      · rw [hb] at h; simp at h
        refine ⟨_, idx_get h.1 h.2, by simp [hI.1], fun i hi => ?_⟩
        rw [take_succ hr, List.any_append]
        by_cases e : i = r.Load.toNat
        · subst e; rw [List.getElem?_set_self (by rw [hI.1]; exact hi)]
          have : ((r.Load.toNat : Nat) : Int) = r.Load := by omega
          simp [this]
        · rw [List.getElem?_set_ne (by omega), hI.2 i hi]
          have : (r.Load == (i : Int)) = false := by simp; omega
          simp [this]
      · rw [hb] at h; simp at h
        refine ⟨hI.1, fun i hi => ?_⟩
        rw [take_succ hr, List.any_append, hI.2 i hi]
        have : (r.Load == (i : Int)) = false := by
          cases e : r.Load == (i : Int) with
          | false => rfl
          | true => have e' : r.Load = (i : Int) := by simpa using e
                    have := h (by omega); have := hI.1; omega
        simp [this]
    · refine Jn.mk (fun l : List Int => l.length = s.Floor.Kind.length ∧ ∀ c, isC s.Floor c = true → idx l c = some (atS st c))
        (Loop.mk (fun t : List Int × Int => ∃ j : Nat, j ≤ st.Shelves.length ∧ t.2 = (st.Shelves.length : Int) - j - 1 ∧ t.1.length = s.Floor.Kind.length ∧ ∀ q : Nat, q < s.Floor.Kind.length → t.1[q]? = some (fnat (fun i => decide (st.Shelves.length - j ≤ i) && atP st q i) st.Shelves.length)) (fun t => (t.2 + 1).toNat) ⟨0, by omega, by rw [w64_eq (by omega) (by omega)]; omega, hl0.1, fun q hq => by rw [hl0.2 q hq, Nat.sub_zero, fnat_end]⟩ ?_) (fun l hl' => hp l hl'.1 hl'.2)
      rintro ⟨l, ti⟩ ⟨j, hj, rfl, hll, hI⟩
      simp only at hll hI
      dsimp only
      refine Ite.mk (fun h => ?_) (fun h => ?_)
      · simp at h
        have hjl : j < st.Shelves.length := by omega
        have hi : (st.Shelves.length : Int) - j - 1 = ((st.Shelves.length - (j + 1) : Nat) : Int) := by omega
        have hx : st.Shelves[st.Shelves.length - (j + 1)]? = some (st.Shelves[st.Shelves.length - (j + 1)]'(by omega)) := List.getElem?_eq_getElem _
        generalize st.Shelves[st.Shelves.length - (j + 1)]'(by omega) = x at hx
        have hxc := hc x (List.mem_of_getElem? hx)
        have hxb := isC_iff.1 hxc
        have e1 : st.Shelves.length - j = st.Shelves.length - (j + 1) + 1 := by omega
        rw [hi]
        have hw : w64 (((st.Shelves.length - (j + 1) : Nat) : Int) - 1) = (st.Shelves.length : Int) - ((j + 1 : Nat) : Int) - 1 := by rw [w64_eq (by omega) (by omega)]; omega
        refine Jn.mk (fun b => b = !carB st ((st.Shelves.length - (j + 1) : Nat) : Int)) ⟨_, idx_of rfl (hcl.2 _ (by omega)), Ite.mk (fun h1 => by rw [h1]; rfl) (fun h1 => ⟨x, idx_of rfl hx, S_ref07_Is hf (by rw [hxc, h1]; rfl)⟩)⟩ (fun b hb => Jn.mk (fun l : List Int => l.length = s.Floor.Kind.length ∧ ∀ q : Nat, q < s.Floor.Kind.length → l[q]? = some (fnat (fun i => decide (st.Shelves.length - (j + 1) ≤ i) && atP st q i) st.Shelves.length)) (Ite.mk (fun h1 => ?_) (fun h1 => ?_)) (fun l hl' => ⟨⟨j + 1, by omega, hw, hl'.1, hl'.2⟩, by rw [hw]; omega⟩))
        · rw [hb] at h1
          refine ⟨x, idx_of rfl hx, _, idx_get hxb.1 (by omega), by simp [hll], fun q hq => ?_⟩
          rw [fnat_step (by omega)]
          by_cases e : q = x.toNat
          · subst e
            rw [List.getElem?_set_self (by omega), if_pos (by unfold atP; rw [getD_of hx]; simp only [Bool.and_eq_true]; exact ⟨by simp; omega, h1⟩)]
          · rw [List.getElem?_set_ne (by omega), hI q hq, e1, if_neg (by unfold atP; rw [getD_of hx]; simp; intro h2; omega)]
        · rw [hb] at h1
          refine ⟨hll, fun q hq => ?_⟩
          rw [fnat_step (by omega), hI q hq, e1, if_neg (by unfold atP; simp only [Bool.and_eq_true]; exact fun h2 => by rw [h1] at h2; cases h2.2)]
      · simp at h
        have : j = st.Shelves.length := by omega
        subst this
        refine ⟨hll, fun c hcc => ?_⟩
        have hb := isC_iff.1 hcc
        have := hI c.toNat (by omega)
        rw [Nat.sub_self, fnat_zero] at this
        rw [idx_of (n := c.toNat) (by omega) this]
        have e : ((c.toNat : Nat) : Int) = c := by omega
        rw [e]; rfl
end
theorem S_ref07_Same' {a b : List Int} (hm : a.length ≤ maxLen) {post : Bool → Prop} (hp : a = b → post true) (hab : a = b) : V_taquinref07_Same a b post := by
  subst hab
  unfold V_taquinref07_Same
  refine Ite.f (by simp) ?_
  refine Jn.mk (fun _ => True) (V_loopc hm (fun t => t) (fun _ _ => True) rfl trivial (fun n x t hx ht _ => ⟨x, by rw [ht]; exact idx_of rfl hx, Ite.f (by simp) ⟨by rw [ht], trivial⟩⟩) (fun _ _ => trivial)) (fun _ _ => hp rfl)
end Go.Taq
