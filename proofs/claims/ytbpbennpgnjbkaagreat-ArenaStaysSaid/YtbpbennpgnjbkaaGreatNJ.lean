/- The mathematics, several parts in one text. -/
import Derived.Test.YtbpbennpgnjbkaaGreatNE
import Derived.Test.YtbpbennpgnjbkaaGreatNA
/- The mathematics, part NF: the rules' statements: examples, RulesApart. -/
set_option linter.unusedVariables false
set_option linter.unusedSimpArgs false
namespace Go.Taq
open Go

theorem nev_comm {s : ApiSite} (a b : ByteArray) : nev s a b = nev s b a := by
  unfold nev apB
  have e : ∀ x : ApiApart, ((seq x.A a && seq x.B b) || (seq x.A b && seq x.B a)) = ((seq x.A b && seq x.B a) || (seq x.A a && seq x.B b)) := fun x => Bool.or_comm _ _
  simp only [e]
  rw [Bool.and_comm (!nosh a)]

theorem apartS_found {s : ApiSite} {st : ApiState} : (apartS s st).2.2 = decide (0 ≤ fnat (fun a => decide (0 ≤ partner s st a)) st.Shelves.length) := by
  unfold apartS
  simp only
  split <;> rename_i h <;> simp <;> omega
end Go.Taq

/- The mathematics, part NG: being near is symmetric; zones are apart; what changes where a shelf is put. -/
set_option linter.unusedVariables false
set_option linter.unusedSimpArgs false
namespace Go.Taq
open Go

theorem cellF_in {f : ApiFloor} {x y z : Int} (h : 0 ≤ cellF f x y z) : 0 ≤ x ∧ x < f.W ∧ 0 ≤ y ∧ y < f.H ∧ 0 ≤ z ∧ z < f.D := by
  unfold cellF at h
  split at h
  · assumption
  · omega
theorem p_cellF {f : ApiFloor} (hf : RF f) {x y z : Int} (h : 0 ≤ x ∧ x < f.W ∧ 0 ≤ y ∧ y < f.H ∧ 0 ≤ z ∧ z < f.D) : pX f (cellF f x y z) = x ∧ pY f (cellF f x y z) = y ∧ pZ f (cellF f x y z) = z := by
  have e : cellF f x y z = (z * f.H + y) * f.W + x := by unfold cellF; rw [if_pos h]
  have w := hf.W1; have hh := hf.H1
  have d1 : ((z * f.H + y) * f.W + x) / f.W = z * f.H + y := by
    rw [Int.add_comm, Int.add_mul_ediv_right _ _ (by omega), Int.ediv_eq_zero_of_lt h.1 h.2.1]; omega
  have d2 : (z * f.H + y) / f.H = z := by
    rw [Int.add_comm, Int.add_mul_ediv_right _ _ (by omega), Int.ediv_eq_zero_of_lt h.2.2.1 h.2.2.2.1]; omega
  unfold pX pY pZ
  rw [e, d1, d2]
  refine ⟨?_, ?_, rfl⟩
  · rw [Int.add_comm, Int.add_mul_emod_self_right, Int.emod_eq_of_lt h.1 h.2.1]
  · rw [Int.add_comm, Int.add_mul_emod_self_right, Int.emod_eq_of_lt h.2.2.1 h.2.2.2.1]
theorem cellF_p {f : ApiFloor} (hf : RF f) {c : Int} (hc : isC f c = true) : cellF f (pX f c) (pY f c) (pZ f c) = c := by
  have hb := p_bd hf hc
  unfold cellF; rw [if_pos hb]
  unfold pX pY pZ
  have w := hf.W1; have hh := hf.H1
  have e1 : c / f.W / f.H * f.H + c / f.W % f.H = c / f.W := by rw [Int.mul_comm]; exact Int.mul_ediv_add_emod ..
  rw [e1, Int.mul_comm]
  exact Int.mul_ediv_add_emod ..
theorem nbr_back {f : ApiFloor} (hf : RF f) {a b d : Int} (hb : isC f b = true) (hd : 0 ≤ d ∧ d < 4) (h : nbr f a d = b) : isC f a = true ∧ nbr f b (if d < 2 then d + 2 else d - 2) = a := by
  have ha : isC f a = true := by
    cases e : isC f a with
    | true => rfl
    | false => unfold nbr at h; rw [if_pos e] at h; rw [isC_iff] at hb; omega
  refine ⟨ha, ?_⟩
  have hb0 : 0 ≤ b := (isC_iff.1 hb).1
  have hd' : d = 0 ∨ d = 1 ∨ d = 2 ∨ d = 3 := by omega
  rcases hd' with rfl | rfl | rfl | rfl <;> (
    simp only [nbr, ha, hb, Bool.true_eq_false, if_false, reduceCtorEq] at h ⊢
    simp at h ⊢
    obtain ⟨q1, q2, q3⟩ := p_cellF hf (cellF_in (by rw [h]; exact hb0))
    rw [h] at q1 q2 q3
    rw [q1, q2, q3]
    have := cellF_p hf ha
    simpa using this)
theorem nearB_comm {f : ApiFloor} (hf : RF f) {a b : Int} (ha : isC f a = true) (hb : isC f b = true) : nearB f a b = nearB f b a := by
  have key : ∀ {a b : Int}, isC f a = true → isC f b = true → nearB f a b = true → nearB f b a = true := fun {a b} ha hb h => by
    unfold nearB at h ⊢
    rw [hb, Bool.true_and, List.any_eq_true] at h
    obtain ⟨d, hd, e⟩ := h
    have hd' : 0 ≤ d ∧ d < 4 := by simp at hd; omega
    obtain ⟨_, h2⟩ := nbr_back hf hb hd' (by simpa using e)
    rw [ha, Bool.true_and, List.any_eq_true]
    refine ⟨if d < 2 then d + 2 else d - 2, ?_, by simp [h2]⟩
    simp at hd; rcases hd with rfl | rfl | rfl | rfl <;> decide
  rw [Bool.eq_iff_iff]; exact ⟨key ha hb, key hb ha⟩

theorem apartS_iff {s : ApiSite} {st : ApiState} : (apartS s st).2.2 = true ↔ ∃ a b : Nat, a < b ∧ b < st.Shelves.length ∧ badP s st a b = true := by
  rw [apartS_found, decide_eq_true_eq]
  rcases fnat_cases (fun a => decide (0 ≤ partner s st a)) st.Shelves.length with ⟨a, ha, e, hp, _⟩ | ⟨e, hb⟩
  · rw [e]
    refine ⟨fun _ => ?_, fun _ => by omega⟩
    rcases fnat_cases (fun b => decide (a < b) && badP s st a b) st.Shelves.length with ⟨b, hb, e2, hp2, _⟩ | ⟨e2, _⟩
    · simp at hp2; exact ⟨a, b, hp2.1, hb, hp2.2⟩
    · simp [partner, e2] at hp
  · rw [e]
    refine ⟨fun h => by omega, fun ⟨a, b, h1, h2, h3⟩ => ?_⟩
    have := hb a (by omega)
    rcases fnat_cases (fun b => decide (a < b) && badP s st a b) st.Shelves.length with ⟨w, _, e2, _, _⟩ | ⟨e2, hb2⟩
    · simp [partner, e2] at this
    · have := hb2 b h2; simp [h1, h3] at this

section

end
end Go.Taq

/- The mathematics, part NV: zones in the reference. -/
set_option linter.unusedVariables false
namespace Go.Taq
open Go

end Go.Taq

/- The mathematics, part NJ: the reference of the rules; RulesTell. -/
set_option linter.unusedVariables false
set_option linter.unusedSimpArgs false
namespace Go.Taq
open Go
section

end
end Go.Taq
