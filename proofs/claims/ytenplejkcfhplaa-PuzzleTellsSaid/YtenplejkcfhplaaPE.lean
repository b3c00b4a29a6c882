/- The mathematics of layouts, part E: the reference's ranks. -/
import Derived.Test.YtenplejkcfhplaaPD
set_option linter.unusedVariables false
namespace Go.Taq
open Go
/-- the binomial, at any number -/
def chi (m : Nat) (k : Int) : Nat := if k < 0 then 0 else ch m k.toNat
theorem chi_nat (m k : Nat) : chi m (k : Int) = ch m k := by unfold chi; rw [if_neg (by omega), Int.toNat_natCast]
theorem chi_m (m k : Nat) : chi m ((k : Int) - 1) = chm m k := by
  cases k with
  | zero => simp [chi, chm]
  | succ k => have : ((k + 1 : Nat) : Int) - 1 = (k : Int) := by omega
              rw [this, chi_nat]; rfl
theorem S_rChoose {m : Nat} {k : Int} (hm : m ≤ 24) (hk : k ≤ 100) {post : Int → Prop} (hp : post (chi m k : Nat)) : V_taquinref25_Choose (m : Int) k post := by
  unfold V_taquinref25_Choose
  by_cases h0 : k < 0
  · refine Jn.mk (fun b => b = true) (Ite.t (by simpa using h0) rfl) (fun b e => Ite.t e ?_)
    simpa [chi, h0] using hp
  by_cases h1 : k > m
  · refine Jn.mk (fun b => b = true) (Ite.f (by simpa using h0) (by simpa using h1)) (fun b e => Ite.t e ?_)
    have : chi m k = 0 := by simp only [chi, if_neg h0]; exact ch_lt (by omega)
    simpa [this] using hp
  refine Jn.mk (fun b => b = false) (Ite.f (by simpa using h0) (by simp; omega)) (fun b e => Ite.f e ?_)
  obtain ⟨q, rfl⟩ : ∃ q : Nat, k = (q : Int) := ⟨k.toNat, by omega⟩
  rw [chi_nat] at hp
  refine Jn.mk (fun x => x = ((ch m q : Nat) : Int)) (Loop.inv q (fun i (s : Int × Int) => s.2 = (i : Int) ∧ s.1 = ((ch m i : Nat) : Int)) ⟨rfl, by simp [ch_zero]⟩ (fun i s hi hI => ?_) (fun s hI => ?_)) (fun x e => e ▸ hp)
  · obtain ⟨c, j⟩ := s
    obtain ⟨rfl, rfl⟩ := hI
    have hmul := ch_mul m i
    have hb := ch_small (n := m) (k := i) (by omega)
    have w1 : w64 ((i : Int) + 1) = ((i + 1 : Nat) : Int) := w64_1 (by omega)
    have w2 : w64 ((m : Int) - i) = ((m - i : Nat) : Int) := by rw [w64_eq (by omega) (by omega)]; omega
    have hb2 : ch m i * (m - i) ≤ 16777216 * 24 := Nat.mul_le_mul hb (by omega)
    have w3 : w64 (((ch m i : Nat) : Int) * ((m - i : Nat) : Int)) = ((ch m i * (m - i) : Nat) : Int) := by
      rw [← Int.natCast_mul]; generalize ch m i * (m - i) = z at *; rw [w64_eq (by omega) (by omega)]
    refine Ite.lt (by show (i : Int) < q; omega) ?_
    simp only [w1, w2, w3]
    refine ⟨by omega, by trivial, ?_⟩
    have hd : ch m i * (m - i) / (i + 1) = ch m (i + 1) := by rw [← hmul]; exact Nat.mul_div_cancel _ (by omega)
    have e : (((ch m i * (m - i) : Nat) : Int)).tdiv ((i + 1 : Nat) : Int) = ((ch m i * (m - i) / (i + 1) : Nat) : Int) := rfl
    rw [e, hd]
    have hb3 := ch_small (n := m) (k := i + 1) (by omega)
    rw [w64_eq (by omega) (by omega)]
  · obtain ⟨c, j⟩ := s
    obtain ⟨rfl, rfl⟩ := hI
    exact Ite.nlt (by show ¬ (q : Int) < q; omega) rfl
theorem S_rShelves {l : ApiLayout} (hl : l.Full.length ≤ maxLen) {post : Int → Prop} (hp : post (l.Full.count true : Nat)) : V_taquinref25_Shelves l post := by
  unfold V_taquinref25_Shelves
  have hml : l.Full.length ≤ 9223372036854775807 := by simp [maxLen] at hl; omega
  refine Jn.mk (fun x => x = ((l.Full.count true : Nat) : Int)) (Loop.inv l.Full.length (fun i (s : Int × Int) => s.2 = (i : Int) ∧ s.1 = ((l.Full.take i).count true : Nat)) ⟨rfl, rfl⟩ (fun i s hi hI => ?_) (fun s hI => ?_)) (fun x e => e ▸ hp)
  · obtain ⟨c, q⟩ := s
    obtain ⟨rfl, rfl⟩ := hI
    have hx : l.Full[i]? = some (l.Full[i]'hi) := List.getElem?_eq_getElem hi
    generalize l.Full[i]'hi = b at hx
    have hc := count_take hx
    have hcl : (l.Full.take i).count true ≤ i := Nat.le_trans List.count_le_length (by simp; omega)
    refine Ite.lt (by show (i : Int) < _; omega) ⟨b, idx_of rfl hx, Jn.mk (fun x => x = (((l.Full.take (i + 1)).count true : Nat) : Int)) (Ite.mk (fun h => ?_) (fun h => ?_)) (fun x e => ⟨w64_nat hi hl, e⟩)⟩
    · rw [hc, if_pos h, w64_eq (by omega) (by omega)]; simp
    · rw [hc, if_neg (by simp [h])]; simp
  · obtain ⟨c, q⟩ := s
    obtain ⟨rfl, rfl⟩ := hI
    refine Ite.nlt (by show ¬ (l.Full.length : Int) < _; omega) ?_
    show ((List.count true (l.Full.take l.Full.length) : Nat) : Int) = _
    rw [List.take_length]
section
variable {n k : Nat} (h1 : 1 ≤ k) (h2 : k ≤ n) (h3 : n ≤ 12)
include h1 h2 h3
theorem S_rCount {post : Int → Prop} (hp : post ((n * ch (n - 1) (k - 1) : Nat) : Int)) : V_taquinref25_Count (n : Int) (k : Int) post := by
  unfold V_taquinref25_Count
  have hc := count_le (k := k) h3
  refine Jn.mk (fun b => b = false) (Ite.f (by simp; omega) (Ite.f (by simp; omega) (Ite.f (by simp; omega) (by simp; omega)))) (fun b e => Ite.f e ?_)
  rw [w64_p (i := n) (by omega) (by omega), w64_p (i := k) (by omega) (by omega)]
  refine S_rChoose (by omega) (by omega) ?_
  rw [chi_nat, w64_eq (by rw [← Int.natCast_mul]; omega) (by rw [← Int.natCast_mul]; omega), ← Int.natCast_mul]; exact hp
theorem S_rRank {l : ApiLayout} (h : LOk n k l) {post : Int → Prop} (hp : post (rank n k l : Nat)) : V_taquinref25_Rank l post := by
  unfold V_taquinref25_Rank
  have hlm : l.Full.length ≤ maxLen := by rw [h.len]; simp [maxLen]; omega
  have hT := h.tlt
  have hTe : l.Target = ((l.Target.toNat : Nat) : Int) := by have := h.t0; omega
  have hrk : ∀ m, m ≤ n * ch (n - 1) (k - 1) → m ≤ 49152 := fun m hm => Nat.le_trans hm (count_le h3)
  have hrl := h.rank_lt
  refine S_rShelves hlm ?_
  rw [h.cnt]
  have w1 : w64 ((l.Full.length : Int) - 1) = ((n - 1 : Nat) : Int) := by rw [h.len, w64_p (by omega) (by omega)]
  have w2 : w64 ((k : Int) - 1) = ((k - 1 : Nat) : Int) := w64_p (by omega) (by omega)
  rw [w1, w2]
  refine S_rChoose (by omega) (by omega) ?_
  rw [chi_nat]
  generalize hTd : l.Target.toNat = T at *
  have hol : ∀ i, i ≤ n → (othF T i (l.Full.drop i)).length = oth T i (n - i) := fun i hi => by
    rw [othF_len T _ i (fun _ => by rw [List.length_drop, h.len]; omega), List.length_drop, h.len]
  refine Jn.mk (fun x => x = ((rank n k l : Nat) : Int)) (Loop.inv n (fun i (s : Int × Int × Int) => s.2.2 = (i : Int) ∧ s.1 = ((othF T i (l.Full.drop i)).count true : Nat) ∧ ∃ m : Nat, s.2.1 = (m : Int) ∧ m + rkB (othF T i (l.Full.drop i)) = rank n k l) ⟨rfl, ?_, l.Target.toNat * ch (n - 1) (k - 1), ?_, ?_⟩ (fun i s hi hI => ?_) (fun s hI => ?_)) (fun x e => e ▸ hp)
  · have := h.oth.2; rw [hTd] at this; simp [this]
  · show w64 (l.Target * _) = _
    rw [w64_eq, hTe, ← Int.natCast_mul]; simp [hTd]
    all_goals (rw [hTe, ← Int.natCast_mul]; have := hrk _ (Nat.mul_le_mul_right (ch (n - 1) (k - 1)) (Nat.le_of_lt hT)); omega)
  · rw [hTd]; simp [rank, hTd]
  · obtain ⟨nd, rk, q⟩ := s
    obtain ⟨rfl, rfl, m, rfl, hm⟩ := hI
    have hil : i < l.Full.length := by rw [h.len]; exact hi
    have hx : l.Full[i]? = some (l.Full[i]'hil) := List.getElem?_eq_getElem hil
    have hdr : l.Full.drop i = l.Full[i]'hil :: l.Full.drop (i + 1) := List.drop_eq_getElem_cons hil
    generalize l.Full[i]'hil = b at hx hdr
    have hol1 := hol (i + 1) (by omega)
    have hoh : oth T (i + 1) (n - (i + 1)) ≤ n := by unfold oth; split <;> omega
    refine Ite.lt (by show (i : Int) < _; rw [h.len]; omega) (Jn.mk (fun (s : Int × Int) => s.1 = ((othF T (i + 1) (l.Full.drop (i + 1))).count true : Nat) ∧ ∃ m : Nat, s.2 = (m : Int) ∧ m + rkB (othF T (i + 1) (l.Full.drop (i + 1))) = rank n k l) ?_ (fun s ⟨e2, e3⟩ => ⟨by show w64 ((i : Int) + 1) = _; exact w64_1 (by omega), e2, e3⟩))
    rw [hdr] at hm ⊢
    refine Ite.mk (fun e => ?_) (fun e => ?_)
    · have e' : i = T := by have : (i : Int) = l.Target := beq_iff_eq.1 e; omega
      have hof : othF T i (b :: l.Full.drop (i + 1)) = othF T (i + 1) (l.Full.drop (i + 1)) := by simp [othF, e']
      rw [hof] at hm
      refine ⟨?_, m, rfl, hm⟩
      show ((List.count true (othF T i (b :: l.Full.drop (i + 1))) : Nat) : Int) = _
      rw [hof]
    · have e' : i ≠ T := by rintro rfl; have : ¬ (i : Int) = l.Target := by simpa using e
                            omega
      have hof : othF T i (b :: l.Full.drop (i + 1)) = b :: othF T (i + 1) (l.Full.drop (i + 1)) := by simp [othF, e']
      rw [hof] at hm ⊢
      simp only [rkB, hol1] at hm
      refine Jn.mk (fun x => x = ((oth T (i + 1) (n - (i + 1)) : Nat) : Int)) ?_ (fun x ex => ?_)
      · refine Loop.inv (n - (i + 1)) (fun j (s : Int × Int) => s.2 = ((i + 1 + j : Nat) : Int) ∧ s.1 = ((if i + 1 ≤ T ∧ T < i + 1 + j then j - 1 else j : Nat) : Int)) ⟨w64_1 (by omega), by rw [if_neg (by omega)]; rfl⟩ (fun j s hj hI => ?_) (fun s hI => ?_)
        · obtain ⟨o, q⟩ := s
          obtain ⟨rfl, rfl⟩ := hI
          refine Ite.lt (by show ((i + 1 + j : Nat) : Int) < _; rw [h.len]; omega) (Jn.mk (fun x => x = ((if i + 1 ≤ T ∧ T < i + 1 + (j + 1) then j + 1 - 1 else j + 1 : Nat) : Int)) (Ite.mk (fun e => ?_) (fun e => ?_)) (fun x ex => ⟨w64_1 (by omega), ex⟩))
          · have : ((i + 1 + j : Nat) : Int) ≠ l.Target := by simpa using e
            show w64 (((if i + 1 ≤ T ∧ T < i + 1 + j then j - 1 else j : Nat) : Int) + 1) = _
            rw [w64_1 (by split <;> omega)]
            congr 1
            by_cases hh : i + 1 ≤ T ∧ T < i + 1 + j
            · rw [if_pos hh, if_pos (by omega)]; omega
            · rw [if_neg hh, if_neg (by omega)]
          · have : ((i + 1 + j : Nat) : Int) = l.Target := by simpa using e
            show (((if i + 1 ≤ T ∧ T < i + 1 + j then j - 1 else j : Nat)) : Int) = _
            rw [if_neg (by omega), if_pos (by omega)]; simp
        · obtain ⟨o, q⟩ := s
          obtain ⟨rfl, rfl⟩ := hI
          refine Ite.nlt (by show ¬ ((i + 1 + (n - (i + 1)) : Nat) : Int) < _; rw [h.len]; omega) ?_
          show (((if i + 1 ≤ T ∧ T < i + 1 + (n - (i + 1)) then n - (i + 1) - 1 else n - (i + 1) : Nat)) : Int) = _
          congr 1
          unfold oth
          by_cases hh : i + 1 ≤ T
          · rw [if_pos (by omega), if_pos hh]
          · rw [if_neg (by omega), if_neg hh]
      · subst ex
        have hcl : (othF T (i + 1) (l.Full.drop (i + 1))).count true ≤ oth T (i + 1) (n - (i + 1)) := by rw [← hol1]; exact List.count_le_length
        generalize othF T (i + 1) (l.Full.drop (i + 1)) = rest at *
        refine ⟨b, idx_of rfl hx, Jn.mk (fun (s : Int × Int) => s.1 = (rest.count true : Nat) ∧ ∃ m : Nat, s.2 = (m : Int) ∧ m + rkB rest = rank n k l) (Ite.mk (fun hb => ?_) (fun hb => ?_)) (fun s e => e)⟩
        · have hb' : b = true := hb
          subst hb'
          refine ⟨?_, m, rfl, by simpa using hm⟩
          show w64 (((List.count true (true :: rest) : Nat) : Int) - 1) = _
          rw [List.count_cons_self, w64_p (by omega) (by omega)]; simp
        · have hb' : b = false := hb
          subst hb'
          have hcf : List.count true (false :: rest) = rest.count true := by simp
          have w4 : w64 (((List.count true (false :: rest) : Nat) : Int) - 1) = (rest.count true : Int) - 1 := by rw [hcf, w64_eq (by omega) (by omega)]
          simp only [w4]
          refine S_rChoose (by omega) (by omega) ?_
          rw [chi_m]
          simp only [Bool.false_eq_true, if_false] at hm
          refine ⟨by rw [hcf], m + chm (oth T (i + 1) (n - (i + 1))) (rest.count true), ?_, by omega⟩
          have := hrk (m + chm (oth T (i + 1) (n - (i + 1))) (rest.count true)) (by omega)
          show w64 ((m : Int) + _) = _
          rw [w64_eq (by omega) (by omega)]; simp
  · obtain ⟨nd, rk, q⟩ := s
    obtain ⟨rfl, rfl, m, rfl, hm⟩ := hI
    refine Ite.nlt (by show ¬ (n : Int) < _; rw [h.len]; omega) ?_
    rw [List.drop_of_length_le (by rw [h.len]; omega)] at hm
    show (m : Int) = _
    simp [othF, rkB] at hm; omega
end
end Go.Taq
