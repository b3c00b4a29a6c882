/- The mathematics, several parts in one text. -/
import Derived.Test.YtghgknhkclpdhaaPD
import Derived.Test.YtghgknhkclpdhaaVc
import Derived.Test.YtghgknhkclpdhaaMR0
/- The mathematics of layouts, part E: the reference's ranks. -/
set_option linter.unusedVariables false
set_option linter.unusedSimpArgs false
namespace Go.Taq
open Go
/-- the binomial, at any number -/
def chi (m : Nat) (k : Int) : Nat := if k < 0 then 0 else ch m k.toNat
theorem chi_nat (m k : Nat) : chi m (k : Int) = ch m k := by unfold chi; rw [if_neg (by omega), Int.toNat_natCast]
theorem chi_m (m k : Nat) : chi m ((k : Int) - 1) = chm m k := by
  cases k with
  | zero => simp [chi, chm]
  | succ k => have : ((k + 1 : Nat) : Int) - 1 = (k : Int) := by omega
              rw [this, chi_nat]; rfl
theorem S_rChoose {m : Nat} {k : Int} (hm : m ≤ 24) (hk : k ≤ 100) {post : Int → Prop} (hp : post (chi m k : Nat)) : V_taquinref25_Choose (m : Int) k post := by
  unfold V_taquinref25_Choose
  by_cases h0 : k < 0
  · refine Jn.mk (fun b => b = true) (Ite.t (by simpa using h0) rfl) (fun b e => Ite.t e ?_)
    simpa [chi, h0] using hp
  by_cases h1 : k > m
  · refine Jn.mk (fun b => b = true) (Ite.f (by simpa using h0) (by simpa using h1)) (fun b e => Ite.t e ?_)
    have : chi m k = 0 := by simp only [chi, if_neg h0]; exact ch_lt (by omega)
    simpa [this] using hp
  refine Jn.mk (fun b => b = false) (Ite.f (by simpa using h0) (by simp; omega)) (fun b e => Ite.f e ?_)
  obtain ⟨q, rfl⟩ : ∃ q : Nat, k = (q : Int) := ⟨k.toNat, by omega⟩
  rw [chi_nat] at hp
  refine Jn.mk (fun x => x = ((ch m q : Nat) : Int)) (Loop.inv q (fun i (s : Int × Int) => s.2 = (i : Int) ∧ s.1 = ((ch m i : Nat) : Int)) ⟨rfl, by simp [ch_zero]⟩ (fun i s hi hI => ?_) (fun s hI => ?_)) (fun x e => e ▸ hp)
  · obtain ⟨c, j⟩ := s
    obtain ⟨rfl, rfl⟩ := hI
    have hmul := ch_mul m i
    have hb := ch_small (n := m) (k := i) (by omega)
    have w1 : w64 ((i : Int) + 1) = ((i + 1 : Nat) : Int) := w64_1 (by omega)
    have w2 : w64 ((m : Int) - i) = ((m - i : Nat) : Int) := by rw [w64_eq (by omega) (by omega)]; omega
    have hb2 : ch m i * (m - i) ≤ 16777216 * 24 := Nat.mul_le_mul hb (by omega)
    have w3 : w64 (((ch m i : Nat) : Int) * ((m - i : Nat) : Int)) = ((ch m i * (m - i) : Nat) : Int) := by
      rw [← Int.natCast_mul]; generalize ch m i * (m - i) = z at *; rw [w64_eq (by omega) (by omega)]
    refine Ite.lt (by show (i : Int) < q; omega) ?_
    simp only [w1, w2, w3]
    refine ⟨by omega, by trivial, ?_⟩
    have hd : ch m i * (m - i) / (i + 1) = ch m (i + 1) := by rw [← hmul]; exact Nat.mul_div_cancel _ (by omega)
    have e : (((ch m i * (m - i) : Nat) : Int)).tdiv ((i + 1 : Nat) : Int) = ((ch m i * (m - i) / (i + 1) : Nat) : Int) := rfl
    rw [e, hd]
    have hb3 := ch_small (n := m) (k := i + 1) (by omega)
    rw [w64_eq (by omega) (by omega)]
  · obtain ⟨c, j⟩ := s
    obtain ⟨rfl, rfl⟩ := hI
    exact Ite.nlt (by show ¬ (q : Int) < q; omega) rfl
theorem S_rShelves {l : ApiLayout} (hl : l.Full.length ≤ maxLen) {post : Int → Prop} (hp : post (l.Full.count true : Nat)) : V_taquinref25_Shelves l post := by
  unfold V_taquinref25_Shelves
  have hml : l.Full.length ≤ 9223372036854775807 := by simp [maxLen] at hl; omega
  refine Jn.mk (fun x => x = ((l.Full.count true : Nat) : Int)) (Loop.inv l.Full.length (fun i (s : Int × Int) => s.2 = (i : Int) ∧ s.1 = ((l.Full.take i).count true : Nat)) ⟨rfl, rfl⟩ (fun i s hi hI => ?_) (fun s hI => ?_)) (fun x e => e ▸ hp)
  · obtain ⟨c, q⟩ := s
    obtain ⟨rfl, rfl⟩ := hI
    have hx : l.Full[i]? = some (l.Full[i]'hi) := List.getElem?_eq_getElem hi
    generalize l.Full[i]'hi = b at hx
    have hc := count_take hx
    have hcl : (l.Full.take i).count true ≤ i := Nat.le_trans List.count_le_length (by simp; omega)
    refine Ite.lt (by show (i : Int) < _; omega) ⟨b, idx_of rfl hx, Jn.mk (fun x => x = (((l.Full.take (i + 1)).count true : Nat) : Int)) (Ite.mk (fun h => ?_) (fun h => ?_)) (fun x e => ⟨w64_nat hi hl, e⟩)⟩
    · rw [hc, if_pos h, w64_eq (by omega) (by omega)]; simp
    · rw [hc, if_neg (by simp [h])]; simp
  · obtain ⟨c, q⟩ := s
    obtain ⟨rfl, rfl⟩ := hI
    refine Ite.nlt (by show ¬ (l.Full.length : Int) < _; omega) ?_
    show ((List.count true (l.Full.take l.Full.length) : Nat) : Int) = _
    rw [List.take_length]
section
variable {n k : Nat} (h1 : 1 ≤ k) (h2 : k ≤ n) (h3 : n ≤ 24)
include h1 h2 h3
theorem S_rCount {post : Int → Prop} (hp : post ((n * ch (n - 1) (k - 1) : Nat) : Int)) : V_taquinref25_Count (n : Int) (k : Int) post := by
  unfold V_taquinref25_Count
  have hc := count_le (k := k) h3
  refine Jn.mk (fun b => b = false) (Ite.f (by simp; omega) (Ite.f (by simp; omega) (Ite.f (by simp; omega) (by simp; omega)))) (fun b e => Ite.f e ?_)
  rw [w64_p (i := n) (by omega) (by omega), w64_p (i := k) (by omega) (by omega)]
  refine S_rChoose (by omega) (by omega) ?_
  rw [chi_nat, w64_eq (by rw [← Int.natCast_mul]; omega) (by rw [← Int.natCast_mul]; omega), ← Int.natCast_mul]; exact hp
theorem S_rRank {l : ApiLayout} (h : LOk n k l) {post : Int → Prop} (hp : post (rank n k l : Nat)) : V_taquinref25_Rank l post := by
  unfold V_taquinref25_Rank
  have hlm : l.Full.length ≤ maxLen := by rw [h.len]; simp [maxLen]; omega
  have hT := h.tlt
  have hTe : l.Target = ((l.Target.toNat : Nat) : Int) := by have := h.t0; omega
  have hrk : ∀ m, m ≤ n * ch (n - 1) (k - 1) → m ≤ 402653184 := fun m hm => Nat.le_trans hm (count_le h3)
  have hrl := h.rank_lt
  refine S_rShelves hlm ?_
  rw [h.cnt]
  have w1 : w64 ((l.Full.length : Int) - 1) = ((n - 1 : Nat) : Int) := by rw [h.len, w64_p (by omega) (by omega)]
  have w2 : w64 ((k : Int) - 1) = ((k - 1 : Nat) : Int) := w64_p (by omega) (by omega)
  rw [w1, w2]
  refine S_rChoose (by omega) (by omega) ?_
  rw [chi_nat]
  generalize hTd : l.Target.toNat = T at *
  have hol : ∀ i, i ≤ n → (othF T i (l.Full.drop i)).length = oth T i (n - i) := fun i hi => by
    rw [othF_len T _ i (fun _ => by rw [List.length_drop, h.len]; omega), List.length_drop, h.len]
  refine Jn.mk (fun x => x = ((rank n k l : Nat) : Int)) (Loop.inv n (fun i (s : Int × Int × Int) => s.2.2 = (i : Int) ∧ s.1 = ((othF T i (l.Full.drop i)).count true : Nat) ∧ ∃ m : Nat, s.2.1 = (m : Int) ∧ m + rkB (othF T i (l.Full.drop i)) = rank n k l) ⟨rfl, ?_, l.Target.toNat * ch (n - 1) (k - 1), ?_, ?_⟩ (fun i s hi hI => ?_) (fun s hI => ?_)) (fun x e => e ▸ hp)
  · have := h.oth.2; rw [hTd] at this; simp [this]
  · show w64 (l.Target * _) = _
    rw [w64_eq, hTe, ← Int.natCast_mul]; simp [hTd]
    all_goals (rw [hTe, ← Int.natCast_mul]; have := hrk _ (Nat.mul_le_mul_right (ch (n - 1) (k - 1)) (Nat.le_of_lt hT)); omega)
  · rw [hTd]; simp [rank, hTd]
  · obtain ⟨nd, rk, q⟩ := s
    obtain ⟨rfl, rfl, m, rfl, hm⟩ := hI
    have hil : i < l.Full.length := by rw [h.len]; exact hi
    have hx : l.Full[i]? = some (l.Full[i]'hil) := List.getElem?_eq_getElem hil
    have hdr : l.Full.drop i = l.Full[i]'hil :: l.Full.drop (i + 1) := List.drop_eq_getElem_cons hil
    generalize l.Full[i]'hil = b at hx hdr
    have hol1 := hol (i + 1) (by omega)
    have hoh : oth T (i + 1) (n - (i + 1)) ≤ n := by unfold oth; split <;> omega
    refine Ite.lt (by show (i : Int) < _; rw [h.len]; omega) (Jn.mk (fun (s : Int × Int) => s.1 = ((othF T (i + 1) (l.Full.drop (i + 1))).count true : Nat) ∧ ∃ m : Nat, s.2 = (m : Int) ∧ m + rkB (othF T (i + 1) (l.Full.drop (i + 1))) = rank n k l) ?_ (fun s ⟨e2, e3⟩ => ⟨by show w64 ((i : Int) + 1) = _; exact w64_1 (by omega), e2, e3⟩))
    rw [hdr] at hm ⊢
    refine Ite.mk (fun e => ?_) (fun e => ?_)
    · have e' : i = T := by have : (i : Int) = l.Target := beq_iff_eq.1 e; omega
      have hof : othF T i (b :: l.Full.drop (i + 1)) = othF T (i + 1) (l.Full.drop (i + 1)) := by simp [othF, e']
      rw [hof] at hm
      refine ⟨?_, m, rfl, hm⟩
      show ((List.count true (othF T i (b :: l.Full.drop (i + 1))) : Nat) : Int) = _
      rw [hof]
    · have e' : i ≠ T := by rintro rfl; have : ¬ (i : Int) = l.Target := by simpa using e
                            omega
      have hof : othF T i (b :: l.Full.drop (i + 1)) = b :: othF T (i + 1) (l.Full.drop (i + 1)) := by simp [othF, e']
      rw [hof] at hm ⊢
      simp only [rkB, hol1] at hm
      refine Jn.mk (fun x => x = ((oth T (i + 1) (n - (i + 1)) : Nat) : Int)) ?_ (fun x ex => ?_)
      · refine Loop.inv (n - (i + 1)) (fun j (s : Int × Int) => s.2 = ((i + 1 + j : Nat) : Int) ∧ s.1 = ((if i + 1 ≤ T ∧ T < i + 1 + j then j - 1 else j : Nat) : Int)) ⟨w64_1 (by omega), by rw [if_neg (by omega)]; rfl⟩ (fun j s hj hI => ?_) (fun s hI => ?_)
        · obtain ⟨o, q⟩ := s
          obtain ⟨rfl, rfl⟩ := hI
          refine Ite.lt (by show ((i + 1 + j : Nat) : Int) < _; rw [h.len]; omega) (Jn.mk (fun x => x = ((if i + 1 ≤ T ∧ T < i + 1 + (j + 1) then j + 1 - 1 else j + 1 : Nat) : Int)) (Ite.mk (fun e => ?_) (fun e => ?_)) (fun x ex => ⟨w64_1 (by omega), ex⟩))
          · have : ((i + 1 + j : Nat) : Int) ≠ l.Target := by simpa using e
            show w64 (((if i + 1 ≤ T ∧ T < i + 1 + j then j - 1 else j : Nat) : Int) + 1) = _
            rw [w64_1 (by split <;> omega)]
            congr 1
            by_cases hh : i + 1 ≤ T ∧ T < i + 1 + j
            · rw [if_pos hh, if_pos (by omega)]; omega
            · rw [if_neg hh, if_neg (by omega)]
          · have : ((i + 1 + j : Nat) : Int) = l.Target := by simpa using e
            show (((if i + 1 ≤ T ∧ T < i + 1 + j then j - 1 else j : Nat)) : Int) = _
            rw [if_neg (by omega), if_pos (by omega)]; simp
        · obtain ⟨o, q⟩ := s
          obtain ⟨rfl, rfl⟩ := hI
          refine Ite.nlt (by show ¬ ((i + 1 + (n - (i + 1)) : Nat) : Int) < _; rw [h.len]; omega) ?_
          show (((if i + 1 ≤ T ∧ T < i + 1 + (n - (i + 1)) then n - (i + 1) - 1 else n - (i + 1) : Nat)) : Int) = _
          congr 1
          unfold oth
          by_cases hh : i + 1 ≤ T
          · rw [if_pos (by omega), if_pos hh]
          · rw [if_neg (by omega), if_neg hh]
      · subst ex
        have hcl : (othF T (i + 1) (l.Full.drop (i + 1))).count true ≤ oth T (i + 1) (n - (i + 1)) := by rw [← hol1]; exact List.count_le_length
        generalize othF T (i + 1) (l.Full.drop (i + 1)) = rest at *
        refine ⟨b, idx_of rfl hx, Jn.mk (fun (s : Int × Int) => s.1 = (rest.count true : Nat) ∧ ∃ m : Nat, s.2 = (m : Int) ∧ m + rkB rest = rank n k l) (Ite.mk (fun hb => ?_) (fun hb => ?_)) (fun s e => e)⟩
        · have hb' : b = true := hb
          subst hb'
          refine ⟨?_, m, rfl, by simpa using hm⟩
          show w64 (((List.count true (true :: rest) : Nat) : Int) - 1) = _
          rw [List.count_cons_self, w64_p (by omega) (by omega)]; simp
        · have hb' : b = false := hb
          subst hb'
          have hcf : List.count true (false :: rest) = rest.count true := by simp
          have w4 : w64 (((List.count true (false :: rest) : Nat) : Int) - 1) = (rest.count true : Int) - 1 := by rw [hcf, w64_eq (by omega) (by omega)]
          simp only [w4]
          refine S_rChoose (by omega) (by omega) ?_
          rw [chi_m]
          simp only [Bool.false_eq_true, if_false] at hm
          refine ⟨by rw [hcf], m + chm (oth T (i + 1) (n - (i + 1))) (rest.count true), ?_, by omega⟩
          have := hrk (m + chm (oth T (i + 1) (n - (i + 1))) (rest.count true)) (by omega)
          show w64 ((m : Int) + _) = _
          rw [w64_eq (by omega) (by omega)]; simp
  · obtain ⟨nd, rk, q⟩ := s
    obtain ⟨rfl, rfl, m, rfl, hm⟩ := hI
    refine Ite.nlt (by show ¬ (n : Int) < _; rw [h.len]; omega) ?_
    rw [List.drop_of_length_le (by rw [h.len]; omega)] at hm
    show (m : Int) = _
    simp [othF, rkB] at hm; omega
end
end Go.Taq

/- The mathematics of layouts, part F: the reference's layouts and shifts; right layouts. -/
set_option linter.unusedVariables false
set_option linter.unusedSimpArgs false
namespace Go.Taq
open Go
section
variable {n k : Nat} (h1 : 1 ≤ k) (h2 : k ≤ n) (h3 : n ≤ 24)
include h1 h2 h3
theorem S_rUnrank {i : Nat} (hi : i < n * ch (n - 1) (k - 1)) {post : ApiLayout × Bool → Prop} (hp : post (unrank n k i, true)) : V_taquinref25_Unrank (n : Int) (k : Int) (i : Int) post := by
  unfold V_taquinref25_Unrank
  have hcl := count_le (k := k) h3
  have hc0 : 0 < ch (n - 1) (k - 1) := ch_pos (by omega)
  refine Jn.mk (fun b => b = false) (Ite.f (by simp) (S_rCount h1 h2 h3 (by simp only [decide_eq_false_iff_not]; omega))) (fun b e => Ite.f e ?_)
  have w1 := w64_p (i := n) (by omega) (by omega)
  have w2 := w64_p (i := k) (by omega) (by omega)
  rw [w1, w2]
  refine S_rChoose (by omega) (by omega) ?_
  rw [chi_nat]
  have w3 : w64 ((i : Int).tdiv (ch (n - 1) (k - 1) : Nat)) = ((i / ch (n - 1) (k - 1) : Nat) : Int) := by
    have : (i : Int).tdiv (ch (n - 1) (k - 1) : Nat) = ((i / ch (n - 1) (k - 1) : Nat) : Int) := rfl
    have h := Nat.div_le_self i (ch (n - 1) (k - 1))
    rw [this]
    generalize i / ch (n - 1) (k - 1) = q at h
    rw [w64_eq (by omega) (by omega)]
  have w4 : (i : Int).tmod (ch (n - 1) (k - 1) : Nat) = ((i % ch (n - 1) (k - 1) : Nat) : Int) := rfl
  refine ⟨by omega, ⟨by omega, by omega⟩, by omega, ?_⟩
  simp only [w3, w4]
  have hT : i / ch (n - 1) (k - 1) < n := (Nat.div_lt_iff_lt_mul hc0).2 hi
  have hr := Nat.mod_lt i hc0
  have hun : unrank n k i = { Full := unF (i / ch (n - 1) (k - 1)) 0 n (k - 1) (i % ch (n - 1) (k - 1)), Target := ((i / ch (n - 1) (k - 1) : Nat) : Int) } := rfl
  rw [hun] at hp
  generalize i / ch (n - 1) (k - 1) = T at *
  generalize i % ch (n - 1) (k - 1) = r0 at *
  generalize hfull : unF T 0 n (k - 1) r0 = full at *
  have hfl : full.length = n := by rw [← hfull]; exact unF_len _ _ _ _ _
  refine Jn.mk (fun x => x = full) (Loop.inv n (fun j (s : List Bool × Int × Int × Int × Int) => s.2.2.2.2 = (j : Int) ∧ s.1 = full.take j ++ List.replicate (n - j) false ∧ s.2.2.2.1 = (oth T j (n - j) : Nat) ∧
    ∃ nd r : Nat, s.2.2.1 = (nd : Int) ∧ s.2.1 = (r : Int) ∧ full.drop j = unF T j (n - j) nd r ∧ r < ch (oth T j (n - j)) nd ∧ nd ≤ 24) ⟨rfl, by simp, by simp [oth], k - 1, r0, rfl, rfl, by simpa using hfull.symm, by simpa [oth] using hr, by omega⟩ (fun j s hj hI => ?_) (fun s hI => ?_)) (fun x e => by subst e; exact hp)
  · obtain ⟨row, rs, nd', lf, q⟩ := s
    obtain ⟨rfl, hrow, rfl, nd, r, rfl, rfl, hdr, hr, hnd⟩ := hI
    obtain ⟨m, hm⟩ : ∃ m, n - j = m + 1 := ⟨n - j - 1, by omega⟩
    have hm' : n - (j + 1) = m := by omega
    rw [hm] at hdr hr
    replace hrow : row = full.take j ++ List.replicate (m + 1) false := by rw [← hm]; exact hrow
    have hix := idx_row (by omega) hrow
    have hom : oth T (j + 1) m ≤ 24 := by unfold oth; split <;> omega
    refine Ite.lt (by show (j : Int) < n; omega) (Jn.mk (fun (s : List Bool × Int × Int × Int) => s.1 = full.take (j + 1) ++ List.replicate m false ∧ s.2.2.2 = (oth T (j + 1) m : Nat) ∧ ∃ nd r : Nat, s.2.2.1 = (nd : Int) ∧ s.2.1 = (r : Int) ∧ full.drop (j + 1) = unF T (j + 1) m nd r ∧ r < ch (oth T (j + 1) m) nd ∧ nd ≤ 24) ?_
      (fun s ⟨e1, e2, e3⟩ => ⟨by show w64 ((j : Int) + 1) = _; exact w64_1 (by omega), by rw [hm']; exact e1, by rw [hm']; exact e2, by rw [hm']; exact e3⟩))
    unfold unF at hdr
    refine Ite.mk (fun e => ?_) (fun e => ?_)
    · have e' : j = T := by have : (j : Int) = (T : Int) := beq_iff_eq.1 e; omega
      rw [if_pos e'] at hdr
      obtain ⟨hx, hd2⟩ := drop_cons hdr
      refine ⟨_, hix, ?_, ?_, nd, r, rfl, rfl, hd2, ?_, hnd⟩
      · show row.set (Int.toNat (j : Int)) true = _
        rw [Int.toNat_natCast]; exact set_row (by omega) hrow hx
      · have : oth T (j + 1) m = oth T j (n - j) := by unfold oth; rw [if_neg (by omega), if_pos (by omega)]; omega
        show ((oth T j (n - j) : Nat) : Int) = _
        rw [this]
      · have : oth T (j + 1) m = oth T j (m + 1) := by unfold oth; rw [if_neg (by omega), if_pos (by omega)]; omega
        rw [this]; exact hr
    · have e' : j ≠ T := by rintro rfl; simp at e
      rw [if_neg e'] at hdr
      have hoi : oth T j (n - j) = oth T (j + 1) m + 1 := by unfold oth; split <;> split <;> omega
      have w5 : w64 (((oth T j (n - j) : Nat) : Int) - 1) = (oth T (j + 1) m : Nat) := by rw [hoi, w64_p (by omega) (by omega)]; simp
      have hoi' : oth T j (m + 1) = oth T (j + 1) m + 1 := by rw [← hm]; exact hoi
      rw [hoi', ch_succ] at hr
      have w6 : w64 ((nd : Int) - 1) = (nd : Int) - 1 := by rw [w64_eq (by omega) (by omega)]
      simp only [w5, w6]
      refine S_rChoose (by omega) (by omega) ?_
      rw [chi_m]
      have hb1 : chm (oth T (j + 1) m) nd ≤ 16777216 := by
        cases nd with
        | zero => simp [chm]
        | succ q => exact ch_small (by omega)
      refine Jn.mk (fun (s : List Bool × Int × Int) => s.1 = full.take (j + 1) ++ List.replicate m false ∧ ∃ nd r : Nat, s.2.2 = (nd : Int) ∧ s.2.1 = (r : Int) ∧ full.drop (j + 1) = unF T (j + 1) m nd r ∧ r < ch (oth T (j + 1) m) nd ∧ nd ≤ 24) (Ite.mk (fun hl => ?_) (fun hl => ?_)) (fun s ⟨e1, e2⟩ => ⟨e1, by trivial, e2⟩)
      · have hl' : r < chm (oth T (j + 1) m) nd := by have := of_decide_eq_true hl; omega
        rw [if_pos hl'] at hdr
        obtain ⟨hx, hd2⟩ := drop_cons hdr
        have hz' : 1 ≤ nd := by
          cases nd with
          | zero => simp [chm] at hl'
          | succ q => omega
        refine ⟨_, hix, (by show row.set (Int.toNat (j : Int)) true = _; rw [Int.toNat_natCast]; exact set_row (by omega) hrow hx), nd - 1, r, (by show (nd : Int) - 1 = _; omega), rfl, hd2, ?_, by omega⟩
        obtain ⟨q, rfl⟩ : ∃ q, nd = q + 1 := ⟨nd - 1, by omega⟩
        exact hl'
      · have hl' : ¬ r < chm (oth T (j + 1) m) nd := by have := of_decide_eq_false hl; omega
        rw [if_neg hl'] at hdr
        obtain ⟨hx, hd2⟩ := drop_cons hdr
        have hrb : r ≤ 100000000 := by have := ch_small (n := oth T (j + 1) m) (k := nd) (by omega); omega
        refine ⟨skip_row (by omega) hrow hx, nd, r - chm (oth T (j + 1) m) nd, rfl, ?_, hd2, by omega, hnd⟩
        show w64 ((r : Int) - (chm (oth T (j + 1) m) nd : Nat)) = _
        rw [w64_eq (by omega) (by omega)]; omega
  · obtain ⟨row, rs, nd', lf, q⟩ := s
    obtain ⟨rfl, hrow, _⟩ := hI
    refine Ite.nlt (by show ¬ (n : Int) < n; omega) ?_
    show row = full
    replace hrow : row = full.take n ++ List.replicate (n - n) false := hrow
    rw [hrow, List.take_of_length_le (by omega)]; simp
end
theorem S_rDo {l : ApiLayout} {a b : Nat} (ha : l.Full[a]? = some true) (hb : l.Full[b]? = some false) (hl : l.Full.length ≤ 1000) {post : ApiLayout × Int → Prop} (hp : post (doL l a b, 0)) : V_taquinref25_Do l { From := a, To := b } post := by
  unfold V_taquinref25_Do
  have hal := (List.getElem?_eq_some_iff.1 ha).1
  have hbl := (List.getElem?_eq_some_iff.1 hb).1
  have hab : a ≠ b := by rintro rfl; rw [ha] at hb; simp at hb
  refine Jn.mk (fun b => b = false) (Ite.f (by simp) (Ite.f (by simp; omega) (Ite.f (by simp) (by simp; omega)))) (fun x e => Ite.f e (Jn.mk (fun b => b = false) ⟨true, idx_of rfl ha, Ite.t rfl ⟨false, idx_of rfl hb, rfl⟩⟩ (fun x e => Ite.f e ?_)))
  simp only [List.nil_append, Int.toNat_natCast]
  refine ⟨by simp; omega, true, idx_of rfl ha, false, idx_of rfl (by simpa [List.getElem?_set_ne hab] using hb), Jn.mk' ?_⟩
  refine Ite.mk (fun h => ?_) (fun h => ?_)
  · have := beq_iff_eq.1 h
    simpa [doL, this] using hp
  · have h' : l.Target ≠ (a : Int) := by intro e; simp [e] at h
    simpa [doL, h'] using hp
end Go.Taq

/- The mathematics, part B: right floors, and the cells beside a cell. -/
set_option linter.unusedVariables false
namespace Go.Taq
open Go

/-- a right floor -/
structure RF (f : ApiFloor) : Prop where
  W1 : 1 ≤ f.W
  H1 : 1 ≤ f.H
  D1 : 1 ≤ f.D
  D4 : f.D ≤ 4
  W4 : f.W ≤ 4096
  H4 : f.H ≤ 4096
  n4 : f.W * f.H * f.D ≤ 4096
  kl : (f.Kind.length : Int) = f.W * f.H * f.D
  ol : (f.Out.length : Int) = f.W * f.H * f.D
  ko : ∀ (i : Nat) x y, f.Kind[i]? = some x → f.Out[i]? = some y → 0 ≤ x ∧ x < 7 ∧ 0 ≤ y ∧ y ≤ 63

theorem mul_bd {a b p q : Int} (ha : 0 ≤ a) (hb : 0 ≤ b) (h1 : a ≤ p) (h2 : b ≤ q) : 0 ≤ a * b ∧ a * b ≤ p * q :=
  ⟨Int.mul_nonneg ha hb, Int.mul_le_mul h1 h2 hb (by omega)⟩
theorem size_eq {f : ApiFloor} (w1 : 1 ≤ f.W) (h1 : 1 ≤ f.H) (d1 : 1 ≤ f.D) (d4 : f.D ≤ 4) (w4 : f.W ≤ 4096) (h4 : f.H ≤ 4096) : w64 ((w64 (f.W * f.H)) * f.D) = f.W * f.H * f.D ∧ w64 (f.W * f.H) = f.W * f.H ∧ 1 ≤ f.W * f.H ∧ f.W * f.H ≤ 16777216 := by
  have a := mul_bd (by omega : 0 ≤ f.W) (by omega : 0 ≤ f.H) w4 h4
  have b := mul_bd a.1 (by omega : 0 ≤ f.D) a.2 d4
  have c : 1 * 1 ≤ f.W * f.H := Int.mul_le_mul w1 h1 (by omega) (by omega)
  rw [w64_eq (x := f.W * f.H) (by omega) (by omega), w64_eq (x := f.W * f.H * f.D) (by omega) (by omega)]
  exact ⟨rfl, rfl, by omega, by omega⟩
theorem RF.size {f : ApiFloor} (h : RF f) : w64 ((w64 (f.W * f.H)) * f.D) = f.Kind.length := by rw [(size_eq h.W1 h.H1 h.D1 h.D4 h.W4 h.H4).1, h.kl]
theorem RF.wh {f : ApiFloor} (h : RF f) : w64 (f.W * f.H) = f.W * f.H ∧ 1 ≤ f.W * f.H ∧ f.W * f.H ≤ 4096 := by
  have e := size_eq h.W1 h.H1 h.D1 h.D4 h.W4 h.H4
  refine ⟨e.2.1, e.2.2.1, ?_⟩
  have : f.W * f.H * 1 ≤ f.W * f.H * f.D := Int.mul_le_mul_of_nonneg_left h.D1 (by omega)
  have := h.n4; omega
theorem RF.len {f : ApiFloor} (h : RF f) : f.Kind.length ≤ 4096 ∧ f.Out.length = f.Kind.length := by
  have := h.kl; have := h.ol; have := h.n4; omega

/-- the number of a cell is one -/
def isC (f : ApiFloor) (c : Int) : Bool := decide (0 ≤ c) && decide (c < f.Kind.length)
theorem S_floor_size {f : ApiFloor} (h : RF f) {post : Int → Prop} (hp : post f.Kind.length) : V_floor_size f post := by
  unfold V_floor_size; rw [h.size]; exact hp
theorem S_floor_is {f : ApiFloor} (h : RF f) {c : Int} {post : Bool → Prop} (hp : post (isC f c)) : V_floor_is f c post := by
  unfold V_floor_is
  refine Jn.eq (isC f c) (Ite.mk (fun h1 => S_floor_size h ?_) (fun h1 => ?_)) hp
  · simp at h1; simp [isC, h1]
  · simp at h1; simp [isC]; omega

def kd (f : ApiFloor) (c : Int) : Int := f.Kind.getD c.toNat 0
def ot (f : ApiFloor) (c : Int) : Int := f.Out.getD c.toNat 0
theorem isC_iff {f : ApiFloor} {c : Int} : isC f c = true ↔ 0 ≤ c ∧ c < f.Kind.length := by simp [isC]
theorem idx_kd {f : ApiFloor} {c : Int} (h : isC f c = true) : idx f.Kind c = some (kd f c) := by
  rw [isC_iff] at h
  rw [idx_get h.1 h.2, kd, List.getD_eq_getElem?_getD, List.getElem?_eq_getElem (by omega)]; rfl
theorem idx_ot {f : ApiFloor} (hf : RF f) {c : Int} (h : isC f c = true) : idx f.Out c = some (ot f c) := by
  rw [isC_iff] at h
  have := hf.len.2
  rw [idx_get h.1 (by omega), ot, List.getD_eq_getElem?_getD, List.getElem?_eq_getElem (by omega)]; rfl

theorem imin_lt {x y k : Int} : imin x y < k ↔ x < k ∨ y < k := by unfold imin; split <;> omega
/-- the cell at a place; -1, if there is none -/
def cellF (f : ApiFloor) (x y z : Int) : Int := if 0 ≤ x ∧ x < f.W ∧ 0 ≤ y ∧ y < f.H ∧ 0 ≤ z ∧ z < f.D then (z * f.H + y) * f.W + x else -1
theorem cellF_bd {f : ApiFloor} (h : RF f) {x y z : Int} (h1 : 0 ≤ x ∧ x < f.W ∧ 0 ≤ y ∧ y < f.H ∧ 0 ≤ z ∧ z < f.D) :
    0 ≤ z * f.H ∧ z * f.H ≤ 16384 ∧ 0 ≤ (z * f.H + y) * f.W ∧ (z * f.H + y) * f.W + x < f.Kind.length := by
  obtain ⟨a1, a2, a3, a4, a5, a6⟩ := h1
  have w := h.W4; have hh := h.H4; have d := h.D4
  have b := mul_bd a5 (by omega : 0 ≤ f.H) (by omega : z ≤ 4) hh
  have e1 : (z + 1) * f.H ≤ f.D * f.H := Int.mul_le_mul_of_nonneg_right (by omega) (by omega)
  have e2 : (z + 1) * f.H = z * f.H + f.H := by rw [Int.add_mul]; omega
  have e3 : z * f.H + y + 1 ≤ f.D * f.H := by omega
  have e4 : (z * f.H + y + 1) * f.W ≤ f.D * f.H * f.W := Int.mul_le_mul_of_nonneg_right e3 (by omega)
  have e5 : (z * f.H + y + 1) * f.W = (z * f.H + y) * f.W + f.W := by rw [Int.add_mul (z * f.H + y)]; omega
  have e6 : f.D * f.H * f.W = f.W * f.H * f.D := by rw [Int.mul_comm f.D f.H, Int.mul_comm _ f.W, Int.mul_assoc f.W f.H f.D]
  have e7 : 0 ≤ (z * f.H + y) * f.W := Int.mul_nonneg (by omega) (by omega)
  have := h.kl
  exact ⟨b.1, by omega, e7, by omega⟩
theorem cellF_ok {f : ApiFloor} (h : RF f) (x y z : Int) : cellF f x y z = -1 ∨ isC f (cellF f x y z) = true := by
  unfold cellF
  split
  · rename_i h1
    have := cellF_bd h h1
    exact .inr (isC_iff.2 (by omega))
  · exact .inl rfl
theorem cellF_w {f : ApiFloor} (h : RF f) {x y z : Int} (h1 : 0 ≤ x ∧ x < f.W ∧ 0 ≤ y ∧ y < f.H ∧ 0 ≤ z ∧ z < f.D) : w64 ((w64 ((w64 ((w64 (z * f.H)) + y)) * f.W)) + x) = cellF f x y z := by
  have := cellF_bd h h1
  have := h.len.1; have := h.H4
  rw [w64_eq (x := z * f.H) (by omega) (by omega), w64_eq (x := z * f.H + y) (by omega) (by omega), w64_eq (x := (z * f.H + y) * f.W) (by omega) (by omega), w64_eq (by omega) (by omega), cellF, if_pos h1]

/-- a place -/
def pX (f : ApiFloor) (c : Int) : Int := c % f.W
def pY (f : ApiFloor) (c : Int) : Int := c / f.W % f.H
def pZ (f : ApiFloor) (c : Int) : Int := c / f.W / f.H
theorem p_bd {f : ApiFloor} (h : RF f) {c : Int} (hc : isC f c = true) : 0 ≤ pX f c ∧ pX f c < f.W ∧ 0 ≤ pY f c ∧ pY f c < f.H ∧ 0 ≤ pZ f c ∧ pZ f c < f.D := by
  rw [isC_iff] at hc
  have w := h.W1; have hh := h.H1; have hd := h.D1
  refine ⟨Int.emod_nonneg _ (by omega), Int.emod_lt_of_pos _ (by omega), Int.emod_nonneg _ (by omega), Int.emod_lt_of_pos _ (by omega), Int.ediv_nonneg (Int.ediv_nonneg hc.1 (by omega)) (by omega), ?_⟩
  unfold pZ
  refine Int.ediv_lt_of_lt_mul (by omega) (Int.ediv_lt_of_lt_mul (by omega) ?_)
  have := h.kl
  have e6 : f.D * f.H * f.W = f.W * f.H * f.D := by rw [Int.mul_comm f.D f.H, Int.mul_comm _ f.W, Int.mul_assoc f.W f.H f.D]
  omega
/-- the neighbour in a direction; -1, if there is none -/
def nbr (f : ApiFloor) (c d : Int) : Int :=
  if isC f c = false then -1 else
  if d = 0 then cellF f (pX f c + 1) (pY f c) (pZ f c) else if d = 1 then cellF f (pX f c) (pY f c + 1) (pZ f c) else
  if d = 2 then cellF f (pX f c - 1) (pY f c) (pZ f c) else if d = 3 then cellF f (pX f c) (pY f c - 1) (pZ f c) else
  if d = 4 then cellF f (pX f c) (pY f c) (pZ f c + 1) else if d = 5 then cellF f (pX f c) (pY f c) (pZ f c - 1) else -1
theorem nbr_ok {f : ApiFloor} (h : RF f) (c d : Int) : nbr f c d = -1 ∨ isC f (nbr f c d) = true := by
  unfold nbr
  repeat' split
  all_goals first | exact .inl rfl | exact cellF_ok h _ _ _
/-- where one gets in a direction -/
def nx (f : ApiFloor) (c d : Int) : Int × Bool :=
  if nbr f c d < 0 ∨ kd f c = 0 ∨ kd f (nbr f c d) = 0 ∨ band .i64 (shrI .i64 (ot f c) d) 1 = 0 then (0, false)
  else if 4 ≤ d ∧ (kd f c ≠ 6 ∨ kd f (nbr f c d) ≠ 6) then (0, false) else (nbr f c d, true)
theorem nx_ok {f : ApiFloor} (h : RF f) {c d : Int} (hn : (nx f c d).2 = true) : isC f c = true ∧ isC f (nx f c d).1 = true ∧ 0 ≤ d ∧ d < 6 ∧ kd f (nx f c d).1 ≠ 0 ∧ kd f c ≠ 0 := by
  unfold nx at hn ⊢
  split at hn
  · cases hn
  · rename_i h1
    split at hn
    · cases hn
    · rename_i h2
      rw [if_neg h1, if_neg h2]
      simp only [not_or] at h1
      obtain ⟨a1, a2, a3, a4⟩ := h1
      have hb := nbr_ok h c d
      have hc : isC f c = true := by
        cases hc : isC f c
        · exact absurd (by rw [nbr, if_pos hc]; omega) a1
        · rfl
      have hd : 0 ≤ d ∧ d < 6 := by
        unfold nbr at a1
        rw [if_neg (by simp [hc])] at a1
        repeat' split at a1
        all_goals omega
      exact ⟨hc, by rcases hb with e | e; (exact absurd (by omega) a1); exact e, hd.1, hd.2, a3, a2⟩

theorem S_floor_At {f : ApiFloor} (h : RF f) {c : Int} (hc : isC f c = true) {post : (Int × Int × Int) → Prop} (hp : post (pX f c, pY f c, pZ f c)) : V_floor_At f c post := by
  unfold V_floor_At
  refine S_floor_is h ?_
  rw [hc]
  refine Ite.f rfl ?_
  rw [isC_iff] at hc
  have w := h.W1; have hh := h.H1; have hd := h.D1; have wh := h.wh; have hl := h.len.1
  have e1 : 0 ≤ c / f.W ∧ c / f.W ≤ c := ⟨Int.ediv_nonneg hc.1 (by omega), Int.ediv_le_self _ hc.1⟩
  have e2 : 0 ≤ c / (f.W * f.H) ∧ c / (f.W * f.H) ≤ c := ⟨Int.ediv_nonneg hc.1 (by omega), Int.ediv_le_self _ hc.1⟩
  rw [wh.1]
  refine ⟨by omega, by omega, by omega, by omega, ?_⟩
  rw [Int.tmod_eq_emod_of_nonneg hc.1, Int.tdiv_eq_ediv_of_nonneg hc.1, w64_eq (x := c / f.W) (by omega) (by omega), Int.tmod_eq_emod_of_nonneg e1.1, Int.tdiv_eq_ediv_of_nonneg hc.1, w64_eq (x := c / (f.W * f.H)) (by omega) (by omega), ← Int.ediv_ediv_of_nonneg (by omega : 0 ≤ f.W)]
  exact hp
theorem S_floor_Cell {f : ApiFloor} (h : RF f) {x y z : Int} {post : Int → Prop} (hp : post (cellF f x y z)) : V_floor_Cell f x y z post := by
  unfold V_floor_Cell
  refine Jor4 (Ite.mk (fun h1 => ?_) (fun h1 => ?_))
  · have : cellF f x y z = -1 := by
      unfold cellF
      rw [if_neg]
      simp only [Bool.or_eq_true, decide_eq_true_eq, imin_lt] at h1
      omega
    rw [← this]; exact hp
  · have : 0 ≤ x ∧ x < f.W ∧ 0 ≤ y ∧ y < f.H ∧ 0 ≤ z ∧ z < f.D := by
      simp only [Bool.or_eq_false_iff, decide_eq_false_iff_not, imin_lt] at h1
      omega
    rw [cellF_w h this]; exact hp
theorem S_floor_beside {f : ApiFloor} (h : RF f) {c d : Int} {post : Int → Prop} (hp : post (nbr f c d)) : V_floor_beside f c d post := by
  unfold V_floor_beside
  refine Jn.eq (!isC f c || decide (d < 0) || decide (d ≥ 6)) (S_floor_is h ?_) (Ite.mk (fun h1 => ?_) (fun h1 => ?_))
  · cases isC f c
    · exact Ite.f rfl rfl
    · exact Ite.t rfl (Ite.mk (fun h => by rw [h]; rfl) (fun h => by rw [h]; rfl))
  · have : nbr f c d = -1 := by
      unfold nbr
      simp only [Bool.or_eq_true, Bool.not_eq_true', decide_eq_true_eq] at h1
      split
      · rfl
      · rename_i h2
        have h3 : ¬ (0 ≤ d ∧ d < 6) := by
          rcases h1 with (h1 | h1) | h1
          · exact absurd h1 h2
          · omega
          · omega
        rw [if_neg (by omega), if_neg (by omega), if_neg (by omega), if_neg (by omega), if_neg (by omega), if_neg (by omega)]
    rw [← this]; exact hp
  · simp only [Bool.or_eq_false_iff, Bool.not_eq_false', decide_eq_false_iff_not] at h1
    obtain ⟨⟨hc, h2⟩, h3⟩ := h1
    refine S_floor_At h hc (post := _) ?_
    unfold V_floor_steps
    have hb := p_bd h hc
    have w := h.W4; have hh := h.H4; have hd := h.D4
    have hn : nbr f c d = (if d = 0 then cellF f (pX f c + 1) (pY f c) (pZ f c) else if d = 1 then cellF f (pX f c) (pY f c + 1) (pZ f c) else
        if d = 2 then cellF f (pX f c - 1) (pY f c) (pZ f c) else if d = 3 then cellF f (pX f c) (pY f c - 1) (pZ f c) else
        if d = 4 then cellF f (pX f c) (pY f c) (pZ f c + 1) else if d = 5 then cellF f (pX f c) (pY f c) (pZ f c - 1) else -1) := by
      unfold nbr; rw [if_neg (by simp [hc])]
    have hd6 : d = 0 ∨ d = 1 ∨ d = 2 ∨ d = 3 ∨ d = 4 ∨ d = 5 := by omega
    rcases hd6 with e | e | e | e | e | e <;> subst e <;> simp only [if_pos, Int.reduceEq, if_false] at hn <;> rw [hn] at hp <;>
      refine ⟨_, rfl, S_floor_Cell h ?_⟩ <;> (try simp only []) <;> rw [w64_eq (by omega) (by omega), w64_eq (by omega) (by omega), w64_eq (by omega) (by omega)] <;>
      first | exact hp | (simpa [Int.sub_eq_add_neg] using hp)
theorem S_floor_Next {f : ApiFloor} (h : RF f) {c d : Int} {post : Int × Bool → Prop} (hp : post (nx f c d)) : V_floor_Next f c d post := by
  unfold V_floor_Next
  refine S_floor_beside h ?_
  have hb := nbr_ok h c d
  have hc : 0 ≤ nbr f c d → isC f c = true ∧ 0 ≤ d ∧ d < 6 := fun a1 => by
    have hc : isC f c = true := by
      cases hc : isC f c
      · exact absurd (by rw [nbr, if_pos hc]; omega) (Int.not_lt.2 a1)
      · rfl
    refine ⟨hc, ?_⟩
    unfold nbr at a1
    rw [if_neg (by simp [hc])] at a1
    repeat' split at a1
    all_goals omega
  have hn : 0 ≤ nbr f c d → isC f (nbr f c d) = true := fun a1 => by rcases hb with e | e; (exact absurd a1 (by omega)); exact e
  refine Jn.eq (decide (nbr f c d < 0 ∨ kd f c = 0 ∨ kd f (nbr f c d) = 0 ∨ band .i64 (shrI .i64 (ot f c) d) 1 = 0)) (Ite.mk (fun h1 => ?_) (fun h1 => ?_)) (Ite.mk (fun h1 => ?_) (fun h1 => ?_))
  · simp only [decide_eq_true_eq] at h1; simp [h1]
  · simp only [decide_eq_false_iff_not, Int.not_lt] at h1
    obtain ⟨hc, hd⟩ := hc h1
    refine ⟨_, idx_kd hc, Ite.mk (fun h2 => ?_) (fun h2 => ⟨_, idx_kd (hn h1), Ite.mk (fun h3 => ?_) (fun h3 => ⟨_, idx_ot h hc, hd.1, ?_⟩)⟩)⟩
    · simp at h2; simp [h2]
    · simp at h3; simp [h3]
    · simp at h2 h3; simp only [h2, h3, Int.not_lt.2 h1, false_or]; rfl
  · simp only [decide_eq_true_eq] at h1
    have : nx f c d = (0, false) := by unfold nx; rw [if_pos h1]
    rw [← this]; exact hp
  · simp only [decide_eq_false_iff_not] at h1
    have h0 : 0 ≤ nbr f c d := by simp only [not_or] at h1; omega
    obtain ⟨hc, hd⟩ := hc h0
    have e : nx f c d = if 4 ≤ d ∧ (kd f c ≠ 6 ∨ kd f (nbr f c d) ≠ 6) then (0, false) else (nbr f c d, true) := by unfold nx; rw [if_neg h1]
    have lift : ∀ {J : Bool → Prop}, J (decide (kd f c ≠ 6 ∨ kd f (nbr f c d) ≠ 6)) → ∃ x15, idx f.Kind c = some x15 ∧ Ite (x15 != 6) (J true) (∃ x17, idx f.Kind (nbr f c d) = some x17 ∧ J (x17 != 6)) := fun {J} hJ => by
      refine ⟨_, idx_kd hc, Ite.mk (fun h2 => ?_) (fun h2 => ⟨_, idx_kd (hn h0), ?_⟩)⟩
      · simp at h2; simpa [h2] using hJ
      · simp at h2
        have e : (kd f (nbr f c d) != 6) = decide (kd f c ≠ 6 ∨ kd f (nbr f c d) ≠ 6) := by rw [h2]; by_cases h3 : kd f (nbr f c d) = 6 <;> simp [h3]
        rw [e]; exact hJ
    refine Jn.eq (decide (4 ≤ d ∧ (kd f c ≠ 6 ∨ kd f (nbr f c d) ≠ 6))) (Ite.mk (fun h2 => ?_) (fun h2 => Ite.mk (fun h3 => ?_) (fun h3 => ?_))) (Ite.mk (fun h2 => ?_) (fun h2 => ?_))
    · simp at h2; exact lift (J := fun x => x = decide (4 ≤ d ∧ (kd f c ≠ 6 ∨ kd f (nbr f c d) ≠ 6))) (by simp [h2])
    · simp at h3; exact lift (J := fun x => x = decide (4 ≤ d ∧ (kd f c ≠ 6 ∨ kd f (nbr f c d) ≠ 6))) (by simp [h3])
    · simp at h2 h3
      have : ¬ 4 ≤ d := by omega
      simp [this]
    · simp only [decide_eq_true_eq] at h2
      rw [e, if_pos h2] at hp; exact hp
    · simp only [decide_eq_false_iff_not] at h2
      rw [e, if_neg h2] at hp; exact hp
end Go.Taq

/- The mathematics, part PR: the floor's reference, few cells, and the search in a row that ascends. -/
set_option linter.unusedVariables false
set_option linter.unusedSimpArgs false
namespace Go.Taq
open Go
theorem S_ref07_Size {f : ApiFloor} (h : RF f) {post : Int → Prop} (hp : post f.Kind.length) : V_taquinref07_Size f post := by
  unfold V_taquinref07_Size; rw [h.size]; exact hp
theorem S_ref07_Is {f : ApiFloor} (h : RF f) {c : Int} {post : Bool → Prop} (hp : post (isC f c)) : V_taquinref07_Is f c post := by
  unfold V_taquinref07_Is
  refine Jn.mk' (Ite.mk (fun h1 => S_ref07_Size h ?_) (fun h1 => ?_))
  · have : isC f c = decide (c < f.Kind.length) := by simp at h1; simp [isC, h1]
    rw [← this]; exact hp
  · have : isC f c = false := by simp at h1; simp [isC]; omega
    rw [← this]; exact hp
theorem S_ref07_Cell {f : ApiFloor} (h : RF f) {x y z : Int} {post : Int → Prop} (hp : post (cellF f x y z)) : V_taquinref07_Cell f x y z post := by
  unfold V_taquinref07_Cell
  refine Jor6 (Ite.mk (fun h1 => ?_) (fun h1 => ?_))
  · have : cellF f x y z = -1 := by
      unfold cellF
      rw [if_neg]
      simp only [Bool.or_eq_true, decide_eq_true_eq] at h1
      omega
    rw [← this]; exact hp
  · have : 0 ≤ x ∧ x < f.W ∧ 0 ≤ y ∧ y < f.H ∧ 0 ≤ z ∧ z < f.D := by
      simp only [Bool.or_eq_false_iff, decide_eq_false_iff_not] at h1
      omega
    rw [cellF_w h this]; exact hp
theorem S_ref07_At {f : ApiFloor} (h : RF f) {c : Int} (hc : isC f c = true) {post : (Int × Int × Int) → Prop} (hp : post (pX f c, pY f c, pZ f c)) : V_taquinref07_At f c post := by
  unfold V_taquinref07_At
  refine S_ref07_Is h ?_
  rw [hc]
  refine Ite.f rfl ?_
  rw [isC_iff] at hc
  have w := h.W1; have hh := h.H1; have hd := h.D1; have wh := h.wh; have hl := h.len.1
  have e1 : 0 ≤ c / f.W ∧ c / f.W ≤ c := ⟨Int.ediv_nonneg hc.1 (by omega), Int.ediv_le_self _ hc.1⟩
  have e2 : 0 ≤ c / f.W / f.H ∧ c / f.W / f.H ≤ c / f.W := ⟨Int.ediv_nonneg e1.1 (by omega), Int.ediv_le_self _ e1.1⟩
  refine ⟨by omega, by omega, by omega, ?_⟩
  rw [Int.tmod_eq_emod_of_nonneg hc.1, Int.tdiv_eq_ediv_of_nonneg hc.1, w64_eq (x := c / f.W) (by omega) (by omega), Int.tmod_eq_emod_of_nonneg e1.1, Int.tdiv_eq_ediv_of_nonneg e1.1, w64_eq (x := c / f.W / f.H) (by omega) (by omega)]
  exact ⟨by omega, by omega, hp⟩
theorem S_ref07_Beside {f : ApiFloor} (h : RF f) {c d : Int} {post : Int → Prop} (hp : post (nbr f c d)) : V_taquinref07_Beside f c d post := by
  unfold V_taquinref07_Beside
  refine S_ref07_Is h (Ite.mk (fun h1 => ?_) (fun h1 => ?_))
  · simp only [Bool.not_eq_true'] at h1
    rw [nbr, if_pos h1] at hp; exact hp
  · simp only [Bool.not_eq_false'] at h1
    refine S_ref07_At h h1 ?_
    have hb := p_bd h h1
    have w := h.W4; have hh := h.H4; have hd := h.D4
    rw [nbr, if_neg (by simp [h1])] at hp
    simp only [Ite_if, beq_iff_eq]
    repeat' split at hp
    all_goals (repeat' split) <;> first | omega | skip
    all_goals first | (refine S_ref07_Cell h ?_; (try simp only []); rw [w64_eq (by omega) (by omega)]; exact hp) | exact hp
theorem S_ref07_Next {f : ApiFloor} (h : RF f) {c d : Int} (hd : -1 ≤ d ∧ d < 1000) {post : Int × Bool → Prop} (hp : post (nx f c d)) : V_taquinref07_Next f c d post := by
  unfold V_taquinref07_Next
  refine S_ref07_Beside h ?_
  have hn := nx_ok h (c := c) (d := d)
  have hb := nbr_ok h c d
  unfold nx at hp
  refine Ite.mk (fun h1 => ?_) (fun h1 => ?_)
  · simp at h1; rw [if_pos (.inl h1)] at hp; exact hp
  · simp at h1
    have hc : isC f c = true := by
      cases hc : isC f c
      · exact absurd (by rw [nbr, if_pos hc]; omega) (Int.not_lt.2 h1)
      · rfl
    have hnb : isC f (nbr f c d) = true := by rcases hb with e | e; (exact absurd h1 (by omega)); exact e
    have hd6 : 0 ≤ d ∧ d < 6 := by
      unfold nbr at h1
      rw [if_neg (by simp [hc])] at h1
      repeat' split at h1
      all_goals omega
    have hw : IntKind.wrap .u64 d = d := by simp [IntKind.wrap, IntKind.signed, IntKind.bits]; omega
    rw [hw]
    refine Jn.eq (decide (kd f c = 0 ∨ kd f (nbr f c d) = 0 ∨ band .i64 (shrI .i64 (ot f c) d) 1 = 0)) ⟨_, idx_kd hc, Ite.mk (fun h2 => ?_) (fun h2 => ⟨_, idx_kd hnb, Ite.mk (fun h3 => ?_) (fun h3 => ⟨_, idx_ot h hc, hd6.1, ?_⟩)⟩)⟩ (Ite.mk (fun h2 => ?_) (fun h2 => ?_))
    · simp at h2; simp [h2]
    · simp at h3; simp [h3]
    · simp at h2 h3; simp only [h2, h3, false_or]; rfl
    · simp only [decide_eq_true_eq] at h2
      rw [if_pos (.inr h2)] at hp; exact hp
    · simp only [decide_eq_false_iff_not] at h2
      rw [if_neg (by simp only [not_or] at h2 ⊢; exact ⟨by omega, h2⟩)] at hp
      refine Jn.eq (decide (4 ≤ d ∧ (kd f c ≠ 6 ∨ kd f (nbr f c d) ≠ 6))) (Ite.mk (fun h3 => ⟨_, idx_kd hc, Ite.mk (fun h4 => ?_) (fun h4 => ⟨_, idx_kd hnb, ?_⟩)⟩) (fun h3 => ?_)) (Ite.mk (fun h3 => ?_) (fun h3 => ?_))
      · simp at h3 h4; simp [h3, h4]
      · simp at h3 h4; simp only [h3, h4]
        by_cases e : kd f (nbr f c d) = 6 <;> simp [e]
      · simp at h3; simp; omega
      · simp only [decide_eq_true_eq] at h3
        rw [if_pos h3] at hp; exact hp
      · simp only [decide_eq_false_iff_not] at h3
        rw [if_neg h3] at hp; exact hp
theorem S_ref07_Few {f : ApiFloor} {n : Int} {post : Bool → Prop} (hF : post false) (hT : f.Kind.length ≤ n → f.Out.length ≤ n → post true) : V_taquinref07_Few f n post := by
  unfold V_taquinref07_Few
  refine Jn.mk' (Ite.mk (fun h1 => ?_) (fun h1 => hF))
  simp at h1
  cases hb : decide ((f.Out.length : Int) ≤ n)
  · exact hF
  · exact hT h1 (by simpa using hb)
/-- ascending -/
def Asc (xs : List Int) : Prop := ∀ (i j : Nat) x y, i < j → xs[i]? = some x → xs[j]? = some y → x < y
theorem S_slices_BinarySearch {xs : List Int} {t : Int} (hl : xs.length ≤ maxLen) (ha : Asc xs) {post : Int × Bool → Prop} (hp : ∀ i, (xs.contains t = true → 0 ≤ i ∧ xs[i.toNat]? = some t) → post (i, xs.contains t)) : V_slices_BinarySearch_int_int xs t post := by
  unfold V_slices_BinarySearch_int_int
  have hm : (xs.length : Int) ≤ 9223372036854775807 := by simp [maxLen] at hl; omega
  refine Jn.mk (fun i : Int => 0 ≤ i ∧ i ≤ xs.length ∧ (∀ (j : Nat) x, (j : Int) < i → xs[j]? = some x → x < t) ∧ (∀ (j : Nat) x, i ≤ (j : Int) → xs[j]? = some x → t ≤ x))
    (Loop.mk (fun s : Int × Int => 0 ≤ s.1 ∧ s.1 ≤ s.2 ∧ s.2 ≤ xs.length ∧ (∀ (j : Nat) x, (j : Int) < s.1 → xs[j]? = some x → x < t) ∧ (∀ (j : Nat) x, s.2 ≤ (j : Int) → xs[j]? = some x → t ≤ x)) (fun s => (s.2 - s.1).toNat) ⟨by simp, by simp, by simp, fun j x hj => absurd hj (by simp), fun j x hj hx => ?_⟩ ?_) ?_
  · have := (List.getElem?_eq_some_iff.1 hx).1
    simp at hj; omega
  · rintro ⟨i, j⟩ ⟨h0, h1, h2, h3, h4⟩
    simp only at h0 h1 h2 h3 h4
    refine Ite.mk (fun hlt => ?_) (fun hge => ?_)
    · simp only [decide_eq_true_eq] at hlt
      have e : IntKind.wrap .i64 (shrI .u64 (IntKind.wrap .u64 (w64 (i + j))) 1) = (i + j) / 2 := by
        have e1 : IntKind.wrap .u64 (w64 (i + j)) = i + j := by simp [w64, IntKind.wrap, IntKind.signed, IntKind.bits]; omega
        rw [e1, shrI]
        have e2 : (i + j).fdiv (2 ^ (min (1 : Int).toNat IntKind.u64.bits)) = (i + j) / 2 := by
          rw [Int.fdiv_eq_ediv_of_nonneg _ (by decide)]; rfl
        rw [e2]
        exact w64_eq (by omega) (by omega)
      simp only []
      rw [e]
      have hmid : i ≤ (i + j) / 2 ∧ (i + j) / 2 < j := by omega
      refine ⟨_, idx_get (by omega) (by omega), ?_⟩
      generalize hx : xs[((i + j) / 2).toNat]'(by omega) = x
      have hx' : xs[((i + j) / 2).toNat]? = some x := by rw [List.getElem?_eq_getElem (by omega), hx]
      unfold V_cmp_Less_int V_cmp_isNaN_int
      refine Jn.eq (decide (x < t)) (Ite.f (by simp) rfl) ?_
      refine Jn.mk (fun s : Int × Int => s = (if x < t then (i + j) / 2 + 1 else i, if x < t then j else (i + j) / 2)) (Ite.mk (fun h5 => ?_) (fun h5 => ?_)) ?_
      · simp at h5; simp only [h5, if_true]
        rw [w64_eq (by omega) (by omega)]
      · simp at h5; simp [Int.not_lt.2 h5]
      · rintro ⟨a, b⟩ e3
        cases e3
        by_cases h5 : x < t
        · simp only [h5, if_true]
          refine ⟨⟨by omega, by omega, by omega, fun q y hq hy => ?_, h4⟩, by omega⟩
          rcases Nat.lt_or_ge q ((i + j) / 2).toNat with h6 | h6
          · exact Int.lt_trans (ha _ _ _ _ h6 hy hx') h5
          · have : q = ((i + j) / 2).toNat := by omega
            subst this; rw [hx'] at hy; cases hy; exact h5
        · simp only [h5, if_false]
          refine ⟨⟨by omega, by omega, by omega, h3, fun q y hq hy => ?_⟩, by omega⟩
          rcases Nat.lt_or_ge ((i + j) / 2).toNat q with h6 | h6
          · have := ha _ _ _ _ h6 hx' hy; omega
          · have : q = ((i + j) / 2).toNat := by omega
            subst this; rw [hx'] at hy; cases hy; omega
    · simp only [decide_eq_false_iff_not] at hge
      have : i = j := by omega
      subst this
      exact ⟨h0, h2, h3, h4⟩
  · rintro i ⟨h0, h1, h3, h4⟩
    have hc : xs.contains t = true ↔ ∃ j : Nat, xs[j]? = some t := by
      rw [List.contains_iff_mem]; exact List.mem_iff_getElem?
    have hi : xs.contains t = true → 0 ≤ i ∧ xs[i.toNat]? = some t := fun hcc => by
      obtain ⟨j, hj⟩ := hc.1 hcc
      have hjl := (List.getElem?_eq_some_iff.1 hj).1
      refine ⟨h0, ?_⟩
      rcases Nat.lt_or_ge j i.toNat with h6 | h6
      · have := h3 j t (by omega) hj; omega
      · rcases Nat.lt_or_ge i.toNat j with h7 | h7
        · have hx : xs[i.toNat]? = some (xs[i.toNat]'(by omega)) := List.getElem?_eq_getElem _
          have := ha _ _ _ _ h7 hx hj
          have := h4 i.toNat _ (by omega) hx
          omega
        · have : j = i.toNat := by omega
          rw [← this]; exact hj
    refine Jn.eq (xs.contains t) (Ite.mk (fun hlt => ?_) (fun hge => ?_)) (hp i hi)
    · simp only [decide_eq_true_eq] at hlt
      refine ⟨_, idx_get h0 hlt, ?_⟩
      generalize hx : xs[i.toNat]'(by omega) = x
      have hx' : xs[i.toNat]? = some x := by rw [List.getElem?_eq_getElem (by omega), hx]
      refine Ite.mk (fun h5 => ?_) (fun h5 => ?_)
      · simp at h5; subst h5
        exact (hc.2 ⟨_, hx'⟩).symm
      · unfold V_slices_isNaN_int
        refine Ite.f (by simp) ?_
        simp at h5
        cases hcc : xs.contains t
        · rfl
        · obtain ⟨j, hj⟩ := hc.1 hcc
          exfalso
          rcases Nat.lt_or_ge j i.toNat with h6 | h6
          · have := h3 j t (by omega) hj; omega
          · rcases Nat.lt_or_ge i.toNat j with h7 | h7
            · have := ha _ _ _ _ h7 hx' hj
              have := h4 i.toNat x (by omega) hx'
              omega
            · have : j = i.toNat := by omega
              subst this; rw [hx'] at hj; cases hj; exact h5 rfl
    · simp only [decide_eq_false_iff_not] at hge
      cases hcc : xs.contains t
      · rfl
      · obtain ⟨j, hj⟩ := hc.1 hcc
        have := (List.getElem?_eq_some_iff.1 hj).1
        have := h3 j t (by omega) hj; omega
end Go.Taq
