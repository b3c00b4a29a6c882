/- The mathematics of layouts, part F: the reference's layouts and shifts; right layouts. -/
import Derived.Test.YtenplejkcfhplaaPE
set_option linter.unusedVariables false
namespace Go.Taq
open Go
section
variable {n k : Nat} (h1 : 1 ≤ k) (h2 : k ≤ n) (h3 : n ≤ 12)
include h1 h2 h3
theorem S_rUnrank {i : Nat} (hi : i < n * ch (n - 1) (k - 1)) {post : ApiLayout × Bool → Prop} (hp : post (unrank n k i, true)) : V_taquinref25_Unrank (n : Int) (k : Int) (i : Int) post := by
  unfold V_taquinref25_Unrank
  have hcl := count_le (k := k) h3
  have hc0 : 0 < ch (n - 1) (k - 1) := ch_pos (by omega)
  refine Jn.mk (fun b => b = false) (Ite.f (by simp) (S_rCount h1 h2 h3 (by simp only [decide_eq_false_iff_not]; omega))) (fun b e => Ite.f e ?_)
  have w1 := w64_p (i := n) (by omega) (by omega)
  have w2 := w64_p (i := k) (by omega) (by omega)
  rw [w1, w2]
  refine S_rChoose (by omega) (by omega) ?_
  rw [chi_nat]
  have w3 : w64 ((i : Int).tdiv (ch (n - 1) (k - 1) : Nat)) = ((i / ch (n - 1) (k - 1) : Nat) : Int) := by
    have : (i : Int).tdiv (ch (n - 1) (k - 1) : Nat) = ((i / ch (n - 1) (k - 1) : Nat) : Int) := rfl
    have h := Nat.div_le_self i (ch (n - 1) (k - 1))
    rw [this]
    generalize i / ch (n - 1) (k - 1) = q at h
    rw [w64_eq (by omega) (by omega)]
  have w4 : (i : Int).tmod (ch (n - 1) (k - 1) : Nat) = ((i % ch (n - 1) (k - 1) : Nat) : Int) := rfl
  refine ⟨by omega, ⟨by omega, by omega⟩, by omega, ?_⟩
  simp only [w3, w4]
  have hT : i / ch (n - 1) (k - 1) < n := (Nat.div_lt_iff_lt_mul hc0).2 hi
  have hr := Nat.mod_lt i hc0
  have hun : unrank n k i = { Full := unF (i / ch (n - 1) (k - 1)) 0 n (k - 1) (i % ch (n - 1) (k - 1)), Target := ((i / ch (n - 1) (k - 1) : Nat) : Int) } := rfl
  rw [hun] at hp
  generalize i / ch (n - 1) (k - 1) = T at *
  generalize i % ch (n - 1) (k - 1) = r0 at *
  generalize hfull : unF T 0 n (k - 1) r0 = full at *
  have hfl : full.length = n := by rw [← hfull]; exact unF_len _ _ _ _ _
  refine Jn.mk (fun x => x = full) (Loop.inv n (fun j (s : List Bool × Int × Int × Int × Int) => s.2.2.2.2 = (j : Int) ∧ s.1 = full.take j ++ List.replicate (n - j) false ∧ s.2.2.2.1 = (oth T j (n - j) : Nat) ∧
    ∃ nd r : Nat, s.2.2.1 = (nd : Int) ∧ s.2.1 = (r : Int) ∧ full.drop j = unF T j (n - j) nd r ∧ r < ch (oth T j (n - j)) nd ∧ nd ≤ 12) ⟨rfl, by simp, by simp [oth], k - 1, r0, rfl, rfl, by simpa using hfull.symm, by simpa [oth] using hr, by omega⟩ (fun j s hj hI => ?_) (fun s hI => ?_)) (fun x e => by subst e; exact hp)
  · obtain ⟨row, rs, nd', lf, q⟩ := s
    obtain ⟨rfl, hrow, rfl, nd, r, rfl, rfl, hdr, hr, hnd⟩ := hI
    obtain ⟨m, hm⟩ : ∃ m, n - j = m + 1 := ⟨n - j - 1, by omega⟩
    have hm' : n - (j + 1) = m := by omega
    rw [hm] at hdr hr
    replace hrow : row = full.take j ++ List.replicate (m + 1) false := by rw [← hm]; exact hrow
    have hix := idx_row (by omega) hrow
    have hom : oth T (j + 1) m ≤ 12 := by unfold oth; split <;> omega
    refine Ite.lt (by show (j : Int) < n; omega) (Jn.mk (fun (s : List Bool × Int × Int × Int) => s.1 = full.take (j + 1) ++ List.replicate m false ∧ s.2.2.2 = (oth T (j + 1) m : Nat) ∧ ∃ nd r : Nat, s.2.2.1 = (nd : Int) ∧ s.2.1 = (r : Int) ∧ full.drop (j + 1) = unF T (j + 1) m nd r ∧ r < ch (oth T (j + 1) m) nd ∧ nd ≤ 12) ?_
      (fun s ⟨e1, e2, e3⟩ => ⟨by show w64 ((j : Int) + 1) = _; exact w64_1 (by omega), by rw [hm']; exact e1, by rw [hm']; exact e2, by rw [hm']; exact e3⟩))
    unfold unF at hdr
    refine Ite.mk (fun e => ?_) (fun e => ?_)
    · have e' : j = T := by have : (j : Int) = (T : Int) := beq_iff_eq.1 e; omega
      rw [if_pos e'] at hdr
      obtain ⟨hx, hd2⟩ := drop_cons hdr
      refine ⟨_, hix, ?_, ?_, nd, r, rfl, rfl, hd2, ?_, hnd⟩
      · show row.set (Int.toNat (j : Int)) true = _
        rw [Int.toNat_natCast]; exact set_row (by omega) hrow hx
      · have : oth T (j + 1) m = oth T j (n - j) := by unfold oth; rw [if_neg (by omega), if_pos (by omega)]; omega
        show ((oth T j (n - j) : Nat) : Int) = _
        rw [this]
      · have : oth T (j + 1) m = oth T j (m + 1) := by unfold oth; rw [if_neg (by omega), if_pos (by omega)]; omega
        rw [this]; exact hr
    · have e' : j ≠ T := by rintro rfl; simp at e
      rw [if_neg e'] at hdr
      have hoi : oth T j (n - j) = oth T (j + 1) m + 1 := by unfold oth; split <;> split <;> omega
      have w5 : w64 (((oth T j (n - j) : Nat) : Int) - 1) = (oth T (j + 1) m : Nat) := by rw [hoi, w64_p (by omega) (by omega)]; simp
      have hoi' : oth T j (m + 1) = oth T (j + 1) m + 1 := by rw [← hm]; exact hoi
      rw [hoi', ch_succ] at hr
      have w6 : w64 ((nd : Int) - 1) = (nd : Int) - 1 := by rw [w64_eq (by omega) (by omega)]
      simp only [w5, w6]
      refine S_rChoose (by omega) (by omega) ?_
      rw [chi_m]
      have hb1 : chm (oth T (j + 1) m) nd ≤ 16777216 := by
        cases nd with
        | zero => simp [chm]
        | succ q => exact ch_small (by omega)
      refine Jn.mk (fun (s : List Bool × Int × Int) => s.1 = full.take (j + 1) ++ List.replicate m false ∧ ∃ nd r : Nat, s.2.2 = (nd : Int) ∧ s.2.1 = (r : Int) ∧ full.drop (j + 1) = unF T (j + 1) m nd r ∧ r < ch (oth T (j + 1) m) nd ∧ nd ≤ 12) (Ite.mk (fun hl => ?_) (fun hl => ?_)) (fun s ⟨e1, e2⟩ => ⟨e1, by trivial, e2⟩)
      · have hl' : r < chm (oth T (j + 1) m) nd := by have := of_decide_eq_true hl; omega
        rw [if_pos hl'] at hdr
        obtain ⟨hx, hd2⟩ := drop_cons hdr
        have hz' : 1 ≤ nd := by
          cases nd with
          | zero => simp [chm] at hl'
          | succ q => omega
        refine ⟨_, hix, (by show row.set (Int.toNat (j : Int)) true = _; rw [Int.toNat_natCast]; exact set_row (by omega) hrow hx), nd - 1, r, (by show (nd : Int) - 1 = _; omega), rfl, hd2, ?_, by omega⟩
        obtain ⟨q, rfl⟩ : ∃ q, nd = q + 1 := ⟨nd - 1, by omega⟩
        exact hl'
      · have hl' : ¬ r < chm (oth T (j + 1) m) nd := by have := of_decide_eq_false hl; omega
        rw [if_neg hl'] at hdr
        obtain ⟨hx, hd2⟩ := drop_cons hdr
        have hrb : r ≤ 100000000 := by have := ch_small (n := oth T (j + 1) m) (k := nd) (by omega); omega
        refine ⟨skip_row (by omega) hrow hx, nd, r - chm (oth T (j + 1) m) nd, rfl, ?_, hd2, by omega, hnd⟩
        show w64 ((r : Int) - (chm (oth T (j + 1) m) nd : Nat)) = _
        rw [w64_eq (by omega) (by omega)]; omega
  · obtain ⟨row, rs, nd', lf, q⟩ := s
    obtain ⟨rfl, hrow, _⟩ := hI
    refine Ite.nlt (by show ¬ (n : Int) < n; omega) ?_
    show row = full
    replace hrow : row = full.take n ++ List.replicate (n - n) false := hrow
    rw [hrow, List.take_of_length_le (by omega)]; simp
end
theorem S_rDo {l : ApiLayout} {a b : Nat} (ha : l.Full[a]? = some true) (hb : l.Full[b]? = some false) (hl : l.Full.length ≤ 1000) {post : ApiLayout × Int → Prop} (hp : post (doL l a b, 0)) : V_taquinref25_Do l { From := a, To := b } post := by
  unfold V_taquinref25_Do
  have hal := (List.getElem?_eq_some_iff.1 ha).1
  have hbl := (List.getElem?_eq_some_iff.1 hb).1
  have hab : a ≠ b := by rintro rfl; rw [ha] at hb; simp at hb
  refine Jn.mk (fun b => b = false) (Ite.f (by simp) (Ite.f (by simp; omega) (Ite.f (by simp) (by simp; omega)))) (fun x e => Ite.f e (Jn.mk (fun b => b = false) ⟨true, idx_of rfl ha, Ite.t rfl ⟨false, idx_of rfl hb, rfl⟩⟩ (fun x e => Ite.f e ?_)))
  simp only [List.nil_append, Int.toNat_natCast]
  refine ⟨by simp; omega, true, idx_of rfl ha, false, idx_of rfl (by simpa [List.getElem?_set_ne hab] using hb), Jn.mk' ?_⟩
  refine Ite.mk (fun h => ?_) (fun h => ?_)
  · have := beq_iff_eq.1 h
    simpa [doL, this] using hp
  · have h' : l.Target ≠ (a : Int) := by intro e; simp [e] at h
    simpa [doL, h'] using hp
/-- a right layout is one of so many cells and shelves -/
theorem S_rLRight {l : ApiLayout} {post : Bool → Prop} (hF : post false) (hT : l.Full.length ≤ 24 → LOk l.Full.length (l.Full.count true) l → post true) : V_taquinref25_Right l post := by
  unfold V_taquinref25_Right
  by_cases c1 : (l.Full.length : Int) < 1
  · exact Jn.mk (fun b => b = true) (Ite.t (by simpa using c1) rfl) (fun b e => Ite.t e hF)
  by_cases c2 : (l.Full.length : Int) > 24
  · exact Jn.mk (fun b => b = true) (Ite.f (by simpa using c1) (Ite.t (by simpa using c2) rfl)) (fun b e => Ite.t e hF)
  by_cases c3 : l.Target < 0
  · exact Jn.mk (fun b => b = true) (Ite.f (by simpa using c1) (Ite.f (by simpa using c2) (Ite.t (by simpa using c3) rfl))) (fun b e => Ite.t e hF)
  by_cases c4 : l.Target ≥ (l.Full.length : Int)
  · exact Jn.mk (fun b => b = true) (Ite.f (by simpa using c1) (Ite.f (by simpa using c2) (Ite.f (by simpa using c3) (by simpa using c4)))) (fun b e => Ite.t e hF)
  refine Jn.mk (fun b => b = false) (Ite.f (by simpa using c1) (Ite.f (by simpa using c2) (Ite.f (by simpa using c3) (by simpa using c4)))) (fun b e => Ite.f e ?_)
  have hx : l.Full[l.Target.toNat]? = some (l.Full[l.Target.toNat]'(by omega)) := List.getElem?_eq_getElem _
  generalize l.Full[l.Target.toNat]'(by omega) = b at hx
  refine ⟨b, idx_of (by omega) hx, ?_⟩
  cases b with
  | false => exact hF
  | true => exact hT (by omega) ⟨rfl, rfl, by omega, hx⟩
end Go.Taq
