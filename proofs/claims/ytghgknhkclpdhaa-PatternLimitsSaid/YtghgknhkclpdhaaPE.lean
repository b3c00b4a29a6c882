/- The mathematics, several parts in one text. -/
import Derived.Test.YtghgknhkclpdhaaVc
import Derived.Test.YtghgknhkclpdhaaPA
/- The mathematics of layouts, part B: ranks of layouts. -/
set_option linter.unusedVariables false
set_option linter.unusedSimpArgs false
namespace Go.Taq
open Go
/-- a layout of so many cells and shelves -/
structure LOk (n k : Nat) (l : ApiLayout) : Prop where
  len : l.Full.length = n
  cnt : l.Full.count true = k
  t0 : 0 ≤ l.Target
  get : l.Full[l.Target.toNat]? = some true
def rank (n k : Nat) (l : ApiLayout) : Nat := l.Target.toNat * ch (n - 1) (k - 1) + rkB (othF l.Target.toNat 0 l.Full)
def unrank (n k i : Nat) : ApiLayout := { Full := unF (i / ch (n - 1) (k - 1)) 0 n (k - 1) (i % ch (n - 1) (k - 1)), Target := (i / ch (n - 1) (k - 1) : Nat) }
section
variable {n k : Nat} {l : ApiLayout}
theorem LOk.tlt (h : LOk n k l) : l.Target.toNat < n := by rw [← h.len]; exact (List.getElem?_eq_some_iff.1 h.get).1
theorem LOk.kpos (h : LOk n k l) : 1 ≤ k := by rw [← h.cnt]; exact List.count_pos_iff.2 (List.mem_of_getElem? h.get)
theorem LOk.kle (h : LOk n k l) : k ≤ n := by rw [← h.cnt, ← h.len]; exact List.count_le_length
theorem LOk.oth (h : LOk n k l) : (othF l.Target.toNat 0 l.Full).length = n - 1 ∧ (othF l.Target.toNat 0 l.Full).count true = k - 1 := by
  refine ⟨?_, ?_⟩
  · rw [othF_len _ _ _ (fun _ => by have := h.tlt; rw [h.len]; omega), Go.Taq.oth, if_pos (Nat.zero_le _), h.len]
  · rw [othF_count _ _ _ (fun _ => by simpa using h.get), if_pos (Nat.zero_le _), h.cnt]
theorem LOk.rkB_lt (h : LOk n k l) : rkB (othF l.Target.toNat 0 l.Full) < ch (n - 1) (k - 1) := by
  have := Go.Taq.rkB_lt (othF l.Target.toNat 0 l.Full)
  rwa [h.oth.1, h.oth.2] at this
theorem LOk.rank_lt (h : LOk n k l) : rank n k l < n * ch (n - 1) (k - 1) := by
  have h1 := h.rkB_lt
  have h2 := h.tlt
  have h3 := Nat.mul_le_mul_right (ch (n - 1) (k - 1)) (show l.Target.toNat + 1 ≤ n from h2)
  rw [Nat.add_mul, Nat.one_mul] at h3
  unfold rank; omega
theorem LOk.unrank (h : LOk n k l) : Go.Taq.unrank n k (rank n k l) = l := by
  have h1 := h.rkB_lt
  have hc : 0 < ch (n - 1) (k - 1) := by omega
  have e1 : rank n k l / ch (n - 1) (k - 1) = l.Target.toNat := by
    unfold rank; rw [Nat.add_comm, Nat.add_mul_div_right _ _ hc, Nat.div_eq_of_lt h1]; omega
  have e2 : rank n k l % ch (n - 1) (k - 1) = rkB (othF l.Target.toNat 0 l.Full) := by
    unfold rank; rw [Nat.add_comm, Nat.add_mul_mod_self_right, Nat.mod_eq_of_lt h1]
  unfold Go.Taq.unrank
  rw [e1, e2]
  have := unF_othF l.Target.toNat l.Full 0 (fun _ => by simpa using h.get)
  rw [h.len, h.oth.2] at this
  rw [this]
  have h0 := h.t0
  cases l; simp only [ApiLayout.mk.injEq, true_and] at h0 ⊢; omega
theorem unrank_ok {i : Nat} (h1 : 1 ≤ k) (h2 : k ≤ n) (hi : i < n * ch (n - 1) (k - 1)) : LOk n k (unrank n k i) ∧ rank n k (unrank n k i) = i := by
  have hc : 0 < ch (n - 1) (k - 1) := ch_pos (by omega)
  have hT : i / ch (n - 1) (k - 1) < n := (Nat.div_lt_iff_lt_mul hc).2 hi
  have hr := Nat.mod_lt i hc
  have ho : othF (i / ch (n - 1) (k - 1)) 0 (unF (i / ch (n - 1) (k - 1)) 0 n (k - 1) (i % ch (n - 1) (k - 1))) = unB (n - 1) (k - 1) (i % ch (n - 1) (k - 1)) := by
    rw [othF_unF _ _ _ _ _ (fun _ => by omega), oth, if_pos (Nat.zero_le _)]
  obtain ⟨hb1, hb2⟩ := unB_ok (n - 1) (k - 1) _ hr
  have hg := unF_get (i / ch (n - 1) (k - 1)) n 0 (k - 1) (i % ch (n - 1) (k - 1)) (Nat.zero_le _) (by omega)
  rw [Nat.sub_zero] at hg
  refine ⟨⟨unF_len _ _ _ _ _, ?_, Int.natCast_nonneg _, by show (unF _ _ _ _ _)[Int.toNat ((i / ch (n - 1) (k - 1) : Nat) : Int)]? = _; rw [Int.toNat_natCast]; exact hg⟩, ?_⟩
  · have := othF_count (i / ch (n - 1) (k - 1)) (unF (i / ch (n - 1) (k - 1)) 0 n (k - 1) (i % ch (n - 1) (k - 1))) 0 (fun _ => by simpa using hg)
    rw [ho, hb1, if_pos (Nat.zero_le _)] at this
    have hp : 0 < (unF (i / ch (n - 1) (k - 1)) 0 n (k - 1) (i % ch (n - 1) (k - 1))).count true := List.count_pos_iff.2 (List.mem_of_getElem? hg)
    show List.count true (unF _ _ _ _ _) = k
    omega
  · unfold rank unrank
    simp only [Int.toNat_natCast]
    rw [ho, hb2, Nat.mul_comm]; exact Nat.div_add_mod i _
end
end Go.Taq

/- The mathematics of layouts, part C: what the layer's functions compute. -/
set_option linter.unusedVariables false
set_option linter.unusedSimpArgs false
namespace Go.Taq
open Go
def ChT (c : List Int) : Prop := ∀ n k : Nat, n < 25 → k < 25 → c[n * 25 + k]? = some (ch n k : Int)
def ChI (i : Nat) (c : List Int) : Prop := c.length = 625 ∧ ∀ n k : Nat, n < 25 → k < 25 → c[n * 25 + k]? = some (if n < i then (ch n k : Int) else 0)
def ChJ (i j : Nat) (c : List Int) : Prop := c.length = 625 ∧ ∀ n k : Nat, n < 25 → k < 25 → c[n * 25 + k]? = some (if n < i ∨ n = i ∧ k ≤ j then (ch n k : Int) else 0)
theorem ch_small {n k : Nat} (h : n < 25) : ch n k ≤ 16777216 := by
  have h1 := ch_pow n k
  have h2 : 2 ^ n ≤ 2 ^ 24 := Nat.pow_le_pow_right (by omega) (by omega)
  omega
theorem ix25 (i j : Nat) : (0 + Int.toNat (i : Int) * 25) + Int.toNat (j : Int) * 1 = i * 25 + j := by simp
theorem S_choose {post : List Int → Prop} (hp : ∀ c, ChT c → post c) : V_layout_choose post := by
  unfold V_layout_choose
  refine Jn.mk (fun c => ChT c) (Loop.inv 25 (fun i (s : List Int × Int) => s.2 = (i : Int) ∧ ChI i s.1) ⟨rfl, List.length_replicate, fun n k hn hk => ?_⟩ (fun i s hi hI => ?_) (fun s hI => ?_)) hp
  · rw [if_neg (by omega), List.getElem?_replicate, if_pos (by omega)]
  · obtain ⟨c, q⟩ := s
    obtain ⟨rfl, hl, hc⟩ := hI
    replace hl : c.length = 625 := hl
    refine Ite.lt (by show (i : Int) < 25; omega) (Jn.mk (fun c => ChI (i + 1) c) ⟨⟨by omega, by show (i : Int) < 25; omega⟩, ⟨by omega, by omega⟩, ?_⟩ (fun c h => ⟨by show w64 ((i : Int) + 1) = _; rw [w64_eq (by omega) (by omega)]; simp, h⟩))
    have h00 := hc i 0 hi (by omega)
    refine ⟨_, (by show c[(0 + Int.toNat (i : Int) * 25) + Int.toNat ((0 : Nat) : Int) * 1]? = _; rw [ix25]; exact h00), ?_⟩
    refine Jn.mk (fun c => ChI (i + 1) c) (Loop.inv i (fun j (s : List Int × Int) => s.2 = (j : Int) ∧ ChJ i j s.1) ⟨rfl, ?_⟩ (fun j s hj hI => ?_) (fun s hI => ?_)) (fun c h => h)
    · show ChJ i 0 (c.set ((0 + Int.toNat (i : Int) * 25) + Int.toNat ((0 : Nat) : Int) * 1) 1)
      rw [ix25]
      refine ⟨by simpa using hl, fun n k hn hk => ?_⟩
      rw [List.getElem?_set]
      by_cases e : i * 25 + 0 = n * 25 + k
      · obtain ⟨rfl, rfl⟩ : i = n ∧ k = 0 := by omega
        rw [if_pos e, if_pos (by omega), if_pos (by omega), ch_zero]; rfl
      · rw [if_neg e, hc n k hn hk]
        by_cases h : n < i
        · rw [if_pos h, if_pos (by omega)]
        · rw [if_neg h, if_neg (by omega)]
    · obtain ⟨d, q⟩ := s
      obtain ⟨rfl, hl, hd⟩ := hI
      replace hl : d.length = 625 := hl
      have w1 : w64 ((i : Int) - 1) = ((i - 1 : Nat) : Int) := by rw [w64_eq (by omega) (by omega)]; omega
      have w2 : w64 ((j : Int) + 1) = ((j + 1 : Nat) : Int) := by rw [w64_eq (by omega) (by omega)]; omega
      have a1 := hd (i - 1) j (by omega) (by omega)
      have a2 := hd (i - 1) (j + 1) (by omega) (by omega)
      have a3 := hd i (j + 1) (by omega) (by omega)
      rw [if_pos (by omega)] at a1 a2
      rw [if_neg (by omega)] at a3
      have hs1 : ch (i - 1) j ≤ 16777216 := ch_small (by omega)
      have hs2 : ch (i - 1) (j + 1) ≤ 16777216 := ch_small (by omega)
      refine Ite.lt (by show (j : Int) < i; omega) ?_
      simp only [w1, w2, ix25]
      refine ⟨⟨by omega, by omega⟩, ⟨by omega, by omega⟩, _, a1, ⟨by omega, by omega⟩, ⟨by omega, by omega⟩, _, a2, ⟨by omega, by omega⟩, ⟨by omega, by omega⟩, _, a3, trivial, by simpa using hl, fun n k hn hk => ?_⟩
      rw [w64_eq (by omega) (by omega), List.getElem?_set]
      by_cases e : i * 25 + (j + 1) = n * 25 + k
      · obtain ⟨rfl, rfl⟩ : i = n ∧ k = j + 1 := by omega
        rw [if_pos e, if_pos (by omega), if_pos (by omega)]
        obtain ⟨m, rfl⟩ : ∃ m, i = m + 1 := ⟨i - 1, by omega⟩
        simp only [Nat.add_sub_cancel, ch]; simp
      · rw [if_neg e, hd n k hn hk]
        by_cases h : n < i ∨ n = i ∧ k ≤ j
        · rw [if_pos h, if_pos (by omega)]
        · rw [if_neg h, if_neg (by omega)]
    · obtain ⟨d, q⟩ := s
      obtain ⟨rfl, hl, hd⟩ := hI
      replace hl : d.length = 625 := hl
      refine Ite.nlt (by show ¬ (i : Int) < i; omega) ⟨hl, fun n k hn hk => ?_⟩
      rw [hd n k hn hk]
      by_cases h : n < i ∨ n = i ∧ k ≤ i
      · rw [if_pos h, if_pos (by omega)]
      · rw [if_neg h]
        by_cases h2 : n < i + 1
        · rw [if_pos h2, ch_lt (by omega)]; rfl
        · rw [if_neg h2]
  · obtain ⟨c, q⟩ := s
    obtain ⟨rfl, hl, hc⟩ := hI
    refine Ite.nlt (by show ¬ ((25 : Nat) : Int) < 25; omega) (fun n k hn hk => ?_)
    rw [hc n k hn hk, if_pos hn]

/-- the number of shelves -/
theorem count_take {l : List Bool} {i : Nat} {b : Bool} (h : l[i]? = some b) : (l.take (i + 1)).count true = (l.take i).count true + (if b = true then 1 else 0) := by
  rw [List.take_add_one, h, Option.toList, List.count_append, List.count_singleton]; cases b <;> simp
theorem S_Shelves {l : ApiLayout} (hl : l.Full.length ≤ maxLen) {post : Int → Prop} (hp : post (l.Full.count true : Nat)) : V_layout_Shelves l post := by
  unfold V_layout_Shelves
  have hml : l.Full.length ≤ 9223372036854775807 := by simp [maxLen] at hl; omega
  refine Jn.mk (fun x => x = ((l.Full.count true : Nat) : Int)) (Loop.inv l.Full.length (fun i (s : Int × Int) => s.2 = (i : Int) ∧ s.1 = ((l.Full.take i).count true : Nat)) ⟨rfl, rfl⟩ (fun i s hi hI => ?_) (fun s hI => ?_)) (fun x e => e ▸ hp)
  · obtain ⟨c, q⟩ := s
    obtain ⟨rfl, rfl⟩ := hI
    have hx : l.Full[i]? = some (l.Full[i]'hi) := List.getElem?_eq_getElem hi
    generalize l.Full[i]'hi = b at hx
    have hc := count_take hx
    have hcl : (l.Full.take i).count true ≤ i := Nat.le_trans List.count_le_length (by simp; omega)
    refine Ite.lt (by show (i : Int) < _; omega) ⟨b, idx_of rfl hx, Jn.mk (fun x => x = (((l.Full.take (i + 1)).count true : Nat) : Int)) (Ite.mk (fun h => ?_) (fun h => ?_)) (fun x e => ⟨w64_nat hi hl, e⟩)⟩
    · rw [hc, if_pos h, w64_eq (by omega) (by omega)]; simp
    · rw [hc, if_neg (by simp [h])]; simp
  · obtain ⟨c, q⟩ := s
    obtain ⟨rfl, rfl⟩ := hI
    refine Ite.nlt (by show ¬ (l.Full.length : Int) < _; omega) ?_
    show ((List.count true (l.Full.take l.Full.length) : Nat) : Int) = _
    rw [List.take_length]

section
variable {n k : Nat} (h1 : 1 ≤ k) (h2 : k ≤ n) (h3 : n ≤ 24)
include h1 h2 h3
omit h1 h2 h3 in
theorem ch_le_924 {a b : Nat} (h : a ≤ 24) : ch a b ≤ 16777216 := by
  have h1 := ch_pow a b
  have h2 : 2 ^ a ≤ 2 ^ 24 := Nat.pow_le_pow_right (by omega) h
  omega
omit h1 h2 in
theorem count_le : n * ch (n - 1) (k - 1) ≤ 402653184 := by
  have := ch_le_924 (a := n - 1) (b := k - 1) (by omega)
  have := Nat.mul_le_mul h3 this
  omega
theorem S_Count {post : Int → Prop} (hp : post ((n * ch (n - 1) (k - 1) : Nat) : Int)) : V_layout_Count (n : Int) (k : Int) post := by
  unfold V_layout_Count
  have hc := count_le (k := k) h3
  refine Jn.mk (fun b => b = false) (Ite.f (by simp; omega) (Ite.f (by simp; omega) (Ite.f (by simp; omega) (by simp; omega)))) (fun b e => Ite.f e (S_choose fun c hc => ?_))
  have w1 : w64 ((n : Int) - 1) = ((n - 1 : Nat) : Int) := by rw [w64_eq (by omega) (by omega)]; omega
  have w2 : w64 ((k : Int) - 1) = ((k - 1 : Nat) : Int) := by rw [w64_eq (by omega) (by omega)]; omega
  simp only [w1, w2, ix25]
  refine ⟨⟨by omega, by omega⟩, ⟨by omega, by omega⟩, _, hc (n - 1) (k - 1) (by omega) (by omega), ?_⟩
  rw [w64_eq (by rw [← Int.natCast_mul]; omega) (by rw [← Int.natCast_mul]; omega), ← Int.natCast_mul]; exact hp

theorem S_Rank {l : ApiLayout} (h : LOk n k l) {post : Int → Prop} (hp : post (rank n k l : Nat)) : V_layout_Rank l post := by
  unfold V_layout_Rank
  have hlm : l.Full.length ≤ maxLen := by rw [h.len]; simp [maxLen]; omega
  have hT := h.tlt
  have hTe : l.Target = ((l.Target.toNat : Nat) : Int) := by have := h.t0; omega
  have hrk : ∀ m, m ≤ n * ch (n - 1) (k - 1) → m ≤ 402653184 := fun m hm => Nat.le_trans hm (count_le h3)
  have hrl := h.rank_lt
  refine S_choose fun c hc => S_Shelves hlm ?_
  rw [h.cnt]
  have w1 : w64 ((l.Full.length : Int) - 1) = ((n - 1 : Nat) : Int) := by rw [h.len, w64_eq (by omega) (by omega)]; omega
  have w2 : w64 ((k : Int) - 1) = ((k - 1 : Nat) : Int) := by rw [w64_eq (by omega) (by omega)]; omega
  simp only [w1, w2, ix25]
  refine ⟨⟨by omega, by omega⟩, ⟨by omega, by omega⟩, _, hc (n - 1) (k - 1) (by omega) (by omega), ?_⟩
  generalize hTd : l.Target.toNat = T at *
  have hoth : ∀ i, oth T i (n - i) ≤ n := fun i => by unfold oth; split <;> omega
  have hol : ∀ i, i ≤ n → (othF T i (l.Full.drop i)).length = oth T i (n - i) := fun i hi => by
    rw [othF_len T _ i (fun _ => by rw [List.length_drop, h.len]; omega), List.length_drop, h.len]
  refine Jn.mk (fun x => x = ((rank n k l : Nat) : Int)) (Loop.inv n (fun i (s : Int × Int × Int × Int) => s.2.2.2 = (i : Int) ∧ s.2.1 = (oth T i (n - i) : Nat) ∧ s.2.2.1 = ((othF T i (l.Full.drop i)).count true : Nat) ∧ ∃ m : Nat, s.1 = (m : Int) ∧ m + rkB (othF T i (l.Full.drop i)) = rank n k l) ⟨rfl, ?_, ?_, l.Target.toNat * ch (n - 1) (k - 1), ?_, ?_⟩ (fun i s hi hI => ?_) (fun s hI => ?_)) (fun x e => e ▸ hp)
  · simp [oth]
  · have := h.oth.2; rw [hTd] at this; simp [this]
  · rw [w64_eq, hTe, ← Int.natCast_mul]; simp [hTd]
    all_goals (rw [hTe, ← Int.natCast_mul]; have := hrk _ (Nat.mul_le_mul_right (ch (n - 1) (k - 1)) (Nat.le_of_lt hT)); omega)
  · rw [hTd]; simp [rank, hTd]
  · obtain ⟨rk, lf, nd, q⟩ := s
    obtain ⟨rfl, rfl, rfl, m, rfl, hm⟩ := hI
    have hil : i < l.Full.length := by rw [h.len]; exact hi
    have hx : l.Full[i]? = some (l.Full[i]'hil) := List.getElem?_eq_getElem hil
    have hdr : l.Full.drop i = l.Full[i]'hil :: l.Full.drop (i + 1) := List.drop_eq_getElem_cons hil
    generalize l.Full[i]'hil = b at hx hdr
    have hol1 := hol (i + 1) (by omega)
    have hcl : (othF T (i + 1) (l.Full.drop (i + 1))).count true ≤ oth T (i + 1) (n - (i + 1)) := by rw [← hol1]; exact List.count_le_length
    have hoh := hoth (i + 1)
    refine Ite.lt (by show (i : Int) < _; rw [h.len]; omega) (Jn.mk (fun (s : Int × Int × Int) => s.2.1 = (oth T (i + 1) (n - (i + 1)) : Nat) ∧ s.2.2 = ((othF T (i + 1) (l.Full.drop (i + 1))).count true : Nat) ∧ ∃ m : Nat, s.1 = (m : Int) ∧ m + rkB (othF T (i + 1) (l.Full.drop (i + 1))) = rank n k l) ⟨b, idx_of rfl hx, ?_⟩ (fun s ⟨e1, e2, e3⟩ => ⟨by show w64 ((i : Int) + 1) = _; rw [w64_eq (by omega) (by omega)]; simp, e1, e2, e3⟩))
    rw [hdr] at hm ⊢
    refine Ite.mk (fun e => ?_) (fun e => ?_)
    · have e' : i = T := by have := of_decide_eq_true e; simp at e; omega
      have hof : othF T i (b :: l.Full.drop (i + 1)) = othF T (i + 1) (l.Full.drop (i + 1)) := by simp [othF, e']
      rw [hof] at hm
      refine ⟨?_, ?_, m, rfl, hm⟩
      · show ((oth T i (n - i) : Nat) : Int) = _
        unfold oth; rw [if_pos (by omega), if_neg (by omega)]; congr 1
      · show ((List.count true (othF T i (b :: l.Full.drop (i + 1))) : Nat) : Int) = _
        rw [hof]
    · have e' : i ≠ T := by rintro rfl; simp at e; omega
      have hof : othF T i (b :: l.Full.drop (i + 1)) = b :: othF T (i + 1) (l.Full.drop (i + 1)) := by simp [othF, e']
      have hoi : oth T i (n - i) = oth T (i + 1) (n - (i + 1)) + 1 := by unfold oth; split <;> split <;> omega
      rw [hof] at hm ⊢
      simp only [rkB, hol1] at hm
      have w3 : w64 (((oth T i (n - i) : Nat) : Int) - 1) = (oth T (i + 1) (n - (i + 1)) : Nat) := by rw [hoi, w64_eq (by omega) (by omega)]; omega
      generalize othF T (i + 1) (l.Full.drop (i + 1)) = rest at *
      refine Jn.mk (fun (s : Int × Int) => s.2 = (rest.count true : Nat) ∧ ∃ m : Nat, s.1 = (m : Int) ∧ m + rkB rest = rank n k l) (Ite.mk (fun hb => ?_) (fun hb => ?_)) (fun s ⟨e1, e2⟩ => ⟨w3, e1, e2⟩)
      · have hb' : b = true := hb
        subst hb'
        refine ⟨?_, m, rfl, by simpa using hm⟩
        show w64 (((List.count true (true :: rest) : Nat) : Int) - 1) = _
        rw [List.count_cons_self, w64_eq (by omega) (by omega)]; omega
      · have hb' : b = false := hb
        subst hb'
        have hcf : List.count true (false :: rest) = rest.count true := by simp
        refine Jn.mk (fun (s : Int) => ∃ m : Nat, s = (m : Int) ∧ m + rkB rest = rank n k l) (Ite.mk (fun hz => ?_) (fun hz => ?_)) (fun s e => ⟨by show ((List.count true (false :: rest) : Nat) : Int) = _; rw [hcf], e⟩)
        · have hz' : 0 < rest.count true := by
            have h0 : (0 : Int) < ((List.count true (false :: rest) : Nat) : Int) := of_decide_eq_true hz
            rw [hcf] at h0; omega
          have w4 : w64 (((List.count true (false :: rest) : Nat) : Int) - 1) = ((rest.count true - 1 : Nat) : Int) := by rw [hcf, w64_eq (by omega) (by omega)]; omega
          have hcm : chm (oth T (i + 1) (n - (i + 1))) (rest.count true) = ch (oth T (i + 1) (n - (i + 1))) (rest.count true - 1) := by
            obtain ⟨q, hq⟩ : ∃ q, rest.count true = q + 1 := ⟨_, (Nat.succ_pred_eq_of_pos hz').symm⟩
            rw [hq]; rfl
          simp only [w3, w4, ix25]
          refine ⟨⟨by omega, by omega⟩, ⟨by omega, by omega⟩, _, hc _ _ (by omega) (by omega), m + ch (oth T (i + 1) (n - (i + 1))) (rest.count true - 1), ?_, ?_⟩
          · have := hrk (m + ch (oth T (i + 1) (n - (i + 1))) (rest.count true - 1)) (by simp at hm; omega)
            rw [w64_eq (by omega) (by omega)]; simp
          · simp at hm; omega
        · have hz' : rest.count true = 0 := by
            have h0 : ¬ (0 : Int) < ((List.count true (false :: rest) : Nat) : Int) := of_decide_eq_false hz
            rw [hcf] at h0; omega
          rw [hz'] at hm
          exact ⟨m, rfl, by simpa [chm] using hm⟩
  · obtain ⟨rk, lf, nd, q⟩ := s
    obtain ⟨rfl, rfl, rfl, m, rfl, hm⟩ := hI
    refine Ite.nlt (by show ¬ (n : Int) < _; rw [h.len]; omega) ?_
    rw [List.drop_of_length_le (by rw [h.len]; omega)] at hm
    show (m : Int) = _
    simp [othF, rkB] at hm; omega
end
end Go.Taq

/- The mathematics of layouts, part D: from ranks to layouts, and shifts. -/
set_option linter.unusedVariables false
set_option linter.unusedSimpArgs false
namespace Go.Taq
open Go
theorem w64_1 {i : Nat} (h : i ≤ 1000000) : w64 ((i : Int) + 1) = ((i + 1 : Nat) : Int) := by rw [w64_eq (by omega) (by omega)]; simp
theorem w64_p {i : Nat} (h : i ≤ 1000000) (h' : 1 ≤ i) : w64 ((i : Int) - 1) = ((i - 1 : Nat) : Int) := by rw [w64_eq (by omega) (by omega)]; omega
theorem set_row {xs ys : List Bool} {i m : Nat} {b : Bool} (hi : i < xs.length) (h1 : ys = xs.take i ++ List.replicate (m + 1) false) (hx : xs[i]? = some b) :
    ys.set i b = xs.take (i + 1) ++ List.replicate m false := by
  subst h1
  rw [List.take_add_one, hx, List.set_append_right _ _ (by simp; omega)]
  have : i - (xs.take i).length = 0 := by simp; omega
  rw [this, List.replicate_succ, List.set_cons_zero]; simp
theorem skip_row {xs ys : List Bool} {i m : Nat} (hi : i < xs.length) (h1 : ys = xs.take i ++ List.replicate (m + 1) false) (hx : xs[i]? = some false) :
    ys = xs.take (i + 1) ++ List.replicate m false := by
  subst h1
  rw [List.take_add_one, hx, List.replicate_succ]; simp
theorem idx_row {xs ys : List Bool} {i m : Nat} (hi : i < xs.length) (h1 : ys = xs.take i ++ List.replicate (m + 1) false) : idx ys (i : Int) = some false := by
  rw [idx_nat, h1, List.getElem?_append_right (by simp; omega)]
  have : i - (xs.take i).length = 0 := by simp; omega
  rw [this]; rfl
theorem drop_cons {xs : List Bool} {i : Nat} {b : Bool} {t : List Bool} (h : xs.drop i = b :: t) : xs[i]? = some b ∧ xs.drop (i + 1) = t := by
  have h1 := congrArg (fun l : List Bool => l[0]?) h
  have h2 := congrArg (fun l : List Bool => l.drop 1) h
  simp only [List.getElem?_drop, List.drop_drop] at h1 h2
  exact ⟨by simpa using h1, by simpa using h2⟩
section
variable {n k : Nat} (h1 : 1 ≤ k) (h2 : k ≤ n) (h3 : n ≤ 24)
include h1 h2 h3
theorem S_Unrank {i : Nat} (hi : i < n * ch (n - 1) (k - 1)) {post : ApiLayout × Bool → Prop} (hp : post (unrank n k i, true)) : V_layout_Unrank (n : Int) (k : Int) (i : Int) post := by
  unfold V_layout_Unrank
  have hcl := count_le (k := k) h3
  have hc0 : 0 < ch (n - 1) (k - 1) := ch_pos (by omega)
  refine Jn.mk (fun b => b = false) (Ite.f (by simp) (S_Count h1 h2 h3 (by simp only [decide_eq_false_iff_not]; omega))) (fun b e => Ite.f e (S_choose fun c hc => ?_))
  have w1 := w64_p (i := n) (by omega) (by omega)
  have w2 := w64_p (i := k) (by omega) (by omega)
  have w3 : w64 ((i : Int).tdiv (ch (n - 1) (k - 1) : Nat)) = ((i / ch (n - 1) (k - 1) : Nat) : Int) := by
    have : (i : Int).tdiv (ch (n - 1) (k - 1) : Nat) = ((i / ch (n - 1) (k - 1) : Nat) : Int) := rfl
    have h := Nat.div_le_self i (ch (n - 1) (k - 1))
    rw [this]
    generalize i / ch (n - 1) (k - 1) = q at h
    rw [w64_eq (by omega) (by omega)]
  have w4 : (i : Int).tmod (ch (n - 1) (k - 1) : Nat) = ((i % ch (n - 1) (k - 1) : Nat) : Int) := rfl
  simp only [w1, w2, ix25]
  refine ⟨⟨by omega, by omega⟩, ⟨by omega, by omega⟩, _, hc (n - 1) (k - 1) (by omega) (by omega), by omega, ⟨by omega, by omega⟩, ⟨by omega, by omega⟩, ⟨by omega, by omega⟩, by omega, ?_⟩
  simp only [w3, w4]
  have hT : i / ch (n - 1) (k - 1) < n := (Nat.div_lt_iff_lt_mul hc0).2 hi
  have hr := Nat.mod_lt i hc0
  have hun : unrank n k i = { Full := unF (i / ch (n - 1) (k - 1)) 0 n (k - 1) (i % ch (n - 1) (k - 1)), Target := ((i / ch (n - 1) (k - 1) : Nat) : Int) } := rfl
  rw [hun] at hp
  generalize i / ch (n - 1) (k - 1) = T at *
  generalize i % ch (n - 1) (k - 1) = r0 at *
  generalize hfull : unF T 0 n (k - 1) r0 = full at *
  have hfl : full.length = n := by rw [← hfull]; exact unF_len _ _ _ _ _
  refine Jn.mk (fun x => x = full) (Loop.inv n (fun j (s : Int × List Bool × Int × Int × Int) => s.2.2.2.2 = (j : Int) ∧ s.2.1 = full.take j ++ List.replicate (n - j) false ∧ s.2.2.1 = (oth T j (n - j) : Nat) ∧
    ∃ nd r : Nat, s.2.2.2.1 = (nd : Int) ∧ s.1 = (r : Int) ∧ full.drop j = unF T j (n - j) nd r ∧ r < ch (oth T j (n - j)) nd ∧ nd ≤ 24) ⟨rfl, by simp, by simp [oth], k - 1, r0, rfl, rfl, by simpa using hfull.symm, by simpa [oth] using hr, by omega⟩ (fun j s hj hI => ?_) (fun s hI => ?_)) (fun x e => by subst e; exact hp)
  · obtain ⟨rs, row, lf, nd', q⟩ := s
    obtain ⟨rfl, hrow, rfl, nd, r, rfl, rfl, hdr, hr, hnd⟩ := hI
    obtain ⟨m, hm⟩ : ∃ m, n - j = m + 1 := ⟨n - j - 1, by omega⟩
    have hm' : n - (j + 1) = m := by omega
    rw [hm] at hdr hr
    replace hrow : row = full.take j ++ List.replicate (m + 1) false := by rw [← hm]; exact hrow
    have hix := idx_row (by omega) hrow
    have hom : oth T (j + 1) m ≤ 24 := by unfold oth; split <;> omega
    refine Ite.lt (by show (j : Int) < n; omega) (Jn.mk (fun (s : Int × List Bool × Int × Int) => s.2.1 = full.take (j + 1) ++ List.replicate m false ∧ s.2.2.1 = (oth T (j + 1) m : Nat) ∧ ∃ nd r : Nat, s.2.2.2 = (nd : Int) ∧ s.1 = (r : Int) ∧ full.drop (j + 1) = unF T (j + 1) m nd r ∧ r < ch (oth T (j + 1) m) nd ∧ nd ≤ 24) ?_
      (fun s ⟨e1, e2, e3⟩ => ⟨by show w64 ((j : Int) + 1) = _; exact w64_1 (by omega), by rw [hm']; exact e1, by rw [hm']; exact e2, by rw [hm']; exact e3⟩))
    unfold unF at hdr
    refine Ite.mk (fun e => ?_) (fun e => ?_)
    · have e' : j = T := by have : (j : Int) = (T : Int) := beq_iff_eq.1 e; omega
      rw [if_pos e'] at hdr
      obtain ⟨hx, hd2⟩ := drop_cons hdr
      refine ⟨_, hix, ?_, ?_, nd, r, rfl, rfl, hd2, ?_, hnd⟩
      · show row.set (Int.toNat (j : Int)) true = _
        rw [Int.toNat_natCast]; exact set_row (by omega) hrow hx
      · have : oth T (j + 1) m = oth T j (n - j) := by unfold oth; rw [if_neg (by omega), if_pos (by omega)]; omega
        show ((oth T j (n - j) : Nat) : Int) = _
        rw [this]
      · have : oth T (j + 1) m = oth T j (m + 1) := by unfold oth; rw [if_neg (by omega), if_pos (by omega)]; omega
        rw [this]; exact hr
    · have e' : j ≠ T := by rintro rfl; simp at e
      rw [if_neg e'] at hdr
      have hoi : oth T j (n - j) = oth T (j + 1) m + 1 := by unfold oth; split <;> split <;> omega
      have w5 : w64 (((oth T j (n - j) : Nat) : Int) - 1) = (oth T (j + 1) m : Nat) := by rw [hoi, w64_p (by omega) (by omega)]; simp
      have hoi' : oth T j (m + 1) = oth T (j + 1) m + 1 := by rw [← hm]; exact hoi
      rw [hoi', ch_succ] at hr
      refine Ite.mk (fun hz => ?_) (fun hz => ?_)
      · have hz' : nd = 0 := by simp at hz; omega
        subst hz'
        rw [if_neg (by simp [chm])] at hdr
        obtain ⟨hx, hd2⟩ := drop_cons hdr
        refine ⟨skip_row (by omega) hrow hx, w5, 0, r, rfl, rfl, by simpa [chm] using hd2, by simpa [chm] using hr, by omega⟩
      · have hz' : 1 ≤ nd := by simp at hz; omega
        have w6 := w64_p (i := nd) (by omega) hz'
        have hcm : chm (oth T (j + 1) m) nd = ch (oth T (j + 1) m) (nd - 1) := by
          obtain ⟨q, rfl⟩ : ∃ q, nd = q + 1 := ⟨nd - 1, by omega⟩
          rfl
        rw [hcm] at hdr hr
        have hb1 := ch_small (n := oth T (j + 1) m) (k := nd) (by omega)
        have hb2 := ch_small (n := oth T (j + 1) m) (k := nd - 1) (by omega)
        simp only [w5, w6, ix25]
        refine ⟨⟨by omega, by omega⟩, ⟨by omega, by omega⟩, _, hc _ _ (by omega) (by omega), Jn.mk (fun (s : Int × List Bool × Int) => s.2.1 = full.take (j + 1) ++ List.replicate m false ∧ ∃ nd r : Nat, s.2.2 = (nd : Int) ∧ s.1 = (r : Int) ∧ full.drop (j + 1) = unF T (j + 1) m nd r ∧ r < ch (oth T (j + 1) m) nd ∧ nd ≤ 24) (Ite.mk (fun hl => ?_) (fun hl => ?_)) (fun s ⟨e1, e2⟩ => ⟨e1, by trivial, e2⟩)⟩
        · have hl' : r < ch (oth T (j + 1) m) (nd - 1) := by have := of_decide_eq_true hl; omega
          rw [if_pos hl'] at hdr
          obtain ⟨hx, hd2⟩ := drop_cons hdr
          exact ⟨_, hix, (by show row.set (Int.toNat (j : Int)) true = _; rw [Int.toNat_natCast]; exact set_row (by omega) hrow hx), nd - 1, r, rfl, rfl, hd2, hl', by omega⟩
        · have hl' : ¬ r < ch (oth T (j + 1) m) (nd - 1) := by have := of_decide_eq_false hl; omega
          rw [if_neg hl'] at hdr
          obtain ⟨hx, hd2⟩ := drop_cons hdr
          refine ⟨⟨by omega, by omega⟩, ⟨by omega, by omega⟩, skip_row (by omega) hrow hx, nd, r - ch (oth T (j + 1) m) (nd - 1), rfl, ?_, hd2, by omega, hnd⟩
          show w64 ((r : Int) - (ch (oth T (j + 1) m) (nd - 1) : Nat)) = _
          rw [w64_eq (by omega) (by omega)]; omega
  · obtain ⟨rs, row, lf, nd', q⟩ := s
    obtain ⟨rfl, hrow, _⟩ := hI
    refine Ite.nlt (by show ¬ (n : Int) < n; omega) ?_
    show row = full
    replace hrow : row = full.take n ++ List.replicate (n - n) false := hrow
    rw [hrow, List.take_of_length_le (by omega)]; simp
end

/-- what a shift makes -/
def doL (l : ApiLayout) (a b : Nat) : ApiLayout := { Full := (l.Full.set a false).set b true, Target := if l.Target = (a : Int) then (b : Int) else l.Target }
theorem set2_get {xs : List Bool} {a b j : Nat} : ((xs.set a false).set b true)[j]? = if b = j ∧ b < xs.length then some true else if a = j ∧ a < xs.length then some false else xs[j]? := by
  rw [List.getElem?_set, List.getElem?_set]
  simp only [List.length_set]
  by_cases e1 : b = j
  · subst e1
    by_cases e2 : b < xs.length
    · simp [e2]
    · simp only [e2, if_true, if_false, and_false, true_and]
      by_cases e3 : a = b ∧ a < xs.length
      · omega
      · rw [if_neg e3, List.getElem?_eq_none (by omega)]
  · simp only [e1, if_false, false_and]
    by_cases e2 : a = j
    · subst e2
      by_cases e3 : a < xs.length
      · simp [e3]
      · simp only [e3, if_true, if_false, and_false]; rw [List.getElem?_eq_none (by omega)]
    · simp [e2]
theorem count_set_true : ∀ {l : List Bool} {i : Nat}, l[i]? = some false → (l.set i true).count true = l.count true + 1
  | [], i, h => by simp at h
  | b :: l, 0, h => by simp at h; subst h; simp
  | b :: l, i + 1, h => by
    have ih := count_set_true (l := l) (i := i) (by simpa using h)
    simp only [List.set_cons_succ, List.count_cons]
    omega
theorem count_set_false : ∀ {l : List Bool} {i : Nat}, l[i]? = some true → (l.set i false).count true + 1 = l.count true
  | [], i, h => by simp at h
  | b :: l, 0, h => by simp at h; subst h; simp
  | b :: l, i + 1, h => by
    have ih := count_set_false (l := l) (i := i) (by simpa using h)
    simp only [List.set_cons_succ, List.count_cons]
    omega
theorem LOk.doL {n k : Nat} {l : ApiLayout} (h : LOk n k l) {a b : Nat} (ha : l.Full[a]? = some true) (hb : l.Full[b]? = some false) : LOk n k (doL l a b) := by
  have hab : a ≠ b := by rintro rfl; rw [ha] at hb; simp at hb
  have hal := (List.getElem?_eq_some_iff.1 ha).1
  have hbl := (List.getElem?_eq_some_iff.1 hb).1
  have h0 := h.t0
  refine ⟨by simp [Go.Taq.doL, h.len], ?_, ?_, ?_⟩
  · have e1 := count_set_false ha
    have e2 := count_set_true (l := l.Full.set a false) (i := b) (by rw [List.getElem?_set_ne hab]; exact hb)
    show List.count true ((l.Full.set a false).set b true) = k
    rw [e2, e1, h.cnt]
  · show 0 ≤ (if l.Target = (a : Int) then (b : Int) else l.Target)
    split <;> omega
  · show ((l.Full.set a false).set b true)[(if l.Target = (a : Int) then (b : Int) else l.Target).toNat]? = some true
    rw [set2_get]
    split
    · rw [Int.toNat_natCast, if_pos ⟨rfl, hbl⟩]
    · rename_i hne
      have hg := h.get
      by_cases e : b = l.Target.toNat
      · rw [← e, hb] at hg; simp at hg
      · rw [if_neg (fun h => e h.1), if_neg (by rintro ⟨h, _⟩; omega)]; exact hg
theorem doL_back {n k : Nat} {l : ApiLayout} (h : LOk n k l) {a b : Nat} (ha : l.Full[a]? = some true) (hb : l.Full[b]? = some false) : Go.Taq.doL (Go.Taq.doL l a b) b a = l := by
  have hab : a ≠ b := by rintro rfl; rw [ha] at hb; simp at hb
  have hal := (List.getElem?_eq_some_iff.1 ha).1
  have hbl := (List.getElem?_eq_some_iff.1 hb).1
  have h0 := h.t0
  have hg := h.get
  have hTb : l.Target ≠ (b : Int) := by
    intro e; rw [e, Int.toNat_natCast, hb] at hg; simp at hg
  have e1 : ((((l.Full.set a false).set b true).set b false).set a true) = l.Full := by
    apply List.ext_getElem?
    intro j
    rw [set2_get, set2_get]
    simp only [List.length_set]
    by_cases e1 : a = j
    · subst e1; rw [if_pos ⟨rfl, hal⟩, ha]
    · rw [if_neg (fun h => e1 h.1)]
      by_cases e2 : b = j
      · subst e2; rw [if_pos ⟨rfl, hbl⟩, hb]
      · rw [if_neg (fun h => e2 h.1), if_neg (fun h => e2 h.1), if_neg (fun h => e1 h.1)]
  have e2 : (if (if l.Target = (a : Int) then (b : Int) else l.Target) = (b : Int) then (a : Int) else (if l.Target = (a : Int) then (b : Int) else l.Target)) = l.Target := by
    by_cases h1 : l.Target = (a : Int)
    · rw [if_pos h1, if_pos rfl, h1]
    · rw [if_neg h1, if_neg hTb]
  unfold Go.Taq.doL
  simp only [e1, e2]
theorem S_Do {l : ApiLayout} {a b : Nat} (ha : l.Full[a]? = some true) (hb : l.Full[b]? = some false) (hl : l.Full.length ≤ 1000) {post : ApiLayout × Int → Prop} (hp : post (doL l a b, 0)) : V_layout_Do l { From := a, To := b } post := by
  unfold V_layout_Do
  have hal := (List.getElem?_eq_some_iff.1 ha).1
  have hbl := (List.getElem?_eq_some_iff.1 hb).1
  have hab : a ≠ b := by rintro rfl; rw [ha] at hb; simp at hb
  refine Jn.mk (fun b => b = false) (Ite.f (by simp) (Ite.f (by simp; omega) (Ite.f (by simp) (by simp; omega)))) (fun x e => Ite.f e (Jn.mk (fun b => b = false) ⟨true, idx_of rfl ha, Ite.t rfl ⟨false, idx_of rfl hb, rfl⟩⟩ (fun x e => Ite.f e ?_)))
  unfold V_slices_Clone_bool_bool
  have key : ∀ xs : List Bool, xs = l.Full → ∃ x26, idx xs (a : Int) = some x26 ∧ ∃ x27, idx (xs.set (Int.toNat (a : Int)) false) (b : Int) = some x27 ∧ Jn (fun (J31 : Int → Prop) => Ite (l.Target == (a : Int)) (J31 (b : Int)) (J31 l.Target)) (fun (x30 : Int) => post (({ Full := ((xs.set (Int.toNat (a : Int)) false).set (Int.toNat (b : Int)) true), Target := x30 : ApiLayout }), 0)) := by
    intro xs e
    subst e
    refine ⟨true, idx_of rfl ha, false, idx_of rfl (by simpa [List.getElem?_set_ne hab] using hb), Jn.mk' ?_⟩
    simp only [Int.toNat_natCast]
    refine Ite.mk (fun h => ?_) (fun h => ?_)
    · have := beq_iff_eq.1 h
      simpa [doL, this] using hp
    · have h' : l.Target ≠ (a : Int) := by intro e; simp [e] at h
      simpa [doL, h'] using hp
  intro hb5 hz
  refine Ite.mk (fun h => key [] (hz (by simpa using h)).symm) (fun h => ⟨by simp; omega, key _ (by simp)⟩)
end Go.Taq

/- The mathematics of layouts, part E: the reference's ranks. -/
set_option linter.unusedVariables false
set_option linter.unusedSimpArgs false
namespace Go.Taq
open Go
/-- the binomial, at any number -/
def chi (m : Nat) (k : Int) : Nat := if k < 0 then 0 else ch m k.toNat
theorem chi_nat (m k : Nat) : chi m (k : Int) = ch m k := by unfold chi; rw [if_neg (by omega), Int.toNat_natCast]
theorem S_rChoose {m : Nat} {k : Int} (hm : m ≤ 24) (hk : k ≤ 100) {post : Int → Prop} (hp : post (chi m k : Nat)) : V_taquinref25_Choose (m : Int) k post := by
  unfold V_taquinref25_Choose
  by_cases h0 : k < 0
  · refine Jn.mk (fun b => b = true) (Ite.t (by simpa using h0) rfl) (fun b e => Ite.t e ?_)
    simpa [chi, h0] using hp
  by_cases h1 : k > m
  · refine Jn.mk (fun b => b = true) (Ite.f (by simpa using h0) (by simpa using h1)) (fun b e => Ite.t e ?_)
    have : chi m k = 0 := by simp only [chi, if_neg h0]; exact ch_lt (by omega)
    simpa [this] using hp
  refine Jn.mk (fun b => b = false) (Ite.f (by simpa using h0) (by simp; omega)) (fun b e => Ite.f e ?_)
  obtain ⟨q, rfl⟩ : ∃ q : Nat, k = (q : Int) := ⟨k.toNat, by omega⟩
  rw [chi_nat] at hp
  refine Jn.mk (fun x => x = ((ch m q : Nat) : Int)) (Loop.inv q (fun i (s : Int × Int) => s.2 = (i : Int) ∧ s.1 = ((ch m i : Nat) : Int)) ⟨rfl, by simp [ch_zero]⟩ (fun i s hi hI => ?_) (fun s hI => ?_)) (fun x e => e ▸ hp)
  · obtain ⟨c, j⟩ := s
    obtain ⟨rfl, rfl⟩ := hI
    have hmul := ch_mul m i
    have hb := ch_small (n := m) (k := i) (by omega)
    have w1 : w64 ((i : Int) + 1) = ((i + 1 : Nat) : Int) := w64_1 (by omega)
    have w2 : w64 ((m : Int) - i) = ((m - i : Nat) : Int) := by rw [w64_eq (by omega) (by omega)]; omega
    have hb2 : ch m i * (m - i) ≤ 16777216 * 24 := Nat.mul_le_mul hb (by omega)
    have w3 : w64 (((ch m i : Nat) : Int) * ((m - i : Nat) : Int)) = ((ch m i * (m - i) : Nat) : Int) := by
      rw [← Int.natCast_mul]; generalize ch m i * (m - i) = z at *; rw [w64_eq (by omega) (by omega)]
    refine Ite.lt (by show (i : Int) < q; omega) ?_
    simp only [w1, w2, w3]
    refine ⟨by omega, by trivial, ?_⟩
    have hd : ch m i * (m - i) / (i + 1) = ch m (i + 1) := by rw [← hmul]; exact Nat.mul_div_cancel _ (by omega)
    have e : (((ch m i * (m - i) : Nat) : Int)).tdiv ((i + 1 : Nat) : Int) = ((ch m i * (m - i) / (i + 1) : Nat) : Int) := rfl
    rw [e, hd]
    have hb3 := ch_small (n := m) (k := i + 1) (by omega)
    rw [w64_eq (by omega) (by omega)]
  · obtain ⟨c, j⟩ := s
    obtain ⟨rfl, rfl⟩ := hI
    exact Ite.nlt (by show ¬ (q : Int) < q; omega) rfl
section
variable {n k : Nat} (h1 : 1 ≤ k) (h2 : k ≤ n) (h3 : n ≤ 24)
include h1 h2 h3
theorem S_rCount {post : Int → Prop} (hp : post ((n * ch (n - 1) (k - 1) : Nat) : Int)) : V_taquinref25_Count (n : Int) (k : Int) post := by
  unfold V_taquinref25_Count
  have hc := count_le (k := k) h3
  refine Jn.mk (fun b => b = false) (Ite.f (by simp; omega) (Ite.f (by simp; omega) (Ite.f (by simp; omega) (by simp; omega)))) (fun b e => Ite.f e ?_)
  rw [w64_p (i := n) (by omega) (by omega), w64_p (i := k) (by omega) (by omega)]
  refine S_rChoose (by omega) (by omega) ?_
  rw [chi_nat, w64_eq (by rw [← Int.natCast_mul]; omega) (by rw [← Int.natCast_mul]; omega), ← Int.natCast_mul]; exact hp
end
end Go.Taq
