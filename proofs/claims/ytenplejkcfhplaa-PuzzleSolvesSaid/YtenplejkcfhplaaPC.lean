/- The mathematics of layouts, part C: what the layer's functions compute. -/
import Derived.Test.YtenplejkcfhplaaPB
set_option linter.unusedVariables false
set_option linter.unusedSimpArgs false
namespace Go.Taq
open Go
def ChT (c : List Int) : Prop := ∀ n k : Nat, n < 25 → k < 25 → c[n * 25 + k]? = some (ch n k : Int)
def ChI (i : Nat) (c : List Int) : Prop := c.length = 625 ∧ ∀ n k : Nat, n < 25 → k < 25 → c[n * 25 + k]? = some (if n < i then (ch n k : Int) else 0)
def ChJ (i j : Nat) (c : List Int) : Prop := c.length = 625 ∧ ∀ n k : Nat, n < 25 → k < 25 → c[n * 25 + k]? = some (if n < i ∨ n = i ∧ k ≤ j then (ch n k : Int) else 0)
theorem ch_small {n k : Nat} (h : n < 25) : ch n k ≤ 16777216 := by
  have h1 := ch_pow n k
  have h2 : 2 ^ n ≤ 2 ^ 24 := Nat.pow_le_pow_right (by omega) (by omega)
  omega
theorem ix25 (i j : Nat) : (0 + Int.toNat (i : Int) * 25) + Int.toNat (j : Int) * 1 = i * 25 + j := by simp
theorem S_choose {post : List Int → Prop} (hp : ∀ c, ChT c → post c) : V_layout_choose post := by
  unfold V_layout_choose
  refine Jn.mk (fun c => ChT c) (Loop.inv 25 (fun i (s : List Int × Int) => s.2 = (i : Int) ∧ ChI i s.1) ⟨rfl, List.length_replicate, fun n k hn hk => ?_⟩ (fun i s hi hI => ?_) (fun s hI => ?_)) hp
  · rw [if_neg (by omega), List.getElem?_replicate, if_pos (by omega)]
  · obtain ⟨c, q⟩ := s
    obtain ⟨rfl, hl, hc⟩ := hI
    replace hl : c.length = 625 := hl
    refine Ite.lt (by show (i : Int) < 25; omega) (Jn.mk (fun c => ChI (i + 1) c) ⟨⟨by omega, by show (i : Int) < 25; omega⟩, ⟨by omega, by omega⟩, ?_⟩ (fun c h => ⟨by show w64 ((i : Int) + 1) = _; rw [w64_eq (by omega) (by omega)]; simp, h⟩))
    have h00 := hc i 0 hi (by omega)
    refine ⟨_, (by show c[(0 + Int.toNat (i : Int) * 25) + Int.toNat ((0 : Nat) : Int) * 1]? = _; rw [ix25]; exact h00), ?_⟩
    refine Jn.mk (fun c => ChI (i + 1) c) (Loop.inv i (fun j (s : List Int × Int) => s.2 = (j : Int) ∧ ChJ i j s.1) ⟨rfl, ?_⟩ (fun j s hj hI => ?_) (fun s hI => ?_)) (fun c h => h)
    · show ChJ i 0 (c.set ((0 + Int.toNat (i : Int) * 25) + Int.toNat ((0 : Nat) : Int) * 1) 1)
      rw [ix25]
      refine ⟨by simpa using hl, fun n k hn hk => ?_⟩
      rw [List.getElem?_set]
      by_cases e : i * 25 + 0 = n * 25 + k
      · obtain ⟨rfl, rfl⟩ : i = n ∧ k = 0 := by omega
        rw [if_pos e, if_pos (by omega), if_pos (by omega), ch_zero]; rfl
      · rw [if_neg e, hc n k hn hk]
        by_cases h : n < i
        · rw [if_pos h, if_pos (by omega)]
        · rw [if_neg h, if_neg (by omega)]
    · obtain ⟨d, q⟩ := s
      obtain ⟨rfl, hl, hd⟩ := hI
      replace hl : d.length = 625 := hl
      have w1 : w64 ((i : Int) - 1) = ((i - 1 : Nat) : Int) := by rw [w64_eq (by omega) (by omega)]; omega
      have w2 : w64 ((j : Int) + 1) = ((j + 1 : Nat) : Int) := by rw [w64_eq (by omega) (by omega)]; omega
      have a1 := hd (i - 1) j (by omega) (by omega)
      have a2 := hd (i - 1) (j + 1) (by omega) (by omega)
      have a3 := hd i (j + 1) (by omega) (by omega)
      rw [if_pos (by omega)] at a1 a2
      rw [if_neg (by omega)] at a3
      have hs1 : ch (i - 1) j ≤ 16777216 := ch_small (by omega)
      have hs2 : ch (i - 1) (j + 1) ≤ 16777216 := ch_small (by omega)
      refine Ite.lt (by show (j : Int) < i; omega) ?_
      simp only [w1, w2, ix25]
      refine ⟨⟨by omega, by omega⟩, ⟨by omega, by omega⟩, _, a1, ⟨by omega, by omega⟩, ⟨by omega, by omega⟩, _, a2, ⟨by omega, by omega⟩, ⟨by omega, by omega⟩, _, a3, trivial, by simpa using hl, fun n k hn hk => ?_⟩
      rw [w64_eq (by omega) (by omega), List.getElem?_set]
      by_cases e : i * 25 + (j + 1) = n * 25 + k
      · obtain ⟨rfl, rfl⟩ : i = n ∧ k = j + 1 := by omega
        rw [if_pos e, if_pos (by omega), if_pos (by omega)]
        obtain ⟨m, rfl⟩ : ∃ m, i = m + 1 := ⟨i - 1, by omega⟩
        simp only [Nat.add_sub_cancel, ch]; simp
      · rw [if_neg e, hd n k hn hk]
        by_cases h : n < i ∨ n = i ∧ k ≤ j
        · rw [if_pos h, if_pos (by omega)]
        · rw [if_neg h, if_neg (by omega)]
    · obtain ⟨d, q⟩ := s
      obtain ⟨rfl, hl, hd⟩ := hI
      replace hl : d.length = 625 := hl
      refine Ite.nlt (by show ¬ (i : Int) < i; omega) ⟨hl, fun n k hn hk => ?_⟩
      rw [hd n k hn hk]
      by_cases h : n < i ∨ n = i ∧ k ≤ i
      · rw [if_pos h, if_pos (by omega)]
      · rw [if_neg h]
        by_cases h2 : n < i + 1
        · rw [if_pos h2, ch_lt (by omega)]; rfl
        · rw [if_neg h2]
  · obtain ⟨c, q⟩ := s
    obtain ⟨rfl, hl, hc⟩ := hI
    refine Ite.nlt (by show ¬ ((25 : Nat) : Int) < 25; omega) (fun n k hn hk => ?_)
    rw [hc n k hn hk, if_pos hn]

/-- the number of shelves -/
theorem count_take {l : List Bool} {i : Nat} {b : Bool} (h : l[i]? = some b) : (l.take (i + 1)).count true = (l.take i).count true + (if b = true then 1 else 0) := by
  rw [List.take_add_one, h, Option.toList, List.count_append, List.count_singleton]; cases b <;> simp
theorem S_Shelves {l : ApiLayout} (hl : l.Full.length ≤ maxLen) {post : Int → Prop} (hp : post (l.Full.count true : Nat)) : V_layout_Shelves l post := by
  unfold V_layout_Shelves
  have hml : l.Full.length ≤ 9223372036854775807 := by simp [maxLen] at hl; omega
  refine Jn.mk (fun x => x = ((l.Full.count true : Nat) : Int)) (Loop.inv l.Full.length (fun i (s : Int × Int) => s.2 = (i : Int) ∧ s.1 = ((l.Full.take i).count true : Nat)) ⟨rfl, rfl⟩ (fun i s hi hI => ?_) (fun s hI => ?_)) (fun x e => e ▸ hp)
  · obtain ⟨c, q⟩ := s
    obtain ⟨rfl, rfl⟩ := hI
    have hx : l.Full[i]? = some (l.Full[i]'hi) := List.getElem?_eq_getElem hi
    generalize l.Full[i]'hi = b at hx
    have hc := count_take hx
    have hcl : (l.Full.take i).count true ≤ i := Nat.le_trans List.count_le_length (by simp; omega)
    refine Ite.lt (by show (i : Int) < _; omega) ⟨b, idx_of rfl hx, Jn.mk (fun x => x = (((l.Full.take (i + 1)).count true : Nat) : Int)) (Ite.mk (fun h => ?_) (fun h => ?_)) (fun x e => ⟨w64_nat hi hl, e⟩)⟩
    · rw [hc, if_pos h, w64_eq (by omega) (by omega)]; simp
    · rw [hc, if_neg (by simp [h])]; simp
  · obtain ⟨c, q⟩ := s
    obtain ⟨rfl, rfl⟩ := hI
    refine Ite.nlt (by show ¬ (l.Full.length : Int) < _; omega) ?_
    show ((List.count true (l.Full.take l.Full.length) : Nat) : Int) = _
    rw [List.take_length]

section
variable {n k : Nat} (h1 : 1 ≤ k) (h2 : k ≤ n) (h3 : n ≤ 12)
include h1 h2 h3
omit h1 h2 h3 in
theorem ch_le_924 {a b : Nat} (h : a ≤ 12) : ch a b ≤ 4096 := by
  have h1 := ch_pow a b
  have h2 : 2 ^ a ≤ 2 ^ 12 := Nat.pow_le_pow_right (by omega) h
  omega
omit h1 h2 in
theorem count_le : n * ch (n - 1) (k - 1) ≤ 49152 := by
  have := ch_le_924 (a := n - 1) (b := k - 1) (by omega)
  have := Nat.mul_le_mul h3 this
  omega
theorem S_Count {post : Int → Prop} (hp : post ((n * ch (n - 1) (k - 1) : Nat) : Int)) : V_layout_Count (n : Int) (k : Int) post := by
  unfold V_layout_Count
  have hc := count_le (k := k) h3
  refine Jn.mk (fun b => b = false) (Ite.f (by simp; omega) (Ite.f (by simp; omega) (Ite.f (by simp; omega) (by simp; omega)))) (fun b e => Ite.f e (S_choose fun c hc => ?_))
  have w1 : w64 ((n : Int) - 1) = ((n - 1 : Nat) : Int) := by rw [w64_eq (by omega) (by omega)]; omega
  have w2 : w64 ((k : Int) - 1) = ((k - 1 : Nat) : Int) := by rw [w64_eq (by omega) (by omega)]; omega
  simp only [w1, w2, ix25]
  refine ⟨⟨by omega, by omega⟩, ⟨by omega, by omega⟩, _, hc (n - 1) (k - 1) (by omega) (by omega), ?_⟩
  rw [w64_eq (by rw [← Int.natCast_mul]; omega) (by rw [← Int.natCast_mul]; omega), ← Int.natCast_mul]; exact hp

theorem S_Rank {l : ApiLayout} (h : LOk n k l) {post : Int → Prop} (hp : post (rank n k l : Nat)) : V_layout_Rank l post := by
  unfold V_layout_Rank
  have hlm : l.Full.length ≤ maxLen := by rw [h.len]; simp [maxLen]; omega
  have hT := h.tlt
  have hTe : l.Target = ((l.Target.toNat : Nat) : Int) := by have := h.t0; omega
  have hrk : ∀ m, m ≤ n * ch (n - 1) (k - 1) → m ≤ 49152 := fun m hm => Nat.le_trans hm (count_le h3)
  have hrl := h.rank_lt
  refine S_choose fun c hc => S_Shelves hlm ?_
  rw [h.cnt]
  have w1 : w64 ((l.Full.length : Int) - 1) = ((n - 1 : Nat) : Int) := by rw [h.len, w64_eq (by omega) (by omega)]; omega
  have w2 : w64 ((k : Int) - 1) = ((k - 1 : Nat) : Int) := by rw [w64_eq (by omega) (by omega)]; omega
  simp only [w1, w2, ix25]
  refine ⟨⟨by omega, by omega⟩, ⟨by omega, by omega⟩, _, hc (n - 1) (k - 1) (by omega) (by omega), ?_⟩
  generalize hTd : l.Target.toNat = T at *
  have hoth : ∀ i, oth T i (n - i) ≤ n := fun i => by unfold oth; split <;> omega
  have hol : ∀ i, i ≤ n → (othF T i (l.Full.drop i)).length = oth T i (n - i) := fun i hi => by
    rw [othF_len T _ i (fun _ => by rw [List.length_drop, h.len]; omega), List.length_drop, h.len]
  refine Jn.mk (fun x => x = ((rank n k l : Nat) : Int)) (Loop.inv n (fun i (s : Int × Int × Int × Int) => s.2.2.2 = (i : Int) ∧ s.2.1 = (oth T i (n - i) : Nat) ∧ s.2.2.1 = ((othF T i (l.Full.drop i)).count true : Nat) ∧ ∃ m : Nat, s.1 = (m : Int) ∧ m + rkB (othF T i (l.Full.drop i)) = rank n k l) ⟨rfl, ?_, ?_, l.Target.toNat * ch (n - 1) (k - 1), ?_, ?_⟩ (fun i s hi hI => ?_) (fun s hI => ?_)) (fun x e => e ▸ hp)
  · simp [oth]
  · have := h.oth.2; rw [hTd] at this; simp [this]
  · rw [w64_eq, hTe, ← Int.natCast_mul]; simp [hTd]
    all_goals (rw [hTe, ← Int.natCast_mul]; have := hrk _ (Nat.mul_le_mul_right (ch (n - 1) (k - 1)) (Nat.le_of_lt hT)); omega)
  · rw [hTd]; simp [rank, hTd]
  · obtain ⟨rk, lf, nd, q⟩ := s
    obtain ⟨rfl, rfl, rfl, m, rfl, hm⟩ := hI
    have hil : i < l.Full.length := by rw [h.len]; exact hi
    have hx : l.Full[i]? = some (l.Full[i]'hil) := List.getElem?_eq_getElem hil
    have hdr : l.Full.drop i = l.Full[i]'hil :: l.Full.drop (i + 1) := List.drop_eq_getElem_cons hil
    generalize l.Full[i]'hil = b at hx hdr
    have hol1 := hol (i + 1) (by omega)
    have hcl : (othF T (i + 1) (l.Full.drop (i + 1))).count true ≤ oth T (i + 1) (n - (i + 1)) := by rw [← hol1]; exact List.count_le_length
    have hoh := hoth (i + 1)
    refine Ite.lt (by show (i : Int) < _; rw [h.len]; omega) (Jn.mk (fun (s : Int × Int × Int) => s.2.1 = (oth T (i + 1) (n - (i + 1)) : Nat) ∧ s.2.2 = ((othF T (i + 1) (l.Full.drop (i + 1))).count true : Nat) ∧ ∃ m : Nat, s.1 = (m : Int) ∧ m + rkB (othF T (i + 1) (l.Full.drop (i + 1))) = rank n k l) ⟨b, idx_of rfl hx, ?_⟩ (fun s ⟨e1, e2, e3⟩ => ⟨by show w64 ((i : Int) + 1) = _; rw [w64_eq (by omega) (by omega)]; simp, e1, e2, e3⟩))
    rw [hdr] at hm ⊢
    refine Ite.mk (fun e => ?_) (fun e => ?_)
    · have e' : i = T := by have := of_decide_eq_true e; simp at e; omega
      have hof : othF T i (b :: l.Full.drop (i + 1)) = othF T (i + 1) (l.Full.drop (i + 1)) := by simp [othF, e']
      rw [hof] at hm
      refine ⟨?_, ?_, m, rfl, hm⟩
      · show ((oth T i (n - i) : Nat) : Int) = _
        unfold oth; rw [if_pos (by omega), if_neg (by omega)]; congr 1
      · show ((List.count true (othF T i (b :: l.Full.drop (i + 1))) : Nat) : Int) = _
        rw [hof]
    · have e' : i ≠ T := by rintro rfl; simp at e; omega
      have hof : othF T i (b :: l.Full.drop (i + 1)) = b :: othF T (i + 1) (l.Full.drop (i + 1)) := by simp [othF, e']
      have hoi : oth T i (n - i) = oth T (i + 1) (n - (i + 1)) + 1 := by unfold oth; split <;> split <;> omega
      rw [hof] at hm ⊢
      simp only [rkB, hol1] at hm
      have w3 : w64 (((oth T i (n - i) : Nat) : Int) - 1) = (oth T (i + 1) (n - (i + 1)) : Nat) := by rw [hoi, w64_eq (by omega) (by omega)]; omega
      generalize othF T (i + 1) (l.Full.drop (i + 1)) = rest at *
      refine Jn.mk (fun (s : Int × Int) => s.2 = (rest.count true : Nat) ∧ ∃ m : Nat, s.1 = (m : Int) ∧ m + rkB rest = rank n k l) (Ite.mk (fun hb => ?_) (fun hb => ?_)) (fun s ⟨e1, e2⟩ => ⟨w3, e1, e2⟩)
      · have hb' : b = true := hb
        subst hb'
        refine ⟨?_, m, rfl, by simpa using hm⟩
        show w64 (((List.count true (true :: rest) : Nat) : Int) - 1) = _
        rw [List.count_cons_self, w64_eq (by omega) (by omega)]; omega
      · have hb' : b = false := hb
        subst hb'
        have hcf : List.count true (false :: rest) = rest.count true := by simp
        refine Jn.mk (fun (s : Int) => ∃ m : Nat, s = (m : Int) ∧ m + rkB rest = rank n k l) (Ite.mk (fun hz => ?_) (fun hz => ?_)) (fun s e => ⟨by show ((List.count true (false :: rest) : Nat) : Int) = _; rw [hcf], e⟩)
        · have hz' : 0 < rest.count true := by
            have h0 : (0 : Int) < ((List.count true (false :: rest) : Nat) : Int) := of_decide_eq_true hz
            rw [hcf] at h0; omega
          have w4 : w64 (((List.count true (false :: rest) : Nat) : Int) - 1) = ((rest.count true - 1 : Nat) : Int) := by rw [hcf, w64_eq (by omega) (by omega)]; omega
          have hcm : chm (oth T (i + 1) (n - (i + 1))) (rest.count true) = ch (oth T (i + 1) (n - (i + 1))) (rest.count true - 1) := by
            obtain ⟨q, hq⟩ : ∃ q, rest.count true = q + 1 := ⟨_, (Nat.succ_pred_eq_of_pos hz').symm⟩
            rw [hq]; rfl
          simp only [w3, w4, ix25]
          refine ⟨⟨by omega, by omega⟩, ⟨by omega, by omega⟩, _, hc _ _ (by omega) (by omega), m + ch (oth T (i + 1) (n - (i + 1))) (rest.count true - 1), ?_, ?_⟩
          · have := hrk (m + ch (oth T (i + 1) (n - (i + 1))) (rest.count true - 1)) (by simp at hm; omega)
            rw [w64_eq (by omega) (by omega)]; simp
          · simp at hm; omega
        · have hz' : rest.count true = 0 := by
            have h0 : ¬ (0 : Int) < ((List.count true (false :: rest) : Nat) : Int) := of_decide_eq_false hz
            rw [hcf] at h0; omega
          rw [hz'] at hm
          exact ⟨m, rfl, by simpa [chm] using hm⟩
  · obtain ⟨rk, lf, nd, q⟩ := s
    obtain ⟨rfl, rfl, rfl, m, rfl, hm⟩ := hI
    refine Ite.nlt (by show ¬ (n : Int) < _; rw [h.len]; omega) ?_
    rw [List.drop_of_length_le (by rw [h.len]; omega)] at hm
    show (m : Int) = _
    simp [othF, rkB] at hm; omega
end
end Go.Taq
