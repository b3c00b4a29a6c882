/- The mathematics, several parts in one text. -/
import Derived.Test.YtdcfcldpjfepiaaGE
/- The mathematics, part GF: the fuel without a cell (chapter 33). -/
set_option linter.unusedVariables false
set_option linter.unusedSimpArgs false
namespace Go.Taq
open Go

theorem mem_take_succ {α : Type} {l : List α} {i : Nat} {x y : α} (h : l[i]? = some x) : y ∈ l.take (i + 1) ↔ y ∈ l.take i ∨ y = x := by
  rw [take_succ h, List.mem_append]; simp
section
variable {g : ReachGraph} {n : Nat} {P : Int} {f : List Int} {ch : List (List Int)} {x : Nat}
theorem FOk.home (hF : FOk g (-1) n f) {c : Nat} (hc : c < n) (hh : g.home[c]? = some true) : fu f c = 0 := by
  have := hF.least c hc 0 (.home hh); omega
theorem S_without (hg : GOk n P g) (hF : FOk g (-1) n f) (hB : ∀ c, c < n → fu f c ≤ P * n) (h : ChOk g n f n ch) (hx : x < n) {post : Sum Unit (List (Int × Int)) → Prop}
    (hp1 : (∀ c, ¬ Und ch x c) → post (.inl ()))
    (hp2 : ∀ mp f', FOk g x n f' → (∀ c, c < n → fu f' c ≤ 40000000) → (∀ c, c < n → ¬ Und ch x c → fu f' c = fu f c) → (∀ a v, lk mp a = some v ↔ ∃ c : Nat, a = (c : Int) ∧ Und ch x c ∧ v = fu f' c) → post (.inr mp)) :
    V_reach_graph_without g f ch (x : Int) post := by
  obtain ⟨row, hrow⟩ := h.row hx
  have hn4 := hg.n4; have hp0 := hg.p0
  have hrl := h.rlen hrow
  have hlen := hF.len
  have hPn := top_bd (g := g) (K := 0) hg (by omega)
  unfold V_reach_graph_without
  refine ⟨row, idx_of rfl hrow, S_clone_i (by omega) (below_loop hg h hrow (fun bl hbl => Ite.mk (fun he => hp1 (fun c hc => ?_)) (fun he => ?_)))⟩
  · have hm := (hbl.mem c).2 hc
    have : bl = [] := by
      cases bl with
      | nil => rfl
      | cons a r => simp at he; omega
    rw [this] at hm; cases hm
  have hbn := nodup_len n bl hbl.nd hbl.rng
  have hnat : ∀ a, a ∈ bl → ∃ c : Nat, a = (c : Int) ∧ c < n := fun a ha => by
    obtain ⟨c, hc⟩ := Int.eq_ofNat_of_zero_le (hbl.rng a ha).1
    exact ⟨c, hc, by have := (hbl.rng a ha).2; omega⟩
  refine S_clone_i (by omega) ?_
  -- the cells below lose their fuel
  refine Jn.mk (fun t : List Int × List (Int × Int) => t.1.length = n ∧ (∀ d, d < n → fu t.1 d = if (d : Int) ∈ bl then -1 else fu f d) ∧ ∀ a, lk t.2 a = if a ∈ bl then some (-1) else none)
    (V_loopc (xs := bl) (by unfold maxLen; omega) (fun t : List Int × List (Int × Int) × Int => t.2.2) (fun i t => t.1.length = n ∧ (∀ d, d < n → fu t.1 d = if (d : Int) ∈ bl.take i then -1 else fu f d) ∧ ∀ a, lk t.2.1 a = if a ∈ bl.take i then some (-1) else none) rfl ⟨hlen, fun d hd => by simp, fun a => by simp [lk]⟩ (fun i a t ha ht hI => ?_) (fun t hI => by rw [List.take_length] at hI; exact hI)) (fun t1 ht1 => ?_)
  · obtain ⟨i1, i2, i3⟩ := hI
    obtain ⟨c, hc, hcn⟩ := hnat a (List.mem_of_getElem? ha)
    subst hc
    have hset : ∀ d, fu (t.1.set c (-1)) d = if d = c then -1 else fu t.1 d := fun d => fu_set (by omega)
    refine ⟨_, fu_idx (by omega), by rw [ht], by show (t.1.set _ _).length = n; rw [List.length_set]; exact i1, fun d hd => ?_, fun a => ?_⟩
    · show fu (t.1.set c (-1)) d = _
      rw [hset, i2 d hd]
      by_cases e : d = c
      · rw [if_pos e, if_pos ((mem_take_succ ha).2 (.inr (by rw [e])))]
      · rw [if_neg e]
        by_cases e2 : (d : Int) ∈ bl.take i
        · rw [if_pos e2, if_pos ((mem_take_succ ha).2 (.inl e2))]
        · rw [if_neg e2, if_neg (fun h => ((mem_take_succ ha).1 h).elim e2 (fun h => e (by omega)))]
    · show lk (upd t.2.1 (c : Int) (-1)) a = _
      rw [lk_upd, i3]
      by_cases e : (c : Int) = a
      · rw [if_pos e, if_pos ((mem_take_succ ha).2 (.inr e.symm))]
      · rw [if_neg e]
        by_cases e2 : a ∈ bl.take i
        · rw [if_pos e2, if_pos ((mem_take_succ ha).2 (.inl e2))]
        · rw [if_neg e2, if_neg (fun h => ((mem_take_succ ha).1 h).elim e2 (fun h => e h.symm))]
  obtain ⟨f1, m1⟩ := t1
  obtain ⟨l1, b1, k1⟩ := ht1
  simp only at l1 b1 k1
  have hf1b : ∀ c, c < n → fu f1 c ≤ P * n := fun c hc => by
    rw [b1 c hc]; split
    · omega
    · exact hB c hc
  -- one step to a cell that is not below
  let V := fun (c : Nat) (v : Int) => ∃ l r, g.out[c]? = some l ∧ Best f1 l x r ∧ v = if 0 ≤ r.1 then r.1 else -1
  refine Jn.mk (fun m => (∀ a, a ∉ bl → lk m a = none) ∧ ∀ c : Nat, (c : Int) ∈ bl → ∃ v, lk m c = some v ∧ V c v)
    (V_loopc (xs := bl) (by unfold maxLen; omega) (fun t : List (Int × Int) × Int => t.2) (fun i t => (∀ a, a ∉ bl → lk t.1 a = none) ∧ (∀ a, a ∈ bl → a ∉ bl.take i → lk t.1 a = some (-1)) ∧ ∀ c : Nat, (c : Int) ∈ bl.take i → ∃ v, lk t.1 c = some v ∧ V c v) rfl ⟨fun a ha => by show lk m1 a = _; rw [k1, if_neg ha], fun a ha _ => by show lk m1 a = _; rw [k1, if_pos ha], fun c hc => by simp at hc⟩ (fun i a t ha ht hI => ?_) (fun t hI => by rw [List.take_length] at hI; exact ⟨hI.1, hI.2.2⟩)) (fun m2 hm2 => ?_)
  · obtain ⟨i1, i2, i3⟩ := hI
    have ham := List.mem_of_getElem? ha
    obtain ⟨c, hc, hcn⟩ := hnat a ham
    subst hc
    have hnot : (c : Int) ∉ bl.take i := fun hm => by
      obtain ⟨j, hj⟩ := List.getElem?_of_mem hm
      rw [List.getElem?_take] at hj
      split at hj
      · rename_i hji
        have := nodup_inj hbl.nd hj ha; omega
      · cases hj
    refine S_reach_best hg l1 (fun d hd => by have := hf1b d hd; omega) hcn (fun l r hl hr => ?_)
    refine Jn.mk (fun m => (∀ a, a ∉ bl → lk m a = none) ∧ (∀ a, a ∈ bl → a ∉ bl.take (i + 1) → lk m a = some (-1)) ∧ ∀ c : Nat, (c : Int) ∈ bl.take (i + 1) → ∃ v, lk m c = some v ∧ V c v) (Ite.mk (fun h0 => ?_) (fun h0 => ?_)) (fun m hm => ⟨by rw [ht], hm⟩)
    · have h0' : 0 ≤ r.1 := of_decide_eq_true h0
      refine ⟨fun a hna => ?_, fun a hb hnt => ?_, fun d hd => ?_⟩
      · rw [lk_upd, if_neg (fun e => hna (by rw [← e]; exact ham))]; exact i1 a hna
      · rw [lk_upd, if_neg (fun e => hnt ((mem_take_succ ha).2 (.inr e.symm)))]
        exact i2 a hb (fun hm => hnt ((mem_take_succ ha).2 (.inl hm)))
      · rw [lk_upd]
        by_cases e : (c : Int) = d
        · have : c = d := by omega
          subst this
          rw [if_pos rfl]; exact ⟨_, rfl, l, r, hl, hr, by rw [if_pos h0']⟩
        · rw [if_neg e]
          exact i3 d (((mem_take_succ ha).1 hd).resolve_right (fun h => e h.symm))
    · have h0' : ¬ 0 ≤ r.1 := of_decide_eq_false h0
      refine ⟨i1, fun a hb hnt => i2 a hb (fun hm => hnt ((mem_take_succ ha).2 (.inl hm))), fun d hd => ?_⟩
      by_cases e : (c : Int) = d
      · have : c = d := by omega
        subst this
        exact ⟨-1, i2 _ ham hnot, l, r, hl, hr, by rw [if_neg h0']⟩
      · exact i3 d (((mem_take_succ ha).1 hd).resolve_right (fun h => e h.symm))
  obtain ⟨n2, v2⟩ := hm2
  let w := fun c : Nat => (lk m2 (c : Int)).getD 0
  have hw : ∀ c : Nat, (c : Int) ∈ bl → V c (w c) := fun c hc => by
    obtain ⟨v, e, hv⟩ := v2 c hc
    show V c ((lk m2 (c : Int)).getD 0)
    rw [e]; exact hv
  -- they come into the table, and into the queue
  refine Jn.mk (fun t : List Int × List Int => t.1.length = n ∧ (∀ d, d < n → fu t.1 d = if (d : Int) ∈ bl then w d else fu f d) ∧ (∀ a, a ∈ t.2 → a ∈ bl) ∧ (∀ c : Nat, (c : Int) ∈ bl → 0 ≤ w c → (c : Int) ∈ t.2) ∧ t.2.length ≤ n)
    (V_loopc (xs := bl) (by unfold maxLen; omega) (fun t : List Int × List Int × Int => t.2.2) (fun i t => t.1.length = n ∧ (∀ d, d < n → fu t.1 d = if (d : Int) ∈ bl.take i then w d else fu f1 d) ∧ (∀ a, a ∈ t.2.1 → a ∈ bl) ∧ (∀ c : Nat, (c : Int) ∈ bl.take i → 0 ≤ w c → (c : Int) ∈ t.2.1) ∧ t.2.1.length ≤ i) rfl ⟨l1, fun d hd => by simp, fun a ha => (by cases ha), fun c hc => by simp at hc, by simp⟩ (fun i a t ha ht hI => ?_) (fun t hI => ?_)) (fun t2 ht2 => ?_)
  · obtain ⟨i1, i2, i3, i4, i5⟩ := hI
    have ham := List.mem_of_getElem? ha
    obtain ⟨c, hc, hcn⟩ := hnat a ham
    subst hc
    have hil := (List.getElem?_eq_some_iff.1 ha).1
    have hset : ∀ d, fu (t.1.set c (w c)) d = if d = c then w c else fu t.1 d := fun d => fu_set (by omega)
    have hfin : ∀ d, d < n → fu (t.1.set c (w c)) d = if (d : Int) ∈ bl.take (i + 1) then w d else fu f1 d := fun d hd => by
      rw [hset, i2 d hd]
      by_cases e : d = c
      · subst e
        rw [if_pos rfl, if_pos ((mem_take_succ ha).2 (.inr rfl))]
      · rw [if_neg e]
        by_cases e2 : (d : Int) ∈ bl.take i
        · rw [if_pos e2, if_pos ((mem_take_succ ha).2 (.inl e2))]
        · rw [if_neg e2, if_neg (fun h => ((mem_take_succ ha).1 h).elim e2 (fun h => e (by omega)))]
    refine ⟨_, fu_idx (by omega), Jn.mk (fun q => (∀ a, a ∈ q → a ∈ bl) ∧ (∀ c : Nat, (c : Int) ∈ bl.take (i + 1) → 0 ≤ w c → (c : Int) ∈ q) ∧ q.length ≤ i + 1) (Ite.mk (fun h0 => ⟨by simp; omega, ?_⟩) (fun h0 => ?_)) (fun q hq => ⟨by rw [ht], by show (t.1.set _ _).length = n; rw [List.length_set]; exact i1, hfin, hq⟩)⟩
    · refine ⟨fun a hq => ?_, fun d hd hd0 => ?_, by simp; omega⟩
      · rcases List.mem_append.1 hq with hq | hq
        · exact i3 a hq
        · simp at hq; subst hq; exact ham
      · rcases (mem_take_succ ha).1 hd with hd | hd
        · exact List.mem_append_left _ (i4 d hd hd0)
        · exact List.mem_append_right _ (by simp [hd])
    · have h0' : ¬ 0 ≤ w c := of_decide_eq_false h0
      refine ⟨i3, fun d hd hd0 => ?_, by omega⟩
      rcases (mem_take_succ ha).1 hd with hd | hd
      · exact i4 d hd hd0
      · have : d = c := by omega
        subst this; exact absurd hd0 h0'
  · obtain ⟨i1, i2, i3, i4, i5⟩ := hI
    rw [List.take_length] at i2 i4
    refine ⟨i1, fun d hd => ?_, i3, i4, by show t.2.1.length ≤ n; omega⟩
    rw [i2 d hd]
    by_cases e : (d : Int) ∈ bl
    · rw [if_pos e, if_pos e]
    · rw [if_neg e, if_neg e, b1 d hd, if_neg e]
  obtain ⟨f2, q2⟩ := t2
  obtain ⟨l2, b2, q2a, q2b, q2l⟩ := ht2
  simp only at l2 b2 q2a q2b q2l
  have hho := fun c hc hh => hF.home (c := c) hc hh
  have hot := wg_other (x := x) hg hF h hho
  have hf1 : ∀ c, c < n → 0 ≤ fu f1 c → (c : Int) ∉ bl ∧ fu f1 c = fu f c := fun c hc h0 => by
    have e := b1 c hc
    by_cases hm : (c : Int) ∈ bl
    · rw [if_pos hm] at e; omega
    · rw [if_neg hm] at e; exact ⟨hm, e⟩
  have hwb : ∀ c : Nat, (c : Int) ∈ bl → -1 ≤ w c ∧ w c ≤ P * n + P := fun c hc => by
    obtain ⟨l, r, hl, hr, e⟩ := hw c hc
    rw [e]
    split
    · rename_i h0
      rcases hr.is with er | ⟨z, hz, hzb, hz0, er⟩
      · rw [er] at h0; exact absurd h0 (by decide)
      · obtain ⟨⟨t0, t1⟩, p1, p2⟩ := hg.to_ c l z hl hz
        have := hf1b z.to_.toNat (by omega)
        rw [er]; show -1 ≤ fu f1 z.to_.toNat + z.price ∧ fu f1 z.to_.toNat + z.price ≤ _; omega
    · omega
  have hnn : 0 ≤ P * (nn f2 : Int) := Int.mul_nonneg (by omega) (by omega)
  have hS : SInv g x n P (P * n + P) (fun c => (c : Int) ∈ bl) f2 f2 q2 := by
    refine ⟨l2, fun c hc => ?_, fun c hc => ?_, fun c hc h0 => ?_, fun c hc hh => ?_, fun c l z hm hh hl hz hzb hz0 hzq => ?_, fun a ha => hbl.rng a (q2a a ha), fun c hc _ => rfl⟩
    · rw [b2 c hc]; split
      · rename_i hm; exact (hwb c hm).1
      · exact hF.lo c hc
    · rw [b2 c hc]; split
      · rename_i hm; have := (hwb c hm).2; omega
      · have := hB c hc; omega
    · rw [b2 c hc] at h0 ⊢
      by_cases hm : (c : Int) ∈ bl
      · rw [if_pos hm] at h0 ⊢
        obtain ⟨l, r, hl, hr, e⟩ := hw c hm
        rw [e] at h0 ⊢
        split at h0
        · rename_i hr0
          rw [if_pos hr0]
          rcases hr.is with er | ⟨z, hz, hzb, hz0, er⟩
          · rw [er] at hr0; exact absurd hr0 (by decide)
          · obtain ⟨⟨t0, t1⟩, p1, p2⟩ := hg.to_ c l z hl hz
            have hzn : z.to_.toNat < n := by omega
            obtain ⟨hzm, hze⟩ := hf1 _ hzn hz0
            have hwz := hot _ _ hzn rfl (fun hu => hzm ((hbl.mem _).2 hu)) (by omega)
            have hst := Wg.step (b := (x : Int)) (und_lt hg h ((hbl.mem c).1 hm)).2.2.1 hl hz hzb hwz
            have e1 : r.1 = fu f1 z.to_.toNat + z.price := by rw [er]
            rw [show r.1.toNat = (fu f z.to_.toNat).toNat + z.price.toNat by omega]
            exact hst
        · omega
      · rw [if_neg hm] at h0 ⊢
        exact hot _ c hc rfl (fun hu => hm ((hbl.mem c).2 hu)) h0
    · have hm : (c : Int) ∉ bl := fun hm => by
        have := (und_lt hg h ((hbl.mem c).1 hm)).2.2.1
        rw [hh] at this; cases this
      rw [b2 c hc, if_neg hm]; exact hho c hc hh
    · have hcn : c < n := by have := hbl.rng _ hm; omega
      obtain ⟨⟨t0, t1⟩, p1, p2⟩ := hg.to_ c l z hl hz
      have hzn : z.to_.toNat < n := by omega
      have ez : ((z.to_.toNat : Nat) : Int) = z.to_ := by omega
      rw [b2 _ hzn] at hz0 ⊢
      by_cases hzm : ((z.to_.toNat : Nat) : Int) ∈ bl
      · rw [if_pos hzm] at hz0
        have := q2b _ hzm hz0
        rw [ez] at this; exact absurd this hzq
      · rw [if_neg hzm] at hz0 ⊢
        rw [b2 c hcn, if_pos hm]
        obtain ⟨l', r, hl', hr, e⟩ := hw c hm
        rw [hl] at hl'; cases hl'
        have e1 : fu f1 z.to_.toNat = fu f z.to_.toNat := by rw [b1 _ hzn, if_neg hzm]
        have := hr.le z hz hzb (by rw [e1]; exact hz0)
        rw [e1] at this
        rw [e, if_pos this.1]; exact this
  have hKb : 0 ≤ P * (n : Int) + P ∧ P * (n : Int) + P ≤ 20000000 := by omega
  have hwf := WF_le (K := P * n + P) hg hKb l2 (fun c hc => hS.top hg hc)
  unfold V_reach_graph_settle__o0_o1_reach_graph_without_1
  haveI : DecidablePred (fun c : Nat => (c : Int) ∈ bl) := fun c => inferInstanceAs (Decidable ((c : Int) ∈ bl))
  refine S_settle (may := fun c : Nat => (c : Int) ∈ bl) (f0 := f2) (K := P * n + P) hg hKb (M := fun c q => V_reach_graph_without_1 c m2 q) (fun c q hc hq => ?_) hS (by omega) (fun f' hf' => ?_)
  · show V_reach_graph_without_1 (c : Int) m2 q
    unfold V_reach_graph_without_1
    have : (lk m2 (c : Int)).isSome = decide ((c : Int) ∈ bl) := by
      by_cases hm : (c : Int) ∈ bl
      · obtain ⟨v, e, _⟩ := v2 c hm
        rw [e, decide_eq_true hm]; rfl
      · rw [n2 _ hm, decide_eq_false hm]; rfl
    rw [this]; exact hq
  have hF' : FOk g x n f' := hf'.least hg (fun c hc hm hh m hmw => by
    rw [b2 c hc, if_neg hm]
    exact hF.least c hc m (Wg.weak hg hmw))
  have htop : ∀ c, c < n → fu f' c ≤ 40000000 := fun c hc => by have := hf'.top hg hc; omega
  have hkeep : ∀ c, c < n → ¬ Und ch x c → fu f' c = fu f c := fun c hc hu => by
    have hm : (c : Int) ∉ bl := fun hm => hu ((hbl.mem c).1 hm)
    rw [hf'.keep c hc hm, b2 c hc, if_neg hm]
  have l3 := hF'.len
  refine Jn.mk (fun m => ∀ a, lk m a = if a ∈ bl then some (fu f' a.toNat) else none)
    (V_loopc (xs := bl) (by unfold maxLen; omega) (fun t : List (Int × Int) × Int => t.2) (fun i t => ∀ a, lk t.1 a = if a ∈ bl.take i then some (fu f' a.toNat) else lk m2 a) rfl (fun a => by simp) (fun i a t ha ht hI => ?_) (fun t hI a => ?_)) (fun mp hmp => ?_)
  · obtain ⟨c, hc, hcn⟩ := hnat a (List.mem_of_getElem? ha)
    subst hc
    refine ⟨_, fu_idx (by omega), by rw [ht], fun a => ?_⟩
    show lk (upd t.1 (c : Int) (fu f' c)) a = _
    rw [lk_upd, hI]
    by_cases e : (c : Int) = a
    · subst e
      rw [if_pos rfl, if_pos ((mem_take_succ ha).2 (.inr rfl))]; simp
    · rw [if_neg e]
      by_cases e2 : a ∈ bl.take i
      · rw [if_pos e2, if_pos ((mem_take_succ ha).2 (.inl e2))]
      · rw [if_neg e2, if_neg (fun h => ((mem_take_succ ha).1 h).elim e2 (fun h => e h.symm))]
  · rw [hI a, List.take_length]
    by_cases e : a ∈ bl
    · rw [if_pos e, if_pos e]
    · rw [if_neg e, if_neg e, n2 a e]
  · refine hp2 mp f' hF' htop hkeep (fun a v => ?_)
    rw [hmp]
    constructor
    · intro hv
      by_cases e : a ∈ bl
      · rw [if_pos e] at hv
        obtain ⟨c, hc, hcn⟩ := hnat a e
        subst hc
        exact ⟨c, rfl, (hbl.mem c).1 e, by have := Option.some.inj hv; simp at this; exact this.symm⟩
      · rw [if_neg e] at hv; cases hv
    · rintro ⟨c, rfl, hu, rfl⟩
      rw [if_pos ((hbl.mem c).2 hu)]; simp
end
end Go.Taq

/- The mathematics, part GG: the needs (chapter 33). -/
set_option linter.unusedVariables false
set_option linter.unusedSimpArgs false
namespace Go.Taq
open Go

/-- the least fuel of a cell, -1 if there is none -/
def IsFu (s : ApiSite) (L : List Int) (c : Nat) (v : Int) : Prop := (v = -1 ∧ ∀ m, ¬ WL s L c m) ∨ (0 ≤ v ∧ WL s L c v.toNat ∧ ∀ m, WL s L c m → v ≤ m)
theorem least_of {p : Nat → Prop} : ∀ n, p n → ∃ m, p m ∧ ∀ k, p k → m ≤ k := by
  intro n
  induction n using Nat.strongRecOn with
  | _ n ih =>
    intro hn
    by_cases h : ∃ m, m < n ∧ p m
    · obtain ⟨m, h1, h2⟩ := h
      exact ih m h1 h2
    · exact ⟨n, hn, fun k hk => by
        by_cases hlt : k < n
        · exact absurd ⟨k, hlt, hk⟩ h
        · omega⟩
theorem isFu_ex (s : ApiSite) (L : List Int) (c : Nat) : ∃ v, IsFu s L c v := by
  by_cases h : ∃ m, WL s L c m
  · obtain ⟨m, hm⟩ := h
    obtain ⟨k, h1, h2⟩ := least_of (p := fun m => WL s L c m) m hm
    exact ⟨(k : Int), .inr ⟨by omega, by simpa using h1, fun m hm => by have := h2 m hm; omega⟩⟩
  · exact ⟨-1, .inl ⟨rfl, fun m hm => h ⟨m, hm⟩⟩⟩
noncomputable def fuV (s : ApiSite) (L : List Int) (c : Nat) : Int := Classical.choose (isFu_ex s L c)
theorem fuV_is (s : ApiSite) (L : List Int) (c : Nat) : IsFu s L c (fuV s L c) := Classical.choose_spec (isFu_ex s L c)
theorem IsFu.uniq {s : ApiSite} {L : List Int} {c : Nat} {v w : Int} (h : IsFu s L c v) (h' : IsFu s L c w) : v = w := by
  rcases h with ⟨h1, h2⟩ | ⟨h1, h2, h3⟩ <;> rcases h' with ⟨g1, g2⟩ | ⟨g1, g2, g3⟩
  · omega
  · exact absurd g2 (h2 _)
  · exact absurd h2 (g2 _)
  · have := h3 _ g2; have := g3 _ h2; omega
theorem fuV_lo (s : ApiSite) (L : List Int) (c : Nat) : -1 ≤ fuV s L c := by rcases fuV_is s L c with h | h <;> omega
theorem FuL.eq {s : ApiSite} {L f : List Int} (h : FuL s L f) {c : Nat} (hc : c < s.Floor.Kind.length) : fu f c = fuV s L c := by
  refine IsFu.uniq (s := s) (L := L) (c := c) ?_ (fuV_is s L c)
  by_cases h0 : 0 ≤ fu f c
  · exact .inr ⟨h0, h.sound c hc h0, fun m hm => (h.least c m hm).2⟩
  · have := h.lo c hc
    exact .inl ⟨by omega, fun m hm => h0 (h.least c m hm).1⟩
/-- the need of a cell, with the first cells blocked one by one -/
noncomputable def nd (s : ApiSite) (L : List Int) (D : Int) : Nat → Nat → Int
  | 0, c => if fuV s L c < 0 then -1 else fuV s L c + D * 3
  | x + 1, c => if c = x ∨ (x : Int) ∈ L then nd s L D x c else if nd s L D x c < 0 ∨ fuV s ((x : Int) :: L) c < 0 then -1 else imax (nd s L D x c) (fuV s ((x : Int) :: L) c)
theorem imax_le {a b : Int} : a ≤ imax a b ∧ b ≤ imax a b ∧ (imax a b = a ∨ imax a b = b) := by unfold imax; split <;> omega
theorem nd_ge {s : ApiSite} {L : List Int} {D : Int} (hD : 0 ≤ D) (c : Nat) : ∀ x, (nd s L D x c = -1 ∨ 0 ≤ nd s L D x c) ∧ (0 ≤ nd s L D x c → 0 ≤ fuV s L c ∧ fuV s L c + D * 3 ≤ nd s L D x c)
  | 0 => by
    unfold nd
    split
    · exact ⟨.inl rfl, fun h => by omega⟩
    · exact ⟨.inr (by omega), fun h => by omega⟩
  | x + 1 => by
    have ih := nd_ge (s := s) (L := L) hD c x
    unfold nd
    split
    · exact ih
    · split
      · exact ⟨.inl rfl, fun h => by omega⟩
      · rename_i hn
        have h1 := imax_le (a := nd s L D x c) (b := fuV s ((x : Int) :: L) c)
        have h2 : 0 ≤ nd s L D x c := by
          rcases ih.1 with h | h
          · exact absurd (.inl (by omega)) hn
          · exact h
        have h3 := ih.2 h2
        exact ⟨.inr (by omega), fun _ => ⟨h3.1, by omega⟩⟩
section
variable {g : ReachGraph} {n : Nat} {P : Int} {f : List Int} {ch : List (List Int)} {x : Nat}
theorem ChOk.skip {i : Nat} (h : ChOk g n f i ch) (hn : g.home[i]? = some false → 0 ≤ fu f i → False) : ChOk g n f (i + 1) ch where
  len := h.len
  mem := fun y l hl => ⟨(h.mem y l hl).1, fun a ha => by
    obtain ⟨c, e, h1, h2⟩ := (h.mem y l hl).2 a ha
    exact ⟨c, e, by omega, h2⟩⟩
  uniq := h.uniq
  all := fun c hc hh h0 => by
    by_cases e : c = i
    · subst e; exact absurd (hn hh h0) id
    · exact h.all c (by omega) hh h0
theorem ChOk.put {i y : Nat} {l : List Int} (h : ChOk g n f i ch) (hl : ch[y]? = some l) (hp : Par g f i y) : ChOk g n f (i + 1) (ch.set y (l ++ [(i : Int)])) := by
  have hyl := (List.getElem?_eq_some_iff.1 hl).1
  have hget : ∀ z, (ch.set y (l ++ [(i : Int)]))[z]? = if z = y then some (l ++ [(i : Int)]) else ch[z]? := fun z => by
    rw [List.getElem?_set]
    by_cases e : y = z
    · subst e; simp [hyl]
    · rw [if_neg e, if_neg (fun h => e h.symm)]
  have hnew : ∀ (z : Nat) m, ch[z]? = some m → (i : Int) ∉ m := fun z m hm hi => by
    obtain ⟨c, e, h1, _⟩ := (h.mem z m hm).2 _ hi
    omega
  refine ⟨by rw [List.length_set]; exact h.len, fun z m hm => ?_, fun z z' m m' a hm hm' ha ha' => ?_, fun c hc hh h0 => ?_⟩
  · rw [hget] at hm
    by_cases e : z = y
    · rw [if_pos e] at hm
      cases hm
      subst e
      have hm0 := h.mem z l hl
      refine ⟨List.nodup_append.2 ⟨hm0.1, by simp, fun a ha b hb e => ?_⟩, fun a ha => ?_⟩
      · simp at hb; subst hb; subst e; exact hnew z l hl ha
      · rcases List.mem_append.1 ha with ha | ha
        · obtain ⟨c, e, h1, h2⟩ := hm0.2 a ha
          exact ⟨c, e, by omega, h2⟩
        · simp at ha; exact ⟨i, ha, by omega, hp⟩
    · rw [if_neg e] at hm
      exact ⟨(h.mem z m hm).1, fun a ha => by
        obtain ⟨c, e, h1, h2⟩ := (h.mem z m hm).2 a ha
        exact ⟨c, e, by omega, h2⟩⟩
  · have hs : ∀ (z : Nat) m, (ch.set y (l ++ [(i : Int)]))[z]? = some m → a ∈ m → (a = (i : Int) ∧ z = y) ∨ (a ≠ (i : Int) ∧ ∃ m0, ch[z]? = some m0 ∧ a ∈ m0) := fun z m hm ha => by
      rw [hget] at hm
      by_cases e : z = y
      · rw [if_pos e] at hm
        cases hm
        rcases List.mem_append.1 ha with ha | ha
        · exact .inr ⟨fun e2 => hnew y l hl (e2 ▸ ha), l, by rw [e]; exact hl, ha⟩
        · simp at ha; exact .inl ⟨ha, e⟩
      · rw [if_neg e] at hm
        exact .inr ⟨fun e2 => hnew z m hm (e2 ▸ ha), m, hm, ha⟩
    rcases hs z m hm ha with ⟨e1, e2⟩ | ⟨e1, m0, k1, k2⟩ <;> rcases hs z' m' hm' ha' with ⟨g1, g2⟩ | ⟨g1, m1, j1, j2⟩
    · rw [e2, g2]
    · exact absurd e1 g1
    · exact absurd g1 e1
    · exact h.uniq z z' m0 m1 a k1 j1 k2 j2
  · by_cases e : c = i
    · subst e
      exact ⟨y, l ++ [(c : Int)], by rw [hget, if_pos rfl], by simp⟩
    · obtain ⟨z, m, h1, h2⟩ := h.all c (by omega) hh h0
      by_cases ez : z = y
      · subst ez
        rw [hl] at h1; cases h1
        exact ⟨z, l ++ [(i : Int)], by rw [hget, if_pos rfl], List.mem_append_left _ h2⟩
      · exact ⟨z, m, by rw [hget, if_neg ez]; exact h1, h2⟩
/-- the best move of a cell with fuel -/
theorem best_par (hg : GOk n P g) (hF : FOk g (-1) n f) {c : Nat} {l : List ReachStep} {r : Int × Int} (hc : c < n) (hh : g.home[c]? = some false) (h0 : 0 ≤ fu f c) (hl : g.out[c]? = some l) (hr : Best f l (-1) r) : ∃ y : Nat, r.2 = (y : Int) ∧ y < n ∧ Par g f c y := by
  have hs := hF.sound c hc h0
  generalize hm : (fu f c).toNat = m at hs
  cases hs with
  | home h => rw [hh] at h; cases h
  | step h hl' hz hb hw =>
    rename_i l' z m'
    rw [hl] at hl'; cases hl'
    obtain ⟨⟨t0, t1⟩, p1, p2⟩ := hg.to_ c l z hl hz
    have h1 := hF.least z.to_.toNat (by omega) _ hw
    have h2 := hr.le z hz hb h1.1
    rcases hr.is with e | ⟨y, hy, hyb, hy0, e⟩
    · rw [e] at h2; exact absurd h2.1 (by decide)
    · obtain ⟨⟨s0, s1⟩, q1, q2⟩ := hg.to_ c l y hl hy
      have hyn : y.to_.toNat < n := by omega
      have h3 := hF.least c hc _ (.step hh hl hy hyb (hF.sound _ hyn hy0))
      have e1 : r.1 = fu f y.to_.toNat + y.price := by rw [e]
      exact ⟨y.to_.toNat, by rw [e]; show y.to_ = _; omega, hyn, hh, h0, hy0, l, y, hl, hy, by omega, by omega⟩
/-- nothing is below: the table stays right -/
theorem keep_all (hg : GOk n P g) (hF : FOk g (-1) n f) (h : ChOk g n f n ch) (hu : ∀ c, ¬ Und ch x c) : FOk g x n f where
  len := hF.len
  lo := hF.lo
  sound := fun c hc h0 => wg_other (x := x) hg hF h (fun c hc hh => hF.home hc hh) _ c hc rfl (hu c) h0
  least := fun c hc m hm => hF.least c hc m (Wg.weak hg hm)
end
theorem S_reach_Needs {s : ApiSite} {L : List Int} {D : Int} (ks : OkApiSite s) (hf : RF s.Floor) (hs : RS s) (hn : s.Floor.Kind.length ≤ 1000) (hL : L.length ≤ maxLen) (hD : 0 ≤ D ∧ D ≤ 100000) {post : List Int → Prop} (hp : ∀ v, v.length = s.Floor.Kind.length → (∀ c, c < s.Floor.Kind.length → fu v c = nd s L D s.Floor.Kind.length c) → post v) : V_reach_Needs s L D post := by
  unfold V_reach_Needs
  refine S_reach_newGraph ks hf hs hn hL (fun g hG => ?_)
  have hg := hG.ok hf hs hn
  generalize hnn : s.Floor.Kind.length = n at *
  refine S_graph_fuel hg (fun f hF hB => ?_)
  have hlen := hF.len
  have hPn := top_bd (g := g) (K := 0) hg (by omega)
  have hFL : FuL s L f := .of hf hG (by rw [hnn]; exact hF) (fun y => by simp)
  have hfv : ∀ c, c < n → fu f c = fuV s L c := fun c hc => hFL.eq (by omega)
  refine S_clone_i (by omega) ⟨by omega, ?_⟩
  -- the tree of best moves
  refine Jn.mk (fun t : List Int × List (List Int) => (t.1.length = n ∧ ∀ c, c < n → fu t.1 c = nd s L D 0 c) ∧ ChOk g n f n t.2)
    (V_loopj (xs := f) (by unfold maxLen; omega) (fun t : List Int × List (List Int) × Int => t.2.2) (fun i t => (t.1.length = n ∧ ∀ c, c < n → fu t.1 c = if c < i then nd s L D 0 c else fu f c) ∧ ChOk g n f i t.2.1) rfl ⟨⟨hlen, fun c hc => by simp⟩, ?_⟩ (fun i v t hv ht hI => ?_) (fun t hI => ?_)) (fun t ht => ?_)
  · have hr : ∀ (y : Nat) (l : List Int), (List.replicate (Int.toNat (f.length : Int)) ([] : List Int))[y]? = some l → l = [] := fun y l hl => by
      rw [List.getElem?_replicate] at hl
      split at hl
      · exact (Option.some.inj hl).symm
      · cases hl
    refine ⟨by simp [hlen], fun y l hl => ?_, fun y y' l l' a hl _ ha => ?_, fun c hc => by omega⟩
    · rw [hr y l hl]; exact ⟨List.nodup_nil, fun a ha => by cases ha⟩
    · rw [hr y l hl] at ha; cases ha
  · obtain ⟨⟨i1, i2⟩, i3⟩ := hI
    have hi : i < n := by have := (List.getElem?_eq_some_iff.1 hv).1; omega
    have hvf : v = fu f i := by
      have := fu_get (f := f) (c := i) (by omega)
      rw [hv] at this; exact Option.some.inj this
    rw [ht]
    refine Jn.mk (fun u : List Int × List (List Int) => (u.1.length = n ∧ ∀ c, c < n → fu u.1 c = if c < i + 1 then nd s L D 0 c else fu f c) ∧ ChOk g n f (i + 1) u.2) ⟨v, idx_of rfl hv, Ite.mk (fun h0 => ?_) (fun h0 => ?_)⟩ (fun u hu => ⟨rfl, hu⟩)
    · have h0' : v < 0 := of_decide_eq_true h0
      refine ⟨⟨i1, fun c hc => ?_⟩, i3.skip (fun _ h => by omega)⟩
      show fu t.1 c = _
      rw [i2 c hc]
      by_cases e : c = i
      · subst e
        rw [if_neg (Nat.lt_irrefl _), if_pos (Nat.lt_succ_self _)]
        have := hF.lo c hc
        unfold nd
        rw [if_pos (by rw [← hfv c hc]; omega)]; omega
      · by_cases e2 : c < i
        · rw [if_pos e2, if_pos (by omega)]
        · rw [if_neg e2, if_neg (by omega)]
    · have h0' : 0 ≤ fu f i := by have : ¬ v < 0 := of_decide_eq_false h0; omega
      have hbi := hB i hi
      refine S_reach_Stay ⟨_, fu_idx (by omega), S_reach_best hg hlen (fun d hd => by have := hB d hd; omega) hi (fun l r hl hr => ?_)⟩
      have hho := List.getElem?_eq_getElem (show i < g.home.length by rw [hg.lh]; exact hi)
      generalize g.home[i]'_ = ho at hho
      have hval : w64 (v + w64 (D * 3)) = nd s L D 0 i := by
        rw [w64_eq (x := D * 3) (by omega) (by omega), w64_eq (by omega) (by omega)]
        unfold nd
        rw [if_neg (by rw [← hfv i hi]; omega), ← hfv i hi, hvf]
      have hne : (t.1.set i (nd s L D 0 i)).length = n ∧ ∀ c, c < n → fu (t.1.set i (nd s L D 0 i)) c = if c < i + 1 then nd s L D 0 c else fu f c := by
        refine ⟨by rw [List.length_set]; exact i1, fun c hc => ?_⟩
        rw [fu_set (by omega), i2 c hc]
        by_cases e : c = i
        · subst e; rw [if_pos rfl, if_pos (Nat.lt_succ_self _)]
        · rw [if_neg e]
          by_cases e2 : c < i
          · rw [if_pos e2, if_pos (by omega)]
          · rw [if_neg e2, if_neg (by omega)]
      have hin : Int.toNat (i : Int) = i := by simp
      refine ⟨ho, idx_of rfl hho, Jn.mk (fun ch => ChOk g n f (i + 1) ch) (Ite.mk (fun hh => ?_) (fun hh => ?_)) (fun ch hch => by
        show (_ ∧ _) ∧ _
        rw [hval, hin]; exact ⟨hne, hch⟩)⟩
      · have hof : ho = false := by simpa using hh
        subst hof
        obtain ⟨y, hy, hyn, hpar⟩ := best_par hg hF hi hho h0' hl hr
        obtain ⟨row, hrow⟩ := i3.row hyn
        have hrl : row.length ≤ n := nodup_len n row (i3.mem y row hrow).1 (fun a ha => by
          obtain ⟨c, e, h1, _⟩ := (i3.mem y row hrow).2 a ha
          omega)
        rw [hy]
        refine ⟨row, idx_of rfl hrow, by simp; omega, ?_⟩
        have := i3.put hrow hpar
        simpa using this
      · have hof : ho = true := by simpa using hh
        subst hof
        exact i3.skip (fun h _ => by rw [hho] at h; cases h)
  · obtain ⟨⟨i1, i2⟩, i3⟩ := hI
    rw [hlen] at i2 i3
    exact ⟨⟨i1, fun c hc => by show fu t.1 c = _; rw [i2 c hc, if_pos hc]⟩, i3⟩
  obtain ⟨ne0, ch⟩ := t
  obtain ⟨hne0, hch⟩ := ht
  simp only at hne0 hch
  -- the cells, one after the other
  refine Jn.mk (fun v : List Int => v.length = n ∧ ∀ c, c < n → fu v c = nd s L D n c)
    (V_loopj (xs := f) (by unfold maxLen; omega) (fun t : List Int × Int => t.2) (fun i t => t.1.length = n ∧ ∀ c, c < n → fu t.1 c = nd s L D i c) rfl hne0 (fun x v0 t hv ht hI => ?_) (fun t hI => by rw [hlen] at hI; exact hI)) (fun v hv => hp v hv.1 hv.2)
  obtain ⟨needs, tx⟩ := t
  simp only at ht hI
  subst ht
  obtain ⟨i1, i2⟩ := hI
  have hx : x < n := by have := (List.getElem?_eq_some_iff.1 hv).1; omega
  -- a cell that is not below keeps its need
  have hsame : ∀ f' : List Int, FOk g x n f' → (∀ c, c < n → ¬ Und ch x c → fu f' c = fu f c) → (∀ c, c < n → fu f' c = fuV s ((x : Int) :: L) c) ∧ ∀ c, c < n → ¬ Und ch x c → nd s L D (x + 1) c = nd s L D x c := fun f' hF' hk => by
    have hFL' : FuL s ((x : Int) :: L) f' := .of hf hG (by rw [hnn]; exact hF') (fun y => Iff.rfl)
    have hv' : ∀ c, c < n → fu f' c = fuV s ((x : Int) :: L) c := fun c hc => hFL'.eq (by omega)
    refine ⟨hv', fun c hc hu => ?_⟩
    have e : fuV s ((x : Int) :: L) c = fuV s L c := by rw [← hv' c hc, hk c hc hu, hfv c hc]
    have h1 := nd_ge (s := s) (L := L) hD.1 c x
    conv => lhs; unfold nd
    rw [e]
    split
    · rfl
    · split
      · rename_i h
        rcases h1.1 with h2 | h2
        · exact h2.symm
        · have := h1.2 h2; omega
      · rename_i h
        have h2 : 0 ≤ nd s L D x c := by
          rcases h1.1 with h2 | h2
          · exact absurd (.inl (by omega)) h
          · exact h2
        have h3 := h1.2 h2
        unfold imax; rw [if_neg (by omega)]
  refine Jn.mk (fun v : List Int => v.length = n ∧ ∀ c, c < n → fu v c = nd s L D (x + 1) c) ?_ (fun v hv => ⟨rfl, hv⟩)
  refine S_without hg hF hB hch hx (fun hno => ?_) (fun mp f' hF' htop hkeep hmp => ?_)
  · simp only [Sum.elim_inl]
    have hk := (hsame f (keep_all hg hF hch hno) (fun c hc _ => rfl)).2
    refine Jn.mk (fun v => v = needs) (Loop.step rfl) (fun v hv => ?_)
    rw [hv]
    exact ⟨i1, fun c hc => by rw [i2 c hc, hk c hc (hno c)]⟩
  · simp only [Sum.elim_inr]
    obtain ⟨hv', hk⟩ := hsame f' hF' hkeep
    have hxL : ∀ c, Und ch x c → (x : Int) ∉ L := fun c hu => by
      have key : ∀ c, Und ch x c → ∃ l a, ch[x]? = some l ∧ a ∈ l := fun c hu => by
        induction hu with
        | one h hc => exact ⟨_, _, h, hc⟩
        | step _ _ _ ih => exact ih
      obtain ⟨l, a, hl, ha⟩ := key c hu
      obtain ⟨d, e, hd, hpar⟩ := (hch.mem x l hl).2 a ha
      obtain ⟨_, _, _, lo, z, hlo, hz, hzt, _⟩ := hpar
      obtain ⟨l', e1, _, e3⟩ := hG.out d (by omega)
      rw [hlo] at e1; cases e1
      obtain ⟨dd, _, _, hnL, _⟩ := (e3 z).1 hz
      rw [← hzt]; exact hnL
    refine Jn.mk (fun v : List Int => v.length = n ∧ ∀ c, c < n → fu v c = nd s L D (x + 1) c)
      (Loop.mk (fun t : List Int × List Int => t.1.length = n ∧ (∀ c : Nat, c < n → fu t.1 c = if (c : Int) ∈ t.2 then nd s L D (x + 1) c else nd s L D x c) ∧ ∀ c : Nat, (c : Int) ∈ t.2 → Und ch x c) (fun t => left mp t.2) ⟨i1, fun c hc => by simp [i2 c hc], fun c hc => by simp at hc⟩ ?_) (fun v hv => hv)
    rintro ⟨v1, seen⟩ ⟨j1, j2, j3⟩
    simp only at j1 j2 j3
    refine ⟨fun a v ⟨hav, hns⟩ => ?_, fun hall => ?_⟩
    · obtain ⟨c, rfl, hu, rfl⟩ := (hmp a v).1 hav
      have hc : c < n := (und_lt hg hch hu).2.1
      have hcx : c ≠ x := fun e => by have := (und_lt hg hch hu).1; rw [e] at this; omega
      have hidx := fu_idx (f := v1) (c := c) (by omega)
      have hcur : fu v1 c = nd s L D x c := by rw [j2 c hc, if_neg hns]
      have hset : ∀ w d, fu (v1.set c w) d = if d = c then w else fu v1 d := fun w d => fu_set (by omega)
      have hin : Int.toNat (c : Int) = c := by simp
      have hstep : nd s L D (x + 1) c = if nd s L D x c < 0 ∨ fu f' c < 0 then -1 else imax (nd s L D x c) (fu f' c) := by
        conv => lhs; unfold nd
        rw [if_neg (fun h => h.elim hcx (hxL c hu)), hv' c hc]
      have fin : ∀ w, w = nd s L D (x + 1) c → (v1.set c w).length = n ∧ (∀ d : Nat, d < n → fu (v1.set c w) d = if (d : Int) ∈ (c : Int) :: seen then nd s L D (x + 1) d else nd s L D x d) ∧ ∀ d : Nat, (d : Int) ∈ (c : Int) :: seen → Und ch x d := fun w hw => by
        refine ⟨by rw [List.length_set]; exact j1, fun d hd => ?_, fun d hd => ?_⟩
        · rw [hset, j2 d hd]
          by_cases e : d = c
          · subst e; rw [if_pos rfl, if_pos (List.mem_cons_self ..)]; exact hw
          · rw [if_neg e]
            by_cases e2 : (d : Int) ∈ seen
            · rw [if_pos e2, if_pos (List.mem_cons_of_mem _ e2)]
            · rw [if_neg e2, if_neg (fun h => (List.mem_cons.1 h).elim (fun h => e (by omega)) e2)]
        · rcases List.mem_cons.1 hd with hd | hd
          · have : d = c := by omega
            rw [this]; exact hu
          · exact j3 d hd
      refine Jn.mk (fun b => b = true ↔ (nd s L D x c < 0 ∨ fu f' c < 0)) (Ite.mk (fun h1 => ?_) (fun h1 => ⟨_, hidx, ?_⟩)) (fun b hb => ?_)
      · exact ⟨fun _ => .inr (of_decide_eq_true h1), fun _ => rfl⟩
      · have h1' : ¬ fu f' c < 0 := of_decide_eq_false h1
        show decide (fu v1 c < 0) = true ↔ _
        rw [hcur, decide_eq_true_iff]
        exact ⟨.inl, fun h => h.resolve_right h1'⟩
      · refine Jn.mk (fun w => w = v1.set c (nd s L D (x + 1) c)) (Ite.mk (fun h1 => ⟨_, hidx, ?_⟩) (fun h1 => ⟨_, hidx, ?_⟩)) (fun w hw => ?_)
        · rw [hin, hstep, if_pos (hb.1 h1)]
        · have hno : ¬ (nd s L D x c < 0 ∨ fu f' c < 0) := fun h => by rw [hb.2 h] at h1; cases h1
          rw [hin, hstep, if_neg hno, hcur]
        · subst hw
          exact ⟨fin _ rfl, left_lt mp hav hns⟩
    · refine ⟨j1, fun c hc => ?_⟩
      show fu v1 c = _
      rw [j2 c hc]
      by_cases e : (c : Int) ∈ seen
      · rw [if_pos e]
      · rw [if_neg e]
        refine (hk c hc (fun hu => e (hall _ ?_))).symm
        rw [(hmp (c : Int) _).2 ⟨c, rfl, hu, rfl⟩]; simp
end Go.Taq

/- The mathematics, part GH: tables are checked; the examples of chapter 33; ReachFuel. -/
set_option linter.unusedVariables false
set_option linter.unusedSimpArgs false
namespace Go.Taq
open Go

/-- a table is right at a cell -/
def okC (s : ApiSite) (L f : List Int) (c : Nat) : Bool :=
  decide (-1 ≤ fu f c) && (if kd s.Floor c = 3 then decide (fu f c = 0) else
    (List.range 6).all (fun d => let r := nx s.Floor c d; !(r.2 && !L.contains r.1 && decide (0 ≤ fu f r.1.toNat)) || (decide (0 ≤ fu f c) && decide (fu f c ≤ fu f r.1.toNat + prS s d r.1))) &&
    (decide (fu f c < 0) || (List.range 6).any (fun d => let r := nx s.Floor c d; r.2 && !L.contains r.1 && decide (0 ≤ fu f r.1.toNat) && decide (fu f c = fu f r.1.toNat + prS s d r.1))))
theorem FuL.chk {s : ApiSite} {L f : List Int} (hf : RF s.Floor) (hs : RS s) (hl : f.length = s.Floor.Kind.length) (h : (List.range s.Floor.Kind.length).all (okC s L f) = true) : FuL s L f := by
  have hc : ∀ c, c < s.Floor.Kind.length → okC s L f c = true := fun c hc => List.all_eq_true.1 h c (List.mem_range.2 hc)
  have hlo : ∀ c, c < s.Floor.Kind.length → -1 ≤ fu f c := fun c h => by
    have := hc c h
    unfold okC at this
    rw [Bool.and_eq_true] at this
    exact of_decide_eq_true this.1
  have hhome : ∀ c : Nat, c < s.Floor.Kind.length → kd s.Floor c = 3 → fu f c = 0 := fun c h h3 => by
    have := hc c h
    unfold okC at this
    rw [if_pos h3, Bool.and_eq_true] at this
    exact of_decide_eq_true this.2
  have hother : ∀ c : Nat, c < s.Floor.Kind.length → kd s.Floor c ≠ 3 → (∀ d : Nat, d < 6 → (nx s.Floor c d).2 = true → (nx s.Floor c d).1 ∉ L → 0 ≤ fu f (nx s.Floor c d).1.toNat → 0 ≤ fu f c ∧ fu f c ≤ fu f (nx s.Floor c d).1.toNat + prS s d (nx s.Floor c d).1) ∧
      (0 ≤ fu f c → ∃ d : Nat, d < 6 ∧ (nx s.Floor c d).2 = true ∧ (nx s.Floor c d).1 ∉ L ∧ 0 ≤ fu f (nx s.Floor c d).1.toNat ∧ fu f c = fu f (nx s.Floor c d).1.toNat + prS s d (nx s.Floor c d).1) := fun c h h3 => by
    have := hc c h
    unfold okC at this
    rw [if_neg h3, Bool.and_eq_true, Bool.and_eq_true] at this
    obtain ⟨_, h1, h2⟩ := this
    refine ⟨fun d hd g1 g2 g3 => ?_, fun h0 => ?_⟩
    · have := List.all_eq_true.1 h1 d (List.mem_range.2 hd)
      simp only at this
      rw [g1, decide_eq_true g3] at this
      simpa [g2] using this
    · rw [Bool.or_eq_true] at h2
      rcases h2 with h2 | h2
      · have := of_decide_eq_true h2; omega
      · obtain ⟨d, hd, h2⟩ := List.any_eq_true.1 h2
        simp at h2
        exact ⟨d, List.mem_range.1 hd, h2.1.1.1, h2.1.1.2, h2.1.2, h2.2⟩
  refine ⟨hl, hlo, ?_, ?_⟩
  · have key : ∀ (k c : Nat), c < s.Floor.Kind.length → (fu f c).toNat = k → 0 ≤ fu f c → WL s L c (fu f c).toNat := by
      intro k
      induction k using Nat.strongRecOn with
      | _ k ih =>
        intro c hcl hk h0
        by_cases h3 : kd s.Floor c = 3
        · rw [hhome c hcl h3]; exact .home hcl h3
        · obtain ⟨d, hd, g1, g2, g3, g4⟩ := (hother c hcl h3).2 h0
          have hok := nx_ok hf (c := (c : Int)) (d := (d : Int)) g1
          have ht := isC_iff.1 hok.2.1
          have hp := prS_bd (s := s) hs (d := (d : Int)) (by omega) (by omega) hok.2.1
          obtain ⟨y, hy⟩ := Int.eq_ofNat_of_zero_le ht.1
          have hnx : nx s.Floor c d = ((y : Int), true) := by rw [← hy, ← g1]
          rw [hy] at g2 g3 g4 hp ht
          simp only [Int.toNat_natCast] at g3 g4
          have hw := ih (fu f y).toNat (by omega) y (by omega) rfl g3
          have := WL.step hcl h3 hd hnx g2 hw
          rw [show (fu f c).toNat = (fu f y).toNat + (prS s d y).toNat by omega]; exact this
    exact fun c hcl h0 => key _ c hcl rfl h0
  · intro c m hm
    induction hm with
    | home hcl h3 => rw [hhome _ hcl h3]; omega
    | step hcl h3 hd hn hL hm ih =>
      rename_i c d y m
      have e1 : (nx s.Floor c d).1 = (y : Int) := by rw [hn]
      have e2 : (nx s.Floor c d).2 = true := by rw [hn]
      have hok := nx_ok hf (c := (c : Int)) (d := (d : Int)) e2
      have hp := prS_bd (s := s) hs (d := (d : Int)) (by omega) (by omega) hok.2.1
      have := (hother c hcl h3).1 d hd e2 (by rw [e1]; exact hL) (by rw [e1]; simpa using ih.1)
      rw [e1] at this hp
      simp only [Int.toNat_natCast] at this
      omega
theorem S_reach_FuelB {s : ApiSite} {L : List Int} (ks : OkApiSite s) (hf : RF s.Floor) (hs : RS s) (hn : s.Floor.Kind.length ≤ 1000) (hL : L.length ≤ maxLen) {post : List Int → Prop} (hp : ∀ f, FuL s L f → (∀ c, c < s.Floor.Kind.length → fu f c ≤ 400000) → post f) : V_reach_Fuel s L post := by
  unfold V_reach_Fuel
  exact S_reach_newGraph ks hf hs hn hL (fun g hg => S_graph_fuel (hg.ok hf hs hn) (fun f hF hB => hp f (.of hf hg hF (fun y => by simp)) (fun c hc => by have := hB c hc; omega)))
/-! ## the examples -/
def e33F : ApiFloor := { W := 4, H := 1, D := 1, Kind := [3, 1, 1, 3], Out := [5, 5, 5, 5] }
def e33S : ApiSite := { Floor := e33F, Zones := [], Aparts := [], Shelves := [], Robots := [] }
theorem e33RF : RF e33F := by
  refine ⟨by decide, by decide, by decide, by decide, by decide, by decide, by decide, by decide, by decide, fun i x y hx hy => ?_⟩
  match i, hx, hy with
  | 0, hx, hy => simp [e33F] at hx hy; omega
  | 1, hx, hy => simp [e33F] at hx hy; omega
  | 2, hx, hy => simp [e33F] at hx hy; omega
  | 3, hx, hy => simp [e33F] at hx hy; omega
  | n + 4, hx, hy => simp [e33F] at hx
theorem e33Ok : OkApiSite e33S where
  Floor := ⟨i64_of (by decide), i64_of (by decide), i64_of (by decide), ok_ml (by decide) (fun x hx => i64_of (by simp [e33S, e33F] at hx; omega)), ok_ml (by decide) (fun x hx => i64_of (by simp [e33S, e33F] at hx; omega))⟩
  Zones := ok_ml (by decide) (fun z hz => by simp [e33S] at hz)
  Aparts := ok_ml (by decide) (fun x hx => by simp [e33S] at hx)
  Shelves := ok_ml (by decide) (fun x hx => by simp [e33S] at hx)
  Robots := ok_ml (by decide) (fun x hx => by simp [e33S] at hx)
theorem e33RS : RS e33S := ⟨e33RF, fun z hz => by simp [e33S] at hz, fun z hz => by simp [e33S] at hz, fun z hz => by simp [e33S] at hz⟩
theorem e33a : FuL e33S [] [0, 12, 12, 0] := .chk e33RF e33RS rfl (by decide)
theorem e33b : FuL e33S [0] [0, 24, 12, 0] := .chk e33RF e33RS rfl (by decide)
theorem e33c : FuL e33S [2] [0, 12, 12, 0] := .chk e33RF e33RS rfl (by decide)
theorem e33d : FuL e33S [3] [0, 12, 24, 0] := .chk e33RF e33RS rfl (by decide)
theorem e33e : FuL e33S [2, 0] [0, -1, 12, 0] := .chk e33RF e33RS rfl (by decide)
theorem e33n1 : nd e33S [] 0 4 1 = 24 := by
  have a := e33a.eq (c := 1) (by decide)
  have b := e33b.eq (c := 1) (by decide)
  have c := e33c.eq (c := 1) (by decide)
  have d := e33d.eq (c := 1) (by decide)
  have a' : fuV e33S [] 1 = 12 := a.symm
  have b' : fuV e33S [0] 1 = 24 := b.symm
  have c' : fuV e33S [2] 1 = 12 := c.symm
  have d' : fuV e33S [3] 1 = 12 := d.symm
  simp [nd, a', b', c', d', imax]
theorem e33n2 : nd e33S [0] 0 4 1 = -1 := by
  have b' : fuV e33S [0] 1 = 24 := (e33b.eq (c := 1) (by decide)).symm
  have c' : fuV e33S [2, 0] 1 = -1 := (e33e.eq (c := 1) (by decide)).symm
  simp [nd, b', c']
theorem S_reach_Need {s : ApiSite} {L : List Int} {D c : Int} (ks : OkApiSite s) (hf : RF s.Floor) (hs : RS s) (hn : s.Floor.Kind.length ≤ 1000) (hL : L.length ≤ maxLen) (hD : 0 ≤ D ∧ D ≤ 100000) {post : Int → Prop} (hp : post (if isC s.Floor c = true then nd s L D s.Floor.Kind.length c.toNat else -1)) : V_reach_Need s L c D post := by
  unfold V_reach_Need V_reach_isCell
  refine Jn.mk (fun b => b = isC s.Floor c) (Ite.mk (fun h => ?_) (fun h => ?_)) (fun b hb => ?_)
  · have : isC s.Floor c = decide (c < (s.Floor.Kind.length : Int)) := by unfold isC; rw [decide_eq_true (show 0 ≤ c from of_decide_eq_true h)]; rfl
    exact this.symm
  · have : isC s.Floor c = false := by unfold isC; rw [decide_eq_false (show ¬ 0 ≤ c from of_decide_eq_false h)]; rfl
    exact this.symm
  · subst hb
    refine Ite.mk (fun h => ?_) (fun h => S_reach_Needs ks hf hs hn hL hD (fun v hv hval => ?_))
    · have h' : isC s.Floor c = false := by simpa using h
      rw [if_neg (by rw [h']; simp)] at hp; exact hp
    · have h' : isC s.Floor c = true := by simpa using h
      rw [if_pos h'] at hp
      have ht := isC_iff.1 h'
      obtain ⟨y, hy⟩ := Int.eq_ofNat_of_zero_le ht.1
      subst hy
      refine ⟨_, fu_idx (by omega), ?_⟩
      rw [hval y (by omega)]
      simpa using hp
theorem S_law33_small {post : Bool → Prop} (hp : post true) : V_taquinlaw33_small post := by
  unfold V_taquinlaw33_small V_taquinlaw33_sample
  show Jn _ _
  have k : ∀ l : List Int, l.length ≤ 5 → l.length ≤ maxLen := fun l h => Nat.le_trans h (by decide)
  refine Jn.mk (fun b => b = true) (S_reach_Stay (Ite.t rfl ?_)) (fun b hb => hb ▸ hp)
  show V_reach_Price e33S 2 1 _
  refine S_reach_Price e33Ok e33RS (Ite.t (by decide) ?_)
  show V_reach_Fuel e33S [] _
  refine S_reach_Fuel e33Ok e33RF e33RS (by decide) (k _ (by decide)) (fun f hF => ?_)
  rw [hF.uniq e33a (fun y => Iff.rfl)]
  refine S_ref07_SameL (k _ (by decide)) (Ite.t rfl ?_)
  show V_reach_Need e33S [] 1 0 _
  refine S_reach_Need e33Ok e33RF e33RS (by decide) (k _ (by decide)) (by omega) ?_
  have e1 : (if isC e33S.Floor 1 = true then nd e33S [] 0 e33S.Floor.Kind.length (Int.toNat 1) else -1) = 24 := by
    rw [if_pos (by decide)]; exact e33n1
  rw [e1]
  refine Ite.t rfl ?_
  show V_reach_Need e33S [0] 1 0 _
  refine S_reach_Need e33Ok e33RF e33RS (by decide) (k _ (by decide)) (by omega) ?_
  have e2 : (if isC e33S.Floor 1 = true then nd e33S [0] 0 e33S.Floor.Kind.length (Int.toNat 1) else -1) = -1 := by
    rw [if_pos (by decide)]; exact e33n2
  rw [e2]; rfl
theorem S_law33_fits {s : ApiSite} {n : Int} (ks : OkApiSite s) {post : Bool → Prop} (hF : post false) (hT : RSite s → FewS s n 20 → post true) : V_taquinlaw33_fits s n post := by
  unfold V_taquinlaw33_fits
  exact Jn.mk' (S_ref11_Few ks (by omega) (Ite.f rfl hF) (fun h1 => Ite.t rfl (S_survey_Right ks h1 (by omega) hF (fun h2 => hT h2 h1))))
/-! ## ReachFuel -/
theorem FuL.zero {s : ApiSite} {L f : List Int} (hf : RF s.Floor) (hs : RS s) (h : FuL s L f) {c : Nat} (hc : c < s.Floor.Kind.length) : fu f c = 0 ↔ kd s.Floor c = 3 := by
  constructor
  · intro e
    have hw := h.sound c hc (by omega)
    rw [e] at hw
    generalize hm : Int.toNat 0 = m at hw
    cases hw with
    | home _ hh => exact hh
    | step hcl hnh hd hn hL hw =>
      rename_i d y m
      have hok := nx_ok hf (c := (c : Int)) (d := (d : Int)) (by rw [hn])
      rw [hn] at hok
      have hp := (prS_bd (s := s) hs (d := (d : Int)) (by omega) (by omega) hok.2.1).1
      have hp1 : 1 ≤ prS s (d : Int) (y : Int) := hp
      simp at hm; omega
  · intro e
    have := h.least c 0 (.home hc e); omega
end Go.Taq

/- The mathematics, part GI: ReachNeeds (chapter 33). -/
set_option linter.unusedVariables false
set_option linter.unusedSimpArgs false
namespace Go.Taq
open Go

theorem fuV_mono {s : ApiSite} {L L' : List Int} {c : Nat} (h : ∀ y : Nat, (y : Int) ∈ L → (y : Int) ∈ L') (h0 : 0 ≤ fuV s L' c) : 0 ≤ fuV s L c ∧ fuV s L c ≤ fuV s L' c := by
  rcases fuV_is s L' c with ⟨h1, _⟩ | ⟨_, h2, _⟩
  · omega
  · have hw : WL s L c (fuV s L' c).toNat := h2.congr h
    rcases fuV_is s L c with ⟨g1, g2⟩ | ⟨g1, g2, g3⟩
    · exact absurd hw (g2 _)
    · have := g3 _ hw; omega
theorem fuV_congr {s : ApiSite} {L L' : List Int} {c : Nat} (h : ∀ y : Nat, (y : Int) ∈ L ↔ (y : Int) ∈ L') : fuV s L c = fuV s L' c := by
  have l1 := fuV_lo s L c; have l2 := fuV_lo s L' c
  by_cases h0 : 0 ≤ fuV s L c
  · have g1 := fuV_mono (L := L') (L' := L) (fun y hy => (h y).2 hy) h0
    have g2 := fuV_mono (L := L) (L' := L') (fun y hy => (h y).1 hy) g1.1
    omega
  · by_cases h1 : 0 ≤ fuV s L' c
    · have g2 := fuV_mono (L := L) (L' := L') (fun y hy => (h y).1 hy) h1
      omega
    · omega
theorem nd_delay {s : ApiSite} {L : List Int} {D D' : Int} (hD : 0 ≤ D) (hDD : D ≤ D') (c : Nat) : ∀ x, (nd s L D x c < 0 ↔ nd s L D' x c < 0) ∧ (0 ≤ nd s L D x c → nd s L D x c ≤ nd s L D' x c)
  | 0 => by
    unfold nd
    split
    · exact ⟨Iff.rfl, fun h => by omega⟩
    · exact ⟨by omega, fun h => by omega⟩
  | x + 1 => by
    have ih := nd_delay (s := s) (L := L) hD hDD c x
    unfold nd
    by_cases h1 : c = x ∨ (x : Int) ∈ L
    · rw [if_pos h1, if_pos h1]; exact ih
    · rw [if_neg h1, if_neg h1]
      by_cases h2 : nd s L D x c < 0 ∨ fuV s ((x : Int) :: L) c < 0
      · rw [if_pos h2, if_pos (h2.imp ih.1.1 id)]
        exact ⟨Iff.rfl, fun h => by omega⟩
      · have h3 : ¬ (nd s L D' x c < 0 ∨ fuV s ((x : Int) :: L) c < 0) := fun h => h2 (h.imp ih.1.2 id)
        rw [if_neg h2, if_neg h3]
        have g1 := imax_le (a := nd s L D x c) (b := fuV s ((x : Int) :: L) c)
        have g2 := imax_le (a := nd s L D' x c) (b := fuV s ((x : Int) :: L) c)
        have : 0 ≤ nd s L D x c := by
          by_cases hh : nd s L D x c < 0
          · exact absurd (.inl hh) h2
          · omega
        have := ih.2 this
        exact ⟨by omega, fun _ => by omega⟩
theorem nd_more {s : ApiSite} {L L' : List Int} {D : Int} (hD : 0 ≤ D) {more : Int} (hL : ∀ y : Int, y ∈ L' ↔ y ∈ L ∨ y = more) (c : Nat) : ∀ x, 0 ≤ nd s L' D x c → 0 ≤ nd s L D x c ∧ nd s L D x c ≤ nd s L' D x c
  | 0 => by
    unfold nd
    intro h
    split at h
    · omega
    · rename_i h1
      have g := fuV_mono (s := s) (L := L) (L' := L') (c := c) (fun y hy => (hL _).2 (.inl hy)) (by omega)
      rw [if_neg h1, if_neg (by omega)]; omega
  | x + 1 => by
    have ih := nd_more (s := s) (L := L) hD hL c x
    have hge := nd_ge (s := s) (L := L') hD c x
    unfold nd
    intro h
    by_cases h1 : c = x ∨ (x : Int) ∈ L
    · have h1' : c = x ∨ (x : Int) ∈ L' := h1.imp id (fun h => (hL _).2 (.inl h))
      rw [if_pos h1'] at h ⊢
      rw [if_pos h1]; exact ih h
    · by_cases h2 : (x : Int) ∈ L'
      · have p2 : c = x ∨ (x : Int) ∈ L' := .inr h2
        rw [if_pos p2] at h ⊢
        have i := ih h
        have g := hge.2 h
        have hm := fuV_mono (s := s) (L := (x : Int) :: L) (L' := L') (c := c) (fun y hy => by
          rcases List.mem_cons.1 hy with e | hy
          · rw [e]; exact h2
          · exact (hL _).2 (.inl hy)) g.1
        rw [if_neg h1, if_neg (by omega)]
        have g1 := imax_le (a := nd s L D x c) (b := fuV s ((x : Int) :: L) c)
        omega
      · have h1' : ¬ (c = x ∨ (x : Int) ∈ L') := fun h => h.elim (fun h => h1 (.inl h)) h2
        rw [if_neg h1'] at h ⊢
        split at h
        · omega
        · rename_i h3
          rw [if_neg h3]
          have a1 : 0 ≤ nd s L' D x c := by
            by_cases hh : nd s L' D x c < 0
            · exact absurd (.inl hh) h3
            · omega
          have a2 : 0 ≤ fuV s ((x : Int) :: L') c := by
            by_cases hh : fuV s ((x : Int) :: L') c < 0
            · exact absurd (.inr hh) h3
            · omega
          have i := ih a1
          have hm := fuV_mono (s := s) (L := (x : Int) :: L) (L' := (x : Int) :: L') (c := c) (fun y hy => by
            rcases List.mem_cons.1 hy with e | hy
            · rw [e]; exact List.mem_cons_self ..
            · exact List.mem_cons_of_mem _ ((hL _).2 (.inl hy))) a2
          rw [if_neg h1, if_neg (by omega)]
          have g1 := imax_le (a := nd s L D x c) (b := fuV s ((x : Int) :: L) c)
          have g2 := imax_le (a := nd s L' D x c) (b := fuV s ((x : Int) :: L') c)
          omega
theorem Said_taquinlaw33_ReachNeeds (s : ApiSite) (ks : OkApiSite s) (L : List Int) (kL : (OkL I64) L) (more : Int) (km : I64 more) (D : Int) (kD : I64 D) : V_taquinlaw33_ReachNeeds s L more D (fun y => y = true) := by
  unfold V_taquinlaw33_ReachNeeds
  refine S_law33_small (Jn.mk (fun b => b = false → RSite s ∧ FewS s 24 20 ∧ L.length ≤ 10 ∧ 0 ≤ D ∧ D < 100) (S_law33_fits ks (Ite.f rfl fun h => by cases h) (fun h1 h2 => Ite.t rfl (Ite.mk (fun _ h => by cases h) (fun h3 => Ite.mk (fun _ h => by cases h) (fun h4 h5 => ⟨h1, h2, by have : ¬ ((L.length : Int) > 10) := of_decide_eq_false h3; omega, by have : ¬ (D < 0) := of_decide_eq_false h4; omega, by have : ¬ (D ≥ 100) := of_decide_eq_false h5; omega⟩))))) (fun b hb => Ite.mk (fun _ => rfl) (fun h => ?_)))
  obtain ⟨hR, hFew, hL10, hD0, hD1⟩ := hb h
  have hf := hR.fl
  have hs := hR.rs
  have hn : s.Floor.Kind.length ≤ 24 := by have := hFew.kind; omega
  have mL : 1099511627776 ≤ maxLen := by unfold maxLen; omega
  refine S_reach_Needs ks hf hs (by omega) kL.1 (by omega) (fun v1 hv1 hv1v => S_reach_FuelB ks hf hs (by omega) kL.1 (fun f hF hB => Ite.f (by rw [hv1, hF.len]; simp) ⟨by rw [hF.len]; omega, ?_⟩))
  have hfl := hF.len
  have hfv : ∀ c, c < s.Floor.Kind.length → fu f c = fuV s L c := fun c hc => hF.eq hc
  generalize hnn : s.Floor.Kind.length = n at *
  -- the first table
  refine Jn.mk (fun t => t.length = n ∧ ∀ c, c < n → fu t c = nd s L D 0 c)
    (V_loopc (xs := f) (by omega) (fun t : List Int × Int => t.2) (fun i t => t.1.length = n ∧ ∀ c, c < i → fu t.1 c = nd s L D 0 c) rfl ⟨by simp [hfl], fun c hc => by omega⟩ (fun c v t hv ht hI => ?_) (fun t hI => by rw [hfl] at hI; exact hI)) (fun t0 ht0 => ?_)
  · obtain ⟨i1, i2⟩ := hI
    have hc : c < n := by have := (List.getElem?_eq_some_iff.1 hv).1; omega
    have hvf : v = fu f c := by
      have := fu_get (f := f) (c := c) (by omega)
      rw [hv] at this; exact Option.some.inj this
    have hin : Int.toNat (c : Int) = c := by simp
    have hlo := hF.lo c (by omega)
    have hbb := hB c hc
    have hset : ∀ (u : List Int), u.length = n → ∀ w d, fu (u.set c w) d = if d = c then w else fu u d := fun u hu w d => fu_set (by omega)
    rw [ht]
    have fin : ∀ u : List Int, u.length = n → (∀ d, d < c → fu u d = nd s L D 0 d) → fu u c = nd s L D 0 c → u.length = n ∧ ∀ d, d < c + 1 → fu u d = nd s L D 0 d := fun u h1 h2 h3 => ⟨h1, fun d hd => by
      by_cases e : d = c
      · rw [e]; exact h3
      · exact h2 d (by omega)⟩
    refine ⟨_, fu_idx (by omega), Jn.mk (fun u : List Int => u.length = n ∧ ∀ d, d < c + 1 → fu u d = nd s L D 0 d) (Ite.mk (fun h0 => S_reach_Stay ?_) (fun h0 => ?_)) (fun u hu => ⟨rfl, hu⟩)⟩
    · have h0' : 0 ≤ v := of_decide_eq_true h0
      rw [hin, List.set_set]
      refine fin _ (by rw [List.length_set]; exact i1) (fun d hd => ?_) ?_
      · rw [hset _ i1, if_neg (by omega)]; exact i2 d hd
      · rw [hset _ i1, if_pos rfl, w64_eq (x := D * 3) (by omega) (by omega), w64_eq (by omega) (by omega)]
        unfold nd
        rw [if_neg (by rw [← hfv c hc]; omega), ← hfv c hc, hvf]
    · have h0' : ¬ 0 ≤ v := of_decide_eq_false h0
      rw [hin]
      refine fin _ (by rw [List.length_set]; exact i1) (fun d hd => ?_) ?_
      · rw [hset _ i1, if_neg (by omega)]; exact i2 d hd
      · rw [hset _ i1, if_pos rfl]
        unfold nd
        rw [if_pos (by rw [← hfv c hc]; omega)]; omega
  -- one more cell blocked, one after the other
  refine Jn.mk (fun t => t.length = n ∧ ∀ c, c < n → fu t c = nd s L D n c)
    (V_loopj (xs := f) (by omega) (fun t : List Int × Int => t.2) (fun i t => t.1.length = n ∧ ∀ c, c < n → fu t.1 c = nd s L D i c) rfl ht0 (fun x v t hv ht hI => ?_) (fun t hI => by rw [hfl] at hI; exact hI)) (fun t1 ht1 => ?_)
  · obtain ⟨i1, i2⟩ := hI
    have hx : x < n := by have := (List.getElem?_eq_some_iff.1 hv).1; omega
    rw [ht]
    refine Jn.mk (fun u => u.length = n ∧ ∀ c, c < n → fu u c = nd s L D (x + 1) c) (S_ref07_Has kL.1 (Ite.mk (fun h1 => ?_) (fun h1 => ?_))) (fun u hu => ⟨rfl, hu⟩)
    · have h1' : (x : Int) ∈ L := by simpa using h1
      refine ⟨i1, fun c hc => ?_⟩
      conv => rhs; unfold nd
      rw [if_pos (.inr h1')]; exact i2 c hc
    · have h1' : (x : Int) ∉ L := by simpa using h1
      refine ⟨by simp; omega, by simp; omega, S_reach_Fuel ks hf hs (by omega) (by simp; omega) (fun f' hF' => ?_)⟩
      have hf' : ∀ c, c < n → fu f' c = fuV s ((x : Int) :: L) c := fun c hc => by
        rw [hF'.eq (by omega)]
        exact fuV_congr (fun y => by simp [or_comm])
      have hfl' := hF'.len
      have hnd : ∀ c, c < n → nd s L D (x + 1) c = if c = x then nd s L D x c else if nd s L D x c < 0 ∨ fu f' c < 0 then -1 else imax (nd s L D x c) (fu f' c) := fun c hc => by
        conv => lhs; unfold nd
        rw [hf' c hc]
        by_cases e : c = x
        · rw [if_pos (.inl e), if_pos e]
        · rw [if_neg (fun h => h.elim e h1'), if_neg e]
      refine Jn.mk (fun u => u.length = n ∧ ∀ c, c < n → fu u c = nd s L D (x + 1) c)
        (V_loopj (t0 := (t.1, 0)) (xs := f) (by omega) (fun t : List Int × Int => t.2) (fun i t => t.1.length = n ∧ ∀ c, c < n → fu t.1 c = if c < i then nd s L D (x + 1) c else nd s L D x c) rfl ⟨i1, fun c hc => by simp [i2 c hc]⟩ (fun c v t hv ht hI => ?_) (fun t hI => ?_)) (fun u hu => hu)
      · obtain ⟨j1, j2⟩ := hI
        have hc : c < n := by have := (List.getElem?_eq_some_iff.1 hv).1; omega
        have hin : Int.toNat (c : Int) = c := by simp
        have hcur : fu t.1 c = nd s L D x c := by rw [j2 c hc, if_neg (Nat.lt_irrefl _)]
        have hidx := fu_idx (f := t.1) (c := c) (by omega)
        have hidx' := fu_idx (f := f') (c := c) (by omega)
        have e1 := hnd c hc
        have hset : ∀ w d, fu (t.1.set c w) d = if d = c then w else fu t.1 d := fun w d => fu_set (by omega)
        have fin : ∀ w, w = nd s L D (x + 1) c → (t.1.set c w).length = n ∧ ∀ d, d < n → fu (t.1.set c w) d = if d < c + 1 then nd s L D (x + 1) d else nd s L D x d := fun w hw => ⟨by rw [List.length_set]; exact j1, fun d hd => by
          rw [hset, j2 d hd]
          by_cases e : d = c
          · subst e; rw [if_pos rfl, if_pos (Nat.lt_succ_self _)]; exact hw
          · rw [if_neg e]
            by_cases e2 : d < c
            · rw [if_pos e2, if_pos (by omega)]
            · rw [if_neg e2, if_neg (by omega)]⟩
        rw [ht]
        refine Jn.mk (fun b => b = true ↔ c ≠ x ∧ (nd s L D x c < 0 ∨ fu f' c < 0)) (Ite.mk (fun h2 => ⟨_, hidx', Ite.mk (fun h3 => ?_) (fun h3 => ⟨_, hidx, ?_⟩)⟩) (fun h2 => ?_)) (fun b hb => ?_)
        · have h2' : c ≠ x := by have : (c : Int) ≠ (x : Int) := by simpa using h2
                                 omega
          exact ⟨fun _ => ⟨h2', .inr (of_decide_eq_true h3)⟩, fun _ => rfl⟩
        · have h2' : c ≠ x := by have : (c : Int) ≠ (x : Int) := by simpa using h2
                                 omega
          have h3' : ¬ fu f' c < 0 := of_decide_eq_false h3
          show decide (fu t.1 c < 0) = true ↔ _
          rw [hcur, decide_eq_true_iff]
          exact ⟨fun h => ⟨h2', .inl h⟩, fun h => h.2.resolve_right h3'⟩
        · have h2' : c = x := by have : (c : Int) = (x : Int) := by simpa using h2
                                 omega
          exact ⟨fun h => (by cases h), fun h => absurd h2' h.1⟩
        · refine Jn.mk (fun u : List Int => u.length = n ∧ ∀ d, d < n → fu u d = if d < c + 1 then nd s L D (x + 1) d else nd s L D x d) (Ite.mk (fun h2 => ⟨_, hidx, ?_⟩) (fun h2 => ?_)) (fun u hu => ⟨rfl, hu⟩)
          · rw [hin]
            obtain ⟨g1, g2⟩ := hb.1 h2
            exact fin _ (by rw [e1, if_neg g1, if_pos g2])
          · have hno : ¬ (c ≠ x ∧ (nd s L D x c < 0 ∨ fu f' c < 0)) := fun h => by rw [hb.2 h] at h2; cases h2
            refine Jn.mk' (Ite.mk (fun h3 => ⟨_, hidx, _, hidx', ?_⟩) (fun h3 => ?_))
            · have h3' : c ≠ x := by have : (c : Int) ≠ (x : Int) := by simpa using h3
                                     omega
              rw [hin]
              exact fin _ (by rw [e1, if_neg h3', if_neg (fun h => hno ⟨h3', h⟩), hcur])
            · have h3' : c = x := by have : (c : Int) = (x : Int) := by simpa using h3
                                     omega
              refine ⟨j1, fun d hd => ?_⟩
              rw [j2 d hd]
              by_cases e : d = c
              · rw [e, if_neg (Nat.lt_irrefl _), if_pos (Nat.lt_succ_self _), e1, if_pos h3']
              · by_cases e2 : d < c
                · rw [if_pos e2, if_pos (by omega)]
                · rw [if_neg e2, if_neg (by omega)]
      · obtain ⟨j1, j2⟩ := hI
        rw [hfl] at j2
        exact ⟨j1, fun c hc => by show fu t.1 c = _; rw [j2 c hc, if_pos hc]⟩
  -- never less
  obtain ⟨l1, b1⟩ := ht1
  rw [w64_eq (x := D + 1) (by omega) (by omega)]
  refine S_reach_Needs ks hf hs (by omega) kL.1 (by omega) (fun v2 hv2 hv2v => ⟨by simp; omega, by simp; omega, S_reach_Needs ks hf hs (by omega) (by simp; omega) (by omega) (fun v3 hv3 hv3v => ?_)⟩)
  rw [hnn] at hv2 hv2v hv3 hv3v
  refine Jn.mk (fun _ => True) (V_loopj (xs := f) (by omega) (fun t : Int => t) (fun i t => True) rfl trivial (fun c v t hv ht _ => ?_) (fun _ _ => trivial)) (fun _ _ => rfl)
  have hc : c < n := by have := (List.getElem?_eq_some_iff.1 hv).1; omega
  have x1 := fu_idx (f := v1) (c := c) (by omega)
  have x2 := fu_idx (f := t1) (c := c) (by omega)
  have x3 := fu_idx (f := v2) (c := c) (by omega)
  have x4 := fu_idx (f := v3) (c := c) (by omega)
  have e1 := hv1v c hc
  have e2 := b1 c hc
  have e3 := hv2v c hc
  have e4 := hv3v c hc
  have m1 := nd_delay (s := s) (L := L) (D := D) (D' := D + 1) hD0 (by omega) c n
  have m2 := nd_more (s := s) (L := L) (L' := ([] ++ L) ++ [more]) (D := D) hD0 (more := more) (fun y => by simp) c n
  rw [← e1, ← e3] at m1
  rw [← e1, ← e4] at m2
  rw [ht]
  refine Jn.mk (fun b => b = false) ⟨_, x1, _, x2, Ite.f (by rw [e1, e2]; simp) (Ite.mk (fun h0 => ?_) (fun h0 => ?_))⟩ (fun b hb => Ite.f hb ⟨rfl, trivial⟩)
  · have h0' : 0 ≤ fu v1 c := of_decide_eq_true h0
    have := m1.2 h0'
    refine ⟨_, x3, Ite.f (decide_eq_false (by omega)) (Ite.f (decide_eq_false (by omega)) ⟨_, x4, Ite.mk (fun h4 => Ite.mk (fun _ => ?_) (fun _ => rfl)) (fun _ => rfl)⟩)⟩
    have h4' : 0 ≤ fu v3 c := of_decide_eq_true h4
    have := m2 h4'
    exact decide_eq_false (by omega)
  · have h0' : ¬ 0 ≤ fu v1 c := of_decide_eq_false h0
    have hv2n := m1.1.1 (by omega)
    refine Ite.t (decide_eq_true (by omega)) ⟨_, x3, Ite.f (decide_eq_false (by omega)) ⟨_, x4, Ite.mk (fun h4 => ?_) (fun _ => rfl)⟩⟩
    have h4' : 0 ≤ fu v3 c := of_decide_eq_true h4
    have := m2 h4'
    omega
end Go.Taq
