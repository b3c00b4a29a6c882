/- The library of the generated walks, part Q: deleting from a map, ranging over a map. -/
import Derived.Test.YtpcdibgbijddlaaLibP
set_option linter.unusedVariables false
namespace Go.Taq
open Go
open Go.ChangeMaps (setBlock)

section
variable {κ α : Type} [DecidableEq κ]
end

section
variable {P : Program} {B : Base} {tb : Tab} {Γ : Env} {H : Heap} {nl : Nat} {o : Oper} {κ α : Type} [DecidableEq κ]

/-- a step of a range -/
theorem Eff.nx {d : Nat} {it : Operand} {l li : Nat} {ke : κ → Value} {ve : α → AVal} {xs : List (κ × α)} {seen : List κ} (ho : o.op = .next it false) (hd : o.dst = some d) (hlt : d.blt B.n = true) (hro : ∀ y, (ve y).isRo = true)
    (hm : ev Γ it = some (.o li)) (hl : find H l = some (.rng ke ve xs seen li)) :
    Eff (ι := ULift (Option (κ × α))) P B Γ H nl o (fun s => match s.down with | none => ∀ k, Taq.lk xs k ≠ none → k ∈ seen | some (k, v) => Taq.lk xs k = some v ∧ k ∉ seen)
      (fun s => (d, match s.down with | none => .tup [.v (.bool false)] | some (k, v) => .tup [.v (.bool true), unv (.v (ke k)), unv (ve v)]) :: Γ)
      (fun s => match s.down with | none => H | some (k, v) => setH H l (.rng ke ve xs (k :: seen) li)) (fun _ => nl) (.fx [li] false) := fun B hB β F a w hβ hf next Q hn => by
  rw [← hB] at hlt
  obtain ⟨dst, op, ty, pos, af, g⟩ := o
  simp only at ho hd; subst ho; subst hd
  obtain ⟨F1, hF1, ⟨b, bi, es, clock, sa, G, hv0, hli, hne, hb, hbi, hw, hwi, he, hG, hdj, hr, hs1, hs2⟩, hset⟩ := hf.heap.set hl
  have hiv := (ev_sound (a := a) hf.env hm).o_inv
  rw [hli] at hiv
  have hit := (Option.some.inj hiv).symm
  unfold Oper.wp
  have hmem : ∀ (i : Nat) (x : κ × α), xs[i]? = some x → ∃ e, es[i]? = some e := fun i x hx => by
    have := (List.getElem?_eq_some_iff.1 hx).1
    exact ⟨es[i]'(by rw [he.size]; exact this), Array.getElem?_eq_getElem _⟩
  rcases run_next_at (P := P) w ty bi b clock clock sa es clock hwi hw he.old (Nat.le_refl _) with ⟨h0, hrun⟩ | ⟨e, hel, w1, hw1, hrun⟩
  · have hex : (execOp a.eval ⟨some d, .next it false, ty, pos, af, g⟩).run P w = .ok (.value (.tuple #[.bool false])) w := by simp [execOp, hit, hrun]
    rw [hex]
    refine hn ⟨none⟩ (fun k hk => ?_) _ _ β F B (.refl _) hβ (fun _ _ h => h) ⟨fun l' x c hl' hx _ => ?_, .refl _ _, fun _ c hc => hc⟩ (hf.put hlt (.tup _ #[.bool false] rfl (fun j C hC => ?_)))
    · have hk2 := lk_kidx xs k
      cases hkk : kidx (xs.map (·.1)) k with
      | none => rw [hkk] at hk2; exact absurd hk2.1 hk
      | some i =>
        rw [hkk] at hk2
        obtain ⟨v, h1, h2⟩ := hk2
        obtain ⟨e, h3⟩ := hmem i _ h1
        refine (hs1 i _ e h1 h3).1 ?_
        cases hc : sa.contains e.born with
        | true => rfl
        | false =>
          have : e ∈ (leftOf es sa).toList := by
            unfold leftOf
            simp only [Array.toList_filter, List.mem_filter]
            exact ⟨Array.mem_toList_iff.2 (Array.mem_of_getElem? h3), by rw [hc]; rfl⟩
          have hz : (leftOf es sa).toList = [] := List.eq_nil_of_length_eq_zero (by simpa using h0)
          rw [hz] at this; cases this
    · rw [List.getElem?_eq_none (by omega)] at hx; cases hx
    · match j, hC with
      | 0, hC => simp at hC; subst hC; exact .ro (.v _)
      | j + 1, hC => simp at hC
  · have hel2 : e ∈ es.toList ∧ sa.contains e.born = false := by
      unfold leftOf at hel
      simp only [Array.toList_filter, List.mem_filter] at hel
      exact ⟨hel.1, by simpa using hel.2⟩
    obtain ⟨i, hi, hei⟩ := List.getElem_of_mem hel2.1
    have hei' : es[i]? = some e := by
      have : i < es.size := by simpa using hi
      rw [Array.getElem?_eq_getElem this]; rw [← hei]; simp
    have hix : i < xs.length := by rw [← he.size]; simpa using hi
    obtain ⟨⟨k, v⟩, hx⟩ : ∃ x, xs[i]? = some x := ⟨_, List.getElem?_eq_getElem hix⟩
    have hkey := he.key i _ e hx hei'
    have hidx : ∀ (j : Nat) (y : α), xs[j]? = some (k, y) → j = i := fun j y hy => by
      have hnd := he.nodup
      have h1 : (xs.map (·.1))[j]? = some k := by simp [hy]
      have h2 : (xs.map (·.1))[i]? = some k := by simp [hx]
      have hj := (List.getElem?_eq_some_iff.1 h1).1
      exact (List.getElem?_inj hj hnd).1 (h1.trans h2.symm)
    have hborn : ∀ (j : Nat) (e' : MapEntry), es[j]? = some e' → e'.born = e.born → j = i := fun j e' hj hb' => by
      have hnd : (es.toList.map (·.born)).Nodup := by
        rw [List.Nodup, List.pairwise_map]; exact he.born.imp (fun h => Nat.ne_of_lt h)
      have h1 : (es.toList.map (·.born))[j]? = some e.born := by simp [hj, hb']
      have h2 : (es.toList.map (·.born))[i]? = some e.born := by simp [hei']
      have hjl := (List.getElem?_eq_some_iff.1 h1).1
      exact (List.getElem?_inj hjl hnd).1 (h1.trans h2.symm)
    have hlk : Taq.lk xs k = some v := by
      have hk2 := lk_kidx xs k
      cases hkk : kidx (xs.map (·.1)) k with
      | none => rw [hkk] at hk2; exact absurd rfl (hk2.2 _ (List.mem_of_getElem? hx))
      | some i' =>
        rw [hkk] at hk2
        obtain ⟨v', h1, h2⟩ := hk2
        have := hidx i' v' h1
        subst this
        rw [hx] at h1; cases h1; exact h2
    have hns : k ∉ seen := fun h => by
      have := (hs1 i _ e hx hei').2 h
      rw [hel2.2] at this; cases this
    have hv : Ro B.w0 B.ok (ve v) e.val := (hr i _ e hx hei').ro_of (hro v)
    have hex : (execOp a.eval ⟨some d, .next it false, ty, pos, af, g⟩).run P w = .ok (.value (.tuple #[.bool true, e.key, e.val])) (setBlock w1 bi (.mapIter (some b) clock (sa.push e.born) clock)) := by simp [execOp, hit, hrun]
    rw [hex]
    have hh1 : w1.heap = w.heap := by rcases hw1 with rfl | rfl <;> rfl
    have hk0 : ∀ M : Nat → Prop, Kp w M w1 := fun M => by
      rcases hw1 with rfl | rfl
      · exact .refl _ _
      · exact Kp.drew w M _
    have hwi1 : w1.heap[bi]? = some (.mapIter (some b) clock sa clock) := by rw [hh1]; exact hwi
    have hk1 : ∀ M : Nat → Prop, M bi → Kp w M (setBlock w1 bi (.mapIter (some b) clock (sa.push e.born) clock)) := fun M hM => (hk0 M).trans (kp_setBlock w1 bi _ M hM) (fun _ h _ => h)
    have hM : ∀ x, x = bi → x < B.w0.heap.size → B.M x := fun x hx hlt' => by subst hx; exact (hf.own x (hF1 x hbi)).2 hlt'
    have hoth : ∀ c, c ≠ bi → (setBlock w1 bi (.mapIter (some b) clock (sa.push e.born) clock)).heap[c]? = w.heap[c]? := fun c hc => by rw [heap_other hwi1 _ hc, hh1]
    have hRes : ResOk B.w0 B.ok β (setBlock w1 bi (.mapIter (some b) clock (sa.push e.born) clock)) l F1 (.rng ke ve xs (k :: seen) li) := by
      refine ⟨b, bi, es, clock, sa.push e.born, G, hv0, hli, hne, hb, hbi, by rw [hoth b hne]; exact hw, heap_same hwi1 _, he, hG, hdj, fun i x e h1 h2 => (hr i x e h1 h2).later (fun c hc hlt' => hoth c (hG i c hc).2.2), fun j x e' h1 h2 => ?_, fun k' rest hkr j x e' h1 h2 h3 => ?_⟩
      · have h3 := hs1 j x e' h1 h2
        rw [Array.contains_push]
        simp only [Bool.or_eq_true, beq_iff_eq, List.mem_cons]
        constructor
        · rintro (h | h)
          · exact .inr (h3.1 h)
          · have := hborn j e' h2 h
            subst this
            rw [hx] at h1; cases h1; exact .inl rfl
        · rintro (h | h)
          · obtain ⟨x1, x2⟩ := x
            simp only at h
            subst h
            have := hidx j x2 h1
            subst this
            rw [hei'] at h2; cases h2; exact .inr rfl
          · exact .inl (h3.2 h)
      · cases hkr
        obtain ⟨x1, x2⟩ := x
        simp only at h3
        subst h3
        have := hidx j x2 h1
        subst this
        rw [hei'] at h2; cases h2
        exact ⟨sa, rfl⟩
    refine hn ⟨some (k, v)⟩ ⟨hlk, hns⟩ _ _ β F B (.refl _) hβ (fun _ _ h => h) ⟨fun l' x c hl' hx _ => ?_, hk1 _ ⟨li, by simp, _, hli, rfl⟩, fun _ c hc => hc⟩
      (FitsB.put ⟨hf.kp.trans (hk1 (fun x => x = bi) rfl) hM, hf.ok, fun c hc => by have := hf.own c hc; exact ⟨Nat.lt_of_lt_of_le this.1 (hk1 (fun x => x = bi) rfl).size, this.2⟩, hset _ _ (fun c hc hn' hlt' => hoth c (fun e => hn' (e ▸ hbi))) hRes, hf.env, hf.size, hf.defers, hf.pre⟩ hlt (.tup _ #[.bool true, e.key, e.val] rfl (fun j C hC => ?_)))
    · rw [List.getElem?_eq_none (by omega)] at hx; cases hx
    · match j, hC with
      | 0, hC => simp at hC; subst hC; exact .ro (.v _)
      | 1, hC => simp at hC; subst hC; show Dn _ _ _ (unv (.v (ke k))) _; rw [← hkey]; exact (Dn.ro (.v _)).unv
      | 2, hC => simp at hC; subst hC; exact (Dn.ro hv).unv
      | j + 3, hC => simp at hC

end
end Go.Taq
