/- The mathematics, part EK: BatchInTime (chapter 43). -/
import Derived.Test.YtghoacejnmgldaaEJ
set_option linter.unusedVariables false
set_option linter.unusedSimpArgs false
set_option maxRecDepth 100000
set_option maxHeartbeats 1000000
namespace Go.Taq
open Go

section
variable {l : List ApiJob}
structure IT (l : List ApiJob) (s : Int) (D I : List Int) : Prop where
  asc : I.Pairwise (· < ·)
  mem : AllIn l I
  ok : Lat l s (D.filter fun x => decide (x ∈ I)) 0
  len : (D.filter fun x => decide (x ∈ I)).length = I.length
  max : ∀ S, S.Sublist D → Lat l s S 0 → S.length ≤ I.length
theorem inT_ok (hj : JsOk l) {s : Int} {D : List Int} (hD : DueOf l D) : IT l s D (inT l s D) := by
  have hw : ∀ k, k ∈ D → 0 ≤ (jb l k).Work := fun k hk => by have := (hj.at (hD.mem.1 hk)).w0; omega
  have hm := MI.mh (l := l) (s := s) hD.2 hw
  have hperm : (inT l s D).Perm (mh l s D).1 := List.mergeSort_perm _ _
  have hsort : (inT l s D).Pairwise (· ≤ ·) := by
    have := List.pairwise_mergeSort (le := fun x y : Int => decide (x ≤ y)) (fun a b c h1 h2 => by simp at *; omega) (fun a b => by simp; omega) (mh l s D).1
    exact this.imp (fun h => by simpa using h)
  have hn : (inT l s D).Nodup := hperm.nodup_iff.2 (wb_nodup hm.so)
  have hmem : ∀ x, x ∈ inT l s D → x ∈ D := fun x hx => hm.me x (hperm.mem_iff.1 hx)
  have e : D.filter (fun x => decide (x ∈ inT l s D)) = D.filter (fun x => decide (x ∈ (mh l s D).1)) := List.filter_congr fun x _ => by simp [hperm.mem_iff]
  refine ⟨(hsort.and hn).imp (fun ⟨h1, h2⟩ => by have : _ ≠ _ := h2; omega), fun k hk => hD.mem.1 (hmem k hk), by rw [e]; exact hm.ok, (filt_perm hD.nodup hn hmem).length_eq, fun S hS hL => ?_⟩
  obtain ⟨U, h1, h2, _⟩ := hm.mo S hS hL
  rw [hperm.length_eq, ← h2]; exact h1.length_le
theorem S_Has43 {a : List Int} (hm : a.length ≤ 1000) {n : Int} {post : Bool → Prop} (hp : post (decide (n ∈ a))) : V_taquinref07_Has a n post := by
  unfold V_taquinref07_Has
  refine V_any (by unfold maxLen; omega) (p := fun x => x == n) ?_
  rw [any_beq]
  have : a.contains n = decide (n ∈ a) := by simp
  rw [this]; exact hp
theorem S_some {o a : List Int} (ha : a.length ≤ 1000) (ho : o.length ≤ 1000) {post : List Int → Prop} (hp : post (o.filter fun x => decide (x ∈ a))) : V_taquinlaw43_some o a post := by
  unfold V_taquinlaw43_some
  refine Jn.mk (fun x => x = o.filter fun x => decide (x ∈ a)) (V_loopc (xs := o) (by unfold maxLen; omega) (fun t : List Int × Int => t.2) (fun i t => t.1 = (o.take i).filter fun x => decide (x ∈ a)) rfl rfl (fun i x t hx ht hI => ?_) (fun t hI => ?_)) (fun x e => by subst e; exact hp)
  · have hl : t.1.length ≤ 1000 := by rw [hI]; exact Nat.le_trans (List.length_filter_le _ _) (by rw [List.length_take]; omega)
    refine S_Has43 ha (Jn.mk (fun y => y = (o.take (i + 1)).filter fun x => decide (x ∈ a)) (Ite.mk (fun h => ⟨by simp; omega, ?_⟩) (fun h => ?_)) (fun y e => ⟨by rw [ht], e⟩))
    · rw [take_snoc hx, List.filter_append, hI]; simp only [List.filter_cons, h, if_true, List.filter_nil]
    · show t.1 = _
      rw [take_snoc hx, List.filter_append, hI]; simp only [List.filter_cons, h, List.filter_nil]; simp
  · rw [hI, List.take_length]
theorem S_seen {o : List Int} {n : Int} (en : n = l.length) (hl : l.length ≤ 1000) (hm : o.length ≤ maxLen) {E k : Prop} (hE : ¬ (o.Nodup ∧ AllIn l o) → E) (hk : o.Nodup → AllIn l o → k) :
    Jn (fun (J9 : Unit → Prop) => Loop (fun (s10 : List Bool × Int) Y11 => Ite (decide (s10.2 < (o.length : Int))) (Jn (fun (J16 : Bool → Prop) => ∃ x17, idx o s10.2 = some x17 ∧ Ite (decide (x17 < 0)) (J16 true) (J16 (decide (x17 ≥ n)))) (fun (x15 : Bool) => Ite x15 E (∃ x24, idx o s10.2 = some x24 ∧ ∃ x25, idx s10.1 x24 = some x25 ∧ Ite x25 E (Y11 ((s10.1.set (Int.toNat x24) true), w64 (s10.2 + 1)))))) (J9 ())) ((List.replicate (Int.toNat n) false), 0)) (fun (x8 : Unit) => k) := by
  refine Jn.mk (fun _ => o.Nodup ∧ AllIn l o) (V_loopj (xs := o) hm (fun t : List Bool × Int => t.2) (fun i t => t.1.length = l.length ∧ (o.take i).Nodup ∧ AllIn l (o.take i) ∧ ∀ k : Nat, k < l.length → (t.1[k]? = some true ↔ (k : Int) ∈ o.take i)) rfl ?_ (fun i x t hx ht hI => ?_) (fun t hI => ?_)) (fun _ h => hk h.1 h.2)
  · refine ⟨by simp [en], by simp, fun k hk => by simp at hk, fun k hk => ?_⟩
    simp [List.getElem?_replicate]
  · obtain ⟨seen, k⟩ := t
    simp only at ht hI
    subst ht
    obtain ⟨a1, a2, a3, a4⟩ := hI
    have hxm := List.mem_of_getElem? hx
    refine Jn.mk (fun b => b = (decide (x < 0) || decide (x ≥ n))) ⟨x, idx_of rfl hx, Ite.mk (fun h => by rw [h]; rfl) (fun h => by rw [h]; rfl)⟩ (fun b hb => ?_)
    subst hb
    refine Ite.mk (fun h => hE fun hw => ?_) (fun h => ?_)
    · have h : x < 0 ∨ n ≤ x := by simpa using h
      have := hw.2 x hxm
      unfold In at this; omega
    · have h : ¬ x < 0 ∧ ¬ n ≤ x := by simpa using h
      have hlt : x.toNat < seen.length := by omega
      have hb : seen[x.toNat]? = some (seen[x.toNat]'hlt) := List.getElem?_eq_getElem hlt
      have hxx : ((x.toNat : Nat) : Int) = x := by omega
      have hk := a4 x.toNat (by omega)
      rw [hxx, hb] at hk
      refine ⟨x, idx_of rfl hx, seen[x.toNat]'hlt, idx_of (n := x.toNat) (by omega) hb, Ite.mk (fun h2 => hE fun hw => ?_) (fun h2 => ⟨rfl, by simpa using a1, ?_, ?_, fun k hk2 => ?_⟩)⟩
      · have hmem : x ∈ o.take i := hk.1 (by rw [h2])
        have hn := hw.1
        have eo : o.take (i + 1) = o.take i ++ [x] := take_snoc hx
        have hn2 : (o.take i ++ [x]).Nodup := by rw [← eo]; exact hn.sublist (List.take_sublist _ _)
        exact (List.nodup_append.1 hn2).2.2 x hmem x (by simp) rfl
      · rw [take_snoc hx, List.nodup_append]
        refine ⟨a2, by simp, fun a ha b hb2 e => ?_⟩
        simp at hb2; subst hb2; subst e
        have := hk.2 ha
        rw [Option.some.injEq] at this
        rw [this] at h2; cases h2
      · rw [take_snoc hx]
        intro y hy
        rcases List.mem_append.1 hy with hy | hy
        · exact a3 y hy
        · simp at hy; subst hy; exact ⟨by omega, by omega⟩
      · show (seen.set x.toNat true)[k]? = some true ↔ _
        rw [take_snoc hx, List.getElem?_set, List.mem_append]
        by_cases e : x.toNat = k
        · subst e
          rw [if_pos rfl, if_pos hlt, hxx]; simp
        · rw [if_neg e, a4 k hk2]
          have : (k : Int) ≠ x := by omega
          simp [this]
  · rw [List.take_length] at hI; exact ⟨hI.2.1, hI.2.2.1⟩
theorem it_all (hj : JsOk l) {s : Int} {D I : List Int} (hD : DueOf l D) (h : IT l s D I) : I.length = l.length ↔ l.length = 0 ∨ wst l s D ≤ 0 := by
  have hfl := List.length_filter_le (fun x => decide (x ∈ I)) D
  rw [h.len, hD.len] at hfl
  constructor
  · intro e
    by_cases h0 : l.length = 0
    · exact .inl h0
    · right
      have hDn : D ≠ [] := fun e0 => h0 (by rw [← hD.len, e0]; rfl)
      have e2 : D.filter (fun x => decide (x ∈ I)) = D := (List.filter_sublist).eq_of_length (by rw [h.len, e, hD.len])
      have := h.ok
      rw [e2] at this
      exact (wst_le hDn).2 this
  · rintro (h0 | h0)
    · omega
    · by_cases hDn : D = []
      · have := hD.len; rw [hDn] at this; simp at this; omega
      · have := h.max D (List.Sublist.refl _) ((wst_le hDn).1 h0)
        rw [hD.len] at this; omega
theorem Said_taquinlaw43_BatchInTime (l : List ApiJob) (kl : OkL OkApiJob l) (order : List Int) (ko : OkL I64 order) (start : Int) (ks : I64 start) : V_taquinlaw43_BatchInTime l order start (fun y => y = true) := by
  unfold V_taquinlaw43_BatchInTime
  refine S_law43_small (S_fair (fun hf => Ite.f rfl ?_) (fun _ => Ite.t rfl rfl))
  have hn := hf.n
  refine S_batch_Due (by omega) fun D hD => S_intime hf.j hf.s0 hf.s1 fun D' hD' => ?_
  have := hD'.uniq hD; subst this
  have hDl := hD.len
  have hI := inT_ok hf.j (s := start) hD
  generalize inT l start D' = I at hI
  have hfl := List.length_filter_le (fun x => decide (x ∈ I)) D'
  rw [hI.len, hDl] at hfl
  refine Jn.mk (fun _ => True) (V_loopj (xs := I) (by unfold maxLen; omega) (fun t : Int => t) (fun _ _ => True) rfl trivial (fun i x t hx ht _ => ?_) (fun _ _ => trivial)) (fun _ _ => ?_)
  · subst ht
    have hin := hI.mem x (List.mem_of_getElem? hx)
    obtain ⟨hi, hxe⟩ := List.getElem?_eq_some_iff.1 hx
    refine Jn.eq false ⟨x, idx_of rfl hx, Ite.f (decide_eq_false (by have := hin.1; omega)) (Ite.f (decide_eq_false (by have := hin.2; omega)) (Ite.mk (fun h => ?_) (fun h => rfl)))⟩ (Ite.f rfl ⟨rfl, trivial⟩)
    have h : (i : Int) > 0 := of_decide_eq_true h
    have ew : imax (w64 ((i : Int) - 1)) 0 = ((i - 1 : Nat) : Int) := by rw [w64_s (by omega) (by omega)]; unfold imax; split <;> omega
    have h1 : i - 1 < I.length := by omega
    refine ⟨I[i - 1], by rw [ew]; exact idx_of rfl (List.getElem?_eq_getElem h1), ?_⟩
    have := (List.pairwise_iff_getElem.1 hI.asc) (i - 1) i h1 hi (by omega)
    rw [hxe] at this
    exact decide_eq_false (by omega)
  · refine S_some (by omega) (by omega) (Jn.eq false (Ite.f (by rw [hI.len]; simp) (Ite.mk (fun h => ?_) (fun h => rfl))) (Ite.f rfl (Jn.eq false (Ite.mk (fun h0 => ?_) (fun h0 => ?_)) (Ite.f rfl ?_))))
    · have h : (I.length : Int) > 0 := of_decide_eq_true h
      have hlen := hI.len
      have hfin : AllIn l (D'.filter fun x => decide (x ∈ I)) := fun k hk => hD.mem.1 (List.mem_filter.1 hk).1
      refine S_worst hf.j (by omega) hf.s0 hf.s1 ?_
      rw [kn_all hfin]
      have hne : D'.filter (fun x => decide (x ∈ I)) ≠ [] := fun e => by rw [e] at hlen; simp at hlen; omega
      have := (wst_le hne).2 hI.ok
      exact decide_eq_false (by omega)
    · have h0 : l.length = 0 := by have : (l.length : Int) = 0 := by simpa using h0
                                   omega
      have := (it_all hf.j hD hI).2 (.inl h0)
      simp [this]
    · have h0 : l.length ≠ 0 := fun e => by simp [e] at h0
      refine S_worst hf.j (by omega) hf.s0 hf.s1 ?_
      rw [kn_all hD.allIn]
      have hiff := it_all hf.j hD hI
      by_cases hw : wst l start D' ≤ 0
      · have := hiff.2 (.inr hw)
        simp [this, hw]
      · have : I.length ≠ l.length := fun e => (hiff.1 e).elim h0 hw
        have h2 : ((I.length : Int) == (l.length : Int)) = false := by simp; omega
        rw [h2, decide_eq_false hw]; rfl
    · refine Ite.mk (fun _ => rfl) (fun hol => ?_)
      have hol : ¬ (order.length : Int) > l.length := of_decide_eq_false hol
      refine ⟨⟨by omega, by omega⟩, S_seen rfl (by omega) ko.1 (fun _ => rfl) fun g1 g2 => ?_⟩
      refine Jn.eq true (Ite.t rfl (Ite.mk (fun h => rfl) (fun h => S_worst hf.j (by omega) hf.s0 hf.s1 (Ite.mk (fun h2 => rfl) (fun h2 => ?_))))) rfl
      have hon : order ≠ [] := fun e => by simp [e] at h
      have h2 := of_decide_eq_false h2
      rw [kn_all g2] at h2
      have hw : wst l start order ≤ 0 := by omega
      have hL := Lat_isort (fun k hk => by have := (hf.j.at (g2 k hk)).w0; omega) ((wst_le hon).1 hw)
      rw [← hD.filter g1 g2] at hL
      have hm := hI.max _ List.filter_sublist hL
      rw [hD.filter g1 g2, isort_perm.length_eq] at hm
      exact decide_eq_true (by omega)
end
end Go.Taq
