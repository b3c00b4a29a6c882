/- The mathematics, part EH: InTime by the code (chapter 43). -/
import Derived.Test.YtghoacejnmgldaaEG
set_option linter.unusedVariables false
set_option linter.unusedSimpArgs false
set_option maxRecDepth 100000
set_option maxHeartbeats 1000000
namespace Go.Taq
open Go

theorem S_or2 {x y : Int} {post : Int → Prop} (hp : post (if x ≠ 0 then x else y)) : V_cmp_Or_int [x, y] post := by
  unfold V_cmp_Or_int
  have e1 : w64 ((0 : Int) + 1) = 1 := by decide
  have e2 : w64 ((1 : Int) + 1) = 2 := by decide
  refine Jn.mk' (Loop.step (Ite.t (by simp) ⟨x, rfl, Ite.mk (fun h => ?_) (fun h => ?_)⟩))
  · have h : x ≠ 0 := by simpa using h
    rw [if_pos h] at hp; exact hp
  · have h : ¬ x ≠ 0 := by simpa using h
    rw [if_neg h] at hp
    rw [e1]
    refine Loop.step (Ite.t (by simp) ⟨y, rfl, Ite.mk (fun h => hp) (fun h2 => ?_)⟩)
    have h2 : y = 0 := by simpa using h2
    rw [e2]
    refine Loop.step (Ite.f (by simp) ?_)
    subst h2; exact hp
def orI (x y : Int) : Int := if x ≠ 0 then x else y
theorem orI_lt {a b c d : Int} : orI (cmpI a b) (cmpI c d) < 0 ↔ a < b ∨ a = b ∧ c < d := by
  unfold orI cmpI
  split <;> split <;> (try split) <;> (try split) <;> omega
section
variable {l : List ApiJob}
theorem S_cmpW {a b : Int} (ha : In l a) (hb : In l b) {post : Int → Prop} (hp : post (orI (cmpI (jb l b).Work (jb l a).Work) (cmpI b a))) : V_batch_InTime_1 a b l post := by
  unfold V_batch_InTime_1
  exact ⟨_, jb_get hb.1 hb.2, _, jb_get ha.1 ha.2, S_cmp (S_cmp (S_or2 hp))⟩
theorem wb_iff {a b : Int} : orI (cmpI (jb l b).Work (jb l a).Work) (cmpI b a) < 0 ↔ wb l a b := by rw [orI_lt]; rfl
theorem S_bsf {T : List Int} {i : Int} (hs : T.Pairwise (wb l)) (hi : i ∉ T) (hT : AllIn l T) (hin : In l i) (hl : T.length ≤ 100) {post : Int × Bool → Prop}
    (hp : ∀ T1 T2 b, T = T1 ++ T2 → (∀ y, y ∈ T1 → wb l y i) → (∀ y, y ∈ T2 → wb l i y) → post ((T1.length : Int), b)) : V_slices_BinarySearchFunc_int_int_int__batch_InTime_1 T i l post := by
  unfold V_slices_BinarySearchFunc_int_int_int__batch_InTime_1
  refine Jn.mk (fun c => ∃ T1 T2, T = T1 ++ T2 ∧ c = T1.length ∧ (∀ y, y ∈ T1 → wb l y i) ∧ (∀ y, y ∈ T2 → wb l i y)) (V_bisect (fun h => ∃ y, T[h.toNat]? = some y ∧ wb l y i) (by omega) (by omega) (by omega)
    (fun c => ∃ T1 T2, T = T1 ++ T2 ∧ c = T1.length ∧ (∀ y, y ∈ T1 → wb l y i) ∧ (∀ y, y ∈ T2 → wb l i y)) (fun a b g1 g2 g3 Y gt gf => ?_) (fun c g1 g2 g3 g4 => ?_)) ?_
  · have eh := half (i := a) (j := b) (by omega) (by omega)
    simp only [eh]
    have hlt : ((a + b) / 2).toNat < T.length := by omega
    have hy : T[((a + b) / 2).toNat]? = some (T[((a + b) / 2).toNat]'hlt) := List.getElem?_eq_getElem hlt
    generalize T[((a + b) / 2).toNat]'hlt = y at hy
    have hym := List.mem_of_getElem? hy
    refine ⟨y, idx_of (by omega) hy, S_cmpW (hT y hym) hin (Jn.mk' (Ite.mk (fun hc => ?_) (fun hc => ?_)))⟩
    · rw [w64_s (by omega) (by omega)]
      exact gt ⟨y, hy, wb_iff.1 (of_decide_eq_true hc)⟩
    · refine gf ?_
      rintro ⟨y', e, hb⟩
      rw [hy] at e; cases e
      exact of_decide_eq_false hc (wb_iff.2 hb)
  · refine ⟨T.take c.toNat, T.drop c.toNat, by simp, by rw [List.length_take]; omega, fun z hz => ?_, fun z hz => ?_⟩
    · obtain ⟨k, hk, rfl⟩ := List.mem_iff_getElem.1 hz
      simp only [List.length_take] at hk
      rw [List.getElem_take]
      obtain ⟨y, hy, hb⟩ := g3.resolve_left (by omega)
      obtain ⟨hy1, rfl⟩ := List.getElem?_eq_some_iff.1 hy
      rcases Nat.lt_or_ge k (c - 1).toNat with h1 | h1
      · exact ((List.pairwise_iff_getElem.1 hs) k _ (by omega) hy1 h1).trans hb
      · have : k = (c - 1).toNat := by omega
        subst this; exact hb
    · obtain ⟨k, hk, rfl⟩ := List.mem_iff_getElem.1 hz
      simp only [List.length_drop] at hk
      rw [List.getElem_drop]
      have g4 := g4.resolve_left (by omega)
      have hlt : c.toNat < T.length := by omega
      have hb : wb l i T[c.toNat] := by
        have h1 : ¬ wb l T[c.toNat] i := fun hb => g4 ⟨_, List.getElem?_eq_getElem hlt, hb⟩
        have h2 : T[c.toNat] ≠ i := fun e => hi (e ▸ List.getElem_mem hlt)
        unfold wb at *; omega
      rcases Nat.eq_zero_or_pos k with h1 | h1
      · subst h1; exact hb
      · exact hb.trans ((List.pairwise_iff_getElem.1 hs) c.toNat (c.toNat + k) hlt (by omega) (by omega))
  · rintro c ⟨T1, T2, e, rfl, h1, h2⟩
    refine Jn.mk (fun _ => True) (Ite.mk (fun hc => ?_) (fun hc => trivial)) (fun b _ => hp T1 T2 b e h1 h2)
    have hc : (T1.length : Int) < T.length := of_decide_eq_true hc
    have hlt : T1.length < T.length := by omega
    exact ⟨T[T1.length], idx_of rfl (List.getElem?_eq_getElem hlt), S_cmpW (hT _ (List.getElem_mem hlt)) hin trivial⟩
theorem S_insert {T1 T2 : List Int} {x : Int} (hl : (T1 ++ T2).length ≤ 100) {post : List Int → Prop} (hp : post (T1 ++ x :: T2)) : V_slices_Insert_int_int__o0_o1 (T1.length : Int) (T1 ++ T2) [x] post := by
  unfold V_slices_Insert_int_int__o0_o1
  simp only [List.length_append] at hl
  cases T2 with
  | nil =>
    refine .inl ?_
    unfold V_slices_Insert_int_int__o0_o1_end
    refine ⟨⟨by omega, by simp, by omega⟩, Ite.f (by simp) (Ite.t (by simp) ⟨by simp at hl ⊢; omega, ?_⟩)⟩
    simpa using hp
  | cons y T2 =>
    refine .inr ⟨⟨by omega, by simp; omega⟩, by simp, by simp at hl ⊢; omega, ?_⟩
    simpa using hp
theorem insW_len {i : Int} : ∀ {T : List Int}, (insW l i T).length = T.length + 1
  | [] => rfl
  | y :: r => by unfold insW; split <;> simp [insW_len]
theorem mhS_len {t : List Int × Int} {i : Int} : (mhS l t i).1.length ≤ t.1.length + 1 := by
  unfold mhS; split <;> simp [insW_len]
theorem mh_len {s : Int} {D : List Int} : (mh l s D).1.length ≤ D.length := by
  have key : ∀ (D : List Int) (t : List Int × Int), (D.foldl (mhS l) t).1.length ≤ t.1.length + D.length := by
    intro D
    induction D with
    | nil => intro t; simp
    | cons i D ih =>
      intro t
      have h1 := ih (mhS l t i)
      have h2 := mhS_len (l := l) (t := t) (i := i)
      simp only [List.foldl_cons, List.length_cons]; omega
  have := key D ([], s)
  simpa [mh] using this
/-- the jobs of InTime -/
def inT (l : List ApiJob) (s : Int) (D : List Int) : List Int := (mh l s D).1.mergeSort fun x y => decide (x ≤ y)
theorem S_intime (hj : JsOk l) {start : Int} (s0 : 0 ≤ start) (s1 : start ≤ 1099511627776) {post : List Int → Prop} (hp : ∀ D, DueOf l D → post (inT l start D)) : V_batch_InTime l start post := by
  unfold V_batch_InTime
  have hl100 := hj.1
  refine S_batch_Due (by omega) fun D hD => ?_
  have hDl := hD.len
  refine Jn.mk (fun x => x = (mh l start D).1) (V_loopc (xs := D) (by unfold maxLen; omega) (fun t : List Int × Int × Int => t.2.2) (fun i t => (t.1, t.2.1) = mh l start (D.take i)) rfl rfl (fun i x t hx ht hI => ?_) (fun t hI => ?_)) (fun x e => ?_)
  · obtain ⟨T, e, k⟩ := t
    simp only at ht hI
    subst ht
    have hi := (List.getElem?_eq_some_iff.1 hx).1
    have eD : D = D.take i ++ x :: D.drop (i + 1) := by
      have := List.getElem?_eq_some_iff.1 hx
      obtain ⟨h1, h2⟩ := this
      have h3 := List.take_append_drop i D
      rw [List.drop_eq_getElem_cons h1, h2] at h3
      exact h3.symm
    have hin : In l x := hD.mem.1 (List.mem_of_getElem? hx)
    have hsD := hD.2
    rw [eD] at hsD
    have hsT : Srt l (D.take i) := hsD.left
    have hDi : ∀ k, k ∈ D.take i → In l k := fun k hk => hD.mem.1 (List.mem_of_mem_take hk)
    have hm := MI.mh (l := l) (s := start) hsT (fun k hk => by have := (hj.at (hDi k hk)).w0; omega)
    have hlen := mh_len (l := l) (s := start) (D := D.take i)
    have hsn := mh_snoc (l := l) (s := start) (D := D.take i) (i := x)
    rw [← take_snoc hx] at hsn
    rw [← hI] at hm hlen hsn
    simp only [List.length_take] at hlen
    have hso : T.Pairwise (wb l) := hm.so
    have hTin : AllIn l T := fun y hy => hDi y (hm.me y hy)
    have hxT : x ∉ T := fun h => bef.irr (hsD.mid x (hm.me x h) x (by simp))
    have he : e = start + Wrk l T := hm.en
    have hW := Wrk_bd hj hTin
    have hjx := hj.at hin
    have a1 := hjx.w0; have a2 := hjx.w1; have a3 := hjx.d0; have a4 := hjx.d1
    refine S_bsf hso hxT hTin hin (by omega) fun T1 T2 b eT h1 h2 => ?_
    have hins : insW l x T = T1 ++ x :: T2 := by rw [eT]; exact insW_eq h1 (fun y hy hb => by have := h2 y hy; unfold wb at *; omega)
    show V_slices_Insert_int_int__o0_o1 (T1.length : Int) T [x] _
    rw [eT]
    refine S_insert (by rw [← eT]; omega) ⟨_, jb_get hin.1 hin.2, ?_⟩
    have ew : w64 (e + (jb l x).Work) = e + (jb l x).Work := w64_eq (by omega) (by omega)
    simp only [ew]
    refine Jn.mk (fun r => r = mhS l (T, e) x) (Ite.mk (fun hc => ?_) (fun hc => ?_)) (fun r hr => ⟨trivial, by rw [hsn, ← hr]⟩)
    · have hc : e + (jb l x).Work > (jb l x).Due := of_decide_eq_true hc
      have hne : T1 ++ x :: T2 ≠ [] := by simp
      obtain ⟨m, R, hmR⟩ := List.exists_cons_of_ne_nil hne
      have hmin : In l m := by
        have : m ∈ T1 ++ x :: T2 := by rw [hmR]; simp
        have : m = x ∨ m ∈ T := by rw [eT]; simp at this ⊢; rcases this with h | h | h <;> simp [h]
        rcases this with rfl | h
        · exact hin
        · exact hTin m h
      have hjm := hj.at hmin
      have b1 := hjm.w0; have b2 := hjm.w1
      rw [hmR]
      refine ⟨m, rfl, _, jb_get hmin.1 hmin.2, ⟨by omega, by simp; omega, by omega⟩, ?_⟩
      unfold mhS
      rw [if_pos hc]
      simp only [hins, hmR, List.tail_cons, List.headD_cons]
      have es : sub (m :: R) 1 ((m :: R).length : Int) = R := by simp [sub]
      rw [es, w64_eq (by omega) (by omega)]
    · have hc : ¬ e + (jb l x).Work > (jb l x).Due := of_decide_eq_false hc
      unfold mhS
      rw [if_neg (by simpa using hc)]
      simp only [hins]
  · rw [List.take_length] at hI
    exact congrArg Prod.fst hI
  · subst e
    have hlen := mh_len (l := l) (s := start) (D := D)
    unfold V_slices_Sort_int_int__o0
    refine ⟨by omega, ?_⟩
    unfold V_slices_Clone_int_int
    have hp := hp D hD
    have hil : (inT l start D).length ≤ 100 := by unfold inT; rw [List.length_mergeSort]; omega
    change ∀ hb5 : Bool, (hb5 = true → inT l start D = []) → Ite (hb5 == true) (post []) ((([] : List Int).length + (inT l start D).length ≤ 1099511627776) ∧ post (([] : List Int) ++ inT l start D))
    intro b hb
    refine Ite.mk (fun h => ?_) (fun h => ⟨by simp; omega, by simpa using hp⟩)
    rw [hb (by simpa using h)] at hp; exact hp
end
end Go.Taq
