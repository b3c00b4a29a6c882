/- The mathematics, part EL: BatchMore (chapter 43). -/
import Derived.Test.YtghoacejnmgldaaEK
set_option linter.unusedVariables false
set_option linter.unusedSimpArgs false
set_option maxRecDepth 100000
set_option maxHeartbeats 1000000
namespace Go.Taq
open Go

section
variable {l : List ApiJob} {x : ApiJob}
theorem jb_more {i : Int} (h : In l i) : jb (l ++ [x]) i = jb l i := by
  unfold jb
  rw [List.getD_eq_getElem?_getD, List.getD_eq_getElem?_getD, List.getElem?_append_left (by have := h.1; have := h.2; omega)]
theorem lateL_more : ∀ {s : Int} {ks : List Int}, AllIn l ks → lateL (l ++ [x]) s ks = lateL l s ks
  | _, [], _ => rfl
  | s, k :: r, h => by
    simp only [lateL, jb_more (h k (by simp))]
    rw [lateL_more (fun y hy => h y (by simp [hy]))]
theorem Lat_more {s c : Int} {ks : List Int} (h : AllIn l ks) : Lat (l ++ [x]) s ks c ↔ Lat l s ks c := by unfold Lat; rw [lateL_more h]
theorem DueOf.more {D D2 : List Int} (hD : DueOf l D) (h2 : DueOf (l ++ [x]) D2) : D2.filter (fun i => decide (i ≠ (l.length : Int))) = D := by
  have hin : ∀ i, i ∈ D2.filter (fun i => decide (i ≠ (l.length : Int))) → In l i := fun i hi => by
    have h1 := List.mem_filter.1 hi
    have h3 := h2.mem.1 h1.1
    have h4 : i ≠ (l.length : Int) := by simpa using h1.2
    unfold In at *; simp at h3; omega
  have hs : Srt l (D2.filter (fun i => decide (i ≠ (l.length : Int)))) := by
    have h3 : Srt (l ++ [x]) (D2.filter (fun i => decide (i ≠ (l.length : Int)))) := List.Pairwise.sublist List.filter_sublist h2.2
    refine List.Pairwise.imp_of_mem (fun {a b} ha hb h => ?_) h3
    unfold bef at *
    rwa [jb_more (hin a ha), jb_more (hin b hb)] at h
  refine Srt.uniq hs hD.2 ((List.perm_ext_iff_of_nodup hs.nodup hD.nodup).2 fun i => ?_)
  constructor
  · exact fun hi => hD.mem.2 (hin i hi)
  · intro hi
    have h3 := hD.mem.1 hi
    refine List.mem_filter.2 ⟨h2.mem.2 ?_, by have := h3.2; simp; omega⟩
    unfold In at *; simp; omega
theorem JsOk.more (h : JsOk l) (hx : JOk x) (hl : l.length ≤ 59) : JsOk (l ++ [x]) := ⟨by simp; omega, fun y hy => by
  rcases List.mem_append.1 hy with h1 | h1
  · exact h.2 y h1
  · simp at h1; subst h1; exact hx⟩
theorem drop_one {a : Int} : ∀ {xs : List Int}, xs.Nodup → xs.length ≤ (xs.filter fun x => decide (x ≠ a)).length + 1
  | [], _ => by simp
  | y :: r, h => by
    have h' := List.nodup_cons.1 h
    by_cases e : y = a
    · subst e
      have : r.filter (fun x => decide (x ≠ y)) = r := by
        rw [List.filter_eq_self]; intro z hz; simp; exact fun e => h'.1 (e ▸ hz)
      rw [List.filter_cons, if_neg (by simp), this]; simp
    · have := drop_one (a := a) h'.2
      rw [List.filter_cons, if_pos (by simpa using e)]; simp only [List.length_cons]; omega
theorem Lat_shift : ∀ {ks : List Int} {s d c : Int}, Lat l (s + d) ks c ↔ Lat l s ks (c - d)
  | [], _, _, _ => ⟨fun _ => Lat_nil, fun _ => Lat_nil⟩
  | k :: r, s, d, c => by
    rw [Lat_cons, Lat_cons]
    have e : s + d + (jb l k).Work = s + (jb l k).Work + d := by omega
    rw [e, Lat_shift (ks := r)]
    constructor <;> rintro ⟨h1, h2⟩ <;> exact ⟨by omega, h2⟩
theorem wst_shift {ks : List Int} (h : ks ≠ []) {s d : Int} : wst l (s + d) ks = wst l s ks + d := by
  have h1 : wst l (s + d) ks ≤ wst l s ks + d := (wst_le h).2 (Lat_shift.2 ((wst_le h).1 (by omega)))
  have h2 : wst l s ks ≤ wst l (s + d) ks - d := (wst_le h).2 (Lat_shift.1 ((wst_le h).1 (Int.le_refl _)))
  omega
theorem Lat_top (hj : JsOk l) : ∀ {ks : List Int} {s : Int}, AllIn l ks → Lat l s ks (s + Wrk l ks)
  | [], _, _ => Lat_nil
  | k :: r, s, h => by
    have hk := hj.at (h k (by simp))
    have hr : AllIn l r := fun y hy => h y (by simp [hy])
    have hw := (Wrk_bd hj hr).1
    have := hk.d0
    rw [Lat_cons, Wrk_cons]
    refine ⟨by omega, ?_⟩
    have e : s + ((jb l k).Work + Wrk l r) = s + (jb l k).Work + Wrk l r := by omega
    rw [e]; exact Lat_top hj hr
theorem wst_bd (hj : JsOk l) {ks : List Int} (h : AllIn l ks) (hl : ks.length ≤ 100) {s : Int} (s0 : 0 ≤ s) (s1 : s ≤ 1099511627776) : -1099511627776 ≤ wst l s ks ∧ wst l s ks ≤ 1099611627776 := by
  cases ks with
  | nil => exact ⟨by show (-1099511627776 : Int) ≤ 0; omega, by show (0 : Int) ≤ 1099611627776; omega⟩
  | cons k r =>
    have hne : k :: r ≠ [] := by simp
    have hw := Wrk_bd hj h
    have hk := hj.at (h k (by simp))
    have h1 := (wst_le (l := l) (s := s) hne).2 (Lat_top hj h)
    have h2 := (Lat_cons.1 ((wst_le (l := l) (s := s) hne).1 (Int.le_refl _))).1
    have := hk.w0; have := hk.d1
    exact ⟨by omega, by omega⟩
theorem Said_taquinlaw43_BatchMore (l : List ApiJob) (kl : OkL OkApiJob l) (x : ApiJob) (kx : OkApiJob x) (start : Int) (ks : I64 start) (later : Int) (kl2 : I64 later) : V_taquinlaw43_BatchMore l x start later (fun y => y = true) := by
  unfold V_taquinlaw43_BatchMore
  refine S_law43_small (Jn.mk (fun b => b = false → Fa l start ∧ l.length ≤ 59 ∧ JOk x ∧ 0 ≤ later ∧ later ≤ 1099511627776 ∧ start + later ≤ 1099511627776) (S_fair (fun hf => Ite.t rfl (Ite.mk (fun _ h => by cases h) (fun h59 => S_refRight (by simp) (Ite.mk (fun hx => Ite.mk (fun _ h => by cases h) (fun h1 => Ite.mk (fun _ h => by cases h) (fun h2 h3 => ?_))) (fun _ h => by cases h))))) (fun _ => Ite.f rfl (fun h => by cases h))) (fun b hb => Ite.mk (fun _ => rfl) (fun h => ?_)))
  · have h59 : ¬ (l.length : Int) > 59 := of_decide_eq_false h59
    have h1 : ¬ later < 0 := of_decide_eq_false h1
    have h2 : ¬ later > 1099511627776 := of_decide_eq_false h2
    have h3 := of_decide_eq_false h3
    have a1 := hf.s0; have a2 := hf.s1
    rw [w64_eq (by omega) (by omega)] at h3
    refine ⟨hf, by omega, jokB_iff.1 ?_, by omega, by omega, by omega⟩
    simpa using hx
  · obtain ⟨hf, h59, hx, t0, t1, t2⟩ := hb h
    have a1 := hf.s0; have a2 := hf.s1
    have hj := hf.j
    have hj2 := hj.more hx h59
    simp only [List.nil_append]
    refine ⟨by simp; omega, by simp; omega, S_batch_Due (by omega) fun D hD => S_worst hj (by have := hD.len; omega) a1 a2 (S_batch_Due (by simp; omega) fun D2 hD2 => S_worst hj2 (by have := hD2.len; simp at this; omega) a1 a2 (S_intime hj a1 a2 fun D' hD' => S_intime hj2 a1 a2 fun D2' hD2' => ?_))⟩
    have := hD'.uniq hD; subst this
    have := hD2'.uniq hD2; subst this
    rw [kn_all hD.allIn, kn_all hD2.allIn]
    have hDl := hD.len
    have hD2l := hD2.len
    simp only [List.length_append, List.length_cons, List.length_nil] at hD2l
    have hI := inT_ok hj (s := start) hD
    have hI2 := inT_ok hj2 (s := start) hD2
    generalize hIe : inT l start D' = I at hI
    generalize hIe2 : inT (l ++ [x]) start D2' = I2 at hI2
    have hfl := List.length_filter_le (fun x => decide (x ∈ I)) D'
    rw [hI.len, hDl] at hfl
    have hfl2 := List.length_filter_le (fun x => decide (x ∈ I2)) D2'
    rw [hI2.len, hD2l] at hfl2
    have hm := DueOf.more hD hD2
    have hsub : D'.Sublist D2' := by rw [← hm]; exact List.filter_sublist
    have hw2 : ∀ k, k ∈ D2' → 0 ≤ (jb (l ++ [x]) k).Work := fun k hk => by have := (hj2.at (hD2.mem.1 hk)).w0; omega
    have hw1 : ∀ k, k ∈ D' → 0 ≤ (jb l k).Work := fun k hk => by have := (hj.at (hD.mem.1 hk)).w0; omega
    -- as many at least
    have c1 : I.length ≤ I2.length := by
      have hfin : AllIn l (D'.filter fun x => decide (x ∈ I)) := fun k hk => hD.mem.1 (List.mem_filter.1 hk).1
      have := hI2.max (D'.filter fun x => decide (x ∈ I)) (List.filter_sublist.trans hsub) ((Lat_more hfin).2 hI.ok)
      rw [hI.len] at this; exact this
    -- one more at most
    have c2 : I2.length ≤ I.length + 1 := by
      have h1 := drop_one (a := (l.length : Int)) (hD2.nodup.sublist (List.filter_sublist (p := fun x => decide (x ∈ I2))))
      rw [hI2.len] at h1
      have h2 : ((D2'.filter fun x => decide (x ∈ I2)).filter fun i => decide (i ≠ (l.length : Int))).Sublist D' := by
        rw [← hm]; exact (List.filter_sublist).filter _
      have h3 := Lat_sub (List.filter_sublist (p := fun i => decide (i ≠ (l.length : Int)))) (fun k hk => hw2 k (List.mem_filter.1 hk).1) hI2.ok
      have h4 : AllIn l ((D2'.filter fun x => decide (x ∈ I2)).filter fun i => decide (i ≠ (l.length : Int))) := fun k hk => hD.mem.1 (h2.subset hk)
      have h5 := hI.max _ h2 ((Lat_more h4).1 h3)
      omega
    have ew : w64 ((I.length : Int) + 1) = I.length + 1 := w64_eq (by omega) (by omega)
    refine Jn.eq false (Ite.mk (fun h0 => Ite.f (decide_eq_false ?_) (Ite.f (decide_eq_false (by omega)) ?_)) (fun h0 => Ite.f (decide_eq_false (by omega)) ?_)) (Ite.f rfl ?_)
    · have h0 : (l.length : Int) > 0 := of_decide_eq_true h0
      have hne : D' ≠ [] := fun e => by rw [e] at hDl; simp at hDl; omega
      have hne2 : D2' ≠ [] := fun e => by rw [e] at hD2l; simp at hD2l
      have : wst l start D' ≤ wst (l ++ [x]) start D2' := (wst_le hne).2 ((Lat_more hD.allIn).1 (Lat_sub hsub hw2 ((wst_le hne2).1 (Int.le_refl _))))
      omega
    · rw [ew]; exact decide_eq_false (by omega)
    · rw [ew]; exact decide_eq_false (by omega)
    have el : w64 (start + later) = start + later := w64_eq (by omega) (by omega)
    rw [el]
    have less : ∀ D3, DueOf l D3 → (decide (((inT l (start + later) D3).length : Int) ≤ (I.length : Int))) = true := fun D3 hD3 => by
      have := hD3.uniq hD; subst this
      have hI3 := inT_ok hj (s := start + later) hD
      have := hI.max _ List.filter_sublist (Lat_start (by omega) hI3.ok)
      rw [hI3.len] at this
      exact decide_eq_true (by omega)
    refine Jn.eq true (Ite.t rfl (Ite.mk (fun h0 => ?_) (fun h0 => ?_))) rfl
    · exact S_intime hj (by omega) (by omega) less
    · have h0 : l.length ≠ 0 := fun e => by simp [e] at h0
      refine S_batch_Due (by omega) fun D3 hD3 => S_worst hj (by have := hD3.len; omega) (by omega) (by omega) ?_
      have := hD3.uniq hD; subst this
      rw [kn_all hD.allIn]
      have hne : D3 ≠ [] := fun e => by rw [e] at hDl; simp at hDl; omega
      have hb := wst_bd hj hD.allIn (by omega) a1 a2
      rw [wst_shift hne, w64_eq (by omega) (by omega)]
      exact Ite.t (by simp) (S_intime hj (by omega) (by omega) less)
end
end Go.Taq
