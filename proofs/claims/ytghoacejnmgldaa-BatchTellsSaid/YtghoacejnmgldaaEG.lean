/- The mathematics, part EG: no order has a less greatest lateness than the one by due times; the largest sets in time (chapter 43). -/
import Derived.Test.YtghoacejnmgldaaEF
set_option linter.unusedVariables false
set_option linter.unusedSimpArgs false
set_option maxRecDepth 100000
set_option maxHeartbeats 1000000
namespace Go.Taq
open Go

section
variable {l : List ApiJob}
/-- no job of these is later than c -/
def Lat (l : List ApiJob) (s : Int) (ks : List Int) (c : Int) : Prop := ∀ y, y ∈ lateL l s ks → y ≤ c
theorem Lat_cons {s c k : Int} {r : List Int} : Lat l s (k :: r) c ↔ s + (jb l k).Work - (jb l k).Due ≤ c ∧ Lat l (s + (jb l k).Work) r c := by unfold Lat; simp [lateL]
theorem Lat_nil {s c : Int} : Lat l s [] c := by intro y hy; simp [lateL] at hy
theorem Lat_app {s c : Int} {A B : List Int} : Lat l s (A ++ B) c ↔ Lat l s A c ∧ Lat l (s + Wrk l A) B c := by
  unfold Lat; rw [lateL_app]; constructor
  · intro h; exact ⟨fun y hy => h y (List.mem_append_left _ hy), fun y hy => h y (List.mem_append_right _ hy)⟩
  · intro h y hy
    rcases List.mem_append.1 hy with hy | hy
    · exact h.1 y hy
    · exact h.2 y hy
theorem Lat_one {s c k : Int} : Lat l s [k] c ↔ s + (jb l k).Work - (jb l k).Due ≤ c := by rw [Lat_cons]; exact ⟨fun h => h.1, fun h => ⟨h, Lat_nil⟩⟩
theorem Lat_start : ∀ {ks : List Int} {s s' c : Int}, s' ≤ s → Lat l s ks c → Lat l s' ks c
  | [], _, _, _, _, _ => Lat_nil
  | k :: r, s, s', c, h, hl => by
    rw [Lat_cons] at hl ⊢
    exact ⟨by omega, Lat_start (by omega) hl.2⟩
theorem Lat_sub {D S : List Int} (h : S.Sublist D) : ∀ {s c : Int}, (∀ k, k ∈ D → 0 ≤ (jb l k).Work) → Lat l s D c → Lat l s S c := by
  induction h with
  | slnil => exact fun _ h => h
  | cons a hs ih =>
    intro s c hw hl
    rw [Lat_cons] at hl
    exact ih (fun k hk => hw k (by simp [hk])) (Lat_start (by have := hw a (by simp); omega) hl.2)
  | cons_cons a hs ih =>
    intro s c hw hl
    rw [Lat_cons] at hl ⊢
    exact ⟨hl.1, ih (fun k hk => hw k (by simp [hk])) hl.2⟩
/-- put in by due times -/
def ins (l : List ApiJob) (x : Int) : List Int → List Int
  | [] => [x]
  | y :: r => if bef l x y then x :: y :: r else y :: ins l x r
def isort (l : List ApiJob) : List Int → List Int
  | [] => []
  | x :: r => ins l x (isort l r)
theorem ins_perm {x : Int} : ∀ {r : List Int}, (ins l x r).Perm (x :: r)
  | [] => .refl _
  | y :: r => by
    unfold ins; split
    · exact .refl _
    · exact (List.Perm.cons y ins_perm).trans (.swap _ _ _)
theorem isort_perm : ∀ {r : List Int}, (isort l r).Perm r
  | [] => .refl _
  | x :: r => ins_perm.trans (isort_perm.cons x)
theorem ins_srt {x : Int} : ∀ {r : List Int}, Srt l r → x ∉ r → Srt l (ins l x r)
  | [], _, _ => List.pairwise_singleton _ _
  | y :: r, h, hx => by
    have h' := List.pairwise_cons.1 h
    unfold ins; split
    · rename_i hb
      refine List.pairwise_cons.2 ⟨fun z hz => ?_, h⟩
      rcases List.mem_cons.1 hz with rfl | hz
      · exact hb
      · exact hb.trans (h'.1 z hz)
    · rename_i hb
      refine List.pairwise_cons.2 ⟨fun z hz => ?_, ins_srt h'.2 (fun e => hx (by simp [e]))⟩
      rcases List.mem_cons.1 (ins_perm.mem_iff.1 hz) with rfl | hz
      · exact bef.le hb (fun e => hx (by simp [e]))
      · exact h'.1 z hz
theorem isort_srt : ∀ {r : List Int}, r.Nodup → Srt l (isort l r)
  | [], _ => .nil
  | x :: r, h => ins_srt (isort_srt (List.nodup_cons.1 h).2) (fun e => (List.nodup_cons.1 h).1 (isort_perm.mem_iff.1 e))
theorem Srt.nodup {xs : List Int} (h : Srt l xs) : xs.Nodup := h.imp (fun hb e => by subst e; exact bef.irr hb)
theorem DueOf.nodup {D : List Int} (h : DueOf l D) : D.Nodup := h.2.nodup
theorem DueOf.mem {D : List Int} (h : DueOf l D) {x : Int} : x ∈ D ↔ In l x := by rw [h.1.mem_iff, mem_irg]; unfold In; simp
theorem DueOf.len {D : List Int} (h : DueOf l D) : D.length = l.length := by rw [h.1.length_eq]; simp
theorem DueOf.filter {D O : List Int} (h : DueOf l D) (hn : O.Nodup) (hi : AllIn l O) : D.filter (fun x => decide (x ∈ O)) = isort l O := by
  refine Srt.uniq (List.Pairwise.sublist List.filter_sublist h.2) (isort_srt hn) ?_
  refine (List.perm_ext_iff_of_nodup (h.nodup.sublist List.filter_sublist) hn).2 (fun x => ?_) |>.trans isort_perm.symm
  simp only [List.mem_filter, decide_eq_true_eq]
  exact ⟨fun h => h.2, fun hx => ⟨h.mem.2 (hi x hx), hx⟩⟩
theorem Wrk_perm {A B : List Int} (h : A.Perm B) : Wrk l A = Wrk l B := by
  unfold Wrk
  induction h with
  | nil => rfl
  | cons x _ ih => simp [ih]
  | swap x y _ => simp; omega
  | trans _ _ h1 h2 => exact h1.trans h2

/-! ## the largest sets in time -/
/-- more work, equal ones by descending index -/
def wb (l : List ApiJob) (i j : Int) : Prop := (jb l j).Work < (jb l i).Work ∨ (jb l j).Work = (jb l i).Work ∧ j < i
instance (l : List ApiJob) (i j : Int) : Decidable (wb l i j) := by unfold wb; infer_instance
theorem wb.trans {i j k : Int} (h : wb l i j) (g : wb l j k) : wb l i k := by unfold wb at *; omega
theorem wb.le {i j : Int} (h : wb l i j) : (jb l j).Work ≤ (jb l i).Work := by unfold wb at h; omega
def insW (l : List ApiJob) (i : Int) : List Int → List Int
  | [] => [i]
  | y :: r => if wb l y i then y :: insW l i r else i :: y :: r
theorem insW_eq {i : Int} : ∀ {T1 T2 : List Int}, (∀ y, y ∈ T1 → wb l y i) → (∀ y, y ∈ T2 → ¬ wb l y i) → insW l i (T1 ++ T2) = T1 ++ i :: T2
  | [], [], _, _ => rfl
  | [], y :: r, _, h => by simp only [List.nil_append, insW]; rw [if_neg (h y (by simp))]
  | y :: r, T2, h1, h2 => by simp only [List.cons_append, insW]; rw [if_pos (h1 y (by simp)), insW_eq (fun z hz => h1 z (by simp [hz])) h2]
/-- one job more -/
def mhS (l : List ApiJob) (t : List Int × Int) (i : Int) : List Int × Int :=
  if (jb l i).Due < t.2 + (jb l i).Work then ((insW l i t.1).tail, t.2 + (jb l i).Work - (jb l ((insW l i t.1).headD 0)).Work) else (insW l i t.1, t.2 + (jb l i).Work)
def mh (l : List ApiJob) (s : Int) (D : List Int) : List Int × Int := D.foldl (mhS l) ([], s)
theorem mh_snoc {s : Int} {D : List Int} {i : Int} : mh l s (D ++ [i]) = mhS l (mh l s D) i := by simp [mh]
/-- what is known of the taken jobs -/
structure MI (l : List ApiJob) (s : Int) (D : List Int) (t : List Int × Int) : Prop where
  so : t.1.Pairwise (wb l)
  me : ∀ x, x ∈ t.1 → x ∈ D
  en : t.2 = s + Wrk l t.1
  ok : Lat l s (D.filter fun x => decide (x ∈ t.1)) 0
  mo : ∀ S, S.Sublist D → Lat l s S 0 → ∃ U, U.Sublist t.1 ∧ U.length = S.length ∧ Wrk l U ≤ Wrk l S
theorem wb_nodup {T : List Int} (h : T.Pairwise (wb l)) : T.Nodup := h.imp (fun hb e => by subst e; unfold wb at hb; omega)
theorem insW_split {i : Int} : ∀ {T : List Int}, T.Pairwise (wb l) → i ∉ T → ∃ T1 T2, T = T1 ++ T2 ∧ (∀ y, y ∈ T1 → wb l y i) ∧ (∀ y, y ∈ T2 → wb l i y) ∧ insW l i T = T1 ++ i :: T2
  | [], _, _ => ⟨[], [], rfl, by simp, by simp, rfl⟩
  | y :: r, h, hi => by
    have h' := List.pairwise_cons.1 h
    by_cases hb : wb l y i
    · obtain ⟨T1, T2, e, h1, h2, h3⟩ := insW_split (i := i) h'.2 (fun e => hi (by simp [e]))
      refine ⟨y :: T1, T2, by simp [e], fun z hz => ?_, h2, by simp only [insW, if_pos hb, h3, List.cons_append]⟩
      rcases List.mem_cons.1 hz with rfl | hz
      · exact hb
      · exact h1 z hz
    · have hyi : wb l i y := by
        have : y ≠ i := fun e => hi (by simp [e])
        unfold wb at *; omega
      refine ⟨[], y :: r, rfl, by simp, fun z hz => ?_, by simp only [insW, if_neg hb, List.nil_append]⟩
      rcases List.mem_cons.1 hz with rfl | hz
      · exact hyi
      · exact hyi.trans (h'.1 z hz)
theorem grow_sub {m : Int} : ∀ {R U : List Int}, U.Sublist R → U.length < R.length → (∀ x, x ∈ R → (jb l x).Work ≤ (jb l m).Work) → ∃ V, V.Sublist R ∧ V.length = U.length + 1 ∧ Wrk l V ≤ Wrk l U + (jb l m).Work := by
  intro R U h
  induction h with
  | slnil => intro h; simp at h
  | cons a hs ih =>
    rename_i U R
    intro hl hm
    refine ⟨a :: U, hs.cons_cons a, rfl, ?_⟩
    have := hm a (by simp)
    rw [Wrk_cons]; omega
  | cons_cons a hs ih =>
    intro hl hm
    obtain ⟨V, h1, h2, h3⟩ := ih (by simpa using hl) (fun x hx => hm x (by simp [hx]))
    exact ⟨a :: V, h1.cons_cons a, by simp [h2], by rw [Wrk_cons, Wrk_cons]; omega⟩
theorem filt_perm {D T : List Int} (hD : D.Nodup) (hT : T.Nodup) (h : ∀ x, x ∈ T → x ∈ D) : (D.filter fun x => decide (x ∈ T)).Perm T :=
  (List.perm_ext_iff_of_nodup (hD.sublist List.filter_sublist) hT).2 fun x => by
    simp only [List.mem_filter, decide_eq_true_eq]
    exact ⟨fun h => h.2, fun hx => ⟨h x hx, hx⟩⟩
theorem MI.step {s : Int} {D : List Int} {t : List Int × Int} (h : MI l s D t) {i : Int} (hD : Srt l (D ++ [i])) (hw : ∀ k, k ∈ D ++ [i] → 0 ≤ (jb l k).Work) : MI l s (D ++ [i]) (mhS l t i) := by
  obtain ⟨T, e⟩ := t
  have he := h.en
  simp only at he
  have hDn := hD.nodup
  have hiD : i ∉ D := fun hi => bef.irr (hD.mid i hi i (by simp))
  have hiT : i ∉ T := fun hi => hiD (h.me i hi)
  have hso : T.Pairwise (wb l) := h.so
  obtain ⟨T1, T2, eT, h1, h2, h3⟩ := insW_split (l := l) (i := i) hso hiT
  have hso' : (T1 ++ i :: T2).Pairwise (wb l) := by
    rw [eT] at hso
    have g := List.pairwise_append.1 hso
    refine List.pairwise_append.2 ⟨g.1, List.pairwise_cons.2 ⟨h2, g.2.1⟩, fun x hx y hy => ?_⟩
    rcases List.mem_cons.1 hy with rfl | hy
    · exact h1 x hx
    · exact g.2.2 x hx y hy
  have hwk : Wrk l (T1 ++ i :: T2) = Wrk l T + (jb l i).Work := by rw [eT, Wrk_app, Wrk_app, Wrk_cons]; omega
  have hme : ∀ x, x ∈ T1 ++ i :: T2 → x ∈ D ++ [i] := fun x hx => by
    have : x = i ∨ x ∈ T := by rw [eT]; simp at hx ⊢; rcases hx with h | h | h <;> simp [h]
    rcases this with rfl | hx
    · simp
    · simp [h.me x hx]
  have hDd : D.Nodup := (List.nodup_append.1 hDn).1
  have hDt : Wrk l (D.filter fun x => decide (x ∈ T)) = Wrk l T := Wrk_perm (filt_perm hDd (wb_nodup hso) h.me)
  -- what holds of the sets so far
  have LB : ∀ S, S.Sublist (D ++ [i]) → Lat l s S 0 → ∃ U, U.Sublist (T1 ++ i :: T2) ∧ U.length = S.length ∧ Wrk l U ≤ Wrk l S ∧ (s + Wrk l S ≤ (jb l i).Due ∨ S.length ≤ T.length) := by
    intro S hS hL
    obtain ⟨S1, S2, rfl, hS1, hS2⟩ := List.sublist_append_iff.1 hS
    rw [Lat_app] at hL
    obtain ⟨U, hU, hUl, hUw⟩ := h.mo S1 hS1 hL.1
    have hU : U.Sublist T := hU
    have hUT := hU.length_le
    rw [eT] at hU
    obtain ⟨V1, V2, rfl, hV1, hV2⟩ := List.sublist_append_iff.1 hU
    cases S2 with
    | nil =>
      refine ⟨V1 ++ V2, hV1.append (hV2.cons _), by simpa using hUl, by simpa using hUw, .inr ?_⟩
      simp only [List.append_nil]; omega
    | cons a r =>
      have hal := hS2.length_le
      have : r = [] := by simp at hal; exact hal
      subst this
      have : a = i := by have := hS2.subset (by simp : a ∈ [a]); simpa using this
      subst this
      refine ⟨V1 ++ a :: V2, hV1.append (hV2.cons_cons a), by simp at hUl ⊢; omega, ?_, .inl ?_⟩
      · rw [Wrk_app] at hUw; rw [Wrk_app, Wrk_cons, Wrk_app, Wrk_cons, Wrk_nil]; omega
      · have := Lat_one.1 hL.2
        rw [Wrk_app, Wrk_cons, Wrk_nil]; omega
  have filt : ∀ R : List Int, (D ++ [i]).filter (fun x => decide (x ∈ R)) = D.filter (fun x => decide (x ∈ R)) ++ (if i ∈ R then [i] else []) := fun R => by
    rw [List.filter_append]; congr 1; by_cases hi : i ∈ R <;> simp [hi]
  unfold mhS
  simp only [h3]
  by_cases hc : (jb l i).Due < e + (jb l i).Work
  · rw [if_pos hc]
    cases T1 with
    | nil =>
      simp only [List.nil_append] at eT hso' hwk hme LB h3 ⊢
      subst eT
      refine ⟨hso, fun x hx => by simp [h.me x hx], by simp only [List.tail_cons, List.headD_cons]; omega, ?_, fun S hS hL => ?_⟩
      · show Lat l s ((D ++ [i]).filter (fun x => decide (x ∈ T))) 0
        rw [filt, if_neg hiT, List.append_nil]; exact h.ok
      · obtain ⟨U, hU, hUl, hUw, hor⟩ := LB S hS hL
        simp only [List.tail_cons]
        cases hU with
        | cons _ hU => exact ⟨U, hU, hUl, hUw⟩
        | cons_cons _ hU =>
          rename_i U
          rcases Nat.lt_or_ge U.length T.length with hlt | hge
          · obtain ⟨V, g1, g2, g3⟩ := grow_sub (l := l) (m := i) hU hlt (fun x hx => (h2 x hx).le)
            exact ⟨V, g1, by simp at hUl; omega, by rw [Wrk_cons] at hUw; omega⟩
          · have := hU.eq_of_length (Nat.le_antisymm hU.length_le hge)
            subst this
            rcases hor with ho | ho
            · rw [Wrk_cons] at hUw; omega
            · simp at hUl; omega
    | cons m T1 =>
      simp only [List.cons_append] at eT hso' hwk hme LB h3 ⊢
      have hmi := h1 m (by simp)
      have hmw := hmi.le
      have hso2 := List.pairwise_cons.1 hso'
      have hmi' : m ≠ i := fun e => by subst e; unfold wb at hmi; omega
      refine ⟨hso2.2, fun x hx => hme x (by simp at hx ⊢; simp [hx]), by simp only [List.tail_cons, List.headD_cons]; rw [Wrk_cons] at hwk; omega, ?_, fun S hS hL => ?_⟩
      · show Lat l s ((D ++ [i]).filter (fun x => decide (x ∈ T1 ++ i :: T2))) 0
        rw [filt, if_pos (by simp)]
        have hmT : m ∉ T1 ++ i :: T2 := fun hm => by have := hso2.1 m hm; unfold wb at this; omega
        have e1 : D.filter (fun x => decide (x ∈ T1 ++ i :: T2)) = (D.filter (fun x => decide (x ∈ T))).filter (fun x => decide (x ≠ m)) := by
          rw [List.filter_filter]
          refine List.filter_congr fun x hx => ?_
          have hxi : x ≠ i := fun e => hiD (e ▸ hx)
          by_cases hxm : x = m
          · subst hxm; simp; simp at hmT; exact ⟨hmT.1, hmT.2.1, hmT.2.2⟩
          · rw [eT]; simp [hxi, hxm]
        have hTn : T ≠ [] := by rw [eT]; simp
        have hsub : (D.filter (fun x => decide (x ∈ T1 ++ i :: T2))).Sublist (D.filter (fun x => decide (x ∈ T))) := by rw [e1]; exact List.filter_sublist
        have wD : ∀ k, k ∈ D.filter (fun x => decide (x ∈ T)) → 0 ≤ (jb l k).Work := fun k hk => hw k (by simp [(List.mem_filter.1 hk).1])
        rw [Lat_app]
        refine ⟨Lat_sub hsub wD h.ok, Lat_one.2 ?_⟩
        have hW : Wrk l (D.filter (fun x => decide (x ∈ T1 ++ i :: T2))) = Wrk l T - (jb l m).Work := by
          have p : (D.filter (fun x => decide (x ∈ T1 ++ i :: T2))).Perm (T1 ++ T2) := by
            rw [eT] at hso
            have hn := wb_nodup hso
            refine (List.perm_ext_iff_of_nodup (hDd.sublist List.filter_sublist) (List.nodup_cons.1 hn).2).2 fun x => ?_
            simp only [List.mem_filter, decide_eq_true_eq, List.mem_append, List.mem_cons]
            constructor
            · rintro ⟨hx, hx2⟩
              have hxi : x ≠ i := fun e => hiD (e ▸ hx)
              rcases hx2 with h | h | h
              · exact .inl h
              · exact absurd h hxi
              · exact .inr h
            · intro hx
              exact ⟨h.me x (by show x ∈ T; rw [eT]; simp; exact .inr hx), by rcases hx with h | h <;> simp [h]⟩
          rw [Wrk_perm p, eT, Wrk_cons]; omega
        -- the last one of those taken
        have hne : D.filter (fun x => decide (x ∈ T)) ≠ [] := fun e0 => by
          have hm : m ∈ T := by rw [eT]; simp
          have : m ∈ D.filter (fun x => decide (x ∈ T)) := by simp [h.me m hm, hm]
          rw [e0] at this; cases this
        rcases List.eq_nil_or_concat (D.filter (fun x => decide (x ∈ T))) with e0 | ⟨E, z, e0⟩
        · exact absurd e0 hne
        simp only [List.concat_eq_append] at e0
        have hok := h.ok
        have hDt2 := hDt
        simp only at hok
        rw [e0, Lat_app, Lat_one] at hok
        rw [e0, Wrk_app, Wrk_cons, Wrk_nil] at hDt2
        have hz : z ∈ D := by
          have : z ∈ D.filter (fun x => decide (x ∈ T)) := by rw [e0]; simp
          exact (List.mem_filter.1 this).1
        have hzd := (hD.mid z hz i (by simp)).due
        rw [hW]; omega
      · obtain ⟨U, hU, hUl, hUw, hor⟩ := LB S hS hL
        simp only [List.tail_cons]
        have hTl : T.length = T1.length + T2.length + 1 := by rw [eT]; simp
        cases hU with
        | cons _ hU => exact ⟨U, hU, hUl, hUw⟩
        | cons_cons _ hU =>
          rename_i U
          rcases Nat.lt_or_ge U.length (T1 ++ i :: T2).length with hlt | hge
          · obtain ⟨V, g1, g2, g3⟩ := grow_sub (l := l) (m := m) hU hlt (fun x hx => (hso2.1 x hx).le)
            exact ⟨V, g1, by simp at hUl; omega, by rw [Wrk_cons] at hUw; omega⟩
          · have := hU.eq_of_length (Nat.le_antisymm hU.length_le hge)
            subst this
            rcases hor with ho | ho
            · omega
            · simp at hUl; omega
  · rw [if_neg hc]
    refine ⟨hso', hme, by simp only; omega, ?_, fun S hS hL => ?_⟩
    · show Lat l s ((D ++ [i]).filter (fun x => decide (x ∈ T1 ++ i :: T2))) 0
      rw [filt, if_pos (by simp)]
      have e1 : D.filter (fun x => decide (x ∈ T1 ++ i :: T2)) = D.filter (fun x => decide (x ∈ T)) := by
        refine List.filter_congr fun x hx => ?_
        have hxi : x ≠ i := fun e => hiD (e ▸ hx)
        rw [eT]; simp [hxi]
      rw [e1, Lat_app]
      exact ⟨h.ok, Lat_one.2 (by rw [hDt]; omega)⟩
    · obtain ⟨U, hU, hUl, hUw, _⟩ := LB S hS hL
      exact ⟨U, hU, hUl, hUw⟩
theorem MI.all {s : Int} : ∀ {D E : List Int} {t : List Int × Int}, MI l s E t → Srt l (E ++ D) → (∀ k, k ∈ E ++ D → 0 ≤ (jb l k).Work) → MI l s (E ++ D) (D.foldl (mhS l) t)
  | [], E, t, h, _, _ => by simpa using h
  | i :: D, E, t, h, hs, hw => by
    have e : E ++ i :: D = (E ++ [i]) ++ D := by simp
    rw [e] at hs hw ⊢
    exact MI.all (h.step hs.left (fun k hk => hw k (List.mem_append_left _ hk))) hs hw
theorem MI.mh {s : Int} {D : List Int} (hs : Srt l D) (hw : ∀ k, k ∈ D → 0 ≤ (jb l k).Work) : MI l s D (mh l s D) := by
  have h0 : MI l s [] ([], s) := ⟨.nil, by simp, by simp [Wrk], Lat_nil, fun S hS _ => ⟨[], by simp, by have := List.sublist_nil.1 hS; subst this; rfl, by have := List.sublist_nil.1 hS; subst this; simp⟩⟩
  exact MI.all (E := []) h0 (by simpa using hs) (by simpa using hw)
end
end Go.Taq
