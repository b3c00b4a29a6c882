/- The mathematics, part EI: Batches and Merge by the code (chapter 43). -/
import Derived.Test.YtghoacejnmgldaaEH
set_option linter.unusedVariables false
set_option linter.unusedSimpArgs false
set_option maxRecDepth 100000
set_option maxHeartbeats 1000000
namespace Go.Taq
open Go

theorem uniqR {R : Int → Int → Prop} (asy : ∀ x y, R x y → ¬ R y x) : ∀ {A B : List Int}, A.Pairwise R → B.Pairwise R → A.Perm B → A = B
  | [], B, _, _, h => (List.Perm.nil_eq h)
  | a :: A, [], _, _, h => by have := h.length_eq; simp at this
  | a :: A, b :: B, hA, hB, h => by
    have hA' := List.pairwise_cons.1 hA
    have hB' := List.pairwise_cons.1 hB
    have e : a = b := by
      have h1 : a ∈ b :: B := h.mem_iff.1 (by simp)
      have h2 : b ∈ a :: A := h.mem_iff.2 (by simp)
      rcases List.mem_cons.1 h1 with e | h1
      · exact e
      · rcases List.mem_cons.1 h2 with e | h2
        · exact e.symm
        · exact absurd (hA'.1 b h2) (asy _ _ (hB'.1 a h1))
    subst e
    rw [uniqR asy hA'.2 hB'.2 ((List.perm_cons _).1 h)]
/-- the shelf of a job; the jobs of a shelf; the first of them; the order of the shelves -/
def shv (l : List ApiJob) (i : Int) : Int := (jb l i).Shelf
def grp (l : List ApiJob) (D : List Int) (s : Int) : List Int := D.filter fun i => decide (shv l i = s)
def hdG (l : List ApiJob) (D : List Int) (s : Int) : Int := (grp l D s).headD 0
def kb (l : List ApiJob) (D : List Int) (s t : Int) : Prop := (jb l (hdG l D s)).Due < (jb l (hdG l D t)).Due ∨ (jb l (hdG l D s)).Due = (jb l (hdG l D t)).Due ∧ s < t
def BatOf (l : List ApiJob) (D : List Int) (ys : List (List Int)) : Prop := ∃ shs : List Int, ys = shs.map (grp l D) ∧ (∀ s, s ∈ shs ↔ ∃ k, k ∈ D ∧ shv l k = s) ∧ shs.Pairwise (kb l D)
section
variable {l : List ApiJob} {D : List Int}
theorem kb_asym (s t : Int) (h : kb l D s t) : ¬ kb l D t s := by unfold kb at *; omega
theorem kb_nodup {shs : List Int} (h : shs.Pairwise (kb l D)) : shs.Nodup := h.imp (fun hb e => by subst e; unfold kb at hb; omega)
theorem BatOf.uniq {ys zs : List (List Int)} (h : BatOf l D ys) (g : BatOf l D zs) : ys = zs := by
  obtain ⟨A, rfl, a1, a2⟩ := h
  obtain ⟨B, rfl, b1, b2⟩ := g
  rw [uniqR kb_asym a2 b2 ((List.perm_ext_iff_of_nodup (kb_nodup a2) (kb_nodup b2)).2 fun x => (a1 x).trans (b1 x).symm)]
theorem grp_snoc {x s : Int} : grp l (D ++ [x]) s = grp l D s ++ (if shv l x = s then [x] else []) := by
  unfold grp; rw [List.filter_append]; by_cases h : shv l x = s <;> simp [h]
theorem grp_mem {s i : Int} : i ∈ grp l D s ↔ i ∈ D ∧ shv l i = s := by unfold grp; simp
theorem grp_len {s : Int} : (grp l D s).length ≤ D.length := List.length_filter_le _ _
theorem grp_ne {s : Int} (h : ∃ k, k ∈ D ∧ shv l k = s) : ∃ r, grp l D s = hdG l D s :: r ∧ hdG l D s ∈ D ∧ shv l (hdG l D s) = s := by
  obtain ⟨k, hk, hs⟩ := h
  unfold hdG
  cases hg : grp l D s with
  | nil => have : k ∈ grp l D s := grp_mem.2 ⟨hk, hs⟩; rw [hg] at this; cases this
  | cons i r =>
    have : i ∈ grp l D s := by rw [hg]; simp
    exact ⟨r, rfl, (grp_mem.1 this).1, (grp_mem.1 this).2⟩
theorem set_map {f g : Int → List Int} {shs : List Int} (hn : shs.Nodup) {n : Nat} {s : Int} (hs : shs[n]? = some s) (hfg : ∀ t, t ≠ s → f t = g t) : (shs.map f).set n (g s) = shs.map g := by
  obtain ⟨h1, e1⟩ := List.getElem?_eq_some_iff.1 hs
  apply List.ext_getElem?
  intro k
  rw [List.getElem?_set, List.getElem?_map, List.getElem?_map]
  by_cases hk : n = k
  · subst hk
    rw [if_pos rfl, if_pos (by simpa using h1), hs]; rfl
  · rw [if_neg hk]
    cases ht : shs[k]? with
    | none => rfl
    | some t =>
      obtain ⟨h2, e2⟩ := List.getElem?_eq_some_iff.1 ht
      have : t ≠ s := fun e => hk ((List.getElem_inj (h₀ := h1) (h₁ := h2) hn).1 (by rw [e1, e2, e]))
      simp [hfg t this]
theorem S_batches (hj : JsOk l) {post : List (List Int) → Prop} (hp : ∀ D ys, DueOf l D → BatOf l D ys → post ys) : V_batch_Batches l post := by
  unfold V_batch_Batches
  have hl100 := hj.1
  refine S_batch_Due (by omega) fun D hD => ?_
  have hDl := hD.len
  refine Jn.mk (fun x => ∃ shs : List Int, shs.Nodup ∧ x = shs.map (grp l D) ∧ (∀ s, s ∈ shs ↔ ∃ k, k ∈ D ∧ shv l k = s) ∧ shs.length ≤ D.length)
    (V_loopc (xs := D) (by unfold maxLen; omega) (fun t : List (Int × Int) × List (List Int) × Int => t.2.2)
      (fun i t => ∃ shs : List Int, shs.Nodup ∧ t.2.1 = shs.map (grp l (D.take i)) ∧ (∀ s, s ∈ shs ↔ ∃ k, k ∈ D.take i ∧ shv l k = s) ∧ (∀ s j, lk t.1 s = some j ↔ ∃ n : Nat, j = n ∧ shs[n]? = some s) ∧ shs.length ≤ i)
      rfl ⟨[], .nil, rfl, by simp, by simp [lk], by simp⟩ (fun i x t hx ht hI => ?_) (fun t hI => ?_)) ?_
  · obtain ⟨m, out, k⟩ := t
    simp only at ht hI
    subst ht
    obtain ⟨shs, hn, rfl, hm, hlk, hsl⟩ := hI
    have hi := (List.getElem?_eq_some_iff.1 hx).1
    have hin : In l x := hD.mem.1 (List.mem_of_getElem? hx)
    refine ⟨_, jb_get hin.1 hin.2, ?_⟩
    have fin : ∀ (m' : List (Int × Int)) (shs' : List Int) (n : Nat), shs'.Nodup → (∀ s, s ∈ shs' ↔ (∃ k, k ∈ D.take i ∧ shv l k = s) ∨ s = shv l x) → (∀ s j, lk m' s = some j ↔ ∃ n : Nat, j = n ∧ shs'[n]? = some s) → shs'[n]? = some (shv l x) → shs'.length ≤ i + 1 →
        ∃ x37, idx (shs'.map (grp l (D.take i))) (n : Int) = some x37 ∧ (x37.length + ([x] : List Int).length ≤ 1099511627776) ∧ (w64 ((i : Int) + 1) = w64 ((i : Int) + 1) ∧ ∃ sh : List Int, sh.Nodup ∧ ((shs'.map (grp l (D.take i))).set (Int.toNat (n : Int)) (x37 ++ [x])) = sh.map (grp l (D.take (i + 1))) ∧ (∀ s, s ∈ sh ↔ ∃ k, k ∈ D.take (i + 1) ∧ shv l k = s) ∧ (∀ s j, lk m' s = some j ↔ ∃ n : Nat, j = n ∧ sh[n]? = some s) ∧ sh.length ≤ i + 1) := by
      intro m' shs' n g1 g2 g3 g4 g5
      refine ⟨grp l (D.take i) (shv l x), idx_of rfl (by rw [List.getElem?_map, g4]; rfl), ?_, rfl, shs', g1, ?_, fun s => ?_, g3, g5⟩
      · have := grp_len (l := l) (D := D.take i) (s := shv l x)
        rw [List.length_take] at this; simp; omega
      · rw [take_snoc hx]
        have e : grp l (D.take i) (shv l x) ++ [x] = grp l (D.take i ++ [x]) (shv l x) := by rw [grp_snoc, if_pos rfl]
        rw [e, Int.toNat_natCast]
        exact set_map g1 g4 fun t ht => by rw [grp_snoc, if_neg (fun e => ht e.symm), List.append_nil]
      · rw [g2, take_snoc hx]
        constructor
        · rintro (⟨k, hk, e⟩ | e)
          · exact ⟨k, by simp [hk], e⟩
          · exact ⟨x, by simp, e.symm⟩
        · rintro ⟨k, hk, e⟩
          rcases List.mem_append.1 hk with hk | hk
          · exact .inl ⟨k, hk, e⟩
          · simp at hk; subst hk; exact .inr e.symm
    show Jn (fun J26 => Ite (!((lk m (shv l x)).isSome)) _ _) _
    refine Jn.mk (fun r : List (Int × Int) × List (List Int) × Int => ∃ (shs' : List Int) (n : Nat), r.2.1 = shs'.map (grp l (D.take i)) ∧ r.2.2 = (n : Int) ∧ shs'.Nodup ∧ (∀ s, s ∈ shs' ↔ (∃ k, k ∈ D.take i ∧ shv l k = s) ∨ s = shv l x) ∧ (∀ s j, lk r.1 s = some j ↔ ∃ n : Nat, j = n ∧ shs'[n]? = some s) ∧ shs'[n]? = some (shv l x) ∧ shs'.length ≤ i + 1)
      (Ite.mk (fun hc => ?_) (fun hc => ?_)) ?_
    · have hnone : lk m (shv l x) = none := by simpa using hc
      have hns : shv l x ∉ shs := fun h => by
        obtain ⟨n, hn1, e⟩ := List.mem_iff_getElem.1 h
        have := (hlk (shv l x) n).2 ⟨n, rfl, by rw [List.getElem?_eq_getElem hn1, e]⟩
        rw [hnone] at this; cases this
      refine ⟨by simp; omega, shs ++ [shv l x], shs.length, ?_, by simp, ?_, fun s => ?_, fun s j => ?_, by simp, by simp; omega⟩
      · have e0 : grp l (D.take i) (shv l x) = [] := by
          rw [List.eq_nil_iff_forall_not_mem]
          intro k hk
          exact hns ((hm _).2 ⟨k, grp_mem.1 hk⟩)
        have e1 : (shs.map (grp l (D.take i)) ++ [[]]).set (shs.map (grp l (D.take i))).length [] = shs.map (grp l (D.take i)) ++ [[]] := set_app
        show (shs.map (grp l (D.take i)) ++ [[]]).set (shs.map (grp l (D.take i))).length [] = _
        rw [e1]; simp [e0]
      · rw [List.nodup_append]
        refine ⟨hn, by simp, fun a ha b hb e => ?_⟩
        simp at hb; subst hb; subst e; exact hns ha
      · simp only [List.mem_append, List.mem_singleton, hm]
      · show lk (upd m (shv l x) ((shs.map (grp l (D.take i))).length : Int)) s = some j ↔ _
        rw [lk_upd]
        by_cases hs : shv l x = s
        · subst hs
          rw [if_pos rfl]
          constructor
          · intro h; cases h; exact ⟨shs.length, by simp, by simp⟩
          · rintro ⟨n, rfl, h⟩
            rcases Nat.lt_trichotomy n shs.length with h1 | h1 | h1
            · rw [List.getElem?_append_left h1] at h
              exact absurd (List.mem_of_getElem? h) hns
            · simp [h1]
            · rw [List.getElem?_eq_none (by simp; omega)] at h; cases h
        · rw [if_neg hs, hlk]
          constructor
          · rintro ⟨n, rfl, h⟩
            exact ⟨n, rfl, by rw [List.getElem?_append_left (List.getElem?_eq_some_iff.1 h).1]; exact h⟩
          · rintro ⟨n, rfl, h⟩
            rcases Nat.lt_trichotomy n shs.length with h1 | h1 | h1
            · rw [List.getElem?_append_left h1] at h; exact ⟨n, rfl, h⟩
            · subst h1; simp at h; exact absurd h hs
            · rw [List.getElem?_eq_none (by simp; omega)] at h; cases h
    · have hsome : (lk m (shv l x)).isSome = true := by simpa using hc
      obtain ⟨j, hj2⟩ := Option.isSome_iff_exists.1 hsome
      obtain ⟨n, rfl, hn2⟩ := (hlk _ _).1 hj2
      refine ⟨shs, n, rfl, ?_, hn, fun s => ?_, hlk, hn2, by omega⟩
      · show (lk m (shv l x)).getD 0 = _
        rw [hj2]; rfl
      · rw [hm]
        constructor
        · exact .inl
        · rintro (h | h)
          · exact h
          · subst h; exact (hm _).1 (List.mem_of_getElem? hn2)
    · rintro ⟨m', out', k'⟩ ⟨shs', n, e1, e2, g1, g2, g3, g4, g5⟩
      simp only at e1 e2
      subst e1; subst e2
      exact fin m' shs' n g1 g2 g3 g4 g5
  · obtain ⟨shs, h1, h2, h3, h4, h5⟩ := hI
    rw [List.take_length] at h2 h3
    exact ⟨shs, h1, h2, h3, h5⟩
  · rintro x ⟨shs, hn, rfl, hm, hsl⟩
    unfold V_slices_SortFunc_int_int__o0_batch_Batches_1
    have hdf : ∀ s, s ∈ shs → ∃ r, grp l D s = hdG l D s :: r ∧ hdG l D s ∈ D ∧ shv l (hdG l D s) = s := fun s hs => grp_ne ((hm s).1 hs)
    refine ⟨fun b => ∃ i r, b = i :: r ∧ In l i, fun a b => orI (cmpI (jb l (a.headD 0)).Due (jb l (b.headD 0)).Due) (cmpI (shv l (a.headD 0)) (shv l (b.headD 0))), ⟨fun x => by rw [orI_lt]; omega, fun x y z h1 h2 => by rw [orI_lt] at *; omega, fun x y z h1 h2 => by rw [orI_lt] at *; omega⟩,
      fun b hb => ?_, fun a b ha hb => ?_, by simp; omega, fun ys hy hs => ?_⟩
    · obtain ⟨s, hs, rfl⟩ := List.mem_map.1 hb
      obtain ⟨r, h1, h2, _⟩ := hdf s hs
      exact ⟨_, r, h1, hD.mem.1 h2⟩
    · obtain ⟨i, r, rfl, hi⟩ := ha
      obtain ⟨j, q, rfl, hjn⟩ := hb
      unfold V_batch_Batches_1
      exact ⟨i, rfl, _, jb_get hi.1 hi.2, j, rfl, _, jb_get hjn.1 hjn.2, S_cmp (S_cmp (S_or2 rfl))⟩
    · refine hp D ys hD ?_
      have back : ∀ s, s ∈ shs → shv l ((grp l D s).headD 0) = s := fun s hs => (hdf s hs).choose_spec.2.2
      have hys : ∀ y, y ∈ ys → ∃ s, s ∈ shs ∧ y = grp l D s := fun y hy' => by
        obtain ⟨s, hs, e⟩ := List.mem_map.1 (hy.mem_iff.1 hy')
        exact ⟨s, hs, e.symm⟩
      have eys : ys = (ys.map fun b => shv l (b.headD 0)).map (grp l D) := by
        rw [List.map_map]
        conv => lhs; rw [← List.map_id ys]
        refine List.map_congr_left fun y hy' => ?_
        obtain ⟨s, hs, rfl⟩ := hys y hy'
        show grp l D s = grp l D (shv l ((grp l D s).headD 0))
        rw [back s hs]
      have pm : (ys.map fun b => shv l (b.headD 0)).Perm shs := by
        refine (hy.map _).trans ?_
        rw [List.map_map]
        have : shs.map ((fun b => shv l (b.headD 0)) ∘ grp l D) = shs := by
          conv => rhs; rw [← List.map_id shs]
          exact List.map_congr_left fun s hs => back s hs
        rw [this]
      refine ⟨_, eys, fun s => by rw [pm.mem_iff]; exact hm s, ?_⟩
      rw [List.pairwise_map]
      have nd : (ys.map fun b => shv l (b.headD 0)).Nodup := pm.nodup_iff.2 hn
      have nd := List.pairwise_map.1 nd
      refine (hs.and nd).imp_of_mem fun {a b} ha hb hab => ?_
      obtain ⟨s, hs1, rfl⟩ := hys a ha
      obtain ⟨t, ht1, rfl⟩ := hys b hb
      obtain ⟨h1, h2⟩ := hab
      rw [orI_lt] at h1
      rw [back s hs1, back t ht1] at h1 h2 ⊢
      unfold kb
      show (jb l ((grp l D s).headD 0)).Due < (jb l ((grp l D t).headD 0)).Due ∨ _ 
      show (jb l ((grp l D s).headD 0)).Due < (jb l ((grp l D t).headD 0)).Due ∨ (jb l ((grp l D s).headD 0)).Due = (jb l ((grp l D t).headD 0)).Due ∧ s < t
      omega
end
end Go.Taq
