/- The mathematics, part EJ: Merge by the code; the laws' small, fair, whole; BatchDue (chapter 43). -/
import Derived.Test.YtghoacejnmgldaaEI
set_option linter.unusedVariables false
set_option linter.unusedSimpArgs false
set_option maxRecDepth 100000
set_option maxHeartbeats 1000000
namespace Go.Taq
open Go

instance (l : List ApiJob) (D : List Int) (s t : Int) : Decidable (kb l D s t) := by unfold kb; infer_instance
theorem asc_sort {T A : List Int} (h : A.Perm T) (hA : A.Pairwise (· < ·)) : T.mergeSort (fun x y => decide (x ≤ y)) = A := by
  have hperm := List.mergeSort_perm T (fun x y => decide (x ≤ y))
  have hsort : (T.mergeSort fun x y => decide (x ≤ y)).Pairwise (· ≤ ·) := by
    have := List.pairwise_mergeSort (le := fun x y : Int => decide (x ≤ y)) (fun a b c h1 h2 => by simp at *; omega) (fun a b => by simp; omega) T
    exact this.imp (fun h => by simpa using h)
  have hn : (T.mergeSort fun x y => decide (x ≤ y)).Nodup := (hperm.trans h.symm).nodup_iff.2 (hA.imp (fun h e => by omega))
  exact uniqR (R := (· < ·)) (fun x y h => by omega) ((hsort.and hn).imp (fun ⟨h1, h2⟩ => by have : _ ≠ _ := h2; omega)) hA (hperm.trans h.symm)
section
variable {l : List ApiJob}
def mrg (l : List ApiJob) (setup : Int) (b : List Int) : ApiJob := ⟨shv l (b.headD 0), setup + Wrk l b, (jb l (b.headD 0)).Due⟩
theorem BatOf.at {D : List Int} {ys : List (List Int)} (hD : DueOf l D) (h : BatOf l D ys) {y : List Int} (hy : y ∈ ys) : ∃ i r, y = i :: r ∧ AllIn l y ∧ y.length ≤ l.length := by
  obtain ⟨shs, rfl, h1, _⟩ := h
  obtain ⟨s, hs, rfl⟩ := List.mem_map.1 hy
  obtain ⟨r, e, _, _⟩ := grp_ne ((h1 s).1 hs)
  exact ⟨_, r, e, fun k hk => hD.mem.1 (grp_mem.1 hk).1, by have := grp_len (l := l) (D := D) (s := s); rw [hD.len] at this; exact this⟩
theorem BatOf.len {D : List Int} {ys : List (List Int)} (hD : DueOf l D) (h : BatOf l D ys) : ys.length ≤ l.length := by
  obtain ⟨shs, rfl, h1, h2⟩ := h
  have e : shs.Perm ((shs.map (hdG l D)).map (shv l)) := by
    rw [List.map_map]
    have : shs.map (shv l ∘ hdG l D) = shs := by
      conv => rhs; rw [← List.map_id shs]
      exact List.map_congr_left fun s hs => (grp_ne ((h1 s).1 hs)).choose_spec.2.2
    rw [this]
  have nd : (shs.map (hdG l D)).Nodup := by
    have := e.nodup_iff.1 (kb_nodup h2)
    have := List.pairwise_map.1 this
    exact this.imp (fun h e => h (by rw [e]))
  have hs : ∀ x, x ∈ shs.map (hdG l D) → x ∈ D := fun x hx => by
    obtain ⟨s, hs, rfl⟩ := List.mem_map.1 hx
    exact (grp_ne ((h1 s).1 hs)).choose_spec.2.1
  have p := filt_perm hD.nodup nd hs
  have := p.length_eq
  have := List.length_filter_le (fun x => decide (x ∈ shs.map (hdG l D))) D
  rw [hD.len] at this
  simp at *; omega
theorem S_work (hj : JsOk l) {b : List Int} (hb : AllIn l b) (hl : b.length ≤ 100) {setup : Int} (u0 : 0 ≤ setup) (u1 : setup ≤ 1000000) {post : Int → Prop} (hp : post (setup + Wrk l b)) :
    Jn (fun (J27 : Int → Prop) => Loop (fun (s28 : Int × Int) Y29 => Ite (decide (s28.2 < (b.length : Int))) (∃ x35, idx b s28.2 = some x35 ∧ ∃ x38, idx l x35 = some x38 ∧ Y29 (w64 (s28.1 + x38.Work), w64 (s28.2 + 1))) (J27 s28.1)) (setup, 0)) (fun (x26 : Int) => post x26) := by
  refine Jn.mk (fun x => x = setup + Wrk l b) (V_loopc (xs := b) (by unfold maxLen; omega) (fun t : Int × Int => t.2) (fun i t => t.1 = setup + Wrk l (b.take i)) rfl (by simp [Wrk]) (fun i x t hx ht hI => ?_) (fun t hI => ?_)) (fun x e => by subst e; exact hp)
  · have hin := hb x (List.mem_of_getElem? hx)
    have hw := Wrk_bd hj (ks := b.take i) (fun k hk' => hb k (List.mem_of_mem_take hk'))
    have hjx := hj.at hin
    have a1 := hjx.w0; have a2 := hjx.w1
    rw [List.length_take] at hw
    refine ⟨_, jb_get hin.1 hin.2, by rw [ht], ?_⟩
    show w64 (t.1 + (jb l x).Work) = _
    rw [hI, w64_eq (by omega) (by omega), take_snoc hx, Wrk_app, Wrk_cons, Wrk_nil]; omega
  · rw [hI, List.take_length]
theorem S_merge (hj : JsOk l) {setup : Int} (u0 : 0 ≤ setup) (u1 : setup ≤ 1000000) {post : List ApiJob → Prop} (hp : ∀ D ys, DueOf l D → BatOf l D ys → post (ys.map (mrg l setup))) : V_batch_Merge l setup post := by
  unfold V_batch_Merge
  refine S_batches hj fun D ys hD hB => ?_
  have hl100 := hj.1
  have hyl := hB.len hD
  refine Jn.mk (fun x => x = ys.map (mrg l setup)) (V_loopj (xs := ys) (by unfold maxLen; omega) (fun t : List ApiJob × List (List Int) × Int => t.2.2) (fun i t => t.1 = (ys.take i).map (mrg l setup) ∧ t.2.1 = ys) rfl ⟨rfl, rfl⟩ (fun i y t hy ht hI => ?_) (fun t hI => ?_)) (fun x e => by subst e; exact hp D ys hD hB)
  · obtain ⟨out, bs, k⟩ := t
    simp only at ht hI
    obtain ⟨rfl, rfl⟩ := hI
    subst ht
    have hi := (List.getElem?_eq_some_iff.1 hy).1
    obtain ⟨i0, r, e, hyin, hylen⟩ := hB.at hD (List.mem_of_getElem? hy)
    have hin := hyin i0 (by rw [e]; simp)
    refine Jn.mk (fun q => q = ((bs.take (i + 1)).map (mrg l setup), bs)) ⟨y, idx_of rfl hy, i0, by rw [e]; rfl, _, jb_get hin.1 hin.2, S_work hj hyin (by omega) u0 u1 ⟨by simp; omega, ?_⟩⟩ (fun q hq => by subst hq; exact ⟨rfl, rfl, rfl⟩)
    have e2 : bs.set (Int.toNat (i : Int)) y = bs := set_idx (idx_of rfl hy)
    show ((bs.take i).map (mrg l setup) ++ [_], bs.set (Int.toNat (i : Int)) y) = _
    rw [e2, take_snoc hy]
    simp [mrg, e, shv]
  · rw [hI.1, List.take_length]
theorem S_same43 {a : List ApiJob} (hm : a.length ≤ 1000) {post : Bool → Prop} (hp : post true) : V_taquinref43_Same a a post := by
  unfold V_taquinref43_Same
  refine Ite.f (by simp) (Jn.mk (fun _ => True) (V_loopc (xs := a) (by unfold maxLen; omega) (fun t : Int => t) (fun _ _ => True) rfl trivial (fun i x t hx ht _ => ?_) (fun _ _ => trivial)) (fun _ _ => hp))
  exact ⟨x, by rw [ht]; exact idx_of rfl hx, Ite.f (by simp) ⟨by rw [ht], trivial⟩⟩
theorem S_same43E {a b : List ApiJob} (e : a = b) (hm : a.length ≤ 1000) {post : Bool → Prop} (hp : post true) : V_taquinref43_Same a b post := by subst e; exact S_same43 hm hp
end
/-! ## the examples -/
def jl0 : List ApiJob := [({ Shelf := 7, Work := 4, Due := 5 : ApiJob }), ({ Shelf := 8, Work := 3, Due := 4 : ApiJob }), ({ Shelf := 7, Work := 2, Due := 9 : ApiJob })]
theorem jl0_ok : JsOk jl0 := ⟨by decide, by
  intro x hx
  simp only [jl0, List.mem_cons, List.not_mem_nil, or_false] at hx
  rcases hx with rfl | rfl | rfl <;> exact ⟨by decide, by decide, by decide, by decide, by decide, by decide⟩⟩
theorem jl0_due : DueOf jl0 [1, 0, 2] := ⟨by decide, by unfold Srt; decide⟩
theorem jl0_bat : BatOf jl0 [1, 0, 2] [[1], [0, 2]] := by
  refine ⟨[8, 7], by decide, fun s => ?_, by decide⟩
  constructor
  · intro h
    simp only [List.mem_cons, List.not_mem_nil, or_false] at h
    rcases h with rfl | rfl
    · exact ⟨1, by simp, by decide⟩
    · exact ⟨0, by simp, by decide⟩
  · rintro ⟨k, hk, rfl⟩
    simp only [List.mem_cons, List.not_mem_nil, or_false] at hk
    rcases hk with rfl | rfl | rfl <;> decide
theorem S_law43_small {post : Bool → Prop} (hp : post true) : V_taquinlaw43_small post := by
  have hD : ∀ D, DueOf jl0 D → D = [1, 0, 2] := fun D h => h.uniq jl0_due
  have hB : ∀ D ys, DueOf jl0 D → BatOf jl0 D ys → ys = [[1], [0, 2]] := fun D ys h g => by have := hD D h; subst this; exact g.uniq jl0_bat
  unfold V_taquinlaw43_small
  change V_batch_Batches jl0 _
  refine S_batches jl0_ok fun D ys h1 h2 => ?_
  have := hB D ys h1 h2; subst this
  refine Ite.f rfl (Jn.eq true ?_ ?_)
  · change V_batch_Due jl0 _
    refine S_batch_Due (by decide) fun D h => ?_
    have := hD D h; subst this
    refine S_same (by decide) (Ite.t rfl ?_)
    change V_batch_Ends jl0 _ _ _
    refine S_ends jl0_ok (by decide) (by decide) (by decide) (S_sameE (by decide) (by decide) (Ite.t rfl ?_))
    change V_batch_Worst jl0 _ _ _
    refine S_worst jl0_ok (by decide) (by decide) (by decide) ?_
    decide
  · refine Jn.eq true (Ite.t rfl ?_) hp
    change V_batch_InTime jl0 _ _
    refine S_intime jl0_ok (by decide) (by decide) fun D h => ?_
    have := hD D h; subst this
    have e : inT jl0 0 [1, 0, 2] = [1, 2] := asc_sort (by decide) (by decide)
    rw [e]
    refine S_same (by decide) (Ite.t rfl ⟨_, rfl, S_same (by decide) (Ite.t rfl ⟨_, rfl, by decide, S_same (by decide) (Ite.t rfl ?_)⟩)⟩)
    change V_batch_Merge jl0 _ _
    refine S_merge jl0_ok (by decide) (by decide) fun D ys h1 h2 => ?_
    have := hB D ys h1 h2; subst this
    exact S_same43E (by decide) (by decide) rfl
/-! ## fair, whole -/
def jokB (x : ApiJob) : Bool := !(decide (x.Shelf < 0) || decide (x.Shelf ≥ 3000) || decide (x.Work < 1) || decide (x.Work > 1000000) || decide (x.Due < 0) || decide (x.Due > 1099511627776))
theorem jokB_iff {x : ApiJob} : jokB x = true ↔ JOk x := by
  unfold jokB; simp only [Bool.not_eq_true', Bool.or_eq_false_iff, decide_eq_false_iff_not]
  constructor
  · rintro ⟨⟨⟨⟨⟨h1, h2⟩, h3⟩, h4⟩, h5⟩, h6⟩; exact ⟨by omega, by omega, by omega, by omega, by omega, by omega⟩
  · rintro ⟨h1, h2, h3, h4, h5, h6⟩; omega
section
variable {l : List ApiJob}
theorem S_refRight (hl : l.length ≤ 1000) {post : Bool → Prop} (hp : post (l.all jokB)) : V_taquinref43_Right l post := by
  unfold V_taquinref43_Right
  refine Jn.mk (fun _ => l.all jokB = true) (Loop.mk (fun s : Int => ∃ i : Nat, s = (i : Int) ∧ i ≤ l.length ∧ ∀ x, x ∈ l.take i → jokB x = true) (fun s => (l.length - s).toNat) ⟨0, rfl, by omega, by simp⟩ ?_) (fun _ h => ?_)
  · rintro s ⟨i, rfl, hi, hx⟩
    refine Jand2 (Ite.mk (fun hc => ?_) (fun hc => ?_))
    · have hc : (i : Int) < l.length ∧ (i : Int) ≤ 1000 := by simpa using hc
      have hy : l[i]? = some (l[i]'(by omega)) := List.getElem?_eq_getElem _
      generalize l[i]'_ = y at hy
      refine ⟨y, idx_of rfl hy, Jn.mk (fun b => b = !jokB y) ?_ (fun b hb => ?_)⟩
      · unfold jokB
        rw [Bool.not_not]
        cases decide (y.Shelf < 0) <;> cases decide (y.Shelf ≥ 3000) <;> cases decide (y.Work < 1) <;> cases decide (y.Work > 1000000) <;> cases decide (y.Due < 0) <;> simp
      · subst hb
        refine Ite.mk (fun h => ?_) (fun h => ?_)
        · have : l.all jokB = false := by
            rw [List.all_eq_false]; exact ⟨y, List.mem_of_getElem? hy, by simpa using h⟩
          rw [this] at hp; exact hp
        · have h : jokB y = true := by simpa using h
          have ew : w64 ((i : Int) + 1) = ((i + 1 : Nat) : Int) := by rw [w64_s (by omega) (by omega)]; omega
          refine ⟨⟨i + 1, ew, by omega, fun x hx' => ?_⟩, ?_⟩
          · rw [take_snoc hy] at hx'
            rcases List.mem_append.1 hx' with h1 | h1
            · exact hx x h1
            · simp at h1; subst h1; exact h
          · show ((l.length : Int) - w64 ((i : Int) + 1)).toNat < ((l.length : Int) - (i : Int)).toNat
            rw [ew]; omega
    · have hc : ¬ ((i : Int) < l.length ∧ (i : Int) ≤ 1000) := fun hh => by rw [decide_eq_true hh.1, decide_eq_true hh.2] at hc; cases hc
      have : i = l.length := by omega
      subst this
      show l.all jokB = true
      rw [List.all_eq_true]; intro x hx'; exact hx x (by rw [List.take_length]; exact hx')
  · rw [h] at hp
    rw [decide_eq_true (by omega : (l.length : Int) ≤ 1000)]; exact hp
/-- right jobs, few, a start -/
structure Fa (l : List ApiJob) (start : Int) : Prop where
  n : l.length ≤ 60
  j : JsOk l
  s0 : 0 ≤ start
  s1 : start ≤ 1099511627776
theorem S_fair {start : Int} {post : Bool → Prop} (h1 : Fa l start → post true) (h0 : ¬ Fa l start → post false) : V_taquinlaw43_fair l start post := by
  unfold V_taquinlaw43_fair
  have key : ∀ b : Bool, (b = true ↔ Fa l start) → post b := fun b hb => by
    cases b with
    | true => exact h1 (hb.1 rfl)
    | false => exact h0 (fun h => by cases hb.2 h)
  refine Jn.mk (fun b => (b = true ↔ Fa l start)) (Ite.mk (fun hc => S_refRight ?_ (Ite.mk (fun hr => Ite.mk (fun hs => ?_) (fun hs => ?_)) (fun hr => ?_))) (fun hc => ?_)) (fun b hb => key b hb)
  · have := of_decide_eq_true hc; omega
  · have hn : (l.length : Int) ≤ 60 := of_decide_eq_true hc
    have hj : JsOk l := ⟨by omega, fun x hx => jokB_iff.1 (List.all_eq_true.1 hr x hx)⟩
    exact ⟨fun h => ⟨by omega, hj, of_decide_eq_true hs, of_decide_eq_true h⟩, fun h => decide_eq_true h.s1⟩
  · exact ⟨fun h => absurd h (by decide), fun h => absurd h.s0 (of_decide_eq_false hs)⟩
  · refine ⟨fun h => absurd h (by decide), fun h => ?_⟩
    have : l.all jokB = true := List.all_eq_true.2 fun x hx => jokB_iff.2 (h.j.2 x hx)
    rw [this] at hr; cases hr
  · exact ⟨fun h => absurd h (by decide), fun h => absurd (by have := h.n; omega) (of_decide_eq_false hc)⟩
end
end Go.Taq
