/- The mathematics, part EN: the reference's batches; BatchTells (chapter 43). -/
import Derived.Test.YtghoacejnmgldaaEO
set_option linter.unusedVariables false
set_option linter.unusedSimpArgs false
set_option maxRecDepth 100000
set_option maxHeartbeats 1000000
namespace Go.Taq
open Go

section
variable {l : List ApiJob}
theorem kb_trans {D : List Int} {s t u : Int} (h : kb l D s t) (g : kb l D t u) : kb l D s u := by unfold kb at *; omega
theorem hd_snoc {D : List Int} {x t : Int} (h : ∃ k, k ∈ D ∧ shv l k = t) : hdG l (D ++ [x]) t = hdG l D t := by
  obtain ⟨r, e, _, _⟩ := grp_ne h
  show (grp l (D ++ [x]) t).headD 0 = _
  rw [grp_snoc, e]; rfl
theorem S_ref_Batches (hj : JsOk l) {post : List (List Int) → Prop} (hp : ∀ D ys, DueOf l D → BatOf l D ys → post ys) : V_taquinref43_Batches l post := by
  unfold V_taquinref43_Batches
  have hl100 := hj.1
  refine S_ref_Due (by omega) fun D hD => ?_
  have hDl := hD.len
  refine Jn.mk (fun y => BatOf l D y) (V_loopj (xs := D) (by unfold maxLen; omega) (fun t : List (List Int) × Int => t.2) (fun i t => BatOf l (D.take i) t.1 ∧ t.1.length ≤ i) rfl ⟨⟨[], rfl, by simp, .nil⟩, by simp⟩ (fun i x t hx ht hI => ?_) (fun t hI => ?_)) (fun y hy => hp D y hD hy)
  · obtain ⟨out, q⟩ := t
    simp only at ht hI
    subst ht
    obtain ⟨⟨shs, rfl, hm, hso⟩, hsl⟩ := hI
    simp only [List.length_map] at hsl
    have hi := (List.getElem?_eq_some_iff.1 hx).1
    have hin : In l x := hD.mem.1 (List.mem_of_getElem? hx)
    have hsD := hD.2
    have eD : D = D.take i ++ x :: D.drop (i + 1) := by
      obtain ⟨h1, h2⟩ := List.getElem?_eq_some_iff.1 hx
      have h3 := List.take_append_drop i D
      rw [List.drop_eq_getElem_cons h1, h2] at h3
      exact h3.symm
    rw [eD] at hsD
    have hDi : ∀ k, k ∈ D.take i → In l k := fun k hk => hD.mem.1 (List.mem_of_mem_take hk)
    have hDx : ∀ k, k ∈ D.take i → (jb l k).Due ≤ (jb l x).Due := fun k hk => (hsD.mid k hk x (by simp)).due
    have etk : D.take (i + 1) = D.take i ++ [x] := take_snoc hx
    generalize hD' : D.take i = D' at *
    have hn := kb_nodup hso
    have hne : ∀ t, t ∈ shs → ∃ r, grp l D' t = hdG l D' t :: r ∧ hdG l D' t ∈ D' ∧ shv l (hdG l D' t) = t := fun t ht => grp_ne ((hm t).1 ht)
    have hso' : shs.Pairwise (kb l (D' ++ [x])) := hso.imp_of_mem fun {a b} ha hb h => by
      unfold kb at *; rwa [hd_snoc ((hm a).1 ha), hd_snoc ((hm b).1 hb)]
    have hg1 : ∀ t, grp l D' t ++ (if shv l x = t then [x] else []) = grp l (D' ++ [x]) t := fun t => grp_snoc.symm
    have hgl : ∀ t, (grp l D' t).length ≤ 1000 := fun t => by
      have := grp_len (l := l) (D := D') (s := t)
      have h2 : D'.length ≤ D.length := by rw [← hD', List.length_take]; omega
      omega
    refine Jn.mk (fun y => BatOf l (D' ++ [x]) y ∧ y.length ≤ i + 1) ?_ (fun y hy => ⟨rfl, by rw [etk]; exact hy.1, hy.2⟩)
    refine Jn.mk (fun y : List (List Int) × Bool => y = (shs.map (grp l (D' ++ [x])), decide (shv l x ∈ shs)))
      (Loop.mk (fun t : List (List Int) × Bool × Int => ∃ A B, shs = A ++ B ∧ t = (A.map (grp l (D' ++ [x])) ++ B.map (grp l D'), decide (shv l x ∈ A), (A.length : Int))) (fun t => (shs.length - t.2.2).toNat) ⟨[], shs, rfl, by simp⟩ ?_) (fun y hy => ?_)
    · rintro t ⟨A, B, e, rfl⟩
      have hAB : shs.length = A.length + B.length := by rw [e]; simp
      refine Ite.mk (fun hlt => ?_) (fun hge => ?_)
      · have hlt : (A.length : Int) < ((A.map (grp l (D' ++ [x])) ++ B.map (grp l D')).length : Int) := of_decide_eq_true hlt
        cases B with
        | nil => simp at hlt
        | cons t B =>
          have htm : t ∈ shs := by rw [e]; simp
          obtain ⟨r, eg, hgd, hgs⟩ := hne t htm
          have ii := hDi _ hgd
          have ew : w64 ((A.length : Int) + 1) = ((A.length + 1 : Nat) : Int) := by simp only [List.length_cons] at hAB; rw [w64_s (by omega) (by omega)]; omega
          have e1 : A.map (grp l (D' ++ [x])) ++ (t :: B).map (grp l D') = A.map (grp l (D' ++ [x])) ++ grp l D' t :: B.map (grp l D') := rfl
          have e2 : ∀ z, (A.map (grp l (D' ++ [x])) ++ (t :: B).map (grp l D')).set (Int.toNat (A.length : Int)) z = A.map (grp l (D' ++ [x])) ++ z :: B.map (grp l D') := fun z => by rw [e1]; exact set_mid (by simp)
          have e3 : ∀ y z, (A.map (grp l (D' ++ [x])) ++ y :: B.map (grp l D')).set (Int.toNat (A.length : Int)) z = A.map (grp l (D' ++ [x])) ++ z :: B.map (grp l D') := fun y z => set_mid (by simp)
          refine ⟨grp l D' t, by rw [e1]; exact idx_mid (by simp), hdG l D' t, by rw [eg]; rfl, _, jb_get ii.1 ii.2, x, idx_of rfl hx, _, jb_get hin.1 hin.2, Jn.mk (fun y => y = (A.map (grp l (D' ++ [x])) ++ grp l (D' ++ [x]) t :: B.map (grp l D'), decide (shv l x ∈ A ++ [t]))) (Ite.mk (fun h => ⟨by have := hgl t; simp; omega, ?_⟩) (fun h => ?_)) (fun y hy => ?_)⟩
          · have h : shv l (hdG l D' t) = shv l x := by unfold shv; simpa using h
            rw [hgs] at h
            show (((A.map (grp l (D' ++ [x])) ++ (t :: B).map (grp l D')).set (Int.toNat (A.length : Int)) (grp l D' t)).set (Int.toNat (A.length : Int)) (grp l D' t ++ [x]), true) = _
            rw [e2, e3, ← hg1 t, if_pos h.symm]; simp [h]
          · have h : shv l (hdG l D' t) ≠ shv l x := by unfold shv; simpa using h
            rw [hgs] at h
            show ((A.map (grp l (D' ++ [x])) ++ (t :: B).map (grp l D')).set (Int.toNat (A.length : Int)) (grp l D' t), decide (shv l x ∈ A)) = _
            rw [e2, ← hg1 t, if_neg (fun e => h e.symm), List.append_nil]
            have : ¬ shv l x = t := fun e => h e.symm
            simp [this]
          · subst hy
            refine ⟨⟨A ++ [t], B, by rw [e]; simp, ?_⟩, ?_⟩
            · show (_, _, w64 ((A.length : Int) + 1)) = _
              rw [ew]; simp
            · show ((shs.length : Int) - w64 ((A.length : Int) + 1)).toNat < ((shs.length : Int) - (A.length : Int)).toNat
              simp only [List.length_cons] at hAB
              rw [ew]; omega
      · have hge : ¬ (A.length : Int) < ((A.map (grp l (D' ++ [x])) ++ B.map (grp l D')).length : Int) := of_decide_eq_false hge
        have : B = [] := List.length_eq_zero_iff.1 (by simp at hge; omega)
        subst this
        simp only [List.append_nil] at e
        subst e; simp
    · subst hy
      refine Jn.mk' (Ite.mk (fun hnf => ?_) (fun hf => ?_))
      · have hnf : shv l x ∉ shs := by simpa using hnf
        have hF : grp l D' (shv l x) = [] := by
          rw [List.eq_nil_iff_forall_not_mem]
          intro k hk
          exact hnf ((hm _).2 ⟨k, grp_mem.1 hk⟩)
        have hG : grp l (D' ++ [x]) (shv l x) = [x] := by rw [← hg1, hF, if_pos rfl]; rfl
        have hhd : hdG l (D' ++ [x]) (shv l x) = x := by unfold hdG; rw [hG]; rfl
        have hall : ∀ t, t ∈ shs ++ [shv l x] → ∃ k, k ∈ D' ++ [x] ∧ shv l k = t := fun t ht => by
          rcases List.mem_append.1 ht with ht | ht
          · obtain ⟨k, h1, h2⟩ := (hm t).1 ht; exact ⟨k, by simp [h1], h2⟩
          · simp at ht; exact ⟨x, by simp, ht.symm⟩
        have hinD : ∀ k, k ∈ D' ++ [x] → In l k := fun k hk => by
          rcases List.mem_append.1 hk with h | h
          · exact hDi k h
          · simp at h; subst h; exact hin
        have emap : (shs.map (grp l (D' ++ [x])) ++ [[x]]).set (shs.map (grp l (D' ++ [x]))).length [x] = (shs ++ [shv l x]).map (grp l (D' ++ [x])) := by rw [set_app]; simp [hG]
        refine ⟨x, idx_of rfl hx, by simp; omega, ?_⟩
        rw [emap]
        have ewl : w64 ((((shs ++ [shv l x]).map (grp l (D' ++ [x]))).length : Int) - 1) = (shs.length : Int) := by rw [w64_s (by simp <;> omega) (by simp <;> omega)]; simp
        rw [ewl]
        refine Jn.mk (fun y => ∃ L : List Int, y = L.map (grp l (D' ++ [x])) ∧ L.Perm (shs ++ [shv l x]) ∧ L.Pairwise (kb l (D' ++ [x]))) (Loop.mk
          (fun t : List (List Int) × Int => ∃ (L : List Int) (k : Nat), t = (L.map (grp l (D' ++ [x])), (k : Int)) ∧ k < L.length ∧ L.Perm (shs ++ [shv l x]) ∧ ((∃ A B, L = A ++ shv l x :: B ∧ k = A.length ∧ shs = A ++ B ∧ ∀ b, b ∈ B → kb l (D' ++ [x]) (shv l x) b) ∨ L.Pairwise (kb l (D' ++ [x])))) (fun t => t.2.toNat)
          ⟨shs ++ [shv l x], shs.length, rfl, by simp, .refl _, .inl ⟨shs, [], rfl, rfl, by simp, by simp⟩⟩ ?_) (fun y hy => ?_)
        · rintro t ⟨L, k, rfl, hk, hperm, hor⟩
          have hLl : L.length = shs.length + 1 := by rw [hperm.length_eq]; simp
          refine Ite.mk (fun hlt => ?_) (fun hge => ?_)
          · have hlt : (k : Int) > 0 := of_decide_eq_true hlt
            obtain ⟨j, rfl⟩ : ∃ j, k = j + 1 := ⟨k - 1, by omega⟩
            obtain ⟨P, a, b, Q, eL, hPl⟩ : ∃ P a b Q, L = P ++ a :: b :: Q ∧ P.length = j := by
              refine ⟨L.take j, L[j]'(by omega), L[j + 1]'hk, L.drop (j + 2), ?_, by rw [List.length_take]; omega⟩
              have h3 := List.take_append_drop j L
              rw [List.drop_eq_getElem_cons (by omega : j < L.length), List.drop_eq_getElem_cons hk] at h3
              exact h3.symm
            subst hPl
            have ham : a ∈ shs ++ [shv l x] := hperm.mem_iff.1 (by rw [eL]; simp)
            have hbm : b ∈ shs ++ [shv l x] := hperm.mem_iff.1 (by rw [eL]; simp)
            obtain ⟨ra, ea, had, has⟩ := grp_ne (hall a ham)
            obtain ⟨rb, eb, hbd, hbs⟩ := grp_ne (hall b hbm)
            have ia := hinD _ had
            have ib := hinD _ hbd
            have ew : w64 (((P.length + 1 : Nat) : Int) - 1) = (P.length : Int) := by rw [w64_s (by omega) (by omega)]; omega
            have eM : L.map (grp l (D' ++ [x])) = P.map (grp l (D' ++ [x])) ++ grp l (D' ++ [x]) a :: grp l (D' ++ [x]) b :: Q.map (grp l (D' ++ [x])) := by rw [eL]; simp
            have eM2 : ∀ y z, P.map (grp l (D' ++ [x])) ++ y :: z :: Q.map (grp l (D' ++ [x])) = (P.map (grp l (D' ++ [x])) ++ [y]) ++ z :: Q.map (grp l (D' ++ [x])) := fun y z => by simp
            have i1 : ∀ y z, idx (P.map (grp l (D' ++ [x])) ++ y :: z :: Q.map (grp l (D' ++ [x]))) ((P.length + 1 : Nat) : Int) = some z := fun y z => by rw [eM2]; exact idx_mid (by simp)
            have i0 : ∀ y z, idx (P.map (grp l (D' ++ [x])) ++ y :: z :: Q.map (grp l (D' ++ [x]))) (P.length : Int) = some y := fun y z => idx_mid (by simp)
            have s1 : ∀ y z w, (P.map (grp l (D' ++ [x])) ++ y :: z :: Q.map (grp l (D' ++ [x]))).set (Int.toNat ((P.length + 1 : Nat) : Int)) w = P.map (grp l (D' ++ [x])) ++ y :: w :: Q.map (grp l (D' ++ [x])) := fun y z w => by rw [eM2, set_mid (by simp <;> omega), ← eM2]
            have s0 : ∀ y z w, (P.map (grp l (D' ++ [x])) ++ y :: z :: Q.map (grp l (D' ++ [x]))).set (Int.toNat (P.length : Int)) w = P.map (grp l (D' ++ [x])) ++ w :: z :: Q.map (grp l (D' ++ [x])) := fun y z w => set_mid (by simp)
            simp only [ew, eM]
            refine ⟨_, i1 _ _, hdG l (D' ++ [x]) b, by rw [eb]; rfl, _, jb_get ib.1 ib.2, grp l (D' ++ [x]) a, by rw [s1]; exact i0 _ _, hdG l (D' ++ [x]) a, by rw [ea]; rfl, _, jb_get ia.1 ia.2, ?_⟩
            simp only [s1, s0]
            have hbs' : (jb l (hdG l (D' ++ [x]) b)).Shelf = b := hbs
            have has' : (jb l (hdG l (D' ++ [x]) a)).Shelf = a := has
            refine Jn.mk (fun c => (c = true ↔ (jb l (hdG l (D' ++ [x]) b)).Due = (jb l (hdG l (D' ++ [x]) a)).Due ∧ b < a)) (Ite.mk (fun h => ?_) (fun h => ?_)) (fun c hc => ?_)
            · have h : (jb l (hdG l (D' ++ [x]) b)).Due = (jb l (hdG l (D' ++ [x]) a)).Due := by simpa using h
              rw [hbs', has']
              show decide (b < a) = true ↔ _
              rw [decide_eq_true_iff]
              exact ⟨fun h2 => ⟨h, h2⟩, fun h2 => h2.2⟩
            · have h : (jb l (hdG l (D' ++ [x]) b)).Due ≠ (jb l (hdG l (D' ++ [x]) a)).Due := by simpa using h
              exact ⟨fun h2 => absurd h2 (by decide), fun h2 => absurd h2.1 h⟩
            · -- which way we are on
              have split : (∃ A B, P ++ [a] = A ∧ b = shv l x ∧ Q = B ∧ shs = P ++ a :: Q ∧ ∀ y, y ∈ Q → kb l (D' ++ [x]) (shv l x) y) ∨ L.Pairwise (kb l (D' ++ [x])) := by
                rcases hor with ⟨A, B, h3, h4, h5, h6⟩ | h3
                · left
                  rw [eL] at h3
                  have h7 : P ++ a :: b :: Q = (P ++ [a]) ++ b :: Q := by simp
                  rw [h7] at h3
                  obtain ⟨h8, h9⟩ := List.append_inj h3 (by simp; omega)
                  injection h9 with h10 h11
                  subst h11
                  exact ⟨A, Q, h8, h10, rfl, by rw [h5, ← h8]; simp, h6⟩
                · exact .inr h3
              refine Jn.mk (fun y => ∃ L' : List Int, y = L'.map (grp l (D' ++ [x])) ∧ P.length < L'.length ∧ L'.Perm (shs ++ [shv l x]) ∧ ((∃ A B, L' = A ++ shv l x :: B ∧ P.length = A.length ∧ shs = A ++ B ∧ ∀ b, b ∈ B → kb l (D' ++ [x]) (shv l x) b) ∨ L'.Pairwise (kb l (D' ++ [x])))) (Ite.mk (fun h => ?_) (fun h => ?_)) (fun y hy => ?_)
              · obtain ⟨hde, hlt2⟩ := hc.1 h
                refine ⟨grp l (D' ++ [x]) b, i1 _ _, by omega, P ++ b :: a :: Q, by simp, by simp, ?_, ?_⟩
                · refine List.Perm.trans ?_ hperm
                  rw [eL]; exact List.Perm.append_left _ (.swap _ _ _)
                · rcases split with ⟨_, _, _, h4, _, h5, h6⟩ | h3
                  · subst h4
                    refine .inl ⟨P, a :: Q, rfl, rfl, h5, fun y hy => ?_⟩
                    rcases List.mem_cons.1 hy with rfl | hy
                    · unfold kb; exact .inr ⟨hde, hlt2⟩
                    · exact h6 y hy
                  · exfalso
                    rw [eL] at h3
                    have h4 := (List.pairwise_cons.1 (List.pairwise_append.1 h3).2.1).1 b (by simp)
                    unfold kb at h4; omega
              · have hnc : ¬ ((jb l (hdG l (D' ++ [x]) b)).Due = (jb l (hdG l (D' ++ [x]) a)).Due ∧ b < a) := fun h2 => by rw [hc.2 h2] at h; cases h
                refine ⟨L, eM.symm, by rw [eL]; simp <;> omega, hperm, .inr ?_⟩
                rcases split with ⟨_, _, _, h4, _, h5, h6⟩ | h3
                · subst h4
                  have hash : a ∈ shs := by rw [h5]; simp
                  have hne2 : a ≠ shv l x := fun e => hnf (e ▸ hash)
                  have hda : (jb l (hdG l (D' ++ [x]) a)).Due ≤ (jb l x).Due := by
                    rw [hd_snoc ((hm a).1 hash)]
                    obtain ⟨_, _, h8, _⟩ := hne a hash
                    exact hDx _ h8
                  rw [hhd] at hnc
                  have hab : kb l (D' ++ [x]) a (shv l x) := by unfold kb; rw [hhd]; omega
                  rw [h5] at hso'
                  have g := List.pairwise_append.1 hso'
                  have g2 := List.pairwise_cons.1 g.2.1
                  rw [eL]
                  refine List.pairwise_append.2 ⟨g.1, List.pairwise_cons.2 ⟨fun y hy => ?_, List.pairwise_cons.2 ⟨h6, g2.2⟩⟩, fun y hy z hz => ?_⟩
                  · rcases List.mem_cons.1 hy with rfl | hy
                    · exact hab
                    · exact g2.1 y hy
                  · rcases List.mem_cons.1 hz with rfl | hz
                    · exact g.2.2 y hy _ (by simp)
                    · rcases List.mem_cons.1 hz with rfl | hz
                      · exact kb_trans (g.2.2 y hy a (by simp)) hab
                      · exact g.2.2 y hy z (by simp [hz])
                · exact h3
              · obtain ⟨L', rfl, h3, h4, h5⟩ := hy
                exact ⟨⟨L', P.length, rfl, h3, h4, h5⟩, by show ((P.length : Int)).toNat < (((P.length + 1 : Nat) : Int)).toNat; omega⟩
          · have hge : ¬ (k : Int) > 0 := of_decide_eq_false hge
            refine ⟨L, rfl, hperm, ?_⟩
            rcases hor with ⟨A, B, h3, h4, h5, h6⟩ | h3
            · have : A = [] := List.length_eq_zero_iff.1 (by omega)
              subst this
              simp only [List.nil_append] at h3 h5
              subst h5
              rw [h3]; exact List.pairwise_cons.2 ⟨h6, hso'⟩
            · exact h3
        · obtain ⟨L, rfl, h3, h4⟩ := hy
          refine ⟨⟨L, rfl, fun s => ?_, h4⟩, by rw [List.length_map, h3.length_eq]; simp; omega⟩
          rw [h3.mem_iff]
          constructor
          · exact hall s
          · rintro ⟨k, hk, e⟩
            rcases List.mem_append.1 hk with h | h
            · exact List.mem_append_left _ ((hm s).2 ⟨k, h, e⟩)
            · simp at h; subst h; simp [e]
      · have hf : shv l x ∈ shs := by simpa using hf
        refine ⟨⟨shs, rfl, fun s => ?_, hso'⟩, by simp; omega⟩
        rw [hm]
        constructor
        · rintro ⟨k, h1, h2⟩; exact ⟨k, by simp [h1], h2⟩
        · rintro ⟨k, hk, e⟩
          rcases List.mem_append.1 hk with h | h
          · exact ⟨k, h, e⟩
          · simp at h; subst h; subst e; exact (hm _).1 hf
  · rw [List.take_length] at hI; exact hI.1
theorem S_ref_merge (hj : JsOk l) {setup : Int} (u0 : 0 ≤ setup) (u1 : setup ≤ 1000000) {post : List ApiJob → Prop} (hp : ∀ D ys, DueOf l D → BatOf l D ys → post (ys.map (mrg l setup))) : V_taquinref43_Merge l setup post := by
  unfold V_taquinref43_Merge
  refine S_ref_Batches hj fun D ys hD hB => ?_
  have hl100 := hj.1
  have hyl := hB.len hD
  refine Jn.mk (fun x => x = ys.map (mrg l setup)) (Loop.mk (fun t : List ApiJob × List (List Int) × Int => ∃ i : Nat, t = ((ys.take i).map (mrg l setup), ys, (i : Int)) ∧ i ≤ ys.length) (fun t => (ys.length - t.2.2).toNat) ⟨0, rfl, by omega⟩ ?_) (fun x e => by subst e; exact hp D ys hD hB)
  rintro t ⟨i, rfl, hi⟩
  refine Ite.mk (fun hlt => ?_) (fun hge => ?_)
  · have hlt : (i : Int) < ys.length := of_decide_eq_true hlt
    have hy : ys[i]? = some (ys[i]'(by omega)) := List.getElem?_eq_getElem _
    generalize ys[i]'_ = y at hy
    obtain ⟨i0, r, e, hyin, hylen⟩ := hB.at hD (List.mem_of_getElem? hy)
    have hin := hyin i0 (by rw [e]; simp)
    have hset : ys.set (Int.toNat (i : Int)) y = ys := set_idx (idx_of rfl hy)
    have hidx : idx ys (i : Int) = some y := idx_of rfl hy
    refine Jn.mk (fun q => q = ((ys.take (i + 1)).map (mrg l setup), ys)) ⟨y, hidx, i0, by rw [e]; rfl, _, jb_get hin.1 hin.2, Jn.mk (fun q => q = (ys, setup + Wrk l y)) (Loop.mk (fun t : List (List Int) × Int × Int => ∃ k : Nat, t = (ys, setup + Wrk l (y.take k), (k : Int)) ∧ k ≤ y.length) (fun t => (y.length - t.2.2).toNat) ⟨0, by rw [hset]; simp [Wrk], by omega⟩ ?_) (fun q hq => ?_)⟩ (fun q hq => ?_)
    · rintro t ⟨k, rfl, hk⟩
      refine ⟨y, hidx, Ite.mk (fun hkl => ?_) (fun hkg => ?_)⟩
      · have hkl : (k : Int) < y.length := of_decide_eq_true hkl
        have hj2 : y[k]? = some (y[k]'(by omega)) := List.getElem?_eq_getElem _
        generalize y[k]'_ = j at hj2
        have hjin := hyin j (List.mem_of_getElem? hj2)
        have hjj := hj.at hjin
        have a1 := hjj.w0; have a2 := hjj.w1
        have hw := Wrk_bd hj (ks := y.take k) (fun z hz => hyin z (List.mem_of_mem_take hz))
        rw [List.length_take] at hw
        have ew : w64 ((k : Int) + 1) = ((k + 1 : Nat) : Int) := by rw [w64_s (by omega) (by omega)]; omega
        have ew2 : w64 (setup + Wrk l (y.take k) + (jb l j).Work) = setup + Wrk l (y.take (k + 1)) := by rw [w64_eq (by omega) (by omega), take_snoc hj2, Wrk_app, Wrk_cons, Wrk_nil]; omega
        refine ⟨j, idx_of rfl hj2, _, jb_get hjin.1 hjin.2, ⟨k + 1, ?_, by omega⟩, ?_⟩
        · show ((ys.set (Int.toNat (i : Int)) y).set (Int.toNat (i : Int)) y, w64 (setup + Wrk l (y.take k) + (jb l j).Work), w64 ((k : Int) + 1)) = _
          rw [hset, hset, ew, ew2]
        · show ((y.length : Int) - w64 ((k : Int) + 1)).toNat < ((y.length : Int) - (k : Int)).toNat
          rw [ew]; omega
      · have hkg : ¬ (k : Int) < y.length := of_decide_eq_false hkg
        have : k = y.length := by omega
        subst this
        show (ys.set (Int.toNat (i : Int)) y, setup + Wrk l (y.take y.length)) = _
        rw [hset, List.take_length]
    · subst hq
      refine ⟨by simp; omega, ?_⟩
      rw [take_snoc hy]
      simp [mrg, e, shv]
    · subst hq
      have ew : w64 ((i : Int) + 1) = ((i + 1 : Nat) : Int) := by rw [w64_s (by omega) (by omega)]; omega
      refine ⟨⟨i + 1, by rw [ew], by omega⟩, ?_⟩
      show ((ys.length : Int) - w64 ((i : Int) + 1)).toNat < ((ys.length : Int) - (i : Int)).toNat
      rw [ew]; omega
  · have hge : ¬ (i : Int) < ys.length := of_decide_eq_false hge
    have : i = ys.length := by omega
    subst this
    show (ys.take ys.length).map _ = _
    rw [List.take_length]
theorem S_right43 (hl : l.length ≤ 1000) {post : Bool → Prop} (hp : post (l.all jokB)) : V_batch_Right l post := by
  unfold V_batch_Right
  refine Jn.mk (fun b => b = l.all jokB) (Ite.t (decide_eq_true (by omega)) ?_) (fun b hb => by subst hb; exact hp)
  unfold V_slices_ContainsFunc_api_Job_api_Job__batch_Right_1 V_slices_IndexFunc_api_Job_api_Job__batch_Right_1
  refine V_fidxc (by unfold maxLen; omega) (fun x => !jokB x) (T := fun c q => V_batch_Right_1 c q) (fun c _ q hq => ?_) ?_
  · unfold V_batch_Right_1
    refine Jn.mk (fun b => b = !jokB c) ?_ (fun b hb => by subst hb; exact hq)
    unfold jokB
    rw [Bool.not_not]
    cases decide (c.Shelf < 0) <;> cases decide (c.Shelf ≥ 3000) <;> cases decide (c.Work < 1) <;> cases decide (c.Work > 1000000) <;> cases decide (c.Due < 0) <;> simp
  · rw [fidx_any]
    show (!(l.any fun x => !jokB x)) = l.all jokB
    rw [Bool.eq_iff_iff]; simp
theorem Said_taquinlaw43_BatchTells (l : List ApiJob) (kl : OkL OkApiJob l) (order : List Int) (ko : OkL I64 order) (start : Int) (ks : I64 start) (setup : Int) (ku : I64 setup) : V_taquinlaw43_BatchTells l order start setup (fun y => y = true) := by
  unfold V_taquinlaw43_BatchTells
  refine S_law43_small (Jn.mk (fun b => b = decide ((l.length : Int) > 60)) (Ite.mk (fun h => by rw [h]) (fun h => ?_)) (fun b hb => ?_))
  · have hl : ¬ (l.length : Int) > 60 := of_decide_eq_false h
    refine S_right43 (by omega) (S_refRight (by omega) ?_)
    rw [h]; simp
  · subst hb
    refine Ite.mk (fun h => Jn.eq true (Ite.t rfl h) rfl) (fun h => ?_)
    have hl : ¬ (l.length : Int) > 60 := of_decide_eq_false h
    refine Jn.mk (fun b => b = false → Fa l start ∧ order.length ≤ 80 ∧ 0 ≤ setup ∧ setup ≤ 1000000) (S_fair (fun hf => Ite.t rfl (Ite.mk (fun _ h => by cases h) (fun h1 => Ite.mk (fun _ h => by cases h) (fun h2 h3 => ?_)))) (fun _ => Ite.f rfl (fun h => by cases h))) (fun b hb => Ite.mk (fun _ => rfl) (fun h => ?_))
    · have h1 : ¬ (order.length : Int) > 80 := of_decide_eq_false h1
      have h2 : ¬ setup < 0 := of_decide_eq_false h2
      have h3 := of_decide_eq_false h3
      exact ⟨hf, by omega, by omega, by omega⟩
    · obtain ⟨hf, ho, u0, u1⟩ := hb h
      have hn := hf.n
      have hj := hf.j
      refine S_batches hj fun D ys hD hB => S_ref_Batches hj fun D' ys' hD' hB' => ?_
      have := hD'.uniq hD; subst this
      have := hB'.uniq hB; subst this
      have hyl := hB.len hD
      have hDl := hD.len
      refine Ite.f (by simp) (Jn.mk (fun _ => True) (Loop.mk (fun t : List (List Int) × List (List Int) × Int => ∃ i : Nat, t = (ys', ys', (i : Int))) (fun t => (ys'.length - t.2.2).toNat) ⟨0, rfl⟩ ?_) (fun _ _ => ?_))
      · rintro t ⟨i, rfl⟩
        refine Ite.mk (fun hlt => ?_) (fun hge => trivial)
        have hlt : (i : Int) < ys'.length := of_decide_eq_true hlt
        have hy : ys'[i]? = some (ys'[i]'(by omega)) := List.getElem?_eq_getElem _
        generalize ys'[i]'_ = y at hy
        obtain ⟨_, _, _, _, hylen⟩ := hB.at hD (List.mem_of_getElem? hy)
        have hset : ys'.set (Int.toNat (i : Int)) y = ys' := set_idx (idx_of rfl hy)
        have ew : w64 ((i : Int) + 1) = ((i + 1 : Nat) : Int) := by rw [w64_s (by omega) (by omega)]; omega
        refine ⟨y, idx_of rfl hy, y, idx_of rfl hy, S_same (by omega) (Ite.f rfl ⟨⟨i + 1, ?_⟩, ?_⟩)⟩
        · show (ys'.set (Int.toNat (i : Int)) y, ys'.set (Int.toNat (i : Int)) y, w64 ((i : Int) + 1)) = _
          rw [hset, ew]
        · show ((ys'.length : Int) - w64 ((i : Int) + 1)).toNat < ((ys'.length : Int) - (i : Int)).toNat
          rw [ew]; omega
      · refine Jn.eq false (S_batch_Due (by omega) fun D1 h1 => S_ref_Due (by omega) fun D2 h2 => S_sameE (h1.uniq h2) (by rw [h1.len]; omega) (Ite.t rfl (S_ends hj (by omega) hf.s0 hf.s1 (S_ref_ends hj (by omega) hf.s0 hf.s1 (S_same (by rw [endsL_len]; have := kn_len (l := l) (o := order); omega) (Ite.t rfl (S_worst hj (by omega) hf.s0 hf.s1 (S_ref_worst hj (by omega) hf.s0 hf.s1 (by simp))))))))) (Ite.f rfl ?_)
        refine Jn.eq true (Ite.t rfl (S_intime hj hf.s0 hf.s1 fun D1 h1 => S_ref_InTime hj hf.s0 hf.s1 fun D2 h2 => S_sameE (by rw [h1.uniq h2]) ?_ (Ite.t rfl (S_merge hj u0 u1 fun D3 y3 h3 b3 => S_ref_merge hj u0 u1 fun D4 y4 h4 b4 => ?_)))) rfl
        · have := mh_len (l := l) (s := start) (D := D1)
          unfold inT; rw [List.length_mergeSort, ]; rw [h1.len] at this; omega
        · have := h3.uniq h4; subst this
          have := b3.uniq b4; subst this
          exact S_same43 (by rw [List.length_map]; have := b3.len h3; omega) rfl
end
end Go.Taq
