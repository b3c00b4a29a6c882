/- The mathematics, part EO: the reference's order and its jobs in time (chapter 43). -/
import Derived.Test.YtghoacejnmgldaaEK
set_option linter.unusedVariables false
set_option linter.unusedSimpArgs false
set_option maxRecDepth 100000
set_option maxHeartbeats 1000000
namespace Go.Taq
open Go

section
variable {l : List ApiJob}
theorem S_before {a b : Int} (ha : In l a) (hb : In l b) {post : Bool → Prop} (hp : post (decide (bef l a b))) : V_taquinref43_before l a b post := by
  unfold V_taquinref43_before
  refine Jn.mk (fun c => c = decide (bef l a b)) ⟨_, jb_get ha.1 ha.2, _, jb_get hb.1 hb.2, Ite.mk (fun h => ?_) (fun h => Ite.mk (fun h2 => ?_) (fun h2 => ?_))⟩ (fun c hc => by subst hc; exact hp)
  · have h := of_decide_eq_true h
    exact (decide_eq_true (by unfold bef; omega)).symm
  · have h := of_decide_eq_false h
    have h2 : (jb l a).Due = (jb l b).Due := by simpa using h2
    exact decide_eq_decide.2 (by unfold bef; omega)
  · have h := of_decide_eq_false h
    have h2 : (jb l a).Due ≠ (jb l b).Due := by simpa using h2
    exact (decide_eq_false (by unfold bef; omega)).symm
theorem S_ref_Due (hl : l.length ≤ 500) {post : List Int → Prop} (hp : ∀ D, DueOf l D → post D) : V_taquinref43_Due l post := by
  unfold V_taquinref43_Due
  refine Jn.mk (fun x => DueOf l x) (Loop.mk (fun t : List Int × Int => ∃ i : Nat, t.2 = (i : Int) ∧ i ≤ l.length ∧ t.1.Perm (irg 0 i) ∧ Srt l t.1) (fun t => (l.length - t.2).toNat) ⟨0, rfl, by omega, .refl _, .nil⟩ ?_) (fun x hx => hp x hx)
  rintro ⟨C, q⟩ ⟨i, e, hi, hC, hsC⟩
  simp only at e hC hsC
  subst e
  have hCl : C.length = i := by rw [hC.length_eq]; simp
  refine Ite.mk (fun hlt => ?_) (fun hge => ?_)
  · have hlt : (i : Int) < l.length := of_decide_eq_true hlt
    have hx : In l (i : Int) := ⟨by omega, hlt⟩
    have hCin : ∀ y, y ∈ C → In l y := fun y hy => by have := mem_irg.1 (hC.mem_iff.1 hy); exact ⟨by omega, by omega⟩
    have hCx : ∀ y, y ∈ C → y ≠ (i : Int) := fun y hy => by have := mem_irg.1 (hC.mem_iff.1 hy); omega
    have ew0 : w64 (((C ++ [(i : Int)]).length : Int) - 1) = (C.length : Int) := by rw [w64_s (by simp <;> omega) (by simp <;> omega)]; simp
    refine Jn.mk' ?_
    refine ⟨by simp; omega, Jn.mk (fun y => ∃ D1 D2, C = D1 ++ D2 ∧ Srt l (D1 ++ (i : Int) :: D2) ∧ y = D1 ++ (i : Int) :: D2) (Loop.mk
      (fun s : List Int × Int => ∃ D1 D2, C = D1 ++ D2 ∧ (∀ y, y ∈ D2 → bef l (i : Int) y) ∧ s = (D1 ++ (i : Int) :: D2, (D1.length : Int))) (fun s => s.2.toNat) ⟨C, [], by simp, by simp, by show (C ++ [(i : Int)], w64 (((C ++ [(i : Int)]).length : Int) - 1)) = _; rw [ew0]⟩ ?_) (fun y h => ?_)⟩
    · rintro s ⟨D1, D2, rfl, hb, rfl⟩
      simp only [List.length_append] at hCl
      refine Jn.mk (fun c => (c = true ↔ ∃ E z, D1 = E ++ [z] ∧ bef l (i : Int) z)) ?_ (fun c hc => ?_)
      · rcases List.eq_nil_or_concat D1 with rfl | ⟨E, z, e1⟩
        · refine Ite.f (decide_eq_false (by simp)) ?_
          exact ⟨fun h => absurd h (by decide), by rintro ⟨E, z, h, _⟩; simp at h⟩
        · simp only [List.concat_eq_append] at e1
          subst e1
          refine Ite.t (decide_eq_true (by simp <;> omega)) ?_
          have ew1 : w64 (((E ++ [z]).length : Int) - 1) = (E.length : Int) := by
            simp only [List.length_append, List.length_cons, List.length_nil] at hCl ⊢
            rw [w64_s (by omega) (by omega)]; omega
          refine ⟨(i : Int), idx_mid rfl, z, ?_, S_before hx (hCin z (by simp)) ?_⟩
          · show idx ((E ++ [z]) ++ (i : Int) :: D2) (w64 (((E ++ [z]).length : Int) - 1)) = _
            rw [ew1]
            have : (E ++ [z]) ++ (i : Int) :: D2 = E ++ z :: ((i : Int) :: D2) := by simp
            rw [this]; exact idx_mid rfl
          · show decide (bef l (i : Int) z) = true ↔ _
            rw [decide_eq_true_iff]
            constructor
            · exact fun h => ⟨E, z, rfl, h⟩
            · rintro ⟨E', z', h1, h2⟩
              have := (List.append_inj' h1 rfl).2
              simp at this; subst this; exact h2
      · refine Ite.mk (fun hgo => ?_) (fun hno => ?_)
        · obtain ⟨E, z, e1, hxz⟩ := hc.1 hgo
          subst e1
          have ew1 : w64 (((E ++ [z]).length : Int) - 1) = (E.length : Int) := by
            simp only [List.length_append, List.length_cons, List.length_nil] at hCl ⊢
            rw [w64_s (by omega) (by omega)]; omega
          have e2 : (E ++ [z]) ++ (i : Int) :: D2 = E ++ z :: ((i : Int) :: D2) := by simp
          have e4 : ((E ++ [z]) ++ (i : Int) :: D2).set (Int.toNat ((E ++ [z]).length : Int)) z = E ++ z :: (z :: D2) := by
            rw [set_mid (by simp <;> omega)]; simp
          simp only [ew1]
          refine ⟨z, by rw [e2]; exact idx_mid rfl, (i : Int), idx_mid rfl, z, by rw [e4]; exact idx_mid rfl, ?_⟩
          rw [e4, set_mid (by simp <;> omega)]
          refine ⟨⟨E, z :: D2, by simp, fun y hy => ?_, rfl⟩, by simp <;> omega⟩
          rcases List.mem_cons.1 hy with rfl | hy
          · exact hxz
          · exact hb y hy
        · have hno : ¬ ∃ E z, D1 = E ++ [z] ∧ bef l (i : Int) z := fun h => by rw [hc.2 h] at hno; cases hno
          refine ⟨D1, D2, rfl, hsC.left.app (List.pairwise_cons.2 ⟨hb, hsC.right⟩) fun y hy z hz => ?_, rfl⟩
          have hyx : bef l y (i : Int) := by
            rcases List.eq_nil_or_concat D1 with rfl | ⟨E, z, e1⟩
            · cases hy
            · simp only [List.concat_eq_append] at e1
              subst e1
              have hzx : bef l z (i : Int) := bef.le (fun h => hno ⟨E, z, rfl, h⟩) (fun e => hCx z (by simp) e.symm)
              rcases List.mem_append.1 hy with hy | hy
              · exact ((hsC.left).mid y hy z (by simp)).trans hzx
              · simp at hy; subst hy; exact hzx
          rcases List.mem_cons.1 hz with rfl | hz
          · exact hyx
          · exact hsC.mid y hy z hz
    · obtain ⟨D1, D2, e1, h2, rfl⟩ := h
      have ew1 : w64 ((i : Int) + 1) = ((i + 1 : Nat) : Int) := by rw [w64_s (by omega) (by omega)]; omega
      refine ⟨⟨i + 1, ew1, by omega, ?_, h2⟩, ?_⟩
      · rw [irg_app, Nat.zero_add, irg_one]
        have p1 : (D1 ++ (i : Int) :: D2).Perm ((i : Int) :: (D1 ++ D2)) := List.perm_middle
        rw [← e1] at p1
        exact p1.trans ((hC.cons _).trans (List.perm_append_comm (l₁ := [(i : Int)])))
      · show ((l.length : Int) - w64 ((i : Int) + 1)).toNat < ((l.length : Int) - (i : Int)).toNat
        rw [ew1]; omega
  · have hge : ¬ (i : Int) < l.length := of_decide_eq_false hge
    have : i = l.length := by omega
    subst this
    exact ⟨hC, hsC⟩
def Flg (l : List ApiJob) (f : List Bool) (T : List Int) : Prop := f.length = l.length ∧ ∀ k : Nat, k < l.length → f[k]? = some (decide ((k : Int) ∈ T))
theorem Flg.at {f : List Bool} {T : List Int} (h : Flg l f T) {i : Int} (hi : In l i) : idx f i = some (decide (i ∈ T)) := by
  have := h.2 i.toNat (by have := hi.2; have := hi.1; omega)
  have e : ((i.toNat : Nat) : Int) = i := by have := hi.1; omega
  rw [e] at this
  exact idx_of e.symm this
theorem Flg.set {f : List Bool} {T T' : List Int} (h : Flg l f T) {i : Int} (hi : In l i) {b : Bool} (hb : b = true ↔ i ∈ T') (ho : ∀ k, k ≠ i → (k ∈ T' ↔ k ∈ T)) : Flg l (f.set (Int.toNat i) b) T' := by
  refine ⟨by simpa using h.1, fun k hk => ?_⟩
  have h0 := hi.1
  rw [List.getElem?_set]
  by_cases e : i.toNat = k
  · subst e
    have e : ((i.toNat : Nat) : Int) = i := by omega
    rw [if_pos rfl, if_pos (by rw [h.1]; exact hk), e]
    cases b with
    | true => simp [hb.1 rfl]
    | false => have : i ∉ T' := fun hh => by cases hb.2 hh
               simp [this]
  · rw [if_neg e, h.2 k hk]
    have : (k : Int) ≠ i := by omega
    simp [ho _ this]
theorem S_ref_InTime (hj : JsOk l) {start : Int} (s0 : 0 ≤ start) (s1 : start ≤ 1099511627776) {post : List Int → Prop} (hp : ∀ D, DueOf l D → post (inT l start D)) : V_taquinref43_InTime l start post := by
  unfold V_taquinref43_InTime
  have hl100 := hj.1
  refine S_ref_Due (by omega) fun D hD => ⟨⟨by omega, by omega⟩, ?_⟩
  have hDl := hD.len
  refine Jn.mk (fun f => Flg l f (mh l start D).1) (V_loopj (xs := D) (by unfold maxLen; omega) (fun t : List Bool × Int × Int => t.2.2) (fun i t => Flg l t.1 (mh l start (D.take i)).1 ∧ t.2.1 = (mh l start (D.take i)).2) rfl ⟨⟨by simp, fun k hk => by simp [mh, List.getElem?_replicate, hk]⟩, rfl⟩ (fun i x t hx ht hI => ?_) (fun t hI => ?_)) (fun f hf => ?_)
  · obtain ⟨f, e, k⟩ := t
    simp only at ht hI
    subst ht
    have hi := (List.getElem?_eq_some_iff.1 hx).1
    have eD : D = D.take i ++ x :: D.drop (i + 1) := by
      obtain ⟨h1, h2⟩ := List.getElem?_eq_some_iff.1 hx
      have h3 := List.take_append_drop i D
      rw [List.drop_eq_getElem_cons h1, h2] at h3
      exact h3.symm
    have hin : In l x := hD.mem.1 (List.mem_of_getElem? hx)
    have hsD := hD.2
    rw [eD] at hsD
    have hsT : Srt l (D.take i) := hsD.left
    have hDi : ∀ k, k ∈ D.take i → In l k := fun k hk => hD.mem.1 (List.mem_of_mem_take hk)
    have hm := MI.mh (l := l) (s := start) hsT (fun k hk => by have := (hj.at (hDi k hk)).w0; omega)
    have hlen := mh_len (l := l) (s := start) (D := D.take i)
    have hsn := mh_snoc (l := l) (s := start) (D := D.take i) (i := x)
    rw [← take_snoc hx] at hsn
    generalize hTe : mh l start (D.take i) = Te at hm hlen hsn hI
    obtain ⟨T, e'⟩ := Te
    obtain ⟨hF, he⟩ := hI
    simp only at hF he hlen
    subst he
    rw [List.length_take] at hlen
    have hso : T.Pairwise (wb l) := hm.so
    have hTin : AllIn l T := fun y hy => hDi y (hm.me y hy)
    have hxT : x ∉ T := fun h => bef.irr (hsD.mid x (hm.me x h) x (by simp))
    have hen : e = start + Wrk l T := hm.en
    have hW := Wrk_bd hj hTin
    have hjx := hj.at hin
    have a1 := hjx.w0; have a2 := hjx.w1; have a3 := hjx.d0; have a4 := hjx.d1
    obtain ⟨T1, T2, eT, h1, h2, hins⟩ := insW_split (l := l) hso hxT
    have ew : w64 (e + (jb l x).Work) = e + (jb l x).Work := w64_eq (by omega) (by omega)
    have hmem : ∀ k, k ∈ T1 ++ x :: T2 ↔ k = x ∨ k ∈ T := fun k => by rw [eT]; simp; constructor <;> (intro h; rcases h with h | h | h <;> simp [h])
    have hF1 : Flg l (f.set (Int.toNat x) true) (T1 ++ x :: T2) := hF.set hin (by simp) (fun k hk => by rw [hmem]; simp [hk])
    have hso1 : (T1 ++ x :: T2).Pairwise (wb l) := by
      rw [eT] at hso
      have g := List.pairwise_append.1 hso
      refine List.pairwise_append.2 ⟨g.1, List.pairwise_cons.2 ⟨h2, g.2.1⟩, fun y hy z hz => ?_⟩
      rcases List.mem_cons.1 hz with rfl | hz
      · exact h1 y hy
      · exact g.2.2 y hy z hz
    have hin1 : AllIn l (T1 ++ x :: T2) := fun k hk => by
      rcases (hmem k).1 hk with rfl | h
      · exact hin
      · exact hTin k h
    refine Jn.mk (fun r : List Bool × Int => Flg l r.1 (mh l start (D.take (i + 1))).1 ∧ r.2 = (mh l start (D.take (i + 1))).2) ⟨x, idx_of rfl hx, _, hF.at hin, _, jb_get hin.1 hin.2, ?_⟩ (fun r hr => ⟨rfl, hr⟩)
    simp only [ew]
    rw [hsn]
    refine Jn.mk (fun r : List Bool × Int => Flg l r.1 (mhS l (T, e) x).1 ∧ r.2 = (mhS l (T, e) x).2) (Ite.mk (fun hc => ?_) (fun hc => ?_)) (fun r hr => hr)
    · have hc : e + (jb l x).Work > (jb l x).Due := of_decide_eq_true hc
      have emh : mhS l (T, e) x = ((T1 ++ x :: T2).tail, e + (jb l x).Work - (jb l ((T1 ++ x :: T2).headD 0)).Work) := by unfold mhS; rw [if_pos hc]; simp only [hins]
      rw [emh]
      generalize hT' : T1 ++ x :: T2 = T' at *
      cases T' with
      | nil => simp at hT'
      | cons m R =>
        simp only [List.tail_cons, List.headD_cons]
        have hmi := hin1 m (by simp)
        have hjm := hj.at hmi
        have b1 := hjm.w0; have b2 := hjm.w1
        have hso2 := List.pairwise_cons.1 hso1
        have hmR : m ∉ R := fun h => by have := hso2.1 m h; unfold wb at this; omega
        refine Jn.mk (fun w => w = m) (Loop.mk (fun t : Int × Int => ∃ k : Nat, t.2 = (k : Int) ∧ k ≤ l.length ∧ ((t.1 = -1 ∧ ∀ j : Nat, j < k → (j : Int) ∉ m :: R) ∨ ∃ j : Nat, j < k ∧ t.1 = (j : Int) ∧ (j : Int) ∈ m :: R ∧ ∀ j' : Nat, j' < k → (j' : Int) ∈ m :: R → j' = j ∨ wb l (j : Int) (j' : Int))) (fun t => (l.length - t.2).toNat) ⟨0, rfl, by omega, .inl ⟨rfl, fun j hj => by omega⟩⟩ ?_) (fun w hw => ?_)
        · rintro ⟨w, q⟩ ⟨k, e2, hk, hor⟩
          simp only at e2 hor
          subst e2
          refine Ite.mk (fun hlt => ?_) (fun hge => ?_)
          · have hlt : (k : Int) < l.length := of_decide_eq_true hlt
            have hkin : In l (k : Int) := ⟨by omega, hlt⟩
            have ew1 : w64 ((k : Int) + 1) = ((k + 1 : Nat) : Int) := by rw [w64_s (by omega) (by omega)]; omega
            -- what the round takes
            have fin : ∀ w' : Int, ((w' = -1 ∧ ∀ j : Nat, j < k + 1 → (j : Int) ∉ m :: R) ∨ ∃ j : Nat, j < k + 1 ∧ w' = (j : Int) ∧ (j : Int) ∈ m :: R ∧ ∀ j' : Nat, j' < k + 1 → (j' : Int) ∈ m :: R → j' = j ∨ wb l (j : Int) (j' : Int)) →
                (∃ k' : Nat, w64 ((k : Int) + 1) = (k' : Int) ∧ k' ≤ l.length ∧ ((w' = -1 ∧ ∀ j : Nat, j < k' → (j : Int) ∉ m :: R) ∨ ∃ j : Nat, j < k' ∧ w' = (j : Int) ∧ (j : Int) ∈ m :: R ∧ ∀ j' : Nat, j' < k' → (j' : Int) ∈ m :: R → j' = j ∨ wb l (j : Int) (j' : Int))) ∧ ((l.length : Int) - w64 ((k : Int) + 1)).toNat < ((l.length : Int) - (k : Int)).toNat := fun w' h => ⟨⟨k + 1, ew1, by omega, h⟩, by rw [ew1]; omega⟩
            have stay : (k : Int) ∉ m :: R → ((w = -1 ∧ ∀ j : Nat, j < k + 1 → (j : Int) ∉ m :: R) ∨ ∃ j : Nat, j < k + 1 ∧ w = (j : Int) ∧ (j : Int) ∈ m :: R ∧ ∀ j' : Nat, j' < k + 1 → (j' : Int) ∈ m :: R → j' = j ∨ wb l (j : Int) (j' : Int)) := fun hk2 => by
              rcases hor with ⟨h3, h4⟩ | ⟨j, h3, h4, h5, h6⟩
              · refine .inl ⟨h3, fun j hj hjm => ?_⟩
                rcases Nat.lt_or_ge j k with h | h
                · exact h4 j h hjm
                · have : j = k := by omega
                  subst this; exact hk2 hjm
              · refine .inr ⟨j, by omega, h4, h5, fun j' hj' hm' => ?_⟩
                rcases Nat.lt_or_ge j' k with h | h
                · exact h6 j' h hm'
                · have : j' = k := by omega
                  subst this; exact absurd hm' hk2
            refine Jn.mk (fun b => ((if b = true then (k : Int) else w) = -1 ∧ ∀ j : Nat, j < k + 1 → (j : Int) ∉ m :: R) ∨ ∃ j : Nat, j < k + 1 ∧ (if b = true then (k : Int) else w) = (j : Int) ∧ (j : Int) ∈ m :: R ∧ ∀ j' : Nat, j' < k + 1 → (j' : Int) ∈ m :: R → j' = j ∨ wb l (j : Int) (j' : Int)) ⟨_, hF1.at hkin, Ite.mk (fun hin2 => ?_) (fun hout => ?_)⟩ (fun b hb => ?_)
            · have hkm : (k : Int) ∈ m :: R := of_decide_eq_true hin2
              refine Ite.mk (fun hneg => ?_) (fun hpos => ?_)
              · have hneg : w < 0 := of_decide_eq_true hneg
                rcases hor with ⟨h3, h4⟩ | ⟨j, h3, h4, h5, h6⟩
                · refine .inr ⟨k, by omega, rfl, hkm, fun j' hj' hm' => ?_⟩
                  rcases Nat.lt_or_ge j' k with h | h
                  · exact absurd hm' (h4 j' h)
                  · exact .inl (by omega)
                · omega
              · have hpos : ¬ w < 0 := of_decide_eq_false hpos
                rcases hor with ⟨h3, h4⟩ | ⟨j, h3, h4, h5, h6⟩
                · omega
                · subst h4
                  have hjin : In l (j : Int) := ⟨by omega, by omega⟩
                  have em : imax (j : Int) 0 = (j : Int) := by unfold imax; split <;> omega
                  refine ⟨_, jb_get hkin.1 hkin.2, _, by rw [em]; exact jb_get hjin.1 hjin.2, ?_⟩
                  by_cases hw2 : (jb l (k : Int)).Work ≥ (jb l (j : Int)).Work
                  · rw [decide_eq_true hw2]; simp only [if_true]
                    have hkj : wb l (k : Int) (j : Int) := by unfold wb; omega
                    refine .inr ⟨k, by omega, rfl, hkm, fun j' hj' hm' => ?_⟩
                    rcases Nat.lt_or_ge j' k with h | h
                    · rcases h6 j' h hm' with e3 | h7
                      · rw [e3]; exact .inr hkj
                      · exact .inr (hkj.trans h7)
                    · exact .inl (by omega)
                  · rw [decide_eq_false hw2]; simp only [Bool.false_eq_true, if_false]
                    refine .inr ⟨j, by omega, rfl, h5, fun j' hj' hm' => ?_⟩
                    rcases Nat.lt_or_ge j' k with h | h
                    · exact h6 j' h hm'
                    · have : j' = k := by omega
                      subst this
                      exact .inr (by unfold wb; omega)
            · simp only [Bool.false_eq_true, if_false]
              exact stay (of_decide_eq_false hout)
            · refine Jn.mk (fun w' => w' = if b = true then (k : Int) else w) (Ite.mk (fun h => by rw [if_pos h]) (fun h => by rw [if_neg (by simp [h])])) (fun w' hw' => ?_)
              subst hw'
              exact fin _ hb
          · have hge : ¬ (k : Int) < l.length := of_decide_eq_false hge
            have : k = l.length := by omega
            subst this
            have hmk : ((m.toNat : Nat) : Int) = m := by have := hmi.1; omega
            have hml : m.toNat < l.length := by have := hmi.1; have := hmi.2; omega
            show w = m
            rcases hor with ⟨h3, h4⟩ | ⟨j, h3, h4, h5, h6⟩
            · exact absurd (by rw [hmk]; simp) (h4 m.toNat hml)
            · rcases h6 m.toNat hml (by rw [hmk]; simp) with e3 | h7
              · rw [h4, ← e3, hmk]
              · rw [hmk] at h7
                rcases List.mem_cons.1 h5 with e4 | h8
                · rw [h4, e4]
                · have := hso2.1 _ h8
                  unfold wb at this h7; omega
        · subst hw
          refine ⟨_, hF1.at hmi, _, jb_get hmi.1 hmi.2, hF1.set hmi ?_ (fun k hk => by simp [hk]), ?_⟩
          · constructor
            · intro h; cases h
            · intro h; exact absurd h hmR
          · show w64 (e + (jb l x).Work - (jb l w).Work) = _
            exact w64_eq (by omega) (by omega)
    · have hc : ¬ e + (jb l x).Work > (jb l x).Due := of_decide_eq_false hc
      have emh : mhS l (T, e) x = (T1 ++ x :: T2, e + (jb l x).Work) := by unfold mhS; rw [if_neg (by simpa using hc)]; simp only [hins]
      rw [emh]
      exact ⟨hF1, rfl⟩
  · rw [List.take_length] at hI; exact hI.1
  · have hm := MI.mh (l := l) (s := start) hD.2 (fun k hk => by have := (hj.at (hD.mem.1 hk)).w0; omega)
    have hp := hp D hD
    unfold inT at hp
    generalize mh l start D = Te at hm hf hp
    have hTin : ∀ x, x ∈ Te.1 → In l x := fun x hx => hD.mem.1 (hm.me x hx)
    have e : Te.1.mergeSort (fun x y => decide (x ≤ y)) = (irg 0 l.length).filter (fun x => decide (x ∈ Te.1)) :=
      asc_sort (filt_perm (irg_nodup _ _) (wb_nodup hm.so) (fun x hx => mem_irg.2 (by have := hTin x hx; exact ⟨by have := this.1; omega, by have := this.2; omega⟩))) (List.Pairwise.sublist List.filter_sublist (irg_lt _ _))
    rw [e] at hp
    refine Jn.mk (fun x => x = (irg 0 l.length).filter (fun x => decide (x ∈ Te.1))) (Loop.mk (fun t : List Int × Int => ∃ i : Nat, t = ((irg 0 i).filter (fun x => decide (x ∈ Te.1)), (i : Int)) ∧ i ≤ l.length) (fun t => (l.length - t.2).toNat) ⟨0, rfl, by omega⟩ ?_) (fun x hx => by subst hx; exact hp)
    rintro t ⟨i, rfl, hi⟩
    refine Ite.mk (fun hlt => ?_) (fun hge => ?_)
    · have hlt : (i : Int) < l.length := of_decide_eq_true hlt
      have hin : In l (i : Int) := ⟨by omega, hlt⟩
      have ew1 : w64 ((i : Int) + 1) = ((i + 1 : Nat) : Int) := by rw [w64_s (by omega) (by omega)]; omega
      have hfl : ((irg 0 i).filter (fun x => decide (x ∈ Te.1))).length ≤ i := by have := List.length_filter_le (fun x => decide (x ∈ Te.1)) (irg 0 i); rwa [irg_len] at this
      refine ⟨_, hf.at hin, Jn.mk (fun y => y = (irg 0 (i + 1)).filter (fun x => decide (x ∈ Te.1))) (Ite.mk (fun h => ⟨by simp; omega, ?_⟩) (fun h => ?_)) (fun y hy => ?_)⟩
      · rw [irg_app, Nat.zero_add, irg_one, List.filter_append]; simp only [List.filter_cons, h, if_true, List.filter_nil]
      · show (irg 0 i).filter (fun x => decide (x ∈ Te.1)) = _
        rw [irg_app, Nat.zero_add, irg_one, List.filter_append]; simp only [List.filter_cons, h, List.filter_nil]; simp
      · subst hy
        refine ⟨⟨i + 1, by rw [ew1], by omega⟩, ?_⟩
        show ((l.length : Int) - w64 ((i : Int) + 1)).toNat < ((l.length : Int) - (i : Int)).toNat
        rw [ew1]; omega
    · have hge : ¬ (i : Int) < l.length := of_decide_eq_false hge
      have : i = l.length := by omega
      subst this; rfl
end
end Go.Taq
