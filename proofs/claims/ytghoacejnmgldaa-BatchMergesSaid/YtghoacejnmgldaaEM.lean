/- The mathematics, part EM: BatchMerges (chapter 43). -/
import Derived.Test.YtghoacejnmgldaaEK
set_option linter.unusedVariables false
set_option linter.unusedSimpArgs false
set_option maxRecDepth 100000
set_option maxHeartbeats 1000000
namespace Go.Taq
open Go

section
variable {l : List ApiJob} {D : List Int}
theorem bat_perm (hD : DueOf l D) {shs : List Int} (h1 : ∀ s, s ∈ shs ↔ ∃ k, k ∈ D ∧ shv l k = s) (h2 : shs.Nodup) : (shs.map (grp l D)).flatten.Perm D := by
  refine (List.perm_ext_iff_of_nodup ?_ hD.nodup).2 fun x => ?_
  · show List.Pairwise (· ≠ ·) _
    rw [List.pairwise_flatten]
    refine ⟨fun y hy => ?_, ?_⟩
    · obtain ⟨s, _, rfl⟩ := List.mem_map.1 hy
      exact hD.nodup.sublist List.filter_sublist
    · rw [List.pairwise_map]
      refine h2.imp fun {a b} hab x hx y hy e => ?_
      subst e
      exact hab ((grp_mem.1 hx).2.symm.trans (grp_mem.1 hy).2)
  · rw [List.mem_flatten]
    constructor
    · rintro ⟨y, hy, hx⟩
      obtain ⟨s, _, rfl⟩ := List.mem_map.1 hy
      exact (grp_mem.1 hx).1
    · intro hx
      exact ⟨grp l D (shv l x), List.mem_map.2 ⟨_, (h1 _).2 ⟨x, hx, rfl⟩, rfl⟩, grp_mem.2 ⟨hx, rfl⟩⟩
theorem grp_head (hD : DueOf l D) {s i : Int} (hi : i ∈ grp l D s) : (jb l (hdG l D s)).Due ≤ (jb l i).Due := by
  obtain ⟨r, e, _, _⟩ := grp_ne ⟨i, grp_mem.1 hi⟩
  have hs : Srt l (grp l D s) := List.Pairwise.sublist List.filter_sublist hD.2
  rw [e] at hs hi
  rcases List.mem_cons.1 hi with e | hi
  · rw [← e]; exact Int.le_refl _
  · exact ((List.pairwise_cons.1 hs).1 i hi).due
theorem Wrk_irg : ∀ {n : Nat}, Wrk l (irg 0 (n + 1)) = Wrk l (irg 0 n) + (jb l (n : Int)).Work := by
  intro n; rw [irg_app, Nat.zero_add, irg_one, Wrk_app, Wrk_cons, Wrk_nil]; omega
theorem Said_taquinlaw43_BatchMerges (l : List ApiJob) (kl : OkL OkApiJob l) (setup : Int) (ks : I64 setup) : V_taquinlaw43_BatchMerges l setup (fun y => y = true) := by
  unfold V_taquinlaw43_BatchMerges
  refine S_law43_small (Jn.mk (fun b => b = false → Fa l 0 ∧ 0 ≤ setup ∧ setup ≤ 1000000) (S_fair (fun hf => Ite.t rfl (Ite.mk (fun _ h => by cases h) (fun h1 h2 => ?_))) (fun _ => Ite.f rfl (fun h => by cases h))) (fun b hb => Ite.mk (fun _ => rfl) (fun h => ?_)))
  · have h1 : ¬ setup < 0 := of_decide_eq_false h1
    have h2 := of_decide_eq_false h2
    exact ⟨hf, by omega, by omega⟩
  obtain ⟨hf, u0, u1⟩ := hb h
  have hn := hf.n
  have hj := hf.j
  refine S_batches hj fun D ys hD hB => S_merge hj u0 u1 fun D' ys' hD' hB' => ?_
  have := hD'.uniq hD; subst this
  have := hB'.uniq hB; subst this
  have hyl := hB.len hD
  have hDl := hD.len
  have hat := fun (y : List Int) (hy : y ∈ ys') => hB.at hD hy
  obtain ⟨shs, eys, h1, h2⟩ := hB
  have hmn := kb_nodup h2
  have hperm := bat_perm hD h1 hmn
  rw [← eys] at hperm
  have hfl : ys'.flatten.length = l.length := by rw [hperm.length_eq, hDl]
  have get : ∀ (i : Nat) y, ys'[i]? = some y → ∃ s, shs[i]? = some s ∧ y = grp l D' s := fun i y hy => by
    rw [eys, List.getElem?_map] at hy
    obtain ⟨s, hs, e⟩ := Option.map_eq_some_iff.1 hy
    exact ⟨s, hs, e.symm⟩
  have flen : ∀ i, ((ys'.take i).flatten).length ≤ l.length := fun i => by
    have e : ys'.flatten = (ys'.take i).flatten ++ (ys'.drop i).flatten := by rw [← List.flatten_append, List.take_append_drop]
    have := congrArg List.length e
    rw [hfl, List.length_append] at this; omega
  have fin : ∀ i, AllIn l (ys'.take i).flatten := fun i k hk => by
    obtain ⟨y, hy, hky⟩ := List.mem_flatten.1 hk
    obtain ⟨_, _, _, h3, _⟩ := hat y (List.mem_of_mem_take hy)
    exact h3 k hky
  refine Ite.f (by simp) (Jn.mk (fun x : List Int × Int => x = (ys'.flatten, setup * ys'.length + Wrk l ys'.flatten))
    (Loop.mk (fun t : List (List Int) × List Int × Int × Int => ∃ i : Nat, t = (ys', (ys'.take i).flatten, setup * ((ys'.take i).length : Int) + Wrk l (ys'.take i).flatten, (i : Int)) ∧ i ≤ ys'.length) (fun t => (ys'.length - t.2.2.2).toNat) ⟨0, by simp [Wrk], by omega⟩ ?_) ?_)
  · rintro t ⟨i, rfl, hi⟩
    refine Ite.mk (fun hlt => ?_) (fun hge => ?_)
    · have hlt : (i : Int) < ys'.length := of_decide_eq_true hlt
      have hy : ys'[i]? = some (ys'[i]'(by omega)) := List.getElem?_eq_getElem _
      generalize ys'[i]'_ = y at hy
      obtain ⟨s, hs, ey⟩ := get i y hy
      have hsm := List.mem_of_getElem? hs
      obtain ⟨r, eg, hgd, hgs⟩ := grp_ne ((h1 s).1 hsm)
      obtain ⟨i0, r0, ei0, hyin, hylen⟩ := hat y (List.mem_of_getElem? hy)
      have hset : ys'.set (Int.toNat (i : Int)) y = ys' := set_idx (idx_of rfl hy)
      have hidx : idx ys' (i : Int) = some y := idx_of rfl hy
      have hm : idx (ys'.map (mrg l setup)) (i : Int) = some (mrg l setup y) := idx_of rfl (by rw [List.getElem?_map, hy]; rfl)
      have hms : (mrg l setup y).Shelf = s := by show shv l (y.headD 0) = s; rw [ey]; exact hgs
      have hmd : (mrg l setup y).Due = (jb l (hdG l D' s)).Due := by rw [ey]; rfl
      refine Jn.mk (fun q => q = (ys', (ys'.take (i + 1)).flatten, setup * ((ys'.take (i + 1)).length : Int) + Wrk l (ys'.take (i + 1)).flatten)) ⟨y, hidx, Ite.f (by rw [ei0]; simp; omega) (Jn.mk (fun q => q = ys') (Loop.mk (fun t : List (List Int) × Int => ∃ k : Nat, t = (ys', (k : Int)) ∧ k ≤ y.length) (fun t => (y.length - t.2).toNat) ⟨0, by rw [hset]; rfl, by omega⟩ ?_) ?_)⟩ (fun q hq => ?_)
      · rintro t ⟨k, rfl, hk⟩
        refine ⟨y, hidx, Ite.mk (fun hkl => ?_) (fun hkg => ?_)⟩
        · have hkl : (k : Int) < y.length := of_decide_eq_true hkl
          have hj2 : y[k]? = some (y[k]'(by omega)) := List.getElem?_eq_getElem _
          generalize y[k]'_ = j at hj2
          have hjm := List.mem_of_getElem? hj2
          have hjin := hyin j hjm
          have hjg : j ∈ grp l D' s := by rw [← ey]; exact hjm
          have ew : w64 ((k : Int) + 1) = ((k + 1 : Nat) : Int) := by rw [w64_s (by omega) (by omega)]; omega
          refine ⟨j, idx_of rfl hj2, Jn.eq false (Ite.f (decide_eq_false (by have := hjin.1; omega)) (decide_eq_false (by have := hjin.2; omega))) (Ite.f rfl (Jn.eq false ⟨_, jb_get hjin.1 hjin.2, _, hm, Ite.f ?_ (Ite.f ?_ (Ite.mk (fun h0 => ?_) (fun _ => rfl)))⟩ (Ite.f rfl ⟨⟨k + 1, ?_, by omega⟩, ?_⟩)))⟩
          · rw [hms]; have := (grp_mem.1 hjg).2; unfold shv at this; simp [this]
          · rw [hmd]; exact decide_eq_false (by have := grp_head hD hjg; omega)
          · have h0 : k = 0 := by have : (k : Int) = 0 := by simpa using h0
                                  omega
            subst h0
            have : j = hdG l D' s := by
              rw [ey, eg] at hj2; simp at hj2; exact hj2.symm
            rw [hmd, this]; simp
          · show ((ys'.set (Int.toNat (i : Int)) y).set (Int.toNat (i : Int)) y, w64 ((k : Int) + 1)) = _
            rw [hset, hset, ew]
          · show ((y.length : Int) - w64 ((k : Int) + 1)).toNat < ((y.length : Int) - (k : Int)).toNat
            rw [ew]; omega
        · exact hset
      · intro q hq
        subst hq
        have fl := flen i
        refine ⟨y, hidx, by show (q.take i).flatten.length + y.length ≤ _; omega, _, hm, Jn.mk (fun _ => True) (Loop.mk (fun t : Int => ∃ k : Nat, t = (k : Int) ∧ k ≤ i) (fun t => ((i : Int) - t).toNat) ⟨0, rfl, by omega⟩ ?_) (fun _ _ => ?_)⟩
        · rintro t ⟨k, rfl, hk⟩
          refine Ite.mk (fun hkl => ?_) (fun hkg => trivial)
          have hkl : (k : Int) < i := of_decide_eq_true hkl
          have hz : q[k]? = some (q[k]'(by omega)) := List.getElem?_eq_getElem _
          generalize q[k]'_ = z at hz
          obtain ⟨u, hu, ez⟩ := get k z hz
          obtain ⟨r2, eg2, hgd2, hgs2⟩ := grp_ne ((h1 u).1 (List.mem_of_getElem? hu))
          have hmz : idx (q.map (mrg l setup)) (k : Int) = some (mrg l setup z) := idx_of rfl (by rw [List.getElem?_map, hz]; rfl)
          have hzs : (mrg l setup z).Shelf = u := by show shv l (z.headD 0) = u; rw [ez]; exact hgs2
          have hzd : (mrg l setup z).Due = (jb l (hdG l D' u)).Due := by rw [ez]; rfl
          have hkb : kb l D' u s := by
            obtain ⟨b1, c1⟩ := List.getElem?_eq_some_iff.1 hu
            obtain ⟨b2, c2⟩ := List.getElem?_eq_some_iff.1 hs
            have := (List.pairwise_iff_getElem.1 h2) k i b1 b2 (by omega)
            rwa [c1, c2] at this
          have hus : u ≠ s := fun e => by subst e; exact kb_asym _ _ hkb hkb
          unfold kb at hkb
          have ew : w64 ((k : Int) + 1) = ((k + 1 : Nat) : Int) := by rw [w64_s (by omega) (by omega)]; omega
          refine Jn.eq false ⟨_, hmz, _, hm, Ite.f (by rw [hzs, hms]; simpa using hus) (Ite.f (by rw [hzd, hmd]; exact decide_eq_false (by omega)) (Ite.mk (fun h0 => ?_) (fun _ => rfl)))⟩ (Ite.f rfl ⟨⟨k + 1, ew, by omega⟩, ?_⟩)
          · have h0 : (mrg l setup z).Due = (mrg l setup y).Due := by simpa using h0
            rw [hzd, hmd] at h0
            rw [hzs, hms]; exact decide_eq_false (by omega)
          · show ((i : Int) - w64 ((k : Int) + 1)).toNat < ((i : Int) - (k : Int)).toNat
            rw [ew]; omega
        · refine S_batch_Due (by omega) fun D2 hD2 => ?_
          have := hD2.uniq hD; subst this
          refine S_some (by omega) (by omega) (S_sameE ?_ (by omega) (Ite.f rfl ?_))
          · rw [ey]
            exact List.filter_congr fun x hx => by simp [grp_mem, hx]
          · have hw1 := Wrk_bd hj (fin i)
            have hw2 := Wrk_bd hj hyin
            have hle : (q.take i).length = i := by rw [List.length_take]; omega
            have hmul : setup * (i : Int) ≤ 1000000 * 60 := Int.mul_le_mul u1 (by omega) (by omega) (by omega)
            have hmul0 : 0 ≤ setup * (i : Int) := Int.mul_nonneg u0 (by omega)
            have ew : w64 (setup * ((q.take i).length : Int) + Wrk l (q.take i).flatten + (setup + Wrk l y)) = setup * ((q.take i).length : Int) + Wrk l (q.take i).flatten + (setup + Wrk l y) := by rw [hle]; exact w64_eq (by omega) (by omega)
            show (((q.set (Int.toNat (i : Int)) y).set (Int.toNat (i : Int)) y), (q.take i).flatten ++ y, w64 (setup * ((q.take i).length : Int) + Wrk l (q.take i).flatten + (setup + Wrk l y))) = _
            rw [hset, hset, ew, take_snoc hy, List.flatten_append, List.length_append, Wrk_app]
            have e1 : setup * (((q.take i).length + [y].length : Nat) : Int) = setup * ((q.take i).length : Int) + setup := by simp [Int.mul_add]
            rw [e1]
            simp; omega
      · subst hq
        have ew : w64 ((i : Int) + 1) = ((i + 1 : Nat) : Int) := by rw [w64_s (by omega) (by omega)]; omega
        refine ⟨⟨i + 1, by rw [ew], by omega⟩, ?_⟩
        show ((ys'.length : Int) - w64 ((i : Int) + 1)).toNat < ((ys'.length : Int) - (i : Int)).toNat
        rw [ew]; omega
    · have hge : ¬ (i : Int) < ys'.length := of_decide_eq_false hge
      have : i = ys'.length := by omega
      subst this
      show ((ys'.take ys'.length).flatten, _) = _
      rw [List.take_length]
  · rintro x rfl
    have hmul : setup * (ys'.length : Int) ≤ 1000000 * 60 := Int.mul_le_mul u1 (by omega) (by omega) (by omega)
    have hmul0 : 0 ≤ setup * (ys'.length : Int) := Int.mul_nonneg u0 (by omega)
    have ew : w64 (setup * (ys'.length : Int)) = setup * ys'.length := w64_eq (by omega) (by omega)
    rw [ew]
    refine Jn.mk (fun q => q = setup * ys'.length + Wrk l (irg 0 l.length)) (Loop.mk (fun t : Int × Int => ∃ i : Nat, t = (setup * ys'.length + Wrk l (irg 0 i), (i : Int)) ∧ i ≤ l.length) (fun t => (l.length - t.2).toNat) ⟨0, by simp [irg, Wrk], by omega⟩ ?_) (fun q hq => ?_)
    · rintro t ⟨i, rfl, hi⟩
      refine Ite.mk (fun hlt => ?_) (fun hge => ?_)
      · have hlt : (i : Int) < l.length := of_decide_eq_true hlt
        have hin : In l (i : Int) := ⟨by omega, hlt⟩
        have hji := hj.at hin
        have a1 := hji.w0; have a2 := hji.w1
        have hw := Wrk_bd hj (ks := irg 0 i) (fun k hk => by have := mem_irg.1 hk; exact ⟨by omega, by omega⟩)
        rw [irg_len] at hw
        have ew1 : w64 ((i : Int) + 1) = ((i + 1 : Nat) : Int) := by rw [w64_s (by omega) (by omega)]; omega
        have ew2 : w64 (setup * (ys'.length : Int) + Wrk l (irg 0 i) + (jb l (i : Int)).Work) = setup * ys'.length + Wrk l (irg 0 (i + 1)) := by rw [w64_eq (by omega) (by omega), Wrk_irg]; omega
        refine ⟨_, jb_get hin.1 hin.2, ⟨i + 1, ?_, by omega⟩, ?_⟩
        · show (w64 (setup * (ys'.length : Int) + Wrk l (irg 0 i) + (jb l (i : Int)).Work), w64 ((i : Int) + 1)) = _
          rw [ew1, ew2]
        · show ((l.length : Int) - w64 ((i : Int) + 1)).toNat < ((l.length : Int) - (i : Int)).toNat
          rw [ew1]; omega
      · have hge : ¬ (i : Int) < l.length := of_decide_eq_false hge
        have : i = l.length := by omega
        subst this; rfl
    · subst hq
      have hwh : WholeO l ys'.flatten := ⟨hperm.nodup_iff.2 hD.nodup, fun k hk => hD.mem.1 (hperm.mem_iff.1 hk), hfl⟩
      refine Jn.eq true (Ite.t rfl (S_whole (by omega) rfl (by unfold maxLen; show ys'.flatten.length ≤ _; omega) (fun _ => Ite.t rfl ?_) (fun h => absurd hwh h))) rfl
      show (setup * (ys'.length : Int) + Wrk l ys'.flatten == setup * (ys'.length : Int) + Wrk l (irg 0 l.length)) = true
      rw [Wrk_perm (hperm.trans hD.1)]; simp
end
end Go.Taq
