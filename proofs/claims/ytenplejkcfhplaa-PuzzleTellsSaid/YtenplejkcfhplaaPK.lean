/- The mathematics of the puzzle, part K: the reference's table. -/
import Derived.Test.YtenplejkcfhplaaPJ
set_option linter.unusedVariables false
namespace Go.Taq
open Go
section
variable {f : ApiFloor} {r : List Int} {n k : Nat} (h1 : 1 ≤ k) (h2 : k ≤ n) (h3 : n ≤ 12)
include h1 h2 h3
/-- the distances of all layouts -/
theorem S_rTable (hf : RF f) (hr : r.length = n) (ha : Asc r) {goal : Int} (hg : 0 ≤ goal ∧ goal < n) {post : List Int × Int → Prop} (hp : ∀ t, TOk (nL n k) (preT f r n k) (srcT n k goal) t → post (t, 0)) : V_taquinref26_Table f r (k : Int) goal post := by
  unfold V_taquinref26_Table
  have hcl : nL n k ≤ 49152 := count_le (k := k) h3
  refine Ite.f (by simp; omega) (Jn.mk (fun b => b = false) (Ite.f (by simp; omega) (Ite.f (by simp; omega) (Ite.f (by simp; omega) (by simp; omega)))) (fun b e => Ite.f e ?_))
  rw [hr]
  refine S_rCount h1 h2 h3 ?_
  have hnL : ((n * ch (n - 1) (k - 1) : Nat) : Int) = ((nL n k : Nat) : Int) := rfl
  rw [hnL]
  refine ⟨⟨by omega, by omega⟩, ?_⟩
  simp only [Int.toNat_natCast, List.length_replicate]
  have hpl := preT_lt (f := f) (r := r) h1 h2
  refine Jn.mk (fun t => t = (iO (nL n k) (srcT n k goal) (nL n k), (iQ (srcT n k goal) (nL n k)).map fun i => ((i : Nat) : Int)))
    (Loop.inv (nL n k) (fun i (s : List Int × List Int × Int) => s.2.2 = (i : Int) ∧ s.1 = iO (nL n k) (srcT n k goal) i ∧ s.2.1 = (iQ (srcT n k goal) i).map fun i => ((i : Nat) : Int)) ⟨rfl, iO_zero.symm, rfl⟩ (fun i s hi hI => ?_) (fun s hI => ?_)) (fun t e => ?_)
  · obtain ⟨o, q, c⟩ := s
    obtain ⟨rfl, rfl, rfl⟩ := hI
    have hol : (iO (nL n k) (srcT n k goal) i).length = nL n k := iO_len
    have hql := iQ_len (src := srcT n k goal) (i := i)
    refine Ite.lt (by show (i : Int) < ((iO (nL n k) (srcT n k goal) i).length : Nat); omega) (S_rUnrank h1 h2 h3 hi ⟨_, idx_of rfl (gT_get (by rw [hol]; exact hi)), ?_⟩)
    have hs2 : iO (nL n k) (srcT n k goal) (i + 1) = (iO (nL n k) (srcT n k goal) i).set i (if srcT n k goal i = true then 0 else -1) := iO_succ hi
    refine Jn.mk (fun t => t = (iO (nL n k) (srcT n k goal) (i + 1), (iQ (srcT n k goal) (i + 1)).map fun i => ((i : Nat) : Int))) (Ite.mk (fun e => ?_) (fun e => ?_)) (fun t e => ⟨w64_1 (by omega), by rw [e], by rw [e]⟩)
    · have es : srcT n k goal i = true := by unfold srcT; simpa using e
      refine ⟨by simp only [List.length_cons, List.length_nil, List.length_map]; omega, ?_⟩
      show (((iO (nL n k) (srcT n k goal) i).set (Int.toNat (i : Int)) (-1)).set (Int.toNat (i : Int)) 0, _) = _
      rw [Int.toNat_natCast, List.set_set, hs2, if_pos es, iQ_succ, if_pos es, List.map_append]; rfl
    · have es : ¬ srcT n k goal i = true := by unfold srcT; simpa using e
      show ((iO (nL n k) (srcT n k goal) i).set (Int.toNat (i : Int)) (-1), _) = _
      rw [Int.toNat_natCast, hs2, if_neg es, iQ_succ, if_neg es, List.append_nil]
  · obtain ⟨o, q, c⟩ := s
    obtain ⟨rfl, rfl, rfl⟩ := hI
    exact Ite.nlt (by show ¬ ((nL n k : Nat) : Int) < ((iO (nL n k) (srcT n k goal) (nL n k)).length : Nat); rw [iO_len]; omega) rfl
  · subst e
    have hin : Bf (nL n k) (preT f r n k) (srcT n k goal) (iO (nL n k) (srcT n k goal) (nL n k)) (iQ (srcT n k goal) (nL n k)) := Bf.init
    have hct : (iO (nL n k) (srcT n k goal) (nL n k)).count (-1) + (iQ (srcT n k goal) (nL n k)).length ≤ 100000 := by
      have a1 : (iO (nL n k) (srcT n k goal) (nL n k)).count (-1) ≤ nL n k := Nat.le_trans List.count_le_length (by rw [iO_len]; omega)
      have a2 := iQ_len (src := srcT n k goal) (i := nL n k)
      omega
    generalize iO (nL n k) (srcT n k goal) (nL n k) = out0 at hin hct
    generalize iQ (srcT n k goal) (nL n k) = q0 at hin hct
    refine Jn.mk (fun t => TOk (nL n k) (preT f r n k) (srcT n k goal) t) (Loop.mk (fun (s : List Int × List Int × Int) => ∃ (q : List Nat) (i : Nat), s.2.1 = q.map (fun i => ((i : Nat) : Int)) ∧ s.2.2 = (i : Int) ∧ i ≤ q.length ∧ Bf (nL n k) (preT f r n k) (srcT n k goal) s.1 (q.drop i) ∧ s.1.count (-1) + q.length ≤ 100000) (fun s => s.1.count (-1) + (s.2.1.length - s.2.2.toNat)) ⟨q0, 0, rfl, rfl, Nat.zero_le _, by rw [List.drop_zero]; exact hin, hct⟩ (fun s hI => ?_)) (fun t ht => hp t ht)
    obtain ⟨out, qi, ii⟩ := s
    obtain ⟨q, i, rfl, rfl, hiq, hB, hct⟩ := hI
    replace hB : Bf (nL n k) (preT f r n k) (srcT n k goal) out (q.drop i) := hB
    replace hct : out.count (-1) + q.length ≤ 100000 := hct
    rcases Nat.lt_or_ge i q.length with hlt | hge
    · have hqd : q.drop i = q[i]'hlt :: q.drop (i + 1) := List.drop_eq_getElem_cons hlt
      have hqi : q[i]? = some (q[i]'hlt) := List.getElem?_eq_getElem hlt
      generalize q[i]'hlt = x at hqd hqi
      rw [hqd] at hB
      have hx := (hB.qu x (by simp)).1
      have hM := hB.pop
      have hxl : x < out.length := by rw [hB.ol]; exact hx
      refine Ite.lt (by show (i : Int) < _; rw [List.length_map]; omega) (Jn.mk (fun (t : List Int × List Int) => ∃ q' : List Nat, t.2 = q'.map (fun i => ((i : Nat) : Int)) ∧ i < q'.length ∧ BfM (nL n k) (preT f r n k) (srcT n k goal) t.1 (q'.drop (i + 1)) x [] ∧ t.1.count (-1) + q'.length = out.count (-1) + q.length)
        ⟨(x : Int), idx_of rfl (by rw [List.getElem?_map, hqi]; rfl), S_rUnrank h1 h2 h3 hx ?_⟩ (fun t ht => ?_))
      · obtain ⟨hu, _⟩ := unrank_ok h1 h2 hx
        unfold V_taquinref25_Backs
        refine S_between hf (by rw [hr, hu.len]) (by rw [hu.len]; omega) ?_
        have hbl := btw_len (f := f) (r := r) (l := unrank n k x) (full := false) (by rw [hu.len]; omega)
        have hbk : ∀ s, s ∈ btw f r (unrank n k x) false → ∃ a b : Nat, s = { From := (a : Int), To := (b : Int) } ∧ (unrank n k x).Full[a]? = some false ∧ (unrank n k x).Full[b]? = some true := fun s hs => by
          obtain ⟨a, b, e1, e2, e3, _⟩ := back_ok hs
          exact ⟨a, b, e1, e2, by simpa using e3⟩
        have hpre : preT f r n k x = (btw f r (unrank n k x) false).map fun s => rank n k (doL (unrank n k x) s.To.toNat s.From.toNat) := rfl
        rw [hpre] at hM
        generalize btw f r (unrank n k x) false = bs at hM hbl hbk
        refine Jn.mk (fun (t : List Int × List Int) => ∃ q' : List Nat, t.2 = q'.map (fun i => ((i : Nat) : Int)) ∧ i < q'.length ∧ BfM (nL n k) (preT f r n k) (srcT n k goal) t.1 (q'.drop (i + 1)) x [] ∧ t.1.count (-1) + q'.length = out.count (-1) + q.length)
          (Loop.inv bs.length (fun j (s : List Int × List Int × Int) => s.2.2 = (j : Int) ∧ ∃ q' : List Nat, s.2.1 = q'.map (fun i => ((i : Nat) : Int)) ∧ q'[i]? = some x ∧ BfM (nL n k) (preT f r n k) (srcT n k goal) s.1 (q'.drop (i + 1)) x ((bs.drop j).map fun s => rank n k (doL (unrank n k x) s.To.toNat s.From.toNat)) ∧ s.1.count (-1) + q'.length = out.count (-1) + q.length)
            ⟨rfl, q, rfl, hqi, by simpa using hM, rfl⟩ (fun j s hj hJ => ?_) (fun s hJ => ?_)) (fun t ht => ht)
        · obtain ⟨o2, qi2, c⟩ := s
          obtain ⟨rfl, q2, rfl, hqx, hM2, hc2⟩ := hJ
          replace hM2 : BfM (nL n k) (preT f r n k) (srcT n k goal) o2 (q2.drop (i + 1)) x ((bs.drop j).map fun s => rank n k (doL (unrank n k x) s.To.toNat s.From.toNat)) := hM2
          replace hc2 : o2.count (-1) + q2.length = out.count (-1) + q.length := hc2
          have hil := (List.getElem?_eq_some_iff.1 hqx).1
          have hbj : bs[j]? = some (bs[j]'hj) := List.getElem?_eq_getElem hj
          rw [List.drop_eq_getElem_cons hj, List.map_cons] at hM2
          obtain ⟨a, b, e1, e2, e3⟩ := hbk _ (List.mem_of_getElem? hbj)
          rw [e1] at hM2 hbj
          simp only [Int.toNat_natCast] at hM2
          have hd := hu.doL e3 e2
          obtain ⟨s1, s2, s3⟩ := hM2.step hpl
          have hol2 : o2.length = nL n k := hM2.ol
          have hrl : rank n k (doL (unrank n k x) b a) < nL n k := hd.rank_lt
          refine Ite.lt (by show (j : Int) < _; omega) (Jn.mk (fun (t : List Bool × Int) => t = ((doL (unrank n k x) b a).Full, (doL (unrank n k x) b a).Target)) ⟨_, idx_of rfl hbj, S_rDo e3 e2 (by rw [hu.len]; omega) rfl⟩ (fun t e => ?_))
          subst e
          refine S_rRank h1 h2 h3 (l := doL (unrank n k x) b a) hd ⟨_, idx_of rfl (gT_get (by rw [hol2]; exact hrl)), ?_⟩
          have hgq : gT o2 x ≤ 100000 := by have := hM2.bd x hx; omega
          have w : w64 (gT o2 x + 1) = gT o2 x + 1 := by have := hM2.q0; rw [w64_eq (by omega) (by omega)]
          refine Jn.mk (fun (t : List Int × List Int) => ∃ q' : List Nat, t.2 = q'.map (fun i => ((i : Nat) : Int)) ∧ q'[i]? = some x ∧ BfM (nL n k) (preT f r n k) (srcT n k goal) t.1 (q'.drop (i + 1)) x ((bs.drop (j + 1)).map fun s => rank n k (doL (unrank n k x) s.To.toNat s.From.toNat)) ∧ t.1.count (-1) + q'.length = out.count (-1) + q.length)
            (Ite.mk (fun e => ⟨(x : Int), idx_of rfl (by rw [List.getElem?_map, hqx]; rfl), gT o2 x, idx_of rfl (gT_get (by rw [hol2]; exact hx)), by simp only [List.length_cons, List.length_nil, List.length_map]; omega, ?_⟩) (fun e => ?_)) (fun t ht => ⟨w64_1 (by omega), ht⟩)
          · have e' : gT o2 (rank n k (doL (unrank n k x) b a)) < 0 := by simpa using e
            simp only [rO, rQ, if_pos e'] at s1 s3
            have s4 : (o2.set (rank n k (doL (unrank n k x) b a)) (gT o2 x + 1)).count (-1) + (q2 ++ [rank n k (doL (unrank n k x) b a)]).length = out.count (-1) + q.length := by
              simp only [List.length_append, List.length_drop, List.length_cons, List.length_nil] at s3 ⊢; omega
            simp only [w, Int.toNat_natCast]
            exact ⟨q2 ++ [rank n k (doL (unrank n k x) b a)], by simp, by rw [List.getElem?_append_left hil]; exact hqx, by rw [List.drop_append_of_le_length (by omega)]; exact s1, s4⟩
          · have e' : ¬ gT o2 (rank n k (doL (unrank n k x) b a)) < 0 := by simpa using e
            simp only [rO, rQ, if_neg e'] at s1 s3
            exact ⟨q2, rfl, hqx, s1, hc2⟩
        · obtain ⟨o2, qi2, c⟩ := s
          obtain ⟨rfl, q2, rfl, hqx, hM2, hc2⟩ := hJ
          refine Ite.nlt (by show ¬ (bs.length : Int) < _; omega) ⟨q2, rfl, (List.getElem?_eq_some_iff.1 hqx).1, by simpa using hM2, hc2⟩
      · obtain ⟨q', e1, hil, hM', hc'⟩ := ht
        have hfin : t.1.count (-1) + q'.length ≤ 100000 := by omega
        refine ⟨⟨q', i + 1, e1, w64_1 (by omega), hil, hM'.fin hpl, hfin⟩, ?_⟩
        show t.1.count (-1) + (t.2.length - (w64 ((i : Int) + 1)).toNat) < out.count (-1) + ((q.map fun i => ((i : Nat) : Int)).length - (i : Int).toNat)
        rw [e1, w64_1 (by omega)]
        simp only [List.length_map, Int.toNat_natCast]; omega
    · rw [List.drop_of_length_le hge] at hB
      exact Ite.nlt (by show ¬ (i : Int) < _; rw [List.length_map]; omega) (hB.ok hpl)
end
end Go.Taq
