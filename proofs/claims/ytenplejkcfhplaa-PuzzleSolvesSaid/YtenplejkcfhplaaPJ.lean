/- The mathematics of the puzzle, part J: the table of distances. -/
import Derived.Test.YtenplejkcfhplaaPH
import Derived.Test.YtenplejkcfhplaaPI
set_option linter.unusedVariables false
set_option linter.unusedSimpArgs false
namespace Go.Taq
open Go
/-- the number of layouts -/
def nL (n k : Nat) : Nat := n * ch (n - 1) (k - 1)
/-- the layouts from which one shift leads to one -/
def preT (f : ApiFloor) (r : List Int) (n k : Nat) (i : Nat) : List Nat := (btw f r (unrank n k i) false).map fun s => rank n k (doL (unrank n k i) s.To.toNat s.From.toNat)
def srcT (n k : Nat) (goal : Int) (i : Nat) : Bool := decide ((unrank n k i).Target = goal)
/-- a shift that may have led to a layout -/
theorem back_ok {f : ApiFloor} {r : List Int} {l : ApiLayout} {full : Bool} {s : ApiShift} (h : s ∈ btw f r l full) : ∃ a b : Nat, s = { From := (a : Int), To := (b : Int) } ∧ l.Full[a]? = some full ∧ l.Full[b]? = some (!full) ∧ getsB f (r.getD a 0) (r.getD b 0) = true := by
  obtain ⟨a, b, _, _, rfl, h1⟩ := mem_btw.1 h
  unfold btP at h1
  simp only [Bool.and_eq_true, decide_eq_true_eq] at h1
  exact ⟨a, b, rfl, h1.1, h1.2.1, h1.2.2⟩
section
variable {f : ApiFloor} {r : List Int} {n k : Nat} (h1 : 1 ≤ k) (h2 : k ≤ n) (h3 : n ≤ 12)
include h1 h2 h3
omit h3 in
theorem preT_lt : ∀ j, j < nL n k → ∀ i, i ∈ preT f r n k j → i < nL n k := fun j hj i hi => by
  unfold preT at hi
  obtain ⟨s, hs, rfl⟩ := List.mem_map.1 hi
  obtain ⟨a, b, rfl, ha, hb, _⟩ := back_ok hs
  exact ((unrank_ok h1 h2 hj).1.doL hb ha).rank_lt
omit h1 h2 h3 in
theorem btw_len {l : ApiLayout} {full : Bool} (hl : l.Full.length ≤ 12) : (btw f r l full).length ≤ 144 := by
  unfold btw
  have key : ∀ m, ((List.range m).flatMap fun i => btR f r l full i l.Full.length).length ≤ m * 12 := by
    intro m
    induction m with
    | zero => simp
    | succ m ih =>
      rw [List.range_succ, List.flatMap_append, List.length_append]
      have := btR_len (f := f) (r := r) (l := l) (full := full) (i := m) (m := l.Full.length)
      simp only [List.flatMap_cons, List.flatMap_nil, List.append_nil]
      omega
  have := key l.Full.length
  omega
/-- the distances of all layouts -/
theorem S_Table (hf : RF f) (hr : r.length = n) (ha : Asc r) {goal : Int} (hg : 0 ≤ goal ∧ goal < n) {post : List Int × Int → Prop} (hp : ∀ t, TOk (nL n k) (preT f r n k) (srcT n k goal) t → post (t, 0)) : V_puzzle_Table f r (k : Int) goal post := by
  unfold V_puzzle_Table
  have hcl : nL n k ≤ 49152 := count_le (k := k) h3
  refine Ite.f (by simp; omega) (Jn.mk (fun b => b = false) (Ite.f (by simp; omega) (Ite.f (by simp; omega) (Ite.f (by simp; omega) (by simp; omega)))) (fun b e => Ite.f e ?_))
  rw [hr]
  refine S_Count h1 h2 h3 ?_
  have hnL : ((n * ch (n - 1) (k - 1) : Nat) : Int) = ((nL n k : Nat) : Int) := rfl
  rw [hnL]
  refine ⟨⟨by omega, by omega⟩, ?_⟩
  simp only [Int.toNat_natCast, List.length_replicate]
  have hpl := preT_lt (f := f) (r := r) h1 h2
  refine Jn.mk (fun t => t = (iO (nL n k) (srcT n k goal) (nL n k), (iQ (srcT n k goal) (nL n k)).map fun i => ((i : Nat) : Int)))
    (Loop.inv (nL n k) (fun i (s : List Int × List Int × Int) => s.2.2 = (i : Int) ∧ s.1 = iO (nL n k) (srcT n k goal) i ∧ s.2.1 = (iQ (srcT n k goal) i).map fun i => ((i : Nat) : Int)) ⟨rfl, iO_zero.symm, rfl⟩ (fun i s hi hI => ?_) (fun s hI => ?_)) (fun t e => ?_)
  · obtain ⟨o, q, c⟩ := s
    obtain ⟨rfl, rfl, rfl⟩ := hI
    have hol : (iO (nL n k) (srcT n k goal) i).length = nL n k := iO_len
    have hql := iQ_len (src := srcT n k goal) (i := i)
    refine Ite.lt (by show (i : Int) < (nL n k : Nat); omega) ⟨_, idx_of rfl (gT_get (by rw [hol]; exact hi)), S_Unrank h1 h2 h3 hi ?_⟩
    have hs2 : iO (nL n k) (srcT n k goal) (i + 1) = (iO (nL n k) (srcT n k goal) i).set i (if srcT n k goal i = true then 0 else -1) := iO_succ hi
    refine Jn.mk (fun t => t = (iO (nL n k) (srcT n k goal) (i + 1), (iQ (srcT n k goal) (i + 1)).map fun i => ((i : Nat) : Int))) (Ite.mk (fun e => ?_) (fun e => ?_)) (fun t e => ⟨w64_1 (by omega), by rw [e], by rw [e]⟩)
    · have es : srcT n k goal i = true := by unfold srcT; simpa using e
      unfold V_puzzle_Table_1__p0_p2
      refine ⟨-1, idx_of rfl (by simp only [Int.toNat_natCast]; rw [List.getElem?_set, if_pos rfl, if_pos (by rw [hol]; exact hi)]), Jn.mk' (Ite.t (by simp) ⟨by simp only [List.length_cons, List.length_nil, List.length_map]; omega, ?_⟩)⟩
      show (((iO (nL n k) (srcT n k goal) i).set (Int.toNat (i : Int)) (-1)).set (Int.toNat (i : Int)) 0, _) = _
      rw [Int.toNat_natCast, List.set_set, hs2, if_pos es, iQ_succ, if_pos es, List.map_append]; rfl
    · have es : ¬ srcT n k goal i = true := by unfold srcT; simpa using e
      show ((iO (nL n k) (srcT n k goal) i).set (Int.toNat (i : Int)) (-1), _) = _
      rw [Int.toNat_natCast, hs2, if_neg es, iQ_succ, if_neg es, List.append_nil]
  · obtain ⟨o, q, c⟩ := s
    obtain ⟨rfl, rfl, rfl⟩ := hI
    exact Ite.nlt (by show ¬ ((nL n k : Nat) : Int) < (nL n k : Nat); omega) rfl
  · subst e
    have hin : Bf (nL n k) (preT f r n k) (srcT n k goal) (iO (nL n k) (srcT n k goal) (nL n k)) (iQ (srcT n k goal) (nL n k)) := Bf.init
    have hct : (iO (nL n k) (srcT n k goal) (nL n k)).count (-1) + (iQ (srcT n k goal) (nL n k)).length ≤ 100000 := by
      have a1 : (iO (nL n k) (srcT n k goal) (nL n k)).count (-1) ≤ nL n k := Nat.le_trans List.count_le_length (by rw [iO_len]; omega)
      have a2 := iQ_len (src := srcT n k goal) (i := nL n k)
      omega
    generalize iO (nL n k) (srcT n k goal) (nL n k) = out0 at hin hct
    generalize iQ (srcT n k goal) (nL n k) = q0 at hin hct
    refine Jn.mk (fun t => TOk (nL n k) (preT f r n k) (srcT n k goal) t) (Loop.mk (fun (s : List Int × List Int) => ∃ q : List Nat, s.2 = q.map (fun i => ((i : Nat) : Int)) ∧ Bf (nL n k) (preT f r n k) (srcT n k goal) s.1 q ∧ s.1.count (-1) + q.length ≤ 100000) (fun s => s.1.count (-1) + s.2.length) ⟨q0, rfl, hin, hct⟩ (fun s hI => ?_)) (fun t ht => hp t ht)
    obtain ⟨out, qi⟩ := s
    obtain ⟨q, rfl, hB, hct⟩ := hI
    replace hB : Bf (nL n k) (preT f r n k) (srcT n k goal) out q := hB
    replace hct : out.count (-1) + q.length ≤ 100000 := hct
    match q, hB, hct with
    | [], hB, hct => exact Ite.f (by simp) (hB.ok hpl)
    | x :: q, hB, hct =>
      simp only [List.length_cons] at hct
      have hx := (hB.qu x (by simp)).1
      have hM := hB.pop
      have hxl : x < out.length := by rw [hB.ol]; exact hx
      refine Ite.t (by simp) (Jn.mk (fun (t : List Int × List Int) => ∃ q' : List Nat, t.2 = q'.map (fun i => ((i : Nat) : Int)) ∧ BfM (nL n k) (preT f r n k) (srcT n k goal) t.1 q' x [] ∧ t.1.count (-1) + q'.length = out.count (-1) + q.length)
        ⟨(x : Int), rfl, ⟨by omega, by simp only [List.length_map, List.length_cons]; omega, by omega⟩, S_Unrank h1 h2 h3 hx ?_⟩ (fun t ht => ?_))
      · obtain ⟨hu, _⟩ := unrank_ok h1 h2 hx
        unfold V_layout_Backs
        refine S_shifts hf (by rw [hr, hu.len]) (by rw [hu.len]; omega) ha ?_
        have hbl := btw_len (f := f) (r := r) (l := unrank n k x) (full := false) (by rw [hu.len]; omega)
        have hbk : ∀ s, s ∈ btw f r (unrank n k x) false → ∃ a b : Nat, s = { From := (a : Int), To := (b : Int) } ∧ (unrank n k x).Full[a]? = some false ∧ (unrank n k x).Full[b]? = some true := fun s hs => by
          obtain ⟨a, b, e1, e2, e3, _⟩ := back_ok hs
          exact ⟨a, b, e1, e2, by simpa using e3⟩
        have hpre : preT f r n k x = (btw f r (unrank n k x) false).map fun s => rank n k (doL (unrank n k x) s.To.toNat s.From.toNat) := rfl
        rw [hpre] at hM
        generalize btw f r (unrank n k x) false = bs at hM hbl hbk
        have hsub : sub ((x :: q).map fun i => ((i : Nat) : Int)) 1 (((x :: q).map fun i => ((i : Nat) : Int)).length : Int) = q.map fun i => ((i : Nat) : Int) := by
          simp only [sub, List.map_cons, List.length_cons, List.length_map]
          show List.take _ (List.drop 1 _) = _
          rw [List.drop_succ_cons, List.drop_zero, List.take_of_length_le (by simp)]
        simp only [hsub]
        refine Jn.mk (fun (t : List Int × List Int) => ∃ q' : List Nat, t.2 = q'.map (fun i => ((i : Nat) : Int)) ∧ BfM (nL n k) (preT f r n k) (srcT n k goal) t.1 q' x [] ∧ t.1.count (-1) + q'.length = out.count (-1) + q.length)
          (Loop.inv bs.length (fun j (s : List Int × List Int × Int) => s.2.2 = (j : Int) ∧ ∃ q' : List Nat, s.2.1 = q'.map (fun i => ((i : Nat) : Int)) ∧ BfM (nL n k) (preT f r n k) (srcT n k goal) s.1 q' x ((bs.drop j).map fun s => rank n k (doL (unrank n k x) s.To.toNat s.From.toNat)) ∧ s.1.count (-1) + q'.length = out.count (-1) + q.length)
            ⟨rfl, q, rfl, by simpa using hM, rfl⟩ (fun j s hj hJ => ?_) (fun s hJ => ?_)) (fun t ht => ht)
        · obtain ⟨o2, qi2, c⟩ := s
          obtain ⟨rfl, q2, rfl, hM2, hc2⟩ := hJ
          replace hM2 : BfM (nL n k) (preT f r n k) (srcT n k goal) o2 q2 x ((bs.drop j).map fun s => rank n k (doL (unrank n k x) s.To.toNat s.From.toNat)) := hM2
          replace hc2 : o2.count (-1) + q2.length = out.count (-1) + q.length := hc2
          have hbj : bs[j]? = some (bs[j]'hj) := List.getElem?_eq_getElem hj
          rw [List.drop_eq_getElem_cons hj, List.map_cons] at hM2
          obtain ⟨a, b, e1, e2, e3⟩ := hbk _ (List.mem_of_getElem? hbj)
          rw [e1] at hM2 hbj
          simp only [Int.toNat_natCast] at hM2
          have hd := hu.doL e3 e2
          obtain ⟨s1, s2, s3⟩ := hM2.step hpl
          have hol2 : o2.length = nL n k := hM2.ol
          have hrl : rank n k (doL (unrank n k x) b a) < nL n k := hd.rank_lt
          refine Ite.lt (by show (j : Int) < _; omega) ⟨_, idx_of rfl hbj, S_Do e3 e2 (by rw [hu.len]; omega) ⟨gT o2 x, idx_of rfl (gT_get (by rw [hol2]; exact hx)), S_Rank h1 h2 h3 hd ?_⟩⟩
          have hgq : gT o2 x ≤ 100000 := by have := hM2.bd x hx; omega
          have w : w64 (gT o2 x + 1) = gT o2 x + 1 := by have := hM2.q0; rw [w64_eq (by omega) (by omega)]
          unfold V_puzzle_Table_1__p0_p2
          simp only [w, Int.toNat_natCast]
          refine ⟨_, idx_of rfl (gT_get (by rw [hol2]; exact hrl)), Jn.mk' (Ite.mk (fun e => ⟨by simp only [List.length_cons, List.length_nil, List.length_map]; omega, ?_⟩) (fun e => ?_))⟩
          · have e' : gT o2 (rank n k (doL (unrank n k x) b a)) < 0 := by simpa using e
            simp only [rO, rQ, if_pos e'] at s1 s3
            have s4 : (o2.set (rank n k (doL (unrank n k x) b a)) (gT o2 x + 1)).count (-1) + (q2 ++ [rank n k (doL (unrank n k x) b a)]).length = out.count (-1) + q.length := by omega
            exact ⟨w64_1 (by omega), _, by simp, s1, s4⟩
          · have e' : ¬ gT o2 (rank n k (doL (unrank n k x) b a)) < 0 := by simpa using e
            simp only [rO, rQ, if_neg e'] at s1 s3
            exact ⟨w64_1 (by omega), _, rfl, s1, hc2⟩
        · obtain ⟨o2, qi2, c⟩ := s
          obtain ⟨rfl, q2, rfl, hM2, hc2⟩ := hJ
          refine Ite.nlt (by show ¬ (bs.length : Int) < _; omega) ⟨q2, rfl, by simpa using hM2, hc2⟩
      · obtain ⟨q', e1, hM', hc'⟩ := ht
        have hfin : t.1.count (-1) + q'.length ≤ 100000 := by omega
        refine ⟨⟨q', e1, hM'.fin hpl, hfin⟩, ?_⟩
        show t.1.count (-1) + t.2.length < out.count (-1) + ((x :: q).map fun i => ((i : Nat) : Int)).length
        rw [e1]
        simp only [List.length_map, List.length_cons]; omega
end
end Go.Taq
