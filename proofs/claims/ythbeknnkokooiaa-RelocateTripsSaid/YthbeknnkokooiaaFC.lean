/- The mathematics, several parts in one text. -/
import Derived.Test.YthbeknnkokooiaaQA
import Derived.Test.YthbeknnkokooiaaVc
import Derived.IntWalk
/- The mathematics, part AR: slices.Repeat of one number. -/
set_option linter.unusedVariables false
set_option linter.unusedSimpArgs false
namespace Go.Taq
open Go

theorem wu64 {x : Int} (h0 : 0 ≤ x) (h1 : x < 18446744073709551616) : IntKind.wrap .u64 x = x := by
  show x % 18446744073709551616 = x; omega
theorem band32 {n : Int} (h0 : 0 ≤ n) (h1 : n < 4294967296) : band .u64 n 4294967295 = n := by
  obtain ⟨m, rfl⟩ := Int.eq_ofNat_of_zero_le h0
  have hm : m < 4294967296 := by omega
  unfold band
  have e : (BitVec.ofInt IntKind.u64.bits (m : Int) &&& BitVec.ofInt IntKind.u64.bits 4294967295).toNat = m := by
    show (BitVec.ofInt 64 (m : Int) &&& BitVec.ofInt 64 4294967295).toNat = m
    rw [BitVec.toNat_and]
    have e1 : (BitVec.ofInt 64 (m : Int)).toNat = m := by
      rw [BitVec.toNat_ofInt]
      have : ((m : Int) % ((2 ^ 64 : Nat) : Int)) = m := by omega
      rw [this]; simp
    have e2 : (BitVec.ofInt 64 4294967295).toNat = 2 ^ 32 - 1 := by decide
    rw [e1, e2, Nat.and_two_pow_sub_one_eq_mod]
    omega
  rw [e]
  exact wu64 h0 (by omega)
theorem shr32 {n : Int} (h0 : 0 ≤ n) (h1 : n < 4294967296) : shrI .u64 n 32 = 0 := by
  show n.fdiv (2 ^ (min (32 : Int).toNat IntKind.u64.bits)) = 0
  have : (2 : Int) ^ (min (32 : Int).toNat IntKind.u64.bits) = 4294967296 := by decide
  rw [this, Int.fdiv_eq_ediv_of_nonneg _ (by decide)]
  omega
theorem S_bits_Mul1 {n : Nat} (hn : n < 4294967296) {post : Int × Int → Prop} (hp : post (0, (n : Int))) : V_math_bits_Mul 1 (n : Int) post := by
  unfold V_math_bits_Mul V_math_bits_Mul64
  have a1 := shr32 (n := 1) (by decide) (by decide)
  have a2 := shr32 (n := (n : Int)) (by omega) (by omega)
  have a3 := band32 (n := 1) (by decide) (by decide)
  have a4 := band32 (n := (n : Int)) (by omega) (by omega)
  rw [a1, a2, a3, a4]
  simp only [Int.zero_mul, Int.mul_zero, Int.one_mul, Int.zero_add, Int.add_zero]
  rw [wu64 (x := (n : Int)) (by omega) (by omega), wu64 (x := 0) (by decide) (by decide)]
  have z : shrI .u64 0 32 = 0 := shr32 (by decide) (by decide)
  have b0 : band .u64 0 4294967295 = 0 := band32 (by decide) (by decide)
  simp only [a2, z, b0, Int.zero_add, Int.add_zero, wu64 (x := 0) (by decide) (by decide)]
  exact hp
theorem S_slices_Repeat1 {x : Int} {n : Nat} (hn : n ≤ 1000000) {post : List Int → Prop} (hp : post (List.replicate n x)) : V_slices_Repeat_int_int [x] (n : Int) post := by
  unfold V_slices_Repeat_int_int
  refine Ite.f (by simp) ?_
  have e1 : IntKind.wrap .u64 ((([x] : List Int).length : Nat) : Int) = 1 := wu64 (by simp) (by simp)
  have e2 : IntKind.wrap .u64 (n : Int) = n := wu64 (by omega) (by omega)
  rw [e1, e2]
  refine S_bits_Mul1 (by omega) (Jor2 (Ite.f (by simp; omega) ?_))
  have e3 : IntKind.wrap .i64 (n : Int) = n := w64_eq (by omega) (by omega)
  simp only [e3]
  refine ⟨⟨by omega, by omega⟩, ?_⟩
  have tn : ((n : Int)).toNat = n := by omega
  simp only [tn, List.length_replicate, List.length_singleton, List.take_zero, List.nil_append, Nat.zero_add]
  refine Jn.mk (fun l => l = List.replicate n x) (Loop.mk (fun t : List Int × Int => t.1.length = n ∧ ∃ k : Nat, t.2 = (k : Int) ∧ k ≤ n ∧ (n = 0 ∨ 1 ≤ k) ∧ t.1.take k = List.replicate k x) (fun t => n - t.2.toNat) ?_ ?_) (fun l hl => hl ▸ hp)
  · refine ⟨by simp; omega, min 1 n, by (first | (simp; done) | (simp; omega)), by omega, by omega, ?_⟩
    cases n with
    | zero => simp
    | succ m =>
      have : min 1 (m + 1) = 1 := by omega
      rw [this]; simp
  · rintro ⟨l, t⟩ ⟨hl, k, ht, hk, h0, htk⟩
    simp only at hl ht htk
    subst ht
    refine Ite.mk (fun h => ?_) (fun h => ?_)
    · have hlt : k < n := by simp [hl] at h; omega
      have t1 : ((k : Int)).toNat = k := by omega
      have t2 : ((k : Int) - 0).toNat = k := by omega
      have t3 : ((l.length : Int) - (k : Int)).toNat = n - k := by omega
      simp only [t1, t2, t3]
      have d0 : l.drop (Int.toNat 0) = l := by simp
      rw [d0, htk]
      simp only [List.length_replicate, List.take_replicate]
      refine ⟨⟨by omega, by omega, by omega⟩, ⟨by omega, by omega, by omega⟩, by omega, by omega, ⟨?_, k + min k (n - k), ?_, by omega, by omega, ?_⟩, ?_⟩
      · simp [hl]; omega
      · rw [w64_eq (by omega) (by omega)]; (first | (simp; done) | (simp; omega))
      · rw [← List.append_assoc, List.take_append_of_le_length (by simp)]
        rw [List.take_of_length_le (by simp)]
        rw [List.replicate_append_replicate]; congr 1; omega
      · rw [w64_eq (by omega) (by omega)]; omega
    · have hlt : ¬ k < n := by simp [hl] at h; omega
      have : k = n := by omega
      subst this
      show l = _
      rw [← htk, List.take_of_length_le (by omega)]
end Go.Taq

/- The mathematics of the patterns, part FA: the tables of the layer, and of the reference. -/
set_option linter.unusedVariables false
set_option linter.unusedSimpArgs false
namespace Go.Taq
open Go
/-- the table before the search: what is at the goal has the distance 0 -/
def iM (N : Nat) (src : Nat → Bool) (i : Nat) : List Int := (List.range N).map fun j => if j < i ∧ src j = true then 0 else -1
section
variable {N : Nat} {src : Nat → Bool}
theorem iM_len {i : Nat} : (iM N src i).length = N := by simp [iM]
theorem iM_get {i j : Nat} (h : j < N) : gT (iM N src i) j = if j < i ∧ src j = true then 0 else -1 := by
  unfold gT iM
  rw [List.getD_eq_getElem?_getD, List.getElem?_map, List.getElem?_range h]; rfl
theorem iM_zero : iM N src 0 = List.replicate N (-1) := by
  refine gT_ext (by simp [iM]) (fun i hi => ?_)
  rw [iM_len] at hi
  rw [iM_get hi, if_neg (by omega)]
  unfold gT; rw [List.getD_eq_getElem?_getD, List.getElem?_replicate, if_pos hi]; rfl
theorem iM_succ {i : Nat} (h : i < N) : iM N src (i + 1) = if src i = true then (iM N src i).set i 0 else iM N src i := by
  by_cases hs : src i = true
  · rw [if_pos hs]
    refine gT_ext (by simp [iM]) (fun j hj => ?_)
    rw [iM_len] at hj
    rw [iM_get hj, gT_set (by rw [iM_len]; exact h), iM_get hj]
    by_cases e : i = j
    · subst e; rw [if_pos rfl, if_pos ⟨by omega, hs⟩]
    · rw [if_neg e]
      by_cases e2 : j < i ∧ src j = true
      · rw [if_pos e2, if_pos ⟨by omega, e2.2⟩]
      · rw [if_neg e2, if_neg (fun h => e2 ⟨by omega, h.2⟩)]
  · rw [if_neg hs]
    refine gT_ext (by simp [iM]) (fun j hj => ?_)
    rw [iM_len] at hj
    rw [iM_get hj, iM_get hj]
    by_cases e2 : j < i ∧ src j = true
    · rw [if_pos e2, if_pos ⟨by omega, e2.2⟩]
    · rw [if_neg e2, if_neg]
      rintro ⟨h1, h2⟩
      by_cases e : j = i
      · subst e; exact hs h2
      · exact e2 ⟨by omega, h2⟩
theorem iM_all : iM N src N = iO N src N := by
  refine gT_ext (by simp [iM, iO]) (fun j hj => ?_)
  rw [iM_len] at hj
  rw [iM_get hj, iO_get hj, if_pos hj]
  by_cases e : src j = true
  · rw [if_pos ⟨hj, e⟩, if_pos e]
  · rw [if_neg (fun h => e h.2), if_neg e]
end
theorem btw_len24 {f : ApiFloor} {r : List Int} {l : ApiLayout} {full : Bool} (hl : l.Full.length ≤ 24) : (btw f r l full).length ≤ 576 := by
  unfold btw
  have key : ∀ m, ((List.range m).flatMap fun i => btR f r l full i l.Full.length).length ≤ m * 24 := by
    intro m
    induction m with
    | zero => simp
    | succ m ih =>
      rw [List.range_succ, List.flatMap_append, List.length_append]
      have := btR_len (f := f) (r := r) (l := l) (full := full) (i := m) (m := l.Full.length)
      simp only [List.flatMap_cons, List.flatMap_nil, List.append_nil]
      omega
  have := key l.Full.length
  omega
section
variable {f : ApiFloor} {r : List Int} {n k : Nat} (h1 : 1 ≤ k) (h2 : k ≤ n) (h3 : n ≤ 24) (hcl : nL n k ≤ 20000)
include h1 h2 h3 hcl
/-- the layer's table -/
theorem S_ptable (hf : RF f) (hr : r.length = n) (ha : Asc r) {goal : Int} {post : List Int → Prop} (hp : ∀ t, TOk (nL n k) (preT f r n k) (srcT n k goal) t → post t) : V_pattern_table f r (k : Int) goal post := by
  unfold V_pattern_table
  rw [hr]
  refine S_Count h1 h2 (by omega) ?_
  have hnL : ((n * ch (n - 1) (k - 1) : Nat) : Int) = ((nL n k : Nat) : Int) := rfl
  rw [hnL]
  refine S_slices_Repeat1 (by omega) ?_
  simp only [List.length_replicate]
  have hpl := preT_lt (f := f) (r := r) h1 h2
  refine Jn.mk (fun t => t = (iO (nL n k) (srcT n k goal) (nL n k), (iQ (srcT n k goal) (nL n k)).map fun i => ((i : Nat) : Int)))
    (Loop.inv (nL n k) (fun i (s : List Int × List Int × Int) => s.2.2 = (i : Int) ∧ s.1 = iM (nL n k) (srcT n k goal) i ∧ s.2.1 = (iQ (srcT n k goal) i).map fun i => ((i : Nat) : Int)) ⟨rfl, iM_zero.symm, rfl⟩ (fun i s hi hI => ?_) (fun s hI => ?_)) (fun t e => ?_)
  · obtain ⟨o, q, c⟩ := s
    obtain ⟨rfl, rfl, rfl⟩ := hI
    have hol : (iM (nL n k) (srcT n k goal) i).length = nL n k := iM_len
    have hql := iQ_len (src := srcT n k goal) (i := i)
    refine Ite.lt (by show (i : Int) < (nL n k : Nat); omega) (S_Unrank h1 h2 (by omega) hi ?_)
    have hs2 : iM (nL n k) (srcT n k goal) (i + 1) = if srcT n k goal i = true then (iM (nL n k) (srcT n k goal) i).set i 0 else iM (nL n k) (srcT n k goal) i := iM_succ hi
    refine Jn.mk (fun t => t = (iM (nL n k) (srcT n k goal) (i + 1), (iQ (srcT n k goal) (i + 1)).map fun i => ((i : Nat) : Int))) (Ite.mk (fun e => ?_) (fun e => ?_)) (fun t e => ⟨w64_1 (by omega), by rw [e], by rw [e]⟩)
    · have es : srcT n k goal i = true := by unfold srcT; simpa using e
      refine ⟨_, idx_of rfl (gT_get (by rw [hol]; exact hi)), by simp only [List.length_cons, List.length_nil, List.length_map]; omega, ?_⟩
      show ((iM (nL n k) (srcT n k goal) i).set (Int.toNat (i : Int)) 0, _) = _
      rw [Int.toNat_natCast, hs2, if_pos es, iQ_succ, if_pos es, List.map_append]; rfl
    · have es : ¬ srcT n k goal i = true := by unfold srcT; simpa using e
      show (iM (nL n k) (srcT n k goal) i, _) = _
      rw [hs2, if_neg es, iQ_succ, if_neg es, List.append_nil]
  · obtain ⟨o, q, c⟩ := s
    obtain ⟨rfl, rfl, rfl⟩ := hI
    refine Ite.nlt (by show ¬ ((nL n k : Nat) : Int) < (nL n k : Nat); omega) ?_
    show (iM (nL n k) (srcT n k goal) (nL n k), _) = _
    rw [iM_all]
  · subst e
    have hin : Bf (nL n k) (preT f r n k) (srcT n k goal) (iO (nL n k) (srcT n k goal) (nL n k)) (iQ (srcT n k goal) (nL n k)) := Bf.init
    have hct : (iO (nL n k) (srcT n k goal) (nL n k)).count (-1) + (iQ (srcT n k goal) (nL n k)).length ≤ 100000 := by
      have a1 : (iO (nL n k) (srcT n k goal) (nL n k)).count (-1) ≤ nL n k := Nat.le_trans List.count_le_length (by rw [iO_len]; omega)
      have a2 := iQ_len (src := srcT n k goal) (i := nL n k)
      omega
    generalize iO (nL n k) (srcT n k goal) (nL n k) = out0 at hin hct
    generalize iQ (srcT n k goal) (nL n k) = q0 at hin hct
    refine Jn.mk (fun t => TOk (nL n k) (preT f r n k) (srcT n k goal) t) (Loop.mk (fun (s : List Int × List Int) => ∃ q : List Nat, s.2 = q.map (fun i => ((i : Nat) : Int)) ∧ Bf (nL n k) (preT f r n k) (srcT n k goal) s.1 q ∧ s.1.count (-1) + q.length ≤ 100000) (fun s => s.1.count (-1) + s.2.length) ⟨q0, rfl, hin, hct⟩ (fun s hI => ?_)) (fun t ht => hp t ht)
    obtain ⟨out, qi⟩ := s
    obtain ⟨q, rfl, hB, hct⟩ := hI
    replace hB : Bf (nL n k) (preT f r n k) (srcT n k goal) out q := hB
    replace hct : out.count (-1) + q.length ≤ 100000 := hct
    match q, hB, hct with
    | [], hB, hct => exact Ite.f (by simp) (hB.ok hpl)
    | x :: q, hB, hct =>
      simp only [List.length_cons] at hct
      have hx := (hB.qu x (by simp)).1
      have hM := hB.pop
      have hxl : x < out.length := by rw [hB.ol]; exact hx
      refine Ite.t (by simp) (Jn.mk (fun (t : List Int × List Int) => ∃ q' : List Nat, t.2 = (x :: q').map (fun i => ((i : Nat) : Int)) ∧ BfM (nL n k) (preT f r n k) (srcT n k goal) t.1 q' x [] ∧ t.1.count (-1) + q'.length = out.count (-1) + q.length)
        ⟨(x : Int), rfl, S_Unrank h1 h2 (by omega) hx ?_⟩ (fun t ht => ?_))
      · obtain ⟨hu, _⟩ := unrank_ok h1 h2 hx
        unfold V_layout_Backs
        refine S_shifts hf (by rw [hr, hu.len]) (by rw [hu.len]; omega) ha ?_
        have hbl := btw_len24 (f := f) (r := r) (l := unrank n k x) (full := false) (by rw [hu.len]; omega)
        have hbk : ∀ s, s ∈ btw f r (unrank n k x) false → ∃ a b : Nat, s = { From := (a : Int), To := (b : Int) } ∧ (unrank n k x).Full[a]? = some false ∧ (unrank n k x).Full[b]? = some true := fun s hs => by
          obtain ⟨a, b, e1, e2, e3, _⟩ := back_ok hs
          exact ⟨a, b, e1, e2, by simpa using e3⟩
        have hpre : preT f r n k x = (btw f r (unrank n k x) false).map fun s => rank n k (doL (unrank n k x) s.To.toNat s.From.toNat) := rfl
        rw [hpre] at hM
        generalize btw f r (unrank n k x) false = bs at hM hbl hbk
        refine Jn.mk (fun (t : List Int × List Int) => ∃ q' : List Nat, t.2 = (x :: q').map (fun i => ((i : Nat) : Int)) ∧ BfM (nL n k) (preT f r n k) (srcT n k goal) t.1 q' x [] ∧ t.1.count (-1) + q'.length = out.count (-1) + q.length)
          (Loop.inv bs.length (fun j (s : List Int × List Int × Int) => s.2.2 = (j : Int) ∧ ∃ q' : List Nat, s.2.1 = (x :: q').map (fun i => ((i : Nat) : Int)) ∧ BfM (nL n k) (preT f r n k) (srcT n k goal) s.1 q' x ((bs.drop j).map fun s => rank n k (doL (unrank n k x) s.To.toNat s.From.toNat)) ∧ s.1.count (-1) + q'.length = out.count (-1) + q.length)
            ⟨rfl, q, rfl, by simpa using hM, rfl⟩ (fun j s hj hJ => ?_) (fun s hJ => ?_)) (fun t ht => ht)
        · obtain ⟨o2, qi2, c⟩ := s
          obtain ⟨rfl, q2, rfl, hM2, hc2⟩ := hJ
          replace hM2 : BfM (nL n k) (preT f r n k) (srcT n k goal) o2 q2 x ((bs.drop j).map fun s => rank n k (doL (unrank n k x) s.To.toNat s.From.toNat)) := hM2
          replace hc2 : o2.count (-1) + q2.length = out.count (-1) + q.length := hc2
          have hbj : bs[j]? = some (bs[j]'hj) := List.getElem?_eq_getElem hj
          rw [List.drop_eq_getElem_cons hj, List.map_cons] at hM2
          obtain ⟨a, b, e1, e2, e3⟩ := hbk _ (List.mem_of_getElem? hbj)
          rw [e1] at hM2 hbj
          simp only [Int.toNat_natCast] at hM2
          have hd := hu.doL e3 e2
          obtain ⟨s1, s2, s3⟩ := hM2.step hpl
          have hol2 : o2.length = nL n k := hM2.ol
          have hrl : rank n k (doL (unrank n k x) b a) < nL n k := hd.rank_lt
          have hgq : gT o2 x ≤ 100000 := by have := hM2.bd x hx; omega
          have w : w64 (gT o2 x + 1) = gT o2 x + 1 := by have := hM2.q0; rw [w64_eq (by omega) (by omega)]
          refine Ite.lt (by show (j : Int) < _; omega) ⟨_, idx_of rfl hbj, S_Do e3 e2 (by rw [hu.len]; omega) (S_Rank h1 h2 (by omega) hd ⟨_, idx_of rfl (gT_get (by rw [hol2]; exact hrl)), ?_⟩)⟩
          refine Jn.mk (fun (t : List Int × List Int) => ∃ q' : List Nat, t.2 = (x :: q').map (fun i => ((i : Nat) : Int)) ∧ BfM (nL n k) (preT f r n k) (srcT n k goal) t.1 q' x ((bs.drop (j + 1)).map fun s => rank n k (doL (unrank n k x) s.To.toNat s.From.toNat)) ∧ t.1.count (-1) + q'.length = out.count (-1) + q.length)
            (Ite.mk (fun e => ⟨(x : Int), rfl, gT o2 x, idx_of rfl (gT_get (by rw [hol2]; exact hx)), by simp only [List.length_cons, List.length_nil, List.length_map]; omega, ?_⟩) (fun e => ?_)) (fun t ht => ⟨w64_1 (by omega), ht⟩)
          · have e' : gT o2 (rank n k (doL (unrank n k x) b a)) < 0 := by simpa using e
            simp only [rO, rQ, if_pos e'] at s1 s3
            have s4 : (o2.set (rank n k (doL (unrank n k x) b a)) (gT o2 x + 1)).count (-1) + (q2 ++ [rank n k (doL (unrank n k x) b a)]).length = out.count (-1) + q.length := by omega
            simp only [w, Int.toNat_natCast]
            exact ⟨q2 ++ [rank n k (doL (unrank n k x) b a)], by simp, s1, s4⟩
          · have e' : ¬ gT o2 (rank n k (doL (unrank n k x) b a)) < 0 := by simpa using e
            simp only [rO, rQ, if_neg e'] at s1 s3
            exact ⟨q2, rfl, s1, hc2⟩
        · obtain ⟨o2, qi2, c⟩ := s
          obtain ⟨rfl, q2, rfl, hM2, hc2⟩ := hJ
          refine Ite.nlt (by show ¬ (bs.length : Int) < _; omega) ⟨q2, rfl, by simpa using hM2, hc2⟩
      · obtain ⟨t1, t2⟩ := t
        obtain ⟨q', rfl, hM', hc'⟩ := ht
        have hM2 : BfM (nL n k) (preT f r n k) (srcT n k goal) t1 q' x [] := hM'
        have hc2 : t1.count (-1) + q'.length = out.count (-1) + q.length := hc'
        have hfin : t1.count (-1) + q'.length ≤ 100000 := by omega
        have hsub : sub ((x :: q').map fun i => ((i : Nat) : Int)) 1 (((x :: q').map fun i => ((i : Nat) : Int)).length : Int) = q'.map fun i => ((i : Nat) : Int) := by
          simp only [sub, List.map_cons, List.length_cons, List.length_map]
          show List.take _ (List.drop 1 _) = _
          rw [List.drop_succ_cons, List.drop_zero, List.take_of_length_le (by simp)]
        refine ⟨⟨by omega, by simp only [List.length_map, List.length_cons]; omega, by omega⟩, ?_⟩
        simp only [hsub]
        refine ⟨⟨q', rfl, hM2.fin hpl, hfin⟩, ?_⟩
        show t1.count (-1) + (q'.map fun i => ((i : Nat) : Int)).length < out.count (-1) + ((x :: q).map fun i => ((i : Nat) : Int)).length
        simp only [List.length_map, List.length_cons]; omega
end
end Go.Taq

/- The mathematics of the patterns, part FB: what is refused; Build, of the layer and of the reference. -/
set_option linter.unusedVariables false
set_option linter.unusedSimpArgs false
namespace Go.Taq
open Go
/-- the limits of the tables -/
def lim (n k : Nat) : Prop := n ≤ 24 ∧ ∀ j, j ≤ k → nL n (j + 1) ≤ 20000
/-- right tables -/
structure Db (f : ApiFloor) (r : List Int) (n K : Nat) (goal : Int) (ts : List (List Int)) : Prop where
  hr : r.length = n
  hK : K < n
  li : lim n K
  len : ts.length = K + 1
  tb : ∀ j, j ≤ K → TOk (nL n (j + 1)) (preT f r n (j + 1)) (srcT n (j + 1) goal) (ts.getD j [])
theorem Db.eq {f : ApiFloor} {r : List Int} {n K : Nat} {goal : Int} {ts us : List (List Int)} (h1 : Db f r n K goal ts) (h2 : Db f r n K goal us) : ts = us := by
  apply List.ext_getElem?
  intro j
  rcases Nat.lt_or_ge j (K + 1) with h | h
  · have e1 := (h1.tb j (by omega)).eq (h2.tb j (by omega))
    rw [List.getD_eq_getElem?_getD, List.getD_eq_getElem?_getD] at e1
    have a1 : ts[j]? = some (ts[j]'(by rw [h1.len]; omega)) := List.getElem?_eq_getElem _
    have a2 : us[j]? = some (us[j]'(by rw [h2.len]; omega)) := List.getElem?_eq_getElem _
    rw [a1, a2] at e1 ⊢
    simpa using e1
  · rw [List.getElem?_eq_none (by rw [h1.len]; omega), List.getElem?_eq_none (by rw [h2.len]; omega)]
section
variable {f : ApiFloor} {r : List Int} {n : Nat} {k goal : Int} (hf : RF f) (hr : r.length = n) (hn : n ≤ 1000000) (ha : Asc r)
include hf hr hn ha
theorem S_Build {post : (Sum (Unit × Int) (PatternDB × Int)) → Prop} (hE3 : ¬ (0 ≤ goal ∧ goal < n ∧ 0 ≤ k ∧ k < n) → post (.inl ((), 3))) (hE27 : 0 ≤ goal ∧ goal < n ∧ 0 ≤ k ∧ k < n → ¬ lim n k.toNat → post (.inl ((), 27)))
    (hO : ∀ K : Nat, k = (K : Int) → 0 ≤ goal → goal < n → ∀ ts, Db f r n K goal ts → post (.inr ({ cells := (n : Int), goal := goal, tables := ts }, 0))) : V_pattern_Build f r k goal post := by
  unfold V_pattern_Build
  rw [hr]
  by_cases c : 0 ≤ goal ∧ goal < n ∧ 0 ≤ k ∧ k < n
  · obtain ⟨K, rfl⟩ : ∃ K : Nat, k = (K : Int) := ⟨k.toNat, by omega⟩
    have hE := hE27 c
    simp only [Int.toNat_natCast] at hE
    have hKn : K < n := by omega
    have wK : w64 ((K : Int) + 1) = ((K + 1 : Nat) : Int) := by rw [w64_1 (by omega)]
    rw [wK]
    refine Jn.mk (fun b => b = false) (Ite.f (by simp; omega) (Ite.f (by simp; omega) (Ite.f (by simp) (by simp; omega)))) (fun b e => Ite.f e ?_)
    refine Jn.mk (fun _ => lim n K) (Loop.inv (K + 1) (fun i (s : Int) => s = (i : Int) ∧ (0 < i → n ≤ 24) ∧ ∀ j, j < i → nL n (j + 1) ≤ 20000) ⟨rfl, fun h => by omega, fun j h => by omega⟩ (fun i s hi hI => ?_) (fun s hI => ?_)) (fun _ hl => ?_)
    · obtain ⟨rfl, hi24, hI⟩ := hI
      refine Ite.lt (by omega) ?_
      have w : w64 ((i : Int) + 1) = ((i + 1 : Nat) : Int) := by rw [w64_1 (by omega)]
      rw [w]
      by_cases c1 : n ≤ 24
      · refine Jn.mk (fun b => b = decide (20000 < nL n (i + 1))) (Ite.f (by simp; omega) (S_Count (by omega) (by omega) c1 ?_)) (fun b e => Ite.mk (fun h => ?_) (fun h => ?_))
        · show decide (((nL n (i + 1) : Nat) : Int) > 20000) = _
          simp; omega
        · rw [e] at h
          have := of_decide_eq_true h
          exact hE (fun hl => by have := hl.2 i (by omega); omega)
        · rw [e] at h
          have := of_decide_eq_false h
          refine ⟨rfl, fun _ => c1, fun j hj => ?_⟩
          by_cases e2 : j = i
          · subst e2; omega
          · exact hI j (by omega)
      · refine Jn.mk (fun b => b = true) (Ite.t (by simp; omega) rfl) (fun b e => Ite.t e (hE (fun hl => c1 hl.1)))
    · obtain ⟨rfl, hi24, hI⟩ := hI
      exact Ite.nlt (by omega) ⟨hi24 (by omega), fun j hj => hI j (by omega)⟩
    · refine Jn.mk (fun ts => Db f r n K goal ts) (Loop.inv (K + 1) (fun i (s : List (List Int) × Int) => s.2 = (i : Int) ∧ s.1.length = i ∧ ∀ j, j < i → TOk (nL n (j + 1)) (preT f r n (j + 1)) (srcT n (j + 1) goal) (s.1.getD j [])) ⟨rfl, rfl, fun j h => by omega⟩ (fun i s hi hI => ?_) (fun s hI => ?_)) (fun ts hts => hO K rfl c.1 c.2.1 ts hts)
      · obtain ⟨ts, q⟩ := s
        obtain ⟨rfl, hlen, hI⟩ := hI
        replace hlen : ts.length = i := hlen
        have w : w64 ((i : Int) + 1) = ((i + 1 : Nat) : Int) := by rw [w64_1 (by omega)]
        simp only [w]
        refine Ite.lt (by show (i : Int) < _; omega) (S_ptable (by omega) (by omega) hl.1 (hl.2 i (by omega)) hf hr ha (fun t ht => ⟨by show ts.length + 1 ≤ _; omega, trivial, ?_, fun j hj => ?_⟩))
        · show ((ts ++ [t]).set ts.length t).length = i + 1
          simp; omega
        · have hs : (ts ++ [t]).set ts.length t = ts ++ [t] := by
            apply List.ext_getElem?
            intro q
            rw [List.getElem?_set]
            split
            · rename_i h; subst h; simp
            · rfl
          show TOk _ _ _ (((ts ++ [t]).set ts.length t).getD j [])
          rw [hs, List.getD_eq_getElem?_getD]
          by_cases e2 : j = i
          · subst e2
            rw [List.getElem?_append_right (by omega), hlen]; simpa using ht
          · rw [List.getElem?_append_left (by omega), ← List.getD_eq_getElem?_getD]; exact hI j (by omega)
      · obtain ⟨ts, q⟩ := s
        obtain ⟨rfl, hlen, hI⟩ := hI
        exact Ite.nlt (by show ¬ ((K + 1 : Nat) : Int) < _; omega) ⟨hr, hKn, hl, hlen, fun j hj => hI j (by omega)⟩
  · refine Jn.mk (fun b => b = true) (Ite.mk (fun _ => rfl) (fun a1 => Ite.mk (fun _ => rfl) (fun a2 => Ite.mk (fun _ => rfl) (fun a3 => ?_)))) (fun b e => Ite.t e (hE3 c))
    have b1 := of_decide_eq_false a1; have b2 := of_decide_eq_false a2; have b3 := of_decide_eq_false a3
    exact decide_eq_true (by omega)
end
end Go.Taq

/- The mathematics of the patterns, part FC: layouts within layouts; the list of the choices. -/
set_option linter.unusedVariables false
set_option linter.unusedSimpArgs false
namespace Go.Taq
open Go
/-- a layout some of whose shelves, but the target, are away -/
structure Subl (a b : ApiLayout) : Prop where
  tg : a.Target = b.Target
  len : a.Full.length = b.Full.length
  sub : ∀ i : Nat, a.Full[i]? = some true → b.Full[i]? = some true
theorem Subl.refl (a : ApiLayout) : Subl a a := ⟨rfl, rfl, fun _ h => h⟩
theorem Subl.trans {a b c : ApiLayout} (h : Subl a b) (k : Subl b c) : Subl a c := ⟨h.tg.trans k.tg, h.len.trans k.len, fun i hi => k.sub i (h.sub i hi)⟩
theorem bool_get {xs : List Bool} {i : Nat} (h : i < xs.length) : xs[i]? = some true ∨ xs[i]? = some false := by
  rw [List.getElem?_eq_getElem h]
  cases xs[i] <;> simp
section
variable {f : ApiFloor} {r : List Int} {n ka : Nat} {a b : ApiLayout}
/-- a shift of the greater one is a shift of the lesser one, or leaves it as it is -/
theorem Subl.step (h : Subl a b) (ha : LOk n ka a) {s : ApiShift} (hs : s ∈ btw f r b true) : ∃ a', LOk n ka a' ∧ Subl a' (doS b s) ∧ (a' = a ∨ ∃ q, q ∈ btw f r a true ∧ a' = doS a q) := by
  obtain ⟨x, y, rfl, hx, hy, hg⟩ := back_ok hs
  have hy' : b.Full[y]? = some false := by simpa using hy
  have hxl : x < b.Full.length := (List.getElem?_eq_some_iff.1 hx).1
  have hyl : y < b.Full.length := (List.getElem?_eq_some_iff.1 hy).1
  have hxy : x ≠ y := by rintro rfl; rw [hx] at hy'; cases hy'
  have hya : a.Full[y]? = some false := by
    rcases bool_get (xs := a.Full) (i := y) (by rw [h.len]; exact hyl) with e | e
    · have := h.sub y e; rw [hy'] at this; cases this
    · exact e
  rcases bool_get (xs := a.Full) (i := x) (by rw [h.len]; exact hxl) with e | e
  · have hq : ({ From := (x : Int), To := (y : Int) } : ApiShift) ∈ btw f r a true := btw_intro (full := true) e (by simpa using hya) hg
    refine ⟨doS a { From := (x : Int), To := (y : Int) }, ha.doS hq, ⟨?_, ?_, fun i hi => ?_⟩, .inr ⟨_, hq, rfl⟩⟩
    · show (if a.Target = (x : Int) then (y : Int) else a.Target) = if b.Target = (x : Int) then (y : Int) else b.Target
      rw [h.tg]
    · show ((a.Full.set x false).set y true).length = ((b.Full.set x false).set y true).length
      simp [h.len]
    · have hi' : ((a.Full.set x false).set y true)[i]? = some true := hi
      show ((b.Full.set x false).set y true)[i]? = some true
      rw [set2_get] at hi' ⊢
      by_cases e1 : y = i ∧ y < b.Full.length
      · rw [if_pos e1]
      · rw [if_neg (by rw [h.len]; exact e1)] at hi'
        rw [if_neg e1]
        by_cases e2 : x = i ∧ x < b.Full.length
        · rw [if_pos (by rw [h.len]; exact e2)] at hi'; cases hi'
        · rw [if_neg (by rw [h.len]; exact e2)] at hi'
          rw [if_neg e2]; exact h.sub i hi'
  · have hT : a.Target ≠ (x : Int) := fun e2 => by
      have := ha.get
      rw [e2] at this
      simp only [Int.toNat_natCast] at this
      rw [e] at this; cases this
    refine ⟨a, ha, ⟨?_, ?_, fun i hi => ?_⟩, .inl rfl⟩
    · show a.Target = if b.Target = (x : Int) then (y : Int) else b.Target
      rw [if_neg (by rw [← h.tg]; exact hT), h.tg]
    · show a.Full.length = ((b.Full.set x false).set y true).length
      simp [h.len]
    · show ((b.Full.set x false).set y true)[i]? = some true
      rw [set2_get]
      by_cases e1 : y = i ∧ y < b.Full.length
      · rw [if_pos e1]
      · rw [if_neg e1, if_neg]
        · exact h.sub i hi
        · rintro ⟨rfl, _⟩; rw [e] at hi; cases hi
end
/-! ## the list of the choices -/
/-- the choices of j others from cell i on, of so many cells -/
def chs (T : Nat) : Nat → Nat → Nat → List Bool → List (List Bool)
  | 0, _, j, F => if j = 0 then [F] else []
  | m + 1, i, 0, F => chs T m (i + 1) 0 (F.set i (decide (i = T)))
  | m + 1, i, j + 1, F => if F[i]? = some true ∧ i ≠ T then chs T m (i + 1) j F ++ chs T m (i + 1) (j + 1) (F.set i false) else chs T m (i + 1) (j + 1) F
/-- how many others there are from cell i on -/
def oc (T : Nat) : Nat → Nat → List Bool → Nat
  | 0, _, _ => 0
  | m + 1, i, G => (if G[i]? = some true ∧ i ≠ T then 1 else 0) + oc T m (i + 1) G
theorem set_get1 {F : List Bool} {i q : Nat} {v : Bool} (hi : i < F.length) : (F.set i v)[q]? = if i = q then some v else F[q]? := by
  rw [List.getElem?_set]
  by_cases e : i = q
  · subst e; rw [if_pos rfl, if_pos hi, if_pos rfl]
  · rw [if_neg e, if_neg e]
theorem chs_mem {T : Nat} {G : List Bool} : ∀ (m i j : Nat) (F : List Bool), F.length = i + m → (T < F.length → F[T]? = some true) →
    (G ∈ chs T m i j F ↔ G.length = i + m ∧ (∀ q, q < i → G[q]? = F[q]?) ∧ (∀ q, i ≤ q → G[q]? = some true → F[q]? = some true) ∧ (i ≤ T → T < i + m → G[T]? = some true) ∧ oc T m i G = j) := by
  intro m
  induction m with
  | zero =>
    intro i j F hF hT
    rw [chs]
    by_cases e : j = 0
    · subst e
      rw [if_pos rfl, List.mem_singleton]
      constructor
      · rintro rfl; exact ⟨hF, fun _ _ => rfl, fun _ _ h => h, fun h1 h2 => by omega, rfl⟩
      · rintro ⟨h1, h2, h3, h4, h5⟩
        apply List.ext_getElem?
        intro q
        rcases Nat.lt_or_ge q i with h | h
        · exact h2 q h
        · rw [List.getElem?_eq_none (by omega), List.getElem?_eq_none (by omega)]
    · rw [if_neg e]
      refine ⟨fun h => (by simp at h), fun h => absurd h.2.2.2.2.symm (by rw [oc]; exact e)⟩
  | succ m ih =>
    intro i j F hF hT
    have hiF : i < F.length := by omega
    cases j with
    | zero =>
      rw [chs, ih (i + 1) 0 (F.set i (decide (i = T))) (by simp; omega) (fun h => ?_)]
      · simp only [set_get1 hiF, oc]
        constructor
        · rintro ⟨h1, h2, h3, h4, h5⟩
          have hGi : G[i]? = some (decide (i = T)) := by have := h2 i (by omega); rw [if_pos rfl] at this; exact this
          refine ⟨by omega, fun q hq => by have := h2 q (by omega); rw [if_neg (by omega)] at this; exact this, fun q hq hG => ?_, fun h1 h2 => ?_, ?_⟩
          · by_cases e : q = i
            · subst e
              rw [hGi] at hG
              have : q = T := by simpa using hG
              subst this; exact hT hiF
            · have := h3 q (by omega) hG; rw [if_neg (by omega)] at this; exact this
          · by_cases e : i = T
            · subst e; rw [hGi]; simp
            · exact h4 (by omega) (by omega)
          · rw [if_neg, h5]
            rintro ⟨h6, h7⟩
            rw [hGi] at h6
            exact h7 (by simpa using h6)
        · rintro ⟨h1, h2, h3, h4, h5⟩
          have hn : ¬ (G[i]? = some true ∧ i ≠ T) := fun h => by rw [if_pos h] at h5; omega
          have hGi : G[i]? = some (decide (i = T)) := by
            by_cases e : i = T
            · subst e; rw [h4 (by omega) (by omega)]; simp
            · rcases bool_get (xs := G) (i := i) (by omega) with h | h
              · exact absurd ⟨h, e⟩ hn
              · rw [h]; simp [e]
          refine ⟨by omega, fun q hq => ?_, fun q hq hG => by rw [if_neg (by omega)]; exact h3 q (by omega) hG, fun h6 h7 => h4 (by omega) (by omega), by rw [if_neg hn] at h5; omega⟩
          by_cases e : i = q
          · subst e; rw [if_pos rfl]; exact hGi
          · rw [if_neg e]; exact h2 q (by omega)
      · rw [set_get1 hiF]
        by_cases e : i = T
        · rw [if_pos e]; simp [e]
        · rw [if_neg e]; exact hT (by simpa using h)
    | succ j =>
      rw [chs]
      by_cases c : F[i]? = some true ∧ i ≠ T
      · rw [if_pos c, List.mem_append, ih (i + 1) j F (by omega) hT, ih (i + 1) (j + 1) (F.set i false) (by simp; omega) (fun h => by rw [set_get1 hiF, if_neg c.2]; exact hT (by simpa using h))]
        simp only [set_get1 hiF, oc]
        constructor
        · rintro (⟨h1, h2, h3, h4, h5⟩ | ⟨h1, h2, h3, h4, h5⟩)
          · have hGi : G[i]? = some true := (h2 i (by omega)).trans c.1
            refine ⟨by omega, fun q hq => h2 q (by omega), fun q hq hG => ?_, fun h6 h7 => h4 (by omega) (by omega), by rw [if_pos ⟨hGi, c.2⟩]; omega⟩
            by_cases e : q = i
            · subst e; exact c.1
            · exact h3 q (by omega) hG
          · have hGi : G[i]? = some false := by have := h2 i (by omega); rw [if_pos rfl] at this; exact this
            refine ⟨by omega, fun q hq => by have := h2 q (by omega); rw [if_neg (by omega)] at this; exact this, fun q hq hG => ?_, fun h6 h7 => h4 (by omega) (by omega), by rw [if_neg (fun h => by rw [hGi] at h; cases h.1)]; omega⟩
            by_cases e : q = i
            · subst e; exact c.1
            · have := h3 q (by omega) hG; rw [if_neg (by omega)] at this; exact this
        · rintro ⟨h1, h2, h3, h4, h5⟩
          rcases bool_get (xs := G) (i := i) (by omega) with h | h
          · left
            rw [if_pos ⟨h, c.2⟩] at h5
            refine ⟨by omega, fun q hq => ?_, fun q hq hG => h3 q (by omega) hG, fun h6 h7 => h4 (by omega) (by omega), by omega⟩
            by_cases e : q = i
            · subst e; rw [h, c.1]
            · exact h2 q (by omega)
          · right
            rw [if_neg (fun h' => by rw [h] at h'; cases h'.1)] at h5
            refine ⟨by omega, fun q hq => ?_, fun q hq hG => by rw [if_neg (by omega)]; exact h3 q (by omega) hG, fun h6 h7 => h4 (by omega) (by omega), by omega⟩
            by_cases e : i = q
            · subst e; rw [if_pos rfl]; exact h
            · rw [if_neg e]; exact h2 q (by omega)
      · rw [if_neg c, ih (i + 1) (j + 1) F (by omega) hT]
        simp only [oc]
        constructor
        · rintro ⟨h1, h2, h3, h4, h5⟩
          have hGi := h2 i (by omega)
          refine ⟨by omega, fun q hq => h2 q (by omega), fun q hq hG => ?_, fun h6 h7 => ?_, by rw [if_neg (fun h => c ⟨hGi ▸ h.1, h.2⟩)]; omega⟩
          · by_cases e : q = i
            · subst e; rw [← hGi]; exact hG
            · exact h3 q (by omega) hG
          · by_cases e : i = T
            · subst e; rw [hGi]; exact hT hiF
            · exact h4 (by omega) (by omega)
        · rintro ⟨h1, h2, h3, h4, h5⟩
          have hGi : G[i]? = F[i]? := by
            by_cases e : i = T
            · subst e; rw [h4 (by omega) (by omega), hT hiF]
            · rcases bool_get (xs := G) (i := i) (by omega) with h | h
              · rw [h, h3 i (by omega) h]
              · rcases bool_get hiF with h' | h'
                · exact absurd ⟨h', e⟩ c
                · rw [h, h']
          rw [if_neg (fun h => c ⟨hGi ▸ h.1, h.2⟩)] at h5
          refine ⟨by omega, fun q hq => ?_, fun q hq hG => h3 q (by omega) hG, fun h6 h7 => h4 (by omega) (by omega), by omega⟩
          by_cases e : q = i
          · subst e; exact hGi
          · exact h2 q (by omega)
theorem oc_count {T : Nat} : ∀ (m i : Nat) (G : List Bool), G.length = i + m → (i ≤ T → T < i + m → G[T]? = some true) → (G.drop i).count true = oc T m i G + if i ≤ T ∧ T < i + m then 1 else 0 := by
  intro m
  induction m with
  | zero =>
    intro i G hG hT
    rw [List.drop_of_length_le (by omega), oc, if_neg (by omega)]; rfl
  | succ m ih =>
    intro i G hG hT
    have hi : i < G.length := by omega
    rw [List.drop_eq_getElem_cons hi, List.count_cons, ih (i + 1) G (by omega) (fun h1 h2 => hT (by omega) (by omega)), oc]
    have hx : G[i]? = some G[i] := List.getElem?_eq_getElem hi
    generalize G[i] = x at hx
    by_cases e : i = T
    · subst e
      have := hT (Nat.le_refl _) (by omega)
      rw [hx] at this
      cases this
      have p1 : ¬ (G[i]? = some true ∧ i ≠ i) := fun h => h.2 rfl
      have p2 : ¬ (i + 1 ≤ i ∧ i < i + 1 + m) := by omega
      have p3 : i ≤ i ∧ i < i + (m + 1) := by omega
      rw [if_neg p1, if_neg p2, if_pos p3]; simp
    · have e3 : (if i + 1 ≤ T ∧ T < i + 1 + m then 1 else 0) = if i ≤ T ∧ T < i + (m + 1) then 1 else 0 := by
        by_cases c : i + 1 ≤ T ∧ T < i + 1 + m
        · rw [if_pos c, if_pos (by omega)]
        · rw [if_neg c, if_neg (by omega)]
      rw [e3]
      cases x with
      | true =>
        have p1 : G[i]? = some true ∧ i ≠ T := ⟨hx, e⟩
        rw [if_pos p1]; simp; omega
      | false =>
        have p1 : ¬ (G[i]? = some true ∧ i ≠ T) := fun h => by rw [hx] at h; cases h.1
        rw [if_neg p1]; simp
/-- the choices of a layout -/
theorem chs_layout {n k j : Nat} {l : ApiLayout} (h : LOk n k l) {G : List Bool} : G ∈ chs l.Target.toNat n 0 j l.Full ↔ LOk n (j + 1) { Full := G, Target := l.Target } ∧ Subl { Full := G, Target := l.Target } l := by
  rw [chs_mem n 0 j l.Full (by rw [h.len]; omega) (fun _ => h.get)]
  have hT := h.tlt
  constructor
  · rintro ⟨h1, _, h3, h4, h5⟩
    have hG : G[l.Target.toNat]? = some true := h4 (Nat.zero_le _) (by omega)
    have hc := oc_count n 0 G (by omega) (fun _ _ => hG)
    rw [List.drop_zero, h5, if_pos (by omega)] at hc
    exact ⟨⟨by show G.length = n; omega, hc, h.t0, hG⟩, ⟨rfl, by show G.length = _; rw [h.len]; omega, fun i hi => h3 i (Nat.zero_le _) hi⟩⟩
  · rintro ⟨h1, h2⟩
    have hG : G[l.Target.toNat]? = some true := h1.get
    have hl : G.length = n := h1.len
    have hc := oc_count (T := l.Target.toNat) n 0 G (by omega) (fun _ _ => hG)
    have hcn : G.count true = j + 1 := h1.cnt
    rw [List.drop_zero, hcn, if_pos (by omega)] at hc
    exact ⟨by omega, fun q hq => by omega, fun q _ hq => h2.sub q hq, fun _ _ => hG, by omega⟩
/-- to choose that many is possible -/
theorem grow {n j k : Nat} {l : ApiLayout} (h : LOk n k l) : ∀ (e : Nat) {a : ApiLayout}, Subl a l → LOk n j a → j + e ≤ k → ∃ b, Subl a b ∧ Subl b l ∧ LOk n (j + e) b := by
  intro e
  induction e with
  | zero => intro a h1 h2 _; exact ⟨a, .refl _, h1, h2⟩
  | succ e ih =>
    intro a h1 h2 h3
    obtain ⟨b, b1, b2, b3⟩ := ih h1 h2 (by omega)
    -- a place that is free in b and not in l
    have hex : ∃ i : Nat, l.Full[i]? = some true ∧ b.Full[i]? = some false := by
      apply Classical.byContradiction
      intro hne
      have hall : ∀ i : Nat, l.Full[i]? = some true → b.Full[i]? = some true := fun i hi => by
        rcases bool_get (xs := b.Full) (i := i) (by rw [b2.len]; exact (List.getElem?_eq_some_iff.1 hi).1) with h | h
        · exact h
        · exact absurd ⟨i, hi, h⟩ hne
      have heq : b.Full = l.Full := by
        apply List.ext_getElem?
        intro i
        rcases Nat.lt_or_ge i l.Full.length with hi | hi
        · rcases bool_get (xs := l.Full) hi with h' | h'
          · rw [h', hall i h']
          · rcases bool_get (xs := b.Full) (i := i) (by rw [b2.len]; exact hi) with h'' | h''
            · have := b2.sub i h''; rw [h'] at this; cases this
            · rw [h', h'']
        · rw [List.getElem?_eq_none hi, List.getElem?_eq_none (by rw [b2.len]; exact hi)]
      have := b3.cnt
      rw [heq, h.cnt] at this
      omega
    obtain ⟨i, hi1, hi2⟩ := hex
    have hil : i < b.Full.length := (List.getElem?_eq_some_iff.1 hi2).1
    refine ⟨{ Full := b.Full.set i true, Target := b.Target }, ⟨b1.tg, by simp [b1.len], fun q hq => ?_⟩, ⟨b2.tg, by simp [b2.len], fun q hq => ?_⟩, ⟨by simp [b3.len], ?_, b3.t0, ?_⟩⟩
    · show (b.Full.set i true)[q]? = _
      rw [set_get1 hil]
      split
      · rfl
      · exact b1.sub q hq
    · have hq' : (b.Full.set i true)[q]? = some true := hq
      rw [set_get1 hil] at hq'
      by_cases e2 : i = q
      · subst e2; exact hi1
      · rw [if_neg e2] at hq'; exact b2.sub q hq'
    · show (b.Full.set i true).count true = _
      have hs := List.count_set (l := b.Full) (i := i) (a := true) (b := true) hil
      have e3 : b.Full[i] = false := by have := List.getElem?_eq_getElem hil; rw [hi2] at this; exact (Option.some.inj this).symm
      rw [hs, e3, b3.cnt]; simp; omega
    · show (b.Full.set i true)[b.Target.toNat]? = _
      rw [set_get1 hil]
      split
      · rfl
      · exact b3.get
end Go.Taq
