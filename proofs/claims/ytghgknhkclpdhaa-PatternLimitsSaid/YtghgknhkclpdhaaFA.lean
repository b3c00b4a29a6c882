/- The mathematics, several parts in one text. -/
import Derived.Test.YtghgknhkclpdhaaPK
import Derived.Test.YtghgknhkclpdhaaLibZR
import Derived.Test.YtghgknhkclpdhaaPA
import Derived.Test.YtghgknhkclpdhaaVc
import Derived.IntWalk
/- The mathematics of the puzzle, part L: what the table says of layouts; the distance of one. -/
set_option linter.unusedVariables false
set_option linter.unusedSimpArgs false
namespace Go.Taq
open Go
/-- a shift, done -/
def doS (l : ApiLayout) (s : ApiShift) : ApiLayout := doL l s.From.toNat s.To.toNat
/-- a table that is right -/
structure Dst (f : ApiFloor) (r : List Int) (n k : Nat) (goal : Int) (t : List Int) : Prop where
  h1 : 1 ≤ k
  h2 : k ≤ n
  h3 : n ≤ 12
  hr : r.length = n
  ok : TOk (nL n k) (preT f r n k) (srcT n k goal) t
/-- the distance of a layout -/
def dT (n k : Nat) (t : List Int) (l : ApiLayout) : Int := gT t (rank n k l)
theorem LOk.doS {f : ApiFloor} {r : List Int} {n k : Nat} {l : ApiLayout} (h : LOk n k l) {s : ApiShift} (hs : s ∈ btw f r l true) : LOk n k (doS l s) := by
  obtain ⟨a, b, rfl, ha, hb, _⟩ := back_ok hs
  exact h.doL ha hb
section
variable {f : ApiFloor} {r : List Int} {n k : Nat} {goal : Int} {t : List Int}
theorem btw_intro {l : ApiLayout} {full : Bool} {a b : Nat} (ha : l.Full[a]? = some full) (hb : l.Full[b]? = some (!full)) (hg : getsB f (r.getD a 0) (r.getD b 0) = true) : ({ From := (a : Int), To := (b : Int) } : ApiShift) ∈ btw f r l full :=
  mem_btw.2 ⟨a, b, (List.getElem?_eq_some_iff.1 ha).1, (List.getElem?_eq_some_iff.1 hb).1, rfl, by unfold btP; rw [ha, hb, hg]; simp⟩
theorem doL_get {l : ApiLayout} {a b : Nat} (ha : l.Full[a]? = some true) (hb : l.Full[b]? = some false) : (doL l a b).Full[a]? = some false ∧ (doL l a b).Full[b]? = some true := by
  have hab : a ≠ b := by rintro rfl; rw [ha] at hb; simp at hb
  have hal := (List.getElem?_eq_some_iff.1 ha).1
  have hbl := (List.getElem?_eq_some_iff.1 hb).1
  refine ⟨?_, ?_⟩
  · show ((l.Full.set a false).set b true)[a]? = _
    rw [set2_get, if_neg (fun h => hab h.1.symm), if_pos ⟨rfl, hal⟩]
  · show ((l.Full.set a false).set b true)[b]? = _
    rw [set2_get, if_pos ⟨rfl, hbl⟩]
theorem Dst.pre (h : Dst f r n k goal t) {l : ApiLayout} (hl : LOk n k l) {s : ApiShift} (hs : s ∈ btw f r l true) : rank n k l ∈ preT f r n k (rank n k (doS l s)) := by
  have hl' := hl.doS hs
  obtain ⟨a, b, rfl, ha, hb, hg⟩ := back_ok hs
  obtain ⟨e1, e2⟩ := doL_get ha hb
  unfold preT
  rw [hl'.unrank]
  refine List.mem_map.2 ⟨{ From := (a : Int), To := (b : Int) }, btw_intro (full := false) e1 e2 hg, ?_⟩
  show rank n k (doL (doL l a b) b a) = _
  rw [doL_back hl ha hb]
theorem Dst.rl (h : Dst f r n k goal t) {l : ApiLayout} (hl : LOk n k l) : rank n k l < nL n k := hl.rank_lt
theorem Dst.neg (h : Dst f r n k goal t) {l : ApiLayout} (hl : LOk n k l) : dT n k t l = -1 ∨ ∃ d : Nat, dT n k t l = (d : Int) := by
  rcases h.ok.2.1 _ (h.rl hl) with ⟨a, _⟩ | ⟨d, a, _⟩
  · exact .inl a
  · exact .inr ⟨d, a⟩
theorem Dst.zero (h : Dst f r n k goal t) {l : ApiLayout} (hl : LOk n k l) : dT n k t l = 0 ↔ l.Target = goal := by
  have hs : srcT n k goal (rank n k l) = true ↔ l.Target = goal := by unfold srcT; rw [hl.unrank]; simp
  unfold dT
  rcases h.ok.2.1 _ (h.rl hl) with ⟨a, b⟩ | ⟨d, a, b, c⟩
  · rw [a]
    refine ⟨fun h => by omega, fun e => absurd (.zero (h.rl hl) (hs.2 e)) (b 0)⟩
  · rw [a]
    constructor
    · intro e
      have : d = 0 := by omega
      subst this
      cases b with
      | zero _ h => exact hs.1 h
    · intro e
      have := c 0 (.zero (h.rl hl) (hs.2 e))
      omega
end
section
variable {f : ApiFloor} {r : List Int} {n k : Nat} {l : ApiLayout}
variable (hl : LOk n k l) (hr : r.length = n) (hn : n ≤ 24) (hf : RF f) (ha : Asc r)
include hl hr hn hf ha
end
end Go.Taq

/- The mathematics, part QA: loops whose state has a counter and more; ranges over lists; lists of places. -/
set_option linter.unusedVariables false
set_option linter.unusedSimpArgs false
namespace Go.Taq
open Go

/-- a loop over a list's places: ix is where the state keeps the place -/
theorem V_loopc {α τ : Type} {xs : List α} (hm : xs.length ≤ maxLen) (ix : τ → Int) (I : Nat → τ → Prop) {t0 : τ} (hi0 : ix t0 = 0) (h0 : I 0 t0) {R : α → τ → (τ → Prop) → Prop} {E : τ → Prop}
    (hs : ∀ (i : Nat) x t, xs[i]? = some x → ix t = (i : Int) → I i t → R x t (fun t' => ix t' = w64 ((i : Int) + 1) ∧ I (i + 1) t'))
    (he : ∀ t, I xs.length t → E t) :
    Loop (fun t Y => Ite (decide (ix t < (xs.length : Int))) (∃ x, idx xs (ix t) = some x ∧ R x t Y) (E t)) t0 := by
  refine Loop.inv xs.length (fun i t => ix t = (i : Int) ∧ I i t) ⟨by simpa using hi0, h0⟩ (fun i t hi h => ?_) (fun t h => ?_)
  · have hx : xs[i]? = some (xs[i]'hi) := List.getElem?_eq_getElem hi
    refine Ite.lt (by omega) ⟨_, by rw [h.1]; exact idx_of rfl hx, ?_⟩
    have := hs i _ t hx h.1 h.2
    rw [w64_nat hi hm] at this; exact this
  · exact Ite.nlt (by omega) (he t h.2)
end Go.Taq

/- The mathematics, part AR: slices.Repeat of one number. -/
set_option linter.unusedVariables false
set_option linter.unusedSimpArgs false
namespace Go.Taq
open Go

theorem wu64 {x : Int} (h0 : 0 ≤ x) (h1 : x < 18446744073709551616) : IntKind.wrap .u64 x = x := by
  show x % 18446744073709551616 = x; omega
theorem band32 {n : Int} (h0 : 0 ≤ n) (h1 : n < 4294967296) : band .u64 n 4294967295 = n := by
  obtain ⟨m, rfl⟩ := Int.eq_ofNat_of_zero_le h0
  have hm : m < 4294967296 := by omega
  unfold band
  have e : (BitVec.ofInt IntKind.u64.bits (m : Int) &&& BitVec.ofInt IntKind.u64.bits 4294967295).toNat = m := by
    show (BitVec.ofInt 64 (m : Int) &&& BitVec.ofInt 64 4294967295).toNat = m
    rw [BitVec.toNat_and]
    have e1 : (BitVec.ofInt 64 (m : Int)).toNat = m := by
      rw [BitVec.toNat_ofInt]
      have : ((m : Int) % ((2 ^ 64 : Nat) : Int)) = m := by omega
      rw [this]; simp
    have e2 : (BitVec.ofInt 64 4294967295).toNat = 2 ^ 32 - 1 := by decide
    rw [e1, e2, Nat.and_two_pow_sub_one_eq_mod]
    omega
  rw [e]
  exact wu64 h0 (by omega)
theorem shr32 {n : Int} (h0 : 0 ≤ n) (h1 : n < 4294967296) : shrI .u64 n 32 = 0 := by
  show n.fdiv (2 ^ (min (32 : Int).toNat IntKind.u64.bits)) = 0
  have : (2 : Int) ^ (min (32 : Int).toNat IntKind.u64.bits) = 4294967296 := by decide
  rw [this, Int.fdiv_eq_ediv_of_nonneg _ (by decide)]
  omega
theorem S_bits_Mul1 {n : Nat} (hn : n < 4294967296) {post : Int × Int → Prop} (hp : post (0, (n : Int))) : V_math_bits_Mul 1 (n : Int) post := by
  unfold V_math_bits_Mul V_math_bits_Mul64
  have a1 := shr32 (n := 1) (by decide) (by decide)
  have a2 := shr32 (n := (n : Int)) (by omega) (by omega)
  have a3 := band32 (n := 1) (by decide) (by decide)
  have a4 := band32 (n := (n : Int)) (by omega) (by omega)
  rw [a1, a2, a3, a4]
  simp only [Int.zero_mul, Int.mul_zero, Int.one_mul, Int.zero_add, Int.add_zero]
  rw [wu64 (x := (n : Int)) (by omega) (by omega), wu64 (x := 0) (by decide) (by decide)]
  have z : shrI .u64 0 32 = 0 := shr32 (by decide) (by decide)
  have b0 : band .u64 0 4294967295 = 0 := band32 (by decide) (by decide)
  simp only [a2, z, b0, Int.zero_add, Int.add_zero, wu64 (x := 0) (by decide) (by decide)]
  exact hp
theorem S_slices_Repeat1 {x : Int} {n : Nat} (hn : n ≤ 1000000) {post : List Int → Prop} (hp : post (List.replicate n x)) : V_slices_Repeat_int_int [x] (n : Int) post := by
  unfold V_slices_Repeat_int_int
  refine Ite.f (by simp) ?_
  have e1 : IntKind.wrap .u64 ((([x] : List Int).length : Nat) : Int) = 1 := wu64 (by simp) (by simp)
  have e2 : IntKind.wrap .u64 (n : Int) = n := wu64 (by omega) (by omega)
  rw [e1, e2]
  refine S_bits_Mul1 (by omega) (Jor2 (Ite.f (by simp; omega) ?_))
  have e3 : IntKind.wrap .i64 (n : Int) = n := w64_eq (by omega) (by omega)
  simp only [e3]
  refine ⟨⟨by omega, by omega⟩, ?_⟩
  have tn : ((n : Int)).toNat = n := by omega
  simp only [tn, List.length_replicate, List.length_singleton, List.take_zero, List.nil_append, Nat.zero_add]
  refine Jn.mk (fun l => l = List.replicate n x) (Loop.mk (fun t : List Int × Int => t.1.length = n ∧ ∃ k : Nat, t.2 = (k : Int) ∧ k ≤ n ∧ (n = 0 ∨ 1 ≤ k) ∧ t.1.take k = List.replicate k x) (fun t => n - t.2.toNat) ?_ ?_) (fun l hl => hl ▸ hp)
  · refine ⟨by simp; omega, min 1 n, by (first | (simp; done) | (simp; omega)), by omega, by omega, ?_⟩
    cases n with
    | zero => simp
    | succ m =>
      have : min 1 (m + 1) = 1 := by omega
      rw [this]; simp
  · rintro ⟨l, t⟩ ⟨hl, k, ht, hk, h0, htk⟩
    simp only at hl ht htk
    subst ht
    refine Ite.mk (fun h => ?_) (fun h => ?_)
    · have hlt : k < n := by simp [hl] at h; omega
      have t1 : ((k : Int)).toNat = k := by omega
      have t2 : ((k : Int) - 0).toNat = k := by omega
      have t3 : ((l.length : Int) - (k : Int)).toNat = n - k := by omega
      simp only [t1, t2, t3]
      have d0 : l.drop (Int.toNat 0) = l := by simp
      rw [d0, htk]
      simp only [List.length_replicate, List.take_replicate]
      refine ⟨⟨by omega, by omega, by omega⟩, ⟨by omega, by omega, by omega⟩, by omega, by omega, ⟨?_, k + min k (n - k), ?_, by omega, by omega, ?_⟩, ?_⟩
      · simp [hl]; omega
      · rw [w64_eq (by omega) (by omega)]; (first | (simp; done) | (simp; omega))
      · rw [← List.append_assoc, List.take_append_of_le_length (by simp)]
        rw [List.take_of_length_le (by simp)]
        rw [List.replicate_append_replicate]; congr 1; omega
      · rw [w64_eq (by omega) (by omega)]; omega
    · have hlt : ¬ k < n := by simp [hl] at h; omega
      have : k = n := by omega
      subst this
      show l = _
      rw [← htk, List.take_of_length_le (by omega)]
end Go.Taq

/- The mathematics of the patterns, part FA: the tables of the layer, and of the reference. -/
set_option linter.unusedVariables false
set_option linter.unusedSimpArgs false
namespace Go.Taq
open Go
/-- the table before the search: what is at the goal has the distance 0 -/
def iM (N : Nat) (src : Nat → Bool) (i : Nat) : List Int := (List.range N).map fun j => if j < i ∧ src j = true then 0 else -1
section
variable {N : Nat} {src : Nat → Bool}
theorem iM_len {i : Nat} : (iM N src i).length = N := by simp [iM]
theorem iM_get {i j : Nat} (h : j < N) : gT (iM N src i) j = if j < i ∧ src j = true then 0 else -1 := by
  unfold gT iM
  rw [List.getD_eq_getElem?_getD, List.getElem?_map, List.getElem?_range h]; rfl
theorem iM_zero : iM N src 0 = List.replicate N (-1) := by
  refine gT_ext (by simp [iM]) (fun i hi => ?_)
  rw [iM_len] at hi
  rw [iM_get hi, if_neg (by omega)]
  unfold gT; rw [List.getD_eq_getElem?_getD, List.getElem?_replicate, if_pos hi]; rfl
theorem iM_succ {i : Nat} (h : i < N) : iM N src (i + 1) = if src i = true then (iM N src i).set i 0 else iM N src i := by
  by_cases hs : src i = true
  · rw [if_pos hs]
    refine gT_ext (by simp [iM]) (fun j hj => ?_)
    rw [iM_len] at hj
    rw [iM_get hj, gT_set (by rw [iM_len]; exact h), iM_get hj]
    by_cases e : i = j
    · subst e; rw [if_pos rfl, if_pos ⟨by omega, hs⟩]
    · rw [if_neg e]
      by_cases e2 : j < i ∧ src j = true
      · rw [if_pos e2, if_pos ⟨by omega, e2.2⟩]
      · rw [if_neg e2, if_neg (fun h => e2 ⟨by omega, h.2⟩)]
  · rw [if_neg hs]
    refine gT_ext (by simp [iM]) (fun j hj => ?_)
    rw [iM_len] at hj
    rw [iM_get hj, iM_get hj]
    by_cases e2 : j < i ∧ src j = true
    · rw [if_pos e2, if_pos ⟨by omega, e2.2⟩]
    · rw [if_neg e2, if_neg]
      rintro ⟨h1, h2⟩
      by_cases e : j = i
      · subst e; exact hs h2
      · exact e2 ⟨by omega, h2⟩
theorem iM_all : iM N src N = iO N src N := by
  refine gT_ext (by simp [iM, iO]) (fun j hj => ?_)
  rw [iM_len] at hj
  rw [iM_get hj, iO_get hj, if_pos hj]
  by_cases e : src j = true
  · rw [if_pos ⟨hj, e⟩, if_pos e]
  · rw [if_neg (fun h => e h.2), if_neg e]
end
theorem btw_len24 {f : ApiFloor} {r : List Int} {l : ApiLayout} {full : Bool} (hl : l.Full.length ≤ 24) : (btw f r l full).length ≤ 576 := by
  unfold btw
  have key : ∀ m, ((List.range m).flatMap fun i => btR f r l full i l.Full.length).length ≤ m * 24 := by
    intro m
    induction m with
    | zero => simp
    | succ m ih =>
      rw [List.range_succ, List.flatMap_append, List.length_append]
      have := btR_len (f := f) (r := r) (l := l) (full := full) (i := m) (m := l.Full.length)
      simp only [List.flatMap_cons, List.flatMap_nil, List.append_nil]
      omega
  have := key l.Full.length
  omega
section
variable {f : ApiFloor} {r : List Int} {n k : Nat} (h1 : 1 ≤ k) (h2 : k ≤ n) (h3 : n ≤ 24) (hcl : nL n k ≤ 20000)
include h1 h2 h3 hcl
/-- the layer's table -/
theorem S_ptable (hf : RF f) (hr : r.length = n) (ha : Asc r) {goal : Int} {post : List Int → Prop} (hp : ∀ t, TOk (nL n k) (preT f r n k) (srcT n k goal) t → post t) : V_pattern_table f r (k : Int) goal post := by
  unfold V_pattern_table
  rw [hr]
  refine S_Count h1 h2 (by omega) ?_
  have hnL : ((n * ch (n - 1) (k - 1) : Nat) : Int) = ((nL n k : Nat) : Int) := rfl
  rw [hnL]
  refine S_slices_Repeat1 (by omega) ?_
  simp only [List.length_replicate]
  have hpl := preT_lt (f := f) (r := r) h1 h2
  refine Jn.mk (fun t => t = (iO (nL n k) (srcT n k goal) (nL n k), (iQ (srcT n k goal) (nL n k)).map fun i => ((i : Nat) : Int)))
    (Loop.inv (nL n k) (fun i (s : List Int × List Int × Int) => s.2.2 = (i : Int) ∧ s.1 = iM (nL n k) (srcT n k goal) i ∧ s.2.1 = (iQ (srcT n k goal) i).map fun i => ((i : Nat) : Int)) ⟨rfl, iM_zero.symm, rfl⟩ (fun i s hi hI => ?_) (fun s hI => ?_)) (fun t e => ?_)
  · obtain ⟨o, q, c⟩ := s
    obtain ⟨rfl, rfl, rfl⟩ := hI
    have hol : (iM (nL n k) (srcT n k goal) i).length = nL n k := iM_len
    have hql := iQ_len (src := srcT n k goal) (i := i)
    refine Ite.lt (by show (i : Int) < (nL n k : Nat); omega) (S_Unrank h1 h2 (by omega) hi ?_)
    have hs2 : iM (nL n k) (srcT n k goal) (i + 1) = if srcT n k goal i = true then (iM (nL n k) (srcT n k goal) i).set i 0 else iM (nL n k) (srcT n k goal) i := iM_succ hi
    refine Jn.mk (fun t => t = (iM (nL n k) (srcT n k goal) (i + 1), (iQ (srcT n k goal) (i + 1)).map fun i => ((i : Nat) : Int))) (Ite.mk (fun e => ?_) (fun e => ?_)) (fun t e => ⟨w64_1 (by omega), by rw [e], by rw [e]⟩)
    · have es : srcT n k goal i = true := by unfold srcT; simpa using e
      refine ⟨_, idx_of rfl (gT_get (by rw [hol]; exact hi)), by simp only [List.length_cons, List.length_nil, List.length_map]; omega, ?_⟩
      show ((iM (nL n k) (srcT n k goal) i).set (Int.toNat (i : Int)) 0, _) = _
      rw [Int.toNat_natCast, hs2, if_pos es, iQ_succ, if_pos es, List.map_append]; rfl
    · have es : ¬ srcT n k goal i = true := by unfold srcT; simpa using e
      show (iM (nL n k) (srcT n k goal) i, _) = _
      rw [hs2, if_neg es, iQ_succ, if_neg es, List.append_nil]
  · obtain ⟨o, q, c⟩ := s
    obtain ⟨rfl, rfl, rfl⟩ := hI
    refine Ite.nlt (by show ¬ ((nL n k : Nat) : Int) < (nL n k : Nat); omega) ?_
    show (iM (nL n k) (srcT n k goal) (nL n k), _) = _
    rw [iM_all]
  · subst e
    have hin : Bf (nL n k) (preT f r n k) (srcT n k goal) (iO (nL n k) (srcT n k goal) (nL n k)) (iQ (srcT n k goal) (nL n k)) := Bf.init
    have hct : (iO (nL n k) (srcT n k goal) (nL n k)).count (-1) + (iQ (srcT n k goal) (nL n k)).length ≤ 100000 := by
      have a1 : (iO (nL n k) (srcT n k goal) (nL n k)).count (-1) ≤ nL n k := Nat.le_trans List.count_le_length (by rw [iO_len]; omega)
      have a2 := iQ_len (src := srcT n k goal) (i := nL n k)
      omega
    generalize iO (nL n k) (srcT n k goal) (nL n k) = out0 at hin hct
    generalize iQ (srcT n k goal) (nL n k) = q0 at hin hct
    refine Jn.mk (fun t => TOk (nL n k) (preT f r n k) (srcT n k goal) t) (Loop.mk (fun (s : List Int × List Int) => ∃ q : List Nat, s.2 = q.map (fun i => ((i : Nat) : Int)) ∧ Bf (nL n k) (preT f r n k) (srcT n k goal) s.1 q ∧ s.1.count (-1) + q.length ≤ 100000) (fun s => s.1.count (-1) + s.2.length) ⟨q0, rfl, hin, hct⟩ (fun s hI => ?_)) (fun t ht => hp t ht)
    obtain ⟨out, qi⟩ := s
    obtain ⟨q, rfl, hB, hct⟩ := hI
    replace hB : Bf (nL n k) (preT f r n k) (srcT n k goal) out q := hB
    replace hct : out.count (-1) + q.length ≤ 100000 := hct
    match q, hB, hct with
    | [], hB, hct => exact Ite.f (by simp) (hB.ok hpl)
    | x :: q, hB, hct =>
      simp only [List.length_cons] at hct
      have hx := (hB.qu x (by simp)).1
      have hM := hB.pop
      have hxl : x < out.length := by rw [hB.ol]; exact hx
      refine Ite.t (by simp) (Jn.mk (fun (t : List Int × List Int) => ∃ q' : List Nat, t.2 = (x :: q').map (fun i => ((i : Nat) : Int)) ∧ BfM (nL n k) (preT f r n k) (srcT n k goal) t.1 q' x [] ∧ t.1.count (-1) + q'.length = out.count (-1) + q.length)
        ⟨(x : Int), rfl, S_Unrank h1 h2 (by omega) hx ?_⟩ (fun t ht => ?_))
      · obtain ⟨hu, _⟩ := unrank_ok h1 h2 hx
        unfold V_layout_Backs
        refine S_shifts hf (by rw [hr, hu.len]) (by rw [hu.len]; omega) ha ?_
        have hbl := btw_len24 (f := f) (r := r) (l := unrank n k x) (full := false) (by rw [hu.len]; omega)
        have hbk : ∀ s, s ∈ btw f r (unrank n k x) false → ∃ a b : Nat, s = { From := (a : Int), To := (b : Int) } ∧ (unrank n k x).Full[a]? = some false ∧ (unrank n k x).Full[b]? = some true := fun s hs => by
          obtain ⟨a, b, e1, e2, e3, _⟩ := back_ok hs
          exact ⟨a, b, e1, e2, by simpa using e3⟩
        have hpre : preT f r n k x = (btw f r (unrank n k x) false).map fun s => rank n k (doL (unrank n k x) s.To.toNat s.From.toNat) := rfl
        rw [hpre] at hM
        generalize btw f r (unrank n k x) false = bs at hM hbl hbk
        refine Jn.mk (fun (t : List Int × List Int) => ∃ q' : List Nat, t.2 = (x :: q').map (fun i => ((i : Nat) : Int)) ∧ BfM (nL n k) (preT f r n k) (srcT n k goal) t.1 q' x [] ∧ t.1.count (-1) + q'.length = out.count (-1) + q.length)
          (Loop.inv bs.length (fun j (s : List Int × List Int × Int) => s.2.2 = (j : Int) ∧ ∃ q' : List Nat, s.2.1 = (x :: q').map (fun i => ((i : Nat) : Int)) ∧ BfM (nL n k) (preT f r n k) (srcT n k goal) s.1 q' x ((bs.drop j).map fun s => rank n k (doL (unrank n k x) s.To.toNat s.From.toNat)) ∧ s.1.count (-1) + q'.length = out.count (-1) + q.length)
            ⟨rfl, q, rfl, by simpa using hM, rfl⟩ (fun j s hj hJ => ?_) (fun s hJ => ?_)) (fun t ht => ht)
        · obtain ⟨o2, qi2, c⟩ := s
          obtain ⟨rfl, q2, rfl, hM2, hc2⟩ := hJ
          replace hM2 : BfM (nL n k) (preT f r n k) (srcT n k goal) o2 q2 x ((bs.drop j).map fun s => rank n k (doL (unrank n k x) s.To.toNat s.From.toNat)) := hM2
          replace hc2 : o2.count (-1) + q2.length = out.count (-1) + q.length := hc2
          have hbj : bs[j]? = some (bs[j]'hj) := List.getElem?_eq_getElem hj
          rw [List.drop_eq_getElem_cons hj, List.map_cons] at hM2
          obtain ⟨a, b, e1, e2, e3⟩ := hbk _ (List.mem_of_getElem? hbj)
          rw [e1] at hM2 hbj
          simp only [Int.toNat_natCast] at hM2
          have hd := hu.doL e3 e2
          obtain ⟨s1, s2, s3⟩ := hM2.step hpl
          have hol2 : o2.length = nL n k := hM2.ol
          have hrl : rank n k (doL (unrank n k x) b a) < nL n k := hd.rank_lt
          have hgq : gT o2 x ≤ 100000 := by have := hM2.bd x hx; omega
          have w : w64 (gT o2 x + 1) = gT o2 x + 1 := by have := hM2.q0; rw [w64_eq (by omega) (by omega)]
          refine Ite.lt (by show (j : Int) < _; omega) ⟨_, idx_of rfl hbj, S_Do e3 e2 (by rw [hu.len]; omega) (S_Rank h1 h2 (by omega) hd ⟨_, idx_of rfl (gT_get (by rw [hol2]; exact hrl)), ?_⟩)⟩
          refine Jn.mk (fun (t : List Int × List Int) => ∃ q' : List Nat, t.2 = (x :: q').map (fun i => ((i : Nat) : Int)) ∧ BfM (nL n k) (preT f r n k) (srcT n k goal) t.1 q' x ((bs.drop (j + 1)).map fun s => rank n k (doL (unrank n k x) s.To.toNat s.From.toNat)) ∧ t.1.count (-1) + q'.length = out.count (-1) + q.length)
            (Ite.mk (fun e => ⟨(x : Int), rfl, gT o2 x, idx_of rfl (gT_get (by rw [hol2]; exact hx)), by simp only [List.length_cons, List.length_nil, List.length_map]; omega, ?_⟩) (fun e => ?_)) (fun t ht => ⟨w64_1 (by omega), ht⟩)
          · have e' : gT o2 (rank n k (doL (unrank n k x) b a)) < 0 := by simpa using e
            simp only [rO, rQ, if_pos e'] at s1 s3
            have s4 : (o2.set (rank n k (doL (unrank n k x) b a)) (gT o2 x + 1)).count (-1) + (q2 ++ [rank n k (doL (unrank n k x) b a)]).length = out.count (-1) + q.length := by omega
            simp only [w, Int.toNat_natCast]
            exact ⟨q2 ++ [rank n k (doL (unrank n k x) b a)], by simp, s1, s4⟩
          · have e' : ¬ gT o2 (rank n k (doL (unrank n k x) b a)) < 0 := by simpa using e
            simp only [rO, rQ, if_neg e'] at s1 s3
            exact ⟨q2, rfl, s1, hc2⟩
        · obtain ⟨o2, qi2, c⟩ := s
          obtain ⟨rfl, q2, rfl, hM2, hc2⟩ := hJ
          refine Ite.nlt (by show ¬ (bs.length : Int) < _; omega) ⟨q2, rfl, by simpa using hM2, hc2⟩
      · obtain ⟨t1, t2⟩ := t
        obtain ⟨q', rfl, hM', hc'⟩ := ht
        have hM2 : BfM (nL n k) (preT f r n k) (srcT n k goal) t1 q' x [] := hM'
        have hc2 : t1.count (-1) + q'.length = out.count (-1) + q.length := hc'
        have hfin : t1.count (-1) + q'.length ≤ 100000 := by omega
        have hsub : sub ((x :: q').map fun i => ((i : Nat) : Int)) 1 (((x :: q').map fun i => ((i : Nat) : Int)).length : Int) = q'.map fun i => ((i : Nat) : Int) := by
          simp only [sub, List.map_cons, List.length_cons, List.length_map]
          show List.take _ (List.drop 1 _) = _
          rw [List.drop_succ_cons, List.drop_zero, List.take_of_length_le (by simp)]
        refine ⟨⟨by omega, by simp only [List.length_map, List.length_cons]; omega, by omega⟩, ?_⟩
        simp only [hsub]
        refine ⟨⟨q', rfl, hM2.fin hpl, hfin⟩, ?_⟩
        show t1.count (-1) + (q'.map fun i => ((i : Nat) : Int)).length < out.count (-1) + ((x :: q).map fun i => ((i : Nat) : Int)).length
        simp only [List.length_map, List.length_cons]; omega
end
end Go.Taq
