/- The mathematics, several parts in one text. -/
import Derived.Test.YtghgknhkclpdhaaPJ
import Derived.Test.YtghgknhkclpdhaaLibZR
import Derived.Test.YtghgknhkclpdhaaMR0
import Derived.Test.YtghgknhkclpdhaaVc
import Derived.IntWalk
/- The mathematics of the puzzle, part K: the reference's table. -/
set_option linter.unusedVariables false
set_option linter.unusedSimpArgs false
namespace Go.Taq
open Go
section
variable {n k : Nat} (h1 : 1 ≤ k) (h2 : k ≤ n) (h3 : n ≤ 12)
include h1 h2 h3
end
end Go.Taq

/- The mathematics of the puzzle, part L: what the table says of layouts; the distance of one. -/
set_option linter.unusedVariables false
set_option linter.unusedSimpArgs false
namespace Go.Taq
open Go
/-- a shift, done -/
def doS (l : ApiLayout) (s : ApiShift) : ApiLayout := doL l s.From.toNat s.To.toNat
/-- a table that is right -/
structure Dst (f : ApiFloor) (r : List Int) (n k : Nat) (goal : Int) (t : List Int) : Prop where
  h1 : 1 ≤ k
  h2 : k ≤ n
  h3 : n ≤ 12
  hr : r.length = n
  ok : TOk (nL n k) (preT f r n k) (srcT n k goal) t
/-- the distance of a layout -/
def dT (n k : Nat) (t : List Int) (l : ApiLayout) : Int := gT t (rank n k l)
theorem LOk.doS {f : ApiFloor} {r : List Int} {n k : Nat} {l : ApiLayout} (h : LOk n k l) {s : ApiShift} (hs : s ∈ btw f r l true) : LOk n k (doS l s) := by
  obtain ⟨a, b, rfl, ha, hb, _⟩ := back_ok hs
  exact h.doL ha hb
section
variable {f : ApiFloor} {r : List Int} {n k : Nat} {goal : Int} {t : List Int}
theorem btw_intro {l : ApiLayout} {full : Bool} {a b : Nat} (ha : l.Full[a]? = some full) (hb : l.Full[b]? = some (!full)) (hg : getsB f (r.getD a 0) (r.getD b 0) = true) : ({ From := (a : Int), To := (b : Int) } : ApiShift) ∈ btw f r l full :=
  mem_btw.2 ⟨a, b, (List.getElem?_eq_some_iff.1 ha).1, (List.getElem?_eq_some_iff.1 hb).1, rfl, by unfold btP; rw [ha, hb, hg]; simp⟩
theorem doL_get {l : ApiLayout} {a b : Nat} (ha : l.Full[a]? = some true) (hb : l.Full[b]? = some false) : (doL l a b).Full[a]? = some false ∧ (doL l a b).Full[b]? = some true := by
  have hab : a ≠ b := by rintro rfl; rw [ha] at hb; simp at hb
  have hal := (List.getElem?_eq_some_iff.1 ha).1
  have hbl := (List.getElem?_eq_some_iff.1 hb).1
  refine ⟨?_, ?_⟩
  · show ((l.Full.set a false).set b true)[a]? = _
    rw [set2_get, if_neg (fun h => hab h.1.symm), if_pos ⟨rfl, hal⟩]
  · show ((l.Full.set a false).set b true)[b]? = _
    rw [set2_get, if_pos ⟨rfl, hbl⟩]
theorem Dst.pre (h : Dst f r n k goal t) {l : ApiLayout} (hl : LOk n k l) {s : ApiShift} (hs : s ∈ btw f r l true) : rank n k l ∈ preT f r n k (rank n k (doS l s)) := by
  have hl' := hl.doS hs
  obtain ⟨a, b, rfl, ha, hb, hg⟩ := back_ok hs
  obtain ⟨e1, e2⟩ := doL_get ha hb
  unfold preT
  rw [hl'.unrank]
  refine List.mem_map.2 ⟨{ From := (a : Int), To := (b : Int) }, btw_intro (full := false) e1 e2 hg, ?_⟩
  show rank n k (doL (doL l a b) b a) = _
  rw [doL_back hl ha hb]
theorem Dst.suc (h : Dst f r n k goal t) {l : ApiLayout} (hl : LOk n k l) {j : Nat} (hj : j < nL n k) (hp : rank n k l ∈ preT f r n k j) : ∃ s, s ∈ btw f r l true ∧ rank n k (doS l s) = j := by
  obtain ⟨hu, hur⟩ := unrank_ok h.h1 h.h2 hj
  unfold preT at hp
  obtain ⟨s, hs, he⟩ := List.mem_map.1 hp
  obtain ⟨a, b, rfl, ha, hb, hg⟩ := back_ok hs
  have hb' : (unrank n k j).Full[b]? = some true := by simpa using hb
  have hd := hu.doL hb' ha
  have e : doL (unrank n k j) b a = l := by
    rw [← hl.unrank, ← he]; exact hd.unrank.symm
  obtain ⟨e1, e2⟩ := doL_get hb' ha
  rw [e] at e1 e2
  refine ⟨{ From := (a : Int), To := (b : Int) }, btw_intro (full := true) e2 e1 hg, ?_⟩
  show rank n k (doL l a b) = j
  rw [← e, doL_back hu hb' ha, hur]
theorem Dst.rl (h : Dst f r n k goal t) {l : ApiLayout} (hl : LOk n k l) : rank n k l < nL n k := hl.rank_lt
theorem Dst.neg (h : Dst f r n k goal t) {l : ApiLayout} (hl : LOk n k l) : dT n k t l = -1 ∨ ∃ d : Nat, dT n k t l = (d : Int) := by
  rcases h.ok.2.1 _ (h.rl hl) with ⟨a, _⟩ | ⟨d, a, _⟩
  · exact .inl a
  · exact .inr ⟨d, a⟩
theorem Dst.zero (h : Dst f r n k goal t) {l : ApiLayout} (hl : LOk n k l) : dT n k t l = 0 ↔ l.Target = goal := by
  have hs : srcT n k goal (rank n k l) = true ↔ l.Target = goal := by unfold srcT; rw [hl.unrank]; simp
  unfold dT
  rcases h.ok.2.1 _ (h.rl hl) with ⟨a, b⟩ | ⟨d, a, b, c⟩
  · rw [a]
    refine ⟨fun h => by omega, fun e => absurd (.zero (h.rl hl) (hs.2 e)) (b 0)⟩
  · rw [a]
    constructor
    · intro e
      have : d = 0 := by omega
      subst this
      cases b with
      | zero _ h => exact hs.1 h
    · intro e
      have := c 0 (.zero (h.rl hl) (hs.2 e))
      omega
/-- a shift leads at most one nearer -/
theorem Dst.near (h : Dst f r n k goal t) {l : ApiLayout} (hl : LOk n k l) {s : ApiShift} (hs : s ∈ btw f r l true) (h0 : 0 ≤ dT n k t (doS l s)) : 0 ≤ dT n k t l ∧ dT n k t l ≤ dT n k t (doS l s) + 1 := by
  have hl' := hl.doS hs
  have hp := h.pre hl hs
  unfold dT at *
  rcases h.ok.2.1 _ (h.rl hl') with ⟨a, b⟩ | ⟨d, a, b, c⟩
  · omega
  · have hP := Pt.succ b hp
    rcases h.ok.2.1 _ (h.rl hl) with ⟨a2, b2⟩ | ⟨d2, a2, b2, c2⟩
    · exact absurd hP (b2 _)
    · have := c2 _ hP; omega
/-- one shift leads nearer -/
theorem Dst.nearer (h : Dst f r n k goal t) {l : ApiLayout} (hl : LOk n k l) {d : Nat} (hd : dT n k t l = ((d + 1 : Nat) : Int)) : ∃ s, s ∈ btw f r l true ∧ dT n k t (doS l s) = (d : Int) := by
  have hpl := preT_lt (f := f) (r := r) h.h1 h.h2
  unfold dT at *
  rcases h.ok.2.1 _ (h.rl hl) with ⟨a, b⟩ | ⟨e, a, b, c⟩
  · omega
  · have : e = d + 1 := by omega
    subst this
    cases b with
    | succ hj hi =>
      rename_i j
      have hjn := hj.lt hpl
      obtain ⟨s, hs, rfl⟩ := h.suc hl hjn hi
      refine ⟨s, hs, ?_⟩
      have h1 := (h.near hl hs)
      unfold dT at h1
      rcases h.ok.2.1 _ hjn with ⟨a3, b3⟩ | ⟨d3, a3, b3, c3⟩
      · exact absurd hj (b3 _)
      · have := c3 _ hj
        have := h1 (by omega)
        omega
end
section
variable {f : ApiFloor} {r : List Int} {n k : Nat} {l : ApiLayout}
variable (hl : LOk n k l) (hr : r.length = n) (hn : n ≤ 24) (hf : RF f) (ha : Asc r)
include hl hr hn hf ha
end
end Go.Taq

/- The mathematics, part QA: loops whose state has a counter and more; ranges over lists; lists of places. -/
set_option linter.unusedVariables false
set_option linter.unusedSimpArgs false
namespace Go.Taq
open Go

/-- a loop over a list's places: ix is where the state keeps the place -/
theorem V_loopc {α τ : Type} {xs : List α} (hm : xs.length ≤ maxLen) (ix : τ → Int) (I : Nat → τ → Prop) {t0 : τ} (hi0 : ix t0 = 0) (h0 : I 0 t0) {R : α → τ → (τ → Prop) → Prop} {E : τ → Prop}
    (hs : ∀ (i : Nat) x t, xs[i]? = some x → ix t = (i : Int) → I i t → R x t (fun t' => ix t' = w64 ((i : Int) + 1) ∧ I (i + 1) t'))
    (he : ∀ t, I xs.length t → E t) :
    Loop (fun t Y => Ite (decide (ix t < (xs.length : Int))) (∃ x, idx xs (ix t) = some x ∧ R x t Y) (E t)) t0 := by
  refine Loop.inv xs.length (fun i t => ix t = (i : Int) ∧ I i t) ⟨by simpa using hi0, h0⟩ (fun i t hi h => ?_) (fun t h => ?_)
  · have hx : xs[i]? = some (xs[i]'hi) := List.getElem?_eq_getElem hi
    refine Ite.lt (by omega) ⟨_, by rw [h.1]; exact idx_of rfl hx, ?_⟩
    have := hs i _ t hx h.1 h.2
    rw [w64_nat hi hm] at this; exact this
  · exact Ite.nlt (by omega) (he t h.2)
end Go.Taq

/- The mathematics, part AR: slices.Repeat of one number. -/
set_option linter.unusedVariables false
set_option linter.unusedSimpArgs false
namespace Go.Taq
open Go

theorem wu64 {x : Int} (h0 : 0 ≤ x) (h1 : x < 18446744073709551616) : IntKind.wrap .u64 x = x := by
  show x % 18446744073709551616 = x; omega
theorem band32 {n : Int} (h0 : 0 ≤ n) (h1 : n < 4294967296) : band .u64 n 4294967295 = n := by
  obtain ⟨m, rfl⟩ := Int.eq_ofNat_of_zero_le h0
  have hm : m < 4294967296 := by omega
  unfold band
  have e : (BitVec.ofInt IntKind.u64.bits (m : Int) &&& BitVec.ofInt IntKind.u64.bits 4294967295).toNat = m := by
    show (BitVec.ofInt 64 (m : Int) &&& BitVec.ofInt 64 4294967295).toNat = m
    rw [BitVec.toNat_and]
    have e1 : (BitVec.ofInt 64 (m : Int)).toNat = m := by
      rw [BitVec.toNat_ofInt]
      have : ((m : Int) % ((2 ^ 64 : Nat) : Int)) = m := by omega
      rw [this]; simp
    have e2 : (BitVec.ofInt 64 4294967295).toNat = 2 ^ 32 - 1 := by decide
    rw [e1, e2, Nat.and_two_pow_sub_one_eq_mod]
    omega
  rw [e]
  exact wu64 h0 (by omega)
theorem shr32 {n : Int} (h0 : 0 ≤ n) (h1 : n < 4294967296) : shrI .u64 n 32 = 0 := by
  show n.fdiv (2 ^ (min (32 : Int).toNat IntKind.u64.bits)) = 0
  have : (2 : Int) ^ (min (32 : Int).toNat IntKind.u64.bits) = 4294967296 := by decide
  rw [this, Int.fdiv_eq_ediv_of_nonneg _ (by decide)]
  omega
theorem S_bits_Mul1 {n : Nat} (hn : n < 4294967296) {post : Int × Int → Prop} (hp : post (0, (n : Int))) : V_math_bits_Mul 1 (n : Int) post := by
  unfold V_math_bits_Mul V_math_bits_Mul64
  have a1 := shr32 (n := 1) (by decide) (by decide)
  have a2 := shr32 (n := (n : Int)) (by omega) (by omega)
  have a3 := band32 (n := 1) (by decide) (by decide)
  have a4 := band32 (n := (n : Int)) (by omega) (by omega)
  rw [a1, a2, a3, a4]
  simp only [Int.zero_mul, Int.mul_zero, Int.one_mul, Int.zero_add, Int.add_zero]
  rw [wu64 (x := (n : Int)) (by omega) (by omega), wu64 (x := 0) (by decide) (by decide)]
  have z : shrI .u64 0 32 = 0 := shr32 (by decide) (by decide)
  have b0 : band .u64 0 4294967295 = 0 := band32 (by decide) (by decide)
  simp only [a2, z, b0, Int.zero_add, Int.add_zero, wu64 (x := 0) (by decide) (by decide)]
  exact hp
theorem S_slices_Repeat1 {x : Int} {n : Nat} (hn : n ≤ 1000000) {post : List Int → Prop} (hp : post (List.replicate n x)) : V_slices_Repeat_int_int [x] (n : Int) post := by
  unfold V_slices_Repeat_int_int
  refine Ite.f (by simp) ?_
  have e1 : IntKind.wrap .u64 ((([x] : List Int).length : Nat) : Int) = 1 := wu64 (by simp) (by simp)
  have e2 : IntKind.wrap .u64 (n : Int) = n := wu64 (by omega) (by omega)
  rw [e1, e2]
  refine S_bits_Mul1 (by omega) (Jor2 (Ite.f (by simp; omega) ?_))
  have e3 : IntKind.wrap .i64 (n : Int) = n := w64_eq (by omega) (by omega)
  simp only [e3]
  refine ⟨⟨by omega, by omega⟩, ?_⟩
  have tn : ((n : Int)).toNat = n := by omega
  simp only [tn, List.length_replicate, List.length_singleton, List.take_zero, List.nil_append, Nat.zero_add]
  refine Jn.mk (fun l => l = List.replicate n x) (Loop.mk (fun t : List Int × Int => t.1.length = n ∧ ∃ k : Nat, t.2 = (k : Int) ∧ k ≤ n ∧ (n = 0 ∨ 1 ≤ k) ∧ t.1.take k = List.replicate k x) (fun t => n - t.2.toNat) ?_ ?_) (fun l hl => hl ▸ hp)
  · refine ⟨by simp; omega, min 1 n, by (first | (simp; done) | (simp; omega)), by omega, by omega, ?_⟩
    cases n with
    | zero => simp
    | succ m =>
      have : min 1 (m + 1) = 1 := by omega
      rw [this]; simp
  · rintro ⟨l, t⟩ ⟨hl, k, ht, hk, h0, htk⟩
    simp only at hl ht htk
    subst ht
    refine Ite.mk (fun h => ?_) (fun h => ?_)
    · have hlt : k < n := by simp [hl] at h; omega
      have t1 : ((k : Int)).toNat = k := by omega
      have t2 : ((k : Int) - 0).toNat = k := by omega
      have t3 : ((l.length : Int) - (k : Int)).toNat = n - k := by omega
      simp only [t1, t2, t3]
      have d0 : l.drop (Int.toNat 0) = l := by simp
      rw [d0, htk]
      simp only [List.length_replicate, List.take_replicate]
      refine ⟨⟨by omega, by omega, by omega⟩, ⟨by omega, by omega, by omega⟩, by omega, by omega, ⟨?_, k + min k (n - k), ?_, by omega, by omega, ?_⟩, ?_⟩
      · simp [hl]; omega
      · rw [w64_eq (by omega) (by omega)]; (first | (simp; done) | (simp; omega))
      · rw [← List.append_assoc, List.take_append_of_le_length (by simp)]
        rw [List.take_of_length_le (by simp)]
        rw [List.replicate_append_replicate]; congr 1; omega
      · rw [w64_eq (by omega) (by omega)]; omega
    · have hlt : ¬ k < n := by simp [hl] at h; omega
      have : k = n := by omega
      subst this
      show l = _
      rw [← htk, List.take_of_length_le (by omega)]
end Go.Taq
