/- The mathematics, several parts in one text. -/
import Derived.Test.YtghgknhkclpdhaaFD
import Derived.Test.YtghgknhkclpdhaaAR
/- The mathematics of the patterns, part FE: the reference's bound; what is given; the examples. -/
set_option linter.unusedVariables false
set_option linter.unusedSimpArgs false
namespace Go.Taq
open Go
/-- the worst of some distances -/
def IsB (S : List Bool → Prop) (d : List Bool → Int) (b : Int) : Prop := ((∃ G, S G ∧ d G < 0) ∧ b = -1) ∨ ((∀ G, S G → 0 ≤ d G ∧ d G ≤ b) ∧ 0 ≤ b ∧ (b = 0 ∨ ∃ G, S G ∧ d G = b))
theorem IsB.eq {S : List Bool → Prop} {d : List Bool → Int} {a b : Int} (h : IsB S d a) (k : IsB S d b) : a = b := by
  rcases h with ⟨⟨G, h1, h2⟩, rfl⟩ | ⟨h1, h2, h3⟩
  · rcases k with ⟨_, rfl⟩ | ⟨k1, _⟩
    · rfl
    · have := (k1 G h1).1; omega
  · rcases k with ⟨⟨G, k1, k2⟩, rfl⟩ | ⟨k1, k2, k3⟩
    · have := (h1 G k1).1; omega
    · have a1 : a ≤ b := by
        rcases h3 with e | ⟨G, e1, e2⟩
        · omega
        · have := (k1 G e1).2; omega
      have a2 : b ≤ a := by
        rcases k3 with e | ⟨G, e1, e2⟩
        · omega
        · have := (h1 G e1).2; omega
      omega
theorem bndL_is (d : List Bool → Int) : ∀ (Gs : List (List Bool)) (s : Int), 0 ≤ s → ((∃ G, G ∈ Gs ∧ d G < 0) ∧ bndL d Gs s = -1) ∨ ((∀ G, G ∈ Gs → 0 ≤ d G ∧ d G ≤ bndL d Gs s) ∧ s ≤ bndL d Gs s ∧ (bndL d Gs s = s ∨ ∃ G, G ∈ Gs ∧ d G = bndL d Gs s))
  | [], s, h => .inr ⟨fun _ h => by simp at h, Int.le_refl _, .inl rfl⟩
  | G :: Gs, s, h => by
    rw [bndL]
    by_cases c : d G < 0
    · rw [if_pos c]; exact .inl ⟨⟨G, by simp, c⟩, rfl⟩
    · rw [if_neg c]
      have hm : s ≤ imax s (d G) ∧ d G ≤ imax s (d G) ∧ (imax s (d G) = s ∨ imax s (d G) = d G) := by unfold imax; split <;> omega
      rcases bndL_is d Gs (imax s (d G)) (by omega) with ⟨⟨G', h1, h2⟩, h3⟩ | ⟨h1, h2, h3⟩
      · exact .inl ⟨⟨G', by simp [h1], h2⟩, h3⟩
      · refine .inr ⟨fun G' hG' => ?_, by omega, ?_⟩
        · rcases List.mem_cons.1 hG' with e | e
          · subst e; omega
          · exact h1 G' e
        · rcases h3 with e | ⟨G', e1, e2⟩
          · rcases hm.2.2 with e2 | e2
            · left; omega
            · right; exact ⟨G, by simp, by omega⟩
          · exact .inr ⟨G', by simp [e1], e2⟩
section
variable {n K : Nat} {ts : List (List Int)}
/-- what is chosen -/
def Chosen (n j : Nat) (l : ApiLayout) (G : List Bool) : Prop := LOk n (j + 1) (mkL l.Target G) ∧ Subl (mkL l.Target G) l
theorem bnd_is {k : Nat} {l : ApiLayout} (hl : LOk n k l) : IsB (Chosen n (nO k K) l) (fun G => dD n (nO k K) ts (mkL l.Target G)) (bnd n k K ts l) := by
  have := bndL_is (fun G => dD n (nO k K) ts (mkL l.Target G)) (chs l.Target.toNat n 0 (nO k K) l.Full) 0 (Int.le_refl _)
  have hm : ∀ G, G ∈ chs l.Target.toNat n 0 (nO k K) l.Full ↔ Chosen n (nO k K) l G := fun G => chs_layout hl
  simp only [hm] at this
  exact this
end
/-! ## the reference's choice -/
def bt (bits : Int) (i : Nat) : Bool := band .i64 (shrI .i64 bits (i : Int)) 1 == 1
def chB (F : List Bool) (T : Nat) (p : Nat → Bool) : List Bool := (List.range F.length).map fun i => decide (i = T) || (F.getD i false && p i)
theorem chB_len {F : List Bool} {T : Nat} {p : Nat → Bool} : (chB F T p).length = F.length := by simp [chB]
theorem chB_get {F : List Bool} {T : Nat} {p : Nat → Bool} {i : Nat} {x : Bool} (hx : F[i]? = some x) : (chB F T p)[i]? = some (decide (i = T) || (x && p i)) := by
  have hi := (List.getElem?_eq_some_iff.1 hx).1
  unfold chB
  rw [List.getElem?_map, List.getElem?_range hi, Option.map_some, List.getD_eq_getElem?_getD, hx]; rfl
theorem S_Choice {n : Nat} (hn : n ≤ 1000) {l : ApiLayout} (hl : l.Full.length = n) (t0 : 0 ≤ l.Target) {bits : Int} {post : ApiLayout → Prop} (hp : post (mkL l.Target (chB l.Full l.Target.toNat (bt bits)))) : V_taquinref27_Choice l bits post := by
  unfold V_taquinref27_Choice
  refine ⟨⟨by omega, by omega⟩, ?_⟩
  simp only [Int.toNat_natCast]
  refine Jn.mk (fun x => x = chB l.Full l.Target.toNat (bt bits)) (Loop.inv n (fun i (s : List Bool × Int) => s.2 = (i : Int) ∧ s.1.length = n ∧ ∀ q, q < i → s.1[q]? = (chB l.Full l.Target.toNat (bt bits))[q]?) ⟨rfl, by simp [hl], fun q h => by omega⟩ (fun i s hi hI => ?_) (fun s hI => ?_)) (fun x e => by subst e; exact hp)
  · obtain ⟨F, c⟩ := s
    obtain ⟨rfl, hF, hI⟩ := hI
    replace hF : F.length = n := hF
    replace hI : ∀ q, q < i → F[q]? = (chB l.Full l.Target.toNat (bt bits))[q]? := hI
    have hiF : i < F.length := by omega
    have hx : l.Full[i]? = some (l.Full[i]'(by omega)) := List.getElem?_eq_getElem _
    generalize l.Full[i]'(by omega) = x at hx
    have hy : F[i]? = some (F[i]'hiF) := List.getElem?_eq_getElem hiF
    have hg := chB_get (T := l.Target.toNat) (p := bt bits) hx
    have w1 : w64 ((i : Int) + 1) = ((i + 1 : Nat) : Int) := w64_1 (by omega)
    simp only [w1]
    refine Ite.lt (by show (i : Int) < _; omega) (Jn.mk (fun G => G = F.set i (decide (i = l.Target.toNat) || (x && bt bits i))) ?_ (fun G e => ?_))
    · refine Ite.mk (fun e => ⟨_, idx_of rfl hy, ?_⟩) (fun e => ⟨x, idx_of rfl hx, Ite.mk (fun e2 => ⟨by omega, _, idx_of rfl hy, ?_⟩) (fun e2 => ⟨_, idx_of rfl hy, ?_⟩)⟩)
      · have e' : i = l.Target.toNat := by have h := beq_iff_eq.1 e; have h : (i : Int) = l.Target := h; omega
        show F.set (Int.toNat (i : Int)) true = _
        rw [Int.toNat_natCast, decide_eq_true e']; simp
      · have e' : ¬ i = l.Target.toNat := by intro h; have h' : (((i : Nat) : Int) == l.Target) = true := by simp [h]; omega
                                             rw [show (((i : Nat) : Int) == l.Target) = false from e] at h'; cases h'
        subst e2
        show F.set (Int.toNat (i : Int)) (band .i64 (shrI .i64 bits (i : Int)) 1 == 1) = _
        rw [Int.toNat_natCast, decide_eq_false e']; simp [bt]
      · have e' : ¬ i = l.Target.toNat := by intro h; have h' : (((i : Nat) : Int) == l.Target) = true := by simp [h]; omega
                                             rw [show (((i : Nat) : Int) == l.Target) = false from e] at h'; cases h'
        subst e2
        show F.set (Int.toNat (i : Int)) false = _
        rw [Int.toNat_natCast, decide_eq_false e']; simp
    · subst e
      refine ⟨trivial, by simpa using hF, fun q hq => ?_⟩
      show (F.set i _)[q]? = _
      rw [set_get1 hiF]
      by_cases e : i = q
      · subst e; rw [if_pos rfl, hg]
      · rw [if_neg e]; exact hI q (by omega)
  · obtain ⟨F, c⟩ := s
    obtain ⟨rfl, hF, hI⟩ := hI
    replace hF : F.length = n := hF
    refine Ite.nlt (by show ¬ (n : Int) < (l.Full.length : Int); omega) ?_
    apply List.ext_getElem?
    intro q
    rcases Nat.lt_or_ge q n with h | h
    · exact hI q h
    · rw [List.getElem?_eq_none (by show F.length ≤ q; omega), List.getElem?_eq_none (by rw [chB_len]; omega)]
/-- the choice is a layout within the layout -/
theorem chB_ok {n k : Nat} {l : ApiLayout} (h : LOk n k l) (p : Nat → Bool) : LOk n ((chB l.Full l.Target.toNat p).count true) (mkL l.Target (chB l.Full l.Target.toNat p)) ∧ Subl (mkL l.Target (chB l.Full l.Target.toNat p)) l := by
  refine ⟨⟨by show (chB _ _ _).length = n; rw [chB_len, h.len], rfl, h.t0, ?_⟩, ⟨rfl, chB_len, fun i hi => ?_⟩⟩
  · show (chB _ _ _)[l.Target.toNat]? = _
    rw [chB_get h.get]; simp
  · have hi' : (chB l.Full l.Target.toNat p)[i]? = some true := hi
    have hil := (List.getElem?_eq_some_iff.1 hi').1
    rw [chB_len] at hil
    rcases bool_get hil with e | e
    · exact e
    · rw [chB_get e] at hi'
      have e2 : i = l.Target.toNat := by simpa using hi'
      subst e2; exact h.get
/-- each one is chosen by some bits -/
theorem bits_of : ∀ G : List Bool, ∃ b, b < 2 ^ G.length ∧ ∀ i, i < G.length → b.testBit i = G.getD i false
  | [] => ⟨0, by simp, fun i h => by simp at h⟩
  | x :: G => by
    obtain ⟨b, h1, h2⟩ := bits_of G
    refine ⟨2 * b + (if x = true then 1 else 0), by simp only [List.length_cons, Nat.pow_succ]; split <;> omega, fun i hi => ?_⟩
    cases i with
    | zero => simp only [Nat.testBit_zero, List.getD_cons_zero]; cases x <;> simp <;> omega
    | succ i =>
      rw [Nat.testBit_succ, List.getD_cons_succ]
      have : (2 * b + (if x = true then 1 else 0)) / 2 = b := by split <;> omega
      rw [this]; exact h2 i (by simpa using hi)
theorem bt_nat {b i : Nat} (hb : b < 4294967296) (hi : i < 32) : bt (b : Int) i = b.testBit i := by
  unfold bt
  have e1 : shrI .i64 (b : Int) (i : Int) = ((b / 2 ^ i : Nat) : Int) := by
    show (b : Int).fdiv (2 ^ (min (i : Int).toNat IntKind.i64.bits)) = _
    have : min (i : Int).toNat IntKind.i64.bits = i := by show min (i : Int).toNat 64 = i; omega
    rw [this, Int.fdiv_eq_ediv_of_nonneg _ (by exact Int.le_of_lt (Int.pow_pos (by decide)))]
    have e3 : (2 : Int) ^ i = ((2 ^ i : Nat) : Int) := by simp
    rw [e3]; rfl
  have hlt : b / 2 ^ i < 4294967296 := Nat.lt_of_le_of_lt (Nat.div_le_self _ _) hb
  rw [e1]
  have e2 : band .i64 ((b / 2 ^ i : Nat) : Int) 1 = ((b / 2 ^ i % 2 : Nat) : Int) := by
    generalize b / 2 ^ i = m at hlt
    unfold band
    have e : (BitVec.ofInt IntKind.i64.bits (m : Int) &&& BitVec.ofInt IntKind.i64.bits 1).toNat = m % 2 := by
      show (BitVec.ofInt 64 (m : Int) &&& BitVec.ofInt 64 1).toNat = m % 2
      rw [BitVec.toNat_and]
      have e1 : (BitVec.ofInt 64 (m : Int)).toNat = m := by
        rw [BitVec.toNat_ofInt]
        have : ((m : Int) % ((2 ^ 64 : Nat) : Int)) = m := by omega
        rw [this]; simp
      have e2 : (BitVec.ofInt 64 1).toNat = 2 ^ 1 - 1 := by decide
      rw [e1, e2, Nat.and_two_pow_sub_one_eq_mod]
    rw [e]
    exact w64_eq (by omega) (by omega)
  rw [e2, Nat.testBit_eq_decide_div_mod_eq]
  have h01 : b / 2 ^ i % 2 = 0 ∨ b / 2 ^ i % 2 = 1 := by omega
  rcases h01 with e | e <;> rw [e] <;> rfl
end Go.Taq

/- The mathematics of the patterns, part FF: the reference's bound; what is given; the examples. -/
set_option linter.unusedVariables false
set_option linter.unusedSimpArgs false
namespace Go.Taq
open Go
theorem shl1 {n : Nat} (hn : n ≤ 24) : shlI .i64 1 (n : Int) = ((2 ^ n : Nat) : Int) := by
  have h2 : 2 ^ n ≤ 2 ^ 24 := Nat.pow_le_pow_right (by omega) hn
  unfold shlI
  have : min (n : Int).toNat IntKind.i64.bits = n := by show min (n : Int).toNat 64 = n; omega
  rw [this, Int.one_mul]
  have e3 : (2 : Int) ^ n = ((2 ^ n : Nat) : Int) := by simp
  rw [e3]
  have h24 : (2 : Nat) ^ 24 = 16777216 := by decide
  rw [h24] at h2
  clear e3
  generalize (2 : Nat) ^ n = m at h2 ⊢
  exact w64_eq (by omega) (by omega)
section
variable {f : ApiFloor} {r : List Int} {n K : Nat} {goal : Int} {ts : List (List Int)}
theorem S_rBound (h : Db f r n K goal ts) {k : Nat} {l : ApiLayout} (hl : LOk n k l) {c : Int} {post : Int → Prop} (hp : post (bnd n k K ts l)) : V_taquinref27_DB_Bound { N := c, K := (K : Int), Goal := goal, T := ts } l post := by
  unfold V_taquinref27_DB_Bound
  have h3 := h.li.1
  have hK := h.hK
  have hkp := hl.kpos
  have hkl := hl.kle
  have hno : nO k K ≤ n := by unfold nO; omega
  have hnoK : nO k K ≤ K := by unfold nO; omega
  have h2 : 2 ^ n ≤ 2 ^ 24 := Nat.pow_le_pow_right (by omega) h3
  have h2' : (2 : Nat) ^ 24 = 16777216 := by decide
  have hB := bnd_is (K := K) (ts := ts) hl
  refine S_rShelves (by rw [hl.len]; simp [maxLen]; omega) ?_
  rw [hl.cnt]
  have w1 : w64 (((k : Nat) : Int) - 1) = ((k - 1 : Nat) : Int) := by rw [w64_eq (by omega) (by omega)]; omega
  have w2 : w64 ((imin ((K : Nat) : Int) ((k - 1 : Nat) : Int)) + 1) = ((nO k K + 1 : Nat) : Int) := by
    have e : imin ((K : Nat) : Int) ((k - 1 : Nat) : Int) = ((nO k K : Nat) : Int) := by unfold imin nO; split <;> omega
    rw [e, w64_1 (by omega)]
  have hll : ((l.Full.length : Nat) : Int) = ((n : Nat) : Int) := by rw [hl.len]
  simp only [w1, w2, hll, shl1 h3]
  let d : List Bool → Int := fun G => dD n (nO k K) ts (mkL l.Target G)
  let Gb : Nat → List Bool := fun b => chB l.Full l.Target.toNat (bt (b : Int))
  refine Jn.mk (fun x => x = bnd n k K ts l) (Loop.inv (2 ^ n) (fun i (s : Int × Int) => s.2 = (i : Int) ∧ 0 ≤ s.1 ∧ (∀ b, b < i → Chosen n (nO k K) l (Gb b) → 0 ≤ d (Gb b) ∧ d (Gb b) ≤ s.1) ∧ (s.1 = 0 ∨ ∃ b, b < i ∧ Chosen n (nO k K) l (Gb b) ∧ d (Gb b) = s.1)) ⟨rfl, by simp, fun b hb => by omega, .inl rfl⟩ (fun i s hi hI => ?_) (fun s hI => ?_)) (fun x e => by rw [e]; exact hp)
  · obtain ⟨s1, c⟩ := s
    obtain ⟨rfl, hs0, hI, hJ⟩ := hI
    replace hs0 : 0 ≤ s1 := hs0
    replace hI : ∀ b, b < i → Chosen n (nO k K) l (Gb b) → 0 ≤ d (Gb b) ∧ d (Gb b) ≤ s1 := hI
    replace hJ : s1 = 0 ∨ ∃ b, b < i ∧ Chosen n (nO k K) l (Gb b) ∧ d (Gb b) = s1 := hJ
    have w3 : w64 ((i : Int) + 1) = ((i + 1 : Nat) : Int) := by rw [w64_eq (by omega) (by omega)]; simp
    simp only [w3]
    refine ⟨by omega, Ite.lt (by show (i : Int) < _; omega) ?_⟩
    obtain ⟨hok, hsub⟩ := chB_ok hl (bt (i : Int))
    refine Jn.mk (fun x => 0 ≤ x ∧ (∀ b, b < i + 1 → Chosen n (nO k K) l (Gb b) → 0 ≤ d (Gb b) ∧ d (Gb b) ≤ x) ∧ (x = 0 ∨ ∃ b, b < i + 1 ∧ Chosen n (nO k K) l (Gb b) ∧ d (Gb b) = x)) (S_Choice (n := n) (by omega) hl.len hl.t0 (S_rShelves (by rw [hok.len]; simp [maxLen]; omega) ?_)) (fun x hx => ⟨trivial, hx⟩)
    rw [hok.cnt]
    refine Ite.mk (fun e => ?_) (fun e => ?_)
    · have hne : (chB l.Full l.Target.toNat (bt (i : Int))).count true ≠ nO k K + 1 := by
        intro e2; rw [e2] at e; simp at e
      refine ⟨hs0, fun b hb hc => ?_, ?_⟩
      · by_cases e2 : b = i
        · subst e2
          have : (chB l.Full l.Target.toNat (bt (b : Int))).count true = nO k K + 1 := hc.1.cnt
          exact absurd this hne
        · exact hI b (by omega) hc
      · rcases hJ with h | ⟨b, hb, h1, h2⟩
        · exact .inl h
        · exact .inr ⟨b, by omega, h1, h2⟩
    · have heq : (chB l.Full l.Target.toNat (bt (i : Int))).count true = nO k K + 1 := by
        have : ((((chB l.Full l.Target.toNat (bt (i : Int))).count true : Nat) : Int)) = ((nO k K + 1 : Nat) : Int) := by simpa using e
        omega
      have hch : Chosen n (nO k K) l (Gb i) := ⟨by rw [heq] at hok; exact hok, hsub⟩
      refine S_rDist h hch.1 (fun _ => ?_) (fun hlt => by omega)
      refine Ite.mk (fun e2 => ?_) (fun e2 => ?_)
      · have hneg : d (Gb i) < 0 := of_decide_eq_true e2
        have : bnd n k K ts l = -1 := hB.eq (.inl ⟨⟨Gb i, hch, hneg⟩, rfl⟩)
        rw [this] at hp; exact hp
      · have hpos : ¬ d (Gb i) < 0 := of_decide_eq_false e2
        show 0 ≤ imax s1 (d (Gb i)) ∧ _
        have hm : s1 ≤ imax s1 (d (Gb i)) ∧ d (Gb i) ≤ imax s1 (d (Gb i)) ∧ (imax s1 (d (Gb i)) = s1 ∨ imax s1 (d (Gb i)) = d (Gb i)) := by unfold imax; split <;> omega
        refine ⟨by omega, fun b hb hc => ?_, ?_⟩
        · show _ ∧ _ ≤ imax s1 (d (Gb i))
          by_cases e3 : b = i
          · subst e3; omega
          · have := hI b (by omega) hc; omega
        · show imax s1 (d (Gb i)) = 0 ∨ ∃ b, b < i + 1 ∧ Chosen n (nO k K) l (Gb b) ∧ d (Gb b) = imax s1 (d (Gb i))
          rcases hm.2.2 with e3 | e3
          · rcases hJ with h | ⟨b, hb, h1, h2⟩
            · left; omega
            · right; exact ⟨b, by omega, h1, by omega⟩
          · right; exact ⟨i, by omega, hch, by omega⟩
  · obtain ⟨s1, c⟩ := s
    obtain ⟨rfl, hs0, hI, hJ⟩ := hI
    replace hs0 : 0 ≤ s1 := hs0
    refine ⟨by omega, Ite.nlt (by show ¬ ((2 ^ n : Nat) : Int) < _; omega) ?_⟩
    show s1 = _
    have hall : ∀ G, Chosen n (nO k K) l G → ∃ b, b < 2 ^ n ∧ Gb b = G := fun G hG => by
      have hGl : G.length = n := hG.1.len
      obtain ⟨b, hb1, hb2⟩ := bits_of G
      rw [hGl] at hb1 hb2
      refine ⟨b, hb1, ?_⟩
      apply List.ext_getElem?
      intro i
      rcases Nat.lt_or_ge i n with hi | hi
      · have hx : l.Full[i]? = some (l.Full[i]'(by rw [hl.len]; exact hi)) := List.getElem?_eq_getElem _
        generalize l.Full[i]'(by rw [hl.len]; exact hi) = x at hx
        show (chB l.Full l.Target.toNat (bt (b : Int)))[i]? = G[i]?
        rw [chB_get hx, bt_nat (by omega) (by omega), hb2 i hi]
        have hGi : G[i]? = some (G.getD i false) := by rw [List.getD_eq_getElem?_getD, List.getElem?_eq_getElem (by omega)]; rfl
        rw [hGi]
        by_cases e : i = l.Target.toNat
        · subst e
          have : G[l.Target.toNat]? = some true := hG.1.get
          rw [this] at hGi
          rw [decide_eq_true rfl, ← Option.some.inj hGi]; simp
        · rw [decide_eq_false e]
          cases hg : G.getD i false with
          | false => simp
          | true =>
            rw [hg] at hGi
            have := hG.2.sub i hGi
            rw [hx] at this; cases this; rfl
      · rw [List.getElem?_eq_none (by show (chB _ _ _).length ≤ i; rw [chB_len, hl.len]; exact hi), List.getElem?_eq_none (by omega)]
    refine IsB.eq (S := Chosen n (nO k K) l) (d := d) (.inr ⟨fun G hG => ?_, hs0, ?_⟩) hB
    · obtain ⟨b, hb, rfl⟩ := hall G hG
      exact hI b hb hG
    · rcases hJ with h | ⟨b, hb, h1, h2⟩
      · exact .inl h
      · exact .inr ⟨_, h1, h2⟩
end
/-! ## what is given -/
theorem S_LRight {l : ApiLayout} {post : Bool → Prop} (hF : post false) (hT : l.Full.length ≤ 24 → LOk l.Full.length (l.Full.count true) l → post true) : V_layout_Right l post := by
  unfold V_layout_Right
  by_cases c : (l.Full.length : Int) ≥ 1 ∧ (l.Full.length : Int) ≤ 24 ∧ l.Target ≥ 0 ∧ l.Target < (l.Full.length : Int)
  · obtain ⟨c1, c2, c3, c4⟩ := c
    have hx : l.Full[l.Target.toNat]? = some (l.Full[l.Target.toNat]'(by omega)) := List.getElem?_eq_getElem _
    generalize l.Full[l.Target.toNat]'(by omega) = b at hx
    refine Jn.mk (fun x => x = b) (Ite.t (by simpa using c1) (Ite.t (by simpa using c2) (Ite.t (by simpa using c3) (Ite.t (by simpa using c4) ⟨b, idx_of (by omega) hx, rfl⟩)))) (fun x e => ?_)
    subst e
    cases x with
    | false => exact hF
    | true => exact hT (by omega) ⟨rfl, rfl, by omega, hx⟩
  · refine Jn.mk (fun b => b = false) (Ite.mk (fun a1 => Ite.mk (fun a2 => Ite.mk (fun a3 => Ite.mk (fun a4 => ?_) (fun _ => rfl)) (fun _ => rfl)) (fun _ => rfl)) (fun _ => rfl)) (fun b e => by rw [e]; exact hF)
    exact absurd ⟨of_decide_eq_true a1, of_decide_eq_true a2, of_decide_eq_true a3, of_decide_eq_true a4⟩ c
theorem S_region_Right {r : List Int} (hl : r.length ≤ 1000000) {post : Bool → Prop} (hF : post false) (hT : Asc r → (∀ x, x ∈ r → 0 ≤ x) → post true) : V_region_Right r post := by
  unfold V_region_Right
  refine Jn.mk (fun _ => Asc r ∧ ∀ x, x ∈ r → 0 ≤ x) (Loop.inv r.length (fun i (s : Int) => s = (i : Int) ∧ (∀ (j : Nat) x y, j + 1 < i → r[j]? = some x → r[j + 1]? = some y → x < y) ∧ ∀ (j : Nat) x, j < i → r[j]? = some x → 0 ≤ x) ⟨rfl, fun j x y h => by omega, fun j x h => by omega⟩ (fun i s hi hI => ?_) (fun s hI => ?_)) (fun _ h => hT h.1 h.2)
  · obtain ⟨rfl, hI, hP⟩ := hI
    have hx : r[i]? = some (r[i]'hi) := List.getElem?_eq_getElem hi
    generalize r[i]'hi = x at hx
    refine Ite.lt (by omega) ⟨x, idx_of rfl hx, Jn.mk (fun b => b = false → 0 ≤ x ∧ ∀ (j : Nat) x y, j + 1 < i + 1 → r[j]? = some x → r[j + 1]? = some y → x < y) ?_ (fun b hb => Ite.mk (fun e => hF) (fun e => ⟨w64_1 (by omega), (hb e).2, fun j y hj hy => ?_⟩))⟩
    · unfold V_region_isCell
      refine Jn.mk (fun b => b = true → 0 ≤ x) (Ite.mk (fun h1 h2 => of_decide_eq_true h1) (fun h1 h2 => by cases h2)) (fun b hb => Ite.mk (fun e => ?_) (fun e h => by cases h))
      have h0 := hb e
      refine Ite.mk (fun e => ?_) (fun e h => ⟨h0, ?_⟩)
      · have e' : 0 < i := by have := of_decide_eq_true e; omega
        have hy : r[i - 1]? = some (r[i - 1]'(by omega)) := List.getElem?_eq_getElem (by omega)
        generalize r[i - 1]'(by omega) = y at hy
        refine ⟨y, by rw [w64_p (by omega) (by omega)]; exact idx_of rfl hy, fun h => ⟨h0, ?_⟩⟩
        have h' := of_decide_eq_false h
        intro j x' y' hj h1 h2
        by_cases e2 : j + 1 = i
        · have : j = i - 1 := by omega
          subst this
          rw [hy] at h1; rw [e2, hx] at h2
          cases h1; cases h2; omega
        · exact hI j x' y' (by omega) h1 h2
      · have e' : ¬ 0 < i := by have := of_decide_eq_false e; omega
        intro j x' y' hj h1 h2; omega
    · by_cases e2 : j = i
      · subst e2; rw [hx] at hy; cases hy; exact (hb e).1
      · exact hP j y (by omega) hy
  · obtain ⟨rfl, hI, hP⟩ := hI
    refine Ite.nlt (by omega) ⟨fun i j x y hij h1 h2 => ?_, fun x hx => ?_⟩
    · have key : ∀ m (j : Nat) y, j = i + 1 + m → r[j]? = some y → x < y := by
        intro m
        induction m with
        | zero => intro j y e h2; subst e; exact hI i x y (by have := (List.getElem?_eq_some_iff.1 h2).1; omega) h1 h2
        | succ m ih =>
          intro j y e h2
          have hjl := (List.getElem?_eq_some_iff.1 h2).1
          have hz : r[i + 1 + m]? = some (r[i + 1 + m]'(by omega)) := List.getElem?_eq_getElem (by omega)
          have a1 := ih _ _ rfl hz
          have a2 := hI (i + 1 + m) _ y (by omega) hz (by rw [show i + 1 + m + 1 = j by omega]; exact h2)
          omega
      exact key (j - i - 1) j y (by omega) h2
    · obtain ⟨j, hj, e⟩ := List.mem_iff_getElem.1 hx
      exact hP j x hj (by rw [List.getElem?_eq_getElem hj, e])
theorem imax_gt {x y k : Int} : imax x y > k ↔ x > k ∨ y > k := by unfold imax; split <;> omega
theorem S_floor_Right {f : ApiFloor} {post : Bool → Prop} (hF : post false) (hT : RF f → post true) : V_floor_Right f post := by
  unfold V_floor_Right
  refine Jor3 (Ite.mk (fun _ => hF) (fun h1 => ?_))
  simp only [Bool.or_eq_false_iff, decide_eq_false_iff_not, imin_lt, imax_gt] at h1
  obtain ⟨⟨a1, a2⟩, a3⟩ := h1
  have e := size_eq (f := f) (by omega) (by omega) (by omega) (by omega) (by omega) (by omega)
  unfold V_floor_size
  rw [e.1]
  refine Jor3 (Ite.mk (fun _ => hF) (fun h2 => ?_))
  simp only [Bool.or_eq_false_iff, decide_eq_false_iff_not, bne_eq_false_iff_eq] at h2
  obtain ⟨⟨b1, b2⟩, b3⟩ := h2
  have hl : f.Kind.length ≤ maxLen := by unfold maxLen; omega
  refine Jn.mk (fun _ => ∀ (i : Nat) x y, f.Kind[i]? = some x → f.Out[i]? = some y → 0 ≤ x ∧ x < 7 ∧ 0 ≤ y ∧ y ≤ 63)
    (V_loopc hl (fun s => s) (fun n _ => ∀ (i : Nat) x y, i < n → f.Kind[i]? = some x → f.Out[i]? = some y → 0 ≤ x ∧ x < 7 ∧ 0 ≤ y ∧ y ≤ 63) rfl (fun i x y h => by omega) (fun n x t hx ht hall => ?_) (fun t h i x y hx hy => h i x y (List.getElem?_eq_some_iff.1 hx).1 hx hy)) (fun _ h => hT ?_)
  · have hn := (List.getElem?_eq_some_iff.1 hx).1
    have ho : f.Out[n]? = some (f.Out[n]'(by omega)) := List.getElem?_eq_getElem _
    refine Jn.eq (decide (x < 0) || decide (x ≥ 7) || decide (f.Out[n]'(by omega) < 0) || decide (f.Out[n]'(by omega) > 63)) ?_ ?_
    · refine Ite.mk (fun h => by rw [h]; rfl) (fun h => Ite.mk (fun h' => by rw [h, h']; rfl) (fun h' => ⟨_, by rw [ht]; exact idx_of rfl ho, Ite.mk (fun h'' => by rw [h, h', h'']; rfl) (fun h'' => by rw [h, h', h'']; rfl)⟩))
    · refine Ite.mk (fun _ => hF) (fun h3 => ⟨by rw [ht], fun i x' y' hi hx' hy' => ?_⟩)
      simp only [Bool.or_eq_false_iff, decide_eq_false_iff_not] at h3
      by_cases e : i = n
      · subst e; rw [hx] at hx'; rw [ho] at hy'; cases hx'; cases hy'; omega
      · exact hall i x' y' (by omega) hx' hy'
  · exact ⟨by omega, by omega, by omega, by omega, by omega, by omega, by omega, by omega, by omega, h⟩
theorem S_given {f : ApiFloor} {r : List Int} {l : ApiLayout} {most : Nat} (hm : most ≤ 24) {post : Bool → Prop} (hF : post false) (hT : RF f → r.length ≤ most → Asc r → LOk r.length (l.Full.count true) l → post true) : V_taquinlaw27_given f r l (most : Int) post := by
  unfold V_taquinlaw27_given
  by_cases c : (r.length : Int) > most
  · refine Jn.mk (fun b => b = true) (S_ref07_Few (Ite.f rfl rfl) (fun _ _ => Ite.t rfl (Ite.t (by simpa using c) rfl))) (fun b e => Ite.t e hF)
  by_cases c2 : (l.Full.length : Int) = (r.length : Int)
  · have e2 : l.Full.length = r.length := by omega
    refine Jn.mk (fun b => b = false → LOk r.length (l.Full.count true) l) (S_ref07_Few (Ite.f rfl (fun h => by cases h)) (fun _ _ => Ite.t rfl (Ite.f (by simpa using c) (Ite.f (by simp [c2]) (S_LRight (fun h => by cases h) (fun _ hok _ => by rw [e2] at hok; exact hok)))))) (fun b hb => Ite.mk (fun _ => hF) (fun e => ?_))
    have hok := hb e
    exact Jn.mk' (S_floor_Right (Ite.f rfl hF) (fun hf => Ite.t rfl (S_region_Right (by omega) hF (fun ha _ => hT hf (by omega) ha hok))))
  · refine Jn.mk (fun b => b = true) (S_ref07_Few (Ite.f rfl rfl) (fun _ _ => Ite.t rfl (Ite.f (by simpa using c) (Ite.t (by simpa using c2) rfl)))) (fun b e => Ite.t e hF)
end Go.Taq

/- The mathematics of the patterns, part FG: the examples; what the bounds say. -/
set_option linter.unusedVariables false
set_option linter.unusedSimpArgs false
namespace Go.Taq
open Go
/-- a table that is right, checked -/
def chkT (N : Nat) (pre : Nat → List Nat) (src : Nat → Bool) (t : List Int) : Bool :=
  decide (t.length = N) && (List.range N).all fun i => decide (gT t i ≤ N) && decide (-1 ≤ gT t i) && (src i == decide (gT t i = 0)) && (decide (gT t i ≤ 0) || (List.range N).any fun j => decide (gT t j = gT t i - 1) && (pre j).contains i) && (decide (gT t i < 0) || (pre i).all fun p => decide (0 ≤ gT t p) && decide (gT t p ≤ gT t i + 1))
theorem TOk.chk {N : Nat} {pre : Nat → List Nat} {src : Nat → Bool} {t : List Int} (hp : ∀ j, j < N → ∀ i, i ∈ pre j → i < N) (h : chkT N pre src t = true) : TOk N pre src t := by
  unfold chkT at h
  simp only [Bool.and_eq_true, decide_eq_true_eq, List.all_eq_true, List.mem_range, Bool.or_eq_true, List.any_eq_true, beq_iff_eq, List.contains_iff_mem] at h
  obtain ⟨hl, h⟩ := h
  have hpt : ∀ {e i : Nat}, Pt N pre src e i → 0 ≤ gT t i ∧ gT t i ≤ (e : Int) := by
    intro e i hP
    induction hP with
    | zero h1 h2 =>
      have h3 : src _ = _ := (h _ h1).1.1.2
      rw [h2] at h3
      have := of_decide_eq_true h3.symm
      omega
    | succ hj hi ih =>
      have hjn := hj.lt hp
      rcases (h _ hjn).2 with h3 | h3
      · omega
      · have := h3 _ hi; omega
  have hex : ∀ (d i : Nat), i < N → gT t i = (d : Int) → Pt N pre src d i := by
    intro d
    induction d with
    | zero =>
      intro i hi he
      refine .zero hi ?_
      rw [(h i hi).1.1.2]; exact decide_eq_true (by omega)
    | succ d ih =>
      intro i hi he
      rcases (h i hi).1.2 with h3 | ⟨j, hj, h4, h5⟩
      · omega
      · exact .succ (ih j hj (by omega)) h5
  refine ⟨hl, fun i hi => ?_, fun i hi => (h i hi).1.1.1.1⟩
  rcases Int.lt_or_le (gT t i) 0 with c | c
  · have := (h i hi).1.1.1.2
    exact .inl ⟨by omega, fun d hd => by have := hpt hd; omega⟩
  · obtain ⟨d, hd⟩ : ∃ d : Nat, gT t i = (d : Int) := ⟨(gT t i).toNat, by omega⟩
    exact .inr ⟨d, hd, hex d i hi hd, fun e he => by have := hpt he; omega⟩
def rowF : ApiFloor := { W := 4, H := 1, D := 1, Kind := [1, 1, 1, 1], Out := [1, 5, 5, 4] }
def r4 : List Int := [0, 1, 2, 3]
def tA : List Int := [3, 2, 1, 0]
def tB : List Int := (List.range 12).map fun i => let l := unrank 4 2 i; if l.Target = 3 then 0 else if (l.Full.drop (l.Target.toNat + 1)).contains true then -1 else 3 - l.Target
theorem RF_row : RF rowF := by
  refine ⟨by decide, by decide, by decide, by decide, by decide, by decide, by decide, by decide, by decide, fun i x y hx hy => ?_⟩
  have key : ∀ i : Nat, i < 4 → (0 ≤ rowF.Kind.getD i 0 ∧ rowF.Kind.getD i 0 < 7) ∧ (0 ≤ rowF.Out.getD i 0 ∧ rowF.Out.getD i 0 ≤ 63) := by decide
  have hi : i < 4 := (List.getElem?_eq_some_iff.1 hx).1
  have e1 : rowF.Kind.getD i 0 = x := by rw [List.getD_eq_getElem?_getD, hx]; rfl
  have e2 : rowF.Out.getD i 0 = y := by rw [List.getD_eq_getElem?_getD, hy]; rfl
  have := key i hi
  rw [e1, e2] at this
  omega
theorem Asc_r4 : Asc r4 := by
  intro i j x y hij hx hy
  have hj : j < 4 := (List.getElem?_eq_some_iff.1 hy).1
  have key : ∀ j, j < 4 → ∀ i, i < j → r4.getD i 0 < r4.getD j 0 := by decide +kernel
  have e1 : r4.getD i 0 = x := by rw [List.getD_eq_getElem?_getD, hx]; rfl
  have e2 : r4.getD j 0 = y := by rw [List.getD_eq_getElem?_getD, hy]; rfl
  rw [← e1, ← e2]; exact key j hj i hij
theorem chkA : chkT 4 (preT rowF r4 4 1) (srcT 4 1 3) tA = true := by decide +kernel
theorem chkB : chkT 12 (preT rowF r4 4 2) (srcT 4 2 3) tB = true := by decide +kernel
theorem row_tables {K : Nat} (hK : K ≤ 1) {ts : List (List Int)} (h : Db rowF r4 4 K 3 ts) : ts = if K = 0 then [tA] else [tA, tB] := by
  have a1 : ts.getD 0 [] = tA := (h.tb 0 (by omega)).eq (TOk.chk (preT_lt (by decide) (by decide)) chkA)
  have hl := h.len
  by_cases c : K = 0
  · subst c
    rw [if_pos rfl]
    match ts, hl with
    | [t], _ => simpa using a1
  · have : K = 1 := by omega
    subst this
    have a2 : ts.getD 1 [] = tB := (h.tb 1 (by omega)).eq (TOk.chk (preT_lt (by decide) (by decide)) chkB)
    rw [if_neg (by decide)]
    match ts, hl with
    | [t, u], _ => simp at a1 a2; rw [a1, a2]
theorem S_at {t o : Nat} (ht : t < 4) (ho : o < 4) {post : ApiLayout → Prop} (hp : post { Full := ((List.replicate 4 false).set t true).set o true, Target := (t : Int) }) : V_taquinlaw27_at (t : Int) (o : Int) post := by
  unfold V_taquinlaw27_at
  have key : ∀ t : Nat, t < 4 → band .i64 (t : Int) 3 = (t : Int) := by decide +kernel
  rw [key t ht, key o ho]
  refine ⟨⟨by decide, by decide⟩, false, idx_of rfl ?_, ?_⟩
  · simp only [Int.reduceToNat, List.getElem?_replicate]; rw [if_pos ht]
  · simp only [Int.reduceToNat, Int.toNat_natCast]
    have hx : ((List.replicate 4 false).set t true)[o]? = some (((List.replicate 4 false).set t true)[o]'(by simpa using ho)) := List.getElem?_eq_getElem _
    exact ⟨_, idx_of rfl hx, hp⟩
theorem okA {t o : Nat} (ht : t < 4) (ho : o < 4) : LOk 4 (if t = o then 1 else 2) { Full := ((List.replicate 4 false).set t true).set o true, Target := (t : Int) } := by
  have key : ∀ t : Nat, t < 4 → ∀ o : Nat, o < 4 → (((List.replicate 4 false).set t true).set o true).count true = (if t = o then 1 else 2) ∧ (((List.replicate 4 false).set t true).set o true)[t]? = some true := by decide
  obtain ⟨a, b⟩ := key t ht o ho
  exact ⟨by simp, a, by show (0 : Int) ≤ t; omega, by show (((List.replicate 4 false).set t true).set o true)[(t : Int).toNat]? = _; rw [Int.toNat_natCast]; exact b⟩
theorem S_small {post : Bool → Prop} (hp : post true) : V_taquinlaw27_small post := by
  unfold V_taquinlaw27_small V_taquinlaw27_row
  have hl0 : lim 4 0 := by
    refine ⟨by decide, fun j hj => ?_⟩
    have e : j = 0 := by omega
    subst e
    decide +kernel
  have hl1 : lim 4 1 := by
    refine ⟨by decide, fun j hj => ?_⟩
    have e : j = 0 ∨ j = 1 := by omega
    rcases e with e | e <;> subst e <;> decide +kernel
  refine S_Build (n := 4) RF_row rfl (by decide) Asc_r4 (fun h => absurd (by decide) h) (fun _ h => absurd hl0 h) (fun K eK _ _ ts hD => ?_)
  obtain rfl : K = 0 := by omega
  refine S_Build (n := 4) RF_row rfl (by decide) Asc_r4 (fun h => absurd (by decide) h) (fun _ h => absurd hl1 h) (fun K eK _ _ us hU => ?_)
  obtain rfl : K = 1 := by omega
  have e1 := row_tables (by decide) hD
  have e2 := row_tables (by decide) hU
  rw [if_pos rfl] at e1; rw [if_neg (by decide)] at e2
  subst e1; subst e2
  refine Jn.mk (fun b => b = false) (Ite.f rfl rfl) (fun b e => Ite.f e (Jn.mk (fun b => b = true) ?_ (fun b e => by rw [e]; exact hp)))
  refine S_at (t := 0) (o := 0) (by decide) (by decide) (S_Bound hD (okA (t := 0) (o := 0) (by decide) (by decide)) (Ite.t (by decide +kernel) ?_))
  refine S_at (t := 0) (o := 2) (by decide) (by decide) (S_Bound hD (okA (t := 0) (o := 2) (by decide) (by decide)) (Ite.t (by decide +kernel) ?_))
  refine S_at (t := 0) (o := 2) (by decide) (by decide) (S_Bound hU (okA (t := 0) (o := 2) (by decide) (by decide)) (Ite.t (by decide +kernel) ?_))
  refine S_at (t := 2) (o := 0) (by decide) (by decide) (S_Bound hU (okA (t := 2) (o := 0) (by decide) (by decide)) ?_)
  decide +kernel
/-! ## what the bounds say -/
theorem lim10 {n K : Nat} (hn : n ≤ 10) : lim n K := by
  refine ⟨by omega, fun j _ => ?_⟩
  have h1 := ch_pow (n - 1) (j + 1 - 1)
  have h2 : 2 ^ (n - 1) ≤ 2 ^ 9 := Nat.pow_le_pow_right (by omega) (by omega)
  have h3 : ch (n - 1) (j + 1 - 1) ≤ 512 := by omega
  have := Nat.mul_le_mul hn h3
  unfold nL; omega
section
variable {f : ApiFloor} {r : List Int} {n K : Nat} {goal : Int} {ts : List (List Int)}
theorem Db.dst (h : Db f r n K goal ts) (hn : n ≤ 12) {j : Nat} (hj : j ≤ K) : Dst f r n (j + 1) goal (ts.getD j []) := ⟨by omega, by have := h.hK; omega, hn, h.hr, h.tb j hj⟩
end
end Go.Taq

/- The law PatternTells, in plain data. -/
set_option linter.unusedVariables false
set_option linter.unusedSimpArgs false
namespace Go.Taq
open Go
theorem Said_taquinlaw27_PatternTells (f : ApiFloor) (k0 : OkApiFloor f) (r : List Int) (k1 : (OkL I64) r) (k : Int) (k2 : I64 k) (goal : Int) (k3 : I64 goal) (l : ApiLayout) (k4 : OkApiLayout l) : V_taquinlaw27_PatternTells f r k goal l (fun y => y = true) := by
  unfold V_taquinlaw27_PatternTells
  refine S_small ?_
  have go : RF f → r.length ≤ 9 → Asc r → LOk r.length (l.Full.count true) l → V_pattern_Build f r k goal
          (Sum.elim 
            (fun x14 => V_taquinref27_Build f r k goal 
              (Sum.elim 
                (fun x15 => Jn (fun (J17 : Bool → Prop) => Ite (x14.2 != x15.2) (J17 true) (J17 (!(true == true)))) (fun (x16 : Bool) => Ite x16 (false = true) (true = true))) 
                (fun x15 => Jn (fun (J27 : Bool → Prop) => Ite (x14.2 != x15.2) (J27 true) (J27 (!(true == false)))) (fun (x26 : Bool) => Ite x26 (false = true) (true = true))))) 
            (fun x14 => V_taquinref27_Build f r k goal 
              (Sum.elim 
                (fun x36 => Jn (fun (J38 : Bool → Prop) => Ite (x14.2 != x36.2) (J38 true) (J38 (!(false == true)))) (fun (x37 : Bool) => Ite x37 (false = true) (true = true))) 
                (fun x36 => Jn (fun (J48 : Bool → Prop) => Ite (x14.2 != x36.2) (J48 true) (J48 (!(false == false)))) 
                  (fun (x47 : Bool) => Ite x47 (false = true) 
                    (V_pattern_DB_Dist x14.1 l 
                      (fun x57 => V_taquinref27_DB_Dist x36.1 l 
                        (fun x60 => Jn 
                          (fun (J62 : Bool → Prop) => Ite true 
                            (Ite (x57.1 == x60.1) 
                              (Ite (x57.2 == x60.2) 
                                (V_pattern_DB_Bound x14.1 l 
                                  (fun x66 => V_taquinref27_DB_Bound x36.1 l 
                                    (fun x67 => Ite (x66 == x67) 
                                      (V_pattern_DB_Cells x14.1 
                                        (fun x69 => Ite (x69 == x36.1.N) 
                                          (V_pattern_DB_Others x14.1 (fun x71 => Ite (x71 == x36.1.K) (V_pattern_DB_Goal x14.1 (fun x73 => J62 (x73 == x36.1.Goal))) (J62 false))) (J62 false))) (J62 false)))) (J62 false)) (J62 false)) (J62 false)) (fun (x61 : Bool) => x61 = true))))))))) := fun hf hr ha hl => by
    refine S_Build hf rfl (by omega) ha (fun h => ?_) (fun h h' => absurd (lim10 (by omega)) h') (fun K eK g0 g1 ts hT => ?_)
    · exact S_rBuild hf rfl (by omega) ha (fun _ => Jn.mk (fun b => b = false) (Ite.f rfl rfl) (fun b e => Ite.f e rfl)) (fun h2 => absurd h2 h) (fun K eK g0 g1 us hU => absurd (by have := hU.hK; omega) h)
    · refine S_rBuild hf rfl (by omega) ha (fun h => absurd (by have := hT.hK; omega) h) (fun h h' => absurd (lim10 (by omega)) h') (fun K' eK' _ _ us hU => ?_)
      obtain rfl : K = K' := by omega
      obtain rfl := hT.eq hU
      subst eK
      have hkp := hl.kpos
      refine Jn.mk (fun b => b = false) (Ite.f rfl rfl) (fun b e => Ite.f e ?_)
      obtain ⟨kn, hkn⟩ : ∃ kn, l.Full.count true = kn + 1 := ⟨l.Full.count true - 1, by omega⟩
      rw [hkn] at hl
      have rest : ∀ b : Int × Bool, Jn (fun (J62 : Bool → Prop) => Ite true 
                            (Ite (b.1 == b.1) 
                              (Ite (b.2 == b.2) 
                                (V_pattern_DB_Bound { cells := (r.length : Int), goal := goal, tables := ts } l 
                                  (fun x66 => V_taquinref27_DB_Bound { N := (r.length : Int), K := (K : Int), Goal := goal, T := ts } l 
                                    (fun x67 => Ite (x66 == x67) 
                                      (V_pattern_DB_Cells { cells := (r.length : Int), goal := goal, tables := ts } 
                                        (fun x69 => Ite (x69 == (r.length : Int)) 
                                          (V_pattern_DB_Others { cells := (r.length : Int), goal := goal, tables := ts } (fun x71 => Ite (x71 == (K : Int)) (V_pattern_DB_Goal { cells := (r.length : Int), goal := goal, tables := ts } (fun x73 => J62 (x73 == goal))) (J62 false))) (J62 false))) (J62 false)))) (J62 false)) (J62 false)) (J62 false)) (fun (x61 : Bool) => x61 = true) := fun b => by
        refine Jn.mk (fun b => b = true) (Ite.t rfl (Ite.t (by simp) (Ite.t (by simp) (S_Bound hT hl (S_rBound hT hl (Ite.t (by simp) ?_)))))) (fun b e => e)
        have hKn := hT.hK
        have hlen : w64 (((ts.length : Nat) : Int) - 1) = (K : Int) := by rw [hT.len, w64_eq (by omega) (by omega)]; omega
        refine Ite.t (by simp) (Ite.t ?_ ?_)
        · show (w64 (((ts.length : Nat) : Int) - 1) == (K : Int)) = true
          rw [hlen]; simp
        · show (goal == goal) = true
          simp
      exact S_pDist hT hl (fun h => S_rDist hT hl (fun _ => rest _) (fun h' => by omega)) (fun h => S_rDist hT hl (fun h' => by omega) (fun _ => rest (0, false)))
  refine Jn.mk (fun b => b = false → V_pattern_Build f r k goal _) (S_given (most := 9) (by decide) (Ite.f rfl (fun h => by cases h)) (fun hf hr ha hl => Ite.t rfl (Ite.mk (fun _ _ => go hf hr ha hl) (fun _ _ => go hf hr ha hl)))) (fun b hb => Ite.mk (fun _ => rfl) (fun e => hb e))
end Go.Taq
