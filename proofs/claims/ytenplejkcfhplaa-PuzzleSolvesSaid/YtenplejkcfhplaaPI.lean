/- The mathematics of search: distances by breadth first search, over any numbers. -/
import Derived.Test.YtenplejkcfhplaaMR0
set_option linter.unusedVariables false
set_option linter.unusedSimpArgs false
namespace Go.Taq
open Go
def gT (t : List Int) (i : Nat) : Int := t.getD i (-1)
theorem gT_get {t : List Int} {i : Nat} (h : i < t.length) : t[i]? = some (gT t i) := by
  unfold gT; rw [List.getD_eq_getElem?_getD, List.getElem?_eq_getElem h]; rfl
theorem gT_set {t : List Int} {i j : Nat} {v : Int} (h : i < t.length) : gT (t.set i v) j = if i = j then v else gT t j := by
  unfold gT
  rw [List.getD_eq_getElem?_getD, List.getD_eq_getElem?_getD, List.getElem?_set]
  by_cases e : i = j
  · subst e; rw [if_pos rfl, if_pos h, if_pos rfl]; rfl
  · rw [if_neg e, if_neg e]
theorem gT_ext {t u : List Int} (h : t.length = u.length) (he : ∀ i, i < t.length → gT t i = gT u i) : t = u := by
  apply List.ext_getElem? 
  intro i
  rcases Nat.lt_or_ge i t.length with h1 | h1
  · rw [gT_get h1, gT_get (h ▸ h1), he i h1]
  · rw [List.getElem?_eq_none h1, List.getElem?_eq_none (by omega)]
theorem count_seti : ∀ {l : List Int} {i : Nat} {v : Int}, l[i]? = some (-1) → v ≠ -1 → (l.set i v).count (-1) + 1 = l.count (-1)
  | [], i, v, h, _ => by simp at h
  | b :: l, 0, v, h, hv => by
    simp at h; subst h
    rw [List.set_cons_zero, List.count_cons_of_ne (by simpa using hv), List.count_cons_self]
  | b :: l, i + 1, v, h, hv => by
    have ih := count_seti (l := l) (i := i) (v := v) (by simpa using h) hv
    simp only [List.set_cons_succ, List.count_cons]
    omega
/-- so many steps lead to a source -/
inductive Pt (N : Nat) (pre : Nat → List Nat) (src : Nat → Bool) : Nat → Nat → Prop
  | zero {i : Nat} : i < N → src i = true → Pt N pre src 0 i
  | succ {d i j : Nat} : Pt N pre src d j → i ∈ pre j → Pt N pre src (d + 1) i
section
variable {N : Nat} {pre : Nat → List Nat} {src : Nat → Bool}
theorem Pt.lt (hp : ∀ j, j < N → ∀ i, i ∈ pre j → i < N) {d i : Nat} (h : Pt N pre src d i) : i < N := by
  induction h with
  | zero h _ => exact h
  | succ _ h ih => exact hp _ ih _ h
/-- what the search gives -/
def TOk (N : Nat) (pre : Nat → List Nat) (src : Nat → Bool) (t : List Int) : Prop :=
  t.length = N ∧ (∀ i, i < N → (gT t i = -1 ∧ ∀ d, ¬ Pt N pre src d i) ∨ ∃ d : Nat, gT t i = (d : Int) ∧ Pt N pre src d i ∧ ∀ e, Pt N pre src e i → d ≤ e) ∧ ∀ i, i < N → gT t i ≤ N
theorem TOk.eq {t u : List Int} (h1 : TOk N pre src t) (h2 : TOk N pre src u) : t = u := by
  refine gT_ext (h1.1.trans h2.1.symm) (fun i hi => ?_)
  rw [h1.1] at hi
  rcases h1.2.1 i hi with ⟨a1, a2⟩ | ⟨d, a1, a2, a3⟩
  · rcases h2.2.1 i hi with ⟨b1, b2⟩ | ⟨e, b1, b2, b3⟩
    · rw [a1, b1]
    · exact absurd b2 (a2 e)
  · rcases h2.2.1 i hi with ⟨b1, b2⟩ | ⟨e, b1, b2, b3⟩
    · exact absurd a2 (b2 d)
    · have := a3 e b2; have := b3 d a2; rw [a1, b1]; omega
structure Bf (N : Nat) (pre : Nat → List Nat) (src : Nat → Bool) (out : List Int) (pend : List Nat) : Prop where
  ol : out.length = N
  pt : ∀ i, i < N → gT out i = -1 ∨ ∃ d : Nat, gT out i = (d : Int) ∧ Pt N pre src d i
  sr : ∀ i, i < N → src i = true → gT out i = 0
  qu : ∀ q, q ∈ pend → q < N ∧ 0 ≤ gT out q
  le : ∀ c q, c < N → q ∈ pend → gT out c ≤ gT out q + 1
  so : pend.Pairwise (fun p q => gT out p ≤ gT out q)
  dn : ∀ c, c < N → 0 ≤ gT out c → c ∈ pend ∨ ∀ p, p ∈ pre c → 0 ≤ gT out p ∧ gT out p ≤ gT out c + 1
  bd : ∀ c, c < N → gT out c + (out.count (-1) : Nat) ≤ (N : Int)
structure BfM (N : Nat) (pre : Nat → List Nat) (src : Nat → Bool) (out : List Int) (pend : List Nat) (q : Nat) (ps : List Nat) : Prop where
  ol : out.length = N
  pt : ∀ i, i < N → gT out i = -1 ∨ ∃ d : Nat, gT out i = (d : Int) ∧ Pt N pre src d i
  sr : ∀ i, i < N → src i = true → gT out i = 0
  qn : q < N
  q0 : 0 ≤ gT out q
  sb : ∀ p, p ∈ ps → p ∈ pre q
  qu : ∀ p, p ∈ pend → p < N ∧ gT out q ≤ gT out p
  le : ∀ c, c < N → gT out c ≤ gT out q + 1
  so : pend.Pairwise (fun p q => gT out p ≤ gT out q)
  dn : ∀ c, c < N → 0 ≤ gT out c → c ≠ q → c ∈ pend ∨ ∀ p, p ∈ pre c → 0 ≤ gT out p ∧ gT out p ≤ gT out c + 1
  dq : ∀ p, p ∈ pre q → p ∈ ps ∨ 0 ≤ gT out p
  bd : ∀ c, c < N → gT out c + (out.count (-1) : Nat) ≤ (N : Int)
def rO (out : List Int) (p : Nat) (n : Int) : List Int := if gT out p < 0 then out.set p n else out
def rQ (out : List Int) (pend : List Nat) (p : Nat) : List Nat := if gT out p < 0 then pend ++ [p] else pend
theorem Bf.pop {out : List Int} {q : Nat} {pend : List Nat} (h : Bf N pre src out (q :: pend)) : BfM N pre src out pend q (pre q) := by
  have hs := List.pairwise_cons.1 h.so
  refine ⟨h.ol, h.pt, h.sr, (h.qu q (by simp)).1, (h.qu q (by simp)).2, fun p hp => hp, fun p hp => ⟨(h.qu p (by simp [hp])).1, hs.1 p hp⟩, fun c hc => h.le c q hc (by simp), hs.2, fun c hc h0 hne => ?_, fun p hp => .inl hp, h.bd⟩
  rcases h.dn c hc h0 with h1 | h1
  · rcases List.mem_cons.1 h1 with e | e
    · exact absurd e hne
    · exact .inl e
  · exact .inr h1
theorem BfM.fin {out : List Int} {q : Nat} {pend : List Nat} (hp : ∀ j, j < N → ∀ i, i ∈ pre j → i < N) (h : BfM N pre src out pend q []) : Bf N pre src out pend := by
  refine ⟨h.ol, h.pt, h.sr, fun p hp => ⟨(h.qu p hp).1, by have := (h.qu p hp).2; have := h.q0; omega⟩, fun c p hc hp => by have := (h.qu p hp).2; have := h.le c hc; omega, h.so, fun c hc h0 => ?_, h.bd⟩
  by_cases e : c = q
  · subst e
    refine .inr fun p hpp => ?_
    rcases h.dq p hpp with h1 | h1
    · simp at h1
    · exact ⟨h1, h.le p (hp _ hc _ hpp)⟩
  · exact h.dn c hc h0 e
theorem BfM.step {out : List Int} {q p : Nat} {pend ps : List Nat} (hp : ∀ j, j < N → ∀ i, i ∈ pre j → i < N) (h : BfM N pre src out pend q (p :: ps)) :
    BfM N pre src (rO out p (gT out q + 1)) (rQ out pend p) q ps ∧ gT (rO out p (gT out q + 1)) q = gT out q ∧ (rO out p (gT out q + 1)).count (-1) + (rQ out pend p).length = out.count (-1) + pend.length := by
  have hpn : p < N := hp q h.qn p (h.sb p (by simp))
  by_cases hc : gT out p < 0
  · have e1 : rO out p (gT out q + 1) = out.set p (gT out q + 1) := if_pos hc
    have e2 : rQ out pend p = pend ++ [p] := if_pos hc
    have hpl : p < out.length := by rw [h.ol]; exact hpn
    have hp1 : gT out p = -1 := by
      rcases h.pt p hpn with h1 | ⟨d, h1, _⟩
      · exact h1
      · omega
    have hq0 := h.q0
    have hpq : p ≠ q := by rintro rfl; omega
    have g : ∀ c, gT (out.set p (gT out q + 1)) c = if p = c then gT out q + 1 else gT out c := fun c => gT_set hpl
    have gq : gT (out.set p (gT out q + 1)) q = gT out q := by rw [g, if_neg hpq]
    have gp : ∀ c, c ∈ pend → gT (out.set p (gT out q + 1)) c = gT out c := fun c hcp => by
      have := h.qu c hcp
      rw [g, if_neg]; rintro rfl; omega
    have ge : ∀ c, 0 ≤ gT out c → gT (out.set p (gT out q + 1)) c = gT out c := fun c hcp => by
      rw [g, if_neg]; rintro rfl; omega
    rw [e1, e2]
    refine ⟨⟨by simp [h.ol], fun i hi => ?_, fun i hi hs => ?_, h.qn, by rw [gq]; exact hq0, fun p' hp' => h.sb p' (by simp [hp']), fun c hcp => ?_, fun c hcn => ?_, ?_, fun c hcn h0 hne => ?_, fun p' hp' => ?_, fun c hcn => ?_⟩, gq, ?_⟩
    · rw [g]
      by_cases e : p = i
      · subst e; rw [if_pos rfl]
        rcases h.pt q h.qn with h1 | ⟨d, h1, h2⟩
        · omega
        · exact .inr ⟨d + 1, by rw [h1]; simp, .succ h2 (h.sb p (by simp))⟩
      · rw [if_neg e]; exact h.pt i hi
    · have := h.sr i hi hs
      rw [ge i (by omega)]; exact this
    · rw [gq]
      rcases List.mem_append.1 hcp with h1 | h1
      · rw [gp c h1]; exact h.qu c h1
      · simp at h1; subst h1; rw [g, if_pos rfl]; exact ⟨hpn, by omega⟩
    · rw [gq, g]
      split
      · omega
      · exact h.le c hcn
    · rw [List.pairwise_append]
      refine ⟨?_, by simp, fun a ha b hb => ?_⟩
      · refine h.so.imp_of_mem (fun {a b} ha hb h => ?_)
        rw [gp a ha, gp b hb]; exact h
      · simp at hb; subst hb
        rw [gp a ha, g, if_pos rfl]; exact h.le a (h.qu a ha).1
    · by_cases e : p = c
      · exact .inl (by simp [e])
      · have h0' : 0 ≤ gT out c := by rw [g, if_neg e] at h0; exact h0
        rcases h.dn c hcn h0' hne with h1 | h1
        · exact .inl (by simp [h1])
        · refine .inr fun p' hp' => ?_
          obtain ⟨h2, h3⟩ := h1 p' hp'
          rw [ge p' h2, ge c h0']; exact ⟨h2, h3⟩
    · by_cases e : p' = p
      · subst e; right; rw [g, if_pos rfl]; omega
      · rcases h.dq p' hp' with h1 | h1
        · rcases List.mem_cons.1 h1 with h2 | h2
          · exact absurd h2 e
          · exact .inl h2
        · right; rw [ge p' h1]; exact h1
    · have a1 := count_seti (l := out) (i := p) (v := gT out q + 1) (by rw [gT_get hpl, hp1]) (by omega)
      have a2 := h.bd q h.qn
      have a3 := h.bd c hcn
      rw [g]; split <;> omega
    · have := count_seti (l := out) (i := p) (v := gT out q + 1) (by rw [gT_get hpl, hp1]) (by omega)
      simp only [List.length_append, List.length_cons, List.length_nil]; omega
  · have e1 : rO out p (gT out q + 1) = out := if_neg hc
    have e2 : rQ out pend p = pend := if_neg hc
    rw [e1, e2]
    refine ⟨⟨h.ol, h.pt, h.sr, h.qn, h.q0, fun p' hp' => h.sb p' (by simp [hp']), h.qu, h.le, h.so, h.dn, fun p' hp' => ?_, h.bd⟩, rfl, rfl⟩
    rcases h.dq p' hp' with h1 | h1
    · rcases List.mem_cons.1 h1 with h2 | h2
      · subst h2; right; omega
      · exact .inl h2
    · exact .inr h1
theorem Bf.ok {out : List Int} (hp : ∀ j, j < N → ∀ i, i ∈ pre j → i < N) (h : Bf N pre src out []) : TOk N pre src out := by
  have key : ∀ {e i : Nat}, Pt N pre src e i → 0 ≤ gT out i ∧ gT out i ≤ (e : Int) := by
    intro e i hP
    induction hP with
    | zero h1 h2 => rw [h.sr _ h1 h2]; omega
    | succ hj hi ih =>
      have hjn := hj.lt hp
      rcases h.dn _ hjn ih.1 with h1 | h1
      · simp at h1
      · have := h1 _ hi
        omega
  refine ⟨h.ol, fun i hi => ?_, fun i hi => by have := h.bd i hi; omega⟩
  rcases h.pt i hi with h1 | ⟨d, h1, h2⟩
  · exact .inl ⟨h1, fun d hd => by have := key hd; omega⟩
  · exact .inr ⟨d, h1, h2, fun e he => by have := key he; omega⟩
/-- the search begins -/
def iO (N : Nat) (src : Nat → Bool) (i : Nat) : List Int := (List.range N).map fun j => if j < i then (if src j = true then 0 else -1) else 0
def iQ (src : Nat → Bool) (i : Nat) : List Nat := (List.range i).filter src
theorem iO_len {i : Nat} : (iO N src i).length = N := by simp [iO]
theorem iO_get {i j : Nat} (h : j < N) : gT (iO N src i) j = if j < i then (if src j = true then 0 else -1) else 0 := by
  unfold gT iO
  rw [List.getD_eq_getElem?_getD, List.getElem?_map, List.getElem?_range h]; rfl
theorem iO_zero : iO N src 0 = List.replicate N 0 := by
  refine gT_ext (by simp [iO]) (fun i hi => ?_)
  rw [iO_len] at hi
  rw [iO_get hi, if_neg (by omega)]
  unfold gT; rw [List.getD_eq_getElem?_getD, List.getElem?_replicate, if_pos hi]; rfl
theorem iO_succ {i : Nat} (h : i < N) : iO N src (i + 1) = (iO N src i).set i (if src i = true then 0 else -1) := by
  refine gT_ext (by simp [iO]) (fun j hj => ?_)
  rw [iO_len] at hj
  rw [iO_get hj, gT_set (by rw [iO_len]; exact h), iO_get hj]
  by_cases e : i = j
  · subst e; rw [if_pos rfl, if_pos (by omega)]
  · rw [if_neg e]
    by_cases e2 : j < i
    · rw [if_pos e2, if_pos (by omega)]
    · rw [if_neg e2, if_neg (by omega)]
theorem iQ_succ {i : Nat} : iQ src (i + 1) = iQ src i ++ (if src i = true then [i] else []) := by
  unfold iQ
  rw [List.range_succ, List.filter_append]
  congr 1
  by_cases h : src i = true
  · rw [if_pos h, List.filter_cons_of_pos h]; rfl
  · rw [if_neg h, List.filter_cons_of_neg h]; rfl
theorem iQ_len {i : Nat} : (iQ src i).length ≤ i := by
  unfold iQ; exact Nat.le_trans (List.length_filter_le _ _) (by simp)
theorem Bf.init : Bf N pre src (iO N src N) (iQ src N) := by
  have g : ∀ j, j < N → gT (iO N src N) j = if src j = true then 0 else -1 := fun j hj => by rw [iO_get hj, if_pos hj]
  have mq : ∀ q, q ∈ iQ src N → q < N ∧ gT (iO N src N) q = 0 := fun q hq => by
    unfold iQ at hq
    simp only [List.mem_filter, List.mem_range] at hq
    exact ⟨hq.1, by rw [g q hq.1, if_pos hq.2]⟩
  have le0 : ∀ j, j < N → gT (iO N src N) j ≤ 0 := fun j hj => by rw [g j hj]; split <;> omega
  refine ⟨iO_len, fun i hi => ?_, fun i hi hs => by rw [g i hi, if_pos hs], fun q hq => ⟨(mq q hq).1, by rw [(mq q hq).2]; omega⟩, fun c q hc hq => by have := le0 c hc; rw [(mq q hq).2]; omega, ?_, fun c hc h0 => ?_, fun c hc => by have a1 := le0 c hc; have a2 : (iO N src N).count (-1) ≤ N := Nat.le_trans List.count_le_length (by rw [iO_len]; omega); omega⟩
  · rw [g i hi]
    by_cases e : src i = true
    · rw [if_pos e]; exact .inr ⟨0, rfl, .zero hi e⟩
    · rw [if_neg e]; exact .inl rfl
  · refine List.Pairwise.imp_of_mem (R := fun _ _ => True) (fun {a b} ha hb _ => by rw [(mq a ha).2, (mq b hb).2]; omega) (List.pairwise_of_forall (fun _ _ => trivial))
  · rw [g c hc] at h0
    by_cases e : src c = true
    · exact .inl (by unfold iQ; simp [hc, e])
    · rw [if_neg e] at h0; omega
end
end Go.Taq
