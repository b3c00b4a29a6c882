/- The mathematics, several parts in one text. -/
import Derived.Test.YtbkpekodmhkbdaaGreatBC
/- The mathematics, part BD: all home, Safe, Check. -/
set_option linter.unusedVariables false
set_option linter.unusedSimpArgs false
namespace Go.Taq
open Go

theorem nodup_len : ∀ (n : Nat) (o : List Int), o.Nodup → (∀ x, x ∈ o → 0 ≤ x ∧ x < n) → o.length ≤ n
  | 0, o, _, h => by
    cases o with
    | nil => simp
    | cons x r => have := h x (by simp); omega
  | n + 1, o, hn, h => by
    by_cases hm : (n : Int) ∈ o
    · have h1 := nodup_len n (o.erase n) (hn.erase _) (fun x hx => by
        have h2 := (hn.mem_erase_iff).1 hx
        have := h x h2.2
        have := h2.1
        omega)
      rw [List.length_erase_of_mem hm] at h1
      omega
    · have := nodup_len n o hn (fun x hx => by
        have := h x hx
        have : x ≠ n := fun e => hm (e ▸ hx)
        omega)
      omega
/-- the situation in which some robots are home -/
def sitO (s : ApiSite) (st : ApiState) (homes o : List Int) : BankSituation := { s := s, st := st, homes := homes, home := hmS st o }
section
variable {s : ApiSite} {st : ApiState} {homes : List Int}
theorem hB_sit {o : List Int} {i : Int} : hB (sitO s st homes o) i = true ↔ i ∈ o ∧ liveB st i = true := hmS_iff
theorem hmS_snoc {o : List Int} {i : Int} (h : liveB st i = true) : hmS st (o ++ [i]) = upd (hmS st o) i true := by
  unfold hmS; rw [List.foldl_append]
  show (if liveB st i = true then _ else _) = _
  rw [if_pos h]
theorem live_rg {i : Int} (h : liveB st i = true) : 0 ≤ i ∧ i < st.Robots.length := by
  obtain ⟨n, r, hn, hx, _⟩ := liveB_iff h
  have := (List.getElem?_eq_some_iff.1 hx).1
  omega
/-- no robot has a way home any more -/
def Stop (s : ApiSite) (st : ApiState) (homes o : List Int) : Prop := ∀ i : Int, ¬ Wy (sitO s st homes o) i
/-- each robot of a list has a way home when those ahead of it are home -/
def Chain (s : ApiSite) (st : ApiState) (homes : List Int) (o : List Int) : Prop := ∀ p i q, o = p ++ i :: q → Wy (sitO s st homes p) i
/-- .. and none before it has one -/
def Fst1 (s : ApiSite) (st : ApiState) (homes : List Int) (o : List Int) : Prop := ∀ p i q, o = p ++ i :: q → ∀ j : Int, j < i → ¬ Wy (sitO s st homes p) j
theorem snoc_split {α : Type} {o : List α} {a : α} {p q : List α} {i : α} (h : o ++ [a] = p ++ i :: q) : (∃ q', o = p ++ i :: q') ∨ (p = o ∧ i = a) := by
  rcases List.append_eq_append_iff.1 h with ⟨w, h1, h2⟩ | ⟨w, h1, h2⟩
  · cases w with
    | nil => simp at h1 h2; exact .inr ⟨h1, h2.1.symm⟩
    | cons b w => simp at h2
  · cases w with
    | nil => simp at h1 h2; exact .inr ⟨h1.symm, h2.1⟩
    | cons b w =>
      simp at h2
      exact .inl ⟨w, by rw [h1, h2.1]⟩
theorem Chain.snoc {o : List Int} {i : Int} (h : Chain s st homes o) (hw : Wy (sitO s st homes o) i) : Chain s st homes (o ++ [i]) := fun p j q e => by
  rcases snoc_split e with ⟨q', e⟩ | ⟨e1, e2⟩
  · exact h p j q' e
  · subst e1; subst e2; exact hw
theorem Fst1.snoc {o : List Int} {i : Int} (h : Fst1 s st homes o) (hw : ∀ j : Int, j < i → ¬ Wy (sitO s st homes o) j) : Fst1 s st homes (o ++ [i]) := fun p j q e => by
  rcases snoc_split e with ⟨q', e⟩ | ⟨e1, e2⟩
  · exact h p j q' e
  · subst e1; subst e2; exact hw
theorem Chain.nodup : ∀ {o : List Int}, Chain s st homes o → o.Nodup ∧ ∀ x, x ∈ o → liveB st x = true := by
  intro o
  generalize hn : o.reverse = r
  induction r generalizing o with
  | nil => intro h; have : o = [] := by simpa using hn
           subst this; exact ⟨.nil, fun x hx => by cases hx⟩
  | cons a r ih =>
    intro h
    have ho : o = r.reverse ++ [a] := by have := congrArg List.reverse hn; simpa using this
    subst ho
    have h1 : Chain s st homes r.reverse := fun p i q e => h p i (q ++ [a]) (by rw [e]; simp)
    obtain ⟨g1, g2⟩ := ih (by simp) h1
    have hw := h r.reverse a [] rfl
    refine ⟨List.nodup_append.2 ⟨g1, by simp, fun x hx y hy => ?_⟩, fun x hx => ?_⟩
    · simp at hy; subst hy
      intro e; subst e
      have := (hB_sit (s := s) (st := st) (homes := homes)).2 ⟨hx, hw.1⟩
      rw [hw.2.1] at this; cases this
    · rcases List.mem_append.1 hx with h | h
      · exact g2 x h
      · simp at h; subst h; exact hw.1
/-- all that live are home -/
theorem S_bank_all {x : BankSituation} (hz : Sz x.st) {post : Bool → Prop} (hT : (∀ i : Int, liveB x.st i = true → hB x i = true) → post true) (hF : (∃ i : Int, liveB x.st i = true ∧ hB x i = false) → post false) : V_bank_situation_all x post := by
  have q2 := hz.rb
  unfold V_bank_situation_all
  refine Jn.mk (fun _ => ∀ i : Int, liveB x.st i = true → hB x i = true) (Loop.inv x.st.Robots.length (fun i (t : Int) => t = (i : Int) ∧ ∀ j : Int, j < i → liveB x.st j = true → hB x j = true) ⟨rfl, fun j h1 h2 => by have := live_rg h2; omega⟩ (fun i t hi hI => ?_) (fun t hI => ?_)) (fun _ h => hT h)
  · obtain ⟨ht, hI⟩ := hI
    subst ht
    refine Ite.lt (by omega) (Jn.mk (fun b => b = (liveB x.st i && !hB x i)) (S_bank_alive (Ite.mk (fun h => by rw [h]; rfl) (fun h => by rw [h]; rfl))) (fun b hb => Ite.mk (fun h => ?_) (fun h => ?_)))
    · rw [h] at hb
      have := hb.symm
      simp at this
      exact hF ⟨i, this⟩
    · rw [h] at hb
      refine ⟨by rw [w64_eq (by omega) (by omega)]; simp, fun j hj hl => ?_⟩
      by_cases e : j = i
      · subst e; rw [hl] at hb; have := hb.symm; simp at this; exact this
      · exact hI j (by omega) hl
  · obtain ⟨ht, hI⟩ := hI
    exact Ite.nlt (by omega) fun i hl => hI i (by have := live_rg hl; omega) hl
/-- the search for an order -/
theorem S_bank_Safe (hf : RF s.Floor) (hz : Sz st) (k : OkApiState st) (hl : homes.length = st.Robots.length) {post : List Int × Bool → Prop}
    (hp : ∀ o b, Chain s st homes o → Fst1 s st homes o → Stop s st homes o → (b = true ↔ ∀ i : Int, liveB st i = true → i ∈ o) → post (o, b)) : V_bank_Safe s st homes post := by
  have q2 := hz.rb
  unfold V_bank_Safe
  refine S_newSituation (by simp) (Jn.mk (fun t : List (Int × Bool) × List Int => t.1 = hmS st t.2 ∧ Chain s st homes t.2 ∧ Fst1 s st homes t.2 ∧ Stop s st homes t.2) (Loop.mk (fun t : List (Int × Bool) × List Int × Int => t.1 = hmS st t.2.1 ∧ Chain s st homes t.2.1 ∧ Fst1 s st homes t.2.1 ∧ 0 ≤ t.2.2 ∧ t.2.2 ≤ st.Robots.length ∧ ∀ j : Int, j < t.2.2 → ¬ Wy (sitO s st homes t.2.1) j) (fun t => (st.Robots.length - t.2.1.length) * 2000 + (st.Robots.length - t.2.2.toNat)) ?_ ?_) (fun t ht => ?_))
  · exact ⟨rfl, fun p i q e => by simp at e, fun p i q e => by simp at e, by show (0 : Int) ≤ 0; omega, by show (0 : Int) ≤ _; omega, fun j hj hw => by have := live_rg hw.1; have : j < (0 : Int) := hj; omega⟩
  · rintro ⟨m, o, i⟩ ⟨hm, hc, hfi, h0, h1, hno⟩
    simp only at hm hc hfi h0 h1 hno
    refine Ite.mk (fun h => ?_) (fun h => ?_)
    · have hlt : i < (st.Robots.length : Int) := by simpa using h
      obtain ⟨hnd, hlv⟩ := hc.nodup
      have hol := nodup_len st.Robots.length o hnd (fun x hx => live_rg (hlv x hx))
      have ex : ({ s := s, st := st, homes := homes, home := m } : BankSituation) = sitO s st homes o := by unfold sitO; rw [hm]
      show V_bank_situation_way { s := s, st := st, homes := homes, home := m } i _
      rw [ex]
      have no : ¬ Wy (sitO s st homes o) i → (((upd m i true, o ++ [i], (-1 : Int)) : List (Int × Bool) × List Int × Int) = ((upd m i true, o ++ [i], (-1 : Int)))) := fun _ => rfl
      refine S_bank_way (x := sitO s st homes o) hf hz k hl (fun hw => ?_) (fun kk p hw _ _ hway => ?_)
      · refine Jn.mk' (Ite.f (by simp) ?_)
        refine ⟨⟨hm, hc, hfi, ?_, ?_, fun j hj => ?_⟩, ?_⟩
        · show 0 ≤ w64 (i + 1); rw [w64_eq (by omega) (by omega)]; omega
        · show w64 (i + 1) ≤ _; rw [w64_eq (by omega) (by omega)]; omega
        · have hj' : j < w64 (i + 1) := hj
          rw [w64_eq (by omega) (by omega)] at hj'
          by_cases e : j = i
          · subst e; exact hw
          · exact hno j (by omega)
        · show (st.Robots.length - o.length) * 2000 + (st.Robots.length - (w64 (i + 1)).toNat) < _
          rw [w64_eq (by omega) (by omega)]
          show _ < (st.Robots.length - o.length) * 2000 + (st.Robots.length - i.toNat)
          omega
      · have hlen := hway.len
        have hio : i ∉ o := fun hmm => by have := (hB_sit (s := s) (st := st) (homes := homes)).2 ⟨hmm, hw.1⟩; rw [hw.2.1] at this; cases this
        have hc' := hc.snoc hw
        have hol' := nodup_len st.Robots.length (o ++ [i]) hc'.nodup.1 (fun x hx => live_rg (hc'.nodup.2 x hx))
        simp only [List.length_append, List.length_singleton] at hol'
        refine Jn.mk' (Ite.t (by rw [hlen]; exact decide_eq_true (by omega)) ⟨by simp; omega, ?_⟩)
        have w0 : w64 (-1 + 1) = 0 := by decide
        refine ⟨⟨?_, hc', hfi.snoc hno, ?_, ?_, fun j hj hwj => ?_⟩, ?_⟩
        · show upd m i true = hmS st (o ++ [i]); rw [hmS_snoc (st := st) hw.1, hm]
        · show 0 ≤ w64 (-1 + 1); rw [w0]; decide
        · show w64 (-1 + 1) ≤ _; rw [w0]; omega
        · have hj' : j < w64 (-1 + 1) := hj
          rw [w0] at hj'
          have := live_rg hwj.1; omega
        · show (st.Robots.length - (o ++ [i]).length) * 2000 + (st.Robots.length - (w64 (-1 + 1)).toNat) < (st.Robots.length - o.length) * 2000 + (st.Robots.length - i.toNat)
          rw [w0, List.length_append, List.length_singleton]
          have : st.Robots.length - o.length = (st.Robots.length - (o.length + 1)) + 1 := by omega
          rw [this, Nat.add_mul]
          show _ + (st.Robots.length - 0) < _
          omega
    · have hnl : ¬ i < (st.Robots.length : Int) := by simpa using h
      exact ⟨hm, hc, hfi, fun j hw => hno j (by have : 0 ≤ j ∧ j < (st.Robots.length : Int) := live_rg hw.1; show j < i; omega) hw⟩
  · obtain ⟨m, o⟩ := t
    obtain ⟨hm, hc, hfi, hs⟩ := ht
    simp only at hm hc hfi hs
    subst hm
    refine S_bank_all (x := { s := s, st := st, homes := homes, home := hmS st o }) hz (fun h => hp o true hc hfi hs ⟨fun _ i hi => (hB_sit (s := s) (homes := homes).1 (h i hi)).1, fun _ => rfl⟩) (fun ⟨i, h1, h2⟩ => hp o false hc hfi hs ⟨fun h => (by cases h), fun h => ?_⟩)
    have := (hB_sit (s := s) (st := st) (homes := homes) (o := o) (i := i)).2 ⟨h i h1, h1⟩
    have h2' : hB (sitO s st homes o) i = false := h2
    rw [this] at h2'; cases h2'
end
end Go.Taq

/- The mathematics, part BE: Way; BankGrows but for the examples. -/
set_option linter.unusedVariables false
set_option linter.unusedSimpArgs false
namespace Go.Taq
open Go

section
variable {s : ApiSite} {st : ApiState} {homes : List Int}
theorem S_bank_Way (hf : RF s.Floor) (hz : Sz st) (k : OkApiState st) (hl : homes.length = st.Robots.length) {gone : List Int} (hg : gone.length ≤ maxLen) {i : Int} {post : List Int → Prop} (hn : ¬ Wy (sitO s st homes gone) i → post [])
    (hy : ∀ (k : Nat) p, Wy (sitO s st homes gone) i → (∀ j, PB s.Floor (homes.getD i.toNat 0) (avL (sitO s st homes gone) i) j (rAt st i).Cell → k ≤ j) → WayL s.Floor (avL (sitO s st homes gone) i) (rAt st i).Cell (homes.getD i.toNat 0) k p → post p) : V_bank_Way s st homes gone i post := by
  unfold V_bank_Way
  exact S_newSituation hg (S_bank_way (x := sitO s st homes gone) hf hz k hl hn (fun k p h1 _ h3 h4 => hy k p h1 h3 h4))
theorem avL_mono {o o' : List Int} (h : ∀ j : Int, hB (sitO s st homes o) j = true → hB (sitO s st homes o') j = true) {i c : Int} (hc : c ∈ avL (sitO s st homes o') i) : c ∈ avL (sitO s st homes o) i := by
  have hF : ∀ j : Nat, c ∈ avF (sitO s st homes o') i j → c ∈ avF (sitO s st homes o) i j := fun j hj => by
    unfold avF at hj ⊢
    by_cases e : (j : Int) = i
    · rw [if_pos e] at hj; cases hj
    · rw [if_neg e] at hj ⊢
      by_cases h2 : hB (sitO s st homes o) j = true
      · rw [if_pos (h _ h2)] at hj; rw [if_pos h2]; exact hj
      · rw [if_neg h2]
        by_cases h3 : hB (sitO s st homes o') j = true
        · rw [if_pos h3] at hj
          rcases List.mem_cons.1 hj with e | e
          · exact e ▸ List.mem_cons_self ..
          · cases e
        · rw [if_neg h3] at hj; exact hj
  unfold avL at hc ⊢
  rw [List.mem_filter] at hc ⊢
  refine ⟨?_, hc.2⟩
  have h1 := hc.1
  rcases List.mem_append.1 h1 with h1 | h1
  · refine List.mem_append_left _ ?_
    rcases List.mem_append.1 h1 with h1 | h1
    · exact List.mem_append_left _ h1
    · refine List.mem_append_right _ ?_
      obtain ⟨j, hj, hcj⟩ := List.mem_flatMap.1 h1
      exact List.mem_flatMap.2 ⟨j, hj, hF j hcj⟩
  · exact List.mem_append_right _ h1
theorem Wy_mono {o o' : List Int} (h : ∀ j : Int, hB (sitO s st homes o) j = true → hB (sitO s st homes o') j = true) {i : Int} (hw : Wy (sitO s st homes o) i) (hi : hB (sitO s st homes o') i = false) : Wy (sitO s st homes o') i := by
  obtain ⟨h1, _, k, hk⟩ := hw
  exact ⟨h1, hi, k, hk.mono (fun x hx => avL_mono h hx)⟩
end
end Go.Taq

/- The mathematics, part BF: Check; the examples of chapter 21; BankGrows. -/
set_option linter.unusedVariables false
set_option linter.unusedSimpArgs false
namespace Go.Taq
open Go

section
variable {s : ApiSite} {st : ApiState} {homes : List Int}
theorem S_bank_Check (hf : RF s.Floor) (hz : Sz st) (k : OkApiState st) (hl : homes.length = st.Robots.length) {o : List Int} (ho : o.length ≤ 1000) {post : Int × Int → Prop}
    (h1 : ∀ i : Int, ¬ (o.Nodup ∧ ∀ x, x ∈ o → liveB st x = true) → post (i, 1))
    (h2 : ∀ p x q, o = p ++ x :: q → Chain s st homes p → ¬ Wy (sitO s st homes p) x → o.Nodup → (∀ x, x ∈ o → liveB st x = true) → post ((p.length : Int), 14))
    (h3 : Chain s st homes o → (∀ i : Int, liveB st i = true → i ∈ o) → post (-1, 0))
    (h4 : Chain s st homes o → ¬ (∀ i : Int, liveB st i = true → i ∈ o) → post ((o.length : Int), 19)) : V_bank_Check s st homes o post := by
  unfold V_bank_Check
  refine S_newSituation (by simp) ?_
  show Jn _ _
  refine Jn.mk (fun _ => o.Nodup ∧ ∀ x, x ∈ o → liveB st x = true) (Loop.inv o.length (fun i (t : Int) => t = (i : Int) ∧ (o.take i).Nodup ∧ ∀ x, x ∈ o.take i → liveB st x = true) ⟨rfl, by simp, fun x hx => by simp at hx⟩ (fun i t hi hI => ?_) (fun t hI => ?_)) (fun _ hlv => ?_)
  · obtain ⟨ht, hI1, hI2⟩ := hI
    subst ht
    have hx := List.getElem?_eq_getElem hi
    generalize o[i] = x at hx
    have esub : sub o 0 (i : Int) = o.take i := by simp [sub]
    refine Ite.lt (by omega) ⟨x, idx_of rfl hx, Jn.mk (fun b => b = (!liveB st x || (o.take i).contains x)) (S_bank_alive (Ite.mk (fun h => ⟨⟨by omega, by omega, by omega⟩, ?_⟩) (fun h => ?_))) (fun b hb => Ite.mk (fun h => h1 _ fun hc => ?_) (fun h => ⟨by rw [w64_eq (by omega) (by omega)]; simp, ?_⟩))⟩
    · rw [esub]
      refine S_slices_Contains (by rw [List.length_take]; unfold maxLen; omega) ?_
      have h' : liveB st x = true := h
      rw [h']; rfl
    · have h' : liveB st x = false := h
      rw [h']; rfl
    · rw [h] at hb
      have h5 := hc.2 x (List.mem_of_getElem? hx)
      rw [h5] at hb
      have h6 : x ∈ o.take i := by simpa using hb.symm
      have h7 := hc.1
      have e : o = o.take i ++ o.drop i := (List.take_append_drop i o).symm
      rw [e, List.nodup_append] at h7
      have h8 : x ∈ o.drop i := by
        rw [List.drop_eq_getElem_cons hi]
        have := List.getElem?_eq_getElem hi
        rw [hx] at this
        rw [← Option.some.inj this]; exact List.mem_cons_self ..
      exact h7.2.2 x h6 x h8 rfl
    · rw [h] at hb
      have hb' := hb.symm
      simp at hb'
      rw [take_succ hx]
      refine ⟨List.nodup_append.2 ⟨hI1, by simp, fun a ha b hb2 => ?_⟩, fun y hy => ?_⟩
      · simp at hb2; subst hb2
        intro e; subst e
        exact hb'.2 ha
      · rcases List.mem_append.1 hy with h | h
        · exact hI2 y h
        · simp at h; subst h; exact hb'.1
  · obtain ⟨ht, hI1, hI2⟩ := hI
    rw [List.take_length] at hI1 hI2
    exact Ite.nlt (by omega) ⟨hI1, hI2⟩
  · obtain ⟨hnd, hlv⟩ := hlv
    refine Jn.mk (fun m => m = hmS st o ∧ Chain s st homes o) (Loop.inv o.length (fun i (t : List (Int × Bool) × Int) => t.2 = (i : Int) ∧ t.1 = hmS st (o.take i) ∧ Chain s st homes (o.take i)) ⟨rfl, rfl, fun p x q e => by simp at e⟩ (fun i t hi hI => ?_) (fun t hI => ?_)) (fun m hm => ?_)
    · obtain ⟨ht, hI1, hI2⟩ := hI
      have hx := List.getElem?_eq_getElem hi
      have hsplit : o = o.take i ++ o[i] :: o.drop (i + 1) := by
        conv => lhs; rw [← List.take_append_drop i o]
        rw [List.drop_eq_getElem_cons hi]
      generalize o[i] = x at hx hsplit
      have hti : (o.take i).length = i := by rw [List.length_take]; omega
      have hlx := hlv x (List.mem_of_getElem? hx)
      have ex : ({ s := s, st := st, homes := homes, home := t.1 } : BankSituation) = sitO s st homes (o.take i) := by unfold sitO; rw [hI1]
      refine Ite.lt (by omega) ⟨x, idx_of ht hx, ?_⟩
      show V_bank_situation_way { s := s, st := st, homes := homes, home := t.1 } x _
      rw [ex]
      refine S_bank_way (x := sitO s st homes (o.take i)) hf hz k hl (fun hw => Ite.t rfl ?_) (fun kk p hw _ _ hp => Ite.f (by rw [hp.len]; simp; omega) ⟨by rw [ht, w64_eq (by omega) (by omega)]; simp, ?_, ?_⟩)
      · have := h2 (o.take i) x _ hsplit hI2 hw hnd hlv
        rw [hti] at this; rw [ht]; exact this
      · show upd t.1 x true = _
        rw [take_succ hx, hmS_snoc (st := st) hlx, hI1]
      · rw [take_succ hx]; exact hI2.snoc hw
    · obtain ⟨ht, hI1, hI2⟩ := hI
      rw [List.take_length] at hI1 hI2
      exact Ite.nlt (by omega) ⟨hI1, hI2⟩
    · obtain ⟨hm, hc⟩ := hm
      subst hm
      refine S_bank_all (x := { s := s, st := st, homes := homes, home := hmS st o }) hz (fun h => Ite.f rfl (h3 hc fun i hi => (hB_sit (s := s) (homes := homes).1 (h i hi)).1)) (fun ⟨i, g1, g2⟩ => Ite.t rfl (h4 hc fun h => ?_))
      have := (hB_sit (s := s) (st := st) (homes := homes) (o := o) (i := i)).2 ⟨h i g1, g1⟩
      have g2' : hB (sitO s st homes o) i = false := g2
      rw [this] at g2'; cases g2'
end
def e21F : ApiFloor := { W := 5, H := 1, D := 1, Kind := [3, 1, 1, 1, 1], Out := [5, 5, 5, 5, 5] }
def e21S : ApiSite := { Floor := e21F, Zones := [], Aparts := [], Shelves := [], Robots := [{ Cell := 1, Charge := 9 }, { Cell := 2, Charge := 9 }] }
def e21T : ApiState := { Tick := 0, Shelves := [], Robots := [{ Cell := 1, Load := -1, Charge := 9, Rest := 0, Mute := 0, Dead := false }, { Cell := 2, Load := -1, Charge := 9, Rest := 0, Mute := 0, Dead := false }], People := [], Dead := [], Stuck := [] }
theorem e21RF : RF e21F := by
  refine ⟨by decide, by decide, by decide, by decide, by decide, by decide, by decide, by decide, by decide, fun i x y hx hy => ?_⟩
  match i, hx, hy with
  | 0, hx, hy => simp [e21F] at hx hy; omega
  | 1, hx, hy => simp [e21F] at hx hy; omega
  | 2, hx, hy => simp [e21F] at hx hy; omega
  | 3, hx, hy => simp [e21F] at hx hy; omega
  | 4, hx, hy => simp [e21F] at hx hy; omega
  | n + 5, hx, hy => simp [e21F] at hx
theorem e21Z : Sz e21T := ⟨by decide, by decide, by decide, by decide, by decide⟩
theorem e21K : OkApiState e21T where
  Tick := i64_of (by decide)
  Shelves := ok_ml (by decide) (fun c hc => by cases hc)
  Robots := ok_ml (by decide) (fun r hr => by
    simp only [e21T, List.mem_cons, List.not_mem_nil, or_false] at hr
    rcases hr with rfl | rfl
    · exact ⟨i64_of (by decide), i64_of (by decide), i64_of (by decide), i64_of (by decide), i64_of (by decide), trivial⟩
    · exact ⟨i64_of (by decide), i64_of (by decide), i64_of (by decide), i64_of (by decide), i64_of (by decide), trivial⟩)
  People := ok_ml (by decide) (fun c hc => by cases hc)
  Dead := ok_ml (by decide) (fun c hc => by cases hc)
  Stuck := ok_ml (by decide) (fun c hc => by cases hc)
theorem e21l {i : Int} : liveB e21T i = true ↔ i = 0 ∨ i = 1 := by
  constructor
  · intro h
    have := live_rg h
    have : i < 2 := this.2
    omega
  · rintro (h | h) <;> subst h <;> decide
theorem e21a : Wy (sitO e21S e21T [0, 4] []) 0 := ⟨by decide, by decide, 1, 0, 2, ⟨by decide, by decide, by decide, by decide⟩, by decide, by decide, by decide, by decide, by decide, by decide⟩
theorem e21b : Wy (sitO e21S e21T [0, 4] [0]) 1 := ⟨by decide, by decide, 2, 3, 0, ⟨4, 0, ⟨by decide, by decide, by decide, by decide⟩, by decide, by decide, by decide, by decide, by decide, by decide⟩, by decide, by decide, by decide, by decide, by decide, by decide⟩
theorem e21c : Wy (sitO e21S e21T [4, 3] []) 1 := ⟨by decide, by decide, 1, 3, 0, ⟨by decide, by decide, by decide, by decide⟩, by decide, by decide, by decide, by decide, by decide, by decide⟩
theorem e21no {l : List Int} (h : (3 : Int) ∈ l) : ∀ (k : Nat) (c : Int), PB e21F 4 l k c → c = 4
  | 0, c, hc => by have := hc.1; simpa using this
  | k + 1, c, ⟨p, d, hp, d0, d1, hb, hok⟩ => by
    have := e21no h k p hp
    subst this
    have : d = 0 ∨ d = 1 ∨ d = 2 ∨ d = 3 ∨ d = 4 ∨ d = 5 := by omega
    rcases this with e | e | e | e | e | e <;> subst e
    · have e3 : bk e21F 4 0 = (3, true) := by decide
      rw [e3] at hb
      have : c = 3 := by injection hb with h1; exact h1.symm
      subst this
      exact absurd h hok.2.2
    · exact absurd (show (bk e21F 4 1).2 = true from congrArg Prod.snd hb) (by decide)
    · exact absurd (show (bk e21F 4 2).2 = true from congrArg Prod.snd hb) (by decide)
    · exact absurd (show (bk e21F 4 3).2 = true from congrArg Prod.snd hb) (by decide)
    · exact absurd (show (bk e21F 4 4).2 = true from congrArg Prod.snd hb) (by decide)
    · exact absurd (show (bk e21F 4 5).2 = true from congrArg Prod.snd hb) (by decide)
theorem e21d : ¬ Wy (sitO e21S e21T [4, 3] []) 0 := fun ⟨_, _, k, hk⟩ => absurd (e21no (by decide) k _ hk) (by decide)
theorem e21e : ¬ Wy (sitO e21S e21T [4, 3] [1]) 0 := fun ⟨_, _, k, hk⟩ => absurd (e21no (by decide) k _ hk) (by decide)
theorem e21f : Wy (sitO e21S e21T [0, 1] []) 0 := ⟨by decide, by decide, 1, 0, 2, ⟨by decide, by decide, by decide, by decide⟩, by decide, by decide, by decide, by decide, by decide, by decide⟩
theorem S_law21_small {post : Bool → Prop} (hp : post true) : V_taquinlaw21_small post := by
  unfold V_taquinlaw21_small V_taquinlaw21_sample
  show V_bank_Safe e21S e21T [0, 4] _
  have nil0 : ∀ {H : List Int} {o : List Int}, Chain e21S e21T H o → ∀ p x q, o = p ++ x :: q → x = 0 ∨ x = 1 := fun h p x q e => e21l.1 (h p x q e).1
  refine S_bank_Safe e21RF e21Z e21K rfl (fun o b hc hf hs hb => ?_)
  have ho : o = [0, 1] := by
    match o, hc, hf, hs with
    | [], _, _, hs => exact absurd e21a (hs 0)
    | a :: q, hc, hf, hs =>
      have h1 := nil0 hc [] a q rfl
      have ha : a = 0 := by
        rcases h1 with h | h
        · exact h
        · subst h; exact absurd e21a (hf [] 1 q rfl 0 (by decide))
      subst ha
      match q, hc, hs with
      | [], _, hs => exact absurd e21b (hs 1)
      | a :: q, hc, hs =>
        have hw := hc [0] a q rfl
        have ha : a = 1 := by
          rcases e21l.1 hw.1 with h | h
          · subst h; exact absurd hw.2.1 (by decide)
          · exact h
        subst ha
        match q, hc with
        | [], _ => rfl
        | a :: q, hc =>
          have hw := hc [0, 1] a q rfl
          rcases e21l.1 hw.1 with h | h
          · subst h; exact absurd hw.2.1 (by decide)
          · subst h; exact absurd hw.2.1 (by decide)
  subst ho
  have hb1 : b = true := hb.2 (fun i hi => by rcases e21l.1 hi with h | h <;> subst h <;> decide)
  subst hb1
  refine S_bank_Safe e21RF e21Z e21K rfl (fun o b hc hf hs hb => ?_)
  have ho : o = [1] := by
    match o, hc, hs with
    | [], _, hs => exact absurd e21c (hs 1)
    | a :: q, hc, hs =>
      have hw := hc [] a q rfl
      have ha : a = 1 := by
        rcases e21l.1 hw.1 with h | h
        · subst h; exact absurd hw e21d
        · exact h
      subst ha
      match q, hc with
      | [], _ => rfl
      | a :: q, hc =>
        have hw := hc [1] a q rfl
        rcases e21l.1 hw.1 with h | h
        · subst h; exact absurd hw e21e
        · subst h; exact absurd hw.2.1 (by decide)
  subst ho
  have hb1 : b = false := by
    cases e : b with
    | false => rfl
    | true => exact absurd (hb.1 e 0 (by decide)) (by decide)
  subst hb1
  refine S_bank_Check e21RF e21Z e21K rfl (by decide) (fun i h => ?_) (fun p x q e hc hw _ _ => ?_) (fun hc _ => absurd (hc [1] 0 [] rfl) e21e) (fun hc _ => absurd (hc [1] 0 [] rfl) e21e)
  · refine absurd ⟨by decide, fun x hx => ?_⟩ h
    simp at hx; rcases hx with h | h <;> subst h <;> decide
  · have hpx : p = [1] ∧ x = 0 := by
      match p, e with
      | [], e => injection e with e1 e2; subst e1; exact absurd e21c hw
      | [a], e => simp at e; exact ⟨by rw [e.1], e.2.1.symm⟩
      | a :: b :: r, e => simp at e
    obtain ⟨hp1, hx1⟩ := hpx
    subst hp1; subst hx1
    refine Jn.mk (fun x => x = true) (Ite.t rfl (S_ref07_SameL (by decide) (Ite.t rfl (Ite.f rfl (S_ref07_SameL (by decide) (Ite.t rfl (Ite.t rfl (Ite.t rfl ?_)))))))) (fun x hx => hx ▸ hp)
    refine S_bank_Way e21RF e21Z e21K rfl (by decide) (fun hn => absurd e21f hn) (fun k p hw hmin hp2 => ?_)
    have hk1 : k ≤ 1 := hmin 1 ⟨0, 2, ⟨by decide, by decide, by decide, by decide⟩, by decide, by decide, by decide, by decide, by decide, by decide⟩
    have h0 := hp2.hd
    have h1 := hp2.lst
    have hln := hp2.len
    have c0 : (rAt e21T 0).Cell = 1 := by decide
    have c1 : ([0, 1] : List Int).getD (Int.toNat 0) 0 = 0 := by decide
    rw [c0] at h0
    rw [c1] at h1
    have hk : k = 1 := by
      have : k = 0 ∨ k = 1 := by omega
      rcases this with e | e
      · subst e; rw [h0] at h1; cases h1
      · exact e
    subst hk
    have : p = [1, 0] := by
      match p, h0, h1, hln with
      | [a, b], h0, h1, _ => simp at h0 h1; rw [h0, h1]
    subst this
    exact S_ref07_SameL (by decide) rfl
end Go.Taq

/- The mathematics, part BG: BankFinds. -/
set_option linter.unusedVariables false
set_option linter.unusedSimpArgs false
namespace Go.Taq
open Go

section
variable {s : ApiSite} {st : ApiState} {homes : List Int}
/-- what has a way home is found in the end -/
theorem in_stop {o g : List Int} (hs : Stop s st homes o) (hg : ∀ x, x ∈ g → x ∈ o) {x : Int} (hw : Wy (sitO s st homes g) x) : x ∈ o := by
  by_cases h : x ∈ o
  · exact h
  · refine absurd (Wy_mono (o := g) (o' := o) (fun j hj => ?_) hw ?_) (hs x)
    · have := hB_sit.1 hj
      exact hB_sit.2 ⟨hg j this.1, this.2⟩
    · cases e : hB (sitO s st homes o) x with
      | false => rfl
      | true => exact absurd (hB_sit.1 e).1 h
theorem Chain.sub {o : List Int} (hs : Stop s st homes o) : ∀ {g : List Int}, Chain s st homes g → ∀ x, x ∈ g → x ∈ o := by
  intro g
  generalize hn : g.reverse = r
  induction r generalizing g with
  | nil => intro h x hx; have : g = [] := by simpa using hn
           subst this; cases hx
  | cons a r ih =>
    intro h x hx
    have ho : g = r.reverse ++ [a] := by have := congrArg List.reverse hn; simpa using this
    subst ho
    have h1 : Chain s st homes r.reverse := fun p i q e => h p i (q ++ [a]) (by rw [e]; simp)
    have h2 := ih (by simp) h1
    rcases List.mem_append.1 hx with hx | hx
    · exact h2 x hx
    · simp at hx; subst hx
      exact in_stop hs h2 (h r.reverse x [] rfl)
theorem nodup_same : ∀ {a b : List Int}, a.Nodup → (∀ x, x ∈ a → x ∈ b) → a.length ≤ b.length
  | [], b, _, _ => by simp
  | x :: a, b, hn, h => by
    have hn' := List.nodup_cons.1 hn
    have hx : x ∈ b := h x (by simp)
    have := nodup_same (a := a) (b := b.erase x) hn'.2 (fun y hy => by
      have hne : y ≠ x := fun e => hn'.1 (e ▸ hy)
      exact (List.mem_erase_of_ne hne).2 (h y (by simp [hy])))
    rw [List.length_erase_of_mem hx] at this
    have := List.length_pos_of_mem hx
    simp; omega
theorem Chain.len (hz : Sz st) {o : List Int} (h : Chain s st homes o) : o.length ≤ st.Robots.length := nodup_len _ o h.nodup.1 (fun x hx => live_rg (h.nodup.2 x hx))
theorem S_CheckO (hf : RF s.Floor) (hz : Sz st) (k : OkApiState st) (hl : homes.length = st.Robots.length) {o : List Int} (ho : o.length ≤ 1000) (hc : Chain s st homes o) {post : Int × Int → Prop}
    (hp : ∀ n e : Int, (e = 0 ∧ (∀ i : Int, liveB st i = true → i ∈ o)) ∨ (e = 19 ∧ n = o.length ∧ ¬ (∀ i : Int, liveB st i = true → i ∈ o)) → post (n, e)) : V_bank_Check s st homes o post :=
  S_bank_Check hf hz k hl ho (fun i h => absurd hc.nodup h) (fun p x q e _ hw _ _ => absurd (hc p x q e) hw) (fun _ hall => hp _ _ (.inl ⟨rfl, hall⟩)) (fun _ hall => hp _ _ (.inr ⟨rfl, rfl, hall⟩))
theorem S_CheckL (hf : RF s.Floor) (hz : Sz st) (k : OkApiState st) (hl : homes.length = st.Robots.length) {o : List Int} (ho : o.length ≤ 1000) {post : Int × Int → Prop}
    (hp : ∀ n e : Int, (e = 0 → Chain s st homes o ∧ ∀ i : Int, liveB st i = true → i ∈ o) → post (n, e)) : V_bank_Check s st homes o post :=
  S_bank_Check hf hz k hl ho (fun i h => hp _ _ (fun e => by omega)) (fun p x q e _ hw _ _ => hp _ _ (fun e => by omega)) (fun hc hall => hp _ _ (fun _ => ⟨hc, hall⟩)) (fun _ hall => hp _ _ (fun e => by omega))
end
theorem Said_taquinlaw21_BankFinds (s : ApiSite) (ks : OkApiSite s) (st : ApiState) (k : OkApiState st) (homes : List Int) (kh : (OkL I64) homes) (l : List Int) (kl : (OkL I64) l) : V_taquinlaw21_BankFinds s st homes l (fun y => y = true) := by
  unfold V_taquinlaw21_BankFinds
  refine S_law21_small (Jn.mk (fun b => b = false → Fair21 s st homes ∧ l.length ≤ 10) (S_law21_fits ks (by omega) (Ite.f rfl fun h => by cases h) (fun h => Ite.t rfl fun h1 => ⟨h, by simp at h1; omega⟩)) (fun b hb => Ite.mk (fun _ => rfl) (fun h => ?_)))
  obtain ⟨hF, hl10⟩ := hb h
  have hf := hF.r.fl
  have hz := hF.f12.sz
  have hl := hF.hl
  have r6 := hF.r6
  refine S_bank_Safe hf hz k hl (fun o b hc _ hs hball => ?_)
  have hol := hc.len hz
  have ne : ∀ a : Int, (a != a) = false := fun a => by simp
  refine S_CheckO hf hz k hl (by omega) hc (fun n e he => ?_)
  refine Jn.mk (fun b => b = false) ?_ (fun b2 hb2 => Ite.f hb2 (S_CheckL hf hz k hl (by omega) (fun n2 e2 he2 => ?_)))
  · rcases he with ⟨h1, h2⟩ | ⟨h1, h2, h3⟩
    · subst h1
      have hb1 : b = true := hball.2 h2
      subst hb1
      exact Ite.t rfl (Ite.f rfl rfl)
    · subst h1; subst h2
      have hb1 : b = false := by
        cases e : b with
        | false => rfl
        | true => exact absurd (hball.1 e) h3
      subst hb1
      exact Ite.t rfl (Ite.t rfl (Ite.f rfl (ne _)))
  refine Jn.mk (fun b => b = false) (Ite.mk (fun h1 => ?_) (fun _ => rfl)) (fun b3 hb3 => Ite.f hb3 ?_)
  · obtain ⟨c1, c2⟩ := he2 (by simpa using h1)
    have : b = true := hball.2 fun i hi => c1.sub hs i (c2 i hi)
    rw [this]; rfl
  refine Jn.mk (fun g => Chain s st homes g) (V_loopc (xs := l) (by unfold maxLen; omega) (fun t : List Int × Int => t.2) (fun i t => Chain s st homes t.1) rfl (by exact fun p x q e => by simp at e) (fun i x t hx ht hI => ?_) (fun t h => h)) (fun g hg => ?_)
  · have hgl := Chain.len hz hI
    rw [ht]
    refine S_bank_Way hf hz k hl (by unfold maxLen; omega) (fun _ => Jn.mk (fun g => Chain s st homes g) (Ite.f rfl hI) (fun g hg => ⟨rfl, hg⟩)) (fun kk p hw _ hp => Jn.mk (fun g => Chain s st homes g) (Ite.t (by rw [hp.len]; exact decide_eq_true (by omega)) (S_ref07_Has (by show o.length ≤ _; unfold maxLen; omega) (Ite.f ?_ ⟨by simp; omega, hI.snoc hw⟩))) (fun g hg => ⟨rfl, hg⟩))
    have := in_stop hs (hI.sub hs) hw
    show (!o.contains x) = false
    simpa using this
  refine Jn.mk (fun g => Chain s st homes g ∧ Stop s st homes g) (Loop.mk (fun t : List Int × Bool => Chain s st homes t.1 ∧ (t.2 = false → Stop s st homes t.1)) (fun t => (st.Robots.length - t.1.length) * 2 + (if t.2 = true then 1 else 0)) ⟨hg, fun h => by cases h⟩ ?_) (fun g2 hg2 => ?_)
  · rintro ⟨g1, a⟩ ⟨hc1, hs1⟩
    simp only at hc1 hs1
    refine Ite.mk (fun ha => ?_) (fun ha => ⟨hc1, hs1 ha⟩)
    have ha' : a = true := ha
    subst ha'
    have hgl := Chain.len hz hc1
    have wr : w64 ((st.Robots.length : Int) - 1) = (st.Robots.length : Int) - 1 := w64_eq (by omega) (by omega)
    refine Jn.mk (fun t : List Int × Bool => Chain s st homes t.1 ∧ (t.2 = false → t.1 = g1 ∧ Stop s st homes g1) ∧ (t.2 = true → g1.length < t.1.length)) (Jn.mk (fun t : List Int × Bool => Chain s st homes t.1 ∧ (t.2 = false → t.1 = g1 ∧ Stop s st homes g1) ∧ (t.2 = true → g1.length < t.1.length))
      (Loop.inv st.Robots.length (fun j (t : List Int × Bool × Int) => t.2.2 = (st.Robots.length : Int) - 1 - j ∧ Chain s st homes t.1 ∧ (t.2.1 = false → t.1 = g1 ∧ ∀ q : Int, (st.Robots.length : Int) - 1 - j < q → ¬ Wy (sitO s st homes g1) q) ∧ (t.2.1 = true → g1.length < t.1.length))
        ⟨by show w64 _ = _; rw [wr]; simp, hc1, fun _ => ⟨rfl, fun q hq hw => by have : 0 ≤ q ∧ q < (st.Robots.length : Int) := live_rg hw.1; omega⟩, fun h => by cases h⟩ (fun j t hj hJ => ?_) (fun t hJ => ?_)) (fun t ht => ht)) (fun t ht => ?_)
    · obtain ⟨j1, j2, j3, j4⟩ := hJ
      have hjl := Chain.len hz j2
      have wi : w64 (t.2.2 - 1) = (st.Robots.length : Int) - 1 - ((j + 1 : Nat) : Int) := by rw [j1, w64_eq (by omega) (by omega)]; omega
      refine Ite.t (decide_eq_true (by rw [j1]; omega)) (S_bank_Way hf hz k hl (by unfold maxLen; omega) (fun hno => ?_) (fun kk p hw _ hp => ?_))
      · refine Jn.mk (fun u => u = (t.1, t.2.1)) (Ite.f rfl rfl) (fun u hu => ?_)
        subst hu
        refine ⟨wi, j2, fun h => ⟨(j3 h).1, fun q hq => ?_⟩, j4⟩
        by_cases e : q = t.2.2
        · rw [e, ← (j3 h).1]; exact hno
        · exact (j3 h).2 q (by omega)
      · refine Jn.mk (fun u => u = (t.1 ++ [t.2.2], true)) (Ite.t (by rw [hp.len]; exact decide_eq_true (by omega)) ⟨by simp; omega, rfl⟩) (fun u hu => ?_)
        subst hu
        refine ⟨wi, j2.snoc hw, fun h => (by cases h), fun _ => ?_⟩
        show g1.length < (t.1 ++ [t.2.2]).length
        rw [List.length_append, List.length_singleton]
        cases e : t.2.1 with
        | true => have := j4 e; omega
        | false => rw [(j3 e).1]; omega
    · obtain ⟨j1, j2, j3, j4⟩ := hJ
      refine Ite.f (decide_eq_false (by rw [j1]; omega)) ⟨j2, fun h => ⟨(j3 h).1, fun q hw => (j3 h).2 q (by have : 0 ≤ q ∧ q < (st.Robots.length : Int) := live_rg hw.1; omega) hw⟩, j4⟩
    · obtain ⟨t1, t2, t3⟩ := ht
      have htl := Chain.len hz t1
      refine ⟨⟨t1, fun h => by have := t2 h; show Stop s st homes t.1; rw [this.1]; exact this.2⟩, ?_⟩
      show (st.Robots.length - t.1.length) * 2 + (if t.2 = true then 1 else 0) < (st.Robots.length - g1.length) * 2 + (if true = true then 1 else 0)
      rw [if_pos rfl]
      cases e : t.2 with
      | false => rw [(t2 e).1]; simp
      | true => have := t3 e; simp; omega
  · obtain ⟨hc2, hs2⟩ := hg2
    refine Jn.mk (fun b => b = true) (Ite.t rfl ?_) (fun b hb => hb)
    have e1 := nodup_same hc2.nodup.1 (hc2.sub hs)
    have e2 := nodup_same hc.nodup.1 (hc.sub hs2)
    show ((g2.length : Int) == (o.length : Int)) = true
    simp; omega
end Go.Taq
