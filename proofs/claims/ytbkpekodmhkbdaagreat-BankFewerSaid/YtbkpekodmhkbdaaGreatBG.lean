/- The mathematics, several parts in one text. -/
import Derived.Test.YtbkpekodmhkbdaaGreatBC
/- The mathematics, part BD: all home, Safe, Check. -/
set_option linter.unusedVariables false
set_option linter.unusedSimpArgs false
namespace Go.Taq
open Go

theorem nodup_len : ∀ (n : Nat) (o : List Int), o.Nodup → (∀ x, x ∈ o → 0 ≤ x ∧ x < n) → o.length ≤ n
  | 0, o, _, h => by
    cases o with
    | nil => simp
    | cons x r => have := h x (by simp); omega
  | n + 1, o, hn, h => by
    by_cases hm : (n : Int) ∈ o
    · have h1 := nodup_len n (o.erase n) (hn.erase _) (fun x hx => by
        have h2 := (hn.mem_erase_iff).1 hx
        have := h x h2.2
        have := h2.1
        omega)
      rw [List.length_erase_of_mem hm] at h1
      omega
    · have := nodup_len n o hn (fun x hx => by
        have := h x hx
        have : x ≠ n := fun e => hm (e ▸ hx)
        omega)
      omega
/-- the situation in which some robots are home -/
def sitO (s : ApiSite) (st : ApiState) (homes o : List Int) : BankSituation := { s := s, st := st, homes := homes, home := hmS st o }
section
variable {s : ApiSite} {st : ApiState} {homes : List Int}
theorem hB_sit {o : List Int} {i : Int} : hB (sitO s st homes o) i = true ↔ i ∈ o ∧ liveB st i = true := hmS_iff
theorem hmS_snoc {o : List Int} {i : Int} (h : liveB st i = true) : hmS st (o ++ [i]) = upd (hmS st o) i true := by
  unfold hmS; rw [List.foldl_append]
  show (if liveB st i = true then _ else _) = _
  rw [if_pos h]
theorem live_rg {i : Int} (h : liveB st i = true) : 0 ≤ i ∧ i < st.Robots.length := by
  obtain ⟨n, r, hn, hx, _⟩ := liveB_iff h
  have := (List.getElem?_eq_some_iff.1 hx).1
  omega
/-- no robot has a way home any more -/
def Stop (s : ApiSite) (st : ApiState) (homes o : List Int) : Prop := ∀ i : Int, ¬ Wy (sitO s st homes o) i
/-- each robot of a list has a way home when those ahead of it are home -/
def Chain (s : ApiSite) (st : ApiState) (homes : List Int) (o : List Int) : Prop := ∀ p i q, o = p ++ i :: q → Wy (sitO s st homes p) i
/-- .. and none before it has one -/
def Fst1 (s : ApiSite) (st : ApiState) (homes : List Int) (o : List Int) : Prop := ∀ p i q, o = p ++ i :: q → ∀ j : Int, j < i → ¬ Wy (sitO s st homes p) j
theorem snoc_split {α : Type} {o : List α} {a : α} {p q : List α} {i : α} (h : o ++ [a] = p ++ i :: q) : (∃ q', o = p ++ i :: q') ∨ (p = o ∧ i = a) := by
  rcases List.append_eq_append_iff.1 h with ⟨w, h1, h2⟩ | ⟨w, h1, h2⟩
  · cases w with
    | nil => simp at h1 h2; exact .inr ⟨h1, h2.1.symm⟩
    | cons b w => simp at h2
  · cases w with
    | nil => simp at h1 h2; exact .inr ⟨h1.symm, h2.1⟩
    | cons b w =>
      simp at h2
      exact .inl ⟨w, by rw [h1, h2.1]⟩
theorem Chain.snoc {o : List Int} {i : Int} (h : Chain s st homes o) (hw : Wy (sitO s st homes o) i) : Chain s st homes (o ++ [i]) := fun p j q e => by
  rcases snoc_split e with ⟨q', e⟩ | ⟨e1, e2⟩
  · exact h p j q' e
  · subst e1; subst e2; exact hw
theorem Fst1.snoc {o : List Int} {i : Int} (h : Fst1 s st homes o) (hw : ∀ j : Int, j < i → ¬ Wy (sitO s st homes o) j) : Fst1 s st homes (o ++ [i]) := fun p j q e => by
  rcases snoc_split e with ⟨q', e⟩ | ⟨e1, e2⟩
  · exact h p j q' e
  · subst e1; subst e2; exact hw
theorem Chain.nodup : ∀ {o : List Int}, Chain s st homes o → o.Nodup ∧ ∀ x, x ∈ o → liveB st x = true := by
  intro o
  generalize hn : o.reverse = r
  induction r generalizing o with
  | nil => intro h; have : o = [] := by simpa using hn
           subst this; exact ⟨.nil, fun x hx => by cases hx⟩
  | cons a r ih =>
    intro h
    have ho : o = r.reverse ++ [a] := by have := congrArg List.reverse hn; simpa using this
    subst ho
    have h1 : Chain s st homes r.reverse := fun p i q e => h p i (q ++ [a]) (by rw [e]; simp)
    obtain ⟨g1, g2⟩ := ih (by simp) h1
    have hw := h r.reverse a [] rfl
    refine ⟨List.nodup_append.2 ⟨g1, by simp, fun x hx y hy => ?_⟩, fun x hx => ?_⟩
    · simp at hy; subst hy
      intro e; subst e
      have := (hB_sit (s := s) (st := st) (homes := homes)).2 ⟨hx, hw.1⟩
      rw [hw.2.1] at this; cases this
    · rcases List.mem_append.1 hx with h | h
      · exact g2 x h
      · simp at h; subst h; exact hw.1
/-- all that live are home -/
theorem S_bank_all {x : BankSituation} (hz : Sz x.st) {post : Bool → Prop} (hT : (∀ i : Int, liveB x.st i = true → hB x i = true) → post true) (hF : (∃ i : Int, liveB x.st i = true ∧ hB x i = false) → post false) : V_bank_situation_all x post := by
  have q2 := hz.rb
  unfold V_bank_situation_all
  refine Jn.mk (fun _ => ∀ i : Int, liveB x.st i = true → hB x i = true) (Loop.inv x.st.Robots.length (fun i (t : Int) => t = (i : Int) ∧ ∀ j : Int, j < i → liveB x.st j = true → hB x j = true) ⟨rfl, fun j h1 h2 => by have := live_rg h2; omega⟩ (fun i t hi hI => ?_) (fun t hI => ?_)) (fun _ h => hT h)
  · obtain ⟨ht, hI⟩ := hI
    subst ht
    refine Ite.lt (by omega) (Jn.mk (fun b => b = (liveB x.st i && !hB x i)) (S_bank_alive (Ite.mk (fun h => by rw [h]; rfl) (fun h => by rw [h]; rfl))) (fun b hb => Ite.mk (fun h => ?_) (fun h => ?_)))
    · rw [h] at hb
      have := hb.symm
      simp at this
      exact hF ⟨i, this⟩
    · rw [h] at hb
      refine ⟨by rw [w64_eq (by omega) (by omega)]; simp, fun j hj hl => ?_⟩
      by_cases e : j = i
      · subst e; rw [hl] at hb; have := hb.symm; simp at this; exact this
      · exact hI j (by omega) hl
  · obtain ⟨ht, hI⟩ := hI
    exact Ite.nlt (by omega) fun i hl => hI i (by have := live_rg hl; omega) hl
/-- the search for an order -/
theorem S_bank_Safe (hf : RF s.Floor) (hz : Sz st) (k : OkApiState st) (hl : homes.length = st.Robots.length) {post : List Int × Bool → Prop}
    (hp : ∀ o b, Chain s st homes o → Fst1 s st homes o → Stop s st homes o → (b = true ↔ ∀ i : Int, liveB st i = true → i ∈ o) → post (o, b)) : V_bank_Safe s st homes post := by
  have q2 := hz.rb
  unfold V_bank_Safe
  refine S_newSituation (by simp) (Jn.mk (fun t : List (Int × Bool) × List Int => t.1 = hmS st t.2 ∧ Chain s st homes t.2 ∧ Fst1 s st homes t.2 ∧ Stop s st homes t.2) (Loop.mk (fun t : List (Int × Bool) × List Int × Int => t.1 = hmS st t.2.1 ∧ Chain s st homes t.2.1 ∧ Fst1 s st homes t.2.1 ∧ 0 ≤ t.2.2 ∧ t.2.2 ≤ st.Robots.length ∧ ∀ j : Int, j < t.2.2 → ¬ Wy (sitO s st homes t.2.1) j) (fun t => (st.Robots.length - t.2.1.length) * 2000 + (st.Robots.length - t.2.2.toNat)) ?_ ?_) (fun t ht => ?_))
  · exact ⟨rfl, fun p i q e => by simp at e, fun p i q e => by simp at e, by show (0 : Int) ≤ 0; omega, by show (0 : Int) ≤ _; omega, fun j hj hw => by have := live_rg hw.1; have : j < (0 : Int) := hj; omega⟩
  · rintro ⟨m, o, i⟩ ⟨hm, hc, hfi, h0, h1, hno⟩
    simp only at hm hc hfi h0 h1 hno
    refine Ite.mk (fun h => ?_) (fun h => ?_)
    · have hlt : i < (st.Robots.length : Int) := by simpa using h
      obtain ⟨hnd, hlv⟩ := hc.nodup
      have hol := nodup_len st.Robots.length o hnd (fun x hx => live_rg (hlv x hx))
      have ex : ({ s := s, st := st, homes := homes, home := m } : BankSituation) = sitO s st homes o := by unfold sitO; rw [hm]
      show V_bank_situation_way { s := s, st := st, homes := homes, home := m } i _
      rw [ex]
      have no : ¬ Wy (sitO s st homes o) i → (((upd m i true, o ++ [i], (-1 : Int)) : List (Int × Bool) × List Int × Int) = ((upd m i true, o ++ [i], (-1 : Int)))) := fun _ => rfl
      refine S_bank_way (x := sitO s st homes o) hf hz k hl (fun hw => ?_) (fun kk p hw _ _ hway => ?_)
      · refine Jn.mk' (Ite.f (by simp) ?_)
        refine ⟨⟨hm, hc, hfi, ?_, ?_, fun j hj => ?_⟩, ?_⟩
        · show 0 ≤ w64 (i + 1); rw [w64_eq (by omega) (by omega)]; omega
        · show w64 (i + 1) ≤ _; rw [w64_eq (by omega) (by omega)]; omega
        · have hj' : j < w64 (i + 1) := hj
          rw [w64_eq (by omega) (by omega)] at hj'
          by_cases e : j = i
          · subst e; exact hw
          · exact hno j (by omega)
        · show (st.Robots.length - o.length) * 2000 + (st.Robots.length - (w64 (i + 1)).toNat) < _
          rw [w64_eq (by omega) (by omega)]
          show _ < (st.Robots.length - o.length) * 2000 + (st.Robots.length - i.toNat)
          omega
      · have hlen := hway.len
        have hio : i ∉ o := fun hmm => by have := (hB_sit (s := s) (st := st) (homes := homes)).2 ⟨hmm, hw.1⟩; rw [hw.2.1] at this; cases this
        have hc' := hc.snoc hw
        have hol' := nodup_len st.Robots.length (o ++ [i]) hc'.nodup.1 (fun x hx => live_rg (hc'.nodup.2 x hx))
        simp only [List.length_append, List.length_singleton] at hol'
        refine Jn.mk' (Ite.t (by rw [hlen]; exact decide_eq_true (by omega)) ⟨by simp; omega, ?_⟩)
        have w0 : w64 (-1 + 1) = 0 := by decide
        refine ⟨⟨?_, hc', hfi.snoc hno, ?_, ?_, fun j hj hwj => ?_⟩, ?_⟩
        · show upd m i true = hmS st (o ++ [i]); rw [hmS_snoc (st := st) hw.1, hm]
        · show 0 ≤ w64 (-1 + 1); rw [w0]; decide
        · show w64 (-1 + 1) ≤ _; rw [w0]; omega
        · have hj' : j < w64 (-1 + 1) := hj
          rw [w0] at hj'
          have := live_rg hwj.1; omega
        · show (st.Robots.length - (o ++ [i]).length) * 2000 + (st.Robots.length - (w64 (-1 + 1)).toNat) < (st.Robots.length - o.length) * 2000 + (st.Robots.length - i.toNat)
          rw [w0, List.length_append, List.length_singleton]
          have : st.Robots.length - o.length = (st.Robots.length - (o.length + 1)) + 1 := by omega
          rw [this, Nat.add_mul]
          show _ + (st.Robots.length - 0) < _
          omega
    · have hnl : ¬ i < (st.Robots.length : Int) := by simpa using h
      exact ⟨hm, hc, hfi, fun j hw => hno j (by have : 0 ≤ j ∧ j < (st.Robots.length : Int) := live_rg hw.1; show j < i; omega) hw⟩
  · obtain ⟨m, o⟩ := t
    obtain ⟨hm, hc, hfi, hs⟩ := ht
    simp only at hm hc hfi hs
    subst hm
    refine S_bank_all (x := { s := s, st := st, homes := homes, home := hmS st o }) hz (fun h => hp o true hc hfi hs ⟨fun _ i hi => (hB_sit (s := s) (homes := homes).1 (h i hi)).1, fun _ => rfl⟩) (fun ⟨i, h1, h2⟩ => hp o false hc hfi hs ⟨fun h => (by cases h), fun h => ?_⟩)
    have := (hB_sit (s := s) (st := st) (homes := homes) (o := o) (i := i)).2 ⟨h i h1, h1⟩
    have h2' : hB (sitO s st homes o) i = false := h2
    rw [this] at h2'; cases h2'
end
end Go.Taq

/- The mathematics, part BE: Way; BankGrows but for the examples. -/
set_option linter.unusedVariables false
set_option linter.unusedSimpArgs false
namespace Go.Taq
open Go

section
variable {s : ApiSite} {st : ApiState} {homes : List Int}
theorem S_bank_Way (hf : RF s.Floor) (hz : Sz st) (k : OkApiState st) (hl : homes.length = st.Robots.length) {gone : List Int} (hg : gone.length ≤ maxLen) {i : Int} {post : List Int → Prop} (hn : ¬ Wy (sitO s st homes gone) i → post [])
    (hy : ∀ (k : Nat) p, Wy (sitO s st homes gone) i → (∀ j, PB s.Floor (homes.getD i.toNat 0) (avL (sitO s st homes gone) i) j (rAt st i).Cell → k ≤ j) → WayL s.Floor (avL (sitO s st homes gone) i) (rAt st i).Cell (homes.getD i.toNat 0) k p → post p) : V_bank_Way s st homes gone i post := by
  unfold V_bank_Way
  exact S_newSituation hg (S_bank_way (x := sitO s st homes gone) hf hz k hl hn (fun k p h1 _ h3 h4 => hy k p h1 h3 h4))
theorem avL_mono {o o' : List Int} (h : ∀ j : Int, hB (sitO s st homes o) j = true → hB (sitO s st homes o') j = true) {i c : Int} (hc : c ∈ avL (sitO s st homes o') i) : c ∈ avL (sitO s st homes o) i := by
  have hF : ∀ j : Nat, c ∈ avF (sitO s st homes o') i j → c ∈ avF (sitO s st homes o) i j := fun j hj => by
    unfold avF at hj ⊢
    by_cases e : (j : Int) = i
    · rw [if_pos e] at hj; cases hj
    · rw [if_neg e] at hj ⊢
      by_cases h2 : hB (sitO s st homes o) j = true
      · rw [if_pos (h _ h2)] at hj; rw [if_pos h2]; exact hj
      · rw [if_neg h2]
        by_cases h3 : hB (sitO s st homes o') j = true
        · rw [if_pos h3] at hj
          rcases List.mem_cons.1 hj with e | e
          · exact e ▸ List.mem_cons_self ..
          · cases e
        · rw [if_neg h3] at hj; exact hj
  unfold avL at hc ⊢
  rw [List.mem_filter] at hc ⊢
  refine ⟨?_, hc.2⟩
  have h1 := hc.1
  rcases List.mem_append.1 h1 with h1 | h1
  · refine List.mem_append_left _ ?_
    rcases List.mem_append.1 h1 with h1 | h1
    · exact List.mem_append_left _ h1
    · refine List.mem_append_right _ ?_
      obtain ⟨j, hj, hcj⟩ := List.mem_flatMap.1 h1
      exact List.mem_flatMap.2 ⟨j, hj, hF j hcj⟩
  · exact List.mem_append_right _ h1
theorem Wy_mono {o o' : List Int} (h : ∀ j : Int, hB (sitO s st homes o) j = true → hB (sitO s st homes o') j = true) {i : Int} (hw : Wy (sitO s st homes o) i) (hi : hB (sitO s st homes o') i = false) : Wy (sitO s st homes o') i := by
  obtain ⟨h1, _, k, hk⟩ := hw
  exact ⟨h1, hi, k, hk.mono (fun x hx => avL_mono h hx)⟩
end
end Go.Taq

/- The mathematics, part BF: Check; the examples of chapter 21; BankGrows. -/
set_option linter.unusedVariables false
set_option linter.unusedSimpArgs false
namespace Go.Taq
open Go

section
variable {s : ApiSite} {st : ApiState} {homes : List Int}
/-- the places at which an order is wrong: the robot does not live, or it comes twice -/
def badI (st : ApiState) (o : List Int) (i : Nat) : Prop := ¬ (liveB st (o.getD i 0) = true ∧ o.getD i 0 ∉ o.take i)
theorem badI_no {o : List Int} (hn : o.Nodup) (hl : ∀ x, x ∈ o → liveB st x = true) {i : Nat} (hi : i < o.length) : ¬ badI st o i := fun h => h (by
  have hx := List.getElem?_eq_getElem hi
  rw [show o.getD i 0 = o[i] from getD_i hx]
  refine ⟨hl _ (List.getElem_mem hi), fun hm => ?_⟩
  rw [← List.take_append_drop i o, List.nodup_append] at hn
  refine hn.2.2 _ hm _ (?_ : o[i] ∈ o.drop i) rfl
  rw [List.drop_eq_getElem_cons hi]; exact List.mem_cons_self ..)
/-- none of the first places is wrong -/
def NoBad (st : ApiState) (o : List Int) (i : Nat) : Prop := (o.take i).Nodup ∧ (∀ x, x ∈ o.take i → liveB st x = true) ∧ ∀ j, j < i → ¬ badI st o j
theorem NoBad.zero {o : List Int} : NoBad st o 0 := ⟨by simp, fun x hx => by simp at hx, fun j hj => by omega⟩
theorem NoBad.all {o : List Int} (h : NoBad st o o.length) : o.Nodup ∧ ∀ x, x ∈ o → liveB st x = true := by
  have h1 := h.1; have h2 := h.2.1
  rw [List.take_length] at h1 h2
  exact ⟨h1, h2⟩
theorem bad_t {o : List Int} {i : Nat} {x : Int} (hx : o[i]? = some x) (hb : true = (!liveB st x || (o.take i).contains x)) : badI st o i := fun hc => by
  rw [show o.getD i 0 = x from getD_i hx] at hc
  rw [hc.1] at hb
  have := hb.symm
  simp at this
  exact hc.2 this
theorem NoBad.step {o : List Int} {i : Nat} (h : NoBad st o i) {x : Int} (hx : o[i]? = some x) (hb : false = (!liveB st x || (o.take i).contains x)) : NoBad st o (i + 1) := by
  have hb' := hb.symm
  simp at hb'
  obtain ⟨hI1, hI2, hI3⟩ := h
  refine ⟨?_, ?_, fun j hj => ?_⟩
  · rw [take_succ hx]
    refine List.nodup_append.2 ⟨hI1, by simp, fun a ha b hb2 => ?_⟩
    simp at hb2; subst hb2
    intro e; subst e
    exact hb'.2 ha
  · rw [take_succ hx]
    intro y hy
    rcases List.mem_append.1 hy with h | h
    · exact hI2 y h
    · simp at h; subst h; exact hb'.1
  · by_cases e : j = i
    · subst e
      exact fun hn => hn (by rw [show o.getD j 0 = x from getD_i hx]; exact hb')
    · exact hI3 j (by omega)
theorem S_bank_Check (hf : RF s.Floor) (hz : Sz st) (k : OkApiState st) (hl : homes.length = st.Robots.length) {o : List Int} (ho : o.length ≤ 1000) {post : Int × Int → Prop}
    (h1 : ∀ i : Nat, i < o.length → badI st o i → (∀ j, j < i → ¬ badI st o j) → post ((i : Int), 1))
    (h2 : ∀ p x q, o = p ++ x :: q → Chain s st homes p → ¬ Wy (sitO s st homes p) x → o.Nodup → (∀ x, x ∈ o → liveB st x = true) → post ((p.length : Int), 14))
    (h3 : Chain s st homes o → (∀ i : Int, liveB st i = true → i ∈ o) → post (-1, 0))
    (h4 : Chain s st homes o → ¬ (∀ i : Int, liveB st i = true → i ∈ o) → post ((o.length : Int), 19)) : V_bank_Check s st homes o post := by
  unfold V_bank_Check
  refine S_newSituation (by simp) ?_
  show Jn _ _
  refine Jn.mk (fun _ => o.Nodup ∧ ∀ x, x ∈ o → liveB st x = true) (Loop.inv o.length (fun i (t : Int) => t = (i : Int) ∧ NoBad st o i) ⟨rfl, .zero⟩ (fun i t hi hI => ?_) (fun t hI => ?_)) (fun _ hlv => ?_)
  · obtain ⟨ht, hI⟩ := hI
    subst ht
    have hx := List.getElem?_eq_getElem hi
    generalize o[i] = x at hx
    have esub : sub o 0 (i : Int) = o.take i := by simp [sub]
    refine Ite.lt (by omega) ⟨x, idx_of rfl hx, Jn.mk (fun b => b = (!liveB st x || (o.take i).contains x)) (S_bank_alive (Ite.mk (fun h => ⟨⟨by omega, by omega, by omega⟩, ?_⟩) (fun h => ?_))) (fun b hb => Ite.mk (fun h => ?_) (fun h => ⟨by rw [w64_eq (by omega) (by omega)]; simp, ?_⟩))⟩
    · rw [esub]
      refine S_slices_Contains (by rw [List.length_take]; unfold maxLen; omega) ?_
      have h' : liveB st x = true := h
      rw [h']; rfl
    · have h' : liveB st x = false := h
      rw [h']; rfl
    · rw [h] at hb
      exact h1 i hi (bad_t hx hb) hI.2.2
    · rw [h] at hb
      exact hI.step hx hb
  · obtain ⟨ht, hI⟩ := hI
    exact Ite.nlt (by omega) hI.all
  · obtain ⟨hnd, hlv⟩ := hlv
    refine Jn.mk (fun m => m = hmS st o ∧ Chain s st homes o) (Loop.inv o.length (fun i (t : List (Int × Bool) × Int) => t.2 = (i : Int) ∧ t.1 = hmS st (o.take i) ∧ Chain s st homes (o.take i)) ⟨rfl, rfl, fun p x q e => by simp at e⟩ (fun i t hi hI => ?_) (fun t hI => ?_)) (fun m hm => ?_)
    · obtain ⟨ht, hI1, hI2⟩ := hI
      have hx := List.getElem?_eq_getElem hi
      have hsplit : o = o.take i ++ o[i] :: o.drop (i + 1) := by
        conv => lhs; rw [← List.take_append_drop i o]
        rw [List.drop_eq_getElem_cons hi]
      generalize o[i] = x at hx hsplit
      have hti : (o.take i).length = i := by rw [List.length_take]; omega
      have hlx := hlv x (List.mem_of_getElem? hx)
      have ex : ({ s := s, st := st, homes := homes, home := t.1 } : BankSituation) = sitO s st homes (o.take i) := by unfold sitO; rw [hI1]
      refine Ite.lt (by omega) ⟨x, idx_of ht hx, ?_⟩
      show V_bank_situation_way { s := s, st := st, homes := homes, home := t.1 } x _
      rw [ex]
      refine S_bank_way (x := sitO s st homes (o.take i)) hf hz k hl (fun hw => Ite.t rfl ?_) (fun kk p hw _ _ hp => Ite.f (by rw [hp.len]; simp; omega) ⟨by rw [ht, w64_eq (by omega) (by omega)]; simp, ?_, ?_⟩)
      · have := h2 (o.take i) x _ hsplit hI2 hw hnd hlv
        rw [hti] at this; rw [ht]; exact this
      · show upd t.1 x true = _
        rw [take_succ hx, hmS_snoc (st := st) hlx, hI1]
      · rw [take_succ hx]; exact hI2.snoc hw
    · obtain ⟨ht, hI1, hI2⟩ := hI
      rw [List.take_length] at hI1 hI2
      exact Ite.nlt (by omega) ⟨hI1, hI2⟩
    · obtain ⟨hm, hc⟩ := hm
      subst hm
      refine S_bank_all (x := { s := s, st := st, homes := homes, home := hmS st o }) hz (fun h => Ite.f rfl (h3 hc fun i hi => (hB_sit (s := s) (homes := homes).1 (h i hi)).1)) (fun ⟨i, g1, g2⟩ => Ite.t rfl (h4 hc fun h => ?_))
      have := (hB_sit (s := s) (st := st) (homes := homes) (o := o) (i := i)).2 ⟨h i g1, g1⟩
      have g2' : hB (sitO s st homes o) i = false := g2
      rw [this] at g2'; cases g2'
end
def e21F : ApiFloor := { W := 5, H := 1, D := 1, Kind := [3, 1, 1, 1, 1], Out := [5, 5, 5, 5, 5] }
def e21S : ApiSite := { Floor := e21F, Zones := [], Aparts := [], Shelves := [], Robots := [{ Cell := 1, Charge := 9 }, { Cell := 2, Charge := 9 }] }
def e21T : ApiState := { Tick := 0, Shelves := [], Robots := [{ Cell := 1, Load := -1, Charge := 9, Rest := 0, Mute := 0, Dead := false }, { Cell := 2, Load := -1, Charge := 9, Rest := 0, Mute := 0, Dead := false }], People := [], Dead := [], Stuck := [] }
theorem e21RF : RF e21F := by
  refine ⟨by decide, by decide, by decide, by decide, by decide, by decide, by decide, by decide, by decide, fun i x y hx hy => ?_⟩
  match i, hx, hy with
  | 0, hx, hy => simp [e21F] at hx hy; omega
  | 1, hx, hy => simp [e21F] at hx hy; omega
  | 2, hx, hy => simp [e21F] at hx hy; omega
  | 3, hx, hy => simp [e21F] at hx hy; omega
  | 4, hx, hy => simp [e21F] at hx hy; omega
  | n + 5, hx, hy => simp [e21F] at hx
theorem e21Z : Sz e21T := ⟨by decide, by decide, by decide, by decide, by decide⟩
theorem e21K : OkApiState e21T where
  Tick := i64_of (by decide)
  Shelves := ok_ml (by decide) (fun c hc => by cases hc)
  Robots := ok_ml (by decide) (fun r hr => by
    simp only [e21T, List.mem_cons, List.not_mem_nil, or_false] at hr
    rcases hr with rfl | rfl
    · exact ⟨i64_of (by decide), i64_of (by decide), i64_of (by decide), i64_of (by decide), i64_of (by decide), trivial⟩
    · exact ⟨i64_of (by decide), i64_of (by decide), i64_of (by decide), i64_of (by decide), i64_of (by decide), trivial⟩)
  People := ok_ml (by decide) (fun c hc => by cases hc)
  Dead := ok_ml (by decide) (fun c hc => by cases hc)
  Stuck := ok_ml (by decide) (fun c hc => by cases hc)
theorem e21l {i : Int} : liveB e21T i = true ↔ i = 0 ∨ i = 1 := by
  constructor
  · intro h
    have := live_rg h
    have : i < 2 := this.2
    omega
  · rintro (h | h) <;> subst h <;> decide
theorem e21a : Wy (sitO e21S e21T [0, 4] []) 0 := ⟨by decide, by decide, 1, 0, 2, ⟨by decide, by decide, by decide, by decide⟩, by decide, by decide, by decide, by decide, by decide, by decide⟩
theorem e21b : Wy (sitO e21S e21T [0, 4] [0]) 1 := ⟨by decide, by decide, 2, 3, 0, ⟨4, 0, ⟨by decide, by decide, by decide, by decide⟩, by decide, by decide, by decide, by decide, by decide, by decide⟩, by decide, by decide, by decide, by decide, by decide, by decide⟩
theorem e21c : Wy (sitO e21S e21T [4, 3] []) 1 := ⟨by decide, by decide, 1, 3, 0, ⟨by decide, by decide, by decide, by decide⟩, by decide, by decide, by decide, by decide, by decide, by decide⟩
theorem e21no {l : List Int} (h : (3 : Int) ∈ l) : ∀ (k : Nat) (c : Int), PB e21F 4 l k c → c = 4
  | 0, c, hc => by have := hc.1; simpa using this
  | k + 1, c, ⟨p, d, hp, d0, d1, hb, hok⟩ => by
    have := e21no h k p hp
    subst this
    have : d = 0 ∨ d = 1 ∨ d = 2 ∨ d = 3 ∨ d = 4 ∨ d = 5 := by omega
    rcases this with e | e | e | e | e | e <;> subst e
    · have e3 : bk e21F 4 0 = (3, true) := by decide
      rw [e3] at hb
      have : c = 3 := by injection hb with h1; exact h1.symm
      subst this
      exact absurd h hok.2.2
    · exact absurd (show (bk e21F 4 1).2 = true from congrArg Prod.snd hb) (by decide)
    · exact absurd (show (bk e21F 4 2).2 = true from congrArg Prod.snd hb) (by decide)
    · exact absurd (show (bk e21F 4 3).2 = true from congrArg Prod.snd hb) (by decide)
    · exact absurd (show (bk e21F 4 4).2 = true from congrArg Prod.snd hb) (by decide)
    · exact absurd (show (bk e21F 4 5).2 = true from congrArg Prod.snd hb) (by decide)
theorem e21d : ¬ Wy (sitO e21S e21T [4, 3] []) 0 := fun ⟨_, _, k, hk⟩ => absurd (e21no (by decide) k _ hk) (by decide)
theorem e21e : ¬ Wy (sitO e21S e21T [4, 3] [1]) 0 := fun ⟨_, _, k, hk⟩ => absurd (e21no (by decide) k _ hk) (by decide)
theorem e21f : Wy (sitO e21S e21T [0, 1] []) 0 := ⟨by decide, by decide, 1, 0, 2, ⟨by decide, by decide, by decide, by decide⟩, by decide, by decide, by decide, by decide, by decide, by decide⟩
theorem S_law21_small {post : Bool → Prop} (hp : post true) : V_taquinlaw21_small post := by
  unfold V_taquinlaw21_small V_taquinlaw21_sample
  show V_bank_Safe e21S e21T [0, 4] _
  have nil0 : ∀ {H : List Int} {o : List Int}, Chain e21S e21T H o → ∀ p x q, o = p ++ x :: q → x = 0 ∨ x = 1 := fun h p x q e => e21l.1 (h p x q e).1
  refine S_bank_Safe e21RF e21Z e21K rfl (fun o b hc hf hs hb => ?_)
  have ho : o = [0, 1] := by
    match o, hc, hf, hs with
    | [], _, _, hs => exact absurd e21a (hs 0)
    | a :: q, hc, hf, hs =>
      have h1 := nil0 hc [] a q rfl
      have ha : a = 0 := by
        rcases h1 with h | h
        · exact h
        · subst h; exact absurd e21a (hf [] 1 q rfl 0 (by decide))
      subst ha
      match q, hc, hs with
      | [], _, hs => exact absurd e21b (hs 1)
      | a :: q, hc, hs =>
        have hw := hc [0] a q rfl
        have ha : a = 1 := by
          rcases e21l.1 hw.1 with h | h
          · subst h; exact absurd hw.2.1 (by decide)
          · exact h
        subst ha
        match q, hc with
        | [], _ => rfl
        | a :: q, hc =>
          have hw := hc [0, 1] a q rfl
          rcases e21l.1 hw.1 with h | h
          · subst h; exact absurd hw.2.1 (by decide)
          · subst h; exact absurd hw.2.1 (by decide)
  subst ho
  have hb1 : b = true := hb.2 (fun i hi => by rcases e21l.1 hi with h | h <;> subst h <;> decide)
  subst hb1
  refine S_bank_Safe e21RF e21Z e21K rfl (fun o b hc hf hs hb => ?_)
  have ho : o = [1] := by
    match o, hc, hs with
    | [], _, hs => exact absurd e21c (hs 1)
    | a :: q, hc, hs =>
      have hw := hc [] a q rfl
      have ha : a = 1 := by
        rcases e21l.1 hw.1 with h | h
        · subst h; exact absurd hw e21d
        · exact h
      subst ha
      match q, hc with
      | [], _ => rfl
      | a :: q, hc =>
        have hw := hc [1] a q rfl
        rcases e21l.1 hw.1 with h | h
        · subst h; exact absurd hw e21e
        · subst h; exact absurd hw.2.1 (by decide)
  subst ho
  have hb1 : b = false := by
    cases e : b with
    | false => rfl
    | true => exact absurd (hb.1 e 0 (by decide)) (by decide)
  subst hb1
  refine S_bank_Check e21RF e21Z e21K rfl (by decide) (fun i hi h _ => ?_) (fun p x q e hc hw _ _ => ?_) (fun hc _ => absurd (hc [1] 0 [] rfl) e21e) (fun hc _ => absurd (hc [1] 0 [] rfl) e21e)
  · refine absurd h (badI_no (by decide) (fun x hx => ?_) hi)
    simp at hx; rcases hx with h | h <;> subst h <;> decide
  · have hpx : p = [1] ∧ x = 0 := by
      match p, e with
      | [], e => injection e with e1 e2; subst e1; exact absurd e21c hw
      | [a], e => simp at e; exact ⟨by rw [e.1], e.2.1.symm⟩
      | a :: b :: r, e => simp at e
    obtain ⟨hp1, hx1⟩ := hpx
    subst hp1; subst hx1
    refine Jn.mk (fun x => x = true) (Ite.t rfl (S_ref07_SameL (by decide) (Ite.t rfl (Ite.f rfl (S_ref07_SameL (by decide) (Ite.t rfl (Ite.t rfl (Ite.t rfl ?_)))))))) (fun x hx => hx ▸ hp)
    refine S_bank_Way e21RF e21Z e21K rfl (by decide) (fun hn => absurd e21f hn) (fun k p hw hmin hp2 => ?_)
    have hk1 : k ≤ 1 := hmin 1 ⟨0, 2, ⟨by decide, by decide, by decide, by decide⟩, by decide, by decide, by decide, by decide, by decide, by decide⟩
    have h0 := hp2.hd
    have h1 := hp2.lst
    have hln := hp2.len
    have c0 : (rAt e21T 0).Cell = 1 := by decide
    have c1 : ([0, 1] : List Int).getD (Int.toNat 0) 0 = 0 := by decide
    rw [c0] at h0
    rw [c1] at h1
    have hk : k = 1 := by
      have : k = 0 ∨ k = 1 := by omega
      rcases this with e | e
      · subst e; rw [h0] at h1; cases h1
      · exact e
    subst hk
    have : p = [1, 0] := by
      match p, h0, h1, hln with
      | [a, b], h0, h1, _ => simp at h0 h1; rw [h0, h1]
    subst this
    exact S_ref07_SameL (by decide) rfl
end Go.Taq

/- The mathematics, part BG: BankFinds. -/
set_option linter.unusedVariables false
set_option linter.unusedSimpArgs false
namespace Go.Taq
open Go

section
variable {s : ApiSite} {st : ApiState} {homes : List Int}
/-- what has a way home is found in the end -/
theorem in_stop {o g : List Int} (hs : Stop s st homes o) (hg : ∀ x, x ∈ g → x ∈ o) {x : Int} (hw : Wy (sitO s st homes g) x) : x ∈ o := by
  by_cases h : x ∈ o
  · exact h
  · refine absurd (Wy_mono (o := g) (o' := o) (fun j hj => ?_) hw ?_) (hs x)
    · have := hB_sit.1 hj
      exact hB_sit.2 ⟨hg j this.1, this.2⟩
    · cases e : hB (sitO s st homes o) x with
      | false => rfl
      | true => exact absurd (hB_sit.1 e).1 h
theorem Chain.sub {o : List Int} (hs : Stop s st homes o) : ∀ {g : List Int}, Chain s st homes g → ∀ x, x ∈ g → x ∈ o := by
  intro g
  generalize hn : g.reverse = r
  induction r generalizing g with
  | nil => intro h x hx; have : g = [] := by simpa using hn
           subst this; cases hx
  | cons a r ih =>
    intro h x hx
    have ho : g = r.reverse ++ [a] := by have := congrArg List.reverse hn; simpa using this
    subst ho
    have h1 : Chain s st homes r.reverse := fun p i q e => h p i (q ++ [a]) (by rw [e]; simp)
    have h2 := ih (by simp) h1
    rcases List.mem_append.1 hx with hx | hx
    · exact h2 x hx
    · simp at hx; subst hx
      exact in_stop hs h2 (h r.reverse x [] rfl)
theorem nodup_same : ∀ {a b : List Int}, a.Nodup → (∀ x, x ∈ a → x ∈ b) → a.length ≤ b.length
  | [], b, _, _ => by simp
  | x :: a, b, hn, h => by
    have hn' := List.nodup_cons.1 hn
    have hx : x ∈ b := h x (by simp)
    have := nodup_same (a := a) (b := b.erase x) hn'.2 (fun y hy => by
      have hne : y ≠ x := fun e => hn'.1 (e ▸ hy)
      exact (List.mem_erase_of_ne hne).2 (h y (by simp [hy])))
    rw [List.length_erase_of_mem hx] at this
    have := List.length_pos_of_mem hx
    simp; omega
theorem Chain.len (hz : Sz st) {o : List Int} (h : Chain s st homes o) : o.length ≤ st.Robots.length := nodup_len _ o h.nodup.1 (fun x hx => live_rg (h.nodup.2 x hx))
end
end Go.Taq
