/- The library of the generated walks, part P: operations on maps. -/
import Derived.Test.YtghgknhkclpdhaaLibO
set_option linter.unusedVariables false
namespace Go.Taq
open Go
open Go.ChangeMaps (setBlock)

/-- a struct's value, cell by cell -/
def unv : AVal → AVal
  | .v (.agg vs) => .agg (vs.toList.map .v)
  | A => A
theorem Dn.unv {w0 : World} {ok : Nat → Prop} {β : List Value} {A : AVal} {x : Value} (h : Dn w0 ok β A x) : Dn w0 ok β (Taq.unv A) x := by
  unfold Taq.unv
  split
  · rename_i vs
    have := h.v_inv; subst this
    refine .agg _ vs (by simp) (fun j B hB => ?_)
    simp only [List.getElem?_map, Option.map_eq_some_iff] at hB
    obtain ⟨u, hu, rfl⟩ := hB
    have : vs[j]? = some u := by simpa using hu
    simp only [Array.getD_eq_getD_getElem?, this]
    exact .ro (.v u)
  · exact h

/-- a value that is known, cell by cell or as a whole -/
theorem Dn.unv_inv {w0 : World} {ok : Nat → Prop} {β : List Value} {A : AVal} {x y : Value} (hA : Taq.unv A = Taq.unv (.v y)) (h : Dn w0 ok β A x) : x = y := by
  have h' := h.unv
  rw [hA] at h'
  unfold Taq.unv at h'
  split at h'
  · rename_i vs heq
    cases heq
    obtain ⟨us, rfl, hl, hd⟩ := h'.agg_inv
    congr 1
    apply Array.ext (by simpa using hl.symm)
    intro i h1 h2
    have := hd i (.v vs[i]) (by simp [h2])
    have := this.v_inv
    simpa [Array.getD_eq_getD_getElem?, h1] using this
  · exact h'.v_inv

/-- the entries of a map as they lie in memory, elements read only -/
def MapAt (w0 : World) (ok : Nat → Prop) {κ α : Type} (ke : κ → Value) (ve : α → AVal) (xs : List (κ × α)) (es : Array MapEntry) (clock : Nat) : Prop :=
  Ents ke xs es clock ∧ ∀ (i : Nat) (x : κ × α) (e : MapEntry), xs[i]? = some x → es[i]? = some e → Ro w0 ok (ve x.2) e.val

section
variable {κ α : Type} [DecidableEq κ]
omit [DecidableEq κ] in
theorem Ents.entK {ke : κ → Value} {xs : List (κ × α)} {es : Array MapEntry} {clock : Nat} (h : Ents ke xs es clock) : EntK ke (xs.map (·.1)) es.toList :=
  ⟨by simp [h.size], fun i k e hk he => by
    simp only [List.getElem?_map, Option.map_eq_some_iff] at hk
    obtain ⟨x, hx, rfl⟩ := hk
    exact h.key i x e hx (by simpa using he)⟩

/-- finding a key -/
theorem Ents.find {P : Program} {kt : TypeId} {ke : κ → Value} (K : KeyT P kt ke) {xs : List (κ × α)} {es : Array MapEntry} {clock : Nat} (h : Ents ke xs es clock) (k : κ) :
    (lk xs k = none ∧ kidx (xs.map (·.1)) k = none ∧ (∀ p, p ∈ xs → p.1 ≠ k) ∧ ∀ w, (Instr.findKey kt (ke k) es.toList).run P w = .ok none w) ∨
    ∃ i v e, lk xs k = some v ∧ kidx (xs.map (·.1)) k = some i ∧ xs[i]? = some (k, v) ∧ es[i]? = some e ∧ ∀ w, (Instr.findKey kt (ke k) es.toList).run P w = .ok (some (i, e.val)) w := by
  have hl := lk_kidx xs k
  cases hk : kidx (xs.map (·.1)) k with
  | none =>
    rw [hk] at hl
    exact .inl ⟨hl.1, rfl, hl.2, fun w => by rw [K.fnd k _ _ w h.entK, hk]; rfl⟩
  | some i =>
    rw [hk] at hl
    obtain ⟨v, h1, h2⟩ := hl
    have hi := (List.getElem?_eq_some_iff.1 h1).1
    have hi' : i < es.size := by rw [h.size]; exact hi
    have : es[i]? = some es[i] := Array.getElem?_eq_getElem hi'
    exact .inr ⟨i, v, es[i], h2, rfl, h1, this, fun w => by rw [K.fnd k _ _ w h.entK, hk]; simp [this]⟩
end

section
variable {P : Program} {B : Base} {tb : Tab} {Γ : Env} {H : Heap} {nl : Nat} {o : Oper} {κ α : Type} [DecidableEq κ]

/-- a map: the labels whose blocks hold it -/
inductive IsMp (H : Heap) {κ α : Type} (ke : κ → Value) (ve : α → AVal) (xs : List (κ × α)) : AVal → List Nat → Prop where
  | rm : IsMp H ke ve xs (.rm ke ve xs) []
  | nil (h : xs = []) : IsMp H ke ve xs (.v (.map none)) []
  | o {l : Nat} (h : find H l = some (.val (.om ke ve xs))) : IsMp H ke ve xs (.o l) [l]
  | rng {l li : Nat} {seen : List κ} (h : find H l = some (.rng ke ve xs seen li)) : IsMp H ke ve xs (.o l) [l]

omit [DecidableEq κ] in
theorem IsMp.value {ke : κ → Value} {ve : α → AVal} {xs : List (κ × α)} {A : AVal} {rl : List Nat} (hm : IsMp H ke ve xs A rl) (hro : ∀ y, (ve y).isRo = true) {β : List Value} {F : Nat → Prop} {a : Act} {w : World} (hf : FitsB B β F Γ H a w) {x : Value} (hx : Dn B.w0 B.ok β A x) :
    (x = .map none ∧ xs = []) ∨ ∃ b es clock, x = .map (some b) ∧ MapAt B.w0 B.ok ke ve xs es clock ∧ ∀ w', RdC B β w w' (some rl) → w'.heap[b]? = some (.map es clock) := by
  have hok : ∀ b, B.ok b → w.heap[b]? = B.w0.heap[b]? := fun b hb => by have := hf.ok b hb; exact hf.kp.block b this.1 this.2
  cases hm with
  | rm =>
    cases hx with
    | ro h => cases h with
      | rmNil => exact .inl ⟨rfl, rfl⟩
      | rm _ _ _ b es clock hb hw he hr => exact .inr ⟨b, es, clock, rfl, ⟨he, hr⟩, fun w' hw' => by rw [hw'.1 b hb, hok b hb]; exact hw⟩
  | nil h => exact .inl ⟨hx.v_inv, h⟩
  | o h =>
    obtain ⟨F1, _, v, hv, hon⟩ := hf.heap.get h
    have := hx.o_inv
    rw [hv] at this; cases this
    cases hon with
    | ro F h => cases h
    | om _ _ _ b es clock F G hb hw he hG hd hr => exact .inr ⟨b, es, clock, rfl, ⟨he, fun i x e h1 h2 => (hr i x e h1 h2).ro_of (hro _)⟩, fun w' hw' => by rw [hw'.2 b ⟨_, by simp, _, hv, rfl⟩]; exact hw⟩
  | rng h =>
    obtain ⟨F1, _, b, bi, es, clock, sa, G, hl, hli, hne, hF, hFi, hw, hwi, he, hG, hd, hr, hs⟩ := hf.heap.get h
    have := hx.o_inv
    rw [hl] at this; cases this
    exact .inr ⟨b, es, clock, rfl, ⟨he, fun i x e h1 h2 => (hr i x e h1 h2).ro_of (hro _)⟩, fun w' hw' => by rw [hw'.2 b ⟨_, by simp, _, hl, rfl⟩]; exact hw⟩

theorem heap_same {w : World} {b : Nat} {o : Obj} (hb : w.heap[b]? = some o) (o' : Obj) : (setBlock w b o').heap[b]? = some o' := (Go.MapKept.heap_set hb).1
theorem heap_other {w : World} {b : Nat} {o : Obj} (hb : w.heap[b]? = some o) (o' : Obj) {i : Nat} (h : i ≠ b) : (setBlock w b o').heap[i]? = w.heap[i]? := (Go.MapKept.heap_set hb).2 i h
theorem kp_setBlock (w : World) (b : Nat) (o : Obj) (M : Nat → Prop) (hM : M b) : Kp w M (setBlock w b o) :=
  ⟨rfl, rfl, rfl, by simp [setBlock], fun i _ hi => by
    have : i ≠ b := fun e => hi (e ▸ hM)
    simp [setBlock, Ne.symm this], .refl _⟩

omit [DecidableEq κ] in
theorem Ents.set {ke : κ → Value} {xs : List (κ × α)} {es : Array MapEntry} {clock : Nat} (h : Ents ke xs es clock) {i : Nat} {k : κ} {v : α} {e : MapEntry} (hx : xs[i]? = some (k, v)) (he : es[i]? = some e) (y : α) (z : Value) :
    Ents ke (xs.set i (k, y)) (es.modify i fun e => { e with key := ke k, val := z }) clock := by
  have hlt := (List.getElem?_eq_some_iff.1 hx).1
  have hlt' := (Array.getElem?_eq_some_iff.1 he).1
  have hb : (es.modify i fun e => { e with key := ke k, val := z }).toList.map (·.born) = es.toList.map (·.born) := by
    apply List.ext_getElem?
    intro j
    simp only [List.getElem?_map, Array.getElem?_toList, Array.getElem?_modify]
    split <;> · cases es[j]? <;> rfl
  refine ⟨by simp [h.size], ?_, fun e' he' => ?_, ?_, fun j x e' hj he' => ?_⟩
  · have := h.born
    rw [← List.pairwise_map (f := fun e : MapEntry => e.born) (R := fun a b => a < b)] at this ⊢
    rw [hb]; exact this
  · have hm : e'.born ∈ (es.modify i fun e => { e with key := ke k, val := z }).toList.map (·.born) := List.mem_map.2 ⟨e', he', rfl⟩
    rw [hb] at hm
    obtain ⟨e2, h2, h3⟩ := List.mem_map.1 hm
    rw [← h3]; exact h.old e2 h2
  · have : (xs.set i (k, y)).map (·.1) = xs.map (·.1) := by
      apply List.ext_getElem?
      intro j
      simp only [List.getElem?_map, List.getElem?_set]
      by_cases e : i = j
      · subst e
        rw [List.getElem?_eq_getElem hlt] at hx
        have hx' := Option.some.inj hx
        simp [hlt, hx']
      · simp [e]
    rw [this]; exact h.nodup
  · rw [List.getElem?_set] at hj
    rw [Array.getElem?_modify] at he'
    by_cases e : i = j
    · subst e
      rw [if_pos rfl] at hj
      try rw [if_pos hlt] at hj
      cases hj
      rw [if_pos rfl, he] at he'
      cases he'; rfl
    · rw [if_neg e] at hj he'
      exact h.key j x e' hj (by simpa using he')

omit [DecidableEq κ] in
theorem Ents.push {ke : κ → Value} {xs : List (κ × α)} {es : Array MapEntry} {clock : Nat} (h : Ents ke xs es clock) {k : κ} (hk : ∀ p, p ∈ xs → p.1 ≠ k) (y : α) (z : Value) :
    Ents ke (xs ++ [(k, y)]) (es.push { key := ke k, val := z, born := clock }) (clock + 1) := by
  refine ⟨by simp [h.size], ?_, fun e he => ?_, ?_, fun j x e hj he => ?_⟩
  · rw [Array.toList_push, List.pairwise_append]
    exact ⟨h.born, by simp, fun a ha b hb => by simp at hb; subst hb; exact h.old a ha⟩
  · rw [Array.toList_push] at he
    rcases List.mem_append.1 he with h1 | h1
    · exact Nat.lt_succ_of_lt (h.old e h1)
    · simp at h1; subst h1; exact Nat.lt_succ_self _
  · rw [List.map_append, List.nodup_append]
    refine ⟨h.nodup, by simp, fun a ha b hb e => ?_⟩
    simp at hb; subst hb; subst e
    obtain ⟨p, hp, e⟩ := List.mem_map.1 ha
    exact hk p hp e
  · rcases Nat.lt_or_ge j xs.length with hlt | hge
    · rw [List.getElem?_append_left hlt] at hj
      rw [Array.getElem?_push, if_neg (by rw [h.size]; omega)] at he
      exact h.key j x e hj he
    · have := (List.getElem?_eq_some_iff.1 hj).1
      simp at this
      have hj' : j = xs.length := by omega
      subst hj'
      simp at hj; subst hj
      rw [Array.getElem?_push, if_pos h.size.symm] at he
      cases he; rfl

end
end Go.Taq
