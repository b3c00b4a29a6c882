/- The mathematics, several parts in one text. -/
import Derived.Test.YtlaehjhkcanffaaMA
import Derived.Test.YtlaehjhkcanffaaLibZR
import Derived.Test.YtlaehjhkcanffaaVc
/- The mathematics, part R0: more about loops and joins, and lists. -/
set_option linter.unusedVariables false
namespace Go.Taq
open Go

/-- a loop with a counter -/
theorem Loop.inv {σ : Type} {body : σ → (σ → Prop) → Prop} {s0 : σ} (n : Nat) (I : Nat → σ → Prop) (h0 : I 0 s0) (hs : ∀ i s, i < n → I i s → body s (I (i + 1))) (he : ∀ s, I n s → body s (fun _ => False)) : Loop body s0 := by
  intro X hX
  have key : ∀ k i, i + k = n → ∀ s, I i s → X s := by
    intro k
    induction k with
    | zero => intro i hi s h; have : i = n := by omega
              subst this; exact hX _ _ (he s h) (fun _ h => h.elim)
    | succ k ih => intro i hi s h; exact hX _ _ (hs i s (by omega) h) (fun s' e => ih (i + 1) (by omega) s' e)
  exact key n 0 (by omega) s0 h0

theorem Jn.ex {σ α : Type} {P : α → Prop} {A : α → (σ → Prop) → Prop} {k : σ → Prop} (x : α) (hx : P x) (h : Jn (A x) k) : Jn (fun J => ∃ x, P x ∧ A x J) k := by
  obtain ⟨J, h1, h2⟩ := h
  exact ⟨J, h1, x, hx, h2⟩
theorem w64_nat {i n : Nat} (h : i < n) (hn : n ≤ maxLen) : w64 ((i : Int) + 1) = ((i + 1 : Nat) : Int) := by
  rw [w64_eq (by omega) (by simp [maxLen] at hn; omega)]; simp
theorem Ite.lt {i n : Int} {A B : Prop} (h : i < n) (k : A) : Ite (decide (i < n)) A B := Ite.t (by simpa using h) k
theorem Ite.nlt {i n : Int} {A B : Prop} (h : ¬ i < n) (k : B) : Ite (decide (i < n)) A B := Ite.f (by simpa using h) k
/-- searches -/
theorem V_findc {α : Type} {xs : List α} (hm : xs.length ≤ maxLen) (p : α → Bool) {T : α → (Bool → Prop) → Prop} (hT : ∀ x, x ∈ xs → ∀ {post : Bool → Prop}, post (p x) → T x post) {A : Int → α → Prop} {B : Prop}
    (hA : ∀ (i : Nat) x, xs[i]? = some x → p x = true → xs.findIdx? p = some i → A (i : Int) x) (hB : (∀ x, x ∈ xs → p x = false) → xs.findIdx? p = none → B) :
    Jn (fun (J : Unit → Prop) => Loop (fun (s : Int) Y => Ite (decide (s < (xs.length : Int))) (∃ x, idx xs s = some x ∧ T x (fun b => Ite b (A s x) (Y (w64 (s + 1))))) (J ())) 0) (fun _ => B) := by
  refine Jn.mk (fun _ => B) (Loop.find xs p (fun i x hi hx hp => ?_) (fun i x hi hx hp hf => ?_) (fun hn hf => ?_)) (fun _ h => h)
  · exact Ite.lt (by omega) ⟨x, idx_of rfl hx, hT x (List.mem_of_getElem? hx) (Ite.f hp (w64_nat hi hm))⟩
  · exact Ite.lt (by omega) ⟨x, idx_of rfl hx, hT x (List.mem_of_getElem? hx) (Ite.t hp (hA i x hx hp hf))⟩
  · exact Ite.nlt (by omega) (hB hn hf)
theorem any_find {α : Type} {p : α → Bool} {xs : List α} {i : Nat} (h : xs.findIdx? p = some i) : xs.any p = true := by
  obtain ⟨hm, hp, _⟩ := List.findIdx?_eq_some_iff_getElem.1 h
  exact List.any_eq_true.2 ⟨_, List.getElem_mem hm, hp⟩
theorem any_none {α : Type} {p : α → Bool} {xs : List α} (h : ∀ x, x ∈ xs → p x = false) : xs.any p = false := by
  rw [List.any_eq_false]; intro x hx; simp [h x hx]
section
variable {α : Type} {xs : List α} (hm : xs.length ≤ maxLen)
include hm
theorem V_anyc (p : α → Bool) {T : α → (Bool → Prop) → Prop} (hT : ∀ x, x ∈ xs → ∀ {post : Bool → Prop}, post (p x) → T x post) {post : Bool → Prop} (hp : post (xs.any p)) :
    Jn (fun (J : Unit → Prop) => Loop (fun (s : Int) Y => Ite (decide (s < (xs.length : Int))) (∃ x, idx xs s = some x ∧ T x (fun b => Ite b (post true) (Y (w64 (s + 1))))) (J ())) 0) (fun _ => post false) :=
  V_findc hm p hT (A := fun _ _ => post true) (fun i x _ _ hf => by rw [← any_find hf]; exact hp) (fun hn _ => by rw [← any_none hn]; exact hp)
theorem V_fidxc (p : α → Bool) {T : α → (Bool → Prop) → Prop} (hT : ∀ x, x ∈ xs → ∀ {post : Bool → Prop}, post (p x) → T x post) {post : Int → Prop} (hp : post (fidx p xs)) :
    Jn (fun (J : Unit → Prop) => Loop (fun (s : Int) Y => Ite (decide (s < (xs.length : Int))) (∃ x, idx xs s = some x ∧ T x (fun b => Ite b (post s) (Y (w64 (s + 1))))) (J ())) 0) (fun _ => post (-1)) :=
  V_findc hm p hT (A := fun s _ => post s) (fun i x _ _ hf => by rw [fidx, hf] at hp; exact hp) (fun hn hf => by rw [fidx, hf] at hp; exact hp)
theorem V_any {p : α → Bool} {post : Bool → Prop} (hp : post (xs.any p)) :
    Jn (fun (J : Unit → Prop) => Loop (fun (s : Int) Y => Ite (decide (s < (xs.length : Int))) (∃ x, idx xs s = some x ∧ Ite (p x) (post true) (Y (w64 (s + 1)))) (J ())) 0) (fun _ => post false) :=
  V_anyc hm p (T := fun x post => post (p x)) (fun _ _ _ h => h) hp
end
theorem any_beq {xs : List Int} {v : Int} : xs.any (fun x => x == v) = xs.contains v := by
  rw [List.contains_eq_any_beq]; congr 1; funext x; exact Bool.eq_iff_iff.2 ⟨fun h => by simp at h ⊢; exact h.symm, fun h => by simp at h ⊢; exact h.symm⟩

end Go.Taq

/- The mathematics, part QA: loops whose state has a counter and more; ranges over lists; lists of places. -/
set_option linter.unusedVariables false
set_option linter.unusedSimpArgs false
namespace Go.Taq
open Go

/-- a loop over a list's places: ix is where the state keeps the place -/
theorem V_loopc {α τ : Type} {xs : List α} (hm : xs.length ≤ maxLen) (ix : τ → Int) (I : Nat → τ → Prop) {t0 : τ} (hi0 : ix t0 = 0) (h0 : I 0 t0) {R : α → τ → (τ → Prop) → Prop} {E : τ → Prop}
    (hs : ∀ (i : Nat) x t, xs[i]? = some x → ix t = (i : Int) → I i t → R x t (fun t' => ix t' = w64 ((i : Int) + 1) ∧ I (i + 1) t'))
    (he : ∀ t, I xs.length t → E t) :
    Loop (fun t Y => Ite (decide (ix t < (xs.length : Int))) (∃ x, idx xs (ix t) = some x ∧ R x t Y) (E t)) t0 := by
  refine Loop.inv xs.length (fun i t => ix t = (i : Int) ∧ I i t) ⟨by simpa using hi0, h0⟩ (fun i t hi h => ?_) (fun t h => ?_)
  · have hx : xs[i]? = some (xs[i]'hi) := List.getElem?_eq_getElem hi
    refine Ite.lt (by omega) ⟨_, by rw [h.1]; exact idx_of rfl hx, ?_⟩
    have := hs i _ t hx h.1 h.2
    rw [w64_nat hi hm] at this; exact this
  · exact Ite.nlt (by omega) (he t h.2)
/-- ... where a round is a way that meets others first -/
theorem V_loopj {α τ : Type} {xs : List α} (hm : xs.length ≤ maxLen) (ix : τ → Int) (I : Nat → τ → Prop) {t0 : τ} (hi0 : ix t0 = 0) (h0 : I 0 t0) {R : τ → (τ → Prop) → Prop} {E : τ → Prop}
    (hs : ∀ (i : Nat) x t, xs[i]? = some x → ix t = (i : Int) → I i t → R t (fun t' => ix t' = w64 ((i : Int) + 1) ∧ I (i + 1) t'))
    (he : ∀ t, I xs.length t → E t) :
    Loop (fun t Y => Ite (decide (ix t < (xs.length : Int))) (R t Y) (E t)) t0 := by
  refine Loop.inv xs.length (fun i t => ix t = (i : Int) ∧ I i t) ⟨by simpa using hi0, h0⟩ (fun i t hi h => ?_) (fun t h => ?_)
  · have hx : xs[i]? = some (xs[i]'hi) := List.getElem?_eq_getElem hi
    refine Ite.lt (by omega) ?_
    have := hs i _ t hx h.1 h.2
    rw [w64_nat hi hm] at this; exact this
  · exact Ite.nlt (by omega) (he t h.2)
/-- a range over a list -/
theorem Each.inv {α σ : Type} {body : α → σ → (σ → Prop) → Prop} {k : σ → Prop} : ∀ (ys : List α) (I : Nat → σ → Prop) {s0 : σ}, I 0 s0 → (∀ (i : Nat) x s, ys[i]? = some x → I i s → ∀ Y : σ → Prop, (∀ s', I (i + 1) s' → Y s') → body x s Y) → (∀ s, I ys.length s → k s) → Each body k ys s0
  | [], I, s0, h0, _, he => he _ h0
  | y :: ys, I, s0, h0, hs, he => hs 0 y s0 rfl h0 _ fun s' h' => Each.inv ys (fun i => I (i + 1)) h' (fun i x s hx hI Y hY => hs (i + 1) x s (by simpa using hx) hI Y hY) (fun s h => he s h)
/-- a range over numbers -/
theorem V_upto {τ : Type} (n : Nat) (ix : τ → Int) (I : Nat → τ → Prop) {t0 : τ} (hn : n ≤ maxLen) (hi0 : ix t0 = 0) (h0 : I 0 t0) {R : τ → (τ → Prop) → Prop} {E : τ → Prop}
    (hs : ∀ (i : Nat) t, i < n → ix t = (i : Int) → I i t → R t (fun t' => ix t' = w64 ((i : Int) + 1) ∧ I (i + 1) t'))
    (he : ∀ t, I n t → E t) :
    Loop (fun t Y => Ite (decide (ix t < (n : Int))) (R t Y) (E t)) t0 := by
  refine Loop.inv n (fun i t => ix t = (i : Int) ∧ I i t) ⟨by simpa using hi0, h0⟩ (fun i t hi h => ?_) (fun t h => ?_)
  · refine Ite.lt (by omega) ?_
    have := hs i t hi h.1 h.2
    rw [w64_nat hi hn] at this; exact this
  · exact Ite.nlt (by omega) (he t h.2)
theorem take_succ {α : Type} {xs : List α} {i : Nat} {x : α} (h : xs[i]? = some x) : xs.take (i + 1) = xs.take i ++ [x] := by
  rw [List.take_add_one, h]; rfl
end Go.Taq

/- The mathematics, part DA: matchings, ways by which one grows, and that a search which finds none is right (chapter 34). -/
set_option linter.unusedVariables false
set_option linter.unusedSimpArgs false
namespace Go.Taq
open Go

/-- the list of a robot -/
def rowL (l : List (List Int)) (r : Int) : List Int := l.getD r.toNat []
/-- a way by which a matching grows: from a robot over chargers that others have, to one that nobody has -/
inductive Aug (l : List (List Int)) (k : Int) (o : Int → Option Int) : Int → List (Int × Int) → Prop where
  | free {x c : Int} (hc : c ∈ rowL l x) (ho : o c = none) : Aug l k o x [(c, x)]
  | step {x c r : Int} {p : List (Int × Int)} (hc : c ∈ rowL l x) (ho : o c = some r) (hk : k ≤ r) (hp : Aug l k o r p) (hn : ∀ q, q ∈ p → q.1 ≠ c) : Aug l k o x ((c, x) :: p)
/-- the owners behind it -/
def apO : List (Int × Int) → (Int → Option Int) → Int → Option Int
  | [], o, c => o c
  | q :: p, o, c => if q.1 = c then some q.2 else apO p o c
section
variable {l : List (List Int)} {k : Int} {o : Int → Option Int} {x : Int} {p : List (Int × Int)}
/-- a set of robots that keep their chargers among them -/
def Shut (l : List (List Int)) (k : Int) (o : Int → Option Int) (T : Int → Prop) : Prop := ∀ r, T r → ∀ c, c ∈ rowL l r → ∃ r', o c = some r' ∧ (r' < k ∨ T r')
theorem Aug.out (h : Aug l k o x p) {T : Int → Prop} (hT : Shut l k o T) : ∀ q, q ∈ p → ¬ T q.2 := by
  have key : ¬ T x := by
    induction h with
    | free hc ho => intro ht; obtain ⟨r, e, _⟩ := hT _ ht _ hc; rw [ho] at e; cases e
    | step hc ho hk hp hn ih =>
      intro ht
      obtain ⟨r', e, hr⟩ := hT _ ht _ hc
      rw [ho] at e; cases e
      rcases hr with hr | hr
      · omega
      · exact ih hr
  induction h with
  | free hc ho => intro q hq; simp at hq; subst hq; exact key
  | step hc ho hk hp hn ih =>
    intro q hq
    rcases List.mem_cons.1 hq with e | hq
    · subst e; exact key
    · refine ih ?_ q hq
      intro ht
      -- the next robot is outside, too
      exact absurd ht (by
        intro ht'
        clear ih
        have : ∀ {y : Int} {p' : List (Int × Int)}, Aug l k o y p' → ¬ T y := fun {y p'} h' => by
          induction h' with
          | free hc ho => intro ht; obtain ⟨r, e, _⟩ := hT _ ht _ hc; rw [ho] at e; cases e
          | step hc ho hk hp hn ih =>
            intro ht
            obtain ⟨r', e, hr⟩ := hT _ ht _ hc
            rw [ho] at e; cases e
            rcases hr with hr | hr
            · omega
            · exact ih hr
        exact this hp ht')
theorem Aug.row (h : Aug l k o x p) : ∀ q, q ∈ p → q.1 ∈ rowL l q.2 := by
  induction h with
  | free hc ho => intro q hq; simp at hq; subst hq; exact hc
  | step hc ho hk hp hn ih => intro q hq; rcases List.mem_cons.1 hq with e | hq; (subst e; exact hc); exact ih q hq
theorem Aug.head (h : Aug l k o x p) : ∃ c, (c, x) ∈ p := by
  cases h with
  | free hc ho => exact ⟨_, List.mem_cons_self ..⟩
  | step hc ho hk hp hn => exact ⟨_, List.mem_cons_self ..⟩
/-- who is on the way had a charger on the way, but for the first -/
theorem Aug.had (h : Aug l k o x p) : ∀ q, q ∈ p → q.2 = x ∨ ∃ q', q' ∈ p ∧ o q'.1 = some q.2 ∧ k ≤ q.2 := by
  induction h with
  | free hc ho => intro q hq; simp at hq; subst hq; exact .inl rfl
  | step hc ho hk hp hn ih =>
    intro q hq
    rcases List.mem_cons.1 hq with e | hq
    · subst e; exact .inl rfl
    · rcases ih q hq with e | ⟨q', h1, h2, h3⟩
      · exact .inr ⟨_, List.mem_cons_self .., by rw [e]; exact ho, by rw [e]; exact hk⟩
      · exact .inr ⟨q', List.mem_cons_of_mem _ h1, h2, h3⟩
/-- who has a charger of the way is on the way -/
theorem Aug.own (h : Aug l k o x p) : ∀ q r, q ∈ p → o q.1 = some r → k ≤ r ∧ ∃ q', q' ∈ p ∧ q'.2 = r := by
  induction h with
  | free hc ho => intro q r hq e; simp at hq; subst hq; rw [ho] at e; cases e
  | step hc ho hk hp hn ih =>
    intro q r hq e
    rcases List.mem_cons.1 hq with e2 | hq
    · subst e2
      rw [ho] at e; cases e
      obtain ⟨c', h'⟩ := hp.head
      exact ⟨hk, _, List.mem_cons_of_mem _ h', rfl⟩
    · obtain ⟨h1, q', h2, h3⟩ := ih q r hq e
      exact ⟨h1, q', List.mem_cons_of_mem _ h2, h3⟩
/-- each charger is on it once -/
theorem Aug.once (h : Aug l k o x p) : ∀ q q', q ∈ p → q' ∈ p → q.1 = q'.1 → q = q' := by
  induction h with
  | free hc ho => intro q q' hq hq' _; simp at hq hq'; rw [hq, hq']
  | step hc ho hk hp hn ih =>
    intro q q' hq hq' e
    rcases List.mem_cons.1 hq with e1 | hq <;> rcases List.mem_cons.1 hq' with e2 | hq'
    · rw [e1, e2]
    · subst e1; exact absurd e.symm (hn q' hq')
    · subst e2; exact absurd e (hn q hq)
    · exact ih q q' hq hq' e
/-- each robot is on it once -/
theorem Aug.robot (hi : ∀ c c' r, o c = some r → o c' = some r → c = c') (h : Aug l k o x p) : (∀ q, q ∈ p → o q.1 ≠ some x) → ∀ q q', q ∈ p → q' ∈ p → q.2 = q'.2 → q = q' := by
  induction h with
  | free hc ho => intro _ q q' hq hq' _; simp at hq hq'; rw [hq, hq']
  | step hc ho hk hp hn ih =>
    rename_i x c r p
    intro hx q q' hq hq' e
    have key : ∀ q, q ∈ p → q.2 ≠ x := fun q hq e => by
      rcases hp.had q hq with e2 | ⟨q', h1, h2, h3⟩
      · exact hx (c, x) (List.mem_cons_self ..) (by rw [← e, e2]; exact ho)
      · exact hx q' (List.mem_cons_of_mem _ h1) (by rw [← e]; exact h2)
    rcases List.mem_cons.1 hq with e1 | hq <;> rcases List.mem_cons.1 hq' with e2 | hq'
    · rw [e1, e2]
    · subst e1; exact absurd e.symm (key q' hq')
    · subst e2; exact absurd e (key q hq)
    · exact ih (fun q hq e => hn q hq (hi _ _ _ e ho)) q q' hq hq' e
theorem apO_cases : ∀ (p : List (Int × Int)) (c : Int), (∃ q, q ∈ p ∧ q.1 = c ∧ apO p o c = some q.2) ∨ ((∀ q, q ∈ p → q.1 ≠ c) ∧ apO p o c = o c)
  | [], c => .inr ⟨fun q hq => (by cases hq), rfl⟩
  | q :: p, c => by
    unfold apO
    by_cases h : q.1 = c
    · exact .inl ⟨q, List.mem_cons_self .., h, by rw [if_pos h]⟩
    · rcases apO_cases p c with ⟨q', h1, h2, h3⟩ | ⟨h1, h2⟩
      · exact .inl ⟨q', List.mem_cons_of_mem _ h1, h2, by rw [if_neg h]; exact h3⟩
      · exact .inr ⟨fun q' hq' => (List.mem_cons.1 hq').elim (fun e => e ▸ h) (h1 q'), by rw [if_neg h]; exact h2⟩
theorem Aug.ap (h : Aug l k o x p) {q : Int × Int} (hq : q ∈ p) : apO p o q.1 = some q.2 := by
  rcases apO_cases (o := o) p q.1 with ⟨q', h1, h2, h3⟩ | ⟨h1, h2⟩
  · rw [h3, h.once q' q h1 hq h2]
  · exact absurd rfl (h1 q hq)
end
/-! ## what the search keeps -/
structure KI (l : List (List Int)) (g : List Int) (i : Nat) (o : Int → Option Int) (n : Nat) : Prop where
  dom : ∀ c r, o c = some r → 0 ≤ r ∧ r < i ∧ (r < g.length → g[r.toNat]? = some c) ∧ (¬ r < g.length → c ∈ rowL l r)
  giv : ∀ (j : Nat) c, g[j]? = some c → 0 ≤ c → o c = some (j : Int)
  inj : ∀ c c' r, o c = some r → o c' = some r → c = c'
  shut : ∃ T : Int → Prop, (∀ r, T r → (g.length : Int) ≤ r ∧ r < i) ∧ Shut l g.length o T ∧ ∀ r : Int, (g.length : Int) ≤ r → r < i → (∀ c, o c ≠ some r) → T r
  cnt : ∃ rs : List Int, rs.Nodup ∧ rs.length = n ∧ ∀ r, r ∈ rs ↔ ∃ c, o c = some r
section
variable {l : List (List Int)} {g : List Int} {i n : Nat} {o : Int → Option Int} {p : List (Int × Int)}
theorem KI.grow (h : KI l g i o n) (hg : g.length ≤ i) (hp : Aug l g.length o i p) : KI l g (i + 1) (apO p o) (n + 1) := by
  have hx : ∀ c, o c ≠ some (i : Int) := fun c e => by have := (h.dom c _ e).2.1; omega
  have hrob := hp.robot h.inj (fun q _ => hx q.1)
  have off : ∀ {c r : Int}, o c = some r → (∃ q, q ∈ p ∧ q.2 = r) ∨ apO p o c = some r := fun {c r} e => by
    rcases apO_cases (o := o) p c with ⟨q, h1, h2, h3⟩ | ⟨h1, h2⟩
    · exact .inl (by obtain ⟨_, q', g1, g2⟩ := hp.own q r h1 (by rw [h2]; exact e); exact ⟨q', g1, g2⟩)
    · exact .inr (h2.trans e)
  refine ⟨fun c r e => ?_, fun j c hj hc => ?_, fun c c' r e e' => ?_, ?_, ?_⟩
  · rcases apO_cases (o := o) p c with ⟨q, h1, h2, h3⟩ | ⟨h1, h2⟩
    · have er : q.2 = r := by rw [h3] at e; exact Option.some.inj e
      subst er; subst h2
      have hrow := hp.row q h1
      rcases hp.had q h1 with e2 | ⟨q', g1, g2, g3⟩
      · rw [e2] at hrow ⊢
        exact ⟨by omega, by omega, fun h => by omega, fun _ => hrow⟩
      · obtain ⟨d1, d2, _⟩ := h.dom _ _ g2
        exact ⟨d1, by omega, fun h => by omega, fun _ => hrow⟩
    · rw [h2] at e
      obtain ⟨d1, d2, d3⟩ := h.dom _ _ e
      exact ⟨d1, by omega, d3⟩
  · have e := h.giv j c hj hc
    rcases apO_cases (o := o) p c with ⟨q, h1, h2, h3⟩ | ⟨h1, h2⟩
    · have := (hp.own q _ h1 (by rw [h2]; exact e)).1
      have := (List.getElem?_eq_some_iff.1 hj).1
      omega
    · rw [h2]; exact e
  · rcases apO_cases (o := o) p c with ⟨q, h1, h2, h3⟩ | ⟨h1, h2⟩ <;> rcases apO_cases (o := o) p c' with ⟨q', h1', h2', h3'⟩ | ⟨h1', h2'⟩
    · rw [h3] at e; rw [h3'] at e'
      have := hrob q q' h1 h1' ((Option.some.inj e).trans (Option.some.inj e').symm)
      rw [← h2, ← h2', this]
    · rw [h3] at e; rw [h2'] at e'
      have er := Option.some.inj e
      rcases hp.had q h1 with e2 | ⟨q2, g1, g2, g3⟩
      · rw [← er, e2] at e'; exact absurd e' (hx _)
      · rw [er] at g2
        exact absurd (h.inj _ _ _ g2 e') (h1' q2 g1)
    · rw [h2] at e; rw [h3'] at e'
      have er := Option.some.inj e'
      rcases hp.had q' h1' with e2 | ⟨q2, g1, g2, g3⟩
      · rw [← er, e2] at e; exact absurd e (hx _)
      · rw [er] at g2
        exact absurd (h.inj _ _ _ g2 e) (h1 q2 g1)
    · rw [h2] at e; rw [h2'] at e'; exact h.inj _ _ _ e e'
  · obtain ⟨T, t1, t2, t3⟩ := h.shut
    have hout := hp.out t2
    refine ⟨T, fun r hr => by have := t1 r hr; omega, fun r hr c hc => ?_, fun r hr1 hr2 hn => ?_⟩
    · obtain ⟨r', e, hr'⟩ := t2 r hr c hc
      refine ⟨r', ?_, hr'⟩
      rcases apO_cases (o := o) p c with ⟨q, h1, h2, h3⟩ | ⟨h1, h2⟩
      · obtain ⟨g1, q', g2, g3⟩ := hp.own q r' h1 (by rw [h2]; exact e)
        rcases hr' with h | h
        · omega
        · exact absurd (g3 ▸ h) (hout q' g2)
      · rw [h2]; exact e
    · have hnon : ∀ q, q ∈ p → q.2 ≠ r := fun q hq e => hn q.1 (by rw [hp.ap hq, e])
      by_cases e : r = i
      · obtain ⟨c, hc⟩ := hp.head
        exact absurd e.symm (hnon _ hc)
      · refine t3 r hr1 (by omega) (fun c hc => ?_)
        rcases off hc with ⟨q, h1, h2⟩ | h
        · exact hnon q h1 h2
        · exact hn c h
  · obtain ⟨rs, r1, r2, r3⟩ := h.cnt
    refine ⟨(i : Int) :: rs, List.nodup_cons.2 ⟨fun hi => ?_, r1⟩, by simp [r2], fun r => ?_⟩
    · obtain ⟨c, hc⟩ := (r3 _).1 hi; exact hx c hc
    · rw [List.mem_cons, r3]
      constructor
      · rintro (e | ⟨c, hc⟩)
        · subst e
          obtain ⟨c, hc⟩ := hp.head
          exact ⟨c, hp.ap hc⟩
        · rcases off hc with ⟨q, h1, h2⟩ | h
          · exact ⟨q.1, by rw [hp.ap h1, h2]⟩
          · exact ⟨c, h⟩
      · rintro ⟨c, hc⟩
        rcases apO_cases (o := o) p c with ⟨q, h1, h2, h3⟩ | ⟨h1, h2⟩
        · have er : q.2 = r := by rw [h3] at hc; exact Option.some.inj hc
          rcases hp.had q h1 with e2 | ⟨q', g1, g2, g3⟩
          · exact .inl (by rw [← er, e2])
          · exact .inr ⟨q'.1, by rw [← er]; exact g2⟩
        · exact .inr ⟨c, by rw [← h2]; exact hc⟩
/-- the search finds none: all that it has seen is held -/
def Stk (l : List (List Int)) (k : Int) (o : Int → Option Int) (x : Int) (S S' : Int → Prop) : Prop :=
  (∀ c, S c → S' c) ∧ (∀ c, c ∈ rowL l x → S' c) ∧ ∀ c, S' c → S c ∨ ∃ r, o c = some r ∧ (r < k ∨ ∀ c2, c2 ∈ rowL l r → S' c2)
theorem KI.stuck (h : KI l g i o n) (hg : g.length ≤ i) {S' : Int → Prop} (hs : Stk l g.length o i (fun _ => False) S') : KI l g (i + 1) o n := by
  obtain ⟨_, s2, s3⟩ := hs
  have held : ∀ c, S' c → ∃ r, o c = some r ∧ (r < (g.length : Int) ∨ ∀ c2, c2 ∈ rowL l r → S' c2) := fun c hc => (s3 c hc).resolve_left id
  refine ⟨fun c r e => ?_, h.giv, h.inj, ?_, h.cnt⟩
  · obtain ⟨d1, d2, d3⟩ := h.dom c r e
    exact ⟨d1, by omega, d3⟩
  · obtain ⟨T, t1, t2, t3⟩ := h.shut
    refine ⟨fun r => T r ∨ r = i ∨ ∃ c, S' c ∧ o c = some r ∧ (g.length : Int) ≤ r, fun r hr => ?_, fun r hr c hc => ?_, fun r hr1 hr2 hn => ?_⟩
    · rcases hr with hr | hr | ⟨c, _, hr, hk⟩
      · have := t1 r hr; omega
      · omega
      · have := (h.dom c r hr).2.1; omega
    · have fin : S' c → ∃ r', o c = some r' ∧ (r' < (g.length : Int) ∨ (T r' ∨ r' = i ∨ ∃ c, S' c ∧ o c = some r' ∧ (g.length : Int) ≤ r')) := fun hs => by
        obtain ⟨r', e, _⟩ := held c hs
        refine ⟨r', e, ?_⟩
        by_cases hk : r' < (g.length : Int)
        · exact .inl hk
        · exact .inr (.inr (.inr ⟨c, hs, e, by omega⟩))
      rcases hr with hr | hr | ⟨c0, h0, hr, hk⟩
      · obtain ⟨r', e, hr'⟩ := t2 r hr c hc
        exact ⟨r', e, hr'.imp id .inl⟩
      · subst hr; exact fin (s2 c hc)
      · obtain ⟨r0, e0, hr0⟩ := held c0 h0
        rw [e0] at hr; cases hr
        rcases hr0 with hlt | hall
        · omega
        · exact fin (hall c hc)
    · by_cases e : r = i
      · exact .inr (.inl e)
      · exact .inl (t3 r hr1 (by omega) hn)
end
/-! ## matchings -/
structure Mat (l : List (List Int)) (m : List Int) : Prop where
  len : m.length = l.length
  ok : ∀ (i : Nat) c, m[i]? = some c → c = -1 ∨ (0 ≤ c ∧ c ∈ rowL l i ∧ ∀ j : Nat, j < i → m[j]? ≠ some c)
/-- the beginning of a matching -/
structure Beg (l : List (List Int)) (g : List Int) : Prop where
  len : g.length ≤ l.length
  ok : ∀ (i : Nat) c, g[i]? = some c → c = -1 ∨ (0 ≤ c ∧ c ∈ rowL l i ∧ ∀ j : Nat, j < i → g[j]? ≠ some c)
def szM (m : List Int) : Nat := m.countP fun c => decide (0 ≤ c)
/-- the greatest size of a matching that begins so -/
structure Most (l : List (List Int)) (g : List Int) (v : Nat) : Prop where
  is : ∃ m, Mat l m ∧ m.take g.length = g ∧ szM m = v
  le : ∀ m, Mat l m → m.take g.length = g → szM m ≤ v
theorem Most.uniq {l : List (List Int)} {g : List Int} {v w : Nat} (h : Most l g v) (h' : Most l g w) : v = w := by
  obtain ⟨m, m1, m2, m3⟩ := h.is
  obtain ⟨m', m1', m2', m3'⟩ := h'.is
  have := h.le m' m1' m2'
  have := h'.le m m1 m2
  omega
theorem nodup_sub : ∀ {a b : List Int}, a.Nodup → (∀ x, x ∈ a → x ∈ b) → a.length ≤ b.length
  | [], b, _, _ => Nat.zero_le _
  | x :: a, b, h, hs => by
    obtain ⟨h1, h2⟩ := List.nodup_cons.1 h
    have hx := hs x (List.mem_cons_self ..)
    have := nodup_sub (a := a) (b := b.erase x) h2 (fun y hy => (List.mem_erase_of_ne (fun e => h1 (by rw [← e]; exact hy))).2 (hs y (List.mem_cons_of_mem _ hy)))
    rw [List.length_erase_of_mem hx] at this
    have := List.length_pos_of_mem hx
    simp only [List.length_cons]; omega
theorem nodup_eq {a b : List Int} (ha : a.Nodup) (hb : b.Nodup) (h : ∀ x, x ∈ a ↔ x ∈ b) : a.length = b.length :=
  Nat.le_antisymm (nodup_sub ha fun x hx => (h x).1 hx) (nodup_sub hb fun x hx => (h x).2 hx)
/-- a list within another of the same length has all of it -/
theorem nodup_all {a b : List Int} (ha : a.Nodup) (hs : ∀ x, x ∈ a → x ∈ b) (hl : b.length ≤ a.length) {x : Int} (hx : x ∈ b) : x ∈ a := by
  by_cases h : x ∈ a
  · exact h
  · have := nodup_sub (a := x :: a) (b := b) (List.nodup_cons.2 ⟨h, ha⟩) (fun y hy => (List.mem_cons.1 hy).elim (fun e => by rw [e]; exact hx) (hs y))
    simp only [List.length_cons] at this; omega
/-- the robots that have a charger -/
def hasM (m : List Int) : List Int := ((List.range m.length).filter fun j => decide (0 ≤ m.getD j (-1))).map fun (j : Nat) => (j : Int)
theorem hasM_mem {m : List Int} {r : Int} : r ∈ hasM m ↔ ∃ (j : Nat) (c : Int), r = j ∧ m[j]? = some c ∧ 0 ≤ c := by
  unfold hasM
  simp only [List.mem_map, List.mem_filter, List.mem_range, decide_eq_true_eq]
  constructor
  · rintro ⟨j, ⟨h1, h2⟩, e⟩
    rw [List.getD_eq_getElem?_getD, List.getElem?_eq_getElem h1] at h2
    exact ⟨j, _, e.symm, List.getElem?_eq_getElem h1, h2⟩
  · rintro ⟨j, c, e, h1, h2⟩
    have hlt := (List.getElem?_eq_some_iff.1 h1).1
    exact ⟨j, ⟨hlt, by rw [List.getD_eq_getElem?_getD, h1]; exact h2⟩, e.symm⟩
theorem nodup_cast {xs : List Nat} (h : xs.Nodup) : (xs.map fun (j : Nat) => (j : Int)).Nodup := by
  rw [List.Nodup, List.pairwise_map]
  exact h.imp fun h e => h (by omega)
theorem hasM_nodup (m : List Int) : (hasM m).Nodup := nodup_cast (List.nodup_range.filter _)
theorem hasM_len (m : List Int) : (hasM m).length = szM m := by
  unfold hasM szM
  rw [List.length_map, ← List.countP_eq_length_filter]
  have : ∀ k, k ≤ m.length → (List.range k).countP (fun j => decide (0 ≤ m.getD j (-1))) = (m.take k).countP (fun c => decide (0 ≤ c)) := fun k => by
    induction k with
    | zero => intro _; simp
    | succ k ih =>
      intro hk
      have hx : m[k]? = some (m[k]'(by omega)) := List.getElem?_eq_getElem _
      rw [List.range_succ, List.countP_append, ih (by omega), take_succ hx, List.countP_append]
      congr 1
      simp only [List.countP_cons, List.countP_nil, List.getD_eq_getElem?_getD, hx, Option.getD_some]
  have := this m.length (Nat.le_refl _)
  rw [List.take_length] at this; exact this
section
variable {l : List (List Int)} {g : List Int} {n : Nat} {o : Int → Option Int}
/-- the chargers' numbers are not negative -/
theorem KI.pos (h : KI l g l.length o n) (hg : ∀ (i : Nat) c, g[i]? = some c → o c = some (i : Int) → 0 ≤ c) (hpos : ∀ r c, c ∈ rowL l r → 0 ≤ c) {c r : Int} (e : o c = some r) : 0 ≤ c := by
  obtain ⟨d1, d2, d3, d4⟩ := h.dom c r e
  by_cases hk : r < g.length
  · exact hg _ _ (d3 hk) (by rw [e]; congr 1; omega)
  · exact hpos _ _ (d4 hk)
theorem KI.most (h : KI l g l.length o n) (hg : Beg l g) (hneg : ∀ c, o c ≠ none → 0 ≤ c) : Most l g n := by
  obtain ⟨rs, r1, r2, r3⟩ := h.cnt
  have hgl := hg.len
  have hc0 : ∀ c r, o c = some r → 0 ≤ c := fun c r e => hneg c (by rw [e]; simp)
  classical
  constructor
  · -- the matching that is found
    obtain ⟨f, hf, hf0⟩ : ∃ f : Nat → Int, (∀ (r : Nat) c, o c = some (r : Int) → f r = c) ∧ ∀ r : Nat, (∀ c, o c ≠ some (r : Int)) → f r = -1 := by
      refine ⟨fun r => if hc : ∃ c, o c = some (r : Int) then Classical.choose hc else -1, fun r c e => ?_, fun r hn => ?_⟩
      · show (if hc : ∃ c, o c = some (r : Int) then Classical.choose hc else -1) = c
        rw [dif_pos ⟨c, e⟩]; exact h.inj _ _ _ (Classical.choose_spec (⟨c, e⟩ : ∃ c, o c = some (r : Int))) e
      · show (if hc : ∃ c, o c = some (r : Int) then Classical.choose hc else -1) = -1
        rw [dif_neg (fun ⟨c, e⟩ => hn c e)]
    have hfc : ∀ r : Nat, (∃ c, o c = some (r : Int) ∧ f r = c) ∨ ((∀ c, o c ≠ some (r : Int)) ∧ f r = -1) := fun r => by
      by_cases hc : ∃ c, o c = some (r : Int)
      · obtain ⟨c, e⟩ := hc; exact .inl ⟨c, e, hf r c e⟩
      · have hn : ∀ c, o c ≠ some (r : Int) := fun c e => hc ⟨c, e⟩
        exact .inr ⟨hn, hf0 r hn⟩
    have hget : ∀ (j : Nat) c, ((List.range l.length).map f)[j]? = some c → j < l.length ∧ f j = c := fun j c e => by
      have hj := (List.getElem?_eq_some_iff.1 e).1
      rw [List.length_map, List.length_range] at hj
      rw [List.getElem?_map, List.getElem?_range hj] at e
      exact ⟨hj, Option.some.inj e⟩
    have hgf : ∀ (j : Nat) c, g[j]? = some c → f j = c := fun j c hj => by
      have hlt := (List.getElem?_eq_some_iff.1 hj).1
      rcases hg.ok j c hj with e | ⟨e, _⟩
      · rcases hfc j with ⟨c', e1, e2⟩ | ⟨_, e2⟩
        · have := (h.dom c' j e1).2.2.1 (by omega)
          rw [Int.toNat_natCast, hj] at this
          have := Option.some.inj this
          rw [e2, this]
        · rw [e2, e]
      · exact hf j c (h.giv j c hj e)
    refine ⟨(List.range l.length).map f, ⟨by simp, fun i c e => ?_⟩, ?_, ?_⟩
    · obtain ⟨hi, e⟩ := hget i c e
      rcases hfc i with ⟨c', e1, e2⟩ | ⟨_, e2⟩
      · right
        have ec : c' = c := e2.symm.trans e
        subst ec
        refine ⟨hc0 _ _ e1, ?_, fun j hj e3 => ?_⟩
        · obtain ⟨d1, d2, d3, d4⟩ := h.dom _ _ e1
          by_cases hk : (i : Int) < g.length
          · rcases hg.ok _ _ (d3 hk) with e4 | e4
            · have := hc0 _ _ e1; omega
            · rw [Int.toNat_natCast] at e4; exact e4.2.1
          · exact d4 hk
        · obtain ⟨hj2, e3⟩ := hget j _ e3
          rcases hfc j with ⟨c2, e4, e5⟩ | ⟨_, e5⟩
          · rw [e3] at e5; subst e5
            rw [e1] at e4
            have := Option.some.inj e4; omega
          · have := hc0 _ _ e1; omega
      · exact .inl (by omega)
    · refine List.ext_getElem? fun j => ?_
      by_cases hj : j < g.length
      · rw [List.getElem?_take_of_lt hj, List.getElem?_map, List.getElem?_range (by omega)]
        have := List.getElem?_eq_getElem hj
        rw [this, ← hgf j _ this]; rfl
      · rw [List.getElem?_eq_none (by simp; omega), List.getElem?_eq_none (by omega)]
    · rw [← hasM_len, ← r2]
      refine nodup_eq (hasM_nodup _) r1 fun r => ?_
      rw [hasM_mem, r3]
      constructor
      · rintro ⟨j, c, e, e2, e3⟩
        obtain ⟨_, e2⟩ := hget j c e2
        rcases hfc j with ⟨c', e4, e5⟩ | ⟨_, e5⟩
        · exact ⟨c', by rw [e]; exact e4⟩
        · omega
      · rintro ⟨c, e⟩
        obtain ⟨d1, d2, _⟩ := h.dom c r e
        have er : ((r.toNat : Nat) : Int) = r := by omega
        refine ⟨r.toNat, c, er.symm, ?_, hc0 _ _ e⟩
        rw [List.getElem?_map, List.getElem?_range (by omega)]
        rw [← er] at e
        exact congrArg some (hf _ _ e)
  · intro m hm hmg
    obtain ⟨T, t1, t2, t3⟩ := h.shut
    have hmlt : ∀ {j : Nat} {c : Int}, m[j]? = some c → j < l.length := fun {j c} e => by rw [← hm.len]; exact (List.getElem?_eq_some_iff.1 e).1
    have hgm : ∀ {j : Nat} {c : Int}, j < g.length → m[j]? = some c → g[j]? = some c := fun {j c} hj e => by rw [← hmg, List.getElem?_take_of_lt hj]; exact e
    -- a robot of the search for each robot of the other matching
    obtain ⟨φ, hφ⟩ : ∃ φ : Int → Int, ∀ r, r ∈ hasM m → φ r ∈ rs ∧ ((¬ T r ∧ φ r = r) ∨ (T r ∧ T (φ r) ∧ ∃ c, m[r.toNat]? = some c ∧ o c = some (φ r))) := by
      have : ∀ r, ∃ r', r ∈ hasM m → r' ∈ rs ∧ ((¬ T r ∧ r' = r) ∨ (T r ∧ T r' ∧ ∃ c, m[r.toNat]? = some c ∧ o c = some r')) := fun r => by
        by_cases hr : r ∈ hasM m
        · obtain ⟨j, c, e, e2, e3⟩ := hasM_mem.1 hr
          have hj := hmlt e2
          have hrow : c ∈ rowL l r := by
            rcases hm.ok j c e2 with h | h
            · omega
            · rw [e]; exact h.2.1
          by_cases hk : j < g.length
          · have e4 := h.giv j c (hgm hk e2) e3
            refine ⟨r, fun _ => ⟨(r3 _).2 ⟨c, by rw [e]; exact e4⟩, .inl ⟨fun ht => ?_, rfl⟩⟩⟩
            have := (t1 r ht).1; omega
          · by_cases ht : T r
            · obtain ⟨r', e4, hr'⟩ := t2 r ht c hrow
              refine ⟨r', fun _ => ⟨(r3 _).2 ⟨c, e4⟩, .inr ⟨ht, ?_, c, by rw [e, Int.toNat_natCast]; exact e2, e4⟩⟩⟩
              rcases hr' with hlt | ht'
              · exfalso
                obtain ⟨d1, d2, d3, _⟩ := h.dom c r' e4
                have h5 := d3 hlt
                have h6 : m[r'.toNat]? = some c := by
                  rw [← hmg, List.getElem?_take_of_lt (by omega)] at h5; exact h5
                rcases hm.ok j c e2 with h | h
                · omega
                · exact h.2.2 r'.toNat (by omega) h6
              · exact ht'
            · refine ⟨r, fun _ => ⟨?_, .inl ⟨ht, rfl⟩⟩⟩
              by_cases hn : ∃ c, o c = some r
              · exact (r3 _).2 hn
              · exact absurd (t3 r (by omega) (by omega) (fun c e => hn ⟨c, e⟩)) ht
        · exact ⟨r, fun h => absurd h hr⟩
      exact ⟨fun r => Classical.choose (this r), fun r => Classical.choose_spec (this r)⟩
    rw [← hasM_len, ← r2, ← List.length_map (f := φ)]
    refine nodup_sub ?_ (fun y hy => ?_)
    · rw [List.Nodup, List.pairwise_map]
      refine ((hasM_nodup m).imp_of_mem fun {a b} ha hb hab e => hab ?_)
      obtain ⟨_, ha'⟩ := hφ a ha
      obtain ⟨_, hb'⟩ := hφ b hb
      rcases ha' with ⟨a1, a2⟩ | ⟨a1, a2, c, a3, a4⟩ <;> rcases hb' with ⟨b1, b2⟩ | ⟨b1, b2, c', b3, b4⟩
      · rw [← a2, e, b2]
      · exfalso; rw [e] at a2; rw [a2] at b2; exact a1 b2
      · exfalso; rw [e, b2] at a2; exact b1 a2
      · rw [e] at a4
        have ec := h.inj _ _ _ a4 b4
        subst ec
        obtain ⟨ja, ca, ea, ea2, ea3⟩ := hasM_mem.1 ha
        obtain ⟨jb, cb, eb, eb2, eb3⟩ := hasM_mem.1 hb
        rw [ea, Int.toNat_natCast] at a3
        rw [eb, Int.toNat_natCast] at b3
        rw [ea2] at a3; cases a3
        rw [eb2] at b3; cases b3
        rcases Nat.lt_trichotomy ja jb with hlt | heq | hgt
        · rcases hm.ok jb c eb2 with h | h
          · omega
          · exact absurd ea2 (h.2.2 ja hlt)
        · rw [ea, eb, heq]
        · rcases hm.ok ja c ea2 with h | h
          · omega
          · exact absurd eb2 (h.2.2 jb hgt)
    · obtain ⟨r, hr, rfl⟩ := List.mem_map.1 hy
      exact (hφ r hr).1
/-- in a greatest matching, what can be reached from robots without a charger is closed -/
def Tight (l : List (List Int)) (m : List Int) : Prop := ∃ T : Int → Prop, (∀ j : Nat, m[j]? = some (-1) → T j) ∧ ∀ r, T r → ∀ c, c ∈ rowL l r → ∃ j : Nat, T j ∧ m[j]? = some c
theorem KI.tight (h : KI l [] l.length o n) {m : List Int} (hm : Mat l m) (hs : szM m = n) : Tight l m := by
  obtain ⟨rs, r1, r2, r3⟩ := h.cnt
  obtain ⟨T, t1, t2, t3⟩ := h.shut
  classical
  have hmlt : ∀ {j : Nat} {c : Int}, m[j]? = some c → j < l.length := fun {j c} e => by rw [← hm.len]; exact (List.getElem?_eq_some_iff.1 e).1
  obtain ⟨φ, hφ⟩ : ∃ φ : Int → Int, ∀ r, r ∈ hasM m → φ r ∈ rs ∧ ((¬ T r ∧ φ r = r) ∨ (T r ∧ T (φ r) ∧ ∃ c, m[r.toNat]? = some c ∧ o c = some (φ r))) := by
    have : ∀ r, ∃ r', r ∈ hasM m → r' ∈ rs ∧ ((¬ T r ∧ r' = r) ∨ (T r ∧ T r' ∧ ∃ c, m[r.toNat]? = some c ∧ o c = some r')) := fun r => by
      by_cases hr : r ∈ hasM m
      · obtain ⟨j, c, e, e2, e3⟩ := hasM_mem.1 hr
        have hj := hmlt e2
        have hrow : c ∈ rowL l r := by
          rcases hm.ok j c e2 with h | h
          · omega
          · rw [e]; exact h.2.1
        by_cases ht : T r
        · obtain ⟨r', e4, hr'⟩ := t2 r ht c hrow
          refine ⟨r', fun _ => ⟨(r3 _).2 ⟨c, e4⟩, .inr ⟨ht, ?_, c, by rw [e, Int.toNat_natCast]; exact e2, e4⟩⟩⟩
          rcases hr' with hlt | ht'
          · have := (h.dom c r' e4).1; simp at hlt; omega
          · exact ht'
        · refine ⟨r, fun _ => ⟨?_, .inl ⟨ht, rfl⟩⟩⟩
          by_cases hn : ∃ c, o c = some r
          · exact (r3 _).2 hn
          · exact absurd (t3 r (by simp; omega) (by omega) (fun c e => hn ⟨c, e⟩)) ht
      · exact ⟨r, fun h => absurd h hr⟩
    exact ⟨fun r => Classical.choose (this r), fun r => Classical.choose_spec (this r)⟩
  have hnd : ((hasM m).map φ).Nodup := by
    rw [List.Nodup, List.pairwise_map]
    refine ((hasM_nodup m).imp_of_mem fun {a b} ha hb hab e => hab ?_)
    obtain ⟨_, ha'⟩ := hφ a ha
    obtain ⟨_, hb'⟩ := hφ b hb
    rcases ha' with ⟨a1, a2⟩ | ⟨a1, a2, c, a3, a4⟩ <;> rcases hb' with ⟨b1, b2⟩ | ⟨b1, b2, c', b3, b4⟩
    · rw [← a2, e, b2]
    · exfalso; rw [e] at a2; rw [a2] at b2; exact a1 b2
    · exfalso; rw [e, b2] at a2; exact b1 a2
    · rw [e] at a4
      have ec := h.inj _ _ _ a4 b4
      subst ec
      obtain ⟨ja, ca, ea, ea2, ea3⟩ := hasM_mem.1 ha
      obtain ⟨jb, cb, eb, eb2, eb3⟩ := hasM_mem.1 hb
      rw [ea, Int.toNat_natCast] at a3
      rw [eb, Int.toNat_natCast] at b3
      rw [ea2] at a3; cases a3
      rw [eb2] at b3; cases b3
      rcases Nat.lt_trichotomy ja jb with hlt | heq | hgt
      · rcases hm.ok jb c eb2 with h | h
        · omega
        · exact absurd ea2 (h.2.2 ja hlt)
      · rw [ea, eb, heq]
      · rcases hm.ok ja c ea2 with h | h
        · omega
        · exact absurd eb2 (h.2.2 jb hgt)
  have hall : ∀ r, r ∈ rs → r ∈ (hasM m).map φ := fun r hr => nodup_all hnd (fun y hy => by
    obtain ⟨r, hr, rfl⟩ := List.mem_map.1 hy
    exact (hφ r hr).1) (by rw [List.length_map, hasM_len, hs]; omega) hr
  refine ⟨fun r => T r, fun j hj => ?_, fun r hr c hc => ?_⟩
  · -- a robot that is not in T has a charger
    by_cases ht : T j
    · exact ht
    · exfalso
      have hjl := hmlt hj
      have hjr : (j : Int) ∈ rs := by
        by_cases hn : ∃ c, o c = some (j : Int)
        · exact (r3 _).2 hn
        · exact absurd (t3 j (by simp) (by omega) (fun c e => hn ⟨c, e⟩)) ht
      obtain ⟨r, hr, e⟩ := List.mem_map.1 (hall _ hjr)
      rcases (hφ r hr).2 with ⟨a1, a2⟩ | ⟨a1, a2, _⟩
      · rw [e] at a2
        subst a2
        obtain ⟨j', c, e1, e2, e3⟩ := hasM_mem.1 hr
        have : j' = j := by omega
        subst this
        rw [hj] at e2; cases e2; omega
      · rw [e] at a2; exact ht a2
  · obtain ⟨r', e, hr'⟩ := t2 r hr c hc
    have ht' : T r' := by
      rcases hr' with h1 | h1
      · have := (h.dom c r' e).1; simp at h1; omega
      · exact h1
    obtain ⟨r2', hr2, e2⟩ := List.mem_map.1 (hall r' ((r3 _).2 ⟨c, e⟩))
    rcases (hφ r2' hr2).2 with ⟨a1, a2⟩ | ⟨a1, a2, c', a3, a4⟩
    · rw [e2] at a2; rw [a2] at ht'; exact absurd ht' a1
    · rw [e2] at a4
      have := h.inj _ _ _ a4 e
      subst this
      obtain ⟨j, c0, e3, _⟩ := hasM_mem.1 hr2
      refine ⟨j, by rw [← e3]; exact a1, ?_⟩
      rw [e3, Int.toNat_natCast] at a3; exact a3
end
end Go.Taq

/- The mathematics, part C: lists: searches, halving. -/
set_option linter.unusedVariables false
namespace Go.Taq
open Go

theorem S_slices_Index {xs : List Int} {v : Int} (hl : xs.length ≤ maxLen) {post : Int → Prop} (hp : post (fidx (fun x => v == x) xs)) : V_slices_Index_int_int xs v post := by
  unfold V_slices_Index_int_int
  have hm : (xs.length : Int) ≤ 9223372036854775807 := by simp [maxLen] at hl; omega
  refine Jn.mk (fun _ => post (-1)) (Loop.find xs (fun x => v == x) (fun i x hi hx hpx => ?_) (fun i x hi hx hpx hf => ?_) (fun hn hf => ?_)) (fun _ h => h)
  · refine Ite.t (by simp; omega) ⟨x, idx_of rfl hx, Ite.f hpx ?_⟩
    rw [w64_eq (by omega) (by omega)]; omega
  · refine Ite.t (by simp; omega) ⟨x, idx_of rfl hx, Ite.t hpx ?_⟩
    simpa [fidx, hf] using hp
  · refine Ite.f (by simp) ?_
    simpa [fidx, hf] using hp
theorem S_slices_Contains {xs : List Int} {v : Int} (hl : xs.length ≤ maxLen) {post : Bool → Prop} (hp : post (xs.contains v)) : V_slices_Contains_int_int xs v post := by
  unfold V_slices_Contains_int_int
  refine S_slices_Index hl ?_
  have : decide (fidx (fun x => v == x) xs ≥ 0) = xs.contains v := by rw [fidx_any, List.contains_eq_any_beq]
  rw [this]; exact hp

end Go.Taq

/- The mathematics, part DB: the search for a charger, and the greatest size, by the code (chapter 34). -/
set_option linter.unusedVariables false
set_option linter.unusedSimpArgs false
namespace Go.Taq
open Go

structure FewL (l : List (List Int)) : Prop where
  len : l.length ≤ 12
  row : ∀ r, r ∈ l → r.length ≤ 10
  num : ∀ r, r ∈ l → ∀ c, c ∈ r → 0 ≤ c ∧ c ≤ 63
theorem rowL_get {l : List (List Int)} {x : Int} (h0 : 0 ≤ x) (h1 : x < l.length) : l[x.toNat]? = some (rowL l x) ∧ idx l x = some (rowL l x) := by
  have h := List.getElem?_eq_getElem (show x.toNat < l.length by omega)
  have e : rowL l x = l[x.toNat]'(by omega) := by unfold rowL; rw [List.getD_eq_getElem?_getD, h]; rfl
  rw [e]
  exact ⟨h, idx_of (n := x.toNat) (by omega) h⟩
theorem FewL.bd {l : List (List Int)} (h : FewL l) {r c : Int} (hc : c ∈ rowL l r) : 0 ≤ c ∧ c ≤ 63 := by
  unfold rowL at hc
  rw [List.getD_eq_getElem?_getD] at hc
  cases he : l[r.toNat]? with
  | none => rw [he] at hc; simp at hc
  | some x => rw [he] at hc; exact h.num x (List.mem_of_getElem? he) c hc
theorem FewL.rlen {l : List (List Int)} (h : FewL l) (r : Int) : (rowL l r).length ≤ 10 := by
  unfold rowL
  rw [List.getD_eq_getElem?_getD]
  cases he : l[r.toNat]? with
  | none => simp
  | some x => exact h.row x (List.mem_of_getElem? he)
/-- how many chargers have not been seen -/
def mu (S : Int → Bool) : Nat := ((List.range 64).filter fun c : Nat => !S c).length
theorem mu_le {S S' : Int → Bool} (h : ∀ c, S c = true → S' c = true) : mu S' ≤ mu S := by
  unfold mu
  rw [← List.countP_eq_length_filter, ← List.countP_eq_length_filter]
  refine List.countP_mono_left fun c _ hc => ?_
  cases hs : S c with
  | false => rfl
  | true => rw [h _ hs] at hc; cases hc
theorem mu_lt {S S' : Int → Bool} (h : ∀ c, S c = true → S' c = true) {c : Int} (hc : 0 ≤ c ∧ c ≤ 63) (h1 : S c = false) (h2 : S' c = true) : mu S' < mu S := by
  unfold mu
  rw [← List.countP_eq_length_filter, ← List.countP_eq_length_filter]
  have key : ∀ xs : List Nat, c.toNat ∈ xs → xs.countP (fun c : Nat => !S' c) < xs.countP (fun c : Nat => !S c) := fun xs hx => by
    induction xs with
    | nil => cases hx
    | cons b xs ih =>
      have hm : xs.countP (fun c : Nat => !S' c) ≤ xs.countP (fun c : Nat => !S c) := List.countP_mono_left fun d _ hd => by
        cases hs : S d with
        | false => rfl
        | true => rw [h _ hs] at hd; cases hd
      rw [List.countP_cons, List.countP_cons]
      by_cases e : b = c.toNat
      · subst e
        have ec : ((c.toNat : Nat) : Int) = c := by omega
        rw [ec, h1, h2]; simp; omega
      · have := ih ((List.mem_cons.1 hx).resolve_left fun e' => e e'.symm)
        have hb : (if (!S' b) = true then 1 else 0) ≤ (if (!S b) = true then 1 else 0) := by
          cases hs : S b with
          | false => simp; split <;> omega
          | true => rw [h _ hs]; simp
        omega
  exact key _ (List.mem_range.2 (by omega))
theorem upd_len {κ α : Type} [DecidableEq κ] : ∀ (xs : List (κ × α)) (k : κ) (y : α), (upd xs k y).length = if (lk xs k).isSome = true then xs.length else xs.length + 1
  | [], k, y => by simp [upd, lk]
  | p :: r, k, y => by
    have ih := upd_len r k y
    by_cases h : p.1 = k
    · have e1 : lk (p :: r) k = some p.2 := by show (if p.1 = k then some p.2 else lk r k) = _; rw [if_pos h]
      have e2 : upd (p :: r) k y = (k, y) :: r := by show (if p.1 = k then _ else _) = _; rw [if_pos h]
      rw [e1, e2]; simp
    · have e1 : lk (p :: r) k = lk r k := by show (if p.1 = k then some p.2 else lk r k) = _; rw [if_neg h]
      have e2 : upd (p :: r) k y = p :: upd r k y := by show (if p.1 = k then _ else _) = _; rw [if_neg h]
      rw [e1, e2, List.length_cons, ih]
      split <;> simp
def sB (sn : List (Int × Bool)) (c : Int) : Bool := (lk sn c).getD false
theorem sB_upd {sn : List (Int × Bool)} {c d : Int} : sB (upd sn c true) d = true ↔ sB sn d = true ∨ d = c := by
  unfold sB
  rw [lk_upd]
  by_cases h : c = d
  · subst h; simp
  · rw [if_neg h]
    exact ⟨.inl, fun h2 => h2.elim id (fun e => absurd e.symm h)⟩
section
variable {l : List (List Int)}
theorem find_all (hl : FewL l) {X : (Int × DockMatching × List (Int × Bool) × Int) → ((Bool × DockMatching × List (Int × Bool) × Int) → Prop) → Prop}
    (hX : ∀ s p, B_dock_matching_give_1__p0_p3_p5_p6 X s.1 s.2.1 s.2.2.1 s.2.2.2 p → X s p) (k : Int) :
    ∀ (n : Nat) (x : Int) (ow : List (Int × Int)) (sn : List (Int × Bool)) (post : Bool × DockMatching × List (Int × Bool) × Int → Prop), mu (sB sn) < n → 0 ≤ x → x < l.length → (∀ c r, lk ow c = some r → 0 ≤ r ∧ r < l.length) →
      (∀ ow' sn' p, Aug l k (lk ow) x p → (∀ c, lk ow' c = apO p (lk ow) c) → ow'.length = ow.length + 1 → (∀ q, q ∈ p → sB sn q.1 = false) → post (true, ⟨l, ow'⟩, sn', k)) →
      (∀ sn', Stk l k (lk ow) x (fun c => sB sn c = true) (fun c => sB sn' c = true) → post (false, ⟨l, ow⟩, sn', k)) → X (x, ⟨l, ow⟩, sn, k) post
  | 0, _, _, _, _, h, _, _, _, _, _ => by omega
  | n + 1, x, ow, sn, post, hmu, h0, h1, hval, hS, hF => by
    refine hX _ _ ?_
    unfold B_dock_matching_give_1__p0_p3_p5_p6
    have hrl := hl.rlen x
    refine ⟨rowL l x, (rowL_get h0 h1).2, Jn.mk (fun t => ∃ sn', t = (l, ow, sn', k) ∧ Stk l k (lk ow) x (fun c => sB sn c = true) (fun c => sB sn' c = true)) (Loop.mk
      (fun t : List (List Int) × List (Int × Int) × List (Int × Bool) × Int × Int => ∃ (j : Nat) (sn' : List (Int × Bool)), t = (l, ow, sn', k, (j : Int)) ∧ j ≤ (rowL l x).length ∧ (∀ c, sB sn c = true → sB sn' c = true) ∧ (∀ c, c ∈ (rowL l x).take j → sB sn' c = true) ∧ ∀ c, sB sn' c = true → sB sn c = true ∨ ∃ r, lk ow c = some r ∧ (r < k ∨ ∀ c2, c2 ∈ rowL l r → sB sn' c2 = true))
      (fun t => (rowL l x).length - t.2.2.2.2.toNat) ⟨0, sn, rfl, by omega, fun _ h => h, fun c hc => by simp at hc, fun c hc => .inl hc⟩ ?_) (fun t ht => by obtain ⟨sn', e, hs⟩ := ht; subst e; exact hF sn' hs)⟩
    rintro t ⟨j, sj, e, hj, s1, s2, s3⟩
    subst e
    refine Ite.mk (fun hlt => ?_) (fun hnlt => ?_)
    case refine_2 =>
      have : ¬ ((j : Int) < (rowL l x).length) := of_decide_eq_false hnlt
      have ej : j = (rowL l x).length := by omega
      rw [ej, List.take_length] at s2
      exact ⟨sj, rfl, s1, s2, s3⟩
    have hlt' : j < (rowL l x).length := by have h : (j : Int) < (rowL l x).length := of_decide_eq_true hlt; omega
    have hc := List.getElem?_eq_getElem hlt'
    generalize (rowL l x)[j] = c at hc
    have hcm := List.mem_of_getElem? hc
    have hcb := hl.bd hcm
    have ew : w64 ((j : Int) + 1) = ((j + 1 : Nat) : Int) := by rw [w64_eq (by omega) (by omega)]; simp
    have next : ∀ s' : List (Int × Bool), (∀ c, sB sn c = true → sB s' c = true) → (∀ d, d ∈ (rowL l x).take j → sB s' d = true) → sB s' c = true → (∀ c, sB s' c = true → sB sn c = true ∨ ∃ r, lk ow c = some r ∧ (r < k ∨ ∀ c2, c2 ∈ rowL l r → sB s' c2 = true)) →
        ((∃ (j' : Nat) (sn' : List (Int × Bool)), (l, ow, s', k, w64 ((j : Int) + 1)) = (l, ow, sn', k, (j' : Int)) ∧ j' ≤ (rowL l x).length ∧ (∀ c, sB sn c = true → sB sn' c = true) ∧ (∀ c, c ∈ (rowL l x).take j' → sB sn' c = true) ∧ ∀ c, sB sn' c = true → sB sn c = true ∨ ∃ r, lk ow c = some r ∧ (r < k ∨ ∀ c2, c2 ∈ rowL l r → sB sn' c2 = true)) ∧ (rowL l x).length - (w64 ((j : Int) + 1)).toNat < (rowL l x).length - ((j : Int)).toNat) := fun s' g1 g2 g3 g4 => by
      refine ⟨⟨j + 1, s', by rw [ew], by omega, g1, fun d hd => ?_, g4⟩, by rw [ew]; omega⟩
      rw [take_succ hc] at hd
      rcases List.mem_append.1 hd with h | h
      · exact g2 d h
      · simp at h; subst h; exact g3
    refine Jn.mk' ⟨c, idx_of rfl hc, Ite.mk (fun hs => next sj s1 s2 hs s3) (fun hs => ?_)⟩
    have hs' : sB sj c = false := hs
    have u1 : ∀ d, sB sj d = true → sB (upd sj c true) d = true := fun d hd => sB_upd.2 (.inl hd)
    have u2 : sB (upd sj c true) c = true := sB_upd.2 (.inr rfl)
    have hnew : ∀ (s' : List (Int × Bool)), (∀ d, sB (upd sj c true) d = true → sB s' d = true) → (∀ d, sB s' d = true → sB (upd sj c true) d = true ∨ ∃ r, lk ow d = some r ∧ (r < k ∨ ∀ c2, c2 ∈ rowL l r → sB s' c2 = true)) → (∃ r, lk ow c = some r ∧ (r < k ∨ ∀ c2, c2 ∈ rowL l r → sB s' c2 = true)) →
        ∀ d, sB s' d = true → sB sn d = true ∨ ∃ r, lk ow d = some r ∧ (r < k ∨ ∀ c2, c2 ∈ rowL l r → sB s' c2 = true) := fun s' g1 g2 g3 d hd => by
      rcases g2 d hd with h | h
      · rcases sB_upd.1 h with h | h
        · rcases s3 d h with h | ⟨r, h4, h5⟩
          · exact .inl h
          · exact .inr ⟨r, h4, h5.imp id (fun h c2 hc2 => g1 _ (u1 _ (h c2 hc2)))⟩
        · subst h; exact .inr g3
      · exact .inr h
    refine Jn.mk' (Ite.mk (fun ho => ?_) (fun ho => ?_))
    · obtain ⟨r, hr⟩ := Option.isSome_iff_exists.1 ho
      have e0 : (lk ow c).getD 0 = r := by rw [hr]; rfl
      have hv := hval c r hr
      refine Ite.mk (fun hk => ?_) (fun hk => ?_)
      · have hk' : k ≤ r := by
          have h : (lk ow c).getD 0 ≥ k := of_decide_eq_true hk
          rw [e0] at h; exact h
        show X ((lk ow c).getD 0, ⟨l, ow⟩, upd sj c true, k) _
        rw [e0]
        have hm1 : mu (sB (upd sj c true)) < mu (sB sj) := mu_lt u1 hcb hs' u2
        have hm2 := mu_le (S := sB sn) (S' := sB sj) s1
        refine find_all hl hX k n r ow (upd sj c true) _ (by omega) hv.1 hv.2 hval (fun ow' sn' p g1 g2 g3 g4 => ?_) (fun sn' g => ?_)
        · have hpc : ∀ q, q ∈ p → q.1 ≠ c := fun q hq e => by
            have := g4 q hq
            rw [e, u2] at this; cases this
          refine Ite.t rfl (hS (upd ow' c x) sn' ((c, x) :: p) (.step hcm hr hk' g1 hpc) (fun d => ?_) ?_ (fun q hq => ?_))
          · rw [lk_upd, g2]
            show _ = if c = d then some x else apO p (lk ow) d
            rfl
          · have : (lk ow' c).isSome = true := by
              rw [g2]
              rcases apO_cases (o := lk ow) p c with ⟨q, h1, h2, _⟩ | ⟨_, h2⟩
              · exact absurd h2 (hpc q h1)
              · rw [h2, hr]; rfl
            rw [upd_len, if_pos this, g3]
          · rcases List.mem_cons.1 hq with e | hq
            · subst e
              cases hb : sB sn c with
              | false => rfl
              | true => rw [s1 _ hb] at hs'; cases hs'
            · cases hb : sB sn q.1 with
              | false => rfl
              | true => have := g4 q hq; rw [u1 _ (s1 _ hb)] at this; cases this
        · obtain ⟨f1, f2, f3⟩ := g
          exact Ite.f rfl (next sn' (fun d hd => f1 _ (u1 _ (s1 _ hd))) (fun d hd => f1 _ (u1 _ (s2 d hd))) (f1 _ u2) (hnew sn' f1 f3 ⟨r, hr, .inr f2⟩))
      · have hk' : r < k := by
          have h : ¬ (lk ow c).getD 0 ≥ k := of_decide_eq_false hk
          rw [e0] at h; omega
        exact Ite.f rfl (next (upd sj c true) (fun d hd => u1 _ (s1 _ hd)) (fun d hd => u1 _ (s2 d hd)) u2 (hnew _ (fun _ h => h) (fun d hd => .inl hd) ⟨r, hr, .inl hk'⟩))
    · have hn : lk ow c = none := Option.isNone_iff_eq_none.1 (by rw [← Option.not_isSome]; simpa using ho)
      refine Ite.t rfl (hS (upd ow c x) (upd sj c true) [(c, x)] (.free hcm hn) (fun d => by rw [lk_upd]; rfl) (by rw [upd_len, if_neg (by rw [hn]; simp)]) (fun q hq => ?_))
      simp at hq; subst hq
      cases hb : sB sn c with
      | false => rfl
      | true => rw [s1 _ hb] at hs'; cases hs'
theorem S_dock_give (hl : FewL l) {k x : Int} {ow : List (Int × Int)} {post : Bool × DockMatching → Prop} (h0 : 0 ≤ x) (h1 : x < l.length) (hval : ∀ c r, lk ow c = some r → 0 ≤ r ∧ r < l.length)
    (hS : ∀ ow' p, Aug l k (lk ow) x p → (∀ c, lk ow' c = apO p (lk ow) c) → ow'.length = ow.length + 1 → post (true, ⟨l, ow'⟩)) (hF : ∀ S', Stk l k (lk ow) x (fun _ => False) S' → post (false, ⟨l, ow⟩)) : V_dock_matching_give__p0 x k ⟨l, ow⟩ post := by
  unfold V_dock_matching_give__p0 V_dock_matching_give_1__p0_p3_p5_p6
  intro X hX
  refine find_all hl hX k _ x ow [] _ (Nat.lt_succ_self _) h0 h1 hval (fun ow' sn' p g1 g2 g3 _ => hS ow' p g1 g2 g3) (fun sn' g => hF (fun c => sB sn' c = true) ⟨fun _ h => h.elim, g.2.1, fun c hc => (g.2.2 c hc).imp (fun h => ?_) id⟩)
  simp [sB, lk] at h
/-! ## the greatest size -/
/-- the owners that were given -/
structure GivO (g : List Int) (i : Nat) (o : Int → Option Int) : Prop where
  dom : ∀ c r, o c = some r → 0 ≤ r ∧ r < i ∧ g[r.toNat]? = some c ∧ 0 ≤ c
  giv : ∀ (j : Nat) c, j < i → g[j]? = some c → 0 ≤ c → o c = some (j : Int)
theorem GivO.inj {g : List Int} {i : Nat} {o : Int → Option Int} (h : GivO g i o) {c c' r : Int} (e : o c = some r) (e' : o c' = some r) : c = c' := by
  have h1 := (h.dom c r e).2.2.1
  have h2 := (h.dom c' r e').2.2.1
  rw [h1] at h2; exact Option.some.inj h2
theorem GivO.start {g : List Int} {o : Int → Option Int} {n : Nat} (h : GivO g g.length o) (hc : ∃ rs : List Int, rs.Nodup ∧ rs.length = n ∧ ∀ r, r ∈ rs ↔ ∃ c, o c = some r) : KI l g g.length o n where
  dom := fun c r e => by
    obtain ⟨d1, d2, d3, d4⟩ := h.dom c r e
    exact ⟨d1, d2, fun _ => d3, fun hn => absurd d2 hn⟩
  giv := fun j c hj h0 => h.giv j c (List.getElem?_eq_some_iff.1 hj).1 hj h0
  inj := fun c c' r e e' => h.inj e e'
  shut := ⟨fun _ => False, fun r h => h.elim, fun r h => h.elim, fun r h1 h2 => by omega⟩
  cnt := hc
/-- what the search for the greatest size has found -/
structure Found (l : List (List Int)) (g : List Int) (v : Nat) : Prop where
  ex : ∃ o, KI l g l.length o v ∧ ∀ c, o c ≠ none → 0 ≤ c
theorem Found.most {g : List Int} {v : Nat} (h : Found l g v) (hg : Beg l g) : Most l g v := by
  obtain ⟨o, h1, h2⟩ := h.ex
  exact h1.most hg h2
theorem Found.tight {v : Nat} (h : Found l [] v) {m : List Int} (hm : Mat l m) (hs : szM m = v) : Tight l m := by
  obtain ⟨o, h1, h2⟩ := h.ex
  exact h1.tight hm hs
theorem S_dock_most (hl : FewL l) {g : List Int} (hg : Beg l g) {post : Int → Prop} (hp : ∀ v : Nat, Found l g v → v ≤ 24 → post v) : V_dock_most l g post := by
  have hln := hl.len
  have hgl := hg.len
  unfold V_dock_most
  refine Jn.mk (fun ow => GivO g g.length (lk ow) ∧ ∃ rs : List Int, rs.Nodup ∧ rs.length = ow.length ∧ ∀ r, r ∈ rs ↔ ∃ c, lk ow c = some r) (V_loopc (xs := g) (by unfold maxLen; omega) (fun t : List (Int × Int) × Int => t.2) (fun i t => GivO g i (lk t.1) ∧ ∃ rs : List Int, rs.Nodup ∧ rs.length = t.1.length ∧ ∀ r, r ∈ rs ↔ ∃ c, lk t.1 c = some r) rfl
    ⟨⟨fun c r e => by simp [lk] at e, fun j c hj => by omega⟩, [], .nil, rfl, fun r => by simp [lk]⟩ (fun i c t hc ht hI => ?_) (fun t hI => hI)) (fun ow how => ?_)
  · obtain ⟨⟨d, gv⟩, rs, r1, r2, r3⟩ := hI
    have hi := (List.getElem?_eq_some_iff.1 hc).1
    rw [ht]
    refine Jn.mk (fun ow => GivO g (i + 1) (lk ow) ∧ ∃ rs : List Int, rs.Nodup ∧ rs.length = ow.length ∧ ∀ r, r ∈ rs ↔ ∃ c, lk ow c = some r) (Ite.mk (fun h => ?_) (fun h => ?_)) (fun ow how => ⟨rfl, how⟩)
    · have h0 : 0 ≤ c := of_decide_eq_true h
      have hnc : lk t.1 c = none := by
        cases he : lk t.1 c with
        | none => rfl
        | some r =>
          obtain ⟨d1, d2, d3, _⟩ := d c r he
          rcases hg.ok i c hc with e | ⟨_, _, e⟩
          · omega
          · exact absurd d3 (e r.toNat (by omega))
      refine ⟨⟨fun c' r e => ?_, fun j c' hj hc' h0' => ?_⟩, (i : Int) :: rs, List.nodup_cons.2 ⟨fun hm => ?_, r1⟩, ?_, fun r => ?_⟩
      · rw [lk_upd] at e
        split at e
        · rename_i e2
          cases e; subst e2
          exact ⟨by omega, by omega, by rw [Int.toNat_natCast]; exact hc, h0⟩
        · obtain ⟨d1, d2, d3⟩ := d c' r e
          exact ⟨d1, by omega, d3⟩
      · rw [lk_upd]
        by_cases e : j = i
        · subst e; rw [hc] at hc'; cases hc'; rw [if_pos rfl]
        · have := gv j c' (by omega) hc' h0'
          rw [if_neg (fun e2 => by subst e2; rw [hnc] at this; cases this), this]
      · obtain ⟨c', hc'⟩ := (r3 _).1 hm
        have := (d c' _ hc').2.1; omega
      · rw [upd_len, if_neg (by rw [hnc]; simp), List.length_cons, r2]
      · rw [List.mem_cons, r3]
        constructor
        · rintro (e | ⟨c', hc'⟩)
          · exact ⟨c, by rw [lk_upd, if_pos rfl, e]⟩
          · exact ⟨c', by rw [lk_upd, if_neg (fun e2 => by subst e2; rw [hnc] at hc'; cases hc')]; exact hc'⟩
        · rintro ⟨c', hc'⟩
          rw [lk_upd] at hc'
          split at hc'
          · exact .inl (Option.some.inj hc').symm
          · exact .inr ⟨c', hc'⟩
    · have h0 : ¬ 0 ≤ c := of_decide_eq_false h
      refine ⟨⟨fun c' r e => ?_, fun j c' hj hc' h0' => ?_⟩, rs, r1, r2, r3⟩
      · obtain ⟨d1, d2, d3⟩ := d c' r e
        exact ⟨d1, by omega, d3⟩
      · by_cases e : j = i
        · subst e; rw [hc] at hc'; cases hc'; exact absurd h0' h0
        · exact gv j c' (by omega) hc' h0'
  · obtain ⟨hG, hC⟩ := how
    have hK : KI l g g.length (lk ow) ow.length := hG.start hC
    refine Jn.mk (fun t => ∃ ow', t = (l, ow') ∧ KI l g l.length (lk ow') ow'.length ∧ ∀ c, lk ow' c ≠ none → 0 ≤ c) (Loop.mk (fun t : List (List Int) × List (Int × Int) × Int => ∃ (i : Nat) (ow' : List (Int × Int)), t = (l, ow', (i : Int)) ∧ g.length ≤ i ∧ i ≤ l.length ∧ KI l g i (lk ow') ow'.length ∧ ∀ c, lk ow' c ≠ none → 0 ≤ c) (fun t => l.length - t.2.2.toNat) ⟨g.length, ow, rfl, Nat.le_refl _, hgl, hK, fun c hc => ?_⟩ ?_) (fun t ht => ?_)
    · cases he : lk ow c with
      | none => exact absurd he hc
      | some r => exact (hG.dom c r he).2.2.2
    · rintro t ⟨i, ow', e, h1, h2, hI, hn⟩
      subst e
      refine Ite.mk (fun hlt => ?_) (fun hnlt => ?_)
      · have hlt' : i < l.length := by have h : (i : Int) < l.length := of_decide_eq_true hlt; omega
        have ew : w64 ((i : Int) + 1) = ((i + 1 : Nat) : Int) := by rw [w64_eq (by omega) (by omega)]; simp
        refine S_dock_give hl (by show (0 : Int) ≤ (i : Int); omega) (by show (i : Int) < (l.length : Int); omega) (fun c r e => ?_) (fun ow2 p g1 g2 g3 => ?_) (fun S' g1 => ?_)
        · have := hI.dom c r e; omega
        · refine ⟨⟨i + 1, ow2, by rw [← ew], by omega, by omega, ?_, fun c hc => ?_⟩, by show l.length - (w64 ((i : Int) + 1)).toNat < l.length - ((i : Int)).toNat; rw [ew]; omega⟩
          · have := hI.grow h1 g1
            rw [g3]
            have e : lk ow2 = apO p (lk ow') := funext g2
            rw [e]; exact this
          · rw [g2] at hc
            rcases apO_cases (o := lk ow') p c with ⟨q, q1, q2, _⟩ | ⟨_, q2⟩
            · have := hl.bd (g1.row q q1); omega
            · rw [q2] at hc; exact hn c hc
        · refine ⟨⟨i + 1, ow', by rw [← ew], by omega, by omega, hI.stuck h1 g1, hn⟩, by show l.length - (w64 ((i : Int) + 1)).toNat < l.length - ((i : Int)).toNat; rw [ew]; omega⟩
      · have ei : i = l.length := by have h : ¬ (i : Int) < l.length := of_decide_eq_false hnlt; omega
        subst ei
        exact ⟨ow', rfl, hI, hn⟩
    · obtain ⟨ow', e, hI, hn⟩ := ht
      subst e
      refine hp ow'.length ⟨⟨_, hI, hn⟩⟩ ?_
      obtain ⟨rs, r1, r2, r3⟩ := hI.cnt
      have hsub := nodup_sub (a := rs) (b := (List.range l.length).map fun (j : Nat) => (j : Int)) r1 (fun r hr => by
        obtain ⟨c, hc⟩ := (r3 r).1 hr
        obtain ⟨d1, d2, _⟩ := hI.dom c r hc
        exact List.mem_map.2 ⟨r.toNat, List.mem_range.2 (by omega), by omega⟩)
      simp at hsub; omega
end
end Go.Taq

/- The mathematics, part DC: the reference's search, and its greatest size (chapter 34). -/
set_option linter.unusedVariables false
set_option linter.unusedSimpArgs false
namespace Go.Taq
open Go

section

def sA (sn : List Bool) (c : Int) : Bool := decide (0 ≤ c) && sn.getD c.toNat false
theorem sA_set {sn : List Bool} {c d : Int} (h0 : 0 ≤ c) (h1 : c < sn.length) : sA (sn.set c.toNat true) d = true ↔ sA sn d = true ∨ d = c := by
  unfold sA
  rw [List.getD_eq_getElem?_getD, List.getD_eq_getElem?_getD, List.getElem?_set]
  by_cases hd : d = c
  · subst hd
    rw [if_pos rfl, if_pos (by omega)]; simp; omega
  · by_cases hd0 : 0 ≤ d
    · rw [if_neg (by omega)]; simp [hd]
    · simp [hd0, hd]
end
end Go.Taq
