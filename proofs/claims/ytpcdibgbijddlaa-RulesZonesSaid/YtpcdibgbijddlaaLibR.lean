/- The library of the generated walks, part R: rows within rows, maps within rows: they are lent under a label of their own, and put back. -/
import Derived.Test.YtpcdibgbijddlaaLibQ
set_option linter.unusedVariables false
namespace Go.Taq
open Go
open Go.ChangeMaps (setBlock)

/-- a resource shrinks -/
theorem HOk.shrink {w0 w : World} {ok : Nat → Prop} {β : List Value} : ∀ {H : Heap} {F : Nat → Prop}, HOk w0 ok β w H F → ∀ {l : Nat} {R : Res}, find H l = some R →
    ∃ F1, (∀ b, F1 b → F b) ∧ ResOk w0 ok β w l F1 R ∧ ∀ (F1' : Nat → Prop) R', (∀ b, F1' b → F1 b) → ResOk w0 ok β w l F1' R' → HOk w0 ok β w (setH H l R') (fun b => F b ∧ (F1 b → F1' b))
  | [], _, _, _, _, h => by simp [find] at h
  | (k, S) :: H, F, ⟨F1, F2, h1, h2, h12, hR, hH⟩, l, R, hl => by
    rw [find_cons] at hl
    split at hl
    · rename_i e; subst e; cases hl
      refine ⟨F1, h1, hR, fun F1' R' hs hR' => ?_⟩
      rw [setH_cons, if_pos rfl]
      exact ⟨F1', F2, fun b hb => ⟨h1 b (hs b hb), fun _ => hb⟩, fun b hb => ⟨h2 b hb, fun hb' => (h12 b hb' hb).elim⟩, fun b hb hb' => h12 b (hs b hb) hb', hR', hH⟩
    · rename_i e
      obtain ⟨G, g1, g2, g3⟩ := hH.shrink hl
      refine ⟨G, fun b hb => h2 b (g1 b hb), g2, fun F1' R' hs hR' => ?_⟩
      rw [setH_cons, if_neg e]
      exact ⟨F1, _, fun b hb => ⟨h1 b hb, fun hb' => (h12 b hb (g1 b hb')).elim⟩, fun b hb => ⟨h2 b hb.1, hb.2⟩, fun b hb hb' => h12 b hb hb'.1, hR, g3 F1' R' hs hR'⟩

/-- without a resource -/
def rmH : Heap → Nat → Heap
  | [], _ => []
  | (k, S) :: H, l => bif k.beq l then H else (k, S) :: rmH H l
theorem rmH_cons (k : Nat) (S : Res) (H : Heap) (l : Nat) : rmH ((k, S) :: H) l = if k = l then H else (k, S) :: rmH H l := by
  rw [rmH]
  by_cases h : k = l
  · subst h; simp
  · have : k.beq l = false := by cases hb : k.beq l with
      | false => rfl
      | true => exact absurd (Nat.eq_of_beq_eq_true hb) h
    simp [this, h]
theorem HOk.rm {w0 w : World} {ok : Nat → Prop} {β : List Value} : ∀ {H : Heap} {F : Nat → Prop}, HOk w0 ok β w H F → ∀ {l : Nat} {R : Res}, find H l = some R →
    ∃ F2, (∀ b, F2 b → F b) ∧ ResOk w0 ok β w l F2 R ∧ HOk w0 ok β w (rmH H l) (fun b => F b ∧ ¬ F2 b)
  | [], _, _, _, _, h => by simp [find] at h
  | (k, S) :: H, F, ⟨F1, F2, h1, h2, h12, hR, hH⟩, l, R, hl => by
    rw [find_cons] at hl
    split at hl
    · rename_i e; subst e; cases hl
      refine ⟨F1, h1, hR, ?_⟩
      rw [rmH_cons, if_pos rfl]
      exact hH.mono (fun b hb => ⟨h2 b hb, fun hb' => h12 b hb' hb⟩)
    · rename_i e
      obtain ⟨G, g1, g2, g3⟩ := hH.rm hl
      refine ⟨G, fun b hb => h2 b (g1 b hb), g2, ?_⟩
      rw [rmH_cons, if_neg e]
      exact ⟨F1, _, fun b hb => ⟨h1 b hb, fun hb' => h12 b hb (g1 b hb')⟩, fun b hb => ⟨h2 b hb.1, hb.2⟩, fun b hb hb' => h12 b hb hb'.1, hR, g3⟩
theorem rmH_find {l m : Nat} (hne : m ≠ l) : ∀ (H : Heap), find (rmH H l) m = find H m
  | [] => rfl
  | (k, S) :: H => by
    rw [rmH_cons, find_cons]
    split
    · rename_i e; subst e; rw [if_neg (Ne.symm hne)]
    · rw [find_cons, rmH_find hne H]

theorem ResOk.one {w0 w : World} {ok : Nat → Prop} {β : List Value} {l : Nat} {F : Nat → Prop} {R : Res} (h : ResOk w0 ok β w l F R) (hR : R.ownd = true) : ∃ x, β[l]? = some x ∧ x.oneCell' = true := by
  cases R with
  | box cells => obtain ⟨b, c, T, hl, _⟩ := h; exact ⟨_, hl, rfl⟩
  | val A =>
    obtain ⟨x, hx, ho⟩ := h
    refine ⟨x, hx, ?_⟩
    cases ho with
    | ro F h => cases h <;> first | rfl | cases hR
    | _ => rfl
  | lent enc xs L => obtain ⟨b, off, cap, c, T, G, hl, _⟩ := h; exact ⟨_, hl, rfl⟩
  | lentm ke ve xs L => obtain ⟨b, es, clock, G, hl, _⟩ := h; exact ⟨_, hl, rfl⟩
  | rng ke ve xs seen li => obtain ⟨b, bi, es, clock, sa, G, hl, _⟩ := h; exact ⟨_, hl, rfl⟩

section
variable {P : Program} {B : Base} {tb : Tab} {Γ : Env} {H : Heap} {nl : Nat} {o : Oper} {X : Act → World → Prop}

/-- the same world, another heap -/
theorem St.ghost {H' : Heap} {nl' : Nat} (k : St B Γ H' nl' X) (h : ∀ (B' : Base) β F a w, β.length = nl → FitsB B' β F Γ H a w → ∃ β', β'.length = nl' ∧ (∀ (l : Nat) (x : Value), β[l]? = some x → β'[l]? = some x) ∧ HOk B'.w0 B'.ok β' w H' F) : St B Γ H nl X := fun a w ⟨B', β, F, hx, hβ, hf⟩ => by
  obtain ⟨β', h1, h2, h3⟩ := h B' β F a w hβ hf
  have dn : ∀ {A : AVal} {x : Value}, Dn B'.w0 B'.ok β A x → Dn B'.w0 B'.ok β' A x := fun {A x} h => by
    have := h.ml (f := id) (β' := β') (fun l v hv => h2 l v hv)
    have hid : ∀ A : AVal, A.ml id = A := fun A => by
      refine AVal.rec (motive_1 := fun A => A.ml id = A) (motive_2 := fun cs => AVal.mlL id cs = cs) ?_ ?_ ?_ ?_ ?_ ?_ ?_ ?_ ?_ ?_ ?_ ?_ ?_ ?_ ?_ ?_ A
      all_goals intros
      all_goals simp_all [AVal.ml, AVal.mlL]
    rwa [hid] at this
  exact k a w ⟨B', β', F, hx, h1, hf.kp, hf.ok, hf.own, h3, fun t A hA => dn (hf.env t A hA), hf.size, hf.defers, fun l x hl hx => h2 l x (hf.pre l x hl hx)⟩

/-- an owned row, laid open -/
theorem On.os_inv {w0 w : World} {ok : Nat → Prop} {α : Type} {n : Nat} {enc : α → List AVal} {xs : List α} {x : Value} {F : Nat → Prop} (h : On w0 ok w (.os n enc xs) x F) (hx : xs ≠ []) :
    ∃ (b off cap : Nat) (c : Array Value) (T : TypeId) (G : Nat → Nat → Nat → Prop), x = .slice (some ⟨b, off, none⟩) xs.length cap ∧ F b ∧ w.heap[b]? = some (.cells c T (0, 0)) ∧ xs.length ≤ cap ∧ off + cap * n ≤ c.size ∧ (∀ (i : Nat) (x : α), xs[i]? = some x → (enc x).length = n) ∧
      (∀ i j k, G i j k → F k ∧ k ≠ b) ∧ (∀ i j i' j' k, G i j k → G i' j' k → i = i' ∧ j = j') ∧ ∀ (i j : Nat) (x : α) (A : AVal), xs[i]? = some x → (enc x)[j]? = some A → On w0 ok w A (c.getD (off + i * n + j) undef) (G i j) := by
  generalize hA : AVal.os n enc xs = A at h
  cases h with
  | ro F h => subst hA; cases h
  | arr => cases hA
  | om => cases hA
  | osNil n2 enc2 F p => cases hA; exact absurd rfl hx
  | os n2 enc2 xs2 b off cap c T F G hb hw hlen hcap hn hG hd hr => cases hA; exact ⟨b, off, cap, c, T, G, rfl, hb, hw, hlen, hcap, hn, hG, hd, hr⟩
/-- an owned map, laid open -/
theorem On.om_inv {w0 w : World} {ok : Nat → Prop} {κ α : Type} {ke : κ → Value} {ve : α → AVal} {xs : List (κ × α)} {x : Value} {F : Nat → Prop} (h : On w0 ok w (.om ke ve xs) x F) :
    ∃ (b : Nat) (es : Array MapEntry) (clock : Nat) (G : Nat → Nat → Prop), x = .map (some b) ∧ F b ∧ w.heap[b]? = some (.map es clock) ∧ Ents ke xs es clock ∧ (∀ i k, G i k → F k ∧ k ≠ b) ∧ (∀ i i' k, G i k → G i' k → i = i') ∧
      ∀ (i : Nat) (x : κ × α) (e : MapEntry), xs[i]? = some x → es[i]? = some e → On w0 ok w (ve x.2) e.val (G i) := by
  generalize hA : AVal.om ke ve xs = A at h
  cases h with
  | ro F h => subst hA; cases h
  | arr => cases hA
  | os => cases hA
  | osNil => cases hA
  | om ke2 ve2 xs2 b es clock F G hb hw he hG hd hr => cases hA; exact ⟨b, es, clock, G, rfl, hb, hw, he, hG, hd, hr⟩

end
end Go.Taq
