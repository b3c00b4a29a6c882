/- The library of the generated walks, part M: append to nil, tests of slices against nil, an empty part of a slice, arrays in memory. -/
import Derived.Test.YthbeknnkokooiaaLibL
import Derived.WalkSpells
set_option linter.unusedVariables false
namespace Go.Taq
open Go

section
variable {P : Program} {B : Base} {tb : Tab} {Γ : Env} {H : Heap} {nl : Nat} {o : Oper}

/-! ## slices against nil -/
/-- a slice, owned or read only -/
inductive IsSl (H : Heap) : AVal → Prop → Prop where
  | sl {α : Type} {n : Nat} {enc : α → List AVal} {xs : List α} : IsSl H (.sl n enc xs) (xs = [])
  | o {α : Type} {l n : Nat} {enc : α → List AVal} {xs : List α} (h : find H l = some (.val (.os n enc xs))) : IsSl H (.o l) (xs = [])
theorem IsSl.value {A : AVal} {Z : Prop} (h : IsSl H A Z) {β : List Value} {F : Nat → Prop} {a : Act} {w : World} (hf : FitsB B β F Γ H a w) {x : Value} (hx : Dn B.w0 B.ok β A x) : ∃ p n c, x = .slice p n c ∧ (p = none → Z) := by
  cases h with
  | sl =>
    cases hx with
    | ro h => cases h with
      | slNil => exact ⟨_, _, _, rfl, fun _ => rfl⟩
      | sl => exact ⟨_, _, _, rfl, fun h => by cases h⟩
  | o h =>
    obtain ⟨F1, _, v, hv, hon⟩ := hf.heap.get h
    have := hx.o_inv
    rw [hv] at this; cases this
    cases hon with
    | ro F h => cases h
    | osNil => exact ⟨_, _, _, rfl, fun _ => rfl⟩
    | os => exact ⟨_, _, _, rfl, fun h => by cases h⟩

theorem Eff.of_read {ι : Type 1} {S : ι → Prop} {A : ι → AVal} {d : Nat} (hd : o.dst = some d) (hlt : d.blt B.n = true)
    (h : ∀ B' : Base, B'.n = B.n → ∀ β F a w, β.length = nl → FitsB B' β F Γ H a w → ∃ s v, S s ∧ (execOp a.eval o).run P w = .ok (.value v) w ∧ Dn B'.w0 B'.ok β (A s) v) :
    Eff P B Γ H nl o S (fun s => (d, A s) :: Γ) (fun _ => H) (fun _ => nl) (.fx [] false) := fun B' hB β F a w hβ hf next Q hn => by
  rw [← hB] at hlt
  obtain ⟨s, v, hs, hrun, hA⟩ := h B' hB β F a w hβ hf
  unfold Oper.wp
  rw [hrun]
  refine hn s hs _ _ β F B' (.refl _) hβ (fun _ _ h => h) ⟨fun l x b hl hx _ => ?_, .refl _ _, fun _ b hb => hb⟩ (hd ▸ hf.put hlt hA)
  rw [List.getElem?_eq_none (by omega)] at hx; cases hx

theorem Eff.isnil (htb : TabOk P tb) {op : BinOp} {t t' : TypeId} {x y : Operand} {X Y : AVal} {Z : Prop} {d e n' by_ : Nat} {zc : List Value} (q : Bool) (hq : op = if q then .eql else .neq) (ho : o.op = .binOp op t x y t') (hd : o.dst = some d) (hlt : d.blt B.n = true)
    (hx : ev Γ x = some X) (hy : ev Γ y = some Y) (hc : (IsSl H X Z ∧ Y = .v (.slice none 0 0)) ∨ (IsSl H Y Z ∧ X = .v (.slice none 0 0))) (ht : find tb t = some ⟨.sl e, n', by_, zc⟩) :
    Eff (ι := ULift Bool) P B Γ H nl o (fun b => b.down = true → Z) (fun b => (d, .v (.bool (b.down == q))) :: Γ) (fun _ => H) (fun _ => nl) (.fx [] false) := Eff.of_read hd hlt fun B' hB β F a w hβ hf => by
  obtain ⟨dst, op', ty, pos, af, g⟩ := o
  simp only at ho; subst ho
  obtain ⟨dd, hdd, rfl⟩ := htb.und ht
  have key : ∀ p : Option Addr, ∀ v : Value, v = .bool (p.isNone == q) → (p = none → Z) → (execOp a.eval ⟨dst, .binOp op t x y t', ty, pos, af, g⟩).run P w = .ok (.value v) w →
      ∃ (s : ULift Bool) (v : Value), (s.down = true → Z) ∧ (execOp a.eval ⟨dst, .binOp op t x y t', ty, pos, af, g⟩).run P w = .ok (.value v) w ∧ Dn B'.w0 B'.ok β (.v (.bool (s.down == q))) v := fun p v hv hz hr =>
    ⟨⟨p.isNone⟩, v, fun h => hz (by simpa using h), hr, by subst hv; exact .ro (.v _)⟩
  rcases hc with ⟨h1, rfl⟩ | ⟨h1, rfl⟩
  · obtain ⟨p, m, c, hv, hz⟩ := h1.value hf (ev_sound (a := a) hf.env hx)
    have hv2 := (ev_sound (a := a) hf.env hy).v_inv
    refine key p _ rfl hz ?_
    cases q with
    | true => simp at hq; subst hq; simp [execOp, hv, hv2, eqGuard, Lib.run_eql_slice_nil w t e p m c 0 0 hdd]
    | false => simp at hq; subst hq; simp [execOp, hv, hv2, eqGuard, Go.run_neq_slice_nil_any w t e p m c 0 0 hdd]
  · obtain ⟨p, m, c, hv, hz⟩ := h1.value hf (ev_sound (a := a) hf.env hy)
    have hv2 := (ev_sound (a := a) hf.env hx).v_inv
    refine key p _ rfl hz ?_
    cases q with
    | true => simp at hq; subst hq; simp [execOp, hv, hv2, eqGuard, Go.run_eql_nil_slice w t e p m c 0 0 hdd]
    | false => simp at hq; subst hq; simp [execOp, hv, hv2, eqGuard, Go.run_neq_nil_slice w t e p m c 0 0 hdd]
end
end Go.Taq
