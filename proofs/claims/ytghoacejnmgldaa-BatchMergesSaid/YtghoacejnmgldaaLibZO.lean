/- The library of the generated walks, part ZO: a slice literal of one nil row. -/
import Derived.Test.YtghoacejnmgldaaLibV
set_option linter.unusedVariables false
set_option linter.unusedSimpArgs false
namespace Go.Taq
open Go
open Go.ChangeMaps (setBlock)
section
variable {P : Program} {B : Base} {tb : Tab} {Γ : Env} {H : Heap} {nl : Nat} {o : Oper}
/-- nil under a label of its own -/
theorem FitsB.nil {α : Type} {β : List Value} {F : Nat → Prop} {a : Act} {w : World} (h : FitsB B β F Γ H a w) (n : Nat) (enc : α → List AVal) :
    FitsB B (β ++ [.slice none 0 0]) F Γ ((β.length, .val (.os n enc [])) :: H) a w :=
  ⟨h.kp, h.ok, h.own, ⟨fun _ => False, F, fun _ h => h.elim, fun b hb => hb, fun _ h => h.elim, ⟨_, by simp, .osNil n enc _ none⟩, h.heap.snoc _⟩, fun t A hA => (h.env t A hA).snoc _, h.size, h.defers, fun l x hl hx => getElem?_snoc (h.pre l x hl hx)⟩
theorem Eff1.bslN (htb : TabOk P tb) {α γ : Type} {t : TypeId} {p : Operand} {parts : Array (Nat × Operand)} {enc : α → List AVal} (y0 : α) (n2 : Nat) (enc2 : γ → List AVal) {d : Nat} {e n' by_ : Nat} {zc : List Value} {e' : TE}
    (ho : o.op = .buildSlice t 1 parts) (hps : parts = #[(0, p)]) (hd : o.dst = some d) (hlt : d.blt B.n = true) (ht : find tb t = some ⟨.sl e, n', by_, zc⟩) (he : find tb e = some e') (hn : e'.n = 1) (hp : ev Γ p = some (.v (.slice none 0 0))) (hen : (enc y0).length = 1) :
    Eff1 P B Γ H nl o ((d, .o (nl + 1)) :: Γ) ((nl + 1, .lent enc [y0] [(0, nl)]) :: (nl, .val (.os n2 enc2 [])) :: H) (nl + 2) (.fx [] false) := Eff1.of_value fun B hB β F a w hβ hf => by
  rw [← hB] at hlt
  obtain ⟨dst, op, ty, pos, af, g⟩ := o
  simp only at ho hd; subst ho; subst hd; subst hps; subst hβ
  obtain ⟨dd, hdd, rfl⟩ := htb.und ht
  obtain ⟨z, hz, hzc, _, hzl, _⟩ := htb.zero he
  have hzs : z.cells.size = 1 := by rw [← hn, ← hzl, ← hzc]; simp
  have hpv := (ev_sound (a := a) hf.env hp).v_inv
  have hcell : (a.eval p).cells = #[a.eval p] := Value.cells_one (by rw [hpv]; rfl)
  have hz1 : ∃ z0, z.cells = #[z0] := by
    have : z.cells.toList.length = 1 := by simpa using hzs
    match hzz : z.cells.toList, this with
    | [z0], _ => exact ⟨z0, by rw [← hzz]⟩
  obtain ⟨z0, hz0⟩ := hz1
  have hrun : (execOp a.eval ⟨some d, .buildSlice t 1 #[(0, p)], ty, pos, af, g⟩).run P w = .ok (.value (.slice (some ⟨w.heap.size, 0, none⟩) 1 1)) (w.alloc (.cells #[a.eval p] e)) := by
    have hr : Array.range 1 = #[0] := rfl
    simp [execOp, Instr.buildSlice, run_underlying hdd, htb.size he, hn, hz, hz0, Instr.fill, hcell, newRow, hr]
  have hf1 := hf.nil n2 enc2
  have hres := FitsB.alloc hf1 (.cells #[a.eval p] e) (.slice (some ⟨w.heap.size, 0, none⟩) 1 1) (.lent enc [y0] [(0, β.length)]) ⟨w.heap.size, 0, 1, #[a.eval p], e, fun _ _ => False, by simp, heap_alloc_new w _, rfl, by simp, by simp, by simp [hen], fun i l' hi => ?_, fun _ _ h => h.elim, fun _ _ _ h => h.elim, fun j x A hj hx hA => ?_⟩
  have hlen2 : (β ++ [Value.slice none 0 0]).length = β.length + 1 := by simp
  rw [hlen2] at hres
  refine ⟨_, _, β ++ [.slice none 0 0] ++ [.slice (some ⟨w.heap.size, 0, none⟩) 1 1], _, hrun, by simp, fun l x h => getElem?_snoc (getElem?_snoc h), fun l x b hl hx hb => ?_, hres.put hlt (.o _ _ (by simp) rfl), kp_alloc w (fun b => Mod β [] b) _⟩
  · rcases Nat.lt_or_ge l (β.length + 1) with h | h
    · have : l = β.length := by omega
      subst this
      simp at hx; subst hx; cases hb
    · have := new_lab hlen2 h hx; subst this; cases hb; exact .inl (Nat.le_refl _)
  · simp only [List.mem_singleton, Prod.mk.injEq] at hi
    obtain ⟨rfl, rfl⟩ := hi
    refine ⟨by simp, ?_⟩
    simp [hpv]
  · cases j with
    | zero => exact absurd (by simp) (hj β.length)
    | succ j => simp at hx
end
end Go.Taq
