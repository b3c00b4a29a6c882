/- The library of the generated walks, part ZO: a slice literal of one nil row. -/
import Derived.Test.YtghoacejnmgldaaLibV
set_option linter.unusedVariables false
set_option linter.unusedSimpArgs false
namespace Go.Taq
open Go
open Go.ChangeMaps (setBlock)
section
variable {P : Program} {B : Base} {tb : Tab} {Γ : Env} {H : Heap} {nl : Nat} {o : Oper}
/-- nil under a label of its own -/
theorem FitsB.nil {α : Type} {β : List Value} {F : Nat → Prop} {a : Act} {w : World} (h : FitsB B β F Γ H a w) (n : Nat) (enc : α → List AVal) :
    FitsB B (β ++ [.slice none 0 0]) F Γ ((β.length, .val (.os n enc [])) :: H) a w :=
  ⟨h.kp, h.ok, h.own, ⟨fun _ => False, F, fun _ h => h.elim, fun b hb => hb, fun _ h => h.elim, ⟨_, by simp, .osNil n enc _ none⟩, h.heap.snoc _⟩, fun t A hA => (h.env t A hA).snoc _, h.size, h.defers, fun l x hl hx => getElem?_snoc (h.pre l x hl hx)⟩
theorem Eff1.bslN (htb : TabOk P tb) {α γ : Type} {t : TypeId} {p : Operand} {parts : Array (Nat × Operand)} {enc : α → List AVal} (y0 : α) (n2 : Nat) (enc2 : γ → List AVal) {d : Nat} {e n' by_ : Nat} {zc : List Value} {e' : TE}
    (ho : o.op = .buildSlice t 1 parts) (hps : parts = #[(0, p)]) (hd : o.dst = some d) (hlt : d.blt B.n = true) (ht : find tb t = some ⟨.sl e, n', by_, zc⟩) (he : find tb e = some e') (hn : e'.n = 1) (hp : ev Γ p = some (.v (.slice none 0 0))) (hen : (enc y0).length = 1) :
    Eff1 P B Γ H nl o ((d, .o (nl + 1)) :: Γ) ((nl + 1, .lent enc [y0] [(0, nl)]) :: (nl, .val (.os n2 enc2 [])) :: H) (nl + 2) (.fx [] false) := Eff1.of_value fun B hB β F a w hβ hf => by
  rw [← hB] at hlt
  obtain ⟨dst, op, ty, pos, af, g⟩ := o
  simp only at ho hd; subst ho; subst hd; subst hps; subst hβ
  obtain ⟨dd, hdd, rfl⟩ := htb.und ht
  obtain ⟨z, hz, hzc, _, hzl, _⟩ := htb.zero he
  have hzs : z.cells.size = 1 := by rw [← hn, ← hzl, ← hzc]; simp
  have hpv := (ev_sound (a := a) hf.env hp).v_inv
  have hcell : (a.eval p).cells = #[a.eval p] := Value.cells_one (by rw [hpv]; rfl)
  have hz1 : ∃ z0, z.cells = #[z0] := by
    have : z.cells.toList.length = 1 := by simpa using hzs
    match hzz : z.cells.toList, this with
    | [z0], _ => exact ⟨z0, by rw [← hzz]⟩
  obtain ⟨z0, hz0⟩ := hz1
  have hrun : (execOp a.eval ⟨some d, .buildSlice t 1 #[(0, p)], ty, pos, af, g⟩).run P w = .ok (.value (.slice (some ⟨w.heap.size, 0, none⟩) 1 1)) (w.alloc (.cells #[a.eval p] e)) := by
    have hr : Array.range 1 = #[0] := rfl
    simp [execOp, Instr.buildSlice, run_underlying hdd, htb.size he, hn, hz, hz0, Instr.fill, hcell, newRow, hr]
  have hf1 := hf.nil n2 enc2
  have hres := FitsB.alloc hf1 (.cells #[a.eval p] e) (.slice (some ⟨w.heap.size, 0, none⟩) 1 1) (.lent enc [y0] [(0, β.length)]) ⟨w.heap.size, 0, 1, #[a.eval p], e, fun _ _ => False, by simp, heap_alloc_new w _, rfl, by simp, by simp, by simp [hen], fun i l' hi => ?_, fun _ _ h => h.elim, fun _ _ _ h => h.elim, fun j x A hj hx hA => ?_⟩
  have hlen2 : (β ++ [Value.slice none 0 0]).length = β.length + 1 := by simp
  rw [hlen2] at hres
  refine ⟨_, _, β ++ [.slice none 0 0] ++ [.slice (some ⟨w.heap.size, 0, none⟩) 1 1], _, hrun, by simp, fun l x h => getElem?_snoc (getElem?_snoc h), fun l x b hl hx hb => ?_, hres.put hlt (.o _ _ (by simp) rfl), kp_alloc w (fun b => Mod β [] b) _⟩
  · rcases Nat.lt_or_ge l (β.length + 1) with h | h
    · have : l = β.length := by omega
      subst this
      simp at hx; subst hx; cases hb
    · have := new_lab hlen2 h hx; subst this; cases hb; exact .inl (Nat.le_refl _)
  · simp only [List.mem_singleton, Prod.mk.injEq] at hi
    obtain ⟨rfl, rfl⟩ := hi
    refine ⟨by simp, ?_⟩
    simp [hpv]
  · cases j with
    | zero => exact absurd (by simp) (hj β.length)
    | succ j => simp at hx
/-- a row is stored where the second of two lent ones lay -/
theorem Eff1.sl2 (htb : TabOk P tb) {α : Type} {T : TypeId} {x y : Operand} {l l' l2 i i0 l0 : Nat} {enc : α → List AVal} {xs : List α} {e : TE} (ho : o.op = .store T x y) (hx : ev Γ x = some (.ep l 1 i 0)) (hl : find H l = some (.lent enc xs [(i0, l0), (i, l')])) (hne : i0 ≠ i)
    (hy : ev Γ y = some (.o l2)) (he : find tb T = some e) (hn : e.n = 1) (hd : o.dst = none) :
    Eff1 P B Γ H nl o Γ (setH H l (.lent enc xs [(i0, l0), (i, l2)])) nl (.fx [l] false) := Eff1.of_skip fun B hB β F a w hβ hf => by
  obtain ⟨dst, op, ty, pos, af, g⟩ := o
  simp only at ho hd; subst ho; subst hd
  have hYd := ev_sound (a := a) hf.env hy
  have h1 := hYd.one rfl
  obtain ⟨F1, hF1, ⟨b, off, cap, c, T', G, hv, hw, hb, hlen, hcap, hnn, hLL, hG, hdj, hr⟩, hset⟩ := hf.heap.set hl
  obtain ⟨b', o', len, cap', hb', hxv⟩ := (ev_sound (a := a) hf.env hx).ep_inv
  rw [hv] at hb'; cases hb'
  obtain ⟨hi, hci⟩ := hLL i l' (by simp)
  have hcell : (a.eval y).cells = #[a.eval y] := Value.cells_one h1
  have hst := run_storeCells_at (P := P) b (off + i) T' [a.eval y] 0 c w hw (by simp; omega) (by intro u hu; simp at hu; subst hu; exact h1)
  simp only [Nat.add_zero, List.length_singleton] at hst
  generalize hc2 : (c.toList.take (off + i) ++ [a.eval y] ++ c.toList.drop (off + i + 1)).toArray = c2 at hst
  have hc2s : c2.size = c.size := by rw [← hc2]; simp; omega
  have hget : ∀ j, c2.getD j undef = if j = off + i then a.eval y else c.getD j undef := fun j => by rw [← hc2]; exact splice_one c _ _ (by omega) j
  have hrow := setRow_heap w b c c2 T' (0, 0) hw
  have hhd : Mod β [l] b := ⟨l, by simp, _, hv, by
    obtain ⟨k, rfl⟩ : ∃ k, cap = k + 1 := ⟨cap - 1, by omega⟩
    rfl⟩
  refine ⟨w.setRow b c2, β, F, ?_, hβ, fun _ _ h => h, fun l x b hl hx _ => ?_, ?_, kp_setRow w b c2 _ hhd⟩
  · simp only [execOp, Instr.storeAt, hxv, Instr.sureAddr, Sem.run_bind, Sem.run_pure, Result.andThen_ok, storeVar, htb.size he]
    rw [Sem.run_ite, if_neg (by simp [hcell, hn]), hcell, Nat.mul_one, Nat.add_zero]
    rw [hst]; rfl
  · rw [List.getElem?_eq_none (by omega)] at hx; cases hx
  · have hk := kp_setRow w b c2 (fun x => x = b) rfl
    have hM : ∀ x, x = b → x < B.w0.heap.size → B.M x := fun x hx hlt' => by subst hx; exact (hf.own x (hF1 x hb)).2 hlt'
    refine ⟨hf.kp.trans hk hM, hf.ok, fun b hb => by have := hf.own b hb; exact ⟨by simpa using this.1, this.2⟩, hset _ _ (fun b'' hb'' hn' hlt => setRow_other w b b'' c2 (fun e => hn' (e ▸ hb)))
      ⟨b, off, cap, c2, T', G, hv, hrow, hb, hlen, by rw [hc2s]; exact hcap, hnn, fun j m hm => ?_, hG, hdj, fun j z C hj hz hC => ?_⟩, hf.env, by simpa [Act.put] using hf.size, hf.defers, hf.pre⟩
    · simp only [List.mem_cons, List.not_mem_nil, or_false, Prod.mk.injEq] at hm
      rcases hm with ⟨rfl, rfl⟩ | ⟨rfl, rfl⟩
      · have := hLL j m (by simp)
        exact ⟨this.1, by rw [hget, if_neg (by omega)]; exact this.2⟩
      · exact ⟨hi, by rw [hget, if_pos rfl]; exact hYd.o_inv⟩
    · have hji : j ≠ i := fun e => hj l2 (by simp [e])
      have := hr j z C (fun m hm => by
        simp only [List.mem_cons, List.not_mem_nil, or_false, Prod.mk.injEq] at hm
        rcases hm with ⟨rfl, rfl⟩ | ⟨rfl, rfl⟩
        · exact hj m (by simp)
        · exact hji rfl) hz hC
      rw [hget, if_neg (by omega)]
      exact this.later (fun k hk' hlt => setRow_other w b k c2 (hG j k hk').2)
end
end Go.Taq
