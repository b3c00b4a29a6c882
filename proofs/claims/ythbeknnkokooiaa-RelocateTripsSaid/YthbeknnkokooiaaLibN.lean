/- The library of the generated walks, part N: arrays in memory, indexed by what is computed. -/
import Derived.Test.YthbeknnkokooiaaLibM
set_option linter.unusedVariables false
namespace Go.Taq
open Go

section
variable {P : Program} {B : Base} {tb : Tab} {Γ : Env} {H : Heap} {nl : Nat} {o : Oper}

/-- a box that holds an array of plain elements, seen as a list -/
theorem Eff1.bxa {α : Type} {T : TypeId} {x : Operand} {n : Nat} {enc : α → List AVal} {xs : List α} {cs : List AVal} {d : Nat} (ho : o.op = .box T x) (hx : ev Γ x = some (.agg cs)) (hcs : cs = (xs.map enc).flatten) (hen : ∀ y, (enc y).length = n) (hro : ∀ y, (enc y).all AVal.isRo = true) (hd : o.dst = some d) (hlt : d.blt B.n = true) :
    Eff1 P B Γ H nl o ((d, .p nl 0) :: Γ) ((nl, .val (.arr n enc xs)) :: H) (nl + 1) (.fx [] false) := Eff1.of_value fun B hB β F a w hβ hf => by
  rw [← hB] at hlt
  obtain ⟨dst, op, ty, pos, af, g⟩ := o
  simp only at ho hd; subst ho; subst hd; subst hβ
  obtain ⟨vs, hv, hvl, hvd⟩ := (ev_sound (a := a) hf.env hx).agg_inv
  obtain ⟨fl1, fl2⟩ := flat_rows (n := n) (enc := enc) xs (fun y _ => hen y)
  refine ⟨.pointer (some ⟨w.heap.size, 0, none⟩), w.alloc (.cells vs T), β ++ [.pointer (some ⟨w.heap.size, 0, none⟩)], _, ?_, by simp, fun l x h => getElem?_snoc h, fun l x b hl hx hb => ?_,
    (FitsB.alloc hf (.cells vs T) (.pointer (some ⟨w.heap.size, 0, none⟩)) (.val (.arr n enc xs)) ?_).put hlt ?_, ?_⟩
  · simp [execOp, Instr.box, newVar, newRow, hv, Value.cells]
  · have := new_lab rfl hl hx; subst this; cases hb; exact .inl (Nat.le_refl _)
  · refine ⟨_, by simp, .arr n enc xs w.heap.size vs T _ rfl (heap_alloc_new w _) (by rw [← hvl, hcs, fl1]) (fun i x _ => hen x) (fun i j x A hx hA => ?_)⟩
    have hj : j < n := by rw [← hen x]; exact (List.getElem?_eq_some_iff.1 hA).1
    have := hvd (i * n + j) A (by rw [hcs, fl2 i x hx j hj]; exact hA)
    exact this.ro_of (List.all_eq_true.1 (hro x) A (List.mem_of_getElem? hA))
  · exact .p _ _ _ (by simp)
  · exact kp_alloc w _ _

/-- the place of an element of an array -/
theorem Rd.pi (htb : TabOk P tb) {t : TypeId} {x i : Operand} {l off : Nat} {k : IntKind} {j : Int} {len e n' by_ m : Nat} {zc : List Value} {e' : TE}
    (ho : o.op = .indexAddr t x i) (hx : ev Γ x = some (.p l off)) (hi : ev Γ i = some (.v (.int k j))) (ht : find tb t = some ⟨.ar len e, n', by_, zc⟩) (he : find tb e = some e') (hm : e'.n = m) (hj : 0 ≤ j ∧ j < (len : Int)) :
    Rd P B Γ H nl o (.p l (off + j.toNat * m)) none := fun B hB β F a w hβ hf => by
  obtain ⟨dst, op, ty, pos, af, g⟩ := o
  simp only at ho; subst ho; subst hm
  obtain ⟨b, hb, hX⟩ := (ev_sound (a := a) hf.env hx).p_inv
  have hI := (ev_sound (a := a) hf.env hi).v_inv
  obtain ⟨d, hd, rfl⟩ := htb.und ht
  refine ⟨_, .p l _ b hb, fun w' _ => ?_⟩
  simp [execOp, Instr.indexAt, hI, asIntOf, run_underlying hd, hX, Instr.sureAddr, hj, htb.size he, addr_add]

/-- a load of an element of an array -/
theorem Rd.la (htb : TabOk P tb) {α : Type} {T : TypeId} {x : Operand} {l off : Nat} {enc : α → List AVal} {xs : List α} {y : α} {A : AVal} {e' : TE}
    (ho : o.op = .load T x) (hx : ev Γ x = some (.p l off)) (hl : find H l = some (.val (.arr 1 enc xs))) (hy : xs[off]? = some y) (hA : enc y = [A]) (he' : find tb T = some e') (hagg : e'.ti.agg = false) :
    Rd P B Γ H nl o A (some [l]) := fun B hB β F a w hβ hf => by
  obtain ⟨dst, op, ty, pos, af, g⟩ := o
  simp only at ho; subst ho
  obtain ⟨F1, hF1, v, hv, hon⟩ := hf.heap.get hl
  obtain ⟨b', hb', hX⟩ := (ev_sound (a := a) hf.env hx).p_inv
  rw [hv] at hb'; cases hb'
  generalize hn : AVal.arr 1 enc xs = Y at hon
  cases hon with
  | ro F h => subst hn; cases h
  | arr n2 enc2 xs2 b c T' F hb hw hc hnn hr =>
    cases hn
    have hlt := (List.getElem?_eq_some_iff.1 hy).1
    refine ⟨c.getD off undef, .ro (by simpa using hr off 0 y A hy (by rw [hA]; rfl)), fun w' ⟨_, hw'⟩ => ?_⟩
    have hbk : w'.heap[b']? = some (.cells c T' (0, 0)) := by rw [hw' b' ⟨l, by simp, _, hv, rfl⟩]; exact hw
    have this : w'.cell? ⟨b', off, none⟩ = some (c.getD off undef) := cells_getD hbk (by omega)
    simp only [execOp, Instr.loadAt, hX, Sem.run_bind, Instr.sureAddr, Sem.run_pure, Result.andThen_ok]
    rw [run_loadVar_one htb he' this hagg]
    rfl

/-- a store to an element of an array -/
theorem Eff1.sa (htb : TabOk P tb) {α : Type} {T : TypeId} {x y : Operand} {l off : Nat} {enc : α → List AVal} {xs : List α} {z z' : α} {A : AVal} {e : TE} (ho : o.op = .store T x y) (hx : ev Γ x = some (.p l off)) (hl : find H l = some (.val (.arr 1 enc xs)))
    (hz : xs[off]? = some z) (hy : ev Γ y = some A) (hc : A.cells = some [A]) (he : find tb T = some e) (hn : e.n = 1) (h1 : plain1 A = true) (hz' : enc z' = [A]) (hd : o.dst = none) :
    Eff1 P B Γ H nl o Γ (setH H l (.val (.arr 1 enc (xs.set off z')))) nl (.fx [l] false) := Eff1.of_skip fun B hB β F a w hβ hf => by
  obtain ⟨dst, op, ty, pos, af, g⟩ := o
  simp only at ho hd; subst ho; subst hd
  obtain ⟨b', hb', hxv⟩ := (ev_sound (a := a) hf.env hx).p_inv
  have hYd := ev_sound (a := a) hf.env hy
  have hY := hYd.cells hc
  obtain ⟨F1, hF1, ⟨v, hv, hon⟩, hset⟩ := hf.heap.set hl
  rw [hv] at hb'; cases hb'
  generalize hnn : AVal.arr 1 enc xs = Y at hon
  cases hon with
  | ro F h => subst hnn; cases h
  | arr n2 enc2 xs2 b c T' F hFb hw hc2 hn2 hr =>
    cases hnn
    have hlt := (List.getElem?_eq_some_iff.1 hz).1
    have hcell : (a.eval y).cells = #[a.eval y] := Value.cells_one (hYd.one (plain1_one h1))
    have hsz : (a.eval y).cells.size = e.n := by rw [hcell, hn]; rfl
    have hone' : ∀ u ∈ (a.eval y).cells.toList, u.oneCell' = true := by rw [hcell]; intro u hu; simp at hu; subst hu; exact hYd.one (plain1_one h1)
    have hle2 : off + (a.eval y).cells.toList.length ≤ c.size := by rw [hcell]; simp; omega
    have hst := run_storeCells_at (P := P) b' off T' (a.eval y).cells.toList 0 c w hw (by simpa using hle2) hone'
    simp only [Nat.add_zero] at hst
    generalize hc3 : (c.toList.take off ++ (a.eval y).cells.toList ++ c.toList.drop (off + (a.eval y).cells.toList.length)).toArray = c3 at hst
    have hc3s : c3.size = c.size := by rw [← hc3]; simp only [List.size_toArray, List.length_append, List.length_take, List.length_drop, Array.length_toList]; simp only [Array.length_toList] at hle2; omega
    have hrow := setRow_heap w b' c c3 T' (0, 0) hw
    have hhd : Mod β [l] b' := ⟨l, by simp, _, hv, rfl⟩
    refine ⟨w.setRow b' c3, β, F, ?_, hβ, fun _ _ h => h, fun l x b hl hx _ => ?_, ?_, kp_setRow w b' c3 _ hhd⟩
    · simp only [execOp, Instr.storeAt, hxv, Instr.sureAddr, Sem.run_bind, Sem.run_pure, Result.andThen_ok, storeVar, htb.size he]
      rw [Sem.run_ite, if_neg (by simp [hsz]), hst]; rfl
    · rw [List.getElem?_eq_none (by omega)] at hx; cases hx
    · have hk := kp_setRow w b' c3 (fun x => x = b') rfl
      have hM : ∀ x, x = b' → x < B.w0.heap.size → B.M x := fun x hx hlt' => by subst hx; exact (hf.own x (hF1 x hFb)).2 hlt'
      refine ⟨hf.kp.trans hk hM, hf.ok, fun b hb => by have := hf.own b hb; exact ⟨by simpa using this.1, this.2⟩, hset _ _ (fun b'' hb hn hlt => setRow_other w b' b'' c3 (fun e => hn (e ▸ hFb))) ⟨_, hv, ?_⟩, hf.env, by simpa [Act.put] using hf.size, hf.defers, hf.pre⟩
      refine .arr 1 enc _ b' c3 T' F1 hFb hrow (by rw [hc3s, hc2]; simp) (fun m u hu => ?_) (fun m j u C hu hC => ?_)
      · rw [List.getElem?_set] at hu
        by_cases e : off = m
        · rw [if_pos e] at hu
          try rw [if_pos hlt] at hu
          cases hu; rw [hz']; rfl
        · rw [if_neg e] at hu; exact hn2 m u hu
      · rw [← hc3, getD_splice _ _ _ hle2, hcell]
        rw [List.getElem?_set] at hu
        by_cases e : off = m
        · subst e
          rw [if_pos rfl] at hu
          try rw [if_pos hlt] at hu
          cases hu
          rw [hz'] at hC
          cases j with
          | zero =>
            simp at hC; subst hC
            simp
            exact hYd.ro_of (plain1_ro h1)
          | succ j => simp at hC
        · rw [if_neg e] at hu
          have hj := (List.getElem?_eq_some_iff.1 hC).1
          rw [hn2 m u hu] at hj
          rw [if_neg (by simp; omega)]
          exact hr m j u C hu hC
end
end Go.Taq
