/- The library of the generated walks, part K: parts of slices, elements of owned slices. -/
import Derived.Test.YtliikemkgfjpaaaLibJ
set_option linter.unusedVariables false
namespace Go.Taq
open Go

/-- a part of a list -/
def sub {α : Type} (xs : List α) (lo hi : Int) : List α := (xs.drop lo.toNat).take (hi.toNat - lo.toNat)

/-- a bound of a slice expression -/
inductive Bd (Γ : Env) : Option Operand → Int → Int → Prop where
  | none (d : Int) : Bd Γ Option.none d d
  | some {x : Operand} {k : IntKind} {i : Int} (d : Int) (h : ev Γ x = Option.some (.v (.int k i))) : Bd Γ (Option.some x) d i

section
variable {P : Program} {B : Base} {tb : Tab} {Γ : Env} {H : Heap} {nl : Nat} {o : Oper}

theorem run_bounds {w0 w : World} {ok : Nat → Prop} {β : List Value} {a : Act} (hΓ : EnvOk w0 ok β Γ a) {low high : Option Operand} {len cap : Nat} {lo hi : Int} (hlo : Bd Γ low 0 lo) (hhi : Bd Γ high len hi) (h : 0 ≤ lo ∧ lo ≤ hi ∧ hi ≤ len) (hc : len ≤ cap) :
    (Instr.sliceBounds true len cap (low.map a.eval) (high.map a.eval) none).run P w = .ok (lo.toNat, hi.toNat, cap) w := by
  have hH : ∀ hi', hi' = hi → (hi' : Int) ≤ (cap : Int) := fun _ e => by omega
  have h1 : hi ≤ (cap : Int) := by omega
  have h2 : 0 ≤ hi := by omega
  cases hhi with
  | none =>
    cases hlo with
    | none => simp [Instr.sliceBounds]
    | some d h' =>
      have e := (ev_sound (a := a) hΓ h').v_inv
      have : lo ≤ (len : Int) := h.2.1
      simp [Instr.sliceBounds, Instr.sliceBound, e, asIntOf, h.1, this]
  | some d hh =>
    have e2 := (ev_sound (a := a) hΓ hh).v_inv
    cases hlo with
    | none => simp [Instr.sliceBounds, Instr.sliceBound, e2, asIntOf, h1, h2]
    | some d h' =>
      have e := (ev_sound (a := a) hΓ h').v_inv
      have h3 : (hi.toNat : Int) = hi := Int.toNat_of_nonneg h2
      have : lo ≤ hi := h.2.1
      simp [Instr.sliceBounds, Instr.sliceBound, e, e2, asIntOf, h1, h2, h.1, h3, this]

theorem sub_get {α : Type} {xs : List α} {lo hi : Int} {i : Nat} {x : α} (h : (sub xs lo hi)[i]? = some x) : xs[lo.toNat + i]? = some x := by
  unfold sub at h
  rw [List.getElem?_take] at h
  split at h
  · rw [List.getElem?_drop] at h; exact h
  · cases h

/-- a part of a read-only slice -/
theorem Rd.so (htb : TabOk P tb) {α : Type} {t : TypeId} {x : Operand} {low high : Option Operand} {n : Nat} {enc : α → List AVal} {xs : List α} {e n' by_ : Nat} {zc : List Value} {e' : TE} {lo hi : Int}
    (ho : o.op = .slice t x low high none) (hx : ev Γ x = some (.sl n enc xs)) (ht : find tb t = some ⟨.sl e, n', by_, zc⟩) (he : find tb e = some e') (hn : e'.n = n) (hlo : Bd Γ low 0 lo) (hhi : Bd Γ high xs.length hi) (hb : 0 ≤ lo ∧ lo ≤ hi ∧ hi ≤ (xs.length : Int)) :
    Rd P B Γ H nl o (.sl n enc (sub xs lo hi)) none := fun B hB β F a w hβ hf => by
  obtain ⟨dst, op, ty, pos, af, g⟩ := o
  simp only at ho; subst ho; subst hn
  have hX := (ev_sound (a := a) hf.env hx).sl_inv
  obtain ⟨d, hd, rfl⟩ := htb.und ht
  have hlen : (sub xs lo hi).length = hi.toNat - lo.toNat := by unfold sub; simp; omega
  generalize hv : a.eval x = v at hX
  cases hX with
  | slNil n enc p =>
    have h0 : lo = 0 := by simp at hb; omega
    have h1 : hi = 0 := by simp at hb; omega
    subst h0; subst h1
    refine ⟨.slice p 0 0, .ro (.slNil _ _ p), fun w' _ => ?_⟩
    have hrun := run_bounds (P := P) (w := w') hf.env (len := 0) (cap := 0) hlo hhi hb (Nat.le_refl _)
    simp [execOp, Instr.sliceAt, Instr.slice, run_underlying hd, hv, hrun, htb.size he]
  | sl _ _ _ b off cap f hbk hcap hn' hc hr =>
    have hm : lo.toNat ≤ cap := by omega
    refine ⟨.slice (some (if cap = lo.toNat then ⟨b, off, none⟩ else ⟨b, off + lo.toNat * e'.n, none⟩)) (hi.toNat - lo.toNat) (cap - lo.toNat), ?_, fun w' _ => ?_⟩
    · by_cases hcl : cap = lo.toNat
      · have hz : sub xs lo hi = [] := List.eq_nil_of_length_eq_zero (by rw [hlen]; omega)
        rw [if_pos hcl, hz]
        have e1 : hi.toNat - lo.toNat = 0 := by omega
        have e2 : cap - lo.toNat = 0 := by omega
        rw [e1, e2]; exact .ro (.slNil _ _ _)
      · rw [if_neg hcl, ← hlen]
        refine .ro (.sl _ _ _ b _ _ (fun i j => f (lo.toNat + i) j) hbk (by omega) (fun i x hx => hn' _ x (sub_get hx)) (fun i j x A hx hA => ?_) (fun i j x A hx hA => hr _ j x A (sub_get hx) hA))
        have := hc _ j x A (sub_get hx) hA
        rw [← this]; congr 2; rw [Nat.add_mul]; omega
    · have hrun := run_bounds (P := P) (w := w') hf.env (len := xs.length) (cap := cap) hlo hhi hb hcap
      simp [execOp, Instr.sliceAt, Instr.slice, run_underlying hd, hv, hrun, htb.size he]
      split <;> simp [addr_add]

theorem idx_some {α : Type} {xs : List α} {j : Int} {y : α} (h : idx xs j = some y) : 0 ≤ j ∧ j < (xs.length : Int) ∧ xs[j.toNat]? = some y := by
  unfold idx at h
  split at h
  · rename_i h0
    have := (List.getElem?_eq_some_iff.1 h).1
    exact ⟨h0, by omega, h⟩
  · cases h

/-- the place of an element of an owned slice -/
theorem Rd.io (htb : TabOk P tb) {α : Type} {t : TypeId} {x i : Operand} {l n : Nat} {enc : α → List AVal} {xs : List α} {k : IntKind} {j : Int} {y : α} {e n' by_ : Nat} {zc : List Value} {e' : TE}
    (ho : o.op = .indexAddr t x i) (hx : ev Γ x = some (.o l)) (hl : find H l = some (.val (.os n enc xs))) (hi : ev Γ i = some (.v (.int k j))) (ht : find tb t = some ⟨.sl e, n', by_, zc⟩) (he : find tb e = some e') (hn : e'.n = n) (hy : idx xs j = some y) :
    Rd P B Γ H nl o (.ep l n j.toNat 0) none := fun B hB β F a w hβ hf => by
  obtain ⟨dst, op, ty, pos, af, g⟩ := o
  simp only at ho; subst ho; subst hn
  obtain ⟨h0, h1, h2⟩ := idx_some hy
  obtain ⟨F1, hF1, v, hv, hon⟩ := hf.heap.get hl
  have hX := (ev_sound (a := a) hf.env hx).o_inv
  rw [hv] at hX; cases hX
  have hI := (ev_sound (a := a) hf.env hi).v_inv
  obtain ⟨d, hd, rfl⟩ := htb.und ht
  generalize hav : a.eval x = v at hv hon
  cases hon with
  | ro F h => cases h
  | osNil => simp at h2
  | os n enc xs b off cap c T F G hb hw hlen hcap hn hG hd' hr =>
    refine ⟨_, .ep l e'.n j.toNat 0 b off xs.length cap hv, fun w' _ => ?_⟩
    simp [execOp, Instr.indexAt, hI, asIntOf, run_underlying hd, hav, h0, h1, htb.size he, addr_add]

/-- a load from an element of an owned slice -/
theorem Rd.le (htb : TabOk P tb) {α : Type} {T : TypeId} {x : Operand} {l n i off : Nat} {enc : α → List AVal} {xs : List α} {y : α} {A : AVal} {rl : List Nat} {e' : TE}
    (ho : o.op = .load T x) (hx : ev Γ x = some (.ep l n i off)) (hl : find H l = some (.val (.os n enc xs))) (hy : xs[i]? = some y) (hro : (enc y).all AVal.isRo = true) (he' : find tb T = some e') (hA : evalL tb [] T (.rp ((enc y).drop off)) = some (A, rl)) :
    Rd P B Γ H nl o A (some [l]) := fun B hB β F a w hβ hf => by
  obtain ⟨dst, op, ty, pos, af, g⟩ := o
  simp only at ho; subst ho
  obtain ⟨F1, hF1, v, hv, hon⟩ := hf.heap.get hl
  obtain ⟨b', o', len, cap', hb', hX⟩ := (ev_sound (a := a) hf.env hx).ep_inv
  rw [hv] at hb'; cases hb'
  cases hon with
  | ro F h => cases h
  | osNil => simp at hy
  | os n enc xs b off2 cap c T' F G hb hw hlen hcap hn hG hd' hr =>
    have hlen' := hn i y hy
    have hi := (List.getElem?_eq_some_iff.1 hy).1
    have hle : o' + i * n + n ≤ c.size := by
      have : (i + 1) * n ≤ cap' * n := Nat.mul_le_mul_right _ (by omega)
      rw [Nat.succ_mul] at this; omega
    have hmod : ∀ w' : World, (∀ b, Mod β [l] b → w'.heap[b]? = w.heap[b]?) → w'.heap[b']? = some (.cells c T' (0, 0)) := fun w' hw' => by
      rw [hw' b' ⟨l, by simp, _, hv, (by
        obtain ⟨k, rfl⟩ : ∃ k, cap' = k + 1 := ⟨cap' - 1, by omega⟩
        rfl)⟩]; exact hw
    have hroj : ∀ (j : Nat) (A : AVal), ((enc y).drop off)[j]? = some A → Ro B.w0 B.ok A (c.getD (o' + i * n + off + j) undef) := fun j A hA => by
      rw [List.getElem?_drop] at hA
      have := hr i _ y A hy hA
      have hiro := List.all_eq_true.1 hro A (List.mem_of_getElem? hA)
      rw [← Nat.add_assoc] at this
      exact this.ro_of hiro
    have hcell : ∀ w' : World, (∀ b, Mod β [l] b → w'.heap[b]? = w.heap[b]?) → ∀ (j : Nat) (A : AVal), ((enc y).drop off)[j]? = some A → w'.cell? ⟨b', o' + i * n + off + j, none⟩ = some (c.getD (o' + i * n + off + j) undef) := fun w' hw' j A hA => by
      have hj := (List.getElem?_eq_some_iff.1 hA).1
      simp only [List.length_drop] at hj
      exact cells_getD (hmod w' hw') (by omega)
    simp only [execOp, Instr.loadAt]
    unfold evalL at hA
    rw [he'] at hA
    simp only at hA
    split at hA
    · rename_i hagg
      split at hA
      · rename_i hle2
        simp only [Option.some.injEq, Prod.mk.injEq] at hA
        obtain ⟨rfl, rfl⟩ := hA
        refine ⟨_, Dn.agg_of (n := e'.n) (f := fun j => c.getD (o' + i * n + off + j) undef) (by simp at hle2 ⊢; omega) (fun j A hA => ?_), fun w' ⟨_, hw'⟩ => ?_⟩
        · have hj : j < e'.n := by
            rcases Nat.lt_or_ge j e'.n with h | h
            · exact h
            · simp [List.getElem?_take, Nat.not_lt.2 h] at hA
          rw [List.getElem?_take, if_pos hj] at hA
          exact .ro (hroj _ _ hA)
        · rw [hX]
          simp only [Sem.run_bind, Instr.sureAddr, Sem.run_pure, Result.andThen_ok]
          rw [run_loadVar_cells htb he' (fun j => c.getD (o' + i * n + off + j) undef) (fun j hj => hcell w' hw' j _ (List.getElem?_eq_getElem (by omega))) hagg]
          rfl
      · cases hA
    · rename_i hagg
      split at hA
      · rename_i A' hA'
        simp only [Option.some.injEq, Prod.mk.injEq] at hA
        obtain ⟨rfl, rfl⟩ := hA
        refine ⟨_, .ro (hroj _ _ hA'), fun w' ⟨_, hw'⟩ => ?_⟩
        have this : w'.cell? ⟨b', o' + i * n + off, none⟩ = some (c.getD (o' + i * n + off + 0) undef) := hcell w' hw' 0 _ hA'
        rw [hX]
        simp only [Sem.run_bind, Instr.sureAddr, Sem.run_pure, Result.andThen_ok]
        rw [run_loadVar_one htb he' this (by simpa using hagg)]
        rfl
      · cases hA

end
end Go.Taq
