/- The library of the generated walks, part ZA: parts of owned slices that are seen beside the whole; clear. -/
import Derived.Lib.Bytealg
import Derived.Test.YtdcfcldpjfepiaaLibZ
set_option linter.unusedVariables false
set_option linter.unusedSimpArgs false
namespace Go.Taq
open Go
section
variable {P : Program} {B : Base} {tb : Tab} {Γ : Env} {H : Heap} {nl : Nat} {o : Oper}

/-- a part of an owned slice, beside it -/
theorem Rd.vw (htb : TabOk P tb) {α : Type} {t : TypeId} {x : Operand} {low high : Option Operand} {l n : Nat} {enc : α → List AVal} {xs : List α} {e n' by_ : Nat} {zc : List Value} {e' : TE} {lo hi : Int}
    (ho : o.op = .slice t x low high none) (hx : ev Γ x = some (.o l)) (hl : find H l = some (.val (.os n enc xs))) (ht : find tb t = some ⟨.sl e, n', by_, zc⟩) (he : find tb e = some e') (hn : e'.n = n) (hlo : Bd Γ low 0 lo) (hhi : Bd Γ high xs.length hi) (hb : 0 ≤ lo ∧ lo ≤ hi ∧ hi ≤ (xs.length : Int)) :
    Rd P B Γ H nl o (.vw l n lo.toNat (hi - lo).toNat) none := fun B hB β F a w hβ hf => by
  obtain ⟨dst, op, ty, pos, af, g⟩ := o
  simp only at ho; subst ho; subst hn
  obtain ⟨F0, hF0, v, hv, hon⟩ := hf.heap.get hl
  have hX := (ev_sound (a := a) hf.env hx).o_inv
  rw [hv] at hX
  have hX := Option.some.inj hX
  obtain ⟨dd, hdd, rfl⟩ := htb.und ht
  generalize hn2 : AVal.os e'.n enc xs = A at hon
  cases hon with
  | ro F h => subst hn2; cases h
  | arr => cases hn2
  | om => cases hn2
  | osNil n2 enc2 F p =>
    cases hn2
    have h0 : lo = 0 := by simp at hb; omega
    have h1 : hi = 0 := by simp at hb; omega
    subst h0; subst h1
    refine ⟨.slice p 0 0, .vw _ _ _ _ _ (.inl ⟨rfl, p, 0, rfl⟩), fun w' _ => ?_⟩
    have hrun := run_bounds (P := P) (w := w') hf.env (len := 0) (cap := 0) hlo hhi hb (Nat.le_refl _)
    simp [execOp, Instr.sliceAt, Instr.slice, run_underlying hdd, ← hX, hrun, htb.size he]
  | os n2 enc2 xs2 b off cap c T F G hbF hw hlen2 hcap hn3 hG hd' hr =>
    cases hn2
    have hm : lo.toNat ≤ cap := by omega
    refine ⟨.slice (some (if cap = lo.toNat then ⟨b, off, none⟩ else ⟨b, off + lo.toNat * e'.n, none⟩)) (hi.toNat - lo.toNat) (cap - lo.toNat), .vw _ _ _ _ _ ?_, fun w' _ => ?_⟩
    · have e1 : hi.toNat - lo.toNat = (hi - lo).toNat := by omega
      rw [e1]
      rcases Nat.eq_zero_or_pos (hi - lo).toNat with h0 | h0
      · rw [h0]; exact .inl ⟨rfl, _, _, rfl⟩
      · rw [if_neg (by omega)]
        exact .inr ⟨h0, b, off, xs.length, cap, by rw [hv], by omega, rfl⟩
    · have hrun := run_bounds (P := P) (w := w') hf.env (len := xs.length) (cap := cap) hlo hhi hb hlen2
      simp [execOp, Instr.sliceAt, Instr.slice, run_underlying hdd, ← hX, hrun, htb.size he]
      split <;> simp [addr_add]

end
/-- the index of a byte -/
def idxByte (s : ByteArray) (c : Int) : Int := Lib.indexByte s.data.toList c.toNat.toUInt8
end Go.Taq
