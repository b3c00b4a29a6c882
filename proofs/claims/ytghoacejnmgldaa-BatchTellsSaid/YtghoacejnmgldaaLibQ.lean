/- The library of the generated walks, part Q: deleting from a map, ranging over a map. -/
import Derived.Test.YtghoacejnmgldaaLibP
set_option linter.unusedVariables false
namespace Go.Taq
open Go
open Go.ChangeMaps (setBlock)

section
variable {κ α : Type} [DecidableEq κ]
end

section
variable {P : Program} {B : Base} {tb : Tab} {Γ : Env} {H : Heap} {nl : Nat} {o : Oper} {κ α : Type} [DecidableEq κ]

/-- the entry of the round -/
theorem Rd.en {it : Operand} {l li : Nat} {ke : κ → Value} {ve : α → AVal} {xs : List (κ × α)} {seen : List κ} {k : κ} {rest : List κ} {v : α} (ho : o.op = .entry it) (hro : ∀ y, (ve y).isRo = true)
    (hm : ev Γ it = some (.o li)) (hl : find H l = some (.rng ke ve xs seen li)) (hs : seen = k :: rest) (hv : Taq.lk xs k = some v) : Rd P B Γ H nl o (.tup [unv (.v (ke k)), unv (ve v)]) (some [l, li]) := fun B hB β F a w hβ hf => by
  obtain ⟨dst, op, ty, pos, af, g⟩ := o
  simp only at ho; subst ho
  obtain ⟨F1, hF1, b, bi, es, clock, sa, G, hv0, hli, hne, hb, hbi, hw, hwi, he, hG, hdj, hr, hs1, hs2⟩ := hf.heap.get hl
  have hiv := (ev_sound (a := a) hf.env hm).o_inv
  rw [hli] at hiv
  have hit := (Option.some.inj hiv).symm
  have hk2 := lk_kidx xs k
  cases hkk : kidx (xs.map (·.1)) k with
  | none => rw [hkk] at hk2; rw [hk2.1] at hv; cases hv
  | some i =>
    rw [hkk] at hk2
    obtain ⟨v', h1, h2⟩ := hk2
    rw [hv] at h2; cases h2
    have hi : i < es.size := by rw [he.size]; exact (List.getElem?_eq_some_iff.1 h1).1
    have hei : es[i]? = some es[i] := Array.getElem?_eq_getElem hi
    obtain ⟨sa0, hsa⟩ := hs2 k rest hs i _ _ h1 hei rfl
    subst hsa
    have hkey := he.key i _ _ h1 hei
    refine ⟨.tuple #[es[i].key, es[i].val], .tup _ _ rfl (fun j C hC => ?_), fun w' ⟨_, hw'⟩ => ?_⟩
    · match j, hC with
      | 0, hC => simp at hC; subst hC; show Dn _ _ _ (unv (.v (ke k))) _; rw [← hkey]; exact (Dn.ro (.v _)).unv
      | 1, hC => simp at hC; subst hC; exact (Dn.ro ((hr i _ _ h1 hei).ro_of (hro v))).unv
      | j + 2, hC => simp at hC
    · have e1 : w'.heap[b]? = some (.map es clock) := by rw [hw' b ⟨l, by simp, _, hv0, rfl⟩]; exact hw
      have e2 : w'.heap[bi]? = some (.mapIter (some b) clock (sa0.push es[i].born) clock) := by rw [hw' bi ⟨li, by simp, _, hli, rfl⟩]; exact hwi
      have hnd : (es.toList.map (·.born)).Nodup := by
        rw [List.Nodup, List.pairwise_map]; exact he.born.imp (fun h => Nat.ne_of_lt h)
      have := run_entry_at (P := P) w' bi b clock sa0 es clock es[i] e2 e1 (by simp) hnd
      simp [execOp, hit, this]
end
end Go.Taq
