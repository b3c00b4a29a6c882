/- The library of the generated walks, part ZW: what comes in weighs no more than the form's reach: bounds of lists that came in. -/
import Derived.Test.YtpcdibgbijddlaaLibY
import Derived.SizedLaws
set_option linter.unusedVariables false
namespace Go.Taq
open Go
section
variable {P : Program} {H : Type} {enc : TypeId × Value → H} {W : World} {held : Bool}

theorem weigh_mem {ts : List TypeId} {ds : List (DataW H)} (h : (DataW.weightsEach P ts ds).all (· ≤ reachBytes) = true) {j : Nat} {t : TypeId} {d : DataW H} (ht : ts[j]? = some t) (hd : ds[j]? = some d) : (d.weights P t).all (· ≤ reachBytes) = true :=
  List.all_eq_true.2 fun n hn => List.all_eq_true.1 h n (DataW.weights_mem_each ht hd n hn)

/-- a list within a struct that came in -/
theorem weigh_field {t : TypeId} {fs : Array Field} {cs : List AVal} {vs : Array Value} {ok : Nat → Prop} {d : DataW H} {ps : List MemPlace} (ht : DataW.Trod enc P W 0 (fun _ => true) held t (.agg vs) d ps) (hs : P.underlying t = some (.struct fs))
    (hw : (d.weights P t).all (· ≤ reachBytes) = true) (hdn : Dn W ok [] (.agg cs) (.agg vs)) {i : Nat} {f : Field} (hf : fs.toList[i]? = some f) {e : TypeId} (hu : P.underlying f.type = some (.slice e)) (hc : P.cellsOf f.type = 1)
    {n : Nat} {X : Type} {en : X → List AVal} {xs : List X} (hj : cs[f.offset]? = some (.sl n en xs)) : xs.length * P.bytesOf e ≤ reachBytes := by
  obtain ⟨fuel, ht⟩ := ht
  have ec : (Value.agg vs).cells = vs := rfl
  rw [ec] at ht
  obtain ⟨us, hus, hl, hd⟩ := hdn.agg_inv
  cases hus
  have hA := (hd _ _ hj).sl_inv
  have hlt : f.offset < vs.size := by rw [← hl]; exact (List.getElem?_eq_some_iff.1 hj).1
  cases fuel with
  | zero => simp [DataW.trod] at ht
  | succ fuel =>
    unfold DataW.trod at ht
    simp only [hs] at ht
    split at ht
    · simp only [Option.map_eq_some_iff, Prod.mk.injEq] at ht
      obtain ⟨ys, hys, rfl, _⟩ := ht
      obtain ⟨e1, e2⟩ := mapM_get hys
      obtain ⟨⟨d', ps'⟩, g1, g2⟩ := e2 i f hf
      have hw' : (d'.weights P f.type).all (· ≤ reachBytes) = true := by
        have h2 : (DataW.weightsEach P (fs.toList.map (·.type)) (ys.map (·.1))).all (· ≤ reachBytes) = true := by simpa [DataW.weights, hs] using hw
        exact weigh_mem h2 (j := i) (by rw [List.getElem?_map, hf]; rfl) (by rw [List.getElem?_map, g1]; rfl)
      have hcell : (vs.toList.drop f.offset).take (P.cellsOf f.type) = [vs.getD f.offset undef] := by
        rw [hc]
        apply List.ext_getElem?
        intro j
        cases j with
        | zero => simp [Array.getD_eq_getD_getElem?, hlt]
        | succ j => simp; omega
      rw [hcell] at g2
      generalize vs.getD f.offset undef = v at g2 hA
      cases fuel with
      | zero => simp [DataW.trod] at g2
      | succ fuel =>
        unfold DataW.trod at g2
        simp only [hu] at g2
        cases hA with
        | slNil => simp
        | sl b off cap ff hb hcap hn hcc hr =>
          simp only at g2
          split at g2
          · simp only [if_true, Option.bind_eq_some_iff, Option.map_eq_some_iff, Prod.mk.injEq] at g2
            obtain ⟨elems, he, rest, hrest, hd', _⟩ := g2
            subst hd'
            have hlen := (mapM_get he).1
            rw [DataW.weights] at hw'
            simp only [hu, List.all_cons, Bool.and_eq_true, decide_eq_true_eq, List.length_map] at hw'
            refine Nat.le_trans (Nat.mul_le_mul_right _ ?_) hw'.1
            simp only [List.length_range] at hlen
            omega
          · cases g2
    · cases ht
end
end Go.Taq
