/- The library of the generated walks, part T: lent elements of maps. -/
import Derived.Test.YthbeknnkokooiaaLibS
set_option linter.unusedVariables false
namespace Go.Taq
open Go
open Go.ChangeMaps (setBlock)

section
variable {P : Program} {B : Base} {tb : Tab} {Γ : Env} {H : Heap} {nl : Nat} {o : Oper} {X : Act → World → Prop} {κ α : Type} [DecidableEq κ]

omit [DecidableEq κ] in
theorem Ents.uniq {ke : κ → Value} {xs : List (κ × α)} {es : Array MapEntry} {clock : Nat} (h : Ents ke xs es clock) {i j : Nat} {k : κ} {y z : α} (hi : xs[i]? = some (k, y)) (hj : xs[j]? = some (k, z)) : i = j := by
  have h1 : (xs.map (·.1))[i]? = some k := by simp [hi]
  have h2 : (xs.map (·.1))[j]? = some k := by simp [hj]
  exact (List.getElem?_inj (List.getElem?_eq_some_iff.1 h1).1 h.nodup).1 (h1.trans h2.symm)

/-- m[k] = v, v of the frame's own, where something was lent -/
theorem Eff1.mul (htb : TabOk P tb) {t kt et n' by_ : Nat} {zc : List Value} {m k v : Operand} {l l' l2 : Nat} {ke : κ → Value} {ve : α → AVal} {xs : List (κ × α)} {L : List (κ × Nat)} {x : κ} {V : AVal} (ho : o.op = .mapUpdate t m k v) (ht : find tb t = some ⟨.mp kt et, n', by_, zc⟩) (K : KeyT P kt ke)
    (hm : ev Γ m = some (.o l)) (hl : find H l = some (.lentm ke ve xs ((x, l') :: L))) (hL : ∀ p, p ∈ L → p.1 ≠ x) (hk : ev Γ k = some V) (hX : unv V = unv (.v (ke x))) (hv : ev Γ v = some (.o l2)) (hd : o.dst = none) :
    Eff1 P B Γ H nl o Γ (setH H l (.lentm ke ve xs ((x, l2) :: L))) nl (.fx [l] false) := Eff1.of_skip fun B hB β F a w hβ hf => by
  obtain ⟨dst, op, ty, pos, af, g⟩ := o
  simp only at ho hd; subst ho; subst hd
  obtain ⟨d, hdd, rfl⟩ := htb.und ht
  have hkv : a.eval k = ke x := Dn.unv_inv hX (ev_sound (a := a) hf.env hk)
  have hvo := (ev_sound (a := a) hf.env hv).o_inv
  obtain ⟨F1, hF1, ⟨b, es, clock, G, hv0, hw, hb, he, hLL, hG, hdj, hr⟩, hset⟩ := hf.heap.set hl
  have hmv := (ev_sound (a := a) hf.env hm).o_inv
  rw [hv0] at hmv
  have hmm := (Option.some.inj hmv).symm
  have hg := Go.MapKept.run_getObj_map (P := P) hw
  have hhd : Mod β [l] b := ⟨l, by simp, _, hv0, rfl⟩
  obtain ⟨i, y, e, h1, h2, h3⟩ := hLL x l' (by simp)
  rcases he.find K x with ⟨g1, g2, g3, g4⟩ | ⟨i', v1, e1, g1, g2, g3, g4, g5⟩
  · exact absurd rfl (g3 _ (List.mem_of_getElem? h1))
  · have := he.uniq g3 h1
    subst this
    rw [h1] at g3; cases g3
    rw [h2] at g4; cases g4
    have hkey : e.key = ke x := he.key _ _ e h1 h2
    have hlt := (List.getElem?_eq_some_iff.1 h1).1
    have hE := he.set h1 h2 y (a.eval v)
    have hset' : xs.set i' (x, y) = xs := by
      apply List.ext_getElem?
      intro j
      rw [List.getElem?_set]
      by_cases e : i' = j
      · subst e
        rw [List.getElem?_eq_getElem hlt] at h1
        have := Option.some.inj h1
        simp [hlt, this]
      · simp [e]
    rw [hset'] at hE
    have hkp := kp_setBlock w b (.map (es.modify i' fun e => { e with key := ke x, val := a.eval v }) clock) (fun x => x = b) rfl
    have hM : ∀ x, x = b → x < B.w0.heap.size → B.M x := fun x hx hlt' => by subst hx; exact (hf.own x (hF1 x hb)).2 hlt'
    refine ⟨setBlock w b (.map (es.modify i' fun e => { e with key := ke x, val := a.eval v }) clock), β, F, ?_, hβ, fun _ _ h => h, fun l x b hl hx _ => ?_, ⟨hf.kp.trans hkp hM, hf.ok, fun b' hb' => by have := hf.own b' hb'; exact ⟨Nat.lt_of_lt_of_le this.1 hkp.size, this.2⟩, hset _ _ (fun b' hb' hn hlt => heap_other hw _ (fun e => hn (e ▸ hb)))
      ⟨b, _, clock, G, hv0, heap_same hw _, hb, hE, fun k' m' hm' => ?_, hG, hdj, fun j p e' hj hx he' => ?_⟩, hf.env, by simpa [Act.put] using hf.size, hf.defers, hf.pre⟩, kp_setBlock w b _ _ hhd⟩
    · simp [execOp, hmm, hkv, Instr.mapUpdate, run_underlying hdd, hg, K.chk, g5, h2, hkey, Instr.keyThatStays, K.same, Go.MapKept.run_setObj_map _ hw, setBlock]
    · rw [List.getElem?_eq_none (by omega)] at hx; cases hx
    · rcases List.mem_cons.1 hm' with e' | e'
      · cases e'
        exact ⟨i', y, _, h1, by rw [Array.getElem?_modify, if_pos rfl, h2]; rfl, hvo⟩
      · obtain ⟨j, z, e2, q1, q2, q3⟩ := hLL k' m' (by simp [e'])
        have hne := hL _ e'
        simp only at hne
        have hji : i' ≠ j := fun h => by subst h; rw [h1] at q1; cases q1; exact hne rfl
        exact ⟨j, z, e2, q1, by rw [Array.getElem?_modify, if_neg hji]; exact q2, q3⟩
    · have hji : i' ≠ j := fun h => by
        subst h
        rw [h1] at hx; cases hx
        exact hj l2 (by simp)
      rw [Array.getElem?_modify, if_neg hji] at he'
      refine (hr j p e' (fun m' hm' => ?_) hx he').later (fun c hc hlt' => heap_other hw _ (hG j c hc).2)
      rcases List.mem_cons.1 hm' with e2 | e2
      · have e3 := congrArg Prod.fst e2
        simp only at e3
        obtain ⟨p1, p2⟩ := p
        simp only at e3
        subst e3
        exact hji (he.uniq h1 hx)
      · exact hj m' (by simp [e2])

end
end Go.Taq
