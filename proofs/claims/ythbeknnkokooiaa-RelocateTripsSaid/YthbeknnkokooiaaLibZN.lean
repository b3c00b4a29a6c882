/- A range over a map that is nil: an iterator that yields nothing. -/
import Derived.Test.YthbeknnkokooiaaLibZ
import Derived.Test.YthbeknnkokooiaaLibQ
set_option linter.unusedVariables false
set_option linter.unusedSimpArgs false
namespace Go.Taq
open Go
section
variable {P : Program} {B : Base} {tb : Tab} {Γ : Env} {H : Heap} {nl : Nat} {o : Oper}
/-- a call that comes back in several ways, each with fresh data of its own -/
theorem Eff.cS {f : FuncId} {g : Operand} {args : Array Operand} {ts : Array TypeId} {fs cs ar As : List AVal} {H1 : Heap} {nl1 : Nat} (ρ : List (Option Nat)) {v : Bool} {σ : Type} {post : σ → Prop} {R : σ → AVal} {H2 H3 : σ → Heap} {k2 nl' : σ → Nat} {d : Option Nat} {Γ' : σ → Env} {m : EM}
    (htr : Tr P f As H1 nl1 (fun A H' k => ∃ y, post y ∧ A = R y ∧ H' = H2 y ∧ k = k2 y)) (hen : Entered P f) (ho : o.op = .call ⟨.value g, args, ts⟩) (hg : ev Γ g = some (.fn (.func f) fs cs)) (has : evs Γ args.toList = some ar) (hcs : CsL H ρ nl v (fs ++ (ar ++ cs)) As) (hH : ChkH H ρ nl v H1)
    (hρ : ρ.length = nl1) (hρv : ρ.all (fun m => match m with | some m => m.blt nl | none => true) = true) (hk1 : ndup (kept ρ H1) = true) (hnd : ndup (H.map (·.1)) = true) (hd : o.dst = d) (hlt : dlt d B.n = true)
    (hv : v = true → ∀ y, NoSl (R y) ∧ NoSlH (H2 y)) (hm : m = .any ∨ (ρ = [] ∧ m = .fx [] (!v))) (hΓ : ∀ y, putG d ((R y).ml (clab ρ nl)) Γ = Γ' y) (hH3 : ∀ y, mlH (clab ρ nl) (H2 y) ++ dropL ρ H = H3 y) (hnl : ∀ y, nl + k2 y = nl' y) :
    Eff (ι := ULift σ) P B Γ H nl o (fun y => post y.down) (fun y => Γ' y.down) (fun y => H3 y.down) (fun y => nl' y.down) m := fun B' hB β F a w hβ hf next Q hn => by
  refine Eff.call (d := d) htr hen ho hg has hcs hH hρ hρv hk1 hnd hd hlt (fun hv' A H' k ⟨y, _, e1, e2, _⟩ => by subst e1; subst e2; exact hv hv' y) hm B' hB β F a w hβ hf next Q (fun s hs a' w' β' F' B'' h1 h2 h3 h4 h5 => ?_)
  obtain ⟨y, hy, e1, e2, e3⟩ := hs
  dsimp only at h2 h5
  rw [e1, hΓ y, e2, hH3 y] at h5
  rw [e3, hnl y] at h2
  exact hn ⟨y⟩ hy a' w' β' F' B'' h1 h2 h3 h4 h5
end
theorem sumL {α β : Type} {f : α → Prop} {g : β → Prop} {x : α} (h : Sum.elim f g (.inl x)) : f x := h
theorem sumR {α β : Type} {f : α → Prop} {g : β → Prop} {x : β} (h : Sum.elim f g (.inr x)) : g x := h
end Go.Taq
