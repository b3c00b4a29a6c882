/- Shorter forms of what the walks say over and over: what rfl finds is left out. -/
import Derived.Test.YtpcdibgbijddlaaLibX
import Derived.Test.YtpcdibgbijddlaaLibZ
set_option linter.unusedVariables false
namespace Go.Taq
open Go
theorem bX {H : Heap} {ρ : List (Option Nat)} {nl : Nat} {fz : Bool} {i l : Nat} {c c' : List AVal} (h1 : ρ[i]? = some (some l) := by exact rfl) (h : find H l = some (.box c) := by exact rfl) (hc : CsL H ρ nl fz c c' := by exact .eq rfl) : ∃ m, ρ[i]? = some m ∧ ChkS H ρ nl fz m (.box c') := ⟨_, h1, .box h hc⟩
theorem vL {H : Heap} {ρ : List (Option Nat)} {nl : Nat} {fz : Bool} {i l : Nat} {A : AVal} (h1 : ρ[i]? = some (some l) := by exact rfl) (h : find H l = some (.val A) := by exact rfl) : ∃ m, ρ[i]? = some m ∧ ChkS H ρ nl fz m (.val A) := ⟨_, h1, .val h⟩
theorem Wk.e {k : Nat} {Γ Γ' : Env} {H : Heap} {nl nl' : Nat} (h0 : fixed 0 k [] = true := by exact rfl) (h1 : ([] : List (Option Nat)).length = nl' := by exact rfl) (h2 : ChkG H [] nl true Γ Γ' := by exact .eqs rfl) : Wk k Γ H nl Γ' [] nl' := Wk.mk' [] h0 h1 h2 trivial rfl
theorem Wk.f {k : Nat} {Γ Γ' : Env} {H H' : Heap} {nl nl' : Nat} (ρ : List (Option Nat)) (h3 : ChkH H ρ nl true H') (h0 : fixed 0 k ρ = true := by exact rfl) (h1 : ρ.length = nl' := by exact rfl) (h2 : ChkG H ρ nl true Γ Γ' := by exact .eqs rfl) (h4 : ndup (kept ρ H') = true := by exact rfl) : Wk k Γ H nl Γ' H' nl' := Wk.mk' ρ h0 h1 h2 h3 h4
theorem C.f0 {P : Program} {tb : Tab} {Γ : Env} {H : Heap} {nl : Nat} (htb : TabOk P tb) {fn : Func} {n : Nat} {w0 : World} {ok F0 : Nat → Prop} {Ψ : AVal → Heap → Nat → Prop} {res : List ResultVar} {rs rs' : List AVal} {β0 : List Value} (hβ0 : β0.length = 0) (hΨ : Ψ (tupA rs') [] 0) (hr : fn.results.toList = res := by exact rfl) (he : evRs tb Γ H res = some rs := by exact rfl) (hx : CsL H [] nl true rs rs' := by exact .eq rfl) : St ⟨n, 0, β0, w0, ok, F0, []⟩ Γ H nl (bodyPostK P fn (RetM w0 ok F0 β0 Ψ) .ret) :=
  C.fin htb (H' := []) (nl' := 0) [] hr he hx trivial rfl rfl rfl rfl hβ0 hΨ
theorem Eff.k {P : Program} {B : Base} {Γ : Env} {H : Heap} {nl : Nat} {o : Oper} {f : FuncId} {g : Operand} {args : Array Operand} {ts : Array TypeId} {fs cs ar As : List AVal} {σ : Type} {post : σ → Prop} {R : σ → AVal} {H2 H3 : σ → Heap} {k2 nl' : Nat} {d : Option Nat} {Γ' : σ → Env} {m : EM}
    (htr : Tr P f As [] 0 (fun A H' k => ∃ y, post y ∧ A = R y ∧ H' = H2 y ∧ k = k2)) (hen : Entered P f) (ho : o.op = .call ⟨.value g, args, ts⟩) (hg : ev Γ g = some (.fn (.func f) fs cs)) (has : evs Γ args.toList = some ar) (hcs : CsL H [] nl true (fs ++ (ar ++ cs)) As)
    (hv : true = true → ∀ y, NoSl (R y) ∧ NoSlH (H2 y)) (hnd : ndup (H.map (·.1)) = true := by exact rfl) (hd : o.dst = d := by exact rfl) (hlt : dlt d B.n = true := by exact rfl) (hm : m = .any ∨ (([] : List (Option Nat)) = [] ∧ m = .fx [] (!true)) := by exact .inr ⟨rfl, rfl⟩) (hΓ : ∀ y, putG d ((R y).ml (clab [] nl)) Γ = Γ' y := by exact fun _ => rfl) (hH3 : ∀ y, mlH (clab [] nl) (H2 y) ++ dropL [] H = H3 y := by exact fun _ => rfl) (hnl : nl + k2 = nl' := by exact rfl) :
    Eff (ι := ULift σ) P B Γ H nl o (fun y => post y.down) (fun y => Γ' y.down) (fun y => H3 y.down) (fun _ => nl') m :=
  Eff.c [] (v := true) htr hen ho hg has hcs trivial rfl rfl rfl hnd hd hlt hv hm hΓ hH3 hnl
end Go.Taq
