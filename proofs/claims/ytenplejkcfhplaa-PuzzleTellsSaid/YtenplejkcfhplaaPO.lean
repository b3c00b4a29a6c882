/- The law PuzzleTells, in plain data. -/
import Derived.Test.YtenplejkcfhplaaPN
set_option linter.unusedVariables false
namespace Go.Taq
open Go
theorem Said_taquinlaw26_PuzzleTells (f : ApiFloor) (k0 : OkApiFloor f) (r : List Int) (k1 : (OkL I64) r) (l : ApiLayout) (k2 : OkApiLayout l) (k : Int) (k3 : I64 k) (goal : Int) (k4 : I64 goal) : V_taquinlaw26_PuzzleTells f r l k goal (fun y => y = true) := by
  unfold V_taquinlaw26_PuzzleTells
  refine S_small (Jn.mk' (S_fair (Ite.f rfl (Ite.t rfl rfl)) (fun hf h14 ha hl => Ite.t rfl ?_)))
  have go : V_puzzle_Table f r k goal (fun x16 => V_taquinref26_Table f r k goal (fun x19 => V_puzzle_Least f r l goal (fun x22 => V_taquinref26_Least f r l goal (fun x25 => V_puzzle_Solve f r l goal (fun x28 => V_taquinref26_Solve f r l goal (fun x31 => Jn (fun (J33 : Bool → Prop) => Ite true (V_taquinref07_Same x16.1 x19.1 (fun x35 => Ite x35 (Ite (x16.2 == x19.2) (Ite (x22.1 == x25.1) (Ite (x22.2 == x25.2) (V_taquinref25_SameShifts x28.1 x31.1 (fun x40 => Ite x40 (J33 (x28.2 == x31.2)) (J33 false))) (J33 false)) (J33 false)) (J33 false)) (J33 false))) (J33 false)) (fun (x32 : Bool) => x32 = true))))))) := by
    refine S_Tables hf ha (fun v hv => S_Leasts hl rfl (by omega) hf ha (fun v2 => S_Solves hl rfl (by omega) hf ha (fun v3 hv3 => ?_)))
    exact Jn.mk (fun b => b = true) (Ite.t rfl (S_Same hv (Ite.t rfl (Ite.t (by simp) (Ite.t (by simp) (Ite.t (by simp) (S_SameShifts hv3 (Ite.t rfl (by simp))))))))) (fun b e => e)
  refine Ite.mk (fun h => ?_) (fun h => Ite.f rfl go)
  cases hb : decide ((r.length : Int) < 13) with
  | true => exact Ite.t rfl rfl
  | false => exact Ite.f rfl go
end Go.Taq
