/- The library of the generated walks, part Z: a region whose order is drawn, by the sets of what has come up. -/
import Derived.Test.YtlaehjhkcanffaaGreatLibW
set_option linter.unusedVariables false
namespace Go.Taq
open Go
section
variable {P:Program} {B:Base} {tb:Tab} {Γ Γ' Γ0:Env} {H H' H0:Heap} {nl nl' nl0:Nat} {ops:Array Oper} {Q:Exit→Act→World→Prop} {i z:Nat} {o:Oper} {ws:World} {M':Nat→Prop} {Lp Ms:List Nat} {g g0:Bool} {fuel f0:Nat} {listed listed' l0:Array Bool}
theorem D.have (g:Bool) (Γ:Env) (H:Heap) (nl fuel:Nat) (listed:Array Bool) (h:StD B ws M' Lp Ms g Γ H nl (Qj P ops Q (Kp ws M') z fuel listed))
  (k:StD B ws M' Lp Ms g Γ H nl (Qj P ops Q (Kp ws M') z fuel listed)→StD B ws M' Lp Ms g0 Γ0 H0 nl0 (Qj P ops Q (Kp ws M') z f0 l0)):StD B ws M' Lp Ms g0 Γ0 H0 nl0 (Qj P ops Q (Kp ws M') z f0 l0):=k h
def AllF (f:Nat→Prop):List Nat→Prop
 | []=>True
 | i :: r=>f i∧AllF f r
theorem AllF.get {f:Nat→Prop}:∀{l:List Nat},AllF f l→∀{i},i∈l→f i
 | j :: r,h,i,hi=>by
  rcases List.mem_cons.1 hi with e | e
  ·subst e;exact h.1
  ·exact AllF.get h.2 e
theorem D.all (i:Nat) (R:List Nat) (hr:Region.ready .any ops listed=i :: R) (h:AllF (fun j=>StD B ws M' Lp Ms g Γ H nl (Q58 P ops Q (Kp ws M') z fuel listed j)) (i :: R)):
  StD B ws M' Lp Ms g Γ H nl (Qj P ops Q (Kp ws M') z (fuel+1) listed):=fun a w hf=>
 ⟨fun h0=>absurd (h0▸hr) (by simp),fun m hm=>by rw [hr] at hm;exact h.get hm a w hf⟩
end
end Go.Taq
