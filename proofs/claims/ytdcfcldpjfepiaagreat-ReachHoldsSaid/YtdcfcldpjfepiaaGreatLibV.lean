/- The library of the generated walks, part V: append of an element of the frame's own to a row of such elements. -/
import Derived.Test.YtdcfcldpjfepiaaGreatLibU
set_option linter.unusedVariables false
namespace Go.Taq
open Go
section
variable {P:Program} {B:Base} {tb:Tab} {Γ:Env} {H:Heap} {nl:Nat} {o:Oper} {X:Act→World→Prop}
theorem Eff1.re {Γ':Env} {l nl':Nat} {A A':AVal} {H'':Heap} {m:EM} (h:Eff1 P B Γ H nl o Γ' ((l,.val A) :: H'') nl' m) (hA:∀(w0 w:World) (ok:Nat→Prop) (x:Value) (F:Nat→Prop),On w0 ok w A x F→On w0 ok w A' x F):
  Eff1 P B Γ H nl o Γ' ((l,.val A') :: H'') nl' m:=fun B' hB β F a w hβ hf next Q hn=>h B' hB β F a w hβ hf next Q fun s hs a' w' β' F' B'' e1 e2 e3 e4 hf'=>by
 obtain⟨F1,F2,h1,h2,h12,⟨v,hv,hon⟩,hH⟩:=hf'.heap
 exact hn s hs a' w' β' F' B'' e1 e2 e3 e4 ⟨hf'.kp,hf'.ok,hf'.own,⟨F1,F2,h1,h2,h12,⟨v,hv,hA _ _ _ _ _ hon⟩,hH⟩,hf'.env,hf'.size,hf'.defers,hf'.pre⟩
end
end Go.Taq
namespace Go.Taq
end Go.Taq
