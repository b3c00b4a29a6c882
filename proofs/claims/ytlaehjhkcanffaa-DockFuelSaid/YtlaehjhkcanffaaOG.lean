/- The mathematics, several parts in one text. -/
import Derived.Test.YtlaehjhkcanffaaOB
import Derived.Test.YtlaehjhkcanffaaMS
/- The mathematics, part OC: right states (taquinref14.Right, Few); the bounds of the statements about actions. -/
set_option linter.unusedVariables false
set_option linter.unusedSimpArgs false
namespace Go.Taq
open Go
def kx (f:ApiFloor) (c:Int):Int:=if isC f c=true then kd f c else -1
section
end
end Go.Taq
/- The mathematics, part NW: a step in the floor's reference. -/
set_option linter.unusedVariables false
namespace Go.Taq
open Go
end Go.Taq
/- The mathematics, part OD: which actions are legal, and what they do. -/
set_option linter.unusedVariables false
set_option linter.unusedSimpArgs false
namespace Go.Taq
open Go
section
end
end Go.Taq
/- The mathematics, part OE: what actions do, in both; equal states. -/
set_option linter.unusedVariables false
set_option linter.unusedSimpArgs false
namespace Go.Taq
open Go
section
theorem S_clone {α:Type} {xs:List α} (hl:xs.length≤1099511627776) {post:List α→Prop} (hp:post xs):∀hb5:Bool,(hb5=true→xs=[])→Ite (hb5 == true) (post []) ((([]:List α).length+xs.length≤1099511627776)∧post (([]:List α)++xs)):=by
 intro b hb
 refine Ite.mk (fun h=>?_) (fun h=>⟨by simp;omega,by rw [List.nil_append];exact hp⟩)
 rw [hb (by simpa using h)] at hp;exact hp
theorem Q0K {xs:List Int} (hl:xs.length≤1000) {post:List Int→Prop} (hp:post xs):QF xs post:=by
 unfold QF;exact S_clone (by omega) hp
end
end Go.Taq
/- The mathematics, part OF: actions keep what they need; examples; ActTells. -/
set_option linter.unusedVariables false
set_option linter.unusedSimpArgs false
namespace Go.Taq
open Go
section
end
/-! ## the example -/
theorem Zb {a:List Int} (hm:a.length≤maxLen) {post:Bool→Prop} (hp:post true):Qc a a post:=Za hm (fun _=>hp) rfl
end Go.Taq
/- The mathematics, part OG: ActAlone. -/
set_option linter.unusedVariables false
set_option linter.unusedSimpArgs false
namespace Go.Taq
open Go
section
end
end Go.Taq
