/- The mathematics, several parts in one text. -/
import Derived.Test.YtlaehjhkcanffaaGreatNW
/- The mathematics, part OD: which actions are legal, and what they do. -/
set_option linter.unusedVariables false
set_option linter.unusedSimpArgs false
namespace Go.Taq
open Go
structure LS (s:ApiSite) (st:ApiState):Prop where
 fl:RF s.Floor
 rs:RS s
 sz:Sz st
 cell:∀c,c∈st.Shelves→isC s.Floor c=true
 rob:∀(i:Nat) r,st.Robots[i]?=some r→isC s.Floor r.Cell=true∧-1≤r.Load∧r.Load<st.Shelves.length
section
end
end Go.Taq
/- The mathematics, part OE: what actions do, in both; equal states. -/
set_option linter.unusedVariables false
set_option linter.unusedSimpArgs false
namespace Go.Taq
open Go
section
theorem S_clone {α:Type} {xs:List α} (hl:xs.length≤1099511627776) {post:List α→Prop} (hp:post xs):∀hb5:Bool,(hb5=true→xs=[])→Ite (hb5 == true) (post []) ((([]:List α).length+xs.length≤1099511627776)∧post (([]:List α)++xs)):=by
 intro b hb
 refine Ite.mk (fun h=>?_) (fun h=>⟨by simp;omega,by rw [List.nil_append];exact hp⟩)
 rw [hb (by simpa using h)] at hp;exact hp
theorem Q19 {xs:List Int} (hl:xs.length≤1000) {post:List Int→Prop} (hp:post xs):QC xs post:=by
 unfold QC;exact S_clone (by omega) hp
end
end Go.Taq
/- The mathematics, part OF: actions keep what they need; examples; ActTells. -/
set_option linter.unusedVariables false
set_option linter.unusedSimpArgs false
namespace Go.Taq
open Go
section
variable {s:ApiSite} {st:ApiState}
theorem RSt.cells (h:RSt s st):∀c,c∈st.Shelves→isC s.Floor c=true:=by
 intro c hc
 obtain⟨i,hi⟩:=List.getElem?_of_mem hc
 cases hb:carB st i with
 | true=>
  rw [Q3s (by omega)] at hb
  obtain⟨r,hr,hl⟩:=List.any_eq_true.1 hb
  obtain⟨j,hj⟩:=List.getElem?_of_mem hr
  have hR:=h.rob j r hj
  have hl':r.Load=(i:Int):=by simpa using hl
  have:=(hR.own (by omega)).2
  rw [hl'] at this
  have e:st.Shelves.getD i 0=c:=Q16 hi
  rw [←e];show isC s.Floor (st.Shelves.getD ((i:Int)).toNat 0)=true
  rw [this];exact hR.cell
 | false=>
  have:=h.shel i c hi hb
  unfold kx at this
  cases hic:isC s.Floor c with
  | true=>rfl
  | false=>rw [hic] at this;simp at this
end
/-! ## the example -/
theorem XS {a:List Int} (hm:a.length≤maxLen) {post:Bool→Prop} (hp:post true):Q7 a a post:=Q0y hm (fun _=>hp) rfl
end Go.Taq
/- The mathematics, part OG: ActAlone. -/
set_option linter.unusedVariables false
set_option linter.unusedSimpArgs false
namespace Go.Taq
open Go
section
end
end Go.Taq
/- The mathematics, part OH: ActLifts. -/
set_option linter.unusedVariables false
set_option linter.unusedSimpArgs false
namespace Go.Taq
open Go
section
end
end Go.Taq
/- The mathematics, part OI: ActRefuses. -/
set_option linter.unusedVariables false
set_option linter.unusedSimpArgs false
namespace Go.Taq
open Go
section
end
end Go.Taq
