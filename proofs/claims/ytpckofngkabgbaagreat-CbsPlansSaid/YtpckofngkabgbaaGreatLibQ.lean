/- The library of the generated walks, part Q: deleting from a map, ranging over a map. -/
import Derived.Test.YtpckofngkabgbaaGreatLibP
set_option linter.unusedVariables false
namespace Go.Taq
open Go
open Go.ChangeMaps (setBlock)
section
variable {κ α:Type} [DecidableEq κ]
omit [DecidableEq κ] in
theorem Ents.erase {ke:κ→Value} {xs:List (κ×α)} {es:Array MapEntry} {clock:Nat} (h:Ents ke xs es clock) (i:Nat):Ents ke (xs.eraseIdx i) (es.eraseIdxIfInBounds i) clock:=by
 have hl:(es.eraseIdxIfInBounds i).toList=es.toList.eraseIdx i:=by simp
 refine⟨?_,?_,fun e he=>?_,?_,fun j x e hj he=>?_⟩
 ·have:(es.eraseIdxIfInBounds i).toList.length=(xs.eraseIdx i).length:=by rw [hl,List.length_eraseIdx,List.length_eraseIdx];simp [h.size]
  rw [←this,Array.length_toList]
 ·rw [hl];exact h.born.sublist (List.eraseIdx_sublist _ _)
 ·rw [hl] at he;exact h.old e ((List.eraseIdx_sublist _ _).mem he)
 ·exact h.nodup.sublist ((List.eraseIdx_sublist _ _).map _)
 ·have he':(es.toList.eraseIdx i)[j]?=some e:=by rw [←hl,Array.getElem?_toList];exact he
  rw [List.getElem?_eraseIdx] at hj he'
  split at hj
  ·rename_i hji;rw [if_pos hji] at he';exact h.key j x e hj (by simpa using he')
  ·rename_i hji;rw [if_neg hji] at he';exact h.key (j+1) x e hj (by simpa using he')
end
section
variable {P:Program} {B:Base} {tb:Tab} {Γ:Env} {H:Heap} {nl:Nat} {o:Oper} {κ α:Type} [DecidableEq κ]
end
end Go.Taq
