/- The mathematics, several parts in one text. -/
import Derived.Test.YtdcfcldpjfepiaaGreatOJ
/- The mathematics, part OK: what legal actions keep, one by one. -/
set_option linter.unusedVariables false
set_option linter.unusedSimpArgs false
namespace Go.Taq
open Go
section
end
end Go.Taq
/- The mathematics, part OM: right states in the program; ActKeeps. -/
set_option linter.unusedVariables false
set_option linter.unusedSimpArgs false
namespace Go.Taq
open Go
section
end
end Go.Taq
/- The mathematics, part AA: what moves, whether slots clash, whether acts may be begun (arena.Check and its reference). -/
set_option linter.unusedVariables false
set_option linter.unusedSimpArgs false
namespace Go.Taq
open Go
section
/-! ## clashes -/
theorem Q3c {m:List Int} (hs:m.Pairwise (·≤·)) (ha:∀(i:Nat) x y,m[i]?=some x→m[i+1]?=some y→x≠y):m.Nodup:=by
 have:m.Pairwise (· < ·):=by
  induction m with
  | nil=>exact .nil
  | cons x m ih=>
   have hs':=List.pairwise_cons.1 hs
   have ih':=ih hs'.2 (fun i a b h1 h2=>ha (i+1) a b (by simpa using h1) (by simpa using h2))
   refine List.pairwise_cons.2 ⟨fun y hy=>?_,ih'⟩
   cases m with
   | nil=>cases hy
   | cons z m=>
    have h0:=ha 0 x z rfl rfl
    have h1:=hs'.1 z (by simp)
    rcases List.mem_cons.1 hy with e | e
    ·subst e;omega
    ·have:=(List.pairwise_cons.1 ih').1 y e;omega
 exact this.imp (fun h=>by omega)
theorem Q1b {l:List Int} (hl:l.length≤10000) {post:Int×Bool→Prop} (hp:∀n b,(b=true↔¬l.Nodup)→post (n,b)):G6 l post:=by
 unfold G6 Ki Qx Qv Qj
 refine⟨by omega,?_⟩
 refine Each.inv l (fun i t=>t=l.take i) rfl (fun i x t hx ht Y hY=>?_) (fun t ht=>?_)
 ·have:=(List.getElem?_eq_some_iff.1 hx).1
  refine⟨by rw [ht];simp;omega,hY _ ?_⟩
  rw [ht,QU hx]
 rw [List.take_length] at ht;subst ht
 unfold QB
 refine⟨by omega,?_⟩
 have hperm:=List.mergeSort_perm t (fun x y=>decide (x≤y))
 have hsort:(t.mergeSort fun x y=>decide (x≤y)).Pairwise (·≤·):=by
  have:=List.pairwise_mergeSort (le:=fun x y:Int=>decide (x≤y)) (fun a b c h1 h2=>by simp at *;omega) (fun a b=>by simp;omega) t
  exact this.imp (fun h=>by simpa using h)
 have hlen:=hperm.length_eq
 have hnd:=hperm.nodup_iff
 generalize t.mergeSort (fun x y=>decide (x≤y))=m at *
 refine Jn.mk (fun _=>m.Nodup) ?_ (fun _ h=>hp 0 false (by simp [←hnd,h]))
 refine Loop.inv (m.length-1) (fun i q=>q=(i:Int)+1∧∀(j:Nat) x y,j<i→m[j]?=some x→m[j+1]?=some y→x≠y) ⟨rfl,fun j x y h=>by omega⟩ (fun i q hi hq=>?_) (fun q hq=>Ite.f (by rw [hq.1];simp;omega) (Q3c hsort (fun j x y h1 h2=>hq.2 j x y (by have:=(List.getElem?_eq_some_iff.1 h2).1;omega) h1 h2)))
 obtain⟨hq,hI⟩:=hq
 subst hq
 have h1:=List.getElem?_eq_getElem (show i+1<m.length by omega)
 have h2:=List.getElem?_eq_getElem (show i<m.length by omega)
 refine Ite.lt (by omega) ⟨_,QG (n:=i+1) (by omega) h1,_,QG (n:=i) (by rw [QH (by omega) (by omega)];omega) h2,Ite.mk (fun h3=>?_) (fun h3=>?_)⟩
 ·refine hp _ true ⟨fun _ hn=>?_,fun _=>rfl⟩
  have:=List.pairwise_iff_getElem.1 (hnd.2 hn) i (i+1) (by omega) (by omega) (by omega)
  exact this (by simpa using h3:m[i+1]=m[i]).symm
 ·refine⟨by rw [QH (by omega) (by omega)];simp,fun j x y hj hx hy=>?_⟩
  by_cases e:j=i
  ·subst e;rw [h2] at hx;rw [h1] at hy;cases hx;cases hy
   intro e;rw [e] at h3;simp at h3
  ·exact hI j x y (by omega) hx hy
/-! ## Check -/
open Classical in
end
end Go.Taq
/- The mathematics, part AB: faults: which can happen, and what they do (arena.Possible, Happen and their references). -/
set_option linter.unusedVariables false
set_option linter.unusedSimpArgs false
namespace Go.Taq
open Go
def k0 (f:ApiFloor) (c:Int):Int:=if isC f c=true then kd f c else 0
def Q3Q (st:ApiState) (i:Int):Bool:=decide (0≤i)&&decide (i<st.Robots.length)&&!(st.Robots.getD i.toNat default).Dead
section
/-! ## what happens -/
end
end Go.Taq
