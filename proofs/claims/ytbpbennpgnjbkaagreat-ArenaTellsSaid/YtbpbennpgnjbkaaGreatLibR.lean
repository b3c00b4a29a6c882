/- The library of the generated walks, part R: rows within rows, maps within rows: they are lent under a label of their own, and put back. -/
import Derived.Test.YtbpbennpgnjbkaaGreatLibQ
set_option linter.unusedVariables false
namespace Go.Taq
open Go
open Go.ChangeMaps (setBlock)
def rmH:Heap→Nat→Heap
 | [],_=>[]
 | (k,S) :: H,l=>bif k.beq l then H else (k,S) :: rmH H l
theorem Q63 (k:Nat) (S:Res) (H:Heap) (l:Nat):rmH ((k,S) :: H) l=if k=l then H else (k,S) :: rmH H l:=by
 rw [rmH]
 by_cases h:k=l
 ·subst h;simp
 ·have:k.beq l=false:=by cases hb:k.beq l with
   | false=>rfl
   | true=>exact absurd (Nat.eq_of_beq_eq_true hb) h
  simp [this,h]
theorem HOk.rm {w0 w:World} {ok:Nat→Prop} {β:List Value}:∀{H:Heap} {F:Nat→Prop},HOk w0 ok β w H F→∀{l:Nat} {R:Res},find H l=some R →
  ∃F2,(∀b,F2 b→F b)∧Gh w0 ok β w l F2 R∧HOk w0 ok β w (rmH H l) (fun b=>F b∧¬F2 b)
 | [],_,_,_,_,h=>by simp [find] at h
 | (k,S) :: H,F,⟨F1,F2,h1,h2,h12,hR,hH⟩,l,R,hl=>by
  rw [find_cons] at hl
  split at hl
  ·rename_i e;subst e;cases hl
   refine⟨F1,h1,hR,?_⟩
   rw [Q63,if_pos rfl]
   exact hH.mono (fun b hb=>⟨h2 b hb,fun hb'=>h12 b hb' hb⟩)
  ·rename_i e
   obtain⟨G,g1,g2,g3⟩:=hH.rm hl
   refine⟨G,fun b hb=>h2 b (g1 b hb),g2,?_⟩
   rw [Q63,if_neg e]
   exact⟨F1,_,fun b hb=>⟨h1 b hb,fun hb'=>h12 b hb (g1 b hb')⟩,fun b hb=>⟨h2 b hb.1,hb.2⟩,fun b hb hb'=>h12 b hb hb'.1,hR,g3⟩
theorem Gh.one {w0 w:World} {ok:Nat→Prop} {β:List Value} {l:Nat} {F:Nat→Prop} {R:Res} (h:Gh w0 ok β w l F R) (hR:R.ownd=true):∃x,β[l]?=some x∧x.oneCell'=true:=by
 cases R with
 | box cells=>obtain⟨b,c,T,hl,_⟩:=h;exact⟨_,hl,rfl⟩
 | val A=>
  obtain⟨x,hx,ho⟩:=h
  refine⟨x,hx,?_⟩
  cases ho with
  | ro F h=>cases h <;> first | rfl | cases hR
  | _=>rfl
 | lent enc xs L=>obtain⟨b,off,cap,c,T,G,hl,_⟩:=h;exact⟨_,hl,rfl⟩
 | lentm ke ve xs L=>obtain⟨b,es,clock,G,hl,_⟩:=h;exact⟨_,hl,rfl⟩
 | rng ke ve xs seen li=>obtain⟨b,bi,es,clock,sa,G,hl,_⟩:=h;exact⟨_,hl,rfl⟩
section
variable {P:Program} {B:Base} {tb:Tab} {Γ:Env} {H:Heap} {nl:Nat} {o:Oper} {X:Act→World→Prop}
theorem On.os_inv {w0 w:World} {ok:Nat→Prop} {α:Type} {n:Nat} {enc:α→List AVal} {xs:List α} {x:Value} {F:Nat→Prop} (h:On w0 ok w (.os n enc xs) x F) (hx:xs≠[]):
  ∃(b off cap:Nat) (c:Array Value) (T:TypeId) (G:Nat→Nat→Nat→Prop),x=.slice (some ⟨b,off,none⟩) xs.length cap∧F b∧w.heap[b]?=some (.cells c T (0,0))∧xs.length≤cap∧off+cap*n≤c.size∧(∀(i:Nat) (x:α),xs[i]?=some x→(enc x).length=n) ∧
   (∀i j k,G i j k→F k∧k≠b)∧(∀i j i' j' k,G i j k→G i' j' k→i=i'∧j=j')∧∀(i j:Nat) (x:α) (A:AVal),xs[i]?=some x→(enc x)[j]?=some A→On w0 ok w A (c.getD (off+i*n+j) undef) (G i j):=by
 generalize hA:AVal.os n enc xs=A at h
 cases h with
 | ro F h=>subst hA;cases h
 | arr=>cases hA
 | om=>cases hA
 | osNil n2 enc2 F p=>cases hA;exact absurd rfl hx
 | os n2 enc2 xs2 b off cap c T F G hb hw hlen hcap hn hG hd hr=>cases hA;exact⟨b,off,cap,c,T,G,rfl,hb,hw,hlen,hcap,hn,hG,hd,hr⟩
end
end Go.Taq
