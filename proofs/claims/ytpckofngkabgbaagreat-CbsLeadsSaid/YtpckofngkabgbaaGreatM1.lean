/- Part 1 of what the walks and the law rest on: a library over any program, and the mathematics of the law. No condition. -/
import Derived.OrdersHeld
import Derived.Laws.Cells
import Derived.Laws.World
import Derived.Laws.CopyRow
import Derived.Shelf.Abstract
import Derived.Below
import Derived.RangeFuncLeaves
import Derived.RangeFuncRecord
import Derived.Scope
import Derived.IntWalk
import Derived.Laws.StructEq
import Derived.WalkSpells
import Derived.Maps.RangeRun
set_option linter.unusedVariables false
set_option linter.unusedSimpArgs false
namespace Go.Taq
open Go
theorem gS{α}{l:List α}{i:Nat}{a:α}:l[i]?=some a↔∃h:i<l.length,l[i]=a:=List.getElem?_eq_some_iff
theorem gE{α}{l:List α}{i:Nat}(h:i<l.length):l[i]?=some l[i]:=List.getElem?_eq_getElem h
theorem gA{α}{xs:Array α}{i:Nat}{d:α}:xs.getD i d=xs[i]?.getD d:=Array.getD_eq_getD_getElem?
theorem gM{α}{l:List α}{i:Nat}{a:α}(e:l[i]?=some a):a∈l:=List.mem_of_getElem? e
theorem gD{α}{l:List α}{i:Nat}{a:α}:l.getD i a=l[i]?.getD a:=List.getD_eq_getElem?_getD
theorem gL{α}{l m:List α}{n:Nat}(h:n<l.length):(l++m)[n]?=l[n]?:=List.getElem?_append_left h
theorem gR{α}{l m:List α}{n:Nat}(h:l.length≤n):(l++m)[n]?=m[n-l.length]?:=List.getElem?_append_right h
theorem gN{α}{l:List α}{i:Nat}(h:l.length≤i):l[i]?=none:=List.getElem?_eq_none h
theorem gO{α}{a:α}{l:List α}(h:a∈l):∃i:Nat,l[i]?=some a:=List.getElem?_of_mem h
theorem gT{α}{p:α->Bool}{l:List α}:l.all p=true↔∀x,x∈l->p x=true:=List.all_eq_true
theorem gJ{α}(a b:α):(some a=some b)=(a=b):=Option.some.injEq a b
theorem gP(a b:Bool):((a&&b)=true)=(a=true∧b=true):=Bool.and_eq_true a b
theorem gK{α β}{f:α->β}{l:List α}{i:Nat}:(l.map f)[i]?=l[i]?.map f:=List.getElem?_map
theorem gB{m n:Nat}(k:Nat)(h:m≤n):m*k≤n*k:=Nat.mul_le_mul_right k h
theorem gC{c:Prop}{h:Decidable c}(n:¬c){α}{t e:α}:ite c t e=e:=if_neg n
theorem gF{c:Prop}{h:Decidable c}(n:c){α}{t e:α}:ite c t e=t:=if_pos n
theorem gG{n m k:Nat}(h:n<m)(g:m≤k):n<k:=Nat.lt_of_lt_of_le h g
theorem gH(a b:Nat):a<b∨a≥b:=Nat.lt_or_ge a b
inductive AVal:Type 1 where
 | v (x:Value)
 | p (l off:Nat)
 | rp (cells:List AVal)
 | sl {α:Type} (n:Nat) (enc:α->List AVal) (xs:List α)
 | os {α:Type} (n:Nat) (enc:α->List AVal) (xs:List α)
 | o (l:Nat)
 | ep (l n:Nat) (i:Nat) (off:Nat)
 | vw (l n i m:Nat)
 | agg (cs:List AVal)
 | tup (cs:List AVal)
 | fn (f:Fn) (first captured:List AVal)
 | arr {α:Type} (n:Nat) (enc:α->List AVal) (xs:List α)
 | om {κ α:Type} (ke:κ->Value) (ve:α->AVal) (xs:List (κ×α))
 | rm {κ α:Type} (ke:κ->Value) (ve:α->AVal) (xs:List (κ×α))
 | sv (cs:List AVal)
@[reducible] def AVal.i(n:Int):AVal:=.v (.int .i64 n)
@[reducible] def AVal.b(x:Bool):AVal:=.v (.bool x)
structure Ents {κ α:Type} (ke:κ->Value) (xs:List (κ×α)) (es:Array MapEntry) (clock:Nat):Prop where
 size:es.size=xs.length
 born:es.toList.Pairwise (λa b=>a.born<b.born)
 old:∀e,e∈es.toList->e.born<clock
 nodup:(xs.map (·.1)).Nodup
 key:∀(i:Nat) (x:κ×α) (e:MapEntry),xs[i]?=some x->es[i]?=some e->e.key=ke x.1
inductive Ro (w:World) (ok:Nat->Prop):AVal->Value->Prop where
 | v (x:Value):Ro w ok (.v x) x
 | slNil {α:Type} (n:Nat) (enc:α->List AVal) (p:Option Addr):Ro w ok (.sl n enc []) (.slice p 0 0)
 | sl {α:Type} (n:Nat) (enc:α->List AVal) (xs:List α) (b off cap:Nat) (f:Nat->Nat->Value) (hb:ok b) (hcap:xs.length≤cap)
   (hn:∀(i:Nat) (x:α),xs[i]?=some x->(enc x).length=n)
   (hc:∀(i j:Nat) (x:α) (A:AVal),xs[i]?=some x->(enc x)[j]?=some A->w.cell? ⟨b,off+i*n+j,none⟩=some (f i j))
   (hr:∀(i j:Nat) (x:α) (A:AVal),xs[i]?=some x->(enc x)[j]?=some A->Ro w ok A (f i j)):Ro w ok (.sl n enc xs) (.slice (some ⟨b,off,none⟩) xs.length cap)
 | rp (cells:List AVal) (b off:Nat) (f:Nat->Value) (hb:ok b)
   (hc:∀(j:Nat) (A:AVal),cells[j]?=some A->w.cell? ⟨b,off+j,none⟩=some (f j))
   (hr:∀(j:Nat) (A:AVal),cells[j]?=some A->Ro w ok A (f j)):Ro w ok (.rp cells) (.pointer (some ⟨b,off,none⟩))
 | rmNil {κ α:Type} (ke:κ->Value) (ve:α->AVal):Ro w ok (.rm ke ve []) (.map none)
 | rm {κ α:Type} (ke:κ->Value) (ve:α->AVal) (xs:List (κ×α)) (b:Nat) (es:Array MapEntry) (clock:Nat) (hb:ok b) (hw:w.heap[b]?=some (.map es clock)) (he:Ents ke xs es clock)
   (hr:∀(i:Nat) (x:κ×α) (e:MapEntry),xs[i]?=some x->es[i]?=some e->Ro w ok (ve x.2) e.val):Ro w ok (.rm ke ve xs) (.map (some b))
 | sv (cs:List AVal) (vs:Array Value) (hl:cs.length=vs.size) (h:∀(j:Nat) (A:AVal),cs[j]?=some A->Ro w ok A (vs.getD j undef)):Ro w ok (.sv cs) (.agg vs)
def VwOk(β:List Value)(l n i m:Nat)(x:Value):Prop:=
 (m=0∧∃p c,x=.slice p 0 c)∨(0<m∧∃b o len cap,β[l]?=some (.slice (some ⟨b,o,none⟩) len cap)∧i+m≤len∧x=.slice (some ⟨b,o+i*n,none⟩) m (cap-i))
theorem VwOk.map{β β':List Value}{l l' n i m:Nat}{x:Value}(hf:∀v,β[l]?=some v->β'[l']?=some v)(h:VwOk β l n i m x):VwOk β' l' n i m x:=by
 rcases h with h | ⟨h0,b,o,len,cap,h1,h2,h3⟩
 ·exact .inl h
 ·exact .inr ⟨h0,b,o,len,cap,hf _ h1,h2,h3⟩
inductive Dn (w:World) (ok:Nat->Prop) (β:List Value):AVal->Value->Prop where
 | ro {A:AVal} {x:Value} (h:Ro w ok A x):Dn w ok β A x
 | p (l off b:Nat) (h:β[l]?=some (.pointer (some ⟨b,0,none⟩))):Dn w ok β (.p l off) (.pointer (some ⟨b,off,none⟩))
 | o (l:Nat) (x:Value) (h:β[l]?=some x) (h1:x.oneCell'=true):Dn w ok β (.o l) x
 | ep (l n i off b o len cap:Nat) (h:β[l]?=some (.slice (some ⟨b,o,none⟩) len cap)):Dn w ok β (.ep l n i off) (.pointer (some ⟨b,o+i*n+off,none⟩))
 | vw (l n i m:Nat) (x:Value) (h:VwOk β l n i m x):Dn w ok β (.vw l n i m) x
 | agg (cs:List AVal) (vs:Array Value) (hl:cs.length=vs.size) (h:∀(j:Nat) (A:AVal),cs[j]?=some A->Dn w ok β A (vs.getD j undef)):Dn w ok β (.agg cs) (.agg vs)
 | tup (cs:List AVal) (vs:Array Value) (hl:cs.length=vs.size) (h:∀(j:Nat) (A:AVal),cs[j]?=some A->Dn w ok β A (vs.getD j undef)):Dn w ok β (.tup cs) (.tuple vs)
 | fn (f:Fn) (fs cs:List AVal) (us vs:Array Value) (hl:fs.length=us.size) (h:∀(j:Nat) (A:AVal),fs[j]?=some A->Dn w ok β A (us.getD j undef))
   (hl':cs.length=vs.size) (h':∀(j:Nat) (A:AVal),cs[j]?=some A->Dn w ok β A (vs.getD j undef)):Dn w ok β (.fn f fs cs) (.func f us vs)
inductive On (w0:World) (ok:Nat->Prop) (w:World):AVal->Value->(Nat->Prop)->Prop where
 | ro {A:AVal} {x:Value} (F:Nat->Prop) (h:Ro w0 ok A x):On w0 ok w A x F
 | osNil {α:Type} (n:Nat) (enc:α->List AVal) (F:Nat->Prop) (p:Option Addr):On w0 ok w (.os n enc []) (.slice p 0 0) F
 | os {α:Type} (n:Nat) (enc:α->List AVal) (xs:List α) (b off cap:Nat) (c:Array Value) (T:TypeId) (F:Nat->Prop) (G:Nat->Nat->Nat->Prop)
   (hb:F b) (hw:w.heap[b]?=some (.cells c T (0,0))) (hlen:xs.length≤cap) (hcap:off+cap*n≤c.size)
   (hn:∀(i:Nat) (x:α),xs[i]?=some x->(enc x).length=n)
   (hG:∀i j k,G i j k->F k∧k≠b)
   (hd:∀i j i' j' k,G i j k->G i' j' k->i=i'∧j=j')
   (hr:∀(i j:Nat) (x:α) (A:AVal),xs[i]?=some x->(enc x)[j]?=some A->On w0 ok w A (c.getD (off+i*n+j) undef) (G i j)):
   On w0 ok w (.os n enc xs) (.slice (some ⟨b,off,none⟩) xs.length cap) F
 | arr {α:Type} (n:Nat) (enc:α->List AVal) (xs:List α) (b:Nat) (c:Array Value) (T:TypeId) (F:Nat->Prop) (hb:F b) (hw:w.heap[b]?=some (.cells c T (0,0))) (hc:c.size=xs.length*n)
   (hn:∀(i:Nat) (x:α),xs[i]?=some x->(enc x).length=n)
   (hr:∀(i j:Nat) (x:α) (A:AVal),xs[i]?=some x->(enc x)[j]?=some A->Ro w0 ok A (c.getD (i*n+j) undef)):On w0 ok w (.arr n enc xs) (.pointer (some ⟨b,0,none⟩)) F
 | om {κ α:Type} (ke:κ->Value) (ve:α->AVal) (xs:List (κ×α)) (b:Nat) (es:Array MapEntry) (clock:Nat) (F:Nat->Prop) (G:Nat->Nat->Prop) (hb:F b) (hw:w.heap[b]?=some (.map es clock)) (he:Ents ke xs es clock)
   (hG:∀i k,G i k->F k∧k≠b) (hd:∀i i' k,G i k->G i' k->i=i')
   (hr:∀(i:Nat) (x:κ×α) (e:MapEntry),xs[i]?=some x->es[i]?=some e->On w0 ok w (ve x.2) e.val (G i)):On w0 ok w (.om ke ve xs) (.map (some b)) F
inductive Res:Type 1 where
 | box (cells:List AVal)
 | val (A:AVal)
 | lent {α:Type} (enc:α->List AVal) (xs:List α) (L:List (Nat×Nat))
 | lentm {κ α:Type} (ke:κ->Value) (ve:α->AVal) (xs:List (κ×α)) (L:List (κ×Nat))
 | rng {κ α:Type} (ke:κ->Value) (ve:α->AVal) (xs:List (κ×α)) (seen:List κ) (li:Nat)
 | itn
 | abs (Φ:World->(Nat->Prop)->(Nat->Prop)->Prop)
 | rngm {κ α:Type} (ke:κ->Value) (ve:α->AVal) (xs:List (κ×α)) (seen:List κ)
abbrev Heap:=List (Nat×Res)
abbrev Env:=List (Nat×AVal)
def RngM(w0:World)(ok:Nat->Prop){κ α:Type}(ke:κ->Value)(ve:α->AVal)(xs:List (κ×α))(seen:List κ)(O:Obj):Prop:=
 (xs=[]∧O=.mapIter none 0 #[] 0)∨∃(b:Nat) (es:Array MapEntry) (clock:Nat) (sa:Array Nat),ok b∧w0.heap[b]?=some (.map es clock)∧O=.mapIter (some b) clock sa clock∧Ents ke xs es clock ∧
  (∀(i:Nat) (x:κ×α) (e:MapEntry),xs[i]?=some x->es[i]?=some e->Ro w0 ok (ve x.2) e.val)∧(∀(i:Nat) (x:κ×α) (e:MapEntry),xs[i]?=some x->es[i]?=some e->(sa.contains e.born=true↔x.1∈seen)) ∧
  ∀(k:κ) (rest:List κ),seen=k :: rest->∀(i:Nat) (x:κ×α) (e:MapEntry),xs[i]?=some x->es[i]?=some e->x.1=k->∃sa0:Array Nat,sa=sa0.push e.born
def Gn(w0:World)(ok:Nat->Prop)(β:List Value)(w:World)(l:Nat)(F:Nat->Prop):Res->Prop
 | .box cells=>∃b c T,β[l]?=some (.pointer (some ⟨b,0,none⟩))∧w.heap[b]?=some (.cells c T (0,0))∧cells.length=c.size ∧
   (∀(j:Nat) (A:AVal),cells[j]?=some A->Dn w0 ok β A (c.getD j undef))∧F b
 | .val A=>∃x,β[l]?=some x∧On w0 ok w A x F
 | .lent enc xs L=>∃(b off cap:Nat) (c:Array Value) (T:TypeId) (G:Nat->Nat->Prop),β[l]?=some (.slice (some ⟨b,off,none⟩) xs.length cap)∧w.heap[b]?=some (.cells c T (0,0))∧F b∧xs.length≤cap∧off+cap≤c.size∧(∀x,x∈xs->(enc x).length=1) ∧
   (∀i l',(i,l')∈L->i<xs.length∧β[l']?=some (c.getD (off+i) undef))∧(∀j k,G j k->F k∧k≠b)∧(∀j j' k,G j k->G j' k->j=j') ∧
   ∀(j:Nat) (x:_) (A:AVal),(∀l',(j,l')∉L)->xs[j]?=some x->(enc x)[0]?=some A->On w0 ok w A (c.getD (off+j) undef) (G j)
 | .lentm ke ve xs L=>∃(b:Nat) (es:Array MapEntry) (clock:Nat) (G:Nat->Nat->Prop),β[l]?=some (.map (some b))∧w.heap[b]?=some (.map es clock)∧F b∧Ents ke xs es clock ∧
   (∀k l',(k,l')∈L->∃(i:Nat) (y:_) (e:MapEntry),xs[i]?=some (k,y)∧es[i]?=some e∧β[l']?=some e.val)∧(∀i k,G i k->F k∧k≠b)∧(∀i i' k,G i k->G i' k->i=i') ∧
   ∀(i:Nat) (x:_) (e:MapEntry),(∀l',(x.1,l')∉L)->xs[i]?=some x->es[i]?=some e->On w0 ok w (ve x.2) e.val (G i)
 | .rngm ke ve xs seen=>∃(bi:Nat) (O:Obj),β[l]?=some (.pointer (some ⟨bi,0,none⟩))∧w.heap[bi]?=some O∧F bi∧RngM w0 ok ke ve xs seen O
 | .itn=>∃bi:Nat,β[l]?=some (.pointer (some ⟨bi,0,none⟩))∧w.heap[bi]?=some (.mapIter none 0 #[] 0)∧F bi
 | .abs Φ=>(∃x,β[l]?=some x)∧∃(W:World) (ok1 F1:Nat->Prop),Φ W ok1 F1∧(∀b,ok1 b->ok b∧b<W.heap.size∧w0.heap[b]?=W.heap[b]?)∧∀b,F1 b->F b∧b<W.heap.size∧w.heap[b]?=W.heap[b]?
 | .rng ke ve xs seen li=>∃(b bi:Nat) (es:Array MapEntry) (clock:Nat) (sa:Array Nat) (G:Nat->Nat->Prop),β[l]?=some (.map (some b))∧β[li]?=some (.pointer (some ⟨bi,0,none⟩))∧b≠bi∧F b∧F bi∧w.heap[b]?=some (.map es clock) ∧
   w.heap[bi]?=some (.mapIter (some b) clock sa clock)∧Ents ke xs es clock∧(∀i k,G i k->F k∧k≠b∧k≠bi)∧(∀i i' k,G i k->G i' k->i=i') ∧
   (∀(i:Nat) (x:_) (e:MapEntry),xs[i]?=some x->es[i]?=some e->On w0 ok w (ve x.2) e.val (G i))∧(∀(i:Nat) (x:_) (e:MapEntry),xs[i]?=some x->es[i]?=some e->(sa.contains e.born=true↔x.1∈seen)) ∧
   ∀(k:_) (rest:List _),seen=k :: rest->∀(i:Nat) (x:_) (e:MapEntry),xs[i]?=some x->es[i]?=some e->x.1=k->∃sa0:Array Nat,sa=sa0.push e.born
def HOk(w0:World)(ok:Nat->Prop)(β:List Value)(w:World):Heap->(Nat->Prop)->Prop
 | [],_=>True
 | (l,R) :: H,F=>∃F1 F2:Nat->Prop,(∀b,F1 b->F b)∧(∀b,F2 b->F b)∧(∀b,F1 b->F2 b->False)∧Gn w0 ok β w l F1 R∧HOk w0 ok β w H F2
def Zi(a b:Nat):Prop:=a≤b
theorem Zi.of_le{a b:Nat}(h:a≤b):Zi a b:=by unfold Zi;first | exact h | trivial
theorem Zi.refl(a:Nat):Zi a a:=.of_le (Nat.le_refl a)
theorem Zi.trans{a b c:Nat}(h:Zi a b)(k:Zi b c):Zi a c:=by unfold Zi at *;first | exact Nat.le_trans h k | trivial
structure Kp (w0:World) (M:Nat->Prop) (w:World):Prop where
 os:w.os=w0.os
 tape:w.tape=w0.tape
 output:w.output=w0.output
 size:w0.heap.size≤w.heap.size
 block:∀b,b<w0.heap.size->¬M b->w.heap[b]?=w0.heap[b]?
 drawn:Zi w0.drawn w.drawn
theorem Kp.refl(w:World)(M:Nat->Prop):Kp w M w:=⟨rfl,rfl,rfl,Nat.le_refl _,λ_ _ _=>rfl,.refl _⟩
theorem Kp.trans{a b c:World}{M N:Nat->Prop}(h:Kp a M b)(k:Kp b N c)(hN:∀x,N x->x<a.heap.size->M x):Kp a M c:=
 ⟨k.os.trans h.os,k.tape.trans h.tape,k.output.trans h.output,Nat.le_trans h.size k.size,
  λx hx hM=>(k.block x (Nat.lt_of_lt_of_le hx h.size) (λn=>hM (hN x n hx))).trans (h.block x hx hM),h.drawn.trans k.drawn⟩
theorem Kp.mono{a b:World}{M N:Nat->Prop}(h:Kp a M b)(hMN:∀x,M x->x<a.heap.size->N x):Kp a N b:=
 ⟨h.os,h.tape,h.output,h.size,λx hx hn=>h.block x hx (λm=>hn (hMN x m hx)),h.drawn⟩
theorem Kp.drew(w:World)(M:Nat->Prop)(n:Nat)(h:w.drawn≤n:=by exact Nat.le_succ _):Kp w M {w with drawn:=n}:=⟨rfl,rfl,rfl,Nat.le_refl _,λ_ _ _=>rfl,.of_le h⟩
def find.{u}{α:Type u}:List (Nat×α)->Nat->Option α
 | [],_=>none
 | (k,a) :: r,t=>bif k.beq t then some a else find r t
theorem find_cons.{u}{α:Type u}(k:Nat)(a:α)(r:List (Nat×α))(t:Nat):find ((k,a) :: r) t=if k=t then some a else find r t:=by
 rw [find];by_cases h:k=t
 ·subst h;simp
 ·have:k.beq t=false:=by cases hb:k.beq t with
   | false=>rfl
   | true=>exact absurd (Nat.eq_of_beq_eq_true hb) h
  simp [this,h]
structure Base where
 n:Nat
 k:Nat
 b0:List Value
 w0:World
 ok:Nat->Prop
 M:Nat->Prop
 ds:List Deferred
def mark(D:Nat):Deferred:={target:=.collected D,args:=#[]}
structure XA (B:Base) (β:List Value) (F:Nat->Prop) (Γ:Env) (H:Heap) (a:Act) (w:World):Prop where
 kp:Kp B.w0 B.M w
 ok:∀b,B.ok b->b<B.w0.heap.size∧¬B.M b
 own:∀b,F b->b<w.heap.size∧(b<B.w0.heap.size->B.M b)
 heap:HOk B.w0 B.ok β w H F
 env:∀t A,find Γ t=some A->Dn B.w0 B.ok β A (a.tmps.getD t undef)
 size:a.tmps.size=B.n
 defers:a.defers=B.ds
 pre:∀l x,l<B.k->B.b0[l]?=some x->β[l]?=some x
structure Base.Ext (B B':Base):Prop where
 n:B'.n=B.n
 k:B'.k=B.k
 b0:B'.b0=B.b0
 kp:Kp B.w0 B.M B'.w0
 ok:∀b,B.ok b->B'.ok b
 new:∀b,B'.ok b->B.ok b∨B.M b∨B.w0.heap.size≤b
 M:∀b,B'.M b->B.M b∨B.w0.heap.size≤b
 ds:∃Ds:List Nat,B'.ds=Ds.map mark++B.ds∧Ds.Nodup∧∀D,D∈Ds->B.w0.heap.size≤D∧B'.w0.heap[D]?=some (.deferred (some []))∧¬B'.M D∧¬B'.ok D
theorem Base.Ext.refl(B:Base):B.Ext B:=⟨rfl,rfl,rfl,.refl _ _,λ_ h=>h,λ_ h=>.inl h,λ_ h=>.inl h,[],rfl,.nil,by simp⟩
theorem Base.Ext.trans{A B C:Base}(h:A.Ext B)(k:B.Ext C):A.Ext C:=
 ⟨k.n.trans h.n,k.k.trans h.k,k.b0.trans h.b0,h.kp.trans k.kp (λx hx hlt=>(h.M x hx).resolve_right (by omega)),λb hb=>k.ok b (h.ok b hb),
  λb hb=>by
   rcases k.new b hb with h1 | h1 | h1
   ·exact h.new b h1
   ·exact .inr (h.M b h1)
   ·exact .inr (.inr (Nat.le_trans h.kp.size h1)),
  λb hb=>by
   rcases k.M b hb with h1 | h1
   ·exact h.M b h1
   ·exact .inr (Nat.le_trans h.kp.size h1),by
  obtain⟨D1,e1,n1,m1⟩:=h.ds;obtain⟨D2,e2,n2,m2⟩:=k.ds;have lt:∀D,D∈D1->D<B.w0.heap.size:=λD hD=>(Array.getElem?_eq_some_iff.1 (m1 D hD).2.1).1
  refine⟨D2++D1,by rw [e2,e1];simp,List.nodup_append.2 ⟨n2,n1,λa ha b hb=>?_⟩,λD hD=>?_⟩
  ·have:=lt b hb;have:=(m2 a ha).1;omega
  ·rcases List.mem_append.1 hD with hD | hD
   ·exact⟨Nat.le_trans h.kp.size (m2 D hD).1,(m2 D hD).2⟩
   ·obtain⟨g1,g2,g3,g4⟩:=m1 D hD;refine⟨g1,(k.kp.block D (lt D hD) g3).trans g2,λhm=>?_,λho=>?_⟩
    ·rcases k.M D hm with h1 | h1
     ·exact g3 h1
     ·have:=lt D hD;omega
    ·rcases k.new D ho with h1 | h1 | h1
     ·exact g4 h1
     ·exact g3 h1
     ·have:=lt D hD;omega⟩
def Fits(B:Base)(Γ:Env)(H:Heap)(nl:Nat)(a:Act)(w:World):Prop:=∃(B':Base) (β:List Value) (F:Nat->Prop),B.Ext B'∧β.length=nl∧XA B' β F Γ H a w
theorem XA.rebase{B:Base}{β:List Value}{F:Nat->Prop}{Γ:Env}{H:Heap}{a:Act}{w:World}(h:XA B β F Γ H a w){ok:Nat->Prop}{Γ':Env}{H':Heap}{β':List Value}{F':Nat->Prop}
  (h1:∀b,B.ok b->ok b) (h2:∀b,ok b->B.ok b∨F b) (h3:∀b,F' b->F b∧¬ok b) (hH:HOk w ok β' w H' F') (hΓ:∀t A,find Γ' t=some A->Dn w ok β' A (a.tmps.getD t undef)) (hp:∀l x,l<B.k->β[l]?=some x->β'[l]?=some x):
  B.Ext ⟨B.n,B.k,B.b0,w,ok,F',B.ds⟩∧XA ⟨B.n,B.k,B.b0,w,ok,F',B.ds⟩ β' F' Γ' H' a w:=by
 have new:∀b,F b->B.M b∨B.w0.heap.size≤b:=λb hb=>by
  have:=h.own b hb;rcases Nat.lt_or_ge b B.w0.heap.size with hlt | hge
  ·exact .inl (this.2 hlt)
  ·exact .inr hge
 refine⟨⟨rfl,rfl,rfl,h.kp,h1,λb hb=>(h2 b hb).imp id (new b),λb hb=>new b (h3 b hb).1,[],rfl,.nil,by simp⟩,.refl _ _,λb hb=>⟨?_,λhF=>(h3 b hF).2 hb⟩,λb hb=>⟨(h.own b (h3 b hb).1).1,λ_=>hb⟩,hH,hΓ,h.size,h.defers,λl x hl hx=>hp l x hl (h.pre l x hl hx)⟩;rcases h2 b hb with h' | h'
 ·exact Nat.lt_of_lt_of_le (h.ok b h').1 h.kp.size
 ·exact (h.own b h').1
def St(B:Base)(Γ:Env)(H:Heap)(nl:Nat)(X:Act->World->Prop):Prop:=∀a w,Fits B Γ H nl a w->X a w
theorem Q14{w:World}{a:Addr}{x:Value}(h:w.cell? a=some x):a.block<w.heap.size:=World.block_lt_of_cell? w a h
theorem Gt{w:World}{b:Nat}{x:Obj}(h:w.heap[b]?=some x):b<w.heap.size:=by
 rcases Nat.lt_or_ge b w.heap.size with h' | h'
 ·exact h'
 ·simp [Array.getElem?_eq_none h'] at h
theorem Ro.later{w w':World}{ok:Nat->Prop}(hk:∀b,ok b->b<w.heap.size->w'.heap[b]?=w.heap[b]?){A:AVal}{x:Value}(h:Ro w ok A x):Ro w' ok A x:=by
 induction h with
 | v x=>exact .v x
 | slNil n enc p=>exact .slNil n enc p
 | sl n enc xs b off cap f hb hcap hn hc hr ih=>
  refine .sl n enc xs b off cap f hb hcap hn (λi j x A hx hA=>?_) ih;have:=hc i j x A hx hA;rw [World.cell?_of_block (w:=w) (hk b hb (Q14 this))];exact this
 | rp cells b off f hb hc hr ih=>
  refine .rp cells b off f hb (λj A hA=>?_) ih;have:=hc j A hA;rw [World.cell?_of_block (w:=w) (hk b hb (Q14 this))];exact this
 | rmNil ke ve=>exact .rmNil ke ve
 | rm ke ve xs b es clock hb hw he hr ih=>exact .rm ke ve xs b es clock hb (by rw [hk b hb (Gt hw)];exact hw) he ih
 | sv cs vs hl h ih=>exact .sv cs vs hl ih
theorem Ro.mono{w:World}{ok ok':Nat->Prop}(hk:∀b,ok b->ok' b){A:AVal}{x:Value}(h:Ro w ok A x):Ro w ok' A x:=by
 induction h with
 | v x=>exact .v x
 | slNil n enc p=>exact .slNil n enc p
 | sl n enc xs b off cap f hb hcap hn hc hr ih=>exact .sl n enc xs b off cap f (hk b hb) hcap hn hc ih
 | rp cells b off f hb hc hr ih=>exact .rp cells b off f (hk b hb) hc ih
 | rmNil ke ve=>exact .rmNil ke ve
 | rm ke ve xs b es clock hb hw he hr ih=>exact .rm ke ve xs b es clock (hk b hb) hw he ih
 | sv cs vs hl h ih=>exact .sv cs vs hl ih
theorem On.later{w0 w w':World}{ok:Nat->Prop}{A:AVal}{x:Value}{F:Nat->Prop}(h:On w0 ok w A x F):
  (∀b,F b->b<w.heap.size->w'.heap[b]?=w.heap[b]?)->On w0 ok w' A x F:=by
 induction h with
 | ro F h=>exact λ_=>.ro F h
 | osNil n enc F p=>exact λ_=>.osNil n enc F p
 | os n enc xs b off cap c T F G hb hw hlen hcap hn hG hd hr ih=>
  intro hk;have hlt:b<w.heap.size:=by
   rcases Nat.lt_or_ge b w.heap.size with h | h
   ·exact h
   ·simp [Array.getElem?_eq_none h] at hw
  exact .os n enc xs b off cap c T F G hb (by rw [hk b hb hlt];exact hw) hlen hcap hn hG hd
   (λi j x A hx hA=>ih i j x A hx hA (λk hk' hlt'=>hk k (hG i j k hk').1 hlt'))
 | arr n enc xs b c T F hb hw hc hn hr=>exact λhk=>.arr n enc xs b c T F hb (by rw [hk b hb (Gt hw)];exact hw) hc hn hr
 | om ke ve xs b es clock F G hb hw he hG hd hr ih=>
  exact λhk=>.om ke ve xs b es clock F G hb (by rw [hk b hb (Gt hw)];exact hw) he hG hd (λi x e hx he'=>ih i x e hx he' (λk hk' hlt'=>hk k (hG i k hk').1 hlt'))
theorem On.mono{w0 w:World}{ok:Nat->Prop}{A:AVal}{x:Value}{F:Nat->Prop}(h:On w0 ok w A x F):∀{F':Nat->Prop},(∀b,F b->F' b)->On w0 ok w A x F':=by
 induction h with
 | ro F h=>exact λ_=>.ro _ h
 | osNil n enc F p=>exact λ_=>.osNil n enc _ p
 | os n enc xs b off cap c T F G hb hw hlen hcap hn hG hd hr ih=>
  intro F' hF;exact .os n enc xs b off cap c T F' G (hF b hb) hw hlen hcap hn (λi j k h=>⟨hF k (hG i j k h).1,(hG i j k h).2⟩) hd hr
 | arr n enc xs b c T F hb hw hc hn hr=>exact λhF=>.arr n enc xs b c T _ (hF b hb) hw hc hn hr
 | om ke ve xs b es clock F G hb hw he hG hd hr ih=>exact λhF=>.om ke ve xs b es clock _ G (hF b hb) hw he (λi k h=>⟨hF k (hG i k h).1,(hG i k h).2⟩) hd hr
theorem Gn.later{w0 w w':World}{ok:Nat->Prop}{β:List Value}{l:Nat}{F:Nat->Prop}{R:Res}(h:Gn w0 ok β w l F R)
  (hk:∀b,F b->b<w.heap.size->w'.heap[b]?=w.heap[b]?):Gn w0 ok β w' l F R:=by
 cases R with
 | box cells=>
  obtain⟨b,c,T,hl,hw,hs,hd,hF⟩:=h;have hlt:b<w.heap.size:=by
   rcases Nat.lt_or_ge b w.heap.size with h | h
   ·exact h
   ·simp [Array.getElem?_eq_none h] at hw
  exact⟨b,c,T,hl,by rw [hk b hF hlt];exact hw,hs,hd,hF⟩
 | val A=>exact let ⟨x,hl,ho⟩:=h;⟨x,hl,ho.later hk⟩
 | lent enc xs L=>
  obtain⟨b,off,cap,c,T,G,hl,hw,hF,h1,h2,h3,h4,hG,hd,hr⟩:=h;exact⟨b,off,cap,c,T,G,hl,by rw [hk b hF (Gt hw)];exact hw,hF,h1,h2,h3,h4,hG,hd,λj x A hj hx hA=>(hr j x A hj hx hA).later (λk hk' hlt=>hk k (hG j k hk').1 hlt)⟩
 | lentm ke ve xs L=>
  obtain⟨b,es,clock,G,hl,hw,hF,he,h4,hG,hd,hr⟩:=h;exact⟨b,es,clock,G,hl,by rw [hk b hF (Gt hw)];exact hw,hF,he,h4,hG,hd,λi x e hj hx he'=>(hr i x e hj hx he').later (λk hk' hlt=>hk k (hG i k hk').1 hlt)⟩
 | rng ke ve xs seen li=>
  obtain⟨b,bi,es,clock,sa,G,hl,hli,hne,hF,hFi,hw,hwi,he,hG,hd,hr,hs⟩:=h;exact⟨b,bi,es,clock,sa,G,hl,hli,hne,hF,hFi,by rw [hk b hF (Gt hw)];exact hw,by rw [hk bi hFi (Gt hwi)];exact hwi,he,hG,hd,λi x e hx he'=>(hr i x e hx he').later (λk hk' hlt=>hk k (hG i k hk').1 hlt),hs⟩
 | itn=>obtain⟨bi,hl,hw,hF⟩:=h;exact⟨bi,hl,by rw [hk bi hF (Gt hw)];exact hw,hF⟩
 | rngm ke ve xs seen=>obtain⟨bi,O,hl,hw,hF,r⟩:=h;exact⟨bi,O,hl,by rw [hk bi hF (Gt hw)];exact hw,hF,r⟩
 | abs Φ=>
  obtain⟨hx,W,ok1,F1,hΦ,h1,h2⟩:=h;exact⟨hx,W,ok1,F1,hΦ,h1,λb hb=>by
   obtain⟨g1,g2,g3⟩:=h2 b hb;exact⟨g1,g2,(hk b g1 (Gt (g3.trans (Array.getElem?_eq_getElem g2)))).trans g3⟩⟩
theorem HOk.later{w0 w w':World}{ok:Nat->Prop}{β:List Value}{H:Heap}:∀{F:Nat->Prop},HOk w0 ok β w H F ->
  (∀b,F b->b<w.heap.size->w'.heap[b]?=w.heap[b]?)->HOk w0 ok β w' H F:=by
 induction H with
 | nil=>exact λ_ _=>trivial
 | cons x H ih=>
  obtain⟨l,R⟩:=x;intro F h hk;obtain⟨F1,F2,h1,h2,h12,hR,hH⟩:=h;exact⟨F1,F2,h1,h2,h12,hR.later (λb hb=>hk b (h1 b hb)),ih hH (λb hb=>hk b (h2 b hb))⟩
theorem HOk.mono{w0 w:World}{ok:Nat->Prop}{β:List Value}{H:Heap}{F F':Nat->Prop}(h:HOk w0 ok β w H F)(hF:∀b,F b->F' b):HOk w0 ok β w H F':=by
 cases H with
 | nil=>trivial
 | cons x H=>
  obtain⟨l,R⟩:=x;obtain⟨F1,F2,h1,h2,h12,hR,hH⟩:=h;exact⟨F1,F2,λb hb=>hF b (h1 b hb),λb hb=>hF b (h2 b hb),h12,hR,hH⟩
theorem Ql{β:List Value}{l:Nat}{x y:Value}(h:β[l]?=some x):(β++[y])[l]?=some x:=by
 rw [List.getElem?_append_left]
 ·exact h
 ·rcases Nat.lt_or_ge l β.length with h' | h'
  ·exact h'
  ·simp [List.getElem?_eq_none h'] at h
theorem Dn.snoc{w:World}{ok:Nat->Prop}{β:List Value}{A:AVal}{x:Value}(h:Dn w ok β A x)(y:Value):Dn w ok (β++[y]) A x:=by
 induction h with
 | ro h=>exact .ro h
 | p l off b h=>exact .p l off b (Ql h)
 | o l x h h1=>exact .o l x (Ql h) h1
 | ep l n i off b o len cap h=>exact .ep l n i off b o len cap (Ql h)
 | vw l n i m x h=>exact .vw l n i m x (h.map λ_=>Ql)
 | agg cs vs hl _ ih=>exact .agg cs vs hl ih
 | tup cs vs hl _ ih=>exact .tup cs vs hl ih
 | fn f fs cs us vs hl _ hl' _ ih ih'=>exact .fn f fs cs us vs hl ih hl' ih'
theorem Gn.snoc{w0 w:World}{ok:Nat->Prop}{β:List Value}{l:Nat}{F:Nat->Prop}{R:Res}(h:Gn w0 ok β w l F R)(y:Value):Gn w0 ok (β++[y]) w l F R:=by
 cases R with
 | box cells=>
  obtain⟨b,c,T,hl,hw,hs,hd,hF⟩:=h;exact⟨b,c,T,Ql hl,hw,hs,λj A hA=>(hd j A hA).snoc y,hF⟩
 | val A=>exact let ⟨x,hl,ho⟩:=h;⟨x,Ql hl,ho⟩
 | lent enc xs L=>
  obtain⟨b,off,cap,c,T,G,hl,hw,hF,h1,h2,h3,h4,r⟩:=h;exact⟨b,off,cap,c,T,G,Ql hl,hw,hF,h1,h2,h3,λi l' h=>⟨(h4 i l' h).1,Ql (h4 i l' h).2⟩,r⟩
 | lentm ke ve xs L=>
  obtain⟨b,es,clock,G,hl,hw,hF,he,h4,r⟩:=h;exact⟨b,es,clock,G,Ql hl,hw,hF,he,λk l' h=>let ⟨i,y,e,h1,h2,h3⟩:=h4 k l' h;⟨i,y,e,h1,h2,Ql h3⟩,r⟩
 | rng ke ve xs seen li=>
  obtain⟨b,bi,es,clock,sa,G,hl,hli,r⟩:=h;exact⟨b,bi,es,clock,sa,G,Ql hl,Ql hli,r⟩
 | itn=>obtain⟨bi,hl,r⟩:=h;exact⟨bi,Ql hl,r⟩
 | rngm ke ve xs seen=>obtain⟨bi,O,hl,r⟩:=h;exact⟨bi,O,Ql hl,r⟩
 | abs Φ=>obtain⟨⟨x,hx⟩,r⟩:=h;exact⟨⟨x,Ql hx⟩,r⟩
theorem HOk.snoc{w0 w:World}{ok:Nat->Prop}{β:List Value}{H:Heap}(y:Value):∀{F:Nat->Prop},HOk w0 ok β w H F->HOk w0 ok (β++[y]) w H F:=by
 induction H with
 | nil=>exact λ_=>trivial
 | cons x H ih=>
  obtain⟨l,R⟩:=x;intro F h;obtain⟨F1,F2,h1,h2,h12,hR,hH⟩:=h;exact⟨F1,F2,h1,h2,h12,hR.snoc y,ih hH⟩
inductive TI where
 | int (k:IntKind) | bool | str | sl (e:Nat) | mp (k e:Nat) | pt (e:Nat) | fn | st (fs:List (Nat×Nat)) | ar (len e:Nat) | ot
structure TE where
 ti:TI
 n:Nat
 bytes:Nat
 zc:List Value
def TI.fits:TI->TypeDesc->Prop
 | .int k,d=>d=.int k
 | .bool,d=>d=.bool
 | .str,d=>d=.string
 | .sl e,d=>d=.slice e
 | .mp k e,d=>d=.map k e
 | .pt e,d=>d=.pointer e
 | .fn,d=>∃a b c,d=.func a b c
 | .st fs,d=>∃f:Array Field,d=.struct f∧f.toList.map (λx=>(x.offset,x.type))=fs
 | .ar l e,d=>d=.array l e
 | .ot,_=>False
def TI.agg:TI->Bool
 | .st _ | .ar _ _=>true
 | _=>false
def TEok(P:Program)(t:Nat)(e:TE):Prop:=
 (∃d,P.underlying t=some d∧e.ti.fits d)∧∃i z,P.info? t=some i∧i.size=e.n∧i.bytes=e.bytes∧i.zero=some z∧z.cells.toList=e.zc∧(e.ti.agg=true->∃cs,z=.agg cs)∧e.zc.length=e.n∧(∀x∈e.zc,x.oneCell'=true)
abbrev Tab:=List (Nat×TE)
class TabOk (P:Program) (tb:outParam Tab):Prop where
 h:∀t e,find tb t=some e->TEok P t e
theorem TabOk.nil{P:Program}:TabOk P []:=⟨λ_ _ h=>by simp [find] at h⟩
theorem TabOk.cons{P:Program}{tb:Tab}{t:Nat}{e:TE}(h:TEok P t e)(ht:TabOk P tb):TabOk P ((t,e) :: tb):=.mk λt' e' h'=>by
 rw [find_cons] at h';split at h'
 ·rename_i heq;subst heq;cases h';exact h
 ·exact ht.h _ _ h'
@[reducible] def w64(n:Int):Int:=IntKind.wrap .i64 n
def band(k:IntKind)(x y:Int):Int:=k.wrap (BitVec.ofInt k.bits x &&& BitVec.ofInt k.bits y).toNat
def bor(k:IntKind)(x y:Int):Int:=k.wrap (BitVec.ofInt k.bits x ||| BitVec.ofInt k.bits y).toNat
def bxor(k:IntKind)(x y:Int):Int:=k.wrap (BitVec.ofInt k.bits x ^^^ BitVec.ofInt k.bits y).toNat
def Qcm(k:IntKind)(x y:Int):Int:=k.wrap (BitVec.ofInt k.bits x &&& ~~~ BitVec.ofInt k.bits y).toNat
def shrI(k:IntKind)(x y:Int):Int:=x.fdiv (2 ^ (min y.toNat k.bits))
def imax(x y:Int):Int:=if y>x then y else x
def imin(x y:Int):Int:=if y<x then y else x
def seq(x y:ByteArray):Bool:=x.toList == y.toList
def ev(Γ:Env):Operand->Option AVal
 | .tmp t=>find Γ t
 | .const v=>some (.v v)
 | .func f=>some (.fn (.func f) [] [])
 | .global _=>none
def evs(Γ:Env):List Operand->Option (List AVal)
 | []=>some []
 | x :: r=>match ev Γ x,evs Γ r with
  | some a,some l=>some (a :: l)
  | _,_=>none
def AVal.one:AVal->Bool
 | .v x=>x.oneCell'
 | .agg _ | .tup _ | .sv _=>false
 | _=>true
def AVal.cells:AVal->Option (List AVal)
 | .agg cs=>some cs
 | .v (.agg vs)=>some (vs.toList.map .v)
 | A=>if A.one then some [A] else none
def binA(op:BinOp)(x y:AVal):Option AVal:=
 match op,x,y with
 | .add,.v (.int k a),.v (.int k' b)=>if k=k' then some (.v (.int k (k.wrap (a+b)))) else none
 | .sub,.v (.int k a),.v (.int k' b)=>if k=k' then some (.v (.int k (k.wrap (a-b)))) else none
 | .mul,.v (.int k a),.v (.int k' b)=>if k=k' then some (.v (.int k (k.wrap (a*b)))) else none
 | .and,.v (.int k a),.v (.int k' b)=>if k=k' then some (.v (.int k (band k a b))) else none
 | .or,.v (.int k a),.v (.int k' b)=>if k=k' then some (.v (.int k (bor k a b))) else none
 | .xor,.v (.int k a),.v (.int k' b)=>if k=k' then some (.v (.int k (bxor k a b))) else none
 | .andNot,.v (.int k a),.v (.int k' b)=>if k=k' then some (.v (.int k (Qcm k a b))) else none
 | .eql,.v (.int k a),.v (.int k' b)=>if k=k' then some (.v (.bool (a == b))) else none
 | .neq,.v (.int k a),.v (.int k' b)=>if k=k' then some (.v (.bool (a != b))) else none
 | .lss,.v (.int k a),.v (.int k' b)=>if k=k' then some (.v (.bool (decide (a<b)))) else none
 | .leq,.v (.int k a),.v (.int k' b)=>if k=k' then some (.v (.bool (decide (a≤b)))) else none
 | .gtr,.v (.int k a),.v (.int k' b)=>if k=k' then some (.v (.bool (decide (a>b)))) else none
 | .geq,.v (.int k a),.v (.int k' b)=>if k=k' then some (.v (.bool (decide (a≥b)))) else none
 | .eql,.v (.string a),.v (.string b)=>some (.v (.bool (seq a b)))
 | .neq,.v (.string a),.v (.string b)=>some (.v (.bool !(seq a b)))
 | _,_,_=>none
def binB(op:BinOp)(x y:AVal):Option AVal:=
 match op,x,y with
 | .eql,.v (.bool a),.v (.bool b)=>some (.v (.bool (a == b)))
 | .neq,.v (.bool a),.v (.bool b)=>some (.v (.bool !(a == b)))
 | _,_,_=>none
def unA(op:UnOp)(x:AVal):Option AVal:=
 match op,x with
 | .neg,.v (.int k n)=>some (.v (.int k (k.wrap (0-n))))
 | .not,.v (.bool b)=>some (.v (.bool !b))
 | _,_=>none
def Q3b(tb:Tab)(t k:Nat):Option (Nat×Nat):=
 match find tb t with
 | some ⟨.st fs,_,_,_⟩=>fs[k]?
 | _=>none
def AVal.addP:AVal->Nat->Option AVal
 | .p l off,k=>some (.p l (off+k))
 | .ep l n i off,k=>some (.ep l n i (off+k))
 | .rp cells,k=>some (.rp (cells.drop k))
 | _,_=>none
def setCells:List AVal->Nat->List AVal->List AVal
 | cs,_,[]=>cs
 | cs,off,x :: r=>setCells (cs.set off x) (off+1) r
def fillA(place:Nat->Option (Nat×Nat))(cells:List AVal):List (Nat×AVal)->Option (List AVal)
 | []=>some cells
 | (i,v) :: rest=>
  match place i with
  | none=>none
  | some (off,size)=>match v.cells with
   | some vc=>if vc.length≠size||off+vc.length>cells.length then none else fillA place (setCells cells off vc) rest
   | none=>none
def Q12(Γ:Env):List (Nat×Operand)->Option (List (Nat×AVal))
 | []=>some []
 | (i,x) :: r=>match ev Γ x,Q12 Γ r with
  | some a,some l=>some ((i,a) :: l)
  | _,_=>none
def ints:List AVal->Option (IntKind×List Int)
 | []=>none
 | [.v (.int k a)]=>some (k,[a])
 | .v (.int k a) :: r=>match ints r with
  | some (k',l)=>if k=k' then some (k,a :: l) else none
  | none=>none
 | _=>none
def Q7i(tb:Tab)(fs:List (Nat×Nat))(i:Nat):Option (Nat×Nat):=
 match fs[i]? with
 | some (off,u)=>match find tb u with
  | some e=>some (off,e.n)
  | none=>none
 | none=>none
def Q6X(tb:Tab)(t:Nat):Option ((Nat->Option (Nat×Nat))×List Value):=
 match find tb t with
 | some ⟨.st fs,_,_,zc⟩=>if fs.all (λx=>(find tb x.2).isSome) then some (Q7i tb fs,zc) else none
 | some ⟨.ar _ u,_,_,zc⟩=>match find tb u with
  | some e=>some (λi=>some (i*e.n,e.n),zc)
  | none=>none
 | _=>none
def ZD(tb:Tab)(Γ:Env)(H:Heap)(o:Op):Option AVal:=
 match o with
 | .move x | .assign x=>ev Γ x
 | .binOp op t x y _=>match ev Γ x,ev Γ y with
  | some a,some b=>match find tb t with
   | some ⟨.bool,_,_,_⟩=>binB op a b
   | _=>binA op a b
  | _,_=>none
 | .unOp op _ x=>match ev Γ x with
  | some a=>unA op a
  | none=>none
 | .convert s d x=>match find tb s,find tb d,ev Γ x with
  | some ⟨.int _,_,_,_⟩,some ⟨.int k,_,_,_⟩,some (.v (.int _ n))=>some (.v (.int k (k.wrap n)))
  | _,_,_=>none
 | .fieldAddr t x k=>match Q3b tb t k,ev Γ x with
  | some (off,u),some a=>match find tb u with
   | some e=>if e.n=0 then none else a.addP off
   | none=>none
  | _,_=>none
 | .field t x k=>match Q3b tb t k,ev Γ x with
  | some (off,u),some (.agg cs)=>match find tb u with
   | some e=>if e.ti.agg then (if off+e.n≤cs.length then some (.agg ((cs.drop off).take e.n)) else none) else cs[off]?
   | none=>none
  | _,_=>none
 | .extract x i=>match ev Γ x with
  | some (.tup cs)=>cs[i]?
  | _=>none
 | .nilCheck x=>match ev Γ x with
  | some (.p l off)=>some (.p l off)
  | some (.rp cs)=>some (.rp cs)
  | some (.ep l n i off)=>some (.ep l n i off)
  | _=>none
 | .makeFunc f a b=>match evs Γ a.toList,evs Γ b.toList with
  | some a,some b=>some (.fn f a b)
  | _,_=>none
 | .build t parts=>match Q6X tb t,Q12 Γ parts.toList with
  | some (pl,zc),some ps=>match fillA pl (zc.map .v) ps with
   | some cs=>some (.agg cs)
   | none=>none
  | _,_=>none
 | .call ⟨.builtin .max,args,_⟩=>match evs Γ args.toList with
  | some l=>match ints l with
   | some (k,a :: r)=>some (.v (.int k (r.foldl imax a)))
   | _=>none
  | none=>none
 | .call ⟨.builtin .min,args,_⟩=>match evs Γ args.toList with
  | some l=>match ints l with
   | some (k,a :: r)=>some (.v (.int k (r.foldl imin a)))
   | _=>none
  | none=>none
 | .call ⟨.builtin .len,args,ts⟩=>match args.toList,ts.toList with
  | [x],[t]=>match find tb t,ev Γ x with
   | some ⟨.sl _,_,_,_⟩,some (.sl _ _ xs)=>some (.i xs.length)
   | some ⟨.sl _,_,_,_⟩,some (.v (.slice none n _))=>some (.i n)
   | some ⟨.sl _,_,_,_⟩,some (.o l)=>match find H l with
    | some (.val (.os _ _ xs))=>some (.i xs.length)
    | _=>none
   | some ⟨.str,_,_,_⟩,some (.v (.string s))=>some (.i s.size)
   | some ⟨.ar n _,_,_,_⟩,some _=>some (.i n)
   | _,_=>none
  | _,_=>none
 | _=>none
section
variable {P:Program} {tb:Tab} {w0 w:World} {ok:Nat->Prop} {β:List Value} {Γ:Env} {H:Heap} {a:Act}
theorem Dn.v_inv{x y:Value}(h:Dn w0 ok β (.v x) y):y=x:=by
 cases h with
 | ro h=>cases h;rfl
theorem Dn.agg_inv{cs:List AVal}{y:Value}(h:Dn w0 ok β (.agg cs) y):∃vs:Array Value,y=.agg vs∧cs.length=vs.size∧∀(j:Nat) (A:AVal),cs[j]?=some A->Dn w0 ok β A (vs.getD j undef):=by
 cases h with
 | ro h=>cases h
 | agg cs vs hl h=>exact⟨vs,rfl,hl,h⟩
theorem Dn.tup_inv{cs:List AVal}{y:Value}(h:Dn w0 ok β (.tup cs) y):∃vs:Array Value,y=.tuple vs∧cs.length=vs.size∧∀(j:Nat) (A:AVal),cs[j]?=some A->Dn w0 ok β A (vs.getD j undef):=by
 cases h with
 | ro h=>cases h
 | tup cs vs hl h=>exact⟨vs,rfl,hl,h⟩
theorem Dn.p_inv{l off:Nat}{y:Value}(h:Dn w0 ok β (.p l off) y):∃b,β[l]?=some (.pointer (some ⟨b,0,none⟩))∧y=.pointer (some ⟨b,off,none⟩):=by
 cases h with
 | ro h=>cases h
 | p l off b h=>exact⟨b,h,rfl⟩
theorem Dn.ep_inv{l n i off:Nat}{y:Value}(h:Dn w0 ok β (.ep l n i off) y):∃b o len cap,β[l]?=some (.slice (some ⟨b,o,none⟩) len cap)∧y=.pointer (some ⟨b,o+i*n+off,none⟩):=by
 cases h with
 | ro h=>cases h
 | ep l n i off b o len cap h=>exact⟨b,o,len,cap,h,rfl⟩
theorem Dn.vw_inv{l n i m:Nat}{y:Value}(h:Dn w0 ok β (.vw l n i m) y):VwOk β l n i m y:=by
 cases h with
 | ro h=>cases h
 | vw l n i m x h=>exact h
theorem Dn.o_inv{l:Nat}{y:Value}(h:Dn w0 ok β (.o l) y):β[l]?=some y:=by
 cases h with
 | ro h=>cases h
 | o l x h _=>exact h
theorem Dn.one{A:AVal}{y:Value}(h:Dn w0 ok β A y)(h1:A.one=true):y.oneCell'=true:=by
 cases h with
 | ro h=>cases h <;> first | exact h1 | rfl | cases h1
 | o l x h h2=>exact h2
 | agg=>cases h1
 | tup=>cases h1
 | vw l n i m x h=>rcases h with ⟨_,p,c,rfl⟩ | ⟨_,b,o,len,cap,_,_,rfl⟩ <;> rfl
 | _=>rfl
theorem Value.cells_one{y:Value}(h:y.oneCell'=true):y.cells=#[y]:=by
 cases y <;> first | rfl | cases h
def DnL(w0:World)(ok:Nat->Prop)(β:List Value)(cs:List AVal)(vs:Array Value):Prop:=
 cs.length=vs.size∧∀(j:Nat) (A:AVal),cs[j]?=some A->Dn w0 ok β A (vs.getD j undef)
theorem Dn.cells{A:AVal}{y:Value}(h:Dn w0 ok β A y){cs:List AVal}(hc:A.cells=some cs):DnL w0 ok β cs y.cells:=by
 have one:A.one=true->cs=[A]->DnL w0 ok β cs y.cells:=λh1 e=>by
  subst e;rw [Value.cells_one (h.one h1)];refine⟨rfl,λj B hB=>?_⟩;cases j with
  | zero=>simp at hB;subst hB;exact h
  | succ j=>simp at hB
 unfold AVal.cells at hc;split at hc
 ·rename_i cs';cases hc;obtain⟨vs,rfl,hl,hd⟩:=h.agg_inv;exact⟨hl,hd⟩
 ·rename_i vs;cases hc;have:=h.v_inv;subst this;refine⟨by simp [Value.cells],λj B hB=>?_⟩;simp only [Value.cells,gK,Option.map_eq_some_iff] at hB ⊢;obtain⟨u,hu,rfl⟩:=hB;have:vs[j]?=some u:=by simpa using hu
  simp only [gA,this];exact .ro (.v u)
 ·split at hc
  ·rename_i h1;cases hc;exact one h1 rfl
  ·cases hc
theorem Dn.sl_inv{α:Type}{n:Nat}{enc:α->List AVal}{xs:List α}{y:Value}(h:Dn w0 ok β (.sl n enc xs) y):Ro w0 ok (.sl n enc xs) y:=by
 cases h with
 | ro h=>exact h
theorem Dn.rp_inv{cells:List AVal}{y:Value}(h:Dn w0 ok β (.rp cells) y):∃(b off:Nat) (f:Nat->Value),y=.pointer (some ⟨b,off,none⟩)∧ok b ∧
  (∀(j:Nat) (A:AVal),cells[j]?=some A->w0.cell? ⟨b,off+j,none⟩=some (f j))∧(∀(j:Nat) (A:AVal),cells[j]?=some A->Ro w0 ok A (f j)):=by
 cases h with
 | ro h=>cases h with
  | rp cells b off f hb hc hr=>exact⟨b,off,f,rfl,hb,hc,hr⟩
theorem Ro.sl_len{α:Type}{n:Nat}{enc:α->List AVal}{xs:List α}{y:Value}(h:Ro w0 ok (.sl n enc xs) y):∃p cap,y=.slice p xs.length cap:=by
 cases h with
 | slNil=>exact⟨_,_,rfl⟩
 | sl=>exact⟨_,_,rfl⟩
theorem On.os_len{α:Type}{n:Nat}{enc:α->List AVal}{xs:List α}{y:Value}{F:Nat->Prop}(h:On w0 ok w (.os n enc xs) y F):∃p cap,y=.slice p xs.length cap:=by
 cases h with
 | ro F h=>cases h
 | osNil=>exact⟨_,_,rfl⟩
 | os=>exact⟨_,_,rfl⟩
theorem HOk.get:∀{H:Heap} {F:Nat->Prop},HOk w0 ok β w H F->∀{l:Nat} {R:Res},find H l=some R->∃F1,(∀b,F1 b->F b)∧Gn w0 ok β w l F1 R
 | [],_,_,_,_,h=>by simp [find] at h
 | (l,R) :: H,F,⟨F1,F2,h1,h2,_,hR,hH⟩,l',R',h=>by
  rw [find_cons] at h;split at h
  ·rename_i he;subst he;cases h;exact⟨F1,h1,hR⟩
  ·obtain⟨F3,h3,hR3⟩:=HOk.get hH h;exact⟨F3,λb hb=>h2 b (h3 b hb),hR3⟩
def Q0j(w0:World)(ok:Nat->Prop)(β:List Value)(Γ:Env)(a:Act):Prop:=∀t A,find Γ t=some A->Dn w0 ok β A (a.tmps.getD t undef)
theorem Qf(hΓ:Q0j w0 ok β Γ a){x:Operand}{A:AVal}(h:ev Γ x=some A):Dn w0 ok β A (a.eval x):=by
 cases x with
 | tmp t=>exact hΓ t A h
 | const v=>simp only [ev,gJ] at h;subst h;exact .ro (.v v)
 | func f=>simp only [ev,gJ] at h;subst h;exact .fn _ [] [] #[] #[] rfl (by simp) rfl (by simp)
 | global g=>simp [ev] at h
theorem Q7U{x:Operand}{r:List Operand}{l:List AVal}(h:evs Γ (x :: r)=some l):∃A l',ev Γ x=some A∧evs Γ r=some l'∧l=A :: l':=by
 simp only [evs] at h;split at h
 ·rename_i A l' h1 h2;cases h;exact⟨A,l',h1,h2,rfl⟩
 ·cases h
theorem Q4I:∀{xs:List Operand} {l:List AVal},evs Γ xs=some l->l.length=xs.length
 | [],l,h=>by simp only [evs,gJ] at h;subst h;rfl
 | x :: r,l,h=>by obtain⟨A,l',h1,h2,rfl⟩:=Q7U h;simp [Q4I h2]
theorem Q8P(hΓ:Q0j w0 ok β Γ a):∀{xs:List Operand} {l:List AVal},evs Γ xs=some l->∀(j:Nat) (A:AVal),l[j]?=some A->∃x,xs[j]?=some x∧Dn w0 ok β A (a.eval x)
 | [],l,h,j,A,hA=>by simp only [evs,gJ] at h;subst h;simp at hA
 | x :: r,l,h,j,A,hA=>by
  obtain⟨A',l',h1,h2,rfl⟩:=Q7U h;cases j with
  | zero=>simp at hA;subst hA;exact⟨x,rfl,Qf hΓ h1⟩
  | succ j=>obtain⟨y,hy,hd⟩:=Q8P hΓ h2 j A (by simpa using hA);exact⟨y,by simpa using hy,hd⟩
theorem ZT(hΓ:Q0j w0 ok β Γ a){xs:Array Operand}{l:List AVal}(h:evs Γ xs.toList=some l):
  l.length=(xs.map a.eval).size∧∀(j:Nat) (A:AVal),l[j]?=some A->Dn w0 ok β A ((xs.map a.eval).getD j undef):=by
 refine⟨by simpa using Q4I h,λj A hA=>?_⟩;obtain⟨x,hx,hd⟩:=Q8P hΓ h j A hA;have hx':xs[j]?=some x:=by simpa using hx
 simpa [gA,Array.getElem?_map,hx'] using hd
def Qam(P:Program)(a:Act)(o:Op)(v:Value):Prop:=∀(dst:Option Tmp) (ty:TypeId) (pos:String) (af:Array Edge) (g:Option (Nat×Bool)) (w:World),
 (execOp a.eval ⟨dst,o,ty,pos,af,g⟩).run P w=.ok (.value v) w
theorem DnL.set{cs:List AVal}{vs:Array Value}(h:DnL w0 ok β cs vs){A:AVal}{x:Value}(hA:Dn w0 ok β A x)(i:Nat):DnL w0 ok β (cs.set i A) (vs.setIfInBounds i x):=by
 obtain⟨hl,hd⟩:=h;refine⟨by simpa using hl,λj B hB=>?_⟩;rw [List.getElem?_set] at hB;split at hB
 ·rename_i e;subst e;split at hB
  ·rename_i hlt;cases hB;simp [gA,<-hl,hlt];exact hA
  ·cases hB
 ·rename_i e;have:=hd j B hB;simpa [gA,Array.getElem?_setIfInBounds_ne e] using this
theorem DnL.setCells:∀{ds cs:List AVal} {us:List Value} {vs:Array Value} (off:Nat),DnL w0 ok β cs vs->DnL w0 ok β ds us.toArray ->
  ∀k,DnL w0 ok β (Taq.setCells cs (off+k) ds) ((us.zipIdx k).foldl (λcs (c,j)=>cs.setIfInBounds (off+j) c) vs)
 | [],cs,us,vs,off,h,hd,k=>by
  have:us=[]:=by have:=hd.1;simp at this;exact List.eq_nil_of_length_eq_zero this.symm
  subst this;simpa [Taq.setCells] using h
 | A :: ds,cs,us,vs,off,h,hd,k=>by
  obtain⟨u,us,rfl⟩:∃u us',us=u :: us':=by
   cases us with
   | nil=>have:=hd.1;simp at this
   | cons u us=>exact⟨u,us,rfl⟩
  have hu:Dn w0 ok β A u:=by have:=hd.2 0 A (by simp);simpa using this
  have hd':DnL w0 ok β ds us.toArray:=⟨by have:=hd.1;simpa using this,λj B hB=>by have:=hd.2 (j+1) B (by simpa using hB);simpa using this⟩;have:=DnL.setCells off (h.set hu (off+k)) hd' (k+1);simpa [Taq.setCells,List.zipIdx_cons,Nat.add_assoc] using this
theorem Q1z{place:Nat->Option (Nat×Nat)}:∀{ps:List (Nat×AVal)} {us:List (Nat×Value)} {cs:List AVal} {vs:Array Value} {rs:List AVal},
  DnL w0 ok β cs vs->ps.length=us.length->(∀(k:Nat) (p:Nat×AVal),ps[k]?=some p->∃u,us[k]?=some (p.1,u)∧Dn w0 ok β p.2 u)->fillA place cs ps=some rs ->
  ∃zs,Instr.fill place vs us=some zs∧DnL w0 ok β rs zs
 | [],us,cs,vs,rs,h,hl,hp,hf=>by
  have:us=[]:=by simp at hl;exact List.eq_nil_of_length_eq_zero hl.symm
  subst this;simp only [fillA,gJ] at hf;subst hf;exact⟨vs,rfl,h⟩
 | (i,A) :: ps,us,cs,vs,rs,h,hl,hp,hf=>by
  obtain⟨u,hu0,hu⟩:=hp 0 (i,A) rfl;obtain⟨us,rfl⟩:∃us',us=(i,u) :: us':=by
   cases us with
   | nil=>simp at hu0
   | cons x us=>simp at hu0;subst hu0;exact⟨us,rfl⟩
  simp only [fillA] at hf;split at hf
  ·cases hf
  ·rename_i off size hpl;split at hf
   ·rename_i vc hvc;split at hf
    ·cases hf
    ·rename_i hcond;have hcells:=hu.cells hvc;have hc1:u.cells.size=size:=by simp at hcond;rw [<-hcells.1];exact hcond.1
     have hc2:¬off+u.cells.size>vs.size:=by simp at hcond;rw [<-hcells.1,<-h.1];omega
     have hset:=DnL.setCells (ds:=vc) (us:=u.cells.toList) off h (by simpa using hcells) 0;have:=Q1z (place:=place) (us:=us) hset (by simpa using hl) (λk p hk=>by
      obtain⟨u',h1,h2⟩:=hp (k+1) p (by simpa using hk);exact⟨u',by simpa using h1,h2⟩) hf
     obtain⟨zs,hz,hzs⟩:=this;refine⟨zs,?_,hzs⟩;unfold Instr.fill;simp only [hpl];rw [gC (by simp [hc1];omega)];rw [<-hz];congr 1;rw [<-Array.foldl_toList];simp
   ·cases hf
theorem Q85{op:BinOp}{t t':TypeId}{x y:Operand}{A B C:AVal}(hA:Dn w0 ok β A (a.eval x))(hB:Dn w0 ok β B (a.eval y))(h:binA op A B=some C):
  ∃v,Dn w0 ok β C v∧Qam P a (.binOp op t x y t') v:=by
 unfold binA at h;split at h
 all_goals first
  | (cases h;done)
  | (have e1:=hA.v_inv;have e2:=hB.v_inv
     first
     | (split at h
        ·rename_i hk;subst hk;cases h;refine⟨_,.ro (.v _),λ_ _ _ _ _ w=>?_⟩;simp [execOp,e1,e2,eqGuard,binOp,Op.intArith,Op.intBits,Op.intCmp,band,bor,bxor,Qcm]
        ·cases h)
     | (cases h
        refine⟨_,.ro (.v _),λ_ _ _ _ _ w=>?_⟩;simp [execOp,e1,e2,eqGuard,binOp,Op.stringOp,seq]))
theorem Q4g{t:TypeId}(ht:P.underlying t=some .bool)(p q:Bool)(w:World):(Op.equal t (.bool p) (.bool q)).run P w=.ok (p == q) w:=by
 have:∀d,(Op.equalIn (d+1) t (.bool p) (.bool q)).run P w=.ok (p == q) w:=λd=>by
  unfold Op.equalIn;simp [run_underlying ht]
 exact this 9999
theorem Q8i{op:BinOp}{t t':TypeId}{x y:Operand}{A B C:AVal}(ht:P.underlying t=some .bool)(hA:Dn w0 ok β A (a.eval x))(hB:Dn w0 ok β B (a.eval y))(h:binB op A B=some C):
  ∃v,Dn w0 ok β C v∧Qam P a (.binOp op t x y t') v:=by
 unfold binB at h;split at h
 all_goals first
  | (cases h;done)
  | (have e1:=hA.v_inv;have e2:=hB.v_inv
     cases h;refine⟨_,.ro (.v _),λ_ _ _ _ _ w=>?_⟩;simp [execOp,e1,e2,eqGuard,binOp,Q4g ht])
theorem Q9r{op:UnOp}{t:TypeId}{x:Operand}{A C:AVal}(hA:Dn w0 ok β A (a.eval x))(h:unA op A=some C):
  ∃v,Dn w0 ok β C v∧Qam P a (.unOp op t x) v:=by
 unfold unA at h;split at h
 all_goals first
  | (cases h;done)
  | (have e1:=hA.v_inv
     cases h;refine⟨_,.ro (.v _),λ_ _ _ _ _ w=>?_⟩;simp [execOp,e1,Op.unary,Op.intArith])
theorem TabOk.und(htb:TabOk P tb){t:Nat}{e:TE}(h:find tb t=some e):∃d,P.underlying t=some d∧e.ti.fits d:=(htb.h t e h).1
theorem TabOk.size(htb:TabOk P tb){t:Nat}{e:TE}(h:find tb t=some e)(w:World):(sizeOf t).run P w=.ok e.n w:=by
 obtain⟨_,i,z,hi,hn,_⟩:=htb.h t e h;simp [sizeOf,typeInfo,hi,hn]
theorem TabOk.isAgg(htb:TabOk P tb){t:Nat}{e:TE}(h:find tb t=some e)(w:World):(isAgg t).run P w=.ok e.ti.agg w:=by
 obtain⟨⟨d,hd,hf⟩,_⟩:=htb.h t e h;obtain⟨ti,n,by_,zc⟩:=e;cases ti <;> simp only [TI.fits] at hf <;> simp [Go.isAgg,run_underlying hd,TI.agg]
 all_goals first
  | (subst hf;simp;done)
  | (obtain⟨_,_,_,rfl⟩:=hf;simp;done)
  | (obtain⟨_,rfl,_⟩:=hf;simp;done)
theorem TabOk.zero(htb:TabOk P tb){t:Nat}{e:TE}(h:find tb t=some e):∃z,(∀w,(zeroValue t).run P w=.ok z w)∧z.cells.toList=e.zc∧(e.ti.agg=true->∃cs,z=.agg cs)∧e.zc.length=e.n∧(∀x∈e.zc,x.oneCell'=true):=by
 obtain⟨_,i,z,hi,hn,_,hz,hc,ha,hl,ho⟩:=htb.h t e h;exact⟨z,λw=>by simp [zeroValue,typeInfo,hi,hz],hc,ha,hl,ho⟩
theorem Xl(b off k:Nat):(⟨b,off,none⟩:Addr).add k=⟨b,off+k,none⟩:=by
 unfold Addr.add;split
 ·rename_i h;subst h;rfl
 ·rfl
theorem AVal.addP_sound{A C:AVal}{y:Value}{k:Nat}(hA:Dn w0 ok β A y)(h:A.addP k=some C):∃b off,y=.pointer (some ⟨b,off,none⟩)∧Dn w0 ok β C (.pointer (some ⟨b,off+k,none⟩)):=by
 unfold AVal.addP at h;split at h
 ·cases h;obtain⟨b,hb,rfl⟩:=hA.p_inv;exact⟨b,_,rfl,.p _ _ b hb⟩
 ·cases h;obtain⟨b,o,len,cap,hb,rfl⟩:=hA.ep_inv;refine⟨b,_,rfl,?_⟩;rw [Nat.add_assoc];exact .ep _ _ _ _ b o len cap hb
 ·cases h;rename_i cells _;obtain⟨b,off,f,rfl,hok,hc,hr⟩:=hA.rp_inv;refine⟨b,off,rfl,.ro (.rp _ b (off+k) (λj=>f (k+j)) hok (λj A hA=>?_) (λj A hA=>?_))⟩
  ·rw [List.getElem?_drop] at hA;rw [Nat.add_assoc];exact hc _ A hA
  ·rw [List.getElem?_drop] at hA;exact hr _ A hA
 ·cases h
theorem Q2i:∀{l:List AVal} {k:IntKind} {ns:List Int} {us:List Value},ints l=some (k,ns)->DnL w0 ok β l us.toArray->us=ns.map (.int k)
 | [],_,_,_,h,_=>by simp [ints] at h
 | [.v (.int k' a)],k,ns,us,h,hd=>by
  simp only [ints,gJ,Prod.mk.injEq] at h;obtain⟨rfl,rfl⟩:=h;obtain⟨u,rfl⟩:∃u,us=[u]:=by
   have:=hd.1;simp at this
   match us,this with
   | [u],_=>exact⟨u,rfl⟩
  have:=(hd.2 0 _ rfl).v_inv;simp at this;simp [this]
 | .v (.int k' a) :: B :: r,k,ns,us,h,hd=>by
  rw [ints] at h
  ·split at h
   ·rename_i k'' l' h2;split at h
    ·rename_i e;subst e;simp only [gJ,Prod.mk.injEq] at h;obtain⟨rfl,rfl⟩:=h;obtain⟨u,us,rfl⟩:∃u us',us=u :: us':=by
      cases us with
      | nil=>have:=hd.1;simp at this
      | cons u us=>exact⟨u,us,rfl⟩
     have h1:=(hd.2 0 _ rfl).v_inv;have hd':DnL w0 ok β (B :: r) us.toArray:=⟨by have:=hd.1;simpa using this,λj C hC=>by have:=hd.2 (j+1) C (by simpa using hC);simpa using this⟩;have:=Q2i h2 hd';simp at h1;simp [h1,this]
    ·cases h
   ·cases h
  ·simp
 | .v (.bool _) :: _,_,_,_,h,_=>by simp [ints] at h
 | .v (.float _ _) :: _,_,_,_,h,_=>by simp [ints] at h
 | .v (.complex _ _ _) :: _,_,_,_,h,_=>by simp [ints] at h
 | .v (.string _) :: _,_,_,_,h,_=>by simp [ints] at h
 | .v (.pointer _) :: _,_,_,_,h,_=>by simp [ints] at h
 | .v (.slice _ _ _) :: _,_,_,_,h,_=>by simp [ints] at h
 | .v (.map _) :: _,_,_,_,h,_=>by simp [ints] at h
 | .v (.chan _) :: _,_,_,_,h,_=>by simp [ints] at h
 | .v (.func _ _ _) :: _,_,_,_,h,_=>by simp [ints] at h
 | .v .nilFunc :: _,_,_,_,h,_=>by simp [ints] at h
 | .v (.iface _ _) :: _,_,_,_,h,_=>by simp [ints] at h
 | .v .nilIface :: _,_,_,_,h,_=>by simp [ints] at h
 | .v (.agg _) :: _,_,_,_,h,_=>by simp [ints] at h
 | .v (.tuple _) :: _,_,_,_,h,_=>by simp [ints] at h
 | .p _ _ :: _,_,_,_,h,_=>by simp [ints] at h
 | .rp _ :: _,_,_,_,h,_=>by simp [ints] at h
 | .sl _ _ _ :: _,_,_,_,h,_=>by simp [ints] at h
 | .os _ _ _ :: _,_,_,_,h,_=>by simp [ints] at h
 | .o _ :: _,_,_,_,h,_=>by simp [ints] at h
 | .ep _ _ _ _ :: _,_,_,_,h,_=>by simp [ints] at h
 | .vw _ _ _ _ :: _,_,_,_,h,_=>by simp [ints] at h
 | .agg _ :: _,_,_,_,h,_=>by simp [ints] at h
 | .tup _ :: _,_,_,_,h,_=>by simp [ints] at h
 | .fn _ _ _ :: _,_,_,_,h,_=>by simp [ints] at h
theorem QaY(k:IntKind)(w:World)(t:TypeId)(ts:Array TypeId)(x:Int)(r:List Int):(Builtin.max_ ts t ((x :: r).map (Value.int k)).toArray).run P w=.ok (.int k (r.foldl imax x)) w:=by
 simp only [Builtin.max_];simp only [List.map_cons];induction r generalizing x with
 | nil=>simp
 | cons y r ih=>simp only [List.map_cons,List.foldlM_cons,List.foldl_cons,Sem.run_bind];simp only [Builtin.max2,Sem.run_pure,Result.andThen_ok];exact ih (imax x y)
theorem QbD(k:IntKind)(w:World)(t:TypeId)(ts:Array TypeId)(x:Int)(r:List Int):(Builtin.min_ ts t ((x :: r).map (Value.int k)).toArray).run P w=.ok (.int k (r.foldl imin x)) w:=by
 simp only [Builtin.min_];simp only [List.map_cons];induction r generalizing x with
 | nil=>simp
 | cons y r ih=>simp only [List.map_cons,List.foldlM_cons,List.foldl_cons,Sem.run_bind];simp only [Builtin.min2,Sem.run_pure,Result.andThen_ok];exact ih (imin x y)
theorem Q0b(hΓ:Q0j w0 ok β Γ a):∀{xs:List (Nat×Operand)} {ps:List (Nat×AVal)},Q12 Γ xs=some ps ->
  ps.length=xs.length∧∀(k:Nat) (p:Nat×AVal),ps[k]?=some p->∃u,(xs.map λ(i,x)=>(i,a.eval x))[k]?=some (p.1,u)∧Dn w0 ok β p.2 u
 | [],ps,h=>by simp only [Q12,gJ] at h;subst h;simp
 | (i,x) :: r,ps,h=>by
  simp only [Q12] at h;split at h
  ·rename_i A l h1 h2;cases h;obtain⟨e1,e2⟩:=Q0b hΓ h2;refine⟨by simp [e1],λk p hk=>?_⟩;cases k with
   | zero=>simp at hk;subst hk;exact⟨_,rfl,Qf hΓ h1⟩
   | succ k=>obtain⟨u,h3,h4⟩:=e2 k p (by simpa using hk);exact⟨u,by simpa using h3,h4⟩
  ·cases h
theorem Q1R{α γ:Type}(g:α->Sem γ)(f:α->γ)(w:World):∀(l:List α),(∀x∈l,(g x).run P w=.ok (f x) w)->(l.mapM g).run P w=.ok (l.map f) w
 | [],_=>by simp
 | x :: l,h=>by
  simp only [List.mapM_cons,Sem.run_bind,h x (by simp),Result.andThen_ok,Q1R g f w l (λy hy=>h y (by simp [hy])),Sem.run_pure,List.map_cons]
theorem Q4e{α γ:Type}(g:α->Sem γ)(f:α->γ)(w:World)(l:Array α)(h:∀x∈l.toList,(g x).run P w=.ok (f x) w):(l.mapM g).run P w=.ok (l.map f) w:=by
 rw [Array.mapM_eq_mapM_toList,Sem.run_map,Q1R g f w l.toList h,Result.andThen_ok];congr 1;apply Array.ext';simp
theorem zc_dn(zc:List Value):DnL w0 ok β (zc.map AVal.v) zc.toArray:=by
 refine⟨by simp,λj A hA=>?_⟩;simp only [gK,Option.map_eq_some_iff] at hA;obtain⟨u,hu,rfl⟩:=hA;simp [gA,hu];exact .ro (.v u)
theorem Q5x(htb:TabOk P tb){t:Nat}{pl:Nat->Option (Nat×Nat)}{zc:List Value}(h:Q6X tb t=some (pl,zc)){us:List (Nat×Value)}{zs:Array Value}
  (hf:Instr.fill pl zc.toArray us=some zs) (w:World):(Instr.build t us.toArray).run P w=.ok (.agg zs) w:=by
 unfold Q6X at h;split at h
 ·rename_i fs n by_ zc' hfind;obtain⟨d,hd,f,rfl,hfs⟩:=htb.und hfind;obtain⟨z,hz,hzc,_⟩:=htb.zero hfind;split at h
  ·rename_i hall;simp only [gJ,Prod.mk.injEq] at h;obtain⟨rfl,rfl⟩:=h;simp only at hzc;have hz':z.cells=zc'.toArray:=by rw [<-hzc]
   simp only [Instr.build,Sem.run_bind,hz,run_underlying hd,Result.andThen_ok,hz'];have hm:(f.mapM λf=>do pure (f.offset,<-sizeOf f.type):Sem (Array (Nat×Nat))).run P w=.ok (f.map λf=>(f.offset,((find tb f.type).map (·.n)).getD 0)) w:=by
    refine Q4e _ _ w f λx hx=>?_
    have hmem:(x.offset,x.type)∈fs:=by rw [<-hfs];exact List.mem_map.2 ⟨x,hx,rfl⟩
    have:=gT.1 hall _ hmem;simp only at this;cases hx2:find tb x.type with
    | none=>simp [hx2] at this
    | some e=>simp [htb.size hx2]
   rw [hm];simp only [Result.andThen_ok];have hpl:(λi=>(f.map λf=>(f.offset,((find tb f.type).map (·.n)).getD 0))[i]?)=Q7i tb fs:=by
    funext i;unfold Q7i;rw [<-hfs];simp only [Array.getElem?_map,gK,Array.getElem?_toList];cases hfi:f[i]? with
    | none=>simp
    | some x=>
     simp only [Option.map_some];have hmem:(x.offset,x.type)∈fs:=by rw [<-hfs];exact List.mem_map.2 ⟨x,by simpa using Array.mem_of_getElem? hfi,rfl⟩
     have:=gT.1 hall _ hmem;simp only at this;cases hx2:find tb x.type with
     | none=>simp [hx2] at this
     | some e=>simp
   rw [hpl,hf];simp
  ·cases h
 ·rename_i l u n by_ zc' hfind;obtain⟨d,hd,rfl⟩:=htb.und hfind;obtain⟨z,hz,hzc,_⟩:=htb.zero hfind;split at h
  ·rename_i e he;simp only [gJ,Prod.mk.injEq] at h;obtain⟨rfl,rfl⟩:=h;simp only at hzc;have hz':z.cells=zc'.toArray:=by rw [<-hzc]
   simp [Instr.build,hz,run_underlying hd,hz',htb.size he,hf]
  ·cases h
 ·cases h
theorem Q6S(htb:TabOk P tb){F:Nat->Prop}(hΓ:Q0j w0 ok β Γ a)(hH:HOk w0 ok β w H F){o:Op}{A:AVal}(h:ZD tb Γ H o=some A):
  ∃v,Dn w0 ok β A v∧Qam P a o v:=by
 cases o with
 | move x=>exact⟨_,Qf hΓ h,λ_ _ _ _ _ w=>by simp [execOp]⟩
 | assign x=>exact⟨_,Qf hΓ h,λ_ _ _ _ _ w=>by simp [execOp]⟩
 | binOp op t x y yt=>
  simp only [ZD] at h;split at h
  ·rename_i A B hA hB;split at h
   ·rename_i hf;exact Q8i (by obtain⟨d,hd,hfit⟩:=htb.und hf;cases hfit;exact hd) (Qf hΓ hA) (Qf hΓ hB) h
   ·exact Q85 (Qf hΓ hA) (Qf hΓ hB) h
  ·cases h
 | unOp op t x=>
  simp only [ZD] at h;split at h
  ·rename_i A hA;exact Q9r (Qf hΓ hA) h
  ·cases h
 | convert s d x=>
  simp only [ZD] at h;split at h
  ·rename_i k1 n1 b1 z1 k2 n2 b2 z2 k n h1 h2 h3;cases h;have e3:=(Qf hΓ h3).v_inv;obtain⟨d1,hd1,f1⟩:=htb.und h1;obtain⟨d2,hd2,f2⟩:=htb.und h2;cases f1;cases f2;exact⟨_,.ro (.v _),λ_ _ _ _ _ w=>by simp [execOp,convert,run_underlying hd1,run_underlying hd2,e3,Conv.intToInt]⟩
  ·cases h
 | fieldAddr t x k=>
  simp only [ZD] at h;split at h
  ·rename_i off u A hfo hA;split at h
   ·rename_i e he;split at h
    ·cases h
    ·rename_i hn;obtain⟨b,o,hx,hd⟩:=AVal.addP_sound (Qf hΓ hA) h;unfold Q3b at hfo;split at hfo
     ·rename_i fs n by_ zc hfind;obtain⟨d,hd',f,rfl,hfs⟩:=htb.und hfind;refine⟨_,hd,λ_ _ _ _ _ w=>?_⟩;rw [<-hfs] at hfo;simp only [gK,Option.map_eq_some_iff,Array.getElem?_toList,Prod.mk.injEq] at hfo;obtain⟨g,hg,rfl,rfl⟩:=hfo;simp [execOp,Instr.fieldAt,run_underlying hd',hg,hx,Instr.sureAddr,fieldPlace,htb.size he,hn,Xl]
     ·cases hfo
   ·cases h
  ·cases h
 | field t x k=>
  simp only [ZD] at h;split at h
  ·rename_i off u cs hfo hA;obtain⟨vs,hx,hl,hd⟩:=(Qf hΓ hA).agg_inv;unfold Q3b at hfo;split at hfo
   ·rename_i fs n by_ zc hfind;obtain⟨d,hd',f,rfl,hfs⟩:=htb.und hfind;rw [<-hfs] at hfo;simp only [gK,Option.map_eq_some_iff,Array.getElem?_toList,Prod.mk.injEq] at hfo;obtain⟨g,hg,rfl,rfl⟩:=hfo;split at h
    ·rename_i e he;split at h
     ·rename_i hagg;split at h
      ·rename_i hle;cases h;refine⟨.agg (vs.extract g.offset (g.offset+e.n)),.agg _ _ (by simp;omega) (λj A hA=>?_),λ_ _ _ _ _ w=>?_⟩
       ·have hj:j<e.n:=by
         rcases gH j e.n with h | h
         ·exact h
         ·simp [List.getElem?_take,Nat.not_lt.2 h] at hA
        rw [List.getElem?_take,gF hj,List.getElem?_drop] at hA;have:=hd _ _ hA;have e1:(vs.extract g.offset (g.offset+e.n))[j]?=vs[g.offset+j]?:=by
         rw [Array.getElem?_extract];rw [gF (by omega)]
        simpa [gA,e1] using this
       ·simp [execOp,Instr.field,run_underlying hd',hg,hx,asAgg,part,htb.isAgg he,hagg,htb.size he]
      ·cases h
     ·rename_i hagg;have hx':=hd _ _ h;have hlt:=(gS.1 h).1;rw [hl] at hlt;refine⟨_,hx',λ_ _ _ _ _ w=>?_⟩;simp [execOp,Instr.field,run_underlying hd',hg,hx,asAgg,part,htb.isAgg he,hagg,Array.getElem?_eq_getElem hlt,gA]
    ·cases h
   ·cases hfo
  ·cases h
 | extract x i=>
  simp only [ZD] at h;split at h
  ·rename_i cs hcs;obtain⟨vs,hv,hl,hd⟩:=(Qf hΓ hcs).tup_inv;have hx:=hd _ _ h;have hlt:=(gS.1 h).1;refine⟨_,hx,λ_ _ _ _ _ w=>?_⟩;rw [hl] at hlt;simp [execOp,Instr.extract,hv,Array.getElem?_eq_getElem hlt,gA]
  ·cases h
 | nilCheck x=>
  simp only [ZD] at h;split at h
  ·rename_i l off hx;cases h;have:=Qf hΓ hx;obtain⟨b,hb,e⟩:=this.p_inv;exact⟨_,this,λ_ _ _ _ _ w=>by simp [execOp,e]⟩
  ·rename_i cs hx;cases h;have:=Qf hΓ hx;obtain⟨b,off,f,e,_⟩:=this.rp_inv;exact⟨_,this,λ_ _ _ _ _ w=>by simp [execOp,e]⟩
  ·rename_i l n i off hx;cases h;have:=Qf hΓ hx;obtain⟨b,o,len,cap,hb,e⟩:=this.ep_inv;exact⟨_,this,λ_ _ _ _ _ w=>by simp [execOp,e]⟩
  ·cases h
 | makeFunc f fa ca=>
  simp only [ZD] at h;split at h
  ·rename_i A B hA hB;cases h;obtain⟨l1,d1⟩:=ZT hΓ hA;obtain⟨l2,d2⟩:=ZT hΓ hB;exact⟨_,.fn f A B (fa.map a.eval) (ca.map a.eval) l1 d1 l2 d2,λ_ _ _ _ _ w=>by simp [execOp,Instr.makeFunc]⟩
  ·cases h
 | build t parts=>
  simp only [ZD] at h;split at h
  ·rename_i pl zc ps hpl hps;split at h
   ·rename_i cs hcs;cases h;obtain⟨e1,e2⟩:=Q0b hΓ hps;obtain⟨zs,hz,hd⟩:=Q1z (place:=pl) (us:=(parts.toList.map λ(i,x)=>(i,a.eval x))) (zc_dn zc) (by simpa using e1) e2 hcs;refine⟨.agg zs,.agg cs zs hd.1 hd.2,λ_ _ _ _ _ w=>?_⟩;have:=Q5x htb hpl hz w;have hp:(parts.toList.map λ(i,x)=>(i,a.eval x)).toArray=parts.map (λx=>(x.fst,a.eval x.snd)):=by apply Array.toList_inj.1;simp
    rw [hp] at this;simp only [execOp,Sem.run_bind,this];simp
   ·cases h
  ·cases h
 | call c=>
  obtain⟨callee,args,ts⟩:=c;cases callee with
  | builtin bi=>
   cases bi with
   | max=>
    simp only [ZD] at h;split at h
    ·rename_i l hl;split at h
     ·rename_i k x r hi;cases h;obtain⟨l1,d1⟩:=ZT hΓ hl;refine⟨_,.ro (.v _),λ_ _ _ _ _ w=>?_⟩;have e:=Q2i (us:=(args.map a.eval).toList) hi ⟨by simpa using l1,by simpa using d1⟩;have e':args.map a.eval=((x :: r).map (Value.int k)).toArray:=by rw [<-e]
      simp only [execOp,resolve,Sem.run_bind,Sem.run_pure,Result.andThen_ok,invoke,builtin,e',QaY]
     ·cases h
    ·cases h
   | min=>
    simp only [ZD] at h;split at h
    ·rename_i l hl;split at h
     ·rename_i k x r hi;cases h;obtain⟨l1,d1⟩:=ZT hΓ hl;refine⟨_,.ro (.v _),λ_ _ _ _ _ w=>?_⟩;have e:=Q2i (us:=(args.map a.eval).toList) hi ⟨by simpa using l1,by simpa using d1⟩;have e':args.map a.eval=((x :: r).map (Value.int k)).toArray:=by rw [<-e]
      simp only [execOp,resolve,Sem.run_bind,Sem.run_pure,Result.andThen_ok,invoke,builtin,e',QbD]
     ·cases h
    ·cases h
   | len=>
    simp only [ZD] at h;split at h
    ·rename_i x t hargs hts;have ea:args=#[x]:=by rw [<-Array.toList_inj];exact hargs
     have et:ts=#[t]:=by rw [<-Array.toList_inj];exact hts
     subst ea;subst et;split at h
     ·rename_i hf hx;cases h;obtain⟨p,cap,e⟩:=(Qf hΓ hx).sl_inv.sl_len;obtain⟨d,hd,rfl⟩:=htb.und hf;exact⟨_,.ro (.v _),λ_ _ _ _ _ w=>by simp [execOp,resolve,invoke,builtin,Builtin.len_,run_underlying hd,e,goInt]⟩
     ·rename_i hf hx;cases h;have e:=(Qf hΓ hx).v_inv;obtain⟨d,hd,rfl⟩:=htb.und hf;exact⟨_,.ro (.v _),λ_ _ _ _ _ w=>by simp [execOp,resolve,invoke,builtin,Builtin.len_,run_underlying hd,e,goInt]⟩
     ·rename_i l hf hx;split at h
      ·rename_i hl;cases h;obtain⟨F1,_,y,hy,ho⟩:=hH.get hl;obtain⟨p,cap,rfl⟩:=ho.os_len;have e:=(Qf hΓ hx).o_inv;rw [hy,gJ] at e;obtain⟨d,hd,rfl⟩:=htb.und hf;exact⟨_,.ro (.v _),λ_ _ _ _ _ w=>by simp [execOp,resolve,invoke,builtin,Builtin.len_,run_underlying hd,<-e,goInt]⟩
      ·cases h
     ·rename_i hf hx;cases h;have e:=(Qf hΓ hx).v_inv;obtain⟨d,hd,rfl⟩:=htb.und hf;exact⟨_,.ro (.v _),λ_ _ _ _ _ w=>by simp [execOp,resolve,invoke,builtin,Builtin.len_,run_underlying hd,e,goInt]⟩
     ·rename_i hf hx;cases h;obtain⟨d,hd,rfl⟩:=htb.und hf;exact⟨_,.ro (.v _),λ_ _ _ _ _ w=>by simp [execOp,resolve,invoke,builtin,Builtin.len_,run_underlying hd,goInt]⟩
     ·cases h
    ·cases h
   | _=>simp [ZD] at h
  | _=>simp [ZD] at h
 | _=>simp [ZD] at h
end
def hdr:Value->Option Nat
 | .pointer (some a)=>some a.block
 | .slice (some a) _ (_+1)=>some a.block
 | .map (some r)=>some r
 | _=>none
def Mod(β:List Value)(ms:List Nat)(b:Nat):Prop:=∃l,l∈ms∧∃x,β[l]?=some x∧hdr x=some b
section
variable {P:Program} {B:Base} {tb:Tab} {Γ Γ':Env} {H H':Heap} {nl nl':Nat} {ι:Type 1} {S:ι->Prop} {Γs:ι->Env} {Hs:ι->Heap} {nls:ι->Nat}
def RdC(B:Base)(β:List Value)(w w':World):Option (List Nat)->Prop
 | none=>True
 | some rl=>(∀b,B.ok b->w'.heap[b]?=w.heap[b]?)∧∀b,Mod β rl b->w'.heap[b]?=w.heap[b]?
theorem RdC.refl(B:Base)(β:List Value)(w:World)(rl:Option (List Nat)):RdC B β w w rl:=by
 cases rl with
 | none=>trivial
 | some rl=>exact⟨λ_ _=>rfl,λ_ _=>rfl⟩
def Rd(P:Program)(B:Base)(Γ:Env)(H:Heap)(nl:Nat)(o:Oper)(A:AVal)(rl:Option (List Nat)):Prop:=
 ∀B':Base,B'.n=B.n->∀β F a w,β.length=nl->XA B' β F Γ H a w->∃v,Dn B'.w0 B'.ok β A v ∧
  ∀w',RdC B' β w w' rl->(execOp a.eval o).run P w'=.ok (.value v) w'
inductive EM where
 | fx (ms:List Nat) (gr:Bool)
 | any
def EffD(nl:Nat)(B B':Base)(β β':List Value)(w w':World):EM->Prop
 | .fx ms gr=>(∀(l:Nat) (x:Value) (b:Nat),nl≤l->β'[l]?=some x->hdr x=some b->w.heap.size≤b∨Mod β ms b)∧Kp w (Mod β ms) w'∧(gr=false->∀b,B'.ok b->B.ok b)
 | .any=>True
def Eff{ι:Type 1}(P:Program)(B:Base)(Γ:Env)(H:Heap)(nl:Nat)(o:Oper)(S:ι->Prop)(Γ':ι->Env)(H':ι->Heap)(nl':ι->Nat)(m:EM):Prop:=
 ∀B':Base,B'.n=B.n->∀β F a w,β.length=nl->XA B' β F Γ H a w->∀(next:Act->World->Prop) (Q:Exit->Act->World->Prop),
  (∀s,S s->∀a' w' β' F' B'',B'.Ext B''->β'.length=nl' s->(∀(l:Nat) (x:Value),β[l]?=some x->β'[l]?=some x)->EffD nl B' B'' β β' w w' m ->
   XA B'' β' F' (Γ' s) (H' s) a' w'->next a' w')->o.wp P a w next Q
abbrev Eff1(P:Program)(B:Base)(Γ:Env)(H:Heap)(nl:Nat)(o:Oper)(Γ':Env)(H':Heap)(nl':Nat)(m:EM):Prop:=
 Eff (ι:=PUnit) P B Γ H nl o (λ_=>True) (λ_=>Γ') (λ_=>H') (λ_=>nl') m
theorem XA.put{β:List Value}{F:Nat->Prop}{a:Act}{w:World}(h:XA B β F Γ H a w){d:Nat}{A:AVal}{v:Value}(hd:d.blt B.n=true)(hA:Dn B.w0 B.ok β A v):
  XA B β F ((d,A) :: Γ) H (a.put (some d) v) w:=by
 refine⟨h.kp,h.ok,h.own,h.heap,λt C hC=>?_,by simpa [Act.put] using h.size,h.defers,h.pre⟩;have hlt:d<a.tmps.size:=by rw [h.size];exact Nat.le_of_ble_eq_true hd
 rw [find_cons] at hC;simp only [Act.put,gA];split at hC
 ·rename_i e;subst e;cases hC;simp [hlt];exact hA
 ·rename_i e;rw [Array.getElem?_setIfInBounds_ne e];simpa [gA] using h.env t C hC
theorem Q3N{B B':Base}(h:B.Ext B'){d:Nat}(hlt:d.blt B.n=true):d.blt B'.n=true:=by rw [h.n];exact hlt
theorem XA.put'{β:List Value}{F:Nat->Prop}{a:Act}{w:World}(h:XA B β F Γ H a w){d:Option Nat}(v:Value)(hd:d=none):
  XA B β F Γ H (a.put d v) w:=by subst hd;exact h
def Q0g(ops:Array Oper)(j:Nat):Option Nat:=(ops[j]?).bind (·.dst)
inductive G5 (ops:Array Oper) (Γ:Env) (o:Oper):Bool->Prop where
 | none (h:o.guard=Option.none):G5 ops Γ o true
 | some (j:Nat) (want:Bool) (t:Nat) (b:Bool) (h:o.guard=Option.some (j,want)) (ht:Q0g ops j=Option.some t) (hb:find Γ t=Option.some (.v (.bool b))):G5 ops Γ o (b == want)
 | und (j:Nat) (want:Bool) (t:Nat) (h:o.guard=Option.some (j,want)) (ht:Q0g ops j=Option.some t) (hb:find Γ t=Option.some (.v undef)):G5 ops Γ o false
theorem G5.wanted{ops:Array Oper}{o:Oper}{c:Bool}(h:G5 ops Γ o c){β:List Value}{F:Nat->Prop}{a:Act}{w:World}(hf:XA B β F Γ H a w):
  Region.wanted o (yielded ops a.tmps)=c:=by
 cases h with
 | none h=>simp [Region.wanted,h]
 | some j want t b h ht hb=>
  have e:=(hf.env t _ hb).v_inv;have hs:a.tmps[t]?=Option.some (.bool b):=by
   rw [gA] at e;cases hx:a.tmps[t]? with
   | none=>simp [hx,undef] at e
   | some y=>simp [hx] at e;simp [e]
  have hy:yielded ops a.tmps j=Option.some b:=by
   unfold yielded;unfold Q0g at ht;simp [ht,hs]
  simp only [Region.wanted,h,hy];cases b <;> cases want <;> rfl
 | und j want t h ht hb=>
  have e:=(hf.env t _ hb).v_inv;have hy:yielded ops a.tmps j=Option.none:=by
   unfold yielded;unfold Q0g at ht;rw [ht];simp only [Option.bind_some];rw [gA] at e;cases hx:a.tmps[t]? with
   | none=>rfl
   | some y=>simp [hx] at e;subst e;rfl
  simp [Region.wanted,h,hy]
theorem G5.take{ops:Array Oper}{o:Oper}(j:Nat)(want:Bool)(t:Nat)(b:Bool)(hb':b=want)(h:o.guard=Option.some (j,want))(ht:Q0g ops j=Option.some t)(hb:find Γ t=Option.some (.v (.bool b))):G5 ops Γ o true:=by
 have:=G5.some (o:=o) j want t b h ht hb;rw [hb'] at this;simpa using this
theorem G5.skip{ops:Array Oper}{o:Oper}(j:Nat)(want:Bool)(t:Nat)(b:Bool)(hb':b=!want)(h:o.guard=Option.some (j,want))(ht:Q0g ops j=Option.some t)(hb:find Γ t=Option.some (.v (.bool b))):G5 ops Γ o false:=by
 have:=G5.some (o:=o) j want t b h ht hb;rw [hb'] at this;cases want <;> simpa using this
section
variable {ops:Array Oper} {Q:Exit->Act->World->Prop} {i:Nat} {rest:List Nat} {o:Oper}
theorem U.rd{A:AVal}{rl:Option (List Nat)}{d:Nat}(h:Rd P B Γ H nl o A rl)(ho:ops[i]?=some o)(hw:G5 ops Γ o true)(hd:o.dst=some d)(hlt:d.blt B.n=true)
  (k:St B ((d,A) :: Γ) H nl (wpOps P ops Q rest)):St B Γ H nl (wpOps P ops Q (i :: rest)):=by
 rintro a w ⟨B',β,F,hx,hβ,hf⟩;obtain⟨v,hv,hr⟩:=h B' hx.n β F a w hβ hf;rw [wpOps_cons];unfold wpOp;simp only [ho,hw.wanted hf,if_true];refine .inl ?_;simp only [Oper.wp,hr w (.refl _ _ _ _),Oper.upon];rw [hd];exact k _ _ ⟨B',β,F,hx,hβ,hf.put (Q3N hx hlt) hv⟩
theorem U.eff{m:EM}(h:Eff P B Γ H nl o S Γs Hs nls m)(ho:ops[i]?=some o)(hw:G5 ops Γ o true)
  (k:∀s,S s->St B (Γs s) (Hs s) (nls s) (wpOps P ops Q rest)):St B Γ H nl (wpOps P ops Q (i :: rest)):=by
 rintro a w ⟨B',β,F,hx,hβ,hf⟩;rw [wpOps_cons];unfold wpOp;simp only [ho,hw.wanted hf,if_true];exact .inl (h B' hx.n β F a w hβ hf _ _ λs hs a' w' β' F' B'' hx' hβ' _ _ hf'=>k s hs a' w' ⟨B'',β',F',hx.trans hx',hβ',hf'⟩)
theorem U.eff1{m:EM}(h:Eff1 P B Γ H nl o Γ' H' nl' m)(ho:ops[i]?=some o)(hw:G5 ops Γ o true)
  (k:St B Γ' H' nl' (wpOps P ops Q rest)):St B Γ H nl (wpOps P ops Q (i :: rest)):=U.eff h ho hw λ_ _=>k
theorem U.skip{d:Nat}(ho:ops[i]?=some o)(hw:G5 ops Γ o false)(hd:o.dst=some d)(hlt:d.blt B.n=true)
  (k:St B ((d,.v undef) :: Γ) H nl (wpOps P ops Q rest)):St B Γ H nl (wpOps P ops Q (i :: rest)):=by
 rintro a w ⟨B',β,F,hx,hβ,hf⟩;rw [wpOps_cons];unfold wpOp;simp only [ho,hw.wanted hf,Bool.false_eq_true,if_false];rw [hd];exact k _ _ ⟨B',β,F,hx,hβ,hf.put (Q3N hx hlt) (.ro (.v _))⟩
theorem U.skip'(ho:ops[i]?=some o)(hw:G5 ops Γ o false)(hd:o.dst=none)
  (k:St B Γ H nl (wpOps P ops Q rest)):St B Γ H nl (wpOps P ops Q (i :: rest)):=by
 rintro a w ⟨B',β,F,hx,hβ,hf⟩;rw [wpOps_cons];unfold wpOp;simp only [ho,hw.wanted hf,Bool.false_eq_true,if_false];exact k _ _ ⟨B',β,F,hx,hβ,hf.put' _ hd⟩
theorem U.done(k:St B Γ H nl (Q .normal)):St B Γ H nl (wpOps P ops Q []):=k
theorem U.start{id:Nat}(k:St B Γ H nl (wpOps P ops Q (List.range ops.size))):St B Γ H nl ((Code.region id ops false).wp P Q):=λa w hf=>wp_region (k a w hf)
end
def QI(P:Program)(ops:Array Oper)(Q:Exit->Act->World->Prop)(S:World->Prop)(z:Nat):Nat->Array Bool->Act->World->Prop
 | 0,listed,a,w=>Region.ready .any ops listed=[]∧Q .normal a w
 | fuel+1,listed,a,w=>
  (Region.ready .any ops listed=[]->Q .normal a w) ∧
  ∀i∈Region.ready .any ops listed,wpOp P ops Q i (λa' w'=>(i≠z->listed.getD z false=false->S w')∧QI P ops Q S z fuel (listed.setIfInBounds i true) a' w') a w
theorem Q4y{ops:Array Oper}{Q:Exit->Act->World->Prop}{S:World->Prop}{z:Nat}:∀(fuel:Nat) (listed:Array Bool) (a:Act) (w:World),QI P ops Q S z fuel listed a w->wpAny P .any ops Q fuel listed a w
 | 0,_,_,_,h=>h
 | fuel+1,_,_,_,h=>⟨h.1,λi hi=>wpOp_mono (λa' w' h'=>Q4y fuel _ a' w' h'.2) (h.2 i hi)⟩
def Q8Q(ops:Array Oper)(z i:Nat):Bool:=
 match ops[z]? with
 | some oz=>oz.after.any λe=>Region.binds .any e&&e.on == i
 | none=>true
def Q0M(ops:Array Oper)(listed:Array Bool):Nat->List Nat->Nat->Bool
 | z,[],i=>Q8Q ops z i&&!(listed.getD z false)
 | z,m :: r,i=>Q8Q ops z m&&!(listed.getD z false)&&!(listed.getD m true)&&Q0M ops listed m r i
theorem Q3o{ops:Array Oper}{listed:Array Bool}{z i:Nat}(hw:Q8Q ops z i=true)(hi:listed.getD i true=false):¬z∈Region.ready .any ops listed:=λhz=>by
 obtain⟨_,oz,hoz,hall⟩:=mem_ready.1 hz;simp only [Q8Q,hoz] at hw;obtain⟨e,he,hb⟩:=Array.any_eq_true'.1 hw;simp only [gP,beq_iff_eq] at hb;have h1:=hall e he hb.1;rw [hb.2] at h1;rcases gH i listed.size with h' | h'
 ·simp [h'] at hi h1;rw [hi] at h1;cases h1
 ·simp [Array.getElem?_eq_none h'] at h1
theorem Q4M{ops:Array Oper}{listed:Array Bool}{i:Nat}(hi:listed.getD i true=false):∀(ch:List Nat) (z:Nat),Q0M ops listed z ch i=true ->
  (¬z∈Region.ready .any ops listed)∧listed.getD z false=false∧∀j,j∈Region.ready .any ops listed->j≠i->Q0M ops (listed.setIfInBounds j true) z ch i=true
 | [],z,h=>by
  simp only [Q0M,gP,Bool.not_eq_true'] at h;have hz:=Q3o h.1 hi;refine⟨hz,h.2,λj hj _=>?_⟩;simp only [Q0M,gP,Bool.not_eq_true'];exact⟨h.1,by rw [getD_set_ne false (show j≠z from λe=>hz (e▸hj))];exact h.2⟩
 | m :: r,z,h=>by
  simp only [Q0M,gP,Bool.not_eq_true'] at h;obtain⟨h1,_,h2⟩:=Q4M hi r m h.2;have hz:=Q3o h.1.1.1 h.1.2;refine⟨hz,h.1.1.2,λj hj hji=>?_⟩;have hjm:j≠m:=λe=>h1 (e▸hj)
  simp only [Q0M,gP,Bool.not_eq_true'];exact⟨⟨⟨h.1.1.1,by rw [getD_set_ne false (show j≠z from λe=>hz (e▸hj))];exact h.1.1.2⟩,by rw [getD_set_ne true hjm];exact h.1.2⟩,h2 j hj hji⟩
theorem Q2P{ops:Array Oper}{Q:Exit->Act->World->Prop}{S:World->Prop}{z i:Nat}{oi:Oper}{v:Value}(hi:ops[i]?=some oi)(hsel:Region.noSelect ops=true)
  (hQ:∀c a w,Q (.panic c) (a.put oi.dst v) w->Q (.panic c) a w) (ch:List Nat):
  ∀(fuel:Nat) (listed:Array Bool) (a:Act) (w:World),Q0M ops listed z ch i=true ->
   (∀j oj,ops[j]?=some oj->j≠i->listed.getD j true=false->(∀e∈oj.after,Region.binds .any e=true->e.on≠i)->oi.apart ops oj=true) ->
   i∈Region.ready .any ops listed->YieldsIf P ops S oi v a->S w ->
   QI P ops Q S z fuel (listed.setIfInBounds i true) (a.put oi.dst v) w->QI P ops Q S z (fuel+1) listed a w:=by
 have sel:=Region.noSelect_spec hsel;intro fuel;induction fuel with
 | zero=>
  intro listed a w _ _ hr hy hS HK;refine⟨λh0=>absurd (h0▸hr) (by simp),λj hj=>?_⟩;by_cases hji:j=i
  ·subst hji;exact hy.wpOp hi hS ⟨λ_ _=>hS,HK⟩
  ·have hr2:=ready_mono hj hji;rw [HK.1] at hr2;cases hr2
 | succ fuel ih=>
  intro listed a w hz hfree hr hy hS HK;refine⟨λh0=>absurd (h0▸hr) (by simp),λj hj=>?_⟩;by_cases hji:j=i
  ·subst hji;exact hy.wpOp hi hS ⟨λ_ _=>hS,HK⟩
  ·have step:=HK.2 j (ready_mono hj hji);obtain⟨hun,oj,hoj,hall⟩:=mem_ready.1 hj;have hno:∀e∈oj.after,Region.binds .any e=true->e.on≠i:=λe he hb heq=>by
    have h1:=hall e he hb;have h0:=(mem_ready.1 hr).1;rw [heq] at h1;rcases gH i listed.size with h' | h'
    ·simp [h'] at h0 h1;rw [h0] at h1;cases h1
    ·simp [Array.getElem?_eq_none h'] at h1
   have hsp:=Q4M (mem_ready.1 hr).1 ch z hz;have hjz:j≠z:=λe=>hsp.1 (e▸hj)
   have moved:=wpOp_putIf hoj (hfree j oj hoj hji hun hno) (λcs b=>sel i oi cs b hi) (λcs b=>sel j oj cs b hoj) hQ hy step;refine wpOp_mono (λa' w' h3=>?_) moved;have hiz:i≠z:=λe=>hsp.1 (e▸hr)
   have hS':=h3.2.1 hjz (by rw [getD_set_ne false hiz];exact hsp.2.1);have hfree':∀k ok,ops[k]?=some ok->k≠i->(listed.setIfInBounds j true).getD k true=false ->
     (∀e∈ok.after,Region.binds .any e=true->e.on≠i)->oi.apart ops ok=true:=λk ok hk hki hun' hno'=>by
    refine hfree k ok hk hki ?_ hno';by_cases hjk:j=k
    ·subst hjk;exact hun
    ·rwa [getD_set_ne true hjk] at hun'
   refine⟨λ_ _=>hS',ih (listed.setIfInBounds j true) a' w' (hsp.2.2 j hj hji) hfree' (ready_mono hr (Ne.symm hji)) h3.1 hS' ?_⟩;rw [Array.setIfInBounds_comm _ _ hji];exact h3.2.2
def Qdh(B:Base)(ws:World)(M':Nat->Prop)(Lp Ms:List Nat)(g:Bool)(Γ:Env)(H:Heap)(nl:Nat)(a:Act)(w:World):Prop:=
 ∃(B':Base) (β:List Value) (F:Nat->Prop),B.Ext B'∧β.length=nl∧XA B' β F Γ H a w∧Kp ws M' w ∧
  (∀b,Mod β Lp b->b<ws.heap.size∧¬M' b)∧(g=false->∀b,B'.ok b->b<ws.heap.size∧¬M' b)∧(∀b,Mod β Ms b->b<ws.heap.size->M' b)∧(∀l,l∈Lp->l<nl)
def StD(B:Base)(ws:World)(M':Nat->Prop)(Lp Ms:List Nat)(g:Bool)(Γ:Env)(H:Heap)(nl:Nat)(X:Act->World->Prop):Prop:=∀a w,Qdh B ws M' Lp Ms g Γ H nl a w->X a w
theorem Mod.sub{β:List Value}{ms ms':List Nat}{b:Nat}(h:Mod β ms b)(hs:∀l,l∈ms->l∈ms'):Mod β ms' b:=by
 obtain⟨l,hl,r⟩:=h;exact⟨l,hs l hl,r⟩
section
variable {ops:Array Oper} {Q:Exit->Act->World->Prop} {i z:Nat} {o:Oper} {ws:World} {M':Nat->Prop} {Lp Ms:List Nat} {g:Bool} {fuel:Nat} {listed listed':Array Bool}
def rdOk(g:Bool)(Lp:List Nat):Option (List Nat)->Bool
 | none=>true
 | some rl=>!g&&rl.all λl=>Lp.contains l
def Ka(Q:Exit->Act->World->Prop):Prop:=∀c a w d v,Q (.panic c) (Act.put a d v) w->Q (.panic c) a w
theorem D.rd{A:AVal}{rl:Option (List Nat)}{d:Nat}(hQ:Ka Q)(h:Rd P B Γ H nl o A rl)(ho:ops[i]?=some o)(hw:G5 ops Γ o true)(hd:o.dst=some d)(hlt:d.blt B.n=true)
  (hrl:rdOk g Lp rl=true) (hs:Region.noSelect ops=true) (hf:Region.free .any ops listed i=true) (hr:(Region.ready .any ops listed).contains i=true) {ch:List Nat} (hz:Q0M ops listed z ch i=true)
  (hl':listed.setIfInBounds i true=listed')
  (k:StD B ws M' Lp Ms g ((d,A) :: Γ) H nl (QI P ops Q (Kp ws M') z fuel listed')):StD B ws M' Lp Ms g Γ H nl (QI P ops Q (Kp ws M') z (fuel+1) listed):=by
 rintro a w ⟨B',β,F,hx,hβ,hfb,hkp,hLp,hok,hMs,hlp⟩;obtain⟨v,hv,hrun⟩:=h B' hx.n β F a w hβ hfb;subst hl';refine Q2P (v:=v) ho hs (λc a w=>hQ c a w _ _) ch fuel listed a w hz (Region.free_spec ho hf) (by simpa using hr) (.inl ⟨hw.wanted hfb,λw' hw'=>hrun w' ?_⟩) hkp ?_
 ·cases rl with
  | none=>trivial
  | some rl=>
   simp only [rdOk,gP,Bool.not_eq_true',gT] at hrl;refine⟨λb hb=>?_,λb hb=>?_⟩
   ·have:=hok hrl.1 b hb;rw [hw'.block b this.1 this.2,hkp.block b this.1 this.2]
   ·have:=hLp b (hb.sub (λl hl=>by simpa using hrl.2 l hl));rw [hw'.block b this.1 this.2,hkp.block b this.1 this.2]
 ·rw [hd];exact k _ _ ⟨B',β,F,hx,hβ,hfb.put (Q3N hx hlt) hv,hkp,hLp,hok,hMs,hlp⟩
theorem D.skip{d:Nat}(hQ:Ka Q)(ho:ops[i]?=some o)(hw:G5 ops Γ o false)(hd:o.dst=some d)(hlt:d.blt B.n=true)
  (hs:Region.noSelect ops=true) (hf:Region.free .any ops listed i=true) (hr:(Region.ready .any ops listed).contains i=true) {ch:List Nat} (hz:Q0M ops listed z ch i=true)
  (hl':listed.setIfInBounds i true=listed')
  (k:StD B ws M' Lp Ms g ((d,.v undef) :: Γ) H nl (QI P ops Q (Kp ws M') z fuel listed')):StD B ws M' Lp Ms g Γ H nl (QI P ops Q (Kp ws M') z (fuel+1) listed):=by
 rintro a w ⟨B',β,F,hx,hβ,hfb,hkp,hLp,hok,hMs,hlp⟩;subst hl';refine Q2P (v:=undef) ho hs (λc a w=>hQ c a w _ _) ch fuel listed a w hz (Region.free_spec ho hf) (by simpa using hr) (.inr ⟨hw.wanted hfb,rfl⟩) hkp ?_;rw [hd];exact k _ _ ⟨B',β,F,hx,hβ,hfb.put (Q3N hx hlt) (.ro (.v _)),hkp,hLp,hok,hMs,hlp⟩
theorem D.effF{ms:List Nat}{gr g':Bool}(h:Eff P B Γ H nl o S Γs Hs nls (.fx ms gr))(ho:ops[i]?=some o)(hw:G5 ops Γ o true)(hiz:i.beq z=false)(hms:∀l,l∈ms->l∈Ms)(hg:(g||gr)=g')
  (k:∀s,S s->StD B ws M' Lp Ms g' (Γs s) (Hs s) (nls s) (QI P ops Q (Kp ws M') z fuel (listed.setIfInBounds i true))):StD B ws M' Lp Ms g Γ H nl (λa w=>wpOp P ops Q i (λa' w'=>(i≠z->listed.getD z false=false->Kp ws M' w')∧QI P ops Q (Kp ws M') z fuel (listed.setIfInBounds i true) a' w') a w):=by
 rintro a w ⟨B',β,F,hx,hβ,hfb,hkp,hLp,hok,hMs,hlp⟩;have hiz':i≠z:=λe=>by subst e;rw [Nat.beq_refl] at hiz;cases hiz
 unfold wpOp;simp only [ho,hw.wanted hfb,if_true];refine .inl (h B' hx.n β F a w hβ hfb _ _ λs hs a' w' β' F' B'' hx' hβ' hpre hD hf'=>?_);obtain⟨hnew,hk',hgr⟩:=hD;have hkp':Kp ws M' w':=hkp.trans hk' (λx hx hlt=>hMs x (hx.sub hms) hlt);have same:∀(l:Nat) (x:Value),l<nl->β'[l]?=some x->β[l]?=some x:=λl x hlt hx=>by
  rw [<-hβ] at hlt;have:=hpre l _ (gE hlt);rw [this] at hx;rw [gE hlt];exact hx
 refine⟨λ_ _=>hkp',k s hs _ _ ⟨B'',β',F',hx.trans hx',hβ',hf',hkp',λb hb=>?_,λhg0 b hb=>?_,λb hb hlt=>?_,λl hl=>?_⟩⟩
 ·obtain⟨l,hl,x,hx,hh⟩:=hb;exact hLp b ⟨l,hl,x,same l x (hlp l hl) hx,hh⟩
 ·rw [hg0] at hg;simp only [Bool.or_eq_false_iff] at hg;exact hok hg.1 b (hgr hg.2 b hb)
 ·obtain⟨l,hl,x,hx,hh⟩:=hb;rcases gH l nl with h1 | h1
  ·exact hMs b ⟨l,hl,x,same l x h1 hx,hh⟩ hlt
  ·rcases hnew l x b h1 hx hh with h2 | h2
   ·exact absurd hlt (by have:=hkp.size;omega)
   ·exact hMs b (h2.sub hms) hlt
 ·have:=hlp l hl;rcases gH l β'.length with h1 | h1
  ·omega
  ·have hlt:l<β.length:=by omega
   have:=hpre l _ (gE hlt);rw [gN h1] at this;cases this
theorem D.eff{ms:List Nat}{gr g':Bool}(h:Eff P B Γ H nl o S Γs Hs nls (.fx ms gr))(ho:ops[i]?=some o)(hw:G5 ops Γ o true)(hr:Region.ready .any ops listed=[i])(hiz:i.beq z=false)(hms:∀l,l∈ms->l∈Ms)(hg:(g||gr)=g')
  (hl':listed.setIfInBounds i true=listed')
  (k:∀s,S s->StD B ws M' Lp Ms g' (Γs s) (Hs s) (nls s) (QI P ops Q (Kp ws M') z fuel listed')):StD B ws M' Lp Ms g Γ H nl (QI P ops Q (Kp ws M') z (fuel+1) listed):=by
 subst hl';intro a w hf;refine⟨λh0=>absurd (h0▸hr) (by simp),λj hj=>?_⟩;rw [hr,List.mem_singleton] at hj;subst hj;exact D.effF h ho hw hiz hms hg k a w hf
theorem D.last{m:EM}(h:Eff P B Γ H nl o S Γs Hs nls m)(ho:ops[z]?=some o)(hw:G5 ops Γ o true)(hr:Region.ready .any ops listed=[z])(hr':Region.ready .any ops (listed.setIfInBounds z true)=[])
  (k:∀s,S s->St B (Γs s) (Hs s) (nls s) (Q .normal)):StD B ws M' Lp Ms g Γ H nl (QI P ops Q (Kp ws M') z (fuel+1) listed):=by
 rintro a w ⟨B',β,F,hx,hβ,hfb,hkp,hLp,hok,hMs,hlp⟩;refine⟨λh0=>absurd (h0▸hr) (by simp),λj hj=>?_⟩;rw [hr,List.mem_singleton] at hj;subst hj;unfold wpOp;simp only [ho,hw.wanted hfb,if_true];refine .inl (h B' hx.n β F a w hβ hfb _ _ λs hs a' w' β' F' B'' hx' hβ' _ _ hf'=>⟨λh _=>absurd rfl h,?_⟩);have hq:=k s hs a' w' ⟨B'',β',F',hx.trans hx',hβ',hf'⟩;cases fuel with
 | zero=>exact⟨hr',hq⟩
 | succ f=>exact⟨λ_=>hq,by rw [hr'];simp⟩
def Q52(ops:Array Oper):Array Bool->List Nat->Bool
 | listed,[]=>(Region.ready .any ops listed).isEmpty
 | listed,r :: rs=>Region.ready .any ops listed == [r]&&Q52 ops (listed.setIfInBounds r true) rs
theorem Q3u{S:World->Prop}:∀(rest:List Nat) (fuel:Nat) (listed:Array Bool) (a:Act) (w:World),Q52 ops listed rest=true->listed.getD z false=true->rest.length≤fuel->wpOps P ops Q rest a w->QI P ops Q S z fuel listed a w
 | [],fuel,listed,a,w,h,hz,hle,hw=>by
  have hr:Region.ready .any ops listed=[]:=by simpa [Q52] using h
  cases fuel with
  | zero=>exact⟨hr,hw⟩
  | succ f=>exact⟨λ_=>hw,by rw [hr];simp⟩
 | r :: rs,fuel,listed,a,w,h,hz,hle,hw=>by
  simp only [Q52,gP,beq_iff_eq] at h;cases fuel with
  | zero=>simp at hle
  | succ f=>
   rw [wpOps_cons] at hw;refine⟨λh0=>absurd (h0▸h.1) (by simp),λj hj=>?_⟩;rw [h.1,List.mem_singleton] at hj;subst hj;exact wpOp_mono (λa' w' hk=>⟨λ_ hn=>absurd (hn.symm.trans hz) (by simp),Q3u rs f _ a' w' h.2 (getD_set_true hz) (by simp at hle;omega) hk⟩) hw
theorem D.lastT{m:EM}(rest:List Nat)(h:Eff P B Γ H nl o S Γs Hs nls m)(ho:ops[z]?=some o)(hw:G5 ops Γ o true)(hr:Region.ready .any ops listed=[z])(hz:(listed.setIfInBounds z true).getD z false=true)(hc:Q52 ops (listed.setIfInBounds z true) rest=true)(hle:rest.length.ble fuel=true)
  (k:∀s,S s->St B (Γs s) (Hs s) (nls s) (wpOps P ops Q rest)):StD B ws M' Lp Ms g Γ H nl (QI P ops Q (Kp ws M') z (fuel+1) listed):=by
 rintro a w ⟨B',β,F,hx,hβ,hfb,hkp,hLp,hok,hMs,hlp⟩;refine⟨λh0=>absurd (h0▸hr) (by simp),λj hj=>?_⟩;rw [hr,List.mem_singleton] at hj;subst hj;unfold wpOp;simp only [ho,hw.wanted hfb,if_true];refine .inl (h B' hx.n β F a w hβ hfb _ _ λs hs a' w' β' F' B'' hx' hβ' _ _ hf'=>⟨λh _=>absurd rfl h,?_⟩);exact Q3u rest fuel _ a' w' hc hz (Nat.le_of_ble_eq_true hle) (k s hs a' w' ⟨B'',β',F',hx.trans hx',hβ',hf'⟩)
theorem D.done(hr:Region.ready .any ops listed=[])(k:St B Γ H nl (Q .normal)):StD B ws M' Lp Ms g Γ H nl (QI P ops Q (Kp ws M') z fuel listed):=by
 rintro a w ⟨B',β,F,hx,hβ,hfb,_⟩;have hq:=k a w ⟨B',β,F,hx,hβ,hfb⟩;cases fuel with
 | zero=>exact⟨hr,hq⟩
 | succ f=>exact⟨λ_=>hq,by rw [hr];simp⟩
def Res.ownd:Res->Bool
 | .box _ | .val (.os _ _ _) | .val (.arr _ _ _) | .val (.om _ _ _) | .lent _ _ _ | .lentm _ _ _ _ | .rng _ _ _ _ _ | .itn | .rngm _ _ _ _=>true
 | _=>false
theorem Gn.block{w0 w:World}{ok:Nat->Prop}{β:List Value}{l:Nat}{F:Nat->Prop}{R:Res}(h:Gn w0 ok β w l F R){x:Value}{b:Nat}(hx:β[l]?=some x)(hb:hdr x=some b)
  (hR:R.ownd=true):F b:=by
 cases R with
 | box cells=>
  obtain⟨b',c,T,hl,hw,hs,hd,hF⟩:=h;rw [hl] at hx;cases hx;cases hb;exact hF
 | val A=>
  obtain⟨y,hy,ho⟩:=h;rw [hy] at hx;cases hx;cases ho with
  | ro F h=>cases h <;> cases hR
  | osNil n enc F p=>cases p <;> cases hb
  | os n enc xs b' off cap c T F G hbF=>
   cases cap with
   | zero=>cases hb
   | succ cap=>cases hb;exact hbF
  | arr n enc xs b' c T F hbF=>cases hb;exact hbF
  | om ke ve xs b' es clock F G hbF=>cases hb;exact hbF
 | lent enc xs L=>
  obtain⟨b',off,cap,c,T,G,hl,hw,hF,_⟩:=h;rw [hl] at hx;cases hx;cases cap with
  | zero=>cases hb
  | succ cap=>cases hb;exact hF
 | lentm ke ve xs L=>
  obtain⟨b',es,clock,G,hl,hw,hF,_⟩:=h;rw [hl] at hx;cases hx;cases hb;exact hF
 | rng ke ve xs seen li=>
  obtain⟨b',bi,es,clock,sa,G,hl,hli,hne,hF,_⟩:=h;rw [hl] at hx;cases hx;cases hb;exact hF
 | itn=>
  obtain⟨b',hl,hw,hF⟩:=h;rw [hl] at hx;cases hx;cases hb;exact hF
 | rngm=>
  obtain⟨b',O,hl,hw,hF,_⟩:=h;rw [hl] at hx;cases hx;cases hb;exact hF
 | abs Φ=>cases hR
theorem HOk.apart{w0 w:World}{ok:Nat->Prop}{β:List Value}:∀{H:Heap} {F:Nat->Prop},HOk w0 ok β w H F->∀{l l':Nat} {R R':Res},l≠l'->find H l=some R->find H l'=some R' ->
  ∃F1 F2,(∀b,F1 b->F b)∧(∀b,F2 b->F b)∧(∀b,F1 b->F2 b->False)∧Gn w0 ok β w l F1 R∧Gn w0 ok β w l' F2 R'
 | [],_,_,_,_,_,_,_,h,_=>by simp [find] at h
 | (k,S) :: H,F,⟨F1,F2,h1,h2,h12,hR,hH⟩,l,l',R,R',hne,hl,hl'=>by
  rw [find_cons] at hl hl';split at hl
  ·rename_i e;subst e;cases hl;rw [gC hne] at hl';obtain⟨F3,h3,hR3⟩:=hH.get hl';exact⟨F1,F3,h1,λb hb=>h2 b (h3 b hb),λb hb hb'=>h12 b hb (h3 b hb'),hR,hR3⟩
  ·split at hl'
   ·rename_i e;subst e;cases hl';obtain⟨F3,h3,hR3⟩:=hH.get hl;exact⟨F3,F1,λb hb=>h2 b (h3 b hb),h1,λb hb hb'=>h12 b hb' (h3 b hb),hR3,hR⟩
   ·obtain⟨G1,G2,g1,g2,g12,r1,r2⟩:=hH.apart hne hl hl';exact⟨G1,G2,λb hb=>h2 b (g1 b hb),λb hb=>h2 b (g2 b hb),g12,r1,r2⟩
theorem D.start{id:Nat}(z:Nat)(Lp Ms:List Nat)(hm:P.follows .mixedOrders=true)
  (hLp:Lp.all (λl=>match find H l with | some R=>R.ownd | none=>false)=true) (hMs:Ms.all (λl=>(match find H l with | some R=>R.ownd | none=>nl.ble l)&&!Lp.contains l)=true)
  (k:∀ws M',StD B ws M' Lp Ms false Γ H nl (QI P ops Q (Kp ws M') z ops.size (Array.replicate ops.size false))):St B Γ H nl ((Code.region id ops true).wp P Q):=by
 rintro a w ⟨B',β,F,hx,hβ,hf⟩;refine wp_region_any hm (Q4y (S:=Kp {w with drawn:=w.drawn+1} (Mod β Ms)) (z:=z) _ _ _ _ (k {w with drawn:=w.drawn+1} (Mod β Ms) a _ ⟨B',β,F,hx,hβ,?_,.refl _ _,λb hb=>?_,λ_ b hb=>?_,λb hb _=>hb,λl hl=>?_⟩))
 ·have hk:Kp w B'.M {w with drawn:=w.drawn+1}:=Kp.drew w B'.M _;exact⟨hf.kp.trans hk (λ_ h _=>h),hf.ok,hf.own,hf.heap.later (λ_ _ _=>rfl),hf.env,hf.size,hf.defers,hf.pre⟩
 ·obtain⟨l,hl,x,hx,hh⟩:=hb;have h1:=gT.1 hLp l hl;cases hfl:find H l with
  | none=>simp [hfl] at h1
  | some R=>
   simp only [hfl] at h1;obtain⟨F1,hF1,hr⟩:=hf.heap.get hfl;refine⟨(hf.own b (hF1 b (hr.block hx hh h1))).1,λhm'=>?_⟩;obtain⟨l',hl',x',hx',hh'⟩:=hm';have h2:=gT.1 hMs l' hl';simp only [gP,Bool.not_eq_true'] at h2;have hne:l≠l':=λe=>by subst e;simp [hl] at h2
   cases hfl':find H l' with
   | none=>
    simp only [hfl'] at h2;have:=Nat.le_of_ble_eq_true h2.1;rw [gN (by omega)] at hx';cases hx'
   | some R'=>
    simp only [hfl'] at h2;obtain⟨G1,G2,_,_,g12,r1,r2⟩:=hf.heap.apart hne hfl hfl';exact g12 b (r1.block hx hh h1) (r2.block hx' hh' h2.1)
 ·have:=hf.ok b hb;refine⟨gG this.1 hf.kp.size,λhm'=>?_⟩;obtain⟨l',hl',x',hx',hh'⟩:=hm';have h2:=gT.1 hMs l' hl';simp only [gP] at h2;cases hfl':find H l' with
  | none=>
   simp only [hfl'] at h2;have:=Nat.le_of_ble_eq_true h2.1;rw [gN (by omega)] at hx';cases hx'
  | some R'=>
   simp only [hfl'] at h2;obtain⟨F1,hF1,hr⟩:=hf.heap.get hfl';exact this.2 ((hf.own b (hF1 b (hr.block hx' hh' h2.1))).2 this.1)
 ·have h1:=gT.1 hLp l hl;cases hfl:find H l with
  | none=>simp [hfl] at h1
  | some R=>
   simp only [hfl] at h1;obtain⟨F1,hF1,hr⟩:=hf.heap.get hfl;have:∃x,β[l]?=some x:=by
    cases R with
    | box=>obtain⟨b,c,T,h,_⟩:=hr;exact⟨_,h⟩
    | val A=>obtain⟨x,h,_⟩:=hr;exact⟨x,h⟩
    | lent=>obtain⟨b,off,cap,c,T,G,h,_⟩:=hr;exact⟨_,h⟩
    | lentm=>obtain⟨b,es,clock,G,h,_⟩:=hr;exact⟨_,h⟩
    | rng=>obtain⟨b,bi,es,clock,sa,G,h,_⟩:=hr;exact⟨_,h⟩
    | itn=>obtain⟨b,h,_⟩:=hr;exact⟨_,h⟩
    | rngm=>obtain⟨b,O,h,_⟩:=hr;exact⟨_,h⟩
    | abs Φ=>exact hr.1
   obtain⟨x,hx⟩:=this;rw [<-hβ];exact (gS.1 hx).1
end
end
def idx{α:Type}(xs:List α)(i:Int):Option α:=if 0≤i then xs[i.toNat]? else none
def Q5D(tb:Tab)(H:Heap)(T:Nat)(X:AVal):Option (AVal×List Nat):=
 match find tb T with
 | none=>none
 | some e=>match X with
  | .p l off=>match find H l with
   | some (.box cells)=>if e.ti.agg then (if off+e.n≤cells.length then some (.agg ((cells.drop off).take e.n),[l]) else none)
     else match cells[off]? with
      | some A=>some (A,[l])
      | none=>none
   | _=>none
  | .rp cells=>if e.ti.agg then (if e.n≤cells.length then some (.agg (cells.take e.n),[]) else none)
    else match cells[0]? with
     | some A=>some (A,[])
     | none=>none
  | _=>none
section
variable {P:Program} {B:Base} {tb:Tab} {Γ:Env} {H:Heap} {nl:Nat} {o:Oper}
theorem Rd.p[htb:TabOk P tb]{A:AVal}(h:ZD tb Γ H o.op=some A):Rd P B Γ H nl o A none:=λB hB β F a w _ hf=>by
 obtain⟨v,hv,hg⟩:=Q6S (w:=w) htb hf.env hf.heap h;exact⟨v,hv,λw' _=>hg o.dst o.type o.pos o.after o.guard w'⟩
theorem Wc{w:World}{b:Nat}{c:Array Value}{T:TypeId}{z:Nat×Nat}(h:w.heap[b]?=some (.cells c T z)){j:Nat}(hj:j<c.size):w.cell? ⟨b,j,none⟩=some (c.getD j undef):=by
 simp [World.cell?,h,gA,hj]
theorem WL(htb:TabOk P tb){T:Nat}{e:TE}(he:find tb T=some e){b off:Nat}{w:World}(f:Nat->Value)(h:∀j,j<e.n->w.cell? ⟨b,off+j,none⟩=some (f j))(hagg:e.ti.agg=true):
  (loadVar T ⟨b,off,none⟩).run P w=.ok (.agg ((List.range e.n).map f).toArray) w:=by
 have hl:(loadCells ⟨b,off,none⟩ e.n).run P w=.ok ((List.range e.n).map f).toArray w:=run_loadCells w _ _ f (λj hj=>by rw [Xl];exact h j hj);simp only [loadVar,Sem.run_bind,htb.isAgg he,hagg,Result.andThen_ok,if_true,htb.size he,hl,Sem.run_pure]
theorem Wu(htb:TabOk P tb){T:Nat}{e:TE}(he:find tb T=some e){p:Addr}{w:World}{v:Value}(h:w.cell? p=some v)(hagg:e.ti.agg=false):
  (loadVar T p).run P w=.ok v w:=by
 simp [loadVar,htb.isAgg he,hagg,h]
theorem Dn.agg_of{w0:World}{ok:Nat->Prop}{β:List Value}{cs:List AVal}{n:Nat}{f:Nat->Value}(hn:cs.length=n)(h:∀(j:Nat) (A:AVal),cs[j]?=some A->Dn w0 ok β A (f j)):
  Dn w0 ok β (.agg cs) (.agg ((List.range n).map f).toArray):=by
 refine .agg _ _ (by simp [hn]) (λj A hA=>?_);have hj:j<n:=by rw [<-hn];exact (gS.1 hA).1
 simpa [gA,hj] using h j A hA
theorem Rd.l[htb:TabOk P tb]{T:TypeId}{x:Operand}{X A:AVal}{rl:List Nat}(ho:o.op=.load T x)(hx:ev Γ x=some X)(h:Q5D tb H T X=some (A,rl)):Rd P B Γ H nl o A (some rl):=λB hB β F a w hβ hf=>by
 have hX:=Qf (a:=a) hf.env hx;obtain⟨dst,op,ty,pos,af,g⟩:=o;simp only at ho;subst ho;simp only [execOp,Instr.loadAt];unfold Q5D at h;split at h
 ·cases h
 ·rename_i e he;split at h
  ·rename_i l off;obtain⟨b,hb,hy⟩:=hX.p_inv;split at h
   ·rename_i cells hl;obtain⟨F1,hF1,b',c,T',hb',hw,hs,hd,hFb⟩:=hf.heap.get hl;rw [hb] at hb';cases hb';have hmod:∀w':World,(∀b,Mod β [l] b->w'.heap[b]?=w.heap[b]?)->w'.heap[b]?=some (.cells c T' (0,0)):=λw' hw'=>by
     rw [hw' b ⟨l,by simp,_,hb,rfl⟩];exact hw
    split at h
    ·rename_i hagg;split at h
     ·rename_i hle;simp only [gJ,Prod.mk.injEq] at h;obtain⟨rfl,rfl⟩:=h;refine⟨_,Dn.agg_of (n:=e.n) (f:=λj=>c.getD (off+j) undef) (by simp;omega) (λj A hA=>?_),λw' ⟨_,hw'⟩=>?_⟩
      ·have hj:j<e.n:=by
        rcases gH j e.n with h | h
        ·exact h
        ·simp [List.getElem?_take,Nat.not_lt.2 h] at hA
       rw [List.getElem?_take,gF hj,List.getElem?_drop] at hA;exact hd _ _ hA
      ·rw [hy];simp only [Sem.run_bind,Instr.sureAddr,Sem.run_pure,Result.andThen_ok];rw [WL htb he (λj=>c.getD (off+j) undef) (λj hj=>Wc (hmod w' hw') (by omega)) hagg];rfl
     ·cases h
    ·rename_i hagg;split at h
     ·rename_i A' hA';simp only [gJ,Prod.mk.injEq] at h;obtain⟨rfl,rfl⟩:=h;refine⟨_,hd _ _ hA',λw' ⟨_,hw'⟩=>?_⟩;have hlt:=(gS.1 hA').1;rw [hs] at hlt;rw [hy];simp only [Sem.run_bind,Instr.sureAddr,Sem.run_pure,Result.andThen_ok];rw [Wu htb he (Wc (hmod w' hw') hlt) (by simpa using hagg)];rfl
     ·cases h
   ·cases h
  ·rename_i cells;obtain⟨b,off,f,hy,hok,hc,hr⟩:=hX.rp_inv;have hcell:∀w':World,(∀b,B.ok b->w'.heap[b]?=w.heap[b]?)->∀(j:Nat) (A:AVal),cells[j]?=some A->w'.cell? ⟨b,off+j,none⟩=some (f j):=λw' hw' j A hA=>by
    have h0:=hc j A hA;have hb0:=hf.ok b hok;rw [World.cell?_of_block (w:=w) (by show w'.heap[b]?=w.heap[b]?;exact hw' b hok),World.cell?_of_block (w:=B.w0) (by show w.heap[b]?=B.w0.heap[b]?;exact hf.kp.block b hb0.1 hb0.2)];exact h0
   split at h
   ·rename_i hagg;split at h
    ·rename_i hle;simp only [gJ,Prod.mk.injEq] at h;obtain⟨rfl,rfl⟩:=h;refine⟨_,Dn.agg_of (n:=e.n) (f:=f) (by simp;omega) (λj A hA=>?_),λw' ⟨hw',_⟩=>?_⟩
     ·have hj:j<e.n:=by
       rcases gH j e.n with h | h
       ·exact h
       ·simp [List.getElem?_take,Nat.not_lt.2 h] at hA
      rw [List.getElem?_take,gF hj] at hA;exact .ro (hr _ _ hA)
     ·rw [hy];simp only [Sem.run_bind,Instr.sureAddr,Sem.run_pure,Result.andThen_ok];rw [WL htb he f (λj hj=>hcell w' hw' j _ (gE (by omega))) hagg];rfl
    ·cases h
   ·rename_i hagg;split at h
    ·rename_i A' hA';simp only [gJ,Prod.mk.injEq] at h;obtain⟨rfl,rfl⟩:=h;refine⟨_,.ro (hr _ _ hA'),λw' ⟨hw',_⟩=>?_⟩;have:=hcell w' hw' 0 _ hA';rw [hy];simp only [Sem.run_bind,Instr.sureAddr,Sem.run_pure,Result.andThen_ok];rw [Wu htb he (by simpa using this) (by simpa using hagg)];rfl
    ·cases h
  ·cases h
theorem Rd.ix[htb:TabOk P tb]{α:Type}{t:TypeId}{x i:Operand}{n:Nat}{enc:α->List AVal}{xs:List α}{k:IntKind}{j:Int}{y:α}{e n' by_:Nat}{zc:List Value}{e':TE}
  (ho:o.op=.indexAddr t x i) (hx:ev Γ x=some (.sl n enc xs)) (hi:ev Γ i=some (.v (.int k j))) (ht:find tb t=some ⟨.sl e,n',by_,zc⟩) (he:find tb e=some e') (hn:e'.n=n) (hy:idx xs j=some y):
  Rd P B Γ H nl o (.rp (enc y)) none:=λB hB β F a w hβ hf=>by
 obtain⟨dst,op,ty,pos,af,g⟩:=o;simp only at ho;subst ho;have hX:=(Qf (a:=a) hf.env hx).sl_inv;have hI:=(Qf (a:=a) hf.env hi).v_inv;obtain⟨d,hd,rfl⟩:=htb.und ht;unfold idx at hy;split at hy
 ·rename_i h0;generalize hv:a.eval x=v at hX;cases hX with
  | slNil=>simp at hy
  | sl _ _ _ b off cap f hb hcap hn' hc hr=>
   have hlt:=(gS.1 hy).1;refine⟨.pointer (some ⟨b,off+j.toNat*n,none⟩),.ro (.rp (enc y) b (off+j.toNat*n) (f j.toNat) hb (λm A hA=>hc _ _ _ _ hy hA) (λm A hA=>hr _ _ _ _ hy hA)),λw' _=>?_⟩;have hj:0≤j∧j<(xs.length:Int):=⟨h0,by omega⟩;simp [execOp,Instr.indexAt,hI,asIntOf,run_underlying hd,hv,hj,htb.size he,hn,Xl]
 ·cases hy
end
section
variable {P:Program} {B:Base} {tb:Tab} {Γ:Env} {H:Heap} {nl:Nat} {o:Oper}
theorem Eff1.of_value{Γ':Env}{H':Heap}{nl':Nat}{ms:List Nat}
  (h:∀B':Base,B'.n=B.n->∀β F a w,β.length=nl->XA B' β F Γ H a w->∃v w' β' F',(execOp a.eval o).run P w=.ok (.value v) w'∧β'.length=nl'∧(∀(l:Nat) (x:Value),β[l]?=some x->β'[l]?=some x) ∧
   (∀(l:Nat) (x:Value) (b:Nat),nl≤l->β'[l]?=some x->hdr x=some b->w.heap.size≤b∨Mod β ms b)∧XA B' β' F' Γ' H' (a.put o.dst v) w'∧Kp w (Mod β ms) w'):Eff1 P B Γ H nl o Γ' H' nl' (.fx ms false):=λB hB β F a w hβ hf next Q hn=>by
 obtain⟨v,w',β',F',hr,h1,h2,h3,h4,h5⟩:=h B hB β F a w hβ hf;unfold Oper.wp;rw [hr,Oper.upon_value];exact hn ⟨⟩ trivial _ _ _ _ _ (.refl _) h1 h2 ⟨h3,h5,λ_ _ h=>h⟩ h4
theorem Eff1.of_skip{Γ':Env}{H':Heap}{nl':Nat}{ms:List Nat}
  (h:∀B':Base,B'.n=B.n->∀β F a w,β.length=nl->XA B' β F Γ H a w->∃w' β' F',(execOp a.eval o).run P w=.ok .skip w'∧β'.length=nl'∧(∀(l:Nat) (x:Value),β[l]?=some x->β'[l]?=some x) ∧
   (∀(l:Nat) (x:Value) (b:Nat),nl≤l->β'[l]?=some x->hdr x=some b->w.heap.size≤b∨Mod β ms b)∧XA B' β' F' Γ' H' (a.put o.dst undef) w'∧Kp w (Mod β ms) w'):Eff1 P B Γ H nl o Γ' H' nl' (.fx ms false):=λB hB β F a w hβ hf next Q hn=>by
 obtain⟨w',β',F',hr,h1,h2,h3,h4,h5⟩:=h B hB β F a w hβ hf;unfold Oper.wp;rw [hr,Oper.upon_skip];exact hn ⟨⟩ trivial _ _ _ _ _ (.refl _) h1 h2 ⟨h3,h5,λ_ _ h=>h⟩ h4
theorem Wg(w:World)(M:Nat->Prop)(x:Obj):Kp w M (w.alloc x):=⟨rfl,rfl,rfl,by simp,λb hb _=>RowKit.Below.heap_alloc w x b hb,.refl _⟩
theorem XA.alloc{β:List Value}{F:Nat->Prop}{a:Act}{w:World}(h:XA B β F Γ H a w)(x:Obj)(v:Value)(R:Res)
  (hR:Gn B.w0 B.ok (β++[v]) (w.alloc x) β.length (λb=>b=w.heap.size) R):
  XA B (β++[v]) (λb=>F b∨b=w.heap.size) Γ ((β.length,R) :: H) a (w.alloc x):=by
 have hk:=Wg w B.M x;refine⟨h.kp.trans hk (λ_ h _=>h),h.ok,λb hb=>?_,⟨λb=>b=w.heap.size,F,λb hb=>.inr hb,λb hb=>.inl hb,λb hb hb'=>?_,hR,?_⟩,λt A hA=>(h.env t A hA).snoc v,h.size,h.defers,λl x hl hx=>Ql (h.pre l x hl hx)⟩
 ·rcases hb with hb | hb
  ·have:=h.own b hb;exact⟨by simp;omega,this.2⟩
  ·subst hb;exact⟨by simp,λhlt=>by have:=h.kp.size;omega⟩
 ·have:=h.own b hb';omega
 ·exact (h.heap.later (λb _ hlt=>RowKit.Below.heap_alloc w x b hlt)).snoc v
theorem YN{β:List Value}{v:Value}(hβ:β.length=nl){l:Nat}{x:Value}(hl:nl≤l)(hx:(β++[v])[l]?=some x):x=v:=by
 rw [gR (by omega)] at hx;have:l-β.length=0:=by
  rcases Nat.eq_zero_or_pos (l-β.length) with h | h
  ·exact h
  ·rw [gN (by simp;omega)] at hx;cases hx
 rw [this] at hx;simpa using hx.symm
theorem Eff1.box{T:TypeId}{x:Operand}{A:AVal}{cs:List AVal}{d:Nat}(ho:o.op=.box T x)(hx:ev Γ x=some A)(hc:A.cells=some cs)(hd:o.dst=some d)(hlt:d.blt B.n=true):
  Eff1 P B Γ H nl o ((d,.p nl 0) :: Γ) ((nl,.box cs) :: H) (nl+1) (.fx [] false):=Eff1.of_value λB hB β F a w hβ hf=>by
 rw [<-hB] at hlt;obtain⟨dst,op,ty,pos,af,g⟩:=o;simp only at ho hd;subst ho;subst hd;subst hβ;have hX:=Qf (a:=a) hf.env hx;have hcs:=hX.cells hc;refine⟨.pointer (some ⟨w.heap.size,0,none⟩),w.alloc (.cells (a.eval x).cells T),β++[.pointer (some ⟨w.heap.size,0,none⟩)],_,?_,by simp,λl x h=>Ql h,λl x b hl hx hb=>?_,
  (XA.alloc hf (.cells (a.eval x).cells T) (.pointer (some ⟨w.heap.size,0,none⟩)) (.box cs) ?_).put hlt ?_,?_⟩
 ·simp [execOp,Instr.box,newVar,newRow]
 ·have:=YN rfl hl hx;subst this;cases hb;exact .inl (Nat.le_refl _)
 ·refine⟨w.heap.size,(a.eval x).cells,T,by simp,heap_alloc_new w _,hcs.1,λj A hA=>(hcs.2 j A hA).snoc _,rfl⟩
 ·exact .p _ _ _ (by simp)
 ·exact Wg w _ _
theorem Eff1.al[htb:TabOk P tb]{T:TypeId}{e:TE}{d:Nat}(ho:o.op=.alloc T)(he:find tb T=some e)(hd:o.dst=some d)(hlt:d.blt B.n=true):
  Eff1 P B Γ H nl o ((d,.p nl 0) :: Γ) ((nl,.box (e.zc.map .v)) :: H) (nl+1) (.fx [] false):=Eff1.of_value λB hB β F a w hβ hf=>by
 rw [<-hB] at hlt;obtain⟨dst,op,ty,pos,af,g⟩:=o;simp only at ho hd;subst ho;subst hd;subst hβ;obtain⟨z,hz,hzc,_,_,_⟩:=htb.zero he;have hz':z.cells=e.zc.toArray:=by rw [<-hzc]
 have hcs:DnL B.w0 B.ok β (e.zc.map .v) z.cells:=by rw [hz'];exact zc_dn e.zc
 refine⟨.pointer (some ⟨w.heap.size,0,none⟩),w.alloc (.cells z.cells T),β++[.pointer (some ⟨w.heap.size,0,none⟩)],_,?_,by simp,λl x h=>Ql h,λl x b hl hx hb=>?_,
  (XA.alloc hf (.cells z.cells T) (.pointer (some ⟨w.heap.size,0,none⟩)) (.box (e.zc.map .v)) ?_).put hlt ?_,?_⟩
 ·simp [execOp,Instr.alloc,hz,newVar,newRow]
 ·have:=YN rfl hl hx;subst this;cases hb;exact .inl (Nat.le_refl _)
 ·exact⟨w.heap.size,z.cells,T,by simp,heap_alloc_new w _,hcs.1,λj A hA=>(hcs.2 j A hA).snoc _,rfl⟩
 ·exact .p _ _ _ (by simp)
 ·exact Wg w _ _
def setH:Heap->Nat->Res->Heap
 | [],_,_=>[]
 | (k,S) :: H,l,R=>bif k.beq l then (k,R) :: H else (k,S) :: setH H l R
theorem Q1Z(k:Nat)(S:Res)(H:Heap)(l:Nat)(R:Res):setH ((k,S) :: H) l R=if k=l then (k,R) :: H else (k,S) :: setH H l R:=by
 rw [setH];by_cases h:k=l
 ·subst h;simp
 ·have:k.beq l=false:=by cases hb:k.beq l with
   | false=>rfl
   | true=>exact absurd (Nat.eq_of_beq_eq_true hb) h
  simp [this,h]
theorem HOk.set{w0 w:World}{ok:Nat->Prop}{β:List Value}:∀{H:Heap} {F:Nat->Prop},HOk w0 ok β w H F->∀{l:Nat} {R:Res},find H l=some R ->
  ∃F1,(∀b,F1 b->F b)∧Gn w0 ok β w l F1 R∧∀(w':World) R',(∀b,F b->¬F1 b->b<w.heap.size->w'.heap[b]?=w.heap[b]?)->Gn w0 ok β w' l F1 R'->HOk w0 ok β w' (setH H l R') F
 | [],_,_,_,_,h=>by simp [find] at h
 | (k,S) :: H,F,⟨F1,F2,h1,h2,h12,hR,hH⟩,l,R,hl=>by
  rw [find_cons] at hl;split at hl
  ·rename_i e;subst e;cases hl;refine⟨F1,h1,hR,λw' R' hw hR'=>?_⟩;rw [Q1Z,gF rfl];exact⟨F1,F2,h1,h2,h12,hR',hH.later (λb hb hlt=>hw b (h2 b hb) (λhb'=>h12 b hb' hb) hlt)⟩
  ·rename_i e;obtain⟨G,g1,g2,g3⟩:=hH.set hl;refine⟨G,λb hb=>h2 b (g1 b hb),g2,λw' R' hw hR'=>?_⟩;rw [Q1Z,gC e];refine⟨F1,F2,h1,h2,h12,hR.later (λb hb hlt=>hw b (h1 b hb) (λhb'=>h12 b hb (g1 b hb')) hlt),g3 w' R' (λb hb hb' hlt=>hw b (h2 b hb) hb' hlt) hR'⟩
theorem Yw(c:Array Value)(off:Nat)(vs:List Value)(hle:off+vs.length≤c.size)(j:Nat):
  (c.toList.take off++vs++c.toList.drop (off+vs.length)).toArray.getD j undef=if off≤j∧j<off+vs.length then vs.getD (j-off) undef else c.getD j undef:=by
 simp only [gA,List.getElem?_toArray,gD,List.append_assoc];have hl:(c.toList.take off).length=off:=by simp;omega
 by_cases h1:off≤j
 ·rw [gR (by rw [hl];exact h1),hl];by_cases h2:j<off+vs.length
  ·rw [gF ⟨h1,h2⟩,gL (by omega)]
  ·rw [gC (by omega),gR (by omega),List.getElem?_drop];have:off+vs.length+(j-off-vs.length)=j:=by omega
   rw [this];simp
 ·rw [gC (by omega),gL (by rw [hl];omega),List.getElem?_take,gF (by omega)];simp
theorem Zu:∀(ds:List AVal) (cs:List AVal) (off j:Nat),off+ds.length≤cs.length->(setCells cs off ds)[j]?=if off≤j∧j<off+ds.length then ds[j-off]? else cs[j]?
 | [],cs,off,j,_=>by rw [setCells,gC (by simp)]
 | x :: ds,cs,off,j,h=>by
  rw [setCells,Zu ds (cs.set off x) (off+1) j (by simp at h ⊢;omega)];simp only [List.length_cons] at h ⊢;by_cases h1:off=j
  ·subst h1;rw [gC (by omega),gF (by omega),List.getElem?_set_self (by omega)];simp
  ·by_cases h2:off+1≤j∧j<off+1+ds.length
   ·rw [gF h2,gF (by omega)];have:j-off=(j-(off+1))+1:=by omega
    rw [this,List.getElem?_cons_succ]
   ·rw [gC h2,gC (by omega),List.getElem?_set_ne h1]
theorem Z2:∀(ds:List AVal) (cs:List AVal) (off:Nat),(setCells cs off ds).length=cs.length
 | [],_,_=>rfl
 | x :: ds,cs,off=>by rw [setCells,Z2 ds];simp
def ones(cs:List AVal):Bool:=cs.all AVal.one
theorem DnL.ones{w0:World}{ok:Nat->Prop}{β:List Value}{cs:List AVal}{vs:Array Value}(h:DnL w0 ok β cs vs)(h1:ones cs=true):∀v∈vs.toList,v.oneCell'=true:=by
 intro v hv;obtain⟨j,hj,rfl⟩:=List.getElem_of_mem hv;have hj':j<cs.length:=by rw [h.1];simpa using hj
 have:=h.2 j _ (gE hj');have e:vs.getD j undef=vs.toList[j]:=by
  have hj2:j<vs.size:=by simpa using hj
  simp [gA,hj2]
 rw [e] at this;exact this.one (gT.1 h1 _ (List.getElem_mem _))
theorem GY(w:World)(g:Nat)(c:Array Value)(M:Nat->Prop)(hM:M g):Kp w M (w.setRow g c):=by
 refine⟨rfl,rfl,rfl,by simp [World.setRow],λb _ hb=>?_,.refl _⟩;simp only [World.setRow,Array.getElem?_modify];rw [gC (λe=>hb (by rw [<-e];exact hM))]
theorem Eff1.st[htb:TabOk P tb]{T:TypeId}{x y:Operand}{l off:Nat}{A:AVal}{cs cells:List AVal}{e:TE}(ho:o.op=.store T x y)(hx:ev Γ x=some (.p l off))(hy:ev Γ y=some A)(hc:A.cells=some cs)
  (hl:find H l=some (.box cells)) (he:find tb T=some e) (hn:cs.length=e.n) (hle:(off+cs.length).ble cells.length=true) (h1:ones cs=true) (hd:o.dst=none):
  Eff1 P B Γ H nl o Γ (setH H l (.box (setCells cells off cs))) nl (.fx [l] false):=Eff1.of_skip λB hB β F a w hβ hf=>by
 obtain⟨dst,op,ty,pos,af,g⟩:=o;simp only at ho hd;subst ho;subst hd;obtain⟨b,hb,hxv⟩:=(Qf (a:=a) hf.env hx).p_inv;have hY:=(Qf (a:=a) hf.env hy).cells hc;have hle':=Nat.le_of_ble_eq_true hle;obtain⟨F1,hF1,⟨b',c,T',hb',hw,hs,hdn,hFb⟩,hset⟩:=hf.heap.set hl;rw [hb] at hb';cases hb';have hlt:b<w.heap.size:=(hf.own b (hF1 b hFb)).1;have hsz:(a.eval y).cells.size=e.n:=by rw [<-hY.1];exact hn
 have hone:=hY.ones h1;have hle2:off+(a.eval y).cells.toList.length≤c.size:=by simp;rw [hsz];omega
 have hst:=run_storeCells_at (P:=P) b off T' (a.eval y).cells.toList 0 c w hw (by simpa using hle2) hone;simp only [Nat.add_zero] at hst;generalize hc2:(c.toList.take off++(a.eval y).cells.toList++c.toList.drop (off+(a.eval y).cells.toList.length)).toArray=c2 at hst;have hc2s:c2.size=c.size:=by rw [<-hc2];simp only [List.size_toArray,List.length_append,List.length_take,List.length_drop,Array.length_toList];simp only [Array.length_toList] at hle2;omega
 have hrow:=setRow_heap w b c c2 T' (0,0) hw;refine⟨w.setRow b c2,β,F,?_,hβ,λ_ _ h=>h,λl x b hl hx _=>?_,?_,GY w b c2 _ ⟨l,by simp,_,hb,rfl⟩⟩
 ·simp only [execOp,Instr.storeAt,hxv,Instr.sureAddr,Sem.run_bind,Sem.run_pure,Result.andThen_ok,storeVar,htb.size he];rw [Sem.run_ite,gC (by simp [hsz]),hst];rfl
 ·rw [gN (by omega)] at hx;cases hx
 ·have hk:=GY w b c2 (λx=>x=b) rfl;have hM:∀x,x=b->x<B.w0.heap.size->B.M x:=λx hx hlt'=>by subst hx;exact (hf.own x (hF1 x hFb)).2 hlt'
  refine⟨hf.kp.trans hk hM,hf.ok,λb hb=>by have:=hf.own b hb;exact⟨by simpa using this.1,this.2⟩,hset _ _ (λb' hb' hn hlt=>setRow_other w b b' c2 (λe=>hn (e▸hFb))) ?_,hf.env,by simpa [Act.put] using hf.size,hf.defers,hf.pre⟩;refine⟨b,c2,T',hb,hrow,by rw [Z2,hc2s];exact hs,λj C hC=>?_,hFb⟩;rw [Zu _ _ _ _ hle'] at hC;rw [<-hc2,Yw _ _ _ hle2];have hlen:cs.length=(a.eval y).cells.toList.length:=by rw [hY.1];simp
  rw [<-hlen];split at hC
  ·rename_i hj;rw [gF hj];have:=hY.2 _ _ hC;simpa [gA] using this
  ·rename_i hj;rw [gC hj];exact hdn _ _ hC
end
def AVal.isRo:AVal->Bool
 | .v _ | .sl _ _ _ | .rp _ | .rm _ _ _ | .sv _=>true
 | _=>false
theorem On.ro_of{w0 w:World}{ok:Nat->Prop}{A:AVal}{x:Value}{F:Nat->Prop}(h:On w0 ok w A x F)(hA:A.isRo=true):Ro w0 ok A x:=by
 cases h with
 | ro F h=>exact h
 | _=>cases hA
theorem Dn.ro_of{w0:World}{ok:Nat->Prop}{β:List Value}{A:AVal}{x:Value}(h:Dn w0 ok β A x)(hA:A.isRo=true):Ro w0 ok A x:=by
 cases h with
 | ro h=>exact h
 | _=>cases hA
mutual
inductive Fz:AVal->AVal->Prop where
 | ro {A:AVal} (h:A.isRo=true):Fz A A
 | os {α:Type} {n:Nat} {enc enc':α->List AVal} {xs:List α} (h:∀x:α,FzL (enc x) (enc' x)):Fz (.os n enc xs) (.sl n enc' xs)
 | om {κ α:Type} {ke:κ->Value} {ve ve':α->AVal} {xs:List (κ×α)} (h:∀x:α,Fz (ve x) (ve' x)):Fz (.om ke ve xs) (.rm ke ve' xs)
inductive FzL:List AVal->List AVal->Prop where
 | nil:FzL [] []
 | cons {A A':AVal} {r r':List AVal} (h:Fz A A') (hr:FzL r r'):FzL (A :: r) (A' :: r')
end
theorem FzL.get:∀{c c':List AVal},FzL c c'->c.length=c'.length∧∀(j:Nat) (A':AVal),c'[j]?=some A'->∃A,c[j]?=some A∧Fz A A'
 | _,_,.nil=>⟨rfl,by simp⟩
 | _,_,.cons h hr=>by
  obtain⟨e1,e2⟩:=hr.get;refine⟨by simp [e1],λj C hC=>?_⟩;cases j with
  | zero=>simp at hC;subst hC;exact⟨_,rfl,h⟩
  | succ j=>obtain⟨S',h3,h4⟩:=e2 j C (by simpa using hC);exact⟨S',by simpa using h3,h4⟩
theorem Fz.ro_eq{w:World}{ok:Nat->Prop}{A A':AVal}{x:Value}(h:Fz A A')(hr:Ro w ok A x):A'=A:=by
 cases h with
 | ro=>rfl
 | os=>cases hr
 | om=>cases hr
theorem On.freeze{w0 w:World}{ok ok':Nat->Prop}(hk:∀b,ok b->w.heap[b]?=w0.heap[b]?)(ho:∀b,ok b->ok' b){A:AVal}{x:Value}{F:Nat->Prop}(h:On w0 ok w A x F):
  ∀{A':AVal},Fz A A'->(∀b,F b->ok' b)->Ro w ok' A' x:=by
 induction h with
 | ro F h=>
  intro A' hf _;rw [hf.ro_eq h];exact (h.later (λb hb _=>hk b hb)).mono ho
 | osNil n enc F p=>
  intro A' hf _;cases hf with
  | ro h=>cases h
  | os h=>exact .slNil _ _ p
 | os n enc xs b off cap c T F G hb hw hlen hcap hn hG hd hr ih=>
  intro A' hf hF;cases hf with
  | ro h=>cases h
  | os h=>
   rename_i enc';refine .sl n enc' xs b off cap (λi j=>c.getD (off+i*n+j) undef) (hF b hb) hlen (λi x hx=>by rw [<-(h x).get.1];exact hn i x hx) (λi j x A' hx hA'=>?_) (λi j x A' hx hA'=>?_)
   ·have hj:=(gS.1 hA').1;rw [<-(h x).get.1,hn i x hx] at hj;have hi:=(gS.1 hx).1;have hlt:off+i*n+j<c.size:=by
     have:(i+1)*n≤cap*n:=gB _ (by omega);rw [Nat.succ_mul] at this;omega
    exact Wc hw hlt
   ·obtain⟨A,hA,hf'⟩:=(h x).get.2 j A' hA';exact ih i j x A hx hA hf' (λk hk'=>hF k (hG i j k hk').1)
 | arr=>
  intro A' hf _;cases hf with
  | ro h=>cases h
 | om ke ve xs b es clock F G hb hw he hG hd hr ih=>
  intro A' hf hF;cases hf with
  | ro h=>cases h
  | om h=>exact .rm ke _ xs b es clock (hF b hb) hw he (λi x e hx he'=>ih i x e hx he' (h x.2) (λk hk'=>hF k (hG i k hk').1))
mutual
def AVal.ml(f:Nat->Nat):AVal->AVal
 | .v x=>.v x
 | .p l off=>.p (f l) off
 | .rp cs=>.rp cs
 | .sl n enc xs=>.sl n enc xs
 | .os n enc xs=>.os n enc xs
 | .o l=>.o (f l)
 | .ep l n i off=>.ep (f l) n i off
 | .vw l n i m=>.vw (f l) n i m
 | .agg cs=>.agg (AVal.mlL f cs)
 | .tup cs=>.tup (AVal.mlL f cs)
 | .fn g a b=>.fn g (AVal.mlL f a) (AVal.mlL f b)
 | .arr n enc xs=>.arr n enc xs
 | .om ke ve xs=>.om ke ve xs
 | .rm ke ve xs=>.rm ke ve xs
 | .sv cs=>.sv cs
def AVal.mlL(f:Nat->Nat):List AVal->List AVal
 | []=>[]
 | A :: r=>A.ml f :: AVal.mlL f r
end
theorem YC(f:Nat->Nat):∀cs:List AVal,AVal.mlL f cs=cs.map (AVal.ml f)
 | []=>by simp [AVal.mlL]
 | A :: r=>by simp [AVal.mlL,YC f r]
def Res.ml(f:Nat->Nat):Res->Res
 | .box cells=>.box (AVal.mlL f cells)
 | .val A=>.val A
 | .lent enc xs L=>.lent enc xs (L.map λp=>(p.1,f p.2))
 | .lentm ke ve xs L=>.lentm ke ve xs (L.map λp=>(p.1,f p.2))
 | .rng ke ve xs seen li=>.rng ke ve xs seen (f li)
 | .itn=>.itn
 | .rngm ke ve xs seen=>.rngm ke ve xs seen
 | .abs Φ=>.abs Φ
section
variable {w:World} {ok:Nat->Prop} {β β':List Value} {f:Nat->Nat}
mutual
theorem Dn.of_ml(hf:∀(l:Nat) (v:Value),β[f l]?=some v->β'[l]?=some v):∀(A:AVal) (x:Value),Dn w ok β (A.ml f) x->Dn w ok β' A x
 | .v y,x,h=>by simp only [AVal.ml] at h;exact .ro (h.ro_of rfl)
 | .rp cs,x,h=>by simp only [AVal.ml] at h;exact .ro (h.ro_of rfl)
 | .sl n enc xs,x,h=>by simp only [AVal.ml] at h;exact .ro (h.ro_of rfl)
 | .rm ke ve xs,x,h=>by simp only [AVal.ml] at h;exact .ro (h.ro_of rfl)
 | .sv cs,x,h=>by simp only [AVal.ml] at h;exact .ro (h.ro_of rfl)
 | .arr n enc xs,x,h=>by
  simp only [AVal.ml] at h;cases h with
  | ro h=>cases h
 | .om ke ve xs,x,h=>by
  simp only [AVal.ml] at h;cases h with
  | ro h=>cases h
 | .os n enc xs,x,h=>by
  simp only [AVal.ml] at h;cases h with
  | ro h=>cases h
 | .p l off,x,h=>by simp only [AVal.ml] at h;obtain⟨b,hb,rfl⟩:=h.p_inv;exact .p _ _ _ (hf _ _ hb)
 | .o l,x,h=>by simp only [AVal.ml] at h;exact .o _ _ (hf _ _ h.o_inv) (h.one rfl)
 | .ep l n i off,x,h=>by simp only [AVal.ml] at h;obtain⟨b,o,len,cap,hb,rfl⟩:=h.ep_inv;exact .ep _ _ _ _ _ _ _ _ (hf _ _ hb)
 | .vw l n i m,x,h=>by simp only [AVal.ml] at h;exact .vw _ _ _ _ _ (h.vw_inv.map λv=>hf l v)
 | .agg cs,x,h=>by
  simp only [AVal.ml] at h;obtain⟨vs,rfl,hl,hd⟩:=h.agg_inv;have:=Dn.of_mlL hf cs vs.toList (by simpa using hl) (λj A hA=>by simpa [gA] using hd j A hA);exact .agg cs vs (by simpa [YC] using hl) (λj A hA=>by simpa [gA] using this j A hA)
 | .tup cs,x,h=>by
  simp only [AVal.ml] at h;obtain⟨vs,rfl,hl,hd⟩:=h.tup_inv;have:=Dn.of_mlL hf cs vs.toList (by simpa using hl) (λj A hA=>by simpa [gA] using hd j A hA);exact .tup cs vs (by simpa [YC] using hl) (λj A hA=>by simpa [gA] using this j A hA)
 | .fn g a b,x,h=>by
  simp only [AVal.ml] at h;cases h with
  | ro h=>cases h
  | fn _ _ _ us vs hl h hl' h'=>
   have h1:=Dn.of_mlL hf a us.toList (by simpa using hl) (λj A hA=>by simpa [gA] using h j A hA);have h2:=Dn.of_mlL hf b vs.toList (by simpa using hl') (λj A hA=>by simpa [gA] using h' j A hA);exact .fn g a b us vs (by simpa [YC] using hl) (λj A hA=>by simpa [gA] using h1 j A hA) (by simpa [YC] using hl') (λj A hA=>by simpa [gA] using h2 j A hA)
theorem Dn.of_mlL(hf:∀(l:Nat) (v:Value),β[f l]?=some v->β'[l]?=some v):∀(cs:List AVal) (vs:List Value),(AVal.mlL f cs).length=vs.length->(∀(j:Nat) (A:AVal),(AVal.mlL f cs)[j]?=some A->Dn w ok β A (vs[j]?.getD undef)) ->
  ∀(j:Nat) (A:AVal),cs[j]?=some A->Dn w ok β' A (vs[j]?.getD undef)
 | [],vs,_,_,j,A,hA=>by simp at hA
 | C :: r,vs,hl,hd,j,A,hA=>by
  obtain⟨v,vs,rfl⟩:∃v vs',vs=v :: vs':=by
   cases vs with
   | nil=>simp [AVal.mlL] at hl
   | cons v vs=>exact⟨v,vs,rfl⟩
  simp only [AVal.mlL] at hl hd;cases j with
  | zero=>
   simp at hA;subst hA;have:=Dn.of_ml hf C v (by simpa using hd 0 _ rfl);simpa using this
  | succ j=>
   have:=Dn.of_mlL hf r vs (by simpa using hl) (λj A hA=>by simpa using hd (j+1) A (by simpa using hA)) j A (by simpa using hA);simpa using this
end
theorem Dn.lift{w0 w:World}{ok ok':Nat->Prop}{β:List Value}{A:AVal}{x:Value}(hk:∀b,ok b->w.heap[b]?=w0.heap[b]?)(ho:∀b,ok b->ok' b)(h:Dn w0 ok β A x):Dn w ok' β A x:=by
 induction h with
 | ro h=>exact .ro ((h.later (λb hb _=>hk b hb)).mono ho)
 | p l off b h=>exact .p _ _ _ h
 | o l x h h1=>exact .o _ _ h h1
 | ep l n i off b o len cap h=>exact .ep _ _ _ _ _ _ _ _ h
 | vw l n i m x h=>exact .vw _ _ _ _ _ h
 | agg cs vs hl _ ih=>exact .agg _ vs hl ih
 | tup cs vs hl _ ih=>exact .tup _ vs hl ih
 | fn g fs cs us vs hl _ hl' _ ih ih'=>exact .fn g _ _ us vs hl ih hl' ih'
theorem Dn.ml(hf:∀(l:Nat) (v:Value),β[l]?=some v->β'[f l]?=some v){A:AVal}{x:Value}(h:Dn w ok β A x):Dn w ok β' (A.ml f) x:=by
 induction h with
 | ro h=>cases h with
  | v=>exact .ro (.v _)
  | slNil n enc p=>exact .ro (.slNil n enc p)
  | sl n enc xs b off cap f hb hcap hn hc hr=>exact .ro (.sl n enc xs b off cap f hb hcap hn hc hr)
  | rp cells b off f hb hc hr=>exact .ro (.rp cells b off f hb hc hr)
  | rmNil ke ve=>exact .ro (.rmNil ke ve)
  | rm ke ve xs b es clock hb hw he hr=>exact .ro (.rm ke ve xs b es clock hb hw he hr)
  | sv cs vs hl h=>exact .ro (.sv cs vs hl h)
 | p l off b h=>exact .p _ _ _ (hf _ _ h)
 | o l x h h1=>exact .o _ _ (hf _ _ h) h1
 | ep l n i off b o len cap h=>exact .ep _ _ _ _ _ _ _ _ (hf _ _ h)
 | vw l n i m x h=>exact .vw _ _ _ _ _ (h.map λv=>hf l v)
 | agg cs vs hl _ ih=>
  refine .agg _ vs (by simpa [YC] using hl) (λj A hA=>?_);simp only [YC,gK,Option.map_eq_some_iff] at hA;obtain⟨C,hC,rfl⟩:=hA;exact ih j C hC
 | tup cs vs hl _ ih=>
  refine .tup _ vs (by simpa [YC] using hl) (λj A hA=>?_);simp only [YC,gK,Option.map_eq_some_iff] at hA;obtain⟨C,hC,rfl⟩:=hA;exact ih j C hC
 | fn g fs cs us vs hl _ hl' _ ih ih'=>
  refine .fn g _ _ us vs (by simpa [YC] using hl) (λj A hA=>?_) (by simpa [YC] using hl') (λj A hA=>?_)
  ·simp only [YC,gK,Option.map_eq_some_iff] at hA;obtain⟨C,hC,rfl⟩:=hA;exact ih j C hC
  ·simp only [YC,gK,Option.map_eq_some_iff] at hA;obtain⟨C,hC,rfl⟩:=hA;exact ih' j C hC
end
def memB(x:Nat):List Nat->Bool
 | []=>false
 | y :: r=>bif x.beq y then true else memB x r
def ndup:List Nat->Bool
 | []=>true
 | x :: r=>bif memB x r then false else ndup r
theorem Q8H{x:Nat}:∀{l:List Nat},x∈l->memB x l=true
 | y :: r,h=>by
  rw [memB];rcases List.mem_cons.1 h with e | e
  ·subst e;simp
  ·have:=Q8H e;cases hb:x.beq y <;> simp [this]
theorem Q2H:∀{l:List Nat},ndup l=true->l.Nodup
 | [],_=>List.nodup_nil
 | x :: r,h=>by
  rw [ndup] at h;cases hm:memB x r with
  | true=>simp [hm] at h
  | false=>
   simp [hm] at h;exact List.nodup_cons.2 ⟨(λhx=>by rw [Q8H hx] at hm;cases hm),Q2H h⟩
def rlab(ρ:List (Option Nat))(z l:Nat):Nat:=
 match ρ[l]? with
 | some (some m)=>m
 | _=>z
def Zl:List (Option Nat)->Nat->Bool
 | [],_=>false
 | some m :: r,l=>bif m.beq l then true else Zl r l
 | none :: r,l=>Zl r l
theorem Q5H{l:Nat}:∀{ρ:List (Option Nat)},some l∈ρ->Zl ρ l=true
 | some m :: r,h=>by
  rw [Zl];rcases List.mem_cons.1 h with e | e
  ·cases e;simp
  ·have:=Q5H e;cases hb:m.beq l <;> simp [this]
 | none :: r,h=>by
  rw [Zl];rcases List.mem_cons.1 h with e | e
  ·cases e
  ·exact Q5H e
def rlβ(ρ:List (Option Nat))(β:List Value):List Value:=ρ.map λm=>match m with
 | some m=>(β[m]?).getD undef
 | none=>.slice none 0 0
theorem Q3S{ρ:List (Option Nat)}{β:List Value}{l:Nat}{x:Value}(h:β[rlab ρ β.length l]?=some x):(rlβ ρ β)[l]?=some x:=by
 unfold rlab at h;split at h
 ·rename_i m hm;simp [rlβ,hm,h]
 ·simp at h
theorem WU{ρ:List (Option Nat)}{β:List Value}{l m:Nat}{x:Value}(hm:ρ[l]?=some (some m))(h:β[m]?=some x):(rlβ ρ β)[l]?=some x:=by simp [rlβ,hm,h]
mutual
inductive Cs (H:Heap) (ρ:List (Option Nat)) (nl:Nat) (fz:Bool):AVal->AVal->Prop where
 | eq {A A':AVal} (h:A=A'.ml (rlab ρ nl)):Cs H ρ nl fz A A'
 | nil {α:Type} (n:Nat) (enc:α->List AVal) (l c:Nat) (h:l=0∧c=0):Cs H ρ nl fz (.v (.slice none l c)) (.sl n enc [])
 | nilO {i:Nat} (l c:Nat) (h:l=0∧c=0) (hi:ρ[i]?=some none):Cs H ρ nl fz (.v (.slice none l c)) (.o i)
 | nilM {κ α:Type} (ke:κ->Value) (ve:α->AVal):Cs H ρ nl fz (.v (.map none)) (.rm ke ve [])
 | fz {l:Nat} {A A':AVal} (hf:fz=true) (hl:find H l=some (.val A)) (hk:Zl ρ l=false) (h:Fz A A'):Cs H ρ nl fz (.o l) A'
 | fzp {l off:Nat} {cells cs cs':List AVal} (hf:fz=true) (hl:find H l=some (.box cells)) (hk:Zl ρ l=false) (hd:cells.drop off=cs) (h:CsL H ρ nl fz cs cs') (hr:cs'.all AVal.isRo=true):Cs H ρ nl fz (.p l off) (.rp cs')
 | agg {cs cs':List AVal} (h:CsL H ρ nl fz cs cs'):Cs H ρ nl fz (.agg cs) (.agg cs')
 | tup {cs cs':List AVal} (h:CsL H ρ nl fz cs cs'):Cs H ρ nl fz (.tup cs) (.tup cs')
 | fn {g:Fn} {a a' b b':List AVal} (h:CsL H ρ nl fz a a') (h':CsL H ρ nl fz b b'):Cs H ρ nl fz (.fn g a b) (.fn g a' b')
 | fnv (g:Fn):Cs H ρ nl fz (.fn g [] []) (.v (.func g #[] #[]))
inductive CsL (H:Heap) (ρ:List (Option Nat)) (nl:Nat) (fz:Bool):List AVal->List AVal->Prop where
 | nil:CsL H ρ nl fz [] []
 | cons {A A':AVal} {r r':List AVal} (h:Cs H ρ nl fz A A') (hr:CsL H ρ nl fz r r'):CsL H ρ nl fz (A :: r) (A' :: r')
 | eq {cs cs':List AVal} (h:cs=AVal.mlL (rlab ρ nl) cs'):CsL H ρ nl fz cs cs'
end
inductive ChkS (H:Heap) (ρ:List (Option Nat)) (nl:Nat) (fz:Bool):Option Nat->Res->Prop where
 | nil {α:Type} (n:Nat) (enc:α->List AVal):ChkS H ρ nl fz none (.val (.os n enc []))
 | box {l:Nat} {c c':List AVal} (h:find H l=some (.box c)) (hc:CsL H ρ nl fz c c'):ChkS H ρ nl fz (some l) (.box c')
 | val {l:Nat} {A:AVal} (h:find H l=some (.val A)):ChkS H ρ nl fz (some l) (.val A)
 | endR {l:Nat} {κ γ:Type} {ke:κ->Value} {ve:γ->AVal} {xs:List (κ×γ)} {seen:List κ} {li:Nat} (h:find H l=some (.rng ke ve xs seen li)):ChkS H ρ nl fz (some l) (.val (.om ke ve xs))
 | lent {α:Type} {enc:α->List AVal} {xs:List α} {L L':List (Nat×Nat)} {l:Nat} (h:find H l=some (.lent enc xs L)) (hL:L=L'.map λp=>(p.1,rlab ρ nl p.2)):ChkS H ρ nl fz (some l) (.lent enc xs L')
 | lentm {κ α:Type} {ke:κ->Value} {ve:α->AVal} {xs:List (κ×α)} {L L':List (κ×Nat)} {l:Nat} (h:find H l=some (.lentm ke ve xs L)) (hL:L=L'.map λp=>(p.1,rlab ρ nl p.2)):ChkS H ρ nl fz (some l) (.lentm ke ve xs L')
 | rng {κ α:Type} {ke:κ->Value} {ve:α->AVal} {xs:List (κ×α)} {seen:List κ} {li li' l:Nat} (h:find H l=some (.rng ke ve xs seen li)) (hli:li=rlab ρ nl li'):ChkS H ρ nl fz (some l) (.rng ke ve xs seen li')
 | itn {l:Nat} (h:find H l=some .itn):ChkS H ρ nl fz (some l) .itn
 | rngm {κ α:Type} {ke:κ->Value} {ve:α->AVal} {xs:List (κ×α)} {seen:List κ} {l:Nat} (h:find H l=some (.rngm ke ve xs seen)):ChkS H ρ nl fz (some l) (.rngm ke ve xs seen)
 | abs {l:Nat} {Φ:World->(Nat->Prop)->(Nat->Prop)->Prop} (h:find H l=some (.abs Φ)):ChkS H ρ nl fz (some l) (.abs Φ)
def ChkH(H:Heap)(ρ:List (Option Nat))(nl:Nat)(fz:Bool):Heap->Prop
 | []=>True
 | (i,R) :: r=>(∃m,ρ[i]?=some m∧ChkS H ρ nl fz m R)∧ChkH H ρ nl fz r
def ChkG(H:Heap)(ρ:List (Option Nat))(nl:Nat)(fz:Bool)(Γ:Env):Env->Prop
 | []=>True
 | (t,A) :: r=>(∃S,find Γ t=some S∧Cs H ρ nl fz S A)∧ChkG H ρ nl fz Γ r
theorem ChkG.get{H:Heap}{ρ:List (Option Nat)}{nl:Nat}{fz:Bool}{Γ:Env}:∀{Γ':Env},ChkG H ρ nl fz Γ Γ'->∀{t:Nat} {A:AVal},find Γ' t=some A->∃S,find Γ t=some S∧Cs H ρ nl fz S A
 | [],_,_,_,h=>by simp [find] at h
 | (k,C) :: r,⟨h1,h2⟩,t,A,h=>by
  rw [find_cons] at h;split at h
  ·rename_i e;subst e;cases h;exact h1
  ·exact h2.get h
theorem HOk.fam{w0 w:World}{ok:Nat->Prop}{β:List Value}:∀{H:Heap} {F:Nat->Prop},HOk w0 ok β w H F ->
  ∃Fl:Nat->Nat->Prop,(∀l R,find H l=some R->Gn w0 ok β w l (Fl l) R∧∀b,Fl l b->F b)∧∀l l' R R',l≠l'->find H l=some R->find H l'=some R'->∀b,Fl l b->Fl l' b->False
 | [],_,_=>⟨λ_ _=>False,λl R h=>by simp [find] at h,λ_ _ _ _ _ h=>by simp [find] at h⟩
 | (k,S) :: H,F,⟨F1,F2,h1,h2,h12,hR,hH⟩=>by
  obtain⟨Fl,f1,f2⟩:=hH.fam;refine⟨λl b=>if k=l then F1 b else Fl l b,λl R hl=>?_,λl l' R R' hne hl hl' b hb hb'=>?_⟩
  ·rw [find_cons] at hl;split at hl
   ·rename_i e;subst e;cases hl;simp only [if_true];exact⟨hR,h1⟩
   ·rename_i e;simp only [gC e];exact⟨(f1 l R hl).1,λb hb=>h2 b ((f1 l R hl).2 b hb)⟩
  ·rw [find_cons] at hl hl';split at hl
   ·rename_i e;subst e;rw [gC hne] at hl';simp only [if_true] at hb;rw [gC hne] at hb';exact h12 b hb ((f1 _ _ hl').2 b hb')
   ·rename_i e;rw [gC e] at hb;split at hl'
    ·rename_i e';subst e';simp only [if_true] at hb';exact h12 b hb' ((f1 _ _ hl).2 b hb)
    ·rename_i e';rw [gC e'] at hb';exact f2 l l' R R' hne hl hl' b hb hb'
theorem Q5s:∀{H:Heap} {l:Nat} {R:Res},(H.map (·.1)).Nodup->(l,R)∈H->find H l=some R
 | (k,S) :: H,l,R,hn,h=>by
  simp only [List.map_cons,List.nodup_cons] at hn;rw [find_cons];rcases List.mem_cons.1 h with e | e
  ·cases e;rw [gF rfl]
  ·have:k≠l:=λe'=>by subst e';exact hn.1 (List.mem_map.2 ⟨_,e,rfl⟩)
   rw [gC this];exact Q5s hn.2 e
theorem HOk.sub{w0 w:World}{ok:Nat->Prop}{β:List Value}{H:Heap}{Fl:Nat->Nat->Prop}(f1:∀l R,find H l=some R->Gn w0 ok β w l (Fl l) R)(f2:∀l l' R R',l≠l'->find H l=some R->find H l'=some R'->∀b,Fl l b->Fl l' b->False):
  ∀{H':Heap},(∀x,x∈H'->find H x.1=some x.2)->(H'.map (·.1)).Nodup->HOk w0 ok β w H' (λb=>∃x,x∈H'∧Fl x.1 b)
 | [],_,_=>trivial
 | (l,R) :: r,hf,hn=>by
  simp only [List.map_cons,List.nodup_cons] at hn;refine⟨Fl l,λb=>∃x,x∈r∧Fl x.1 b,λb hb=>⟨(l,R),by simp,hb⟩,λb ⟨x,hx,hb⟩=>⟨x,by simp [hx],hb⟩,λb hb ⟨x,hx,hb'⟩=>?_,f1 l R (hf (l,R) (by simp)),HOk.sub f1 f2 (λx hx=>hf x (by simp [hx])) hn.2⟩;have hne:l≠x.1:=λe=>hn.1 (List.mem_map.2 ⟨x,hx,e.symm⟩)
  exact f2 _ _ _ _ hne (hf (l,R) (by simp)) (hf x (by simp [hx])) b hb hb'
theorem HOk.append{w0 w:World}{ok:Nat->Prop}{β:List Value}{H2:Heap}{F2:Nat->Prop}(h2:HOk w0 ok β w H2 F2):∀{H1:Heap} {F1:Nat->Prop},HOk w0 ok β w H1 F1->(∀b,F1 b->F2 b->False)->HOk w0 ok β w (H1++H2) (λb=>F1 b∨F2 b)
 | [],F1,_,_=>h2.mono (λb hb=>.inr hb)
 | (l,R) :: H1,F1,⟨G1,G2,g1,g2,g12,hR,hH⟩,hd=>
  ⟨G1,λb=>G2 b∨F2 b,λb hb=>.inl (g1 b hb),λb hb=>hb.imp (g2 b) id,λb hb hb'=>hb'.elim (g12 b hb) (hd b (g1 b hb)),hR,HOk.append h2 hH (λb hb hb'=>hd b (g2 b hb) hb')⟩
section
variable {w0 w:World} {ok ok2:Nat->Prop} {β:List Value} {H:Heap} {ρ:List (Option Nat)} {fz:Bool} {Fl:Nat->Nat->Prop}
mutual
theorem Cs.dn(hk:∀b,ok b->w.heap[b]?=w0.heap[b]?)(ho:∀b,ok b->ok2 b)(f1:∀l R,find H l=some R->Gn w0 ok β w l (Fl l) R)(f3:fz=true->∀l R,find H l=some R->Zl ρ l=false->∀b,Fl l b->ok2 b):
  ∀{A A':AVal} {x:Value},Cs H ρ β.length fz A A'->Dn w0 ok β A x->Dn w ok2 (rlβ ρ β) A' x
 | A,A',x,.eq h,hd=>by
  subst h;have hd':=Dn.of_ml (β':=rlβ ρ β) (λl v h=>Q3S h) A' x hd;exact hd'.lift hk ho
 | _,_,x,.nil n enc l c h,hd=>by
  obtain⟨rfl,rfl⟩:=h;have:=hd.ro_of rfl;cases this;exact .ro (.slNil n enc none)
 | _,_,x,.nilO l c h hi,hd=>by
  obtain⟨rfl,rfl⟩:=h;have:=hd.ro_of rfl;cases this;exact .o _ _ (by simp [rlβ,hi]) rfl
 | _,_,x,.nilM ke ve,hd=>by
  have:=hd.ro_of rfl;cases this;exact .ro (.rmNil ke ve)
 | _,_,x,.fz hf hl hkp h,hd=>by
  obtain⟨y,hy,hon⟩:=f1 _ _ hl;have:=hd.o_inv;rw [hy] at this;cases this;exact .ro (hon.freeze hk ho h (f3 hf _ _ hl hkp))
 | _,_,x,.fnv g,hd=>by
  cases hd with
  | ro h=>cases h
  | fn f fs cs us vs hl h hl' h'=>
   have e1:us=#[]:=Array.eq_empty_of_size_eq_zero (by simpa using hl.symm);have e2:vs=#[]:=Array.eq_empty_of_size_eq_zero (by simpa using hl'.symm);subst e1;subst e2;exact .ro (.v _)
 | _,_,x,.fzp (off:=off) hf hl hkp hdr h hr,hd=>by
  obtain⟨b,hb,rfl⟩:=hd.p_inv;obtain⟨b',c,T,hb',hw,hs,hdn,hFb⟩:=f1 _ _ hl;rw [hb] at hb';cases hb';subst hdr;have key:=CsL.dn hk ho f1 f3 h (vs:=(c.toList.drop off)) (by simp [hs]) (λj A hA=>by
   rw [List.getElem?_drop] at hA;have:=hdn _ A hA;simpa [gA,List.getElem?_drop] using this)
  refine .ro (.rp _ b off (λj=>c.getD (off+j) undef) (f3 hf _ _ hl hkp b hFb) (λj A hA=>?_) (λj A hA=>?_))
  ·have hj:=(gS.1 hA).1;have hlen:=key.1;simp only [List.length_drop,Array.length_toList] at hlen;exact Wc hw (by omega)
  ·have:=(key.2 j A hA).ro_of (gT.1 hr A (gM hA));simpa [gA,List.getElem?_drop] using this
 | _,_,x,.agg h,hd=>by
  obtain⟨vs,rfl,hl,hdn⟩:=hd.agg_inv;have key:=CsL.dn hk ho f1 f3 h (vs:=vs.toList) (by simpa using hl) (λj A hA=>by simpa [gA] using hdn j A hA);exact .agg _ vs (by simpa using key.1) (λj A hA=>by simpa [gA] using key.2 j A hA)
 | _,_,x,.tup h,hd=>by
  obtain⟨vs,rfl,hl,hdn⟩:=hd.tup_inv;have key:=CsL.dn hk ho f1 f3 h (vs:=vs.toList) (by simpa using hl) (λj A hA=>by simpa [gA] using hdn j A hA);exact .tup _ vs (by simpa using key.1) (λj A hA=>by simpa [gA] using key.2 j A hA)
 | _,_,x,.fn h h',hd=>by
  cases hd with
  | ro hd=>cases hd
  | fn _ _ _ us vs hl hd hl' hd'=>
   have k1:=CsL.dn hk ho f1 f3 h (vs:=us.toList) (by simpa using hl) (λj A hA=>by simpa [gA] using hd j A hA);have k2:=CsL.dn hk ho f1 f3 h' (vs:=vs.toList) (by simpa using hl') (λj A hA=>by simpa [gA] using hd' j A hA);exact .fn _ _ _ us vs (by simpa using k1.1) (λj A hA=>by simpa [gA] using k1.2 j A hA) (by simpa using k2.1) (λj A hA=>by simpa [gA] using k2.2 j A hA)
theorem CsL.dn(hk:∀b,ok b->w.heap[b]?=w0.heap[b]?)(ho:∀b,ok b->ok2 b)(f1:∀l R,find H l=some R->Gn w0 ok β w l (Fl l) R)(f3:fz=true->∀l R,find H l=some R->Zl ρ l=false->∀b,Fl l b->ok2 b):
  ∀{cs cs':List AVal},CsL H ρ β.length fz cs cs'->∀{vs:List Value},cs.length=vs.length->(∀(j:Nat) (A:AVal),cs[j]?=some A->Dn w0 ok β A (vs[j]?.getD undef))->cs'.length=vs.length∧∀(j:Nat) (A:AVal),cs'[j]?=some A->Dn w ok2 (rlβ ρ β) A (vs[j]?.getD undef)
 | _,_,.nil,vs,hl,hd=>⟨hl,by simp⟩
 | _,_,.eq (cs':=cs') h,vs,hl,hd=>by
  subst h;refine⟨by simpa [YC] using hl,λj A hA=>?_⟩;have:=Dn.of_mlL (β':=rlβ ρ β) (λl v h=>Q3S h) cs' vs hl hd j A hA;exact this.lift hk ho
 | _,_,.cons h hr,vs,hl,hd=>by
  obtain⟨v,vs,rfl⟩:∃v vs',vs=v :: vs':=by
   cases vs with
   | nil=>simp at hl
   | cons v vs=>exact⟨v,vs,rfl⟩
  have k1:=Cs.dn hk ho f1 f3 h (x:=v) (by simpa using hd 0 _ rfl);have k2:=CsL.dn hk ho f1 f3 hr (vs:=vs) (by simpa using hl) (λj A hA=>by simpa using hd (j+1) A (by simpa using hA));refine⟨by simp [k2.1],λj A hA=>?_⟩;cases j with
  | zero=>simp at hA;subst hA;simpa using k1
  | succ j=>simpa using k2.2 j A (by simpa using hA)
end
end
section
variable {w0 w:World} {ok ok2:Nat->Prop} {β:List Value} {H:Heap} {ρ:List (Option Nat)} {fz:Bool} {Fl:Nat->Nat->Prop}
theorem On.lift{A:AVal}{x:Value}{F:Nat->Prop}(hk:∀b,ok b->w.heap[b]?=w0.heap[b]?)(ho:∀b,ok b->ok2 b){w' w1:World}(h:On w0 ok w' A x F)(hw:w1=w'):On w ok2 w1 A x F:=by
 subst hw;induction h with
 | ro F h=>exact .ro F ((h.later (λb hb _=>hk b hb)).mono ho)
 | osNil n enc F p=>exact .osNil n enc F p
 | os n enc xs b off cap c T F G hb hw hlen hcap hn hG hd hr ih=>exact .os n enc xs b off cap c T F G hb hw hlen hcap hn hG hd ih
 | arr n enc xs b c T F hb hw hc hn hr=>exact .arr n enc xs b c T F hb hw hc hn (λi j x A hx hA=>((hr i j x A hx hA).later (λb hb _=>hk b hb)).mono ho)
 | om ke ve xs b es clock F G hb hw he hG hd hr ih=>exact .om ke ve xs b es clock F G hb hw he hG hd ih
theorem RngM.lift{κ α:Type}{ke:κ->Value}{ve:α->AVal}{xs:List (κ×α)}{seen:List κ}{O:Obj}(hk:∀b,ok b->w.heap[b]?=w0.heap[b]?)(ho:∀b,ok b->ok2 b)(h:RngM w0 ok ke ve xs seen O):RngM w ok2 ke ve xs seen O:=by
 rcases h with h | ⟨b,es,clock,sa,hb,hw,hO,he,hr,h1,h2⟩
 ·exact .inl h
 ·exact .inr ⟨b,es,clock,sa,ho b hb,by rw [hk b hb];exact hw,hO,he,λi x e hx he'=>((hr i x e hx he').later (λb hb _=>hk b hb)).mono ho,h1,h2⟩
theorem Gn.lift{l:Nat}{R:Res}{F:Nat->Prop}(hk:∀b,ok b->w.heap[b]?=w0.heap[b]?)(ho:∀b,ok b->ok2 b){w1:World}(h:Gn w0 ok β w1 l F R):Gn w ok2 β w1 l F R:=by
 cases R with
 | box cells=>obtain⟨b,c,T,hl,hw,hs,hd,hF⟩:=h;exact⟨b,c,T,hl,hw,hs,λj A hA=>(hd j A hA).lift hk ho,hF⟩
 | val A=>obtain⟨x,hx,h⟩:=h;exact⟨x,hx,h.lift hk ho rfl⟩
 | lent enc xs L=>
  obtain⟨b,off,cap,c,T,G,hl,hw,hF,h1,h2,h3,h4,hG,hd,hr⟩:=h;exact⟨b,off,cap,c,T,G,hl,hw,hF,h1,h2,h3,h4,hG,hd,λj x A hj hx hA=>(hr j x A hj hx hA).lift hk ho rfl⟩
 | lentm ke ve xs L=>
  obtain⟨b,es,clock,G,hl,hw,hF,he,h4,hG,hd,hr⟩:=h;exact⟨b,es,clock,G,hl,hw,hF,he,h4,hG,hd,λi x e hj hx he'=>(hr i x e hj hx he').lift hk ho rfl⟩
 | rng ke ve xs seen li=>
  obtain⟨b,bi,es,clock,sa,G,hl,hli,hne,hF,hFi,hw,hwi,he,hG,hd,hr,hs⟩:=h;exact⟨b,bi,es,clock,sa,G,hl,hli,hne,hF,hFi,hw,hwi,he,hG,hd,λi x e hx he'=>(hr i x e hx he').lift hk ho rfl,hs⟩
 | itn=>exact h
 | rngm ke ve xs seen=>obtain⟨bi,O,hl,hw,hF,r⟩:=h;exact⟨bi,O,hl,hw,hF,r.lift hk ho⟩
 | abs Φ=>
  obtain⟨hx,W,ok1,F1,hΦ,h1,h2⟩:=h;exact⟨hx,W,ok1,F1,hΦ,λb hb=>⟨ho b (h1 b hb).1,(h1 b hb).2.1,(hk b (h1 b hb).1).trans (h1 b hb).2.2⟩,h2⟩
theorem HOk.lift(hk:∀b,ok b->w.heap[b]?=w0.heap[b]?)(ho:∀b,ok b->ok2 b){w1:World}:∀{H:Heap} {F:Nat->Prop},HOk w0 ok β w1 H F->HOk w ok2 β w1 H F
 | [],_,_=>trivial
 | (l,R) :: H,F,⟨F1,F2,h1,h2,h12,hR,hH⟩=>⟨F1,F2,h1,h2,h12,hR.lift hk ho,HOk.lift hk ho hH⟩
def kept(ρ:List (Option Nat)):Heap->List Nat
 | []=>[]
 | (i,_) :: r=>match ρ[i]? with
  | some (some m)=>m :: kept ρ r
  | _=>kept ρ r
theorem Q2d:∀{H':Heap} {m:Nat},m∈kept ρ H'->Zl ρ m=true
 | (i,_) :: r,m,h=>by
  rw [kept] at h;split at h
  ·rename_i k hk;rcases List.mem_cons.1 h with e | e
   ·subst e;exact Q5H (gM hk)
   ·exact Q2d e
  ·exact Q2d h
theorem ChkS.holds(hk:∀b,ok b->w.heap[b]?=w0.heap[b]?)(ho:∀b,ok b->ok2 b)(f1:∀l R,find H l=some R->Gn w0 ok β w l (Fl l) R)(f3:fz=true->∀l R,find H l=some R->Zl ρ l=false->∀b,Fl l b->ok2 b)
  {i:Nat} {m:Option Nat} {R:Res} (hm:ρ[i]?=some m) (h:ChkS H ρ β.length fz m R):Gn w ok2 (rlβ ρ β) w i (λb=>∃l,m=some l∧Fl l b) R∧∀l,m=some l->∃S,find H l=some S:=by
 cases h with
 | nil n enc=>exact⟨⟨_,by simp [rlβ,hm],.osNil _ _ _ none⟩,by simp⟩
 | box h hc=>
  obtain⟨b,c,T,hl,hw,hs,hd,hF⟩:=f1 _ _ h;have key:=CsL.dn hk ho f1 f3 hc (vs:=c.toList) (by simpa using hs) (λj A hA=>by simpa [gA] using hd j A hA);exact⟨⟨b,c,T,WU hm hl,hw,by simpa using key.1,λj A hA=>by simpa [gA] using key.2 j A hA,_,rfl,hF⟩,λl e=>by cases e;exact⟨_,h⟩⟩
 | val h=>
  obtain⟨x,hx,hon⟩:=f1 _ _ h;exact⟨⟨x,WU hm hx,(hon.lift hk ho rfl).mono (λb hb=>⟨_,rfl,hb⟩)⟩,λl e=>by cases e;exact⟨_,h⟩⟩
 | endR h=>
  obtain⟨b,bi,es,clock,sa,G,hl,hli,hne,hF,hFi,hw,hwi,he,hG,hd,hr,hs⟩:=f1 _ _ h;exact⟨⟨_,WU hm hl,.om _ _ _ b es clock _ G ⟨_,rfl,hF⟩ hw he (λi k hk=>⟨⟨_,rfl,(hG i k hk).1⟩,(hG i k hk).2.1⟩) hd (λi x e hx he'=>(hr i x e hx he').lift hk ho rfl)⟩,λl e=>by cases e;exact⟨_,h⟩⟩
 | lent h hL=>
  obtain⟨b,off,cap,c,T,G,hl,hw,hF,h1,h2,h3,h4,hG,hd,hr⟩:=f1 _ _ h;refine⟨⟨b,off,cap,c,T,G,WU hm hl,hw,⟨_,rfl,hF⟩,h1,h2,h3,λi l' hi=>?_,λj k hk=>⟨⟨_,rfl,(hG j k hk).1⟩,(hG j k hk).2⟩,hd,λj x A hj hx hA=>((hr j x A (λl' hl'=>?_) hx hA).lift hk ho rfl)⟩,λl e=>by cases e;exact⟨_,h⟩⟩
  ·have:=h4 i (rlab ρ β.length l') (by rw [hL];exact List.mem_map.2 ⟨_,hi,rfl⟩);exact⟨this.1,Q3S this.2⟩
  ·rw [hL] at hl';obtain⟨p,hp,e⟩:=List.mem_map.1 hl';cases e;exact hj p.2 hp
 | lentm h hL=>
  obtain⟨b,es,clock,G,hl,hw,hF,he,h4,hG,hd,hr⟩:=f1 _ _ h;refine⟨⟨b,es,clock,G,WU hm hl,hw,⟨_,rfl,hF⟩,he,λk l' hi=>?_,λj k hk=>⟨⟨_,rfl,(hG j k hk).1⟩,(hG j k hk).2⟩,hd,λj x e hj hx he'=>((hr j x e (λl' hl'=>?_) hx he').lift hk ho rfl)⟩,λl e=>by cases e;exact⟨_,h⟩⟩
  ·obtain⟨i,y,e,h1,h2,h3⟩:=h4 k (rlab ρ β.length l') (by rw [hL];exact List.mem_map.2 ⟨_,hi,rfl⟩);exact⟨i,y,e,h1,h2,Q3S h3⟩
  ·rw [hL] at hl';obtain⟨p,hp,e⟩:=List.mem_map.1 hl';have e1:=congrArg Prod.fst e;have e2:=congrArg Prod.snd e;simp only at e1 e2;exact hj p.2 (by rw [<-e1];exact hp)
 | rng h hli'=>
  obtain⟨b,bi,es,clock,sa,G,hl,hli,hne,hF,hFi,hw,hwi,he,hG,hd,hr,hs⟩:=f1 _ _ h;subst hli';exact⟨⟨b,bi,es,clock,sa,G,WU hm hl,Q3S hli,hne,⟨_,rfl,hF⟩,⟨_,rfl,hFi⟩,hw,hwi,he,λi k hk=>⟨⟨_,rfl,(hG i k hk).1⟩,(hG i k hk).2⟩,hd,λi x e hx he'=>(hr i x e hx he').lift hk ho rfl,hs⟩,λl e=>by cases e;exact⟨_,h⟩⟩
 | itn h=>
  obtain⟨bi,hl,hw,hF⟩:=f1 _ _ h;exact⟨⟨bi,WU hm hl,hw,⟨_,rfl,hF⟩⟩,λl e=>by cases e;exact⟨_,h⟩⟩
 | rngm h=>
  obtain⟨bi,O,hl,hw,hF,r⟩:=f1 _ _ h;exact⟨⟨bi,O,WU hm hl,hw,⟨_,rfl,hF⟩,r.lift hk ho⟩,λl e=>by cases e;exact⟨_,h⟩⟩
 | abs h=>
  obtain⟨⟨x,hx⟩,W,ok1,F1,hΦ,h1,h2⟩:=f1 _ _ h;exact⟨⟨⟨x,WU hm hx⟩,W,ok1,F1,hΦ,λb hb=>⟨ho b (h1 b hb).1,(h1 b hb).2.1,(hk b (h1 b hb).1).trans (h1 b hb).2.2⟩,λb hb=>⟨⟨_,rfl,(h2 b hb).1⟩,(h2 b hb).2⟩⟩,λl e=>by cases e;exact⟨_,h⟩⟩
theorem HOk.chk(hk:∀b,ok b->w.heap[b]?=w0.heap[b]?)(ho:∀b,ok b->ok2 b)(f1:∀l R,find H l=some R->Gn w0 ok β w l (Fl l) R)(f2:∀l l' R R',l≠l'->find H l=some R->find H l'=some R'->∀b,Fl l b->Fl l' b->False)
  (f3:fz=true->∀l R,find H l=some R->Zl ρ l=false->∀b,Fl l b->ok2 b):
  ∀{H':Heap},ChkH H ρ β.length fz H'->(kept ρ H').Nodup->HOk w ok2 (rlβ ρ β) w H' (λb=>∃m S,m∈kept ρ H'∧find H m=some S∧Fl m b)
 | [],_,_=>trivial
 | (i,R) :: r,⟨⟨m,h1,h2⟩,h3⟩,hn=>by
  obtain⟨e1,e2⟩:=h2.holds hk ho f1 f3 h1;cases m with
  | none=>
   have hkp:kept ρ ((i,R) :: r)=kept ρ r:=by rw [kept,h1]
   rw [hkp] at hn ⊢;exact⟨λb=>∃l,none=some l∧Fl l b,_,λb ⟨l,h,_⟩=>(nomatch h),λb hb=>hb,λb ⟨l,h,_⟩=>(nomatch h),e1,HOk.chk hk ho f1 f2 f3 h3 hn⟩
  | some m=>
   have hkp:kept ρ ((i,R) :: r)=m :: kept ρ r:=by rw [kept,h1]
   rw [hkp] at hn ⊢;rw [List.nodup_cons] at hn;obtain⟨S,hS⟩:=e2 m rfl;refine⟨λb=>∃l,some m=some l∧Fl l b,_,λb ⟨l,h,hb⟩=>?_,λb ⟨m',S',h4,h5,h6⟩=>⟨m',S',by simp [h4],h5,h6⟩,λb ⟨l,h,hb⟩ ⟨m',S',h4,h5,h6⟩=>?_,e1,HOk.chk hk ho f1 f2 f3 h3 hn.2⟩
   ·cases h;exact⟨m,S,by simp,hS,hb⟩
   ·cases h;have hne:m≠m':=λe=>by subst e;exact hn.1 h4
    exact f2 _ _ _ _ hne hS h5 b hb h6
def Q1f(ρ:List (Option Nat)):Heap->Heap
 | []=>[]
 | (l,R) :: r=>bif Zl ρ l then Q1f ρ r else (l,R) :: Q1f ρ r
theorem Q01:∀{H:Heap} {x:Nat×Res},x∈Q1f ρ H->x∈H∧Zl ρ x.1=false
 | (l,R) :: r,x,h=>by
  rw [Q1f] at h;cases hk:Zl ρ l with
  | true=>rw [hk] at h;have:=Q01 h;exact⟨by simp [this.1],this.2⟩
  | false=>
   rw [hk] at h;rcases List.mem_cons.1 h with e | e
   ·subst e;exact⟨by simp,hk⟩
   ·have:=Q01 e;exact⟨by simp [this.1],this.2⟩
theorem Q1J:∀{H:Heap},(H.map (·.1)).Nodup->((Q1f ρ H).map (·.1)).Nodup
 | [],_=>List.nodup_nil
 | (l,R) :: r,h=>by
  simp only [List.map_cons,List.nodup_cons] at h;rw [Q1f];cases hk:Zl ρ l with
  | true=>exact Q1J h.2
  | false=>
   simp only [cond_false,List.map_cons,List.nodup_cons];refine⟨λhm=>?_,Q1J h.2⟩;obtain⟨x,hx,e⟩:=List.mem_map.1 hm;exact h.1 (e▸List.mem_map.2 ⟨x,(Q01 hx).1,rfl⟩)
theorem HOk.cast{F:Nat->Prop}(hH:HOk w0 ok β w H F)(hk:∀b,ok b->w.heap[b]?=w0.heap[b]?)(hokF:∀b,ok b->¬F b){H':Heap}(hC:ChkH H ρ β.length fz H')(hn:ndup (kept ρ H')=true):
  ∃G ok2:Nat->Prop,(∀b,G b->∃m,Zl ρ m=true)∧(∀b,G b->F b∧¬ok2 b)∧(∀b,ok b->ok2 b)∧(∀b,ok2 b->ok b∨(fz=true∧F b∧¬G b))∧HOk w ok2 (rlβ ρ β) w H' G∧(∀A A' x,Cs H ρ β.length fz A A'->Dn w0 ok β A x->Dn w ok2 (rlβ ρ β) A' x) ∧
   (∀cs cs' (vs:List Value),CsL H ρ β.length fz cs cs'->cs.length=vs.length->(∀(j:Nat) (A:AVal),cs[j]?=some A->Dn w0 ok β A (vs[j]?.getD undef))->cs'.length=vs.length∧∀(j:Nat) (A:AVal),cs'[j]?=some A->Dn w ok2 (rlβ ρ β) A (vs[j]?.getD undef)) ∧
   (ndup (H.map (·.1))=true->HOk w0 ok β w (Q1f ρ H) (λb=>F b∧¬G b)):=by
 obtain⟨Fl,f1,f2⟩:=hH.fam;have f1':∀l R,find H l=some R->Gn w0 ok β w l (Fl l) R:=λl R h=>(f1 l R h).1
 let G:Nat->Prop:=λb=>∃m S,Zl ρ m=true∧find H m=some S∧Fl m b
 let ok2:Nat->Prop:=λb=>ok b∨(fz=true∧F b∧¬G b)
 have hGF:∀b,G b->F b:=λb ⟨m,S,_,h2,h3⟩=>(f1 m S h2).2 b h3
 have hdis:∀l R,find H l=some R->Zl ρ l=false->∀b,Fl l b->¬G b:=λl R hl hkp b hb ⟨m,S,h1,h2,h3⟩=>by
  have hne:l≠m:=λe=>by subst e;rw [h1] at hkp;cases hkp
  exact f2 _ _ _ _ hne hl h2 b hb h3
 have f3:fz=true->∀l R,find H l=some R->Zl ρ l=false->∀b,Fl l b->ok2 b:=λhf l R hl hkp b hb=>.inr ⟨hf,(f1 l R hl).2 b hb,hdis l R hl hkp b hb⟩
 have ho:∀b,ok b->ok2 b:=λb hb=>.inl hb
 refine⟨G,ok2,λb ⟨m,_,h,_⟩=>⟨m,h⟩,λb hb=>⟨hGF b hb,λh=>?_⟩,ho,λb hb=>hb,(HOk.chk hk ho f1' f2 f3 hC (Q2H hn)).mono (λb ⟨m,S,h1,h2,h3⟩=>⟨m,S,Q2d h1,h2,h3⟩),λA A' x h hd=>Cs.dn hk ho f1' f3 h hd,λcs cs' vs h hl hd=>CsL.dn hk ho f1' f3 h hl hd,λhnd=>?_⟩
 ·rcases h with h | ⟨_,_,h⟩
  ·exact hokF b h (hGF b hb)
  ·exact h hb
 ·have hnd':=Q2H hnd;refine (HOk.sub f1' f2 (λx hx=>Q5s hnd' (Q01 hx).1) (Q1J hnd')).mono (λb ⟨x,hx,hb⟩=>?_);have hfx:=Q5s hnd' (Q01 hx).1;exact⟨(f1 _ _ hfx).2 b hb,hdis _ _ hfx (Q01 hx).2 b hb⟩
end
section
variable {B:Base} {Γ Γ':Env} {H H':Heap} {nl nl':Nat} {X:Act->World->Prop}
def fixed:Nat->Nat->List (Option Nat)->Bool
 | _,0,_=>true
 | i,k+1,some m :: r=>m.beq i&&fixed (i+1) k r
 | _,_+1,_=>false
theorem Q2b:∀{k i:Nat} {ρ:List (Option Nat)},fixed i k ρ=true->∀l,l<k->ρ[l]?=some (some (i+l))
 | 0,_,_,_,l,hl=>by omega
 | k+1,i,some m :: r,h,l,hl=>by
  simp only [fixed,gP] at h;cases l with
  | zero=>have:=Nat.eq_of_beq_eq_true h.1;subst this;rfl
  | succ l=>have:=Q2b h.2 l (by omega);rw [List.getElem?_cons_succ,this];congr 2;omega
 | k+1,i,none :: r,h,_,_=>by simp [fixed] at h
 | k+1,i,[],h,_,_=>by simp [fixed] at h
structure Wk (k:Nat) (Γ:Env) (H:Heap) (nl:Nat) (Γ':Env) (H':Heap) (nl':Nat):Prop where
 h:∃ρ:List (Option Nat),fixed 0 k ρ=true∧ρ.length=nl'∧ChkG H ρ nl true Γ Γ'∧ChkH H ρ nl true H'∧ndup (kept ρ H')=true
theorem Wk.mk'{k:Nat}(ρ:List (Option Nat))(h0:fixed 0 k ρ=true)(h1:ρ.length=nl')(h2:ChkG H ρ nl true Γ Γ')(h3:ChkH H ρ nl true H')(h4:ndup (kept ρ H')=true):Wk k Γ H nl Γ' H' nl':=⟨ρ,h0,h1,h2,h3,h4⟩
theorem XA.same{β:List Value}{F:Nat->Prop}{a:Act}{w:World}(h:XA B β F Γ H a w):(∀b,B.ok b->w.heap[b]?=B.w0.heap[b]?)∧∀b,B.ok b->¬F b:=
 ⟨λb hb=>by have:=h.ok b hb;exact h.kp.block b this.1 this.2,λb hb hF=>by have:=h.ok b hb;exact this.2 ((h.own b hF).2 this.1)⟩
theorem Wk.fits(h:Wk B.k Γ H nl Γ' H' nl'){a:Act}{w:World}(hf:Fits B Γ H nl a w):Fits B Γ' H' nl' a w:=by
 obtain⟨ρ,h0,hρ,hG,hH,hn⟩:=h.h;obtain⟨B',β,F,hx,hβ,hf⟩:=hf;subst hβ;obtain⟨k1,k2⟩:=hf.same;obtain⟨G,ok2,_,g1,g2,g3,g4,g5,_,_⟩:=hf.heap.cast k1 k2 hH hn;obtain⟨x1,x2⟩:=hf.rebase (ok:=ok2) (F':=G) g2 (λb hb=>(g3 b hb).imp id (λh=>h.2.1)) g1 g4 (λt A hA=>by
  obtain⟨S,h1,h2⟩:=hG.get hA;exact g5 _ _ _ h2 (hf.env t S h1)) (λl x hl hx'=>WU (by have:=Q2b h0 l (by rw [<-hx.k];exact hl);simpa using this) hx')
 exact⟨_,rlβ ρ β,G,hx.trans x1,by simpa [rlβ] using hρ,x2⟩
theorem St.wk(k:St B Γ' H' nl' X)(h:Wk B.k Γ H nl Γ' H' nl'):St B Γ H nl X:=λa w hf=>k a w (h.fits hf)
end
def Loop{σ:Type}(body:σ->(σ->Prop)->Prop)(s:σ):Prop:=∀X:σ->Prop,(∀s (Y:σ->Prop),body s Y->(∀s',Y s'->X s')->X s)->X s
def Jn{σ:Type}(A:(σ->Prop)->Prop)(k:σ->Prop):Prop:=∃J:σ->Prop,(∀x,J x->k x)∧A J
theorem Jn.mk{σ:Type}{A:(σ->Prop)->Prop}{k:σ->Prop}(J:σ->Prop)(h:A J)(hk:∀x,J x->k x):Jn A k:=⟨J,hk,h⟩
theorem Jn.mk'{σ:Type}{A:(σ->Prop)->Prop}{k:σ->Prop}(h:A k):Jn A k:=⟨k,λ_ h=>h,h⟩
theorem Loop.mk{σ:Type}{body:σ->(σ->Prop)->Prop}(I:σ->Prop)(μ:σ->Nat){s:σ}(h0:I s)(hr:∀s,I s->body s (λs'=>I s'∧μ s'<μ s)):Loop body s:=by
 intro X hX;have key:∀n s,μ s=n->I s->X s:=by
  intro n;induction n using Nat.strongRecOn with
  | _ n ih=>intro s hn hI;exact hX s _ (hr s hI) (λs' ⟨hI',hlt⟩=>ih (μ s') (hn▸hlt) s' rfl hI')
 exact key _ s rfl h0
theorem Loop.step{σ:Type}{body:σ->(σ->Prop)->Prop}{s:σ}(h:body s (Loop body)):Loop body s:=λX hX=>hX s _ h (λ_ h'=>h' X hX)
def Rec{σ τ:Type}(body:(σ->(τ->Prop)->Prop)->σ->(τ->Prop)->Prop)(s:σ)(p:τ->Prop):Prop:=∀X:σ->(τ->Prop)->Prop,(∀s p,body X s p->X s p)->X s p
def RetM(w0:World)(ok M:Nat->Prop)(β0:List Value)(Ψ:AVal->Heap->Nat->Prop)(e:Ending)(w:World):Prop:=
 ∃(v:Value) (A:AVal) (H:Heap) (β:List Value) (F ok':Nat->Prop),e=.returned v∧Ψ A H β.length∧(∀(l:Nat) (x:Value),β0[l]?=some x->β[l]?=some x) ∧
  (∀(l:Nat) (x:Value) (b:Nat),β0.length≤l->β[l]?=some x->hdr x=some b->M b∨w0.heap.size≤b)∧Kp w0 M w∧(∀b,ok b->ok' b)∧(∀b,ok' b->(ok b∨M b∨w0.heap.size≤b)∧b<w.heap.size) ∧
  (∀b,F b->(M b∨w0.heap.size≤b)∧b<w.heap.size∧¬ok' b)∧HOk w ok' β w H F∧Dn w ok' β A v
def Tr(P:Program)(f:FuncId)(As:List AVal)(H:Heap)(nl:Nat)(Ψ:AVal->Heap->Nat->Prop):Prop:=
 ∀(w:World) (ok F:Nat->Prop) (β:List Value) (vs:Array Value),β.length=nl->(∀b,ok b->b<w.heap.size∧¬F b)->(∀b,F b->b<w.heap.size)->HOk w ok β w H F->DnL w ok β As vs ->
  Calls P f vs w (RetM w ok F β Ψ)
theorem Tr.mono{P:Program}{f:FuncId}{As:List AVal}{H:Heap}{nl:Nat}{Ψ Ψ':AVal->Heap->Nat->Prop}(h:Tr P f As H nl Ψ)(hΨ:∀A H n,Ψ A H n->Ψ' A H n):Tr P f As H nl Ψ':=λw ok F β vs h1 h2 h3 h4 h5=>
 (h w ok F β vs h1 h2 h3 h4 h5).mono λ_ _ ⟨v,A,H,β,F,ok',e,h,r⟩=>⟨v,A,H,β,F,ok',e,hΨ _ _ _ h,r⟩
mutual
inductive NoSl:AVal->Prop where
 | v (x:Value):NoSl (.v x)
 | o (l:Nat):NoSl (.o l)
 | p (l off:Nat):NoSl (.p l off)
 | ep (l n i off:Nat):NoSl (.ep l n i off)
 | os {α:Type} (n:Nat) (enc:α->List AVal) (xs:List α) (h:∀x,Q1S (enc x)):NoSl (.os n enc xs)
 | arr {α:Type} (n:Nat) (enc:α->List AVal) (xs:List α) (h:∀x,Q1S (enc x)):NoSl (.arr n enc xs)
 | om {κ α:Type} (ke:κ->Value) (ve:α->AVal) (xs:List (κ×α)) (h:∀x,NoSl (ve x)):NoSl (.om ke ve xs)
 | agg {cs:List AVal} (h:Q1S cs):NoSl (.agg cs)
 | tup {cs:List AVal} (h:Q1S cs):NoSl (.tup cs)
inductive Q1S:List AVal->Prop where
 | nil:Q1S []
 | cons {A:AVal} {r:List AVal} (h:NoSl A) (hr:Q1S r):Q1S (A :: r)
end
theorem Q1S.get:∀{cs:List AVal},Q1S cs->∀(j:Nat) (A:AVal),cs[j]?=some A->NoSl A
 | _,.nil,j,A,h=>by simp at h
 | _,.cons h hr,j,A,hA=>by
  cases j with
  | zero=>simp at hA;subst hA;exact h
  | succ j=>exact hr.get j A (by simpa using hA)
inductive Q84:Res->Prop where
 | box {cs:List AVal} (h:Q1S cs):Q84 (.box cs)
 | val {A:AVal} (h:NoSl A):Q84 (.val A)
def Q5B:Heap->Prop
 | []=>True
 | (_,R) :: r=>Q84 R∧Q5B r
theorem Dn.noSl{w w':World}{ok ok':Nat->Prop}{β:List Value}{A:AVal}{x:Value}(h:Dn w ok β A x):NoSl A->Dn w' ok' β A x:=by
 induction h with
 | ro h=>
  intro hn;cases hn with
  | v x=>cases h;exact .ro (.v _)
  | _=>cases h
 | p l off b h=>exact λ_=>.p _ _ _ h
 | o l x h h1=>exact λ_=>.o _ _ h h1
 | ep l n i off b o len cap h=>exact λ_=>.ep _ _ _ _ _ _ _ _ h
 | vw l n i m x h=>exact λ_=>.vw _ _ _ _ _ h
 | agg cs vs hl _ ih=>intro hn;cases hn with | agg hn=>exact .agg _ vs hl (λj A hA=>ih j A hA (hn.get j A hA))
 | tup cs vs hl _ ih=>intro hn;cases hn with | tup hn=>exact .tup _ vs hl (λj A hA=>ih j A hA (hn.get j A hA))
 | fn=>intro hn;cases hn
theorem Ro.noSl{w w':World}{ok ok':Nat->Prop}{A:AVal}{x:Value}(h:Ro w ok A x)(hn:NoSl A):Ro w' ok' A x:=by
 cases hn with
 | v x=>cases h;exact .v _
 | _=>cases h
theorem On.noSl{w w' w1:World}{ok ok':Nat->Prop}{A:AVal}{x:Value}{F:Nat->Prop}(h:On w ok w1 A x F):NoSl A->On w' ok' w1 A x F:=by
 induction h with
 | ro F h=>
  intro hn;cases hn with
  | v x=>cases h;exact .ro F (.v _)
  | _=>cases h
 | osNil n enc F p=>exact λ_=>.osNil n enc F p
 | os n enc xs b off cap c T F G hb hw hlen hcap hn hG hd hr ih=>
  intro hs;cases hs with
  | os _ _ _ hs=>exact .os n enc xs b off cap c T F G hb hw hlen hcap hn hG hd (λi j x A hx hA=>ih i j x A hx hA ((hs x).get j A hA))
 | arr n enc xs b c T F hb hw hc hn hr=>
  intro hs;cases hs with
  | arr _ _ _ hs=>exact .arr n enc xs b c T F hb hw hc hn (λi j x A hx hA=>(hr i j x A hx hA).noSl ((hs x).get j A hA))
 | om ke ve xs b es clock F G hb hw he hG hd hr ih=>
  intro hs;cases hs with
  | om _ _ _ hs=>exact .om ke ve xs b es clock F G hb hw he hG hd (λi x e hx he'=>ih i x e hx he' (hs x.2))
theorem HOk.noSl{w w' w1:World}{ok ok':Nat->Prop}{β:List Value}:∀{H:Heap} {F:Nat->Prop},HOk w ok β w1 H F->Q5B H->HOk w' ok' β w1 H F
 | [],_,_,_=>trivial
 | (l,R) :: H,F,⟨F1,F2,h1,h2,h12,hR,hH⟩,⟨hn,hn'⟩=>by
  refine⟨F1,F2,h1,h2,h12,?_,HOk.noSl hH hn'⟩;cases hn with
  | box hn=>obtain⟨b,c,T,hl,hw,hs,hd,hF⟩:=hR;exact⟨b,c,T,hl,hw,hs,λj A hA=>(hd j A hA).noSl (hn.get j A hA),hF⟩
  | val hn=>obtain⟨x,hx,h⟩:=hR;exact⟨x,hx,h.noSl hn⟩
theorem NoSl.ml{A:AVal}(f:Nat->Nat)(h:NoSl A):NoSl (A.ml f):=by
 refine NoSl.rec (motive_1:=λA _=>NoSl (A.ml f)) (motive_2:=λcs _=>Q1S (AVal.mlL f cs)) ?_ ?_ ?_ ?_ ?_ ?_ ?_ ?_ ?_ ?_ ?_ h
 ·intro x;exact .v x
 ·intro l;exact .o _
 ·intro l off;exact .p _ _
 ·intro l n i off;exact .ep _ _ _ _
 ·intro α n enc xs h _;exact .os n enc xs h
 ·intro α n enc xs h _;exact .arr n enc xs h
 ·intro κ α ke ve xs h _;exact .om ke ve xs h
 ·intro cs _ ih;exact .agg ih
 ·intro cs _ ih;exact .tup ih
 ·exact .nil
 ·intro A r _ _ h hr;exact .cons h hr
theorem Q1S.ml{cs:List AVal}(f:Nat->Nat)(h:Q1S cs):Q1S (AVal.mlL f cs):=by
 have:=(NoSl.agg h).ml f;cases this with
 | agg h=>exact h
theorem Q84.ml{R:Res}(f:Nat->Nat)(h:Q84 R):Q84 (R.ml f):=by
 cases h with
 | box h=>exact .box (h.ml f)
 | val h=>exact .val h
def clab(ρ:List (Option Nat))(nl i:Nat):Nat:=
 match ρ[i]? with
 | some (some m)=>m
 | _=>nl+i
def mlH(f:Nat->Nat):Heap->Heap
 | []=>[]
 | (l,R) :: r=>(f l,R.ml f) :: mlH f r
theorem Gn.ml{w0 w:World}{ok:Nat->Prop}{β β':List Value}{f:Nat->Nat}(hf:∀(l:Nat) (v:Value),β[l]?=some v->β'[f l]?=some v){l:Nat}{F:Nat->Prop}{R:Res}(h:Gn w0 ok β w l F R):Gn w0 ok β' w (f l) F (R.ml f):=by
 cases R with
 | box cells=>
  obtain⟨b,c,T,hl,hw,hs,hd,hF⟩:=h;refine⟨b,c,T,hf _ _ hl,hw,by simpa [YC] using hs,λj A hA=>?_,hF⟩;simp only [YC,gK,Option.map_eq_some_iff] at hA;obtain⟨C,hC,rfl⟩:=hA;exact (hd j C hC).ml hf
 | val A=>obtain⟨x,hx,h⟩:=h;exact⟨x,hf _ _ hx,h⟩
 | lent enc xs L=>
  obtain⟨b,off,cap,c,T,G,hl,hw,hF,h1,h2,h3,h4,hG,hd,hr⟩:=h;refine⟨b,off,cap,c,T,G,hf _ _ hl,hw,hF,h1,h2,h3,λi l' hi=>?_,hG,hd,λj x A hj hx hA=>hr j x A (λl' hl'=>hj (f l') (List.mem_map.2 ⟨_,hl',rfl⟩)) hx hA⟩;obtain⟨p,hp,e⟩:=List.mem_map.1 hi;cases e;exact⟨(h4 _ _ hp).1,hf _ _ (h4 _ _ hp).2⟩
 | lentm ke ve xs L=>
  obtain⟨b,es,clock,G,hl,hw,hF,he,h4,hG,hd,hr⟩:=h;refine⟨b,es,clock,G,hf _ _ hl,hw,hF,he,λk l' hi=>?_,hG,hd,λj x e hj hx he'=>hr j x e (λl' hl'=>hj (f l') (List.mem_map.2 ⟨_,hl',rfl⟩)) hx he'⟩;obtain⟨p,hp,e⟩:=List.mem_map.1 hi;have e1:=congrArg Prod.fst e;have e2:=congrArg Prod.snd e;simp only at e1 e2;subst e1;subst e2;obtain⟨i,y,e,h1,h2,h3⟩:=h4 _ _ hp;exact⟨i,y,e,h1,h2,hf _ _ h3⟩
 | rng ke ve xs seen li=>
  obtain⟨b,bi,es,clock,sa,G,hl,hli,r⟩:=h;exact⟨b,bi,es,clock,sa,G,hf _ _ hl,hf _ _ hli,r⟩
 | itn=>obtain⟨bi,hl,r⟩:=h;exact⟨bi,hf _ _ hl,r⟩
 | rngm=>obtain⟨bi,O,hl,r⟩:=h;exact⟨bi,O,hf _ _ hl,r⟩
 | abs Φ=>obtain⟨⟨x,hx⟩,r⟩:=h;exact⟨⟨x,hf _ _ hx⟩,r⟩
theorem HOk.ml{w0 w:World}{ok:Nat->Prop}{β β':List Value}{f:Nat->Nat}(hf:∀(l:Nat) (v:Value),β[l]?=some v->β'[f l]?=some v):∀{H:Heap} {F:Nat->Prop},HOk w0 ok β w H F->HOk w0 ok β' w (mlH f H) F
 | [],_,_=>trivial
 | (l,R) :: H,F,⟨F1,F2,h1,h2,h12,hR,hH⟩=>⟨F1,F2,h1,h2,h12,hR.ml hf,HOk.ml hf hH⟩
theorem Kv{β γ:List Value}{l:Nat}{x:Value}(h:β[l]?=some x):(β++γ)[l]?=some x:=by
 rw [gL]
 ·exact h
 ·exact (gS.1 h).1
theorem Dn.app{w:World}{ok:Nat->Prop}{β γ:List Value}{A:AVal}{x:Value}(h:Dn w ok β A x):Dn w ok (β++γ) A x:=by
 induction h with
 | ro h=>exact .ro h
 | p l off b h=>exact .p _ _ _ (Kv h)
 | o l x h h1=>exact .o _ _ (Kv h) h1
 | ep l n i off b o len cap h=>exact .ep _ _ _ _ _ _ _ _ (Kv h)
 | vw l n i m x h=>exact .vw _ _ _ _ _ (h.map λ_=>Kv)
 | agg cs vs hl _ ih=>exact .agg _ vs hl ih
 | tup cs vs hl _ ih=>exact .tup _ vs hl ih
 | fn g fs cs us vs hl _ hl' _ ih ih'=>exact .fn g _ _ us vs hl ih hl' ih'
theorem HOk.app{w0 w:World}{ok:Nat->Prop}{β γ:List Value}:∀{H:Heap} {F:Nat->Prop},HOk w0 ok β w H F->HOk w0 ok (β++γ) w H F
 | [],_,_=>trivial
 | (l,R) :: H,F,⟨F1,F2,h1,h2,h12,hR,hH⟩=>by
  refine⟨F1,F2,h1,h2,h12,?_,HOk.app hH⟩;cases R with
  | box cells=>obtain⟨b,c,T,hl,hw,hs,hd,hF⟩:=hR;exact⟨b,c,T,Kv hl,hw,hs,λj A hA=>(hd j A hA).app,hF⟩
  | val A=>obtain⟨x,hx,h⟩:=hR;exact⟨x,Kv hx,h⟩
  | lent enc xs L=>
   obtain⟨b,off,cap,c,T,G,hl,hw,hF,h1,h2,h3,h4,r⟩:=hR;exact⟨b,off,cap,c,T,G,Kv hl,hw,hF,h1,h2,h3,λi l' hi=>⟨(h4 i l' hi).1,Kv (h4 i l' hi).2⟩,r⟩
  | lentm ke ve xs L=>
   obtain⟨b,es,clock,G,hl,hw,hF,he,h4,r⟩:=hR;exact⟨b,es,clock,G,Kv hl,hw,hF,he,λk l' hi=>let ⟨i,y,e,h1,h2,h3⟩:=h4 k l' hi;⟨i,y,e,h1,h2,Kv h3⟩,r⟩
  | rng ke ve xs seen li=>
   obtain⟨b,bi,es,clock,sa,G,hl,hli,r⟩:=hR;exact⟨b,bi,es,clock,sa,G,Kv hl,Kv hli,r⟩
  | itn=>obtain⟨bi,hl,r⟩:=hR;exact⟨bi,Kv hl,r⟩
  | rngm=>obtain⟨bi,O,hl,r⟩:=hR;exact⟨bi,O,Kv hl,r⟩
  | abs Φ=>obtain⟨⟨x,hx⟩,r⟩:=hR;exact⟨⟨x,Kv hx⟩,r⟩
def Zb(P:Program)(f:FuncId):Prop:=∀(args:Array Value) (w:World),(callFunc f args).run P w=.ok (.enter f args) w
def dlt(d:Option Nat)(n:Nat):Bool:=
 match d with
 | some d=>d.blt n
 | none=>true
def putG(d:Option Nat)(A:AVal)(Γ:Env):Env:=
 match d with
 | some d=>(d,A) :: Γ
 | none=>Γ
section
variable {P:Program} {B:Base} {tb:Tab} {Γ:Env} {H:Heap} {nl:Nat} {o:Oper}
theorem Eff.call{f:FuncId}{g:Operand}{args:Array Operand}{ts:Array TypeId}{fs cs ar As:List AVal}{H1:Heap}{nl1:Nat}{ρ:List (Option Nat)}{v:Bool}{Ψ:AVal->Heap->Nat->Prop}{d:Option Nat}{m:EM}
  (htr:Tr P f As H1 nl1 Ψ) (hen:Zb P f) (ho:o.op=.call ⟨.value g,args,ts⟩)
  (hg:ev Γ g=some (.fn (.func f) fs cs)) (has:evs Γ args.toList=some ar) (hcs:CsL H ρ nl v (fs++(ar++cs)) As) (hH:ChkH H ρ nl v H1) (hρ:ρ.length=nl1) (hρv:ρ.all (λm=>match m with | some m=>m.blt nl | none=>true)=true) (hk1:ndup (kept ρ H1)=true) (hnd:ndup (H.map (·.1))=true)
  (hd:o.dst=d) (hlt:dlt d B.n=true) (hv:v=true->∀A H' k,Ψ A H' k->NoSl A∧Q5B H') (hm:m=.any∨(ρ=[]∧m=.fx [] (!v))):
  Eff (ι:=AVal×Heap×Nat) P B Γ H nl o (λs=>Ψ s.1 s.2.1 s.2.2) (λs=>putG d (s.1.ml (clab ρ nl)) Γ) (λs=>mlH (clab ρ nl) s.2.1++Q1f ρ H) (λs=>nl+s.2.2) m:=λB hB β F a w hβ hf next Q hn=>by
 obtain⟨dst,op,ty,pos,af,gd⟩:=o;simp only at ho hd;subst ho;subst hd;subst hβ;obtain⟨hlen,hdn⟩:=ZT (a:=a) hf.env has;have hgv:=Qf (a:=a) hf.env hg;obtain⟨us,vs,hge,hul,hud,hvl,hvd⟩:∃us vs:Array Value,a.eval g=.func (.func f) us vs∧fs.length=us.size∧(∀(j:Nat) (A:AVal),fs[j]?=some A->Dn B.w0 B.ok β A (us.getD j undef))∧cs.length=vs.size∧∀(j:Nat) (A:AVal),cs[j]?=some A->Dn B.w0 B.ok β A (vs.getD j undef):=by
  generalize a.eval g=y at hgv;cases hgv with
  | ro h=>cases h
  | fn _ _ _ us vs hl h hl' h'=>exact⟨us,vs,rfl,hl,h,hl',h'⟩
 obtain⟨k1,k2⟩:=hf.same;obtain⟨G,ok2,g0,g1,g2,g3,g4,g5,g6,g7⟩:=hf.heap.cast k1 k2 hH hk1
 -- the arguments
 have hall:∀(j:Nat) (A:AVal),(fs++(ar++cs))[j]?=some A->Dn B.w0 B.ok β A ((us.toList++((args.map a.eval).toList++vs.toList))[j]?.getD undef):=λj A hA=>by
  rw [List.getElem?_append] at hA ⊢;rw [hul] at hA;simp only [Array.length_toList];split at hA
  ·rename_i h;rw [gF h];simpa [gA] using hud j A (by rw [<-hul] at h;exact hA)
  ·rename_i h;rw [gC h];rw [List.getElem?_append] at hA ⊢;rw [hlen] at hA;simp only [Array.length_toList];split at hA
   ·rename_i h';rw [gF h'];simpa [gA] using hdn _ A hA
   ·rename_i h';rw [gC h'];simpa [gA] using hvd _ A hA
 obtain⟨a1,a2⟩:=g6 _ _ _ hcs (by simp [hul,hlen,hvl]) hall;unfold Oper.wp;have hrun:(execOp a.eval ⟨dst,.call ⟨.value g,args,ts⟩,ty,pos,af,gd⟩).run P w=.ok (.enter f (us++args.map a.eval++vs)) w:=by
  simp [execOp,resolve,Deferred.ofValue,hge,invoke,hen _ w]
 rw [hrun,Oper.upon_enter];have hsz:∀b,F b->b<w.heap.size:=λb hb=>(hf.own b hb).1
 have hok2:∀b,ok2 b->b<w.heap.size:=λb hb=>by
  rcases g3 b hb with h | h
  ·exact gG (hf.ok b h).1 hf.kp.size
  ·exact hsz b h.2.1
 refine (htr w ok2 G (rlβ ρ β) _ (by simpa [rlβ] using hρ) (λb hb=>⟨hok2 b hb,λh=>(g1 b h).2 hb⟩) (λb hb=>hsz b (g1 b hb).1) g4 ⟨by simpa using a1,λj A hA=>by
  have:=a2 j A hA;rw [gA,<-Array.getElem?_toList];simpa using this⟩).mono ?_
 rintro e w' ⟨v',A,H2,β2,F2,okc,rfl,hΨ,p1,p2,p3,p4,p5,p6,p7,p8⟩
 -- the caller's labels
 have hlab:∀(l:Nat) (x:Value),β2[l]?=some x->(β++β2)[clab ρ β.length l]?=some x:=λl x hx=>by
  unfold clab;split
  ·rename_i m' hm';have hlt':l<(rlβ ρ β).length:=by simp [rlβ];exact (gS.1 hm').1
   have e1:=p1 l _ (gE hlt');rw [hx] at e1;have hm2:m'<β.length:=by
    have:=gT.1 hρv _ (gM hm');exact Nat.le_of_ble_eq_true this
   have e2:(rlβ ρ β)[l]?=some β[m']:=by simp [rlβ,hm',gE hm2]
   rw [gE hlt'] at e2;rw [Option.some.inj e2] at e1;rw [Option.some.inj e1];exact Kv (gE hm2)
  ·rw [gR (by omega),Nat.add_sub_cancel_left];exact hx
 -- memory behind the call
 let ok3:Nat->Prop:=λb=>if v=true then B.ok b else okc b
 have hFc:∀b,F2 b->G b∨w.heap.size≤b:=λb hb=>(p6 b hb).1
 have hblk:∀b,B.ok b->w'.heap[b]?=w.heap[b]?:=λb hb=>p3.block b (hok2 b (g2 b hb)) (λh=>(g1 b h).2 (g2 b hb))
 have hblk0:∀b,B.ok b->w'.heap[b]?=B.w0.heap[b]?:=λb hb=>(hblk b hb).trans (k1 b hb)
 have ho3:∀b,B.ok b->ok3 b:=λb hb=>by
  show if v=true then B.ok b else okc b
  split
  ·exact hb
  ·exact p4 b (g2 b hb)
 have ho3':∀b,ok3 b->(B.ok b∨F b∨w.heap.size≤b)∧b<w'.heap.size:=λb hb=>by
  have hb':if v=true then B.ok b else okc b:=hb
  split at hb'
  ·exact⟨.inl hb',gG (hok2 b (g2 b hb')) p3.size⟩
  ·rename_i hvf;obtain⟨h1,h2⟩:=p5 b hb';refine⟨?_,h2⟩;rcases h1 with h1 | h1 | h1
   ·rcases g3 b h1 with h | h
    ·exact .inl h
    ·exact absurd h.1 hvf
   ·exact .inr (.inl (g1 b h1).1)
   ·exact .inr (.inr h1)
 let F3:Nat->Prop:=λb=>F2 b∨(F b∧¬G b)
 have hF3:∀b,F3 b->¬ok3 b:=λb hb hb3=>by
  have hb':if v=true then B.ok b else okc b:=hb3
  split at hb'
  ·rcases hb with hb | hb
   ·exact (p6 b hb).2.2 (p4 b (g2 b hb'))
   ·exact k2 b hb' hb.1
  ·rename_i hvf;rcases hb with hb | hb
   ·exact (p6 b hb).2.2 hb'
   ·rcases (p5 b hb').1 with h1 | h1 | h1
    ·rcases g3 b h1 with h | h
     ·exact k2 b h hb.1
     ·exact hvf h.1
    ·exact hb.2 h1
    ·have:=hsz b hb.1;omega
 have hdisj:∀b,F2 b->F b∧¬G b->False:=λb h1 h2=>by
  rcases hFc b h1 with h | h
  ·exact h2.2 h
  ·have:=hsz b h2.1;omega
 have hmem:HOk w' ok3 (β++β2) w' (mlH (clab ρ β.length) H2++Q1f ρ H) F3:=by
  refine HOk.append (F1:=F2) (F2:=λb=>F b∧¬G b) ?_ ?_ hdisj
  ·exact ((g7 hnd).app.later (λb hb hlt'=>p3.block b hlt' hb.2)).lift hblk0 ho3
  ·have:=HOk.ml hlab p7;by_cases hvt:v=true
   ·have hns:=(hv hvt A H2 _ hΨ).2;have hml:∀{H:Heap},Q5B H->Q5B (mlH (clab ρ β.length) H):=λ{H}=>by
     induction H with
     | nil=>exact λ_=>trivial
     | cons x H ih=>
      obtain⟨l,R⟩:=x;rintro⟨h1,h2⟩;exact⟨h1.ml _,ih h2⟩
    exact this.noSl (hml hns)
   ·have:ok3=okc:=by funext b;show (if v=true then B.ok b else okc b)=okc b;rw [gC hvt]
    rw [this];assumption
 have hres:Dn w' ok3 (β++β2) (A.ml (clab ρ β.length)) v':=by
  have:=Dn.ml hlab p8;by_cases hvt:v=true
  ·exact this.noSl ((hv hvt A H2 _ hΨ).1.ml _)
  ·have e:ok3=okc:=by funext b;show (if v=true then B.ok b else okc b)=okc b;rw [gC hvt]
   rw [e];assumption
 have hfresh:∀b,w.heap.size≤b->B.w0.heap.size≤b:=λb hb=>Nat.le_trans hf.kp.size hb
 have hFM:∀b,F b->B.M b∨B.w0.heap.size≤b:=λb hb=>by
  rcases gH b B.w0.heap.size with h | h
  ·exact .inl ((hf.own b hb).2 h)
  ·exact .inr h
 have hGM:∀x,G x->x<B.w0.heap.size->B.M x:=λx hx hlt'=>(hf.own x (g1 x hx).1).2 hlt'
 refine hn (A,H2,β2.length) hΨ (a.put dst v') w' (β++β2) F3 ⟨B.n,B.k,B.b0,w',ok3,F3,B.ds⟩ ⟨rfl,rfl,rfl,hf.kp.trans p3 hGM,ho3,λb hb=>?_,λb hb=>?_,[],rfl,.nil,by simp⟩ (by simp) (λl x h=>Kv h) ?_ ?_
 ·rcases (ho3' b hb).1 with h | h | h
  ·exact .inl h
  ·exact .inr (hFM b h)
  ·exact .inr (.inr (hfresh b h))
 ·rcases hb with hb | hb
  ·rcases hFc b hb with h | h
   ·exact hFM b (g1 b h).1
   ·exact .inr (hfresh b h)
  ·exact hFM b hb.1
 ·rcases hm with rfl | ⟨rfl,rfl⟩
  ·trivial
  ·have hG0:∀b,¬G b:=λb hb=>by obtain⟨m,h⟩:=g0 b hb;cases h
   refine⟨λl x b hl hx hb=>.inl ?_,p3.mono (λx hx _=>(hG0 x hx).elim),λhg b hb=>?_⟩
   ·rw [gR hl] at hx;exact (p2 (l-β.length) x b (by simp [rlβ]) hx hb).resolve_left (hG0 b)
   ·have hvt:v=true:=by simpa using hg
    have hb':if v=true then B.ok b else okc b:=hb
    rw [gF hvt] at hb';exact hb'
 ·have hput:∀(t:Nat) (C:AVal),find Γ t=some C->Dn w' ok3 (β++β2) C (a.tmps.getD t undef):=λt C hC=>((hf.env t C hC).app).lift hblk0 ho3
  have hfb:XA ⟨B.n,B.k,B.b0,w',ok3,F3,B.ds⟩ (β++β2) F3 Γ (mlH (clab ρ β.length) H2++Q1f ρ H) a w':=by
   refine⟨.refl _ _,λb hb=>⟨(ho3' b hb).2,λh=>hF3 b h hb⟩,λb hb=>⟨?_,λ_=>hb⟩,hmem,hput,hf.size,hf.defers,λl x hl hx=>Kv (hf.pre l x hl hx)⟩;rcases hb with hb | hb
   ·exact (p6 b hb).2.1
   ·exact gG (hsz b hb.1) p3.size
  cases dst with
  | none=>exact hfb.put' _ rfl
  | some d=>exact hfb.put (by rw [<-hB] at hlt;exact hlt) hres
end
section
variable {P:Program} {B:Base} {tb:Tab} {Γ Γ':Env} {H H':Heap} {nl nl':Nat} {X:Act->World->Prop} {Q:Exit->Act->World->Prop}
theorem C.seq{x y:Code}(k:St B Γ H nl (x.wp P (Exit.then (y.wp P Q) Q))):St B Γ H nl ((Code.seq x y).wp P Q):=λa w hf=>wp_seq (k a w hf)
theorem C.nx{K:Act->World->Prop}(k:St B Γ H nl K):St B Γ H nl (Exit.then K Q .normal):=k
theorem C.ex{K:Act->World->Prop}{id:Nat}(k:St B Γ H nl (Q (.exit id))):St B Γ H nl (Exit.then K Q (.exit id)):=k
theorem C.rt{K:Act->World->Prop}(k:St B Γ H nl (Q .ret)):St B Γ H nl (Exit.then K Q .ret):=k
theorem C.bnx{id:Nat}(k:St B Γ H nl (Q .normal)):St B Γ H nl (Exit.inBlock id Q .normal):=k
theorem C.bex{id:Nat}(k:St B Γ H nl (Q .normal)):St B Γ H nl (Exit.inBlock id Q (.exit id)):=λa w hf=>by simpa [Exit.inBlock] using k a w hf
theorem C.brt{id:Nat}(k:St B Γ H nl (Q .ret)):St B Γ H nl (Exit.inBlock id Q .ret):=k
theorem C.skip(k:St B Γ H nl (Q .normal)):St B Γ H nl (Code.skip.wp P Q):=λa w hf=>wp_skip (k a w hf)
theorem C.exit{id:Nat}(k:St B Γ H nl (Q (.exit id))):St B Γ H nl ((Code.exit id).wp P Q):=λa w hf=>wp_exit (k a w hf)
theorem C.ret(k:St B Γ H nl (Q .ret)):St B Γ H nl (Code.ret.wp P Q):=λa w hf=>wp_ret (k a w hf)
theorem C.block{id:Nat}{c:Code}(k:St B Γ H nl (c.wp P (Exit.inBlock id Q))):St B Γ H nl ((Code.block id c).wp P Q):=λa w hf=>wp_block (k a w hf)
theorem C.scope{c:Code}(k:St B Γ H nl (c.wp P (Exit.noGoto Q))):St B Γ H nl ((Code.scope c).wp P Q):=λa w hf=>wp_scope_straight (k a w hf)
theorem C.srt(k:St B Γ H nl (Q .ret)):St B Γ H nl (Exit.noGoto Q .ret):=k
theorem C.label{l:Nat}(k:St B Γ H nl (Q .normal)):St B Γ H nl ((Code.label l).wp P Q):=λa w hf=>wp_label (k a w hf)
theorem C.cond{x y:Code}{c:Operand}{b:Bool}(hc:ev Γ c=some (.v (.bool b)))(ht:b=true->St B Γ H nl (x.wp P Q))(hf:b=false->St B Γ H nl (y.wp P Q)):St B Γ H nl ((Code.cond c x y).wp P Q):=λa w hfit=>by
 obtain⟨B',β,F,hx,hβ,h⟩:=hfit;have:=(Qf (a:=a) h.env hc).v_inv;exact wp_cond_split this (λe=>ht e a w ⟨B',β,F,hx,hβ,h⟩) (λe=>hf e a w ⟨B',β,F,hx,hβ,h⟩)
def Q4w(P:Program)(c:Code)(Q:Exit->Act->World->Prop)(a:Act)(w:World):Prop:=
 ∀(b:Frame) (k:List Item) (cs:List Frame),∃e a' w',Q e a' w'∧Arrives P (lone (b.at a (.code c :: .inLoop c :: k)) cs w) b k cs e a' w'
theorem Q4w.round{c:Code}{a:Act}{w:World}(h:c.wp P (Exit.then (Q4w P c Q) Q) a w):Q4w P c Q a w:=by
 intro b k cs;obtain⟨e,a₁,w₁,hq,harr⟩:=h b (.inLoop c :: k) cs;cases e with
 | normal=>
  obtain⟨e₂,a₂,w₂,hq₂,harr₂⟩:=hq b k cs;exact⟨e₂,a₂,w₂,hq₂,.of_steps (Steps.trans harr (.one step_inLoop)) harr₂⟩
 | exit id=>exact⟨_,a₁,w₁,hq,.pass (x:=.inLoop c) rfl (λ_ _=>.inl (by simp)) harr⟩
 | goto l=>exact⟨_,a₁,w₁,hq,.pass (x:=.inLoop c) rfl (λ_ _=>.inl (by simp)) harr⟩
 | ret=>exact⟨_,a₁,w₁,hq,.pass (x:=.inLoop c) rfl (λ_ _=>.inl (by simp)) harr⟩
 | panic ch=>exact⟨_,a₁,w₁,hq,.pass (x:=.inLoop c) rfl (λ_ _=>.inl (by simp)) harr⟩
 | outgrown=>exact⟨_,a₁,w₁,hq,.pass (x:=.inLoop c) rfl (λ_ _=>.inl (by simp)) harr⟩
def Next{σ:Type}(B:Base)(Γf:σ->Env)(Hf:σ->Heap)(nl:Nat)(Y:σ->Prop)(a:Act)(w:World):Prop:=∃s,Y s∧Fits B (Γf s) (Hf s) nl a w
theorem C.loop{σ:Type}{body:σ->(σ->Prop)->Prop}{s0:σ}{c:Code}(Γf:σ->Env)(Hf:σ->Heap)(hm:Loop body s0)
  (hround:∀s (Y:σ->Prop),body s Y->St B (Γf s) (Hf s) nl (c.wp P (Exit.then (Next B Γf Hf nl Y) Q))):St B (Γf s0) (Hf s0) nl ((Code.loop c).wp P Q):=by
 have key:St B (Γf s0) (Hf s0) nl (Q4w P c Q):=hm (λs=>St B (Γf s) (Hf s) nl (Q4w P c Q)) λs Y hb hY a w hf=>by
  refine Q4w.round (wp_mono (hround s Y hb a w hf) λe a w hq=>?_);cases e with
  | normal=>obtain⟨s',hs',hf'⟩:=hq;exact hY s' hs' a w hf'
  | _=>exact hq
 intro a w hf b k cs;obtain⟨e,a',w',hq,harr⟩:=key a w hf b k cs;exact⟨e,a',w',hq,.of_steps (.one step_loop) harr⟩
theorem C.next{σ:Type}{Γf:σ->Env}{Hf:σ->Heap}{Y:σ->Prop}{s:σ}(h:Y s):St B (Γf s) (Hf s) nl (Next B Γf Hf nl Y):=λ_ _ hf=>⟨s,h,hf⟩
def params:Nat->List AVal->Env
 | _,[]=>[]
 | k,A :: r=>(k,A) :: params (k+1) r
theorem Q3I:∀(As:List AVal) (k t:Nat) (A:AVal),find (params k As) t=some A->k≤t∧As[t-k]?=some A
 | [],_,_,_,h=>by simp [params,find] at h
 | C :: r,k,t,A,h=>by
  rw [params,find_cons] at h;split at h
  ·rename_i e;subst e;cases h;simp
  ·rename_i e;obtain⟨h1,h2⟩:=Q3I r (k+1) t A h;refine⟨by omega,?_⟩;have:t-k=(t-(k+1))+1:=by omega
   rw [this,List.getElem?_cons_succ];exact h2
def Wx(P:Program)(fn:Func)(R:Ending->World->Prop):Exit->Act->World->Prop
 | .normal,a,w | .ret,a,w=>LeavesInM Fence.wide 0 P fn a.tmps R a.defers .returning w
 | _,_,_=>False
theorem Q75{fn:Func}{R:Ending->World->Prop}:∀e a w,Wx P fn R e a w->bodyPostM Fence.wide 0 P fn R e a w:=λe a w h=>by
 cases e <;> first | exact h | exact h.elim
theorem Q6o{f:FuncId}{fn:Func}{c:Code}{args:Array Value}{w:World}{R:Ending->World->Prop}(hf:P.funcs[f]?=some fn)(hb:fn.body=some c)
  (h:c.wp P (Wx P fn R) {tmps:=args++Array.replicate (fn.ntmps-args.size) undef,defers:=[]} w):Calls P f args w R:=
 callsIn_wide.1 (callsIn_of_wp_marks (F:=Fence.wide) (n:=0) hf hb trivial (wpIn_wide.2 (wp_mono h Q75)))
theorem Tr.intro{f:FuncId}{fn:Func}{c:Code}{n:Nat}{As:List AVal}{H:Heap}{nl:Nat}{Ψ:AVal->Heap->Nat->Prop}(hf:P.funcs[f]?=some fn)(hb:fn.body=some c)(hn:fn.ntmps=n)(hA:As.length.ble n=true)
  (h:∀w0 ok F β,β.length=nl->St ⟨n,nl,β,w0,ok,F,[]⟩ (params 0 As) H nl (c.wp P (Wx P fn (RetM w0 ok F β Ψ)))):Tr P f As H nl Ψ:=λw ok F β vs hβ hok hF hH hd=>by
 refine Q6o hf hb (h w ok F β hβ _ w ⟨⟨n,nl,β,w,ok,F,[]⟩,β,F,.refl _,hβ,.refl _ _,hok,λb hb=>⟨hF b hb,λ_=>hb⟩,hH,λt A hA'=>?_,?_,rfl,λl x _ h=>h⟩)
 ·obtain⟨_,h2⟩:=Q3I As 0 t A hA';have hlt:=(gS.1 h2).1;simp only [Nat.sub_zero] at h2 hlt;have:=hd.2 t A h2;rw [hd.1] at hlt;simp only [gA] at this ⊢;rw [Array.getElem?_append_left hlt];exact this
 ·have:=Nat.le_of_ble_eq_true hA;simp [hn,<-hd.1];omega
def evR(tb:Tab)(Γ:Env)(H:Heap):ResultVar->Option AVal
 | .tmp t=>find Γ t
 | .cell t T=>match find Γ t with
  | some X=>match Q5D tb H T X with
   | some (A,_)=>some A
   | none=>none
  | none=>none
def evRs(tb:Tab)(Γ:Env)(H:Heap):List ResultVar->Option (List AVal)
 | []=>some []
 | x :: r=>match evR tb Γ H x,evRs tb Γ H r with
  | some a,some l=>some (a :: l)
  | _,_=>none
theorem Q7o(htb:TabOk P tb){a:Act}{w:World}{β:List Value}{F:Nat->Prop}(hf:XA B β F Γ H a w){t:Nat}{T:TypeId}{X A:AVal}{rl:List Nat}(hx:find Γ t=some X)(h:Q5D tb H T X=some (A,rl)):
  ∃v,Dn B.w0 B.ok β A v∧(do loadVar T (<-asAddr (a.tmps.getD t undef)):Sem Value).run P w=.ok v w:=by
 obtain ⟨v, hv, hr⟩ := Rd.l (P := P) (B := B) (nl := β.length) (o := ⟨none, .load T (.tmp t), 0, "", #[], none⟩) rfl (by exact hx) h B rfl β F a w rfl hf;refine⟨v,hv,?_⟩;have:=hr w (.refl _ _ _ _);have hp:∃b off,a.tmps.getD t undef=.pointer (some ⟨b,off,none⟩):=by
  have hX:=hf.env t X hx;unfold Q5D at h;split at h
  ·cases h
  ·split at h
   ·obtain⟨b,_,e⟩:=hX.p_inv;exact⟨_,_,e⟩
   ·obtain⟨b,off,f,e,_⟩:=hX.rp_inv;exact⟨_,_,e⟩
   ·cases h
 obtain⟨b,off,e⟩:=hp;have e2:a.eval (.tmp t)=.pointer (some ⟨b,off,none⟩):=e;rw [e];simp only [execOp,Instr.loadAt,e2,Instr.sureAddr,Sem.run_bind,Sem.run_pure,Result.andThen_ok] at this;simp only [asAddr,Sem.run_bind,Sem.run_pure,Result.andThen_ok];cases hr2:(loadVar T ⟨b,off,none⟩).run P w with
 | ok y w'=>rw [hr2] at this;simp at this;rw [this.1,this.2]
 | halt y w'=>rw [hr2] at this;simp at this
def rdR(tmps:Array Value):ResultVar->Sem Value
 | .tmp t=>pure (tmps.getD t undef)
 | .cell t T=>do loadVar T (<-asAddr (tmps.getD t undef))
theorem Q8r(fn:Func)(tmps:Array Value):results fn tmps=(do
  let vs <-fn.results.mapM (rdR tmps)
  pure (if h:vs.size=1 then vs[0] else .tuple vs)):=by
 have:(λx=>match x with
  | ResultVar.tmp t=>pure (tmps.getD t undef)
  | ResultVar.cell a t=>do loadVar t (<-asAddr (tmps.getD a undef)))=rdR tmps:=by
  funext x;cases x <;> rfl
 unfold results;rw [<-this];rfl
theorem Q8T(htb:TabOk P tb){a:Act}{w:World}{β:List Value}{F:Nat->Prop}(hf:XA B β F Γ H a w):∀{res:List ResultVar} {rs:List AVal},evRs tb Γ H res=some rs ->
  ∃vs:List Value,(res.mapM (rdR a.tmps)).run P w=.ok vs w∧rs.length=vs.length∧∀(j:Nat) (A:AVal),rs[j]?=some A->Dn B.w0 B.ok β A (vs.getD j undef)
 | [],rs,h=>by simp only [evRs,gJ] at h;subst h;exact⟨[],by simp,rfl,by simp⟩
 | x :: res,rs,h=>by
  simp only [evRs] at h;split at h
  ·rename_i A l h1 h2;cases h;obtain⟨vs,e1,e2,e3⟩:=Q8T htb hf h2;have one:∃v,(rdR a.tmps x).run P w=.ok v w∧Dn B.w0 B.ok β A v:=by
    cases x with
    | tmp t=>exact⟨_,rfl,hf.env t A h1⟩
    | cell t T=>
     simp only [evR] at h1;split at h1
     ·rename_i X hX;split at h1
      ·rename_i A' rl hl;cases h1;obtain⟨v,hv,hr⟩:=Q7o htb hf hX hl;exact⟨v,hr,hv⟩
      ·cases h1
     ·cases h1
   obtain⟨v,hr,hv⟩:=one;refine⟨v :: vs,?_,by simp [e2],λj C hC=>?_⟩
   ·rw [List.mapM_cons,Sem.run_bind,hr,Result.andThen_ok,Sem.run_bind,e1];rfl
   ·cases j with
    | zero=>simp at hC;subst hC;exact hv
    | succ j=>simp at hC;simpa using e3 j C hC
  ·cases h
def tupA:List AVal->AVal
 | [A]=>A
 | l=>.tup l
def Q51(H:Heap):Nat->Nat->Bool
 | _,0=>true
 | k,n+1=>(match find H k with | some R=>R.ownd | none=>false)&&Q51 H (k+1) n
theorem Q4D{H:Heap}:∀{n k:Nat},Q51 H k n=true->∀l,k≤l->l<k+n->∃R,find H l=some R∧R.ownd=true
 | 0,_,_,_,_,_=>by omega
 | n+1,k,h,l,h1,h2=>by
  simp only [Q51,gP] at h;by_cases e:k=l
  ·subst e;cases hf:find H k with
   | none=>simp [hf] at h
   | some R=>exact⟨R,rfl,by simpa [hf] using h.1⟩
  ·exact Q4D h.2 l (by omega) (by omega)
def Yp(Ds:List Nat)(w:World):World:=Ds.foldl (λw D=>w.putObj D (.deferred none)) w
theorem Q07:∀(Ds:List Nat) (w:World),(Yp Ds w).heap.size=w.heap.size
 | [],_=>rfl
 | D :: r,w=>(Q07 r _).trans (by simp [World.putObj])
theorem Zr:∀(Ds:List Nat) (w:World) (b:Nat),b∉Ds->(Yp Ds w).heap[b]?=w.heap[b]?
 | [],_,_,_=>rfl
 | D :: r,w,b,h=>(Zr r _ b (λhb=>h (List.mem_cons_of_mem _ hb))).trans (World.putObj_heap_other (λe=>h (e▸List.mem_cons_self ..)))
theorem Q6p:∀(Ds:List Nat) (w:World),(Yp Ds w).os=w.os∧(Yp Ds w).tape=w.tape∧(Yp Ds w).output=w.output∧(Yp Ds w).drawn=w.drawn
 | [],_=>⟨rfl,rfl,rfl,rfl⟩
 | D :: r,w=>Q6p r _
theorem Q2S{fn:Func}{tmps:Array Value}{R:Ending->World->Prop}{v:Value}:∀(Ds:List Nat) (w:World),Ds.Nodup->(∀D,D∈Ds->w.heap[D]?=some (.deferred (some [])))->(results fn tmps).run P (Yp Ds w)=.ok v (Yp Ds w)->R (.returned v) (Yp Ds w) ->
  LeavesInM Fence.wide 0 P fn tmps R (Ds.map mark++[]) .returning w
 | [],w,_,_,h1,h2=>⟨v,h1,h2⟩
 | D :: r,w,hn,hd,h1,h2=>by
  refine⟨by simp,.inl ⟨D,w.putObj D (.deferred none),rfl,run_takeDeferred (hd D (List.mem_cons_self ..)),Q2S r _ (List.nodup_cons.1 hn).2 (λE hE=>?_) h1 h2⟩⟩;have hne:E≠D:=λe=>(List.nodup_cons.1 hn).1 (by rw [<-e];exact hE)
  exact (World.putObj_heap_other hne).trans (hd E (List.mem_cons_of_mem _ hE))
theorem Fits.taken{a:Act}{w:World}(h:Fits B Γ H nl a w)(hds:B.ds=[]):∃Ds:List Nat,a.defers=Ds.map mark++[]∧Ds.Nodup∧(∀D,D∈Ds->w.heap[D]?=some (.deferred (some [])))∧Fits B Γ H nl {a with defers:=[]} (Yp Ds w):=by
 obtain⟨B',β,F,hx,hβ,hf⟩:=h;obtain⟨Ds,e,hn,hm⟩:=hx.ds;have lt:∀D,D∈Ds->D<B'.w0.heap.size:=λD hD=>(Array.getElem?_eq_some_iff.1 (hm D hD).2.1).1
 have hw:∀D,D∈Ds->w.heap[D]?=some (.deferred (some [])):=λD hD=>(hf.kp.block D (lt D hD) (hm D hD).2.2.1).trans (hm D hD).2.1
 have hF:∀b,F b->b∉Ds:=λb hb hD=>(hm b hD).2.2.1 ((hf.own b hb).2 (lt b hD))
 have hok:∀b,B'.ok b->b∉Ds:=λb hb hD=>(hm b hD).2.2.2 hb
 refine⟨Ds,by rw [hf.defers,e,hds],hn,hw,?_⟩;obtain⟨h1,h2⟩:=hf.same;obtain⟨t1,t2,t3,t4⟩:=Q6p Ds w;have hblk:∀b,B'.ok b->(Yp Ds w).heap[b]?=B'.w0.heap[b]?:=λb hb=>(Zr Ds w b (hok b hb)).trans (h1 b hb)
 have hxw:∀b,F b->B.M b∨B.w0.heap.size≤b:=λb hb=>by
  rcases gH b B'.w0.heap.size with h | h
  ·exact hx.M b ((hf.own b hb).2 h)
  ·exact .inr (Nat.le_trans hx.kp.size h)
 have hkp:Kp B.w0 B.M (Yp Ds w):=by
  have k0:Kp B.w0 B.M w:=hx.kp.trans hf.kp (λx hx' hlt=>(hx.M x hx').resolve_right (by omega));refine⟨t1.trans k0.os,t2.trans k0.tape,t3.trans k0.output,by rw [Q07];exact k0.size,λb hb hM=>?_,by rw [t4];exact k0.drawn⟩;rw [Zr Ds w b (λhD=>by have:=(hm b hD).1;omega)];exact k0.block b hb hM
 refine⟨⟨B'.n,B'.k,B'.b0,Yp Ds w,B'.ok,F,[]⟩,β,F,⟨hx.n,hx.k,hx.b0,hkp,hx.ok,hx.new,hxw,[],by simp [hds],.nil,by simp⟩,hβ,.refl _ _,λb hb=>⟨?_,λh=>?_⟩,λb hb=>⟨by rw [Q07];exact (hf.own b hb).1,λ_=>hb⟩,?_,?_,hf.size,rfl,hf.pre⟩
 ·show b<(Yp Ds w).heap.size;rw [Q07];exact gG (hf.ok b hb).1 hf.kp.size
 ·exact (hf.ok b hb).2 ((hf.own b h).2 (hf.ok b hb).1)
 ·exact (hf.heap.lift (ok2:=B'.ok) hblk (λ_ h=>h)).later (λb hb _=>Zr Ds w b (hF b hb))
 ·exact λt A hA=>(hf.env t A hA).lift hblk (λ_ h=>h)
theorem C.fin[htb:TabOk P tb]{fn:Func}{n:Nat}{w0:World}{ok F0:Nat->Prop}{β0:List Value}{Ψ:AVal->Heap->Nat->Prop}{res:List ResultVar}{rs rs':List AVal}{k:Nat}(ρ:List (Option Nat))(hr:fn.results.toList=res)(he:evRs tb Γ H res=some rs)
  (hx:CsL H ρ nl true rs rs') (hH:ChkH H ρ nl true H') (hn:ndup (kept ρ H')=true) (h0:fixed 0 k ρ=true) (hρ:ρ.length=nl') (hcov:Q51 H' k (nl'-k)=true) (hβ0:β0.length=k) (hΨ:Ψ (tupA rs') H' nl'):St ⟨n,k,β0,w0,ok,F0,[]⟩ Γ H nl (Wx P fn (RetM w0 ok F0 β0 Ψ) .ret):=by
 intro a1 w1 hfit;obtain⟨Ds,eds,hnd,hmk,hfit⟩:=hfit.taken rfl;show LeavesInM Fence.wide 0 P fn a1.tmps _ a1.defers .returning w1;rw [eds]
 suffices hsuff:∃v,(results fn ({a1 with defers:=[]}:Act).tmps).run P (Yp Ds w1)=.ok v (Yp Ds w1)∧RetM w0 ok F0 β0 Ψ (.returned v) (Yp Ds w1) by
  obtain⟨v,hv1,hv2⟩:=hsuff;exact Q2S Ds w1 hnd hmk hv1 hv2
 revert hfit;generalize ({a1 with defers:=[]}:Act)=a;generalize Yp Ds w1=w;rintro⟨B',β,F,hext,hβ,hf⟩;subst hβ;obtain⟨vs,hrun,hlen,hdn⟩:=Q8T htb hf he;have hres:(results fn a.tmps).run P w=.ok (if h:vs.length=1 then vs[0] else .tuple vs.toArray) w:=by
  rw [Q8r,Sem.run_bind];have:(fn.results.mapM (rdR a.tmps)).run P w=.ok vs.toArray w:=by
   rw [Array.mapM_eq_mapM_toList,Sem.run_map,hr,hrun];rfl
  rw [this];simp
 obtain⟨k1,k2⟩:=hf.same;obtain⟨G,ok2,g0,g1,g2,g3,g4,g5,g6,g7⟩:=hf.heap.cast k1 k2 hH hn;have hFM:∀b,F b->F0 b∨w0.heap.size≤b:=λb hb=>by
  rcases gH b B'.w0.heap.size with h | h
  ·exact hext.M b ((hf.own b hb).2 h)
  ·exact .inr (Nat.le_trans hext.kp.size h)
 obtain⟨c1,c2⟩:=g6 rs rs' vs hx hlen (λj A hA=>by simpa [gD] using hdn j A hA);have hpre:∀(l:Nat) (x:Value),β0[l]?=some x->(rlβ ρ β)[l]?=some x:=λl x hl=>by
  have hlt:l<k:=by rw [<-hβ0];exact (gS.1 hl).1
  have:=hf.pre l x (by rw [hext.k];exact hlt) (by rw [hext.b0];exact hl);exact WU (by have:=Q2b h0 l hlt;simpa using this) this
 refine⟨_,hres,_,tupA rs',H',rlβ ρ β,G,ok2,rfl,by simpa [rlβ,hρ] using hΨ,hpre,λl x b hl hx' hb=>?_,hext.kp.trans hf.kp (λx hx hlt=>(hext.M x hx).resolve_right (by simp at hlt ⊢;omega)),λb hb=>g2 b (hext.ok b hb),λb hb=>?_,λb hb=>⟨hFM b (g1 b hb).1,(hf.own b (g1 b hb).1).1,(g1 b hb).2⟩,g4,?_⟩
 ·have hl2:l<nl':=by rw [<-hρ];have:=(gS.1 hx').1;simpa [rlβ] using this
  obtain⟨R,hR,hown⟩:=Q4D hcov l (by omega) (by omega);obtain⟨F1,hF1,hro⟩:=g4.get hR;exact hFM b (g1 b (hF1 b (hro.block hx' hb hown))).1
 ·rcases g3 b hb with h | h
  ·refine⟨hext.new b h,gG (hf.ok b h).1 hf.kp.size⟩
  ·exact⟨.inr (hFM b h.2.1),(hf.own b h.2.1).1⟩
 ·by_cases h1:vs.length=1
  ·obtain⟨A',rfl⟩:∃A',rs'=[A']:=List.length_eq_one_iff.1 (by omega);rw [dif_pos h1];have:=c2 0 A' rfl;have e0:vs[0]?.getD undef=vs[0]:=by simp [h1]
   rw [e0] at this;exact this
  ·rw [dif_neg h1];have ht:tupA rs'=.tup rs':=by
    unfold tupA;split
    ·rename_i A;simp at c1;omega
    ·rfl
   rw [ht];exact .tup _ _ (by simpa using c1) (λj A hA=>by simpa [gA] using c2 j A hA)
end
def Ite(b:Bool)(A B:Prop):Prop:=(b=true->A)∧(b=false->B)
@[simp] theorem Qd4(A B:Prop):Ite true A B=A:=by simp [Ite]
@[simp] theorem Qd0(A B:Prop):Ite false A B=B:=by simp [Ite]
theorem Ite.mk{b:Bool}{A B:Prop}(h1:b=true->A)(h2:b=false->B):Ite b A B:=⟨h1,h2⟩
section
variable {P:Program} {B:Base} {tb:Tab} {Γ Γ':Env} {H H':Heap} {nl nl':Nat} {ops:Array Oper} {Q:Exit->Act->World->Prop} {i:Nat} {rest:List Nat} {o:Oper}
theorem Rd.pk{A:AVal}{c x y:Operand}{b:Bool}(ho:o.op=.pick c x y)(hc:ev Γ c=some (.v (.bool b)))(hb:b=true)(hx:ev Γ x=some A):Rd P B Γ H nl o A none:=λB hB β F a w _ hf=>by
 obtain⟨dst,op,ty,pos,af,g⟩:=o;simp only at ho;subst ho;subst hb;have e:=(Qf (a:=a) hf.env hc).v_inv;exact⟨_,Qf hf.env hx,λw' _=>by simp [execOp,e,asBool]⟩
theorem Rd.pk'{A:AVal}{c x y:Operand}{b:Bool}(ho:o.op=.pick c x y)(hc:ev Γ c=some (.v (.bool b)))(hb:b=false)(hx:ev Γ y=some A):Rd P B Γ H nl o A none:=λB hB β F a w _ hf=>by
 obtain⟨dst,op,ty,pos,af,g⟩:=o;simp only at ho;subst ho;subst hb;have e:=(Qf (a:=a) hf.env hc).v_inv;exact⟨_,Qf hf.env hx,λw' _=>by simp [execOp,e,asBool]⟩
theorem Rd.dv{op:BinOp}{t t':TypeId}{x y:Operand}{k:IntKind}{a b:Int}(hq:op=.quo)(ho:o.op=.binOp op t x y t')(hx:ev Γ x=some (.v (.int k a)))(hy:ev Γ y=some (.v (.int k b)))(h0:b≠0):Rd P B Γ H nl o (.v (.int k (k.wrap (a.tdiv b)))) none:=λB hB β F ac w _ hf=>by
 obtain⟨dst,op',ty,pos,af,g⟩:=o;simp only at ho;subst ho;subst hq;have e1:=(Qf (a:=ac) hf.env hx).v_inv;have e2:=(Qf (a:=ac) hf.env hy).v_inv;exact⟨_,.ro (.v _),λw' _=>by simp [execOp,e1,e2,eqGuard,binOp,Op.intDiv,h0]⟩
theorem Rd.rm{op:BinOp}{t t':TypeId}{x y:Operand}{k:IntKind}{a b:Int}(hq:op=.rem)(ho:o.op=.binOp op t x y t')(hx:ev Γ x=some (.v (.int k a)))(hy:ev Γ y=some (.v (.int k b)))(h0:b≠0):Rd P B Γ H nl o (.v (.int k (a.tmod b))) none:=λB hB β F ac w _ hf=>by
 obtain⟨dst,op',ty,pos,af,g⟩:=o;simp only at ho;subst ho;subst hq;have e1:=(Qf (a:=ac) hf.env hx).v_inv;have e2:=(Qf (a:=ac) hf.env hy).v_inv;exact⟨_,.ro (.v _),λw' _=>by simp [execOp,e1,e2,eqGuard,binOp,Op.intDiv,h0]⟩
theorem Rd.sh{op:BinOp}{t t':TypeId}{x y:Operand}{k k':IntKind}{a b:Int}(hq:op=.shr)(ho:o.op=.binOp op t x y t')(hx:ev Γ x=some (.v (.int k a)))(hy:ev Γ y=some (.v (.int k' b)))(h0:0≤b):Rd P B Γ H nl o (.v (.int k (shrI k a b))) none:=λB hB β F ac w _ hf=>by
 obtain⟨dst,op',ty,pos,af,g⟩:=o;simp only at ho;subst ho;subst hq;have e1:=(Qf (a:=ac) hf.env hx).v_inv;have e2:=(Qf (a:=ac) hf.env hy).v_inv;have h0':¬b<0:=by omega
 exact⟨_,.ro (.v _),λw' _=>by simp [execOp,e1,e2,eqGuard,binOp,Op.shift,h0',shrI]⟩
theorem Rd.ia[htb:TabOk P tb]{α:Type}{t:TypeId}{x i:Operand}{n:Nat}{enc:α->List AVal}{xs:List α}{cs:List AVal}{k:IntKind}{j:Int}{y:α}{len e n' by_:Nat}{zc:List Value}{e':TE}
  (ho:o.op=.index t x i) (hx:ev Γ x=some (.agg cs)) (hi:ev Γ i=some (.v (.int k j))) (ht:find tb t=some ⟨.ar len e,n',by_,zc⟩) (he:find tb e=some e') (hn:e'.n=n) (hagg:e'.ti.agg=true)
  (hl:xs.length=len) (hcs:cs=(xs.map enc).flatten) (henc:∀y,y∈xs->(enc y).length=n) (hy:idx xs j=some y):Rd P B Γ H nl o (.agg (enc y)) none:=λB hB β F a w hβ hf=>by
 obtain⟨dst,op,ty,pos,af,g⟩:=o;simp only at ho;subst ho;obtain⟨vs,hv,hvl,hvd⟩:=(Qf (a:=a) hf.env hx).agg_inv;have hI:=(Qf (a:=a) hf.env hi).v_inv;obtain⟨d,hd,rfl⟩:=htb.und ht;unfold idx at hy;split at hy
 ·rename_i h0;have hlt:=(gS.1 hy).1;have flat:∀(xs:List α),(∀y,y∈xs->(enc y).length=n)->(xs.map enc).flatten.length=xs.length*n∧∀(m:Nat) (y:α),xs[m]?=some y->∀q,q<n->(xs.map enc).flatten[m*n+q]?=(enc y)[q]?:=by
   intro xs;induction xs with
   | nil=>intro _;simp
   | cons x xs ih=>
    intro hh;have hx0:=hh x (by simp);obtain⟨e1,e2⟩:=ih (λy hy=>hh y (by simp [hy]));refine⟨by simp only [List.map_cons,List.flatten_cons,List.length_append,e1,hx0,List.length_cons];rw [Nat.succ_mul];omega,λm y hy q hq=>?_⟩;cases m with
    | zero=>simp at hy;subst hy;simp only [Nat.zero_mul,Nat.zero_add,List.map_cons,List.flatten_cons];rw [gL (by omega)]
    | succ m=>
     simp only [List.map_cons,List.flatten_cons];rw [Nat.succ_mul,gR (by omega),show m*n+n+q-(enc x).length=m*n+q by omega];exact e2 m y (by simpa using hy) q hq
  obtain⟨fl1,fl2⟩:=flat xs henc;have hyl:=henc y (gM hy);have hsz:vs.size=len*n:=by rw [<-hvl,hcs,fl1,hl]
  have hle:j.toNat*n+n≤vs.size:=by
   rw [hsz,<-hl];have:(j.toNat+1)*n≤xs.length*n:=gB _ hlt;rw [Nat.succ_mul] at this;exact this
  refine⟨.agg (vs.extract (j.toNat*n) (j.toNat*n+n)),.agg _ _ (by simp;omega) (λq A hA=>?_),λw' _=>?_⟩
  ·have hq:q<n:=by rw [<-hyl];exact (gS.1 hA).1
   have:=hvd (j.toNat*n+q) A (by rw [hcs,fl2 _ _ hy q hq];exact hA);have e1:(vs.extract (j.toNat*n) (j.toNat*n+n))[q]?=vs[j.toNat*n+q]?:=by
    rw [Array.getElem?_extract];rw [gF (by omega)]
   simpa [gA,e1] using this
  ·have hj:0≤j∧j<(len:Int):=⟨h0,by omega⟩;simp [execOp,Instr.index,hI,asIntOf,run_underlying hd,hv,hj,htb.size he,hn,part,htb.isAgg he,hagg]
 ·cases hy
theorem Rd.ib[htb:TabOk P tb]{t:TypeId}{x i:Operand}{s:ByteArray}{k:IntKind}{j:Int}{c:UInt8}{n' by_:Nat}{zc:List Value}
  (ho:o.op=.index t x i) (hx:ev Γ x=some (.v (.string s))) (hi:ev Γ i=some (.v (.int k j))) (ht:find tb t=some ⟨.str,n',by_,zc⟩) (hy:idx s.data.toList j=some c):Rd P B Γ H nl o (.v (.int .u8 c.toNat)) none:=λB hB β F a w hβ hf=>by
 obtain⟨dst,op,ty,pos,af,g⟩:=o;simp only at ho;subst ho;have hv:=(Qf (a:=a) hf.env hx).v_inv;have hI:=(Qf (a:=a) hf.env hi).v_inv;obtain⟨d,hd,rfl⟩:=htb.und ht;unfold idx at hy;split at hy
 ·rename_i h0;have hlt:=(gS.1 hy).1;have hlt':j.toNat<s.size:=by simpa using hlt
  have hs:s[j.toNat]?=some c:=by
   rw [getElem?_pos s j.toNat hlt'];have:=(gS.1 hy).2;rw [<-this];rfl
  exact⟨_,.ro (.v _),λw' _=>by simp [execOp,Instr.index,hI,asIntOf,run_underlying hd,hv,h0,hs]⟩
 ·cases hy
theorem Eff.c{f:FuncId}{g:Operand}{args:Array Operand}{ts:Array TypeId}{fs cs ar As:List AVal}{H1:Heap}{nl1:Nat}(ρ:List (Option Nat)){v:Bool}{σ:Type}{post:σ->Prop}{R:σ->AVal}{H2 H3:σ->Heap}{k2 nl':Nat}{d:Option Nat}{Γ':σ->Env}{m:EM}
  (htr:Tr P f As H1 nl1 (λA H' k=>∃y,post y∧A=R y∧H'=H2 y∧k=k2)) (hen:Zb P f) (ho:o.op=.call ⟨.value g,args,ts⟩) (hg:ev Γ g=some (.fn (.func f) fs cs)) (has:evs Γ args.toList=some ar) (hcs:CsL H ρ nl v (fs++(ar++cs)) As) (hH:ChkH H ρ nl v H1)
  (hρ:ρ.length=nl1) (hρv:ρ.all (λm=>match m with | some m=>m.blt nl | none=>true)=true) (hk1:ndup (kept ρ H1)=true) (hnd:ndup (H.map (·.1))=true) (hd:o.dst=d) (hlt:dlt d B.n=true)
  (hv:v=true->∀y,NoSl (R y)∧Q5B (H2 y)) (hm:m=.any∨(ρ=[]∧m=.fx [] (!v))) (hΓ:∀y,putG d ((R y).ml (clab ρ nl)) Γ=Γ' y) (hH3:∀y,mlH (clab ρ nl) (H2 y)++Q1f ρ H=H3 y) (hnl:nl+k2=nl'):
  Eff (ι:=ULift σ) P B Γ H nl o (λy=>post y.down) (λy=>Γ' y.down) (λy=>H3 y.down) (λ_=>nl') m:=λB' hB β F a w hβ hf next Q hn=>by
 refine Eff.call (d:=d) htr hen ho hg has hcs hH hρ hρv hk1 hnd hd hlt (λhv' A H' k ⟨y,_,e1,e2,_⟩=>by subst e1;subst e2;exact hv hv' y) hm B' hB β F a w hβ hf next Q (λs hs a' w' β' F' B'' h1 h2 h3 h4 h5=>?_);obtain⟨y,hy,e1,e2,e3⟩:=hs;dsimp only at h2 h5;rw [e1,hΓ y,e2,hH3 y] at h5;rw [e3,hnl] at h2;exact hn ⟨y⟩ hy a' w' β' F' B'' h1 h2 h3 h4 h5
theorem Ite.cs{b:Bool}{A D G:Prop}(h:Ite b A D)(ht:b=true->A->G)(hf:b=false->D->G):G:=by
 cases hb:b
 ·exact hf hb (h.2 hb)
 ·exact ht hb (h.1 hb)
theorem C.jn{σ:Type}{A:(σ->Prop)->Prop}{k:σ->Prop}{c:Code}(Γf:σ->Env)(Hf:σ->Heap)(nl':Nat)(hm:Jn A k)(hrest:∀x,k x->St B (Γf x) (Hf x) nl' (Q .normal))
  (hbr:∀J,A J->(∀x,J x->St B (Γf x) (Hf x) nl' (Q .normal))->St B Γ H nl (c.wp P Q)):St B Γ H nl (c.wp P Q):=by
 obtain⟨J,hJ,hm⟩:=hm;exact hbr J hm (λx hx=>hrest x (hJ x hx))
theorem C.ite{x y:Code}{c:Operand}{b:Bool}{A D:Prop}(hc:ev Γ c=some (.v (.bool b)))(hm:Ite b A D)(ht:b=true->A->St B Γ H nl (x.wp P Q))(hf:b=false->D->St B Γ H nl (y.wp P Q)):St B Γ H nl ((Code.cond c x y).wp P Q):=
 C.cond hc (λh=>ht h (hm.1 h)) (λh=>hf h (hm.2 h))
theorem C.condT{x y:Code}{c:Operand}{b:Bool}(hc:ev Γ c=some (.v (.bool b)))(hb:b=true)(k:St B Γ H nl (x.wp P Q)):St B Γ H nl ((Code.cond c x y).wp P Q):=C.cond hc (λ_=>k) (λh=>by rw [hb] at h;cases h)
theorem C.condF{x y:Code}{c:Operand}{b:Bool}(hc:ev Γ c=some (.v (.bool b)))(hb:b=false)(k:St B Γ H nl (y.wp P Q)):St B Γ H nl ((Code.cond c x y).wp P Q):=C.cond hc (λh=>by rw [hb] at h;cases h) (λ_=>k)
section
variable {ι:Type 1} {S:ι->Prop} {Γs:ι->Env} {Hs:ι->Heap} {nls:ι->Nat} {m:EM}
theorem U.r{A:AVal}{rl:Option (List Nat)}{d:Nat}(ho:ops[i]?=some o)(hw:G5 ops Γ o true)(hd:o.dst=some d)(hlt:d.blt B.n=true)(h:Rd P B Γ H nl o A rl)
  (k:St B ((d,A) :: Γ) H nl (wpOps P ops Q rest)):St B Γ H nl (wpOps P ops Q (i :: rest)):=U.rd h ho hw hd hlt k
theorem U.e1(ho:ops[i]?=some o)(hw:G5 ops Γ o true)(h:Eff1 P B Γ H nl o Γ' H' nl' m)(k:St B Γ' H' nl' (wpOps P ops Q rest)):St B Γ H nl (wpOps P ops Q (i :: rest)):=U.eff1 h ho hw k
theorem U.e(ho:ops[i]?=some o)(hw:G5 ops Γ o true)(h:Eff P B Γ H nl o S Γs Hs nls m)(k:∀s,S s->St B (Γs s) (Hs s) (nls s) (wpOps P ops Q rest)):St B Γ H nl (wpOps P ops Q (i :: rest)):=U.eff h ho hw k
end
theorem ntF{b:Bool}(h:b=true):(!b)=false:=by simp [h]
theorem ntT{b:Bool}(h:b=false):(!b)=true:=by simp [h]
theorem Ka.body{fn:Func}{R:Ending->World->Prop}:Ka (Wx P fn R):=λc a w d v h=>h.elim
theorem Ka.th{K:Act->World->Prop}(h:Ka Q):Ka (Exit.then K Q):=λc a w d v hh=>h c a w d v hh
theorem Ka.blk{id:Nat}(h:Ka Q):Ka (Exit.inBlock id Q):=λc a w d v hh=>h c a w d v hh
section
variable {z:Nat} {ws:World} {M':Nat->Prop} {Lp Ms:List Nat} {fuel:Nat} {listed:Array Bool} {ι:Type 1} {S:ι->Prop} {Γs:ι->Env} {Hs:ι->Heap} {nls:ι->Nat} {ms:List Nat} {gr:Bool} {m:EM} {g:Bool}
theorem D.beg{id:Nat}(z:Nat)(Lp Ms:List Nat)(hm:P.follows .mixedOrders=true)(hLp:Lp.all (λl=>match find H l with | some R=>R.ownd | none=>false)=true)(hMs:Ms.all (λl=>(match find H l with | some R=>R.ownd | none=>nl.ble l)&&!Lp.contains l)=true)
  (hs:Region.noSelect ops=true) (hQ:Ka Q) (k:Ka Q->Region.noSelect ops=true->∀ws M',StD B ws M' Lp Ms false Γ H nl (QI P ops Q (Kp ws M') z ops.size (Array.replicate ops.size false))):St B Γ H nl ((Code.region id ops true).wp P Q):=
 D.start z Lp Ms hm hLp hMs (k hQ hs)
theorem D.e(i:Nat)(ho:ops[i]?=some o)(hw:G5 ops Γ o true)(h:Eff P B Γ H nl o S Γs Hs nls (.fx ms gr))(hr:Region.ready .any ops listed=[i])(hiz:i.beq z=false)(hms:ms.all (λl=>Ms.contains l)=true)
  (k:∀s,S s->StD B ws M' Lp Ms (g||gr) (Γs s) (Hs s) (nls s) (QI P ops Q (Kp ws M') z fuel (listed.setIfInBounds i true))):StD B ws M' Lp Ms g Γ H nl (QI P ops Q (Kp ws M') z (fuel+1) listed):=
 D.eff h ho hw hr hiz (λl hl=>by simpa using gT.1 hms l hl) rfl rfl k
theorem D.e1(i:Nat)(ho:ops[i]?=some o)(hw:G5 ops Γ o true)(h:Eff1 P B Γ H nl o Γ' H' nl' (.fx ms gr))(hr:Region.ready .any ops listed=[i])(hiz:i.beq z=false)(hms:ms.all (λl=>Ms.contains l)=true)
  (k:StD B ws M' Lp Ms (g||gr) Γ' H' nl' (QI P ops Q (Kp ws M') z fuel (listed.setIfInBounds i true))):StD B ws M' Lp Ms g Γ H nl (QI P ops Q (Kp ws M') z (fuel+1) listed):=
 D.e i ho hw h hr hiz hms λ_ _=>k
def Q8y(P:Program)(ops:Array Oper)(Q:Exit->Act->World->Prop)(S:World->Prop)(z fuel:Nat)(listed:Array Bool)(i:Nat)(a:Act)(w:World):Prop:=
 wpOp P ops Q i (λa' w'=>(i≠z->listed.getD z false=false->S w')∧QI P ops Q S z fuel (listed.setIfInBounds i true) a' w') a w
theorem D.ef(ho:ops[i]?=some o)(hw:G5 ops Γ o true)(h:Eff P B Γ H nl o S Γs Hs nls (.fx ms gr))(hiz:i.beq z=false)(hms:ms.all (λl=>Ms.contains l)=true)
  (k:∀s,S s->StD B ws M' Lp Ms (g||gr) (Γs s) (Hs s) (nls s) (QI P ops Q (Kp ws M') z fuel (listed.setIfInBounds i true))):StD B ws M' Lp Ms g Γ H nl (Q8y P ops Q (Kp ws M') z fuel listed i):=λa w hf=>by
 have:=D.effF (Q:=Q) h ho hw hiz (λl hl=>by simpa using gT.1 hms l hl) rfl k a w hf;exact this
theorem D.ef1(ho:ops[i]?=some o)(hw:G5 ops Γ o true)(h:Eff1 P B Γ H nl o Γ' H' nl' (.fx ms gr))(hiz:i.beq z=false)(hms:ms.all (λl=>Ms.contains l)=true)
  (k:StD B ws M' Lp Ms (g||gr) Γ' H' nl' (QI P ops Q (Kp ws M') z fuel (listed.setIfInBounds i true))):StD B ws M' Lp Ms g Γ H nl (Q8y P ops Q (Kp ws M') z fuel listed i):=D.ef ho hw h hiz hms λ_ _=>k
theorem D.ze(ho:ops[z]?=some o)(hw:G5 ops Γ o true)(h:Eff P B Γ H nl o S Γs Hs nls m)(hr:Region.ready .any ops listed=[z])(hr':Region.ready .any ops (listed.setIfInBounds z true)=[])
  (k:∀s,S s->St B (Γs s) (Hs s) (nls s) (Q .normal)):StD B ws M' Lp Ms g Γ H nl (QI P ops Q (Kp ws M') z (fuel+1) listed):=D.last h ho hw hr hr' k
theorem D.zt(rest:List Nat)(ho:ops[z]?=some o)(hw:G5 ops Γ o true)(h:Eff P B Γ H nl o S Γs Hs nls m)(hr:Region.ready .any ops listed=[z])(hz:(listed.setIfInBounds z true).getD z false=true)(hc:Q52 ops (listed.setIfInBounds z true) rest=true)(hle:rest.length.ble fuel=true)
  (k:∀s,S s->St B (Γs s) (Hs s) (nls s) (wpOps P ops Q rest)):StD B ws M' Lp Ms g Γ H nl (QI P ops Q (Kp ws M') z (fuel+1) listed):=D.lastT rest h ho hw hr hz hc hle k
theorem D.ze1(ho:ops[z]?=some o)(hw:G5 ops Γ o true)(h:Eff1 P B Γ H nl o Γ' H' nl' m)(hr:Region.ready .any ops listed=[z])(hr':Region.ready .any ops (listed.setIfInBounds z true)=[])
  (k:St B Γ' H' nl' (Q .normal)):StD B ws M' Lp Ms g Γ H nl (QI P ops Q (Kp ws M') z (fuel+1) listed):=D.last h ho hw hr hr' λ_ _=>k
end
end
theorem On.flat{w0 w:World}{ok:Nat->Prop}{α:Type}{n:Nat}{enc:α->List AVal}{xs:List α}{b off cap:Nat}{c:Array Value}{T:TypeId}{F:Nat->Prop}
  (hb:F b) (hw:w.heap[b]?=some (.cells c T (0,0))) (hlen:xs.length≤cap) (hcap:off+cap*n≤c.size) (hn:∀(i:Nat) (x:α),xs[i]?=some x->(enc x).length=n)
  (hr:∀(i j:Nat) (x:α) (A:AVal),xs[i]?=some x->(enc x)[j]?=some A->Ro w0 ok A (c.getD (off+i*n+j) undef)):On w0 ok w (.os n enc xs) (.slice (some ⟨b,off,none⟩) xs.length cap) F:=
 .os n enc xs b off cap c T F (λ_ _ _=>False) hb hw hlen hcap hn (λ_ _ _ h=>h.elim) (λ_ _ _ _ _ h=>h.elim) (λi j x A h1 h2=>.ro _ (hr i j x A h1 h2))
inductive Flat (w0:World) (ok:Nat->Prop) (w:World) {α:Type} (n:Nat) (enc:α->List AVal) (xs:List α) (F:Nat->Prop):Value->Prop where
 | nil (p:Option Addr) (h:xs=[]):Flat w0 ok w n enc xs F (.slice p 0 0)
 | row (b off cap:Nat) (c:Array Value) (T:TypeId) (hb:F b) (hw:w.heap[b]?=some (.cells c T (0,0))) (hlen:xs.length≤cap) (hcap:off+cap*n≤c.size)
   (hn:∀(i:Nat) (x:α),xs[i]?=some x->(enc x).length=n) (hr:∀(i j:Nat) (x:α) (A:AVal),xs[i]?=some x->(enc x)[j]?=some A->Ro w0 ok A (c.getD (off+i*n+j) undef)):Flat w0 ok w n enc xs F (.slice (some ⟨b,off,none⟩) xs.length cap)
theorem On.flat_of{w0 w:World}{ok:Nat->Prop}{α:Type}{n:Nat}{enc:α->List AVal}{xs:List α}{v:Value}{F:Nat->Prop}(h:On w0 ok w (.os n enc xs) v F)(hf:∀x A,A∈enc x->A.isRo=true):Flat w0 ok w n enc xs F v:=by
 cases h with
 | ro F h=>cases h
 | osNil n enc F p=>exact .nil p rfl
 | os n enc xs b off cap c T F G hb hw hlen hcap hn hG hd hr=>exact .row b off cap c T hb hw hlen hcap hn (λi j x A h1 h2=>(hr i j x A h1 h2).ro_of (hf x A (gM h2)))
theorem Zc{α:Type}{n:Nat}{enc:α->List AVal}:∀(xs:List α),(∀y,y∈xs->(enc y).length=n)->(xs.map enc).flatten.length=xs.length*n∧∀(m:Nat) (y:α),xs[m]?=some y->∀q,q<n->(xs.map enc).flatten[m*n+q]?=(enc y)[q]?
 | [],_=>by simp
 | x :: xs,hh=>by
  have hx0:=hh x (by simp);obtain⟨e1,e2⟩:=Zc xs (λy hy=>hh y (by simp [hy]));refine⟨by simp only [List.map_cons,List.flatten_cons,List.length_append,e1,hx0,List.length_cons];rw [Nat.succ_mul];omega,λm y hy q hq=>?_⟩;cases m with
  | zero=>simp at hy;subst hy;simp only [Nat.zero_mul,Nat.zero_add,List.map_cons,List.flatten_cons];rw [gL (by omega)]
  | succ m=>
   simp only [List.map_cons,List.flatten_cons];rw [Nat.succ_mul,gR (by omega),show m*n+n+q-(enc x).length=m*n+q by omega];exact e2 m y (by simpa using hy) q hq
theorem Q7X{w0:World}{ok:Nat->Prop}{β:List Value}(len:Nat)(z:Value)(e':TE)(hzl:e'.zc.length=e'.n)(hzc:z.cells.toList=e'.zc):
  DnL w0 ok β ((List.replicate len (e'.zc.map AVal.v)).flatten) ((Array.range (len*e'.n)).map (λi=>(if len*e'.n=0 then #[] else z.cells)[i % (if len*e'.n=0 then #[] else z.cells).size]!)):=by
 have hzs:z.cells.size=e'.n:=by rw [<-hzl,<-hzc];simp
 have hfl:=Zc (enc:=λ(_:Nat)=>e'.zc.map AVal.v) (n:=e'.n) (List.replicate len 0) (λ_ _=>by simpa using hzl);have hmap:(List.replicate len 0).map (λ(_:Nat)=>e'.zc.map AVal.v)=List.replicate len (e'.zc.map AVal.v):=by simp
 rw [hmap] at hfl;refine⟨by rw [hfl.1];simp,λj A hA=>?_⟩;have hj:=(gS.1 hA).1;rw [hfl.1] at hj;simp only [List.length_replicate] at hj;have hn0:0<e'.n:=by rcases Nat.eq_zero_or_pos e'.n with h | h
                                                                                                                                                           ·rw [h] at hj;simp at hj
                                                                                                                                                           ·exact h
 have hlen0:¬len*e'.n=0:=by omega
 have hdiv:j / e'.n<len:=by rw [Nat.div_lt_iff_lt_mul hn0];exact hj
 have hq:=hfl.2 (j / e'.n) 0 (by simp [hdiv]) (j % e'.n) (Nat.mod_lt _ hn0);rw [Nat.mul_comm,Nat.div_add_mod] at hq;rw [hq] at hA;simp only [gK,Option.map_eq_some_iff] at hA;obtain⟨u,hu,rfl⟩:=hA;have hm:j % e'.n<z.cells.size:=by rw [hzs];exact Nat.mod_lt _ hn0
 have hu':z.cells[j % e'.n]?=some u:=by rw [<-hu,<-hzc];simp
 have:((Array.range (len*e'.n)).map (λi=>(if len*e'.n=0 then #[] else z.cells)[i % (if len*e'.n=0 then #[] else z.cells).size]!)).getD j undef=u:=by
  simp only [gC hlen0,gA,Array.getElem?_map,Array.getElem?_range,hj,if_true,Option.map_some,Option.getD_some,hzs];rw [getElem!_pos z.cells (j % e'.n) hm];rw [Array.getElem?_eq_getElem hm] at hu';exact Option.some.inj hu'
 rw [this];exact .ro (.v u)
section
variable {P:Program} {B:Base} {tb:Tab} {Γ:Env} {H:Heap} {nl:Nat} {o:Oper}
theorem Eff1.row{α:Type}{n:Nat}{enc:α->List AVal}{xs:List α}{d:Nat}(hd:o.dst=some d)(hlt:d.blt B.n=true)(hn:∀y,y∈xs->(enc y).length=n)
  (h:∀B':Base,B'.n=B.n->∀β F a w,β.length=nl->XA B' β F Γ H a w->∃(c:Array Value) (T:TypeId) (cap:Nat) (dr:Nat),(execOp a.eval o).run P w=.ok (.value (.slice (some ⟨w.heap.size,0,none⟩) xs.length cap)) (({w with drawn:=dr}:World).alloc (.cells c T))∧w.drawn≤dr ∧
   xs.length≤cap∧cap*n≤c.size∧∀i j x A,xs[i]?=some x->(enc x)[j]?=some A->Ro B'.w0 B'.ok A (c.getD (i*n+j) undef)):
  Eff1 P B Γ H nl o ((d,.o nl) :: Γ) ((nl,.val (.os n enc xs)) :: H) (nl+1) (.fx [] false):=Eff1.of_value λB hB β F a w hβ hf=>by
 rw [<-hB] at hlt;obtain⟨c,T,cap,dr,hrun,hdr,h1,h2,h3⟩:=h B hB β F a w hβ hf;subst hβ;have hk0:Kp w B.M {w with drawn:=dr}:=Kp.drew w B.M _ hdr;have hf0:XA B β F Γ H a {w with drawn:=dr}:=⟨hf.kp.trans hk0 (λ_ h _=>h),hf.ok,hf.own,hf.heap.later (λ_ _ _=>rfl),hf.env,hf.size,hf.defers,hf.pre⟩;have hk1:Kp w (Mod β []) (({w with drawn:=dr}:World).alloc (.cells c T)):=Kp.trans (Kp.drew w (Mod β []) dr hdr) (Wg {w with drawn:=dr} (λ_=>False) (.cells c T)) (λ_ h _=>h.elim);refine⟨_,_,β++[.slice (some ⟨w.heap.size,0,none⟩) xs.length cap],(λb=>F b∨b=w.heap.size),hrun,by simp,λl x h=>Ql h,λl x b hl hx hb=>?_,?_,hk1⟩
 ·have:=YN rfl hl hx;subst this;cases cap with
  | zero=>cases hb
  | succ cap=>cases hb;exact .inl (Nat.le_refl _)
 ·rw [hd];refine (XA.alloc hf0 (.cells c T) (.slice (some ⟨w.heap.size,0,none⟩) xs.length cap) (.val (.os n enc xs)) ⟨.slice (some ⟨w.heap.size,0,none⟩) xs.length cap,by simp,?_⟩).put hlt (.o _ (.slice (some ⟨w.heap.size,0,none⟩) xs.length cap) (by simp) rfl);exact On.flat rfl (heap_alloc_new _ _) h1 (by omega) (λi x hx=>hn x (gM hx)) (λi j x A hx hA=>by rw [Nat.zero_add];exact h3 i j x A hx hA)
theorem Eff1.bs[htb:TabOk P tb]{α:Type}{t len:Nat}{parts:Array (Nat×Operand)}{n:Nat}{enc:α->List AVal}{xs:List α}{d:Nat}{e n' by_:Nat}{zc:List Value}{e':TE}{ps:List (Nat×AVal)}{cs:List AVal}
  (ho:o.op=.buildSlice t len parts) (hd:o.dst=some d) (hlt:d.blt B.n=true) (ht:find tb t=some ⟨.sl e,n',by_,zc⟩) (he:find tb e=some e') (hn:e'.n=n) (hl:xs.length=len) (hps:Q12 Γ parts.toList=some ps)
  (hcs:fillA (λi=>some (i*n,n)) ((List.replicate len (e'.zc.map AVal.v)).flatten) ps=some cs) (hxs:cs=(xs.map enc).flatten) (hlen:∀y,y∈xs->(enc y).length=n) (hro:cs.all AVal.isRo=true) (hsz:(len*n).ble 16777216=true):
  Eff1 P B Γ H nl o ((d,.o nl) :: Γ) ((nl,.val (.os n enc xs)) :: H) (nl+1) (.fx [] false):=Eff1.row hd hlt hlen λB hB β F a w hβ hf=>by
 obtain⟨dst,op,ty,pos,af,g⟩:=o;simp only at ho;subst ho;subst hn;obtain⟨e1,e2⟩:=Q0b (a:=a) hf.env hps;obtain⟨dd,hdd,rfl⟩:=htb.und ht;obtain⟨z,hz,hzc,_,hzl,_⟩:=htb.zero he;have hzs:z.cells.size=e'.n:=by rw [<-hzl,<-hzc];simp
 have hz':(if len*e'.n=0 then (pure #[]:Sem (Array Value)) else do pure (<-zeroValue e).cells).run P w=.ok (if len*e'.n=0 then #[] else z.cells) w:=by
  split
  ·rfl
  ·simp [hz]
 have hzero:=Q7X (w0:=B.w0) (ok:=B.ok) (β:=β) len z e' hzl hzc;obtain⟨zs,hfill,hdn⟩:=Q1z (place:=λi=>some (i*e'.n,e'.n)) (us:=(parts.toList.map λ(i,x)=>(i,a.eval x))) hzero (by simpa using e1) e2 hcs;refine⟨zs,e,len,w.drawn,?_,Nat.le_refl _,by omega,?_,λi j x A hx hA=>?_⟩
 ·have hp:parts.map (λx=>(x.fst,a.eval x.snd))=(parts.toList.map λ(i,x)=>(i,a.eval x)).toArray:=by apply Array.toList_inj.1;simp
  have hle:¬len*e'.n>2 ^ 24:=by have:=Nat.le_of_ble_eq_true hsz;omega
  have hf2:Instr.fill (λi=>some (i*e'.n,e'.n)) ((Array.range (len*e'.n)).map (λi=>(if len*e'.n=0 then #[] else z.cells)[i % (if len*e'.n=0 then #[] else z.cells).size]!)) (List.map (λx=>(x.fst,a.eval x.snd)) parts.toList)=some zs:=hfill;simp only [execOp,Sem.run_bind,Instr.buildSlice,run_underlying hdd,Result.andThen_ok,htb.size he,Sem.run_ite,gC hle,Sem.run_pure,hp];by_cases h0:len*e'.n=0
  ·simp only [h0,if_true] at hf2 ⊢;rw [hf2];simp [newRow,hl]
  ·simp only [gC h0] at hf2 ⊢;simp only [hz,Result.andThen_ok];rw [hf2];simp [newRow,hl]
 ·rw [<-hdn.1,hxs,(Zc xs hlen).1,hl];exact Nat.le_refl _
 ·have hj:j<e'.n:=by rw [<-hlen x (gM hx)];exact (gS.1 hA).1
  have hg:=(Zc xs hlen).2 i x hx j hj;have hA2:cs[i*e'.n+j]?=some A:=by rw [hxs,hg];exact hA
  have:=hdn.2 _ _ hA2;have hroA:=gT.1 hro A (gM hA2);exact this.ro_of hroA
theorem Eff1.mkb(bb:Nat)[htb:TabOk P tb]{α:Type}{t:TypeId}{x y:Operand}{n:Nat}{enc:α->List AVal}{z0:α}{d:Nat}{e n' by_:Nat}{zc:List Value}{e':TE}{k:Int}
  (ho:o.op=.makeSlice t x y) (hd:o.dst=some d) (hlt:d.blt B.n=true) (hx:ev Γ x=some (.v (.int .i64 k))) (hy:ev Γ y=some (.v (.int .i64 k))) (ht:find tb t=some ⟨.sl e,n',by_,zc⟩) (he:find tb e=some e') (hn:e'.n=n)
  (hz:enc z0=e'.zc.map AVal.v) (hby:e'.bytes.ble bb=true) (hk:0≤k∧k≤9007199254740992) (hkb:(bb:Int)*k≤281474976710656):
  Eff1 P B Γ H nl o ((d,.o nl) :: Γ) ((nl,.val (.os n enc (List.replicate k.toNat z0))) :: H) (nl+1) (.fx [] false):=Eff1.row hd hlt (λy hy=>by
   rw [List.eq_of_mem_replicate hy,hz];obtain⟨z,_,_,_,hzl,_⟩:=htb.zero he;simpa [<-hn] using hzl) λB hB β F a w hβ hf=>by
 obtain⟨dst,op,ty,pos,af,g⟩:=o;simp only at ho;subst ho;subst hn;have e1:=(Qf (a:=a) hf.env hx).v_inv;have e2:=(Qf (a:=a) hf.env hy).v_inv;obtain⟨dd,hdd,rfl⟩:=htb.und ht;obtain⟨zv,hzv,hzc,_,hzl,_⟩:=htb.zero he;have hzs:zv.cells.size=e'.n:=by rw [<-hzl,<-hzc];simp
 obtain⟨_,inf,z2,hinf,_,hbytes,_⟩:=htb.h _ _ he;have hby':=Nat.le_of_ble_eq_true hby;have hwrap:IntKind.i64.wrap k=k:=IntWalk.i64_in _ (by omega);have hb2:(inf.bytes:Int)*k≤2 ^ 48:=by
  have h1:(inf.bytes:Int)≤bb:=by rw [hbytes];exact_mod_cast hby'
  have h2:(inf.bytes:Int)*k≤bb*k:=Int.mul_le_mul_of_nonneg_right h1 hk.1;omega
 have hti:∀w,(typeInfo e).run P w=.ok inf w:=λw=>by simp [typeInfo,hinf]
 have hc1:¬(k<0):=by omega
 have hc2:¬((inf.bytes:Int)*k>2 ^ 48):=by omega
 refine⟨(Array.range (k.toNat*e'.n)).map (λi=>(if k.toNat*e'.n=0 then #[] else zv.cells)[i % (if k.toNat*e'.n=0 then #[] else zv.cells).size]!),e,k.toNat,w.drawn,?_,Nat.le_refl _,by simp,by simp,λi j u A hu hA=>?_⟩
 ·simp only [execOp,Sem.run_bind,Instr.makeSlice,run_underlying hdd,Result.andThen_ok,e1,e2,asInt,asIntOf,Sem.run_pure,hti,hwrap];simp only [hc1,hc2,decide_false,Bool.or_self,Bool.false_eq_true,Int.lt_irrefl,gt_iff_lt,if_false];rw [Sem.run_bind,run_askRoom,Result.andThen_ok,Sem.run_bind,htb.size he,Result.andThen_ok];by_cases h0:k.toNat*e'.n=0
  ·simp [h0,newRow]
  ·simp [h0,newRow,hzv]
 ·have hr:=Q7X (w0:=B.w0) (ok:=B.ok) (β:=β) k.toNat zv e' hzl hzc;have hlen:∀y,y∈List.replicate k.toNat z0->(enc y).length=e'.n:=λy hy=>by rw [List.eq_of_mem_replicate hy,hz];simpa using hzl
  have hj:j<e'.n:=by rw [<-hlen u (gM hu)];exact (gS.1 hA).1
  have hg:=(Zc _ hlen).2 i u hu j hj;have hm:(List.replicate k.toNat z0).map enc=List.replicate k.toNat (e'.zc.map AVal.v):=by simp [hz]
  rw [hm] at hg;have:=hr.2 (i*e'.n+j) A (by rw [hg];exact hA);refine this.ro_of ?_;have hu2:u=z0:=List.eq_of_mem_replicate (gM hu);rw [hu2,hz] at hA;simp only [gK,Option.map_eq_some_iff] at hA;obtain⟨q,_,rfl⟩:=hA;rfl
theorem Eff1.mk[htb:TabOk P tb]{α:Type}{t:TypeId}{x y:Operand}{n:Nat}{enc:α->List AVal}{z0:α}{d:Nat}{e n' by_:Nat}{zc:List Value}{e':TE}{k:Int}
  (ho:o.op=.makeSlice t x y) (hd:o.dst=some d) (hlt:d.blt B.n=true) (hx:ev Γ x=some (.v (.int .i64 k))) (hy:ev Γ y=some (.v (.int .i64 k))) (ht:find tb t=some ⟨.sl e,n',by_,zc⟩) (he:find tb e=some e') (hn:e'.n=n)
  (hz:enc z0=e'.zc.map AVal.v) (hby:e'.bytes.ble 128=true) (hk:0≤k∧k≤1099511627776):
  Eff1 P B Γ H nl o ((d,.o nl) :: Γ) ((nl,.val (.os n enc (List.replicate k.toNat z0))) :: H) (nl+1) (.fx [] false):=
 Eff1.mkb 128 ho hd hlt hx hy ht he hn hz hby ⟨hk.1,by omega⟩ (by omega)
def repH:Heap->Nat->Nat->Res->Heap
 | [],_,_,_=>[]
 | (k,S) :: H,l,l',R=>bif k.beq l then (l',R) :: H else (k,S) :: repH H l l' R
theorem HOk.rep{w0 w w':World}{ok:Nat->Prop}{β β':List Value}(hβ:∀(l:Nat) (x:Value),β[l]?=some x->β'[l]?=some x){l l':Nat}{R R':Res}(N:Nat->Prop):∀{H:Heap} {F:Nat->Prop},HOk w0 ok β w H F->find H l=some R ->
  (∀F1:Nat->Prop,(∀b,F1 b->F b)->Gn w0 ok β w l F1 R->Gn w0 ok β' w' l' (λb=>F1 b∨N b) R'∧∀b,b<w.heap.size->¬F1 b->w'.heap[b]?=w.heap[b]?) ->
  (∀b,N b->¬F b)->(∀b,F b->b<w.heap.size)->(∀S k F1,Gn w0 ok β w k F1 S->Gn w0 ok β' w k F1 S)->HOk w0 ok β' w' (repH H l l' R') (λb=>F b∨N b)
 | [],_,_,h,_,_,_,_=>by simp [find] at h
 | (k,S) :: H,F,⟨F1,F2,h1,h2,h12,hR,hH⟩,hl,hk,hN,hF,hmono=>by
  rw [find_cons] at hl;rw [repH];by_cases e:k=l
  ·subst e;rw [gF rfl] at hl;cases hl;simp only [Nat.beq_refl,cond_true];obtain⟨g1,g2⟩:=hk F1 h1 hR;have hmH:∀{H:Heap} {F:Nat->Prop},HOk w0 ok β w H F->HOk w0 ok β' w H F:=λ{H}=>by
    induction H with
    | nil=>exact λ_=>trivial
    | cons x H ih=>intro F ⟨A,C,a1,a2,a3,a4,a5⟩;exact⟨A,C,a1,a2,a3,hmono _ _ _ a4,ih a5⟩
   exact⟨λb=>F1 b∨N b,F2,λb hb=>hb.imp (h1 b) id,λb hb=>.inl (h2 b hb),λb hb hb'=>hb.elim (λh=>h12 b h hb') (λh=>hN b h (h2 b hb')),g1,
    (hmH hH).later (λb hb hlt=>g2 b hlt (λh=>h12 b h hb))⟩
  ·rw [gC e] at hl;have hb:k.beq l=false:=by cases hb:k.beq l with
    | false=>rfl
    | true=>exact absurd (Nat.eq_of_beq_eq_true hb) e
   simp only [hb,cond_false];refine⟨F1,λb=>F2 b∨N b,λb hb=>.inl (h1 b hb),λb hb=>hb.imp (h2 b) id,λb hb hb'=>hb'.elim (λh=>h12 b hb h) (λh=>hN b h (h1 b hb)),?_,HOk.rep hβ N hH hl (λG1 hG1 hR1=>hk G1 (λb hb=>h2 b (hG1 b hb)) hR1) (λb hb h=>hN b hb (h2 b h)) (λb hb=>hF b (h2 b hb)) hmono⟩;obtain⟨G,hG,hGR⟩:=hH.get hl;obtain⟨_,g2⟩:=hk G (λb hb=>h2 b (hG b hb)) hGR;exact (hmono _ _ _ hR).later (λb hb hlt=>g2 b hlt (λh=>h12 b hb (hG b h)))
structure Src (w0:World) (ok:Nat->Prop) (w:World) {α:Type} (n:Nat) (enc:α->List AVal) (ys:List α) (v:Value):Prop where
 h:∃(q:Option Addr) (c2:Nat) (news:List Value),v=.slice q ys.length c2∧news.length=ys.length*n∧(∀y,y∈ys->(enc y).length=n)∧(ys≠[]->∃p,q=some p∧∀(j:Nat) (u:Value),news[j]?=some u->w.cell? (p.add j)=some u) ∧
  ∀(i j:Nat) (y:α) (A:AVal),ys[i]?=some y->(enc y)[j]?=some A->Ro w0 ok A (news.getD (i*n+j) undef)
theorem Q2l{q len n:Nat}(h:q<len*n):0<n∧q / n<len∧q % n<n∧q / n*n+q % n=q:=by
 have hn:0<n:=by
  rcases Nat.eq_zero_or_pos n with e | e
  ·rw [e] at h;simp at h
  ·exact e
 exact⟨hn,by rw [Nat.div_lt_iff_lt_mul hn];exact h,Nat.mod_lt _ hn,by rw [Nat.mul_comm];exact Nat.div_add_mod q n⟩
theorem Src.ro{w0 w:World}{ok:Nat->Prop}{α:Type}{n:Nat}{enc:α->List AVal}{ys:List α}{v:Value}(h:Ro w0 ok (.sl n enc ys) v)(hk:∀b,ok b->w.heap[b]?=w0.heap[b]?):Src w0 ok w n enc ys v:=by
 cases h with
 | slNil n enc p=>exact⟨p,0,[],rfl,by simp,by simp,λh=>absurd rfl h,by simp⟩
 | sl n enc xs b off cap f hb hcap hn hc hr=>
  refine⟨some ⟨b,off,none⟩,cap,(List.range (ys.length*n)).map (λq=>f (q / n) (q % n)),rfl,by simp,λy hy=>?_,λ_=>⟨_,rfl,λj u hu=>?_⟩,λi j y A hy hA=>?_⟩
  ·obtain⟨i,hi⟩:=gO hy;exact hn i y hi
  ·simp only [gK,Option.map_eq_some_iff] at hu;obtain⟨q,hq,rfl⟩:=hu;obtain⟨hj,rfl⟩:=gS.1 hq;simp only [List.getElem_range];simp only [List.length_range] at hj;obtain⟨h1,h2,h3,h4⟩:=Q2l hj;have hy:=gE h2;have hA:j % n<(enc ys[j / n]).length:=by rw [hn _ _ hy];exact h3
   have:=hc (j / n) (j % n) _ _ hy (gE hA);rw [Nat.add_assoc,h4] at this;rw [Xl,World.cell?_of_block (w:=w0) (by show w.heap[b]?=w0.heap[b]?;exact hk b hb)];exact this
  ·have hjn:j<n:=by rw [<-hn i y hy];exact (gS.1 hA).1
   have hi:=(gS.1 hy).1;have hlt:i*n+j<ys.length*n:=by
    have:(i+1)*n≤ys.length*n:=gB _ hi;rw [Nat.succ_mul] at this;omega
   have e1:(i*n+j) / n=i:=by rw [Nat.mul_comm,Nat.mul_add_div (by omega),Nat.div_eq_of_lt hjn];rfl
   have e2:(i*n+j) % n=j:=by rw [Nat.mul_comm,Nat.mul_add_mod];exact Nat.mod_eq_of_lt hjn
   have:((List.range (ys.length*n)).map (λq=>f (q / n) (q % n))).getD (i*n+j) undef=f i j:=by
    simp [gD,List.getElem?_range hlt,e1,e2]
   rw [this];exact hr i j y A hy hA
theorem Src.own{w0 w:World}{ok:Nat->Prop}{α:Type}{n:Nat}{enc:α->List AVal}{ys:List α}{v:Value}{F:Nat->Prop}(h:Flat w0 ok w n enc ys F v):Src w0 ok w n enc ys v:=by
 cases h with
 | nil p h=>subst h;exact⟨p,0,[],rfl,by simp,by simp,λh=>absurd rfl h,by simp⟩
 | row b off cap c T hb hw hlen hcap hn hr=>
  have hsz:off+ys.length*n≤c.size:=by
   have:ys.length*n≤cap*n:=gB _ hlen;omega
  refine⟨some ⟨b,off,none⟩,cap,(c.toList.drop off).take (ys.length*n),rfl,by simp;omega,λy hy=>?_,λ_=>⟨_,rfl,λj u hu=>?_⟩,λi j y A hy hA=>?_⟩
  ·obtain⟨i,hi⟩:=gO hy;exact hn i y hi
  ·have hj:=(gS.1 hu).1;simp only [List.length_take,List.length_drop,Array.length_toList] at hj;rw [List.getElem?_take,gF (by omega),List.getElem?_drop] at hu;rw [Xl];have:c[off+j]?=some u:=by simpa using hu
   simp [World.cell?,hw,this]
  ·have hjn:j<n:=by rw [<-hn i y hy];exact (gS.1 hA).1
   have hi:=(gS.1 hy).1;have hlt:i*n+j<ys.length*n:=by
    have:(i+1)*n≤ys.length*n:=gB _ hi;rw [Nat.succ_mul] at this;omega
   have:=hr i j y A hy hA;have e:((c.toList.drop off).take (ys.length*n)).getD (i*n+j) undef=c.getD (off+i*n+j) undef:=by
    simp only [gD,gA];rw [List.getElem?_take,gF hlt,List.getElem?_drop,Nat.add_assoc];simp
   rw [e];exact this
theorem Q43{w:World}{α:Type}{n:Nat}{ys:List α}{q:Option Addr}{c2:Nat}{news:List Value}(hl:news.length=ys.length*n)
  (hq:ys≠[]->∃p,q=some p∧∀(j:Nat) (u:Value),news[j]?=some u->w.cell? (p.add j)=some u):(Builtin.firstCells n ys.length (.slice q ys.length c2)).run P w=.ok news.toArray w:=by
 by_cases h:ys=[]
 ·subst h;have hz:news=[]:=List.eq_nil_of_length_eq_zero (by rw [hl];simp);subst hz;cases q with
  | none=>simp [Builtin.firstCells]
  | some p=>simp [Builtin.firstCells,loadCells,loadCellsFrom]
 ·obtain⟨p,rfl,hp⟩:=hq h;exact run_firstCells_some w n ys.length p _ c2 news hl hp
theorem Q9Y(x y:List Value)(j:Nat):(x++y).getD j undef=if j<x.length then x.getD j undef else y.getD (j-x.length) undef:=by
 simp only [gD];split
 ·rename_i h;rw [gL h]
 ·rename_i h;rw [gR (by omega)]
def Q1r(A:AVal):Bool:=A.isRo&&A.one
theorem Q29{A:AVal}(h:Q1r A=true):A.isRo=true:=by simp [Q1r] at h;exact h.1
theorem Q2p{A:AVal}(h:Q1r A=true):A.one=true:=by simp [Q1r] at h;exact h.2
theorem Q0i{t ty e:TypeId}{inf:TypeInfo}(hdd:P.underlying t=some (.slice e))(hinf:P.info? e=some inf){w w':World}{p q:Option Addr}{n m cap c2:Nat}{news:List Value}
  (hle:n+m≤cap) (hf:(Builtin.firstCells inf.size m (.slice q m c2)).run P w=.ok news.toArray w) (hs:(match p with | some a=>storeCells (a.add (n*inf.size)) news | none=>pure ():Sem Unit).run P w=.ok () w'):
  (Builtin.append_ #[t,t] ty #[.slice p n cap,.slice q m c2]).run P w=.ok (.slice p (n+m) cap) w':=by
 cases p with
 | none=>
  simp only [Sem.run_pure,Result.ok.injEq,true_and] at hs;subst hs;simp [Builtin.append_,run_underlying hdd,sizeOf,typeInfo,hinf,Builtin.lenOf,hle,hf]
 | some a=>
  simp only at hs;simp [Builtin.append_,run_underlying hdd,sizeOf,typeInfo,hinf,Builtin.lenOf,hle,hf,hs]
theorem Q1C{t ty e:TypeId}{inf:TypeInfo}{z:Value}(hdd:P.underlying t=some (.slice e))(hinf:P.info? e=some inf)(hz:inf.zero=some z){w:World}{p q:Option Addr}{n m cap c2:Nat}{olds news:List Value}
  (hg:cap<n+m) (hlo:olds.length=n*inf.size) (holds:∀a,p=some a->∀j v,olds[j]?=some v->w.cell? (a.add j)=some v) (hp:p=none->n=0∧cap=0) {a:Addr} (hq:q=some a) (hl:news.length=m*inf.size) (hnews:∀j v,news[j]?=some v->w.cell? (a.add j)=some v)
  (hby:inf.bytes≤128) (hlen:n+m≤1099511627776):
  ∃cap',n+m≤cap'∧(Builtin.append_ #[t,t] ty #[.slice p n cap,.slice q m c2]).run P w=.ok (.slice (some ⟨w.heap.size,0,none⟩) (n+m) cap') (w.drew.alloc (.cells (olds.toArray++news.toArray++Builtin.zeroCells z.cells (cap'-(n+m))) e)):=by
 subst hq;have hb:(n+m)*inf.bytes≤140737488355328:=by
  have:(n+m)*inf.bytes≤1099511627776*128:=Nat.mul_le_mul hlen hby;omega
 cases p with
 | none=>
  obtain⟨rfl,rfl⟩:=hp rfl;have ho:olds=[]:=List.eq_nil_of_length_eq_zero (by rw [hlo];simp);subst ho;refine⟨grownCap w (0+m) 0 e,grownCap_ge _ _ _ _,?_⟩;simp only [Nat.zero_add];have:=run_append_nil (P:=P) w t ty e inf z hdd hinf hz a m c2 news hl hnews (by omega) (by omega) (by simp at hb;omega);simpa using this
 | some b=>
  exact⟨grownCap w (n+m) cap e,grownCap_ge _ _ _ _,run_append_grow (P:=P) w t ty e inf z hdd hinf hz b n cap olds hlo (holds b rfl) a m c2 news hl hnews hg (by omega) (growslice_fits hg hb)⟩
theorem Flat.cells{w0 w:World}{ok:Nat->Prop}{α:Type}{n:Nat}{enc:α->List AVal}{xs:List α}{F:Nat->Prop}{v:Value}(h:Flat w0 ok w n enc xs F v):
  ∃(p:Option Addr) (cap:Nat) (olds:List Value),v=.slice p xs.length cap∧olds.length=xs.length*n∧(∀a,p=some a->∀j u,olds[j]?=some u->w.cell? (a.add j)=some u)∧(p=none->xs.length=0∧cap=0)∧xs.length≤cap∧(cap≠0->∃b off c T,p=some ⟨b,off,none⟩∧F b∧w.heap[b]?=some (.cells c T (0,0))∧off+cap*n≤c.size ∧
   ∀(i j:Nat) (x:α) (A:AVal),xs[i]?=some x->(enc x)[j]?=some A->Ro w0 ok A (c.getD (off+i*n+j) undef)) ∧
   (∀x,x∈xs->(enc x).length=n)∧∀(i j:Nat) (x:α) (A:AVal),xs[i]?=some x->(enc x)[j]?=some A->Ro w0 ok A (olds.getD (i*n+j) undef):=by
 cases h with
 | nil p h=>
  subst h;exact⟨p,0,[],rfl,by simp,by simp,λ_=>⟨rfl,rfl⟩,by simp,by simp,by simp,by simp⟩
 | row b off cap c T hb hw hlen hcap hn hr=>
  have hle:xs.length*n≤cap*n:=gB _ hlen;refine⟨some ⟨b,off,none⟩,cap,(c.toList.drop off).take (xs.length*n),rfl,by simp;omega,λa ha j u hu=>?_,by simp,hlen,λ_=>⟨b,off,c,T,rfl,hb,hw,hcap,hr⟩,λx hx=>?_,λi j y A hy hA=>?_⟩
  ·cases ha;have hj:=(gS.1 hu).1;simp only [List.length_take,List.length_drop,Array.length_toList] at hj;rw [List.getElem?_take,gF (by omega),List.getElem?_drop] at hu;rw [Xl];have:c[off+j]?=some u:=by simpa using hu
   simp [World.cell?,hw,this]
  ·obtain⟨i,hi⟩:=gO hx;exact hn i x hi
  ·have hj:j<n:=by rw [<-hn i y hy];exact (gS.1 hA).1
   have hi:=(gS.1 hy).1;have hlt:i*n+j<xs.length*n:=by
    have:(i+1)*n≤xs.length*n:=gB _ hi;rw [Nat.succ_mul] at this;omega
   have:=hr i j y A hy hA;have e:((c.toList.drop off).take (xs.length*n)).getD (i*n+j) undef=c.getD (off+i*n+j) undef:=by
    simp only [gD,gA];rw [List.getElem?_take,gF hlt,List.getElem?_drop,Nat.add_assoc];simp
   rw [e];exact this
theorem Q9f{w0:World}{ok:Nat->Prop}{α:Type}{n:Nat}{enc:α->List AVal}{xs ys:List α}{olds news:List Value}(hlo:olds.length=xs.length*n)(hxn:∀x,x∈xs++ys->(enc x).length=n)
  (hr:∀(i j:Nat) (x:α) (A:AVal),xs[i]?=some x->(enc x)[j]?=some A->Ro w0 ok A (olds.getD (i*n+j) undef)) (hr2:∀(i j:Nat) (x:α) (A:AVal),ys[i]?=some x->(enc x)[j]?=some A->Ro w0 ok A (news.getD (i*n+j) undef)):
  ∀(i j:Nat) (x:α) (A:AVal),(xs++ys)[i]?=some x->(enc x)[j]?=some A->Ro w0 ok A ((olds++news).getD (i*n+j) undef):=λi j x A hx hA=>by
 have hj:j<n:=by rw [<-hxn x (gM hx)];exact (gS.1 hA).1
 rw [Q9Y];rcases gH i xs.length with hi | hi
 ·rw [gL hi] at hx;have:(i+1)*n≤xs.length*n:=gB _ hi;rw [Nat.succ_mul] at this;rw [gF (by rw [hlo];omega)];exact hr i j x A hx hA
 ·rw [gR hi] at hx;have e1:i*n=xs.length*n+(i-xs.length)*n:=by rw [<-Nat.add_mul];congr 1;omega
  rw [gC (by rw [hlo];omega),hlo];have e2:i*n+j-xs.length*n=(i-xs.length)*n+j:=by omega
  rw [e2];exact hr2 _ j x A hx hA
end
section
variable {P:Program} {B:Base} {tb:Tab} {Γ:Env} {H:Heap} {nl:Nat} {o:Oper}
theorem Qa1{w0:World}{ok:Nat->Prop}{α:Type}{n:Nat}{enc:α->List AVal}{ys:List α}{news:List Value}(hflat:∀x,(enc x).all Q1r=true)(hnl:news.length=ys.length*n)(hyn:∀y,y∈ys->(enc y).length=n)
  (hnr:∀(i j:Nat) (x:α) (A:AVal),ys[i]?=some x->(enc x)[j]?=some A->Ro w0 ok A (news.getD (i*n+j) undef)):∀u∈news,u.oneCell'=true:=λu hu=>by
 obtain⟨k,hk,rfl⟩:=List.getElem_of_mem hu;have hk':=hk;rw [hnl] at hk;obtain⟨m1,m2,m3,m4⟩:=Q2l hk;have hy:=gE m2;have hA:k % n<(enc ys[k / n]).length:=by rw [hyn _ (List.getElem_mem _)];exact m3
 have:=hnr _ _ _ _ hy (gE hA);rw [m4] at this;have e1:news.getD k undef=news[k]:=by simp [gD,hk']
 rw [e1] at this;have hone:=Q2p (gT.1 (hflat ys[k / n]) _ (List.getElem_mem hA));exact (Dn.ro (β:=[]) this).one hone
theorem Eff1.ap[htb:TabOk P tb]{α:Type}{t:TypeId}{s x:Operand}{l n:Nat}{enc:α->List AVal}{xs ys:List α}{d:Nat}{e n' by_:Nat}{zc:List Value}{e':TE}{X:AVal}
  (ho:o.op=.call ⟨.builtin .append,#[s,x],#[t,t]⟩) (hd:o.dst=some d) (hlt:d.blt B.n=true) (hs:ev Γ s=some (.o l)) (hl:find H l=some (.val (.os n enc xs))) (hx:ev Γ x=some X)
  (hX:X=.sl n enc ys∨∃l2,X=.o l2∧find H l2=some (.val (.os n enc ys))) (ht:find tb t=some ⟨.sl e,n',by_,zc⟩) (he:find tb e=some e') (hn:e'.n=n) (hflat:∀x,(enc x).all Q1r=true) (hby:e'.bytes.ble 128=true)
  (hlen:xs.length+ys.length≤1099511627776):
  Eff1 P B Γ H nl o ((d,.o nl) :: Γ) (repH H l nl (.val (.os n enc (xs++ys)))) (nl+1) (.fx [l] false):=Eff1.of_value λB hB β F a w hβ hf=>by
 rw [<-hB] at hlt;have hfro:∀x A,A∈enc x->A.isRo=true:=λx A h=>Q29 (gT.1 (hflat x) A h)
 obtain⟨dst,op,ty,pos,af,g⟩:=o;simp only at ho hd;subst ho;subst hd;subst hn;subst hβ;obtain⟨dd,hdd,rfl⟩:=htb.und ht;obtain⟨zv,hzv,hzc,_,hzl,_⟩:=htb.zero he;obtain⟨_,inf,z2,hinf,hsize,hbytes,hzero,_⟩:=htb.h _ _ he;have hby':=Nat.le_of_ble_eq_true hby;have hok:∀b,B.ok b->w.heap[b]?=B.w0.heap[b]?:=λb hb=>by have:=hf.ok b hb;exact hf.kp.block b this.1 this.2
 -- the source
 have hsrc:Src B.w0 B.ok w e'.n enc ys (a.eval x):=by
  rcases hX with rfl | ⟨l2,rfl,h2⟩
  ·exact Src.ro (Qf hf.env hx).sl_inv hok
  ·obtain⟨F2,_,y,hy,ho2⟩:=hf.heap.get h2;have:=(Qf (a:=a) hf.env hx).o_inv;rw [hy] at this;cases this;exact Src.own (ho2.flat_of hfro)
 obtain⟨q,c2,news,hxv,hnl,hyn,hq,hnr⟩:=hsrc.h;obtain⟨F0,hF0,v,hv,hov⟩:=hf.heap.get hl;have hsv:a.eval s=v:=by
  have:=(Qf (a:=a) hf.env hs).o_inv;rw [hv] at this;cases this;rfl
 have hfirst:∀w',(∀b,b<w.heap.size->w'.heap[b]?=w.heap[b]?)->(Builtin.firstCells e'.n ys.length (.slice q ys.length c2)).run P w'=.ok news.toArray w':=λw' hw'=>Q43 hnl (λh=>by
  obtain⟨p,e1,e2⟩:=hq h;exact⟨p,e1,λj u hu=>by have:=e2 j u hu;rw [World.cell?_of_block (w:=w) (hw' _ (Q14 this))];exact this⟩)
 -- what the walk needs of the outcome
 suffices key:∃(v':Value) (w':World) (N:Nat->Prop),(execOp a.eval ⟨some d,.call ⟨.builtin .append,#[s,x],#[t,t]⟩,ty,pos,af,g⟩).run P w=.ok (.value v') w'∧(∀b,N b->b=w.heap.size)∧w.heap.size≤w'.heap.size∧(∀b,N b->b<w'.heap.size)∧Kp w (Mod β [l]) w'∧v'.oneCell'=true ∧
   (∀b,hdr v'=some b->w.heap.size≤b∨Mod β [l] b) ∧
   ∀F1:Nat->Prop,Gn B.w0 B.ok β w l F1 (.val (.os e'.n enc xs))->On B.w0 B.ok w' (.os e'.n enc (xs++ys)) v' (λb=>F1 b∨N b)∧∀b,b<w.heap.size->¬F1 b->w'.heap[b]?=w.heap[b]? by
  obtain⟨v',w',N,hrun,hN,hgr,hN2,hkp,hone,hhdr,hres⟩:=key;obtain⟨_,hfr⟩:=hres F0 ⟨v,hv,hov⟩;refine⟨v',w',β++[v'],λb=>F b∨N b,hrun,by simp,λl x h=>Ql h,λl' x b hl' hx' hb=>?_,XA.put (A:=.o β.length) ⟨hf.kp.trans hkp (λb ⟨l',hl',y,hy,hhy⟩ hlt'=>?_),hf.ok,λb hb=>?_,HOk.rep (λl x h=>Ql h) N hf.heap hl (λF1 hF1 hR=>?_) (λb hb h=>?_) (λb hb=>(hf.own b hb).1) (λS k F1 h=>h.snoc v'),λt' A hA=>(hf.env t' A hA).snoc v',hf.size,hf.defers,λl x hl hx=>Ql (hf.pre l x hl hx)⟩ hlt (.o _ _ (by simp) hone),hkp⟩
  ·have:=YN rfl hl' hx';subst this;exact hhdr b hb
  ·simp only [List.mem_singleton] at hl';subst hl';obtain⟨F3,hF3,hr3⟩:=hf.heap.get hl;exact (hf.own b (hF3 b (hr3.block hy hhy rfl))).2 hlt'
  ·rcases hb with hb | hb
   ·have:=hf.own b hb;exact⟨gG this.1 hgr,this.2⟩
   ·refine⟨hN2 b hb,λh=>?_⟩;have:=hN b hb;have:=hf.kp.size;omega
  ·obtain⟨h1,h2⟩:=hres F1 hR;exact⟨⟨v',by simp,h1⟩,λb hb hn=>h2 b hb hn⟩
  ·have:=(hf.own b h).1;have:=hN b hb;omega
 have hexec:∀(r:Value) (w':World),(Builtin.append_ #[t,t] ty #[v,.slice q ys.length c2]).run P w=.ok r w'->(execOp a.eval ⟨some d,.call ⟨.builtin .append,#[s,x],#[t,t]⟩,ty,pos,af,g⟩).run P w=.ok (.value r) w':=λr w' h=>by
  simp [execOp,resolve,invoke,builtin,hsv,hxv,h]
 obtain⟨p,cap,olds,rfl,hol,hop,hpn,hcl,hrow,hxn1,hor⟩:=(hov.flat_of hfro).cells;have hxn:∀y,y∈xs++ys->(enc y).length=e'.n:=λy hy=>by
  rcases List.mem_append.1 hy with h | h
  ·exact hxn1 y h
  ·exact hyn y h
 have hone:=Qa1 hflat hnl hyn hnr;have happ:=Q9f hol hxn hor hnr;have hsz:inf.size=e'.n:=hsize;by_cases hroom:xs.length+ys.length≤cap
 ·by_cases hc0:cap=0
  ·have hx0:xs=[]:=List.eq_nil_of_length_eq_zero (by omega);have hy0:ys=[]:=List.eq_nil_of_length_eq_zero (by omega);subst hx0;subst hy0;subst hc0;have hn0:news=[]:=List.eq_nil_of_length_eq_zero (by rw [hnl];simp);subst hn0;have hf1:=hfirst w (λ_ _=>rfl);have:=Q0i (ty:=ty) (p:=p) (w':=w) hdd hinf hroom (by rw [hsz];exact hf1) (by cases p <;> simp [storeCells]);refine⟨.slice p 0 0,w,λ_=>False,hexec _ _ this,λ_ h=>h.elim,Nat.le_refl _,λ_ h=>h.elim,.refl _ _,rfl,(λb hb=>by cases p <;> cases hb),λF1 hR=>⟨.osNil _ _ _ p,λ_ _ _=>rfl⟩⟩
  ·obtain⟨b,off,c,T,rfl,hFb,hw,hcap,hr⟩:=hrow hc0;have hcapn:off+(xs.length+ys.length)*e'.n≤c.size:=by
    have:(xs.length+ys.length)*e'.n≤cap*e'.n:=gB _ hroom;omega
   rw [Nat.add_mul] at hcapn;have hst:=run_storeCells_at (P:=P) b (off+xs.length*e'.n) T news 0 c w hw (by rw [hnl];omega) hone;simp only [Nat.add_zero] at hst;have hrow':=setRow_heap w b c ((c.toList.take (off+xs.length*e'.n)++news++c.toList.drop (off+xs.length*e'.n+news.length)).toArray) T (0,0) hw;generalize hc':((c.toList.take (off+xs.length*e'.n)++news++c.toList.drop (off+xs.length*e'.n+news.length)).toArray)=c' at hst hrow';obtain⟨cap',rfl⟩:∃k,cap=k+1:=⟨cap-1,by omega⟩;have hhd:Mod β [l] b:=⟨l,by simp,_,hv,rfl⟩;have hf1:=hfirst w (λ_ _=>rfl);have hrun:=Q0i (ty:=ty) (p:=some ⟨b,off,none⟩) (w':=w.setRow b c') hdd hinf hroom (by rw [hsz];exact hf1) (by simp only [Xl,hsz];exact hst);refine⟨_,w.setRow b c',λ_=>False,hexec _ _ hrun,λ_ h=>h.elim,by simp,λ_ h=>h.elim,GY w b c' _ hhd,rfl,(λb' hb'=>by cases hb';exact .inr hhd),λF1 hR=>⟨?_,λb' hb' hnb=>setRow_other w b b' c' (λe=>hnb (e▸hR.block hv rfl rfl))⟩⟩;have hc's:c'.size=c.size:=by rw [<-hc'];simp;omega
   have hfl2:=On.flat (w0:=B.w0) (ok:=B.ok) (w:=w.setRow b c') (enc:=enc) (n:=e'.n) (xs:=xs++ys) (b:=b) (off:=off) (cap:=cap'+1) (c:=c') (T:=T) (F:=λb=>F1 b∨False) (.inl (hR.block hv rfl rfl)) hrow' (by simpa using hroom) (by rw [hc's];exact hcap)
    (λi y hy=>hxn y (gM hy)) (λi j y A hy hA=>?_)
   ·simpa using hfl2
   ·have hj:j<e'.n:=by rw [<-hxn y (gM hy)];exact (gS.1 hA).1
    rw [<-hc',Yw _ _ _ (by rw [hnl];omega)];rcases gH i xs.length with hi | hi
    ·rw [gL hi] at hy;have hlt2:i*e'.n+j<xs.length*e'.n:=by
      have:(i+1)*e'.n≤xs.length*e'.n:=gB _ hi;rw [Nat.succ_mul] at this;omega
     rw [gC (by omega)];exact hr i j y A hy hA
    ·rw [gR hi] at hy;have hi2:=(gS.1 hy).1;have e1:i*e'.n=xs.length*e'.n+(i-xs.length)*e'.n:=by rw [<-Nat.add_mul];congr 1;omega
     have hlt2:(i-xs.length)*e'.n+j<ys.length*e'.n:=by
      have:(i-xs.length+1)*e'.n≤ys.length*e'.n:=gB _ hi2;rw [Nat.succ_mul] at this;omega
     rw [gF (by rw [hnl];omega)];have e2:off+i*e'.n+j-(off+xs.length*e'.n)=(i-xs.length)*e'.n+j:=by omega
     rw [e2];exact hnr _ _ _ _ hy hA
 ·have hy0:ys≠[]:=λe=>by subst e;simp at hroom;omega
  obtain⟨ad,hqa,hqn⟩:=hq hy0;obtain⟨cap',hcap',hrun⟩:=Q1C (P:=P) (ty:=ty) hdd hinf hzero (w:=w) (p:=p) (q:=q) (n:=xs.length) (m:=ys.length) (cap:=cap) (c2:=c2) (olds:=olds) (news:=news) (by omega) (by rw [hol,hsz]) hop hpn hqa (by rw [hnl,hsz]) hqn (by rw [hbytes];exact hby') hlen;have hz2:z2.cells.size=e'.n:=by
   rename_i hrest;have:z2.cells.toList=e'.zc:=hrest.1;rw [<-hzl,<-this];simp
  have hk1:Kp w (λ_=>False) (w.drew.alloc (.cells (olds.toArray++news.toArray++Builtin.zeroCells z2.cells (cap'-(xs.length+ys.length))) e)):=Kp.trans (Kp.drew w (λ_=>False) _) (Wg w.drew (λ_=>False) _) (λ_ h _=>h);refine⟨_,_,λb=>b=w.heap.size,hexec _ _ hrun,λ_ h=>h,hk1.size,(λb hb=>by subst hb;exact Nat.lt_of_lt_of_eq (Nat.lt_succ_self w.drew.heap.size) (by simp)),hk1.mono (λ_ h _=>h.elim),rfl,λb hb=>?_,λF1 hR=>⟨?_,λb hb _=>hk1.block b hb (λh=>h)⟩⟩
  ·cases cap' with
   | zero=>cases hb
   | succ k=>cases hb;exact .inl (Nat.le_refl _)
  ·have hlen2:(xs++ys).length=xs.length+ys.length:=by simp
   have hw':(w.drew.alloc (.cells (olds.toArray++news.toArray++Builtin.zeroCells z2.cells (cap'-(xs.length+ys.length))) e)).heap[w.heap.size]?=some (.cells (olds.toArray++news.toArray++Builtin.zeroCells z2.cells (cap'-(xs.length+ys.length))) e (0,0)):=heap_alloc_new w.drew _;have:=On.flat (w0:=B.w0) (ok:=B.ok) (enc:=enc) (n:=e'.n) (xs:=xs++ys) (off:=0) (cap:=cap') (F:=λb=>F1 b∨b=w.heap.size) (.inr rfl) hw' (by rw [hlen2];exact hcap') (by
    simp only [Array.size_append,List.size_toArray,hol,hnl,size_zeroCells,hz2,Nat.zero_add,<-Nat.add_mul];exact gB _ (by omega)) (λi y hy=>hxn y (gM hy)) (λi j y A hy hA=>?_)
   ·rw [hlen2] at this;exact this
   ·have:=happ i j y A hy hA;have hj:j<e'.n:=by rw [<-hxn y (gM hy)];exact (gS.1 hA).1
    have hi:=(gS.1 hy).1;rw [hlen2] at hi;have hlt2:i*e'.n+j<xs.length*e'.n+ys.length*e'.n:=by
     have:(i+1)*e'.n≤(xs.length+ys.length)*e'.n:=gB _ hi;rw [Nat.succ_mul,Nat.add_mul] at this;omega
    have e3:(olds.toArray++news.toArray++Builtin.zeroCells z2.cells (cap'-(xs.length+ys.length))).getD (0+i*e'.n+j) undef=(olds++news).getD (i*e'.n+j) undef:=by
     rw [Nat.zero_add,gA,gD];rw [Array.getElem?_append_left (by simp [hol,hnl];omega)];simp
    rw [e3];exact this
end
def sub{α:Type}(xs:List α)(lo hi:Int):List α:=(xs.drop lo.toNat).take (hi.toNat-lo.toNat)
inductive Bd (Γ:Env):Option Operand->Int->Int->Prop where
 | none (d:Int):Bd Γ Option.none d d
 | some {x:Operand} {k:IntKind} {i:Int} (d:Int) (h:ev Γ x=Option.some (.v (.int k i))):Bd Γ (Option.some x) d i
section
variable {P:Program} {B:Base} {tb:Tab} {Γ:Env} {H:Heap} {nl:Nat} {o:Oper}
theorem YY{w0 w:World}{ok:Nat->Prop}{β:List Value}{a:Act}(hΓ:Q0j w0 ok β Γ a){low high:Option Operand}{len cap:Nat}{lo hi:Int}(hlo:Bd Γ low 0 lo)(hhi:Bd Γ high len hi)(h:0≤lo∧lo≤hi∧hi≤len)(hc:len≤cap):
  (Instr.sliceBounds true len cap (low.map a.eval) (high.map a.eval) none).run P w=.ok (lo.toNat,hi.toNat,cap) w:=by
 have hH:∀hi',hi'=hi->(hi':Int)≤(cap:Int):=λ_ e=>by omega
 have h1:hi≤(cap:Int):=by omega
 have h2:0≤hi:=by omega
 cases hhi with
 | none=>
  cases hlo with
  | none=>simp [Instr.sliceBounds]
  | some d h'=>
   have e:=(Qf (a:=a) hΓ h').v_inv;have:lo≤(len:Int):=h.2.1;simp [Instr.sliceBounds,Instr.sliceBound,e,asIntOf,h.1,this]
 | some d hh=>
  have e2:=(Qf (a:=a) hΓ hh).v_inv;cases hlo with
  | none=>simp [Instr.sliceBounds,Instr.sliceBound,e2,asIntOf,h1,h2]
  | some d h'=>
   have e:=(Qf (a:=a) hΓ h').v_inv;have h3:(hi.toNat:Int)=hi:=Int.toNat_of_nonneg h2;have:lo≤hi:=h.2.1;simp [Instr.sliceBounds,Instr.sliceBound,e,e2,asIntOf,h1,h2,h.1,h3,this]
theorem Q3J{α:Type}{xs:List α}{lo hi:Int}{i:Nat}{x:α}(h:(sub xs lo hi)[i]?=some x):xs[lo.toNat+i]?=some x:=by
 unfold sub at h;rw [List.getElem?_take] at h;split at h
 ·rw [List.getElem?_drop] at h;exact h
 ·cases h
theorem Rd.so[htb:TabOk P tb]{α:Type}{t:TypeId}{x:Operand}{low high:Option Operand}{n:Nat}{enc:α->List AVal}{xs:List α}{e n' by_:Nat}{zc:List Value}{e':TE}{lo hi:Int}
  (ho:o.op=.slice t x low high none) (hx:ev Γ x=some (.sl n enc xs)) (ht:find tb t=some ⟨.sl e,n',by_,zc⟩) (he:find tb e=some e') (hn:e'.n=n) (hlo:Bd Γ low 0 lo) (hhi:Bd Γ high xs.length hi) (hb:0≤lo∧lo≤hi∧hi≤(xs.length:Int)):
  Rd P B Γ H nl o (.sl n enc (sub xs lo hi)) none:=λB hB β F a w hβ hf=>by
 obtain⟨dst,op,ty,pos,af,g⟩:=o;simp only at ho;subst ho;subst hn;have hX:=(Qf (a:=a) hf.env hx).sl_inv;obtain⟨d,hd,rfl⟩:=htb.und ht;have hlen:(sub xs lo hi).length=hi.toNat-lo.toNat:=by unfold sub;simp;omega
 generalize hv:a.eval x=v at hX;cases hX with
 | slNil n enc p=>
  have h0:lo=0:=by simp at hb;omega
  have h1:hi=0:=by simp at hb;omega
  subst h0;subst h1;refine⟨.slice p 0 0,.ro (.slNil _ _ p),λw' _=>?_⟩;have hrun:=YY (P:=P) (w:=w') hf.env (len:=0) (cap:=0) hlo hhi hb (Nat.le_refl _);simp [execOp,Instr.sliceAt,Instr.slice,run_underlying hd,hv,hrun,htb.size he]
 | sl _ _ _ b off cap f hbk hcap hn' hc hr=>
  have hm:lo.toNat≤cap:=by omega
  refine⟨.slice (some (if cap=lo.toNat then ⟨b,off,none⟩ else ⟨b,off+lo.toNat*e'.n,none⟩)) (hi.toNat-lo.toNat) (cap-lo.toNat),?_,λw' _=>?_⟩
  ·by_cases hcl:cap=lo.toNat
   ·have hz:sub xs lo hi=[]:=List.eq_nil_of_length_eq_zero (by rw [hlen];omega);rw [gF hcl,hz];have e1:hi.toNat-lo.toNat=0:=by omega
    have e2:cap-lo.toNat=0:=by omega
    rw [e1,e2];exact .ro (.slNil _ _ _)
   ·rw [gC hcl,<-hlen];refine .ro (.sl _ _ _ b _ _ (λi j=>f (lo.toNat+i) j) hbk (by omega) (λi x hx=>hn' _ x (Q3J hx)) (λi j x A hx hA=>?_) (λi j x A hx hA=>hr _ j x A (Q3J hx) hA));have:=hc _ j x A (Q3J hx) hA;rw [<-this];congr 2;rw [Nat.add_mul];omega
  ·have hrun:=YY (P:=P) (w:=w') hf.env (len:=xs.length) (cap:=cap) hlo hhi hb hcap;simp [execOp,Instr.sliceAt,Instr.slice,run_underlying hd,hv,hrun,htb.size he];split <;> simp [Xl]
theorem Qk{α:Type}{xs:List α}{j:Int}{y:α}(h:idx xs j=some y):0≤j∧j<(xs.length:Int)∧xs[j.toNat]?=some y:=by
 unfold idx at h;split at h
 ·rename_i h0;have:=(gS.1 h).1;exact⟨h0,by omega,h⟩
 ·cases h
theorem Rd.io[htb:TabOk P tb]{α:Type}{t:TypeId}{x i:Operand}{l n:Nat}{enc:α->List AVal}{xs:List α}{k:IntKind}{j:Int}{y:α}{e n' by_:Nat}{zc:List Value}{e':TE}
  (ho:o.op=.indexAddr t x i) (hx:ev Γ x=some (.o l)) (hl:find H l=some (.val (.os n enc xs))) (hi:ev Γ i=some (.v (.int k j))) (ht:find tb t=some ⟨.sl e,n',by_,zc⟩) (he:find tb e=some e') (hn:e'.n=n) (hy:idx xs j=some y):
  Rd P B Γ H nl o (.ep l n j.toNat 0) none:=λB hB β F a w hβ hf=>by
 obtain⟨dst,op,ty,pos,af,g⟩:=o;simp only at ho;subst ho;subst hn;obtain⟨h0,h1,h2⟩:=Qk hy;obtain⟨F1,hF1,v,hv,hon⟩:=hf.heap.get hl;have hX:=(Qf (a:=a) hf.env hx).o_inv;rw [hv] at hX;cases hX;have hI:=(Qf (a:=a) hf.env hi).v_inv;obtain⟨d,hd,rfl⟩:=htb.und ht;generalize hav:a.eval x=v at hv hon;cases hon with
 | ro F h=>cases h
 | osNil=>simp at h2
 | os n enc xs b off cap c T F G hb hw hlen hcap hn hG hd' hr=>
  refine⟨_,.ep l e'.n j.toNat 0 b off xs.length cap hv,λw' _=>?_⟩;simp [execOp,Instr.indexAt,hI,asIntOf,run_underlying hd,hav,h0,h1,htb.size he,Xl]
theorem Rd.le[htb:TabOk P tb]{α:Type}{T:TypeId}{x:Operand}{l n i off:Nat}{enc:α->List AVal}{xs:List α}{y:α}{A:AVal}{rl:List Nat}{e':TE}
  (ho:o.op=.load T x) (hx:ev Γ x=some (.ep l n i off)) (hl:find H l=some (.val (.os n enc xs))) (hy:xs[i]?=some y) (hro:(enc y).all AVal.isRo=true) (he':find tb T=some e') (hA:Q5D tb [] T (.rp ((enc y).drop off))=some (A,rl)):
  Rd P B Γ H nl o A (some [l]):=λB hB β F a w hβ hf=>by
 obtain⟨dst,op,ty,pos,af,g⟩:=o;simp only at ho;subst ho;obtain⟨F1,hF1,v,hv,hon⟩:=hf.heap.get hl;obtain⟨b',o',len,cap',hb',hX⟩:=(Qf (a:=a) hf.env hx).ep_inv;rw [hv] at hb';cases hb';cases hon with
 | ro F h=>cases h
 | osNil=>simp at hy
 | os n enc xs b off2 cap c T' F G hb hw hlen hcap hn hG hd' hr=>
  have hlen':=hn i y hy;have hi:=(gS.1 hy).1;have hle:o'+i*n+n≤c.size:=by
   have:(i+1)*n≤cap'*n:=gB _ (by omega);rw [Nat.succ_mul] at this;omega
  have hmod:∀w':World,(∀b,Mod β [l] b->w'.heap[b]?=w.heap[b]?)->w'.heap[b']?=some (.cells c T' (0,0)):=λw' hw'=>by
   rw [hw' b' ⟨l,by simp,_,hv,(by
    obtain⟨k,rfl⟩:∃k,cap'=k+1:=⟨cap'-1,by omega⟩;rfl)⟩];exact hw
  have hroj:∀(j:Nat) (A:AVal),((enc y).drop off)[j]?=some A->Ro B.w0 B.ok A (c.getD (o'+i*n+off+j) undef):=λj A hA=>by
   rw [List.getElem?_drop] at hA;have:=hr i _ y A hy hA;have hiro:=gT.1 hro A (gM hA);rw [<-Nat.add_assoc] at this;exact this.ro_of hiro
  have hcell:∀w':World,(∀b,Mod β [l] b->w'.heap[b]?=w.heap[b]?)->∀(j:Nat) (A:AVal),((enc y).drop off)[j]?=some A->w'.cell? ⟨b',o'+i*n+off+j,none⟩=some (c.getD (o'+i*n+off+j) undef):=λw' hw' j A hA=>by
   have hj:=(gS.1 hA).1;simp only [List.length_drop] at hj;exact Wc (hmod w' hw') (by omega)
  simp only [execOp,Instr.loadAt];unfold Q5D at hA;rw [he'] at hA;simp only at hA;split at hA
  ·rename_i hagg;split at hA
   ·rename_i hle2;simp only [gJ,Prod.mk.injEq] at hA;obtain⟨rfl,rfl⟩:=hA;refine⟨_,Dn.agg_of (n:=e'.n) (f:=λj=>c.getD (o'+i*n+off+j) undef) (by simp at hle2 ⊢;omega) (λj A hA=>?_),λw' ⟨_,hw'⟩=>?_⟩
    ·have hj:j<e'.n:=by
      rcases gH j e'.n with h | h
      ·exact h
      ·simp [List.getElem?_take,Nat.not_lt.2 h] at hA
     rw [List.getElem?_take,gF hj] at hA;exact .ro (hroj _ _ hA)
    ·rw [hX];simp only [Sem.run_bind,Instr.sureAddr,Sem.run_pure,Result.andThen_ok];rw [WL htb he' (λj=>c.getD (o'+i*n+off+j) undef) (λj hj=>hcell w' hw' j _ (gE (by omega))) hagg];rfl
   ·cases hA
  ·rename_i hagg;split at hA
   ·rename_i A' hA';simp only [gJ,Prod.mk.injEq] at hA;obtain⟨rfl,rfl⟩:=hA;refine⟨_,.ro (hroj _ _ hA'),λw' ⟨_,hw'⟩=>?_⟩;have this:w'.cell? ⟨b',o'+i*n+off,none⟩=some (c.getD (o'+i*n+off+0) undef):=hcell w' hw' 0 _ hA';rw [hX];simp only [Sem.run_bind,Instr.sureAddr,Sem.run_pure,Result.andThen_ok];rw [Wu htb he' this (by simpa using hagg)];rfl
   ·cases hA
theorem Eff1.se[htb:TabOk P tb]{α:Type}{T:TypeId}{x y:Operand}{l n i off:Nat}{enc:α->List AVal}{xs:List α}{z z':α}{A:AVal}{cs:List AVal}{e:TE}(ho:o.op=.store T x y)(hx:ev Γ x=some (.ep l n i off))(hl:find H l=some (.val (.os n enc xs)))
  (hz:xs[i]?=some z) (hy:ev Γ y=some A) (hc:A.cells=some cs) (he:find tb T=some e) (hn:cs.length=e.n) (hle:(off+cs.length).ble (enc z).length=true) (h1:cs.all Q1r=true) (hz':enc z'=setCells (enc z) off cs) (hro:(enc z).all AVal.isRo=true) (hflat:∀x,(enc x).all AVal.isRo=true) (hd:o.dst=none):
  Eff1 P B Γ H nl o Γ (setH H l (.val (.os n enc (xs.set i z')))) nl (.fx [l] false):=Eff1.of_skip λB hB β F a w hβ hf=>by
 obtain⟨dst,op,ty,pos,af,g⟩:=o;simp only at ho hd;subst ho;subst hd;obtain⟨b',o',len,cap',hb',hxv⟩:=(Qf (a:=a) hf.env hx).ep_inv;have hYd:=Qf (a:=a) hf.env hy;have hY:=hYd.cells hc;have hle':=Nat.le_of_ble_eq_true hle;obtain⟨F1,hF1,⟨v,hv,hon⟩,hset⟩:=hf.heap.set hl;rw [hv] at hb';cases hb';have hfl:=hon.flat_of (λx A h=>gT.1 (hflat x) A h);generalize hvv:Value.slice (some ⟨b',o',none⟩) len cap'=v at hfl;cases hfl with
 | nil p h=>subst h;simp at hz
 | row b off2 cap c T' hFb hw hlen hcap hnn hr=>
  cases hvv;have hi:=(gS.1 hz).1;have hzl:=hnn i z hz;have hle3:o'+i*n+n≤c.size:=by
   have:(i+1)*n≤cap'*n:=gB _ (by omega);rw [Nat.succ_mul] at this;omega
  have hsz:(a.eval y).cells.size=e.n:=by rw [<-hY.1];exact hn
  have hone:ones cs=true:=gT.2 (λA hA=>Q2p (gT.1 h1 A hA));have hone':=hY.ones hone;have hcl:cs.length=(a.eval y).cells.toList.length:=by rw [hY.1];simp
  have hle2:o'+i*n+off+(a.eval y).cells.toList.length≤c.size:=by rw [<-hcl];omega
  have hst:=run_storeCells_at (P:=P) b' (o'+i*n+off) T' (a.eval y).cells.toList 0 c w hw (by simpa using hle2) hone';simp only [Nat.add_zero] at hst;generalize hc2:(c.toList.take (o'+i*n+off)++(a.eval y).cells.toList++c.toList.drop (o'+i*n+off+(a.eval y).cells.toList.length)).toArray=c2 at hst;have hc2s:c2.size=c.size:=by rw [<-hc2];simp only [List.size_toArray,List.length_append,List.length_take,List.length_drop,Array.length_toList];simp only [Array.length_toList] at hle2;omega
  have hrow:=setRow_heap w b' c c2 T' (0,0) hw;have hcap0:∃k,cap'=k+1:=⟨cap'-1,by omega⟩;have hhd:Mod β [l] b':=⟨l,by simp,_,hv,by obtain⟨k,rfl⟩:=hcap0;rfl⟩;refine⟨w.setRow b' c2,β,F,?_,hβ,λ_ _ h=>h,λl x b hl hx _=>?_,?_,GY w b' c2 _ hhd⟩
  ·simp only [execOp,Instr.storeAt,hxv,Instr.sureAddr,Sem.run_bind,Sem.run_pure,Result.andThen_ok,storeVar,htb.size he];rw [Sem.run_ite,gC (by simp [hsz]),hst];rfl
  ·rw [gN (by omega)] at hx;cases hx
  ·have hk:=GY w b' c2 (λx=>x=b') rfl;have hM:∀x,x=b'->x<B.w0.heap.size->B.M x:=λx hx hlt'=>by subst hx;exact (hf.own x (hF1 x hFb)).2 hlt'
   refine⟨hf.kp.trans hk hM,hf.ok,λb hb=>by have:=hf.own b hb;exact⟨by simpa using this.1,this.2⟩,hset _ _ (λb'' hb hn hlt=>setRow_other w b' b'' c2 (λe=>hn (e▸hFb))) ⟨_,hv,?_⟩,hf.env,by simpa [Act.put] using hf.size,hf.defers,hf.pre⟩;have:=On.flat (w0:=B.w0) (ok:=B.ok) (enc:=enc) (n:=n) (xs:=xs.set i z') (off:=o') (cap:=cap') (c:=c2) (F:=F1) hFb hrow (by simpa using hlen) (by rw [hc2s];exact hcap) (λm u hu=>?_) (λm j u A hu hA=>?_)
   ·simpa using this
   ·rw [List.getElem?_set] at hu;split at hu
    ·cases hu;rw [hz',Z2];exact hzl
    ·exact hnn m u hu
   ·rw [<-hc2,Yw _ _ _ hle2,<-hcl];rw [List.getElem?_set] at hu;by_cases e:i=m
    ·subst e;rw [gF rfl] at hu;try rw [gF hi] at hu;cases hu;rw [hz',Zu _ _ _ _ hle'] at hA;split at hA
     ·rename_i hj;rw [gF (by omega)];have hd:=hY.2 _ _ hA;have hro':=Q29 (gT.1 h1 A (gM hA));have e2:o'+i*n+j-(o'+i*n+off)=j-off:=by omega
      rw [e2];have:=hd.ro_of hro';simpa [gA] using this
     ·rename_i hj;have hjn:=(gS.1 hA).1;rw [gC (by omega)];exact hr i j z A hz hA
    ·rw [gC e] at hu;have hjn:=(gS.1 hA).1;rw [hnn m u hu] at hjn;rw [gC ?_]
     ·exact hr m j u A hu hA
     ·intro hcond;rcases gH i m with h | h
      ·have:(i+1)*n≤m*n:=gB _ h;rw [Nat.succ_mul] at this;omega
      ·have:(m+1)*n≤i*n:=gB _ (by omega);rw [Nat.succ_mul] at this;omega
theorem Eff1.sw[htb:TabOk P tb]{α:Type}{t:TypeId}{x:Operand}{low high:Option Operand}{l n:Nat}{enc:α->List AVal}{xs:List α}{e n' by_:Nat}{zc:List Value}{e':TE}{lo hi:Int}{d:Nat}
  (ho:o.op=.slice t x low high none) (hd:o.dst=some d) (hlt:d.blt B.n=true) (hx:ev Γ x=some (.o l)) (hl:find H l=some (.val (.os n enc xs))) (ht:find tb t=some ⟨.sl e,n',by_,zc⟩) (he:find tb e=some e') (hn:e'.n=n) (hlo:Bd Γ low 0 lo) (hhi:Bd Γ high xs.length hi) (hb:0≤lo∧lo≤hi∧hi≤(xs.length:Int)):
  Eff1 P B Γ H nl o ((d,.o nl) :: Γ) (repH H l nl (.val (.os n enc (sub xs lo hi)))) (nl+1) (.fx [l] false):=Eff1.of_value λB hB β F a w hβ hf=>by
 rw [<-hB] at hlt;obtain⟨dst,op,ty,pos,af,g⟩:=o;simp only at ho hd;subst ho;subst hd;subst hn;subst hβ;obtain⟨dd,hdd,rfl⟩:=htb.und ht;have hlen:(sub xs lo hi).length=hi.toNat-lo.toNat:=by unfold sub;simp;omega
 obtain⟨F0,hF0,v,hv,hon⟩:=hf.heap.get hl;have hX:=(Qf (a:=a) hf.env hx).o_inv;rw [hv] at hX;have hX:=Option.some.inj hX;have hkey:∃v',(execOp a.eval ⟨some d,.slice t x low high none,ty,pos,af,g⟩).run P w=.ok (.value v') w∧v'.oneCell'=true∧(∀b,hdr v'=some b->hdr v=some b)∧∀F1:Nat->Prop,On B.w0 B.ok w (.os e'.n enc xs) v F1->On B.w0 B.ok w (.os e'.n enc (sub xs lo hi)) v' F1:=by
  generalize hn2:AVal.os e'.n enc xs=A at hon;cases hon with
  | ro F h=>subst hn2;cases h
  | arr=>cases hn2
  | om=>cases hn2
  | osNil n2 enc2 F p=>
   cases hn2;have h0:lo=0:=by simp at hb;omega
   have h1:hi=0:=by simp at hb;omega
   subst h0;subst h1;have hrun:=YY (P:=P) (w:=w) hf.env (len:=0) (cap:=0) hlo hhi hb (Nat.le_refl _);refine⟨.slice p 0 0,?_,rfl,(λb hb=>by cases p <;> cases hb),λF1 _=>.osNil _ _ _ p⟩;simp [execOp,Instr.sliceAt,Instr.slice,run_underlying hdd,<-hX,hrun,htb.size he]
  | os n2 enc2 xs2 b off cap c T F G hbF hw hlen2 hcap hn3 hG hd' hr=>
   cases hn2;have hm:lo.toNat≤cap:=by omega
   have hrun:=YY (P:=P) (w:=w) hf.env (len:=xs.length) (cap:=cap) hlo hhi hb hlen2;refine⟨.slice (some (if cap=lo.toNat then ⟨b,off,none⟩ else ⟨b,off+lo.toNat*e'.n,none⟩)) (hi.toNat-lo.toNat) (cap-lo.toNat),?_,rfl,λb' hb'=>?_,λF1 hon'=>?_⟩
   ·simp [execOp,Instr.sliceAt,Instr.slice,run_underlying hdd,<-hX,hrun,htb.size he];split <;> simp [Xl]
   ·cases hcc:cap-lo.toNat with
    | zero=>rw [hcc] at hb';cases hb'
    | succ k=>
     rw [hcc] at hb';obtain⟨k2,rfl⟩:∃k2,cap=k2+1:=⟨cap-1,by omega⟩;split at hb' <;> · cases hb';rfl
   ·by_cases hcl:cap=lo.toNat
    ·have hz:sub xs lo hi=[]:=List.eq_nil_of_length_eq_zero (by rw [hlen];omega);have e1:hi.toNat-lo.toNat=0:=by omega
     have e2:cap-lo.toNat=0:=by omega
     rw [hz,e1,e2];exact .osNil _ _ _ _
    ·rw [gC hcl,<-hlen];generalize hv2:Value.slice (some ⟨b,off,none⟩) xs.length cap=v2 at hon';generalize hA2:AVal.os e'.n enc xs=A2 at hon';cases hon' with
     | ro F h=>subst hA2;cases h
     | arr=>cases hA2
     | om=>cases hA2
     | osNil n4 enc4 F p=>cases hA2;cases hv2;simp at hcl hb;omega
     | os n4 enc4 xs4 b4 off4 cap4 c4 T4 F G4 hbF4 hw4 hlen4 hcap4 hn4 hG4 hd4 hr4=>
      cases hA2;cases hv2;refine .os _ _ _ b _ _ c4 T4 F1 (λi j=>G4 (lo.toNat+i) j) hbF4 hw4 (by omega) ?_ (λi x hx=>hn4 _ x (Q3J hx)) (λi j k h=>hG4 _ _ _ h) (λi j i' j' k h h'=>by have:=hd4 _ _ _ _ _ h h';omega) (λi j x A hx hA=>?_)
      ·have:lo.toNat*e'.n+(cap-lo.toNat)*e'.n=cap*e'.n:=by rw [<-Nat.add_mul];congr 1;omega
       omega
      ·have:=hr4 _ j x A (Q3J hx) hA;rw [Nat.add_mul,<-Nat.add_assoc] at this;exact this
 obtain⟨v',hrun,hone,hhd,hres⟩:=hkey;refine⟨v',w,β++[v'],λb=>F b∨False,hrun,by simp,λl x h=>Ql h,λl' x b hl' hx' hb=>?_,XA.put (A:=.o β.length) ⟨hf.kp,hf.ok,λb hb=>hf.own b (hb.resolve_right (λh=>h)),HOk.rep (λl x h=>Ql h) (λ_=>False) hf.heap hl (λF1 hF1 hR=>?_) (λb hb=>hb.elim) (λb hb=>(hf.own b hb).1) (λS k F1 h=>h.snoc v'),λt' A hA=>(hf.env t' A hA).snoc v',hf.size,hf.defers,λl x hl hx=>Ql (hf.pre l x hl hx)⟩ hlt (.o _ _ (by simp) hone),.refl _ _⟩
 ·have:=YN rfl hl' hx';subst this;exact .inr ⟨l,by simp,v,hv,hhd b hb⟩
 ·obtain⟨y,hy,ho⟩:=hR;rw [hv] at hy;cases hy;exact⟨⟨v',by simp,(hres F1 ho).mono (λb hb=>.inl hb)⟩,λ_ _ _=>rfl⟩
end
theorem Ze{α:Type}{xs:List α}{i:Nat}{y z:α}(h:xs[i]?=some y):(xs.set i z)[i]?=some z:=by
 rw [List.getElem?_set_self (gS.1 h).1]
theorem ZN{α:Type}{n:Nat}{enc:α->List AVal}:∀(xs:List α),(∀y,y∈xs->(enc y).length=n)->(xs.map enc).flatten.length=xs.length*n∧∀(m:Nat) (y:α),xs[m]?=some y->∀q,q<n->(xs.map enc).flatten[m*n+q]?=(enc y)[q]?
 | [],_=>by simp
 | x :: xs,hh=>by
  have hx0:=hh x (by simp);obtain⟨e1,e2⟩:=ZN xs (λy hy=>hh y (by simp [hy]));refine⟨by simp only [List.map_cons,List.flatten_cons,List.length_append,e1,hx0,List.length_cons];rw [Nat.succ_mul];omega,λm y hy q hq=>?_⟩;cases m with
  | zero=>simp at hy;subst hy;simp only [Nat.zero_mul,Nat.zero_add,List.map_cons,List.flatten_cons];rw [gL (by omega)]
  | succ m=>
   simp only [List.map_cons,List.flatten_cons];rw [Nat.succ_mul,gR (by omega),show m*n+n+q-(enc x).length=m*n+q by omega];exact e2 m y (by simpa using hy) q hq
section
variable {P:Program} {B:Base} {tb:Tab} {Γ:Env} {H:Heap} {nl:Nat} {o:Oper}
theorem Rd.ia1[htb:TabOk P tb]{α:Type}{t:TypeId}{x i:Operand}{enc:α->List AVal}{xs:List α}{cs:List AVal}{k:IntKind}{j:Int}{y:α}{len e n' by_:Nat}{zc:List Value}{e':TE}{A:AVal}
  (ho:o.op=.index t x i) (hx:ev Γ x=some (.agg cs)) (hi:ev Γ i=some (.v (.int k j))) (ht:find tb t=some ⟨.ar len e,n',by_,zc⟩) (he:find tb e=some e') (hn:e'.n=1) (hagg:e'.ti.agg=false)
  (hl:xs.length=len) (hcs:cs=(xs.map enc).flatten) (henc:∀y,(enc y).length=1) (hA:enc y=[A]) (hy:idx xs j=some y):Rd P B Γ H nl o A none:=λB hB β F a w hβ hf=>by
 obtain⟨dst,op,ty,pos,af,g⟩:=o;simp only at ho;subst ho;obtain⟨vs,hv,hvl,hvd⟩:=(Qf (a:=a) hf.env hx).agg_inv;have hI:=(Qf (a:=a) hf.env hi).v_inv;obtain⟨d,hd,rfl⟩:=htb.und ht;obtain⟨h0,h1,h2⟩:=Qk hy;obtain⟨fl1,fl2⟩:=ZN (n:=1) (enc:=enc) xs (λy _=>henc y);have hsz:vs.size=len:=by rw [<-hvl,hcs,fl1,hl];simp
 have hlt:j.toNat<vs.size:=by rw [hsz];omega
 have hd0:=hvd j.toNat A (by rw [hcs];have:=fl2 _ _ h2 0 (by omega);simp only [Nat.mul_one,Nat.add_zero] at this;rw [this,hA];rfl);refine⟨vs[j.toNat],by simpa [gA,hlt] using hd0,λw' _=>?_⟩;have hj:0≤j∧j<(len:Int):=⟨h0,by omega⟩;simp [execOp,Instr.index,hI,asIntOf,run_underlying hd,hv,hj,htb.size he,hn,part,htb.isAgg he,hagg,hlt]
def eqL(tb:Tab):List (Nat×Nat)->List AVal->List AVal->Option Bool
 | [],_,_=>some true
 | (off,u) :: r,cs,ds=>match find tb u with
  | some e=>match cs[off]?,ds[off]?,eqL tb r cs ds with
   | some (.v (.int k a)),some (.v (.int k' b)),some q=>if k=k' then (match e.ti with | .int _=>some ((a == b)&&q) | _=>none) else none
   | some (.v (.bool a)),some (.v (.bool b)),some q=>(match e.ti with | .bool=>some ((a == b)&&q) | _=>none)
   | some (.v (.string a)),some (.v (.string b)),some q=>(match e.ti with | .str=>some (seq a b&&q) | _=>none)
   | _,_,_=>none
  | none=>none
theorem GQ{t:TypeId}{e:TE}(htb:TabOk P tb)(he:find tb t=some e)(hagg:e.ti.agg=false){xs:Array Value}{off:Nat}{v:Value}(h:xs[off]?=some v)(w:World):(part t xs off).run P w=.ok v w:=by
 simp [part,htb.isAgg he,hagg,h]
theorem ZS(htb:TabOk P tb){w0:World}{ok:Nat->Prop}{β:List Value}{d:Nat}{cs ds:List AVal}{xs ys:Array Value}(hx:DnL w0 ok β cs xs)(hy:DnL w0 ok β ds ys)(w:World):
  ∀ (fs : List Field), (fs.all fun f => f.name != "_") = true → ∀ {b : Bool}, eqL tb (fs.map fun f => (f.offset, f.type)) cs ds = some b → (Op.eqFields (d + 1) xs ys fs).run P w = .ok b w
 | [],_,b,h=>by simp only [List.map_nil,eqL,gJ] at h;subst h;simp [Op.eqFields]
 | f :: fs,hn,b,h=>by
  simp only [List.all_cons,gP] at hn;have hne : f.name ≠ "_" := by simpa using hn.1
  simp only [List.map_cons,eqL] at h;split at h
  ·rename_i e he;have get:∀{cs:List AVal} {vs:Array Value} {A:AVal},DnL w0 ok β cs vs->cs[f.offset]?=some A->∃v,vs[f.offset]?=some v∧Dn w0 ok β A v:=λhd hA=>by
    have hlt:=(gS.1 hA).1;rw [hd.1] at hlt;refine⟨_,Array.getElem?_eq_getElem hlt,?_⟩;have:=hd.2 _ _ hA;simpa [gA,hlt] using this
   split at h
   ·rename_i k a k' b' q h1 h2 h3;split at h
    ·rename_i hk;subst hk;split at h
     ·rename_i k2 hti;cases h;obtain⟨v1,hv1,hd1⟩:=get hx h1;obtain⟨v2,hv2,hd2⟩:=get hy h2;have:=hd1.v_inv;subst this;have:=hd2.v_inv;subst this;obtain⟨dd,hdd,hfit⟩:=htb.und he;rw [hti] at hfit;cases hfit;have ih:=ZS (d:=d) htb hx hy w fs hn.2 h3;rw [Op.eqFields,gF hne];simp only [Sem.run_bind,GQ htb he (by rw [hti];rfl) hv1,GQ htb he (by rw [hti];rfl) hv2,Result.andThen_ok,run_equalIn_int w d _ _ _ _ _ hdd];cases hab:(a == b') <;> simp [ih]
     ·cases h
    ·cases h
   ·rename_i a b' q h1 h2 h3;split at h
    ·rename_i hti;cases h;obtain⟨v1,hv1,hd1⟩:=get hx h1;obtain⟨v2,hv2,hd2⟩:=get hy h2;have:=hd1.v_inv;subst this;have:=hd2.v_inv;subst this;obtain⟨dd,hdd,hfit⟩:=htb.und he;rw [hti] at hfit;cases hfit;have ih:=ZS (d:=d) htb hx hy w fs hn.2 h3;rw [Op.eqFields,gF hne];simp only [Sem.run_bind,GQ htb he (by rw [hti];rfl) hv1,GQ htb he (by rw [hti];rfl) hv2,Result.andThen_ok,run_equalIn_bool' w d _ _ _ hdd];cases hab:(a == b') <;> simp [ih]
    ·cases h
   ·rename_i a b' q h1 h2 h3;split at h
    ·rename_i hti;cases h;obtain⟨v1,hv1,hd1⟩:=get hx h1;obtain⟨v2,hv2,hd2⟩:=get hy h2;have:=hd1.v_inv;subst this;have:=hd2.v_inv;subst this;obtain⟨dd,hdd,hfit⟩:=htb.und he;rw [hti] at hfit;cases hfit;have ih:=ZS (d:=d) htb hx hy w fs hn.2 h3;rw [Op.eqFields,gF hne];simp only [Sem.run_bind,GQ htb he (by rw [hti];rfl) hv1,GQ htb he (by rw [hti];rfl) hv2,Result.andThen_ok,run_equalIn_string w d _ _ _ hdd,seq];cases hab:(a.toList == b'.toList) <;> simp [ih]
    ·cases h
   ·cases h
  ·cases h
structure EqT (P:Program) (t:TypeId) (fs:List (Nat×Nat)):Prop where
 hp:P.stoodInHeld t=false
 hm:P.eqGuardType P.depth t=false
 hf:P.underlying t=some (.struct (P.fieldsOf t))
 hn : ((P.fieldsOf t).toList.all fun f => f.name != "_") = true
 hfs:(P.fieldsOf t).toList.map (λf=>(f.offset,f.type))=fs
theorem Rd.eqs[htb:TabOk P tb]{op:BinOp}{t t':TypeId}{x y:Operand}{fs:List (Nat×Nat)}{cs ds:List AVal}{b:Bool}(hq:op=.eql)(ho:o.op=.binOp op t x y t')(hE:EqT P t fs)(hx:ev Γ x=some (.agg cs))(hy:ev Γ y=some (.agg ds))
  (h:eqL tb fs cs ds=some b):Rd P B Γ H nl o (.v (.bool b)) none:=λB hB β F ac w _ hf=>by
 obtain⟨dst,op',ty,pos,af,g⟩:=o;simp only at ho;subst ho;subst hq;obtain⟨vs,hv,hvl,hvd⟩:=(Qf (a:=ac) hf.env hx).agg_inv;obtain⟨us,hu,hul,hud⟩:=(Qf (a:=ac) hf.env hy).agg_inv;rw [<-hE.hfs] at h;refine⟨_,.ro (.v _),λw' _=>?_⟩;have:=ZS (d:=9998) htb ⟨hvl,hvd⟩ ⟨hul,hud⟩ w' _ hE.hn h;simp [execOp,hv,hu,run_eqGuard_agg w' .eql t x y vs us hE.hm,run_eql_struct,run_equalIn_struct w' 9999 t vs us hE.hf hE.hp,this]
end
section
variable {P:Program} {B:Base} {tb:Tab} {Γ:Env} {H:Heap} {nl:Nat} {o:Oper}
theorem XA.label{β:List Value}{F:Nat->Prop}{a:Act}{w:World}(h:XA B β F Γ H a w)(v:Value)(R:Res)(hR:Gn B.w0 B.ok (β++[v]) w β.length (λ_=>False) R):
  XA B (β++[v]) F Γ ((β.length,R) :: H) a w:=
 ⟨h.kp,h.ok,h.own,⟨λ_=>False,F,λ_ h=>h.elim,λ_ h=>h,λ_ h=>h.elim,hR,h.heap.snoc v⟩,λt A hA=>(h.env t A hA).snoc v,h.size,h.defers,λl x hl hx=>Ql (h.pre l x hl hx)⟩
theorem Eff1.of_label{v:Value}{R:Res}{d:Nat}(hd:o.dst=some d)(hlt:d.blt B.n=true)(h1:v.oneCell'=true)(hh:hdr v=none)
  (h:∀B':Base,B'.n=B.n->∀β F a w,β.length=nl->XA B' β F Γ H a w->(execOp a.eval o).run P w=.ok (.value v) w∧Gn B'.w0 B'.ok (β++[v]) w β.length (λ_=>False) R):
  Eff1 P B Γ H nl o ((d,.o nl) :: Γ) ((nl,R) :: H) (nl+1) (.fx [] false):=Eff1.of_value λB' hB β F a w hβ hf=>by
 rw [<-hB] at hlt;obtain⟨hrun,hR⟩:=h B' hB β F a w hβ hf;subst hβ;refine⟨v,w,β++[v],F,hrun,by simp,λl x h=>Ql h,λl x b hl hx hb=>?_,?_,.refl _ _⟩
 ·have:=YN rfl hl hx;subst this;rw [hh] at hb;cases hb
 ·rw [hd];exact (hf.label v R hR).put hlt (.o _ _ (by simp) h1)
theorem Eff1.apn[htb:TabOk P tb]{α:Type}{t:TypeId}{s x:Operand}{n:Nat}{enc:α->List AVal}{ys:List α}{d:Nat}{e n' by_:Nat}{zc:List Value}{e':TE}{X:AVal}
  (ho:o.op=.call ⟨.builtin .append,#[s,x],#[t,t]⟩) (hd:o.dst=some d) (hlt:d.blt B.n=true) (hs:ev Γ s=some (.v (.slice none 0 0))) (hx:ev Γ x=some X)
  (hX:X=.sl n enc ys∨∃l2,X=.o l2∧find H l2=some (.val (.os n enc ys))) (ht:find tb t=some ⟨.sl e,n',by_,zc⟩) (he:find tb e=some e') (hn:e'.n=n) (hflat:∀x,(enc x).all Q1r=true) (hby:e'.bytes.ble 128=true) (hen:∀x,(enc x).length=n)
  (hlen:ys.length≤1099511627776):
  Eff1 P B Γ H nl o ((d,.o nl) :: Γ) ((nl,.val (.os n enc ys)) :: H) (nl+1) (.fx [] false):=by
 obtain⟨dst,op,ty,pos,af,g⟩:=o;simp only at ho hd;subst ho;subst hd;subst hn;have hfro:∀x A,A∈enc x->A.isRo=true:=λx A h=>Q29 (gT.1 (hflat x) A h)
 obtain⟨dd,hdd,rfl⟩:=htb.und ht;obtain⟨zv,hzv,hzc,_,hzl,_⟩:=htb.zero he;obtain⟨_,inf,z2,hinf,hsize,hbytes,hzero,hrest⟩:=htb.h _ _ he;have hby':=Nat.le_of_ble_eq_true hby;have hsrc:∀(B:Base) (β:List Value) (F:Nat->Prop) (a:Act) (w:World),XA B β F Γ H a w->Src B.w0 B.ok w e'.n enc ys (a.eval x):=λB β F a w hf=>by
  have hok:∀b,B.ok b->w.heap[b]?=B.w0.heap[b]?:=λb hb=>by have:=hf.ok b hb;exact hf.kp.block b this.1 this.2
  rcases hX with rfl | ⟨l2,rfl,h2⟩
  ·exact Src.ro (Qf hf.env hx).sl_inv hok
  ·obtain⟨F2,_,y,hy,ho2⟩:=hf.heap.get h2;have:=(Qf (a:=a) hf.env hx).o_inv;rw [hy] at this;cases this;exact Src.own (ho2.flat_of hfro)
 have hexec:∀(a:Act) (w w':World) (q:Option Addr) (c2 m:Nat) (r:Value),a.eval s=.slice none 0 0->a.eval x=.slice q m c2->(Builtin.append_ #[t,t] ty #[.slice none 0 0,.slice q m c2]).run P w=.ok r w'->(execOp a.eval ⟨some d,.call ⟨.builtin .append,#[s,x],#[t,t]⟩,ty,pos,af,g⟩).run P w=.ok (.value r) w':=λa w w' q c2 m r h1 h2 h=>by
  simp [execOp,resolve,invoke,builtin,h1,h2,h]
 by_cases hy0:ys=[]
 ·subst hy0;refine Eff1.of_label (v:=.slice none 0 0) rfl hlt rfl rfl λB' hB β F a w hβ hf=>?_
  obtain⟨q,c2,news,hxv,hnl,hyn,hq,hnr⟩:=(hsrc B' β F a w hf).h;have hn0:news=[]:=List.eq_nil_of_length_eq_zero (by rw [hnl];simp);subst hn0;have hsv:=(Qf (a:=a) hf.env hs).v_inv;have hf1:(Builtin.firstCells e'.n 0 (.slice q 0 c2)).run P w=.ok (#[]:Array Value) w:=Q43 (ys:=([]:List α)) (news:=[]) hnl (λh=>absurd rfl h);have:=Q0i (ty:=ty) (p:=none) (n:=0) (cap:=0) (w':=w) hdd hinf (Nat.le_refl 0) (news:=[]) (by rw [hsize];exact hf1) (by rfl);exact⟨hexec a w w q c2 0 _ hsv hxv this,_,by simp,.osNil _ _ _ none⟩
 ·refine Eff1.row rfl hlt (λy _=>hen y) λB' hB β F a w hβ hf=>?_
  obtain⟨q,c2,news,hxv,hnl,hyn,hq,hnr⟩:=(hsrc B' β F a w hf).h;have hsv:=(Qf (a:=a) hf.env hs).v_inv;obtain⟨ad,hqa,hqn⟩:=hq hy0;have hpos:0<ys.length:=List.length_pos_iff.2 hy0;obtain⟨cap',hcap',hrun⟩:=Q1C (P:=P) (ty:=ty) hdd hinf hzero (w:=w) (p:=none) (q:=q) (n:=0) (m:=ys.length) (cap:=0) (c2:=c2) (olds:=[]) (news:=news) (by omega) (by simp) (λ_ h=>by cases h) (λ_=>⟨rfl,rfl⟩) hqa (by rw [hnl,hsize]) hqn (by rw [hbytes];exact hby') (by omega);have hz2:z2.cells.size=e'.n:=by
   have:z2.cells.toList=e'.zc:=hrest.1;rw [<-hzl,<-this];simp
  simp only [Nat.zero_add] at hrun hcap';refine⟨_,_,cap',w.drawn+1,hexec a w _ q c2 _ _ hsv hxv hrun,Nat.le_succ _,hcap',?_,λi j x A hx hA=>?_⟩
  ·simp only [Array.size_append,List.size_toArray,hnl,size_zeroCells,hz2,List.length_nil,Nat.zero_add,<-Nat.add_mul];exact gB _ (by omega)
  ·have:=hnr i j x A hx hA;have hj:j<e'.n:=by rw [<-hen x];exact (gS.1 hA).1
   have hi:=(gS.1 hx).1;have hlt2:i*e'.n+j<ys.length*e'.n:=by
    have:(i+1)*e'.n≤ys.length*e'.n:=gB _ hi;rw [Nat.succ_mul] at this;omega
   have e3:(([]:List Value).toArray++news.toArray++Builtin.zeroCells z2.cells (cap'-ys.length)).getD (i*e'.n+j) undef=news.getD (i*e'.n+j) undef:=by
    rw [gA,gD,Array.getElem?_append_left (by simp [hnl];omega)];simp
   rw [e3];exact this
inductive IsSl (H:Heap):AVal->Prop->Prop where
 | sl {α:Type} {n:Nat} {enc:α->List AVal} {xs:List α}:IsSl H (.sl n enc xs) (xs=[])
 | o {α:Type} {l n:Nat} {enc:α->List AVal} {xs:List α} (h:find H l=some (.val (.os n enc xs))):IsSl H (.o l) (xs=[])
theorem IsSl.value{A:AVal}{Z:Prop}(h:IsSl H A Z){β:List Value}{F:Nat->Prop}{a:Act}{w:World}(hf:XA B β F Γ H a w){x:Value}(hx:Dn B.w0 B.ok β A x):∃p n c,x=.slice p n c∧(p=none->Z):=by
 cases h with
 | sl=>
  cases hx with
  | ro h=>cases h with
   | slNil=>exact⟨_,_,_,rfl,λ_=>rfl⟩
   | sl=>exact⟨_,_,_,rfl,λh=>by cases h⟩
 | o h=>
  obtain⟨F1,_,v,hv,hon⟩:=hf.heap.get h;have:=hx.o_inv;rw [hv] at this;cases this;cases hon with
  | ro F h=>cases h
  | osNil=>exact⟨_,_,_,rfl,λ_=>rfl⟩
  | os=>exact⟨_,_,_,rfl,λh=>by cases h⟩
theorem Eff.of_read{ι:Type 1}{S:ι->Prop}{A:ι->AVal}{d:Nat}(hd:o.dst=some d)(hlt:d.blt B.n=true)
  (h:∀B':Base,B'.n=B.n->∀β F a w,β.length=nl->XA B' β F Γ H a w->∃s v,S s∧(execOp a.eval o).run P w=.ok (.value v) w∧Dn B'.w0 B'.ok β (A s) v):
  Eff P B Γ H nl o S (λs=>(d,A s) :: Γ) (λ_=>H) (λ_=>nl) (.fx [] false):=λB' hB β F a w hβ hf next Q hn=>by
 rw [<-hB] at hlt;obtain⟨s,v,hs,hrun,hA⟩:=h B' hB β F a w hβ hf;unfold Oper.wp;rw [hrun];refine hn s hs _ _ β F B' (.refl _) hβ (λ_ _ h=>h) ⟨λl x b hl hx _=>?_,.refl _ _,λ_ b hb=>hb⟩ (hd▸hf.put hlt hA);rw [gN (by omega)] at hx;cases hx
theorem Eff.isnil[htb:TabOk P tb]{op:BinOp}{t t':TypeId}{x y:Operand}{X Y:AVal}{Z:Prop}{d e n' by_:Nat}{zc:List Value}(q:Bool)(hq:op=if q then .eql else .neq)(ho:o.op=.binOp op t x y t')(hd:o.dst=some d)(hlt:d.blt B.n=true)
  (hx:ev Γ x=some X) (hy:ev Γ y=some Y) (hc:(IsSl H X Z∧Y=.v (.slice none 0 0))∨(IsSl H Y Z∧X=.v (.slice none 0 0))) (ht:find tb t=some ⟨.sl e,n',by_,zc⟩):
  Eff (ι:=ULift Bool) P B Γ H nl o (λb=>b.down=true->Z) (λb=>(d,.v (.bool (b.down == q))) :: Γ) (λ_=>H) (λ_=>nl) (.fx [] false):=Eff.of_read hd hlt λB' hB β F a w hβ hf=>by
 obtain⟨dst,op',ty,pos,af,g⟩:=o;simp only at ho;subst ho;obtain⟨dd,hdd,rfl⟩:=htb.und ht;have key:∀p:Option Addr,∀v:Value,v=.bool (p.isNone == q)->(p=none->Z)->(execOp a.eval ⟨dst,.binOp op t x y t',ty,pos,af,g⟩).run P w=.ok (.value v) w ->
   ∃(s:ULift Bool) (v:Value),(s.down=true->Z)∧(execOp a.eval ⟨dst,.binOp op t x y t',ty,pos,af,g⟩).run P w=.ok (.value v) w∧Dn B'.w0 B'.ok β (.v (.bool (s.down == q))) v:=λp v hv hz hr=>
  ⟨⟨p.isNone⟩,v,λh=>hz (by simpa using h),hr,by subst hv;exact .ro (.v _)⟩
 rcases hc with ⟨h1,rfl⟩ | ⟨h1,rfl⟩
 ·obtain⟨p,m,c,hv,hz⟩:=h1.value hf (Qf (a:=a) hf.env hx);have hv2:=(Qf (a:=a) hf.env hy).v_inv;refine key p _ rfl hz ?_;cases q with
  | true=>simp at hq;subst hq;simp [execOp,hv,hv2,eqGuard,Lib.run_eql_slice_nil w t e p m c 0 0 hdd]
  | false=>simp at hq;subst hq;simp [execOp,hv,hv2,eqGuard,Go.run_neq_slice_nil_any w t e p m c 0 0 hdd]
 ·obtain⟨p,m,c,hv,hz⟩:=h1.value hf (Qf (a:=a) hf.env hy);have hv2:=(Qf (a:=a) hf.env hx).v_inv;refine key p _ rfl hz ?_;cases q with
  | true=>simp at hq;subst hq;simp [execOp,hv,hv2,eqGuard,Go.run_eql_nil_slice w t e p m c 0 0 hdd]
  | false=>simp at hq;subst hq;simp [execOp,hv,hv2,eqGuard,Go.run_neq_nil_slice w t e p m c 0 0 hdd]
end
section
variable {P:Program} {B:Base} {tb:Tab} {Γ:Env} {H:Heap} {nl:Nat} {o:Oper}
theorem Rd.pi[htb:TabOk P tb]{t:TypeId}{x i:Operand}{l off:Nat}{k:IntKind}{j:Int}{len e n' by_ m:Nat}{zc:List Value}{e':TE}
  (ho:o.op=.indexAddr t x i) (hx:ev Γ x=some (.p l off)) (hi:ev Γ i=some (.v (.int k j))) (ht:find tb t=some ⟨.ar len e,n',by_,zc⟩) (he:find tb e=some e') (hm:e'.n=m) (hj:0≤j∧j<(len:Int)):
  Rd P B Γ H nl o (.p l (off+j.toNat*m)) none:=λB hB β F a w hβ hf=>by
 obtain⟨dst,op,ty,pos,af,g⟩:=o;simp only at ho;subst ho;subst hm;obtain⟨b,hb,hX⟩:=(Qf (a:=a) hf.env hx).p_inv;have hI:=(Qf (a:=a) hf.env hi).v_inv;obtain⟨d,hd,rfl⟩:=htb.und ht;refine⟨_,.p l _ b hb,λw' _=>?_⟩;simp [execOp,Instr.indexAt,hI,asIntOf,run_underlying hd,hX,Instr.sureAddr,hj,htb.size he,Xl]
end
open Go.ChangeMaps (setBlock)
section
variable {κ α:Type} [DecidableEq κ]
def lk:List (κ×α)->κ->Option α
 | [],_=>none
 | p :: r,k=>if p.1=k then some p.2 else lk r k
def upd:List (κ×α)->κ->α->List (κ×α)
 | [],k,y=>[(k,y)]
 | p :: r,k,y=>if p.1=k then (k,y) :: r else p :: upd r k y
def kidx:List κ->κ->Option Nat
 | [],_=>none
 | a :: r,k=>if a=k then some 0 else (kidx r k).map (· + 1)
theorem Q1G:∀(xs:List (κ×α)) (k:κ),match kidx (xs.map (·.1)) k with
  | none=>lk xs k=none∧∀p,p∈xs->p.1≠k
  | some i=>∃v,xs[i]?=some (k,v)∧lk xs k=some v
 | [],k=>by simp [kidx,lk]
 | p :: r,k=>by
  have ih:=Q1G r k;simp only [List.map_cons,kidx];by_cases h:p.1=k
  ·rw [gF h];subst h;exact⟨p.2,by simp,by simp [lk]⟩
  ·rw [gC h];cases hk:kidx (r.map (·.1)) k with
   | none=>
    rw [hk] at ih;exact⟨by simp [lk,h,ih.1],λq hq=>by
     rcases List.mem_cons.1 hq with e | e
     ·subst e;exact h
     ·exact ih.2 q e⟩
   | some i=>
    rw [hk] at ih;obtain⟨v,h1,h2⟩:=ih;exact⟨v,by simpa using h1,by simp [lk,h,h2]⟩
theorem Q1W:∀(xs:List (κ×α)) (k:κ) (y:α),(∀p,p∈xs->p.1≠k)->upd xs k y=xs++[(k,y)]
 | [],k,y,_=>rfl
 | p :: r,k,y,h=>by
  rw [upd,gC (h p (by simp)),Q1W r k y (λq hq=>h q (by simp [hq]))];rfl
theorem Q3j:∀(xs:List (κ×α)) (k:κ) (y:α) (i:Nat),kidx (xs.map (·.1)) k=some i->upd xs k y=xs.set i (k,y)
 | [],k,y,i,h=>by simp [kidx] at h
 | p :: r,k,y,i,h=>by
  simp only [List.map_cons,kidx] at h;rw [upd];split at h
  ·rename_i e;cases h;rw [gF e];rfl
  ·rename_i e;rw [gC e];cases hk:kidx (r.map (·.1)) k with
   | none=>rw [hk] at h;cases h
   | some j=>rw [hk] at h;cases h;rw [Q3j r k y j hk];rfl
end
def EntK{κ:Type}(ke:κ->Value)(ks:List κ)(es:List MapEntry):Prop:=es.length=ks.length∧∀(i:Nat) (k:κ) (e:MapEntry),ks[i]?=some k->es[i]?=some e->e.key=ke k
structure KeyT (P:Program) (kt:TypeId) {κ:Type} [DecidableEq κ] (ke:κ->Value):Prop where
 chk:∀(b:Bool) (x:κ) (w:World),(Instr.checkKey b 10000 kt (ke x)).run P w=.ok () w
 fnd:∀(x:κ) (ks:List κ) (es:List MapEntry) (w:World),EntK ke ks es->(Instr.findKey kt (ke x) es).run P w=.ok ((kidx ks x).bind λi=>(es[i]?).map λe=>(i,e.val)) w
 same:∀x:κ,Instr.sameBits 10000 (ke x) (ke x)=true
section
variable {P:Program} {κ:Type} [DecidableEq κ] {ke:κ->Value}
omit [DecidableEq κ] in
theorem EntK.cons{k:κ}{ks:List κ}{e:MapEntry}{es:List MapEntry}(h:EntK ke (k :: ks) (e :: es)):e.key=ke k∧EntK ke ks es:=
 ⟨h.2 0 k e rfl rfl,by have:=h.1;simpa using this,λi a b h1 h2=>h.2 (i+1) a b (by simpa using h1) (by simpa using h2)⟩
theorem Q2m{kind:TypeDesc}{x:κ}(hs:∀k,Instr.sameNow kind (ke x) (ke k)=some (decide (k=x))):∀(ks:List κ) (es:List MapEntry) (n:Nat),EntK ke ks es ->
  Instr.findNow kind (ke x) es n=some ((kidx ks x).bind λi=>(es[i]?).map λe=>(n+i,e.val))
 | [],[],n,_=>rfl
 | k :: ks,e :: es,n,h=>by
  obtain⟨h1,h2⟩:=h.cons;rw [Instr.findNow,h1,hs k];by_cases hk:k=x
  ·simp [hk,kidx]
  ·simp only [hk,decide_false,kidx,if_false];rw [Q2m hs ks es (n+1) h2];congr 1;cases kidx ks x with
   | none=>rfl
   | some i=>simp [Nat.add_assoc,Nat.add_comm 1 i]
 | [],e :: es,n,h=>by have:=h.1;simp at this
 | k :: ks,[],n,h=>by have:=h.1;simp at this
theorem Q0f{kt:TypeId}{x:κ}{w:World}(hs:∀k,(Op.equal kt (ke x) (ke k)).run P w=.ok (decide (k=x)) w):∀(ks:List κ) (es:List MapEntry) (n:Nat),EntK ke ks es ->
  (Instr.findAsking kt (ke x) es n).run P w=.ok ((kidx ks x).bind λi=>(es[i]?).map λe=>(n+i,e.val)) w
 | [],[],n,_=>rfl
 | k :: ks,e :: es,n,h=>by
  obtain⟨h1,h2⟩:=h.cons;rw [Instr.findAsking,h1];simp only [Sem.run_bind,hs k,Result.andThen_ok];by_cases hk:k=x
  ·simp [hk,kidx]
  ·simp only [hk,decide_false,kidx,if_false];have:=Q0f hs ks es (n+1) h2;simp only [Bool.false_eq_true,if_false];rw [this];congr 1;cases kidx ks x with
   | none=>rfl
   | some i=>simp [Nat.add_assoc,Nat.add_comm 1 i]
 | [],e :: es,n,h=>by have:=h.1;simp at this
 | k :: ks,[],n,h=>by have:=h.1;simp at this
theorem Q93(x a:ByteArray):(x == a)=decide (a=x):=by
 rw [beq_toListBytes,ByteArray.toList_eq,ByteArray.toList_eq];obtain⟨⟨x⟩⟩:=x;obtain⟨⟨a⟩⟩:=a;simp only [ByteArray.mk.injEq,Array.mk.injEq];rw [Bool.eq_iff_iff];simp only [beq_iff_eq,decide_eq_true_eq];exact eq_comm
theorem Q37{x y:ByteArray}:seq x y=true↔x=y:=by
 unfold seq;rw [beq_iff_eq];constructor
 ·intro h;have:x.data.toList=y.data.toList:=by simpa [ByteArray.toList_eq] using h
  cases x;cases y;simp_all
 ·intro h;rw [h]
theorem KeyT.int{kt:TypeId}{k:IntKind}(h:P.underlying kt=some (.int k)):KeyT P kt (λn:Int=>.int k n) where
 chk b x w:=Go.MapKept.run_checkKey h (by rfl) b 9999
 fnd x ks es w he:=by
  have:=Q2m (kind:=.int k) (x:=x) (ke:=λn:Int=>.int k n) (λa=>by simp only [Instr.sameNow,if_true];congr 1;rw [Bool.eq_iff_iff];simp only [beq_iff_eq,decide_eq_true_eq];exact eq_comm) ks es 0 he;simp [Instr.findKey,run_underlying h,this]
 same x:=by simp [Instr.sameBits]
theorem KeyT.str{kt:TypeId}(h:P.underlying kt=some .string):KeyT P kt (λs:ByteArray=>.string s) where
 chk b x w:=Go.MapKept.run_checkKey h (by trivial) b 9999
 fnd x ks es w he:=by
  have:=Q2m (kind:=.string) (x:=x) (ke:=λs:ByteArray=>.string s) (λa=>by simp only [Instr.sameNow];congr 1;exact Q93 _ _) ks es 0 he;simp [Instr.findKey,run_underlying h,this]
 same x:=by simp only [Instr.sameBits];rw [Q93];simp
def Q8w:Value->Bool
 | .int _ _ | .bool _ | .string _=>true
 | _=>false
def Q6b:TI->Bool
 | .int _ | .bool | .str=>true
 | _=>false
theorem Q6k(n:Nat){v:Value}(h:Q8w v=true):Instr.sameBits n v v=true:=by
 cases v <;> first | (simp [Q8w] at h;done) | (simp [Instr.sameBits];done) | (simp only [Instr.sameBits];rw [Q93];simp)
theorem KeyT.st{tb:Tab}[htb:TabOk P tb]{kt:TypeId}{fs:List (Nat×Nat)}{kc:κ->List Value}(hE:EqT P kt fs)(heq:∀x k,eqL tb fs ((kc x).map .v) ((kc k).map .v)=some (decide (k=x)))
  (hfs:fs.all (λf=>match find tb f.2 with | some e=>Q6b e.ti | none=>false)=true) (hlen:∀x,fs.all (λf=>f.1.blt (kc x).length)=true) (hp:∀x,(kc x).all Q8w=true):KeyT P kt (λx:κ=>.agg (kc x).toArray) where
 chk b x w:=by
  show (Instr.checkKey b (9999+1) kt _).run P w=_;unfold Instr.checkKey;simp only [Sem.run_bind,run_underlying hE.hf,Result.andThen_ok];rw [<-Array.forIn_toList];have key:∀f,f∈(P.fieldsOf kt).toList->(∃e,find tb f.type=some e∧Q6b e.ti=true)∧∃v,(kc x).toArray[f.offset]?=some v:=λf hf=>by
   have hm:(f.offset,f.type)∈fs:=by rw [<-hE.hfs];exact List.mem_map.2 ⟨f,hf,rfl⟩
   have h1:=gT.1 hfs _ hm;have h2:=gT.1 (hlen x) _ hm;refine⟨?_,?_⟩
   ·cases hfd:find tb f.type with
    | none=>simp [hfd] at h1
    | some e=>exact⟨e,rfl,by simpa [hfd] using h1⟩
   ·have:f.offset<(kc x).length:=by simpa [Nat.blt_eq] using h2
    exact⟨(kc x)[f.offset],by simp [this]⟩
  clear heq hfs hlen hE;generalize (P.fieldsOf kt).toList=l at key ⊢;induction l with
  | nil=>simp
  | cons f l ih=>
   obtain⟨⟨e,he,hpr⟩,v,hv⟩:=key f (by simp);have ih:=ih (λg hg=>key g (by simp [hg]));have hagg:e.ti.agg=false:=by cases ht:e.ti <;> rw [ht] at hpr <;> simp [Q6b,TI.agg] at hpr ⊢
   have hpart:=GQ htb he hagg hv w;obtain⟨dd,hdd,hfit⟩:=htb.und he;have hck:(Instr.checkKey b 9999 f.type v).run P w=.ok () w:=by
    show (Instr.checkKey b (9998+1) f.type v).run P w=.ok () w;unfold Instr.checkKey;simp only [Sem.run_bind,run_underlying hdd,Result.andThen];cases ht:e.ti <;> rw [ht] at hpr hfit <;> simp [Q6b] at hpr <;> simp only [TI.fits] at hfit <;> subst hfit <;> rfl
   simp only [List.forIn_cons,Sem.run_bind,Sem.run_ite];split
   ·simp only [hpart,Result.andThen_ok,hck,Sem.run_pure];exact ih
   ·simp only [Sem.run_pure,Result.andThen_ok];exact ih
 fnd x ks es w he:=by
  cases ks with
  | nil=>
   have:es=[]:=List.eq_nil_of_length_eq_zero he.1;subst this;simp [Instr.findKey,run_underlying hE.hf,Instr.findNow,kidx]
  | cons k ks=>
   cases es with
   | nil=>have:=he.1;simp at this
   | cons e es=>
    have hn:∀(d:TypeDesc) (l:List MapEntry),d=.struct (P.fieldsOf kt)->Instr.findNow d (.agg (kc x).toArray) (e :: l) 0=none:=λd l hd=>by
     subst hd;simp [Instr.findNow,Instr.sameNow]
    have:=Q0f (P:=P) (kt:=kt) (x:=x) (w:=w) (ke:=λx:κ=>.agg (kc x).toArray) (λa=>by
     have:=ZS (d:=9998) htb (w0:=w) (ok:=λ_=>True) (β:=[]) (cs:=(kc x).map .v) (ds:=(kc a).map .v) (xs:=(kc x).toArray) (ys:=(kc a).toArray) (zc_dn _) (zc_dn _) w _ hE.hn (by rw [hE.hfs];exact heq x a);simp only [Op.equal,Op.maxDepth];rw [run_equalIn_struct w 9999 kt _ _ hE.hf hE.hp];exact this) (k :: ks) (e :: es) 0 he
    simp only [Instr.findKey,Sem.run_bind,run_underlying hE.hf,Result.andThen_ok,hn _ _ rfl];rw [this];simp
 same x:=by
  show Instr.sameBits (9999+1) _ _=true;simp only [Instr.sameBits,beq_self_eq_true,Bool.true_and,gT];intro p hp';have:p.1=p.2∧p.1∈kc x:=by
   obtain⟨i,h1,h2⟩:=List.getElem_of_mem hp';simp at h2;exact⟨by rw [<-h2],by rw [<-h2];simp⟩
  obtain⟨a,c⟩:=p;simp only at this;obtain⟨rfl,hm⟩:=this;exact Q6k _ (gT.1 (hp x) _ hm)
end
end Go.Taq
