/- The library of the generated walks, part A: abstract values, what they denote, owned resources, the assertion 'Fits' on a frame and a world. It speaks of any program. -/
import Derived.OrdersHeld
import Derived.Laws.Cells
import Derived.Laws.World
import Derived.Laws.CopyRow
import Derived.Shelf.Abstract
import Derived.Below
set_option linter.unusedVariables false
namespace Go.Taq
open Go
inductive AVal:Type 1 where
 | v (x:Value)
 | p (l off:Nat)
 | rp (cells:List AVal)
 | sl {α:Type} (n:Nat) (enc:α→List AVal) (xs:List α)
 | os {α:Type} (n:Nat) (enc:α→List AVal) (xs:List α)
 | o (l:Nat)
 | ep (l n:Nat) (i:Nat) (off:Nat)
 | vw (l n i m:Nat)
 | agg (cs:List AVal)
 | tup (cs:List AVal)
 | fn (f:Fn) (first captured:List AVal)
 | arr {α:Type} (n:Nat) (enc:α→List AVal) (xs:List α)
 | om {κ α:Type} (ke:κ→Value) (ve:α→AVal) (xs:List (κ×α))
 | rm {κ α:Type} (ke:κ→Value) (ve:α→AVal) (xs:List (κ×α))
 | sv (cs:List AVal)
@[reducible] def AVal.i (n:Int):AVal:=.v (.int .i64 n)
@[reducible] def AVal.b (x:Bool):AVal:=.v (.bool x)
structure Ents {κ α:Type} (ke:κ→Value) (xs:List (κ×α)) (es:Array MapEntry) (clock:Nat):Prop where
 size:es.size=xs.length
 born:es.toList.Pairwise (fun a b=>a.born<b.born)
 old:∀e,e∈es.toList→e.born<clock
 nodup:(xs.map (·.1)).Nodup
 key:∀(i:Nat) (x:κ×α) (e:MapEntry),xs[i]?=some x→es[i]?=some e→e.key=ke x.1
inductive Ro (w:World) (ok:Nat→Prop):AVal→Value→Prop where
 | v (x:Value):Ro w ok (.v x) x
 | slNil {α:Type} (n:Nat) (enc:α→List AVal) (p:Option Addr):Ro w ok (.sl n enc []) (.slice p 0 0)
 | sl {α:Type} (n:Nat) (enc:α→List AVal) (xs:List α) (b off cap:Nat) (f:Nat→Nat→Value) (hb:ok b) (hcap:xs.length≤cap)
   (hn:∀(i:Nat) (x:α),xs[i]?=some x→(enc x).length=n)
   (hc:∀(i j:Nat) (x:α) (A:AVal),xs[i]?=some x→(enc x)[j]?=some A→w.cell? ⟨b,off+i*n+j,none⟩=some (f i j))
   (hr:∀(i j:Nat) (x:α) (A:AVal),xs[i]?=some x→(enc x)[j]?=some A→Ro w ok A (f i j)):Ro w ok (.sl n enc xs) (.slice (some ⟨b,off,none⟩) xs.length cap)
 | rp (cells:List AVal) (b off:Nat) (f:Nat→Value) (hb:ok b)
   (hc:∀(j:Nat) (A:AVal),cells[j]?=some A→w.cell? ⟨b,off+j,none⟩=some (f j))
   (hr:∀(j:Nat) (A:AVal),cells[j]?=some A→Ro w ok A (f j)):Ro w ok (.rp cells) (.pointer (some ⟨b,off,none⟩))
 | rmNil {κ α:Type} (ke:κ→Value) (ve:α→AVal):Ro w ok (.rm ke ve []) (.map none)
 | rm {κ α:Type} (ke:κ→Value) (ve:α→AVal) (xs:List (κ×α)) (b:Nat) (es:Array MapEntry) (clock:Nat) (hb:ok b) (hw:w.heap[b]?=some (.map es clock)) (he:Ents ke xs es clock)
   (hr:∀(i:Nat) (x:κ×α) (e:MapEntry),xs[i]?=some x→es[i]?=some e→Ro w ok (ve x.2) e.val):Ro w ok (.rm ke ve xs) (.map (some b))
 | sv (cs:List AVal) (vs:Array Value) (hl:cs.length=vs.size) (h:∀(j:Nat) (A:AVal),cs[j]?=some A→Ro w ok A (vs.getD j undef)):Ro w ok (.sv cs) (.agg vs)
def VwOk (β:List Value) (l n i m:Nat) (x:Value):Prop:=
 (m=0∧∃p c,x=.slice p 0 c)∨(0<m∧∃b o len cap,β[l]?=some (.slice (some ⟨b,o,none⟩) len cap)∧i+m≤len∧x=.slice (some ⟨b,o+i*n,none⟩) m (cap-i))
theorem VwOk.map {β β':List Value} {l l' n i m:Nat} {x:Value} (hf:∀v,β[l]?=some v→β'[l']?=some v) (h:VwOk β l n i m x):VwOk β' l' n i m x:=by
 rcases h with h | ⟨h0,b,o,len,cap,h1,h2,h3⟩
 ·exact .inl h
 ·exact .inr ⟨h0,b,o,len,cap,hf _ h1,h2,h3⟩
inductive Dn (w:World) (ok:Nat→Prop) (β:List Value):AVal→Value→Prop where
 | ro {A:AVal} {x:Value} (h:Ro w ok A x):Dn w ok β A x
 | p (l off b:Nat) (h:β[l]?=some (.pointer (some ⟨b,0,none⟩))):Dn w ok β (.p l off) (.pointer (some ⟨b,off,none⟩))
 | o (l:Nat) (x:Value) (h:β[l]?=some x) (h1:x.oneCell'=true):Dn w ok β (.o l) x
 | ep (l n i off b o len cap:Nat) (h:β[l]?=some (.slice (some ⟨b,o,none⟩) len cap)):Dn w ok β (.ep l n i off) (.pointer (some ⟨b,o+i*n+off,none⟩))
 | vw (l n i m:Nat) (x:Value) (h:VwOk β l n i m x):Dn w ok β (.vw l n i m) x
 | agg (cs:List AVal) (vs:Array Value) (hl:cs.length=vs.size) (h:∀(j:Nat) (A:AVal),cs[j]?=some A→Dn w ok β A (vs.getD j undef)):Dn w ok β (.agg cs) (.agg vs)
 | tup (cs:List AVal) (vs:Array Value) (hl:cs.length=vs.size) (h:∀(j:Nat) (A:AVal),cs[j]?=some A→Dn w ok β A (vs.getD j undef)):Dn w ok β (.tup cs) (.tuple vs)
 | fn (f:Fn) (fs cs:List AVal) (us vs:Array Value) (hl:fs.length=us.size) (h:∀(j:Nat) (A:AVal),fs[j]?=some A→Dn w ok β A (us.getD j undef))
   (hl':cs.length=vs.size) (h':∀(j:Nat) (A:AVal),cs[j]?=some A→Dn w ok β A (vs.getD j undef)):Dn w ok β (.fn f fs cs) (.func f us vs)
inductive On (w0:World) (ok:Nat→Prop) (w:World):AVal→Value→(Nat→Prop)→Prop where
 | ro {A:AVal} {x:Value} (F:Nat→Prop) (h:Ro w0 ok A x):On w0 ok w A x F
 | osNil {α:Type} (n:Nat) (enc:α→List AVal) (F:Nat→Prop) (p:Option Addr):On w0 ok w (.os n enc []) (.slice p 0 0) F
 | os {α:Type} (n:Nat) (enc:α→List AVal) (xs:List α) (b off cap:Nat) (c:Array Value) (T:TypeId) (F:Nat→Prop) (G:Nat→Nat→Nat→Prop)
   (hb:F b) (hw:w.heap[b]?=some (.cells c T (0,0))) (hlen:xs.length≤cap) (hcap:off+cap*n≤c.size)
   (hn:∀(i:Nat) (x:α),xs[i]?=some x→(enc x).length=n)
   (hG:∀i j k,G i j k→F k∧k≠b)
   (hd:∀i j i' j' k,G i j k→G i' j' k→i=i'∧j=j')
   (hr:∀(i j:Nat) (x:α) (A:AVal),xs[i]?=some x→(enc x)[j]?=some A→On w0 ok w A (c.getD (off+i*n+j) undef) (G i j)):
   On w0 ok w (.os n enc xs) (.slice (some ⟨b,off,none⟩) xs.length cap) F
 | arr {α:Type} (n:Nat) (enc:α→List AVal) (xs:List α) (b:Nat) (c:Array Value) (T:TypeId) (F:Nat→Prop) (hb:F b) (hw:w.heap[b]?=some (.cells c T (0,0))) (hc:c.size=xs.length*n)
   (hn:∀(i:Nat) (x:α),xs[i]?=some x→(enc x).length=n)
   (hr:∀(i j:Nat) (x:α) (A:AVal),xs[i]?=some x→(enc x)[j]?=some A→Ro w0 ok A (c.getD (i*n+j) undef)):On w0 ok w (.arr n enc xs) (.pointer (some ⟨b,0,none⟩)) F
 | om {κ α:Type} (ke:κ→Value) (ve:α→AVal) (xs:List (κ×α)) (b:Nat) (es:Array MapEntry) (clock:Nat) (F:Nat→Prop) (G:Nat→Nat→Prop) (hb:F b) (hw:w.heap[b]?=some (.map es clock)) (he:Ents ke xs es clock)
   (hG:∀i k,G i k→F k∧k≠b) (hd:∀i i' k,G i k→G i' k→i=i')
   (hr:∀(i:Nat) (x:κ×α) (e:MapEntry),xs[i]?=some x→es[i]?=some e→On w0 ok w (ve x.2) e.val (G i)):On w0 ok w (.om ke ve xs) (.map (some b)) F
inductive Res:Type 1 where
 | box (cells:List AVal)
 | val (A:AVal)
 | lent {α:Type} (enc:α→List AVal) (xs:List α) (L:List (Nat×Nat))
 | lentm {κ α:Type} (ke:κ→Value) (ve:α→AVal) (xs:List (κ×α)) (L:List (κ×Nat))
 | rng {κ α:Type} (ke:κ→Value) (ve:α→AVal) (xs:List (κ×α)) (seen:List κ) (li:Nat)
 | itn
 | abs (Φ:World→(Nat→Prop)→(Nat→Prop)→Prop)
 | rngm {κ α:Type} (ke:κ→Value) (ve:α→AVal) (xs:List (κ×α)) (seen:List κ)
abbrev Heap:=List (Nat×Res)
abbrev Env:=List (Nat×AVal)
def RngM (w0:World) (ok:Nat→Prop) {κ α:Type} (ke:κ→Value) (ve:α→AVal) (xs:List (κ×α)) (seen:List κ) (O:Obj):Prop:=
 (xs=[]∧O=.mapIter none 0 #[] 0)∨∃(b:Nat) (es:Array MapEntry) (clock:Nat) (sa:Array Nat),ok b∧w0.heap[b]?=some (.map es clock)∧O=.mapIter (some b) clock sa clock∧Ents ke xs es clock ∧
  (∀(i:Nat) (x:κ×α) (e:MapEntry),xs[i]?=some x→es[i]?=some e→Ro w0 ok (ve x.2) e.val)∧(∀(i:Nat) (x:κ×α) (e:MapEntry),xs[i]?=some x→es[i]?=some e→(sa.contains e.born=true↔x.1∈seen)) ∧
  ∀(k:κ) (rest:List κ),seen=k :: rest→∀(i:Nat) (x:κ×α) (e:MapEntry),xs[i]?=some x→es[i]?=some e→x.1=k→∃sa0:Array Nat,sa=sa0.push e.born
def Xb (w0:World) (ok:Nat→Prop) (β:List Value) (w:World) (l:Nat) (F:Nat→Prop):Res→Prop
 | .box cells=>∃b c T,β[l]?=some (.pointer (some ⟨b,0,none⟩))∧w.heap[b]?=some (.cells c T (0,0))∧cells.length=c.size ∧
   (∀(j:Nat) (A:AVal),cells[j]?=some A→Dn w0 ok β A (c.getD j undef))∧F b
 | .val A=>∃x,β[l]?=some x∧On w0 ok w A x F
 | .lent enc xs L=>∃(b off cap:Nat) (c:Array Value) (T:TypeId) (G:Nat→Nat→Prop),β[l]?=some (.slice (some ⟨b,off,none⟩) xs.length cap)∧w.heap[b]?=some (.cells c T (0,0))∧F b∧xs.length≤cap∧off+cap≤c.size∧(∀x,x∈xs→(enc x).length=1) ∧
   (∀i l',(i,l')∈L→i<xs.length∧β[l']?=some (c.getD (off+i) undef))∧(∀j k,G j k→F k∧k≠b)∧(∀j j' k,G j k→G j' k→j=j') ∧
   ∀(j:Nat) (x:_) (A:AVal),(∀l',(j,l')∉L)→xs[j]?=some x→(enc x)[0]?=some A→On w0 ok w A (c.getD (off+j) undef) (G j)
 | .lentm ke ve xs L=>∃(b:Nat) (es:Array MapEntry) (clock:Nat) (G:Nat→Nat→Prop),β[l]?=some (.map (some b))∧w.heap[b]?=some (.map es clock)∧F b∧Ents ke xs es clock ∧
   (∀k l',(k,l')∈L→∃(i:Nat) (y:_) (e:MapEntry),xs[i]?=some (k,y)∧es[i]?=some e∧β[l']?=some e.val)∧(∀i k,G i k→F k∧k≠b)∧(∀i i' k,G i k→G i' k→i=i') ∧
   ∀(i:Nat) (x:_) (e:MapEntry),(∀l',(x.1,l')∉L)→xs[i]?=some x→es[i]?=some e→On w0 ok w (ve x.2) e.val (G i)
 | .rngm ke ve xs seen=>∃(bi:Nat) (O:Obj),β[l]?=some (.pointer (some ⟨bi,0,none⟩))∧w.heap[bi]?=some O∧F bi∧RngM w0 ok ke ve xs seen O
 | .itn=>∃bi:Nat,β[l]?=some (.pointer (some ⟨bi,0,none⟩))∧w.heap[bi]?=some (.mapIter none 0 #[] 0)∧F bi
 | .abs Φ=>(∃x,β[l]?=some x)∧∃(W:World) (ok1 F1:Nat→Prop),Φ W ok1 F1∧(∀b,ok1 b→ok b∧b<W.heap.size∧w0.heap[b]?=W.heap[b]?)∧∀b,F1 b→F b∧b<W.heap.size∧w.heap[b]?=W.heap[b]?
 | .rng ke ve xs seen li=>∃(b bi:Nat) (es:Array MapEntry) (clock:Nat) (sa:Array Nat) (G:Nat→Nat→Prop),β[l]?=some (.map (some b))∧β[li]?=some (.pointer (some ⟨bi,0,none⟩))∧b≠bi∧F b∧F bi∧w.heap[b]?=some (.map es clock) ∧
   w.heap[bi]?=some (.mapIter (some b) clock sa clock)∧Ents ke xs es clock∧(∀i k,G i k→F k∧k≠b∧k≠bi)∧(∀i i' k,G i k→G i' k→i=i') ∧
   (∀(i:Nat) (x:_) (e:MapEntry),xs[i]?=some x→es[i]?=some e→On w0 ok w (ve x.2) e.val (G i))∧(∀(i:Nat) (x:_) (e:MapEntry),xs[i]?=some x→es[i]?=some e→(sa.contains e.born=true↔x.1∈seen)) ∧
   ∀(k:_) (rest:List _),seen=k :: rest→∀(i:Nat) (x:_) (e:MapEntry),xs[i]?=some x→es[i]?=some e→x.1=k→∃sa0:Array Nat,sa=sa0.push e.born
def HOk (w0:World) (ok:Nat→Prop) (β:List Value) (w:World):Heap→(Nat→Prop)→Prop
 | [],_=>True
 | (l,R) :: H,F=>∃F1 F2:Nat→Prop,(∀b,F1 b→F b)∧(∀b,F2 b→F b)∧(∀b,F1 b→F2 b→False)∧Xb w0 ok β w l F1 R∧HOk w0 ok β w H F2
def GW (a b:Nat):Prop:=a≤b
theorem GW.of_le {a b:Nat} (h:a≤b):GW a b:=by unfold GW;first | exact h | trivial
theorem GW.refl (a:Nat):GW a a:=.of_le (Nat.le_refl a)
theorem GW.trans {a b c:Nat} (h:GW a b) (k:GW b c):GW a c:=by unfold GW at *;first | exact Nat.le_trans h k | trivial
structure Kp (w0:World) (M:Nat→Prop) (w:World):Prop where
 os:w.os=w0.os
 tape:w.tape=w0.tape
 output:w.output=w0.output
 size:w0.heap.size≤w.heap.size
 block:∀b,b<w0.heap.size→¬M b→w.heap[b]?=w0.heap[b]?
 drawn:GW w0.drawn w.drawn
theorem Kp.refl (w:World) (M:Nat→Prop):Kp w M w:=⟨rfl,rfl,rfl,Nat.le_refl _,fun _ _ _=>rfl,.refl _⟩
theorem Kp.trans {a b c:World} {M N:Nat→Prop} (h:Kp a M b) (k:Kp b N c) (hN:∀x,N x→x<a.heap.size→M x):Kp a M c:=
 ⟨k.os.trans h.os,k.tape.trans h.tape,k.output.trans h.output,Nat.le_trans h.size k.size,
  fun x hx hM=>(k.block x (Nat.lt_of_lt_of_le hx h.size) (fun n=>hM (hN x n hx))).trans (h.block x hx hM),h.drawn.trans k.drawn⟩
theorem Kp.mono {a b:World} {M N:Nat→Prop} (h:Kp a M b) (hMN:∀x,M x→x<a.heap.size→N x):Kp a N b:=
 ⟨h.os,h.tape,h.output,h.size,fun x hx hn=>h.block x hx (fun m=>hn (hMN x m hx)),h.drawn⟩
theorem Kp.drew (w:World) (M:Nat→Prop) (n:Nat) (h:w.drawn≤n:=by exact Nat.le_succ _):Kp w M {w with drawn:=n}:=⟨rfl,rfl,rfl,Nat.le_refl _,fun _ _ _=>rfl,.of_le h⟩
def find.{u} {α:Type u}:List (Nat×α)→Nat→Option α
 | [],_=>none
 | (k,a) :: r,t=>bif k.beq t then some a else find r t
theorem find_cons.{u} {α:Type u} (k:Nat) (a:α) (r:List (Nat×α)) (t:Nat):find ((k,a) :: r) t=if k=t then some a else find r t:=by
 rw [find]
 by_cases h:k=t
 ·subst h;simp
 ·have:k.beq t=false:=by cases hb:k.beq t with
   | false=>rfl
   | true=>exact absurd (Nat.eq_of_beq_eq_true hb) h
  simp [this,h]
structure Base where
 n:Nat
 k:Nat
 b0:List Value
 w0:World
 ok:Nat→Prop
 M:Nat→Prop
 ds:List Deferred
def mark (D:Nat):Deferred:={target:=.collected D,args:=#[]}
structure KH (B:Base) (β:List Value) (F:Nat→Prop) (Γ:Env) (H:Heap) (a:Act) (w:World):Prop where
 kp:Kp B.w0 B.M w
 ok:∀b,B.ok b→b<B.w0.heap.size∧¬B.M b
 own:∀b,F b→b<w.heap.size∧(b<B.w0.heap.size→B.M b)
 heap:HOk B.w0 B.ok β w H F
 env:∀t A,find Γ t=some A→Dn B.w0 B.ok β A (a.tmps.getD t undef)
 size:a.tmps.size=B.n
 defers:a.defers=B.ds
 pre:∀l x,l<B.k→B.b0[l]?=some x→β[l]?=some x
structure Base.Ext (B B':Base):Prop where
 n:B'.n=B.n
 k:B'.k=B.k
 b0:B'.b0=B.b0
 kp:Kp B.w0 B.M B'.w0
 ok:∀b,B.ok b→B'.ok b
 new:∀b,B'.ok b→B.ok b∨B.M b∨B.w0.heap.size≤b
 M:∀b,B'.M b→B.M b∨B.w0.heap.size≤b
 ds:∃Ds:List Nat,B'.ds=Ds.map mark++B.ds∧Ds.Nodup∧∀D,D∈Ds→B.w0.heap.size≤D∧B'.w0.heap[D]?=some (.deferred (some []))∧¬B'.M D∧¬B'.ok D
theorem Base.Ext.refl (B:Base):B.Ext B:=⟨rfl,rfl,rfl,.refl _ _,fun _ h=>h,fun _ h=>.inl h,fun _ h=>.inl h,[],rfl,.nil,by simp⟩
theorem Base.Ext.trans {A B C:Base} (h:A.Ext B) (k:B.Ext C):A.Ext C:=
 ⟨k.n.trans h.n,k.k.trans h.k,k.b0.trans h.b0,h.kp.trans k.kp (fun x hx hlt=>(h.M x hx).resolve_right (by omega)),fun b hb=>k.ok b (h.ok b hb),
  fun b hb=>by
   rcases k.new b hb with h1 | h1 | h1
   ·exact h.new b h1
   ·exact .inr (h.M b h1)
   ·exact .inr (.inr (Nat.le_trans h.kp.size h1)),
  fun b hb=>by
   rcases k.M b hb with h1 | h1
   ·exact h.M b h1
   ·exact .inr (Nat.le_trans h.kp.size h1),by
  obtain⟨D1,e1,n1,m1⟩:=h.ds
  obtain⟨D2,e2,n2,m2⟩:=k.ds
  have lt:∀D,D∈D1→D<B.w0.heap.size:=fun D hD=>(Array.getElem?_eq_some_iff.1 (m1 D hD).2.1).1
  refine⟨D2++D1,by rw [e2,e1];simp,List.nodup_append.2 ⟨n2,n1,fun a ha b hb=>?_⟩,fun D hD=>?_⟩
  ·have:=lt b hb;have:=(m2 a ha).1;omega
  ·rcases List.mem_append.1 hD with hD | hD
   ·exact⟨Nat.le_trans h.kp.size (m2 D hD).1,(m2 D hD).2⟩
   ·obtain⟨g1,g2,g3,g4⟩:=m1 D hD
    refine⟨g1,(k.kp.block D (lt D hD) g3).trans g2,fun hm=>?_,fun ho=>?_⟩
    ·rcases k.M D hm with h1 | h1
     ·exact g3 h1
     ·have:=lt D hD;omega
    ·rcases k.new D ho with h1 | h1 | h1
     ·exact g4 h1
     ·exact g3 h1
     ·have:=lt D hD;omega⟩
def Fits (B:Base) (Γ:Env) (H:Heap) (nl:Nat) (a:Act) (w:World):Prop:=∃(B':Base) (β:List Value) (F:Nat→Prop),B.Ext B'∧β.length=nl∧KH B' β F Γ H a w
theorem KH.rebase {B:Base} {β:List Value} {F:Nat→Prop} {Γ:Env} {H:Heap} {a:Act} {w:World} (h:KH B β F Γ H a w) {ok:Nat→Prop} {Γ':Env} {H':Heap} {β':List Value} {F':Nat→Prop}
  (h1:∀b,B.ok b→ok b) (h2:∀b,ok b→B.ok b∨F b) (h3:∀b,F' b→F b∧¬ok b) (hH:HOk w ok β' w H' F') (hΓ:∀t A,find Γ' t=some A→Dn w ok β' A (a.tmps.getD t undef)) (hp:∀l x,l<B.k→β[l]?=some x→β'[l]?=some x):
  B.Ext ⟨B.n,B.k,B.b0,w,ok,F',B.ds⟩∧KH ⟨B.n,B.k,B.b0,w,ok,F',B.ds⟩ β' F' Γ' H' a w:=by
 have new:∀b,F b→B.M b∨B.w0.heap.size≤b:=fun b hb=>by
  have:=h.own b hb
  rcases Nat.lt_or_ge b B.w0.heap.size with hlt | hge
  ·exact .inl (this.2 hlt)
  ·exact .inr hge
 refine⟨⟨rfl,rfl,rfl,h.kp,h1,fun b hb=>(h2 b hb).imp id (new b),fun b hb=>new b (h3 b hb).1,[],rfl,.nil,by simp⟩,.refl _ _,fun b hb=>⟨?_,fun hF=>(h3 b hF).2 hb⟩,fun b hb=>⟨(h.own b (h3 b hb).1).1,fun _=>hb⟩,hH,hΓ,h.size,h.defers,fun l x hl hx=>hp l x hl (h.pre l x hl hx)⟩
 rcases h2 b hb with h' | h'
 ·exact Nat.lt_of_lt_of_le (h.ok b h').1 h.kp.size
 ·exact (h.own b h').1
def St (B:Base) (Γ:Env) (H:Heap) (nl:Nat) (X:Act→World→Prop):Prop:=∀a w,Fits B Γ H nl a w→X a w
/-! ## Read-only data in a later world -/
theorem Yn {w:World} {a:Addr} {x:Value} (h:w.cell? a=some x):a.block<w.heap.size:=World.block_lt_of_cell? w a h
theorem Xv {w:World} {b:Nat} {x:Obj} (h:w.heap[b]?=some x):b<w.heap.size:=by
 rcases Nat.lt_or_ge b w.heap.size with h' | h'
 ·exact h'
 ·simp [Array.getElem?_eq_none h'] at h
theorem Ro.later {w w':World} {ok:Nat→Prop} (hk:∀b,ok b→b<w.heap.size→w'.heap[b]?=w.heap[b]?) {A:AVal} {x:Value} (h:Ro w ok A x):Ro w' ok A x:=by
 induction h with
 | v x=>exact .v x
 | slNil n enc p=>exact .slNil n enc p
 | sl n enc xs b off cap f hb hcap hn hc hr ih=>
  refine .sl n enc xs b off cap f hb hcap hn (fun i j x A hx hA=>?_) ih
  have:=hc i j x A hx hA
  rw [World.cell?_of_block (w:=w) (hk b hb (Yn this))];exact this
 | rp cells b off f hb hc hr ih=>
  refine .rp cells b off f hb (fun j A hA=>?_) ih
  have:=hc j A hA
  rw [World.cell?_of_block (w:=w) (hk b hb (Yn this))];exact this
 | rmNil ke ve=>exact .rmNil ke ve
 | rm ke ve xs b es clock hb hw he hr ih=>exact .rm ke ve xs b es clock hb (by rw [hk b hb (Xv hw)];exact hw) he ih
 | sv cs vs hl h ih=>exact .sv cs vs hl ih
theorem Ro.mono {w:World} {ok ok':Nat→Prop} (hk:∀b,ok b→ok' b) {A:AVal} {x:Value} (h:Ro w ok A x):Ro w ok' A x:=by
 induction h with
 | v x=>exact .v x
 | slNil n enc p=>exact .slNil n enc p
 | sl n enc xs b off cap f hb hcap hn hc hr ih=>exact .sl n enc xs b off cap f (hk b hb) hcap hn hc ih
 | rp cells b off f hb hc hr ih=>exact .rp cells b off f (hk b hb) hc ih
 | rmNil ke ve=>exact .rmNil ke ve
 | rm ke ve xs b es clock hb hw he hr ih=>exact .rm ke ve xs b es clock (hk b hb) hw he ih
 | sv cs vs hl h ih=>exact .sv cs vs hl ih
theorem On.later {w0 w w':World} {ok:Nat→Prop} {A:AVal} {x:Value} {F:Nat→Prop} (h:On w0 ok w A x F):
  (∀b,F b→b<w.heap.size→w'.heap[b]?=w.heap[b]?)→On w0 ok w' A x F:=by
 induction h with
 | ro F h=>exact fun _=>.ro F h
 | osNil n enc F p=>exact fun _=>.osNil n enc F p
 | os n enc xs b off cap c T F G hb hw hlen hcap hn hG hd hr ih=>
  intro hk
  have hlt:b<w.heap.size:=by
   rcases Nat.lt_or_ge b w.heap.size with h | h
   ·exact h
   ·simp [Array.getElem?_eq_none h] at hw
  exact .os n enc xs b off cap c T F G hb (by rw [hk b hb hlt];exact hw) hlen hcap hn hG hd
   (fun i j x A hx hA=>ih i j x A hx hA (fun k hk' hlt'=>hk k (hG i j k hk').1 hlt'))
 | arr n enc xs b c T F hb hw hc hn hr=>exact fun hk=>.arr n enc xs b c T F hb (by rw [hk b hb (Xv hw)];exact hw) hc hn hr
 | om ke ve xs b es clock F G hb hw he hG hd hr ih=>
  exact fun hk=>.om ke ve xs b es clock F G hb (by rw [hk b hb (Xv hw)];exact hw) he hG hd (fun i x e hx he'=>ih i x e hx he' (fun k hk' hlt'=>hk k (hG i k hk').1 hlt'))
theorem On.mono {w0 w:World} {ok:Nat→Prop} {A:AVal} {x:Value} {F:Nat→Prop} (h:On w0 ok w A x F):∀{F':Nat→Prop},(∀b,F b→F' b)→On w0 ok w A x F':=by
 induction h with
 | ro F h=>exact fun _=>.ro _ h
 | osNil n enc F p=>exact fun _=>.osNil n enc _ p
 | os n enc xs b off cap c T F G hb hw hlen hcap hn hG hd hr ih=>
  intro F' hF
  exact .os n enc xs b off cap c T F' G (hF b hb) hw hlen hcap hn (fun i j k h=>⟨hF k (hG i j k h).1,(hG i j k h).2⟩) hd hr
 | arr n enc xs b c T F hb hw hc hn hr=>exact fun hF=>.arr n enc xs b c T _ (hF b hb) hw hc hn hr
 | om ke ve xs b es clock F G hb hw he hG hd hr ih=>exact fun hF=>.om ke ve xs b es clock _ G (hF b hb) hw he (fun i k h=>⟨hF k (hG i k h).1,(hG i k h).2⟩) hd hr
theorem Xb.later {w0 w w':World} {ok:Nat→Prop} {β:List Value} {l:Nat} {F:Nat→Prop} {R:Res} (h:Xb w0 ok β w l F R)
  (hk:∀b,F b→b<w.heap.size→w'.heap[b]?=w.heap[b]?):Xb w0 ok β w' l F R:=by
 cases R with
 | box cells=>
  obtain⟨b,c,T,hl,hw,hs,hd,hF⟩:=h
  have hlt:b<w.heap.size:=by
   rcases Nat.lt_or_ge b w.heap.size with h | h
   ·exact h
   ·simp [Array.getElem?_eq_none h] at hw
  exact⟨b,c,T,hl,by rw [hk b hF hlt];exact hw,hs,hd,hF⟩
 | val A=>exact let ⟨x,hl,ho⟩:=h;⟨x,hl,ho.later hk⟩
 | lent enc xs L=>
  obtain⟨b,off,cap,c,T,G,hl,hw,hF,h1,h2,h3,h4,hG,hd,hr⟩:=h
  exact⟨b,off,cap,c,T,G,hl,by rw [hk b hF (Xv hw)];exact hw,hF,h1,h2,h3,h4,hG,hd,fun j x A hj hx hA=>(hr j x A hj hx hA).later (fun k hk' hlt=>hk k (hG j k hk').1 hlt)⟩
 | lentm ke ve xs L=>
  obtain⟨b,es,clock,G,hl,hw,hF,he,h4,hG,hd,hr⟩:=h
  exact⟨b,es,clock,G,hl,by rw [hk b hF (Xv hw)];exact hw,hF,he,h4,hG,hd,fun i x e hj hx he'=>(hr i x e hj hx he').later (fun k hk' hlt=>hk k (hG i k hk').1 hlt)⟩
 | rng ke ve xs seen li=>
  obtain⟨b,bi,es,clock,sa,G,hl,hli,hne,hF,hFi,hw,hwi,he,hG,hd,hr,hs⟩:=h
  exact⟨b,bi,es,clock,sa,G,hl,hli,hne,hF,hFi,by rw [hk b hF (Xv hw)];exact hw,by rw [hk bi hFi (Xv hwi)];exact hwi,he,hG,hd,fun i x e hx he'=>(hr i x e hx he').later (fun k hk' hlt=>hk k (hG i k hk').1 hlt),hs⟩
 | itn=>obtain⟨bi,hl,hw,hF⟩:=h;exact⟨bi,hl,by rw [hk bi hF (Xv hw)];exact hw,hF⟩
 | rngm ke ve xs seen=>obtain⟨bi,O,hl,hw,hF,r⟩:=h;exact⟨bi,O,hl,by rw [hk bi hF (Xv hw)];exact hw,hF,r⟩
 | abs Φ=>
  obtain⟨hx,W,ok1,F1,hΦ,h1,h2⟩:=h
  exact⟨hx,W,ok1,F1,hΦ,h1,fun b hb=>by
   obtain⟨g1,g2,g3⟩:=h2 b hb
   exact⟨g1,g2,(hk b g1 (Xv (g3.trans (Array.getElem?_eq_getElem g2)))).trans g3⟩⟩
theorem HOk.later {w0 w w':World} {ok:Nat→Prop} {β:List Value} {H:Heap}:∀{F:Nat→Prop},HOk w0 ok β w H F →
  (∀b,F b→b<w.heap.size→w'.heap[b]?=w.heap[b]?)→HOk w0 ok β w' H F:=by
 induction H with
 | nil=>exact fun _ _=>trivial
 | cons x H ih=>
  obtain⟨l,R⟩:=x
  intro F h hk
  obtain⟨F1,F2,h1,h2,h12,hR,hH⟩:=h
  exact⟨F1,F2,h1,h2,h12,hR.later (fun b hb=>hk b (h1 b hb)),ih hH (fun b hb=>hk b (h2 b hb))⟩
theorem HOk.mono {w0 w:World} {ok:Nat→Prop} {β:List Value} {H:Heap} {F F':Nat→Prop} (h:HOk w0 ok β w H F) (hF:∀b,F b→F' b):HOk w0 ok β w H F':=by
 cases H with
 | nil=>trivial
 | cons x H=>
  obtain⟨l,R⟩:=x
  obtain⟨F1,F2,h1,h2,h12,hR,hH⟩:=h
  exact⟨F1,F2,fun b hb=>hF b (h1 b hb),fun b hb=>hF b (h2 b hb),h12,hR,hH⟩
/-! ## More labels -/
theorem Q8 {β:List Value} {l:Nat} {x y:Value} (h:β[l]?=some x):(β++[y])[l]?=some x:=by
 rw [List.getElem?_append_left]
 ·exact h
 ·rcases Nat.lt_or_ge l β.length with h' | h'
  ·exact h'
  ·simp [List.getElem?_eq_none h'] at h
theorem Dn.snoc {w:World} {ok:Nat→Prop} {β:List Value} {A:AVal} {x:Value} (h:Dn w ok β A x) (y:Value):Dn w ok (β++[y]) A x:=by
 induction h with
 | ro h=>exact .ro h
 | p l off b h=>exact .p l off b (Q8 h)
 | o l x h h1=>exact .o l x (Q8 h) h1
 | ep l n i off b o len cap h=>exact .ep l n i off b o len cap (Q8 h)
 | vw l n i m x h=>exact .vw l n i m x (h.map fun _=>Q8)
 | agg cs vs hl _ ih=>exact .agg cs vs hl ih
 | tup cs vs hl _ ih=>exact .tup cs vs hl ih
 | fn f fs cs us vs hl _ hl' _ ih ih'=>exact .fn f fs cs us vs hl ih hl' ih'
theorem Xb.snoc {w0 w:World} {ok:Nat→Prop} {β:List Value} {l:Nat} {F:Nat→Prop} {R:Res} (h:Xb w0 ok β w l F R) (y:Value):Xb w0 ok (β++[y]) w l F R:=by
 cases R with
 | box cells=>
  obtain⟨b,c,T,hl,hw,hs,hd,hF⟩:=h
  exact⟨b,c,T,Q8 hl,hw,hs,fun j A hA=>(hd j A hA).snoc y,hF⟩
 | val A=>exact let ⟨x,hl,ho⟩:=h;⟨x,Q8 hl,ho⟩
 | lent enc xs L=>
  obtain⟨b,off,cap,c,T,G,hl,hw,hF,h1,h2,h3,h4,r⟩:=h
  exact⟨b,off,cap,c,T,G,Q8 hl,hw,hF,h1,h2,h3,fun i l' h=>⟨(h4 i l' h).1,Q8 (h4 i l' h).2⟩,r⟩
 | lentm ke ve xs L=>
  obtain⟨b,es,clock,G,hl,hw,hF,he,h4,r⟩:=h
  exact⟨b,es,clock,G,Q8 hl,hw,hF,he,fun k l' h=>let ⟨i,y,e,h1,h2,h3⟩:=h4 k l' h;⟨i,y,e,h1,h2,Q8 h3⟩,r⟩
 | rng ke ve xs seen li=>
  obtain⟨b,bi,es,clock,sa,G,hl,hli,r⟩:=h
  exact⟨b,bi,es,clock,sa,G,Q8 hl,Q8 hli,r⟩
 | itn=>obtain⟨bi,hl,r⟩:=h;exact⟨bi,Q8 hl,r⟩
 | rngm ke ve xs seen=>obtain⟨bi,O,hl,r⟩:=h;exact⟨bi,O,Q8 hl,r⟩
 | abs Φ=>obtain⟨⟨x,hx⟩,r⟩:=h;exact⟨⟨x,Q8 hx⟩,r⟩
theorem HOk.snoc {w0 w:World} {ok:Nat→Prop} {β:List Value} {H:Heap} (y:Value):∀{F:Nat→Prop},HOk w0 ok β w H F→HOk w0 ok (β++[y]) w H F:=by
 induction H with
 | nil=>exact fun _=>trivial
 | cons x H ih=>
  obtain⟨l,R⟩:=x
  intro F h
  obtain⟨F1,F2,h1,h2,h12,hR,hH⟩:=h
  exact⟨F1,F2,h1,h2,h12,hR.snoc y,ih hH⟩
end Go.Taq
