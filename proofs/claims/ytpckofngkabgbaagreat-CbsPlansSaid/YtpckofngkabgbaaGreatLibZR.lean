/- The library of the generated walks, part ZR: ranges over functions: the round (inside a fence), the statement. -/
import Derived.Test.YtpckofngkabgbaaGreatLibZA
import Derived.RangeFuncRecord
import Derived.RangeFuncSeq
import Derived.OrdersIn
set_option linter.unusedVariables false
set_option linter.unusedSimpArgs false
namespace Go.Taq
open Go
def Wp:Op→Bool
 | .defer _=>false
 | _=>true
theorem Q1N {l n:Nat} {P:Program} {row:String} {args:Array Value} {w:World} {R:Value→World→Prop} (h:Rows P row args w R):RowsIn (Fence.wide.inRound l) n P row args w R:=
 fun c cs _=>let ⟨v,w',r,s⟩:=h c cs;⟨v,w',r,stepsIn_wide.2 s⟩
theorem Q1q {l n:Nat} {P:Program} {f:FuncId} {args:Array Value} {w:World} {R:Ending→World→Prop} (h:Calls P f args w R):CallsIn (Fence.wide.inRound l) n P f args w R:=
 (callsIn_wide (n:=n)).2 h
section
variable {l n:Nat} {P:Program} {ops:Array Oper} {Q:Exit→Act→World→Prop}
theorem Oper.wpIn_of {o:Oper} {a:Act} {w:World} {K:Act→World→Prop} (ht:Wp o.op=true) (h:o.wp P a w K Q):o.wpIn (Fence.wide.inRound l) n P a w K Q:=by
 refine⟨fun _ _=>trivial,?_⟩
 rw [Oper.semAt_eq _ _ _ (by rintro c e;rw [e] at ht;cases ht)]
 unfold Oper.wp at h
 cases hr:(execOp a.eval o).run P w with
 | ok x w'=>
  rw [hr] at h
  cases x <;> first
   | exact h
   | exact h.elim
   | exact⟨fun h=>(by cases h),Q1N h⟩
   | exact⟨fun h=>(by cases h),Q1q h⟩
 | halt x w'=>
  rw [hr] at h
  cases x <;> first | exact h | exact h.elim
theorem Q3i (ht:ops.all (fun o=>Wp o.op)=true) (hQ:¬LetsOut Q) {i:Nat} {K K':Act→World→Prop} (hK:∀a w,K a w→K' a w) {a:Act} {w:World} (h:wpOp P ops Q i K a w):wpOpIn (Fence.wide.inRound l) n P ops Q i K' a w:=by
 unfold wpOp at h
 unfold wpOpIn
 cases ho:ops[i]? with
 | none=>rw [ho] at h;exact hK _ _ h
 | some o=>
  rw [ho] at h
  have hto:Wp o.op=true:=by
   rw [Array.all_eq_true] at ht
   obtain⟨hi,rfl⟩:=Array.getElem?_eq_some_iff.1 ho
   exact ht i hi
  simp only at h ⊢
  split
  ·rename_i hw
   rw [if_pos hw] at h
   rcases h with h | ⟨_,h⟩
   ·exact Oper.wpIn_mono hK (Oper.wpIn_of hto h)
   ·exact absurd h hQ
  ·rename_i hw
   rw [if_neg hw] at h
   exact⟨fun f _=>trivial,hK _ _ h⟩
theorem Q16 (ht:ops.all (fun o=>Wp o.op)=true) (hQ:¬LetsOut Q):∀(is:List Nat) (a:Act) (w:World),wpOps P ops Q is a w→wpOpsIn (Fence.wide.inRound l) n P ops Q is a w
 | [],a,w,h=>by simpa [wpOps,wpOpsIn] using h
 | i :: is,a,w,h=>by
  rw [wpOps_cons] at h
  rw [wpOpsIn_cons]
  exact Q3i ht hQ (Q16 ht hQ is) h
abbrev Rw (P:Program) (l:Nat) (c:Code) (Q:Exit→Act→World→Prop):Act→World→Prop:=c.wpIn (Fence.wide.inRound l) 1 P Q
variable {B:Base} {Γ:Env} {H:Heap} {nl:Nat}
def Xd (Q:Exit→Act→World→Prop):Prop:=¬LetsOut Q
theorem Xd.th {K:Act→World→Prop} (h:Xd Q):Xd (Exit.then K Q):=fun ⟨a,w,q⟩=>h ⟨a,w,q⟩
theorem Xd.blk {id:Nat} (h:Xd Q):Xd (Exit.inBlock id Q):=fun ⟨a,w,q⟩=>h ⟨a,w,q⟩
theorem UI.start {id:Nat} (ht:ops.all (fun o=>Wp o.op)=true) (hQ:Xd Q) (k:St B Γ H nl (wpOps P ops Q (List.range ops.size))):St B Γ H nl (Rw P l (Code.region id ops false) Q):=
 fun a w hf=>wpIn_region (Q16 ht hQ _ _ _ (k a w hf))
theorem CI.seq {x y:Code} (k:St B Γ H nl (Rw P l x (Exit.then (Rw P l y Q) Q))):St B Γ H nl (Rw P l (Code.seq x y) Q):=fun a w hf=>wpIn_seq (k a w hf)
theorem CI.skip (k:St B Γ H nl (Q .normal)):St B Γ H nl (Rw P l Code.skip Q):=fun a w hf=>wpIn_skip (k a w hf)
theorem CI.block {id:Nat} {c:Code} (k:St B Γ H nl (Rw P l c (Exit.inBlock id Q))):St B Γ H nl (Rw P l (Code.block id c) Q):=fun a w hf=>wpIn_block (k a w hf)
theorem CI.exit {id:Nat} (k:St B Γ H nl (Q (.exit id))):St B Γ H nl (Rw P l (Code.exit id) Q):=fun a w hf=>wpIn_exit (k a w hf)
theorem CI.ret (k:St B Γ H nl (Q .ret)):St B Γ H nl (Rw P l Code.ret Q):=fun a w hf=>wpIn_ret (k a w hf)
theorem CI.label {i:Nat} (k:St B Γ H nl (Q .normal)):St B Γ H nl (Rw P l (Code.label i) Q):=fun a w hf=>wpIn_label (k a w hf)
theorem CI.cond {x y:Code} {c:Operand} {b:Bool} (hc:ev Γ c=some (.v (.bool b))) (ht:b=true→St B Γ H nl (Rw P l x Q)) (hf:b=false→St B Γ H nl (Rw P l y Q)):St B Γ H nl (Rw P l (Code.cond c x y) Q):=fun a w hfit=>by
 obtain⟨B',β,F',hx,hβ,h⟩:=hfit
 have:=(Q5 (a:=a) h.env hc).v_inv
 exact wpIn_cond_split this (fun e=>ht e a w ⟨B',β,F',hx,hβ,h⟩) (fun e=>hf e a w ⟨B',β,F',hx,hβ,h⟩)
theorem CI.jn {σ:Type} {A:(σ→Prop)→Prop} {k:σ→Prop} {c:Code} (Γf:σ→Env) (Hf:σ→Heap) (nl':Nat) (hm:Jn A k) (hrest:∀x,k x→St B (Γf x) (Hf x) nl' (Q .normal))
  (hbr:∀J,A J→(∀x,J x→St B (Γf x) (Hf x) nl' (Q .normal))→St B Γ H nl (Rw P l c Q)):St B Γ H nl (Rw P l c Q):=by
 obtain⟨J,hJ,hm⟩:=hm;exact hbr J hm (fun x hx=>hrest x (hJ x hx))
theorem CI.ite {x y:Code} {c:Operand} {b:Bool} {U V:Prop} (hc:ev Γ c=some (.v (.bool b))) (hm:Ite b U V) (ht:b=true→U→St B Γ H nl (Rw P l x Q)) (hf:b=false→V→St B Γ H nl (Rw P l y Q)):St B Γ H nl (Rw P l (Code.cond c x y) Q):=CI.cond hc (fun h=>ht h (hm.1 h)) (fun h=>hf h (hm.2 h))
end
section
variable {l:Nat} {P:Program} {ops:Array Oper} {Q:Exit→Act→World→Prop} {B:Base} {Γ:Env} {H:Heap} {nl:Nat}
end
/-! ## what an iterator gives -/
def KS (S:Nat→Prop) (W W':World):Prop:=∀b,S b→W'.heap[b]?=W.heap[b]?
def Q66 (P:Program) (gf:Nat) (lb:Array Value) {α:Type} (encs:α→List Value) (ys:List α) (S:Nat→Prop) (w:World):Prop:=
 ∀(l:Nat) (J:Nat→World→Prop) (Jx:World→Prop) (W:World),KS S w W →
  (∀m x W1,ys[m]?=some x→J m W1→YieldAt Fence.wide 1 P l (encs x).toArray W1 fun e W'=>(e=.returned (.bool true)∧J (m+1) W'∧KS S W1 W')∨(e=.returned (.bool false)∧Jx W')) →
  J 0 W→CallsIn Fence.wide 2 P gf (#[.func (.yield l) #[] #[]]++lb) W fun e W'=>(∃v,e=.returned v)∧(J ys.length W'∨Jx W')
def Iter (P:Program) (gf:Nat) (cs:List AVal) {α:Type} (encs:α→List Value) (ys:List α):Prop:=
 ∀(w:World) (ok:Nat→Prop) (β:List Value) (lb:Array Value),DnL w ok β cs lb→Q66 P gf lb encs ys ok w
theorem KS.cell {S:Nat→Prop} {W W':World} (h:KS S W W') {b o:Nat} (hb:S b):W'.cell? ⟨b,o,none⟩=W.cell? ⟨b,o,none⟩:=by
 simp only [World.cell?,h b hb]
def Each {α σ:Type} (body:α→σ→(σ→Prop)→Prop) (k:σ→Prop):List α→σ→Prop
 | [],s=>k s
 | x :: r,s=>body x s (Each body k r)
/-! ## the assignments to the loop's variables -/
def asg1 (o:Oper):Option (Nat×Nat):=
 match o.dst,o.op,o.guard with
 | some d,.assign (.tmp p),none=>some (d,p)
 | some d,.move (.tmp p),none=>some (d,p)
 | _,_,_=>none
theorem Q42 {o:Oper} {d p:Nat} (h:asg1 o=some (d,p)):o.dst=some d∧o.guard=none∧(o.op=.assign (.tmp p)∨o.op=.move (.tmp p)):=by
 unfold asg1 at h
 split at h <;> simp_all
def asg:Code→Option (List (Nat×Nat))
 | .skip=>some []
 | .region _ ops false=>match ops.toList with
  | [o]=>(asg1 o).map fun x=>[x]
  | _=>none
 | .seq x y=>match asg x,asg y with
  | some a,some b=>some (a++b)
  | _,_=>none
 | _=>none
def Yw:List (Nat×Nat)→Act→Act
 | [],a=>a
 | (d,p) :: r,a=>Yw r (a.put (some d) (a.tmps.getD p undef))
theorem Q17:∀(x y:List (Nat×Nat)) (a:Act),Yw (x++y) a=Yw y (Yw x a)
 | [],_,_=>rfl
 | (d,p) :: x,y,a=>Q17 x y _
theorem Q5S {P:Program} {l:Nat}:∀(c:Code) (prs:List (Nat×Nat)) (Q:Exit→Act→World→Prop) (a:Act) (w:World),asg c=some prs→Q .normal (Yw prs a) w→c.wpIn (Fence.wide.inRound l) 1 P Q a w:=by
 intro c
 induction c with
 | skip=>intro prs Q a w h hq;simp only [asg,Option.some.injEq] at h;subst h;exact wpIn_skip hq
 | seq x y ihx ihy=>
  intro prs Q a w h hq
  simp only [asg] at h
  cases hx:asg x with
  | none=>simp [hx] at h
  | some p=>
   cases hy:asg y with
   | none=>simp [hx,hy] at h
   | some q=>
    simp only [hx,hy,Option.some.injEq] at h
    subst h
    rw [Q17] at hq
    exact wpIn_seq (ihx p _ a w hx (ihy q Q _ w hy hq))
 | region id ops draw=>
  intro prs Q a w h hq
  cases draw with
  | true=>simp [asg] at h
  | false=>
   obtain⟨ops⟩:=ops
   match ops,h with
   | [o],h=>
    simp only [asg] at h
    cases ho:asg1 o with
    | none=>simp [ho] at h
    | some p=>
     simp only [ho,Option.map_some,Option.some.injEq] at h
     subst h
     obtain⟨d,p⟩:=p
     obtain⟨h1,h2,h3⟩:=Q42 ho
     refine wpIn_region ?_
     show wpOpsIn _ _ _ _ _ [0] a w
     rw [wpOpsIn_cons]
     unfold wpOpIn
     simp only [List.getElem?_toArray,List.getElem?_cons_zero]
     rw [if_pos (by simp [Region.wanted,h2])]
     refine⟨fun _ _=>trivial,?_⟩
     obtain⟨dst,op,ty,pos,af,g⟩:=o
     simp only at h1 h2 h3
     simp only [Yw] at hq
     subst h1
     rcases h3 with rfl | rfl
     ·simpa [Oper.semAt,execOp,Oper.uponIn,wpOpsIn,Act.eval] using hq
     ·simpa [Oper.semAt,execOp,Oper.uponIn,wpOpsIn,Act.eval] using hq
   | [],h=>simp [asg] at h
   | _ :: _ :: _,h=>simp [asg] at h
 | _=>intro prs Q a w h hq;simp [asg] at h
def Q1T:List (Nat×Nat)→Env→Option Env
 | [],Γ=>some Γ
 | (d,p) :: r,Γ=>match find Γ p with
  | some A=>Q1T r ((d,A) :: Γ)
  | none=>none
def penv:List Nat→List Value→Env→Env
 | p :: ps,v :: vs,Γ=>penv ps vs ((p,.v v) :: Γ)
 | _,_,Γ=>Γ
theorem WL.set {w:World} {ok:Nat→Prop} {β:List Value} {Γ:Env} {a:Act} (h:WL w ok β Γ a) {d:Nat} {A:AVal} {v:Value} (hd:d<a.tmps.size) (hA:Dn w ok β A v):WL w ok β ((d,A) :: Γ) (a.put (some d) v):=fun t C hC=>by
 rw [find_cons] at hC
 simp only [Act.put,Array.getD_eq_getD_getElem?]
 split at hC
 ·rename_i e;subst e;cases hC
  simp [hd];exact hA
 ·rename_i e
  rw [Array.getElem?_setIfInBounds_ne e]
  simpa [Array.getD_eq_getD_getElem?] using h t C hC
theorem Q24 {w:World} {ok:Nat→Prop} {β:List Value}:∀(prs:List (Nat×Nat)) (Γ Γ':Env) (a:Act),Q1T prs Γ=some Γ'→(∀x,x∈prs→x.1<a.tmps.size)→WL w ok β Γ a→WL w ok β Γ' (Yw prs a)∧(Yw prs a).tmps.size=a.tmps.size∧(Yw prs a).defers=a.defers
 | [],Γ,Γ',a,h,_,he=>by simp only [Q1T,Option.some.injEq] at h;subst h;exact⟨he,rfl,rfl⟩
 | (d,p) :: r,Γ,Γ',a,h,hd,he=>by
  simp only [Q1T] at h
  split at h
  ·rename_i A hA
   have h1:=he.set (hd (d,p) (List.mem_cons_self ..)) (he p A hA)
   have hs:(a.put (some d) (a.tmps.getD p undef)).tmps.size=a.tmps.size:=by simp [Act.put]
   obtain⟨g1,g2,g3⟩:=Q24 r _ Γ' _ h (fun x hx=>by rw [hs];exact hd x (List.mem_cons_of_mem _ hx)) h1
   exact⟨g1,g2.trans hs,g3⟩
  ·cases h
theorem Q3c {w:World} {ok:Nat→Prop} {β:List Value}:∀(ps:List Nat) (vs:List Value) (Γ:Env) (a:Act),(∀p,p∈ps→p<a.tmps.size)→WL w ok β Γ a →
  WL w ok β (penv ps vs Γ) {a with tmps:=(ps.zip vs).foldl (fun t (p,v)=>t.setIfInBounds p v) a.tmps}∧((ps.zip vs).foldl (fun t (p,v)=>t.setIfInBounds p v) a.tmps).size=a.tmps.size
 | [],vs,Γ,a,_,he=>⟨he,rfl⟩
 | p :: ps,[],Γ,a,_,he=>⟨he,rfl⟩
 | p :: ps,v :: vs,Γ,a,hp,he=>by
  have h1:=he.set (v:=v) (A:=.v v) (hp p (List.mem_cons_self ..)) (.ro (.v v))
  have hs:(a.put (some p) v).tmps.size=a.tmps.size:=by simp [Act.put]
  obtain⟨g1,g2⟩:=Q3c ps vs _ _ (fun q hq=>by rw [hs];exact hp q (List.mem_cons_of_mem _ hq)) h1
  exact⟨g1,g2.trans hs⟩
/-! ## between two rounds -/
def HFit (w0:World) (ok M:Nat→Prop) (k:Nat) (b0:List Value) (H:Heap) (nl:Nat) (W:World) (β:List Value) (F ok':Nat→Prop):Prop:=
 β.length=nl∧Kp w0 M W∧(∀b,ok b→ok' b) ∧
  (∀b,ok' b→(ok b∨M b∨w0.heap.size≤b)∧b<W.heap.size∧b≠w0.heap.size∧b≠w0.heap.size+1) ∧
  (∀b,F b→(M b∨w0.heap.size≤b)∧b<W.heap.size∧¬ok' b∧b≠w0.heap.size∧b≠w0.heap.size+1) ∧
  HOk W ok' β W H F∧∀(l:Nat) (x:Value),l<k→b0[l]?=some x→β[l]?=some x
section
variable {P:Program} {w0 W:World} {ok M:Nat→Prop} {k nl:Nat} {b0 β:List Value} {H:Heap} {F ok':Nat→Prop}
theorem HFit.turn (h:HFit w0 ok M k b0 H nl W β F ok') {r:Nat} (hr:r=w0.heap.size∨r=w0.heap.size+1) (o:Obj):HFit w0 ok M k b0 H nl (W.putObj r o) β F ok':=by
 obtain⟨h1,h2,h3,h4,h5,h6,h7⟩:=h
 have hb:∀b,b≠r→(W.putObj r o).heap[b]?=W.heap[b]?:=fun b hb=>World.putObj_heap_other hb
 have hok:∀b,ok' b→(W.putObj r o).heap[b]?=W.heap[b]?:=fun b hb'=>hb b (fun e=>by have:=h4 b hb';omega)
 refine⟨h1,⟨h2.os,h2.tape,h2.output,by simpa using h2.size,fun b hlt hM=>(hb b (fun e=>by omega)).trans (h2.block b hlt hM),h2.drawn⟩,h3,fun b hb'=>by simpa using h4 b hb',fun b hb'=>by simpa using h5 b hb',?_,h7⟩
 exact (h6.lift (ok2:=ok') hok (fun _ h=>h)).later (fun b hF _=>hb b (fun e=>by have:=h5 b hF;omega))
theorem HFit.fits (h:HFit w0 ok M k b0 H nl W β F ok') {n:Nat} {Γ:Env} {a:Act} (he:WL W ok' β Γ a) (hs:a.tmps.size=n) (hd:a.defers=[]):Fits ⟨n,k,β,W,ok',F,[]⟩ Γ H nl a W:=by
 obtain⟨h1,h2,h3,h4,h5,h6,h7⟩:=h
 exact⟨_,β,F,.refl _,h1,.refl _ _,fun b hb=>⟨(h4 b hb).2.1,fun hF=>(h5 b hF).2.2.1 hb⟩,fun b hb=>⟨(h5 b hb).2.1,fun _=>hb⟩,h6,he,hs,hd,fun l x _ hx=>hx⟩
theorem HFit.round (h:HFit w0 ok M k b0 H nl W β F ok') (hsz:w0.heap.size+1<W.heap.size) {n:Nat} {Γ:Env} {H1:Heap} {nl1:Nat} {a:Act} {W1:World} (hf:Fits ⟨n,k,β,W,ok',F,[]⟩ Γ H1 nl1 a W1):
  (∃β1 F1 ok1,HFit w0 ok M k b0 H1 nl1 W1 β1 F1 ok1)∧(∀b,b<W.heap.size→¬F b→W1.heap[b]?=W.heap[b]?):=by
 obtain⟨h1,h2,h3,h4,h5,h6,h7⟩:=h
 obtain⟨B',β1,F1,hx,hβ1,hf⟩:=hf
 obtain⟨k1,k2⟩:=hf.same
 have hkp:Kp W F W1:=hx.kp.trans hf.kp (fun x hx' hlt=>(hx.M x hx').resolve_right (by simp at hlt ⊢;omega))
 have hkp0:Kp w0 M W1:=h2.trans hkp (fun x hx' hlt=>(h5 x hx').1.resolve_right (by omega))
 refine⟨⟨β1,F1,B'.ok,hβ1,hkp0,fun b hb=>hx.ok b (h3 b hb),fun b hb=>?_,fun b hb=>?_,hf.heap.lift (ok2:=B'.ok) k1 (fun _ h=>h),fun l x hl hx'=>?_⟩,fun b hb hF=>hkp.block b hb hF⟩
 ·have hlt:b<W1.heap.size:=Nat.lt_of_lt_of_le (hf.ok b hb).1 hf.kp.size
  rcases hx.new b hb with h | h | h
  ·exact⟨(h4 b h).1,hlt,(h4 b h).2.2⟩
  ·exact⟨.inr (h5 b h).1,hlt,(h5 b h).2.2.2⟩
  ·have h':W.heap.size≤b:=h
   have:=h2.size
   exact⟨.inr (.inr (by omega)),hlt,by omega,by omega⟩
 ·have hb2:F b∨W.heap.size≤b:=by
   rcases Nat.lt_or_ge b B'.w0.heap.size with h | h
   ·exact hx.M b ((hf.own b hb).2 h)
   ·exact .inr (Nat.le_trans hx.kp.size h)
  rcases hb2 with h | h
  ·exact⟨(h5 b h).1,(hf.own b hb).1,fun hk=>k2 b hk hb,(h5 b h).2.2.2⟩
  ·have:=h2.size
   exact⟨.inr (by omega),(hf.own b hb).1,fun hk=>k2 b hk hb,by omega,by omega⟩
 ·exact hf.pre l x (by rw [hx.k];exact hl) (by rw [hx.b0];exact h7 l x hl hx')
end
def pin (k nl l:Nat):Nat:=bif l.blt k then l else nl+l
def mlΓ (f:Nat→Nat):Env→Env
 | []=>[]
 | (t,A) :: r=>(t,A.ml f) :: mlΓ f r
theorem mlΓ_find {f:Nat→Nat}:∀{Γ:Env} {t:Nat} {A:AVal},mlΓ f Γ=Γ→find Γ t=some A→A.ml f=A
 | [],t,A,_,h=>by simp [find] at h
 | (s,C) :: r,t,A,hm,h=>by
  simp only [mlΓ,List.cons.injEq,Prod.mk.injEq,true_and] at hm
  rw [find_cons] at h
  split at h
  ·cases h;exact hm.1
  ·exact mlΓ_find hm.2 h
def Q31 {σ:Type} (P:Program) (B Br:Base) (Γ0:Env) (Q:Exit→Act→World→Prop) (Hf:σ→Heap) (nl:Nat) (Y:σ→Prop):Exit→Act→World→Prop
 | .normal,a,w=>∃s,Y s∧Fits Br [] (Hf s) nl a w
 | .ret,a,w=>∃H1 nl1,Fits Br [] H1 nl1 a w∧St B Γ0 H1 nl1 (Code.ret.wp P Q)
 | .exit id,a,w=>∃H1 nl1,Fits Br [] H1 nl1 a w∧St B Γ0 H1 nl1 ((Code.exit id).wp P Q)
 | _,_,_=>False
theorem NoPanicQ.rnd {σ:Type} {P:Program} {B Br:Base} {Γ0:Env} {Q:Exit→Act→World→Prop} {Hf:σ→Heap} {nl:Nat} {Y:σ→Prop}:NoPanicQ (Q31 P B Br Γ0 Q Hf nl Y):=fun c a w d v h=>h.elim
theorem Xd.rnd {σ:Type} {P:Program} {B Br:Base} {Γ0:Env} {Q:Exit→Act→World→Prop} {Hf:σ→Heap} {nl:Nat} {Y:σ→Prop}:Xd (Q31 P B Br Γ0 Q Hf nl Y):=fun ⟨_,_,h⟩=>h.elim
section
variable {P:Program} {B:Base} {Γ Γ0:Env} {H:Heap} {nl k:Nat} {Q:Exit→Act→World→Prop}
theorem Fits.drop {a:Act} {w:World} (h:Fits B Γ H nl a w):Fits B [] H nl a w:=
 let ⟨B',β,F,hx,hβ,hf⟩:=h
 ⟨B',β,F,hx,hβ,hf.kp,hf.ok,hf.own,hf.heap,fun t A h=>by simp [find] at h,hf.size,hf.defers,hf.pre⟩
theorem CI.next {σ:Type} {Br:Base} {Hf:σ→Heap} {Y:σ→Prop} {s:σ} (h:Y s):St Br [] (Hf s) nl (Q31 P B Br Γ0 Q Hf nl Y .normal):=fun _ _ hf=>⟨s,h,hf⟩
theorem C.range {σ α:Type} {bodyV:α→σ→(σ→Prop)→Prop} {kV:σ→Prop} {ys:List α} {s0:σ} {g:Operand} {ps:Array Tmp} {assign body:Code} {gf:Nat} {cs:List AVal} {encs:α→List Value} {prs:List (Nat×Nat)}
  {n:Nat} {Γ1:α→Env} {Hf:σ→Heap} (k:Nat) (hm:Each bodyV kV ys s0) (hit:Iter P gf cs encs ys) (hen:Q6 P gf) (hn:B.n=n) (hk:B.k.ble k=true) (hg:ev Γ0 g=some (.fn (.func gf) [] cs))
  (hlab:mlΓ (pin k nl) Γ0=Γ0) (hps:ps.toList.all (fun p=>p.blt n)=true) (hlen:∀x,(encs x).length=ps.size) (hasg:asg assign=some prs) (hprs:prs.all (fun x=>x.1.blt n)=true) (hΓ1:∀x,Q1T prs (penv ps.toList (encs x) Γ0)=some (Γ1 x))
  (hround:∀x s (Y:σ→Prop),bodyV x s Y→∀(w0:World) (ok M:Nat→Prop) (β:List Value) (l:Nat),St ⟨n,k,β,w0,ok,M,[]⟩ (Γ1 x) (Hf s) nl (Rw P l body (Q31 P B ⟨n,k,β,w0,ok,M,[]⟩ Γ0 Q Hf nl Y)))
  (hdone:∀s,kV s→St B Γ0 (Hf s) nl (Q .normal)):St B Γ0 (Hf s0) nl ((Code.rangeFunc g ps assign body).wp P Q):=by
 rintro a w ⟨B',β,F,hx,hβ,hf⟩
 obtain⟨k1,k2⟩:=hf.same
 have henv:WL w B'.ok β Γ0 a:=fun t A h=>(hf.env t A h).lift k1 (fun _ h=>h)
 have hokw:∀b,B'.ok b→b<w.heap.size:=fun b hb=>Nat.lt_of_lt_of_le (hf.ok b hb).1 hf.kp.size
 obtain⟨lb,hge,hlb⟩:∃lb,a.eval g=.func (.func gf) #[] lb∧DnL w B'.ok β cs lb:=by
  have hgv:=Q5 henv hg
  generalize a.eval g=y at hgv
  cases hgv with
  | ro h=>cases h
  | fn _ _ _ us vs hl h hl' h'=>
   have:us=#[]:=Array.eq_empty_of_size_eq_zero (by simpa using hl.symm)
   subst this
   exact⟨vs,rfl,hl',h'⟩
 have hgv:=hit w B'.ok β lb hlb
 have lift0:∀{W:World} {β1:List Value} {F1 ok1:Nat→Prop} {H1:Heap} {nl1:Nat},HFit w B'.ok F k β H1 nl1 W β1 F1 ok1→∀(t:Nat) (A:AVal),find Γ0 t=some A→Dn W ok1 β1 A (a.tmps.getD t undef):=fun {W β1 F1 ok1 H1 nl1} hh t A hA=>by
  obtain⟨h1,h2,h3,h4,h5,h6,h7⟩:=hh
  have hd:=(henv t A hA).lift (w:=W) (ok':=ok1) (fun b hb=>h2.block b (hokw b hb) (k2 b hb)) h3
  refine Dn.of_ml (f:=pin k nl) (β:=β) (fun l v hv=>?_) A _ (by rw [mlΓ_find hlab hA];exact hd)
  unfold pin at hv
  by_cases hlk:l<k
  ·rw [show l.blt k=true from Nat.ble_eq_true_of_le hlk] at hv
   exact h7 l v hlk hv
  ·have:l.blt k=false:=by cases hb:l.blt k with
    | false=>rfl
    | true=>exact absurd (Nat.le_of_ble_eq_true hb) hlk
   rw [this] at hv
   simp only [cond_false] at hv
   rw [List.getElem?_eq_none (by omega)] at hv;cases hv
 -- behind the statement
 have back:∀{W:World} {H1:Heap} {nl1:Nat},(∃β1 F1 ok1,HFit w B'.ok F k β H1 nl1 W β1 F1 ok1)→W.heap[w.heap.size]?=some (.deferred (some []))→Fits B Γ0 H1 nl1 {a with defers:=[mark w.heap.size]++a.defers} W:=fun {W H1 nl1} hh hD=>by
  obtain⟨β1,F1,ok1,hh⟩:=hh
  have hl0:=lift0 hh
  obtain⟨h1,h2,h3,h4,h5,h6,h7⟩:=hh
  have hkp:Kp B'.w0 B'.M W:=hf.kp.trans h2 (fun x hx' hlt=>(hf.own x hx').2 hlt)
  have hsz:=hf.kp.size
  have hnew:∀b,F b∨w.heap.size≤b→B'.M b∨B'.w0.heap.size≤b:=fun b hb=>by
   rcases hb with hb | hb
   ·rcases Nat.lt_or_ge b B'.w0.heap.size with h | h
    ·exact .inl ((hf.own b hb).2 h)
    ·exact .inr h
   ·exact .inr (Nat.le_trans hsz hb)
  refine⟨⟨B'.n,B'.k,B'.b0,W,ok1,F1,[mark w.heap.size]++B'.ds⟩,β1,F1,hx.trans ⟨rfl,rfl,rfl,hkp,h3,fun b hb=>?_,fun b hb=>hnew b (h5 b hb).1,[w.heap.size],rfl,by simp,fun D hD=>?_⟩,h1,.refl _ _,fun b hb=>⟨(h4 b hb).2.1,fun hF=>(h5 b hF).2.2.1 hb⟩,fun b hb=>⟨(h5 b hb).2.1,fun _=>hb⟩,h6,hl0,hf.size,?_,fun l x hl hx'=>?_⟩
  ·rcases (h4 b hb).1 with h | h
   ·exact .inl h
   ·exact .inr (hnew b h)
  ·simp only [List.mem_singleton] at hD;subst hD
   exact⟨hsz,hD,fun hM=>(h5 _ hM).2.2.2.1 rfl,fun ho=>(h4 _ ho).2.2.1 rfl⟩
  ·show [mark w.heap.size]++a.defers=_;rw [hf.defers]
  ·have hl':l<k:=Nat.lt_of_lt_of_le (by rw [←hx.k];exact hl) (Nat.le_of_ble_eq_true hk)
   exact h7 l x hl' (hf.pre l x hl hx')
 refine wpIn_wide.1 (wpIn_rangeFunc (n:=3) ?_)
 intro fn hfn
 obtain⟨rec,hrec⟩:∃rec:LoopState→Option Code→Go.Loop,rec=fun st pe=>{state:=st,pending:=pe,fn,tmps:=a.tmps,params:=ps,assign,body,defers:=w.heap.size}:=⟨_,rfl⟩
 obtain⟨W1,hW1⟩:∃W1,(w.alloc (.deferred (some []))).alloc (.loop (rec .ready none))=W1:=⟨_,rfl⟩
 have hs1:W1.heap.size=w.heap.size+2:=by rw [←hW1];simp
 have hL1:W1.heap[w.heap.size+1]?=some (.loop (rec .ready none)):=by
  rw [←hW1];have:=World.alloc_heap_new (w.alloc (.deferred (some []))) (.loop (rec .ready none));rwa [World.size_alloc] at this
 have old:∀b,b<w.heap.size→W1.heap[b]?=w.heap[b]?:=fun b hb=>by
  rw [←hW1];exact (RowKit.Below.heap_alloc _ _ _ (by simp;omega)).trans (RowKit.Below.heap_alloc _ _ _ hb)
 have hK1:W1.heap[w.heap.size]?=some (.deferred (some [])):=by
  rw [←hW1];exact (RowKit.Below.heap_alloc _ _ _ (by simp)).trans (World.alloc_heap_new w _)
 have hkp1:Kp w F W1:=by rw [←hW1];exact (XH w F _).trans (XH _ F _) (fun _ h _=>h)
 have hfit1:HFit w B'.ok F k β (Hf s0) nl W1 β F B'.ok:=by
  refine⟨hβ,hkp1,fun _ h=>h,fun b hb=>⟨.inl hb,?_,?_,?_⟩,fun b hb=>⟨.inl hb,?_,fun h=>k2 b h hb,?_,?_⟩,?_,fun l x _ h=>h⟩
  ·have:=hokw b hb;omega
  ·have:=hokw b hb;omega
  ·have:=hokw b hb;omega
  ·have:=(hf.own b hb).1;omega
  ·have:=(hf.own b hb).1;omega
  ·have:=(hf.own b hb).1;omega
  ·exact (hf.heap.lift (w:=W1) (ok2:=B'.ok) (fun b hb=>(old b (hokw b hb)).trans (k1 b hb)) (fun _ h=>h)).later (fun b hb _=>old b (hf.own b hb).1)
 refine⟨w.heap.size+1,[mark w.heap.size],W1,{target:=.fn (.func gf) lb,args:=#[.func (.yield (w.heap.size+1)) #[] #[]]},W1,gf,#[.func (.yield (w.heap.size+1)) #[] #[]]++lb,W1,?_,?_,fun _ _=>trivial,?_,fun h=>(by cases h),?_⟩
 ·rw [←hW1,hrec];exact run_enterLoop_outer _ _ _ _ _
 ·simp only [resolve,hge]
  simp [go_sem]
 ·simp only [invoke,go_sem]
  exact hen _ _
 refine (hgv (w.heap.size+1)
  (fun m W=>(∃s,Each bodyV kV (ys.drop m) s∧∃β1 F1 ok1,HFit w B'.ok F k β (Hf s) nl W β1 F1 ok1)∧W.heap[w.heap.size+1]?=some (.loop (rec .ready none))∧W.heap[w.heap.size]?=some (.deferred (some [])))
  (fun W=>∃c H1 nl1,(∃β1 F1 ok1,HFit w B'.ok F k β H1 nl1 W β1 F1 ok1)∧St B Γ0 H1 nl1 (Code.wp P c Q)∧W.heap[w.heap.size+1]?=some (.loop (rec .done (some c)))∧W.heap[w.heap.size]?=some (.deferred (some [])))
  W1 (fun b hb=>old b (hokw b hb)) ?_ ⟨⟨s0,hm,β,F,B'.ok,hfit1⟩,hL1,hK1⟩).mono ?_
 ·rintro m x W hxm ⟨⟨s,hs,β1,F1,ok1,hfw⟩,hl,hd⟩
  have hdrop:ys.drop m=x :: ys.drop (m+1):=by
   obtain⟨hlt,he⟩:=List.getElem?_eq_some_iff.1 hxm
   rw [List.drop_eq_getElem_cons hlt,he]
  rw [hdrop] at hs
  have hy:=run_yield (P:=P) (args:=(encs x).toArray) hl (by rw [hrec];simpa using hlen x)
  rw [hrec] at hy
  have hlsz:w.heap.size+1<W.heap.size:=(Array.getElem?_eq_some_iff.1 hl).1
  obtain⟨W2,hW2⟩:∃W2,W.putObj (w.heap.size+1) (.loop {rec .ready none with state:=.busy})=W2:=⟨_,rfl⟩
  have hf2:HFit w B'.ok F k β (Hf s) nl W2 β1 F1 ok1:=by rw [←hW2];exact hfw.turn (.inr rfl) _
  have hl2:W2.heap[w.heap.size+1]?=some (.loop {rec .ready none with state:=.busy}):=by rw [←hW2];exact World.putObj_heap_same hlsz
  have hd2:W2.heap[w.heap.size]?=some (.deferred (some [])):=by rw [←hW2];exact (World.putObj_heap_other (by omega)).trans hd
  have hs2:W2.heap.size=W.heap.size:=by rw [←hW2];simp
  obtain⟨p1,p2⟩:=Q3c (w:=W2) (ok:=ok1) (β:=β1) ps.toList (encs x) Γ0 {tmps:=a.tmps,defers:=[]} (fun p hp=>by
   have:=List.all_eq_true.1 hps p hp
   show p<a.tmps.size
   rw [hf.size,hx.n,hn];exact Nat.le_of_ble_eq_true this) (lift0 hf2)
  obtain⟨q1,q2,q3⟩:=Q24 prs _ _ _ (hΓ1 x) (fun y hy=>by
   have:=List.all_eq_true.1 hprs y hy
   show y.1<_
   rw [p2];show y.1<a.tmps.size
   rw [hf.size,hx.n,hn];exact Nat.le_of_ble_eq_true this) p1
  have htm:(ps.zip (encs x).toArray).foldl (fun tmps (x:Tmp×Value)=>tmps.setIfInBounds x.1 x.2) a.tmps=(ps.toList.zip (encs x)).foldl (fun t (x:Nat×Value)=>t.setIfInBounds x.1 x.2) a.tmps:=by
   rw [←Array.foldl_toList,Array.toList_zip]
  refine⟨fn,_,assign,body,hy,roundIn_of_wpIn hfn (Q5S assign prs _ _ W hasg ⟨W2,by rw [←hW2];exact run_beginRound hl (by rw [hrec]),?_⟩)⟩
  have hfr:=hf2.fits (n:=n) (Γ:=Γ1 x) (a:=Yw prs {tmps:=(ps.toList.zip (encs x)).foldl (fun t (x:Nat×Value)=>t.setIfInBounds x.1 x.2) a.tmps,defers:=[]}) q1 (by rw [q2,p2];show a.tmps.size=n;rw [hf.size,hx.n,hn]) q3
  have hrun:=hround x s _ hs W2 ok1 F1 β1 (w.heap.size+1) _ _ hfr
  rw [←htm] at hrun
  refine wpIn_mono hrun ?_
  have fin:∀(jump:Option Code) (W3:World),W3.heap[w.heap.size+1]?=W2.heap[w.heap.size+1]?→W3.heap[w.heap.size]?=W2.heap[w.heap.size]? →
    (Instr.endRound (w.heap.size+1) jump).run P W3=.ok (.bool jump.isNone) (W3.putObj (w.heap.size+1) (.loop (rec (if jump.isNone then .ready else .done) jump))) ∧
    (W3.putObj (w.heap.size+1) (.loop (rec (if jump.isNone then .ready else .done) jump))).heap[w.heap.size+1]?=some (.loop (rec (if jump.isNone then .ready else .done) jump)) ∧
    (W3.putObj (w.heap.size+1) (.loop (rec (if jump.isNone then .ready else .done) jump))).heap[w.heap.size]?=some (.deferred (some [])):=fun jump W3 e1 e2=>by
   have hl3:=e1.trans hl2
   have:=run_endRound (P:=P) jump hl3
   rw [hrec] at this ⊢
   exact⟨this,World.putObj_heap_same (Array.getElem?_eq_some_iff.1 hl3).1,(World.putObj_heap_other (by omega)).trans (e2.trans hd2)⟩
  have nF:∀b,b=w.heap.size∨b=w.heap.size+1→¬F1 b:=fun b hb hF=>by have:=hf2.2.2.2.2.1 b hF;omega
  have okF:∀b,B'.ok b→b<W2.heap.size∧¬F1 b:=fun b hb=>by
   have h3:=hf2.2.2.1 b hb
   exact⟨(hf2.2.2.2.1 b h3).2.1,fun hF=>(hf2.2.2.2.2.1 b hF).2.2.1 h3⟩
  have oks:∀b,B'.ok b→W2.heap[b]?=W.heap[b]?:=fun b hb=>by
   rw [←hW2];exact World.putObj_heap_other (by have:=hokw b hb;omega)
  rintro e a3 W3 hp
  cases e with
  | normal=>
   obtain⟨s',hs',hf3⟩:=hp
   obtain⟨g1,g2⟩:=hf2.round (by omega) hf3
   obtain⟨r1,r2,r3⟩:=fin none W3 (g2 _ (by omega) (nF _ (.inr rfl))) (g2 _ (by omega) (nF _ (.inl rfl)))
   obtain⟨β3,F3,ok3,g1⟩:=g1
   exact⟨_,_,r1,.inl ⟨rfl,⟨⟨s',hs',β3,F3,ok3,g1.turn (.inr rfl) _⟩,r2,r3⟩,fun b hb=>(World.putObj_heap_other (by have:=hokw b hb;omega)).trans ((g2 b (okF b hb).1 (okF b hb).2).trans (oks b hb))⟩⟩
  | ret=>
   obtain⟨H1,nl1,hf3,hk3⟩:=hp
   obtain⟨g1,g2⟩:=hf2.round (by omega) hf3
   obtain⟨r1,r2,r3⟩:=fin (some .ret) W3 (g2 _ (by omega) (nF _ (.inr rfl))) (g2 _ (by omega) (nF _ (.inl rfl)))
   obtain⟨β3,F3,ok3,g1⟩:=g1
   exact⟨_,_,r1,.inr ⟨rfl,.ret,H1,nl1,⟨β3,F3,ok3,g1.turn (.inr rfl) _⟩,hk3,r2,r3⟩⟩
  | exit id=>
   obtain⟨H1,nl1,hf3,hk3⟩:=hp
   obtain⟨g1,g2⟩:=hf2.round (by omega) hf3
   obtain⟨r1,r2,r3⟩:=fin (some (.exit id)) W3 (g2 _ (by omega) (nF _ (.inr rfl))) (g2 _ (by omega) (nF _ (.inl rfl)))
   obtain⟨β3,F3,ok3,g1⟩:=g1
   exact⟨_,_,r1,.inr ⟨rfl,.exit id,H1,nl1,⟨β3,F3,ok3,g1.turn (.inr rfl) _⟩,hk3,r2,r3⟩⟩
  | goto t=>exact hp.elim
  | panic ch=>exact hp.elim
  | outgrown=>exact hp.elim
 ·rintro e W2 ⟨⟨v,rfl⟩,(⟨⟨s,hs,β1,F1,ok1,hfw⟩,hl,hd⟩ | ⟨c,H1,nl1,⟨β1,F1,ok1,hfw⟩,hk3,hl,hd⟩)⟩
  ·have:=run_endLoop (P:=P) hl (by rw [hrec];simp)
   rw [hrec] at this
   refine⟨none,_,this,?_⟩
   rw [List.drop_length] at hs
   exact hdone s hs _ _ (back ⟨β1,F1,ok1,hfw.turn (.inr rfl) _⟩ ((World.putObj_heap_other (by omega)).trans hd))
  ·have:=run_endLoop (P:=P) hl (by rw [hrec];simp)
   rw [hrec] at this
   refine⟨some c,_,this,?_⟩
   exact wpIn_wide.2 (hk3 _ _ (back ⟨β1,F1,ok1,hfw.turn (.inr rfl) _⟩ ((World.putObj_heap_other (by omega)).trans hd)))
end
end Go.Taq
