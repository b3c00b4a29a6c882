/- The library of the generated walks, part ZY: iterators of the program's own: what a consumer allows (Cap), the call of yield, the range over such an iterator. -/
import Derived.Test.YtpckofngkabgbaaGreatLibZR
import Derived.Laws.Pointers
set_option linter.unusedVariables false
set_option linter.unusedSimpArgs false
namespace Go.Taq
open Go
abbrev Foot:=World→(Nat→Prop)→(Nat→Prop)→Prop
def Cap {α:Type} (P:Program) (l:Nat) (encs:α→List AVal) (E Ex:Foot):List α→Foot
 | []=>E
 | x :: ys=>fun W ok F=>∀(w:World) (ok2:Nat→Prop) (β:List Value) (vs:Array Value),(∀b,ok b→ok2 b∧w.heap[b]?=W.heap[b]?)→(∀b,F b→w.heap[b]?=W.heap[b]?)→(∀b,ok2 b→b<w.heap.size∧¬F b)→DnL w ok2 β (encs x) vs →
   YieldAt Fence.wide 1 P l vs w fun e W'=>Kp w F W'∧∃ok' F':Nat→Prop,(∀b,ok2 b→ok' b)∧(∀b,ok' b→(ok2 b∨F b∨w.heap.size≤b)∧b<W'.heap.size)∧(∀b,F' b→(F b∨w.heap.size≤b)∧b<W'.heap.size∧¬ok' b) ∧
    ((e=.returned (.bool true)∧Cap P l encs E Ex ys W' ok' F')∨(e=.returned (.bool false)∧Ex W' ok' F'))
def CapO {α:Type} (P:Program) (l:Nat) (encs:α→List AVal) (E Ex:Foot):Option (List α)→Foot
 | some ys=>Cap P l encs E Ex ys
 | none=>Ex
def Yld {α:Type} (o:Option (List α)) (x:α) (k:Bool×Option (List α)→Prop):Prop:=∃ys,o=some (x :: ys)∧k (true,some ys)∧k (false,none)
/-! ## regions with calls of yield -/
def Fr (r:Option Nat):Fence:={Fence.wide with round:=r}
theorem Q3z {r:Option Nat} {n:Nat} {P:Program} {row:String} {args:Array Value} {w:World} {R:Value→World→Prop} (h:Rows P row args w R):RowsIn (Fr r) n P row args w R:=
 fun c cs _=>let ⟨v,w',r,s⟩:=h c cs;⟨v,w',r,stepsIn_wide.2 s⟩
theorem Q36 {r:Option Nat} {n:Nat} {P:Program} {f:FuncId} {args:Array Value} {w:World} {R:Ending→World→Prop} (h:Calls P f args w R):CallsIn (Fr r) n P f args w R:=
 (callsIn_wide (n:=n)).2 h
section
variable {r:Option Nat} {n:Nat} {P:Program} {ops:Array Oper} {Q:Exit→Act→World→Prop}
theorem Oper.wpIn_fr {o:Oper} {a:Act} {w:World} {K:Act→World→Prop} (ht:Wp o.op=true) (h:o.wp P a w K Q):o.wpIn (Fr r) n P a w K Q:=by
 refine⟨fun _ _=>trivial,?_⟩
 rw [Oper.semAt_eq _ _ _ (by rintro c e;rw [e] at ht;cases ht)]
 unfold Oper.wp at h
 cases hr:(execOp a.eval o).run P w with
 | ok x w'=>
  rw [hr] at h
  cases x <;> first
   | exact h
   | exact h.elim
   | exact⟨fun h=>(by cases h),Q3z h⟩
   | exact⟨fun h=>(by cases h),Q36 h⟩
 | halt x w'=>
  rw [hr] at h
  cases x <;> first | exact h | exact h.elim
theorem Q3N (ht:ops.all (fun o=>Wp o.op)=true) (hQ:¬LetsOut Q) {i:Nat} {K K':Act→World→Prop} (hK:∀a w,K a w→K' a w) {a:Act} {w:World} (h:wpOp P ops Q i K a w):wpOpIn (Fr r) n P ops Q i K' a w:=by
 unfold wpOp at h
 unfold wpOpIn
 cases ho:ops[i]? with
 | none=>rw [ho] at h;exact hK _ _ h
 | some o=>
  rw [ho] at h
  have hto:Wp o.op=true:=by
   rw [Array.all_eq_true] at ht
   obtain⟨hi,rfl⟩:=Array.getElem?_eq_some_iff.1 ho
   exact ht i hi
  simp only at h ⊢
  split
  ·rename_i hw
   rw [if_pos hw] at h
   rcases h with h | ⟨_,h⟩
   ·exact Oper.wpIn_mono hK (Oper.wpIn_fr hto h)
   ·exact absurd h hQ
  ·rename_i hw
   rw [if_neg hw] at h
   exact⟨fun f _=>trivial,hK _ _ h⟩
theorem Q0v (ht:ops.all (fun o=>Wp o.op)=true) (hQ:¬LetsOut Q) {js:List Nat}:∀(is:List Nat) (a:Act) (w:World),wpOps P ops (Exit.then (wpOpsIn (Fr r) n P ops Q js) Q) is a w→wpOpsIn (Fr r) n P ops Q (is++js) a w
 | [],a,w,h=>by simp only [wpOps] at h;exact h
 | i :: is,a,w,h=>by
  rw [wpOps_cons] at h
  rw [List.cons_append,wpOpsIn_cons]
  have h':wpOp P ops Q i (wpOps P ops (Exit.then (wpOpsIn (Fr r) n P ops Q js) Q) is) a w:=by
   unfold wpOp at h ⊢
   cases ho:ops[i]? with
   | none=>rw [ho] at h;exact h
   | some o=>rw [ho] at h;exact h
  exact Q3N ht hQ (Q0v ht hQ is) h'
end
section
variable {r:Option Nat} {P:Program} {ops:Array Oper} {Q:Exit→Act→World→Prop} {B:Base} {Γ:Env} {H:Heap} {nl:Nat}
theorem Y.start {id:Nat} (k:St B Γ H nl (wpOpsIn (Fr none) 1 P ops Q (List.range ops.size))):St B Γ H nl ((Code.region id ops false).wp P Q):=fun a w hf=>(wpIn_wide (n:=1)).1 (wpIn_region (k a w hf))
theorem Y.pre {al:List Nat} (is js:List Nat) (he:al=is++js) (ht:ops.all (fun o=>Wp o.op)=true) (hQ:Xd Q) (k:St B Γ H nl (wpOps P ops (Exit.then (wpOpsIn (Fr r) 1 P ops Q js) Q) is)):St B Γ H nl (wpOpsIn (Fr r) 1 P ops Q al):=fun a w hf=>he▸Q0v ht hQ is a w (k a w hf)
theorem Xd.body {fn:Func} {R:Ending→World→Prop}:Xd (XR P fn R):=fun ⟨_,_,h⟩=>h.elim
theorem Y.done (k:St B Γ H nl (Q .normal)):St B Γ H nl (wpOpsIn (Fr r) 1 P ops Q []):=fun a w hf=>k a w hf
theorem Y.yield {α:Type} {E Ex:Foot} {encs:α→List AVal} {x:α} {oy:Option (List α)} {K:Bool×Option (List α)→Prop} {o:Oper} {i d l c:Nat} {is:List Nat} {g:Operand} {args:Array Operand} {ts:Array TypeId}
  (hm:Yld oy x K) (ho:ops[i]?=some o) (hop:o.op=.call ⟨.value g,args,ts⟩) (hgd:o.guard=none) (hd:o.dst=some d) (hlt:d.blt B.n=true) (hg:ev Γ g=some (.v (.func (.yield l) #[] #[]))) (has:evs Γ args.toList=some (encs x))
  (hc:find H c=some (.abs (CapO P l encs E Ex oy)))
  (k:∀y,K y→St B ((d,.b y.1) :: Γ) ((c,.abs (CapO P l encs E Ex y.2)) :: rmH H c) nl (wpOpsIn (Fr r) 1 P ops Q is)):St B Γ H nl (wpOpsIn (Fr r) 1 P ops Q (i :: is)):=by
 rintro a w ⟨B',β,F,hx,hβ,hf⟩
 obtain⟨ys,rfl,k1,k2⟩:=hm
 obtain⟨hlen,hdn⟩:=Wy (a:=a) hf.env has
 have hge:=(Q5 (a:=a) hf.env hg).v_inv
 obtain⟨h1,h2⟩:=hf.same
 obtain⟨F1',hsub,⟨⟨x0,hx0⟩,W,ok1,F1,hΦ,g1,g2⟩,hrest⟩:=hf.heap.rm hc
 obtain⟨fn,tmps,assign,body,hy,hR⟩:=hΦ w B'.ok β (args.map a.eval) (fun b hb=>⟨(g1 b hb).1,(h1 b (g1 b hb).1).trans (g1 b hb).2.2⟩) (fun b hb=>(g2 b hb).2.2) (fun b hb=>⟨Nat.lt_of_lt_of_le (hf.ok b hb).1 hf.kp.size,fun hF=>h2 b hb (hsub b (g2 b hF).1)⟩)
  ⟨by simpa using hlen,fun j A hA=>by
   have:=(hdn j A hA).lift h1 (fun _ h=>h)
   rw [Array.getD_eq_getD_getElem?,←Array.getElem?_toList,Array.toList_map]
   simpa using this⟩
 rw [wpOpsIn_cons]
 unfold wpOpIn
 rw [ho]
 simp only
 have hw:Region.wanted o (yielded ops a.tmps)=true:=by simp [Region.wanted,hgd]
 rw [if_pos hw]
 refine⟨fun _ _=>trivial,?_⟩
 rw [Oper.semAt_eq _ _ _ (by rintro c e;rw [e] at hop;cases hop)]
 have hrun:(execOp a.eval o).run P w=.ok (.round l fn tmps assign body) w:=by
  unfold execOp
  rw [hop]
  simp [resolve,Deferred.ofValue,hge,invoke,hy]
 rw [hrun]
 show (_→_)∧RoundIn _ _ _ _ _ _ _ _ _ _
 refine⟨fun h=>(by cases h),RoundIn.mono (show RoundIn (Fr r) 0 P l fn tmps assign body w _ from ⟨trivial,fun cc cs _=>hR.2 cc cs (room_wide _)⟩) ?_⟩
 rintro e W' ⟨hkp,ok',F',p1,p2,p3,he⟩
 have hlt1:∀b,F1 b→F b:=fun b hb=>hsub b (g2 b hb).1
 have hsz:∀b,F b→b<w.heap.size:=fun b hb=>(hf.own b hb).1
 let F3:Nat→Prop:=fun b=>F' b∨(F b∧¬F1' b)
 have hFM:∀b,F b→B'.M b∨B'.w0.heap.size≤b:=fun b hb=>by
  rcases Nat.lt_or_ge b B'.w0.heap.size with h | h
  ·exact .inl ((hf.own b hb).2 h)
  ·exact .inr h
 have hok3:∀b,F3 b→¬ok' b:=fun b hb ho'=>by
  rcases hb with hb | ⟨hb,hb'⟩
  ·exact (p3 b hb).2.2 ho'
  ·rcases (p2 b ho').1 with h | h | h
   ·exact h2 b h hb
   ·exact hb' (g2 b h).1
   ·have:=hsz b hb;omega
 have hblk:∀b,B'.ok b→W'.heap[b]?=B'.w0.heap[b]?:=fun b hb=>(hkp.block b (Nat.lt_of_lt_of_le (hf.ok b hb).1 hf.kp.size) (fun hF=>h2 b hb (hlt1 b hF))).trans (h1 b hb)
 have key:∀(y:Option (List α)),CapO P l encs E Ex y W' ok' F'→∀(v:Value) (A:AVal),Dn W' ok' β A v→Fits B ((d,A) :: Γ) ((c,.abs (CapO P l encs E Ex y)) :: rmH H c) nl (a.put (some d) v) W':=fun y hy' v A hA=>by
  refine⟨⟨B'.n,B'.k,B'.b0,W',ok',F3,B'.ds⟩,β,F3,hx.trans ⟨rfl,rfl,rfl,hf.kp.trans hkp (fun x hx' hlt'=>(hf.own x (hlt1 x hx')).2 hlt'),p1,fun b hb=>?_,fun b hb=>?_,[],rfl,.nil,by simp⟩,hβ,?_⟩
  ·rcases (p2 b hb).1 with h | h | h
   ·exact .inl h
   ·exact .inr (hFM b (hlt1 b h))
   ·exact .inr (.inr (Nat.le_trans hf.kp.size h))
  ·rcases hb with hb | hb
   ·rcases (p3 b hb).1 with h | h
    ·exact hFM b (hlt1 b h)
    ·exact .inr (Nat.le_trans hf.kp.size h)
   ·exact hFM b hb.1
  ·have hfb:KH ⟨B'.n,B'.k,B'.b0,W',ok',F3,B'.ds⟩ β F3 Γ ((c,.abs (CapO P l encs E Ex y)) :: rmH H c) a W':=by
    refine⟨.refl _ _,fun b hb=>⟨(p2 b hb).2,fun h=>hok3 b h hb⟩,fun b hb=>⟨?_,fun _=>hb⟩,?_,fun t C hC=>(hf.env t C hC).lift hblk p1,hf.size,hf.defers,hf.pre⟩
    ·rcases hb with hb | hb
     ·exact (p3 b hb).2.1
     ·exact Nat.lt_of_lt_of_le (hsz b hb.1) hkp.size
    ·refine⟨F',fun b=>F b∧¬F1' b,fun b hb=>.inl hb,fun b hb=>.inr hb,fun b hb hb'=>?_,⟨⟨x0,hx0⟩,W',ok',F',hy',fun b hb=>⟨hb,(p2 b hb).2,rfl⟩,fun b hb=>⟨hb,(p3 b hb).2.1,rfl⟩⟩,?_⟩
     ·rcases (p3 b hb).1 with h | h
      ·exact hb'.2 (g2 b h).1
      ·have:=hsz b hb'.1;omega
     ·exact (hrest.later (fun b hb hlt'=>hkp.block b hlt' (fun hF=>hb.2 (g2 b hF).1))).lift hblk p1
   exact hfb.put (by have:=hx.n;show d.blt B'.n=true;rw [this];exact hlt) hA
 rcases he with ⟨rfl,he⟩ | ⟨rfl,he⟩
 ·have:=k _ k1 _ _ (key (some ys) he (.bool true) (.b true) (.ro (.v _)))
  rw [hd];exact this
 ·have:=k _ k2 _ _ (key none he (.bool false) (.b false) (.ro (.v _)))
  rw [hd];exact this
end
/-! ## the range over such an iterator -/
def Q3Y:List Nat→List AVal→Env→Env
 | p :: ps,A :: As,Γ=>Q3Y ps As ((p,A) :: Γ)
 | _,_,Γ=>Γ
theorem Q2K {w:World} {ok:Nat→Prop} {β:List Value}:∀(ps:List Nat) (As:List AVal) (vs:List Value) (Γ:Env) (a:Act),As.length=vs.length→(∀(j:Nat) (A:AVal),As[j]?=some A→Dn w ok β A (vs[j]?.getD undef))→(∀p,p∈ps→p<a.tmps.size)→WL w ok β Γ a →
  WL w ok β (Q3Y ps As Γ) {a with tmps:=(ps.zip vs).foldl (fun t (p,v)=>t.setIfInBounds p v) a.tmps}∧((ps.zip vs).foldl (fun t (p,v)=>t.setIfInBounds p v) a.tmps).size=a.tmps.size
 | [],As,vs,Γ,a,_,_,_,he=>⟨he,rfl⟩
 | p :: ps,[],[],Γ,a,_,_,hp,he=>⟨he,rfl⟩
 | p :: ps,[],v :: vs,Γ,a,hl,_,hp,he=>by simp at hl
 | p :: ps,A :: As,[],Γ,a,hl,_,hp,he=>by simp at hl
 | p :: ps,A :: As,v :: vs,Γ,a,hl,hd,hp,he=>by
  have h1:=he.set (v:=v) (A:=A) (hp p (List.mem_cons_self ..)) (by simpa using hd 0 A rfl)
  have hs:(a.put (some p) v).tmps.size=a.tmps.size:=by simp [Act.put]
  obtain⟨g1,g2⟩:=Q2K ps As vs _ _ (by simpa using hl) (fun j C hC=>by simpa using hd (j+1) C (by simpa using hC)) (fun q hq=>by rw [hs];exact hp q (List.mem_cons_of_mem _ hq)) h1
  exact⟨g1,g2.trans hs⟩
def CO (w:World) (okc:Nat→Prop) (k:Nat) (b0:List Value) (D L:Nat) (rc:Go.Loop) (H:Heap) (nl:Nat):Foot:=fun W ok' Fx=>∃(β1:List Value) (F1:Nat→Prop),β1.length=nl∧(∀b,Fx b↔F1 b∨b=D∨b=L)∧(∀b,okc b→ok' b∧W.heap[b]?=w.heap[b]?) ∧
 (∀b,ok' b→b<W.heap.size∧¬Fx b)∧(∀b,F1 b→b<W.heap.size∧b≠D∧b≠L)∧HOk W ok' β1 W H F1∧(∀(l:Nat) (x:Value),l<k→b0[l]?=some x→β1[l]?=some x)∧W.heap[L]?=some (.loop rc)∧W.heap[D]?=some (.deferred (some []))
section
variable {P:Program} {w W W':World} {okc ok' ok2 Fx:Nat→Prop} {k nl D L:Nat} {b0:List Value} {rc rc':Go.Loop} {H:Heap}
theorem CO.later (h:CO w okc k b0 D L rc H nl W ok' Fx) (h1:∀b,ok' b→ok2 b∧W'.heap[b]?=W.heap[b]?) (h2:∀b,Fx b→W'.heap[b]?=W.heap[b]?) (h3:∀b,ok2 b→b<W'.heap.size∧¬Fx b):CO w okc k b0 D L rc H nl W' ok2 Fx:=by
 obtain⟨β1,F1,g1,g2,g3,g4,g5,g6,g7,g8,g9⟩:=h
 refine⟨β1,F1,g1,g2,fun b hb=>⟨(h1 b (g3 b hb).1).1,(h1 b (g3 b hb).1).2.trans (g3 b hb).2⟩,h3,fun b hb=>⟨?_,(g5 b hb).2⟩,?_,g7,(h2 L ((g2 L).2 (.inr (.inr rfl)))).trans g8,(h2 D ((g2 D).2 (.inr (.inl rfl)))).trans g9⟩
 ·have:=h2 b ((g2 b).2 (.inl hb))
  rw [Array.getElem?_eq_getElem (g5 b hb).1] at this
  exact Xv this
 ·exact (g6.later (fun b hb _=>h2 b ((g2 b).2 (.inl hb)))).lift (fun b hb=>(h1 b hb).2) (fun b hb=>(h1 b hb).1)
theorem CO.turn (h:CO w okc k b0 D L rc H nl W ok' Fx) (hDL:D≠L) (rc':Go.Loop):CO w okc k b0 D L rc' H nl (W.putObj L (.loop rc')) ok' Fx:=by
 obtain⟨β1,F1,g1,g2,g3,g4,g5,g6,g7,g8,g9⟩:=h
 have hb:∀b,b≠L→(W.putObj L (.loop rc')).heap[b]?=W.heap[b]?:=fun b hb=>World.putObj_heap_other hb
 have hok:∀b,ok' b→b≠L:=fun b hb e=>(g4 b hb).2 ((g2 b).2 (.inr (.inr e)))
 refine⟨β1,F1,g1,g2,fun b hb'=>⟨(g3 b hb').1,(hb b (hok b (g3 b hb').1)).trans (g3 b hb').2⟩,fun b hb'=>by simpa using g4 b hb',fun b hb'=>by simpa using g5 b hb',?_,g7,World.putObj_heap_same (Xv g8),(hb D hDL).trans g9⟩
 exact (g6.later (fun b hb' _=>hb b (g5 b hb').2.2)).lift (fun b hb'=>hb b (hok b hb')) (fun _ h=>h)
theorem CO.env (h:CO w okc k b0 D L rc H nl W ok' Fx) {Γ0:Env} {a:Act} {n0:Nat} (hb0:b0.length=n0) (he:WL w okc b0 Γ0 a) (hlab:mlΓ (pin k n0) Γ0=Γ0):∃β1 F1,β1.length=nl∧(∀b,Fx b↔F1 b∨b=D∨b=L)∧(∀b,F1 b→b<W.heap.size∧b≠D∧b≠L)∧HOk W ok' β1 W H F1 ∧
  (∀(l:Nat) (x:Value),l<k→b0[l]?=some x→β1[l]?=some x)∧∀(t:Nat) (A:AVal),find Γ0 t=some A→Dn W ok' β1 A (a.tmps.getD t undef):=by
 obtain⟨β1,F1,g1,g2,g3,g4,g5,g6,g7,g8,g9⟩:=h
 refine⟨β1,F1,g1,g2,g5,g6,g7,fun t A hA=>?_⟩
 have hd:=(he t A hA).lift (w:=W) (ok':=ok') (fun b hb=>(g3 b hb).2) (fun b hb=>(g3 b hb).1)
 refine Dn.of_ml (f:=pin k n0) (β:=b0) (fun l v hv=>?_) A _ (by rw [mlΓ_find hlab hA];exact hd)
 unfold pin at hv
 by_cases hlk:l<k
 ·rw [show l.blt k=true from Nat.ble_eq_true_of_le hlk] at hv
  exact g7 l v hlk hv
 ·have:l.blt k=false:=by cases hb:l.blt k with
   | false=>rfl
   | true=>exact absurd (Nat.le_of_ble_eq_true hb) hlk
  rw [this] at hv
  simp only [cond_false] at hv
  rw [List.getElem?_eq_none (by omega)] at hv;cases hv
end
def Turn {σ:Type} (P:Program) (B:Base) (n k:Nat) (β:List Value) (ok M:Nat→Prop) (l:Nat) (body:Code) (Γ0:Env) (Q:Exit→Act→World→Prop) (Hf:σ→Heap) (nl:Nat) (Y:σ→Prop) (w0:World) (a:Act) (w:World):Prop:=
 ∃Γ1 H1 nl1,Fits ⟨n,k,β,w0,ok,M,[]⟩ Γ1 H1 nl1 a w∧∀w0',St ⟨n,k,β,w0',ok,M,[]⟩ Γ1 H1 nl1 (Rw P l body (Q31 P B ⟨n,k,β,w0',ok,M,[]⟩ Γ0 Q Hf nl Y))
theorem CI.turn {σ:Type} {P:Program} {B:Base} {n k:Nat} {β:List Value} {ok M:Nat→Prop} {l:Nat} {body:Code} {Γ0:Env} {Q:Exit→Act→World→Prop} {Hf:σ→Heap} {nl:Nat} {Y:σ→Prop} {w0:World} {Γ1:Env} {H1:Heap} {nl1:Nat}
  (h:∀w0',St ⟨n,k,β,w0',ok,M,[]⟩ Γ1 H1 nl1 (Rw P l body (Q31 P B ⟨n,k,β,w0',ok,M,[]⟩ Γ0 Q Hf nl Y))):St ⟨n,k,β,w0,ok,M,[]⟩ Γ1 H1 nl1 (Turn P B n k β ok M l body Γ0 Q Hf nl Y w0):=fun a w hf=>⟨Γ1,H1,nl1,hf,h⟩
theorem Xd.bot:Xd (fun _ _ _=>False):=fun ⟨_,_,h⟩=>h
theorem Fits.turn {n k:Nat} {β:List Value} {W:World} {ok M:Nat→Prop} {Γ:Env} {H:Heap} {nl:Nat} {a:Act} {w:World} (h:Fits ⟨n,k,β,W,ok,M,[]⟩ Γ H nl a w) {L:Nat} (hL:L<W.heap.size) (hok:¬ok L) (hM:¬M L) (o:Obj):Fits ⟨n,k,β,W.putObj L o,ok,M,[]⟩ Γ H nl a (w.putObj L o):=by
 obtain⟨B',β',F,hx,hβ,hf⟩:=h
 have hb:∀(W:World) b,b≠L→(W.putObj L o).heap[b]?=W.heap[b]?:=fun W b hb=>World.putObj_heap_other hb
 have hLB:L<B'.w0.heap.size:=Nat.lt_of_lt_of_le hL hx.kp.size
 have hLw:L<w.heap.size:=Nat.lt_of_lt_of_le hLB hf.kp.size
 have nok:¬B'.ok L:=fun h=>by
  rcases hx.new L h with h | h | h
  ·exact hok h
  ·exact hM h
  ·simp at h;omega
 have nM:¬B'.M L:=fun h=>by
  rcases hx.M L h with h | h
  ·exact hM h
  ·simp at h;omega
 have nF:¬F L:=fun h=>nM ((hf.own L h).2 hLB)
 have kpp:∀{A C:World} {N:Nat→Prop},L<A.heap.size→L<C.heap.size→Kp A N C→Kp (A.putObj L o) N (C.putObj L o):=fun {A C N} hA hC hk=>⟨hk.os,hk.tape,hk.output,by simpa using hk.size,fun b hlt hN=>by
  by_cases e:b=L
  ·subst e;rw [World.putObj_heap_same hC,World.putObj_heap_same hA]
  ·rw [hb _ b e,hb _ b e];exact hk.block b (by simpa using hlt) hN,hk.drawn⟩
 obtain⟨k1,k2⟩:=hf.same
 refine⟨⟨B'.n,B'.k,B'.b0,B'.w0.putObj L o,B'.ok,B'.M,B'.ds⟩,β',F,⟨hx.n,hx.k,hx.b0,kpp hL hLB hx.kp,hx.ok,fun b hb'=>by simpa using hx.new b hb',fun b hb'=>by simpa using hx.M b hb',?_⟩,hβ,kpp hLB hLw hf.kp,fun b hb'=>by simpa using hf.ok b hb',fun b hb'=>by simpa using hf.own b hb',?_,fun t A hA=>?_,hf.size,hf.defers,hf.pre⟩
 ·obtain⟨Ds,e1,e2,e3⟩:=hx.ds
  refine⟨Ds,e1,e2,fun D hD=>?_⟩
  obtain⟨g1,g2,g3,g4⟩:=e3 D hD
  simp only at g1
  exact⟨by simpa using g1,(hb _ D (by omega)).trans g2,g3,g4⟩
 ·exact (hf.heap.later (fun b hF _=>hb w b (fun e=>nF (e▸hF)))).lift (fun b ho=>hb _ b (fun e=>nok (e▸ho))) (fun _ h=>h)
 ·exact (hf.env t A hA).lift (fun b ho=>hb _ b (fun e=>nok (e▸ho))) (fun _ h=>h)
theorem C.rangeI {P:Program} {B:Base} {Γ0:Env} {nl:Nat} {Q:Exit→Act→World→Prop} {σ α:Type} {bodyV:α→σ→(σ→Prop)→Prop} {kV:σ→Prop} {ys:List α} {s0:σ} {g:Operand} {ps:Array Tmp} {assign body:Code} {gf:Nat} {cs As:List AVal} {Hc H:Heap} (ρ:List (Option Nat)) {encs:α→List AVal}
  {n:Nat} {Hf:σ→Heap} (k:Nat) (hm:Each bodyV kV ys s0)
  (hit:∀(l:Nat) (E Ex:Foot),Tr P gf (.v (.func (.yield l) #[] #[]) :: As) (Hc++[(ρ.length,.abs (CapO P l encs E Ex (some ys)))]) (ρ.length+1) (fun A H n=>∃c,H=[(c,.abs (CapO P l encs E Ex (some [])))]∨H=[(c,.abs (CapO P l encs E Ex none))]))
  (hen:Q6 P gf) (hn:B.n=n) (hk:B.k.ble k=true) (hg:ev Γ0 g=some (.fn (.func gf) [] cs)) (hcs:CsL H ρ nl false cs As) (hH:ChkH H ρ nl false Hc) (hρ:ndup (kept ρ Hc)=true) (hnd:ndup (H.map (·.1))=true) (hHf:Yr ρ H=Hf s0)
  (hlab:mlΓ (pin k nl) Γ0=Γ0) (hlf:∀x f,AVal.mlL f (encs x)=encs x) (hps:ps.toList.all (fun p=>p.blt n)=true) (hlen:∀x,(encs x).length=ps.size)
  (hround:∀x s (Y:σ→Prop),bodyV x s Y→∀(w0:World) (ok M:Nat→Prop) (β:List Value) (l:Nat),St ⟨n,k,β,w0,ok,M,[]⟩ (Q3Y ps.toList (encs x) Γ0) (Hf s) nl (Rw P l assign (Exit.then (Turn P B n k β ok M l body Γ0 Q Hf nl Y w0) (fun _ _ _=>False))))
  (hdone:∀s,kV s→St B Γ0 (Hf s) nl (Q .normal)):St B Γ0 H nl ((Code.rangeFunc g ps assign body).wp P Q):=by
 rintro a w ⟨B',β,F,hx,hβ,hf⟩
 subst hβ
 obtain⟨k1,k2⟩:=hf.same
 obtain⟨G,ok2,_,g1,g2,g3,g4,g5,g6,g7⟩:=hf.heap.cast k1 k2 hH hρ
 have henv:WL w B'.ok β Γ0 a:=fun t A h=>(hf.env t A h).lift k1 (fun _ h=>h)
 have hokw:∀b,B'.ok b→b<w.heap.size:=fun b hb=>Nat.lt_of_lt_of_le (hf.ok b hb).1 hf.kp.size
 have hFw:∀b,F b→b<w.heap.size:=fun b hb=>(hf.own b hb).1
 obtain⟨lb,hge,hlb⟩:∃lb,a.eval g=.func (.func gf) #[] lb∧DnL w ok2 (rlβ ρ β) As lb:=by
  have hgv:=Q5 hf.env hg
  generalize a.eval g=y at hgv
  cases hgv with
  | ro h=>cases h
  | fn _ _ _ us vs hl h hl' h'=>
   have:us=#[]:=Array.eq_empty_of_size_eq_zero (by simpa using hl.symm)
   subst this
   obtain⟨e1,e2⟩:=g6 _ _ vs.toList hcs (by simpa using hl') (fun j A hA=>by have:=h' j A hA;rw [Array.getD_eq_getD_getElem?] at this;simpa using this)
   exact⟨vs,rfl,by simpa using e1,fun j A hA=>by have:=e2 j A hA;rw [Array.getD_eq_getD_getElem?];simpa using this⟩
 refine wpIn_wide.1 (wpIn_rangeFunc (n:=3) ?_)
 intro fn hfn
 obtain⟨rec,hrec⟩:∃rec:LoopState→Option Code→Go.Loop,rec=fun st pe=>{state:=st,pending:=pe,fn,tmps:=a.tmps,params:=ps,assign,body,defers:=w.heap.size}:=⟨_,rfl⟩
 obtain⟨W1,hW1⟩:∃W1,(w.alloc (.deferred (some []))).alloc (.loop (rec .ready none))=W1:=⟨_,rfl⟩
 have hs1:W1.heap.size=w.heap.size+2:=by rw [←hW1];simp
 have hL1:W1.heap[w.heap.size+1]?=some (.loop (rec .ready none)):=by
  rw [←hW1];have:=World.alloc_heap_new (w.alloc (.deferred (some []))) (.loop (rec .ready none));rwa [World.size_alloc] at this
 have old:∀b,b<w.heap.size→W1.heap[b]?=w.heap[b]?:=fun b hb=>by
  rw [←hW1];exact (RowKit.Below.heap_alloc _ _ _ (by simp;omega)).trans (RowKit.Below.heap_alloc _ _ _ hb)
 have hK1:W1.heap[w.heap.size]?=some (.deferred (some [])):=by
  rw [←hW1];exact (RowKit.Below.heap_alloc _ _ _ (by simp)).trans (World.alloc_heap_new w _)
 have hkp1:Kp w F W1:=by rw [←hW1];exact (XH w F _).trans (XH _ F _) (fun _ h _=>h)
 obtain⟨D,hD⟩:∃D,D=w.heap.size:=⟨_,rfl⟩
 obtain⟨L,hL⟩:∃L,L=w.heap.size+1:=⟨_,rfl⟩
 rw [←hL] at hL1;rw [←hD] at hK1
 have hDL:D≠L:=by omega
 -- the footprint of the consumer
 let Fc:Nat→Prop:=fun b=>(F b∧¬G b)∨b=D∨b=L
 have hco:CO w B'.ok k β D L (rec .ready none) (Hf s0) β.length W1 B'.ok Fc:=by
  refine⟨β,fun b=>F b∧¬G b,rfl,fun b=>Iff.rfl,fun b hb=>⟨hb,old b (hokw b hb)⟩,fun b hb=>⟨by have:=hokw b hb;omega,?_⟩,fun b hb=>?_,?_,fun l x _ h=>h,hL1,hK1⟩
  ·rintro (h | h | h)
   ·exact k2 b hb h.1
   ·have:=hokw b hb;omega
   ·have:=hokw b hb;omega
  ·have:=hFw b hb.1;omega
  ·rw [←hHf]
   exact ((g7 hnd).later (fun b hb _=>old b (hFw b hb.1))).lift (fun b hb=>(old b (hokw b hb)).trans (k1 b hb)) (fun _ h=>h)
 -- the rounds
 obtain⟨E,hE⟩:∃E:Foot,E=fun W ok' Fx=>∃s,kV s∧CO w B'.ok k β D L (rec .ready none) (Hf s) β.length W ok' Fx:=⟨_,rfl⟩
 obtain⟨Ex,hEx⟩:∃Ex:Foot,Ex=fun W ok' Fx=>∃c H1 nl1,CO w B'.ok k β D L (rec .done (some c)) H1 nl1 W ok' Fx∧St B Γ0 H1 nl1 (Code.wp P c Q):=⟨_,rfl⟩
 have cap:∀(ys:List α) (s:σ) (W:World) (ok' Fx:Nat→Prop),Each bodyV kV ys s→CO w B'.ok k β D L (rec .ready none) (Hf s) β.length W ok' Fx→Cap P L encs E Ex ys W ok' Fx:=by
  intro ys
  induction ys with
  | nil=>intro s W ok' Fx hs hc;rw [Cap,hE];exact⟨s,hs,hc⟩
  | cons x ys ih=>
   intro s W0 ok0 Fx hs hc0 W ok' βx vs q1 q2 q3 hvs
   have hc:=hc0.later q1 q2 q3
   have hl:W.heap[L]?=some (.loop (rec .ready none)):=by obtain⟨_,_,_,_,_,_,_,_,_,h,_⟩:=hc;exact h
   have hlsz:L<W.heap.size:=Xv hl
   have hvsz:vs.size=ps.size:=by rw [←hvs.1,hlen]
   have hy:=run_yield (P:=P) (args:=vs) hl (by rw [hrec];exact hvsz)
   rw [hrec] at hy
   obtain⟨W2,hW2⟩:∃W2,W.putObj L (.loop {rec .ready none with state:=.busy})=W2:=⟨_,rfl⟩
   have hc2:=hc.turn hDL {rec .ready none with state:=.busy}
   rw [hW2] at hc2
   have hs2:W2.heap.size=W.heap.size:=by rw [←hW2];simp
   have hl2:W2.heap[L]?=some (.loop {rec .ready none with state:=.busy}):=by rw [←hW2];exact World.putObj_heap_same hlsz
   have oth2:∀b,b≠L→W2.heap[b]?=W.heap[b]?:=fun b hb=>by rw [←hW2];exact World.putObj_heap_other hb
   have hd2:W2.heap[D]?=some (.deferred (some [])):=by obtain⟨_,_,_,_,_,_,_,_,_,_,h⟩:=hc2;exact h
   have hoF:∀b,ok' b→b<W2.heap.size∧¬Fx b:=fun b hb=>by rw [hs2];exact q3 b hb
   have hokc:∀b,B'.ok b→ok' b:=by obtain⟨_,_,_,_,h,_⟩:=hc;exact fun b hb=>(h b hb).1
   obtain⟨β1,F1,c1,c2,c3,c4,c5,c6⟩:=hc.env rfl henv hlab
   have hvD:∀(j:Nat) (A:AVal),(encs x)[j]?=some A→Dn W ok' β1 A (vs.toList[j]?.getD undef):=fun j A hA=>by
    have hd0:=hvs.2 j A hA
    have hml:A.ml (fun _=>βx.length)=A:=by
     have:=hlf x (fun _=>βx.length)
     rw [mlL_eq] at this
     have h2:=congrArg (fun z=>z[j]?) this
     simp only [List.getElem?_map,hA,Option.map_some,Option.some.injEq] at h2
     exact h2
    have hd1:Dn W ok' β1 A (vs.getD j undef):=Dn.of_ml (f:=fun _=>βx.length) (β:=βx) (fun l v hv=>by rw [List.getElem?_eq_none (Nat.le_refl _)] at hv;cases hv) A _ (by rw [hml];exact hd0)
    rw [Array.getD_eq_getD_getElem?,←Array.getElem?_toList] at hd1
    exact hd1
   obtain⟨p1,p2⟩:=Q2K (w:=W) (ok:=ok') (β:=β1) ps.toList (encs x) vs.toList Γ0 {tmps:=a.tmps,defers:=[]} (by simpa using hvs.1) hvD (fun p hp=>by
    have:=List.all_eq_true.1 hps p hp
    show p<a.tmps.size
    rw [hf.size,hx.n,hn];exact Nat.le_of_ble_eq_true this) c6
   have htm:(ps.zip vs).foldl (fun tmps (x:Tmp×Value)=>tmps.setIfInBounds x.1 x.2) a.tmps=(ps.toList.zip vs.toList).foldl (fun t (x:Nat×Value)=>t.setIfInBounds x.1 x.2) a.tmps:=by
    rw [←Array.foldl_toList,Array.toList_zip]
   have nLok:¬ok' L:=fun h=>(q3 L h).2 ((c2 L).2 (.inr (.inr rfl)))
   have nLF:¬F1 L:=fun h=>(c3 L h).2.2 rfl
   refine⟨fn,_,assign,body,hy,roundIn_of_wpIn hfn ?_⟩
   have hfr:Fits ⟨n,k,β1,W,ok',F1,[]⟩ (Q3Y ps.toList (encs x) Γ0) (Hf s) β.length {tmps:=(ps.toList.zip vs.toList).foldl (fun t (x:Nat×Value)=>t.setIfInBounds x.1 x.2) a.tmps,defers:=[]} W:=
    ⟨_,β1,F1,.refl _,c1,.refl _ _,fun b hb=>⟨(q3 b hb).1,fun hF=>(q3 b hb).2 ((c2 b).2 (.inl hF))⟩,fun b hb=>⟨(c3 b hb).1,fun _=>hb⟩,c4,p1,by rw [p2];show a.tmps.size=n;rw [hf.size,hx.n,hn],rfl,fun l x _ hx=>hx⟩
   have hrun:=hround x s _ hs W ok' F1 β1 L _ _ hfr
   rw [←htm] at hrun
   refine wpIn_mono hrun ?_
   rintro e a1 w1 ht
   cases e with
   | goto t=>exact ht.elim
   | panic ch=>exact ht.elim
   | outgrown=>exact ht.elim
   | ret=>exact ht.elim
   | exit id=>exact ht.elim
   | normal=>
   obtain⟨Γ1,H1,nl1,hft,hcont⟩:=ht
   have hw1:w1.heap[L]?=some (.loop (rec .ready none)):=by
    obtain⟨B3,β3,F3,hx3,hβ3,hf3⟩:=hft
    have hkp:Kp W F1 w1:=hx3.kp.trans hf3.kp (fun x hx' hlt=>(hx3.M x hx').resolve_right (by simp at hlt ⊢;omega))
    exact (hkp.block L hlsz nLF).trans hl
   have hb1:=run_beginRound (P:=P) hw1 (by rw [hrec])
   refine⟨_,hb1,?_⟩
   have hft2:=hft.turn hlsz nLok nLF (.loop {rec .ready none with state:=.busy})
   rw [hW2] at hft2
   refine wpIn_mono (hcont W2 _ _ hft2) ?_
   -- the end of a round
   have hFin:∀(H1:Heap) (nl1:Nat) (a3:Act) (W3:World) (jump:Option Code),Fits ⟨n,k,β1,W2,ok',F1,[]⟩ [] H1 nl1 a3 W3 →
     ∃W4,(Instr.endRound L jump).run P W3=.ok (.bool jump.isNone) W4∧Kp W Fx W4∧∃ok4 F4:Nat→Prop,(∀b,ok' b→ok4 b)∧(∀b,ok4 b→(ok' b∨Fx b∨W.heap.size≤b)∧b<W4.heap.size)∧(∀b,F4 b→(Fx b∨W.heap.size≤b)∧b<W4.heap.size∧¬ok4 b) ∧
      CO w B'.ok k β D L (rec (if jump.isNone then .ready else .done) jump) H1 nl1 W4 ok4 F4:=fun H1 nl1 a3 W3 jump hft=>by
    obtain⟨B3,β3,F3,hx3,hβ3,hf3⟩:=hft
    obtain⟨l1,l2⟩:=hf3.same
    have hkp:Kp W2 F1 W3:=hx3.kp.trans hf3.kp (fun x hx' hlt=>(hx3.M x hx').resolve_right (by simp at hlt ⊢;omega))
    have hsz3:W.heap.size≤W3.heap.size:=by have:=hkp.size;omega
    have nDL:∀b,b=D∨b=L→b<W2.heap.size∧¬F1 b:=fun b hb=>by
     rcases hb with rfl | rfl
     ·exact⟨Xv hd2,fun h=>(c3 _ h).2.1 rfl⟩
     ·exact⟨Xv hl2,fun h=>(c3 _ h).2.2 rfl⟩
    have hl3:W3.heap[L]?=some (.loop {rec .ready none with state:=.busy}):=(hkp.block L (nDL L (.inr rfl)).1 (nDL L (.inr rfl)).2).trans hl2
    have hd3:W3.heap[D]?=some (.deferred (some [])):=(hkp.block D (nDL D (.inl rfl)).1 (nDL D (.inl rfl)).2).trans hd2
    have he:=run_endRound (P:=P) jump hl3
    rw [hrec] at he ⊢
    have hF3:∀b,F3 b→F1 b∨W.heap.size≤b:=fun b hb=>by
     rcases Nat.lt_or_ge b B3.w0.heap.size with h | h
     ·rcases hx3.M b ((hf3.own b hb).2 h) with h' | h'
      ·exact .inl h'
      ·exact .inr (by simp at h';omega)
     ·have h0:W2.heap.size≤B3.w0.heap.size:=hx3.kp.size
      exact .inr (by omega)
    have hok3:∀b,B3.ok b→ok' b∨F1 b∨W.heap.size≤b:=fun b hb=>by
     rcases hx3.new b hb with h | h | h
     ·exact .inl h
     ·exact .inr (.inl h)
     ·exact .inr (.inr (by simp at h;omega))
    have hok3l:∀b,B3.ok b→b<W3.heap.size:=fun b hb=>Nat.lt_of_lt_of_le (hf3.ok b hb).1 hf3.kp.size
    have hnDL:∀b,b=D∨b=L→¬B3.ok b∧¬F3 b:=fun b hb=>by
     have hlt:=(nDL b hb).1
     refine⟨fun h=>?_,fun h=>?_⟩
     ·rcases hok3 b h with h | h | h
      ·exact (hoF b h).2 ((c2 b).2 (.inr hb))
      ·exact (nDL b hb).2 h
      ·omega
     ·rcases hF3 b h with h | h
      ·exact (nDL b hb).2 h
      ·omega
    refine⟨_,he,?_,B3.ok,fun b=>F3 b∨b=D∨b=L,fun b hb=>hx3.ok b hb,fun b hb=>⟨?_,by simpa using hok3l b hb⟩,fun b hb=>?_,?_⟩
    ·have h1:Kp W Fx W2:=by
      rw [←hW2]
      exact⟨rfl,rfl,rfl,by simp,fun b _ hb=>World.putObj_heap_other (fun e=>hb ((c2 b).2 (.inr (.inr e)))),.refl _⟩
     have h2:Kp W3 Fx (W3.putObj L (.loop {rec .ready none with state:=if jump.isNone then .ready else .done,pending:=jump})):=⟨rfl,rfl,rfl,by simp,fun b _ hb=>World.putObj_heap_other (fun e=>hb ((c2 b).2 (.inr (.inr e)))),.refl _⟩
     rw [hrec] at h2
     exact (h1.trans hkp (fun x hx' _=>(c2 x).2 (.inl hx'))).trans h2 (fun _ h _=>h)
    ·rcases hok3 b hb with h | h | h
     ·exact .inl h
     ·exact .inr (.inl ((c2 b).2 (.inl h)))
     ·exact .inr (.inr h)
    ·rcases hb with hb | hb
     ·refine⟨?_,by simpa using (hf3.own b hb).1,fun h=>l2 b h hb⟩
      rcases hF3 b hb with h | h
      ·exact .inl ((c2 b).2 (.inl h))
      ·exact .inr h
     ·refine⟨.inl ((c2 b).2 (.inr hb)),by have:=(nDL b hb).1;have:=hkp.size;simp;omega,(hnDL b hb).1⟩
    ·have co3:CO w B'.ok k β D L {rec .ready none with state:=.busy} H1 nl1 W3 B3.ok (fun b=>F3 b∨b=D∨b=L):=by
      refine⟨β3,F3,hβ3,fun b=>Iff.rfl,fun b hb=>⟨hx3.ok b (hokc b hb),?_⟩,fun b hb=>⟨hok3l b hb,?_⟩,fun b hb=>⟨(hf3.own b hb).1,fun e=>(hnDL b (.inl e)).2 hb,fun e=>(hnDL b (.inr e)).2 hb⟩,hf3.heap.lift l1 (fun _ h=>h),fun l x hl hx'=>hf3.pre l x (by rw [hx3.k];exact hl) (by rw [hx3.b0];exact c5 l x hl hx'),hl3,hd3⟩
      ·have h1:=hokc b hb
       refine (hkp.block b (hoF b h1).1 (fun h=>(hoF b h1).2 ((c2 b).2 (.inl h)))).trans ?_
       obtain⟨_,_,_,_,h,_⟩:=hc2
       exact (h b hb).2
      ·rintro (h | h)
       ·exact l2 b hb h
       ·exact (hnDL b h).1 hb
     have:=co3.turn hDL {rec .ready none with state:=if jump.isNone then .ready else .done,pending:=jump}
     rw [hrec] at this
     exact this
   rintro e a3 W3 hp
   cases e with
   | normal=>
    obtain⟨s',hs',hf3⟩:=hp
    obtain⟨W4,e1,e2,ok4,F4,e3,e4,e5,e6⟩:=hFin _ _ _ _ none hf3
    exact⟨_,_,e1,e2,ok4,F4,e3,e4,e5,.inl ⟨rfl,ih s' W4 ok4 F4 hs' e6⟩⟩
   | ret=>
    obtain⟨H1,nl1,hf3,hk3⟩:=hp
    obtain⟨W4,e1,e2,ok4,F4,e3,e4,e5,e6⟩:=hFin _ _ _ _ (some .ret) hf3
    exact⟨_,_,e1,e2,ok4,F4,e3,e4,e5,.inr ⟨rfl,by rw [hEx];exact⟨.ret,H1,nl1,e6,hk3⟩⟩⟩
   | exit id=>
    obtain⟨H1,nl1,hf3,hk3⟩:=hp
    obtain⟨W4,e1,e2,ok4,F4,e3,e4,e5,e6⟩:=hFin _ _ _ _ (some (.exit id)) hf3
    exact⟨_,_,e1,e2,ok4,F4,e3,e4,e5,.inr ⟨rfl,by rw [hEx];exact⟨.exit id,H1,nl1,e6,hk3⟩⟩⟩
   | goto t=>exact hp.elim
   | panic ch=>exact hp.elim
   | outgrown=>exact hp.elim
 -- the call
 refine⟨L,[mark w.heap.size],W1,{target:=.fn (.func gf) lb,args:=#[.func (.yield L) #[] #[]]},W1,gf,#[.func (.yield L) #[] #[]]++lb,W1,?_,?_,fun _ _=>trivial,?_,fun h=>(by cases h),?_⟩
 ·rw [←hW1,hrec,hL];exact run_enterLoop_outer _ _ _ _ _
 ·simp only [resolve,hge]
  simp [go_sem]
 ·simp only [invoke,go_sem]
  exact hen _ _
 have hok2:∀b,ok2 b→b<w.heap.size:=fun b hb=>by
  rcases g3 b hb with h | h
  ·exact hokw b h
  ·exact hFw b h.2.1
 have hok2':∀b,ok2 b→B'.ok b:=fun b hb=>by
  rcases g3 b hb with h | h
  ·exact h
  ·cases h.1
 let Fa:Nat→Prop:=fun b=>G b∨Fc b
 have hlift2:∀b,ok2 b→W1.heap[b]?=w.heap[b]?:=fun b hb=>old b (hok2 b hb)
 have hT:=hit L E Ex W1 ok2 Fa (rlβ ρ β++[undef]) (#[.func (.yield L) #[] #[]]++lb) (by simp [rlβ]) (fun b hb=>⟨by have:=hok2 b hb;omega,?_⟩) (fun b hb=>?_) ?_ ?_
 rotate_left
 ·rintro (h | h | h | h)
  ·exact (g1 b h).2 hb
  ·exact k2 b (hok2' b hb) h.1
  ·have:=hok2 b hb;omega
  ·have:=hok2 b hb;omega
 ·rcases hb with h | h | h | h
  ·have:=hFw b (g1 b h).1;omega
  ·have:=hFw b h.1;omega
  ·omega
  ·omega
 ·have hA:HOk W1 ok2 (rlβ ρ β++[undef]) W1 [(ρ.length,.abs (CapO P L encs E Ex (some ys)))] Fc:=⟨Fc,fun _=>False,fun b hb=>hb,fun b hb=>hb.elim,fun b _ hb=>hb,⟨⟨undef,by simp [rlβ]⟩,W1,B'.ok,Fc,cap ys s0 W1 _ _ hm hco,fun b hb=>⟨g2 b hb,by have:=hokw b hb;omega,rfl⟩,fun b hb=>⟨hb,by
   rcases hb with h | h | h
   ·have:=hFw b h.1;omega
   ·omega
   ·omega,rfl⟩⟩,trivial⟩
  have hB:HOk W1 ok2 (rlβ ρ β++[undef]) W1 Hc G:=((g4.later (fun b hb _=>old b (hFw b (g1 b hb).1))).lift hlift2 (fun _ h=>h)).app
  refine HOk.append hA hB ?_
  rintro b hb (h | h | h)
  ·exact h.2 hb
  ·have:=hFw b (g1 b hb).1;omega
  ·have:=hFw b (g1 b hb).1;omega
 ·refine⟨by have:=hlb.1;simp;omega,fun j A hA=>?_⟩
  cases j with
  | zero=>
   simp only [List.getElem?_cons_zero,Option.some.injEq] at hA;subst hA
   have e:(#[Value.func (.yield L) #[] #[]]++lb).getD 0 undef=.func (.yield L) #[] #[]:=by
    simp only [Array.getD_eq_getD_getElem?]
    rw [Array.getElem?_append_left (by simp)]
    rfl
   rw [e];exact .ro (.v _)
  | succ j=>
   have:=((hlb.2 j A (by simpa using hA)).lift hlift2 (fun _ h=>h)).app (γ:=[undef])
   have e:(#[Value.func (.yield L) #[] #[]]++lb).getD (j+1) undef=lb.getD j undef:=by
    simp only [Array.getD_eq_getD_getElem?]
    rw [Array.getElem?_append_right (by simp)]
    simp
   rw [e];exact this
 refine (callsIn_wide (n:=2)).2 (hT.mono ?_)
 rintro e W2 ⟨v,A,H2,β2,F2,okR,rfl,⟨c,hH2⟩,_,_,p3,p4,p5,p6,p7,_⟩
 have fin:∀(Φ:Foot),H2=[(c,.abs Φ)]→∃(W:World) (ok1 F1:Nat→Prop),Φ W ok1 F1∧(∀b,ok1 b→okR b∧W2.heap[b]?=W.heap[b]?)∧(∀b,F1 b→F2 b∧W2.heap[b]?=W.heap[b]?):=fun Φ e=>by
  subst e
  obtain⟨X1,X2,x1,x2,x12,⟨_,W,ok1,F1,hΦ,y1,y2⟩,_⟩:=p7
  exact⟨W,ok1,F1,hΦ,fun b hb=>⟨(y1 b hb).1,(y1 b hb).2.2⟩,fun b hb=>⟨x1 b (y2 b hb).1,(y2 b hb).2.2⟩⟩
 have hFa:∀b,Fa b→b<w.heap.size→F b:=fun b hb hlt=>by
  rcases hb with h | h | h | h
  ·exact (g1 b h).1
  ·exact h.1
  ·omega
  ·omega
 have back:∀{rc:Go.Loop} {H1:Heap} {nl1:Nat} {W W4:World} {ok1 F1:Nat→Prop},CO w B'.ok k β D L rc H1 nl1 W ok1 F1→(∀b,ok1 b→okR b∧W2.heap[b]?=W.heap[b]?)→(∀b,F1 b→F2 b∧W2.heap[b]?=W.heap[b]?) →
   W2.heap[L]?=some (.loop rc)∧(∀rc',Fits B Γ0 H1 nl1 {a with defers:=[mark w.heap.size]++a.defers} (W2.putObj L (.loop rc'))):=fun {rc H1 nl1 W W4 ok1 F1} hc y1 y2=>by
  have hc2:=hc.later (W':=W2) (ok2:=ok1) (fun b hb=>⟨hb,(y1 b hb).2⟩) (fun b hb=>(y2 b hb).2) (fun b hb=>⟨(p5 b (y1 b hb).1).2,fun h=>(p6 b (y2 b h).1).2.2 (y1 b hb).1⟩)
  refine⟨by obtain⟨_,_,_,_,_,_,_,_,_,h,_⟩:=hc2;exact h,fun rc'=>?_⟩
  have hc3:=hc2.turn hDL rc'
  have hDv:(W2.putObj L (.loop rc')).heap[D]?=some (.deferred (some [])):=by obtain⟨_,_,_,_,_,_,_,_,_,_,h⟩:=hc3;exact h
  have hnD:¬ok1 D∧∀b,ok1 b→¬F1 b:=by obtain⟨_,_,_,h1,_,h2,_⟩:=hc3;exact⟨fun h=>(h2 D h).2 ((h1 D).2 (.inr (.inl rfl))),fun b hb=>(h2 b hb).2⟩
  have hokB:∀b,B'.ok b→ok1 b:=by obtain⟨_,_,_,_,h,_⟩:=hc3;exact fun b hb=>(h b hb).1
  obtain⟨β4,F4,c1,c2,c3,c4,c5,c6⟩:=hc3.env rfl henv hlab
  ·have hkpw:Kp w F W2:=hkp1.trans p3 (fun b hb hlt=>hFa b hb hlt)
   have hkp4:Kp w F (W2.putObj L (.loop rc')):=⟨hkpw.os,hkpw.tape,hkpw.output,by simpa using hkpw.size,fun b hlt hb=>(World.putObj_heap_other (by omega)).trans (hkpw.block b hlt hb),hkpw.drawn⟩
   have hsz:=hf.kp.size
   have hnew:∀b,F b∨w.heap.size≤b→B'.M b∨B'.w0.heap.size≤b:=fun b hb=>by
    rcases hb with hb | hb
    ·rcases Nat.lt_or_ge b B'.w0.heap.size with h | h
     ·exact .inl ((hf.own b hb).2 h)
     ·exact .inr h
    ·exact .inr (Nat.le_trans hsz hb)
   have hFa':∀b,Fa b→F b∨w.heap.size≤b:=fun b hb=>by
    rcases Nat.lt_or_ge b w.heap.size with h | h
    ·exact .inl (hFa b hb h)
    ·exact .inr h
   have hF4:∀b,F4 b→F1 b:=fun b hb=>(c2 b).2 (.inl hb)
   refine⟨⟨B'.n,B'.k,B'.b0,W2.putObj L (.loop rc'),ok1,F4,[mark w.heap.size]++B'.ds⟩,β4,F4,hx.trans ⟨rfl,rfl,rfl,hf.kp.trans hkp4 (fun x hx' hlt=>(hf.own x hx').2 hlt),hokB,fun b hb=>?_,fun b hb=>?_,[w.heap.size],rfl,by simp,fun D' hD'=>?_⟩,c1,.refl _ _,fun b hb=>⟨?_,fun h=>hnD.2 b hb (hF4 b h)⟩,fun b hb=>⟨(c3 b hb).1,fun _=>hb⟩,c4,c6,hf.size,?_,fun l x hl hx'=>?_⟩
   ·rcases (p5 b (y1 b hb).1).1 with h | h | h
    ·exact .inl (hok2' b h)
    ·exact .inr (hnew b (hFa' b h))
    ·exact .inr (hnew b (.inr (by omega)))
   ·rcases (p6 b (y2 b (hF4 b hb)).1).1 with h | h
    ·exact hnew b (hFa' b h)
    ·exact hnew b (.inr (by omega))
   ·simp only [List.mem_singleton] at hD';subst hD'
    rw [←hD]
    exact⟨by omega,hDv,fun hM=>(c3 _ hM).2.1 rfl,hnD.1⟩
   ·have:=(p5 b (y1 b hb).1).2;simpa using this
   ·show [mark w.heap.size]++a.defers=_;rw [hf.defers]
   ·have hl':l<k:=Nat.lt_of_lt_of_le (by rw [←hx.k];exact hl) (Nat.le_of_ble_eq_true hk)
    exact c5 l x hl' (hf.pre l x hl hx')
 rcases hH2 with hH2 | hH2
 ·obtain⟨W,ok1,F1,hΦ,y1,y2⟩:=fin _ hH2
  have hΦ':E W ok1 F1:=hΦ
  rw [hE] at hΦ'
  obtain⟨s,hs,hc⟩:=hΦ'
  obtain⟨e1,e2⟩:=back (W4:=W) hc y1 y2
  have e3:=run_endLoop (P:=P) e1 (by rw [hrec];simp)
  refine⟨none,_,by rw [hrec] at e3;exact e3,?_⟩
  exact hdone s hs _ _ (e2 _)
 ·obtain⟨W,ok1,F1,hΦ,y1,y2⟩:=fin _ hH2
  have hΦ':Ex W ok1 F1:=hΦ
  rw [hEx] at hΦ'
  obtain⟨c,H1,nl1,hc,hk3⟩:=hΦ'
  obtain⟨e1,e2⟩:=back (W4:=W) hc y1 y2
  have e3:=run_endLoop (P:=P) e1 (by rw [hrec];simp)
  refine⟨some c,_,by rw [hrec] at e3;exact e3,?_⟩
  exact wpIn_wide.2 (hk3 _ _ (e2 _))
/-! ## a pointer against nil -/
end Go.Taq
