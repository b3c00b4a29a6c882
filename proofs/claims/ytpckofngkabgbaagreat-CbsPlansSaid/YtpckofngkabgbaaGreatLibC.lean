/- The library of the generated walks, part C: the steps of a region, in the text's order and in an order that the tape draws. -/
import Derived.Test.YtpckofngkabgbaaGreatLibB
namespace Go.Taq
open Go
def hdr:Value→Option Nat
 | .pointer (some a)=>some a.block
 | .slice (some a) _ (_+1)=>some a.block
 | .map (some r)=>some r
 | _=>none
def Mod (β:List Value) (ms:List Nat) (b:Nat):Prop:=∃l,l∈ms∧∃x,β[l]?=some x∧hdr x=some b
section
variable {P:Program} {B:Base} {tb:Tab} {Γ Γ':Env} {H H':Heap} {nl nl':Nat} {ι:Type 1} {S:ι→Prop} {Γs:ι→Env} {Hs:ι→Heap} {nls:ι→Nat}
def RdC (B:Base) (β:List Value) (w w':World):Option (List Nat)→Prop
 | none=>True
 | some rl=>(∀b,B.ok b→w'.heap[b]?=w.heap[b]?)∧∀b,Mod β rl b→w'.heap[b]?=w.heap[b]?
theorem RdC.refl (B:Base) (β:List Value) (w:World) (rl:Option (List Nat)):RdC B β w w rl:=by
 cases rl with
 | none=>trivial
 | some rl=>exact⟨fun _ _=>rfl,fun _ _=>rfl⟩
def Rd (P:Program) (B:Base) (Γ:Env) (H:Heap) (nl:Nat) (o:Oper) (A:AVal) (rl:Option (List Nat)):Prop:=
 ∀B':Base,B'.n=B.n→∀β F a w,β.length=nl→KH B' β F Γ H a w→∃v,Dn B'.w0 B'.ok β A v ∧
  ∀w',RdC B' β w w' rl→(execOp a.eval o).run P w'=.ok (.value v) w'
inductive EM where
 | fx (ms:List Nat) (gr:Bool)
 | any
def EffD (nl:Nat) (B B':Base) (β β':List Value) (w w':World):EM→Prop
 | .fx ms gr=>(∀(l:Nat) (x:Value) (b:Nat),nl≤l→β'[l]?=some x→hdr x=some b→w.heap.size≤b∨Mod β ms b)∧Kp w (Mod β ms) w'∧(gr=false→∀b,B'.ok b→B.ok b)
 | .any=>True
def Eff {ι:Type 1} (P:Program) (B:Base) (Γ:Env) (H:Heap) (nl:Nat) (o:Oper) (S:ι→Prop) (Γ':ι→Env) (H':ι→Heap) (nl':ι→Nat) (m:EM):Prop:=
 ∀B':Base,B'.n=B.n→∀β F a w,β.length=nl→KH B' β F Γ H a w→∀(next:Act→World→Prop) (Q:Exit→Act→World→Prop),
  (∀s,S s→∀a' w' β' F' B'',B'.Ext B''→β'.length=nl' s→(∀(l:Nat) (x:Value),β[l]?=some x→β'[l]?=some x)→EffD nl B' B'' β β' w w' m →
   KH B'' β' F' (Γ' s) (H' s) a' w'→next a' w')→o.wp P a w next Q
abbrev Eff1 (P:Program) (B:Base) (Γ:Env) (H:Heap) (nl:Nat) (o:Oper) (Γ':Env) (H':Heap) (nl':Nat) (m:EM):Prop:=
 Eff (ι:=PUnit) P B Γ H nl o (fun _=>True) (fun _=>Γ') (fun _=>H') (fun _=>nl') m
theorem KH.put {β:List Value} {F:Nat→Prop} {a:Act} {w:World} (h:KH B β F Γ H a w) {d:Nat} {A:AVal} {v:Value} (hd:d.blt B.n=true) (hA:Dn B.w0 B.ok β A v):
  KH B β F ((d,A) :: Γ) H (a.put (some d) v) w:=by
 refine⟨h.kp,h.ok,h.own,h.heap,fun t C hC=>?_,by simpa [Act.put] using h.size,h.defers,h.pre⟩
 have hlt:d<a.tmps.size:=by rw [h.size];exact Nat.le_of_ble_eq_true hd
 rw [find_cons] at hC
 simp only [Act.put,Array.getD_eq_getD_getElem?]
 split at hC
 ·rename_i e;subst e;cases hC
  simp [hlt];exact hA
 ·rename_i e
  rw [Array.getElem?_setIfInBounds_ne e]
  simpa [Array.getD_eq_getD_getElem?] using h.env t C hC
theorem Q0h {B B':Base} (h:B.Ext B') {d:Nat} (hlt:d.blt B.n=true):d.blt B'.n=true:=by rw [h.n];exact hlt
theorem KH.put' {β:List Value} {F:Nat→Prop} {a:Act} {w:World} (h:KH B β F Γ H a w) {d:Option Nat} (v:Value) (hd:d=none):
  KH B β F Γ H (a.put d v) w:=by subst hd;exact h
/-! ## guards -/
def Z3 (ops:Array Oper) (j:Nat):Option Nat:=(ops[j]?).bind (·.dst)
inductive Xh (ops:Array Oper) (Γ:Env) (o:Oper):Bool→Prop where
 | none (h:o.guard=Option.none):Xh ops Γ o true
 | some (j:Nat) (want:Bool) (t:Nat) (b:Bool) (h:o.guard=Option.some (j,want)) (ht:Z3 ops j=Option.some t) (hb:find Γ t=Option.some (.v (.bool b))):Xh ops Γ o (b == want)
 | und (j:Nat) (want:Bool) (t:Nat) (h:o.guard=Option.some (j,want)) (ht:Z3 ops j=Option.some t) (hb:find Γ t=Option.some (.v undef)):Xh ops Γ o false
theorem Xh.wanted {ops:Array Oper} {o:Oper} {c:Bool} (h:Xh ops Γ o c) {β:List Value} {F:Nat→Prop} {a:Act} {w:World} (hf:KH B β F Γ H a w):
  Region.wanted o (yielded ops a.tmps)=c:=by
 cases h with
 | none h=>simp [Region.wanted,h]
 | some j want t b h ht hb=>
  have e:=(hf.env t _ hb).v_inv
  have hs:a.tmps[t]?=Option.some (.bool b):=by
   rw [Array.getD_eq_getD_getElem?] at e
   cases hx:a.tmps[t]? with
   | none=>simp [hx,undef] at e
   | some y=>simp [hx] at e;simp [e]
  have hy:yielded ops a.tmps j=Option.some b:=by
   unfold yielded
   unfold Z3 at ht
   simp [ht,hs]
  simp only [Region.wanted,h,hy]
  cases b <;> cases want <;> rfl
 | und j want t h ht hb=>
  have e:=(hf.env t _ hb).v_inv
  have hy:yielded ops a.tmps j=Option.none:=by
   unfold yielded
   unfold Z3 at ht
   rw [ht]
   simp only [Option.bind_some]
   rw [Array.getD_eq_getD_getElem?] at e
   cases hx:a.tmps[t]? with
   | none=>rfl
   | some y=>simp [hx] at e;subst e;rfl
  simp [Region.wanted,h,hy]
theorem Xh.take {ops:Array Oper} {o:Oper} (j:Nat) (want:Bool) (t:Nat) (b:Bool) (hb':b=want) (h:o.guard=Option.some (j,want)) (ht:Z3 ops j=Option.some t) (hb:find Γ t=Option.some (.v (.bool b))):Xh ops Γ o true:=by
 have:=Xh.some (o:=o) j want t b h ht hb
 rw [hb'] at this
 simpa using this
theorem Xh.skip {ops:Array Oper} {o:Oper} (j:Nat) (want:Bool) (t:Nat) (b:Bool) (hb':b=!want) (h:o.guard=Option.some (j,want)) (ht:Z3 ops j=Option.some t) (hb:find Γ t=Option.some (.v (.bool b))):Xh ops Γ o false:=by
 have:=Xh.some (o:=o) j want t b h ht hb
 rw [hb'] at this
 cases want <;> simpa using this
/-! ## in the text's order -/
section
variable {ops:Array Oper} {Q:Exit→Act→World→Prop} {i:Nat} {rest:List Nat} {o:Oper}
theorem U.rd {A:AVal} {rl:Option (List Nat)} {d:Nat} (h:Rd P B Γ H nl o A rl) (ho:ops[i]?=some o) (hw:Xh ops Γ o true) (hd:o.dst=some d) (hlt:d.blt B.n=true)
  (k:St B ((d,A) :: Γ) H nl (wpOps P ops Q rest)):St B Γ H nl (wpOps P ops Q (i :: rest)):=by
 rintro a w ⟨B',β,F,hx,hβ,hf⟩
 obtain⟨v,hv,hr⟩:=h B' hx.n β F a w hβ hf
 rw [wpOps_cons];unfold wpOp
 simp only [ho,hw.wanted hf,if_true]
 refine .inl ?_
 simp only [Oper.wp,hr w (.refl _ _ _ _),Oper.upon]
 rw [hd]
 exact k _ _ ⟨B',β,F,hx,hβ,hf.put (Q0h hx hlt) hv⟩
theorem U.eff {m:EM} (h:Eff P B Γ H nl o S Γs Hs nls m) (ho:ops[i]?=some o) (hw:Xh ops Γ o true)
  (k:∀s,S s→St B (Γs s) (Hs s) (nls s) (wpOps P ops Q rest)):St B Γ H nl (wpOps P ops Q (i :: rest)):=by
 rintro a w ⟨B',β,F,hx,hβ,hf⟩
 rw [wpOps_cons];unfold wpOp
 simp only [ho,hw.wanted hf,if_true]
 exact .inl (h B' hx.n β F a w hβ hf _ _ fun s hs a' w' β' F' B'' hx' hβ' _ _ hf'=>k s hs a' w' ⟨B'',β',F',hx.trans hx',hβ',hf'⟩)
theorem U.eff1 {m:EM} (h:Eff1 P B Γ H nl o Γ' H' nl' m) (ho:ops[i]?=some o) (hw:Xh ops Γ o true)
  (k:St B Γ' H' nl' (wpOps P ops Q rest)):St B Γ H nl (wpOps P ops Q (i :: rest)):=U.eff h ho hw fun _ _=>k
theorem U.skip {d:Nat} (ho:ops[i]?=some o) (hw:Xh ops Γ o false) (hd:o.dst=some d) (hlt:d.blt B.n=true)
  (k:St B ((d,.v undef) :: Γ) H nl (wpOps P ops Q rest)):St B Γ H nl (wpOps P ops Q (i :: rest)):=by
 rintro a w ⟨B',β,F,hx,hβ,hf⟩
 rw [wpOps_cons];unfold wpOp
 simp only [ho,hw.wanted hf,Bool.false_eq_true,if_false]
 rw [hd]
 exact k _ _ ⟨B',β,F,hx,hβ,hf.put (Q0h hx hlt) (.ro (.v _))⟩
theorem U.skip' (ho:ops[i]?=some o) (hw:Xh ops Γ o false) (hd:o.dst=none)
  (k:St B Γ H nl (wpOps P ops Q rest)):St B Γ H nl (wpOps P ops Q (i :: rest)):=by
 rintro a w ⟨B',β,F,hx,hβ,hf⟩
 rw [wpOps_cons];unfold wpOp
 simp only [ho,hw.wanted hf,Bool.false_eq_true,if_false]
 exact k _ _ ⟨B',β,F,hx,hβ,hf.put' _ hd⟩
theorem U.done (k:St B Γ H nl (Q .normal)):St B Γ H nl (wpOps P ops Q []):=k
theorem U.start {id:Nat} (k:St B Γ H nl (wpOps P ops Q (List.range ops.size))):St B Γ H nl ((Code.region id ops false).wp P Q):=fun a w hf=>wp_region (k a w hf)
end
/-! ## in whatever order -/
def Qz (P:Program) (ops:Array Oper) (Q:Exit→Act→World→Prop) (S:World→Prop) (z:Nat):Nat→Array Bool→Act→World→Prop
 | 0,listed,a,w=>Region.ready .any ops listed=[]∧Q .normal a w
 | fuel+1,listed,a,w=>
  (Region.ready .any ops listed=[]→Q .normal a w) ∧
  ∀i∈Region.ready .any ops listed,wpOp P ops Q i (fun a' w'=>(i≠z→listed.getD z false=false→S w')∧Qz P ops Q S z fuel (listed.setIfInBounds i true) a' w') a w
theorem Q11 {ops:Array Oper} {Q:Exit→Act→World→Prop} {S:World→Prop} {z:Nat}:∀(fuel:Nat) (listed:Array Bool) (a:Act) (w:World),Qz P ops Q S z fuel listed a w→wpAny P .any ops Q fuel listed a w
 | 0,_,_,_,h=>h
 | fuel+1,_,_,_,h=>⟨h.1,fun i hi=>wpOp_mono (fun a' w' h'=>Q11 fuel _ a' w' h'.2) (h.2 i hi)⟩
def Q3o (ops:Array Oper) (z i:Nat):Bool:=
 match ops[z]? with
 | some oz=>oz.after.any fun e=>Region.binds .any e&&e.on == i
 | none=>true
def WR (ops:Array Oper) (listed:Array Bool):Nat→List Nat→Nat→Bool
 | z,[],i=>Q3o ops z i&&!(listed.getD z false)
 | z,m :: r,i=>Q3o ops z m&&!(listed.getD z false)&&!(listed.getD m true)&&WR ops listed m r i
theorem Q0o {ops:Array Oper} {listed:Array Bool} {z i:Nat} (hw:Q3o ops z i=true) (hi:listed.getD i true=false):¬z∈Region.ready .any ops listed:=fun hz=>by
 obtain⟨_,oz,hoz,hall⟩:=mem_ready.1 hz
 simp only [Q3o,hoz] at hw
 obtain⟨e,he,hb⟩:=Array.any_eq_true'.1 hw
 simp only [Bool.and_eq_true,beq_iff_eq] at hb
 have h1:=hall e he hb.1
 rw [hb.2] at h1
 rcases Nat.lt_or_ge i listed.size with h' | h'
 ·simp [h'] at hi h1;rw [hi] at h1;cases h1
 ·simp [Array.getElem?_eq_none h'] at h1
theorem Q19 {ops:Array Oper} {listed:Array Bool} {i:Nat} (hi:listed.getD i true=false):∀(ch:List Nat) (z:Nat),WR ops listed z ch i=true →
  (¬z∈Region.ready .any ops listed)∧listed.getD z false=false∧∀j,j∈Region.ready .any ops listed→j≠i→WR ops (listed.setIfInBounds j true) z ch i=true
 | [],z,h=>by
  simp only [WR,Bool.and_eq_true,Bool.not_eq_true'] at h
  have hz:=Q0o h.1 hi
  refine⟨hz,h.2,fun j hj _=>?_⟩
  simp only [WR,Bool.and_eq_true,Bool.not_eq_true']
  exact⟨h.1,by rw [getD_set_ne false (show j≠z from fun e=>hz (e▸hj))];exact h.2⟩
 | m :: r,z,h=>by
  simp only [WR,Bool.and_eq_true,Bool.not_eq_true'] at h
  obtain⟨h1,_,h2⟩:=Q19 hi r m h.2
  have hz:=Q0o h.1.1.1 h.1.2
  refine⟨hz,h.1.1.2,fun j hj hji=>?_⟩
  have hjm:j≠m:=fun e=>h1 (e▸hj)
  simp only [WR,Bool.and_eq_true,Bool.not_eq_true']
  exact⟨⟨⟨h.1.1.1,by rw [getD_set_ne false (show j≠z from fun e=>hz (e▸hj))];exact h.1.1.2⟩,by rw [getD_set_ne true hjm];exact h.1.2⟩,h2 j hj hji⟩
theorem ZF {ops:Array Oper} {Q:Exit→Act→World→Prop} {S:World→Prop} {z i:Nat} {oi:Oper} {v:Value} (hi:ops[i]?=some oi) (hsel:Region.noSelect ops=true)
  (hQ:∀c a w,Q (.panic c) (a.put oi.dst v) w→Q (.panic c) a w) (ch:List Nat):
  ∀(fuel:Nat) (listed:Array Bool) (a:Act) (w:World),WR ops listed z ch i=true →
   (∀j oj,ops[j]?=some oj→j≠i→listed.getD j true=false→(∀e∈oj.after,Region.binds .any e=true→e.on≠i)→oi.apart ops oj=true) →
   i∈Region.ready .any ops listed→YieldsIf P ops S oi v a→S w →
   Qz P ops Q S z fuel (listed.setIfInBounds i true) (a.put oi.dst v) w→Qz P ops Q S z (fuel+1) listed a w:=by
 have sel:=Region.noSelect_spec hsel
 intro fuel
 induction fuel with
 | zero=>
  intro listed a w _ _ hr hy hS HK
  refine⟨fun h0=>absurd (h0▸hr) (by simp),fun j hj=>?_⟩
  by_cases hji:j=i
  ·subst hji;exact hy.wpOp hi hS ⟨fun _ _=>hS,HK⟩
  ·have hr2:=ready_mono hj hji
   rw [HK.1] at hr2;cases hr2
 | succ fuel ih=>
  intro listed a w hz hfree hr hy hS HK
  refine⟨fun h0=>absurd (h0▸hr) (by simp),fun j hj=>?_⟩
  by_cases hji:j=i
  ·subst hji;exact hy.wpOp hi hS ⟨fun _ _=>hS,HK⟩
  ·have step:=HK.2 j (ready_mono hj hji)
   obtain⟨hun,oj,hoj,hall⟩:=mem_ready.1 hj
   have hno:∀e∈oj.after,Region.binds .any e=true→e.on≠i:=fun e he hb heq=>by
    have h1:=hall e he hb
    have h0:=(mem_ready.1 hr).1
    rw [heq] at h1
    rcases Nat.lt_or_ge i listed.size with h' | h'
    ·simp [h'] at h0 h1;rw [h0] at h1;cases h1
    ·simp [Array.getElem?_eq_none h'] at h1
   have hsp:=Q19 (mem_ready.1 hr).1 ch z hz
   have hjz:j≠z:=fun e=>hsp.1 (e▸hj)
   have moved:=wpOp_putIf hoj (hfree j oj hoj hji hun hno) (fun cs b=>sel i oi cs b hi) (fun cs b=>sel j oj cs b hoj) hQ hy step
   refine wpOp_mono (fun a' w' h3=>?_) moved
   have hiz:i≠z:=fun e=>hsp.1 (e▸hr)
   have hS':=h3.2.1 hjz (by rw [getD_set_ne false hiz];exact hsp.2.1)
   have hfree':∀k ok,ops[k]?=some ok→k≠i→(listed.setIfInBounds j true).getD k true=false →
     (∀e∈ok.after,Region.binds .any e=true→e.on≠i)→oi.apart ops ok=true:=fun k ok hk hki hun' hno'=>by
    refine hfree k ok hk hki ?_ hno'
    by_cases hjk:j=k
    ·subst hjk;exact hun
    ·rwa [getD_set_ne true hjk] at hun'
   refine⟨fun _ _=>hS',ih (listed.setIfInBounds j true) a' w' (hsp.2.2 j hj hji) hfree' (ready_mono hr (Ne.symm hji)) h3.1 hS' ?_⟩
   rw [Array.setIfInBounds_comm _ _ hji]
   exact h3.2.2
def Q6n (B:Base) (ws:World) (M':Nat→Prop) (Lp Ms:List Nat) (g:Bool) (Γ:Env) (H:Heap) (nl:Nat) (a:Act) (w:World):Prop:=
 ∃(B':Base) (β:List Value) (F:Nat→Prop),B.Ext B'∧β.length=nl∧KH B' β F Γ H a w∧Kp ws M' w ∧
  (∀b,Mod β Lp b→b<ws.heap.size∧¬M' b)∧(g=false→∀b,B'.ok b→b<ws.heap.size∧¬M' b)∧(∀b,Mod β Ms b→b<ws.heap.size→M' b)∧(∀l,l∈Lp→l<nl)
def StD (B:Base) (ws:World) (M':Nat→Prop) (Lp Ms:List Nat) (g:Bool) (Γ:Env) (H:Heap) (nl:Nat) (X:Act→World→Prop):Prop:=∀a w,Q6n B ws M' Lp Ms g Γ H nl a w→X a w
theorem Mod.sub {β:List Value} {ms ms':List Nat} {b:Nat} (h:Mod β ms b) (hs:∀l,l∈ms→l∈ms'):Mod β ms' b:=by
 obtain⟨l,hl,r⟩:=h;exact⟨l,hs l hl,r⟩
section
variable {ops:Array Oper} {Q:Exit→Act→World→Prop} {i z:Nat} {o:Oper} {ws:World} {M':Nat→Prop} {Lp Ms:List Nat} {g:Bool} {fuel:Nat} {listed listed':Array Bool}
def rdOk (g:Bool) (Lp:List Nat):Option (List Nat)→Bool
 | none=>true
 | some rl=>!g&&rl.all fun l=>Lp.contains l
def NoPanicQ (Q:Exit→Act→World→Prop):Prop:=∀c a w d v,Q (.panic c) (Act.put a d v) w→Q (.panic c) a w
theorem D.rd {A:AVal} {rl:Option (List Nat)} {d:Nat} (hQ:NoPanicQ Q) (h:Rd P B Γ H nl o A rl) (ho:ops[i]?=some o) (hw:Xh ops Γ o true) (hd:o.dst=some d) (hlt:d.blt B.n=true)
  (hrl:rdOk g Lp rl=true) (hs:Region.noSelect ops=true) (hf:Region.free .any ops listed i=true) (hr:(Region.ready .any ops listed).contains i=true) {ch:List Nat} (hz:WR ops listed z ch i=true)
  (hl':listed.setIfInBounds i true=listed')
  (k:StD B ws M' Lp Ms g ((d,A) :: Γ) H nl (Qz P ops Q (Kp ws M') z fuel listed')):StD B ws M' Lp Ms g Γ H nl (Qz P ops Q (Kp ws M') z (fuel+1) listed):=by
 rintro a w ⟨B',β,F,hx,hβ,hfb,hkp,hLp,hok,hMs,hlp⟩
 obtain⟨v,hv,hrun⟩:=h B' hx.n β F a w hβ hfb
 subst hl'
 refine ZF (v:=v) ho hs (fun c a w=>hQ c a w _ _) ch fuel listed a w hz (Region.free_spec ho hf) (by simpa using hr) (.inl ⟨hw.wanted hfb,fun w' hw'=>hrun w' ?_⟩) hkp ?_
 ·cases rl with
  | none=>trivial
  | some rl=>
   simp only [rdOk,Bool.and_eq_true,Bool.not_eq_true',List.all_eq_true] at hrl
   refine⟨fun b hb=>?_,fun b hb=>?_⟩
   ·have:=hok hrl.1 b hb
    rw [hw'.block b this.1 this.2,hkp.block b this.1 this.2]
   ·have:=hLp b (hb.sub (fun l hl=>by simpa using hrl.2 l hl))
    rw [hw'.block b this.1 this.2,hkp.block b this.1 this.2]
 ·rw [hd]
  exact k _ _ ⟨B',β,F,hx,hβ,hfb.put (Q0h hx hlt) hv,hkp,hLp,hok,hMs,hlp⟩
theorem D.skip {d:Nat} (hQ:NoPanicQ Q) (ho:ops[i]?=some o) (hw:Xh ops Γ o false) (hd:o.dst=some d) (hlt:d.blt B.n=true)
  (hs:Region.noSelect ops=true) (hf:Region.free .any ops listed i=true) (hr:(Region.ready .any ops listed).contains i=true) {ch:List Nat} (hz:WR ops listed z ch i=true)
  (hl':listed.setIfInBounds i true=listed')
  (k:StD B ws M' Lp Ms g ((d,.v undef) :: Γ) H nl (Qz P ops Q (Kp ws M') z fuel listed')):StD B ws M' Lp Ms g Γ H nl (Qz P ops Q (Kp ws M') z (fuel+1) listed):=by
 rintro a w ⟨B',β,F,hx,hβ,hfb,hkp,hLp,hok,hMs,hlp⟩
 subst hl'
 refine ZF (v:=undef) ho hs (fun c a w=>hQ c a w _ _) ch fuel listed a w hz (Region.free_spec ho hf) (by simpa using hr) (.inr ⟨hw.wanted hfb,rfl⟩) hkp ?_
 rw [hd]
 exact k _ _ ⟨B',β,F,hx,hβ,hfb.put (Q0h hx hlt) (.ro (.v _)),hkp,hLp,hok,hMs,hlp⟩
theorem D.effF {ms:List Nat} {gr g':Bool} (h:Eff P B Γ H nl o S Γs Hs nls (.fx ms gr)) (ho:ops[i]?=some o) (hw:Xh ops Γ o true) (hiz:i.beq z=false) (hms:∀l,l∈ms→l∈Ms) (hg:(g||gr)=g')
  (k:∀s,S s→StD B ws M' Lp Ms g' (Γs s) (Hs s) (nls s) (Qz P ops Q (Kp ws M') z fuel (listed.setIfInBounds i true))):StD B ws M' Lp Ms g Γ H nl (fun a w=>wpOp P ops Q i (fun a' w'=>(i≠z→listed.getD z false=false→Kp ws M' w')∧Qz P ops Q (Kp ws M') z fuel (listed.setIfInBounds i true) a' w') a w):=by
 rintro a w ⟨B',β,F,hx,hβ,hfb,hkp,hLp,hok,hMs,hlp⟩
 have hiz':i≠z:=fun e=>by subst e;rw [Nat.beq_refl] at hiz;cases hiz
 unfold wpOp
 simp only [ho,hw.wanted hfb,if_true]
 refine .inl (h B' hx.n β F a w hβ hfb _ _ fun s hs a' w' β' F' B'' hx' hβ' hpre hD hf'=>?_)
 obtain⟨hnew,hk',hgr⟩:=hD
 have hkp':Kp ws M' w':=hkp.trans hk' (fun x hx hlt=>hMs x (hx.sub hms) hlt)
 have same:∀(l:Nat) (x:Value),l<nl→β'[l]?=some x→β[l]?=some x:=fun l x hlt hx=>by
  rw [←hβ] at hlt
  have:=hpre l _ (List.getElem?_eq_getElem hlt)
  rw [this] at hx;rw [List.getElem?_eq_getElem hlt];exact hx
 refine⟨fun _ _=>hkp',k s hs _ _ ⟨B'',β',F',hx.trans hx',hβ',hf',hkp',fun b hb=>?_,fun hg0 b hb=>?_,fun b hb hlt=>?_,fun l hl=>?_⟩⟩
 ·obtain⟨l,hl,x,hx,hh⟩:=hb
  exact hLp b ⟨l,hl,x,same l x (hlp l hl) hx,hh⟩
 ·rw [hg0] at hg
  simp only [Bool.or_eq_false_iff] at hg
  exact hok hg.1 b (hgr hg.2 b hb)
 ·obtain⟨l,hl,x,hx,hh⟩:=hb
  rcases Nat.lt_or_ge l nl with h1 | h1
  ·exact hMs b ⟨l,hl,x,same l x h1 hx,hh⟩ hlt
  ·rcases hnew l x b h1 hx hh with h2 | h2
   ·exact absurd hlt (by have:=hkp.size;omega)
   ·exact hMs b (h2.sub hms) hlt
 ·have:=hlp l hl
  rcases Nat.lt_or_ge l β'.length with h1 | h1
  ·omega
  ·have hlt:l<β.length:=by omega
   have:=hpre l _ (List.getElem?_eq_getElem hlt)
   rw [List.getElem?_eq_none h1] at this;cases this
theorem D.eff {ms:List Nat} {gr g':Bool} (h:Eff P B Γ H nl o S Γs Hs nls (.fx ms gr)) (ho:ops[i]?=some o) (hw:Xh ops Γ o true) (hr:Region.ready .any ops listed=[i]) (hiz:i.beq z=false) (hms:∀l,l∈ms→l∈Ms) (hg:(g||gr)=g')
  (hl':listed.setIfInBounds i true=listed')
  (k:∀s,S s→StD B ws M' Lp Ms g' (Γs s) (Hs s) (nls s) (Qz P ops Q (Kp ws M') z fuel listed')):StD B ws M' Lp Ms g Γ H nl (Qz P ops Q (Kp ws M') z (fuel+1) listed):=by
 subst hl'
 intro a w hf
 refine⟨fun h0=>absurd (h0▸hr) (by simp),fun j hj=>?_⟩
 rw [hr,List.mem_singleton] at hj;subst hj
 exact D.effF h ho hw hiz hms hg k a w hf
theorem D.last {m:EM} (h:Eff P B Γ H nl o S Γs Hs nls m) (ho:ops[z]?=some o) (hw:Xh ops Γ o true) (hr:Region.ready .any ops listed=[z]) (hr':Region.ready .any ops (listed.setIfInBounds z true)=[])
  (k:∀s,S s→St B (Γs s) (Hs s) (nls s) (Q .normal)):StD B ws M' Lp Ms g Γ H nl (Qz P ops Q (Kp ws M') z (fuel+1) listed):=by
 rintro a w ⟨B',β,F,hx,hβ,hfb,hkp,hLp,hok,hMs,hlp⟩
 refine⟨fun h0=>absurd (h0▸hr) (by simp),fun j hj=>?_⟩
 rw [hr,List.mem_singleton] at hj;subst hj
 unfold wpOp
 simp only [ho,hw.wanted hfb,if_true]
 refine .inl (h B' hx.n β F a w hβ hfb _ _ fun s hs a' w' β' F' B'' hx' hβ' _ _ hf'=>⟨fun h _=>absurd rfl h,?_⟩)
 have hq:=k s hs a' w' ⟨B'',β',F',hx.trans hx',hβ',hf'⟩
 cases fuel with
 | zero=>exact⟨hr',hq⟩
 | succ f=>exact⟨fun _=>hq,by rw [hr'];simp⟩
theorem D.done (hr:Region.ready .any ops listed=[]) (k:St B Γ H nl (Q .normal)):StD B ws M' Lp Ms g Γ H nl (Qz P ops Q (Kp ws M') z fuel listed):=by
 rintro a w ⟨B',β,F,hx,hβ,hfb,_⟩
 have hq:=k a w ⟨B',β,F,hx,hβ,hfb⟩
 cases fuel with
 | zero=>exact⟨hr,hq⟩
 | succ f=>exact⟨fun _=>hq,by rw [hr];simp⟩
def Res.ownd:Res→Bool
 | .box _ | .val (.os _ _ _) | .val (.arr _ _ _) | .val (.om _ _ _) | .lent _ _ _ | .lentm _ _ _ _ | .rng _ _ _ _ _ | .itn | .rngm _ _ _ _=>true
 | _=>false
theorem Xb.block {w0 w:World} {ok:Nat→Prop} {β:List Value} {l:Nat} {F:Nat→Prop} {R:Res} (h:Xb w0 ok β w l F R) {x:Value} {b:Nat} (hx:β[l]?=some x) (hb:hdr x=some b)
  (hR:R.ownd=true):F b:=by
 cases R with
 | box cells=>
  obtain⟨b',c,T,hl,hw,hs,hd,hF⟩:=h
  rw [hl] at hx;cases hx;cases hb;exact hF
 | val A=>
  obtain⟨y,hy,ho⟩:=h
  rw [hy] at hx;cases hx
  cases ho with
  | ro F h=>cases h <;> cases hR
  | osNil n enc F p=>cases p <;> cases hb
  | os n enc xs b' off cap c T F G hbF=>
   cases cap with
   | zero=>cases hb
   | succ cap=>cases hb;exact hbF
  | arr n enc xs b' c T F hbF=>cases hb;exact hbF
  | om ke ve xs b' es clock F G hbF=>cases hb;exact hbF
 | lent enc xs L=>
  obtain⟨b',off,cap,c,T,G,hl,hw,hF,_⟩:=h
  rw [hl] at hx;cases hx
  cases cap with
  | zero=>cases hb
  | succ cap=>cases hb;exact hF
 | lentm ke ve xs L=>
  obtain⟨b',es,clock,G,hl,hw,hF,_⟩:=h
  rw [hl] at hx;cases hx;cases hb;exact hF
 | rng ke ve xs seen li=>
  obtain⟨b',bi,es,clock,sa,G,hl,hli,hne,hF,_⟩:=h
  rw [hl] at hx;cases hx;cases hb;exact hF
 | itn=>
  obtain⟨b',hl,hw,hF⟩:=h
  rw [hl] at hx;cases hx;cases hb;exact hF
 | rngm=>
  obtain⟨b',O,hl,hw,hF,_⟩:=h
  rw [hl] at hx;cases hx;cases hb;exact hF
 | abs Φ=>cases hR
theorem HOk.apart {w0 w:World} {ok:Nat→Prop} {β:List Value}:∀{H:Heap} {F:Nat→Prop},HOk w0 ok β w H F→∀{l l':Nat} {R R':Res},l≠l'→find H l=some R→find H l'=some R' →
  ∃F1 F2,(∀b,F1 b→F b)∧(∀b,F2 b→F b)∧(∀b,F1 b→F2 b→False)∧Xb w0 ok β w l F1 R∧Xb w0 ok β w l' F2 R'
 | [],_,_,_,_,_,_,_,h,_=>by simp [find] at h
 | (k,S) :: H,F,⟨F1,F2,h1,h2,h12,hR,hH⟩,l,l',R,R',hne,hl,hl'=>by
  rw [find_cons] at hl hl'
  split at hl
  ·rename_i e;subst e;cases hl
   rw [if_neg hne] at hl'
   obtain⟨F3,h3,hR3⟩:=hH.get hl'
   exact⟨F1,F3,h1,fun b hb=>h2 b (h3 b hb),fun b hb hb'=>h12 b hb (h3 b hb'),hR,hR3⟩
  ·split at hl'
   ·rename_i e;subst e;cases hl'
    obtain⟨F3,h3,hR3⟩:=hH.get hl
    exact⟨F3,F1,fun b hb=>h2 b (h3 b hb),h1,fun b hb hb'=>h12 b hb' (h3 b hb),hR3,hR⟩
   ·obtain⟨G1,G2,g1,g2,g12,r1,r2⟩:=hH.apart hne hl hl'
    exact⟨G1,G2,fun b hb=>h2 b (g1 b hb),fun b hb=>h2 b (g2 b hb),g12,r1,r2⟩
theorem D.start {id:Nat} (z:Nat) (Lp Ms:List Nat) (hm:P.follows .mixedOrders=true)
  (hLp:Lp.all (fun l=>match find H l with | some R=>R.ownd | none=>false)=true) (hMs:Ms.all (fun l=>(match find H l with | some R=>R.ownd | none=>nl.ble l)&&!Lp.contains l)=true)
  (k:∀ws M',StD B ws M' Lp Ms false Γ H nl (Qz P ops Q (Kp ws M') z ops.size (Array.replicate ops.size false))):St B Γ H nl ((Code.region id ops true).wp P Q):=by
 rintro a w ⟨B',β,F,hx,hβ,hf⟩
 refine wp_region_any hm (Q11 (S:=Kp {w with drawn:=w.drawn+1} (Mod β Ms)) (z:=z) _ _ _ _ (k {w with drawn:=w.drawn+1} (Mod β Ms) a _ ⟨B',β,F,hx,hβ,?_,.refl _ _,fun b hb=>?_,fun _ b hb=>?_,fun b hb _=>hb,fun l hl=>?_⟩))
 ·have hk:Kp w B'.M {w with drawn:=w.drawn+1}:=Kp.drew w B'.M _
  exact⟨hf.kp.trans hk (fun _ h _=>h),hf.ok,hf.own,hf.heap.later (fun _ _ _=>rfl),hf.env,hf.size,hf.defers,hf.pre⟩
 ·obtain⟨l,hl,x,hx,hh⟩:=hb
  have h1:=List.all_eq_true.1 hLp l hl
  cases hfl:find H l with
  | none=>simp [hfl] at h1
  | some R=>
   simp only [hfl] at h1
   obtain⟨F1,hF1,hr⟩:=hf.heap.get hfl
   refine⟨(hf.own b (hF1 b (hr.block hx hh h1))).1,fun hm'=>?_⟩
   obtain⟨l',hl',x',hx',hh'⟩:=hm'
   have h2:=List.all_eq_true.1 hMs l' hl'
   simp only [Bool.and_eq_true,Bool.not_eq_true'] at h2
   have hne:l≠l':=fun e=>by subst e;simp [hl] at h2
   cases hfl':find H l' with
   | none=>
    simp only [hfl'] at h2
    have:=Nat.le_of_ble_eq_true h2.1
    rw [List.getElem?_eq_none (by omega)] at hx';cases hx'
   | some R'=>
    simp only [hfl'] at h2
    obtain⟨G1,G2,_,_,g12,r1,r2⟩:=hf.heap.apart hne hfl hfl'
    exact g12 b (r1.block hx hh h1) (r2.block hx' hh' h2.1)
 ·have:=hf.ok b hb
  refine⟨Nat.lt_of_lt_of_le this.1 hf.kp.size,fun hm'=>?_⟩
  obtain⟨l',hl',x',hx',hh'⟩:=hm'
  have h2:=List.all_eq_true.1 hMs l' hl'
  simp only [Bool.and_eq_true] at h2
  cases hfl':find H l' with
  | none=>
   simp only [hfl'] at h2
   have:=Nat.le_of_ble_eq_true h2.1
   rw [List.getElem?_eq_none (by omega)] at hx';cases hx'
  | some R'=>
   simp only [hfl'] at h2
   obtain⟨F1,hF1,hr⟩:=hf.heap.get hfl'
   exact this.2 ((hf.own b (hF1 b (hr.block hx' hh' h2.1))).2 this.1)
 ·have h1:=List.all_eq_true.1 hLp l hl
  cases hfl:find H l with
  | none=>simp [hfl] at h1
  | some R=>
   simp only [hfl] at h1
   obtain⟨F1,hF1,hr⟩:=hf.heap.get hfl
   have:∃x,β[l]?=some x:=by
    cases R with
    | box=>obtain⟨b,c,T,h,_⟩:=hr;exact⟨_,h⟩
    | val A=>obtain⟨x,h,_⟩:=hr;exact⟨x,h⟩
    | lent=>obtain⟨b,off,cap,c,T,G,h,_⟩:=hr;exact⟨_,h⟩
    | lentm=>obtain⟨b,es,clock,G,h,_⟩:=hr;exact⟨_,h⟩
    | rng=>obtain⟨b,bi,es,clock,sa,G,h,_⟩:=hr;exact⟨_,h⟩
    | itn=>obtain⟨b,h,_⟩:=hr;exact⟨_,h⟩
    | rngm=>obtain⟨b,O,h,_⟩:=hr;exact⟨_,h⟩
    | abs Φ=>exact hr.1
   obtain⟨x,hx⟩:=this
   rw [←hβ]
   exact (List.getElem?_eq_some_iff.1 hx).1
end
end
end Go.Taq
