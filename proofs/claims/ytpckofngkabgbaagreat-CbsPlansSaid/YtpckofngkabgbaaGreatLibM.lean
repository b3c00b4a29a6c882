/- The library of the generated walks, part M: append to nil, tests of slices against nil, an empty part of a slice, arrays in memory. -/
import Derived.Test.YtpckofngkabgbaaGreatLibL
import Derived.WalkSpells
set_option linter.unusedVariables false
namespace Go.Taq
open Go
section
variable {P:Program} {B:Base} {tb:Tab} {Γ:Env} {H:Heap} {nl:Nat} {o:Oper}
theorem KH.label {β:List Value} {F:Nat→Prop} {a:Act} {w:World} (h:KH B β F Γ H a w) (v:Value) (R:Res) (hR:Xb B.w0 B.ok (β++[v]) w β.length (fun _=>False) R):
  KH B (β++[v]) F Γ ((β.length,R) :: H) a w:=
 ⟨h.kp,h.ok,h.own,⟨fun _=>False,F,fun _ h=>h.elim,fun _ h=>h,fun _ h=>h.elim,hR,h.heap.snoc v⟩,fun t A hA=>(h.env t A hA).snoc v,h.size,h.defers,fun l x hl hx=>Q8 (h.pre l x hl hx)⟩
theorem Eff1.of_label {v:Value} {R:Res} {d:Nat} (hd:o.dst=some d) (hlt:d.blt B.n=true) (h1:v.oneCell'=true) (hh:hdr v=none)
  (h:∀B':Base,B'.n=B.n→∀β F a w,β.length=nl→KH B' β F Γ H a w→(execOp a.eval o).run P w=.ok (.value v) w∧Xb B'.w0 B'.ok (β++[v]) w β.length (fun _=>False) R):
  Eff1 P B Γ H nl o ((d,.o nl) :: Γ) ((nl,R) :: H) (nl+1) (.fx [] false):=Eff1.of_value fun B' hB β F a w hβ hf=>by
 rw [←hB] at hlt
 obtain⟨hrun,hR⟩:=h B' hB β F a w hβ hf
 subst hβ
 refine⟨v,w,β++[v],F,hrun,by simp,fun l x h=>Q8 h,fun l x b hl hx hb=>?_,?_,.refl _ _⟩
 ·have:=GK rfl hl hx;subst this;rw [hh] at hb;cases hb
 ·rw [hd];exact (hf.label v R hR).put hlt (.o _ _ (by simp) h1)
theorem Eff1.apn (htb:QI P tb) {α:Type} {t:TypeId} {s x:Operand} {n:Nat} {enc:α→List AVal} {ys:List α} {d:Nat} {e n' by_:Nat} {zc:List Value} {e':TE} {X:AVal}
  (ho:o.op=.call ⟨.builtin .append,#[s,x],#[t,t]⟩) (hd:o.dst=some d) (hlt:d.blt B.n=true) (hs:ev Γ s=some (.v (.slice none 0 0))) (hx:ev Γ x=some X)
  (hX:X=.sl n enc ys∨∃l2,X=.o l2∧find H l2=some (.val (.os n enc ys))) (ht:find tb t=some ⟨.sl e,n',by_,zc⟩) (he:find tb e=some e') (hn:e'.n=n) (hflat:∀x,(enc x).all WX=true) (hby:e'.bytes.ble 128=true) (hen:∀x,(enc x).length=n)
  (hlen:ys.length≤1099511627776):
  Eff1 P B Γ H nl o ((d,.o nl) :: Γ) ((nl,.val (.os n enc ys)) :: H) (nl+1) (.fx [] false):=by
 obtain⟨dst,op,ty,pos,af,g⟩:=o
 simp only at ho hd;subst ho;subst hd;subst hn
 have hfro:∀x A,A∈enc x→A.isRo=true:=fun x A h=>Y1 (List.all_eq_true.1 (hflat x) A h)
 obtain⟨dd,hdd,rfl⟩:=htb.und ht
 obtain⟨zv,hzv,hzc,_,hzl,_⟩:=htb.zero he
 obtain⟨_,inf,z2,hinf,hsize,hbytes,hzero,hrest⟩:=htb _ _ he
 have hby':=Nat.le_of_ble_eq_true hby
 have hsrc:∀(B:Base) (β:List Value) (F:Nat→Prop) (a:Act) (w:World),KH B β F Γ H a w→Src B.w0 B.ok w e'.n enc ys (a.eval x):=fun B β F a w hf=>by
  have hok:∀b,B.ok b→w.heap[b]?=B.w0.heap[b]?:=fun b hb=>by have:=hf.ok b hb;exact hf.kp.block b this.1 this.2
  rcases hX with rfl | ⟨l2,rfl,h2⟩
  ·exact Src.ro (Q5 hf.env hx).sl_inv hok
  ·obtain⟨F2,_,y,hy,ho2⟩:=hf.heap.get h2
   have:=(Q5 (a:=a) hf.env hx).o_inv
   rw [hy] at this;cases this
   exact Src.own (ho2.flat_of hfro)
 have hexec:∀(a:Act) (w w':World) (q:Option Addr) (c2 m:Nat) (r:Value),a.eval s=.slice none 0 0→a.eval x=.slice q m c2→(Builtin.append_ #[t,t] ty #[.slice none 0 0,.slice q m c2]).run P w=.ok r w'→(execOp a.eval ⟨some d,.call ⟨.builtin .append,#[s,x],#[t,t]⟩,ty,pos,af,g⟩).run P w=.ok (.value r) w':=fun a w w' q c2 m r h1 h2 h=>by
  simp [execOp,resolve,invoke,builtin,h1,h2,h]
 by_cases hy0:ys=[]
 ·subst hy0
  refine Eff1.of_label (v:=.slice none 0 0) rfl hlt rfl rfl fun B' hB β F a w hβ hf=>?_
  obtain⟨q,c2,news,hxv,hnl,hyn,hq,hnr⟩:=(hsrc B' β F a w hf).h
  have hn0:news=[]:=List.eq_nil_of_length_eq_zero (by rw [hnl];simp)
  subst hn0
  have hsv:=(Q5 (a:=a) hf.env hs).v_inv
  have hf1:(Builtin.firstCells e'.n 0 (.slice q 0 c2)).run P w=.ok (#[]:Array Value) w:=Q0w (ys:=([]:List α)) (news:=[]) hnl (fun h=>absurd rfl h)
  have:=WC (ty:=ty) (p:=none) (n:=0) (cap:=0) (w':=w) hdd hinf (Nat.le_refl 0) (news:=[]) (by rw [hsize];exact hf1) (by rfl)
  exact⟨hexec a w w q c2 0 _ hsv hxv this,_,by simp,.osNil _ _ _ none⟩
 ·refine Eff1.row rfl hlt (fun y _=>hen y) fun B' hB β F a w hβ hf=>?_
  obtain⟨q,c2,news,hxv,hnl,hyn,hq,hnr⟩:=(hsrc B' β F a w hf).h
  have hsv:=(Q5 (a:=a) hf.env hs).v_inv
  obtain⟨ad,hqa,hqn⟩:=hq hy0
  have hpos:0<ys.length:=List.length_pos_iff.2 hy0
  obtain⟨cap',hcap',hrun⟩:=YO (P:=P) (ty:=ty) hdd hinf hzero (w:=w) (p:=none) (q:=q) (n:=0) (m:=ys.length) (cap:=0) (c2:=c2) (olds:=[]) (news:=news) (by omega) (by simp) (fun _ h=>by cases h) (fun _=>⟨rfl,rfl⟩) hqa (by rw [hnl,hsize]) hqn (by rw [hbytes];exact hby') (by omega)
  have hz2:z2.cells.size=e'.n:=by
   have:z2.cells.toList=e'.zc:=hrest.1
   rw [←hzl,←this];simp
  simp only [Nat.zero_add] at hrun hcap'
  refine⟨_,_,cap',w.drawn+1,hexec a w _ q c2 _ _ hsv hxv hrun,Nat.le_succ _,hcap',?_,fun i j x A hx hA=>?_⟩
  ·simp only [Array.size_append,List.size_toArray,hnl,size_zeroCells,hz2,List.length_nil,Nat.zero_add,←Nat.add_mul]
   exact Nat.mul_le_mul_right _ (by omega)
  ·have:=hnr i j x A hx hA
   have hj:j<e'.n:=by rw [←hen x];exact (List.getElem?_eq_some_iff.1 hA).1
   have hi:=(List.getElem?_eq_some_iff.1 hx).1
   have hlt2:i*e'.n+j<ys.length*e'.n:=by
    have:(i+1)*e'.n≤ys.length*e'.n:=Nat.mul_le_mul_right _ hi
    rw [Nat.succ_mul] at this;omega
   have e3:(([]:List Value).toArray++news.toArray++Builtin.zeroCells z2.cells (cap'-ys.length)).getD (i*e'.n+j) undef=news.getD (i*e'.n+j) undef:=by
    rw [Array.getD_eq_getD_getElem?,List.getD_eq_getElem?_getD,Array.getElem?_append_left (by simp [hnl];omega)]
    simp
   rw [e3];exact this
/-! ## slices against nil -/
inductive IsSl (H:Heap):AVal→Prop→Prop where
 | sl {α:Type} {n:Nat} {enc:α→List AVal} {xs:List α}:IsSl H (.sl n enc xs) (xs=[])
 | o {α:Type} {l n:Nat} {enc:α→List AVal} {xs:List α} (h:find H l=some (.val (.os n enc xs))):IsSl H (.o l) (xs=[])
theorem IsSl.value {A:AVal} {Z:Prop} (h:IsSl H A Z) {β:List Value} {F:Nat→Prop} {a:Act} {w:World} (hf:KH B β F Γ H a w) {x:Value} (hx:Dn B.w0 B.ok β A x):∃p n c,x=.slice p n c∧(p=none→Z):=by
 cases h with
 | sl=>
  cases hx with
  | ro h=>cases h with
   | slNil=>exact⟨_,_,_,rfl,fun _=>rfl⟩
   | sl=>exact⟨_,_,_,rfl,fun h=>by cases h⟩
 | o h=>
  obtain⟨F1,_,v,hv,hon⟩:=hf.heap.get h
  have:=hx.o_inv
  rw [hv] at this;cases this
  cases hon with
  | ro F h=>cases h
  | osNil=>exact⟨_,_,_,rfl,fun _=>rfl⟩
  | os=>exact⟨_,_,_,rfl,fun h=>by cases h⟩
theorem Eff.of_read {ι:Type 1} {S:ι→Prop} {A:ι→AVal} {d:Nat} (hd:o.dst=some d) (hlt:d.blt B.n=true)
  (h:∀B':Base,B'.n=B.n→∀β F a w,β.length=nl→KH B' β F Γ H a w→∃s v,S s∧(execOp a.eval o).run P w=.ok (.value v) w∧Dn B'.w0 B'.ok β (A s) v):
  Eff P B Γ H nl o S (fun s=>(d,A s) :: Γ) (fun _=>H) (fun _=>nl) (.fx [] false):=fun B' hB β F a w hβ hf next Q hn=>by
 rw [←hB] at hlt
 obtain⟨s,v,hs,hrun,hA⟩:=h B' hB β F a w hβ hf
 unfold Oper.wp
 rw [hrun]
 refine hn s hs _ _ β F B' (.refl _) hβ (fun _ _ h=>h) ⟨fun l x b hl hx _=>?_,.refl _ _,fun _ b hb=>hb⟩ (hd▸hf.put hlt hA)
 rw [List.getElem?_eq_none (by omega)] at hx;cases hx
theorem Eff.isnil (htb:QI P tb) {op:BinOp} {t t':TypeId} {x y:Operand} {X Y:AVal} {Z:Prop} {d e n' by_:Nat} {zc:List Value} (q:Bool) (hq:op=if q then .eql else .neq) (ho:o.op=.binOp op t x y t') (hd:o.dst=some d) (hlt:d.blt B.n=true)
  (hx:ev Γ x=some X) (hy:ev Γ y=some Y) (hc:(IsSl H X Z∧Y=.v (.slice none 0 0))∨(IsSl H Y Z∧X=.v (.slice none 0 0))) (ht:find tb t=some ⟨.sl e,n',by_,zc⟩):
  Eff (ι:=ULift Bool) P B Γ H nl o (fun b=>b.down=true→Z) (fun b=>(d,.v (.bool (b.down == q))) :: Γ) (fun _=>H) (fun _=>nl) (.fx [] false):=Eff.of_read hd hlt fun B' hB β F a w hβ hf=>by
 obtain⟨dst,op',ty,pos,af,g⟩:=o
 simp only at ho;subst ho
 obtain⟨dd,hdd,rfl⟩:=htb.und ht
 have key:∀p:Option Addr,∀v:Value,v=.bool (p.isNone == q)→(p=none→Z)→(execOp a.eval ⟨dst,.binOp op t x y t',ty,pos,af,g⟩).run P w=.ok (.value v) w →
   ∃(s:ULift Bool) (v:Value),(s.down=true→Z)∧(execOp a.eval ⟨dst,.binOp op t x y t',ty,pos,af,g⟩).run P w=.ok (.value v) w∧Dn B'.w0 B'.ok β (.v (.bool (s.down == q))) v:=fun p v hv hz hr=>
  ⟨⟨p.isNone⟩,v,fun h=>hz (by simpa using h),hr,by subst hv;exact .ro (.v _)⟩
 rcases hc with ⟨h1,rfl⟩ | ⟨h1,rfl⟩
 ·obtain⟨p,m,c,hv,hz⟩:=h1.value hf (Q5 (a:=a) hf.env hx)
  have hv2:=(Q5 (a:=a) hf.env hy).v_inv
  refine key p _ rfl hz ?_
  cases q with
  | true=>simp at hq;subst hq;simp [execOp,hv,hv2,eqGuard,Lib.run_eql_slice_nil w t e p m c 0 0 hdd]
  | false=>simp at hq;subst hq;simp [execOp,hv,hv2,eqGuard,Go.run_neq_slice_nil_any w t e p m c 0 0 hdd]
 ·obtain⟨p,m,c,hv,hz⟩:=h1.value hf (Q5 (a:=a) hf.env hy)
  have hv2:=(Q5 (a:=a) hf.env hx).v_inv
  refine key p _ rfl hz ?_
  cases q with
  | true=>simp at hq;subst hq;simp [execOp,hv,hv2,eqGuard,Go.run_eql_nil_slice w t e p m c 0 0 hdd]
  | false=>simp at hq;subst hq;simp [execOp,hv,hv2,eqGuard,Go.run_neq_nil_slice w t e p m c 0 0 hdd]
end
end Go.Taq
