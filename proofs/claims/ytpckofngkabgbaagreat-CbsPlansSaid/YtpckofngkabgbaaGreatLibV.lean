/- The library of the generated walks, part V: append of an element of the frame's own to a row of such elements. -/
import Derived.Test.YtpckofngkabgbaaGreatLibU
set_option linter.unusedVariables false
namespace Go.Taq
open Go
section
variable {P:Program} {B:Base} {tb:Tab} {Γ:Env} {H:Heap} {nl:Nat} {o:Oper} {X:Act→World→Prop}
theorem On.os_cells {w0 w:World} {ok:Nat→Prop} {α:Type} {enc:α→List AVal} {xs:List α} {x:Value} {F:Nat→Prop} (h:On w0 ok w (.os 1 enc xs) x F) (hen:∀y,(enc y).length=1):
  ∃(p:Option Addr) (cap:Nat) (olds:List Value) (G:Nat→Nat→Prop),x=.slice p xs.length cap∧olds.length=xs.length∧xs.length≤cap∧(∀a,p=some a→∀j v,olds[j]?=some v→w.cell? (a.add j)=some v)∧(p=none→xs.length=0∧cap=0) ∧
   (∀j k,G j k→F k)∧(∀j j' k,G j k→G j' k→j=j')∧(∀(j:Nat) (z:α) (A:AVal),xs[j]?=some z→(enc z)[0]?=some A→On w0 ok w A (olds.getD j undef) (G j)) ∧
   (cap≠0→∃b off c T,p=some ⟨b,off,none⟩∧F b∧w.heap[b]?=some (.cells c T (0,0))∧off+cap≤c.size∧(∀j k,G j k→k≠b)∧∀j,j<xs.length→olds.getD j undef=c.getD (off+j) undef):=by
 generalize hA:AVal.os 1 enc xs=A at h
 cases h with
 | ro F h=>subst hA;cases h
 | arr=>cases hA
 | om=>cases hA
 | osNil n2 enc2 F p=>cases hA;exact⟨p,0,[],fun _ _=>False,rfl,rfl,Nat.le_refl _,fun _ _ j v h=>by simp at h,fun _=>⟨rfl,rfl⟩,fun _ _ h=>h.elim,fun _ _ _ h=>h.elim,by simp,fun h=>absurd rfl h⟩
 | os n2 enc2 xs2 b off cap c T F G hb hw hlen hcap hn hG hd hr=>
  cases hA
  have hol:((c.toList.drop off).take xs.length).length=xs.length:=by simp;omega
  have hget:∀j,j<xs.length→((c.toList.drop off).take xs.length).getD j undef=c.getD (off+j) undef:=fun j hj=>by
   simp [List.getD_eq_getElem?_getD,Array.getD_eq_getD_getElem?,hj]
  refine⟨some ⟨b,off,none⟩,cap,(c.toList.drop off).take xs.length,fun j k=>G j 0 k,rfl,hol,hlen,fun a ha j v hv=>?_,(fun h=>by cases h),fun j k h=>(hG _ _ _ h).1,fun j j' k h h'=>(hd _ _ _ _ _ h h').1,fun j z A hz hA=>?_,fun _=>⟨b,off,c,T,rfl,hb,hw,by simpa using hcap,fun j k h=>(hG _ _ _ h).2,hget⟩⟩
  ·cases ha
   have hj:j<xs.length:=by rw [←hol];exact (List.getElem?_eq_some_iff.1 hv).1
   rw [Kx]
   have:=XB hw (j:=off+j) (by omega)
   rw [this]
   have e:=hget j hj
   rw [List.getD_eq_getElem?_getD,hv] at e
   exact congrArg some e.symm
  ·have hj:=(List.getElem?_eq_some_iff.1 hz).1
   rw [hget j hj]
   have:=hr j 0 z A hz hA
   simpa using this
theorem Eff1.apl (htb:QI P tb) {α:Type} {t:TypeId} {s x:Operand} {l lx l2:Nat} {enc:α→List AVal} {xs:List α} {y0:α} {d:Nat} {e n' by_:Nat} {zc:List Value} {e':TE}
  (ho:o.op=.call ⟨.builtin .append,#[s,x],#[t,t]⟩) (hd:o.dst=some d) (hlt:d.blt B.n=true) (hs:ev Γ s=some (.o l)) (hl:find H l=some (.val (.os 1 enc xs))) (hx:ev Γ x=some (.o lx)) (hlx:find H lx=some (.lent enc [y0] [(0,l2)])) (hen:∀y,(enc y).length=1)
  (ht:find tb t=some ⟨.sl e,n',by_,zc⟩) (he:find tb e=some e') (hn:e'.n=1) (hby:e'.bytes.ble 128=true) (hl2:∃R2,find H l2=some R2∧R2.ownd=true) (hlen:xs.length+1≤1099511627776):
  Eff1 P B Γ H nl o ((d,.o nl) :: Γ) (repH H l nl (.lent enc (xs++[y0]) [(xs.length,l2)])) (nl+1) (.fx [l] false):=Eff1.of_value fun B hB β F a w hβ hf=>by
 rw [←hB] at hlt
 obtain⟨dst,op,ty,pos,af,g⟩:=o
 simp only at ho hd;subst ho;subst hd;subst hβ
 obtain⟨dd,hdd,rfl⟩:=htb.und ht
 obtain⟨zv,hzv,hzc,_,hzl,_⟩:=htb.zero he
 obtain⟨_,inf,z2,hinf,hsize,hbytes,hzero,hrest⟩:=htb _ _ he
 have hby':=Nat.le_of_ble_eq_true hby
 -- the source
 obtain⟨F1,hF1,bx,ox,capx,cx,Tx,Gx,hvx,hwx,hbx,hlenx,hcapx,_,hLLx,_⟩:=hf.heap.get hlx
 have hxv:=(Q5 (a:=a) hf.env hx).o_inv
 rw [hvx] at hxv
 have hxv:=(Option.some.inj hxv).symm
 obtain⟨_,hci⟩:=hLLx 0 l2 (by simp)
 simp only [Nat.add_zero] at hci
 simp only [List.length_singleton] at hxv hlenx
 have hcl:w.cell? ⟨bx,ox,none⟩=some (cx.getD ox undef):=XB hwx (by omega)
 generalize cx.getD ox undef=v0 at hci hcl
 have hone0:v0.oneCell'=true:=by
  obtain⟨R2,h1,h2⟩:=hl2
  obtain⟨F3,_,hR3⟩:=hf.heap.get h1
  obtain⟨v,hv,ho⟩:=hR3.one h2
  rw [hci] at hv;cases hv;exact ho
 -- the row
 obtain⟨F0,hF0,v,hv,hov⟩:=hf.heap.get hl
 have hsv:a.eval s=v:=by
  have:=(Q5 (a:=a) hf.env hs).o_inv
  rw [hv] at this;cases this;rfl
 have hfirst:∀w',(∀b,b<w.heap.size→w'.heap[b]?=w.heap[b]?)→(Builtin.firstCells 1 1 (.slice (some ⟨bx,ox,none⟩) 1 capx)).run P w'=.ok [v0].toArray w':=fun w' hw'=>Q0w (ys:=[y0]) (by simp) (fun h=>⟨⟨bx,ox,none⟩,rfl,fun j u hu=>by
  cases j with
  | zero=>simp at hu;subst hu;rw [Kx,Nat.add_zero,World.cell?_of_block (w:=w) (hw' _ (Xv hwx))];exact hcl
  | succ j=>simp at hu⟩)
 suffices key:∃(v':Value) (w':World) (N:Nat→Prop),(execOp a.eval ⟨some d,.call ⟨.builtin .append,#[s,x],#[t,t]⟩,ty,pos,af,g⟩).run P w=.ok (.value v') w'∧(∀b,N b→b=w.heap.size)∧w.heap.size≤w'.heap.size∧(∀b,N b→b<w'.heap.size)∧Kp w (Mod β [l]) w'∧v'.oneCell'=true ∧
   (∀b,hdr v'=some b→w.heap.size≤b∨Mod β [l] b) ∧
   ∀F1:Nat→Prop,(∀b,F1 b→F b)→Xb B.w0 B.ok β w l F1 (.val (.os 1 enc xs))→Xb B.w0 B.ok (β++[v']) w' β.length (fun b=>F1 b∨N b) (.lent enc (xs++[y0]) [(xs.length,l2)])∧∀b,b<w.heap.size→¬F1 b→w'.heap[b]?=w.heap[b]? by
  obtain⟨v',w',N,hrun,hN,hgr,hN2,hkp,hone,hhdr,hres⟩:=key
  refine⟨v',w',β++[v'],fun b=>F b∨N b,hrun,by simp,fun l x h=>Q8 h,fun l' x b hl' hx' hb=>?_,KH.put (A:=.o β.length) ⟨hf.kp.trans hkp (fun b ⟨l',hl',y,hy,hhy⟩ hlt'=>?_),hf.ok,fun b hb=>?_,HOk.rep (fun l x h=>Q8 h) N hf.heap hl (fun F1 hF1 hR=>hres F1 hF1 hR) (fun b hb h=>?_) (fun b hb=>(hf.own b hb).1) (fun S k F1 h=>h.snoc v'),fun t' A hA=>(hf.env t' A hA).snoc v',hf.size,hf.defers,fun l x hl hx=>Q8 (hf.pre l x hl hx)⟩ hlt (.o _ _ (by simp) hone),hkp⟩
  ·have:=GK rfl hl' hx';subst this;exact hhdr b hb
  ·simp only [List.mem_singleton] at hl';subst hl'
   obtain⟨F3,hF3,hr3⟩:=hf.heap.get hl
   exact (hf.own b (hF3 b (hr3.block hy hhy rfl))).2 hlt'
  ·rcases hb with hb | hb
   ·have:=hf.own b hb;exact⟨Nat.lt_of_lt_of_le this.1 hgr,this.2⟩
   ·refine⟨hN2 b hb,fun h=>?_⟩
    have:=hN b hb;have:=hf.kp.size;omega
  ·have:=(hf.own b h).1;have:=hN b hb;omega
 have hexec:∀(r:Value) (w':World),(Builtin.append_ #[t,t] ty #[v,.slice (some ⟨bx,ox,none⟩) 1 capx]).run P w=.ok r w'→(execOp a.eval ⟨some d,.call ⟨.builtin .append,#[s,x],#[t,t]⟩,ty,pos,af,g⟩).run P w=.ok (.value r) w':=fun r w' h=>by
  simp [execOp,resolve,invoke,builtin,hsv,hxv,h]
 have hsz:inf.size=1:=by rw [hsize,hn]
 obtain⟨p,cap,olds,G0,rfl,hol,hcl2,hop,hpn,hG0,hd0,hr0,hrow⟩:=hov.os_cells hen
 have hlx':∀j (hj:j<xs.length),(xs++[y0])[j]?=xs[j]?:=fun j hj=>List.getElem?_append_left hj
 have hmem:∀(v':Value) (j l':Nat),(j,l')∈[(xs.length,l2)]→∀(cs:Array Value) (o1:Nat),cs.getD (o1+xs.length) undef=v0→j<(xs++[y0]).length∧(β++[v'])[l']?=some (cs.getD (o1+j) undef):=fun v' j l' h cs o1 hcs=>by
  simp only [List.mem_singleton,Prod.mk.injEq] at h
  obtain⟨rfl,rfl⟩:=h
  exact⟨by simp,by rw [hcs];exact Q8 hci⟩
 by_cases hroom:xs.length+1≤cap
 ·obtain⟨b,off,c,T,rfl,hFb,hw,hcap,hGb,hoc⟩:=hrow (by omega)
  have hst:=run_storeCells_at (P:=P) b (off+xs.length) T [v0] 0 c w hw (by simp;omega) (by intro u hu;simp at hu;subst hu;exact hone0)
  simp only [Nat.add_zero,List.length_singleton] at hst
  generalize hc':(c.toList.take (off+xs.length)++[v0]++c.toList.drop (off+xs.length+1)).toArray=c' at hst
  have hrow':=setRow_heap w b c c' T (0,0) hw
  have hc's:c'.size=c.size:=by rw [←hc'];simp;omega
  have hget:∀j,c'.getD j undef=if j=off+xs.length then v0 else c.getD j undef:=fun j=>by rw [←hc'];exact Zt c _ _ (by omega) j
  have hhd:Mod β [l] b:=⟨l,by simp,_,hv,by obtain⟨k,rfl⟩:∃k,cap=k+1:=⟨cap-1,by omega⟩;rfl⟩
  have hrun:=WC (P:=P) (ty:=ty) (p:=some ⟨b,off,none⟩) (q:=some ⟨bx,ox,none⟩) (n:=xs.length) (m:=1) (cap:=cap) (c2:=capx) (news:=[v0]) (w':=w.setRow b c') hdd hinf hroom (by rw [hsz];exact hfirst w (fun _ _=>rfl)) (by simp only [Kx,hsz,Nat.mul_one];exact hst)
  refine⟨_,w.setRow b c',fun _=>False,hexec _ _ hrun,fun _ h=>h.elim,by simp,fun _ h=>h.elim,Xc w b c' _ hhd,rfl,fun b' hb'=>?_,fun F1 hF1' hR=>⟨?_,fun b' hb' hnb=>setRow_other w b b' c' (fun e=>hnb (e▸hR.block hv (by obtain⟨k,rfl⟩:∃k,cap=k+1:=⟨cap-1,by omega⟩;rfl) rfl))⟩⟩
  ·obtain⟨k,rfl⟩:∃k,cap=k+1:=⟨cap-1,by omega⟩
   cases hb';exact .inr hhd
  ·obtain⟨v1,hv1,hov1⟩:=hR
   rw [hv] at hv1;cases hv1
   obtain⟨p1,cap1,olds1,G1,heq,hol1,_,_,_,hG1,hd1,hr1,hrow1⟩:=hov1.os_cells hen
   cases heq
   obtain⟨b1,off1,c1,T1,heq,hFb1,hw1,hcap1,hGb1,hoc1⟩:=hrow1 (by omega)
   cases heq
   rw [hw] at hw1;cases hw1
   refine⟨b,off,cap,c',T,G1,by simp,hrow',.inl hFb1,by simpa using hroom,by rw [hc's];exact hcap1,fun x _=>hen x,fun j l' hj=>hmem _ j l' hj c' off (by rw [hget,if_pos rfl]),fun j k h=>⟨.inl (hG1 j k h),hGb1 j k h⟩,hd1,fun j z C hj hz hC=>?_⟩
   have hjl:j<xs.length:=by
    have:=(List.getElem?_eq_some_iff.1 hz).1
    simp at this
    rcases Nat.lt_or_ge j xs.length with h | h
    ·exact h
    ·exact absurd (by simp;omega) (hj l2)
   rw [hlx' j hjl] at hz
   have:=hr1 j z C hz hC
   rw [hoc1 j hjl] at this
   rw [hget,if_neg (by omega)]
   exact this.later (fun k hk' hlt=>setRow_other w b k c' (hGb1 j k hk'))
 ·obtain⟨cap',hcap',hrun⟩:=YO (P:=P) (ty:=ty) hdd hinf hzero (w:=w) (p:=p) (q:=some ⟨bx,ox,none⟩) (n:=xs.length) (m:=1) (cap:=cap) (c2:=capx) (olds:=olds) (news:=[v0]) (by omega) (by rw [hol,hsz,Nat.mul_one]) hop hpn rfl (by rw [hsz];rfl) (fun j u hu=>by
   cases j with
   | zero=>simp at hu;subst hu;rw [Kx,Nat.add_zero];exact hcl
   | succ j=>simp at hu) (by rw [hbytes];exact hby') hlen
  have hz2:z2.cells.size=1:=by
   have:z2.cells.toList=e'.zc:=hrest.1
   rw [←hn,←hzl,←this];simp
  have hk1:Kp w (fun _=>False) (w.drew.alloc (.cells (olds.toArray++[v0].toArray++Builtin.zeroCells z2.cells (cap'-(xs.length+1))) e)):=Kp.trans (Kp.drew w (fun _=>False) _) (XH w.drew (fun _=>False) _) (fun _ h _=>h)
  have hnew:=heap_alloc_new w.drew (.cells (olds.toArray++[v0].toArray++Builtin.zeroCells z2.cells (cap'-(xs.length+1))) e)
  generalize hcc:olds.toArray++[v0].toArray++Builtin.zeroCells z2.cells (cap'-(xs.length+1))=cc at hrun hk1 hnew
  have hccs:cc.size=cap':=by rw [←hcc];simp [size_zeroCells,hz2,hol];omega
  have hget:∀j,j<xs.length→cc.getD j undef=olds.getD j undef:=fun j hj=>by
   rw [←hcc,Array.getD_eq_getD_getElem?,Array.getElem?_append_left (by simp [hol];omega),Array.getElem?_append_left (by simp [hol];omega)]
   simp [List.getD_eq_getElem?_getD]
  have hgetl:cc.getD xs.length undef=v0:=by
   rw [←hcc,Array.getD_eq_getD_getElem?,Array.getElem?_append_left (by simp [hol]),Array.getElem?_append_right (by simp [hol])]
   simp [hol]
  refine⟨_,_,fun b=>b=w.heap.size,hexec _ _ hrun,fun _ h=>h,hk1.size,(fun b hb=>by subst hb;exact Nat.lt_of_lt_of_eq (Nat.lt_succ_self w.drew.heap.size) (by simp)),hk1.mono (fun _ h _=>h.elim),rfl,fun b hb=>?_,fun F1 hF1' hR=>⟨?_,fun b hb _=>hk1.block b hb (fun h=>h)⟩⟩
  ·cases cap' with
   | zero=>cases hb
   | succ k=>cases hb;exact .inl (Nat.le_refl _)
  ·obtain⟨v1,hv1,hov1⟩:=hR
   rw [hv] at hv1;cases hv1
   obtain⟨p1,cap1,olds1,G1,heq,hol1,_,hop1,_,hG1,hd1,hr1,hrow1⟩:=hov1.os_cells hen
   cases heq
   have hold:∀j,j<xs.length→olds1.getD j undef=olds.getD j undef:=fun j hj=>by
    have hc0:cap≠0:=by omega
    obtain⟨b,off,c,T,e1,_,hw2,_,_,h1⟩:=hrow hc0
    obtain⟨b',off',c',T',e2,_,hw3,_,_,h2⟩:=hrow1 hc0
    rw [e1] at e2;cases e2
    rw [hw2] at hw3;cases hw3
    rw [h1 j hj,h2 j hj]
   have hlt1:∀j k,G1 j k→k<w.heap.size:=fun j k h=>(hf.own k (hF1' k (hG1 j k h))).1
   refine⟨w.heap.size,0,cap',cc,e,G1,by simp,hnew,.inr rfl,by simpa using hcap',by rw [hccs];omega,fun x _=>hen x,fun j l' hj=>hmem _ j l' hj cc 0 (by rw [Nat.zero_add];exact hgetl),fun j k h=>⟨.inl (hG1 j k h),fun e=>by have:=hlt1 j k h;omega⟩,hd1,fun j z C hj hz hC=>?_⟩
   have hjl:j<xs.length:=by
    have:=(List.getElem?_eq_some_iff.1 hz).1
    simp at this
    rcases Nat.lt_or_ge j xs.length with h | h
    ·exact h
    ·exact absurd (by simp;omega) (hj l2)
   rw [hlx' j hjl] at hz
   have:=hr1 j z C hz hC
   rw [Nat.zero_add,hget j hjl,←hold j hjl]
   exact this.later (fun k hk' hlt=>hk1.block k hlt (fun h=>h))
theorem Eff1.re {Γ':Env} {l nl':Nat} {A A':AVal} {H'':Heap} {m:EM} (h:Eff1 P B Γ H nl o Γ' ((l,.val A) :: H'') nl' m) (hA:∀(w0 w:World) (ok:Nat→Prop) (x:Value) (F:Nat→Prop),On w0 ok w A x F→On w0 ok w A' x F):
  Eff1 P B Γ H nl o Γ' ((l,.val A') :: H'') nl' m:=fun B' hB β F a w hβ hf next Q hn=>h B' hB β F a w hβ hf next Q fun s hs a' w' β' F' B'' e1 e2 e3 e4 hf'=>by
 obtain⟨F1,F2,h1,h2,h12,⟨v,hv,hon⟩,hH⟩:=hf'.heap
 exact hn s hs a' w' β' F' B'' e1 e2 e3 e4 ⟨hf'.kp,hf'.ok,hf'.own,⟨F1,F2,h1,h2,h12,⟨v,hv,hA _ _ _ _ _ hon⟩,hH⟩,hf'.env,hf'.size,hf'.defers,hf'.pre⟩
end
end Go.Taq
namespace Go.Taq
theorem Q3R {κ α:Type} [DecidableEq κ] (xs:List (κ×α)) (k:κ):(∃y,lk xs k=some y)∨lk xs k=none:=by
 cases h:lk xs k with
 | none=>exact .inr rfl
 | some y=>exact .inl ⟨y,rfl⟩
end Go.Taq
