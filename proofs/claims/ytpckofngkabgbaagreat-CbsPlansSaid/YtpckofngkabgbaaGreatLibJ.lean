/- The library of the generated walks, part J: append; elements of owned slices; parts of slices. -/
import Derived.Test.YtpckofngkabgbaaGreatLibI
set_option linter.unusedVariables false
namespace Go.Taq
open Go
section
variable {P:Program} {B:Base} {tb:Tab} {Γ:Env} {H:Heap} {nl:Nat} {o:Oper}
theorem Q43 {w0:World} {ok:Nat→Prop} {α:Type} {n:Nat} {enc:α→List AVal} {ys:List α} {news:List Value} (hflat:∀x,(enc x).all WX=true) (hnl:news.length=ys.length*n) (hyn:∀y,y∈ys→(enc y).length=n)
  (hnr:∀(i j:Nat) (x:α) (A:AVal),ys[i]?=some x→(enc x)[j]?=some A→Ro w0 ok A (news.getD (i*n+j) undef)):∀u∈news,u.oneCell'=true:=fun u hu=>by
 obtain⟨k,hk,rfl⟩:=List.getElem_of_mem hu
 have hk':=hk
 rw [hnl] at hk
 obtain⟨m1,m2,m3,m4⟩:=Zn hk
 have hy:=List.getElem?_eq_getElem m2
 have hA:k % n<(enc ys[k / n]).length:=by rw [hyn _ (List.getElem_mem _)];exact m3
 have:=hnr _ _ _ _ hy (List.getElem?_eq_getElem hA)
 rw [m4] at this
 have e1:news.getD k undef=news[k]:=by simp [List.getD_eq_getElem?_getD,hk']
 rw [e1] at this
 have hone:=Ws (List.all_eq_true.1 (hflat ys[k / n]) _ (List.getElem_mem hA))
 exact (Dn.ro (β:=[]) this).one hone
theorem Eff1.ap (htb:QI P tb) {α:Type} {t:TypeId} {s x:Operand} {l n:Nat} {enc:α→List AVal} {xs ys:List α} {d:Nat} {e n' by_:Nat} {zc:List Value} {e':TE} {X:AVal}
  (ho:o.op=.call ⟨.builtin .append,#[s,x],#[t,t]⟩) (hd:o.dst=some d) (hlt:d.blt B.n=true) (hs:ev Γ s=some (.o l)) (hl:find H l=some (.val (.os n enc xs))) (hx:ev Γ x=some X)
  (hX:X=.sl n enc ys∨∃l2,X=.o l2∧find H l2=some (.val (.os n enc ys))) (ht:find tb t=some ⟨.sl e,n',by_,zc⟩) (he:find tb e=some e') (hn:e'.n=n) (hflat:∀x,(enc x).all WX=true) (hby:e'.bytes.ble 128=true)
  (hlen:xs.length+ys.length≤1099511627776):
  Eff1 P B Γ H nl o ((d,.o nl) :: Γ) (repH H l nl (.val (.os n enc (xs++ys)))) (nl+1) (.fx [l] false):=Eff1.of_value fun B hB β F a w hβ hf=>by
 rw [←hB] at hlt
 have hfro:∀x A,A∈enc x→A.isRo=true:=fun x A h=>Y1 (List.all_eq_true.1 (hflat x) A h)
 obtain⟨dst,op,ty,pos,af,g⟩:=o
 simp only at ho hd;subst ho;subst hd;subst hn;subst hβ
 obtain⟨dd,hdd,rfl⟩:=htb.und ht
 obtain⟨zv,hzv,hzc,_,hzl,_⟩:=htb.zero he
 obtain⟨_,inf,z2,hinf,hsize,hbytes,hzero,_⟩:=htb _ _ he
 have hby':=Nat.le_of_ble_eq_true hby
 have hok:∀b,B.ok b→w.heap[b]?=B.w0.heap[b]?:=fun b hb=>by have:=hf.ok b hb;exact hf.kp.block b this.1 this.2
 -- the source
 have hsrc:Src B.w0 B.ok w e'.n enc ys (a.eval x):=by
  rcases hX with rfl | ⟨l2,rfl,h2⟩
  ·exact Src.ro (Q5 hf.env hx).sl_inv hok
  ·obtain⟨F2,_,y,hy,ho2⟩:=hf.heap.get h2
   have:=(Q5 (a:=a) hf.env hx).o_inv
   rw [hy] at this;cases this
   exact Src.own (ho2.flat_of hfro)
 obtain⟨q,c2,news,hxv,hnl,hyn,hq,hnr⟩:=hsrc.h
 obtain⟨F0,hF0,v,hv,hov⟩:=hf.heap.get hl
 have hsv:a.eval s=v:=by
  have:=(Q5 (a:=a) hf.env hs).o_inv
  rw [hv] at this;cases this;rfl
 have hfirst:∀w',(∀b,b<w.heap.size→w'.heap[b]?=w.heap[b]?)→(Builtin.firstCells e'.n ys.length (.slice q ys.length c2)).run P w'=.ok news.toArray w':=fun w' hw'=>Q0w hnl (fun h=>by
  obtain⟨p,e1,e2⟩:=hq h
  exact⟨p,e1,fun j u hu=>by have:=e2 j u hu;rw [World.cell?_of_block (w:=w) (hw' _ (Yn this))];exact this⟩)
 -- what the walk needs of the outcome
 suffices key:∃(v':Value) (w':World) (N:Nat→Prop),(execOp a.eval ⟨some d,.call ⟨.builtin .append,#[s,x],#[t,t]⟩,ty,pos,af,g⟩).run P w=.ok (.value v') w'∧(∀b,N b→b=w.heap.size)∧w.heap.size≤w'.heap.size∧(∀b,N b→b<w'.heap.size)∧Kp w (Mod β [l]) w'∧v'.oneCell'=true ∧
   (∀b,hdr v'=some b→w.heap.size≤b∨Mod β [l] b) ∧
   ∀F1:Nat→Prop,Xb B.w0 B.ok β w l F1 (.val (.os e'.n enc xs))→On B.w0 B.ok w' (.os e'.n enc (xs++ys)) v' (fun b=>F1 b∨N b)∧∀b,b<w.heap.size→¬F1 b→w'.heap[b]?=w.heap[b]? by
  obtain⟨v',w',N,hrun,hN,hgr,hN2,hkp,hone,hhdr,hres⟩:=key
  obtain⟨_,hfr⟩:=hres F0 ⟨v,hv,hov⟩
  refine⟨v',w',β++[v'],fun b=>F b∨N b,hrun,by simp,fun l x h=>Q8 h,fun l' x b hl' hx' hb=>?_,KH.put (A:=.o β.length) ⟨hf.kp.trans hkp (fun b ⟨l',hl',y,hy,hhy⟩ hlt'=>?_),hf.ok,fun b hb=>?_,HOk.rep (fun l x h=>Q8 h) N hf.heap hl (fun F1 hF1 hR=>?_) (fun b hb h=>?_) (fun b hb=>(hf.own b hb).1) (fun S k F1 h=>h.snoc v'),fun t' A hA=>(hf.env t' A hA).snoc v',hf.size,hf.defers,fun l x hl hx=>Q8 (hf.pre l x hl hx)⟩ hlt (.o _ _ (by simp) hone),hkp⟩
  ·have:=GK rfl hl' hx';subst this;exact hhdr b hb
  ·simp only [List.mem_singleton] at hl';subst hl'
   obtain⟨F3,hF3,hr3⟩:=hf.heap.get hl
   exact (hf.own b (hF3 b (hr3.block hy hhy rfl))).2 hlt'
  ·rcases hb with hb | hb
   ·have:=hf.own b hb;exact⟨Nat.lt_of_lt_of_le this.1 hgr,this.2⟩
   ·refine⟨hN2 b hb,fun h=>?_⟩
    have:=hN b hb;have:=hf.kp.size;omega
  ·obtain⟨h1,h2⟩:=hres F1 hR
   exact⟨⟨v',by simp,h1⟩,fun b hb hn=>h2 b hb hn⟩
  ·have:=(hf.own b h).1;have:=hN b hb;omega
 have hexec:∀(r:Value) (w':World),(Builtin.append_ #[t,t] ty #[v,.slice q ys.length c2]).run P w=.ok r w'→(execOp a.eval ⟨some d,.call ⟨.builtin .append,#[s,x],#[t,t]⟩,ty,pos,af,g⟩).run P w=.ok (.value r) w':=fun r w' h=>by
  simp [execOp,resolve,invoke,builtin,hsv,hxv,h]
 obtain⟨p,cap,olds,rfl,hol,hop,hpn,hcl,hrow,hxn1,hor⟩:=(hov.flat_of hfro).cells
 have hxn:∀y,y∈xs++ys→(enc y).length=e'.n:=fun y hy=>by
  rcases List.mem_append.1 hy with h | h
  ·exact hxn1 y h
  ·exact hyn y h
 have hone:=Q43 hflat hnl hyn hnr
 have happ:=Q3x hol hxn hor hnr
 have hsz:inf.size=e'.n:=hsize
 by_cases hroom:xs.length+ys.length≤cap
 ·by_cases hc0:cap=0
  ·have hx0:xs=[]:=List.eq_nil_of_length_eq_zero (by omega)
   have hy0:ys=[]:=List.eq_nil_of_length_eq_zero (by omega)
   subst hx0;subst hy0;subst hc0
   have hn0:news=[]:=List.eq_nil_of_length_eq_zero (by rw [hnl];simp)
   subst hn0
   have hf1:=hfirst w (fun _ _=>rfl)
   have:=WC (ty:=ty) (p:=p) (w':=w) hdd hinf hroom (by rw [hsz];exact hf1) (by cases p <;> simp [storeCells])
   refine⟨.slice p 0 0,w,fun _=>False,hexec _ _ this,fun _ h=>h.elim,Nat.le_refl _,fun _ h=>h.elim,.refl _ _,rfl,(fun b hb=>by cases p <;> cases hb),fun F1 hR=>⟨.osNil _ _ _ p,fun _ _ _=>rfl⟩⟩
  ·obtain⟨b,off,c,T,rfl,hFb,hw,hcap,hr⟩:=hrow hc0
   have hcapn:off+(xs.length+ys.length)*e'.n≤c.size:=by
    have:(xs.length+ys.length)*e'.n≤cap*e'.n:=Nat.mul_le_mul_right _ hroom
    omega
   rw [Nat.add_mul] at hcapn
   have hst:=run_storeCells_at (P:=P) b (off+xs.length*e'.n) T news 0 c w hw (by rw [hnl];omega) hone
   simp only [Nat.add_zero] at hst
   have hrow':=setRow_heap w b c ((c.toList.take (off+xs.length*e'.n)++news++c.toList.drop (off+xs.length*e'.n+news.length)).toArray) T (0,0) hw
   generalize hc':((c.toList.take (off+xs.length*e'.n)++news++c.toList.drop (off+xs.length*e'.n+news.length)).toArray)=c' at hst hrow'
   obtain⟨cap',rfl⟩:∃k,cap=k+1:=⟨cap-1,by omega⟩
   have hhd:Mod β [l] b:=⟨l,by simp,_,hv,rfl⟩
   have hf1:=hfirst w (fun _ _=>rfl)
   have hrun:=WC (ty:=ty) (p:=some ⟨b,off,none⟩) (w':=w.setRow b c') hdd hinf hroom (by rw [hsz];exact hf1) (by simp only [Kx,hsz];exact hst)
   refine⟨_,w.setRow b c',fun _=>False,hexec _ _ hrun,fun _ h=>h.elim,by simp,fun _ h=>h.elim,Xc w b c' _ hhd,rfl,(fun b' hb'=>by cases hb';exact .inr hhd),fun F1 hR=>⟨?_,fun b' hb' hnb=>setRow_other w b b' c' (fun e=>hnb (e▸hR.block hv rfl rfl))⟩⟩
   have hc's:c'.size=c.size:=by rw [←hc'];simp;omega
   have hfl2:=On.flat (w0:=B.w0) (ok:=B.ok) (w:=w.setRow b c') (enc:=enc) (n:=e'.n) (xs:=xs++ys) (b:=b) (off:=off) (cap:=cap'+1) (c:=c') (T:=T) (F:=fun b=>F1 b∨False) (.inl (hR.block hv rfl rfl)) hrow' (by simpa using hroom) (by rw [hc's];exact hcap)
    (fun i y hy=>hxn y (List.mem_of_getElem? hy)) (fun i j y A hy hA=>?_)
   ·simpa using hfl2
   ·have hj:j<e'.n:=by rw [←hxn y (List.mem_of_getElem? hy)];exact (List.getElem?_eq_some_iff.1 hA).1
    rw [←hc',Gc _ _ _ (by rw [hnl];omega)]
    rcases Nat.lt_or_ge i xs.length with hi | hi
    ·rw [List.getElem?_append_left hi] at hy
     have hlt2:i*e'.n+j<xs.length*e'.n:=by
      have:(i+1)*e'.n≤xs.length*e'.n:=Nat.mul_le_mul_right _ hi
      rw [Nat.succ_mul] at this;omega
     rw [if_neg (by omega)]
     exact hr i j y A hy hA
    ·rw [List.getElem?_append_right hi] at hy
     have hi2:=(List.getElem?_eq_some_iff.1 hy).1
     have e1:i*e'.n=xs.length*e'.n+(i-xs.length)*e'.n:=by rw [←Nat.add_mul];congr 1;omega
     have hlt2:(i-xs.length)*e'.n+j<ys.length*e'.n:=by
      have:(i-xs.length+1)*e'.n≤ys.length*e'.n:=Nat.mul_le_mul_right _ hi2
      rw [Nat.succ_mul] at this;omega
     rw [if_pos (by rw [hnl];omega)]
     have e2:off+i*e'.n+j-(off+xs.length*e'.n)=(i-xs.length)*e'.n+j:=by omega
     rw [e2]
     exact hnr _ _ _ _ hy hA
 ·have hy0:ys≠[]:=fun e=>by subst e;simp at hroom;omega
  obtain⟨ad,hqa,hqn⟩:=hq hy0
  obtain⟨cap',hcap',hrun⟩:=YO (P:=P) (ty:=ty) hdd hinf hzero (w:=w) (p:=p) (q:=q) (n:=xs.length) (m:=ys.length) (cap:=cap) (c2:=c2) (olds:=olds) (news:=news) (by omega) (by rw [hol,hsz]) hop hpn hqa (by rw [hnl,hsz]) hqn (by rw [hbytes];exact hby') hlen
  have hz2:z2.cells.size=e'.n:=by
   rename_i hrest
   have:z2.cells.toList=e'.zc:=hrest.1
   rw [←hzl,←this];simp
  have hk1:Kp w (fun _=>False) (w.drew.alloc (.cells (olds.toArray++news.toArray++Builtin.zeroCells z2.cells (cap'-(xs.length+ys.length))) e)):=Kp.trans (Kp.drew w (fun _=>False) _) (XH w.drew (fun _=>False) _) (fun _ h _=>h)
  refine⟨_,_,fun b=>b=w.heap.size,hexec _ _ hrun,fun _ h=>h,hk1.size,(fun b hb=>by subst hb;exact Nat.lt_of_lt_of_eq (Nat.lt_succ_self w.drew.heap.size) (by simp)),hk1.mono (fun _ h _=>h.elim),rfl,fun b hb=>?_,fun F1 hR=>⟨?_,fun b hb _=>hk1.block b hb (fun h=>h)⟩⟩
  ·cases cap' with
   | zero=>cases hb
   | succ k=>cases hb;exact .inl (Nat.le_refl _)
  ·have hlen2:(xs++ys).length=xs.length+ys.length:=by simp
   have hw':(w.drew.alloc (.cells (olds.toArray++news.toArray++Builtin.zeroCells z2.cells (cap'-(xs.length+ys.length))) e)).heap[w.heap.size]?=some (.cells (olds.toArray++news.toArray++Builtin.zeroCells z2.cells (cap'-(xs.length+ys.length))) e (0,0)):=heap_alloc_new w.drew _
   have:=On.flat (w0:=B.w0) (ok:=B.ok) (enc:=enc) (n:=e'.n) (xs:=xs++ys) (off:=0) (cap:=cap') (F:=fun b=>F1 b∨b=w.heap.size) (.inr rfl) hw' (by rw [hlen2];exact hcap') (by
    simp only [Array.size_append,List.size_toArray,hol,hnl,size_zeroCells,hz2,Nat.zero_add,←Nat.add_mul]
    exact Nat.mul_le_mul_right _ (by omega)) (fun i y hy=>hxn y (List.mem_of_getElem? hy)) (fun i j y A hy hA=>?_)
   ·rw [hlen2] at this;exact this
   ·have:=happ i j y A hy hA
    have hj:j<e'.n:=by rw [←hxn y (List.mem_of_getElem? hy)];exact (List.getElem?_eq_some_iff.1 hA).1
    have hi:=(List.getElem?_eq_some_iff.1 hy).1
    rw [hlen2] at hi
    have hlt2:i*e'.n+j<xs.length*e'.n+ys.length*e'.n:=by
     have:(i+1)*e'.n≤(xs.length+ys.length)*e'.n:=Nat.mul_le_mul_right _ hi
     rw [Nat.succ_mul,Nat.add_mul] at this;omega
    have e3:(olds.toArray++news.toArray++Builtin.zeroCells z2.cells (cap'-(xs.length+ys.length))).getD (0+i*e'.n+j) undef=(olds++news).getD (i*e'.n+j) undef:=by
     rw [Nat.zero_add,Array.getD_eq_getD_getElem?,List.getD_eq_getElem?_getD]
     rw [Array.getElem?_append_left (by simp [hol,hnl];omega)]
     simp
    rw [e3];exact this
end
end Go.Taq
