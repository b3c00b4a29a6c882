/- The library of the generated walks, part S: what is lent, at the operations; lent elements of maps. -/
import Derived.Test.YtpckofngkabgbaaGreatLibR
set_option linter.unusedVariables false
namespace Go.Taq
open Go
open Go.ChangeMaps (setBlock)
section
variable {P:Program} {B:Base} {tb:Tab} {Γ:Env} {H:Heap} {nl:Nat} {o:Oper} {X:Act→World→Prop}
theorem Rd.il (htb:QI P tb) {α:Type} {t:TypeId} {x i:Operand} {l:Nat} {enc:α→List AVal} {xs:List α} {L:List (Nat×Nat)} {k:IntKind} {j:Int} {y:α} {e n' by_:Nat} {zc:List Value} {e':TE}
  (ho:o.op=.indexAddr t x i) (hx:ev Γ x=some (.o l)) (hl:find H l=some (.lent enc xs L)) (hi:ev Γ i=some (.v (.int k j))) (ht:find tb t=some ⟨.sl e,n',by_,zc⟩) (he:find tb e=some e') (hn:e'.n=1) (hy:idx xs j=some y):
  Rd P B Γ H nl o (.ep l 1 j.toNat 0) none:=fun B hB β F a w hβ hf=>by
 obtain⟨dst,op,ty,pos,af,g⟩:=o
 simp only at ho;subst ho
 obtain⟨h0,h1,h2⟩:=Qi hy
 obtain⟨F1,hF1,b,off,cap,c,T,G,hv,hw,hb,hlen,hcap,hnn,hLL,hG,hd,hr⟩:=hf.heap.get hl
 have hX:=(Q5 (a:=a) hf.env hx).o_inv
 rw [hv] at hX
 have hav:=(Option.some.inj hX).symm
 have hI:=(Q5 (a:=a) hf.env hi).v_inv
 obtain⟨d,hdd,rfl⟩:=htb.und ht
 refine⟨_,.ep l 1 j.toNat 0 b off xs.length cap hv,fun w' _=>?_⟩
 simp [execOp,Instr.indexAt,hI,asIntOf,run_underlying hdd,hav,h0,h1,htb.size he,Kx,hn]
theorem Rd.ll (htb:QI P tb) {α:Type} {T:TypeId} {x:Operand} {l l' i:Nat} {enc:α→List AVal} {xs:List α} {L:List (Nat×Nat)} {R':Res} {e':TE}
  (ho:o.op=.load T x) (hx:ev Γ x=some (.ep l 1 i 0)) (hl:find H l=some (.lent enc xs L)) (hL:(i,l')∈L) (hl':find H l'=some R') (hR:R'.ownd=true) (he':find tb T=some e') (hagg:e'.ti.agg=false):
  Rd P B Γ H nl o (.o l') (some [l]):=fun B hB β F a w hβ hf=>by
 obtain⟨dst,op,ty,pos,af,g⟩:=o
 simp only at ho;subst ho
 obtain⟨F1,hF1,b,off,cap,c,T',G,hv,hw,hb,hlen,hcap,hn,hLL,hG,hd,hr⟩:=hf.heap.get hl
 obtain⟨b',o',len,cap',hb',hX⟩:=(Q5 (a:=a) hf.env hx).ep_inv
 rw [hv] at hb';cases hb'
 obtain⟨hi,hci⟩:=hLL i l' hL
 obtain⟨F2,hF2,hRR⟩:=hf.heap.get hl'
 obtain⟨v,hv',h1⟩:=hRR.one hR
 rw [hv'] at hci
 have hcv:=Option.some.inj hci
 refine⟨v,.o l' v hv' h1,fun w' ⟨_,hw'⟩=>?_⟩
 have hbk:w'.heap[b]?=some (.cells c T' (0,0)):=by
  rw [hw' b ⟨l,by simp,_,hv,by
   obtain⟨k,rfl⟩:∃k,cap=k+1:=⟨cap-1,by omega⟩
   rfl⟩];exact hw
 have this:w'.cell? ⟨b,off+i*1+0,none⟩=some v:=by
  have:=XB hbk (j:=off+i) (by omega)
  rw [Nat.mul_one,Nat.add_zero,this,hcv]
 simp only [execOp,Instr.loadAt,hX,Sem.run_bind,Instr.sureAddr,Sem.run_pure,Result.andThen_ok]
 rw [XM htb he' this hagg]
 rfl
theorem Zt (c:Array Value) (k:Nat) (v:Value) (h:k<c.size) (j:Nat):(c.toList.take k++[v]++c.toList.drop (k+1)).toArray.getD j undef=if j=k then v else c.getD j undef:=by
 have:=Gc c k [v] (by simp;omega) j
 simp only [List.length_singleton] at this
 rw [this]
 by_cases e:j=k
 ·subst e;rw [if_pos (by omega),if_pos rfl];simp
 ·rw [if_neg (by omega),if_neg e]
theorem Eff1.sl (htb:QI P tb) {α:Type} {T:TypeId} {x y:Operand} {l l' l2 i:Nat} {enc:α→List AVal} {xs:List α} {L:List (Nat×Nat)} {e:TE} (ho:o.op=.store T x y) (hx:ev Γ x=some (.ep l 1 i 0)) (hl:find H l=some (.lent enc xs ((i,l') :: L))) (hL:∀p,p∈L→p.1≠i)
  (hy:ev Γ y=some (.o l2)) (he:find tb T=some e) (hn:e.n=1) (hd:o.dst=none):
  Eff1 P B Γ H nl o Γ (setH H l (.lent enc xs ((i,l2) :: L))) nl (.fx [l] false):=Eff1.of_skip fun B hB β F a w hβ hf=>by
 obtain⟨dst,op,ty,pos,af,g⟩:=o
 simp only at ho hd;subst ho;subst hd
 have hYd:=Q5 (a:=a) hf.env hy
 have h1:=hYd.one rfl
 obtain⟨F1,hF1,⟨b,off,cap,c,T',G,hv,hw,hb,hlen,hcap,hnn,hLL,hG,hdj,hr⟩,hset⟩:=hf.heap.set hl
 obtain⟨b',o',len,cap',hb',hxv⟩:=(Q5 (a:=a) hf.env hx).ep_inv
 rw [hv] at hb';cases hb'
 obtain⟨hi,hci⟩:=hLL i l' (by simp)
 have hcell:(a.eval y).cells=#[a.eval y]:=Value.cells_one h1
 have hst:=run_storeCells_at (P:=P) b (off+i) T' [a.eval y] 0 c w hw (by simp;omega) (by intro u hu;simp at hu;subst hu;exact h1)
 simp only [Nat.add_zero,List.length_singleton] at hst
 generalize hc2:(c.toList.take (off+i)++[a.eval y]++c.toList.drop (off+i+1)).toArray=c2 at hst
 have hc2s:c2.size=c.size:=by rw [←hc2];simp;omega
 have hget:∀j,c2.getD j undef=if j=off+i then a.eval y else c.getD j undef:=fun j=>by rw [←hc2];exact Zt c _ _ (by omega) j
 have hrow:=setRow_heap w b c c2 T' (0,0) hw
 have hhd:Mod β [l] b:=⟨l,by simp,_,hv,by
  obtain⟨k,rfl⟩:∃k,cap=k+1:=⟨cap-1,by omega⟩
  rfl⟩
 refine⟨w.setRow b c2,β,F,?_,hβ,fun _ _ h=>h,fun l x b hl hx _=>?_,?_,Xc w b c2 _ hhd⟩
 ·simp only [execOp,Instr.storeAt,hxv,Instr.sureAddr,Sem.run_bind,Sem.run_pure,Result.andThen_ok,storeVar,htb.size he]
  rw [Sem.run_ite,if_neg (by simp [hcell,hn]),hcell,Nat.mul_one,Nat.add_zero]
  rw [hst];rfl
 ·rw [List.getElem?_eq_none (by omega)] at hx;cases hx
 ·have hk:=Xc w b c2 (fun x=>x=b) rfl
  have hM:∀x,x=b→x<B.w0.heap.size→B.M x:=fun x hx hlt'=>by subst hx;exact (hf.own x (hF1 x hb)).2 hlt'
  refine⟨hf.kp.trans hk hM,hf.ok,fun b hb=>by have:=hf.own b hb;exact⟨by simpa using this.1,this.2⟩,hset _ _ (fun b'' hb'' hn' hlt=>setRow_other w b b'' c2 (fun e=>hn' (e▸hb)))
   ⟨b,off,cap,c2,T',G,hv,hrow,hb,hlen,by rw [hc2s];exact hcap,hnn,fun j m hm=>?_,hG,hdj,fun j z C hj hz hC=>?_⟩,hf.env,by simpa [Act.put] using hf.size,hf.defers,hf.pre⟩
  ·rcases List.mem_cons.1 hm with e | e
   ·cases e
    exact⟨hi,by rw [hget,if_pos rfl];exact hYd.o_inv⟩
   ·have:=hLL j m (by simp [e])
    have hne:=hL _ e
    simp only at hne
    exact⟨this.1,by rw [hget,if_neg (by omega)];exact this.2⟩
  ·have hji:j≠i:=fun e=>hj l2 (by simp [e])
   have:=hr j z C (fun m hm=>by
    rcases List.mem_cons.1 hm with e | e
    ·cases e;exact hji rfl
    ·exact hj m (by simp [e])) hz hC
   rw [hget,if_neg (by omega)]
   exact this.later (fun k hk' hlt=>setRow_other w b k c2 (hG j k hk').2)
theorem Eff1.sl0 (htb:QI P tb) {α:Type} {T:TypeId} {x y:Operand} {l l2 i:Nat} {enc:α→List AVal} {xs:List α} {z:α} {e:TE} (ho:o.op=.store T x y) (hx:ev Γ x=some (.ep l 1 i 0)) (hl:find H l=some (.val (.os 1 enc xs))) (hz:xs[i]?=some z) (hen:∀x,(enc x).length=1)
  (hy:ev Γ y=some (.o l2)) (he:find tb T=some e) (hn:e.n=1) (hd:o.dst=none):
  Eff1 P B Γ H nl o Γ (setH H l (.lent enc xs [(i,l2)])) nl (.fx [l] false):=Eff1.of_skip fun B hB β F a w hβ hf=>by
 obtain⟨dst,op,ty,pos,af,g⟩:=o
 simp only at ho hd;subst ho;subst hd
 have hYd:=Q5 (a:=a) hf.env hy
 have h1:=hYd.one rfl
 have hne:xs≠[]:=fun e=>by subst e;simp at hz
 have hi:=(List.getElem?_eq_some_iff.1 hz).1
 obtain⟨F1,hF1,⟨v0,hv,hon⟩,hset⟩:=hf.heap.set hl
 obtain⟨b,off,cap,c,T',G,rfl,hb,hw,hlen,hcap,hnn,hG,hdj,hr⟩:=hon.os_inv hne
 obtain⟨b',o',len,cap',hb',hxv⟩:=(Q5 (a:=a) hf.env hx).ep_inv
 rw [hv] at hb';cases hb'
 have hcell:(a.eval y).cells=#[a.eval y]:=Value.cells_one h1
 have hst:=run_storeCells_at (P:=P) b (off+i) T' [a.eval y] 0 c w hw (by simp;omega) (by intro u hu;simp at hu;subst hu;exact h1)
 simp only [Nat.add_zero,List.length_singleton] at hst
 generalize hc2:(c.toList.take (off+i)++[a.eval y]++c.toList.drop (off+i+1)).toArray=c2 at hst
 have hc2s:c2.size=c.size:=by rw [←hc2];simp;omega
 have hget:∀j,c2.getD j undef=if j=off+i then a.eval y else c.getD j undef:=fun j=>by rw [←hc2];exact Zt c _ _ (by omega) j
 have hrow:=setRow_heap w b c c2 T' (0,0) hw
 have hhd:Mod β [l] b:=⟨l,by simp,_,hv,by
  obtain⟨k,rfl⟩:∃k,cap=k+1:=⟨cap-1,by omega⟩
  rfl⟩
 refine⟨w.setRow b c2,β,F,?_,hβ,fun _ _ h=>h,fun l x b hl hx _=>?_,?_,Xc w b c2 _ hhd⟩
 ·simp only [execOp,Instr.storeAt,hxv,Instr.sureAddr,Sem.run_bind,Sem.run_pure,Result.andThen_ok,storeVar,htb.size he]
  rw [Sem.run_ite,if_neg (by simp [hcell,hn]),hcell,Nat.mul_one,Nat.add_zero]
  rw [hst];rfl
 ·rw [List.getElem?_eq_none (by omega)] at hx;cases hx
 ·have hk:=Xc w b c2 (fun x=>x=b) rfl
  have hM:∀x,x=b→x<B.w0.heap.size→B.M x:=fun x hx hlt'=>by subst hx;exact (hf.own x (hF1 x hb)).2 hlt'
  refine⟨hf.kp.trans hk hM,hf.ok,fun b hb=>by have:=hf.own b hb;exact⟨by simpa using this.1,this.2⟩,hset _ _ (fun b'' hb'' hn' hlt=>setRow_other w b b'' c2 (fun e=>hn' (e▸hb)))
   ⟨b,off,cap,c2,T',fun j k=>G j 0 k,hv,hrow,hb,hlen,by rw [hc2s];simpa using hcap,fun x _=>hen x,fun j m hm=>?_,fun j k h=>hG _ _ _ h,fun j j' k h h'=>(hdj _ _ _ _ _ h h').1,fun j z C hj hz hC=>?_⟩,hf.env,by simpa [Act.put] using hf.size,hf.defers,hf.pre⟩
  ·simp only [List.mem_singleton,Prod.mk.injEq] at hm
   obtain⟨rfl,rfl⟩:=hm
   exact⟨hi,by rw [hget,if_pos rfl];exact hYd.o_inv⟩
  ·have hji:j≠i:=fun e=>hj l2 (by simp [e])
   have:=hr j 0 z C hz hC
   simp only [Nat.mul_one,Nat.add_zero] at this
   rw [hget,if_neg (by omega)]
   exact this.later (fun k hk' hlt=>setRow_other w b k c2 (hG j 0 k hk').2)
end
end Go.Taq
