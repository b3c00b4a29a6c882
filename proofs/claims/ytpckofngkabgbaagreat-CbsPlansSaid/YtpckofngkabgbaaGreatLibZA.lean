/- The library of the generated walks, part ZA: parts of owned slices that are seen beside the whole; clear. -/
import Derived.Lib.Bytealg
import Derived.Test.YtpckofngkabgbaaGreatLibZ
set_option linter.unusedVariables false
set_option linter.unusedSimpArgs false
namespace Go.Taq
open Go
def SWOc {α:Type} (cf:α→α→Int):Prop:=(∀x,¬cf x x<0)∧(∀x y z,cf x y<0→cf y z<0→cf x z<0)∧(∀x y z,¬cf x y<0→¬cf y z<0→¬cf x z<0)
section
variable {P:Program} {B:Base} {tb:Tab} {Γ:Env} {H:Heap} {nl:Nat} {o:Oper}
theorem Rd.vw (htb:QI P tb) {α:Type} {t:TypeId} {x:Operand} {low high:Option Operand} {l n:Nat} {enc:α→List AVal} {xs:List α} {e n' by_:Nat} {zc:List Value} {e':TE} {lo hi:Int}
  (ho:o.op=.slice t x low high none) (hx:ev Γ x=some (.o l)) (hl:find H l=some (.val (.os n enc xs))) (ht:find tb t=some ⟨.sl e,n',by_,zc⟩) (he:find tb e=some e') (hn:e'.n=n) (hlo:Bd Γ low 0 lo) (hhi:Bd Γ high xs.length hi) (hb:0≤lo∧lo≤hi∧hi≤(xs.length:Int)):
  Rd P B Γ H nl o (.vw l n lo.toNat (hi-lo).toNat) none:=fun B hB β F a w hβ hf=>by
 obtain⟨dst,op,ty,pos,af,g⟩:=o
 simp only at ho;subst ho;subst hn
 obtain⟨F0,hF0,v,hv,hon⟩:=hf.heap.get hl
 have hX:=(Q5 (a:=a) hf.env hx).o_inv
 rw [hv] at hX
 have hX:=Option.some.inj hX
 obtain⟨dd,hdd,rfl⟩:=htb.und ht
 generalize hn2:AVal.os e'.n enc xs=A at hon
 cases hon with
 | ro F h=>subst hn2;cases h
 | arr=>cases hn2
 | om=>cases hn2
 | osNil n2 enc2 F p=>
  cases hn2
  have h0:lo=0:=by simp at hb;omega
  have h1:hi=0:=by simp at hb;omega
  subst h0;subst h1
  refine⟨.slice p 0 0,.vw _ _ _ _ _ (.inl ⟨rfl,p,0,rfl⟩),fun w' _=>?_⟩
  have hrun:=GT (P:=P) (w:=w') hf.env (len:=0) (cap:=0) hlo hhi hb (Nat.le_refl _)
  simp [execOp,Instr.sliceAt,Instr.slice,run_underlying hdd,←hX,hrun,htb.size he]
 | os n2 enc2 xs2 b off cap c T F G hbF hw hlen2 hcap hn3 hG hd' hr=>
  cases hn2
  have hm:lo.toNat≤cap:=by omega
  refine⟨.slice (some (if cap=lo.toNat then ⟨b,off,none⟩ else ⟨b,off+lo.toNat*e'.n,none⟩)) (hi.toNat-lo.toNat) (cap-lo.toNat),.vw _ _ _ _ _ ?_,fun w' _=>?_⟩
  ·have e1:hi.toNat-lo.toNat=(hi-lo).toNat:=by omega
   rw [e1]
   rcases Nat.eq_zero_or_pos (hi-lo).toNat with h0 | h0
   ·rw [h0];exact .inl ⟨rfl,_,_,rfl⟩
   ·rw [if_neg (by omega)]
    exact .inr ⟨h0,b,off,xs.length,cap,by rw [hv],by omega,rfl⟩
  ·have hrun:=GT (P:=P) (w:=w') hf.env (len:=xs.length) (cap:=cap) hlo hhi hb hlen2
   simp [execOp,Instr.sliceAt,Instr.slice,run_underlying hdd,←hX,hrun,htb.size he]
   split <;> simp [Kx]
theorem Rd.vl (htb:QI P tb) {t:TypeId} {x:Operand} {l n i m e n' by_:Nat} {zc:List Value} (ho:o.op=.call ⟨.builtin .len,#[x],#[t]⟩) (hx:ev Γ x=some (.vw l n i m)) (ht:find tb t=some ⟨.sl e,n',by_,zc⟩):
  Rd P B Γ H nl o (.v (.int .i64 (m:Int))) none:=fun B hB β F a w hβ hf=>by
 obtain⟨dst,op,ty,pos,af,g⟩:=o
 simp only at ho;subst ho
 have hX:=(Q5 (a:=a) hf.env hx).vw_inv
 obtain⟨dd,hdd,rfl⟩:=htb.und ht
 refine⟨_,.ro (.v _),fun w' _=>?_⟩
 rcases hX with ⟨h0,p,c,hv⟩ | ⟨h0,b,o',len,cap,h1,h2,hv⟩
 ·subst h0
  simp [execOp,resolve,invoke,builtin,hv,Builtin.len_,Builtin.lenOf,run_underlying hdd,goInt]
 ·simp [execOp,resolve,invoke,builtin,hv,Builtin.len_,Builtin.lenOf,run_underlying hdd,goInt]
theorem Rd.vi (htb:QI P tb) {t:TypeId} {x i:Operand} {l n i0 m:Nat} {k:IntKind} {j:Int} {e n' by_:Nat} {zc:List Value} {e':TE}
  (ho:o.op=.indexAddr t x i) (hx:ev Γ x=some (.vw l n i0 m)) (hi:ev Γ i=some (.v (.int k j))) (ht:find tb t=some ⟨.sl e,n',by_,zc⟩) (he:find tb e=some e') (hn:e'.n=n) (hj:0≤j∧j<(m:Int)):
  Rd P B Γ H nl o (.ep l n (i0+j.toNat) 0) none:=fun B hB β F a w hβ hf=>by
 obtain⟨dst,op,ty,pos,af,g⟩:=o
 simp only at ho;subst ho;subst hn
 have hX:=(Q5 (a:=a) hf.env hx).vw_inv
 have hI:=(Q5 (a:=a) hf.env hi).v_inv
 obtain⟨d,hd,rfl⟩:=htb.und ht
 rcases hX with ⟨h0,p,c,hv⟩ | ⟨h0,b,o',len,cap,h1,h2,hv⟩
 ·omega
 ·refine⟨_,.ep l e'.n (i0+j.toNat) 0 b o' len cap h1,fun w' _=>?_⟩
  have e1:o'+i0*e'.n+j.toNat*e'.n=o'+(i0+j.toNat)*e'.n:=by rw [Nat.add_mul];omega
  simp [execOp,Instr.indexAt,hI,asIntOf,run_underlying hd,hv,hj.1,hj.2,htb.size he,Kx,e1]
theorem Eff1.clv (htb:QI P tb) {α:Type} {t:TypeId} {x:Operand} {l n i m:Nat} {enc:α→List AVal} {xs:List α} {z0:α} {e n' by_:Nat} {zc:List Value} {e':TE} (ho:o.op=.call ⟨.builtin .clear,#[x],#[t]⟩) (hx:ev Γ x=some (.vw l n i m)) (hl:find H l=some (.val (.os n enc xs)))
  (ht:find tb t=some ⟨.sl e,n',by_,zc⟩) (he:find tb e=some e') (hn:e'.n=n) (hz:enc z0=e'.zc.map AVal.v) (hflat:∀x,(enc x).all AVal.isRo=true) (hd:o.dst=none) (hm:i+m≤xs.length):
  Eff1 P B Γ H nl o Γ (setH H l (.val (.os n enc (xs.take i++(List.replicate m z0++xs.drop (i+m)))))) nl (.fx [l] false):=Eff1.of_value fun B hB β F a w hβ hf=>by
 obtain⟨dst,op,ty,pos,af,g⟩:=o
 simp only at ho hd;subst ho;subst hd;subst hn
 have hX:=(Q5 (a:=a) hf.env hx).vw_inv
 obtain⟨dd,hdd,rfl⟩:=htb.und ht
 obtain⟨zv,hzv,hzc,_,hzl,hz1⟩:=htb.zero he
 obtain⟨F1,hF1,⟨v,hv,hon⟩,hset⟩:=hf.heap.set hl
 rcases hX with ⟨h0,p,c,hxv⟩ | ⟨h0,b',o',len,cap',h1,h2,hxv⟩
 ·subst h0
  have e1:xs.take i++(List.replicate 0 z0++xs.drop (i+0))=xs:=by simp
  rw [e1]
  refine⟨.tuple #[],w,β,F,?_,hβ,fun _ _ h=>h,fun l x b hl hx _=>?_,⟨hf.kp,hf.ok,hf.own,hset _ _ (fun _ _ _ _=>rfl) ⟨v,hv,hon⟩,hf.env,by simpa [Act.put] using hf.size,hf.defers,hf.pre⟩,.refl _ _⟩
  ·cases p <;> simp [execOp,resolve,invoke,builtin,hxv,Builtin.clear_,run_underlying hdd]
  ·rw [List.getElem?_eq_none (by omega)] at hx;cases hx
 ·rw [hv] at h1;cases h1
  have hfl:=hon.flat_of (fun x A h=>List.all_eq_true.1 (hflat x) A h)
  generalize hvv:Value.slice (some ⟨b',o',none⟩) len cap'=v at hfl
  cases hfl with
  | nil p h=>cases hvv;omega
  | row b off2 cap c T' hFb hw hlen hcap hnn hr=>
   cases hvv
   have hzs:zv.cells.size=e'.n:=by rw [←hzl,←hzc];simp
   generalize hvs:(Builtin.zeroCells zv.cells m).toList=vs
   have hvl:vs.length=m*e'.n:=by rw [←hvs];simp [size_zeroCells,hzs]
   have hvk:∀k,vs[k]?=if k<m*e'.n then some (zv.cells[k % e'.n]!) else none:=fun k=>by
    rw [←hvs]
    simp only [Builtin.zeroCells,Array.getElem?_toList,Array.getElem?_map,hzs]
    by_cases hk:k<m*e'.n
    ·rw [if_pos hk,Array.getElem?_range];simp [hk]
    ·rw [if_neg hk,Array.getElem?_eq_none (by simpa using hk)];rfl
   have hzr:∀r,r<e'.n→zv.cells[r]! = e'.zc.getD r undef:=fun r hr=>by
    rw [←hzc,getElem!_pos zv.cells r (by omega),List.getD_eq_getElem?_getD,List.getElem?_eq_getElem (by simp;omega)];simp
   have hvg:∀(q r:Nat),q<m→r<e'.n→vs[q*e'.n+r]?=some (e'.zc.getD r undef):=fun q r hq hr=>by
    have hlt:q*e'.n+r<m*e'.n:=by
     have:(q+1)*e'.n≤m*e'.n:=Nat.mul_le_mul_right _ hq
     rw [Nat.succ_mul] at this;omega
    rw [hvk,if_pos hlt]
    have e2:(q*e'.n+r) % e'.n=r:=by rw [Nat.add_comm,Nat.add_mul_mod_self_right,Nat.mod_eq_of_lt hr]
    rw [e2,hzr r hr]
   have hone':∀v∈vs,v.oneCell'=true:=fun v hv=>by
    obtain⟨q,hq⟩:=List.getElem?_of_mem hv
    rw [hvk] at hq
    split at hq
    ·rename_i hlt
     have hpos:0<e'.n:=by
      rcases Nat.eq_zero_or_pos e'.n with h | h
      ·rw [h] at hlt;simp at hlt
      ·exact h
     have hr:=Nat.mod_lt q hpos
     rw [hzr _ hr] at hq
     cases hq
     rw [List.getD_eq_getElem?_getD,List.getElem?_eq_getElem (by omega)]
     exact hz1 _ (List.getElem_mem _)
    ·cases hq
   have hie:o'+i*e'.n+vs.length≤c.size:=by
    rw [hvl]
    have:(i+m)*e'.n≤cap'*e'.n:=Nat.mul_le_mul_right _ (by omega)
    rw [Nat.add_mul] at this;omega
   have hst:=run_storeCells_at (P:=P) b' (o'+i*e'.n) T' vs 0 c w hw (by simpa using hie) hone'
   simp only [Nat.add_zero] at hst
   generalize hc2:(c.toList.take (o'+i*e'.n)++vs++c.toList.drop (o'+i*e'.n+vs.length)).toArray=c2 at hst
   have hc2s:c2.size=c.size:=by rw [←hc2];simp only [List.size_toArray,List.length_append,List.length_take,List.length_drop,Array.length_toList];omega
   have hrow:=setRow_heap w b' c c2 T' (0,0) hw
   have hhd:Mod β [l] b':=⟨l,by simp,_,hv,by obtain⟨k,rfl⟩:∃k,cap'=k+1:=⟨cap'-1,by omega⟩;rfl⟩
   have hk:=Xc w b' c2 (fun x=>x=b') rfl
   have hM:∀x,x=b'→x<B.w0.heap.size→B.M x:=fun x hx hlt'=>by subst hx;exact (hf.own x (hF1 x hFb)).2 hlt'
   have hxl:(xs.take i++(List.replicate m z0++xs.drop (i+m))).length=xs.length:=by simp;omega
   have hget:∀p u,(xs.take i++(List.replicate m z0++xs.drop (i+m)))[p]?=some u→(p<i∧xs[p]?=some u)∨(i≤p∧p<i+m∧u=z0)∨(i+m≤p∧xs[p]?=some u):=fun p u hu=>by
    have hti:(xs.take i).length=i:=by simp;omega
    rcases Nat.lt_or_ge p i with h | h
    ·rw [List.getElem?_append_left (by omega),List.getElem?_take,if_pos h] at hu;exact .inl ⟨h,hu⟩
    ·rw [List.getElem?_append_right (by omega),hti] at hu
     rcases Nat.lt_or_ge p (i+m) with h' | h'
     ·rw [List.getElem?_append_left (by simp;omega),List.getElem?_replicate,if_pos (by omega)] at hu
      exact .inr (.inl ⟨h,h',(Option.some.inj hu).symm⟩)
     ·rw [List.getElem?_append_right (by simp;omega),List.length_replicate,List.getElem?_drop] at hu
      have e3:i+m+(p-i-m)=p:=by omega
      rw [e3] at hu
      exact .inr (.inr ⟨h',hu⟩)
   have hzlen:(enc z0).length=e'.n:=by rw [hz];simpa using hzl
   refine⟨.tuple #[],w.setRow b' c2,β,F,?_,hβ,fun _ _ h=>h,fun l x b hl hx _=>?_,⟨hf.kp.trans hk hM,hf.ok,fun b hb=>by have:=hf.own b hb;exact⟨by simpa using this.1,this.2⟩,hset _ _ (fun b'' hb hn hlt=>setRow_other w b' b'' c2 (fun e=>hn (e▸hFb))) ⟨_,hv,?_⟩,hf.env,by simpa [Act.put] using hf.size,hf.defers,hf.pre⟩,Xc w b' c2 _ hhd⟩
   ·obtain⟨m',rfl⟩:∃m',m=m'+1:=⟨m-1,by omega⟩
    simp only [execOp,resolve,invoke,builtin,Sem.run_bind,Sem.run_pure,Result.andThen_ok]
    simp [hxv,Builtin.clear_,run_underlying hdd,hzv,hvs,hst]
   ·rw [List.getElem?_eq_none (by omega)] at hx;cases hx
   ·have:=On.flat (w0:=B.w0) (ok:=B.ok) (enc:=enc) (n:=e'.n) (xs:=xs.take i++(List.replicate m z0++xs.drop (i+m))) (off:=o') (cap:=cap') (c:=c2) (F:=F1) hFb hrow (by rw [hxl];exact hlen) (by rw [hc2s];exact hcap) (fun p u hu=>?_) (fun p j u A hu hA=>?_)
    ·rw [hxl] at this;exact this
    ·rcases hget p u hu with h | h | h
     ·exact hnn p u h.2
     ·rw [h.2.2];exact hzlen
     ·exact hnn p u h.2
    ·have hj:j<e'.n:=by
      have:=(List.getElem?_eq_some_iff.1 hA).1
      rcases hget p u hu with h | h | h
      ·rw [hnn p u h.2] at this;exact this
      ·rw [h.2.2,hzlen] at this;exact this
      ·rw [hnn p u h.2] at this;exact this
     rw [←hc2,Gc _ _ _ hie,hvl]
     rcases hget p u hu with h | h | h
     ·rw [if_neg]
      ·exact hr p j u A h.2 hA
      ·have:(p+1)*e'.n≤i*e'.n:=Nat.mul_le_mul_right _ (by omega)
       rw [Nat.succ_mul] at this;omega
     ·obtain⟨h4,h5,rfl⟩:=h
      have h6:i*e'.n≤p*e'.n:=Nat.mul_le_mul_right _ h4
      have h7:(p+1)*e'.n≤(i+m)*e'.n:=Nat.mul_le_mul_right _ h5
      rw [Nat.succ_mul,Nat.add_mul] at h7
      rw [if_pos (by omega)]
      have e4:o'+p*e'.n+j-(o'+i*e'.n)=(p-i)*e'.n+j:=by rw [Nat.sub_mul];omega
      rw [e4,List.getD_eq_getElem?_getD,hvg (p-i) j (by omega) hj,Option.getD_some]
      rw [hz,List.getElem?_map] at hA
      rw [List.getD_eq_getElem?_getD]
      cases hq:e'.zc[j]? with
      | none=>rw [hq] at hA;cases hA
      | some y=>rw [hq] at hA;simp at hA;subst hA;exact .v _
     ·rw [if_neg]
      ·exact hr p j u A h.2 hA
      ·have:(i+m)*e'.n≤p*e'.n:=Nat.mul_le_mul_right _ h.1
       rw [Nat.add_mul] at this;omega
end
def Q0e (s:ByteArray) (c:Int):Int:=Lib.indexByte s.data.toList c.toNat.toUInt8
end Go.Taq
