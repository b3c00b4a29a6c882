/- The library of the generated walks, part K: parts of slices, elements of owned slices. -/
import Derived.Test.YtpckofngkabgbaaGreatLibJ
set_option linter.unusedVariables false
namespace Go.Taq
open Go
def sub {α:Type} (xs:List α) (lo hi:Int):List α:=(xs.drop lo.toNat).take (hi.toNat-lo.toNat)
inductive Bd (Γ:Env):Option Operand→Int→Int→Prop where
 | none (d:Int):Bd Γ Option.none d d
 | some {x:Operand} {k:IntKind} {i:Int} (d:Int) (h:ev Γ x=Option.some (.v (.int k i))):Bd Γ (Option.some x) d i
section
variable {P:Program} {B:Base} {tb:Tab} {Γ:Env} {H:Heap} {nl:Nat} {o:Oper}
theorem GT {w0 w:World} {ok:Nat→Prop} {β:List Value} {a:Act} (hΓ:WL w0 ok β Γ a) {low high:Option Operand} {len cap:Nat} {lo hi:Int} (hlo:Bd Γ low 0 lo) (hhi:Bd Γ high len hi) (h:0≤lo∧lo≤hi∧hi≤len) (hc:len≤cap):
  (Instr.sliceBounds true len cap (low.map a.eval) (high.map a.eval) none).run P w=.ok (lo.toNat,hi.toNat,cap) w:=by
 have hH:∀hi',hi'=hi→(hi':Int)≤(cap:Int):=fun _ e=>by omega
 have h1:hi≤(cap:Int):=by omega
 have h2:0≤hi:=by omega
 cases hhi with
 | none=>
  cases hlo with
  | none=>simp [Instr.sliceBounds]
  | some d h'=>
   have e:=(Q5 (a:=a) hΓ h').v_inv
   have:lo≤(len:Int):=h.2.1
   simp [Instr.sliceBounds,Instr.sliceBound,e,asIntOf,h.1,this]
 | some d hh=>
  have e2:=(Q5 (a:=a) hΓ hh).v_inv
  cases hlo with
  | none=>simp [Instr.sliceBounds,Instr.sliceBound,e2,asIntOf,h1,h2]
  | some d h'=>
   have e:=(Q5 (a:=a) hΓ h').v_inv
   have h3:(hi.toNat:Int)=hi:=Int.toNat_of_nonneg h2
   have:lo≤hi:=h.2.1
   simp [Instr.sliceBounds,Instr.sliceBound,e,e2,asIntOf,h1,h2,h.1,h3,this]
theorem Q0t {α:Type} {xs:List α} {lo hi:Int} {i:Nat} {x:α} (h:(sub xs lo hi)[i]?=some x):xs[lo.toNat+i]?=some x:=by
 unfold sub at h
 rw [List.getElem?_take] at h
 split at h
 ·rw [List.getElem?_drop] at h;exact h
 ·cases h
theorem Rd.so (htb:QI P tb) {α:Type} {t:TypeId} {x:Operand} {low high:Option Operand} {n:Nat} {enc:α→List AVal} {xs:List α} {e n' by_:Nat} {zc:List Value} {e':TE} {lo hi:Int}
  (ho:o.op=.slice t x low high none) (hx:ev Γ x=some (.sl n enc xs)) (ht:find tb t=some ⟨.sl e,n',by_,zc⟩) (he:find tb e=some e') (hn:e'.n=n) (hlo:Bd Γ low 0 lo) (hhi:Bd Γ high xs.length hi) (hb:0≤lo∧lo≤hi∧hi≤(xs.length:Int)):
  Rd P B Γ H nl o (.sl n enc (sub xs lo hi)) none:=fun B hB β F a w hβ hf=>by
 obtain⟨dst,op,ty,pos,af,g⟩:=o
 simp only at ho;subst ho;subst hn
 have hX:=(Q5 (a:=a) hf.env hx).sl_inv
 obtain⟨d,hd,rfl⟩:=htb.und ht
 have hlen:(sub xs lo hi).length=hi.toNat-lo.toNat:=by unfold sub;simp;omega
 generalize hv:a.eval x=v at hX
 cases hX with
 | slNil n enc p=>
  have h0:lo=0:=by simp at hb;omega
  have h1:hi=0:=by simp at hb;omega
  subst h0;subst h1
  refine⟨.slice p 0 0,.ro (.slNil _ _ p),fun w' _=>?_⟩
  have hrun:=GT (P:=P) (w:=w') hf.env (len:=0) (cap:=0) hlo hhi hb (Nat.le_refl _)
  simp [execOp,Instr.sliceAt,Instr.slice,run_underlying hd,hv,hrun,htb.size he]
 | sl _ _ _ b off cap f hbk hcap hn' hc hr=>
  have hm:lo.toNat≤cap:=by omega
  refine⟨.slice (some (if cap=lo.toNat then ⟨b,off,none⟩ else ⟨b,off+lo.toNat*e'.n,none⟩)) (hi.toNat-lo.toNat) (cap-lo.toNat),?_,fun w' _=>?_⟩
  ·by_cases hcl:cap=lo.toNat
   ·have hz:sub xs lo hi=[]:=List.eq_nil_of_length_eq_zero (by rw [hlen];omega)
    rw [if_pos hcl,hz]
    have e1:hi.toNat-lo.toNat=0:=by omega
    have e2:cap-lo.toNat=0:=by omega
    rw [e1,e2];exact .ro (.slNil _ _ _)
   ·rw [if_neg hcl,←hlen]
    refine .ro (.sl _ _ _ b _ _ (fun i j=>f (lo.toNat+i) j) hbk (by omega) (fun i x hx=>hn' _ x (Q0t hx)) (fun i j x A hx hA=>?_) (fun i j x A hx hA=>hr _ j x A (Q0t hx) hA))
    have:=hc _ j x A (Q0t hx) hA
    rw [←this];congr 2;rw [Nat.add_mul];omega
  ·have hrun:=GT (P:=P) (w:=w') hf.env (len:=xs.length) (cap:=cap) hlo hhi hb hcap
   simp [execOp,Instr.sliceAt,Instr.slice,run_underlying hd,hv,hrun,htb.size he]
   split <;> simp [Kx]
theorem Qi {α:Type} {xs:List α} {j:Int} {y:α} (h:idx xs j=some y):0≤j∧j<(xs.length:Int)∧xs[j.toNat]?=some y:=by
 unfold idx at h
 split at h
 ·rename_i h0
  have:=(List.getElem?_eq_some_iff.1 h).1
  exact⟨h0,by omega,h⟩
 ·cases h
theorem Rd.io (htb:QI P tb) {α:Type} {t:TypeId} {x i:Operand} {l n:Nat} {enc:α→List AVal} {xs:List α} {k:IntKind} {j:Int} {y:α} {e n' by_:Nat} {zc:List Value} {e':TE}
  (ho:o.op=.indexAddr t x i) (hx:ev Γ x=some (.o l)) (hl:find H l=some (.val (.os n enc xs))) (hi:ev Γ i=some (.v (.int k j))) (ht:find tb t=some ⟨.sl e,n',by_,zc⟩) (he:find tb e=some e') (hn:e'.n=n) (hy:idx xs j=some y):
  Rd P B Γ H nl o (.ep l n j.toNat 0) none:=fun B hB β F a w hβ hf=>by
 obtain⟨dst,op,ty,pos,af,g⟩:=o
 simp only at ho;subst ho;subst hn
 obtain⟨h0,h1,h2⟩:=Qi hy
 obtain⟨F1,hF1,v,hv,hon⟩:=hf.heap.get hl
 have hX:=(Q5 (a:=a) hf.env hx).o_inv
 rw [hv] at hX;cases hX
 have hI:=(Q5 (a:=a) hf.env hi).v_inv
 obtain⟨d,hd,rfl⟩:=htb.und ht
 generalize hav:a.eval x=v at hv hon
 cases hon with
 | ro F h=>cases h
 | osNil=>simp at h2
 | os n enc xs b off cap c T F G hb hw hlen hcap hn hG hd' hr=>
  refine⟨_,.ep l e'.n j.toNat 0 b off xs.length cap hv,fun w' _=>?_⟩
  simp [execOp,Instr.indexAt,hI,asIntOf,run_underlying hd,hav,h0,h1,htb.size he,Kx]
theorem Rd.le (htb:QI P tb) {α:Type} {T:TypeId} {x:Operand} {l n i off:Nat} {enc:α→List AVal} {xs:List α} {y:α} {A:AVal} {rl:List Nat} {e':TE}
  (ho:o.op=.load T x) (hx:ev Γ x=some (.ep l n i off)) (hl:find H l=some (.val (.os n enc xs))) (hy:xs[i]?=some y) (hro:(enc y).all AVal.isRo=true) (he':find tb T=some e') (hA:Q0J tb [] T (.rp ((enc y).drop off))=some (A,rl)):
  Rd P B Γ H nl o A (some [l]):=fun B hB β F a w hβ hf=>by
 obtain⟨dst,op,ty,pos,af,g⟩:=o
 simp only at ho;subst ho
 obtain⟨F1,hF1,v,hv,hon⟩:=hf.heap.get hl
 obtain⟨b',o',len,cap',hb',hX⟩:=(Q5 (a:=a) hf.env hx).ep_inv
 rw [hv] at hb';cases hb'
 cases hon with
 | ro F h=>cases h
 | osNil=>simp at hy
 | os n enc xs b off2 cap c T' F G hb hw hlen hcap hn hG hd' hr=>
  have hlen':=hn i y hy
  have hi:=(List.getElem?_eq_some_iff.1 hy).1
  have hle:o'+i*n+n≤c.size:=by
   have:(i+1)*n≤cap'*n:=Nat.mul_le_mul_right _ (by omega)
   rw [Nat.succ_mul] at this;omega
  have hmod:∀w':World,(∀b,Mod β [l] b→w'.heap[b]?=w.heap[b]?)→w'.heap[b']?=some (.cells c T' (0,0)):=fun w' hw'=>by
   rw [hw' b' ⟨l,by simp,_,hv,(by
    obtain⟨k,rfl⟩:∃k,cap'=k+1:=⟨cap'-1,by omega⟩
    rfl)⟩];exact hw
  have hroj:∀(j:Nat) (A:AVal),((enc y).drop off)[j]?=some A→Ro B.w0 B.ok A (c.getD (o'+i*n+off+j) undef):=fun j A hA=>by
   rw [List.getElem?_drop] at hA
   have:=hr i _ y A hy hA
   have hiro:=List.all_eq_true.1 hro A (List.mem_of_getElem? hA)
   rw [←Nat.add_assoc] at this
   exact this.ro_of hiro
  have hcell:∀w':World,(∀b,Mod β [l] b→w'.heap[b]?=w.heap[b]?)→∀(j:Nat) (A:AVal),((enc y).drop off)[j]?=some A→w'.cell? ⟨b',o'+i*n+off+j,none⟩=some (c.getD (o'+i*n+off+j) undef):=fun w' hw' j A hA=>by
   have hj:=(List.getElem?_eq_some_iff.1 hA).1
   simp only [List.length_drop] at hj
   exact XB (hmod w' hw') (by omega)
  simp only [execOp,Instr.loadAt]
  unfold Q0J at hA
  rw [he'] at hA
  simp only at hA
  split at hA
  ·rename_i hagg
   split at hA
   ·rename_i hle2
    simp only [Option.some.injEq,Prod.mk.injEq] at hA
    obtain⟨rfl,rfl⟩:=hA
    refine⟨_,Dn.agg_of (n:=e'.n) (f:=fun j=>c.getD (o'+i*n+off+j) undef) (by simp at hle2 ⊢;omega) (fun j A hA=>?_),fun w' ⟨_,hw'⟩=>?_⟩
    ·have hj:j<e'.n:=by
      rcases Nat.lt_or_ge j e'.n with h | h
      ·exact h
      ·simp [List.getElem?_take,Nat.not_lt.2 h] at hA
     rw [List.getElem?_take,if_pos hj] at hA
     exact .ro (hroj _ _ hA)
    ·rw [hX]
     simp only [Sem.run_bind,Instr.sureAddr,Sem.run_pure,Result.andThen_ok]
     rw [XY htb he' (fun j=>c.getD (o'+i*n+off+j) undef) (fun j hj=>hcell w' hw' j _ (List.getElem?_eq_getElem (by omega))) hagg]
     rfl
   ·cases hA
  ·rename_i hagg
   split at hA
   ·rename_i A' hA'
    simp only [Option.some.injEq,Prod.mk.injEq] at hA
    obtain⟨rfl,rfl⟩:=hA
    refine⟨_,.ro (hroj _ _ hA'),fun w' ⟨_,hw'⟩=>?_⟩
    have this:w'.cell? ⟨b',o'+i*n+off,none⟩=some (c.getD (o'+i*n+off+0) undef):=hcell w' hw' 0 _ hA'
    rw [hX]
    simp only [Sem.run_bind,Instr.sureAddr,Sem.run_pure,Result.andThen_ok]
    rw [XM htb he' this (by simpa using hagg)]
    rfl
   ·cases hA
theorem Eff1.se (htb:QI P tb) {α:Type} {T:TypeId} {x y:Operand} {l n i off:Nat} {enc:α→List AVal} {xs:List α} {z z':α} {A:AVal} {cs:List AVal} {e:TE} (ho:o.op=.store T x y) (hx:ev Γ x=some (.ep l n i off)) (hl:find H l=some (.val (.os n enc xs)))
  (hz:xs[i]?=some z) (hy:ev Γ y=some A) (hc:A.cells=some cs) (he:find tb T=some e) (hn:cs.length=e.n) (hle:(off+cs.length).ble (enc z).length=true) (h1:cs.all WX=true) (hz':enc z'=setCells (enc z) off cs) (hro:(enc z).all AVal.isRo=true) (hflat:∀x,(enc x).all AVal.isRo=true) (hd:o.dst=none):
  Eff1 P B Γ H nl o Γ (setH H l (.val (.os n enc (xs.set i z')))) nl (.fx [l] false):=Eff1.of_skip fun B hB β F a w hβ hf=>by
 obtain⟨dst,op,ty,pos,af,g⟩:=o
 simp only at ho hd;subst ho;subst hd
 obtain⟨b',o',len,cap',hb',hxv⟩:=(Q5 (a:=a) hf.env hx).ep_inv
 have hYd:=Q5 (a:=a) hf.env hy
 have hY:=hYd.cells hc
 have hle':=Nat.le_of_ble_eq_true hle
 obtain⟨F1,hF1,⟨v,hv,hon⟩,hset⟩:=hf.heap.set hl
 rw [hv] at hb';cases hb'
 have hfl:=hon.flat_of (fun x A h=>List.all_eq_true.1 (hflat x) A h)
 generalize hvv:Value.slice (some ⟨b',o',none⟩) len cap'=v at hfl
 cases hfl with
 | nil p h=>subst h;simp at hz
 | row b off2 cap c T' hFb hw hlen hcap hnn hr=>
  cases hvv
  have hi:=(List.getElem?_eq_some_iff.1 hz).1
  have hzl:=hnn i z hz
  have hle3:o'+i*n+n≤c.size:=by
   have:(i+1)*n≤cap'*n:=Nat.mul_le_mul_right _ (by omega)
   rw [Nat.succ_mul] at this;omega
  have hsz:(a.eval y).cells.size=e.n:=by rw [←hY.1];exact hn
  have hone:ones cs=true:=List.all_eq_true.2 (fun A hA=>Ws (List.all_eq_true.1 h1 A hA))
  have hone':=hY.ones hone
  have hcl:cs.length=(a.eval y).cells.toList.length:=by rw [hY.1];simp
  have hle2:o'+i*n+off+(a.eval y).cells.toList.length≤c.size:=by rw [←hcl];omega
  have hst:=run_storeCells_at (P:=P) b' (o'+i*n+off) T' (a.eval y).cells.toList 0 c w hw (by simpa using hle2) hone'
  simp only [Nat.add_zero] at hst
  generalize hc2:(c.toList.take (o'+i*n+off)++(a.eval y).cells.toList++c.toList.drop (o'+i*n+off+(a.eval y).cells.toList.length)).toArray=c2 at hst
  have hc2s:c2.size=c.size:=by rw [←hc2];simp only [List.size_toArray,List.length_append,List.length_take,List.length_drop,Array.length_toList];simp only [Array.length_toList] at hle2;omega
  have hrow:=setRow_heap w b' c c2 T' (0,0) hw
  have hcap0:∃k,cap'=k+1:=⟨cap'-1,by omega⟩
  have hhd:Mod β [l] b':=⟨l,by simp,_,hv,by obtain⟨k,rfl⟩:=hcap0;rfl⟩
  refine⟨w.setRow b' c2,β,F,?_,hβ,fun _ _ h=>h,fun l x b hl hx _=>?_,?_,Xc w b' c2 _ hhd⟩
  ·simp only [execOp,Instr.storeAt,hxv,Instr.sureAddr,Sem.run_bind,Sem.run_pure,Result.andThen_ok,storeVar,htb.size he]
   rw [Sem.run_ite,if_neg (by simp [hsz]),hst];rfl
  ·rw [List.getElem?_eq_none (by omega)] at hx;cases hx
  ·have hk:=Xc w b' c2 (fun x=>x=b') rfl
   have hM:∀x,x=b'→x<B.w0.heap.size→B.M x:=fun x hx hlt'=>by subst hx;exact (hf.own x (hF1 x hFb)).2 hlt'
   refine⟨hf.kp.trans hk hM,hf.ok,fun b hb=>by have:=hf.own b hb;exact⟨by simpa using this.1,this.2⟩,hset _ _ (fun b'' hb hn hlt=>setRow_other w b' b'' c2 (fun e=>hn (e▸hFb))) ⟨_,hv,?_⟩,hf.env,by simpa [Act.put] using hf.size,hf.defers,hf.pre⟩
   have:=On.flat (w0:=B.w0) (ok:=B.ok) (enc:=enc) (n:=n) (xs:=xs.set i z') (off:=o') (cap:=cap') (c:=c2) (F:=F1) hFb hrow (by simpa using hlen) (by rw [hc2s];exact hcap) (fun m u hu=>?_) (fun m j u A hu hA=>?_)
   ·simpa using this
   ·rw [List.getElem?_set] at hu
    split at hu
    ·cases hu;rw [hz',GU];exact hzl
    ·exact hnn m u hu
   ·rw [←hc2,Gc _ _ _ hle2,←hcl]
    rw [List.getElem?_set] at hu
    by_cases e:i=m
    ·subst e
     rw [if_pos rfl] at hu;try rw [if_pos hi] at hu
     cases hu
     rw [hz',Wg _ _ _ _ hle'] at hA
     split at hA
     ·rename_i hj
      rw [if_pos (by omega)]
      have hd:=hY.2 _ _ hA
      have hro':=Y1 (List.all_eq_true.1 h1 A (List.mem_of_getElem? hA))
      have e2:o'+i*n+j-(o'+i*n+off)=j-off:=by omega
      rw [e2]
      have:=hd.ro_of hro'
      simpa [Array.getD_eq_getD_getElem?] using this
     ·rename_i hj
      have hjn:=(List.getElem?_eq_some_iff.1 hA).1
      rw [if_neg (by omega)]
      exact hr i j z A hz hA
    ·rw [if_neg e] at hu
     have hjn:=(List.getElem?_eq_some_iff.1 hA).1
     rw [hnn m u hu] at hjn
     rw [if_neg ?_]
     ·exact hr m j u A hu hA
     ·intro hcond
      rcases Nat.lt_or_ge i m with h | h
      ·have:(i+1)*n≤m*n:=Nat.mul_le_mul_right _ h
       rw [Nat.succ_mul] at this;omega
      ·have:(m+1)*n≤i*n:=Nat.mul_le_mul_right _ (by omega)
       rw [Nat.succ_mul] at this;omega
theorem Eff1.sw (htb:QI P tb) {α:Type} {t:TypeId} {x:Operand} {low high:Option Operand} {l n:Nat} {enc:α→List AVal} {xs:List α} {e n' by_:Nat} {zc:List Value} {e':TE} {lo hi:Int} {d:Nat}
  (ho:o.op=.slice t x low high none) (hd:o.dst=some d) (hlt:d.blt B.n=true) (hx:ev Γ x=some (.o l)) (hl:find H l=some (.val (.os n enc xs))) (ht:find tb t=some ⟨.sl e,n',by_,zc⟩) (he:find tb e=some e') (hn:e'.n=n) (hlo:Bd Γ low 0 lo) (hhi:Bd Γ high xs.length hi) (hb:0≤lo∧lo≤hi∧hi≤(xs.length:Int)):
  Eff1 P B Γ H nl o ((d,.o nl) :: Γ) (repH H l nl (.val (.os n enc (sub xs lo hi)))) (nl+1) (.fx [l] false):=Eff1.of_value fun B hB β F a w hβ hf=>by
 rw [←hB] at hlt
 obtain⟨dst,op,ty,pos,af,g⟩:=o
 simp only at ho hd;subst ho;subst hd;subst hn;subst hβ
 obtain⟨dd,hdd,rfl⟩:=htb.und ht
 have hlen:(sub xs lo hi).length=hi.toNat-lo.toNat:=by unfold sub;simp;omega
 obtain⟨F0,hF0,v,hv,hon⟩:=hf.heap.get hl
 have hX:=(Q5 (a:=a) hf.env hx).o_inv
 rw [hv] at hX
 have hX:=Option.some.inj hX
 have hkey:∃v',(execOp a.eval ⟨some d,.slice t x low high none,ty,pos,af,g⟩).run P w=.ok (.value v') w∧v'.oneCell'=true∧(∀b,hdr v'=some b→hdr v=some b)∧∀F1:Nat→Prop,On B.w0 B.ok w (.os e'.n enc xs) v F1→On B.w0 B.ok w (.os e'.n enc (sub xs lo hi)) v' F1:=by
  generalize hn2:AVal.os e'.n enc xs=A at hon
  cases hon with
  | ro F h=>subst hn2;cases h
  | arr=>cases hn2
  | om=>cases hn2
  | osNil n2 enc2 F p=>
   cases hn2
   have h0:lo=0:=by simp at hb;omega
   have h1:hi=0:=by simp at hb;omega
   subst h0;subst h1
   have hrun:=GT (P:=P) (w:=w) hf.env (len:=0) (cap:=0) hlo hhi hb (Nat.le_refl _)
   refine⟨.slice p 0 0,?_,rfl,(fun b hb=>by cases p <;> cases hb),fun F1 _=>.osNil _ _ _ p⟩
   simp [execOp,Instr.sliceAt,Instr.slice,run_underlying hdd,←hX,hrun,htb.size he]
  | os n2 enc2 xs2 b off cap c T F G hbF hw hlen2 hcap hn3 hG hd' hr=>
   cases hn2
   have hm:lo.toNat≤cap:=by omega
   have hrun:=GT (P:=P) (w:=w) hf.env (len:=xs.length) (cap:=cap) hlo hhi hb hlen2
   refine⟨.slice (some (if cap=lo.toNat then ⟨b,off,none⟩ else ⟨b,off+lo.toNat*e'.n,none⟩)) (hi.toNat-lo.toNat) (cap-lo.toNat),?_,rfl,fun b' hb'=>?_,fun F1 hon'=>?_⟩
   ·simp [execOp,Instr.sliceAt,Instr.slice,run_underlying hdd,←hX,hrun,htb.size he]
    split <;> simp [Kx]
   ·cases hcc:cap-lo.toNat with
    | zero=>rw [hcc] at hb';cases hb'
    | succ k=>
     rw [hcc] at hb'
     obtain⟨k2,rfl⟩:∃k2,cap=k2+1:=⟨cap-1,by omega⟩
     split at hb' <;> · cases hb';rfl
   ·by_cases hcl:cap=lo.toNat
    ·have hz:sub xs lo hi=[]:=List.eq_nil_of_length_eq_zero (by rw [hlen];omega)
     have e1:hi.toNat-lo.toNat=0:=by omega
     have e2:cap-lo.toNat=0:=by omega
     rw [hz,e1,e2];exact .osNil _ _ _ _
    ·rw [if_neg hcl,←hlen]
     generalize hv2:Value.slice (some ⟨b,off,none⟩) xs.length cap=v2 at hon'
     generalize hA2:AVal.os e'.n enc xs=A2 at hon'
     cases hon' with
     | ro F h=>subst hA2;cases h
     | arr=>cases hA2
     | om=>cases hA2
     | osNil n4 enc4 F p=>cases hA2;cases hv2;simp at hcl hb;omega
     | os n4 enc4 xs4 b4 off4 cap4 c4 T4 F G4 hbF4 hw4 hlen4 hcap4 hn4 hG4 hd4 hr4=>
      cases hA2;cases hv2
      refine .os _ _ _ b _ _ c4 T4 F1 (fun i j=>G4 (lo.toNat+i) j) hbF4 hw4 (by omega) ?_ (fun i x hx=>hn4 _ x (Q0t hx)) (fun i j k h=>hG4 _ _ _ h) (fun i j i' j' k h h'=>by have:=hd4 _ _ _ _ _ h h';omega) (fun i j x A hx hA=>?_)
      ·have:lo.toNat*e'.n+(cap-lo.toNat)*e'.n=cap*e'.n:=by rw [←Nat.add_mul];congr 1;omega
       omega
      ·have:=hr4 _ j x A (Q0t hx) hA
       rw [Nat.add_mul,←Nat.add_assoc] at this;exact this
 obtain⟨v',hrun,hone,hhd,hres⟩:=hkey
 refine⟨v',w,β++[v'],fun b=>F b∨False,hrun,by simp,fun l x h=>Q8 h,fun l' x b hl' hx' hb=>?_,KH.put (A:=.o β.length) ⟨hf.kp,hf.ok,fun b hb=>hf.own b (hb.resolve_right (fun h=>h)),HOk.rep (fun l x h=>Q8 h) (fun _=>False) hf.heap hl (fun F1 hF1 hR=>?_) (fun b hb=>hb.elim) (fun b hb=>(hf.own b hb).1) (fun S k F1 h=>h.snoc v'),fun t' A hA=>(hf.env t' A hA).snoc v',hf.size,hf.defers,fun l x hl hx=>Q8 (hf.pre l x hl hx)⟩ hlt (.o _ _ (by simp) hone),.refl _ _⟩
 ·have:=GK rfl hl' hx';subst this;exact .inr ⟨l,by simp,v,hv,hhd b hb⟩
 ·obtain⟨y,hy,ho⟩:=hR
  rw [hv] at hy;cases hy
  exact⟨⟨v',by simp,(hres F1 ho).mono (fun b hb=>.inl hb)⟩,fun _ _ _=>rfl⟩
end
end Go.Taq
