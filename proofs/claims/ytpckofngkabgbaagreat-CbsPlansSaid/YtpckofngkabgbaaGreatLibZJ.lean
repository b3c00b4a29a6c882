/- The library of the generated walks, part ZJ: a variable with an array in it, at a computed place. -/
import Derived.Test.YtpckofngkabgbaaGreatLibO
import Derived.DeepKeys3
set_option linter.unusedVariables false
namespace Go.Taq
open Go
section
variable {P:Program} {B:Base} {tb:Tab} {Γ:Env} {H:Heap} {nl:Nat} {o:Oper}
theorem Z4 {α:Type} {m:Nat} {enc:α→List AVal} {pre post:List AVal} {xs:List α} (hen:∀y,(enc y).length=m) {i:Nat} {y:α} (hy:xs[i]?=some y) {q:Nat} (hq:q<m):
  (pre++((xs.map enc).flatten++post))[pre.length+i*m+q]?=(enc y)[q]?:=by
 obtain⟨fl1,fl2⟩:=Yi (n:=m) (enc:=enc) xs (fun y _=>hen y)
 have hlt:=(List.getElem?_eq_some_iff.1 hy).1
 have hle:(i+1)*m≤xs.length*m:=Nat.mul_le_mul_right _ hlt
 rw [Nat.succ_mul] at hle
 rw [List.getElem?_append_right (by omega),show pre.length+i*m+q-pre.length=i*m+q by omega,List.getElem?_append_left (by rw [fl1];omega)]
 exact fl2 i y hy q hq
theorem Rd.lj (htb:QI P tb) {α:Type} {T:TypeId} {x:Operand} {l off m sub:Nat} {pre post cells:List AVal} {enc:α→List AVal} {xs:List α} {j:Int} {y:α} {A:AVal} {e':TE}
  (ho:o.op=.load T x) (hx:ev Γ x=some (.p l off)) (hoff:off=pre.length+j.toNat*m+sub) (hl:find H l=some (.box cells)) (hcells:cells=pre++((xs.map enc).flatten++post)) (hen:∀y,(enc y).length=m)
  (hy:idx xs j=some y) (he':find tb T=some e') (hagg:e'.ti.agg=false) (hA:(enc y)[sub]?=some A):Rd P B Γ H nl o A (some [l]):=fun B hB β F a w hβ hf=>by
 obtain⟨dst,op,ty,pos,af,g⟩:=o
 simp only at ho;subst ho
 obtain⟨b,hb,hX⟩:=(Q5 (a:=a) hf.env hx).p_inv
 obtain⟨F1,hF1,b',c,T',hb',hw,hs,hd,hFb⟩:=hf.heap.get hl
 rw [hb] at hb';cases hb'
 have hq:sub<m:=by rw [←hen y];exact (List.getElem?_eq_some_iff.1 hA).1
 have hget:cells[off]?=some A:=by rw [hcells,hoff,Z4 hen (Qi hy).2.2 hq];exact hA
 refine⟨c.getD off undef,hd _ _ hget,fun w' ⟨_,hw'⟩=>?_⟩
 have hbk:w'.heap[b]?=some (.cells c T' (0,0)):=by rw [hw' b ⟨l,by simp,_,hb,rfl⟩];exact hw
 have this:w'.cell? ⟨b,off,none⟩=some (c.getD off undef):=XB hbk (by rw [←hs];exact (List.getElem?_eq_some_iff.1 hget).1)
 simp only [execOp,Instr.loadAt,hX,Sem.run_bind,Instr.sureAddr,Sem.run_pure,Result.andThen_ok]
 rw [XM htb he' this hagg]
 rfl
theorem Rd.ljg (htb:QI P tb) {α:Type} {T:TypeId} {x:Operand} {l off m sub:Nat} {pre post cells cs:List AVal} {enc:α→List AVal} {xs:List α} {j:Int} {y:α} {e':TE}
  (ho:o.op=.load T x) (hx:ev Γ x=some (.p l off)) (hoff:off=pre.length+j.toNat*m+sub) (hl:find H l=some (.box cells)) (hcells:cells=pre++((xs.map enc).flatten++post)) (hen:∀y,(enc y).length=m)
  (hy:idx xs j=some y) (he':find tb T=some e') (hagg:e'.ti.agg=true) (hcs:((enc y).drop sub).take e'.n=cs) (hn:cs.length=e'.n):Rd P B Γ H nl o (.agg cs) (some [l]):=fun B hB β F a w hβ hf=>by
 obtain⟨dst,op,ty,pos,af,g⟩:=o
 simp only at ho;subst ho
 obtain⟨b,hb,hX⟩:=(Q5 (a:=a) hf.env hx).p_inv
 obtain⟨F1,hF1,b',c,T',hb',hw,hs,hd,hFb⟩:=hf.heap.get hl
 rw [hb] at hb';cases hb'
 have hm:=hen y
 have hle:∀q,q<e'.n→sub+q<m:=fun q hq=>by
  have h1:=congrArg List.length hcs
  rw [hn,List.length_take,List.length_drop,hm] at h1
  omega
 have hget:∀q A,cs[q]?=some A→cells[off+q]?=some A:=fun q A hA=>by
  have hq:q<e'.n:=by rw [←hn];exact (List.getElem?_eq_some_iff.1 hA).1
  rw [hcells,hoff,Nat.add_assoc,Z4 hen (Qi hy).2.2 (hle q hq)]
  rw [←hcs,List.getElem?_take_of_lt hq,List.getElem?_drop] at hA
  exact hA
 refine⟨.agg ((List.range e'.n).map (fun q=>c.getD (off+q) undef)).toArray,.agg_of hn (fun q A hA=>hd _ _ (hget q A hA)),fun w' ⟨_,hw'⟩=>?_⟩
 have hbk:w'.heap[b]?=some (.cells c T' (0,0)):=by rw [hw' b ⟨l,by simp,_,hb,rfl⟩];exact hw
 simp only [execOp,Instr.loadAt,hX,Sem.run_bind,Instr.sureAddr,Sem.run_pure,Result.andThen_ok]
 rw [XY htb he' (fun q=>c.getD (off+q) undef) (fun q hq=>XB hbk (by
  have h1:cs[q]?=some (cs[q]'(by omega)):=List.getElem?_eq_getElem _
  rw [←hs];exact (List.getElem?_eq_some_iff.1 (hget q _ h1)).1)) hagg]
 rfl
theorem Eff1.sj (htb:QI P tb) {α:Type} {T:TypeId} {x y:Operand} {l off m:Nat} {A:AVal} {pre post cs cells cells':List AVal} {enc:α→List AVal} {xs ys:List α} {j:Int} {z z0:α} {e:TE} (ho:o.op=.store T x y)
  (hx:ev Γ x=some (.p l off)) (hoff:off=pre.length+j.toNat*m) (hl:find H l=some (.box cells)) (hcells:cells=pre++((xs.map enc).flatten++post)) (hen:∀y,(enc y).length=m) (hj:idx xs j=some z0)
  (hy:ev Γ y=some A) (hc:A.cells=some cs) (hz:enc z=cs) (he:find tb T=some e) (hn:m=e.n) (h1:ones cs=true) (hd:o.dst=none) (hset:xs.set j.toNat z=ys) (hcells':cells'=pre++((ys.map enc).flatten++post)):
  Eff1 P B Γ H nl o Γ (setH H l (.box cells')) nl (.fx [l] false):=by
 have hm:cs.length=m:=by rw [←hz];exact hen z
 have hlt:=(Qi hj).2.1
 have h0:=(Qi hj).1
 have hlt':j.toNat<xs.length:=by omega
 obtain⟨fl1,_⟩:=Yi (n:=m) (enc:=enc) xs (fun y _=>hen y)
 obtain⟨fl1',_⟩:=Yi (n:=m) (enc:=enc) ys (fun y _=>hen y)
 have hle:(j.toNat+1)*m≤xs.length*m:=Nat.mul_le_mul_right _ hlt'
 rw [Nat.succ_mul] at hle
 have hlen:cells.length=pre.length+xs.length*m+post.length:=by rw [hcells];simp only [List.length_append,fl1];omega
 have hys:ys.length=xs.length:=by rw [←hset];simp
 have hble:off+cs.length≤cells.length:=by omega
 have key:setCells cells off cs=cells':=by
  apply List.ext_getElem?
  intro i
  rw [Wg _ _ _ _ hble]
  by_cases c1:off≤i∧i<off+cs.length
  ·rw [if_pos c1,hcells']
   have e1:i=pre.length+j.toNat*m+(i-off):=by omega
   have hyj:ys[j.toNat]?=some z:=by rw [←hset,List.getElem?_set_self hlt']
   rw [e1,Z4 hen hyj (by omega),hz]
   congr 1;omega
  ·rw [if_neg c1,hcells,hcells']
   by_cases c2:i<pre.length
   ·rw [List.getElem?_append_left c2,List.getElem?_append_left c2]
   ·by_cases c3:i<pre.length+xs.length*m
    ·have hm0:0<m:=by
      rcases Nat.eq_zero_or_pos m with h | h
      ·subst h;omega
      ·exact h
     have hdm:i-pre.length=(i-pre.length) / m*m+(i-pre.length) % m:=by rw [Nat.mul_comm];exact (Nat.div_add_mod _ _).symm
     have hq:(i-pre.length) % m<m:=Nat.mod_lt _ hm0
     have hr:(i-pre.length) / m<xs.length:=by
      rw [Nat.div_lt_iff_lt_mul hm0];omega
     generalize (i-pre.length) / m=r at hdm hr
     generalize (i-pre.length) % m=q at hdm hq
     have e1:i=pre.length+r*m+q:=by omega
     have hne:r≠j.toNat:=by
      rintro rfl
      exact c1 ⟨by omega,by omega⟩
     have hx1:xs[r]?=some (xs[r]'hr):=List.getElem?_eq_getElem hr
     have hy1:ys[r]?=some (xs[r]'hr):=by rw [←hset,List.getElem?_set_ne (fun e=>hne e.symm)];exact hx1
     rw [e1,Z4 hen hx1 hq,Z4 hen hy1 hq]
    ·have a1:∀zs:List α,zs.length=xs.length→(zs.map enc).flatten.length=zs.length*m→(pre++((zs.map enc).flatten++post))[i]?=post[i-pre.length-xs.length*m]?:=fun zs hz1 hz2=>by
      rw [List.getElem?_append_right (by omega),List.getElem?_append_right (by rw [hz2,hz1];omega),hz2,hz1]
     rw [a1 xs rfl fl1,a1 ys hys fl1']
 rw [←key]
 exact Eff1.st htb ho hx hy hc hl he (by omega) (by rw [Nat.ble_eq];exact hble) h1 hd
end
theorem Rd.sar {P:Program} {B:Base} {tb:Tab} {Γ:Env} {H:Heap} {nl:Nat} {o:Oper} (htb:QI P tb) {α:Type} {t:TypeId} {x:Operand} {cells:List AVal} {enc:α→List AVal} {xs:List α} {m len e n' by_:Nat} {zc:List Value} {e':TE}
  (ho:o.op=.slice t x none none none) (hx:ev Γ x=some (.rp cells)) (ht:find tb t=some ⟨.ar len e,n',by_,zc⟩) (he:find tb e=some e') (hm:e'.n=m) (hcells:cells=(xs.map enc).flatten) (hen:∀y,(enc y).length=m) (hl:xs.length=len):
  Rd P B Γ H nl o (.sl m enc xs) none:=fun B' hB β F a w hβ hf=>by
 obtain⟨dst,op,ty,pos,af,g⟩:=o
 simp only at ho;subst ho;subst hm
 obtain⟨d,hd,rfl⟩:=htb.und ht
 have hX:=Q5 (a:=a) hf.env hx
 generalize hv:a.eval x=v at hX
 cases hX with
 | ro h=>cases h with
  | rp _ b off f hb hc hr=>
   obtain⟨_,fl2⟩:=Yi (n:=e'.n) (enc:=enc) xs (fun y _=>hen y)
   have hat:∀(i j:Nat) (x:α) (A:AVal),xs[i]?=some x→(enc x)[j]?=some A→cells[i*e'.n+j]?=some A:=fun i j x A hx hA=>by
    rw [hcells,fl2 i x hx j (by rw [←hen x];exact (List.getElem?_eq_some_iff.1 hA).1)];exact hA
   refine⟨.slice (some ⟨b,off,none⟩) xs.length xs.length,.ro (.sl _ _ _ b off _ (fun i j=>f (i*e'.n+j)) hb (Nat.le_refl _) (fun i x _=>hen x) (fun i j x A hx hA=>?_) (fun i j x A hx hA=>hr _ _ (hat i j x A hx hA))),fun w' _=>?_⟩
   ·have:=hc _ _ (hat i j x A hx hA)
    rw [←this,Nat.add_assoc]
   ·subst hl
    simp [execOp,Instr.sliceAt,run_underlying hd,hv,Instr.sureAddr,Instr.sliceBounds,htb.size he,Kx]
theorem Rd.fnv {P:Program} {B:Base} {Γ:Env} {H:Heap} {nl:Nat} {o:Oper} {g:Fn} {rl:Option (List Nat)} (h:Rd P B Γ H nl o (.v (.func g #[] #[])) rl):Rd P B Γ H nl o (.fn g [] []) rl:=fun B' hB β F a w hβ hf=>by
 obtain⟨v,hv,hr⟩:=h B' hB β F a w hβ hf
 have:=hv.v_inv;subst this
 exact⟨_,.fn g [] [] #[] #[] rfl (by simp) rfl (by simp),hr⟩
/-! ## reads that ask nothing of the world, in a region whose order is drawn -/
theorem Q1u {P:Program} {ops:Array Oper} {Q:Exit→Act→World→Prop} {S:World→Prop} {z i:Nat} {oi:Oper} {v:Value} (hi:ops[i]?=some oi) (hsel:Region.noSelect ops=true) (hiz:i≠z)
  (hQ:∀c a w,Q (.panic c) (a.put oi.dst v) w→Q (.panic c) a w):
  ∀(fuel:Nat) (listed:Array Bool) (a:Act) (w:World),
   (∀j oj,ops[j]?=some oj→j≠i→listed.getD j true=false→(∀e∈oj.after,Region.binds .any e=true→e.on≠i)→oi.apart ops oj=true) →
   i∈Region.ready .any ops listed→YieldsIf P ops (fun _=>True) oi v a→(listed.getD z false=false→S w) →
   Qz P ops Q S z fuel (listed.setIfInBounds i true) (a.put oi.dst v) w→Qz P ops Q S z (fuel+1) listed a w:=by
 have sel:=Region.noSelect_spec hsel
 intro fuel
 induction fuel with
 | zero=>
  intro listed a w _ hr hy hS HK
  refine⟨fun h0=>absurd (h0▸hr) (by simp),fun j hj=>?_⟩
  by_cases hji:j=i
  ·subst hji;exact hy.wpOp hi trivial ⟨fun _ h=>hS h,HK⟩
  ·have hr2:=ready_mono hj hji
   rw [HK.1] at hr2;cases hr2
 | succ fuel ih=>
  intro listed a w hfree hr hy hS HK
  refine⟨fun h0=>absurd (h0▸hr) (by simp),fun j hj=>?_⟩
  by_cases hji:j=i
  ·subst hji;exact hy.wpOp hi trivial ⟨fun _ h=>hS h,HK⟩
  ·have step:=HK.2 j (ready_mono hj hji)
   obtain⟨hun,oj,hoj,hall⟩:=mem_ready.1 hj
   have hno:∀e∈oj.after,Region.binds .any e=true→e.on≠i:=fun e he hb heq=>by
    have h1:=hall e he hb
    have h0:=(mem_ready.1 hr).1
    rw [heq] at h1
    rcases Nat.lt_or_ge i listed.size with h' | h'
    ·simp [h'] at h0 h1;rw [h0] at h1;cases h1
    ·simp [Array.getElem?_eq_none h'] at h1
   have moved:=wpOp_putIf hoj (hfree j oj hoj hji hun hno) (fun cs b=>sel i oi cs b hi) (fun cs b=>sel j oj cs b hoj) hQ hy step
   refine wpOp_mono (fun a' w' h3=>?_) moved
   have hfree':∀k ok,ops[k]?=some ok→k≠i→(listed.setIfInBounds j true).getD k true=false →
     (∀e∈ok.after,Region.binds .any e=true→e.on≠i)→oi.apart ops ok=true:=fun k ok hk hki hun' hno'=>by
    refine hfree k ok hk hki ?_ hno'
    by_cases hjk:j=k
    ·subst hjk;exact hun
    ·rwa [getD_set_ne true hjk] at hun'
   have hS':(listed.setIfInBounds j true).getD z false=false→S w':=fun hz=>by
    by_cases hjz:j=z
    ·subst hjz
     rcases Nat.lt_or_ge j listed.size with h' | h'
     ·simp [h'] at hz
     ·simp [Array.getD_eq_getD_getElem?,Array.getElem?_eq_none h'] at hun
    ·rw [getD_set_ne false hjz] at hz
     exact h3.2.1 hjz (by rw [getD_set_ne false hiz];exact hz)
   refine⟨fun hjz hz=>hS' (by rw [getD_set_ne false hjz];exact hz),ih (listed.setIfInBounds j true) a' w' hfree' (ready_mono hr (Ne.symm hji)) h3.1 hS' ?_⟩
   rw [Array.setIfInBounds_comm _ _ hji]
   exact h3.2.2
section
variable {P:Program} {B:Base} {tb:Tab} {Γ:Env} {H:Heap} {nl:Nat} {o:Oper} {ops:Array Oper} {Q:Exit→Act→World→Prop} {z:Nat} {ws:World} {M':Nat→Prop} {Lp Ms:List Nat} {g:Bool} {fuel:Nat} {listed:Array Bool}
theorem D.hav1 {σ:Type} {W:(σ→Prop)→Prop} {p:σ→Prop} (hm:W p) {g0:Bool} {Γ0:Env} {H0:Heap} {nl0 f0:Nat} {l0:Array Bool} (g:Bool) (Γ:σ→Env) (H:σ→Heap) (nl fuel:Nat) (listed:Array Bool)
  (h:∀y,p y→StD B ws M' Lp Ms g (Γ y) (H y) nl (Qz P ops Q (Kp ws M') z fuel listed))
  (k:(∀y,p y→StD B ws M' Lp Ms g (Γ y) (H y) nl (Qz P ops Q (Kp ws M') z fuel listed))→StD B ws M' Lp Ms g0 Γ0 H0 nl0 (Qz P ops Q (Kp ws M') z f0 l0)):StD B ws M' Lp Ms g0 Γ0 H0 nl0 (Qz P ops Q (Kp ws M') z f0 l0):=k h
theorem D.q0 {A:AVal} {d:Nat} (i:Nat) (hQ:NoPanicQ Q) (hs:Region.noSelect ops=true) (ho:ops[i]?=some o) (hw:Xh ops Γ o true) (hd:o.dst=some d) (hlt:d.blt B.n=true) (h:Rd P B Γ H nl o A none)
  (hc:(Region.free .any ops listed i&&(Region.ready .any ops listed).contains i&&!(i == z))=true)
  (k:StD B ws M' Lp Ms g ((d,A) :: Γ) H nl (Qz P ops Q (Kp ws M') z fuel (listed.setIfInBounds i true))):StD B ws M' Lp Ms g Γ H nl (Qz P ops Q (Kp ws M') z (fuel+1) listed):=by
 simp only [Bool.and_eq_true,Bool.not_eq_true',beq_eq_false_iff_ne] at hc
 rintro a w ⟨B',β,F,hx,hβ,hfb,hkp,hLp,hok,hMs,hlp⟩
 obtain⟨v,hv,hrun⟩:=h B' hx.n β F a w hβ hfb
 refine Q1u (v:=v) ho hs hc.2 (fun c a w=>hQ c a w _ _) fuel listed a w (Region.free_spec ho hc.1.1) (by simpa using hc.1.2) (.inl ⟨hw.wanted hfb,fun w' hw'=>hrun w' trivial⟩) (fun _=>hkp) ?_
 rw [hd]
 exact k _ _ ⟨B',β,F,hx,hβ,hfb.put (Q0h hx hlt) hv,hkp,hLp,hok,hMs,hlp⟩
end
/-! ## keys that are arrays of structs -/
structure KeyD (P:Program) (e:TypeId) {ε:Type} [DecidableEq ε] (kc:ε→List Value):Prop where
 chk:∀(n:Nat) (b:Bool) (x:ε) (w:World),(Instr.checkKey b (n+2) e (.agg (kc x).toArray)).run P w=.ok () w
 eq:∀(d:Nat) (x y:ε) (w:World),(Op.equalIn (d+2) e (.agg (kc x).toArray) (.agg (kc y).toArray)).run P w=.ok (decide (y=x)) w
 prim:∀x,(kc x).all Q3p=true
section
variable {P:Program} {ε κ:Type} [DecidableEq ε] [DecidableEq κ]
omit [DecidableEq κ] in
theorem KeyD.st {tb:Tab} (htb:QI P tb) {e:TypeId} {fs:List (Nat×Nat)} {kc:ε→List Value} (hE:EqT P e fs) (heq:∀x k,eqL tb fs ((kc x).map .v) ((kc k).map .v)=some (decide (k=x)))
  (hfs:fs.all (fun f=>match find tb f.2 with | some e=>Q1I e.ti | none=>false)=true) (hlen:∀x,fs.all (fun f=>f.1.blt (kc x).length)=true) (hp:∀x,(kc x).all Q3p=true):KeyD P e kc where
 prim:=hp
 eq d x y w:=by
  have:=WA (d:=d) htb (w0:=w) (ok:=fun _=>True) (β:=[]) (cs:=(kc x).map .v) (ds:=(kc y).map .v) (xs:=(kc x).toArray) (ys:=(kc y).toArray) (zc_dn _) (zc_dn _) w _ hE.hn (by rw [hE.hfs];exact heq x y)
  rw [run_equalIn_struct w (d+1) e _ _ hE.hf hE.hp];exact this
 chk n b x w:=by
  show (Instr.checkKey b (n+1+1) e _).run P w=_
  unfold Instr.checkKey
  simp only [Sem.run_bind,run_underlying hE.hf,Result.andThen_ok]
  rw [←Array.forIn_toList]
  have key:∀f,f∈(P.fieldsOf e).toList→(∃e,find tb f.type=some e∧Q1I e.ti=true)∧∃v,(kc x).toArray[f.offset]?=some v:=fun f hf=>by
   have hm:(f.offset,f.type)∈fs:=by rw [←hE.hfs];exact List.mem_map.2 ⟨f,hf,rfl⟩
   have h1:=List.all_eq_true.1 hfs _ hm
   have h2:=List.all_eq_true.1 (hlen x) _ hm
   refine⟨?_,?_⟩
   ·cases hfd:find tb f.type with
    | none=>simp [hfd] at h1
    | some e=>exact⟨e,rfl,by simpa [hfd] using h1⟩
   ·have:f.offset<(kc x).length:=by simpa [Nat.blt_eq] using h2
    exact⟨(kc x)[f.offset],by simp [this]⟩
  clear heq hfs hlen hE
  generalize (P.fieldsOf e).toList=l at key ⊢
  induction l with
  | nil=>simp
  | cons f l ih=>
   obtain⟨⟨e,he,hpr⟩,v,hv⟩:=key f (by simp)
   have ih:=ih (fun g hg=>key g (by simp [hg]))
   have hagg:e.ti.agg=false:=by cases ht:e.ti <;> rw [ht] at hpr <;> simp [Q1I,TI.agg] at hpr ⊢
   have hpart:=Xs htb he hagg hv w
   obtain⟨dd,hdd,hfit⟩:=htb.und he
   have hck:(Instr.checkKey b (n+1) f.type v).run P w=.ok () w:=by
    unfold Instr.checkKey
    simp only [Sem.run_bind,run_underlying hdd,Result.andThen]
    cases ht:e.ti <;> rw [ht] at hpr hfit <;> simp [Q1I] at hpr <;> simp only [TI.fits] at hfit <;> subst hfit <;> rfl
   simp only [List.forIn_cons,Sem.run_bind,Sem.run_ite]
   split
   ·simp only [hpart,Result.andThen_ok,hck,Sem.run_pure]
    exact ih
   ·simp only [Sem.run_pure,Result.andThen_ok]
    exact ih
omit [DecidableEq ε] in
theorem flatv {kc:ε→List Value} {c:Nat} (hc:∀y,(kc y).length=c):∀(xs:List ε) (i:Nat) (y:ε),xs[i]?=some y→(((xs.map kc).flatten).drop (i*c)).take c=kc y
 | [],i,y,h=>by simp at h
 | x :: xs,0,y,h=>by
  simp at h;subst h
  simp only [List.map_cons,List.flatten_cons,Nat.zero_mul,List.drop_zero]
  rw [List.take_append_of_le_length (by rw [hc];exact Nat.le_refl _),List.take_of_length_le (by rw [hc];exact Nat.le_refl _)]
 | x :: xs,i+1,y,h=>by
  have:=flatv hc xs i y (by simpa using h)
  simp only [List.map_cons,List.flatten_cons]
  rw [Nat.succ_mul,List.drop_append,List.drop_of_length_le (by rw [hc];omega),List.nil_append,hc,show i*c+c-c=i*c by omega]
  exact this
omit [DecidableEq ε] in
theorem Y9 {tb:Tab} (htb:QI P tb) {e:TypeId} {te:TE} (he:find tb e=some te) (hagg:te.ti.agg=true) {kc:ε→List Value} (hc:∀y,(kc y).length=te.n) (xs:List ε) {i:Nat} {y:ε} (hy:xs[i]?=some y) (w:World):
  (part e ((xs.map kc).flatten).toArray (i*te.n)).run P w=.ok (.agg (kc y).toArray) w:=by
 have h1:=flatv hc xs i y hy
 have hle:i*te.n+te.n≤((xs.map kc).flatten).length:=by
  have:=congrArg List.length h1
  rw [List.length_take,List.length_drop,hc] at this
  have h0:(0:Nat)≤te.n:=Nat.zero_le _
  rcases Nat.eq_zero_or_pos te.n with h | h
  ·rw [h];simp
  ·omega
 have e1:((xs.map kc).flatten).toArray.extract (i*te.n) (i*te.n+te.n)=(kc y).toArray:=by
  rw [←h1]
  simp [List.extract_toArray,List.extract_eq_take_drop]
 simp only [part,Sem.run_bind,htb.isAgg he,hagg,Result.andThen_ok,if_true,htb.size he]
 simp [e1]
theorem KeyT.ar {tb:Tab} (htb:QI P tb) {kt e n n' by_:Nat} {zc:List Value} {te:TE} {kε:ε→List Value} (K:KeyD P e kε) (ht:find tb kt=some ⟨.ar n e,n',by_,zc⟩) (he:find tb e=some te) (hagg:te.ti.agg=true) (hc:∀y,(kε y).length=te.n)
  {kc:κ→List Value} {rows:κ→List ε} (hrow:∀x,kc x=((rows x).map kε).flatten) (hn:∀x,(rows x).length=n) (hinj:∀x y,rows x=rows y→x=y):KeyT P kt (fun x:κ=>.agg (kc x).toArray):=by
 obtain⟨d0,hu,rfl⟩:=htb.und ht
 have hsz:∀w,(sizeOf e).run P w=.ok te.n w:=fun w=>htb.size he w
 have heqA:∀(x y:κ) (w:World),(Op.equal kt (.agg (kc x).toArray) (.agg (kc y).toArray)).run P w=.ok (decide (y=x)) w:=fun x y w=>by
  have hx:=hn x
  have hy:=hn y
  have key:∀(is:List Nat),(∀i,i∈is→i<n)→(Op.eqItems 9999 e te.n (kc x).toArray (kc y).toArray is).run P w=.ok (decide (∀i,i∈is→(rows x)[i]?=(rows y)[i]?)) w:=by
   intro is
   induction is with
   | nil=>intro _;simp [Op.eqItems]
   | cons i is ih=>
    intro hi
    have h0:=hi i (by simp)
    have e1:(rows x)[i]?=some ((rows x)[i]'(by omega)):=List.getElem?_eq_getElem _
    have e2:(rows y)[i]?=some ((rows y)[i]'(by omega)):=List.getElem?_eq_getElem _
    have p1:=Y9 htb he hagg hc (rows x) e1 w
    have p2:=Y9 htb he hagg hc (rows y) e2 w
    rw [←hrow] at p1 p2
    have p3:=K.eq 9997 ((rows x)[i]'(by omega)) ((rows y)[i]'(by omega)) w
    simp only [Op.eqItems,Sem.run_bind,p1,p2,Result.andThen_ok]
    rw [show (9999:Nat)=9997+2 from rfl,p3]
    simp only [Result.andThen_ok]
    by_cases hab:(rows y)[i]'(by omega)=(rows x)[i]'(by omega)
    ·simp only [hab,decide_true,Bool.not_true,Bool.false_eq_true,if_false]
     rw [show (9997:Nat)+2=9999 from rfl,ih (fun j hj=>hi j (by simp [hj]))]
     congr 1
     simp only [List.mem_cons,forall_eq_or_imp,e1,e2,hab,true_and]
    ·simp only [hab,decide_false,Bool.not_false,if_true,Sem.run_pure]
     congr 1
     symm
     simp only [decide_eq_false_iff_not]
     intro h
     have:=h i (by simp)
     rw [e1,e2] at this
     exact hab (Option.some.inj this).symm
  obtain⟨i0,hi0⟩:∃i0,P.info? e=some i0:=by
   obtain⟨d1,hd1,_⟩:=htb.und he
   exact info_of_underlying hd1
  have hcell:P.cellsOf e=te.n:=by
   have h1:=hsz w
   rw [run_sizeOf w hi0] at h1
   exact (Result.ok.inj h1).1
  simp only [Op.equal,Op.maxDepth]
  rw [run_equalIn_array w 9999 _ _ hu hi0,hcell,key (List.range n) (fun i hi=>by simpa using hi)]
  congr 1
  rw [decide_eq_decide]
  constructor
  ·intro h
   refine (hinj x y (List.ext_getElem? fun i=>?_)).symm
   by_cases c:i<n
   ·exact h i (by simpa using c)
   ·rw [List.getElem?_eq_none (by omega),List.getElem?_eq_none (by omega)]
  ·rintro rfl i _;rfl
 refine⟨fun b x w=>?_,fun x ks es w hE=>?_,fun x=>?_⟩
 ·show (Instr.checkKey b (9999+1) kt _).run P w=_
  rw [Instr.checkKey]
  simp only [Sem.run_bind,run_underlying hu,Result.andThen_ok]
  simp only [Std.Legacy.Range.forIn_eq_forIn_range',Std.Legacy.Range.size,Nat.sub_zero,Nat.add_one_sub_one,Nat.div_one]
  have each:∀i,i∈List.range' 0 n→i<n:=fun i hi=>by rw [List.mem_range'_1] at hi;omega
  generalize List.range' 0 n=is at each
  induction is with
  | nil=>simp
  | cons i is ih=>
   have h0:=each i (by simp)
   have hx:=hn x
   have e1:(rows x)[i]?=some ((rows x)[i]'(by omega)):=List.getElem?_eq_getElem _
   have p1:=Y9 htb he hagg hc (rows x) e1 w
   rw [←hrow] at p1
   have p2:=K.chk 9997 b ((rows x)[i]'(by omega)) w
   simp only [List.forIn_cons,Sem.run_bind,hsz,Result.andThen_ok,p1]
   rw [show (9999:Nat)=9997+2 from rfl,p2]
   simp only [Result.andThen_ok,Sem.run_pure]
   exact ih (fun j hj=>each j (by simp [hj]))
 ·have:=WD (P:=P) (kt:=kt) (x:=x) (w:=w) (ke:=fun x:κ=>.agg (kc x).toArray) (fun a=>heqA x a w) ks es 0 hE
  rw [Go.run_findKey_eq w (by rw [hu])]
  rw [this]
  simp
 ·show Instr.sameBits (9999+1) _ _=true
  simp only [Instr.sameBits,beq_self_eq_true,Bool.true_and,List.all_eq_true]
  intro p hp'
  have:p.1=p.2∧p.1∈kc x:=by
   obtain⟨i,h1,h2⟩:=List.getElem_of_mem hp'
   simp at h2
   exact⟨by rw [←h2],by rw [←h2];simp⟩
  obtain⟨a,c⟩:=p
  simp only at this
  obtain⟨rfl,hm⟩:=this
  rw [hrow] at hm
  obtain⟨r,hr,har⟩:=List.mem_flatten.1 hm
  obtain⟨y,_,rfl⟩:=List.mem_map.1 hr
  exact Q1Z _ (List.all_eq_true.1 (K.prim y) _ har)
end
end Go.Taq
