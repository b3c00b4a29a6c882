/- The library of the generated walks, part T: lent elements of maps. -/
import Derived.Test.YtpckofngkabgbaaGreatLibS
set_option linter.unusedVariables false
namespace Go.Taq
open Go
open Go.ChangeMaps (setBlock)
section
variable {P:Program} {B:Base} {tb:Tab} {Γ:Env} {H:Heap} {nl:Nat} {o:Oper} {X:Act→World→Prop} {κ α:Type} [DecidableEq κ]
theorem Q6a {xs:List (κ×α)} {k:κ} {y:α} (h:Taq.lk xs k=some y):∃i,kidx (xs.map (·.1)) k=some i∧xs[i]?=some (k,y):=by
 have hk:=YS xs k
 cases hi:kidx (xs.map (·.1)) k with
 | none=>rw [hi] at hk;rw [hk.1] at h;cases h
 | some i=>
  rw [hi] at hk
  obtain⟨v,h1,h2⟩:=hk
  rw [h] at h2;cases h2
  exact⟨i,rfl,h1⟩
omit [DecidableEq κ] in
theorem Ents.uniq {ke:κ→Value} {xs:List (κ×α)} {es:Array MapEntry} {clock:Nat} (h:Ents ke xs es clock) {i j:Nat} {k:κ} {y z:α} (hi:xs[i]?=some (k,y)) (hj:xs[j]?=some (k,z)):i=j:=by
 have h1:(xs.map (·.1))[i]?=some k:=by simp [hi]
 have h2:(xs.map (·.1))[j]?=some k:=by simp [hj]
 exact (List.getElem?_inj (List.getElem?_eq_some_iff.1 h1).1 h.nodup).1 (h1.trans h2.symm)
theorem St.lendm {l:Nat} {ke:κ→Value} {ve:α→AVal} {xs:List (κ×α)} {k:κ} {y:α} {A:AVal} (hl:find H l=some (.val (.om ke ve xs))) (hy:Taq.lk xs k=some y) (hA:ve y=A)
  (kk:St B Γ ((nl,.val A) :: setH H l (.lentm ke ve xs [(k,nl)])) (nl+1) X):St B Γ H nl X:=kk.ghost fun B' β F a w hβ hf=>by
 obtain⟨i,_,hi⟩:=Q6a hy
 obtain⟨F1,hF1,v,hv,hon⟩:=hf.heap.get hl
 obtain⟨b,es,clock,G,rfl,hb,hw,he,hG,hd,hr⟩:=hon.om_inv
 subst hβ
 have hil:i<es.size:=by rw [he.size];exact (List.getElem?_eq_some_iff.1 hi).1
 have hei:es[i]?=some es[i]:=Array.getElem?_eq_getElem hil
 obtain⟨F3,hF3,⟨v3,hv3,hon3⟩,hsh⟩:=(hf.heap.snoc es[i].val).shrink hl
 rw [Q8 hv] at hv3;cases hv3
 obtain⟨b3,es3,clock3,G3,heq,hb3,hw3,he3,hG3,hd3,hr3⟩:=hon3.om_inv
 cases heq
 rw [hw] at hw3;cases hw3
 have hcell:=hr3 i _ _ hi hei
 simp only [hA] at hcell
 have h:=hsh (fun b=>F3 b∧¬G3 i b) (.lentm ke ve xs [(k,β.length)]) (fun b hb=>hb.1) ⟨b,es,clock,fun j c=>G3 j c∧j≠i,Q8 hv,hw,⟨hb3,fun h=>(hG3 _ _ h).2 rfl⟩,he3,fun k' l' hj=>?_,fun j c hc=>⟨⟨(hG3 _ _ hc.1).1,fun h=>hc.2 (hd3 _ _ _ hc.1 h)⟩,(hG3 _ _ hc.1).2⟩,fun j j' c h h'=>hd3 _ _ _ h.1 h'.1,fun j x e hj hx he'=>?_⟩
 ·exact⟨β++[es[i].val],by simp,fun l x h=>Q8 h,G3 i,_,fun c hc=>hF3 c (hG3 _ _ hc).1,fun b hb=>hb.1,fun b hb hb'=>(hb'.2 (hG3 _ _ hb).1).2 hb,⟨_,by simp,hcell⟩,h⟩
 ·simp only [List.mem_singleton,Prod.mk.injEq] at hj
  obtain⟨rfl,rfl⟩:=hj
  exact⟨i,y,es[i],hi,hei,by simp⟩
 ·have hji:j≠i:=fun e=>by
   subst e
   rw [hi] at hx;cases hx
   exact hj β.length (by simp)
  exact (hr3 j x e hx he').mono (fun b hb=>⟨hb,hji⟩)
theorem Rd.lkl (htb:QI P tb) {t kt et n' by_:Nat} {zc:List Value} {m k:Operand} {l l':Nat} {ke:κ→Value} {ve:α→AVal} {xs:List (κ×α)} {L:List (κ×Nat)} {x:κ} {V:AVal} {R':Res} (ho:o.op=.lookup t m k false) (ht:find tb t=some ⟨.mp kt et,n',by_,zc⟩) (K:KeyT P kt ke)
  (hm:ev Γ m=some (.o l)) (hl:find H l=some (.lentm ke ve xs L)) (hL:(x,l')∈L) (hl':find H l'=some R') (hR:R'.ownd=true) (hk:ev Γ k=some V) (hX:unv V=unv (.v (ke x))):Rd P B Γ H nl o (.o l') (some [l]):=fun B hB β F a w hβ hf=>by
 obtain⟨dst,op,ty,pos,af,g⟩:=o
 simp only at ho;subst ho
 obtain⟨d,hd,rfl⟩:=htb.und ht
 have hkv:a.eval k=ke x:=Dn.unv_inv hX (Q5 (a:=a) hf.env hk)
 obtain⟨F1,hF1,b,es,clock,G,hv,hw,hb,he,hLL,hG,hdj,hr⟩:=hf.heap.get hl
 have hmv:=(Q5 (a:=a) hf.env hm).o_inv
 rw [hv] at hmv
 have hmm:=(Option.some.inj hmv).symm
 obtain⟨i,y,e,h1,h2,h3⟩:=hLL x l' hL
 obtain⟨F2,hF2,hRR⟩:=hf.heap.get hl'
 obtain⟨v,hv',ho1⟩:=hRR.one hR
 rw [hv'] at h3
 have hcv:=Option.some.inj h3
 refine⟨v,.o l' v hv' ho1,fun w' ⟨_,hw'⟩=>?_⟩
 have hg:=Go.MapKept.run_getObj_map (P:=P) (w:=w') (r:=b) (es:=es) (clock:=clock) (by rw [hw' b ⟨l,by simp,_,hv,rfl⟩];exact hw)
 rcases he.find K x with ⟨g1,g2,g3,g4⟩ | ⟨i',v1,e1,g1,g2,g3,g4,g5⟩
 ·exact absurd rfl (g3 _ (List.mem_of_getElem? h1))
 ·have:=he.uniq g3 h1
  subst this
  rw [h2] at g4;cases g4
  simp [execOp,hkv,hmm,Instr.lookup,run_underlying hd,hg,K.chk,g5,hcv]
theorem Rd.lkn (htb:QI P tb) {t kt et n' by_:Nat} {zc:List Value} {m k:Operand} {l:Nat} {ke:κ→Value} {ve:α→AVal} {xs:List (κ×α)} {x:κ} {V:AVal} {z:Value} (ho:o.op=.lookup t m k false) (ht:find tb t=some ⟨.mp kt et,n',by_,zc⟩) (K:KeyT P kt ke) (hz:∀w,(zeroValue et).run P w=.ok z w)
  (hm:ev Γ m=some (.o l)) (hl:find H l=some (.val (.om ke ve xs))) (hn:Taq.lk xs x=none) (hk:ev Γ k=some V) (hX:unv V=unv (.v (ke x))):Rd P B Γ H nl o (.v z) (some [l]):=fun B hB β F a w hβ hf=>by
 obtain⟨dst,op,ty,pos,af,g⟩:=o
 simp only at ho;subst ho
 obtain⟨d,hd,rfl⟩:=htb.und ht
 have hkv:a.eval k=ke x:=Dn.unv_inv hX (Q5 (a:=a) hf.env hk)
 obtain⟨F1,hF1,v,hv,hon⟩:=hf.heap.get hl
 obtain⟨b,es,clock,G,rfl,hb,hw,he,hG,hdj,hr⟩:=hon.om_inv
 have hmv:=(Q5 (a:=a) hf.env hm).o_inv
 rw [hv] at hmv
 have hmm:=(Option.some.inj hmv).symm
 refine⟨z,.ro (.v z),fun w' ⟨_,hw'⟩=>?_⟩
 have hg:=Go.MapKept.run_getObj_map (P:=P) (w:=w') (r:=b) (es:=es) (clock:=clock) (by rw [hw' b ⟨l,by simp,_,hv,rfl⟩];exact hw)
 rcases he.find K x with ⟨g1,g2,g3,g4⟩ | ⟨i',v1,e1,g1,_⟩
 ·simp [execOp,hkv,hmm,Instr.lookup,run_underlying hd,hg,K.chk,g4,hz]
 ·rw [hn] at g1;cases g1
theorem Eff1.mul (htb:QI P tb) {t kt et n' by_:Nat} {zc:List Value} {m k v:Operand} {l l' l2:Nat} {ke:κ→Value} {ve:α→AVal} {xs:List (κ×α)} {L:List (κ×Nat)} {x:κ} {V:AVal} (ho:o.op=.mapUpdate t m k v) (ht:find tb t=some ⟨.mp kt et,n',by_,zc⟩) (K:KeyT P kt ke)
  (hm:ev Γ m=some (.o l)) (hl:find H l=some (.lentm ke ve xs ((x,l') :: L))) (hL:∀p,p∈L→p.1≠x) (hk:ev Γ k=some V) (hX:unv V=unv (.v (ke x))) (hv:ev Γ v=some (.o l2)) (hd:o.dst=none):
  Eff1 P B Γ H nl o Γ (setH H l (.lentm ke ve xs ((x,l2) :: L))) nl (.fx [l] false):=Eff1.of_skip fun B hB β F a w hβ hf=>by
 obtain⟨dst,op,ty,pos,af,g⟩:=o
 simp only at ho hd;subst ho;subst hd
 obtain⟨d,hdd,rfl⟩:=htb.und ht
 have hkv:a.eval k=ke x:=Dn.unv_inv hX (Q5 (a:=a) hf.env hk)
 have hvo:=(Q5 (a:=a) hf.env hv).o_inv
 obtain⟨F1,hF1,⟨b,es,clock,G,hv0,hw,hb,he,hLL,hG,hdj,hr⟩,hset⟩:=hf.heap.set hl
 have hmv:=(Q5 (a:=a) hf.env hm).o_inv
 rw [hv0] at hmv
 have hmm:=(Option.some.inj hmv).symm
 have hg:=Go.MapKept.run_getObj_map (P:=P) hw
 have hhd:Mod β [l] b:=⟨l,by simp,_,hv0,rfl⟩
 obtain⟨i,y,e,h1,h2,h3⟩:=hLL x l' (by simp)
 rcases he.find K x with ⟨g1,g2,g3,g4⟩ | ⟨i',v1,e1,g1,g2,g3,g4,g5⟩
 ·exact absurd rfl (g3 _ (List.mem_of_getElem? h1))
 ·have:=he.uniq g3 h1
  subst this
  rw [h1] at g3;cases g3
  rw [h2] at g4;cases g4
  have hkey:e.key=ke x:=he.key _ _ e h1 h2
  have hlt:=(List.getElem?_eq_some_iff.1 h1).1
  have hE:=he.set h1 h2 y (a.eval v)
  have hset':xs.set i' (x,y)=xs:=by
   apply List.ext_getElem?
   intro j
   rw [List.getElem?_set]
   by_cases e:i'=j
   ·subst e
    rw [List.getElem?_eq_getElem hlt] at h1
    have:=Option.some.inj h1
    simp [hlt,this]
   ·simp [e]
  rw [hset'] at hE
  have hkp:=Gb w b (.map (es.modify i' fun e=>{e with key:=ke x,val:=a.eval v}) clock) (fun x=>x=b) rfl
  have hM:∀x,x=b→x<B.w0.heap.size→B.M x:=fun x hx hlt'=>by subst hx;exact (hf.own x (hF1 x hb)).2 hlt'
  refine⟨setBlock w b (.map (es.modify i' fun e=>{e with key:=ke x,val:=a.eval v}) clock),β,F,?_,hβ,fun _ _ h=>h,fun l x b hl hx _=>?_,⟨hf.kp.trans hkp hM,hf.ok,fun b' hb'=>by have:=hf.own b' hb';exact⟨Nat.lt_of_lt_of_le this.1 hkp.size,this.2⟩,hset _ _ (fun b' hb' hn hlt=>GQ hw _ (fun e=>hn (e▸hb)))
   ⟨b,_,clock,G,hv0,YX hw _,hb,hE,fun k' m' hm'=>?_,hG,hdj,fun j p e' hj hx he'=>?_⟩,hf.env,by simpa [Act.put] using hf.size,hf.defers,hf.pre⟩,Gb w b _ _ hhd⟩
  ·simp [execOp,hmm,hkv,Instr.mapUpdate,run_underlying hdd,hg,K.chk,g5,h2,hkey,Instr.keyThatStays,K.same,Go.MapKept.run_setObj_map _ hw,setBlock]
  ·rw [List.getElem?_eq_none (by omega)] at hx;cases hx
  ·rcases List.mem_cons.1 hm' with e' | e'
   ·cases e'
    exact⟨i',y,_,h1,by rw [Array.getElem?_modify,if_pos rfl,h2];rfl,hvo⟩
   ·obtain⟨j,z,e2,q1,q2,q3⟩:=hLL k' m' (by simp [e'])
    have hne:=hL _ e'
    simp only at hne
    have hji:i'≠j:=fun h=>by subst h;rw [h1] at q1;cases q1;exact hne rfl
    exact⟨j,z,e2,q1,by rw [Array.getElem?_modify,if_neg hji];exact q2,q3⟩
  ·have hji:i'≠j:=fun h=>by
    subst h
    rw [h1] at hx;cases hx
    exact hj l2 (by simp)
   rw [Array.getElem?_modify,if_neg hji] at he'
   refine (hr j p e' (fun m' hm'=>?_) hx he').later (fun c hc hlt'=>GQ hw _ (hG j c hc).2)
   rcases List.mem_cons.1 hm' with e2 | e2
   ·have e3:=congrArg Prod.fst e2
    simp only at e3
    obtain⟨p1,p2⟩:=p
    simp only at e3
    subst e3
    exact hji (he.uniq h1 hx)
   ·exact hj m' (by simp [e2])
theorem Eff1.mun (htb:QI P tb) {t kt et n' by_:Nat} {zc:List Value} {m k v:Operand} {l l2:Nat} {ke:κ→Value} {ve:α→AVal} {xs:List (κ×α)} {x:κ} (y0:α) {V:AVal} (ho:o.op=.mapUpdate t m k v) (ht:find tb t=some ⟨.mp kt et,n',by_,zc⟩) (K:KeyT P kt ke)
  (hm:ev Γ m=some (.o l)) (hl:find H l=some (.val (.om ke ve xs))) (hn:Taq.lk xs x=none) (hk:ev Γ k=some V) (hX:unv V=unv (.v (ke x))) (hv:ev Γ v=some (.o l2)) (hd:o.dst=none):
  Eff1 P B Γ H nl o Γ (setH H l (.lentm ke ve (upd xs x y0) [(x,l2)])) nl (.fx [l] false):=Eff1.of_skip fun B hB β F a w hβ hf=>by
 obtain⟨dst,op,ty,pos,af,g⟩:=o
 simp only at ho hd;subst ho;subst hd
 obtain⟨d,hdd,rfl⟩:=htb.und ht
 have hkv:a.eval k=ke x:=Dn.unv_inv hX (Q5 (a:=a) hf.env hk)
 have hvo:=(Q5 (a:=a) hf.env hv).o_inv
 obtain⟨F1,hF1,⟨v0,hv0,hon⟩,hset⟩:=hf.heap.set hl
 obtain⟨b,es,clock,G,rfl,hb,hw,he,hG,hdj,hr⟩:=hon.om_inv
 have hmv:=(Q5 (a:=a) hf.env hm).o_inv
 rw [hv0] at hmv
 have hmm:=(Option.some.inj hmv).symm
 have hg:=Go.MapKept.run_getObj_map (P:=P) hw
 have hhd:Mod β [l] b:=⟨l,by simp,_,hv0,rfl⟩
 rcases he.find K x with ⟨g1,g2,g3,g4⟩ | ⟨i',v1,e1,g1,_⟩
 ·have hE:=he.push g3 y0 (a.eval v)
  rw [←Z7 _ _ y0 g3] at hE
  have hkp:=Gb w b (.map (es.push {key:=ke x,val:=a.eval v,born:=clock}) (clock+1)) (fun x=>x=b) rfl
  have hM:∀x,x=b→x<B.w0.heap.size→B.M x:=fun x hx hlt'=>by subst hx;exact (hf.own x (hF1 x hb)).2 hlt'
  refine⟨setBlock w b (.map (es.push {key:=ke x,val:=a.eval v,born:=clock}) (clock+1)),β,F,?_,hβ,fun _ _ h=>h,fun l x b hl hx _=>?_,⟨hf.kp.trans hkp hM,hf.ok,fun b' hb'=>by have:=hf.own b' hb';exact⟨Nat.lt_of_lt_of_le this.1 hkp.size,this.2⟩,hset _ _ (fun b' hb' hn hlt=>GQ hw _ (fun e=>hn (e▸hb)))
   ⟨b,_,clock+1,G,hv0,YX hw _,hb,hE,fun k' m' hm'=>?_,hG,hdj,fun j p e' hj hx he'=>?_⟩,hf.env,by simpa [Act.put] using hf.size,hf.defers,hf.pre⟩,Gb w b _ _ hhd⟩
  ·simp [execOp,hmm,hkv,Instr.mapUpdate,run_underlying hdd,hg,K.chk,g4,Go.MapKept.run_setObj_map _ hw,setBlock]
  ·rw [List.getElem?_eq_none (by omega)] at hx;cases hx
  ·simp only [List.mem_singleton,Prod.mk.injEq] at hm'
   obtain⟨rfl,rfl⟩:=hm'
   refine⟨xs.length,y0,{key:=ke k',val:=a.eval v,born:=clock},by rw [Z7 _ _ _ g3];simp,?_,hvo⟩
   rw [Array.getElem?_push,if_pos he.size.symm]
  ·rw [Z7 _ _ _ g3] at hx
   rcases Nat.lt_or_ge j xs.length with hlt | hge
   ·rw [List.getElem?_append_left hlt] at hx
    rw [Array.getElem?_push,if_neg (by rw [he.size];omega)] at he'
    exact (hr j p e' hx he').later (fun c hc hlt'=>GQ hw _ (hG j c hc).2)
   ·have:=(List.getElem?_eq_some_iff.1 hx).1
    simp at this
    have hj':j=xs.length:=by omega
    subst hj'
    simp at hx;subst hx
    exact absurd (by simp) (hj l2)
 ·rw [hn] at g1;cases g1
theorem St.putm {l l':Nat} {ke:κ→Value} {ve:α→AVal} {xs:List (κ×α)} {k:κ} {y:α} {A:AVal} (hl:find H l=some (.lentm ke ve xs [(k,l')])) (hl':find H l'=some (.val A)) (hne:l.beq l'=false) (hA:ve y=A)
  (kk:St B Γ (repH (rmH H l') l l (.val (.om ke ve (upd xs k y)))) nl X):St B Γ H nl X:=kk.ghost fun B' β F a w hβ hf=>by
 have hne':l≠l':=fun e=>by subst e;simp at hne
 refine⟨β,hβ,fun _ _ h=>h,?_⟩
 obtain⟨F2,hF2,⟨x,hx,hon⟩,hH⟩:=hf.heap.rm hl'
 have hl2:find (rmH H l') l=some (.lentm ke ve xs [(k,l')]):=by rw [Q1B hne'];exact hl
 refine (HOk.rep (fun _ _ h=>h) F2 hH hl2 (fun F1 hF1 hRR=>⟨?_,fun _ _ _=>rfl⟩) (fun b hb h=>h.2 hb) (fun b hb=>(hf.own b hb.1).1) (fun _ _ _ h=>h)).mono (fun b hb=>hb.elim (fun h=>h.1) (hF2 b))
 obtain⟨b,es,clock,G,hv,hw,hb,he,hLL,hG,hd,hr⟩:=hRR
 obtain⟨i,z,e,h1,h2,h3⟩:=hLL k l' (by simp)
 rw [hx] at h3
 have h3:=Option.some.inj h3
 have hdis:∀k,F2 k→F1 k→False:=fun k h h'=>(hF1 k h').2 h
 have hkey:=he.key i _ e h1 h2
 have hki:kidx (xs.map (·.1)) k=some i:=by
  have hk:=YS xs k
  cases hi:kidx (xs.map (·.1)) k with
  | none=>rw [hi] at hk;exact absurd rfl (hk.2 _ (List.mem_of_getElem? h1))
  | some i'=>
   rw [hi] at hk
   obtain⟨v,q1,q2⟩:=hk
   rw [he.uniq q1 h1]
 have hE:=he.set h1 h2 y e.val
 have hmod:(es.modify i fun e'=>{e' with key:=ke k,val:=e.val})=es:=by
  apply Array.ext_getElem?
  intro j
  rw [Array.getElem?_modify]
  by_cases hij:i=j
  ·subst hij;rw [if_pos rfl,h2];simp [←hkey]
  ·rw [if_neg hij]
 rw [hmod] at hE
 refine⟨_,hv,.om ke ve (upd xs k y) b es clock _ (fun j c=>if j=i then F2 c else G j c) (.inl hb) hw (by rw [ZS _ _ _ _ hki];exact hE) (fun j c hc=>?_) (fun j j' c h h'=>?_) (fun j p e' hp he'=>?_)⟩
 ·split at hc
  ·exact⟨.inr hc,fun e=>hdis c hc (e▸hb)⟩
  ·exact⟨.inl (hG j c hc).1,(hG j c hc).2⟩
 ·split at h <;> split at h'
  ·rename_i e e';exact e.trans e'.symm
  ·exact (hdis c h (hG _ _ h').1).elim
  ·exact (hdis c h' (hG _ _ h).1).elim
  ·exact hd _ _ c h h'
 ·rw [ZS _ _ _ _ hki,List.getElem?_set] at hp
  by_cases hij:i=j
  ·subst hij
   rw [if_pos rfl] at hp
   try rw [if_pos (List.getElem?_eq_some_iff.1 h1).1] at hp
   cases hp
   rw [h2] at he';cases he'
   simp only [hA,←h3]
   exact hon.mono (fun b hb=>by simp [hb])
  ·rw [if_neg hij] at hp
   refine (hr j p e' (fun m hm=>?_) hp he').mono (fun c hc=>by rw [if_neg (Ne.symm hij)];exact hc)
   simp only [List.mem_singleton] at hm
   obtain⟨p1,p2⟩:=p
   cases hm
   exact hij (he.uniq h1 hp)
end
end Go.Taq
