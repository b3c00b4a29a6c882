/- The library of the generated walks, part P: operations on maps. -/
import Derived.Test.YtpckofngkabgbaaGreatLibO
set_option linter.unusedVariables false
namespace Go.Taq
open Go
open Go.ChangeMaps (setBlock)
def unv:AVal→AVal
 | .v (.agg vs)=>.agg (vs.toList.map .v)
 | .sv cs=>.agg cs
 | A=>A
theorem Dn.unv {w0:World} {ok:Nat→Prop} {β:List Value} {A:AVal} {x:Value} (h:Dn w0 ok β A x):Dn w0 ok β (Taq.unv A) x:=by
 unfold Taq.unv
 split
 ·rename_i vs
  have:=h.v_inv;subst this
  refine .agg _ vs (by simp) (fun j B hB=>?_)
  simp only [List.getElem?_map,Option.map_eq_some_iff] at hB
  obtain⟨u,hu,rfl⟩:=hB
  have:vs[j]?=some u:=by simpa using hu
  simp only [Array.getD_eq_getD_getElem?,this]
  exact .ro (.v u)
 ·cases h with
  | ro h=>cases h with
   | sv cs vs hl h=>exact .agg _ vs hl (fun j B hB=>.ro (h j B hB))
 ·exact h
theorem Dn.unv_inv {w0:World} {ok:Nat→Prop} {β:List Value} {A:AVal} {x y:Value} (hA:Taq.unv A=Taq.unv (.v y)) (h:Dn w0 ok β A x):x=y:=by
 have h':=h.unv
 rw [hA] at h'
 unfold Taq.unv at h'
 split at h'
 ·rename_i vs heq
  cases heq
  obtain⟨us,rfl,hl,hd⟩:=h'.agg_inv
  congr 1
  apply Array.ext (by simpa using hl.symm)
  intro i h1 h2
  have:=hd i (.v vs[i]) (by simp [h2])
  have:=this.v_inv
  simpa [Array.getD_eq_getD_getElem?,h1] using this
 ·rename_i heq;cases heq
 ·exact h'.v_inv
def Q5J (w0:World) (ok:Nat→Prop) {κ α:Type} (ke:κ→Value) (ve:α→AVal) (xs:List (κ×α)) (es:Array MapEntry) (clock:Nat):Prop:=
 Ents ke xs es clock∧∀(i:Nat) (x:κ×α) (e:MapEntry),xs[i]?=some x→es[i]?=some e→Ro w0 ok (ve x.2) e.val
section
variable {κ α:Type} [DecidableEq κ]
omit [DecidableEq κ] in
theorem Ents.entK {ke:κ→Value} {xs:List (κ×α)} {es:Array MapEntry} {clock:Nat} (h:Ents ke xs es clock):EntK ke (xs.map (·.1)) es.toList:=
 ⟨by simp [h.size],fun i k e hk he=>by
  simp only [List.getElem?_map,Option.map_eq_some_iff] at hk
  obtain⟨x,hx,rfl⟩:=hk
  exact h.key i x e hx (by simpa using he)⟩
theorem Ents.find {P:Program} {kt:TypeId} {ke:κ→Value} (K:KeyT P kt ke) {xs:List (κ×α)} {es:Array MapEntry} {clock:Nat} (h:Ents ke xs es clock) (k:κ):
  (lk xs k=none∧kidx (xs.map (·.1)) k=none∧(∀p,p∈xs→p.1≠k)∧∀w,(Instr.findKey kt (ke k) es.toList).run P w=.ok none w) ∨
  ∃i v e,lk xs k=some v∧kidx (xs.map (·.1)) k=some i∧xs[i]?=some (k,v)∧es[i]?=some e∧∀w,(Instr.findKey kt (ke k) es.toList).run P w=.ok (some (i,e.val)) w:=by
 have hl:=YS xs k
 cases hk:kidx (xs.map (·.1)) k with
 | none=>
  rw [hk] at hl
  exact .inl ⟨hl.1,rfl,hl.2,fun w=>by rw [K.fnd k _ _ w h.entK,hk];rfl⟩
 | some i=>
  rw [hk] at hl
  obtain⟨v,h1,h2⟩:=hl
  have hi:=(List.getElem?_eq_some_iff.1 h1).1
  have hi':i<es.size:=by rw [h.size];exact hi
  have:es[i]?=some es[i]:=Array.getElem?_eq_getElem hi'
  exact .inr ⟨i,v,es[i],h2,rfl,h1,this,fun w=>by rw [K.fnd k _ _ w h.entK,hk];simp [this]⟩
end
section
variable {P:Program} {B:Base} {tb:Tab} {Γ:Env} {H:Heap} {nl:Nat} {o:Oper} {κ α:Type} [DecidableEq κ]
inductive IsMp (H:Heap) {κ α:Type} (ke:κ→Value) (ve:α→AVal) (xs:List (κ×α)):AVal→List Nat→Prop where
 | rm:IsMp H ke ve xs (.rm ke ve xs) []
 | nil (h:xs=[]):IsMp H ke ve xs (.v (.map none)) []
 | o {l:Nat} (h:find H l=some (.val (.om ke ve xs))):IsMp H ke ve xs (.o l) [l]
 | rng {l li:Nat} {seen:List κ} (h:find H l=some (.rng ke ve xs seen li)):IsMp H ke ve xs (.o l) [l]
omit [DecidableEq κ] in
theorem IsMp.value {ke:κ→Value} {ve:α→AVal} {xs:List (κ×α)} {A:AVal} {rl:List Nat} (hm:IsMp H ke ve xs A rl) (hro:∀y,(ve y).isRo=true) {β:List Value} {F:Nat→Prop} {a:Act} {w:World} (hf:KH B β F Γ H a w) {x:Value} (hx:Dn B.w0 B.ok β A x):
  (x=.map none∧xs=[])∨∃b es clock,x=.map (some b)∧Q5J B.w0 B.ok ke ve xs es clock∧∀w',RdC B β w w' (some rl)→w'.heap[b]?=some (.map es clock):=by
 have hok:∀b,B.ok b→w.heap[b]?=B.w0.heap[b]?:=fun b hb=>by have:=hf.ok b hb;exact hf.kp.block b this.1 this.2
 cases hm with
 | rm=>
  cases hx with
  | ro h=>cases h with
   | rmNil=>exact .inl ⟨rfl,rfl⟩
   | rm _ _ _ b es clock hb hw he hr=>exact .inr ⟨b,es,clock,rfl,⟨he,hr⟩,fun w' hw'=>by rw [hw'.1 b hb,hok b hb];exact hw⟩
 | nil h=>exact .inl ⟨hx.v_inv,h⟩
 | o h=>
  obtain⟨F1,_,v,hv,hon⟩:=hf.heap.get h
  have:=hx.o_inv
  rw [hv] at this;cases this
  cases hon with
  | ro F h=>cases h
  | om _ _ _ b es clock F G hb hw he hG hd hr=>exact .inr ⟨b,es,clock,rfl,⟨he,fun i x e h1 h2=>(hr i x e h1 h2).ro_of (hro _)⟩,fun w' hw'=>by rw [hw'.2 b ⟨_,by simp,_,hv,rfl⟩];exact hw⟩
 | rng h=>
  obtain⟨F1,_,b,bi,es,clock,sa,G,hl,hli,hne,hF,hFi,hw,hwi,he,hG,hd,hr,hs⟩:=hf.heap.get h
  have:=hx.o_inv
  rw [hl] at this;cases this
  exact .inr ⟨b,es,clock,rfl,⟨he,fun i x e h1 h2=>(hr i x e h1 h2).ro_of (hro _)⟩,fun w' hw'=>by rw [hw'.2 b ⟨_,by simp,_,hl,rfl⟩];exact hw⟩
inductive SvZ (w:World) (ok:Nat→Prop):List AVal→List Value→Prop where
 | nil:SvZ w ok [] []
 | v (x:Value) {cs:List AVal} {vs:List Value} (h:SvZ w ok cs vs):SvZ w ok (.v x :: cs) (x :: vs)
 | sl {α:Type} (n:Nat) (enc:α→List AVal) {cs:List AVal} {vs:List Value} (h:SvZ w ok cs vs):SvZ w ok (.sl n enc [] :: cs) (.slice none 0 0 :: vs)
theorem SvZ.get {w:World} {ok:Nat→Prop}:∀{cs:List AVal} {vs:List Value},SvZ w ok cs vs→cs.length=vs.length∧∀(j:Nat) (A:AVal),cs[j]?=some A→∃x,vs[j]?=some x∧Ro w ok A x
 | _,_,.nil=>⟨rfl,fun j A h=>by simp at h⟩
 | _,_,.v x h=>⟨by simp [h.get.1],fun j A hA=>by
   cases j with
   | zero=>simp at hA;subst hA;exact⟨x,rfl,.v x⟩
   | succ j=>simpa using h.get.2 j A (by simpa using hA)⟩
 | _,_,.sl n enc h=>⟨by simp [h.get.1],fun j A hA=>by
   cases j with
   | zero=>simp at hA;subst hA;exact⟨_,rfl,.slNil n enc none⟩
   | succ j=>simpa using h.get.2 j A (by simpa using hA)⟩
theorem SvZ.ro {w:World} {ok:Nat→Prop} {cs:List AVal} {vs:List Value} (h:SvZ w ok cs vs):Ro w ok (.sv cs) (.agg vs.toArray):=
 .sv _ _ (by simpa using h.get.1) (fun j A hA=>by
  obtain⟨x,hx,hr⟩:=h.get.2 j A hA
  simpa [Array.getD_eq_getD_getElem?,hx] using hr)
structure Q1L (P:Program) (et:TypeId) (ve:α→AVal) (z0:α):Prop where
 h:∃z,(∀w,(zeroValue et).run P w=.ok z w)∧∀w ok,Ro w ok (ve z0) z
theorem Q0Y {t kt et:TypeId} (ht:P.underlying t=some (.map kt et)) {ke:κ→Value} {ve:α→AVal} (K:KeyT P kt ke) {z0:α} (Z:Q1L P et ve z0) {w0:World} {ok:Nat→Prop} {xs:List (κ×α)} {k:κ} {x:Value} (c:Bool) {R:World→Prop}
  (hx:(x=.map none∧xs=[])∨∃b es clock,x=.map (some b)∧Q5J w0 ok ke ve xs es clock∧∀w',R w'→w'.heap[b]?=some (.map es clock)):
  ∃v,Ro w0 ok (ve ((lk xs k).getD z0)) v∧∀w',R w'→(Instr.lookup t x (ke k) c).run P w'=.ok (if c then .tuple #[v,.bool (lk xs k).isSome] else v) w':=by
 obtain⟨z,hz,hzr⟩:=Z.h
 rcases hx with ⟨rfl,rfl⟩ | ⟨b,es,clock,rfl,hm,hw⟩
 ·refine⟨z,hzr _ _,fun w' _=>?_⟩
  have:=K.fnd k [] [] w' ⟨rfl,by simp⟩
  simp only [kidx,Option.bind] at this
  cases c <;> simp [Instr.lookup,run_underlying ht,K.chk,this,hz,lk]
 ·rcases hm.1.find K k with ⟨h1,h2,h3,h4⟩ | ⟨i,v,e,h1,h2,h3,h4,h5⟩
  ·refine⟨z,by rw [h1];exact hzr _ _,fun w' hw'=>?_⟩
   have hg:=Go.MapKept.run_getObj_map (P:=P) (hw w' hw')
   cases c <;> simp [Instr.lookup,run_underlying ht,hg,K.chk,h4,hz,h1]
  ·refine⟨e.val,by rw [h1];exact hm.2 i _ e h3 h4,fun w' hw'=>?_⟩
   have hg:=Go.MapKept.run_getObj_map (P:=P) (hw w' hw')
   cases c <;> simp [Instr.lookup,run_underlying ht,hg,K.chk,h5,h1]
theorem Rd.lk (htb:QI P tb) {t kt et n' by_:Nat} {zc:List Value} {m k:Operand} {M:AVal} {rl:List Nat} {ke:κ→Value} {ve:α→AVal} {xs:List (κ×α)} {z0:α} {x:κ} {X A:AVal} (ho:o.op=.lookup t m k false) (ht:find tb t=some ⟨.mp kt et,n',by_,zc⟩) (K:KeyT P kt ke) (Z:Q1L P et ve z0) (hro:∀y,(ve y).isRo=true)
  (hm:ev Γ m=some M) (hM:IsMp H ke ve xs M rl) (hk:ev Γ k=some X) (hX:unv X=unv (.v (ke x))) (hA:unv (ve ((lk xs x).getD z0))=A):Rd P B Γ H nl o A (some rl):=fun B hB β F a w hβ hf=>by
 obtain⟨dst,op,ty,pos,af,g⟩:=o
 simp only at ho;subst ho
 obtain⟨d,hd,rfl⟩:=htb.und ht
 have hkv:a.eval k=ke x:=Dn.unv_inv hX (Q5 (a:=a) hf.env hk)
 obtain⟨v,hv,hrun⟩:=Q0Y (P:=P) hd K Z (k:=x) false (hM.value hro hf (Q5 (a:=a) hf.env hm))
 refine⟨v,hA▸(Dn.ro hv).unv,fun w' hw'=>?_⟩
 simp [execOp,hkv,hrun w' hw']
theorem Rd.lk2 (htb:QI P tb) {t kt et n' by_:Nat} {zc:List Value} {m k:Operand} {M:AVal} {rl:List Nat} {ke:κ→Value} {ve:α→AVal} {xs:List (κ×α)} {z0:α} {x:κ} {X A:AVal} (ho:o.op=.lookup t m k true) (ht:find tb t=some ⟨.mp kt et,n',by_,zc⟩) (K:KeyT P kt ke) (Z:Q1L P et ve z0) (hro:∀y,(ve y).isRo=true)
  (hm:ev Γ m=some M) (hM:IsMp H ke ve xs M rl) (hk:ev Γ k=some X) (hX:unv X=unv (.v (ke x))) (hA:unv (ve ((Taq.lk xs x).getD z0))=A):Rd P B Γ H nl o (.tup [A,.v (.bool (Taq.lk xs x).isSome)]) (some rl):=fun B hB β F a w hβ hf=>by
 obtain⟨dst,op,ty,pos,af,g⟩:=o
 simp only at ho;subst ho
 obtain⟨d,hd,rfl⟩:=htb.und ht
 have hkv:a.eval k=ke x:=Dn.unv_inv hX (Q5 (a:=a) hf.env hk)
 obtain⟨v,hv,hrun⟩:=Q0Y (P:=P) hd K Z (k:=x) true (hM.value hro hf (Q5 (a:=a) hf.env hm))
 refine⟨_,.tup _ #[v,.bool (Taq.lk xs x).isSome] rfl (fun j C hC=>?_),fun w' hw'=>?_⟩
 ·match j,hC with
  | 0,hC=>simp at hC;subst hC;exact hA▸(Dn.ro hv).unv
  | 1,hC=>simp at hC;subst hC;exact .ro (.v _)
  | j+2,hC=>simp at hC
 ·simp [execOp,hkv,hrun w' hw']
omit [DecidableEq κ] in
theorem Eff1.mm {t:TypeId} (ke:κ→Value) (ve:α→AVal) {d:Nat} (ho:o.op=.makeMap t none) (hd:o.dst=some d) (hlt:d.blt B.n=true):
  Eff1 P B Γ H nl o ((d,.o nl) :: Γ) ((nl,.val (.om ke ve [])) :: H) (nl+1) (.fx [] false):=Eff1.of_value fun B hB β F a w hβ hf=>by
 rw [←hB] at hlt
 obtain⟨dst,op,ty,pos,af,g⟩:=o
 simp only at ho hd;subst ho;subst hd;subst hβ
 refine⟨.map (some w.heap.size),w.alloc (.map #[] 0),β++[.map (some w.heap.size)],_,?_,by simp,fun l x h=>Q8 h,fun l x b hl hx hb=>?_,
  (KH.alloc hf (.map #[] 0) (.map (some w.heap.size)) (.val (.om ke ve [])) ?_).put hlt ?_,?_⟩
 ·simp [execOp,Instr.makeMap,newObj,Sem.run,Result.andThen]
 ·have:=GK rfl hl hx;subst this;cases hb;exact .inl (Nat.le_refl _)
 ·exact⟨_,by simp,.om ke ve [] w.heap.size #[] 0 _ (fun _ _=>False) rfl (heap_alloc_new w _) ⟨rfl,by simp,by simp,by simp,by simp⟩ (fun _ _ h=>h.elim) (fun _ _ _ h=>h.elim) (by simp)⟩
 ·exact .o _ _ (by simp) rfl
 ·exact XH w _ _
theorem YX {w:World} {b:Nat} {o:Obj} (hb:w.heap[b]?=some o) (o':Obj):(setBlock w b o').heap[b]?=some o':=(Go.MapKept.heap_set hb).1
theorem GQ {w:World} {b:Nat} {o:Obj} (hb:w.heap[b]?=some o) (o':Obj) {i:Nat} (h:i≠b):(setBlock w b o').heap[i]?=w.heap[i]?:=(Go.MapKept.heap_set hb).2 i h
theorem Gb (w:World) (b:Nat) (o:Obj) (M:Nat→Prop) (hM:M b):Kp w M (setBlock w b o):=
 ⟨rfl,rfl,rfl,by simp [setBlock],fun i _ hi=>by
  have:i≠b:=fun e=>hi (e▸hM)
  simp [setBlock,Ne.symm this],.refl _⟩
omit [DecidableEq κ] in
theorem Ents.set {ke:κ→Value} {xs:List (κ×α)} {es:Array MapEntry} {clock:Nat} (h:Ents ke xs es clock) {i:Nat} {k:κ} {v:α} {e:MapEntry} (hx:xs[i]?=some (k,v)) (he:es[i]?=some e) (y:α) (z:Value):
  Ents ke (xs.set i (k,y)) (es.modify i fun e=>{e with key:=ke k,val:=z}) clock:=by
 have hlt:=(List.getElem?_eq_some_iff.1 hx).1
 have hlt':=(Array.getElem?_eq_some_iff.1 he).1
 have hb:(es.modify i fun e=>{e with key:=ke k,val:=z}).toList.map (·.born)=es.toList.map (·.born):=by
  apply List.ext_getElem?
  intro j
  simp only [List.getElem?_map,Array.getElem?_toList,Array.getElem?_modify]
  split <;> · cases es[j]? <;> rfl
 refine⟨by simp [h.size],?_,fun e' he'=>?_,?_,fun j x e' hj he'=>?_⟩
 ·have:=h.born
  rw [←List.pairwise_map (f:=fun e:MapEntry=>e.born) (R:=fun a b=>a<b)] at this ⊢
  rw [hb];exact this
 ·have hm:e'.born∈(es.modify i fun e=>{e with key:=ke k,val:=z}).toList.map (·.born):=List.mem_map.2 ⟨e',he',rfl⟩
  rw [hb] at hm
  obtain⟨e2,h2,h3⟩:=List.mem_map.1 hm
  rw [←h3];exact h.old e2 h2
 ·have:(xs.set i (k,y)).map (·.1)=xs.map (·.1):=by
   apply List.ext_getElem?
   intro j
   simp only [List.getElem?_map,List.getElem?_set]
   by_cases e:i=j
   ·subst e
    rw [List.getElem?_eq_getElem hlt] at hx
    have hx':=Option.some.inj hx
    simp [hlt,hx']
   ·simp [e]
  rw [this];exact h.nodup
 ·rw [List.getElem?_set] at hj
  rw [Array.getElem?_modify] at he'
  by_cases e:i=j
  ·subst e
   rw [if_pos rfl] at hj
   try rw [if_pos hlt] at hj
   cases hj
   rw [if_pos rfl,he] at he'
   cases he';rfl
  ·rw [if_neg e] at hj he'
   exact h.key j x e' hj (by simpa using he')
omit [DecidableEq κ] in
theorem Ents.push {ke:κ→Value} {xs:List (κ×α)} {es:Array MapEntry} {clock:Nat} (h:Ents ke xs es clock) {k:κ} (hk:∀p,p∈xs→p.1≠k) (y:α) (z:Value):
  Ents ke (xs++[(k,y)]) (es.push {key:=ke k,val:=z,born:=clock}) (clock+1):=by
 refine⟨by simp [h.size],?_,fun e he=>?_,?_,fun j x e hj he=>?_⟩
 ·rw [Array.toList_push,List.pairwise_append]
  exact⟨h.born,by simp,fun a ha b hb=>by simp at hb;subst hb;exact h.old a ha⟩
 ·rw [Array.toList_push] at he
  rcases List.mem_append.1 he with h1 | h1
  ·exact Nat.lt_succ_of_lt (h.old e h1)
  ·simp at h1;subst h1;exact Nat.lt_succ_self _
 ·rw [List.map_append,List.nodup_append]
  refine⟨h.nodup,by simp,fun a ha b hb e=>?_⟩
  simp at hb;subst hb;subst e
  obtain⟨p,hp,e⟩:=List.mem_map.1 ha
  exact hk p hp e
 ·rcases Nat.lt_or_ge j xs.length with hlt | hge
  ·rw [List.getElem?_append_left hlt] at hj
   rw [Array.getElem?_push,if_neg (by rw [h.size];omega)] at he
   exact h.key j x e hj he
  ·have:=(List.getElem?_eq_some_iff.1 hj).1
   simp at this
   have hj':j=xs.length:=by omega
   subst hj'
   simp at hj;subst hj
   rw [Array.getElem?_push,if_pos h.size.symm] at he
   cases he;rfl
theorem Eff1.mu (htb:QI P tb) {t kt et n' by_:Nat} {zc:List Value} {m k v:Operand} {l:Nat} {ke:κ→Value} {ve:α→AVal} {xs:List (κ×α)} {x:κ} {y:α} {X Y:AVal} (ho:o.op=.mapUpdate t m k v∨o.op=.insert t m k v) (ht:find tb t=some ⟨.mp kt et,n',by_,zc⟩) (K:KeyT P kt ke) (hro:∀y,(ve y).isRo=true)
  (hm:ev Γ m=some (.o l)) (hl:find H l=some (.val (.om ke ve xs))) (hk:ev Γ k=some X) (hX:unv X=unv (.v (ke x))) (hv:ev Γ v=some Y) (hY:Y=ve y∨(∃z,ve y=.v z∧unv Y=unv (.v z))∨∃cs,ve y=.sv cs∧Y=.agg cs∧cs.all AVal.isRo=true) (hd:o.dst=none):
  Eff1 P B Γ H nl o Γ (setH H l (.val (.om ke ve (upd xs x y)))) nl (.fx [l] false):=Eff1.of_skip fun B hB β F a w hβ hf=>by
 obtain⟨dst,op,ty,pos,af,g⟩:=o
 simp only at ho hd;subst hd
 obtain⟨d,hdd,rfl⟩:=htb.und ht
 have hkv:a.eval k=ke x:=Dn.unv_inv hX (Q5 (a:=a) hf.env hk)
 have hvv:Ro B.w0 B.ok (ve y) (a.eval v):=by
  rcases hY with rfl | ⟨z,h1,h2⟩ | ⟨cs,h1,h2,h3⟩
  ·exact (Q5 (a:=a) hf.env hv).ro_of (hro y)
  ·rw [h1,Dn.unv_inv h2 (Q5 (a:=a) hf.env hv)];exact .v z
  ·have hd:=Q5 (a:=a) hf.env hv
   rw [h2] at hd
   obtain⟨vs,e,hl,hd⟩:=hd.agg_inv
   rw [h1,e];exact .sv cs vs hl (fun j A hA=>(hd j A hA).ro_of (List.all_eq_true.1 h3 _ (List.mem_of_getElem? hA)))
 obtain⟨F1,hF1,⟨v0,hv0,hon⟩,hset⟩:=hf.heap.set hl
 have hmv:=(Q5 (a:=a) hf.env hm).o_inv
 rw [hv0] at hmv;cases hmv
 generalize hmm:a.eval m=mv at hv0 hon
 cases hon with
 | ro F h=>cases h
 | om _ _ _ b es clock F' G hb hw he hG hdj hr=>
  have hg:=Go.MapKept.run_getObj_map (P:=P) hw
  have hhd:Mod β [l] b:=⟨l,by simp,_,hv0,rfl⟩
  have fin:∀(es':Array MapEntry) (clock':Nat) (xs':List (κ×α)),Ents ke xs' es' clock'→(∀(i:Nat) (p:κ×α) (e:MapEntry),xs'[i]?=some p→es'[i]?=some e→Ro B.w0 B.ok (ve p.2) e.val)→(Instr.mapUpdate t (.map (some b)) (ke x) (a.eval v)).run P w=.ok () (setBlock w b (.map es' clock'))→xs'=upd xs x y →
    ∃w' β' F',(execOp a.eval ⟨none,op,ty,pos,af,g⟩).run P w=.ok .skip w'∧β'.length=nl∧(∀(l:Nat) (x:Value),β[l]?=some x→β'[l]?=some x) ∧
     (∀(l':Nat) (x:Value) (b:Nat),nl≤l'→β'[l']?=some x→hdr x=some b→w.heap.size≤b∨Mod β [l] b)∧KH B β' F' Γ (setH H l (.val (.om ke ve (upd xs x y)))) (a.put none undef) w'∧Kp w (Mod β [l]) w':=fun es' clock' xs' hE hR hrun hxs=>by
   subst hxs
   have hk:=Gb w b (.map es' clock') (fun x=>x=b) rfl
   have hM:∀x,x=b→x<B.w0.heap.size→B.M x:=fun x hx hlt'=>by subst hx;exact (hf.own x (hF1 x hb)).2 hlt'
   refine⟨setBlock w b (.map es' clock'),β,F,?_,hβ,fun _ _ h=>h,fun l x b hl hx _=>?_,⟨hf.kp.trans hk hM,hf.ok,fun b' hb'=>by have:=hf.own b' hb';exact⟨Nat.lt_of_lt_of_le this.1 hk.size,this.2⟩,hset _ _ (fun b' hb' hn hlt=>GQ hw _ (fun e=>hn (e▸hb))) ⟨_,hv0,.om ke ve _ b es' clock' F1 (fun _ _=>False) hb (YX hw _) hE (fun _ _ h=>h.elim) (fun _ _ _ h=>h.elim) (fun i p e h1 h2=>.ro _ (hR i p e h1 h2))⟩,hf.env,by simpa [Act.put] using hf.size,hf.defers,hf.pre⟩,Gb w b _ _ hhd⟩
   ·rcases ho with rfl | rfl <;> simp [execOp,hmm,hkv,hrun]
   ·rw [List.getElem?_eq_none (by omega)] at hx;cases hx
  rcases he.find K x with ⟨h1,h2,h3,h4⟩ | ⟨i,v1,e,h1,h2,h3,h4,h5⟩
  ·refine fin _ _ _ (he.push h3 y (a.eval v)) (fun i p e h5 h6=>?_) ?_ (Z7 _ _ _ h3).symm
   ·rcases Nat.lt_or_ge i xs.length with hlt | hge
    ·rw [List.getElem?_append_left hlt] at h5
     rw [Array.getElem?_push,if_neg (by rw [he.size];omega)] at h6
     exact (hr i p e h5 h6).ro_of (hro _)
    ·have:=(List.getElem?_eq_some_iff.1 h5).1
     simp at this
     have hi':i=xs.length:=by omega
     subst hi'
     simp at h5;subst h5
     rw [Array.getElem?_push,if_pos he.size.symm] at h6
     cases h6;exact hvv
   ·simp [Instr.mapUpdate,run_underlying hdd,hg,K.chk,h4,Go.MapKept.run_setObj_map _ hw,setBlock]
  ·refine fin _ _ _ (he.set h3 h4 y (a.eval v)) (fun j p e' h6 h7=>?_) ?_ (ZS _ _ _ _ h2).symm
   ·have hlt:=(List.getElem?_eq_some_iff.1 h3).1
    rw [List.getElem?_set] at h6
    rw [Array.getElem?_modify] at h7
    by_cases e2:i=j
    ·subst e2
     rw [if_pos rfl] at h6
     try rw [if_pos hlt] at h6
     cases h6
     rw [if_pos rfl,h4] at h7
     cases h7;exact hvv
    ·rw [if_neg e2] at h6 h7
     exact (hr j p e' h6 (by simpa using h7)).ro_of (hro _)
   ·have hkey:e.key=ke x:=he.key i _ e h3 h4
    simp [Instr.mapUpdate,run_underlying hdd,hg,K.chk,h5,h4,hkey,Instr.keyThatStays,K.same,Go.MapKept.run_setObj_map _ hw,setBlock]
end
end Go.Taq
