/- Part 2 of what the walks and the law rest on: a library over any program, and the mathematics of the law. No condition. -/
import Derived.Test.YtpckofngkabgbaaGreatM1
import Derived.DeepKeys3
import Derived.ChangeReads
import Derived.ChangeSame
import Derived.KernelRfl
import Derived.Lib.Bytealg
import Derived.RangeFuncRecord
import Derived.RangeFuncSeq
import Derived.OrdersIn
import Derived.Laws.Pointers
set_option linter.unusedVariables false
set_option linter.unusedSimpArgs false
namespace Go.Taq
open Go
open Go.ChangeMaps (setBlock)
def unv:AVal->AVal
 | .v (.agg vs)=>.agg (vs.toList.map .v)
 | .sv cs=>.agg cs
 | A=>A
theorem Dn.unv{w0:World}{ok:Nat->Prop}{β:List Value}{A:AVal}{x:Value}(h:Dn w0 ok β A x):Dn w0 ok β (Taq.unv A) x:=by
 unfold Taq.unv;split
 ·rename_i vs;have:=h.v_inv;subst this;refine .agg _ vs (by simp) (λj B hB=>?_);simp only [gK,Option.map_eq_some_iff] at hB;obtain⟨u,hu,rfl⟩:=hB;have:vs[j]?=some u:=by simpa using hu
  simp only [gA,this];exact .ro (.v u)
 ·cases h with
  | ro h=>cases h with
   | sv cs vs hl h=>exact .agg _ vs hl (λj B hB=>.ro (h j B hB))
 ·exact h
theorem Dn.unv_inv{w0:World}{ok:Nat->Prop}{β:List Value}{A:AVal}{x y:Value}(hA:Taq.unv A=Taq.unv (.v y))(h:Dn w0 ok β A x):x=y:=by
 have h':=h.unv;rw [hA] at h';unfold Taq.unv at h';split at h'
 ·rename_i vs heq;cases heq;obtain⟨us,rfl,hl,hd⟩:=h'.agg_inv;congr 1;apply Array.ext (by simpa using hl.symm);intro i h1 h2;have:=hd i (.v vs[i]) (by simp [h2]);have:=this.v_inv;simpa [gA,h1] using this
 ·rename_i heq;cases heq
 ·exact h'.v_inv
def QcK(w0:World)(ok:Nat->Prop){κ α:Type}(ke:κ->Value)(ve:α->AVal)(xs:List (κ×α))(es:Array MapEntry)(clock:Nat):Prop:=
 Ents ke xs es clock∧∀(i:Nat) (x:κ×α) (e:MapEntry),xs[i]?=some x->es[i]?=some e->Ro w0 ok (ve x.2) e.val
section
variable {κ α:Type} [DecidableEq κ]
omit [DecidableEq κ] in
theorem Ents.entK{ke:κ->Value}{xs:List (κ×α)}{es:Array MapEntry}{clock:Nat}(h:Ents ke xs es clock):EntK ke (xs.map (·.1)) es.toList:=
 ⟨by simp [h.size],λi k e hk he=>by
  simp only [gK,Option.map_eq_some_iff] at hk;obtain⟨x,hx,rfl⟩:=hk;exact h.key i x e hx (by simpa using he)⟩
theorem Ents.find{P:Program}{kt:TypeId}{ke:κ->Value}(K:KeyT P kt ke){xs:List (κ×α)}{es:Array MapEntry}{clock:Nat}(h:Ents ke xs es clock)(k:κ):
  (lk xs k=none∧kidx (xs.map (·.1)) k=none∧(∀p,p∈xs->p.1≠k)∧∀w,(Instr.findKey kt (ke k) es.toList).run P w=.ok none w) ∨
  ∃i v e,lk xs k=some v∧kidx (xs.map (·.1)) k=some i∧xs[i]?=some (k,v)∧es[i]?=some e∧∀w,(Instr.findKey kt (ke k) es.toList).run P w=.ok (some (i,e.val)) w:=by
 have hl:=Q1G xs k;cases hk:kidx (xs.map (·.1)) k with
 | none=>
  rw [hk] at hl;exact .inl ⟨hl.1,rfl,hl.2,λw=>by rw [K.fnd k _ _ w h.entK,hk];rfl⟩
 | some i=>
  rw [hk] at hl;obtain⟨v,h1,h2⟩:=hl;have hi:=(gS.1 h1).1;have hi':i<es.size:=by rw [h.size];exact hi
  have:es[i]?=some es[i]:=Array.getElem?_eq_getElem hi';exact .inr ⟨i,v,es[i],h2,rfl,h1,this,λw=>by rw [K.fnd k _ _ w h.entK,hk];simp [this]⟩
end
section
variable {P:Program} {B:Base} {tb:Tab} {Γ:Env} {H:Heap} {nl:Nat} {o:Oper} {κ α:Type} [DecidableEq κ]
inductive IsMp (H:Heap) {κ α:Type} (ke:κ->Value) (ve:α->AVal) (xs:List (κ×α)):AVal->List Nat->Prop where
 | rm:IsMp H ke ve xs (.rm ke ve xs) []
 | nil (h:xs=[]):IsMp H ke ve xs (.v (.map none)) []
 | o {l:Nat} (h:find H l=some (.val (.om ke ve xs))):IsMp H ke ve xs (.o l) [l]
 | rng {l li:Nat} {seen:List κ} (h:find H l=some (.rng ke ve xs seen li)):IsMp H ke ve xs (.o l) [l]
omit [DecidableEq κ] in
theorem IsMp.value{ke:κ->Value}{ve:α->AVal}{xs:List (κ×α)}{A:AVal}{rl:List Nat}(hm:IsMp H ke ve xs A rl)(hro:∀y,(ve y).isRo=true){β:List Value}{F:Nat->Prop}{a:Act}{w:World}(hf:XA B β F Γ H a w){x:Value}(hx:Dn B.w0 B.ok β A x):
  (x=.map none∧xs=[])∨∃b es clock,x=.map (some b)∧QcK B.w0 B.ok ke ve xs es clock∧∀w',RdC B β w w' (some rl)->w'.heap[b]?=some (.map es clock):=by
 have hok:∀b,B.ok b->w.heap[b]?=B.w0.heap[b]?:=λb hb=>by have:=hf.ok b hb;exact hf.kp.block b this.1 this.2
 cases hm with
 | rm=>
  cases hx with
  | ro h=>cases h with
   | rmNil=>exact .inl ⟨rfl,rfl⟩
   | rm _ _ _ b es clock hb hw he hr=>exact .inr ⟨b,es,clock,rfl,⟨he,hr⟩,λw' hw'=>by rw [hw'.1 b hb,hok b hb];exact hw⟩
 | nil h=>exact .inl ⟨hx.v_inv,h⟩
 | o h=>
  obtain⟨F1,_,v,hv,hon⟩:=hf.heap.get h;have:=hx.o_inv;rw [hv] at this;cases this;cases hon with
  | ro F h=>cases h
  | om _ _ _ b es clock F G hb hw he hG hd hr=>exact .inr ⟨b,es,clock,rfl,⟨he,λi x e h1 h2=>(hr i x e h1 h2).ro_of (hro _)⟩,λw' hw'=>by rw [hw'.2 b ⟨_,by simp,_,hv,rfl⟩];exact hw⟩
 | rng h=>
  obtain⟨F1,_,b,bi,es,clock,sa,G,hl,hli,hne,hF,hFi,hw,hwi,he,hG,hd,hr,hs⟩:=hf.heap.get h;have:=hx.o_inv;rw [hl] at this;cases this;exact .inr ⟨b,es,clock,rfl,⟨he,λi x e h1 h2=>(hr i x e h1 h2).ro_of (hro _)⟩,λw' hw'=>by rw [hw'.2 b ⟨_,by simp,_,hl,rfl⟩];exact hw⟩
structure Q6d (P:Program) (et:TypeId) (ve:α->AVal) (z0:α):Prop where
 h:∃z,(∀w,(zeroValue et).run P w=.ok z w)∧∀w ok,Ro w ok (ve z0) z
theorem Q50{t kt et:TypeId}(ht:P.underlying t=some (.map kt et)){ke:κ->Value}{ve:α->AVal}(K:KeyT P kt ke){z0:α}(Z:Q6d P et ve z0){w0:World}{ok:Nat->Prop}{xs:List (κ×α)}{k:κ}{x:Value}(c:Bool){R:World->Prop}
  (hx:(x=.map none∧xs=[])∨∃b es clock,x=.map (some b)∧QcK w0 ok ke ve xs es clock∧∀w',R w'->w'.heap[b]?=some (.map es clock)):
  ∃v,Ro w0 ok (ve ((lk xs k).getD z0)) v∧∀w',R w'->(Instr.lookup t x (ke k) c).run P w'=.ok (if c then .tuple #[v,.bool (lk xs k).isSome] else v) w':=by
 obtain⟨z,hz,hzr⟩:=Z.h;rcases hx with ⟨rfl,rfl⟩ | ⟨b,es,clock,rfl,hm,hw⟩
 ·refine⟨z,hzr _ _,λw' _=>?_⟩;have:=K.fnd k [] [] w' ⟨rfl,by simp⟩;simp only [kidx,Option.bind] at this;cases c <;> simp [Instr.lookup,run_underlying ht,K.chk,this,hz,lk]
 ·rcases hm.1.find K k with ⟨h1,h2,h3,h4⟩ | ⟨i,v,e,h1,h2,h3,h4,h5⟩
  ·refine⟨z,by rw [h1];exact hzr _ _,λw' hw'=>?_⟩;have hg:=Go.MapKept.run_getObj_map (P:=P) (hw w' hw');cases c <;> simp [Instr.lookup,run_underlying ht,hg,K.chk,h4,hz,h1]
  ·refine⟨e.val,by rw [h1];exact hm.2 i _ e h3 h4,λw' hw'=>?_⟩;have hg:=Go.MapKept.run_getObj_map (P:=P) (hw w' hw');cases c <;> simp [Instr.lookup,run_underlying ht,hg,K.chk,h5,h1]
theorem Rd.lk[htb:TabOk P tb]{t kt et n' by_:Nat}{zc:List Value}{m k:Operand}{M:AVal}{rl:List Nat}{ke:κ->Value}{ve:α->AVal}{xs:List (κ×α)}{z0:α}{x:κ}{X A:AVal}(ho:o.op=.lookup t m k false)(ht:find tb t=some ⟨.mp kt et,n',by_,zc⟩)(K:KeyT P kt ke)(Z:Q6d P et ve z0)(hro:∀y,(ve y).isRo=true)
  (hm:ev Γ m=some M) (hM:IsMp H ke ve xs M rl) (hk:ev Γ k=some X) (hX:unv X=unv (.v (ke x))) (hA:unv (ve ((lk xs x).getD z0))=A):Rd P B Γ H nl o A (some rl):=λB hB β F a w hβ hf=>by
 obtain⟨dst,op,ty,pos,af,g⟩:=o;simp only at ho;subst ho;obtain⟨d,hd,rfl⟩:=htb.und ht;have hkv:a.eval k=ke x:=Dn.unv_inv hX (Qf (a:=a) hf.env hk);obtain⟨v,hv,hrun⟩:=Q50 (P:=P) hd K Z (k:=x) false (hM.value hro hf (Qf (a:=a) hf.env hm));refine⟨v,hA▸(Dn.ro hv).unv,λw' hw'=>?_⟩;simp [execOp,hkv,hrun w' hw']
theorem Rd.lk2[htb:TabOk P tb]{t kt et n' by_:Nat}{zc:List Value}{m k:Operand}{M:AVal}{rl:List Nat}{ke:κ->Value}{ve:α->AVal}{xs:List (κ×α)}{z0:α}{x:κ}{X A:AVal}(ho:o.op=.lookup t m k true)(ht:find tb t=some ⟨.mp kt et,n',by_,zc⟩)(K:KeyT P kt ke)(Z:Q6d P et ve z0)(hro:∀y,(ve y).isRo=true)
  (hm:ev Γ m=some M) (hM:IsMp H ke ve xs M rl) (hk:ev Γ k=some X) (hX:unv X=unv (.v (ke x))) (hA:unv (ve ((Taq.lk xs x).getD z0))=A):Rd P B Γ H nl o (.tup [A,.v (.bool (Taq.lk xs x).isSome)]) (some rl):=λB hB β F a w hβ hf=>by
 obtain⟨dst,op,ty,pos,af,g⟩:=o;simp only at ho;subst ho;obtain⟨d,hd,rfl⟩:=htb.und ht;have hkv:a.eval k=ke x:=Dn.unv_inv hX (Qf (a:=a) hf.env hk);obtain⟨v,hv,hrun⟩:=Q50 (P:=P) hd K Z (k:=x) true (hM.value hro hf (Qf (a:=a) hf.env hm));refine⟨_,.tup _ #[v,.bool (Taq.lk xs x).isSome] rfl (λj C hC=>?_),λw' hw'=>?_⟩
 ·match j,hC with
  | 0,hC=>simp at hC;subst hC;exact hA▸(Dn.ro hv).unv
  | 1,hC=>simp at hC;subst hC;exact .ro (.v _)
  | j+2,hC=>simp at hC
 ·simp [execOp,hkv,hrun w' hw']
omit [DecidableEq κ] in
theorem Eff1.mm{t:TypeId}(ke:κ->Value)(ve:α->AVal){d:Nat}(ho:o.op=.makeMap t none)(hd:o.dst=some d)(hlt:d.blt B.n=true):
  Eff1 P B Γ H nl o ((d,.o nl) :: Γ) ((nl,.val (.om ke ve [])) :: H) (nl+1) (.fx [] false):=Eff1.of_value λB hB β F a w hβ hf=>by
 rw [<-hB] at hlt;obtain⟨dst,op,ty,pos,af,g⟩:=o;simp only at ho hd;subst ho;subst hd;subst hβ;refine⟨.map (some w.heap.size),w.alloc (.map #[] 0),β++[.map (some w.heap.size)],_,?_,by simp,λl x h=>Ql h,λl x b hl hx hb=>?_,
  (XA.alloc hf (.map #[] 0) (.map (some w.heap.size)) (.val (.om ke ve [])) ?_).put hlt ?_,?_⟩
 ·simp [execOp,Instr.makeMap,newObj,Sem.run,Result.andThen]
 ·have:=YN rfl hl hx;subst this;cases hb;exact .inl (Nat.le_refl _)
 ·exact⟨_,by simp,.om ke ve [] w.heap.size #[] 0 _ (λ_ _=>False) rfl (heap_alloc_new w _) ⟨rfl,by simp,by simp,by simp,by simp⟩ (λ_ _ h=>h.elim) (λ_ _ _ h=>h.elim) (by simp)⟩
 ·exact .o _ _ (by simp) rfl
 ·exact Wg w _ _
theorem Q1X{w:World}{b:Nat}{o:Obj}(hb:w.heap[b]?=some o)(o':Obj):(setBlock w b o').heap[b]?=some o':=(Go.MapKept.heap_set hb).1
theorem YX{w:World}{b:Nat}{o:Obj}(hb:w.heap[b]?=some o)(o':Obj){i:Nat}(h:i≠b):(setBlock w b o').heap[i]?=w.heap[i]?:=(Go.MapKept.heap_set hb).2 i h
theorem WX(w:World)(b:Nat)(o:Obj)(M:Nat->Prop)(hM:M b):Kp w M (setBlock w b o):=
 ⟨rfl,rfl,rfl,by simp [setBlock],λi _ hi=>by
  have:i≠b:=λe=>hi (e▸hM)
  simp [setBlock,Ne.symm this],.refl _⟩
omit [DecidableEq κ] in
theorem Ents.set{ke:κ->Value}{xs:List (κ×α)}{es:Array MapEntry}{clock:Nat}(h:Ents ke xs es clock){i:Nat}{k:κ}{v:α}{e:MapEntry}(hx:xs[i]?=some (k,v))(he:es[i]?=some e)(y:α)(z:Value):
  Ents ke (xs.set i (k,y)) (es.modify i λe=>{e with key:=ke k,val:=z}) clock:=by
 have hlt:=(gS.1 hx).1;have hlt':=(Array.getElem?_eq_some_iff.1 he).1;have hb:(es.modify i λe=>{e with key:=ke k,val:=z}).toList.map (·.born)=es.toList.map (·.born):=by
  apply List.ext_getElem?;intro j;simp only [gK,Array.getElem?_toList,Array.getElem?_modify];split <;> · cases es[j]? <;> rfl
 refine⟨by simp [h.size],?_,λe' he'=>?_,?_,λj x e' hj he'=>?_⟩
 ·have:=h.born;rw [<-List.pairwise_map (f:=λe:MapEntry=>e.born) (R:=λa b=>a<b)] at this ⊢;rw [hb];exact this
 ·have hm:e'.born∈(es.modify i λe=>{e with key:=ke k,val:=z}).toList.map (·.born):=List.mem_map.2 ⟨e',he',rfl⟩;rw [hb] at hm;obtain⟨e2,h2,h3⟩:=List.mem_map.1 hm;rw [<-h3];exact h.old e2 h2
 ·have:(xs.set i (k,y)).map (·.1)=xs.map (·.1):=by
   apply List.ext_getElem?;intro j;simp only [gK,List.getElem?_set];by_cases e:i=j
   ·subst e;rw [gE hlt] at hx;have hx':=Option.some.inj hx;simp [hlt,hx']
   ·simp [e]
  rw [this];exact h.nodup
 ·rw [List.getElem?_set] at hj;rw [Array.getElem?_modify] at he';by_cases e:i=j
  ·subst e;rw [gF rfl] at hj
   try rw [gF hlt] at hj
   cases hj;rw [gF rfl,he] at he';cases he';rfl
  ·rw [gC e] at hj he';exact h.key j x e' hj (by simpa using he')
omit [DecidableEq κ] in
theorem Ents.push{ke:κ->Value}{xs:List (κ×α)}{es:Array MapEntry}{clock:Nat}(h:Ents ke xs es clock){k:κ}(hk:∀p,p∈xs->p.1≠k)(y:α)(z:Value):
  Ents ke (xs++[(k,y)]) (es.push {key:=ke k,val:=z,born:=clock}) (clock+1):=by
 refine⟨by simp [h.size],?_,λe he=>?_,?_,λj x e hj he=>?_⟩
 ·rw [Array.toList_push,List.pairwise_append];exact⟨h.born,by simp,λa ha b hb=>by simp at hb;subst hb;exact h.old a ha⟩
 ·rw [Array.toList_push] at he;rcases List.mem_append.1 he with h1 | h1
  ·exact Nat.lt_succ_of_lt (h.old e h1)
  ·simp at h1;subst h1;exact Nat.lt_succ_self _
 ·rw [List.map_append,List.nodup_append];refine⟨h.nodup,by simp,λa ha b hb e=>?_⟩;simp at hb;subst hb;subst e;obtain⟨p,hp,e⟩:=List.mem_map.1 ha;exact hk p hp e
 ·rcases gH j xs.length with hlt | hge
  ·rw [gL hlt] at hj;rw [Array.getElem?_push,gC (by rw [h.size];omega)] at he;exact h.key j x e hj he
  ·have:=(gS.1 hj).1;simp at this;have hj':j=xs.length:=by omega
   subst hj';simp at hj;subst hj;rw [Array.getElem?_push,gF h.size.symm] at he;cases he;rfl
theorem Eff1.mu[htb:TabOk P tb]{t kt et n' by_:Nat}{zc:List Value}{m k v:Operand}{l:Nat}{ke:κ->Value}{ve:α->AVal}{xs:List (κ×α)}{x:κ}{y:α}{X Y:AVal}(ho:o.op=.mapUpdate t m k v∨o.op=.insert t m k v)(ht:find tb t=some ⟨.mp kt et,n',by_,zc⟩)(K:KeyT P kt ke)(hro:∀y,(ve y).isRo=true)
  (hm:ev Γ m=some (.o l)) (hl:find H l=some (.val (.om ke ve xs))) (hk:ev Γ k=some X) (hX:unv X=unv (.v (ke x))) (hv:ev Γ v=some Y) (hY:Y=ve y∨(∃z,ve y=.v z∧unv Y=unv (.v z))∨∃cs,ve y=.sv cs∧Y=.agg cs∧cs.all AVal.isRo=true) (hd:o.dst=none):
  Eff1 P B Γ H nl o Γ (setH H l (.val (.om ke ve (upd xs x y)))) nl (.fx [l] false):=Eff1.of_skip λB hB β F a w hβ hf=>by
 obtain⟨dst,op,ty,pos,af,g⟩:=o;simp only at ho hd;subst hd;obtain⟨d,hdd,rfl⟩:=htb.und ht;have hkv:a.eval k=ke x:=Dn.unv_inv hX (Qf (a:=a) hf.env hk);have hvv:Ro B.w0 B.ok (ve y) (a.eval v):=by
  rcases hY with rfl | ⟨z,h1,h2⟩ | ⟨cs,h1,h2,h3⟩
  ·exact (Qf (a:=a) hf.env hv).ro_of (hro y)
  ·rw [h1,Dn.unv_inv h2 (Qf (a:=a) hf.env hv)];exact .v z
  ·have hd:=Qf (a:=a) hf.env hv;rw [h2] at hd;obtain⟨vs,e,hl,hd⟩:=hd.agg_inv;rw [h1,e];exact .sv cs vs hl (λj A hA=>(hd j A hA).ro_of (gT.1 h3 _ (gM hA)))
 obtain⟨F1,hF1,⟨v0,hv0,hon⟩,hset⟩:=hf.heap.set hl;have hmv:=(Qf (a:=a) hf.env hm).o_inv;rw [hv0] at hmv;cases hmv;generalize hmm:a.eval m=mv at hv0 hon;cases hon with
 | ro F h=>cases h
 | om _ _ _ b es clock F' G hb hw he hG hdj hr=>
  have hg:=Go.MapKept.run_getObj_map (P:=P) hw;have hhd:Mod β [l] b:=⟨l,by simp,_,hv0,rfl⟩;have fin:∀(es':Array MapEntry) (clock':Nat) (xs':List (κ×α)),Ents ke xs' es' clock'->(∀(i:Nat) (p:κ×α) (e:MapEntry),xs'[i]?=some p->es'[i]?=some e->Ro B.w0 B.ok (ve p.2) e.val)->(Instr.mapUpdate t (.map (some b)) (ke x) (a.eval v)).run P w=.ok () (setBlock w b (.map es' clock'))->xs'=upd xs x y ->
    ∃w' β' F',(execOp a.eval ⟨none,op,ty,pos,af,g⟩).run P w=.ok .skip w'∧β'.length=nl∧(∀(l:Nat) (x:Value),β[l]?=some x->β'[l]?=some x) ∧
     (∀(l':Nat) (x:Value) (b:Nat),nl≤l'->β'[l']?=some x->hdr x=some b->w.heap.size≤b∨Mod β [l] b)∧XA B β' F' Γ (setH H l (.val (.om ke ve (upd xs x y)))) (a.put none undef) w'∧Kp w (Mod β [l]) w':=λes' clock' xs' hE hR hrun hxs=>by
   subst hxs;have hk:=WX w b (.map es' clock') (λx=>x=b) rfl;have hM:∀x,x=b->x<B.w0.heap.size->B.M x:=λx hx hlt'=>by subst hx;exact (hf.own x (hF1 x hb)).2 hlt'
   refine⟨setBlock w b (.map es' clock'),β,F,?_,hβ,λ_ _ h=>h,λl x b hl hx _=>?_,⟨hf.kp.trans hk hM,hf.ok,λb' hb'=>by have:=hf.own b' hb';exact⟨gG this.1 hk.size,this.2⟩,hset _ _ (λb' hb' hn hlt=>YX hw _ (λe=>hn (e▸hb))) ⟨_,hv0,.om ke ve _ b es' clock' F1 (λ_ _=>False) hb (Q1X hw _) hE (λ_ _ h=>h.elim) (λ_ _ _ h=>h.elim) (λi p e h1 h2=>.ro _ (hR i p e h1 h2))⟩,hf.env,by simpa [Act.put] using hf.size,hf.defers,hf.pre⟩,WX w b _ _ hhd⟩
   ·rcases ho with rfl | rfl <;> simp [execOp,hmm,hkv,hrun]
   ·rw [gN (by omega)] at hx;cases hx
  rcases he.find K x with ⟨h1,h2,h3,h4⟩ | ⟨i,v1,e,h1,h2,h3,h4,h5⟩
  ·refine fin _ _ _ (he.push h3 y (a.eval v)) (λi p e h5 h6=>?_) ?_ (Q1W _ _ _ h3).symm
   ·rcases gH i xs.length with hlt | hge
    ·rw [gL hlt] at h5;rw [Array.getElem?_push,gC (by rw [he.size];omega)] at h6;exact (hr i p e h5 h6).ro_of (hro _)
    ·have:=(gS.1 h5).1;simp at this;have hi':i=xs.length:=by omega
     subst hi';simp at h5;subst h5;rw [Array.getElem?_push,gF he.size.symm] at h6;cases h6;exact hvv
   ·simp [Instr.mapUpdate,run_underlying hdd,hg,K.chk,h4,Go.MapKept.run_setObj_map _ hw,setBlock]
  ·refine fin _ _ _ (he.set h3 h4 y (a.eval v)) (λj p e' h6 h7=>?_) ?_ (Q3j _ _ _ _ h2).symm
   ·have hlt:=(gS.1 h3).1;rw [List.getElem?_set] at h6;rw [Array.getElem?_modify] at h7;by_cases e2:i=j
    ·subst e2;rw [gF rfl] at h6
     try rw [gF hlt] at h6
     cases h6;rw [gF rfl,h4] at h7;cases h7;exact hvv
    ·rw [gC e2] at h6 h7;exact (hr j p e' h6 (by simpa using h7)).ro_of (hro _)
   ·have hkey:e.key=ke x:=he.key i _ e h3 h4;simp [Instr.mapUpdate,run_underlying hdd,hg,K.chk,h5,h4,hkey,Instr.keyThatStays,K.same,Go.MapKept.run_setObj_map _ hw,setBlock]
end
end Go.Taq
namespace Go.Taq
open Go
open Go.ChangeMaps (setBlock)
section
variable {κ α:Type} [DecidableEq κ]
end
section
variable {P:Program} {B:Base} {tb:Tab} {Γ:Env} {H:Heap} {nl:Nat} {o:Oper} {κ α:Type} [DecidableEq κ]
end
end Go.Taq
namespace Go.Taq
open Go
open Go.ChangeMaps (setBlock)
theorem HOk.shrink{w0 w:World}{ok:Nat->Prop}{β:List Value}:∀{H:Heap} {F:Nat->Prop},HOk w0 ok β w H F->∀{l:Nat} {R:Res},find H l=some R ->
  ∃F1,(∀b,F1 b->F b)∧Gn w0 ok β w l F1 R∧∀(F1':Nat->Prop) R',(∀b,F1' b->F1 b)->Gn w0 ok β w l F1' R'->HOk w0 ok β w (setH H l R') (λb=>F b∧(F1 b->F1' b))
 | [],_,_,_,_,h=>by simp [find] at h
 | (k,S) :: H,F,⟨F1,F2,h1,h2,h12,hR,hH⟩,l,R,hl=>by
  rw [find_cons] at hl;split at hl
  ·rename_i e;subst e;cases hl;refine⟨F1,h1,hR,λF1' R' hs hR'=>?_⟩;rw [Q1Z,gF rfl];exact⟨F1',F2,λb hb=>⟨h1 b (hs b hb),λ_=>hb⟩,λb hb=>⟨h2 b hb,λhb'=>(h12 b hb' hb).elim⟩,λb hb hb'=>h12 b (hs b hb) hb',hR',hH⟩
  ·rename_i e;obtain⟨G,g1,g2,g3⟩:=hH.shrink hl;refine⟨G,λb hb=>h2 b (g1 b hb),g2,λF1' R' hs hR'=>?_⟩;rw [Q1Z,gC e];exact⟨F1,_,λb hb=>⟨h1 b hb,λhb'=>(h12 b hb (g1 b hb')).elim⟩,λb hb=>⟨h2 b hb.1,hb.2⟩,λb hb hb'=>h12 b hb hb'.1,hR,g3 F1' R' hs hR'⟩
def rmH:Heap->Nat->Heap
 | [],_=>[]
 | (k,S) :: H,l=>bif k.beq l then H else (k,S) :: rmH H l
theorem Q5W(k:Nat)(S:Res)(H:Heap)(l:Nat):rmH ((k,S) :: H) l=if k=l then H else (k,S) :: rmH H l:=by
 rw [rmH];by_cases h:k=l
 ·subst h;simp
 ·have:k.beq l=false:=by cases hb:k.beq l with
   | false=>rfl
   | true=>exact absurd (Nat.eq_of_beq_eq_true hb) h
  simp [this,h]
theorem HOk.rm{w0 w:World}{ok:Nat->Prop}{β:List Value}:∀{H:Heap} {F:Nat->Prop},HOk w0 ok β w H F->∀{l:Nat} {R:Res},find H l=some R ->
  ∃F2,(∀b,F2 b->F b)∧Gn w0 ok β w l F2 R∧HOk w0 ok β w (rmH H l) (λb=>F b∧¬F2 b)
 | [],_,_,_,_,h=>by simp [find] at h
 | (k,S) :: H,F,⟨F1,F2,h1,h2,h12,hR,hH⟩,l,R,hl=>by
  rw [find_cons] at hl;split at hl
  ·rename_i e;subst e;cases hl;refine⟨F1,h1,hR,?_⟩;rw [Q5W,gF rfl];exact hH.mono (λb hb=>⟨h2 b hb,λhb'=>h12 b hb' hb⟩)
  ·rename_i e;obtain⟨G,g1,g2,g3⟩:=hH.rm hl;refine⟨G,λb hb=>h2 b (g1 b hb),g2,?_⟩;rw [Q5W,gC e];exact⟨F1,_,λb hb=>⟨h1 b hb,λhb'=>h12 b hb (g1 b hb')⟩,λb hb=>⟨h2 b hb.1,hb.2⟩,λb hb hb'=>h12 b hb hb'.1,hR,g3⟩
theorem Q5c{l m:Nat}(hne:m≠l):∀(H:Heap),find (rmH H l) m=find H m
 | []=>rfl
 | (k,S) :: H=>by
  rw [Q5W,find_cons];split
  ·rename_i e;subst e;rw [gC (Ne.symm hne)]
  ·rw [find_cons,Q5c hne H]
theorem Gn.one{w0 w:World}{ok:Nat->Prop}{β:List Value}{l:Nat}{F:Nat->Prop}{R:Res}(h:Gn w0 ok β w l F R)(hR:R.ownd=true):∃x,β[l]?=some x∧x.oneCell'=true:=by
 cases R with
 | box cells=>obtain⟨b,c,T,hl,_⟩:=h;exact⟨_,hl,rfl⟩
 | val A=>
  obtain⟨x,hx,ho⟩:=h;refine⟨x,hx,?_⟩;cases ho with
  | ro F h=>cases h <;> first | rfl | cases hR
  | _=>rfl
 | lent enc xs L=>obtain⟨b,off,cap,c,T,G,hl,_⟩:=h;exact⟨_,hl,rfl⟩
 | lentm ke ve xs L=>obtain⟨b,es,clock,G,hl,_⟩:=h;exact⟨_,hl,rfl⟩
 | rng ke ve xs seen li=>obtain⟨b,bi,es,clock,sa,G,hl,_⟩:=h;exact⟨_,hl,rfl⟩
 | itn=>obtain⟨b,hl,_⟩:=h;exact⟨_,hl,rfl⟩
 | rngm=>obtain⟨b,O,hl,_⟩:=h;exact⟨_,hl,rfl⟩
 | abs Φ=>cases hR
section
variable {P:Program} {B:Base} {tb:Tab} {Γ:Env} {H:Heap} {nl:Nat} {o:Oper} {X:Act->World->Prop}
theorem St.ghost{H':Heap}{nl':Nat}(k:St B Γ H' nl' X)(h:∀(B':Base) β F a w,β.length=nl->XA B' β F Γ H a w->∃β',β'.length=nl'∧(∀(l:Nat) (x:Value),β[l]?=some x->β'[l]?=some x)∧HOk B'.w0 B'.ok β' w H' F):St B Γ H nl X:=λa w ⟨B',β,F,hx,hβ,hf⟩=>by
 obtain⟨β',h1,h2,h3⟩:=h B' β F a w hβ hf;have dn:∀{A:AVal} {x:Value},Dn B'.w0 B'.ok β A x->Dn B'.w0 B'.ok β' A x:=λ{A x} h=>by
  have:=h.ml (f:=id) (β':=β') (λl v hv=>h2 l v hv);have hid:∀A:AVal,A.ml id=A:=λA=>by
   refine AVal.rec (motive_1:=λA=>A.ml id=A) (motive_2:=λcs=>AVal.mlL id cs=cs) ?_ ?_ ?_ ?_ ?_ ?_ ?_ ?_ ?_ ?_ ?_ ?_ ?_ ?_ ?_ ?_ ?_ A
   all_goals intros
   all_goals simp_all [AVal.ml,AVal.mlL]
  rwa [hid] at this
 exact k a w ⟨B',β',F,hx,h1,hf.kp,hf.ok,hf.own,h3,λt A hA=>dn (hf.env t A hA),hf.size,hf.defers,λl x hl hx=>h2 l x (hf.pre l x hl hx)⟩
theorem On.os_inv{w0 w:World}{ok:Nat->Prop}{α:Type}{n:Nat}{enc:α->List AVal}{xs:List α}{x:Value}{F:Nat->Prop}(h:On w0 ok w (.os n enc xs) x F)(hx:xs≠[]):
  ∃(b off cap:Nat) (c:Array Value) (T:TypeId) (G:Nat->Nat->Nat->Prop),x=.slice (some ⟨b,off,none⟩) xs.length cap∧F b∧w.heap[b]?=some (.cells c T (0,0))∧xs.length≤cap∧off+cap*n≤c.size∧(∀(i:Nat) (x:α),xs[i]?=some x->(enc x).length=n) ∧
   (∀i j k,G i j k->F k∧k≠b)∧(∀i j i' j' k,G i j k->G i' j' k->i=i'∧j=j')∧∀(i j:Nat) (x:α) (A:AVal),xs[i]?=some x->(enc x)[j]?=some A->On w0 ok w A (c.getD (off+i*n+j) undef) (G i j):=by
 generalize hA:AVal.os n enc xs=A at h;cases h with
 | ro F h=>subst hA;cases h
 | arr=>cases hA
 | om=>cases hA
 | osNil n2 enc2 F p=>cases hA;exact absurd rfl hx
 | os n2 enc2 xs2 b off cap c T F G hb hw hlen hcap hn hG hd hr=>cases hA;exact⟨b,off,cap,c,T,G,rfl,hb,hw,hlen,hcap,hn,hG,hd,hr⟩
theorem On.om_inv{w0 w:World}{ok:Nat->Prop}{κ α:Type}{ke:κ->Value}{ve:α->AVal}{xs:List (κ×α)}{x:Value}{F:Nat->Prop}(h:On w0 ok w (.om ke ve xs) x F):
  ∃(b:Nat) (es:Array MapEntry) (clock:Nat) (G:Nat->Nat->Prop),x=.map (some b)∧F b∧w.heap[b]?=some (.map es clock)∧Ents ke xs es clock∧(∀i k,G i k->F k∧k≠b)∧(∀i i' k,G i k->G i' k->i=i') ∧
   ∀(i:Nat) (x:κ×α) (e:MapEntry),xs[i]?=some x->es[i]?=some e->On w0 ok w (ve x.2) e.val (G i):=by
 generalize hA:AVal.om ke ve xs=A at h;cases h with
 | ro F h=>subst hA;cases h
 | arr=>cases hA
 | os=>cases hA
 | osNil=>cases hA
 | om ke2 ve2 xs2 b es clock F G hb hw he hG hd hr=>cases hA;exact⟨b,es,clock,G,rfl,hb,hw,he,hG,hd,hr⟩
theorem St.lend{α:Type}{l i:Nat}{enc:α->List AVal}{xs:List α}{y:α}{A:AVal}(hl:find H l=some (.val (.os 1 enc xs)))(hy:xs[i]?=some y)(hA:enc y=[A])(hen:∀x,(enc x).length=1)
  (k:St B Γ ((nl,.val A) :: setH H l (.lent enc xs [(i,nl)])) (nl+1) X):St B Γ H nl X:=k.ghost λB' β F a w hβ hf=>by
 have hne:xs≠[]:=λe=>by subst e;simp at hy
 have hi:=(gS.1 hy).1;obtain⟨F1,hF1,v,hv,hon⟩:=hf.heap.get hl;obtain⟨b,off,cap,c,T,G,rfl,hb,hw,hlen,hcap,hn,hG,hd,hr⟩:=hon.os_inv hne;subst hβ;obtain⟨F3,hF3,⟨v3,hv3,hon3⟩,hsh⟩:=(hf.heap.snoc (c.getD (off+i) undef)).shrink hl;rw [Ql hv] at hv3;cases hv3;obtain⟨b3,off3,cap3,c3,T3,G3,heq,hb3,hw3,hlen3,hcap3,hn3,hG3,hd3,hr3⟩:=hon3.os_inv hne;cases heq;rw [hw] at hw3;cases hw3;have hcell:=hr3 i 0 y A hy (by rw [hA];rfl);simp only [Nat.mul_one,Nat.add_zero] at hcell;have h:=hsh (λb=>F3 b∧¬G3 i 0 b) (.lent enc xs [(i,β.length)]) (λb hb=>hb.1) ⟨b,off,cap,c,T,λj k=>G3 j 0 k∧j≠i,Ql hv,hw,⟨hb3,λh=>(hG3 _ _ _ h).2 rfl⟩,hlen3,by simpa using hcap3,λx _=>hen x,λj l' hj=>?_,λj k hk=>⟨⟨(hG3 _ _ _ hk.1).1,λh=>hk.2 (hd3 _ _ _ _ _ hk.1 h).1⟩,(hG3 _ _ _ hk.1).2⟩,λj j' k h h'=>(hd3 _ _ _ _ _ h.1 h'.1).1,λj x C hj hx hC=>?_⟩
 ·exact⟨β++[c.getD (off+i) undef],by simp,λl x h=>Ql h,G3 i 0,_,λk hk=>hF3 k (hG3 _ _ _ hk).1,λb hb=>hb.1,λb hb hb'=>(hb'.2 (hG3 _ _ _ hb).1).2 hb,⟨_,by simp,hcell⟩,h⟩
 ·simp only [List.mem_singleton,Prod.mk.injEq] at hj;obtain⟨rfl,rfl⟩:=hj;exact⟨hi,by simp⟩
 ·have hji:j≠i:=λe=>hj β.length (by simp [e])
  have:=hr3 j 0 x C hx hC;simp only [Nat.mul_one,Nat.add_zero] at this;exact this.mono (λb hb=>⟨hb,hji⟩)
theorem St.putb{α:Type}{l l' i:Nat}{enc:α->List AVal}{xs:List α}{y:α}{A:AVal}{L:List (Nat×Nat)}(hl:find H l=some (.lent enc xs ((i,l') :: L)))(hl':find H l'=some (.val A))(hne:l.beq l'=false)(hL:∀p,p∈L->p.1≠i)(hA:enc y=[A])(R:Res)
  (hR:R=if L.isEmpty then .val (.os 1 enc (xs.set i y)) else .lent enc (xs.set i y) L) (k:St B Γ (repH (rmH H l') l l R) nl X):St B Γ H nl X:=k.ghost λB' β F a w hβ hf=>by
 have hne':l≠l':=λe=>by subst e;simp at hne
 refine⟨β,hβ,λ_ _ h=>h,?_⟩;obtain⟨F2,hF2,⟨x,hx,hon⟩,hH⟩:=hf.heap.rm hl';have hl2:find (rmH H l') l=some (.lent enc xs ((i,l') :: L)):=by rw [Q5c hne'];exact hl
 refine (HOk.rep (λ_ _ h=>h) F2 hH hl2 (λF1 hF1 hRR=>⟨?_,λ_ _ _=>rfl⟩) (λb hb h=>h.2 hb) (λb hb=>(hf.own b hb.1).1) (λ_ _ _ h=>h)).mono (λb hb=>hb.elim (λh=>h.1) (hF2 b));obtain⟨b,off,cap,c,T,G,hv,hw,hb,hlen,hcap,hn,hLL,hG,hd,hr⟩:=hRR;obtain⟨hi,hci⟩:=hLL i l' (by simp);rw [hx] at hci;have hci:=Option.some.inj hci;have hdis:∀k,F2 k->F1 k->False:=λk h h'=>(hF1 k h').2 h
 have hG':∀j k,(if j=i then F2 k else G j k)->(F1 k∨F2 k)∧k≠b:=λj k h=>by
  split at h
  ·exact⟨.inr h,λe=>hdis k h (e▸hb)⟩
  ·exact⟨.inl (hG j k h).1,(hG j k h).2⟩
 have hd':∀j j' k,(if j=i then F2 k else G j k)->(if j'=i then F2 k else G j' k)->j=j':=λj j' k h h'=>by
  split at h <;> split at h'
  ·rename_i e e';exact e.trans e'.symm
  ·exact (hdis k h (hG _ _ h').1).elim
  ·exact (hdis k h' (hG _ _ h).1).elim
  ·exact hd _ _ k h h'
 have hel:∀(j:Nat) (z:α) (C:AVal),(∀m,(j,m)∉L)->(xs.set i y)[j]?=some z->(enc z)[0]?=some C->On B'.w0 B'.ok w C (c.getD (off+j) undef) (λk=>if j=i then F2 k else G j k):=λj z C hj hz hC=>by
  rw [List.getElem?_set] at hz;by_cases e:i=j
  ·subst e;rw [gF rfl] at hz
   try rw [gF hi] at hz
   cases hz;rw [hA] at hC;simp at hC;subst hC;rw [<-hci];exact hon.mono (λb hb=>by simp [hb])
  ·rw [gC e] at hz;have:=hr j z C (λm hm=>by
    rcases List.mem_cons.1 hm with e' | e'
    ·cases e';exact e rfl
    ·exact hj m e') hz hC
   exact this.mono (λb hb=>by rw [gC (Ne.symm e)];exact hb)
 have hen:∀z,z∈xs.set i y->(enc z).length=1:=λz hz=>by
  rcases List.mem_or_eq_of_mem_set hz with h | h
  ·exact hn z h
  ·subst h;rw [hA];rfl
 subst hR;cases L with
 | nil=>
  refine⟨_,hv,?_⟩;have:=On.os (w0:=B'.w0) (ok:=B'.ok) (w:=w) 1 enc (xs.set i y) b off cap c T (λb=>F1 b∨F2 b) (λj q k=>q=0∧if j=i then F2 k else G j k) (.inl hb) hw (by simpa using hlen) (by simpa using hcap) (λj z hz=>hen z (gM hz)) (λj q k h=>hG' j k h.2) (λj q j' q' k h h'=>⟨hd' j j' k h.2 h'.2,h.1.trans h'.1.symm⟩) (λj q z C hz hC=>?_)
  ·simpa using this
  ·have hq:q=0:=by
    have:=(gS.1 hC).1;rw [hen z (gM hz)] at this;omega
   subst hq;have:=hel j z C (λm=>by simp) hz hC;simp only [Nat.mul_one,Nat.add_zero,true_and];exact this
 | cons p L=>
  refine⟨b,off,cap,c,T,λj k=>if j=i then F2 k else G j k,by simpa using hv,hw,.inl hb,by simpa using hlen,hcap,hen,λj m hm=>?_,hG',hd',hel⟩;have:=hLL j m (by simp [hm]);exact⟨by simpa using this.1,this.2⟩
end
end Go.Taq
namespace Go.Taq
open Go
open Go.ChangeMaps (setBlock)
section
variable {P:Program} {B:Base} {tb:Tab} {Γ:Env} {H:Heap} {nl:Nat} {o:Oper} {X:Act->World->Prop}
theorem Rd.il[htb:TabOk P tb]{α:Type}{t:TypeId}{x i:Operand}{l:Nat}{enc:α->List AVal}{xs:List α}{L:List (Nat×Nat)}{k:IntKind}{j:Int}{y:α}{e n' by_:Nat}{zc:List Value}{e':TE}
  (ho:o.op=.indexAddr t x i) (hx:ev Γ x=some (.o l)) (hl:find H l=some (.lent enc xs L)) (hi:ev Γ i=some (.v (.int k j))) (ht:find tb t=some ⟨.sl e,n',by_,zc⟩) (he:find tb e=some e') (hn:e'.n=1) (hy:idx xs j=some y):
  Rd P B Γ H nl o (.ep l 1 j.toNat 0) none:=λB hB β F a w hβ hf=>by
 obtain⟨dst,op,ty,pos,af,g⟩:=o;simp only at ho;subst ho;obtain⟨h0,h1,h2⟩:=Qk hy;obtain⟨F1,hF1,b,off,cap,c,T,G,hv,hw,hb,hlen,hcap,hnn,hLL,hG,hd,hr⟩:=hf.heap.get hl;have hX:=(Qf (a:=a) hf.env hx).o_inv;rw [hv] at hX;have hav:=(Option.some.inj hX).symm;have hI:=(Qf (a:=a) hf.env hi).v_inv;obtain⟨d,hdd,rfl⟩:=htb.und ht;refine⟨_,.ep l 1 j.toNat 0 b off xs.length cap hv,λw' _=>?_⟩;simp [execOp,Instr.indexAt,hI,asIntOf,run_underlying hdd,hav,h0,h1,htb.size he,Xl,hn]
theorem Rd.ll[htb:TabOk P tb]{α:Type}{T:TypeId}{x:Operand}{l l' i:Nat}{enc:α->List AVal}{xs:List α}{L:List (Nat×Nat)}{R':Res}{e':TE}
  (ho:o.op=.load T x) (hx:ev Γ x=some (.ep l 1 i 0)) (hl:find H l=some (.lent enc xs L)) (hL:(i,l')∈L) (hl':find H l'=some R') (hR:R'.ownd=true) (he':find tb T=some e') (hagg:e'.ti.agg=false):
  Rd P B Γ H nl o (.o l') (some [l]):=λB hB β F a w hβ hf=>by
 obtain⟨dst,op,ty,pos,af,g⟩:=o;simp only at ho;subst ho;obtain⟨F1,hF1,b,off,cap,c,T',G,hv,hw,hb,hlen,hcap,hn,hLL,hG,hd,hr⟩:=hf.heap.get hl;obtain⟨b',o',len,cap',hb',hX⟩:=(Qf (a:=a) hf.env hx).ep_inv;rw [hv] at hb';cases hb';obtain⟨hi,hci⟩:=hLL i l' hL;obtain⟨F2,hF2,hRR⟩:=hf.heap.get hl';obtain⟨v,hv',h1⟩:=hRR.one hR;rw [hv'] at hci;have hcv:=Option.some.inj hci;refine⟨v,.o l' v hv' h1,λw' ⟨_,hw'⟩=>?_⟩;have hbk:w'.heap[b]?=some (.cells c T' (0,0)):=by
  rw [hw' b ⟨l,by simp,_,hv,by
   obtain⟨k,rfl⟩:∃k,cap=k+1:=⟨cap-1,by omega⟩;rfl⟩];exact hw
 have this:w'.cell? ⟨b,off+i*1+0,none⟩=some v:=by
  have:=Wc hbk (j:=off+i) (by omega);rw [Nat.mul_one,Nat.add_zero,this,hcv]
 simp only [execOp,Instr.loadAt,hX,Sem.run_bind,Instr.sureAddr,Sem.run_pure,Result.andThen_ok];rw [Wu htb he' this hagg];rfl
theorem Q2I(c:Array Value)(k:Nat)(v:Value)(h:k<c.size)(j:Nat):(c.toList.take k++[v]++c.toList.drop (k+1)).toArray.getD j undef=if j=k then v else c.getD j undef:=by
 have:=Yw c k [v] (by simp;omega) j;simp only [List.length_singleton] at this;rw [this];by_cases e:j=k
 ·subst e;rw [gF (by omega),gF rfl];simp
 ·rw [gC (by omega),gC e]
theorem Eff1.sl[htb:TabOk P tb]{α:Type}{T:TypeId}{x y:Operand}{l l' l2 i:Nat}{enc:α->List AVal}{xs:List α}{L:List (Nat×Nat)}{e:TE}(ho:o.op=.store T x y)(hx:ev Γ x=some (.ep l 1 i 0))(hl:find H l=some (.lent enc xs ((i,l') :: L)))(hL:∀p,p∈L->p.1≠i)
  (hy:ev Γ y=some (.o l2)) (he:find tb T=some e) (hn:e.n=1) (hd:o.dst=none):
  Eff1 P B Γ H nl o Γ (setH H l (.lent enc xs ((i,l2) :: L))) nl (.fx [l] false):=Eff1.of_skip λB hB β F a w hβ hf=>by
 obtain⟨dst,op,ty,pos,af,g⟩:=o;simp only at ho hd;subst ho;subst hd;have hYd:=Qf (a:=a) hf.env hy;have h1:=hYd.one rfl;obtain⟨F1,hF1,⟨b,off,cap,c,T',G,hv,hw,hb,hlen,hcap,hnn,hLL,hG,hdj,hr⟩,hset⟩:=hf.heap.set hl;obtain⟨b',o',len,cap',hb',hxv⟩:=(Qf (a:=a) hf.env hx).ep_inv;rw [hv] at hb';cases hb';obtain⟨hi,hci⟩:=hLL i l' (by simp);have hcell:(a.eval y).cells=#[a.eval y]:=Value.cells_one h1;have hst:=run_storeCells_at (P:=P) b (off+i) T' [a.eval y] 0 c w hw (by simp;omega) (by intro u hu;simp at hu;subst hu;exact h1);simp only [Nat.add_zero,List.length_singleton] at hst;generalize hc2:(c.toList.take (off+i)++[a.eval y]++c.toList.drop (off+i+1)).toArray=c2 at hst;have hc2s:c2.size=c.size:=by rw [<-hc2];simp;omega
 have hget:∀j,c2.getD j undef=if j=off+i then a.eval y else c.getD j undef:=λj=>by rw [<-hc2];exact Q2I c _ _ (by omega) j
 have hrow:=setRow_heap w b c c2 T' (0,0) hw;have hhd:Mod β [l] b:=⟨l,by simp,_,hv,by
  obtain⟨k,rfl⟩:∃k,cap=k+1:=⟨cap-1,by omega⟩;rfl⟩
 refine⟨w.setRow b c2,β,F,?_,hβ,λ_ _ h=>h,λl x b hl hx _=>?_,?_,GY w b c2 _ hhd⟩
 ·simp only [execOp,Instr.storeAt,hxv,Instr.sureAddr,Sem.run_bind,Sem.run_pure,Result.andThen_ok,storeVar,htb.size he];rw [Sem.run_ite,gC (by simp [hcell,hn]),hcell,Nat.mul_one,Nat.add_zero];rw [hst];rfl
 ·rw [gN (by omega)] at hx;cases hx
 ·have hk:=GY w b c2 (λx=>x=b) rfl;have hM:∀x,x=b->x<B.w0.heap.size->B.M x:=λx hx hlt'=>by subst hx;exact (hf.own x (hF1 x hb)).2 hlt'
  refine⟨hf.kp.trans hk hM,hf.ok,λb hb=>by have:=hf.own b hb;exact⟨by simpa using this.1,this.2⟩,hset _ _ (λb'' hb'' hn' hlt=>setRow_other w b b'' c2 (λe=>hn' (e▸hb)))
   ⟨b,off,cap,c2,T',G,hv,hrow,hb,hlen,by rw [hc2s];exact hcap,hnn,λj m hm=>?_,hG,hdj,λj z C hj hz hC=>?_⟩,hf.env,by simpa [Act.put] using hf.size,hf.defers,hf.pre⟩
  ·rcases List.mem_cons.1 hm with e | e
   ·cases e;exact⟨hi,by rw [hget,gF rfl];exact hYd.o_inv⟩
   ·have:=hLL j m (by simp [e]);have hne:=hL _ e;simp only at hne;exact⟨this.1,by rw [hget,gC (by omega)];exact this.2⟩
  ·have hji:j≠i:=λe=>hj l2 (by simp [e])
   have:=hr j z C (λm hm=>by
    rcases List.mem_cons.1 hm with e | e
    ·cases e;exact hji rfl
    ·exact hj m (by simp [e])) hz hC
   rw [hget,gC (by omega)];exact this.later (λk hk' hlt=>setRow_other w b k c2 (hG j k hk').2)
theorem Eff1.sl0[htb:TabOk P tb]{α:Type}{T:TypeId}{x y:Operand}{l l2 i:Nat}{enc:α->List AVal}{xs:List α}{z:α}{e:TE}(ho:o.op=.store T x y)(hx:ev Γ x=some (.ep l 1 i 0))(hl:find H l=some (.val (.os 1 enc xs)))(hz:xs[i]?=some z)(hen:∀x,(enc x).length=1)
  (hy:ev Γ y=some (.o l2)) (he:find tb T=some e) (hn:e.n=1) (hd:o.dst=none):
  Eff1 P B Γ H nl o Γ (setH H l (.lent enc xs [(i,l2)])) nl (.fx [l] false):=Eff1.of_skip λB hB β F a w hβ hf=>by
 obtain⟨dst,op,ty,pos,af,g⟩:=o;simp only at ho hd;subst ho;subst hd;have hYd:=Qf (a:=a) hf.env hy;have h1:=hYd.one rfl;have hne:xs≠[]:=λe=>by subst e;simp at hz
 have hi:=(gS.1 hz).1;obtain⟨F1,hF1,⟨v0,hv,hon⟩,hset⟩:=hf.heap.set hl;obtain⟨b,off,cap,c,T',G,rfl,hb,hw,hlen,hcap,hnn,hG,hdj,hr⟩:=hon.os_inv hne;obtain⟨b',o',len,cap',hb',hxv⟩:=(Qf (a:=a) hf.env hx).ep_inv;rw [hv] at hb';cases hb';have hcell:(a.eval y).cells=#[a.eval y]:=Value.cells_one h1;have hst:=run_storeCells_at (P:=P) b (off+i) T' [a.eval y] 0 c w hw (by simp;omega) (by intro u hu;simp at hu;subst hu;exact h1);simp only [Nat.add_zero,List.length_singleton] at hst;generalize hc2:(c.toList.take (off+i)++[a.eval y]++c.toList.drop (off+i+1)).toArray=c2 at hst;have hc2s:c2.size=c.size:=by rw [<-hc2];simp;omega
 have hget:∀j,c2.getD j undef=if j=off+i then a.eval y else c.getD j undef:=λj=>by rw [<-hc2];exact Q2I c _ _ (by omega) j
 have hrow:=setRow_heap w b c c2 T' (0,0) hw;have hhd:Mod β [l] b:=⟨l,by simp,_,hv,by
  obtain⟨k,rfl⟩:∃k,cap=k+1:=⟨cap-1,by omega⟩;rfl⟩
 refine⟨w.setRow b c2,β,F,?_,hβ,λ_ _ h=>h,λl x b hl hx _=>?_,?_,GY w b c2 _ hhd⟩
 ·simp only [execOp,Instr.storeAt,hxv,Instr.sureAddr,Sem.run_bind,Sem.run_pure,Result.andThen_ok,storeVar,htb.size he];rw [Sem.run_ite,gC (by simp [hcell,hn]),hcell,Nat.mul_one,Nat.add_zero];rw [hst];rfl
 ·rw [gN (by omega)] at hx;cases hx
 ·have hk:=GY w b c2 (λx=>x=b) rfl;have hM:∀x,x=b->x<B.w0.heap.size->B.M x:=λx hx hlt'=>by subst hx;exact (hf.own x (hF1 x hb)).2 hlt'
  refine⟨hf.kp.trans hk hM,hf.ok,λb hb=>by have:=hf.own b hb;exact⟨by simpa using this.1,this.2⟩,hset _ _ (λb'' hb'' hn' hlt=>setRow_other w b b'' c2 (λe=>hn' (e▸hb)))
   ⟨b,off,cap,c2,T',λj k=>G j 0 k,hv,hrow,hb,hlen,by rw [hc2s];simpa using hcap,λx _=>hen x,λj m hm=>?_,λj k h=>hG _ _ _ h,λj j' k h h'=>(hdj _ _ _ _ _ h h').1,λj z C hj hz hC=>?_⟩,hf.env,by simpa [Act.put] using hf.size,hf.defers,hf.pre⟩
  ·simp only [List.mem_singleton,Prod.mk.injEq] at hm;obtain⟨rfl,rfl⟩:=hm;exact⟨hi,by rw [hget,gF rfl];exact hYd.o_inv⟩
  ·have hji:j≠i:=λe=>hj l2 (by simp [e])
   have:=hr j 0 z C hz hC;simp only [Nat.mul_one,Nat.add_zero] at this;rw [hget,gC (by omega)];exact this.later (λk hk' hlt=>setRow_other w b k c2 (hG j 0 k hk').2)
end
end Go.Taq
namespace Go.Taq
open Go
open Go.ChangeMaps (setBlock)
section
variable {P:Program} {B:Base} {tb:Tab} {Γ:Env} {H:Heap} {nl:Nat} {o:Oper} {X:Act->World->Prop} {κ α:Type} [DecidableEq κ]
theorem QcV{xs:List (κ×α)}{k:κ}{y:α}(h:Taq.lk xs k=some y):∃i,kidx (xs.map (·.1)) k=some i∧xs[i]?=some (k,y):=by
 have hk:=Q1G xs k;cases hi:kidx (xs.map (·.1)) k with
 | none=>rw [hi] at hk;rw [hk.1] at h;cases h
 | some i=>
  rw [hi] at hk;obtain⟨v,h1,h2⟩:=hk;rw [h] at h2;cases h2;exact⟨i,rfl,h1⟩
omit [DecidableEq κ] in
theorem Ents.uniq{ke:κ->Value}{xs:List (κ×α)}{es:Array MapEntry}{clock:Nat}(h:Ents ke xs es clock){i j:Nat}{k:κ}{y z:α}(hi:xs[i]?=some (k,y))(hj:xs[j]?=some (k,z)):i=j:=by
 have h1:(xs.map (·.1))[i]?=some k:=by simp [hi]
 have h2:(xs.map (·.1))[j]?=some k:=by simp [hj]
 exact (List.getElem?_inj (gS.1 h1).1 h.nodup).1 (h1.trans h2.symm)
theorem St.lendm{l:Nat}{ke:κ->Value}{ve:α->AVal}{xs:List (κ×α)}{k:κ}{y:α}{A:AVal}(hl:find H l=some (.val (.om ke ve xs)))(hy:Taq.lk xs k=some y)(hA:ve y=A)
  (kk:St B Γ ((nl,.val A) :: setH H l (.lentm ke ve xs [(k,nl)])) (nl+1) X):St B Γ H nl X:=kk.ghost λB' β F a w hβ hf=>by
 obtain⟨i,_,hi⟩:=QcV hy;obtain⟨F1,hF1,v,hv,hon⟩:=hf.heap.get hl;obtain⟨b,es,clock,G,rfl,hb,hw,he,hG,hd,hr⟩:=hon.om_inv;subst hβ;have hil:i<es.size:=by rw [he.size];exact (gS.1 hi).1
 have hei:es[i]?=some es[i]:=Array.getElem?_eq_getElem hil;obtain⟨F3,hF3,⟨v3,hv3,hon3⟩,hsh⟩:=(hf.heap.snoc es[i].val).shrink hl;rw [Ql hv] at hv3;cases hv3;obtain⟨b3,es3,clock3,G3,heq,hb3,hw3,he3,hG3,hd3,hr3⟩:=hon3.om_inv;cases heq;rw [hw] at hw3;cases hw3;have hcell:=hr3 i _ _ hi hei;simp only [hA] at hcell;have h:=hsh (λb=>F3 b∧¬G3 i b) (.lentm ke ve xs [(k,β.length)]) (λb hb=>hb.1) ⟨b,es,clock,λj c=>G3 j c∧j≠i,Ql hv,hw,⟨hb3,λh=>(hG3 _ _ h).2 rfl⟩,he3,λk' l' hj=>?_,λj c hc=>⟨⟨(hG3 _ _ hc.1).1,λh=>hc.2 (hd3 _ _ _ hc.1 h)⟩,(hG3 _ _ hc.1).2⟩,λj j' c h h'=>hd3 _ _ _ h.1 h'.1,λj x e hj hx he'=>?_⟩
 ·exact⟨β++[es[i].val],by simp,λl x h=>Ql h,G3 i,_,λc hc=>hF3 c (hG3 _ _ hc).1,λb hb=>hb.1,λb hb hb'=>(hb'.2 (hG3 _ _ hb).1).2 hb,⟨_,by simp,hcell⟩,h⟩
 ·simp only [List.mem_singleton,Prod.mk.injEq] at hj;obtain⟨rfl,rfl⟩:=hj;exact⟨i,y,es[i],hi,hei,by simp⟩
 ·have hji:j≠i:=λe=>by
   subst e;rw [hi] at hx;cases hx;exact hj β.length (by simp)
  exact (hr3 j x e hx he').mono (λb hb=>⟨hb,hji⟩)
theorem Rd.lkl[htb:TabOk P tb]{t kt et n' by_:Nat}{zc:List Value}{m k:Operand}{l l':Nat}{ke:κ->Value}{ve:α->AVal}{xs:List (κ×α)}{L:List (κ×Nat)}{x:κ}{V:AVal}{R':Res}(ho:o.op=.lookup t m k false)(ht:find tb t=some ⟨.mp kt et,n',by_,zc⟩)(K:KeyT P kt ke)
  (hm:ev Γ m=some (.o l)) (hl:find H l=some (.lentm ke ve xs L)) (hL:(x,l')∈L) (hl':find H l'=some R') (hR:R'.ownd=true) (hk:ev Γ k=some V) (hX:unv V=unv (.v (ke x))):Rd P B Γ H nl o (.o l') (some [l]):=λB hB β F a w hβ hf=>by
 obtain⟨dst,op,ty,pos,af,g⟩:=o;simp only at ho;subst ho;obtain⟨d,hd,rfl⟩:=htb.und ht;have hkv:a.eval k=ke x:=Dn.unv_inv hX (Qf (a:=a) hf.env hk);obtain⟨F1,hF1,b,es,clock,G,hv,hw,hb,he,hLL,hG,hdj,hr⟩:=hf.heap.get hl;have hmv:=(Qf (a:=a) hf.env hm).o_inv;rw [hv] at hmv;have hmm:=(Option.some.inj hmv).symm;obtain⟨i,y,e,h1,h2,h3⟩:=hLL x l' hL;obtain⟨F2,hF2,hRR⟩:=hf.heap.get hl';obtain⟨v,hv',ho1⟩:=hRR.one hR;rw [hv'] at h3;have hcv:=Option.some.inj h3;refine⟨v,.o l' v hv' ho1,λw' ⟨_,hw'⟩=>?_⟩;have hg:=Go.MapKept.run_getObj_map (P:=P) (w:=w') (r:=b) (es:=es) (clock:=clock) (by rw [hw' b ⟨l,by simp,_,hv,rfl⟩];exact hw);rcases he.find K x with ⟨g1,g2,g3,g4⟩ | ⟨i',v1,e1,g1,g2,g3,g4,g5⟩
 ·exact absurd rfl (g3 _ (gM h1))
 ·have:=he.uniq g3 h1;subst this;rw [h2] at g4;cases g4;simp [execOp,hkv,hmm,Instr.lookup,run_underlying hd,hg,K.chk,g5,hcv]
theorem Rd.lkn[htb:TabOk P tb]{t kt et n' by_:Nat}{zc:List Value}{m k:Operand}{l:Nat}{ke:κ->Value}{ve:α->AVal}{xs:List (κ×α)}{x:κ}{V:AVal}{z:Value}(ho:o.op=.lookup t m k false)(ht:find tb t=some ⟨.mp kt et,n',by_,zc⟩)(K:KeyT P kt ke)(hz:∀w,(zeroValue et).run P w=.ok z w)
  (hm:ev Γ m=some (.o l)) (hl:find H l=some (.val (.om ke ve xs))) (hn:Taq.lk xs x=none) (hk:ev Γ k=some V) (hX:unv V=unv (.v (ke x))):Rd P B Γ H nl o (.v z) (some [l]):=λB hB β F a w hβ hf=>by
 obtain⟨dst,op,ty,pos,af,g⟩:=o;simp only at ho;subst ho;obtain⟨d,hd,rfl⟩:=htb.und ht;have hkv:a.eval k=ke x:=Dn.unv_inv hX (Qf (a:=a) hf.env hk);obtain⟨F1,hF1,v,hv,hon⟩:=hf.heap.get hl;obtain⟨b,es,clock,G,rfl,hb,hw,he,hG,hdj,hr⟩:=hon.om_inv;have hmv:=(Qf (a:=a) hf.env hm).o_inv;rw [hv] at hmv;have hmm:=(Option.some.inj hmv).symm;refine⟨z,.ro (.v z),λw' ⟨_,hw'⟩=>?_⟩;have hg:=Go.MapKept.run_getObj_map (P:=P) (w:=w') (r:=b) (es:=es) (clock:=clock) (by rw [hw' b ⟨l,by simp,_,hv,rfl⟩];exact hw);rcases he.find K x with ⟨g1,g2,g3,g4⟩ | ⟨i',v1,e1,g1,_⟩
 ·simp [execOp,hkv,hmm,Instr.lookup,run_underlying hd,hg,K.chk,g4,hz]
 ·rw [hn] at g1;cases g1
theorem Eff1.mul[htb:TabOk P tb]{t kt et n' by_:Nat}{zc:List Value}{m k v:Operand}{l l' l2:Nat}{ke:κ->Value}{ve:α->AVal}{xs:List (κ×α)}{L:List (κ×Nat)}{x:κ}{V:AVal}(ho:o.op=.mapUpdate t m k v)(ht:find tb t=some ⟨.mp kt et,n',by_,zc⟩)(K:KeyT P kt ke)
  (hm:ev Γ m=some (.o l)) (hl:find H l=some (.lentm ke ve xs ((x,l') :: L))) (hL:∀p,p∈L->p.1≠x) (hk:ev Γ k=some V) (hX:unv V=unv (.v (ke x))) (hv:ev Γ v=some (.o l2)) (hd:o.dst=none):
  Eff1 P B Γ H nl o Γ (setH H l (.lentm ke ve xs ((x,l2) :: L))) nl (.fx [l] false):=Eff1.of_skip λB hB β F a w hβ hf=>by
 obtain⟨dst,op,ty,pos,af,g⟩:=o;simp only at ho hd;subst ho;subst hd;obtain⟨d,hdd,rfl⟩:=htb.und ht;have hkv:a.eval k=ke x:=Dn.unv_inv hX (Qf (a:=a) hf.env hk);have hvo:=(Qf (a:=a) hf.env hv).o_inv;obtain⟨F1,hF1,⟨b,es,clock,G,hv0,hw,hb,he,hLL,hG,hdj,hr⟩,hset⟩:=hf.heap.set hl;have hmv:=(Qf (a:=a) hf.env hm).o_inv;rw [hv0] at hmv;have hmm:=(Option.some.inj hmv).symm;have hg:=Go.MapKept.run_getObj_map (P:=P) hw;have hhd:Mod β [l] b:=⟨l,by simp,_,hv0,rfl⟩;obtain⟨i,y,e,h1,h2,h3⟩:=hLL x l' (by simp);rcases he.find K x with ⟨g1,g2,g3,g4⟩ | ⟨i',v1,e1,g1,g2,g3,g4,g5⟩
 ·exact absurd rfl (g3 _ (gM h1))
 ·have:=he.uniq g3 h1;subst this;rw [h1] at g3;cases g3;rw [h2] at g4;cases g4;have hkey:e.key=ke x:=he.key _ _ e h1 h2;have hlt:=(gS.1 h1).1;have hE:=he.set h1 h2 y (a.eval v);have hset':xs.set i' (x,y)=xs:=by
   apply List.ext_getElem?;intro j;rw [List.getElem?_set];by_cases e:i'=j
   ·subst e;rw [gE hlt] at h1;have:=Option.some.inj h1;simp [hlt,this]
   ·simp [e]
  rw [hset'] at hE;have hkp:=WX w b (.map (es.modify i' λe=>{e with key:=ke x,val:=a.eval v}) clock) (λx=>x=b) rfl;have hM:∀x,x=b->x<B.w0.heap.size->B.M x:=λx hx hlt'=>by subst hx;exact (hf.own x (hF1 x hb)).2 hlt'
  refine⟨setBlock w b (.map (es.modify i' λe=>{e with key:=ke x,val:=a.eval v}) clock),β,F,?_,hβ,λ_ _ h=>h,λl x b hl hx _=>?_,⟨hf.kp.trans hkp hM,hf.ok,λb' hb'=>by have:=hf.own b' hb';exact⟨gG this.1 hkp.size,this.2⟩,hset _ _ (λb' hb' hn hlt=>YX hw _ (λe=>hn (e▸hb)))
   ⟨b,_,clock,G,hv0,Q1X hw _,hb,hE,λk' m' hm'=>?_,hG,hdj,λj p e' hj hx he'=>?_⟩,hf.env,by simpa [Act.put] using hf.size,hf.defers,hf.pre⟩,WX w b _ _ hhd⟩
  ·simp [execOp,hmm,hkv,Instr.mapUpdate,run_underlying hdd,hg,K.chk,g5,h2,hkey,Instr.keyThatStays,K.same,Go.MapKept.run_setObj_map _ hw,setBlock]
  ·rw [gN (by omega)] at hx;cases hx
  ·rcases List.mem_cons.1 hm' with e' | e'
   ·cases e';exact⟨i',y,_,h1,by rw [Array.getElem?_modify,gF rfl,h2];rfl,hvo⟩
   ·obtain⟨j,z,e2,q1,q2,q3⟩:=hLL k' m' (by simp [e']);have hne:=hL _ e';simp only at hne;have hji:i'≠j:=λh=>by subst h;rw [h1] at q1;cases q1;exact hne rfl
    exact⟨j,z,e2,q1,by rw [Array.getElem?_modify,gC hji];exact q2,q3⟩
  ·have hji:i'≠j:=λh=>by
    subst h;rw [h1] at hx;cases hx;exact hj l2 (by simp)
   rw [Array.getElem?_modify,gC hji] at he';refine (hr j p e' (λm' hm'=>?_) hx he').later (λc hc hlt'=>YX hw _ (hG j c hc).2);rcases List.mem_cons.1 hm' with e2 | e2
   ·have e3:=congrArg Prod.fst e2;simp only at e3;obtain⟨p1,p2⟩:=p;simp only at e3;subst e3;exact hji (he.uniq h1 hx)
   ·exact hj m' (by simp [e2])
theorem Eff1.mun[htb:TabOk P tb]{t kt et n' by_:Nat}{zc:List Value}{m k v:Operand}{l l2:Nat}{ke:κ->Value}{ve:α->AVal}{xs:List (κ×α)}{x:κ}(y0:α){V:AVal}(ho:o.op=.mapUpdate t m k v)(ht:find tb t=some ⟨.mp kt et,n',by_,zc⟩)(K:KeyT P kt ke)
  (hm:ev Γ m=some (.o l)) (hl:find H l=some (.val (.om ke ve xs))) (hn:Taq.lk xs x=none) (hk:ev Γ k=some V) (hX:unv V=unv (.v (ke x))) (hv:ev Γ v=some (.o l2)) (hd:o.dst=none):
  Eff1 P B Γ H nl o Γ (setH H l (.lentm ke ve (upd xs x y0) [(x,l2)])) nl (.fx [l] false):=Eff1.of_skip λB hB β F a w hβ hf=>by
 obtain⟨dst,op,ty,pos,af,g⟩:=o;simp only at ho hd;subst ho;subst hd;obtain⟨d,hdd,rfl⟩:=htb.und ht;have hkv:a.eval k=ke x:=Dn.unv_inv hX (Qf (a:=a) hf.env hk);have hvo:=(Qf (a:=a) hf.env hv).o_inv;obtain⟨F1,hF1,⟨v0,hv0,hon⟩,hset⟩:=hf.heap.set hl;obtain⟨b,es,clock,G,rfl,hb,hw,he,hG,hdj,hr⟩:=hon.om_inv;have hmv:=(Qf (a:=a) hf.env hm).o_inv;rw [hv0] at hmv;have hmm:=(Option.some.inj hmv).symm;have hg:=Go.MapKept.run_getObj_map (P:=P) hw;have hhd:Mod β [l] b:=⟨l,by simp,_,hv0,rfl⟩;rcases he.find K x with ⟨g1,g2,g3,g4⟩ | ⟨i',v1,e1,g1,_⟩
 ·have hE:=he.push g3 y0 (a.eval v);rw [<-Q1W _ _ y0 g3] at hE;have hkp:=WX w b (.map (es.push {key:=ke x,val:=a.eval v,born:=clock}) (clock+1)) (λx=>x=b) rfl;have hM:∀x,x=b->x<B.w0.heap.size->B.M x:=λx hx hlt'=>by subst hx;exact (hf.own x (hF1 x hb)).2 hlt'
  refine⟨setBlock w b (.map (es.push {key:=ke x,val:=a.eval v,born:=clock}) (clock+1)),β,F,?_,hβ,λ_ _ h=>h,λl x b hl hx _=>?_,⟨hf.kp.trans hkp hM,hf.ok,λb' hb'=>by have:=hf.own b' hb';exact⟨gG this.1 hkp.size,this.2⟩,hset _ _ (λb' hb' hn hlt=>YX hw _ (λe=>hn (e▸hb)))
   ⟨b,_,clock+1,G,hv0,Q1X hw _,hb,hE,λk' m' hm'=>?_,hG,hdj,λj p e' hj hx he'=>?_⟩,hf.env,by simpa [Act.put] using hf.size,hf.defers,hf.pre⟩,WX w b _ _ hhd⟩
  ·simp [execOp,hmm,hkv,Instr.mapUpdate,run_underlying hdd,hg,K.chk,g4,Go.MapKept.run_setObj_map _ hw,setBlock]
  ·rw [gN (by omega)] at hx;cases hx
  ·simp only [List.mem_singleton,Prod.mk.injEq] at hm';obtain⟨rfl,rfl⟩:=hm';refine⟨xs.length,y0,{key:=ke k',val:=a.eval v,born:=clock},by rw [Q1W _ _ _ g3];simp,?_,hvo⟩;rw [Array.getElem?_push,gF he.size.symm]
  ·rw [Q1W _ _ _ g3] at hx;rcases gH j xs.length with hlt | hge
   ·rw [gL hlt] at hx;rw [Array.getElem?_push,gC (by rw [he.size];omega)] at he';exact (hr j p e' hx he').later (λc hc hlt'=>YX hw _ (hG j c hc).2)
   ·have:=(gS.1 hx).1;simp at this;have hj':j=xs.length:=by omega
    subst hj';simp at hx;subst hx;exact absurd (by simp) (hj l2)
 ·rw [hn] at g1;cases g1
theorem St.putm{l l':Nat}{ke:κ->Value}{ve:α->AVal}{xs:List (κ×α)}{k:κ}{y:α}{A:AVal}(hl:find H l=some (.lentm ke ve xs [(k,l')]))(hl':find H l'=some (.val A))(hne:l.beq l'=false)(hA:ve y=A)
  (kk:St B Γ (repH (rmH H l') l l (.val (.om ke ve (upd xs k y)))) nl X):St B Γ H nl X:=kk.ghost λB' β F a w hβ hf=>by
 have hne':l≠l':=λe=>by subst e;simp at hne
 refine⟨β,hβ,λ_ _ h=>h,?_⟩;obtain⟨F2,hF2,⟨x,hx,hon⟩,hH⟩:=hf.heap.rm hl';have hl2:find (rmH H l') l=some (.lentm ke ve xs [(k,l')]):=by rw [Q5c hne'];exact hl
 refine (HOk.rep (λ_ _ h=>h) F2 hH hl2 (λF1 hF1 hRR=>⟨?_,λ_ _ _=>rfl⟩) (λb hb h=>h.2 hb) (λb hb=>(hf.own b hb.1).1) (λ_ _ _ h=>h)).mono (λb hb=>hb.elim (λh=>h.1) (hF2 b));obtain⟨b,es,clock,G,hv,hw,hb,he,hLL,hG,hd,hr⟩:=hRR;obtain⟨i,z,e,h1,h2,h3⟩:=hLL k l' (by simp);rw [hx] at h3;have h3:=Option.some.inj h3;have hdis:∀k,F2 k->F1 k->False:=λk h h'=>(hF1 k h').2 h
 have hkey:=he.key i _ e h1 h2;have hki:kidx (xs.map (·.1)) k=some i:=by
  have hk:=Q1G xs k;cases hi:kidx (xs.map (·.1)) k with
  | none=>rw [hi] at hk;exact absurd rfl (hk.2 _ (gM h1))
  | some i'=>
   rw [hi] at hk;obtain⟨v,q1,q2⟩:=hk;rw [he.uniq q1 h1]
 have hE:=he.set h1 h2 y e.val;have hmod:(es.modify i λe'=>{e' with key:=ke k,val:=e.val})=es:=by
  apply Array.ext_getElem?;intro j;rw [Array.getElem?_modify];by_cases hij:i=j
  ·subst hij;rw [gF rfl,h2];simp [<-hkey]
  ·rw [gC hij]
 rw [hmod] at hE;refine⟨_,hv,.om ke ve (upd xs k y) b es clock _ (λj c=>if j=i then F2 c else G j c) (.inl hb) hw (by rw [Q3j _ _ _ _ hki];exact hE) (λj c hc=>?_) (λj j' c h h'=>?_) (λj p e' hp he'=>?_)⟩
 ·split at hc
  ·exact⟨.inr hc,λe=>hdis c hc (e▸hb)⟩
  ·exact⟨.inl (hG j c hc).1,(hG j c hc).2⟩
 ·split at h <;> split at h'
  ·rename_i e e';exact e.trans e'.symm
  ·exact (hdis c h (hG _ _ h').1).elim
  ·exact (hdis c h' (hG _ _ h).1).elim
  ·exact hd _ _ c h h'
 ·rw [Q3j _ _ _ _ hki,List.getElem?_set] at hp;by_cases hij:i=j
  ·subst hij;rw [gF rfl] at hp
   try rw [gF (gS.1 h1).1] at hp
   cases hp;rw [h2] at he';cases he';simp only [hA,<-h3];exact hon.mono (λb hb=>by simp [hb])
  ·rw [gC hij] at hp;refine (hr j p e' (λm hm=>?_) hp he').mono (λc hc=>by rw [gC (Ne.symm hij)];exact hc);simp only [List.mem_singleton] at hm;obtain⟨p1,p2⟩:=p;cases hm;exact hij (he.uniq h1 hp)
end
end Go.Taq
namespace Go.Taq
open Go
inductive Nl:AVal->AVal->Prop where
 | refl (A:AVal):Nl A A
 | sl {α:Type} (n:Nat) (enc:α->List AVal):Nl (.v (.slice none 0 0)) (.sl n enc [])
 | os {α:Type} (n:Nat) (enc:α->List AVal):Nl (.v (.slice none 0 0)) (.os n enc [])
 | rm {κ α:Type} (ke:κ->Value) (ve:α->AVal):Nl (.v (.map none)) (.rm ke ve [])
inductive NlL:List AVal->List AVal->Prop where
 | refl (l:List AVal):NlL l l
 | nil:NlL [] []
 | cons {A A':AVal} {r r':List AVal} (h:Nl A A') (hr:NlL r r'):NlL (A :: r) (A' :: r')
inductive NlR {α γ:Type} (enc:α->List AVal) (enc':γ->List AVal):List α->List γ->Prop where
 | nil:NlR enc enc' [] []
 | cons {x:α} {y:γ} {r:List α} {r':List γ} (h:NlL (enc x) (enc' y)) (hr:NlR enc enc' r r'):NlR enc enc' (x :: r) (y :: r')
theorem NlR.rep{α γ:Type}{enc:α->List AVal}{enc':γ->List AVal}{x:α}{y:γ}(h:NlL (enc x) (enc' y)):∀k:Nat,NlR enc enc' (List.replicate k x) (List.replicate k y)
 | 0=>.nil
 | k+1=>.cons h (NlR.rep h k)
theorem NlL.get:∀{c c':List AVal},NlL c c'->c.length=c'.length∧∀(j:Nat) (A':AVal),c'[j]?=some A'->∃A,c[j]?=some A∧Nl A A'
 | _,_,.refl l=>⟨rfl,λj A h=>⟨A,h,.refl A⟩⟩
 | _,_,.nil=>⟨rfl,by simp⟩
 | _,_,.cons h hr=>by
  obtain⟨e1,e2⟩:=hr.get;refine⟨by simp [e1],λj C hC=>?_⟩;cases j with
  | zero=>simp at hC;subst hC;exact⟨_,rfl,h⟩
  | succ j=>obtain⟨S',h3,h4⟩:=e2 j C (by simpa using hC);exact⟨S',by simpa using h3,h4⟩
theorem NlR.get{α γ:Type}{enc:α->List AVal}{enc':γ->List AVal}:∀{xs:List α} {ys:List γ},NlR enc enc' xs ys->xs.length=ys.length∧∀(i:Nat) (y:γ),ys[i]?=some y->∃x,xs[i]?=some x∧NlL (enc x) (enc' y)
 | _,_,.nil=>⟨rfl,by simp⟩
 | _,_,.cons h hr=>by
  obtain⟨e1,e2⟩:=hr.get;refine⟨by simp [e1],λi y hy=>?_⟩;cases i with
  | zero=>simp at hy;subst hy;exact⟨_,rfl,h⟩
  | succ i=>obtain⟨x,h3,h4⟩:=e2 i y (by simpa using hy);exact⟨x,by simpa using h3,h4⟩
theorem Nl.on{w0 w:World}{ok:Nat->Prop}{A A':AVal}{x:Value}{F:Nat->Prop}(h:Nl A A')(hon:On w0 ok w A x F):On w0 ok w A' x F:=by
 cases h with
 | refl=>exact hon
 | sl n enc=>have:=hon.ro_of rfl;cases this;exact .ro _ (.slNil n enc none)
 | os n enc=>have:=hon.ro_of rfl;cases this;exact .osNil n enc _ none
 | rm ke ve=>have:=hon.ro_of rfl;cases this;exact .ro _ (.rmNil ke ve)
theorem NlR.on{α γ:Type}{n:Nat}{enc:α->List AVal}{enc':γ->List AVal}{xs:List α}{ys:List γ}(h:NlR enc enc' xs ys){w0 w:World}{ok:Nat->Prop}{x:Value}{F:Nat->Prop}(hon:On w0 ok w (.os n enc xs) x F):On w0 ok w (.os n enc' ys) x F:=by
 obtain⟨hl,hg⟩:=h.get;by_cases hx:xs=[]
 ·subst hx;have:ys=[]:=List.eq_nil_of_length_eq_zero hl.symm;subst this;generalize hA:AVal.os n enc []=A at hon;cases hon with
  | ro F h=>subst hA;cases h
  | arr=>cases hA
  | om=>cases hA
  | osNil n2 enc2 F p=>cases hA;exact .osNil _ _ _ p
  | os n2 enc2 xs2 b off cap c T F G hb hw hlen hcap hn hG hd hr=>cases hA;exact .os n enc' [] b off cap c T F (λ_ _ _=>False) hb hw (by simp) hcap (by simp) (λ_ _ _ h=>h.elim) (λ_ _ _ _ _ h=>h.elim) (by simp)
 ·obtain⟨b,off,cap,c,T,G,rfl,hb,hw,hlen,hcap,hn,hG,hd,hr⟩:=hon.os_inv hx;rw [hl] at hlen ⊢;refine .os n enc' ys b off cap c T F G hb hw hlen hcap (λi y hy=>?_) hG hd (λi j y A hy hA=>?_)
  ·obtain⟨x,h1,h2⟩:=hg i y hy;rw [<-h2.get.1];exact hn i x h1
  ·obtain⟨x,h1,h2⟩:=hg i y hy;obtain⟨A',h3,h4⟩:=h2.get.2 j A hA;exact h4.on (hr i j x A' h1 h3)
section
variable {P:Program} {B:Base} {tb:Tab} {Γ:Env} {H:Heap} {nl:Nat} {o:Oper} {X:Act->World->Prop}
theorem Eff1.bsl[htb:TabOk P tb]{α:Type}{t:TypeId}{p:Operand}{parts:Array (Nat×Operand)}{l:Nat}{enc:α->List AVal}(y0:α){d:Nat}{e n' by_:Nat}{zc:List Value}{e':TE}
  (ho:o.op=.buildSlice t 1 parts) (hps:parts=#[(0,p)]) (hd:o.dst=some d) (hlt:d.blt B.n=true) (ht:find tb t=some ⟨.sl e,n',by_,zc⟩) (he:find tb e=some e') (hn:e'.n=1) (hp:ev Γ p=some (.o l)) (hen:(enc y0).length=1):
  Eff1 P B Γ H nl o ((d,.o nl) :: Γ) ((nl,.lent enc [y0] [(0,l)]) :: H) (nl+1) (.fx [] false):=Eff1.of_value λB hB β F a w hβ hf=>by
 rw [<-hB] at hlt;obtain⟨dst,op,ty,pos,af,g⟩:=o;simp only at ho hd;subst ho;subst hd;subst hps;subst hβ;obtain⟨dd,hdd,rfl⟩:=htb.und ht;obtain⟨z,hz,hzc,_,hzl,_⟩:=htb.zero he;have hzs:z.cells.size=1:=by rw [<-hn,<-hzl,<-hzc];simp
 have hpd:=Qf (a:=a) hf.env hp;have hpo:=hpd.o_inv;have hone:=hpd.one rfl;have hcell:(a.eval p).cells=#[a.eval p]:=Value.cells_one hone;have hz1:∃z0,z.cells=#[z0]:=by
  have:z.cells.toList.length=1:=by simpa using hzs
  match hzz:z.cells.toList,this with
  | [z0],_=>exact⟨z0,by rw [<-hzz]⟩
 obtain⟨z0,hz0⟩:=hz1;have hrun:(execOp a.eval ⟨some d,.buildSlice t 1 #[(0,p)],ty,pos,af,g⟩).run P w=.ok (.value (.slice (some ⟨w.heap.size,0,none⟩) 1 1)) (w.alloc (.cells #[a.eval p] e)):=by
  have hr:Array.range 1=#[0]:=rfl;simp [execOp,Instr.buildSlice,run_underlying hdd,htb.size he,hn,hz,hz0,Instr.fill,hcell,newRow,hr]
 refine⟨_,_,β++[.slice (some ⟨w.heap.size,0,none⟩) 1 1],_,hrun,by simp,λl x h=>Ql h,λl x b hl hx hb=>?_,(XA.alloc hf (.cells #[a.eval p] e) (.slice (some ⟨w.heap.size,0,none⟩) 1 1) (.lent enc [y0] [(0,l)]) ⟨w.heap.size,0,1,#[a.eval p],e,λ_ _=>False,by simp,heap_alloc_new w _,rfl,by simp,by simp,by simp [hen],λi l' hi=>?_,λ_ _ h=>h.elim,λ_ _ _ h=>h.elim,λj x A hj hx hA=>?_⟩).put hlt (.o _ _ (by simp) rfl),Wg w _ _⟩
 ·have:=YN rfl hl hx;subst this;cases hb;exact .inl (Nat.le_refl _)
 ·simp only [List.mem_singleton,Prod.mk.injEq] at hi;obtain⟨rfl,rfl⟩:=hi;exact⟨by simp,by rw [Ql hpo];rfl⟩
 ·cases j with
  | zero=>exact absurd (by simp) (hj l)
  | succ j=>simp at hx
end
section
variable {P:Program} {B:Base} {tb:Tab} {Γ:Env} {H:Heap} {nl:Nat} {o:Oper} {X:Act->World->Prop}
theorem On.os_cells{w0 w:World}{ok:Nat->Prop}{α:Type}{enc:α->List AVal}{xs:List α}{x:Value}{F:Nat->Prop}(h:On w0 ok w (.os 1 enc xs) x F)(hen:∀y,(enc y).length=1):
  ∃(p:Option Addr) (cap:Nat) (olds:List Value) (G:Nat->Nat->Prop),x=.slice p xs.length cap∧olds.length=xs.length∧xs.length≤cap∧(∀a,p=some a->∀j v,olds[j]?=some v->w.cell? (a.add j)=some v)∧(p=none->xs.length=0∧cap=0) ∧
   (∀j k,G j k->F k)∧(∀j j' k,G j k->G j' k->j=j')∧(∀(j:Nat) (z:α) (A:AVal),xs[j]?=some z->(enc z)[0]?=some A->On w0 ok w A (olds.getD j undef) (G j)) ∧
   (cap≠0->∃b off c T,p=some ⟨b,off,none⟩∧F b∧w.heap[b]?=some (.cells c T (0,0))∧off+cap≤c.size∧(∀j k,G j k->k≠b)∧∀j,j<xs.length->olds.getD j undef=c.getD (off+j) undef):=by
 generalize hA:AVal.os 1 enc xs=A at h;cases h with
 | ro F h=>subst hA;cases h
 | arr=>cases hA
 | om=>cases hA
 | osNil n2 enc2 F p=>cases hA;exact⟨p,0,[],λ_ _=>False,rfl,rfl,Nat.le_refl _,λ_ _ j v h=>by simp at h,λ_=>⟨rfl,rfl⟩,λ_ _ h=>h.elim,λ_ _ _ h=>h.elim,by simp,λh=>absurd rfl h⟩
 | os n2 enc2 xs2 b off cap c T F G hb hw hlen hcap hn hG hd hr=>
  cases hA;have hol:((c.toList.drop off).take xs.length).length=xs.length:=by simp;omega
  have hget:∀j,j<xs.length->((c.toList.drop off).take xs.length).getD j undef=c.getD (off+j) undef:=λj hj=>by
   simp [gD,gA,hj]
  refine⟨some ⟨b,off,none⟩,cap,(c.toList.drop off).take xs.length,λj k=>G j 0 k,rfl,hol,hlen,λa ha j v hv=>?_,(λh=>by cases h),λj k h=>(hG _ _ _ h).1,λj j' k h h'=>(hd _ _ _ _ _ h h').1,λj z A hz hA=>?_,λ_=>⟨b,off,c,T,rfl,hb,hw,by simpa using hcap,λj k h=>(hG _ _ _ h).2,hget⟩⟩
  ·cases ha;have hj:j<xs.length:=by rw [<-hol];exact (gS.1 hv).1
   rw [Xl];have:=Wc hw (j:=off+j) (by omega);rw [this];have e:=hget j hj;rw [gD,hv] at e;exact congrArg some e.symm
  ·have hj:=(gS.1 hz).1;rw [hget j hj];have:=hr j 0 z A hz hA;simpa using this
theorem Eff1.apl[htb:TabOk P tb]{α:Type}{t:TypeId}{s x:Operand}{l lx l2:Nat}{enc:α->List AVal}{xs:List α}{y0:α}{d:Nat}{e n' by_:Nat}{zc:List Value}{e':TE}
  (ho:o.op=.call ⟨.builtin .append,#[s,x],#[t,t]⟩) (hd:o.dst=some d) (hlt:d.blt B.n=true) (hs:ev Γ s=some (.o l)) (hl:find H l=some (.val (.os 1 enc xs))) (hx:ev Γ x=some (.o lx)) (hlx:find H lx=some (.lent enc [y0] [(0,l2)])) (hen:∀y,(enc y).length=1)
  (ht:find tb t=some ⟨.sl e,n',by_,zc⟩) (he:find tb e=some e') (hn:e'.n=1) (hby:e'.bytes.ble 128=true) (hl2:∃R2,find H l2=some R2∧R2.ownd=true) (hlen:xs.length+1≤1099511627776):
  Eff1 P B Γ H nl o ((d,.o nl) :: Γ) (repH H l nl (.lent enc (xs++[y0]) [(xs.length,l2)])) (nl+1) (.fx [l] false):=Eff1.of_value λB hB β F a w hβ hf=>by
 rw [<-hB] at hlt;obtain⟨dst,op,ty,pos,af,g⟩:=o;simp only at ho hd;subst ho;subst hd;subst hβ;obtain⟨dd,hdd,rfl⟩:=htb.und ht;obtain⟨zv,hzv,hzc,_,hzl,_⟩:=htb.zero he;obtain⟨_,inf,z2,hinf,hsize,hbytes,hzero,hrest⟩:=htb.h _ _ he;have hby':=Nat.le_of_ble_eq_true hby
 -- the source
 obtain⟨F1,hF1,bx,ox,capx,cx,Tx,Gx,hvx,hwx,hbx,hlenx,hcapx,_,hLLx,_⟩:=hf.heap.get hlx;have hxv:=(Qf (a:=a) hf.env hx).o_inv;rw [hvx] at hxv;have hxv:=(Option.some.inj hxv).symm;obtain⟨_,hci⟩:=hLLx 0 l2 (by simp);simp only [Nat.add_zero] at hci;simp only [List.length_singleton] at hxv hlenx;have hcl:w.cell? ⟨bx,ox,none⟩=some (cx.getD ox undef):=Wc hwx (by omega);generalize cx.getD ox undef=v0 at hci hcl;have hone0:v0.oneCell'=true:=by
  obtain⟨R2,h1,h2⟩:=hl2;obtain⟨F3,_,hR3⟩:=hf.heap.get h1;obtain⟨v,hv,ho⟩:=hR3.one h2;rw [hci] at hv;cases hv;exact ho
 -- the row
 obtain⟨F0,hF0,v,hv,hov⟩:=hf.heap.get hl;have hsv:a.eval s=v:=by
  have:=(Qf (a:=a) hf.env hs).o_inv;rw [hv] at this;cases this;rfl
 have hfirst:∀w',(∀b,b<w.heap.size->w'.heap[b]?=w.heap[b]?)->(Builtin.firstCells 1 1 (.slice (some ⟨bx,ox,none⟩) 1 capx)).run P w'=.ok [v0].toArray w':=λw' hw'=>Q43 (ys:=[y0]) (by simp) (λh=>⟨⟨bx,ox,none⟩,rfl,λj u hu=>by
  cases j with
  | zero=>simp at hu;subst hu;rw [Xl,Nat.add_zero,World.cell?_of_block (w:=w) (hw' _ (Gt hwx))];exact hcl
  | succ j=>simp at hu⟩)
 suffices key:∃(v':Value) (w':World) (N:Nat->Prop),(execOp a.eval ⟨some d,.call ⟨.builtin .append,#[s,x],#[t,t]⟩,ty,pos,af,g⟩).run P w=.ok (.value v') w'∧(∀b,N b->b=w.heap.size)∧w.heap.size≤w'.heap.size∧(∀b,N b->b<w'.heap.size)∧Kp w (Mod β [l]) w'∧v'.oneCell'=true ∧
   (∀b,hdr v'=some b->w.heap.size≤b∨Mod β [l] b) ∧
   ∀F1:Nat->Prop,(∀b,F1 b->F b)->Gn B.w0 B.ok β w l F1 (.val (.os 1 enc xs))->Gn B.w0 B.ok (β++[v']) w' β.length (λb=>F1 b∨N b) (.lent enc (xs++[y0]) [(xs.length,l2)])∧∀b,b<w.heap.size->¬F1 b->w'.heap[b]?=w.heap[b]? by
  obtain⟨v',w',N,hrun,hN,hgr,hN2,hkp,hone,hhdr,hres⟩:=key;refine⟨v',w',β++[v'],λb=>F b∨N b,hrun,by simp,λl x h=>Ql h,λl' x b hl' hx' hb=>?_,XA.put (A:=.o β.length) ⟨hf.kp.trans hkp (λb ⟨l',hl',y,hy,hhy⟩ hlt'=>?_),hf.ok,λb hb=>?_,HOk.rep (λl x h=>Ql h) N hf.heap hl (λF1 hF1 hR=>hres F1 hF1 hR) (λb hb h=>?_) (λb hb=>(hf.own b hb).1) (λS k F1 h=>h.snoc v'),λt' A hA=>(hf.env t' A hA).snoc v',hf.size,hf.defers,λl x hl hx=>Ql (hf.pre l x hl hx)⟩ hlt (.o _ _ (by simp) hone),hkp⟩
  ·have:=YN rfl hl' hx';subst this;exact hhdr b hb
  ·simp only [List.mem_singleton] at hl';subst hl';obtain⟨F3,hF3,hr3⟩:=hf.heap.get hl;exact (hf.own b (hF3 b (hr3.block hy hhy rfl))).2 hlt'
  ·rcases hb with hb | hb
   ·have:=hf.own b hb;exact⟨gG this.1 hgr,this.2⟩
   ·refine⟨hN2 b hb,λh=>?_⟩;have:=hN b hb;have:=hf.kp.size;omega
  ·have:=(hf.own b h).1;have:=hN b hb;omega
 have hexec:∀(r:Value) (w':World),(Builtin.append_ #[t,t] ty #[v,.slice (some ⟨bx,ox,none⟩) 1 capx]).run P w=.ok r w'->(execOp a.eval ⟨some d,.call ⟨.builtin .append,#[s,x],#[t,t]⟩,ty,pos,af,g⟩).run P w=.ok (.value r) w':=λr w' h=>by
  simp [execOp,resolve,invoke,builtin,hsv,hxv,h]
 have hsz:inf.size=1:=by rw [hsize,hn]
 obtain⟨p,cap,olds,G0,rfl,hol,hcl2,hop,hpn,hG0,hd0,hr0,hrow⟩:=hov.os_cells hen;have hlx':∀j (hj:j<xs.length),(xs++[y0])[j]?=xs[j]?:=λj hj=>gL hj
 have hmem:∀(v':Value) (j l':Nat),(j,l')∈[(xs.length,l2)]->∀(cs:Array Value) (o1:Nat),cs.getD (o1+xs.length) undef=v0->j<(xs++[y0]).length∧(β++[v'])[l']?=some (cs.getD (o1+j) undef):=λv' j l' h cs o1 hcs=>by
  simp only [List.mem_singleton,Prod.mk.injEq] at h;obtain⟨rfl,rfl⟩:=h;exact⟨by simp,by rw [hcs];exact Ql hci⟩
 by_cases hroom:xs.length+1≤cap
 ·obtain⟨b,off,c,T,rfl,hFb,hw,hcap,hGb,hoc⟩:=hrow (by omega);have hst:=run_storeCells_at (P:=P) b (off+xs.length) T [v0] 0 c w hw (by simp;omega) (by intro u hu;simp at hu;subst hu;exact hone0);simp only [Nat.add_zero,List.length_singleton] at hst;generalize hc':(c.toList.take (off+xs.length)++[v0]++c.toList.drop (off+xs.length+1)).toArray=c' at hst;have hrow':=setRow_heap w b c c' T (0,0) hw;have hc's:c'.size=c.size:=by rw [<-hc'];simp;omega
  have hget:∀j,c'.getD j undef=if j=off+xs.length then v0 else c.getD j undef:=λj=>by rw [<-hc'];exact Q2I c _ _ (by omega) j
  have hhd:Mod β [l] b:=⟨l,by simp,_,hv,by obtain⟨k,rfl⟩:∃k,cap=k+1:=⟨cap-1,by omega⟩;rfl⟩;have hrun:=Q0i (P:=P) (ty:=ty) (p:=some ⟨b,off,none⟩) (q:=some ⟨bx,ox,none⟩) (n:=xs.length) (m:=1) (cap:=cap) (c2:=capx) (news:=[v0]) (w':=w.setRow b c') hdd hinf hroom (by rw [hsz];exact hfirst w (λ_ _=>rfl)) (by simp only [Xl,hsz,Nat.mul_one];exact hst);refine⟨_,w.setRow b c',λ_=>False,hexec _ _ hrun,λ_ h=>h.elim,by simp,λ_ h=>h.elim,GY w b c' _ hhd,rfl,λb' hb'=>?_,λF1 hF1' hR=>⟨?_,λb' hb' hnb=>setRow_other w b b' c' (λe=>hnb (e▸hR.block hv (by obtain⟨k,rfl⟩:∃k,cap=k+1:=⟨cap-1,by omega⟩;rfl) rfl))⟩⟩
  ·obtain⟨k,rfl⟩:∃k,cap=k+1:=⟨cap-1,by omega⟩;cases hb';exact .inr hhd
  ·obtain⟨v1,hv1,hov1⟩:=hR;rw [hv] at hv1;cases hv1;obtain⟨p1,cap1,olds1,G1,heq,hol1,_,_,_,hG1,hd1,hr1,hrow1⟩:=hov1.os_cells hen;cases heq;obtain⟨b1,off1,c1,T1,heq,hFb1,hw1,hcap1,hGb1,hoc1⟩:=hrow1 (by omega);cases heq;rw [hw] at hw1;cases hw1;refine⟨b,off,cap,c',T,G1,by simp,hrow',.inl hFb1,by simpa using hroom,by rw [hc's];exact hcap1,λx _=>hen x,λj l' hj=>hmem _ j l' hj c' off (by rw [hget,gF rfl]),λj k h=>⟨.inl (hG1 j k h),hGb1 j k h⟩,hd1,λj z C hj hz hC=>?_⟩;have hjl:j<xs.length:=by
    have:=(gS.1 hz).1;simp at this;rcases gH j xs.length with h | h
    ·exact h
    ·exact absurd (by simp;omega) (hj l2)
   rw [hlx' j hjl] at hz;have:=hr1 j z C hz hC;rw [hoc1 j hjl] at this;rw [hget,gC (by omega)];exact this.later (λk hk' hlt=>setRow_other w b k c' (hGb1 j k hk'))
 ·obtain⟨cap',hcap',hrun⟩:=Q1C (P:=P) (ty:=ty) hdd hinf hzero (w:=w) (p:=p) (q:=some ⟨bx,ox,none⟩) (n:=xs.length) (m:=1) (cap:=cap) (c2:=capx) (olds:=olds) (news:=[v0]) (by omega) (by rw [hol,hsz,Nat.mul_one]) hop hpn rfl (by rw [hsz];rfl) (λj u hu=>by
   cases j with
   | zero=>simp at hu;subst hu;rw [Xl,Nat.add_zero];exact hcl
   | succ j=>simp at hu) (by rw [hbytes];exact hby') hlen
  have hz2:z2.cells.size=1:=by
   have:z2.cells.toList=e'.zc:=hrest.1;rw [<-hn,<-hzl,<-this];simp
  have hk1:Kp w (λ_=>False) (w.drew.alloc (.cells (olds.toArray++[v0].toArray++Builtin.zeroCells z2.cells (cap'-(xs.length+1))) e)):=Kp.trans (Kp.drew w (λ_=>False) _) (Wg w.drew (λ_=>False) _) (λ_ h _=>h);have hnew:=heap_alloc_new w.drew (.cells (olds.toArray++[v0].toArray++Builtin.zeroCells z2.cells (cap'-(xs.length+1))) e);generalize hcc:olds.toArray++[v0].toArray++Builtin.zeroCells z2.cells (cap'-(xs.length+1))=cc at hrun hk1 hnew;have hccs:cc.size=cap':=by rw [<-hcc];simp [size_zeroCells,hz2,hol];omega
  have hget:∀j,j<xs.length->cc.getD j undef=olds.getD j undef:=λj hj=>by
   rw [<-hcc,gA,Array.getElem?_append_left (by simp [hol];omega),Array.getElem?_append_left (by simp [hol];omega)];simp [gD]
  have hgetl:cc.getD xs.length undef=v0:=by
   rw [<-hcc,gA,Array.getElem?_append_left (by simp [hol]),Array.getElem?_append_right (by simp [hol])];simp [hol]
  refine⟨_,_,λb=>b=w.heap.size,hexec _ _ hrun,λ_ h=>h,hk1.size,(λb hb=>by subst hb;exact Nat.lt_of_lt_of_eq (Nat.lt_succ_self w.drew.heap.size) (by simp)),hk1.mono (λ_ h _=>h.elim),rfl,λb hb=>?_,λF1 hF1' hR=>⟨?_,λb hb _=>hk1.block b hb (λh=>h)⟩⟩
  ·cases cap' with
   | zero=>cases hb
   | succ k=>cases hb;exact .inl (Nat.le_refl _)
  ·obtain⟨v1,hv1,hov1⟩:=hR;rw [hv] at hv1;cases hv1;obtain⟨p1,cap1,olds1,G1,heq,hol1,_,hop1,_,hG1,hd1,hr1,hrow1⟩:=hov1.os_cells hen;cases heq;have hold:∀j,j<xs.length->olds1.getD j undef=olds.getD j undef:=λj hj=>by
    have hc0:cap≠0:=by omega
    obtain⟨b,off,c,T,e1,_,hw2,_,_,h1⟩:=hrow hc0;obtain⟨b',off',c',T',e2,_,hw3,_,_,h2⟩:=hrow1 hc0;rw [e1] at e2;cases e2;rw [hw2] at hw3;cases hw3;rw [h1 j hj,h2 j hj]
   have hlt1:∀j k,G1 j k->k<w.heap.size:=λj k h=>(hf.own k (hF1' k (hG1 j k h))).1
   refine⟨w.heap.size,0,cap',cc,e,G1,by simp,hnew,.inr rfl,by simpa using hcap',by rw [hccs];omega,λx _=>hen x,λj l' hj=>hmem _ j l' hj cc 0 (by rw [Nat.zero_add];exact hgetl),λj k h=>⟨.inl (hG1 j k h),λe=>by have:=hlt1 j k h;omega⟩,hd1,λj z C hj hz hC=>?_⟩;have hjl:j<xs.length:=by
    have:=(gS.1 hz).1;simp at this;rcases gH j xs.length with h | h
    ·exact h
    ·exact absurd (by simp;omega) (hj l2)
   rw [hlx' j hjl] at hz;have:=hr1 j z C hz hC;rw [Nat.zero_add,hget j hjl,<-hold j hjl];exact this.later (λk hk' hlt=>hk1.block k hlt (λh=>h))
theorem Eff1.re{Γ':Env}{l nl':Nat}{A A':AVal}{H'':Heap}{m:EM}(h:Eff1 P B Γ H nl o Γ' ((l,.val A) :: H'') nl' m)(hA:∀(w0 w:World) (ok:Nat->Prop) (x:Value) (F:Nat->Prop),On w0 ok w A x F->On w0 ok w A' x F):
  Eff1 P B Γ H nl o Γ' ((l,.val A') :: H'') nl' m:=λB' hB β F a w hβ hf next Q hn=>h B' hB β F a w hβ hf next Q λs hs a' w' β' F' B'' e1 e2 e3 e4 hf'=>by
 obtain⟨F1,F2,h1,h2,h12,⟨v,hv,hon⟩,hH⟩:=hf'.heap;exact hn s hs a' w' β' F' B'' e1 e2 e3 e4 ⟨hf'.kp,hf'.ok,hf'.own,⟨F1,F2,h1,h2,h12,⟨v,hv,hA _ _ _ _ _ hon⟩,hH⟩,hf'.env,hf'.size,hf'.defers,hf'.pre⟩
end
end Go.Taq
namespace Go.Taq
theorem Qak{κ α:Type}[DecidableEq κ](xs:List (κ×α))(k:κ):(∃y,lk xs k=some y)∨lk xs k=none:=by
 cases h:lk xs k with
 | none=>exact .inr rfl
 | some y=>exact .inl ⟨y,rfl⟩
def Qag(tb:Tab)(ops:Array Oper)(H:Heap)(n i:Nat)(Γ:Env):Option Env:=
 match ops[i]? with
 | none=>none
 | some o=>match o.dst with
  | none=>none
  | some d=>if d.blt n then (match ZD tb Γ H o.op with
    | some A=>some ((d,A) :: Γ)
    | none=>match o.op with
     | .load T x=>match ev Γ x with
      | some X=>match Q5D tb H T X with
       | some (A,_)=>some ((d,A) :: Γ)
       | none=>none
      | none=>none
     | _=>none) else none
def Q7P(tb:Tab)(ops:Array Oper)(H:Heap)(i:Nat)(Γ:Env):List Nat:=
 match ops[i]? with
 | none=>[]
 | some o=>match ZD tb Γ H o.op with
  | some _=>[]
  | none=>match o.op with
   | .load T x=>match ev Γ x with
    | some X=>match Q5D tb H T X with
     | some (_,rl)=>rl
     | none=>[]
    | none=>[]
   | _=>[]
def Q1i(tb:Tab)(ops:Array Oper)(H:Heap)(n:Nat)(g:Option (Nat×Bool)):Nat->List Nat->Env->Option (Env×List Nat)
 | 0,l,Γ=>some (Γ,l)
 | k+1,[],Γ=>none
 | k+1,i :: l,Γ=>match (ops[i]?).map (·.guard) with
  | some g'=>if g'=g then (match Qag tb ops H n i Γ with
    | some Γ'=>Q1i tb ops H n g k l Γ'
    | none=>none) else none
  | none=>none
section
variable {P:Program} {B:Base} {tb:Tab} {Γ Γ':Env} {H:Heap} {nl:Nat} {o:Oper} {ops:Array Oper} {Q:Exit->Act->World->Prop}
theorem Q2e(htb:TabOk P tb){i n:Nat}(h:Qag tb ops H n i Γ=some Γ'):∃o d A rl,ops[i]?=some o∧o.dst=some d∧d.blt n=true∧Γ'=(d,A) :: Γ∧(∀B:Base,Rd P B Γ H nl o A rl)∧(rl=none∨rl=some (Q7P tb ops H i Γ)):=by
 unfold Qag at h;split at h
 ·cases h
 ·rename_i o ho;split at h
  ·cases h
  ·rename_i d hd;split at h
   ·rename_i hlt;split at h
    ·rename_i A hA;cases h;exact⟨o,d,A,none,ho,hd,hlt,rfl,λB=>Rd.p hA,.inl rfl⟩
    ·rename_i hA;split at h
     ·rename_i T x hop;split at h
      ·rename_i X hX;split at h
       ·rename_i A rl hL;cases h;refine⟨o,d,A,some rl,ho,hd,hlt,rfl,λB=>Rd.l hop hX hL,.inr ?_⟩;rw [hop] at hA;simp only [Q7P,ho,hA,hop,hX,hL]
       ·cases h
      ·cases h
     ·cases h
   ·cases h
theorem Q7j{t d:Nat}{A:AVal}(h:d.beq t=false):find ((d,A) :: Γ) t=find Γ t:=by simp [find,h]
theorem U.ps(k:Nat)[htb:TabOk P tb]{l l':List Nat}(h:Q1i tb ops H B.n none k l Γ=some (Γ',l'))(kk:St B Γ' H nl (wpOps P ops Q l')):St B Γ H nl (wpOps P ops Q l):=by
 induction k generalizing l Γ with
 | zero=>simp only [Q1i,gJ,Prod.mk.injEq] at h;obtain⟨rfl,rfl⟩:=h;exact kk
 | succ k ih=>
  cases l with
  | nil=>cases h
  | cons i l=>
   simp only [Q1i] at h;split at h
   ·rename_i g' hg;split at h
    ·rename_i hgg;subst hgg;split at h
     ·rename_i Γ1 h1;obtain⟨o,d,A,rl,ho,hd,hlt,rfl,hrd,_⟩:=Q2e (nl:=nl) htb h1;simp only [ho,Option.map_some,gJ] at hg;exact U.rd (hrd B) ho (.none hg) hd hlt (ih h)
     ·cases h
    ·cases h
   ·cases h
def Qah(ops:Array Oper)(t:Nat):Nat->List Nat->Bool
 | 0,_=>true
 | k+1,i :: l=>(match ops[i]? with
  | some o=>(match o.dst with
   | some d=>!(d.beq t)
   | none=>true)
  | none=>true)&&Qah ops t k l
 | _+1,[]=>true
theorem U.pg(k j:Nat)(want:Bool)(t:Nat){b:Bool}(hb:b=want)[htb:TabOk P tb]{l l':List Nat}(hs:Q0g ops j=some t)(hf:find Γ t=some (.v (.bool b)))(hk:Qah ops t k l=true)(h:Q1i tb ops H B.n (some (j,want)) k l Γ=some (Γ',l'))(kk:St B Γ' H nl (wpOps P ops Q l')):St B Γ H nl (wpOps P ops Q l):=by
 induction k generalizing l Γ with
 | zero=>simp only [Q1i,gJ,Prod.mk.injEq] at h;obtain⟨rfl,rfl⟩:=h;exact kk
 | succ k ih=>
  cases l with
  | nil=>cases h
  | cons i l=>
   simp only [Q1i] at h;simp only [Qah,gP] at hk;split at h
   ·rename_i g' hg;split at h
    ·rename_i hgg;subst hgg;split at h
     ·rename_i Γ1 h1;obtain⟨o,d,A,rl,ho,hd,hlt,rfl,hrd,_⟩:=Q2e (nl:=nl) htb h1;simp only [ho,Option.map_some,gJ] at hg;have hdt:d.beq t=false:=by simpa [ho,hd] using hk.1
      exact U.rd (hrd B) ho (.take j want t b hb hg hs hf) hd hlt (ih (by rw [Q7j hdt];exact hf) hk.2 h)
     ·cases h
    ·cases h
   ·cases h
def Q1O(ops:Array Oper)(n:Nat)(g:Nat×Bool)(t:Nat):Nat->List Nat->Env->Option (Env×List Nat)
 | 0,l,Γ=>some (Γ,l)
 | k+1,[],Γ=>none
 | k+1,i :: l,Γ=>match ops[i]? with
  | some o=>if o.guard=some g then (match o.dst with
    | some d=>if d.blt n&&!(d.beq t) then Q1O ops n g t k l ((d,.v undef) :: Γ) else none
    | none=>Q1O ops n g t k l Γ) else none
  | none=>none
theorem U.sks(k j:Nat)(want:Bool)(t:Nat){b:Bool}(hb:b=!want){l l':List Nat}(hs:Q0g ops j=some t)(hf:find Γ t=some (.v (.bool b)))(h:Q1O ops B.n (j,want) t k l Γ=some (Γ',l'))(kk:St B Γ' H nl (wpOps P ops Q l')):St B Γ H nl (wpOps P ops Q l):=by
 induction k generalizing l Γ with
 | zero=>simp only [Q1O,gJ,Prod.mk.injEq] at h;obtain⟨rfl,rfl⟩:=h;exact kk
 | succ k ih=>
  cases l with
  | nil=>cases h
  | cons i l=>
   simp only [Q1O] at h;split at h
   ·rename_i o ho;split at h
    ·rename_i hg;split at h
     ·rename_i d hd;split at h
      ·rename_i hc;simp only [gP,Bool.not_eq_true'] at hc;exact U.skip ho (.skip j want t b hb hg hs hf) hd hc.1 (ih (by rw [Q7j hc.2];exact hf) h)
      ·cases h
     ·rename_i hd;exact U.skip' ho (.skip j want t b hb hg hs hf) hd (ih hf h)
    ·cases h
   ·cases h
theorem U.sku(k j:Nat)(want:Bool)(t:Nat){l l':List Nat}(hs:Q0g ops j=some t)(hf:find Γ t=some (.v undef))(h:Q1O ops B.n (j,want) t k l Γ=some (Γ',l'))(kk:St B Γ' H nl (wpOps P ops Q l')):St B Γ H nl (wpOps P ops Q l):=by
 induction k generalizing l Γ with
 | zero=>simp only [Q1O,gJ,Prod.mk.injEq] at h;obtain⟨rfl,rfl⟩:=h;exact kk
 | succ k ih=>
  cases l with
  | nil=>cases h
  | cons i l=>
   simp only [Q1O] at h;split at h
   ·rename_i o ho;split at h
    ·rename_i hg;split at h
     ·rename_i d hd;split at h
      ·rename_i hc;simp only [gP,Bool.not_eq_true'] at hc;exact U.skip ho (.und j want t hg hs hf) hd hc.1 (ih (by rw [Q7j hc.2];exact hf) h)
      ·cases h
     ·rename_i hd;exact U.skip' ho (.und j want t hg hs hf) hd (ih hf h)
    ·cases h
   ·cases h
section
variable {z:Nat} {ws:World} {M':Nat->Prop} {Lp Ms:List Nat} {g:Bool} {fuel:Nat} {listed:Array Bool}
def Q06(ops:Array Oper)(z:Nat):List (Nat×List Nat)->Array Bool->Bool
 | [],_=>true
 | (i,ch) :: r,listed=>Region.free .any ops listed i&&(Region.ready .any ops listed).contains i&&Q0M ops listed z ch i&&Q06 ops z r (listed.setIfInBounds i true)
def Q7z:List (Nat×List Nat)->Array Bool->Array Bool
 | [],l=>l
 | (i,_) :: r,l=>Q7z r (l.setIfInBounds i true)
def Q4Z(tb:Tab)(ops:Array Oper)(H:Heap)(n:Nat)(g:Bool)(Lp:List Nat):List (Nat×List Nat)->Env->Option Env
 | [],Γ=>some Γ
 | (i,_) :: r,Γ=>match (ops[i]?).map (·.guard) with
  | some none=>if rdOk' g Lp (Q7P tb ops H i Γ) then (match Qag tb ops H n i Γ with
    | some Γ'=>Q4Z tb ops H n g Lp r Γ'
    | none=>none) else none
  | _=>none
where rdOk' (g:Bool) (Lp:List Nat):List Nat->Bool
 | []=>true
 | l=>!g&&l.all λx=>Lp.contains x
theorem D.ps0(is:List (Nat×List Nat))(hQ:Ka Q)(hS:Region.noSelect ops=true)[htb:TabOk P tb](h:Q4Z tb ops H B.n g Lp is Γ=some Γ')(hg:g=false)(ho:Q06 ops z is listed=true)
  (kk:StD B ws M' Lp Ms g Γ' H nl (QI P ops Q (Kp ws M') z fuel (Q7z is listed))):StD B ws M' Lp Ms g Γ H nl (QI P ops Q (Kp ws M') z (fuel+is.length) listed):=by
 subst hg;induction is generalizing Γ listed with
 | nil=>simp only [Q4Z,gJ] at h;subst h;exact kk
 | cons p r ih=>
  obtain⟨i,ch⟩:=p;simp only [Q4Z] at h;simp only [Q06,gP] at ho;split at h
  ·rename_i hgd;split at h
   ·rename_i hrd;split at h
    ·rename_i Γ1 h1;obtain⟨o,d,A,rl,hoo,hd,hlt,rfl,hR,hrl⟩:=Q2e (nl:=nl) htb h1;simp only [hoo,Option.map_some,gJ] at hgd;refine D.rd (g:=false) hQ (hR B) hoo (.none hgd) hd hlt ?_ hS ho.1.1.1 ho.1.1.2 ho.1.2 rfl (ih ho.2 h kk);rcases hrl with e | e <;> subst e
     ·rfl
     ·simp only [rdOk];generalize Q7P tb ops H i Γ=l at hrd;cases l with
      | nil=>rfl
      | cons a l=>exact hrd
    ·cases h
   ·cases h
  ·cases h
theorem D.ps(m:Nat)(is:List (Nat×List Nat))(hm:is.length=m)(hQ:Ka Q)(hS:Region.noSelect ops=true)[htb:TabOk P tb](h:Q4Z tb ops H B.n g Lp is Γ=some Γ')(hg:g=false)(ho:Q06 ops z is listed=true)
  (kk:StD B ws M' Lp Ms g Γ' H nl (QI P ops Q (Kp ws M') z fuel (Q7z is listed))):StD B ws M' Lp Ms g Γ H nl (QI P ops Q (Kp ws M') z (fuel+m) listed):=by
 subst hm;exact D.ps0 is hQ hS h hg ho kk
theorem D.q{A:AVal}{rl:Option (List Nat)}{d:Nat}(i:Nat)(ch:List Nat)(hQ:Ka Q)(hs:Region.noSelect ops=true)(ho:ops[i]?=some o)(hw:G5 ops Γ o true)(hd:o.dst=some d)(hlt:d.blt B.n=true)(h:Rd P B Γ H nl o A rl)
  (hrl:rdOk g Lp rl=true) (hc:Q06 ops z [(i,ch)] listed=true)
  (k:StD B ws M' Lp Ms g ((d,A) :: Γ) H nl (QI P ops Q (Kp ws M') z fuel (listed.setIfInBounds i true))):StD B ws M' Lp Ms g Γ H nl (QI P ops Q (Kp ws M') z (fuel+1) listed):=by
 simp only [Q06,gP,Bool.and_true] at hc;exact D.rd hQ h ho hw hd hlt hrl hs hc.1.1 hc.1.2 hc.2 rfl k
theorem D.sq{d:Nat}(i:Nat)(ch:List Nat)(hQ:Ka Q)(hs:Region.noSelect ops=true)(ho:ops[i]?=some o)(hw:G5 ops Γ o false)(hd:o.dst=some d)(hlt:d.blt B.n=true)(hc:Q06 ops z [(i,ch)] listed=true)
  (k:StD B ws M' Lp Ms g ((d,.v undef) :: Γ) H nl (QI P ops Q (Kp ws M') z fuel (listed.setIfInBounds i true))):StD B ws M' Lp Ms g Γ H nl (QI P ops Q (Kp ws M') z (fuel+1) listed):=by
 simp only [Q06,gP,Bool.and_true] at hc;exact D.skip hQ ho hw hd hlt hs hc.1.1 hc.1.2 hc.2 rfl k
end
end
def getG(Γ:Env):List Nat->Option (List AVal)
 | []=>some []
 | t :: r=>match find Γ t,getG Γ r with
  | some A,some l=>some (A :: l)
  | _,_=>none
theorem ChkG.eqs{H:Heap}{ρ:List (Option Nat)}{nl:Nat}{fz:Bool}{Γ:Env}:∀{Γ':Env},getG Γ (Γ'.map (·.1))=some (AVal.mlL (rlab ρ nl) (Γ'.map (·.2)))->ChkG H ρ nl fz Γ Γ'
 | [],_=>trivial
 | (t,A) :: r,h=>by
  simp only [List.map_cons,getG,AVal.mlL] at h;split at h
  ·rename_i A' l h1 h2;simp only [gJ,List.cons.injEq] at h;obtain⟨rfl,rfl⟩:=h;exact⟨⟨_,h1,.eq rfl⟩,ChkG.eqs h2⟩
  ·cases h
section
variable {P:Program} {B:Base} {tb:Tab} {Γ Γ' Γ0:Env} {H H' H0:Heap} {nl nl' nl0:Nat} {ops:Array Oper} {Q:Exit->Act->World->Prop} {i z:Nat} {o:Oper} {ws:World} {M':Nat->Prop} {Lp Ms:List Nat} {g g0:Bool} {fuel f0:Nat} {listed listed' l0:Array Bool}
theorem Eff1.rd{A:AVal}{rl:Option (List Nat)}{d:Nat}(hd:o.dst=some d)(hlt:d.blt B.n=true)(h:Rd P B Γ H nl o A rl):Eff1 P B Γ H nl o ((d,A) :: Γ) H nl (.fx [] false):=λB' hn β F a w hβ hf next Q hk=>by
 obtain⟨v,hv,hr⟩:=h B' hn β F a w hβ hf;simp only [Oper.wp,hr w (.refl _ _ _ _),Oper.upon];rw [hd];refine hk ⟨⟩ trivial _ _ β F B' (.refl _) hβ (λ_ _ h=>h) ⟨λl x b hl hx _=>?_,.refl _ _,λ_ b hb=>hb⟩ (hf.put (by rw [hn];exact hlt) hv);have:=(gS.1 hx).1;omega
theorem D.have(g:Bool)(Γ:Env)(H:Heap)(nl fuel:Nat)(listed:Array Bool)(h:StD B ws M' Lp Ms g Γ H nl (QI P ops Q (Kp ws M') z fuel listed))
  (k:StD B ws M' Lp Ms g Γ H nl (QI P ops Q (Kp ws M') z fuel listed)->StD B ws M' Lp Ms g0 Γ0 H0 nl0 (QI P ops Q (Kp ws M') z f0 l0)):StD B ws M' Lp Ms g0 Γ0 H0 nl0 (QI P ops Q (Kp ws M') z f0 l0):=k h
def AllF(f:Nat->Prop):List Nat->Prop
 | []=>True
 | i :: r=>f i∧AllF f r
theorem AllF.get{f:Nat->Prop}:∀{l:List Nat},AllF f l->∀{i},i∈l->f i
 | j :: r,h,i,hi=>by
  rcases List.mem_cons.1 hi with e | e
  ·subst e;exact h.1
  ·exact AllF.get h.2 e
theorem D.all(i:Nat)(R:List Nat)(hr:Region.ready .any ops listed=i :: R)(h:AllF (λj=>StD B ws M' Lp Ms g Γ H nl (Q8y P ops Q (Kp ws M') z fuel listed j)) (i :: R)):
  StD B ws M' Lp Ms g Γ H nl (QI P ops Q (Kp ws M') z (fuel+1) listed):=λa w hf=>
 ⟨λh0=>absurd (h0▸hr) (by simp),λm hm=>by rw [hr] at hm;exact h.get hm a w hf⟩
theorem D.to(ρ:List (Option Nat))(h:StD B ws M' Lp Ms g Γ' H' nl' (QI P ops Q (Kp ws M') z fuel listed'))(hl:listed'=listed)(h0:fixed 0 B.k ρ=true)(h1:ρ.length=nl')(h2:ChkG H ρ nl false Γ Γ')(h3:ChkH H ρ nl false H')(h4:ndup (kept ρ H')=true)
  (h5:Lp.all (λl=>match ρ[l]? with | some (some m)=>m.beq l&&l.blt nl' | _=>false)=true) (h6:Ms.all (λl=>match ρ[l]? with | some (some m)=>Ms.contains m | some none=>false | none=>true)=true):StD B ws M' Lp Ms g Γ H nl (QI P ops Q (Kp ws M') z fuel listed):=by
 subst hl;rintro a w ⟨B',β,F,hx,hβ,hf,hkp,hLp,hok,hMs,hlp⟩;refine h a w ?_;subst hβ;obtain⟨k1,k2⟩:=hf.same;obtain⟨G,ok2,_,g1,g2,g3,g4,g5,_,_⟩:=hf.heap.cast k1 k2 h3 h4;have g3':∀b,ok2 b->B'.ok b:=λb hb=>(g3 b hb).elim id (λh=>by cases h.1)
 obtain⟨x1,x2⟩:=hf.rebase (ok:=ok2) (F':=G) g2 (λb hb=>.inl (g3' b hb)) g1 g4 (λt A hA=>by
  obtain⟨S,e1,e2⟩:=h2.get hA;exact g5 _ _ _ e2 (hf.env t S e1)) (λl x hl hx'=>WU (by have:=Q2b h0 l (by rw [<-hx.k];exact hl);simpa using this) hx')
 have back:∀(l m:Nat) (x:Value) (b:Nat),ρ[l]?=some (some m)->(rlβ ρ β)[l]?=some x->hdr x=some b->β[m]?=some x:=λl m x b hm hx hb=>by
  unfold rlβ at hx;rw [gK,hm] at hx;simp only [Option.map_some,gJ] at hx;cases hq:β[m]? with
  | none=>rw [hq] at hx;simp [undef] at hx;subst hx;simp [hdr] at hb
  | some y=>rw [hq] at hx;simp at hx;rw [hx]
 refine⟨_,rlβ ρ β,G,hx.trans x1,by simpa [rlβ] using h1,x2,hkp,λb hb=>?_,λhg b hb=>hok hg b (g3' b hb),λb hb hlt=>?_,λl hl=>?_⟩
 ·obtain⟨l,hl,x,hx,hh⟩:=hb;have:=gT.1 h5 l hl;cases hr:ρ[l]? with
  | none=>rw [hr] at this;cases this
  | some q=>cases q with
   | none=>rw [hr] at this;cases this
   | some m=>
    rw [hr] at this;simp only [gP] at this;have e:=Nat.eq_of_beq_eq_true this.1;subst e;exact hLp b ⟨m,hl,x,back m m x b hr hx hh,hh⟩
 ·obtain⟨l,hl,x,hx,hh⟩:=hb;have:=gT.1 h6 l hl;cases hr:ρ[l]? with
  | none=>
   have hn:(rlβ ρ β)[l]?=none:=by unfold rlβ;rw [gK,hr];rfl
   rw [hn] at hx;cases hx
  | some q=>cases q with
   | none=>rw [hr] at this;cases this
   | some m=>
    rw [hr] at this;exact hMs b ⟨m,by simpa using this,x,back l m x b hr hx hh,hh⟩ hlt
 ·have:=gT.1 h5 l hl;cases hr:ρ[l]? with
  | none=>rw [hr] at this;cases this
  | some q=>cases q with
   | none=>rw [hr] at this;cases this
   | some m=>
    rw [hr] at this;simp only [gP] at this;exact Nat.le_of_ble_eq_true this.2
end
section
variable {P:Program} {B:Base} {tb:Tab} {Γ:Env} {H:Heap} {nl:Nat} {o:Oper}
end
open Go.ChangeMaps (setBlock)
section
variable {P:Program} {B:Base} {tb:Tab} {Γ:Env} {H:Heap} {nl:Nat} {o:Oper} {κ α:Type} [DecidableEq κ]
omit [DecidableEq κ] in
theorem Eff1.rgm[htb:TabOk P tb]{t kt et n' by_ d:Nat}{zc:List Value}{m:Operand}{ke:κ->Value}{ve:α->AVal}{xs:List (κ×α)}(ho:o.op=.range t m)(ht:find tb t=some ⟨.mp kt et,n',by_,zc⟩)(hd:o.dst=some d)(hlt:d.blt B.n=true)
  (hm:ev Γ m=some (.rm ke ve xs)):Eff1 P B Γ H nl o ((d,.o nl) :: Γ) ((nl,.rngm ke ve xs []) :: H) (nl+1) (.fx [] false):=Eff1.of_value λB hB β F a w hβ hf=>by
 rw [<-hB] at hlt;obtain⟨dst,op,ty,pos,af,g⟩:=o;simp only at ho hd;subst ho;subst hd;subst hβ;obtain⟨d',hdd,rfl⟩:=htb.und ht;have hmv:=Qf (a:=a) hf.env hm;generalize hmm:a.eval m=mv at hmv;cases hmv with
 | ro h=>cases h with
  | rmNil=>
   refine⟨.pointer (some ⟨w.heap.size,0,none⟩),w.alloc (.mapIter none 0 #[] 0),β++[.pointer (some ⟨w.heap.size,0,none⟩)],_,?_,by simp,λl x h=>Ql h,λl x b hl hx hb=>?_,
    (XA.alloc hf (.mapIter none 0 #[] 0) (.pointer (some ⟨w.heap.size,0,none⟩)) (.rngm ke ve [] []) ?_).put hlt ?_,?_⟩
   ·simp [execOp,Instr.range,run_underlying hdd,hmm,newObj,Sem.run,Result.andThen]
   ·have:=YN rfl hl hx;subst this;cases hb;exact .inl (Nat.le_refl _)
   ·exact⟨w.heap.size,_,by simp,heap_alloc_new w _,rfl,.inl ⟨rfl,rfl⟩⟩
   ·exact .o _ _ (by simp) rfl
   ·exact Wg w _ _
  | rm _ _ _ b es clock hb hw he hr=>
   have h0:=hf.ok b hb;have hwb:w.heap[b]?=some (.map es clock):=by rw [hf.kp.block b h0.1 h0.2];exact hw
   have hg:=Go.MapKept.run_getObj_map (P:=P) hwb;refine⟨.pointer (some ⟨w.heap.size,0,none⟩),w.alloc (.mapIter (some b) clock #[] clock),β++[.pointer (some ⟨w.heap.size,0,none⟩)],_,?_,by simp,λl x h=>Ql h,λl x b hl hx hb=>?_,
    (XA.alloc hf (.mapIter (some b) clock #[] clock) (.pointer (some ⟨w.heap.size,0,none⟩)) (.rngm ke ve xs []) ?_).put hlt ?_,?_⟩
   ·simp [execOp,Instr.range,run_underlying hdd,hmm,hg,newObj,Sem.run,Result.andThen]
   ·have:=YN rfl hl hx;subst this;cases hb;exact .inl (Nat.le_refl _)
   ·exact⟨w.heap.size,_,by simp,heap_alloc_new w _,rfl,.inr ⟨b,es,clock,#[],hb,hw,rfl,he,hr,λi x e _ _=>by simp,λk rest h=>by cases h⟩⟩
   ·exact .o _ _ (by simp) rfl
   ·exact Wg w _ _
theorem Eff.nxm{d:Nat}{it:Operand}{li:Nat}{ke:κ->Value}{ve:α->AVal}{xs:List (κ×α)}{seen:List κ}(ho:o.op=.next it false)(hd:o.dst=some d)(hlt:d.blt B.n=true)(hm:ev Γ it=some (.o li))(hl:find H li=some (.rngm ke ve xs seen)):
  Eff (ι:=ULift (Option (κ×α))) P B Γ H nl o (λs=>match s.down with | none=>∀k,Taq.lk xs k≠none->k∈seen | some (k,v)=>Taq.lk xs k=some v∧k∉seen)
   (λs=>(d,match s.down with | none=>.tup [.v (.bool false)] | some (k,v)=>.tup [.v (.bool true),unv (.v (ke k)),unv (ve v)]) :: Γ)
   (λs=>match s.down with | none=>H | some (k,v)=>setH H li (.rngm ke ve xs (k :: seen))) (λ_=>nl) (.fx [li] false):=λB hB β F a w hβ hf next Q hn=>by
 rw [<-hB] at hlt;obtain⟨dst,op,ty,pos,af,g⟩:=o;simp only at ho hd;subst ho;subst hd;obtain⟨F1,hF1,⟨bi,O,hv0,hwO,hbi,hR⟩,hset⟩:=hf.heap.set hl;have hiv:=(Qf (a:=a) hf.env hm).o_inv;rw [hv0] at hiv;have hit:=(Option.some.inj hiv).symm;unfold Oper.wp;rcases hR with ⟨rfl,rfl⟩ | ⟨b,es,clock,sa,hbk,hw0,rfl,he,hr,hs1,hs2⟩
 ·have hgo:(getObj bi).run P w=.ok (.mapIter none 0 #[] 0) w:=by simp [getObj,Sem.run,hwO]
  have hex:(execOp a.eval ⟨some d,.next it false,ty,pos,af,g⟩).run P w=.ok (.value (.tuple #[.bool false])) w:=by
   simp [execOp,hit,Instr.next,hgo]
  rw [hex];refine hn ⟨none⟩ (λk hk=>absurd rfl hk) _ _ β F B (.refl _) hβ (λ_ _ h=>h) ⟨λl' x c hl' hx _=>?_,.refl _ _,λ_ c hc=>hc⟩ (hf.put hlt (.tup _ #[.bool false] rfl (λj C hC=>?_)))
  ·rw [gN (by omega)] at hx;cases hx
  ·match j,hC with
   | 0,hC=>simp at hC;subst hC;exact .ro (.v _)
   | j+1,hC=>simp at hC
 have h0:=hf.ok b hbk;have hw:w.heap[b]?=some (.map es clock):=by rw [hf.kp.block b h0.1 h0.2];exact hw0
 have hne:b≠bi:=λe=>by
  subst e;exact h0.2 ((hf.own b (hF1 b hbi)).2 h0.1)
 have hmem:∀(i:Nat) (x:κ×α),xs[i]?=some x->∃e,es[i]?=some e:=λi x hx=>by
  have:=(gS.1 hx).1;exact⟨es[i]'(by rw [he.size];exact this),Array.getElem?_eq_getElem _⟩
 rcases run_next_at (P:=P) w ty bi b clock clock sa es clock hwO hw he.old (Nat.le_refl _) with ⟨h0,hrun⟩ | ⟨e,hel,w1,hw1,hrun⟩
 ·have hex:(execOp a.eval ⟨some d,.next it false,ty,pos,af,g⟩).run P w=.ok (.value (.tuple #[.bool false])) w:=by simp [execOp,hit,hrun]
  rw [hex];refine hn ⟨none⟩ (λk hk=>?_) _ _ β F B (.refl _) hβ (λ_ _ h=>h) ⟨λl' x c hl' hx _=>?_,.refl _ _,λ_ c hc=>hc⟩ (hf.put hlt (.tup _ #[.bool false] rfl (λj C hC=>?_)))
  ·have hk2:=Q1G xs k;cases hkk:kidx (xs.map (·.1)) k with
   | none=>rw [hkk] at hk2;exact absurd hk2.1 hk
   | some i=>
    rw [hkk] at hk2;obtain⟨v,h1,h2⟩:=hk2;obtain⟨e,h3⟩:=hmem i _ h1;refine (hs1 i _ e h1 h3).1 ?_;cases hc:sa.contains e.born with
    | true=>rfl
    | false=>
     have:e∈(leftOf es sa).toList:=by
      unfold leftOf;simp only [Array.toList_filter,List.mem_filter];exact⟨Array.mem_toList_iff.2 (Array.mem_of_getElem? h3),by rw [hc];rfl⟩
     have hz:(leftOf es sa).toList=[]:=List.eq_nil_of_length_eq_zero (by simpa using h0);rw [hz] at this;cases this
  ·rw [gN (by omega)] at hx;cases hx
  ·match j,hC with
   | 0,hC=>simp at hC;subst hC;exact .ro (.v _)
   | j+1,hC=>simp at hC
 ·have hel2:e∈es.toList∧sa.contains e.born=false:=by
   unfold leftOf at hel;simp only [Array.toList_filter,List.mem_filter] at hel;exact⟨hel.1,by simpa using hel.2⟩
  obtain⟨i,hi,hei⟩:=List.getElem_of_mem hel2.1;have hei':es[i]?=some e:=by
   have:i<es.size:=by simpa using hi
   rw [Array.getElem?_eq_getElem this];rw [<-hei];simp
  have hix:i<xs.length:=by rw [<-he.size];simpa using hi
  obtain⟨⟨k,v⟩,hx⟩:∃x,xs[i]?=some x:=⟨_,gE hix⟩;have hkey:=he.key i _ e hx hei';have hidx:∀(j:Nat) (y:α),xs[j]?=some (k,y)->j=i:=λj y hy=>by
   have hnd:=he.nodup;have h1:(xs.map (·.1))[j]?=some k:=by simp [hy]
   have h2:(xs.map (·.1))[i]?=some k:=by simp [hx]
   have hj:=(gS.1 h1).1;exact (List.getElem?_inj hj hnd).1 (h1.trans h2.symm)
  have hborn:∀(j:Nat) (e':MapEntry),es[j]?=some e'->e'.born=e.born->j=i:=λj e' hj hb'=>by
   have hnd:(es.toList.map (·.born)).Nodup:=by
    rw [List.Nodup,List.pairwise_map];exact he.born.imp (λh=>Nat.ne_of_lt h)
   have h1:(es.toList.map (·.born))[j]?=some e.born:=by simp [hj,hb']
   have h2:(es.toList.map (·.born))[i]?=some e.born:=by simp [hei']
   have hjl:=(gS.1 h1).1;exact (List.getElem?_inj hjl hnd).1 (h1.trans h2.symm)
  have hlk:Taq.lk xs k=some v:=by
   have hk2:=Q1G xs k;cases hkk:kidx (xs.map (·.1)) k with
   | none=>rw [hkk] at hk2;exact absurd rfl (hk2.2 _ (gM hx))
   | some i'=>
    rw [hkk] at hk2;obtain⟨v',h1,h2⟩:=hk2;have:=hidx i' v' h1;subst this;rw [hx] at h1;cases h1;exact h2
  have hns:k∉seen:=λh=>by
   have:=(hs1 i _ e hx hei').2 h;rw [hel2.2] at this;cases this
  have hv:Ro B.w0 B.ok (ve v) e.val:=hr i _ e hx hei';have hex:(execOp a.eval ⟨some d,.next it false,ty,pos,af,g⟩).run P w=.ok (.value (.tuple #[.bool true,e.key,e.val])) (setBlock w1 bi (.mapIter (some b) clock (sa.push e.born) clock)):=by simp [execOp,hit,hrun]
  rw [hex];have hh1:w1.heap=w.heap:=by rcases hw1 with rfl | rfl <;> rfl
  have hk0:∀M:Nat->Prop,Kp w M w1:=λM=>by
   rcases hw1 with rfl | rfl
   ·exact .refl _ _
   ·exact Kp.drew w M _
  have hwi1:w1.heap[bi]?=some (.mapIter (some b) clock sa clock):=by rw [hh1];exact hwO
  have hk1:∀M:Nat->Prop,M bi->Kp w M (setBlock w1 bi (.mapIter (some b) clock (sa.push e.born) clock)):=λM hM=>(hk0 M).trans (WX w1 bi _ M hM) (λ_ h _=>h)
  have hM:∀x,x=bi->x<B.w0.heap.size->B.M x:=λx hx hlt'=>by subst hx;exact (hf.own x (hF1 x hbi)).2 hlt'
  have hoth:∀c,c≠bi->(setBlock w1 bi (.mapIter (some b) clock (sa.push e.born) clock)).heap[c]?=w.heap[c]?:=λc hc=>by rw [YX hwi1 _ hc,hh1]
  have hRes:Gn B.w0 B.ok β (setBlock w1 bi (.mapIter (some b) clock (sa.push e.born) clock)) li F1 (.rngm ke ve xs (k :: seen)):=by
   refine⟨bi,_,hv0,Q1X hwi1 _,hbi,.inr ⟨b,es,clock,sa.push e.born,hbk,hw0,rfl,he,hr,λj x e' h1 h2=>?_,λk' rest hkr j x e' h1 h2 h3=>?_⟩⟩
   ·have h3:=hs1 j x e' h1 h2;rw [Array.contains_push];simp only [Bool.or_eq_true,beq_iff_eq,List.mem_cons];constructor
    ·rintro (h | h)
     ·exact .inr (h3.1 h)
     ·have:=hborn j e' h2 h;subst this;rw [hx] at h1;cases h1;exact .inl rfl
    ·rintro (h | h)
     ·obtain⟨x1,x2⟩:=x;simp only at h;subst h;have:=hidx j x2 h1;subst this;rw [hei'] at h2;cases h2;exact .inr rfl
     ·exact .inl (h3.2 h)
   ·cases hkr;obtain⟨x1,x2⟩:=x;simp only at h3;subst h3;have:=hidx j x2 h1;subst this;rw [hei'] at h2;cases h2;exact⟨sa,rfl⟩
  refine hn ⟨some (k,v)⟩ ⟨hlk,hns⟩ _ _ β F B (.refl _) hβ (λ_ _ h=>h) ⟨λl' x c hl' hx _=>?_,hk1 _ ⟨li,by simp,_,hv0,rfl⟩,λ_ c hc=>hc⟩
   (XA.put ⟨hf.kp.trans (hk1 (λx=>x=bi) rfl) hM,hf.ok,λc hc=>by have:=hf.own c hc;exact⟨gG this.1 (hk1 (λx=>x=bi) rfl).size,this.2⟩,hset _ _ (λc hc hn' hlt'=>hoth c (λe=>hn' (e▸hbi))) hRes,hf.env,hf.size,hf.defers,hf.pre⟩ hlt (.tup _ #[.bool true,e.key,e.val] rfl (λj C hC=>?_)))
  ·rw [gN (by omega)] at hx;cases hx
  ·match j,hC with
   | 0,hC=>simp at hC;subst hC;exact .ro (.v _)
   | 1,hC=>simp at hC;subst hC;show Dn _ _ _ (unv (.v (ke k))) _;rw [<-hkey];exact (Dn.ro (.v _)).unv
   | 2,hC=>simp at hC;subst hC;exact (Dn.ro hv).unv
   | j+3,hC=>simp at hC
theorem Rd.enm{it:Operand}{li:Nat}{ke:κ->Value}{ve:α->AVal}{xs:List (κ×α)}{seen:List κ}{k:κ}{rest:List κ}{v:α}(ho:o.op=.entry it)
  (hm:ev Γ it=some (.o li)) (hl:find H li=some (.rngm ke ve xs seen)) (hs:seen=k :: rest) (hv:Taq.lk xs k=some v):Rd P B Γ H nl o (.tup [unv (.v (ke k)),unv (ve v)]) (some [li]):=λB hB β F a w hβ hf=>by
 obtain⟨dst,op,ty,pos,af,g⟩:=o;simp only at ho;subst ho;obtain⟨F1,hF1,bi,O,hv0,hwO,hbi,hR⟩:=hf.heap.get hl;have hiv:=(Qf (a:=a) hf.env hm).o_inv;rw [hv0] at hiv;have hit:=(Option.some.inj hiv).symm;rcases hR with ⟨rfl,rfl⟩ | ⟨b,es,clock,sa,hbk,hw0,rfl,he,hr,hs1,hs2⟩
 ·cases hv
 have hk2:=Q1G xs k;cases hkk:kidx (xs.map (·.1)) k with
 | none=>rw [hkk] at hk2;rw [hk2.1] at hv;cases hv
 | some i=>
  rw [hkk] at hk2;obtain⟨v',h1,h2⟩:=hk2;rw [hv] at h2;cases h2;have hi:i<es.size:=by rw [he.size];exact (gS.1 h1).1
  have hei:es[i]?=some es[i]:=Array.getElem?_eq_getElem hi;obtain⟨sa0,hsa⟩:=hs2 k rest hs i _ _ h1 hei rfl;subst hsa;have hkey:=he.key i _ _ h1 hei;refine⟨.tuple #[es[i].key,es[i].val],.tup _ _ rfl (λj C hC=>?_),λw' ⟨hw1,hw'⟩=>?_⟩
  ·match j,hC with
   | 0,hC=>simp at hC;subst hC;show Dn _ _ _ (unv (.v (ke k))) _;rw [<-hkey];exact (Dn.ro (.v _)).unv
   | 1,hC=>simp at hC;subst hC;exact (Dn.ro (hr i _ _ h1 hei)).unv
   | j+2,hC=>simp at hC
  ·have h0:=hf.ok b hbk;have e1:w'.heap[b]?=some (.map es clock):=by rw [hw1 b hbk,hf.kp.block b h0.1 h0.2];exact hw0
   have e2:w'.heap[bi]?=some (.mapIter (some b) clock (sa0.push es[i].born) clock):=by rw [hw' bi ⟨li,by simp,_,hv0,rfl⟩];exact hwO
   have hnd:(es.toList.map (·.born)).Nodup:=by
    rw [List.Nodup,List.pairwise_map];exact he.born.imp (λh=>Nat.ne_of_lt h)
   have:=run_entry_at (P:=P) w' bi b clock sa0 es clock es[i] e2 e1 (by simp) hnd;simp [execOp,hit,this]
end
end Go.Taq
namespace Go.Taq
open Go
section
variable {P:Program} {B:Base} {tb:Tab} {Γ:Env} {H:Heap} {nl:Nat} {o:Oper}
theorem Q27{α:Type}{m:Nat}{enc:α->List AVal}{pre post:List AVal}{xs:List α}(hen:∀y,(enc y).length=m){i:Nat}{y:α}(hy:xs[i]?=some y){q:Nat}(hq:q<m):
  (pre++((xs.map enc).flatten++post))[pre.length+i*m+q]?=(enc y)[q]?:=by
 obtain⟨fl1,fl2⟩:=ZN (n:=m) (enc:=enc) xs (λy _=>hen y);have hlt:=(gS.1 hy).1;have hle:(i+1)*m≤xs.length*m:=gB _ hlt;rw [Nat.succ_mul] at hle;rw [gR (by omega),show pre.length+i*m+q-pre.length=i*m+q by omega,gL (by rw [fl1];omega)];exact fl2 i y hy q hq
theorem Rd.lj[htb:TabOk P tb]{α:Type}{T:TypeId}{x:Operand}{l off m sub:Nat}{pre post cells:List AVal}{enc:α->List AVal}{xs:List α}{j:Int}{y:α}{A:AVal}{e':TE}
  (ho:o.op=.load T x) (hx:ev Γ x=some (.p l off)) (hoff:off=pre.length+j.toNat*m+sub) (hl:find H l=some (.box cells)) (hcells:cells=pre++((xs.map enc).flatten++post)) (hen:∀y,(enc y).length=m)
  (hy:idx xs j=some y) (he':find tb T=some e') (hagg:e'.ti.agg=false) (hA:(enc y)[sub]?=some A):Rd P B Γ H nl o A (some [l]):=λB hB β F a w hβ hf=>by
 obtain⟨dst,op,ty,pos,af,g⟩:=o;simp only at ho;subst ho;obtain⟨b,hb,hX⟩:=(Qf (a:=a) hf.env hx).p_inv;obtain⟨F1,hF1,b',c,T',hb',hw,hs,hd,hFb⟩:=hf.heap.get hl;rw [hb] at hb';cases hb';have hq:sub<m:=by rw [<-hen y];exact (gS.1 hA).1
 have hget:cells[off]?=some A:=by rw [hcells,hoff,Q27 hen (Qk hy).2.2 hq];exact hA
 refine⟨c.getD off undef,hd _ _ hget,λw' ⟨_,hw'⟩=>?_⟩;have hbk:w'.heap[b]?=some (.cells c T' (0,0)):=by rw [hw' b ⟨l,by simp,_,hb,rfl⟩];exact hw
 have this:w'.cell? ⟨b,off,none⟩=some (c.getD off undef):=Wc hbk (by rw [<-hs];exact (gS.1 hget).1);simp only [execOp,Instr.loadAt,hX,Sem.run_bind,Instr.sureAddr,Sem.run_pure,Result.andThen_ok];rw [Wu htb he' this hagg];rfl
theorem Rd.ljg[htb:TabOk P tb]{α:Type}{T:TypeId}{x:Operand}{l off m sub:Nat}{pre post cells cs:List AVal}{enc:α->List AVal}{xs:List α}{j:Int}{y:α}{e':TE}
  (ho:o.op=.load T x) (hx:ev Γ x=some (.p l off)) (hoff:off=pre.length+j.toNat*m+sub) (hl:find H l=some (.box cells)) (hcells:cells=pre++((xs.map enc).flatten++post)) (hen:∀y,(enc y).length=m)
  (hy:idx xs j=some y) (he':find tb T=some e') (hagg:e'.ti.agg=true) (hcs:((enc y).drop sub).take e'.n=cs) (hn:cs.length=e'.n):Rd P B Γ H nl o (.agg cs) (some [l]):=λB hB β F a w hβ hf=>by
 obtain⟨dst,op,ty,pos,af,g⟩:=o;simp only at ho;subst ho;obtain⟨b,hb,hX⟩:=(Qf (a:=a) hf.env hx).p_inv;obtain⟨F1,hF1,b',c,T',hb',hw,hs,hd,hFb⟩:=hf.heap.get hl;rw [hb] at hb';cases hb';have hm:=hen y;have hle:∀q,q<e'.n->sub+q<m:=λq hq=>by
  have h1:=congrArg List.length hcs;rw [hn,List.length_take,List.length_drop,hm] at h1;omega
 have hget:∀q A,cs[q]?=some A->cells[off+q]?=some A:=λq A hA=>by
  have hq:q<e'.n:=by rw [<-hn];exact (gS.1 hA).1
  rw [hcells,hoff,Nat.add_assoc,Q27 hen (Qk hy).2.2 (hle q hq)];rw [<-hcs,List.getElem?_take_of_lt hq,List.getElem?_drop] at hA;exact hA
 refine⟨.agg ((List.range e'.n).map (λq=>c.getD (off+q) undef)).toArray,.agg_of hn (λq A hA=>hd _ _ (hget q A hA)),λw' ⟨_,hw'⟩=>?_⟩;have hbk:w'.heap[b]?=some (.cells c T' (0,0)):=by rw [hw' b ⟨l,by simp,_,hb,rfl⟩];exact hw
 simp only [execOp,Instr.loadAt,hX,Sem.run_bind,Instr.sureAddr,Sem.run_pure,Result.andThen_ok];rw [WL htb he' (λq=>c.getD (off+q) undef) (λq hq=>Wc hbk (by
  have h1:cs[q]?=some (cs[q]'(by omega)):=gE _;rw [<-hs];exact (gS.1 (hget q _ h1)).1)) hagg]
 rfl
theorem Eff1.sj[htb:TabOk P tb]{α:Type}{T:TypeId}{x y:Operand}{l off m:Nat}{A:AVal}{pre post cs cells cells':List AVal}{enc:α->List AVal}{xs ys:List α}{j:Int}{z z0:α}{e:TE}(ho:o.op=.store T x y)
  (hx:ev Γ x=some (.p l off)) (hoff:off=pre.length+j.toNat*m) (hl:find H l=some (.box cells)) (hcells:cells=pre++((xs.map enc).flatten++post)) (hen:∀y,(enc y).length=m) (hj:idx xs j=some z0)
  (hy:ev Γ y=some A) (hc:A.cells=some cs) (hz:enc z=cs) (he:find tb T=some e) (hn:m=e.n) (h1:ones cs=true) (hd:o.dst=none) (hset:xs.set j.toNat z=ys) (hcells':cells'=pre++((ys.map enc).flatten++post)):
  Eff1 P B Γ H nl o Γ (setH H l (.box cells')) nl (.fx [l] false):=by
 have hm:cs.length=m:=by rw [<-hz];exact hen z
 have hlt:=(Qk hj).2.1;have h0:=(Qk hj).1;have hlt':j.toNat<xs.length:=by omega
 obtain⟨fl1,_⟩:=ZN (n:=m) (enc:=enc) xs (λy _=>hen y);obtain⟨fl1',_⟩:=ZN (n:=m) (enc:=enc) ys (λy _=>hen y);have hle:(j.toNat+1)*m≤xs.length*m:=gB _ hlt';rw [Nat.succ_mul] at hle;have hlen:cells.length=pre.length+xs.length*m+post.length:=by rw [hcells];simp only [List.length_append,fl1];omega
 have hys:ys.length=xs.length:=by rw [<-hset];simp
 have hble:off+cs.length≤cells.length:=by omega
 have key:setCells cells off cs=cells':=by
  apply List.ext_getElem?;intro i;rw [Zu _ _ _ _ hble];by_cases c1:off≤i∧i<off+cs.length
  ·rw [gF c1,hcells'];have e1:i=pre.length+j.toNat*m+(i-off):=by omega
   have hyj:ys[j.toNat]?=some z:=by rw [<-hset,List.getElem?_set_self hlt']
   rw [e1,Q27 hen hyj (by omega),hz];congr 1;omega
  ·rw [gC c1,hcells,hcells'];by_cases c2:i<pre.length
   ·rw [gL c2,gL c2]
   ·by_cases c3:i<pre.length+xs.length*m
    ·have hm0:0<m:=by
      rcases Nat.eq_zero_or_pos m with h | h
      ·subst h;omega
      ·exact h
     have hdm:i-pre.length=(i-pre.length) / m*m+(i-pre.length) % m:=by rw [Nat.mul_comm];exact (Nat.div_add_mod _ _).symm
     have hq:(i-pre.length) % m<m:=Nat.mod_lt _ hm0;have hr:(i-pre.length) / m<xs.length:=by
      rw [Nat.div_lt_iff_lt_mul hm0];omega
     generalize (i-pre.length) / m=r at hdm hr;generalize (i-pre.length) % m=q at hdm hq;have e1:i=pre.length+r*m+q:=by omega
     have hne:r≠j.toNat:=by
      rintro rfl;exact c1 ⟨by omega,by omega⟩
     have hx1:xs[r]?=some (xs[r]'hr):=gE hr;have hy1:ys[r]?=some (xs[r]'hr):=by rw [<-hset,List.getElem?_set_ne (λe=>hne e.symm)];exact hx1
     rw [e1,Q27 hen hx1 hq,Q27 hen hy1 hq]
    ·have a1:∀zs:List α,zs.length=xs.length->(zs.map enc).flatten.length=zs.length*m->(pre++((zs.map enc).flatten++post))[i]?=post[i-pre.length-xs.length*m]?:=λzs hz1 hz2=>by
      rw [gR (by omega),gR (by rw [hz2,hz1];omega),hz2,hz1]
     rw [a1 xs rfl fl1,a1 ys hys fl1']
 rw [<-key];exact Eff1.st ho hx hy hc hl he (by omega) (by rw [Nat.ble_eq];exact hble) h1 hd
end
theorem Rd.sar{P:Program}{B:Base}{tb:Tab}{Γ:Env}{H:Heap}{nl:Nat}{o:Oper}[htb:TabOk P tb]{α:Type}{t:TypeId}{x:Operand}{cells:List AVal}{enc:α->List AVal}{xs:List α}{m len e n' by_:Nat}{zc:List Value}{e':TE}
  (ho:o.op=.slice t x none none none) (hx:ev Γ x=some (.rp cells)) (ht:find tb t=some ⟨.ar len e,n',by_,zc⟩) (he:find tb e=some e') (hm:e'.n=m) (hcells:cells=(xs.map enc).flatten) (hen:∀y,(enc y).length=m) (hl:xs.length=len):
  Rd P B Γ H nl o (.sl m enc xs) none:=λB' hB β F a w hβ hf=>by
 obtain⟨dst,op,ty,pos,af,g⟩:=o;simp only at ho;subst ho;subst hm;obtain⟨d,hd,rfl⟩:=htb.und ht;have hX:=Qf (a:=a) hf.env hx;generalize hv:a.eval x=v at hX;cases hX with
 | ro h=>cases h with
  | rp _ b off f hb hc hr=>
   obtain⟨_,fl2⟩:=ZN (n:=e'.n) (enc:=enc) xs (λy _=>hen y);have hat:∀(i j:Nat) (x:α) (A:AVal),xs[i]?=some x->(enc x)[j]?=some A->cells[i*e'.n+j]?=some A:=λi j x A hx hA=>by
    rw [hcells,fl2 i x hx j (by rw [<-hen x];exact (gS.1 hA).1)];exact hA
   refine⟨.slice (some ⟨b,off,none⟩) xs.length xs.length,.ro (.sl _ _ _ b off _ (λi j=>f (i*e'.n+j)) hb (Nat.le_refl _) (λi x _=>hen x) (λi j x A hx hA=>?_) (λi j x A hx hA=>hr _ _ (hat i j x A hx hA))),λw' _=>?_⟩
   ·have:=hc _ _ (hat i j x A hx hA);rw [<-this,Nat.add_assoc]
   ·subst hl;simp [execOp,Instr.sliceAt,run_underlying hd,hv,Instr.sureAddr,Instr.sliceBounds,htb.size he,Xl]
theorem Rd.fnv{P:Program}{B:Base}{Γ:Env}{H:Heap}{nl:Nat}{o:Oper}{g:Fn}{rl:Option (List Nat)}(h:Rd P B Γ H nl o (.v (.func g #[] #[])) rl):Rd P B Γ H nl o (.fn g [] []) rl:=λB' hB β F a w hβ hf=>by
 obtain⟨v,hv,hr⟩:=h B' hB β F a w hβ hf;have:=hv.v_inv;subst this;exact⟨_,.fn g [] [] #[] #[] rfl (by simp) rfl (by simp),hr⟩
theorem Q5h{P:Program}{ops:Array Oper}{Q:Exit->Act->World->Prop}{S:World->Prop}{z i:Nat}{oi:Oper}{v:Value}(hi:ops[i]?=some oi)(hsel:Region.noSelect ops=true)(hiz:i≠z)
  (hQ:∀c a w,Q (.panic c) (a.put oi.dst v) w->Q (.panic c) a w):
  ∀(fuel:Nat) (listed:Array Bool) (a:Act) (w:World),
   (∀j oj,ops[j]?=some oj->j≠i->listed.getD j true=false->(∀e∈oj.after,Region.binds .any e=true->e.on≠i)->oi.apart ops oj=true) ->
   i∈Region.ready .any ops listed->YieldsIf P ops (λ_=>True) oi v a->(listed.getD z false=false->S w) ->
   QI P ops Q S z fuel (listed.setIfInBounds i true) (a.put oi.dst v) w->QI P ops Q S z (fuel+1) listed a w:=by
 have sel:=Region.noSelect_spec hsel;intro fuel;induction fuel with
 | zero=>
  intro listed a w _ hr hy hS HK;refine⟨λh0=>absurd (h0▸hr) (by simp),λj hj=>?_⟩;by_cases hji:j=i
  ·subst hji;exact hy.wpOp hi trivial ⟨λ_ h=>hS h,HK⟩
  ·have hr2:=ready_mono hj hji;rw [HK.1] at hr2;cases hr2
 | succ fuel ih=>
  intro listed a w hfree hr hy hS HK;refine⟨λh0=>absurd (h0▸hr) (by simp),λj hj=>?_⟩;by_cases hji:j=i
  ·subst hji;exact hy.wpOp hi trivial ⟨λ_ h=>hS h,HK⟩
  ·have step:=HK.2 j (ready_mono hj hji);obtain⟨hun,oj,hoj,hall⟩:=mem_ready.1 hj;have hno:∀e∈oj.after,Region.binds .any e=true->e.on≠i:=λe he hb heq=>by
    have h1:=hall e he hb;have h0:=(mem_ready.1 hr).1;rw [heq] at h1;rcases gH i listed.size with h' | h'
    ·simp [h'] at h0 h1;rw [h0] at h1;cases h1
    ·simp [Array.getElem?_eq_none h'] at h1
   have moved:=wpOp_putIf hoj (hfree j oj hoj hji hun hno) (λcs b=>sel i oi cs b hi) (λcs b=>sel j oj cs b hoj) hQ hy step;refine wpOp_mono (λa' w' h3=>?_) moved;have hfree':∀k ok,ops[k]?=some ok->k≠i->(listed.setIfInBounds j true).getD k true=false ->
     (∀e∈ok.after,Region.binds .any e=true->e.on≠i)->oi.apart ops ok=true:=λk ok hk hki hun' hno'=>by
    refine hfree k ok hk hki ?_ hno';by_cases hjk:j=k
    ·subst hjk;exact hun
    ·rwa [getD_set_ne true hjk] at hun'
   have hS':(listed.setIfInBounds j true).getD z false=false->S w':=λhz=>by
    by_cases hjz:j=z
    ·subst hjz;rcases gH j listed.size with h' | h'
     ·simp [h'] at hz
     ·simp [gA,Array.getElem?_eq_none h'] at hun
    ·rw [getD_set_ne false hjz] at hz;exact h3.2.1 hjz (by rw [getD_set_ne false hiz];exact hz)
   refine⟨λhjz hz=>hS' (by rw [getD_set_ne false hjz];exact hz),ih (listed.setIfInBounds j true) a' w' hfree' (ready_mono hr (Ne.symm hji)) h3.1 hS' ?_⟩;rw [Array.setIfInBounds_comm _ _ hji];exact h3.2.2
section
variable {P:Program} {B:Base} {tb:Tab} {Γ:Env} {H:Heap} {nl:Nat} {o:Oper} {ops:Array Oper} {Q:Exit->Act->World->Prop} {z:Nat} {ws:World} {M':Nat->Prop} {Lp Ms:List Nat} {g:Bool} {fuel:Nat} {listed:Array Bool}
theorem D.hav1{σ:Type}{W:(σ->Prop)->Prop}{p:σ->Prop}(hm:W p){g0:Bool}{Γ0:Env}{H0:Heap}{nl0 f0:Nat}{l0:Array Bool}(g:Bool)(Γ:σ->Env)(H:σ->Heap)(nl fuel:Nat)(listed:Array Bool)
  (h:∀y,p y->StD B ws M' Lp Ms g (Γ y) (H y) nl (QI P ops Q (Kp ws M') z fuel listed))
  (k:(∀y,p y->StD B ws M' Lp Ms g (Γ y) (H y) nl (QI P ops Q (Kp ws M') z fuel listed))->StD B ws M' Lp Ms g0 Γ0 H0 nl0 (QI P ops Q (Kp ws M') z f0 l0)):StD B ws M' Lp Ms g0 Γ0 H0 nl0 (QI P ops Q (Kp ws M') z f0 l0):=k h
theorem D.q0{A:AVal}{d:Nat}(i:Nat)(hQ:Ka Q)(hs:Region.noSelect ops=true)(ho:ops[i]?=some o)(hw:G5 ops Γ o true)(hd:o.dst=some d)(hlt:d.blt B.n=true)(h:Rd P B Γ H nl o A none)
  (hc:(Region.free .any ops listed i&&(Region.ready .any ops listed).contains i&&!(i == z))=true)
  (k:StD B ws M' Lp Ms g ((d,A) :: Γ) H nl (QI P ops Q (Kp ws M') z fuel (listed.setIfInBounds i true))):StD B ws M' Lp Ms g Γ H nl (QI P ops Q (Kp ws M') z (fuel+1) listed):=by
 simp only [gP,Bool.not_eq_true',beq_eq_false_iff_ne] at hc;rintro a w ⟨B',β,F,hx,hβ,hfb,hkp,hLp,hok,hMs,hlp⟩;obtain⟨v,hv,hrun⟩:=h B' hx.n β F a w hβ hfb;refine Q5h (v:=v) ho hs hc.2 (λc a w=>hQ c a w _ _) fuel listed a w (Region.free_spec ho hc.1.1) (by simpa using hc.1.2) (.inl ⟨hw.wanted hfb,λw' hw'=>hrun w' trivial⟩) (λ_=>hkp) ?_;rw [hd];exact k _ _ ⟨B',β,F,hx,hβ,hfb.put (Q3N hx hlt) hv,hkp,hLp,hok,hMs,hlp⟩
end
structure KeyD (P:Program) (e:TypeId) {ε:Type} [DecidableEq ε] (kc:ε->List Value):Prop where
 chk:∀(n:Nat) (b:Bool) (x:ε) (w:World),(Instr.checkKey b (n+2) e (.agg (kc x).toArray)).run P w=.ok () w
 eq:∀(d:Nat) (x y:ε) (w:World),(Op.equalIn (d+2) e (.agg (kc x).toArray) (.agg (kc y).toArray)).run P w=.ok (decide (y=x)) w
 prim:∀x,(kc x).all Q8w=true
section
variable {P:Program} {ε κ:Type} [DecidableEq ε] [DecidableEq κ]
omit [DecidableEq κ] in
theorem KeyD.st{tb:Tab}[htb:TabOk P tb]{e:TypeId}{fs:List (Nat×Nat)}{kc:ε->List Value}(hE:EqT P e fs)(heq:∀x k,eqL tb fs ((kc x).map .v) ((kc k).map .v)=some (decide (k=x)))
  (hfs:fs.all (λf=>match find tb f.2 with | some e=>Q6b e.ti | none=>false)=true) (hlen:∀x,fs.all (λf=>f.1.blt (kc x).length)=true) (hp:∀x,(kc x).all Q8w=true):KeyD P e kc where
 prim:=hp
 eq d x y w:=by
  have:=ZS (d:=d) htb (w0:=w) (ok:=λ_=>True) (β:=[]) (cs:=(kc x).map .v) (ds:=(kc y).map .v) (xs:=(kc x).toArray) (ys:=(kc y).toArray) (zc_dn _) (zc_dn _) w _ hE.hn (by rw [hE.hfs];exact heq x y);rw [run_equalIn_struct w (d+1) e _ _ hE.hf hE.hp];exact this
 chk n b x w:=by
  show (Instr.checkKey b (n+1+1) e _).run P w=_;unfold Instr.checkKey;simp only [Sem.run_bind,run_underlying hE.hf,Result.andThen_ok];rw [<-Array.forIn_toList];have key:∀f,f∈(P.fieldsOf e).toList->(∃e,find tb f.type=some e∧Q6b e.ti=true)∧∃v,(kc x).toArray[f.offset]?=some v:=λf hf=>by
   have hm:(f.offset,f.type)∈fs:=by rw [<-hE.hfs];exact List.mem_map.2 ⟨f,hf,rfl⟩
   have h1:=gT.1 hfs _ hm;have h2:=gT.1 (hlen x) _ hm;refine⟨?_,?_⟩
   ·cases hfd:find tb f.type with
    | none=>simp [hfd] at h1
    | some e=>exact⟨e,rfl,by simpa [hfd] using h1⟩
   ·have:f.offset<(kc x).length:=by simpa [Nat.blt_eq] using h2
    exact⟨(kc x)[f.offset],by simp [this]⟩
  clear heq hfs hlen hE;generalize (P.fieldsOf e).toList=l at key ⊢;induction l with
  | nil=>simp
  | cons f l ih=>
   obtain⟨⟨e,he,hpr⟩,v,hv⟩:=key f (by simp);have ih:=ih (λg hg=>key g (by simp [hg]));have hagg:e.ti.agg=false:=by cases ht:e.ti <;> rw [ht] at hpr <;> simp [Q6b,TI.agg] at hpr ⊢
   have hpart:=GQ htb he hagg hv w;obtain⟨dd,hdd,hfit⟩:=htb.und he;have hck:(Instr.checkKey b (n+1) f.type v).run P w=.ok () w:=by
    unfold Instr.checkKey;simp only [Sem.run_bind,run_underlying hdd,Result.andThen];cases ht:e.ti <;> rw [ht] at hpr hfit <;> simp [Q6b] at hpr <;> simp only [TI.fits] at hfit <;> subst hfit <;> rfl
   simp only [List.forIn_cons,Sem.run_bind,Sem.run_ite];split
   ·simp only [hpart,Result.andThen_ok,hck,Sem.run_pure];exact ih
   ·simp only [Sem.run_pure,Result.andThen_ok];exact ih
omit [DecidableEq ε] in
theorem flatv{kc:ε->List Value}{c:Nat}(hc:∀y,(kc y).length=c):∀(xs:List ε) (i:Nat) (y:ε),xs[i]?=some y->(((xs.map kc).flatten).drop (i*c)).take c=kc y
 | [],i,y,h=>by simp at h
 | x :: xs,0,y,h=>by
  simp at h;subst h;simp only [List.map_cons,List.flatten_cons,Nat.zero_mul,List.drop_zero];rw [List.take_append_of_le_length (by rw [hc];exact Nat.le_refl _),List.take_of_length_le (by rw [hc];exact Nat.le_refl _)]
 | x :: xs,i+1,y,h=>by
  have:=flatv hc xs i y (by simpa using h);simp only [List.map_cons,List.flatten_cons];rw [Nat.succ_mul,List.drop_append,List.drop_of_length_le (by rw [hc];omega),List.nil_append,hc,show i*c+c-c=i*c by omega];exact this
omit [DecidableEq ε] in
theorem Q0B{tb:Tab}(htb:TabOk P tb){e:TypeId}{te:TE}(he:find tb e=some te)(hagg:te.ti.agg=true){kc:ε->List Value}(hc:∀y,(kc y).length=te.n)(xs:List ε){i:Nat}{y:ε}(hy:xs[i]?=some y)(w:World):
  (part e ((xs.map kc).flatten).toArray (i*te.n)).run P w=.ok (.agg (kc y).toArray) w:=by
 have h1:=flatv hc xs i y hy;have hle:i*te.n+te.n≤((xs.map kc).flatten).length:=by
  have:=congrArg List.length h1;rw [List.length_take,List.length_drop,hc] at this;have h0:(0:Nat)≤te.n:=Nat.zero_le _;rcases Nat.eq_zero_or_pos te.n with h | h
  ·rw [h];simp
  ·omega
 have e1:((xs.map kc).flatten).toArray.extract (i*te.n) (i*te.n+te.n)=(kc y).toArray:=by
  rw [<-h1];simp [List.extract_toArray,List.extract_eq_take_drop]
 simp only [part,Sem.run_bind,htb.isAgg he,hagg,Result.andThen_ok,if_true,htb.size he];simp [e1]
theorem KeyT.ar{tb:Tab}[htb:TabOk P tb]{kt e n n' by_:Nat}{zc:List Value}{te:TE}{kε:ε->List Value}(K:KeyD P e kε)(ht:find tb kt=some ⟨.ar n e,n',by_,zc⟩)(he:find tb e=some te)(hagg:te.ti.agg=true)(hc:∀y,(kε y).length=te.n)
  {kc:κ->List Value} {rows:κ->List ε} (hrow:∀x,kc x=((rows x).map kε).flatten) (hn:∀x,(rows x).length=n) (hinj:∀x y,rows x=rows y->x=y):KeyT P kt (λx:κ=>.agg (kc x).toArray):=by
 obtain⟨d0,hu,rfl⟩:=htb.und ht;have hsz:∀w,(sizeOf e).run P w=.ok te.n w:=λw=>htb.size he w
 have heqA:∀(x y:κ) (w:World),(Op.equal kt (.agg (kc x).toArray) (.agg (kc y).toArray)).run P w=.ok (decide (y=x)) w:=λx y w=>by
  have hx:=hn x;have hy:=hn y;have key:∀(is:List Nat),(∀i,i∈is->i<n)->(Op.eqItems 9999 e te.n (kc x).toArray (kc y).toArray is).run P w=.ok (decide (∀i,i∈is->(rows x)[i]?=(rows y)[i]?)) w:=by
   intro is;induction is with
   | nil=>intro _;simp [Op.eqItems]
   | cons i is ih=>
    intro hi;have h0:=hi i (by simp);have e1:(rows x)[i]?=some ((rows x)[i]'(by omega)):=gE _;have e2:(rows y)[i]?=some ((rows y)[i]'(by omega)):=gE _;have p1:=Q0B htb he hagg hc (rows x) e1 w;have p2:=Q0B htb he hagg hc (rows y) e2 w;rw [<-hrow] at p1 p2;have p3:=K.eq 9997 ((rows x)[i]'(by omega)) ((rows y)[i]'(by omega)) w;simp only [Op.eqItems,Sem.run_bind,p1,p2,Result.andThen_ok];rw [show (9999:Nat)=9997+2 from rfl,p3];simp only [Result.andThen_ok];by_cases hab:(rows y)[i]'(by omega)=(rows x)[i]'(by omega)
    ·simp only [hab,decide_true,Bool.not_true,Bool.false_eq_true,if_false];rw [show (9997:Nat)+2=9999 from rfl,ih (λj hj=>hi j (by simp [hj]))];congr 1;simp only [List.mem_cons,forall_eq_or_imp,e1,e2,hab,true_and]
    ·simp only [hab,decide_false,Bool.not_false,if_true,Sem.run_pure];congr 1
     symm
     simp only [decide_eq_false_iff_not];intro h;have:=h i (by simp);rw [e1,e2] at this;exact hab (Option.some.inj this).symm
  obtain⟨i0,hi0⟩:∃i0,P.info? e=some i0:=by
   obtain⟨d1,hd1,_⟩:=htb.und he;exact info_of_underlying hd1
  have hcell:P.cellsOf e=te.n:=by
   have h1:=hsz w;rw [run_sizeOf w hi0] at h1;exact (Result.ok.inj h1).1
  simp only [Op.equal,Op.maxDepth];rw [run_equalIn_array w 9999 _ _ hu hi0,hcell,key (List.range n) (λi hi=>by simpa using hi)];congr 1;rw [decide_eq_decide];constructor
  ·intro h;refine (hinj x y (List.ext_getElem? λi=>?_)).symm;by_cases c:i<n
   ·exact h i (by simpa using c)
   ·rw [gN (by omega),gN (by omega)]
  ·rintro rfl i _;rfl
 refine⟨λb x w=>?_,λx ks es w hE=>?_,λx=>?_⟩
 ·show (Instr.checkKey b (9999+1) kt _).run P w=_;rw [Instr.checkKey];simp only [Sem.run_bind,run_underlying hu,Result.andThen_ok];simp only [Std.Legacy.Range.forIn_eq_forIn_range',Std.Legacy.Range.size,Nat.sub_zero,Nat.add_one_sub_one,Nat.div_one];have each:∀i,i∈List.range' 0 n->i<n:=λi hi=>by rw [List.mem_range'_1] at hi;omega
  generalize List.range' 0 n=is at each;induction is with
  | nil=>simp
  | cons i is ih=>
   have h0:=each i (by simp);have hx:=hn x;have e1:(rows x)[i]?=some ((rows x)[i]'(by omega)):=gE _;have p1:=Q0B htb he hagg hc (rows x) e1 w;rw [<-hrow] at p1;have p2:=K.chk 9997 b ((rows x)[i]'(by omega)) w;simp only [List.forIn_cons,Sem.run_bind,hsz,Result.andThen_ok,p1];rw [show (9999:Nat)=9997+2 from rfl,p2];simp only [Result.andThen_ok,Sem.run_pure];exact ih (λj hj=>each j (by simp [hj]))
 ·have:=Q0f (P:=P) (kt:=kt) (x:=x) (w:=w) (ke:=λx:κ=>.agg (kc x).toArray) (λa=>heqA x a w) ks es 0 hE;rw [Go.run_findKey_eq w (by rw [hu])];rw [this];simp
 ·show Instr.sameBits (9999+1) _ _=true;simp only [Instr.sameBits,beq_self_eq_true,Bool.true_and,gT];intro p hp';have:p.1=p.2∧p.1∈kc x:=by
   obtain⟨i,h1,h2⟩:=List.getElem_of_mem hp';simp at h2;exact⟨by rw [<-h2],by rw [<-h2];simp⟩
  obtain⟨a,c⟩:=p;simp only at this;obtain⟨rfl,hm⟩:=this;rw [hrow] at hm;obtain⟨r,hr,har⟩:=List.mem_flatten.1 hm;obtain⟨y,_,rfl⟩:=List.mem_map.1 hr;exact Q6k _ (gT.1 (K.prim y) _ har)
end
def old(w:World)(b:Nat):Prop:=b<w.heap.size
def Kw(P:Program)(t:TypeId){X:Type}(cs:X->List AVal)(Ok:X->Prop):Prop:=
 ∀{H:Type} (enc:TypeId×Value->H) (w:World) (held:Bool) (fuel:Nat) (cells:List Value) (d:DataW H) (ps:List MemPlace),DataW.trod enc P w 0 (λ_=>true) held fuel t cells=some (d,ps) ->
  ∃x:X,Ok x∧(cs x).length=cells.length∧∀(j:Nat) (A:AVal) (v:Value),(cs x)[j]?=some A->cells[j]?=some v->Ro w (old w) A v
def I64(x:Int):Prop:=-9223372036854775808≤x∧x≤9223372036854775807
def IK(k:IntKind)(x:Int):Prop:=(Lit.int k x).wf=true
def OkS(x:ByteArray):Prop:=x.size≤maxLen
def OkL{X:Type}(Ok:X->Prop)(xs:List X):Prop:=xs.length≤maxLen∧∀x,x∈xs->Ok x
variable {P:Program}
theorem Kw.int{t:TypeId}{k:IntKind}(h:P.underlying t=some (.int k)):Kw P t (λx:Int=>[.v (.int k x)]) (IK k):=λenc w held fuel cells d ps ht=>by
 cases fuel with
 | zero=>simp [DataW.trod] at ht
 | succ fuel=>
  unfold DataW.trod at ht;simp only [h] at ht;split at ht <;> first | (simp at ht;done) | skip
  all_goals try (rename_i e;simp at e;done)
  rename_i k1 k2 n heq;cases heq;split at ht
  ·rename_i hc;obtain⟨rfl,hw⟩:=hc;refine⟨n,hw,rfl,λj A v hA hv=>?_⟩;cases j with
   | zero=>simp at hA hv;subst hA;subst hv;exact .v _
   | succ j=>simp at hA
  ·cases ht
theorem Kw.i64{t:TypeId}(h:P.underlying t=some (.int .i64)):Kw P t (λx:Int=>[.v (.int .i64 x)]) I64:=λenc w held fuel cells d ps ht=>by
 obtain⟨x,hx,r⟩:=Kw.int h enc w held fuel cells d ps ht;refine⟨x,?_,r⟩;unfold IK at hx;simp only [Lit.wf,gP,decide_eq_true_eq] at hx;simpa [IntKind.min,IntKind.max,IntKind.signed,IntKind.bits,I64] using hx
theorem Kw.str{t:TypeId}(h:P.underlying t=some .string):Kw P t (λx:ByteArray=>[.v (.string x)]) OkS:=λenc w held fuel cells d ps ht=>by
 cases fuel with
 | zero=>simp [DataW.trod] at ht
 | succ fuel=>
  unfold DataW.trod at ht;simp only [h] at ht;split at ht <;> first | (simp at ht;done) | skip
  all_goals try (rename_i e;simp at e;done)
  rename_i s _;split at ht
  ·rename_i hs;exact⟨s,hs,rfl,λj A v hA hv=>by
    cases j with
    | zero=>simp at hA hv;subst hA;subst hv;exact .v _
    | succ j=>simp at hA⟩
  ·cases ht
theorem Q36{α β:Type}{f:α->Option β}:∀{l:List α} {r:List β},l.mapM f=some r->l.length=r.length∧∀(i:Nat) (x:α),l[i]?=some x->∃y,r[i]?=some y∧f x=some y
 | [],r,h=>by simp at h;subst h;exact⟨rfl,by simp⟩
 | x :: l,r,h=>by
  rw [List.mapM_cons] at h;simp only [Option.bind_eq_bind,Option.pure_def,Option.bind_eq_some_iff,gJ] at h;obtain⟨y,hy,ys,hys,rfl⟩:=h;obtain⟨h1,h2⟩:=Q36 hys;refine⟨by simp [h1],λi z hz=>?_⟩;cases i with
  | zero=>simp at hz;subst hz;exact⟨y,rfl,hy⟩
  | succ i=>simpa using h2 i z (by simpa using hz)
theorem Q3O{α:Type}{Q:Nat->α->Prop}:∀(n:Nat),(∀i,i<n->∃x,Q i x)->∃xs:List α,xs.length=n∧∀(i:Nat) (x:α),xs[i]?=some x->Q i x
 | 0,_=>⟨[],rfl,by simp⟩
 | n+1,h=>by
  obtain⟨xs,h1,h2⟩:=Q3O n (λi hi=>h i (by omega));obtain⟨x,hx⟩:=h n (by omega);refine⟨xs++[x],by simp [h1],λi y hy=>?_⟩;rcases gH i xs.length with hlt | hge
  ·rw [gL hlt] at hy;exact h2 i y hy
  ·rw [gR hge] at hy;have:i-xs.length=0:=by
    rcases Nat.eq_zero_or_pos (i-xs.length) with e | e
    ·exact e
    ·rw [gN (by simp;omega)] at hy;cases hy
   rw [this] at hy;simp at hy;subst hy;have:i=n:=by omega
   subst this;exact hx
theorem Kw.slice{t e:TypeId}(h:P.underlying t=some (.slice e)){n:Nat}(hn:P.cellsOf e=n)(h0:0<n){X:Type}{cs:X->List AVal}{Ok:X->Prop}(hX:Kw P e cs Ok):
  Kw P t (λxs:List X=>[.sl n cs xs]) (OkL Ok):=λenc w held fuel cells d ps ht=>by
 cases fuel with
 | zero=>simp [DataW.trod] at ht
 | succ fuel=>
  unfold DataW.trod at ht;simp only [h] at ht;split at ht <;> first | (simp at ht;done) | skip
  all_goals try (rename_i e;simp at e;done)
  ·exact⟨[],⟨Nat.zero_le _,by simp⟩,rfl,λj A v hA hv=>by
    cases j with
    | zero=>simp at hA hv;subst hA;subst hv;exact .slNil _ _ _
    | succ j=>simp at hA⟩
  ·rename_i e' a len cap heq;cases heq;rw [hn] at ht;split at ht
   ·rename_i hc;simp only [if_true,Option.bind_eq_some_iff,Option.map_eq_some_iff] at ht;obtain⟨elems,he,rest,hrest,_⟩:=ht;obtain⟨e1,e2⟩:=Q36 he;obtain⟨r1,r2⟩:=Q36 hrest;have hel:∀i,i<len->∃cl,w.cells? 0 (a.add (i*n)) n=some cl∧∃y,DataW.trod enc P w 0 (λ_=>true) held fuel e cl=some y:=λi hi=>by
     obtain⟨y,hy,hf⟩:=e2 i i (by simp [hi]);simp only [Option.bind_eq_some_iff] at hf;obtain⟨cl,h1,h2⟩:=hf;exact⟨cl,h1,y,h2⟩
    have hx:∀i,i<len->∃x:X,Ok x∧(cs x).length=n∧∀(j:Nat) (A:AVal),(cs x)[j]?=some A->∃v,w.cell? ((a.add (i*n)).add j)=some v∧Ro w (old w) A v:=λi hi=>by
     obtain⟨cl,h1,⟨d',ps'⟩,h2⟩:=hel i hi;obtain⟨_,hl,hget⟩:=World.cells?_some h1;obtain⟨x,hok,hlx,hr⟩:=hX enc w held fuel cl d' ps' h2;refine⟨x,hok,by rw [hlx,hl],λj A hA=>?_⟩;have hj:j<n:=by rw [<-hl,<-hlx];exact (gS.1 hA).1
     have hcj:cl[j]?=some (cl[j]'(by omega)):=gE _;exact⟨_,(hget j hj).trans hcj,hr j A _ hA hcj⟩
    obtain⟨xs,hxl,hxs⟩:=Q3O len hx;by_cases hcap:cap=0
    ·subst hcap;have hl0:len=0:=by omega
     subst hl0;have:xs=[]:=List.eq_nil_of_length_eq_zero hxl;subst this;exact⟨[],⟨Nat.zero_le _,by simp⟩,rfl,λj A v hA hv=>by
      cases j with
      | zero=>simp at hA hv;subst hA;subst hv;exact .slNil _ _ _
      | succ j=>simp at hA⟩
    ·-- some place of the row can be read: the address is a plain one
     have hplace:∃v,w.cell? a=some v:=by
      have key:∀cl:List Value,w.cells? 0 (a.add (0*n)) n=some cl->∃v,w.cell? a=some v:=λcl h1=>by
       obtain⟨_,hl,hget⟩:=World.cells?_some h1;have h2:=hget 0 h0;have e1:(a.add (0*n)).add 0=a:=by simp [Addr.add]
       rw [e1] at h2;exact⟨cl[0]'(by omega),h2.trans (gE (by omega))⟩
      rcases Nat.eq_zero_or_pos len with hz | hp
      ·subst hz;obtain⟨y,hy,hf⟩:=r2 0 0 (by rw [gE (by simp;omega)];simp);simp only [Option.bind_eq_some_iff] at hf;obtain⟨cl,h1,h2⟩:=hf;exact key cl (by simpa using h1)
      ·obtain⟨cl,h1,_⟩:=hel 0 hp;exact key cl h1
     obtain⟨v0,hv0⟩:=hplace;have hblk:a.block<w.heap.size:=Q14 hv0;obtain⟨b,off,spot⟩:=a;have hsp:spot=none:=by
      cases spot with
      | none=>rfl
      | some s=>unfold World.cell? at hv0;simp at hv0;split at hv0 <;> simp at hv0
     subst hsp;have hcell:∀(i j:Nat) (x:X) (A:AVal),xs[i]?=some x->(cs x)[j]?=some A->∃v,w.cell? ⟨b,off+i*n+j,none⟩=some v∧Ro w (old w) A v:=λi j x A hx hA=>by
      have:=(hxs i x hx).2.2 j A hA;simpa [Xl] using this
     subst hxl;refine⟨xs,⟨by omega,λx hx=>?_⟩,rfl,λj A v hA hv=>?_⟩
     ·obtain⟨i,hi⟩:=gO hx;exact (hxs i x hi).1
     ·cases j with
      | zero=>
       simp at hA hv;subst hA;subst hv;refine .sl n cs xs b off cap (λi j=>(w.cell? ⟨b,off+i*n+j,none⟩).getD undef) hblk (by omega) (λi x hx=>(hxs i x hx).2.1) (λi j x A hx hA=>?_) (λi j x A hx hA=>?_)
       ·obtain⟨v,h1,h2⟩:=hcell i j x A hx hA;rw [h1];rfl
       ·obtain⟨v,h1,h2⟩:=hcell i j x A hx hA;rw [h1];exact h2
      | succ j=>simp at hA
   ·cases ht
def Cov(w:World)(cells:List Value)(off:Nat)(cs:List AVal):Prop:=∀(j:Nat) (A:AVal) (v:Value),cs[j]?=some A->cells[off+j]?=some v->Ro w (old w) A v
theorem Cov.nil{w:World}{cells:List Value}{off:Nat}:Cov w cells off []:=λj A v h=>by simp at h
theorem Cov.app{w:World}{cells:List Value}{off:Nat}{a b:List AVal}(h1:Cov w cells off a)(h2:Cov w cells (off+a.length) b):Cov w cells off (a++b):=λj A v hA hv=>by
 rcases gH j a.length with hlt | hge
 ·rw [gL hlt] at hA;exact h1 j A v hA hv
 ·rw [gR hge] at hA;exact h2 (j-a.length) A v hA (by rw [<-hv];congr 1;omega)
theorem Kw.st{t:TypeId}{fs:Array Field}(h:P.underlying t=some (.struct fs)){N:Nat}(hN:P.cellsOf t=N){H:Type}{enc:TypeId×Value->H}{w:World}{held:Bool}{fuel:Nat}{cells:List Value}{d:DataW H}{ps:List MemPlace}
  (ht:DataW.trod enc P w 0 (λ_=>true) held fuel t cells=some (d,ps)):∃fuel',cells.length=N∧∀f,f∈fs.toList->∃d' ps',DataW.trod enc P w 0 (λ_=>true) held fuel' f.type ((cells.drop f.offset).take (P.cellsOf f.type))=some (d',ps'):=by
 cases fuel with
 | zero=>simp [DataW.trod] at ht
 | succ fuel=>
  unfold DataW.trod at ht;simp only [h,hN] at ht;split at ht
  ·rename_i hc;simp only [Option.map_eq_some_iff] at ht;obtain⟨xs,hxs,_⟩:=ht;obtain⟨_,h2⟩:=Q36 hxs;refine⟨fuel,hc,λf hf=>?_⟩;obtain⟨i,hi⟩:=gO hf;obtain⟨⟨d',ps'⟩,_,h3⟩:=h2 i f hi;exact⟨d',ps',h3⟩
  ·cases ht
theorem Kw.fld{u:TypeId}{X:Type}{cs:X->List AVal}{Ok:X->Prop}(hX:Kw P u cs Ok){n off:Nat}(hn:P.cellsOf u=n){H:Type}{enc:TypeId×Value->H}{w:World}{held:Bool}{fuel:Nat}{cells:List Value}
  (hle:off+n≤cells.length) (ht:∃d' ps',DataW.trod enc P w 0 (λ_=>true) held fuel u ((cells.drop off).take (P.cellsOf u))=some (d',ps')):∃x,Ok x∧(cs x).length=n∧Cov w cells off (cs x):=by
 obtain⟨d',ps',ht⟩:=ht;rw [hn] at ht;obtain⟨x,hk,hl,hr⟩:=hX enc w held fuel _ d' ps' ht;have hl':(cs x).length=n:=by rw [hl];simp;omega
 refine⟨x,hk,hl',λj A v hA hv=>hr j A v hA ?_⟩;have hj:j<n:=by rw [<-hl'];exact (gS.1 hA).1
 rw [List.getElem?_take,gF hj,List.getElem?_drop];exact hv
end Go.Taq
namespace Go.Taq
open Go
theorem bX{H:Heap}{ρ:List (Option Nat)}{nl:Nat}{fz:Bool}{i l:Nat}{c c':List AVal}(h1:ρ[i]?=some (some l):=by exact rfl)(h:find H l=some (.box c):=by exact rfl)(hc:CsL H ρ nl fz c c':=by exact .eq rfl):∃m,ρ[i]?=some m∧ChkS H ρ nl fz m (.box c'):=⟨_,h1,.box h hc⟩
theorem vL{H:Heap}{ρ:List (Option Nat)}{nl:Nat}{fz:Bool}{i l:Nat}{A:AVal}(h1:ρ[i]?=some (some l):=by exact rfl)(h:find H l=some (.val A):=by exact rfl):∃m,ρ[i]?=some m∧ChkS H ρ nl fz m (.val A):=⟨_,h1,.val h⟩
theorem Wk.e{k:Nat}{Γ Γ':Env}{H:Heap}{nl nl':Nat}(h0:fixed 0 k []=true:=by exact rfl)(h1:([]:List (Option Nat)).length=nl':=by exact rfl)(h2:ChkG H [] nl true Γ Γ':=by exact .eqs rfl):Wk k Γ H nl Γ' [] nl':=Wk.mk' [] h0 h1 h2 trivial rfl
theorem Wk.f{k:Nat}{Γ Γ':Env}{H H':Heap}{nl nl':Nat}(ρ:List (Option Nat))(h3:ChkH H ρ nl true H')(h0:fixed 0 k ρ=true:=by exact rfl)(h1:ρ.length=nl':=by exact rfl)(h2:ChkG H ρ nl true Γ Γ':=by exact .eqs rfl)(h4:ndup (kept ρ H')=true:=by exact rfl):Wk k Γ H nl Γ' H' nl':=Wk.mk' ρ h0 h1 h2 h3 h4
section
variable {P:Program} {B:Base} {tb:Tab} {Γ Γ':Env} {H H':Heap} {nl nl':Nat} {ops:Array Oper} {Q:Exit->Act->World->Prop} {i d z fuel:Nat} {rest:List Nat} {o:Oper} {A:AVal} {c x y:Operand} {b:Bool} {ws:World} {M':Nat->Prop} {Lp Ms:List Nat} {g:Bool} {listed:Array Bool}
theorem U.pk(hb:b=true)(k:St B ((d,A) :: Γ) H nl (wpOps P ops Q rest))(ho:ops[i]?=some o:=by exact rfl)(hg:o.guard=none:=by exact rfl)(hd:o.dst=some d:=by exact rfl)(hlt:d.blt B.n=true:=by exact rfl)(hop:o.op=.pick c x y:=by exact rfl)(hc:ev Γ c=some (.v (.bool b)):=by exact rfl)(hx:ev Γ x=some A:=by exact rfl):St B Γ H nl (wpOps P ops Q (i :: rest)):=U.r ho (.none hg) hd hlt (Rd.pk hop hc hb hx) k
theorem U.pk'(hb:b=false)(k:St B ((d,A) :: Γ) H nl (wpOps P ops Q rest))(ho:ops[i]?=some o:=by exact rfl)(hg:o.guard=none:=by exact rfl)(hd:o.dst=some d:=by exact rfl)(hlt:d.blt B.n=true:=by exact rfl)(hop:o.op=.pick c x y:=by exact rfl)(hc:ev Γ c=some (.v (.bool b)):=by exact rfl)(hx:ev Γ y=some A:=by exact rfl):St B Γ H nl (wpOps P ops Q (i :: rest)):=U.r ho (.none hg) hd hlt (Rd.pk' hop hc hb hx) k
theorem U.pd(k:Nat)[htb:TabOk P tb](kk:St B Γ' H nl (Q .normal)){l:List Nat}(h:Q1i tb ops H B.n none k l Γ=some (Γ',[]):=by exact rfl):St B Γ H nl (wpOps P ops Q l):=U.ps k h (U.done kk)
theorem U.bx{T:TypeId}{cs:List AVal}(k:St B ((d,.p nl 0) :: Γ) ((nl,.box cs) :: H) (nl+1) (wpOps P ops Q rest))(ho:ops[i]?=some o:=by exact rfl)(hg:o.guard=none:=by exact rfl)(hop:o.op=.box T x:=by exact rfl)(hx:ev Γ x=some A:=by exact rfl)(hc:A.cells=some cs:=by exact rfl)(hd:o.dst=some d:=by exact rfl)(hlt:d.blt B.n=true:=by exact rfl):St B Γ H nl (wpOps P ops Q (i :: rest)):=U.e1 ho (.none hg) (Eff1.box hop hx hc hd hlt) k
theorem D.sx(i:Nat)(ch:List Nat)(hQ:Ka Q)(hs:Region.noSelect ops=true)(hw:G5 ops Γ o false)
  (k:StD B ws M' Lp Ms g ((d,.v undef) :: Γ) H nl (QI P ops Q (Kp ws M') z fuel (listed.setIfInBounds i true))) (ho:ops[i]?=some o:=by exact rfl) (hd:o.dst=some d:=by exact rfl) (hlt:d.blt B.n=true:=by exact rfl) (hc:Q06 ops z [(i,ch)] listed=true:=by kernel_rfl):StD B ws M' Lp Ms g Γ H nl (QI P ops Q (Kp ws M') z (fuel+1) listed):=D.sq i ch hQ hs ho hw hd hlt hc k
end
theorem Ka.ng{Q:Exit->Act->World->Prop}(h:Ka Q):Ka (Exit.noGoto Q):=λc a w d v hh=>h c a w d v hh
def idR(n:Nat):List (Option Nat):=(List.range n).map some
def sqR(a n:Nat):List (Option Nat):=(List.range' a n).map some
theorem Wk.a{k:Nat}{Γ Γ':Env}{H H':Heap}{nl nl':Nat}(ρ:List (Option Nat))(h3:ChkH H ρ nl true H':=by repeat (first | exact trivial | refine⟨by first | exact vL | exact bX | exact⟨_,rfl,.nil _ _⟩ | exact bX rfl rfl (by repeat' (first | exact .eq rfl | exact .nil | refine .cons ?_ ?_ | exact .ro rfl | exact .nil _ _ _ _ ⟨rfl,rfl⟩ | exact .nilM _ _ | exact .nilO _ _ ⟨rfl,rfl⟩ rfl | refine .fz rfl rfl rfl ?_ | refine .fzp rfl rfl rfl rfl ?_ rfl | refine .fn ?_ ?_ | refine .agg ?_ | refine .os λ_=>?_ | refine .om λ_=>?_)),?_⟩))(h0:fixed 0 k ρ=true:=by exact rfl)(h1:ρ.length=nl':=by exact rfl)(h2:ChkG H ρ nl true Γ Γ':=by exact .eqs rfl)(h4:ndup (kept ρ H')=true:=by exact rfl):Wk k Γ H nl Γ' H' nl':=Wk.mk' ρ h0 h1 h2 h3 h4
theorem St.wa{B:Base}{Γ Γ':Env}{H H':Heap}{nl nl':Nat}{X:Act->World->Prop}(ρ:List (Option Nat))(j:St B Γ' H' nl' X)(h3:ChkH H ρ nl true H':=by repeat (first | exact trivial | refine⟨by first | exact vL | exact bX | exact⟨_,rfl,.nil _ _⟩ | exact bX rfl rfl (by repeat' (first | exact .eq rfl | exact .nil | refine .cons ?_ ?_ | exact .ro rfl | exact .nil _ _ _ _ ⟨rfl,rfl⟩ | exact .nilM _ _ | exact .nilO _ _ ⟨rfl,rfl⟩ rfl | refine .fz rfl rfl rfl ?_ | refine .fzp rfl rfl rfl rfl ?_ rfl | refine .fn ?_ ?_ | refine .agg ?_ | refine .os λ_=>?_ | refine .om λ_=>?_)),?_⟩))(h0:fixed 0 B.k ρ=true:=by exact rfl)(h1:ρ.length=nl':=by exact rfl)(h2:ChkG H ρ nl true Γ Γ':=by exact .eqs rfl)(h4:ndup (kept ρ H')=true:=by exact rfl):St B Γ H nl X:=St.wk j (Wk.mk' ρ h0 h1 h2 h3 h4)
theorem St.wn{B:Base}{Γ Γ':Env}{H:Heap}{nl nl':Nat}{X:Act->World->Prop}(j:St B Γ' [] nl' X)(h0:fixed 0 B.k []=true:=by exact rfl)(h1:([]:List (Option Nat)).length=nl':=by exact rfl)(h2:ChkG H [] nl true Γ Γ':=by exact .eqs rfl):St B Γ H nl X:=St.wk j (Wk.mk' [] h0 h1 h2 trivial rfl)
theorem C.f9{P:Program}{tb:Tab}{Γ:Env}{H:Heap}{nl:Nat}[htb:TabOk P tb]{fn:Func}{n:Nat}{w0:World}{ok F0:Nat->Prop}{Ψ:AVal->Heap->Nat->Prop}{res:List ResultVar}{rs rs':List AVal}{β0:List Value}(hβ0:β0.length=0)(hΨ:Ψ (.tup rs') [] 0)(hT:tupA rs'=.tup rs':=by exact rfl)(hr:fn.results.toList=res:=by exact rfl)(he:evRs tb Γ H res=some rs:=by exact rfl)(hx:CsL H [] nl true rs rs':=by repeat' (first | exact .eq rfl | exact .nil | refine .cons ?_ ?_ | exact .ro rfl | exact .nil _ _ _ _ ⟨rfl,rfl⟩ | exact .nilM _ _ | exact .nilO _ _ ⟨rfl,rfl⟩ rfl | refine .fz rfl rfl rfl ?_ | refine .fzp rfl rfl rfl rfl ?_ rfl | refine .fn ?_ ?_ | refine .agg ?_ | refine .os λ_=>?_ | refine .om λ_=>?_)):St ⟨n,0,β0,w0,ok,F0,[]⟩ Γ H nl (Wx P fn (RetM w0 ok F0 β0 Ψ) .ret):=
 C.fin (H':=[]) (nl':=0) [] hr he hx trivial rfl rfl rfl rfl hβ0 (hT.symm▸hΨ)
theorem C.f1{P:Program}{tb:Tab}{Γ:Env}{H:Heap}{nl:Nat}[htb:TabOk P tb]{fn:Func}{n:Nat}{w0:World}{ok F0:Nat->Prop}{Ψ:AVal->Heap->Nat->Prop}{res:List ResultVar}{rs:List AVal}{A:AVal}{β0:List Value}(hβ0:β0.length=0)(hΨ:Ψ A [] 0)(hr:fn.results.toList=res:=by exact rfl)(he:evRs tb Γ H res=some rs:=by exact rfl)(hx:CsL H [] nl true rs [A]:=by repeat' (first | exact .eq rfl | exact .nil | refine .cons ?_ ?_ | exact .ro rfl | exact .nil _ _ _ _ ⟨rfl,rfl⟩ | exact .nilM _ _ | exact .nilO _ _ ⟨rfl,rfl⟩ rfl | refine .fz rfl rfl rfl ?_ | refine .fzp rfl rfl rfl rfl ?_ rfl | refine .fn ?_ ?_ | refine .agg ?_ | refine .os λ_=>?_ | refine .om λ_=>?_)):St ⟨n,0,β0,w0,ok,F0,[]⟩ Γ H nl (Wx P fn (RetM w0 ok F0 β0 Ψ) .ret):=
 C.fin (H':=[]) (nl':=0) [] hr he hx trivial rfl rfl rfl rfl hβ0 hΨ
theorem C.fg{P:Program}{tb:Tab}{Γ:Env}{H H':Heap}{nl nl' k:Nat}(ρ:List (Option Nat))[htb:TabOk P tb]{fn:Func}{n:Nat}{w0:World}{ok F0:Nat->Prop}{Ψ:AVal->Heap->Nat->Prop}{res:List ResultVar}{rs rs':List AVal}{β0:List Value}(hβ0:β0.length=k)(hΨ:Ψ (.tup rs') H' nl')(hT:tupA rs'=.tup rs':=by exact rfl)(hr:fn.results.toList=res:=by exact rfl)(he:evRs tb Γ H res=some rs:=by exact rfl)(hx:CsL H ρ nl true rs rs':=by repeat' (first | exact .eq rfl | exact .nil | refine .cons ?_ ?_ | exact .ro rfl | exact .nil _ _ _ _ ⟨rfl,rfl⟩ | exact .nilM _ _ | exact .nilO _ _ ⟨rfl,rfl⟩ rfl | refine .fz rfl rfl rfl ?_ | refine .fzp rfl rfl rfl rfl ?_ rfl | refine .fn ?_ ?_ | refine .agg ?_ | refine .os λ_=>?_ | refine .om λ_=>?_))(hH:ChkH H ρ nl true H':=by repeat (first | exact trivial | refine⟨by first | exact vL | exact bX | exact⟨_,rfl,.nil _ _⟩ | exact bX rfl rfl (by repeat' (first | exact .eq rfl | exact .nil | refine .cons ?_ ?_ | exact .ro rfl | exact .nil _ _ _ _ ⟨rfl,rfl⟩ | exact .nilM _ _ | exact .nilO _ _ ⟨rfl,rfl⟩ rfl | refine .fz rfl rfl rfl ?_ | refine .fzp rfl rfl rfl rfl ?_ rfl | refine .fn ?_ ?_ | refine .agg ?_ | refine .os λ_=>?_ | refine .om λ_=>?_)),?_⟩))(hn:ndup (kept ρ H')=true:=by exact rfl)(h0:fixed 0 k ρ=true:=by exact rfl)(hρ:ρ.length=nl':=by exact rfl)(hcov:Q51 H' k (nl'-k)=true:=by exact rfl):St ⟨n,k,β0,w0,ok,F0,[]⟩ Γ H nl (Wx P fn (RetM w0 ok F0 β0 Ψ) .ret):=
 C.fin ρ hr he hx hH hn h0 hρ hcov hβ0 (hT.symm▸hΨ)
theorem C.g1{P:Program}{tb:Tab}{Γ:Env}{H H':Heap}{nl nl' k:Nat}(ρ:List (Option Nat))[htb:TabOk P tb]{fn:Func}{n:Nat}{w0:World}{ok F0:Nat->Prop}{Ψ:AVal->Heap->Nat->Prop}{res:List ResultVar}{rs:List AVal}{A:AVal}{β0:List Value}(hβ0:β0.length=k)(hΨ:Ψ A H' nl')(hr:fn.results.toList=res:=by exact rfl)(he:evRs tb Γ H res=some rs:=by exact rfl)(hx:CsL H ρ nl true rs [A]:=by repeat' (first | exact .eq rfl | exact .nil | refine .cons ?_ ?_ | exact .ro rfl | exact .nil _ _ _ _ ⟨rfl,rfl⟩ | exact .nilM _ _ | exact .nilO _ _ ⟨rfl,rfl⟩ rfl | refine .fz rfl rfl rfl ?_ | refine .fzp rfl rfl rfl rfl ?_ rfl | refine .fn ?_ ?_ | refine .agg ?_ | refine .os λ_=>?_ | refine .om λ_=>?_))(hH:ChkH H ρ nl true H':=by repeat (first | exact trivial | refine⟨by first | exact vL | exact bX | exact⟨_,rfl,.nil _ _⟩ | exact bX rfl rfl (by repeat' (first | exact .eq rfl | exact .nil | refine .cons ?_ ?_ | exact .ro rfl | exact .nil _ _ _ _ ⟨rfl,rfl⟩ | exact .nilM _ _ | exact .nilO _ _ ⟨rfl,rfl⟩ rfl | refine .fz rfl rfl rfl ?_ | refine .fzp rfl rfl rfl rfl ?_ rfl | refine .fn ?_ ?_ | refine .agg ?_ | refine .os λ_=>?_ | refine .om λ_=>?_)),?_⟩))(hn:ndup (kept ρ H')=true:=by exact rfl)(h0:fixed 0 k ρ=true:=by exact rfl)(hρ:ρ.length=nl':=by exact rfl)(hcov:Q51 H' k (nl'-k)=true:=by exact rfl):St ⟨n,k,β0,w0,ok,F0,[]⟩ Γ H nl (Wx P fn (RetM w0 ok F0 β0 Ψ) .ret):=
 C.fin ρ hr he hx hH hn h0 hρ hcov hβ0 hΨ
theorem U.k{P:Program}{B:Base}{Γ:Env}{H:Heap}{nl i:Nat}{rest:List Nat}{ops:Array Oper}{Q:Exit->Act->World->Prop}{o:Oper}{f:FuncId}{g:Operand}{args:Array Operand}{ts:Array TypeId}{fs cs ar As:List AVal}{σ:Type}{post:σ->Prop}{R:σ->AVal}{H2:σ->Heap}{k2:Nat}{d:Option Nat}
  (htr:Tr P f As [] 0 (λA H' k=>∃y,post y∧A=R y∧H'=H2 y∧k=k2)) (hen:Zb P f) (k:∀y,post y->St B (putG d ((R y).ml (clab [] nl)) Γ) (mlH (clab [] nl) (H2 y)++Q1f [] H) (nl+k2) (wpOps P ops Q rest))
  (hi:ops[i]?=some o:=by exact rfl) (hw:G5 ops Γ o true:=by exact .none rfl) (ho:o.op=.call ⟨.value g,args,ts⟩:=by exact rfl) (hg:ev Γ g=some (.fn (.func f) fs cs):=by exact rfl) (has:evs Γ args.toList=some ar:=by exact rfl) (hcs:CsL H [] nl true (fs++(ar++cs)) As:=by repeat' (first | exact .eq rfl | exact .nil | refine .cons ?_ ?_ | exact .ro rfl | exact .nil _ _ _ _ ⟨rfl,rfl⟩ | exact .nilM _ _ | exact .nilO _ _ ⟨rfl,rfl⟩ rfl | refine .fz rfl rfl rfl ?_ | refine .fzp rfl rfl rfl rfl ?_ rfl | refine .fn ?_ ?_ | refine .agg ?_ | refine .os λ_=>?_ | refine .om λ_=>?_))
  (hv:true=true->∀y,NoSl (R y)∧Q5B (H2 y):=by intro _ _;refine⟨?_,?_⟩ <;> repeat' (first | exact trivial | intro _ | constructor)) (hnd:ndup (H.map (·.1))=true:=by exact rfl) (hd:o.dst=d:=by exact rfl) (hlt:dlt d B.n=true:=by exact rfl):St B Γ H nl (wpOps P ops Q (i :: rest)):=
 U.e hi hw (Eff.c (m:=.any) [] (v:=true) htr hen ho hg has hcs trivial rfl rfl rfl hnd hd hlt hv (.inl rfl) (λ_=>rfl) (λ_=>rfl) rfl) (λy hy=>k y.down hy)
theorem U.c{P:Program}{B:Base}{Γ:Env}{H:Heap}{nl i:Nat}{rest:List Nat}{ops:Array Oper}{Q:Exit->Act->World->Prop}{o:Oper}{f:FuncId}{g:Operand}{args:Array Operand}{ts:Array TypeId}{fs cs ar As:List AVal}{H1:Heap}{nl1:Nat}(ρ:List (Option Nat)){σ:Type}{post:σ->Prop}{R:σ->AVal}{H2:σ->Heap}{k2:Nat}{d:Option Nat}
  (htr:Tr P f As H1 nl1 (λA H' k=>∃y,post y∧A=R y∧H'=H2 y∧k=k2)) (hen:Zb P f) (k:∀y,post y->St B (putG d ((R y).ml (clab ρ nl)) Γ) (mlH (clab ρ nl) (H2 y)++Q1f ρ H) (nl+k2) (wpOps P ops Q rest))
  (hi:ops[i]?=some o:=by exact rfl) (hw:G5 ops Γ o true:=by exact .none rfl) (ho:o.op=.call ⟨.value g,args,ts⟩:=by exact rfl) (hg:ev Γ g=some (.fn (.func f) fs cs):=by exact rfl) (has:evs Γ args.toList=some ar:=by exact rfl) (hcs:CsL H ρ nl false (fs++(ar++cs)) As:=by repeat' (first | exact .eq rfl | exact .nil | refine .cons ?_ ?_ | exact .ro rfl | exact .nil _ _ _ _ ⟨rfl,rfl⟩ | exact .nilM _ _ | exact .nilO _ _ ⟨rfl,rfl⟩ rfl | refine .fz rfl rfl rfl ?_ | refine .fzp rfl rfl rfl rfl ?_ rfl | refine .fn ?_ ?_ | refine .agg ?_ | refine .os λ_=>?_ | refine .om λ_=>?_))
  (hH:ChkH H ρ nl false H1:=by repeat (first | exact trivial | refine⟨by first | exact vL | exact bX | exact⟨_,rfl,.nil _ _⟩ | exact bX rfl rfl (by repeat' (first | exact .eq rfl | exact .nil | refine .cons ?_ ?_ | exact .ro rfl | exact .nil _ _ _ _ ⟨rfl,rfl⟩ | exact .nilM _ _ | exact .nilO _ _ ⟨rfl,rfl⟩ rfl | refine .fz rfl rfl rfl ?_ | refine .fzp rfl rfl rfl rfl ?_ rfl | refine .fn ?_ ?_ | refine .agg ?_ | refine .os λ_=>?_ | refine .om λ_=>?_)),?_⟩)) (hρ:ρ.length=nl1:=by exact rfl) (hρv:ρ.all (λm=>match m with | some m=>m.blt nl | none=>true)=true:=by exact rfl) (hk1:ndup (kept ρ H1)=true:=by exact rfl) (hnd:ndup (H.map (·.1))=true:=by exact rfl) (hd:o.dst=d:=by exact rfl) (hlt:dlt d B.n=true:=by exact rfl):St B Γ H nl (wpOps P ops Q (i :: rest)):=
 U.e hi hw (Eff.c (m:=.any) ρ (v:=false) htr hen ho hg has hcs hH hρ hρv hk1 hnd hd hlt (λh=>by cases h) (.inl rfl) (λ_=>rfl) (λ_=>rfl) rfl) (λy hy=>k y.down hy)
theorem D.k{P:Program}{B:Base}{Γ:Env}{H:Heap}{nl z fuel:Nat}{ws:World}{M':Nat->Prop}{Lp Ms:List Nat}{g0:Bool}{listed:Array Bool}{ops:Array Oper}{Q:Exit->Act->World->Prop}{o:Oper}{f:FuncId}{g:Operand}{args:Array Operand}{ts:Array TypeId}{fs cs ar As:List AVal}{σ:Type}{post:σ->Prop}{R:σ->AVal}{H2:σ->Heap}{k2:Nat}{d:Option Nat}(i:Nat)
  (htr:Tr P f As [] 0 (λA H' k=>∃y,post y∧A=R y∧H'=H2 y∧k=k2)) (hen:Zb P f) (k:∀y,post y->StD B ws M' Lp Ms (g0||!true) (putG d ((R y).ml (clab [] nl)) Γ) (mlH (clab [] nl) (H2 y)++Q1f [] H) (nl+k2) (QI P ops Q (Kp ws M') z fuel (listed.setIfInBounds i true)))
  (hi:ops[i]?=some o:=by exact rfl) (hw:G5 ops Γ o true:=by exact .none rfl) (ho:o.op=.call ⟨.value g,args,ts⟩:=by exact rfl) (hg:ev Γ g=some (.fn (.func f) fs cs):=by exact rfl) (has:evs Γ args.toList=some ar:=by exact rfl) (hcs:CsL H [] nl true (fs++(ar++cs)) As:=by repeat' (first | exact .eq rfl | exact .nil | refine .cons ?_ ?_ | exact .ro rfl | exact .nil _ _ _ _ ⟨rfl,rfl⟩ | exact .nilM _ _ | exact .nilO _ _ ⟨rfl,rfl⟩ rfl | refine .fz rfl rfl rfl ?_ | refine .fzp rfl rfl rfl rfl ?_ rfl | refine .fn ?_ ?_ | refine .agg ?_ | refine .os λ_=>?_ | refine .om λ_=>?_))
  (hv:true=true->∀y,NoSl (R y)∧Q5B (H2 y):=by intro _ _;refine⟨?_,?_⟩ <;> repeat' (first | exact trivial | intro _ | constructor)) (hnd:ndup (H.map (·.1))=true:=by exact rfl) (hd:o.dst=d:=by exact rfl) (hlt:dlt d B.n=true:=by exact rfl) (hr:Region.ready .any ops listed=[i]:=by kernel_rfl) (hiz:i.beq z=false:=by exact rfl):StD B ws M' Lp Ms g0 Γ H nl (QI P ops Q (Kp ws M') z (fuel+1) listed):=
 D.e i hi hw (Eff.c (m:=.fx [] (!true)) [] (v:=true) htr hen ho hg has hcs trivial rfl rfl rfl hnd hd hlt hv (.inr ⟨rfl,rfl⟩) (λ_=>rfl) (λ_=>rfl) rfl) hr hiz rfl (λy hy=>k y.down hy)
theorem Eff.k{P:Program}{B:Base}{Γ:Env}{H:Heap}{nl:Nat}{o:Oper}{f:FuncId}{g:Operand}{args:Array Operand}{ts:Array TypeId}{fs cs ar As:List AVal}{σ:Type}{post:σ->Prop}{R:σ->AVal}{H2 H3:σ->Heap}{k2 nl':Nat}{d:Option Nat}{Γ':σ->Env}{m:EM}
  (htr:Tr P f As [] 0 (λA H' k=>∃y,post y∧A=R y∧H'=H2 y∧k=k2)) (hen:Zb P f) (ho:o.op=.call ⟨.value g,args,ts⟩) (hg:ev Γ g=some (.fn (.func f) fs cs)) (has:evs Γ args.toList=some ar) (hcs:CsL H [] nl true (fs++(ar++cs)) As)
  (hv:true=true->∀y,NoSl (R y)∧Q5B (H2 y)) (hnd:ndup (H.map (·.1))=true:=by exact rfl) (hd:o.dst=d:=by exact rfl) (hlt:dlt d B.n=true:=by exact rfl) (hm:m=.any∨(([]:List (Option Nat))=[]∧m=.fx [] (!true)):=by exact .inr ⟨rfl,rfl⟩) (hΓ:∀y,putG d ((R y).ml (clab [] nl)) Γ=Γ' y:=by exact λ_=>rfl) (hH3:∀y,mlH (clab [] nl) (H2 y)++Q1f [] H=H3 y:=by exact λ_=>rfl) (hnl:nl+k2=nl':=by exact rfl):
  Eff (ι:=ULift σ) P B Γ H nl o (λy=>post y.down) (λy=>Γ' y.down) (λy=>H3 y.down) (λ_=>nl') m:=
 Eff.c [] (v:=true) htr hen ho hg has hcs trivial rfl rfl rfl hnd hd hlt hv hm hΓ hH3 hnl
def SWOc{α:Type}(cf:α->α->Int):Prop:=(∀x,¬cf x x<0)∧(∀x y z,cf x y<0->cf y z<0->cf x z<0)∧(∀x y z,¬cf x y<0->¬cf y z<0->¬cf x z<0)
section
variable {P:Program} {B:Base} {tb:Tab} {Γ:Env} {H:Heap} {nl:Nat} {o:Oper}
theorem Rd.vw[htb:TabOk P tb]{α:Type}{t:TypeId}{x:Operand}{low high:Option Operand}{l n:Nat}{enc:α->List AVal}{xs:List α}{e n' by_:Nat}{zc:List Value}{e':TE}{lo hi:Int}
  (ho:o.op=.slice t x low high none) (hx:ev Γ x=some (.o l)) (hl:find H l=some (.val (.os n enc xs))) (ht:find tb t=some ⟨.sl e,n',by_,zc⟩) (he:find tb e=some e') (hn:e'.n=n) (hlo:Bd Γ low 0 lo) (hhi:Bd Γ high xs.length hi) (hb:0≤lo∧lo≤hi∧hi≤(xs.length:Int)):
  Rd P B Γ H nl o (.vw l n lo.toNat (hi-lo).toNat) none:=λB hB β F a w hβ hf=>by
 obtain⟨dst,op,ty,pos,af,g⟩:=o;simp only at ho;subst ho;subst hn;obtain⟨F0,hF0,v,hv,hon⟩:=hf.heap.get hl;have hX:=(Qf (a:=a) hf.env hx).o_inv;rw [hv] at hX;have hX:=Option.some.inj hX;obtain⟨dd,hdd,rfl⟩:=htb.und ht;generalize hn2:AVal.os e'.n enc xs=A at hon;cases hon with
 | ro F h=>subst hn2;cases h
 | arr=>cases hn2
 | om=>cases hn2
 | osNil n2 enc2 F p=>
  cases hn2;have h0:lo=0:=by simp at hb;omega
  have h1:hi=0:=by simp at hb;omega
  subst h0;subst h1;refine⟨.slice p 0 0,.vw _ _ _ _ _ (.inl ⟨rfl,p,0,rfl⟩),λw' _=>?_⟩;have hrun:=YY (P:=P) (w:=w') hf.env (len:=0) (cap:=0) hlo hhi hb (Nat.le_refl _);simp [execOp,Instr.sliceAt,Instr.slice,run_underlying hdd,<-hX,hrun,htb.size he]
 | os n2 enc2 xs2 b off cap c T F G hbF hw hlen2 hcap hn3 hG hd' hr=>
  cases hn2;have hm:lo.toNat≤cap:=by omega
  refine⟨.slice (some (if cap=lo.toNat then ⟨b,off,none⟩ else ⟨b,off+lo.toNat*e'.n,none⟩)) (hi.toNat-lo.toNat) (cap-lo.toNat),.vw _ _ _ _ _ ?_,λw' _=>?_⟩
  ·have e1:hi.toNat-lo.toNat=(hi-lo).toNat:=by omega
   rw [e1];rcases Nat.eq_zero_or_pos (hi-lo).toNat with h0 | h0
   ·rw [h0];exact .inl ⟨rfl,_,_,rfl⟩
   ·rw [gC (by omega)];exact .inr ⟨h0,b,off,xs.length,cap,by rw [hv],by omega,rfl⟩
  ·have hrun:=YY (P:=P) (w:=w') hf.env (len:=xs.length) (cap:=cap) hlo hhi hb hlen2;simp [execOp,Instr.sliceAt,Instr.slice,run_underlying hdd,<-hX,hrun,htb.size he];split <;> simp [Xl]
theorem Rd.vl[htb:TabOk P tb]{t:TypeId}{x:Operand}{l n i m e n' by_:Nat}{zc:List Value}(ho:o.op=.call ⟨.builtin .len,#[x],#[t]⟩)(hx:ev Γ x=some (.vw l n i m))(ht:find tb t=some ⟨.sl e,n',by_,zc⟩):
  Rd P B Γ H nl o (.v (.int .i64 (m:Int))) none:=λB hB β F a w hβ hf=>by
 obtain⟨dst,op,ty,pos,af,g⟩:=o;simp only at ho;subst ho;have hX:=(Qf (a:=a) hf.env hx).vw_inv;obtain⟨dd,hdd,rfl⟩:=htb.und ht;refine⟨_,.ro (.v _),λw' _=>?_⟩;rcases hX with ⟨h0,p,c,hv⟩ | ⟨h0,b,o',len,cap,h1,h2,hv⟩
 ·subst h0;simp [execOp,resolve,invoke,builtin,hv,Builtin.len_,Builtin.lenOf,run_underlying hdd,goInt]
 ·simp [execOp,resolve,invoke,builtin,hv,Builtin.len_,Builtin.lenOf,run_underlying hdd,goInt]
theorem Rd.vi[htb:TabOk P tb]{t:TypeId}{x i:Operand}{l n i0 m:Nat}{k:IntKind}{j:Int}{e n' by_:Nat}{zc:List Value}{e':TE}
  (ho:o.op=.indexAddr t x i) (hx:ev Γ x=some (.vw l n i0 m)) (hi:ev Γ i=some (.v (.int k j))) (ht:find tb t=some ⟨.sl e,n',by_,zc⟩) (he:find tb e=some e') (hn:e'.n=n) (hj:0≤j∧j<(m:Int)):
  Rd P B Γ H nl o (.ep l n (i0+j.toNat) 0) none:=λB hB β F a w hβ hf=>by
 obtain⟨dst,op,ty,pos,af,g⟩:=o;simp only at ho;subst ho;subst hn;have hX:=(Qf (a:=a) hf.env hx).vw_inv;have hI:=(Qf (a:=a) hf.env hi).v_inv;obtain⟨d,hd,rfl⟩:=htb.und ht;rcases hX with ⟨h0,p,c,hv⟩ | ⟨h0,b,o',len,cap,h1,h2,hv⟩
 ·omega
 ·refine⟨_,.ep l e'.n (i0+j.toNat) 0 b o' len cap h1,λw' _=>?_⟩;have e1:o'+i0*e'.n+j.toNat*e'.n=o'+(i0+j.toNat)*e'.n:=by rw [Nat.add_mul];omega
  simp [execOp,Instr.indexAt,hI,asIntOf,run_underlying hd,hv,hj.1,hj.2,htb.size he,Xl,e1]
theorem Eff1.clv[htb:TabOk P tb]{α:Type}{t:TypeId}{x:Operand}{l n i m:Nat}{enc:α->List AVal}{xs:List α}{z0:α}{e n' by_:Nat}{zc:List Value}{e':TE}(ho:o.op=.call ⟨.builtin .clear,#[x],#[t]⟩)(hx:ev Γ x=some (.vw l n i m))(hl:find H l=some (.val (.os n enc xs)))
  (ht:find tb t=some ⟨.sl e,n',by_,zc⟩) (he:find tb e=some e') (hn:e'.n=n) (hz:enc z0=e'.zc.map AVal.v) (hflat:∀x,(enc x).all AVal.isRo=true) (hd:o.dst=none) (hm:i+m≤xs.length):
  Eff1 P B Γ H nl o Γ (setH H l (.val (.os n enc (xs.take i++(List.replicate m z0++xs.drop (i+m)))))) nl (.fx [l] false):=Eff1.of_value λB hB β F a w hβ hf=>by
 obtain⟨dst,op,ty,pos,af,g⟩:=o;simp only at ho hd;subst ho;subst hd;subst hn;have hX:=(Qf (a:=a) hf.env hx).vw_inv;obtain⟨dd,hdd,rfl⟩:=htb.und ht;obtain⟨zv,hzv,hzc,_,hzl,hz1⟩:=htb.zero he;obtain⟨F1,hF1,⟨v,hv,hon⟩,hset⟩:=hf.heap.set hl;rcases hX with ⟨h0,p,c,hxv⟩ | ⟨h0,b',o',len,cap',h1,h2,hxv⟩
 ·subst h0;have e1:xs.take i++(List.replicate 0 z0++xs.drop (i+0))=xs:=by simp
  rw [e1];refine⟨.tuple #[],w,β,F,?_,hβ,λ_ _ h=>h,λl x b hl hx _=>?_,⟨hf.kp,hf.ok,hf.own,hset _ _ (λ_ _ _ _=>rfl) ⟨v,hv,hon⟩,hf.env,by simpa [Act.put] using hf.size,hf.defers,hf.pre⟩,.refl _ _⟩
  ·cases p <;> simp [execOp,resolve,invoke,builtin,hxv,Builtin.clear_,run_underlying hdd]
  ·rw [gN (by omega)] at hx;cases hx
 ·rw [hv] at h1;cases h1;have hfl:=hon.flat_of (λx A h=>gT.1 (hflat x) A h);generalize hvv:Value.slice (some ⟨b',o',none⟩) len cap'=v at hfl;cases hfl with
  | nil p h=>cases hvv;omega
  | row b off2 cap c T' hFb hw hlen hcap hnn hr=>
   cases hvv;have hzs:zv.cells.size=e'.n:=by rw [<-hzl,<-hzc];simp
   generalize hvs:(Builtin.zeroCells zv.cells m).toList=vs;have hvl:vs.length=m*e'.n:=by rw [<-hvs];simp [size_zeroCells,hzs]
   have hvk:∀k,vs[k]?=if k<m*e'.n then some (zv.cells[k % e'.n]!) else none:=λk=>by
    rw [<-hvs];simp only [Builtin.zeroCells,Array.getElem?_toList,Array.getElem?_map,hzs];by_cases hk:k<m*e'.n
    ·rw [gF hk,Array.getElem?_range];simp [hk]
    ·rw [gC hk,Array.getElem?_eq_none (by simpa using hk)];rfl
   have hzr:∀r,r<e'.n->zv.cells[r]! = e'.zc.getD r undef:=λr hr=>by
    rw [<-hzc,getElem!_pos zv.cells r (by omega),gD,gE (by simp;omega)];simp
   have hvg:∀(q r:Nat),q<m->r<e'.n->vs[q*e'.n+r]?=some (e'.zc.getD r undef):=λq r hq hr=>by
    have hlt:q*e'.n+r<m*e'.n:=by
     have:(q+1)*e'.n≤m*e'.n:=gB _ hq;rw [Nat.succ_mul] at this;omega
    rw [hvk,gF hlt];have e2:(q*e'.n+r) % e'.n=r:=by rw [Nat.add_comm,Nat.add_mul_mod_self_right,Nat.mod_eq_of_lt hr]
    rw [e2,hzr r hr]
   have hone':∀v∈vs,v.oneCell'=true:=λv hv=>by
    obtain⟨q,hq⟩:=gO hv;rw [hvk] at hq;split at hq
    ·rename_i hlt;have hpos:0<e'.n:=by
      rcases Nat.eq_zero_or_pos e'.n with h | h
      ·rw [h] at hlt;simp at hlt
      ·exact h
     have hr:=Nat.mod_lt q hpos;rw [hzr _ hr] at hq;cases hq;rw [gD,gE (by omega)];exact hz1 _ (List.getElem_mem _)
    ·cases hq
   have hie:o'+i*e'.n+vs.length≤c.size:=by
    rw [hvl];have:(i+m)*e'.n≤cap'*e'.n:=gB _ (by omega);rw [Nat.add_mul] at this;omega
   have hst:=run_storeCells_at (P:=P) b' (o'+i*e'.n) T' vs 0 c w hw (by simpa using hie) hone';simp only [Nat.add_zero] at hst;generalize hc2:(c.toList.take (o'+i*e'.n)++vs++c.toList.drop (o'+i*e'.n+vs.length)).toArray=c2 at hst;have hc2s:c2.size=c.size:=by rw [<-hc2];simp only [List.size_toArray,List.length_append,List.length_take,List.length_drop,Array.length_toList];omega
   have hrow:=setRow_heap w b' c c2 T' (0,0) hw;have hhd:Mod β [l] b':=⟨l,by simp,_,hv,by obtain⟨k,rfl⟩:∃k,cap'=k+1:=⟨cap'-1,by omega⟩;rfl⟩;have hk:=GY w b' c2 (λx=>x=b') rfl;have hM:∀x,x=b'->x<B.w0.heap.size->B.M x:=λx hx hlt'=>by subst hx;exact (hf.own x (hF1 x hFb)).2 hlt'
   have hxl:(xs.take i++(List.replicate m z0++xs.drop (i+m))).length=xs.length:=by simp;omega
   have hget:∀p u,(xs.take i++(List.replicate m z0++xs.drop (i+m)))[p]?=some u->(p<i∧xs[p]?=some u)∨(i≤p∧p<i+m∧u=z0)∨(i+m≤p∧xs[p]?=some u):=λp u hu=>by
    have hti:(xs.take i).length=i:=by simp;omega
    rcases gH p i with h | h
    ·rw [gL (by omega),List.getElem?_take,gF h] at hu;exact .inl ⟨h,hu⟩
    ·rw [gR (by omega),hti] at hu;rcases gH p (i+m) with h' | h'
     ·rw [gL (by simp;omega),List.getElem?_replicate,gF (by omega)] at hu;exact .inr (.inl ⟨h,h',(Option.some.inj hu).symm⟩)
     ·rw [gR (by simp;omega),List.length_replicate,List.getElem?_drop] at hu;have e3:i+m+(p-i-m)=p:=by omega
      rw [e3] at hu;exact .inr (.inr ⟨h',hu⟩)
   have hzlen:(enc z0).length=e'.n:=by rw [hz];simpa using hzl
   refine⟨.tuple #[],w.setRow b' c2,β,F,?_,hβ,λ_ _ h=>h,λl x b hl hx _=>?_,⟨hf.kp.trans hk hM,hf.ok,λb hb=>by have:=hf.own b hb;exact⟨by simpa using this.1,this.2⟩,hset _ _ (λb'' hb hn hlt=>setRow_other w b' b'' c2 (λe=>hn (e▸hFb))) ⟨_,hv,?_⟩,hf.env,by simpa [Act.put] using hf.size,hf.defers,hf.pre⟩,GY w b' c2 _ hhd⟩
   ·obtain⟨m',rfl⟩:∃m',m=m'+1:=⟨m-1,by omega⟩;simp only [execOp,resolve,invoke,builtin,Sem.run_bind,Sem.run_pure,Result.andThen_ok];simp [hxv,Builtin.clear_,run_underlying hdd,hzv,hvs,hst]
   ·rw [gN (by omega)] at hx;cases hx
   ·have:=On.flat (w0:=B.w0) (ok:=B.ok) (enc:=enc) (n:=e'.n) (xs:=xs.take i++(List.replicate m z0++xs.drop (i+m))) (off:=o') (cap:=cap') (c:=c2) (F:=F1) hFb hrow (by rw [hxl];exact hlen) (by rw [hc2s];exact hcap) (λp u hu=>?_) (λp j u A hu hA=>?_)
    ·rw [hxl] at this;exact this
    ·rcases hget p u hu with h | h | h
     ·exact hnn p u h.2
     ·rw [h.2.2];exact hzlen
     ·exact hnn p u h.2
    ·have hj:j<e'.n:=by
      have:=(gS.1 hA).1;rcases hget p u hu with h | h | h
      ·rw [hnn p u h.2] at this;exact this
      ·rw [h.2.2,hzlen] at this;exact this
      ·rw [hnn p u h.2] at this;exact this
     rw [<-hc2,Yw _ _ _ hie,hvl];rcases hget p u hu with h | h | h
     ·rw [gC]
      ·exact hr p j u A h.2 hA
      ·have:(p+1)*e'.n≤i*e'.n:=gB _ (by omega);rw [Nat.succ_mul] at this;omega
     ·obtain⟨h4,h5,rfl⟩:=h;have h6:i*e'.n≤p*e'.n:=gB _ h4;have h7:(p+1)*e'.n≤(i+m)*e'.n:=gB _ h5;rw [Nat.succ_mul,Nat.add_mul] at h7;rw [gF (by omega)];have e4:o'+p*e'.n+j-(o'+i*e'.n)=(p-i)*e'.n+j:=by rw [Nat.sub_mul];omega
      rw [e4,gD,hvg (p-i) j (by omega) hj,Option.getD_some];rw [hz,gK] at hA;rw [gD];cases hq:e'.zc[j]? with
      | none=>rw [hq] at hA;cases hA
      | some y=>rw [hq] at hA;simp at hA;subst hA;exact .v _
     ·rw [gC]
      ·exact hr p j u A h.2 hA
      ·have:(i+m)*e'.n≤p*e'.n:=gB _ h.1;rw [Nat.add_mul] at this;omega
end
def Q46(s:ByteArray)(c:Int):Int:=Lib.indexByte s.data.toList c.toNat.toUInt8
def ZL:Op->Bool
 | .defer _=>false
 | _=>true
theorem Q6g{l n:Nat}{P:Program}{row:String}{args:Array Value}{w:World}{R:Value->World->Prop}(h:Rows P row args w R):RowsIn (Fence.wide.inRound l) n P row args w R:=
 λc cs _=>let ⟨v,w',r,s⟩:=h c cs;⟨v,w',r,stepsIn_wide.2 s⟩
theorem Q55{l n:Nat}{P:Program}{f:FuncId}{args:Array Value}{w:World}{R:Ending->World->Prop}(h:Calls P f args w R):CallsIn (Fence.wide.inRound l) n P f args w R:=
 (callsIn_wide (n:=n)).2 h
section
variable {l n:Nat} {P:Program} {ops:Array Oper} {Q:Exit->Act->World->Prop}
theorem Oper.wpIn_of{o:Oper}{a:Act}{w:World}{K:Act->World->Prop}(ht:ZL o.op=true)(h:o.wp P a w K Q):o.wpIn (Fence.wide.inRound l) n P a w K Q:=by
 refine⟨λ_ _=>trivial,?_⟩;rw [Oper.semAt_eq _ _ _ (by rintro c e;rw [e] at ht;cases ht)];unfold Oper.wp at h;cases hr:(execOp a.eval o).run P w with
 | ok x w'=>
  rw [hr] at h;cases x <;> first
   | exact h
   | exact h.elim
   | exact⟨λh=>(by cases h),Q6g h⟩
   | exact⟨λh=>(by cases h),Q55 h⟩
 | halt x w'=>
  rw [hr] at h;cases x <;> first | exact h | exact h.elim
theorem Q9P(ht:ops.all (λo=>ZL o.op)=true)(hQ:¬LetsOut Q){i:Nat}{K K':Act->World->Prop}(hK:∀a w,K a w->K' a w){a:Act}{w:World}(h:wpOp P ops Q i K a w):wpOpIn (Fence.wide.inRound l) n P ops Q i K' a w:=by
 unfold wpOp at h;unfold wpOpIn;cases ho:ops[i]? with
 | none=>rw [ho] at h;exact hK _ _ h
 | some o=>
  rw [ho] at h;have hto:ZL o.op=true:=by
   rw [Array.all_eq_true] at ht;obtain⟨hi,rfl⟩:=Array.getElem?_eq_some_iff.1 ho;exact ht i hi
  simp only at h ⊢;split
  ·rename_i hw;rw [gF hw] at h;rcases h with h | ⟨_,h⟩
   ·exact Oper.wpIn_mono hK (Oper.wpIn_of hto h)
   ·exact absurd h hQ
  ·rename_i hw;rw [gC hw] at h;exact⟨λf _=>trivial,hK _ _ h⟩
theorem Q4L(ht:ops.all (λo=>ZL o.op)=true)(hQ:¬LetsOut Q):∀(is:List Nat) (a:Act) (w:World),wpOps P ops Q is a w->wpOpsIn (Fence.wide.inRound l) n P ops Q is a w
 | [],a,w,h=>by simpa [wpOps,wpOpsIn] using h
 | i :: is,a,w,h=>by
  rw [wpOps_cons] at h;rw [wpOpsIn_cons];exact Q9P ht hQ (Q4L ht hQ is) h
abbrev Rw(P:Program)(l:Nat)(c:Code)(Q:Exit->Act->World->Prop):Act->World->Prop:=c.wpIn (Fence.wide.inRound l) 1 P Q
variable {B:Base} {Γ:Env} {H:Heap} {nl:Nat}
def X7(Q:Exit->Act->World->Prop):Prop:=¬LetsOut Q
theorem X7.th{K:Act->World->Prop}(h:X7 Q):X7 (Exit.then K Q):=λ⟨a,w,q⟩=>h ⟨a,w,q⟩
theorem X7.blk{id:Nat}(h:X7 Q):X7 (Exit.inBlock id Q):=λ⟨a,w,q⟩=>h ⟨a,w,q⟩
theorem UI.start{id:Nat}(ht:ops.all (λo=>ZL o.op)=true)(hQ:X7 Q)(k:St B Γ H nl (wpOps P ops Q (List.range ops.size))):St B Γ H nl (Rw P l (Code.region id ops false) Q):=
 λa w hf=>wpIn_region (Q4L ht hQ _ _ _ (k a w hf))
theorem CI.seq{x y:Code}(k:St B Γ H nl (Rw P l x (Exit.then (Rw P l y Q) Q))):St B Γ H nl (Rw P l (Code.seq x y) Q):=λa w hf=>wpIn_seq (k a w hf)
theorem CI.skip(k:St B Γ H nl (Q .normal)):St B Γ H nl (Rw P l Code.skip Q):=λa w hf=>wpIn_skip (k a w hf)
theorem CI.block{id:Nat}{c:Code}(k:St B Γ H nl (Rw P l c (Exit.inBlock id Q))):St B Γ H nl (Rw P l (Code.block id c) Q):=λa w hf=>wpIn_block (k a w hf)
theorem CI.cond{x y:Code}{c:Operand}{b:Bool}(hc:ev Γ c=some (.v (.bool b)))(ht:b=true->St B Γ H nl (Rw P l x Q))(hf:b=false->St B Γ H nl (Rw P l y Q)):St B Γ H nl (Rw P l (Code.cond c x y) Q):=λa w hfit=>by
 obtain⟨B',β,F',hx,hβ,h⟩:=hfit;have:=(Qf (a:=a) h.env hc).v_inv;exact wpIn_cond_split this (λe=>ht e a w ⟨B',β,F',hx,hβ,h⟩) (λe=>hf e a w ⟨B',β,F',hx,hβ,h⟩)
theorem CI.jn{σ:Type}{A:(σ->Prop)->Prop}{k:σ->Prop}{c:Code}(Γf:σ->Env)(Hf:σ->Heap)(nl':Nat)(hm:Jn A k)(hrest:∀x,k x->St B (Γf x) (Hf x) nl' (Q .normal))
  (hbr:∀J,A J->(∀x,J x->St B (Γf x) (Hf x) nl' (Q .normal))->St B Γ H nl (Rw P l c Q)):St B Γ H nl (Rw P l c Q):=by
 obtain⟨J,hJ,hm⟩:=hm;exact hbr J hm (λx hx=>hrest x (hJ x hx))
theorem CI.ite{x y:Code}{c:Operand}{b:Bool}{U V:Prop}(hc:ev Γ c=some (.v (.bool b)))(hm:Ite b U V)(ht:b=true->U->St B Γ H nl (Rw P l x Q))(hf:b=false->V->St B Γ H nl (Rw P l y Q)):St B Γ H nl (Rw P l (Code.cond c x y) Q):=CI.cond hc (λh=>ht h (hm.1 h)) (λh=>hf h (hm.2 h))
end
section
variable {l:Nat} {P:Program} {ops:Array Oper} {Q:Exit->Act->World->Prop} {B:Base} {Γ:Env} {H:Heap} {nl:Nat}
end
def KS(S:Nat->Prop)(W W':World):Prop:=∀b,S b->W'.heap[b]?=W.heap[b]?
def Qc2(P:Program)(gf:Nat)(lb:Array Value){α:Type}(encs:α->List Value)(ys:List α)(S:Nat->Prop)(w:World):Prop:=
 ∀(l:Nat) (J:Nat->World->Prop) (Jx:World->Prop) (W:World),KS S w W ->
  (∀m x W1,ys[m]?=some x->J m W1->YieldAt Fence.wide 1 P l (encs x).toArray W1 λe W'=>(e=.returned (.bool true)∧J (m+1) W'∧KS S W1 W')∨(e=.returned (.bool false)∧Jx W')) ->
  J 0 W->CallsIn Fence.wide 2 P gf (#[.func (.yield l) #[] #[]]++lb) W λe W'=>(∃v,e=.returned v)∧(J ys.length W'∨Jx W')
def Iter(P:Program)(gf:Nat)(cs:List AVal){α:Type}(encs:α->List Value)(ys:List α):Prop:=
 ∀(w:World) (ok:Nat->Prop) (β:List Value) (lb:Array Value),DnL w ok β cs lb->Qc2 P gf lb encs ys ok w
def Q6t(S:Nat->Prop)(W:World)(p:Option Addr)(xs:List Int):Prop:=∀(j:Nat) (x:Int),xs[j]?=some x->∃b off,p=some ⟨b,off,none⟩∧S b∧W.cell? ⟨b,off+j,none⟩=some (.int .i64 x)
theorem KS.cell{S:Nat->Prop}{W W':World}(h:KS S W W'){b o:Nat}(hb:S b):W'.cell? ⟨b,o,none⟩=W.cell? ⟨b,o,none⟩:=by
 simp only [World.cell?,h b hb]
theorem Q6t.keep{S:Nat->Prop}{A B:World}(h:KS S A B){p:Option Addr}{xs:List Int}(hl:Q6t S A p xs):Q6t S B p xs:=λj x hx=>by
 obtain⟨b,off,h1,h2,h3⟩:=hl j x hx;exact⟨b,off,h1,h2,(h.cell h2).trans h3⟩
theorem Qaq{w:World}{ok:Nat->Prop}{β:List Value}{lb:Array Value}{xs:List Int}(h:DnL w ok β [.rp [.sl 1 (λx:Int=>[.i x]) xs]] lb):
  ∃b off p cap,lb=#[.pointer (some ⟨b,off,none⟩)]∧ok b∧w.cell? ⟨b,off,none⟩=some (.slice p xs.length cap)∧Q6t ok w p xs:=by
 obtain⟨h1,h2⟩:=h;have h3:=h2 0 _ rfl;have hlb:lb=#[lb.getD 0 undef]:=by
  obtain⟨l⟩:=lb
  match l,h1 with
  | [v],_=>rfl
 rw [hlb];generalize lb.getD 0 undef=v at h3;cases h3 with
 | ro h3=>
  cases h3 with
  | rp cells b off f hb hc hr=>
   have c0:=hc 0 _ rfl;have r0:=hr 0 _ rfl;generalize f 0=y at c0 r0;cases r0 with
   | slNil n enc p=>exact⟨b,off,p,0,rfl,hb,c0,λj x hx=>by simp at hx⟩
   | sl n enc xs b' off' cap g hb' hcap hn hc' hr'=>
    refine⟨b,off,_,cap,rfl,hb,c0,λj x hx=>⟨b',off',rfl,hb',?_⟩⟩;have e1:=hc' j 0 x _ hx rfl;have e2:=hr' j 0 x _ hx rfl;generalize g j 0=z at e1 e2;cases e2;simpa using e1
def bkw(xs:List Int):List (Int×Int):=((List.range xs.length).map λi=>(((i:Nat):Int),xs.getD i 0)).reverse
theorem Q6Y(xs:List Int):(bkw xs).length=xs.length:=by simp [bkw]
theorem Q8v{xs:List Int}{m:Nat}(h:m<xs.length):(bkw xs)[xs.length-(m+1)]?=some ((m:Int),xs.getD m 0):=by
 unfold bkw;rw [List.getElem?_reverse (by simp;omega)];simp only [List.length_map,List.length_range];rw [gK,List.getElem?_range (by omega)];simp only [Option.map_some];have:xs.length-1-(xs.length-(m+1))=m:=by omega
 rw [this]
def Each{α σ:Type}(body:α->σ->(σ->Prop)->Prop)(k:σ->Prop):List α->σ->Prop
 | [],s=>k s
 | x :: r,s=>body x s (Each body k r)
def asg1(o:Oper):Option (Nat×Nat):=
 match o.dst,o.op,o.guard with
 | some d,.assign (.tmp p),none=>some (d,p)
 | some d,.move (.tmp p),none=>some (d,p)
 | _,_,_=>none
theorem Qan{o:Oper}{d p:Nat}(h:asg1 o=some (d,p)):o.dst=some d∧o.guard=none∧(o.op=.assign (.tmp p)∨o.op=.move (.tmp p)):=by
 unfold asg1 at h;split at h <;> simp_all
def asg:Code->Option (List (Nat×Nat))
 | .skip=>some []
 | .region _ ops false=>match ops.toList with
  | [o]=>(asg1 o).map λx=>[x]
  | _=>none
 | .seq x y=>match asg x,asg y with
  | some a,some b=>some (a++b)
  | _,_=>none
 | _=>none
def Q1l:List (Nat×Nat)->Act->Act
 | [],a=>a
 | (d,p) :: r,a=>Q1l r (a.put (some d) (a.tmps.getD p undef))
theorem Q4z:∀(x y:List (Nat×Nat)) (a:Act),Q1l (x++y) a=Q1l y (Q1l x a)
 | [],_,_=>rfl
 | (d,p) :: x,y,a=>Q4z x y _
theorem QbV{P:Program}{l:Nat}:∀(c:Code) (prs:List (Nat×Nat)) (Q:Exit->Act->World->Prop) (a:Act) (w:World),asg c=some prs->Q .normal (Q1l prs a) w->c.wpIn (Fence.wide.inRound l) 1 P Q a w:=by
 intro c;induction c with
 | skip=>intro prs Q a w h hq;simp only [asg,gJ] at h;subst h;exact wpIn_skip hq
 | seq x y ihx ihy=>
  intro prs Q a w h hq;simp only [asg] at h;cases hx:asg x with
  | none=>simp [hx] at h
  | some p=>
   cases hy:asg y with
   | none=>simp [hx,hy] at h
   | some q=>
    simp only [hx,hy,gJ] at h;subst h;rw [Q4z] at hq;exact wpIn_seq (ihx p _ a w hx (ihy q Q _ w hy hq))
 | region id ops draw=>
  intro prs Q a w h hq;cases draw with
  | true=>simp [asg] at h
  | false=>
   obtain⟨ops⟩:=ops
   match ops,h with
   | [o],h=>
    simp only [asg] at h;cases ho:asg1 o with
    | none=>simp [ho] at h
    | some p=>
     simp only [ho,Option.map_some,gJ] at h;subst h;obtain⟨d,p⟩:=p;obtain⟨h1,h2,h3⟩:=Qan ho;refine wpIn_region ?_;show wpOpsIn _ _ _ _ _ [0] a w;rw [wpOpsIn_cons];unfold wpOpIn;simp only [List.getElem?_toArray,List.getElem?_cons_zero];rw [gF (by simp [Region.wanted,h2])];refine⟨λ_ _=>trivial,?_⟩;obtain⟨dst,op,ty,pos,af,g⟩:=o;simp only at h1 h2 h3;simp only [Q1l] at hq;subst h1;rcases h3 with rfl | rfl
     ·simpa [Oper.semAt,execOp,Oper.uponIn,wpOpsIn,Act.eval] using hq
     ·simpa [Oper.semAt,execOp,Oper.uponIn,wpOpsIn,Act.eval] using hq
   | [],h=>simp [asg] at h
   | _ :: _ :: _,h=>simp [asg] at h
 | _=>intro prs Q a w h hq;simp [asg] at h
def Q69:List (Nat×Nat)->Env->Option Env
 | [],Γ=>some Γ
 | (d,p) :: r,Γ=>match find Γ p with
  | some A=>Q69 r ((d,A) :: Γ)
  | none=>none
def penv:List Nat->List Value->Env->Env
 | p :: ps,v :: vs,Γ=>penv ps vs ((p,.v v) :: Γ)
 | _,_,Γ=>Γ
theorem Q0j.set{w:World}{ok:Nat->Prop}{β:List Value}{Γ:Env}{a:Act}(h:Q0j w ok β Γ a){d:Nat}{A:AVal}{v:Value}(hd:d<a.tmps.size)(hA:Dn w ok β A v):Q0j w ok β ((d,A) :: Γ) (a.put (some d) v):=λt C hC=>by
 rw [find_cons] at hC;simp only [Act.put,gA];split at hC
 ·rename_i e;subst e;cases hC;simp [hd];exact hA
 ·rename_i e;rw [Array.getElem?_setIfInBounds_ne e];simpa [gA] using h t C hC
theorem Q5Y{w:World}{ok:Nat->Prop}{β:List Value}:∀(prs:List (Nat×Nat)) (Γ Γ':Env) (a:Act),Q69 prs Γ=some Γ'->(∀x,x∈prs->x.1<a.tmps.size)->Q0j w ok β Γ a->Q0j w ok β Γ' (Q1l prs a)∧(Q1l prs a).tmps.size=a.tmps.size∧(Q1l prs a).defers=a.defers
 | [],Γ,Γ',a,h,_,he=>by simp only [Q69,gJ] at h;subst h;exact⟨he,rfl,rfl⟩
 | (d,p) :: r,Γ,Γ',a,h,hd,he=>by
  simp only [Q69] at h;split at h
  ·rename_i A hA;have h1:=he.set (hd (d,p) (List.mem_cons_self ..)) (he p A hA);have hs:(a.put (some d) (a.tmps.getD p undef)).tmps.size=a.tmps.size:=by simp [Act.put]
   obtain⟨g1,g2,g3⟩:=Q5Y r _ Γ' _ h (λx hx=>by rw [hs];exact hd x (List.mem_cons_of_mem _ hx)) h1;exact⟨g1,g2.trans hs,g3⟩
  ·cases h
theorem Q8J{w:World}{ok:Nat->Prop}{β:List Value}:∀(ps:List Nat) (vs:List Value) (Γ:Env) (a:Act),(∀p,p∈ps->p<a.tmps.size)->Q0j w ok β Γ a ->
  Q0j w ok β (penv ps vs Γ) {a with tmps:=(ps.zip vs).foldl (λt (p,v)=>t.setIfInBounds p v) a.tmps}∧((ps.zip vs).foldl (λt (p,v)=>t.setIfInBounds p v) a.tmps).size=a.tmps.size
 | [],vs,Γ,a,_,he=>⟨he,rfl⟩
 | p :: ps,[],Γ,a,_,he=>⟨he,rfl⟩
 | p :: ps,v :: vs,Γ,a,hp,he=>by
  have h1:=he.set (v:=v) (A:=.v v) (hp p (List.mem_cons_self ..)) (.ro (.v v));have hs:(a.put (some p) v).tmps.size=a.tmps.size:=by simp [Act.put]
  obtain⟨g1,g2⟩:=Q8J ps vs _ _ (λq hq=>by rw [hs];exact hp q (List.mem_cons_of_mem _ hq)) h1;exact⟨g1,g2.trans hs⟩
def HFit(w0:World)(ok M:Nat->Prop)(k:Nat)(b0:List Value)(H:Heap)(nl:Nat)(W:World)(β:List Value)(F ok':Nat->Prop):Prop:=
 β.length=nl∧Kp w0 M W∧(∀b,ok b->ok' b) ∧
  (∀b,ok' b->(ok b∨M b∨w0.heap.size≤b)∧b<W.heap.size∧b≠w0.heap.size∧b≠w0.heap.size+1) ∧
  (∀b,F b->(M b∨w0.heap.size≤b)∧b<W.heap.size∧¬ok' b∧b≠w0.heap.size∧b≠w0.heap.size+1) ∧
  HOk W ok' β W H F∧∀(l:Nat) (x:Value),l<k->b0[l]?=some x->β[l]?=some x
section
variable {P:Program} {w0 W:World} {ok M:Nat->Prop} {k nl:Nat} {b0 β:List Value} {H:Heap} {F ok':Nat->Prop}
theorem HFit.turn(h:HFit w0 ok M k b0 H nl W β F ok'){r:Nat}(hr:r=w0.heap.size∨r=w0.heap.size+1)(o:Obj):HFit w0 ok M k b0 H nl (W.putObj r o) β F ok':=by
 obtain⟨h1,h2,h3,h4,h5,h6,h7⟩:=h;have hb:∀b,b≠r->(W.putObj r o).heap[b]?=W.heap[b]?:=λb hb=>World.putObj_heap_other hb
 have hok:∀b,ok' b->(W.putObj r o).heap[b]?=W.heap[b]?:=λb hb'=>hb b (λe=>by have:=h4 b hb';omega)
 refine⟨h1,⟨h2.os,h2.tape,h2.output,by simpa using h2.size,λb hlt hM=>(hb b (λe=>by omega)).trans (h2.block b hlt hM),h2.drawn⟩,h3,λb hb'=>by simpa using h4 b hb',λb hb'=>by simpa using h5 b hb',?_,h7⟩;exact (h6.lift (ok2:=ok') hok (λ_ h=>h)).later (λb hF _=>hb b (λe=>by have:=h5 b hF;omega))
theorem HFit.fits(h:HFit w0 ok M k b0 H nl W β F ok'){n:Nat}{Γ:Env}{a:Act}(he:Q0j W ok' β Γ a)(hs:a.tmps.size=n)(hd:a.defers=[]):Fits ⟨n,k,β,W,ok',F,[]⟩ Γ H nl a W:=by
 obtain⟨h1,h2,h3,h4,h5,h6,h7⟩:=h;exact⟨_,β,F,.refl _,h1,.refl _ _,λb hb=>⟨(h4 b hb).2.1,λhF=>(h5 b hF).2.2.1 hb⟩,λb hb=>⟨(h5 b hb).2.1,λ_=>hb⟩,h6,he,hs,hd,λl x _ hx=>hx⟩
theorem HFit.round(h:HFit w0 ok M k b0 H nl W β F ok')(hsz:w0.heap.size+1<W.heap.size){n:Nat}{Γ:Env}{H1:Heap}{nl1:Nat}{a:Act}{W1:World}(hf:Fits ⟨n,k,β,W,ok',F,[]⟩ Γ H1 nl1 a W1):
  (∃β1 F1 ok1,HFit w0 ok M k b0 H1 nl1 W1 β1 F1 ok1)∧(∀b,b<W.heap.size->¬F b->W1.heap[b]?=W.heap[b]?):=by
 obtain⟨h1,h2,h3,h4,h5,h6,h7⟩:=h;obtain⟨B',β1,F1,hx,hβ1,hf⟩:=hf;obtain⟨k1,k2⟩:=hf.same;have hkp:Kp W F W1:=hx.kp.trans hf.kp (λx hx' hlt=>(hx.M x hx').resolve_right (by simp at hlt ⊢;omega));have hkp0:Kp w0 M W1:=h2.trans hkp (λx hx' hlt=>(h5 x hx').1.resolve_right (by omega));refine⟨⟨β1,F1,B'.ok,hβ1,hkp0,λb hb=>hx.ok b (h3 b hb),λb hb=>?_,λb hb=>?_,hf.heap.lift (ok2:=B'.ok) k1 (λ_ h=>h),λl x hl hx'=>?_⟩,λb hb hF=>hkp.block b hb hF⟩
 ·have hlt:b<W1.heap.size:=gG (hf.ok b hb).1 hf.kp.size;rcases hx.new b hb with h | h | h
  ·exact⟨(h4 b h).1,hlt,(h4 b h).2.2⟩
  ·exact⟨.inr (h5 b h).1,hlt,(h5 b h).2.2.2⟩
  ·have h':W.heap.size≤b:=h;have:=h2.size;exact⟨.inr (.inr (by omega)),hlt,by omega,by omega⟩
 ·have hb2:F b∨W.heap.size≤b:=by
   rcases gH b B'.w0.heap.size with h | h
   ·exact hx.M b ((hf.own b hb).2 h)
   ·exact .inr (Nat.le_trans hx.kp.size h)
  rcases hb2 with h | h
  ·exact⟨(h5 b h).1,(hf.own b hb).1,λhk=>k2 b hk hb,(h5 b h).2.2.2⟩
  ·have:=h2.size;exact⟨.inr (by omega),(hf.own b hb).1,λhk=>k2 b hk hb,by omega,by omega⟩
 ·exact hf.pre l x (by rw [hx.k];exact hl) (by rw [hx.b0];exact h7 l x hl hx')
end
def pin(k nl l:Nat):Nat:=bif l.blt k then l else nl+l
def mlΓ(f:Nat->Nat):Env->Env
 | []=>[]
 | (t,A) :: r=>(t,A.ml f) :: mlΓ f r
theorem mlΓ_find{f:Nat->Nat}:∀{Γ:Env} {t:Nat} {A:AVal},mlΓ f Γ=Γ->find Γ t=some A->A.ml f=A
 | [],t,A,_,h=>by simp [find] at h
 | (s,C) :: r,t,A,hm,h=>by
  simp only [mlΓ,List.cons.injEq,Prod.mk.injEq,true_and] at hm;rw [find_cons] at h;split at h
  ·cases h;exact hm.1
  ·exact mlΓ_find hm.2 h
def Q8k{σ:Type}(P:Program)(B Br:Base)(Γ0:Env)(Q:Exit->Act->World->Prop)(Hf:σ->Heap)(nl:Nat)(Y:σ->Prop):Exit->Act->World->Prop
 | .normal,a,w=>∃s,Y s∧Fits Br [] (Hf s) nl a w
 | .ret,a,w=>∃H1 nl1,Fits Br [] H1 nl1 a w∧St B Γ0 H1 nl1 (Code.ret.wp P Q)
 | .exit id,a,w=>∃H1 nl1,Fits Br [] H1 nl1 a w∧St B Γ0 H1 nl1 ((Code.exit id).wp P Q)
 | _,_,_=>False
theorem Ka.rnd{σ:Type}{P:Program}{B Br:Base}{Γ0:Env}{Q:Exit->Act->World->Prop}{Hf:σ->Heap}{nl:Nat}{Y:σ->Prop}:Ka (Q8k P B Br Γ0 Q Hf nl Y):=λc a w d v h=>h.elim
theorem X7.rnd{σ:Type}{P:Program}{B Br:Base}{Γ0:Env}{Q:Exit->Act->World->Prop}{Hf:σ->Heap}{nl:Nat}{Y:σ->Prop}:X7 (Q8k P B Br Γ0 Q Hf nl Y):=λ⟨_,_,h⟩=>h.elim
section
variable {P:Program} {B:Base} {Γ Γ0:Env} {H:Heap} {nl k:Nat} {Q:Exit->Act->World->Prop}
theorem CI.next{σ:Type}{Br:Base}{Hf:σ->Heap}{Y:σ->Prop}{s:σ}(h:Y s):St Br [] (Hf s) nl (Q8k P B Br Γ0 Q Hf nl Y .normal):=λ_ _ hf=>⟨s,h,hf⟩
theorem C.range{σ α:Type}{bodyV:α->σ->(σ->Prop)->Prop}{kV:σ->Prop}{ys:List α}{s0:σ}{g:Operand}{ps:Array Tmp}{assign body:Code}{gf:Nat}{cs:List AVal}{encs:α->List Value}{prs:List (Nat×Nat)}
  {n:Nat} {Γ1:α->Env} {Hf:σ->Heap} (k:Nat) (hm:Each bodyV kV ys s0) (hit:Iter P gf cs encs ys) (hen:Zb P gf) (hn:B.n=n) (hk:B.k.ble k=true) (hg:ev Γ0 g=some (.fn (.func gf) [] cs))
  (hlab:mlΓ (pin k nl) Γ0=Γ0) (hps:ps.toList.all (λp=>p.blt n)=true) (hlen:∀x,(encs x).length=ps.size) (hasg:asg assign=some prs) (hprs:prs.all (λx=>x.1.blt n)=true) (hΓ1:∀x,Q69 prs (penv ps.toList (encs x) Γ0)=some (Γ1 x))
  (hround:∀x s (Y:σ->Prop),bodyV x s Y->∀(w0:World) (ok M:Nat->Prop) (β:List Value) (l:Nat),St ⟨n,k,β,w0,ok,M,[]⟩ (Γ1 x) (Hf s) nl (Rw P l body (Q8k P B ⟨n,k,β,w0,ok,M,[]⟩ Γ0 Q Hf nl Y)))
  (hdone:∀s,kV s->St B Γ0 (Hf s) nl (Q .normal)):St B Γ0 (Hf s0) nl ((Code.rangeFunc g ps assign body).wp P Q):=by
 rintro a w ⟨B',β,F,hx,hβ,hf⟩;obtain⟨k1,k2⟩:=hf.same;have henv:Q0j w B'.ok β Γ0 a:=λt A h=>(hf.env t A h).lift k1 (λ_ h=>h)
 have hokw:∀b,B'.ok b->b<w.heap.size:=λb hb=>gG (hf.ok b hb).1 hf.kp.size
 obtain⟨lb,hge,hlb⟩:∃lb,a.eval g=.func (.func gf) #[] lb∧DnL w B'.ok β cs lb:=by
  have hgv:=Qf henv hg;generalize a.eval g=y at hgv;cases hgv with
  | ro h=>cases h
  | fn _ _ _ us vs hl h hl' h'=>
   have:us=#[]:=Array.eq_empty_of_size_eq_zero (by simpa using hl.symm);subst this;exact⟨vs,rfl,hl',h'⟩
 have hgv:=hit w B'.ok β lb hlb;have lift0:∀{W:World} {β1:List Value} {F1 ok1:Nat->Prop} {H1:Heap} {nl1:Nat},HFit w B'.ok F k β H1 nl1 W β1 F1 ok1->∀(t:Nat) (A:AVal),find Γ0 t=some A->Dn W ok1 β1 A (a.tmps.getD t undef):=λ{W β1 F1 ok1 H1 nl1} hh t A hA=>by
  obtain⟨h1,h2,h3,h4,h5,h6,h7⟩:=hh;have hd:=(henv t A hA).lift (w:=W) (ok':=ok1) (λb hb=>h2.block b (hokw b hb) (k2 b hb)) h3;refine Dn.of_ml (f:=pin k nl) (β:=β) (λl v hv=>?_) A _ (by rw [mlΓ_find hlab hA];exact hd);unfold pin at hv;by_cases hlk:l<k
  ·rw [show l.blt k=true from Nat.ble_eq_true_of_le hlk] at hv;exact h7 l v hlk hv
  ·have:l.blt k=false:=by cases hb:l.blt k with
    | false=>rfl
    | true=>exact absurd (Nat.le_of_ble_eq_true hb) hlk
   rw [this] at hv;simp only [cond_false] at hv;rw [gN (by omega)] at hv;cases hv
 -- behind the statement
 have back:∀{W:World} {H1:Heap} {nl1:Nat},(∃β1 F1 ok1,HFit w B'.ok F k β H1 nl1 W β1 F1 ok1)->W.heap[w.heap.size]?=some (.deferred (some []))->Fits B Γ0 H1 nl1 {a with defers:=[mark w.heap.size]++a.defers} W:=λ{W H1 nl1} hh hD=>by
  obtain⟨β1,F1,ok1,hh⟩:=hh;have hl0:=lift0 hh;obtain⟨h1,h2,h3,h4,h5,h6,h7⟩:=hh;have hkp:Kp B'.w0 B'.M W:=hf.kp.trans h2 (λx hx' hlt=>(hf.own x hx').2 hlt);have hsz:=hf.kp.size;have hnew:∀b,F b∨w.heap.size≤b->B'.M b∨B'.w0.heap.size≤b:=λb hb=>by
   rcases hb with hb | hb
   ·rcases gH b B'.w0.heap.size with h | h
    ·exact .inl ((hf.own b hb).2 h)
    ·exact .inr h
   ·exact .inr (Nat.le_trans hsz hb)
  refine⟨⟨B'.n,B'.k,B'.b0,W,ok1,F1,[mark w.heap.size]++B'.ds⟩,β1,F1,hx.trans ⟨rfl,rfl,rfl,hkp,h3,λb hb=>?_,λb hb=>hnew b (h5 b hb).1,[w.heap.size],rfl,by simp,λD hD=>?_⟩,h1,.refl _ _,λb hb=>⟨(h4 b hb).2.1,λhF=>(h5 b hF).2.2.1 hb⟩,λb hb=>⟨(h5 b hb).2.1,λ_=>hb⟩,h6,hl0,hf.size,?_,λl x hl hx'=>?_⟩
  ·rcases (h4 b hb).1 with h | h
   ·exact .inl h
   ·exact .inr (hnew b h)
  ·simp only [List.mem_singleton] at hD;subst hD;exact⟨hsz,hD,λhM=>(h5 _ hM).2.2.2.1 rfl,λho=>(h4 _ ho).2.2.1 rfl⟩
  ·show [mark w.heap.size]++a.defers=_;rw [hf.defers]
  ·have hl':l<k:=gG (by rw [<-hx.k];exact hl) (Nat.le_of_ble_eq_true hk);exact h7 l x hl' (hf.pre l x hl hx')
 refine wpIn_wide.1 (wpIn_rangeFunc (n:=3) ?_);intro fn hfn;obtain⟨rec,hrec⟩:∃rec:LoopState->Option Code->Go.Loop,rec=λst pe=>{state:=st,pending:=pe,fn,tmps:=a.tmps,params:=ps,assign,body,defers:=w.heap.size}:=⟨_,rfl⟩
 obtain⟨W1,hW1⟩:∃W1,(w.alloc (.deferred (some []))).alloc (.loop (rec .ready none))=W1:=⟨_,rfl⟩;have hs1:W1.heap.size=w.heap.size+2:=by rw [<-hW1];simp
 have hL1:W1.heap[w.heap.size+1]?=some (.loop (rec .ready none)):=by
  rw [<-hW1];have:=World.alloc_heap_new (w.alloc (.deferred (some []))) (.loop (rec .ready none));rwa [World.size_alloc] at this
 have old:∀b,b<w.heap.size->W1.heap[b]?=w.heap[b]?:=λb hb=>by
  rw [<-hW1];exact (RowKit.Below.heap_alloc _ _ _ (by simp;omega)).trans (RowKit.Below.heap_alloc _ _ _ hb)
 have hK1:W1.heap[w.heap.size]?=some (.deferred (some [])):=by
  rw [<-hW1];exact (RowKit.Below.heap_alloc _ _ _ (by simp)).trans (World.alloc_heap_new w _)
 have hkp1:Kp w F W1:=by rw [<-hW1];exact (Wg w F _).trans (Wg _ F _) (λ_ h _=>h)
 have hfit1:HFit w B'.ok F k β (Hf s0) nl W1 β F B'.ok:=by
  refine⟨hβ,hkp1,λ_ h=>h,λb hb=>⟨.inl hb,?_,?_,?_⟩,λb hb=>⟨.inl hb,?_,λh=>k2 b h hb,?_,?_⟩,?_,λl x _ h=>h⟩
  ·have:=hokw b hb;omega
  ·have:=hokw b hb;omega
  ·have:=hokw b hb;omega
  ·have:=(hf.own b hb).1;omega
  ·have:=(hf.own b hb).1;omega
  ·have:=(hf.own b hb).1;omega
  ·exact (hf.heap.lift (w:=W1) (ok2:=B'.ok) (λb hb=>(old b (hokw b hb)).trans (k1 b hb)) (λ_ h=>h)).later (λb hb _=>old b (hf.own b hb).1)
 refine⟨w.heap.size+1,[mark w.heap.size],W1,{target:=.fn (.func gf) lb,args:=#[.func (.yield (w.heap.size+1)) #[] #[]]},W1,gf,#[.func (.yield (w.heap.size+1)) #[] #[]]++lb,W1,?_,?_,λ_ _=>trivial,?_,λh=>(by cases h),?_⟩
 ·rw [<-hW1,hrec];exact run_enterLoop_outer _ _ _ _ _
 ·simp only [resolve,hge];simp [go_sem]
 ·simp only [invoke,go_sem];exact hen _ _
 refine (hgv (w.heap.size+1)
  (λm W=>(∃s,Each bodyV kV (ys.drop m) s∧∃β1 F1 ok1,HFit w B'.ok F k β (Hf s) nl W β1 F1 ok1)∧W.heap[w.heap.size+1]?=some (.loop (rec .ready none))∧W.heap[w.heap.size]?=some (.deferred (some [])))
  (λW=>∃c H1 nl1,(∃β1 F1 ok1,HFit w B'.ok F k β H1 nl1 W β1 F1 ok1)∧St B Γ0 H1 nl1 (Code.wp P c Q)∧W.heap[w.heap.size+1]?=some (.loop (rec .done (some c)))∧W.heap[w.heap.size]?=some (.deferred (some [])))
  W1 (λb hb=>old b (hokw b hb)) ?_ ⟨⟨s0,hm,β,F,B'.ok,hfit1⟩,hL1,hK1⟩).mono ?_
 ·rintro m x W hxm ⟨⟨s,hs,β1,F1,ok1,hfw⟩,hl,hd⟩;have hdrop:ys.drop m=x :: ys.drop (m+1):=by
   obtain⟨hlt,he⟩:=gS.1 hxm;rw [List.drop_eq_getElem_cons hlt,he]
  rw [hdrop] at hs;have hy:=run_yield (P:=P) (args:=(encs x).toArray) hl (by rw [hrec];simpa using hlen x);rw [hrec] at hy;have hlsz:w.heap.size+1<W.heap.size:=(Array.getElem?_eq_some_iff.1 hl).1;obtain⟨W2,hW2⟩:∃W2,W.putObj (w.heap.size+1) (.loop {rec .ready none with state:=.busy})=W2:=⟨_,rfl⟩;have hf2:HFit w B'.ok F k β (Hf s) nl W2 β1 F1 ok1:=by rw [<-hW2];exact hfw.turn (.inr rfl) _
  have hl2:W2.heap[w.heap.size+1]?=some (.loop {rec .ready none with state:=.busy}):=by rw [<-hW2];exact World.putObj_heap_same hlsz
  have hd2:W2.heap[w.heap.size]?=some (.deferred (some [])):=by rw [<-hW2];exact (World.putObj_heap_other (by omega)).trans hd
  have hs2:W2.heap.size=W.heap.size:=by rw [<-hW2];simp
  obtain⟨p1,p2⟩:=Q8J (w:=W2) (ok:=ok1) (β:=β1) ps.toList (encs x) Γ0 {tmps:=a.tmps,defers:=[]} (λp hp=>by
   have:=gT.1 hps p hp;show p<a.tmps.size;rw [hf.size,hx.n,hn];exact Nat.le_of_ble_eq_true this) (lift0 hf2)
  obtain⟨q1,q2,q3⟩:=Q5Y prs _ _ _ (hΓ1 x) (λy hy=>by
   have:=gT.1 hprs y hy;show y.1<_;rw [p2];show y.1<a.tmps.size;rw [hf.size,hx.n,hn];exact Nat.le_of_ble_eq_true this) p1
  have htm:(ps.zip (encs x).toArray).foldl (λtmps (x:Tmp×Value)=>tmps.setIfInBounds x.1 x.2) a.tmps=(ps.toList.zip (encs x)).foldl (λt (x:Nat×Value)=>t.setIfInBounds x.1 x.2) a.tmps:=by
   rw [<-Array.foldl_toList,Array.toList_zip]
  refine⟨fn,_,assign,body,hy,roundIn_of_wpIn hfn (QbV assign prs _ _ W hasg ⟨W2,by rw [<-hW2];exact run_beginRound hl (by rw [hrec]),?_⟩)⟩;have hfr:=hf2.fits (n:=n) (Γ:=Γ1 x) (a:=Q1l prs {tmps:=(ps.toList.zip (encs x)).foldl (λt (x:Nat×Value)=>t.setIfInBounds x.1 x.2) a.tmps,defers:=[]}) q1 (by rw [q2,p2];show a.tmps.size=n;rw [hf.size,hx.n,hn]) q3;have hrun:=hround x s _ hs W2 ok1 F1 β1 (w.heap.size+1) _ _ hfr;rw [<-htm] at hrun;refine wpIn_mono hrun ?_;have fin:∀(jump:Option Code) (W3:World),W3.heap[w.heap.size+1]?=W2.heap[w.heap.size+1]?->W3.heap[w.heap.size]?=W2.heap[w.heap.size]? ->
    (Instr.endRound (w.heap.size+1) jump).run P W3=.ok (.bool jump.isNone) (W3.putObj (w.heap.size+1) (.loop (rec (if jump.isNone then .ready else .done) jump))) ∧
    (W3.putObj (w.heap.size+1) (.loop (rec (if jump.isNone then .ready else .done) jump))).heap[w.heap.size+1]?=some (.loop (rec (if jump.isNone then .ready else .done) jump)) ∧
    (W3.putObj (w.heap.size+1) (.loop (rec (if jump.isNone then .ready else .done) jump))).heap[w.heap.size]?=some (.deferred (some [])):=λjump W3 e1 e2=>by
   have hl3:=e1.trans hl2;have:=run_endRound (P:=P) jump hl3;rw [hrec] at this ⊢;exact⟨this,World.putObj_heap_same (Array.getElem?_eq_some_iff.1 hl3).1,(World.putObj_heap_other (by omega)).trans (e2.trans hd2)⟩
  have nF:∀b,b=w.heap.size∨b=w.heap.size+1->¬F1 b:=λb hb hF=>by have:=hf2.2.2.2.2.1 b hF;omega
  have okF:∀b,B'.ok b->b<W2.heap.size∧¬F1 b:=λb hb=>by
   have h3:=hf2.2.2.1 b hb;exact⟨(hf2.2.2.2.1 b h3).2.1,λhF=>(hf2.2.2.2.2.1 b hF).2.2.1 h3⟩
  have oks:∀b,B'.ok b->W2.heap[b]?=W.heap[b]?:=λb hb=>by
   rw [<-hW2];exact World.putObj_heap_other (by have:=hokw b hb;omega)
  rintro e a3 W3 hp;cases e with
  | normal=>
   obtain⟨s',hs',hf3⟩:=hp;obtain⟨g1,g2⟩:=hf2.round (by omega) hf3;obtain⟨r1,r2,r3⟩:=fin none W3 (g2 _ (by omega) (nF _ (.inr rfl))) (g2 _ (by omega) (nF _ (.inl rfl)));obtain⟨β3,F3,ok3,g1⟩:=g1;exact⟨_,_,r1,.inl ⟨rfl,⟨⟨s',hs',β3,F3,ok3,g1.turn (.inr rfl) _⟩,r2,r3⟩,λb hb=>(World.putObj_heap_other (by have:=hokw b hb;omega)).trans ((g2 b (okF b hb).1 (okF b hb).2).trans (oks b hb))⟩⟩
  | ret=>
   obtain⟨H1,nl1,hf3,hk3⟩:=hp;obtain⟨g1,g2⟩:=hf2.round (by omega) hf3;obtain⟨r1,r2,r3⟩:=fin (some .ret) W3 (g2 _ (by omega) (nF _ (.inr rfl))) (g2 _ (by omega) (nF _ (.inl rfl)));obtain⟨β3,F3,ok3,g1⟩:=g1;exact⟨_,_,r1,.inr ⟨rfl,.ret,H1,nl1,⟨β3,F3,ok3,g1.turn (.inr rfl) _⟩,hk3,r2,r3⟩⟩
  | exit id=>
   obtain⟨H1,nl1,hf3,hk3⟩:=hp;obtain⟨g1,g2⟩:=hf2.round (by omega) hf3;obtain⟨r1,r2,r3⟩:=fin (some (.exit id)) W3 (g2 _ (by omega) (nF _ (.inr rfl))) (g2 _ (by omega) (nF _ (.inl rfl)));obtain⟨β3,F3,ok3,g1⟩:=g1;exact⟨_,_,r1,.inr ⟨rfl,.exit id,H1,nl1,⟨β3,F3,ok3,g1.turn (.inr rfl) _⟩,hk3,r2,r3⟩⟩
  | goto t=>exact hp.elim
  | panic ch=>exact hp.elim
  | outgrown=>exact hp.elim
 ·rintro e W2 ⟨⟨v,rfl⟩,(⟨⟨s,hs,β1,F1,ok1,hfw⟩,hl,hd⟩ | ⟨c,H1,nl1,⟨β1,F1,ok1,hfw⟩,hk3,hl,hd⟩)⟩
  ·have:=run_endLoop (P:=P) hl (by rw [hrec];simp);rw [hrec] at this;refine⟨none,_,this,?_⟩;rw [List.drop_length] at hs;exact hdone s hs _ _ (back ⟨β1,F1,ok1,hfw.turn (.inr rfl) _⟩ ((World.putObj_heap_other (by omega)).trans hd))
  ·have:=run_endLoop (P:=P) hl (by rw [hrec];simp);rw [hrec] at this;refine⟨some c,_,this,?_⟩;exact wpIn_wide.2 (hk3 _ _ (back ⟨β1,F1,ok1,hfw.turn (.inr rfl) _⟩ ((World.putObj_heap_other (by omega)).trans hd)))
end
abbrev vN:AVal:=.v (.slice none 0 0)
abbrev pB(post:Bool->Prop):AVal->Heap->Nat->Prop:=λA H' k=>∃y,post y∧A=(.b y)∧H'=[]∧k=0
abbrev pI(post:Int->Prop):AVal->Heap->Nat->Prop:=λA H' k=>∃y,post y∧A=(.i y)∧H'=[]∧k=0
theorem pBi{post:Bool->Prop}{y:Bool}(h:post y):pB post (.b y) [] 0:=⟨y,h,rfl,rfl,rfl⟩
theorem pIi{post:Int->Prop}{y:Int}(h:post y):pI post (.i y) [] 0:=⟨y,h,rfl,rfl,rfl⟩
def bvA(n:Nat)(l:List Nat):Array Bool:=⟨(List.range n).map λi=>!l.contains i⟩
def zl(l:List Nat):List (Nat×List Nat):=l.map λi=>(i,[])
def smL(l:List Nat):List (Option Nat):=l.map some
section
variable {P:Program} {B:Base} {tb:Tab} {Γ Γ':Env} {H H':Heap} {nl nl':Nat} {ops:Array Oper} {Q:Exit->Act->World->Prop} {i z fuel:Nat} {rest:List Nat} {o:Oper} {ws:World} {M':Nat->Prop} {Lp Ms:List Nat} {g:Bool} {listed listed':Array Bool}
theorem U.al[htb:TabOk P tb]{T:TypeId}{e:TE}{d:Nat}(k:St B ((d,.p nl 0) :: Γ) ((nl,.box (e.zc.map .v)) :: H) (nl+1) (wpOps P ops Q rest))
  (hi:ops[i]?=some o:=by exact rfl) (hg:o.guard=none:=by exact rfl) (ho:o.op=.alloc T:=by exact rfl) (he:find tb T=some e:=by exact rfl) (hd:o.dst=some d:=by exact rfl) (hlt:d.blt B.n=true:=by exact rfl):St B Γ H nl (wpOps P ops Q (i :: rest)):=U.e1 hi (.none hg) (Eff1.al ho he hd hlt) k
theorem U.st[htb:TabOk P tb]{T:TypeId}{x y:Operand}{l off:Nat}{A:AVal}{cs cells:List AVal}{e:TE}(k:St B Γ (setH H l (.box (setCells cells off cs))) nl (wpOps P ops Q rest))
  (hi:ops[i]?=some o:=by exact rfl) (hg:o.guard=none:=by exact rfl) (ho:o.op=.store T x y:=by exact rfl) (hx:ev Γ x=some (.p l off):=by exact rfl) (hy:ev Γ y=some A:=by exact rfl) (hc:A.cells=some cs:=by exact rfl) (hl:find H l=some (.box cells):=by exact rfl) (he:find tb T=some e:=by exact rfl) (hn:cs.length=e.n:=by exact rfl) (hle:(off+cs.length).ble cells.length=true:=by exact rfl) (h1:ones cs=true:=by exact rfl) (hd:o.dst=none:=by exact rfl):St B Γ H nl (wpOps P ops Q (i :: rest)):=U.e1 hi (.none hg) (Eff1.st ho hx hy hc hl he hn hle h1 hd) k
theorem U.bs[htb:TabOk P tb]{α:Type}{t len:Nat}{parts:Array (Nat×Operand)}{n:Nat}(enc:α->List AVal)(xs:List α){d:Nat}{e n' by_:Nat}{zc:List Value}{e':TE}{ps:List (Nat×AVal)}{cs:List AVal}(k:St B ((d,.o nl) :: Γ) ((nl,.val (.os n enc xs)) :: H) (nl+1) (wpOps P ops Q rest))
  (hi:ops[i]?=some o:=by exact rfl) (hg:o.guard=none:=by exact rfl) (ho:o.op=.buildSlice t len parts:=by exact rfl) (hd:o.dst=some d:=by exact rfl) (hlt:d.blt B.n=true:=by exact rfl) (ht:find tb t=some ⟨.sl e,n',by_,zc⟩:=by exact rfl) (he:find tb e=some e':=by exact rfl) (hn:e'.n=n:=by exact rfl) (hl:xs.length=len:=by exact rfl) (hps:Q12 Γ parts.toList=some ps:=by exact rfl)
  (hcs:fillA (λi=>some (i*n,n)) ((List.replicate len (e'.zc.map AVal.v)).flatten) ps=some cs:=by exact rfl) (hxs:cs=(xs.map enc).flatten:=by exact rfl) (hlen:∀y,y∈xs->(enc y).length=n:=by exact λ_ _=>rfl) (hro:cs.all AVal.isRo=true:=by exact rfl) (hsz:(len*n).ble 16777216=true:=by exact rfl):St B Γ H nl (wpOps P ops Q (i :: rest)):=U.e1 hi (.none hg) (Eff1.bs ho hd hlt ht he hn hl hps hcs hxs hlen hro hsz) k
theorem U.ap[htb:TabOk P tb]{α:Type}{t:TypeId}{s x:Operand}{l n:Nat}{enc:α->List AVal}{xs ys:List α}{d:Nat}{e n' by_:Nat}{zc:List Value}{e':TE}{X:AVal}(hlen:xs.length+ys.length≤1099511627776)(k:St B ((d,.o nl) :: Γ) (repH H l nl (.val (.os n enc (xs++ys)))) (nl+1) (wpOps P ops Q rest))
  (hi:ops[i]?=some o:=by exact rfl) (hg:o.guard=none:=by exact rfl) (ho:o.op=.call ⟨.builtin .append,#[s,x],#[t,t]⟩:=by exact rfl) (hd:o.dst=some d:=by exact rfl) (hlt:d.blt B.n=true:=by exact rfl) (hs:ev Γ s=some (.o l):=by exact rfl) (hl:find H l=some (.val (.os n enc xs)):=by exact rfl) (hx:ev Γ x=some X:=by exact rfl)
  (hX:X=.sl n enc ys∨∃l2,X=.o l2∧find H l2=some (.val (.os n enc ys)):=by first | exact .inl rfl | exact .inr ⟨_,rfl,rfl⟩) (ht:find tb t=some ⟨.sl e,n',by_,zc⟩:=by exact rfl) (he:find tb e=some e':=by exact rfl) (hn:e'.n=n:=by exact rfl) (hflat:∀x,(enc x).all Q1r=true:=by exact λ_=>rfl) (hby:e'.bytes.ble 128=true:=by exact rfl):St B Γ H nl (wpOps P ops Q (i :: rest)):=U.e1 hi (.none hg) (Eff1.ap ho hd hlt hs hl hx hX ht he hn hflat hby hlen) k
theorem U.ix[htb:TabOk P tb]{α:Type}{t:TypeId}{x i':Operand}{n:Nat}{enc:α->List AVal}{xs:List α}{kk:IntKind}{j:Int}{y:α}{e n' by_ d:Nat}{zc:List Value}{e':TE}(hy:idx xs j=some y)(k:St B ((d,.rp (enc y)) :: Γ) H nl (wpOps P ops Q rest))
  (hi:ops[i]?=some o:=by exact rfl) (hg:o.guard=none:=by exact rfl) (hd:o.dst=some d:=by exact rfl) (hlt:d.blt B.n=true:=by exact rfl) (ho:o.op=.indexAddr t x i':=by exact rfl) (hx:ev Γ x=some (.sl n enc xs):=by exact rfl) (hi':ev Γ i'=some (.v (.int kk j)):=by exact rfl) (ht:find tb t=some ⟨.sl e,n',by_,zc⟩:=by exact rfl) (he:find tb e=some e':=by exact rfl) (hn:e'.n=n:=by exact rfl):St B Γ H nl (wpOps P ops Q (i :: rest)):=U.r hi (.none hg) hd hlt (Rd.ix ho hx hi' ht he hn hy) k
theorem D.bq{id:Nat}(hm:P.follows .mixedOrders=true)(z:Nat)(Lp Ms:List Nat)(k:Ka Q->Region.noSelect ops=true->∀ws M',StD B ws M' Lp Ms false Γ H nl (QI P ops Q (Kp ws M') z ops.size (Array.replicate ops.size false)))
  (hLp:Lp.all (λl=>match find H l with | some R=>R.ownd | none=>false)=true:=by exact rfl) (hMs:Ms.all (λl=>(match find H l with | some R=>R.ownd | none=>nl.ble l)&&!Lp.contains l)=true:=by exact rfl)
  (hs:Region.noSelect ops=true:=by kernel_rfl) (hQ:Ka Q:=by repeat (first | exact Ka.body | exact Ka.rnd | refine Ka.th ?_ | refine Ka.blk ?_ | refine Ka.ng ?_)):St B Γ H nl ((Code.region id ops true).wp P Q):=D.beg z Lp Ms hm hLp hMs hs hQ k
theorem D.pq(m:Nat)(is:List (Nat×List Nat))[htb:TabOk P tb](kk:StD B ws M' Lp Ms g Γ' H nl (QI P ops Q (Kp ws M') z fuel (Q7z is listed)))(hQ:Ka Q:=by assumption)(hS:Region.noSelect ops=true:=by assumption)
  (hm:is.length=m:=by exact rfl) (h:Q4Z tb ops H B.n g Lp is Γ=some Γ':=by exact rfl) (hg:g=false:=by exact rfl) (ho:Q06 ops z is listed=true:=by kernel_rfl):StD B ws M' Lp Ms g Γ H nl (QI P ops Q (Kp ws M') z (fuel+m) listed):=D.ps m is hm hQ hS h hg ho kk
theorem D.ix(i:Nat)(ch:List Nat)[htb:TabOk P tb]{α:Type}{t:TypeId}{x i':Operand}{n:Nat}{enc:α->List AVal}{xs:List α}{kk:IntKind}{j:Int}{y:α}{e n' by_ d:Nat}{zc:List Value}{e':TE}(hy:idx xs j=some y)
  (k:StD B ws M' Lp Ms g ((d,.rp (enc y)) :: Γ) H nl (QI P ops Q (Kp ws M') z fuel (listed.setIfInBounds i true)))
  (hQ:Ka Q:=by assumption) (hs:Region.noSelect ops=true:=by assumption) (hi:ops[i]?=some o:=by exact rfl) (hg:o.guard=none:=by exact rfl) (hd:o.dst=some d:=by exact rfl) (hlt:d.blt B.n=true:=by exact rfl) (ho:o.op=.indexAddr t x i':=by exact rfl) (hx:ev Γ x=some (.sl n enc xs):=by exact rfl) (hi':ev Γ i'=some (.v (.int kk j)):=by exact rfl) (ht:find tb t=some ⟨.sl e,n',by_,zc⟩:=by exact rfl) (he:find tb e=some e':=by exact rfl) (hn:e'.n=n:=by exact rfl)
  (hrl:rdOk g Lp none=true:=by exact rfl) (hc:Q06 ops z [(i,ch)] listed=true:=by kernel_rfl):StD B ws M' Lp Ms g Γ H nl (QI P ops Q (Kp ws M') z (fuel+1) listed):=D.q i ch hQ hs hi (.none hg) hd hlt (Rd.ix ho hx hi' ht he hn hy) hrl hc k
theorem D.bs[htb:TabOk P tb]{α:Type}{t len:Nat}{parts:Array (Nat×Operand)}{n:Nat}(enc:α->List AVal)(xs:List α){d:Nat}{e n' by_:Nat}{zc:List Value}{e':TE}{ps:List (Nat×AVal)}{cs:List AVal}
  (k:StD B ws M' Lp Ms (g||false) ((d,.o nl) :: Γ) ((nl,.val (.os n enc xs)) :: H) (nl+1) (QI P ops Q (Kp ws M') z fuel (listed.setIfInBounds i true)))
  (hi:ops[i]?=some o:=by exact rfl) (hg:o.guard=none:=by exact rfl) (ho:o.op=.buildSlice t len parts:=by exact rfl) (hd:o.dst=some d:=by exact rfl) (hlt:d.blt B.n=true:=by exact rfl) (ht:find tb t=some ⟨.sl e,n',by_,zc⟩:=by exact rfl) (he:find tb e=some e':=by exact rfl) (hn:e'.n=n:=by exact rfl) (hl:xs.length=len:=by exact rfl) (hps:Q12 Γ parts.toList=some ps:=by exact rfl)
  (hcs:fillA (λi=>some (i*n,n)) ((List.replicate len (e'.zc.map AVal.v)).flatten) ps=some cs:=by exact rfl) (hxs:cs=(xs.map enc).flatten:=by exact rfl) (hlen:∀y,y∈xs->(enc y).length=n:=by exact λ_ _=>rfl) (hro:cs.all AVal.isRo=true:=by exact rfl) (hsz:(len*n).ble 16777216=true:=by exact rfl) (hiz:i.beq z=false:=by exact rfl):StD B ws M' Lp Ms g Γ H nl (Q8y P ops Q (Kp ws M') z fuel listed i):=D.ef1 hi (.none hg) (Eff1.bs ho hd hlt ht he hn hl hps hcs hxs hlen hro hsz) hiz rfl k
theorem D.tq(ρ:List Nat)(h:StD B ws M' Lp Ms g Γ' H' nl' (QI P ops Q (Kp ws M') z fuel listed'))(hl:listed'=listed:=by kernel_rfl)(h0:fixed 0 B.k (smL ρ)=true:=by exact rfl)(h1:(smL ρ).length=nl':=by exact rfl)(h2:ChkG H (smL ρ) nl false Γ Γ':=by exact .eqs rfl)(h3:ChkH H (smL ρ) nl false H':=by repeat (first | exact trivial | refine⟨by first | exact vL | exact bX,?_⟩))(h4:ndup (kept (smL ρ) H')=true:=by exact rfl)
  (h5:Lp.all (λl=>match (smL ρ)[l]? with | some (some m)=>m.beq l&&l.blt nl' | _=>false)=true:=by exact rfl) (h6:Ms.all (λl=>match (smL ρ)[l]? with | some (some m)=>Ms.contains m | some none=>false | none=>true)=true:=by exact rfl):StD B ws M' Lp Ms g Γ H nl (QI P ops Q (Kp ws M') z fuel listed):=D.to (smL ρ) h hl h0 h1 h2 h3 h4 h5 h6
theorem D.sz{d:Nat}(i:Nat)(ch:List Nat)(j:Nat)(want:Bool)(t:Nat){b:Bool}(hb':b=!want)
  (k:StD B ws M' Lp Ms g ((d,.v undef) :: Γ) H nl (QI P ops Q (Kp ws M') z fuel (listed.setIfInBounds i true))) (hQ:Ka Q:=by assumption) (hs:Region.noSelect ops=true:=by assumption) (ho:ops[i]?=some o:=by exact rfl) (hg:o.guard=Option.some (j,want):=by exact rfl) (ht:Q0g ops j=Option.some t:=by exact rfl) (hb:find Γ t=Option.some (.v (.bool b)):=by exact rfl) (hd:o.dst=some d:=by exact rfl) (hlt:d.blt B.n=true:=by exact rfl) (hc:Q06 ops z [(i,ch)] listed=true:=by kernel_rfl):StD B ws M' Lp Ms g Γ H nl (QI P ops Q (Kp ws M') z (fuel+1) listed):=D.sx i ch hQ hs (.skip j want t b hb' hg ht hb) k ho hd hlt hc
theorem D.pt{A:AVal}{d:Nat}(i:Nat)(ch:List Nat)(j:Nat)(want:Bool)(t:Nat){b:Bool}(hb':b=want)[htb:TabOk P tb]
  (k:StD B ws M' Lp Ms g ((d,A) :: Γ) H nl (QI P ops Q (Kp ws M') z fuel (listed.setIfInBounds i true))) (hQ:Ka Q:=by assumption) (hs:Region.noSelect ops=true:=by assumption) (ho:ops[i]?=some o:=by exact rfl) (hg:o.guard=Option.some (j,want):=by exact rfl) (ht:Q0g ops j=Option.some t:=by exact rfl) (hb:find Γ t=Option.some (.v (.bool b)):=by exact rfl) (hd:o.dst=some d:=by exact rfl) (hlt:d.blt B.n=true:=by exact rfl) (h:ZD tb Γ H o.op=some A:=by exact rfl) (hrl:rdOk g Lp none=true:=by exact rfl) (hc:Q06 ops z [(i,ch)] listed=true:=by kernel_rfl):StD B ws M' Lp Ms g Γ H nl (QI P ops Q (Kp ws M') z (fuel+1) listed):=D.q i ch hQ hs ho (.take j want t b hb' hg ht hb) hd hlt (Rd.p h) hrl hc k
theorem D.kt{A:AVal}{d:Nat}{c x y:Operand}{b:Bool}(i:Nat)(ch:List Nat)(hb:b=true)
  (k:StD B ws M' Lp Ms g ((d,A) :: Γ) H nl (QI P ops Q (Kp ws M') z fuel (listed.setIfInBounds i true))) (hQ:Ka Q:=by assumption) (hs:Region.noSelect ops=true:=by assumption) (ho:ops[i]?=some o:=by exact rfl) (hg:o.guard=none:=by exact rfl) (hd:o.dst=some d:=by exact rfl) (hlt:d.blt B.n=true:=by exact rfl) (hop:o.op=.pick c x y:=by exact rfl) (hcd:ev Γ c=some (.v (.bool b)):=by exact rfl) (hx:ev Γ x=some A:=by exact rfl) (hrl:rdOk g Lp none=true:=by exact rfl) (hc:Q06 ops z [(i,ch)] listed=true:=by kernel_rfl):StD B ws M' Lp Ms g Γ H nl (QI P ops Q (Kp ws M') z (fuel+1) listed):=D.q i ch hQ hs ho (.none hg) hd hlt (Rd.pk hop hcd hb hx) hrl hc k
theorem D.kf{A:AVal}{d:Nat}{c x y:Operand}{b:Bool}(i:Nat)(ch:List Nat)(hb:b=false)
  (k:StD B ws M' Lp Ms g ((d,A) :: Γ) H nl (QI P ops Q (Kp ws M') z fuel (listed.setIfInBounds i true))) (hQ:Ka Q:=by assumption) (hs:Region.noSelect ops=true:=by assumption) (ho:ops[i]?=some o:=by exact rfl) (hg:o.guard=none:=by exact rfl) (hd:o.dst=some d:=by exact rfl) (hlt:d.blt B.n=true:=by exact rfl) (hop:o.op=.pick c x y:=by exact rfl) (hcd:ev Γ c=some (.v (.bool b)):=by exact rfl) (hx:ev Γ y=some A:=by exact rfl) (hrl:rdOk g Lp none=true:=by exact rfl) (hc:Q06 ops z [(i,ch)] listed=true:=by kernel_rfl):StD B ws M' Lp Ms g Γ H nl (QI P ops Q (Kp ws M') z (fuel+1) listed):=D.q i ch hQ hs ho (.none hg) hd hlt (Rd.pk' hop hcd hb hx) hrl hc k
theorem C.ss{c:Code}{id:Nat}{ops:Array Oper}(k:St B Γ H nl (wpOps P ops (Exit.then (c.wp P Q) Q) (List.range ops.size))):St B Γ H nl ((Code.seq (Code.region id ops false) c).wp P Q):=C.seq (U.start k)
theorem C.xs{x y:Code}{Q:Exit->Act->World->Prop}(k:St B Γ H nl (x.wp P (Exit.then (y.wp P Q) Q))):St B Γ H nl (Exit.then ((Code.seq x y).wp P Q) Q .normal):=C.nx (C.seq k)
theorem C.xt{c:Code}{id:Nat}{ops:Array Oper}{Q:Exit->Act->World->Prop}(k:St B Γ H nl (wpOps P ops (Exit.then (c.wp P Q) Q) (List.range ops.size))):St B Γ H nl (Exit.then ((Code.seq (Code.region id ops false) c).wp P Q) Q .normal):=C.nx (C.ss k)
theorem Tr.go{f:FuncId}{fn:Func}{c:Code}{n:Nat}{As:List AVal}{Ψ:AVal->Heap->Nat->Prop}(hf:P.funcs[f]?=some fn)(hn:fn.ntmps=n)
  (h:∀w0 ok F β,β.length=nl->St ⟨n,nl,β,w0,ok,F,[]⟩ (params 0 As) H nl (c.wp P (Wx P fn (RetM w0 ok F β Ψ)))) (hb:fn.body=some c:=by exact rfl) (hA:As.length.ble n=true:=by exact rfl):Tr P f As H nl Ψ:=Tr.intro hf hb hn hA h
end
def hdG(ops:Array Oper)(l:List Nat):Option (Nat×Bool):=match l with
 | []=>none
 | i :: _=>match ops[i]? with
  | some o=>o.guard
  | none=>none
section
variable {P:Program} {B:Base} {tb:Tab} {Γ Γ':Env} {H H':Heap} {nl nl':Nat} {ops:Array Oper} {Q:Exit->Act->World->Prop} {i z fuel:Nat} {rest:List Nat} {o:Oper} {ws:World} {M':Nat->Prop} {Lp Ms:List Nat} {g:Bool} {listed listed':Array Bool} {A:AVal} {rl:Option (List Nat)} {d:Nat} {m:EM} {ms:List Nat} {gr:Bool}
theorem U.R(ho:ops[i]?=some o)(h:Rd P B Γ H nl o A rl)(k:St B ((d,A) :: Γ) H nl (wpOps P ops Q rest))(hw:G5 ops Γ o true:=by exact .none rfl)(hd:o.dst=some d:=by exact rfl)(hlt:d.blt B.n=true:=by exact rfl):St B Γ H nl (wpOps P ops Q (i :: rest)):=U.r ho hw hd hlt h k
theorem G5.t{j t:Nat}{want b c:Bool}(hb':b=c)(h:o.guard=Option.some (j,want):=by exact rfl)(ht:Q0g ops j=Option.some t:=by exact rfl)(hw:c=want:=by exact rfl)(hb:find Γ t=Option.some (.v (.bool b)):=by exact rfl):G5 ops Γ o true:=.take j want t b (hb'.trans hw) h ht hb
theorem U.Rt{j t:Nat}{want b c:Bool}(hb':b=c)(ho:ops[i]?=some o)(h:Rd P B Γ H nl o A rl)(k:St B ((d,A) :: Γ) H nl (wpOps P ops Q rest))(hg:o.guard=Option.some (j,want):=by exact rfl)(ht:Q0g ops j=Option.some t:=by exact rfl)(hw:c=want:=by exact rfl)(hb:find Γ t=Option.some (.v (.bool b)):=by exact rfl)(hd:o.dst=some d:=by exact rfl)(hlt:d.blt B.n=true:=by exact rfl):St B Γ H nl (wpOps P ops Q (i :: rest)):=U.r ho (.t hb' hg ht hw hb) hd hlt h k
theorem U.E(ho:ops[i]?=some o)(h:Eff1 P B Γ H nl o Γ' H' nl' m)(k:St B Γ' H' nl' (wpOps P ops Q rest))(hw:G5 ops Γ o true:=by exact .none rfl):St B Γ H nl (wpOps P ops Q (i :: rest)):=U.e1 ho hw h k
theorem U.S(kn:Nat){j t:Nat}{want b c:Bool}(hb:b=c){l l':List Nat}(kk:St B Γ' H nl (wpOps P ops Q l'))(hg:hdG ops l=some (j,want):=by exact rfl)(hs:Q0g ops j=some t:=by exact rfl)(hw:c=!want:=by exact rfl)(hf:find Γ t=some (.v (.bool b)):=by exact rfl)(h:Q1O ops B.n (j,want) t kn l Γ=some (Γ',l'):=by exact rfl):St B Γ H nl (wpOps P ops Q l):=U.sks kn j want t (hb.trans hw) hs hf h kk
theorem U.G(kn:Nat){j t:Nat}{want b c:Bool}(hb:b=c)[htb:TabOk P tb]{l l':List Nat}(kk:St B Γ' H nl (wpOps P ops Q l'))(hg:hdG ops l=some (j,want):=by exact rfl)(hs:Q0g ops j=some t:=by exact rfl)(hw:c=want:=by exact rfl)(hf:find Γ t=some (.v (.bool b)):=by exact rfl)(hk:Qah ops t kn l=true:=by exact rfl)(h:Q1i tb ops H B.n (some (j,want)) kn l Γ=some (Γ',l'):=by exact rfl):St B Γ H nl (wpOps P ops Q l):=U.pg kn j want t (hb.trans hw) hs hf hk h kk
theorem D.R(i:Nat)(ch:List Nat)(ho:ops[i]?=some o)(h:Rd P B Γ H nl o A rl)(k:StD B ws M' Lp Ms g ((d,A) :: Γ) H nl (QI P ops Q (Kp ws M') z fuel (listed.setIfInBounds i true)))(hQ:Ka Q:=by assumption)(hs:Region.noSelect ops=true:=by assumption)(hw:G5 ops Γ o true:=by exact .none rfl)(hd:o.dst=some d:=by exact rfl)(hlt:d.blt B.n=true:=by exact rfl)(hrl:rdOk g Lp rl=true:=by exact rfl)(hc:Q06 ops z [(i,ch)] listed=true:=by kernel_rfl):StD B ws M' Lp Ms g Γ H nl (QI P ops Q (Kp ws M') z (fuel+1) listed):=D.q i ch hQ hs ho hw hd hlt h hrl hc k
theorem D.Rt(i:Nat)(ch:List Nat){j t:Nat}{want b c:Bool}(hb':b=c)(ho:ops[i]?=some o)(h:Rd P B Γ H nl o A rl)(k:StD B ws M' Lp Ms g ((d,A) :: Γ) H nl (QI P ops Q (Kp ws M') z fuel (listed.setIfInBounds i true)))(hQ:Ka Q:=by assumption)(hs:Region.noSelect ops=true:=by assumption)(hg:o.guard=Option.some (j,want):=by exact rfl)(ht:Q0g ops j=Option.some t:=by exact rfl)(hw:c=want:=by exact rfl)(hb:find Γ t=Option.some (.v (.bool b)):=by exact rfl)(hd:o.dst=some d:=by exact rfl)(hlt:d.blt B.n=true:=by exact rfl)(hrl:rdOk g Lp rl=true:=by exact rfl)(hc:Q06 ops z [(i,ch)] listed=true:=by kernel_rfl):StD B ws M' Lp Ms g Γ H nl (QI P ops Q (Kp ws M') z (fuel+1) listed):=D.q i ch hQ hs ho (.t hb' hg ht hw hb) hd hlt h hrl hc k
theorem D.G(i:Nat)(ch:List Nat){j t:Nat}{want b c:Bool}(hb':b=c)[htb:TabOk P tb](k:StD B ws M' Lp Ms g ((d,A) :: Γ) H nl (QI P ops Q (Kp ws M') z fuel (listed.setIfInBounds i true)))(hQ:Ka Q:=by assumption)(hs:Region.noSelect ops=true:=by assumption)(ho:ops[i]?=some o:=by exact rfl)(hg:o.guard=Option.some (j,want):=by exact rfl)(ht:Q0g ops j=Option.some t:=by exact rfl)(hw:c=want:=by exact rfl)(hb:find Γ t=Option.some (.v (.bool b)):=by exact rfl)(hd:o.dst=some d:=by exact rfl)(hlt:d.blt B.n=true:=by exact rfl)(h:ZD tb Γ H o.op=some A:=by exact rfl)(hrl:rdOk g Lp none=true:=by exact rfl)(hc:Q06 ops z [(i,ch)] listed=true:=by kernel_rfl):StD B ws M' Lp Ms g Γ H nl (QI P ops Q (Kp ws M') z (fuel+1) listed):=D.Rt i ch hb' ho (Rd.p h) k hQ hs hg ht hw hb hd hlt hrl hc
theorem D.S(i:Nat)(ch:List Nat){j t:Nat}{want b c:Bool}(hb':b=c)(k:StD B ws M' Lp Ms g ((d,.v undef) :: Γ) H nl (QI P ops Q (Kp ws M') z fuel (listed.setIfInBounds i true)))(hQ:Ka Q:=by assumption)(hs:Region.noSelect ops=true:=by assumption)(ho:ops[i]?=some o:=by exact rfl)(hg:o.guard=Option.some (j,want):=by exact rfl)(ht:Q0g ops j=Option.some t:=by exact rfl)(hw:c=!want:=by exact rfl)(hb:find Γ t=Option.some (.v (.bool b)):=by exact rfl)(hd:o.dst=some d:=by exact rfl)(hlt:d.blt B.n=true:=by exact rfl)(hc:Q06 ops z [(i,ch)] listed=true:=by kernel_rfl):StD B ws M' Lp Ms g Γ H nl (QI P ops Q (Kp ws M') z (fuel+1) listed):=D.sx i ch hQ hs (.skip j want t b (hb'.trans hw) hg ht hb) k ho hd hlt hc
theorem D.U(i:Nat)(ch:List Nat){j t:Nat}{want:Bool}(k:StD B ws M' Lp Ms g ((d,.v undef) :: Γ) H nl (QI P ops Q (Kp ws M') z fuel (listed.setIfInBounds i true)))(hQ:Ka Q:=by assumption)(hs:Region.noSelect ops=true:=by assumption)(ho:ops[i]?=some o:=by exact rfl)(hg:o.guard=Option.some (j,want):=by exact rfl)(ht:Q0g ops j=Option.some t:=by exact rfl)(hb:find Γ t=Option.some (.v undef):=by exact rfl)(hd:o.dst=some d:=by exact rfl)(hlt:d.blt B.n=true:=by exact rfl)(hc:Q06 ops z [(i,ch)] listed=true:=by kernel_rfl):StD B ws M' Lp Ms g Γ H nl (QI P ops Q (Kp ws M') z (fuel+1) listed):=D.sx i ch hQ hs (.und j want t hg ht hb) k ho hd hlt hc
theorem D.E(i:Nat)(ho:ops[i]?=some o)(h:Eff1 P B Γ H nl o Γ' H' nl' (.fx ms gr))(k:StD B ws M' Lp Ms (g||gr) Γ' H' nl' (QI P ops Q (Kp ws M') z fuel (listed.setIfInBounds i true)))(hw:G5 ops Γ o true:=by exact .none rfl)(hr:Region.ready .any ops listed=[i]:=by kernel_rfl)(hiz:i.beq z=false:=by exact rfl)(hms:ms.all (λl=>Ms.contains l)=true:=by exact rfl):StD B ws M' Lp Ms g Γ H nl (QI P ops Q (Kp ws M') z (fuel+1) listed):=D.e1 i ho hw h hr hiz hms k
theorem D.F(ho:ops[i]?=some o)(h:Eff1 P B Γ H nl o Γ' H' nl' (.fx ms gr))(k:StD B ws M' Lp Ms (g||gr) Γ' H' nl' (QI P ops Q (Kp ws M') z fuel (listed.setIfInBounds i true)))(hw:G5 ops Γ o true:=by exact .none rfl)(hiz:i.beq z=false:=by exact rfl)(hms:ms.all (λl=>Ms.contains l)=true:=by exact rfl):StD B ws M' Lp Ms g Γ H nl (Q8y P ops Q (Kp ws M') z fuel listed i):=D.ef1 ho hw h hiz hms k
theorem D.Z(ho:ops[z]?=some o)(h:Eff1 P B Γ H nl o Γ' H' nl' m)(k:St B Γ' H' nl' (Q .normal))(hw:G5 ops Γ o true:=by exact .none rfl)(hr:Region.ready .any ops listed=[z]:=by kernel_rfl)(hr':Region.ready .any ops (listed.setIfInBounds z true)=[]:=by kernel_rfl):StD B ws M' Lp Ms g Γ H nl (QI P ops Q (Kp ws M') z (fuel+1) listed):=D.ze1 ho hw h hr hr' k
theorem D.dn(k:St B Γ H nl (Q .normal))(hr:Region.ready .any ops listed=[]:=by kernel_rfl):StD B ws M' Lp Ms g Γ H nl (QI P ops Q (Kp ws M') z fuel listed):=D.done hr k
end
section
variable {P:Program} {B:Base} {tb:Tab} {Γ Γ':Env} {H:Heap} {nl id:Nat} {ops:Array Oper} {c:Code} {K K1 K2 K3:Act->World->Prop} {Q:Exit->Act->World->Prop}
theorem C.a(n:Nat)[htb:TabOk P tb](k:St B Γ' H nl (c.wp P Q))(h:Q1i tb ops H B.n none n (List.range ops.size) Γ=some (Γ',[]):=by exact rfl):St B Γ H nl ((Code.seq (Code.region id ops false) c).wp P Q):=C.ss (U.pd n (C.nx k) h)
theorem C.xw{i2:Nat}(k:St B Γ H nl (Q .normal)):St B Γ H nl ((Code.exit i2).wp P (Exit.then K (Exit.then K1 (Exit.inBlock i2 Q)))):=C.exit (C.ex (C.ex (C.bex k)))
theorem C.nr(k:St B Γ H nl (Q .ret)):St B Γ H nl (Exit.then (Code.ret.wp P Q) Q .normal):=C.nx (C.ret k)
theorem C.r5{i1 i2:Nat}(k:St B Γ H nl (Q .ret)):St B Γ H nl (Exit.inBlock i1 (Exit.then K (Exit.then K1 (Exit.inBlock i2 (Exit.then K2 Q)))) .ret):=C.brt (C.rt (C.rt (C.brt (C.rt k))))
theorem C.sb{i1:Nat}(k:St B Γ H nl (wpOps P ops Q (List.range ops.size))):St B Γ H nl (Code.skip.wp P (Exit.inBlock i1 (Exit.then ((Code.region id ops false).wp P Q) Q))):=C.skip (C.bnx (C.nx (U.start k)))
end
theorem TEok.k{P:Program}{t:Nat}{e:TE}{d:_}{z:_}(i:_)(hu:P.underlying t=some d)(hi:P.info? t=some i:=by kernel_rfl)(hf:e.ti.fits d:=by first | exact rfl | exact⟨_,rfl,rfl⟩ | exact⟨_,_,_,rfl⟩)(h1:i.size=e.n:=by exact rfl)(h2:i.bytes=e.bytes:=by exact rfl)(h3:i.zero=some z:=by exact rfl)(h4:z.cells.toList=e.zc:=by exact rfl)(h5:e.ti.agg=true->∃cs,z=.agg cs:=by first | exact λ_=>⟨_,rfl⟩ | exact λh=>by cases h)(h6:e.zc.length=e.n:=by exact rfl)(h7:∀x∈e.zc,x.oneCell'=true:=by decide):TEok P t e:=⟨⟨d,hu,hf⟩,i,z,hi,h1,h2,h3,h4,h5,h6,h7⟩
theorem FnX{a b:Func}{x:Option Func}(h:x=some a)(e:a=b:=by kernel_rfl):x=some b:=h.trans (congrArg some e)
abbrev Foot:=World->(Nat->Prop)->(Nat->Prop)->Prop
def Cap{α:Type}(P:Program)(l:Nat)(encs:α->List AVal)(E Ex:Foot):List α->Foot
 | []=>E
 | x :: ys=>λW ok F=>∀(w:World) (ok2:Nat->Prop) (β:List Value) (vs:Array Value),(∀b,ok b->ok2 b∧w.heap[b]?=W.heap[b]?)->(∀b,F b->w.heap[b]?=W.heap[b]?)->(∀b,ok2 b->b<w.heap.size∧¬F b)->DnL w ok2 β (encs x) vs ->
   YieldAt Fence.wide 1 P l vs w λe W'=>Kp w F W'∧∃ok' F':Nat->Prop,(∀b,ok2 b->ok' b)∧(∀b,ok' b->(ok2 b∨F b∨w.heap.size≤b)∧b<W'.heap.size)∧(∀b,F' b->(F b∨w.heap.size≤b)∧b<W'.heap.size∧¬ok' b) ∧
    ((e=.returned (.bool true)∧Cap P l encs E Ex ys W' ok' F')∨(e=.returned (.bool false)∧Ex W' ok' F'))
def CapO{α:Type}(P:Program)(l:Nat)(encs:α->List AVal)(E Ex:Foot):Option (List α)->Foot
 | some ys=>Cap P l encs E Ex ys
 | none=>Ex
def Yld{α:Type}(o:Option (List α))(x:α)(k:Bool×Option (List α)->Prop):Prop:=∃ys,o=some (x :: ys)∧k (true,some ys)∧k (false,none)
def Fr(r:Option Nat):Fence:={Fence.wide with round:=r}
theorem Q9z{r:Option Nat}{n:Nat}{P:Program}{row:String}{args:Array Value}{w:World}{R:Value->World->Prop}(h:Rows P row args w R):RowsIn (Fr r) n P row args w R:=
 λc cs _=>let ⟨v,w',r,s⟩:=h c cs;⟨v,w',r,stepsIn_wide.2 s⟩
theorem Q8o{r:Option Nat}{n:Nat}{P:Program}{f:FuncId}{args:Array Value}{w:World}{R:Ending->World->Prop}(h:Calls P f args w R):CallsIn (Fr r) n P f args w R:=
 (callsIn_wide (n:=n)).2 h
section
variable {r:Option Nat} {n:Nat} {P:Program} {ops:Array Oper} {Q:Exit->Act->World->Prop}
theorem Oper.wpIn_fr{o:Oper}{a:Act}{w:World}{K:Act->World->Prop}(ht:ZL o.op=true)(h:o.wp P a w K Q):o.wpIn (Fr r) n P a w K Q:=by
 refine⟨λ_ _=>trivial,?_⟩;rw [Oper.semAt_eq _ _ _ (by rintro c e;rw [e] at ht;cases ht)];unfold Oper.wp at h;cases hr:(execOp a.eval o).run P w with
 | ok x w'=>
  rw [hr] at h;cases x <;> first
   | exact h
   | exact h.elim
   | exact⟨λh=>(by cases h),Q9z h⟩
   | exact⟨λh=>(by cases h),Q8o h⟩
 | halt x w'=>
  rw [hr] at h;cases x <;> first | exact h | exact h.elim
theorem Q9a(ht:ops.all (λo=>ZL o.op)=true)(hQ:¬LetsOut Q){i:Nat}{K K':Act->World->Prop}(hK:∀a w,K a w->K' a w){a:Act}{w:World}(h:wpOp P ops Q i K a w):wpOpIn (Fr r) n P ops Q i K' a w:=by
 unfold wpOp at h;unfold wpOpIn;cases ho:ops[i]? with
 | none=>rw [ho] at h;exact hK _ _ h
 | some o=>
  rw [ho] at h;have hto:ZL o.op=true:=by
   rw [Array.all_eq_true] at ht;obtain⟨hi,rfl⟩:=Array.getElem?_eq_some_iff.1 ho;exact ht i hi
  simp only at h ⊢;split
  ·rename_i hw;rw [gF hw] at h;rcases h with h | ⟨_,h⟩
   ·exact Oper.wpIn_mono hK (Oper.wpIn_fr hto h)
   ·exact absurd h hQ
  ·rename_i hw;rw [gC hw] at h;exact⟨λf _=>trivial,hK _ _ h⟩
theorem Q3F(ht:ops.all (λo=>ZL o.op)=true)(hQ:¬LetsOut Q){js:List Nat}:∀(is:List Nat) (a:Act) (w:World),wpOps P ops (Exit.then (wpOpsIn (Fr r) n P ops Q js) Q) is a w->wpOpsIn (Fr r) n P ops Q (is++js) a w
 | [],a,w,h=>by simp only [wpOps] at h;exact h
 | i :: is,a,w,h=>by
  rw [wpOps_cons] at h;rw [List.cons_append,wpOpsIn_cons];have h':wpOp P ops Q i (wpOps P ops (Exit.then (wpOpsIn (Fr r) n P ops Q js) Q) is) a w:=by
   unfold wpOp at h ⊢;cases ho:ops[i]? with
   | none=>rw [ho] at h;exact h
   | some o=>rw [ho] at h;exact h
  exact Q9a ht hQ (Q3F ht hQ is) h'
end
section
variable {r:Option Nat} {P:Program} {ops:Array Oper} {Q:Exit->Act->World->Prop} {B:Base} {Γ:Env} {H:Heap} {nl:Nat}
theorem Y.start{id:Nat}(k:St B Γ H nl (wpOpsIn (Fr none) 1 P ops Q (List.range ops.size))):St B Γ H nl ((Code.region id ops false).wp P Q):=λa w hf=>(wpIn_wide (n:=1)).1 (wpIn_region (k a w hf))
theorem Y.pre{al:List Nat}(is js:List Nat)(he:al=is++js)(ht:ops.all (λo=>ZL o.op)=true)(hQ:X7 Q)(k:St B Γ H nl (wpOps P ops (Exit.then (wpOpsIn (Fr r) 1 P ops Q js) Q) is)):St B Γ H nl (wpOpsIn (Fr r) 1 P ops Q al):=λa w hf=>he▸Q3F ht hQ is a w (k a w hf)
theorem X7.body{fn:Func}{R:Ending->World->Prop}:X7 (Wx P fn R):=λ⟨_,_,h⟩=>h.elim
theorem Y.done(k:St B Γ H nl (Q .normal)):St B Γ H nl (wpOpsIn (Fr r) 1 P ops Q []):=λa w hf=>k a w hf
theorem Y.yield{α:Type}{E Ex:Foot}{encs:α->List AVal}{x:α}{oy:Option (List α)}{K:Bool×Option (List α)->Prop}{o:Oper}{i d l c:Nat}{is:List Nat}{g:Operand}{args:Array Operand}{ts:Array TypeId}
  (hm:Yld oy x K) (ho:ops[i]?=some o) (hop:o.op=.call ⟨.value g,args,ts⟩) (hgd:o.guard=none) (hd:o.dst=some d) (hlt:d.blt B.n=true) (hg:ev Γ g=some (.v (.func (.yield l) #[] #[]))) (has:evs Γ args.toList=some (encs x))
  (hc:find H c=some (.abs (CapO P l encs E Ex oy)))
  (k:∀y,K y->St B ((d,.b y.1) :: Γ) ((c,.abs (CapO P l encs E Ex y.2)) :: rmH H c) nl (wpOpsIn (Fr r) 1 P ops Q is)):St B Γ H nl (wpOpsIn (Fr r) 1 P ops Q (i :: is)):=by
 rintro a w ⟨B',β,F,hx,hβ,hf⟩;obtain⟨ys,rfl,k1,k2⟩:=hm;obtain⟨hlen,hdn⟩:=ZT (a:=a) hf.env has;have hge:=(Qf (a:=a) hf.env hg).v_inv;obtain⟨h1,h2⟩:=hf.same;obtain⟨F1',hsub,⟨⟨x0,hx0⟩,W,ok1,F1,hΦ,g1,g2⟩,hrest⟩:=hf.heap.rm hc;obtain⟨fn,tmps,assign,body,hy,hR⟩:=hΦ w B'.ok β (args.map a.eval) (λb hb=>⟨(g1 b hb).1,(h1 b (g1 b hb).1).trans (g1 b hb).2.2⟩) (λb hb=>(g2 b hb).2.2) (λb hb=>⟨gG (hf.ok b hb).1 hf.kp.size,λhF=>h2 b hb (hsub b (g2 b hF).1)⟩)
  ⟨by simpa using hlen,λj A hA=>by
   have:=(hdn j A hA).lift h1 (λ_ h=>h);rw [gA,<-Array.getElem?_toList,Array.toList_map];simpa using this⟩
 rw [wpOpsIn_cons];unfold wpOpIn;rw [ho];simp only;have hw:Region.wanted o (yielded ops a.tmps)=true:=by simp [Region.wanted,hgd]
 rw [gF hw];refine⟨λ_ _=>trivial,?_⟩;rw [Oper.semAt_eq _ _ _ (by rintro c e;rw [e] at hop;cases hop)];have hrun:(execOp a.eval o).run P w=.ok (.round l fn tmps assign body) w:=by
  unfold execOp;rw [hop];simp [resolve,Deferred.ofValue,hge,invoke,hy]
 rw [hrun];show (_->_)∧RoundIn _ _ _ _ _ _ _ _ _ _;refine⟨λh=>(by cases h),RoundIn.mono (show RoundIn (Fr r) 0 P l fn tmps assign body w _ from ⟨trivial,λcc cs _=>hR.2 cc cs (room_wide _)⟩) ?_⟩;rintro e W' ⟨hkp,ok',F',p1,p2,p3,he⟩;have hlt1:∀b,F1 b->F b:=λb hb=>hsub b (g2 b hb).1
 have hsz:∀b,F b->b<w.heap.size:=λb hb=>(hf.own b hb).1
 let F3:Nat->Prop:=λb=>F' b∨(F b∧¬F1' b)
 have hFM:∀b,F b->B'.M b∨B'.w0.heap.size≤b:=λb hb=>by
  rcases gH b B'.w0.heap.size with h | h
  ·exact .inl ((hf.own b hb).2 h)
  ·exact .inr h
 have hok3:∀b,F3 b->¬ok' b:=λb hb ho'=>by
  rcases hb with hb | ⟨hb,hb'⟩
  ·exact (p3 b hb).2.2 ho'
  ·rcases (p2 b ho').1 with h | h | h
   ·exact h2 b h hb
   ·exact hb' (g2 b h).1
   ·have:=hsz b hb;omega
 have hblk:∀b,B'.ok b->W'.heap[b]?=B'.w0.heap[b]?:=λb hb=>(hkp.block b (gG (hf.ok b hb).1 hf.kp.size) (λhF=>h2 b hb (hlt1 b hF))).trans (h1 b hb)
 have key:∀(y:Option (List α)),CapO P l encs E Ex y W' ok' F'->∀(v:Value) (A:AVal),Dn W' ok' β A v->Fits B ((d,A) :: Γ) ((c,.abs (CapO P l encs E Ex y)) :: rmH H c) nl (a.put (some d) v) W':=λy hy' v A hA=>by
  refine⟨⟨B'.n,B'.k,B'.b0,W',ok',F3,B'.ds⟩,β,F3,hx.trans ⟨rfl,rfl,rfl,hf.kp.trans hkp (λx hx' hlt'=>(hf.own x (hlt1 x hx')).2 hlt'),p1,λb hb=>?_,λb hb=>?_,[],rfl,.nil,by simp⟩,hβ,?_⟩
  ·rcases (p2 b hb).1 with h | h | h
   ·exact .inl h
   ·exact .inr (hFM b (hlt1 b h))
   ·exact .inr (.inr (Nat.le_trans hf.kp.size h))
  ·rcases hb with hb | hb
   ·rcases (p3 b hb).1 with h | h
    ·exact hFM b (hlt1 b h)
    ·exact .inr (Nat.le_trans hf.kp.size h)
   ·exact hFM b hb.1
  ·have hfb:XA ⟨B'.n,B'.k,B'.b0,W',ok',F3,B'.ds⟩ β F3 Γ ((c,.abs (CapO P l encs E Ex y)) :: rmH H c) a W':=by
    refine⟨.refl _ _,λb hb=>⟨(p2 b hb).2,λh=>hok3 b h hb⟩,λb hb=>⟨?_,λ_=>hb⟩,?_,λt C hC=>(hf.env t C hC).lift hblk p1,hf.size,hf.defers,hf.pre⟩
    ·rcases hb with hb | hb
     ·exact (p3 b hb).2.1
     ·exact gG (hsz b hb.1) hkp.size
    ·refine⟨F',λb=>F b∧¬F1' b,λb hb=>.inl hb,λb hb=>.inr hb,λb hb hb'=>?_,⟨⟨x0,hx0⟩,W',ok',F',hy',λb hb=>⟨hb,(p2 b hb).2,rfl⟩,λb hb=>⟨hb,(p3 b hb).2.1,rfl⟩⟩,?_⟩
     ·rcases (p3 b hb).1 with h | h
      ·exact hb'.2 (g2 b h).1
      ·have:=hsz b hb'.1;omega
     ·exact (hrest.later (λb hb hlt'=>hkp.block b hlt' (λhF=>hb.2 (g2 b hF).1))).lift hblk p1
   exact hfb.put (by have:=hx.n;show d.blt B'.n=true;rw [this];exact hlt) hA
 rcases he with ⟨rfl,he⟩ | ⟨rfl,he⟩
 ·have:=k _ k1 _ _ (key (some ys) he (.bool true) (.b true) (.ro (.v _)));rw [hd];exact this
 ·have:=k _ k2 _ _ (key none he (.bool false) (.b false) (.ro (.v _)));rw [hd];exact this
end
def Qa2:List Nat->List AVal->Env->Env
 | p :: ps,A :: As,Γ=>Qa2 ps As ((p,A) :: Γ)
 | _,_,Γ=>Γ
theorem Q7E{w:World}{ok:Nat->Prop}{β:List Value}:∀(ps:List Nat) (As:List AVal) (vs:List Value) (Γ:Env) (a:Act),As.length=vs.length->(∀(j:Nat) (A:AVal),As[j]?=some A->Dn w ok β A (vs[j]?.getD undef))->(∀p,p∈ps->p<a.tmps.size)->Q0j w ok β Γ a ->
  Q0j w ok β (Qa2 ps As Γ) {a with tmps:=(ps.zip vs).foldl (λt (p,v)=>t.setIfInBounds p v) a.tmps}∧((ps.zip vs).foldl (λt (p,v)=>t.setIfInBounds p v) a.tmps).size=a.tmps.size
 | [],As,vs,Γ,a,_,_,_,he=>⟨he,rfl⟩
 | p :: ps,[],[],Γ,a,_,_,hp,he=>⟨he,rfl⟩
 | p :: ps,[],v :: vs,Γ,a,hl,_,hp,he=>by simp at hl
 | p :: ps,A :: As,[],Γ,a,hl,_,hp,he=>by simp at hl
 | p :: ps,A :: As,v :: vs,Γ,a,hl,hd,hp,he=>by
  have h1:=he.set (v:=v) (A:=A) (hp p (List.mem_cons_self ..)) (by simpa using hd 0 A rfl);have hs:(a.put (some p) v).tmps.size=a.tmps.size:=by simp [Act.put]
  obtain⟨g1,g2⟩:=Q7E ps As vs _ _ (by simpa using hl) (λj C hC=>by simpa using hd (j+1) C (by simpa using hC)) (λq hq=>by rw [hs];exact hp q (List.mem_cons_of_mem _ hq)) h1;exact⟨g1,g2.trans hs⟩
def CO(w:World)(okc:Nat->Prop)(k:Nat)(b0:List Value)(D L:Nat)(rc:Go.Loop)(H:Heap)(nl:Nat):Foot:=λW ok' Fx=>∃(β1:List Value) (F1:Nat->Prop),β1.length=nl∧(∀b,Fx b↔F1 b∨b=D∨b=L)∧(∀b,okc b->ok' b∧W.heap[b]?=w.heap[b]?) ∧
 (∀b,ok' b->b<W.heap.size∧¬Fx b)∧(∀b,F1 b->b<W.heap.size∧b≠D∧b≠L)∧HOk W ok' β1 W H F1∧(∀(l:Nat) (x:Value),l<k->b0[l]?=some x->β1[l]?=some x)∧W.heap[L]?=some (.loop rc)∧W.heap[D]?=some (.deferred (some []))
section
variable {P:Program} {w W W':World} {okc ok' ok2 Fx:Nat->Prop} {k nl D L:Nat} {b0:List Value} {rc rc':Go.Loop} {H:Heap}
theorem CO.later(h:CO w okc k b0 D L rc H nl W ok' Fx)(h1:∀b,ok' b->ok2 b∧W'.heap[b]?=W.heap[b]?)(h2:∀b,Fx b->W'.heap[b]?=W.heap[b]?)(h3:∀b,ok2 b->b<W'.heap.size∧¬Fx b):CO w okc k b0 D L rc H nl W' ok2 Fx:=by
 obtain⟨β1,F1,g1,g2,g3,g4,g5,g6,g7,g8,g9⟩:=h;refine⟨β1,F1,g1,g2,λb hb=>⟨(h1 b (g3 b hb).1).1,(h1 b (g3 b hb).1).2.trans (g3 b hb).2⟩,h3,λb hb=>⟨?_,(g5 b hb).2⟩,?_,g7,(h2 L ((g2 L).2 (.inr (.inr rfl)))).trans g8,(h2 D ((g2 D).2 (.inr (.inl rfl)))).trans g9⟩
 ·have:=h2 b ((g2 b).2 (.inl hb));rw [Array.getElem?_eq_getElem (g5 b hb).1] at this;exact Gt this
 ·exact (g6.later (λb hb _=>h2 b ((g2 b).2 (.inl hb)))).lift (λb hb=>(h1 b hb).2) (λb hb=>(h1 b hb).1)
theorem CO.turn(h:CO w okc k b0 D L rc H nl W ok' Fx)(hDL:D≠L)(rc':Go.Loop):CO w okc k b0 D L rc' H nl (W.putObj L (.loop rc')) ok' Fx:=by
 obtain⟨β1,F1,g1,g2,g3,g4,g5,g6,g7,g8,g9⟩:=h;have hb:∀b,b≠L->(W.putObj L (.loop rc')).heap[b]?=W.heap[b]?:=λb hb=>World.putObj_heap_other hb
 have hok:∀b,ok' b->b≠L:=λb hb e=>(g4 b hb).2 ((g2 b).2 (.inr (.inr e)))
 refine⟨β1,F1,g1,g2,λb hb'=>⟨(g3 b hb').1,(hb b (hok b (g3 b hb').1)).trans (g3 b hb').2⟩,λb hb'=>by simpa using g4 b hb',λb hb'=>by simpa using g5 b hb',?_,g7,World.putObj_heap_same (Gt g8),(hb D hDL).trans g9⟩;exact (g6.later (λb hb' _=>hb b (g5 b hb').2.2)).lift (λb hb'=>hb b (hok b hb')) (λ_ h=>h)
theorem CO.env(h:CO w okc k b0 D L rc H nl W ok' Fx){Γ0:Env}{a:Act}{n0:Nat}(hb0:b0.length=n0)(he:Q0j w okc b0 Γ0 a)(hlab:mlΓ (pin k n0) Γ0=Γ0):∃β1 F1,β1.length=nl∧(∀b,Fx b↔F1 b∨b=D∨b=L)∧(∀b,F1 b->b<W.heap.size∧b≠D∧b≠L)∧HOk W ok' β1 W H F1 ∧
  (∀(l:Nat) (x:Value),l<k->b0[l]?=some x->β1[l]?=some x)∧∀(t:Nat) (A:AVal),find Γ0 t=some A->Dn W ok' β1 A (a.tmps.getD t undef):=by
 obtain⟨β1,F1,g1,g2,g3,g4,g5,g6,g7,g8,g9⟩:=h;refine⟨β1,F1,g1,g2,g5,g6,g7,λt A hA=>?_⟩;have hd:=(he t A hA).lift (w:=W) (ok':=ok') (λb hb=>(g3 b hb).2) (λb hb=>(g3 b hb).1);refine Dn.of_ml (f:=pin k n0) (β:=b0) (λl v hv=>?_) A _ (by rw [mlΓ_find hlab hA];exact hd);unfold pin at hv;by_cases hlk:l<k
 ·rw [show l.blt k=true from Nat.ble_eq_true_of_le hlk] at hv;exact g7 l v hlk hv
 ·have:l.blt k=false:=by cases hb:l.blt k with
   | false=>rfl
   | true=>exact absurd (Nat.le_of_ble_eq_true hb) hlk
  rw [this] at hv;simp only [cond_false] at hv;rw [gN (by omega)] at hv;cases hv
end
def Turn{σ:Type}(P:Program)(B:Base)(n k:Nat)(β:List Value)(ok M:Nat->Prop)(l:Nat)(body:Code)(Γ0:Env)(Q:Exit->Act->World->Prop)(Hf:σ->Heap)(nl:Nat)(Y:σ->Prop)(w0:World)(a:Act)(w:World):Prop:=
 ∃Γ1 H1 nl1,Fits ⟨n,k,β,w0,ok,M,[]⟩ Γ1 H1 nl1 a w∧∀w0',St ⟨n,k,β,w0',ok,M,[]⟩ Γ1 H1 nl1 (Rw P l body (Q8k P B ⟨n,k,β,w0',ok,M,[]⟩ Γ0 Q Hf nl Y))
theorem CI.turn{σ:Type}{P:Program}{B:Base}{n k:Nat}{β:List Value}{ok M:Nat->Prop}{l:Nat}{body:Code}{Γ0:Env}{Q:Exit->Act->World->Prop}{Hf:σ->Heap}{nl:Nat}{Y:σ->Prop}{w0:World}{Γ1:Env}{H1:Heap}{nl1:Nat}
  (h:∀w0',St ⟨n,k,β,w0',ok,M,[]⟩ Γ1 H1 nl1 (Rw P l body (Q8k P B ⟨n,k,β,w0',ok,M,[]⟩ Γ0 Q Hf nl Y))):St ⟨n,k,β,w0,ok,M,[]⟩ Γ1 H1 nl1 (Turn P B n k β ok M l body Γ0 Q Hf nl Y w0):=λa w hf=>⟨Γ1,H1,nl1,hf,h⟩
theorem X7.bot:X7 (λ_ _ _=>False):=λ⟨_,_,h⟩=>h
theorem Fits.turn{n k:Nat}{β:List Value}{W:World}{ok M:Nat->Prop}{Γ:Env}{H:Heap}{nl:Nat}{a:Act}{w:World}(h:Fits ⟨n,k,β,W,ok,M,[]⟩ Γ H nl a w){L:Nat}(hL:L<W.heap.size)(hok:¬ok L)(hM:¬M L)(o:Obj):Fits ⟨n,k,β,W.putObj L o,ok,M,[]⟩ Γ H nl a (w.putObj L o):=by
 obtain⟨B',β',F,hx,hβ,hf⟩:=h;have hb:∀(W:World) b,b≠L->(W.putObj L o).heap[b]?=W.heap[b]?:=λW b hb=>World.putObj_heap_other hb
 have hLB:L<B'.w0.heap.size:=gG hL hx.kp.size;have hLw:L<w.heap.size:=gG hLB hf.kp.size;have nok:¬B'.ok L:=λh=>by
  rcases hx.new L h with h | h | h
  ·exact hok h
  ·exact hM h
  ·simp at h;omega
 have nM:¬B'.M L:=λh=>by
  rcases hx.M L h with h | h
  ·exact hM h
  ·simp at h;omega
 have nF:¬F L:=λh=>nM ((hf.own L h).2 hLB)
 have kpp:∀{A C:World} {N:Nat->Prop},L<A.heap.size->L<C.heap.size->Kp A N C->Kp (A.putObj L o) N (C.putObj L o):=λ{A C N} hA hC hk=>⟨hk.os,hk.tape,hk.output,by simpa using hk.size,λb hlt hN=>by
  by_cases e:b=L
  ·subst e;rw [World.putObj_heap_same hC,World.putObj_heap_same hA]
  ·rw [hb _ b e,hb _ b e];exact hk.block b (by simpa using hlt) hN,hk.drawn⟩
 obtain⟨k1,k2⟩:=hf.same;refine⟨⟨B'.n,B'.k,B'.b0,B'.w0.putObj L o,B'.ok,B'.M,B'.ds⟩,β',F,⟨hx.n,hx.k,hx.b0,kpp hL hLB hx.kp,hx.ok,λb hb'=>by simpa using hx.new b hb',λb hb'=>by simpa using hx.M b hb',?_⟩,hβ,kpp hLB hLw hf.kp,λb hb'=>by simpa using hf.ok b hb',λb hb'=>by simpa using hf.own b hb',?_,λt A hA=>?_,hf.size,hf.defers,hf.pre⟩
 ·obtain⟨Ds,e1,e2,e3⟩:=hx.ds;refine⟨Ds,e1,e2,λD hD=>?_⟩;obtain⟨g1,g2,g3,g4⟩:=e3 D hD;simp only at g1;exact⟨by simpa using g1,(hb _ D (by omega)).trans g2,g3,g4⟩
 ·exact (hf.heap.later (λb hF _=>hb w b (λe=>nF (e▸hF)))).lift (λb ho=>hb _ b (λe=>nok (e▸ho))) (λ_ h=>h)
 ·exact (hf.env t A hA).lift (λb ho=>hb _ b (λe=>nok (e▸ho))) (λ_ h=>h)
theorem C.rangeI{P:Program}{B:Base}{Γ0:Env}{nl:Nat}{Q:Exit->Act->World->Prop}{σ α:Type}{bodyV:α->σ->(σ->Prop)->Prop}{kV:σ->Prop}{ys:List α}{s0:σ}{g:Operand}{ps:Array Tmp}{assign body:Code}{gf:Nat}{cs As:List AVal}{Hc H:Heap}(ρ:List (Option Nat)){encs:α->List AVal}
  {n:Nat} {Hf:σ->Heap} (k:Nat) (hm:Each bodyV kV ys s0)
  (hit:∀(l:Nat) (E Ex:Foot),Tr P gf (.v (.func (.yield l) #[] #[]) :: As) (Hc++[(ρ.length,.abs (CapO P l encs E Ex (some ys)))]) (ρ.length+1) (λA H n=>∃c,H=[(c,.abs (CapO P l encs E Ex (some [])))]∨H=[(c,.abs (CapO P l encs E Ex none))]))
  (hen:Zb P gf) (hn:B.n=n) (hk:B.k.ble k=true) (hg:ev Γ0 g=some (.fn (.func gf) [] cs)) (hcs:CsL H ρ nl false cs As) (hH:ChkH H ρ nl false Hc) (hρ:ndup (kept ρ Hc)=true) (hnd:ndup (H.map (·.1))=true) (hHf:Q1f ρ H=Hf s0)
  (hlab:mlΓ (pin k nl) Γ0=Γ0) (hlf:∀x f,AVal.mlL f (encs x)=encs x) (hps:ps.toList.all (λp=>p.blt n)=true) (hlen:∀x,(encs x).length=ps.size)
  (hround:∀x s (Y:σ->Prop),bodyV x s Y->∀(w0:World) (ok M:Nat->Prop) (β:List Value) (l:Nat),St ⟨n,k,β,w0,ok,M,[]⟩ (Qa2 ps.toList (encs x) Γ0) (Hf s) nl (Rw P l assign (Exit.then (Turn P B n k β ok M l body Γ0 Q Hf nl Y w0) (λ_ _ _=>False))))
  (hdone:∀s,kV s->St B Γ0 (Hf s) nl (Q .normal)):St B Γ0 H nl ((Code.rangeFunc g ps assign body).wp P Q):=by
 rintro a w ⟨B',β,F,hx,hβ,hf⟩;subst hβ;obtain⟨k1,k2⟩:=hf.same;obtain⟨G,ok2,_,g1,g2,g3,g4,g5,g6,g7⟩:=hf.heap.cast k1 k2 hH hρ;have henv:Q0j w B'.ok β Γ0 a:=λt A h=>(hf.env t A h).lift k1 (λ_ h=>h)
 have hokw:∀b,B'.ok b->b<w.heap.size:=λb hb=>gG (hf.ok b hb).1 hf.kp.size
 have hFw:∀b,F b->b<w.heap.size:=λb hb=>(hf.own b hb).1
 obtain⟨lb,hge,hlb⟩:∃lb,a.eval g=.func (.func gf) #[] lb∧DnL w ok2 (rlβ ρ β) As lb:=by
  have hgv:=Qf hf.env hg;generalize a.eval g=y at hgv;cases hgv with
  | ro h=>cases h
  | fn _ _ _ us vs hl h hl' h'=>
   have:us=#[]:=Array.eq_empty_of_size_eq_zero (by simpa using hl.symm);subst this;obtain⟨e1,e2⟩:=g6 _ _ vs.toList hcs (by simpa using hl') (λj A hA=>by have:=h' j A hA;rw [gA] at this;simpa using this);exact⟨vs,rfl,by simpa using e1,λj A hA=>by have:=e2 j A hA;rw [gA];simpa using this⟩
 refine wpIn_wide.1 (wpIn_rangeFunc (n:=3) ?_);intro fn hfn;obtain⟨rec,hrec⟩:∃rec:LoopState->Option Code->Go.Loop,rec=λst pe=>{state:=st,pending:=pe,fn,tmps:=a.tmps,params:=ps,assign,body,defers:=w.heap.size}:=⟨_,rfl⟩
 obtain⟨W1,hW1⟩:∃W1,(w.alloc (.deferred (some []))).alloc (.loop (rec .ready none))=W1:=⟨_,rfl⟩;have hs1:W1.heap.size=w.heap.size+2:=by rw [<-hW1];simp
 have hL1:W1.heap[w.heap.size+1]?=some (.loop (rec .ready none)):=by
  rw [<-hW1];have:=World.alloc_heap_new (w.alloc (.deferred (some []))) (.loop (rec .ready none));rwa [World.size_alloc] at this
 have old:∀b,b<w.heap.size->W1.heap[b]?=w.heap[b]?:=λb hb=>by
  rw [<-hW1];exact (RowKit.Below.heap_alloc _ _ _ (by simp;omega)).trans (RowKit.Below.heap_alloc _ _ _ hb)
 have hK1:W1.heap[w.heap.size]?=some (.deferred (some [])):=by
  rw [<-hW1];exact (RowKit.Below.heap_alloc _ _ _ (by simp)).trans (World.alloc_heap_new w _)
 have hkp1:Kp w F W1:=by rw [<-hW1];exact (Wg w F _).trans (Wg _ F _) (λ_ h _=>h)
 obtain⟨D,hD⟩:∃D,D=w.heap.size:=⟨_,rfl⟩;obtain⟨L,hL⟩:∃L,L=w.heap.size+1:=⟨_,rfl⟩;rw [<-hL] at hL1;rw [<-hD] at hK1;have hDL:D≠L:=by omega
 -- the footprint of the consumer
 let Fc:Nat->Prop:=λb=>(F b∧¬G b)∨b=D∨b=L
 have hco:CO w B'.ok k β D L (rec .ready none) (Hf s0) β.length W1 B'.ok Fc:=by
  refine⟨β,λb=>F b∧¬G b,rfl,λb=>Iff.rfl,λb hb=>⟨hb,old b (hokw b hb)⟩,λb hb=>⟨by have:=hokw b hb;omega,?_⟩,λb hb=>?_,?_,λl x _ h=>h,hL1,hK1⟩
  ·rintro (h | h | h)
   ·exact k2 b hb h.1
   ·have:=hokw b hb;omega
   ·have:=hokw b hb;omega
  ·have:=hFw b hb.1;omega
  ·rw [<-hHf];exact ((g7 hnd).later (λb hb _=>old b (hFw b hb.1))).lift (λb hb=>(old b (hokw b hb)).trans (k1 b hb)) (λ_ h=>h)
 -- the rounds
 obtain⟨E,hE⟩:∃E:Foot,E=λW ok' Fx=>∃s,kV s∧CO w B'.ok k β D L (rec .ready none) (Hf s) β.length W ok' Fx:=⟨_,rfl⟩
 obtain⟨Ex,hEx⟩:∃Ex:Foot,Ex=λW ok' Fx=>∃c H1 nl1,CO w B'.ok k β D L (rec .done (some c)) H1 nl1 W ok' Fx∧St B Γ0 H1 nl1 (Code.wp P c Q):=⟨_,rfl⟩
 have cap:∀(ys:List α) (s:σ) (W:World) (ok' Fx:Nat->Prop),Each bodyV kV ys s->CO w B'.ok k β D L (rec .ready none) (Hf s) β.length W ok' Fx->Cap P L encs E Ex ys W ok' Fx:=by
  intro ys;induction ys with
  | nil=>intro s W ok' Fx hs hc;rw [Cap,hE];exact⟨s,hs,hc⟩
  | cons x ys ih=>
   intro s W0 ok0 Fx hs hc0 W ok' βx vs q1 q2 q3 hvs;have hc:=hc0.later q1 q2 q3;have hl:W.heap[L]?=some (.loop (rec .ready none)):=by obtain⟨_,_,_,_,_,_,_,_,_,h,_⟩:=hc;exact h
   have hlsz:L<W.heap.size:=Gt hl;have hvsz:vs.size=ps.size:=by rw [<-hvs.1,hlen]
   have hy:=run_yield (P:=P) (args:=vs) hl (by rw [hrec];exact hvsz);rw [hrec] at hy;obtain⟨W2,hW2⟩:∃W2,W.putObj L (.loop {rec .ready none with state:=.busy})=W2:=⟨_,rfl⟩;have hc2:=hc.turn hDL {rec .ready none with state:=.busy};rw [hW2] at hc2;have hs2:W2.heap.size=W.heap.size:=by rw [<-hW2];simp
   have hl2:W2.heap[L]?=some (.loop {rec .ready none with state:=.busy}):=by rw [<-hW2];exact World.putObj_heap_same hlsz
   have oth2:∀b,b≠L->W2.heap[b]?=W.heap[b]?:=λb hb=>by rw [<-hW2];exact World.putObj_heap_other hb
   have hd2:W2.heap[D]?=some (.deferred (some [])):=by obtain⟨_,_,_,_,_,_,_,_,_,_,h⟩:=hc2;exact h
   have hoF:∀b,ok' b->b<W2.heap.size∧¬Fx b:=λb hb=>by rw [hs2];exact q3 b hb
   have hokc:∀b,B'.ok b->ok' b:=by obtain⟨_,_,_,_,h,_⟩:=hc;exact λb hb=>(h b hb).1
   obtain⟨β1,F1,c1,c2,c3,c4,c5,c6⟩:=hc.env rfl henv hlab;have hvD:∀(j:Nat) (A:AVal),(encs x)[j]?=some A->Dn W ok' β1 A (vs.toList[j]?.getD undef):=λj A hA=>by
    have hd0:=hvs.2 j A hA;have hml:A.ml (λ_=>βx.length)=A:=by
     have:=hlf x (λ_=>βx.length);rw [YC] at this;have h2:=congrArg (λz=>z[j]?) this;simp only [gK,hA,Option.map_some,gJ] at h2;exact h2
    have hd1:Dn W ok' β1 A (vs.getD j undef):=Dn.of_ml (f:=λ_=>βx.length) (β:=βx) (λl v hv=>by rw [gN (Nat.le_refl _)] at hv;cases hv) A _ (by rw [hml];exact hd0);rw [gA,<-Array.getElem?_toList] at hd1;exact hd1
   obtain⟨p1,p2⟩:=Q7E (w:=W) (ok:=ok') (β:=β1) ps.toList (encs x) vs.toList Γ0 {tmps:=a.tmps,defers:=[]} (by simpa using hvs.1) hvD (λp hp=>by
    have:=gT.1 hps p hp;show p<a.tmps.size;rw [hf.size,hx.n,hn];exact Nat.le_of_ble_eq_true this) c6
   have htm:(ps.zip vs).foldl (λtmps (x:Tmp×Value)=>tmps.setIfInBounds x.1 x.2) a.tmps=(ps.toList.zip vs.toList).foldl (λt (x:Nat×Value)=>t.setIfInBounds x.1 x.2) a.tmps:=by
    rw [<-Array.foldl_toList,Array.toList_zip]
   have nLok:¬ok' L:=λh=>(q3 L h).2 ((c2 L).2 (.inr (.inr rfl)))
   have nLF:¬F1 L:=λh=>(c3 L h).2.2 rfl
   refine⟨fn,_,assign,body,hy,roundIn_of_wpIn hfn ?_⟩;have hfr:Fits ⟨n,k,β1,W,ok',F1,[]⟩ (Qa2 ps.toList (encs x) Γ0) (Hf s) β.length {tmps:=(ps.toList.zip vs.toList).foldl (λt (x:Nat×Value)=>t.setIfInBounds x.1 x.2) a.tmps,defers:=[]} W:=
    ⟨_,β1,F1,.refl _,c1,.refl _ _,λb hb=>⟨(q3 b hb).1,λhF=>(q3 b hb).2 ((c2 b).2 (.inl hF))⟩,λb hb=>⟨(c3 b hb).1,λ_=>hb⟩,c4,p1,by rw [p2];show a.tmps.size=n;rw [hf.size,hx.n,hn],rfl,λl x _ hx=>hx⟩
   have hrun:=hround x s _ hs W ok' F1 β1 L _ _ hfr;rw [<-htm] at hrun;refine wpIn_mono hrun ?_;rintro e a1 w1 ht;cases e with
   | goto t=>exact ht.elim
   | panic ch=>exact ht.elim
   | outgrown=>exact ht.elim
   | ret=>exact ht.elim
   | exit id=>exact ht.elim
   | normal=>
   obtain⟨Γ1,H1,nl1,hft,hcont⟩:=ht;have hw1:w1.heap[L]?=some (.loop (rec .ready none)):=by
    obtain⟨B3,β3,F3,hx3,hβ3,hf3⟩:=hft;have hkp:Kp W F1 w1:=hx3.kp.trans hf3.kp (λx hx' hlt=>(hx3.M x hx').resolve_right (by simp at hlt ⊢;omega));exact (hkp.block L hlsz nLF).trans hl
   have hb1:=run_beginRound (P:=P) hw1 (by rw [hrec]);refine⟨_,hb1,?_⟩;have hft2:=hft.turn hlsz nLok nLF (.loop {rec .ready none with state:=.busy});rw [hW2] at hft2;refine wpIn_mono (hcont W2 _ _ hft2) ?_
   -- the end of a round
   have hFin:∀(H1:Heap) (nl1:Nat) (a3:Act) (W3:World) (jump:Option Code),Fits ⟨n,k,β1,W2,ok',F1,[]⟩ [] H1 nl1 a3 W3 ->
     ∃W4,(Instr.endRound L jump).run P W3=.ok (.bool jump.isNone) W4∧Kp W Fx W4∧∃ok4 F4:Nat->Prop,(∀b,ok' b->ok4 b)∧(∀b,ok4 b->(ok' b∨Fx b∨W.heap.size≤b)∧b<W4.heap.size)∧(∀b,F4 b->(Fx b∨W.heap.size≤b)∧b<W4.heap.size∧¬ok4 b) ∧
      CO w B'.ok k β D L (rec (if jump.isNone then .ready else .done) jump) H1 nl1 W4 ok4 F4:=λH1 nl1 a3 W3 jump hft=>by
    obtain⟨B3,β3,F3,hx3,hβ3,hf3⟩:=hft;obtain⟨l1,l2⟩:=hf3.same;have hkp:Kp W2 F1 W3:=hx3.kp.trans hf3.kp (λx hx' hlt=>(hx3.M x hx').resolve_right (by simp at hlt ⊢;omega));have hsz3:W.heap.size≤W3.heap.size:=by have:=hkp.size;omega
    have nDL:∀b,b=D∨b=L->b<W2.heap.size∧¬F1 b:=λb hb=>by
     rcases hb with rfl | rfl
     ·exact⟨Gt hd2,λh=>(c3 _ h).2.1 rfl⟩
     ·exact⟨Gt hl2,λh=>(c3 _ h).2.2 rfl⟩
    have hl3:W3.heap[L]?=some (.loop {rec .ready none with state:=.busy}):=(hkp.block L (nDL L (.inr rfl)).1 (nDL L (.inr rfl)).2).trans hl2;have hd3:W3.heap[D]?=some (.deferred (some [])):=(hkp.block D (nDL D (.inl rfl)).1 (nDL D (.inl rfl)).2).trans hd2;have he:=run_endRound (P:=P) jump hl3;rw [hrec] at he ⊢;have hF3:∀b,F3 b->F1 b∨W.heap.size≤b:=λb hb=>by
     rcases gH b B3.w0.heap.size with h | h
     ·rcases hx3.M b ((hf3.own b hb).2 h) with h' | h'
      ·exact .inl h'
      ·exact .inr (by simp at h';omega)
     ·have h0:W2.heap.size≤B3.w0.heap.size:=hx3.kp.size;exact .inr (by omega)
    have hok3:∀b,B3.ok b->ok' b∨F1 b∨W.heap.size≤b:=λb hb=>by
     rcases hx3.new b hb with h | h | h
     ·exact .inl h
     ·exact .inr (.inl h)
     ·exact .inr (.inr (by simp at h;omega))
    have hok3l:∀b,B3.ok b->b<W3.heap.size:=λb hb=>gG (hf3.ok b hb).1 hf3.kp.size
    have hnDL:∀b,b=D∨b=L->¬B3.ok b∧¬F3 b:=λb hb=>by
     have hlt:=(nDL b hb).1;refine⟨λh=>?_,λh=>?_⟩
     ·rcases hok3 b h with h | h | h
      ·exact (hoF b h).2 ((c2 b).2 (.inr hb))
      ·exact (nDL b hb).2 h
      ·omega
     ·rcases hF3 b h with h | h
      ·exact (nDL b hb).2 h
      ·omega
    refine⟨_,he,?_,B3.ok,λb=>F3 b∨b=D∨b=L,λb hb=>hx3.ok b hb,λb hb=>⟨?_,by simpa using hok3l b hb⟩,λb hb=>?_,?_⟩
    ·have h1:Kp W Fx W2:=by
      rw [<-hW2];exact⟨rfl,rfl,rfl,by simp,λb _ hb=>World.putObj_heap_other (λe=>hb ((c2 b).2 (.inr (.inr e)))),.refl _⟩
     have h2:Kp W3 Fx (W3.putObj L (.loop {rec .ready none with state:=if jump.isNone then .ready else .done,pending:=jump})):=⟨rfl,rfl,rfl,by simp,λb _ hb=>World.putObj_heap_other (λe=>hb ((c2 b).2 (.inr (.inr e)))),.refl _⟩;rw [hrec] at h2;exact (h1.trans hkp (λx hx' _=>(c2 x).2 (.inl hx'))).trans h2 (λ_ h _=>h)
    ·rcases hok3 b hb with h | h | h
     ·exact .inl h
     ·exact .inr (.inl ((c2 b).2 (.inl h)))
     ·exact .inr (.inr h)
    ·rcases hb with hb | hb
     ·refine⟨?_,by simpa using (hf3.own b hb).1,λh=>l2 b h hb⟩;rcases hF3 b hb with h | h
      ·exact .inl ((c2 b).2 (.inl h))
      ·exact .inr h
     ·refine⟨.inl ((c2 b).2 (.inr hb)),by have:=(nDL b hb).1;have:=hkp.size;simp;omega,(hnDL b hb).1⟩
    ·have co3:CO w B'.ok k β D L {rec .ready none with state:=.busy} H1 nl1 W3 B3.ok (λb=>F3 b∨b=D∨b=L):=by
      refine⟨β3,F3,hβ3,λb=>Iff.rfl,λb hb=>⟨hx3.ok b (hokc b hb),?_⟩,λb hb=>⟨hok3l b hb,?_⟩,λb hb=>⟨(hf3.own b hb).1,λe=>(hnDL b (.inl e)).2 hb,λe=>(hnDL b (.inr e)).2 hb⟩,hf3.heap.lift l1 (λ_ h=>h),λl x hl hx'=>hf3.pre l x (by rw [hx3.k];exact hl) (by rw [hx3.b0];exact c5 l x hl hx'),hl3,hd3⟩
      ·have h1:=hokc b hb;refine (hkp.block b (hoF b h1).1 (λh=>(hoF b h1).2 ((c2 b).2 (.inl h)))).trans ?_;obtain⟨_,_,_,_,h,_⟩:=hc2;exact (h b hb).2
      ·rintro (h | h)
       ·exact l2 b hb h
       ·exact (hnDL b h).1 hb
     have:=co3.turn hDL {rec .ready none with state:=if jump.isNone then .ready else .done,pending:=jump};rw [hrec] at this;exact this
   rintro e a3 W3 hp;cases e with
   | normal=>
    obtain⟨s',hs',hf3⟩:=hp;obtain⟨W4,e1,e2,ok4,F4,e3,e4,e5,e6⟩:=hFin _ _ _ _ none hf3;exact⟨_,_,e1,e2,ok4,F4,e3,e4,e5,.inl ⟨rfl,ih s' W4 ok4 F4 hs' e6⟩⟩
   | ret=>
    obtain⟨H1,nl1,hf3,hk3⟩:=hp;obtain⟨W4,e1,e2,ok4,F4,e3,e4,e5,e6⟩:=hFin _ _ _ _ (some .ret) hf3;exact⟨_,_,e1,e2,ok4,F4,e3,e4,e5,.inr ⟨rfl,by rw [hEx];exact⟨.ret,H1,nl1,e6,hk3⟩⟩⟩
   | exit id=>
    obtain⟨H1,nl1,hf3,hk3⟩:=hp;obtain⟨W4,e1,e2,ok4,F4,e3,e4,e5,e6⟩:=hFin _ _ _ _ (some (.exit id)) hf3;exact⟨_,_,e1,e2,ok4,F4,e3,e4,e5,.inr ⟨rfl,by rw [hEx];exact⟨.exit id,H1,nl1,e6,hk3⟩⟩⟩
   | goto t=>exact hp.elim
   | panic ch=>exact hp.elim
   | outgrown=>exact hp.elim
 -- the call
 refine⟨L,[mark w.heap.size],W1,{target:=.fn (.func gf) lb,args:=#[.func (.yield L) #[] #[]]},W1,gf,#[.func (.yield L) #[] #[]]++lb,W1,?_,?_,λ_ _=>trivial,?_,λh=>(by cases h),?_⟩
 ·rw [<-hW1,hrec,hL];exact run_enterLoop_outer _ _ _ _ _
 ·simp only [resolve,hge];simp [go_sem]
 ·simp only [invoke,go_sem];exact hen _ _
 have hok2:∀b,ok2 b->b<w.heap.size:=λb hb=>by
  rcases g3 b hb with h | h
  ·exact hokw b h
  ·exact hFw b h.2.1
 have hok2':∀b,ok2 b->B'.ok b:=λb hb=>by
  rcases g3 b hb with h | h
  ·exact h
  ·cases h.1
 let Fa:Nat->Prop:=λb=>G b∨Fc b
 have hlift2:∀b,ok2 b->W1.heap[b]?=w.heap[b]?:=λb hb=>old b (hok2 b hb)
 have hT:=hit L E Ex W1 ok2 Fa (rlβ ρ β++[undef]) (#[.func (.yield L) #[] #[]]++lb) (by simp [rlβ]) (λb hb=>⟨by have:=hok2 b hb;omega,?_⟩) (λb hb=>?_) ?_ ?_
 rotate_left
 ·rintro (h | h | h | h)
  ·exact (g1 b h).2 hb
  ·exact k2 b (hok2' b hb) h.1
  ·have:=hok2 b hb;omega
  ·have:=hok2 b hb;omega
 ·rcases hb with h | h | h | h
  ·have:=hFw b (g1 b h).1;omega
  ·have:=hFw b h.1;omega
  ·omega
  ·omega
 ·have hA:HOk W1 ok2 (rlβ ρ β++[undef]) W1 [(ρ.length,.abs (CapO P L encs E Ex (some ys)))] Fc:=⟨Fc,λ_=>False,λb hb=>hb,λb hb=>hb.elim,λb _ hb=>hb,⟨⟨undef,by simp [rlβ]⟩,W1,B'.ok,Fc,cap ys s0 W1 _ _ hm hco,λb hb=>⟨g2 b hb,by have:=hokw b hb;omega,rfl⟩,λb hb=>⟨hb,by
   rcases hb with h | h | h
   ·have:=hFw b h.1;omega
   ·omega
   ·omega,rfl⟩⟩,trivial⟩
  have hB:HOk W1 ok2 (rlβ ρ β++[undef]) W1 Hc G:=((g4.later (λb hb _=>old b (hFw b (g1 b hb).1))).lift hlift2 (λ_ h=>h)).app;refine HOk.append hA hB ?_;rintro b hb (h | h | h)
  ·exact h.2 hb
  ·have:=hFw b (g1 b hb).1;omega
  ·have:=hFw b (g1 b hb).1;omega
 ·refine⟨by have:=hlb.1;simp;omega,λj A hA=>?_⟩;cases j with
  | zero=>
   simp only [List.getElem?_cons_zero,gJ] at hA;subst hA;have e:(#[Value.func (.yield L) #[] #[]]++lb).getD 0 undef=.func (.yield L) #[] #[]:=by
    simp only [gA];rw [Array.getElem?_append_left (by simp)];rfl
   rw [e];exact .ro (.v _)
  | succ j=>
   have:=((hlb.2 j A (by simpa using hA)).lift hlift2 (λ_ h=>h)).app (γ:=[undef]);have e:(#[Value.func (.yield L) #[] #[]]++lb).getD (j+1) undef=lb.getD j undef:=by
    simp only [gA];rw [Array.getElem?_append_right (by simp)];simp
   rw [e];exact this
 refine (callsIn_wide (n:=2)).2 (hT.mono ?_);rintro e W2 ⟨v,A,H2,β2,F2,okR,rfl,⟨c,hH2⟩,_,_,p3,p4,p5,p6,p7,_⟩;have fin:∀(Φ:Foot),H2=[(c,.abs Φ)]->∃(W:World) (ok1 F1:Nat->Prop),Φ W ok1 F1∧(∀b,ok1 b->okR b∧W2.heap[b]?=W.heap[b]?)∧(∀b,F1 b->F2 b∧W2.heap[b]?=W.heap[b]?):=λΦ e=>by
  subst e;obtain⟨X1,X2,x1,x2,x12,⟨_,W,ok1,F1,hΦ,y1,y2⟩,_⟩:=p7;exact⟨W,ok1,F1,hΦ,λb hb=>⟨(y1 b hb).1,(y1 b hb).2.2⟩,λb hb=>⟨x1 b (y2 b hb).1,(y2 b hb).2.2⟩⟩
 have hFa:∀b,Fa b->b<w.heap.size->F b:=λb hb hlt=>by
  rcases hb with h | h | h | h
  ·exact (g1 b h).1
  ·exact h.1
  ·omega
  ·omega
 have back:∀{rc:Go.Loop} {H1:Heap} {nl1:Nat} {W W4:World} {ok1 F1:Nat->Prop},CO w B'.ok k β D L rc H1 nl1 W ok1 F1->(∀b,ok1 b->okR b∧W2.heap[b]?=W.heap[b]?)->(∀b,F1 b->F2 b∧W2.heap[b]?=W.heap[b]?) ->
   W2.heap[L]?=some (.loop rc)∧(∀rc',Fits B Γ0 H1 nl1 {a with defers:=[mark w.heap.size]++a.defers} (W2.putObj L (.loop rc'))):=λ{rc H1 nl1 W W4 ok1 F1} hc y1 y2=>by
  have hc2:=hc.later (W':=W2) (ok2:=ok1) (λb hb=>⟨hb,(y1 b hb).2⟩) (λb hb=>(y2 b hb).2) (λb hb=>⟨(p5 b (y1 b hb).1).2,λh=>(p6 b (y2 b h).1).2.2 (y1 b hb).1⟩);refine⟨by obtain⟨_,_,_,_,_,_,_,_,_,h,_⟩:=hc2;exact h,λrc'=>?_⟩;have hc3:=hc2.turn hDL rc';have hDv:(W2.putObj L (.loop rc')).heap[D]?=some (.deferred (some [])):=by obtain⟨_,_,_,_,_,_,_,_,_,_,h⟩:=hc3;exact h
  have hnD:¬ok1 D∧∀b,ok1 b->¬F1 b:=by obtain⟨_,_,_,h1,_,h2,_⟩:=hc3;exact⟨λh=>(h2 D h).2 ((h1 D).2 (.inr (.inl rfl))),λb hb=>(h2 b hb).2⟩
  have hokB:∀b,B'.ok b->ok1 b:=by obtain⟨_,_,_,_,h,_⟩:=hc3;exact λb hb=>(h b hb).1
  obtain⟨β4,F4,c1,c2,c3,c4,c5,c6⟩:=hc3.env rfl henv hlab
  ·have hkpw:Kp w F W2:=hkp1.trans p3 (λb hb hlt=>hFa b hb hlt);have hkp4:Kp w F (W2.putObj L (.loop rc')):=⟨hkpw.os,hkpw.tape,hkpw.output,by simpa using hkpw.size,λb hlt hb=>(World.putObj_heap_other (by omega)).trans (hkpw.block b hlt hb),hkpw.drawn⟩;have hsz:=hf.kp.size;have hnew:∀b,F b∨w.heap.size≤b->B'.M b∨B'.w0.heap.size≤b:=λb hb=>by
    rcases hb with hb | hb
    ·rcases gH b B'.w0.heap.size with h | h
     ·exact .inl ((hf.own b hb).2 h)
     ·exact .inr h
    ·exact .inr (Nat.le_trans hsz hb)
   have hFa':∀b,Fa b->F b∨w.heap.size≤b:=λb hb=>by
    rcases gH b w.heap.size with h | h
    ·exact .inl (hFa b hb h)
    ·exact .inr h
   have hF4:∀b,F4 b->F1 b:=λb hb=>(c2 b).2 (.inl hb)
   refine⟨⟨B'.n,B'.k,B'.b0,W2.putObj L (.loop rc'),ok1,F4,[mark w.heap.size]++B'.ds⟩,β4,F4,hx.trans ⟨rfl,rfl,rfl,hf.kp.trans hkp4 (λx hx' hlt=>(hf.own x hx').2 hlt),hokB,λb hb=>?_,λb hb=>?_,[w.heap.size],rfl,by simp,λD' hD'=>?_⟩,c1,.refl _ _,λb hb=>⟨?_,λh=>hnD.2 b hb (hF4 b h)⟩,λb hb=>⟨(c3 b hb).1,λ_=>hb⟩,c4,c6,hf.size,?_,λl x hl hx'=>?_⟩
   ·rcases (p5 b (y1 b hb).1).1 with h | h | h
    ·exact .inl (hok2' b h)
    ·exact .inr (hnew b (hFa' b h))
    ·exact .inr (hnew b (.inr (by omega)))
   ·rcases (p6 b (y2 b (hF4 b hb)).1).1 with h | h
    ·exact hnew b (hFa' b h)
    ·exact hnew b (.inr (by omega))
   ·simp only [List.mem_singleton] at hD';subst hD';rw [<-hD];exact⟨by omega,hDv,λhM=>(c3 _ hM).2.1 rfl,hnD.1⟩
   ·have:=(p5 b (y1 b hb).1).2;simpa using this
   ·show [mark w.heap.size]++a.defers=_;rw [hf.defers]
   ·have hl':l<k:=gG (by rw [<-hx.k];exact hl) (Nat.le_of_ble_eq_true hk);exact c5 l x hl' (hf.pre l x hl hx')
 rcases hH2 with hH2 | hH2
 ·obtain⟨W,ok1,F1,hΦ,y1,y2⟩:=fin _ hH2;have hΦ':E W ok1 F1:=hΦ;rw [hE] at hΦ';obtain⟨s,hs,hc⟩:=hΦ';obtain⟨e1,e2⟩:=back (W4:=W) hc y1 y2;have e3:=run_endLoop (P:=P) e1 (by rw [hrec];simp);refine⟨none,_,by rw [hrec] at e3;exact e3,?_⟩;exact hdone s hs _ _ (e2 _)
 ·obtain⟨W,ok1,F1,hΦ,y1,y2⟩:=fin _ hH2;have hΦ':Ex W ok1 F1:=hΦ;rw [hEx] at hΦ';obtain⟨c,H1,nl1,hc,hk3⟩:=hΦ';obtain⟨e1,e2⟩:=back (W4:=W) hc y1 y2;have e3:=run_endLoop (P:=P) e1 (by rw [hrec];simp);refine⟨some c,_,by rw [hrec] at e3;exact e3,?_⟩;exact wpIn_wide.2 (hk3 _ _ (e2 _))
end Go.Taq
