/- The library of the generated walks, part Q: deleting from a map, ranging over a map. -/
import Derived.Test.YtdcfcldpjfepiaaGreatLibP
set_option linter.unusedVariables false
namespace Go.Taq
open Go
open Go.ChangeMaps (setBlock)
section
variable {κ α:Type} [DecidableEq κ]
omit [DecidableEq κ] in
theorem Ents.erase {ke:κ→Value} {xs:List (κ×α)} {es:Array MapEntry} {clock:Nat} (h:Ents ke xs es clock) (i:Nat):Ents ke (xs.eraseIdx i) (es.eraseIdxIfInBounds i) clock:=by
 have hl:(es.eraseIdxIfInBounds i).toList=es.toList.eraseIdx i:=by simp
 refine⟨?_,?_,fun e he=>?_,?_,fun j x e hj he=>?_⟩
 ·have:(es.eraseIdxIfInBounds i).toList.length=(xs.eraseIdx i).length:=by rw [hl,List.length_eraseIdx,List.length_eraseIdx];simp [h.size]
  rw [←this,Array.length_toList]
 ·rw [hl];exact h.born.sublist (List.eraseIdx_sublist _ _)
 ·rw [hl] at he;exact h.old e ((List.eraseIdx_sublist _ _).mem he)
 ·exact h.nodup.sublist ((List.eraseIdx_sublist _ _).map _)
 ·have he':(es.toList.eraseIdx i)[j]?=some e:=by rw [←hl,Array.getElem?_toList];exact he
  rw [List.getElem?_eraseIdx] at hj he'
  split at hj
  ·rename_i hji;rw [if_pos hji] at he';exact h.key j x e hj (by simpa using he')
  ·rename_i hji;rw [if_neg hji] at he';exact h.key (j+1) x e hj (by simpa using he')
end
section
variable {P:Program} {B:Base} {tb:Tab} {Γ:Env} {H:Heap} {nl:Nat} {o:Oper} {κ α:Type} [DecidableEq κ]
omit [DecidableEq κ] in
theorem Eff1.rg (htb:QS P tb) {t kt et n' by_ d:Nat} {zc:List Value} {m:Operand} {l:Nat} {ke:κ→Value} {ve:α→AVal} {xs:List (κ×α)} (ho:o.op=.range t m) (ht:find tb t=some ⟨.mp kt et,n',by_,zc⟩) (hd:o.dst=some d) (hlt:d.blt B.n=true)
  (hm:ev Γ m=some (.o l)) (hl:find H l=some (.val (.om ke ve xs))):
  Eff1 P B Γ H nl o ((d,.o nl) :: Γ) (repH H l l (.rng ke ve xs [] nl)) (nl+1) (.fx [] false):=Eff1.of_value fun B hB β F a w hβ hf=>by
 rw [←hB] at hlt
 obtain⟨dst,op,ty,pos,af,g⟩:=o
 simp only at ho hd;subst ho;subst hd;subst hβ
 obtain⟨d',hdd,rfl⟩:=htb.und ht
 obtain⟨F1,hF1,v0,hv0,hon⟩:=hf.heap.get hl
 have hmv:=(Q4 (a:=a) hf.env hm).o_inv
 rw [hv0] at hmv
 have hmm:=Option.some.inj hmv
 cases hon with
 | ro F h=>cases h
 | om _ _ _ b es clock F' G hb hw he hG hdj hr=>
  have hg:=Go.MapKept.run_getObj_map (P:=P) hw
  have hbl:b<w.heap.size:=Wf hw
  refine⟨.pointer (some ⟨w.heap.size,0,none⟩),w.alloc (.mapIter (some b) clock #[] clock),β++[.pointer (some ⟨w.heap.size,0,none⟩)],fun c=>F c∨c=w.heap.size,?_,by simp,fun l x h=>Qc h,fun l x c hl hx hc=>?_,KH.put (A:=.o β.length) ⟨hf.kp.trans (Gp w (fun _=>False) _) (fun _ h _=>h.elim),hf.ok,fun c hc=>?_,HOk.rep (fun l x h=>Qc h) (fun c=>c=w.heap.size) hf.heap hl (fun F2 hF2 hR=>?_) (fun c hc h=>?_) (fun c hc=>(hf.own c hc).1) (fun S k F1 h=>h.snoc _),fun t' A hA=>(hf.env t' A hA).snoc _,hf.size,hf.defers,fun l x hl hx=>Qc (hf.pre l x hl hx)⟩ hlt (.o _ _ (by simp) rfl),Gp w _ _⟩
  ·simp [execOp,Instr.range,run_underlying hdd,←hmm,hg,newObj,Sem.run,Result.andThen]
  ·have:=Yl rfl hl hx;subst this;cases hc;exact .inl (Nat.le_refl _)
  ·rcases hc with hc | hc
   ·have:=hf.own c hc;exact⟨by have:=this.1;simp;omega,this.2⟩
   ·subst hc
    exact⟨by simp,fun h=>by have:=hf.kp.size;omega⟩
  ·obtain⟨v1,hv1,hon1⟩:=hR
   rw [hv0] at hv1;cases hv1
   refine⟨?_,fun c hc hn=>RowKit.Below.heap_alloc w _ c hc⟩
   generalize hA:AVal.om ke ve xs=A at hon1
   generalize hV:Value.map (some b)=V at hon1
   cases hon1 with
   | ro F h=>subst hA;cases h
   | osNil=>cases hA
   | os=>cases hA
   | arr=>cases hA
   | om ke2 ve2 xs2 b2 es2 clock2 F3 G2 hb2 hw2 he2 hG2 hd2 hr2=>
    cases hA;cases hV
    rw [hw] at hw2;cases hw2
    refine⟨b,w.heap.size,es,clock,#[],G2,Qc hv0,by simp,by omega,.inl hb2,.inr rfl,by rw [RowKit.Below.heap_alloc w _ b hbl];exact hw,heap_alloc_new w _,he,fun i k h=>⟨.inl (hG2 i k h).1,(hG2 i k h).2,fun e=>?_⟩,hd2,fun i x e h1 h2=>(hr2 i x e h1 h2).later (fun c hc hlt=>RowKit.Below.heap_alloc w _ c hlt),fun i x e _ _=>by simp,fun k rest h=>by cases h⟩
    have:=(hf.own k (hF2 k (hG2 i k h).1)).1
    omega
  ·subst hc;have:=(hf.own _ h).1;omega
theorem Eff.nx {d:Nat} {it:Operand} {l li:Nat} {ke:κ→Value} {ve:α→AVal} {xs:List (κ×α)} {seen:List κ} (ho:o.op=.next it false) (hd:o.dst=some d) (hlt:d.blt B.n=true) (hro:∀y,(ve y).isRo=true)
  (hm:ev Γ it=some (.o li)) (hl:find H l=some (.rng ke ve xs seen li)):
  Eff (ι:=ULift (Option (κ×α))) P B Γ H nl o (fun s=>match s.down with | none=>∀k,Taq.lk xs k≠none→k∈seen | some (k,v)=>Taq.lk xs k=some v∧k∉seen)
   (fun s=>(d,match s.down with | none=>.tup [.v (.bool false)] | some (k,v)=>.tup [.v (.bool true),unv (.v (ke k)),unv (ve v)]) :: Γ)
   (fun s=>match s.down with | none=>H | some (k,v)=>setH H l (.rng ke ve xs (k :: seen) li)) (fun _=>nl) (.fx [li] false):=fun B hB β F a w hβ hf next Q hn=>by
 rw [←hB] at hlt
 obtain⟨dst,op,ty,pos,af,g⟩:=o
 simp only at ho hd;subst ho;subst hd
 obtain⟨F1,hF1,⟨b,bi,es,clock,sa,G,hv0,hli,hne,hb,hbi,hw,hwi,he,hG,hdj,hr,hs1,hs2⟩,hset⟩:=hf.heap.set hl
 have hiv:=(Q4 (a:=a) hf.env hm).o_inv
 rw [hli] at hiv
 have hit:=(Option.some.inj hiv).symm
 unfold Oper.wp
 have hmem:∀(i:Nat) (x:κ×α),xs[i]?=some x→∃e,es[i]?=some e:=fun i x hx=>by
  have:=(List.getElem?_eq_some_iff.1 hx).1
  exact⟨es[i]'(by rw [he.size];exact this),Array.getElem?_eq_getElem _⟩
 rcases run_next_at (P:=P) w ty bi b clock clock sa es clock hwi hw he.old (Nat.le_refl _) with ⟨h0,hrun⟩ | ⟨e,hel,w1,hw1,hrun⟩
 ·have hex:(execOp a.eval ⟨some d,.next it false,ty,pos,af,g⟩).run P w=.ok (.value (.tuple #[.bool false])) w:=by simp [execOp,hit,hrun]
  rw [hex]
  refine hn ⟨none⟩ (fun k hk=>?_) _ _ β F B (.refl _) hβ (fun _ _ h=>h) ⟨fun l' x c hl' hx _=>?_,.refl _ _,fun _ c hc=>hc⟩ (hf.put hlt (.tup _ #[.bool false] rfl (fun j C hC=>?_)))
  ·have hk2:=Q1q xs k
   cases hkk:kidx (xs.map (·.1)) k with
   | none=>rw [hkk] at hk2;exact absurd hk2.1 hk
   | some i=>
    rw [hkk] at hk2
    obtain⟨v,h1,h2⟩:=hk2
    obtain⟨e,h3⟩:=hmem i _ h1
    refine (hs1 i _ e h1 h3).1 ?_
    cases hc:sa.contains e.born with
    | true=>rfl
    | false=>
     have:e∈(leftOf es sa).toList:=by
      unfold leftOf
      simp only [Array.toList_filter,List.mem_filter]
      exact⟨Array.mem_toList_iff.2 (Array.mem_of_getElem? h3),by rw [hc];rfl⟩
     have hz:(leftOf es sa).toList=[]:=List.eq_nil_of_length_eq_zero (by simpa using h0)
     rw [hz] at this;cases this
  ·rw [List.getElem?_eq_none (by omega)] at hx;cases hx
  ·match j,hC with
   | 0,hC=>simp at hC;subst hC;exact .ro (.v _)
   | j+1,hC=>simp at hC
 ·have hel2:e∈es.toList∧sa.contains e.born=false:=by
   unfold leftOf at hel
   simp only [Array.toList_filter,List.mem_filter] at hel
   exact⟨hel.1,by simpa using hel.2⟩
  obtain⟨i,hi,hei⟩:=List.getElem_of_mem hel2.1
  have hei':es[i]?=some e:=by
   have:i<es.size:=by simpa using hi
   rw [Array.getElem?_eq_getElem this];rw [←hei];simp
  have hix:i<xs.length:=by rw [←he.size];simpa using hi
  obtain⟨⟨k,v⟩,hx⟩:∃x,xs[i]?=some x:=⟨_,List.getElem?_eq_getElem hix⟩
  have hkey:=he.key i _ e hx hei'
  have hidx:∀(j:Nat) (y:α),xs[j]?=some (k,y)→j=i:=fun j y hy=>by
   have hnd:=he.nodup
   have h1:(xs.map (·.1))[j]?=some k:=by simp [hy]
   have h2:(xs.map (·.1))[i]?=some k:=by simp [hx]
   have hj:=(List.getElem?_eq_some_iff.1 h1).1
   exact (List.getElem?_inj hj hnd).1 (h1.trans h2.symm)
  have hborn:∀(j:Nat) (e':MapEntry),es[j]?=some e'→e'.born=e.born→j=i:=fun j e' hj hb'=>by
   have hnd:(es.toList.map (·.born)).Nodup:=by
    rw [List.Nodup,List.pairwise_map];exact he.born.imp (fun h=>Nat.ne_of_lt h)
   have h1:(es.toList.map (·.born))[j]?=some e.born:=by simp [hj,hb']
   have h2:(es.toList.map (·.born))[i]?=some e.born:=by simp [hei']
   have hjl:=(List.getElem?_eq_some_iff.1 h1).1
   exact (List.getElem?_inj hjl hnd).1 (h1.trans h2.symm)
  have hlk:Taq.lk xs k=some v:=by
   have hk2:=Q1q xs k
   cases hkk:kidx (xs.map (·.1)) k with
   | none=>rw [hkk] at hk2;exact absurd rfl (hk2.2 _ (List.mem_of_getElem? hx))
   | some i'=>
    rw [hkk] at hk2
    obtain⟨v',h1,h2⟩:=hk2
    have:=hidx i' v' h1
    subst this
    rw [hx] at h1;cases h1;exact h2
  have hns:k∉seen:=fun h=>by
   have:=(hs1 i _ e hx hei').2 h
   rw [hel2.2] at this;cases this
  have hv:Ro B.w0 B.ok (ve v) e.val:=(hr i _ e hx hei').ro_of (hro v)
  have hex:(execOp a.eval ⟨some d,.next it false,ty,pos,af,g⟩).run P w=.ok (.value (.tuple #[.bool true,e.key,e.val])) (setBlock w1 bi (.mapIter (some b) clock (sa.push e.born) clock)):=by simp [execOp,hit,hrun]
  rw [hex]
  have hh1:w1.heap=w.heap:=by rcases hw1 with rfl | rfl <;> rfl
  have hk0:∀M:Nat→Prop,Kp w M w1:=fun M=>by
   rcases hw1 with rfl | rfl
   ·exact .refl _ _
   ·exact Kp.drew w M _
  have hwi1:w1.heap[bi]?=some (.mapIter (some b) clock sa clock):=by rw [hh1];exact hwi
  have hk1:∀M:Nat→Prop,M bi→Kp w M (setBlock w1 bi (.mapIter (some b) clock (sa.push e.born) clock)):=fun M hM=>(hk0 M).trans (WA w1 bi _ M hM) (fun _ h _=>h)
  have hM:∀x,x=bi→x<B.w0.heap.size→B.M x:=fun x hx hlt'=>by subst hx;exact (hf.own x (hF1 x hbi)).2 hlt'
  have hoth:∀c,c≠bi→(setBlock w1 bi (.mapIter (some b) clock (sa.push e.born) clock)).heap[c]?=w.heap[c]?:=fun c hc=>by rw [Zb hwi1 _ hc,hh1]
  have hRes:Xb B.w0 B.ok β (setBlock w1 bi (.mapIter (some b) clock (sa.push e.born) clock)) l F1 (.rng ke ve xs (k :: seen) li):=by
   refine⟨b,bi,es,clock,sa.push e.born,G,hv0,hli,hne,hb,hbi,by rw [hoth b hne];exact hw,Q1s hwi1 _,he,hG,hdj,fun i x e h1 h2=>(hr i x e h1 h2).later (fun c hc hlt'=>hoth c (hG i c hc).2.2),fun j x e' h1 h2=>?_,fun k' rest hkr j x e' h1 h2 h3=>?_⟩
   ·have h3:=hs1 j x e' h1 h2
    rw [Array.contains_push]
    simp only [Bool.or_eq_true,beq_iff_eq,List.mem_cons]
    constructor
    ·rintro (h | h)
     ·exact .inr (h3.1 h)
     ·have:=hborn j e' h2 h
      subst this
      rw [hx] at h1;cases h1;exact .inl rfl
    ·rintro (h | h)
     ·obtain⟨x1,x2⟩:=x
      simp only at h
      subst h
      have:=hidx j x2 h1
      subst this
      rw [hei'] at h2;cases h2;exact .inr rfl
     ·exact .inl (h3.2 h)
   ·cases hkr
    obtain⟨x1,x2⟩:=x
    simp only at h3
    subst h3
    have:=hidx j x2 h1
    subst this
    rw [hei'] at h2;cases h2
    exact⟨sa,rfl⟩
  refine hn ⟨some (k,v)⟩ ⟨hlk,hns⟩ _ _ β F B (.refl _) hβ (fun _ _ h=>h) ⟨fun l' x c hl' hx _=>?_,hk1 _ ⟨li,by simp,_,hli,rfl⟩,fun _ c hc=>hc⟩
   (KH.put ⟨hf.kp.trans (hk1 (fun x=>x=bi) rfl) hM,hf.ok,fun c hc=>by have:=hf.own c hc;exact⟨Nat.lt_of_lt_of_le this.1 (hk1 (fun x=>x=bi) rfl).size,this.2⟩,hset _ _ (fun c hc hn' hlt'=>hoth c (fun e=>hn' (e▸hbi))) hRes,hf.env,hf.size,hf.defers,hf.pre⟩ hlt (.tup _ #[.bool true,e.key,e.val] rfl (fun j C hC=>?_)))
  ·rw [List.getElem?_eq_none (by omega)] at hx;cases hx
  ·match j,hC with
   | 0,hC=>simp at hC;subst hC;exact .ro (.v _)
   | 1,hC=>simp at hC;subst hC;show Dn _ _ _ (unv (.v (ke k))) _;rw [←hkey];exact (Dn.ro (.v _)).unv
   | 2,hC=>simp at hC;subst hC;exact (Dn.ro hv).unv
   | j+3,hC=>simp at hC
theorem Rd.en {it:Operand} {l li:Nat} {ke:κ→Value} {ve:α→AVal} {xs:List (κ×α)} {seen:List κ} {k:κ} {rest:List κ} {v:α} (ho:o.op=.entry it) (hro:∀y,(ve y).isRo=true)
  (hm:ev Γ it=some (.o li)) (hl:find H l=some (.rng ke ve xs seen li)) (hs:seen=k :: rest) (hv:Taq.lk xs k=some v):Rd P B Γ H nl o (.tup [unv (.v (ke k)),unv (ve v)]) (some [l,li]):=fun B hB β F a w hβ hf=>by
 obtain⟨dst,op,ty,pos,af,g⟩:=o
 simp only at ho;subst ho
 obtain⟨F1,hF1,b,bi,es,clock,sa,G,hv0,hli,hne,hb,hbi,hw,hwi,he,hG,hdj,hr,hs1,hs2⟩:=hf.heap.get hl
 have hiv:=(Q4 (a:=a) hf.env hm).o_inv
 rw [hli] at hiv
 have hit:=(Option.some.inj hiv).symm
 have hk2:=Q1q xs k
 cases hkk:kidx (xs.map (·.1)) k with
 | none=>rw [hkk] at hk2;rw [hk2.1] at hv;cases hv
 | some i=>
  rw [hkk] at hk2
  obtain⟨v',h1,h2⟩:=hk2
  rw [hv] at h2;cases h2
  have hi:i<es.size:=by rw [he.size];exact (List.getElem?_eq_some_iff.1 h1).1
  have hei:es[i]?=some es[i]:=Array.getElem?_eq_getElem hi
  obtain⟨sa0,hsa⟩:=hs2 k rest hs i _ _ h1 hei rfl
  subst hsa
  have hkey:=he.key i _ _ h1 hei
  refine⟨.tuple #[es[i].key,es[i].val],.tup _ _ rfl (fun j C hC=>?_),fun w' ⟨_,hw'⟩=>?_⟩
  ·match j,hC with
   | 0,hC=>simp at hC;subst hC;show Dn _ _ _ (unv (.v (ke k))) _;rw [←hkey];exact (Dn.ro (.v _)).unv
   | 1,hC=>simp at hC;subst hC;exact (Dn.ro ((hr i _ _ h1 hei).ro_of (hro v))).unv
   | j+2,hC=>simp at hC
  ·have e1:w'.heap[b]?=some (.map es clock):=by rw [hw' b ⟨l,by simp,_,hv0,rfl⟩];exact hw
   have e2:w'.heap[bi]?=some (.mapIter (some b) clock (sa0.push es[i].born) clock):=by rw [hw' bi ⟨li,by simp,_,hli,rfl⟩];exact hwi
   have hnd:(es.toList.map (·.born)).Nodup:=by
    rw [List.Nodup,List.pairwise_map];exact he.born.imp (fun h=>Nat.ne_of_lt h)
   have:=run_entry_at (P:=P) w' bi b clock sa0 es clock es[i] e2 e1 (by simp) hnd
   simp [execOp,hit,this]
end
end Go.Taq
