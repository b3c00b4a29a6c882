/- The library of the generated walks, part ZM: a range over a map that is read only. -/
import Derived.Test.YtpckofngkabgbaaGreatLibZN
set_option linter.unusedVariables false
set_option linter.unusedSimpArgs false
namespace Go.Taq
open Go
open Go.ChangeMaps (setBlock)
section
variable {P:Program} {B:Base} {tb:Tab} {Γ:Env} {H:Heap} {nl:Nat} {o:Oper} {κ α:Type} [DecidableEq κ]
omit [DecidableEq κ] in
theorem Eff1.rgm (htb:QI P tb) {t kt et n' by_ d:Nat} {zc:List Value} {m:Operand} {ke:κ→Value} {ve:α→AVal} {xs:List (κ×α)} (ho:o.op=.range t m) (ht:find tb t=some ⟨.mp kt et,n',by_,zc⟩) (hd:o.dst=some d) (hlt:d.blt B.n=true)
  (hm:ev Γ m=some (.rm ke ve xs)):Eff1 P B Γ H nl o ((d,.o nl) :: Γ) ((nl,.rngm ke ve xs []) :: H) (nl+1) (.fx [] false):=Eff1.of_value fun B hB β F a w hβ hf=>by
 rw [←hB] at hlt
 obtain⟨dst,op,ty,pos,af,g⟩:=o
 simp only at ho hd;subst ho;subst hd;subst hβ
 obtain⟨d',hdd,rfl⟩:=htb.und ht
 have hmv:=Q5 (a:=a) hf.env hm
 generalize hmm:a.eval m=mv at hmv
 cases hmv with
 | ro h=>cases h with
  | rmNil=>
   refine⟨.pointer (some ⟨w.heap.size,0,none⟩),w.alloc (.mapIter none 0 #[] 0),β++[.pointer (some ⟨w.heap.size,0,none⟩)],_,?_,by simp,fun l x h=>Q8 h,fun l x b hl hx hb=>?_,
    (KH.alloc hf (.mapIter none 0 #[] 0) (.pointer (some ⟨w.heap.size,0,none⟩)) (.rngm ke ve [] []) ?_).put hlt ?_,?_⟩
   ·simp [execOp,Instr.range,run_underlying hdd,hmm,newObj,Sem.run,Result.andThen]
   ·have:=GK rfl hl hx;subst this;cases hb;exact .inl (Nat.le_refl _)
   ·exact⟨w.heap.size,_,by simp,heap_alloc_new w _,rfl,.inl ⟨rfl,rfl⟩⟩
   ·exact .o _ _ (by simp) rfl
   ·exact XH w _ _
  | rm _ _ _ b es clock hb hw he hr=>
   have h0:=hf.ok b hb
   have hwb:w.heap[b]?=some (.map es clock):=by rw [hf.kp.block b h0.1 h0.2];exact hw
   have hg:=Go.MapKept.run_getObj_map (P:=P) hwb
   refine⟨.pointer (some ⟨w.heap.size,0,none⟩),w.alloc (.mapIter (some b) clock #[] clock),β++[.pointer (some ⟨w.heap.size,0,none⟩)],_,?_,by simp,fun l x h=>Q8 h,fun l x b hl hx hb=>?_,
    (KH.alloc hf (.mapIter (some b) clock #[] clock) (.pointer (some ⟨w.heap.size,0,none⟩)) (.rngm ke ve xs []) ?_).put hlt ?_,?_⟩
   ·simp [execOp,Instr.range,run_underlying hdd,hmm,hg,newObj,Sem.run,Result.andThen]
   ·have:=GK rfl hl hx;subst this;cases hb;exact .inl (Nat.le_refl _)
   ·exact⟨w.heap.size,_,by simp,heap_alloc_new w _,rfl,.inr ⟨b,es,clock,#[],hb,hw,rfl,he,hr,fun i x e _ _=>by simp,fun k rest h=>by cases h⟩⟩
   ·exact .o _ _ (by simp) rfl
   ·exact XH w _ _
theorem Eff.nxm {d:Nat} {it:Operand} {li:Nat} {ke:κ→Value} {ve:α→AVal} {xs:List (κ×α)} {seen:List κ} (ho:o.op=.next it false) (hd:o.dst=some d) (hlt:d.blt B.n=true) (hm:ev Γ it=some (.o li)) (hl:find H li=some (.rngm ke ve xs seen)):
  Eff (ι:=ULift (Option (κ×α))) P B Γ H nl o (fun s=>match s.down with | none=>∀k,Taq.lk xs k≠none→k∈seen | some (k,v)=>Taq.lk xs k=some v∧k∉seen)
   (fun s=>(d,match s.down with | none=>.tup [.v (.bool false)] | some (k,v)=>.tup [.v (.bool true),unv (.v (ke k)),unv (ve v)]) :: Γ)
   (fun s=>match s.down with | none=>H | some (k,v)=>setH H li (.rngm ke ve xs (k :: seen))) (fun _=>nl) (.fx [li] false):=fun B hB β F a w hβ hf next Q hn=>by
 rw [←hB] at hlt
 obtain⟨dst,op,ty,pos,af,g⟩:=o
 simp only at ho hd;subst ho;subst hd
 obtain⟨F1,hF1,⟨bi,O,hv0,hwO,hbi,hR⟩,hset⟩:=hf.heap.set hl
 have hiv:=(Q5 (a:=a) hf.env hm).o_inv
 rw [hv0] at hiv
 have hit:=(Option.some.inj hiv).symm
 unfold Oper.wp
 rcases hR with ⟨rfl,rfl⟩ | ⟨b,es,clock,sa,hbk,hw0,rfl,he,hr,hs1,hs2⟩
 ·have hgo:(getObj bi).run P w=.ok (.mapIter none 0 #[] 0) w:=by simp [getObj,Sem.run,hwO]
  have hex:(execOp a.eval ⟨some d,.next it false,ty,pos,af,g⟩).run P w=.ok (.value (.tuple #[.bool false])) w:=by
   simp [execOp,hit,Instr.next,hgo]
  rw [hex]
  refine hn ⟨none⟩ (fun k hk=>absurd rfl hk) _ _ β F B (.refl _) hβ (fun _ _ h=>h) ⟨fun l' x c hl' hx _=>?_,.refl _ _,fun _ c hc=>hc⟩ (hf.put hlt (.tup _ #[.bool false] rfl (fun j C hC=>?_)))
  ·rw [List.getElem?_eq_none (by omega)] at hx;cases hx
  ·match j,hC with
   | 0,hC=>simp at hC;subst hC;exact .ro (.v _)
   | j+1,hC=>simp at hC
 have h0:=hf.ok b hbk
 have hw:w.heap[b]?=some (.map es clock):=by rw [hf.kp.block b h0.1 h0.2];exact hw0
 have hne:b≠bi:=fun e=>by
  subst e
  exact h0.2 ((hf.own b (hF1 b hbi)).2 h0.1)
 have hmem:∀(i:Nat) (x:κ×α),xs[i]?=some x→∃e,es[i]?=some e:=fun i x hx=>by
  have:=(List.getElem?_eq_some_iff.1 hx).1
  exact⟨es[i]'(by rw [he.size];exact this),Array.getElem?_eq_getElem _⟩
 rcases run_next_at (P:=P) w ty bi b clock clock sa es clock hwO hw he.old (Nat.le_refl _) with ⟨h0,hrun⟩ | ⟨e,hel,w1,hw1,hrun⟩
 ·have hex:(execOp a.eval ⟨some d,.next it false,ty,pos,af,g⟩).run P w=.ok (.value (.tuple #[.bool false])) w:=by simp [execOp,hit,hrun]
  rw [hex]
  refine hn ⟨none⟩ (fun k hk=>?_) _ _ β F B (.refl _) hβ (fun _ _ h=>h) ⟨fun l' x c hl' hx _=>?_,.refl _ _,fun _ c hc=>hc⟩ (hf.put hlt (.tup _ #[.bool false] rfl (fun j C hC=>?_)))
  ·have hk2:=YS xs k
   cases hkk:kidx (xs.map (·.1)) k with
   | none=>rw [hkk] at hk2;exact absurd hk2.1 hk
   | some i=>
    rw [hkk] at hk2
    obtain⟨v,h1,h2⟩:=hk2
    obtain⟨e,h3⟩:=hmem i _ h1
    refine (hs1 i _ e h1 h3).1 ?_
    cases hc:sa.contains e.born with
    | true=>rfl
    | false=>
     have:e∈(leftOf es sa).toList:=by
      unfold leftOf
      simp only [Array.toList_filter,List.mem_filter]
      exact⟨Array.mem_toList_iff.2 (Array.mem_of_getElem? h3),by rw [hc];rfl⟩
     have hz:(leftOf es sa).toList=[]:=List.eq_nil_of_length_eq_zero (by simpa using h0)
     rw [hz] at this;cases this
  ·rw [List.getElem?_eq_none (by omega)] at hx;cases hx
  ·match j,hC with
   | 0,hC=>simp at hC;subst hC;exact .ro (.v _)
   | j+1,hC=>simp at hC
 ·have hel2:e∈es.toList∧sa.contains e.born=false:=by
   unfold leftOf at hel
   simp only [Array.toList_filter,List.mem_filter] at hel
   exact⟨hel.1,by simpa using hel.2⟩
  obtain⟨i,hi,hei⟩:=List.getElem_of_mem hel2.1
  have hei':es[i]?=some e:=by
   have:i<es.size:=by simpa using hi
   rw [Array.getElem?_eq_getElem this];rw [←hei];simp
  have hix:i<xs.length:=by rw [←he.size];simpa using hi
  obtain⟨⟨k,v⟩,hx⟩:∃x,xs[i]?=some x:=⟨_,List.getElem?_eq_getElem hix⟩
  have hkey:=he.key i _ e hx hei'
  have hidx:∀(j:Nat) (y:α),xs[j]?=some (k,y)→j=i:=fun j y hy=>by
   have hnd:=he.nodup
   have h1:(xs.map (·.1))[j]?=some k:=by simp [hy]
   have h2:(xs.map (·.1))[i]?=some k:=by simp [hx]
   have hj:=(List.getElem?_eq_some_iff.1 h1).1
   exact (List.getElem?_inj hj hnd).1 (h1.trans h2.symm)
  have hborn:∀(j:Nat) (e':MapEntry),es[j]?=some e'→e'.born=e.born→j=i:=fun j e' hj hb'=>by
   have hnd:(es.toList.map (·.born)).Nodup:=by
    rw [List.Nodup,List.pairwise_map];exact he.born.imp (fun h=>Nat.ne_of_lt h)
   have h1:(es.toList.map (·.born))[j]?=some e.born:=by simp [hj,hb']
   have h2:(es.toList.map (·.born))[i]?=some e.born:=by simp [hei']
   have hjl:=(List.getElem?_eq_some_iff.1 h1).1
   exact (List.getElem?_inj hjl hnd).1 (h1.trans h2.symm)
  have hlk:Taq.lk xs k=some v:=by
   have hk2:=YS xs k
   cases hkk:kidx (xs.map (·.1)) k with
   | none=>rw [hkk] at hk2;exact absurd rfl (hk2.2 _ (List.mem_of_getElem? hx))
   | some i'=>
    rw [hkk] at hk2
    obtain⟨v',h1,h2⟩:=hk2
    have:=hidx i' v' h1
    subst this
    rw [hx] at h1;cases h1;exact h2
  have hns:k∉seen:=fun h=>by
   have:=(hs1 i _ e hx hei').2 h
   rw [hel2.2] at this;cases this
  have hv:Ro B.w0 B.ok (ve v) e.val:=hr i _ e hx hei'
  have hex:(execOp a.eval ⟨some d,.next it false,ty,pos,af,g⟩).run P w=.ok (.value (.tuple #[.bool true,e.key,e.val])) (setBlock w1 bi (.mapIter (some b) clock (sa.push e.born) clock)):=by simp [execOp,hit,hrun]
  rw [hex]
  have hh1:w1.heap=w.heap:=by rcases hw1 with rfl | rfl <;> rfl
  have hk0:∀M:Nat→Prop,Kp w M w1:=fun M=>by
   rcases hw1 with rfl | rfl
   ·exact .refl _ _
   ·exact Kp.drew w M _
  have hwi1:w1.heap[bi]?=some (.mapIter (some b) clock sa clock):=by rw [hh1];exact hwO
  have hk1:∀M:Nat→Prop,M bi→Kp w M (setBlock w1 bi (.mapIter (some b) clock (sa.push e.born) clock)):=fun M hM=>(hk0 M).trans (Gb w1 bi _ M hM) (fun _ h _=>h)
  have hM:∀x,x=bi→x<B.w0.heap.size→B.M x:=fun x hx hlt'=>by subst hx;exact (hf.own x (hF1 x hbi)).2 hlt'
  have hoth:∀c,c≠bi→(setBlock w1 bi (.mapIter (some b) clock (sa.push e.born) clock)).heap[c]?=w.heap[c]?:=fun c hc=>by rw [GQ hwi1 _ hc,hh1]
  have hRes:Xb B.w0 B.ok β (setBlock w1 bi (.mapIter (some b) clock (sa.push e.born) clock)) li F1 (.rngm ke ve xs (k :: seen)):=by
   refine⟨bi,_,hv0,YX hwi1 _,hbi,.inr ⟨b,es,clock,sa.push e.born,hbk,hw0,rfl,he,hr,fun j x e' h1 h2=>?_,fun k' rest hkr j x e' h1 h2 h3=>?_⟩⟩
   ·have h3:=hs1 j x e' h1 h2
    rw [Array.contains_push]
    simp only [Bool.or_eq_true,beq_iff_eq,List.mem_cons]
    constructor
    ·rintro (h | h)
     ·exact .inr (h3.1 h)
     ·have:=hborn j e' h2 h
      subst this
      rw [hx] at h1;cases h1;exact .inl rfl
    ·rintro (h | h)
     ·obtain⟨x1,x2⟩:=x
      simp only at h
      subst h
      have:=hidx j x2 h1
      subst this
      rw [hei'] at h2;cases h2;exact .inr rfl
     ·exact .inl (h3.2 h)
   ·cases hkr
    obtain⟨x1,x2⟩:=x
    simp only at h3
    subst h3
    have:=hidx j x2 h1
    subst this
    rw [hei'] at h2;cases h2
    exact⟨sa,rfl⟩
  refine hn ⟨some (k,v)⟩ ⟨hlk,hns⟩ _ _ β F B (.refl _) hβ (fun _ _ h=>h) ⟨fun l' x c hl' hx _=>?_,hk1 _ ⟨li,by simp,_,hv0,rfl⟩,fun _ c hc=>hc⟩
   (KH.put ⟨hf.kp.trans (hk1 (fun x=>x=bi) rfl) hM,hf.ok,fun c hc=>by have:=hf.own c hc;exact⟨Nat.lt_of_lt_of_le this.1 (hk1 (fun x=>x=bi) rfl).size,this.2⟩,hset _ _ (fun c hc hn' hlt'=>hoth c (fun e=>hn' (e▸hbi))) hRes,hf.env,hf.size,hf.defers,hf.pre⟩ hlt (.tup _ #[.bool true,e.key,e.val] rfl (fun j C hC=>?_)))
  ·rw [List.getElem?_eq_none (by omega)] at hx;cases hx
  ·match j,hC with
   | 0,hC=>simp at hC;subst hC;exact .ro (.v _)
   | 1,hC=>simp at hC;subst hC;show Dn _ _ _ (unv (.v (ke k))) _;rw [←hkey];exact (Dn.ro (.v _)).unv
   | 2,hC=>simp at hC;subst hC;exact (Dn.ro hv).unv
   | j+3,hC=>simp at hC
theorem Rd.enm {it:Operand} {li:Nat} {ke:κ→Value} {ve:α→AVal} {xs:List (κ×α)} {seen:List κ} {k:κ} {rest:List κ} {v:α} (ho:o.op=.entry it)
  (hm:ev Γ it=some (.o li)) (hl:find H li=some (.rngm ke ve xs seen)) (hs:seen=k :: rest) (hv:Taq.lk xs k=some v):Rd P B Γ H nl o (.tup [unv (.v (ke k)),unv (ve v)]) (some [li]):=fun B hB β F a w hβ hf=>by
 obtain⟨dst,op,ty,pos,af,g⟩:=o
 simp only at ho;subst ho
 obtain⟨F1,hF1,bi,O,hv0,hwO,hbi,hR⟩:=hf.heap.get hl
 have hiv:=(Q5 (a:=a) hf.env hm).o_inv
 rw [hv0] at hiv
 have hit:=(Option.some.inj hiv).symm
 rcases hR with ⟨rfl,rfl⟩ | ⟨b,es,clock,sa,hbk,hw0,rfl,he,hr,hs1,hs2⟩
 ·cases hv
 have hk2:=YS xs k
 cases hkk:kidx (xs.map (·.1)) k with
 | none=>rw [hkk] at hk2;rw [hk2.1] at hv;cases hv
 | some i=>
  rw [hkk] at hk2
  obtain⟨v',h1,h2⟩:=hk2
  rw [hv] at h2;cases h2
  have hi:i<es.size:=by rw [he.size];exact (List.getElem?_eq_some_iff.1 h1).1
  have hei:es[i]?=some es[i]:=Array.getElem?_eq_getElem hi
  obtain⟨sa0,hsa⟩:=hs2 k rest hs i _ _ h1 hei rfl
  subst hsa
  have hkey:=he.key i _ _ h1 hei
  refine⟨.tuple #[es[i].key,es[i].val],.tup _ _ rfl (fun j C hC=>?_),fun w' ⟨hw1,hw'⟩=>?_⟩
  ·match j,hC with
   | 0,hC=>simp at hC;subst hC;show Dn _ _ _ (unv (.v (ke k))) _;rw [←hkey];exact (Dn.ro (.v _)).unv
   | 1,hC=>simp at hC;subst hC;exact (Dn.ro (hr i _ _ h1 hei)).unv
   | j+2,hC=>simp at hC
  ·have h0:=hf.ok b hbk
   have e1:w'.heap[b]?=some (.map es clock):=by rw [hw1 b hbk,hf.kp.block b h0.1 h0.2];exact hw0
   have e2:w'.heap[bi]?=some (.mapIter (some b) clock (sa0.push es[i].born) clock):=by rw [hw' bi ⟨li,by simp,_,hv0,rfl⟩];exact hwO
   have hnd:(es.toList.map (·.born)).Nodup:=by
    rw [List.Nodup,List.pairwise_map];exact he.born.imp (fun h=>Nat.ne_of_lt h)
   have:=run_entry_at (P:=P) w' bi b clock sa0 es clock es[i] e2 e1 (by simp) hnd
   simp [execOp,hit,this]
end
end Go.Taq
