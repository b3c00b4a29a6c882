/- The mathematics, several parts in one text. -/
import Derived.Test.YtbpbennpgnjbkaaGreatAD
import Derived.Test.YtbpbennpgnjbkaaGreatNB
import Derived.Test.YtbpbennpgnjbkaaGreatVc
import Derived.IntWalk
/- The mathematics, part AE: the end of a tick; a whole tick (arena.Step and its reference). -/
set_option linter.unusedVariables false
set_option linter.unusedSimpArgs false
namespace Go.Taq
open Go
def mset {α:Type} (g:Nat→α) (xs:List α) (i:Nat):List α:=(List.range i).map g++xs.drop i
theorem Q6Y {α:Type} (g:Nat→α) (xs:List α):mset g xs 0=xs:=by unfold mset;simp
theorem Q6r {α:Type} (g:Nat→α) (xs:List α) {i:Nat} (h:i≤xs.length):(mset g xs i).length=xs.length:=by unfold mset;simp;omega
theorem Q4s {α:Type} (g:Nat→α) {xs:List α} {i:Nat} {x:α} (h:xs[i]?=some x):(mset g xs i)[i]?=some x:=by
 unfold mset;rw [List.getElem?_append_right (by simp)];simp [h]
theorem Q4b {α:Type} (g:Nat→α) {xs:List α} {i:Nat} (h:i<xs.length):(mset g xs i).set i (g i)=mset g xs (i+1):=by
 unfold mset
 rw [List.set_append,if_neg (by simp),List.length_map,List.length_range,Nat.sub_self,List.drop_eq_getElem_cons h,List.set_cons_zero,List.range_succ,List.map_append]
 simp
theorem Q48 {α:Type} (g:Nat→α) (xs:List α):mset g xs xs.length=(List.range xs.length).map g:=by unfold mset;simp
theorem Q56 {α β:Type} (f:α→β) (xs:List α) (d:α):(List.range xs.length).map (fun i=>f (xs.getD i d))=xs.map f:=by
 apply List.ext_getElem?
 intro i
 rw [List.getElem?_map,List.getElem?_map]
 by_cases h:i<xs.length
 ·rw [List.getElem?_range h,List.getElem?_eq_getElem h,Option.map_some,Option.map_some,List.getD_eq_getElem?_getD,List.getElem?_eq_getElem h];rfl
 ·rw [List.getElem?_eq_none (by simp;omega),List.getElem?_eq_none (by omega)];rfl
def endR (b r:ApiRobot):ApiRobot:={r with Rest:=if r.Cell=b.Cell then imax (r.Rest-1) 0 else r.Rest,Mute:=imax (r.Mute-1) 0}
def decL (x:Q0):Q0:={x with Left:=x.Left-1}
def Q3k (b st:ApiState):ApiState:=
 {st with Tick:=st.Tick+1,Robots:=(List.range st.Robots.length).map (fun i=>endR (b.Robots.getD i default) (st.Robots.getD i default)),Stuck:=(st.Stuck.map decL).filter fun x=>!decide (x.Left≤0)}
section
variable {s:ApiSite} {st b:ApiState}
theorem Q5n (h:RSt s st) (hz:Sz st) (hl:b.Robots.length=st.Robots.length) {post:ApiState→Prop} (hp:post (Q3k b st)):Gb b st post:=by
 unfold Gb
 have q2:=hz.rb;have q5:=hz.sk
 have htk:=h.tick
 refine Jn.mk (fun l=>l=(List.range st.Robots.length).map (fun i=>endR (b.Robots.getD i default) (st.Robots.getD i default))) (Q21 st.Robots.length (fun t:List ApiRobot×Int=>t.2) (fun i t=>t.1=mset (fun i=>endR (b.Robots.getD i default) (st.Robots.getD i default)) st.Robots i) (by unfold maxLen;omega) rfl (Q6Y _ _).symm (fun i t hi ht hI=>?_) (fun t h=>by rw [Q48] at h;exact h)) (fun l hl2=>?_)
 ·have hx:=List.getElem?_eq_getElem hi
  generalize st.Robots[i]=r at hx
  have hy:=List.getElem?_eq_getElem (show i<b.Robots.length by omega)
  generalize b.Robots[i]'_=r0 at hy
  have hR:=h.rob i r hx
  have h1:=hR.rest;have h2:=hR.mute
  have eg:endR (b.Robots.getD i default) (st.Robots.getD i default)=endR r0 r:=by rw [Wc hx,Wc hy]
  have em:w64 (r.Mute-1)=r.Mute-1:=Qy (by omega) (by omega)
  have er:w64 (r.Rest-1)=r.Rest-1:=Qy (by omega) (by omega)
  rw [ht]
  refine Jn.mk (fun l=>l=t.1.set i (endR r0 r)) ⟨r,Qg rfl (by rw [hI];exact Q4s _ hx),r0,Qg rfl hy,Ite.mk (fun h3=>?_) (fun h3=>?_)⟩ (fun l hl2=>⟨rfl,by show l=_;rw [hl2,hI,←eg];exact Q4b _ hi⟩)
  ·have h3':r.Cell≠r0.Cell:=by simpa using h3
   show t.1.set i _=_
   unfold endR;rw [if_neg h3',em]
  ·have h3':r.Cell=r0.Cell:=by simpa using h3
   show (t.1.set i _).set i _=_
   rw [List.set_set]
   unfold endR;rw [if_pos h3',em,er]
 ·refine Jn.mk (fun m=>m=st.Stuck.map decL) (Q21 st.Stuck.length (fun t:List Q0×Int=>t.2) (fun i t=>t.1=mset (fun i=>decL (st.Stuck.getD i default)) st.Stuck i) (by unfold maxLen;omega) rfl (Q6Y _ _).symm (fun i t hi ht hI=>?_) (fun t h=>by rw [Q48,Q56] at h;exact h)) (fun m hm=>?_)
  ·have hx:=List.getElem?_eq_getElem hi
   generalize st.Stuck[i]=x at hx
   have hK:=h.stuck i x hx
   rw [ht]
   have eg:decL (st.Stuck.getD i default)=decL x:=by rw [List.getD_eq_getElem?_getD,hx];rfl
   refine⟨x,Qg rfl (by rw [hI];exact Q4s _ hx),rfl,?_⟩
   show t.1.set i _=_
   rw [hI,Qy (by omega) (by omega)]
   have:=Q4b (fun i=>decL (st.Stuck.getD i default)) hi
   rw [←this,eg];rfl
  ·unfold Ql Qr
   have hml:m.length≤maxLen:=by rw [hm];simp;unfold maxLen;omega
   refine Q0z hml (fun x:Q0=>decide (x.Left≤0)) (T:=fun x q=>X9 x q) (fun x _ q hq=>by unfold X9;exact hq) ?_
   refine Q7F hml ({Cell:=0,Left:=0}:Q0) (fun x:Q0=>decide (x.Left≤0)) (T:=fun x q=>X9 x q) (fun x _ q hq=>by unfold X9;exact hq) (post:=fun y=>post {Tick:=w64 (st.Tick+1),Shelves:=st.Shelves,Robots:=l,People:=st.People,Dead:=st.Dead,Stuck:=y}) ?_
   rw [hm,hl2,Qy (by omega) (by omega)]
   exact hp
theorem Q6H (h:RSt s st) (hz:Sz st) (hl:b.Robots.length=st.Robots.length) {K:ApiState×Int→Prop} (hp:K (Q3k b st,0)):
  Jn (fun (J55:(List ApiRobot)→Prop)=>Loop (fun (s56:List ApiRobot×Int) Y57=>Ite (decide (s56.2<(s56.1.length:Int))) (∃x63,idx s56.1 s56.2=some x63∧Jn
   (fun (J65:Bool→Prop)=>∃x66,idx b.Robots s56.2=some x66∧Ite (x63.Cell == x66.Cell) (J65 (decide (x63.Rest>0))) (J65 false))
   (fun (x64:Bool)=>Jn (fun (J69:Int→Prop)=>Ite x64 (J69 (w64 (x63.Rest-1))) (J69 x63.Rest)) (fun (x68:Int)=>Jn (fun (J76:Int→Prop)=>Ite (decide (x63.Mute>0)) (J76 (w64 (x63.Mute-1))) (J76 x63.Mute))
   (fun (x75:Int)=>Y57 ((s56.1.set (Int.toNat s56.2) ({Cell:=x63.Cell,Load:=x63.Load,Charge:=x63.Charge,Rest:=x68,Mute:=x75,Dead:=x63.Dead:ApiRobot})),w64 (s56.2+1)))))) (J55 s56.1)) (st.Robots,0))
   (fun (x54:List ApiRobot)=>Jn (fun (J89:(List Q0)→Prop)=>Loop (fun (s90:List Q0×Int) Y91=>Ite (decide (s90.2<(st.Stuck.length:Int))) (∃x97,idx st.Stuck s90.2=some x97∧Jn
    (fun (J103:(List Q0)→Prop)=>Ite (decide ((w64 (x97.Left-1))>0)) ((s90.1.length+([({Cell:=x97.Cell,Left:=w64 (x97.Left-1):Q0})]:List Q0).length≤1099511627776)∧J103 (s90.1++([({Cell:=x97.Cell,Left:=w64 (x97.Left-1):Q0})]:List Q0))) (J103 s90.1))
    (fun (x102:List Q0)=>Y91 (x102,w64 (s90.2+1)))) (J89 s90.1)) (([],0):List Q0×Int))
    (fun (x88:List Q0)=>K (({Tick:=w64 (st.Tick+1),Shelves:=st.Shelves,Robots:=x54,People:=st.People,Dead:=st.Dead,Stuck:=x88:ApiState}),0))):=by
 have q2:=hz.rb;have q5:=hz.sk
 have htk:=h.tick
 refine Jn.mk (fun l=>l=(List.range st.Robots.length).map (fun i=>endR (b.Robots.getD i default) (st.Robots.getD i default))) (Loop.inv st.Robots.length (fun i t=>t.2=(i:Int)∧t.1=mset (fun i=>endR (b.Robots.getD i default) (st.Robots.getD i default)) st.Robots i) ⟨rfl,(Q6Y _ _).symm⟩ (fun i t hi hI=>?_) (fun t hI=>?_)) (fun l hl2=>?_)
 ·obtain⟨ht,hI⟩:=hI
  have hlen:=Q6r (fun i=>endR (b.Robots.getD i default) (st.Robots.getD i default)) st.Robots (i:=i) (by omega)
  have hx:=List.getElem?_eq_getElem hi
  generalize st.Robots[i]=r at hx
  have hy:=List.getElem?_eq_getElem (show i<b.Robots.length by omega)
  generalize b.Robots[i]'_=r0 at hy
  have hR:=h.rob i r hx
  have h1:=hR.rest;have h2:=hR.mute
  have eg:endR (b.Robots.getD i default) (st.Robots.getD i default)=endR r0 r:=by rw [Wc hx,Wc hy]
  have em:w64 (r.Mute-1)=r.Mute-1:=Qy (by omega) (by omega)
  have er:w64 (r.Rest-1)=r.Rest-1:=Qy (by omega) (by omega)
  rw [ht]
  refine Ite.lt (by rw [hI,hlen];omega) ⟨r,Qg rfl (by rw [hI];exact Q4s _ hx),?_⟩
  refine Jn.mk (fun b=>b=(r.Cell == r0.Cell&&decide (r.Rest>0))) ⟨r0,Qg rfl hy,Ite.mk (fun h3=>by rw [h3];rfl) (fun h3=>by rw [h3];rfl)⟩ (fun c hc=>?_)
  refine Jn.mk (fun v=>v=(endR r0 r).Rest) (Ite.mk (fun h3=>?_) (fun h3=>?_)) (fun v hv=>?_)
  ·rw [h3] at hc
   have:=hc.symm
   simp at this
   unfold endR;simp only;rw [if_pos this.1,er];unfold imax;split <;> omega
  ·rw [h3] at hc
   unfold endR;simp only
   split
   ·rename_i h4
    have:¬r.Rest>0:=fun h5=>by rw [h4] at hc;simp [h5] at hc
    unfold imax;split <;> omega
   ·rfl
  refine Jn.mk (fun v=>v=(endR r0 r).Mute) (Ite.mk (fun h3=>?_) (fun h3=>?_)) (fun v2 hv2=>?_)
  ·have:r.Mute>0:=by simpa using h3
   unfold endR;simp only;rw [em];unfold imax;split <;> omega
  ·have:¬r.Mute>0:=by simpa using h3
   unfold endR;simp only;unfold imax;split <;> omega
  refine⟨by rw [Qy (by omega) (by omega)];simp,?_⟩
  show t.1.set i _=_
  rw [hI,hv,hv2]
  have:=Q4b (fun i=>endR (b.Robots.getD i default) (st.Robots.getD i default)) hi
  rw [←this,eg];rfl
 ·obtain⟨ht,hI⟩:=hI
  have hlen:=Q6r (fun i=>endR (b.Robots.getD i default) (st.Robots.getD i default)) st.Robots (i:=st.Robots.length) (Nat.le_refl _)
  rw [Q48] at hI hlen
  exact Ite.nlt (by rw [ht,hI,hlen];omega) hI
 ·refine Jn.mk (fun m=>m=(st.Stuck.map decL).filter fun x=>!decide (x.Left≤0)) (Wg (xs:=st.Stuck) (by unfold maxLen;omega) (fun t:List Q0×Int=>t.2) (fun i t=>t.1=((st.Stuck.take i).map decL).filter fun x=>!decide (x.Left≤0)) rfl (by simp) (fun i x t hx ht hI=>?_) (fun t h=>by rw [List.take_length] at h;exact h)) (fun m hm=>?_)
  ·have hK:=h.stuck i x hx
   have hlt:=(List.getElem?_eq_some_iff.1 hx).1
   have hle:t.1.length≤1000:=by
    rw [hI]
    refine Nat.le_trans (List.length_filter_le _ _) ?_
    simp;omega
   rw [Qy (x:=x.Left-1) (by omega) (by omega),ht]
   refine Jn.mk (fun l=>l=t.1++if x.Left-1>0 then [decL x] else []) (Ite.mk (fun h3=>⟨by simp;omega,?_⟩) (fun h3=>?_)) (fun l hl3=>⟨rfl,?_⟩)
   ·rw [if_pos (by simpa using h3)];rfl
   ·rw [if_neg (by simpa using h3),List.append_nil]
   ·show l=_
    rw [hl3,hI,QY hx,List.map_append,List.filter_append]
    congr 1
    show _=([x].map decL).filter _
    rw [List.map_singleton]
    by_cases h4:x.Left-1>0
    ·rw [if_pos h4,List.filter_cons_of_pos];· rfl
     have:¬(decL x).Left≤0:=by show ¬x.Left-1≤0;omega
     simp [this]
    ·rw [if_neg h4,List.filter_cons_of_neg];· rfl
     have:(decL x).Left≤0:=by show x.Left-1≤0;omega
     simp [this]
  ·rw [hm,hl2,Qy (by omega) (by omega)];exact hp
theorem Q7Z (h:RSt s st) (hl:b.Robots.length=st.Robots.length) (ht:st.Tick<20000):RSt s (Q3k b st):=by
 have hget:∀(i:Nat) r',(Q3k b st).Robots[i]?=some r'→∃r,st.Robots[i]?=some r∧r'=endR (b.Robots.getD i default) r:=fun i r' hi=>by
  have hi':((List.range st.Robots.length).map (fun i=>endR (b.Robots.getD i default) (st.Robots.getD i default)))[i]?=some r':=hi
  rw [List.getElem?_map] at hi'
  cases e:(List.range st.Robots.length)[i]? with
  | none=>rw [e] at hi';cases hi'
  | some j=>
   rw [e] at hi'
   obtain⟨h1,h2⟩:=List.getElem?_eq_some_iff.1 e
   simp at h1 h2
   subst h2
   have hx:=List.getElem?_eq_getElem h1
   refine⟨_,hx,?_⟩
   exact (Option.some.inj hi').symm.trans (by show endR _ (st.Robots.getD _ default)=_;rw [Wc hx])
 refine Q0W h (st':=Q3k b st) ?_ rfl rfl (by have:=h.tick;show 0≤st.Tick+1∧st.Tick+1≤20000;omega) (fun i r' hi=>?_) h.dead h.deadA (fun i x hi=>?_) (fun i x y hx hy=>?_)
 ·show ((List.range st.Robots.length).map (fun i=>endR (b.Robots.getD i default) (st.Robots.getD i default))).map CL=_
  rw [List.map_map]
  have:(CL ∘ fun i=>endR (b.Robots.getD i default) (st.Robots.getD i default))=fun i=>CL (st.Robots.getD i default):=rfl
  rw [this];exact Q56 CL st.Robots default
 ·obtain⟨r,hr,e⟩:=hget i r' hi
  have hR:=h.rob i r hr
  have h1:=hR.rest;have h2:=hR.mute
  subst e
  refine⟨hR.charge,?_,?_⟩
  ·unfold endR;simp only;split
   ·unfold imax;split <;> omega
   ·exact h1
  ·unfold endR;simp only;unfold imax;split <;> omega
 ·have hm:=List.mem_of_getElem? hi
  have hm':x∈(st.Stuck.map decL).filter fun x=>!decide (x.Left≤0):=hm
  obtain⟨h1,h2⟩:=List.mem_filter.1 hm'
  obtain⟨y,hy,e⟩:=List.mem_map.1 h1
  obtain⟨j,hj⟩:=List.getElem?_of_mem hy
  have hK:=h.stuck j y hj
  subst e
  have h2':¬(decL y).Left≤0:=by simpa using h2
  refine⟨hK.1,?_⟩
  have:(decL y).Left=y.Left-1:=rfl
  omega
 ·have h1:=Q2G (g:=fun x:Q0=>x.Cell) h.stuckA
  have h2:((st.Stuck.map decL).filter fun x=>!decide (x.Left≤0)).Pairwise (fun x y=>x.Cell<y.Cell):=List.Pairwise.filter _ (List.pairwise_map.2 (h1.imp (fun h=>h)))
  exact Q2S (g:=fun x:Q0=>x.Cell) h2 i x y hx hy
/-! ## lengths -/
structure SzN (n:Nat) (st:ApiState):Prop where
 sh:st.Shelves.length≤20
 rb:st.Robots.length≤20
 pp:st.People.length≤20
 dd:st.Dead.length≤n
 sk:st.Stuck.length≤n
theorem SzN.sz {n:Nat} (h:SzN n st) (hn:n≤1000):Sz st:=⟨by have:=h.sh;omega,by have:=h.rb;omega,by have:=h.pp;omega,by have:=h.dd;omega,by have:=h.sk;omega⟩
theorem SzN.mono {n m:Nat} (h:SzN n st) (hn:n≤m):SzN m st:=⟨h.sh,h.rb,h.pp,by have:=h.dd;omega,by have:=h.sk;omega⟩
theorem Q4W.szN (h:Q4W st):SzN 12 st:=⟨by have:=h.sh;omega,by have:=h.rb;omega,by have:=h.pp;omega,h.dd,h.sk⟩
theorem Q2i {n:Nat} (hf:RF s.Floor) (h:RSt s st) (hz:SzN n st) (f:Qk):SzN (n+1) (Wt s st f):=by
 have hr:=Q2k hf h f
 have hpl:=hr.pl
 cases hb:Kx s st f with
 | false=>rw [Q4e hb];exact hz.mono (by omega)
 | true=>
  have q1:=hz.sh;have q2:=hz.rb;have q3:=hz.dd;have q4:=hz.sk
  by_cases h1:f.Kind=1
  ·rw [Q6p hb h1] at hpl ⊢;exact⟨q1,by unfold setR;simp only;rw [List.length_set];exact q2,hpl,by show st.Dead.length≤_;omega,by show st.Stuck.length≤_;omega⟩
  by_cases h2:f.Kind=2
  ·rw [Q5d hb h2] at hpl ⊢;exact⟨q1,q2,hpl,by show (srtI _).length≤_;rw [(Q2K _).length_eq];simp;omega,by show st.Stuck.length≤_;omega⟩
  by_cases h3:f.Kind=3
  ·rw [Q6s hb h3] at hpl ⊢;exact⟨q1,by unfold setR;simp only;rw [List.length_set];exact q2,hpl,by show st.Dead.length≤_;omega,by show st.Stuck.length≤_;omega⟩
  by_cases h4:f.Kind=4
  ·rw [Q68 hb h4] at hpl ⊢;exact⟨q1,q2,hpl,by show st.Dead.length≤_;omega,by have:=(Q1C f.A f.N st.Stuck).2;show (K8 _ _ _).length≤_;omega⟩
  by_cases h5:f.Kind=5
  ·rw [Q3R hb h5] at hpl ⊢;exact⟨q1,q2,hpl,by show st.Dead.length≤_;omega,by show st.Stuck.length≤_;omega⟩
  ·by_cases h0:f.Kind=0
   ·rw [Q5m h0];exact hz.mono (by omega)
   ·have:=Q1F (s:=s) (st:=st) h0 h1 h2 h3 h4 h5
    rw [this] at hb;cases hb
theorem Q45 (i:Nat) (a:Int):(doA s st i a).Tick=st.Tick∧(doA s st i a).Robots.length=st.Robots.length∧(doA s st i a).Shelves.length=st.Shelves.length∧(doA s st i a).People=st.People∧(doA s st i a).Dead=st.Dead∧(doA s st i a).Stuck=st.Stuck:=by
 unfold doA
 generalize (if legS s st i a=0 then a else 0)=c
 unfold doS
 split
 ·exact⟨rfl,rfl,rfl,rfl,rfl,rfl⟩
 ·refine⟨?_,Q9z _ _ _,Q9k _ _ _,?_,?_,?_⟩ <;> (unfold doR;split <;> rfl)
theorem Q7q {n:Nat} (hz:SzN n st) (i:Nat) (a:Int):SzN n (doA s st i a):=by
 obtain⟨_,h1,h2,h3,h4,h5⟩:=Q45 (s:=s) (st:=st) i a
 exact⟨by rw [h2];exact hz.sh,by rw [h1];exact hz.rb,by rw [h3];exact hz.pp,by rw [h4];exact hz.dd,by rw [h5];exact hz.sk⟩
theorem Q87 {n:Nat} (hz:SzN n st):SzN n (Q3k b st):=
 ⟨hz.sh,by show ((List.range st.Robots.length).map _).length≤20;simp;exact hz.rb,hz.pp,hz.dd,by
  show ((st.Stuck.map decL).filter _).length≤n
  exact Nat.le_trans (List.length_filter_le _ _) (by simp;exact hz.sk)⟩
theorem Q10 {n:Nat} (hn:n≤1000) (hf:RF s.Floor) (hs:RS s) (acts:List Int):∀(k i:Nat) (st:ApiState),i+k≤st.Robots.length→RSt s st→SzN n st→RSt s (runS s acts k i st)∧SzN n (runS s acts k i st)∧(runS s acts k i st).Tick=st.Tick∧(runS s acts k i st).Robots.length=st.Robots.length
 | 0,i,st,_,h,hz=>⟨h,hz,rfl,rfl⟩
 | k+1,i,st,hi,h,hz=>by
  obtain⟨g1,g2,_⟩:=Q45 (s:=s) (st:=st) i (acts.getD i 0)
  obtain⟨h1,h2,h3,h4⟩:=Q10 hn hf hs acts k (i+1) (doA s st i (acts.getD i 0)) (by rw [g2];omega) (Q7t hf hs h (hz.sz hn) (by omega) _) (Q7q hz i _)
  exact⟨h1,h2,h3.trans g1,h4.trans g2⟩
theorem Qat {n:Nat} (hn:n≤1000) (hf:RF s.Floor) (hs:RS s) {acts:List Int} (hm:acts.length≤maxLen) {now:ApiState} (h:RSt s now) (hz:SzN n now) (hl:acts.length=now.Robots.length)
  {L:ApiState→Int→Int→(Int→Prop)→Prop} (hL:∀st,Qh st→LS s st→∀i a {q:Int→Prop},q (legS s st i a)→L st i a q)
  {D:ApiState→Int→Int→(ApiState→Prop)→Prop} (hD:∀st,Qh st→LS s st→∀i a {q:ApiState→Prop},0≤a→a<10→q (doS s st i a)→D st i a q)
  {K:Int×List Int×List ApiRobot×List Int×List Int×List Q0→Prop} (hp:∀t:Int×List Int×List ApiRobot×List Int×List Int×List Q0,({Tick:=t.1,Shelves:=t.2.1,Robots:=t.2.2.1,People:=t.2.2.2.1,Dead:=t.2.2.2.2.1,Stuck:=t.2.2.2.2.2}:ApiState)=runS s acts acts.length 0 now→K t):
  Jn (fun (J:(Int×List Int×List ApiRobot×List Int×List Int×List Q0)→Prop)=>Loop (fun (t:Int×List Int×List ApiRobot×List Int×List Int×List Q0×Int) Y=>Ite (decide (t.2.2.2.2.2.2<(acts.length:Int)))
   (∃x,idx acts t.2.2.2.2.2.2=some x∧L (stOf t) t.2.2.2.2.2.2 x (fun y=>Jn (fun (J2:Int→Prop)=>Ite (y != 0) (J2 0) (J2 x)) (fun (a:Int)=>D (stOf t) t.2.2.2.2.2.2 a (fun z=>Y (z.Tick,z.Shelves,z.Robots,z.People,z.Dead,z.Stuck,w64 (t.2.2.2.2.2.2+1))))))
   (J (t.1,t.2.1,t.2.2.1,t.2.2.2.1,t.2.2.2.2.1,t.2.2.2.2.2.1))) (now.Tick,now.Shelves,now.Robots,now.People,now.Dead,now.Stuck,0)) K:=by
 refine Jn.mk (fun t=>({Tick:=t.1,Shelves:=t.2.1,Robots:=t.2.2.1,People:=t.2.2.2.1,Dead:=t.2.2.2.2.1,Stuck:=t.2.2.2.2.2}:ApiState)=runS s acts acts.length 0 now) (Loop.inv acts.length (fun i t=>t.2.2.2.2.2.2=(i:Int)∧RSt s (stOf t)∧SzN n (stOf t)∧(stOf t).Robots.length=acts.length∧runS s acts acts.length 0 now=runS s acts (acts.length-i) i (stOf t)) ⟨rfl,h,hz,hl.symm,rfl⟩ (fun i t hi hI=>?_) (fun t hI=>?_)) hp
 ·obtain⟨ht,hr,hsz,hlen,hI⟩:=hI
  have hx:=List.getElem?_eq_getElem hi
  generalize acts[i]=a at hx
  have hn':acts.length-i=(acts.length-(i+1))+1:=by omega
  rw [hn',runS,Wn hx] at hI
  have hls:=Q4X hf hs hr (hsz.sz hn)
  have hok:=Q66 hf hr (hsz.sz hn)
  rw [ht]
  refine Ite.lt (by omega) ⟨a,Qg rfl hx,hL _ hok hls i a ?_⟩
  refine Jn.mk (fun c=>c=if legS s (stOf t) i a=0 then a else 0) (Ite.mk (fun h6=>by rw [if_neg (by simpa using h6)]) (fun h6=>by rw [if_pos (by simpa using h6)])) (fun c hc=>?_)
  have hleg:=legA (s:=s) (st:=stOf t) (i:=i) (by omega) a
  rw [←hc] at hleg
  have hb:=Q7y hleg
  have e:doS s (stOf t) i c=doA s (stOf t) i a:=by unfold doA;rw [←hc]
  refine hD _ hok hls i c hb.1 hb.2 ?_
  rw [e]
  refine⟨XJ hi hm,Q7t hf hs hr (hsz.sz hn) (by omega) a,Q7q hsz i a,?_,hI⟩
  show (doA s (stOf t) i a).Robots.length=_
  rw [(Q45 (s:=s) (st:=stOf t) i a).2.1];exact hlen
 ·obtain⟨ht,hr,hsz,hlen,hI⟩:=hI
  rw [Nat.sub_self,runS] at hI
  exact Ite.nlt (by omega) hI.symm
def Q6a:ApiState:={Tick:=0,Shelves:=[],Robots:=[],People:=[],Dead:=[],Stuck:=[]}
def tickS (s:ApiSite) (st:ApiState) (acts:List Int) (f:Qk):ApiState:=Q3k st (runS s acts acts.length 0 (Wt s st f))
noncomputable def ZK (s:ApiSite) (st:ApiState) (acts:List Int) (f:Qk):ApiState×Int:=
 if chkS s st acts≠0 then (Q6a,chkS s st acts) else if Kx s st f=false then (Q6a,26) else (tickS s st acts f,0)
theorem Q4w {acts:List Int} (h:chkS s st acts=0):st.Tick<20000∧acts.length=st.Robots.length:=by
 unfold chkS at h
 by_cases h1:st.Tick≥20000
 ·rw [if_pos h1] at h;simp at h
 ·rw [if_neg h1] at h
  by_cases h2:(acts.length:Int)≠st.Robots.length
  ·rw [if_pos h2] at h;simp at h
  ·exact⟨by omega,by omega⟩
theorem Q5U (f:Qk):(Wt s st f).Robots.length=st.Robots.length∧(Wt s st f).Tick=st.Tick:=by
 unfold Wt setR;split
 ·exact⟨rfl,rfl⟩
 ·(repeat' split) <;> first | exact⟨rfl,rfl⟩ | exact⟨by simp,rfl⟩
theorem Q3L {n:Nat} (hn:n<1000) (hf:RF s.Floor) (hs:RS s) (h:RSt s st) (hz:SzN n st) {acts:List Int} (hc:chkS s st acts=0) (f:Qk):RSt s (tickS s st acts f)∧SzN (n+1) (tickS s st acts f)∧(tickS s st acts f).Tick=st.Tick+1∧(tickS s st acts f).Robots.length=st.Robots.length:=by
 obtain⟨ht,hl⟩:=Q4w hc
 obtain⟨e1,e2⟩:=Q5U (s:=s) (st:=st) f
 have hr:=Q2k hf h f
 have hsz:=Q2i hf h hz f
 obtain⟨g1,g2,g3,g4⟩:=Q10 (n:=n+1) (by omega) hf hs acts acts.length 0 (Wt s st f) (by rw [e1];omega) hr hsz
 refine⟨Q7Z g1 (by rw [g4,e1]) (by rw [g3,e2];exact ht),Q87 g2,?_,?_⟩
 ·show (runS s acts acts.length 0 (Wt s st f)).Tick+1=_;rw [g3,e2]
 ·show ((List.range _).map _).length=_;simp;rw [g4,e1]
theorem YC {n:Nat} (hn:n<1000) (ks:Qz s) (hf:RF s.Floor) (hs:RS s) (h:RSt s st) (hz:SzN n st) {acts:List Int} (ka:OkL I64 acts) {f:Qk} {post:ApiState×Int→Prop} (hp:post (ZK s st acts f)):G0 s st acts f post:=by
 unfold G0
 have hsz:=hz.sz (by omega)
 have hok:=Q66 hf h hsz
 unfold ZK at hp
 refine Q0Z ks hok (Q4X hf hs h hsz) ka (Ite.mk (fun h1=>?_) (fun h1=>?_))
 ·rw [if_pos (by simpa using h1)] at hp;exact hp
 have hc:chkS s st acts=0:=by simpa using h1
 rw [if_neg (by simpa using h1)] at hp
 refine WL hf hsz (Ite.mk (fun h2=>?_) (fun h2=>?_))
 ·have h2':Q1e s st f≠0:=by simpa using h2
  have hb:Kx s st f=false:=by
   cases e:Kx s st f with
   | false=>rfl
   | true=>exact absurd (Y6.2 e) h2'
  have:Q1e s st f=26:=by unfold Q1e;rw [hb];rfl
  rw [if_pos hb] at hp;rw [this];exact hp
 have hb:Kx s st f=true:=Y6.1 (by simpa using h2)
 rw [if_neg (by rw [hb];simp)] at hp
 obtain⟨ht,hl⟩:=Q4w hc
 obtain⟨e1,e2⟩:=Q5U (s:=s) (st:=st) f
 have hr:=Q2k hf h f
 have hsz1:=Q2i hf h hz f
 obtain⟨g1,g2,g3,g4⟩:=Q10 (n:=n+1) (by omega) hf hs acts acts.length 0 (Wt s st f) (by rw [e1];omega) hr hsz1
 refine Q0f hf hsz (Qat (n:=n+1) (by omega) hf hs ka.1 hr hsz1 (by rw [e1];exact hl) (L:=fun st i a q=>G7 s st i a q) (fun st k h i a q hq=>Q2C ks k h hq) (D:=fun st i a q=>Yz s st i a q) (fun st k h i a q h0 h9 hq=>Q6k ks k h h0 h9 hq) (fun t ht=>?_))
 rw [ht]
 exact ZL (g2.sz (by omega)) (Q5n g1 (g2.sz (by omega)) (by rw [g4,e1]) hp)
theorem Q50 {n:Nat} (hn:n<1000) (ks:Qz s) (hr:ZH s) (h:RSt s st) (hz:SzN n st) {acts:List Int} (ka:OkL I64 acts) {f:Qk} {post:ApiState×Int→Prop} (hp:post (ZK s st acts f)):Xu s st acts f post:=by
 have hf:=hr.fl
 have hs:=hr.rs
 unfold Xu
 have hsz:=hz.sz (by omega)
 have hok:=Q66 hf h hsz
 unfold ZK at hp
 refine Q12 ks hr hok (Q4X hf hs h hsz) ka ?_
 refine Jn.mk (fun e=>e=if chkS s st acts≠0 then chkS s st acts else Q1e s st f) (Ite.mk (fun h1=>?_) (fun h1=>?_)) (fun e he=>?_)
 ·rw [if_neg (by simpa using h1)]
  exact WN hf hok hsz rfl
 ·rw [if_pos (by simpa using h1)]
 by_cases hc:chkS s st acts=0
 ·rw [if_neg (by simpa using hc)] at he hp
  cases hb:Kx s st f with
  | false=>
   have:Q1e s st f=26:=by unfold Q1e;rw [hb];rfl
   rw [if_pos hb] at hp
   refine Ite.t (by rw [he,this];rfl) ?_
   rw [he,this];exact hp
  | true=>
   rw [if_neg (by rw [hb];simp)] at hp
   refine Ite.f (by rw [he,Y6.2 hb];rfl) ?_
   obtain⟨ht,hl⟩:=Q4w hc
   obtain⟨e1,e2⟩:=Q5U (s:=s) (st:=st) f
   have hr1:=Q2k hf h f
   have hsz1:=Q2i hf h hz f
   obtain⟨g1,g2,g3,g4⟩:=Q10 (n:=n+1) (by omega) hf hs acts acts.length 0 (Wt s st f) (by rw [e1];omega) hr1 hsz1
   refine Q0k hf hok h hsz (Qat (n:=n+1) (by omega) hf hs ka.1 hr1 hsz1 (by rw [e1];exact hl) (L:=fun st i a q=>QQ s st i a q) (fun st k h i a q hq=>Q19 ks hr k h hq) (D:=fun st i a q=>Kr s st i a q) (fun st k h i a q h0 h9 hq=>Q3E ks hr k h h0 h9 hq) (fun t ht=>?_))
   rw [ht]
   exact Zb (g2.sz (by omega)) (Q6H g1 (g2.sz (by omega)) (by rw [g4,e1]) hp)
 ·rw [if_pos hc] at he hp
  refine Ite.t (by rw [he];simpa using hc) ?_
  rw [he];exact hp
end
end Go.Taq
/- The mathematics, part AF: right states and right sites by the program's own functions; the bounds of the statements of chapter 16. -/
set_option linter.unusedVariables false
set_option linter.unusedSimpArgs false
namespace Go.Taq
open Go
section
variable {s:ApiSite} {st:ApiState}
/-! ## a bare site is right -/
theorem Q3g {f:Q6} (h:RF f) {post:Bool→Prop} (hp:post true):Wp f post:=by
 have w1:=h.W1;have w2:=h.H1;have w3:=h.D1;have w4:=h.D4;have w5:=h.W4;have w6:=h.H4;have w7:=h.n4;have w8:=h.kl;have w9:=h.ol
 have e:=Q44 (f:=f) (by omega) (by omega) (by omega) (by omega) (by omega) (by omega)
 unfold Wp Gx
 rw [e.1]
 refine Jor3 (Ite.f ?_ (Jor3 (Ite.f ?_ ?_)))
 ·simp only [Bool.or_eq_false_iff,decide_eq_false_iff_not,Q5Y,Q8Y];omega
 ·simp only [Bool.or_eq_false_iff,decide_eq_false_iff_not,bne_eq_false_iff_eq];omega
 have hl:f.Kind.length≤maxLen:=by unfold maxLen;omega
 refine Jn.mk (fun _=>True) (Wg hl (fun s=>s) (fun _ _=>True) rfl trivial (fun n x t hx ht _=>?_) (fun _ _=>trivial)) (fun _ _=>hp)
 have hn:=(List.getElem?_eq_some_iff.1 hx).1
 have ho:f.Out[n]?=some (f.Out[n]'(by omega)):=List.getElem?_eq_getElem _
 have hb:=h.ko n x _ hx ho
 refine Jn.mk (fun b=>b=false) (Ite.f (by simp;omega) (Ite.f (by simp;omega) ⟨_,by rw [ht];exact Qg rfl ho,Ite.f (by simp;omega) (by simp;omega)⟩)) (fun b hb=>Ite.f hb ⟨by rw [ht],trivial⟩)
theorem Q1f (k:Qz s) (hs:s.Robots.length≤1000000) {nz na ns n:Nat} {m:Q7} (hI:MInv s nz na ns n m) {x:ApiStart} (hx:s.Robots[n]?=some x) {post:Int×Q7→Prop} (h200:n<200)
  (h:isC s.Floor x.Cell=true∧0≤x.Charge∧x.Charge≤1000000∧kd s.Floor x.Cell≠0∧rbAt (s.Robots.take n) x.Cell=false) (hT:∀m',MInv s nz na ns (n+1) m'→post (0,m')):QX x m post:=by
 have hn:=(List.getElem?_eq_some_iff.1 hx).1
 have hlen:m.site.Robots.length=n:=by rw [hI.rs];simp;omega
 unfold QX
 refine Q2T ?_
 rw [hI.fl,if_pos h.1]
 refine Jn.mk (fun b=>b=false) (Ite.t rfl ?_) (fun b hb=>Ite.f hb (Ite.f (by simpa using h.2.2.2.1) (Ite.f (by rw [hI.robot];exact h.2.2.2.2) (Ite.f (by rw [hlen];simp;omega) ⟨by rw [hlen];simp;omega,hT _ ⟨rfl,hI.zs,hI.aps,hI.sh,?_,hI.names,hI.zoned,hI.shelf,fun c=>?_⟩⟩))))
 ·unfold GB;refine YS ?_
  rw [decide_eq_true (show x.Charge≥0 from h.2.1),decide_eq_true h.2.2.1];rfl
 ·show m.site.Robots++[x]=_;rw [hI.rs,QY hx]
 ·show (lk (upd m.robot x.Cell true) c).getD false=_
  rw [Q3D,QY hx,Q80]
  by_cases e:x.Cell=c
  ·rw [if_pos e];simp [e]
  ·rw [if_neg e,hI.robot];simp [e]
theorem Q3S (k:Qz s) (hf:RF s.Floor) (hz:s.Zones=[]) (ha:s.Aparts=[]) (hs:s.Shelves=[]) (h2:s.Robots.length≤200)
  (hr:∀(i:Nat) x,s.Robots[i]?=some x→isC s.Floor x.Cell=true∧0≤x.Charge∧x.Charge≤1000000∧kd s.Floor x.Cell≠0∧rbAt (s.Robots.take i) x.Cell=false) (hc:s.Floor.Kind.contains 3=true) {post:Bool→Prop} (hp:post true):W0 s post:=by
 unfold W0
 refine Q3g hf (Ite.f rfl ?_)
 unfold GO
 rw [hz,ha,hs]
 refine Jn.mk (fun t:T16=>MInv s 0 0 0 0 (of16 t)) (Loop.step (Ite.nlt (by simp) ⟨rfl,rfl,rfl,rfl,rfl,fun n=>rfl,fun c=>rfl,fun c=>rfl,fun c=>rfl⟩)) (fun t1 h1=>?_)
 refine Jn.mk (fun t:T16=>MInv s 0 0 0 0 (of16 t)) (Loop.step (Ite.nlt (by simp) h1)) (fun t2 h3=>?_)
 refine Jn.mk (fun t:T16=>MInv s 0 0 0 0 (of16 t)) (Loop.step (Ite.nlt (by simp) h3)) (fun t3 h4=>?_)
 refine Jn.mk (fun t:T16=>MInv s 0 0 0 s.Robots.length (of16 t))
  (Wg k.Robots.1 (fun t:T17 Int=>lst t) (fun n (t:T17 Int)=>MInv s 0 0 0 n (ofT t)) rfl (by exact h4) (fun n x t hx ht hI=>?_) (fun t h=>h)) (fun t4 h5=>?_)
 ·exact Q1f (m:=ofT t) k (by omega) hI hx (by have:=(List.getElem?_eq_some_iff.1 hx).1;omega) (hr n x hx) (fun m' hm'=>Ite.f rfl ⟨by show w64 (lst t+1)=_;rw [show lst t=(n:Int) from ht],hm'⟩)
 ·have e1:(of16 t4).site.Shelves=[]:=by rw [h5.sh];rfl
  have e2:(of16 t4).site.Zones=[]:=by rw [h5.zs];rfl
  have e3:(of16 t4).site.Floor=s.Floor:=h5.fl
  refine Jn.mk (fun b=>b=true) ?_ (fun b hb=>hb▸hp)
  show KN (of16 t4) _
  unfold KN
  rw [e1]
  refine Jn.mk (fun _=>True) (Loop.step (Ite.nlt (by simp) trivial)) (fun _ _=>Ite.t (by decide) ?_)
  show Ku (of16 t4) _
  unfold Ku Qi
  rw [e2]
  refine Jn.mk (fun _=>True) (Loop.step (Ite.nlt (by simp) trivial)) (fun _ _=>Ite.t (by decide) ?_)
  show Kv (of16 t4) _
  unfold Kv
  rw [e3]
  exact XN k.Floor.Kind.1 (by rw [hc])
/-! ## bounds -/
structure Q9o (s:ApiSite) (st:ApiState):Prop where
 r:ZH s
 few:FewS s 30 6
 f12:Q4W st
 rst:RSt s st
theorem Q5Q {l:List K0} {most:Int} (hm:0≤most∧most≤1000) (k:OkL Ge l) {post:Bool→Prop} (hF:post false) (hT:(l.length:Int)≤most→post true):XK l most post:=by
 unfold XK
 have hk:=k.1
 unfold maxLen at hk
 have hend:post (decide ((l.length:Int)≤most)):=by
  by_cases h:(l.length:Int)≤most
  ·rw [decide_eq_true h];exact hT h
  ·rw [decide_eq_false h];exact hF
 refine Jn.mk (fun _=>True) (Loop.mk (fun t=>∃i:Nat,t=(i:Int)∧i≤l.length∧(i:Int)≤most+1) (fun t=>l.length+1-t.toNat) ⟨0,rfl,by omega,by omega⟩ ?_) (fun _ _=>hend)
 rintro t ⟨i,rfl,hi,hi2⟩
 refine Jn.mk (fun b=>b=true→(i:Int)<l.length∧(i:Int)≤most) (Ite.mk (fun h1 h2=>⟨by simpa using h1,by simpa using h2⟩) (fun h1 h=>by cases h)) (fun b hb=>Ite.mk (fun h=>?_) (fun _=>trivial))
 obtain⟨h1,h2⟩:=hb h
 have hx:=List.getElem?_eq_getElem (show i<l.length by omega)
 refine⟨_,Qg rfl hx,Ite.mk (fun _=>hF) (fun _=>⟨⟨i+1,by rw [Qy (by omega) (by omega)];simp,by omega,by omega⟩,?_⟩)⟩
 rw [Qy (by omega) (by omega)];omega
theorem Q4q (ks:Qz s) (k:Qh st) {l:List K0} (kl:OkL Ge l) {post:Bool→Prop} (hF:post false) (hT:Q9o s st→l.length≤12→post true):Xh s st l 12 post:=by
 unfold Xh
 refine Jn.mk' (Q5F ks (by omega) (Ite.f rfl hF) (fun h1=>Ite.t rfl (Q4d ks (Ite.f rfl hF) (fun h2=>Ite.t rfl (Q5y (Ite.f rfl hF) (fun h3=>Ite.t rfl (Q4r k h3.sz (Ite.f rfl hF) (fun h4=>Ite.t rfl (Q5Q (by omega) kl hF (fun h5=>hT ⟨h2,h1,h3,h4⟩ (by omega)))))))))))
end
end Go.Taq
/- The mathematics, part AR: slices.Repeat of one number. -/
set_option linter.unusedVariables false
set_option linter.unusedSimpArgs false
namespace Go.Taq
open Go
theorem wu64 {x:Int} (h0:0≤x) (h1:x<18446744073709551616):IntKind.wrap .u64 x=x:=by
 show x % 18446744073709551616=x;omega
theorem Q7p {n:Int} (h0:0≤n) (h1:n<4294967296):band .u64 n 4294967295=n:=by
 obtain⟨m,rfl⟩:=Int.eq_ofNat_of_zero_le h0
 have hm:m<4294967296:=by omega
 unfold band
 have e:(BitVec.ofInt IntKind.u64.bits (m:Int) &&& BitVec.ofInt IntKind.u64.bits 4294967295).toNat=m:=by
  show (BitVec.ofInt 64 (m:Int) &&& BitVec.ofInt 64 4294967295).toNat=m
  rw [BitVec.toNat_and]
  have e1:(BitVec.ofInt 64 (m:Int)).toNat=m:=by
   rw [BitVec.toNat_ofInt]
   have:((m:Int) % ((2 ^ 64:Nat):Int))=m:=by omega
   rw [this];simp
  have e2:(BitVec.ofInt 64 4294967295).toNat=2 ^ 32-1:=by decide
  rw [e1,e2,Nat.and_two_pow_sub_one_eq_mod]
  omega
 rw [e]
 exact wu64 h0 (by omega)
theorem Q9e {n:Int} (h0:0≤n) (h1:n<4294967296):shrI .u64 n 32=0:=by
 show n.fdiv (2 ^ (min (32:Int).toNat IntKind.u64.bits))=0
 have:(2:Int) ^ (min (32:Int).toNat IntKind.u64.bits)=4294967296:=by decide
 rw [this,Int.fdiv_eq_ediv_of_nonneg _ (by decide)]
 omega
theorem Q61 {n:Nat} (hn:n<4294967296) {post:Int×Int→Prop} (hp:post (0,(n:Int))):Gz 1 (n:Int) post:=by
 unfold Gz GN
 have a1:=Q9e (n:=1) (by decide) (by decide)
 have a2:=Q9e (n:=(n:Int)) (by omega) (by omega)
 have a3:=Q7p (n:=1) (by decide) (by decide)
 have a4:=Q7p (n:=(n:Int)) (by omega) (by omega)
 rw [a1,a2,a3,a4]
 simp only [Int.zero_mul,Int.mul_zero,Int.one_mul,Int.zero_add,Int.add_zero]
 rw [wu64 (x:=(n:Int)) (by omega) (by omega),wu64 (x:=0) (by decide) (by decide)]
 have z:shrI .u64 0 32=0:=Q9e (by decide) (by decide)
 have b0:band .u64 0 4294967295=0:=Q7p (by decide) (by decide)
 simp only [a2,z,b0,Int.zero_add,Int.add_zero,wu64 (x:=0) (by decide) (by decide)]
 exact hp
theorem Q28 {x:Int} {n:Nat} (hn:n≤1000000) {post:List Int→Prop} (hp:post (List.replicate n x)):Kh [x] (n:Int) post:=by
 unfold Kh
 refine Ite.f (by simp) ?_
 have e1:IntKind.wrap .u64 ((([x]:List Int).length:Nat):Int)=1:=wu64 (by simp) (by simp)
 have e2:IntKind.wrap .u64 (n:Int)=n:=wu64 (by omega) (by omega)
 rw [e1,e2]
 refine Q61 (by omega) (Jor2 (Ite.f (by simp;omega) ?_))
 have e3:IntKind.wrap .i64 (n:Int)=n:=Qy (by omega) (by omega)
 simp only [e3]
 refine⟨⟨by omega,by omega⟩,?_⟩
 have tn:((n:Int)).toNat=n:=by omega
 simp only [tn,List.length_replicate,List.length_singleton,List.take_zero,List.nil_append,Nat.zero_add]
 refine Jn.mk (fun l=>l=List.replicate n x) (Loop.mk (fun t:List Int×Int=>t.1.length=n∧∃k:Nat,t.2=(k:Int)∧k≤n∧(n=0∨1≤k)∧t.1.take k=List.replicate k x) (fun t=>n-t.2.toNat) ?_ ?_) (fun l hl=>hl▸hp)
 ·refine⟨by simp;omega,min 1 n,by (first | (simp;done) | (simp;omega)),by omega,by omega,?_⟩
  cases n with
  | zero=>simp
  | succ m=>
   have:min 1 (m+1)=1:=by omega
   rw [this];simp
 ·rintro⟨l,t⟩ ⟨hl,k,ht,hk,h0,htk⟩
  simp only at hl ht htk
  subst ht
  refine Ite.mk (fun h=>?_) (fun h=>?_)
  ·have hlt:k<n:=by simp [hl] at h;omega
   have t1:((k:Int)).toNat=k:=by omega
   have t2:((k:Int)-0).toNat=k:=by omega
   have t3:((l.length:Int)-(k:Int)).toNat=n-k:=by omega
   simp only [t1,t2,t3]
   have d0:l.drop (Int.toNat 0)=l:=by simp
   rw [d0,htk]
   simp only [List.length_replicate,List.take_replicate]
   refine⟨⟨by omega,by omega,by omega⟩,⟨by omega,by omega,by omega⟩,by omega,by omega,⟨?_,k+min k (n-k),?_,by omega,by omega,?_⟩,?_⟩
   ·simp [hl];omega
   ·rw [Qy (by omega) (by omega)];(first | (simp;done) | (simp;omega))
   ·rw [←List.append_assoc,List.take_append_of_le_length (by simp)]
    rw [List.take_of_length_le (by simp)]
    rw [List.replicate_append_replicate];congr 1;omega
   ·rw [Qy (by omega) (by omega)];omega
  ·have hlt:¬k<n:=by simp [hl] at h;omega
   have:k=n:=by omega
   subst this
   show l=_
   rw [←htk,List.take_of_length_le (by omega)]
end Go.Taq
/- The mathematics, part AG: the examples of chapter 16; ArenaTells. -/
set_option linter.unusedVariables false
set_option linter.unusedSimpArgs false
namespace Go.Taq
open Go
def e16F:Q6:={W:=6,H:=1,D:=1,Kind:=[1,1,1,1,1,3],Out:=[1,5,5,5,5,4]}
def e16S:ApiSite:={Floor:=e16F,Zones:=[],Aparts:=[],Shelves:=[],Robots:=[{Cell:=0,Charge:=100},{Cell:=2,Charge:=100}]}
def e16T:ApiState:={Tick:=0,Shelves:=[],Robots:=[{Cell:=0,Load:=-1,Charge:=100,Rest:=0,Mute:=0,Dead:=false},{Cell:=2,Load:=-1,Charge:=100,Rest:=0,Mute:=0,Dead:=false}],People:=[],Dead:=[],Stuck:=[]}
theorem Q7Q:RF e16F:=by
 refine⟨by decide,by decide,by decide,by decide,by decide,by decide,by decide,by decide,by decide,fun i x y hx hy=>?_⟩
 match i,hx,hy with
 | 0,hx,hy=>simp [e16F] at hx hy;omega
 | 1,hx,hy=>simp [e16F] at hx hy;omega
 | 2,hx,hy=>simp [e16F] at hx hy;omega
 | 3,hx,hy=>simp [e16F] at hx hy;omega
 | 4,hx,hy=>simp [e16F] at hx hy;omega
 | 5,hx,hy=>simp [e16F] at hx hy;omega
 | n+6,hx,hy=>simp [e16F] at hx
theorem Q7W:Qz e16S where
 Floor:=⟨GT (by decide),GT (by decide),GT (by decide),Q2b (by decide) (fun x hx=>GT (by simp [e16S,e16F] at hx;omega)),Q2b (by decide) (fun x hx=>GT (by simp [e16S,e16F] at hx;omega))⟩
 Zones:=Q2b (by decide) (fun z hz=>by simp [e16S] at hz)
 Aparts:=Q2b (by decide) (fun x hx=>by simp [e16S] at hx)
 Shelves:=Q2b (by decide) (fun x hx=>by simp [e16S] at hx)
 Robots:=Q2b (by decide) (fun x hx=>by
  simp only [e16S,List.mem_cons,List.not_mem_nil,or_false] at hx
  rcases hx with rfl | rfl
  ·exact⟨GT (by decide),GT (by decide)⟩
  ·exact⟨GT (by decide),GT (by decide)⟩)
theorem Q9h:RS e16S:=⟨Q7Q,fun z hz=>by simp [e16S] at hz,fun z hz=>by simp [e16S] at hz,fun z hz=>by simp [e16S] at hz⟩
theorem e16R:RSt e16S e16T where
 tick:=by decide
 sl:=by decide
 rl:=by decide
 pl:=by decide
 rob:=fun i r hr=>by
  match i,hr with
  | 0,hr=>simp [e16T] at hr;subst hr;exact⟨by decide,by decide,by decide,by decide,by decide,by decide,fun h=>by simp at h⟩
  | 1,hr=>simp [e16T] at hr;subst hr;exact⟨by decide,by decide,by decide,by decide,by decide,by decide,fun h=>by simp at h⟩
  | n+2,hr=>simp [e16T] at hr
 shel:=fun i c h=>by simp [e16T] at h
 ppl:=fun i c h=>by simp [e16T] at h
 dead:=fun i c h=>by simp [e16T] at h
 deadA:=fun i x y h=>by simp [e16T] at h
 stuck:=fun i x h=>by simp [e16T] at h
 stuckA:=fun i x y h=>by simp [e16T] at h
 clash:=by decide
theorem e16Z:SzN 12 e16T:=⟨by decide,by decide,by decide,by decide,by decide⟩
theorem Q51 {post:ApiSite→Prop} (hp:post e16S):Xv post:=by
 unfold Xv
 refine Jn.mk (fun t=>t=([1,1,1,1,1,3],[1,5,5,5,5,4])) (Q21 6 (fun t:List Int×List Int×Int=>t.2.2) (fun i t=>t.1=([1,1,1,1,1,3]:List Int).take i∧t.2.1=([1,5,5,5,5,4]:List Int).take i) (by decide) rfl ⟨rfl,rfl⟩ (fun i t hi ht hI=>?_) (fun t h=>by obtain⟨h1,h2⟩:=h;show (t.1,t.2.1)=_;rw [h1,h2];rfl)) (fun t ht=>by subst ht;exact hp)
 obtain⟨h1,h2⟩:=hI
 rw [ht]
 refine Jn.mk (fun x=>x=if (i:Int)=5 then 3 else 1) (Ite.mk (fun h=>by rw [if_pos (by simpa using h)]) (fun h=>by rw [if_neg (by simpa using h)])) (fun x hx=>?_)
 refine Jn.mk (fun y=>y=if (i:Int)<5 then 1 else 0) (Ite.mk (fun h=>by rw [if_pos (by simpa using h)]) (fun h=>by rw [if_neg (by simpa using h)])) (fun y hy=>?_)
 refine Jn.mk (fun z=>z=if (i:Int)>0 then y+4 else y) (Ite.mk (fun h=>by rw [if_pos (by simpa using h),Qy (by rw [hy];split <;> omega) (by rw [hy];split <;> omega)]) (fun h=>by rw [if_neg (by simpa using h)])) (fun z hz=>?_)
 refine⟨by rw [h1];simp;omega,by rw [h2];simp;omega,rfl,?_⟩
 show t.1++[x]=_∧t.2.1++[z]=_
 rw [h1,h2,hz,hy,hx]
 have:i=0∨i=1∨i=2∨i=3∨i=4∨i=5:=by omega
 rcases this with rfl | rfl | rfl | rfl | rfl | rfl <;> decide
theorem Q4L {s:ApiSite} (h1:s.Shelves.length≤1000000) (h2:s.Robots.length≤1000000) {post:ApiState→Prop}
  (hp:post {Tick:=0,Shelves:=s.Shelves.map (·.Cell),Robots:=s.Robots.map (fun x=>{Cell:=x.Cell,Load:=-1,Charge:=x.Charge,Rest:=0,Mute:=0,Dead:=false}),People:=[],Dead:=[],Stuck:=[]}):WE s post:=by
 unfold WE
 refine Jn.mk (fun l=>l=s.Shelves.map (·.Cell)) (Wg (xs:=s.Shelves) (by unfold maxLen;omega) (fun t:List Int×Int=>t.2) (fun i t=>t.1=(s.Shelves.take i).map (·.Cell)) rfl rfl (fun i x t hx ht hI=>?_) (fun t h=>by rw [List.take_length] at h;exact h)) (fun l hl=>?_)
 ·have:=(List.getElem?_eq_some_iff.1 hx).1
  rw [ht]
  exact⟨by rw [hI];simp;omega,rfl,by show t.1++[x.Cell]=_;rw [hI,QY hx,List.map_append];rfl⟩
 subst hl
 refine Jn.mk (fun l=>l=s.Robots.map (fun x=>({Cell:=x.Cell,Load:=-1,Charge:=x.Charge,Rest:=0,Mute:=0,Dead:=false}:ApiRobot))) (Wg (xs:=s.Robots) (by unfold maxLen;omega) (fun t:List ApiRobot×Int=>t.2) (fun i t=>t.1=(s.Robots.take i).map (fun x=>({Cell:=x.Cell,Load:=-1,Charge:=x.Charge,Rest:=0,Mute:=0,Dead:=false}:ApiRobot))) rfl rfl (fun i x t hx ht hI=>?_) (fun t h=>by rw [List.take_length] at h;exact h)) (fun l hl=>by subst hl;exact hp)
 have:=(List.getElem?_eq_some_iff.1 hx).1
 rw [ht]
 exact⟨by rw [hI];simp;omega,rfl,by show t.1++[_]=_;rw [hI,QY hx,List.map_append];rfl⟩
def e16B:ApiState:=Q3k e16T (runS e16S [1,0] 2 0 {e16T with Dead:=[1]})
def e16C:ApiState:=Q3k e16T (runS e16S [1,1] 2 0 e16T)
theorem e16b:e16B.Robots.map (·.Cell)=[0,2]:=by decide
theorem e16c:e16C.Robots.map (·.Cell)=[1,3]∧e16C.Tick=1:=by decide
theorem Qbf:chkS e16S e16T [1,3]=15:=by
 unfold chkS
 have e:fstB e16S e16T [1,3] ([1,3]:List Int).length 0=0:=by decide
 rw [if_neg (by decide),if_neg (by decide),if_neg (by rw [e];simp),if_pos (by decide)]
theorem QaX:chkS e16S e16T [1,0]=0:=by
 unfold chkS
 have e:fstB e16S e16T [1,0] ([1,0]:List Int).length 0=0:=by decide
 rw [if_neg (by decide),if_neg (by decide),if_neg (by rw [e];simp),if_neg (by decide)]
 decide
theorem QbM:chkS e16S e16T [1,1]=0:=by
 unfold chkS
 have e:fstB e16S e16T [1,1] ([1,1]:List Int).length 0=0:=by decide
 rw [if_neg (by decide),if_neg (by decide),if_neg (by rw [e];simp),if_neg (by decide)]
 decide
theorem Qbd:ZK e16S e16T [1,3] {Kind:=0,A:=0,N:=0}=(Q6a,15):=by
 unfold ZK;rw [Qbf,if_pos (by decide)]
theorem Qaz:ZK e16S e16T [1,0] {Kind:=2,A:=1,N:=0}=(e16B,0):=by
 have hb:Kx e16S e16T {Kind:=2,A:=1,N:=0}=true:=by decide
 unfold ZK;rw [QaX,if_neg (by decide),if_neg (by rw [hb];simp)]
 unfold tickS;rw [Q5d hb rfl]
 have:srtI (e16T.Dead++[1])=[1]:=by unfold srtI;simp [e16T]
 show (Q3k e16T (runS e16S [1,0] 2 0 {e16T with Dead:=srtI (e16T.Dead++[1])}),0)=_
 rw [this];rfl
theorem Qbn:ZK e16S e16T [1,1] {Kind:=0,A:=0,N:=0}=(e16C,0):=by
 have hb:Kx e16S e16T {Kind:=0,A:=0,N:=0}=true:=by decide
 unfold ZK;rw [QbM,if_neg (by decide),if_neg (by rw [hb];simp)]
 unfold tickS;rw [Q5m rfl];rfl
theorem Q5S {α:Type} {xs:List α} {g:α→Int} {l:List Int} (h:xs.map g=l) {n:Nat} {c:Int} (hc:l[n]?=some c):∃x,idx xs (n:Int)=some x∧g x=c:=by
 rw [←h,List.getElem?_map] at hc
 cases e:xs[n]? with
 | none=>rw [e] at hc;cases hc
 | some x=>rw [e] at hc;exact⟨x,Qg rfl e,Option.some.inj hc⟩
theorem Q4p {post:Bool→Prop} (hp:post true):Xf post:=by
 unfold Xf
 refine Q51 (Q4L (by decide) (by decide) ?_)
 have kA:∀a b:Int,(-1000000≤a∧a≤1000000)→(-1000000≤b∧b≤1000000)→OkL I64 [a,b]:=fun a b h1 h2=>Q2b (by simp) (fun x hx=>by
  simp at hx;rcases hx with rfl | rfl
  ·exact GT h1
  ·exact GT h2)
 refine YC (n:=12) (st:=e16T) (by decide) Q7W Q7Q Q9h e16R e16Z (kA 1 3 (by decide) (by decide)) (YC (n:=12) (st:=e16T) (by decide) Q7W Q7Q Q9h e16R e16Z (kA 1 0 (by decide) (by decide)) (YC (n:=12) (st:=e16T) (by decide) Q7W Q7Q Q9h e16R e16Z (kA 1 1 (by decide) (by decide)) ?_))
 rw [Qbd,Qaz,Qbn]
 refine Jor3 (Ite.f ?_ ?_)
 ·have l1:e16B.Robots.length=2:=by have:=congrArg List.length e16b;simpa using this
  have l2:e16C.Robots.length=2:=by have:=congrArg List.length e16c.1;simpa using this
  show ((2:Int) != 2||((e16B.Robots.length:Int) != 2)||((e16C.Robots.length:Int) != 2))=false
  rw [l1,l2];rfl
 refine Jn.mk (fun b=>b=true) (Ite.t rfl (Ite.t rfl ?_)) (fun b hb=>hb▸hp)
 obtain⟨x,hx,hxc⟩:=Q5S e16b (n:=0) (c:=0) rfl
 obtain⟨y,hy,hyc⟩:=Q5S e16c.1 (n:=0) (c:=1) rfl
 obtain⟨z,hz,hzc⟩:=Q5S e16c.1 (n:=1) (c:=3) rfl
 refine⟨x,hx,Ite.t (by simpa using hxc) (Ite.t rfl ⟨y,hy,Ite.t (by simpa using hyc) ⟨z,hz,Ite.t (by simpa using hzc) (Ite.t (by show (e16C.Tick == 1)=true;rw [e16c.2];rfl) ?_)⟩⟩)⟩
 refine Q3S Q7W Q7Q rfl rfl rfl (by decide) (fun i x hi=>?_) (by decide) rfl
 match i,hi with
 | 0,hi=>simp [e16S] at hi;subst hi;decide
 | 1,hi=>simp [e16S] at hi;subst hi;decide
 | n+2,hi=>simp [e16S] at hi
theorem Q4z {st:ApiState} (hz:Sz st) {post:List Int→Prop} (hp:post (List.replicate st.Robots.length 0)):Ws st post:=by
 unfold Ws
 exact Q28 (by have:=hz.rb;omega) hp
theorem Q6i:Sz Q6a:=⟨by decide,by decide,by decide,by decide,by decide⟩
theorem Q8N {s:ApiSite} {st:ApiState} {n:Nat} (hn:n<999) (hf:RF s.Floor) (hs:RS s) (h:RSt s st) (hz:SzN n st) (acts:List Int) (f:Qk):Sz (ZK s st acts f).1:=by
 unfold ZK
 by_cases hc:chkS s st acts=0
 ·rw [if_neg (by simpa using hc)]
  split
  ·exact Q6i
  ·exact (Q3L (by omega) hf hs h hz hc f).2.1.sz (by omega)
 ·rw [if_pos hc];exact Q6i
theorem Q7i {s:ApiSite} {st:ApiState} {n:Nat} (hn:n<999) (hf:RF s.Floor) (hs:RS s) (h:RSt s st) (hz:SzN n st) {acts:List Int} {f:Qk} (h0:(ZK s st acts f).2=0):
  chkS s st acts=0∧Kx s st f=true∧(ZK s st acts f).1=tickS s st acts f∧RSt s (ZK s st acts f).1∧SzN (n+1) (ZK s st acts f).1:=by
 unfold ZK at h0 ⊢
 by_cases hc:chkS s st acts=0
 ·rw [if_neg (by simpa using hc)] at h0 ⊢
  cases hb:Kx s st f with
  | false=>rw [if_pos hb] at h0;simp at h0
  | true=>
   rw [if_neg (by simp)]
   have:=Q3L (by omega) hf hs h hz hc f
   exact⟨hc,rfl,rfl,this.1,this.2.1⟩
 ·rw [if_pos hc] at h0;exact absurd h0 hc
theorem Yp (s:ApiSite) (ks:Qz s) (st:ApiState) (k:Qh st) (l:List K0) (kl:(OkL Ge) l):KR s st l (fun y=>y=true):=by
 unfold KR
 refine Q4p (Q4q ks k kl (Ite.t rfl rfl) (fun hf hl12=>Ite.f rfl ?_))
 have hfl:=hf.r.fl
 have hrs:=hf.r.rs
 refine Jn.mk (fun _=>True) (Wg (xs:=l) kl.1 (fun t:Int×List Int×List ApiRobot×List Int×List Int×List Q0×Int=>t.2.2.2.2.2.2) (fun i t=>RSt s (stOf t)∧SzN (12+i) (stOf t)) rfl (by exact⟨hf.rst,hf.f12.szN⟩) (fun i x t hx ht hI=>?_) (fun _ _=>trivial)) (fun _ _=>rfl)
 obtain⟨hr,hz⟩:=hI
 have hi:=(List.getElem?_eq_some_iff.1 hx).1
 have kx:=kl.2 x (List.mem_of_getElem? hx)
 have hsz:=hz.sz (by omega)
 have hok:=Q66 hfl hr hsz
 have hls:=Q4X hfl hrs hr hsz
 rw [ht]
 have hzh:=(Q2i hfl hr hz x.Fault).sz (by omega)
 have ne:∀a:Int,(a != a)=false:=fun a=>by simp
 refine Jn.mk (fun b=>b=false) (Q0Z (st:=stOf t) ks hok hls kx.Acts (Q12 (st:=stOf t) ks hf.r hok hls kx.Acts (Ite.f (ne _) (WL (st:=stOf t) hfl hsz (WN (st:=stOf t) hfl hok hsz (Ite.f (ne _) (Q0f (st:=stOf t) hfl hsz (Q0k (st:=stOf t) hfl hok hr hsz (Q20 hzh rfl rfl))))))))) (fun b hb=>Ite.f hb ?_)
 have hss:=Q8N (n:=12+i) (by omega) hfl hrs hr hz x.Acts x.Fault
 refine YC (st:=stOf t) (n:=12+i) (by omega) ks hfl hrs hr hz kx.Acts (Q50 (st:=stOf t) (n:=12+i) (by omega) ks hf.r hr hz kx.Acts ?_)
 refine Jn.mk (fun b=>b=false) (Ite.f (ne _) (Q20 hss rfl (Ite.t rfl (Q4z (st:=stOf t) hsz ?_)))) (fun b hb=>Ite.f hb ?_)
 ·show ((((List.replicate (stOf t).Robots.length (0:Int)).length:Nat):Int) != ((stOf t).Robots.length:Int))=false
  rw [List.length_replicate];exact ne _
 ·refine Jn.mk (fun u=>RSt s ({Tick:=u.1,Shelves:=u.2.1,Robots:=u.2.2.1,People:=u.2.2.2.1,Dead:=u.2.2.2.2.1,Stuck:=u.2.2.2.2.2})∧SzN (12+(i+1)) ({Tick:=u.1,Shelves:=u.2.1,Robots:=u.2.2.1,People:=u.2.2.2.1,Dead:=u.2.2.2.2.1,Stuck:=u.2.2.2.2.2})) (Ite.mk (fun h=>?_) (fun h=>⟨hr,hz.mono (by omega)⟩)) (fun u hu=>⟨rfl,hu⟩)
  have:=Q7i (n:=12+i) (by omega) hfl hrs hr hz (acts:=x.Acts) (f:=x.Fault) (by simpa using h)
  exact⟨this.2.2.2.1,this.2.2.2.2⟩
end Go.Taq
