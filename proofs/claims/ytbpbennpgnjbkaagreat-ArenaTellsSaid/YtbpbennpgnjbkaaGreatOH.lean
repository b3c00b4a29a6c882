/- The mathematics, several parts in one text. -/
import Derived.Test.YtbpbennpgnjbkaaGreatOD
/- The mathematics, part OE: what actions do, in both; equal states. -/
set_option linter.unusedVariables false
set_option linter.unusedSimpArgs false
namespace Go.Taq
open Go
def doS (s:ApiSite) (st:ApiState) (i a:Int):ApiState:=if i<0∨i≥st.Robots.length then st else doR s st i.toNat (st.Robots.getD i.toNat default) a
section
variable {s:ApiSite} {st:ApiState}
theorem Q5V {α:Type} {xs:List α} (hl:xs.length≤1099511627776) {post:List α→Prop} (hp:post xs):∀hb5:Bool,(hb5=true→xs=[])→Ite (hb5 == true) (post []) ((([]:List α).length+xs.length≤1099511627776)∧post (([]:List α)++xs)):=by
 intro b hb
 refine Ite.mk (fun h=>?_) (fun h=>⟨by simp;omega,by rw [List.nil_append];exact hp⟩)
 rw [hb (by simpa using h)] at hp;exact hp
theorem Q2Q {xs:List Int} (hl:xs.length≤1000) {post:List Int→Prop} (hp:post xs):QV xs post:=by
 unfold QV;exact Q5V (by omega) hp
theorem Q78 {xs:List ApiRobot} (hl:xs.length≤1000) {post:List ApiRobot→Prop} (hp:post xs):QH xs post:=by
 unfold QH;exact Q5V (by omega) hp
theorem Q7A {xs:List Q0} (hl:xs.length≤1000) {post:List Q0→Prop} (hp:post xs):QI xs post:=by
 unfold QI;exact Q5V (by omega) hp
theorem ZL (hz:Sz st) {post:ApiState→Prop} (hp:post st):Gt st post:=by
 unfold Gt
 exact Q2Q hz.sh (Q78 hz.rb (Q2Q hz.pp (Q2Q hz.dd (Q7A hz.sk hp))))
theorem Zb (hz:Sz st) {post:ApiState→Prop} (hp:post st):K9 st post:=by
 have q1:=hz.sh;have q2:=hz.rb;have q3:=hz.pp;have q4:=hz.dd;have q5:=hz.sk
 unfold K9
 refine⟨by simp;omega,by simp;omega,by simp;omega,by simp;omega,by simp;omega,?_⟩
 simp only [List.nil_append];exact hp
theorem Qao (c:Int):-1≤atS st c∧atS st c<st.Shelves.length:=Q8s st c
theorem Q7n (h:LS s st) {n:Nat} {r:ApiRobot} (hx:st.Robots[n]?=some r) (a:Int):-1≤lod st r a∧lod st r a<st.Shelves.length:=by
 have:=h.rob n r hx
 unfold lod;split
 ·exact Qao _
 ·split <;> omega
theorem Q9v {t ch a:Int} {l:Bool} (h:I64 ch):I64 (aft t ch a l).1:=by
 have hc:=Q3s t a l
 unfold aft
 split
 ·exact h
 ·split
  ·split <;> constructor <;> (simp only;omega)
  ·split
   ·exact h
   ·constructor <;> (simp only;omega)
theorem Qaw (k:Qh st) {n:Nat} {r:ApiRobot} (hx:st.Robots[n]?=some r) (a:Int):I64 (chg st r a):=by
 have h:=(k.Robots.2 r (List.mem_of_getElem? hx)).Charge
 unfold chg
 split
 ·exact Q9v h
 ·exact GT (by decide)
theorem Q8D {α:Type} {l:List α} {n:Nat} {i:Int} {a:α} (hi:i=n) (h:n<l.length):idx (l.set i.toNat a) i=some a:=by
 refine Qg hi ?_
 rw [hi];simp [h]
theorem Q6k (ks:Qz s) (k:Qh st) (h:LS s st) {i a:Int} (h0:0≤a) (h9:a<10) {post:ApiState→Prop} (hp:post (doS s st i a)):Yz s st i a post:=by
 have hsl:st.Shelves.length≤1000000:=by have:=h.sz.sh;omega
 unfold Yz
 refine ZL h.sz ?_
 by_cases hv:i<0∨i≥st.Robots.length
 ·unfold doS at hp;rw [if_pos hv] at hp
  refine Jn.mk (fun b=>b=true) (Ite.mk (fun _=>rfl) (fun h1=>Ite.mk (fun _=>rfl) (fun h2=>?_))) (fun b hb=>Ite.t hb hp)
  simp at h1 h2;omega
 unfold doS at hp;rw [if_neg hv] at hp
 obtain⟨n,hn⟩:=Int.eq_ofNat_of_zero_le (show 0≤i by omega)
 have hlt:n<st.Robots.length:=by omega
 have hx:=List.getElem?_eq_getElem hlt
 have hg:st.Robots.getD i.toNat default=st.Robots[n]:=by rw [hn];exact Wc hx
 rw [hg] at hp
 generalize st.Robots[n]=r at hp hx
 have hb:=Q7n h hx a
 refine Jn.mk (fun b=>b=r.Dead) (Ite.f (by simp;omega) (Ite.f (by simp;omega) ⟨r,Qg hn hx,rfl⟩)) (fun b hbd=>?_)
 subst hbd
 unfold doR at hp
 refine Ite.mk (fun h1=>?_) (fun h1=>?_)
 ·rw [if_pos h1] at hp;exact hp
 rw [if_neg (by rw [h1];simp)] at hp
 refine⟨r,Qg hn hx,ZW ?_⟩
 refine Jn.mk (fun c=>c=chg st r a) (Ite.mk (fun h2=>?_) (fun h2=>?_)) (fun c hc=>?_)
 ·unfold chg;rw [if_neg (by simpa using h2)]
 ·unfold chg;rw [if_pos (by simpa using h2)]
 subst hc
 refine Jn.mk (fun l=>l=st.Robots.set i.toNat {r with Load:=lod st r a,Charge:=chg st r a}) (Ite.mk (fun h2=>Q3o k hsl ?_) (fun h2=>Jn.mk' (Ite.mk (fun h3=>?_) (fun h3=>?_)))) (fun l hl=>?_)
 ·rw [List.set_set];unfold lod;rw [if_pos (by simpa using h2)]
 ·rw [List.set_set];unfold lod;rw [if_neg (by simpa using h2),if_pos (by simpa using h3)]
 ·unfold lod;rw [if_neg (by simpa using h2),if_neg (by simpa using h3)]
 subst hl
 refine ZQ h0 h9 (Ite.mk (fun h2=>?_) (fun h2=>?_))
 ·have hm:mvB a=false:=by simpa using h2
  unfold nwR nwS at hp;rw [hm] at hp
  simp only [Bool.false_and,Bool.false_eq_true,false_and,if_false] at hp
  exact hp
 have hm:mvB a=true:=by simpa using h2
 refine⟨_,Q8D hn hlt,ZO h.fl ?_⟩
 unfold nwR nwS at hp;rw [hm,Bool.true_and] at hp
 show Jn _ _
 refine Jn.mk (fun p:List Int×List ApiRobot=>p=(nwS s st r a,st.Robots.set i.toNat (nwR s st r a))) (Ite.mk (fun h3=>Q4B ks h.rs ?_) (fun h3=>?_)) (fun p hpp=>?_)
 ·have h3':(nx s.Floor r.Cell (a-1)).2=true:=h3
  have hsp:=Q6q h.rs (nx s.Floor r.Cell (a-1)).1
  refine Jn.mk (fun l=>l=nwS s st r a) (Ite.mk (fun h4=>?_) (fun h4=>?_)) (fun l hl=>?_)
  ·have h4':0≤lod st r a:=by simpa using h4
   obtain⟨m,hm2⟩:=Int.eq_ofNat_of_zero_le h4'
   refine⟨_,Qg hm2 (List.getElem?_eq_getElem (by omega)),?_⟩
   unfold nwS;rw [if_pos ⟨by rw [hm,h3'];rfl,h4'⟩]
  ·have h4':¬0≤lod st r a:=by simpa using h4
   unfold nwS;rw [if_neg (fun e=>h4' e.2)]
  ·subst hl
   have ew:w64 (spd s (nx s.Floor r.Cell (a-1)).1-1)=spd s (nx s.Floor r.Cell (a-1)).1-1:=Qy (by omega) (by omega)
   rw [List.set_set,List.set_set]
   simp only [] at ew ⊢
   rw [ew]
   show (_,_)=(_,_)
   unfold nwR;rw [hm,h3'];rfl
 ·have h3':(nx s.Floor r.Cell (a-1)).2=false:=h3
  show (_,_)=(_,_)
  unfold nwR nwS;rw [hm,h3']
  simp only [Bool.and_false,Bool.false_eq_true,false_and,if_false]
 ·subst hpp
  unfold nwR nwS;rw [hm,Bool.true_and];exact hp
theorem Q3E (ks:Qz s) (hr:ZH s) (k:Qh st) (h:LS s st) {i a:Int} (h0:0≤a) (h9:a<10) {post:ApiState→Prop} (hp:post (doS s st i a)):Kr s st i a post:=by
 have hsl:st.Shelves.length≤1000000:=by have:=h.sz.sh;omega
 unfold Kr
 refine Zb h.sz ?_
 by_cases hv:i<0∨i≥st.Robots.length
 ·unfold doS at hp;rw [if_pos hv] at hp
  exact Jor2 (Ite.t (by simp;omega) hp)
 unfold doS at hp;rw [if_neg hv] at hp
 obtain⟨n,hn⟩:=Int.eq_ofNat_of_zero_le (show 0≤i by omega)
 have hlt:n<st.Robots.length:=by omega
 have hx:=List.getElem?_eq_getElem hlt
 have hg:st.Robots.getD i.toNat default=st.Robots[n]:=by rw [hn];exact Wc hx
 rw [hg] at hp
 generalize st.Robots[n]=r at hp hx
 have hb:=Q7n h hx a
 unfold doR at hp
 refine Jor2 (Ite.f (by simp;omega) ⟨r,Qg hn hx,Ite.mk (fun h1=>?_) (fun h1=>?_)⟩)
 ·rw [if_pos h1] at hp;exact hp
 rw [if_neg (by rw [h1];simp)] at hp
 refine Q1k ?_
 refine Jn.mk (fun c=>c=chg st r a) (Ite.mk (fun h2=>?_) (fun h2=>?_)) (fun c hc=>?_)
 ·unfold chg;rw [if_neg (by simpa using h2)]
 ·unfold chg;rw [if_pos (by simpa using h2)]
 subst hc
 refine Jn.mk (fun l=>l=lod st r a) (Ite.mk (fun h2=>Q3r ks k h.fl hsl h.cell ?_) (fun h2=>Jn.mk' (Ite.mk (fun h3=>?_) (fun h3=>?_)))) (fun l hl=>?_)
 ·unfold lod;rw [if_pos (by simpa using h2)]
 ·unfold lod;rw [if_neg (by simpa using h2),if_pos (by simpa using h3)]
 ·unfold lod;rw [if_neg (by simpa using h2),if_neg (by simpa using h3)]
 subst hl
 cases hm:mvB a with
 | false=>
  unfold K3 Kj
  refine Jn.mk' (Ite.f (by simp;omega) (Ite.f (by simp;omega) (YS (Ite.t (by show (!mvB a)=true;rw [hm];rfl) ?_))))
  refine Jn.mk' (Ite.f rfl ?_)
  unfold nwR nwS at hp;rw [hm] at hp
  simp only [Bool.false_and,Bool.false_eq_true,false_and,if_false] at hp
  exact hp
 | true=>
  refine Q0p hn hx h.fl hm ?_
  unfold nwR nwS at hp;rw [hm,Bool.true_and] at hp
  refine Jn.mk' (Ite.mk (fun h3=>Q4j ks hr ?_) (fun h3=>?_))
  ·rw [h3] at hp
   have hsp:=Q6q h.rs (nx s.Floor r.Cell (a-1)).1
   simp only [true_and,if_true] at hp
   refine Jn.mk (fun b=>b=decide (0≤lod st r a)) (Ite.mk (fun h4=>?_) (fun h4=>?_)) (fun b hb'=>?_)
   ·simp at h4 ⊢;omega
   ·simp at h4 ⊢;omega
   ·subst hb'
    refine Jn.mk (fun l=>l=if 0≤lod st r a then st.Shelves.set (lod st r a).toNat (nx s.Floor r.Cell (a-1)).1 else st.Shelves) (Ite.mk (fun h4=>?_) (fun h4=>?_)) (fun l hl=>?_)
    ·have h4':0≤lod st r a:=by simpa using h4
     obtain⟨m,hm2⟩:=Int.eq_ofNat_of_zero_le h4'
     exact⟨_,Qg hm2 (List.getElem?_eq_getElem (by omega)),by rw [if_pos h4']⟩
    ·rw [if_neg (by simpa using h4)]
    ·subst hl
     rw [Qy (by omega) (by omega)];exact hp
  ·rw [h3] at hp
   simp only [Bool.false_eq_true,false_and,if_false] at hp
   exact hp
theorem Q7N {α:Type} {xs:List α} (hm:xs.length≤maxLen) {C:α→α→Bool} (hC:∀x,C x x=false) {F:Prop} {E:Prop} (hE:E):
  Jn (fun (J:Unit→Prop)=>Loop (fun (s:Int) Y=>Ite (decide (s<(xs.length:Int))) (∃x,idx xs s=some x∧∃y,idx xs s=some y∧Ite (C x y) F (Y (w64 (s+1)))) (J ())) 0) (fun _=>E):=
 Jn.mk (fun _=>True) (Wg hm (fun t=>t) (fun _ _=>True) rfl trivial (fun n x t hx ht _=>⟨x,by rw [ht];exact Qg rfl hx,Ite.f (hC x) ⟨by rw [ht],trivial⟩⟩) (fun _ _=>trivial)) (fun _ _=>hE)
theorem Q20 {a b:ApiState} (hz:Sz a) (hab:a=b) {post:Bool→Prop} (hp:post true):KU a b post:=by
 subst hab
 have q1:=hz.sh;have q2:=hz.rb;have q3:=hz.pp;have q4:=hz.dd;have q5:=hz.sk
 unfold KU K6
 refine Jn.mk (fun b=>b=false) (Ite.f (by simp) (Ite.f (by simp) (by simp))) (fun b hb=>Ite.f hb ?_)
 refine Q7N (xs:=a.Robots) (by unfold maxLen;omega) (C:=fun x y=>!((x.Cell == y.Cell)&&((x.Load == y.Load)&&((x.Charge == y.Charge)&&((x.Rest == y.Rest)&&((x.Mute == y.Mute)&&((x.Dead == y.Dead)&&true))))))) (by simp) ?_
 refine Q7N (xs:=a.Stuck) (by unfold maxLen;omega) (C:=fun x y=>!((x.Cell == y.Cell)&&((x.Left == y.Left)&&true))) (by simp) ?_
 refine Jn.mk' (Ite.f (by simp) (Q7N (by unfold maxLen;omega) (by simp) (Ite.t rfl (Ite.f (by simp) (Q7N (by unfold maxLen;omega) (by simp) (Ite.t rfl (Ite.f (by simp) (Q7N (by unfold maxLen;omega) (by simp) hp))))))))
end
end Go.Taq
/- The mathematics, part OF: actions keep what they need; examples; ActTells. -/
set_option linter.unusedVariables false
set_option linter.unusedSimpArgs false
namespace Go.Taq
open Go
section
variable {s:ApiSite} {st:ApiState}
theorem Q4G (r:ApiRobot) (a:Int):(nwS s st r a).length=st.Shelves.length:=by unfold nwS;split <;> simp
theorem Q6U (h:LS s st) (r:ApiRobot) (a:Int) {c:Int} (hc:c∈nwS s st r a):isC s.Floor c=true:=by
 unfold nwS at hc
 split at hc
 ·rename_i hif
  simp only [Bool.and_eq_true] at hif
  rcases List.mem_or_eq_of_mem_set hc with e | e
  ·exact h.cell c e
  ·rw [e];exact (Q7S h.fl hif.1.2).2.1
 ·exact h.cell c hc
theorem Q6h (h:LS s st) {n:Nat} {r:ApiRobot} (hx:st.Robots[n]?=some r) (a:Int):isC s.Floor (nwR s st r a).Cell=true:=by
 unfold nwR
 split
 ·rename_i hif
  simp only [Bool.and_eq_true] at hif
  exact (Q7S h.fl hif.2).2.1
 ·exact (h.rob n r hx).1
theorem Q6l (r:ApiRobot) (a:Int):(nwR s st r a).Load=lod st r a:=by unfold nwR;split <;> rfl
theorem Q6A (r:ApiRobot) (a:Int):(nwR s st r a).Charge=chg st r a:=by unfold nwR;split <;> rfl
theorem Q7V (r:ApiRobot) (a:Int):(nwR s st r a).Mute=r.Mute∧(nwR s st r a).Dead=r.Dead:=by unfold nwR;split <;> exact⟨rfl,rfl⟩
theorem Q84 (h:LS s st) (r:ApiRobot) (a:Int):(nwR s st r a).Rest=r.Rest∨0≤(nwR s st r a).Rest∧(nwR s st r a).Rest≤100:=by
 unfold nwR;split
 ·have:=Q6q h.rs (nx s.Floor r.Cell (a-1)).1
  right;simp only;omega
 ·exact .inl rfl
theorem Q0I {α:Type} {l:List α} {n j:Nat} {a x:α} (h:(l.set n a)[j]?=some x):(j=n∧n<l.length∧x=a)∨(j≠n∧l[j]?=some x):=by
 rw [List.getElem?_set] at h
 split at h
 ·split at h
  ·cases h;exact .inl ⟨by omega,by assumption,rfl⟩
  ·cases h
 ·exact .inr ⟨by omega,h⟩
theorem Q0u (hf:RF s.Floor) {c:Int} (h:isC s.Floor c=true):I64 c:=by
 have:=XT.1 h;have:=hf.len.1
 exact GT (by omega)
theorem Q9s (k:Qh st) (h:LS s st) {n:Nat} {r:ApiRobot} (hx:st.Robots[n]?=some r) (a:Int):LS s (doR s st n r a)∧Qh (doR s st n r a):=by
 unfold doR
 split
 ·exact⟨h,k⟩
 have hlt:=(List.getElem?_eq_some_iff.1 hx).1
 have hr:=k.Robots.2 r (List.mem_of_getElem? hx)
 have hb:=Q7n h hx a
 have h3:=h.sz.sh
 have hmx:(1000000:Nat)≤maxLen:=by decide
 refine⟨⟨h.fl,h.rs,⟨by simp only;rw [Q4G];exact h.sz.sh,by simp only;rw [List.length_set];exact h.sz.rb,h.sz.pp,h.sz.dd,h.sz.sk⟩,fun c hc=>Q6U h r a hc,fun i x hxi=>?_⟩,⟨k.Tick,⟨by rw [Q4G];exact k.Shelves.1,fun c hc=>Q0u h.fl (Q6U h r a hc)⟩,⟨by rw [List.length_set];exact k.Robots.1,fun x hxm=>?_⟩,k.People,k.Dead,k.Stuck⟩⟩
 ·show _∧_∧x.Load<((nwS s st r a).length:Int)
  rw [Q4G]
  rcases Q0I hxi with ⟨_,_,e⟩ | ⟨_,e⟩
  ·subst e;rw [Q6l];exact⟨Q6h h hx a,hb.1,hb.2⟩
  ·exact h.rob i x e
 ·rcases List.mem_or_eq_of_mem_set hxm with e | e
  ·exact k.Robots.2 x e
  ·subst e
   refine⟨Q0u h.fl (Q6h h hx a),?_,?_,?_,?_,trivial⟩
   ·rw [Q6l];exact GT (by omega)
   ·rw [Q6A];exact Qaw k hx a
   ·rcases Q84 h r a with e | e
    ·rw [e];exact hr.Rest
    ·exact GT (by omega)
   ·rw [(Q7V r a).1];exact hr.Mute
theorem Qa6 (k:Qh st) (h:LS s st) (i a:Int):LS s (doS s st i a)∧Qh (doS s st i a):=by
 unfold doS
 split
 ·exact⟨h,k⟩
 ·obtain⟨n,hn⟩:=Int.eq_ofNat_of_zero_le (show 0≤i by omega)
  have hlt:n<st.Robots.length:=by omega
  have hx:=List.getElem?_eq_getElem hlt
  rw [hn];show LS s (doR s st n (st.Robots.getD n default) a)∧Qh (doR s st n (st.Robots.getD n default) a)
  rw [Wc hx];exact Q9s k h hx a
theorem RSt.cells (h:RSt s st):∀c,c∈st.Shelves→isC s.Floor c=true:=by
 intro c hc
 obtain⟨i,hi⟩:=List.getElem?_of_mem hc
 cases hb:carB st i with
 | true=>
  rw [Q2j (by omega)] at hb
  obtain⟨r,hr,hl⟩:=List.any_eq_true.1 hb
  obtain⟨j,hj⟩:=List.getElem?_of_mem hr
  have hR:=h.rob j r hj
  have hl':r.Load=(i:Int):=by simpa using hl
  have:=(hR.own (by omega)).2
  rw [hl'] at this
  have e:st.Shelves.getD i 0=c:=Wn hi
  rw [←e];show isC s.Floor (st.Shelves.getD ((i:Int)).toNat 0)=true
  rw [this];exact hR.cell
 | false=>
  have:=h.shel i c hi hb
  unfold kx at this
  cases hic:isC s.Floor c with
  | true=>rfl
  | false=>rw [hic] at this;simp at this
theorem Fair.ls (h:Fair s st):LS s st:=⟨h.r.fl,h.r.rs,h.f12.sz,h.rst.cells,fun i r hr=>⟨(h.rst.rob i r hr).cell,(h.rst.rob i r hr).load.1,(h.rst.rob i r hr).load.2⟩⟩
end
/-! ## the example -/
theorem Q70 {s:ApiSite} {st:ApiState} {i a:Int} (h:legS s st i a=0):(0≤i∧i<st.Robots.length)∧0≤a∧a<10:=by
 unfold legS at h
 split at h
 ·cases h
 ·unfold legR at h
  split at h
  ·cases h
  ·omega
end Go.Taq
/- The mathematics, part OG: ActAlone. -/
set_option linter.unusedVariables false
set_option linter.unusedSimpArgs false
namespace Go.Taq
open Go
section
variable {s:ApiSite} {st:ApiState}
theorem Qaq {i a:Int} {n:Nat} {r:ApiRobot} (hn:i=n) (hx:st.Robots[n]?=some r):doS s st i a=doR s st n r a:=by
 have hlt:=(List.getElem?_eq_some_iff.1 hx).1
 subst hn
 unfold doS
 rw [if_neg (by omega)]
 show doR s st n (st.Robots.getD n default) a=_
 rw [Wc hx]
theorem Q97 {i a:Int} {n:Nat} {r:ApiRobot} (hn:i=n) (hx:st.Robots[n]?=some r):legS s st i a=legR s st r a:=by
 have hlt:=(List.getElem?_eq_some_iff.1 hx).1
 subst hn
 unfold legS
 rw [if_neg (by omega)]
 show legR s st (st.Robots.getD n default) a=_
 rw [Wc hx]
theorem Q9z (n:Nat) (r:ApiRobot) (a:Int):(doR s st n r a).Robots.length=st.Robots.length:=by unfold doR;split <;> simp
theorem Q9k (n:Nat) (r:ApiRobot) (a:Int):(doR s st n r a).Shelves.length=st.Shelves.length:=by
 unfold doR;split
 ·rfl
 ·exact Q4G r a
theorem Q6x {α:Type} {l:List α} {n:Nat} {x:α} (h:l[n]?=some x):l.set n x=l:=by
 have:=set_idx (xs:=l) (i:=(n:Int)) (x:=x) (Qg rfl h)
 simpa using this
theorem Q8g {r:ApiRobot} {a:Int} (hm:mvB a=true) (hd:r.Dead=false) (h:legR s st r a=0):(nx s.Floor r.Cell (a-1)).2=true∧r.Rest≤0∧movS s st r (a-1)=0:=by
 have h1:=G8.1 hm
 unfold legR at h
 rw [if_neg (by omega),if_neg (by omega)] at h
 split at h
 ·cases h
 split at h
 ·cases h
 rename_i hb
 split at h
 ·cases h
 refine⟨?_,?_,h⟩
 ·unfold movS at h
  split at h
  ·cases h
  ·rename_i hc
   cases e:(nx s.Floor r.Cell (a-1)).2 with
   | true=>rfl
   | false=>exact absurd (by rw [e];rfl) hc
 ·rw [hm] at hb;simpa using hb
end
end Go.Taq
/- The mathematics, part OH: ActLifts. -/
set_option linter.unusedVariables false
set_option linter.unusedSimpArgs false
namespace Go.Taq
open Go
section
variable {st:ApiState}
theorem Q7K {a:Nat} (ha:a<st.Shelves.length):st.Shelves.getD a 0∈st.Shelves:=by rw [Wn (List.getElem?_eq_getElem ha)];exact List.getElem_mem ha
theorem Q8J {c:Int} (h:0≤atS st c):∃i:Nat,i<st.Shelves.length∧atS st c=i∧st.Shelves.getD i 0=c∧carB st i=false:=by
 rcases YP (atP st c) st.Shelves.length with ⟨i,hi,e,hp,_⟩ | ⟨e,_⟩
 ·refine⟨i,hi,e,?_⟩
  unfold atP at hp;simpa using hp
 ·unfold atS at h;rw [e] at h;omega
end
end Go.Taq
