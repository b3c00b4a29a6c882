/- The mathematics, several parts in one text. -/
import Derived.Test.YtdcfcldpjfepiaaGreatOD
/- The mathematics, part OE: what actions do, in both; equal states. -/
set_option linter.unusedVariables false
set_option linter.unusedSimpArgs false
namespace Go.Taq
open Go
def doS (s:ApiSite) (st:ApiState) (i a:Int):ApiState:=if i<0∨i≥st.Robots.length then st else doR s st i.toNat (st.Robots.getD i.toNat default) a
section
variable {s:ApiSite} {st:ApiState}
theorem Q4n {α:Type} {xs:List α} (hl:xs.length≤1099511627776) {post:List α→Prop} (hp:post xs):∀hb5:Bool,(hb5=true→xs=[])→Ite (hb5 == true) (post []) ((([]:List α).length+xs.length≤1099511627776)∧post (([]:List α)++xs)):=by
 intro b hb
 refine Ite.mk (fun h=>?_) (fun h=>⟨by simp;omega,by rw [List.nil_append];exact hp⟩)
 rw [hb (by simpa using h)] at hp;exact hp
theorem Y0 {xs:List Int} (hl:xs.length≤1000) {post:List Int→Prop} (hp:post xs):Qw xs post:=by
 unfold Qw;exact Q4n (by omega) hp
theorem Q63 {xs:List Q0} (hl:xs.length≤1000) {post:List Q0→Prop} (hp:post xs):QJ xs post:=by
 unfold QJ;exact Q4n (by omega) hp
theorem Q5O {xs:List Qd} (hl:xs.length≤1000) {post:List Qd→Prop} (hp:post xs):QK xs post:=by
 unfold QK;exact Q4n (by omega) hp
theorem Q40 (hz:Sz st) {post:ApiState→Prop} (hp:post st):WA st post:=by
 unfold WA
 exact Y0 hz.sh (Q63 hz.rb (Y0 hz.pp (Y0 hz.dd (Q5O hz.sk hp))))
theorem Q33 (hz:Sz st) {post:ApiState→Prop} (hp:post st):X1 st post:=by
 have q1:=hz.sh;have q2:=hz.rb;have q3:=hz.pp;have q4:=hz.dd;have q5:=hz.sk
 unfold X1
 refine⟨by simp;omega,by simp;omega,by simp;omega,by simp;omega,by simp;omega,?_⟩
 simp only [List.nil_append];exact hp
theorem Q7X (c:Int):-1≤atS st c∧atS st c<st.Shelves.length:=Q6E st c
theorem Q5V (h:LS s st) {n:Nat} {r:Q0} (hx:st.Robots[n]?=some r) (a:Int):-1≤lod st r a∧lod st r a<st.Shelves.length:=by
 have:=h.rob n r hx
 unfold lod;split
 ·exact Q7X _
 ·split <;> omega
theorem Q8k {t ch a:Int} {l:Bool} (h:I64 ch):I64 (aft t ch a l).1:=by
 have hc:=Q3D t a l
 unfold aft
 split
 ·exact h
 ·split
  ·split <;> constructor <;> (simp only;omega)
  ·split
   ·exact h
   ·constructor <;> (simp only;omega)
theorem Q8w (k:OkApiState st) {n:Nat} {r:Q0} (hx:st.Robots[n]?=some r) (a:Int):I64 (chg st r a):=by
 have h:=(k.Robots.2 r (List.mem_of_getElem? hx)).Charge
 unfold chg
 split
 ·exact Q8k h
 ·exact Q0F (by decide)
theorem Q7m {α:Type} {l:List α} {n:Nat} {i:Int} {a:α} (hi:i=n) (h:n<l.length):idx (l.set i.toNat a) i=some a:=by
 refine Qq hi ?_
 rw [hi];simp [h]
theorem Q69 (ks:OkApiSite s) (k:OkApiState st) (h:LS s st) {i a:Int} (h0:0≤a) (h9:a<10) {post:ApiState→Prop} (hp:post (doS s st i a)):Q0n s st i a post:=by
 have hsl:st.Shelves.length≤1000000:=by have:=h.sz.sh;omega
 unfold Q0n
 refine Q40 h.sz ?_
 by_cases hv:i<0∨i≥st.Robots.length
 ·unfold doS at hp;rw [if_pos hv] at hp
  refine Jn.mk (fun b=>b=true) (Ite.mk (fun _=>rfl) (fun h1=>Ite.mk (fun _=>rfl) (fun h2=>?_))) (fun b hb=>Ite.t hb hp)
  simp at h1 h2;omega
 unfold doS at hp;rw [if_neg hv] at hp
 obtain⟨n,hn⟩:=Int.eq_ofNat_of_zero_le (show 0≤i by omega)
 have hlt:n<st.Robots.length:=by omega
 have hx:=List.getElem?_eq_getElem hlt
 have hg:st.Robots.getD i.toNat default=st.Robots[n]:=by rw [hn];exact Q1Q hx
 rw [hg] at hp
 generalize st.Robots[n]=r at hp hx
 have hb:=Q5V h hx a
 refine Jn.mk (fun b=>b=r.Dead) (Ite.f (by simp;omega) (Ite.f (by simp;omega) ⟨r,Qq hn hx,rfl⟩)) (fun b hbd=>?_)
 subst hbd
 unfold doR at hp
 refine Ite.mk (fun h1=>?_) (fun h1=>?_)
 ·rw [if_pos h1] at hp;exact hp
 rw [if_neg (by rw [h1];simp)] at hp
 refine⟨r,Qq hn hx,Zo ?_⟩
 refine Jn.mk (fun c=>c=chg st r a) (Ite.mk (fun h2=>?_) (fun h2=>?_)) (fun c hc=>?_)
 ·unfold chg;rw [if_neg (by simpa using h2)]
 ·unfold chg;rw [if_pos (by simpa using h2)]
 subst hc
 refine Jn.mk (fun l=>l=st.Robots.set i.toNat {r with Load:=lod st r a,Charge:=chg st r a}) (Ite.mk (fun h2=>Q2O k hsl ?_) (fun h2=>Jn.mk' (Ite.mk (fun h3=>?_) (fun h3=>?_)))) (fun l hl=>?_)
 ·rw [List.set_set];unfold lod;rw [if_pos (by simpa using h2)]
 ·rw [List.set_set];unfold lod;rw [if_neg (by simpa using h2),if_pos (by simpa using h3)]
 ·unfold lod;rw [if_neg (by simpa using h2),if_neg (by simpa using h3)]
 subst hl
 refine Zc h0 h9 (Ite.mk (fun h2=>?_) (fun h2=>?_))
 ·have hm:mvB a=false:=by simpa using h2
  unfold nwR nwS at hp;rw [hm] at hp
  simp only [Bool.false_and,Bool.false_eq_true,false_and,if_false] at hp
  exact hp
 have hm:mvB a=true:=by simpa using h2
 refine⟨_,Q7m hn hlt,Zx h.fl ?_⟩
 unfold nwR nwS at hp;rw [hm,Bool.true_and] at hp
 show Jn _ _
 refine Jn.mk (fun p:List Int×List Q0=>p=(nwS s st r a,st.Robots.set i.toNat (nwR s st r a))) (Ite.mk (fun h3=>Q0I ks h.rs ?_) (fun h3=>?_)) (fun p hpp=>?_)
 ·have h3':(nx s.Floor r.Cell (a-1)).2=true:=h3
  have hsp:=Q2S h.rs (nx s.Floor r.Cell (a-1)).1
  refine Jn.mk (fun l=>l=nwS s st r a) (Ite.mk (fun h4=>?_) (fun h4=>?_)) (fun l hl=>?_)
  ·have h4':0≤lod st r a:=by simpa using h4
   obtain⟨m,hm2⟩:=Int.eq_ofNat_of_zero_le h4'
   refine⟨_,Qq hm2 (List.getElem?_eq_getElem (by omega)),?_⟩
   unfold nwS;rw [if_pos ⟨by rw [hm,h3'];rfl,h4'⟩]
  ·have h4':¬0≤lod st r a:=by simpa using h4
   unfold nwS;rw [if_neg (fun e=>h4' e.2)]
  ·subst hl
   have ew:w64 (spd s (nx s.Floor r.Cell (a-1)).1-1)=spd s (nx s.Floor r.Cell (a-1)).1-1:=Qx (by omega) (by omega)
   rw [List.set_set,List.set_set]
   simp only [] at ew ⊢
   rw [ew]
   show (_,_)=(_,_)
   unfold nwR;rw [hm,h3'];rfl
 ·have h3':(nx s.Floor r.Cell (a-1)).2=false:=h3
  show (_,_)=(_,_)
  unfold nwR nwS;rw [hm,h3']
  simp only [Bool.and_false,Bool.false_eq_true,false_and,if_false]
 ·subst hpp
  unfold nwR nwS;rw [hm,Bool.true_and];exact hp
theorem Q58 (ks:OkApiSite s) (hr:Ws s) (k:OkApiState st) (h:LS s st) {i a:Int} (h0:0≤a) (h9:a<10) {post:ApiState→Prop} (hp:post (doS s st i a)):XS s st i a post:=by
 have hsl:st.Shelves.length≤1000000:=by have:=h.sz.sh;omega
 unfold XS
 refine Q33 h.sz ?_
 by_cases hv:i<0∨i≥st.Robots.length
 ·unfold doS at hp;rw [if_pos hv] at hp
  exact Jor2 (Ite.t (by simp;omega) hp)
 unfold doS at hp;rw [if_neg hv] at hp
 obtain⟨n,hn⟩:=Int.eq_ofNat_of_zero_le (show 0≤i by omega)
 have hlt:n<st.Robots.length:=by omega
 have hx:=List.getElem?_eq_getElem hlt
 have hg:st.Robots.getD i.toNat default=st.Robots[n]:=by rw [hn];exact Q1Q hx
 rw [hg] at hp
 generalize st.Robots[n]=r at hp hx
 have hb:=Q5V h hx a
 unfold doR at hp
 refine Jor2 (Ite.f (by simp;omega) ⟨r,Qq hn hx,Ite.mk (fun h1=>?_) (fun h1=>?_)⟩)
 ·rw [if_pos h1] at hp;exact hp
 rw [if_neg (by rw [h1];simp)] at hp
 refine Q0P ?_
 refine Jn.mk (fun c=>c=chg st r a) (Ite.mk (fun h2=>?_) (fun h2=>?_)) (fun c hc=>?_)
 ·unfold chg;rw [if_neg (by simpa using h2)]
 ·unfold chg;rw [if_pos (by simpa using h2)]
 subst hc
 refine Jn.mk (fun l=>l=lod st r a) (Ite.mk (fun h2=>Q2H ks k h.fl hsl h.cell ?_) (fun h2=>Jn.mk' (Ite.mk (fun h3=>?_) (fun h3=>?_)))) (fun l hl=>?_)
 ·unfold lod;rw [if_pos (by simpa using h2)]
 ·unfold lod;rw [if_neg (by simpa using h2),if_pos (by simpa using h3)]
 ·unfold lod;rw [if_neg (by simpa using h2),if_neg (by simpa using h3)]
 subst hl
 cases hm:mvB a with
 | false=>
  unfold K4 Kd
  refine Jn.mk' (Ite.f (by simp;omega) (Ite.f (by simp;omega) (YS (Ite.t (by show (!mvB a)=true;rw [hm];rfl) ?_))))
  refine Jn.mk' (Ite.f rfl ?_)
  unfold nwR nwS at hp;rw [hm] at hp
  simp only [Bool.false_and,Bool.false_eq_true,false_and,if_false] at hp
  exact hp
 | true=>
  refine ZS hn hx h.fl hm ?_
  unfold nwR nwS at hp;rw [hm,Bool.true_and] at hp
  refine Jn.mk' (Ite.mk (fun h3=>Q0y ks hr ?_) (fun h3=>?_))
  ·rw [h3] at hp
   have hsp:=Q2S h.rs (nx s.Floor r.Cell (a-1)).1
   simp only [true_and,if_true] at hp
   refine Jn.mk (fun b=>b=decide (0≤lod st r a)) (Ite.mk (fun h4=>?_) (fun h4=>?_)) (fun b hb'=>?_)
   ·simp at h4 ⊢;omega
   ·simp at h4 ⊢;omega
   ·subst hb'
    refine Jn.mk (fun l=>l=if 0≤lod st r a then st.Shelves.set (lod st r a).toNat (nx s.Floor r.Cell (a-1)).1 else st.Shelves) (Ite.mk (fun h4=>?_) (fun h4=>?_)) (fun l hl=>?_)
    ·have h4':0≤lod st r a:=by simpa using h4
     obtain⟨m,hm2⟩:=Int.eq_ofNat_of_zero_le h4'
     exact⟨_,Qq hm2 (List.getElem?_eq_getElem (by omega)),by rw [if_pos h4']⟩
    ·rw [if_neg (by simpa using h4)]
    ·subst hl
     rw [Qx (by omega) (by omega)];exact hp
  ·rw [h3] at hp
   simp only [Bool.false_eq_true,false_and,if_false] at hp
   exact hp
end
end Go.Taq
/- The mathematics, part OF: actions keep what they need; examples; ActTells. -/
set_option linter.unusedVariables false
set_option linter.unusedSimpArgs false
namespace Go.Taq
open Go
section
variable {s:ApiSite} {st:ApiState}
theorem Q4F (r:Q0) (a:Int):(nwS s st r a).length=st.Shelves.length:=by unfold nwS;split <;> simp
theorem Q5R (h:LS s st) (r:Q0) (a:Int) {c:Int} (hc:c∈nwS s st r a):isC s.Floor c=true:=by
 unfold nwS at hc
 split at hc
 ·rename_i hif
  simp only [Bool.and_eq_true] at hif
  rcases List.mem_or_eq_of_mem_set hc with e | e
  ·exact h.cell c e
  ·rw [e];exact (Q0b h.fl hif.1.2).2.1
 ·exact h.cell c hc
theorem Q4Y (h:LS s st) {n:Nat} {r:Q0} (hx:st.Robots[n]?=some r) (a:Int):isC s.Floor (nwR s st r a).Cell=true:=by
 unfold nwR
 split
 ·rename_i hif
  simp only [Bool.and_eq_true] at hif
  exact (Q0b h.fl hif.2).2.1
 ·exact (h.rob n r hx).1
theorem Q53 (r:Q0) (a:Int):(nwR s st r a).Load=lod st r a:=by unfold nwR;split <;> rfl
theorem Q5c (r:Q0) (a:Int):(nwR s st r a).Charge=chg st r a:=by unfold nwR;split <;> rfl
theorem Q6s (r:Q0) (a:Int):(nwR s st r a).Mute=r.Mute∧(nwR s st r a).Dead=r.Dead:=by unfold nwR;split <;> exact⟨rfl,rfl⟩
theorem Q6r (h:LS s st) (r:Q0) (a:Int):(nwR s st r a).Rest=r.Rest∨0≤(nwR s st r a).Rest∧(nwR s st r a).Rest≤100:=by
 unfold nwR;split
 ·have:=Q2S h.rs (nx s.Floor r.Cell (a-1)).1
  right;simp only;omega
 ·exact .inl rfl
theorem Q70 {α:Type} {l:List α} {n j:Nat} {a x:α} (h:(l.set n a)[j]?=some x):(j=n∧n<l.length∧x=a)∨(j≠n∧l[j]?=some x):=by
 rw [List.getElem?_set] at h
 split at h
 ·split at h
  ·cases h;exact .inl ⟨by omega,by assumption,rfl⟩
  ·cases h
 ·exact .inr ⟨by omega,h⟩
theorem Q68 (hf:RF s.Floor) {c:Int} (h:isC s.Floor c=true):I64 c:=by
 have:=QU.1 h;have:=hf.len.1
 exact Q0F (by omega)
theorem Q81 (k:OkApiState st) (h:LS s st) {n:Nat} {r:Q0} (hx:st.Robots[n]?=some r) (a:Int):LS s (doR s st n r a)∧OkApiState (doR s st n r a):=by
 unfold doR
 split
 ·exact⟨h,k⟩
 have hlt:=(List.getElem?_eq_some_iff.1 hx).1
 have hr:=k.Robots.2 r (List.mem_of_getElem? hx)
 have hb:=Q5V h hx a
 have h3:=h.sz.sh
 have hmx:(1000000:Nat)≤maxLen:=by decide
 refine⟨⟨h.fl,h.rs,⟨by simp only;rw [Q4F];exact h.sz.sh,by simp only;rw [List.length_set];exact h.sz.rb,h.sz.pp,h.sz.dd,h.sz.sk⟩,fun c hc=>Q5R h r a hc,fun i x hxi=>?_⟩,⟨k.Tick,⟨by rw [Q4F];exact k.Shelves.1,fun c hc=>Q68 h.fl (Q5R h r a hc)⟩,⟨by rw [List.length_set];exact k.Robots.1,fun x hxm=>?_⟩,k.People,k.Dead,k.Stuck⟩⟩
 ·show _∧_∧x.Load<((nwS s st r a).length:Int)
  rw [Q4F]
  rcases Q70 hxi with ⟨_,_,e⟩ | ⟨_,e⟩
  ·subst e;rw [Q53];exact⟨Q4Y h hx a,hb.1,hb.2⟩
  ·exact h.rob i x e
 ·rcases List.mem_or_eq_of_mem_set hxm with e | e
  ·exact k.Robots.2 x e
  ·subst e
   refine⟨Q68 h.fl (Q4Y h hx a),?_,?_,?_,?_,trivial⟩
   ·rw [Q53];exact Q0F (by omega)
   ·rw [Q5c];exact Q8w k hx a
   ·rcases Q6r h r a with e | e
    ·rw [e];exact hr.Rest
    ·exact Q0F (by omega)
   ·rw [(Q6s r a).1];exact hr.Mute
theorem Q6B (k:OkApiState st) (h:LS s st) (i a:Int):LS s (doS s st i a)∧OkApiState (doS s st i a):=by
 unfold doS
 split
 ·exact⟨h,k⟩
 ·obtain⟨n,hn⟩:=Int.eq_ofNat_of_zero_le (show 0≤i by omega)
  have hlt:n<st.Robots.length:=by omega
  have hx:=List.getElem?_eq_getElem hlt
  rw [hn];show LS s (doR s st n (st.Robots.getD n default) a)∧OkApiState (doR s st n (st.Robots.getD n default) a)
  rw [Q1Q hx];exact Q81 k h hx a
theorem RSt.cells (h:RSt s st):∀c,c∈st.Shelves→isC s.Floor c=true:=by
 intro c hc
 obtain⟨i,hi⟩:=List.getElem?_of_mem hc
 cases hb:carB st i with
 | true=>
  rw [Q3o (by omega)] at hb
  obtain⟨r,hr,hl⟩:=List.any_eq_true.1 hb
  obtain⟨j,hj⟩:=List.getElem?_of_mem hr
  have hR:=h.rob j r hj
  have hl':r.Load=(i:Int):=by simpa using hl
  have:=(hR.own (by omega)).2
  rw [hl'] at this
  have e:st.Shelves.getD i 0=c:=Q25 hi
  rw [←e];show isC s.Floor (st.Shelves.getD ((i:Int)).toNat 0)=true
  rw [this];exact hR.cell
 | false=>
  have:=h.shel i c hi hb
  unfold kx at this
  cases hic:isC s.Floor c with
  | true=>rfl
  | false=>rw [hic] at this;simp at this
end
/-! ## the example -/
theorem WN {a:List Int} (hm:a.length≤maxLen) {post:Bool→Prop} (hp:post true):V_taquinref07_Same a a post:=S_ref07_Same' hm (fun _=>hp) rfl
theorem Q5X {s:ApiSite} {st:ApiState} {i a:Int} (h:legS s st i a=0):(0≤i∧i<st.Robots.length)∧0≤a∧a<10:=by
 unfold legS at h
 split at h
 ·cases h
 ·unfold legR at h
  split at h
  ·cases h
  ·omega
end Go.Taq
/- The mathematics, part OG: ActAlone. -/
set_option linter.unusedVariables false
set_option linter.unusedSimpArgs false
namespace Go.Taq
open Go
section
end
end Go.Taq
/- The mathematics, part OH: ActLifts. -/
set_option linter.unusedVariables false
set_option linter.unusedSimpArgs false
namespace Go.Taq
open Go
section
end
end Go.Taq
