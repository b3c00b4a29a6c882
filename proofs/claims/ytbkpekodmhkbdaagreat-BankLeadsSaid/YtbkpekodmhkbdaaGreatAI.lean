/- The mathematics, several parts in one text. -/
import Derived.Test.YtbkpekodmhkbdaaGreatAF
import Derived.Test.YtbkpekodmhkbdaaGreatBM
import Derived.Test.YtbkpekodmhkbdaaGreatBA
/- The mathematics, part BO: right sites are found right (survey.Right). -/
set_option linter.unusedVariables false
set_option linter.unusedSimpArgs false
namespace Go.Taq
open Go
theorem Q1A {l:List XP} (hm:l.length≤maxLen) {post:Bool→Prop} (h:W0 0 l) (hT:post true):XB l post:=by
 unfold XB
 refine Jn.mk (fun _=>True) (Kg hm (fun s:Int×Int=>s.2) (fun n (s:Int×Int)=>W0 s.1 (l.drop n)) rfl h (fun n x t hx ht hI=>?_) (fun t h=>trivial)) (fun _ _=>hT)
 have hd:l.drop n=x :: l.drop (n+1):=by
  obtain⟨hlt,he⟩:=List.getElem?_eq_some_iff.1 hx
  rw [List.drop_eq_getElem_cons hlt,he]
 rw [hd] at hI
 obtain⟨h1,h2,h3,h4⟩:=hI
 refine Jor3 (Ite.f ?_ ⟨by rw [ht],h4⟩)
 simp only [Bool.or_eq_false_iff,decide_eq_false_iff_not]
 omega
theorem Q15 {m:SurveyMaker} {l:List Int} (hm:l.length≤maxLen) {post:Bool→Prop} (hne:l≠[]) (hc:∀c,c∈l→isC m.site.Floor c=true) (ha:∀(i:Nat) x y,l[i]?=some x→l[i+1]?=some y→x<y) (hT:post true):Kb m l post:=by
 unfold Kb
 have hl:0<l.length:=List.length_pos_iff.2 hne
 refine Jn.mk (fun _=>True) (Kg hm (fun s=>s) (fun n _=>True) rfl trivial (fun n c t hx ht _=>?_) (fun t _=>trivial)) (fun _ _=>by
  have:decide ((l.length:Int)>0)=true:=decide_eq_true (by omega)
  rw [this];exact hT)
 refine Ky ?_
 rw [if_pos (hc c (List.mem_of_getElem? hx))]
 refine Jn.mk (fun b=>b=false) (Ite.t rfl (Ite.mk (fun h=>?_) (fun h=>rfl))) (fun b hb=>Ite.f hb ⟨by rw [ht],trivial⟩)
 simp at h
 have hn:=(List.getElem?_eq_some_iff.1 hx).1
 have hx':l[n-1]?=some (l[n-1]'(by omega)):=List.getElem?_eq_getElem _
 have e1:w64 (t-1)=((n-1:Nat):Int):=by rw [ht,QD (by omega) (by unfold maxLen at hm;omega)];omega
 refine⟨l[n-1]'(by omega),by rw [e1];exact Qn rfl hx',?_⟩
 have:=ha (n-1) _ c hx' (by rw [show n-1+1=n by omega];exact hx)
 exact decide_eq_false (by omega)
section
variable {s:ApiSite}
theorem Q0s (k:QX s) {n:Nat} {m:SurveyMaker} (hI:MInv s n 0 0 0 m) {z:Ql} (hz:s.Zones[n]?=some z) {post:Int×SurveyMaker→Prop} (h64:n<64) (hr:Q1g s (s.Zones.take n) z) (hT:∀m',MInv s (n+1) 0 0 0 m'→post (0,m')):QW z m post:=by
 have kz:=k.Zones.2 z (List.mem_of_getElem? hz)
 have hn:=(List.getElem?_eq_some_iff.1 hz).1
 unfold QW
 have hlen:m.site.Zones.length=n:=by rw [hI.zs];simp;omega
 refine Ite.f (by rw [hI.names,List.any_eq_false];intro y hy;rw [hr.name y hy];simp) (Ite.f (by rw [hlen];exact decide_eq_false (by omega)) ?_)
 refine Jn.mk (fun _=>True) (Kg kz.Cells.1 (fun t=>t) (fun i _=>True) rfl trivial (fun i c t hc ht _=>?_) (fun t h=>trivial)) (fun _ _=>?_)
 ·obtain⟨c1,c2,c3⟩:=hr.cell c (List.mem_of_getElem? hc)
  refine Ky ?_
  rw [hI.fl,if_pos c1]
  refine Jn.mk (fun b=>b=false) (Zl (Ite.t c2 ?_)) (fun b hb=>Ite.f hb ⟨by rw [ht],trivial⟩)
  rw [hI.zoned];exact c3
 ·refine Jn.mk (fun zm=>∀c,(lk zm c).getD false=(zAt (s.Zones.take n) c||z.Cells.contains c))
   (Kg kz.Cells.1 (fun t:List (Int×Bool)×Int=>t.2) (fun i t=>∀c,(lk t.1 c).getD false=(zAt (s.Zones.take n) c||(z.Cells.take i).contains c)) rfl (fun c=>by simp [hI.zoned]) (fun i x t hx ht h=>⟨by rw [ht],fun c=>?_⟩) (fun t h c=>by have:=h c;rwa [List.take_length] at this)) (fun zm hzm=>⟨by rw [hlen];simp;omega,?_⟩)
  ·rw [Wb,Qz hx]
   by_cases e:x=c
   ·subst e;simp
   ·rw [if_neg e,h c]
    simp [show ¬c=x from fun h=>e h.symm]
  ·refine hT _ ⟨hI.fl,?_,hI.aps,hI.sh,hI.rs,fun nm=>?_,fun c=>?_,hI.shelf,hI.robot⟩
   ·show m.site.Zones++[z]=_;rw [hI.zs,Qz hz]
   ·show (lk (upd m.names z.Name _) nm).isSome=_
    rw [Wb,Qz hz,List.any_append]
    by_cases e:z.Name=nm
    ·rw [if_pos e];simp [Zo.2 e]
    ·rw [if_neg e,hI.names]
     have:seq z.Name nm=false:=by rw [Bool.eq_false_iff];exact fun h=>e (Zo.1 h)
     simp [this]
   ·show (lk zm c).getD false=_
    rw [hzm c,Qz hz,Q5y]
theorem ZX (k:QX s) (hf:s.Aparts.length≤1000000) {nz n:Nat} {m:SurveyMaker} (hI:MInv s nz n 0 0 m) {x:Qb} (hx:s.Aparts[n]?=some x) {post:Int×SurveyMaker→Prop}
  (h:apB (s.Aparts.take n) x.A x.B=false) (hn:nmB x.A=true∧nmB x.B=true) (hT:∀m',MInv s nz (n+1) 0 0 m'→post (0,m')):QQ x m post:=by
 have kx:=k.Aparts.2 x (List.mem_of_getElem? hx)
 have hnl:=(List.getElem?_eq_some_iff.1 hx).1
 have hm:(s.Aparts.take n).length≤maxLen:=Nat.le_trans (by simp;omega) k.Aparts.1
 unfold QQ
 refine Jn.mk (fun b=>b=false) (XK kx.A (Ite.t hn.1 (XK kx.B (by rw [hn.2];rfl)))) (fun b hb=>Ite.f hb ?_)
 rw [hI.aps]
 refine WX hm (Ite.f h ⟨by simp;omega,hT _ ⟨hI.fl,hI.zs,?_,hI.sh,hI.rs,hI.names,hI.zoned,hI.shelf,hI.robot⟩⟩)
 show s.Aparts.take n++[x]=_;rw [Qz hx]
theorem ZS (k:QX s) (hs:s.Shelves.length≤1000000) {nz na n:Nat} {m:SurveyMaker} (hI:MInv s nz na n 0 m) {x:QE} (hx:s.Shelves[n]?=some x) {post:Int×SurveyMaker→Prop} (h3:n<3000)
  (h:isC s.Floor x.Cell=true∧Zi (kd s.Floor x.Cell)=true∧shAt (s.Shelves.take n) x.Cell<0) (hnm:(seq x.Class ByteArray.empty||nmB x.Class)=true) (hT:∀m',MInv s nz na (n+1) 0 m'→post (0,m')):QO x m post:=by
 have kx:=k.Shelves.2 x (List.mem_of_getElem? hx)
 have hn:=(List.getElem?_eq_some_iff.1 hx).1
 have hlen:m.site.Shelves.length=n:=by rw [hI.sh];simp;omega
 obtain⟨hc,h1,h2'⟩:=h
 unfold QO
 refine Jn.mk (fun b=>b=false) (Ite.mk (fun h=>rfl) (fun h=>XK kx.Class (by rw [h] at hnm;rw [show nmB x.Class=true by simpa using hnm];rfl))) (fun b hb=>Ite.f hb (Ky ?_))
 rw [hI.fl,if_pos hc]
 refine Ite.f rfl (WC (Ite.f (by rw [h1];rfl) (Ite.f ?_ (Ite.f ?_ ?_))))
 ·rw [hI.shelf,if_neg (by omega)];rfl
 ·rw [hlen];exact decide_eq_false (by omega)
 ·rw [hlen]
  refine⟨by simp;omega,hT _ ⟨rfl,hI.zs,hI.aps,?_,hI.rs,hI.names,hI.zoned,fun c=>?_,hI.robot⟩⟩
  ·show m.site.Shelves++[x]=_;rw [hI.sh,Qz hx]
  ·show lk (upd m.shelf x.Cell (n:Int)) c=_
   rw [Wb,Qz hx,Q4B]
   have hl:(s.Shelves.take n).length=n:=by simp;omega
   by_cases e:x.Cell=c
   ·subst e
    have e0:¬0≤shAt (s.Shelves.take n) x.Cell:=by omega
    simp only [if_neg e0,if_true,hl]
    rw [if_pos (by omega)]
   ·rw [if_neg e,if_neg e,hI.shelf c]
    by_cases h:0≤shAt (s.Shelves.take n) c
    ·rw [if_pos h,if_pos h,if_pos h]
    ·rw [if_neg h,if_neg h,if_neg (by omega)]
theorem Q14 (k:QX s) (ha:s.Aparts.length≤1000000) (hr:Q1o s) (hn:Q1U s) {post:Bool→Prop} (hp:post true):KO s post:=by
 have r2:=hr.r2;have sh3:=hr.sh3
 unfold KO
 refine Q1J hr.fl (Ite.f rfl ?_)
 unfold Xp
 refine Jn.mk (fun t:T16=>MInv s s.Zones.length 0 0 0 (of16 t))
  (Kg k.Zones.1 (fun t:T17 Int=>lst t) (fun n (t:T17 Int)=>MInv s n 0 0 0 (ofT t)) rfl ⟨rfl,rfl,rfl,rfl,rfl,fun n=>rfl,fun c=>rfl,fun c=>rfl,fun c=>rfl⟩ (fun n z t hz ht hI=>?_) (fun t h=>h)) (fun t1 hI1=>?_)
 ·have kz:=k.Zones.2 z (List.mem_of_getElem? hz)
  have hzn:=hr.zone n z hz
  have h64:n<64:=by have:=hr.z64;have:=(List.getElem?_eq_some_iff.1 hz).1;omega
  refine Jn.mk (fun x:T17 Bool=>lst x=false∧MInv s (n+1) 0 0 0 (ofT x)) (XK kz.Name (Ite.t (hn.zn n z hz) (WE (Ite.t ?_ (Ite.f ?_ (Q1A kz.Shut.1 hzn.spans (Ite.t rfl (Q15 (m:=ofT t) kz.Cells.1 hzn.ne (fun c hc=>by rw [hI.fl];exact (hzn.cell c hc).1) hzn.asc (Ite.t rfl (Q0s (m:=ofT t) k hI hz h64 hzn (fun m' hm'=>⟨rfl,hm'⟩)))))))))))
   (fun x hx=>Ite.f hx.1 ⟨by show w64 (lst t+1)=_;rw [show lst t=(n:Int) from ht],hx.2⟩)
  ·have:=hzn.sp;simp;omega
  ·have:=hzn.keep;simp;omega
 refine Jn.mk (fun t:T16=>MInv s s.Zones.length s.Aparts.length 0 0 (of16 t))
  (Kg k.Aparts.1 (fun t:T17 Int=>lst t) (fun n (t:T17 Int)=>MInv s s.Zones.length n 0 0 (ofT t)) rfl (by exact hI1) (fun n x t hx ht hI=>?_) (fun t h=>h)) (fun t2 hI2=>?_)
 ·exact ZX (m:=ofT t) k ha hI hx (hr.ap n x hx).2.2 (hn.an n x hx) (fun m' hm'=>Ite.f rfl ⟨by show w64 (lst t+1)=_;rw [show lst t=(n:Int) from ht],hm'⟩)
 refine Jn.mk (fun t:T16=>MInv s s.Zones.length s.Aparts.length s.Shelves.length 0 (of16 t))
  (Kg k.Shelves.1 (fun t:T17 Int=>lst t) (fun n (t:T17 Int)=>MInv s s.Zones.length s.Aparts.length n 0 (ofT t)) rfl (by exact hI2) (fun n x t hx ht hI=>?_) (fun t h=>h)) (fun t3 hI3=>?_)
 ·exact ZS (m:=ofT t) k (by omega) hI hx (by have:=(List.getElem?_eq_some_iff.1 hx).1;omega) (hr.sh n x hx) (hn.sn n x hx) (fun m' hm'=>Ite.f rfl ⟨by show w64 (lst t+1)=_;rw [show lst t=(n:Int) from ht],hm'⟩)
 refine Jn.mk (fun t:T16=>MAll s (of16 t))
  (Kg k.Robots.1 (fun t:T17 Int=>lst t) (fun n (t:T17 Int)=>MInv s s.Zones.length s.Aparts.length s.Shelves.length n (ofT t)) rfl (by exact hI3) (fun n x t hx ht hI=>?_) (fun t h=>h)) (fun t4 hI4=>?_)
 ·exact Q04 (m:=ofT t) k (by omega) hI hx (by have:=(List.getElem?_eq_some_iff.1 hx).1;omega) (hr.rb n x hx) (fun m' hm'=>Ite.f rfl ⟨by show w64 (lst t+1)=_;rw [show lst t=(n:Int) from ht],hm'⟩)
 refine Jn.mk (fun b=>b=true) (YU (m:=of16 t4) k hr.fl hI4 (fun x hx=>?_) (fun i hi hb=>?_) (fun hbs=>Ite.t (by decide) ?_)) (fun b hb=>hb▸hp)
 ·obtain⟨i,hi⟩:=List.getElem?_of_mem hx
  exact (hr.sh i x hi).1
 ·obtain⟨d,d0,d1,hb⟩:=hb
  exact absurd hb (hr.apart i d d0 d1)
 ·unfold Kr
  have hzs:(of16 t4).site.Zones=s.Zones:=hI4.zs'
  show Q9 (of16 t4).site.Zones (of16 t4) _
  rw [hzs]
  unfold Q9
  refine Ww k.Zones.1 (fun z=>decide ((z.Cells.countP (Y0 s):Nat)<z.Keep)) (T:=fun z post=>K2 z (of16 t4) post) (fun z hz {q} hq=>Yc k hI4 (k.Zones.2 z hz).Cells.1 (fun c hc=>?_) hq) (Ite.t ?_ ?_)
  ·obtain⟨i,hi⟩:=List.getElem?_of_mem hz
   exact ((hr.zone i z hi).cell c hc).1
  ·rcases XO (fun z:Ql=>decide (((z.Cells.countP (Y0 s):Nat):Int)<z.Keep)) s.Zones with ⟨i,y,hy,e,hb,_⟩ | ⟨e,hb⟩
   ·exfalso
    have:=hr.room y (List.mem_of_getElem? hy)
    have:=of_decide_eq_true hb;omega
   ·rw [e];decide
  ·unfold Kq
   have hfl:(of16 t4).site.Floor=s.Floor:=hI4.fl
   show Qf (of16 t4).site.Floor.Kind 3 _
   rw [hfl]
   exact K7 k.Floor.Kind.1 hr.charger
end
end Go.Taq
/- The mathematics, part BP: BankFewer. -/
set_option linter.unusedVariables false
set_option linter.unusedSimpArgs false
namespace Go.Taq
open Go
section
variable {s:ApiSite} {st:ApiState} {homes:List Int} {n:Nat}
/-! ## what is right stays right -/
theorem Q1g.fl {s s':ApiSite} (e:s.Floor=s'.Floor) {b:List Ql} {z:Ql} (h:Q1g s b z):Q1g s' b z:=
 ⟨h.named,h.name,h.ne,h.sp,h.keep,h.spans,fun c hc=>by rw [←e];exact h.cell c hc,h.asc⟩
theorem Q2I {s:ApiSite} {st:ApiState} {homes:List Int} {n:Int} (ks:QX s) (hn:0≤n∧n≤100000) {post:Bool→Prop} (hF:post false) (hT:Q7r s st homes→Q1U s→Q51 s st homes→FewS s n 20→post true):Xa s st homes n post:=by
 unfold Xa
 refine Jn.mk' (Q47 ks (by omega) (Ite.f rfl hF) (fun h1=>Ite.t rfl (Q3Z (Ite.f rfl hF) (fun h2=>Ite.t rfl (Ite.mk (fun h3=>Ite.mk (fun h4=>Q1h ks h1 (by omega) (Ite.f rfl hF) (fun h5 h5n=>Ite.t rfl (Q2R h2.sz (Ite.f rfl hF) (fun h6=>Ite.t rfl (Q2D h5.fl h2.sz (by simp at h4;omega) (fun _=>hF) (fun h7=>hT ⟨h5,h2,h6,by simp at h3;omega,h7.len⟩ h5n h7 h1)))))) (fun _=>hF)) (fun _=>hF))))))
end
end Go.Taq
/- The mathematics, part AH: what acts one after the other do to a robot and to a shelf; ArenaHinders. -/
set_option linter.unusedVariables false
set_option linter.unusedSimpArgs false
namespace Go.Taq
open Go
def actR (s:ApiSite) (st:ApiState) (r:ApiRobot) (b:Int):ApiRobot:=if r.Dead=true then r else nwR s st r b
section
variable {s:ApiSite} {st:ApiState}
theorem Q3a {i:Nat} {r:ApiRobot} (hx:st.Robots[i]?=some r) (a:Int):∃b,(b=a∨b=0)∧(legS s st i a=0→b=a)∧legR s st r b=0∧doA s st i a=doR s st i r b:=by
 have hi:=(List.getElem?_eq_some_iff.1 hx).1
 have hl:=legA (s:=s) hi a
 refine⟨if legS s st i a=0 then a else 0,by split <;> simp,fun h=>if_pos h,?_,by unfold doA;exact Q5x rfl hx⟩
 generalize (if legS s st i a=0 then a else 0)=b at *
 rw [Q2X rfl hx] at hl;exact hl
theorem Q8Q {i:Nat} {r:ApiRobot} (hx:st.Robots[i]?=some r) (b:Int):(doR s st i r b).Robots[i]?=some (actR s st r b):=by
 unfold doR actR;split
 ·exact hx
 ·exact List.getElem?_set_self (List.getElem?_eq_some_iff.1 hx).1
theorem Q6s {i j:Nat} {r:ApiRobot} (h:j≠i) (b:Int):(doR s st i r b).Robots[j]?=st.Robots[j]?:=by
 unfold doR;split
 ·rfl
 ·exact List.getElem?_set_ne (Ne.symm h)
theorem Q7o {acts:List Int}:∀(k i:Nat) (st:ApiState),i+k≤st.Robots.length→∀j,j<i∨i+k≤j→(runS s acts k i st).Robots[j]?=st.Robots[j]?
 | 0,i,st,_,j,_=>rfl
 | k+1,i,st,hi,j,hj=>by
  have hx:=List.getElem?_eq_getElem (show i<st.Robots.length by omega)
  obtain⟨b,_,_,_,e⟩:=Q3a (s:=s) hx (acts.getD i 0)
  have hl:=(GQ (s:=s) (st:=st) i (acts.getD i 0)).2.1
  show (runS s acts k (i+1) (doA s st i (acts.getD i 0))).Robots[j]?=_
  rw [Q7o k (i+1) _ (by rw [hl];omega) j (by omega),e,Q6s (by omega)]
theorem Q6g {acts:List Int}:∀(k i:Nat) (st:ApiState),i+k≤st.Robots.length→∀j r,i≤j→j<i+k→st.Robots[j]?=some r →
  ∃st' b,(b=acts.getD j 0∨b=0)∧(seqB s acts k i st=0→b=acts.getD j 0)∧st'.Tick=st.Tick∧legR s st' r b=0∧(runS s acts k i st).Robots[j]?=some (actR s st' r b)
 | 0,i,st,_,j,r,h1,h2,_=>by omega
 | k+1,i,st,hi,j,r,h1,h2,hx=>by
  by_cases c:j=i
  ·subst c
   obtain⟨b,hb1,hb2,hb3,e⟩:=Q3a (s:=s) hx (acts.getD j 0)
   have hl:=(GQ (s:=s) (st:=st) j (acts.getD j 0)).2.1
   refine⟨st,b,hb1,fun hs=>hb2 ?_,rfl,hb3,?_⟩
   ·unfold seqB at hs
    by_cases hleg:legS s st j (acts.getD j 0)=0
    ·exact hleg
    ·rw [if_neg hleg] at hs;exact absurd hs hleg
   ·show (runS s acts k (j+1) (doA s st j (acts.getD j 0))).Robots[j]?=_
    rw [Q7o k (j+1) _ (by rw [hl];omega) j (.inl (by omega)),e];exact Q8Q hx b
  ·have hx0:=List.getElem?_eq_getElem (show i<st.Robots.length by omega)
   obtain⟨b,hb1,hb2,hb3,e⟩:=Q3a (s:=s) hx0 (acts.getD i 0)
   obtain⟨ht,hl,_⟩:=GQ (s:=s) (st:=st) i (acts.getD i 0)
   obtain⟨st',b',p1,p2,p3,p4,p5⟩:=Q6g (acts:=acts) k (i+1) (doA s st i (acts.getD i 0)) (by rw [hl];omega) j r (by omega) (by omega) (by rw [e,Q6s c];exact hx)
   refine⟨st',b',p1,fun hs=>p2 ?_,p3.trans ht,p4,p5⟩
   unfold seqB at hs
   by_cases hleg:legS s st i (acts.getD i 0)=0
   ·rw [if_pos hleg] at hs;unfold doA;rw [if_pos hleg];exact hs
   ·rw [if_neg hleg] at hs;exact absurd hs hleg
theorem Q7n {r:ApiRobot} {a:Int} (h:mvB a=true):lod st r a=r.Load:=by
 have:=Gd.1 h
 unfold lod;rw [if_neg (by omega),if_neg (by omega)]
theorem Q7B {r:ApiRobot} {b:Int} {m:Nat} {c:Int} (hc:st.Shelves[m]?=some c):∃c1,(nwS s st r b)[m]?=some c1∧(c1=c∨mvB b=true∧(nx s.Floor r.Cell (b-1)).2=true∧r.Load=(m:Int)∧c1=(nx s.Floor r.Cell (b-1)).1):=by
 unfold nwS
 split
 ·rename_i h
  obtain⟨h1,h2⟩:=h
  rw [Bool.and_eq_true] at h1
  rw [Q7n h1.1] at h2 ⊢
  by_cases e:r.Load.toNat=m
  ·exact⟨_,by rw [e];exact List.getElem?_set_self (List.getElem?_eq_some_iff.1 hc).1,.inr ⟨h1.1,h1.2,by omega,rfl⟩⟩
  ·exact⟨c,by rw [List.getElem?_set_ne e];exact hc,.inl rfl⟩
 ·exact⟨c,hc,.inl rfl⟩
theorem Q3F {acts:List Int} {m:Nat}:∀(k i:Nat) (st:ApiState),i+k≤st.Robots.length→∀c,st.Shelves[m]?=some c →
  ∃c',(runS s acts k i st).Shelves[m]?=some c'∧(c'=c∨∃j r,i≤j∧j<i+k∧st.Robots[j]?=some r∧r.Load=(m:Int)∧r.Dead=false∧mvB (acts.getD j 0)=true∧(nx s.Floor r.Cell (acts.getD j 0-1)).2=true∧c'=(nx s.Floor r.Cell (acts.getD j 0-1)).1)
 | 0,i,st,_,c,hc=>⟨c,hc,.inl rfl⟩
 | k+1,i,st,hi,c,hc=>by
  have hx:=List.getElem?_eq_getElem (show i<st.Robots.length by omega)
  generalize st.Robots[i]'_=r at hx
  obtain⟨b,hb1,hb2,hb3,e⟩:=Q3a (s:=s) hx (acts.getD i 0)
  have hl:=(GQ (s:=s) (st:=st) i (acts.getD i 0)).2.1
  have h1:∃c1,(doA s st i (acts.getD i 0)).Shelves[m]?=some c1∧(c1=c∨r.Load=(m:Int)∧r.Dead=false∧mvB (acts.getD i 0)=true∧(nx s.Floor r.Cell (acts.getD i 0-1)).2=true∧c1=(nx s.Floor r.Cell (acts.getD i 0-1)).1):=by
   rw [e];unfold doR;split
   ·exact⟨c,hc,.inl rfl⟩
   ·rename_i hd
    obtain⟨c1,q1,q2⟩:=Q7B (s:=s) (r:=r) (b:=b) hc
    refine⟨c1,q1,?_⟩
    rcases q2 with q2 | ⟨g1,g2,g3,g4⟩
    ·exact .inl q2
    ·have:b=acts.getD i 0:=by
      rcases hb1 with h | h
      ·exact h
      ·rw [h] at g1;exact absurd g1 (by decide)
     rw [this] at g1 g2 g4
     exact .inr ⟨g3,by simpa using hd,g1,g2,g4⟩
  obtain⟨c1,q1,q2⟩:=h1
  obtain⟨c',p1,p2⟩:=Q3F (acts:=acts) k (i+1) (doA s st i (acts.getD i 0)) (by rw [hl];omega) c1 q1
  refine⟨c',p1,?_⟩
  rcases p2 with p2 | ⟨j,r2,j1,j2,j3,j4⟩
  ·rcases q2 with q2 | q2
   ·exact .inl (p2.trans q2)
   ·exact .inr ⟨i,r,by omega,by omega,hx,q2.1,q2.2.1,q2.2.2.1,q2.2.2.2.1,p2.trans q2.2.2.2.2⟩
  ·rw [e,Q6s (by omega)] at j3
   exact .inr ⟨j,r2,by omega,by omega,j3,j4⟩
theorem Q6T {b:ApiState} {j:Nat} {r:ApiRobot} (h:st.Robots[j]?=some r):(ZP b st).Robots[j]?=some (endR (b.Robots.getD j default) r):=by
 show ((List.range st.Robots.length).map _)[j]?=_
 rw [List.getElem?_map,List.getElem?_range (List.getElem?_eq_some_iff.1 h).1,Option.map_some,Xr h]
end
end Go.Taq
/- The mathematics, part AI: when two states are the same; ArenaFaults. -/
set_option linter.unusedVariables false
set_option linter.unusedSimpArgs false
namespace Go.Taq
open Go
section
end
end Go.Taq
