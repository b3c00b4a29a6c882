/- The mathematics, several parts in one text. -/
import Derived.Test.YtbkpekodmhkbdaaGreatAI
/- The mathematics, part AK: acts that stay; ArenaStays. -/
set_option linter.unusedVariables false
set_option linter.unusedSimpArgs false
namespace Go.Taq
open Go
theorem Q37 (n i:Nat):(List.replicate n (0:Int)).getD i 0=0:=by
 rw [List.getD_eq_getElem?_getD,List.getElem?_replicate];split <;> rfl
section
variable {s:ApiSite} {st:ApiState}
theorem Q05 {r:ApiRobot}:(actR s st r 0).Cell=r.Cell∧(actR s st r 0).Load=r.Load∧(actR s st r 0).Dead=r.Dead:=by
 unfold actR;split
 ·exact⟨rfl,rfl,rfl⟩
 ·unfold nwR;rw [if_neg (by simp [mvB])];exact⟨rfl,by simp [lod],rfl⟩
end
def mk6 (u:Int×List Int×List ApiRobot×List Int×List Int×List ApiStuck):ApiState:={Tick:=u.1,Shelves:=u.2.1,Robots:=u.2.2.1,People:=u.2.2.2.1,Dead:=u.2.2.2.2.1,Stuck:=u.2.2.2.2.2}
end Go.Taq
/- The mathematics, part BQ: the site with open zones, the state in which all are ready (chapter 21, BankLeads). -/
set_option linter.unusedVariables false
set_option linter.unusedSimpArgs false
namespace Go.Taq
open Go
-- neighbours are other cells
theorem Q9d {f:ApiFloor} (hf:RF f) {c d:Int} (hc:isC f c=true):nbr f c d≠c:=by
 intro h
 have hb:=p_bd hf hc
 have hk:=QF.1 hc
 have key:∀{x y z:Int},(x≠pX f c∨y≠pY f c∨z≠pZ f c)→Kz f x y z=c→False:=by
  intro x y z hne e
  unfold Kz at e
  by_cases hin:0≤x∧x<f.W∧0≤y∧y<f.H∧0≤z∧z<f.D
  ·have:=Q6o hf hin
   unfold Kz at this
   rw [e] at this
   obtain⟨h1,h2,h3⟩:=this
   rcases hne with g | g | g
   ·exact g h1.symm
   ·exact g h2.symm
   ·exact g h3.symm
  ·rw [if_neg hin] at e;omega
 unfold nbr at h
 rw [if_neg (by rw [hc];simp)] at h
 split at h
 ·exact key (.inl (by omega)) h
 split at h
 ·exact key (.inr (.inl (by omega))) h
 split at h
 ·exact key (.inl (by omega)) h
 split at h
 ·exact key (.inr (.inl (by omega))) h
 split at h
 ·exact key (.inr (.inr (by omega))) h
 split at h
 ·exact key (.inr (.inr (by omega))) h
 ·omega
theorem Q7C {f:ApiFloor} (hf:RF f) {c d:Int} (h:(nx f c d).2=true):(nx f c d).1≠c:=by
 have hc:=(Q1P hf h).1
 have:=Q9d hf hc (d:=d)
 unfold nx at h ⊢
 split
 ·rename_i h1;rw [if_pos h1] at h;cases h
 ·rename_i h1
  rw [if_neg h1] at h
  split
  ·rename_i h2;rw [if_pos h2] at h;cases h
  ·exact this
def opZ (z:Ql):Ql:={z with Shut:=[]}
def opR (r:ApiRobot):ApiRobot:={r with Mute:=0,Charge:=1000000,Rest:=imin r.Rest 10}
def opT (s:ApiSite):ApiSite:={s with Zones:=s.Zones.map opZ}
def opU (st:ApiState):ApiState:={st with Tick:=0,Robots:=st.Robots.map opR,Stuck:=[]}
section
variable {s:ApiSite} {st:ApiState}
theorem Q1N (hz:s.Zones.length≤1000) (hr:st.Robots.length≤1000) {post:ApiSite×ApiState→Prop} (hp:post (opT s,opU st)):KG s st post:=by
 unfold KG
 refine Jn.mk (fun l=>l=s.Zones.map opZ) (Kg (xs:=s.Zones) (by unfold maxLen;omega) (fun t:List Ql×Int=>t.2) (fun i t=>t.1=(s.Zones.take i).map opZ) rfl rfl (fun i z t hx ht hI=>?_) (fun t h=>by rw [List.take_length] at h;exact h)) (fun l hl=>⟨by simp;omega,?_⟩)
 ·have:=(List.getElem?_eq_some_iff.1 hx).1
  refine⟨by rw [hI];simp;omega,by rw [ht],?_⟩
  show t.1++[_]=_
  rw [Qz hx,List.map_append,hI];rfl
 subst hl
 have hid:∀i:Nat,(st.Robots.getD i default)=st.Robots.getD i default:=fun _=>rfl
 refine Jn.mk (fun l=>l=st.Robots.map opR) (Loop.inv st.Robots.length (fun i (t:List ApiRobot×Int)=>t.2=(i:Int)∧t.1=mset (fun j=>opR (st.Robots.getD j default)) st.Robots i) ⟨rfl,by rw [Q5t];rfl⟩ (fun i t hi hI=>?_) (fun t hI=>?_)) (fun l hl=>?_)
 ·obtain⟨ht,hI⟩:=hI
  have hx:=List.getElem?_eq_getElem hi
  generalize hr0:st.Robots[i]=r at hx
  have hg:=Q2Q (fun j=>opR (st.Robots.getD j default)) hx
  have hlen:t.1.length=st.Robots.length:=by rw [hI,Q4T _ _ (by omega)]
  refine Ite.t (by rw [ht,hlen];exact decide_eq_true (by omega)) ⟨r,by rw [hI];exact Qn ht hg,by show w64 (t.2+1)=_;rw [ht,QD (by omega) (by omega)];simp,?_⟩
  have hn:Int.toNat t.2=i:=by rw [ht];simp
  simp only [hn,List.set_set,hI]
  have:=Q2F (fun j=>opR (st.Robots.getD j default)) hi
  simp only [Xr hx] at this
  exact this
 ·obtain⟨ht,hI⟩:=hI
  have hlen:t.1.length=st.Robots.length:=by rw [hI,Q4T _ _ (by omega)]
  refine Ite.f (by rw [ht,hlen];exact decide_eq_false (by omega)) ?_
  show t.1=_
  rw [hI,Q2x,Q1e]
 ·subst hl;exact hp
theorem Q5c {α:Type} (g:α→α) (p:α→Bool) (h:∀x,p (g x)=p x) (l:List α):(l.map g).any p=l.any p:=by
 rw [List.any_map];congr 1;funext x;exact h x
theorem Q9B (l:List Ql) (c:Int):zAt (l.map opZ) c=zAt l c:=by
 unfold zAt;exact Q5c opZ _ (fun _=>rfl) l
theorem Q63 {i:Nat} {z:Ql} (h:(opT s).Zones[i]?=some z):∃z0,s.Zones[i]?=some z0∧z=opZ z0:=by
 have h':(s.Zones.map opZ)[i]?=some z:=h
 rw [List.getElem?_map] at h'
 cases e:s.Zones[i]? with
 | none=>rw [e] at h';cases h'
 | some z0=>rw [e] at h';exact⟨z0,rfl,(Option.some.inj h').symm⟩
theorem Q7f (h:Q1o s):Q1o (opT s) where
 fl:=h.fl
 z64:=by show (s.Zones.map opZ).length≤64;rw [List.length_map];exact h.z64
 zone:=fun i z hz=>by
  obtain⟨z0,h0,e⟩:=Q63 hz
  subst e
  have g:=h.zone i z0 h0
  have et:(opT s).Zones.take i=(s.Zones.take i).map opZ:=by show (s.Zones.map opZ).take i=_;rw [List.map_take]
  refine⟨g.named,fun y hy=>?_,g.ne,g.sp,g.keep,trivial,fun c hc=>?_,g.asc⟩
  ·rw [et] at hy
   obtain⟨y0,hy0,e⟩:=List.mem_map.1 hy
   subst e;exact g.name y0 hy0
  ·obtain⟨g1,g2,g3⟩:=g.cell c hc
   exact⟨g1,g2,by rw [et,Q9B];exact g3⟩
 sh3:=h.sh3
 r2:=h.r2
 ap:=h.ap
 sh:=h.sh
 rb:=h.rb
 room:=fun z hz=>by
  obtain⟨z0,h0,e⟩:=List.mem_map.1 (show z∈s.Zones.map opZ from hz)
  subst e;exact h.room z0 h0
 apart:=h.apart
 charger:=h.charger
theorem Q5m (h:Q1U s):Q1U (opT s):=⟨fun i z hz=>by
 obtain⟨z0,h0,e⟩:=Q63 hz
 subst e;exact h.zn i z0 h0,h.an,h.sn⟩
theorem Qah (k:QX s):QX (opT s):=⟨k.Floor,⟨by show (s.Zones.map opZ).length≤maxLen;rw [List.length_map];exact k.Zones.1,fun z hz=>by
 obtain⟨z0,h0,e⟩:=List.mem_map.1 (show z∈s.Zones.map opZ from hz)
 subst e
 have g:=k.Zones.2 z0 h0
 exact⟨g.Name,g.Cells,g.Speed,g.Keep,Q0S (by simp [opZ]) (fun x hx=>by cases hx)⟩⟩,k.Aparts,k.Shelves,k.Robots⟩
theorem Q8R (h:RSt s st):RSt (opT s) (opU st):=by
 have hm:(opU st).Robots.map CL=st.Robots.map CL:=by
  show (st.Robots.map opR).map CL=_
  rw [List.map_map];rfl
 have hst:RSt s (opU st):=Z7 h hm rfl rfl (by show (0:Int)≤0∧(0:Int)≤20000;omega) (fun i r hr=>by
  have hr':(st.Robots.map opR)[i]?=some r:=hr
  rw [List.getElem?_map] at hr'
  cases e:st.Robots[i]? with
  | none=>rw [e] at hr';cases hr'
  | some r0=>
   rw [e] at hr'
   have e2:=Option.some.inj hr'
   subst e2
   have g:=h.rob i r0 e
   refine⟨⟨by simp [opR],by simp [opR]⟩,⟨?_,?_⟩,by simp [opR],by simp [opR]⟩
   ·have:=g.rest;show 0≤imin r0.Rest 10;unfold imin;split <;> omega
   ·have:=g.rest;show imin r0.Rest 10≤20000;unfold imin;split <;> omega) h.dead h.deadA (fun i x hx=>by simp [opU] at hx) (fun i x y hx=>by simp [opU] at hx)
 exact⟨hst.tick,hst.sl,hst.rl,hst.pl,fun i r hr=>⟨(hst.rob i r hr).cell,(hst.rob i r hr).kind,(hst.rob i r hr).load,(hst.rob i r hr).charge,(hst.rob i r hr).rest,(hst.rob i r hr).mute,(hst.rob i r hr).own⟩,hst.shel,hst.ppl,hst.dead,hst.deadA,hst.stuck,hst.stuckA,hst.clash⟩
end
end Go.Taq
/- The mathematics, part BR: a tick in which one robot at most moves (chapter 21, BankLeads). -/
set_option linter.unusedVariables false
set_option linter.unusedSimpArgs false
namespace Go.Taq
open Go
def fN:QV:={Kind:=0,A:=0,N:=0}
theorem Q4w {f:Nat→List Int} {n:Nat}:∀m,n<m→(∀k,k≠n→f k=[])→(List.range m).flatMap f=f n
 | 0,h,_=>by omega
 | m+1,h,h0=>by
  rw [YC]
  by_cases e:m=n
  ·subst e
   have:(List.range m).flatMap f=[]:=List.flatMap_eq_nil_iff.2 fun i hi=>h0 i (by have:=List.mem_range.1 hi;omega)
   rw [this,List.nil_append]
  ·rw [Q4w m (by omega) h0,h0 m e,List.append_nil]
section
variable {T:ApiSite} {st u:ApiState}
theorem Q5z:Wa T u fN=u:=by
 unfold Wa
 split
 ·rfl
 ·simp [fN]
theorem Q6w:Xh T u fN=true:=by unfold Xh;rfl
theorem Q4D (acts:List Int):∀(k i:Nat) (u:ApiState),(runS T acts k i u).People=u.People∧(runS T acts k i u).Dead=u.Dead∧(runS T acts k i u).Stuck=u.Stuck∧(runS T acts k i u).Shelves.length=u.Shelves.length
 | 0,_,_=>⟨rfl,rfl,rfl,rfl⟩
 | k+1,i,u=>by
  obtain⟨_,_,g1,g2,g3,g4⟩:=GQ (s:=T) (st:=u) i (acts.getD i 0)
  obtain⟨h1,h2,h3,h4⟩:=Q4D acts k (i+1) (doA T u i (acts.getD i 0))
  exact⟨h1.trans g2,h2.trans g3,h3.trans g4,h4.trans g1⟩
structure Sim (T:ApiSite) (st:ApiState) (pos:Nat→Int) (u:ApiState):Prop where
 rst:RSt T u
 sz:SzN 12 u
 rl:u.Robots.length=st.Robots.length
 dead:u.Dead=st.Dead
 ppl:u.People=st.People
 stuck:u.Stuck=[]
 tick:0≤u.Tick
 rob:∀(k:Nat) r',u.Robots[k]?=some r'→∃r0,st.Robots[k]?=some r0∧r'.Load=r0.Load∧r'.Dead=r0.Dead∧r'.Mute=0∧0≤r'.Rest∧r'.Rest≤10∧(r'.Dead=false→1000000-21*u.Tick≤r'.Charge)∧r'.Cell=pos k
 shel:∀(m:Nat) c,carB st m=false→u.Shelves[m]?=some c→st.Shelves[m]?=some c
structure Free (T:ApiSite) (u:ApiState) (n:Nat) (r:ApiRobot) (y:Int):Prop where
 dead:y∉u.Dead
 ppl:y∉u.People
 rob:∀(k:Nat) r',k≠n→u.Robots[k]?=some r'→r'.Cell≠y
 shel:0≤r.Load→∀(m:Nat) c,u.Shelves[m]?=some c→carB u m=false→c≠y
theorem Q4E (hf:RF T.Floor) (h:RSt T u) {n:Nat} {r:ApiRobot} (hx:u.Robots[n]?=some r) {y:Int} (hy:isC T.Floor y=true) (hne:r.Cell≠y) (hF:Free T u n r y):low y∉allS u∧(0≤r.Load→high y∉allS u):=by
 obtain⟨y1,y2⟩:=Yl hf hy
 have rc:∀(k:Nat) r',u.Robots[k]?=some r'→r'.Cell≠y:=fun k r' hk=>by
  by_cases e:k=n
  ·subst e;rw [hx] at hk;cases hk;exact hne
  ·exact hF.rob k r' e hk
 have robs:∀x,x∈(List.range u.Robots.length).flatMap (fun i=>slR (u.Robots.getD i default))→x≠2*y∧x≠2*y+1:=fun x hm=>by
  obtain⟨k,hk,hxk⟩:=List.mem_flatMap.1 hm
  have hk':=List.getElem?_eq_getElem (List.mem_range.1 hk)
  rw [Xr hk'] at hxk
  generalize u.Robots[k]'_=r' at hk' hxk
  obtain⟨l1,l2⟩:=Yl hf (h.rob k r' hk').cell
  have:=rc k r' hk'
  unfold slR at hxk
  split at hxk
  ·simp at hxk;rcases hxk with e | e <;> rw [e] <;> omega
  ·simp at hxk;rw [hxk];omega
 have shl:∀x,x∈(List.range u.Shelves.length).flatMap (slS u)→x≠2*y∧(0≤r.Load→x≠2*y+1):=fun x hm=>by
  obtain⟨k,hk,hxk⟩:=List.mem_flatMap.1 hm
  have hk':=List.getElem?_eq_getElem (List.mem_range.1 hk)
  have hd:u.Shelves.getD k 0=u.Shelves[k]'(List.mem_range.1 hk):=KR hk'
  unfold slS at hxk
  split at hxk
  ·cases hxk
  ·rename_i hc
   rw [hd] at hxk
   generalize u.Shelves[k]'_=c at hk' hxk
   obtain⟨l1,l2⟩:=Yl hf (h.cells c (List.mem_of_getElem? hk'))
   simp at hxk
   rw [hxk,l2]
   refine⟨by omega,fun h0=>?_⟩
   have:=hF.shel h0 k c hk' (by simpa using hc)
   omega
 have ppl:∀x,x∈(List.range u.People.length).flatMap (fun i=>slP (u.People.getD i 0))→x≠2*y∧x≠2*y+1:=fun x hm=>by
  obtain⟨k,hk,hxk⟩:=List.mem_flatMap.1 hm
  have hk':=List.getElem?_eq_getElem (List.mem_range.1 hk)
  have hd:u.People.getD k 0=u.People[k]'(List.mem_range.1 hk):=KR hk'
  rw [hd] at hxk
  generalize u.People[k]'_=c at hk' hxk
  have hc:isC T.Floor c=true:=Q5v (by have:=h.ppl k c hk';omega)
  obtain⟨l1,l2⟩:=Yl hf hc
  have:c≠y:=fun e=>hF.ppl (e▸List.mem_of_getElem? hk')
  unfold slP at hxk
  simp at hxk;rcases hxk with e | e <;> rw [e] <;> omega
 unfold allS
 refine⟨fun hm=>?_,fun h0 hm=>?_⟩
 ·rw [y1] at hm
  rcases List.mem_append.1 hm with hm | hm
  ·rcases List.mem_append.1 hm with hm | hm
   ·exact (robs _ hm).1 rfl
   ·exact (shl _ hm).1 rfl
  ·exact (ppl _ hm).1 rfl
 ·rw [y2] at hm
  rcases List.mem_append.1 hm with hm | hm
  ·rcases List.mem_append.1 hm with hm | hm
   ·exact (robs _ hm).2 rfl
   ·exact (shl _ hm).2 h0 rfl
  ·exact (ppl _ hm).2 rfl
theorem Q4u {t ch a:Int} {l:Bool} (hc:21≤ch∧ch≤1000000) (ha:0≤a∧a<9):aft t ch a l=(ch-cst t a l,0):=by
 have:=Q2c t a l
 unfold aft;rw [if_neg (by omega),if_neg (by omega),if_neg (by omega)]
theorem Q8W (hf:RF T.Floor) (hs:∀z,z∈T.Zones→z.Shut=[]) {r:ApiRobot} {a y:Int} (hm:mvB a=true) (hd:r.Dead=false) (hmu:r.Mute=0) (hre:r.Rest=0) (hc:21≤r.Charge∧r.Charge≤1000000) (hnx:nx T.Floor r.Cell (a-1)=(y,true)) (hst:u.Stuck=[]) (hdd:y∉u.Dead) (h1:low y∉allS u) (h2:0≤r.Load→high y∉allS u):legR T u r a=0:=by
 have hm':=Gd.1 hm
 unfold legR
 rw [if_neg (by omega),if_neg (by omega),if_neg (by rw [hd,hmu];simp),if_neg (by rw [hre];simp),if_neg (by rw [Q4u hc (by omega)];simp),if_pos hm]
 have hy:isC T.Floor y=true:=by have:=Q1P hf (c:=r.Cell) (d:=a-1) (by rw [hnx]);rw [hnx] at this;exact this.2.1
 unfold movS
 rw [hnx]
 rw [if_neg (by simpa using hdd),if_neg (by rw [hst];simp)]
 have ho:opn T y u.Tick=true:=by
  unfold opn;rw [hy]
  by_cases hz:zn T y<0
  ·rw [decide_eq_true hz];rfl
  ·have:=hs _ (List.mem_of_getElem? (Qe (Q4F (s:=T) (c:=y) (by omega))).2.2)
   rw [this];simp
 rw [if_neg (by rw [ho];simp),if_neg]
 intro h
 simp only [Bool.or_eq_true,Bool.and_eq_true,decide_eq_true_eq,List.contains_iff_mem] at h
 rcases h with h | ⟨h,h'⟩
 ·exact h1 h
 ·exact h2 h h'
theorem Q7u {acts:List Int}:∀(k i:Nat),(∀j,i≤j→j<i+k→legS T u j (acts.getD j 0)=0)→fstB T u acts k i=0
 | 0,_,_=>rfl
 | k+1,i,h=>by
  unfold fstB;rw [if_pos (h i (by omega) (by omega))]
  exact Q7u k (i+1) (fun j h1 h2=>h j (by omega) (by omega))
structure Like (u v:ApiState) (n:Nat):Prop where
 cl:v.Robots.map CL=u.Robots.map CL
 rob:v.Robots[n]?=u.Robots[n]?
 sh:v.Shelves=u.Shelves
 pp:v.People=u.People
 dd:v.Dead=u.Dead
 sk:v.Stuck=u.Stuck
theorem Q40 {acts:List Int} {n:Nat} {r:ApiRobot} (hx:u.Robots[n]?=some r) (h0:∀k,k≠n→acts.getD k 0=0) (hg:∀v,Like u v n→legR T v r (acts.getD n 0)=0):∀(k i:Nat) (v:ApiState),i+k=u.Robots.length→v.Robots.length=u.Robots.length→(i≤n→Like u v n)→seqB T acts k i v=0
 | 0,_,_,_,_,_=>rfl
 | k+1,i,v,hi,hl,hL=>by
  unfold seqB
  have hdl:=(GQ (s:=T) (st:=v) i (acts.getD i 0)).2.1
  by_cases e:i=n
  ·subst e
   have hv:=hL (Nat.le_refl _)
   have hxv:v.Robots[i]?=some r:=by rw [hv.rob];exact hx
   have hleg:legS T v i (acts.getD i 0)=0:=by rw [Q2X rfl hxv];exact hg v hv
   rw [if_pos hleg]
   unfold doA at hdl;rw [if_pos hleg] at hdl
   exact Q40 hx h0 hg k (i+1) _ (by omega) (by rw [hdl];exact hl) (fun h=>by omega)
  ·rw [h0 i e]
   have hst:legS T v i 0=0:=Q1r ⟨by omega,by omega⟩
   rw [if_pos hst]
   have hdl2:=(GQ (s:=T) (st:=v) i 0).2.1
   unfold doA at hdl2;rw [if_pos hst] at hdl2
   refine Q40 hx h0 hg k (i+1) _ (by omega) (by rw [hdl2];exact hl) (fun h=>?_)
   have hv:=hL (by omega)
   have hxi:=List.getElem?_eq_getElem (show i<v.Robots.length by omega)
   generalize v.Robots[i]'_=r1 at hxi
   rw [Q5x rfl hxi]
   unfold doR
   split
   ·exact hv
   ·have hn:nwS T v r1 0=v.Shelves:=by unfold nwS;rw [if_neg (by simp [mvB])]
    refine⟨?_,?_,by show nwS T v r1 0=_;rw [hn];exact hv.sh,hv.pp,hv.dd,hv.sk⟩
    ·show (v.Robots.set i (nwR T v r1 0)).map CL=_
     rw [Q0o hxi (by unfold nwR;rw [if_neg (by simp [mvB])]) (by unfold nwR;rw [if_neg (by simp [mvB])];simp [lod])]
     exact hv.cl
    ·show (v.Robots.set i (nwR T v r1 0))[n]?=_
     rw [List.getElem?_set_ne (by omega)];exact hv.rob
theorem Q6M {r:ApiRobot} (hd:r.Dead=false):actR T u r 0={r with Load:=r.Load,Charge:=chg u r 0}:=by
 unfold actR nwR;rw [if_neg (by rw [hd];simp),if_neg (by simp [mvB])];simp [lod]
theorem Q4X {r:ApiRobot} {a:Int} (hc:21≤r.Charge∧r.Charge≤1000000) (ha:0≤a∧a<9):r.Charge-21≤chg u r a:=by
 have:=Q2c u.Tick a (decide (r.Load≥0))
 unfold chg;rw [Q4u hc ha,if_pos rfl];omega
theorem Q72 {pos:Nat→Int} (hf:RF T.Floor) (hs:RS T) (hsp:∀z,z∈T.Zones→z.Speed≤10∧z.Shut=[]) (h:Sim T st pos u) (ht:u.Tick≤10000) {n:Nat} {r:ApiRobot} (hx:u.Robots[n]?=some r) {acts:List Int} (hl:acts.length=u.Robots.length) (h0:∀k,k≠n→acts.getD k 0=0) {y:Int}
  (ha:(acts.getD n 0=0∧y=r.Cell)∨(r.Rest=0∧r.Dead=false∧mvB (acts.getD n 0)=true∧nx T.Floor r.Cell (acts.getD n 0-1)=(y,true)∧Free T u n r y)):
  ∃u',Q6b T u acts fN=(u',0)∧Sim T st (fun k=>if k=n then y else pos k) u'∧u'.Tick=u.Tick+1∧∃r',u'.Robots[n]?=some r'∧r'.Cell=y∧(acts.getD n 0=0→r'.Rest=imax (r.Rest-1) 0):=by
 have hnl:=(List.getElem?_eq_some_iff.1 hx).1
 obtain⟨r00,_,_,_,hmu,hre0,hre1,hch,hcell⟩:=h.rob n r hx
 have hrr:=h.rst.rob n r hx
 have hgl:∀v,Like u v n→legR T v r (acts.getD n 0)=0:=fun v hv=>by
  rcases ha with ⟨e,_⟩ | ⟨g1,g2,g3,g4,g5⟩
  ·rw [e];unfold legR;rw [if_neg (by omega),if_pos rfl]
  ·have hy:isC T.Floor y=true:=by have:=Q1P hf (c:=r.Cell) (d:=acts.getD n 0-1) (by rw [g4]);rw [g4] at this;exact this.2.1
   have hne:r.Cell≠y:=by have:=Q7C hf (c:=r.Cell) (d:=acts.getD n 0-1) (by rw [g4]);rw [g4] at this;exact fun e=>this e.symm
   obtain⟨f1,f2⟩:=Q4E hf h.rst hx hy hne g5
   have eA:=Q6j hv.cl hv.sh hv.pp
   have:=hch g2
   exact Q8W hf (fun z hz=>(hsp z hz).2) g3 g2 hmu g1 ⟨by omega,hrr.charge.2⟩ g4 (by rw [hv.sk];exact h.stuck) (by rw [hv.dd];exact g5.dead) (by rw [eA];exact f1) (fun hld=>by rw [eA];exact f2 hld)
 have hseq:seqB T acts acts.length 0 u=0:=by
  rw [hl]
  exact Q40 hx h0 hgl _ 0 u (by omega) rfl (fun _=>⟨rfl,rfl,rfl,rfl,rfl,rfl⟩)
 have hchk:chkS T u acts=0:=by
  unfold chkS
  rw [if_neg (by omega),if_neg (by omega)]
  have hfst:fstB T u acts acts.length 0=0:=Q7u _ 0 (fun j _ hj=>by
   by_cases e:j=n
   ·subst e;rw [Q2X rfl hx];exact hgl u ⟨rfl,rfl,rfl,rfl,rfl,rfl⟩
   ·rw [h0 j e];exact Q1r ⟨by omega,by omega⟩)
  rw [if_neg (by rw [hfst];simp)]
  have hmv:(List.range u.Robots.length).flatMap (mvS T.Floor u acts)=mvS T.Floor u acts n:=Q4w _ hnl (fun k hk=>by
   unfold mvS;rw [h0 k hk,if_pos (by simp [mvB])])
  rw [if_neg,hseq]
  unfold movL
  rw [hmv]
  simp only [Decidable.not_not]
  rcases ha with ⟨e,_⟩ | ⟨g1,g2,g3,g4,g5⟩
  ·have:mvS T.Floor u acts n=[]:=by unfold mvS;rw [e,if_pos (by simp [mvB])]
   rw [this,List.append_nil];exact h.rst.clash
  ·have hy:isC T.Floor y=true:=by have:=Q1P hf (c:=r.Cell) (d:=acts.getD n 0-1) (by rw [g4]);rw [g4] at this;exact this.2.1
   have hne:r.Cell≠y:=by have:=Q7C hf (c:=r.Cell) (d:=acts.getD n 0-1) (by rw [g4]);rw [g4] at this;exact fun e=>this e.symm
   obtain⟨f1,f2⟩:=Q4E hf h.rst hx hy hne g5
   obtain⟨y1,y2⟩:=Yl hf hy
   have:mvS T.Floor u acts n=slAt r y:=by
    unfold mvS;rw [Xr hx,if_neg (by rw [g2,g3];simp),g4,if_pos rfl]
   rw [this]
   refine List.nodup_append.2 ⟨h.rst.clash,?_,fun a ha b hb e=>?_⟩
   ·unfold slAt;split
    ·simp;omega
    ·simp
   ·subst e
    unfold slAt at hb
    split at hb
    ·rename_i hld
     simp at hb
     rcases hb with e | e
     ·subst e;exact f1 ha
     ·subst e;exact f2 hld ha
    ·simp at hb;subst hb;exact f1 ha
 have hstep:Q6b T u acts fN=(tickS T u acts fN,0):=by
  unfold Q6b
  rw [if_neg (by rw [hchk];simp),if_neg (by rw [Q6w];simp)]
 have htk:tickS T u acts fN=ZP u (runS T acts acts.length 0 u):=by unfold tickS;rw [Q5z]
 obtain⟨k1,k2,k3,k4⟩:=Q1n (n:=12) (by omega) hf hs acts acts.length 0 u (by omega) h.rst h.sz
 obtain⟨m1,m2,m3,m4⟩:=Q4D (T:=T) acts acts.length 0 u
 have rE:RSt T (ZP u (runS T acts acts.length 0 u)):=Q6L k1 k4.symm (by rw [k3];omega)
 have zE:SzN 12 (ZP u (runS T acts acts.length 0 u)):=Q7e k2
 -- each robot
 have rob:∀(j:Nat) q,u.Robots[j]?=some q→∃q',(ZP u (runS T acts acts.length 0 u)).Robots[j]?=some q'∧q'.Load=q.Load∧q'.Dead=q.Dead∧q'.Mute=0∧0≤q'.Rest∧q'.Rest≤10∧(q'.Dead=false→1000000-21*(u.Tick+1)≤q'.Charge)∧q'.Cell=(if j=n then y else q.Cell)∧(acts.getD j 0=0→q'.Rest=imax (q.Rest-1) 0):=fun j q hq=>by
  have hj:=(List.getElem?_eq_some_iff.1 hq).1
  obtain⟨q0,_,_,_,qmu,qre0,qre1,qch,_⟩:=h.rob j q hq
  have qrr:=h.rst.rob j q hq
  obtain⟨v,b,_,b2,b3,b4,b5⟩:=Q6g (s:=T) (acts:=acts) acts.length 0 u (by omega) j q (by omega) (by omega) hq
  have hb:=b2 hseq
  refine⟨_,Q6T b5,?_⟩
  rw [Xr hq]
  by_cases hz:acts.getD j 0=0
  ·have hb0:b=0:=hb.trans hz
   subst hb0
   have hcell':(actR T v q 0).Cell=q.Cell:=Q05.1
   have hy:(if j=n then y else q.Cell)=q.Cell:=by
    split
    ·rename_i e
     subst e;rw [hx] at hq;cases hq
     rcases ha with ⟨_,e⟩ | ⟨_,_,g3,_⟩
     ·exact e
     ·rw [hz] at g3;exact absurd g3 (by decide)
    ·rfl
   have hrest:(actR T v q 0).Rest=q.Rest:=by unfold actR nwR;split;rfl;rw [if_neg (by simp [mvB])]
   have hmute:(actR T v q 0).Mute=q.Mute:=by unfold actR nwR;split;rfl;rw [if_neg (by simp [mvB])]
   refine⟨Q05.2.1,Q05.2.2,?_,?_,?_,fun hdd=>?_,by rw [hy];exact hcell',fun _=>?_⟩
   ·show imax ((actR T v q 0).Mute-1) 0=0
    rw [hmute,qmu];rfl
   ·show 0≤(if (actR T v q 0).Cell=q.Cell then imax ((actR T v q 0).Rest-1) 0 else _)
    rw [if_pos hcell',hrest];unfold imax;split <;> omega
   ·show (if (actR T v q 0).Cell=q.Cell then imax ((actR T v q 0).Rest-1) 0 else _)≤10
    rw [if_pos hcell',hrest];unfold imax;split <;> omega
   ·have hqd:q.Dead=false:=by have:(actR T v q 0).Dead=false:=hdd;rw [Q05.2.2] at this;exact this
    have h1:=qch hqd
    have h2:=Q4X (u:=v) (r:=q) (a:=0) ⟨by omega,qrr.charge.2⟩ (by omega)
    show 1000000-21*(u.Tick+1)≤(actR T v q 0).Charge
    rw [Q6M hqd]
    show _≤chg v q 0
    omega
   ·show (if (actR T v q 0).Cell=q.Cell then imax ((actR T v q 0).Rest-1) 0 else _)=_
    rw [if_pos hcell',hrest]
  ·have hjn:j=n:=Classical.byContradiction fun e=>hz (h0 j e)
   subst hjn
   rw [hx] at hq;cases hq
   rcases ha with ⟨e,_⟩ | ⟨g1,g2,g3,g4,g5⟩
   ·exact absurd e hz
   have hm':=Gd.1 g3
   have hne:y≠r.Cell:=by have:=Q7C hf (c:=r.Cell) (d:=acts.getD j 0-1) (by rw [g4]);rw [g4] at this;exact this
   have hact:actR T v r b={r with Cell:=y,Load:=r.Load,Charge:=chg v r b,Rest:=spd T y-1}:=by
    unfold actR nwR
    rw [if_neg (by rw [g2];simp),hb,if_pos (by rw [g3,g4];rfl),g4,Q7n g3]
   have hspd:1≤spd T y∧spd T y≤10:=by
    refine⟨(Q4V hs y).1,?_⟩
    unfold spd;split
    ·omega
    ·exact (hsp _ (List.mem_of_getElem? (Qe (Q4F (s:=T) (c:=y) (by omega))).2.2)).1
   rw [hact]
   refine⟨rfl,rfl,?_,?_,?_,fun hdd=>?_,by rw [if_pos rfl];rfl,fun e=>absurd e hz⟩
   ·show imax (r.Mute-1) 0=0
    rw [hmu];rfl
   ·show 0≤(if y=r.Cell then _ else spd T y-1)
    rw [if_neg hne];omega
   ·show (if y=r.Cell then _ else spd T y-1)≤10
    rw [if_neg hne];omega
   ·have h1:=hch g2
    have h2:=Q4X (u:=v) (r:=r) (a:=b) ⟨by omega,hrr.charge.2⟩ (by rw [hb];omega)
    show _≤chg v r b
    omega
 refine⟨_,by rw [hstep,htk],⟨rE,zE,?_,m2.trans h.dead,m1.trans h.ppl,?_,?_,fun j q' hq'=>?_,fun m c hm hc=>?_⟩,?_,?_⟩
 ·show ((List.range (runS T acts acts.length 0 u).Robots.length).map _).length=_
  rw [List.length_map,List.length_range,k4];exact h.rl
 ·show ((runS T acts acts.length 0 u).Stuck.map decL).filter _=[]
  rw [m3,h.stuck];rfl
 ·show 0≤(runS T acts acts.length 0 u).Tick+1
  have:=h.tick;omega
 ·have hj:j<u.Robots.length:=by
   have h1:=(List.getElem?_eq_some_iff.1 hq').1
   have h2:(ZP u (runS T acts acts.length 0 u)).Robots.length=u.Robots.length:=by
    show ((List.range (runS T acts acts.length 0 u).Robots.length).map _).length=_
    rw [List.length_map,List.length_range,k4]
   omega
  have hq:=List.getElem?_eq_getElem hj
  generalize u.Robots[j]=q at hq
  obtain⟨q1,e1,p1,p2,p3,p4,p5,p6,p7,_⟩:=rob j q hq
  rw [hq'] at e1;cases e1
  obtain⟨r0,e0,w1,w2,_,_,_,_,w7⟩:=h.rob j q hq
  refine⟨r0,e0,p1.trans w1,p2.trans w2,p3,p4,p5,fun hd=>?_,?_⟩
  ·have:=p6 hd
   show 1000000-21*((runS T acts acts.length 0 u).Tick+1)≤_
   rw [k3];exact this
  ·rw [p7];split
   ·rfl
   ·exact w7
 ·have hml:m<u.Shelves.length:=by
   have h1:=(List.getElem?_eq_some_iff.1 hc).1
   have h2:(ZP u (runS T acts acts.length 0 u)).Shelves.length=u.Shelves.length:=m4
   omega
  have hcu:=List.getElem?_eq_getElem hml
  generalize u.Shelves[m]=c0 at hcu
  obtain⟨c',e1,e2⟩:=Q3F (s:=T) (acts:=acts) acts.length 0 u (by omega) c0 hcu
  have e3:(ZP u (runS T acts acts.length 0 u)).Shelves[m]?=some c':=e1
  rw [hc] at e3;cases e3
  rcases e2 with e2 | ⟨j,q,_,_,hq,hld,_⟩
  ·subst e2;exact h.shel m _ hm hcu
  ·exfalso
   obtain⟨r0,e0,w1,_⟩:=h.rob j q hq
   have:carB st m=true:=Z4.2 ⟨j,r0,e0,by rw [←w1];exact hld⟩
   rw [hm] at this;cases this
 ·show (runS T acts acts.length 0 u).Tick+1=_
  rw [k3]
 ·obtain⟨q1,e1,_,_,_,_,_,_,p7,p8⟩:=rob n r hx
  exact⟨q1,e1,by rw [p7,if_pos rfl],p8⟩
end
end Go.Taq
/- The mathematics, part BS: BankLeads. -/
set_option linter.unusedVariables false
set_option linter.unusedSimpArgs false
namespace Go.Taq
open Go
abbrev T7:=Int×List Int×List ApiRobot×List Int×List Int×List ApiStuck×Int
def mk7 (t:T7):ApiState:={Tick:=t.1,Shelves:=t.2.1,Robots:=t.2.2.1,People:=t.2.2.2.1,Dead:=t.2.2.2.2.1,Stuck:=t.2.2.2.2.2.1}
theorem Q0d {T:ApiSite} (hf:RF T.Floor) {a b d:Int} (d0:0≤d) (d6:d<6) (hd:nx T.Floor a d=(b,true)) {post:Int→Prop} (hp:∀d',0≤d'→d'<6→nx T.Floor a d'=(b,true)→post (1+d')):Kl T a b post:=by
 unfold Kl
 refine Jn.mk (fun _=>False) (Loop.inv 6 (fun i (t:Int)=>t=(i:Int)∧∀d':Int,0≤d'→d'<i→nx T.Floor a d'≠(b,true)) ⟨rfl,fun d' h1 h2=>by omega⟩ (fun i t hi hI=>?_) (fun t hI=>?_)) (fun _ h=>h.elim)
 ·obtain⟨ht,hI⟩:=hI
  subst ht
  refine Ite.lt (by omega) (Gy hf (Jn.mk (fun x=>x=decide (nx T.Floor a (i:Int)=(b,true))) ?_ (fun x hx=>Ite.mk (fun h=>?_) (fun h=>⟨by rw [QD (by omega) (by omega)];simp,fun d' h1 h2=>?_⟩))))
  ·obtain⟨c,e⟩:=nx T.Floor a (i:Int)
   refine Ite.mk (fun h=>?_) (fun h=>?_)
   ·have h':e=true:=h
    subst h'
    show (c == b)=_
    rw [Bool.eq_iff_iff];simp
   ·have h':e=false:=h
    subst h'
    simp
  ·rw [h] at hx
   rw [QD (by omega) (by omega)]
   exact hp i (by omega) (by omega) (of_decide_eq_true hx.symm)
  ·rw [h] at hx
   by_cases e:d'=i
   ·subst e;exact of_decide_eq_false hx.symm
   ·exact hI d' h1 (by omega)
 ·obtain⟨ht,hI⟩:=hI
  exact absurd hd (hI d d0 (by omega))
section
variable {s:ApiSite} {st:ApiState} {homes:List Int}
def posG (st:ApiState) (homes:List Int) (g:List Int) (k:Nat):Int:=if (k:Int)∈g then homes.getD k 0 else (st.Robots.getD k default).Cell
theorem Sim.pos {T:ApiSite} {p q:Nat→Int} {u:ApiState} (h:Sim T st p u) (he:∀k,p k=q k):Sim T st q u:=by
 have:p=q:=funext he
 rw [←this];exact h
theorem Q6Q (h:RSt s st) (hz:SzN 12 st):Sim (opT s) st (posG st homes []) (opU st) where
 rst:=Q8R h
 sz:=⟨hz.sh,by show (st.Robots.map opR).length≤20;rw [List.length_map];exact hz.rb,hz.pp,hz.dd,by show 0≤12;omega⟩
 rl:=by show (st.Robots.map opR).length=_;rw [List.length_map]
 dead:=rfl
 ppl:=rfl
 stuck:=rfl
 tick:=by show (0:Int)≤0;omega
 rob:=fun k r' hr=>by
  have hr':(st.Robots.map opR)[k]?=some r':=hr
  rw [List.getElem?_map] at hr'
  cases e:st.Robots[k]? with
  | none=>rw [e] at hr';cases hr'
  | some r0=>
   rw [e] at hr'
   have e2:=Option.some.inj hr'
   subst e2
   have g:=(h.rob k r0 e).rest
   refine⟨r0,rfl,rfl,rfl,rfl,?_,?_,fun _=>?_,?_⟩
   ·show 0≤imin r0.Rest 10;unfold imin;split <;> omega
   ·show imin r0.Rest 10≤10;unfold imin;split <;> omega
   ·show 1000000-21*(0:Int)≤1000000;omega
   ·unfold posG;rw [if_neg (by simp),Xr e];rfl
 shel:=fun m c _ hc=>hc
theorem Q6F {o:List Int} {i c:Int} (hc:c∉avL (sitO s st homes o) i) (hne:c≠(rAt st i).Cell) (hld:0≤(rAt st i).Load) {m:Nat} (hm:m<st.Shelves.length) (hca:carB st m=false):c≠st.Shelves.getD m 0:=fun e=>hc (by
 unfold avL
 refine List.mem_filter.2 ⟨List.mem_append_right _ ?_,by show (!(c == (rAt st i).Cell))=true;simpa using hne⟩
 show c∈if (rAt st i).Load≥0 then _ else _
 rw [if_pos hld]
 refine List.mem_flatMap.2 ⟨m,List.mem_range.2 hm,?_⟩
 unfold avS
 have:carr (sitO s st homes o).st m<0:=by show carr st m<0;unfold carB at hca;have:=of_decide_eq_false hca;omega
 rw [if_pos this]
 show c∈[st.Shelves.getD m 0]
 rw [e];simp)
theorem Q76 {T:ApiSite} {p:Nat→Int} {u:ApiState} (h:Sim T st p u) {m:Nat} (hm:carB u m=false):carB st m=false:=by
 cases e:carB st m with
 | false=>rfl
 | true=>
  obtain⟨k,z,hz,hl⟩:=Z4.1 e
  have hk:k<u.Robots.length:=by rw [h.rl];exact (List.getElem?_eq_some_iff.1 hz).1
  have hx:=List.getElem?_eq_getElem hk
  obtain⟨r0,h0,w,_⟩:=h.rob k _ hx
  rw [hz] at h0;cases h0
  have:carB u m=true:=Z4.2 ⟨k,_,hx,by rw [w];exact hl⟩
  rw [hm] at this;cases this
theorem Q78 {o:List Int} {n:Nat} {r0 r:ApiRobot} {u:ApiState} {q y:Int} (hx:st.Robots[n]?=some r0) (hh:homes.length=st.Robots.length) (hlive:∀x,x∈o→Kj st x=true) (h:Sim (opT s) st (fun k=>if k=n then q else posG st homes o k) u) (hr:u.Robots[n]?=some r)
  (hav:y∉avL (sitO s st homes o) n) (hne:y≠r0.Cell):Free (opT s) u n r y:=by
 have hra:rAt st (n:Int)=r0:=by unfold rAt;exact Q0u rfl hx
 obtain⟨a1,a2,a3⟩:=Q9p (s:=s) (st:=st) (homes:=homes) (o:=o) (i:=n) hav (by rw [hra];exact hne)
 refine⟨by rw [h.dead];exact a1,by rw [h.ppl];exact a2,fun k r' hk hr'=>?_,fun hld m c hc hcb=>?_⟩
 ·obtain⟨z,hz,_,_,_,_,_,_,hp⟩:=h.rob k r' hr'
  rw [hp,if_neg hk]
  have hkl:=(List.getElem?_eq_some_iff.1 hz).1
  have g:=a3 k hkl
  unfold avF at g
  rw [if_neg (by omega)] at g
  unfold posG
  split
  ·intro e
   exact g (by rw [←e];exact List.mem_cons_self ..)
  ·rename_i hno
   intro e
   refine g (List.mem_cons_of_mem _ ?_)
   have:hB (sitO s st homes o) k≠true:=fun hb=>hno (YO.1 hb).1
   rw [if_neg this]
   show y∈[(st.Robots.getD k default).Cell]
   rw [e];simp
 ·obtain⟨z,hz,hl,_⟩:=h.rob n r hr
  rw [hx] at hz;cases hz
  have hcs:=Q76 h hcb
  have hs:=h.shel m c hcs hc
  have:=Q6F (s:=s) (st:=st) (homes:=homes) (o:=o) (i:=n) hav (by rw [hra];exact hne) (by rw [hra];omega) (List.getElem?_eq_some_iff.1 hs).1 hcs
  rw [KR hs] at this
  exact fun e=>this e.symm
end
theorem set_getD_self {l:List Int} {n:Nat} {a:Int} (h:n<l.length):(l.set n a).getD n 0=a:=by
 rw [List.getD_eq_getElem?_getD,List.getElem?_set_self h];rfl
theorem Q4s {l:List Int} {n k:Nat} {a:Int} (h:k≠n):(l.set n a).getD k 0=l.getD k 0:=by
 rw [List.getD_eq_getElem?_getD,List.getElem?_set_ne (Ne.symm h),List.getD_eq_getElem?_getD]
theorem WH (s:ApiSite) (ks:QX s) (st:ApiState) (k:QM st) (homes:List Int) (kh:(OkL I64) homes):KJ s st homes (fun y=>y=true):=by
 unfold KJ
 refine Q2B (Jn.mk (fun b=>b=false→Q7r s st homes∧Q1U s∧Q51 s st homes∧FewS s 24 20∧st.Robots.length≤4) (Q2I ks (by omega) (Ite.f rfl fun h=>by cases h) (fun h hn hh ha=>Ite.t rfl (fun h1=>⟨h,hn,hh,ha,by simp at h1;omega⟩))) (fun b hb=>Ite.mk (fun _=>rfl) (fun h=>?_)))
 obtain⟨hF,hN,hH,hfew,r4⟩:=hb h
 have hf:=hF.r.fl
 have hz:=hF.f12.sz
 have hzN:=hF.f12.szN
 have hl:=hF.hl
 have f1:=hfew.zones;have f2:=hfew.aparts;have f3:=hfew.kind
 refine Jn.mk (fun _=>∀z,z∈s.Zones→z.Speed≤10) (Kg (xs:=s.Zones) (by unfold maxLen;omega) (fun t:Int=>t) (fun i t=>∀z,z∈s.Zones.take i→z.Speed≤10) rfl (fun z hz=>by simp at hz) (fun i z t hx ht hI=>?_) (fun t h=>by rw [List.take_length] at h;exact h)) (fun _ hspd=>?_)
 ·refine Ite.mk (fun _=>rfl) (fun h1=>⟨by rw [ht],fun y hy=>?_⟩)
  rw [Qz hx] at hy
  rcases List.mem_append.1 hy with hy | hy
  ·exact hI y hy
  ·simp at hy;subst hy;simp at h1;exact h1
 refine Zz hf hz k hl (fun o b hc _ hs hball=>Ite.mk (fun _=>rfl) (fun hb2=>?_))
 have hb3:b=true:=by simpa using hb2
 have hall:=hball.1 hb3
 have hol:=hc.len hz
 obtain⟨hond,holv⟩:=hc.nodup
 refine Q1N (by omega) (by omega) ?_
 have rT:=Q7f hF.r
 have kT:=Qah ks
 have hsT:RS (opT s):=rT.rs
 have sim0:=Q6Q (homes:=homes) hF.rst hzN
 have hspT:∀z,z∈(opT s).Zones→z.Speed≤10∧z.Shut=[]:=fun z hz=>by
  obtain⟨z0,h0,e⟩:=List.mem_map.1 (show z∈s.Zones.map opZ from hz)
  subst e;exact⟨hspd z0 h0,rfl⟩
 refine Jn.mk (fun b=>b=false) (Q14 (s:=opT s) kT (by show s.Aparts.length≤_;omega) rT (Q5m hN) (Ite.t rfl (Q3x (s:=opT s) (st:=opU st) sim0.rst (sim0.sz.sz (by omega)) rfl))) (fun b4 hb4=>Ite.f hb4 ?_)
 refine Jn.mk (fun t:Int×List Int×List ApiRobot×List Int×List Int×List ApiStuck=>Sim (opT s) st (posG st homes o) (mk6 t)) (Loop.inv o.length (fun i (t:T7)=>t.2.2.2.2.2.2=(i:Int)∧Sim (opT s) st (posG st homes (o.take i)) (mk7 t)∧(mk7 t).Tick≤274*i) ⟨rfl,sim0,by show (0:Int)≤_;omega⟩ (fun i t hi hI=>?_) (fun t hI=>?_)) (fun t hS=>?_)
 ·obtain⟨ht,hS,hTk⟩:=hI
  have hx:=List.getElem?_eq_getElem hi
  have hsplit:o=o.take i++o[i] :: o.drop (i+1):=by
   conv=>lhs;rw [←List.take_append_drop i o]
   rw [List.drop_eq_getElem_cons hi]
  generalize o[i]=x at hx hsplit
  have hw:=hc _ x _ hsplit
  obtain⟨n,r0,hxn,hr0,hd0,hra⟩:=WD hw.1
  replace hr0:st.Robots[n]?=some r0:=hr0
  have hnl:=(List.getElem?_eq_some_iff.1 hr0).1
  subst hxn
  have hnin:((n:Nat):Int)∉o.take i:=fun hm=>by
   have:=(YO (s:=s) (st:=st) (homes:=homes)).2 ⟨hm,hw.1⟩
   rw [hw.2.1] at this;cases this
  have esub:sub o 0 (i:Int)=o.take i:=by simp [sub]
  have hlv:∀x,x∈o.take i→Kj st x=true:=fun x hx=>holv x (List.mem_of_mem_take hx)
  refine Ite.t (by rw [ht];exact decide_eq_true (show ((i:Nat):Int)<(o.length:Int) by omega)) (Jn.mk (fun u:Int×List Int×List ApiRobot×List Int×List Int×List ApiStuck=>Sim (opT s) st (posG st homes (o.take (i+1))) (mk6 u)∧(mk6 u).Tick≤274*((i+1:Nat):Int)) ⟨(n:Int),Qn ht hx,by rw [ht];exact⟨by omega,by omega,(by show ((i:Nat):Int)≤(o.length:Int);omega)⟩,?_⟩ (fun u hu=>⟨by show w64 (t.2.2.2.2.2.2+1)=_;rw [ht,QD (by omega) (by omega)];simp,hu.1,hu.2⟩))
  rw [ht,esub]
  refine Q1V hf hz k hl (by rw [List.length_take];unfold maxLen;omega) (fun hno=>absurd hw hno) (fun kk p _ hmin hp=>?_)
  have hrc:(rAt st (n:Int)).Cell=r0.Cell:=by have h9:rAt st (n:Int)=r0:=hra;rw [h9]
  have hn0:((n:Nat):Int).toNat=n:=by simp
  rw [hn0] at hp hmin
  have hkb:=hp.kb
  have hpd:∀j,j≤kk→p[j]?=some (p.getD j 0):=fun j hj=>by
   have:=List.getElem?_eq_getElem (show j<p.length by rw [hp.len];omega)
   rw [this,KR this]
  refine Jn.mk' (Loop.mk (fun t:T7=>∃j:Nat,t.2.2.2.2.2.2=((j+1:Nat):Int)∧j≤kk∧Sim (opT s) st (fun k=>if k=n then p.getD j 0 else posG st homes (o.take i) k) (mk7 t)∧(mk7 t).Tick+((mk7 t).Robots.getD n default).Rest≤274*i+11*j+10)
   (fun t=>(kk+2-t.2.2.2.2.2.2.toNat)*20+((mk7 t).Robots.getD n default).Rest.toNat) ⟨0,rfl,by omega,hS.pos (fun q=>?_),?_⟩ (fun t hI=>?_))
  ·split
   ·rename_i e
    subst e
    unfold posG
    rw [if_neg hnin,Xr hr0,KR hp.hd,hrc]
   ·rfl
  ·have hq:=List.getElem?_eq_getElem (show n<(mk7 t).Robots.length by rw [hS.rl];exact hnl)
   obtain⟨_,_,_,_,_,_,g1,_⟩:=hS.rob n _ hq
   show (mk7 t).Tick+((mk7 t).Robots.getD n default).Rest≤_
   rw [Xr hq];omega
  ·obtain⟨j,hj,hjk,hSj,hTj⟩:=hI
   refine Ite.mk (fun hlt=>?_) (fun hlt=>?_)
   ·have hjl:j<kk:=by
     have:=of_decide_eq_true hlt
     rw [hj,hp.len] at this;omega
    have hur:(mk7 t).Robots.length=st.Robots.length:=hSj.rl
    have hq:=List.getElem?_eq_getElem (show n<(mk7 t).Robots.length by rw [hur];exact hnl)
    generalize (mk7 t).Robots[n]'_=r at hq
    obtain⟨_,_,hrl,hrd,hrm,hre0,hre1,hrch,hrcell⟩:=hSj.rob n r hq
    have hrd':r.Dead=false:=by
     obtain⟨z,hz,_,hd,_⟩:=hSj.rob n r hq
     rw [hr0] at hz;cases hz;rw [hd,hd0]
    rw [if_pos rfl] at hrcell
    rw [Xr hq] at hTj
    obtain⟨a,b',d,pa,pb,d0,d6,hnx⟩:=hp.st j hjl
    have ea:p.getD j 0=a:=KR pa
    have eb:p.getD (j+1) 0=b':=KR pb
    have htk:(mk7 t).Tick≤10000:=by omega
    have hur2:t.2.2.1.length=st.Robots.length:=hur
    have hrN:(List.replicate (Int.toNat (t.2.2.1.length:Int)) (0:Int)).length=st.Robots.length:=by rw [List.length_replicate];simp;exact hur2
    refine⟨by omega,r,Qn rfl hq,Jn.mk (fun x:Int×List Int=>(r.Rest≠0∧x=(((j+1:Nat):Int),List.replicate (Int.toNat (t.2.2.1.length:Int)) (0:Int)))∨(r.Rest=0∧∃d',0≤d'∧d'<6∧nx s.Floor a d'=(b',true)∧x=(((j+1+1:Nat):Int),(List.replicate (Int.toNat (t.2.2.1.length:Int)) (0:Int)).set n (1+d'))))
     (Ite.mk (fun hre=>⟨a,Qn (n:=j) (by rw [hj,QD (by omega) (by omega)];omega) pa,b',Qn (n:=j+1) hj pb,Q0d (T:=opT s) hf d0 d6 hnx (fun d' e0 e6 hd'=>⟨0,?_,?_⟩)⟩) (fun hre=>.inl ⟨by simpa using hre,by rw [hj]⟩)) (fun x hxx=>?_)⟩
    ·refine Qn (n:=n) rfl ?_
     rw [List.getElem?_replicate,if_pos (by simp;omega)]
    ·refine .inr ⟨by simpa using hre,d',e0,e6,hd',?_⟩
     rw [hj,QD (by omega) (by omega)]
     simp
    ·have hacts:∃y,(x.2.getD n 0=0∧y=r.Cell∧x.1=((j+1:Nat):Int)∧r.Rest≠0)∨(r.Rest=0∧mvB (x.2.getD n 0)=true∧nx s.Floor r.Cell (x.2.getD n 0-1)=(y,true)∧y=b'∧x.1=((j+1+1:Nat):Int)):=by
      rcases hxx with ⟨e1,e2⟩ | ⟨e1,d',g0,g6,g7,e2⟩
      ·subst e2;exact⟨_,.inl ⟨Q37 _ _,rfl,rfl,e1⟩⟩
      ·subst e2
       have e3:((List.replicate (Int.toNat (t.2.2.1.length:Int)) (0:Int)).set n (1+d')).getD n 0=1+d':=set_getD_self (by rw [hrN];exact hnl)
       refine⟨b',.inr ⟨e1,by rw [e3];exact Gd.2 (by omega),?_,rfl,rfl⟩⟩
       show nx s.Floor r.Cell (((List.replicate _ (0:Int)).set n (1+d')).getD n 0-1)=_
       rw [e3,hrcell,ea,show 1+d'-1=d' by omega];exact g7
     have hxl:x.2.length=(mk7 t).Robots.length:=by
      rw [hur]
      rcases hxx with ⟨_,e2⟩ | ⟨_,d',_,_,_,e2⟩ <;> subst e2
      ·exact hrN
      ·show ((List.replicate _ (0:Int)).set n _).length=_
       rw [List.length_set];exact hrN
     have hx0:∀q,q≠n→x.2.getD q 0=0:=fun q hq=>by
      rcases hxx with ⟨_,e2⟩ | ⟨_,d',_,_,_,e2⟩ <;> subst e2
      ·exact Q37 _ _
      ·show ((List.replicate _ (0:Int)).set n _).getD q 0=0
       rw [Q4s hq];exact Q37 _ _
     have kx2:OkL I64 x.2:=Q0S (by rw [hxl,hur];omega) (fun v hv=>by
      obtain⟨q,hq⟩:=List.getElem?_of_mem hv
      have e:x.2.getD q 0=v:=KR hq
      by_cases hqn:q=n
      ·subst hqn
       rcases hacts with ⟨y,⟨g,_⟩ | ⟨_,g,_⟩⟩
       ·rw [g] at e;rw [←e];exact XQ (by omega)
       ·have:=Gd.1 g;rw [e] at this;exact XQ (by omega)
      ·rw [hx0 q hqn] at e;rw [←e];exact XQ (by omega))
     refine Q3M (n:=12) (s:=opT s) (st:=mk7 t) (f:=fN) (by omega) kT hf hsT hSj.rst hSj.sz kx2 ?_
     obtain⟨y,hy⟩:=hacts
     have hgo:(x.2.getD n 0=0∧y=r.Cell)∨(r.Rest=0∧r.Dead=false∧mvB (x.2.getD n 0)=true∧nx (opT s).Floor r.Cell (x.2.getD n 0-1)=(y,true)∧Free (opT s) (mk7 t) n r y):=by
      rcases hy with ⟨g1,g2,_⟩ | ⟨g1,g2,g3,g4,_⟩
      ·exact .inl ⟨g1,g2⟩
      ·refine .inr ⟨g1,hrd',g2,g3,?_⟩
       subst g4
       refine Q78 (s:=s) (homes:=homes) (o:=o.take i) hr0 hl hlv hSj hq (hp.ok y (List.mem_of_getElem? pb)).2.2 (fun e=>?_)
       have h1:=hp.pb (j+1) y pb
       rw [e,←hrc] at h1
       have:=hmin _ h1
       omega
     obtain⟨u',hst,hS',hT',r',hr',hrc',hrr'⟩:=Q72 (T:=opT s) hf hsT hspT hSj htk hq hxl hx0 hgo
     rw [hst]
     refine Ite.f rfl ?_
     have hg':u'.Robots.getD n default=r':=Xr hr'
     obtain⟨_,_,_,_,_,hr0',hr1',_⟩:=hS'.rob n r' hr'
     have e7:mk7 (u'.Tick,u'.Shelves,u'.Robots,u'.People,u'.Dead,u'.Stuck,x.1)=u':=rfl
     show (∃j:Nat,x.1=((j+1:Nat):Int)∧j≤kk∧Sim (opT s) st _ u'∧u'.Tick+(u'.Robots.getD n default).Rest≤_)∧(kk+2-x.1.toNat)*20+(u'.Robots.getD n default).Rest.toNat<(kk+2-t.2.2.2.2.2.2.toNat)*20+((mk7 t).Robots.getD n default).Rest.toNat
     rw [hg',Xr hq,hj]
     rcases hy with ⟨g1,g2,g3,g4⟩ | ⟨g1,g2,g3,g4,g5⟩
     ·have h1:=hrr' g1
      have h2:imax (r.Rest-1) 0=r.Rest-1:=by unfold imax;split <;> omega
      rw [g3]
      refine⟨⟨j,rfl,hjk,hS'.pos (fun q=>?_),by rw [hT',h1,h2];omega⟩,?_⟩
      ·by_cases e:q=n
       ·rw [if_pos e,if_pos e,g2,hrcell]
       ·simp only [if_neg e]
      ·rw [h1,h2];omega
     ·rw [g5]
      refine⟨⟨j+1,rfl,by omega,hS'.pos (fun q=>?_),by rw [hT'];omega⟩,?_⟩
      ·by_cases e:q=n
       ·rw [if_pos e,if_pos e,g4,eb]
       ·simp only [if_neg e]
      ·omega
   ·have hjk':j=kk:=by
     have:=of_decide_eq_false hlt
     rw [hj,hp.len] at this;omega
    subst hjk'
    have hq:=List.getElem?_eq_getElem (show n<(mk7 t).Robots.length by rw [hSj.rl];exact hnl)
    obtain⟨_,_,_,_,_,g0,_⟩:=hSj.rob n _ hq
    rw [Xr hq] at hTj
    refine⟨hSj.pos (fun q=>?_),?_⟩
    ·unfold posG
     rw [Qz hx]
     by_cases e:q=n
     ·subst e
      rw [if_pos rfl,if_pos (by simp),KR hp.lst]
     ·rw [if_neg e]
      by_cases h1:(q:Int)∈o.take i
      ·rw [if_pos h1,if_pos (List.mem_append_left _ h1)]
      ·rw [if_neg h1,if_neg (by
        intro hm
        rcases List.mem_append.1 hm with h2 | h2
        ·exact h1 h2
        ·simp at h2;exact e (by omega))]
    ·show (mk7 t).Tick≤_
     omega
 ·obtain⟨ht,hS,_⟩:=hI
  rw [List.take_length] at hS
  exact Ite.f (by rw [ht];exact decide_eq_false (show ¬((o.length:Nat):Int)<(o.length:Int) by omega)) hS
 ·have hur:(mk6 t).Robots.length=st.Robots.length:=hS.rl
  refine Jn.mk (fun _=>True) (Loop.inv t.2.2.1.length (fun i (q:Int)=>q=(i:Int)) rfl (fun i q hi hq=>?_) (fun q hq=>Ite.nlt (by omega) trivial)) (fun _ _=>rfl)
  subst hq
  have hy:=List.getElem?_eq_getElem hi
  generalize t.2.2.1[i]=r at hy
  have hil:i<st.Robots.length:=by rw [←hur];exact hi
  have hh:=List.getElem?_eq_getElem (show i<homes.length by omega)
  have hhd:homes.getD i 0=homes[i]'(by omega):=KR hh
  generalize homes[i]'_=h1 at hh hhd
  refine Ite.lt (by omega) (Jn.mk (fun x=>x=false) ⟨r,Qn rfl hy,Ite.mk (fun _=>rfl) (fun hd=>⟨h1,Qn rfl hh,?_⟩)⟩ (fun x hx=>Ite.f hx (by show w64 _=_;rw [QD (by omega) (by omega)];simp)))
  obtain⟨r0,hr0,_,hrd,_,_,_,_,hrc⟩:=hS.rob i r hy
  have hlive:Kj st (i:Int)=true:=by
   unfold Kj
   rw [Q0u rfl hr0,decide_eq_true (show (0:Int)≤(i:Int) by omega),decide_eq_true (show (i:Int)<(st.Robots.length:Int) by omega),←hrd,hd];rfl
  have:=hall _ hlive
  unfold posG at hrc
  rw [if_pos this,hhd] at hrc
  rw [hrc];simp
end Go.Taq
