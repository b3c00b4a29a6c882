/- The mathematics, several parts in one text. -/
import Derived.Test.YtdcfcldpjfepiaaGreatAK
import Derived.Test.YtdcfcldpjfepiaaGreatBL
/- The mathematics, part BQ: the site with open zones, the state in which all are ready (chapter 21, BankLeads). -/
set_option linter.unusedVariables false
set_option linter.unusedSimpArgs false
namespace Go.Taq
open Go
-- neighbours are other cells
theorem Q8q {f:ApiFloor} (hf:RF f) {c d:Int} (hc:isC f c=true):nbr f c d≠c:=by
 intro h
 have hb:=p_bd hf hc
 have hk:=QN.1 hc
 have key:∀{x y z:Int},(x≠pX f c∨y≠pY f c∨z≠pZ f c)→XA f x y z=c→False:=by
  intro x y z hne e
  unfold XA at e
  by_cases hin:0≤x∧x<f.W∧0≤y∧y<f.H∧0≤z∧z<f.D
  ·have:=Q6b hf hin
   unfold XA at this
   rw [e] at this
   obtain⟨h1,h2,h3⟩:=this
   rcases hne with g | g | g
   ·exact g h1.symm
   ·exact g h2.symm
   ·exact g h3.symm
  ·rw [if_neg hin] at e;omega
 unfold nbr at h
 rw [if_neg (by rw [hc];simp)] at h
 split at h
 ·exact key (.inl (by omega)) h
 split at h
 ·exact key (.inr (.inl (by omega))) h
 split at h
 ·exact key (.inl (by omega)) h
 split at h
 ·exact key (.inr (.inl (by omega))) h
 split at h
 ·exact key (.inr (.inr (by omega))) h
 split at h
 ·exact key (.inr (.inr (by omega))) h
 ·omega
theorem Q7D {f:ApiFloor} (hf:RF f) {c d:Int} (h:(nx f c d).2=true):(nx f c d).1≠c:=by
 have hc:=(Wx hf h).1
 have:=Q8q hf hc (d:=d)
 unfold nx at h ⊢
 split
 ·rename_i h1;rw [if_pos h1] at h;cases h
 ·rename_i h1
  rw [if_neg h1] at h
  split
  ·rename_i h2;rw [if_pos h2] at h;cases h
  ·exact this
section
end
end Go.Taq
/- The mathematics, part BR: a tick in which one robot at most moves (chapter 21, BankLeads). -/
set_option linter.unusedVariables false
set_option linter.unusedSimpArgs false
namespace Go.Taq
open Go
def fN:QM:={Kind:=0,A:=0,N:=0}
theorem Q4K {f:Nat→List Int} {n:Nat}:∀m,n<m→(∀k,k≠n→f k=[])→(List.range m).flatMap f=f n
 | 0,h,_=>by omega
 | m+1,h,h0=>by
  rw [Q1c]
  by_cases e:m=n
  ·subst e
   have:(List.range m).flatMap f=[]:=List.flatMap_eq_nil_iff.2 fun i hi=>h0 i (by have:=List.mem_range.1 hi;omega)
   rw [this,List.nil_append]
  ·rw [Q4K m (by omega) h0,h0 m e,List.append_nil]
section
variable {T:ApiSite} {st u:ApiState}
theorem Q5s:Wc T u fN=u:=by
 unfold Wc
 split
 ·rfl
 ·simp [fN]
theorem Q6j:X5 T u fN=true:=by unfold X5;rfl
theorem Q4R (acts:List Int):∀(k i:Nat) (u:ApiState),(runS T acts k i u).People=u.People∧(runS T acts k i u).Dead=u.Dead∧(runS T acts k i u).Stuck=u.Stuck∧(runS T acts k i u).Shelves.length=u.Shelves.length
 | 0,_,_=>⟨rfl,rfl,rfl,rfl⟩
 | k+1,i,u=>by
  obtain⟨_,_,g1,g2,g3,g4⟩:=Q13 (s:=T) (st:=u) i (acts.getD i 0)
  obtain⟨h1,h2,h3,h4⟩:=Q4R acts k (i+1) (doA T u i (acts.getD i 0))
  exact⟨h1.trans g2,h2.trans g3,h3.trans g4,h4.trans g1⟩
structure Free (T:ApiSite) (u:ApiState) (n:Nat) (r:ApiRobot) (y:Int):Prop where
 dead:y∉u.Dead
 ppl:y∉u.People
 rob:∀(k:Nat) r',k≠n→u.Robots[k]?=some r'→r'.Cell≠y
 shel:0≤r.Load→∀(m:Nat) c,u.Shelves[m]?=some c→carB u m=false→c≠y
theorem Q4C (hf:RF T.Floor) (h:RSt T u) {n:Nat} {r:ApiRobot} (hx:u.Robots[n]?=some r) {y:Int} (hy:isC T.Floor y=true) (hne:r.Cell≠y) (hF:Free T u n r y):low y∉allS u∧(0≤r.Load→high y∉allS u):=by
 obtain⟨y1,y2⟩:=Yq hf hy
 have rc:∀(k:Nat) r',u.Robots[k]?=some r'→r'.Cell≠y:=fun k r' hk=>by
  by_cases e:k=n
  ·subst e;rw [hx] at hk;cases hk;exact hne
  ·exact hF.rob k r' e hk
 have robs:∀x,x∈(List.range u.Robots.length).flatMap (fun i=>slR (u.Robots.getD i default))→x≠2*y∧x≠2*y+1:=fun x hm=>by
  obtain⟨k,hk,hxk⟩:=List.mem_flatMap.1 hm
  have hk':=List.getElem?_eq_getElem (List.mem_range.1 hk)
  rw [Wi hk'] at hxk
  generalize u.Robots[k]'_=r' at hk' hxk
  obtain⟨l1,l2⟩:=Yq hf (h.rob k r' hk').cell
  have:=rc k r' hk'
  unfold slR at hxk
  split at hxk
  ·simp at hxk;rcases hxk with e | e <;> rw [e] <;> omega
  ·simp at hxk;rw [hxk];omega
 have shl:∀x,x∈(List.range u.Shelves.length).flatMap (slS u)→x≠2*y∧(0≤r.Load→x≠2*y+1):=fun x hm=>by
  obtain⟨k,hk,hxk⟩:=List.mem_flatMap.1 hm
  have hk':=List.getElem?_eq_getElem (List.mem_range.1 hk)
  have hd:u.Shelves.getD k 0=u.Shelves[k]'(List.mem_range.1 hk):=Gv hk'
  unfold slS at hxk
  split at hxk
  ·cases hxk
  ·rename_i hc
   rw [hd] at hxk
   generalize u.Shelves[k]'_=c at hk' hxk
   obtain⟨l1,l2⟩:=Yq hf (h.cells c (List.mem_of_getElem? hk'))
   simp at hxk
   rw [hxk,l2]
   refine⟨by omega,fun h0=>?_⟩
   have:=hF.shel h0 k c hk' (by simpa using hc)
   omega
 have ppl:∀x,x∈(List.range u.People.length).flatMap (fun i=>slP (u.People.getD i 0))→x≠2*y∧x≠2*y+1:=fun x hm=>by
  obtain⟨k,hk,hxk⟩:=List.mem_flatMap.1 hm
  have hk':=List.getElem?_eq_getElem (List.mem_range.1 hk)
  have hd:u.People.getD k 0=u.People[k]'(List.mem_range.1 hk):=Gv hk'
  rw [hd] at hxk
  generalize u.People[k]'_=c at hk' hxk
  have hc:isC T.Floor c=true:=Q5m (by have:=h.ppl k c hk';omega)
  obtain⟨l1,l2⟩:=Yq hf hc
  have:c≠y:=fun e=>hF.ppl (e▸List.mem_of_getElem? hk')
  unfold slP at hxk
  simp at hxk;rcases hxk with e | e <;> rw [e] <;> omega
 unfold allS
 refine⟨fun hm=>?_,fun h0 hm=>?_⟩
 ·rw [y1] at hm
  rcases List.mem_append.1 hm with hm | hm
  ·rcases List.mem_append.1 hm with hm | hm
   ·exact (robs _ hm).1 rfl
   ·exact (shl _ hm).1 rfl
  ·exact (ppl _ hm).1 rfl
 ·rw [y2] at hm
  rcases List.mem_append.1 hm with hm | hm
  ·rcases List.mem_append.1 hm with hm | hm
   ·exact (robs _ hm).2 rfl
   ·exact (shl _ hm).2 h0 rfl
  ·exact (ppl _ hm).2 rfl
structure Like (u v:ApiState) (n:Nat):Prop where
 cl:v.Robots.map CL=u.Robots.map CL
 rob:v.Robots[n]?=u.Robots[n]?
 sh:v.Shelves=u.Shelves
 pp:v.People=u.People
 dd:v.Dead=u.Dead
 sk:v.Stuck=u.Stuck
end
end Go.Taq
/- The mathematics, part GQ: a tick of a robot that is alone (chapter 33). -/
set_option linter.unusedVariables false
set_option linter.unusedSimpArgs false
namespace Go.Taq
open Go
section
variable {T:ApiSite} {u:ApiState} {r:ApiRobot}
theorem Q66 {t ch a:Int} {l:Bool} (hc:cst t a l≤ch∧ch≤1000000) (ha:0≤a∧a<9):aft t ch a l=(ch-cst t a l,0):=by
 have:=(Q09 t a l).1
 unfold aft;rw [if_neg (by omega),if_neg (by omega),if_neg (by omega)]
theorem Q7B (hf:RF T.Floor) (hs:∀z,z∈T.Zones→z.Shut=[]) {r:ApiRobot} {a y:Int} (hm:mvB a=true) (hd:r.Dead=false) (hmu:r.Mute=0) (hre:r.Rest=0) (hc:cst u.Tick a (decide (r.Load≥0))≤r.Charge∧r.Charge≤1000000) (hnx:nx T.Floor r.Cell (a-1)=(y,true)) (hst:u.Stuck=[]) (hdd:y∉u.Dead) (h1:low y∉allS u) (h2:0≤r.Load→high y∉allS u):legR T u r a=0:=by
 have hm':=XI.1 hm
 unfold legR
 rw [if_neg (by omega),if_neg (by omega),if_neg (by rw [hd,hmu];simp),if_neg (by rw [hre];simp),if_neg (by rw [Q66 hc (by omega)];simp),if_pos hm]
 have hy:isC T.Floor y=true:=by have:=Wx hf (c:=r.Cell) (d:=a-1) (by rw [hnx]);rw [hnx] at this;exact this.2.1
 unfold movS
 rw [hnx]
 rw [if_neg (by simpa using hdd),if_neg (by rw [hst];simp)]
 have ho:opn T y u.Tick=true:=by
  unfold opn;rw [hy]
  by_cases hz:zn T y<0
  ·rw [decide_eq_true hz];rfl
  ·have:=hs _ (List.mem_of_getElem? (Q6 (Q3t (s:=T) (c:=y) (by omega))).2.2)
   rw [this];simp
 rw [if_neg (by rw [ho];simp),if_neg]
 intro h
 simp only [Bool.or_eq_true,Bool.and_eq_true,decide_eq_true_eq,List.contains_iff_mem] at h
 rcases h with h | ⟨h,h'⟩
 ·exact h1 h
 ·exact h2 h h'
structure Lone (T:ApiSite) (u:ApiState) (r:ApiRobot):Prop where
 rst:RSt T u
 sz:SzN 12 u
 one:u.Robots=[r]
 live:r.Dead=false
 ppl:u.People=[]
 stuck:u.Stuck=[]
 tick:0≤u.Tick
 shel:∀(m:Nat) c,u.Shelves[m]?=some c→r.Load=(m:Int)
theorem Lone.get (h:Lone T u r):u.Robots[0]?=some r:=by rw [h.one];rfl
theorem Lone.len (h:Lone T u r):u.Robots.length=1:=by rw [h.one];rfl
theorem Lone.free (h:Lone T u r) {y:Int} (hdd:y∉u.Dead):Free T u 0 r y where
 dead:=hdd
 ppl:=by rw [h.ppl];simp
 rob:=fun k r' hk hr=>by
  have:=(List.getElem?_eq_some_iff.1 hr).1
  rw [h.len] at this;omega
 shel:=fun hl m c hm hcb=>by
  exfalso
  have e:=h.shel m c hm
  have:carB u (m:Int)=true:=by
   rw [Q10 (by omega),h.one];simp [e]
  rw [this] at hcb;cases hcb
theorem Q63 (hf:RF T.Floor) (hs:RS T) (hsh:∀z,z∈T.Zones→z.Shut=[]) {r:ApiRobot} (h:Lone T u r) (ht:u.Tick<20000) {a y:Int}
  (hc:cst u.Tick a (decide (r.Load≥0))≤r.Charge) (ha:(a=0∧y=r.Cell)∨(r.Rest=0∧r.Mute=0∧mvB a=true∧nx T.Floor r.Cell (a-1)=(y,true)∧y∉u.Dead)):
  ∃u' r',Q5L T u [a] fN=(u',0)∧Lone T u' r'∧u'.Tick=u.Tick+1∧u'.Dead=u.Dead∧r'.Cell=y∧r'.Charge=r.Charge-cst u.Tick a (decide (r.Load≥0)) ∧
   ((a=0∧r'.Rest=imax (r.Rest-1) 0∧r'.Mute=imax (r.Mute-1) 0)∨(a≠0∧r'.Rest=spd T y-1∧r'.Mute=0)):=by
 have hx:=h.get
 have hlen:=h.len
 have hrr:=h.rst.rob 0 r hx
 have ha9:0≤a∧a<9:=by
  rcases ha with ⟨e,_⟩ | ⟨_,_,e,_⟩
  ·omega
  ·have:=XI.1 e;omega
 have hg0:([a]:List Int).getD 0 0=a:=rfl
 have hgk:∀k,k≠0→([a]:List Int).getD k 0=0:=fun k hk=>by
  match k,hk with
  | k+1,_=>simp
 have hleg:∀v,Like u v 0→v.Tick=u.Tick→legR T v r a=0:=fun v hv hvt=>by
  rcases ha with ⟨e,_⟩ | ⟨g1,g2,g3,g4,g5⟩
  ·rw [e];unfold legR;rw [if_neg (by omega),if_pos rfl]
  ·have hy:isC T.Floor y=true:=by have:=Wx hf (c:=r.Cell) (d:=a-1) (by rw [g4]);rw [g4] at this;exact this.2.1
   have hne:r.Cell≠y:=by have:=Q7D hf (c:=r.Cell) (d:=a-1) (by rw [g4]);rw [g4] at this;exact fun e=>this e.symm
   obtain⟨f1,f2⟩:=Q4C hf h.rst hx hy hne (h.free g5)
   have eA:=Q5R hv.cl hv.sh hv.pp
   exact Q7B hf hsh g3 h.live g2 g1 ⟨by rw [hvt];exact hc,hrr.charge.2⟩ g4 (by rw [hv.sk];exact h.stuck) (by rw [hv.dd];exact g5) (by rw [eA];exact f1) (fun hld=>by rw [eA];exact f2 hld)
 have hl0:legS T u ((0:Nat):Int) a=0:=by rw [Q42 (n:=0) rfl hx];exact hleg u ⟨rfl,rfl,rfl,rfl,rfl,rfl⟩ rfl
 have hchk:chkS T u [a]=0:=by
  unfold chkS
  have hfst:fstB T u [a] ([a]:List Int).length 0=0:=by
   show fstB T u [a] 1 0=0
   unfold fstB;rw [hg0,if_pos hl0];rfl
  have hseq:seqB T [a] ([a]:List Int).length 0 u=0:=by
   show seqB T [a] 1 0 u=0
   unfold seqB;rw [hg0,if_pos hl0];rfl
  rw [if_neg (by omega),if_neg (by rw [hlen];simp),if_neg (by rw [hfst];simp),if_neg,hseq]
  unfold movL
  rw [Q4K (n:=0) _ (by omega) (fun k hk=>by unfold mvS;rw [hgk k hk,if_pos (by simp [mvB])])]
  simp only [Decidable.not_not]
  rcases ha with ⟨e,_⟩ | ⟨g1,g2,g3,g4,g5⟩
  ·have:mvS T.Floor u [a] 0=[]:=by unfold mvS;rw [hg0,e,if_pos (by simp [mvB])]
   rw [this,List.append_nil];exact h.rst.clash
  ·have hy:isC T.Floor y=true:=by have:=Wx hf (c:=r.Cell) (d:=a-1) (by rw [g4]);rw [g4] at this;exact this.2.1
   have hne:r.Cell≠y:=by have:=Q7D hf (c:=r.Cell) (d:=a-1) (by rw [g4]);rw [g4] at this;exact fun e=>this e.symm
   obtain⟨f1,f2⟩:=Q4C hf h.rst hx hy hne (h.free g5)
   obtain⟨y1,y2⟩:=Yq hf hy
   have:mvS T.Floor u [a] 0=slAt r y:=by
    unfold mvS;rw [Wi hx,hg0,if_neg (by rw [h.live,g3];simp),g4,if_pos rfl]
   rw [this]
   refine List.nodup_append.2 ⟨h.rst.clash,?_,fun a ha b hb e=>?_⟩
   ·unfold slAt;split
    ·simp;omega
    ·simp
   ·subst e
    unfold slAt at hb
    split at hb
    ·rename_i hld
     simp at hb
     rcases hb with e | e
     ·subst e;exact f1 ha
     ·subst e;exact f2 hld ha
    ·simp at hb;subst hb;exact f1 ha
 have hstep:Q5L T u [a] fN=(tickS T u [a] fN,0):=by
  unfold Q5L
  rw [if_neg (by rw [hchk];simp),if_neg (by rw [Q6j];simp)]
 have hrun:runS T [a] 1 0 u=doR T u 0 r a:=by
  show doA T u 0 (([a]:List Int).getD 0 0)=_
  rw [hg0]
  obtain⟨b,_,b2,_,b4⟩:=Q84 (s:=T) hx a
  rw [b4,b2 hl0]
 have htk:tickS T u [a] fN=Q1B u (runS T [a] 1 0 u):=by unfold tickS;rw [Q5s];rfl
 obtain⟨k1,k2,k3,k4⟩:=Q1k (n:=12) (by omega) hf hs [a] 1 0 u (by omega) h.rst h.sz
 obtain⟨m1,m2,m3,m4⟩:=Q4R (T:=T) [a] 1 0 u
 have rE:RSt T (Q1B u (runS T [a] 1 0 u)):=Q71 k1 k4.symm (by rw [k3];omega)
 have zE:SzN 12 (Q1B u (runS T [a] 1 0 u)):=Q76 k2
 have hdr:(runS T [a] 1 0 u).Robots=[nwR T u r a]:=by
  rw [hrun];unfold doR
  rw [if_neg (by rw [h.live];simp)]
  show u.Robots.set 0 _=_
  rw [h.one];rfl
 have hends:(Q1B u (runS T [a] 1 0 u)).Robots=[endR r (nwR T u r a)]:=by
  show (List.range (runS T [a] 1 0 u).Robots.length).map (fun i=>endR (u.Robots.getD i default) ((runS T [a] 1 0 u).Robots.getD i default))=_
  rw [hdr,h.one];rfl
 have hchg:chg u r a=r.Charge-cst u.Tick a (decide (r.Load≥0)):=by
  unfold chg;rw [Q66 ⟨hc,hrr.charge.2⟩ ha9];rw [if_pos rfl]
 have hnw:(nwR T u r a).Cell=y∧(nwR T u r a).Load=r.Load∧(nwR T u r a).Dead=false∧(nwR T u r a).Charge=r.Charge-cst u.Tick a (decide (r.Load≥0))∧(nwR T u r a).Mute=r.Mute∧(nwR T u r a).Rest=(if a=0 then r.Rest else spd T y-1):=by
  rcases ha with ⟨e,ey⟩ | ⟨g1,g2,g3,g4,g5⟩
  ·subst e
   have e1:nwR T u r 0={r with Load:=lod u r 0,Charge:=chg u r 0}:=by unfold nwR;rw [if_neg (by simp [mvB])]
   rw [e1]
   exact⟨ey.symm,by simp [lod],h.live,hchg,rfl,by rw [if_pos rfl]⟩
  ·have hm:=XI.1 g3
   have e1:nwR T u r a={r with Cell:=y,Load:=lod u r a,Charge:=chg u r a,Rest:=spd T y-1}:=by unfold nwR;rw [g4,if_pos (by rw [g3];rfl)]
   rw [e1]
   exact⟨rfl,Q8Z g3,h.live,hchg,rfl,by rw [if_neg (by omega)]⟩
 obtain⟨n1,n2,n3,n4,n5,n6⟩:=hnw
 refine⟨Q1B u (runS T [a] 1 0 u),endR r (nwR T u r a),by rw [hstep,htk],⟨rE,zE,hends,n3,m1.trans h.ppl,?_,?_,fun m c hm=>?_⟩,?_,m2,n1,n4,?_⟩
 ·show ((runS T [a] 1 0 u).Stuck.map decL).filter _=[]
  rw [m3,h.stuck];rfl
 ·show 0≤(runS T [a] 1 0 u).Tick+1
  have:=h.tick;omega
 ·show (nwR T u r a).Load=_
  rw [n2]
  have hm':(runS T [a] 1 0 u).Shelves[m]?=some c:=hm
  have hml:=(List.getElem?_eq_some_iff.1 hm').1
  rw [m4] at hml
  exact h.shel m _ (List.getElem?_eq_getElem hml)
 ·show (runS T [a] 1 0 u).Tick+1=_
  rw [k3]
 ·have eR:(endR r (nwR T u r a)).Rest=(if y=r.Cell then imax ((nwR T u r a).Rest-1) 0 else (nwR T u r a).Rest):=by
   show (if (nwR T u r a).Cell=r.Cell then _ else _)=_
   rw [n1]
  have eM:(endR r (nwR T u r a)).Mute=imax (r.Mute-1) 0:=by
   show imax ((nwR T u r a).Mute-1) 0=_
   rw [n5]
  rcases ha with ⟨e,ey⟩ | ⟨g1,g2,g3,g4,g5⟩
  ·left
   rw [if_pos e] at n6
   exact⟨e,by rw [eR,if_pos ey,n6],eM⟩
  ·right
   have hm:=XI.1 g3
   have hne:y≠r.Cell:=by have:=Q7D hf (c:=r.Cell) (d:=a-1) (by rw [g4]);rw [g4] at this;exact this
   rw [if_neg (by omega)] at n6
   exact⟨by omega,by rw [eR,if_neg hne,n6],by rw [eM,g2];rfl⟩
end
end Go.Taq
/- The mathematics, part GR: the site of a robot alone, its first state; short walks on a fast floor (chapter 33). -/
set_option linter.unusedVariables false
set_option linter.unusedSimpArgs false
namespace Go.Taq
open Go
/-! ## short walks -/
section
variable {s:ApiSite} {L:List Int}
theorem WL.shortP (hf:RF s.Floor) {P:Nat} (hP:∀d x:Int,0≤d→d<6→isC s.Floor x=true→prS s d x≤P) (hP1:∀d x:Int,0≤d→d<6→isC s.Floor x=true→1≤prS s d x):∀(k:Nat) (L:List Int) (c:Nat),((List.range s.Floor.Kind.length).filter (fun y:Nat=>decide ((y:Int)∉L))).length≤k→∀m,WL s L c m→∃m',m'≤P*(k+1)∧WL s L c m':=by
 intro k
 induction k with
 | zero=>
  intro L c hk m hw
  cases hw with
  | home hc hh=>exact⟨0,by omega,.home hc hh⟩
  | step hc hh hd hn hL hm=>
   rename_i d y m
   have hyl:=hm.lt
   have:y∈(List.range s.Floor.Kind.length).filter (fun y:Nat=>decide ((y:Int)∉L)):=List.mem_filter.2 ⟨List.mem_range.2 hyl,by simpa using hL⟩
   have:=List.length_pos_of_mem this
   omega
 | succ k ih=>
  intro L c hk m hw
  have hcl:=hw.lt
  by_cases h3:kd s.Floor c=3
  ·exact⟨0,by omega,.home hcl h3⟩
  ·have hst:∃(d y m1:Nat),d<6∧nx s.Floor c d=((y:Int),true)∧(y:Int)∉(c:Int) :: L∧WL s ((c:Int) :: L) y m1:=by
    rcases hw.cut h3 with ⟨m',h⟩ | h
    ·cases h with
     | home _ h=>exact absurd h h3
     | step g1 g2 g3 g4 g5 g6=>exact⟨_,_,_,g3,g4,g5,g6⟩
    ·exact h
   obtain⟨d,y,m1,hd,hn,hL,hw1⟩:=hst
   have hok:=Wx hf (c:=(c:Int)) (d:=(d:Int)) (by rw [hn])
   rw [hn] at hok
   have hp1:1≤prS s (d:Int) (y:Int):=hP1 _ _ (by omega) (by omega) hok.2.1
   have hp2:prS s (d:Int) (y:Int)≤P:=hP _ _ (by omega) (by omega) hok.2.1
   have hyl:=hw1.lt
   by_cases h3y:kd s.Floor y=3
   ·refine⟨0+(prS s d y).toNat,?_,.step hcl h3 hd hn (fun h=>hL (List.mem_cons_of_mem _ h)) (.home hyl h3y)⟩
    have:P≤P*(k+1+1):=Nat.le_mul_of_pos_right _ (by omega)
    omega
   ·have hst2:∃(e z m2:Nat),e<6∧nx s.Floor y e=((z:Int),true)∧(z:Int)∉(y:Int) :: L∧WL s ((y:Int) :: L) z m2:=by
     have hw2:WL s L y m1:=hw1.congr (fun z hz=>List.mem_cons_of_mem _ hz)
     rcases hw2.cut h3y with ⟨m',h⟩ | h
     ·cases h with
      | home _ h=>exact absurd h h3y
      | step g1 g2 g3 g4 g5 g6=>exact⟨_,_,_,g3,g4,g5,g6⟩
     ·exact h
    obtain⟨e,z,m2,he,hn2,hL2,hw2⟩:=hst2
    have hyw:WL s ((y:Int) :: L) y (m2+(prS s e z).toNat):=.step hyl h3y he hn2 hL2 hw2
    have hlt:((List.range s.Floor.Kind.length).filter (fun w:Nat=>decide ((w:Int)∉(y:Int) :: L))).length≤k:=by
     have hsub:((List.range s.Floor.Kind.length).filter (fun w:Nat=>decide ((w:Int)∉(y:Int) :: L))).length<((List.range s.Floor.Kind.length).filter (fun w:Nat=>decide ((w:Int)∉L))).length:=by
      rw [←List.countP_eq_length_filter,←List.countP_eq_length_filter]
      have key:∀l:List Nat,y∈l→l.countP (fun w:Nat=>decide ((w:Int)∉(y:Int) :: L))<l.countP (fun w:Nat=>decide ((w:Int)∉L)):=fun l hl=>by
       induction l with
       | nil=>cases hl
       | cons b l ihl=>
        have hmono:l.countP (fun w:Nat=>decide ((w:Int)∉(y:Int) :: L))≤l.countP (fun w:Nat=>decide ((w:Int)∉L)):=List.countP_mono_left (fun w _ h=>by simp at h ⊢;exact h.2)
        rw [List.countP_cons,List.countP_cons]
        by_cases eb:b=y
        ·subst eb
         have hyL:(b:Int)∉L:=fun h=>hL (List.mem_cons_of_mem _ h)
         rw [if_neg (by simp),if_pos (by simpa using hyL)];omega
        ·have hl2:y∈l:=(List.mem_cons.1 hl).resolve_left (fun h=>eb h.symm)
         have:=ihl hl2
         have hne:¬(b:Int)=(y:Int):=fun h=>eb (by omega)
         by_cases hb:(b:Int)∈L
         ·rw [if_neg (by simp [hb]),if_neg (by simp [hb])];omega
         ·rw [if_pos (by simp [hb,hne]),if_pos (by simp [hb])];omega
      exact key _ (List.mem_range.2 hyl)
     omega
    obtain⟨m',hm',hw'⟩:=ih ((y:Int) :: L) y hlt _ hyw
    refine⟨m'+(prS s d y).toNat,?_,.step hcl h3 hd hn (fun h=>hL (List.mem_cons_of_mem _ h)) (hw'.congr (fun z hz=>List.mem_cons_of_mem _ hz))⟩
    have:P*(k+1+1)=P*(k+1)+P:=by rw [Nat.mul_succ]
    omega
theorem Q7Y (hs:RS s) (hsp:∀z,z∈s.Zones→z.Speed≤10) {d x:Int} (h0:0≤d) (h6:d<6) (hx:isC s.Floor x=true):prS s d x≤(48:Nat):=by
 have h1:=Q4H h0 h6
 have h2:spd s x≤10:=by
  unfold spd
  split
  ·omega
  ·exact hsp _ (List.mem_of_getElem? (Q6 (Q3t (s:=s) (c:=x) (by omega))).2.2)
 unfold prS
 rw [if_neg (by rw [hx];simp;omega)]
 split <;> omega
theorem Q6D (hf:RF s.Floor) (hs:RS s) (hsp:∀z,z∈s.Zones→z.Speed≤10) (hn:s.Floor.Kind.length≤24) (c:Nat):fuV s L c≤1200:=by
 rcases Q2s s L c with ⟨h1,_⟩ | ⟨h1,h2,h3⟩
 ·omega
 ·have hl:=List.length_filter_le (fun y:Nat=>decide ((y:Int)∉L)) (List.range s.Floor.Kind.length)
  rw [List.length_range] at hl
  obtain⟨m',hm,hw⟩:=WL.shortP hf (P:=48) (fun d x h0 h6 hx=>Q7Y hs hsp h0 h6 hx) (fun d x h0 h6 hx=>(Zs hs h0 h6 hx).1) 24 L c (by omega) _ h2
  have:=h3 m' hw
  omega
end
/-! ## the site -/
def alZ (z:Qk):Qk:={z with Keep:=0,Shut:=[]}
structure Aln (s:ApiSite) (c:Int) (T:ApiSite):Prop where
 fl:T.Floor=s.Floor
 zs:T.Zones=s.Zones.map alZ
 ap:T.Aparts=[]
 rb:T.Robots=[{Cell:=c,Charge:=0}]
 sh:T.Shelves=[]∨∃x,T.Shelves=[{Cell:=x,Class:=ByteArray.empty}]∧isC s.Floor x=true
section
variable {s T:ApiSite} {c:Int}
theorem Q2z (ks:OkApiSite s) (hn:s.Floor.Kind.length≤1000) (hzl:s.Zones.length≤1000) {laden:Bool} {post:ApiSite→Prop} (hp:∀T,Aln s c T→post T):KD s c laden post:=by
 unfold KD
 refine Jn.mk (fun l=>l=s.Zones.map alZ) (Km (xs:=s.Zones) ks.Zones.1 (fun t:List Qk×Int=>t.2) (fun i t=>t.1=(s.Zones.take i).map alZ) rfl (by simp) (fun i z t hz ht hI=>?_) (fun t hI=>by rw [List.take_length] at hI;exact hI)) (fun l hl=>?_)
 ·have hi:=(List.getElem?_eq_some_iff.1 hz).1
  have hm:=ks.Zones.1
  refine⟨?_,by rw [ht],?_⟩
  ·rw [hI,List.length_map,List.length_take,List.length_singleton];omega
  ·rw [QL hz,List.map_append,←hI];rfl
 ·subst hl
  refine Jn.mk (fun l=>l=[]∨∃x,l=[{Cell:=x,Class:=ByteArray.empty}]∧isC s.Floor x=true) (Loop.mk (fun t:List Qm×Int=>∃i:Nat,t.2=(i:Int)∧i≤s.Floor.Kind.length∧(t.1=[]∨∃x,t.1=[{Cell:=x,Class:=ByteArray.empty}]∧isC s.Floor x=true)) (fun t=>s.Floor.Kind.length-t.2.toNat) ⟨0,rfl,by omega,.inl rfl⟩ ?_) (fun l hl=>hp _ ⟨rfl,rfl,rfl,rfl,hl⟩)
  rintro⟨l,ii⟩ ⟨i,e,hi,hI⟩
  simp only at e hI
  subst e
  refine Jn.mk (fun b=>b=true→i<s.Floor.Kind.length) (Ite.mk (fun h=>?_) (fun h=>fun h2=>by cases h2)) (fun b hb=>Ite.mk (fun h=>?_) (fun h=>hI))
  ·have:i<s.Floor.Kind.length:=by have:=of_decide_eq_true h;simp at this;exact this
   exact Ite.mk (fun _=>fun _=>this) (fun _=>fun h2=>by cases h2)
  ·have hlt:=hb h
   have hc:isC s.Floor (i:Int)=true:=QN.2 ⟨by omega,by omega⟩
   refine Jn.mk (fun _=>True) ⟨kd s.Floor i,WP hc,Ite.mk (fun _=>trivial) (fun _=>trivial)⟩ (fun x _=>Jn.mk (fun m=>m=[]∨∃x,m=[{Cell:=x,Class:=ByteArray.empty}]∧isC s.Floor x=true) (Ite.mk (fun _=>.inr ⟨_,rfl,hc⟩) (fun _=>hI)) (fun m hm=>?_))
   have e1:w64 ((i:Int)+1)=((i+1:Nat):Int):=by rw [QF (by omega) (by omega)];simp
   refine⟨⟨i+1,e1,by omega,hm⟩,?_⟩
   show s.Floor.Kind.length-(w64 ((i:Int)+1)).toNat<s.Floor.Kind.length-((i:Int)).toNat
   rw [e1];omega
theorem Aln.speed (h:Aln s c T) (x:Int):spd T x=spd s x:=by
 have ez:zn T x=zn s x:=by unfold Go.Taq.zn;rw [h.zs,Q4s];rfl
 unfold spd
 rw [ez]
 split
 ·rfl
 ·have h1:=Q3t (s:=s) (c:=x) (by omega)
  have h2:=(Q6 h1).2.2
  rw [h.zs,List.getD_eq_getElem?_getD,List.getElem?_map,h2];rfl
theorem Aln.alike (h:Aln s c T):Q0C s T:=⟨h.fl,h.speed⟩
theorem Aln.rs (h:Aln s c T) (hs:RS s):RS T where
 fl:=by rw [h.fl];exact hs.fl
 asc:=fun z hz=>by
  rw [h.zs] at hz
  obtain⟨z0,h0,e⟩:=List.mem_map.1 hz
  subst e;exact hs.asc z0 h0
 zc:=fun z hz=>by
  rw [h.zs] at hz
  obtain⟨z0,h0,e⟩:=List.mem_map.1 hz
  subst e;rw [h.fl];exact hs.zc z0 h0
 sp:=fun z hz=>by
  rw [h.zs] at hz
  obtain⟨z0,h0,e⟩:=List.mem_map.1 hz
  subst e;exact hs.sp z0 h0
theorem Aln.shut (h:Aln s c T):∀z,z∈T.Zones→z.Shut=[]:=fun z hz=>by
 rw [h.zs] at hz
 obtain⟨z0,h0,e⟩:=List.mem_map.1 hz
 subst e;rfl
theorem Aln.ok (h:Aln s c T) (ks:OkApiSite s) (hn:s.Floor.Kind.length≤1000) (hc:I64 c):OkApiSite T:=by
 refine⟨by rw [h.fl];exact ks.Floor,?_,by rw [h.ap];exact YP (by simp) (fun x hx=>by cases hx),?_,?_⟩
 ·rw [h.zs]
  refine⟨by rw [List.length_map];exact ks.Zones.1,fun z hz=>?_⟩
  obtain⟨z0,h0,e⟩:=List.mem_map.1 hz
  subst e
  have g:=ks.Zones.2 z0 h0
  exact⟨g.Name,g.Cells,g.Speed,by show I64 0;unfold I64;omega,YP (by simp [alZ]) (fun x hx=>by cases hx)⟩
 ·rcases h.sh with e | ⟨x,e,hx⟩
  ·rw [e];exact YP (by simp) (fun x hx=>by cases hx)
  ·rw [e]
   refine YP (by simp) (fun y hy=>?_)
   simp at hy;subst hy
   have:=QN.1 hx
   exact⟨by unfold I64;simp only;omega,Nat.zero_le _⟩
 ·rw [h.rb]
  refine YP (by simp) (fun y hy=>?_)
  simp at hy;subst hy
  exact⟨hc,by unfold I64;simp only;omega⟩
end
/-! ## the first state -/
def rob1 (T:ApiSite) (c ch rest mute:Int):ApiRobot:={Cell:=c,Load:=if 0<T.Shelves.length then 0 else -1,Charge:=ch,Rest:=rest,Mute:=mute,Dead:=false}
def beg (T:ApiSite) (c ch tick rest mute:Int) (dead:List Int):ApiState:={Tick:=tick,Shelves:=if 0<T.Shelves.length then [c] else [],Robots:=[rob1 T c ch rest mute],People:=[],Dead:=dead,Stuck:=[]}
theorem Q0a {T:ApiSite} {c ch tick:Int} {dead:List Int} {post:ApiState→Prop} (hp:post (beg T c ch tick 0 0 dead)):Ke T c ch tick dead post:=by
 unfold Ke
 unfold beg rob1 at hp
 refine Jn.mk (fun t=>t=((if 0<T.Shelves.length then [c] else []:List Int),([rob1 T c ch 0 0]:List ApiRobot))) (Ite.mk (fun h=>⟨_,rfl,?_⟩) (fun h=>?_)) (fun t ht=>by subst ht;exact hp)
 ·have h':0<T.Shelves.length:=by have:=of_decide_eq_true h;omega
  unfold rob1
  rw [if_pos h',if_pos h'];rfl
 ·have h':¬0<T.Shelves.length:=by have:=of_decide_eq_false h;omega
  unfold rob1
  rw [if_neg h',if_neg h']
theorem Q4b {c:Int} (h:0≤c∧c<1000):low c≠high c:=by
 unfold low high
 rw [QF (x:=2*c) (by omega) (by omega),QF (by omega) (by omega)];omega
theorem Q4w {s T:ApiSite} {c ch tick rest mute:Int} {dead:List Int} (h:Aln s c T) (hn:s.Floor.Kind.length≤1000) (hc:isC s.Floor c=true) (hk:kd s.Floor c≠0) (hch:0≤ch∧ch≤1000000) (ht:0≤tick∧tick≤20000) (hr:0≤rest∧rest≤20000) (hm:0≤mute∧mute≤20000)
  (hd:dead=[]∨∃x,dead=[x]∧isC s.Floor x=true):Lone T (beg T c ch tick rest mute dead) (rob1 T c ch rest mute):=by
 have hsh:T.Shelves.length=0∨T.Shelves.length=1:=by
  rcases h.sh with e | ⟨x,e,_⟩ <;> rw [e] <;> simp
 have ht':=QN.1 hc
 have hcarr:0<T.Shelves.length→carr (beg T c ch tick rest mute dead) 0=0:=fun h1=>by
  unfold carr beg rob1 fidx
  rw [if_neg (by omega),if_pos h1,if_pos h1];rfl
 have hone:∀(i:Nat) r,(beg T c ch tick rest mute dead).Robots[i]?=some r→i=0∧r=rob1 T c ch rest mute:=fun i r hi=>by
  match i,hi with
  | 0,hi=>exact⟨rfl,(Option.some.inj hi).symm⟩
 have hshel:∀(m:Nat) x,(beg T c ch tick rest mute dead).Shelves[m]?=some x→0<T.Shelves.length∧m=0∧x=c:=fun m x hx=>by
  unfold beg at hx
  simp only at hx
  split at hx
  ·rename_i h1
   match m,hx with
   | 0,hx=>exact⟨h1,rfl,(Option.some.inj hx).symm⟩
  ·cases hx
 have hdd:∀(i:Nat) x,dead[i]?=some x→i=0∧isC s.Floor x=true:=fun i x hx=>by
  rcases hd with e | ⟨y,e,hy⟩ <;> rw [e] at hx
  ·cases hx
  ·match i,hx with
   | 0,hx=>cases hx;exact⟨rfl,hy⟩
 have hlen:(beg T c ch tick rest mute dead).Shelves.length=T.Shelves.length:=by
  unfold beg;simp only
  split
  ·simp;omega
  ·simp;omega
 refine⟨⟨ht,hlen,by rw [h.rb];rfl,by show ([]:List Int).length≤20;simp,fun i r hi=>?_,fun m x hx hcb=>?_,fun i x hx=>(by cases hx),fun i x hx=>by rw [h.fl];exact (hdd i x hx).2,fun i x y hx hy=>?_,fun i x hx=>(by cases hx),fun i x y hx=>(by cases hx),?_⟩,⟨by rw [hlen];omega,by show ([_]:List ApiRobot).length≤_;simp,by show ([]:List Int).length≤_;simp,?_,by show ([]:List ApiStuck).length≤_;simp⟩,rfl,rfl,rfl,rfl,ht.1,fun m x hx=>?_⟩
 ·obtain⟨e1,e2⟩:=hone i r hi
  subst e1;subst e2
  refine⟨by rw [h.fl];exact hc,by rw [h.fl];exact hk,?_,hch,hr,hm,fun h0=>?_⟩
  ·rw [hlen];unfold rob1;simp only;split <;> omega
  ·have h1:0<T.Shelves.length:=by
    unfold rob1 at h0;simp only at h0
    split at h0
    ·assumption
    ·omega
   have e:(rob1 T c ch rest mute).Load=0:=by unfold rob1;rw [if_pos h1]
   rw [e]
   refine⟨hcarr h1,?_⟩
   show (if 0<T.Shelves.length then [c] else []:List Int).getD (Int.toNat 0) 0=c
   rw [if_pos h1];rfl
 ·obtain⟨h1,e,_⟩:=hshel m x hx
  subst e
  unfold carB at hcb
  rw [show ((0:Nat):Int)=0 from rfl,hcarr h1] at hcb;simp at hcb
 ·have:=(hdd _ y hy).1;omega
 ·have hne:=Q4b (c:=c) (by omega)
  unfold allS
  have e1:(beg T c ch tick rest mute dead).Robots.length=1:=rfl
  have e2:(beg T c ch tick rest mute dead).People.length=0:=rfl
  have e3:(List.range (beg T c ch tick rest mute dead).Shelves.length).flatMap (slS (beg T c ch tick rest mute dead))=[]:=by
   rw [hlen]
   rcases hsh with e | e <;> rw [e]
   ·rfl
   ·show slS _ 0++[]=[]
    unfold slS carB
    rw [show ((0:Nat):Int)=0 from rfl,hcarr (by omega)];rfl
  rw [e1,e2,e3]
  show (slR (rob1 T c ch rest mute)++[]++[]++[]).Nodup
  simp only [List.append_nil]
  unfold slR
  split
  ·show [low c,high c].Nodup
   simp [hne]
  ·simp
 ·show dead.length≤12
  rcases hd with e | ⟨y,e,hy⟩ <;> rw [e] <;> simp
 ·obtain⟨h1,e,_⟩:=hshel m x hx
  subst e
  unfold rob1;rw [if_pos h1];rfl
end Go.Taq
/- The mathematics, part GS: the drive to a charger; ReachHolds (chapter 33). -/
set_option linter.unusedVariables false
set_option linter.unusedSimpArgs false
namespace Go.Taq
open Go
abbrev T6:=Int×List Int×List ApiRobot×List Int×List Int×List ApiStuck
def mkT6 (t:T6):ApiState:={Tick:=t.1,Shelves:=t.2.1,Robots:=t.2.2.1,People:=t.2.2.2.1,Dead:=t.2.2.2.2.1,Stuck:=t.2.2.2.2.2}
def Eno (F:Int) (u:ApiState) (r:ApiRobot):Prop:=0≤F∧u.Tick≤19999∧(F≠0→F+(r.Rest+r.Mute)*3≤r.Charge∧u.Tick+F+(r.Rest+r.Mute)*3≤19999)
section
variable {T:ApiSite} {L:List Int}
def Nam (T:ApiSite) (L f:List Int) (c d:Int) (y:Nat):Prop:=nx T.Floor c d=((y:Int),true)∧(y:Int)∉L∧0≤fu f y∧fu f y+prS T d y=fu f c.toNat
theorem Q9x (hf:RF T.Floor) (hs:RS T) {f:List Int} (h:FuL T L f) {c:Int} (hc:isC T.Floor c=true) (h0:0<fu f c.toNat):∃d y:Nat,d<6∧Nam T L f c d y:=by
 have ht:=QN.1 hc
 obtain⟨n,rfl⟩:=Int.eq_ofNat_of_zero_le ht.1
 rw [Int.toNat_natCast] at h0
 have hw:=h.sound n (by omega) (by omega)
 generalize hm:(fu f n).toNat=m at hw
 cases hw with
 | home=>omega
 | step hcl hnh hd hn hL hw=>
  rename_i d y m
  have h1:=h.least y _ hw
  have hok:=Wx hf (c:=(n:Int)) (d:=(d:Int)) (by rw [hn])
  rw [hn] at hok
  have hyi:0≤(y:Int)∧(y:Int)<T.Floor.Kind.length:=QN.1 hok.2.1
  have hpb:1≤prS T (d:Int) (y:Int):=(Zs (s:=T) hs (by omega) (by omega) hok.2.1).1
  have h2:=h.least n _ (.step hcl hnh hd hn hL (h.sound y (by omega) h1.1))
  refine⟨d,y,hd,hn,hL,h1.1,?_⟩
  rw [Int.toNat_natCast]
  omega
theorem Q1z (ks:OkApiSite T) (hf:RF T.Floor) (hs:RS T) (hn:T.Floor.Kind.length≤1000) (hsh:∀z,z∈T.Zones→z.Shut=[]) {u0:ApiState} {r0:ApiRobot} (h0:Lone T u0 r0) (hL:u0.Dead=L) (hE:Eno (fuV T L r0.Cell.toNat) u0 r0) {post:Bool→Prop} (hp:post true):QR T u0 post:=by
 unfold QR
 have hLl:L.length≤12:=by rw [←hL];exact h0.sz.dd
 refine Q2I ks hf hs hn (by rw [hL];unfold maxLen;omega) (fun f hF hB=>?_)
 rw [hL] at hF
 refine Jn.mk (fun _=>False) (Loop.mk (fun t:T6=>∃r,Lone T (mkT6 t) r∧(mkT6 t).Dead=L∧Eno (fuV T L r.Cell.toNat) (mkT6 t) r) (fun t=>(20000-t.1).toNat) ⟨r0,h0,hL,hE⟩ ?_) (fun _ h=>h.elim)
 rintro⟨t1,t2,t3,t4,t5,t6⟩ ⟨r,hl,hD,hFE⟩
 obtain⟨hF0,htk,hen⟩:=hFE
 have htk':t1≤19999:=htk
 have hone:t3=[r]:=hl.one
 have hDD:t5=L:=hD
 subst hone;subst hDD
 have hrr:=hl.rst.rob 0 r rfl
 have hcell:=hrr.cell
 have hci:=QN.1 hcell
 have hfl:=hF.len
 have hfu:fu f r.Cell.toNat=fuV T t5 r.Cell.toNat:=hF.eq (by omega)
 rw [←hfu] at hF0 hen
 refine Ite.lt (by show t1<20000;omega) (Jn.mk (fun t':T6=>(∃r',Lone T (mkT6 t') r'∧(mkT6 t').Dead=t5∧Eno (fuV T t5 r'.Cell.toNat) (mkT6 t') r')∧(20000-t'.1).toNat<(20000-t1).toNat) (Ite.f (by simp) ⟨r,rfl,?_⟩) (fun t' ht'=>ht'))
 refine Jn.mk (fun b=>b=false) (Ite.f (by simpa using hci.1) (by simp;omega)) (fun b hb=>Ite.f hb ⟨fu f r.Cell.toNat,?_,?_⟩)
 ·obtain⟨n,hn'⟩:=Int.eq_ofNat_of_zero_le hci.1
  rw [hn',Int.toNat_natCast];exact Ye (by omega)
 refine Ite.mk (fun _=>hp) (fun hnz=>?_)
 have hnz':fu f r.Cell.toNat≠0:=by simpa using hnz
 obtain⟨e1,e2⟩:=hen hnz'
 have hRe:=hrr.rest;have hMu:=hrr.mute;have hCh:=hrr.charge
 refine Jn.mk (fun a:Int=>(a=0∧¬(r.Rest=0∧r.Mute=0))∨(r.Rest=0∧r.Mute=0∧∃d y:Nat,d<6∧a=1+(d:Int)∧Nam T t5 f r.Cell d y)) (Loop.mk (fun t:Int×Int=>∃i:Nat,t.2=(i:Int)∧i≤6∧(¬(r.Rest=0∧r.Mute=0)→t.1=0)∧((t.1=0∧∀d y:Nat,d<i→¬Nam T t5 f r.Cell d y)∨(r.Rest=0∧r.Mute=0∧∃d y:Nat,d<6∧t.1=1+(d:Int)∧Nam T t5 f r.Cell d y))) (fun t=>6-t.2.toNat) ⟨0,rfl,by omega,fun _=>rfl,.inl ⟨rfl,fun d y hd=>by omega⟩⟩ ?_) (fun a ha=>?_)
 ·rintro⟨a,di⟩ ⟨i,e,hi,hz,hI⟩
  simp only at e hz hI
  subst e
  refine Jn.mk (fun b=>b=true↔(i<6∧r.Rest=0∧r.Mute=0)) (Ite.mk (fun h=>Ite.mk (fun h2=>?_) (fun h2=>?_)) (fun h=>?_)) (fun b hb=>Ite.mk (fun h=>?_) (fun h=>?_))
  ·have h1:(i:Int)<6:=of_decide_eq_true h
   have h2':r.Rest=0:=by simpa using h2
   show (r.Mute == 0)=true↔_
   rw [beq_iff_eq]
   exact⟨fun h3=>⟨by omega,h2',h3⟩,fun h3=>h3.2.2⟩
  ·have h2':¬r.Rest=0:=by simpa using h2
   exact⟨fun h3=>(by cases h3),fun h3=>absurd h3.2.1 h2'⟩
  ·have h1:¬(i:Int)<6:=of_decide_eq_false h
   exact⟨fun h3=>(by cases h3),fun h3=>absurd h3.1 (by omega)⟩
  ·obtain⟨hlt,q1,q2⟩:=hb.1 h
   have eW:w64 ((i:Int)+1)=((i+1:Nat):Int):=by rw [QF (by omega) (by omega)];simp
   have eA:w64 (1+(i:Int))=1+(i:Int):=QF (by omega) (by omega)
   refine W5 hf (Jn.mk (fun b=>b=true↔((nx T.Floor r.Cell i).2=true∧(nx T.Floor r.Cell i).1∉t5)) (Ite.mk (fun h2=>Q3R (l:=t5) (by unfold maxLen;omega) ?_) (fun h2=>?_)) (fun b hb2=>?_))
   ·show (!t5.contains (nx T.Floor r.Cell i).1)=true↔_
    rw [Bool.not_eq_true',←Bool.not_eq_true,List.contains_iff_mem]
    exact⟨fun h3=>⟨h2,h3⟩,fun h3=>h3.2⟩
   ·rw [h2];simp
   ·refine Jn.mk (fun a':Int=>(a'=0∧a=0∧∀y:Nat,¬Nam T t5 f r.Cell i y)∨(a'=a∧a≠0)∨(a'=1+(i:Int)∧∃y:Nat,Nam T t5 f r.Cell i y)) (Ite.mk (fun h2=>?_) (fun h2=>?_)) (fun a' ha'=>?_)
    ·obtain⟨g1,g2⟩:=hb2.1 h2
     have hok:=Wx hf g1
     have hyi:=QN.1 hok.2.1
     obtain⟨y,hy⟩:=Int.eq_ofNat_of_zero_le hyi.1
     have hnx:nx T.Floor r.Cell i=((y:Int),true):=by rw [←hy,←g1]
     rw [hnx] at g2 hok hyi ⊢
     simp only at g2 hok hyi ⊢
     have hpr:1≤prS T (i:Int) (y:Int)∧prS T (i:Int) (y:Int)≤400:=Zs (s:=T) hs (by omega) (by omega) hok.2.1
     have hby:=hB y (by omega)
     refine Jn.mk (fun b=>b=true↔Nam T t5 f r.Cell i y) ⟨fu f y,Ye (by omega),Ite.mk (fun h3=>⟨fu f r.Cell.toNat,?_,Yp ks hs ?_⟩) (fun h3=>?_)⟩ (fun b hb3=>Jn.mk _ (Ite.mk (fun h3=>?_) (fun h3=>?_)) (fun x hx=>hx))
     ·obtain⟨n,hn'⟩:=Int.eq_ofNat_of_zero_le hci.1
      rw [hn',Int.toNat_natCast];exact Ye (by omega)
     ·have h3':fu f y≥0:=of_decide_eq_true h3
      rw [QF (by omega) (by omega)]
      show (fu f y+prS T (i:Int) (y:Int) == fu f r.Cell.toNat)=true↔_
      rw [beq_iff_eq]
      exact⟨fun h4=>⟨hnx,g2,h3',h4⟩,fun h4=>h4.2.2.2⟩
     ·have h3':¬fu f y≥0:=of_decide_eq_false h3
      exact⟨fun h4=>(by cases h4),fun h4=>absurd h4.2.2.1 h3'⟩
     ·rw [eA];exact .inr (.inr ⟨rfl,y,hb3.1 h3⟩)
     ·by_cases ha0:a=0
      ·refine .inl ⟨ha0,ha0,fun y' hy'=>?_⟩
       have:(y':Int)=y:=by have:=hy'.1;rw [hnx] at this;simpa using (congrArg Prod.fst this).symm
       have:y'=y:=by omega
       subst this
       rw [hb3.2 hy'] at h3;cases h3
      ·exact .inr (.inl ⟨rfl,ha0⟩)
    ·by_cases ha0:a=0
     ·refine .inl ⟨ha0,ha0,fun y hy=>?_⟩
      have:b=true:=hb2.2 ⟨by rw [hy.1],by rw [hy.1];exact hy.2.1⟩
      rw [this] at h2;cases h2
     ·exact .inr (.inl ⟨rfl,ha0⟩)
    ·refine⟨⟨i+1,eW,by omega,fun h3=>absurd ⟨q1,q2⟩ h3,?_⟩,by show 6-(w64 ((i:Int)+1)).toNat<6-((i:Int)).toNat;rw [eW];omega⟩
     simp only
     rcases ha' with ⟨p1,p2,p3⟩ | ⟨p1,p2⟩ | ⟨p1,y,p2⟩
     ·rcases hI with ⟨_,hI⟩ | ⟨_,_,d,y,_,e,_⟩
      ·refine .inl ⟨p1,fun d y hd=>?_⟩
       by_cases ed:d=i
       ·subst ed;exact p3 y
       ·exact hI d y (by omega)
      ·omega
     ·rcases hI with ⟨e,_⟩ | hI
      ·exact absurd e p2
      ·rw [p1];exact .inr hI
     ·exact .inr ⟨q1,q2,i,y,hlt,p1,p2⟩
  ·rcases hI with ⟨g1,g2⟩ | hI
   ·by_cases hq:r.Rest=0∧r.Mute=0
    ·have hi6:i=6:=by
      rcases Nat.lt_or_ge i 6 with h6 | h6
      ·rw [hb.2 ⟨h6,hq⟩] at h;cases h
      ·omega
     obtain⟨d,y,hd,hy⟩:=Q9x hf hs hF hcell (by omega)
     exact absurd hy (g2 d y (by omega))
    ·exact .inl ⟨g1,hq⟩
   ·exact .inr hI
 -- the action is found
 have hno:∀b:Bool,b=false→Ite b (post false) (Gd T (mkT6 (t1,t2,[r],t4,t5,t6)) ([a]:List Int) fN (fun x87=>Ite (x87.2 != 0) (post false) ((fun t':T6=>(∃r',Lone T (mkT6 t') r'∧(mkT6 t').Dead=t5∧Eno (fuV T t5 r'.Cell.toNat) (mkT6 t') r')∧(20000-t'.1).toNat<(20000-t1).toNat) (x87.1.Tick,x87.1.Shelves,x87.1.Robots,x87.1.People,x87.1.Dead,x87.1.Stuck)))):=fun b hb=>by
  refine Ite.f hb ?_
  have hstay:=Q74 t1 (decide (r.Load≥0))
  have hcan:cst t1 a (decide (r.Load≥0))≤r.Charge:=by
   rcases ha with ⟨e,hq⟩ | ⟨q1,q2,d,y,hd,e,hy⟩
   ·rw [e];omega
   ·have hm:=(Q09 t1 a (decide (r.Load≥0))).2
    have hok:=Wx hf (c:=r.Cell) (d:=(d:Int)) (by rw [hy.1])
    have hpr:cst 20000 a true≤prS T d y:=by
     unfold prS
     rw [hy.1] at hok
     rw [if_neg (by rw [hok.2.1];simp;omega),e]
     have hsb:=Q2r hs (y:Int)
     split <;> omega
    have:=hy.2.2.1;have:=hy.2.2.2
    omega
  have ka:OkL I64 [a]:=by
   refine YP (by simp) (fun x hx=>?_)
   simp at hx;subst hx
   rcases ha with ⟨e,_⟩ | ⟨_,_,d,y,hd,e,_⟩ <;> rw [e] <;> unfold I64 <;> omega
  obtain⟨u',r',g1,g2,g3,g4,g5,g6,g7⟩:=Q63 hf hs hsh hl (u:=mkT6 (t1,t2,[r],t4,t5,t6)) (by show t1<20000;omega) (a:=a) (y:=if a=0 then r.Cell else (nx T.Floor r.Cell (a-1)).1) hcan (by
   rcases ha with ⟨e,_⟩ | ⟨q1,q2,d,y,hd,e,hy⟩
   ·exact .inl ⟨e,by rw [if_pos e]⟩
   ·have e':a-1=(d:Int):=by omega
    refine .inr ⟨q1,q2,XI.2 (by omega),?_,?_⟩
    ·rw [if_neg (by omega),e',hy.1]
    ·rw [if_neg (by omega),e',hy.1];exact hy.2.1)
  refine Q3P (n:=12) (by omega) ks hf hs hl.rst hl.sz ka ?_
  rw [g1]
  refine Ite.f (by simp) ?_
  have e6:mkT6 (u'.Tick,u'.Shelves,u'.Robots,u'.People,u'.Dead,u'.Stuck)=u':=rfl
  have gT:u'.Tick=t1+1:=g3
  refine⟨⟨r',by rw [e6];exact g2,by rw [e6];exact g4,?_⟩,by show (20000-u'.Tick).toNat<_;rw [gT];omega⟩
  rw [e6]
  have hr':=g2.rst.rob 0 r' g2.get
  have hci':=QN.1 hr'.cell
  rw [←hF.eq (c:=r'.Cell.toNat) (by omega),g5]
  rcases ha with ⟨e,hq⟩ | ⟨q1,q2,d,y,hd,e,hy⟩
  ·rw [if_pos e]
   rw [e] at g6
   rcases g7 with ⟨_,h1,h2⟩ | ⟨h1,_,_⟩
   ·refine⟨hF0,by omega,fun _=>?_⟩
    have g6':r'.Charge=r.Charge-cst t1 0 (decide (r.Load≥0)):=g6
    have e2':t1+fu f r.Cell.toNat+(r.Rest+r.Mute)*3≤19999:=e2
    rw [g6',gT,h1,h2]
    unfold imax
    constructor <;> split <;> split <;> omega
   ·exact absurd e h1
  ·have e':a-1=(d:Int):=by omega
   rw [if_neg (by omega),e',hy.1]
   simp only
   rw [Int.toNat_natCast]
   have hyN:=hy.2.2.2
   rcases g7 with ⟨h0,_⟩ | ⟨_,h1,h2⟩
   ·omega
   ·have hok:=Wx hf (c:=r.Cell) (d:=(d:Int)) (by rw [hy.1])
    rw [hy.1] at hok
    have hpb:1≤prS T (d:Int) (y:Int):=(Zs (s:=T) hs (by omega) (by omega) hok.2.1).1
    refine⟨hy.2.2.1,by omega,fun hz=>?_⟩
    have hk3:kd T.Floor (y:Int)≠3:=fun h3=>hz ((hF.zero hf hs (by have:=QN.1 hok.2.1;simp only at this;omega)).2 h3)
    have hpr:prS T d y=cst 20000 a true+(spd T y-1)*3:=by
     unfold prS
     rw [if_neg (by rw [hok.2.1];simp;omega),if_neg hk3,e]
    have hm:=(Q09 t1 a (decide (r.Load≥0))).2
    have hm1:=(Q09 t1 a (decide (r.Load≥0))).1
    have hcp:=(Q4H (d:=(d:Int)) (by omega) (by omega)).1
    have g6':r'.Charge=r.Charge-cst t1 a (decide (r.Load≥0)):=g6
    rw [←e] at hcp
    have hsy:r'.Rest=spd T y-1:=by
     rw [h1,if_neg (by omega),e',hy.1]
    have e2':t1+fu f r.Cell.toNat+(r.Rest+r.Mute)*3≤19999:=e2
    rw [g6',gT,hsy,h2]
    constructor <;> omega
 have hst:∀b:Bool,(a=0→b=false)→True:=fun _ _=>trivial
 refine Jn.mk (fun b=>b=false) (Ite.mk (fun h=>?_) (fun h=>?_)) (fun b hb=>hno b hb)
 ·have ha0:a=0:=by simpa using h
  have hq:¬(r.Rest=0∧r.Mute=0):=by
   rcases ha with ⟨_,hq⟩ | ⟨_,_,d,y,_,e,_⟩
   ·exact hq
   ·omega
  have hc3:decide (r.Charge<3)=false:=by simp;omega
  refine Ite.mk (fun h1=>Ite.mk (fun h2=>?_) (fun h2=>Xl (Ite.f hc3 rfl))) (fun h1=>Xl (Ite.f hc3 rfl))
  exact absurd ⟨by simpa using h1,by simpa using h2⟩ hq
 ·have ha0:¬a=0:=by simpa using h
  exact Xl (Ite.mk (fun _=>by simpa using ha0) (fun _=>rfl))
end
end Go.Taq
/- The mathematics, part GT: ReachHolds (chapter 33). -/
set_option linter.unusedVariables false
set_option linter.unusedSimpArgs false
namespace Go.Taq
open Go
section
variable {s T:ApiSite} {c:Int}
theorem Q1j {st:ApiState} {L:List Int} {D:Int} (ks:OkApiSite T) (hf:RF T.Floor) (hs:RS T) (hn:T.Floor.Kind.length≤1000) (hz:Sz st) (hc:∀(i:Nat) r,st.Robots[i]?=some r→isC T.Floor r.Cell=true) (hB:Blk st L) (hD:0≤D∧D≤100000) {i:Int} {post:Int×Bool→Prop} (hp:post (mgS T st L D i)):XW T st i D post:=by
 unfold XW
 refine Q1p hz (fun l hl hl2=>?_)
 rw [hl.uniq hB] at *
 exact S_reach_Needs ks hf hs hn (by unfold maxLen;omega) hD (fun v hv hvv=>Q1L hc hv hvv hp)
theorem Q81 {ch tick rest mute:Int}:Blk (beg T c ch tick rest mute []) [] where
 asc:=.nil
 mem:=fun a=>by simp [beg,rob1]
theorem Q1u (h:Aln s c T) (ks:OkApiSite s) (hf:RF s.Floor) (hs:RS s) (hsp:∀z,z∈s.Zones→z.Speed≤10) (hn:s.Floor.Kind.length≤24) (kc:I64 c) (hc:isC s.Floor c=true) (hk:kd s.Floor c≠0) {ch tick rest mute:Int} {L:List Int} (ht:0≤tick∧tick≤10000) (hr:0≤rest∧rest≤20) (hm:0≤mute∧mute≤20)
  (hd:L=[]∨∃x,L=[x]∧isC s.Floor x=true) (hF:0≤fuV s L c.toNat) (hch:fuV s L c.toNat+(rest+mute)*3≤ch) (hc1:ch≤1000000) {post:Bool→Prop} (hp:post true):QR T (beg T c ch tick rest mute L) post:=by
 have hL:=Q4w (rest:=rest) (mute:=mute) (tick:=tick) (ch:=ch) h (by omega) hc hk ⟨by omega,hc1⟩ ⟨ht.1,by omega⟩ ⟨hr.1,by omega⟩ ⟨hm.1,by omega⟩ hd
 have htop:=Q6D (L:=L) hf hs hsp hn c.toNat
 have hnT:T.Floor.Kind.length≤1000:=by rw [h.fl];omega
 refine Q1z (L:=L) (h.ok ks (by omega) kc) (by rw [h.fl];exact hf) (h.rs hs) hnT h.shut hL rfl ?_ hp
 show Eno (fuV T L c.toNat) _ _
 rw [h.alike.fu]
 refine⟨hF,by show tick≤19999;omega,fun _=>⟨?_,?_⟩⟩
 ·show _+(rest+mute)*3≤ch;exact hch
 ·show tick+_+(rest+mute)*3≤19999;omega
end
theorem Said_taquinlaw33_ReachHolds (s:ApiSite) (ks:OkApiSite s) (c:Int) (kc:I64 c) (x:Int) (kx:I64 x) (D:Int) (kD:I64 D) (tick:Int) (kt:I64 tick) (rest:Int) (kr:I64 rest) (mute:Int) (km:I64 mute) (laden:Bool) (kl:(fun (_:Bool)=>True) laden):V_taquinlaw33_ReachHolds s c x D tick rest mute laden (fun y=>y=true):=by
 unfold V_taquinlaw33_ReachHolds
 refine Q2U (Jn.mk (fun b=>b=false→Q1U s∧FewS s 24 20∧(0≤D∧D≤20)∧(0≤tick∧tick≤10000)∧(0≤rest∧rest≤10)∧(0≤mute∧mute≤10)) (Q3j ks (Ite.f rfl fun h=>by cases h) (fun h1 h2=>Ite.t rfl
  (Ite.mk (fun _ h=>by cases h) (fun a1=>Ite.mk (fun _ h=>by cases h) (fun a2=>Ite.mk (fun _ h=>by cases h) (fun a3=>Ite.mk (fun _ h=>by cases h) (fun a4=>Ite.mk (fun _ h=>by cases h) (fun a5=>Ite.mk (fun _ h=>by cases h) (fun a6=>Ite.mk (fun _ h=>by cases h) (fun a7 a8=>⟨h1,h2,?_⟩)))))))))) (fun b hb=>Ite.mk (fun _=>rfl) (fun h=>?_)))
 ·have a1':¬D<0:=of_decide_eq_false a1
  have a2':¬D>20:=of_decide_eq_false a2
  have a3':¬tick<0:=of_decide_eq_false a3
  have a4':¬tick>10000:=of_decide_eq_false a4
  have a5':¬rest<0:=of_decide_eq_false a5
  have a6':¬rest>10:=of_decide_eq_false a6
  have a7':¬mute<0:=of_decide_eq_false a7
  have a8':¬mute>10:=of_decide_eq_false a8
  omega
 obtain⟨hR,hFew,hD,ht,hr,hm⟩:=hb h
 have hf:=hR.fl
 have hs:=hR.rs
 have hn:s.Floor.Kind.length≤24:=by have:=hFew.kind;omega
 have hzl:s.Zones.length≤20:=by have:=hFew.zones;omega
 refine Jn.mk (fun _=>∀z,z∈s.Zones→z.Speed≤10) (Km (xs:=s.Zones) (by unfold maxLen;omega) (fun t:Int=>t) (fun i t=>∀z,z∈s.Zones.take i→z.Speed≤10) rfl (fun z hz=>by simp at hz) (fun i z t hz hti hI=>Ite.mk (fun _=>rfl) (fun h2=>⟨by rw [hti],fun z' hz'=>?_⟩)) (fun t hI=>by rw [List.take_length] at hI;exact hI)) (fun _ hsp=>?_)
 ·have h2':¬z.Speed>10:=of_decide_eq_false h2
  rcases (QG hz).1 hz' with h3 | h3
  ·exact hI z' h3
  ·subst h3;omega
 refine YI ks hf hs (by omega) (by simp [maxLen]) (by omega) ?_
 by_cases hc:isC s.Floor c=true
 case neg=>rw [if_neg hc];exact Ite.t (by decide) rfl
 rw [if_pos hc]
 refine Ite.mk (fun _=>rfl) (fun hneg=>?_)
 have h0:0≤nd s [] D s.Floor.Kind.length c.toNat:=by have:=of_decide_eq_false hneg;omega
 have hci:=QN.1 hc
 have hge:=(Q7t (s:=s) (L:=[]) hD.1 c.toNat s.Floor.Kind.length).2 h0
 have htop:=Q7a (L:=[]) hf hs (by omega) hD.1 c.toNat s.Floor.Kind.length
 have hk:kd s.Floor c≠0:=fun h3=>by
  rcases Q2s s [] c.toNat with ⟨g1,_⟩ | ⟨_,g2,_⟩
  ·omega
  ·obtain⟨n,rfl⟩:=Int.eq_ofNat_of_zero_le hci.1
   rw [Int.toNat_natCast] at g2
   generalize (fuV s [] n).toNat=m at g2
   cases g2 with
   | home _ h4=>rw [h3] at h4;cases h4
   | step _ _ _ hn' _ _=>exact (Wx hf (by rw [hn'])).2.2.2.2.2 h3
 generalize hND:nd s [] D s.Floor.Kind.length c.toNat=need at *
 refine Q2z ks (by omega) (by omega) (fun T hT=>?_)
 have hnT:T.Floor.Kind.length≤1000:=by rw [hT.fl];omega
 have kT:=hT.ok ks (by omega) kc
 have hfT:RF T.Floor:=by rw [hT.fl];exact hf
 have hsT:=hT.rs hs
 have ew:w64 (need+w64 (w64 (rest+mute)*3))=need+(rest+mute)*3:=by
  rw [QF (x:=rest+mute) (by omega) (by omega),QF (x:=(rest+mute)*3) (by omega) (by omega),QF (by omega) (by omega)]
 have hsh:T.Shelves.length=0∨T.Shelves.length=1:=by
  rcases hT.sh with e | ⟨x,e,_⟩ <;> rw [e] <;> simp
 refine Jn.mk (fun t=>t=(tick,(if 0<T.Shelves.length then [c] else []:List Int),([rob1 T c (need+(rest+mute)*3) 0 0]:List ApiRobot),([]:List Int),([]:List Int),([]:List ApiStuck))) (Xl (by rw [ew];exact Q0a rfl)) (fun t ht'=>?_)
 subst ht'
 refine⟨_,rfl,?_⟩
 have hone:∀L:List Int,QR T (beg T c (need+(rest+mute)*3) tick rest mute L) (fun y=>y=true)∨True:=fun _=>.inr trivial
 have hlone:=Q4w (rest:=rest) (mute:=mute) (tick:=tick) (ch:=need+(rest+mute)*3) (dead:=[]) hT (by omega) hc hk ⟨by omega,by omega⟩ ⟨ht.1,by omega⟩ ⟨hr.1,by omega⟩ ⟨hm.1,by omega⟩ (.inl rfl)
 have hmg:mgS T (beg T c (need+(rest+mute)*3) tick rest mute []) [] D 0=(0,true):=by
  unfold mgS
  rw [if_neg (by show ¬((0:Int)<0∨(0:Int)≥(1:Nat));omega)]
  show mgV (rob1 T c (need+(rest+mute)*3) rest mute) (nd T [] D T.Floor.Kind.length c.toNat)=_
  rw [hT.alike.nd,hT.fl,hND]
  unfold mgV
  rw [if_neg (by show ¬(false=true∨need<0);simp;omega)]
  show (w64 (w64 (need+(rest+mute)*3-need)-w64 (w64 (rest+mute)*3)),true)=_
  rw [QF (x:=rest+mute) (by omega) (by omega),QF (x:=(rest+mute)*3) (by omega) (by omega),QF (x:=need+(rest+mute)*3-need) (by omega) (by omega),QF (by omega) (by omega)]
  congr 1;omega
 refine Q1j (st:=beg T c (need+(rest+mute)*3) tick rest mute []) (L:=[]) kT hfT hsT hnT (hlone.sz.sz (by omega)) (fun i r hi=>(hlone.rst.rob i r hi).cell) Q81 (by omega) ?_
 rw [hmg]
 refine Jn.mk (fun b=>b=false) (Ite.t rfl (Ite.f rfl (Q3s (st:=beg T c (need+(rest+mute)*3) tick rest mute []) hlone.rst (hlone.sz.sz (by omega)) rfl))) (fun b hb2=>Ite.f hb2 (Q0a ⟨_,rfl,?_⟩))
 refine Jn.mk (fun b=>b=true↔(x≠c∧isC s.Floor x=true)) (Ite.mk (fun h1=>Q57 hf ?_) (fun h1=>?_)) (fun b hb3=>?_)
 ·have h1':x≠c:=by simpa using h1
  exact⟨fun h2=>⟨h1',h2⟩,fun h2=>h2.2⟩
 ·have h1':x=c:=by simpa using h1
  exact⟨fun h2=>(by cases h2),fun h2=>absurd h1' h2.1⟩
 refine Jn.mk (fun l=>(l=[]∨∃y,l=[y]∧isC s.Floor y=true)∧0≤fuV s l c.toNat∧fuV s l c.toNat≤need) (Ite.mk (fun h1=>?_) (fun h1=>⟨.inl rfl,hge.1,by show fuV s [] c.toNat≤need;omega⟩)) (fun l hl=>?_)
 ·obtain⟨g1,g2⟩:=hb3.1 h1
  refine⟨.inr ⟨x,rfl,g2⟩,?_⟩
  have hxi:=QN.1 g2
  have:=Q7o (s:=s) (L:=[]) hD.1 (c:=c.toNat) (x:=x.toNat) (by omega) (by simp) s.Floor.Kind.length (by omega) (by rw [hND];exact h0)
  rw [show ((x.toNat:Nat):Int)=x by omega,hND] at this
  exact this
 obtain⟨hl1,hl2,hl3⟩:=hl
 refine Jn.mk (fun b=>b=true) (Ite.t rfl ?_) (fun b hb4=>hb4)
 refine Q1u (ch:=need+(rest+mute)*3) (rest:=rest) (mute:=mute) (L:=l) hT ks hf hs hsp hn kc hc hk ht ⟨hr.1,by omega⟩ ⟨hm.1,by omega⟩ hl1 hl2 (by omega) (by omega) (Ite.t rfl ?_)
 exact Q1u (ch:=need) (rest:=D) (mute:=0) (L:=[]) hT ks hf hs hsp hn kc hc hk ht hD ⟨by omega,by omega⟩ (.inl rfl) hge.1 (by have:=hge.2;omega) (by omega) rfl
end Go.Taq
