/- The mathematics, several parts in one text. -/
import Derived.Test.YtbkpekodmhkbdaaGreatOF
/- The mathematics, part OG: ActAlone. -/
set_option linter.unusedVariables false
set_option linter.unusedSimpArgs false
namespace Go.Taq
open Go
section
variable {s:ApiSite} {st:ApiState}
theorem Q5x {i a:Int} {n:Nat} {r:ApiRobot} (hn:i=n) (hx:st.Robots[n]?=some r):doS s st i a=doR s st n r a:=by
 have hlt:=(List.getElem?_eq_some_iff.1 hx).1
 subst hn
 unfold doS
 rw [if_neg (by omega)]
 show doR s st n (st.Robots.getD n default) a=_
 rw [Xr hx]
theorem Q2X {i a:Int} {n:Nat} {r:ApiRobot} (hn:i=n) (hx:st.Robots[n]?=some r):legS s st i a=legR s st r a:=by
 have hlt:=(List.getElem?_eq_some_iff.1 hx).1
 subst hn
 unfold legS
 rw [if_neg (by omega)]
 show legR s st (st.Robots.getD n default) a=_
 rw [Xr hx]
theorem Q8p (n:Nat) (r:ApiRobot) (a:Int):(doR s st n r a).Robots.length=st.Robots.length:=by unfold doR;split <;> simp
theorem Q8s (n:Nat) (r:ApiRobot) (a:Int):(doR s st n r a).Shelves.length=st.Shelves.length:=by
 unfold doR;split
 ·rfl
 ·exact Q2T r a
theorem Q4P {α:Type} {l:List α} {n:Nat} {x:α} (h:l[n]?=some x):l.set n x=l:=by
 have:=set_idx (xs:=l) (i:=(n:Int)) (x:=x) (Qn rfl h)
 simpa using this
theorem Q7d {r:ApiRobot} {a:Int} (hm:mvB a=true) (hd:r.Dead=false) (h:legR s st r a=0):(nx s.Floor r.Cell (a-1)).2=true∧r.Rest≤0∧movS s st r (a-1)=0:=by
 have h1:=Gd.1 hm
 unfold legR at h
 rw [if_neg (by omega),if_neg (by omega)] at h
 split at h
 ·cases h
 split at h
 ·cases h
 rename_i hb
 split at h
 ·cases h
 refine⟨?_,?_,h⟩
 ·unfold movS at h
  split at h
  ·cases h
  ·rename_i hc
   cases e:(nx s.Floor r.Cell (a-1)).2 with
   | true=>rfl
   | false=>exact absurd (by rw [e];rfl) hc
 ·rw [hm] at hb;simpa using hb
end
end Go.Taq
/- The mathematics, part OH: ActLifts. -/
set_option linter.unusedVariables false
set_option linter.unusedSimpArgs false
namespace Go.Taq
open Go
section
variable {st:ApiState}
theorem Q5L {a:Nat} (ha:a<st.Shelves.length):st.Shelves.getD a 0∈st.Shelves:=by rw [KR (List.getElem?_eq_getElem ha)];exact List.getElem_mem ha
theorem Q8f {c:Int} (h:0≤atS st c):∃i:Nat,i<st.Shelves.length∧atS st c=i∧st.Shelves.getD i 0=c∧carB st i=false:=by
 rcases Ya (atP st c) st.Shelves.length with ⟨i,hi,e,hp,_⟩ | ⟨e,_⟩
 ·refine⟨i,hi,e,?_⟩
  unfold atP at hp;simpa using hp
 ·unfold atS at h;rw [e] at h;omega
end
end Go.Taq
/- The mathematics, part OI: ActRefuses. -/
set_option linter.unusedVariables false
set_option linter.unusedSimpArgs false
namespace Go.Taq
open Go
section
variable {s:ApiSite} {st:ApiState}
theorem Q1r {i:Int} (h:0≤i∧i<st.Robots.length):legS s st i 0=0:=by
 unfold legS;rw [if_neg (by omega)];unfold legR;rw [if_neg (by omega),if_pos rfl]
theorem Q6h {r:ApiRobot} {a:Int} (ha:1≤a∧a<10) (h:legR s st r a=0):(mvB a=true→r.Rest≤0∧movS s st r (a-1)=0)∧(a=7→r.Load<0∧0≤atS st r.Cell)∧(a=8→0≤r.Load∧stB s r.Cell=true)∧(a=9→kd s.Floor r.Cell=3):=by
 unfold legR at h
 rw [if_neg (by omega),if_neg (by omega)] at h
 split at h
 ·cases h
 split at h
 ·cases h
 rename_i hb
 split at h
 ·cases h
 refine⟨fun hm=>?_,fun e=>?_,fun e=>?_,fun e=>?_⟩
 ·rw [if_pos hm] at h;rw [hm] at hb;exact⟨by simpa using hb,h⟩
 ·rw [if_neg (by rw [Gd];omega),if_pos e] at h
  split at h
  ·cases h
  split at h
  ·cases h
  exact⟨by omega,by omega⟩
 ·rw [if_neg (by rw [Gd];omega),if_neg (by omega),if_pos e] at h
  split at h
  ·cases h
  refine⟨by omega,?_⟩
  unfold Q2L at h
  split at h
  ·cases h
  split at h
  ·cases h
  rename_i hst
  cases e2:stB s r.Cell with
  | true=>rfl
  | false=>exact absurd e2 hst
 ·rw [if_neg (by rw [Gd];omega),if_neg (by omega),if_neg (by omega)] at h
  split at h
  ·assumption
  ·cases h
theorem Q6f {r:ApiRobot} {d:Int} (h:movS s st r d=0):(nx s.Floor r.Cell d).2=true∧st.Dead.contains (nx s.Floor r.Cell d).1=false∧opn s (nx s.Floor r.Cell d).1 st.Tick=true∧(allS st).contains (low (nx s.Floor r.Cell d).1)=false∧(0≤r.Load→(allS st).contains (high (nx s.Floor r.Cell d).1)=false):=by
 unfold movS at h
 split at h
 ·cases h
 rename_i h1
 split at h
 ·cases h
 split at h
 ·cases h
 rename_i h3
 split at h
 ·cases h
 rename_i h4
 simp only [Bool.or_eq_true,Bool.not_eq_true',not_or,Bool.not_eq_true,Bool.not_eq_false,Bool.and_eq_true,decide_eq_true_eq,not_and] at h1 h3 h4
 exact⟨h1.1,h1.2,h3,h4.1,h4.2⟩
end
end Go.Taq
/- The mathematics, part OJ: legal actions keep states right, and shelves apart. -/
set_option linter.unusedVariables false
set_option linter.unusedSimpArgs false
namespace Go.Taq
open Go
theorem Zc {f f':Nat→List Int} {N n:Nat} (hn:n<N) (hf:∀j,j<N→j≠n→f' j=f j) (x:Int):((List.range N).flatMap f').count x+(f n).count x=((List.range N).flatMap f).count x+(f' n).count x:=by
 have same:∀M,M≤n→M≤N→(List.range M).flatMap f'=(List.range M).flatMap f:=by
  intro M
  induction M with
  | zero=>intros;rfl
  | succ M ih=>
   intro h1 h2
   rw [List.range_succ,List.flatMap_append,List.flatMap_append,ih (by omega) (by omega)]
   congr 1
   simp [hf M (by omega) (by omega)]
 have key:∀M,n<M→M≤N→((List.range M).flatMap f').count x+(f n).count x=((List.range M).flatMap f).count x+(f' n).count x:=by
  intro M
  induction M with
  | zero=>intro h;omega
  | succ M ih=>
   intro h1 h2
   rw [List.range_succ,List.flatMap_append,List.flatMap_append,List.count_append,List.count_append]
   simp only [List.flatMap_cons,List.flatMap_nil,List.append_nil]
   by_cases e:n=M
   ·subst e;rw [same n (by omega) (by omega)];omega
   ·have:=ih (by omega) (by omega)
    rw [hf M (by omega) (fun e2=>e e2.symm)];omega
 exact key N hn (by omega)
theorem Q01 {f f':Nat→List Int} {N:Nat} (hf:∀j,j<N→f' j=f j):(List.range N).flatMap f'=(List.range N).flatMap f:=by
 induction N with
 | zero=>rfl
 | succ N ih=>rw [List.range_succ,List.flatMap_append,List.flatMap_append,ih (fun j hj=>hf j (by omega))];simp [hf N (by omega)]
section
variable {s:ApiSite} {st:ApiState} {n:Nat} {r y:ApiRobot} {sh:List Int}
theorem Z4 {st:ApiState} {j:Nat}:carB st j=true↔∃(k:Nat) (z:ApiRobot),st.Robots[k]?=some z∧z.Load=(j:Int):=by
 rw [Q2w (by omega),List.any_eq_true]
 constructor
 ·rintro⟨z,hz,hl⟩
  obtain⟨k,hk⟩:=List.getElem?_of_mem hz
  exact⟨k,z,hk,by simpa using hl⟩
 ·rintro⟨k,z,hk,hl⟩
  exact⟨z,List.mem_of_getElem? hk,by simpa using hl⟩
theorem Y3 (hx:st.Robots[n]?=some r) {j:Nat}:carB st j=true↔r.Load=(j:Int)∨∃(k:Nat) (z:ApiRobot),k≠n∧st.Robots[k]?=some z∧z.Load=(j:Int):=by
 rw [Z4]
 constructor
 ·rintro⟨k,z,hk,hl⟩
  by_cases e:k=n
  ·subst e;rw [hx] at hk;cases hk;exact .inl hl
  ·exact .inr ⟨k,z,e,hk,hl⟩
 ·rintro (h | ⟨k,z,_,hk,hl⟩)
  ·exact⟨n,r,hx,h⟩
  ·exact⟨k,z,hk,hl⟩
theorem ZN (hx:st.Robots[n]?=some r) {j:Nat}:carB {st with Shelves:=sh,Robots:=st.Robots.set n y} j=true↔y.Load=(j:Int)∨∃(k:Nat) (z:ApiRobot),k≠n∧st.Robots[k]?=some z∧z.Load=(j:Int):=by
 have hlt:=(List.getElem?_eq_some_iff.1 hx).1
 have hy:({st with Shelves:=sh,Robots:=st.Robots.set n y}:ApiState).Robots[n]?=some y:=by show (st.Robots.set n y)[n]?=_;simp [hlt]
 rw [Y3 hy]
 constructor
 ·rintro (h | ⟨k,z,hne,hk,hl⟩)
  ·exact .inl h
  ·exact .inr ⟨k,z,hne,by rw [←hk];exact (List.getElem?_set_ne (by omega)).symm,hl⟩
 ·rintro (h | ⟨k,z,hne,hk,hl⟩)
  ·exact .inl h
  ·exact .inr ⟨k,z,hne,by rw [←hk];exact List.getElem?_set_ne (by omega),hl⟩
theorem Q4i {st:ApiState} {j:Nat} {a:ApiRobot} (hj:st.Robots[j]?=some a) (h0:0≤a.Load) (hu:∀(k:Nat) z,st.Robots[k]?=some z→z.Load=a.Load→k=j):carr st a.Load=j:=by
 unfold carr
 rw [if_neg (by omega)]
 rcases XO (fun z:ApiRobot=>z.Load == a.Load) st.Robots with ⟨i,x,hi,e,hp,_⟩ | ⟨_,hb⟩
 ·rw [e,hu i x hi (by simpa using hp)]
 ·have:=hb a (List.mem_of_getElem? hj);simp at this
theorem RSt.uniq (h:RSt s st) {j k:Nat} {a z:ApiRobot} (hj:st.Robots[j]?=some a) (hk:st.Robots[k]?=some z) (h0:0≤a.Load) (e:z.Load=a.Load):k=j:=by
 have h1:=((h.rob j a hj).own h0).1
 have h2:=((h.rob k z hk).own (by omega)).1
 rw [e,h1] at h2;omega
theorem RSt.upd (h:RSt s st) (hx:st.Robots[n]?=some r) (hc:isC s.Floor y.Cell=true) (hk:kd s.Floor y.Cell≠0) (hl:-1≤y.Load∧y.Load<st.Shelves.length) (hch:0≤y.Charge∧y.Charge≤1000000) (hre:0≤y.Rest∧y.Rest≤20000) (hmu:0≤y.Mute∧y.Mute≤20000)
  (hsl:sh.length=st.Shelves.length) (hown:0≤y.Load→sh.getD y.Load.toNat 0=y.Cell) (hfree:∀(k:Nat) z,k≠n→st.Robots[k]?=some z→0≤z.Load→z.Load≠y.Load∧sh.getD z.Load.toNat 0=st.Shelves.getD z.Load.toNat 0)
  (hshel:∀(i:Nat) c,sh[i]?=some c→carB {st with Shelves:=sh,Robots:=st.Robots.set n y} i=false→kx s.Floor c=1∨kx s.Floor c=2)
  (hcl:(allS {st with Shelves:=sh,Robots:=st.Robots.set n y}).Nodup):RSt s {st with Shelves:=sh,Robots:=st.Robots.set n y} where
 tick:=h.tick
 sl:=by show sh.length=_;rw [hsl];exact h.sl
 rl:=by show (st.Robots.set n y).length=_;rw [List.length_set];exact h.rl
 pl:=h.pl
 ppl:=h.ppl
 dead:=h.dead
 deadA:=h.deadA
 stuck:=h.stuck
 stuckA:=h.stuckA
 clash:=hcl
 shel:=hshel
 rob:=fun i x hi=>by
  have hlt:=(List.getElem?_eq_some_iff.1 hx).1
  have huniq:∀{j:Nat} {a:ApiRobot},(st.Robots.set n y)[j]?=some a→0≤a.Load→∀(k:Nat) z,(st.Robots.set n y)[k]?=some z→z.Load=a.Load→k=j:=by
   intro j a hj h0 k z hk e
   rcases Zw hj with ⟨ej,_,ea⟩ | ⟨ej,ha⟩
   ·rcases Zw hk with ⟨ek,_,ez⟩ | ⟨ek,hz⟩
    ·omega
    ·subst ea;exact absurd e (hfree k z ek hz (by omega)).1
   ·rcases Zw hk with ⟨ek,_,ez⟩ | ⟨ek,hz⟩
    ·subst ez;exact absurd e.symm (hfree j a ej ha h0).1
    ·exact h.uniq ha hz h0 e
  rcases Zw hi with ⟨ei,_,ex⟩ | ⟨ei,hx2⟩
  ·subst ex
   exact⟨hc,hk,by show _∧_<(sh.length:Int);rw [hsl];exact hl,hch,hre,hmu,fun h0=>⟨Q4i hi h0 (huniq hi h0),hown h0⟩⟩
  ·have hR:=h.rob i x hx2
   exact⟨hR.cell,hR.kind,by show _∧_<(sh.length:Int);rw [hsl];exact hR.load,hR.charge,hR.rest,hR.mute,fun h0=>⟨Q4i hi h0 (huniq hi h0),by show sh.getD _ _=_;rw [(hfree i x ei hx2 h0).2];exact (hR.own h0).2⟩⟩
theorem Z8 {α:Type} {l:List α} {m j:Nat} {a d:α} (hm:m<l.length):(l.set m a).getD j d=if j=m then a else l.getD j d:=by
 rw [List.getD_eq_getElem?_getD,List.getD_eq_getElem?_getD,List.getElem?_set]
 by_cases e:m=j
 ·subst e;simp [hm]
 ·rw [if_neg e,if_neg (fun e2=>e e2.symm)]
theorem YW (hx:st.Robots[n]?=some r) (x:Int):((List.range (st.Robots.set n y).length).flatMap (fun i=>slR ((st.Robots.set n y).getD i default))).count x+(slR r).count x=((List.range st.Robots.length).flatMap (fun i=>slR (st.Robots.getD i default))).count x+(slR y).count x:=by
 have hlt:=(List.getElem?_eq_some_iff.1 hx).1
 rw [List.length_set]
 have:=Zc (f:=fun i=>slR (st.Robots.getD i default)) (f':=fun i=>slR ((st.Robots.set n y).getD i default)) hlt (fun j _ hne=>by rw [Z8 hlt,if_neg hne]) x
 rw [Z8 hlt,if_pos rfl,Xr hx] at this
 exact this
theorem Yl {f:ApiFloor} (hf:RF f) {c:Int} (h:isC f c=true):low c=2*c∧high c=2*c+1:=by
 have h1:=QF.1 h;have h2:=hf.len.1
 unfold low high
 rw [QD (x:=2*c) (by omega) (by omega),QD (by omega) (by omega)];exact⟨rfl,rfl⟩
theorem Q0W (h:(allS st).Nodup) (x:Int):(allS st).count x≤1:=List.nodup_iff_count.1 h x
theorem kx12 {c:Int} (h:stB s c=true):kx s.Floor c=1∨kx s.Floor c=2:=by
 unfold stB Zi at h
 simp only [Bool.and_eq_true,Bool.or_eq_true,beq_iff_eq] at h
 unfold kx;rw [if_pos h.1];exact h.2
theorem Q9u {a:Int} (hc:0≤r.Charge∧r.Charge≤1000000) (ha:0≤a∧a<10):0≤chg st r a∧chg st r a≤1000000:=by
 have hb:=Q2c st.Tick a (decide (r.Load≥0))
 unfold chg
 split
 ·rename_i h
  unfold aft at h ⊢
  rw [if_neg (by omega)] at h ⊢
  split
  ·simp only;split <;> omega
  ·rename_i h9
   rw [if_neg h9] at h
   split
   ·rename_i h2;rw [if_pos h2] at h;cases h
   ·simp only;omega
 ·omega
theorem Q2m {st':ApiState} (hs:st'.Shelves.length=st.Shelves.length) (hk:∀j:Nat,j<st.Shelves.length→carB st' j=false→carB st j=false∧st'.Shelves.getD j 0=st.Shelves.getD j 0) (h:(Y2 s st).2.2=false):(Y2 s st').2.2=false:=by
 cases e:(Y2 s st').2.2 with
 | false=>rfl
 | true=>
  obtain⟨a,b,hab,hb,hbad⟩:=Z9.1 e
  rw [hs] at hb
  unfold badP at hbad
  simp only [Bool.and_eq_true,Bool.not_eq_true'] at hbad
  obtain⟨⟨⟨h1,h2⟩,h3⟩,h4⟩:=hbad
  obtain⟨k1,k2⟩:=hk a (by omega) h3
  obtain⟨k3,k4⟩:=hk b hb h4
  have:(Y2 s st).2.2=true:=Z9.2 ⟨a,b,hab,hb,by unfold badP;rw [←k2,←k4,h1,h2,k1,k3];rfl⟩
  rw [this] at h;cases h
theorem Q5J {st':ApiState} {j:Nat} (hc:carB st' j=carB st j) (hg:carB st j=false→st'.Shelves.getD j 0=st.Shelves.getD j 0):slS st' j=slS st j:=by
 unfold slS;rw [hc]
 split
 ·rfl
 ·rename_i h;rw [hg (by simpa using h)]
theorem Q1d (h:RSt s st) (hf:RF s.Floor) (hx:st.Robots[n]?=some r) (hc:isC s.Floor y.Cell=true) (hk:kd s.Floor y.Cell≠0) (hly:y.Load=r.Load) (hch:0≤y.Charge∧y.Charge≤1000000) (hre:0≤y.Rest∧y.Rest≤20000) (hmu:y.Mute=r.Mute)
  (hsh:sh=if 0≤r.Load then st.Shelves.set r.Load.toNat y.Cell else st.Shelves)
  (hsub:y.Cell=r.Cell∨∀x,x∈slR y→(allS st).contains x=false):
  RSt s {st with Shelves:=sh,Robots:=st.Robots.set n y}∧((Y2 s st).2.2=false→(Y2 s {st with Shelves:=sh,Robots:=st.Robots.set n y}).2.2=false):=by
 have hR:=h.rob n r hx
 have hcarE:∀j:Nat,carB {st with Shelves:=sh,Robots:=st.Robots.set n y} j=carB st j:=fun j=>by
  rw [Bool.eq_iff_iff,ZN hx,Y3 hx,hly]
 have hsl:sh.length=st.Shelves.length:=by rw [hsh];split <;> simp
 have hgo:∀j:Nat,(0≤r.Load→(j:Int)≠r.Load)→sh.getD j 0=st.Shelves.getD j 0:=fun j hj=>by
  rw [hsh];split
  ·rename_i h0;rw [Z8 (by have:=hR.load;omega),if_neg (by have:=hj h0;omega)]
  ·rfl
 have hgc:∀j:Nat,carB st j=false→sh.getD j 0=st.Shelves.getD j 0:=fun j hj=>hgo j fun h0 e=>by
  have:carB st j=true:=(Y3 hx).2 (.inl e.symm)
  rw [this] at hj;cases hj
 refine⟨h.upd hx hc hk (by rw [hly];exact hR.load) hch hre (by rw [hmu];exact hR.mute) hsl (fun h0=>?_) (fun k z hne hz h0=>?_) (fun i c hi hcr=>?_) ?_,fun hap=>Q2m hsl (fun j hj hc2=>?_) hap⟩
 ·rw [hly] at h0 ⊢;rw [hsh,if_pos h0,Z8 (by have:=hR.load;omega),if_pos rfl]
 ·have hne2:z.Load≠r.Load:=fun e=>hne (h.uniq hx hz (by omega) e)
  refine⟨by rw [hly];exact hne2,hgo _ fun _ e=>hne2 ?_⟩
  omega
 ·have hcr':carB st i=false:=by rw [←hcarE i];exact hcr
  have hlt:i<st.Shelves.length:=by rw [←hsl];exact (List.getElem?_eq_some_iff.1 hi).1
  have e:=hgc i hcr'
  rw [KR hi] at e
  exact h.shel i c (by rw [e,KR (List.getElem?_eq_getElem hlt)];exact List.getElem?_eq_getElem hlt) hcr'
 ·rw [List.nodup_iff_count]
  intro x
  have hA:=YW (y:=y) hx x
  have hS:(List.range sh.length).flatMap (slS {st with Shelves:=sh,Robots:=st.Robots.set n y})=(List.range st.Shelves.length).flatMap (slS st):=by
   rw [hsl];exact Q01 fun j hj=>Q5J (hcarE j) (hgc j)
  have hle:=Q0W h.clash x
  have hlh:=Yl hf hc
  have hy1:(slR y).count x≤1:=by
   refine List.nodup_iff_count.1 ?_ x
   unfold slR;split <;> simp;omega
  have hmem:(slR y).count x=0∨x∈slR y:=by
   by_cases e:x∈slR y
   ·exact .inr e
   ·exact .inl (List.count_eq_zero.2 e)
  have h0:x∈slR y→(allS st).contains x=false→(allS st).count x=0:=fun _ e=>List.count_eq_zero.2 (by simpa using e)
  unfold allS at hle h0 hsub ⊢
  simp only [List.count_append] at hle h0 ⊢
  show ((List.range (st.Robots.set n y).length).flatMap (fun i=>slR ((st.Robots.set n y).getD i default))).count x+((List.range sh.length).flatMap (slS {st with Shelves:=sh,Robots:=st.Robots.set n y})).count x+_≤1
  rw [hS]
  rcases hmem with e | e
  ·omega
  ·rcases hsub with e2 | e2
   ·have:slR y=slR r:=by unfold slR;rw [hly,e2]
    rw [this] at hA;omega
   ·have:=h0 e (e2 x e);omega
 ·have hj2:carB st j=false:=by rw [←hcarE j];exact hc2
  exact⟨hj2,hgc j hj2⟩
end
end Go.Taq
