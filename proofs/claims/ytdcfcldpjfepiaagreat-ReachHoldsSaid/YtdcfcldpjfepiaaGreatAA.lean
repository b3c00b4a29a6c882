/- The mathematics, several parts in one text. -/
import Derived.Test.YtdcfcldpjfepiaaGreatOG
/- The mathematics, part OH: ActLifts. -/
set_option linter.unusedVariables false
set_option linter.unusedSimpArgs false
namespace Go.Taq
open Go
section
variable {st:ApiState}
theorem Q6v {a:Nat} (ha:a<st.Shelves.length):st.Shelves.getD a 0∈st.Shelves:=by rw [Gv (List.getElem?_eq_getElem ha)];exact List.getElem_mem ha
theorem Q8k {c:Int} (h:0≤atS st c):∃i:Nat,i<st.Shelves.length∧atS st c=i∧st.Shelves.getD i 0=c∧carB st i=false:=by
 rcases Yh (atP st c) st.Shelves.length with ⟨i,hi,e,hp,_⟩ | ⟨e,_⟩
 ·refine⟨i,hi,e,?_⟩
  unfold atP at hp;simpa using hp
 ·unfold atS at h;rw [e] at h;omega
end
end Go.Taq
/- The mathematics, part OI: ActRefuses. -/
set_option linter.unusedVariables false
set_option linter.unusedSimpArgs false
namespace Go.Taq
open Go
section
variable {s:ApiSite} {st:ApiState}
theorem Q5A {i:Int} (h:0≤i∧i<st.Robots.length):legS s st i 0=0:=by
 unfold legS;rw [if_neg (by omega)];unfold legR;rw [if_neg (by omega),if_pos rfl]
theorem Q5X {r:ApiRobot} {a:Int} (ha:1≤a∧a<10) (h:legR s st r a=0):(mvB a=true→r.Rest≤0∧movS s st r (a-1)=0)∧(a=7→r.Load<0∧0≤atS st r.Cell)∧(a=8→0≤r.Load∧stB s r.Cell=true)∧(a=9→kd s.Floor r.Cell=3):=by
 unfold legR at h
 rw [if_neg (by omega),if_neg (by omega)] at h
 split at h
 ·cases h
 split at h
 ·cases h
 rename_i hb
 split at h
 ·cases h
 refine⟨fun hm=>?_,fun e=>?_,fun e=>?_,fun e=>?_⟩
 ·rw [if_pos hm] at h;rw [hm] at hb;exact⟨by simpa using hb,h⟩
 ·rw [if_neg (by rw [XI];omega),if_pos e] at h
  split at h
  ·cases h
  split at h
  ·cases h
  exact⟨by omega,by omega⟩
 ·rw [if_neg (by rw [XI];omega),if_neg (by omega),if_pos e] at h
  split at h
  ·cases h
  refine⟨by omega,?_⟩
  unfold Q2x at h
  split at h
  ·cases h
  split at h
  ·cases h
  rename_i hst
  cases e2:stB s r.Cell with
  | true=>rfl
  | false=>exact absurd e2 hst
 ·rw [if_neg (by rw [XI];omega),if_neg (by omega),if_neg (by omega)] at h
  split at h
  ·assumption
  ·cases h
theorem Q6u {r:ApiRobot} {d:Int} (h:movS s st r d=0):(nx s.Floor r.Cell d).2=true∧st.Dead.contains (nx s.Floor r.Cell d).1=false∧opn s (nx s.Floor r.Cell d).1 st.Tick=true∧(allS st).contains (low (nx s.Floor r.Cell d).1)=false∧(0≤r.Load→(allS st).contains (high (nx s.Floor r.Cell d).1)=false):=by
 unfold movS at h
 split at h
 ·cases h
 rename_i h1
 split at h
 ·cases h
 split at h
 ·cases h
 rename_i h3
 split at h
 ·cases h
 rename_i h4
 simp only [Bool.or_eq_true,Bool.not_eq_true',not_or,Bool.not_eq_true,Bool.not_eq_false,Bool.and_eq_true,decide_eq_true_eq,not_and] at h1 h3 h4
 exact⟨h1.1,h1.2,h3,h4.1,h4.2⟩
end
end Go.Taq
/- The mathematics, part OJ: legal actions keep states right, and shelves apart. -/
set_option linter.unusedVariables false
set_option linter.unusedSimpArgs false
namespace Go.Taq
open Go
theorem Z6 {f f':Nat→List Int} {N n:Nat} (hn:n<N) (hf:∀j,j<N→j≠n→f' j=f j) (x:Int):((List.range N).flatMap f').count x+(f n).count x=((List.range N).flatMap f).count x+(f' n).count x:=by
 have same:∀M,M≤n→M≤N→(List.range M).flatMap f'=(List.range M).flatMap f:=by
  intro M
  induction M with
  | zero=>intros;rfl
  | succ M ih=>
   intro h1 h2
   rw [List.range_succ,List.flatMap_append,List.flatMap_append,ih (by omega) (by omega)]
   congr 1
   simp [hf M (by omega) (by omega)]
 have key:∀M,n<M→M≤N→((List.range M).flatMap f').count x+(f n).count x=((List.range M).flatMap f).count x+(f' n).count x:=by
  intro M
  induction M with
  | zero=>intro h;omega
  | succ M ih=>
   intro h1 h2
   rw [List.range_succ,List.flatMap_append,List.flatMap_append,List.count_append,List.count_append]
   simp only [List.flatMap_cons,List.flatMap_nil,List.append_nil]
   by_cases e:n=M
   ·subst e;rw [same n (by omega) (by omega)];omega
   ·have:=ih (by omega) (by omega)
    rw [hf M (by omega) (fun e2=>e e2.symm)];omega
 exact key N hn (by omega)
theorem ZM {f f':Nat→List Int} {N:Nat} (hf:∀j,j<N→f' j=f j):(List.range N).flatMap f'=(List.range N).flatMap f:=by
 induction N with
 | zero=>rfl
 | succ N ih=>rw [List.range_succ,List.flatMap_append,List.flatMap_append,ih (fun j hj=>hf j (by omega))];simp [hf N (by omega)]
section
variable {s:ApiSite} {st:ApiState} {n:Nat} {r y:ApiRobot} {sh:List Int}
theorem Q2A {st:ApiState} {j:Nat}:carB st j=true↔∃(k:Nat) (z:ApiRobot),st.Robots[k]?=some z∧z.Load=(j:Int):=by
 rw [Q10 (by omega),List.any_eq_true]
 constructor
 ·rintro⟨z,hz,hl⟩
  obtain⟨k,hk⟩:=List.getElem?_of_mem hz
  exact⟨k,z,hk,by simpa using hl⟩
 ·rintro⟨k,z,hk,hl⟩
  exact⟨z,List.mem_of_getElem? hk,by simpa using hl⟩
theorem Yb (hx:st.Robots[n]?=some r) {j:Nat}:carB st j=true↔r.Load=(j:Int)∨∃(k:Nat) (z:ApiRobot),k≠n∧st.Robots[k]?=some z∧z.Load=(j:Int):=by
 rw [Q2A]
 constructor
 ·rintro⟨k,z,hk,hl⟩
  by_cases e:k=n
  ·subst e;rw [hx] at hk;cases hk;exact .inl hl
  ·exact .inr ⟨k,z,e,hk,hl⟩
 ·rintro (h | ⟨k,z,_,hk,hl⟩)
  ·exact⟨n,r,hx,h⟩
  ·exact⟨k,z,hk,hl⟩
theorem Q0c (hx:st.Robots[n]?=some r) {j:Nat}:carB {st with Shelves:=sh,Robots:=st.Robots.set n y} j=true↔y.Load=(j:Int)∨∃(k:Nat) (z:ApiRobot),k≠n∧st.Robots[k]?=some z∧z.Load=(j:Int):=by
 have hlt:=(List.getElem?_eq_some_iff.1 hx).1
 have hy:({st with Shelves:=sh,Robots:=st.Robots.set n y}:ApiState).Robots[n]?=some y:=by show (st.Robots.set n y)[n]?=_;simp [hlt]
 rw [Yb hy]
 constructor
 ·rintro (h | ⟨k,z,hne,hk,hl⟩)
  ·exact .inl h
  ·exact .inr ⟨k,z,hne,by rw [←hk];exact (List.getElem?_set_ne (by omega)).symm,hl⟩
 ·rintro (h | ⟨k,z,hne,hk,hl⟩)
  ·exact .inl h
  ·exact .inr ⟨k,z,hne,by rw [←hk];exact List.getElem?_set_ne (by omega),hl⟩
theorem Q5W {st:ApiState} {j:Nat} {a:ApiRobot} (hj:st.Robots[j]?=some a) (h0:0≤a.Load) (hu:∀(k:Nat) z,st.Robots[k]?=some z→z.Load=a.Load→k=j):carr st a.Load=j:=by
 unfold carr
 rw [if_neg (by omega)]
 rcases XR (fun z:ApiRobot=>z.Load == a.Load) st.Robots with ⟨i,x,hi,e,hp,_⟩ | ⟨_,hb⟩
 ·rw [e,hu i x hi (by simpa using hp)]
 ·have:=hb a (List.mem_of_getElem? hj);simp at this
theorem RSt.uniq (h:RSt s st) {j k:Nat} {a z:ApiRobot} (hj:st.Robots[j]?=some a) (hk:st.Robots[k]?=some z) (h0:0≤a.Load) (e:z.Load=a.Load):k=j:=by
 have h1:=((h.rob j a hj).own h0).1
 have h2:=((h.rob k z hk).own (by omega)).1
 rw [e,h1] at h2;omega
theorem RSt.upd (h:RSt s st) (hx:st.Robots[n]?=some r) (hc:isC s.Floor y.Cell=true) (hk:kd s.Floor y.Cell≠0) (hl:-1≤y.Load∧y.Load<st.Shelves.length) (hch:0≤y.Charge∧y.Charge≤1000000) (hre:0≤y.Rest∧y.Rest≤20000) (hmu:0≤y.Mute∧y.Mute≤20000)
  (hsl:sh.length=st.Shelves.length) (hown:0≤y.Load→sh.getD y.Load.toNat 0=y.Cell) (hfree:∀(k:Nat) z,k≠n→st.Robots[k]?=some z→0≤z.Load→z.Load≠y.Load∧sh.getD z.Load.toNat 0=st.Shelves.getD z.Load.toNat 0)
  (hshel:∀(i:Nat) c,sh[i]?=some c→carB {st with Shelves:=sh,Robots:=st.Robots.set n y} i=false→kx s.Floor c=1∨kx s.Floor c=2)
  (hcl:(allS {st with Shelves:=sh,Robots:=st.Robots.set n y}).Nodup):RSt s {st with Shelves:=sh,Robots:=st.Robots.set n y} where
 tick:=h.tick
 sl:=by show sh.length=_;rw [hsl];exact h.sl
 rl:=by show (st.Robots.set n y).length=_;rw [List.length_set];exact h.rl
 pl:=h.pl
 ppl:=h.ppl
 dead:=h.dead
 deadA:=h.deadA
 stuck:=h.stuck
 stuckA:=h.stuckA
 clash:=hcl
 shel:=hshel
 rob:=fun i x hi=>by
  have hlt:=(List.getElem?_eq_some_iff.1 hx).1
  have huniq:∀{j:Nat} {a:ApiRobot},(st.Robots.set n y)[j]?=some a→0≤a.Load→∀(k:Nat) z,(st.Robots.set n y)[k]?=some z→z.Load=a.Load→k=j:=by
   intro j a hj h0 k z hk e
   rcases Zy hj with ⟨ej,_,ea⟩ | ⟨ej,ha⟩
   ·rcases Zy hk with ⟨ek,_,ez⟩ | ⟨ek,hz⟩
    ·omega
    ·subst ea;exact absurd e (hfree k z ek hz (by omega)).1
   ·rcases Zy hk with ⟨ek,_,ez⟩ | ⟨ek,hz⟩
    ·subst ez;exact absurd e.symm (hfree j a ej ha h0).1
    ·exact h.uniq ha hz h0 e
  rcases Zy hi with ⟨ei,_,ex⟩ | ⟨ei,hx2⟩
  ·subst ex
   exact⟨hc,hk,by show _∧_<(sh.length:Int);rw [hsl];exact hl,hch,hre,hmu,fun h0=>⟨Q5W hi h0 (huniq hi h0),hown h0⟩⟩
  ·have hR:=h.rob i x hx2
   exact⟨hR.cell,hR.kind,by show _∧_<(sh.length:Int);rw [hsl];exact hR.load,hR.charge,hR.rest,hR.mute,fun h0=>⟨Q5W hi h0 (huniq hi h0),by show sh.getD _ _=_;rw [(hfree i x ei hx2 h0).2];exact (hR.own h0).2⟩⟩
theorem Z5 {α:Type} {l:List α} {m j:Nat} {a d:α} (hm:m<l.length):(l.set m a).getD j d=if j=m then a else l.getD j d:=by
 rw [List.getD_eq_getElem?_getD,List.getD_eq_getElem?_getD,List.getElem?_set]
 by_cases e:m=j
 ·subst e;simp [hm]
 ·rw [if_neg e,if_neg (fun e2=>e e2.symm)]
theorem YC (hx:st.Robots[n]?=some r) (x:Int):((List.range (st.Robots.set n y).length).flatMap (fun i=>slR ((st.Robots.set n y).getD i default))).count x+(slR r).count x=((List.range st.Robots.length).flatMap (fun i=>slR (st.Robots.getD i default))).count x+(slR y).count x:=by
 have hlt:=(List.getElem?_eq_some_iff.1 hx).1
 rw [List.length_set]
 have:=Z6 (f:=fun i=>slR (st.Robots.getD i default)) (f':=fun i=>slR ((st.Robots.set n y).getD i default)) hlt (fun j _ hne=>by rw [Z5 hlt,if_neg hne]) x
 rw [Z5 hlt,if_pos rfl,Wi hx] at this
 exact this
theorem Yq {f:ApiFloor} (hf:RF f) {c:Int} (h:isC f c=true):low c=2*c∧high c=2*c+1:=by
 have h1:=QN.1 h;have h2:=hf.len.1
 unfold low high
 rw [QF (x:=2*c) (by omega) (by omega),QF (by omega) (by omega)];exact⟨rfl,rfl⟩
theorem Q14 (h:(allS st).Nodup) (x:Int):(allS st).count x≤1:=List.nodup_iff_count.1 h x
theorem kx12 {c:Int} (h:stB s c=true):kx s.Floor c=1∨kx s.Floor c=2:=by
 unfold stB Q04 at h
 simp only [Bool.and_eq_true,Bool.or_eq_true,beq_iff_eq] at h
 unfold kx;rw [if_pos h.1];exact h.2
theorem Q9l {a:Int} (hc:0≤r.Charge∧r.Charge≤1000000) (ha:0≤a∧a<10):0≤chg st r a∧chg st r a≤1000000:=by
 have hb:=Q4I st.Tick a (decide (r.Load≥0))
 unfold chg
 split
 ·rename_i h
  unfold aft at h ⊢
  rw [if_neg (by omega)] at h ⊢
  split
  ·simp only;split <;> omega
  ·rename_i h9
   rw [if_neg h9] at h
   split
   ·rename_i h2;rw [if_pos h2] at h;cases h
   ·simp only;omega
 ·omega
theorem Q2j {st':ApiState} (hs:st'.Shelves.length=st.Shelves.length) (hk:∀j:Nat,j<st.Shelves.length→carB st' j=false→carB st j=false∧st'.Shelves.getD j 0=st.Shelves.getD j 0) (h:(Y3 s st).2.2=false):(Y3 s st').2.2=false:=by
 cases e:(Y3 s st').2.2 with
 | false=>rfl
 | true=>
  obtain⟨a,b,hab,hb,hbad⟩:=Z7.1 e
  rw [hs] at hb
  unfold badP at hbad
  simp only [Bool.and_eq_true,Bool.not_eq_true'] at hbad
  obtain⟨⟨⟨h1,h2⟩,h3⟩,h4⟩:=hbad
  obtain⟨k1,k2⟩:=hk a (by omega) h3
  obtain⟨k3,k4⟩:=hk b hb h4
  have:(Y3 s st).2.2=true:=Z7.2 ⟨a,b,hab,hb,by unfold badP;rw [←k2,←k4,h1,h2,k1,k3];rfl⟩
  rw [this] at h;cases h
theorem Q6o {st':ApiState} {j:Nat} (hc:carB st' j=carB st j) (hg:carB st j=false→st'.Shelves.getD j 0=st.Shelves.getD j 0):slS st' j=slS st j:=by
 unfold slS;rw [hc]
 split
 ·rfl
 ·rename_i h;rw [hg (by simpa using h)]
theorem Q1g (h:RSt s st) (hf:RF s.Floor) (hx:st.Robots[n]?=some r) (hc:isC s.Floor y.Cell=true) (hk:kd s.Floor y.Cell≠0) (hly:y.Load=r.Load) (hch:0≤y.Charge∧y.Charge≤1000000) (hre:0≤y.Rest∧y.Rest≤20000) (hmu:y.Mute=r.Mute)
  (hsh:sh=if 0≤r.Load then st.Shelves.set r.Load.toNat y.Cell else st.Shelves)
  (hsub:y.Cell=r.Cell∨∀x,x∈slR y→(allS st).contains x=false):
  RSt s {st with Shelves:=sh,Robots:=st.Robots.set n y}∧((Y3 s st).2.2=false→(Y3 s {st with Shelves:=sh,Robots:=st.Robots.set n y}).2.2=false):=by
 have hR:=h.rob n r hx
 have hcarE:∀j:Nat,carB {st with Shelves:=sh,Robots:=st.Robots.set n y} j=carB st j:=fun j=>by
  rw [Bool.eq_iff_iff,Q0c hx,Yb hx,hly]
 have hsl:sh.length=st.Shelves.length:=by rw [hsh];split <;> simp
 have hgo:∀j:Nat,(0≤r.Load→(j:Int)≠r.Load)→sh.getD j 0=st.Shelves.getD j 0:=fun j hj=>by
  rw [hsh];split
  ·rename_i h0;rw [Z5 (by have:=hR.load;omega),if_neg (by have:=hj h0;omega)]
  ·rfl
 have hgc:∀j:Nat,carB st j=false→sh.getD j 0=st.Shelves.getD j 0:=fun j hj=>hgo j fun h0 e=>by
  have:carB st j=true:=(Yb hx).2 (.inl e.symm)
  rw [this] at hj;cases hj
 refine⟨h.upd hx hc hk (by rw [hly];exact hR.load) hch hre (by rw [hmu];exact hR.mute) hsl (fun h0=>?_) (fun k z hne hz h0=>?_) (fun i c hi hcr=>?_) ?_,fun hap=>Q2j hsl (fun j hj hc2=>?_) hap⟩
 ·rw [hly] at h0 ⊢;rw [hsh,if_pos h0,Z5 (by have:=hR.load;omega),if_pos rfl]
 ·have hne2:z.Load≠r.Load:=fun e=>hne (h.uniq hx hz (by omega) e)
  refine⟨by rw [hly];exact hne2,hgo _ fun _ e=>hne2 ?_⟩
  omega
 ·have hcr':carB st i=false:=by rw [←hcarE i];exact hcr
  have hlt:i<st.Shelves.length:=by rw [←hsl];exact (List.getElem?_eq_some_iff.1 hi).1
  have e:=hgc i hcr'
  rw [Gv hi] at e
  exact h.shel i c (by rw [e,Gv (List.getElem?_eq_getElem hlt)];exact List.getElem?_eq_getElem hlt) hcr'
 ·rw [List.nodup_iff_count]
  intro x
  have hA:=YC (y:=y) hx x
  have hS:(List.range sh.length).flatMap (slS {st with Shelves:=sh,Robots:=st.Robots.set n y})=(List.range st.Shelves.length).flatMap (slS st):=by
   rw [hsl];exact ZM fun j hj=>Q6o (hcarE j) (hgc j)
  have hle:=Q14 h.clash x
  have hlh:=Yq hf hc
  have hy1:(slR y).count x≤1:=by
   refine List.nodup_iff_count.1 ?_ x
   unfold slR;split <;> simp;omega
  have hmem:(slR y).count x=0∨x∈slR y:=by
   by_cases e:x∈slR y
   ·exact .inr e
   ·exact .inl (List.count_eq_zero.2 e)
  have h0:x∈slR y→(allS st).contains x=false→(allS st).count x=0:=fun _ e=>List.count_eq_zero.2 (by simpa using e)
  unfold allS at hle h0 hsub ⊢
  simp only [List.count_append] at hle h0 ⊢
  show ((List.range (st.Robots.set n y).length).flatMap (fun i=>slR ((st.Robots.set n y).getD i default))).count x+((List.range sh.length).flatMap (slS {st with Shelves:=sh,Robots:=st.Robots.set n y})).count x+_≤1
  rw [hS]
  rcases hmem with e | e
  ·omega
  ·rcases hsub with e2 | e2
   ·have:slR y=slR r:=by unfold slR;rw [hly,e2]
    rw [this] at hA;omega
   ·have:=h0 e (e2 x e);omega
 ·have hj2:carB st j=false:=by rw [←hcarE j];exact hc2
  exact⟨hj2,hgc j hj2⟩
end
end Go.Taq
/- The mathematics, part OK: what legal actions keep, one by one. -/
set_option linter.unusedVariables false
set_option linter.unusedSimpArgs false
namespace Go.Taq
open Go
section
variable {s:ApiSite} {st:ApiState} {n:Nat} {r:ApiRobot}
def Kept (s:ApiSite) (st st':ApiState):Prop:=RSt s st'∧((Y3 s st).2.2=false→(Y3 s st').2.2=false)
theorem Q5j (h:RSt s st) (hf:RF s.Floor) (hx:st.Robots[n]?=some r) (hr:r.Load<0) (hat:0≤atS st r.Cell) {ch:Int} (hch:0≤ch∧ch≤1000000):Kept s st {st with Shelves:=st.Shelves,Robots:=st.Robots.set n {r with Load:=atS st r.Cell,Charge:=ch}}:=by
 have hR:=h.rob n r hx
 obtain⟨i,hi,hie,hcell,hcar⟩:=Q8k hat
 rw [hie]
 have hlt:=(List.getElem?_eq_some_iff.1 hx).1
 have hc1:∀j:Nat,j≠i→carB {st with Shelves:=st.Shelves,Robots:=st.Robots.set n {r with Load:=(i:Int),Charge:=ch}} j=carB st j:=fun j hj=>by
  rw [Bool.eq_iff_iff,Q0c hx,Yb hx]
  constructor
  ·rintro (e | e)
   ·simp only at e;omega
   ·exact .inr e
  ·rintro (e | e)
   ·omega
   ·exact .inr e
 have hci:carB {st with Shelves:=st.Shelves,Robots:=st.Robots.set n {r with Load:=(i:Int),Charge:=ch}} i=true:=(Q0c hx).2 (.inl rfl)
 have hback:∀j:Nat,carB {st with Shelves:=st.Shelves,Robots:=st.Robots.set n {r with Load:=(i:Int),Charge:=ch}} j=false→carB st j=false:=fun j hj=>by
  by_cases e:j=i
  ·subst e;rw [hci] at hj;cases hj
  ·rw [←hc1 j e];exact hj
 refine⟨h.upd hx hR.cell hR.kind ⟨by simp only;omega,by simp only;omega⟩ hch hR.rest hR.mute rfl (fun _=>hcell) (fun k z hk hz h0=>⟨fun e=>?_,rfl⟩) (fun j c hj hcj=>h.shel j c hj (hback j hcj)) ?_,Q2j rfl (fun j _ hj=>⟨hback j hj,rfl⟩)⟩
 ·have:carB st i=true:=Q2A.2 ⟨k,z,hz,e⟩
  rw [this] at hcar;cases hcar
 ·rw [List.nodup_iff_count]
  intro x
  have hA:=YC (y:={r with Load:=(i:Int),Charge:=ch}) hx x
  have hS:=Z6 (f:=slS st) (f':=slS {st with Shelves:=st.Shelves,Robots:=st.Robots.set n {r with Load:=(i:Int),Charge:=ch}}) hi (fun j _ hj=>Q6o (hc1 j hj) (fun _=>rfl)) x
  have hle:=Q14 h.clash x
  have e1:slR r=[low r.Cell]:=by unfold slR;rw [if_neg (by omega)]
  have e2:slR {r with Load:=(i:Int),Charge:=ch}=[low r.Cell]++[high r.Cell]:=by unfold slR;rw [if_pos (by simp only;omega)];rfl
  have e3:slS st i=[high r.Cell]:=by unfold slS;rw [hcar,hcell];rfl
  have e4:slS {st with Shelves:=st.Shelves,Robots:=st.Robots.set n {r with Load:=(i:Int),Charge:=ch}} i=[]:=by unfold slS;rw [hci];rfl
  rw [e1,e2,List.count_append] at hA
  rw [e3,e4,List.count_nil] at hS
  unfold allS at hle ⊢
  simp only [List.count_append] at hle ⊢
  omega
theorem Q68 (h:RSt s st) (hf:RF s.Floor) (hx:st.Robots[n]?=some r) (hr:0≤r.Load) (hd:Q2x s st r.Load r.Cell=0) {ch:Int} (hch:0≤ch∧ch≤1000000):Kept s st {st with Shelves:=st.Shelves,Robots:=st.Robots.set n {r with Load:=-1,Charge:=ch}}:=by
 have hR:=h.rob n r hx
 obtain⟨i,hi⟩:=Int.eq_ofNat_of_zero_le hr
 have hil:i<st.Shelves.length:=by have:=hR.load;omega
 have hcell:st.Shelves.getD i 0=r.Cell:=by have:=(hR.own hr).2;rw [hi] at this;exact this
 have hcar:carB st i=true:=Q2A.2 ⟨n,r,hx,hi⟩
 unfold Q2x at hd
 split at hd
 ·cases hd
 split at hd
 ·cases hd
 rename_i hst
 split at hd
 ·cases hd
 split at hd
 ·cases hd
 rename_i hap
 have hstB:stB s r.Cell=true:=by simpa using hst
 have hc1:∀j:Nat,j≠i→carB {st with Shelves:=st.Shelves,Robots:=st.Robots.set n {r with Load:=-1,Charge:=ch}} j=carB st j:=fun j hj=>by
  rw [Bool.eq_iff_iff,Q0c hx,Yb hx]
  constructor
  ·rintro (e | e)
   ·simp only at e;omega
   ·exact .inr e
  ·rintro (e | e)
   ·omega
   ·exact .inr e
 have hci:carB {st with Shelves:=st.Shelves,Robots:=st.Robots.set n {r with Load:=-1,Charge:=ch}} i=false:=by
  cases e:carB {st with Shelves:=st.Shelves,Robots:=st.Robots.set n {r with Load:=-1,Charge:=ch}} i with
  | false=>rfl
  | true=>
   rcases (Q0c hx).1 e with e2 | ⟨k,z,hk,hz,hzl⟩
   ·simp only at e2;omega
   ·exact absurd (h.uniq hx hz hr (by omega)) hk
 refine⟨h.upd hx hR.cell hR.kind ⟨by simp,by simp only;omega⟩ hch hR.rest hR.mute rfl (fun h0=>by simp at h0) (fun k z hk hz h0=>⟨by simp only;omega,rfl⟩) (fun j c hj hcj=>?_) ?_,fun hap0=>?_⟩
 ·by_cases e:j=i
  ·subst e;rw [Gv hj] at hcell;rw [hcell];exact kx12 hstB
  ·exact h.shel j c hj (by rw [←hc1 j e];exact hcj)
 ·rw [List.nodup_iff_count]
  intro x
  have hA:=YC (y:={r with Load:=-1,Charge:=ch}) hx x
  have hS:=Z6 (f:=slS st) (f':=slS {st with Shelves:=st.Shelves,Robots:=st.Robots.set n {r with Load:=-1,Charge:=ch}}) hil (fun j _ hj=>Q6o (hc1 j hj) (fun _=>rfl)) x
  have hle:=Q14 h.clash x
  have e1:slR r=[low r.Cell]++[high r.Cell]:=by unfold slR;rw [if_pos hr];rfl
  have e2:slR {r with Load:=-1,Charge:=ch}=[low r.Cell]:=by unfold slR;rw [if_neg (by simp)]
  have e3:slS st i=[]:=by unfold slS;rw [hcar];rfl
  have e4:slS {st with Shelves:=st.Shelves,Robots:=st.Robots.set n {r with Load:=-1,Charge:=ch}} i=[high r.Cell]:=by
   unfold slS;rw [hci];show [high (st.Shelves.getD i 0)]=_;rw [hcell]
  rw [e1,e2,List.count_append] at hA
  rw [e3,e4,List.count_nil] at hS
  unfold allS at hle ⊢
  simp only [List.count_append] at hle ⊢
  omega
 ·cases e:(Y3 s {st with Shelves:=st.Shelves,Robots:=st.Robots.set n {r with Load:=-1,Charge:=ch}}).2.2 with
  | false=>rfl
  | true=>
   exfalso
   obtain⟨a,b,hab,hb,hbad⟩:=Z7.1 e
   have hb':b<st.Shelves.length:=hb
   unfold badP at hbad
   simp only [Bool.and_eq_true,Bool.not_eq_true'] at hbad
   obtain⟨⟨⟨h1,h2⟩,h3⟩,h4⟩:=hbad
   -- the shelf that is put down,and another
   have key:∀j:Nat,j<st.Shelves.length→j≠i→carB st j=false→Q0n s.Floor (st.Shelves.getD j 0) r.Cell=true→nev s (clsS s i) (clsS s j)=true→False:=fun j hj hne hcj hn hv=>by
    refine hap (ZV (i:=j) hj ?_)
    unfold dAp
    rw [hi,hcj,hn,hv]
    simp;omega
   by_cases ea:a=i
   ·subst ea
    have hbi:b≠a:=by omega
    rw [hc1 b hbi] at h4
    rw [hcell] at h1
    rw [Q53 hf hR.cell (h.cells _ (Q6v hb'))] at h1
    exact key b hb' hbi h4 h1 h2
   ·by_cases eb:b=i
    ·subst eb
     rw [hc1 a ea] at h3
     rw [hcell] at h1
     rw [Q6Y] at h2
     exact key a (by omega) ea h3 h1 h2
    ·rw [hc1 a ea] at h3;rw [hc1 b eb] at h4
     have:(Y3 s st).2.2=true:=Z7.2 ⟨a,b,hab,hb',by unfold badP;rw [h1,h2,h3,h4];rfl⟩
     rw [this] at hap0;cases hap0
theorem Q5N (h:RSt s st) (hx:st.Robots[n]?=some r):st.Shelves=if 0≤r.Load then st.Shelves.set r.Load.toNat r.Cell else st.Shelves:=by
 split
 ·rename_i h0
  have hR:=h.rob n r hx
  have hlt:r.Load.toNat<st.Shelves.length:=by have:=hR.load;omega
  have h1:=(hR.own h0).2
  have hx2:=List.getElem?_eq_getElem hlt
  rw [Gv hx2] at h1
  rw [←h1];exact (Q4N hx2).symm
 ·rfl
theorem Q6F {a:Int} (e:a=8) (h:legR s st r a=0):Q2x s st r.Load r.Cell=0:=by
 unfold legR at h
 rw [if_neg (by omega),if_neg (by omega)] at h
 split at h
 ·cases h
 split at h
 ·cases h
 split at h
 ·cases h
 rw [if_neg (by rw [XI];omega),if_neg (by omega)] at h
 split at h
 ·cases h
 exact h
theorem Q7H (h:RSt s st) (ls:LS s st) (hx:st.Robots[n]?=some r) {a:Int} (ha:0≤a∧a<10) (hleg:legR s st r a=0):Kept s st (doR s st n r a):=by
 have hR:=h.rob n r hx
 have hch:=Q9l (st:=st) (r:=r) hR.charge ha
 unfold doR
 by_cases hd:r.Dead=true
 ·rw [if_pos hd];exact⟨h,fun e=>e⟩
 rw [if_neg hd]
 have hd':r.Dead=false:=by simpa using hd
 cases hm:mvB a with
 | true=>
  obtain⟨hnx,hrest,hmov⟩:=Q6G hm hd' hleg
  have hm':=XI.1 hm
  have hld:lod st r a=r.Load:=by unfold lod;rw [if_neg (by omega),if_neg (by omega)]
  obtain⟨m1,m2,m3,m4,m5⟩:=Q6u hmov
  obtain⟨n1,n2,n3,n4,n5,n6⟩:=Wx ls.fl hnx
  have hsp:=Q2r ls.rs (nx s.Floor r.Cell (a-1)).1
  have e1:nwR s st r a={r with Cell:=(nx s.Floor r.Cell (a-1)).1,Load:=r.Load,Charge:=chg st r a,Rest:=spd s (nx s.Floor r.Cell (a-1)).1-1}:=by unfold nwR;rw [hm,hnx,hld];rfl
  have e2:nwS s st r a=if 0≤r.Load then st.Shelves.set r.Load.toNat (nx s.Floor r.Cell (a-1)).1 else st.Shelves:=by unfold nwS;rw [hm,hnx,hld];simp
  rw [e1]
  refine Q1g h ls.fl hx n2 n5 rfl hch ⟨by simp only;omega,by simp only;omega⟩ rfl e2 (.inr fun x hxm=>?_)
  unfold slR at hxm
  simp only at hxm
  split at hxm
  ·rename_i h0
   simp only [List.mem_cons,List.not_mem_nil,or_false] at hxm
   rcases hxm with e | e
   ·rw [e];exact m4
   ·rw [e];exact m5 h0
  ·simp only [List.mem_cons,List.not_mem_nil,or_false] at hxm
   rw [hxm];exact m4
 | false=>
  have e1:nwR s st r a={r with Load:=lod st r a,Charge:=chg st r a}:=by unfold nwR;rw [hm];rfl
  have e2:nwS s st r a=st.Shelves:=by unfold nwS;rw [hm];simp
  rw [e1,e2]
  by_cases h0:a=0
  ·have hld:lod st r a=r.Load:=by unfold lod;rw [if_neg (by omega),if_neg (by omega)]
   rw [hld]
   exact Q1g h ls.fl hx hR.cell hR.kind rfl hch hR.rest rfl (Q5N h hx) (.inl rfl)
  have ha1:1≤a∧a<10:=by omega
  obtain⟨_,h7,h8,h9⟩:=Q5X ha1 hleg
  by_cases e7:a=7
  ·have hld:lod st r a=atS st r.Cell:=by unfold lod;rw [if_pos e7]
   rw [hld];exact Q5j h ls.fl hx (h7 e7).1 (h7 e7).2 hch
  by_cases e8:a=8
  ·have hld:lod st r a=-1:=by unfold lod;rw [if_neg e7,if_pos e8]
   rw [hld]
   refine Q68 h ls.fl hx (h8 e8).1 ?_ hch
   exact Q6F e8 hleg
  ·have hld:lod st r a=r.Load:=by unfold lod;rw [if_neg e7,if_neg e8]
   rw [hld]
   exact Q1g h ls.fl hx hR.cell hR.kind rfl hch hR.rest rfl (Q5N h hx) (.inl rfl)
end
end Go.Taq
/- The mathematics, part OM: right states in the program; ActKeeps. -/
set_option linter.unusedVariables false
set_option linter.unusedSimpArgs false
namespace Go.Taq
open Go
theorem Q4D {α:Type} {xs:List α} (hm:xs.length≤maxLen) {T:Int→(Bool→Prop)→Prop} {F E:Prop} (hT:∀(i:Nat) x,xs[i]?=some x→∀{q:Bool→Prop},q false→T (i:Int) q) (hE:E):
  Jn (fun (J:Unit→Prop)=>Loop (fun (s:Int) Y=>Ite (decide (s<(xs.length:Int))) (T s (fun b=>Ite b F (Y (w64 (s+1))))) (J ())) 0) (fun _=>E):=
 Jn.mk (fun _=>E) (Q0y hm (fun t=>t) (fun _ _=>True) rfl trivial (fun i x t hx ht _=>by rw [ht];exact hT i x hx (Ite.f rfl ⟨rfl,trivial⟩)) (fun _ _=>hE)) (fun _ h=>h)
section
variable {s:ApiSite} {st:ApiState}
theorem XN {x a b:Int} (h:a≤x∧x≤b) {post:Bool→Prop} (hp:post true):K7 x a b post:=by
 unfold K7
 refine Q0t ?_
 rw [decide_eq_true (by omega:x≥a),decide_eq_true h.2];exact hp
theorem Q1d {f:ApiFloor} {c:Int} {ks:List Int} (hk:ks.length≤10) (h0:0≤kx f c) (h:kx f c∈ks) {post:Bool→Prop} (hp:post true):XX f c ks post:=by
 have hc:isC f c=true:=by
  cases e:isC f c with
  | true=>rfl
  | false=>unfold kx at h0;rw [e] at h0;simp at h0
 have hb:=QN.1 hc
 unfold XX
 unfold kx at h;rw [if_pos hc] at h
 refine Jn.mk' (Ite.t (by simp;omega) (Ite.t (by simp;omega) ⟨_,WP hc,Kc (by unfold maxLen;omega) ?_⟩))
 rw [List.contains_iff_mem.2 h];exact hp
theorem Q2Q (h:RSt s st) (hz:Sz st) {post:Bool→Prop} (hp:post true):Gi s st post:=by
 unfold Gi
 have q1:=hz.rb
 have q2:=hz.sh
 refine Jn.mk (fun _=>post true) (Km (xs:=st.Robots) (by unfold maxLen;omega) (fun t:List (Int×Bool)×Int=>t.2) (fun i t=>∀x,0≤x→(lk t.1 x).getD false=true→∃(k:Nat) (z:ApiRobot),k<i∧st.Robots[k]?=some z∧z.Load=x) rfl (fun x _ hx=>by simp [lk] at hx) (fun i r t hx ht hI=>?_) (fun _ _=>hp)) (fun _ h=>h)
 have hR:=h.rob i r hx
 have hc:=QN.1 hR.cell
 refine Jn.mk (fun b=>b=false) (Ite.f (by simp;omega) (Ite.f (by simp;omega) ⟨_,WP hR.cell,Ite.f (by simpa using hR.kind) (XN (by rw [QF (by omega) (by omega)];have:=hR.load;omega) rfl)⟩)) (fun b hb=>Ite.f hb ?_)
 refine Jn.mk (fun b=>b=false) (XN hR.charge (Ite.t rfl (XN hR.rest (Ite.t rfl (XN hR.mute rfl))))) (fun b hb=>Ite.f hb ?_)
 refine Jn.mk (fun b=>b=false) (Ite.mk (fun h0=>Ite.mk (fun h1=>?_) (fun h1=>?_)) (fun _=>rfl)) (fun b hb=>Ite.f hb ⟨by show w64 (t.2+1)=_;rw [ht],fun x h0 hx2=>?_⟩)
 ·exfalso
  have h0':0≤r.Load:=by simpa using h0
  obtain⟨k,z,hk,hz2,e⟩:=hI _ h0' h1
  have:=h.uniq hx hz2 h0' e;omega
 ·have h0':0≤r.Load:=by simpa using h0
  obtain⟨m,hm⟩:=Int.eq_ofNat_of_zero_le h0'
  have hml:m<st.Shelves.length:=by have:=hR.load;omega
  have ho:=(hR.own h0').2
  have hsx:=List.getElem?_eq_getElem hml
  rw [hm] at ho
  have ho2:st.Shelves.getD m 0=r.Cell:=ho
  rw [Gv hsx] at ho2
  refine⟨_,QD hm hsx,?_⟩
  rw [ho2];simp
 ·have hx3:(lk (upd t.1 r.Load true) x).getD false=true:=hx2
  rw [Wu] at hx3
  by_cases e:r.Load=x
  ·exact⟨i,r,by omega,hx,e⟩
  ·rw [if_neg e] at hx3
   obtain⟨k,z,hk,hz2,e2⟩:=hI x h0 hx3
   exact⟨k,z,by omega,hz2,e2⟩
theorem Q4e (h:RSt s st) (hz:Sz st) {post:Bool→Prop} (hp:post true):WD s.Floor st post:=by
 unfold WD
 have q4:=hz.dd;have q5:=hz.sk
 refine Q4D (xs:=st.Dead) (by unfold maxLen;omega) (T:=fun i q=>∃x14,idx st.Dead i=some x14∧Jn (fun (J16:Bool→Prop)=>Ite (decide (x14<0)) (J16 true) (Ite (decide (x14≥(s.Floor.Kind.length:Int))) (J16 true) (Ite (decide (i>0)) (∃x20,idx st.Dead (w64 (i-1))=some x20∧J16 (decide (x14≤x20))) (J16 false)))) q) (fun i x hx q hq=>⟨x,QD rfl hx,Jn.mk' ?_⟩) ?_
 ·have hc:=QN.1 (h.dead i x hx)
  have hil:=(List.getElem?_eq_some_iff.1 hx).1
  refine Ite.f (by simp;omega) (Ite.f (by simp;omega) (Ite.mk (fun h1=>?_) (fun _=>hq)))
  cases i with
  | zero=>simp at h1
  | succ j=>
   have hy:=List.getElem?_eq_getElem (show j<st.Dead.length by omega)
   refine⟨_,QD (n:=j) (by rw [QF (by omega) (by omega)];omega) hy,?_⟩
   have:=h.deadA j _ x hy hx
   rw [decide_eq_false (by omega)];exact hq
 refine Q4D (xs:=st.Stuck) (by unfold maxLen;omega) (T:=fun i q=>∃x37,idx st.Stuck i=some x37∧Jn (fun (J39:Bool→Prop)=>XX s.Floor x37.Cell ([6]:List Int) (fun x40=>Ite x40 (K7 x37.Left 1 20000 (fun x42=>Ite x42 (Ite (decide (i>0)) (∃x45,idx st.Stuck (w64 (i-1))=some x45∧J39 (decide (x37.Cell≤x45.Cell))) (J39 false)) (J39 true))) (J39 true))) q) (fun i x hx q hq=>⟨x,QD rfl hx,Jn.mk' ?_⟩) hp
 obtain⟨k1,k2,k3⟩:=h.stuck i x hx
 have hil:=(List.getElem?_eq_some_iff.1 hx).1
 refine Q1d (by decide) (by omega) (by rw [k1];decide) (Ite.t rfl (XN ⟨k2,k3⟩ (Ite.t rfl (Ite.mk (fun h1=>?_) (fun _=>hq)))))
 cases i with
 | zero=>simp at h1
 | succ j=>
  have hy:=List.getElem?_eq_getElem (show j<st.Stuck.length by omega)
  refine⟨_,QD (n:=j) (by rw [QF (by omega) (by omega)];omega) hy,?_⟩
  have:=h.stuckA j _ x hy hx
  rw [decide_eq_false (by omega)];exact hq
theorem Q3D {l:List Int} (hl:l.length≤10000) (hn:l.Nodup) {post:Int×Bool→Prop} (hp:post (0,false)):KX l post:=by
 unfold KX K8 Qt Qq Qg
 refine⟨by omega,?_⟩
 refine Each.inv l (fun i t=>t=l.take i) rfl (fun i x t hx ht Y hY=>?_) (fun t ht=>?_)
 ·have:=(List.getElem?_eq_some_iff.1 hx).1
  refine⟨by rw [ht];simp;omega,hY _ ?_⟩
  rw [ht,QL hx]
 rw [List.take_length] at ht;subst ht
 unfold Qf
 refine⟨by omega,?_⟩
 have hperm:=List.mergeSort_perm t (fun x y=>decide (x≤y))
 have hnd:=hperm.nodup_iff.2 hn
 have hlen:=hperm.length_eq
 generalize t.mergeSort (fun x y=>decide (x≤y))=m at *
 refine Jn.mk (fun _=>post (0,false)) ?_ (fun _ h=>h)
 refine Loop.inv (m.length-1) (fun i q=>q=(i:Int)+1) rfl (fun i q hi hq=>?_) (fun q hq=>Ite.f (by subst hq;simp;omega) hp)
 subst hq
 have h1:=List.getElem?_eq_getElem (show i+1<m.length by omega)
 have h2:=List.getElem?_eq_getElem (show i<m.length by omega)
 refine Ite.lt (by omega) ⟨_,QD (n:=i+1) (by omega) h1,_,QD (n:=i) (by rw [QF (by omega) (by omega)];omega) h2,Ite.f ?_ (by rw [QF (by omega) (by omega)];simp)⟩
 have:=List.pairwise_iff_getElem.1 hnd i (i+1) (by omega) (by omega) (by omega)
 simpa using fun e=>this e.symm
theorem Q3s (h:RSt s st) (hz:Sz st) {post:Bool→Prop} (hp:post true):W8 s st post:=by
 unfold W8
 have q1:=hz.sh;have q3:=hz.pp
 refine Jn.mk (fun b=>b=false) (XN h.tick (Ite.t rfl (Ite.f (by simp [h.sl]) (Ite.f (by simp [h.rl]) (Ite.f (by have:=h.pl;simp;omega) (Q2Q h hz (Ite.t rfl (Q4e h hz rfl)))))))) (fun b hb=>Ite.f hb ?_)
 refine Q4D (xs:=st.Shelves) (by unfold maxLen;omega) (T:=fun i q=>∃x27,idx st.Shelves i=some x27∧Jn (fun (J29:Bool→Prop)=>X2 st i (fun x30=>Ite (decide (x30<0)) (XX s.Floor x27 ([1,2]:List Int) (fun x32=>J29 (!x32))) (J29 false))) q) (fun i x hx q hq=>⟨x,QD rfl hx,Jn.mk' (Zo hz (Ite.mk (fun h1=>?_) (fun _=>hq)))⟩) ?_
 ·have hc:carB st i=false:=by unfold carB;simp at h1 ⊢;omega
  have:=h.shel i x hx hc
  refine Q1d (by decide) (by omega) (by rcases this with e | e <;> rw [e] <;> decide) hq
 refine Q4D (xs:=st.People) (by unfold maxLen;omega) (T:=fun i q=>∃x49,idx st.People i=some x49∧XX s.Floor x49 ([4,5]:List Int) (fun x52=>q (!x52))) (fun i x hx q hq=>⟨x,QD rfl hx,?_⟩) ?_
 ·have:=h.ppl i x hx
  exact Q1d (by decide) (by omega) (by rcases this with e | e <;> rw [e] <;> decide) hq
 exact Q0w hz (Q3D (by have:=Za hz;omega) h.clash hp)
end
def stOf (t:Int×List Int×List ApiRobot×List Int×List Int×List ApiStuck×Int):ApiState:={Tick:=t.1,Shelves:=t.2.1,Robots:=t.2.2.1,People:=t.2.2.2.1,Dead:=t.2.2.2.2.1,Stuck:=t.2.2.2.2.2.1}
end Go.Taq
/- The mathematics, part AA: what moves, whether slots clash, whether acts may be begun (arena.Check and its reference). -/
set_option linter.unusedVariables false
set_option linter.unusedSimpArgs false
namespace Go.Taq
open Go
def slAt (r:ApiRobot) (c:Int):List Int:=if 0≤r.Load then [low c,high c] else [low c]
theorem Q4U (r:ApiRobot) (c:Int):(slAt r c).length≤2:=by unfold slAt;split <;> simp
theorem Q55 {r:ApiRobot} {c:Int} {post:List Int→Prop} (hp:post (slAt r c)):Wa r c post:=by
 unfold Wa KL Kd
 unfold slAt low high at hp
 refine Ite.mk (fun h=>?_) (fun h=>?_) <;> simp at h
 ·rw [if_pos h] at hp;exact hp
 ·rw [if_neg (by omega)] at hp;exact hp
def mvS (f:ApiFloor) (st:ApiState) (acts:List Int) (i:Nat):List Int:=
 if ((st.Robots.getD i default).Dead||!mvB (acts.getD i 0))=true then []
 else if (nx f (st.Robots.getD i default).Cell (acts.getD i 0-1)).2=true then slAt (st.Robots.getD i default) (nx f (st.Robots.getD i default).Cell (acts.getD i 0-1)).1 else []
def movL (f:ApiFloor) (st:ApiState) (acts:List Int):List Int:=allS st++(List.range st.Robots.length).flatMap (mvS f st acts)
theorem Q5O (f:ApiFloor) (st:ApiState) (acts:List Int) (i:Nat):(mvS f st acts i).length≤2:=by
 unfold mvS;split
 ·simp
 ·split
  ·exact Q4U _ _
  ·simp
section
variable {s:ApiSite} {st:ApiState}
theorem Q4L (hz:Sz st) (f:ApiFloor) (acts:List Int):(movL f st acts).length≤9000:=by
 have h1:=WR (n:=st.Robots.length) (f:=mvS f st acts) (fun i _=>Q5O ..)
 have h2:=Za hz
 have:=hz.rb
 unfold movL;rw [List.length_append];omega
theorem Q1c {f:Nat→List Int} {i:Nat}:(List.range (i+1)).flatMap f=(List.range i).flatMap f++f i:=by
 rw [List.range_succ,List.flatMap_append];simp
theorem Q32 (hf:RF s.Floor) (hz:Sz st) {acts:List Int} (hl:acts.length=st.Robots.length) {post:List Int→Prop} (hp:∀l,List.Perm l (movL s.Floor st acts)→post l):XP s.Floor st acts post:=by
 unfold XP Qf
 have h1:=Q4L hz s.Floor acts
 have hrb:=hz.rb
 refine Q0w hz (Jn.mk (fun l=>l=movL s.Floor st acts) (Q22 st.Robots.length (fun t:List Int×Int=>t.2) (fun i t=>t.1=allS st++(List.range i).flatMap (mvS s.Floor st acts)) (by unfold maxLen;omega) rfl (by simp) (fun i t hi ht hI=>?_) (fun t h=>h)) (fun l hl=>by subst hl;exact⟨by omega,hp _ (List.mergeSort_perm _ _)⟩))
 rw [ht]
 have hx:=List.getElem?_eq_getElem hi
 generalize st.Robots[i]=r at hx
 have ha:=List.getElem?_eq_getElem (show i<acts.length by omega)
 generalize acts[i]'_=a at ha
 have hlen:t.1.length≤10000:=by
  have h3:=WR (n:=i) (f:=mvS s.Floor st acts) (fun i _=>Q5O ..)
  have:=Za hz
  rw [hI,List.length_append];omega
 refine Jn.mk (fun l=>l=t.1++mvS s.Floor st acts i) ⟨r,QD rfl hx,?_⟩ (fun l hl=>⟨rfl,by show l=_;rw [hl,hI,Q1c,List.append_assoc]⟩)
 have em:mvS s.Floor st acts i=if (r.Dead||!mvB a)=true then [] else if (nx s.Floor r.Cell (a-1)).2=true then slAt r (nx s.Floor r.Cell (a-1)).1 else []:=by
  unfold mvS;rw [Wi hx,Gv ha]
 rw [em]
 refine Jn.mk (fun b=>b=(r.Dead||!mvB a)) (Ite.f (by simp;omega) (Ite.mk (fun h=>by rw [h];rfl) (fun h=>⟨a,QD rfl ha,?_⟩))) (fun b hb=>?_)
 ·rw [h,Bool.false_or]
  refine Ite.mk (fun h2=>?_) (fun h2=>?_)
  ·have:mvB a=false:=by have:=@XI a;simp at h2;cases hm:mvB a <;> simp_all;omega
   rw [this];rfl
  ·simp at h2
   by_cases h3:a≥7
   ·have:mvB a=false:=by have:=@XI a;cases hm:mvB a <;> simp_all;omega
    rw [this];simpa using h3
   ·have:mvB a=true:=XI.2 (by omega)
    rw [this];simpa using h3
 ·refine Ite.mk (fun h=>?_) (fun h=>?_)
  ·rw [if_pos (by rw [←hb];exact h)];simp
  ·rw [if_neg (by rw [←hb,h];simp)]
   have hm:mvB a=true:=by rw [h] at hb;simpa using (Bool.or_eq_false_iff.1 hb.symm).2
   have hm':=XI.1 hm
   refine⟨a,QD rfl ha,?_⟩
   rw [QF (by omega) (by omega)]
   refine W5 hf (Jn.mk' (Ite.mk (fun h2=>?_) (fun h2=>?_)))
   ·rw [if_pos h2]
    exact Q55 ⟨by have:=Q4U r (nx s.Floor r.Cell (a-1)).1;omega,rfl⟩
   ·rw [if_neg (by rw [h2];simp)];simp
/-! ## clashes -/
theorem Q6k {m:List Int} (hs:m.Pairwise (·≤·)) (ha:∀(i:Nat) x y,m[i]?=some x→m[i+1]?=some y→x≠y):m.Nodup:=by
 have:m.Pairwise (· < ·):=by
  induction m with
  | nil=>exact .nil
  | cons x m ih=>
   have hs':=List.pairwise_cons.1 hs
   have ih':=ih hs'.2 (fun i a b h1 h2=>ha (i+1) a b (by simpa using h1) (by simpa using h2))
   refine List.pairwise_cons.2 ⟨fun y hy=>?_,ih'⟩
   cases m with
   | nil=>cases hy
   | cons z m=>
    have h0:=ha 0 x z rfl rfl
    have h1:=hs'.1 z (by simp)
    rcases List.mem_cons.1 hy with e | e
    ·subst e;omega
    ·have:=(List.pairwise_cons.1 ih').1 y e;omega
 exact this.imp (fun h=>by omega)
theorem Q2H {l:List Int} (hl:l.length≤10000) {post:Int×Bool→Prop} (hp:∀n b,(b=true↔¬l.Nodup)→post (n,b)):KX l post:=by
 unfold KX K8 Qt Qq Qg
 refine⟨by omega,?_⟩
 refine Each.inv l (fun i t=>t=l.take i) rfl (fun i x t hx ht Y hY=>?_) (fun t ht=>?_)
 ·have:=(List.getElem?_eq_some_iff.1 hx).1
  refine⟨by rw [ht];simp;omega,hY _ ?_⟩
  rw [ht,QL hx]
 rw [List.take_length] at ht;subst ht
 unfold Qf
 refine⟨by omega,?_⟩
 have hperm:=List.mergeSort_perm t (fun x y=>decide (x≤y))
 have hsort:(t.mergeSort fun x y=>decide (x≤y)).Pairwise (·≤·):=by
  have:=List.pairwise_mergeSort (le:=fun x y:Int=>decide (x≤y)) (fun a b c h1 h2=>by simp at *;omega) (fun a b=>by simp;omega) t
  exact this.imp (fun h=>by simpa using h)
 have hlen:=hperm.length_eq
 have hnd:=hperm.nodup_iff
 generalize t.mergeSort (fun x y=>decide (x≤y))=m at *
 refine Jn.mk (fun _=>m.Nodup) ?_ (fun _ h=>hp 0 false (by simp [←hnd,h]))
 refine Loop.inv (m.length-1) (fun i q=>q=(i:Int)+1∧∀(j:Nat) x y,j<i→m[j]?=some x→m[j+1]?=some y→x≠y) ⟨rfl,fun j x y h=>by omega⟩ (fun i q hi hq=>?_) (fun q hq=>Ite.f (by rw [hq.1];simp;omega) (Q6k hsort (fun j x y h1 h2=>hq.2 j x y (by have:=(List.getElem?_eq_some_iff.1 h2).1;omega) h1 h2)))
 obtain⟨hq,hI⟩:=hq
 subst hq
 have h1:=List.getElem?_eq_getElem (show i+1<m.length by omega)
 have h2:=List.getElem?_eq_getElem (show i<m.length by omega)
 refine Ite.lt (by omega) ⟨_,QD (n:=i+1) (by omega) h1,_,QD (n:=i) (by rw [QF (by omega) (by omega)];omega) h2,Ite.mk (fun h3=>?_) (fun h3=>?_)⟩
 ·refine hp _ true ⟨fun _ hn=>?_,fun _=>rfl⟩
  have:=List.pairwise_iff_getElem.1 (hnd.2 hn) i (i+1) (by omega) (by omega) (by omega)
  exact this (by simpa using h3:m[i+1]=m[i]).symm
 ·refine⟨by rw [QF (by omega) (by omega)];simp,fun j x y hj hx hy=>?_⟩
  by_cases e:j=i
  ·subst e;rw [h2] at hx;rw [h1] at hy;cases hx;cases hy
   intro e;rw [e] at h3;simp at h3
  ·exact hI j x y (by omega) hx hy
/-! ## Check -/
def fstB (s:ApiSite) (st:ApiState) (acts:List Int):Nat→Nat→Int
 | 0,_=>0
 | n+1,i=>if legS s st i (acts.getD i 0)=0 then fstB s st acts n (i+1) else legS s st i (acts.getD i 0)
def seqB (s:ApiSite) (acts:List Int):Nat→Nat→ApiState→Int
 | 0,_,_=>0
 | n+1,i,st=>if legS s st i (acts.getD i 0)=0 then seqB s acts n (i+1) (doS s st i (acts.getD i 0)) else legS s st i (acts.getD i 0)
open Classical in
noncomputable def chkS (s:ApiSite) (st:ApiState) (acts:List Int):Int:=
 if st.Tick≥20000 then 28 else if (acts.length:Int)≠st.Robots.length then 1
 else if fstB s st acts acts.length 0≠0 then fstB s st acts acts.length 0
 else if ¬(movL s.Floor st acts).Nodup then 15 else seqB s acts acts.length 0 st
theorem Q5Z {s:ApiSite} {st:ApiState} {i a:Int} (h:legS s st i a=0):0≤a∧a<10:=(Q5Y h).2
theorem Q7R {s:ApiSite} {st:ApiState} {acts:List Int} (k:QZ st) (h:LS s st) (hm:acts.length≤maxLen) {post:Int→Prop}
  {L:ApiState→Int→Int→(Int→Prop)→Prop} (hL:∀st,QZ st→LS s st→∀i a {q:Int→Prop},q (legS s st i a)→L st i a q)
  {D:ApiState→Int→Int→(ApiState→Prop)→Prop} (hD:∀st,QZ st→LS s st→∀i a {q:ApiState→Prop},0≤a→a<10→q (doS s st i a)→D st i a q)
  {M:(List Int→Prop)→Prop} (hM:∀{q:List Int→Prop},acts.length=st.Robots.length→(∀l,List.Perm l (movL s.Floor st acts)→q l)→M q)
  {C:List Int→(Int×Bool→Prop)→Prop} (hC:∀l {q:Int×Bool→Prop},l.length≤10000→(∀n b,(b=true↔¬l.Nodup)→q (n,b))→C l q) (hp:post (chkS s st acts)):
  Ite (decide (st.Tick≥20000)) (post 28) (Ite ((acts.length:Int) != (st.Robots.length:Int)) (post 1)
   (Jn (fun (J:Unit→Prop)=>Loop (fun (t:Int) Y=>Ite (decide (t<(acts.length:Int))) (∃x,idx acts t=some x∧L st t x (fun y=>Ite (y != 0) (post y) (Y (w64 (t+1))))) (J ())) 0)
    (fun (_:Unit)=>M (fun l=>C l (fun c=>Ite c.2 (post 15)
     (Jn (fun (J:Unit→Prop)=>Loop (fun (t:Int×List Int×List ApiRobot×List Int×List Int×List ApiStuck×Int) Y=>Ite (decide (t.2.2.2.2.2.2<(acts.length:Int)))
      (∃x,idx acts t.2.2.2.2.2.2=some x∧L (stOf t) t.2.2.2.2.2.2 x (fun y=>Ite (y != 0) (post y) (D (stOf t) t.2.2.2.2.2.2 x (fun z=>Y (z.Tick,z.Shelves,z.Robots,z.People,z.Dead,z.Stuck,w64 (t.2.2.2.2.2.2+1)))))) (J ())) (st.Tick,st.Shelves,st.Robots,st.People,st.Dead,st.Stuck,0)) (fun _=>post 0))))))):=by
 unfold chkS at hp
 refine Ite.mk (fun h1=>by rw [if_pos (by simpa using h1)] at hp;exact hp) (fun h1=>?_)
 rw [if_neg (by simpa using h1)] at hp
 refine Ite.mk (fun h2=>by rw [if_pos (by simpa using h2)] at hp;exact hp) (fun h2=>?_)
 rw [if_neg (by simpa using h2)] at hp
 have hl:acts.length=st.Robots.length:=by simp at h2;omega
 refine Jn.mk (fun _=>fstB s st acts acts.length 0=0) (Loop.inv acts.length (fun i t=>t=(i:Int)∧fstB s st acts acts.length 0=fstB s st acts (acts.length-i) i) ⟨rfl,rfl⟩ (fun i t hi hI=>?_) (fun t hI=>?_)) (fun _ h3=>?_)
 ·obtain⟨ht,hI⟩:=hI
  have hx:=List.getElem?_eq_getElem hi
  generalize acts[i]=a at hx
  have hn:acts.length-i=(acts.length-(i+1))+1:=by omega
  rw [hn,fstB,Gv hx] at hI
  subst ht
  refine Ite.lt (by omega) ⟨a,QD rfl hx,hL st k h i a (Ite.mk (fun h4=>?_) (fun h4=>?_))⟩
  ·have h4':legS s st i a≠0:=by simpa using h4
   rw [if_neg h4'] at hI
   rw [if_pos (by rw [hI];exact h4'),hI] at hp
   exact hp
  ·have h4':legS s st i a=0:=by simpa using h4
   rw [if_pos h4'] at hI
   exact⟨We hi hm,hI⟩
 ·obtain⟨ht,hI⟩:=hI
  rw [Nat.sub_self,fstB] at hI
  exact Ite.nlt (by omega) hI
 ·rw [if_neg (by simpa using h3)] at hp
  refine hM hl (fun l hperm=>hC l (by rw [hperm.length_eq];have:=Q4L h.sz s.Floor acts;omega) (fun n b hb=>Ite.mk (fun h4=>?_) (fun h4=>?_)))
  ·rw [if_pos (by rw [←hperm.nodup_iff];exact hb.1 h4)] at hp;exact hp
  ·rw [if_neg (by rw [←hperm.nodup_iff];intro hn;have:=hb.2 hn;simp only at h4;rw [h4] at this;cases this)] at hp
   refine Jn.mk (fun _=>seqB s acts acts.length 0 st=0) (Loop.inv acts.length (fun i t=>t.2.2.2.2.2.2=(i:Int)∧QZ (stOf t)∧LS s (stOf t)∧seqB s acts acts.length 0 st=seqB s acts (acts.length-i) i (stOf t)) ⟨rfl,k,h,rfl⟩ (fun i t hi hI=>?_) (fun t hI=>?_)) (fun _ h5=>by rw [h5] at hp;exact hp)
   ·obtain⟨ht,hk,hls,hI⟩:=hI
    have hx:=List.getElem?_eq_getElem hi
    generalize acts[i]=a at hx
    have hn':acts.length-i=(acts.length-(i+1))+1:=by omega
    rw [hn',seqB,Gv hx] at hI
    rw [ht]
    refine Ite.lt (by omega) ⟨a,QD rfl hx,hL _ hk hls i a (Ite.mk (fun h6=>?_) (fun h6=>?_))⟩
    ·have h6':legS s (stOf t) i a≠0:=by simpa using h6
     rw [if_neg h6'] at hI
     rw [hI] at hp;exact hp
    ·have h6':legS s (stOf t) i a=0:=by simpa using h6
     rw [if_pos h6'] at hI
     have ha:=Q5Z h6'
     have hd:=Q8N hk hls (i:Int) a
     exact hD _ hk hls i a ha.1 ha.2 ⟨We hi hm,hd.2,hd.1,hI⟩
   ·obtain⟨ht,hk,hls,hI⟩:=hI
    rw [Nat.sub_self,seqB] at hI
    exact Ite.nlt (by omega) hI
theorem Q3b (ks:OkApiSite s) (k:QZ st) (h:LS s st) {acts:List Int} (ka:OkL I64 acts) {post:Int→Prop} (hp:post (chkS s st acts)):Gn s st acts post:=by
 unfold Gn
 exact Q7R k h ka.1 (L:=fun st i a q=>Xm s st i a q) (fun st k h i a q hq=>Q1a ks k h hq) (D:=fun st i a q=>WM s st i a q) (fun st k h i a q h0 h9 hq=>Q4M ks k h h0 h9 hq)
  (M:=fun q=>XP s.Floor st acts q) (fun {q} hl hq=>Q32 h.fl h.sz hl hq) (C:=fun l q=>KX l q) (fun l q hl hq=>Q2H hl hq) hp
end
end Go.Taq
