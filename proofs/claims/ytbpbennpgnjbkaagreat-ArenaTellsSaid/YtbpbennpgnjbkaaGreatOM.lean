/- The mathematics, several parts in one text. -/
import Derived.Test.YtbpbennpgnjbkaaGreatOH
/- The mathematics, part OI: ActRefuses. -/
set_option linter.unusedVariables false
set_option linter.unusedSimpArgs false
namespace Go.Taq
open Go
section
variable {s:ApiSite} {st:ApiState}
theorem Q7a {i:Int} (h:0≤i∧i<st.Robots.length):legS s st i 0=0:=by
 unfold legS;rw [if_neg (by omega)];unfold legR;rw [if_neg (by omega),if_pos rfl]
theorem Q7e {r:ApiRobot} {a:Int} (ha:1≤a∧a<10) (h:legR s st r a=0):(mvB a=true→r.Rest≤0∧movS s st r (a-1)=0)∧(a=7→r.Load<0∧0≤atS st r.Cell)∧(a=8→0≤r.Load∧stB s r.Cell=true)∧(a=9→kd s.Floor r.Cell=3):=by
 unfold legR at h
 rw [if_neg (by omega),if_neg (by omega)] at h
 split at h
 ·cases h
 split at h
 ·cases h
 rename_i hb
 split at h
 ·cases h
 refine⟨fun hm=>?_,fun e=>?_,fun e=>?_,fun e=>?_⟩
 ·rw [if_pos hm] at h;rw [hm] at hb;exact⟨by simpa using hb,h⟩
 ·rw [if_neg (by rw [G8];omega),if_pos e] at h
  split at h
  ·cases h
  split at h
  ·cases h
  exact⟨by omega,by omega⟩
 ·rw [if_neg (by rw [G8];omega),if_neg (by omega),if_pos e] at h
  split at h
  ·cases h
  refine⟨by omega,?_⟩
  unfold Q1S at h
  split at h
  ·cases h
  split at h
  ·cases h
  rename_i hst
  cases e2:stB s r.Cell with
  | true=>rfl
  | false=>exact absurd e2 hst
 ·rw [if_neg (by rw [G8];omega),if_neg (by omega),if_neg (by omega)] at h
  split at h
  ·assumption
  ·cases h
theorem Q7J {r:ApiRobot} {d:Int} (h:movS s st r d=0):(nx s.Floor r.Cell d).2=true∧st.Dead.contains (nx s.Floor r.Cell d).1=false∧opn s (nx s.Floor r.Cell d).1 st.Tick=true∧(allS st).contains (low (nx s.Floor r.Cell d).1)=false∧(0≤r.Load→(allS st).contains (high (nx s.Floor r.Cell d).1)=false):=by
 unfold movS at h
 split at h
 ·cases h
 rename_i h1
 split at h
 ·cases h
 split at h
 ·cases h
 rename_i h3
 split at h
 ·cases h
 rename_i h4
 simp only [Bool.or_eq_true,Bool.not_eq_true',not_or,Bool.not_eq_true,Bool.not_eq_false,Bool.and_eq_true,decide_eq_true_eq,not_and] at h1 h3 h4
 exact⟨h1.1,h1.2,h3,h4.1,h4.2⟩
end
end Go.Taq
/- The mathematics, part OJ: legal actions keep states right, and shelves apart. -/
set_option linter.unusedVariables false
set_option linter.unusedSimpArgs false
namespace Go.Taq
open Go
theorem Q02 {f f':Nat→List Int} {N n:Nat} (hn:n<N) (hf:∀j,j<N→j≠n→f' j=f j) (x:Int):((List.range N).flatMap f').count x+(f n).count x=((List.range N).flatMap f).count x+(f' n).count x:=by
 have same:∀M,M≤n→M≤N→(List.range M).flatMap f'=(List.range M).flatMap f:=by
  intro M
  induction M with
  | zero=>intros;rfl
  | succ M ih=>
   intro h1 h2
   rw [List.range_succ,List.flatMap_append,List.flatMap_append,ih (by omega) (by omega)]
   congr 1
   simp [hf M (by omega) (by omega)]
 have key:∀M,n<M→M≤N→((List.range M).flatMap f').count x+(f n).count x=((List.range M).flatMap f).count x+(f' n).count x:=by
  intro M
  induction M with
  | zero=>intro h;omega
  | succ M ih=>
   intro h1 h2
   rw [List.range_succ,List.flatMap_append,List.flatMap_append,List.count_append,List.count_append]
   simp only [List.flatMap_cons,List.flatMap_nil,List.append_nil]
   by_cases e:n=M
   ·subst e;rw [same n (by omega) (by omega)];omega
   ·have:=ih (by omega) (by omega)
    rw [hf M (by omega) (fun e2=>e e2.symm)];omega
 exact key N hn (by omega)
theorem Q1h {f f':Nat→List Int} {N:Nat} (hf:∀j,j<N→f' j=f j):(List.range N).flatMap f'=(List.range N).flatMap f:=by
 induction N with
 | zero=>rfl
 | succ N ih=>rw [List.range_succ,List.flatMap_append,List.flatMap_append,ih (fun j hj=>hf j (by omega))];simp [hf N (by omega)]
section
variable {s:ApiSite} {st:ApiState} {n:Nat} {r y:ApiRobot} {sh:List Int}
theorem Q4E {st:ApiState} {j:Nat}:carB st j=true↔∃(k:Nat) (z:ApiRobot),st.Robots[k]?=some z∧z.Load=(j:Int):=by
 rw [Q2j (by omega),List.any_eq_true]
 constructor
 ·rintro⟨z,hz,hl⟩
  obtain⟨k,hk⟩:=List.getElem?_of_mem hz
  exact⟨k,z,hk,by simpa using hl⟩
 ·rintro⟨k,z,hk,hl⟩
  exact⟨z,List.mem_of_getElem? hk,by simpa using hl⟩
theorem YO (hx:st.Robots[n]?=some r) {j:Nat}:carB st j=true↔r.Load=(j:Int)∨∃(k:Nat) (z:ApiRobot),k≠n∧st.Robots[k]?=some z∧z.Load=(j:Int):=by
 rw [Q4E]
 constructor
 ·rintro⟨k,z,hk,hl⟩
  by_cases e:k=n
  ·subst e;rw [hx] at hk;cases hk;exact .inl hl
  ·exact .inr ⟨k,z,e,hk,hl⟩
 ·rintro (h | ⟨k,z,_,hk,hl⟩)
  ·exact⟨n,r,hx,h⟩
  ·exact⟨k,z,hk,hl⟩
theorem Q1c (hx:st.Robots[n]?=some r) {j:Nat}:carB {st with Shelves:=sh,Robots:=st.Robots.set n y} j=true↔y.Load=(j:Int)∨∃(k:Nat) (z:ApiRobot),k≠n∧st.Robots[k]?=some z∧z.Load=(j:Int):=by
 have hlt:=(List.getElem?_eq_some_iff.1 hx).1
 have hy:({st with Shelves:=sh,Robots:=st.Robots.set n y}:ApiState).Robots[n]?=some y:=by show (st.Robots.set n y)[n]?=_;simp [hlt]
 rw [YO hy]
 constructor
 ·rintro (h | ⟨k,z,hne,hk,hl⟩)
  ·exact .inl h
  ·exact .inr ⟨k,z,hne,by rw [←hk];exact (List.getElem?_set_ne (by omega)).symm,hl⟩
 ·rintro (h | ⟨k,z,hne,hk,hl⟩)
  ·exact .inl h
  ·exact .inr ⟨k,z,hne,by rw [←hk];exact List.getElem?_set_ne (by omega),hl⟩
theorem Q7g {st:ApiState} {j:Nat} {a:ApiRobot} (hj:st.Robots[j]?=some a) (h0:0≤a.Load) (hu:∀(k:Nat) z,st.Robots[k]?=some z→z.Load=a.Load→k=j):carr st a.Load=j:=by
 unfold carr
 rw [if_neg (by omega)]
 rcases Wx (fun z:ApiRobot=>z.Load == a.Load) st.Robots with ⟨i,x,hi,e,hp,_⟩ | ⟨_,hb⟩
 ·rw [e,hu i x hi (by simpa using hp)]
 ·have:=hb a (List.mem_of_getElem? hj);simp at this
theorem RSt.uniq (h:RSt s st) {j k:Nat} {a z:ApiRobot} (hj:st.Robots[j]?=some a) (hk:st.Robots[k]?=some z) (h0:0≤a.Load) (e:z.Load=a.Load):k=j:=by
 have h1:=((h.rob j a hj).own h0).1
 have h2:=((h.rob k z hk).own (by omega)).1
 rw [e,h1] at h2;omega
theorem RSt.upd (h:RSt s st) (hx:st.Robots[n]?=some r) (hc:isC s.Floor y.Cell=true) (hk:kd s.Floor y.Cell≠0) (hl:-1≤y.Load∧y.Load<st.Shelves.length) (hch:0≤y.Charge∧y.Charge≤1000000) (hre:0≤y.Rest∧y.Rest≤20000) (hmu:0≤y.Mute∧y.Mute≤20000)
  (hsl:sh.length=st.Shelves.length) (hown:0≤y.Load→sh.getD y.Load.toNat 0=y.Cell) (hfree:∀(k:Nat) z,k≠n→st.Robots[k]?=some z→0≤z.Load→z.Load≠y.Load∧sh.getD z.Load.toNat 0=st.Shelves.getD z.Load.toNat 0)
  (hshel:∀(i:Nat) c,sh[i]?=some c→carB {st with Shelves:=sh,Robots:=st.Robots.set n y} i=false→kx s.Floor c=1∨kx s.Floor c=2)
  (hcl:(allS {st with Shelves:=sh,Robots:=st.Robots.set n y}).Nodup):RSt s {st with Shelves:=sh,Robots:=st.Robots.set n y} where
 tick:=h.tick
 sl:=by show sh.length=_;rw [hsl];exact h.sl
 rl:=by show (st.Robots.set n y).length=_;rw [List.length_set];exact h.rl
 pl:=h.pl
 ppl:=h.ppl
 dead:=h.dead
 deadA:=h.deadA
 stuck:=h.stuck
 stuckA:=h.stuckA
 clash:=hcl
 shel:=hshel
 rob:=fun i x hi=>by
  have hlt:=(List.getElem?_eq_some_iff.1 hx).1
  have huniq:∀{j:Nat} {a:ApiRobot},(st.Robots.set n y)[j]?=some a→0≤a.Load→∀(k:Nat) z,(st.Robots.set n y)[k]?=some z→z.Load=a.Load→k=j:=by
   intro j a hj h0 k z hk e
   rcases Q0I hj with ⟨ej,_,ea⟩ | ⟨ej,ha⟩
   ·rcases Q0I hk with ⟨ek,_,ez⟩ | ⟨ek,hz⟩
    ·omega
    ·subst ea;exact absurd e (hfree k z ek hz (by omega)).1
   ·rcases Q0I hk with ⟨ek,_,ez⟩ | ⟨ek,hz⟩
    ·subst ez;exact absurd e.symm (hfree j a ej ha h0).1
    ·exact h.uniq ha hz h0 e
  rcases Q0I hi with ⟨ei,_,ex⟩ | ⟨ei,hx2⟩
  ·subst ex
   exact⟨hc,hk,by show _∧_<(sh.length:Int);rw [hsl];exact hl,hch,hre,hmu,fun h0=>⟨Q7g hi h0 (huniq hi h0),hown h0⟩⟩
  ·have hR:=h.rob i x hx2
   exact⟨hR.cell,hR.kind,by show _∧_<(sh.length:Int);rw [hsl];exact hR.load,hR.charge,hR.rest,hR.mute,fun h0=>⟨Q7g hi h0 (huniq hi h0),by show sh.getD _ _=_;rw [(hfree i x ei hx2 h0).2];exact (hR.own h0).2⟩⟩
theorem Q00 {α:Type} {l:List α} {m j:Nat} {a d:α} (hm:m<l.length):(l.set m a).getD j d=if j=m then a else l.getD j d:=by
 rw [List.getD_eq_getElem?_getD,List.getD_eq_getElem?_getD,List.getElem?_set]
 by_cases e:m=j
 ·subst e;simp [hm]
 ·rw [if_neg e,if_neg (fun e2=>e e2.symm)]
theorem ZX (hx:st.Robots[n]?=some r) (x:Int):((List.range (st.Robots.set n y).length).flatMap (fun i=>slR ((st.Robots.set n y).getD i default))).count x+(slR r).count x=((List.range st.Robots.length).flatMap (fun i=>slR (st.Robots.getD i default))).count x+(slR y).count x:=by
 have hlt:=(List.getElem?_eq_some_iff.1 hx).1
 rw [List.length_set]
 have:=Q02 (f:=fun i=>slR (st.Robots.getD i default)) (f':=fun i=>slR ((st.Robots.set n y).getD i default)) hlt (fun j _ hne=>by rw [Q00 hlt,if_neg hne]) x
 rw [Q00 hlt,if_pos rfl,Wc hx] at this
 exact this
theorem Q6e {f:Q6} (hf:RF f) {c:Int} (h:isC f c=true):low c=2*c∧high c=2*c+1:=by
 have h1:=XT.1 h;have h2:=hf.len.1
 unfold low high
 rw [Qy (x:=2*c) (by omega) (by omega),Qy (by omega) (by omega)];exact⟨rfl,rfl⟩
theorem Q2g (h:(allS st).Nodup) (x:Int):(allS st).count x≤1:=List.nodup_iff_count.1 h x
theorem kx12 {c:Int} (h:stB s c=true):kx s.Floor c=1∨kx s.Floor c=2:=by
 unfold stB Q1o at h
 simp only [Bool.and_eq_true,Bool.or_eq_true,beq_iff_eq] at h
 unfold kx;rw [if_pos h.1];exact h.2
theorem Qaj {a:Int} (hc:0≤r.Charge∧r.Charge≤1000000) (ha:0≤a∧a<10):0≤chg st r a∧chg st r a≤1000000:=by
 have hb:=Q3s st.Tick a (decide (r.Load≥0))
 unfold chg
 split
 ·rename_i h
  unfold aft at h ⊢
  rw [if_neg (by omega)] at h ⊢
  split
  ·simp only;split <;> omega
  ·rename_i h9
   rw [if_neg h9] at h
   split
   ·rename_i h2;rw [if_pos h2] at h;cases h
   ·simp only;omega
 ·omega
theorem Q3z {st':ApiState} (hs:st'.Shelves.length=st.Shelves.length) (hk:∀j:Nat,j<st.Shelves.length→carB st' j=false→carB st j=false∧st'.Shelves.getD j 0=st.Shelves.getD j 0) (h:(YY s st).2.2=false):(YY s st').2.2=false:=by
 cases e:(YY s st').2.2 with
 | false=>rfl
 | true=>
  obtain⟨a,b,hab,hb,hbad⟩:=Q01.1 e
  rw [hs] at hb
  unfold badP at hbad
  simp only [Bool.and_eq_true,Bool.not_eq_true'] at hbad
  obtain⟨⟨⟨h1,h2⟩,h3⟩,h4⟩:=hbad
  obtain⟨k1,k2⟩:=hk a (by omega) h3
  obtain⟨k3,k4⟩:=hk b hb h4
  have:(YY s st).2.2=true:=Q01.2 ⟨a,b,hab,hb,by unfold badP;rw [←k2,←k4,h1,h2,k1,k3];rfl⟩
  rw [this] at h;cases h
theorem Q7w {st':ApiState} {j:Nat} (hc:carB st' j=carB st j) (hg:carB st j=false→st'.Shelves.getD j 0=st.Shelves.getD j 0):slS st' j=slS st j:=by
 unfold slS;rw [hc]
 split
 ·rfl
 ·rename_i h;rw [hg (by simpa using h)]
theorem Q2J (h:RSt s st) (hf:RF s.Floor) (hx:st.Robots[n]?=some r) (hc:isC s.Floor y.Cell=true) (hk:kd s.Floor y.Cell≠0) (hly:y.Load=r.Load) (hch:0≤y.Charge∧y.Charge≤1000000) (hre:0≤y.Rest∧y.Rest≤20000) (hmu:y.Mute=r.Mute)
  (hsh:sh=if 0≤r.Load then st.Shelves.set r.Load.toNat y.Cell else st.Shelves)
  (hsub:y.Cell=r.Cell∨∀x,x∈slR y→(allS st).contains x=false):
  RSt s {st with Shelves:=sh,Robots:=st.Robots.set n y}∧((YY s st).2.2=false→(YY s {st with Shelves:=sh,Robots:=st.Robots.set n y}).2.2=false):=by
 have hR:=h.rob n r hx
 have hcarE:∀j:Nat,carB {st with Shelves:=sh,Robots:=st.Robots.set n y} j=carB st j:=fun j=>by
  rw [Bool.eq_iff_iff,Q1c hx,YO hx,hly]
 have hsl:sh.length=st.Shelves.length:=by rw [hsh];split <;> simp
 have hgo:∀j:Nat,(0≤r.Load→(j:Int)≠r.Load)→sh.getD j 0=st.Shelves.getD j 0:=fun j hj=>by
  rw [hsh];split
  ·rename_i h0;rw [Q00 (by have:=hR.load;omega),if_neg (by have:=hj h0;omega)]
  ·rfl
 have hgc:∀j:Nat,carB st j=false→sh.getD j 0=st.Shelves.getD j 0:=fun j hj=>hgo j fun h0 e=>by
  have:carB st j=true:=(YO hx).2 (.inl e.symm)
  rw [this] at hj;cases hj
 refine⟨h.upd hx hc hk (by rw [hly];exact hR.load) hch hre (by rw [hmu];exact hR.mute) hsl (fun h0=>?_) (fun k z hne hz h0=>?_) (fun i c hi hcr=>?_) ?_,fun hap=>Q3z hsl (fun j hj hc2=>?_) hap⟩
 ·rw [hly] at h0 ⊢;rw [hsh,if_pos h0,Q00 (by have:=hR.load;omega),if_pos rfl]
 ·have hne2:z.Load≠r.Load:=fun e=>hne (h.uniq hx hz (by omega) e)
  refine⟨by rw [hly];exact hne2,hgo _ fun _ e=>hne2 ?_⟩
  omega
 ·have hcr':carB st i=false:=by rw [←hcarE i];exact hcr
  have hlt:i<st.Shelves.length:=by rw [←hsl];exact (List.getElem?_eq_some_iff.1 hi).1
  have e:=hgc i hcr'
  rw [Wn hi] at e
  exact h.shel i c (by rw [e,Wn (List.getElem?_eq_getElem hlt)];exact List.getElem?_eq_getElem hlt) hcr'
 ·rw [List.nodup_iff_count]
  intro x
  have hA:=ZX (y:=y) hx x
  have hS:(List.range sh.length).flatMap (slS {st with Shelves:=sh,Robots:=st.Robots.set n y})=(List.range st.Shelves.length).flatMap (slS st):=by
   rw [hsl];exact Q1h fun j hj=>Q7w (hcarE j) (hgc j)
  have hle:=Q2g h.clash x
  have hlh:=Q6e hf hc
  have hy1:(slR y).count x≤1:=by
   refine List.nodup_iff_count.1 ?_ x
   unfold slR;split <;> simp;omega
  have hmem:(slR y).count x=0∨x∈slR y:=by
   by_cases e:x∈slR y
   ·exact .inr e
   ·exact .inl (List.count_eq_zero.2 e)
  have h0:x∈slR y→(allS st).contains x=false→(allS st).count x=0:=fun _ e=>List.count_eq_zero.2 (by simpa using e)
  unfold allS at hle h0 hsub ⊢
  simp only [List.count_append] at hle h0 ⊢
  show ((List.range (st.Robots.set n y).length).flatMap (fun i=>slR ((st.Robots.set n y).getD i default))).count x+((List.range sh.length).flatMap (slS {st with Shelves:=sh,Robots:=st.Robots.set n y})).count x+_≤1
  rw [hS]
  rcases hmem with e | e
  ·omega
  ·rcases hsub with e2 | e2
   ·have:slR y=slR r:=by unfold slR;rw [hly,e2]
    rw [this] at hA;omega
   ·have:=h0 e (e2 x e);omega
 ·have hj2:carB st j=false:=by rw [←hcarE j];exact hc2
  exact⟨hj2,hgc j hj2⟩
end
end Go.Taq
/- The mathematics, part OK: what legal actions keep, one by one. -/
set_option linter.unusedVariables false
set_option linter.unusedSimpArgs false
namespace Go.Taq
open Go
section
variable {s:ApiSite} {st:ApiState} {n:Nat} {r:ApiRobot}
def Kept (s:ApiSite) (st st':ApiState):Prop:=RSt s st'∧((YY s st).2.2=false→(YY s st').2.2=false)
theorem Q74 (h:RSt s st) (hf:RF s.Floor) (hx:st.Robots[n]?=some r) (hr:r.Load<0) (hat:0≤atS st r.Cell) {ch:Int} (hch:0≤ch∧ch≤1000000):Kept s st {st with Shelves:=st.Shelves,Robots:=st.Robots.set n {r with Load:=atS st r.Cell,Charge:=ch}}:=by
 have hR:=h.rob n r hx
 obtain⟨i,hi,hie,hcell,hcar⟩:=Q8J hat
 rw [hie]
 have hlt:=(List.getElem?_eq_some_iff.1 hx).1
 have hc1:∀j:Nat,j≠i→carB {st with Shelves:=st.Shelves,Robots:=st.Robots.set n {r with Load:=(i:Int),Charge:=ch}} j=carB st j:=fun j hj=>by
  rw [Bool.eq_iff_iff,Q1c hx,YO hx]
  constructor
  ·rintro (e | e)
   ·simp only at e;omega
   ·exact .inr e
  ·rintro (e | e)
   ·omega
   ·exact .inr e
 have hci:carB {st with Shelves:=st.Shelves,Robots:=st.Robots.set n {r with Load:=(i:Int),Charge:=ch}} i=true:=(Q1c hx).2 (.inl rfl)
 have hback:∀j:Nat,carB {st with Shelves:=st.Shelves,Robots:=st.Robots.set n {r with Load:=(i:Int),Charge:=ch}} j=false→carB st j=false:=fun j hj=>by
  by_cases e:j=i
  ·subst e;rw [hci] at hj;cases hj
  ·rw [←hc1 j e];exact hj
 refine⟨h.upd hx hR.cell hR.kind ⟨by simp only;omega,by simp only;omega⟩ hch hR.rest hR.mute rfl (fun _=>hcell) (fun k z hk hz h0=>⟨fun e=>?_,rfl⟩) (fun j c hj hcj=>h.shel j c hj (hback j hcj)) ?_,Q3z rfl (fun j _ hj=>⟨hback j hj,rfl⟩)⟩
 ·have:carB st i=true:=Q4E.2 ⟨k,z,hz,e⟩
  rw [this] at hcar;cases hcar
 ·rw [List.nodup_iff_count]
  intro x
  have hA:=ZX (y:={r with Load:=(i:Int),Charge:=ch}) hx x
  have hS:=Q02 (f:=slS st) (f':=slS {st with Shelves:=st.Shelves,Robots:=st.Robots.set n {r with Load:=(i:Int),Charge:=ch}}) hi (fun j _ hj=>Q7w (hc1 j hj) (fun _=>rfl)) x
  have hle:=Q2g h.clash x
  have e1:slR r=[low r.Cell]:=by unfold slR;rw [if_neg (by omega)]
  have e2:slR {r with Load:=(i:Int),Charge:=ch}=[low r.Cell]++[high r.Cell]:=by unfold slR;rw [if_pos (by simp only;omega)];rfl
  have e3:slS st i=[high r.Cell]:=by unfold slS;rw [hcar,hcell];rfl
  have e4:slS {st with Shelves:=st.Shelves,Robots:=st.Robots.set n {r with Load:=(i:Int),Charge:=ch}} i=[]:=by unfold slS;rw [hci];rfl
  rw [e1,e2,List.count_append] at hA
  rw [e3,e4,List.count_nil] at hS
  unfold allS at hle ⊢
  simp only [List.count_append] at hle ⊢
  omega
theorem Q7C (h:RSt s st) (hf:RF s.Floor) (hx:st.Robots[n]?=some r) (hr:0≤r.Load) (hd:Q1S s st r.Load r.Cell=0) {ch:Int} (hch:0≤ch∧ch≤1000000):Kept s st {st with Shelves:=st.Shelves,Robots:=st.Robots.set n {r with Load:=-1,Charge:=ch}}:=by
 have hR:=h.rob n r hx
 obtain⟨i,hi⟩:=Int.eq_ofNat_of_zero_le hr
 have hil:i<st.Shelves.length:=by have:=hR.load;omega
 have hcell:st.Shelves.getD i 0=r.Cell:=by have:=(hR.own hr).2;rw [hi] at this;exact this
 have hcar:carB st i=true:=Q4E.2 ⟨n,r,hx,hi⟩
 unfold Q1S at hd
 split at hd
 ·cases hd
 split at hd
 ·cases hd
 rename_i hst
 split at hd
 ·cases hd
 split at hd
 ·cases hd
 rename_i hap
 have hstB:stB s r.Cell=true:=by simpa using hst
 have hc1:∀j:Nat,j≠i→carB {st with Shelves:=st.Shelves,Robots:=st.Robots.set n {r with Load:=-1,Charge:=ch}} j=carB st j:=fun j hj=>by
  rw [Bool.eq_iff_iff,Q1c hx,YO hx]
  constructor
  ·rintro (e | e)
   ·simp only at e;omega
   ·exact .inr e
  ·rintro (e | e)
   ·omega
   ·exact .inr e
 have hci:carB {st with Shelves:=st.Shelves,Robots:=st.Robots.set n {r with Load:=-1,Charge:=ch}} i=false:=by
  cases e:carB {st with Shelves:=st.Shelves,Robots:=st.Robots.set n {r with Load:=-1,Charge:=ch}} i with
  | false=>rfl
  | true=>
   rcases (Q1c hx).1 e with e2 | ⟨k,z,hk,hz,hzl⟩
   ·simp only at e2;omega
   ·exact absurd (h.uniq hx hz hr (by omega)) hk
 refine⟨h.upd hx hR.cell hR.kind ⟨by simp,by simp only;omega⟩ hch hR.rest hR.mute rfl (fun h0=>by simp at h0) (fun k z hk hz h0=>⟨by simp only;omega,rfl⟩) (fun j c hj hcj=>?_) ?_,fun hap0=>?_⟩
 ·by_cases e:j=i
  ·subst e;rw [Wn hj] at hcell;rw [hcell];exact kx12 hstB
  ·exact h.shel j c hj (by rw [←hc1 j e];exact hcj)
 ·rw [List.nodup_iff_count]
  intro x
  have hA:=ZX (y:={r with Load:=-1,Charge:=ch}) hx x
  have hS:=Q02 (f:=slS st) (f':=slS {st with Shelves:=st.Shelves,Robots:=st.Robots.set n {r with Load:=-1,Charge:=ch}}) hil (fun j _ hj=>Q7w (hc1 j hj) (fun _=>rfl)) x
  have hle:=Q2g h.clash x
  have e1:slR r=[low r.Cell]++[high r.Cell]:=by unfold slR;rw [if_pos hr];rfl
  have e2:slR {r with Load:=-1,Charge:=ch}=[low r.Cell]:=by unfold slR;rw [if_neg (by simp)]
  have e3:slS st i=[]:=by unfold slS;rw [hcar];rfl
  have e4:slS {st with Shelves:=st.Shelves,Robots:=st.Robots.set n {r with Load:=-1,Charge:=ch}} i=[high r.Cell]:=by
   unfold slS;rw [hci];show [high (st.Shelves.getD i 0)]=_;rw [hcell]
  rw [e1,e2,List.count_append] at hA
  rw [e3,e4,List.count_nil] at hS
  unfold allS at hle ⊢
  simp only [List.count_append] at hle ⊢
  omega
 ·cases e:(YY s {st with Shelves:=st.Shelves,Robots:=st.Robots.set n {r with Load:=-1,Charge:=ch}}).2.2 with
  | false=>rfl
  | true=>
   exfalso
   obtain⟨a,b,hab,hb,hbad⟩:=Q01.1 e
   have hb':b<st.Shelves.length:=hb
   unfold badP at hbad
   simp only [Bool.and_eq_true,Bool.not_eq_true'] at hbad
   obtain⟨⟨⟨h1,h2⟩,h3⟩,h4⟩:=hbad
   -- the shelf that is put down,and another
   have key:∀j:Nat,j<st.Shelves.length→j≠i→carB st j=false→YM s.Floor (st.Shelves.getD j 0) r.Cell=true→nev s (clsS s i) (clsS s j)=true→False:=fun j hj hne hcj hn hv=>by
    refine hap (Z6 (i:=j) hj ?_)
    unfold dAp
    rw [hi,hcj,hn,hv]
    simp;omega
   by_cases ea:a=i
   ·subst ea
    have hbi:b≠a:=by omega
    rw [hc1 b hbi] at h4
    rw [hcell] at h1
    rw [Q6M hf hR.cell (h.cells _ (Q7K hb'))] at h1
    exact key b hb' hbi h4 h1 h2
   ·by_cases eb:b=i
    ·subst eb
     rw [hc1 a ea] at h3
     rw [hcell] at h1
     rw [Q82] at h2
     exact key a (by omega) ea h3 h1 h2
    ·rw [hc1 a ea] at h3;rw [hc1 b eb] at h4
     have:(YY s st).2.2=true:=Q01.2 ⟨a,b,hab,hb',by unfold badP;rw [h1,h2,h3,h4];rfl⟩
     rw [this] at hap0;cases hap0
theorem Q7O (h:RSt s st) (hx:st.Robots[n]?=some r):st.Shelves=if 0≤r.Load then st.Shelves.set r.Load.toNat r.Cell else st.Shelves:=by
 split
 ·rename_i h0
  have hR:=h.rob n r hx
  have hlt:r.Load.toNat<st.Shelves.length:=by have:=hR.load;omega
  have h1:=(hR.own h0).2
  have hx2:=List.getElem?_eq_getElem hlt
  rw [Wn hx2] at h1
  rw [←h1];exact (Q6x hx2).symm
 ·rfl
theorem Q89 {a:Int} (e:a=8) (h:legR s st r a=0):Q1S s st r.Load r.Cell=0:=by
 unfold legR at h
 rw [if_neg (by omega),if_neg (by omega)] at h
 split at h
 ·cases h
 split at h
 ·cases h
 split at h
 ·cases h
 rw [if_neg (by rw [G8];omega),if_neg (by omega)] at h
 split at h
 ·cases h
 exact h
theorem Q8A (h:RSt s st) (ls:LS s st) (hx:st.Robots[n]?=some r) {a:Int} (ha:0≤a∧a<10) (hleg:legR s st r a=0):Kept s st (doR s st n r a):=by
 have hR:=h.rob n r hx
 have hch:=Qaj (st:=st) (r:=r) hR.charge ha
 unfold doR
 by_cases hd:r.Dead=true
 ·rw [if_pos hd];exact⟨h,fun e=>e⟩
 rw [if_neg hd]
 have hd':r.Dead=false:=by simpa using hd
 cases hm:mvB a with
 | true=>
  obtain⟨hnx,hrest,hmov⟩:=Q8g hm hd' hleg
  have hm':=G8.1 hm
  have hld:lod st r a=r.Load:=by unfold lod;rw [if_neg (by omega),if_neg (by omega)]
  obtain⟨m1,m2,m3,m4,m5⟩:=Q7J hmov
  obtain⟨n1,n2,n3,n4,n5,n6⟩:=Q7S ls.fl hnx
  have hsp:=Q6q ls.rs (nx s.Floor r.Cell (a-1)).1
  have e1:nwR s st r a={r with Cell:=(nx s.Floor r.Cell (a-1)).1,Load:=r.Load,Charge:=chg st r a,Rest:=spd s (nx s.Floor r.Cell (a-1)).1-1}:=by unfold nwR;rw [hm,hnx,hld];rfl
  have e2:nwS s st r a=if 0≤r.Load then st.Shelves.set r.Load.toNat (nx s.Floor r.Cell (a-1)).1 else st.Shelves:=by unfold nwS;rw [hm,hnx,hld];simp
  rw [e1]
  refine Q2J h ls.fl hx n2 n5 rfl hch ⟨by simp only;omega,by simp only;omega⟩ rfl e2 (.inr fun x hxm=>?_)
  unfold slR at hxm
  simp only at hxm
  split at hxm
  ·rename_i h0
   simp only [List.mem_cons,List.not_mem_nil,or_false] at hxm
   rcases hxm with e | e
   ·rw [e];exact m4
   ·rw [e];exact m5 h0
  ·simp only [List.mem_cons,List.not_mem_nil,or_false] at hxm
   rw [hxm];exact m4
 | false=>
  have e1:nwR s st r a={r with Load:=lod st r a,Charge:=chg st r a}:=by unfold nwR;rw [hm];rfl
  have e2:nwS s st r a=st.Shelves:=by unfold nwS;rw [hm];simp
  rw [e1,e2]
  by_cases h0:a=0
  ·have hld:lod st r a=r.Load:=by unfold lod;rw [if_neg (by omega),if_neg (by omega)]
   rw [hld]
   exact Q2J h ls.fl hx hR.cell hR.kind rfl hch hR.rest rfl (Q7O h hx) (.inl rfl)
  have ha1:1≤a∧a<10:=by omega
  obtain⟨_,h7,h8,h9⟩:=Q7e ha1 hleg
  by_cases e7:a=7
  ·have hld:lod st r a=atS st r.Cell:=by unfold lod;rw [if_pos e7]
   rw [hld];exact Q74 h ls.fl hx (h7 e7).1 (h7 e7).2 hch
  by_cases e8:a=8
  ·have hld:lod st r a=-1:=by unfold lod;rw [if_neg e7,if_pos e8]
   rw [hld]
   refine Q7C h ls.fl hx (h8 e8).1 ?_ hch
   exact Q89 e8 hleg
  ·have hld:lod st r a=r.Load:=by unfold lod;rw [if_neg e7,if_neg e8]
   rw [hld]
   exact Q2J h ls.fl hx hR.cell hR.kind rfl hch hR.rest rfl (Q7O h hx) (.inl rfl)
end
end Go.Taq
/- The mathematics, part OM: right states in the program; ActKeeps. -/
set_option linter.unusedVariables false
set_option linter.unusedSimpArgs false
namespace Go.Taq
open Go
section
end
def stOf (t:Int×List Int×List ApiRobot×List Int×List Int×List Q0×Int):ApiState:={Tick:=t.1,Shelves:=t.2.1,Robots:=t.2.2.1,People:=t.2.2.2.1,Dead:=t.2.2.2.2.1,Stuck:=t.2.2.2.2.2.1}
end Go.Taq
