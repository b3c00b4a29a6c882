/- The mathematics, several parts in one text. -/
import Derived.Test.YtdcfcldpjfepiaaGreatOB
import Derived.Test.YtdcfcldpjfepiaaGreatMS
/- The mathematics, part OC: right states (taquinref14.Right, Few); the bounds of the statements about actions. -/
set_option linter.unusedVariables false
set_option linter.unusedSimpArgs false
namespace Go.Taq
open Go
def kx (f:ApiFloor) (c:Int):Int:=if isC f c=true then kd f c else -1
structure RRob (s:ApiSite) (st:ApiState) (i:Nat) (r:ApiRobot):Prop where
 cell:isC s.Floor r.Cell=true
 kind:kd s.Floor r.Cell≠0
 load:-1≤r.Load∧r.Load<st.Shelves.length
 charge:0≤r.Charge∧r.Charge≤1000000
 rest:0≤r.Rest∧r.Rest≤20000
 mute:0≤r.Mute∧r.Mute≤20000
 own:0≤r.Load→carr st r.Load=i∧st.Shelves.getD r.Load.toNat 0=r.Cell
structure RSt (s:ApiSite) (st:ApiState):Prop where
 tick:0≤st.Tick∧st.Tick≤20000
 sl:st.Shelves.length=s.Shelves.length
 rl:st.Robots.length=s.Robots.length
 pl:st.People.length≤20
 rob:∀(i:Nat) r,st.Robots[i]?=some r→RRob s st i r
 shel:∀(i:Nat) c,st.Shelves[i]?=some c→carB st i=false→kx s.Floor c=1∨kx s.Floor c=2
 ppl:∀(i:Nat) c,st.People[i]?=some c→kx s.Floor c=4∨kx s.Floor c=5
 dead:∀(i:Nat) c,st.Dead[i]?=some c→isC s.Floor c=true
 deadA:∀(i:Nat) x y,st.Dead[i]?=some x→st.Dead[i+1]?=some y→x<y
 stuck:∀(i:Nat) x,st.Stuck[i]?=some x→kx s.Floor x.Cell=6∧1≤x.Left∧x.Left≤20000
 stuckA:∀(i:Nat) x y,st.Stuck[i]?=some x→st.Stuck[i+1]?=some y→x.Cell<y.Cell
 clash:(allS st).Nodup
structure Q7E (st:ApiState):Prop where
 sh:st.Shelves.length≤12
 rb:st.Robots.length≤12
 pp:st.People.length≤12
 dd:st.Dead.length≤12
 sk:st.Stuck.length≤12
theorem Q7E.sz {st:ApiState} (h:Q7E st):Sz st:=⟨by have:=h.sh;omega,by have:=h.rb;omega,by have:=h.pp;omega,by have:=h.dd;omega,by have:=h.sk;omega⟩
section
variable {s:ApiSite} {st:ApiState}
structure Fair (s:ApiSite) (st:ApiState):Prop where
 r:Q1U s
 few:FewS s 60 30
 f12:Q7E st
 rst:RSt s st
end
end Go.Taq
/- The mathematics, part NW: a step in the floor's reference. -/
set_option linter.unusedVariables false
namespace Go.Taq
open Go
end Go.Taq
/- The mathematics, part OD: which actions are legal, and what they do. -/
set_option linter.unusedVariables false
set_option linter.unusedSimpArgs false
namespace Go.Taq
open Go
structure LS (s:ApiSite) (st:ApiState):Prop where
 fl:RF s.Floor
 rs:RS s
 sz:Sz st
 cell:∀c,c∈st.Shelves→isC s.Floor c=true
 rob:∀(i:Nat) r,st.Robots[i]?=some r→isC s.Floor r.Cell=true∧-1≤r.Load∧r.Load<st.Shelves.length
def mvB (a:Int):Bool:=decide (1≤a)&&decide (a<7)
def movS (s:ApiSite) (st:ApiState) (r:ApiRobot) (d:Int):Int:=
 if (!(nx s.Floor r.Cell d).2||st.Dead.contains (nx s.Floor r.Cell d).1)=true then 14
 else if ((d == 4||d == 5)&&(st.Stuck.any fun x=>x.Cell == r.Cell||x.Cell == (nx s.Floor r.Cell d).1))=true then 14
 else if opn s (nx s.Floor r.Cell d).1 st.Tick=false then 18
 else if ((allS st).contains (low (nx s.Floor r.Cell d).1)||(decide (r.Load≥0)&&(allS st).contains (high (nx s.Floor r.Cell d).1)))=true then 15 else 0
def legR (s:ApiSite) (st:ApiState) (r:ApiRobot) (a:Int):Int:=
 if a<0∨a≥10 then 1 else if a=0 then 0
 else if (r.Dead||decide (r.Mute>0))=true then 9
 else if (mvB a&&decide (r.Rest>0))=true then 8
 else if (aft st.Tick r.Charge a (decide (r.Load≥0))).2=16 then 16
 else if mvB a=true then movS s st r (a-1)
 else if a=7 then (if r.Load≥0 then 7 else if atS st r.Cell<0 then 4 else 0)
 else if a=8 then (if r.Load<0 then 7 else Q2x s st r.Load r.Cell)
 else if kd s.Floor r.Cell=3 then 0 else 13
def legS (s:ApiSite) (st:ApiState) (i a:Int):Int:=if i<0∨i≥st.Robots.length then 4 else legR s st (st.Robots.getD i.toNat default) a
def chg (st:ApiState) (r:ApiRobot) (a:Int):Int:=if (aft st.Tick r.Charge a (decide (r.Load≥0))).2=0 then (aft st.Tick r.Charge a (decide (r.Load≥0))).1 else 0
def lod (st:ApiState) (r:ApiRobot) (a:Int):Int:=if a=7 then atS st r.Cell else if a=8 then -1 else r.Load
def nwR (s:ApiSite) (st:ApiState) (r:ApiRobot) (a:Int):ApiRobot:=
 if (mvB a&&(nx s.Floor r.Cell (a-1)).2)=true then {r with Cell:=(nx s.Floor r.Cell (a-1)).1,Load:=lod st r a,Charge:=chg st r a,Rest:=spd s (nx s.Floor r.Cell (a-1)).1-1}
 else {r with Load:=lod st r a,Charge:=chg st r a}
def nwS (s:ApiSite) (st:ApiState) (r:ApiRobot) (a:Int):List Int:=
 if (mvB a&&(nx s.Floor r.Cell (a-1)).2)=true∧0≤lod st r a then st.Shelves.set (lod st r a).toNat (nx s.Floor r.Cell (a-1)).1 else st.Shelves
def doR (s:ApiSite) (st:ApiState) (n:Nat) (r:ApiRobot) (a:Int):ApiState:=
 if r.Dead=true then st else {st with Shelves:=nwS s st r a,Robots:=st.Robots.set n (nwR s st r a)}
section
variable {s:ApiSite} {st:ApiState}
theorem XI {a:Int}:mvB a=true↔1≤a∧a<7:=by simp [mvB]
theorem Z2 {a:Int} (h0:0≤a) (h9:a<10) {post:Int×Bool→Prop} (hp:post (a-1,mvB a)):Xd a post:=by
 unfold Xd
 rw [QF (by omega) (by omega)]
 refine Q0t ?_
 have:(decide (a-1≥0)&&decide (a-1<6))=mvB a:=by rw [Bool.eq_iff_iff,XI];simp;omega
 rw [this];exact hp
theorem Q89 {xs:List ApiStuck} (hl:xs.length≤maxLen) {r:ApiRobot} {c:Int} {post:Bool→Prop} (hp:post (xs.any fun x=>x.Cell == r.Cell||x.Cell == c)):Qh xs r c post:=by
 unfold Qh Qy
 exact Zx hl (fun x:ApiStuck=>x.Cell == r.Cell||x.Cell == c) (T:=fun x q=>GZ x r c q) (fun x _ q hq=>by unfold GZ;exact Jor2 hq) (post:=fun n=>post (decide (n≥0))) (by rw [Q01];exact hp)
theorem Q5e (ks:OkApiSite s) (h:LS s st) {r:ApiRobot} {d:Int} {post:Int→Prop} (hp:post (movS s st r d)):Ya s st r d post:=by
 have hd:st.Dead.length≤maxLen:=by have:=h.sz.dd;unfold maxLen;omega
 have hk:st.Stuck.length≤maxLen:=by have:=h.sz.sk;unfold maxLen;omega
 unfold Ya KL Kd
 unfold movS at hp
 refine W5 h.fl ?_
 generalize nx s.Floor r.Cell d=x at hp
 refine Jn.mk (fun b=>b=(!x.2||st.Dead.contains x.1)) (Ite.mk (fun h1=>Kc hd (by rw [h1];rfl)) (fun h1=>by rw [h1];rfl)) (fun b hb=>?_)
 subst hb
 refine Ite.mk (fun h1=>?_) (fun h1=>?_)
 ·rw [if_pos h1] at hp;exact hp
 rw [if_neg (by rw [h1];simp)] at hp
 refine Jor2 (Jn.mk (fun _=>((d == 4||d == 5)&&(st.Stuck.any fun y=>y.Cell == r.Cell||y.Cell == x.1))=false) (Ite.mk (fun h2=>Q89 hk (Ite.mk (fun h3=>?_) (fun h3=>?_))) (fun h2=>?_)) (fun _ h2=>?_))
 ·rw [if_pos (by rw [h2,h3];rfl)] at hp;exact hp
 ·rw [h3];simp
 ·rw [h2];simp
 rw [if_neg (by rw [h2];simp)] at hp
 refine Q3q ks h.rs (Ite.mk (fun h3=>?_) (fun h3=>Q26 h.sz (fun l hl=>?_)))
 ·rw [if_pos (by simpa using h3)] at hp;exact hp
 rw [if_neg (by simpa using h3)] at hp
 have hlm:l.length≤maxLen:=by rw [hl.length_eq];have:=Za h.sz;unfold maxLen;omega
 refine Jn.mk (fun b=>b=((allS st).contains (low x.1)||(decide (r.Load≥0)&&(allS st).contains (high x.1)))) (Kc hlm (Ite.mk (fun h4=>?_) (fun h4=>Ite.mk (fun h5=>Kc hlm ?_) (fun h5=>?_)))) (fun b hb=>?_)
 ·rw [Gj hl] at h4;unfold low;rw [h4];rfl
 ·rw [Gj hl] at h4 ⊢;unfold low high;rw [h4,h5];rfl
 ·rw [Gj hl] at h4;unfold low;rw [h4,h5];rfl
 ·subst hb
  refine Ite.mk (fun h4=>?_) (fun h4=>?_)
  ·rw [if_pos h4] at hp;exact hp
  ·rw [if_neg (by rw [h4];simp)] at hp;exact hp
theorem Q1a (ks:OkApiSite s) (k:QZ st) (h:LS s st) {i a:Int} {post:Int→Prop} (hp:post (legS s st i a)):Xm s st i a post:=by
 have hsl:st.Shelves.length≤1000000:=by have:=h.sz.sh;omega
 unfold Xm
 unfold legS legR at hp
 refine Jor2 (Ite.mk (fun h1=>?_) (fun h1=>?_)) <;> simp at h1
 ·rw [if_pos (by omega)] at hp;exact hp
 rw [if_neg (by omega)] at hp
 refine Jor2 (Ite.mk (fun h2=>?_) (fun h2=>?_)) <;> simp at h2
 ·rw [if_pos (by omega)] at hp;exact hp
 rw [if_neg (by omega)] at hp
 refine Ite.mk (fun h3=>?_) (fun h3=>?_) <;> simp at h3
 ·rw [if_pos h3] at hp;exact hp
 rw [if_neg h3] at hp
 obtain⟨n,hn⟩:=Int.eq_ofNat_of_zero_le h1.1
 have hlt:n<st.Robots.length:=by omega
 have hx:=List.getElem?_eq_getElem hlt
 have hg:st.Robots.getD i.toNat default=st.Robots[n]:=by rw [hn];exact Wi hx
 rw [hg] at hp
 generalize st.Robots[n]=r at hp hx
 obtain⟨hc,hlo⟩:=h.rob n r hx
 refine⟨r,QD hn hx,Z2 h2.1 h2.2 (Jor2 (Ite.mk (fun h4=>?_) (fun h4=>?_)))⟩
 ·rw [if_pos h4] at hp;exact hp
 rw [if_neg (by rw [h4];simp)] at hp
 refine Q0t (Ite.mk (fun h5=>?_) (fun h5=>?_))
 ·rw [if_pos h5] at hp;exact hp
 rw [if_neg (by rw [h5];simp)] at hp
 refine YR (Ite.mk (fun h6=>?_) (fun h6=>?_))
 ·simp at h6;rw [if_pos h6] at hp;rw [h6];exact hp
 simp at h6;rw [if_neg h6] at hp
 refine Ite.mk (fun h7=>?_) (fun h7=>?_)
 ·simp only at h7;rw [if_pos h7] at hp;exact Q5e ks h hp
 simp only at h7;rw [if_neg (by rw [h7];simp)] at hp
 refine Ite.mk (fun h8=>?_) (fun h8=>?_) <;> simp at h8
 ·rw [if_pos h8] at hp
  unfold Z8
  refine Ite.mk (fun h9=>?_) (fun h9=>Q2a k hsl ?_) <;> simp at h9
  ·rw [if_pos h9] at hp;exact hp
  ·rw [if_neg (by omega)] at hp
   refine Ite.mk (fun g=>?_) (fun g=>?_) <;> simp at g
   ·rw [if_pos g] at hp;exact hp
   ·rw [if_neg (by omega)] at hp;exact hp
 rw [if_neg h8] at hp
 refine Q0t (Ite.mk (fun h9=>?_) (fun h9=>Ite.mk (fun g=>?_) (fun g=>?_)))
 ·simp at h9;rw [if_pos h9.1,if_pos h9.2] at hp;exact hp
 ·simp at g;rw [g] at h9;simp at h9
  rw [if_pos g,if_neg (by omega)] at hp;exact Q3G ks k h.fl hsl hp
 ·simp at g;rw [if_neg g] at hp
  refine⟨_,WP hc,Ite.mk (fun g1=>?_) (fun g1=>?_)⟩
  ·rw [if_neg (by simpa using g1)] at hp;exact hp
  ·rw [if_pos (by simpa using g1)] at hp;exact hp
end
end Go.Taq
/- The mathematics, part OE: what actions do, in both; equal states. -/
set_option linter.unusedVariables false
set_option linter.unusedSimpArgs false
namespace Go.Taq
open Go
def doS (s:ApiSite) (st:ApiState) (i a:Int):ApiState:=if i<0∨i≥st.Robots.length then st else doR s st i.toNat (st.Robots.getD i.toNat default) a
section
variable {s:ApiSite} {st:ApiState}
theorem Q3U {α:Type} {xs:List α} (hl:xs.length≤1099511627776) {post:List α→Prop} (hp:post xs):∀hb5:Bool,(hb5=true→xs=[])→Ite (hb5 == true) (post []) ((([]:List α).length+xs.length≤1099511627776)∧post (([]:List α)++xs)):=by
 intro b hb
 refine Ite.mk (fun h=>?_) (fun h=>⟨by simp;omega,by rw [List.nil_append];exact hp⟩)
 rw [hb (by simpa using h)] at hp;exact hp
theorem WE {xs:List Int} (hl:xs.length≤1000) {post:List Int→Prop} (hp:post xs):QC xs post:=by
 unfold QC;exact Q3U (by omega) hp
theorem Q60 {xs:List ApiRobot} (hl:xs.length≤1000) {post:List ApiRobot→Prop} (hp:post xs):QK xs post:=by
 unfold QK;exact Q3U (by omega) hp
theorem Q5F {xs:List ApiStuck} (hl:xs.length≤1000) {post:List ApiStuck→Prop} (hp:post xs):QJ xs post:=by
 unfold QJ;exact Q3U (by omega) hp
theorem YQ (hz:Sz st) {post:ApiState→Prop} (hp:post st):XH st post:=by
 unfold XH
 exact WE hz.sh (Q60 hz.rb (WE hz.pp (WE hz.dd (Q5F hz.sk hp))))
theorem Q8Q (c:Int):-1≤atS st c∧atS st c<st.Shelves.length:=Q7i st c
theorem Q7n (h:LS s st) {n:Nat} {r:ApiRobot} (hx:st.Robots[n]?=some r) (a:Int):-1≤lod st r a∧lod st r a<st.Shelves.length:=by
 have:=h.rob n r hx
 unfold lod;split
 ·exact Q8Q _
 ·split <;> omega
theorem Q9y {t ch a:Int} {l:Bool} (h:I64 ch):I64 (aft t ch a l).1:=by
 have hc:=Q4I t a l
 unfold aft
 split
 ·exact h
 ·split
  ·split <;> constructor <;> (simp only;omega)
  ·split
   ·exact h
   ·constructor <;> (simp only;omega)
theorem Q8W (k:QZ st) {n:Nat} {r:ApiRobot} (hx:st.Robots[n]?=some r) (a:Int):I64 (chg st r a):=by
 have h:=(k.Robots.2 r (List.mem_of_getElem? hx)).Charge
 unfold chg
 split
 ·exact Q9y h
 ·exact WC (by decide)
theorem Q7I {α:Type} {l:List α} {n:Nat} {i:Int} {a:α} (hi:i=n) (h:n<l.length):idx (l.set i.toNat a) i=some a:=by
 refine QD hi ?_
 rw [hi];simp [h]
theorem Q4M (ks:OkApiSite s) (k:QZ st) (h:LS s st) {i a:Int} (h0:0≤a) (h9:a<10) {post:ApiState→Prop} (hp:post (doS s st i a)):WM s st i a post:=by
 have hsl:st.Shelves.length≤1000000:=by have:=h.sz.sh;omega
 unfold WM
 refine YQ h.sz ?_
 by_cases hv:i<0∨i≥st.Robots.length
 ·unfold doS at hp;rw [if_pos hv] at hp
  refine Jn.mk (fun b=>b=true) (Ite.mk (fun _=>rfl) (fun h1=>Ite.mk (fun _=>rfl) (fun h2=>?_))) (fun b hb=>Ite.t hb hp)
  simp at h1 h2;omega
 unfold doS at hp;rw [if_neg hv] at hp
 obtain⟨n,hn⟩:=Int.eq_ofNat_of_zero_le (show 0≤i by omega)
 have hlt:n<st.Robots.length:=by omega
 have hx:=List.getElem?_eq_getElem hlt
 have hg:st.Robots.getD i.toNat default=st.Robots[n]:=by rw [hn];exact Wi hx
 rw [hg] at hp
 generalize st.Robots[n]=r at hp hx
 have hb:=Q7n h hx a
 refine Jn.mk (fun b=>b=r.Dead) (Ite.f (by simp;omega) (Ite.f (by simp;omega) ⟨r,QD hn hx,rfl⟩)) (fun b hbd=>?_)
 subst hbd
 unfold doR at hp
 refine Ite.mk (fun h1=>?_) (fun h1=>?_)
 ·rw [if_pos h1] at hp;exact hp
 rw [if_neg (by rw [h1];simp)] at hp
 refine⟨r,QD hn hx,YR ?_⟩
 refine Jn.mk (fun c=>c=chg st r a) (Ite.mk (fun h2=>?_) (fun h2=>?_)) (fun c hc=>?_)
 ·unfold chg;rw [if_neg (by simpa using h2)]
 ·unfold chg;rw [if_pos (by simpa using h2)]
 subst hc
 refine Jn.mk (fun l=>l=st.Robots.set i.toNat {r with Load:=lod st r a,Charge:=chg st r a}) (Ite.mk (fun h2=>Q2a k hsl ?_) (fun h2=>Jn.mk' (Ite.mk (fun h3=>?_) (fun h3=>?_)))) (fun l hl=>?_)
 ·rw [List.set_set];unfold lod;rw [if_pos (by simpa using h2)]
 ·rw [List.set_set];unfold lod;rw [if_neg (by simpa using h2),if_pos (by simpa using h3)]
 ·unfold lod;rw [if_neg (by simpa using h2),if_neg (by simpa using h3)]
 subst hl
 refine Z2 h0 h9 (Ite.mk (fun h2=>?_) (fun h2=>?_))
 ·have hm:mvB a=false:=by simpa using h2
  unfold nwR nwS at hp;rw [hm] at hp
  simp only [Bool.false_and,Bool.false_eq_true,false_and,if_false] at hp
  exact hp
 have hm:mvB a=true:=by simpa using h2
 refine⟨_,Q7I hn hlt,W5 h.fl ?_⟩
 unfold nwR nwS at hp;rw [hm,Bool.true_and] at hp
 show Jn _ _
 refine Jn.mk (fun p:List Int×List ApiRobot=>p=(nwS s st r a,st.Robots.set i.toNat (nwR s st r a))) (Ite.mk (fun h3=>Q05 ks h.rs ?_) (fun h3=>?_)) (fun p hpp=>?_)
 ·have h3':(nx s.Floor r.Cell (a-1)).2=true:=h3
  have hsp:=Q2r h.rs (nx s.Floor r.Cell (a-1)).1
  refine Jn.mk (fun l=>l=nwS s st r a) (Ite.mk (fun h4=>?_) (fun h4=>?_)) (fun l hl=>?_)
  ·have h4':0≤lod st r a:=by simpa using h4
   obtain⟨m,hm2⟩:=Int.eq_ofNat_of_zero_le h4'
   refine⟨_,QD hm2 (List.getElem?_eq_getElem (by omega)),?_⟩
   unfold nwS;rw [if_pos ⟨by rw [hm,h3'];rfl,h4'⟩]
  ·have h4':¬0≤lod st r a:=by simpa using h4
   unfold nwS;rw [if_neg (fun e=>h4' e.2)]
  ·subst hl
   have ew:w64 (spd s (nx s.Floor r.Cell (a-1)).1-1)=spd s (nx s.Floor r.Cell (a-1)).1-1:=QF (by omega) (by omega)
   rw [List.set_set,List.set_set]
   simp only [] at ew ⊢
   rw [ew]
   show (_,_)=(_,_)
   unfold nwR;rw [hm,h3'];rfl
 ·have h3':(nx s.Floor r.Cell (a-1)).2=false:=h3
  show (_,_)=(_,_)
  unfold nwR nwS;rw [hm,h3']
  simp only [Bool.and_false,Bool.false_eq_true,false_and,if_false]
 ·subst hpp
  unfold nwR nwS;rw [hm,Bool.true_and];exact hp
end
end Go.Taq
/- The mathematics, part OF: actions keep what they need; examples; ActTells. -/
set_option linter.unusedVariables false
set_option linter.unusedSimpArgs false
namespace Go.Taq
open Go
section
variable {s:ApiSite} {st:ApiState}
theorem Q2S (r:ApiRobot) (a:Int):(nwS s st r a).length=st.Shelves.length:=by unfold nwS;split <;> simp
theorem Q6n (h:LS s st) (r:ApiRobot) (a:Int) {c:Int} (hc:c∈nwS s st r a):isC s.Floor c=true:=by
 unfold nwS at hc
 split at hc
 ·rename_i hif
  simp only [Bool.and_eq_true] at hif
  rcases List.mem_or_eq_of_mem_set hc with e | e
  ·exact h.cell c e
  ·rw [e];exact (Wx h.fl hif.1.2).2.1
 ·exact h.cell c hc
theorem Q4S (h:LS s st) {n:Nat} {r:ApiRobot} (hx:st.Robots[n]?=some r) (a:Int):isC s.Floor (nwR s st r a).Cell=true:=by
 unfold nwR
 split
 ·rename_i hif
  simp only [Bool.and_eq_true] at hif
  exact (Wx h.fl hif.2).2.1
 ·exact (h.rob n r hx).1
theorem Q4B (r:ApiRobot) (a:Int):(nwR s st r a).Load=lod st r a:=by unfold nwR;split <;> rfl
theorem Q5c (r:ApiRobot) (a:Int):(nwR s st r a).Charge=chg st r a:=by unfold nwR;split <;> rfl
theorem Q6x (r:ApiRobot) (a:Int):(nwR s st r a).Mute=r.Mute∧(nwR s st r a).Dead=r.Dead:=by unfold nwR;split <;> exact⟨rfl,rfl⟩
theorem Q6Q (h:LS s st) (r:ApiRobot) (a:Int):(nwR s st r a).Rest=r.Rest∨0≤(nwR s st r a).Rest∧(nwR s st r a).Rest≤100:=by
 unfold nwR;split
 ·have:=Q2r h.rs (nx s.Floor r.Cell (a-1)).1
  right;simp only;omega
 ·exact .inl rfl
theorem Zy {α:Type} {l:List α} {n j:Nat} {a x:α} (h:(l.set n a)[j]?=some x):(j=n∧n<l.length∧x=a)∨(j≠n∧l[j]?=some x):=by
 rw [List.getElem?_set] at h
 split at h
 ·split at h
  ·cases h;exact .inl ⟨by omega,by assumption,rfl⟩
  ·cases h
 ·exact .inr ⟨by omega,h⟩
theorem ZK (hf:RF s.Floor) {c:Int} (h:isC s.Floor c=true):I64 c:=by
 have:=QN.1 h;have:=hf.len.1
 exact WC (by omega)
theorem Q9n (k:QZ st) (h:LS s st) {n:Nat} {r:ApiRobot} (hx:st.Robots[n]?=some r) (a:Int):LS s (doR s st n r a)∧QZ (doR s st n r a):=by
 unfold doR
 split
 ·exact⟨h,k⟩
 have hlt:=(List.getElem?_eq_some_iff.1 hx).1
 have hr:=k.Robots.2 r (List.mem_of_getElem? hx)
 have hb:=Q7n h hx a
 have h3:=h.sz.sh
 have hmx:(1000000:Nat)≤maxLen:=by decide
 refine⟨⟨h.fl,h.rs,⟨by simp only;rw [Q2S];exact h.sz.sh,by simp only;rw [List.length_set];exact h.sz.rb,h.sz.pp,h.sz.dd,h.sz.sk⟩,fun c hc=>Q6n h r a hc,fun i x hxi=>?_⟩,⟨k.Tick,⟨by rw [Q2S];exact k.Shelves.1,fun c hc=>ZK h.fl (Q6n h r a hc)⟩,⟨by rw [List.length_set];exact k.Robots.1,fun x hxm=>?_⟩,k.People,k.Dead,k.Stuck⟩⟩
 ·show _∧_∧x.Load<((nwS s st r a).length:Int)
  rw [Q2S]
  rcases Zy hxi with ⟨_,_,e⟩ | ⟨_,e⟩
  ·subst e;rw [Q4B];exact⟨Q4S h hx a,hb.1,hb.2⟩
  ·exact h.rob i x e
 ·rcases List.mem_or_eq_of_mem_set hxm with e | e
  ·exact k.Robots.2 x e
  ·subst e
   refine⟨ZK h.fl (Q4S h hx a),?_,?_,?_,?_,trivial⟩
   ·rw [Q4B];exact WC (by omega)
   ·rw [Q5c];exact Q8W k hx a
   ·rcases Q6Q h r a with e | e
    ·rw [e];exact hr.Rest
    ·exact WC (by omega)
   ·rw [(Q6x r a).1];exact hr.Mute
theorem Q8N (k:QZ st) (h:LS s st) (i a:Int):LS s (doS s st i a)∧QZ (doS s st i a):=by
 unfold doS
 split
 ·exact⟨h,k⟩
 ·obtain⟨n,hn⟩:=Int.eq_ofNat_of_zero_le (show 0≤i by omega)
  have hlt:n<st.Robots.length:=by omega
  have hx:=List.getElem?_eq_getElem hlt
  rw [hn];show LS s (doR s st n (st.Robots.getD n default) a)∧QZ (doR s st n (st.Robots.getD n default) a)
  rw [Wi hx];exact Q9n k h hx a
theorem RSt.cells (h:RSt s st):∀c,c∈st.Shelves→isC s.Floor c=true:=by
 intro c hc
 obtain⟨i,hi⟩:=List.getElem?_of_mem hc
 cases hb:carB st i with
 | true=>
  rw [Q10 (by omega)] at hb
  obtain⟨r,hr,hl⟩:=List.any_eq_true.1 hb
  obtain⟨j,hj⟩:=List.getElem?_of_mem hr
  have hR:=h.rob j r hj
  have hl':r.Load=(i:Int):=by simpa using hl
  have:=(hR.own (by omega)).2
  rw [hl'] at this
  have e:st.Shelves.getD i 0=c:=Gv hi
  rw [←e];show isC s.Floor (st.Shelves.getD ((i:Int)).toNat 0)=true
  rw [this];exact hR.cell
 | false=>
  have:=h.shel i c hi hb
  unfold kx at this
  cases hic:isC s.Floor c with
  | true=>rfl
  | false=>rw [hic] at this;simp at this
theorem Fair.ls (h:Fair s st):LS s st:=⟨h.r.fl,h.r.rs,h.f12.sz,h.rst.cells,fun i r hr=>⟨(h.rst.rob i r hr).cell,(h.rst.rob i r hr).load.1,(h.rst.rob i r hr).load.2⟩⟩
end
/-! ## the example -/
theorem Q2N {a:List Int} (hm:a.length≤maxLen) {post:Bool→Prop} (hp:post true):Kl a a post:=Q3a hm (fun _=>hp) rfl
theorem Q5Y {s:ApiSite} {st:ApiState} {i a:Int} (h:legS s st i a=0):(0≤i∧i<st.Robots.length)∧0≤a∧a<10:=by
 unfold legS at h
 split at h
 ·cases h
 ·unfold legR at h
  split at h
  ·cases h
  ·omega
end Go.Taq
/- The mathematics, part OG: ActAlone. -/
set_option linter.unusedVariables false
set_option linter.unusedSimpArgs false
namespace Go.Taq
open Go
section
variable {s:ApiSite} {st:ApiState}
theorem Q7h {i a:Int} {n:Nat} {r:ApiRobot} (hn:i=n) (hx:st.Robots[n]?=some r):doS s st i a=doR s st n r a:=by
 have hlt:=(List.getElem?_eq_some_iff.1 hx).1
 subst hn
 unfold doS
 rw [if_neg (by omega)]
 show doR s st n (st.Robots.getD n default) a=_
 rw [Wi hx]
theorem Q42 {i a:Int} {n:Nat} {r:ApiRobot} (hn:i=n) (hx:st.Robots[n]?=some r):legS s st i a=legR s st r a:=by
 have hlt:=(List.getElem?_eq_some_iff.1 hx).1
 subst hn
 unfold legS
 rw [if_neg (by omega)]
 show legR s st (st.Robots.getD n default) a=_
 rw [Wi hx]
theorem Q92 (n:Nat) (r:ApiRobot) (a:Int):(doR s st n r a).Robots.length=st.Robots.length:=by unfold doR;split <;> simp
theorem Q9r (n:Nat) (r:ApiRobot) (a:Int):(doR s st n r a).Shelves.length=st.Shelves.length:=by
 unfold doR;split
 ·rfl
 ·exact Q2S r a
theorem Q4N {α:Type} {l:List α} {n:Nat} {x:α} (h:l[n]?=some x):l.set n x=l:=by
 have:=set_idx (xs:=l) (i:=(n:Int)) (x:=x) (QD rfl h)
 simpa using this
theorem Q6G {r:ApiRobot} {a:Int} (hm:mvB a=true) (hd:r.Dead=false) (h:legR s st r a=0):(nx s.Floor r.Cell (a-1)).2=true∧r.Rest≤0∧movS s st r (a-1)=0:=by
 have h1:=XI.1 hm
 unfold legR at h
 rw [if_neg (by omega),if_neg (by omega)] at h
 split at h
 ·cases h
 split at h
 ·cases h
 rename_i hb
 split at h
 ·cases h
 refine⟨?_,?_,h⟩
 ·unfold movS at h
  split at h
  ·cases h
  ·rename_i hc
   cases e:(nx s.Floor r.Cell (a-1)).2 with
   | true=>rfl
   | false=>exact absurd (by rw [e];rfl) hc
 ·rw [hm] at hb;simpa using hb
end
end Go.Taq
