/- The mathematics, several parts in one text. -/
import Derived.Test.YtlaehjhkcanffaaGreatGA
import Derived.Test.YtlaehjhkcanffaaGreatNA
/- The mathematics, part GB: settle makes the fuel of cells less as long as that is possible (chapter 33). -/
set_option linter.unusedVariables false
set_option linter.unusedSimpArgs false
namespace Go.Taq
open Go
def wtF (B:Nat) (v:Int):Nat:=if v<0 then B+1 else v.toNat
def WF (B:Nat) (f:List Int):Nat:=(f.map (wtF B)).sum
def nn (f:List Int):Nat:=f.countP fun v=>decide (0≤v)
section
end
end Go.Taq
/- The mathematics, part GC: the graph of a site, its fuel (chapter 33). -/
set_option linter.unusedVariables false
set_option linter.unusedSimpArgs false
namespace Go.Taq
open Go
def prS (s:ApiSite) (d x:Int):Int:=if d<0∨d≥6∨isC s.Floor x=false then 0 else cst 20000 (1+d) true+(if kd s.Floor x=3 then 0 else (spd s x-1)*3)
theorem Q2U {d:Int} (h0:0≤d) (h6:d<6):1≤cst 20000 (1+d) true∧cst 20000 (1+d) true≤21:=by
 have:d=0∨d=1∨d=2∨d=3∨d=4∨d=5:=by omega
 rcases this with e | e | e | e | e | e <;> subst e <;> decide
theorem W7 {s:ApiSite} (hs:RS s) {d x:Int} (h0:0≤d) (h6:d<6) (hx:isC s.Floor x=true):1≤prS s d x∧prS s d x≤400:=by
 have h1:=Q2U h0 h6
 have h2:=Q0p hs x
 unfold prS
 rw [if_neg (by rw [hx];simp;omega)]
 split <;> omega
theorem Wa {post:Int→Prop} (hp:post 3):X4 post:=by
 unfold X4
 exact WO (by omega) (by omega) hp
theorem Q0F {s:ApiSite} (ks:OkApiSite s) (hs:RS s) {d x:Int} {post:Int→Prop} (hp:post (prS s d x)):XC s d x post:=by
 unfold XC XI Xd
 refine Jn.mk (fun b=>b=(decide (d<0)||decide (d≥6)||!isC s.Floor x)) (Ite.mk (fun h=>by rw [h];rfl) (fun h=>Ite.mk (fun h2=>by rw [h,h2];rfl) (fun h2=>Jn.mk' (Ite.mk (fun h3=>?_) (fun h3=>?_))))) (fun b hb=>Ite.mk (fun h=>?_) (fun h=>?_))
 ·rw [h,h2]
  have:isC s.Floor x=decide (x<(s.Floor.Kind.length:Int)):=by unfold isC;rw [decide_eq_true (show 0≤x from of_decide_eq_true h3)];rfl
  rw [this];rfl
 ·rw [h,h2]
  have:isC s.Floor x=false:=by unfold isC;rw [decide_eq_false (show ¬0≤x from of_decide_eq_false h3)];rfl
  rw [this];rfl
 ·rw [h] at hb
  have hb':=hb.symm
  simp only [Bool.or_eq_true,decide_eq_true_eq,Bool.not_eq_true'] at hb'
  unfold prS at hp
  rw [if_pos (by rcases hb' with (h | h) | h;exact .inl h;exact .inr (.inl h);exact .inr (.inr h))] at hp;exact hp
 ·rw [h] at hb
  have hb':=hb.symm
  simp only [Bool.or_eq_false_iff,decide_eq_false_iff_not,Bool.not_eq_false'] at hb'
  obtain⟨⟨h1,h2⟩,h3⟩:=hb'
  have hsb:=Q0p hs x
  have hcb:=Q2U (d:=d) (by omega) (by omega)
  unfold prS at hp
  rw [if_neg (by rw [h3];simp;omega)] at hp
  rw [Q6 (x:=1+d) (by omega) (by omega)]
  refine WO (by omega) (by omega) ⟨_,Xl h3,Jn.mk' (Ite.mk (fun h4=>Yt ks hs (Wa ?_)) (fun h4=>?_))⟩
  ·rw [if_neg (by simpa using h4)] at hp
   rw [Q6 (x:=spd s x-1) (by omega) (by omega),Q6 (x:=(spd s x-1)*3) (by omega) (by omega),Q6 (by omega) (by omega)]
   exact hp
  ·rw [if_pos (by simpa using h4),Int.add_zero] at hp
   exact hp
section
end
end Go.Taq
/- The mathematics, part GD: the fuel of a site's cells is right (chapter 33). -/
set_option linter.unusedVariables false
set_option linter.unusedSimpArgs false
namespace Go.Taq
open Go
theorem Q3A {α:Type} (w:α→Nat) {K:Nat}:∀{l:List α},(∀x,x∈l→w x≤K)→(l.map w).sum≤l.length*K
 | [],_=>by simp
 | a :: l,h=>by
  have h1:=h a (by simp)
  have h2:=Q3A w (l:=l) (fun x hx=>h x (by simp [hx]))
  rw [List.map_cons,List.sum_cons,List.length_cons,Nat.add_mul];omega
section
end
/-! ## walks on the site -/
inductive WL (s:ApiSite) (L:List Int):Nat→Nat→Prop where
 | home {c:Nat} (hc:c<s.Floor.Kind.length) (h:kd s.Floor c=3):WL s L c 0
 | step {c d y m:Nat} (hc:c<s.Floor.Kind.length) (h:kd s.Floor c≠3) (hd:d<6) (hn:nx s.Floor c d=((y:Int),true)) (hL:(y:Int)∉L) (hm:WL s L y m):WL s L c (m+(prS s d y).toNat)
theorem WL.congr {s:ApiSite} {L L':List Int} (h:∀y:Nat,(y:Int)∈L'→(y:Int)∈L) {c m:Nat} (hw:WL s L c m):WL s L' c m:=by
 induction hw with
 | home hc hh=>exact .home hc hh
 | step hc hh hd hn hL hm ih=>exact .step hc hh hd hn (fun hm=>hL (h _ hm)) ih
theorem WL.lt {s:ApiSite} {L:List Int} {c m:Nat} (h:WL s L c m):c<s.Floor.Kind.length:=by
 cases h with
 | home h=>exact h
 | step h=>exact h
structure FuL (s:ApiSite) (L:List Int) (f:List Int):Prop where
 len:f.length=s.Floor.Kind.length
 lo:∀c,c<s.Floor.Kind.length→-1≤fu f c
 sound:∀c,c<s.Floor.Kind.length→0≤fu f c→WL s L c (fu f c).toNat
 least:∀c m,WL s L c m→0≤fu f c∧fu f c≤m
theorem FuL.uniq {s:ApiSite} {L L' f f':List Int} (h:FuL s L f) (h':FuL s L' f') (hL:∀y:Nat,(y:Int)∈L↔(y:Int)∈L'):f=f':=by
 refine List.ext_getElem? fun i=>?_
 by_cases hi:i<s.Floor.Kind.length
 ·rw [Q0d (by rw [h.len];exact hi),Q0d (by rw [h'.len];exact hi)]
  have l1:=h.lo i hi;have l2:=h'.lo i hi
  by_cases h0:0≤fu f i
  ·have g1:=h'.least i _ ((h.sound i hi h0).congr (fun y hy=>(hL y).2 hy))
   have g2:=h.least i _ ((h'.sound i hi g1.1).congr (fun y hy=>(hL y).1 hy))
   congr 1;omega
  ·by_cases h1:0≤fu f' i
   ·have g2:=h.least i _ ((h'.sound i hi h1).congr (fun y hy=>(hL y).1 hy))
    omega
   ·congr 1;omega
 ·rw [List.getElem?_eq_none (by rw [h.len];omega),List.getElem?_eq_none (by rw [h'.len];omega)]
end Go.Taq
/- The mathematics, part Z: distances by breadth first search (floor.spread). -/
set_option linter.unusedVariables false
namespace Go.Taq
open Go
def gI (l:List Int) (c:Int):Int:=l.getD c.toNat (-1)
def gB (l:List Bool) (c:Int):Bool:=l.getD c.toNat false
theorem Zz {l:List Int} {c c' v:Int} (h0:0≤c) (h1:c<l.length) (h2:0≤c'):gI (l.set c.toNat v) c'=if c=c' then v else gI l c':=by
 unfold gI
 rw [List.getD_eq_getElem?_getD,List.getD_eq_getElem?_getD,List.getElem?_set]
 by_cases e:c=c'
 ·subst e;rw [if_pos rfl,if_pos (by omega),if_pos rfl];rfl
 ·rw [if_neg (by omega),if_neg e]
theorem Q4v {l:List Bool} {c c':Int} {v:Bool} (h0:0≤c) (h1:c<l.length) (h2:0≤c'):gB (l.set c.toNat v) c'=if c=c' then v else gB l c':=by
 unfold gB
 rw [List.getD_eq_getElem?_getD,List.getD_eq_getElem?_getD,List.getElem?_set]
 by_cases e:c=c'
 ·subst e;rw [if_pos rfl,if_pos (by omega),if_pos rfl];rfl
 ·rw [if_neg (by omega),if_neg e]
theorem Q11:∀{l:List Bool} {i:Nat},l[i]?=some true→(l.set i false).count true+1=l.count true
 | [],i,h=>by simp at h
 | b :: l,0,h=>by simp at h;subst h;simp
 | b :: l,i+1,h=>by
  have ih:=Q11 (l:=l) (i:=i) (by simpa using h)
  simp only [List.set_cons_succ,List.count_cons]
  omega
theorem Q3r {l:List Bool} {c:Int} (h0:0≤c) (h1:c<l.length) (h:gB l c=true):(l.set c.toNat false).count true+1=l.count true:=by
 refine Q11 ?_
 unfold gB at h
 rw [List.getD_eq_getElem?_getD,List.getElem?_eq_getElem (by omega)] at h
 rw [List.getElem?_eq_getElem (by omega)]
 simpa using h
def okc (f:ApiFloor) (l:List Int) (c:Int):Prop:=isC f c=true∧kd f c≠0∧c∉l
def Pth (f:ApiFloor) (mv:Int→Int→Int×Bool) (src l:List Int):Nat→Int→Prop
 | 0,c=>c∈src∧okc f l c
 | k+1,c=>∃p d,Pth f mv src l k p∧0≤d∧d<6∧mv p d=(c,true)∧okc f l c
theorem Pth.ok {f:ApiFloor} {mv:Int→Int→Int×Bool} {src l:List Int}:∀{k:Nat} {c:Int},Pth f mv src l k c→okc f l c
 | 0,c,h=>h.2
 | k+1,c,⟨_,_,_,_,_,_,h⟩=>h
structure Bfs (f:ApiFloor) (mv:Int→Int→Int×Bool) (src l:List Int) (out queue:List Int) (opn:List Bool) (K:Nat):Prop where
 ol:out.length=f.Kind.length
 pl:opn.length=f.Kind.length
 op:∀c,isC f c=true→(gB opn c=true↔okc f l c∧gI out c=-1)
 pt:∀c,isC f c=true→gI out c=-1∨∃k:Nat,gI out c=k∧Pth f mv src l k c∧k+1≤K
 qu:∀q,q∈queue→isC f q=true∧0≤gI out q
 le:∀c q,isC f c=true→q∈queue→gI out c≤gI out q+1
 so:queue.Pairwise (fun p q=>gI out p≤gI out q)
 ct:K+opn.count true≤f.Kind.length
section
variable {f:ApiFloor} {mv:Int→Int→Int×Bool} {src l out queue:List Int} {opn:List Bool} {K:Nat}
theorem Bfs.put (hb:Bfs f mv src l out queue opn K) {c:Int} {k:Nat} (hc:gB opn c=true) (hcc:isC f c=true) (hP:okc f l c→Pth f mv src l k c) (hk:k≤K) (hle:∀q,q∈queue→gI out q≤k∧(k:Int)≤gI out q+1) (hall:∀q,isC f q=true→gI out q≤k+1):
  Bfs f mv src l (out.set c.toNat k) (queue++[c]) (opn.set c.toNat false) (K+1):=by
 have hc':=Qp.1 hcc
 have c0:=hc'.1
 have c1:c<out.length:=by rw [hb.ol];exact hc'.2
 have c2:c<opn.length:=by rw [hb.pl];exact hc'.2
 obtain⟨ho,hn1⟩:=(hb.op c hcc).1 hc
 have gq:∀q,q∈queue→gI (out.set c.toNat k) q=gI out q:=fun q hq=>by
  obtain⟨q1,q2⟩:=hb.qu q hq
  rw [Zz c0 c1 (Qp.1 q1).1,if_neg]
  rintro rfl;omega
 refine⟨by simp [hb.ol],by simp [hb.pl],fun q hq=>?_,fun q hq=>?_,fun q hq=>?_,fun q r hq hr=>?_,?_,?_⟩
 ·have q0:=(Qp.1 hq).1
  rw [Q4v c0 c2 q0,Zz c0 c1 q0]
  by_cases e:c=q
  ·rw [if_pos e,if_pos e];constructor
   ·intro h;cases h
   ·rintro⟨_,h⟩;omega
  ·rw [if_neg e,if_neg e];exact hb.op q hq
 ·have q0:=(Qp.1 hq).1
  rw [Zz c0 c1 q0]
  by_cases e:c=q
  ·subst e;rw [if_pos rfl];exact .inr ⟨k,rfl,hP ho,by omega⟩
  ·rw [if_neg e]
   rcases hb.pt q hq with h | ⟨j,h1,h2,h3⟩
   ·exact .inl h
   ·exact .inr ⟨j,h1,h2,by omega⟩
 ·rcases List.mem_append.1 hq with hq | hq
  ·rw [gq q hq];exact hb.qu q hq
  ·simp at hq;subst hq
   rw [Zz c0 c1 c0,if_pos rfl];exact⟨hcc,by omega⟩
 ·have q0:=(Qp.1 hq).1
  rw [Zz c0 c1 q0]
  rcases List.mem_append.1 hr with hr | hr
  ·rw [gq r hr]
   split
   ·exact (hle r hr).2
   ·exact hb.le q r hq hr
  ·simp at hr;subst hr
   rw [Zz c0 c1 c0,if_pos rfl]
   split
   ·omega
   ·exact hall q hq
 ·rw [List.pairwise_append]
  refine⟨?_,by simp,fun a ha b hb'=>?_⟩
  ·refine hb.so.imp_of_mem (fun {a b} ha hb' h=>?_)
   rw [gq a ha,gq b hb'];exact h
  ·simp at hb';subst hb'
   rw [gq a ha,Zz c0 c1 c0,if_pos rfl];exact (hle a ha).1
 ·have:=Q3r c0 c2 hc
  have:=hb.ct
  omega
end
end Go.Taq
/- The mathematics, part BA: floor.Back, floor.Path. -/
set_option linter.unusedVariables false
set_option linter.unusedSimpArgs false
namespace Go.Taq
open Go
def opp (d:Int):Int:=if d=0 then 2 else if d=1 then 3 else if d=2 then 0 else if d=3 then 1 else if d=4 then 5 else if d=5 then 4 else -1
def bk (f:ApiFloor) (c d:Int):Int×Bool:=
 if nbr f c (opp d)<0 then (0,false) else if (nx f (nbr f c (opp d)) d).2=false then (0,false) else (nbr f c (opp d),true)
section
variable {f:ApiFloor}
def PB (f:ApiFloor) (b:Int) (l:List Int) (k:Nat) (c:Int):Prop:=Pth f (bk f) [b] l k c
def Dm (f:ApiFloor) (b:Int) (l:List Int) (m:Nat) (c:Int):Prop:=PB f b l m c∧∀i,PB f b l i c→m≤i
structure WayL (f:ApiFloor) (l:List Int) (a b:Int) (k:Nat) (p:List Int):Prop where
 len:p.length=k+1
 hd:p[0]?=some a
 lst:p[k]?=some b
 st:∀j,j<k→∃(x y d:Int),p[j]?=some x∧p[j+1]?=some y∧0≤d∧d<6∧nx f x d=(y,true)
 ok:∀x,x∈p→okc f l x
 pb:∀(j:Nat) x,p[j]?=some x→PB f b l (k-j) x
 kb:k<f.Kind.length
 ft:∀j,j<k→∃(x y d:Int),p[j]?=some x∧p[j+1]?=some y∧0≤d∧d<6∧nx f x d=(y,true)∧Dm f b l (k-(j+1)) y∧∀d',0≤d'→d'<d→¬((nx f x d').2=true∧Dm f b l (k-(j+1)) (nx f x d').1)
theorem PB.mono {b:Int} {l l':List Int} (h:∀x,x∈l'→x∈l):∀{k:Nat} {c:Int},PB f b l k c→PB f b l' k c
 | 0,c,⟨h1,h2,h3,h4⟩=>⟨h1,h2,h3,fun hm=>h4 (h _ hm)⟩
 | k+1,c,⟨p,d,h0,h1,h2,h3,h4,h5,h6⟩=>⟨p,d,PB.mono h h0,h1,h2,h3,h4,h5,fun hm=>h6 (h _ hm)⟩
theorem PB.congr {b:Int} {l l':List Int} (h:∀c,c∈l↔c∈l') {k:Nat} {c:Int}:PB f b l k c↔PB f b l' k c:=⟨fun g=>g.mono fun x hx=>(h x).2 hx,fun g=>g.mono fun x hx=>(h x).1 hx⟩
theorem Dm.congr {b:Int} {l l':List Int} (h:∀c,c∈l↔c∈l') {k:Nat} {c:Int}:Dm f b l k c↔Dm f b l' k c:=by
 unfold Dm;rw [PB.congr h]
 exact⟨fun g=>⟨g.1,fun i hi=>g.2 i ((PB.congr h).2 hi)⟩,fun g=>⟨g.1,fun i hi=>g.2 i ((PB.congr h).1 hi)⟩⟩
theorem WayL.uniq {a b:Int} {l l':List Int} {k:Nat} {p p':List Int} (h:WayL f l a b k p) (h':WayL f l' a b k p') (hm:∀c,c∈l↔c∈l'):p=p':=by
 have key:∀j,j≤k→p[j]?=p'[j]?:=by
  intro j
  induction j with
  | zero=>intro _;rw [h.hd,h'.hd]
  | succ j ih=>
   intro hj
   obtain⟨x,y,d,g1,g2,g3,g4,g5,g6,g7⟩:=h.ft j (by omega)
   obtain⟨x',y',d',q1,q2,q3,q4,q5,q6,q7⟩:=h'.ft j (by omega)
   have e:=ih (by omega)
   rw [g1,q1] at e
   cases e
   have hd:d=d':=by
    rcases Int.lt_trichotomy d d' with hlt | he | hlt
    ·exact absurd ⟨by rw [g5],by rw [g5];exact (Dm.congr hm).1 g6⟩ (q7 d g3 hlt)
    ·exact he
    ·exact absurd ⟨by rw [q5],by rw [q5];exact (Dm.congr hm).2 q6⟩ (g7 d' q3 hlt)
   subst hd
   rw [g5] at q5
   rw [g2,q2]
   exact congrArg some (congrArg Prod.fst q5)
 apply List.ext_getElem?
 intro j
 by_cases hj:j≤k
 ·exact key j hj
 ·rw [List.getElem?_eq_none (by rw [h.len];omega),List.getElem?_eq_none (by rw [h'.len];omega)]
end
end Go.Taq
/- The mathematics, part BB: ways home (bank.Way). -/
set_option linter.unusedVariables false
set_option linter.unusedSimpArgs false
namespace Go.Taq
open Go
end Go.Taq
