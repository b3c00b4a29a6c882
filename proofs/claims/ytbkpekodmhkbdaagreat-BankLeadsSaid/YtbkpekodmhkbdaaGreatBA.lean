/- The mathematics, several parts in one text. -/
import Derived.Test.YtbkpekodmhkbdaaGreatQA
import Derived.Test.YtbkpekodmhkbdaaGreatVc
import Derived.IntWalk
import Derived.Test.YtbkpekodmhkbdaaGreatAF
/- The mathematics, part AR: slices.Repeat of one number. -/
set_option linter.unusedVariables false
set_option linter.unusedSimpArgs false
namespace Go.Taq
open Go
end Go.Taq
/- The mathematics, part AG: the examples of chapter 16; ArenaTells. -/
set_option linter.unusedVariables false
set_option linter.unusedSimpArgs false
namespace Go.Taq
open Go
end Go.Taq
/- The mathematics, part Z: distances by breadth first search (floor.spread). -/
set_option linter.unusedVariables false
namespace Go.Taq
open Go
def gI (l:List Int) (c:Int):Int:=l.getD c.toNat (-1)
def gB (l:List Bool) (c:Int):Bool:=l.getD c.toNat false
theorem Q3y {l:List Int} {c:Int} (h0:0≤c) (h1:c<l.length):idx l c=some (gI l c):=by
 rw [YM h0 h1,gI,List.getD_eq_getElem?_getD,List.getElem?_eq_getElem (by omega)];rfl
theorem Q66 {l:List Bool} {c:Int} (h0:0≤c) (h1:c<l.length):idx l c=some (gB l c):=by
 rw [YM h0 h1,gB,List.getD_eq_getElem?_getD,List.getElem?_eq_getElem (by omega)];rfl
theorem W6 {l:List Int} {c c' v:Int} (h0:0≤c) (h1:c<l.length) (h2:0≤c'):gI (l.set c.toNat v) c'=if c=c' then v else gI l c':=by
 unfold gI
 rw [List.getD_eq_getElem?_getD,List.getD_eq_getElem?_getD,List.getElem?_set]
 by_cases e:c=c'
 ·subst e;rw [if_pos rfl,if_pos (by omega),if_pos rfl];rfl
 ·rw [if_neg (by omega),if_neg e]
theorem Q6D {l:List Bool} {c c':Int} {v:Bool} (h0:0≤c) (h1:c<l.length) (h2:0≤c'):gB (l.set c.toNat v) c'=if c=c' then v else gB l c':=by
 unfold gB
 rw [List.getD_eq_getElem?_getD,List.getD_eq_getElem?_getD,List.getElem?_set]
 by_cases e:c=c'
 ·subst e;rw [if_pos rfl,if_pos (by omega),if_pos rfl];rfl
 ·rw [if_neg (by omega),if_neg e]
theorem Q3s:∀{l:List Bool} {i:Nat},l[i]?=some true→(l.set i false).count true+1=l.count true
 | [],i,h=>by simp at h
 | b :: l,0,h=>by simp at h;subst h;simp
 | b :: l,i+1,h=>by
  have ih:=Q3s (l:=l) (i:=i) (by simpa using h)
  simp only [List.set_cons_succ,List.count_cons]
  omega
theorem Q4y {l:List Bool} {c:Int} (h0:0≤c) (h1:c<l.length) (h:gB l c=true):(l.set c.toNat false).count true+1=l.count true:=by
 refine Q3s ?_
 unfold gB at h
 rw [List.getD_eq_getElem?_getD,List.getElem?_eq_getElem (by omega)] at h
 rw [List.getElem?_eq_getElem (by omega)]
 simpa using h
def Q5o (f:ApiFloor) (move:Int→Int→((Int×Bool)→Prop)→Prop) (from_1:List Int) (avoid:List Int) (post:(List Int)→Prop):Prop:=
 Kn f (fun x1=>(0≤x1∧x1≤1099511627776)∧Kn f (fun x3=>(0≤x3∧x3≤1099511627776)∧Jn (fun (J6:(List Int×List Bool)→Prop)=>Loop (fun (s7:List Int×List Bool×Int) Y8=>Ite (decide (s7.2.2<(f.Kind.length:Int))) (∃x10,idx f.Kind s7.2.2=some x10∧∃x11,idx s7.1 s7.2.2=some x11∧∃x12,idx s7.2.1 s7.2.2=some x12∧Y8 ((s7.1.set (Int.toNat s7.2.2) (-1)),(s7.2.1.set (Int.toNat s7.2.2) (x10 != 0)),w64 (s7.2.2+1))) (J6 (s7.1,s7.2.1))) ((List.replicate (Int.toNat x1) 0),(List.replicate (Int.toNat x3) false),0)) (fun (x5:List Int×List Bool)=>Jn (fun (J14:(List Bool)→Prop)=>Loop (fun (s15:List Bool×Int) Y16=>Ite (decide (s15.2<(avoid.length:Int))) (∃x18,idx avoid s15.2=some x18∧KT f x18 (fun x19=>Jn (fun (J21:(List Bool)→Prop)=>Ite x19 (∃x23,idx s15.1 x18=some x23∧J21 (s15.1.set (Int.toNat x18) false)) (J21 s15.1)) (fun (x20:List Bool)=>Y16 (x20,w64 (s15.2+1))))) (J14 s15.1)) (x5.2,0)) (fun (x13:List Bool)=>Jn (fun (J25:(List Int×List Int×List Bool)→Prop)=>Loop (fun (s26:List Int×List Int×List Bool×Int) Y27=>Ite (decide (s26.2.2.2<(from_1.length:Int))) (∃x29,idx from_1 s26.2.2.2=some x29∧KT f x29 (fun x30=>Jn (fun (J32:(List Int×List Int×List Bool)→Prop)=>Ite x30 (QG x29 0 s26.2.2.1 s26.1 s26.2.1 (fun x34=>J32 (x34.2.1,x34.2.2,x34.1))) (J32 (s26.1,s26.2.1,s26.2.2.1))) (fun (x31:List Int×List Int×List Bool)=>Y27 (x31.1,x31.2.1,x31.2.2,w64 (s26.2.2.2+1))))) (J25 (s26.1,s26.2.1,s26.2.2.1))) ((x5.1,[],x13,0):List Int×List Int×List Bool×Int)) (fun (x24:List Int×List Int×List Bool)=>Jn (fun (J36:(List Int)→Prop)=>Loop (fun (s37:List Int×List Int×List Bool) Y38=>Ite (decide ((s37.2.1.length:Int)>0)) (Jn (fun (J41:(List Int×List Int×List Bool)→Prop)=>∃x42,idx s37.2.1 0=some x42∧(0≤(1:Int)∧(1:Int)≤(s37.2.1.length:Int)∧(s37.2.1.length:Int)≤(s37.2.1.length:Int))∧Jn (fun (J45:(List Int×List Int×List Bool)→Prop)=>Loop (fun (s46:List Int×List Int×List Bool×Int) Y47=>Ite (decide (s46.2.2.2<6)) (move x42 s46.2.2.2 (fun x49=>Jn (fun (J51:(List Int×List Int×List Bool)→Prop)=>Ite x49.2 (∃x53,idx s46.1 x42=some x53∧QG x49.1 (w64 (x53+1)) s46.2.2.1 s46.1 s46.2.1 (fun x54=>J51 (x54.2.1,x54.2.2,x54.1))) (J51 (s46.1,s46.2.1,s46.2.2.1))) (fun (x50:List Int×List Int×List Bool)=>Y47 (x50.1,x50.2.1,x50.2.2,w64 (s46.2.2.2+1))))) (J45 (s46.1,s46.2.1,s46.2.2.1))) (s37.1,(sub s37.2.1 1 (s37.2.1.length:Int)),s37.2.2,0)) (fun (x44:List Int×List Int×List Bool)=>J41 (x44.1,x44.2.1,x44.2.2))) (fun (x40:List Int×List Int×List Bool)=>Y38 (x40.1,x40.2.1,x40.2.2))) (J36 s37.1)) (x24.1,x24.2.1,x24.2.2)) (fun (x35:List Int)=>post x35))))))
def okc (f:ApiFloor) (l:List Int) (c:Int):Prop:=isC f c=true∧kd f c≠0∧c∉l
def Pth (f:ApiFloor) (mv:Int→Int→Int×Bool) (src l:List Int):Nat→Int→Prop
 | 0,c=>c∈src∧okc f l c
 | k+1,c=>∃p d,Pth f mv src l k p∧0≤d∧d<6∧mv p d=(c,true)∧okc f l c
theorem Pth.ok {f:ApiFloor} {mv:Int→Int→Int×Bool} {src l:List Int}:∀{k:Nat} {c:Int},Pth f mv src l k c→okc f l c
 | 0,c,h=>h.2
 | k+1,c,⟨_,_,_,_,_,_,h⟩=>h
structure Bfs (f:ApiFloor) (mv:Int→Int→Int×Bool) (src l:List Int) (out queue:List Int) (opn:List Bool) (K:Nat):Prop where
 ol:out.length=f.Kind.length
 pl:opn.length=f.Kind.length
 op:∀c,isC f c=true→(gB opn c=true↔okc f l c∧gI out c=-1)
 pt:∀c,isC f c=true→gI out c=-1∨∃k:Nat,gI out c=k∧Pth f mv src l k c∧k+1≤K
 qu:∀q,q∈queue→isC f q=true∧0≤gI out q
 le:∀c q,isC f c=true→q∈queue→gI out c≤gI out q+1
 so:queue.Pairwise (fun p q=>gI out p≤gI out q)
 ct:K+opn.count true≤f.Kind.length
section
variable {f:ApiFloor} {mv:Int→Int→Int×Bool} {src l out queue:List Int} {opn:List Bool} {K:Nat}
def rOut (out:List Int) (opn:List Bool) (c n:Int):List Int:=if gB opn c=true then out.set c.toNat n else out
def rQue (queue:List Int) (opn:List Bool) (c:Int):List Int:=if gB opn c=true then queue++[c] else queue
def rOpn (opn:List Bool) (c:Int):List Bool:=if gB opn c=true then opn.set c.toNat false else opn
theorem Q5G (hb:Bfs f mv src l out queue opn K) (hf:RF f) (hq:queue.length≤5000) {c n:Int} (hc:isC f c=true) {post:List Bool×List Int×List Int→Prop} (hp:post (rOpn opn c,rOut out opn c n,rQue queue opn c)):QG c n opn out queue post:=by
 unfold QG
 have hc':=QF.1 hc
 refine⟨_,Q66 hc'.1 (by rw [hb.pl];exact hc'.2),Jn.mk' (Ite.mk (fun h=>⟨_,Q3y hc'.1 (by rw [hb.ol];exact hc'.2),by simp only [List.length_cons,List.length_nil];omega,?_⟩) (fun h=>?_))⟩
 ·simpa [rOpn,rOut,rQue,h] using hp
 ·simpa [rOpn,rOut,rQue,h] using hp
theorem Bfs.put (hb:Bfs f mv src l out queue opn K) {c:Int} {k:Nat} (hc:gB opn c=true) (hcc:isC f c=true) (hP:okc f l c→Pth f mv src l k c) (hk:k≤K) (hle:∀q,q∈queue→gI out q≤k∧(k:Int)≤gI out q+1) (hall:∀q,isC f q=true→gI out q≤k+1):
  Bfs f mv src l (out.set c.toNat k) (queue++[c]) (opn.set c.toNat false) (K+1):=by
 have hc':=QF.1 hcc
 have c0:=hc'.1
 have c1:c<out.length:=by rw [hb.ol];exact hc'.2
 have c2:c<opn.length:=by rw [hb.pl];exact hc'.2
 obtain⟨ho,hn1⟩:=(hb.op c hcc).1 hc
 have gq:∀q,q∈queue→gI (out.set c.toNat k) q=gI out q:=fun q hq=>by
  obtain⟨q1,q2⟩:=hb.qu q hq
  rw [W6 c0 c1 (QF.1 q1).1,if_neg]
  rintro rfl;omega
 refine⟨by simp [hb.ol],by simp [hb.pl],fun q hq=>?_,fun q hq=>?_,fun q hq=>?_,fun q r hq hr=>?_,?_,?_⟩
 ·have q0:=(QF.1 hq).1
  rw [Q6D c0 c2 q0,W6 c0 c1 q0]
  by_cases e:c=q
  ·rw [if_pos e,if_pos e];constructor
   ·intro h;cases h
   ·rintro⟨_,h⟩;omega
  ·rw [if_neg e,if_neg e];exact hb.op q hq
 ·have q0:=(QF.1 hq).1
  rw [W6 c0 c1 q0]
  by_cases e:c=q
  ·subst e;rw [if_pos rfl];exact .inr ⟨k,rfl,hP ho,by omega⟩
  ·rw [if_neg e]
   rcases hb.pt q hq with h | ⟨j,h1,h2,h3⟩
   ·exact .inl h
   ·exact .inr ⟨j,h1,h2,by omega⟩
 ·rcases List.mem_append.1 hq with hq | hq
  ·rw [gq q hq];exact hb.qu q hq
  ·simp at hq;subst hq
   rw [W6 c0 c1 c0,if_pos rfl];exact⟨hcc,by omega⟩
 ·have q0:=(QF.1 hq).1
  rw [W6 c0 c1 q0]
  rcases List.mem_append.1 hr with hr | hr
  ·rw [gq r hr]
   split
   ·exact (hle r hr).2
   ·exact hb.le q r hq hr
  ·simp at hr;subst hr
   rw [W6 c0 c1 c0,if_pos rfl]
   split
   ·omega
   ·exact hall q hq
 ·rw [List.pairwise_append]
  refine⟨?_,by simp,fun a ha b hb'=>?_⟩
  ·refine hb.so.imp_of_mem (fun {a b} ha hb' h=>?_)
   rw [gq a ha,gq b hb'];exact h
  ·simp at hb';subst hb'
   rw [gq a ha,W6 c0 c1 c0,if_pos rfl];exact (hle a ha).1
 ·have:=Q4y c0 c2 hc
  have:=hb.ct
  omega
def Q7h (f:ApiFloor) (mv:Int→Int→Int×Bool) (src l:List Int) (out:List Int):Prop:=
 out.length=f.Kind.length∧∀c,isC f c=true→(gI out c=-1∧∀k,¬Pth f mv src l k c)∨∃k:Nat,gI out c=k∧Pth f mv src l k c∧k<f.Kind.length∧∀j,Pth f mv src l j c→k≤j
theorem Q6R (hf:RF f) {move:Int→Int→((Int×Bool)→Prop)→Prop} (hmv:∀c d post,isC f c=true→0≤d→d<6→post (mv c d)→move c d post) (hmc:∀c d,isC f c=true→(mv c d).2=true→isC f (mv c d).1=true) (hsrc:src.length≤maxLen) (hl:l.length≤maxLen)
  {post:List Int→Prop} (hp:∀out,Q7h f mv src l out→post out):Q5o f move src l post:=by
 unfold Q5o
 have hn:=hf.len.1
 have hkm:f.Kind.length≤maxLen:=by simp [maxLen];omega
 refine YJ hf ⟨by omega,YJ hf ⟨by omega,?_⟩⟩
 simp only [Int.toNat_natCast]
 refine Jn.mk (fun t=>t.1.length=f.Kind.length∧t.2.length=f.Kind.length∧∀c,isC f c=true→gI t.1 c=-1∧gB t.2 c=(kd f c != 0))
  (Loop.inv f.Kind.length (fun i (t:List Int×List Bool×Int)=>t.2.2=(i:Int)∧t.1.length=f.Kind.length∧t.2.1.length=f.Kind.length∧∀c,isC f c=true→c<i→gI t.1 c=-1∧gB t.2.1 c=(kd f c != 0)) ⟨rfl,by simp,by simp,fun c hc h=>by have:=QF.1 hc;simp at h;omega⟩ (fun i t hi hI=>?_) (fun t hI=>?_)) ?_
 ·obtain⟨o,p,j⟩:=t
  obtain⟨e,h1,h2,h3⟩:=hI
  simp only at e h1 h2 h3;subst e
  have hic:isC f (i:Int)=true:=QF.2 ⟨by omega,by omega⟩
  refine Ite.lt (by simp only [];omega) ⟨_,Ws hic,_,Q3y (by simp) (by simp only [];omega),_,Q66 (by simp) (by simp only [];omega),Xx hi hkm,by simp [h1],by simp [h2],fun c hc hlt=>?_⟩
  have c0:=(QF.1 hc).1
  simp only []
  rw [W6 (by simp) (by omega) c0,Q6D (by simp) (by omega) c0]
  by_cases e:(i:Int)=c
  ·rw [if_pos e,if_pos e,e];exact⟨rfl,rfl⟩
  ·rw [if_neg e,if_neg e];exact h3 c hc (by omega)
 ·obtain⟨o,p,j⟩:=t
  obtain⟨e,h1,h2,h3⟩:=hI
  simp only at e h1 h2 h3;subst e
  exact Ite.nlt (by simp) ⟨h1,h2,fun c hc=>h3 c hc (QF.1 hc).2⟩
 rintro⟨o0,p0⟩ ⟨o1,o2,o3⟩
 simp only at o1 o2 o3
 refine Jn.mk (fun p=>p.length=f.Kind.length∧∀c,isC f c=true→(gB p c=true↔okc f l c))
  (Loop.inv l.length (fun i (t:List Bool×Int)=>t.2=(i:Int)∧t.1.length=f.Kind.length∧∀c,isC f c=true→(gB t.1 c=true↔kd f c≠0∧c∉l.take i)) ⟨rfl,o2,fun c hc=>by simp only [];rw [(o3 c hc).2];simp⟩ (fun i t hi hI=>?_) (fun t hI=>?_)) ?_
 ·obtain⟨p,j⟩:=t
  obtain⟨e,h1,h2⟩:=hI
  simp only at e h1 h2;subst e
  have hx:l[i]?=some (l[i]'hi):=List.getElem?_eq_getElem hi
  generalize hxe:l[i]'hi=x at hx
  have e1:l.take (i+1)=l.take i++[x]:=by rw [List.take_add_one,hx];rfl
  refine Ite.lt (by simp only [];omega) ⟨x,Qn rfl hx,GP hf (Jn.mk' (Ite.mk (fun g=>?_) (fun g=>⟨Xx hi hl,h1,fun c hc=>?_⟩)))⟩
  ·have gx:=QF.1 g
   refine⟨_,Q66 gx.1 (by simp only [];omega),Xx hi hl,by simp [h1],fun c hc=>?_⟩
   have c0:=(QF.1 hc).1
   simp only []
   rw [Q6D gx.1 (by omega) c0,e1]
   by_cases e:x=c
   ·subst e;simp
   ·rw [if_neg e,h2 c hc]
    simp only [List.mem_append,List.mem_singleton,not_or]
    exact⟨fun h=>⟨h.1,h.2,fun e'=>e e'.symm⟩,fun h=>⟨h.1,h.2.1⟩⟩
  ·simp only []
   rw [e1,h2 c hc]
   simp only [List.mem_append,List.mem_singleton,not_or]
   exact⟨fun h=>⟨h.1,h.2,fun e'=>by rw [e',g] at hc;cases hc⟩,fun h=>⟨h.1,h.2.1⟩⟩
 ·obtain⟨p,j⟩:=t
  obtain⟨e,h1,h2⟩:=hI
  simp only at e h1 h2;subst e
  refine Ite.nlt (by simp) ⟨h1,fun c hc=>?_⟩
  rw [h2 c hc,List.take_length];unfold okc;simp [hc]
 rintro p1 ⟨p2,p3⟩
 have b0:Bfs f mv src l o0 [] p1 0:=⟨o1,p2,fun c hc=>by rw [p3 c hc];simp [(o3 c hc).1],fun c hc=>.inl (o3 c hc).1,by simp,by simp,.nil,by
  have:p1.count true≤p1.length:=List.count_le_length
  omega⟩
 refine Jn.mk (fun t=>∃K,Bfs f mv src l t.1 t.2.1 t.2.2 K∧(∀c,isC f c=true→gI t.1 c=-1∨gI t.1 c=0)∧(∀c,isC f c=true→0≤gI t.1 c→c∈t.2.1)∧(∀c,c∈src→okc f l c→gI t.1 c=0)∧t.2.1.length≤K)
  (Loop.inv src.length (fun i (t:List Int×List Int×List Bool×Int)=>t.2.2.2=(i:Int)∧∃K,Bfs f mv src l t.1 t.2.1 t.2.2.1 K∧(∀c,isC f c=true→gI t.1 c=-1∨gI t.1 c=0)∧(∀c,isC f c=true→0≤gI t.1 c→c∈t.2.1)∧(∀c,c∈src.take i→okc f l c→gI t.1 c=0)∧t.2.1.length≤K)
   ⟨rfl,0,b0,fun c hc=>.inl (o3 c hc).1,fun c hc h=>by simp only [] at h;rw [(o3 c hc).1] at h;omega,by simp,by simp⟩ (fun i t hi hI=>?_) (fun t hI=>?_)) ?_
 ·obtain⟨o,q,p,j⟩:=t
  obtain⟨e,K,hb,h0,hq,hs,hqK⟩:=hI
  simp only at e hb h0 hq hs hqK;subst e
  have hx:src[i]?=some (src[i]'hi):=List.getElem?_eq_getElem hi
  generalize hxe:src[i]'hi=x at hx
  have e1:src.take (i+1)=src.take i++[x]:=by rw [List.take_add_one,hx];rfl
  have hKn:=hb.ct
  refine Ite.lt (by simp only [];omega) ⟨x,Qn rfl hx,GP hf (Jn.mk' (Ite.mk (fun g=>?_) (fun g=>⟨Xx hi hsrc,K,hb,h0,hq,fun c hc ho=>?_,hqK⟩)))⟩
  ·refine Q5G hb hf (by omega) g ⟨Xx hi hsrc,?_⟩
   simp only [rOut,rQue,rOpn]
   by_cases hg:gB p x=true
   ·rw [if_pos hg,if_pos hg,if_pos hg]
    have gx:=QF.1 g
    have x1:x<o.length:=by rw [hb.ol];exact gx.2
    have hb':=hb.put (k:=0) hg g (fun ho=>⟨List.mem_of_getElem? hx,ho⟩) (by omega) (fun r hr=>by
     have:=hb.qu r hr;have:=h0 r this.1;omega) (fun r hr=>by have:=h0 r hr;omega)
    refine⟨K+1,hb',fun c hc=>?_,fun c hc h=>?_,fun c hc ho=>?_,by simp;omega⟩
    ·rw [W6 gx.1 x1 (QF.1 hc).1];split
     ·exact .inr rfl
     ·exact h0 c hc
    ·rw [W6 gx.1 x1 (QF.1 hc).1] at h
     split at h
     ·rename_i e;subst e;simp
     ·exact List.mem_append_left _ (hq c hc h)
    ·rw [W6 gx.1 x1 (QF.1 ho.1).1];split
     ·rfl
     ·rename_i e
      rw [e1] at hc
      rcases List.mem_append.1 hc with hc | hc
      ·exact hs c hc ho
      ·simp at hc;exact absurd hc.symm e
   ·rw [if_neg hg,if_neg hg,if_neg hg]
    refine⟨K,hb,h0,hq,fun c hc ho=>?_,hqK⟩
    rw [e1] at hc
    rcases List.mem_append.1 hc with hc | hc
    ·exact hs c hc ho
    ·simp at hc;subst hc
     rcases h0 c g with h | h
     ·exact absurd ((hb.op c g).2 ⟨ho,h⟩) hg
     ·exact h
  ·rw [e1] at hc
   rcases List.mem_append.1 hc with hc | hc
   ·exact hs c hc ho
   ·simp at hc;subst hc;have:=ho.1;rw [g] at this;cases this
 ·obtain⟨o,q,p,j⟩:=t
  obtain⟨e,K,hb,h0,hq,hs,hqK⟩:=hI
  simp only at e hb h0 hq hs hqK;subst e
  rw [List.take_length] at hs
  exact Ite.nlt (by simp) ⟨K,hb,h0,hq,hs,hqK⟩
 rintro⟨o4,q4,p4⟩ ⟨K4,hb4,h04,hq4,hs4,hqK4⟩
 simp only at hb4 h04 hq4 hs4 hqK4
 -- the loop
 refine Jn.mk (fun out=>Q7h f mv src l out) (Loop.mk (fun t:List Int×List Int×List Bool=>∃K,Bfs f mv src l t.1 t.2.1 t.2.2 K∧t.2.1.length≤K∧(∀c,c∈src→okc f l c→gI t.1 c=0) ∧
   (∀p,isC f p=true→0≤gI t.1 p→p∉t.2.1→∀d,0≤d→d<6→(mv p d).2=true→okc f l (mv p d).1→0≤gI t.1 (mv p d).1∧gI t.1 (mv p d).1≤gI t.1 p+1))
  (fun t=>2*t.2.2.count true+t.2.1.length) ⟨K4,hb4,hqK4,hs4,fun p hp h hnot=>absurd (hq4 p hp h) hnot⟩ ?_) (fun out h=>hp out h)
 rintro⟨o,q,p⟩ ⟨K,hb,hqK,hs,hcl⟩
 simp only at hb hqK hs hcl
 refine Ite.mk (fun hg=>?_) (fun hg=>?_)
 ·simp at hg
  obtain⟨x,q',rfl⟩:∃x q',q=x :: q':=by cases q with
   | nil=>simp at hg
   | cons x q'=>exact⟨x,q',rfl⟩
  obtain⟨hxc,hx0⟩:=hb.qu x (by simp)
  obtain⟨kx,hkx,hPx,hKx⟩:∃k:Nat,gI o x=k∧Pth f mv src l k x∧k+1≤K:=by
   rcases hb.pt x hxc with h | h
   ·omega
   ·exact h
  have hso:=List.pairwise_cons.1 hb.so
  have hsub:sub (x :: q') 1 ((x :: q').length:Int)=q':=by simp [sub]
  have hKn:=hb.ct
  refine Jn.mk (fun t=>(∃K,Bfs f mv src l t.1 t.2.1 t.2.2 K∧t.2.1.length≤K∧(∀c,c∈src→okc f l c→gI t.1 c=0) ∧
   (∀p,isC f p=true→0≤gI t.1 p→p∉t.2.1→∀d,0≤d→d<6→(mv p d).2=true→okc f l (mv p d).1→0≤gI t.1 (mv p d).1∧gI t.1 (mv p d).1≤gI t.1 p+1))∧2*t.2.2.count true+t.2.1.length<2*p.count true+(x :: q').length) ?_ (fun t ht=>ht)
  refine⟨x,by simp [idx],⟨by omega,by simp;omega,Int.le_refl _⟩,?_⟩
  rw [hsub]
  -- the inner loop
  refine Jn.mk (fun t=>(∃K,Bfs f mv src l t.1 t.2.1 t.2.2 K∧t.2.1.length≤K∧(∀c,c∈src→okc f l c→gI t.1 c=0) ∧
   (∀p,isC f p=true→0≤gI t.1 p→p∉t.2.1→∀d,0≤d→d<6→(mv p d).2=true→okc f l (mv p d).1→0≤gI t.1 (mv p d).1∧gI t.1 (mv p d).1≤gI t.1 p+1))∧2*t.2.2.count true+t.2.1.length<2*p.count true+(x :: q').length)
   (Loop.inv 6 (fun i (t:List Int×List Int×List Bool×Int)=>t.2.2.2=(i:Int)∧(∃K,Bfs f mv src l t.1 t.2.1 t.2.2.1 K∧t.2.1.length+1≤K∧kx+1≤K)∧(∀c,isC f c=true→0≤gI o c→gI t.1 c=gI o c)∧(∀c,isC f c=true→0≤gI t.1 c→0≤gI o c∨c∈t.2.1)∧(∀c,c∈q'→c∈t.2.1)∧(∀c,isC f c=true→gI t.1 c≤kx+1)∧(∀r,r∈t.2.1→(kx:Int)≤gI t.1 r) ∧
    (∀d,0≤d→d<(i:Int)→(mv x d).2=true→okc f l (mv x d).1→0≤gI t.1 (mv x d).1)∧2*t.2.2.1.count true+t.2.1.length≤2*p.count true+q'.length)
    ⟨rfl,⟨K,⟨hb.ol,hb.pl,hb.op,hb.pt,fun r hr=>hb.qu r (by simp [hr]),fun c r hc hr=>hb.le c r hc (by simp [hr]),hso.2,hb.ct⟩,by simpa using hqK,hKx⟩,fun _ _ _=>rfl,fun c hc h=>.inl h,fun c h=>h,fun c hc=>by
     have:=hb.le c x hc (by simp);show gI o c≤(kx:Int)+1;omega,fun r hr=>by
     have:=hso.1 r hr;show (kx:Int)≤gI o r;omega,fun d h0 h1=>by simp at h1;omega,Nat.le_refl _⟩ (fun i t hi hI=>?_) (fun t hI=>?_)) (fun t ht=>ht)
  ·obtain⟨o',q2,p',dd⟩:=t
   obtain⟨e,⟨K',hb',hq',hk'⟩,i1,i2,i3,i4,i5,i6,i7⟩:=hI
   simp only at e hb' hq' i1 i2 i3 i4 i5 i6 i7;subst e
   have hKn':=hb'.ct
   have hox:gI o' x=kx:=by rw [i1 x hxc hx0,hkx]
   refine Ite.lt (by simp only [];omega) (hmv x i _ hxc (by omega) (by omega) ?_)
   refine Jn.mk' (Ite.mk (fun g=>?_) (fun g=>?_))
   ·have hmc':=hmc x i hxc g
    refine⟨_,Q3y (QF.1 hxc).1 (by simp only [];rw [hb'.ol];exact (QF.1 hxc).2),Q5G hb' hf (by omega) hmc' ⟨Xx (n:=6) hi (by simp [maxLen]),?_⟩⟩
    simp only [rOut,rQue,rOpn]
    rw [hox,QD (by omega) (by omega)]
    by_cases hgb:gB p' (mv x i).1=true
    ·rw [if_pos hgb,if_pos hgb,if_pos hgb]
     have gx:=QF.1 hmc'
     have x1:(mv x i).1<o'.length:=by rw [hb'.ol];exact gx.2
     have x2:(mv x i).1<p'.length:=by rw [hb'.pl];exact gx.2
     obtain⟨hok,hm1⟩:=(hb'.op _ hmc').1 hgb
     have hput:=hb'.put (k:=kx+1) hgb hmc' (fun ho=>⟨x,i,hPx,by omega,by omega,Prod.ext rfl g,ho⟩) hk' (fun r hr=>⟨by have:=hb'.qu r hr;have:=i4 r this.1;omega,by have:=i5 r hr;omega⟩) (fun r hr=>by have:=i4 r hr;omega)
     have e3:((kx+1:Nat):Int)=(kx:Int)+1:=by omega
     rw [e3] at hput
     refine⟨⟨K'+1,hput,by simp;omega,by omega⟩,fun c hc h=>?_,fun c hc h=>?_,fun c h=>by simp [i3 c h],fun c hc=>?_,fun r hr=>?_,fun d h0 h1 h2 h3=>?_,?_⟩
     ·rw [W6 gx.1 x1 (QF.1 hc).1,if_neg]
      ·exact i1 c hc h
      ·intro e;rw [←e] at h;have:=i1 _ hmc' h;omega
     ·rw [W6 gx.1 x1 (QF.1 hc).1] at h
      split at h
      ·rename_i e;right;simp [e]
      ·rcases i2 c hc h with h' | h'
       ·exact .inl h'
       ·exact .inr (by simp [h'])
     ·rw [W6 gx.1 x1 (QF.1 hc).1];split
      ·omega
      ·exact i4 c hc
     ·rcases List.mem_append.1 hr with hr | hr
      ·have hrc:=(hb'.qu r hr)
       rw [W6 gx.1 x1 (QF.1 hrc.1).1,if_neg]
       ·exact i5 r hr
       ·rintro e;rw [←e] at hrc;omega
      ·simp at hr;subst hr
       rw [W6 gx.1 x1 gx.1,if_pos rfl];omega
     ·rw [W6 gx.1 x1 (QF.1 h3.1).1];split
      ·omega
      ·rename_i e
       by_cases e2:d=i
       ·subst e2;exact absurd rfl e
       ·exact i6 d h0 (by omega) h2 h3
     ·have:=Q4y gx.1 x2 hgb
      simp;omega
    ·rw [if_neg hgb,if_neg hgb,if_neg hgb]
     refine⟨⟨K',hb',hq',hk'⟩,i1,i2,i3,i4,i5,fun d h0 h1 h2 h3=>?_,i7⟩
     by_cases e2:d=i
     ·subst e2
      rcases hb'.pt _ h3.1 with h | ⟨j,h,_⟩
      ·exact absurd ((hb'.op _ h3.1).2 ⟨h3,h⟩) hgb
      ·omega
     ·exact i6 d h0 (by omega) h2 h3
   ·refine⟨Xx (n:=6) hi (by simp [maxLen]),⟨K',hb',hq',hk'⟩,i1,i2,i3,i4,i5,fun d h0 h1 h2 h3=>?_,i7⟩
    by_cases e2:d=i
    ·subst e2;rw [g] at h2;cases h2
    ·exact i6 d h0 (by omega) h2 h3
  ·obtain⟨o',q2,p',dd⟩:=t
   obtain⟨e,⟨K',hb',hq',hk'⟩,i1,i2,i3,i4,i5,i6,i7⟩:=hI
   simp only at e hb' hq' i1 i2 i3 i4 i5 i6 i7;subst e
   refine Ite.nlt (by simp) ⟨⟨K',hb',by simp only [];omega,fun c hc ho=>?_,fun r hr h0 hnot d d0 d1 d2 d3=>?_⟩,by simp only [List.length_cons];omega⟩
   ·have:=hs c hc ho
    simp only [];rw [i1 c ho.1 (by omega)];exact this
   ·simp only at h0 hnot ⊢
    rcases i2 r hr h0 with h | h
    ·by_cases e:r=x
     ·subst e
      refine⟨i6 d d0 (by omega) d2 d3,?_⟩
      have:=i4 _ d3.1
      rw [i1 r hr h];omega
     ·have hrq:r∉x :: q':=by
       intro hm
       rcases List.mem_cons.1 hm with h' | h'
       ·exact e h'
       ·exact hnot (i3 r h')
      obtain⟨c1,c2⟩:=hcl r hr h hrq d d0 d1 d2 d3
      rw [i1 r hr h,i1 _ d3.1 c1];exact⟨c1,c2⟩
    ·exact absurd h hnot
 ·simp at hg
  subst hg
  refine⟨hb.ol,fun c hc=>?_⟩
  have key:∀(k:Nat) c,Pth f mv src l k c→0≤gI o c∧gI o c≤k:=by
   intro k
   induction k with
   | zero=>intro c h;have:=hs c h.1 h.2;omega
   | succ k ih=>
    rintro c ⟨y,d,h1,h2,h3,h4,h5⟩
    obtain⟨y0,y1⟩:=ih y h1
    have:=hcl y h1.ok.1 y0 (by simp) d h2 h3 (by rw [h4]) (by rw [h4];exact h5)
    rw [h4] at this
    simp only at this
    omega
  rcases hb.pt c hc with h | ⟨k,h,hP,hk⟩
  ·exact .inl ⟨h,fun k hk=>by have:=key k c hk;omega⟩
  ·have:=hb.ct
   exact .inr ⟨k,h,hP,by omega,fun j hj=>by have:=key j c hj;omega⟩
end
end Go.Taq
/- The mathematics, part BA: floor.Back, floor.Path. -/
set_option linter.unusedVariables false
set_option linter.unusedSimpArgs false
namespace Go.Taq
open Go
def opp (d:Int):Int:=if d=0 then 2 else if d=1 then 3 else if d=2 then 0 else if d=3 then 1 else if d=4 then 5 else if d=5 then 4 else -1
def bk (f:ApiFloor) (c d:Int):Int×Bool:=
 if nbr f c (opp d)<0 then (0,false) else if (nx f (nbr f c (opp d)) d).2=false then (0,false) else (nbr f c (opp d),true)
theorem Q0N {d:Int} {post:Int→Prop} (hp:post (opp d)):XE d post:=by
 unfold XE
 refine Jn.mk (fun b=>b=(decide (d<0)||decide (d≥6))) (Ite.mk (fun h=>by rw [h];rfl) (fun h=>by rw [h];rfl)) (fun b hb=>Ite.mk (fun h=>?_) (fun h=>?_))
 ·rw [h] at hb
  have:d<0∨d≥6:=by simpa using hb.symm
  have e:opp d=-1:=by unfold opp;rw [if_neg (by omega),if_neg (by omega),if_neg (by omega),if_neg (by omega),if_neg (by omega),if_neg (by omega)]
  rw [e] at hp;exact hp
 ·rw [h] at hb
  have h1:¬(d<0)∧¬(d≥6):=by
   have:=hb.symm
   simp at this;omega
  have:d=0∨d=1∨d=2∨d=3∨d=4∨d=5:=by omega
  rcases this with e | e | e | e | e | e <;> subst e <;> exact⟨_,rfl,hp⟩
theorem Q3C {f:ApiFloor} (hf:RF f) {c d:Int} {post:Int×Bool→Prop} (hp:post (bk f c d)):Gs f c d post:=by
 unfold Gs
 unfold bk at hp
 refine Q0N (WT hf (Ite.mk (fun h=>?_) (fun h=>?_)))
 ·rw [if_pos (by simpa using h)] at hp;exact hp
 ·rw [if_neg (by simpa using h)] at hp
  refine Gy hf (Ite.mk (fun h2=>?_) (fun h2=>?_))
  ·rw [if_pos (by simpa using h2)] at hp;exact hp
  ·rw [if_neg (by simpa using h2)] at hp;exact hp
section
variable {f:ApiFloor}
theorem Q7y (hf:RF f) {x y z:Int} (h:0≤x∧x<f.W∧0≤y∧y<f.H∧0≤z∧z<f.D):pX f ((z*f.H+y)*f.W+x)=x∧pY f ((z*f.H+y)*f.W+x)=y∧pZ f ((z*f.H+y)*f.W+x)=z:=by
 obtain⟨a1,a2,a3,a4,a5,a6⟩:=h
 have e1:((z*f.H+y)*f.W+x) / f.W=z*f.H+y:=by
  rw [Int.add_comm,Int.add_mul_ediv_right _ _ (by omega),Int.ediv_eq_zero_of_lt a1 a2];omega
 refine⟨?_,?_,?_⟩
 ·unfold pX;rw [Int.add_comm,Int.add_mul_emod_self_right];exact Int.emod_eq_of_lt a1 a2
 ·unfold pY;rw [e1,Int.add_comm,Int.add_mul_emod_self_right];exact Int.emod_eq_of_lt a3 a4
 ·unfold pZ;rw [e1,Int.add_comm,Int.add_mul_ediv_right _ _ (by omega),Int.ediv_eq_zero_of_lt a3 a4];omega
theorem Q89 (hf:RF f) {c:Int} (hc:isC f c=true):Kz f (pX f c) (pY f c) (pZ f c)=c:=by
 have hb:=p_bd hf hc
 unfold Kz;rw [if_pos hb]
 unfold pX pY pZ
 have e1:=Int.emod_add_mul_ediv (c / f.W) f.H
 have e2:=Int.emod_add_mul_ediv c f.W
 have e3:c / f.W / f.H*f.H+c / f.W % f.H=c / f.W:=by rw [Int.mul_comm];omega
 rw [e3,Int.mul_comm];omega
theorem Q81 (hf:RF f) {c d:Int} (hc:isC f c=true) (h:0≤nbr f c (opp d)):nbr f (nbr f c (opp d)) d=c:=by
 have hb:=p_bd hf hc
 have key:∀x y z,0≤Kz f x y z→isC f (Kz f x y z)=true∧pX f (Kz f x y z)=x∧pY f (Kz f x y z)=y∧pZ f (Kz f x y z)=z:=fun x y z h0=>by
  by_cases hx:0≤x∧x<f.W∧0≤y∧y<f.H∧0≤z∧z<f.D
  ·have e:Kz f x y z=(z*f.H+y)*f.W+x:=by unfold Kz;rw [if_pos hx]
   rcases Q4C hf x y z with h1 | h1
   ·omega
   ·exact⟨h1,by rw [e];exact Q7y hf hx⟩
  ·exfalso;unfold Kz at h0;rw [if_neg hx] at h0;omega
 have hcc:=Q89 hf hc
 have ni:¬isC f c=false:=by rw [hc];simp
 by_cases e0:d=0
 ·subst e0
  have e:nbr f c (opp 0)=Kz f (pX f c-1) (pY f c) (pZ f c):=by unfold nbr opp;rw [if_neg ni];rfl
  rw [e] at h ⊢
  obtain⟨k1,k2,k3,k4⟩:=key _ _ _ h
  unfold nbr;rw [if_neg (by rw [k1];simp),if_pos rfl,k2,k3,k4]
  rw [show pX f c-1+1=pX f c by omega];exact hcc
 by_cases e1:d=1
 ·subst e1
  have e:nbr f c (opp 1)=Kz f (pX f c) (pY f c-1) (pZ f c):=by unfold nbr opp;rw [if_neg ni];rfl
  rw [e] at h ⊢
  obtain⟨k1,k2,k3,k4⟩:=key _ _ _ h
  unfold nbr;rw [if_neg (by rw [k1];simp),if_neg (by omega),if_pos rfl,k2,k3,k4]
  rw [show pY f c-1+1=pY f c by omega];exact hcc
 by_cases e2:d=2
 ·subst e2
  have e:nbr f c (opp 2)=Kz f (pX f c+1) (pY f c) (pZ f c):=by unfold nbr opp;rw [if_neg ni];rfl
  rw [e] at h ⊢
  obtain⟨k1,k2,k3,k4⟩:=key _ _ _ h
  unfold nbr;rw [if_neg (by rw [k1];simp),if_neg (by omega),if_neg (by omega),if_pos rfl,k2,k3,k4]
  rw [show pX f c+1-1=pX f c by omega];exact hcc
 by_cases e3:d=3
 ·subst e3
  have e:nbr f c (opp 3)=Kz f (pX f c) (pY f c+1) (pZ f c):=by unfold nbr opp;rw [if_neg ni];rfl
  rw [e] at h ⊢
  obtain⟨k1,k2,k3,k4⟩:=key _ _ _ h
  unfold nbr;rw [if_neg (by rw [k1];simp),if_neg (by omega),if_neg (by omega),if_neg (by omega),if_pos rfl,k2,k3,k4]
  rw [show pY f c+1-1=pY f c by omega];exact hcc
 by_cases e4:d=4
 ·subst e4
  have e:nbr f c (opp 4)=Kz f (pX f c) (pY f c) (pZ f c-1):=by unfold nbr opp;rw [if_neg ni];rfl
  rw [e] at h ⊢
  obtain⟨k1,k2,k3,k4⟩:=key _ _ _ h
  unfold nbr;rw [if_neg (by rw [k1];simp),if_neg (by omega),if_neg (by omega),if_neg (by omega),if_neg (by omega),if_pos rfl,k2,k3,k4]
  rw [show pZ f c-1+1=pZ f c by omega];exact hcc
 by_cases e5:d=5
 ·subst e5
  have e:nbr f c (opp 5)=Kz f (pX f c) (pY f c) (pZ f c+1):=by unfold nbr opp;rw [if_neg ni];rfl
  rw [e] at h ⊢
  obtain⟨k1,k2,k3,k4⟩:=key _ _ _ h
  unfold nbr;rw [if_neg (by rw [k1];simp),if_neg (by omega),if_neg (by omega),if_neg (by omega),if_neg (by omega),if_neg (by omega),if_pos rfl,k2,k3,k4]
  rw [show pZ f c+1-1=pZ f c by omega];exact hcc
 ·exfalso
  have:opp d=-1:=by unfold opp;rw [if_neg e0,if_neg e1,if_neg e2,if_neg e3,if_neg e4,if_neg e5]
  rw [this] at h
  unfold nbr at h;rw [if_neg ni,if_neg (by omega),if_neg (by omega),if_neg (by omega),if_neg (by omega),if_neg (by omega),if_neg (by omega)] at h;omega
theorem Q8J {c d:Int} (h:(nx f c d).2=true):(nx f c d).1=nbr f c d:=by
 unfold nx at h ⊢
 split at h
 ·cases h
 ·rename_i h1
  split at h
  ·cases h
  ·rename_i h2;rw [if_neg h1,if_neg h2]
theorem Qa9 (hf:RF f) {p d c:Int} (hp:isC f p=true) (h:bk f p d=(c,true)):nx f c d=(p,true):=by
 unfold bk at h
 split at h
 ·cases h
 ·rename_i h1
  split at h
  ·cases h
  ·rename_i h2
   have e:nbr f p (opp d)=c:=by injection h
   have h3:(nx f c d).2=true:=by rw [←e];simpa using h2
   have h4:=Q8J h3
   rw [←e,Q81 hf hp (by omega),e] at h4
   exact Prod.ext h4 h3
theorem Qal (hf:RF f) {c d:Int} (h:(bk f c d).2=true):isC f (bk f c d).1=true:=by
 unfold bk at h ⊢
 split at h
 ·cases h
 ·rename_i h1
  split at h
  ·cases h
  ·rename_i h2
   rw [if_neg h1,if_neg h2]
   rcases Q5w hf c (opp d) with e | e
   ·rw [e] at h1;exact absurd (by omega) h1
   ·exact e
def PB (f:ApiFloor) (b:Int) (l:List Int) (k:Nat) (c:Int):Prop:=Pth f (bk f) [b] l k c
def Dm (f:ApiFloor) (b:Int) (l:List Int) (m:Nat) (c:Int):Prop:=PB f b l m c∧∀i,PB f b l i c→m≤i
structure WayL (f:ApiFloor) (l:List Int) (a b:Int) (k:Nat) (p:List Int):Prop where
 len:p.length=k+1
 hd:p[0]?=some a
 lst:p[k]?=some b
 st:∀j,j<k→∃(x y d:Int),p[j]?=some x∧p[j+1]?=some y∧0≤d∧d<6∧nx f x d=(y,true)
 ok:∀x,x∈p→okc f l x
 pb:∀(j:Nat) x,p[j]?=some x→PB f b l (k-j) x
 kb:k<f.Kind.length
 ft:∀j,j<k→∃(x y d:Int),p[j]?=some x∧p[j+1]?=some y∧0≤d∧d<6∧nx f x d=(y,true)∧Dm f b l (k-(j+1)) y∧∀d',0≤d'→d'<d→¬((nx f x d').2=true∧Dm f b l (k-(j+1)) (nx f x d').1)
theorem PB.mono {b:Int} {l l':List Int} (h:∀x,x∈l'→x∈l):∀{k:Nat} {c:Int},PB f b l k c→PB f b l' k c
 | 0,c,⟨h1,h2,h3,h4⟩=>⟨h1,h2,h3,fun hm=>h4 (h _ hm)⟩
 | k+1,c,⟨p,d,h0,h1,h2,h3,h4,h5,h6⟩=>⟨p,d,PB.mono h h0,h1,h2,h3,h4,h5,fun hm=>h6 (h _ hm)⟩
def Q8o (next:Int→Int→((Int×Bool)→Prop)→Prop) (out:List Int) (a:Int) (post:List Int→Prop):Prop:=
 Jn (fun (J25:(List Int)→Prop)=>Loop (fun (s26:List Int×Int) Y27=>∃x30,idx out s26.2=some x30∧Ite (decide (x30>0))
  (Jn (fun (J33:(List Int×Int)→Prop)=>Jn (fun (J37:Int→Prop)=>Loop (fun (s38:Int) Y39=>Ite (decide (s38<6))
   (next s26.2 s38 (fun x47=>Jn (fun (J49:Bool→Prop)=>Ite x47.2 (∃x51,idx out x47.1=some x51∧∃x52,idx out s26.2=some x52∧J49 (x51 == (w64 (x52-1)))) (J49 false)) (fun (x48:Bool)=>Ite x48 (J37 x47.1) (Y39 (w64 (s38+1)))))) (J37 s26.2)) 0)
   (fun (x36:Int)=>(s26.1.length+([x36]:List Int).length≤1099511627776)∧J33 ((s26.1++([x36]:List Int)),x36))) (fun (x32:List Int×Int)=>Y27 (x32.1,x32.2))) (J25 s26.1)) (([a]:List Int),a)) (fun (x24:List Int)=>post x24)
theorem Q7V (hf:RF f) {next:Int→Int→((Int×Bool)→Prop)→Prop} (hnext:∀c d {q:Int×Bool→Prop},0≤d→d<6→q (nx f c d)→next c d q) {a b:Int} {l out:List Int} (hol:out.length=f.Kind.length)
  (hd:∀c,isC f c=true→(gI out c=-1∧∀k,¬Pth f (bk f) [b] l k c)∨∃k:Nat,gI out c=k∧Pth f (bk f) [b] l k c∧k<f.Kind.length∧∀j,Pth f (bk f) [b] l j c→k≤j) {k:Nat} (hk0:gI out a=k) (hPk:PB f b l k a) (hkl:k<f.Kind.length) {post:List Int→Prop} (hy:∀p,WayL f l a b k p→post p):Q8o next out a post:=by
 unfold Q8o
 have hix:∀c,isC f c=true→idx out c=some (gI out c):=fun c hc=>Q3y (QF.1 hc).1 (by rw [hol];exact (QF.1 hc).2)
 have hn4:=hf.len.1
 have hdm:∀c,isC f c=true→∀m:Nat,gI out c=(m:Int)↔Dm f b l m c:=fun c hc m=>by
  rcases hd c hc with ⟨h2,h3⟩ | ⟨q,h2,hP,_,hmm⟩
  ·exact⟨fun h=>by omega,fun h=>absurd h.1 (h3 m)⟩
  ·refine⟨fun h=>?_,fun h=>?_⟩
   ·have:q=m:=by omega
    subst this;exact⟨hP,hmm⟩
   ·have g1:=hmm m h.1
    have g2:=h.2 q hP
    omega
 refine Jn.mk (fun p=>WayL f l a b k p) (Loop.inv k (fun i (s:List Int×Int)=>s.1.length=i+1∧s.1[0]?=some a∧s.1[i]?=some s.2∧(∀j,j<i→∃(x y d:Int),s.1[j]?=some x∧s.1[j+1]?=some y∧0≤d∧d<6∧nx f x d=(y,true))∧(∀x,x∈s.1→okc f l x)∧gI out s.2=(k:Int)-i∧(∀(j:Nat) x,s.1[j]?=some x→PB f b l (k-j) x)∧∀j,j<i→∃(x y d:Int),s.1[j]?=some x∧s.1[j+1]?=some y∧0≤d∧d<6∧nx f x d=(y,true)∧Dm f b l (k-(j+1)) y∧∀d',0≤d'→d'<d→¬((nx f x d').2=true∧Dm f b l (k-(j+1)) (nx f x d').1))
  ⟨rfl,rfl,rfl,fun j hj=>by omega,fun x hx=>by simp at hx;rw [hx];exact Pth.ok hPk,by show gI out a=_;omega,fun j x hx=>by
   have hj:=(List.getElem?_eq_some_iff.1 hx).1
   have:j=0:=by simp at hj;omega
   subst this;simp at hx;rw [←hx];exact hPk,fun j hj=>by omega⟩ (fun i s hi hI=>?_) (fun s hI=>?_)) (fun p hp=>hy p hp)
 ·obtain⟨i1,i2,i3,i4,i5,i6,i7,i8⟩:=hI
  have hok:=i5 s.2 (List.mem_of_getElem? i3)
  refine⟨_,hix _ hok.1,Ite.t (by rw [i6];simp;omega) ?_⟩
  have hex:∃d:Int,0≤d∧d<6∧(nx f s.2 d).2=true∧gI out (nx f s.2 d).1=(k:Int)-i-1:=by
   rcases hd s.2 hok.1 with ⟨h2,_⟩ | ⟨m,hm0,hPm,hml,hmm⟩
   ·omega
   ·obtain⟨m',rfl⟩:∃m',m=m'+1:=⟨m-1,by omega⟩
    obtain⟨p,d,hp,d0,d1,hb,_⟩:=hPm
    have hpc:=(Pth.ok hp).1
    have e:=Qa9 hf hpc hb
    refine⟨d,d0,d1,by rw [e],?_⟩
    rw [e]
    show gI out p=_
    rcases hd p hpc with ⟨_,h3⟩ | ⟨q,hq0,hPq,_,hqm⟩
    ·exact absurd hp (h3 m')
    ·have g1:=hqm m' hp
     have g2:=hmm (q+1) ⟨p,d,hPq,d0,d1,hb,hok⟩
     omega
  refine Jn.mk (fun u:List Int×Int=>u.1.length=i+1+1∧u.1[0]?=some a∧u.1[i+1]?=some u.2∧(∀j,j<i+1→∃(x y d:Int),u.1[j]?=some x∧u.1[j+1]?=some y∧0≤d∧d<6∧nx f x d=(y,true))∧(∀x,x∈u.1→okc f l x)∧gI out u.2=(k:Int)-((i+1:Nat):Int)∧(∀(j:Nat) x,u.1[j]?=some x→PB f b l (k-j) x)∧∀j,j<i+1→∃(x y d:Int),u.1[j]?=some x∧u.1[j+1]?=some y∧0≤d∧d<6∧nx f x d=(y,true)∧Dm f b l (k-(j+1)) y∧∀d',0≤d'→d'<d→¬((nx f x d').2=true∧Dm f b l (k-(j+1)) (nx f x d').1))
   (Jn.mk (fun y=>∃d:Int,0≤d∧d<6∧nx f s.2 d=(y,true)∧gI out y=(k:Int)-i-1∧∀d',0≤d'→d'<d→¬((nx f s.2 d').2=true∧gI out (nx f s.2 d').1=(k:Int)-i-1)) (Loop.inv 6 (fun j (t:Int)=>t=(j:Int)∧∀d:Int,0≤d→d<j→¬((nx f s.2 d).2=true∧gI out (nx f s.2 d).1=(k:Int)-i-1)) ⟨rfl,fun d h0 h1=>by omega⟩ (fun j t hj hJ=>?_) (fun t hJ=>?_)) (fun y hyy=>?_)) (fun u hu=>hu)
  ·obtain⟨ht,hJ⟩:=hJ
   subst ht
   refine Ite.lt (by omega) (hnext _ _ (by omega) (by omega) (Jn.mk (fun x=>x=true↔((nx f s.2 j).2=true∧gI out (nx f s.2 j).1=(k:Int)-i-1)) (Ite.mk (fun h2=>⟨_,hix _ (Q1P hf h2).2.1,_,hix _ hok.1,?_⟩) (fun h2=>⟨fun h=>(by cases h),fun h=>by rw [h2] at h;cases h.1⟩)) (fun x hx=>Ite.mk (fun h2=>?_) (fun h2=>⟨by rw [QD (by omega) (by omega)];simp,fun d h0 h1 hc=>?_⟩))))
   ·rw [i6,QD (by omega) (by omega)]
    exact⟨fun h=>⟨h2,by simpa using h⟩,fun h=>by simpa using h.2⟩
   ·have:=hx.1 h2
    exact⟨j,by omega,by omega,Prod.ext rfl this.1,this.2,hJ⟩
   ·by_cases e:d=j
    ·subst e;rw [hx.2 hc] at h2;cases h2
    ·exact hJ d h0 (by omega) hc
  ·obtain⟨ht,hJ⟩:=hJ
   obtain⟨d,d0,d1,d2⟩:=hex
   exact absurd d2 (hJ d d0 (by omega))
  ·obtain⟨d,d0,d1,d2,d3,d4⟩:=hyy
   have hyc:isC f y=true:=by have:=(Q1P hf (c:=s.2) (d:=d) (by rw [d2])).2.1;rw [d2] at this;exact this
   have hyp:PB f b l (k-(i+1)) y:=by
    rcases hd y hyc with ⟨h2,_⟩ | ⟨m,hm,hPm,_⟩
    ·omega
    ·have:m=k-(i+1):=by omega
     rw [←this];exact hPm
   have hyo:okc f l y:=Pth.ok hyp
   refine⟨by rw [i1];simp;omega,by simp [i1],?_,?_,fun j hj=>?_,fun x hx=>?_,by show gI out y=_;omega,fun j x hx=>?_,fun j hj=>?_⟩
   ·show (s.1++[y])[0]?=_
    rw [List.getElem?_append_left (by omega)];exact i2
   ·show (s.1++[y])[i+1]?=some y
    rw [List.getElem?_append_right (by omega),i1];simp
   ·show ∃(x y' d:Int),(s.1++[y])[j]?=some x∧(s.1++[y])[j+1]?=some y'∧_
    by_cases e:j=i
    ·subst e
     exact⟨s.2,y,d,by rw [List.getElem?_append_left (by omega)];exact i3,by rw [List.getElem?_append_right (by omega),i1];simp,d0,d1,d2⟩
    ·obtain⟨x,y',d',q1,q2,q3⟩:=i4 j (by omega)
     exact⟨x,y',d',by rw [List.getElem?_append_left (by omega)];exact q1,by rw [List.getElem?_append_left (by omega)];exact q2,q3⟩
   ·rcases List.mem_append.1 hx with h | h
    ·exact i5 x h
    ·simp at h;subst h;exact hyo
   ·have hjl:=(List.getElem?_eq_some_iff.1 hx).1
    have hjl':j<i+2:=by simp at hjl;omega
    have hx':(s.1++[y])[j]?=some x:=hx
    by_cases e:j=i+1
    ·subst e
     rw [List.getElem?_append_right (by omega),i1] at hx';simp at hx';rw [←hx'];exact hyp
    ·rw [List.getElem?_append_left (by omega)] at hx';exact i7 j x hx'
   ·show ∃(x y' d:Int),(s.1++[y])[j]?=some x∧(s.1++[y])[j+1]?=some y'∧_
    by_cases e:j=i
    ·subst e
     have ek:((k-(j+1):Nat):Int)=(k:Int)-j-1:=by omega
     refine⟨s.2,y,d,by rw [List.getElem?_append_left (by omega)];exact i3,by rw [List.getElem?_append_right (by omega),i1];simp,d0,d1,d2,(hdm y hyc _).1 (by rw [ek];exact d3),fun d' e0 e1 hc=>d4 d' e0 e1 ⟨hc.1,?_⟩⟩
     rw [←ek];exact (hdm _ (Q1P hf hc.1).2.1 _).2 hc.2
    ·obtain⟨x,y',d',q1,q2,q3⟩:=i8 j (by omega)
     exact⟨x,y',d',by rw [List.getElem?_append_left (by omega)];exact q1,by rw [List.getElem?_append_left (by omega)];exact q2,q3⟩
 ·obtain⟨i1,i2,i3,i4,i5,i6,i7,i8⟩:=hI
  have hok:=i5 s.2 (List.mem_of_getElem? i3)
  refine⟨_,hix _ hok.1,Ite.f (by rw [i6];simp) ⟨i1,i2,?_,i4,i5,i7,hkl,i8⟩⟩
  rw [i3]
  rcases hd s.2 hok.1 with ⟨h2,_⟩ | ⟨m,hm0,hPm,_⟩
  ·omega
  ·have:m=0:=by omega
   subst this
   have:=hPm.1
   simp at this;rw [this]
theorem Q3p (hf:RF f) {a b:Int} {l:List Int} (hl:l.length≤maxLen) {post:List Int→Prop} (hn:(∀k,¬PB f b l k a)→post []) (hy:∀(k:Nat) p,PB f b l k a→(∀j,PB f b l j a→k≤j)→WayL f l a b k p→post p):W5 f a b l post:=by
 unfold W5
 refine Jn.mk (fun x=>x=!(isC f a&&isC f b)) (GP hf (Ite.mk (fun h=>GP hf (by rw [h];rfl)) (fun h=>by rw [h];rfl))) (fun x hx=>?_)
 refine Ite.mk (fun h=>hn fun k hk=>?_) (fun h=>?_)
 ·have hb0:∀(k:Nat) (c:Int),PB f b l k c→isC f b=true:=by
   intro k
   induction k with
   | zero=>intro c hc;have:=hc.1;simp at this;rw [←this];exact hc.2.1
   | succ k ih=>intro c hc;obtain⟨p,d,h0,_⟩:=hc;exact ih p h0
  rw [h,(Pth.ok hk).1,hb0 k a hk] at hx;cases hx
 have hab:isC f a=true∧isC f b=true:=by rw [h] at hx;simpa using hx.symm
 unfold Ko
 refine Q6R hf (mv:=bk f) (move:=Gs f) (fun c d post hc _ _ h=>Q3C hf h) (fun c d hc h=>Qal hf h) (by simp [maxLen]) hl (fun out hd=>?_)
 obtain⟨hol,hd⟩:=hd
 have hix:∀c,isC f c=true→idx out c=some (gI out c):=fun c hc=>Q3y (QF.1 hc).1 (by rw [hol];exact (QF.1 hc).2)
 refine⟨_,hix a hab.1,Ite.mk (fun h1=>hn fun k hk=>?_) (fun h1=>?_)⟩
 ·rcases hd a hab.1 with ⟨_,h2⟩ | ⟨k,h2,_⟩
  ·exact h2 k hk
  ·rw [h2] at h1;simp at h1;omega
 have h1':¬gI out a<0:=by simpa using h1
 rcases hd a hab.1 with ⟨h2,_⟩ | ⟨k,hk0,hPk,hkl,hmin⟩
 ·omega
 exact Q7V hf (next:=Kx f) (fun c d _ _ _ hq=>Gy hf hq) hol hd hk0 hPk hkl (fun p hp=>hy k p hPk hmin hp)
theorem PB.congr {b:Int} {l l':List Int} (h:∀c,c∈l↔c∈l') {k:Nat} {c:Int}:PB f b l k c↔PB f b l' k c:=⟨fun g=>g.mono fun x hx=>(h x).2 hx,fun g=>g.mono fun x hx=>(h x).1 hx⟩
theorem Dm.congr {b:Int} {l l':List Int} (h:∀c,c∈l↔c∈l') {k:Nat} {c:Int}:Dm f b l k c↔Dm f b l' k c:=by
 unfold Dm;rw [PB.congr h]
 exact⟨fun g=>⟨g.1,fun i hi=>g.2 i ((PB.congr h).2 hi)⟩,fun g=>⟨g.1,fun i hi=>g.2 i ((PB.congr h).1 hi)⟩⟩
theorem WayL.uniq {a b:Int} {l l':List Int} {k:Nat} {p p':List Int} (h:WayL f l a b k p) (h':WayL f l' a b k p') (hm:∀c,c∈l↔c∈l'):p=p':=by
 have key:∀j,j≤k→p[j]?=p'[j]?:=by
  intro j
  induction j with
  | zero=>intro _;rw [h.hd,h'.hd]
  | succ j ih=>
   intro hj
   obtain⟨x,y,d,g1,g2,g3,g4,g5,g6,g7⟩:=h.ft j (by omega)
   obtain⟨x',y',d',q1,q2,q3,q4,q5,q6,q7⟩:=h'.ft j (by omega)
   have e:=ih (by omega)
   rw [g1,q1] at e
   cases e
   have hd:d=d':=by
    rcases Int.lt_trichotomy d d' with hlt | he | hlt
    ·exact absurd ⟨by rw [g5],by rw [g5];exact (Dm.congr hm).1 g6⟩ (q7 d g3 hlt)
    ·exact he
    ·exact absurd ⟨by rw [q5],by rw [q5];exact (Dm.congr hm).2 q6⟩ (g7 d' q3 hlt)
   subst hd
   rw [g5] at q5
   rw [g2,q2]
   exact congrArg some (congrArg Prod.fst q5)
 apply List.ext_getElem?
 intro j
 by_cases hj:j≤k
 ·exact key j hj
 ·rw [List.getElem?_eq_none (by rw [h.len];omega),List.getElem?_eq_none (by rw [h'.len];omega)]
end
end Go.Taq
