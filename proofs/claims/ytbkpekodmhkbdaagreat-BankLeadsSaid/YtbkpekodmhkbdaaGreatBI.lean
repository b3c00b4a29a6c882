/- The mathematics, several parts in one text. -/
import Derived.Test.YtbkpekodmhkbdaaGreatBE
import Derived.Test.YtbkpekodmhkbdaaGreatOB
/- The mathematics, part BF: Check; the examples of chapter 21; BankGrows. -/
set_option linter.unusedVariables false
set_option linter.unusedSimpArgs false
namespace Go.Taq
open Go
section
variable {s:ApiSite} {st:ApiState} {homes:List Int}
def badI (st:ApiState) (o:List Int) (i:Nat):Prop:=¬(Kj st (o.getD i 0)=true∧o.getD i 0∉o.take i)
theorem Q8j {o:List Int} (hn:o.Nodup) (hl:∀x,x∈o→Kj st x=true) {i:Nat} (hi:i<o.length):¬badI st o i:=fun h=>h (by
 have hx:=List.getElem?_eq_getElem hi
 rw [show o.getD i 0=o[i] from KR hx]
 refine⟨hl _ (List.getElem_mem hi),fun hm=>?_⟩
 rw [←List.take_append_drop i o,List.nodup_append] at hn
 refine hn.2.2 _ hm _ (?_:o[i]∈o.drop i) rfl
 rw [List.drop_eq_getElem_cons hi];exact List.mem_cons_self ..)
def Q3G (st:ApiState) (o:List Int) (i:Nat):Prop:=(o.take i).Nodup∧(∀x,x∈o.take i→Kj st x=true)∧∀j,j<i→¬badI st o j
theorem Q3G.zero {o:List Int}:Q3G st o 0:=⟨by simp,fun x hx=>by simp at hx,fun j hj=>by omega⟩
theorem Q3G.all {o:List Int} (h:Q3G st o o.length):o.Nodup∧∀x,x∈o→Kj st x=true:=by
 have h1:=h.1;have h2:=h.2.1
 rw [List.take_length] at h1 h2
 exact⟨h1,h2⟩
theorem Qat {o:List Int} {i:Nat} {x:Int} (hx:o[i]?=some x) (hb:true=(!Kj st x||(o.take i).contains x)):badI st o i:=fun hc=>by
 rw [show o.getD i 0=x from KR hx] at hc
 rw [hc.1] at hb
 have:=hb.symm
 simp at this
 exact hc.2 this
theorem Q3G.step {o:List Int} {i:Nat} (h:Q3G st o i) {x:Int} (hx:o[i]?=some x) (hb:false=(!Kj st x||(o.take i).contains x)):Q3G st o (i+1):=by
 have hb':=hb.symm
 simp at hb'
 obtain⟨hI1,hI2,hI3⟩:=h
 refine⟨?_,?_,fun j hj=>?_⟩
 ·rw [Qz hx]
  refine List.nodup_append.2 ⟨hI1,by simp,fun a ha b hb2=>?_⟩
  simp at hb2;subst hb2
  intro e;subst e
  exact hb'.2 ha
 ·rw [Qz hx]
  intro y hy
  rcases List.mem_append.1 hy with h | h
  ·exact hI2 y h
  ·simp at h;subst h;exact hb'.1
 ·by_cases e:j=i
  ·subst e
   exact fun hn=>hn (by rw [show o.getD j 0=x from KR hx];exact hb')
  ·exact hI3 j (by omega)
theorem Q3u (hf:RF s.Floor) (hz:Sz st) (k:QM st) (hl:homes.length=st.Robots.length) {o:List Int} (ho:o.length≤1000) {post:Int×Int→Prop}
  (h1:∀i:Nat,i<o.length→badI st o i→(∀j,j<i→¬badI st o j)→post ((i:Int),1))
  (h2:∀p x q,o=p++x :: q→Yg s st homes p→¬Wy (sitO s st homes p) x→o.Nodup→(∀x,x∈o→Kj st x=true)→post ((p.length:Int),14))
  (h3:Yg s st homes o→(∀i:Int,Kj st i=true→i∈o)→post (-1,0))
  (h4:Yg s st homes o→¬(∀i:Int,Kj st i=true→i∈o)→post ((o.length:Int),19)):GX s st homes o post:=by
 unfold GX
 refine WY (by simp) ?_
 show Jn _ _
 refine Jn.mk (fun _=>o.Nodup∧∀x,x∈o→Kj st x=true) (Loop.inv o.length (fun i (t:Int)=>t=(i:Int)∧Q3G st o i) ⟨rfl,.zero⟩ (fun i t hi hI=>?_) (fun t hI=>?_)) (fun _ hlv=>?_)
 ·obtain⟨ht,hI⟩:=hI
  subst ht
  have hx:=List.getElem?_eq_getElem hi
  generalize o[i]=x at hx
  have esub:sub o 0 (i:Int)=o.take i:=by simp [sub]
  refine Ite.lt (by omega) ⟨x,Qn rfl hx,Jn.mk (fun b=>b=(!Kj st x||(o.take i).contains x)) (WJ (Ite.mk (fun h=>⟨⟨by omega,by omega,by omega⟩,?_⟩) (fun h=>?_))) (fun b hb=>Ite.mk (fun h=>?_) (fun h=>⟨by rw [QD (by omega) (by omega)];simp,?_⟩))⟩
  ·rw [esub]
   refine K7 (by rw [List.length_take];unfold maxLen;omega) ?_
   have h':Kj st x=true:=h
   rw [h'];rfl
  ·have h':Kj st x=false:=h
   rw [h'];rfl
  ·rw [h] at hb
   exact h1 i hi (Qat hx hb) hI.2.2
  ·rw [h] at hb
   exact hI.step hx hb
 ·obtain⟨ht,hI⟩:=hI
  exact Ite.nlt (by omega) hI.all
 ·obtain⟨hnd,hlv⟩:=hlv
  refine Jn.mk (fun m=>m=hmS st o∧Yg s st homes o) (Loop.inv o.length (fun i (t:List (Int×Bool)×Int)=>t.2=(i:Int)∧t.1=hmS st (o.take i)∧Yg s st homes (o.take i)) ⟨rfl,rfl,fun p x q e=>by simp at e⟩ (fun i t hi hI=>?_) (fun t hI=>?_)) (fun m hm=>?_)
  ·obtain⟨ht,hI1,hI2⟩:=hI
   have hx:=List.getElem?_eq_getElem hi
   have hsplit:o=o.take i++o[i] :: o.drop (i+1):=by
    conv=>lhs;rw [←List.take_append_drop i o]
    rw [List.drop_eq_getElem_cons hi]
   generalize o[i]=x at hx hsplit
   have hti:(o.take i).length=i:=by rw [List.length_take];omega
   have hlx:=hlv x (List.mem_of_getElem? hx)
   have ex:({s:=s,st:=st,homes:=homes,home:=t.1}:Qd)=sitO s st homes (o.take i):=by unfold sitO;rw [hI1]
   refine Ite.lt (by omega) ⟨x,Qn ht hx,?_⟩
   show K1 {s:=s,st:=st,homes:=homes,home:=t.1} x _
   rw [ex]
   refine Q0r (x:=sitO s st homes (o.take i)) hf hz k hl (fun hw=>Ite.t rfl ?_) (fun kk p hw _ _ hp=>Ite.f (by rw [hp.len];simp;omega) ⟨by rw [ht,QD (by omega) (by omega)];simp,?_,?_⟩)
   ·have:=h2 (o.take i) x _ hsplit hI2 hw hnd hlv
    rw [hti] at this;rw [ht];exact this
   ·show upd t.1 x true=_
    rw [Qz hx,Q4G (st:=st) hlx,hI1]
   ·rw [Qz hx];exact hI2.snoc hw
  ·obtain⟨ht,hI1,hI2⟩:=hI
   rw [List.take_length] at hI1 hI2
   exact Ite.nlt (by omega) ⟨hI1,hI2⟩
  ·obtain⟨hm,hc⟩:=hm
   subst hm
   refine Q2i (x:={s:=s,st:=st,homes:=homes,home:=hmS st o}) hz (fun h=>Ite.f rfl (h3 hc fun i hi=>(YO (s:=s) (homes:=homes).1 (h i hi)).1)) (fun ⟨i,g1,g2⟩=>Ite.t rfl (h4 hc fun h=>?_))
   have:=(YO (s:=s) (st:=st) (homes:=homes) (o:=o) (i:=i)).2 ⟨h i g1,g1⟩
   have g2':hB (sitO s st homes o) i=false:=g2
   rw [this] at g2';cases g2'
end
def e21F:ApiFloor:={W:=5,H:=1,D:=1,Kind:=[3,1,1,1,1],Out:=[5,5,5,5,5]}
def e21S:ApiSite:={Floor:=e21F,Zones:=[],Aparts:=[],Shelves:=[],Robots:=[{Cell:=1,Charge:=9},{Cell:=2,Charge:=9}]}
def e21T:ApiState:={Tick:=0,Shelves:=[],Robots:=[{Cell:=1,Load:=-1,Charge:=9,Rest:=0,Mute:=0,Dead:=false},{Cell:=2,Load:=-1,Charge:=9,Rest:=0,Mute:=0,Dead:=false}],People:=[],Dead:=[],Stuck:=[]}
theorem Q6H:RF e21F:=by
 refine⟨by decide,by decide,by decide,by decide,by decide,by decide,by decide,by decide,by decide,fun i x y hx hy=>?_⟩
 match i,hx,hy with
 | 0,hx,hy=>simp [e21F] at hx hy;omega
 | 1,hx,hy=>simp [e21F] at hx hy;omega
 | 2,hx,hy=>simp [e21F] at hx hy;omega
 | 3,hx,hy=>simp [e21F] at hx hy;omega
 | 4,hx,hy=>simp [e21F] at hx hy;omega
 | n+5,hx,hy=>simp [e21F] at hx
theorem e21Z:Sz e21T:=⟨by decide,by decide,by decide,by decide,by decide⟩
theorem e21K:QM e21T where
 Tick:=XQ (by decide)
 Shelves:=Q0S (by decide) (fun c hc=>by cases hc)
 Robots:=Q0S (by decide) (fun r hr=>by
  simp only [e21T,List.mem_cons,List.not_mem_nil,or_false] at hr
  rcases hr with rfl | rfl
  ·exact⟨XQ (by decide),XQ (by decide),XQ (by decide),XQ (by decide),XQ (by decide),trivial⟩
  ·exact⟨XQ (by decide),XQ (by decide),XQ (by decide),XQ (by decide),XQ (by decide),trivial⟩)
 People:=Q0S (by decide) (fun c hc=>by cases hc)
 Dead:=Q0S (by decide) (fun c hc=>by cases hc)
 Stuck:=Q0S (by decide) (fun c hc=>by cases hc)
theorem e21l {i:Int}:Kj e21T i=true↔i=0∨i=1:=by
 constructor
 ·intro h
  have:=Yi h
  have:i<2:=this.2
  omega
 ·rintro (h | h) <;> subst h <;> decide
theorem e21a:Wy (sitO e21S e21T [0,4] []) 0:=⟨by decide,by decide,1,0,2,⟨by decide,by decide,by decide,by decide⟩,by decide,by decide,by decide,by decide,by decide,by decide⟩
theorem e21b:Wy (sitO e21S e21T [0,4] [0]) 1:=⟨by decide,by decide,2,3,0,⟨4,0,⟨by decide,by decide,by decide,by decide⟩,by decide,by decide,by decide,by decide,by decide,by decide⟩,by decide,by decide,by decide,by decide,by decide,by decide⟩
theorem e21c:Wy (sitO e21S e21T [4,3] []) 1:=⟨by decide,by decide,1,3,0,⟨by decide,by decide,by decide,by decide⟩,by decide,by decide,by decide,by decide,by decide,by decide⟩
theorem Q83 {l:List Int} (h:(3:Int)∈l):∀(k:Nat) (c:Int),PB e21F 4 l k c→c=4
 | 0,c,hc=>by have:=hc.1;simpa using this
 | k+1,c,⟨p,d,hp,d0,d1,hb,hok⟩=>by
  have:=Q83 h k p hp
  subst this
  have:d=0∨d=1∨d=2∨d=3∨d=4∨d=5:=by omega
  rcases this with e | e | e | e | e | e <;> subst e
  ·have e3:bk e21F 4 0=(3,true):=by decide
   rw [e3] at hb
   have:c=3:=by injection hb with h1;exact h1.symm
   subst this
   exact absurd h hok.2.2
  ·exact absurd (show (bk e21F 4 1).2=true from congrArg Prod.snd hb) (by decide)
  ·exact absurd (show (bk e21F 4 2).2=true from congrArg Prod.snd hb) (by decide)
  ·exact absurd (show (bk e21F 4 3).2=true from congrArg Prod.snd hb) (by decide)
  ·exact absurd (show (bk e21F 4 4).2=true from congrArg Prod.snd hb) (by decide)
  ·exact absurd (show (bk e21F 4 5).2=true from congrArg Prod.snd hb) (by decide)
theorem e21d:¬Wy (sitO e21S e21T [4,3] []) 0:=fun ⟨_,_,k,hk⟩=>absurd (Q83 (by decide) k _ hk) (by decide)
theorem e21e:¬Wy (sitO e21S e21T [4,3] [1]) 0:=fun ⟨_,_,k,hk⟩=>absurd (Q83 (by decide) k _ hk) (by decide)
theorem e21f:Wy (sitO e21S e21T [0,1] []) 0:=⟨by decide,by decide,1,0,2,⟨by decide,by decide,by decide,by decide⟩,by decide,by decide,by decide,by decide,by decide,by decide⟩
theorem Q2B {post:Bool→Prop} (hp:post true):KY post:=by
 unfold KY Xi
 show G0 e21S e21T [0,4] _
 have nil0:∀{H:List Int} {o:List Int},Yg e21S e21T H o→∀p x q,o=p++x :: q→x=0∨x=1:=fun h p x q e=>e21l.1 (h p x q e).1
 refine Zz Q6H e21Z e21K rfl (fun o b hc hf hs hb=>?_)
 have ho:o=[0,1]:=by
  match o,hc,hf,hs with
  | [],_,_,hs=>exact absurd e21a (hs 0)
  | a :: q,hc,hf,hs=>
   have h1:=nil0 hc [] a q rfl
   have ha:a=0:=by
    rcases h1 with h | h
    ·exact h
    ·subst h;exact absurd e21a (hf [] 1 q rfl 0 (by decide))
   subst ha
   match q,hc,hs with
   | [],_,hs=>exact absurd e21b (hs 1)
   | a :: q,hc,hs=>
    have hw:=hc [0] a q rfl
    have ha:a=1:=by
     rcases e21l.1 hw.1 with h | h
     ·subst h;exact absurd hw.2.1 (by decide)
     ·exact h
    subst ha
    match q,hc with
    | [],_=>rfl
    | a :: q,hc=>
     have hw:=hc [0,1] a q rfl
     rcases e21l.1 hw.1 with h | h
     ·subst h;exact absurd hw.2.1 (by decide)
     ·subst h;exact absurd hw.2.1 (by decide)
 subst ho
 have hb1:b=true:=hb.2 (fun i hi=>by rcases e21l.1 hi with h | h <;> subst h <;> decide)
 subst hb1
 refine Zz Q6H e21Z e21K rfl (fun o b hc hf hs hb=>?_)
 have ho:o=[1]:=by
  match o,hc,hs with
  | [],_,hs=>exact absurd e21c (hs 1)
  | a :: q,hc,hs=>
   have hw:=hc [] a q rfl
   have ha:a=1:=by
    rcases e21l.1 hw.1 with h | h
    ·subst h;exact absurd hw e21d
    ·exact h
   subst ha
   match q,hc with
   | [],_=>rfl
   | a :: q,hc=>
    have hw:=hc [1] a q rfl
    rcases e21l.1 hw.1 with h | h
    ·subst h;exact absurd hw e21e
    ·subst h;exact absurd hw.2.1 (by decide)
 subst ho
 have hb1:b=false:=by
  cases e:b with
  | false=>rfl
  | true=>exact absurd (hb.1 e 0 (by decide)) (by decide)
 subst hb1
 refine Q3u Q6H e21Z e21K rfl (by decide) (fun i hi h _=>?_) (fun p x q e hc hw _ _=>?_) (fun hc _=>absurd (hc [1] 0 [] rfl) e21e) (fun hc _=>absurd (hc [1] 0 [] rfl) e21e)
 ·refine absurd h (Q8j (by decide) (fun x hx=>?_) hi)
  simp at hx;rcases hx with h | h <;> subst h <;> decide
 ·have hpx:p=[1]∧x=0:=by
   match p,e with
   | [],e=>injection e with e1 e2;subst e1;exact absurd e21c hw
   | [a],e=>simp at e;exact⟨by rw [e.1],e.2.1.symm⟩
   | a :: b :: r,e=>simp at e
  obtain⟨hp1,hx1⟩:=hpx
  subst hp1;subst hx1
  refine Jn.mk (fun x=>x=true) (Ite.t rfl (Yj (by decide) (Ite.t rfl (Ite.f rfl (Yj (by decide) (Ite.t rfl (Ite.t rfl (Ite.t rfl ?_)))))))) (fun x hx=>hx▸hp)
  refine Q1V Q6H e21Z e21K rfl (by decide) (fun hn=>absurd e21f hn) (fun k p hw hmin hp2=>?_)
  have hk1:k≤1:=hmin 1 ⟨0,2,⟨by decide,by decide,by decide,by decide⟩,by decide,by decide,by decide,by decide,by decide,by decide⟩
  have h0:=hp2.hd
  have h1:=hp2.lst
  have hln:=hp2.len
  have c0:(rAt e21T 0).Cell=1:=by decide
  have c1:([0,1]:List Int).getD (Int.toNat 0) 0=0:=by decide
  rw [c0] at h0
  rw [c1] at h1
  have hk:k=1:=by
   have:k=0∨k=1:=by omega
   rcases this with e | e
   ·subst e;rw [h0] at h1;cases h1
   ·exact e
  subst hk
  have:p=[1,0]:=by
   match p,h0,h1,hln with
   | [a,b],h0,h1,_=>simp at h0 h1;rw [h0,h1]
  subst this
  exact Yj (by decide) rfl
end Go.Taq
/- The mathematics, part BG: BankFinds. -/
set_option linter.unusedVariables false
set_option linter.unusedSimpArgs false
namespace Go.Taq
open Go
section
variable {s:ApiSite} {st:ApiState} {homes:List Int}
theorem Q82 {o g:List Int} (hs:Stop s st homes o) (hg:∀x,x∈g→x∈o) {x:Int} (hw:Wy (sitO s st homes g) x):x∈o:=by
 by_cases h:x∈o
 ·exact h
 ·refine absurd (Q88 (o:=g) (o':=o) (fun j hj=>?_) hw ?_) (hs x)
  ·have:=YO.1 hj
   exact YO.2 ⟨hg j this.1,this.2⟩
  ·cases e:hB (sitO s st homes o) x with
   | false=>rfl
   | true=>exact absurd (YO.1 e).1 h
theorem Yg.sub {o:List Int} (hs:Stop s st homes o):∀{g:List Int},Yg s st homes g→∀x,x∈g→x∈o:=by
 intro g
 generalize hn:g.reverse=r
 induction r generalizing g with
 | nil=>intro h x hx;have:g=[]:=by simpa using hn
        subst this;cases hx
 | cons a r ih=>
  intro h x hx
  have ho:g=r.reverse++[a]:=by have:=congrArg List.reverse hn;simpa using this
  subst ho
  have h1:Yg s st homes r.reverse:=fun p i q e=>h p i (q++[a]) (by rw [e];simp)
  have h2:=ih (by simp) h1
  rcases List.mem_append.1 hx with hx | hx
  ·exact h2 x hx
  ·simp at hx;subst hx
   exact Q82 hs h2 (h r.reverse x [] rfl)
theorem Zb:∀{a b:List Int},a.Nodup→(∀x,x∈a→x∈b)→a.length≤b.length
 | [],b,_,_=>by simp
 | x :: a,b,hn,h=>by
  have hn':=List.nodup_cons.1 hn
  have hx:x∈b:=h x (by simp)
  have:=Zb (a:=a) (b:=b.erase x) hn'.2 (fun y hy=>by
   have hne:y≠x:=fun e=>hn'.1 (e▸hy)
   exact (List.mem_erase_of_ne hne).2 (h y (by simp [hy])))
  rw [List.length_erase_of_mem hx] at this
  have:=List.length_pos_of_mem hx
  simp;omega
theorem Yg.len (hz:Sz st) {o:List Int} (h:Yg s st homes o):o.length≤st.Robots.length:=YD _ o h.nodup.1 (fun x hx=>Yi (h.nodup.2 x hx))
end
end Go.Taq
/- The mathematics, part BH: the reference's search over floors (taquinref07.spread, Path). -/
set_option linter.unusedVariables false
set_option linter.unusedSimpArgs false
namespace Go.Taq
open Go
end Go.Taq
/- The mathematics, part BI: the reference's Path and Way (taquinref07.Path, taquinref21.Way). -/
set_option linter.unusedVariables false
set_option linter.unusedSimpArgs false
namespace Go.Taq
open Go
section
end
end Go.Taq
