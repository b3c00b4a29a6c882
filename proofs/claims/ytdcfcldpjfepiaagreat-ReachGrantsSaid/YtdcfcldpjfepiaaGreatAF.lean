/- The mathematics, several parts in one text. -/
import Derived.Test.YtdcfcldpjfepiaaGreatAB
/- The mathematics, part AC: what a fault does (arena.Happen and its reference). -/
set_option linter.unusedVariables false
set_option linter.unusedSimpArgs false
namespace Go.Taq
open Go
section
end
end Go.Taq
/- The mathematics, part AD: what happens, and what robots do, leaves a state right. -/
set_option linter.unusedVariables false
set_option linter.unusedSimpArgs false
namespace Go.Taq
open Go
section
variable {s:ApiSite} {st st':ApiState}
theorem Q5w (hf:RF s.Floor) (hs:RS s) (h:RSt s st) (hz:Sz st):LS s st:=⟨hf,hs,hz,h.cells,fun i r hr=>⟨(h.rob i r hr).cell,(h.rob i r hr).load.1,(h.rob i r hr).load.2⟩⟩
end
end Go.Taq
/- The mathematics, part AE: the end of a tick; a whole tick (arena.Step and its reference). -/
set_option linter.unusedVariables false
set_option linter.unusedSimpArgs false
namespace Go.Taq
open Go
def endR (b r:Q0):Q0:={r with Rest:=if r.Cell=b.Cell then imax (r.Rest-1) 0 else r.Rest,Mute:=imax (r.Mute-1) 0}
section
variable {st b:ApiState}
/-! ## lengths -/
structure SzN (n:Nat) (st:ApiState):Prop where
 sh:st.Shelves.length≤20
 rb:st.Robots.length≤20
 pp:st.People.length≤20
 dd:st.Dead.length≤n
 sk:st.Stuck.length≤n
theorem SzN.sz {n:Nat} (h:SzN n st) (hn:n≤1000):Sz st:=⟨by have:=h.sh;omega,by have:=h.rb;omega,by have:=h.pp;omega,by have:=h.dd;omega,by have:=h.sk;omega⟩
theorem SzN.mono {n m:Nat} (h:SzN n st) (hn:n≤m):SzN m st:=⟨h.sh,h.rb,h.pp,by have:=h.dd;omega,by have:=h.sk;omega⟩
end
end Go.Taq
/- The mathematics, part AF: right states and right sites by the program's own functions; the bounds of the statements of chapter 16. -/
set_option linter.unusedVariables false
set_option linter.unusedSimpArgs false
namespace Go.Taq
open Go
section
variable {s:ApiSite} {st:ApiState}
theorem X6 {x a b:Int} {post:Bool→Prop} (hp:post (decide (x≥a)&&decide (x≤b))):QZ x a b post:=by
 unfold QZ;exact Zx hp
theorem Z6 {f:ApiFloor} {c:Int} {ks:List Int} (hk:ks.length≤10) (h1:ks.contains (-1)=false) {post:Bool→Prop} (hp:post (ks.contains (kx f c))):Xw f c ks post:=by
 unfold Xw
 unfold kx at hp
 refine Jn.mk' (Ite.mk (fun h2=>Ite.mk (fun h3=>?_) (fun h3=>?_)) (fun h2=>?_))
 ·have hc:isC f c=true:=K0.2 ⟨by simpa using h2,by simpa using h3⟩
  rw [if_pos hc] at hp
  exact⟨_,Wp hc,Kl (by unfold maxLen;omega) hp⟩
 ·have hc:isC f c=false:=Q1U.2 (fun h=>by simp at h3;omega)
  rw [hc] at hp;simp only [Bool.false_eq_true,if_false] at hp;rw [h1] at hp;exact hp
 ·have hc:isC f c=false:=Q1U.2 (fun h=>by simp at h2;omega)
  rw [hc] at hp;simp only [Bool.false_eq_true,if_false] at hp;rw [h1] at hp;exact hp
theorem Q09 (hz:Sz st) {post:Bool→Prop} (hF:post false) (hT:(∀(i:Nat) r,st.Robots[i]?=some r→RRob s st i r)→post true):XF s st post:=by
 unfold XF
 have q1:=hz.rb
 have q2:=hz.sh
 let P:Nat→Q0→Prop:=fun k z=>isC s.Floor z.Cell=true∧kd s.Floor z.Cell≠0∧(-1≤z.Load∧z.Load<st.Shelves.length)∧(0≤z.Charge∧z.Charge≤1000000)∧(0≤z.Rest∧z.Rest≤20000)∧(0≤z.Mute∧z.Mute≤20000)∧(0≤z.Load→st.Shelves.getD z.Load.toNat 0=z.Cell∧∀(j:Nat) y,j<k→st.Robots[j]?=some y→y.Load≠z.Load)
 refine Jn.mk (fun _=>∀(k:Nat) z,st.Robots[k]?=some z→P k z) (Kq (xs:=st.Robots) (by unfold maxLen;omega) (fun t:List (Int×Bool)×Int=>t.2) (fun i t=>(∀x,(lk t.1 x).getD false=true↔∃(k:Nat) (z:Q0),k<i∧st.Robots[k]?=some z∧z.Load=x)∧∀(k:Nat) z,k<i→st.Robots[k]?=some z→P k z) rfl ⟨fun x=>⟨fun hx=>by simp [lk] at hx,fun ⟨k,z,h,_⟩=>by omega⟩,fun k z h=>by omega⟩ (fun i r t hx ht hI=>?_) (fun t h k z hk=>h.2 k z (List.getElem?_eq_some_iff.1 hk).1 hk)) (fun _ hall=>hT fun i r hi=>?_)
 ·obtain⟨hm,hP⟩:=hI
  refine Jn.mk (fun b=>b=false→isC s.Floor r.Cell=true∧kd s.Floor r.Cell≠0∧(-1≤r.Load∧r.Load<st.Shelves.length)) (Ite.mk (fun _ h=>by cases h) (fun h1=>Ite.mk (fun _ h=>by cases h) (fun h2=>?_))) (fun b hb=>Ite.mk (fun _=>hF) (fun h=>?_))
  ·have hc:isC s.Floor r.Cell=true:=K0.2 ⟨by simp at h1;omega,by simp at h2;omega⟩
   refine⟨_,Wp hc,Ite.mk (fun _ h=>by cases h) (fun h3=>X6 (fun h4=>⟨hc,by simpa using h3,?_⟩))⟩
   rw [QH (by omega) (by omega)] at h4
   simp at h4;omega
  obtain⟨c1,c2,c3⟩:=hb h
  refine Jn.mk (fun b=>b=false→(0≤r.Charge∧r.Charge≤1000000)∧(0≤r.Rest∧r.Rest≤20000)∧(0≤r.Mute∧r.Mute≤20000)) (X6 (Ite.mk (fun h1=>X6 (Ite.mk (fun h2=>X6 (fun h3=>?_)) (fun _ h=>by cases h))) (fun _ h=>by cases h))) (fun b hb=>Ite.mk (fun _=>hF) (fun h=>?_))
  ·simp at h1 h2 h3;omega
  obtain⟨c4,c5,c6⟩:=hb h
  refine Jn.mk (fun b=>b=false→0≤r.Load→st.Shelves.getD r.Load.toNat 0=r.Cell∧∀(j:Nat) y,j<i→st.Robots[j]?=some y→y.Load≠r.Load) (Ite.mk (fun h0=>Ite.mk (fun _ h=>by cases h) (fun h1=>?_)) (fun h0 _ h=>by simp at h0;omega)) (fun b hb=>Ite.mk (fun _=>hF) (fun h=>⟨by show w64 (t.2+1)=_;rw [ht],fun x=>?_,fun k z hk hz2=>?_⟩))
  ·have h0':0≤r.Load:=by simpa using h0
   obtain⟨m,hm2⟩:=Int.eq_ofNat_of_zero_le h0'
   have hsx:=List.getElem?_eq_getElem (show m<st.Shelves.length by omega)
   refine⟨_,QG hm2 hsx,fun h2 _=>⟨?_,fun j y hj hy e=>?_⟩⟩
   ·rw [hm2];show st.Shelves.getD m 0=_;rw [Q1n hsx];simpa using h2
   ·have:=(hm r.Load).2 ⟨j,y,hj,hy,e⟩
    rw [h1] at this;cases this
  ·show (lk (upd t.1 r.Load true) x).getD false=true↔_
   rw [Gu]
   by_cases e:r.Load=x
   ·rw [if_pos e];exact⟨fun _=>⟨i,r,by omega,hx,e⟩,fun _=>rfl⟩
   ·rw [if_neg e,hm x]
    constructor
    ·rintro⟨k,z,h1,h2,h3⟩;exact⟨k,z,by omega,h2,h3⟩
    ·rintro⟨k,z,h1,h2,h3⟩
     refine⟨k,z,?_,h2,h3⟩
     by_cases e2:k=i
     ·subst e2;rw [hx] at h2;cases h2;exact absurd h3 e
     ·omega
  ·by_cases e:k=i
   ·subst e;rw [hx] at hz2;cases hz2
    exact⟨c1,c2,c3,c4,c5,c6,hb h⟩
   ·exact hP k z (by omega) hz2
 ·obtain⟨c1,c2,c3,c4,c5,c6,c7⟩:=hall i r hi
  refine⟨c1,c2,c3,c4,c5,c6,fun h0=>⟨Q4B hi h0 (fun k z hk e=>?_),(c7 h0).1⟩⟩
  rcases Nat.lt_trichotomy k i with h | h | h
  ·exact absurd e ((c7 h0).2 k z h hk)
  ·exact h
  ·exact absurd e.symm (((hall k z hk).2.2.2.2.2.2 (by omega)).2 i r h hi)
theorem Q1E (hz:Sz st) {post:Bool→Prop} (hF:post false) (hT:(∀(i:Nat) c,st.Dead[i]?=some c→isC s.Floor c=true)→(∀(i:Nat) x y,st.Dead[i]?=some x→st.Dead[i+1]?=some y→x<y)→(∀(i:Nat) x,st.Stuck[i]?=some x→kx s.Floor x.Cell=6∧1≤x.Left∧x.Left≤20000)→(∀(i:Nat) x y,st.Stuck[i]?=some x→st.Stuck[i+1]?=some y→x.Cell<y.Cell)→post true):Gr s.Floor st post:=by
 unfold Gr
 have q4:=hz.dd;have q5:=hz.sk
 refine Q3q (xs:=st.Dead) (by unfold maxLen;omega) (fun i x=>isC s.Floor x=true∧∀y,0<i→st.Dead[i-1]?=some y→y<x) (T:=fun i q=>∃x14,idx st.Dead i=some x14∧Jn (fun (J16:Bool→Prop)=>Ite (decide (x14<0)) (J16 true) (Ite (decide (x14≥(s.Floor.Kind.length:Int))) (J16 true) (Ite (decide (i>0)) (∃x20,idx st.Dead (w64 (i-1))=some x20∧J16 (decide (x14≤x20))) (J16 false)))) q) (fun i x hx q qT qF=>⟨x,QG rfl hx,Jn.mk' ?_⟩) hF (fun hd=>?_)
 ·have hil:=(List.getElem?_eq_some_iff.1 hx).1
  refine Ite.mk (fun _=>qT) (fun h1=>Ite.mk (fun _=>qT) (fun h2=>Ite.mk (fun h3=>?_) (fun h3=>qF ⟨K0.2 ⟨by simp at h1;omega,by simp at h2;omega⟩,fun y hy=>by simp at h3;omega⟩)))
  have hi0:0<i:=by simp at h3;omega
  have hy:=List.getElem?_eq_getElem (show i-1<st.Dead.length by omega)
  refine⟨_,QG (n:=i-1) (by rw [QH (by omega) (by omega)];omega) hy,?_⟩
  by_cases h4:x≤st.Dead[i-1]
  ·rw [decide_eq_true h4];exact qT
  ·rw [decide_eq_false h4]
   refine qF ⟨K0.2 ⟨by simp at h1;omega,by simp at h2;omega⟩,fun y _ hy2=>?_⟩
   rw [hy] at hy2;cases hy2;omega
 refine Q3q (xs:=st.Stuck) (by unfold maxLen;omega) (fun i x=>(kx s.Floor x.Cell=6∧1≤x.Left∧x.Left≤20000)∧∀y,0<i→st.Stuck[i-1]?=some y→y.Cell<x.Cell) (T:=fun i q=>∃x37,idx st.Stuck i=some x37∧Jn (fun (J39:Bool→Prop)=>Xw s.Floor x37.Cell ([6]:List Int) (fun x40=>Ite x40 (QZ x37.Left 1 20000 (fun x42=>Ite x42 (Ite (decide (i>0)) (∃x45,idx st.Stuck (w64 (i-1))=some x45∧J39 (decide (x37.Cell≤x45.Cell))) (J39 false)) (J39 true))) (J39 true))) q) (fun i x hx q qT qF=>⟨x,QG rfl hx,Jn.mk' ?_⟩) hF (fun hs=>hT (fun i c hi=>(hd i c hi).1) (fun i x y hx hy=>(hd (i+1) y hy).2 x (by omega) (by simpa using hx)) (fun i x hi=>(hs i x hi).1) (fun i x y hx hy=>(hs (i+1) y hy).2 x (by omega) (by simpa using hx)))
 have hil:=(List.getElem?_eq_some_iff.1 hx).1
 refine Z6 (by decide) (by decide) (Ite.mk (fun h1=>X6 (Ite.mk (fun h2=>Ite.mk (fun h3=>?_) (fun h3=>qF ⟨⟨by simpa using h1,by simp at h2;omega⟩,fun y hy=>by simp at h3;omega⟩)) (fun _=>qT))) (fun _=>qT))
 have hi0:0<i:=by simp at h3;omega
 have hy:=List.getElem?_eq_getElem (show i-1<st.Stuck.length by omega)
 refine⟨_,QG (n:=i-1) (by rw [QH (by omega) (by omega)];omega) hy,?_⟩
 by_cases h4:x.Cell≤(st.Stuck[i-1]).Cell
 ·rw [decide_eq_true h4];exact qT
 ·rw [decide_eq_false h4]
  refine qF ⟨⟨by simpa using h1,by simp at h2;omega⟩,fun y _ hy2=>?_⟩
  rw [hy] at hy2;cases hy2;omega
theorem Q0S (hz:Sz st) {post:Bool→Prop} (hF:post false) (hT:RSt s st→post true):G0 s st post:=by
 unfold G0
 have q1:=hz.sh;have q3:=hz.pp
 refine Jn.mk (fun b=>b=false→(0≤st.Tick∧st.Tick≤20000)∧st.Shelves.length=s.Shelves.length∧st.Robots.length=s.Robots.length∧st.People.length≤20∧(∀(i:Nat) r,st.Robots[i]?=some r→RRob s st i r)∧(∀(i:Nat) c,st.Dead[i]?=some c→isC s.Floor c=true)∧(∀(i:Nat) x y,st.Dead[i]?=some x→st.Dead[i+1]?=some y→x<y)∧(∀(i:Nat) x,st.Stuck[i]?=some x→kx s.Floor x.Cell=6∧1≤x.Left∧x.Left≤20000)∧(∀(i:Nat) x y,st.Stuck[i]?=some x→st.Stuck[i+1]?=some y→x.Cell<y.Cell))
  (X6 (Ite.mk (fun h1=>Ite.mk (fun _ h=>by cases h) (fun h2=>Ite.mk (fun _ h=>by cases h) (fun h3=>Ite.mk (fun _ h=>by cases h) (fun h4=>Q09 hz (Ite.f rfl (fun h=>by cases h)) (fun h5=>Ite.t rfl (Q1E hz (fun h=>by cases h) (fun h6 h7 h8 h9 _=>⟨by simp at h1;omega,by simp at h2;omega,by simp at h3;omega,by simp at h4;omega,h5,h6,h7,h8,h9⟩))))))) (fun _ h=>by cases h))) (fun b hb=>Ite.mk (fun _=>hF) (fun h=>?_))
 obtain⟨g1,g2,g3,g4,g5,g6,g7,g8,g9⟩:=hb h
 refine Q3q (xs:=st.Shelves) (by unfold maxLen;omega) (fun i x=>carB st i=false→kx s.Floor x=1∨kx s.Floor x=2) (T:=fun i q=>∃x27,idx st.Shelves i=some x27∧Jn (fun (J29:Bool→Prop)=>KD st i (fun x30=>Ite (decide (x30<0)) (Xw s.Floor x27 ([1,2]:List Int) (fun x32=>J29 (!x32))) (J29 false))) q) (fun i x hx q qT qF=>⟨x,QG rfl hx,Jn.mk' (Yq hz (Ite.mk (fun h1=>Z6 (by decide) (by decide) ?_) (fun h1=>qF (fun hc=>?_))))⟩) hF (fun hs=>?_)
 ·cases e:([1,2]:List Int).contains (kx s.Floor x) with
  | true=>exact qF (fun _=>by simpa using e)
  | false=>exact qT
 ·exfalso;unfold carB at hc;simp at h1 hc;omega
 refine Q3q (xs:=st.People) (by unfold maxLen;omega) (fun i x=>kx s.Floor x=4∨kx s.Floor x=5) (T:=fun i q=>∃x49,idx st.People i=some x49∧Xw s.Floor x49 ([4,5]:List Int) (fun x52=>q (!x52))) (fun i x hx q qT qF=>⟨x,QG rfl hx,Z6 (by decide) (by decide) ?_⟩) hF (fun hp=>?_)
 ·cases e:([4,5]:List Int).contains (kx s.Floor x) with
  | true=>exact qF (by simpa using e)
  | false=>exact qT
 refine Q0q hz (Q1b (by have:=Q0J hz;omega) (fun n b hb=>?_))
 cases b with
 | true=>exact hF
 | false=>
  refine hT ⟨g1,g2,g3,g4,g5,hs,hp,g6,g7,g8,g9,?_⟩
  by_cases e:(allS st).Nodup
  ·exact e
  ·have:=hb.2 e;cases this
/-! ## a bare site is right -/
/-! ## bounds -/
end
end Go.Taq
