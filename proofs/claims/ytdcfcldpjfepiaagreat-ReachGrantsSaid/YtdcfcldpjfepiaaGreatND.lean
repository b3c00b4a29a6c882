/- The mathematics, several parts in one text. -/
import Derived.Test.YtdcfcldpjfepiaaGreatQA
/- The mathematics, part NA: right floors and right sites, as the program sees them (floor.Right, survey.Right). -/
set_option linter.unusedVariables false
namespace Go.Taq
open Go
theorem Q4v {x y k:Int}:imax x y>k↔x>k∨y>k:=by unfold imax;split <;> omega
theorem Q13 {f:ApiFloor} {post:Bool→Prop} (hF:post false) (hT:RF f→post true):XJ f post:=by
 unfold XJ
 refine Jor3 (Ite.mk (fun _=>hF) (fun h1=>?_))
 simp only [Bool.or_eq_false_iff,decide_eq_false_iff_not,Q1W,Q4v] at h1
 obtain⟨⟨a1,a2⟩,a3⟩:=h1
 have e:=Q25 (f:=f) (by omega) (by omega) (by omega) (by omega) (by omega) (by omega)
 unfold Xg
 rw [e.1]
 refine Jor3 (Ite.mk (fun _=>hF) (fun h2=>?_))
 simp only [Bool.or_eq_false_iff,decide_eq_false_iff_not,bne_eq_false_iff_eq] at h2
 obtain⟨⟨b1,b2⟩,b3⟩:=h2
 have hl:f.Kind.length≤maxLen:=by unfold maxLen;omega
 refine Jn.mk (fun _=>∀(i:Nat) x y,f.Kind[i]?=some x→f.Out[i]?=some y→0≤x∧x<7∧0≤y∧y≤63)
  (Kq hl (fun s=>s) (fun n _=>∀(i:Nat) x y,i<n→f.Kind[i]?=some x→f.Out[i]?=some y→0≤x∧x<7∧0≤y∧y≤63) rfl (fun i x y h=>by omega) (fun n x t hx ht hall=>?_) (fun t h i x y hx hy=>h i x y (List.getElem?_eq_some_iff.1 hx).1 hx hy)) (fun _ h=>hT ?_)
 ·have hn:=(List.getElem?_eq_some_iff.1 hx).1
  have ho:f.Out[n]?=some (f.Out[n]'(by omega)):=List.getElem?_eq_getElem _
  refine Jn.eq (decide (x<0)||decide (x≥7)||decide (f.Out[n]'(by omega)<0)||decide (f.Out[n]'(by omega)>63)) ?_ ?_
  ·refine Ite.mk (fun h=>by rw [h];rfl) (fun h=>Ite.mk (fun h'=>by rw [h,h'];rfl) (fun h'=>⟨_,by rw [ht];exact QG rfl ho,Ite.mk (fun h''=>by rw [h,h',h''];rfl) (fun h''=>by rw [h,h',h''];rfl)⟩))
  ·refine Ite.mk (fun _=>hF) (fun h3=>⟨by rw [ht],fun i x' y' hi hx' hy'=>?_⟩)
   simp only [Bool.or_eq_false_iff,decide_eq_false_iff_not] at h3
   by_cases e:i=n
   ·subst e;rw [hx] at hx';rw [ho] at hy';cases hx';cases hy';omega
   ·exact hall i x' y' (by omega) hx' hy'
 ·exact⟨by omega,by omega,by omega,by omega,by omega,by omega,by omega,by omega,by omega,h⟩
def Q2C (x:ByteArray):Bool:=decide ((x.size:Int)<1)||decide ((x.size:Int)>20)||(decide (((x.data.toList.headD 0).toNat:Int)≥48)&&decide (((x.data.toList.headD 0).toNat:Int)≤57))
def Q5W:ByteArray:=ByteArray.mk #[97,98,99,100,101,102,103,104,105,106,107,108,109,110,111,112,113,114,115,116,117,118,119,120,121,122,65,66,67,68,69,70,71,72,73,74,75,76,77,78,79,80,81,82,83,84,85,86,87,88,89,90,48,49,50,51,52,53,54,55,56,57,95,45]
def nmB (x:ByteArray):Bool:=!Q2C x&&!(x.data.toList.any fun c=>decide (ZG Q5W (c.toNat:Int)<0))
theorem Q45 {x:ByteArray} (h:nmB x=true):1≤x.size∧x.size≤20:=by
 unfold nmB Q2C at h
 simp only [Bool.and_eq_true,Bool.not_eq_true',Bool.or_eq_false_iff,decide_eq_false_iff_not] at h
 omega
theorem Yo {x:ByteArray} {post:Bool→Prop} (hx:OkS x) (hp:post (nmB x)):Kj x post:=by
 unfold Kj
 have hl:x.data.toList.length=x.size:=Array.length_toList
 have hm:x.data.toList.length≤maxLen:=by rw [hl];exact hx
 refine Jn.eq (Q2C x) (Ite.mk (fun h1=>?_) (fun h1=>Ite.mk (fun h2=>?_) (fun h2=>?_))) (Ite.mk (fun h=>?_) (fun h=>?_))
 ·unfold Q2C;rw [h1];rfl
 ·unfold Q2C;rw [h1,h2];rfl
 ·have hx0:x.data.toList[0]?=some (x.data.toList[0]'(by simp at h1;omega)):=List.getElem?_eq_getElem _
  have hh:x.data.toList.headD 0=x.data.toList[0]'(by simp at h1;omega):=by rw [List.headD_eq_head?_getD,List.head?_eq_getElem?,hx0];rfl
  unfold Q2C;rw [h1,h2,hh]
  exact⟨_,QG rfl hx0,Ite.mk (fun h3=>by rw [h3];rfl) (fun h3=>by rw [h3];rfl)⟩
 ·unfold nmB at hp;rw [h] at hp;exact hp
 ·unfold nmB at hp;rw [h] at hp
  rw [show ((x.size:Nat):Int)=((x.data.toList.length:Nat):Int) by rw [hl]]
  exact Q6G hm (p:=fun c:UInt8=>decide (ZG Q5W (c.toNat:Int)<0)) (post:=fun b=>post (!b)) (by simpa using hp)
theorem Wi {x:ByteArray} {post:Bool→Prop} (hx:OkS x) (hF:post false) (hT:1≤x.size→x.size≤20→nmB x=true→post true):Kj x post:=Yo hx (by
 cases h:nmB x with
 | false=>exact hF
 | true=>exact hT (Q45 h).1 (Q45 h).2 h)
theorem WB {n a b:Int} {post:Bool→Prop} (hp:post (decide (a≤n)&&decide (n≤b))):KQ n a b post:=by
 unfold KQ
 exact Zx hp
theorem Q0b {k:Int} {post:Bool→Prop} (hp:post (Q0z k)):Xr k post:=by
 unfold Xr
 exact Q6c hp
theorem WA {k:Int} {post:Bool→Prop} (hp:post (Zl k)):KO k post:=by
 unfold KO
 exact Jor2 hp
theorem XH {m:SurveyMaker} {c:Int} {post:Int×Bool→Prop} (hp:post (if isC m.site.Floor c=true then (kd m.site.Floor c,true) else (0,false))):QI m c post:=by
 unfold QI
 refine Jor2 (Ite.mk (fun h=>?_) (fun h=>?_))
 ·have:isC m.site.Floor c=false:=by rw [Q1U];simp at h;omega
  rw [if_neg (by simp [this])] at hp;exact hp
 ·have:isC m.site.Floor c=true:=by rw [K0];simp at h;omega
  rw [if_pos this] at hp
  exact⟨_,Wp this,hp⟩
theorem Q0N {l:List Xe} (hm:l.length≤maxLen) {post:Bool→Prop} (hF:post false) (hT:W5 0 l→post true):XI l post:=by
 unfold XI
 refine Jn.mk (fun _=>W5 0 l) (Kq hm (fun s:Int×Int=>s.2) (fun n (s:Int×Int)=>W5 s.1 (l.drop n)→W5 0 l) rfl (fun h=>h) (fun n x t hx ht hI=>?_) (fun t h=>h (by rw [List.drop_length];trivial))) (fun _ h=>hT h)
 have hd:l.drop n=x :: l.drop (n+1):=by
  obtain⟨hlt,he⟩:=List.getElem?_eq_some_iff.1 hx
  rw [List.drop_eq_getElem_cons hlt,he]
 refine Jor3 (Ite.mk (fun _=>hF) (fun h=>⟨by rw [ht],fun h'=>hI ?_⟩))
 simp only [Bool.or_eq_false_iff,decide_eq_false_iff_not] at h
 rw [hd]
 exact⟨by omega,by omega,by omega,h'⟩
theorem Q07 {m:SurveyMaker} {l:List Int} (hm:l.length≤maxLen) {post:Bool→Prop} (hF:post false)
  (hT:l≠[]→(∀c,c∈l→isC m.site.Floor c=true)→(∀(i:Nat) x y,l[i]?=some x→l[i+1]?=some y→x<y)→post true):Kb m l post:=by
 unfold Kb
 refine Jn.mk (fun _=>(∀c,c∈l→isC m.site.Floor c=true)∧∀(i:Nat) x y,l[i]?=some x→l[i+1]?=some y→x<y)
  (Kq hm (fun s=>s) (fun n _=>(∀(i:Nat) c,i<n→l[i]?=some c→isC m.site.Floor c=true)∧∀(i:Nat) x y,i+1<n→l[i]?=some x→l[i+1]?=some y→x<y) rfl ⟨fun i c h=>by omega,fun i x y h=>by omega⟩ (fun n c t hc ht hI=>?_) (fun t h=>?_)) (fun _ h=>?_)
 ·refine XH ?_
  refine Jn.mk (fun b=>b=false→isC m.site.Floor c=true∧∀x,0<n→l[n-1]?=some x→x<c) ?_ (fun b hb=>Ite.mk (fun _=>hF) (fun hb'=>⟨by rw [ht],?_,?_⟩))
  ·by_cases hcc:isC m.site.Floor c=true
   ·rw [if_pos hcc]
    refine Ite.t rfl (Ite.mk (fun h=>?_) (fun h=>fun _=>⟨hcc,fun x h0=>?_⟩))
    ·simp at h
     have hn:=(List.getElem?_eq_some_iff.1 hc).1
     have hx:l[n-1]?=some (l[n-1]'(by omega)):=List.getElem?_eq_getElem _
     refine⟨l[n-1]'(by omega),?_,fun h'=>⟨hcc,fun x h0 hx'=>?_⟩⟩
     ·have e1:w64 (t-1)=((n-1:Nat):Int):=by rw [ht,QH (by omega) (by unfold maxLen at hm;omega)];omega
      rw [e1];exact QG rfl hx
     ·rw [hx] at hx';cases hx';simp at h';exact h'
    ·simp at h;omega
   ·rw [if_neg hcc];exact Ite.f rfl (fun h=>by cases h)
  ·intro i x hi hx
   by_cases e:i=n
   ·subst e;rw [hc] at hx;cases hx;exact (hb hb').1
   ·exact hI.1 i x (by omega) hx
  ·intro i x y hi hx hy
   by_cases e:i+1=n
   ·subst e;rw [hc] at hy;cases hy;exact (hb hb').2 x (by omega) (by simpa using hx)
   ·exact hI.2 i x y (by omega) hx hy
 ·refine⟨fun c hc=>?_,fun i x y hx hy=>h.2 i x y (List.getElem?_eq_some_iff.1 hy).1 hx hy⟩
  obtain⟨i,hi⟩:=List.getElem?_of_mem hc
  exact h.1 i c (List.getElem?_eq_some_iff.1 hi).1 hi
 ·cases l with
  | nil=>simpa using hF
  | cons a r=>exact hT (by simp) h.1 h.2 |> fun h=>by simpa using h
structure MInv (s:ApiSite) (nz na ns nr:Nat) (m:SurveyMaker):Prop where
 fl:m.site.Floor=s.Floor
 zs:m.site.Zones=s.Zones.take nz
 aps:m.site.Aparts=s.Aparts.take na
 sh:m.site.Shelves=s.Shelves.take ns
 rs:m.site.Robots=s.Robots.take nr
 names:∀n,(lk m.names n).isSome=(s.Zones.take nz).any fun z=>seq z.Name n
 zoned:∀c,(lk m.zoned c).getD false=zAt (s.Zones.take nz) c
 shelf:∀c,lk m.shelf c=if 0≤shAt (s.Shelves.take ns) c then some (shAt (s.Shelves.take ns) c) else none
 robot:∀c,(lk m.robot c).getD false=rbAt (s.Robots.take nr) c
theorem Q4j (l:List Qt) (z:Qt) (c:Int):zAt (l++[z]) c=(zAt l c||z.Cells.contains c):=by simp [zAt]
theorem Zs {s:ApiSite} (k:OkApiSite s) {n:Nat} {m:SurveyMaker} (hI:MInv s n 0 0 0 m) {z:Qt} (hz:s.Zones[n]?=some z) {post:Int×SurveyMaker→Prop} (hE:∀e,e≠0→post (e,m))
  (hT:n<64→(∀y,y∈s.Zones.take n→seq y.Name z.Name=false)→(∀c,c∈z.Cells→isC s.Floor c=true∧Q0z (kd s.Floor c)=true∧zAt (s.Zones.take n) c=false)→∀m',MInv s (n+1) 0 0 0 m'→post (0,m')):
  QW z m post:=by
 have kz:=k.Zones.2 z (List.mem_of_getElem? hz)
 have hn:=(List.getElem?_eq_some_iff.1 hz).1
 unfold QW
 refine Ite.mk (fun _=>hE 5 (by decide)) (fun h1=>Ite.mk (fun _=>hE 6 (by decide)) (fun h2=>?_))
 rw [hI.names] at h1
 have hlen:m.site.Zones.length=n:=by rw [hI.zs];simp;omega
 rw [hlen] at h2
 simp at h2
 refine Jn.mk (fun _=>∀c,c∈z.Cells→isC s.Floor c=true∧Q0z (kd s.Floor c)=true∧zAt (s.Zones.take n) c=false)
  (Kq kz.Cells.1 (fun t=>t) (fun i _=>∀(j:Nat) c,j<i→z.Cells[j]?=some c→isC s.Floor c=true∧Q0z (kd s.Floor c)=true∧zAt (s.Zones.take n) c=false) rfl (fun j c h=>by omega) (fun i c t hc ht hall=>?_) (fun t h c hc=>?_)) (fun _ hall=>?_)
 ·refine XH ?_
  rw [hI.fl]
  refine Jn.mk (fun b=>b=false→isC s.Floor c=true∧Q0z (kd s.Floor c)=true∧zAt (s.Zones.take n) c=false) (Q0b ?_) (fun b hb=>Ite.mk (fun _=>hE 13 (by decide)) (fun hb'=>⟨by rw [ht],fun j c' hj hc'=>?_⟩))
  ·by_cases hcc:isC s.Floor c=true
   ·rw [if_pos hcc]
    refine Ite.mk (fun h=>?_) (fun _ h=>by cases h)
    rw [hI.zoned]
    exact fun h'=>⟨hcc,h,h'⟩
   ·rw [if_neg hcc]
    exact Ite.f (by decide) (fun h=>by cases h)
  ·by_cases e:j=i
   ·subst e;rw [hc] at hc';cases hc';exact hb hb'
   ·exact hall j c' (by omega) hc'
 ·obtain⟨j,hj⟩:=List.getElem?_of_mem hc
  exact h j c (List.getElem?_eq_some_iff.1 hj).1 hj
 ·refine Jn.mk (fun zm=>∀c,(lk zm c).getD false=(zAt (s.Zones.take n) c||z.Cells.contains c))
   (Kq kz.Cells.1 (fun t:List (Int×Bool)×Int=>t.2) (fun i t=>∀c,(lk t.1 c).getD false=(zAt (s.Zones.take n) c||(z.Cells.take i).contains c)) rfl (fun c=>by simp [hI.zoned]) (fun i x t hx ht h=>⟨by rw [ht],fun c=>?_⟩) (fun t h c=>by have:=h c;rwa [List.take_length] at this)) (fun zm hzm=>⟨by rw [hlen];simp;omega,?_⟩)
  ·rw [Gu,QU hx]
   by_cases e:x=c
   ·subst e;simp
   ·rw [if_neg e,h c]
    simp [show ¬c=x from fun h=>e h.symm]
  ·refine hT (by omega) (fun y hy=>?_) hall _ ⟨hI.fl,?_,hI.aps,hI.sh,hI.rs,fun nm=>?_,fun c=>?_,hI.shelf,hI.robot⟩
   ·exact Bool.eq_false_iff.2 (List.any_eq_false.1 h1 y hy)
   ·show m.site.Zones++[z]=_;rw [hI.zs,QU hz]
   ·show (lk (upd m.names z.Name _) nm).isSome=_
    rw [Gu,QU hz,List.any_append]
    by_cases e:z.Name=nm
    ·rw [if_pos e];simp [Zm.2 e]
    ·rw [if_neg e,hI.names]
     have:seq z.Name nm=false:=by rw [Bool.eq_false_iff];exact fun h=>e (Zm.1 h)
     simp [this]
   ·show (lk zm c).getD false=_
    rw [hzm c,QU hz,Q4j]
theorem Q5y {α:Type} (l:List α) (p q:α→Bool):(l.any fun x=>p x||q x)=(l.any p||l.any q):=by
 induction l with
 | nil=>rfl
 | cons x l ih=>simp only [List.any_cons,ih];cases p x <;> cases q x <;> simp
theorem Wq {l:List Q5} (hm:l.length≤maxLen) {v:Q5} {post:Bool→Prop} (hp:post (l.any fun x=>seq x.A v.A&&seq x.B v.B)):Qm l v post:=by
 unfold Qm QL
 have e:(fun x:Q5=>seq v.A x.A&&(seq v.B x.B&&true))=fun x=>seq x.A v.A&&seq x.B v.B:=by
  funext x
  have c:∀a b,seq a b=seq b a:=fun a b=>by rw [Bool.eq_iff_iff,Zm,Zm];exact eq_comm
  rw [Bool.and_true,c v.A,c v.B]
 refine Q5U hm (p:=fun x:Q5=>seq v.A x.A&&(seq v.B x.B&&true)) ?_
 rw [YK,e];exact hp
theorem Yi {l:List Q5} (hm:l.length≤maxLen) {a b:ByteArray} {post:Bool→Prop} (hp:post (apB l a b)):X7 l a b post:=by
 unfold X7
 refine Jor2 (Ite.mk (fun h=>?_) (fun h=>?_))
 ·have:apB l a b=false:=by
   unfold apB nosh
   cases h1:seq a ByteArray.empty <;> simp_all
  rw [this] at hp;exact hp
 ·have e:apB l a b=((l.any fun x=>seq x.A a&&seq x.B b)||(l.any fun x=>seq x.A b&&seq x.B a)):=by
   simp only [Bool.or_eq_false_iff] at h
   have h1:nosh a=false:=h.1
   have h2:nosh b=false:=h.2
   unfold apB
   rw [h1,h2]
   simp only [Bool.not_false,Bool.true_and]
   exact Q5y l _ _
  refine Jn.mk' (Wq hm (Ite.mk (fun h1=>?_) (fun h1=>Wq hm ?_)))
  ·rw [e,h1] at hp;exact hp
  ·rw [e,h1] at hp;exact hp
theorem Zd {s:ApiSite} (k:OkApiSite s) (hf:s.Aparts.length≤1000000) {nz n:Nat} {m:SurveyMaker} (hI:MInv s nz n 0 0 m) {x:Q5} (hx:s.Aparts[n]?=some x) {post:Int×SurveyMaker→Prop} (hE:∀e,e≠0→post (e,m))
  (hT:1≤x.A.size∧1≤x.B.size∧apB (s.Aparts.take n) x.A x.B=false→nmB x.A=true∧nmB x.B=true→∀m',MInv s nz (n+1) 0 0 m'→post (0,m')):QR x m post:=by
 have kx:=k.Aparts.2 x (List.mem_of_getElem? hx)
 have hn:=(List.getElem?_eq_some_iff.1 hx).1
 have hm:(s.Aparts.take n).length≤maxLen:=Nat.le_trans (by simp;omega) k.Aparts.1
 unfold QR
 refine Jn.mk (fun b=>b=false→(1≤x.A.size∧1≤x.B.size)∧nmB x.A=true∧nmB x.B=true) (Wi kx.A (Ite.f rfl (fun h=>by cases h)) (fun a1 a2 a3=>Ite.t rfl (Wi kx.B (fun h=>by cases h) (fun b1 b2 b3 _=>⟨⟨a1,b1⟩,a3,b3⟩)))) (fun b hb=>Ite.mk (fun _=>hE 12 (by decide)) (fun hb'=>?_))
 obtain⟨⟨a1,b1⟩,hnm⟩:=hb hb'
 rw [hI.aps]
 refine Yi hm (Ite.mk (fun _=>hE 5 (by decide)) (fun h=>⟨by simp;omega,hT ⟨a1,b1,h⟩ hnm _ ⟨hI.fl,hI.zs,?_,hI.sh,hI.rs,hI.names,hI.zoned,hI.shelf,hI.robot⟩⟩))
 show s.Aparts.take n++[x]=_;rw [QU hx]
theorem Q3C (l:List Qu) (x:Qu) (c:Int):shAt (l++[x]) c=if 0≤shAt l c then shAt l c else if x.Cell=c then l.length else -1:=by
 unfold shAt
 rcases XP (fun y:Qu=>y.Cell == c) l with ⟨i,y,hy,e,hp,hb⟩ | ⟨e,hb⟩
 ·rw [e,if_pos (by omega)]
  have hlt:=(List.getElem?_eq_some_iff.1 hy).1
  rcases XP (fun y:Qu=>y.Cell == c) (l++[x]) with ⟨i',y',hy',e',hp',hb'⟩ | ⟨e',hb'⟩
  ·rw [e']
   have h1:¬i<i':=fun h=>by
    have:=hb' i y h (by rw [List.getElem?_append_left hlt];exact hy);rw [hp] at this;cases this
   have h2:¬i'<i:=fun h=>by
    have:=hb i' y' h (by rw [List.getElem?_append_left (by omega)] at hy';exact hy');rw [hp'] at this;cases this
   omega
  ·have:=hb' y (List.mem_append_left _ (List.mem_of_getElem? hy));rw [hp] at this;cases this
 ·rw [e,if_neg (by omega)]
  by_cases hc:x.Cell=c
  ·rw [if_pos hc]
   rcases XP (fun y:Qu=>y.Cell == c) (l++[x]) with ⟨i',y',hy',e',hp',hb'⟩ | ⟨e',hb'⟩
   ·rw [e']
    have:i'=l.length:=by
     rcases Nat.lt_or_ge i' l.length with h | h
     ·rw [List.getElem?_append_left h] at hy'
      have:=hb y' (List.mem_of_getElem? hy');rw [hp'] at this;cases this
     ·have:=(List.getElem?_eq_some_iff.1 hy').1;simp at this;omega
    rw [this]
   ·have:=hb' x (by simp);simp [hc] at this
  ·rw [if_neg hc]
   rcases XP (fun y:Qu=>y.Cell == c) (l++[x]) with ⟨i',y',hy',e',hp',hb'⟩ | ⟨e',hb'⟩
   ·rcases List.mem_append.1 (List.mem_of_getElem? hy') with h | h
    ·have:=hb y' h;rw [hp'] at this;cases this
    ·simp at h;subst h;simp [hc] at hp'
   ·exact e'
theorem Z4 {s:ApiSite} (k:OkApiSite s) (hs:s.Shelves.length≤1000000) {nz na n:Nat} {m:SurveyMaker} (hI:MInv s nz na n 0 m) {x:Qu} (hx:s.Shelves[n]?=some x) {post:Int×SurveyMaker→Prop} (hE:∀e,e≠0→post (e,m))
  (hT:n<3000→isC s.Floor x.Cell=true∧Zl (kd s.Floor x.Cell)=true∧shAt (s.Shelves.take n) x.Cell<0→(seq x.Class ByteArray.empty||nmB x.Class)=true→∀m',MInv s nz na (n+1) 0 m'→post (0,m')):QT x m post:=by
 have kx:=k.Shelves.2 x (List.mem_of_getElem? hx)
 have hn:=(List.getElem?_eq_some_iff.1 hx).1
 have hlen:m.site.Shelves.length=n:=by rw [hI.sh];simp;omega
 unfold QT
 refine Jn.mk (fun b=>b=!(seq x.Class ByteArray.empty||nmB x.Class)) (Ite.mk (fun h=>by rw [h];rfl) (fun h=>Yo kx.Class (by rw [h];rfl))) (fun b hb=>Ite.mk (fun _=>hE 12 (by decide)) (fun hb'=>XH ?_))
 have hnm:(seq x.Class ByteArray.empty||nmB x.Class)=true:=by rw [hb'] at hb;have:=hb.symm;rwa [Bool.not_eq_false'] at this
 rw [hI.fl]
 by_cases hc:isC s.Floor x.Cell=true
 ·rw [if_pos hc]
  refine Ite.f rfl (WA (Ite.mk (fun _=>hE 13 (by decide)) (fun h1=>Ite.mk (fun _=>hE 5 (by decide)) (fun h2=>Ite.mk (fun _=>hE 6 (by decide)) (fun h3=>?_)))))
  rw [hlen] at h3 ⊢
  rw [hI.shelf] at h2
  have h2':shAt (s.Shelves.take n) x.Cell<0:=by
   by_cases h:0≤shAt (s.Shelves.take n) x.Cell
   ·rw [if_pos h] at h2;cases h2
   ·omega
  simp at h1 h3
  refine⟨by simp;omega,hT (by omega) ⟨hc,h1,h2'⟩ hnm _ ⟨rfl,hI.zs,hI.aps,?_,hI.rs,hI.names,hI.zoned,fun c=>?_,hI.robot⟩⟩
  ·show m.site.Shelves++[x]=_;rw [hI.sh,QU hx]
  ·show lk (upd m.shelf x.Cell (n:Int)) c=_
   rw [Gu,QU hx,Q3C]
   have hl:(s.Shelves.take n).length=n:=by simp;omega
   by_cases e:x.Cell=c
   ·subst e
    have e0:¬0≤shAt (s.Shelves.take n) x.Cell:=by omega
    simp only [if_neg e0,if_true,hl]
    rw [if_pos (by omega)]
   ·rw [if_neg e,if_neg e,hI.shelf c]
    by_cases h:0≤shAt (s.Shelves.take n) c
    ·rw [if_pos h,if_pos h,if_pos h]
    ·rw [if_neg h,if_neg h,if_neg (by omega)]
 ·rw [if_neg hc];exact Ite.t rfl (hE 3 (by decide))
theorem Q3U (l:List QF) (x:QF) (c:Int):rbAt (l++[x]) c=(rbAt l c||x.Cell == c):=by simp [rbAt]
theorem Z3 {s:ApiSite} (k:OkApiSite s) (hs:s.Robots.length≤1000000) {nz na ns n:Nat} {m:SurveyMaker} (hI:MInv s nz na ns n m) {x:QF} (hx:s.Robots[n]?=some x) {post:Int×SurveyMaker→Prop} (hE:∀e,e≠0→post (e,m))
  (hT:n<200→isC s.Floor x.Cell=true∧0≤x.Charge∧x.Charge≤1000000∧kd s.Floor x.Cell≠0∧rbAt (s.Robots.take n) x.Cell=false→∀m',MInv s nz na ns (n+1) m'→post (0,m')):QS x m post:=by
 have hn:=(List.getElem?_eq_some_iff.1 hx).1
 have hlen:m.site.Robots.length=n:=by rw [hI.rs];simp;omega
 unfold QS
 refine XH ?_
 rw [hI.fl]
 by_cases hc:isC s.Floor x.Cell=true
 ·rw [if_pos hc]
  refine Jn.mk (fun b=>b=false→0≤x.Charge∧x.Charge≤1000000) (Ite.t rfl (WB (fun h=>by simp at h;omega))) (fun b hb=>Ite.mk (fun _=>hE 3 (by decide)) (fun hb'=>Ite.mk (fun _=>hE 13 (by decide)) (fun h1=>Ite.mk (fun _=>hE 5 (by decide)) (fun h2=>Ite.mk (fun _=>hE 6 (by decide)) (fun h3=>?_)))))
  rw [hlen] at h3 ⊢
  rw [hI.robot] at h2
  simp at h1 h3
  refine⟨by simp;omega,hT (by omega) ⟨hc,(hb hb').1,(hb hb').2,h1,h2⟩ _ ⟨rfl,hI.zs,hI.aps,hI.sh,?_,hI.names,hI.zoned,hI.shelf,fun c=>?_⟩⟩
  ·show m.site.Robots++[x]=_;rw [hI.rs,QU hx]
  ·show (lk (upd m.robot x.Cell true) c).getD false=_
   rw [Gu,QU hx,Q3U]
   by_cases e:x.Cell=c
   ·rw [if_pos e];simp [e]
   ·rw [if_neg e,hI.robot];simp [e]
 ·rw [if_neg hc]
  exact Jn.mk (fun b=>b=true) (Ite.f rfl rfl) (fun b hb=>Ite.t hb (hE 3 (by decide)))
end Go.Taq
/- The mathematics, part NB: survey.Right. -/
set_option linter.unusedVariables false
namespace Go.Taq
open Go
abbrev MAll (s:ApiSite) (m:SurveyMaker):Prop:=MInv s s.Zones.length s.Aparts.length s.Shelves.length s.Robots.length m
section
variable {s:ApiSite} {m:SurveyMaker}
theorem MInv.zs' (h:MAll s m):m.site.Zones=s.Zones:=by rw [h.zs,List.take_length]
theorem MInv.as' (h:MAll s m):m.site.Aparts=s.Aparts:=by rw [h.aps,List.take_length]
theorem MInv.sh' (h:MAll s m):m.site.Shelves=s.Shelves:=by rw [h.sh,List.take_length]
theorem MInv.shelf' (h:MAll s m) (c:Int):lk m.shelf c=if 0≤shAt s.Shelves c then some (shAt s.Shelves c) else none:=by
 have:=h.shelf c;rwa [List.take_length] at this
theorem Q4K {l:List Qu} {f:ApiFloor} (hc:∀x,x∈l→isC f x.Cell=true) {c:Int} (h:0≤shAt l c):0≤c:=by
 unfold shAt at h
 rcases XP (fun y:Qu=>y.Cell == c) l with ⟨i,y,hy,e,hp,_⟩ | ⟨e,_⟩
 ·have:=(K0.1 (hc y (List.mem_of_getElem? hy))).1
  rw [←eq_of_beq hp];exact this
 ·rw [e] at h;omega
theorem ZI (k:OkApiSite s) (hf:RF s.Floor) (h:MAll s m) (hc:∀x,x∈s.Shelves→isC s.Floor x.Cell=true) {post:Int→Prop} (hF:∀i:Nat,i<s.Shelves.length→(∃d:Int,0≤d∧d<4∧Q0L s i d)→post (i:Int))
  (hT:(∀(i:Nat) (d:Int),0≤d→d<4→¬Q0L s i d)→post (-1)):K6 m post:=by
 unfold K6
 rw [h.sh',h.fl,h.as']
 refine Jn.mk (fun _=>∀(i:Nat) (d:Int),i<s.Shelves.length→0≤d→d<4→¬Q0L s i d)
  (Z8 (xs:=s.Shelves) k.Shelves.1 (fun t=>t) (fun n _=>∀(i:Nat) (d:Int),i<n→0≤d→d<4→¬Q0L s i d) rfl (fun i d h=>by omega) (fun n x t hx ht hall=>?_) (fun t h=>h)) (fun _ h=>hT (fun i d h0 h1 hb=>?_))
 ·have hn:=(List.getElem?_eq_some_iff.1 hx).1
  have hxc:=hc x (List.mem_of_getElem? hx)
  refine Jn.mk (fun _=>∀d:Int,0≤d→d<4→¬Q0L s n d) ⟨x,by rw [ht];exact QG rfl hx,Q0y hf hxc ?_⟩ (fun _ hd=>⟨by rw [ht],fun i d hi h0 h1=>?_⟩)
  ·have hb:=p_bd hf hxc
   have w:=hf.W4;have hh:=hf.H4;have hd:=hf.D4
   dsimp only
   rw [QH (x:=pX s.Floor x.Cell+1) (by omega) (by omega),QH (x:=pY s.Floor x.Cell+1) (by omega) (by omega),QH (x:=pX s.Floor x.Cell-1) (by omega) (by omega),QH (x:=pY s.Floor x.Cell-1) (by omega) (by omega)]
   refine XZ hf (XZ hf (XZ hf (XZ hf ?_)))
   have n0:G9 s.Floor (pX s.Floor x.Cell+1) (pY s.Floor x.Cell) (pZ s.Floor x.Cell)=nbr s.Floor x.Cell 0:=by simp [nbr,hxc]
   have n1:G9 s.Floor (pX s.Floor x.Cell) (pY s.Floor x.Cell+1) (pZ s.Floor x.Cell)=nbr s.Floor x.Cell 1:=by simp [nbr,hxc]
   have n2:G9 s.Floor (pX s.Floor x.Cell-1) (pY s.Floor x.Cell) (pZ s.Floor x.Cell)=nbr s.Floor x.Cell 2:=by simp [nbr,hxc]
   have n3:G9 s.Floor (pX s.Floor x.Cell) (pY s.Floor x.Cell-1) (pZ s.Floor x.Cell)=nbr s.Floor x.Cell 3:=by simp [nbr,hxc]
   rw [n0,n1,n2,n3]
   have hl:∀(i:Nat) (c:Int),[nbr s.Floor x.Cell 0,nbr s.Floor x.Cell 1,nbr s.Floor x.Cell 2,nbr s.Floor x.Cell 3][i]?=some c→c=nbr s.Floor x.Cell (i:Int)∧i<4:=fun i c hi=>by
    match i,hi with
    | 0,hi=>simp at hi;exact⟨hi.symm,by omega⟩
    | 1,hi=>simp at hi;exact⟨hi.symm,by omega⟩
    | 2,hi=>simp at hi;exact⟨hi.symm,by omega⟩
    | 3,hi=>simp at hi;exact⟨hi.symm,by omega⟩
   refine Jn.mk (fun _=>∀d:Int,0≤d→d<4→¬Q0L s n d)
    (Kq (xs:=[nbr s.Floor x.Cell 0,nbr s.Floor x.Cell 1,nbr s.Floor x.Cell 2,nbr s.Floor x.Cell 3]) (by simp [maxLen]) (fun t=>t) (fun q _=>∀d:Int,0≤d→d<q→¬Q0L s n d) rfl (fun d h0 h1=>by omega) (fun q c t' hq ht' hqa=>?_) (fun t' h' d h0 h1=>h' d h0 (by simpa using h1))) (fun _ h'=>h')
   obtain⟨rfl,hq4⟩:=hl q c hq
   rw [h.shelf']
   refine Jn.mk (fun b=>b=true↔Q0L s n q) ?_ (fun b hb'=>Ite.mk (fun hbt=>by rw [ht];exact hF n hn ⟨q,by omega,by omega,hb'.1 hbt⟩) (fun hb''=>⟨by rw [ht'],fun d h0 h1=>?_⟩))
   ·by_cases h1:0≤shAt s.Shelves (nbr s.Floor x.Cell q)
    ·rw [if_pos h1]
     refine Ite.t rfl (Ite.mk (fun h2=>?_) (fun h2=>⟨fun h=>(by cases h),?_⟩))
     ·simp at h2
      have hlt:(shAt s.Shelves (nbr s.Floor x.Cell q)).toNat<s.Shelves.length:=by omega
      have hy:s.Shelves[(shAt s.Shelves (nbr s.Floor x.Cell q)).toNat]?=some (s.Shelves[(shAt s.Shelves (nbr s.Floor x.Cell q)).toNat]'hlt):=List.getElem?_eq_getElem _
      refine⟨_,QG (n:=(shAt s.Shelves (nbr s.Floor x.Cell q)).toNat) (by simp;omega) hy,Yi k.Aparts.1 ⟨fun h3=>⟨x,_,hx,?_,h1,by omega,QG (n:=(shAt s.Shelves (nbr s.Floor x.Cell q)).toNat) (by omega) hy,h3⟩,?_⟩⟩
      ·exact Q4K hc h1
      rintro⟨x',y',hx',_,_,_,h5,h6⟩
      rw [hx] at hx';cases hx'
      rw [QG (n:=(shAt s.Shelves (nbr s.Floor x.Cell q)).toNat) (by omega) hy] at h5;cases h5
      exact h6
     ·simp at h2
      rintro⟨x',y',hx',_,_,h5,_⟩
      rw [hx] at hx';cases hx';exfalso;omega
    ·rw [if_neg h1]
     refine Ite.f rfl ⟨fun h=>(by cases h),?_⟩
     rintro⟨x',y',hx',_,h5,_⟩
     rw [hx] at hx';cases hx';exfalso;omega
   ·by_cases e:d=q
    ·subst e;exact fun hbb=>by rw [hb'.2 hbb] at hb'';cases hb''
    ·exact hqa d h0 (by omega)
  ·by_cases e:i=n
   ·subst e;exact hd d h0 h1
   ·exact hall i d (by omega) h0 h1
 ·obtain⟨x,y,hx,_⟩:=id hb
  exact h i d (List.getElem?_eq_some_iff.1 hx).1 h0 h1 hb
theorem Q21 {p:Int→Bool} {l:List Int} {i:Nat} {c:Int} (h:l[i]?=some c):(l.take (i+1)).countP p=(l.take i).countP p+if p c=true then 1 else 0:=by
 rw [QU h,List.countP_append,List.countP_singleton]
theorem Z5 (k:OkApiSite s) (h:MAll s m) {z:Qt} (hz:z.Cells.length≤maxLen) (hc:∀c,c∈z.Cells→isC s.Floor c=true) {post:Bool→Prop} (hp:post (decide ((z.Cells.countP (WQ s):Nat)<z.Keep))):QQ z m post:=by
 unfold QQ
 refine Jn.mk (fun n=>n=((z.Cells.countP (WQ s):Nat):Int)) (Kq hz (fun t:Int×Int=>t.2) (fun i (t:Int×Int)=>t.1=(((z.Cells.take i).countP (WQ s):Nat):Int)) rfl rfl (fun i c t hcx ht hI=>?_) (fun t h=>by rw [h,List.take_length])) (fun n hn=>by rw [hn];exact hp)
 have hcc:=hc c (List.mem_of_getElem? hcx)
 have hle:=List.countP_le_length (p:=WQ s) (l:=z.Cells.take i)
 have hle2:(z.Cells.take i).length≤i:=by simp;omega
 have hi:=(List.getElem?_eq_some_iff.1 hcx).1
 rw [h.shelf',h.fl]
 refine Jn.mk (fun b=>b=WQ s c) ?_ (fun b hb=>Jn.mk (fun n=>n=(((z.Cells.take (i+1)).countP (WQ s):Nat):Int)) ?_ (fun n hn=>⟨by rw [ht],hn⟩))
 ·by_cases h1:0≤shAt s.Shelves c
  ·rw [if_pos h1];exact Ite.t rfl (by simp [WQ];omega)
  ·rw [if_neg h1]
   exact Ite.f rfl ⟨_,Wp hcc,WA (by simp [WQ];omega)⟩
 ·rw [Q21 hcx]
  subst hb
  refine Ite.mk (fun h=>?_) (fun h=>?_)
  ·rw [hI,h,QH (by omega) (by unfold maxLen at hz;omega)];simp
  ·rw [hI,h];simp
abbrev T17 (α:Type):=Int×Int×Int×List Int×List Int×List Qt×List Q5×List Qu×List QF×List (Int×Int)×List (Int×Bool)×List (Int×Bool)×List (ByteArray×Int)×List (Int×Bool)×List Int×List Int×α
def ofT {α:Type} (t:T17 α):SurveyMaker:={site:={Floor:={W:=t.1,H:=t.2.1,D:=t.2.2.1,Kind:=t.2.2.2.1,Out:=t.2.2.2.2.1},Zones:=t.2.2.2.2.2.1,Aparts:=t.2.2.2.2.2.2.1,Shelves:=t.2.2.2.2.2.2.2.1,Robots:=t.2.2.2.2.2.2.2.2.1},shelf:=t.2.2.2.2.2.2.2.2.2.1,robot:=t.2.2.2.2.2.2.2.2.2.2.1,zoned:=t.2.2.2.2.2.2.2.2.2.2.2.1,names:=t.2.2.2.2.2.2.2.2.2.2.2.2.1,oneways:=t.2.2.2.2.2.2.2.2.2.2.2.2.2.1,shelves:=t.2.2.2.2.2.2.2.2.2.2.2.2.2.2.1,zones:=t.2.2.2.2.2.2.2.2.2.2.2.2.2.2.2.1}
abbrev T16:=Int×Int×Int×List Int×List Int×List Qt×List Q5×List Qu×List QF×List (Int×Int)×List (Int×Bool)×List (Int×Bool)×List (ByteArray×Int)×List (Int×Bool)×List Int×List Int
def of16 (t:T16):SurveyMaker:={site:={Floor:={W:=t.1,H:=t.2.1,D:=t.2.2.1,Kind:=t.2.2.2.1,Out:=t.2.2.2.2.1},Zones:=t.2.2.2.2.2.1,Aparts:=t.2.2.2.2.2.2.1,Shelves:=t.2.2.2.2.2.2.2.1,Robots:=t.2.2.2.2.2.2.2.2.1},shelf:=t.2.2.2.2.2.2.2.2.2.1,robot:=t.2.2.2.2.2.2.2.2.2.2.1,zoned:=t.2.2.2.2.2.2.2.2.2.2.2.1,names:=t.2.2.2.2.2.2.2.2.2.2.2.2.1,oneways:=t.2.2.2.2.2.2.2.2.2.2.2.2.2.1,shelves:=t.2.2.2.2.2.2.2.2.2.2.2.2.2.2.1,zones:=t.2.2.2.2.2.2.2.2.2.2.2.2.2.2.2}
def lst {α:Type} (t:T17 α):α:=t.2.2.2.2.2.2.2.2.2.2.2.2.2.2.2.2
end
structure Q5v (s:ApiSite):Prop where
 zn:∀(i:Nat) z,s.Zones[i]?=some z→nmB z.Name=true
 an:∀(i:Nat) x,s.Aparts[i]?=some x→nmB x.A=true∧nmB x.B=true
 sn:∀(i:Nat) x,s.Shelves[i]?=some x→(seq x.Class ByteArray.empty||nmB x.Class)=true
theorem Q02 {s:ApiSite} (k:OkApiSite s) {cells most:Int} (hfew:FewS s cells most) (hm:most≤1000000) {post:Bool→Prop} (hF:post false) (hT:ZO s→Q5v s→post true):X5 s post:=by
 have f2:=hfew.aparts;have f3:=hfew.shelves;have f4:=hfew.robots
 unfold X5
 refine Q13 (Ite.t rfl hF) (fun hf=>Ite.f rfl ?_)
 unfold Xq
 refine Jn.mk (fun t:T16=>MInv s s.Zones.length 0 0 0 (of16 t)∧s.Zones.length≤64∧∀(i:Nat) z,s.Zones[i]?=some z→Q22 s (s.Zones.take i) z∧nmB z.Name=true)
  (Kq k.Zones.1 (fun t:T17 Int=>lst t) (fun n (t:T17 Int)=>MInv s n 0 0 0 (ofT t)∧n≤64∧∀(i:Nat) z,i<n→s.Zones[i]?=some z→Q22 s (s.Zones.take i) z∧nmB z.Name=true) rfl ⟨⟨rfl,rfl,rfl,rfl,rfl,fun n=>rfl,fun c=>rfl,fun c=>rfl,fun c=>rfl⟩,by omega,fun i z h=>by omega⟩ (fun n z t hz ht hI=>?_) (fun t h=>⟨h.1,h.2.1,fun i z hz=>h.2.2 i z (List.getElem?_eq_some_iff.1 hz).1 hz⟩)) (fun t1 hI1=>?_)
 ·have kz:=k.Zones.2 z (List.mem_of_getElem? hz)
  refine Jn.mk (fun x:T17 Bool=>lst x=false→MInv s (n+1) 0 0 0 (ofT x)∧n<64∧Q22 s (s.Zones.take n) z∧nmB z.Name=true)
   (Wi kz.Name (Ite.f rfl (fun h=>by cases h)) (fun n1 n2 n3=>Ite.t rfl (WB (Ite.mk (fun h1=>Ite.mk (fun _ h=>by cases h) (fun h2=>Q0N kz.Shut.1 (Ite.f rfl (fun h=>by cases h)) (fun h3=>Ite.t rfl
    (Q07 (m:=ofT t) kz.Cells.1 (Ite.f rfl (fun h=>by cases h)) (fun c1 c2 c3=>Ite.t rfl (Zs (m:=ofT t) k hI.1 hz (fun e he h=>?_) (fun a1 a2 a3 m' hm' _=>⟨hm',a1,?_⟩))))))) (fun _ h=>by cases h))))) (fun x hx=>Ite.mk (fun _=>hF) (fun hx'=>⟨by show w64 (lst t+1)=_;rw [show lst t=(n:Int) from ht],(hx hx').1,(hx hx').2.1,fun i z' hi hz'=>?_⟩))
  ·exfalso;have:(e != 0)=false:=h;simp at this;exact he this
  ·simp at h1 h2
   exact⟨⟨⟨n1,n2⟩,a2,c1,h1,h2,h3,a3,c3⟩,n3⟩
  ·by_cases e:i=n
   ·subst e;rw [hz] at hz';cases hz';exact (hx hx').2.2
   ·exact hI.2.2 i z' (by omega) hz'
 obtain⟨hI1,hz64,hzone⟩:=hI1
 refine Jn.mk (fun t:T16=>MInv s s.Zones.length s.Aparts.length 0 0 (of16 t)∧∀(i:Nat) x,s.Aparts[i]?=some x→(1≤x.A.size∧1≤x.B.size∧apB (s.Aparts.take i) x.A x.B=false)∧nmB x.A=true∧nmB x.B=true)
  (Kq k.Aparts.1 (fun t:T17 Int=>lst t) (fun n (t:T17 Int)=>MInv s s.Zones.length n 0 0 (ofT t)∧∀(i:Nat) x,i<n→s.Aparts[i]?=some x→(1≤x.A.size∧1≤x.B.size∧apB (s.Aparts.take i) x.A x.B=false)∧nmB x.A=true∧nmB x.B=true) rfl (by exact⟨hI1,fun i z h=>by omega⟩) (fun n x t hx ht hI=>?_) (fun t h=>⟨h.1,fun i z hz=>h.2 i z (List.getElem?_eq_some_iff.1 hz).1 hz⟩)) (fun t2 hI2=>?_)
 ·refine Zd (m:=ofT t) k (by omega) hI.1 hx (fun e he=>Ite.t (by simpa using he) hF) (fun a nm m' hm'=>Ite.f rfl ⟨by show w64 (lst t+1)=_;rw [show lst t=(n:Int) from ht],hm',fun i x' hi hx'=>?_⟩)
  by_cases e:i=n
  ·subst e;rw [hx] at hx';cases hx';exact⟨a,nm⟩
  ·exact hI.2 i x' (by omega) hx'
 obtain⟨hI2,hap⟩:=hI2
 refine Jn.mk (fun t:T16=>MInv s s.Zones.length s.Aparts.length s.Shelves.length 0 (of16 t)∧s.Shelves.length≤3000∧∀(i:Nat) x,s.Shelves[i]?=some x→(isC s.Floor x.Cell=true∧Zl (kd s.Floor x.Cell)=true∧shAt (s.Shelves.take i) x.Cell<0)∧(seq x.Class ByteArray.empty||nmB x.Class)=true)
  (Kq k.Shelves.1 (fun t:T17 Int=>lst t) (fun n (t:T17 Int)=>MInv s s.Zones.length s.Aparts.length n 0 (ofT t)∧n≤3000∧∀(i:Nat) x,i<n→s.Shelves[i]?=some x→(isC s.Floor x.Cell=true∧Zl (kd s.Floor x.Cell)=true∧shAt (s.Shelves.take i) x.Cell<0)∧(seq x.Class ByteArray.empty||nmB x.Class)=true) rfl (by exact⟨hI2,by omega,fun i z h=>by omega⟩) (fun n x t hx ht hI=>?_) (fun t h=>⟨h.1,h.2.1,fun i z hz=>h.2.2 i z (List.getElem?_eq_some_iff.1 hz).1 hz⟩)) (fun t3 hI3=>?_)
 ·refine Z4 (m:=ofT t) k (by omega) hI.1 hx (fun e he=>Ite.t (by simpa using he) hF) (fun l a nm m' hm'=>Ite.f rfl ⟨by show w64 (lst t+1)=_;rw [show lst t=(n:Int) from ht],hm',by omega,fun i x' hi hx'=>?_⟩)
  by_cases e:i=n
  ·subst e;rw [hx] at hx';cases hx';exact⟨a,nm⟩
  ·exact hI.2.2 i x' (by omega) hx'
 obtain⟨hI3,hs3,hsh⟩:=hI3
 refine Jn.mk (fun t:T16=>MAll s (of16 t)∧s.Robots.length≤200∧∀(i:Nat) x,s.Robots[i]?=some x→isC s.Floor x.Cell=true∧0≤x.Charge∧x.Charge≤1000000∧kd s.Floor x.Cell≠0∧rbAt (s.Robots.take i) x.Cell=false)
  (Kq k.Robots.1 (fun t:T17 Int=>lst t) (fun n (t:T17 Int)=>MInv s s.Zones.length s.Aparts.length s.Shelves.length n (ofT t)∧n≤200∧∀(i:Nat) x,i<n→s.Robots[i]?=some x→isC s.Floor x.Cell=true∧0≤x.Charge∧x.Charge≤1000000∧kd s.Floor x.Cell≠0∧rbAt (s.Robots.take i) x.Cell=false) rfl (by exact⟨hI3,by omega,fun i z h=>by omega⟩) (fun n x t hx ht hI=>?_) (fun t h=>⟨h.1,h.2.1,fun i z hz=>h.2.2 i z (List.getElem?_eq_some_iff.1 hz).1 hz⟩)) (fun t4 hI4=>?_)
 ·refine Z3 (m:=ofT t) k (by omega) hI.1 hx (fun e he=>Ite.t (by simpa using he) hF) (fun l a m' hm'=>Ite.f rfl ⟨by show w64 (lst t+1)=_;rw [show lst t=(n:Int) from ht],hm',by omega,fun i x' hi hx'=>?_⟩)
  by_cases e:i=n
  ·subst e;rw [hx] at hx';cases hx';exact a
  ·exact hI.2.2 i x' (by omega) hx'
 obtain⟨hI4,hr2,hrb⟩:=hI4
 refine Jn.mk' (ZI (m:=of16 t4) k hf hI4 (fun x hx=>?_) (fun i hi _=>Ite.f (by simp) hF) (fun hbs=>Ite.t (by decide) ?_))
 ·obtain⟨i,hi⟩:=List.getElem?_of_mem hx
  exact (hsh i x hi).1.1
 ·unfold Ks
  have hzs:(of16 t4).site.Zones=s.Zones:=hI4.zs'
  show Q9 (of16 t4).site.Zones (of16 t4) _
  rw [hzs]
  unfold Q9
  refine Q00 k.Zones.1 (fun z=>decide ((z.Cells.countP (WQ s):Nat)<z.Keep)) (T:=fun z post=>QQ z (of16 t4) post) (fun z hz {q} hq=>Z5 k hI4 (k.Zones.2 z hz).Cells.1 (fun c hc=>?_) hq) (Ite.mk (fun h=>?_) (fun _=>hF))
  ·obtain⟨i,hi⟩:=List.getElem?_of_mem hz
   exact ((hzone i z hi).1.cell c hc).1
  ·unfold Kr
   have hfl:(of16 t4).site.Floor=s.Floor:=hI4.fl
   show Qg (of16 t4).site.Floor.Kind 3 _
   rw [hfl]
   refine Kl k.Floor.Kind.1 ?_
   cases hch:s.Floor.Kind.contains 3
   ·exact hF
   ·refine hT ⟨hf,hz64,fun i z hz=>(hzone i z hz).1,hs3,hr2,fun i x hx=>(hap i x hx).1,fun i x hx=>(hsh i x hx).1,hrb,fun z hz=>?_,hbs,hch⟩ ⟨fun i z hz=>(hzone i z hz).2,fun i x hx=>(hap i x hx).2,fun i x hx=>(hsh i x hx).2⟩
    rcases XP (fun z:Qt=>decide (((z.Cells.countP (WQ s):Nat):Int)<z.Keep)) s.Zones with ⟨i,y,hy,e,_⟩ | ⟨e,hb⟩
    ·exfalso;rw [e] at h;have:=of_decide_eq_true h;omega
    ·have:=hb z hz;simp at this;exact this
theorem Q0f {s:ApiSite} (k:OkApiSite s) {cells most:Int} (hfew:FewS s cells most) (hm:most≤1000000) {post:Bool→Prop} (hF:post false) (hT:ZO s→post true):X5 s post:=Q02 k hfew hm hF (fun h _=>hT h)
end Go.Taq
/- The mathematics, part NC: what may stand where (rules): cells, classes, who is carried, what stands at a cell, rooms. -/
set_option linter.unusedVariables false
set_option linter.unusedSimpArgs false
namespace Go.Taq
open Go
def stB (s:ApiSite) (c:Int):Bool:=isC s.Floor c&&Zl (kd s.Floor c)
def clsS (s:ApiSite) (i:Int):ByteArray:=if 0≤i∧i<s.Shelves.length then (s.Shelves.getD i.toNat default).Class else ByteArray.empty
def nev (s:ApiSite) (a b:ByteArray):Bool:=apB s.Aparts a b
def carr (st:ApiState) (i:Int):Int:=if i<0 then -1 else fidx (fun r:Q0=>r.Load == i) st.Robots
def carB (st:ApiState) (i:Int):Bool:=decide (0≤carr st i)
theorem Q2y {st:ApiState} {i:Int} (h:0≤i):carB st i=st.Robots.any fun r=>r.Load == i:=by
 unfold carB carr
 rw [if_neg (by omega)]
 have:=YK (p:=fun r:Q0=>r.Load == i) (xs:=st.Robots)
 rw [←this]
def optI (x:Int):Option Int:=if 0≤x then some x else none
def atP (st:ApiState) (c:Int) (i:Nat):Bool:=(st.Shelves.getD i 0 == c)&&!carB st i
def atS (st:ApiState) (c:Int):Int:=fnat (atP st c) st.Shelves.length
theorem Q1m {p:Nat→Bool} {a n:Nat} (h:a<n):fnat (fun i=>decide (a≤i)&&p i) n=if p a=true then (a:Int) else fnat (fun i=>decide (a+1≤i)&&p i) n:=by
 by_cases hp:p a=true
 ·rw [if_pos hp]
  exact Q1K h (by simp [hp]) (fun j hj=>by simp;intro h';omega)
 ·rw [if_neg hp]
  have:(fun i=>decide (a≤i)&&p i)=fun i=>decide (a+1≤i)&&p i:=by
   funext i
   by_cases e:i=a
   ·subst e;simp [hp]
   ·have:(a≤i)=(a+1≤i):=by simp;omega
    simp only [this]
  rw [this]
theorem Q3z (p:Nat→Bool) (n:Nat):fnat (fun i=>decide (0≤i)&&p i) n=fnat p n:=by simp
theorem Q3R (p:Nat→Bool) (n:Nat):fnat (fun i=>decide (n≤i)&&p i) n=-1:=Q1x fun i hi=>by simp;intro;omega
section
variable {s:ApiSite} {st:ApiState}
theorem Q0h {c:Int} {post:Bool→Prop} (hp:post (stB s c)):Xt s c post:=by
 unfold Xt Kk
 refine Jn.mk (fun b=>b=stB s c) (Zx (Ite.mk (fun h=>?_) (fun h=>?_))) (fun b hb=>by rw [hb];exact hp)
 ·have hc:isC s.Floor c=true:=h
  refine⟨_,Wp hc,?_⟩
  unfold stB Zl;rw [hc]
  refine Ite.mk (fun h'=>by simp [h']) (fun h'=>by simp [h'])
 ·have hc:isC s.Floor c=false:=h
  unfold stB;rw [hc];rfl
theorem YR {i:Int} {post:ByteArray→Prop} (hp:post (clsS s i)):Xp s i post:=by
 unfold Xp
 refine Jor2 (Ite.mk (fun h=>?_) (fun h=>?_))
 ·unfold clsS at hp;rw [if_neg (by simp at h;omega)] at hp;exact hp
 ·have h':0≤i∧i<s.Shelves.length:=by simp at h;omega
  unfold clsS at hp;rw [if_pos h'] at hp
  refine⟨s.Shelves.getD i.toNat default,?_,hp⟩
  rw [YZ h'.1 h'.2,List.getD_eq_getElem?_getD,List.getElem?_eq_getElem (by omega)];rfl
theorem ZD (k:OkApiSite s) {post:List (Q5×Bool)→Prop} (hp:∀m:List (Q5×Bool),(∀a b,(lk m ⟨a,b⟩).getD false=s.Aparts.any fun x=>(seq x.A a&&seq x.B b)||(seq x.A b&&seq x.B a))→post m):Xk s post:=by
 unfold Xk
 refine Jn.mk (fun m=>∀a b,(lk m ⟨a,b⟩).getD false=s.Aparts.any fun x=>(seq x.A a&&seq x.B b)||(seq x.A b&&seq x.B a))
  (Kq k.Aparts.1 (fun t:List (Q5×Bool)×Int=>t.2) (fun n (t:List (Q5×Bool)×Int)=>∀a b,(lk t.1 ⟨a,b⟩).getD false=(s.Aparts.take n).any fun x=>(seq x.A a&&seq x.B b)||(seq x.A b&&seq x.B a)) rfl (fun a b=>rfl) (fun n x t hx ht hI=>⟨by rw [ht],fun a b=>?_⟩) (fun t h=>by rwa [List.take_length] at h)) (fun m h=>hp m h)
 rw [QU hx,List.any_append,Gu,Gu]
 by_cases e1:(⟨x.B,x.A⟩:Q5)=⟨a,b⟩
 ·rw [if_pos e1]
  simp only [Q5.mk.injEq] at e1
  simp [e1.1,e1.2,Zm.2]
 ·rw [if_neg e1]
  by_cases e2:x=⟨a,b⟩
  ·rw [if_pos e2];subst e2;simp [Zm.2]
  ·rw [if_neg e2,hI]
   have h1:(seq x.A a&&seq x.B b)=false:=by
    rw [Bool.eq_false_iff];intro h;simp only [Bool.and_eq_true,Zm] at h;exact e2 (by cases x;simp at h;simp [h])
   have h2:(seq x.A b&&seq x.B a)=false:=by
    rw [Bool.eq_false_iff];intro h;simp only [Bool.and_eq_true,Zm] at h;exact e1 (by rw [h.1,h.2])
   simp [h1,h2]
theorem Q5f {m:List (Q5×Bool)} (hm:∀a b,(lk m ⟨a,b⟩).getD false=s.Aparts.any fun x=>(seq x.A a&&seq x.B b)||(seq x.A b&&seq x.B a)) {a b:ByteArray} (ha:nosh a=false) (hb:nosh b=false):(lk m ⟨a,b⟩).getD false=nev s a b:=by
 rw [hm];unfold nev apB;rw [ha,hb];rfl
theorem Q1a (k:OkApiSite s) {a b:ByteArray} {post:Bool→Prop} (hp:post (nev s a b)):XL s a b post:=by
 unfold XL
 refine Jn.mk (fun r=>r=nev s a b) (Ite.mk (fun h=>?_) (fun h=>Ite.mk (fun h'=>?_) (fun h'=>ZD k (fun m hm=>Q5f hm h h')))) (fun r hr=>by rw [hr];exact hp)
 ·have:nosh a=true:=h
  unfold nev apB;rw [this];rfl
 ·have:nosh b=true:=h'
  unfold nev apB;rw [this];simp
theorem WC (k:OkApiState st) {i:Int} {post:Int→Prop} (hp:post (carr st i)):KR st i post:=by
 unfold KR
 refine Ite.mk (fun h=>?_) (fun h=>?_)
 ·unfold carr at hp;rw [if_pos (by simpa using h)] at hp;exact hp
 ·unfold carr at hp;rw [if_neg (by simpa using h)] at hp
  unfold Qh
  refine Q00 k.Robots.1 (fun r:Q0=>r.Load == i) (T:=fun r post=>KL r i post) (fun r _ q hq=>?_) hp
  unfold KL;exact hq
theorem Zu (k:OkApiState st) (hl:st.Shelves.length≤1000000) {post:List (Int×Int)→Prop} (hp:∀m:List (Int×Int),(∀c,lk m c=optI (atS st c))→post m):X4 st post:=by
 unfold X4
 refine Jn.mk (fun m=>∀i:Int,(lk m i).getD false=st.Robots.any fun r=>r.Load == i)
  (Kq k.Robots.1 (fun t:List (Int×Bool)×Int=>t.2) (fun n (t:List (Int×Bool)×Int)=>∀i:Int,(lk t.1 i).getD false=(st.Robots.take n).any fun r=>r.Load == i) rfl (fun i=>rfl) (fun n r t hr ht hI=>⟨by rw [ht],fun i=>?_⟩) (fun t h=>by rwa [List.take_length] at h)) (fun cm hcm=>?_)
 ·rw [QU hr,List.any_append,Gu]
  by_cases e:r.Load=i
  ·rw [if_pos e];simp [e]
  ·rw [if_neg e,hI];simp [e]
 unfold K4
 refine⟨by omega,Each.inv (bkw st.Shelves) (fun j m=>∀c,lk m c=optI (fnat (fun i=>decide (st.Shelves.length-j≤i)&&atP st c i) st.Shelves.length)) (fun c=>?_) (fun j x m hx hI Y hY=>?_) (fun m h=>hp m (fun c=>?_))⟩
 ·rw [Nat.sub_zero,Q3R];rfl
 ·have hj:j<st.Shelves.length:=by have:=(List.getElem?_eq_some_iff.1 hx).1;rwa [Q2e] at this
  have hg:=Q30 (xs:=st.Shelves) (m:=st.Shelves.length-(j+1)) (by omega)
  rw [show st.Shelves.length-(st.Shelves.length-(j+1)+1)=j by omega,hx] at hg
  cases hg
  have e1:st.Shelves.length-j=st.Shelves.length-(j+1)+1:=by omega
  have hcar:(lk cm ((st.Shelves.length-(j+1):Nat):Int)).getD false=carB st ((st.Shelves.length-(j+1):Nat):Int):=by rw [hcm,Q2y (by omega)]
  refine Jn.mk' ?_
  dsimp only
  rw [hcar]
  refine Ite.mk (fun h=>hY _ (fun c=>?_)) (fun h=>hY _ (fun c=>?_))
  ·rw [Gu,Q1m (by omega)]
   by_cases e:st.Shelves.getD (st.Shelves.length-(j+1)) 0=c
   ·rw [if_pos e,if_pos (by unfold atP;simp only [Bool.and_eq_true,beq_iff_eq];exact⟨e,h⟩)]
    unfold optI;rw [if_pos (by omega)]
   ·rw [if_neg e,if_neg (by unfold atP;simp only [Bool.and_eq_true,beq_iff_eq];exact fun h=>e h.1),hI,e1]
  ·rw [Q1m (by omega),if_neg (by unfold atP;simp only [Bool.and_eq_true];exact fun h'=>by rw [h] at h';cases h'.2),hI,e1]
 ·rw [h c,Q2e,Nat.sub_self];unfold atS;rw [Q3z]
theorem Q4e (st:ApiState) (c:Int):-1≤atS st c∧atS st c<st.Shelves.length:=by
 rcases Q2H (atP st c) st.Shelves.length with ⟨i,h1,h2,_⟩ | ⟨h,_⟩ <;> unfold atS <;> omega
theorem Q26 (x:Int):(optI x).isSome=decide (0≤x):=by
 unfold optI;by_cases h:0≤x <;> simp [h]
theorem Q0E (k:OkApiState st) (hl:st.Shelves.length≤1000000) {c:Int} {post:Int→Prop} (hp:post (atS st c)):Ge s st c post:=by
 unfold Ge
 refine Zu k hl (fun m hm=>?_)
 have:=Q4e st c
 rw [hm,Q26]
 refine Ite.mk (fun h=>?_) (fun h=>?_)
 ·simp at h;unfold optI;rw [if_pos h];exact hp
 ·simp at h;rw [show (-1:Int)=atS st c by omega];exact hp
end
end Go.Taq
/- The mathematics, part ND: what is near, which shelves disturb each other, dropping (rules). -/
set_option linter.unusedVariables false
set_option linter.unusedSimpArgs false
namespace Go.Taq
open Go
def Q2X (f:ApiFloor) (a b:Int):Bool:=isC f b&&([0,1,2,3]:List Int).any fun d=>nbr f a d == b
theorem Q1y {f:ApiFloor} (h:RF f) {a b:Int} {post:Bool→Prop} (hp:post (Q2X f a b)):G7 f a b post:=by
 unfold G7
 refine Zh h (Ite.mk (fun hb=>?_) (fun hb=>?_))
 ·simp only [Bool.not_eq_true'] at hb
  unfold Q2X at hp;rw [hb] at hp;exact hp
 ·simp only [Bool.not_eq_false'] at hb
  unfold Q2X at hp;rw [hb] at hp
  exact Q4c (xs:=[0,1,2,3]) (by simp [maxLen]) (fun d=>nbr f a d == b) (T:=fun x q=>KB f a x (fun r=>q (r == b))) (fun x _ q hq=>Ys h hq) hp
section
end
end Go.Taq
