/- The mathematics, several parts in one text. -/
import Derived.Test.YtlaehjhkcanffaaGreatGE
/- The mathematics, part GF: the fuel without a cell (chapter 33). -/
set_option linter.unusedVariables false
set_option linter.unusedSimpArgs false
namespace Go.Taq
open Go
theorem Q0x {α:Type} {l:List α} {i:Nat} {x y:α} (h:l[i]?=some x):y∈l.take (i+1)↔y∈l.take i∨y=x:=by
 rw [QE h,List.mem_append];simp
section
end
end Go.Taq
/- The mathematics, part GG: the needs (chapter 33). -/
set_option linter.unusedVariables false
set_option linter.unusedSimpArgs false
namespace Go.Taq
open Go
def IsFu (s:ApiSite) (L:List Int) (c:Nat) (v:Int):Prop:=(v=-1∧∀m,¬WL s L c m)∨(0≤v∧WL s L c v.toNat∧∀m,WL s L c m→v≤m)
theorem Q3b {p:Nat→Prop}:∀n,p n→∃m,p m∧∀k,p k→m≤k:=by
 intro n
 induction n using Nat.strongRecOn with
 | _ n ih=>
  intro hn
  by_cases h:∃m,m<n∧p m
  ·obtain⟨m,h1,h2⟩:=h
   exact ih m h1 h2
  ·exact⟨n,hn,fun k hk=>by
    by_cases hlt:k<n
    ·exact absurd ⟨k,hlt,hk⟩ h
    ·omega⟩
theorem Q30 (s:ApiSite) (L:List Int) (c:Nat):∃v,IsFu s L c v:=by
 by_cases h:∃m,WL s L c m
 ·obtain⟨m,hm⟩:=h
  obtain⟨k,h1,h2⟩:=Q3b (p:=fun m=>WL s L c m) m hm
  exact⟨(k:Int),.inr ⟨by omega,by simpa using h1,fun m hm=>by have:=h2 m hm;omega⟩⟩
 ·exact⟨-1,.inl ⟨rfl,fun m hm=>h ⟨m,hm⟩⟩⟩
noncomputable def fuV (s:ApiSite) (L:List Int) (c:Nat):Int:=Classical.choose (Q30 s L c)
theorem Q4s (s:ApiSite) (L:List Int) (c:Nat):IsFu s L c (fuV s L c):=Classical.choose_spec (Q30 s L c)
theorem IsFu.uniq {s:ApiSite} {L:List Int} {c:Nat} {v w:Int} (h:IsFu s L c v) (h':IsFu s L c w):v=w:=by
 rcases h with ⟨h1,h2⟩ | ⟨h1,h2,h3⟩ <;> rcases h' with ⟨g1,g2⟩ | ⟨g1,g2,g3⟩
 ·omega
 ·exact absurd g2 (h2 _)
 ·exact absurd h2 (g2 _)
 ·have:=h3 _ g2;have:=g3 _ h2;omega
theorem FuL.eq {s:ApiSite} {L f:List Int} (h:FuL s L f) {c:Nat} (hc:c<s.Floor.Kind.length):fu f c=fuV s L c:=by
 refine IsFu.uniq (s:=s) (L:=L) (c:=c) ?_ (Q4s s L c)
 by_cases h0:0≤fu f c
 ·exact .inr ⟨h0,h.sound c hc h0,fun m hm=>(h.least c m hm).2⟩
 ·have:=h.lo c hc
  exact .inl ⟨by omega,fun m hm=>h0 (h.least c m hm).1⟩
noncomputable def nd (s:ApiSite) (L:List Int) (D:Int):Nat→Nat→Int
 | 0,c=>if fuV s L c<0 then -1 else fuV s L c+D*3
 | x+1,c=>if c=x∨(x:Int)∈L then nd s L D x c else if nd s L D x c<0∨fuV s ((x:Int) :: L) c<0 then -1 else imax (nd s L D x c) (fuV s ((x:Int) :: L) c)
section
end
end Go.Taq
/- The mathematics, part GH: tables are checked; the examples of chapter 33; ReachFuel. -/
set_option linter.unusedVariables false
set_option linter.unusedSimpArgs false
namespace Go.Taq
open Go
def okC (s:ApiSite) (L f:List Int) (c:Nat):Bool:=
 decide (-1≤fu f c)&&(if kd s.Floor c=3 then decide (fu f c=0) else
  (List.range 6).all (fun d=>let r:=nx s.Floor c d;!(r.2&&!L.contains r.1&&decide (0≤fu f r.1.toNat))||(decide (0≤fu f c)&&decide (fu f c≤fu f r.1.toNat+prS s d r.1))) &&
  (decide (fu f c<0)||(List.range 6).any (fun d=>let r:=nx s.Floor c d;r.2&&!L.contains r.1&&decide (0≤fu f r.1.toNat)&&decide (fu f c=fu f r.1.toNat+prS s d r.1))))
theorem FuL.chk {s:ApiSite} {L f:List Int} (hf:RF s.Floor) (hs:RS s) (hl:f.length=s.Floor.Kind.length) (h:(List.range s.Floor.Kind.length).all (okC s L f)=true):FuL s L f:=by
 have hc:∀c,c<s.Floor.Kind.length→okC s L f c=true:=fun c hc=>List.all_eq_true.1 h c (List.mem_range.2 hc)
 have hlo:∀c,c<s.Floor.Kind.length→-1≤fu f c:=fun c h=>by
  have:=hc c h
  unfold okC at this
  rw [Bool.and_eq_true] at this
  exact of_decide_eq_true this.1
 have hhome:∀c:Nat,c<s.Floor.Kind.length→kd s.Floor c=3→fu f c=0:=fun c h h3=>by
  have:=hc c h
  unfold okC at this
  rw [if_pos h3,Bool.and_eq_true] at this
  exact of_decide_eq_true this.2
 have hother:∀c:Nat,c<s.Floor.Kind.length→kd s.Floor c≠3→(∀d:Nat,d<6→(nx s.Floor c d).2=true→(nx s.Floor c d).1∉L→0≤fu f (nx s.Floor c d).1.toNat→0≤fu f c∧fu f c≤fu f (nx s.Floor c d).1.toNat+prS s d (nx s.Floor c d).1) ∧
   (0≤fu f c→∃d:Nat,d<6∧(nx s.Floor c d).2=true∧(nx s.Floor c d).1∉L∧0≤fu f (nx s.Floor c d).1.toNat∧fu f c=fu f (nx s.Floor c d).1.toNat+prS s d (nx s.Floor c d).1):=fun c h h3=>by
  have:=hc c h
  unfold okC at this
  rw [if_neg h3,Bool.and_eq_true,Bool.and_eq_true] at this
  obtain⟨_,h1,h2⟩:=this
  refine⟨fun d hd g1 g2 g3=>?_,fun h0=>?_⟩
  ·have:=List.all_eq_true.1 h1 d (List.mem_range.2 hd)
   simp only at this
   rw [g1,decide_eq_true g3] at this
   simpa [g2] using this
  ·rw [Bool.or_eq_true] at h2
   rcases h2 with h2 | h2
   ·have:=of_decide_eq_true h2;omega
   ·obtain⟨d,hd,h2⟩:=List.any_eq_true.1 h2
    simp at h2
    exact⟨d,List.mem_range.1 hd,h2.1.1.1,h2.1.1.2,h2.1.2,h2.2⟩
 refine⟨hl,hlo,?_,?_⟩
 ·have key:∀(k c:Nat),c<s.Floor.Kind.length→(fu f c).toNat=k→0≤fu f c→WL s L c (fu f c).toNat:=by
   intro k
   induction k using Nat.strongRecOn with
   | _ k ih=>
    intro c hcl hk h0
    by_cases h3:kd s.Floor c=3
    ·rw [hhome c hcl h3];exact .home hcl h3
    ·obtain⟨d,hd,g1,g2,g3,g4⟩:=(hother c hcl h3).2 h0
     have hok:=WD hf (c:=(c:Int)) (d:=(d:Int)) g1
     have ht:=Qp.1 hok.2.1
     have hp:=W7 (s:=s) hs (d:=(d:Int)) (by omega) (by omega) hok.2.1
     obtain⟨y,hy⟩:=Int.eq_ofNat_of_zero_le ht.1
     have hnx:nx s.Floor c d=((y:Int),true):=by rw [←hy,←g1]
     rw [hy] at g2 g3 g4 hp ht
     simp only [Int.toNat_natCast] at g3 g4
     have hw:=ih (fu f y).toNat (by omega) y (by omega) rfl g3
     have:=WL.step hcl h3 hd hnx g2 hw
     rw [show (fu f c).toNat=(fu f y).toNat+(prS s d y).toNat by omega];exact this
  exact fun c hcl h0=>key _ c hcl rfl h0
 ·intro c m hm
  induction hm with
  | home hcl h3=>rw [hhome _ hcl h3];omega
  | step hcl h3 hd hn hL hm ih=>
   rename_i c d y m
   have e1:(nx s.Floor c d).1=(y:Int):=by rw [hn]
   have e2:(nx s.Floor c d).2=true:=by rw [hn]
   have hok:=WD hf (c:=(c:Int)) (d:=(d:Int)) e2
   have hp:=W7 (s:=s) hs (d:=(d:Int)) (by omega) (by omega) hok.2.1
   have:=(hother c hcl h3).1 d hd e2 (by rw [e1];exact hL) (by rw [e1];simpa using ih.1)
   rw [e1] at this hp
   simp only [Int.toNat_natCast] at this
   omega
/-! ## the examples -/
/-! ## ReachFuel -/
structure Q5a (s:ApiSite) (L f:List Int) (c i:Nat) (b:Int):Prop where
 is:b=-1∨∃d y:Nat,d<i∧nx s.Floor c d=((y:Int),true)∧(y:Int)∉L∧0≤fu f y∧b=fu f y+prS s d y
 le:∀d y:Nat,d<i→nx s.Floor c d=((y:Int),true)→(y:Int)∉L→0≤fu f y→0≤b∧b≤fu f y+prS s d y
theorem FuL.best {s:ApiSite} {L f:List Int} (hf:RF s.Floor) (hs:RS s) (h:FuL s L f) {c:Nat} (hc:c<s.Floor.Kind.length) (h3:kd s.Floor c≠3) {b:Int} (hb:Q5a s L f c 6 b):fu f c=b:=by
 have hlo:=h.lo c hc
 have up:∀d y:Nat,d<6→nx s.Floor c d=((y:Int),true)→(y:Int)∉L→0≤fu f y→0≤fu f c∧fu f c≤fu f y+prS s d y:=fun d y hd hn hL h0=>by
  have hok:=WD hf (c:=(c:Int)) (d:=(d:Int)) (by rw [hn])
  rw [hn] at hok
  have ht:=Qp.1 hok.2.1
  have hp:=W7 (s:=s) hs (d:=(d:Int)) (by omega) (by omega) hok.2.1
  have:=h.least c _ (.step hc h3 hd hn hL (h.sound y (by omega) h0))
  have hp1:1≤prS s (d:Int) (y:Int):=hp.1
  omega
 by_cases h0:0≤fu f c
 ·have hw:=h.sound c hc h0
  generalize hm:(fu f c).toNat=m at hw
  cases hw with
  | home _ hh=>exact absurd hh h3
  | step hcl hnh hd hn hL hw=>
   rename_i d y m
   have h1:=h.least y _ hw
   have h2:=hb.le d y hd hn hL h1.1
   have hok:=WD hf (c:=(c:Int)) (d:=(d:Int)) (by rw [hn])
   rw [hn] at hok
   have hp:=(W7 (s:=s) hs (d:=(d:Int)) (by omega) (by omega) hok.2.1).1
   have hp1:1≤prS s (d:Int) (y:Int):=hp
   rcases hb.is with e | ⟨d',y',hd',hn',hL',h0',e⟩
   ·omega
   ·have:=up d' y' hd' hn' hL' h0'
    omega
 ·rcases hb.is with e | ⟨d',y',hd',hn',hL',h0',e⟩
  ·omega
  ·have:=up d' y' hd' hn' hL' h0'
   omega
theorem FuL.zero {s:ApiSite} {L f:List Int} (hf:RF s.Floor) (hs:RS s) (h:FuL s L f) {c:Nat} (hc:c<s.Floor.Kind.length):fu f c=0↔kd s.Floor c=3:=by
 constructor
 ·intro e
  have hw:=h.sound c hc (by omega)
  rw [e] at hw
  generalize hm:Int.toNat 0=m at hw
  cases hw with
  | home _ hh=>exact hh
  | step hcl hnh hd hn hL hw=>
   rename_i d y m
   have hok:=WD hf (c:=(c:Int)) (d:=(d:Int)) (by rw [hn])
   rw [hn] at hok
   have hp:=(W7 (s:=s) hs (d:=(d:Int)) (by omega) (by omega) hok.2.1).1
   have hp1:1≤prS s (d:Int) (y:Int):=hp
   simp at hm;omega
 ·intro e
  have:=h.least c 0 (.home hc e);omega
end Go.Taq
/- The mathematics, part GI: ReachNeeds (chapter 33). -/
set_option linter.unusedVariables false
set_option linter.unusedSimpArgs false
namespace Go.Taq
open Go
end Go.Taq
/- The mathematics, part GJ: the reference's prices and fuel (chapter 33). -/
set_option linter.unusedVariables false
set_option linter.unusedSimpArgs false
namespace Go.Taq
open Go
theorem Wf {post:Int→Prop} (hp:post 3):QO post:=by
 unfold QO
 exact Zb hp
theorem Q0O {s:ApiSite} (ks:OkApiSite s) (hr:Y6 s) {d x:Int} {post:Int→Prop} (hp:post (prS s d x)):Ko s d x post:=by
 have hf:=hr.fl;have hs:=hr.rs
 unfold Ko
 refine Jn.mk (fun b=>b=(decide (d<0)||decide (d≥6)||!isC s.Floor x)) (Ite.mk (fun h=>by rw [h];rfl) (fun h=>Ite.mk (fun h2=>by rw [h,h2];rfl) (fun h2=>Xu hf (by rw [h,h2];rfl)))) (fun b hb=>Ite.mk (fun h=>?_) (fun h=>?_))
 ·rw [h] at hb
  have hb':=hb.symm
  simp only [Bool.or_eq_true,decide_eq_true_eq,Bool.not_eq_true'] at hb'
  unfold prS at hp
  rw [if_pos (by rcases hb' with (h | h) | h;exact .inl h;exact .inr (.inl h);exact .inr (.inr h))] at hp;exact hp
 ·rw [h] at hb
  have hb':=hb.symm
  simp only [Bool.or_eq_false_iff,decide_eq_false_iff_not,Bool.not_eq_false'] at hb'
  obtain⟨⟨h1,h2⟩,h3⟩:=hb'
  have hsb:=Q0p hs x
  have hcb:=Q2U (d:=d) (by omega) (by omega)
  unfold prS at hp
  rw [if_neg (by rw [h3];simp;omega)] at hp
  rw [Q6 (x:=1+d) (by omega) (by omega)]
  refine Zb ⟨_,Xl h3,Jn.mk' (Ite.mk (fun h4=>Yp ks hr (Wf ?_)) (fun h4=>?_))⟩
  ·rw [if_neg (by simpa using h4)] at hp
   rw [Q6 (x:=spd s x-1) (by omega) (by omega),Q6 (x:=(spd s x-1)*3) (by omega) (by omega),Q6 (by omega) (by omega)]
   exact hp
  ·rw [if_pos (by simpa using h4),Int.add_zero] at hp
   exact hp
structure RInv (s:ApiSite) (L f:List Int):Prop where
 len:f.length=s.Floor.Kind.length
 lo:∀c,c<s.Floor.Kind.length→-1≤fu f c
 hi:∀c,c<s.Floor.Kind.length→fu f c≤400*nn f
 sound:∀c,c<s.Floor.Kind.length→0≤fu f c→WL s L c (fu f c).toNat
 home:∀c:Nat,c<s.Floor.Kind.length→kd s.Floor c=3→fu f c=0
def Rlx (s:ApiSite) (L f:List Int) (c d:Nat):Prop:=∀y:Nat,nx s.Floor c d=((y:Int),true)→(y:Int)∉L→0≤fu f y→0≤fu f c∧fu f c≤fu f y+prS s d y
section
variable {s:ApiSite} {L f:List Int}
theorem Q3B (f:List Int):nn f≤f.length:=List.countP_le_length
theorem RInv.top (hn:s.Floor.Kind.length≤1000) (h:RInv s L f) {c:Nat} (hc:c<s.Floor.Kind.length):fu f c≤400000:=by
 have h1:=h.hi c hc
 have h2:=Q3B f
 have h3:=h.len
 omega
theorem RInv.put (hf:RF s.Floor) (hs:RS s) (hn:s.Floor.Kind.length≤1000) (h:RInv s L f) {c d y:Nat} (hc:c<s.Floor.Kind.length) (h3:kd s.Floor c≠3) (hd:d<6) (hnx:nx s.Floor c d=((y:Int),true)) (hL:(y:Int)∉L) (h0:0≤fu f y) (hlt:fu f c<0∨fu f y+prS s d y<fu f c):
  RInv s L (f.set c (fu f y+prS s d y))∧WF 400000 (f.set c (fu f y+prS s d y))<WF 400000 f:=by
 have hlen:=h.len
 have hcl:c<f.length:=by omega
 have hfc:=Q0d hcl
 have hok:=WD hf (c:=(c:Int)) (d:=(d:Int)) (by rw [hnx])
 rw [hnx] at hok
 have hty:=Qp.1 hok.2.1
 have hp:1≤prS s (d:Int) (y:Int)∧prS s (d:Int) (y:Int)≤400:=W7 (s:=s) hs (by omega) (by omega) hok.2.1
 have hyn:y<s.Floor.Kind.length:=by have:((y:Int))<(s.Floor.Kind.length:Int):=hty.2;omega
 have hhy:=h.hi y hyn
 generalize hr:fu f y+prS s d y=r at *
 have hcnt:=Q2Z (fun v:Int=>decide (0≤v)) (y:=r) hfc
 have hset:∀e,fu (f.set c r) e=if e=c then r else fu f e:=fun e=>ZE hcl
 have hr0:0≤r:=by omega
 have hnn:(nn (f.set c r):Int)=nn f+(if fu f c<0 then 1 else 0):=by
  unfold nn
  rw [if_pos (decide_eq_true hr0)] at hcnt
  split
  ·rename_i hneg
   rw [if_neg (by simp;omega)] at hcnt;omega
  ·rename_i hneg
   rw [if_pos (by simp;omega)] at hcnt;omega
 refine⟨⟨by rw [List.length_set];exact hlen,fun e he=>?_,fun e he=>?_,fun e he he0=>?_,fun e he heh=>?_⟩,?_⟩
 ·rw [hset];split
  ·omega
  ·exact h.lo e he
 ·rw [hset,hnn]
  have h1:=h.hi e he
  have h2:=h.hi c hc
  split <;> split <;> omega
 ·rw [hset] at he0 ⊢
  split
  ·rename_i e2
   subst e2
   have:=WL.step hc h3 hd hnx hL (h.sound y hyn h0)
   rw [show r.toNat=(fu f y).toNat+(prS s d y).toNat by omega];exact this
  ·rename_i e2
   rw [if_neg e2] at he0
   exact h.sound e he he0
 ·rw [hset,if_neg (fun e2=>h3 (by rw [←e2];exact heh))];exact h.home e he heh
 ·have hs2:=Q0I (wtF 400000) (y:=r) hfc
  have htop:=h.top hn hc
  have hytop:=h.top hn hyn
  have hrtop:r≤400000:=by
   rcases hlt with h4 | h4
   ·have h5:=Q3B (f.set c r)
    rw [List.length_set] at h5
    rw [if_pos h4] at hnn
    omega
   ·omega
  have:wtF 400000 r<wtF 400000 (fu f c):=by
   unfold wtF
   rw [if_neg (by omega)]
   split <;> omega
  unfold WF;omega
theorem RInv.fin (hf:RF s.Floor) (hs:RS s) (h:RInv s L f) (hr:∀c,c<s.Floor.Kind.length→∀d,d<6→Rlx s L f c d):FuL s L f where
 len:=h.len
 lo:=h.lo
 sound:=h.sound
 least:=fun c m hm=>by
  induction hm with
  | home hc h3=>rw [h.home _ hc h3];omega
  | step hc h3 hd hn hL hm ih=>
   rename_i c d y m
   have hok:=WD hf (c:=(c:Int)) (d:=(d:Int)) (by rw [hn])
   rw [hn] at hok
   have hp:1≤prS s (d:Int) (y:Int)∧prS s (d:Int) (y:Int)≤400:=W7 (s:=s) hs (by omega) (by omega) hok.2.1
   have:=hr c hc d hd y hn hL ih.1
   omega
end
end Go.Taq
/- The mathematics, part GK: the reference's needs; who is blocked; margins (chapter 33). -/
set_option linter.unusedVariables false
set_option linter.unusedSimpArgs false
namespace Go.Taq
open Go
section
end
/-! ## who is blocked -/
structure Blk (st:ApiState) (l:List Int):Prop where
 asc:l.Pairwise (· < ·)
 mem:∀a,a∈l↔a∈st.Dead∨∃r,r∈st.Robots∧r.Dead=true∧r.Cell=a
theorem Q2K:∀{xs ys:List Int},xs.Pairwise (· < ·)→ys.Pairwise (· < ·)→(∀x,x∈xs↔x∈ys)→xs=ys
 | [],[],_,_,_=>rfl
 | [],y :: ys,_,_,h=>by have:=(h y).2 (by simp);simp at this
 | x :: xs,[],_,_,h=>by have:=(h x).1 (by simp);simp at this
 | x :: xs,y :: ys,hx,hy,h=>by
  rw [List.pairwise_cons] at hx hy
  have e:x=y:=by
   have h1:=(h x).1 (by simp)
   have h2:=(h y).2 (by simp)
   rcases List.mem_cons.1 h1 with e | h1
   ·exact e
   ·rcases List.mem_cons.1 h2 with e | h2
    ·exact e.symm
    ·have:=hx.1 y h2;have:=hy.1 x h1;omega
  subst e
  rw [Q2K hx.2 hy.2 (fun z=>?_)]
  constructor
  ·intro hz
   rcases List.mem_cons.1 ((h z).1 (List.mem_cons_of_mem _ hz)) with e | g
   ·subst e;have:=hx.1 z hz;omega
   ·exact g
  ·intro hz
   rcases List.mem_cons.1 ((h z).2 (List.mem_cons_of_mem _ hz)) with e | g
   ·subst e;have:=hy.1 z hz;omega
   ·exact g
theorem Blk.uniq {st:ApiState} {l l':List Int} (h:Blk st l) (h':Blk st l'):l=l':=Q2K h.asc h'.asc (fun x=>by rw [h.mem,h'.mem])
def blkR (st:ApiState) (i:Nat):List Int:=st.Dead++((st.Robots.take i).filter (fun r=>r.Dead)).map (fun r=>r.Cell)
theorem YE {st:ApiState} {i:Nat} {r:Qz} (h:st.Robots[i]?=some r):blkR st (i+1)=blkR st i++(if r.Dead=true then [r.Cell] else []):=by
 unfold blkR
 rw [QE h,List.filter_append,List.map_append,List.append_assoc]
 congr 2
 by_cases e:r.Dead=true <;> simp [e]
theorem Yq {st:ApiState} (i:Nat):(blkR st i).length≤st.Dead.length+i:=by
 unfold blkR
 have:=List.length_filter_le (fun r:Qz=>r.Dead) (st.Robots.take i)
 rw [List.length_append,List.length_map]
 rw [List.length_take] at this;omega
theorem Q0Y {st:ApiState} {a:Int}:a∈blkR st st.Robots.length↔a∈st.Dead∨∃r,r∈st.Robots∧r.Dead=true∧r.Cell=a:=by
 unfold blkR
 rw [List.take_length]
 simp [and_assoc]
theorem Zs {st:ApiState} (hz:Sz st) {post:List Int→Prop} (hp:∀l,Blk st l→l.length≤2000→post l):Xb st post:=by
 have q1:=hz.rb;have q2:=hz.dd
 unfold Xb
 refine Q19 (by omega) (Jn.mk (fun t=>t=blkR st st.Robots.length) (XP (xs:=st.Robots) (by unfold maxLen;omega) (fun t:List Int×Int=>t.2) (fun i t=>t.1=blkR st i) rfl (by simp [blkR]) (fun i r t hr ht hI=>?_) (fun t hI=>hI)) (fun t ht=>?_))
 ·have hi:=(List.getElem?_eq_some_iff.1 hr).1
  have hl:=Yq (st:=st) i
  rw [ht]
  refine Jn.mk (fun u=>u=blkR st (i+1)) (Ite.mk (fun h=>⟨by rw [hI];simp;omega,?_⟩) (fun h=>?_)) (fun u hu=>⟨rfl,hu⟩)
  ·rw [YE hr,if_pos h,hI]
  ·rw [YE hr,if_neg (by rw [h];simp),hI];simp
 ·subst ht
  have hl:=Yq (st:=st) st.Robots.length
  have hperm:=List.mergeSort_perm (blkR st st.Robots.length) (fun x y=>decide (x≤y))
  have hsort:((blkR st st.Robots.length).mergeSort fun x y=>decide (x≤y)).Pairwise (fun x y=>x<y∨x=y):=by
   have:=List.pairwise_mergeSort (le:=fun x y:Int=>decide (x≤y)) (fun a b c h1 h2=>by simp at *;omega) (fun a b=>by simp;omega) (blkR st st.Robots.length)
   exact this.imp (fun h=>by simp at h;omega)
  have hlen:=hperm.length_eq
  unfold Qs
  generalize (blkR st st.Robots.length).mergeSort (fun x y=>decide (x≤y))=m at *
  refine⟨by omega,S_CompactI (by omega) (hp _ ⟨Q2b (lt:=(· < ·)) (fun x y z h1 h2=>by omega) hsort m.length (Nat.le_refl _),fun a=>?_⟩ (by have:=Q0G (xs:=m) m.length;omega))⟩
  rw [Zq m.length (Nat.le_refl _),List.take_length,hperm.mem_iff]
  exact Q0Y
end Go.Taq
