/- The mathematics, several parts in one text. -/
import Derived.Test.YtlaehjhkcanffaaBF
import Derived.Test.YtlaehjhkcanffaaMZ
/- The mathematics, part BG: BankFinds. -/
set_option linter.unusedVariables false
set_option linter.unusedSimpArgs false
namespace Go.Taq
open Go
section
end
end Go.Taq
/- The mathematics, part GE: the cells whose best ways lead over a cell, and their fuel without it (chapter 33). -/
set_option linter.unusedVariables false
set_option linter.unusedSimpArgs false
namespace Go.Taq
open Go
def Par (g:ReachGraph) (f:List Int) (c y:Nat):Prop:=g.home[c]?=some false∧0≤fu f c∧0≤fu f y∧∃l x,g.out[c]?=some l∧x∈l∧x.to_=(y:Int)∧fu f c=fu f y+x.price
structure ChOk (g:ReachGraph) (n:Nat) (f:List Int) (i:Nat) (ch:List (List Int)):Prop where
 len:ch.length=n
 mem:∀(y:Nat) (l:List Int),ch[y]?=some l→l.Nodup∧∀a,a∈l→∃c:Nat,a=(c:Int)∧c<i∧Par g f c y
 uniq:∀(y y':Nat) (l l':List Int) (a:Int),ch[y]?=some l→ch[y']?=some l'→a∈l→a∈l'→y=y'
 all:∀c,c<i→g.home[c]?=some false→0≤fu f c→∃(y:Nat) (l:List Int),ch[y]?=some l∧(c:Int)∈l
section
variable {g:ReachGraph} {n:Nat} {P:Int} {f:List Int} {ch:List (List Int)}
theorem Par.lt (hg:GOk n P g) {c y:Nat} (h:Par g f c y):fu f y<fu f c:=by
 obtain⟨_,_,_,l,z,hl,hz,_,he⟩:=h
 have:=(hg.to_ c l z hl hz).2.1
 omega
theorem ChOk.row {i:Nat} (h:ChOk g n f i ch) {y:Nat} (hy:y<n):∃l,ch[y]?=some l:=⟨_,List.getElem?_eq_getElem (by rw [h.len];exact hy)⟩
theorem ChOk.rlen (h:ChOk g n f n ch) {y:Nat} {l:List Int} (hl:ch[y]?=some l):l.length≤n:=Yb n l (h.mem y l hl).1 (fun a ha=>by
 obtain⟨c,e,h1,_⟩:=(h.mem y l hl).2 a ha
 omega)
end
end Go.Taq
/- The mathematics, part GF: the fuel without a cell (chapter 33). -/
set_option linter.unusedVariables false
set_option linter.unusedSimpArgs false
namespace Go.Taq
open Go
section
variable {g:ReachGraph} {n:Nat} {f:List Int}
theorem FOk.home (hF:FOk g (-1) n f) {c:Nat} (hc:c<n) (hh:g.home[c]?=some true):fu f c=0:=by
 have:=hF.least c hc 0 (.home hh);omega
end
end Go.Taq
/- The mathematics, part GG: the needs (chapter 33). -/
set_option linter.unusedVariables false
set_option linter.unusedSimpArgs false
namespace Go.Taq
open Go
def IsFu (s:ApiSite) (L:List Int) (c:Nat) (v:Int):Prop:=(v=-1∧∀m,¬WL s L c m)∨(0≤v∧WL s L c v.toNat∧∀m,WL s L c m→v≤m)
theorem Q1m {p:Nat→Prop}:∀n,p n→∃m,p m∧∀k,p k→m≤k:=by
 intro n
 induction n using Nat.strongRecOn with
 | _ n ih=>
  intro hn
  by_cases h:∃m,m<n∧p m
  ·obtain⟨m,h1,h2⟩:=h
   exact ih m h1 h2
  ·exact⟨n,hn,fun k hk=>by
    by_cases hlt:k<n
    ·exact absurd ⟨k,hlt,hk⟩ h
    ·omega⟩
theorem Q0M (s:ApiSite) (L:List Int) (c:Nat):∃v,IsFu s L c v:=by
 by_cases h:∃m,WL s L c m
 ·obtain⟨m,hm⟩:=h
  obtain⟨k,h1,h2⟩:=Q1m (p:=fun m=>WL s L c m) m hm
  exact⟨(k:Int),.inr ⟨by omega,by simpa using h1,fun m hm=>by have:=h2 m hm;omega⟩⟩
 ·exact⟨-1,.inl ⟨rfl,fun m hm=>h ⟨m,hm⟩⟩⟩
noncomputable def fuV (s:ApiSite) (L:List Int) (c:Nat):Int:=Classical.choose (Q0M s L c)
theorem Q2O (s:ApiSite) (L:List Int) (c:Nat):IsFu s L c (fuV s L c):=Classical.choose_spec (Q0M s L c)
theorem IsFu.uniq {s:ApiSite} {L:List Int} {c:Nat} {v w:Int} (h:IsFu s L c v) (h':IsFu s L c w):v=w:=by
 rcases h with ⟨h1,h2⟩ | ⟨h1,h2,h3⟩ <;> rcases h' with ⟨g1,g2⟩ | ⟨g1,g2,g3⟩
 ·omega
 ·exact absurd g2 (h2 _)
 ·exact absurd h2 (g2 _)
 ·have:=h3 _ g2;have:=g3 _ h2;omega
theorem FuL.eq {s:ApiSite} {L f:List Int} (h:FuL s L f) {c:Nat} (hc:c<s.Floor.Kind.length):fu f c=fuV s L c:=by
 refine IsFu.uniq (s:=s) (L:=L) (c:=c) ?_ (Q2O s L c)
 by_cases h0:0≤fu f c
 ·exact .inr ⟨h0,h.sound c hc h0,fun m hm=>(h.least c m hm).2⟩
 ·have:=h.lo c hc
  exact .inl ⟨by omega,fun m hm=>h0 (h.least c m hm).1⟩
section
variable {g:ReachGraph} {n:Nat} {f:List Int} {ch:List (List Int)}
theorem ChOk.skip {i:Nat} (h:ChOk g n f i ch) (hn:g.home[i]?=some false→0≤fu f i→False):ChOk g n f (i+1) ch where
 len:=h.len
 mem:=fun y l hl=>⟨(h.mem y l hl).1,fun a ha=>by
  obtain⟨c,e,h1,h2⟩:=(h.mem y l hl).2 a ha
  exact⟨c,e,by omega,h2⟩⟩
 uniq:=h.uniq
 all:=fun c hc hh h0=>by
  by_cases e:c=i
  ·subst e;exact absurd (hn hh h0) id
  ·exact h.all c (by omega) hh h0
theorem ChOk.put {i y:Nat} {l:List Int} (h:ChOk g n f i ch) (hl:ch[y]?=some l) (hp:Par g f i y):ChOk g n f (i+1) (ch.set y (l++[(i:Int)])):=by
 have hyl:=(List.getElem?_eq_some_iff.1 hl).1
 have hget:∀z,(ch.set y (l++[(i:Int)]))[z]?=if z=y then some (l++[(i:Int)]) else ch[z]?:=fun z=>by
  rw [List.getElem?_set]
  by_cases e:y=z
  ·subst e;simp [hyl]
  ·rw [if_neg e,if_neg (fun h=>e h.symm)]
 have hnew:∀(z:Nat) m,ch[z]?=some m→(i:Int)∉m:=fun z m hm hi=>by
  obtain⟨c,e,h1,_⟩:=(h.mem z m hm).2 _ hi
  omega
 refine⟨by rw [List.length_set];exact h.len,fun z m hm=>?_,fun z z' m m' a hm hm' ha ha'=>?_,fun c hc hh h0=>?_⟩
 ·rw [hget] at hm
  by_cases e:z=y
  ·rw [if_pos e] at hm
   cases hm
   subst e
   have hm0:=h.mem z l hl
   refine⟨List.nodup_append.2 ⟨hm0.1,by simp,fun a ha b hb e=>?_⟩,fun a ha=>?_⟩
   ·simp at hb;subst hb;subst e;exact hnew z l hl ha
   ·rcases List.mem_append.1 ha with ha | ha
    ·obtain⟨c,e,h1,h2⟩:=hm0.2 a ha
     exact⟨c,e,by omega,h2⟩
    ·simp at ha;exact⟨i,ha,by omega,hp⟩
  ·rw [if_neg e] at hm
   exact⟨(h.mem z m hm).1,fun a ha=>by
    obtain⟨c,e,h1,h2⟩:=(h.mem z m hm).2 a ha
    exact⟨c,e,by omega,h2⟩⟩
 ·have hs:∀(z:Nat) m,(ch.set y (l++[(i:Int)]))[z]?=some m→a∈m→(a=(i:Int)∧z=y)∨(a≠(i:Int)∧∃m0,ch[z]?=some m0∧a∈m0):=fun z m hm ha=>by
   rw [hget] at hm
   by_cases e:z=y
   ·rw [if_pos e] at hm
    cases hm
    rcases List.mem_append.1 ha with ha | ha
    ·exact .inr ⟨fun e2=>hnew y l hl (e2▸ha),l,by rw [e];exact hl,ha⟩
    ·simp at ha;exact .inl ⟨ha,e⟩
   ·rw [if_neg e] at hm
    exact .inr ⟨fun e2=>hnew z m hm (e2▸ha),m,hm,ha⟩
  rcases hs z m hm ha with ⟨e1,e2⟩ | ⟨e1,m0,k1,k2⟩ <;> rcases hs z' m' hm' ha' with ⟨g1,g2⟩ | ⟨g1,m1,j1,j2⟩
  ·rw [e2,g2]
  ·exact absurd e1 g1
  ·exact absurd g1 e1
  ·exact h.uniq z z' m0 m1 a k1 j1 k2 j2
 ·by_cases e:c=i
  ·subst e
   exact⟨y,l++[(c:Int)],by rw [hget,if_pos rfl],by simp⟩
  ·obtain⟨z,m,h1,h2⟩:=h.all c (by omega) hh h0
   by_cases ez:z=y
   ·subst ez
    rw [hl] at h1;cases h1
    exact⟨z,l++[(i:Int)],by rw [hget,if_pos rfl],List.mem_append_left _ h2⟩
   ·exact⟨z,m,by rw [hget,if_neg ez];exact h1,h2⟩
end
end Go.Taq
/- The mathematics, part GH: tables are checked; the examples of chapter 33; ReachFuel. -/
set_option linter.unusedVariables false
set_option linter.unusedSimpArgs false
namespace Go.Taq
open Go
def okC (s:ApiSite) (L f:List Int) (c:Nat):Bool:=
 decide (-1≤fu f c)&&(if kd s.Floor c=3 then decide (fu f c=0) else
  (List.range 6).all (fun d=>let r:=nx s.Floor c d;!(r.2&&!L.contains r.1&&decide (0≤fu f r.1.toNat))||(decide (0≤fu f c)&&decide (fu f c≤fu f r.1.toNat+prS s d r.1))) &&
  (decide (fu f c<0)||(List.range 6).any (fun d=>let r:=nx s.Floor c d;r.2&&!L.contains r.1&&decide (0≤fu f r.1.toNat)&&decide (fu f c=fu f r.1.toNat+prS s d r.1))))
theorem FuL.chk {s:ApiSite} {L f:List Int} (hf:RF s.Floor) (hs:RS s) (hl:f.length=s.Floor.Kind.length) (h:(List.range s.Floor.Kind.length).all (okC s L f)=true):FuL s L f:=by
 have hc:∀c,c<s.Floor.Kind.length→okC s L f c=true:=fun c hc=>List.all_eq_true.1 h c (List.mem_range.2 hc)
 have hlo:∀c,c<s.Floor.Kind.length→-1≤fu f c:=fun c h=>by
  have:=hc c h
  unfold okC at this
  rw [Bool.and_eq_true] at this
  exact of_decide_eq_true this.1
 have hhome:∀c:Nat,c<s.Floor.Kind.length→kd s.Floor c=3→fu f c=0:=fun c h h3=>by
  have:=hc c h
  unfold okC at this
  rw [if_pos h3,Bool.and_eq_true] at this
  exact of_decide_eq_true this.2
 have hother:∀c:Nat,c<s.Floor.Kind.length→kd s.Floor c≠3→(∀d:Nat,d<6→(nx s.Floor c d).2=true→(nx s.Floor c d).1∉L→0≤fu f (nx s.Floor c d).1.toNat→0≤fu f c∧fu f c≤fu f (nx s.Floor c d).1.toNat+prS s d (nx s.Floor c d).1) ∧
   (0≤fu f c→∃d:Nat,d<6∧(nx s.Floor c d).2=true∧(nx s.Floor c d).1∉L∧0≤fu f (nx s.Floor c d).1.toNat∧fu f c=fu f (nx s.Floor c d).1.toNat+prS s d (nx s.Floor c d).1):=fun c h h3=>by
  have:=hc c h
  unfold okC at this
  rw [if_neg h3,Bool.and_eq_true,Bool.and_eq_true] at this
  obtain⟨_,h1,h2⟩:=this
  refine⟨fun d hd g1 g2 g3=>?_,fun h0=>?_⟩
  ·have:=List.all_eq_true.1 h1 d (List.mem_range.2 hd)
   simp only at this
   rw [g1,decide_eq_true g3] at this
   simpa [g2] using this
  ·rw [Bool.or_eq_true] at h2
   rcases h2 with h2 | h2
   ·have:=of_decide_eq_true h2;omega
   ·obtain⟨d,hd,h2⟩:=List.any_eq_true.1 h2
    simp at h2
    exact⟨d,List.mem_range.1 hd,h2.1.1.1,h2.1.1.2,h2.1.2,h2.2⟩
 refine⟨hl,hlo,?_,?_⟩
 ·have key:∀(k c:Nat),c<s.Floor.Kind.length→(fu f c).toNat=k→0≤fu f c→WL s L c (fu f c).toNat:=by
   intro k
   induction k using Nat.strongRecOn with
   | _ k ih=>
    intro c hcl hk h0
    by_cases h3:kd s.Floor c=3
    ·rw [hhome c hcl h3];exact .home hcl h3
    ·obtain⟨d,hd,g1,g2,g3,g4⟩:=(hother c hcl h3).2 h0
     have hok:=Xt hf (c:=(c:Int)) (d:=(d:Int)) g1
     have ht:=Qo.1 hok.2.1
     have hp:=Xz (s:=s) hs (d:=(d:Int)) (by omega) (by omega) hok.2.1
     obtain⟨y,hy⟩:=Int.eq_ofNat_of_zero_le ht.1
     have hnx:nx s.Floor c d=((y:Int),true):=by rw [←hy,←g1]
     rw [hy] at g2 g3 g4 hp ht
     simp only [Int.toNat_natCast] at g3 g4
     have hw:=ih (fu f y).toNat (by omega) y (by omega) rfl g3
     have:=WL.step hcl h3 hd hnx g2 hw
     rw [show (fu f c).toNat=(fu f y).toNat+(prS s d y).toNat by omega];exact this
  exact fun c hcl h0=>key _ c hcl rfl h0
 ·intro c m hm
  induction hm with
  | home hcl h3=>rw [hhome _ hcl h3];omega
  | step hcl h3 hd hn hL hm ih=>
   rename_i c d y m
   have e1:(nx s.Floor c d).1=(y:Int):=by rw [hn]
   have e2:(nx s.Floor c d).2=true:=by rw [hn]
   have hok:=Xt hf (c:=(c:Int)) (d:=(d:Int)) e2
   have hp:=Xz (s:=s) hs (d:=(d:Int)) (by omega) (by omega) hok.2.1
   have:=(hother c hcl h3).1 d hd e2 (by rw [e1];exact hL) (by rw [e1];simpa using ih.1)
   rw [e1] at this hp
   simp only [Int.toNat_natCast] at this
   omega
/-! ## the examples -/
/-! ## ReachFuel -/
structure Q2R (s:ApiSite) (L f:List Int) (c i:Nat) (b:Int):Prop where
 is:b=-1∨∃d y:Nat,d<i∧nx s.Floor c d=((y:Int),true)∧(y:Int)∉L∧0≤fu f y∧b=fu f y+prS s d y
 le:∀d y:Nat,d<i→nx s.Floor c d=((y:Int),true)→(y:Int)∉L→0≤fu f y→0≤b∧b≤fu f y+prS s d y
theorem FuL.best {s:ApiSite} {L f:List Int} (hf:RF s.Floor) (hs:RS s) (h:FuL s L f) {c:Nat} (hc:c<s.Floor.Kind.length) (h3:kd s.Floor c≠3) {b:Int} (hb:Q2R s L f c 6 b):fu f c=b:=by
 have hlo:=h.lo c hc
 have up:∀d y:Nat,d<6→nx s.Floor c d=((y:Int),true)→(y:Int)∉L→0≤fu f y→0≤fu f c∧fu f c≤fu f y+prS s d y:=fun d y hd hn hL h0=>by
  have hok:=Xt hf (c:=(c:Int)) (d:=(d:Int)) (by rw [hn])
  rw [hn] at hok
  have ht:=Qo.1 hok.2.1
  have hp:=Xz (s:=s) hs (d:=(d:Int)) (by omega) (by omega) hok.2.1
  have:=h.least c _ (.step hc h3 hd hn hL (h.sound y (by omega) h0))
  have hp1:1≤prS s (d:Int) (y:Int):=hp.1
  omega
 by_cases h0:0≤fu f c
 ·have hw:=h.sound c hc h0
  generalize hm:(fu f c).toNat=m at hw
  cases hw with
  | home _ hh=>exact absurd hh h3
  | step hcl hnh hd hn hL hw=>
   rename_i d y m
   have h1:=h.least y _ hw
   have h2:=hb.le d y hd hn hL h1.1
   have hok:=Xt hf (c:=(c:Int)) (d:=(d:Int)) (by rw [hn])
   rw [hn] at hok
   have hp:=(Xz (s:=s) hs (d:=(d:Int)) (by omega) (by omega) hok.2.1).1
   have hp1:1≤prS s (d:Int) (y:Int):=hp
   rcases hb.is with e | ⟨d',y',hd',hn',hL',h0',e⟩
   ·omega
   ·have:=up d' y' hd' hn' hL' h0'
    omega
 ·rcases hb.is with e | ⟨d',y',hd',hn',hL',h0',e⟩
  ·omega
  ·have:=up d' y' hd' hn' hL' h0'
   omega
theorem FuL.zero {s:ApiSite} {L f:List Int} (hf:RF s.Floor) (hs:RS s) (h:FuL s L f) {c:Nat} (hc:c<s.Floor.Kind.length):fu f c=0↔kd s.Floor c=3:=by
 constructor
 ·intro e
  have hw:=h.sound c hc (by omega)
  rw [e] at hw
  generalize hm:Int.toNat 0=m at hw
  cases hw with
  | home _ hh=>exact hh
  | step hcl hnh hd hn hL hw=>
   rename_i d y m
   have hok:=Xt hf (c:=(c:Int)) (d:=(d:Int)) (by rw [hn])
   rw [hn] at hok
   have hp:=(Xz (s:=s) hs (d:=(d:Int)) (by omega) (by omega) hok.2.1).1
   have hp1:1≤prS s (d:Int) (y:Int):=hp
   simp at hm;omega
 ·intro e
  have:=h.least c 0 (.home hc e);omega
end Go.Taq
/- The mathematics, part GI: ReachNeeds (chapter 33). -/
set_option linter.unusedVariables false
set_option linter.unusedSimpArgs false
namespace Go.Taq
open Go
end Go.Taq
