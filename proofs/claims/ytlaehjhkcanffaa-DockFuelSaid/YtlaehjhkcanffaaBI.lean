/- The mathematics, several parts in one text. -/
import Derived.Test.YtlaehjhkcanffaaGI
import Derived.Test.YtlaehjhkcanffaaOG
/- The mathematics, part GJ: the reference's prices and fuel (chapter 33). -/
set_option linter.unusedVariables false
set_option linter.unusedSimpArgs false
namespace Go.Taq
open Go
structure RInv (s:ApiSite) (L f:List Int):Prop where
 len:f.length=s.Floor.Kind.length
 lo:∀c,c<s.Floor.Kind.length→-1≤fu f c
 hi:∀c,c<s.Floor.Kind.length→fu f c≤400*nn f
 sound:∀c,c<s.Floor.Kind.length→0≤fu f c→WL s L c (fu f c).toNat
 home:∀c:Nat,c<s.Floor.Kind.length→kd s.Floor c=3→fu f c=0
def Rlx (s:ApiSite) (L f:List Int) (c d:Nat):Prop:=∀y:Nat,nx s.Floor c d=((y:Int),true)→(y:Int)∉L→0≤fu f y→0≤fu f c∧fu f c≤fu f y+prS s d y
section
variable {s:ApiSite} {L f:List Int}
theorem Q1y (f:List Int):nn f≤f.length:=List.countP_le_length
theorem RInv.top (hn:s.Floor.Kind.length≤1000) (h:RInv s L f) {c:Nat} (hc:c<s.Floor.Kind.length):fu f c≤400000:=by
 have h1:=h.hi c hc
 have h2:=Q1y f
 have h3:=h.len
 omega
theorem RInv.put (hf:RF s.Floor) (hs:RS s) (hn:s.Floor.Kind.length≤1000) (h:RInv s L f) {c d y:Nat} (hc:c<s.Floor.Kind.length) (h3:kd s.Floor c≠3) (hd:d<6) (hnx:nx s.Floor c d=((y:Int),true)) (hL:(y:Int)∉L) (h0:0≤fu f y) (hlt:fu f c<0∨fu f y+prS s d y<fu f c):
  RInv s L (f.set c (fu f y+prS s d y))∧WF 400000 (f.set c (fu f y+prS s d y))<WF 400000 f:=by
 have hlen:=h.len
 have hcl:c<f.length:=by omega
 have hfc:=WH hcl
 have hok:=Xt hf (c:=(c:Int)) (d:=(d:Int)) (by rw [hnx])
 rw [hnx] at hok
 have hty:=Qo.1 hok.2.1
 have hp:1≤prS s (d:Int) (y:Int)∧prS s (d:Int) (y:Int)≤400:=Xz (s:=s) hs (by omega) (by omega) hok.2.1
 have hyn:y<s.Floor.Kind.length:=by have:((y:Int))<(s.Floor.Kind.length:Int):=hty.2;omega
 have hhy:=h.hi y hyn
 generalize hr:fu f y+prS s d y=r at *
 have hcnt:=ZJ (fun v:Int=>decide (0≤v)) (y:=r) hfc
 have hset:∀e,fu (f.set c r) e=if e=c then r else fu f e:=fun e=>Wj hcl
 have hr0:0≤r:=by omega
 have hnn:(nn (f.set c r):Int)=nn f+(if fu f c<0 then 1 else 0):=by
  unfold nn
  rw [if_pos (decide_eq_true hr0)] at hcnt
  split
  ·rename_i hneg
   rw [if_neg (by simp;omega)] at hcnt;omega
  ·rename_i hneg
   rw [if_pos (by simp;omega)] at hcnt;omega
 refine⟨⟨by rw [List.length_set];exact hlen,fun e he=>?_,fun e he=>?_,fun e he he0=>?_,fun e he heh=>?_⟩,?_⟩
 ·rw [hset];split
  ·omega
  ·exact h.lo e he
 ·rw [hset,hnn]
  have h1:=h.hi e he
  have h2:=h.hi c hc
  split <;> split <;> omega
 ·rw [hset] at he0 ⊢
  split
  ·rename_i e2
   subst e2
   have:=WL.step hc h3 hd hnx hL (h.sound y hyn h0)
   rw [show r.toNat=(fu f y).toNat+(prS s d y).toNat by omega];exact this
  ·rename_i e2
   rw [if_neg e2] at he0
   exact h.sound e he he0
 ·rw [hset,if_neg (fun e2=>h3 (by rw [←e2];exact heh))];exact h.home e he heh
 ·have hs2:=Y1 (wtF 400000) (y:=r) hfc
  have htop:=h.top hn hc
  have hytop:=h.top hn hyn
  have hrtop:r≤400000:=by
   rcases hlt with h4 | h4
   ·have h5:=Q1y (f.set c r)
    rw [List.length_set] at h5
    rw [if_pos h4] at hnn
    omega
   ·omega
  have:wtF 400000 r<wtF 400000 (fu f c):=by
   unfold wtF
   rw [if_neg (by omega)]
   split <;> omega
  unfold WF;omega
theorem RInv.fin (hf:RF s.Floor) (hs:RS s) (h:RInv s L f) (hr:∀c,c<s.Floor.Kind.length→∀d,d<6→Rlx s L f c d):FuL s L f where
 len:=h.len
 lo:=h.lo
 sound:=h.sound
 least:=fun c m hm=>by
  induction hm with
  | home hc h3=>rw [h.home _ hc h3];omega
  | step hc h3 hd hn hL hm ih=>
   rename_i c d y m
   have hok:=Xt hf (c:=(c:Int)) (d:=(d:Int)) (by rw [hn])
   rw [hn] at hok
   have hp:1≤prS s (d:Int) (y:Int)∧prS s (d:Int) (y:Int)≤400:=Xz (s:=s) hs (by omega) (by omega) hok.2.1
   have:=hr c hc d hd y hn hL ih.1
   omega
end
end Go.Taq
/- The mathematics, part GK: the reference's needs; who is blocked; margins (chapter 33). -/
set_option linter.unusedVariables false
set_option linter.unusedSimpArgs false
namespace Go.Taq
open Go
section
end
/-! ## who is blocked -/
end Go.Taq
/- The mathematics, part GL: margins, who is covered, what is granted; ReachTells (chapter 33). -/
set_option linter.unusedVariables false
set_option linter.unusedSimpArgs false
namespace Go.Taq
open Go
/-! ## margins -/
section
/-! ## who is covered -/
/-! ## what is granted -/
end
end Go.Taq
/- The mathematics, part GM: fuel is bounded; ReachGrants (chapter 33). -/
set_option linter.unusedVariables false
set_option linter.unusedSimpArgs false
namespace Go.Taq
open Go
section
end
end Go.Taq
/- The mathematics, part BH: the reference's search over floors (taquinref07.spread, Path). -/
set_option linter.unusedVariables false
set_option linter.unusedSimpArgs false
namespace Go.Taq
open Go
end Go.Taq
/- The mathematics, part BI: the reference's Path and Way (taquinref07.Path, taquinref21.Way). -/
set_option linter.unusedVariables false
set_option linter.unusedSimpArgs false
namespace Go.Taq
open Go
section
end
end Go.Taq
