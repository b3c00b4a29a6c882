/- The library of the generated walks, part Z: a region whose order is drawn, by the sets of what has come up. -/
import Derived.Test.YtpckofngkabgbaaGreatLibW
set_option linter.unusedVariables false
namespace Go.Taq
open Go
section
variable {P:Program} {B:Base} {tb:Tab} {Γ Γ' Γ0:Env} {H H' H0:Heap} {nl nl' nl0:Nat} {ops:Array Oper} {Q:Exit→Act→World→Prop} {i z:Nat} {o:Oper} {ws:World} {M':Nat→Prop} {Lp Ms:List Nat} {g g0:Bool} {fuel f0:Nat} {listed listed' l0:Array Bool}
theorem Eff1.rd {A:AVal} {rl:Option (List Nat)} {d:Nat} (hd:o.dst=some d) (hlt:d.blt B.n=true) (h:Rd P B Γ H nl o A rl):Eff1 P B Γ H nl o ((d,A) :: Γ) H nl (.fx [] false):=fun B' hn β F a w hβ hf next Q hk=>by
 obtain⟨v,hv,hr⟩:=h B' hn β F a w hβ hf
 simp only [Oper.wp,hr w (.refl _ _ _ _),Oper.upon]
 rw [hd]
 refine hk ⟨⟩ trivial _ _ β F B' (.refl _) hβ (fun _ _ h=>h) ⟨fun l x b hl hx _=>?_,.refl _ _,fun _ b hb=>hb⟩ (hf.put (by rw [hn];exact hlt) hv)
 have:=(List.getElem?_eq_some_iff.1 hx).1
 omega
theorem D.have (g:Bool) (Γ:Env) (H:Heap) (nl fuel:Nat) (listed:Array Bool) (h:StD B ws M' Lp Ms g Γ H nl (Qz P ops Q (Kp ws M') z fuel listed))
  (k:StD B ws M' Lp Ms g Γ H nl (Qz P ops Q (Kp ws M') z fuel listed)→StD B ws M' Lp Ms g0 Γ0 H0 nl0 (Qz P ops Q (Kp ws M') z f0 l0)):StD B ws M' Lp Ms g0 Γ0 H0 nl0 (Qz P ops Q (Kp ws M') z f0 l0):=k h
def AllF (f:Nat→Prop):List Nat→Prop
 | []=>True
 | i :: r=>f i∧AllF f r
theorem AllF.get {f:Nat→Prop}:∀{l:List Nat},AllF f l→∀{i},i∈l→f i
 | j :: r,h,i,hi=>by
  rcases List.mem_cons.1 hi with e | e
  ·subst e;exact h.1
  ·exact AllF.get h.2 e
theorem D.all (i:Nat) (R:List Nat) (hr:Region.ready .any ops listed=i :: R) (h:AllF (fun j=>StD B ws M' Lp Ms g Γ H nl (Q3U P ops Q (Kp ws M') z fuel listed j)) (i :: R)):
  StD B ws M' Lp Ms g Γ H nl (Qz P ops Q (Kp ws M') z (fuel+1) listed):=fun a w hf=>
 ⟨fun h0=>absurd (h0▸hr) (by simp),fun m hm=>by rw [hr] at hm;exact h.get hm a w hf⟩
theorem D.to (ρ:List (Option Nat)) (h:StD B ws M' Lp Ms g Γ' H' nl' (Qz P ops Q (Kp ws M') z fuel listed')) (hl:listed'=listed) (h0:fixed 0 B.k ρ=true) (h1:ρ.length=nl') (h2:ChkG H ρ nl false Γ Γ') (h3:ChkH H ρ nl false H') (h4:ndup (kept ρ H')=true)
  (h5:Lp.all (fun l=>match ρ[l]? with | some (some m)=>m.beq l&&l.blt nl' | _=>false)=true) (h6:Ms.all (fun l=>match ρ[l]? with | some (some m)=>Ms.contains m | some none=>false | none=>true)=true):StD B ws M' Lp Ms g Γ H nl (Qz P ops Q (Kp ws M') z fuel listed):=by
 subst hl
 rintro a w ⟨B',β,F,hx,hβ,hf,hkp,hLp,hok,hMs,hlp⟩
 refine h a w ?_
 subst hβ
 obtain⟨k1,k2⟩:=hf.same
 obtain⟨G,ok2,_,g1,g2,g3,g4,g5,_,_⟩:=hf.heap.cast k1 k2 h3 h4
 have g3':∀b,ok2 b→B'.ok b:=fun b hb=>(g3 b hb).elim id (fun h=>by cases h.1)
 obtain⟨x1,x2⟩:=hf.rebase (ok:=ok2) (F':=G) g2 (fun b hb=>.inl (g3' b hb)) g1 g4 (fun t A hA=>by
  obtain⟨S,e1,e2⟩:=h2.get hA
  exact g5 _ _ _ e2 (hf.env t S e1)) (fun l x hl hx'=>Ga (by have:=YV h0 l (by rw [←hx.k];exact hl);simpa using this) hx')
 have back:∀(l m:Nat) (x:Value) (b:Nat),ρ[l]?=some (some m)→(rlβ ρ β)[l]?=some x→hdr x=some b→β[m]?=some x:=fun l m x b hm hx hb=>by
  unfold rlβ at hx
  rw [List.getElem?_map,hm] at hx
  simp only [Option.map_some,Option.some.injEq] at hx
  cases hq:β[m]? with
  | none=>rw [hq] at hx;simp [undef] at hx;subst hx;simp [hdr] at hb
  | some y=>rw [hq] at hx;simp at hx;rw [hx]
 refine⟨_,rlβ ρ β,G,hx.trans x1,by simpa [rlβ] using h1,x2,hkp,fun b hb=>?_,fun hg b hb=>hok hg b (g3' b hb),fun b hb hlt=>?_,fun l hl=>?_⟩
 ·obtain⟨l,hl,x,hx,hh⟩:=hb
  have:=List.all_eq_true.1 h5 l hl
  cases hr:ρ[l]? with
  | none=>rw [hr] at this;cases this
  | some q=>cases q with
   | none=>rw [hr] at this;cases this
   | some m=>
    rw [hr] at this
    simp only [Bool.and_eq_true] at this
    have e:=Nat.eq_of_beq_eq_true this.1
    subst e
    exact hLp b ⟨m,hl,x,back m m x b hr hx hh,hh⟩
 ·obtain⟨l,hl,x,hx,hh⟩:=hb
  have:=List.all_eq_true.1 h6 l hl
  cases hr:ρ[l]? with
  | none=>
   have hn:(rlβ ρ β)[l]?=none:=by unfold rlβ;rw [List.getElem?_map,hr];rfl
   rw [hn] at hx;cases hx
  | some q=>cases q with
   | none=>rw [hr] at this;cases this
   | some m=>
    rw [hr] at this
    exact hMs b ⟨m,by simpa using this,x,back l m x b hr hx hh,hh⟩ hlt
 ·have:=List.all_eq_true.1 h5 l hl
  cases hr:ρ[l]? with
  | none=>rw [hr] at this;cases this
  | some q=>cases q with
   | none=>rw [hr] at this;cases this
   | some m=>
    rw [hr] at this
    simp only [Bool.and_eq_true] at this
    exact Nat.le_of_ble_eq_true this.2
end
end Go.Taq
