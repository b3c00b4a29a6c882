/- The library of the generated walks, part W: several steps at once. -/
import Derived.Test.YtpckofngkabgbaaGreatLibV
set_option linter.unusedVariables false
namespace Go.Taq
open Go
def Q45 (tb:Tab) (ops:Array Oper) (H:Heap) (n i:Nat) (Γ:Env):Option Env:=
 match ops[i]? with
 | none=>none
 | some o=>match o.dst with
  | none=>none
  | some d=>if d.blt n then (match Wm tb Γ H o.op with
    | some A=>some ((d,A) :: Γ)
    | none=>match o.op with
     | .load T x=>match ev Γ x with
      | some X=>match Q0J tb H T X with
       | some (A,_)=>some ((d,A) :: Γ)
       | none=>none
      | none=>none
     | _=>none) else none
def Q2Q (tb:Tab) (ops:Array Oper) (H:Heap) (i:Nat) (Γ:Env):List Nat:=
 match ops[i]? with
 | none=>[]
 | some o=>match Wm tb Γ H o.op with
  | some _=>[]
  | none=>match o.op with
   | .load T x=>match ev Γ x with
    | some X=>match Q0J tb H T X with
     | some (_,rl)=>rl
     | none=>[]
    | none=>[]
   | _=>[]
def Zb (tb:Tab) (ops:Array Oper) (H:Heap) (n:Nat) (g:Option (Nat×Bool)):Nat→List Nat→Env→Option (Env×List Nat)
 | 0,l,Γ=>some (Γ,l)
 | k+1,[],Γ=>none
 | k+1,i :: l,Γ=>match (ops[i]?).map (·.guard) with
  | some g'=>if g'=g then (match Q45 tb ops H n i Γ with
    | some Γ'=>Zb tb ops H n g k l Γ'
    | none=>none) else none
  | none=>none
section
variable {P:Program} {B:Base} {tb:Tab} {Γ Γ':Env} {H:Heap} {nl:Nat} {o:Oper} {ops:Array Oper} {Q:Exit→Act→World→Prop}
theorem Zp (htb:QI P tb) {i n:Nat} (h:Q45 tb ops H n i Γ=some Γ'):∃o d A rl,ops[i]?=some o∧o.dst=some d∧d.blt n=true∧Γ'=(d,A) :: Γ∧(∀B:Base,Rd P B Γ H nl o A rl)∧(rl=none∨rl=some (Q2Q tb ops H i Γ)):=by
 unfold Q45 at h
 split at h
 ·cases h
 ·rename_i o ho
  split at h
  ·cases h
  ·rename_i d hd
   split at h
   ·rename_i hlt
    split at h
    ·rename_i A hA;cases h
     exact⟨o,d,A,none,ho,hd,hlt,rfl,fun B=>Rd.p htb hA,.inl rfl⟩
    ·rename_i hA
     split at h
     ·rename_i T x hop
      split at h
      ·rename_i X hX
       split at h
       ·rename_i A rl hL;cases h
        refine⟨o,d,A,some rl,ho,hd,hlt,rfl,fun B=>Rd.l htb hop hX hL,.inr ?_⟩
        rw [hop] at hA
        simp only [Q2Q,ho,hA,hop,hX,hL]
       ·cases h
      ·cases h
     ·cases h
   ·cases h
theorem Q2x {t d:Nat} {A:AVal} (h:d.beq t=false):find ((d,A) :: Γ) t=find Γ t:=by simp [find,h]
theorem U.ps (k:Nat) (htb:QI P tb) {l l':List Nat} (h:Zb tb ops H B.n none k l Γ=some (Γ',l')) (kk:St B Γ' H nl (wpOps P ops Q l')):St B Γ H nl (wpOps P ops Q l):=by
 induction k generalizing l Γ with
 | zero=>simp only [Zb,Option.some.injEq,Prod.mk.injEq] at h;obtain⟨rfl,rfl⟩:=h;exact kk
 | succ k ih=>
  cases l with
  | nil=>cases h
  | cons i l=>
   simp only [Zb] at h
   split at h
   ·rename_i g' hg
    split at h
    ·rename_i hgg;subst hgg
     split at h
     ·rename_i Γ1 h1
      obtain⟨o,d,A,rl,ho,hd,hlt,rfl,hrd,_⟩:=Zp (nl:=nl) htb h1
      simp only [ho,Option.map_some,Option.some.injEq] at hg
      exact U.rd (hrd B) ho (.none hg) hd hlt (ih h)
     ·cases h
    ·cases h
   ·cases h
def Q3X (ops:Array Oper) (t:Nat):Nat→List Nat→Bool
 | 0,_=>true
 | k+1,i :: l=>(match ops[i]? with
  | some o=>(match o.dst with
   | some d=>!(d.beq t)
   | none=>true)
  | none=>true)&&Q3X ops t k l
 | _+1,[]=>true
theorem U.pg (k j:Nat) (want:Bool) (t:Nat) {b:Bool} (hb:b=want) (htb:QI P tb) {l l':List Nat} (hs:Z3 ops j=some t) (hf:find Γ t=some (.v (.bool b))) (hk:Q3X ops t k l=true) (h:Zb tb ops H B.n (some (j,want)) k l Γ=some (Γ',l')) (kk:St B Γ' H nl (wpOps P ops Q l')):St B Γ H nl (wpOps P ops Q l):=by
 induction k generalizing l Γ with
 | zero=>simp only [Zb,Option.some.injEq,Prod.mk.injEq] at h;obtain⟨rfl,rfl⟩:=h;exact kk
 | succ k ih=>
  cases l with
  | nil=>cases h
  | cons i l=>
   simp only [Zb] at h
   simp only [Q3X,Bool.and_eq_true] at hk
   split at h
   ·rename_i g' hg
    split at h
    ·rename_i hgg;subst hgg
     split at h
     ·rename_i Γ1 h1
      obtain⟨o,d,A,rl,ho,hd,hlt,rfl,hrd,_⟩:=Zp (nl:=nl) htb h1
      simp only [ho,Option.map_some,Option.some.injEq] at hg
      have hdt:d.beq t=false:=by simpa [ho,hd] using hk.1
      exact U.rd (hrd B) ho (.take j want t b hb hg hs hf) hd hlt (ih (by rw [Q2x hdt];exact hf) hk.2 h)
     ·cases h
    ·cases h
   ·cases h
def Z5 (ops:Array Oper) (n:Nat) (g:Nat×Bool) (t:Nat):Nat→List Nat→Env→Option (Env×List Nat)
 | 0,l,Γ=>some (Γ,l)
 | k+1,[],Γ=>none
 | k+1,i :: l,Γ=>match ops[i]? with
  | some o=>if o.guard=some g then (match o.dst with
    | some d=>if d.blt n&&!(d.beq t) then Z5 ops n g t k l ((d,.v undef) :: Γ) else none
    | none=>Z5 ops n g t k l Γ) else none
  | none=>none
theorem U.sks (k j:Nat) (want:Bool) (t:Nat) {b:Bool} (hb:b=!want) {l l':List Nat} (hs:Z3 ops j=some t) (hf:find Γ t=some (.v (.bool b))) (h:Z5 ops B.n (j,want) t k l Γ=some (Γ',l')) (kk:St B Γ' H nl (wpOps P ops Q l')):St B Γ H nl (wpOps P ops Q l):=by
 induction k generalizing l Γ with
 | zero=>simp only [Z5,Option.some.injEq,Prod.mk.injEq] at h;obtain⟨rfl,rfl⟩:=h;exact kk
 | succ k ih=>
  cases l with
  | nil=>cases h
  | cons i l=>
   simp only [Z5] at h
   split at h
   ·rename_i o ho
    split at h
    ·rename_i hg
     split at h
     ·rename_i d hd
      split at h
      ·rename_i hc
       simp only [Bool.and_eq_true,Bool.not_eq_true'] at hc
       exact U.skip ho (.skip j want t b hb hg hs hf) hd hc.1 (ih (by rw [Q2x hc.2];exact hf) h)
      ·cases h
     ·rename_i hd
      exact U.skip' ho (.skip j want t b hb hg hs hf) hd (ih hf h)
    ·cases h
   ·cases h
theorem U.sku (k j:Nat) (want:Bool) (t:Nat) {l l':List Nat} (hs:Z3 ops j=some t) (hf:find Γ t=some (.v undef)) (h:Z5 ops B.n (j,want) t k l Γ=some (Γ',l')) (kk:St B Γ' H nl (wpOps P ops Q l')):St B Γ H nl (wpOps P ops Q l):=by
 induction k generalizing l Γ with
 | zero=>simp only [Z5,Option.some.injEq,Prod.mk.injEq] at h;obtain⟨rfl,rfl⟩:=h;exact kk
 | succ k ih=>
  cases l with
  | nil=>cases h
  | cons i l=>
   simp only [Z5] at h
   split at h
   ·rename_i o ho
    split at h
    ·rename_i hg
     split at h
     ·rename_i d hd
      split at h
      ·rename_i hc
       simp only [Bool.and_eq_true,Bool.not_eq_true'] at hc
       exact U.skip ho (.und j want t hg hs hf) hd hc.1 (ih (by rw [Q2x hc.2];exact hf) h)
      ·cases h
     ·rename_i hd
      exact U.skip' ho (.und j want t hg hs hf) hd (ih hf h)
    ·cases h
   ·cases h
/-! ## in an order that is drawn -/
section
variable {z:Nat} {ws:World} {M':Nat→Prop} {Lp Ms:List Nat} {g:Bool} {fuel:Nat} {listed:Array Bool}
def YR (ops:Array Oper) (z:Nat):List (Nat×List Nat)→Array Bool→Bool
 | [],_=>true
 | (i,ch) :: r,listed=>Region.free .any ops listed i&&(Region.ready .any ops listed).contains i&&WR ops listed z ch i&&YR ops z r (listed.setIfInBounds i true)
def Q2M:List (Nat×List Nat)→Array Bool→Array Bool
 | [],l=>l
 | (i,_) :: r,l=>Q2M r (l.setIfInBounds i true)
def Q15 (tb:Tab) (ops:Array Oper) (H:Heap) (n:Nat) (g:Bool) (Lp:List Nat):List (Nat×List Nat)→Env→Option Env
 | [],Γ=>some Γ
 | (i,_) :: r,Γ=>match (ops[i]?).map (·.guard) with
  | some none=>if rdOk' g Lp (Q2Q tb ops H i Γ) then (match Q45 tb ops H n i Γ with
    | some Γ'=>Q15 tb ops H n g Lp r Γ'
    | none=>none) else none
  | _=>none
where rdOk' (g:Bool) (Lp:List Nat):List Nat→Bool
 | []=>true
 | l=>!g&&l.all fun x=>Lp.contains x
theorem D.ps0 (is:List (Nat×List Nat)) (hQ:NoPanicQ Q) (hS:Region.noSelect ops=true) (htb:QI P tb) (h:Q15 tb ops H B.n g Lp is Γ=some Γ') (hg:g=false) (ho:YR ops z is listed=true)
  (kk:StD B ws M' Lp Ms g Γ' H nl (Qz P ops Q (Kp ws M') z fuel (Q2M is listed))):StD B ws M' Lp Ms g Γ H nl (Qz P ops Q (Kp ws M') z (fuel+is.length) listed):=by
 subst hg
 induction is generalizing Γ listed with
 | nil=>simp only [Q15,Option.some.injEq] at h;subst h;exact kk
 | cons p r ih=>
  obtain⟨i,ch⟩:=p
  simp only [Q15] at h
  simp only [YR,Bool.and_eq_true] at ho
  split at h
  ·rename_i hgd
   split at h
   ·rename_i hrd
    split at h
    ·rename_i Γ1 h1
     obtain⟨o,d,A,rl,hoo,hd,hlt,rfl,hR,hrl⟩:=Zp (nl:=nl) htb h1
     simp only [hoo,Option.map_some,Option.some.injEq] at hgd
     refine D.rd (g:=false) hQ (hR B) hoo (.none hgd) hd hlt ?_ hS ho.1.1.1 ho.1.1.2 ho.1.2 rfl (ih ho.2 h kk)
     rcases hrl with e | e <;> subst e
     ·rfl
     ·simp only [rdOk]
      generalize Q2Q tb ops H i Γ=l at hrd
      cases l with
      | nil=>rfl
      | cons a l=>exact hrd
    ·cases h
   ·cases h
  ·cases h
theorem D.ps (m:Nat) (is:List (Nat×List Nat)) (hm:is.length=m) (hQ:NoPanicQ Q) (hS:Region.noSelect ops=true) (htb:QI P tb) (h:Q15 tb ops H B.n g Lp is Γ=some Γ') (hg:g=false) (ho:YR ops z is listed=true)
  (kk:StD B ws M' Lp Ms g Γ' H nl (Qz P ops Q (Kp ws M') z fuel (Q2M is listed))):StD B ws M' Lp Ms g Γ H nl (Qz P ops Q (Kp ws M') z (fuel+m) listed):=by
 subst hm;exact D.ps0 is hQ hS htb h hg ho kk
theorem D.q {A:AVal} {rl:Option (List Nat)} {d:Nat} (i:Nat) (ch:List Nat) (hQ:NoPanicQ Q) (hs:Region.noSelect ops=true) (ho:ops[i]?=some o) (hw:Xh ops Γ o true) (hd:o.dst=some d) (hlt:d.blt B.n=true) (h:Rd P B Γ H nl o A rl)
  (hrl:rdOk g Lp rl=true) (hc:YR ops z [(i,ch)] listed=true)
  (k:StD B ws M' Lp Ms g ((d,A) :: Γ) H nl (Qz P ops Q (Kp ws M') z fuel (listed.setIfInBounds i true))):StD B ws M' Lp Ms g Γ H nl (Qz P ops Q (Kp ws M') z (fuel+1) listed):=by
 simp only [YR,Bool.and_eq_true,Bool.and_true] at hc
 exact D.rd hQ h ho hw hd hlt hrl hs hc.1.1 hc.1.2 hc.2 rfl k
theorem D.sq {d:Nat} (i:Nat) (ch:List Nat) (hQ:NoPanicQ Q) (hs:Region.noSelect ops=true) (ho:ops[i]?=some o) (hw:Xh ops Γ o false) (hd:o.dst=some d) (hlt:d.blt B.n=true) (hc:YR ops z [(i,ch)] listed=true)
  (k:StD B ws M' Lp Ms g ((d,.v undef) :: Γ) H nl (Qz P ops Q (Kp ws M') z fuel (listed.setIfInBounds i true))):StD B ws M' Lp Ms g Γ H nl (Qz P ops Q (Kp ws M') z (fuel+1) listed):=by
 simp only [YR,Bool.and_eq_true,Bool.and_true] at hc
 exact D.skip hQ ho hw hd hlt hs hc.1.1 hc.1.2 hc.2 rfl k
end
end
def getG (Γ:Env):List Nat→Option (List AVal)
 | []=>some []
 | t :: r=>match find Γ t,getG Γ r with
  | some A,some l=>some (A :: l)
  | _,_=>none
theorem ChkG.eqs {H:Heap} {ρ:List (Option Nat)} {nl:Nat} {fz:Bool} {Γ:Env}:∀{Γ':Env},getG Γ (Γ'.map (·.1))=some (AVal.mlL (rlab ρ nl) (Γ'.map (·.2)))→ChkG H ρ nl fz Γ Γ'
 | [],_=>trivial
 | (t,A) :: r,h=>by
  simp only [List.map_cons,getG,AVal.mlL] at h
  split at h
  ·rename_i A' l h1 h2
   simp only [Option.some.injEq,List.cons.injEq] at h
   obtain⟨rfl,rfl⟩:=h
   exact⟨⟨_,h1,.eq rfl⟩,ChkG.eqs h2⟩
  ·cases h
end Go.Taq
