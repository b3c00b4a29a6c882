/- The library of the generated walks, part F: labels under other numbers, casts, contracts and calls. -/
import Derived.Test.YtpckofngkabgbaaGreatLibE
set_option linter.unusedVariables false
namespace Go.Taq
open Go
def AVal.isRo:AVal→Bool
 | .v _ | .sl _ _ _ | .rp _ | .rm _ _ _ | .sv _=>true
 | _=>false
theorem On.ro_of {w0 w:World} {ok:Nat→Prop} {A:AVal} {x:Value} {F:Nat→Prop} (h:On w0 ok w A x F) (hA:A.isRo=true):Ro w0 ok A x:=by
 cases h with
 | ro F h=>exact h
 | _=>cases hA
theorem Dn.ro_of {w0:World} {ok:Nat→Prop} {β:List Value} {A:AVal} {x:Value} (h:Dn w0 ok β A x) (hA:A.isRo=true):Ro w0 ok A x:=by
 cases h with
 | ro h=>exact h
 | _=>cases hA
/-! ## owned data that becomes read only -/
mutual
inductive Fz:AVal→AVal→Prop where
 | ro {A:AVal} (h:A.isRo=true):Fz A A
 | os {α:Type} {n:Nat} {enc enc':α→List AVal} {xs:List α} (h:∀x:α,FzL (enc x) (enc' x)):Fz (.os n enc xs) (.sl n enc' xs)
 | om {κ α:Type} {ke:κ→Value} {ve ve':α→AVal} {xs:List (κ×α)} (h:∀x:α,Fz (ve x) (ve' x)):Fz (.om ke ve xs) (.rm ke ve' xs)
inductive FzL:List AVal→List AVal→Prop where
 | nil:FzL [] []
 | cons {A A':AVal} {r r':List AVal} (h:Fz A A') (hr:FzL r r'):FzL (A :: r) (A' :: r')
end
theorem FzL.get:∀{c c':List AVal},FzL c c'→c.length=c'.length∧∀(j:Nat) (A':AVal),c'[j]?=some A'→∃A,c[j]?=some A∧Fz A A'
 | _,_,.nil=>⟨rfl,by simp⟩
 | _,_,.cons h hr=>by
  obtain⟨e1,e2⟩:=hr.get
  refine⟨by simp [e1],fun j C hC=>?_⟩
  cases j with
  | zero=>simp at hC;subst hC;exact⟨_,rfl,h⟩
  | succ j=>obtain⟨S',h3,h4⟩:=e2 j C (by simpa using hC);exact⟨S',by simpa using h3,h4⟩
theorem Fz.ro_eq {w:World} {ok:Nat→Prop} {A A':AVal} {x:Value} (h:Fz A A') (hr:Ro w ok A x):A'=A:=by
 cases h with
 | ro=>rfl
 | os=>cases hr
 | om=>cases hr
theorem On.freeze {w0 w:World} {ok ok':Nat→Prop} (hk:∀b,ok b→w.heap[b]?=w0.heap[b]?) (ho:∀b,ok b→ok' b) {A:AVal} {x:Value} {F:Nat→Prop} (h:On w0 ok w A x F):
  ∀{A':AVal},Fz A A'→(∀b,F b→ok' b)→Ro w ok' A' x:=by
 induction h with
 | ro F h=>
  intro A' hf _
  rw [hf.ro_eq h]
  exact (h.later (fun b hb _=>hk b hb)).mono ho
 | osNil n enc F p=>
  intro A' hf _
  cases hf with
  | ro h=>cases h
  | os h=>exact .slNil _ _ p
 | os n enc xs b off cap c T F G hb hw hlen hcap hn hG hd hr ih=>
  intro A' hf hF
  cases hf with
  | ro h=>cases h
  | os h=>
   rename_i enc'
   refine .sl n enc' xs b off cap (fun i j=>c.getD (off+i*n+j) undef) (hF b hb) hlen (fun i x hx=>by rw [←(h x).get.1];exact hn i x hx) (fun i j x A' hx hA'=>?_) (fun i j x A' hx hA'=>?_)
   ·have hj:=(List.getElem?_eq_some_iff.1 hA').1
    rw [←(h x).get.1,hn i x hx] at hj
    have hi:=(List.getElem?_eq_some_iff.1 hx).1
    have hlt:off+i*n+j<c.size:=by
     have:(i+1)*n≤cap*n:=Nat.mul_le_mul_right _ (by omega)
     rw [Nat.succ_mul] at this;omega
    exact XB hw hlt
   ·obtain⟨A,hA,hf'⟩:=(h x).get.2 j A' hA'
    exact ih i j x A hx hA hf' (fun k hk'=>hF k (hG i j k hk').1)
 | arr=>
  intro A' hf _
  cases hf with
  | ro h=>cases h
 | om ke ve xs b es clock F G hb hw he hG hd hr ih=>
  intro A' hf hF
  cases hf with
  | ro h=>cases h
  | om h=>exact .rm ke _ xs b es clock (hF b hb) hw he (fun i x e hx he'=>ih i x e hx he' (h x.2) (fun k hk'=>hF k (hG i k hk').1))
/-! ## labels under other numbers -/
mutual
def AVal.ml (f:Nat→Nat):AVal→AVal
 | .v x=>.v x
 | .p l off=>.p (f l) off
 | .rp cs=>.rp cs
 | .sl n enc xs=>.sl n enc xs
 | .os n enc xs=>.os n enc xs
 | .o l=>.o (f l)
 | .ep l n i off=>.ep (f l) n i off
 | .vw l n i m=>.vw (f l) n i m
 | .agg cs=>.agg (AVal.mlL f cs)
 | .tup cs=>.tup (AVal.mlL f cs)
 | .fn g a b=>.fn g (AVal.mlL f a) (AVal.mlL f b)
 | .arr n enc xs=>.arr n enc xs
 | .om ke ve xs=>.om ke ve xs
 | .rm ke ve xs=>.rm ke ve xs
 | .sv cs=>.sv cs
def AVal.mlL (f:Nat→Nat):List AVal→List AVal
 | []=>[]
 | A :: r=>A.ml f :: AVal.mlL f r
end
theorem mlL_eq (f:Nat→Nat):∀cs:List AVal,AVal.mlL f cs=cs.map (AVal.ml f)
 | []=>by simp [AVal.mlL]
 | A :: r=>by simp [AVal.mlL,mlL_eq f r]
def Res.ml (f:Nat→Nat):Res→Res
 | .box cells=>.box (AVal.mlL f cells)
 | .val A=>.val A
 | .lent enc xs L=>.lent enc xs (L.map fun p=>(p.1,f p.2))
 | .lentm ke ve xs L=>.lentm ke ve xs (L.map fun p=>(p.1,f p.2))
 | .rng ke ve xs seen li=>.rng ke ve xs seen (f li)
 | .itn=>.itn
 | .rngm ke ve xs seen=>.rngm ke ve xs seen
 | .abs Φ=>.abs Φ
section
variable {w:World} {ok:Nat→Prop} {β β':List Value} {f:Nat→Nat}
mutual
theorem Dn.of_ml (hf:∀(l:Nat) (v:Value),β[f l]?=some v→β'[l]?=some v):∀(A:AVal) (x:Value),Dn w ok β (A.ml f) x→Dn w ok β' A x
 | .v y,x,h=>by simp only [AVal.ml] at h;exact .ro (h.ro_of rfl)
 | .rp cs,x,h=>by simp only [AVal.ml] at h;exact .ro (h.ro_of rfl)
 | .sl n enc xs,x,h=>by simp only [AVal.ml] at h;exact .ro (h.ro_of rfl)
 | .rm ke ve xs,x,h=>by simp only [AVal.ml] at h;exact .ro (h.ro_of rfl)
 | .sv cs,x,h=>by simp only [AVal.ml] at h;exact .ro (h.ro_of rfl)
 | .arr n enc xs,x,h=>by
  simp only [AVal.ml] at h
  cases h with
  | ro h=>cases h
 | .om ke ve xs,x,h=>by
  simp only [AVal.ml] at h
  cases h with
  | ro h=>cases h
 | .os n enc xs,x,h=>by
  simp only [AVal.ml] at h
  cases h with
  | ro h=>cases h
 | .p l off,x,h=>by simp only [AVal.ml] at h;obtain⟨b,hb,rfl⟩:=h.p_inv;exact .p _ _ _ (hf _ _ hb)
 | .o l,x,h=>by simp only [AVal.ml] at h;exact .o _ _ (hf _ _ h.o_inv) (h.one rfl)
 | .ep l n i off,x,h=>by simp only [AVal.ml] at h;obtain⟨b,o,len,cap,hb,rfl⟩:=h.ep_inv;exact .ep _ _ _ _ _ _ _ _ (hf _ _ hb)
 | .vw l n i m,x,h=>by simp only [AVal.ml] at h;exact .vw _ _ _ _ _ (h.vw_inv.map fun v=>hf l v)
 | .agg cs,x,h=>by
  simp only [AVal.ml] at h
  obtain⟨vs,rfl,hl,hd⟩:=h.agg_inv
  have:=Dn.of_mlL hf cs vs.toList (by simpa using hl) (fun j A hA=>by simpa [Array.getD_eq_getD_getElem?] using hd j A hA)
  exact .agg cs vs (by simpa [mlL_eq] using hl) (fun j A hA=>by simpa [Array.getD_eq_getD_getElem?] using this j A hA)
 | .tup cs,x,h=>by
  simp only [AVal.ml] at h
  obtain⟨vs,rfl,hl,hd⟩:=h.tup_inv
  have:=Dn.of_mlL hf cs vs.toList (by simpa using hl) (fun j A hA=>by simpa [Array.getD_eq_getD_getElem?] using hd j A hA)
  exact .tup cs vs (by simpa [mlL_eq] using hl) (fun j A hA=>by simpa [Array.getD_eq_getD_getElem?] using this j A hA)
 | .fn g a b,x,h=>by
  simp only [AVal.ml] at h
  cases h with
  | ro h=>cases h
  | fn _ _ _ us vs hl h hl' h'=>
   have h1:=Dn.of_mlL hf a us.toList (by simpa using hl) (fun j A hA=>by simpa [Array.getD_eq_getD_getElem?] using h j A hA)
   have h2:=Dn.of_mlL hf b vs.toList (by simpa using hl') (fun j A hA=>by simpa [Array.getD_eq_getD_getElem?] using h' j A hA)
   exact .fn g a b us vs (by simpa [mlL_eq] using hl) (fun j A hA=>by simpa [Array.getD_eq_getD_getElem?] using h1 j A hA) (by simpa [mlL_eq] using hl') (fun j A hA=>by simpa [Array.getD_eq_getD_getElem?] using h2 j A hA)
theorem Dn.of_mlL (hf:∀(l:Nat) (v:Value),β[f l]?=some v→β'[l]?=some v):∀(cs:List AVal) (vs:List Value),(AVal.mlL f cs).length=vs.length→(∀(j:Nat) (A:AVal),(AVal.mlL f cs)[j]?=some A→Dn w ok β A (vs[j]?.getD undef)) →
  ∀(j:Nat) (A:AVal),cs[j]?=some A→Dn w ok β' A (vs[j]?.getD undef)
 | [],vs,_,_,j,A,hA=>by simp at hA
 | C :: r,vs,hl,hd,j,A,hA=>by
  obtain⟨v,vs,rfl⟩:∃v vs',vs=v :: vs':=by
   cases vs with
   | nil=>simp [AVal.mlL] at hl
   | cons v vs=>exact⟨v,vs,rfl⟩
  simp only [AVal.mlL] at hl hd
  cases j with
  | zero=>
   simp at hA;subst hA
   have:=Dn.of_ml hf C v (by simpa using hd 0 _ rfl)
   simpa using this
  | succ j=>
   have:=Dn.of_mlL hf r vs (by simpa using hl) (fun j A hA=>by simpa using hd (j+1) A (by simpa using hA)) j A (by simpa using hA)
   simpa using this
end
theorem Dn.lift {w0 w:World} {ok ok':Nat→Prop} {β:List Value} {A:AVal} {x:Value} (hk:∀b,ok b→w.heap[b]?=w0.heap[b]?) (ho:∀b,ok b→ok' b) (h:Dn w0 ok β A x):Dn w ok' β A x:=by
 induction h with
 | ro h=>exact .ro ((h.later (fun b hb _=>hk b hb)).mono ho)
 | p l off b h=>exact .p _ _ _ h
 | o l x h h1=>exact .o _ _ h h1
 | ep l n i off b o len cap h=>exact .ep _ _ _ _ _ _ _ _ h
 | vw l n i m x h=>exact .vw _ _ _ _ _ h
 | agg cs vs hl _ ih=>exact .agg _ vs hl ih
 | tup cs vs hl _ ih=>exact .tup _ vs hl ih
 | fn g fs cs us vs hl _ hl' _ ih ih'=>exact .fn g _ _ us vs hl ih hl' ih'
theorem Dn.ml (hf:∀(l:Nat) (v:Value),β[l]?=some v→β'[f l]?=some v) {A:AVal} {x:Value} (h:Dn w ok β A x):Dn w ok β' (A.ml f) x:=by
 induction h with
 | ro h=>cases h with
  | v=>exact .ro (.v _)
  | slNil n enc p=>exact .ro (.slNil n enc p)
  | sl n enc xs b off cap f hb hcap hn hc hr=>exact .ro (.sl n enc xs b off cap f hb hcap hn hc hr)
  | rp cells b off f hb hc hr=>exact .ro (.rp cells b off f hb hc hr)
  | rmNil ke ve=>exact .ro (.rmNil ke ve)
  | rm ke ve xs b es clock hb hw he hr=>exact .ro (.rm ke ve xs b es clock hb hw he hr)
  | sv cs vs hl h=>exact .ro (.sv cs vs hl h)
 | p l off b h=>exact .p _ _ _ (hf _ _ h)
 | o l x h h1=>exact .o _ _ (hf _ _ h) h1
 | ep l n i off b o len cap h=>exact .ep _ _ _ _ _ _ _ _ (hf _ _ h)
 | vw l n i m x h=>exact .vw _ _ _ _ _ (h.map fun v=>hf l v)
 | agg cs vs hl _ ih=>
  refine .agg _ vs (by simpa [mlL_eq] using hl) (fun j A hA=>?_)
  simp only [mlL_eq,List.getElem?_map,Option.map_eq_some_iff] at hA
  obtain⟨C,hC,rfl⟩:=hA;exact ih j C hC
 | tup cs vs hl _ ih=>
  refine .tup _ vs (by simpa [mlL_eq] using hl) (fun j A hA=>?_)
  simp only [mlL_eq,List.getElem?_map,Option.map_eq_some_iff] at hA
  obtain⟨C,hC,rfl⟩:=hA;exact ih j C hC
 | fn g fs cs us vs hl _ hl' _ ih ih'=>
  refine .fn g _ _ us vs (by simpa [mlL_eq] using hl) (fun j A hA=>?_) (by simpa [mlL_eq] using hl') (fun j A hA=>?_)
  ·simp only [mlL_eq,List.getElem?_map,Option.map_eq_some_iff] at hA
   obtain⟨C,hC,rfl⟩:=hA;exact ih j C hC
  ·simp only [mlL_eq,List.getElem?_map,Option.map_eq_some_iff] at hA
   obtain⟨C,hC,rfl⟩:=hA;exact ih' j C hC
end
/-! ## lists of numbers -/
def memB (x:Nat):List Nat→Bool
 | []=>false
 | y :: r=>bif x.beq y then true else memB x r
def ndup:List Nat→Bool
 | []=>true
 | x :: r=>bif memB x r then false else ndup r
theorem Q3K {x:Nat}:∀{l:List Nat},x∈l→memB x l=true
 | y :: r,h=>by
  rw [memB]
  rcases List.mem_cons.1 h with e | e
  ·subst e;simp
  ·have:=Q3K e
   cases hb:x.beq y <;> simp [this]
theorem Zm:∀{l:List Nat},ndup l=true→l.Nodup
 | [],_=>List.nodup_nil
 | x :: r,h=>by
  rw [ndup] at h
  cases hm:memB x r with
  | true=>simp [hm] at h
  | false=>
   simp [hm] at h
   exact List.nodup_cons.2 ⟨(fun hx=>by rw [Q3K hx] at hm;cases hm),Zm h⟩
/-! ## casts -/
def rlab (ρ:List (Option Nat)) (z l:Nat):Nat:=
 match ρ[l]? with
 | some (some m)=>m
 | _=>z
def W9:List (Option Nat)→Nat→Bool
 | [],_=>false
 | some m :: r,l=>bif m.beq l then true else W9 r l
 | none :: r,l=>W9 r l
theorem Q1r {l:Nat}:∀{ρ:List (Option Nat)},some l∈ρ→W9 ρ l=true
 | some m :: r,h=>by
  rw [W9]
  rcases List.mem_cons.1 h with e | e
  ·cases e;simp
  ·have:=Q1r e
   cases hb:m.beq l <;> simp [this]
 | none :: r,h=>by
  rw [W9]
  rcases List.mem_cons.1 h with e | e
  ·cases e
  ·exact Q1r e
def rlβ (ρ:List (Option Nat)) (β:List Value):List Value:=ρ.map fun m=>match m with
 | some m=>(β[m]?).getD undef
 | none=>.slice none 0 0
theorem Q0d {ρ:List (Option Nat)} {β:List Value} {l:Nat} {x:Value} (h:β[rlab ρ β.length l]?=some x):(rlβ ρ β)[l]?=some x:=by
 unfold rlab at h
 split at h
 ·rename_i m hm;simp [rlβ,hm,h]
 ·simp at h
theorem Ga {ρ:List (Option Nat)} {β:List Value} {l m:Nat} {x:Value} (hm:ρ[l]?=some (some m)) (h:β[m]?=some x):(rlβ ρ β)[l]?=some x:=by simp [rlβ,hm,h]
mutual
inductive Cs (H:Heap) (ρ:List (Option Nat)) (nl:Nat) (fz:Bool):AVal→AVal→Prop where
 | eq {A A':AVal} (h:A=A'.ml (rlab ρ nl)):Cs H ρ nl fz A A'
 | nil {α:Type} (n:Nat) (enc:α→List AVal) (l c:Nat) (h:l=0∧c=0):Cs H ρ nl fz (.v (.slice none l c)) (.sl n enc [])
 | nilO {i:Nat} (l c:Nat) (h:l=0∧c=0) (hi:ρ[i]?=some none):Cs H ρ nl fz (.v (.slice none l c)) (.o i)
 | nilM {κ α:Type} (ke:κ→Value) (ve:α→AVal):Cs H ρ nl fz (.v (.map none)) (.rm ke ve [])
 | fz {l:Nat} {A A':AVal} (hf:fz=true) (hl:find H l=some (.val A)) (hk:W9 ρ l=false) (h:Fz A A'):Cs H ρ nl fz (.o l) A'
 | fzp {l off:Nat} {cells cs cs':List AVal} (hf:fz=true) (hl:find H l=some (.box cells)) (hk:W9 ρ l=false) (hd:cells.drop off=cs) (h:CsL H ρ nl fz cs cs') (hr:cs'.all AVal.isRo=true):Cs H ρ nl fz (.p l off) (.rp cs')
 | agg {cs cs':List AVal} (h:CsL H ρ nl fz cs cs'):Cs H ρ nl fz (.agg cs) (.agg cs')
 | tup {cs cs':List AVal} (h:CsL H ρ nl fz cs cs'):Cs H ρ nl fz (.tup cs) (.tup cs')
 | fn {g:Fn} {a a' b b':List AVal} (h:CsL H ρ nl fz a a') (h':CsL H ρ nl fz b b'):Cs H ρ nl fz (.fn g a b) (.fn g a' b')
 | fnv (g:Fn):Cs H ρ nl fz (.fn g [] []) (.v (.func g #[] #[]))
inductive CsL (H:Heap) (ρ:List (Option Nat)) (nl:Nat) (fz:Bool):List AVal→List AVal→Prop where
 | nil:CsL H ρ nl fz [] []
 | cons {A A':AVal} {r r':List AVal} (h:Cs H ρ nl fz A A') (hr:CsL H ρ nl fz r r'):CsL H ρ nl fz (A :: r) (A' :: r')
 | eq {cs cs':List AVal} (h:cs=AVal.mlL (rlab ρ nl) cs'):CsL H ρ nl fz cs cs'
end
inductive ChkS (H:Heap) (ρ:List (Option Nat)) (nl:Nat) (fz:Bool):Option Nat→Res→Prop where
 | nil {α:Type} (n:Nat) (enc:α→List AVal):ChkS H ρ nl fz none (.val (.os n enc []))
 | box {l:Nat} {c c':List AVal} (h:find H l=some (.box c)) (hc:CsL H ρ nl fz c c'):ChkS H ρ nl fz (some l) (.box c')
 | val {l:Nat} {A:AVal} (h:find H l=some (.val A)):ChkS H ρ nl fz (some l) (.val A)
 | endR {l:Nat} {κ γ:Type} {ke:κ→Value} {ve:γ→AVal} {xs:List (κ×γ)} {seen:List κ} {li:Nat} (h:find H l=some (.rng ke ve xs seen li)):ChkS H ρ nl fz (some l) (.val (.om ke ve xs))
 | lent {α:Type} {enc:α→List AVal} {xs:List α} {L L':List (Nat×Nat)} {l:Nat} (h:find H l=some (.lent enc xs L)) (hL:L=L'.map fun p=>(p.1,rlab ρ nl p.2)):ChkS H ρ nl fz (some l) (.lent enc xs L')
 | lentm {κ α:Type} {ke:κ→Value} {ve:α→AVal} {xs:List (κ×α)} {L L':List (κ×Nat)} {l:Nat} (h:find H l=some (.lentm ke ve xs L)) (hL:L=L'.map fun p=>(p.1,rlab ρ nl p.2)):ChkS H ρ nl fz (some l) (.lentm ke ve xs L')
 | rng {κ α:Type} {ke:κ→Value} {ve:α→AVal} {xs:List (κ×α)} {seen:List κ} {li li' l:Nat} (h:find H l=some (.rng ke ve xs seen li)) (hli:li=rlab ρ nl li'):ChkS H ρ nl fz (some l) (.rng ke ve xs seen li')
 | itn {l:Nat} (h:find H l=some .itn):ChkS H ρ nl fz (some l) .itn
 | rngm {κ α:Type} {ke:κ→Value} {ve:α→AVal} {xs:List (κ×α)} {seen:List κ} {l:Nat} (h:find H l=some (.rngm ke ve xs seen)):ChkS H ρ nl fz (some l) (.rngm ke ve xs seen)
 | abs {l:Nat} {Φ:World→(Nat→Prop)→(Nat→Prop)→Prop} (h:find H l=some (.abs Φ)):ChkS H ρ nl fz (some l) (.abs Φ)
def ChkH (H:Heap) (ρ:List (Option Nat)) (nl:Nat) (fz:Bool):Heap→Prop
 | []=>True
 | (i,R) :: r=>(∃m,ρ[i]?=some m∧ChkS H ρ nl fz m R)∧ChkH H ρ nl fz r
def ChkG (H:Heap) (ρ:List (Option Nat)) (nl:Nat) (fz:Bool) (Γ:Env):Env→Prop
 | []=>True
 | (t,A) :: r=>(∃S,find Γ t=some S∧Cs H ρ nl fz S A)∧ChkG H ρ nl fz Γ r
theorem ChkG.get {H:Heap} {ρ:List (Option Nat)} {nl:Nat} {fz:Bool} {Γ:Env}:∀{Γ':Env},ChkG H ρ nl fz Γ Γ'→∀{t:Nat} {A:AVal},find Γ' t=some A→∃S,find Γ t=some S∧Cs H ρ nl fz S A
 | [],_,_,_,h=>by simp [find] at h
 | (k,C) :: r,⟨h1,h2⟩,t,A,h=>by
  rw [find_cons] at h
  split at h
  ·rename_i e;subst e;cases h;exact h1
  ·exact h2.get h
/-! ## families of footprints -/
theorem HOk.fam {w0 w:World} {ok:Nat→Prop} {β:List Value}:∀{H:Heap} {F:Nat→Prop},HOk w0 ok β w H F →
  ∃Fl:Nat→Nat→Prop,(∀l R,find H l=some R→Xb w0 ok β w l (Fl l) R∧∀b,Fl l b→F b)∧∀l l' R R',l≠l'→find H l=some R→find H l'=some R'→∀b,Fl l b→Fl l' b→False
 | [],_,_=>⟨fun _ _=>False,fun l R h=>by simp [find] at h,fun _ _ _ _ _ h=>by simp [find] at h⟩
 | (k,S) :: H,F,⟨F1,F2,h1,h2,h12,hR,hH⟩=>by
  obtain⟨Fl,f1,f2⟩:=hH.fam
  refine⟨fun l b=>if k=l then F1 b else Fl l b,fun l R hl=>?_,fun l l' R R' hne hl hl' b hb hb'=>?_⟩
  ·rw [find_cons] at hl
   split at hl
   ·rename_i e;subst e;cases hl
    simp only [if_true];exact⟨hR,h1⟩
   ·rename_i e
    simp only [if_neg e];exact⟨(f1 l R hl).1,fun b hb=>h2 b ((f1 l R hl).2 b hb)⟩
  ·rw [find_cons] at hl hl'
   split at hl
   ·rename_i e;subst e
    rw [if_neg hne] at hl'
    simp only [if_true] at hb
    rw [if_neg hne] at hb'
    exact h12 b hb ((f1 _ _ hl').2 b hb')
   ·rename_i e
    rw [if_neg e] at hb
    split at hl'
    ·rename_i e';subst e'
     simp only [if_true] at hb'
     exact h12 b hb' ((f1 _ _ hl).2 b hb)
    ·rename_i e'
     rw [if_neg e'] at hb'
     exact f2 l l' R R' hne hl hl' b hb hb'
theorem Q1z:∀{H:Heap} {l:Nat} {R:Res},(H.map (·.1)).Nodup→(l,R)∈H→find H l=some R
 | (k,S) :: H,l,R,hn,h=>by
  simp only [List.map_cons,List.nodup_cons] at hn
  rw [find_cons]
  rcases List.mem_cons.1 h with e | e
  ·cases e;rw [if_pos rfl]
  ·have:k≠l:=fun e'=>by subst e';exact hn.1 (List.mem_map.2 ⟨_,e,rfl⟩)
   rw [if_neg this];exact Q1z hn.2 e
theorem HOk.sub {w0 w:World} {ok:Nat→Prop} {β:List Value} {H:Heap} {Fl:Nat→Nat→Prop} (f1:∀l R,find H l=some R→Xb w0 ok β w l (Fl l) R) (f2:∀l l' R R',l≠l'→find H l=some R→find H l'=some R'→∀b,Fl l b→Fl l' b→False):
  ∀{H':Heap},(∀x,x∈H'→find H x.1=some x.2)→(H'.map (·.1)).Nodup→HOk w0 ok β w H' (fun b=>∃x,x∈H'∧Fl x.1 b)
 | [],_,_=>trivial
 | (l,R) :: r,hf,hn=>by
  simp only [List.map_cons,List.nodup_cons] at hn
  refine⟨Fl l,fun b=>∃x,x∈r∧Fl x.1 b,fun b hb=>⟨(l,R),by simp,hb⟩,fun b ⟨x,hx,hb⟩=>⟨x,by simp [hx],hb⟩,fun b hb ⟨x,hx,hb'⟩=>?_,f1 l R (hf (l,R) (by simp)),HOk.sub f1 f2 (fun x hx=>hf x (by simp [hx])) hn.2⟩
  have hne:l≠x.1:=fun e=>hn.1 (List.mem_map.2 ⟨x,hx,e.symm⟩)
  exact f2 _ _ _ _ hne (hf (l,R) (by simp)) (hf x (by simp [hx])) b hb hb'
theorem HOk.append {w0 w:World} {ok:Nat→Prop} {β:List Value} {H2:Heap} {F2:Nat→Prop} (h2:HOk w0 ok β w H2 F2):∀{H1:Heap} {F1:Nat→Prop},HOk w0 ok β w H1 F1→(∀b,F1 b→F2 b→False)→HOk w0 ok β w (H1++H2) (fun b=>F1 b∨F2 b)
 | [],F1,_,_=>h2.mono (fun b hb=>.inr hb)
 | (l,R) :: H1,F1,⟨G1,G2,g1,g2,g12,hR,hH⟩,hd=>
  ⟨G1,fun b=>G2 b∨F2 b,fun b hb=>.inl (g1 b hb),fun b hb=>hb.imp (g2 b) id,fun b hb hb'=>hb'.elim (g12 b hb) (hd b (g1 b hb)),hR,HOk.append h2 hH (fun b hb hb'=>hd b (g2 b hb) hb')⟩
/-! ## what a cast says -/
section
variable {w0 w:World} {ok ok2:Nat→Prop} {β:List Value} {H:Heap} {ρ:List (Option Nat)} {fz:Bool} {Fl:Nat→Nat→Prop}
mutual
theorem Cs.dn (hk:∀b,ok b→w.heap[b]?=w0.heap[b]?) (ho:∀b,ok b→ok2 b) (f1:∀l R,find H l=some R→Xb w0 ok β w l (Fl l) R) (f3:fz=true→∀l R,find H l=some R→W9 ρ l=false→∀b,Fl l b→ok2 b):
  ∀{A A':AVal} {x:Value},Cs H ρ β.length fz A A'→Dn w0 ok β A x→Dn w ok2 (rlβ ρ β) A' x
 | A,A',x,.eq h,hd=>by
  subst h
  have hd':=Dn.of_ml (β':=rlβ ρ β) (fun l v h=>Q0d h) A' x hd
  exact hd'.lift hk ho
 | _,_,x,.nil n enc l c h,hd=>by
  obtain⟨rfl,rfl⟩:=h
  have:=hd.ro_of rfl;cases this;exact .ro (.slNil n enc none)
 | _,_,x,.nilO l c h hi,hd=>by
  obtain⟨rfl,rfl⟩:=h
  have:=hd.ro_of rfl;cases this;exact .o _ _ (by simp [rlβ,hi]) rfl
 | _,_,x,.nilM ke ve,hd=>by
  have:=hd.ro_of rfl;cases this;exact .ro (.rmNil ke ve)
 | _,_,x,.fz hf hl hkp h,hd=>by
  obtain⟨y,hy,hon⟩:=f1 _ _ hl
  have:=hd.o_inv
  rw [hy] at this;cases this
  exact .ro (hon.freeze hk ho h (f3 hf _ _ hl hkp))
 | _,_,x,.fnv g,hd=>by
  cases hd with
  | ro h=>cases h
  | fn f fs cs us vs hl h hl' h'=>
   have e1:us=#[]:=Array.eq_empty_of_size_eq_zero (by simpa using hl.symm)
   have e2:vs=#[]:=Array.eq_empty_of_size_eq_zero (by simpa using hl'.symm)
   subst e1;subst e2;exact .ro (.v _)
 | _,_,x,.fzp (off:=off) hf hl hkp hdr h hr,hd=>by
  obtain⟨b,hb,rfl⟩:=hd.p_inv
  obtain⟨b',c,T,hb',hw,hs,hdn,hFb⟩:=f1 _ _ hl
  rw [hb] at hb';cases hb'
  subst hdr
  have key:=CsL.dn hk ho f1 f3 h (vs:=(c.toList.drop off)) (by simp [hs]) (fun j A hA=>by
   rw [List.getElem?_drop] at hA
   have:=hdn _ A hA
   simpa [Array.getD_eq_getD_getElem?,List.getElem?_drop] using this)
  refine .ro (.rp _ b off (fun j=>c.getD (off+j) undef) (f3 hf _ _ hl hkp b hFb) (fun j A hA=>?_) (fun j A hA=>?_))
  ·have hj:=(List.getElem?_eq_some_iff.1 hA).1
   have hlen:=key.1
   simp only [List.length_drop,Array.length_toList] at hlen
   exact XB hw (by omega)
  ·have:=(key.2 j A hA).ro_of (List.all_eq_true.1 hr A (List.mem_of_getElem? hA))
   simpa [Array.getD_eq_getD_getElem?,List.getElem?_drop] using this
 | _,_,x,.agg h,hd=>by
  obtain⟨vs,rfl,hl,hdn⟩:=hd.agg_inv
  have key:=CsL.dn hk ho f1 f3 h (vs:=vs.toList) (by simpa using hl) (fun j A hA=>by simpa [Array.getD_eq_getD_getElem?] using hdn j A hA)
  exact .agg _ vs (by simpa using key.1) (fun j A hA=>by simpa [Array.getD_eq_getD_getElem?] using key.2 j A hA)
 | _,_,x,.tup h,hd=>by
  obtain⟨vs,rfl,hl,hdn⟩:=hd.tup_inv
  have key:=CsL.dn hk ho f1 f3 h (vs:=vs.toList) (by simpa using hl) (fun j A hA=>by simpa [Array.getD_eq_getD_getElem?] using hdn j A hA)
  exact .tup _ vs (by simpa using key.1) (fun j A hA=>by simpa [Array.getD_eq_getD_getElem?] using key.2 j A hA)
 | _,_,x,.fn h h',hd=>by
  cases hd with
  | ro hd=>cases hd
  | fn _ _ _ us vs hl hd hl' hd'=>
   have k1:=CsL.dn hk ho f1 f3 h (vs:=us.toList) (by simpa using hl) (fun j A hA=>by simpa [Array.getD_eq_getD_getElem?] using hd j A hA)
   have k2:=CsL.dn hk ho f1 f3 h' (vs:=vs.toList) (by simpa using hl') (fun j A hA=>by simpa [Array.getD_eq_getD_getElem?] using hd' j A hA)
   exact .fn _ _ _ us vs (by simpa using k1.1) (fun j A hA=>by simpa [Array.getD_eq_getD_getElem?] using k1.2 j A hA) (by simpa using k2.1) (fun j A hA=>by simpa [Array.getD_eq_getD_getElem?] using k2.2 j A hA)
theorem CsL.dn (hk:∀b,ok b→w.heap[b]?=w0.heap[b]?) (ho:∀b,ok b→ok2 b) (f1:∀l R,find H l=some R→Xb w0 ok β w l (Fl l) R) (f3:fz=true→∀l R,find H l=some R→W9 ρ l=false→∀b,Fl l b→ok2 b):
  ∀{cs cs':List AVal},CsL H ρ β.length fz cs cs'→∀{vs:List Value},cs.length=vs.length→(∀(j:Nat) (A:AVal),cs[j]?=some A→Dn w0 ok β A (vs[j]?.getD undef))→cs'.length=vs.length∧∀(j:Nat) (A:AVal),cs'[j]?=some A→Dn w ok2 (rlβ ρ β) A (vs[j]?.getD undef)
 | _,_,.nil,vs,hl,hd=>⟨hl,by simp⟩
 | _,_,.eq (cs':=cs') h,vs,hl,hd=>by
  subst h
  refine⟨by simpa [mlL_eq] using hl,fun j A hA=>?_⟩
  have:=Dn.of_mlL (β':=rlβ ρ β) (fun l v h=>Q0d h) cs' vs hl hd j A hA
  exact this.lift hk ho
 | _,_,.cons h hr,vs,hl,hd=>by
  obtain⟨v,vs,rfl⟩:∃v vs',vs=v :: vs':=by
   cases vs with
   | nil=>simp at hl
   | cons v vs=>exact⟨v,vs,rfl⟩
  have k1:=Cs.dn hk ho f1 f3 h (x:=v) (by simpa using hd 0 _ rfl)
  have k2:=CsL.dn hk ho f1 f3 hr (vs:=vs) (by simpa using hl) (fun j A hA=>by simpa using hd (j+1) A (by simpa using hA))
  refine⟨by simp [k2.1],fun j A hA=>?_⟩
  cases j with
  | zero=>simp at hA;subst hA;simpa using k1
  | succ j=>simpa using k2.2 j A (by simpa using hA)
end
end
/-! ## a heap behind a cast -/
section
variable {w0 w:World} {ok ok2:Nat→Prop} {β:List Value} {H:Heap} {ρ:List (Option Nat)} {fz:Bool} {Fl:Nat→Nat→Prop}
theorem On.lift {A:AVal} {x:Value} {F:Nat→Prop} (hk:∀b,ok b→w.heap[b]?=w0.heap[b]?) (ho:∀b,ok b→ok2 b) {w' w1:World} (h:On w0 ok w' A x F) (hw:w1=w'):On w ok2 w1 A x F:=by
 subst hw
 induction h with
 | ro F h=>exact .ro F ((h.later (fun b hb _=>hk b hb)).mono ho)
 | osNil n enc F p=>exact .osNil n enc F p
 | os n enc xs b off cap c T F G hb hw hlen hcap hn hG hd hr ih=>exact .os n enc xs b off cap c T F G hb hw hlen hcap hn hG hd ih
 | arr n enc xs b c T F hb hw hc hn hr=>exact .arr n enc xs b c T F hb hw hc hn (fun i j x A hx hA=>((hr i j x A hx hA).later (fun b hb _=>hk b hb)).mono ho)
 | om ke ve xs b es clock F G hb hw he hG hd hr ih=>exact .om ke ve xs b es clock F G hb hw he hG hd ih
theorem RngM.lift {κ α:Type} {ke:κ→Value} {ve:α→AVal} {xs:List (κ×α)} {seen:List κ} {O:Obj} (hk:∀b,ok b→w.heap[b]?=w0.heap[b]?) (ho:∀b,ok b→ok2 b) (h:RngM w0 ok ke ve xs seen O):RngM w ok2 ke ve xs seen O:=by
 rcases h with h | ⟨b,es,clock,sa,hb,hw,hO,he,hr,h1,h2⟩
 ·exact .inl h
 ·exact .inr ⟨b,es,clock,sa,ho b hb,by rw [hk b hb];exact hw,hO,he,fun i x e hx he'=>((hr i x e hx he').later (fun b hb _=>hk b hb)).mono ho,h1,h2⟩
theorem Xb.lift {l:Nat} {R:Res} {F:Nat→Prop} (hk:∀b,ok b→w.heap[b]?=w0.heap[b]?) (ho:∀b,ok b→ok2 b) {w1:World} (h:Xb w0 ok β w1 l F R):Xb w ok2 β w1 l F R:=by
 cases R with
 | box cells=>obtain⟨b,c,T,hl,hw,hs,hd,hF⟩:=h;exact⟨b,c,T,hl,hw,hs,fun j A hA=>(hd j A hA).lift hk ho,hF⟩
 | val A=>obtain⟨x,hx,h⟩:=h;exact⟨x,hx,h.lift hk ho rfl⟩
 | lent enc xs L=>
  obtain⟨b,off,cap,c,T,G,hl,hw,hF,h1,h2,h3,h4,hG,hd,hr⟩:=h
  exact⟨b,off,cap,c,T,G,hl,hw,hF,h1,h2,h3,h4,hG,hd,fun j x A hj hx hA=>(hr j x A hj hx hA).lift hk ho rfl⟩
 | lentm ke ve xs L=>
  obtain⟨b,es,clock,G,hl,hw,hF,he,h4,hG,hd,hr⟩:=h
  exact⟨b,es,clock,G,hl,hw,hF,he,h4,hG,hd,fun i x e hj hx he'=>(hr i x e hj hx he').lift hk ho rfl⟩
 | rng ke ve xs seen li=>
  obtain⟨b,bi,es,clock,sa,G,hl,hli,hne,hF,hFi,hw,hwi,he,hG,hd,hr,hs⟩:=h
  exact⟨b,bi,es,clock,sa,G,hl,hli,hne,hF,hFi,hw,hwi,he,hG,hd,fun i x e hx he'=>(hr i x e hx he').lift hk ho rfl,hs⟩
 | itn=>exact h
 | rngm ke ve xs seen=>obtain⟨bi,O,hl,hw,hF,r⟩:=h;exact⟨bi,O,hl,hw,hF,r.lift hk ho⟩
 | abs Φ=>
  obtain⟨hx,W,ok1,F1,hΦ,h1,h2⟩:=h
  exact⟨hx,W,ok1,F1,hΦ,fun b hb=>⟨ho b (h1 b hb).1,(h1 b hb).2.1,(hk b (h1 b hb).1).trans (h1 b hb).2.2⟩,h2⟩
theorem HOk.lift (hk:∀b,ok b→w.heap[b]?=w0.heap[b]?) (ho:∀b,ok b→ok2 b) {w1:World}:∀{H:Heap} {F:Nat→Prop},HOk w0 ok β w1 H F→HOk w ok2 β w1 H F
 | [],_,_=>trivial
 | (l,R) :: H,F,⟨F1,F2,h1,h2,h12,hR,hH⟩=>⟨F1,F2,h1,h2,h12,hR.lift hk ho,HOk.lift hk ho hH⟩
def kept (ρ:List (Option Nat)):Heap→List Nat
 | []=>[]
 | (i,_) :: r=>match ρ[i]? with
  | some (some m)=>m :: kept ρ r
  | _=>kept ρ r
theorem Zh:∀{H':Heap} {m:Nat},m∈kept ρ H'→W9 ρ m=true
 | (i,_) :: r,m,h=>by
  rw [kept] at h
  split at h
  ·rename_i k hk
   rcases List.mem_cons.1 h with e | e
   ·subst e;exact Q1r (List.mem_of_getElem? hk)
   ·exact Zh e
  ·exact Zh h
theorem ChkS.holds (hk:∀b,ok b→w.heap[b]?=w0.heap[b]?) (ho:∀b,ok b→ok2 b) (f1:∀l R,find H l=some R→Xb w0 ok β w l (Fl l) R) (f3:fz=true→∀l R,find H l=some R→W9 ρ l=false→∀b,Fl l b→ok2 b)
  {i:Nat} {m:Option Nat} {R:Res} (hm:ρ[i]?=some m) (h:ChkS H ρ β.length fz m R):Xb w ok2 (rlβ ρ β) w i (fun b=>∃l,m=some l∧Fl l b) R∧∀l,m=some l→∃S,find H l=some S:=by
 cases h with
 | nil n enc=>exact⟨⟨_,by simp [rlβ,hm],.osNil _ _ _ none⟩,by simp⟩
 | box h hc=>
  obtain⟨b,c,T,hl,hw,hs,hd,hF⟩:=f1 _ _ h
  have key:=CsL.dn hk ho f1 f3 hc (vs:=c.toList) (by simpa using hs) (fun j A hA=>by simpa [Array.getD_eq_getD_getElem?] using hd j A hA)
  exact⟨⟨b,c,T,Ga hm hl,hw,by simpa using key.1,fun j A hA=>by simpa [Array.getD_eq_getD_getElem?] using key.2 j A hA,_,rfl,hF⟩,fun l e=>by cases e;exact⟨_,h⟩⟩
 | val h=>
  obtain⟨x,hx,hon⟩:=f1 _ _ h
  exact⟨⟨x,Ga hm hx,(hon.lift hk ho rfl).mono (fun b hb=>⟨_,rfl,hb⟩)⟩,fun l e=>by cases e;exact⟨_,h⟩⟩
 | endR h=>
  obtain⟨b,bi,es,clock,sa,G,hl,hli,hne,hF,hFi,hw,hwi,he,hG,hd,hr,hs⟩:=f1 _ _ h
  exact⟨⟨_,Ga hm hl,.om _ _ _ b es clock _ G ⟨_,rfl,hF⟩ hw he (fun i k hk=>⟨⟨_,rfl,(hG i k hk).1⟩,(hG i k hk).2.1⟩) hd (fun i x e hx he'=>(hr i x e hx he').lift hk ho rfl)⟩,fun l e=>by cases e;exact⟨_,h⟩⟩
 | lent h hL=>
  obtain⟨b,off,cap,c,T,G,hl,hw,hF,h1,h2,h3,h4,hG,hd,hr⟩:=f1 _ _ h
  refine⟨⟨b,off,cap,c,T,G,Ga hm hl,hw,⟨_,rfl,hF⟩,h1,h2,h3,fun i l' hi=>?_,fun j k hk=>⟨⟨_,rfl,(hG j k hk).1⟩,(hG j k hk).2⟩,hd,fun j x A hj hx hA=>((hr j x A (fun l' hl'=>?_) hx hA).lift hk ho rfl)⟩,fun l e=>by cases e;exact⟨_,h⟩⟩
  ·have:=h4 i (rlab ρ β.length l') (by rw [hL];exact List.mem_map.2 ⟨_,hi,rfl⟩)
   exact⟨this.1,Q0d this.2⟩
  ·rw [hL] at hl'
   obtain⟨p,hp,e⟩:=List.mem_map.1 hl'
   cases e
   exact hj p.2 hp
 | lentm h hL=>
  obtain⟨b,es,clock,G,hl,hw,hF,he,h4,hG,hd,hr⟩:=f1 _ _ h
  refine⟨⟨b,es,clock,G,Ga hm hl,hw,⟨_,rfl,hF⟩,he,fun k l' hi=>?_,fun j k hk=>⟨⟨_,rfl,(hG j k hk).1⟩,(hG j k hk).2⟩,hd,fun j x e hj hx he'=>((hr j x e (fun l' hl'=>?_) hx he').lift hk ho rfl)⟩,fun l e=>by cases e;exact⟨_,h⟩⟩
  ·obtain⟨i,y,e,h1,h2,h3⟩:=h4 k (rlab ρ β.length l') (by rw [hL];exact List.mem_map.2 ⟨_,hi,rfl⟩)
   exact⟨i,y,e,h1,h2,Q0d h3⟩
  ·rw [hL] at hl'
   obtain⟨p,hp,e⟩:=List.mem_map.1 hl'
   have e1:=congrArg Prod.fst e;have e2:=congrArg Prod.snd e
   simp only at e1 e2
   exact hj p.2 (by rw [←e1];exact hp)
 | rng h hli'=>
  obtain⟨b,bi,es,clock,sa,G,hl,hli,hne,hF,hFi,hw,hwi,he,hG,hd,hr,hs⟩:=f1 _ _ h
  subst hli'
  exact⟨⟨b,bi,es,clock,sa,G,Ga hm hl,Q0d hli,hne,⟨_,rfl,hF⟩,⟨_,rfl,hFi⟩,hw,hwi,he,fun i k hk=>⟨⟨_,rfl,(hG i k hk).1⟩,(hG i k hk).2⟩,hd,fun i x e hx he'=>(hr i x e hx he').lift hk ho rfl,hs⟩,fun l e=>by cases e;exact⟨_,h⟩⟩
 | itn h=>
  obtain⟨bi,hl,hw,hF⟩:=f1 _ _ h
  exact⟨⟨bi,Ga hm hl,hw,⟨_,rfl,hF⟩⟩,fun l e=>by cases e;exact⟨_,h⟩⟩
 | rngm h=>
  obtain⟨bi,O,hl,hw,hF,r⟩:=f1 _ _ h
  exact⟨⟨bi,O,Ga hm hl,hw,⟨_,rfl,hF⟩,r.lift hk ho⟩,fun l e=>by cases e;exact⟨_,h⟩⟩
 | abs h=>
  obtain⟨⟨x,hx⟩,W,ok1,F1,hΦ,h1,h2⟩:=f1 _ _ h
  exact⟨⟨⟨x,Ga hm hx⟩,W,ok1,F1,hΦ,fun b hb=>⟨ho b (h1 b hb).1,(h1 b hb).2.1,(hk b (h1 b hb).1).trans (h1 b hb).2.2⟩,fun b hb=>⟨⟨_,rfl,(h2 b hb).1⟩,(h2 b hb).2⟩⟩,fun l e=>by cases e;exact⟨_,h⟩⟩
theorem HOk.chk (hk:∀b,ok b→w.heap[b]?=w0.heap[b]?) (ho:∀b,ok b→ok2 b) (f1:∀l R,find H l=some R→Xb w0 ok β w l (Fl l) R) (f2:∀l l' R R',l≠l'→find H l=some R→find H l'=some R'→∀b,Fl l b→Fl l' b→False)
  (f3:fz=true→∀l R,find H l=some R→W9 ρ l=false→∀b,Fl l b→ok2 b):
  ∀{H':Heap},ChkH H ρ β.length fz H'→(kept ρ H').Nodup→HOk w ok2 (rlβ ρ β) w H' (fun b=>∃m S,m∈kept ρ H'∧find H m=some S∧Fl m b)
 | [],_,_=>trivial
 | (i,R) :: r,⟨⟨m,h1,h2⟩,h3⟩,hn=>by
  obtain⟨e1,e2⟩:=h2.holds hk ho f1 f3 h1
  cases m with
  | none=>
   have hkp:kept ρ ((i,R) :: r)=kept ρ r:=by rw [kept,h1]
   rw [hkp] at hn ⊢
   exact⟨fun b=>∃l,none=some l∧Fl l b,_,fun b ⟨l,h,_⟩=>(nomatch h),fun b hb=>hb,fun b ⟨l,h,_⟩=>(nomatch h),e1,HOk.chk hk ho f1 f2 f3 h3 hn⟩
  | some m=>
   have hkp:kept ρ ((i,R) :: r)=m :: kept ρ r:=by rw [kept,h1]
   rw [hkp] at hn ⊢
   rw [List.nodup_cons] at hn
   obtain⟨S,hS⟩:=e2 m rfl
   refine⟨fun b=>∃l,some m=some l∧Fl l b,_,fun b ⟨l,h,hb⟩=>?_,fun b ⟨m',S',h4,h5,h6⟩=>⟨m',S',by simp [h4],h5,h6⟩,fun b ⟨l,h,hb⟩ ⟨m',S',h4,h5,h6⟩=>?_,e1,HOk.chk hk ho f1 f2 f3 h3 hn.2⟩
   ·cases h;exact⟨m,S,by simp,hS,hb⟩
   ·cases h
    have hne:m≠m':=fun e=>by subst e;exact hn.1 h4
    exact f2 _ _ _ _ hne hS h5 b hb h6
def Yr (ρ:List (Option Nat)):Heap→Heap
 | []=>[]
 | (l,R) :: r=>bif W9 ρ l then Yr ρ r else (l,R) :: Yr ρ r
theorem Wx:∀{H:Heap} {x:Nat×Res},x∈Yr ρ H→x∈H∧W9 ρ x.1=false
 | (l,R) :: r,x,h=>by
  rw [Yr] at h
  cases hk:W9 ρ l with
  | true=>rw [hk] at h;have:=Wx h;exact⟨by simp [this.1],this.2⟩
  | false=>
   rw [hk] at h
   rcases List.mem_cons.1 h with e | e
   ·subst e;exact⟨by simp,hk⟩
   ·have:=Wx e;exact⟨by simp [this.1],this.2⟩
theorem YI:∀{H:Heap},(H.map (·.1)).Nodup→((Yr ρ H).map (·.1)).Nodup
 | [],_=>List.nodup_nil
 | (l,R) :: r,h=>by
  simp only [List.map_cons,List.nodup_cons] at h
  rw [Yr]
  cases hk:W9 ρ l with
  | true=>exact YI h.2
  | false=>
   simp only [cond_false,List.map_cons,List.nodup_cons]
   refine⟨fun hm=>?_,YI h.2⟩
   obtain⟨x,hx,e⟩:=List.mem_map.1 hm
   exact h.1 (e▸List.mem_map.2 ⟨x,(Wx hx).1,rfl⟩)
theorem HOk.cast {F:Nat→Prop} (hH:HOk w0 ok β w H F) (hk:∀b,ok b→w.heap[b]?=w0.heap[b]?) (hokF:∀b,ok b→¬F b) {H':Heap} (hC:ChkH H ρ β.length fz H') (hn:ndup (kept ρ H')=true):
  ∃G ok2:Nat→Prop,(∀b,G b→∃m,W9 ρ m=true)∧(∀b,G b→F b∧¬ok2 b)∧(∀b,ok b→ok2 b)∧(∀b,ok2 b→ok b∨(fz=true∧F b∧¬G b))∧HOk w ok2 (rlβ ρ β) w H' G∧(∀A A' x,Cs H ρ β.length fz A A'→Dn w0 ok β A x→Dn w ok2 (rlβ ρ β) A' x) ∧
   (∀cs cs' (vs:List Value),CsL H ρ β.length fz cs cs'→cs.length=vs.length→(∀(j:Nat) (A:AVal),cs[j]?=some A→Dn w0 ok β A (vs[j]?.getD undef))→cs'.length=vs.length∧∀(j:Nat) (A:AVal),cs'[j]?=some A→Dn w ok2 (rlβ ρ β) A (vs[j]?.getD undef)) ∧
   (ndup (H.map (·.1))=true→HOk w0 ok β w (Yr ρ H) (fun b=>F b∧¬G b)):=by
 obtain⟨Fl,f1,f2⟩:=hH.fam
 have f1':∀l R,find H l=some R→Xb w0 ok β w l (Fl l) R:=fun l R h=>(f1 l R h).1
 let G:Nat→Prop:=fun b=>∃m S,W9 ρ m=true∧find H m=some S∧Fl m b
 let ok2:Nat→Prop:=fun b=>ok b∨(fz=true∧F b∧¬G b)
 have hGF:∀b,G b→F b:=fun b ⟨m,S,_,h2,h3⟩=>(f1 m S h2).2 b h3
 have hdis:∀l R,find H l=some R→W9 ρ l=false→∀b,Fl l b→¬G b:=fun l R hl hkp b hb ⟨m,S,h1,h2,h3⟩=>by
  have hne:l≠m:=fun e=>by subst e;rw [h1] at hkp;cases hkp
  exact f2 _ _ _ _ hne hl h2 b hb h3
 have f3:fz=true→∀l R,find H l=some R→W9 ρ l=false→∀b,Fl l b→ok2 b:=fun hf l R hl hkp b hb=>.inr ⟨hf,(f1 l R hl).2 b hb,hdis l R hl hkp b hb⟩
 have ho:∀b,ok b→ok2 b:=fun b hb=>.inl hb
 refine⟨G,ok2,fun b ⟨m,_,h,_⟩=>⟨m,h⟩,fun b hb=>⟨hGF b hb,fun h=>?_⟩,ho,fun b hb=>hb,(HOk.chk hk ho f1' f2 f3 hC (Zm hn)).mono (fun b ⟨m,S,h1,h2,h3⟩=>⟨m,S,Zh h1,h2,h3⟩),fun A A' x h hd=>Cs.dn hk ho f1' f3 h hd,fun cs cs' vs h hl hd=>CsL.dn hk ho f1' f3 h hl hd,fun hnd=>?_⟩
 ·rcases h with h | ⟨_,_,h⟩
  ·exact hokF b h (hGF b hb)
  ·exact h hb
 ·have hnd':=Zm hnd
  refine (HOk.sub f1' f2 (fun x hx=>Q1z hnd' (Wx hx).1) (YI hnd')).mono (fun b ⟨x,hx,hb⟩=>?_)
  have hfx:=Q1z hnd' (Wx hx).1
  exact⟨(f1 _ _ hfx).2 b hb,hdis _ _ hfx (Wx hx).2 b hb⟩
end
/-! ## weakening -/
section
variable {B:Base} {Γ Γ':Env} {H H':Heap} {nl nl':Nat} {X:Act→World→Prop}
def fixed:Nat→Nat→List (Option Nat)→Bool
 | _,0,_=>true
 | i,k+1,some m :: r=>m.beq i&&fixed (i+1) k r
 | _,_+1,_=>false
theorem YV:∀{k i:Nat} {ρ:List (Option Nat)},fixed i k ρ=true→∀l,l<k→ρ[l]?=some (some (i+l))
 | 0,_,_,_,l,hl=>by omega
 | k+1,i,some m :: r,h,l,hl=>by
  simp only [fixed,Bool.and_eq_true] at h
  cases l with
  | zero=>have:=Nat.eq_of_beq_eq_true h.1;subst this;rfl
  | succ l=>have:=YV h.2 l (by omega);rw [List.getElem?_cons_succ,this];congr 2;omega
 | k+1,i,none :: r,h,_,_=>by simp [fixed] at h
 | k+1,i,[],h,_,_=>by simp [fixed] at h
structure Wk (k:Nat) (Γ:Env) (H:Heap) (nl:Nat) (Γ':Env) (H':Heap) (nl':Nat):Prop where
 h:∃ρ:List (Option Nat),fixed 0 k ρ=true∧ρ.length=nl'∧ChkG H ρ nl true Γ Γ'∧ChkH H ρ nl true H'∧ndup (kept ρ H')=true
theorem Wk.mk' {k:Nat} (ρ:List (Option Nat)) (h0:fixed 0 k ρ=true) (h1:ρ.length=nl') (h2:ChkG H ρ nl true Γ Γ') (h3:ChkH H ρ nl true H') (h4:ndup (kept ρ H')=true):Wk k Γ H nl Γ' H' nl':=⟨ρ,h0,h1,h2,h3,h4⟩
theorem KH.same {β:List Value} {F:Nat→Prop} {a:Act} {w:World} (h:KH B β F Γ H a w):(∀b,B.ok b→w.heap[b]?=B.w0.heap[b]?)∧∀b,B.ok b→¬F b:=
 ⟨fun b hb=>by have:=h.ok b hb;exact h.kp.block b this.1 this.2,fun b hb hF=>by have:=h.ok b hb;exact this.2 ((h.own b hF).2 this.1)⟩
theorem Wk.fits (h:Wk B.k Γ H nl Γ' H' nl') {a:Act} {w:World} (hf:Fits B Γ H nl a w):Fits B Γ' H' nl' a w:=by
 obtain⟨ρ,h0,hρ,hG,hH,hn⟩:=h.h
 obtain⟨B',β,F,hx,hβ,hf⟩:=hf
 subst hβ
 obtain⟨k1,k2⟩:=hf.same
 obtain⟨G,ok2,_,g1,g2,g3,g4,g5,_,_⟩:=hf.heap.cast k1 k2 hH hn
 obtain⟨x1,x2⟩:=hf.rebase (ok:=ok2) (F':=G) g2 (fun b hb=>(g3 b hb).imp id (fun h=>h.2.1)) g1 g4 (fun t A hA=>by
  obtain⟨S,h1,h2⟩:=hG.get hA
  exact g5 _ _ _ h2 (hf.env t S h1)) (fun l x hl hx'=>Ga (by have:=YV h0 l (by rw [←hx.k];exact hl);simpa using this) hx')
 exact⟨_,rlβ ρ β,G,hx.trans x1,by simpa [rlβ] using hρ,x2⟩
theorem St.wk (k:St B Γ' H' nl' X) (h:Wk B.k Γ H nl Γ' H' nl'):St B Γ H nl X:=fun a w hf=>k a w (h.fits hf)
end
end Go.Taq
