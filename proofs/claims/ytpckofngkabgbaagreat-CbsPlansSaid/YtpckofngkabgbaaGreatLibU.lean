/- The library of the generated walks, part U: new rows whose cells are of the frame's own; nil elements. -/
import Derived.Test.YtpckofngkabgbaaGreatLibT
set_option linter.unusedVariables false
set_option linter.unusedSimpArgs false
namespace Go.Taq
open Go
inductive Nl:AVal→AVal→Prop where
 | refl (A:AVal):Nl A A
 | sl {α:Type} (n:Nat) (enc:α→List AVal):Nl (.v (.slice none 0 0)) (.sl n enc [])
 | os {α:Type} (n:Nat) (enc:α→List AVal):Nl (.v (.slice none 0 0)) (.os n enc [])
 | rm {κ α:Type} (ke:κ→Value) (ve:α→AVal):Nl (.v (.map none)) (.rm ke ve [])
inductive NlL:List AVal→List AVal→Prop where
 | refl (l:List AVal):NlL l l
 | nil:NlL [] []
 | cons {A A':AVal} {r r':List AVal} (h:Nl A A') (hr:NlL r r'):NlL (A :: r) (A' :: r')
inductive NlR {α γ:Type} (enc:α→List AVal) (enc':γ→List AVal):List α→List γ→Prop where
 | nil:NlR enc enc' [] []
 | cons {x:α} {y:γ} {r:List α} {r':List γ} (h:NlL (enc x) (enc' y)) (hr:NlR enc enc' r r'):NlR enc enc' (x :: r) (y :: r')
theorem NlR.rep {α γ:Type} {enc:α→List AVal} {enc':γ→List AVal} {x:α} {y:γ} (h:NlL (enc x) (enc' y)):∀k:Nat,NlR enc enc' (List.replicate k x) (List.replicate k y)
 | 0=>.nil
 | k+1=>.cons h (NlR.rep h k)
theorem NlL.get:∀{c c':List AVal},NlL c c'→c.length=c'.length∧∀(j:Nat) (A':AVal),c'[j]?=some A'→∃A,c[j]?=some A∧Nl A A'
 | _,_,.refl l=>⟨rfl,fun j A h=>⟨A,h,.refl A⟩⟩
 | _,_,.nil=>⟨rfl,by simp⟩
 | _,_,.cons h hr=>by
  obtain⟨e1,e2⟩:=hr.get
  refine⟨by simp [e1],fun j C hC=>?_⟩
  cases j with
  | zero=>simp at hC;subst hC;exact⟨_,rfl,h⟩
  | succ j=>obtain⟨S',h3,h4⟩:=e2 j C (by simpa using hC);exact⟨S',by simpa using h3,h4⟩
theorem NlR.get {α γ:Type} {enc:α→List AVal} {enc':γ→List AVal}:∀{xs:List α} {ys:List γ},NlR enc enc' xs ys→xs.length=ys.length∧∀(i:Nat) (y:γ),ys[i]?=some y→∃x,xs[i]?=some x∧NlL (enc x) (enc' y)
 | _,_,.nil=>⟨rfl,by simp⟩
 | _,_,.cons h hr=>by
  obtain⟨e1,e2⟩:=hr.get
  refine⟨by simp [e1],fun i y hy=>?_⟩
  cases i with
  | zero=>simp at hy;subst hy;exact⟨_,rfl,h⟩
  | succ i=>obtain⟨x,h3,h4⟩:=e2 i y (by simpa using hy);exact⟨x,by simpa using h3,h4⟩
theorem Nl.on {w0 w:World} {ok:Nat→Prop} {A A':AVal} {x:Value} {F:Nat→Prop} (h:Nl A A') (hon:On w0 ok w A x F):On w0 ok w A' x F:=by
 cases h with
 | refl=>exact hon
 | sl n enc=>have:=hon.ro_of rfl;cases this;exact .ro _ (.slNil n enc none)
 | os n enc=>have:=hon.ro_of rfl;cases this;exact .osNil n enc _ none
 | rm ke ve=>have:=hon.ro_of rfl;cases this;exact .ro _ (.rmNil ke ve)
theorem NlR.on {α γ:Type} {n:Nat} {enc:α→List AVal} {enc':γ→List AVal} {xs:List α} {ys:List γ} (h:NlR enc enc' xs ys) {w0 w:World} {ok:Nat→Prop} {x:Value} {F:Nat→Prop} (hon:On w0 ok w (.os n enc xs) x F):On w0 ok w (.os n enc' ys) x F:=by
 obtain⟨hl,hg⟩:=h.get
 by_cases hx:xs=[]
 ·subst hx
  have:ys=[]:=List.eq_nil_of_length_eq_zero hl.symm
  subst this
  generalize hA:AVal.os n enc []=A at hon
  cases hon with
  | ro F h=>subst hA;cases h
  | arr=>cases hA
  | om=>cases hA
  | osNil n2 enc2 F p=>cases hA;exact .osNil _ _ _ p
  | os n2 enc2 xs2 b off cap c T F G hb hw hlen hcap hn hG hd hr=>cases hA;exact .os n enc' [] b off cap c T F (fun _ _ _=>False) hb hw (by simp) hcap (by simp) (fun _ _ _ h=>h.elim) (fun _ _ _ _ _ h=>h.elim) (by simp)
 ·obtain⟨b,off,cap,c,T,G,rfl,hb,hw,hlen,hcap,hn,hG,hd,hr⟩:=hon.os_inv hx
  rw [hl] at hlen ⊢
  refine .os n enc' ys b off cap c T F G hb hw hlen hcap (fun i y hy=>?_) hG hd (fun i j y A hy hA=>?_)
  ·obtain⟨x,h1,h2⟩:=hg i y hy
   rw [←h2.get.1];exact hn i x h1
  ·obtain⟨x,h1,h2⟩:=hg i y hy
   obtain⟨A',h3,h4⟩:=h2.get.2 j A hA
   exact h4.on (hr i j x A' h1 h3)
section
variable {P:Program} {B:Base} {tb:Tab} {Γ:Env} {H:Heap} {nl:Nat} {o:Oper} {X:Act→World→Prop}
theorem Eff1.bsl (htb:QI P tb) {α:Type} {t:TypeId} {p:Operand} {parts:Array (Nat×Operand)} {l:Nat} {enc:α→List AVal} (y0:α) {d:Nat} {e n' by_:Nat} {zc:List Value} {e':TE}
  (ho:o.op=.buildSlice t 1 parts) (hps:parts=#[(0,p)]) (hd:o.dst=some d) (hlt:d.blt B.n=true) (ht:find tb t=some ⟨.sl e,n',by_,zc⟩) (he:find tb e=some e') (hn:e'.n=1) (hp:ev Γ p=some (.o l)) (hen:(enc y0).length=1):
  Eff1 P B Γ H nl o ((d,.o nl) :: Γ) ((nl,.lent enc [y0] [(0,l)]) :: H) (nl+1) (.fx [] false):=Eff1.of_value fun B hB β F a w hβ hf=>by
 rw [←hB] at hlt
 obtain⟨dst,op,ty,pos,af,g⟩:=o
 simp only at ho hd;subst ho;subst hd;subst hps;subst hβ
 obtain⟨dd,hdd,rfl⟩:=htb.und ht
 obtain⟨z,hz,hzc,_,hzl,_⟩:=htb.zero he
 have hzs:z.cells.size=1:=by rw [←hn,←hzl,←hzc];simp
 have hpd:=Q5 (a:=a) hf.env hp
 have hpo:=hpd.o_inv
 have hone:=hpd.one rfl
 have hcell:(a.eval p).cells=#[a.eval p]:=Value.cells_one hone
 have hz1:∃z0,z.cells=#[z0]:=by
  have:z.cells.toList.length=1:=by simpa using hzs
  match hzz:z.cells.toList,this with
  | [z0],_=>exact⟨z0,by rw [←hzz]⟩
 obtain⟨z0,hz0⟩:=hz1
 have hrun:(execOp a.eval ⟨some d,.buildSlice t 1 #[(0,p)],ty,pos,af,g⟩).run P w=.ok (.value (.slice (some ⟨w.heap.size,0,none⟩) 1 1)) (w.alloc (.cells #[a.eval p] e)):=by
  have hr:Array.range 1=#[0]:=rfl
  simp [execOp,Instr.buildSlice,run_underlying hdd,htb.size he,hn,hz,hz0,Instr.fill,hcell,newRow,hr]
 refine⟨_,_,β++[.slice (some ⟨w.heap.size,0,none⟩) 1 1],_,hrun,by simp,fun l x h=>Q8 h,fun l x b hl hx hb=>?_,(KH.alloc hf (.cells #[a.eval p] e) (.slice (some ⟨w.heap.size,0,none⟩) 1 1) (.lent enc [y0] [(0,l)]) ⟨w.heap.size,0,1,#[a.eval p],e,fun _ _=>False,by simp,heap_alloc_new w _,rfl,by simp,by simp,by simp [hen],fun i l' hi=>?_,fun _ _ h=>h.elim,fun _ _ _ h=>h.elim,fun j x A hj hx hA=>?_⟩).put hlt (.o _ _ (by simp) rfl),XH w _ _⟩
 ·have:=GK rfl hl hx;subst this;cases hb;exact .inl (Nat.le_refl _)
 ·simp only [List.mem_singleton,Prod.mk.injEq] at hi
  obtain⟨rfl,rfl⟩:=hi
  exact⟨by simp,by rw [Q8 hpo];rfl⟩
 ·cases j with
  | zero=>exact absurd (by simp) (hj l)
  | succ j=>simp at hx
end
end Go.Taq
