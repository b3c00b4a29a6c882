/- The library of the generated walks, part R: rows within rows, maps within rows: they are lent under a label of their own, and put back. -/
import Derived.Test.YtpckofngkabgbaaGreatLibQ
set_option linter.unusedVariables false
namespace Go.Taq
open Go
open Go.ChangeMaps (setBlock)
theorem HOk.shrink {w0 w:World} {ok:Nat→Prop} {β:List Value}:∀{H:Heap} {F:Nat→Prop},HOk w0 ok β w H F→∀{l:Nat} {R:Res},find H l=some R →
  ∃F1,(∀b,F1 b→F b)∧Xb w0 ok β w l F1 R∧∀(F1':Nat→Prop) R',(∀b,F1' b→F1 b)→Xb w0 ok β w l F1' R'→HOk w0 ok β w (setH H l R') (fun b=>F b∧(F1 b→F1' b))
 | [],_,_,_,_,h=>by simp [find] at h
 | (k,S) :: H,F,⟨F1,F2,h1,h2,h12,hR,hH⟩,l,R,hl=>by
  rw [find_cons] at hl
  split at hl
  ·rename_i e;subst e;cases hl
   refine⟨F1,h1,hR,fun F1' R' hs hR'=>?_⟩
   rw [Za,if_pos rfl]
   exact⟨F1',F2,fun b hb=>⟨h1 b (hs b hb),fun _=>hb⟩,fun b hb=>⟨h2 b hb,fun hb'=>(h12 b hb' hb).elim⟩,fun b hb hb'=>h12 b (hs b hb) hb',hR',hH⟩
  ·rename_i e
   obtain⟨G,g1,g2,g3⟩:=hH.shrink hl
   refine⟨G,fun b hb=>h2 b (g1 b hb),g2,fun F1' R' hs hR'=>?_⟩
   rw [Za,if_neg e]
   exact⟨F1,_,fun b hb=>⟨h1 b hb,fun hb'=>(h12 b hb (g1 b hb')).elim⟩,fun b hb=>⟨h2 b hb.1,hb.2⟩,fun b hb hb'=>h12 b hb hb'.1,hR,g3 F1' R' hs hR'⟩
def rmH:Heap→Nat→Heap
 | [],_=>[]
 | (k,S) :: H,l=>bif k.beq l then H else (k,S) :: rmH H l
theorem Q1C (k:Nat) (S:Res) (H:Heap) (l:Nat):rmH ((k,S) :: H) l=if k=l then H else (k,S) :: rmH H l:=by
 rw [rmH]
 by_cases h:k=l
 ·subst h;simp
 ·have:k.beq l=false:=by cases hb:k.beq l with
   | false=>rfl
   | true=>exact absurd (Nat.eq_of_beq_eq_true hb) h
  simp [this,h]
theorem HOk.rm {w0 w:World} {ok:Nat→Prop} {β:List Value}:∀{H:Heap} {F:Nat→Prop},HOk w0 ok β w H F→∀{l:Nat} {R:Res},find H l=some R →
  ∃F2,(∀b,F2 b→F b)∧Xb w0 ok β w l F2 R∧HOk w0 ok β w (rmH H l) (fun b=>F b∧¬F2 b)
 | [],_,_,_,_,h=>by simp [find] at h
 | (k,S) :: H,F,⟨F1,F2,h1,h2,h12,hR,hH⟩,l,R,hl=>by
  rw [find_cons] at hl
  split at hl
  ·rename_i e;subst e;cases hl
   refine⟨F1,h1,hR,?_⟩
   rw [Q1C,if_pos rfl]
   exact hH.mono (fun b hb=>⟨h2 b hb,fun hb'=>h12 b hb' hb⟩)
  ·rename_i e
   obtain⟨G,g1,g2,g3⟩:=hH.rm hl
   refine⟨G,fun b hb=>h2 b (g1 b hb),g2,?_⟩
   rw [Q1C,if_neg e]
   exact⟨F1,_,fun b hb=>⟨h1 b hb,fun hb'=>h12 b hb (g1 b hb')⟩,fun b hb=>⟨h2 b hb.1,hb.2⟩,fun b hb hb'=>h12 b hb hb'.1,hR,g3⟩
theorem Q1B {l m:Nat} (hne:m≠l):∀(H:Heap),find (rmH H l) m=find H m
 | []=>rfl
 | (k,S) :: H=>by
  rw [Q1C,find_cons]
  split
  ·rename_i e;subst e;rw [if_neg (Ne.symm hne)]
  ·rw [find_cons,Q1B hne H]
theorem Xb.one {w0 w:World} {ok:Nat→Prop} {β:List Value} {l:Nat} {F:Nat→Prop} {R:Res} (h:Xb w0 ok β w l F R) (hR:R.ownd=true):∃x,β[l]?=some x∧x.oneCell'=true:=by
 cases R with
 | box cells=>obtain⟨b,c,T,hl,_⟩:=h;exact⟨_,hl,rfl⟩
 | val A=>
  obtain⟨x,hx,ho⟩:=h
  refine⟨x,hx,?_⟩
  cases ho with
  | ro F h=>cases h <;> first | rfl | cases hR
  | _=>rfl
 | lent enc xs L=>obtain⟨b,off,cap,c,T,G,hl,_⟩:=h;exact⟨_,hl,rfl⟩
 | lentm ke ve xs L=>obtain⟨b,es,clock,G,hl,_⟩:=h;exact⟨_,hl,rfl⟩
 | rng ke ve xs seen li=>obtain⟨b,bi,es,clock,sa,G,hl,_⟩:=h;exact⟨_,hl,rfl⟩
 | itn=>obtain⟨b,hl,_⟩:=h;exact⟨_,hl,rfl⟩
 | rngm=>obtain⟨b,O,hl,_⟩:=h;exact⟨_,hl,rfl⟩
 | abs Φ=>cases hR
section
variable {P:Program} {B:Base} {tb:Tab} {Γ:Env} {H:Heap} {nl:Nat} {o:Oper} {X:Act→World→Prop}
theorem St.ghost {H':Heap} {nl':Nat} (k:St B Γ H' nl' X) (h:∀(B':Base) β F a w,β.length=nl→KH B' β F Γ H a w→∃β',β'.length=nl'∧(∀(l:Nat) (x:Value),β[l]?=some x→β'[l]?=some x)∧HOk B'.w0 B'.ok β' w H' F):St B Γ H nl X:=fun a w ⟨B',β,F,hx,hβ,hf⟩=>by
 obtain⟨β',h1,h2,h3⟩:=h B' β F a w hβ hf
 have dn:∀{A:AVal} {x:Value},Dn B'.w0 B'.ok β A x→Dn B'.w0 B'.ok β' A x:=fun {A x} h=>by
  have:=h.ml (f:=id) (β':=β') (fun l v hv=>h2 l v hv)
  have hid:∀A:AVal,A.ml id=A:=fun A=>by
   refine AVal.rec (motive_1:=fun A=>A.ml id=A) (motive_2:=fun cs=>AVal.mlL id cs=cs) ?_ ?_ ?_ ?_ ?_ ?_ ?_ ?_ ?_ ?_ ?_ ?_ ?_ ?_ ?_ ?_ ?_ A
   all_goals intros
   all_goals simp_all [AVal.ml,AVal.mlL]
  rwa [hid] at this
 exact k a w ⟨B',β',F,hx,h1,hf.kp,hf.ok,hf.own,h3,fun t A hA=>dn (hf.env t A hA),hf.size,hf.defers,fun l x hl hx=>h2 l x (hf.pre l x hl hx)⟩
theorem On.os_inv {w0 w:World} {ok:Nat→Prop} {α:Type} {n:Nat} {enc:α→List AVal} {xs:List α} {x:Value} {F:Nat→Prop} (h:On w0 ok w (.os n enc xs) x F) (hx:xs≠[]):
  ∃(b off cap:Nat) (c:Array Value) (T:TypeId) (G:Nat→Nat→Nat→Prop),x=.slice (some ⟨b,off,none⟩) xs.length cap∧F b∧w.heap[b]?=some (.cells c T (0,0))∧xs.length≤cap∧off+cap*n≤c.size∧(∀(i:Nat) (x:α),xs[i]?=some x→(enc x).length=n) ∧
   (∀i j k,G i j k→F k∧k≠b)∧(∀i j i' j' k,G i j k→G i' j' k→i=i'∧j=j')∧∀(i j:Nat) (x:α) (A:AVal),xs[i]?=some x→(enc x)[j]?=some A→On w0 ok w A (c.getD (off+i*n+j) undef) (G i j):=by
 generalize hA:AVal.os n enc xs=A at h
 cases h with
 | ro F h=>subst hA;cases h
 | arr=>cases hA
 | om=>cases hA
 | osNil n2 enc2 F p=>cases hA;exact absurd rfl hx
 | os n2 enc2 xs2 b off cap c T F G hb hw hlen hcap hn hG hd hr=>cases hA;exact⟨b,off,cap,c,T,G,rfl,hb,hw,hlen,hcap,hn,hG,hd,hr⟩
theorem On.om_inv {w0 w:World} {ok:Nat→Prop} {κ α:Type} {ke:κ→Value} {ve:α→AVal} {xs:List (κ×α)} {x:Value} {F:Nat→Prop} (h:On w0 ok w (.om ke ve xs) x F):
  ∃(b:Nat) (es:Array MapEntry) (clock:Nat) (G:Nat→Nat→Prop),x=.map (some b)∧F b∧w.heap[b]?=some (.map es clock)∧Ents ke xs es clock∧(∀i k,G i k→F k∧k≠b)∧(∀i i' k,G i k→G i' k→i=i') ∧
   ∀(i:Nat) (x:κ×α) (e:MapEntry),xs[i]?=some x→es[i]?=some e→On w0 ok w (ve x.2) e.val (G i):=by
 generalize hA:AVal.om ke ve xs=A at h
 cases h with
 | ro F h=>subst hA;cases h
 | arr=>cases hA
 | os=>cases hA
 | osNil=>cases hA
 | om ke2 ve2 xs2 b es clock F G hb hw he hG hd hr=>cases hA;exact⟨b,es,clock,G,rfl,hb,hw,he,hG,hd,hr⟩
theorem St.lend {α:Type} {l i:Nat} {enc:α→List AVal} {xs:List α} {y:α} {A:AVal} (hl:find H l=some (.val (.os 1 enc xs))) (hy:xs[i]?=some y) (hA:enc y=[A]) (hen:∀x,(enc x).length=1)
  (k:St B Γ ((nl,.val A) :: setH H l (.lent enc xs [(i,nl)])) (nl+1) X):St B Γ H nl X:=k.ghost fun B' β F a w hβ hf=>by
 have hne:xs≠[]:=fun e=>by subst e;simp at hy
 have hi:=(List.getElem?_eq_some_iff.1 hy).1
 obtain⟨F1,hF1,v,hv,hon⟩:=hf.heap.get hl
 obtain⟨b,off,cap,c,T,G,rfl,hb,hw,hlen,hcap,hn,hG,hd,hr⟩:=hon.os_inv hne
 subst hβ
 obtain⟨F3,hF3,⟨v3,hv3,hon3⟩,hsh⟩:=(hf.heap.snoc (c.getD (off+i) undef)).shrink hl
 rw [Q8 hv] at hv3;cases hv3
 obtain⟨b3,off3,cap3,c3,T3,G3,heq,hb3,hw3,hlen3,hcap3,hn3,hG3,hd3,hr3⟩:=hon3.os_inv hne
 cases heq
 rw [hw] at hw3;cases hw3
 have hcell:=hr3 i 0 y A hy (by rw [hA];rfl)
 simp only [Nat.mul_one,Nat.add_zero] at hcell
 have h:=hsh (fun b=>F3 b∧¬G3 i 0 b) (.lent enc xs [(i,β.length)]) (fun b hb=>hb.1) ⟨b,off,cap,c,T,fun j k=>G3 j 0 k∧j≠i,Q8 hv,hw,⟨hb3,fun h=>(hG3 _ _ _ h).2 rfl⟩,hlen3,by simpa using hcap3,fun x _=>hen x,fun j l' hj=>?_,fun j k hk=>⟨⟨(hG3 _ _ _ hk.1).1,fun h=>hk.2 (hd3 _ _ _ _ _ hk.1 h).1⟩,(hG3 _ _ _ hk.1).2⟩,fun j j' k h h'=>(hd3 _ _ _ _ _ h.1 h'.1).1,fun j x C hj hx hC=>?_⟩
 ·exact⟨β++[c.getD (off+i) undef],by simp,fun l x h=>Q8 h,G3 i 0,_,fun k hk=>hF3 k (hG3 _ _ _ hk).1,fun b hb=>hb.1,fun b hb hb'=>(hb'.2 (hG3 _ _ _ hb).1).2 hb,⟨_,by simp,hcell⟩,h⟩
 ·simp only [List.mem_singleton,Prod.mk.injEq] at hj
  obtain⟨rfl,rfl⟩:=hj
  exact⟨hi,by simp⟩
 ·have hji:j≠i:=fun e=>hj β.length (by simp [e])
  have:=hr3 j 0 x C hx hC
  simp only [Nat.mul_one,Nat.add_zero] at this
  exact this.mono (fun b hb=>⟨hb,hji⟩)
theorem St.putb {α:Type} {l l' i:Nat} {enc:α→List AVal} {xs:List α} {y:α} {A:AVal} {L:List (Nat×Nat)} (hl:find H l=some (.lent enc xs ((i,l') :: L))) (hl':find H l'=some (.val A)) (hne:l.beq l'=false) (hL:∀p,p∈L→p.1≠i) (hA:enc y=[A]) (R:Res)
  (hR:R=if L.isEmpty then .val (.os 1 enc (xs.set i y)) else .lent enc (xs.set i y) L) (k:St B Γ (repH (rmH H l') l l R) nl X):St B Γ H nl X:=k.ghost fun B' β F a w hβ hf=>by
 have hne':l≠l':=fun e=>by subst e;simp at hne
 refine⟨β,hβ,fun _ _ h=>h,?_⟩
 obtain⟨F2,hF2,⟨x,hx,hon⟩,hH⟩:=hf.heap.rm hl'
 have hl2:find (rmH H l') l=some (.lent enc xs ((i,l') :: L)):=by rw [Q1B hne'];exact hl
 refine (HOk.rep (fun _ _ h=>h) F2 hH hl2 (fun F1 hF1 hRR=>⟨?_,fun _ _ _=>rfl⟩) (fun b hb h=>h.2 hb) (fun b hb=>(hf.own b hb.1).1) (fun _ _ _ h=>h)).mono (fun b hb=>hb.elim (fun h=>h.1) (hF2 b))
 obtain⟨b,off,cap,c,T,G,hv,hw,hb,hlen,hcap,hn,hLL,hG,hd,hr⟩:=hRR
 obtain⟨hi,hci⟩:=hLL i l' (by simp)
 rw [hx] at hci
 have hci:=Option.some.inj hci
 have hdis:∀k,F2 k→F1 k→False:=fun k h h'=>(hF1 k h').2 h
 have hG':∀j k,(if j=i then F2 k else G j k)→(F1 k∨F2 k)∧k≠b:=fun j k h=>by
  split at h
  ·exact⟨.inr h,fun e=>hdis k h (e▸hb)⟩
  ·exact⟨.inl (hG j k h).1,(hG j k h).2⟩
 have hd':∀j j' k,(if j=i then F2 k else G j k)→(if j'=i then F2 k else G j' k)→j=j':=fun j j' k h h'=>by
  split at h <;> split at h'
  ·rename_i e e';exact e.trans e'.symm
  ·exact (hdis k h (hG _ _ h').1).elim
  ·exact (hdis k h' (hG _ _ h).1).elim
  ·exact hd _ _ k h h'
 have hel:∀(j:Nat) (z:α) (C:AVal),(∀m,(j,m)∉L)→(xs.set i y)[j]?=some z→(enc z)[0]?=some C→On B'.w0 B'.ok w C (c.getD (off+j) undef) (fun k=>if j=i then F2 k else G j k):=fun j z C hj hz hC=>by
  rw [List.getElem?_set] at hz
  by_cases e:i=j
  ·subst e
   rw [if_pos rfl] at hz
   try rw [if_pos hi] at hz
   cases hz
   rw [hA] at hC;simp at hC;subst hC
   rw [←hci]
   exact hon.mono (fun b hb=>by simp [hb])
  ·rw [if_neg e] at hz
   have:=hr j z C (fun m hm=>by
    rcases List.mem_cons.1 hm with e' | e'
    ·cases e';exact e rfl
    ·exact hj m e') hz hC
   exact this.mono (fun b hb=>by rw [if_neg (Ne.symm e)];exact hb)
 have hen:∀z,z∈xs.set i y→(enc z).length=1:=fun z hz=>by
  rcases List.mem_or_eq_of_mem_set hz with h | h
  ·exact hn z h
  ·subst h;rw [hA];rfl
 subst hR
 cases L with
 | nil=>
  refine⟨_,hv,?_⟩
  have:=On.os (w0:=B'.w0) (ok:=B'.ok) (w:=w) 1 enc (xs.set i y) b off cap c T (fun b=>F1 b∨F2 b) (fun j q k=>q=0∧if j=i then F2 k else G j k) (.inl hb) hw (by simpa using hlen) (by simpa using hcap) (fun j z hz=>hen z (List.mem_of_getElem? hz)) (fun j q k h=>hG' j k h.2) (fun j q j' q' k h h'=>⟨hd' j j' k h.2 h'.2,h.1.trans h'.1.symm⟩) (fun j q z C hz hC=>?_)
  ·simpa using this
  ·have hq:q=0:=by
    have:=(List.getElem?_eq_some_iff.1 hC).1
    rw [hen z (List.mem_of_getElem? hz)] at this;omega
   subst hq
   have:=hel j z C (fun m=>by simp) hz hC
   simp only [Nat.mul_one,Nat.add_zero,true_and]
   exact this
 | cons p L=>
  refine⟨b,off,cap,c,T,fun j k=>if j=i then F2 k else G j k,by simpa using hv,hw,.inl hb,by simpa using hlen,hcap,hen,fun j m hm=>?_,hG',hd',hel⟩
  have:=hLL j m (by simp [hm])
  exact⟨by simpa using this.1,this.2⟩
end
end Go.Taq
