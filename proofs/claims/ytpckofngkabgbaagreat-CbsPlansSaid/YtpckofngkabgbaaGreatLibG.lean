/- The library of the generated walks, part G: contracts, calls, statements, joins, loops, entry and return. -/
import Derived.Test.YtpckofngkabgbaaGreatLibF
import Derived.RangeFuncLeaves
import Derived.RangeFuncRecord
import Derived.Scope
set_option linter.unusedVariables false
namespace Go.Taq
open Go
/-! ## the shapes of verification conditions -/
def Loop {σ:Type} (body:σ→(σ→Prop)→Prop) (s:σ):Prop:=∀X:σ→Prop,(∀s (Y:σ→Prop),body s Y→(∀s',Y s'→X s')→X s)→X s
def Jn {σ:Type} (A:(σ→Prop)→Prop) (k:σ→Prop):Prop:=∃J:σ→Prop,(∀x,J x→k x)∧A J
theorem Jn.mk {σ:Type} {A:(σ→Prop)→Prop} {k:σ→Prop} (J:σ→Prop) (h:A J) (hk:∀x,J x→k x):Jn A k:=⟨J,hk,h⟩
theorem Jn.mk' {σ:Type} {A:(σ→Prop)→Prop} {k:σ→Prop} (h:A k):Jn A k:=⟨k,fun _ h=>h,h⟩
theorem Loop.mk {σ:Type} {body:σ→(σ→Prop)→Prop} (I:σ→Prop) (μ:σ→Nat) {s:σ} (h0:I s) (hr:∀s,I s→body s (fun s'=>I s'∧μ s'<μ s)):Loop body s:=by
 intro X hX
 have key:∀n s,μ s=n→I s→X s:=by
  intro n
  induction n using Nat.strongRecOn with
  | _ n ih=>intro s hn hI;exact hX s _ (hr s hI) (fun s' ⟨hI',hlt⟩=>ih (μ s') (hn▸hlt) s' rfl hI')
 exact key _ s rfl h0
theorem Loop.step {σ:Type} {body:σ→(σ→Prop)→Prop} {s:σ} (h:body s (Loop body)):Loop body s:=fun X hX=>hX s _ h (fun _ h'=>h' X hX)
def Rec {σ τ:Type} (body:(σ→(τ→Prop)→Prop)→σ→(τ→Prop)→Prop) (s:σ) (p:τ→Prop):Prop:=∀X:σ→(τ→Prop)→Prop,(∀s p,body X s p→X s p)→X s p
theorem Rec.mk {σ τ:Type} {body:(σ→(τ→Prop)→Prop)→σ→(τ→Prop)→Prop} (hm:∀X Y:σ→(τ→Prop)→Prop,(∀s p,X s p→Y s p)→∀s p,body X s p→body Y s p) {s:σ} {p:τ→Prop} (h:body (Rec body) s p):Rec body s p:=fun X hX=>hX s p (hm _ _ (fun s p h=>h X hX) s p h)
/-! ## contracts -/
def RetM (w0:World) (ok M:Nat→Prop) (β0:List Value) (Ψ:AVal→Heap→Nat→Prop) (e:Ending) (w:World):Prop:=
 ∃(v:Value) (A:AVal) (H:Heap) (β:List Value) (F ok':Nat→Prop),e=.returned v∧Ψ A H β.length∧(∀(l:Nat) (x:Value),β0[l]?=some x→β[l]?=some x) ∧
  (∀(l:Nat) (x:Value) (b:Nat),β0.length≤l→β[l]?=some x→hdr x=some b→M b∨w0.heap.size≤b)∧Kp w0 M w∧(∀b,ok b→ok' b)∧(∀b,ok' b→(ok b∨M b∨w0.heap.size≤b)∧b<w.heap.size) ∧
  (∀b,F b→(M b∨w0.heap.size≤b)∧b<w.heap.size∧¬ok' b)∧HOk w ok' β w H F∧Dn w ok' β A v
def Tr (P:Program) (f:FuncId) (As:List AVal) (H:Heap) (nl:Nat) (Ψ:AVal→Heap→Nat→Prop):Prop:=
 ∀(w:World) (ok F:Nat→Prop) (β:List Value) (vs:Array Value),β.length=nl→(∀b,ok b→b<w.heap.size∧¬F b)→(∀b,F b→b<w.heap.size)→HOk w ok β w H F→DnL w ok β As vs →
  Calls P f vs w (RetM w ok F β Ψ)
theorem Tr.mono {P:Program} {f:FuncId} {As:List AVal} {H:Heap} {nl:Nat} {Ψ Ψ':AVal→Heap→Nat→Prop} (h:Tr P f As H nl Ψ) (hΨ:∀A H n,Ψ A H n→Ψ' A H n):Tr P f As H nl Ψ':=fun w ok F β vs h1 h2 h3 h4 h5=>
 (h w ok F β vs h1 h2 h3 h4 h5).mono fun _ _ ⟨v,A,H,β,F,ok',e,h,r⟩=>⟨v,A,H,β,F,ok',e,hΨ _ _ _ h,r⟩
/-! ## results without read-only memory -/
mutual
inductive NoSl:AVal→Prop where
 | v (x:Value):NoSl (.v x)
 | o (l:Nat):NoSl (.o l)
 | p (l off:Nat):NoSl (.p l off)
 | ep (l n i off:Nat):NoSl (.ep l n i off)
 | os {α:Type} (n:Nat) (enc:α→List AVal) (xs:List α) (h:∀x,NoSlL (enc x)):NoSl (.os n enc xs)
 | arr {α:Type} (n:Nat) (enc:α→List AVal) (xs:List α) (h:∀x,NoSlL (enc x)):NoSl (.arr n enc xs)
 | om {κ α:Type} (ke:κ→Value) (ve:α→AVal) (xs:List (κ×α)) (h:∀x,NoSl (ve x)):NoSl (.om ke ve xs)
 | agg {cs:List AVal} (h:NoSlL cs):NoSl (.agg cs)
 | tup {cs:List AVal} (h:NoSlL cs):NoSl (.tup cs)
inductive NoSlL:List AVal→Prop where
 | nil:NoSlL []
 | cons {A:AVal} {r:List AVal} (h:NoSl A) (hr:NoSlL r):NoSlL (A :: r)
end
theorem NoSlL.get:∀{cs:List AVal},NoSlL cs→∀(j:Nat) (A:AVal),cs[j]?=some A→NoSl A
 | _,.nil,j,A,h=>by simp at h
 | _,.cons h hr,j,A,hA=>by
  cases j with
  | zero=>simp at hA;subst hA;exact h
  | succ j=>exact hr.get j A (by simpa using hA)
inductive Q2Y:Res→Prop where
 | box {cs:List AVal} (h:NoSlL cs):Q2Y (.box cs)
 | val {A:AVal} (h:NoSl A):Q2Y (.val A)
def Q1A:Heap→Prop
 | []=>True
 | (_,R) :: r=>Q2Y R∧Q1A r
theorem Dn.noSl {w w':World} {ok ok':Nat→Prop} {β:List Value} {A:AVal} {x:Value} (h:Dn w ok β A x):NoSl A→Dn w' ok' β A x:=by
 induction h with
 | ro h=>
  intro hn
  cases hn with
  | v x=>cases h;exact .ro (.v _)
  | _=>cases h
 | p l off b h=>exact fun _=>.p _ _ _ h
 | o l x h h1=>exact fun _=>.o _ _ h h1
 | ep l n i off b o len cap h=>exact fun _=>.ep _ _ _ _ _ _ _ _ h
 | vw l n i m x h=>exact fun _=>.vw _ _ _ _ _ h
 | agg cs vs hl _ ih=>intro hn;cases hn with | agg hn=>exact .agg _ vs hl (fun j A hA=>ih j A hA (hn.get j A hA))
 | tup cs vs hl _ ih=>intro hn;cases hn with | tup hn=>exact .tup _ vs hl (fun j A hA=>ih j A hA (hn.get j A hA))
 | fn=>intro hn;cases hn
theorem Ro.noSl {w w':World} {ok ok':Nat→Prop} {A:AVal} {x:Value} (h:Ro w ok A x) (hn:NoSl A):Ro w' ok' A x:=by
 cases hn with
 | v x=>cases h;exact .v _
 | _=>cases h
theorem On.noSl {w w' w1:World} {ok ok':Nat→Prop} {A:AVal} {x:Value} {F:Nat→Prop} (h:On w ok w1 A x F):NoSl A→On w' ok' w1 A x F:=by
 induction h with
 | ro F h=>
  intro hn
  cases hn with
  | v x=>cases h;exact .ro F (.v _)
  | _=>cases h
 | osNil n enc F p=>exact fun _=>.osNil n enc F p
 | os n enc xs b off cap c T F G hb hw hlen hcap hn hG hd hr ih=>
  intro hs
  cases hs with
  | os _ _ _ hs=>exact .os n enc xs b off cap c T F G hb hw hlen hcap hn hG hd (fun i j x A hx hA=>ih i j x A hx hA ((hs x).get j A hA))
 | arr n enc xs b c T F hb hw hc hn hr=>
  intro hs
  cases hs with
  | arr _ _ _ hs=>exact .arr n enc xs b c T F hb hw hc hn (fun i j x A hx hA=>(hr i j x A hx hA).noSl ((hs x).get j A hA))
 | om ke ve xs b es clock F G hb hw he hG hd hr ih=>
  intro hs
  cases hs with
  | om _ _ _ hs=>exact .om ke ve xs b es clock F G hb hw he hG hd (fun i x e hx he'=>ih i x e hx he' (hs x.2))
theorem HOk.noSl {w w' w1:World} {ok ok':Nat→Prop} {β:List Value}:∀{H:Heap} {F:Nat→Prop},HOk w ok β w1 H F→Q1A H→HOk w' ok' β w1 H F
 | [],_,_,_=>trivial
 | (l,R) :: H,F,⟨F1,F2,h1,h2,h12,hR,hH⟩,⟨hn,hn'⟩=>by
  refine⟨F1,F2,h1,h2,h12,?_,HOk.noSl hH hn'⟩
  cases hn with
  | box hn=>obtain⟨b,c,T,hl,hw,hs,hd,hF⟩:=hR;exact⟨b,c,T,hl,hw,hs,fun j A hA=>(hd j A hA).noSl (hn.get j A hA),hF⟩
  | val hn=>obtain⟨x,hx,h⟩:=hR;exact⟨x,hx,h.noSl hn⟩
theorem NoSl.ml {A:AVal} (f:Nat→Nat) (h:NoSl A):NoSl (A.ml f):=by
 refine NoSl.rec (motive_1:=fun A _=>NoSl (A.ml f)) (motive_2:=fun cs _=>NoSlL (AVal.mlL f cs)) ?_ ?_ ?_ ?_ ?_ ?_ ?_ ?_ ?_ ?_ ?_ h
 ·intro x;exact .v x
 ·intro l;exact .o _
 ·intro l off;exact .p _ _
 ·intro l n i off;exact .ep _ _ _ _
 ·intro α n enc xs h _;exact .os n enc xs h
 ·intro α n enc xs h _;exact .arr n enc xs h
 ·intro κ α ke ve xs h _;exact .om ke ve xs h
 ·intro cs _ ih;exact .agg ih
 ·intro cs _ ih;exact .tup ih
 ·exact .nil
 ·intro A r _ _ h hr;exact .cons h hr
theorem NoSlL.ml {cs:List AVal} (f:Nat→Nat) (h:NoSlL cs):NoSlL (AVal.mlL f cs):=by
 have:=(NoSl.agg h).ml f
 cases this with
 | agg h=>exact h
theorem Q2Y.ml {R:Res} (f:Nat→Nat) (h:Q2Y R):Q2Y (R.ml f):=by
 cases h with
 | box h=>exact .box (h.ml f)
 | val h=>exact .val h
/-! ## calls -/
def clab (ρ:List (Option Nat)) (nl i:Nat):Nat:=
 match ρ[i]? with
 | some (some m)=>m
 | _=>nl+i
def mlH (f:Nat→Nat):Heap→Heap
 | []=>[]
 | (l,R) :: r=>(f l,R.ml f) :: mlH f r
theorem Xb.ml {w0 w:World} {ok:Nat→Prop} {β β':List Value} {f:Nat→Nat} (hf:∀(l:Nat) (v:Value),β[l]?=some v→β'[f l]?=some v) {l:Nat} {F:Nat→Prop} {R:Res} (h:Xb w0 ok β w l F R):Xb w0 ok β' w (f l) F (R.ml f):=by
 cases R with
 | box cells=>
  obtain⟨b,c,T,hl,hw,hs,hd,hF⟩:=h
  refine⟨b,c,T,hf _ _ hl,hw,by simpa [mlL_eq] using hs,fun j A hA=>?_,hF⟩
  simp only [mlL_eq,List.getElem?_map,Option.map_eq_some_iff] at hA
  obtain⟨C,hC,rfl⟩:=hA
  exact (hd j C hC).ml hf
 | val A=>obtain⟨x,hx,h⟩:=h;exact⟨x,hf _ _ hx,h⟩
 | lent enc xs L=>
  obtain⟨b,off,cap,c,T,G,hl,hw,hF,h1,h2,h3,h4,hG,hd,hr⟩:=h
  refine⟨b,off,cap,c,T,G,hf _ _ hl,hw,hF,h1,h2,h3,fun i l' hi=>?_,hG,hd,fun j x A hj hx hA=>hr j x A (fun l' hl'=>hj (f l') (List.mem_map.2 ⟨_,hl',rfl⟩)) hx hA⟩
  obtain⟨p,hp,e⟩:=List.mem_map.1 hi
  cases e
  exact⟨(h4 _ _ hp).1,hf _ _ (h4 _ _ hp).2⟩
 | lentm ke ve xs L=>
  obtain⟨b,es,clock,G,hl,hw,hF,he,h4,hG,hd,hr⟩:=h
  refine⟨b,es,clock,G,hf _ _ hl,hw,hF,he,fun k l' hi=>?_,hG,hd,fun j x e hj hx he'=>hr j x e (fun l' hl'=>hj (f l') (List.mem_map.2 ⟨_,hl',rfl⟩)) hx he'⟩
  obtain⟨p,hp,e⟩:=List.mem_map.1 hi
  have e1:=congrArg Prod.fst e;have e2:=congrArg Prod.snd e
  simp only at e1 e2
  subst e1;subst e2
  obtain⟨i,y,e,h1,h2,h3⟩:=h4 _ _ hp
  exact⟨i,y,e,h1,h2,hf _ _ h3⟩
 | rng ke ve xs seen li=>
  obtain⟨b,bi,es,clock,sa,G,hl,hli,r⟩:=h
  exact⟨b,bi,es,clock,sa,G,hf _ _ hl,hf _ _ hli,r⟩
 | itn=>obtain⟨bi,hl,r⟩:=h;exact⟨bi,hf _ _ hl,r⟩
 | rngm=>obtain⟨bi,O,hl,r⟩:=h;exact⟨bi,O,hf _ _ hl,r⟩
 | abs Φ=>obtain⟨⟨x,hx⟩,r⟩:=h;exact⟨⟨x,hf _ _ hx⟩,r⟩
theorem HOk.ml {w0 w:World} {ok:Nat→Prop} {β β':List Value} {f:Nat→Nat} (hf:∀(l:Nat) (v:Value),β[l]?=some v→β'[f l]?=some v):∀{H:Heap} {F:Nat→Prop},HOk w0 ok β w H F→HOk w0 ok β' w (mlH f H) F
 | [],_,_=>trivial
 | (l,R) :: H,F,⟨F1,F2,h1,h2,h12,hR,hH⟩=>⟨F1,F2,h1,h2,h12,hR.ml hf,HOk.ml hf hH⟩
theorem QM {β γ:List Value} {l:Nat} {x:Value} (h:β[l]?=some x):(β++γ)[l]?=some x:=by
 rw [List.getElem?_append_left]
 ·exact h
 ·exact (List.getElem?_eq_some_iff.1 h).1
theorem Dn.app {w:World} {ok:Nat→Prop} {β γ:List Value} {A:AVal} {x:Value} (h:Dn w ok β A x):Dn w ok (β++γ) A x:=by
 induction h with
 | ro h=>exact .ro h
 | p l off b h=>exact .p _ _ _ (QM h)
 | o l x h h1=>exact .o _ _ (QM h) h1
 | ep l n i off b o len cap h=>exact .ep _ _ _ _ _ _ _ _ (QM h)
 | vw l n i m x h=>exact .vw _ _ _ _ _ (h.map fun _=>QM)
 | agg cs vs hl _ ih=>exact .agg _ vs hl ih
 | tup cs vs hl _ ih=>exact .tup _ vs hl ih
 | fn g fs cs us vs hl _ hl' _ ih ih'=>exact .fn g _ _ us vs hl ih hl' ih'
theorem HOk.app {w0 w:World} {ok:Nat→Prop} {β γ:List Value}:∀{H:Heap} {F:Nat→Prop},HOk w0 ok β w H F→HOk w0 ok (β++γ) w H F
 | [],_,_=>trivial
 | (l,R) :: H,F,⟨F1,F2,h1,h2,h12,hR,hH⟩=>by
  refine⟨F1,F2,h1,h2,h12,?_,HOk.app hH⟩
  cases R with
  | box cells=>obtain⟨b,c,T,hl,hw,hs,hd,hF⟩:=hR;exact⟨b,c,T,QM hl,hw,hs,fun j A hA=>(hd j A hA).app,hF⟩
  | val A=>obtain⟨x,hx,h⟩:=hR;exact⟨x,QM hx,h⟩
  | lent enc xs L=>
   obtain⟨b,off,cap,c,T,G,hl,hw,hF,h1,h2,h3,h4,r⟩:=hR
   exact⟨b,off,cap,c,T,G,QM hl,hw,hF,h1,h2,h3,fun i l' hi=>⟨(h4 i l' hi).1,QM (h4 i l' hi).2⟩,r⟩
  | lentm ke ve xs L=>
   obtain⟨b,es,clock,G,hl,hw,hF,he,h4,r⟩:=hR
   exact⟨b,es,clock,G,QM hl,hw,hF,he,fun k l' hi=>let ⟨i,y,e,h1,h2,h3⟩:=h4 k l' hi;⟨i,y,e,h1,h2,QM h3⟩,r⟩
  | rng ke ve xs seen li=>
   obtain⟨b,bi,es,clock,sa,G,hl,hli,r⟩:=hR
   exact⟨b,bi,es,clock,sa,G,QM hl,QM hli,r⟩
  | itn=>obtain⟨bi,hl,r⟩:=hR;exact⟨bi,QM hl,r⟩
  | rngm=>obtain⟨bi,O,hl,r⟩:=hR;exact⟨bi,O,QM hl,r⟩
  | abs Φ=>obtain⟨⟨x,hx⟩,r⟩:=hR;exact⟨⟨x,QM hx⟩,r⟩
def Q6 (P:Program) (f:FuncId):Prop:=∀(args:Array Value) (w:World),(callFunc f args).run P w=.ok (.enter f args) w
def dlt (d:Option Nat) (n:Nat):Bool:=
 match d with
 | some d=>d.blt n
 | none=>true
def putG (d:Option Nat) (A:AVal) (Γ:Env):Env:=
 match d with
 | some d=>(d,A) :: Γ
 | none=>Γ
section
variable {P:Program} {B:Base} {tb:Tab} {Γ:Env} {H:Heap} {nl:Nat} {o:Oper}
theorem Eff.call {f:FuncId} {g:Operand} {args:Array Operand} {ts:Array TypeId} {fs cs ar As:List AVal} {H1:Heap} {nl1:Nat} {ρ:List (Option Nat)} {v:Bool} {Ψ:AVal→Heap→Nat→Prop} {d:Option Nat} {m:EM}
  (htr:Tr P f As H1 nl1 Ψ) (hen:Q6 P f) (ho:o.op=.call ⟨.value g,args,ts⟩)
  (hg:ev Γ g=some (.fn (.func f) fs cs)) (has:evs Γ args.toList=some ar) (hcs:CsL H ρ nl v (fs++(ar++cs)) As) (hH:ChkH H ρ nl v H1) (hρ:ρ.length=nl1) (hρv:ρ.all (fun m=>match m with | some m=>m.blt nl | none=>true)=true) (hk1:ndup (kept ρ H1)=true) (hnd:ndup (H.map (·.1))=true)
  (hd:o.dst=d) (hlt:dlt d B.n=true) (hv:v=true→∀A H' k,Ψ A H' k→NoSl A∧Q1A H') (hm:m=.any∨(ρ=[]∧m=.fx [] (!v))):
  Eff (ι:=AVal×Heap×Nat) P B Γ H nl o (fun s=>Ψ s.1 s.2.1 s.2.2) (fun s=>putG d (s.1.ml (clab ρ nl)) Γ) (fun s=>mlH (clab ρ nl) s.2.1++Yr ρ H) (fun s=>nl+s.2.2) m:=fun B hB β F a w hβ hf next Q hn=>by
 obtain⟨dst,op,ty,pos,af,gd⟩:=o
 simp only at ho hd;subst ho;subst hd;subst hβ
 obtain⟨hlen,hdn⟩:=Wy (a:=a) hf.env has
 have hgv:=Q5 (a:=a) hf.env hg
 obtain⟨us,vs,hge,hul,hud,hvl,hvd⟩:∃us vs:Array Value,a.eval g=.func (.func f) us vs∧fs.length=us.size∧(∀(j:Nat) (A:AVal),fs[j]?=some A→Dn B.w0 B.ok β A (us.getD j undef))∧cs.length=vs.size∧∀(j:Nat) (A:AVal),cs[j]?=some A→Dn B.w0 B.ok β A (vs.getD j undef):=by
  generalize a.eval g=y at hgv
  cases hgv with
  | ro h=>cases h
  | fn _ _ _ us vs hl h hl' h'=>exact⟨us,vs,rfl,hl,h,hl',h'⟩
 obtain⟨k1,k2⟩:=hf.same
 obtain⟨G,ok2,g0,g1,g2,g3,g4,g5,g6,g7⟩:=hf.heap.cast k1 k2 hH hk1
 -- the arguments
 have hall:∀(j:Nat) (A:AVal),(fs++(ar++cs))[j]?=some A→Dn B.w0 B.ok β A ((us.toList++((args.map a.eval).toList++vs.toList))[j]?.getD undef):=fun j A hA=>by
  rw [List.getElem?_append] at hA ⊢
  rw [hul] at hA
  simp only [Array.length_toList]
  split at hA
  ·rename_i h;rw [if_pos h];simpa [Array.getD_eq_getD_getElem?] using hud j A (by rw [←hul] at h;exact hA)
  ·rename_i h;rw [if_neg h]
   rw [List.getElem?_append] at hA ⊢
   rw [hlen] at hA
   simp only [Array.length_toList]
   split at hA
   ·rename_i h';rw [if_pos h'];simpa [Array.getD_eq_getD_getElem?] using hdn _ A hA
   ·rename_i h';rw [if_neg h'];simpa [Array.getD_eq_getD_getElem?] using hvd _ A hA
 obtain⟨a1,a2⟩:=g6 _ _ _ hcs (by simp [hul,hlen,hvl]) hall
 unfold Oper.wp
 have hrun:(execOp a.eval ⟨dst,.call ⟨.value g,args,ts⟩,ty,pos,af,gd⟩).run P w=.ok (.enter f (us++args.map a.eval++vs)) w:=by
  simp [execOp,resolve,Deferred.ofValue,hge,invoke,hen _ w]
 rw [hrun,Oper.upon_enter]
 have hsz:∀b,F b→b<w.heap.size:=fun b hb=>(hf.own b hb).1
 have hok2:∀b,ok2 b→b<w.heap.size:=fun b hb=>by
  rcases g3 b hb with h | h
  ·exact Nat.lt_of_lt_of_le (hf.ok b h).1 hf.kp.size
  ·exact hsz b h.2.1
 refine (htr w ok2 G (rlβ ρ β) _ (by simpa [rlβ] using hρ) (fun b hb=>⟨hok2 b hb,fun h=>(g1 b h).2 hb⟩) (fun b hb=>hsz b (g1 b hb).1) g4 ⟨by simpa using a1,fun j A hA=>by
  have:=a2 j A hA
  rw [Array.getD_eq_getD_getElem?,←Array.getElem?_toList]
  simpa using this⟩).mono ?_
 rintro e w' ⟨v',A,H2,β2,F2,okc,rfl,hΨ,p1,p2,p3,p4,p5,p6,p7,p8⟩
 -- the caller's labels
 have hlab:∀(l:Nat) (x:Value),β2[l]?=some x→(β++β2)[clab ρ β.length l]?=some x:=fun l x hx=>by
  unfold clab
  split
  ·rename_i m' hm'
   have hlt':l<(rlβ ρ β).length:=by simp [rlβ];exact (List.getElem?_eq_some_iff.1 hm').1
   have e1:=p1 l _ (List.getElem?_eq_getElem hlt')
   rw [hx] at e1
   have hm2:m'<β.length:=by
    have:=List.all_eq_true.1 hρv _ (List.mem_of_getElem? hm')
    exact Nat.le_of_ble_eq_true this
   have e2:(rlβ ρ β)[l]?=some β[m']:=by simp [rlβ,hm',List.getElem?_eq_getElem hm2]
   rw [List.getElem?_eq_getElem hlt'] at e2
   rw [Option.some.inj e2] at e1
   rw [Option.some.inj e1]
   exact QM (List.getElem?_eq_getElem hm2)
  ·rw [List.getElem?_append_right (by omega),Nat.add_sub_cancel_left];exact hx
 -- memory behind the call
 let ok3:Nat→Prop:=fun b=>if v=true then B.ok b else okc b
 have hFc:∀b,F2 b→G b∨w.heap.size≤b:=fun b hb=>(p6 b hb).1
 have hblk:∀b,B.ok b→w'.heap[b]?=w.heap[b]?:=fun b hb=>p3.block b (hok2 b (g2 b hb)) (fun h=>(g1 b h).2 (g2 b hb))
 have hblk0:∀b,B.ok b→w'.heap[b]?=B.w0.heap[b]?:=fun b hb=>(hblk b hb).trans (k1 b hb)
 have ho3:∀b,B.ok b→ok3 b:=fun b hb=>by
  show if v=true then B.ok b else okc b
  split
  ·exact hb
  ·exact p4 b (g2 b hb)
 have ho3':∀b,ok3 b→(B.ok b∨F b∨w.heap.size≤b)∧b<w'.heap.size:=fun b hb=>by
  have hb':if v=true then B.ok b else okc b:=hb
  split at hb'
  ·exact⟨.inl hb',Nat.lt_of_lt_of_le (hok2 b (g2 b hb')) p3.size⟩
  ·rename_i hvf
   obtain⟨h1,h2⟩:=p5 b hb'
   refine⟨?_,h2⟩
   rcases h1 with h1 | h1 | h1
   ·rcases g3 b h1 with h | h
    ·exact .inl h
    ·exact absurd h.1 hvf
   ·exact .inr (.inl (g1 b h1).1)
   ·exact .inr (.inr h1)
 let F3:Nat→Prop:=fun b=>F2 b∨(F b∧¬G b)
 have hF3:∀b,F3 b→¬ok3 b:=fun b hb hb3=>by
  have hb':if v=true then B.ok b else okc b:=hb3
  split at hb'
  ·rcases hb with hb | hb
   ·exact (p6 b hb).2.2 (p4 b (g2 b hb'))
   ·exact k2 b hb' hb.1
  ·rename_i hvf
   rcases hb with hb | hb
   ·exact (p6 b hb).2.2 hb'
   ·rcases (p5 b hb').1 with h1 | h1 | h1
    ·rcases g3 b h1 with h | h
     ·exact k2 b h hb.1
     ·exact hvf h.1
    ·exact hb.2 h1
    ·have:=hsz b hb.1;omega
 have hdisj:∀b,F2 b→F b∧¬G b→False:=fun b h1 h2=>by
  rcases hFc b h1 with h | h
  ·exact h2.2 h
  ·have:=hsz b h2.1;omega
 have hmem:HOk w' ok3 (β++β2) w' (mlH (clab ρ β.length) H2++Yr ρ H) F3:=by
  refine HOk.append (F1:=F2) (F2:=fun b=>F b∧¬G b) ?_ ?_ hdisj
  ·exact ((g7 hnd).app.later (fun b hb hlt'=>p3.block b hlt' hb.2)).lift hblk0 ho3
  ·have:=HOk.ml hlab p7
   by_cases hvt:v=true
   ·have hns:=(hv hvt A H2 _ hΨ).2
    have hml:∀{H:Heap},Q1A H→Q1A (mlH (clab ρ β.length) H):=fun {H}=>by
     induction H with
     | nil=>exact fun _=>trivial
     | cons x H ih=>
      obtain⟨l,R⟩:=x
      rintro⟨h1,h2⟩
      exact⟨h1.ml _,ih h2⟩
    exact this.noSl (hml hns)
   ·have:ok3=okc:=by funext b;show (if v=true then B.ok b else okc b)=okc b;rw [if_neg hvt]
    rw [this];assumption
 have hres:Dn w' ok3 (β++β2) (A.ml (clab ρ β.length)) v':=by
  have:=Dn.ml hlab p8
  by_cases hvt:v=true
  ·exact this.noSl ((hv hvt A H2 _ hΨ).1.ml _)
  ·have e:ok3=okc:=by funext b;show (if v=true then B.ok b else okc b)=okc b;rw [if_neg hvt]
   rw [e];assumption
 have hfresh:∀b,w.heap.size≤b→B.w0.heap.size≤b:=fun b hb=>Nat.le_trans hf.kp.size hb
 have hFM:∀b,F b→B.M b∨B.w0.heap.size≤b:=fun b hb=>by
  rcases Nat.lt_or_ge b B.w0.heap.size with h | h
  ·exact .inl ((hf.own b hb).2 h)
  ·exact .inr h
 have hGM:∀x,G x→x<B.w0.heap.size→B.M x:=fun x hx hlt'=>(hf.own x (g1 x hx).1).2 hlt'
 refine hn (A,H2,β2.length) hΨ (a.put dst v') w' (β++β2) F3 ⟨B.n,B.k,B.b0,w',ok3,F3,B.ds⟩ ⟨rfl,rfl,rfl,hf.kp.trans p3 hGM,ho3,fun b hb=>?_,fun b hb=>?_,[],rfl,.nil,by simp⟩ (by simp) (fun l x h=>QM h) ?_ ?_
 ·rcases (ho3' b hb).1 with h | h | h
  ·exact .inl h
  ·exact .inr (hFM b h)
  ·exact .inr (.inr (hfresh b h))
 ·rcases hb with hb | hb
  ·rcases hFc b hb with h | h
   ·exact hFM b (g1 b h).1
   ·exact .inr (hfresh b h)
  ·exact hFM b hb.1
 ·rcases hm with rfl | ⟨rfl,rfl⟩
  ·trivial
  ·have hG0:∀b,¬G b:=fun b hb=>by obtain⟨m,h⟩:=g0 b hb;cases h
   refine⟨fun l x b hl hx hb=>.inl ?_,p3.mono (fun x hx _=>(hG0 x hx).elim),fun hg b hb=>?_⟩
   ·rw [List.getElem?_append_right hl] at hx
    exact (p2 (l-β.length) x b (by simp [rlβ]) hx hb).resolve_left (hG0 b)
   ·have hvt:v=true:=by simpa using hg
    have hb':if v=true then B.ok b else okc b:=hb
    rw [if_pos hvt] at hb';exact hb'
 ·have hput:∀(t:Nat) (C:AVal),find Γ t=some C→Dn w' ok3 (β++β2) C (a.tmps.getD t undef):=fun t C hC=>((hf.env t C hC).app).lift hblk0 ho3
  have hfb:KH ⟨B.n,B.k,B.b0,w',ok3,F3,B.ds⟩ (β++β2) F3 Γ (mlH (clab ρ β.length) H2++Yr ρ H) a w':=by
   refine⟨.refl _ _,fun b hb=>⟨(ho3' b hb).2,fun h=>hF3 b h hb⟩,fun b hb=>⟨?_,fun _=>hb⟩,hmem,hput,hf.size,hf.defers,fun l x hl hx=>QM (hf.pre l x hl hx)⟩
   rcases hb with hb | hb
   ·exact (p6 b hb).2.1
   ·exact Nat.lt_of_lt_of_le (hsz b hb.1) p3.size
  cases dst with
  | none=>exact hfb.put' _ rfl
  | some d=>exact hfb.put (by rw [←hB] at hlt;exact hlt) hres
end
section
variable {P:Program} {B:Base} {tb:Tab} {Γ Γ':Env} {H H':Heap} {nl nl':Nat} {X:Act→World→Prop} {Q:Exit→Act→World→Prop}
/-! ## statements -/
theorem C.seq {x y:Code} (k:St B Γ H nl (x.wp P (Exit.then (y.wp P Q) Q))):St B Γ H nl ((Code.seq x y).wp P Q):=fun a w hf=>wp_seq (k a w hf)
theorem C.nx {K:Act→World→Prop} (k:St B Γ H nl K):St B Γ H nl (Exit.then K Q .normal):=k
theorem C.ex {K:Act→World→Prop} {id:Nat} (k:St B Γ H nl (Q (.exit id))):St B Γ H nl (Exit.then K Q (.exit id)):=k
theorem C.rt {K:Act→World→Prop} (k:St B Γ H nl (Q .ret)):St B Γ H nl (Exit.then K Q .ret):=k
theorem C.bnx {id:Nat} (k:St B Γ H nl (Q .normal)):St B Γ H nl (Exit.inBlock id Q .normal):=k
theorem C.bex {id:Nat} (k:St B Γ H nl (Q .normal)):St B Γ H nl (Exit.inBlock id Q (.exit id)):=fun a w hf=>by simpa [Exit.inBlock] using k a w hf
theorem C.brt {id:Nat} (k:St B Γ H nl (Q .ret)):St B Γ H nl (Exit.inBlock id Q .ret):=k
theorem C.skip (k:St B Γ H nl (Q .normal)):St B Γ H nl (Code.skip.wp P Q):=fun a w hf=>wp_skip (k a w hf)
theorem C.exit {id:Nat} (k:St B Γ H nl (Q (.exit id))):St B Γ H nl ((Code.exit id).wp P Q):=fun a w hf=>wp_exit (k a w hf)
theorem C.ret (k:St B Γ H nl (Q .ret)):St B Γ H nl (Code.ret.wp P Q):=fun a w hf=>wp_ret (k a w hf)
theorem C.block {id:Nat} {c:Code} (k:St B Γ H nl (c.wp P (Exit.inBlock id Q))):St B Γ H nl ((Code.block id c).wp P Q):=fun a w hf=>wp_block (k a w hf)
theorem C.label {l:Nat} (k:St B Γ H nl (Q .normal)):St B Γ H nl ((Code.label l).wp P Q):=fun a w hf=>wp_label (k a w hf)
theorem C.cond {x y:Code} {c:Operand} {b:Bool} (hc:ev Γ c=some (.v (.bool b))) (ht:b=true→St B Γ H nl (x.wp P Q)) (hf:b=false→St B Γ H nl (y.wp P Q)):St B Γ H nl ((Code.cond c x y).wp P Q):=fun a w hfit=>by
 obtain⟨B',β,F,hx,hβ,h⟩:=hfit
 have:=(Q5 (a:=a) h.env hc).v_inv
 exact wp_cond_split this (fun e=>ht e a w ⟨B',β,F,hx,hβ,h⟩) (fun e=>hf e a w ⟨B',β,F,hx,hβ,h⟩)
def Q1b (P:Program) (c:Code) (Q:Exit→Act→World→Prop) (a:Act) (w:World):Prop:=
 ∀(b:Frame) (k:List Item) (cs:List Frame),∃e a' w',Q e a' w'∧Arrives P (lone (b.at a (.code c :: .inLoop c :: k)) cs w) b k cs e a' w'
theorem Q1b.round {c:Code} {a:Act} {w:World} (h:c.wp P (Exit.then (Q1b P c Q) Q) a w):Q1b P c Q a w:=by
 intro b k cs
 obtain⟨e,a₁,w₁,hq,harr⟩:=h b (.inLoop c :: k) cs
 cases e with
 | normal=>
  obtain⟨e₂,a₂,w₂,hq₂,harr₂⟩:=hq b k cs
  exact⟨e₂,a₂,w₂,hq₂,.of_steps (Steps.trans harr (.one step_inLoop)) harr₂⟩
 | exit id=>exact⟨_,a₁,w₁,hq,.pass (x:=.inLoop c) rfl (fun _ _=>.inl (by simp)) harr⟩
 | goto l=>exact⟨_,a₁,w₁,hq,.pass (x:=.inLoop c) rfl (fun _ _=>.inl (by simp)) harr⟩
 | ret=>exact⟨_,a₁,w₁,hq,.pass (x:=.inLoop c) rfl (fun _ _=>.inl (by simp)) harr⟩
 | panic ch=>exact⟨_,a₁,w₁,hq,.pass (x:=.inLoop c) rfl (fun _ _=>.inl (by simp)) harr⟩
 | outgrown=>exact⟨_,a₁,w₁,hq,.pass (x:=.inLoop c) rfl (fun _ _=>.inl (by simp)) harr⟩
def Next {σ:Type} (B:Base) (Γf:σ→Env) (Hf:σ→Heap) (nl:Nat) (Y:σ→Prop) (a:Act) (w:World):Prop:=∃s,Y s∧Fits B (Γf s) (Hf s) nl a w
theorem C.loop {σ:Type} {body:σ→(σ→Prop)→Prop} {s0:σ} {c:Code} (Γf:σ→Env) (Hf:σ→Heap) (hm:Loop body s0)
  (hround:∀s (Y:σ→Prop),body s Y→St B (Γf s) (Hf s) nl (c.wp P (Exit.then (Next B Γf Hf nl Y) Q))):St B (Γf s0) (Hf s0) nl ((Code.loop c).wp P Q):=by
 have key:St B (Γf s0) (Hf s0) nl (Q1b P c Q):=hm (fun s=>St B (Γf s) (Hf s) nl (Q1b P c Q)) fun s Y hb hY a w hf=>by
  refine Q1b.round (wp_mono (hround s Y hb a w hf) fun e a w hq=>?_)
  cases e with
  | normal=>obtain⟨s',hs',hf'⟩:=hq;exact hY s' hs' a w hf'
  | _=>exact hq
 intro a w hf b k cs
 obtain⟨e,a',w',hq,harr⟩:=key a w hf b k cs
 exact⟨e,a',w',hq,.of_steps (.one step_loop) harr⟩
theorem C.next {σ:Type} {Γf:σ→Env} {Hf:σ→Heap} {Y:σ→Prop} {s:σ} (h:Y s):St B (Γf s) (Hf s) nl (Next B Γf Hf nl Y):=fun _ _ hf=>⟨s,h,hf⟩
/-! ## entry and return -/
def params:Nat→List AVal→Env
 | _,[]=>[]
 | k,A :: r=>(k,A) :: params (k+1) r
theorem Q05:∀(As:List AVal) (k t:Nat) (A:AVal),find (params k As) t=some A→k≤t∧As[t-k]?=some A
 | [],_,_,_,h=>by simp [params,find] at h
 | C :: r,k,t,A,h=>by
  rw [params,find_cons] at h
  split at h
  ·rename_i e;subst e;cases h;simp
  ·rename_i e
   obtain⟨h1,h2⟩:=Q05 r (k+1) t A h
   refine⟨by omega,?_⟩
   have:t-k=(t-(k+1))+1:=by omega
   rw [this,List.getElem?_cons_succ];exact h2
def XR (P:Program) (fn:Func) (R:Ending→World→Prop):Exit→Act→World→Prop
 | .normal,a,w | .ret,a,w=>LeavesInM Fence.wide 0 P fn a.tmps R a.defers .returning w
 | _,_,_=>False
theorem Q2l {fn:Func} {R:Ending→World→Prop}:∀e a w,XR P fn R e a w→bodyPostM Fence.wide 0 P fn R e a w:=fun e a w h=>by
 cases e <;> first | exact h | exact h.elim
theorem Q22 {f:FuncId} {fn:Func} {c:Code} {args:Array Value} {w:World} {R:Ending→World→Prop} (hf:P.funcs[f]?=some fn) (hb:fn.body=some c)
  (h:c.wp P (XR P fn R) {tmps:=args++Array.replicate (fn.ntmps-args.size) undef,defers:=[]} w):Calls P f args w R:=
 callsIn_wide.1 (callsIn_of_wp_marks (F:=Fence.wide) (n:=0) hf hb trivial (wpIn_wide.2 (wp_mono h Q2l)))
theorem Tr.intro {f:FuncId} {fn:Func} {c:Code} {n:Nat} {As:List AVal} {H:Heap} {nl:Nat} {Ψ:AVal→Heap→Nat→Prop} (hf:P.funcs[f]?=some fn) (hb:fn.body=some c) (hn:fn.ntmps=n) (hA:As.length.ble n=true)
  (h:∀w0 ok F β,β.length=nl→St ⟨n,nl,β,w0,ok,F,[]⟩ (params 0 As) H nl (c.wp P (XR P fn (RetM w0 ok F β Ψ)))):Tr P f As H nl Ψ:=fun w ok F β vs hβ hok hF hH hd=>by
 refine Q22 hf hb (h w ok F β hβ _ w ⟨⟨n,nl,β,w,ok,F,[]⟩,β,F,.refl _,hβ,.refl _ _,hok,fun b hb=>⟨hF b hb,fun _=>hb⟩,hH,fun t A hA'=>?_,?_,rfl,fun l x _ h=>h⟩)
 ·obtain⟨_,h2⟩:=Q05 As 0 t A hA'
  have hlt:=(List.getElem?_eq_some_iff.1 h2).1
  simp only [Nat.sub_zero] at h2 hlt
  have:=hd.2 t A h2
  rw [hd.1] at hlt
  simp only [Array.getD_eq_getD_getElem?] at this ⊢
  rw [Array.getElem?_append_left hlt];exact this
 ·have:=Nat.le_of_ble_eq_true hA
  simp [hn,←hd.1];omega
def evR (tb:Tab) (Γ:Env) (H:Heap):ResultVar→Option AVal
 | .tmp t=>find Γ t
 | .cell t T=>match find Γ t with
  | some X=>match Q0J tb H T X with
   | some (A,_)=>some A
   | none=>none
  | none=>none
def evRs (tb:Tab) (Γ:Env) (H:Heap):List ResultVar→Option (List AVal)
 | []=>some []
 | x :: r=>match evR tb Γ H x,evRs tb Γ H r with
  | some a,some l=>some (a :: l)
  | _,_=>none
theorem Q2k (htb:QI P tb) {a:Act} {w:World} {β:List Value} {F:Nat→Prop} (hf:KH B β F Γ H a w) {t:Nat} {T:TypeId} {X A:AVal} {rl:List Nat} (hx:find Γ t=some X) (h:Q0J tb H T X=some (A,rl)):
  ∃v,Dn B.w0 B.ok β A v∧(do loadVar T (←asAddr (a.tmps.getD t undef)):Sem Value).run P w=.ok v w:=by
 obtain ⟨v, hv, hr⟩ := Rd.l (B := B) (nl := β.length) (o := ⟨none, .load T (.tmp t), 0, "", #[], none⟩) htb rfl (by exact hx) h B rfl β F a w rfl hf
 refine⟨v,hv,?_⟩
 have:=hr w (.refl _ _ _ _)
 have hp:∃b off,a.tmps.getD t undef=.pointer (some ⟨b,off,none⟩):=by
  have hX:=hf.env t X hx
  unfold Q0J at h
  split at h
  ·cases h
  ·split at h
   ·obtain⟨b,_,e⟩:=hX.p_inv;exact⟨_,_,e⟩
   ·obtain⟨b,off,f,e,_⟩:=hX.rp_inv;exact⟨_,_,e⟩
   ·cases h
 obtain⟨b,off,e⟩:=hp
 have e2:a.eval (.tmp t)=.pointer (some ⟨b,off,none⟩):=e
 rw [e]
 simp only [execOp,Instr.loadAt,e2,Instr.sureAddr,Sem.run_bind,Sem.run_pure,Result.andThen_ok] at this
 simp only [asAddr,Sem.run_bind,Sem.run_pure,Result.andThen_ok]
 cases hr2:(loadVar T ⟨b,off,none⟩).run P w with
 | ok y w'=>rw [hr2] at this;simp at this;rw [this.1,this.2]
 | halt y w'=>rw [hr2] at this;simp at this
def rdR (tmps:Array Value):ResultVar→Sem Value
 | .tmp t=>pure (tmps.getD t undef)
 | .cell t T=>do loadVar T (←asAddr (tmps.getD t undef))
theorem Q32 (fn:Func) (tmps:Array Value):results fn tmps=(do
  let vs ←fn.results.mapM (rdR tmps)
  pure (if h:vs.size=1 then vs[0] else .tuple vs)):=by
 have:(fun x=>match x with
  | ResultVar.tmp t=>pure (tmps.getD t undef)
  | ResultVar.cell a t=>do loadVar t (←asAddr (tmps.getD a undef)))=rdR tmps:=by
  funext x;cases x <;> rfl
 unfold results
 rw [←this]
 rfl
theorem Q3L (htb:QI P tb) {a:Act} {w:World} {β:List Value} {F:Nat→Prop} (hf:KH B β F Γ H a w):∀{res:List ResultVar} {rs:List AVal},evRs tb Γ H res=some rs →
  ∃vs:List Value,(res.mapM (rdR a.tmps)).run P w=.ok vs w∧rs.length=vs.length∧∀(j:Nat) (A:AVal),rs[j]?=some A→Dn B.w0 B.ok β A (vs.getD j undef)
 | [],rs,h=>by simp only [evRs,Option.some.injEq] at h;subst h;exact⟨[],by simp,rfl,by simp⟩
 | x :: res,rs,h=>by
  simp only [evRs] at h
  split at h
  ·rename_i A l h1 h2;cases h
   obtain⟨vs,e1,e2,e3⟩:=Q3L htb hf h2
   have one:∃v,(rdR a.tmps x).run P w=.ok v w∧Dn B.w0 B.ok β A v:=by
    cases x with
    | tmp t=>exact⟨_,rfl,hf.env t A h1⟩
    | cell t T=>
     simp only [evR] at h1
     split at h1
     ·rename_i X hX
      split at h1
      ·rename_i A' rl hl;cases h1
       obtain⟨v,hv,hr⟩:=Q2k htb hf hX hl
       exact⟨v,hr,hv⟩
      ·cases h1
     ·cases h1
   obtain⟨v,hr,hv⟩:=one
   refine⟨v :: vs,?_,by simp [e2],fun j C hC=>?_⟩
   ·rw [List.mapM_cons,Sem.run_bind,hr,Result.andThen_ok,Sem.run_bind,e1];rfl
   ·cases j with
    | zero=>simp at hC;subst hC;exact hv
    | succ j=>simp at hC;simpa using e3 j C hC
  ·cases h
def tupA:List AVal→AVal
 | [A]=>A
 | l=>.tup l
def Q1a (H:Heap):Nat→Nat→Bool
 | _,0=>true
 | k,n+1=>(match find H k with | some R=>R.ownd | none=>false)&&Q1a H (k+1) n
theorem Q13 {H:Heap}:∀{n k:Nat},Q1a H k n=true→∀l,k≤l→l<k+n→∃R,find H l=some R∧R.ownd=true
 | 0,_,_,_,_,_=>by omega
 | n+1,k,h,l,h1,h2=>by
  simp only [Q1a,Bool.and_eq_true] at h
  by_cases e:k=l
  ·subst e
   cases hf:find H k with
   | none=>simp [hf] at h
   | some R=>exact⟨R,rfl,by simpa [hf] using h.1⟩
  ·exact Q13 h.2 l (by omega) (by omega)
def Gu (Ds:List Nat) (w:World):World:=Ds.foldl (fun w D=>w.putObj D (.deferred none)) w
theorem WH:∀(Ds:List Nat) (w:World),(Gu Ds w).heap.size=w.heap.size
 | [],_=>rfl
 | D :: r,w=>(WH r _).trans (by simp [World.putObj])
theorem Wc:∀(Ds:List Nat) (w:World) (b:Nat),b∉Ds→(Gu Ds w).heap[b]?=w.heap[b]?
 | [],_,_,_=>rfl
 | D :: r,w,b,h=>(Wc r _ b (fun hb=>h (List.mem_cons_of_mem _ hb))).trans (World.putObj_heap_other (fun e=>h (e▸List.mem_cons_self ..)))
theorem Q1R:∀(Ds:List Nat) (w:World),(Gu Ds w).os=w.os∧(Gu Ds w).tape=w.tape∧(Gu Ds w).output=w.output∧(Gu Ds w).drawn=w.drawn
 | [],_=>⟨rfl,rfl,rfl,rfl⟩
 | D :: r,w=>Q1R r _
theorem ZD {fn:Func} {tmps:Array Value} {R:Ending→World→Prop} {v:Value}:∀(Ds:List Nat) (w:World),Ds.Nodup→(∀D,D∈Ds→w.heap[D]?=some (.deferred (some [])))→(results fn tmps).run P (Gu Ds w)=.ok v (Gu Ds w)→R (.returned v) (Gu Ds w) →
  LeavesInM Fence.wide 0 P fn tmps R (Ds.map mark++[]) .returning w
 | [],w,_,_,h1,h2=>⟨v,h1,h2⟩
 | D :: r,w,hn,hd,h1,h2=>by
  refine⟨by simp,.inl ⟨D,w.putObj D (.deferred none),rfl,run_takeDeferred (hd D (List.mem_cons_self ..)),ZD r _ (List.nodup_cons.1 hn).2 (fun E hE=>?_) h1 h2⟩⟩
  have hne:E≠D:=fun e=>(List.nodup_cons.1 hn).1 (by rw [←e];exact hE)
  exact (World.putObj_heap_other hne).trans (hd E (List.mem_cons_of_mem _ hE))
theorem Fits.taken {a:Act} {w:World} (h:Fits B Γ H nl a w) (hds:B.ds=[]):∃Ds:List Nat,a.defers=Ds.map mark++[]∧Ds.Nodup∧(∀D,D∈Ds→w.heap[D]?=some (.deferred (some [])))∧Fits B Γ H nl {a with defers:=[]} (Gu Ds w):=by
 obtain⟨B',β,F,hx,hβ,hf⟩:=h
 obtain⟨Ds,e,hn,hm⟩:=hx.ds
 have lt:∀D,D∈Ds→D<B'.w0.heap.size:=fun D hD=>(Array.getElem?_eq_some_iff.1 (hm D hD).2.1).1
 have hw:∀D,D∈Ds→w.heap[D]?=some (.deferred (some [])):=fun D hD=>(hf.kp.block D (lt D hD) (hm D hD).2.2.1).trans (hm D hD).2.1
 have hF:∀b,F b→b∉Ds:=fun b hb hD=>(hm b hD).2.2.1 ((hf.own b hb).2 (lt b hD))
 have hok:∀b,B'.ok b→b∉Ds:=fun b hb hD=>(hm b hD).2.2.2 hb
 refine⟨Ds,by rw [hf.defers,e,hds],hn,hw,?_⟩
 obtain⟨h1,h2⟩:=hf.same
 obtain⟨t1,t2,t3,t4⟩:=Q1R Ds w
 have hblk:∀b,B'.ok b→(Gu Ds w).heap[b]?=B'.w0.heap[b]?:=fun b hb=>(Wc Ds w b (hok b hb)).trans (h1 b hb)
 have hxw:∀b,F b→B.M b∨B.w0.heap.size≤b:=fun b hb=>by
  rcases Nat.lt_or_ge b B'.w0.heap.size with h | h
  ·exact hx.M b ((hf.own b hb).2 h)
  ·exact .inr (Nat.le_trans hx.kp.size h)
 have hkp:Kp B.w0 B.M (Gu Ds w):=by
  have k0:Kp B.w0 B.M w:=hx.kp.trans hf.kp (fun x hx' hlt=>(hx.M x hx').resolve_right (by omega))
  refine⟨t1.trans k0.os,t2.trans k0.tape,t3.trans k0.output,by rw [WH];exact k0.size,fun b hb hM=>?_,by rw [t4];exact k0.drawn⟩
  rw [Wc Ds w b (fun hD=>by have:=(hm b hD).1;omega)]
  exact k0.block b hb hM
 refine⟨⟨B'.n,B'.k,B'.b0,Gu Ds w,B'.ok,F,[]⟩,β,F,⟨hx.n,hx.k,hx.b0,hkp,hx.ok,hx.new,hxw,[],by simp [hds],.nil,by simp⟩,hβ,.refl _ _,fun b hb=>⟨?_,fun h=>?_⟩,fun b hb=>⟨by rw [WH];exact (hf.own b hb).1,fun _=>hb⟩,?_,?_,hf.size,rfl,hf.pre⟩
 ·show b<(Gu Ds w).heap.size
  rw [WH];exact Nat.lt_of_lt_of_le (hf.ok b hb).1 hf.kp.size
 ·exact (hf.ok b hb).2 ((hf.own b h).2 (hf.ok b hb).1)
 ·exact (hf.heap.lift (ok2:=B'.ok) hblk (fun _ h=>h)).later (fun b hb _=>Wc Ds w b (hF b hb))
 ·exact fun t A hA=>(hf.env t A hA).lift hblk (fun _ h=>h)
theorem C.fin (htb:QI P tb) {fn:Func} {n:Nat} {w0:World} {ok F0:Nat→Prop} {β0:List Value} {Ψ:AVal→Heap→Nat→Prop} {res:List ResultVar} {rs rs':List AVal} {k:Nat} (ρ:List (Option Nat)) (hr:fn.results.toList=res) (he:evRs tb Γ H res=some rs)
  (hx:CsL H ρ nl true rs rs') (hH:ChkH H ρ nl true H') (hn:ndup (kept ρ H')=true) (h0:fixed 0 k ρ=true) (hρ:ρ.length=nl') (hcov:Q1a H' k (nl'-k)=true) (hβ0:β0.length=k) (hΨ:Ψ (tupA rs') H' nl'):St ⟨n,k,β0,w0,ok,F0,[]⟩ Γ H nl (XR P fn (RetM w0 ok F0 β0 Ψ) .ret):=by
 intro a1 w1 hfit
 obtain⟨Ds,eds,hnd,hmk,hfit⟩:=hfit.taken rfl
 show LeavesInM Fence.wide 0 P fn a1.tmps _ a1.defers .returning w1
 rw [eds]
 suffices hsuff:∃v,(results fn ({a1 with defers:=[]}:Act).tmps).run P (Gu Ds w1)=.ok v (Gu Ds w1)∧RetM w0 ok F0 β0 Ψ (.returned v) (Gu Ds w1) by
  obtain⟨v,hv1,hv2⟩:=hsuff
  exact ZD Ds w1 hnd hmk hv1 hv2
 revert hfit
 generalize ({a1 with defers:=[]}:Act)=a
 generalize Gu Ds w1=w
 rintro⟨B',β,F,hext,hβ,hf⟩
 subst hβ
 obtain⟨vs,hrun,hlen,hdn⟩:=Q3L htb hf he
 have hres:(results fn a.tmps).run P w=.ok (if h:vs.length=1 then vs[0] else .tuple vs.toArray) w:=by
  rw [Q32,Sem.run_bind]
  have:(fn.results.mapM (rdR a.tmps)).run P w=.ok vs.toArray w:=by
   rw [Array.mapM_eq_mapM_toList,Sem.run_map,hr,hrun];rfl
  rw [this]
  simp
 obtain⟨k1,k2⟩:=hf.same
 obtain⟨G,ok2,g0,g1,g2,g3,g4,g5,g6,g7⟩:=hf.heap.cast k1 k2 hH hn
 have hFM:∀b,F b→F0 b∨w0.heap.size≤b:=fun b hb=>by
  rcases Nat.lt_or_ge b B'.w0.heap.size with h | h
  ·exact hext.M b ((hf.own b hb).2 h)
  ·exact .inr (Nat.le_trans hext.kp.size h)
 obtain⟨c1,c2⟩:=g6 rs rs' vs hx hlen (fun j A hA=>by simpa [List.getD_eq_getElem?_getD] using hdn j A hA)
 have hpre:∀(l:Nat) (x:Value),β0[l]?=some x→(rlβ ρ β)[l]?=some x:=fun l x hl=>by
  have hlt:l<k:=by rw [←hβ0];exact (List.getElem?_eq_some_iff.1 hl).1
  have:=hf.pre l x (by rw [hext.k];exact hlt) (by rw [hext.b0];exact hl)
  exact Ga (by have:=YV h0 l hlt;simpa using this) this
 refine⟨_,hres,_,tupA rs',H',rlβ ρ β,G,ok2,rfl,by simpa [rlβ,hρ] using hΨ,hpre,fun l x b hl hx' hb=>?_,hext.kp.trans hf.kp (fun x hx hlt=>(hext.M x hx).resolve_right (by simp at hlt ⊢;omega)),fun b hb=>g2 b (hext.ok b hb),fun b hb=>?_,fun b hb=>⟨hFM b (g1 b hb).1,(hf.own b (g1 b hb).1).1,(g1 b hb).2⟩,g4,?_⟩
 ·have hl2:l<nl':=by rw [←hρ];have:=(List.getElem?_eq_some_iff.1 hx').1;simpa [rlβ] using this
  obtain⟨R,hR,hown⟩:=Q13 hcov l (by omega) (by omega)
  obtain⟨F1,hF1,hro⟩:=g4.get hR
  exact hFM b (g1 b (hF1 b (hro.block hx' hb hown))).1
 ·rcases g3 b hb with h | h
  ·refine⟨hext.new b h,Nat.lt_of_lt_of_le (hf.ok b h).1 hf.kp.size⟩
  ·exact⟨.inr (hFM b h.2.1),(hf.own b h.2.1).1⟩
 ·by_cases h1:vs.length=1
  ·obtain⟨A',rfl⟩:∃A',rs'=[A']:=List.length_eq_one_iff.1 (by omega)
   rw [dif_pos h1]
   have:=c2 0 A' rfl
   have e0:vs[0]?.getD undef=vs[0]:=by simp [h1]
   rw [e0] at this;exact this
  ·rw [dif_neg h1]
   have ht:tupA rs'=.tup rs':=by
    unfold tupA
    split
    ·rename_i A;simp at c1;omega
    ·rfl
   rw [ht]
   exact .tup _ _ (by simpa using c1) (fun j A hA=>by simpa [Array.getD_eq_getD_getElem?] using c2 j A hA)
end
end Go.Taq
