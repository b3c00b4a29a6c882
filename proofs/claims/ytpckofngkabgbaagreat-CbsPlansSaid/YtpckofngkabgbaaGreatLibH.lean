/- The library of the generated walks, part H: the steps in the form in which a program writes them. -/
import Derived.Test.YtpckofngkabgbaaGreatLibG
set_option linter.unusedVariables false
namespace Go.Taq
open Go
def Ite (b:Bool) (A B:Prop):Prop:=(b=true→A)∧(b=false→B)
@[simp] theorem Q6f (A B:Prop):Ite true A B=A:=by simp [Ite]
@[simp] theorem Q64 (A B:Prop):Ite false A B=B:=by simp [Ite]
theorem Ite.mk {b:Bool} {A B:Prop} (h1:b=true→A) (h2:b=false→B):Ite b A B:=⟨h1,h2⟩
section
variable {P:Program} {B:Base} {tb:Tab} {Γ Γ':Env} {H H':Heap} {nl nl':Nat} {ops:Array Oper} {Q:Exit→Act→World→Prop} {i:Nat} {rest:List Nat} {o:Oper}
theorem U.p {A:AVal} {d:Nat} (htb:QI P tb) (ho:ops[i]?=some o) (hw:Xh ops Γ o true) (hd:o.dst=some d) (hlt:d.blt B.n=true) (he:Wm tb Γ H o.op=some A)
  (k:St B ((d,A) :: Γ) H nl (wpOps P ops Q rest)):St B Γ H nl (wpOps P ops Q (i :: rest)):=U.rd (Rd.p htb he) ho hw hd hlt k
theorem U.l {A X:AVal} {rl:List Nat} {d:Nat} {T:TypeId} {x:Operand} (htb:QI P tb) (ho:ops[i]?=some o) (hw:Xh ops Γ o true) (hd:o.dst=some d) (hlt:d.blt B.n=true) (hop:o.op=.load T x) (hx:ev Γ x=some X) (he:Q0J tb H T X=some (A,rl))
  (k:St B ((d,A) :: Γ) H nl (wpOps P ops Q rest)):St B Γ H nl (wpOps P ops Q (i :: rest)):=U.rd (Rd.l htb hop hx he) ho hw hd hlt k
theorem Rd.pk {A:AVal} {c x y:Operand} {b:Bool} (ho:o.op=.pick c x y) (hc:ev Γ c=some (.v (.bool b))) (hb:b=true) (hx:ev Γ x=some A):Rd P B Γ H nl o A none:=fun B hB β F a w _ hf=>by
 obtain⟨dst,op,ty,pos,af,g⟩:=o
 simp only at ho;subst ho;subst hb
 have e:=(Q5 (a:=a) hf.env hc).v_inv
 exact⟨_,Q5 hf.env hx,fun w' _=>by simp [execOp,e,asBool]⟩
theorem Rd.pk' {A:AVal} {c x y:Operand} {b:Bool} (ho:o.op=.pick c x y) (hc:ev Γ c=some (.v (.bool b))) (hb:b=false) (hx:ev Γ y=some A):Rd P B Γ H nl o A none:=fun B hB β F a w _ hf=>by
 obtain⟨dst,op,ty,pos,af,g⟩:=o
 simp only at ho;subst ho;subst hb
 have e:=(Q5 (a:=a) hf.env hc).v_inv
 exact⟨_,Q5 hf.env hx,fun w' _=>by simp [execOp,e,asBool]⟩
theorem Rd.dv {op:BinOp} {t t':TypeId} {x y:Operand} {k:IntKind} {a b:Int} (hq:op=.quo) (ho:o.op=.binOp op t x y t') (hx:ev Γ x=some (.v (.int k a))) (hy:ev Γ y=some (.v (.int k b))) (h0:b≠0):Rd P B Γ H nl o (.v (.int k (k.wrap (a.tdiv b)))) none:=fun B hB β F ac w _ hf=>by
 obtain⟨dst,op',ty,pos,af,g⟩:=o
 simp only at ho;subst ho;subst hq
 have e1:=(Q5 (a:=ac) hf.env hx).v_inv
 have e2:=(Q5 (a:=ac) hf.env hy).v_inv
 exact⟨_,.ro (.v _),fun w' _=>by simp [execOp,e1,e2,eqGuard,binOp,Op.intDiv,h0]⟩
theorem Rd.rm {op:BinOp} {t t':TypeId} {x y:Operand} {k:IntKind} {a b:Int} (hq:op=.rem) (ho:o.op=.binOp op t x y t') (hx:ev Γ x=some (.v (.int k a))) (hy:ev Γ y=some (.v (.int k b))) (h0:b≠0):Rd P B Γ H nl o (.v (.int k (a.tmod b))) none:=fun B hB β F ac w _ hf=>by
 obtain⟨dst,op',ty,pos,af,g⟩:=o
 simp only at ho;subst ho;subst hq
 have e1:=(Q5 (a:=ac) hf.env hx).v_inv
 have e2:=(Q5 (a:=ac) hf.env hy).v_inv
 exact⟨_,.ro (.v _),fun w' _=>by simp [execOp,e1,e2,eqGuard,binOp,Op.intDiv,h0]⟩
theorem Rd.sh {op:BinOp} {t t':TypeId} {x y:Operand} {k k':IntKind} {a b:Int} (hq:op=.shr) (ho:o.op=.binOp op t x y t') (hx:ev Γ x=some (.v (.int k a))) (hy:ev Γ y=some (.v (.int k' b))) (h0:0≤b):Rd P B Γ H nl o (.v (.int k (shrI k a b))) none:=fun B hB β F ac w _ hf=>by
 obtain⟨dst,op',ty,pos,af,g⟩:=o
 simp only at ho;subst ho;subst hq
 have e1:=(Q5 (a:=ac) hf.env hx).v_inv
 have e2:=(Q5 (a:=ac) hf.env hy).v_inv
 have h0':¬b<0:=by omega
 exact⟨_,.ro (.v _),fun w' _=>by simp [execOp,e1,e2,eqGuard,binOp,Op.shift,h0',shrI]⟩
theorem Rd.ia (htb:QI P tb) {α:Type} {t:TypeId} {x i:Operand} {n:Nat} {enc:α→List AVal} {xs:List α} {cs:List AVal} {k:IntKind} {j:Int} {y:α} {len e n' by_:Nat} {zc:List Value} {e':TE}
  (ho:o.op=.index t x i) (hx:ev Γ x=some (.agg cs)) (hi:ev Γ i=some (.v (.int k j))) (ht:find tb t=some ⟨.ar len e,n',by_,zc⟩) (he:find tb e=some e') (hn:e'.n=n) (hagg:e'.ti.agg=true)
  (hl:xs.length=len) (hcs:cs=(xs.map enc).flatten) (henc:∀y,y∈xs→(enc y).length=n) (hy:idx xs j=some y):Rd P B Γ H nl o (.agg (enc y)) none:=fun B hB β F a w hβ hf=>by
 obtain⟨dst,op,ty,pos,af,g⟩:=o
 simp only at ho;subst ho
 obtain⟨vs,hv,hvl,hvd⟩:=(Q5 (a:=a) hf.env hx).agg_inv
 have hI:=(Q5 (a:=a) hf.env hi).v_inv
 obtain⟨d,hd,rfl⟩:=htb.und ht
 unfold idx at hy
 split at hy
 ·rename_i h0
  have hlt:=(List.getElem?_eq_some_iff.1 hy).1
  have flat:∀(xs:List α),(∀y,y∈xs→(enc y).length=n)→(xs.map enc).flatten.length=xs.length*n∧∀(m:Nat) (y:α),xs[m]?=some y→∀q,q<n→(xs.map enc).flatten[m*n+q]?=(enc y)[q]?:=by
   intro xs
   induction xs with
   | nil=>intro _;simp
   | cons x xs ih=>
    intro hh
    have hx0:=hh x (by simp)
    obtain⟨e1,e2⟩:=ih (fun y hy=>hh y (by simp [hy]))
    refine⟨by simp only [List.map_cons,List.flatten_cons,List.length_append,e1,hx0,List.length_cons];rw [Nat.succ_mul];omega,fun m y hy q hq=>?_⟩
    cases m with
    | zero=>simp at hy;subst hy;simp only [Nat.zero_mul,Nat.zero_add,List.map_cons,List.flatten_cons];rw [List.getElem?_append_left (by omega)]
    | succ m=>
     simp only [List.map_cons,List.flatten_cons]
     rw [Nat.succ_mul,List.getElem?_append_right (by omega),show m*n+n+q-(enc x).length=m*n+q by omega]
     exact e2 m y (by simpa using hy) q hq
  obtain⟨fl1,fl2⟩:=flat xs henc
  have hyl:=henc y (List.mem_of_getElem? hy)
  have hsz:vs.size=len*n:=by rw [←hvl,hcs,fl1,hl]
  have hle:j.toNat*n+n≤vs.size:=by
   rw [hsz,←hl]
   have:(j.toNat+1)*n≤xs.length*n:=Nat.mul_le_mul_right _ hlt
   rw [Nat.succ_mul] at this;exact this
  refine⟨.agg (vs.extract (j.toNat*n) (j.toNat*n+n)),.agg _ _ (by simp;omega) (fun q A hA=>?_),fun w' _=>?_⟩
  ·have hq:q<n:=by rw [←hyl];exact (List.getElem?_eq_some_iff.1 hA).1
   have:=hvd (j.toNat*n+q) A (by rw [hcs,fl2 _ _ hy q hq];exact hA)
   have e1:(vs.extract (j.toNat*n) (j.toNat*n+n))[q]?=vs[j.toNat*n+q]?:=by
    rw [Array.getElem?_extract];rw [if_pos (by omega)]
   simpa [Array.getD_eq_getD_getElem?,e1] using this
  ·have hj:0≤j∧j<(len:Int):=⟨h0,by omega⟩
   simp [execOp,Instr.index,hI,asIntOf,run_underlying hd,hv,hj,htb.size he,hn,part,htb.isAgg he,hagg]
 ·cases hy
theorem Rd.ib (htb:QI P tb) {t:TypeId} {x i:Operand} {s:ByteArray} {k:IntKind} {j:Int} {c:UInt8} {n' by_:Nat} {zc:List Value}
  (ho:o.op=.index t x i) (hx:ev Γ x=some (.v (.string s))) (hi:ev Γ i=some (.v (.int k j))) (ht:find tb t=some ⟨.str,n',by_,zc⟩) (hy:idx s.data.toList j=some c):Rd P B Γ H nl o (.v (.int .u8 c.toNat)) none:=fun B hB β F a w hβ hf=>by
 obtain⟨dst,op,ty,pos,af,g⟩:=o
 simp only at ho;subst ho
 have hv:=(Q5 (a:=a) hf.env hx).v_inv
 have hI:=(Q5 (a:=a) hf.env hi).v_inv
 obtain⟨d,hd,rfl⟩:=htb.und ht
 unfold idx at hy
 split at hy
 ·rename_i h0
  have hlt:=(List.getElem?_eq_some_iff.1 hy).1
  have hlt':j.toNat<s.size:=by simpa using hlt
  have hs:s[j.toNat]?=some c:=by
   rw [getElem?_pos s j.toNat hlt']
   have:=(List.getElem?_eq_some_iff.1 hy).2
   rw [←this];rfl
  exact⟨_,.ro (.v _),fun w' _=>by simp [execOp,Instr.index,hI,asIntOf,run_underlying hd,hv,h0,hs]⟩
 ·cases hy
theorem Eff.c {f:FuncId} {g:Operand} {args:Array Operand} {ts:Array TypeId} {fs cs ar As:List AVal} {H1:Heap} {nl1:Nat} (ρ:List (Option Nat)) {v:Bool} {σ:Type} {post:σ→Prop} {R:σ→AVal} {H2 H3:σ→Heap} {k2 nl':Nat} {d:Option Nat} {Γ':σ→Env} {m:EM}
  (htr:Tr P f As H1 nl1 (fun A H' k=>∃y,post y∧A=R y∧H'=H2 y∧k=k2)) (hen:Q6 P f) (ho:o.op=.call ⟨.value g,args,ts⟩) (hg:ev Γ g=some (.fn (.func f) fs cs)) (has:evs Γ args.toList=some ar) (hcs:CsL H ρ nl v (fs++(ar++cs)) As) (hH:ChkH H ρ nl v H1)
  (hρ:ρ.length=nl1) (hρv:ρ.all (fun m=>match m with | some m=>m.blt nl | none=>true)=true) (hk1:ndup (kept ρ H1)=true) (hnd:ndup (H.map (·.1))=true) (hd:o.dst=d) (hlt:dlt d B.n=true)
  (hv:v=true→∀y,NoSl (R y)∧Q1A (H2 y)) (hm:m=.any∨(ρ=[]∧m=.fx [] (!v))) (hΓ:∀y,putG d ((R y).ml (clab ρ nl)) Γ=Γ' y) (hH3:∀y,mlH (clab ρ nl) (H2 y)++Yr ρ H=H3 y) (hnl:nl+k2=nl'):
  Eff (ι:=ULift σ) P B Γ H nl o (fun y=>post y.down) (fun y=>Γ' y.down) (fun y=>H3 y.down) (fun _=>nl') m:=fun B' hB β F a w hβ hf next Q hn=>by
 refine Eff.call (d:=d) htr hen ho hg has hcs hH hρ hρv hk1 hnd hd hlt (fun hv' A H' k ⟨y,_,e1,e2,_⟩=>by subst e1;subst e2;exact hv hv' y) hm B' hB β F a w hβ hf next Q (fun s hs a' w' β' F' B'' h1 h2 h3 h4 h5=>?_)
 obtain⟨y,hy,e1,e2,e3⟩:=hs
 dsimp only at h2 h5
 rw [e1,hΓ y,e2,hH3 y] at h5
 rw [e3,hnl] at h2
 exact hn ⟨y⟩ hy a' w' β' F' B'' h1 h2 h3 h4 h5
theorem Ite.cs {b:Bool} {A D G:Prop} (h:Ite b A D) (ht:b=true→A→G) (hf:b=false→D→G):G:=by
 cases hb:b
 ·exact hf hb (h.2 hb)
 ·exact ht hb (h.1 hb)
theorem C.jn {σ:Type} {A:(σ→Prop)→Prop} {k:σ→Prop} {c:Code} (Γf:σ→Env) (Hf:σ→Heap) (nl':Nat) (hm:Jn A k) (hrest:∀x,k x→St B (Γf x) (Hf x) nl' (Q .normal))
  (hbr:∀J,A J→(∀x,J x→St B (Γf x) (Hf x) nl' (Q .normal))→St B Γ H nl (c.wp P Q)):St B Γ H nl (c.wp P Q):=by
 obtain⟨J,hJ,hm⟩:=hm;exact hbr J hm (fun x hx=>hrest x (hJ x hx))
theorem C.ite {x y:Code} {c:Operand} {b:Bool} {A D:Prop} (hc:ev Γ c=some (.v (.bool b))) (hm:Ite b A D) (ht:b=true→A→St B Γ H nl (x.wp P Q)) (hf:b=false→D→St B Γ H nl (y.wp P Q)):St B Γ H nl ((Code.cond c x y).wp P Q):=
 C.cond hc (fun h=>ht h (hm.1 h)) (fun h=>hf h (hm.2 h))
theorem C.condT {x y:Code} {c:Operand} {b:Bool} (hc:ev Γ c=some (.v (.bool b))) (hb:b=true) (k:St B Γ H nl (x.wp P Q)):St B Γ H nl ((Code.cond c x y).wp P Q):=C.cond hc (fun _=>k) (fun h=>by rw [hb] at h;cases h)
theorem C.condF {x y:Code} {c:Operand} {b:Bool} (hc:ev Γ c=some (.v (.bool b))) (hb:b=false) (k:St B Γ H nl (y.wp P Q)):St B Γ H nl ((Code.cond c x y).wp P Q):=C.cond hc (fun h=>by rw [hb] at h;cases h) (fun _=>k)
section
variable {ι:Type 1} {S:ι→Prop} {Γs:ι→Env} {Hs:ι→Heap} {nls:ι→Nat} {m:EM}
theorem U.r {A:AVal} {rl:Option (List Nat)} {d:Nat} (ho:ops[i]?=some o) (hw:Xh ops Γ o true) (hd:o.dst=some d) (hlt:d.blt B.n=true) (h:Rd P B Γ H nl o A rl)
  (k:St B ((d,A) :: Γ) H nl (wpOps P ops Q rest)):St B Γ H nl (wpOps P ops Q (i :: rest)):=U.rd h ho hw hd hlt k
theorem U.e1 (ho:ops[i]?=some o) (hw:Xh ops Γ o true) (h:Eff1 P B Γ H nl o Γ' H' nl' m) (k:St B Γ' H' nl' (wpOps P ops Q rest)):St B Γ H nl (wpOps P ops Q (i :: rest)):=U.eff1 h ho hw k
theorem U.e (ho:ops[i]?=some o) (hw:Xh ops Γ o true) (h:Eff P B Γ H nl o S Γs Hs nls m) (k:∀s,S s→St B (Γs s) (Hs s) (nls s) (wpOps P ops Q rest)):St B Γ H nl (wpOps P ops Q (i :: rest)):=U.eff h ho hw k
end
theorem ntF {b:Bool} (h:b=true):(!b)=false:=by simp [h]
theorem ntT {b:Bool} (h:b=false):(!b)=true:=by simp [h]
theorem NoPanicQ.body {fn:Func} {R:Ending→World→Prop}:NoPanicQ (XR P fn R):=fun c a w d v h=>h.elim
theorem NoPanicQ.th {K:Act→World→Prop} (h:NoPanicQ Q):NoPanicQ (Exit.then K Q):=fun c a w d v hh=>h c a w d v hh
theorem NoPanicQ.blk {id:Nat} (h:NoPanicQ Q):NoPanicQ (Exit.inBlock id Q):=fun c a w d v hh=>h c a w d v hh
section
variable {z:Nat} {ws:World} {M':Nat→Prop} {Lp Ms:List Nat} {fuel:Nat} {listed:Array Bool} {ι:Type 1} {S:ι→Prop} {Γs:ι→Env} {Hs:ι→Heap} {nls:ι→Nat} {ms:List Nat} {gr:Bool} {m:EM} {g:Bool}
theorem D.beg {id:Nat} (z:Nat) (Lp Ms:List Nat) (hm:P.follows .mixedOrders=true) (hLp:Lp.all (fun l=>match find H l with | some R=>R.ownd | none=>false)=true) (hMs:Ms.all (fun l=>(match find H l with | some R=>R.ownd | none=>nl.ble l)&&!Lp.contains l)=true)
  (hs:Region.noSelect ops=true) (hQ:NoPanicQ Q) (k:NoPanicQ Q→Region.noSelect ops=true→∀ws M',StD B ws M' Lp Ms false Γ H nl (Qz P ops Q (Kp ws M') z ops.size (Array.replicate ops.size false))):St B Γ H nl ((Code.region id ops true).wp P Q):=
 D.start z Lp Ms hm hLp hMs (k hQ hs)
theorem D.r {A:AVal} {rl:Option (List Nat)} {d:Nat} (i:Nat) (hQ:NoPanicQ Q) (hs:Region.noSelect ops=true) (ho:ops[i]?=some o) (hw:Xh ops Γ o true) (hd:o.dst=some d) (hlt:d.blt B.n=true) (h:Rd P B Γ H nl o A rl)
  (hrl:rdOk g Lp rl=true) (hf:Region.free .any ops listed i=true) (hr:(Region.ready .any ops listed).contains i=true) (ch:List Nat) (hz:WR ops listed z ch i=true)
  (k:StD B ws M' Lp Ms g ((d,A) :: Γ) H nl (Qz P ops Q (Kp ws M') z fuel (listed.setIfInBounds i true))):StD B ws M' Lp Ms g Γ H nl (Qz P ops Q (Kp ws M') z (fuel+1) listed):=
 D.rd hQ h ho hw hd hlt hrl hs hf hr hz rfl k
theorem D.e (i:Nat) (ho:ops[i]?=some o) (hw:Xh ops Γ o true) (h:Eff P B Γ H nl o S Γs Hs nls (.fx ms gr)) (hr:Region.ready .any ops listed=[i]) (hiz:i.beq z=false) (hms:ms.all (fun l=>Ms.contains l)=true)
  (k:∀s,S s→StD B ws M' Lp Ms (g||gr) (Γs s) (Hs s) (nls s) (Qz P ops Q (Kp ws M') z fuel (listed.setIfInBounds i true))):StD B ws M' Lp Ms g Γ H nl (Qz P ops Q (Kp ws M') z (fuel+1) listed):=
 D.eff h ho hw hr hiz (fun l hl=>by simpa using List.all_eq_true.1 hms l hl) rfl rfl k
theorem D.e1 (i:Nat) (ho:ops[i]?=some o) (hw:Xh ops Γ o true) (h:Eff1 P B Γ H nl o Γ' H' nl' (.fx ms gr)) (hr:Region.ready .any ops listed=[i]) (hiz:i.beq z=false) (hms:ms.all (fun l=>Ms.contains l)=true)
  (k:StD B ws M' Lp Ms (g||gr) Γ' H' nl' (Qz P ops Q (Kp ws M') z fuel (listed.setIfInBounds i true))):StD B ws M' Lp Ms g Γ H nl (Qz P ops Q (Kp ws M') z (fuel+1) listed):=
 D.e i ho hw h hr hiz hms fun _ _=>k
def Q3U (P:Program) (ops:Array Oper) (Q:Exit→Act→World→Prop) (S:World→Prop) (z fuel:Nat) (listed:Array Bool) (i:Nat) (a:Act) (w:World):Prop:=
 wpOp P ops Q i (fun a' w'=>(i≠z→listed.getD z false=false→S w')∧Qz P ops Q S z fuel (listed.setIfInBounds i true) a' w') a w
theorem D.ef (ho:ops[i]?=some o) (hw:Xh ops Γ o true) (h:Eff P B Γ H nl o S Γs Hs nls (.fx ms gr)) (hiz:i.beq z=false) (hms:ms.all (fun l=>Ms.contains l)=true)
  (k:∀s,S s→StD B ws M' Lp Ms (g||gr) (Γs s) (Hs s) (nls s) (Qz P ops Q (Kp ws M') z fuel (listed.setIfInBounds i true))):StD B ws M' Lp Ms g Γ H nl (Q3U P ops Q (Kp ws M') z fuel listed i):=fun a w hf=>by
 have:=D.effF (Q:=Q) h ho hw hiz (fun l hl=>by simpa using List.all_eq_true.1 hms l hl) rfl k a w hf
 exact this
theorem D.ef1 (ho:ops[i]?=some o) (hw:Xh ops Γ o true) (h:Eff1 P B Γ H nl o Γ' H' nl' (.fx ms gr)) (hiz:i.beq z=false) (hms:ms.all (fun l=>Ms.contains l)=true)
  (k:StD B ws M' Lp Ms (g||gr) Γ' H' nl' (Qz P ops Q (Kp ws M') z fuel (listed.setIfInBounds i true))):StD B ws M' Lp Ms g Γ H nl (Q3U P ops Q (Kp ws M') z fuel listed i):=D.ef ho hw h hiz hms fun _ _=>k
theorem D.ze (ho:ops[z]?=some o) (hw:Xh ops Γ o true) (h:Eff P B Γ H nl o S Γs Hs nls m) (hr:Region.ready .any ops listed=[z]) (hr':Region.ready .any ops (listed.setIfInBounds z true)=[])
  (k:∀s,S s→St B (Γs s) (Hs s) (nls s) (Q .normal)):StD B ws M' Lp Ms g Γ H nl (Qz P ops Q (Kp ws M') z (fuel+1) listed):=D.last h ho hw hr hr' k
theorem D.ze1 (ho:ops[z]?=some o) (hw:Xh ops Γ o true) (h:Eff1 P B Γ H nl o Γ' H' nl' m) (hr:Region.ready .any ops listed=[z]) (hr':Region.ready .any ops (listed.setIfInBounds z true)=[])
  (k:St B Γ' H' nl' (Q .normal)):StD B ws M' Lp Ms g Γ H nl (Qz P ops Q (Kp ws M') z (fuel+1) listed):=D.last h ho hw hr hr' fun _ _=>k
end
end
end Go.Taq
