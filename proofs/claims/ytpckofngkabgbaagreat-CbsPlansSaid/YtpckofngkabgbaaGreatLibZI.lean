/- The library of the generated walks, part ZI: slices.Insert into an owned slice of flat elements: from what a walk of its text shows of cells to a contract. -/
import Derived.Test.YtpckofngkabgbaaGreatLibZA
import Derived.Deep.AppendSrc
import Derived.Lib.AppendZerosOnto
import Derived.Lib.Overlaps
set_option linter.unusedVariables false
set_option linter.unusedSimpArgs false
namespace Go.Taq
open Go
def spl (c:Array Value) (o:Nat) (cs:Array Value) (so m:Nat):Array Value:=(c.toList.take o++(cs.toList.drop so).take m++c.toList.drop (o+m)).toArray
theorem Yk {c:Array Value} {o:Nat} {cs:Array Value} {so m:Nat} (h1:o+m≤c.size) (h2:so+m≤cs.size):(spl c o cs so m).size=c.size:=by
 unfold spl;simp;omega
theorem Zg {c:Array Value} {o:Nat} {cs:Array Value} {so m:Nat} (h1:o+m≤c.size) (h2:so+m≤cs.size) (j:Nat):(spl c o cs so m).getD j undef=if o≤j∧j<o+m then cs.getD (so+(j-o)) undef else c.getD j undef:=by
 have hl:((cs.toList.drop so).take m).length=m:=by simp;omega
 have:=Gc c o ((cs.toList.drop so).take m) (by omega) j
 rw [hl] at this
 unfold spl
 rw [this]
 by_cases h:o≤j∧j<o+m
 ·rw [if_pos h,if_pos h]
  simp only [List.getD_eq_getElem?_getD,Array.getD_eq_getD_getElem?]
  rw [List.getElem?_take,if_pos (by omega),List.getElem?_drop];simp
 ·rw [if_neg h,if_neg h]
section
variable {P:Program}
theorem Q2B {w:World} {b:Nat} {c:Array Value} {T:TypeId} (h:w.heap[b]?=some (.cells c T (0,0))) {o m:Nat} (hm:o+m≤c.size):∀(j:Nat) (u:Value),((c.toList.drop o).take m)[j]?=some u→w.cell? ((⟨b,o,none⟩:Addr).add j)=some u:=fun j u hu=>by
 have hj:=(List.getElem?_eq_some_iff.1 hu).1
 simp only [List.length_take,List.length_drop,Array.length_toList] at hj
 rw [List.getElem?_take,if_pos (by omega),List.getElem?_drop] at hu
 rw [Kx]
 have:c[o+j]?=some u:=by simpa using hu
 simp [World.cell?,h,this]
theorem Q4H {c:Array Value} {o m:Nat} (hm:o+m≤c.size) (h:∀q,q<m→(c.getD (o+q) undef).oneCell'=true):∀v∈(c.toList.drop o).take m,v.oneCell'=true:=fun v hv=>by
 obtain⟨j,hj⟩:=List.getElem?_of_mem hv
 have hjl:=(List.getElem?_eq_some_iff.1 hj).1
 simp only [List.length_take,List.length_drop,Array.length_toList] at hjl
 rw [List.getElem?_take,if_pos (by omega),List.getElem?_drop] at hj
 have:=h j (by omega)
 have e:c.getD (o+j) undef=v:=by
  rw [Array.getD_eq_getD_getElem?]
  have:c[o+j]?=some v:=by simpa using hj
  rw [this];rfl
 rw [e] at this;exact this
theorem WN {S E K:Nat} (hS:P.underlying S=some (.slice E)) (hz:∀w,(sizeOf E).run P w=.ok K w) (w:World) {b o dl dc sb so sl sc:Nat} {c cs:Array Value} {T Ts:TypeId} (hb:w.heap[b]?=some (.cells c T (0,0))) (hs:w.heap[sb]?=some (.cells cs Ts (0,0)))
  {k:Nat} (hk:Nat.min sl dl=k) (h1:o+k*K≤c.size) (h2:so+k*K≤cs.size) (hone:∀q,q<k*K→(cs.getD (so+q) undef).oneCell'=true) (ty:TypeId):
  (Builtin.copy_ #[S,S] ty #[.slice (some ⟨b,o,none⟩) dl dc,.slice (some ⟨sb,so,none⟩) sl sc]).run P w=.ok (goInt k) (w.setRow b (spl c o cs so (k*K))):=by
 have hl:((cs.toList.drop so).take (k*K)).length=k*K:=by simp;omega
 have hfirst:=run_firstCells_some (P:=P) w K k ⟨sb,so,none⟩ sl sc ((cs.toList.drop so).take (k*K)) hl (Q2B hs h2)
 have hst:=run_storeCells_at (P:=P) b o T ((cs.toList.drop so).take (k*K)) 0 c w hb (by rw [hl];simpa using h1) (Q4H h2 hone)
 simp only [Nat.add_zero] at hst
 rw [hl] at hst
 have hlen:∀w':World,(Builtin.lenOf (.slice (some ⟨sb,so,none⟩) sl sc)).run P w'=.ok sl w':=fun w'=>by simp [Builtin.lenOf]
 unfold spl
 simp [Builtin.copy_,hlen,run_underlying hS,hz,hk,hfirst,hst,goInt]
theorem Q4f (w:World) {o:Oper} {a:Act} {K:Act→World→Prop} {Q:Exit→Act→World→Prop} (d s:Operand) (t t':TypeId) (ho:o.op=.call {callee:=.builtin .copy,args:=#[d,s],argTypes:=#[t,t']}) (v u:Value) (hd:a.eval d=v) (hs:a.eval s=u) {v':Value} {w':World}
  (hr:(Builtin.copy_ #[t,t'] o.type #[v,u]).run P w=.ok v' w') (h:K (a.put o.dst v') w'):o.wp P a w K Q:=by
 unfold Oper.wp execOp
 simp only [ho,resolve,invoke,builtin,Sem.run_bind,Sem.run_pure,Result.andThen_ok,List.map_toArray,List.map_cons,List.map_nil,hd,hs,hr]
 exact h
theorem Q2X (w:World) {ops:Array Oper} {rest:List Oper} {o:Oper} {a:Act} {Q:Exit→Act→World→Prop} (hgd:o.guard=none) (d s:Operand) (t t':TypeId) (ho:o.op=.call {callee:=.builtin .copy,args:=#[d,s],argTypes:=#[t,t']}) (v u:Value) (hd:a.eval d=v) (hs:a.eval s=u) {v':Value} {w':World}
  (hr:(Builtin.copy_ #[t,t'] o.type #[v,u]).run P w=.ok v' w') (h:wpList P ops Q rest (a.put o.dst v') w'):wpList P ops Q (o :: rest) a w:=
 wpList_plain hgd fun _ hK=>Q4f w d s t t' ho v u hd hs hr (hK _ _ h)
theorem Q2D {ops:Array Oper} {o:Oper} {a:Act} {w:World} {K:Act→World→Prop} {Q:Exit→Act→World→Prop} {E:Prop} (hg:o.guard=none) (d x:Operand) (dT sT:TypeId) (hop:o.op=Op.call {callee:=Callee.builtin Builtin.copy,args:=#[d,x],argTypes:=#[dT,sT]})
  (v u:Value) (hd:a.eval d=v) (hx:a.eval x=u) {v':Value} {w':World} (hr:(Builtin.copy_ #[dT,sT] o.type #[v,u]).run P w=.ok v' w') (hK:K (a.put o.dst v') w'):if Region.wanted o (yielded ops a.tmps)=true then Oper.wp P o a w K Q else E:=by
 have hw:Region.wanted o (yielded ops a.tmps)=true:=by simp [Region.wanted,hg]
 rw [if_pos hw]
 exact Q4f w d x dT sT hop v u hd hx hr hK
def Q3r (P:Program) (f:FuncId) (K:Nat):Prop:=
 ∀(w:World) (b off n c i vb voff m vc:Nat) (cb cv:Array Value) (Tb Tv:TypeId),w.heap[b]?=some (.cells cb Tb (0,0))→w.heap[vb]?=some (.cells cv Tv (0,0))→vb≠b→i<n→n≤c→0<m→m≤vc→off+c*K≤cb.size→voff+vc*K≤cv.size→n+m≤1099511627776 →
  (∀q,q<n*K→(cb.getD (off+q) undef).oneCell'=true)→(∀q,q<m*K→(cv.getD (voff+q) undef).oneCell'=true) →
  Calls P f #[.slice (some ⟨b,off,none⟩) n c,.int .i64 i,.slice (some ⟨vb,voff,none⟩) m vc] w fun e w'=>
   ∃b' off' c' cb' T',e=.returned (.slice (some ⟨b',off',none⟩) (n+m) c')∧n+m≤c'∧w'.heap[b']?=some (.cells cb' T' (0,0))∧off'+c'*K≤cb'.size∧(b'=b∨w.heap.size≤b'∧b'<w'.heap.size)∧Kp w (fun x=>x=b) w' ∧
    ∀q,q<(n+m)*K→cb'.getD (off'+q) undef=if q<i*K then cb.getD (off+q) undef else if q<(i+m)*K then cv.getD (voff+(q-i*K)) undef else cb.getD (off+(q-m*K)) undef
theorem Gz (w:World) (g:Nat) (c:Array Value):(w.setRow g c).heap.size=w.heap.size:=by simp [World.setRow]
theorem Q0R (w:World) (x:Obj):(w.alloc x).heap.size=w.heap.size+1:=Array.size_push ..
theorem Q3w {f:FuncId} {K E:Nat}
  (hR:∀(w:World) (b off n c i vb voff m vc:Nat) (cb cv:Array Value) (Tb Tv:TypeId),w.heap[b]?=some (.cells cb Tb (0,0))→w.heap[vb]?=some (.cells cv Tv (0,0))→vb≠b→i<n→0<m→m≤vc→off+c*K≤cb.size→voff+vc*K≤cv.size →
   (∀q,q<n*K→(cb.getD (off+q) undef).oneCell'=true)→(∀q,q<m*K→(cv.getD (voff+q) undef).oneCell'=true)→n+m≤c→n+m≤1099511627776 →
   Calls P f #[.slice (some ⟨b,off,none⟩) n c,.int .i64 i,.slice (some ⟨vb,voff,none⟩) m vc] w fun e w'=>e=.returned (.slice (some ⟨b,off,none⟩) (n+m) c) ∧
    w'=(w.drew.setRow b (spl cb (off+(i+m)*K) cb (off+i*K) ((n-i)*K))).setRow b (spl (spl cb (off+(i+m)*K) cb (off+i*K) ((n-i)*K)) (off+i*K) cv voff (m*K)))
  (hG:∀(w:World) (b off n c i vb voff m vc:Nat) (cb cv:Array Value) (Tb Tv:TypeId),w.heap[b]?=some (.cells cb Tb (0,0))→w.heap[vb]?=some (.cells cv Tv (0,0))→i<n→n≤c→0<m→m≤vc→off+c*K≤cb.size→voff+vc*K≤cv.size →
   (∀q,q<n*K→(cb.getD (off+q) undef).oneCell'=true)→(∀q,q<m*K→(cv.getD (voff+q) undef).oneCell'=true)→c<n+m→n+m≤1099511627776 →
   ∃(G:Nat) (row:Array Value),n+m≤G∧row.size=G*K∧(∀q,q<i*K→row.getD q undef=cb.getD (off+q) undef) ∧
   Calls P f #[.slice (some ⟨b,off,none⟩) n c,.int .i64 i,.slice (some ⟨vb,voff,none⟩) m vc] w fun e w'=>e=.returned (.slice (some ⟨w.heap.size,0,none⟩) (n+m) G) ∧
    w'.heap=(((w.alloc (.cells row E)).setRow w.heap.size (spl row (i*K) cv voff (m*K))).setRow w.heap.size (spl (spl row (i*K) cv voff (m*K)) ((i+m)*K) cb (off+i*K) ((n-i)*K))).heap∧w'.os=w.os∧w'.tape=w.tape∧w'.output=w.output∧w.drawn≤w'.drawn):Q3r P f K:=fun w b off n c i vb voff m vc cb cv Tb Tv hwb hwv hne hi hnc hm hmv hcb hcv hnm ho1 ho2=>by
 have hN2:i*K+(n-i)*K=n*K:=by rw [←Nat.add_mul];congr 1;omega
 have hN1:(i+m)*K+(n-i)*K=(n+m)*K:=by rw [←Nat.add_mul];congr 1;omega
 have hN5:i*K+m*K=(i+m)*K:=(Nat.add_mul _ _ _).symm
 have hN4:n*K≤c*K:=Nat.mul_le_mul_right _ hnc
 have hN7:m*K≤vc*K:=Nat.mul_le_mul_right _ hmv
 have hbl:=Xv hwb
 rcases Nat.lt_or_ge c (n+m) with hroom | hroom
 ·obtain⟨G,row,hG,hrs,hrow,hc⟩:=hG w b off n c i vb voff m vc cb cv Tb Tv hwb hwv hi hnc hm hmv hcb hcv ho1 ho2 hroom hnm
  have hGK:(n+m)*K≤G*K:=Nat.mul_le_mul_right _ hG
  have hs1:(spl row (i*K) cv voff (m*K)).size=row.size:=Yk (by omega) (by omega)
  have hs2:=Yk (c:=spl row (i*K) cv voff (m*K)) (o:=(i+m)*K) (cs:=cb) (so:=off+i*K) (m:=(n-i)*K) (by omega) (by omega)
  refine hc.mono fun e w'=>?_
  rintro⟨he,hh,h1,h2,h3,h4⟩
  have hA0:(w.alloc (.cells row E)).heap[w.heap.size]?=some (.cells row E (0,0)):=heap_alloc_new w _
  refine⟨w.heap.size,0,G,_,E,he,hG,by rw [hh];exact setRow_heap _ _ _ _ _ _ (setRow_heap _ _ _ _ _ _ hA0),by rw [hs2,hs1,hrs];omega,.inr ⟨Nat.le_refl _,by rw [hh,Gz,Gz,Q0R];omega⟩,⟨h1,h2,h3,by rw [hh,Gz,Gz,Q0R];omega,fun x hx _=>?_,.of_le h4⟩,fun q hq=>?_⟩
  ·rw [hh,setRow_other _ _ _ _ (by omega:x≠w.heap.size),setRow_other _ _ _ _ (by omega:x≠w.heap.size)]
   exact RowKit.Below.heap_alloc w _ x hx
  ·rw [Nat.zero_add,Zg (by omega) (by omega)]
   by_cases c1:q<i*K
   ·rw [if_neg (by omega),Zg (by omega) (by omega),if_neg (by omega),if_pos c1];exact hrow q c1
   ·by_cases c2:q<(i+m)*K
    ·rw [if_neg (by omega),Zg (by omega) (by omega),if_pos (by omega),if_neg c1,if_pos c2]
    ·rw [if_pos (by omega),if_neg c1,if_neg c2];congr 1;omega
 ·have hcK:(n+m)*K≤c*K:=Nat.mul_le_mul_right _ hroom
  have hs1:(spl cb (off+(i+m)*K) cb (off+i*K) ((n-i)*K)).size=cb.size:=Yk (by omega) (by omega)
  have hs2:=Yk (c:=spl cb (off+(i+m)*K) cb (off+i*K) ((n-i)*K)) (o:=off+i*K) (cs:=cv) (so:=voff) (m:=m*K) (by omega) (by omega)
  refine (hR w b off n c i vb voff m vc cb cv Tb Tv hwb hwv hne hi hm hmv hcb hcv ho1 ho2 hroom hnm).mono fun e w'=>?_
  rintro⟨he,hw'⟩
  have hwb2:w.drew.heap[b]?=some (.cells cb Tb (0,0)):=hwb
  refine⟨b,off,c,_,Tb,he,hroom,by rw [hw'];exact setRow_heap _ _ _ _ _ _ (setRow_heap _ _ _ _ _ _ hwb2),by rw [hs2,hs1];exact hcb,.inl rfl,⟨by rw [hw'];rfl,by rw [hw'];rfl,by rw [hw'];rfl,by rw [hw',Gz,Gz];exact Nat.le_refl _,fun x hx hn=>?_,.of_le (by rw [hw'];exact Nat.le_succ _)⟩,fun q hq=>?_⟩
  ·have hxb:x≠b:=fun e=>hn e
   rw [hw',setRow_other _ _ _ _ hxb,setRow_other _ _ _ _ hxb];rfl
  ·rw [Zg (by omega) (by omega)]
   by_cases c1:q<i*K
   ·rw [if_neg (by omega),Zg (by omega) (by omega),if_neg (by omega),if_pos c1]
   ·by_cases c2:q<(i+m)*K
    ·rw [if_pos (by omega),if_neg c1,if_pos c2];congr 1;omega
    ·rw [if_neg (by omega),Zg (by omega) (by omega),if_pos (by omega),if_neg c1,if_neg c2];congr 1;omega
theorem Tr.insert {f:FuncId} {K:Nat} (hraw:Q3r P f K) {α:Type} {enc:α→List AVal} (hflat:∀x,(enc x).all WX=true) (xs ys:List α) (i:Nat) (hi:i<xs.length) (hy:0<ys.length) (hsz:xs.length+ys.length≤1099511627776) {post:List α→Prop} (hp:post (xs.take i++(ys++xs.drop i))):
  Tr P f [.o 0,.v (.int .i64 (i:Int)),.o 1] [(0,.val (.os K enc xs)),(1,.val (.os K enc ys))] 2 (fun A H' k'=>∃zs,post zs∧A=.o 2∧H'=[(2,.val (.os K enc zs))]∧k'=3):=by
 intro w ok F β vs hβ hok hF hH hd
 have hfro:∀x A,A∈enc x→A.isRo=true:=fun x A h=>Y1 (List.all_eq_true.1 (hflat x) A h)
 obtain⟨F1,F2,hF1,hF2,h12,⟨v0,hv0,hon0⟩,F3,F4,hF3,_,_,⟨v1,hv1,hon1⟩,_⟩:=hH
 have hvs:vs=#[v0,.int .i64 (i:Int),v1]:=by
  have h0:=(hd.2 0 _ rfl).o_inv
  have h1:=(hd.2 1 _ rfl).v_inv
  have h2:=(hd.2 2 _ rfl).o_inv
  rw [hv0] at h0;rw [hv1] at h2
  have hs:=hd.1
  apply Array.ext
  ·simpa using hs.symm
  ·intro j hj1 hj2
   have hj:j=0∨j=1∨j=2:=by simp at hj2;omega
   rcases hj with rfl | rfl | rfl
   ·have:=Option.some.inj h0;simp [Array.getD_eq_getD_getElem?,Array.getElem?_eq_getElem hj1] at this;simp [this]
   ·simp [Array.getD_eq_getD_getElem?,Array.getElem?_eq_getElem hj1] at h1;simp [h1]
   ·have:=Option.some.inj h2;simp [Array.getD_eq_getD_getElem?,Array.getElem?_eq_getElem hj1] at this;simp [this]
 subst hvs
 have hf0:=hon0.flat_of hfro
 have hf1:=hon1.flat_of hfro
 cases hf0 with
 | nil p h=>subst h;simp at hi
 | row b off c cb Tb hb hwb hlen hcap hn hr=>
 cases hf1 with
 | nil p h=>subst h;simp at hy
 | row vb voff vc cv Tv hvb hwv hvlen hvcap hvn hvr=>
  have hbF:F b:=hF1 b hb
  have hne:vb≠b:=fun e=>h12 b hb (e▸hF3 vb hvb)
  have hKx:∀(j:Nat) (x:α),xs[j]?=some x→(enc x).length=K:=hn
  have ones:∀{zs:List α} {c0:Array Value} {o:Nat},(∀(j:Nat) (x:α),zs[j]?=some x→(enc x).length=K)→(∀(i j:Nat) (x:α) (A:AVal),zs[i]?=some x→(enc x)[j]?=some A→Ro w ok A (c0.getD (o+i*K+j) undef))→∀q,q<zs.length*K→(c0.getD (o+q) undef).oneCell'=true:=fun {zs c0 o} hzn hzr q hq=>by
   obtain⟨m1,m2,m3,m4⟩:=Zn hq
   have hx:=List.getElem?_eq_getElem m2
   have hA:=List.getElem?_eq_getElem (show q % K<(enc zs[q / K]).length by rw [hzn _ _ hx];exact m3)
   have h1:=hzr _ _ _ _ hx hA
   have e:o+q / K*K+q % K=o+q:=by rw [Nat.add_assoc,Nat.div_add_mod']
   rw [e] at h1
   exact (Dn.ro (β:=[]) h1).one (Ws (List.all_eq_true.1 (hflat _) _ (List.getElem_mem _)))
  refine (hraw w b off xs.length c i vb voff ys.length vc cb cv Tb Tv hwb hwv hne hi hlen hy hvlen hcap hvcap hsz (ones hn hr) (ones hvn hvr)).mono fun e w'=>?_
  rintro⟨b',off',c',cb',T',he,hc',hw',hcap',hb',hk,hcell⟩
  have hzl:(xs.take i++(ys++xs.drop i)).length=xs.length+ys.length:=by simp;omega
  have hblk:∀x,ok x→x<w.heap.size→w'.heap[x]?=w.heap[x]?:=fun x hx hlt=>hk.block x hlt (fun e=>(hok x hx).2 (by have:x=b:=e;rw [this];exact hbF))
  have hget:∀p u,(xs.take i++(ys++xs.drop i))[p]?=some u→(p<i∧xs[p]?=some u)∨(i≤p∧p<i+ys.length∧ys[p-i]?=some u)∨(i+ys.length≤p∧p<xs.length+ys.length∧xs[p-ys.length]?=some u):=fun p u hu=>by
   have hpl:=(List.getElem?_eq_some_iff.1 hu).1
   rw [hzl] at hpl
   have hti:(xs.take i).length=i:=by simp;omega
   rcases Nat.lt_or_ge p i with h | h
   ·rw [List.getElem?_append_left (by omega),List.getElem?_take,if_pos h] at hu;exact .inl ⟨h,hu⟩
   ·rw [List.getElem?_append_right (by omega),hti] at hu
    rcases Nat.lt_or_ge p (i+ys.length) with h' | h'
    ·rw [List.getElem?_append_left (by omega)] at hu
     exact .inr (.inl ⟨h,h',hu⟩)
    ·rw [List.getElem?_append_right (by omega),List.getElem?_drop] at hu
     have e3:i+(p-i-ys.length)=p-ys.length:=by omega
     rw [e3] at hu
     exact .inr (.inr ⟨h',hpl,hu⟩)
  have hOn:On w' ok w' (.os K enc (xs.take i++(ys++xs.drop i))) (.slice (some ⟨b',off',none⟩) (xs.length+ys.length) c') (fun x=>x=b'):=by
   have:=On.flat (w0:=w') (ok:=ok) (w:=w') (enc:=enc) (n:=K) (xs:=xs.take i++(ys++xs.drop i)) (b:=b') (off:=off') (cap:=c') (c:=cb') (T:=T') (F:=fun x=>x=b') rfl hw' (by rw [hzl];exact hc') hcap' (fun p u hu=>?_) (fun p j u A hu hA=>?_)
   ·rw [hzl] at this;exact this
   ·rcases hget p u hu with h | h | h
    ·exact hn p u h.2
    ·exact hvn _ u h.2.2
    ·exact hn _ u h.2.2
   ·have hpl:p<xs.length+ys.length:=by rw [←hzl];exact (List.getElem?_eq_some_iff.1 hu).1
    have hj:j<K:=by
     have:=(List.getElem?_eq_some_iff.1 hA).1
     rcases hget p u hu with h | h | h
     ·rw [hn p u h.2] at this;exact this
     ·rw [hvn _ u h.2.2] at this;exact this
     ·rw [hn _ u h.2.2] at this;exact this
    have hq:p*K+j<(xs.length+ys.length)*K:=by
     have:(p+1)*K≤(xs.length+ys.length)*K:=Nat.mul_le_mul_right _ hpl
     rw [Nat.succ_mul] at this;omega
    have hc2:=hcell (p*K+j) hq
    have ea:off'+p*K+j=off'+(p*K+j):=by omega
    rw [ea,hc2]
    refine Ro.later (w:=w) hblk ?_
    rcases hget p u hu with h | h | h
    ·have h1:(p+1)*K≤i*K:=Nat.mul_le_mul_right _ h.1
     rw [Nat.succ_mul] at h1
     rw [if_pos (by omega)]
     have:=hr p j u A h.2 hA
     have e2:off+p*K+j=off+(p*K+j):=by omega
     rw [e2] at this;exact this
    ·have h1:i*K≤p*K:=Nat.mul_le_mul_right _ h.1
     have h2:(p+1)*K≤(i+ys.length)*K:=Nat.mul_le_mul_right _ h.2.1
     rw [Nat.succ_mul] at h2
     rw [if_neg (by omega),if_pos (by omega)]
     have:=hvr (p-i) j u A h.2.2 hA
     have e2:voff+(p-i)*K+j=voff+(p*K+j-i*K):=by rw [Nat.sub_mul];omega
     rw [e2] at this;exact this
    ·have h1:(i+ys.length)*K≤p*K:=Nat.mul_le_mul_right _ h.1
     have h3:i*K≤(i+ys.length)*K:=Nat.mul_le_mul_right _ (by omega)
     have h4:ys.length*K≤(i+ys.length)*K:=Nat.mul_le_mul_right _ (by omega)
     rw [if_neg (by omega),if_neg (by omega)]
     have:=hr (p-ys.length) j u A h.2.2 hA
     have e2:off+(p-ys.length)*K+j=off+(p*K+j-ys.length*K):=by rw [Nat.sub_mul];omega
     rw [e2] at this;exact this
  have hsize:w.heap.size≤w'.heap.size:=hk.size
  have hb2:(F b'∨w.heap.size≤b')∧b'<w'.heap.size∧¬ok b':=by
   rcases hb' with e | ⟨e1,e2⟩
   ·rw [e];exact⟨.inl hbF,Nat.lt_of_lt_of_le (hF b hbF) hsize,fun ho=>(hok b ho).2 hbF⟩
   ·exact⟨.inr e1,e2,fun ho=>by have:=(hok b' ho).1;omega⟩
  refine⟨_,.o 2,[(2,.val (.os K enc (xs.take i++(ys++xs.drop i))))],β++[.slice (some ⟨b',off',none⟩) (xs.length+ys.length) c'],fun x=>x=b',ok,he,⟨_,hp,rfl,rfl,by simp [hβ]⟩,fun l x h=>Q8 h,fun l x b2 hl hx hh=>?_,hk.mono (fun x hx _=>by have:x=b:=hx;rw [this];exact hbF),fun _ h=>h,fun x hx=>⟨.inl hx,Nat.lt_of_lt_of_le (hok x hx).1 hsize⟩,fun x hx=>by have:x=b':=hx;rw [this];exact hb2,
   ⟨fun x=>x=b',fun _=>False,fun _ h=>h,fun _ h=>h.elim,fun _ _ h=>h,⟨_,by rw [←hβ];simp,hOn⟩,trivial⟩,.o 2 _ (by rw [←hβ];simp) rfl⟩
  have:=GK hβ (by omega) hx
  subst this
  cases c' with
  | zero=>cases hh
  | succ c'=>cases hh;exact hb2.1
end
theorem Tr.drop1 {P:Program} {f:FuncId} {As:List AVal} {H:Heap} {nl:Nat} {τ:Type} {Φ:τ→Prop} {B:τ→AVal} {l1 l2 k:Nat} {R1 R2:τ→Res} (h:Tr P f As H nl (fun A H' n=>∃y,Φ y∧A=B y∧H'=[(l1,R1 y),(l2,R2 y)]∧n=k)):
  Tr P f As H nl (fun A H' n=>∃y,Φ y∧A=B y∧H'=[(l2,R2 y)]∧n=k):=by
 intro w ok F β vs h1 h2 h3 h4 h5
 refine (h w ok F β vs h1 h2 h3 h4 h5).mono fun e w' ⟨v,A,H',β',F',ok',e1,⟨y,hy,hA,hH,hk⟩,a1,a2,a3,a4,a5,a6,hh,hd⟩=>?_
 subst hH
 obtain⟨F1,F2,g1,g2,g3,g4,g5⟩:=hh
 exact⟨v,A,[(l2,R2 y)],β',F',ok',e1,⟨y,hy,hA,rfl,hk⟩,a1,a2,a3,a4,a5,a6,g5.mono g2,hd⟩
end Go.Taq
