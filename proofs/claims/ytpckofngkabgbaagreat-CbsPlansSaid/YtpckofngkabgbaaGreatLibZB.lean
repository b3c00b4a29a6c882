/- The library of the generated walks, part ZB: slices.SortFunc at structs, by the kit's contract. -/
import Derived.Test.YtpckofngkabgbaaGreatLibZA
import Derived.Shelf.SlSortCmp.WholeK
import Derived.Shelf.SlSortCmp.NoneTotal
set_option linter.unusedVariables false
set_option linter.unusedSimpArgs false
namespace Go.Taq
open Go Go.Shelf Go.RowKit Go.Lib Go.Sort Go.Proofs
def vof:AVal→Value
 | .v x=>x
 | _=>undef
def isV:AVal→Bool
 | .v x=>x.oneCell'
 | _=>false
theorem Q5i {A:AVal} (h:isV A=true):A=.v (vof A)∧(vof A).oneCell'=true:=by
 cases A <;> first | exact⟨rfl,h⟩ | cases h
def encV {α:Type} (enc:α→List AVal) (x:α):List Value:=(enc x).map vof
theorem Dn.fn_inv' {w0:World} {ok:Nat→Prop} {β:List Value} {f:Fn} {fs cs:List AVal} {y:Value} (h:Dn w0 ok β (.fn f fs cs) y):∃us vs:Array Value,y=.func f us vs∧fs.length=us.size∧cs.length=vs.size∧∀(j:Nat) (A:AVal),cs[j]?=some A→Dn w0 ok β A (vs.getD j undef):=by
 cases h with
 | ro h=>cases h
 | fn f fs cs us vs hl h hl' h'=>exact⟨us,vs,rfl,hl,hl',h'⟩
theorem SWOc.swo {α:Type} {cf:α→α→Int} (h:SWOc cf):SWO (ltOf cf) where
 irrefl x:=by simpa [ltOf] using h.1 x
 trans x y z h1 h2:=by simp [ltOf] at *;exact h.2.1 x y z h1 h2
 ntrans x y z h1 h2:=by simp [ltOf] at *;have:=h.2.2 x y z (by omega) (by omega);omega
theorem Kp.grown {W w':World} (h:Kp W (fun _=>False) w'):∃q os',w'=grow (W.drewN q) os':=by
 refine⟨w'.drawn-W.drawn,w'.heap.extract W.heap.size w'.heap.size,?_⟩
 have hd:W.drawn≤w'.drawn:=h.drawn
 have hh:w'.heap=W.heap++w'.heap.extract W.heap.size w'.heap.size:=by
  apply Array.ext_getElem?
  intro i
  rcases Nat.lt_or_ge i W.heap.size with h1 | h1
  ·rw [Array.getElem?_append_left h1];exact h.block i h1 (fun e=>e)
  ·rw [Array.getElem?_append_right h1,Array.getElem?_extract]
   have hs:=h.size
   by_cases h2:i<w'.heap.size
   ·rw [if_pos (by omega)];congr 1;omega
   ·rw [Array.getElem?_eq_none (by omega),if_neg (by omega)]
 have e1:=h.os;have e2:=h.tape;have e3:=h.output
 cases w' with
 | mk hp tp dr os out=>
  simp only at hh hd e1 e2 e3
  unfold grow World.drewN
  simp only [World.mk.injEq]
  exact⟨hh,e2,by omega,e1,e3⟩
section
variable {P:Program} {ρ:Ren} {α:Type} [Inhabited α] {k:Nat} {enc:α→List AVal}
theorem Tr.sortFuncC {caps:List AVal} (hcr:∀A,A∈caps→A.isRo=true) (L:SlLaysF0.n6 P ρ) (aE:∀w,(isAgg (ρ.t 24)).run P w=.ok true w) (zE:∀w,(Go.sizeOf (ρ.t 24)).run P w=.ok k w) (hlen:∀x,(enc x).length=k) (hv:∀x,(enc x).all isV=true) {g:Nat} (eg:Q6 P g) {cf:α→α→Int} (hO:SWOc cf)
  (hcmp:∀x y,Tr P g ([.agg (enc x),.agg (enc y)]++caps) [] 0 (fun A H' k=>∃r,r=cf x y∧A=(.v (.int .i64 r))∧H'=[]∧k=0)) (xs:List α) (hsz:xs.length≤1099511627776) {post:List α→Prop} (hpost:∀ys,ys.Perm xs→ys.Pairwise (fun x y=>¬cf y x<0)→post ys):
  Tr P (ρ.f 6) [.o 0,.fn (.func g) [] caps] [(0,.val (.os k enc xs))] 1 (fun A H' k'=>∃ys,post ys∧A=(.tup [])∧H'=[(0,.val (.os k enc ys))]∧k'=1):=by
 intro w ok F β vs hβ hok hF hH hd
 have hvA:∀x A,A∈enc x→A=.v (vof A)∧(vof A).oneCell'=true:=fun x A hA=>Q5i (List.all_eq_true.1 (hv x) A hA)
 have hkl:∀x,(encV enc x).length=k:=fun x=>by simp [encV,hlen]
 have hone:∀x,∀v∈encV enc x,v.oneCell'=true:=fun x v hvx=>by
  simp only [encV,List.mem_map] at hvx
  obtain⟨A,hA,rfl⟩:=hvx
  exact (hvA x A hA).2
 obtain⟨F1,F2,hF1,hF2,_,⟨v0,hv0,hon⟩,_⟩:=hH
 obtain⟨cb,hvs,hcs0,hcd⟩:∃cb:Array Value,vs=#[v0,.func (.func g) #[] cb]∧caps.length=cb.size∧∀(j:Nat) (A:AVal),caps[j]?=some A→Dn w ok β A (cb.getD j undef):=by
  have h0:=(hd.2 0 _ rfl).o_inv
  rw [hv0] at h0
  obtain⟨us,ws,h1,h2,h3,h4⟩:=(hd.2 1 _ rfl).fn_inv'
  have hs:=hd.1
  have hus:us=#[]:=Array.eq_empty_of_size_eq_zero (by simpa using h2.symm)
  subst hus
  refine⟨ws,?_,h3,h4⟩
  apply Array.ext
  ·simpa using hs.symm
  ·intro i hi1 hi2
   have hi:i=0∨i=1:=by simp at hi2;omega
   rcases hi with rfl | rfl
   ·have:=Option.some.inj h0
    simp [Array.getD_eq_getD_getElem?,Array.getElem?_eq_getElem hi1] at this
    simp [this]
   ·simp [Array.getD_eq_getD_getElem?,Array.getElem?_eq_getElem hi1] at h1
    simp [h1]
 subst hvs
 generalize hA2:AVal.os k enc xs=A2 at hon
 cases hon with
 | ro F h=>subst hA2;cases h
 | arr=>cases hA2
 | om=>cases hA2
 | osNil n2 enc2 F p=>
  cases hA2
  refine (AnyF.slices_SortFunc_none L p 0 _ w).mono fun e w' ⟨he,hw⟩=>?_
  subst hw
  exact⟨_,.tup [],[(0,.val (.os k enc []))],β,F,ok,he,⟨[],hpost [] (.refl _) .nil,rfl,rfl,hβ⟩,fun _ _ h=>h,fun l x b hl hx _=>(by rw [List.getElem?_eq_none (by omega)] at hx;cases hx),.refl _ _,fun _ h=>h,fun b hb=>⟨.inl hb,(hok b hb).1⟩,fun b hb=>⟨.inl hb,hF b hb,fun ho=>(hok b ho).2 hb⟩,
   ⟨F,fun _=>False,fun _ h=>h,fun _ h=>h.elim,fun _ _ h=>h,⟨_,hv0,.osNil _ _ _ p⟩,trivial⟩,.tup [] #[] rfl (by simp)⟩
 | os n2 enc2 xs2 b off cap c T F' G hb hw hlen2 hcap hn hG hdj hr=>
  cases hA2
  have hbF:F b:=hF1 b hb
  have hblk:=hF b hbF
  have hcell:∀(i j:Nat) (x:α) (A:AVal),xs[i]?=some x→(enc x)[j]?=some A→c.getD (off+i*k+j) undef=vof A:=fun i j x A hx hA=>by
   have h1:=hr i j x A hx hA
   have h2:=hvA x A (List.mem_of_getElem? hA)
   rw [h2.1] at h1
   have h3:=h1.ro_of rfl
   generalize c.getD (off+i*k+j) undef=y at h3
   rw [←h2.1] at h3
   rw [h2.1] at h3
   cases h3;rfl
  have hmul:∀i,i<xs.length→i*k+k≤xs.length*k:=fun i hi=>by
   have:=Nat.mul_le_mul_right k (show i+1≤xs.length from hi);rwa [Nat.add_mul,Nat.one_mul] at this
  have hcapk:xs.length*k≤cap*k:=Nat.mul_le_mul_right _ hlen2
  have hH:HoldsK (encV enc) k w b off xs.toArray:=by
   intro t ht
   simp only [size_flatK,List.size_toArray] at ht
   rw [get_flatK _ _ _ _ (by simpa using ht)]
   have hk0:0<k:=by rcases Nat.eq_zero_or_pos k with h | h;· subst h;simp at ht
                    ·exact h
   have hi:t / k<xs.length:=Nat.div_lt_of_lt_mul (by rw [Nat.mul_comm];exact ht)
   have hj:=Nat.mod_lt t hk0
   have hx:xs[t / k]?=some (xs[t / k]'hi):=List.getElem?_eq_getElem hi
   generalize hxe:xs[t / k]'hi=x at hx
   have hA:(enc x)[t % k]?=some ((enc x)[t % k]'(by rw [hlen];exact hj)):=List.getElem?_eq_getElem _
   generalize (enc x)[t % k]'(by rw [hlen];exact hj)=A at hA
   have e1:off+t / k*k+t % k=off+t:=by have:=Nat.div_add_mod t k;rw [Nat.mul_comm] at this;omega
   have h1:=hcell _ _ x A hx hA
   rw [e1] at h1
   have h2:(xs.toArray)[t / k]! = x:=by simp [hi,hxe]
   have h3:(encV enc x)[t % k]! = vof A:=by
    simp only [encV,List.getElem!_eq_getElem?_getD,List.getElem?_map,hA];rfl
   rw [h2,h3]
   constructor
   ·have hlt:off+t<c.size:=by omega
    simp only [World.cell?,hw]
    rw [←h1]
    simp [Array.getD_eq_getD_getElem?,hlt]
   ·simp [World.frozen?,hw]
  have hsame:∀(m:Nat) (os:Array Obj) (dk:Array α) q,q<w.heap.size→q≠b→(sortWorldK (encV enc) k w b off m dk os).heap[q]?=w.heap[q]?:=fun m os dk q h1 h2=>by
   simp only [sortWorldK,putRowK,putRow,grow,mapBlock]
   rw [Array.getElem?_append_left (by simpa using h1),Array.getElem?_modify]
   rw [if_neg (fun e=>h2 e.symm)];rfl
  have hsz0:∀(m:Nat) (os:Array Obj) (dk:Array α),w.heap.size≤(sortWorldK (encV enc) k w b off m dk os).heap.size:=fun m os dk=>by simp [sortWorldK,putRowK,putRow,grow,mapBlock,ahead]
  have hokb:∀q,ok q→q<w.heap.size∧q≠b:=fun q hq=>⟨(hok q hq).1,fun e=>(hok q hq).2 (e▸hbF)⟩
  have hcl:CmpLays P g cb (encV enc) k cf b off xs.toArray.size w:=by
   intro m os dk hs x y
   have h1:=hcmp x y (sortWorldK (encV enc) k w b off m dk os) ok (fun _=>False) [] (#[.agg (encV enc x).toArray,.agg (encV enc y).toArray]++cb) rfl (fun q hq=>⟨Nat.lt_of_lt_of_le (hokb q hq).1 (hsz0 m os dk),id⟩) (fun _ h=>h.elim) trivial ?_
   ·refine h1.mono fun e w' ⟨v,A,H',β',F2,ok',e1,⟨r,hrr,hA,_,_⟩,_,_,hk,_,_,_,_,hvv⟩=>?_
    subst hA;subst hrr
    have:=hvv.v_inv;subst this
    exact⟨e1,hk.grown⟩
   ·have dn:∀x,Dn (sortWorldK (encV enc) k w b off m dk os) ok [] (.agg (enc x)) (.agg (encV enc x).toArray):=fun x=>by
     refine .agg _ _ (by simp [encV]) fun j A hA=>?_
     have h2:=hvA x A (List.mem_of_getElem? hA)
     have h3:(encV enc x).toArray.getD j undef=vof A:=by simp [encV,Array.getD_eq_getD_getElem?,hA]
     rw [h3,h2.1];exact .ro (.v _)
    refine⟨by simp [hcs0];omega,fun j A hA=>?_⟩
    match j,hA with
    | 0,hA=>simp at hA;subst hA;simpa [Array.getD_eq_getD_getElem?,Array.getElem?_append] using dn x
    | 1,hA=>simp at hA;subst hA;simpa [Array.getD_eq_getD_getElem?,Array.getElem?_append] using dn y
    | j+2,hA=>
     have hA:caps[j]?=some A:=by simpa using hA
     have h3:=(hcd j A hA).ro_of (hcr A (List.mem_of_getElem? hA))
     have h4:(#[Value.agg (encV enc x).toArray,Value.agg (encV enc y).toArray]++cb).getD (j+2) undef=cb.getD j undef:=by
      rw [Array.getD_eq_getD_getElem?,Array.getD_eq_getD_getElem?,Array.getElem?_append_right (by simp)];simp
     rw [h4]
     exact .ro (h3.later fun q hq hlt=>hsame m os dk q hlt (hokb q hq).2)
  have hsz':xs.toArray.size<4611686018427387904:=by simp;omega
  have hcon:=AnyQ.slices_SortFunc L k aE zE (encV enc) hkl hone cf hO.swo g cb b off cap xs.toArray w eg hcl hH hblk hsz'
  simp only [List.size_toArray] at hcon
  refine hcon.mono fun e w' ⟨he,d',n,os,hp,hs,hw'⟩=>?_
  have hd's:d'.size=xs.length:=by simpa using hp.1
  have hperm:d'.toList.Perm xs:=by
   have:=hp.2.2
   simp only [Nat.sub_zero,Array.toList_extract,List.extract_eq_take_drop,List.drop_zero] at this
   rw [List.take_of_length_le (by simp [hd's]),List.take_of_length_le (by simp)] at this
   exact this
  have hsort:d'.toList.Pairwise (fun x y=>¬cf y x<0):=by
   rw [List.pairwise_iff_getElem]
   intro i j hi hj hij
   have:=hs i j (Nat.zero_le _) hij (by simpa [hd's] using hj)
   simp only [Array.length_toList] at hi hj
   rw [getElem!_pos d' j hj,getElem!_pos d' i hi] at this
   simpa [ltOf] using this
  have hheap:∀b',b'<w.heap.size→w'.heap[b']?=if b=b' then some (.cells (putCells id off (flatK (encV enc) k d') c) T (0,0)) else w.heap[b']?:=fun b' hb'=>by
   rw [hw']
   simp only [sortWorldK,putRowK,putRow,grow,mapBlock]
   rw [Array.getElem?_append_left (by simpa using hb'),Array.getElem?_modify]
   by_cases e:b=b'
   ·subst e;rw [if_pos rfl,if_pos rfl];show Option.map _ (w.heap[b]?)=_;rw [hw];rfl
   ·rw [if_neg e,if_neg e];rfl
  have hsize:w.heap.size≤w'.heap.size:=by rw [hw'];simp [sortWorldK,putRowK,putRow,grow,mapBlock,ahead]
  have hKp:Kp w F w':=by
   refine⟨by rw [hw'];rfl,by rw [hw'];rfl,by rw [hw'];rfl,hsize,fun b' hb' hn=>?_,by rw [hw'];exact .of_le (by simp [sortWorldK,putRowK,putRow,grow,mapBlock,ahead])⟩
   rw [hheap b' hb',if_neg (fun e=>by subst e;exact hn hbF)]
  have hcs:(putCells id off (flatK (encV enc) k d') c).size=c.size:=by simp [putCells]
  have hOn:On w' ok w' (.os k enc d'.toList) (.slice (some ⟨b,off,none⟩) xs.length cap) F:=by
   have:=On.flat (w0:=w') (ok:=ok) (w:=w') (enc:=enc) (n:=k) (xs:=d'.toList) (b:=b) (off:=off) (cap:=cap) (c:=putCells id off (flatK (encV enc) k d') c) (T:=T) (F:=F) hbF (by rw [hheap b hblk,if_pos rfl]) (by simpa [hd's] using hlen2) (by rw [hcs];exact hcap) (fun i x _=>hlen x) (fun i j x A hx hA=>?_)
   ·simpa [hd's] using this
   ·have hi:i<xs.length:=by have:=(List.getElem?_eq_some_iff.1 hx).1;simpa [hd's] using this
    have hj:j<k:=by rw [←hlen x];exact (List.getElem?_eq_some_iff.1 hA).1
    have hlt:i*k+j<xs.length*k:=by have:=hmul i hi;omega
    have hlt2:off+i*k+j<c.size:=by omega
    have e0:(i*k+j) / k=i:=(blk_iff k i _ (by omega)).1 ⟨by omega,by omega⟩
    have e1:(i*k+j) % k=j:=by rw [Nat.mod_eq_sub_div_mul,e0];omega
    have e2:d'[i]! = x:=by
     have:d'.toList[i]?=some x:=hx
     rw [Array.getElem?_toList] at this
     rw [getElem!_pos d' i (by omega)]
     rw [Array.getElem?_eq_getElem (by omega)] at this
     exact Option.some.inj this
    have e3:(encV enc x)[j]! = vof A:=by simp only [encV,List.getElem!_eq_getElem?_getD,List.getElem?_map,hA];rfl
    have e4:(putCells id off (flatK (encV enc) k d') c).getD (off+i*k+j) undef=vof A:=by
     rw [Array.getD_eq_getD_getElem?,Array.getElem?_eq_getElem (by rw [hcs];exact hlt2)]
     simp only [putCells,Array.getElem_mapIdx,Option.getD_some,size_flatK,id]
     rw [if_pos (by rw [hd's];omega)]
     have e5:off+i*k+j-off=i*k+j:=by omega
     rw [e5,get_flatK _ _ _ _ (by rw [hd's];exact hlt),e0,e1,e2,e3]
    rw [e4]
    have h2:=hvA x A (List.mem_of_getElem? hA)
    rw [h2.1];exact .v _
  exact⟨_,.tup [],[(0,.val (.os k enc d'.toList))],β,F,ok,he,⟨d'.toList,hpost _ hperm hsort,rfl,rfl,hβ⟩,fun _ _ h=>h,fun l x b hl hx _=>(by rw [List.getElem?_eq_none (by omega)] at hx;cases hx),hKp,fun _ h=>h,fun b hb=>⟨.inl hb,Nat.lt_of_lt_of_le (hok b hb).1 hsize⟩,fun b hb=>⟨.inl hb,Nat.lt_of_lt_of_le (hF b hb) hsize,fun ho=>(hok b ho).2 hb⟩,
   ⟨F,fun _=>False,fun _ h=>h,fun _ h=>h.elim,fun _ _ h=>h,⟨_,hv0,hOn⟩,trivial⟩,.tup [] #[] rfl (by simp)⟩
end
theorem On.osMap {w0 w:World} {ok:Nat→Prop} {α β:Type} {enc:α→List AVal} (f:β→α) {n:Nat} {xs:List β} {v:Value} {F:Nat→Prop} (h:On w0 ok w (.os n (fun x=>enc (f x)) xs) v F):On w0 ok w (.os n enc (xs.map f)) v F:=by
 generalize hA:AVal.os n (fun x=>enc (f x)) xs=A at h
 cases h with
 | ro F h=>subst hA;cases h
 | arr=>cases hA
 | om=>cases hA
 | osNil n2 enc2 F p=>cases hA;exact .osNil _ _ _ _
 | os n2 enc2 xs2 b off cap c T F G hb hw hlen hcap hn hG hd hr=>
  cases hA
  have:=On.os (w0:=w0) (ok:=ok) (w:=w) n enc (xs.map f) b off cap c T F G hb hw (by simpa using hlen) hcap (fun i x hx=>?_) hG hd (fun i j x A hx hA=>?_)
  ·simpa using this
  ·rw [List.getElem?_map] at hx
   obtain⟨y,hy,rfl⟩:=Option.map_eq_some_iff.1 hx
   exact hn i y hy
  ·rw [List.getElem?_map] at hx
   obtain⟨y,hy,rfl⟩:=Option.map_eq_some_iff.1 hx
   exact hr i j y A hy hA
theorem On.osMap' {w0 w:World} {ok:Nat→Prop} {α β:Type} {enc:α→List AVal} (f:β→α) {n:Nat} {xs:List β} {v:Value} {F:Nat→Prop} (h:On w0 ok w (.os n enc (xs.map f)) v F):On w0 ok w (.os n (fun x=>enc (f x)) xs) v F:=by
 generalize hA:AVal.os n enc (xs.map f)=A at h
 cases h with
 | ro F h=>subst hA;cases h
 | arr=>cases hA
 | om=>cases hA
 | osNil n2 enc2 F p=>
  injection hA with h1 h2 h3 h4
  subst h1;subst h2
  have h5:=eq_of_heq h4
  have:xs=[]:=by simpa using h5
  subst this;exact .osNil _ _ _ _
 | os n2 enc2 xs2 b off cap c T F G hb hw hlen hcap hn hG hd hr=>
  cases hA
  have:=On.os (w0:=w0) (ok:=ok) (w:=w) n (fun x=>enc (f x)) xs b off cap c T F G hb hw (by simpa using hlen) hcap (fun i x hx=>hn i (f x) (by simp [hx])) hG hd (fun i j x A hx hA=>hr i j (f x) A (by simp [hx]) hA)
  simpa using this
theorem Q0V {α:Type} {p:α→Prop}:∀(xs:List α) (h:∀x,x∈xs→p x),∃ys:List (Subtype p),ys.map Subtype.val=xs
 | [],_=>⟨[],rfl⟩
 | x :: xs,h=>by
  obtain⟨ys,hy⟩:=Q0V xs (fun y hy=>h y (List.mem_cons_of_mem _ hy))
  exact⟨⟨x,h x (by simp)⟩ :: ys,by simp [hy]⟩
theorem Tr.sortFuncCP {caps:List AVal} (hcr:∀A,A∈caps→A.isRo=true) {P:Program} {ρ:Ren} {α:Type} [Inhabited α] {k:Nat} {enc:α→List AVal} (L:SlLaysF0.n6 P ρ) (aE:∀w,(isAgg (ρ.t 24)).run P w=.ok true w) (zE:∀w,(Go.sizeOf (ρ.t 24)).run P w=.ok k w) (hlen:∀x,(enc x).length=k) (hv:∀x,(enc x).all isV=true) {g:Nat} (eg:Q6 P g) {p:α→Prop} {cf:α→α→Int} (h0:p default) (hO:SWOc fun x y:Subtype p=>cf x.1 y.1) (xs:List α) (hp:∀x,x∈xs→p x)
  (hcmp:∀x y,p x→p y→Tr P g ([.agg (enc x),.agg (enc y)]++caps) [] 0 (fun A H' k=>∃r,r=cf x y∧A=(.v (.int .i64 r))∧H'=[]∧k=0)) (hsz:xs.length≤1099511627776) {post:List α→Prop} (hpost:∀ys,ys.Perm xs→ys.Pairwise (fun x y=>¬cf y x<0)→post ys):
  Tr P (ρ.f 6) [.o 0,.fn (.func g) [] caps] [(0,.val (.os k enc xs))] 1 (fun A H' k'=>∃ys,post ys∧A=(.tup [])∧H'=[(0,.val (.os k enc ys))]∧k'=1):=by
 obtain⟨zs,rfl⟩:=Q0V xs hp
 haveI:Inhabited (Subtype p):=⟨⟨default,h0⟩⟩
 have key:=Tr.sortFuncC hcr (α:=Subtype p) (enc:=fun x=>enc x.1) (k:=k) (cf:=fun x y=>cf x.1 y.1) (post:=fun ys=>post (ys.map Subtype.val)) L aE zE (fun x=>hlen x.1) (fun x=>hv x.1) eg hO (fun x y=>hcmp x.1 y.1 x.2 y.2) zs (by simpa using hsz)
  (fun ys h1 h2=>hpost _ (h1.map _) (by rw [List.pairwise_map];exact h2))
 intro w ok F β vs hβ hok hF hH hd
 obtain⟨F1,F2,hF1,hF2,hdj,⟨v0,hv0,hon⟩,hr⟩:=hH
 refine (key w ok F β vs hβ hok hF ⟨F1,F2,hF1,hF2,hdj,⟨v0,hv0,hon.osMap'⟩,hr⟩ hd).mono fun e w' ⟨v,A,H',β',F',ok',he,⟨ys,hy,hA,hH',hk⟩,r1,r2,r3,r4,r5,r6,r7,r8⟩=>?_
 subst hH'
 obtain⟨G1,G2,hG1,hG2,hGd,⟨u0,hu0,hun⟩,hgr⟩:=r7
 exact⟨v,A,[(0,.val (.os k enc (ys.map Subtype.val)))],β',F',ok',he,⟨_,hy,hA,rfl,hk⟩,r1,r2,r3,r4,r5,r6,⟨G1,G2,hG1,hG2,hGd,⟨u0,hu0,hun.osMap⟩,hgr⟩,r8⟩
theorem Tr.sortFuncP {P:Program} {ρ:Ren} {α:Type} [Inhabited α] {k:Nat} {enc:α→List AVal} (L:SlLaysF0.n6 P ρ) (aE:∀w,(isAgg (ρ.t 24)).run P w=.ok true w) (zE:∀w,(Go.sizeOf (ρ.t 24)).run P w=.ok k w) (hlen:∀x,(enc x).length=k) (hv:∀x,(enc x).all isV=true) {g:Nat} (eg:Q6 P g) {p:α→Prop} {cf:α→α→Int} (h0:p default) (hO:SWOc fun x y:Subtype p=>cf x.1 y.1) (xs:List α) (hp:∀x,x∈xs→p x)
  (hcmp:∀x y,p x→p y→Tr P g [.agg (enc x),.agg (enc y)] [] 0 (fun A H' k=>∃r,r=cf x y∧A=(.v (.int .i64 r))∧H'=[]∧k=0)) (hsz:xs.length≤1099511627776) {post:List α→Prop} (hpost:∀ys,ys.Perm xs→ys.Pairwise (fun x y=>¬cf y x<0)→post ys):
  Tr P (ρ.f 6) [.o 0,.fn (.func g) [] []] [(0,.val (.os k enc xs))] 1 (fun A H' k'=>∃ys,post ys∧A=(.tup [])∧H'=[(0,.val (.os k enc ys))]∧k'=1):=
 Tr.sortFuncCP (caps:=[]) (fun A h=>by cases h) L aE zE hlen hv eg h0 hO xs hp hcmp hsz hpost
end Go.Taq
