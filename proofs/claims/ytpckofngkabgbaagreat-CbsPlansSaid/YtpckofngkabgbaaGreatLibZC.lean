/- The library of the generated walks, part ZC: slices.Sort at numbers, strings.IndexByte, by the kit's contracts. -/
import Derived.Test.YtpckofngkabgbaaGreatLibZA
import Derived.Shelf.Sort.Plain
import Derived.Shelf.Slices.In.SortNone
import Derived.Shelf.Small.Strs
set_option linter.unusedVariables false
set_option linter.unusedSimpArgs false
namespace Go.Taq
open Go Go.Shelf Go.RowKit Go.Lib Go.Sort Go.Proofs
section
variable {P:Program} {ρ:Ren}
theorem Tr.sortInt (L:Lays.n189 P ρ) (xs:List Int) (hsz:xs.length≤1099511627776) {post:List Int→Prop} (hpost:post (xs.mergeSort fun x y=>decide (x≤y))):
  Tr P (ρ.f 189) [.o 0] [(0,.val (.os 1 (fun x:Int=>[.i x]) xs))] 1 (fun A H' k'=>∃ys,post ys∧A=(.tup [])∧H'=[(0,.val (.os 1 (fun x:Int=>[.i x]) ys))]∧k'=1):=by
 intro w ok F β vs hβ hok hF hH hd
 obtain⟨F1,F2,hF1,hF2,_,⟨v0,hv0,hon⟩,_⟩:=hH
 have hvs:vs=#[v0]:=by
  have h0:=(hd.2 0 _ rfl).o_inv
  rw [hv0] at h0
  have hs:=hd.1
  apply Array.ext
  ·simpa using hs.symm
  ·intro i hi1 hi2
   have hi:i=0:=by simp at hi2;omega
   subst hi
   have:=Option.some.inj h0
   simp [Array.getD_eq_getD_getElem?,Array.getElem?_eq_getElem hi1] at this
   simp [this]
 subst hvs
 generalize hA2:AVal.os 1 (fun x:Int=>[AVal.i x]) xs=A2 at hon
 cases hon with
 | ro F h=>subst hA2;cases h
 | arr=>cases hA2
 | om=>cases hA2
 | osNil n2 enc2 F p=>
  injection hA2 with h1 h2 h3 h4
  subst h1;subst h2
  have hxs:xs=[]:=eq_of_heq h4
  subst hxs
  refine (Any.slices_Sort_int_none L p 0 w).mono fun e w' ⟨he,hw⟩=>?_
  subst hw
  exact⟨_,.tup [],[(0,.val (.os 1 (fun x:Int=>[AVal.i x]) []))],β,F,ok,he,⟨[],by simpa using hpost,rfl,rfl,hβ⟩,fun _ _ h=>h,fun l x b hl hx _=>(by rw [List.getElem?_eq_none (by omega)] at hx;cases hx),.refl _ _,fun _ h=>h,fun b hb=>⟨.inl hb,(hok b hb).1⟩,fun b hb=>⟨.inl hb,hF b hb,fun ho=>(hok b ho).2 hb⟩,
   ⟨F,fun _=>False,fun _ h=>h,fun _ h=>h.elim,fun _ _ h=>h,⟨_,hv0,.osNil _ _ _ p⟩,trivial⟩,.tup [] #[] rfl (by simp)⟩
 | os n2 enc2 xs2 b off cap c T F' G hb hw hlen2 hcap hn hG hdj hr=>
  cases hA2
  have hbF:F b:=hF1 b hb
  have hblk:=hF b hbF
  have hcell:∀(i:Nat) (x:Int),xs[i]?=some x→c.getD (off+i) undef=.int .i64 x:=fun i x hx=>by
   have h1:=hr i 0 x _ hx rfl
   have h3:=h1.ro_of rfl
   rw [Nat.mul_one,Nat.add_zero] at h3
   generalize c.getD (off+i) undef=y at h3
   cases h3;rfl
  have hH:Holds (Value.int .i64) w b off xs.toArray:=fun j hj=>by
   have hj':j<xs.length:=by simpa using hj
   have h1:=hcell j _ (List.getElem?_eq_getElem hj')
   have hlt:off+j<c.size:=by omega
   constructor
   ·simp only [World.cell?,hw]
    have e2:xs.toArray[j]! = xs[j]:=by simp [hj']
    rw [e2,←h1]
    simp [Array.getD_eq_getD_getElem?,hlt]
   ·simp [World.frozen?,hw]
  have hcon:=Any.slices_Sort_int L b off cap xs w hH hblk (by omega)
  refine hcon.mono fun e w' ⟨he,n,os,hw'⟩=>?_
  generalize hys:(xs.mergeSort fun x y=>decide (x≤y))=ys at hw' hpost
  have hyl:ys.length=xs.length:=by rw [←hys];simp
  have hheap:∀b',b'<w.heap.size→w'.heap[b']?=if b=b' then some (.cells (putCells (Value.int .i64) off ys.toArray c) T (0,0)) else w.heap[b']?:=fun b' hb'=>by
   rw [hw']
   simp only [putRow,grow,mapBlock,ahead]
   rw [Array.getElem?_append_left (by simpa using hb'),Array.getElem?_modify]
   by_cases e:b=b'
   ·subst e;rw [if_pos rfl,if_pos rfl];show Option.map _ (w.heap[b]?)=_;rw [hw];rfl
   ·rw [if_neg e,if_neg e];rfl
  have hsize:w.heap.size≤w'.heap.size:=by rw [hw'];simp [putRow,grow,mapBlock,ahead]
  have hKp:Kp w F w':=by
   refine⟨by rw [hw'];rfl,by rw [hw'];rfl,by rw [hw'];rfl,hsize,fun b' hb' hn=>?_,.of_le (by rw [hw'];simp [putRow,grow,mapBlock,ahead])⟩
   rw [hheap b' hb',if_neg (fun e=>by subst e;exact hn hbF)]
  have hcs:(putCells (Value.int .i64) off ys.toArray c).size=c.size:=by simp [putCells]
  have hOn:On w' ok w' (.os 1 (fun x:Int=>[AVal.i x]) ys) (.slice (some ⟨b,off,none⟩) xs.length cap) F:=by
   have:=On.flat (w0:=w') (ok:=ok) (w:=w') (enc:=fun x:Int=>[AVal.i x]) (n:=1) (xs:=ys) (b:=b) (off:=off) (cap:=cap) (c:=putCells (Value.int .i64) off ys.toArray c) (T:=T) (F:=F) hbF (by rw [hheap b hblk,if_pos rfl]) (by omega) (by rw [hcs];exact hcap) (fun i x _=>rfl) (fun i j x A hx hA=>?_)
   ·rw [hyl] at this;exact this
   ·have hj:j=0:=by
     match j,hA with
     | 0,_=>rfl
    subst hj
    simp at hA;subst hA
    have hi:i<ys.length:=(List.getElem?_eq_some_iff.1 hx).1
    have hlt2:off+i*1+0<c.size:=by omega
    have e4:(putCells (Value.int .i64) off ys.toArray c).getD (off+i*1+0) undef=.int .i64 x:=by
     rw [Array.getD_eq_getD_getElem?,Array.getElem?_eq_getElem (by rw [hcs];exact hlt2)]
     simp only [putCells,Array.getElem_mapIdx,Option.getD_some]
     rw [if_pos (by simp;omega)]
     have e5:off+i*1+0-off=i:=by omega
     rw [e5]
     have:ys.toArray[i]! = x:=by
      have:=(List.getElem?_eq_some_iff.1 hx).2
      simp [hi,this]
     rw [this]
    rw [e4];exact .v _
  exact⟨_,.tup [],[(0,.val (.os 1 (fun x:Int=>[AVal.i x]) ys))],β,F,ok,he,⟨ys,hpost,rfl,rfl,hβ⟩,fun _ _ h=>h,fun l x b hl hx _=>(by rw [List.getElem?_eq_none (by omega)] at hx;cases hx),hKp,fun _ h=>h,fun b hb=>⟨.inl hb,Nat.lt_of_lt_of_le (hok b hb).1 hsize⟩,fun b hb=>⟨.inl hb,Nat.lt_of_lt_of_le (hF b hb) hsize,fun ho=>(hok b ho).2 hb⟩,
   ⟨F,fun _=>False,fun _ h=>h,fun _ h=>h.elim,fun _ _ h=>h,⟨_,hv0,hOn⟩,trivial⟩,.tup [] #[] rfl (by simp)⟩
theorem Tr.indexByte (L:Lays.n137 P ρ) (s:ByteArray) (c:Int) {post:Int→Prop} (hpost:post (Q0e s c)):
  Tr P (ρ.f 137) [.v (.string s),.v (.int .u8 c)] [] 0 (fun A H' k'=>∃y,post y∧A=(.i y)∧H'=[]∧k'=0):=by
 intro w ok F β vs hβ hok hF hH hd
 have hvs:vs=#[.string s,.int .u8 c]:=by
  have h0:=(hd.2 0 _ rfl).v_inv
  have h1:=(hd.2 1 _ rfl).v_inv
  have hs:=hd.1
  apply Array.ext
  ·simpa using hs.symm
  ·intro i hi1 hi2
   have hi:i=0∨i=1:=by simp at hi2;omega
   rcases hi with rfl | rfl
   ·simp [Array.getD_eq_getD_getElem?,Array.getElem?_eq_getElem hi1] at h0
    simp [h0]
   ·simp [Array.getD_eq_getD_getElem?,Array.getElem?_eq_getElem hi1] at h1
    simp [h1]
 subst hvs
 refine (Any.strings_IndexByte L s c w).mono fun e w' ⟨he,hw⟩=>?_
 subst hw
 exact⟨_,.i (Q0e s c),[],β,F,ok,he,⟨_,hpost,rfl,rfl,hβ⟩,fun _ _ h=>h,fun l x b hl hx _=>(by rw [List.getElem?_eq_none (by omega)] at hx;cases hx),.refl _ _,fun _ h=>h,fun b hb=>⟨.inl hb,(hok b hb).1⟩,fun b hb=>⟨.inl hb,hF b hb,fun ho=>(hok b ho).2 hb⟩,trivial,.ro (.v _)⟩
end
end Go.Taq
