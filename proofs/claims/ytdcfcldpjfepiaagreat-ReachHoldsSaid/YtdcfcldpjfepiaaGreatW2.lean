/- The walks: each Go function does what its verification condition says (written by a program of the prover). -/
import Derived.Test.YtdcfcldpjfepiaaGreatW1
import Derived.KernelRfl
set_option maxRecDepth 100000
set_option maxHeartbeats 8000000
set_option linter.unusedVariables false
set_option linter.unusedSimpArgs false
namespace Go.Proofs.YtdcfcldpjfepiaaGreat
open Go Go.Taq
theorem Q9T (w:World) {b off lb cb vb voff m vc:Nat} {cc cv:Array Value} {Tb Tv:TypeId} (hwb:w.heap[b]?=some (.cells cc Tb (0,0))) (hwv:w.heap[vb]?=some (.cells cv Tv (0,0))) (hne:vb≠b) (b0:cc.size≠0):
  (callFunc 215 #[.slice (some ⟨vb,voff,none⟩) m vc,.slice (some ⟨b,off,none⟩) lb cb]).run Tryz.prog w=.ok (.value (.bool false)) w:=by
 rw [run_callFunc_extern Tryz.func215 (by kernel_rfl) (by kernel_rfl) (by kernel_rfl) (e:=Extern.SlicesOverlaps.overlaps #[32,32] #[4]) (by kernel_rfl),
  Lib.run_overlaps_apart w 32 4 121 Tryz.underlying32 2 Tryz.sizeOf121 ⟨vb,voff,none⟩ ⟨b,off,none⟩ m vc lb cb hne Tv Tb cv.size cc.size (by simp [World.shape?,hwv]) (by simp [World.shape?,hwb]) b0 (by simp [World.frozen?,hwv]) (by simp [World.frozen?,hwv])]
 rfl
set_option maxHeartbeats 4000000 in
theorem Q8H (w:World) (b off n c i vb voff m vc:Nat) (cb cv:Array Value) (Tb Tv:TypeId) (hwb:w.heap[b]?=some (.cells cb Tb (0,0))) (hwv:w.heap[vb]?=some (.cells cv Tv (0,0))) (hne:vb≠b) (hi:i<n) (g:0<m) (hmv:m≤vc) (hcb:off+c*2≤cb.size) (hcv:voff+vc*2≤cv.size)
  (ho1:∀q,q<n*2→(cb.getD (off+q) undef).oneCell'=true) (ho2:∀q,q<m*2→(cv.getD (voff+q) undef).oneCell'=true) (hroom:n+m≤c) (hnm:n+m≤1099511627776):
  Calls Tryz.prog 208 #[.slice (some ⟨b,off,none⟩) n c,.int .i64 i,.slice (some ⟨vb,voff,none⟩) m vc] w fun e w'=>e=.returned (.slice (some ⟨b,off,none⟩) (n+m) c) ∧
   w'=(w.drew.setRow b (spl cb (off+(i+m)*2) cb (off+i*2) ((n-i)*2))).setRow b (spl (spl cb (off+(i+m)*2) cb (off+i*2) ((n-i)*2)) (off+i*2) cv voff (m*2)):=by
 have u0:=run_underlying Tryz.underlying0;have u3:=run_underlying Tryz.underlying3;have u4:=run_underlying Tryz.underlying4;have uS:=run_underlying Tryz.underlying32
 have zE:=Tryz.sizeOf121
 have hz1:¬((m:Int)=0):=by omega
 have hz2:¬((i:Int)=(n:Int)):=by omega
 have hz3:¬((c:Int)<(n:Int)+(m:Int)):=by omega
 have hw1:IntKind.i64.wrap ((i:Int)+(m:Int))=(i:Int)+(m:Int):=IntWalk.i64_in _ (by omega)
 have hw2:IntKind.i64.wrap ((n:Int)+(m:Int))=(n:Int)+(m:Int):=IntWalk.i64_in _ (by omega)
 have b1:(0:Int)≤(i:Int)+(m:Int):=by omega
 have hin:i≤n:=by omega
 have htn:((i:Int)+(m:Int)).toNat=i+m:=by omega
 have b2:¬(c=i+m):=by omega
 have b3:(i:Int)≤(n:Int)+(m:Int):=by omega
 have b4:¬(c=i):=by omega
 have hN1:(i+m)*2+(n-i)*2=(n+m)*2:=by rw [←Nat.add_mul];congr 1;omega
 have hN2:i*2+(n-i)*2=n*2:=by rw [←Nat.add_mul];congr 1;omega
 have hN3:(n+m)*2≤c*2:=Nat.mul_le_mul_right _ hroom
 have hN4:n*2≤c*2:=Nat.mul_le_mul_right _ (by omega)
 have hN5:i*2+m*2=(i+m)*2:=(Nat.add_mul _ _ _).symm
 have hN6:(i+m)*2≤c*2:=Nat.mul_le_mul_right _ (by omega)
 have hN7:m*2≤vc*2:=Nat.mul_le_mul_right _ hmv
 have hsz0:cb.size≠0:=by
  have:1*2≤c*2:=Nat.mul_le_mul_right _ (by omega)
  omega
 have hov:∀lb cb2,(callFunc 215 #[.slice (some ⟨vb,voff,none⟩) m vc,.slice (some ⟨b,off+(i+m)*2,none⟩) lb cb2]).run Tryz.prog w=.ok (.value (.bool false)) w:=fun lb cb2=>Q9T w hwb hwv hne hsz0
 have hcp1:∀ty dc sc,(Builtin.copy_ #[32,32] ty #[.slice (some ⟨b,off+(i+m)*2,none⟩) (n+m-(i+m)) dc,.slice (some ⟨b,off+i*2,none⟩) (n+m-i) sc]).run Tryz.prog w.drew=.ok (goInt (n-i:Nat)) (w.drew.setRow b (spl cb (off+(i+m)*2) cb (off+i*2) ((n-i)*2))):=fun ty dc sc=>
  Ym (K:=2) Tryz.underlying32 zE w.drew (k:=n-i) hwb hwb (by simp only [Nat.min_def];split <;> omega) (by omega) (by omega) (fun q hq=>by rw [Nat.add_assoc];exact ho1 _ (by omega)) ty
 have hW1:(w.drew.setRow b (spl cb (off+(i+m)*2) cb (off+i*2) ((n-i)*2))).heap[b]?=some (.cells (spl cb (off+(i+m)*2) cb (off+i*2) ((n-i)*2)) Tb (0,0)):=setRow_heap w.drew b cb _ Tb (0,0) hwb
 have hW2:(w.drew.setRow b (spl cb (off+(i+m)*2) cb (off+i*2) ((n-i)*2))).heap[vb]?=some (.cells cv Tv (0,0)):=by rw [setRow_other w.drew b vb _ hne];exact hwv
 generalize hc1:spl cb (off+(i+m)*2) cb (off+i*2) ((n-i)*2)=c1 at *
 have hc1s:c1.size=cb.size:=by rw [←hc1];exact Z9 (by omega) (by omega)
 have hcp2:∀ty dc,(Builtin.copy_ #[32,32] ty #[.slice (some ⟨b,off+i*2,none⟩) (n+m-i) dc,.slice (some ⟨vb,voff,none⟩) m vc]).run Tryz.prog (w.drew.setRow b c1)=.ok (goInt m) ((w.drew.setRow b c1).setRow b (spl c1 (off+i*2) cv voff (m*2))):=fun ty dc=>
  Ym (K:=2) Tryz.underlying32 zE (w.drew.setRow b c1) (k:=m) hW1 hW2 (by simp only [Nat.min_def];split <;> omega) (by omega) (by omega) ho2 ty
 clear hc1 hN1 hN2 hN3 hN4 hN5 hN6 hN7 ho1 ho2 hW1 hW2
 go_enter Tryz.func208,Tryz.ntmps208
 go_wp2_with (simp only [hov])
 go_region_law (refine Q4r rfl _ _ 32 32 rfl _ _ (by simp [Act.eval,Act.put]) (by simp [Act.eval,Act.put]) (hcp1 _ _ _) ?_)
 go_wp2_with (at_builtin;refine Q4Z _ rfl _ _ 32 32 rfl _ _ rfl rfl (hcp2 _ _) ?_)
 go_ret
 exact⟨rfl,rfl⟩
set_option maxHeartbeats 4000000 in
theorem Q96 (w:World) (b off n c i vb voff m vc:Nat) (cb cv:Array Value) (Tb Tv:TypeId) (hwb:w.heap[b]?=some (.cells cb Tb (0,0))) (hwv:w.heap[vb]?=some (.cells cv Tv (0,0))) (hi:i<n) (hnc:n≤c) (g:0<m) (hmv:m≤vc) (hcb:off+c*2≤cb.size) (hcv:voff+vc*2≤cv.size)
  (ho1:∀q,q<n*2→(cb.getD (off+q) undef).oneCell'=true) (ho2:∀q,q<m*2→(cv.getD (voff+q) undef).oneCell'=true) (hroom:c<n+m) (hnm:n+m≤1099511627776):
  ∃(G:Nat) (row:Array Value),n+m≤G∧row.size=G*2∧(∀q,q<i*2→row.getD q undef=cb.getD (off+q) undef) ∧
  Calls Tryz.prog 208 #[.slice (some ⟨b,off,none⟩) n c,.int .i64 i,.slice (some ⟨vb,voff,none⟩) m vc] w fun e w'=>e=.returned (.slice (some ⟨w.heap.size,0,none⟩) (n+m) G) ∧
   w'.heap=(((w.alloc (.cells row 121)).setRow w.heap.size (spl row (i*2) cv voff (m*2))).setRow w.heap.size (spl (spl row (i*2) cv voff (m*2)) ((i+m)*2) cb (off+i*2) ((n-i)*2))).heap∧w'.os=w.os∧w'.tape=w.tape∧w'.output=w.output∧w.drawn≤w'.drawn:=by
 have u0:=run_underlying Tryz.underlying0;have u3:=run_underlying Tryz.underlying3;have u4:=run_underlying Tryz.underlying4;have uS:=run_underlying Tryz.underlying32
 have zE:=Tryz.sizeOf121
 obtain⟨_,inf,z,hinf,hsz,hby,hz0,hzc,_,hzl,_⟩:=Q5l
 have hzs:z.cells.size=2:=by rw [←Array.length_toList,hzc];exact hzl
 have hby2:inf.bytes≤128:=by rw [hby];decide
 have hsz2:inf.size=2:=hsz
 have hkk:(n:Int)+(m:Int)-(i:Int)=((n+m-i:Nat):Int):=by omega
 have hik:i+(n+m-i)=n+m:=by omega
 have hN3:(n+m-i)*2=(n+m)*2-i*2:=Nat.sub_mul _ _ _
 have hN4:n*2≤c*2:=Nat.mul_le_mul_right _ hnc
 have hN2:i*2+(n-i)*2=n*2:=by rw [←Nat.add_mul];congr 1;omega
 have hN1:(i+m)*2+(n-i)*2=(n+m)*2:=by rw [←Nat.add_mul];congr 1;omega
 have hN5:i*2+m*2=(i+m)*2:=(Nat.add_mul _ _ _).symm
 have hN7:m*2≤vc*2:=Nat.mul_le_mul_right _ hmv
 have hN8:(n+m)*inf.bytes≤1099511627776*128:=Nat.mul_le_mul hnm hby2
 have hN9:(n+m-i)*inf.bytes≤(n+m)*inf.bytes:=Nat.mul_le_mul_right _ (by omega)
 have hol:((cb.toList.drop off).take (i*2)).length=i*inf.size:=by rw [hsz2];simp;omega
 have hold:(Builtin.firstCells inf.size i (.slice (some ⟨b,off,none⟩) i c)).run Tryz.prog w.drew=.ok ((cb.toList.drop off).take (i*2)).toArray w.drew:=
  run_firstCells_some w.drew inf.size i ⟨b,off,none⟩ i c _ hol (Q4Y (w:=w.drew) hwb (by omega))
 obtain⟨G,hG⟩:∃G,G=grownCap w (n+m) c 121:=⟨_,rfl⟩
 have hGn:n+m≤G:=by rw [hG];exact grownCap_ge w _ _ _
 obtain⟨row,hrow⟩:∃row:Array Value,row=((cb.toList.drop off).take (i*2)).toArray++Builtin.zeroCells z.cells (n+m-i)++Builtin.zeroCells z.cells (G-(n+m)):=⟨_,rfl⟩
 have hrz:∀ty,(Builtin.append_ #[32,3] ty #[.slice (some ⟨b,off,none⟩) i c,.int .i64 ((n:Int)+(m:Int)-(i:Int))]).run Tryz.prog w=.ok (.slice (some ⟨w.heap.size,0,none⟩) (n+m) G) (w.drew.alloc (.cells row 121)):=fun ty=>by
  have h:=Lib.run_append_grow_zeros w 32 3 ty 121 inf z .i64 .i64 Tryz.underlying32 Tryz.underlying3 hinf hz0 (some ⟨b,off,none⟩) i c _ hold (n+m-i) (by omega) (by rw [hsz2];decide) (by omega) (by omega) (by omega) (by rw [hik];exact growslice_fits hroom (by omega))
  rw [hik] at h
  rw [hkk,hrow,hG]
  exact h
 have hrs:row.size=G*2:=by
  have:(G-(n+m))*2=G*2-(n+m)*2:=Nat.sub_mul _ _ _
  have:(n+m)*2≤G*2:=Nat.mul_le_mul_right _ hGn
  have hl2:((cb.toList.drop off).take (i*2)).length=i*2:=by rw [hol,hsz2]
  rw [hrow];simp only [Array.size_append,size_zeroCells,hzs,List.size_toArray];omega
 refine⟨G,row,hGn,hrs,fun q hq=>?_,?_⟩
 ·have h1:q<((cb.toList.drop off).take (i*2)).toArray.size:=by simp only [List.size_toArray];rw [hol,hsz2];exact hq
  rw [hrow,Array.getD_eq_getD_getElem?,Array.append_assoc,Array.getElem?_append_left h1,List.getElem?_toArray,List.getElem?_take,if_pos hq,List.getElem?_drop,Array.getD_eq_getD_getElem?];simp
 have hw1:IntKind.i64.wrap ((i:Int)+(m:Int))=(i:Int)+(m:Int):=IntWalk.i64_in _ (by omega)
 have hw2:IntKind.i64.wrap ((n:Int)+(m:Int))=(n:Int)+(m:Int):=IntWalk.i64_in _ (by omega)
 have hw3:IntKind.i64.wrap ((n:Int)+(m:Int)-(i:Int))=(n:Int)+(m:Int)-(i:Int):=IntWalk.i64_in _ (by omega)
 have hGK:(n+m)*2≤G*2:=Nat.mul_le_mul_right _ hGn
 have hbw:b<w.heap.size:=Wf hwb
 have hvw:vb<w.heap.size:=Wf hwv
 have hA0:(w.alloc (.cells row 121)).heap[w.heap.size]?=some (.cells row 121 (0,0)):=heap_alloc_new w _
 have hAb:(w.alloc (.cells row 121)).heap[b]?=some (.cells cb Tb (0,0)):=(RowKit.Below.heap_alloc w _ b hbw).trans hwb
 have hAv:(w.alloc (.cells row 121)).heap[vb]?=some (.cells cv Tv (0,0)):=(RowKit.Below.heap_alloc w _ vb hvw).trans hwv
 have hcpA:∀(W:World),W.heap=(w.alloc (.cells row 121)).heap→∀ty dc,(Builtin.copy_ #[32,32] ty #[.slice (some ⟨w.heap.size,i*2,none⟩) (n+m-i) dc,.slice (some ⟨vb,voff,none⟩) m vc]).run Tryz.prog W=.ok (goInt m) (W.setRow w.heap.size (spl row (i*2) cv voff (m*2))):=fun W hW ty dc=>by
  exact Ym (K:=2) Tryz.underlying32 zE W (k:=m) (by rw [hW];exact hA0) (by rw [hW];exact hAv) (by simp only [Nat.min_def];split <;> omega) (by omega) (by omega) ho2 ty
 have hr1:(spl row (i*2) cv voff (m*2)).size=row.size:=Z9 (by omega) (by omega)
 have hcpB:∀(W:World),W.heap=((w.alloc (.cells row 121)).setRow w.heap.size (spl row (i*2) cv voff (m*2))).heap→∀ty dc sc,(Builtin.copy_ #[32,32] ty #[.slice (some ⟨w.heap.size,(i+m)*2,none⟩) (n+m-(i+m)) dc,.slice (some ⟨b,off+i*2,none⟩) (n-i) sc]).run Tryz.prog W=.ok (goInt (n-i:Nat)) (W.setRow w.heap.size (spl (spl row (i*2) cv voff (m*2)) ((i+m)*2) cb (off+i*2) ((n-i)*2))):=fun W hW ty dc sc=>by
  exact Ym (K:=2) Tryz.underlying32 zE W (k:=n-i) (by rw [hW];exact setRow_heap _ _ _ _ _ _ hA0) (by rw [hW,setRow_other _ _ _ _ (by omega:b≠w.heap.size)];exact hAb) (by simp only [Nat.min_def];split <;> omega) (by omega) (by omega) (fun q hq=>by rw [Nat.add_assoc];exact ho1 _ (by omega)) ty
 have hz1:¬((m:Int)=0):=by omega
 have hz2:¬((i:Int)=(n:Int)):=by omega
 have hz3:(c:Int)<(n:Int)+(m:Int):=by omega
 have hGi:¬(G=i):=by omega
 have hGim:¬(G=i+m):=by omega
 have hci:¬(c=i):=by omega
 have b1:(0:Int)≤(i:Int)+(m:Int):=by omega
 have hin:i≤n:=by omega
 have htn:((i:Int)+(m:Int)).toNat=i+m:=by omega
 have b3:(i:Int)≤(n:Int):=by omega
 have hic:i≤c:=by omega
 have b5:(i:Int)≤(n:Int)+(m:Int):=by omega
 clear hold hol hrow hG hN1 hN2 hN3 hN4 hN5 hN7 hN8 hN9 ho1 ho2 hkk hik hr1 hGK
 go_enter Tryz.func208,Tryz.ntmps208
 go_wp2_with (first
  | (at_builtin;refine Lib.wpList_append_run _ rfl _ _ _ _ rfl _ _ rfl rfl _ _ (hrz _) ?_))
 rw [hcpA (w.alloc (.cells row 121)).drew rfl 3 (G-i)]
 go_wp2
 go_region_law (refine Q4r rfl _ _ 32 32 rfl (.slice (some ⟨w.heap.size,(i+m)*2,none⟩) (n+m-(i+m)) (G-(i+m))) (.slice (some ⟨b,off+i*2,none⟩) (n-i) (c-i)) (by simp [Act.eval,Act.put]) (by simp [Act.eval,Act.put]) (hcpB ((w.alloc (.cells row 121)).drew.setRow w.heap.size (spl row (i*2) cv voff (m*2))).drew rfl 3 (G-(i+m)) (c-i)) ?_)
 go_wp2
 go_ret
 exact⟨rfl,rfl,rfl,rfl,rfl,Nat.le_trans (Nat.le_succ _) (Nat.le_succ _)⟩
theorem Q9u:Q5C Tryz.prog 208 2:=Q5q (E:=121) Q8H Q96
theorem Xu (i:Int) (xs:List ApiStuck) (ys:List ApiStuck) (post:List ApiStuck→Prop) (g:QI i xs ys post):
  Tr Tryz.prog 208 [.o 0,.i i,.o 1] [(0,.val (.os 2 Q5 xs)),(1,.val (.os 2 Q5 ys))] 2 (fun A H' k=>∃y,post y∧A=(.o 2)∧H'=[(2,.val (.os 2 Q5 y))]∧k=3):=by
 unfold QI at g
 obtain⟨⟨h0,h1⟩,h2,h3,hp⟩:=g
 obtain⟨n,rfl⟩:=Int.eq_ofNat_of_zero_le h0
 exact Tr.insert Q9u (enc:=Q5) (fun _=>rfl) xs ys n (by omega) h2 h3 hp
theorem Q0D (c:Int) (n:Int) (l:List ApiStuck) (post:(List ApiStuck)→Prop) (g:Xg c n l post):
  Tr Tryz.prog 188 [.o 0,.i c,.i n] [(0,.val (.os 2 Q5 l))] 1 (fun A H' k=>∃y,post y∧A=(.o 1)∧H'=[(1,.val (.os 2 Q5 y))]∧k=2):=by
 refine Tr.go Tryz.func188 Tryz.ntmps188 fun _ _ _ _ o=>?_
 unfold Xg at g
 refine C.ss (U.bx ?_)
 refine U.pd 1 T (C.xt ?_)
 refine U.ps 2 T rfl (U.k (Ku l c _ g) Q7y (fun x5 g=>?_))
 refine U.pd 1 T (C.xs (C.block (C.ss ?_)))
 refine U.pd 3 T (C.nx ?_)
 refine C.ite rfl g (fun b8 g=>?_) fun b8 g=>?_
 refine C.ss (U.ps 4 T rfl (U.bs T Q5 ([({Cell:=c,Left:=n:ApiStuck})]:List ApiStuck) ?_))
 obtain⟨y11,g⟩:=g
 refine U.ap T y11 ?_
 refine U.pd 1 T (C.nx (C.ret (C.brt (C.rt ?_))))
 exact C.g1 [some 0,some 3] T o ⟨(l++([({Cell:=c,Left:=n:ApiStuck})]:List ApiStuck)),g,rfl,rfl,rfl⟩
 refine C.seq (D.bq mix 9999 [0,1] [] (fun hQ hS ws M'=>?_))
 refine D.pq 2 (zl [0,1]) T ?_
 obtain⟨x14,y14,g⟩:=g
 refine D.q 2 [] hQ hS rfl (.none rfl) rfl rfl (by exact Rd.io T rfl rfl rfl rfl rfl rfl rfl y14) rfl (by kernel_rfl) ?_
 refine D.pq 1 [(3,[])] T ?_
 refine D.q 4 [] hQ hS rfl (.none rfl) rfl rfl (by exact Rd.le T rfl rfl rfl (Q6 y14).2.2 rfl rfl rfl) rfl (by kernel_rfl) ?_
 refine D.pq 3 (zl [5,6,7]) T ?_
 refine D.done (by kernel_rfl) ?_
 refine C.nx ?_
 refine C.ite rfl g (fun b15 g=>?_) fun b15 g=>?_
 refine C.ss (U.ps 4 T rfl (U.r rfl (.none rfl) rfl rfl (by exact Rd.io T rfl rfl rfl rfl rfl rfl rfl y14) ?_))
 refine U.ps 1 T rfl (U.r rfl (.none rfl) rfl rfl (by exact Rd.le T rfl rfl rfl (Q6 y14).2.2 rfl rfl rfl) ?_)
 refine U.ps 2 T rfl (U.r rfl (.none rfl) rfl rfl (by exact Rd.io T rfl rfl rfl rfl rfl rfl rfl y14) ?_)
 refine U.ps 1 T rfl (U.e1 rfl (.none rfl) (by exact Eff1.se T (z':=({Cell:=x14.Cell,Left:=imax x14.Left n:ApiStuck})) rfl rfl rfl (Q6 y14).2.2 rfl rfl rfl rfl rfl rfl rfl rfl (fun _=>rfl) rfl) ?_)
 refine U.done (C.xt (U.pd 2 T (C.nx (C.ret (C.brt (C.rt ?_))))))
 exact C.g1 [some 0,some 0] T o ⟨(l.set (Int.toNat x5) ({Cell:=x14.Cell,Left:=imax x14.Left n:ApiStuck})),g,rfl,rfl,rfl⟩
 refine C.skip (C.bnx (C.xt (U.ps 5 T rfl (U.bs T Q5 ([({Cell:=c,Left:=n:ApiStuck})]:List ApiStuck) ?_))))
 refine U.c [some 0,some 2] (Xu x5 l ([({Cell:=c,Left:=n:ApiStuck})]:List ApiStuck) _ g) Qa5 fun x22 g=>?_
 refine U.pd 1 T (C.nx (C.ret ?_))
 exact C.g1 [some 0,some 5] T o ⟨x22,g,rfl,rfl,rfl⟩
theorem Q1I (s_1:ApiSite) (st:ApiState) (f:QM) (post:ApiState→Prop) (g:XY s_1 st f post):
  Tr Tryz.prog 132 [.agg (Q0 s_1),.agg (Q3 st),.agg (Z4 f)] [] 0 (fun A H' k=>∃y,post y∧A=(.agg [.i y.Tick,.o 0,.o 1,.o 2,.o 3,.o 4])∧H'=[(0,.val (.os 1 eI y.Shelves)),(1,.val (.os 6 Q2 y.Robots)),(2,.val (.os 1 eI y.People)),(3,.val (.os 1 eI y.Dead)),(4,.val (.os 2 Q5 y.Stuck))]∧k=5):=by
 refine Tr.go Tryz.func132 Tryz.ntmps132 fun _ _ _ _ o=>?_
 unfold XY at g
 refine C.ss (U.bx ?_)
 refine U.bx ?_
 refine U.bx ?_
 refine U.al T ?_
 refine U.done (C.xt (U.ps 1 T rfl (U.k (YD st _ g) en51 (fun x5 g=>?_))))
 refine U.al T ?_
 refine U.st T ?_
 refine U.done (C.xs (C.ss (U.ps 3 T rfl (U.k (Ys s_1 st f _ g) Q8z (fun x8 g=>?_)))))
 refine U.pd 1 T (C.nx ?_)
 refine C.ite rfl g (fun b9 g=>?_) fun b9 g=>?_
 refine C.ss (U.ps 1 T rfl (U.st T ?_))
 refine U.done (C.nx (C.ret (C.rt ?_)))
 exact C.g1 (sqR 4 5) T o ⟨x5,g,rfl,rfl,rfl⟩
 refine C.skip (C.xs (C.ss (U.pd 2 T (C.nx (C.block (C.ss ?_))))))
 refine U.pd 2 T (C.nx ?_)
 refine C.jn (fun (x16:List ApiRobot×List Int×List Int×List ApiStuck)=>[(6,.p 0 0),(7,.p 1 0)]) (fun x16=>[(0,.box [.i 0,vN,vN,vN,vN,vN]),(1,.box [.i x5.Tick,.o 2,.o 3,.o 4,.o 5,.o 6]),(2,.val (.os 1 eI x5.Shelves)),(3,.val (.os 6 Q2 x16.1)),(4,.val (.os 1 eI x16.2.1)),(5,.val (.os 1 eI x16.2.2.1)),(6,.val (.os 2 Q5 x16.2.2.2))]) 7 g (fun x16 g=>?_) fun J17 g j17=>?_
 refine C.bnx (C.xt (U.ps 1 T rfl (U.st T ?_)))
 refine U.done (C.nx (C.ret ?_))
 exact C.g1 (sqR 2 5) T o ⟨({Tick:=x5.Tick,Shelves:=x5.Shelves,Robots:=x16.1,People:=x16.2.1,Dead:=x16.2.2.1,Stuck:=x16.2.2.2:ApiState}),g,rfl,rfl,rfl⟩
 refine C.ite rfl g (fun b18 g=>?_) fun b18 g=>?_
 refine U.start (U.ps 4 T rfl ?_)
 obtain⟨x21,y21,g⟩:=g
 refine U.r rfl (.none rfl) rfl rfl (by exact Rd.io T rfl rfl rfl rfl rfl rfl rfl y21) ?_
 refine U.ps 1 T rfl (U.e1 rfl (.none rfl) (by exact Eff1.se T (z':=({Cell:=x21.Cell,Load:=x21.Load,Charge:=x21.Charge,Rest:=x21.Rest,Mute:=x21.Mute,Dead:=true:ApiRobot})) rfl rfl rfl (Q6 y21).2.2 rfl rfl rfl rfl rfl rfl rfl rfl (fun _=>rfl) rfl) ?_)
 refine U.done ?_
 exact St.wa [some 3,some 9,some 4,some 5,some 6,some 7,some 8] (j17 _ g)
 refine C.ss (U.pd 2 T (C.nx ?_))
 refine C.jn (fun (x24:List ApiRobot×List Int×List Int×List ApiStuck)=>[(6,.p 0 0),(7,.p 1 0)]) (fun x24=>[(0,.box [.i 0,vN,vN,vN,vN,vN]),(1,.box [.i x5.Tick,.o 2,.o 3,.o 4,.o 5,.o 6]),(2,.val (.os 1 eI x5.Shelves)),(3,.val (.os 6 Q2 x24.1)),(4,.val (.os 1 eI x24.2.1)),(5,.val (.os 1 eI x24.2.2.1)),(6,.val (.os 2 Q5 x24.2.2.2))]) 7 g (fun x24 g=>?_) fun J25 g j25=>?_
 exact St.wa (idR 7) (j17 _ g)
 refine C.ite rfl g (fun b26 g=>?_) fun b26 g=>?_
 refine C.ss (U.ps 4 T rfl (U.bs T eI ([f.A]:List Int) ?_))
 obtain⟨y29,g⟩:=g
 refine U.ap T y29 ?_
 refine U.ps 1 T rfl (U.st T ?_)
 refine U.done (C.nx (U.start (U.ps 2 T rfl (U.c [some 11] (K5 (x5.Dead++([f.A]:List Int)) _ g) en67 (fun x32 g=>?_)))))
 refine U.done ?_
 exact St.wa [some 3,some 9,some 4,some 5,some 6,some 11,some 8] (j25 _ g)
 refine C.ss (U.pd 2 T (C.nx ?_))
 refine C.jn (fun (x35:List ApiRobot×List Int×List ApiStuck)=>[(6,.p 0 0),(7,.p 1 0)]) (fun x35=>[(0,.box [.i 0,vN,vN,vN,vN,vN]),(1,.box [.i x5.Tick,.o 2,.o 3,.o 4,.o 5,.o 6]),(2,.val (.os 1 eI x5.Shelves)),(3,.val (.os 6 Q2 x35.1)),(4,.val (.os 1 eI x35.2.1)),(5,.val (.os 1 eI x5.Dead)),(6,.val (.os 2 Q5 x35.2.2))]) 7 g (fun x35 g=>?_) fun J36 g j36=>?_
 exact St.wa (idR 7) (j25 _ g)
 refine C.ite rfl g (fun b37 g=>?_) fun b37 g=>?_
 refine U.start (U.ps 6 T rfl ?_)
 obtain⟨x40,y40,g⟩:=g
 refine U.r rfl (.none rfl) rfl rfl (by exact Rd.io T rfl rfl rfl rfl rfl rfl rfl y40) ?_
 refine U.ps 1 T rfl (U.e1 rfl (.none rfl) (by exact Eff1.se T (z':=({Cell:=x40.Cell,Load:=x40.Load,Charge:=x40.Charge,Rest:=x40.Rest,Mute:=f.N,Dead:=x40.Dead:ApiRobot})) rfl rfl rfl (Q6 y40).2.2 rfl rfl rfl rfl rfl rfl rfl rfl (fun _=>rfl) rfl) ?_)
 refine U.done ?_
 exact St.wa [some 3,some 9,some 4,some 5,some 6,some 7,some 8] (j36 _ g)
 refine C.ss (U.pd 2 T (C.nx ?_))
 refine C.jn (fun (x43:List Int×List ApiStuck)=>[(6,.p 0 0),(7,.p 1 0)]) (fun x43=>[(0,.box [.i 0,vN,vN,vN,vN,vN]),(1,.box [.i x5.Tick,.o 2,.o 3,.o 4,.o 5,.o 6]),(2,.val (.os 1 eI x5.Shelves)),(3,.val (.os 6 Q2 x5.Robots)),(4,.val (.os 1 eI x43.1)),(5,.val (.os 1 eI x5.Dead)),(6,.val (.os 2 Q5 x43.2))]) 7 g (fun x43 g=>?_) fun J44 g j44=>?_
 exact St.wa (idR 7) (j36 _ g)
 refine C.ite rfl g (fun b45 g=>?_) fun b45 g=>?_
 refine U.start (U.ps 6 T rfl (U.c [some 8] (Q0D f.A f.N x5.Stuck _ g) Qaf (fun x48 g=>?_)))
 refine U.ps 1 T rfl (U.st T ?_)
 refine U.done ?_
 exact St.wa [some 3,some 9,some 4,some 5,some 6,some 7,some 11] (j44 _ g)
 refine C.ss (U.pd 2 T (C.nx ?_))
 refine C.jn (fun (x51:List Int)=>[(6,.p 0 0),(7,.p 1 0)]) (fun x51=>[(0,.box [.i 0,vN,vN,vN,vN,vN]),(1,.box [.i x5.Tick,.o 2,.o 3,.o 4,.o 5,.o 6]),(2,.val (.os 1 eI x5.Shelves)),(3,.val (.os 6 Q2 x5.Robots)),(4,.val (.os 1 eI x51)),(5,.val (.os 1 eI x5.Dead)),(6,.val (.os 2 Q5 x5.Stuck))]) 7 g (fun x51 g=>?_) fun J52 g j52=>?_
 exact St.wa (idR 7) (j44 _ g)
 refine C.ite rfl g (fun b53 g=>?_) fun b53 g=>?_
 refine C.seq (C.ss (U.pd 6 T (C.nx ?_)))
 refine C.jn (fun (x56:List Int)=>[(5,.p 0 0),(6,.p 1 0),(7,.p 2 0)]) (fun x56=>[(0,.box (Z4 f)),(1,.box [.i 0,vN,vN,vN,vN,vN]),(2,.box [.i x5.Tick,.o 3,.o 4,.o 5,.o 6,.o 7]),(3,.val (.os 1 eI x5.Shelves)),(4,.val (.os 6 Q2 x5.Robots)),(5,.val (.os 1 eI x56)),(6,.val (.os 1 eI x5.Dead)),(7,.val (.os 2 Q5 x5.Stuck))]) 8 g (fun x56 g=>?_) fun J57 g j57=>?_
 refine C.nx (U.start (U.ps 6 T rfl ?_))
 obtain⟨x64,y64,g⟩:=g
 refine U.r rfl (.none rfl) rfl rfl (by exact Rd.io T rfl rfl rfl rfl rfl rfl rfl y64) ?_
 refine U.e1 rfl (.none rfl) (by exact Eff1.se T (z':=f.N) rfl rfl rfl (Q6 y64).2.2 rfl rfl rfl rfl rfl rfl rfl rfl (fun _=>rfl) rfl) ?_
 refine U.done ?_
 exact St.wa (sqR 1 7) (j52 _ g)
 refine C.ite rfl g (fun b58 g=>?_) fun b58 g=>?_
 refine U.start (U.ps 4 T rfl (U.bs T eI ([f.N]:List Int) ?_))
 obtain⟨y61,g⟩:=g
 refine U.ap T y61 ?_
 refine U.ps 1 T rfl (U.st T ?_)
 refine U.done ?_
 exact St.wa [some 2,some 3,some 9,some 4,some 5,some 11,some 7,some 8] (j57 _ g)
 refine C.skip ?_
 exact St.wa [some 2,some 3,some 9,some 4,some 5,some 6,some 7,some 8] (j57 _ g)
 refine C.skip ?_
 exact St.wa [some 3,some 9,some 4,some 5,some 6,some 7,some 8] (j52 _ g)
theorem Zt (x_1:ApiStuck) (post:Bool→Prop) (g:Ky x_1 post):
  Tr Tryz.prog 190 [.agg [.i x_1.Cell,.i x_1.Left]] [] 0 (pB post):=by
 refine Tr.go Tryz.func190 Tryz.ntmps190 fun _ _ _ _ o=>?_
 unfold Ky at g
 refine C.ss (U.bx ?_)
 refine U.pd 1 T (C.xt ?_)
 refine U.pd 4 T (C.nx (C.ret ?_))
 exact C.f1 T o (pBi g)
theorem KB (s_1:List ApiStuck) (post:Int→Prop) (g:Qv s_1 post):
  Tr Tryz.prog 148 [.sl 2 Q5 s_1,.fn (.func 190) [] []] [] 0 (pI post):=by
 refine Tr.go Tryz.func148 Tryz.ntmps148 fun _ _ _ _ o=>?_
 unfold Qv at g
 refine C.ss (U.pd 1 T (C.xs (C.ss ?_)))
 refine U.pd 3 T (C.nx ?_)
 refine C.jn (fun (x5:Unit)=>[]) (fun x5=>[]) 0 g (fun x5 g=>?_) fun J6 g j6=>?_
 refine C.xt (U.pd 1 T (C.nx (C.ret ?_)))
 exact C.f1 T o (pIi g)
 refine C.block (St.wk (C.loop (fun (s7:Int)=>[(0,.sl 2 Q5 s_1),(1,.fn (.func 190) [] []),(7,.i (s_1.length:Int)),(8,.i s7)]) (fun s7=>[]) g (fun s7 Y8 g=>?_)) (Wk.e))
 refine C.ss (U.pd 1 T (C.xs ?_))
 refine C.ite rfl g (fun b11 g=>?_) fun b11 g=>?_
 refine C.skip (C.xs (C.block (C.ss (U.pd 2 T (C.xt ?_)))))
 refine U.ps 3 T rfl ?_
 obtain⟨x16,y16,g⟩:=g
 refine U.ix T y16 ?_
 refine U.ps 1 T rfl (U.k (Zt x16 _ g) Q8P (fun x17 g=>?_))
 refine U.done (C.nx ?_)
 refine C.ite rfl g (fun b18 g=>?_) fun b18 g=>?_
 refine C.ss (U.pd 2 T (C.nx (C.ret (C.brt (C.rt (C.rt (C.brt (C.rt ?_))))))))
 exact C.f1 T o (pIi g)
 refine C.skip (C.bnx (C.nx (U.start (U.pd 2 T (C.nx ?_)))))
 exact St.wk (C.next g) (Wk.e)
 refine C.exit (C.ex (C.ex (C.bex ?_)))
 exact St.wk (j6 _ g) (Wk.mk' [] rfl rfl trivial trivial rfl)
theorem Ki (s_1:List ApiStuck) (post:(List ApiStuck)→Prop) (g:Qn s_1 post):
  Tr Tryz.prog 189 [.o 0,.fn (.func 190) [] []] [(0,.val (.os 2 Q5 s_1))] 1 (fun A H' k=>∃y,post y∧A=(.o 1)∧H'=[(1,.val (.os 2 Q5 y))]∧k=2):=by
 refine Tr.go Tryz.func189 Tryz.ntmps189 fun _ _ _ _ o=>?_
 unfold Qn at g
 refine C.ss (U.pd 1 T (C.xt ?_))
 refine U.ps 2 T rfl (U.k (KB s_1 _ g) Q7y (fun x5 g=>?_))
 refine U.pd 1 T (C.xs (C.ss ?_))
 refine U.pd 2 T (C.nx ?_)
 refine C.ite rfl g (fun b8 g=>?_) fun b8 g=>?_
 refine C.ss (U.pd 2 T (C.nx (C.ret (C.rt ?_))))
 exact C.g1 [some 0,some 0] T o ⟨s_1,g,rfl,rfl,rfl⟩
 refine C.skip (C.xs (C.ss (U.pd 3 T (C.nx ?_))))
 refine C.jn (fun (x13:List ApiStuck×Int)=>[(0,.o 0),(5,.i x13.2)]) (fun x13=>[(0,.val (.os 2 Q5 x13.1))]) 1 g (fun x13 g=>?_) fun J14 g j14=>?_
 refine C.xt (U.ps 2 T rfl ?_)
 obtain⟨y38,g⟩:=g
 refine U.r rfl (.none rfl) rfl rfl (by exact Rd.vw T rfl rfl rfl rfl rfl rfl (.some _ rfl) (.none _) y38) ?_
 obtain⟨y39,g⟩:=g
 refine U.e1 rfl (.none rfl) (by exact Eff1.clv T (z0:=({Cell:=0,Left:=0:ApiStuck})) rfl rfl rfl rfl rfl rfl rfl (fun _=>rfl) rfl y39) ?_
 refine U.done (C.xt (U.ps 2 T rfl ?_))
 obtain⟨y42,g⟩:=g
 refine U.e1 rfl (.none rfl) (by exact Eff1.sw T rfl rfl rfl rfl rfl rfl rfl rfl (.none _) (.some _ rfl) y42) ?_
 refine U.pd 1 T (C.nx (C.ret ?_))
 exact C.g1 (idR 2) T o ⟨(sub (x13.1.take (Int.toNat x13.2)++(List.replicate (Int.toNat ((x13.1.length:Int)-x13.2)) ({Cell:=0,Left:=0:ApiStuck})++x13.1.drop ((Int.toNat x13.2)+(Int.toNat ((x13.1.length:Int)-x13.2))))) 0 x13.2),g,rfl,rfl,rfl⟩
 refine C.block (St.wk (C.loop (fun (s15:List ApiStuck×Int×Int)=>[(0,.o 0),(1,.fn (.func 190) [] []),(5,.i s15.2.1),(6,.i s15.2.2)]) (fun s15=>[(0,.val (.os 2 Q5 s15.1))]) g (fun s15 Y16 g=>?_)) (Wk.a [some 0]))
 refine C.seq (C.ss (U.pd 4 T (C.nx ?_)))
 refine C.ite rfl g (fun b19 g=>?_) fun b19 g=>?_
 refine C.skip (C.xs (C.block (C.ss (U.ps 2 T rfl ?_))))
 obtain⟨x22,y22,g⟩:=g
 refine U.r rfl (.none rfl) rfl rfl (by exact Rd.io T rfl rfl rfl rfl rfl rfl rfl y22) ?_
 refine U.r rfl (.none rfl) rfl rfl (by exact Rd.le T rfl rfl rfl (Q6 y22).2.2 rfl rfl rfl) ?_
 refine U.al T ?_
 refine U.st T ?_
 refine U.done (C.xt (U.ps 2 T rfl (U.k (Zt x22 _ g) Q8P (fun x25 g=>?_))))
 refine U.pd 1 T (C.nx ?_)
 refine C.jn (fun (x26:List ApiStuck×Int)=>[(0,.o 0),(1,.fn (.func 190) [] []),(5,.i x26.2),(6,.i s15.2.2)]) (fun x26=>[(0,.val (.os 2 Q5 x26.1))]) 1 g (fun x26 g=>?_) fun J27 g j27=>?_
 refine C.bnx (C.nx (U.start (U.pd 3 T (C.nx ?_))))
 exact St.wk (C.next g) (Wk.a [some 0])
 refine C.ite rfl g (fun b28 g=>?_) fun b28 g=>?_
 refine C.ss (U.ps 3 T rfl ?_)
 obtain⟨x31,y31,g⟩:=g
 refine U.r rfl (.none rfl) rfl rfl (by exact Rd.io T rfl rfl rfl rfl rfl rfl rfl y31) ?_
 refine U.e1 rfl (.none rfl) (by exact Eff1.se T (z':=x22) rfl rfl rfl (Q6 y31).2.2 rfl rfl rfl rfl rfl rfl rfl rfl (fun _=>rfl) rfl) ?_
 refine U.done (C.nx (U.start (U.pd 3 T ?_)))
 exact St.wa [some 0] (j27 _ g)
 refine C.skip ?_
 exact St.wa [some 0] (j27 _ g)
 refine C.exit (C.ex (C.ex (C.bex ?_)))
 exact St.wa [some 0] (j14 _ g)
theorem Q0X (before:ApiState) (st:ApiState) (post:ApiState→Prop) (g:Xr before st post):
  Tr Tryz.prog 133 [.agg (Q3 before),.agg [.i st.Tick,.o 0,.o 1,.o 2,.o 3,.o 4]] [(0,.val (.os 1 eI st.Shelves)),(1,.val (.os 6 Q2 st.Robots)),(2,.val (.os 1 eI st.People)),(3,.val (.os 1 eI st.Dead)),(4,.val (.os 2 Q5 st.Stuck))] 5 (fun A H' k=>∃y,post y∧A=(.agg [.i y.Tick,.o 5,.o 6,.o 7,.o 8,.o 9])∧H'=[(5,.val (.os 1 eI y.Shelves)),(6,.val (.os 6 Q2 y.Robots)),(7,.val (.os 1 eI y.People)),(8,.val (.os 1 eI y.Dead)),(9,.val (.os 2 Q5 y.Stuck))]∧k=10):=by
 refine Tr.go Tryz.func133 Tryz.ntmps133 fun _ _ _ _ o=>?_
 unfold Xr at g
 refine C.ss (U.bx ?_)
 refine U.bx ?_
 refine U.al T ?_
 refine U.done (C.nx (C.scope (C.ss ?_)))
 refine U.ps 4 T rfl (U.st T ?_)
 refine U.done (C.xs (C.label (C.xs (C.ss ?_))))
 refine U.pd 4 T (C.nx ?_)
 refine C.jn (fun (x7:List ApiRobot)=>[(3,.p 5 0),(4,.p 6 0)]) (fun x7=>[(0,.val (.os 1 eI st.Shelves)),(1,.val (.os 6 Q2 x7)),(2,.val (.os 1 eI st.People)),(3,.val (.os 1 eI st.Dead)),(4,.val (.os 2 Q5 st.Stuck)),(5,.box [.i (w64 (st.Tick+1)),.o 0,.o 1,.o 2,.o 3,.o 4]),(6,.box [.i 0,vN,vN,vN,vN,vN])]) 7 g (fun x7 g=>?_) fun J8 g j8=>?_
 refine C.xs (C.ss (U.pd 4 T (C.nx ?_)))
 refine C.jn (fun (x33:List ApiStuck)=>[(3,.p 5 0),(4,.p 6 0)]) (fun x33=>[(0,.val (.os 1 eI st.Shelves)),(1,.val (.os 6 Q2 x7)),(2,.val (.os 1 eI st.People)),(3,.val (.os 1 eI st.Dead)),(4,.val (.os 2 Q5 x33)),(5,.box [.i (w64 (st.Tick+1)),.o 0,.o 1,.o 2,.o 3,.o 4]),(6,.box [.i 0,vN,vN,vN,vN,vN])]) 7 g (fun x33 g=>?_) fun J34 g j34=>?_
 refine C.xt (U.ps 2 T rfl (U.c [some 4] (Ki x33 _ g) Qag (fun x49 g=>?_)))
 refine U.ps 1 T rfl (U.st T ?_)
 refine U.done (C.xt (U.ps 1 T rfl (U.st T ?_)))
 refine U.done (C.nx (C.ret (C.srt ?_)))
 exact C.g1 [some 0,some 1,some 2,some 3,some 4,some 0,some 1,some 2,some 3,some 8] T o ⟨({Tick:=w64 (st.Tick+1),Shelves:=st.Shelves,Robots:=x7,People:=st.People,Dead:=st.Dead,Stuck:=x49:ApiState}),g,rfl,rfl,rfl⟩
 refine C.block ?_
 refine St.wk (C.loop (fun (s35:List ApiStuck×Int)=>[(3,.p 5 0),(4,.p 6 0),(54,.i (st.Stuck.length:Int)),(55,.i s35.2)]) (fun s35=>[(0,.val (.os 1 eI st.Shelves)),(1,.val (.os 6 Q2 x7)),(2,.val (.os 1 eI st.People)),(3,.val (.os 1 eI st.Dead)),(4,.val (.os 2 Q5 s35.1)),(5,.box [.i (w64 (st.Tick+1)),.o 0,.o 1,.o 2,.o 3,.o 4]),(6,.box [.i 0,vN,vN,vN,vN,vN])]) g (fun s35 Y36 g=>?_)) (Wk.a (idR 7))
 refine C.ss (U.pd 1 T (C.xs ?_))
 refine C.ite rfl g (fun b39 g=>?_) fun b39 g=>?_
 refine C.skip (C.xs (C.block (C.ss (U.pd 2 T (C.nx (U.start ?_))))))
 refine U.ps 3 T rfl ?_
 obtain⟨x44,y44,g⟩:=g
 refine U.r rfl (.none rfl) rfl rfl (by exact Rd.io T rfl rfl rfl rfl rfl rfl rfl y44) ?_
 refine U.ps 1 T rfl (U.r rfl (.none rfl) rfl rfl (by exact Rd.le T rfl rfl rfl (Q6 y44).2.2 rfl rfl rfl) ?_)
 refine U.ps 1 T rfl (U.r rfl (.none rfl) rfl rfl (by exact Rd.io T rfl rfl rfl rfl rfl rfl rfl y44) ?_)
 refine U.ps 1 T rfl (U.e1 rfl (.none rfl) (by exact Eff1.se T (z':=({Cell:=x44.Cell,Left:=w64 (x44.Left-1):ApiStuck})) rfl rfl rfl (Q6 y44).2.2 rfl rfl rfl rfl rfl rfl rfl rfl (fun _=>rfl) rfl) ?_)
 refine U.done (C.bnx (C.nx (U.start (U.pd 2 T (C.nx ?_)))))
 exact St.wk (C.next g) (Wk.a (idR 7))
 refine C.exit (C.ex (C.ex (C.bex ?_)))
 exact St.wa (idR 7) (j34 _ g)
 refine C.block ?_
 refine St.wk (C.loop (fun (s9:List ApiRobot×Int)=>[(2,.p 5 0),(3,.p 6 0),(4,.p 7 0),(14,.i (st.Robots.length:Int)),(15,.i s9.2)]) (fun s9=>[(0,.val (.os 1 eI st.Shelves)),(1,.val (.os 6 Q2 s9.1)),(2,.val (.os 1 eI st.People)),(3,.val (.os 1 eI st.Dead)),(4,.val (.os 2 Q5 st.Stuck)),(5,.box (Q3 before)),(6,.box [.i (w64 (st.Tick+1)),.o 0,.o 1,.o 2,.o 3,.o 4]),(7,.box [.i 0,vN,vN,vN,vN,vN])]) g (fun s9 Y10 g=>?_)) (Wk.a (idR 8))
 refine C.ss (U.pd 1 T (C.xs ?_))
 refine C.ite rfl g (fun b13 g=>?_) fun b13 g=>?_
 refine C.skip (C.xs ?_)
 refine C.jn (fun (x14:List ApiRobot)=>[(2,.p 5 0),(3,.p 6 0),(4,.p 7 0),(14,.i (st.Robots.length:Int)),(15,.i s9.2)]) (fun x14=>[(0,.val (.os 1 eI st.Shelves)),(1,.val (.os 6 Q2 x14)),(2,.val (.os 1 eI st.People)),(3,.val (.os 1 eI st.Dead)),(4,.val (.os 2 Q5 st.Stuck)),(5,.box (Q3 before)),(6,.box [.i (w64 (st.Tick+1)),.o 0,.o 1,.o 2,.o 3,.o 4]),(7,.box [.i 0,vN,vN,vN,vN,vN])]) 8 g (fun x14 g=>?_) fun J15 g j15=>?_
 refine C.nx (U.start (U.pd 2 T (C.nx ?_)))
 exact St.wk (C.next g) (Wk.a (idR 8))
 refine C.block (C.ss (U.pd 2 T (C.xt ?_)))
 refine U.ps 3 T rfl ?_
 obtain⟨x20,y20,g⟩:=g
 refine U.r rfl (.none rfl) rfl rfl (by exact Rd.io T rfl rfl rfl rfl rfl rfl rfl y20) ?_
 refine U.pd 1 T (C.xt ?_)
 refine U.ps 4 T rfl (U.r rfl (.none rfl) rfl rfl (by exact Rd.le T rfl rfl rfl (Q6 y20).2.2 rfl rfl rfl) ?_)
 refine U.ps 4 T rfl (U.e1 rfl (.none rfl) (by exact Eff1.se T (z':=({Cell:=x20.Cell,Load:=x20.Load,Charge:=x20.Charge,Rest:=x20.Rest,Mute:=imax (w64 (x20.Mute-1)) 0,Dead:=x20.Dead:ApiRobot})) rfl rfl rfl (Q6 y20).2.2 rfl rfl rfl rfl rfl rfl rfl rfl (fun _=>rfl) rfl) ?_)
 refine U.done (C.xs (C.seq (D.bq mix 9999 [1,5] [] (fun hQ hS ws M'=>?_))))
 refine D.pq 3 (zl [0,1,2]) T ?_
 refine D.q 3 [] hQ hS rfl (.none rfl) rfl rfl (by exact Rd.le T rfl rfl rfl (Gq (Q6 y20).2.2) rfl rfl rfl) rfl (by kernel_rfl) ?_
 refine D.pq 3 (zl [4,5,6]) T ?_
 obtain⟨x25,y25,g⟩:=g
 refine D.ix 7 [] T y25 ?_
 refine D.pq 3 (zl [8,9,10]) T ?_
 refine D.done (by kernel_rfl) ?_
 refine C.nx ?_
 refine C.ite rfl g (fun b26 g=>?_) fun b26 g=>?_
 refine C.exit (C.ex (C.bex ?_))
 exact St.wa (idR 8) (j15 _ g)
 refine C.skip (C.nx (U.start (U.ps 4 T rfl (U.r rfl (.none rfl) rfl rfl (by exact Rd.le T rfl rfl rfl (Gq (Q6 y20).2.2) rfl rfl rfl) ?_))))
 refine U.ps 4 T rfl ?_
 refine U.e1 rfl (.none rfl) (by exact Eff1.se T (z':=({Cell:=({Cell:=x20.Cell,Load:=x20.Load,Charge:=x20.Charge,Rest:=x20.Rest,Mute:=imax (w64 (x20.Mute-1)) 0,Dead:=x20.Dead:ApiRobot}).Cell,Load:=({Cell:=x20.Cell,Load:=x20.Load,Charge:=x20.Charge,Rest:=x20.Rest,Mute:=imax (w64 (x20.Mute-1)) 0,Dead:=x20.Dead:ApiRobot}).Load,Charge:=({Cell:=x20.Cell,Load:=x20.Load,Charge:=x20.Charge,Rest:=x20.Rest,Mute:=imax (w64 (x20.Mute-1)) 0,Dead:=x20.Dead:ApiRobot}).Charge,Rest:=imax (w64 ((({Cell:=x20.Cell,Load:=x20.Load,Charge:=x20.Charge,Rest:=x20.Rest,Mute:=imax (w64 (x20.Mute-1)) 0,Dead:=x20.Dead:ApiRobot}).Rest)-1)) 0,Mute:=({Cell:=x20.Cell,Load:=x20.Load,Charge:=x20.Charge,Rest:=x20.Rest,Mute:=imax (w64 (x20.Mute-1)) 0,Dead:=x20.Dead:ApiRobot}).Mute,Dead:=({Cell:=x20.Cell,Load:=x20.Load,Charge:=x20.Charge,Rest:=x20.Rest,Mute:=imax (w64 (x20.Mute-1)) 0,Dead:=x20.Dead:ApiRobot}).Dead:ApiRobot})) rfl rfl rfl (Gq (Q6 y20).2.2) rfl rfl rfl rfl rfl rfl rfl rfl (fun _=>rfl) rfl) ?_
 refine U.done (C.bnx ?_)
 exact St.wa (idR 8) (j15 _ g)
 refine C.exit (C.ex (C.ex (C.bex ?_)))
 exact St.wa [some 0,some 1,some 2,some 3,some 4,some 6,some 7] (j8 _ g)
theorem Q3H (s_1:ApiSite) (st:ApiState) (acts:List Int) (f:QM) (post:(ApiState×Int)→Prop) (g:Gd s_1 st acts f post):
  Tr Tryz.prog 72 [.agg (Q0 s_1),.agg (Q3 st),.sl 1 eI acts,.agg (Z4 f)] [] 0 (fun A H' k=>∃y,post y∧A=(.tup [.agg [.i y.1.Tick,.o 0,.o 1,.o 2,.o 3,.o 4],.i y.2])∧H'=[(0,.val (.os 1 eI y.1.Shelves)),(1,.val (.os 6 Q2 y.1.Robots)),(2,.val (.os 1 eI y.1.People)),(3,.val (.os 1 eI y.1.Dead)),(4,.val (.os 2 Q5 y.1.Stuck))]∧k=5):=by
 refine Tr.go Tryz.func72 Tryz.ntmps72 fun _ _ _ _ o=>?_
 unfold Gd at g
 refine C.ss (U.bx ?_)
 refine U.bx ?_
 refine U.bx ?_
 refine U.al T ?_
 refine U.pd 1 T (C.xs (C.ss ?_))
 refine U.ps 3 T rfl (U.k (Q2w s_1 st acts _ g) Q9Y (fun x5 g=>?_))
 refine U.pd 1 T (C.xt ?_)
 refine U.pd 2 T (C.nx ?_)
 refine C.ite rfl g (fun b8 g=>?_) fun b8 g=>?_
 refine C.ss (U.ps 2 T rfl (U.st T ?_))
 refine U.pd 1 T (C.nx (C.ret (C.rt ?_)))
 exact C.fg [none,none,none,none,none] T o ⟨(({Tick:=0,Shelves:=[],Robots:=[],People:=[],Dead:=[],Stuck:=[]:ApiState}),x5),g,rfl,rfl,rfl⟩
 refine C.skip (C.xs (C.ss (U.ps 3 T rfl (U.k (Ys s_1 st f _ g) Q8z (fun x13 g=>?_)))))
 refine U.pd 1 T (C.xt ?_)
 refine U.pd 2 T (C.nx ?_)
 refine C.ite rfl g (fun b16 g=>?_) fun b16 g=>?_
 refine C.ss (U.ps 2 T rfl (U.st T ?_))
 refine U.pd 1 T (C.nx (C.ret (C.rt ?_)))
 exact C.fg [none,none,none,none,none] T o ⟨(({Tick:=0,Shelves:=[],Robots:=[],People:=[],Dead:=[],Stuck:=[]:ApiState}),x13),g,rfl,rfl,rfl⟩
 refine C.skip (C.xt (U.ps 3 T rfl (U.k (Q1I s_1 st f _ g) Q9R (fun x21 g=>?_))))
 refine U.al T ?_
 refine U.st T ?_
 refine U.done (C.xs (C.ss (U.pd 3 T (C.nx ?_))))
 refine C.jn (fun (x24:Int×List Int×List ApiRobot×List Int×List Int×List ApiStuck)=>[(5,.p 0 0),(8,.p 1 0),(12,.p 2 0)]) (fun x24=>[(0,.box (Q3 st)),(1,.box [.i 0,vN,vN,vN,vN,vN]),(2,.box [.i x24.1,.o 3,.o 4,.o 5,.o 6,.o 7]),(3,.val (.os 1 eI x24.2.1)),(4,.val (.os 6 Q2 x24.2.2.1)),(5,.val (.os 1 eI x24.2.2.2.1)),(6,.val (.os 1 eI x24.2.2.2.2.1)),(7,.val (.os 2 Q5 x24.2.2.2.2.2))]) 8 g (fun x24 g=>?_) fun J25 g j25=>?_
 refine C.xs (D.bq mix 3 [0,2] [] (fun hQ hS ws M'=>?_))
 refine D.pq 2 [(0,[]),(1,[2])] T ?_
 refine D.k 2 (YD ({Tick:=x24.1,Shelves:=x24.2.1,Robots:=x24.2.2.1,People:=x24.2.2.2.1,Dead:=x24.2.2.2.2.1,Stuck:=x24.2.2.2.2.2:ApiState}) _ g) en51 fun x49 g=>?_
 refine D.zt [4,5] rfl (.none rfl) (by exact Eff.c [some 8,some 9,some 10,some 11,some 12] (v:=false) (Q0X st x49 _ g) Qaq rfl rfl rfl (.eq rfl) ⟨vL,vL,vL,vL,vL,trivial⟩ rfl rfl rfl rfl rfl rfl (fun h=>by cases h) (.inl rfl) (fun _=>rfl) (fun _=>rfl) rfl) (by kernel_rfl) (by kernel_rfl) (by kernel_rfl) (by kernel_rfl) (fun x50' g=>?_)
 obtain⟨x50⟩:=x50'
 refine U.st T ?_
 refine U.pd 1 T (C.nx (C.ret ?_))
 exact C.fg (sqR 18 5) T o ⟨(x50,0),g,rfl,rfl,rfl⟩
 refine C.block ?_
 refine St.wk (C.loop (fun (s26:Int×List Int×List ApiRobot×List Int×List Int×List ApiStuck×Int)=>[(4,.p 0 0),(5,.p 1 0),(8,.p 2 0),(12,.p 3 0),(35,.sl 1 eI acts),(36,.i (acts.length:Int)),(37,.i s26.2.2.2.2.2.2)]) (fun s26=>[(0,.box (Q0 s_1)),(1,.box (Q3 st)),(2,.box [.i 0,vN,vN,vN,vN,vN]),(3,.box [.i s26.1,.o 4,.o 5,.o 6,.o 7,.o 8]),(4,.val (.os 1 eI s26.2.1)),(5,.val (.os 6 Q2 s26.2.2.1)),(6,.val (.os 1 eI s26.2.2.2.1)),(7,.val (.os 1 eI s26.2.2.2.2.1)),(8,.val (.os 2 Q5 s26.2.2.2.2.2.1))]) g (fun s26 Y27 g=>?_)) (Wk.a [some 0,some 1,some 3,some 9,some 4,some 5,some 6,some 7,some 8])
 refine C.ss (U.pd 1 T (C.xs ?_))
 refine C.ite rfl g (fun b30 g=>?_) fun b30 g=>?_
 refine C.skip (C.xs (C.block (C.ss (U.ps 1 T rfl ?_))))
 obtain⟨x33,y33,g⟩:=g
 refine U.ix T y33 ?_
 refine U.pd 3 T (C.xs (C.ss ?_))
 refine U.ps 4 T rfl (U.k (ZL s_1 ({Tick:=s26.1,Shelves:=s26.2.1,Robots:=s26.2.2.1,People:=s26.2.2.2.1,Dead:=s26.2.2.2.2.1,Stuck:=s26.2.2.2.2.2.1:ApiState}) s26.2.2.2.2.2.2 x33 _ g) en12 (fun x36 g=>?_))
 refine U.pd 1 T (C.nx ?_)
 refine C.jn (fun (x37:Int)=>[(4,.p 0 0),(5,.p 1 0),(8,.p 2 0),(12,.p 3 0),(13,.i s26.2.2.2.2.2.2),(14,.i x37),(35,.sl 1 eI acts),(36,.i (acts.length:Int)),(37,.i s26.2.2.2.2.2.2)]) (fun x37=>[(0,.box (Q0 s_1)),(1,.box (Q3 st)),(2,.box [.i 0,vN,vN,vN,vN,vN]),(3,.box [.i s26.1,.o 4,.o 5,.o 6,.o 7,.o 8]),(4,.val (.os 1 eI s26.2.1)),(5,.val (.os 6 Q2 s26.2.2.1)),(6,.val (.os 1 eI s26.2.2.2.1)),(7,.val (.os 1 eI s26.2.2.2.2.1)),(8,.val (.os 2 Q5 s26.2.2.2.2.2.1))]) 9 g (fun x37 g=>?_) fun J38 g j38=>?_
 refine C.nx (U.start (U.ps 4 T rfl (U.k (Q4T s_1 ({Tick:=s26.1,Shelves:=s26.2.1,Robots:=s26.2.2.1,People:=s26.2.2.2.1,Dead:=s26.2.2.2.2.1,Stuck:=s26.2.2.2.2.2.1:ApiState}) s26.2.2.2.2.2.2 x37 _ g) en13 (fun x44 g=>?_))))
 refine U.st T ?_
 refine U.done (C.bnx (C.nx (U.start (U.pd 2 T (C.nx ?_)))))
 exact St.wk (C.next g) (Wk.a [some 0,some 1,some 2,some 3,some 9,some 10,some 11,some 12,some 13])
 refine C.ite rfl g (fun b39 g=>?_) fun b39 g=>?_
 refine U.start (U.pd 1 T ?_)
 exact St.wa (idR 9) (j38 _ g)
 refine C.skip ?_
 exact St.wa (idR 9) (j38 _ g)
 refine C.exit (C.ex (C.ex (C.bex ?_)))
 exact St.wa (sqR 1 8) (j25 _ g)
theorem W6 (s_1:ApiSite) (st:ApiState) (post:Bool→Prop) (g:QR s_1 st post):
  Tr Tryz.prog 34 [.agg (Q0 s_1),.agg (Q3 st)] [] 0 (pB post):=by
 refine Tr.go Tryz.func34 Tryz.ntmps34 fun _ _ _ _ o=>?_
 unfold QR at g
 refine C.ss (U.bx ?_)
 refine U.bx ?_
 refine U.pd 1 T (C.xt ?_)
 refine U.ps 3 T rfl (U.k (Q0P s_1 st.Dead _ g) en19 (fun x5 g=>?_))
 refine U.pd 1 T (C.xs ?_)
 refine C.jn (fun (x6:Unit)=>[]) (fun x6=>[]) 0 g (fun x6 g=>?_) fun J7 g j7=>?_
 refine C.xt (U.pd 1 T (C.nx (C.ret ?_)))
 exact C.f1 T o (pBi g)
 refine C.block ?_
 refine St.wk (C.loop (fun (s8:Int×List Int×List ApiRobot×List Int×List Int×List ApiStuck)=>[(2,.p 0 0),(3,.p 1 0),(5,.o 2)]) (fun s8=>[(0,.box (Q0 s_1)),(1,.box [.i s8.1,.sl 1 eI s8.2.1,.sl 6 Q2 s8.2.2.1,.sl 1 eI s8.2.2.2.1,.sl 1 eI s8.2.2.2.2.1,.sl 2 Q5 s8.2.2.2.2.2]),(2,.val (.os 1 eI x5))]) g (fun s8 Y9 g=>?_)) (Wk.a (idR 3))
 refine C.seq (C.ss (U.pd 3 T (C.nx ?_)))
 refine C.ite rfl g (fun b12 g=>?_) fun b12 g=>?_
 refine C.skip (C.nx ?_)
 refine C.jn (fun (x13:Int×List Int×List ApiRobot×List Int×List Int×List ApiStuck)=>[(2,.p 0 0),(3,.p 1 0),(5,.o 7)]) (fun x13=>[(0,.box (Q0 s_1)),(1,.box [.i x13.1,.o 2,.o 3,.o 4,.o 5,.o 6]),(2,.val (.os 1 eI x13.2.1)),(3,.val (.os 6 Q2 x13.2.2.1)),(4,.val (.os 1 eI x13.2.2.2.1)),(5,.val (.os 1 eI x13.2.2.2.2.1)),(6,.val (.os 2 Q5 x13.2.2.2.2.2)),(7,.val (.os 1 eI x5))]) 8 g (fun x13 g=>?_) fun J14 g j14=>?_
 refine C.nx ?_
 exact St.wk (C.next g) (Wk.mk' [some 0,some 1,some 7] rfl rfl (.eqs rfl) ⟨bX,⟨_,rfl,.box rfl (.cons (.eq rfl) (.cons (.fz rfl rfl rfl (.os fun _=>.cons (.ro rfl) .nil)) (.cons (.fz rfl rfl rfl (.os fun _=>.cons (.ro rfl) (.cons (.ro rfl) (.cons (.ro rfl) (.cons (.ro rfl) (.cons (.ro rfl) (.cons (.ro rfl) .nil))))))) (.cons (.fz rfl rfl rfl (.os fun _=>.cons (.ro rfl) .nil)) (.cons (.fz rfl rfl rfl (.os fun _=>.cons (.ro rfl) .nil)) (.cons (.fz rfl rfl rfl (.os fun _=>.cons (.ro rfl) (.cons (.ro rfl) .nil))) .nil))))))⟩,vL,trivial⟩ rfl)
 refine C.block (C.seq (C.ss (U.pd 4 T (C.nx ?_))))
 refine C.ite rfl g (fun b17 g=>?_) fun b17 g=>?_
 refine C.ss (U.pd 1 T (C.nx (C.ret (C.rt (C.brt (C.rt (C.brt (C.rt ?_))))))))
 exact C.f1 T o (pBi g)
 refine C.skip (C.xt (U.ps 2 T rfl ?_))
 obtain⟨x22,y22,g⟩:=g
 refine U.ix T y22 ?_
 refine U.ps 1 T rfl (U.al T ?_)
 refine U.st T ?_
 refine U.done (C.xs (C.seq ?_))
 refine C.jn (fun (x23:Bool)=>[(2,.p 0 0),(3,.p 1 0),(5,.o 2),(6,.p 3 0),(37,.b x23)]) (fun x23=>[(0,.box (Q0 s_1)),(1,.box [.i s8.1,.sl 1 eI s8.2.1,.sl 6 Q2 s8.2.2.1,.sl 1 eI s8.2.2.2.1,.sl 1 eI s8.2.2.2.2.1,.sl 2 Q5 s8.2.2.2.2.2]),(2,.val (.os 1 eI x5)),(3,.box (Q2 x22))]) 4 g (fun x23 g=>?_) fun J24 g j24=>?_
 refine C.nx ?_
 refine C.ite rfl g (fun b26 g=>?_) fun b26 g=>?_
 refine C.ss (U.pd 1 T (C.nx (C.ret (C.rt (C.brt (C.rt (C.brt (C.rt ?_))))))))
 exact C.f1 T o (pBi g)
 refine C.skip (C.xs (C.ss (U.ps 3 T rfl ?_)))
 obtain⟨x31,y31,g⟩:=g
 refine U.r rfl (.none rfl) rfl rfl (by exact Rd.io T rfl rfl rfl rfl rfl rfl rfl y31) ?_
 refine U.r rfl (.none rfl) rfl rfl (by exact Rd.le T rfl rfl rfl (Q6 y31).2.2 rfl rfl rfl) ?_
 refine U.pd 1 T (C.nx ?_)
 refine C.ite rfl g (fun b32 g=>?_) fun b32 g=>?_
 refine C.ss (U.pd 1 T (C.nx (C.ret (C.rt (C.brt (C.rt (C.brt (C.rt ?_))))))))
 exact C.f1 T o (pBi g)
 refine C.skip (C.xt (U.pd 1 T (C.xs (C.ss ?_))))
 refine U.pd 1 T (C.nx ?_)
 refine C.jn (fun (x39:Int)=>[(2,.p 0 0),(3,.p 1 0),(5,.o 2),(6,.p 3 0),(7,.i x39)]) (fun x39=>[(0,.box (Q0 s_1)),(1,.box [.i s8.1,.sl 1 eI s8.2.1,.sl 6 Q2 s8.2.2.1,.sl 1 eI s8.2.2.2.1,.sl 1 eI s8.2.2.2.2.1,.sl 2 Q5 s8.2.2.2.2.2]),(2,.val (.os 1 eI x5)),(3,.box (Q2 x22))]) 4 g (fun x39 g=>?_) fun J40 g j40=>?_
 refine C.xs (C.seq ?_)
 refine C.jn (fun (x71:Bool)=>[(2,.p 0 0),(3,.p 1 0),(5,.o 2),(7,.i x39),(120,.b x71)]) (fun x71=>[(0,.box (Q0 s_1)),(1,.box [.i s8.1,.sl 1 eI s8.2.1,.sl 6 Q2 s8.2.2.1,.sl 1 eI s8.2.2.2.1,.sl 1 eI s8.2.2.2.2.1,.sl 2 Q5 s8.2.2.2.2.2]),(2,.val (.os 1 eI x5))]) 3 g (fun x71 g=>?_) fun J72 g j72=>?_
 refine C.nx ?_
 refine C.ite rfl g (fun b82 g=>?_) fun b82 g=>?_
 refine C.ss (U.pd 1 T (C.nx (C.ret (C.rt (C.brt (C.rt (C.brt (C.rt ?_))))))))
 exact C.f1 T o (pBi g)
 refine C.skip (C.xt (U.ps 3 T rfl (U.bs T eI ([x39]:List Int) ?_)))
 refine U.ps 1 T rfl (U.k (Q3H s_1 ({Tick:=s8.1,Shelves:=s8.2.1,Robots:=s8.2.2.1,People:=s8.2.2.2.1,Dead:=s8.2.2.2.2.1,Stuck:=s8.2.2.2.2.2:ApiState}) ([x39]:List Int) ({Kind:=0,A:=0,N:=0:QM}) _ g) en72 (fun x87 g=>?_))
 refine U.ps 3 T rfl (U.al T ?_)
 refine U.st T ?_
 refine U.pd 1 T (C.xs (C.ss ?_))
 refine U.pd 2 T (C.nx ?_)
 refine C.ite rfl g (fun b90 g=>?_) fun b90 g=>?_
 refine C.ss (U.pd 1 T (C.nx (C.ret (C.rt (C.brt (C.rt (C.brt (C.rt ?_))))))))
 exact C.f1 T o (pBi g)
 refine C.skip (C.nx (U.start (U.ps 1 T rfl (U.st T ?_))))
 refine U.done (C.bnx ?_)
 exact St.wa [some 0,some 1,some 4,some 5,some 6,some 7,some 8,some 2] (j14 _ g)
 refine D.bq mix 9999 [3] [] (fun hQ hS ws M'=>?_)
 refine D.pq 3 (zl [0,1,2]) T ?_
 refine g.cs (fun b73 g=>?_) fun b73 g=>?_
 refine D.pt 3 [] 2 true 101 b73 T ?_
 refine D.q 4 [] hQ hS rfl (.tk 2 true 101 b73) rfl rfl (by exact Rd.l T rfl rfl rfl) rfl (by kernel_rfl) ?_
 refine D.pt 5 [] 2 true 101 b73 T ?_
 refine D.kt 6 [] b73 ?_
 refine D.pq 1 [(7,[])] T ?_
 refine g.cs (fun b74 g=>?_) fun b74 g=>?_
 refine D.pt 8 [] 7 true 106 b74 T ?_
 refine D.q 9 [] hQ hS rfl (.tk 7 true 106 b74) rfl rfl (by exact Rd.l T rfl rfl rfl) rfl (by kernel_rfl) ?_
 refine D.pt 10 [] 7 true 106 b74 T ?_
 refine D.kt 11 [] b74 ?_
 refine D.pq 1 [(12,[])] T ?_
 refine g.cs (fun b75 g=>?_) fun b75 g=>?_
 refine D.sz 13 [] 12 false 111 b75 ?_
 refine D.sz 14 [] 12 false 111 b75 ?_
 refine D.sz 15 [] 12 false 111 b75 ?_
 refine D.sz 16 [] 12 false 111 b75 ?_
 refine D.sz 17 [] 12 false 111 b75 ?_
 refine D.sx 18 [] hQ hS (.und 17 true 116 rfl rfl rfl) ?_
 refine D.sx 19 [] hQ hS (.und 17 true 116 rfl rfl rfl) ?_
 refine D.sz 20 [] 12 false 111 b75 ?_
 refine D.kt 21 [] b75 ?_
 refine D.done (by kernel_rfl) ?_
 exact St.wa (idR 3) (j72 _ g)
 refine D.pt 13 [] 12 false 111 b75 T ?_
 refine D.q 14 [] hQ hS rfl (.tk 12 false 111 b75) rfl rfl (by exact Rd.l T rfl rfl rfl) rfl (by kernel_rfl) ?_
 refine D.k 15 (KY _ g) en14 (fun x76 g=>?_) (hw:=.take 12 false 111 _ b75 rfl rfl rfl)
 refine D.pt 16 [] 12 false 111 b75 T ?_
 refine D.pt 17 [] 12 false 111 b75 T ?_
 refine g.cs (fun b77 g=>?_) fun b77 g=>?_
 refine D.pt 18 [] 17 true 116 b77 T ?_
 refine D.pt 19 [] 17 true 116 b77 T ?_
 refine D.q 20 [] hQ hS rfl (.tk 12 false 111 b75) rfl rfl (by exact Rd.pk rfl rfl b77 rfl) rfl (by kernel_rfl) ?_
 refine D.kf 21 [] b75 ?_
 refine D.done (by kernel_rfl) ?_
 exact St.wa (idR 3) (j72 _ g)
 refine D.sz 18 [] 17 true 116 b77 ?_
 refine D.sz 19 [] 17 true 116 b77 ?_
 refine D.q 20 [] hQ hS rfl (.tk 12 false 111 b75) rfl rfl (by exact Rd.pk' rfl rfl b77 rfl) rfl (by kernel_rfl) ?_
 refine D.kf 21 [] b75 ?_
 refine D.done (by kernel_rfl) ?_
 exact St.wa (idR 3) (j72 _ g)
 refine D.sz 8 [] 7 true 106 b74 ?_
 refine D.sz 9 [] 7 true 106 b74 ?_
 refine D.sz 10 [] 7 true 106 b74 ?_
 refine D.kf 11 [] b74 ?_
 refine D.pq 1 [(12,[])] T ?_
 refine D.pt 13 [] 12 false 111 rfl T ?_
 refine D.q 14 [] hQ hS rfl (.tk 12 false 111 rfl) rfl rfl (by exact Rd.l T rfl rfl rfl) rfl (by kernel_rfl) ?_
 refine D.k 15 (KY _ g) en14 (fun x78 g=>?_) (hw:=.take 12 false 111 _ rfl rfl rfl rfl)
 refine D.pt 16 [] 12 false 111 rfl T ?_
 refine D.pt 17 [] 12 false 111 rfl T ?_
 refine g.cs (fun b79 g=>?_) fun b79 g=>?_
 refine D.pt 18 [] 17 true 116 b79 T ?_
 refine D.pt 19 [] 17 true 116 b79 T ?_
 refine D.q 20 [] hQ hS rfl (.tk 12 false 111 rfl) rfl rfl (by exact Rd.pk rfl rfl b79 rfl) rfl (by kernel_rfl) ?_
 refine D.kf 21 [] rfl ?_
 refine D.done (by kernel_rfl) ?_
 exact St.wa (idR 3) (j72 _ g)
 refine D.sz 18 [] 17 true 116 b79 ?_
 refine D.sz 19 [] 17 true 116 b79 ?_
 refine D.q 20 [] hQ hS rfl (.tk 12 false 111 rfl) rfl rfl (by exact Rd.pk' rfl rfl b79 rfl) rfl (by kernel_rfl) ?_
 refine D.kf 21 [] rfl ?_
 refine D.done (by kernel_rfl) ?_
 exact St.wa (idR 3) (j72 _ g)
 refine D.sz 3 [] 2 true 101 b73 ?_
 refine D.sz 4 [] 2 true 101 b73 ?_
 refine D.sz 5 [] 2 true 101 b73 ?_
 refine D.kf 6 [] b73 ?_
 refine D.pq 1 [(7,[])] T ?_
 refine D.sz 8 [] 7 true 106 rfl ?_
 refine D.sz 9 [] 7 true 106 rfl ?_
 refine D.sz 10 [] 7 true 106 rfl ?_
 refine D.kf 11 [] rfl ?_
 refine D.pq 1 [(12,[])] T ?_
 refine D.pt 13 [] 12 false 111 rfl T ?_
 refine D.q 14 [] hQ hS rfl (.tk 12 false 111 rfl) rfl rfl (by exact Rd.l T rfl rfl rfl) rfl (by kernel_rfl) ?_
 refine D.k 15 (KY _ g) en14 (fun x80 g=>?_) (hw:=.take 12 false 111 _ rfl rfl rfl rfl)
 refine D.pt 16 [] 12 false 111 rfl T ?_
 refine D.pt 17 [] 12 false 111 rfl T ?_
 refine g.cs (fun b81 g=>?_) fun b81 g=>?_
 refine D.pt 18 [] 17 true 116 b81 T ?_
 refine D.pt 19 [] 17 true 116 b81 T ?_
 refine D.q 20 [] hQ hS rfl (.tk 12 false 111 rfl) rfl rfl (by exact Rd.pk rfl rfl b81 rfl) rfl (by kernel_rfl) ?_
 refine D.kf 21 [] rfl ?_
 refine D.done (by kernel_rfl) ?_
 exact St.wa (idR 3) (j72 _ g)
 refine D.sz 18 [] 17 true 116 b81 ?_
 refine D.sz 19 [] 17 true 116 b81 ?_
 refine D.q 20 [] hQ hS rfl (.tk 12 false 111 rfl) rfl rfl (by exact Rd.pk' rfl rfl b81 rfl) rfl (by kernel_rfl) ?_
 refine D.kf 21 [] rfl ?_
 refine D.done (by kernel_rfl) ?_
 exact St.wa (idR 3) (j72 _ g)
 refine C.block ?_
 refine St.wk (C.loop (fun (s41:Int×Int)=>[(2,.p 0 0),(3,.p 1 0),(5,.o 2),(6,.p 3 0),(7,.i s41.1),(8,.i s41.2)]) (fun s41=>[(0,.box (Q0 s_1)),(1,.box [.i s8.1,.sl 1 eI s8.2.1,.sl 6 Q2 s8.2.2.1,.sl 1 eI s8.2.2.2.1,.sl 1 eI s8.2.2.2.2.1,.sl 2 Q5 s8.2.2.2.2.2]),(2,.val (.os 1 eI x5)),(3,.box (Q2 x22))]) g (fun s41 Y42 g=>?_)) (Wk.a (idR 4))
 refine C.seq (C.seq ?_)
 refine C.jn (fun (x43:Bool)=>[(2,.p 0 0),(3,.p 1 0),(5,.o 2),(6,.p 3 0),(7,.i s41.1),(8,.i s41.2),(55,.b x43)]) (fun x43=>[(0,.box (Q0 s_1)),(1,.box [.i s8.1,.sl 1 eI s8.2.1,.sl 6 Q2 s8.2.2.1,.sl 1 eI s8.2.2.2.1,.sl 1 eI s8.2.2.2.2.1,.sl 2 Q5 s8.2.2.2.2.2]),(2,.val (.os 1 eI x5)),(3,.box (Q2 x22))]) 4 g (fun x43 g=>?_) fun J44 g j44=>?_
 refine C.nx ?_
 refine C.ite rfl g (fun b47 g=>?_) fun b47 g=>?_
 refine C.skip (C.xs (C.block (C.ss (U.ps 5 T rfl (U.k (W7 s_1.Floor x22.Cell s41.2 _ g) en53 (fun x50 g=>?_))))))
 refine U.pd 5 T (C.xs ?_)
 refine C.jn (fun (x51:Bool)=>[(2,.p 0 0),(3,.p 1 0),(5,.o 2),(6,.p 3 0),(7,.i s41.1),(8,.i s41.2),(9,.i x50.1),(74,.b x51)]) (fun x51=>[(0,.box (Q0 s_1)),(1,.box [.i s8.1,.sl 1 eI s8.2.1,.sl 6 Q2 s8.2.2.1,.sl 1 eI s8.2.2.2.1,.sl 1 eI s8.2.2.2.2.1,.sl 2 Q5 s8.2.2.2.2.2]),(2,.val (.os 1 eI x5)),(3,.box (Q2 x22))]) 4 g (fun x51 g=>?_) fun J52 g j52=>?_
 refine C.nx ?_
 refine C.jn (fun (x55:Int)=>[(2,.p 0 0),(3,.p 1 0),(5,.o 2),(6,.p 3 0),(7,.i x55),(8,.i s41.2)]) (fun x55=>[(0,.box (Q0 s_1)),(1,.box [.i s8.1,.sl 1 eI s8.2.1,.sl 6 Q2 s8.2.2.1,.sl 1 eI s8.2.2.2.1,.sl 1 eI s8.2.2.2.2.1,.sl 2 Q5 s8.2.2.2.2.2]),(2,.val (.os 1 eI x5)),(3,.box (Q2 x22))]) 4 g (fun x55 g=>?_) fun J56 g j56=>?_
 refine C.bnx (C.nx (U.start (U.pd 3 T (C.nx ?_))))
 exact St.wk (C.next g) (Wk.a (idR 4))
 refine C.ite rfl g (fun b57 g=>?_) fun b57 g=>?_
 refine C.seq ?_
 refine C.jn (fun (x58:Bool)=>[(2,.p 0 0),(3,.p 1 0),(5,.o 2),(6,.p 3 0),(7,.i s41.1),(8,.i s41.2),(96,.b x58)]) (fun x58=>[(0,.box (Q0 s_1)),(1,.box [.i s8.1,.sl 1 eI s8.2.1,.sl 6 Q2 s8.2.2.1,.sl 1 eI s8.2.2.2.1,.sl 1 eI s8.2.2.2.2.1,.sl 2 Q5 s8.2.2.2.2.2]),(2,.val (.os 1 eI x5)),(3,.box (Q2 x22))]) 4 g (fun x58 g=>?_) fun J59 g j59=>?_
 refine C.nx ?_
 refine C.jn (fun (x64:Int)=>[(2,.p 0 0),(3,.p 1 0),(5,.o 2),(6,.p 3 0),(7,.i x64),(8,.i s41.2)]) (fun x64=>[(0,.box (Q0 s_1)),(1,.box [.i s8.1,.sl 1 eI s8.2.1,.sl 6 Q2 s8.2.2.1,.sl 1 eI s8.2.2.2.1,.sl 1 eI s8.2.2.2.2.1,.sl 2 Q5 s8.2.2.2.2.2]),(2,.val (.os 1 eI x5)),(3,.box (Q2 x22))]) 4 g (fun x64 g=>?_) fun J65 g j65=>?_
 exact St.wa (idR 4) (j56 _ g)
 refine C.ite rfl g (fun b66 g=>?_) fun b66 g=>?_
 refine U.start (U.pd 3 T ?_)
 exact St.wa (idR 4) (j65 _ g)
 refine C.skip ?_
 exact St.wa (idR 4) (j65 _ g)
 refine D.bq mix 9999 [0,2,3] [] (fun hQ hS ws M'=>?_)
 refine D.pq 2 (zl [0,1]) T ?_
 obtain⟨x60,y60,g⟩:=g
 refine D.q 2 [] hQ hS rfl (.none rfl) rfl rfl (by exact Rd.io T rfl rfl rfl rfl rfl rfl rfl y60) rfl (by kernel_rfl) ?_
 refine D.q 3 [] hQ hS rfl (.none rfl) rfl rfl (by exact Rd.le T rfl rfl rfl (Q6 y60).2.2 rfl rfl rfl) rfl (by kernel_rfl) ?_
 refine D.pq 2 (zl [4,5]) T ?_
 refine g.cs (fun b61 g=>?_) fun b61 g=>?_
 refine D.pt 6 [] 5 true 80 b61 T ?_
 refine D.pt 7 [] 5 true 80 b61 T ?_
 refine D.q 8 [] hQ hS rfl (.tk 5 true 80 b61) rfl rfl (by exact Rd.io T rfl rfl rfl rfl rfl rfl rfl y60) rfl (by kernel_rfl) ?_
 refine D.q 9 [] hQ hS rfl (.tk 5 true 80 b61) rfl rfl (by exact Rd.le T rfl rfl rfl (Q6 y60).2.2 rfl rfl rfl) rfl (by kernel_rfl) ?_
 refine D.q 10 [] hQ hS rfl (.tk 5 true 80 b61) rfl rfl (by exact Rd.l T rfl rfl rfl) rfl (by kernel_rfl) ?_
 refine D.pt 11 [] 5 true 80 b61 T ?_
 refine D.pt 12 [] 5 true 80 b61 T ?_
 refine D.pt 15 [] 5 true 80 b61 T ?_
 refine D.pt 16 [] 5 true 80 b61 T ?_
 refine D.q 17 [] hQ hS rfl (.tk 5 true 80 b61) rfl rfl (by exact Rd.l T rfl rfl rfl) rfl (by kernel_rfl) ?_
 obtain⟨x62,y62,g⟩:=g
 refine D.q 18 [] hQ hS rfl (.tk 5 true 80 b61) rfl rfl (by exact Rd.io T rfl rfl rfl rfl rfl rfl rfl y62) rfl (by kernel_rfl) ?_
 refine D.q 19 [] hQ hS rfl (.tk 5 true 80 b61) rfl rfl (by exact Rd.le T rfl rfl rfl (Q6 y62).2.2 rfl rfl rfl) rfl (by kernel_rfl) ?_
 refine D.k 13 (Yj s_1 s41.2 x50.1 _ g) en16 (fun x63 g=>?_) (hw:=.take 5 true 80 _ b61 rfl rfl rfl)
 refine D.pt 14 [] 5 true 80 b61 T ?_
 refine D.pt 20 [] 5 true 80 b61 T ?_
 refine D.kt 21 [] b61 ?_
 refine D.done (by kernel_rfl) ?_
 exact St.wa (idR 4) (j59 _ g)
 refine D.sz 6 [] 5 true 80 b61 ?_
 refine D.sz 7 [] 5 true 80 b61 ?_
 refine D.sz 8 [] 5 true 80 b61 ?_
 refine D.sz 9 [] 5 true 80 b61 ?_
 refine D.sz 10 [] 5 true 80 b61 ?_
 refine D.sz 11 [] 5 true 80 b61 ?_
 refine D.sz 12 [] 5 true 80 b61 ?_
 refine D.sz 13 [] 5 true 80 b61 ?_
 refine D.sz 14 [] 5 true 80 b61 ?_
 refine D.sz 15 [] 5 true 80 b61 ?_
 refine D.sz 16 [] 5 true 80 b61 ?_
 refine D.sz 17 [] 5 true 80 b61 ?_
 refine D.sz 18 [] 5 true 80 b61 ?_
 refine D.sz 19 [] 5 true 80 b61 ?_
 refine D.sz 20 [] 5 true 80 b61 ?_
 refine D.kf 21 [] b61 ?_
 refine D.done (by kernel_rfl) ?_
 exact St.wa (idR 4) (j59 _ g)
 refine C.skip ?_
 exact St.wa (idR 4) (j56 _ g)
 refine U.start (U.ps 2 T rfl ?_)
 refine g.cs (fun b53 g=>?_) fun b53 g=>?_
 refine U.pq 3 1 true 68 b53 T ?_
 refine U.k (Q0j s8.2.2.2.2.1 x50.1 _ g) en66 (fun x54 g=>?_) (hw:=.take 1 true 68 _ b53 rfl rfl rfl)
 refine U.pq 1 1 true 68 b53 T ?_
 refine U.pk b53 ?_
 refine U.done ?_
 exact St.wa (idR 4) (j52 _ g)
 refine U.sk' 5 1 true 68 b53 ?_
 refine U.pk' b53 ?_
 refine U.done ?_
 exact St.wa (idR 4) (j52 _ g)
 refine C.exit (C.ex (C.ex (C.bex ?_)))
 exact St.wa (idR 4) (j40 _ g)
 refine U.start (U.ps 3 T rfl ?_)
 refine g.cs (fun b45 g=>?_) fun b45 g=>?_
 refine U.pq 3 2 true 46 b45 T ?_
 refine U.pk b45 ?_
 refine U.ps 1 T rfl ?_
 refine g.cs (fun b46 g=>?_) fun b46 g=>?_
 refine U.pq 3 7 true 51 b46 T ?_
 refine U.pk b46 ?_
 refine U.done ?_
 exact St.wa (idR 4) (j44 _ g)
 refine U.sk' 3 7 true 51 b46 ?_
 refine U.pk' b46 ?_
 refine U.done ?_
 exact St.wa (idR 4) (j44 _ g)
 refine U.sk' 3 2 true 46 b45 ?_
 refine U.pk' b45 ?_
 refine U.ps 1 T rfl (U.sk' 3 7 true 51 rfl ?_)
 refine U.pk' rfl ?_
 refine U.done ?_
 exact St.wa (idR 4) (j44 _ g)
 refine U.start (U.ps 4 T rfl ?_)
 refine g.cs (fun b25 g=>?_) fun b25 g=>?_
 refine U.sk' 5 3 false 31 b25 ?_
 refine U.pk b25 ?_
 refine U.done ?_
 exact St.wa (idR 4) (j24 _ g)
 refine U.pq 5 3 false 31 b25 T ?_
 refine U.pk' b25 ?_
 refine U.done ?_
 exact St.wa (idR 4) (j24 _ g)
 refine C.exit (C.ex (C.ex (C.bex ?_)))
 exact St.wk (j7 _ g) (Wk.mk' [] rfl rfl trivial trivial rfl)
theorem Y6 (s_1:ApiSite) (c:Int) (x_1:Int) (delay:Int) (tick:Int) (rest:Int) (mute:Int) (laden:Bool) (post:Bool→Prop) (g:V_taquinlaw33_ReachHolds s_1 c x_1 delay tick rest mute laden post):
  Tr Tryz.prog 5 [.agg (Q0 s_1),.i c,.i x_1,.i delay,.i tick,.i rest,.i mute,.b laden] [] 0 (pB post):=by
 refine Tr.go Tryz.func5 Tryz.ntmps5 fun _ _ _ _ o=>?_
 unfold V_taquinlaw33_ReachHolds at g
 refine C.ss (U.bx ?_)
 refine U.pd 1 T (C.xt ?_)
 refine U.k (ZD _ g) en6 fun x5 g=>?_
 refine U.pd 1 T (C.xs (C.seq ?_))
 refine C.jn (fun (x6:Bool)=>[(1,.i c),(2,.i x_1),(3,.i delay),(4,.i tick),(5,.i rest),(6,.i mute),(7,.b laden),(8,.p 0 0),(17,.b x5),(60,.b x6)]) (fun x6=>[(0,.box (Q0 s_1))]) 1 g (fun x6 g=>?_) fun J7 g j7=>?_
 refine C.nx ?_
 refine C.ite rfl g (fun b17 g=>?_) fun b17 g=>?_
 refine C.ss (U.pd 2 T (C.nx (C.ret (C.rt ?_))))
 exact C.f1 T o (pBi g)
 refine C.skip (C.xs (C.ss (U.pd 1 T (C.nx ?_))))
 refine C.jn (fun (x22:Unit)=>[(1,.i c),(2,.i x_1),(3,.i delay),(4,.i tick),(5,.i rest),(6,.i mute),(7,.b laden),(8,.p 0 0),(17,.b x5)]) (fun x22=>[(0,.box (Q0 s_1))]) 1 g (fun x22 g=>?_) fun J23 g j23=>?_
 refine C.xt (U.ps 3 T rfl (U.k (YM s_1 [] c delay _ g) en21 (fun x39 g=>?_)))
 refine U.pd 1 T (C.xs (C.ss ?_))
 refine U.pd 2 T (C.nx ?_)
 refine C.ite rfl g (fun b42 g=>?_) fun b42 g=>?_
 refine C.ss (U.pd 2 T (C.nx (C.ret (C.rt ?_))))
 exact C.f1 T o (pBi g)
 refine C.skip (C.xt (U.ps 3 T rfl (U.e rfl (.none rfl) (by exact Eff.c [] (v:=false) (ZG s_1 c laden _ g) en31 rfl rfl rfl (.eq rfl) trivial rfl rfl rfl rfl rfl rfl (fun h=>by cases h) (.inr ⟨rfl,rfl⟩) (fun _=>rfl) (fun _=>rfl) rfl) (fun x47' g=>?_))))
 obtain⟨x47⟩:=x47'
 refine U.al T ?_
 refine U.st T ?_
 refine U.done (C.xs ?_)
 refine C.jn (fun (x48:Int×List Int×List ApiRobot×List Int×List Int×List ApiStuck)=>[(1,.i c),(2,.i x_1),(3,.i delay),(4,.i tick),(5,.i rest),(6,.i mute),(8,.p 0 0),(17,.b x5),(19,.i x39),(20,.p 1 0),(21,.p 2 0)]) (fun x48=>[(0,.box (Q0 s_1)),(1,.box (Q0 x47)),(2,.box [.i x48.1,.o 3,.o 4,.o 5,.sl 1 eI x48.2.2.2.2.1,.o 6]),(3,.val (.os 1 eI x48.2.1)),(4,.val (.os 6 Q2 x48.2.2.1)),(5,.val (.os 1 eI x48.2.2.2.1)),(6,.val (.os 2 Q5 x48.2.2.2.2.2))]) 7 g (fun x48 g=>?_) fun J49 g j49=>?_
 refine C.xt (U.ps 3 T rfl ?_)
 obtain⟨x54,y54,g⟩:=g
 refine U.r rfl (.none rfl) rfl rfl (by exact Rd.io T rfl rfl rfl rfl rfl rfl rfl y54) ?_
 refine U.ps 1 T rfl (U.e1 rfl (.none rfl) (by exact Eff1.se T (z':=({Cell:=x54.Cell,Load:=x54.Load,Charge:=x54.Charge,Rest:=rest,Mute:=x54.Mute,Dead:=x54.Dead:ApiRobot})) rfl rfl rfl (Q6 y54).2.2 rfl rfl rfl rfl rfl rfl rfl rfl (fun _=>rfl) rfl) ?_)
 refine U.done (C.xt (U.ps 3 T rfl (U.r rfl (.none rfl) rfl rfl (by exact Rd.io T rfl rfl rfl rfl rfl rfl rfl (Q48 y54)) ?_)))
 refine U.ps 1 T rfl ?_
 refine U.e1 rfl (.none rfl) (by exact Eff1.se T (z':=({Cell:=({Cell:=x54.Cell,Load:=x54.Load,Charge:=x54.Charge,Rest:=rest,Mute:=x54.Mute,Dead:=x54.Dead:ApiRobot}).Cell,Load:=({Cell:=x54.Cell,Load:=x54.Load,Charge:=x54.Charge,Rest:=rest,Mute:=x54.Mute,Dead:=x54.Dead:ApiRobot}).Load,Charge:=({Cell:=x54.Cell,Load:=x54.Load,Charge:=x54.Charge,Rest:=rest,Mute:=x54.Mute,Dead:=x54.Dead:ApiRobot}).Charge,Rest:=({Cell:=x54.Cell,Load:=x54.Load,Charge:=x54.Charge,Rest:=rest,Mute:=x54.Mute,Dead:=x54.Dead:ApiRobot}).Rest,Mute:=mute,Dead:=({Cell:=x54.Cell,Load:=x54.Load,Charge:=x54.Charge,Rest:=rest,Mute:=x54.Mute,Dead:=x54.Dead:ApiRobot}).Dead:ApiRobot})) rfl rfl rfl (Gq (Q6 y54).2.2) rfl rfl rfl rfl rfl rfl rfl rfl (fun _=>rfl) rfl) ?_
 refine U.done (C.xt (U.ps 3 T rfl ?_))
 refine U.k (Q1X x47 ({Tick:=x48.1,Shelves:=x48.2.1,Robots:=((x48.2.2.1.set (Int.toNat 0) ({Cell:=x54.Cell,Load:=x54.Load,Charge:=x54.Charge,Rest:=rest,Mute:=x54.Mute,Dead:=x54.Dead:ApiRobot})).set (Int.toNat 0) ({Cell:=({Cell:=x54.Cell,Load:=x54.Load,Charge:=x54.Charge,Rest:=rest,Mute:=x54.Mute,Dead:=x54.Dead:ApiRobot}).Cell,Load:=({Cell:=x54.Cell,Load:=x54.Load,Charge:=x54.Charge,Rest:=rest,Mute:=x54.Mute,Dead:=x54.Dead:ApiRobot}).Load,Charge:=({Cell:=x54.Cell,Load:=x54.Load,Charge:=x54.Charge,Rest:=rest,Mute:=x54.Mute,Dead:=x54.Dead:ApiRobot}).Charge,Rest:=({Cell:=x54.Cell,Load:=x54.Load,Charge:=x54.Charge,Rest:=rest,Mute:=x54.Mute,Dead:=x54.Dead:ApiRobot}).Rest,Mute:=mute,Dead:=({Cell:=x54.Cell,Load:=x54.Load,Charge:=x54.Charge,Rest:=rest,Mute:=x54.Mute,Dead:=x54.Dead:ApiRobot}).Dead:ApiRobot})),People:=x48.2.2.2.1,Dead:=x48.2.2.2.2.1,Stuck:=x48.2.2.2.2.2:ApiState}) 0 delay _ g) en10 fun x59 g=>?_
 refine U.pd 5 T (C.xs (C.seq ?_))
 refine C.jn (fun (x60:Bool)=>[(1,.i c),(2,.i x_1),(3,.i delay),(4,.i tick),(8,.p 0 0),(17,.b x5),(19,.i x39),(20,.p 1 0),(21,.p 2 0),(127,.b x60)]) (fun x60=>[(0,.box (Q0 s_1)),(1,.box (Q0 x47)),(2,.box [.i x48.1,.o 3,.o 4,.o 5,.sl 1 eI x48.2.2.2.2.1,.o 6]),(3,.val (.os 1 eI x48.2.1)),(4,.val (.os 6 Q2 ((x48.2.2.1.set (Int.toNat 0) ({Cell:=x54.Cell,Load:=x54.Load,Charge:=x54.Charge,Rest:=rest,Mute:=x54.Mute,Dead:=x54.Dead:ApiRobot})).set (Int.toNat 0) ({Cell:=({Cell:=x54.Cell,Load:=x54.Load,Charge:=x54.Charge,Rest:=rest,Mute:=x54.Mute,Dead:=x54.Dead:ApiRobot}).Cell,Load:=({Cell:=x54.Cell,Load:=x54.Load,Charge:=x54.Charge,Rest:=rest,Mute:=x54.Mute,Dead:=x54.Dead:ApiRobot}).Load,Charge:=({Cell:=x54.Cell,Load:=x54.Load,Charge:=x54.Charge,Rest:=rest,Mute:=x54.Mute,Dead:=x54.Dead:ApiRobot}).Charge,Rest:=({Cell:=x54.Cell,Load:=x54.Load,Charge:=x54.Charge,Rest:=rest,Mute:=x54.Mute,Dead:=x54.Dead:ApiRobot}).Rest,Mute:=mute,Dead:=({Cell:=x54.Cell,Load:=x54.Load,Charge:=x54.Charge,Rest:=rest,Mute:=x54.Mute,Dead:=x54.Dead:ApiRobot}).Dead:ApiRobot})))),(5,.val (.os 1 eI x48.2.2.2.1)),(6,.val (.os 2 Q5 x48.2.2.2.2.2))]) 7 g (fun x60 g=>?_) fun J61 g j61=>?_
 refine C.nx ?_
 refine C.ite rfl g (fun b65 g=>?_) fun b65 g=>?_
 refine C.ss (U.pd 1 T (C.nx (C.ret (C.rt ?_))))
 exact C.f1 T o (pBi g)
 refine C.skip (C.xt (U.ps 4 T rfl (U.e rfl (.none rfl) (by exact Eff.c [] (v:=false) (Xo x47 c x39 tick [] _ g) en32 rfl rfl rfl (.cons (.eq rfl) (.cons (.eq rfl) (.cons (.eq rfl) (.cons (.eq rfl) (.cons (.nil _ _ _ _ ⟨rfl,rfl⟩) .nil))))) trivial rfl rfl rfl rfl rfl rfl (fun h=>by cases h) (.inr ⟨rfl,rfl⟩) (fun _=>rfl) (fun _=>rfl) rfl) (fun x70' g=>?_))))
 obtain⟨x70⟩:=x70'
 refine U.al T ?_
 refine U.st T ?_
 refine U.done (C.xt (U.ps 3 T rfl ?_))
 obtain⟨x73,y73,g⟩:=g
 refine U.r rfl (.none rfl) rfl rfl (by exact Rd.io T rfl rfl rfl rfl rfl rfl rfl y73) ?_
 refine U.ps 1 T rfl (U.e1 rfl (.none rfl) (by exact Eff1.se T (z':=({Cell:=x73.Cell,Load:=x73.Load,Charge:=x73.Charge,Rest:=delay,Mute:=x73.Mute,Dead:=x73.Dead:ApiRobot})) rfl rfl rfl (Q6 y73).2.2 rfl rfl rfl rfl rfl rfl rfl rfl (fun _=>rfl) rfl) ?_)
 refine U.done (C.xs (C.seq ?_))
 refine C.jn (fun (x74:Bool)=>[(2,.i x_1),(17,.b x5),(20,.p 0 0),(21,.p 1 0),(24,.p 6 0),(146,.b x74)]) (fun x74=>[(0,.box (Q0 x47)),(1,.box [.i x48.1,.o 2,.o 3,.o 4,.sl 1 eI x48.2.2.2.2.1,.o 5]),(2,.val (.os 1 eI x48.2.1)),(3,.val (.os 6 Q2 ((x48.2.2.1.set (Int.toNat 0) ({Cell:=x54.Cell,Load:=x54.Load,Charge:=x54.Charge,Rest:=rest,Mute:=x54.Mute,Dead:=x54.Dead:ApiRobot})).set (Int.toNat 0) ({Cell:=({Cell:=x54.Cell,Load:=x54.Load,Charge:=x54.Charge,Rest:=rest,Mute:=x54.Mute,Dead:=x54.Dead:ApiRobot}).Cell,Load:=({Cell:=x54.Cell,Load:=x54.Load,Charge:=x54.Charge,Rest:=rest,Mute:=x54.Mute,Dead:=x54.Dead:ApiRobot}).Load,Charge:=({Cell:=x54.Cell,Load:=x54.Load,Charge:=x54.Charge,Rest:=rest,Mute:=x54.Mute,Dead:=x54.Dead:ApiRobot}).Charge,Rest:=({Cell:=x54.Cell,Load:=x54.Load,Charge:=x54.Charge,Rest:=rest,Mute:=x54.Mute,Dead:=x54.Dead:ApiRobot}).Rest,Mute:=mute,Dead:=({Cell:=x54.Cell,Load:=x54.Load,Charge:=x54.Charge,Rest:=rest,Mute:=x54.Mute,Dead:=x54.Dead:ApiRobot}).Dead:ApiRobot})))),(4,.val (.os 1 eI x48.2.2.2.1)),(5,.val (.os 2 Q5 x48.2.2.2.2.2)),(6,.box [.i x70.Tick,.o 7,.o 8,.o 9,.sl 1 eI x70.Dead,.o 10]),(7,.val (.os 1 eI x70.Shelves)),(8,.val (.os 6 Q2 (x70.Robots.set (Int.toNat 0) ({Cell:=x73.Cell,Load:=x73.Load,Charge:=x73.Charge,Rest:=delay,Mute:=x73.Mute,Dead:=x73.Dead:ApiRobot})))),(9,.val (.os 1 eI x70.People)),(10,.val (.os 2 Q5 x70.Stuck))]) 11 g (fun x74 g=>?_) fun J75 g j75=>?_
 refine C.nx ?_
 refine C.jn (fun (x78:List Int)=>[(17,.b x5),(20,.p 0 0),(21,.p 1 0),(24,.p 6 0)]) (fun x78=>[(0,.box (Q0 x47)),(1,.box [.i x48.1,.o 2,.o 3,.o 4,.sl 1 eI x78,.o 5]),(2,.val (.os 1 eI x48.2.1)),(3,.val (.os 6 Q2 ((x48.2.2.1.set (Int.toNat 0) ({Cell:=x54.Cell,Load:=x54.Load,Charge:=x54.Charge,Rest:=rest,Mute:=x54.Mute,Dead:=x54.Dead:ApiRobot})).set (Int.toNat 0) ({Cell:=({Cell:=x54.Cell,Load:=x54.Load,Charge:=x54.Charge,Rest:=rest,Mute:=x54.Mute,Dead:=x54.Dead:ApiRobot}).Cell,Load:=({Cell:=x54.Cell,Load:=x54.Load,Charge:=x54.Charge,Rest:=rest,Mute:=x54.Mute,Dead:=x54.Dead:ApiRobot}).Load,Charge:=({Cell:=x54.Cell,Load:=x54.Load,Charge:=x54.Charge,Rest:=rest,Mute:=x54.Mute,Dead:=x54.Dead:ApiRobot}).Charge,Rest:=({Cell:=x54.Cell,Load:=x54.Load,Charge:=x54.Charge,Rest:=rest,Mute:=x54.Mute,Dead:=x54.Dead:ApiRobot}).Rest,Mute:=mute,Dead:=({Cell:=x54.Cell,Load:=x54.Load,Charge:=x54.Charge,Rest:=rest,Mute:=x54.Mute,Dead:=x54.Dead:ApiRobot}).Dead:ApiRobot})))),(4,.val (.os 1 eI x48.2.2.2.1)),(5,.val (.os 2 Q5 x48.2.2.2.2.2)),(6,.box [.i x70.Tick,.o 7,.o 8,.o 9,.sl 1 eI x70.Dead,.o 10]),(7,.val (.os 1 eI x70.Shelves)),(8,.val (.os 6 Q2 (x70.Robots.set (Int.toNat 0) ({Cell:=x73.Cell,Load:=x73.Load,Charge:=x73.Charge,Rest:=delay,Mute:=x73.Mute,Dead:=x73.Dead:ApiRobot})))),(9,.val (.os 1 eI x70.People)),(10,.val (.os 2 Q5 x70.Stuck))]) 11 g (fun x78 g=>?_) fun J79 g j79=>?_
 refine C.xs ?_
 refine C.jn (fun (x83:Bool)=>[(16,.b x83)]) (fun x83=>[]) 0 g (fun x83 g=>?_) fun J84 g j84=>?_
 refine C.nx (C.ret ?_)
 exact C.f1 T o (pBi g)
 refine U.start (U.ps 2 T rfl ?_)
 refine g.cs (fun b85 g=>?_) fun b85 g=>?_
 refine U.pq 2 1 true 151 b85 T ?_
 refine U.k (W6 x47 ({Tick:=x48.1,Shelves:=x48.2.1,Robots:=((x48.2.2.1.set (Int.toNat 0) ({Cell:=x54.Cell,Load:=x54.Load,Charge:=x54.Charge,Rest:=rest,Mute:=x54.Mute,Dead:=x54.Dead:ApiRobot})).set (Int.toNat 0) ({Cell:=({Cell:=x54.Cell,Load:=x54.Load,Charge:=x54.Charge,Rest:=rest,Mute:=x54.Mute,Dead:=x54.Dead:ApiRobot}).Cell,Load:=({Cell:=x54.Cell,Load:=x54.Load,Charge:=x54.Charge,Rest:=rest,Mute:=x54.Mute,Dead:=x54.Dead:ApiRobot}).Load,Charge:=({Cell:=x54.Cell,Load:=x54.Load,Charge:=x54.Charge,Rest:=rest,Mute:=x54.Mute,Dead:=x54.Dead:ApiRobot}).Charge,Rest:=({Cell:=x54.Cell,Load:=x54.Load,Charge:=x54.Charge,Rest:=rest,Mute:=x54.Mute,Dead:=x54.Dead:ApiRobot}).Rest,Mute:=mute,Dead:=({Cell:=x54.Cell,Load:=x54.Load,Charge:=x54.Charge,Rest:=rest,Mute:=x54.Mute,Dead:=x54.Dead:ApiRobot}).Dead:ApiRobot})),People:=x48.2.2.2.1,Dead:=x78,Stuck:=x48.2.2.2.2.2:ApiState}) _ g) en34 (fun x86 g=>?_) (hw:=.take 1 true 151 _ b85 rfl rfl rfl)
 refine U.pk b85 ?_
 refine U.ps 1 T rfl ?_
 refine g.cs (fun b87 g=>?_) fun b87 g=>?_
 refine U.pq 2 6 true 156 b87 T ?_
 refine U.k (W6 x47 ({Tick:=x70.Tick,Shelves:=x70.Shelves,Robots:=(x70.Robots.set (Int.toNat 0) ({Cell:=x73.Cell,Load:=x73.Load,Charge:=x73.Charge,Rest:=delay,Mute:=x73.Mute,Dead:=x73.Dead:ApiRobot})),People:=x70.People,Dead:=x70.Dead,Stuck:=x70.Stuck:ApiState}) _ g) en34 (fun x88 g=>?_) (hw:=.take 6 true 156 _ b87 rfl rfl rfl)
 refine U.pk b87 ?_
 refine U.pd 1 T ?_
 exact St.wn (j84 _ g)
 refine U.sk' 3 6 true 156 b87 ?_
 refine U.pk' b87 ?_
 refine U.pd 1 T ?_
 exact St.wn (j84 _ g)
 refine U.sk' 3 1 true 151 b85 ?_
 refine U.pk' b85 ?_
 refine U.ps 1 T rfl (U.sk' 3 6 true 156 rfl ?_)
 refine U.pk' rfl ?_
 refine U.pd 1 T ?_
 exact St.wn (j84 _ g)
 refine C.ite rfl g (fun b80 g=>?_) fun b80 g=>?_
 refine U.start (U.ps 1 T rfl (U.bs T eI ([x_1]:List Int) ?_))
 refine U.ps 1 T rfl (U.st T ?_)
 refine U.done ?_
 exact St.wk (j79 _ g) (Wk.mk' [some 0,some 1,some 2,some 3,some 4,some 5,some 6,some 7,some 8,some 9,some 10] rfl rfl (.eqs rfl) ⟨bX,⟨_,rfl,.box rfl (.cons (.eq rfl) (.cons (.eq rfl) (.cons (.eq rfl) (.cons (.eq rfl) (.cons (.fz rfl rfl rfl (.os fun _=>.cons (.ro rfl) .nil)) (.eq rfl))))))⟩,vL,vL,vL,vL,bX,vL,vL,vL,vL,trivial⟩ rfl)
 refine C.skip ?_
 exact St.wa (idR 11) (j79 _ g)
 refine U.start (U.ps 4 T rfl ?_)
 refine g.cs (fun b76 g=>?_) fun b76 g=>?_
 refine U.pq 3 3 true 141 b76 T ?_
 refine U.k (Q0V s_1.Floor x_1 _ g) en33 (fun x77 g=>?_) (hw:=.take 3 true 141 _ b76 rfl rfl rfl)
 refine U.pk b76 ?_
 refine U.done ?_
 exact St.wa [some 1,some 2,some 3,some 4,some 5,some 6,some 11,some 7,some 8,some 9,some 10] (j75 _ g)
 refine U.sk' 4 3 true 141 b76 ?_
 refine U.pk' b76 ?_
 refine U.done ?_
 exact St.wa [some 1,some 2,some 3,some 4,some 5,some 6,some 11,some 7,some 8,some 9,some 10] (j75 _ g)
 refine U.start (U.ps 3 T rfl ?_)
 refine g.cs (fun b62 g=>?_) fun b62 g=>?_
 refine U.pq 2 2 false 118 (ntF b62) T ?_
 refine U.pk' (ntF b62) ?_
 refine U.ps 1 T rfl ?_
 refine g.cs (fun b63 g=>?_) fun b63 g=>?_
 refine U.sk' 4 6 false 122 b63 ?_
 refine U.pk b63 ?_
 refine U.done ?_
 exact St.wa (idR 7) (j61 _ g)
 refine U.pq 2 6 false 122 b63 T ?_
 refine U.k (Q3L x47 ({Tick:=x48.1,Shelves:=x48.2.1,Robots:=((x48.2.2.1.set (Int.toNat 0) ({Cell:=x54.Cell,Load:=x54.Load,Charge:=x54.Charge,Rest:=rest,Mute:=x54.Mute,Dead:=x54.Dead:ApiRobot})).set (Int.toNat 0) ({Cell:=({Cell:=x54.Cell,Load:=x54.Load,Charge:=x54.Charge,Rest:=rest,Mute:=x54.Mute,Dead:=x54.Dead:ApiRobot}).Cell,Load:=({Cell:=x54.Cell,Load:=x54.Load,Charge:=x54.Charge,Rest:=rest,Mute:=x54.Mute,Dead:=x54.Dead:ApiRobot}).Load,Charge:=({Cell:=x54.Cell,Load:=x54.Load,Charge:=x54.Charge,Rest:=rest,Mute:=x54.Mute,Dead:=x54.Dead:ApiRobot}).Charge,Rest:=({Cell:=x54.Cell,Load:=x54.Load,Charge:=x54.Charge,Rest:=rest,Mute:=x54.Mute,Dead:=x54.Dead:ApiRobot}).Rest,Mute:=mute,Dead:=({Cell:=x54.Cell,Load:=x54.Load,Charge:=x54.Charge,Rest:=rest,Mute:=x54.Mute,Dead:=x54.Dead:ApiRobot}).Dead:ApiRobot})),People:=x48.2.2.2.1,Dead:=x48.2.2.2.2.1,Stuck:=x48.2.2.2.2.2:ApiState}) _ g) en9 (fun x64 g=>?_) (hw:=.take 6 false 122 _ b63 rfl rfl rfl)
 refine U.pq 1 6 false 122 b63 T ?_
 refine U.pk' b63 ?_
 refine U.done ?_
 exact St.wa (idR 7) (j61 _ g)
 refine U.sk' 2 2 false 118 (ntT b62) ?_
 refine U.pk (ntT b62) ?_
 refine U.ps 1 T rfl (U.sk' 4 6 false 122 rfl ?_)
 refine U.pk rfl ?_
 refine U.done ?_
 exact St.wa (idR 7) (j61 _ g)
 refine St.wk (Γ':=[(1,.i c),(2,.i x_1),(3,.i delay),(4,.i tick),(5,.i rest),(6,.i mute),(7,.b laden),(8,.p 0 0),(17,.b x5),(19,.i x39),(20,.p 1 0),(77,.agg (Q0 s_1)),(78,.i c),(79,.i delay),(80,.i x39),(81,.i x39),(82,.b (decide (x39<0))),(84,.agg (Q0 s_1)),(85,.i c),(86,.b laden),(87,.agg (Q0 x47))]) (H':=[(0,.box (Q0 s_1)),(1,.box (Q0 x47))]) (nl':=2) ?_ (Wk.mk' [some 0,some 5] rfl rfl ⟨⟨_,rfl,(.eq rfl)⟩,⟨_,rfl,(.eq rfl)⟩,⟨_,rfl,(.eq rfl)⟩,⟨_,rfl,(.eq rfl)⟩,⟨_,rfl,(.eq rfl)⟩,⟨_,rfl,(.eq rfl)⟩,⟨_,rfl,(.eq rfl)⟩,⟨_,rfl,(.eq rfl)⟩,⟨_,rfl,(.eq rfl)⟩,⟨_,rfl,(.eq rfl)⟩,⟨_,rfl,(.eq rfl)⟩,⟨_,rfl,(.eq rfl)⟩,⟨_,rfl,(.eq rfl)⟩,⟨_,rfl,(.eq rfl)⟩,⟨_,rfl,(.eq rfl)⟩,⟨_,rfl,(.eq rfl)⟩,⟨_,rfl,(.eq rfl)⟩,⟨_,rfl,(.eq rfl)⟩,⟨_,rfl,(.eq rfl)⟩,⟨_,rfl,(.eq rfl)⟩,⟨_,rfl,(.agg (.cons (.eq rfl) (.cons (.eq rfl) (.cons (.eq rfl) (.cons (.eq rfl) (.cons (.eq rfl) (.cons (.fz rfl rfl rfl (.os fun _=>.cons (.ro rfl) (.cons (.ro rfl) (.cons (.ro rfl) (.cons (.ro rfl) (.cons (.ro rfl) .nil)))))) (.cons (.fz rfl rfl rfl (.os fun _=>.cons (.ro rfl) (.cons (.ro rfl) .nil))) (.cons (.fz rfl rfl rfl (.os fun _=>.cons (.ro rfl) (.cons (.ro rfl) .nil))) (.cons (.fz rfl rfl rfl (.os fun _=>.cons (.ro rfl) (.cons (.ro rfl) .nil))) .nil))))))))))⟩,trivial⟩ ⟨bX,⟨_,rfl,.box rfl (.cons (.eq rfl) (.cons (.eq rfl) (.cons (.eq rfl) (.cons (.eq rfl) (.cons (.eq rfl) (.cons (.fz rfl rfl rfl (.os fun _=>.cons (.ro rfl) (.cons (.ro rfl) (.cons (.ro rfl) (.cons (.ro rfl) (.cons (.ro rfl) .nil)))))) (.cons (.fz rfl rfl rfl (.os fun _=>.cons (.ro rfl) (.cons (.ro rfl) .nil))) (.cons (.fz rfl rfl rfl (.os fun _=>.cons (.ro rfl) (.cons (.ro rfl) .nil))) (.cons (.fz rfl rfl rfl (.os fun _=>.cons (.ro rfl) (.cons (.ro rfl) .nil))) .nil)))))))))⟩,trivial⟩ rfl)
 refine D.bq mix 12 [1] [] (fun hQ hS ws M'=>?_)
 refine D.pq 7 (zl [0,1,2,3,4,5,9]) T ?_
 refine D.two 6 11 (by kernel_rfl) ?_ ?_
 refine D.ef rfl (.none rfl) (by exact Eff.k (KY _ g) en14 rfl rfl rfl (.eq rfl) (fun _ _=>⟨(.v _),trivial⟩)) rfl rfl (fun x50' g=>?_)
 obtain⟨x50⟩:=x50'
 refine D.pq 2 (zl [7,8]) T ?_
 refine D.two 10 11 (by kernel_rfl) ?_ ?_
 refine D.ef rfl (.none rfl) (by exact Eff.c [] (v:=false) (Xo x47 c (w64 (x39+(w64 ((w64 (rest+mute))*x50)))) tick [] _ g) en32 rfl rfl rfl (.cons (.eq rfl) (.cons (.eq rfl) (.cons (.eq rfl) (.cons (.eq rfl) (.cons (.nil _ _ _ _ ⟨rfl,rfl⟩) .nil))))) trivial rfl rfl rfl rfl rfl rfl (fun h=>by cases h) (.inr ⟨rfl,rfl⟩) (fun _=>rfl) (fun _=>rfl) rfl) rfl rfl (fun x51' g=>?_)
 obtain⟨x51⟩:=x51'
 refine D.e1 11 rfl (.none rfl) (by exact Eff1.al T rfl rfl rfl rfl) (by kernel_rfl) rfl rfl ?_
 refine D.ze1 rfl (.none rfl) (by exact Eff1.st T rfl rfl rfl rfl rfl rfl rfl rfl rfl rfl) (by kernel_rfl) (by kernel_rfl) ?_
 exact St.wa [some 0,some 1,some 6,some 2,some 3,some 4,some 5] (j49 _ g)
 refine D.ef1 rfl (.none rfl) (by exact Eff1.al T rfl rfl rfl rfl) rfl rfl ?_
 refine D.e 10 rfl (.none rfl) (by exact Eff.c [] (v:=false) (Xo x47 c (w64 (x39+(w64 ((w64 (rest+mute))*x50)))) tick [] _ g) en32 rfl rfl rfl (.cons (.eq rfl) (.cons (.eq rfl) (.cons (.eq rfl) (.cons (.eq rfl) (.cons (.nil _ _ _ _ ⟨rfl,rfl⟩) .nil))))) trivial rfl rfl rfl rfl rfl rfl (fun h=>by cases h) (.inr ⟨rfl,rfl⟩) (fun _=>rfl) (fun _=>rfl) rfl) (by kernel_rfl) rfl rfl (fun x51' g=>?_)
 obtain⟨x51⟩:=x51'
 refine D.ze1 rfl (.none rfl) (by exact Eff1.st T rfl rfl rfl rfl rfl rfl rfl rfl rfl rfl) (by kernel_rfl) (by kernel_rfl) ?_
 exact St.wa (idR 7) (j49 _ g)
 refine D.ef1 rfl (.none rfl) (by exact Eff1.al T rfl rfl rfl rfl) rfl rfl ?_
 refine D.k 6 (KY _ g) en14 fun x50 g=>?_
 refine D.pq 2 (zl [7,8]) T ?_
 refine D.e 10 rfl (.none rfl) (by exact Eff.c [] (v:=false) (Xo x47 c (w64 (x39+(w64 ((w64 (rest+mute))*x50)))) tick [] _ g) en32 rfl rfl rfl (.cons (.eq rfl) (.cons (.eq rfl) (.cons (.eq rfl) (.cons (.eq rfl) (.cons (.nil _ _ _ _ ⟨rfl,rfl⟩) .nil))))) trivial rfl rfl rfl rfl rfl rfl (fun h=>by cases h) (.inr ⟨rfl,rfl⟩) (fun _=>rfl) (fun _=>rfl) rfl) (by kernel_rfl) rfl rfl (fun x51' g=>?_)
 obtain⟨x51⟩:=x51'
 refine D.ze1 rfl (.none rfl) (by exact Eff1.st T rfl rfl rfl rfl rfl rfl rfl rfl rfl rfl) (by kernel_rfl) (by kernel_rfl) ?_
 exact St.wa (idR 7) (j49 _ g)
 refine C.block (St.wk (C.loop (fun (s24:Int)=>[(1,.i c),(2,.i x_1),(3,.i delay),(4,.i tick),(5,.i rest),(6,.i mute),(7,.b laden),(8,.p 0 0),(17,.b x5),(18,.i s24)]) (fun s24=>[(0,.box (Q0 s_1))]) g (fun s24 Y25 g=>?_)) (Wk.a [some 0]))
 refine C.seq (C.ss (U.pd 5 T (C.nx ?_)))
 refine C.ite rfl g (fun b28 g=>?_) fun b28 g=>?_
 refine C.skip (C.xs (C.block (C.ss (U.ps 3 T rfl ?_))))
 obtain⟨x31,y31,g⟩:=g
 refine U.ix T y31 ?_
 refine U.pd 3 T (C.nx ?_)
 refine C.ite rfl g (fun b32 g=>?_) fun b32 g=>?_
 refine C.ss (U.pd 2 T (C.nx (C.ret (C.brt (C.rt (C.rt (C.brt (C.rt ?_))))))))
 exact C.f1 T o (pBi g)
 refine C.skip (C.bnx (C.nx (U.start (U.pd 3 T (C.nx ?_)))))
 exact St.wk (C.next g) (Wk.a [some 0])
 refine C.exit (C.ex (C.ex (C.bex ?_)))
 exact St.wa [some 0] (j23 _ g)
 refine U.start (U.ps 1 T rfl (U.k (ZS s_1 24 _ g) en7 (fun x8 g=>?_)))
 refine U.ps 2 T rfl ?_
 refine g.cs (fun b9 g=>?_) fun b9 g=>?_
 refine U.pq 2 3 false 29 (ntF b9) T ?_
 refine U.pk' (ntF b9) ?_
 refine U.ps 1 T rfl ?_
 refine g.cs (fun b10 g=>?_) fun b10 g=>?_
 refine U.sk' 2 7 false 33 b10 ?_
 refine U.pk b10 ?_
 refine U.ps 1 T rfl (U.sk' 2 11 false 37 rfl ?_)
 refine U.pk rfl ?_
 refine U.ps 1 T rfl (U.sk' 2 15 false 41 rfl ?_)
 refine U.pk rfl ?_
 refine U.ps 1 T rfl (U.sk' 2 19 false 45 rfl ?_)
 refine U.pk rfl ?_
 refine U.ps 1 T rfl (U.sk' 2 23 false 49 rfl ?_)
 refine U.pk rfl ?_
 refine U.ps 1 T rfl (U.sk' 2 27 false 53 rfl ?_)
 refine U.pk rfl ?_
 refine U.ps 1 T rfl (U.sk' 2 31 false 57 rfl ?_)
 refine U.pk rfl ?_
 refine U.done ?_
 exact St.wa [some 0] (j7 _ g)
 refine U.pq 2 7 false 33 b10 T ?_
 refine U.pk' b10 ?_
 refine U.ps 1 T rfl ?_
 refine g.cs (fun b11 g=>?_) fun b11 g=>?_
 refine U.sk' 2 11 false 37 b11 ?_
 refine U.pk b11 ?_
 refine U.ps 1 T rfl (U.sk' 2 15 false 41 rfl ?_)
 refine U.pk rfl ?_
 refine U.ps 1 T rfl (U.sk' 2 19 false 45 rfl ?_)
 refine U.pk rfl ?_
 refine U.ps 1 T rfl (U.sk' 2 23 false 49 rfl ?_)
 refine U.pk rfl ?_
 refine U.ps 1 T rfl (U.sk' 2 27 false 53 rfl ?_)
 refine U.pk rfl ?_
 refine U.ps 1 T rfl (U.sk' 2 31 false 57 rfl ?_)
 refine U.pk rfl ?_
 refine U.done ?_
 exact St.wa [some 0] (j7 _ g)
 refine U.pq 2 11 false 37 b11 T ?_
 refine U.pk' b11 ?_
 refine U.ps 1 T rfl ?_
 refine g.cs (fun b12 g=>?_) fun b12 g=>?_
 refine U.sk' 2 15 false 41 b12 ?_
 refine U.pk b12 ?_
 refine U.ps 1 T rfl (U.sk' 2 19 false 45 rfl ?_)
 refine U.pk rfl ?_
 refine U.ps 1 T rfl (U.sk' 2 23 false 49 rfl ?_)
 refine U.pk rfl ?_
 refine U.ps 1 T rfl (U.sk' 2 27 false 53 rfl ?_)
 refine U.pk rfl ?_
 refine U.ps 1 T rfl (U.sk' 2 31 false 57 rfl ?_)
 refine U.pk rfl ?_
 refine U.done ?_
 exact St.wa [some 0] (j7 _ g)
 refine U.pq 2 15 false 41 b12 T ?_
 refine U.pk' b12 ?_
 refine U.ps 1 T rfl ?_
 refine g.cs (fun b13 g=>?_) fun b13 g=>?_
 refine U.sk' 2 19 false 45 b13 ?_
 refine U.pk b13 ?_
 refine U.ps 1 T rfl (U.sk' 2 23 false 49 rfl ?_)
 refine U.pk rfl ?_
 refine U.ps 1 T rfl (U.sk' 2 27 false 53 rfl ?_)
 refine U.pk rfl ?_
 refine U.ps 1 T rfl (U.sk' 2 31 false 57 rfl ?_)
 refine U.pk rfl ?_
 refine U.done ?_
 exact St.wa [some 0] (j7 _ g)
 refine U.pq 2 19 false 45 b13 T ?_
 refine U.pk' b13 ?_
 refine U.ps 1 T rfl ?_
 refine g.cs (fun b14 g=>?_) fun b14 g=>?_
 refine U.sk' 2 23 false 49 b14 ?_
 refine U.pk b14 ?_
 refine U.ps 1 T rfl (U.sk' 2 27 false 53 rfl ?_)
 refine U.pk rfl ?_
 refine U.ps 1 T rfl (U.sk' 2 31 false 57 rfl ?_)
 refine U.pk rfl ?_
 refine U.done ?_
 exact St.wa [some 0] (j7 _ g)
 refine U.pq 2 23 false 49 b14 T ?_
 refine U.pk' b14 ?_
 refine U.ps 1 T rfl ?_
 refine g.cs (fun b15 g=>?_) fun b15 g=>?_
 refine U.sk' 2 27 false 53 b15 ?_
 refine U.pk b15 ?_
 refine U.ps 1 T rfl (U.sk' 2 31 false 57 rfl ?_)
 refine U.pk rfl ?_
 refine U.done ?_
 exact St.wa [some 0] (j7 _ g)
 refine U.pq 2 27 false 53 b15 T ?_
 refine U.pk' b15 ?_
 refine U.ps 1 T rfl ?_
 refine g.cs (fun b16 g=>?_) fun b16 g=>?_
 refine U.sk' 2 31 false 57 b16 ?_
 refine U.pk b16 ?_
 refine U.done ?_
 exact St.wa [some 0] (j7 _ g)
 refine U.pq 2 31 false 57 b16 T ?_
 refine U.pk' b16 ?_
 refine U.done ?_
 exact St.wa [some 0] (j7 _ g)
 refine U.sk' 2 3 false 29 (ntT b9) ?_
 refine U.pk (ntT b9) ?_
 refine U.ps 1 T rfl (U.sk' 2 7 false 33 rfl ?_)
 refine U.pk rfl ?_
 refine U.ps 1 T rfl (U.sk' 2 11 false 37 rfl ?_)
 refine U.pk rfl ?_
 refine U.ps 1 T rfl (U.sk' 2 15 false 41 rfl ?_)
 refine U.pk rfl ?_
 refine U.ps 1 T rfl (U.sk' 2 19 false 45 rfl ?_)
 refine U.pk rfl ?_
 refine U.ps 1 T rfl (U.sk' 2 23 false 49 rfl ?_)
 refine U.pk rfl ?_
 refine U.ps 1 T rfl (U.sk' 2 27 false 53 rfl ?_)
 refine U.pk rfl ?_
 refine U.ps 1 T rfl (U.sk' 2 31 false 57 rfl ?_)
 refine U.pk rfl ?_
 refine U.done ?_
 exact St.wa [some 0] (j7 _ g)
end Go.Proofs.YtdcfcldpjfepiaaGreat
