/- The walks: each Go function does what its verification condition says (written by a program of the prover). -/
import Derived.Test.YtbpbennpgnjbkaaGreatW1
import Derived.KernelRfl
set_option maxRecDepth 100000
set_option maxHeartbeats 8000000
set_option linter.unusedVariables false
set_option linter.unusedSimpArgs false
namespace Go.Proofs.YtbpbennpgnjbkaaGreat
open Go Go.Taq
theorem Q0a (s_1:ApiSite) (post:Int→Prop) (g:KY s_1 post):
  Tr Tryz.prog 94 [.agg (Q2 s_1)] [] 0 (pI post):=by
 refine Tr.go Tryz.func94 Tryz.ntmps94 fun _ _ _ _ o=>?_
 unfold KY at g
 refine C.ss (U.bx ?_)
 refine U.pd 1 T (C.xs (C.ss ?_))
 refine U.pd 1 T (C.nx ?_)
 refine C.jn (fun (x5:Unit)=>[]) (fun x5=>[]) 0 g (fun x5 g=>?_) fun J6 g j6=>?_
 refine C.xt (U.pd 1 T (C.nx (C.ret ?_)))
 exact C.f1 T o (pIi g)
 refine C.block (St.wk (C.loop (fun (s7:Int)=>[(1,.p 0 0),(3,.i s7)]) (fun s7=>[(0,.box (Q2 s_1))]) g (fun s7 Y8 g=>?_)) (Wk.a [some 0]))
 refine C.seq (C.ss (U.pd 5 T (C.nx ?_)))
 refine C.ite rfl g (fun b11 g=>?_) fun b11 g=>?_
 refine C.skip (C.xs ?_)
 refine C.jn (fun (x12:Unit)=>[(1,.p 0 0),(3,.i s7)]) (fun x12=>[(0,.box (Q2 s_1))]) 1 g (fun x12 g=>?_) fun J13 g j13=>?_
 refine C.nx (U.start (U.pd 3 T (C.nx ?_)))
 exact St.wk (C.next g) (Wk.a [some 0])
 refine C.block (C.ss (U.pd 1 T (C.nx ?_)))
 refine C.jn (fun (x16:Unit)=>[(1,.p 0 0),(3,.i s7)]) (fun x16=>[(0,.box (Q2 s_1))]) 1 g (fun x16 g=>?_) fun J17 g j17=>?_
 refine C.bnx ?_
 exact St.wa [some 0] (j13 _ g)
 refine C.block (St.wk (C.loop (fun (s18:Int)=>[(1,.p 0 0),(3,.i s7),(4,.i s18)]) (fun s18=>[(0,.box (Q2 s_1))]) g (fun s18 Y19 g=>?_)) (Wk.a [some 0]))
 refine C.seq (C.ss (U.pd 2 T (C.nx ?_)))
 refine C.ite rfl g (fun b22 g=>?_) fun b22 g=>?_
 refine C.skip (C.xs (C.block (C.seq (D.bq mix 9999 [0] [] (fun hQ hS ws M'=>?_)))))
 refine D.pq 5 (zl [0,1,2,3,4]) T ?_
 obtain⟨x25,y25,g⟩:=g
 refine D.ix 5 [] T y25 ?_
 refine D.pq 3 (zl [6,7,8]) T ?_
 refine D.k 9 (GR s_1.Floor x25.Cell s18 _ g) Q9d fun x26 g=>?_
 refine D.pq 1 [(10,[])] T ?_
 refine D.done (by kernel_rfl) ?_
 refine C.xt (U.ps 3 T rfl (U.k (Gu s_1.Shelves x26 _ g) en91 (fun x29 g=>?_)))
 refine U.pd 1 T (C.xs ?_)
 refine C.jn (fun (x30:Bool)=>[(1,.p 0 0),(3,.i s7),(4,.i s18),(60,.b x30)]) (fun x30=>[(0,.box (Q2 s_1))]) 1 g (fun x30 g=>?_) fun J31 g j31=>?_
 refine C.nx ?_
 refine C.ite rfl g (fun b37 g=>?_) fun b37 g=>?_
 refine C.ss (U.pd 2 T (C.nx (C.ret (C.brt (C.rt (C.rt (C.brt (C.brt (C.rt (C.rt (C.brt (C.rt ?_))))))))))))
 exact C.f1 T o (pIi g)
 refine C.skip (C.bnx (C.nx (U.start (U.pd 3 T (C.nx ?_)))))
 exact St.wk (C.next g) (Wk.a [some 0])
 refine D.bq mix 9999 [0] [] (fun hQ hS ws M'=>?_)
 refine D.pq 3 (zl [0,1,2]) T ?_
 refine g.cs (fun b32 g=>?_) fun b32 g=>?_
 refine D.pt 3 [] 2 true 34 b32 T ?_
 refine D.pt 4 [] 2 true 34 b32 T ?_
 refine D.kt 5 [] b32 ?_
 refine D.pq 1 [(6,[])] T ?_
 refine g.cs (fun b33 g=>?_) fun b33 g=>?_
 refine D.pt 7 [] 6 true 38 b33 T ?_
 refine D.pt 8 [] 6 true 38 b33 T ?_
 refine D.pt 9 [] 6 true 38 b33 T ?_
 refine D.kt 10 [] b33 ?_
 refine D.pq 1 [(11,[])] T ?_
 refine g.cs (fun b34 g=>?_) fun b34 g=>?_
 refine D.pt 12 [] 11 true 43 b34 T ?_
 refine D.q 13 [] hQ hS rfl (.tk 11 true 43 b34) rfl rfl (by exact Rd.l T rfl rfl rfl) rfl (by kernel_rfl) ?_
 refine D.pt 14 [] 11 true 43 b34 T ?_
 refine D.q 15 [] hQ hS rfl (.tk 11 true 43 b34) rfl rfl (by exact Rd.l T rfl rfl rfl) rfl (by kernel_rfl) ?_
 refine D.pt 16 [] 11 true 43 b34 T ?_
 refine D.q 17 [] hQ hS rfl (.tk 11 true 43 b34) rfl rfl (by exact Rd.ix T rfl rfl rfl rfl rfl rfl y25) rfl (by kernel_rfl) ?_
 refine D.pt 18 [] 11 true 43 b34 T ?_
 refine D.q 19 [] hQ hS rfl (.tk 11 true 43 b34) rfl rfl (by exact Rd.l T rfl rfl rfl) rfl (by kernel_rfl) ?_
 refine D.pt 20 [] 11 true 43 b34 T ?_
 refine D.q 21 [] hQ hS rfl (.tk 11 true 43 b34) rfl rfl (by exact Rd.l T rfl rfl rfl) rfl (by kernel_rfl) ?_
 refine D.pt 22 [] 11 true 43 b34 T ?_
 refine D.pt 23 [] 11 true 43 b34 T ?_
 obtain⟨x35,y35,g⟩:=g
 refine D.q 24 [] hQ hS rfl (.tk 11 true 43 b34) rfl rfl (by exact Rd.ix T rfl rfl rfl rfl rfl rfl y35) rfl (by kernel_rfl) ?_
 refine D.pt 25 [] 11 true 43 b34 T ?_
 refine D.q 26 [] hQ hS rfl (.tk 11 true 43 b34) rfl rfl (by exact Rd.l T rfl rfl rfl) rfl (by kernel_rfl) ?_
 refine D.k 27 (Yd s_1.Aparts x25.Class x35.Class _ g) en88 (fun x36 g=>?_) (hw:=.take 11 true 43 _ b34 rfl rfl rfl)
 refine D.kt 28 [] b34 ?_
 refine D.done (by kernel_rfl) ?_
 exact St.wa [some 0] (j31 _ g)
 refine D.sz 12 [] 11 true 43 b34 ?_
 refine D.sz 13 [] 11 true 43 b34 ?_
 refine D.sz 14 [] 11 true 43 b34 ?_
 refine D.sz 15 [] 11 true 43 b34 ?_
 refine D.sz 16 [] 11 true 43 b34 ?_
 refine D.sz 17 [] 11 true 43 b34 ?_
 refine D.sz 18 [] 11 true 43 b34 ?_
 refine D.sz 19 [] 11 true 43 b34 ?_
 refine D.sz 20 [] 11 true 43 b34 ?_
 refine D.sz 21 [] 11 true 43 b34 ?_
 refine D.sz 22 [] 11 true 43 b34 ?_
 refine D.sz 23 [] 11 true 43 b34 ?_
 refine D.sz 24 [] 11 true 43 b34 ?_
 refine D.sz 25 [] 11 true 43 b34 ?_
 refine D.sz 26 [] 11 true 43 b34 ?_
 refine D.sz 27 [] 11 true 43 b34 ?_
 refine D.kf 28 [] b34 ?_
 refine D.done (by kernel_rfl) ?_
 exact St.wa [some 0] (j31 _ g)
 refine D.sz 7 [] 6 true 38 b33 ?_
 refine D.sz 8 [] 6 true 38 b33 ?_
 refine D.sz 9 [] 6 true 38 b33 ?_
 refine D.kf 10 [] b33 ?_
 refine D.pq 1 [(11,[])] T ?_
 refine D.sz 12 [] 11 true 43 rfl ?_
 refine D.sz 13 [] 11 true 43 rfl ?_
 refine D.sz 14 [] 11 true 43 rfl ?_
 refine D.sz 15 [] 11 true 43 rfl ?_
 refine D.sz 16 [] 11 true 43 rfl ?_
 refine D.sz 17 [] 11 true 43 rfl ?_
 refine D.sz 18 [] 11 true 43 rfl ?_
 refine D.sz 19 [] 11 true 43 rfl ?_
 refine D.sz 20 [] 11 true 43 rfl ?_
 refine D.sz 21 [] 11 true 43 rfl ?_
 refine D.sz 22 [] 11 true 43 rfl ?_
 refine D.sz 23 [] 11 true 43 rfl ?_
 refine D.sz 24 [] 11 true 43 rfl ?_
 refine D.sz 25 [] 11 true 43 rfl ?_
 refine D.sz 26 [] 11 true 43 rfl ?_
 refine D.sz 27 [] 11 true 43 rfl ?_
 refine D.kf 28 [] rfl ?_
 refine D.done (by kernel_rfl) ?_
 exact St.wa [some 0] (j31 _ g)
 refine D.sz 3 [] 2 true 34 b32 ?_
 refine D.sz 4 [] 2 true 34 b32 ?_
 refine D.kf 5 [] b32 ?_
 refine D.pq 1 [(6,[])] T ?_
 refine D.sz 7 [] 6 true 38 rfl ?_
 refine D.sz 8 [] 6 true 38 rfl ?_
 refine D.sz 9 [] 6 true 38 rfl ?_
 refine D.kf 10 [] rfl ?_
 refine D.pq 1 [(11,[])] T ?_
 refine D.sz 12 [] 11 true 43 rfl ?_
 refine D.sz 13 [] 11 true 43 rfl ?_
 refine D.sz 14 [] 11 true 43 rfl ?_
 refine D.sz 15 [] 11 true 43 rfl ?_
 refine D.sz 16 [] 11 true 43 rfl ?_
 refine D.sz 17 [] 11 true 43 rfl ?_
 refine D.sz 18 [] 11 true 43 rfl ?_
 refine D.sz 19 [] 11 true 43 rfl ?_
 refine D.sz 20 [] 11 true 43 rfl ?_
 refine D.sz 21 [] 11 true 43 rfl ?_
 refine D.sz 22 [] 11 true 43 rfl ?_
 refine D.sz 23 [] 11 true 43 rfl ?_
 refine D.sz 24 [] 11 true 43 rfl ?_
 refine D.sz 25 [] 11 true 43 rfl ?_
 refine D.sz 26 [] 11 true 43 rfl ?_
 refine D.sz 27 [] 11 true 43 rfl ?_
 refine D.kf 28 [] rfl ?_
 refine D.done (by kernel_rfl) ?_
 exact St.wa [some 0] (j31 _ g)
 refine C.exit (C.ex (C.ex (C.bex ?_)))
 exact St.wa [some 0] (j17 _ g)
 refine C.exit (C.ex (C.ex (C.bex ?_)))
 exact St.wk (j6 _ g) (Wk.mk' [] rfl rfl trivial trivial rfl)
theorem ZV (f:Q6) (post:Bool→Prop) (g:KM f post):
  Tr Tryz.prog 95 [.agg (Qd f)] [] 0 (pB post):=by
 refine Tr.go Tryz.func95 Tryz.ntmps95 fun _ _ _ _ o=>?_
 unfold KM at g
 refine C.ss (U.bx ?_)
 refine U.pd 1 T (C.xt ?_)
 refine U.ps 2 T rfl (U.k (Kc f.Kind 3 _ g) en48 (fun x5 g=>?_))
 refine U.pd 1 T (C.nx (C.ret ?_))
 exact C.f1 T o (pBi g)
theorem Q0q (s_1:ApiSite) (post:Bool→Prop) (g:Xk s_1 post):
  Tr Tryz.prog 34 [.agg (Q2 s_1)] [] 0 (pB post):=by
 refine Tr.go Tryz.func34 Tryz.ntmps34 fun _ _ _ _ o=>?_
 unfold Xk at g
 refine C.ss (U.bx ?_)
 refine U.pd 1 T (C.xs (C.seq ?_))
 refine C.jn (fun (x3:Bool)=>[(1,.p 0 0),(30,.b x3)]) (fun x3=>[(0,.box (Q2 s_1))]) 1 g (fun x3 g=>?_) fun J4 g j4=>?_
 refine C.nx ?_
 refine C.ite rfl g (fun b10 g=>?_) fun b10 g=>?_
 refine C.ss (U.pd 1 T (C.nx (C.ret (C.rt ?_))))
 exact C.f1 T o (pBi g)
 refine C.skip (C.xs (C.ss (U.pd 1 T (C.nx ?_))))
 refine C.jn (fun (x15:Unit)=>[(1,.p 0 0)]) (fun x15=>[(0,.box (Q2 s_1))]) 1 g (fun x15 g=>?_) fun J16 g j16=>?_
 refine C.xs (C.ss (U.pd 1 T (C.nx ?_)))
 refine C.jn (fun (x40:Unit)=>[(1,.p 0 0)]) (fun x40=>[(0,.box (Q2 s_1))]) 1 g (fun x40 g=>?_) fun J41 g j41=>?_
 refine C.xs (C.ss (U.pd 1 T (C.nx ?_)))
 refine C.jn (fun (x73:Unit)=>[(1,.p 0 0)]) (fun x73=>[(0,.box (Q2 s_1))]) 1 g (fun x73 g=>?_) fun J74 g j74=>?_
 refine C.xs (C.ss (U.pd 1 T (C.nx ?_)))
 refine C.jn (fun (x104:Unit)=>[(1,.p 0 0)]) (fun x104=>[(0,.box (Q2 s_1))]) 1 g (fun x104 g=>?_) fun J105 g j105=>?_
 refine C.xs ?_
 refine C.jn (fun (x120:Bool)=>[(2,.b x120)]) (fun x120=>[]) 0 g (fun x120 g=>?_) fun J121 g j121=>?_
 refine C.nx (C.ret ?_)
 exact C.f1 T o (pBi g)
 refine U.start (U.ps 1 T rfl (U.k (Q0a s_1 _ g) en94 (fun x122 g=>?_)))
 refine U.ps 2 T rfl ?_
 refine g.cs (fun b123 g=>?_) fun b123 g=>?_
 refine U.pq 2 3 true 181 b123 T ?_
 refine U.k (ZV s_1.Floor _ g) en95 (fun x124 g=>?_) (hw:=.take 3 true 181 _ b123 rfl rfl rfl)
 refine U.pk b123 ?_
 refine U.pd 1 T ?_
 exact St.wn (j121 _ g)
 refine U.sk' 3 3 true 181 b123 ?_
 refine U.pk' b123 ?_
 refine U.pd 1 T ?_
 exact St.wn (j121 _ g)
 refine C.block (St.wk (C.loop (fun (s106:Int)=>[(1,.p 0 0),(9,.i s106)]) (fun s106=>[(0,.box (Q2 s_1))]) g (fun s106 Y107 g=>?_)) (Wk.a [some 0]))
 refine C.seq (C.ss (U.pd 5 T (C.nx ?_)))
 refine C.ite rfl g (fun b110 g=>?_) fun b110 g=>?_
 refine C.skip (C.xs (C.block (C.seq (D.bq mix 9999 [0] [] (fun hQ hS ws M'=>?_)))))
 refine D.pq 4 (zl [0,1,2,3]) T ?_
 obtain⟨x113,y113,g⟩:=g
 refine D.ix 4 [] T y113 ?_
 refine D.pq 4 (zl [5,7,8,9]) T ?_
 refine D.ix 10 [] T y113 ?_
 refine D.pq 2 (zl [11,12]) T ?_
 refine D.k 6 (Q07 s_1 x113 _ g) en93 fun x114 g=>?_
 refine D.pq 1 [(13,[])] T ?_
 refine D.done (by kernel_rfl) ?_
 refine C.nx ?_
 refine C.ite rfl g (fun b115 g=>?_) fun b115 g=>?_
 refine C.ss (U.pd 1 T (C.nx (C.ret (C.brt (C.rt (C.rt (C.brt (C.rt ?_))))))))
 exact C.f1 T o (pBi g)
 refine C.skip (C.bnx (C.nx (U.start (U.pd 3 T (C.nx ?_)))))
 exact St.wk (C.next g) (Wk.a [some 0])
 refine C.exit (C.ex (C.ex (C.bex ?_)))
 exact St.wa [some 0] (j105 _ g)
 refine C.block (St.wk (C.loop (fun (s75:Int)=>[(1,.p 0 0),(7,.i s75)]) (fun s75=>[(0,.box (Q2 s_1))]) g (fun s75 Y76 g=>?_)) (Wk.a [some 0]))
 refine C.seq (C.ss (U.pd 5 T (C.nx ?_)))
 refine C.ite rfl g (fun b79 g=>?_) fun b79 g=>?_
 refine C.skip (C.xs (C.block (C.ss (U.ps 3 T rfl ?_))))
 obtain⟨x82,y82,g⟩:=g
 refine U.ix T y82 ?_
 refine U.ps 1 T rfl (U.al T ?_)
 refine U.st T ?_
 refine U.done (C.xs (C.seq ?_))
 refine C.jn (fun (x83:Bool)=>[(1,.p 0 0),(7,.i s75),(8,.p 1 0),(139,.b x83)]) (fun x83=>[(0,.box (Q2 s_1)),(1,.box [.i x82.Cell,.i x82.Charge])]) 2 g (fun x83 g=>?_) fun J84 g j84=>?_
 refine C.nx ?_
 refine C.ite rfl g (fun b88 g=>?_) fun b88 g=>?_
 refine C.ss (U.pd 1 T (C.nx (C.ret (C.rt (C.brt (C.rt (C.rt (C.brt (C.rt ?_)))))))))
 exact C.f1 T o (pBi g)
 refine C.skip (C.xs ?_)
 refine C.jn (fun (x91:Bool)=>[(1,.p 0 0),(7,.i s75),(156,.b x91)]) (fun x91=>[(0,.box (Q2 s_1))]) 1 g (fun x91 g=>?_) fun J92 g j92=>?_
 refine C.nx ?_
 refine C.ite rfl g (fun b97 g=>?_) fun b97 g=>?_
 refine C.ss (U.pd 1 T (C.nx (C.ret (C.brt (C.rt (C.rt (C.brt (C.rt ?_))))))))
 exact C.f1 T o (pBi g)
 refine C.skip (C.bnx (C.nx (U.start (U.pd 3 T (C.nx ?_)))))
 exact St.wk (C.next g) (Wk.a [some 0])
 refine D.bq mix 9999 [0,1] [] (fun hQ hS ws M'=>?_)
 refine D.pq 5 (zl [0,1,2,3,4]) T ?_
 obtain⟨x93,y93,g⟩:=g
 refine D.ix 5 [] T y93 ?_
 refine D.pq 3 (zl [6,7,8]) T ?_
 refine g.cs (fun b94 g=>?_) fun b94 g=>?_
 refine D.sz 9 [] 8 false 148 b94 ?_
 refine D.sz 10 [] 8 false 148 b94 ?_
 refine D.sz 11 [] 8 false 148 b94 ?_
 refine D.sz 12 [] 8 false 148 b94 ?_
 refine D.sz 13 [] 8 false 148 b94 ?_
 refine D.sz 14 [] 8 false 148 b94 ?_
 refine D.sz 15 [] 8 false 148 b94 ?_
 refine D.kt 16 [] b94 ?_
 refine D.done (by kernel_rfl) ?_
 exact St.wa [some 0] (j92 _ g)
 refine D.pt 9 [] 8 false 148 b94 T ?_
 refine D.q 10 [] hQ hS rfl (.tk 8 false 148 b94) rfl rfl (by exact Rd.l T rfl rfl rfl) rfl (by kernel_rfl) ?_
 refine D.pt 11 [] 8 false 148 b94 T ?_
 obtain⟨y95,g⟩:=g
 refine D.q 12 [] hQ hS rfl (.tk 8 false 148 b94) rfl rfl (by exact Rd.so T rfl rfl rfl rfl rfl (.none _) (.some _ rfl) y95) rfl (by kernel_rfl) ?_
 refine D.pt 13 [] 8 false 148 b94 T ?_
 refine D.q 14 [] hQ hS rfl (.tk 8 false 148 b94) rfl rfl (by exact Rd.l T rfl rfl rfl) rfl (by kernel_rfl) ?_
 refine D.k 15 (Zs (sub s_1.Robots 0 s75) x82.Cell _ g) en92 (fun x96 g=>?_) (hw:=.take 8 false 148 _ b94 rfl rfl rfl)
 refine D.kf 16 [] b94 ?_
 refine D.done (by kernel_rfl) ?_
 exact St.wa [some 0] (j92 _ g)
 refine U.start (U.ps 4 T rfl (U.k (K1 s_1.Floor x82.Cell _ g) en89 (fun x85 g=>?_)))
 refine U.ps 2 T rfl ?_
 refine g.cs (fun b86 g=>?_) fun b86 g=>?_
 refine U.pq 3 6 false 130 (ntF b86) T ?_
 refine U.pk' (ntF b86) ?_
 refine U.ps 1 T rfl ?_
 refine g.cs (fun b87 g=>?_) fun b87 g=>?_
 refine U.sk' 3 11 false 135 b87 ?_
 refine U.pk b87 ?_
 refine U.done ?_
 exact St.wa (idR 2) (j84 _ g)
 refine U.pq 3 11 false 135 b87 T ?_
 refine U.pk' b87 ?_
 refine U.done ?_
 exact St.wa (idR 2) (j84 _ g)
 refine U.sk' 3 6 false 130 (ntT b86) ?_
 refine U.pk (ntT b86) ?_
 refine U.ps 1 T rfl (U.sk' 3 11 false 135 rfl ?_)
 refine U.pk rfl ?_
 refine U.done ?_
 exact St.wa (idR 2) (j84 _ g)
 refine C.exit (C.ex (C.ex (C.bex ?_)))
 exact St.wa [some 0] (j74 _ g)
 refine C.block (St.wk (C.loop (fun (s42:Int)=>[(1,.p 0 0),(5,.i s42)]) (fun s42=>[(0,.box (Q2 s_1))]) g (fun s42 Y43 g=>?_)) (Wk.a [some 0]))
 refine C.seq (C.ss (U.pd 5 T (C.nx ?_)))
 refine C.ite rfl g (fun b46 g=>?_) fun b46 g=>?_
 refine C.skip (C.xs (C.block (C.ss (U.ps 3 T rfl ?_))))
 obtain⟨x49,y49,g⟩:=g
 refine U.ix T y49 ?_
 refine U.ps 1 T rfl (U.al T ?_)
 refine U.st T ?_
 refine U.done (C.xs (C.seq ?_))
 refine C.jn (fun (x50:Bool)=>[(1,.p 0 0),(5,.i s42),(6,.p 1 0),(92,.b x50)]) (fun x50=>[(0,.box (Q2 s_1)),(1,.box [.i x49.Cell,.v (.string x49.Class)])]) 2 g (fun x50 g=>?_) fun J51 g j51=>?_
 refine C.nx ?_
 refine C.ite rfl g (fun b56 g=>?_) fun b56 g=>?_
 refine C.ss (U.pd 1 T (C.nx (C.ret (C.rt (C.brt (C.rt (C.rt (C.brt (C.rt ?_)))))))))
 exact C.f1 T o (pBi g)
 refine C.skip (C.xs ?_)
 refine C.jn (fun (x59:Bool)=>[(1,.p 0 0),(5,.i s42),(111,.b x59)]) (fun x59=>[(0,.box (Q2 s_1))]) 1 g (fun x59 g=>?_) fun J60 g j60=>?_
 refine C.nx ?_
 refine C.ite rfl g (fun b66 g=>?_) fun b66 g=>?_
 refine C.ss (U.pd 1 T (C.nx (C.ret (C.brt (C.rt (C.rt (C.brt (C.rt ?_))))))))
 exact C.f1 T o (pBi g)
 refine C.skip (C.bnx (C.nx (U.start (U.pd 3 T (C.nx ?_)))))
 exact St.wk (C.next g) (Wk.a [some 0])
 refine D.bq mix 9999 [0,1] [] (fun hQ hS ws M'=>?_)
 refine D.pq 5 (zl [0,1,2,3,4]) T ?_
 obtain⟨x61,y61,g⟩:=g
 refine D.ix 5 [] T y61 ?_
 refine D.pq 1 [(6,[])] T ?_
 refine D.k 7 (WO x61 _ g) en90 fun x62 g=>?_
 refine D.pq 2 (zl [8,9]) T ?_
 refine g.cs (fun b63 g=>?_) fun b63 g=>?_
 refine D.pt 10 [] 9 false 102 (ntF b63) T ?_
 refine D.q 11 [] hQ hS rfl (.tk 9 false 102 (ntF b63)) rfl rfl (by exact Rd.l T rfl rfl rfl) rfl (by kernel_rfl) ?_
 refine D.pt 12 [] 9 false 102 (ntF b63) T ?_
 obtain⟨y64,g⟩:=g
 refine D.q 13 [] hQ hS rfl (.tk 9 false 102 (ntF b63)) rfl rfl (by exact Rd.so T rfl rfl rfl rfl rfl (.none _) (.some _ rfl) y64) rfl (by kernel_rfl) ?_
 refine D.pt 14 [] 9 false 102 (ntF b63) T ?_
 refine D.q 15 [] hQ hS rfl (.tk 9 false 102 (ntF b63)) rfl rfl (by exact Rd.l T rfl rfl rfl) rfl (by kernel_rfl) ?_
 refine D.k 16 (Gu (sub s_1.Shelves 0 s42) x49.Cell _ g) en91 (fun x65 g=>?_) (hw:=.take 9 false 102 _ (ntF b63) rfl rfl rfl)
 refine D.pt 17 [] 9 false 102 (ntF b63) T ?_
 refine D.kf 18 [] (ntF b63) ?_
 refine D.done (by kernel_rfl) ?_
 exact St.wa [some 0] (j60 _ g)
 refine D.sz 10 [] 9 false 102 (ntT b63) ?_
 refine D.sz 11 [] 9 false 102 (ntT b63) ?_
 refine D.sz 12 [] 9 false 102 (ntT b63) ?_
 refine D.sz 13 [] 9 false 102 (ntT b63) ?_
 refine D.sz 14 [] 9 false 102 (ntT b63) ?_
 refine D.sz 15 [] 9 false 102 (ntT b63) ?_
 refine D.sz 16 [] 9 false 102 (ntT b63) ?_
 refine D.sz 17 [] 9 false 102 (ntT b63) ?_
 refine D.kt 18 [] (ntT b63) ?_
 refine D.done (by kernel_rfl) ?_
 exact St.wa [some 0] (j60 _ g)
 refine U.start (U.ps 4 T rfl (U.k (K1 s_1.Floor x49.Cell _ g) en89 (fun x52 g=>?_)))
 refine U.ps 2 T rfl ?_
 refine g.cs (fun b53 g=>?_) fun b53 g=>?_
 refine U.pq 4 6 false 82 (ntF b53) T ?_
 refine g.cs (fun b54 g=>?_) fun b54 g=>?_
 refine U.sk' 4 10 true 86 (ntF b54) ?_
 refine U.r rfl (.tk 6 false 82 (ntF b53)) rfl rfl (by exact Rd.pk' rfl rfl (ntF b54) rfl) ?_
 refine U.pk' (ntF b53) ?_
 refine U.done ?_
 exact St.wa (idR 2) (j51 _ g)
 refine U.pq 2 10 true 86 (ntT b54) T ?_
 refine U.k (Gr x49.Class _ g) en87 (fun x55 g=>?_) (hw:=.take 10 true 86 _ (ntT b54) rfl rfl rfl)
 refine U.pq 1 10 true 86 (ntT b54) T ?_
 refine U.r rfl (.tk 6 false 82 (ntF b53)) rfl rfl (by exact Rd.pk rfl rfl (ntT b54) rfl) ?_
 refine U.pk' (ntF b53) ?_
 refine U.done ?_
 exact St.wa (idR 2) (j51 _ g)
 refine U.sk' 4 6 false 82 (ntT b53) ?_
 refine U.sku 4 10 true 86 rfl rfl rfl ?_
 refine U.sk' 1 6 false 82 (ntT b53) ?_
 refine U.pk (ntT b53) ?_
 refine U.done ?_
 exact St.wa (idR 2) (j51 _ g)
 refine C.exit (C.ex (C.ex (C.bex ?_)))
 exact St.wa [some 0] (j41 _ g)
 refine C.block (St.wk (C.loop (fun (s17:Int)=>[(1,.p 0 0),(3,.i s17)]) (fun s17=>[(0,.box (Q2 s_1))]) g (fun s17 Y18 g=>?_)) (Wk.a [some 0]))
 refine C.seq (C.ss (U.pd 5 T (C.nx ?_)))
 refine C.ite rfl g (fun b21 g=>?_) fun b21 g=>?_
 refine C.skip (C.xs (C.block (C.ss (U.ps 3 T rfl ?_))))
 obtain⟨x24,y24,g⟩:=g
 refine U.ix T y24 ?_
 refine U.ps 1 T rfl (U.al T ?_)
 refine U.st T ?_
 refine U.done (C.xs ?_)
 refine C.jn (fun (x25:Bool)=>[(1,.p 0 0),(3,.i s17),(63,.b x25)]) (fun x25=>[(0,.box (Q2 s_1))]) 1 g (fun x25 g=>?_) fun J26 g j26=>?_
 refine C.nx ?_
 refine C.ite rfl g (fun b33 g=>?_) fun b33 g=>?_
 refine C.ss (U.pd 1 T (C.nx (C.ret (C.brt (C.rt (C.rt (C.brt (C.rt ?_))))))))
 exact C.f1 T o (pBi g)
 refine C.skip (C.bnx (C.nx (U.start (U.pd 3 T (C.nx ?_)))))
 exact St.wk (C.next g) (Wk.a [some 0])
 refine D.bq mix 9999 [0,1] [] (fun hQ hS ws M'=>?_)
 refine D.pq 2 (zl [0,1]) T ?_
 refine D.k 2 (Gr x24.A _ g) en87 fun x27 g=>?_
 refine D.pq 2 (zl [3,4]) T ?_
 refine g.cs (fun b28 g=>?_) fun b28 g=>?_
 refine D.pt 5 [] 4 false 47 (ntF b28) T ?_
 refine D.q 6 [] hQ hS rfl (.tk 4 false 47 (ntF b28)) rfl rfl (by exact Rd.l T rfl rfl rfl) rfl (by kernel_rfl) ?_
 refine D.k 7 (Gr x24.B _ g) en87 (fun x29 g=>?_) (hw:=.take 4 false 47 _ (ntF b28) rfl rfl rfl)
 refine D.pt 8 [] 4 false 47 (ntF b28) T ?_
 refine D.kf 9 [] (ntF b28) ?_
 refine D.pq 1 [(10,[])] T ?_
 refine g.cs (fun b30 g=>?_) fun b30 g=>?_
 refine D.pt 11 [] 10 false 53 (ntF b30) T ?_
 refine D.q 12 [] hQ hS rfl (.tk 10 false 53 (ntF b30)) rfl rfl (by exact Rd.l T rfl rfl rfl) rfl (by kernel_rfl) ?_
 refine D.pt 13 [] 10 false 53 (ntF b30) T ?_
 obtain⟨y31,g⟩:=g
 refine D.q 14 [] hQ hS rfl (.tk 10 false 53 (ntF b30)) rfl rfl (by exact Rd.so T rfl rfl rfl rfl rfl (.none _) (.some _ rfl) y31) rfl (by kernel_rfl) ?_
 refine D.pt 15 [] 10 false 53 (ntF b30) T ?_
 refine D.q 16 [] hQ hS rfl (.tk 10 false 53 (ntF b30)) rfl rfl (by exact Rd.l T rfl rfl rfl) rfl (by kernel_rfl) ?_
 refine D.pt 17 [] 10 false 53 (ntF b30) T ?_
 refine D.q 18 [] hQ hS rfl (.tk 10 false 53 (ntF b30)) rfl rfl (by exact Rd.l T rfl rfl rfl) rfl (by kernel_rfl) ?_
 refine D.k 19 (Yd (sub s_1.Aparts 0 s17) x24.A x24.B _ g) en88 (fun x32 g=>?_) (hw:=.take 10 false 53 _ (ntF b30) rfl rfl rfl)
 refine D.kf 20 [] (ntF b30) ?_
 refine D.done (by kernel_rfl) ?_
 exact St.wa [some 0] (j26 _ g)
 refine D.sz 11 [] 10 false 53 (ntT b30) ?_
 refine D.sz 12 [] 10 false 53 (ntT b30) ?_
 refine D.sz 13 [] 10 false 53 (ntT b30) ?_
 refine D.sz 14 [] 10 false 53 (ntT b30) ?_
 refine D.sz 15 [] 10 false 53 (ntT b30) ?_
 refine D.sz 16 [] 10 false 53 (ntT b30) ?_
 refine D.sz 17 [] 10 false 53 (ntT b30) ?_
 refine D.sz 18 [] 10 false 53 (ntT b30) ?_
 refine D.sz 19 [] 10 false 53 (ntT b30) ?_
 refine D.kt 20 [] (ntT b30) ?_
 refine D.done (by kernel_rfl) ?_
 exact St.wa [some 0] (j26 _ g)
 refine D.sz 5 [] 4 false 47 (ntT b28) ?_
 refine D.sz 6 [] 4 false 47 (ntT b28) ?_
 refine D.sz 7 [] 4 false 47 (ntT b28) ?_
 refine D.sz 8 [] 4 false 47 (ntT b28) ?_
 refine D.kt 9 [] (ntT b28) ?_
 refine D.pq 1 [(10,[])] T ?_
 refine D.sz 11 [] 10 false 53 rfl ?_
 refine D.sz 12 [] 10 false 53 rfl ?_
 refine D.sz 13 [] 10 false 53 rfl ?_
 refine D.sz 14 [] 10 false 53 rfl ?_
 refine D.sz 15 [] 10 false 53 rfl ?_
 refine D.sz 16 [] 10 false 53 rfl ?_
 refine D.sz 17 [] 10 false 53 rfl ?_
 refine D.sz 18 [] 10 false 53 rfl ?_
 refine D.sz 19 [] 10 false 53 rfl ?_
 refine D.kt 20 [] rfl ?_
 refine D.done (by kernel_rfl) ?_
 exact St.wa [some 0] (j26 _ g)
 refine C.exit (C.ex (C.ex (C.bex ?_)))
 exact St.wa [some 0] (j16 _ g)
 refine U.start (U.ps 2 T rfl (U.k (Q0v s_1.Floor _ g) en85 (fun x5 g=>?_)))
 refine U.ps 2 T rfl ?_
 refine g.cs (fun b6 g=>?_) fun b6 g=>?_
 refine U.pq 1 4 false 14 (ntF b6) T ?_
 refine U.k (Z2 s_1 _ g) en86 (fun x7 g=>?_) (hw:=.take 4 false 14 _ (ntF b6) rfl rfl rfl)
 refine U.pq 1 4 false 14 (ntF b6) T ?_
 refine U.pk' (ntF b6) ?_
 refine U.ps 1 T rfl ?_
 refine g.cs (fun b8 g=>?_) fun b8 g=>?_
 refine U.pq 4 9 false 19 (ntF b8) T ?_
 refine U.pk' (ntF b8) ?_
 refine U.ps 1 T rfl ?_
 refine g.cs (fun b9 g=>?_) fun b9 g=>?_
 refine U.sk' 4 15 false 25 b9 ?_
 refine U.pk b9 ?_
 refine U.done ?_
 exact St.wa [some 0] (j4 _ g)
 refine U.pq 4 15 false 25 b9 T ?_
 refine U.pk' b9 ?_
 refine U.done ?_
 exact St.wa [some 0] (j4 _ g)
 refine U.sk' 4 9 false 19 (ntT b8) ?_
 refine U.pk (ntT b8) ?_
 refine U.ps 1 T rfl (U.sk' 4 15 false 25 rfl ?_)
 refine U.pk rfl ?_
 refine U.done ?_
 exact St.wa [some 0] (j4 _ g)
 refine U.sk' 3 4 false 14 (ntT b6) ?_
 refine U.pk (ntT b6) ?_
 refine U.ps 1 T rfl (U.sk' 4 9 false 19 rfl ?_)
 refine U.pk rfl ?_
 refine U.ps 1 T rfl (U.sk' 4 15 false 25 rfl ?_)
 refine U.pk rfl ?_
 refine U.done ?_
 exact St.wa [some 0] (j4 _ g)
theorem Q1t (st:ApiState) (post:Bool→Prop) (g:XW st post):
  Tr Tryz.prog 22 [.agg (Q1 st)] [] 0 (pB post):=by
 refine Tr.go Tryz.func22 Tryz.ntmps22 fun _ _ _ _ o=>?_
 unfold XW at g
 refine C.ss (U.bx ?_)
 refine U.pd 1 T (C.xs (C.seq ?_))
 refine C.jn (fun (x3:Bool)=>[(1,.p 0 0),(33,.b x3)]) (fun x3=>[(0,.box (Q1 st))]) 1 g (fun x3 g=>?_) fun J4 g j4=>?_
 refine C.nx ?_
 refine C.ite rfl g (fun b9 g=>?_) fun b9 g=>?_
 refine C.ss (U.pd 1 T (C.nx (C.ret (C.rt ?_))))
 exact C.f1 T o (pBi g)
 refine C.skip (C.xs (D.bq mix 9999 [0] [1,2,3] (fun hQ hS ws M'=>?_)))
 refine D.pq 6 (zl [1,2,4,5,7,8]) T ?_
 refine D.e1 0 rfl (.none rfl) (by exact Eff1.bs T (enc:=eI) (xs:=([]:List Int)) rfl rfl rfl rfl rfl rfl rfl rfl rfl rfl (fun _ _=>rfl) rfl rfl) (by kernel_rfl) rfl rfl ?_
 obtain⟨y14,g⟩:=g
 refine D.e1 3 rfl (.none rfl) (by exact Eff1.ap T rfl rfl rfl rfl rfl rfl (.inl rfl) rfl rfl rfl (fun _=>rfl) rfl y14) (by kernel_rfl) rfl rfl ?_
 obtain⟨y15,g⟩:=g
 refine D.e1 6 rfl (.none rfl) (by exact Eff1.ap T rfl rfl rfl rfl rfl rfl (.inl rfl) rfl rfl rfl (fun _=>rfl) rfl y15) (by kernel_rfl) rfl rfl ?_
 obtain⟨y16,g⟩:=g
 refine D.e1 9 rfl (.none rfl) (by exact Eff1.ap T rfl rfl rfl rfl rfl rfl (.inl rfl) rfl rfl rfl (fun _=>rfl) rfl y16) (by kernel_rfl) rfl rfl ?_
 refine D.pq 1 [(10,[])] T ?_
 refine D.done (by kernel_rfl) ?_
 refine C.xs (C.ss (U.pd 1 T (C.nx ?_)))
 refine C.jn (fun (x19:List Int)=>[(3,.o 0)]) (fun x19=>[(0,.val (.os 1 eI x19))]) 1 g (fun x19 g=>?_) fun J20 g j20=>?_
 refine C.xs (C.ss (U.pd 1 T (C.nx ?_)))
 refine C.jn (fun (x34:Unit)=>[]) (fun x34=>[]) 0 g (fun x34 g=>?_) fun J35 g j35=>?_
 refine C.xt (U.pd 1 T (C.nx (C.ret ?_)))
 exact C.f1 T o (pBi g)
 refine C.block (St.wk (C.loop (fun (s36:Int)=>[(3,.o 0),(5,.i s36)]) (fun s36=>[(0,.val (.os 1 eI x19))]) g (fun s36 Y37 g=>?_)) (Wk.a [some 0]))
 refine C.seq (C.ss (U.pd 4 T (C.nx ?_)))
 refine C.ite rfl g (fun b40 g=>?_) fun b40 g=>?_
 refine C.skip (C.xs (C.block (C.seq ?_)))
 refine C.jn (fun (x41:Bool)=>[(3,.o 0),(5,.i s36),(77,.b x41)]) (fun x41=>[(0,.val (.os 1 eI x19))]) 1 g (fun x41 g=>?_) fun J42 g j42=>?_
 refine C.nx ?_
 refine C.ite rfl g (fun b45 g=>?_) fun b45 g=>?_
 refine C.ss (U.pd 1 T (C.nx (C.ret (C.brt (C.rt (C.rt (C.brt (C.rt ?_))))))))
 exact C.f1 T o (pBi g)
 refine C.skip (C.bnx (C.nx (U.start (U.pd 3 T (C.nx ?_)))))
 exact St.wk (C.next g) (Wk.a [some 0])
 refine U.start (U.ps 2 T rfl ?_)
 obtain⟨x43,y43,g⟩:=g
 refine U.r rfl (.none rfl) rfl rfl (by exact Rd.io T rfl rfl rfl rfl rfl rfl rfl y43) ?_
 refine U.r rfl (.none rfl) rfl rfl (by exact Rd.le T rfl rfl rfl (Qj y43).2.2 rfl rfl rfl) ?_
 refine U.ps 2 T rfl ?_
 refine g.cs (fun b44 g=>?_) fun b44 g=>?_
 refine U.sk' 5 5 false 71 b44 ?_
 refine U.pk b44 ?_
 refine U.done ?_
 exact St.wa [some 0] (j42 _ g)
 refine U.pq 2 5 false 71 b44 T ?_
 refine U.r rfl (.tk 5 false 71 b44) rfl rfl (by exact Rd.io T rfl rfl rfl rfl rfl rfl rfl y43) ?_
 refine U.r rfl (.tk 5 false 71 b44) rfl rfl (by exact Rd.le T rfl rfl rfl (Qj y43).2.2 rfl rfl rfl) ?_
 refine U.pq 1 5 false 71 b44 T ?_
 refine U.pk' b44 ?_
 refine U.done ?_
 exact St.wa [some 0] (j42 _ g)
 refine C.exit (C.ex (C.ex (C.bex ?_)))
 exact St.wk (j35 _ g) (Wk.mk' [] rfl rfl trivial trivial rfl)
 refine C.block (St.wk (C.loop (fun (s21:List Int×Int)=>[(1,.p 0 0),(3,.o 1),(4,.i s21.2)]) (fun s21=>[(0,.box (Q1 st)),(1,.val (.os 1 eI s21.1))]) g (fun s21 Y22 g=>?_)) (Wk.a [some 0,some 4]))
 refine C.seq (C.ss (U.pd 5 T (C.nx ?_)))
 refine C.ite rfl g (fun b25 g=>?_) fun b25 g=>?_
 refine C.skip (C.xs (C.block (U.start (U.ps 4 T rfl ?_))))
 obtain⟨x28,y28,g⟩:=g
 refine U.ix T y28 ?_
 refine U.ps 2 T rfl (U.bs T eI ([x28.Cell]:List Int) ?_)
 obtain⟨y29,g⟩:=g
 refine U.ap T y29 ?_
 refine U.pd 1 T (C.bnx (C.nx (U.start ?_)))
 refine U.pd 3 T (C.nx ?_)
 exact St.wk (C.next g) (Wk.a [some 0,some 3])
 refine C.exit (C.ex (C.ex (C.bex ?_)))
 exact St.wa [some 1] (j20 _ g)
 refine U.start (U.ps 5 T rfl ?_)
 refine g.cs (fun b5 g=>?_) fun b5 g=>?_
 refine U.sk' 4 4 false 10 b5 ?_
 refine U.pk b5 ?_
 refine U.ps 1 T rfl (U.sk' 4 10 false 16 rfl ?_)
 refine U.pk rfl ?_
 refine U.ps 1 T rfl (U.sk' 4 16 false 22 rfl ?_)
 refine U.pk rfl ?_
 refine U.ps 1 T rfl (U.sk' 4 22 false 28 rfl ?_)
 refine U.pk rfl ?_
 refine U.done ?_
 exact St.wa [some 0] (j4 _ g)
 refine U.pq 4 4 false 10 b5 T ?_
 refine U.pk' b5 ?_
 refine U.ps 1 T rfl ?_
 refine g.cs (fun b6 g=>?_) fun b6 g=>?_
 refine U.sk' 4 10 false 16 b6 ?_
 refine U.pk b6 ?_
 refine U.ps 1 T rfl (U.sk' 4 16 false 22 rfl ?_)
 refine U.pk rfl ?_
 refine U.ps 1 T rfl (U.sk' 4 22 false 28 rfl ?_)
 refine U.pk rfl ?_
 refine U.done ?_
 exact St.wa [some 0] (j4 _ g)
 refine U.pq 4 10 false 16 b6 T ?_
 refine U.pk' b6 ?_
 refine U.ps 1 T rfl ?_
 refine g.cs (fun b7 g=>?_) fun b7 g=>?_
 refine U.sk' 4 16 false 22 b7 ?_
 refine U.pk b7 ?_
 refine U.ps 1 T rfl (U.sk' 4 22 false 28 rfl ?_)
 refine U.pk rfl ?_
 refine U.done ?_
 exact St.wa [some 0] (j4 _ g)
 refine U.pq 4 16 false 22 b7 T ?_
 refine U.pk' b7 ?_
 refine U.ps 1 T rfl ?_
 refine g.cs (fun b8 g=>?_) fun b8 g=>?_
 refine U.sk' 4 22 false 28 b8 ?_
 refine U.pk b8 ?_
 refine U.done ?_
 exact St.wa [some 0] (j4 _ g)
 refine U.pq 4 22 false 28 b8 T ?_
 refine U.pk' b8 ?_
 refine U.done ?_
 exact St.wa [some 0] (j4 _ g)
theorem Gq (f:Q6) (c:Int) (post:Int→Prop) (g:QM f c post):
  Tr Tryz.prog 97 [.agg (Qd f),.i c] [] 0 (pI post):=by
 refine Tr.go Tryz.func97 Tryz.ntmps97 fun _ _ _ _ o=>?_
 unfold QM at g
 refine C.ss (U.bx ?_)
 refine U.pd 1 T (C.xs (C.seq ?_))
 refine C.jn (fun (x3:Bool)=>[(1,.i c),(2,.p 0 0),(13,.b x3)]) (fun x3=>[(0,.box (Qd f))]) 1 g (fun x3 g=>?_) fun J4 g j4=>?_
 refine C.nx ?_
 refine C.ite rfl g (fun b6 g=>?_) fun b6 g=>?_
 refine C.ss (U.pd 1 T (C.nx (C.ret (C.rt ?_))))
 exact C.f1 T o (pIi g)
 refine C.skip (C.xt (U.ps 3 T rfl ?_))
 obtain⟨x11,y11,g⟩:=g
 refine U.ix T y11 ?_
 refine U.pd 2 T (C.nx (C.ret ?_))
 exact C.f1 T o (pIi g)
 refine U.start (U.ps 3 T rfl ?_)
 refine g.cs (fun b5 g=>?_) fun b5 g=>?_
 refine U.sk' 5 2 false 7 b5 ?_
 refine U.pk b5 ?_
 refine U.done ?_
 exact St.wa [some 0] (j4 _ g)
 refine U.pq 5 2 false 7 b5 T ?_
 refine U.pk' b5 ?_
 refine U.done ?_
 exact St.wa [some 0] (j4 _ g)
theorem Gy (st:ApiState) (shelf:Int) (post:Int→Prop) (g:QO st shelf post):
  Tr Tryz.prog 98 [.agg (Q1 st),.i shelf] [] 0 (pI post):=by
 refine Tr.go Tryz.func98 Tryz.ntmps98 fun _ _ _ _ o=>?_
 unfold QO at g
 refine C.ss (U.bx ?_)
 refine U.pd 1 T (C.xs (C.ss ?_))
 refine U.pd 1 T (C.nx ?_)
 refine C.jn (fun (x5:Unit)=>[]) (fun x5=>[]) 0 g (fun x5 g=>?_) fun J6 g j6=>?_
 refine C.xt (U.pd 1 T (C.nx (C.ret ?_)))
 exact C.f1 T o (pIi g)
 refine C.block (St.wk (C.loop (fun (s7:Int)=>[(1,.i shelf),(2,.p 0 0),(5,.i s7)]) (fun s7=>[(0,.box (Q1 st))]) g (fun s7 Y8 g=>?_)) (Wk.a [some 0]))
 refine C.seq (C.seq ?_)
 refine C.jn (fun (x9:Bool)=>[(1,.i shelf),(2,.p 0 0),(5,.i s7),(14,.b x9)]) (fun x9=>[(0,.box (Q1 st))]) 1 g (fun x9 g=>?_) fun J10 g j10=>?_
 refine C.nx ?_
 refine C.ite rfl g (fun b12 g=>?_) fun b12 g=>?_
 refine C.skip (C.xs (C.block (C.ss (U.ps 3 T rfl ?_))))
 obtain⟨x15,y15,g⟩:=g
 refine U.ix T y15 ?_
 refine U.pd 4 T (C.nx ?_)
 refine C.ite rfl g (fun b16 g=>?_) fun b16 g=>?_
 refine C.ss (U.pd 2 T (C.nx (C.ret (C.brt (C.rt (C.rt (C.brt (C.rt ?_))))))))
 exact C.f1 T o (pIi g)
 refine C.skip (C.bnx (C.nx (U.start (U.pd 3 T (C.nx ?_)))))
 exact St.wk (C.next g) (Wk.a [some 0])
 refine C.exit (C.ex (C.ex (C.bex ?_)))
 exact St.wk (j6 _ g) (Wk.mk' [] rfl rfl trivial trivial rfl)
 refine U.start (U.ps 6 T rfl ?_)
 refine g.cs (fun b11 g=>?_) fun b11 g=>?_
 refine U.pq 2 5 true 11 b11 T ?_
 refine U.pk b11 ?_
 refine U.done ?_
 exact St.wa [some 0] (j10 _ g)
 refine U.sk' 2 5 true 11 b11 ?_
 refine U.pk' b11 ?_
 refine U.done ?_
 exact St.wa [some 0] (j10 _ g)
theorem Q0O (s_1:ApiSite) (st:ApiState) (i:Int) (post:Bool→Prop) (g:KG s_1 st i post):
  Tr Tryz.prog 96 [.agg (Q2 s_1),.agg (Q1 st),.i i] [] 0 (pB post):=by
 refine Tr.go Tryz.func96 Tryz.ntmps96 fun _ _ _ _ o=>?_
 unfold KG at g
 refine C.ss (U.bx ?_)
 refine U.bx ?_
 refine U.pd 1 T (C.xt ?_)
 refine U.ps 3 T rfl ?_
 obtain⟨x5,y5,g⟩:=g
 refine U.ix T y5 ?_
 refine U.ps 1 T rfl (U.al T ?_)
 refine U.st T ?_
 refine U.done (C.xt (U.ps 4 T rfl (U.k (Gq s_1.Floor x5.Cell _ g) en97 (fun x8 g=>?_))))
 refine U.pd 1 T (C.xs (C.seq ?_))
 refine C.jn (fun (x9:Bool)=>[(2,.i i),(4,.p 0 0),(7,.p 1 0),(67,.b x9)]) (fun x9=>[(0,.box (Q1 st)),(1,.box (Q4 x5))]) 2 g (fun x9 g=>?_) fun J10 g j10=>?_
 refine C.nx ?_
 refine C.ite rfl g (fun b20 g=>?_) fun b20 g=>?_
 refine C.ss (U.pd 1 T (C.nx (C.ret (C.rt ?_))))
 exact C.f1 T o (pBi g)
 refine C.skip (C.xs (C.ss (U.pd 3 T (C.nx ?_))))
 refine C.ite rfl g (fun b25 g=>?_) fun b25 g=>?_
 refine C.seq ?_
 refine C.jn (fun (x26:Bool)=>[(6,.b x26)]) (fun x26=>[]) 0 g (fun x26 g=>?_) fun J27 g j27=>?_
 refine C.nx (C.ret (C.rt ?_))
 exact C.f1 T o (pBi g)
 refine D.bq mix 9999 [0,1] [] (fun hQ hS ws M'=>?_)
 refine D.pq 4 (zl [0,1,2,4]) T ?_
 refine D.k 3 (Gy st x5.Load _ g) en98 fun x28 g=>?_
 refine D.pq 2 (zl [5,6]) T ?_
 refine g.cs (fun b29 g=>?_) fun b29 g=>?_
 refine D.pt 7 [] 6 true 77 b29 T ?_
 refine D.q 8 [] hQ hS rfl (.tk 6 true 77 b29) rfl rfl (by exact Rd.l T rfl rfl rfl) rfl (by kernel_rfl) ?_
 refine D.pt 9 [] 6 true 77 b29 T ?_
 refine D.q 10 [] hQ hS rfl (.tk 6 true 77 b29) rfl rfl (by exact Rd.l T rfl rfl rfl) rfl (by kernel_rfl) ?_
 obtain⟨x30,y30,g⟩:=g
 refine D.q 11 [] hQ hS rfl (.tk 6 true 77 b29) rfl rfl (by exact Rd.ix T rfl rfl rfl rfl rfl rfl y30) rfl (by kernel_rfl) ?_
 refine D.q 12 [] hQ hS rfl (.tk 6 true 77 b29) rfl rfl (by exact Rd.l T rfl rfl rfl) rfl (by kernel_rfl) ?_
 refine D.pt 13 [] 6 true 77 b29 T ?_
 refine D.q 14 [] hQ hS rfl (.tk 6 true 77 b29) rfl rfl (by exact Rd.l T rfl rfl rfl) rfl (by kernel_rfl) ?_
 refine D.pt 15 [] 6 true 77 b29 T ?_
 refine D.kt 16 [] b29 ?_
 refine D.pq 1 [(17,[])] T ?_
 refine D.done (by kernel_rfl) ?_
 exact St.wn (j27 _ g)
 refine D.sz 7 [] 6 true 77 b29 ?_
 refine D.sz 8 [] 6 true 77 b29 ?_
 refine D.sz 9 [] 6 true 77 b29 ?_
 refine D.sz 10 [] 6 true 77 b29 ?_
 refine D.sz 11 [] 6 true 77 b29 ?_
 refine D.sz 12 [] 6 true 77 b29 ?_
 refine D.sz 13 [] 6 true 77 b29 ?_
 refine D.sz 14 [] 6 true 77 b29 ?_
 refine D.sz 15 [] 6 true 77 b29 ?_
 refine D.kf 16 [] b29 ?_
 refine D.pq 1 [(17,[])] T ?_
 refine D.done (by kernel_rfl) ?_
 exact St.wn (j27 _ g)
 refine C.skip (C.xt (U.pd 1 T (C.nx (C.ret ?_))))
 exact C.f1 T o (pBi g)
 refine U.start (U.ps 3 T rfl ?_)
 refine g.cs (fun b11 g=>?_) fun b11 g=>?_
 refine U.sk' 2 2 false 21 b11 ?_
 refine U.pk b11 ?_
 refine U.ps 1 T rfl (U.sk' 3 6 false 25 rfl ?_)
 refine U.pk rfl ?_
 refine U.ps 1 T rfl (U.sk' 6 11 false 30 rfl ?_)
 refine U.pk rfl ?_
 refine U.ps 1 T rfl (U.sk' 3 19 false 38 rfl ?_)
 refine U.pk rfl ?_
 refine U.ps 1 T rfl (U.sk' 3 24 false 43 rfl ?_)
 refine U.pk rfl ?_
 refine U.ps 1 T rfl (U.sk' 3 29 false 48 rfl ?_)
 refine U.pk rfl ?_
 refine U.ps 1 T rfl (U.sk' 3 34 false 53 rfl ?_)
 refine U.pk rfl ?_
 refine U.ps 1 T rfl (U.sk' 3 39 false 58 rfl ?_)
 refine U.pk rfl ?_
 refine U.ps 1 T rfl (U.sk' 3 44 false 63 rfl ?_)
 refine U.pk rfl ?_
 refine U.done ?_
 exact St.wa (sqR 1 2) (j10 _ g)
 refine U.pq 2 2 false 21 b11 T ?_
 refine U.pk' b11 ?_
 refine U.ps 1 T rfl ?_
 refine g.cs (fun b12 g=>?_) fun b12 g=>?_
 refine U.sk' 3 6 false 25 b12 ?_
 refine U.pk b12 ?_
 refine U.ps 1 T rfl (U.sk' 6 11 false 30 rfl ?_)
 refine U.pk rfl ?_
 refine U.ps 1 T rfl (U.sk' 3 19 false 38 rfl ?_)
 refine U.pk rfl ?_
 refine U.ps 1 T rfl (U.sk' 3 24 false 43 rfl ?_)
 refine U.pk rfl ?_
 refine U.ps 1 T rfl (U.sk' 3 29 false 48 rfl ?_)
 refine U.pk rfl ?_
 refine U.ps 1 T rfl (U.sk' 3 34 false 53 rfl ?_)
 refine U.pk rfl ?_
 refine U.ps 1 T rfl (U.sk' 3 39 false 58 rfl ?_)
 refine U.pk rfl ?_
 refine U.ps 1 T rfl (U.sk' 3 44 false 63 rfl ?_)
 refine U.pk rfl ?_
 refine U.done ?_
 exact St.wa (sqR 1 2) (j10 _ g)
 refine U.pq 3 6 false 25 b12 T ?_
 refine U.pk' b12 ?_
 refine U.ps 1 T rfl ?_
 refine g.cs (fun b13 g=>?_) fun b13 g=>?_
 refine U.sk' 6 11 false 30 b13 ?_
 refine U.pk b13 ?_
 refine U.ps 1 T rfl (U.sk' 3 19 false 38 rfl ?_)
 refine U.pk rfl ?_
 refine U.ps 1 T rfl (U.sk' 3 24 false 43 rfl ?_)
 refine U.pk rfl ?_
 refine U.ps 1 T rfl (U.sk' 3 29 false 48 rfl ?_)
 refine U.pk rfl ?_
 refine U.ps 1 T rfl (U.sk' 3 34 false 53 rfl ?_)
 refine U.pk rfl ?_
 refine U.ps 1 T rfl (U.sk' 3 39 false 58 rfl ?_)
 refine U.pk rfl ?_
 refine U.ps 1 T rfl (U.sk' 3 44 false 63 rfl ?_)
 refine U.pk rfl ?_
 refine U.done ?_
 exact St.wa (sqR 1 2) (j10 _ g)
 refine U.pq 6 11 false 30 b13 T ?_
 refine U.pk' b13 ?_
 refine U.ps 1 T rfl ?_
 refine g.cs (fun b14 g=>?_) fun b14 g=>?_
 refine U.sk' 3 19 false 38 b14 ?_
 refine U.pk b14 ?_
 refine U.ps 1 T rfl (U.sk' 3 24 false 43 rfl ?_)
 refine U.pk rfl ?_
 refine U.ps 1 T rfl (U.sk' 3 29 false 48 rfl ?_)
 refine U.pk rfl ?_
 refine U.ps 1 T rfl (U.sk' 3 34 false 53 rfl ?_)
 refine U.pk rfl ?_
 refine U.ps 1 T rfl (U.sk' 3 39 false 58 rfl ?_)
 refine U.pk rfl ?_
 refine U.ps 1 T rfl (U.sk' 3 44 false 63 rfl ?_)
 refine U.pk rfl ?_
 refine U.done ?_
 exact St.wa (sqR 1 2) (j10 _ g)
 refine U.pq 3 19 false 38 b14 T ?_
 refine U.pk' b14 ?_
 refine U.ps 1 T rfl ?_
 refine g.cs (fun b15 g=>?_) fun b15 g=>?_
 refine U.sk' 3 24 false 43 b15 ?_
 refine U.pk b15 ?_
 refine U.ps 1 T rfl (U.sk' 3 29 false 48 rfl ?_)
 refine U.pk rfl ?_
 refine U.ps 1 T rfl (U.sk' 3 34 false 53 rfl ?_)
 refine U.pk rfl ?_
 refine U.ps 1 T rfl (U.sk' 3 39 false 58 rfl ?_)
 refine U.pk rfl ?_
 refine U.ps 1 T rfl (U.sk' 3 44 false 63 rfl ?_)
 refine U.pk rfl ?_
 refine U.done ?_
 exact St.wa (sqR 1 2) (j10 _ g)
 refine U.pq 3 24 false 43 b15 T ?_
 refine U.pk' b15 ?_
 refine U.ps 1 T rfl ?_
 refine g.cs (fun b16 g=>?_) fun b16 g=>?_
 refine U.sk' 3 29 false 48 b16 ?_
 refine U.pk b16 ?_
 refine U.ps 1 T rfl (U.sk' 3 34 false 53 rfl ?_)
 refine U.pk rfl ?_
 refine U.ps 1 T rfl (U.sk' 3 39 false 58 rfl ?_)
 refine U.pk rfl ?_
 refine U.ps 1 T rfl (U.sk' 3 44 false 63 rfl ?_)
 refine U.pk rfl ?_
 refine U.done ?_
 exact St.wa (sqR 1 2) (j10 _ g)
 refine U.pq 3 29 false 48 b16 T ?_
 refine U.pk' b16 ?_
 refine U.ps 1 T rfl ?_
 refine g.cs (fun b17 g=>?_) fun b17 g=>?_
 refine U.sk' 3 34 false 53 b17 ?_
 refine U.pk b17 ?_
 refine U.ps 1 T rfl (U.sk' 3 39 false 58 rfl ?_)
 refine U.pk rfl ?_
 refine U.ps 1 T rfl (U.sk' 3 44 false 63 rfl ?_)
 refine U.pk rfl ?_
 refine U.done ?_
 exact St.wa (sqR 1 2) (j10 _ g)
 refine U.pq 3 34 false 53 b17 T ?_
 refine U.pk' b17 ?_
 refine U.ps 1 T rfl ?_
 refine g.cs (fun b18 g=>?_) fun b18 g=>?_
 refine U.sk' 3 39 false 58 b18 ?_
 refine U.pk b18 ?_
 refine U.ps 1 T rfl (U.sk' 3 44 false 63 rfl ?_)
 refine U.pk rfl ?_
 refine U.done ?_
 exact St.wa (sqR 1 2) (j10 _ g)
 refine U.pq 3 39 false 58 b18 T ?_
 refine U.pk' b18 ?_
 refine U.ps 1 T rfl ?_
 refine g.cs (fun b19 g=>?_) fun b19 g=>?_
 refine U.sk' 3 44 false 63 b19 ?_
 refine U.pk b19 ?_
 refine U.done ?_
 exact St.wa (sqR 1 2) (j10 _ g)
 refine U.pq 3 44 false 63 b19 T ?_
 refine U.pk' b19 ?_
 refine U.done ?_
 exact St.wa (sqR 1 2) (j10 _ g)
theorem Zf (r:ApiRobot) (c:Int) (post:(List Int)→Prop) (g:Kq r c post):
  Tr Tryz.prog 112 [.agg (Q4 r),.i c] [] 0 (fun A H' k=>∃y,post y∧A=(.o 0)∧H'=[(0,.val (.os 1 eI y))]∧k=1):=by
 refine Tr.go Tryz.func112 Tryz.ntmps112 fun _ _ _ _ o=>?_
 unfold Kq at g
 refine C.ss (U.bx ?_)
 refine U.pd 1 T (C.xs (C.ss ?_))
 refine U.pd 3 T (C.nx ?_)
 refine C.ite rfl g (fun b5 g=>?_) fun b5 g=>?_
 refine C.ss (U.ps 2 T rfl (U.bs T eI ([w64 (2*c)]:List Int) ?_))
 refine U.pd 1 T (C.nx (C.ret (C.rt ?_)))
 exact C.g1 [some 1] T o ⟨([w64 (2*c)]:List Int),g,rfl,rfl,rfl⟩
 refine C.skip (C.xt (U.ps 5 T rfl (U.bs T eI ([w64 (2*c),w64 ((w64 (2*c))+1)]:List Int) ?_)))
 refine U.pd 1 T (C.nx (C.ret ?_))
 exact C.g1 [some 1] T o ⟨([w64 (2*c),w64 ((w64 (2*c))+1)]:List Int),g,rfl,rfl,rfl⟩
theorem Q0y (st:ApiState) (i:Int) (post:(List Int)→Prop) (g:KH st i post):
  Tr Tryz.prog 120 [.agg (Q1 st),.i i] [] 0 (fun A H' k=>∃y,post y∧A=(.o 0)∧H'=[(0,.val (.os 1 eI y))]∧k=1):=by
 refine Tr.go Tryz.func120 Tryz.ntmps120 fun _ _ _ _ o=>?_
 unfold KH at g
 refine C.ss (U.bx ?_)
 refine U.pd 1 T (C.xs (C.seq ?_))
 refine C.jn (fun (x3:Bool)=>[(1,.i i),(2,.p 0 0),(13,.b x3)]) (fun x3=>[(0,.box (Q1 st))]) 1 g (fun x3 g=>?_) fun J4 g j4=>?_
 refine C.nx ?_
 refine C.ite rfl g (fun b6 g=>?_) fun b6 g=>?_
 refine C.ss (U.pd 1 T (C.nx (C.ret (C.rt ?_))))
 exact C.g1 [none] T o ⟨[],g,rfl,rfl,rfl⟩
 refine C.skip (C.xs (D.bq mix 9999 [0] [] (fun hQ hS ws M'=>?_)))
 refine D.pq 3 (zl [0,1,2]) T ?_
 obtain⟨x11,y11,g⟩:=g
 refine D.ix 3 [] T y11 ?_
 refine D.pq 4 (zl [4,5,6,7]) T ?_
 refine D.ix 8 [] T y11 ?_
 refine D.pq 2 (zl [9,10]) T ?_
 refine D.k 11 (Zf x11 x11.Cell _ g) Qac fun x12 g=>?_
 refine D.pq 1 [(12,[])] T ?_
 refine D.done (by kernel_rfl) ?_
 refine C.nx (C.ret ?_)
 exact C.g1 [some 1] T o ⟨x12,g,rfl,rfl,rfl⟩
 refine U.start (U.ps 3 T rfl ?_)
 refine g.cs (fun b5 g=>?_) fun b5 g=>?_
 refine U.sk' 5 2 false 7 b5 ?_
 refine U.pk b5 ?_
 refine U.done ?_
 exact St.wa [some 0] (j4 _ g)
 refine U.pq 5 2 false 7 b5 T ?_
 refine U.pk' b5 ?_
 refine U.done ?_
 exact St.wa [some 0] (j4 _ g)
theorem Q0B (st:ApiState) (s_1:Int) (post:(List Int)→Prop) (g:KF st s_1 post):
  Tr Tryz.prog 121 [.agg (Q1 st),.i s_1] [] 0 (fun A H' k=>∃y,post y∧A=(.o 0)∧H'=[(0,.val (.os 1 eI y))]∧k=1):=by
 refine Tr.go Tryz.func121 Tryz.ntmps121 fun _ _ _ _ o=>?_
 unfold KF at g
 refine C.ss (U.bx ?_)
 refine U.pd 1 T (C.xs (C.seq ?_))
 refine C.jn (fun (x3:Bool)=>[(1,.i s_1),(2,.p 0 0),(19,.b x3)]) (fun x3=>[(0,.box (Q1 st))]) 1 g (fun x3 g=>?_) fun J4 g j4=>?_
 refine C.nx ?_
 refine C.ite rfl g (fun b8 g=>?_) fun b8 g=>?_
 refine C.ss (U.pd 1 T (C.nx (C.ret (C.rt ?_))))
 exact C.g1 [none] T o ⟨[],g,rfl,rfl,rfl⟩
 refine C.skip (C.xt (U.ps 3 T rfl ?_))
 obtain⟨x13,y13,g⟩:=g
 refine U.ix T y13 ?_
 refine U.ps 3 T rfl (U.bs T eI ([w64 ((w64 (2*x13))+1)]:List Int) ?_)
 refine U.pd 1 T (C.nx (C.ret ?_))
 exact C.g1 [some 1] T o ⟨([w64 ((w64 (2*x13))+1)]:List Int),g,rfl,rfl,rfl⟩
 refine U.start (U.ps 3 T rfl ?_)
 refine g.cs (fun b5 g=>?_) fun b5 g=>?_
 refine U.sk' 5 2 false 7 b5 ?_
 refine U.pk b5 ?_
 refine U.ps 1 T rfl (U.sk' 4 9 false 14 rfl ?_)
 refine U.pk rfl ?_
 refine U.done ?_
 exact St.wa [some 0] (j4 _ g)
 refine U.pq 5 2 false 7 b5 T ?_
 refine U.pk' b5 ?_
 refine U.ps 1 T rfl ?_
 refine g.cs (fun b6 g=>?_) fun b6 g=>?_
 refine U.sk' 4 9 false 14 b6 ?_
 refine U.pk b6 ?_
 refine U.done ?_
 exact St.wa [some 0] (j4 _ g)
 refine U.pq 2 9 false 14 b6 T ?_
 refine U.k (Gy st s_1 _ g) en98 (fun x7 g=>?_) (hw:=.take 9 false 14 _ b6 rfl rfl rfl)
 refine U.pq 1 9 false 14 b6 T ?_
 refine U.pk' b6 ?_
 refine U.done ?_
 exact St.wa [some 0] (j4 _ g)
theorem Q06 (st:ApiState) (p:Int) (post:(List Int)→Prop) (g:Ko st p post):
  Tr Tryz.prog 122 [.agg (Q1 st),.i p] [] 0 (fun A H' k=>∃y,post y∧A=(.o 0)∧H'=[(0,.val (.os 1 eI y))]∧k=1):=by
 refine Tr.go Tryz.func122 Tryz.ntmps122 fun _ _ _ _ o=>?_
 unfold Ko at g
 refine C.ss (U.bx ?_)
 refine U.pd 1 T (C.xs (C.seq ?_))
 refine C.jn (fun (x3:Bool)=>[(1,.i p),(2,.p 0 0),(13,.b x3)]) (fun x3=>[(0,.box (Q1 st))]) 1 g (fun x3 g=>?_) fun J4 g j4=>?_
 refine C.nx ?_
 refine C.ite rfl g (fun b6 g=>?_) fun b6 g=>?_
 refine C.ss (U.pd 1 T (C.nx (C.ret (C.rt ?_))))
 exact C.g1 [none] T o ⟨[],g,rfl,rfl,rfl⟩
 refine C.skip (C.xs (D.bq mix 9999 [0] [] (fun hQ hS ws M'=>?_)))
 refine D.pq 3 (zl [0,1,2]) T ?_
 obtain⟨x11,y11,g⟩:=g
 refine D.ix 3 [] T y11 ?_
 refine D.pq 5 (zl [4,5,6,7,8]) T ?_
 refine D.ix 9 [] T y11 ?_
 refine D.pq 3 (zl [10,11,12]) T ?_
 refine D.e1 13 rfl (.none rfl) (by exact Eff1.bs T (enc:=eI) (xs:=([w64 (2*x11),w64 ((w64 (2*x11))+1)]:List Int)) rfl rfl rfl rfl rfl rfl rfl rfl rfl rfl (fun _ _=>rfl) rfl rfl) (by kernel_rfl) rfl rfl ?_
 refine D.pq 1 [(14,[])] T ?_
 refine D.done (by kernel_rfl) ?_
 refine C.nx (C.ret ?_)
 exact C.g1 [some 1] T o ⟨([w64 (2*x11),w64 ((w64 (2*x11))+1)]:List Int),g,rfl,rfl,rfl⟩
 refine U.start (U.ps 3 T rfl ?_)
 refine g.cs (fun b5 g=>?_) fun b5 g=>?_
 refine U.sk' 5 2 false 7 b5 ?_
 refine U.pk b5 ?_
 refine U.done ?_
 exact St.wa [some 0] (j4 _ g)
 refine U.pq 5 2 false 7 b5 T ?_
 refine U.pk' b5 ?_
 refine U.done ?_
 exact St.wa [some 0] (j4 _ g)
theorem Q1d (l:List Int) (n:Int) (post:(List Int)→Prop) (g:Xz l n post):
  Tr Tryz.prog 132 [.sl 1 eI l,.i n] [] 0 (fun A H' k=>∃y,post y∧A=(.o 0)∧H'=[(0,.val (.os 1 eI y))]∧k=1):=by
 refine Tr.go Tryz.func132 Tryz.ntmps132 fun _ _ _ _ o=>?_
 unfold Xz at g
 refine C.ss (U.pd 1 T (C.xt ?_))
 refine U.pd 1 T (C.xt ?_)
 refine U.pd 1 T (C.xs (C.ss ?_))
 refine U.pd 1 T (C.nx ?_)
 refine C.jn (fun (x9:List Int×Bool)=>[(1,.i n),(5,.o 0),(6,.b x9.2)]) (fun x9=>[(0,.val (.os 1 eI x9.1))]) 1 g (fun x9 g=>?_) fun J10 g j10=>?_
 refine C.xs (C.ss (U.pd 2 T (C.nx ?_)))
 refine C.jn (fun (x36:List Int)=>[(5,.o 0)]) (fun x36=>[(0,.val (.os 1 eI x36))]) 1 g (fun x36 g=>?_) fun J37 g j37=>?_
 refine C.xt (U.pd 2 T (C.nx (C.ret ?_)))
 exact C.g1 [some 0] T o ⟨x36,g,rfl,rfl,rfl⟩
 refine C.ite rfl g (fun b38 g=>?_) fun b38 g=>?_
 refine U.start (U.ps 2 T rfl (U.bs T eI ([n]:List Int) ?_))
 obtain⟨y41,g⟩:=g
 refine U.ap T y41 ?_
 refine U.pd 1 T ?_
 exact St.wa [some 2] (j37 _ g)
 refine C.skip ?_
 exact St.wa [some 0] (j37 _ g)
 refine C.block (St.wk (C.loop (fun (s11:List Int×Bool×Int)=>[(0,.sl 1 eI l),(1,.i n),(5,.o 0),(6,.b s11.2.1),(7,.i s11.2.2)]) (fun s11=>[(0,.val (.os 1 eI s11.1))]) g (fun s11 Y12 g=>?_)) (Wk.mk' [none] rfl rfl ⟨⟨_,rfl,(.eq rfl)⟩,⟨_,rfl,(.eq rfl)⟩,⟨_,rfl,(.nilO _ _ ⟨rfl,rfl⟩ rfl)⟩,ChkG.eqs rfl⟩ ⟨⟨_,rfl,.nil _ _⟩,trivial⟩ rfl))
 refine C.seq (C.ss (U.pd 4 T (C.nx ?_)))
 refine C.ite rfl g (fun b15 g=>?_) fun b15 g=>?_
 refine C.skip (C.xs (C.block (C.seq (C.seq ?_))))
 refine C.jn (fun (x16:Bool)=>[(0,.sl 1 eI l),(1,.i n),(5,.o 0),(6,.b s11.2.1),(7,.i s11.2.2),(23,.b x16)]) (fun x16=>[(0,.val (.os 1 eI s11.1))]) 1 g (fun x16 g=>?_) fun J17 g j17=>?_
 refine C.nx ?_
 refine C.jn (fun (x20:List Int×Bool)=>[(0,.sl 1 eI l),(1,.i n),(5,.o 0),(6,.b x20.2),(7,.i s11.2.2)]) (fun x20=>[(0,.val (.os 1 eI x20.1))]) 1 g (fun x20 g=>?_) fun J21 g j21=>?_
 refine C.nx (U.start (U.ps 3 T rfl ?_))
 obtain⟨x30,y30,g⟩:=g
 refine U.ix T y30 ?_
 refine U.ps 1 T rfl (U.bs T eI ([x30]:List Int) ?_)
 obtain⟨y31,g⟩:=g
 refine U.ap T y31 ?_
 refine U.pd 1 T (C.bnx (C.nx (U.start ?_)))
 refine U.pd 3 T (C.nx ?_)
 exact St.wk (C.next g) (Wk.a [some 2])
 refine C.ite rfl g (fun b22 g=>?_) fun b22 g=>?_
 refine C.ss (U.ps 2 T rfl (U.bs T eI ([n]:List Int) ?_))
 obtain⟨y25,g⟩:=g
 refine U.ap T y25 ?_
 refine U.pd 1 T (C.nx (U.start ?_))
 refine U.pd 1 T ?_
 exact St.wa [some 2] (j21 _ g)
 refine C.skip ?_
 exact St.wa [some 0] (j21 _ g)
 refine U.start (U.ps 3 T rfl ?_)
 refine g.cs (fun b18 g=>?_) fun b18 g=>?_
 refine U.sk' 6 2 true 16 (ntF b18) ?_
 refine U.pk' (ntF b18) ?_
 refine U.done ?_
 exact St.wa [some 0] (j17 _ g)
 refine U.pq 2 2 true 16 (ntT b18) T ?_
 obtain⟨x19,y19,g⟩:=g
 refine U.r rfl (.tk 2 true 16 (ntT b18)) rfl rfl (by exact Rd.ix T rfl rfl rfl rfl rfl rfl y19) ?_
 refine U.pq 3 2 true 16 (ntT b18) T ?_
 refine U.pk (ntT b18) ?_
 refine U.done ?_
 exact St.wa [some 0] (j17 _ g)
 refine C.exit (C.ex (C.ex (C.bex ?_)))
 exact St.wa [some 0] (j10 _ g)
theorem GQ (l:List Int) (post:(List Int)→Prop) (g:QL l post):
  Tr Tryz.prog 55 [.sl 1 eI l] [] 0 (fun A H' k=>∃y,post y∧A=(.o 0)∧H'=[(0,.val (.os 1 eI y))]∧k=1):=by
 refine Tr.go Tryz.func55 Tryz.ntmps55 fun _ _ _ _ o=>?_
 unfold QL at g
 refine C.ss (U.pd 1 T (C.xt ?_))
 refine U.pd 1 T (C.xs (C.ss ?_))
 refine U.pd 1 T (C.nx ?_)
 refine C.jn (fun (x7:List Int)=>[(3,.o 0)]) (fun x7=>[(0,.val (.os 1 eI x7))]) 1 g (fun x7 g=>?_) fun J8 g j8=>?_
 refine C.xt (U.pd 2 T (C.nx (C.ret ?_)))
 exact C.g1 [some 0] T o ⟨x7,g,rfl,rfl,rfl⟩
 refine C.block (St.wk (C.loop (fun (s9:List Int×Int)=>[(0,.sl 1 eI l),(3,.o 0),(4,.i s9.2)]) (fun s9=>[(0,.val (.os 1 eI s9.1))]) g (fun s9 Y10 g=>?_)) (Wk.mk' [none] rfl rfl ⟨⟨_,rfl,(.eq rfl)⟩,⟨_,rfl,(.nilO _ _ ⟨rfl,rfl⟩ rfl)⟩,ChkG.eqs rfl⟩ ⟨⟨_,rfl,.nil _ _⟩,trivial⟩ rfl))
 refine C.seq (C.ss (U.pd 4 T (C.nx ?_)))
 refine C.ite rfl g (fun b13 g=>?_) fun b13 g=>?_
 refine C.skip (C.xs (C.block (U.start (U.ps 3 T rfl ?_))))
 obtain⟨x16,y16,g⟩:=g
 refine U.ix T y16 ?_
 refine U.ps 1 T rfl (U.k (Q1d s9.1 x16 _ g) QaI (fun x17 g=>?_))
 refine U.pd 1 T (C.bnx (C.nx (U.start ?_)))
 refine U.pd 3 T (C.nx ?_)
 exact St.wk (C.next g) (Wk.a [some 1])
 refine C.exit (C.ex (C.ex (C.bex ?_)))
 exact St.wa [some 0] (j8 _ g)
theorem GH (st:ApiState) (post:(List Int)→Prop) (g:Kd st post):
  Tr Tryz.prog 49 [.agg (Q1 st)] [] 0 (fun A H' k=>∃y,post y∧A=(.o 0)∧H'=[(0,.val (.os 1 eI y))]∧k=1):=by
 refine Tr.go Tryz.func49 Tryz.ntmps49 fun _ _ _ _ o=>?_
 unfold Kd at g
 refine C.ss (U.bx ?_)
 refine U.pd 1 T (C.xt ?_)
 refine U.pd 1 T (C.xs (C.ss ?_))
 refine U.pd 1 T (C.nx ?_)
 refine C.jn (fun (x7:List Int)=>[(1,.p 0 0),(3,.o 1)]) (fun x7=>[(0,.box (Q1 st)),(1,.val (.os 1 eI x7))]) 2 g (fun x7 g=>?_) fun J8 g j8=>?_
 refine C.xs (C.ss (U.pd 1 T (C.nx ?_)))
 refine C.jn (fun (x22:List Int)=>[(1,.p 0 0),(3,.o 1)]) (fun x22=>[(0,.box (Q1 st)),(1,.val (.os 1 eI x22))]) 2 g (fun x22 g=>?_) fun J23 g j23=>?_
 refine C.xs (C.ss (U.pd 1 T (C.nx ?_)))
 refine C.jn (fun (x37:List Int)=>[(3,.o 0)]) (fun x37=>[(0,.val (.os 1 eI x37))]) 1 g (fun x37 g=>?_) fun J38 g j38=>?_
 refine C.xt (U.ps 1 T rfl (U.k (GQ x37 _ g) en55 (fun x52 g=>?_)))
 refine U.pd 1 T (C.nx (C.ret ?_))
 exact C.g1 [some 1] T o ⟨x52,g,rfl,rfl,rfl⟩
 refine C.block (St.wk (C.loop (fun (s39:List Int×Int)=>[(1,.p 0 0),(3,.o 1),(6,.i s39.2)]) (fun s39=>[(0,.box (Q1 st)),(1,.val (.os 1 eI s39.1))]) g (fun s39 Y40 g=>?_)) (Wk.a (idR 2)))
 refine C.seq (C.ss (U.pd 5 T (C.nx ?_)))
 refine C.ite rfl g (fun b43 g=>?_) fun b43 g=>?_
 refine C.skip (C.xs (C.block (U.start (U.ps 3 T rfl (U.k (Q06 st s39.2 _ g) QaG (fun x46 g=>?_))))))
 obtain⟨y47,g⟩:=g
 refine U.ap T y47 ?_
 refine U.pd 1 T (C.bnx (C.nx (U.start ?_)))
 refine U.pd 3 T (C.nx ?_)
 exact St.wk (C.next g) (Wk.a [some 0,some 3])
 refine C.exit (C.ex (C.ex (C.bex ?_)))
 exact St.wa [some 1] (j38 _ g)
 refine C.block (St.wk (C.loop (fun (s24:List Int×Int)=>[(1,.p 0 0),(3,.o 1),(5,.i s24.2)]) (fun s24=>[(0,.box (Q1 st)),(1,.val (.os 1 eI s24.1))]) g (fun s24 Y25 g=>?_)) (Wk.a (idR 2)))
 refine C.seq (C.ss (U.pd 5 T (C.nx ?_)))
 refine C.ite rfl g (fun b28 g=>?_) fun b28 g=>?_
 refine C.skip (C.xs (C.block (U.start (U.ps 3 T rfl (U.k (Q0B st s24.2 _ g) Qbl (fun x31 g=>?_))))))
 obtain⟨y32,g⟩:=g
 refine U.ap T y32 ?_
 refine U.pd 1 T (C.bnx (C.nx (U.start ?_)))
 refine U.pd 3 T (C.nx ?_)
 exact St.wk (C.next g) (Wk.a [some 0,some 3])
 refine C.exit (C.ex (C.ex (C.bex ?_)))
 exact St.wa (idR 2) (j23 _ g)
 refine C.block (St.wk (C.loop (fun (s9:List Int×Int)=>[(1,.p 0 0),(3,.o 1),(4,.i s9.2)]) (fun s9=>[(0,.box (Q1 st)),(1,.val (.os 1 eI s9.1))]) g (fun s9 Y10 g=>?_)) (Wk.mk' [some 0,none] rfl rfl ⟨⟨_,rfl,(.eq rfl)⟩,⟨_,rfl,(.nilO _ _ ⟨rfl,rfl⟩ rfl)⟩,ChkG.eqs rfl⟩ ⟨bX,⟨_,rfl,.nil _ _⟩,trivial⟩ rfl))
 refine C.seq (C.ss (U.pd 5 T (C.nx ?_)))
 refine C.ite rfl g (fun b13 g=>?_) fun b13 g=>?_
 refine C.skip (C.xs (C.block (U.start (U.ps 3 T rfl (U.k (Q0y st s9.2 _ g) QaZ (fun x16 g=>?_))))))
 obtain⟨y17,g⟩:=g
 refine U.ap T y17 ?_
 refine U.pd 1 T (C.bnx (C.nx (U.start ?_)))
 refine U.pd 3 T (C.nx ?_)
 exact St.wk (C.next g) (Wk.a [some 0,some 3])
 refine C.exit (C.ex (C.ex (C.bex ?_)))
 exact St.wa (idR 2) (j8 _ g)
theorem Yo (slots:List Int) (post:(Int×Bool)→Prop) (g:QR slots post):
  Tr Tryz.prog 39 [.sl 1 eI slots] [] 0 (fun A H' k=>∃y,post y∧A=(.tup [.i y.1,.b y.2])∧H'=[]∧k=0):=by
 refine Tr.go Tryz.func39 Tryz.ntmps39 fun _ _ _ _ o=>?_
 unfold QR at g
 refine C.ss (U.pd 2 T (C.xt ?_))
 refine U.pd 1 T (C.xt ?_)
 refine U.pd 1 T (C.xs (C.ss ?_))
 refine U.pd 1 T (C.nx ?_)
 refine C.jn (fun (x9:Bool×Int)=>[(4,.b x9.1),(5,.i x9.2)]) (fun x9=>[]) 0 g (fun x9 g=>?_) fun J10 g j10=>?_
 refine C.xt (U.pd 4 T (C.nx (C.ret ?_)))
 exact C.f9 T o ⟨(x9.2,x9.1),g,rfl,rfl,rfl⟩
 refine C.block (St.wk (C.loop (fun (s11:Bool×Int×Int)=>[(0,.sl 1 eI slots),(4,.b s11.1),(5,.i s11.2.1),(6,.i s11.2.2)]) (fun s11=>[]) g (fun s11 Y12 g=>?_)) (Wk.e))
 refine C.seq (C.ss (U.pd 4 T (C.nx ?_)))
 refine C.ite rfl g (fun b15 g=>?_) fun b15 g=>?_
 refine C.skip (C.xs ?_)
 refine C.jn (fun (x16:Bool×Int)=>[(0,.sl 1 eI slots),(4,.b x16.1),(5,.i x16.2),(6,.i s11.2.2)]) (fun x16=>[]) 0 g (fun x16 g=>?_) fun J17 g j17=>?_
 refine C.nx (U.start (U.pd 3 T (C.nx ?_)))
 exact St.wk (C.next g) (Wk.e)
 refine C.block (C.ss (U.pd 1 T (C.nx ?_)))
 refine C.jn (fun (x20:Bool×Int)=>[(0,.sl 1 eI slots),(4,.b x20.1),(5,.i x20.2),(6,.i s11.2.2)]) (fun x20=>[]) 0 g (fun x20 g=>?_) fun J21 g j21=>?_
 refine C.bnx ?_
 exact St.wn (j17 _ g)
 refine C.block (St.wk (C.loop (fun (s22:Bool×Int×Int)=>[(0,.sl 1 eI slots),(4,.b s22.1),(5,.i s22.2.1),(6,.i s11.2.2),(7,.i s22.2.2)]) (fun s22=>[]) g (fun s22 Y23 g=>?_)) (Wk.e))
 refine C.seq (C.ss (U.pd 3 T (C.nx ?_)))
 refine C.ite rfl g (fun b26 g=>?_) fun b26 g=>?_
 refine C.skip (C.xs (C.block (C.seq ?_)))
 refine C.jn (fun (x27:Bool)=>[(0,.sl 1 eI slots),(4,.b s22.1),(5,.i s22.2.1),(6,.i s11.2.2),(7,.i s22.2.2),(39,.b x27)]) (fun x27=>[]) 0 g (fun x27 g=>?_) fun J28 g j28=>?_
 refine C.nx ?_
 refine C.jn (fun (x33:Bool×Int)=>[(0,.sl 1 eI slots),(4,.b x33.1),(5,.i x33.2),(6,.i s11.2.2),(7,.i s22.2.2)]) (fun x33=>[]) 0 g (fun x33 g=>?_) fun J34 g j34=>?_
 refine C.bnx (C.nx (U.start (U.pd 3 T (C.nx ?_))))
 exact St.wk (C.next g) (Wk.e)
 refine C.ite rfl g (fun b35 g=>?_) fun b35 g=>?_
 refine C.ss (U.ps 2 T rfl ?_)
 obtain⟨x38,y38,g⟩:=g
 refine U.ix T y38 ?_
 refine U.pd 2 T (C.nx (U.start ?_))
 refine U.pd 1 T ?_
 exact St.wn (j34 _ g)
 refine C.skip ?_
 exact St.wn (j34 _ g)
 refine D.bq mix 9999 [] [] (fun hQ hS ws M'=>?_)
 refine D.pq 2 (zl [0,1]) T ?_
 obtain⟨x29,y29,g⟩:=g
 refine D.ix 2 [] T y29 ?_
 refine D.pq 3 (zl [3,4,5]) T ?_
 obtain⟨x30,y30,g⟩:=g
 refine D.ix 6 [] T y30 ?_
 refine D.pq 3 (zl [7,8,9]) T ?_
 refine g.cs (fun b31 g=>?_) fun b31 g=>?_
 refine D.pt 10 [] 9 true 28 b31 T ?_
 refine D.pt 11 [] 9 true 28 b31 T ?_
 refine D.pt 12 [] 9 true 28 b31 T ?_
 refine g.cs (fun b32 g=>?_) fun b32 g=>?_
 refine D.pt 13 [] 12 false 31 (ntF b32) T ?_
 refine D.pt 14 [] 12 false 31 (ntF b32) T ?_
 refine D.q 15 [] hQ hS rfl (.tk 12 false 31 (ntF b32)) rfl rfl (by exact Rd.ix T rfl rfl rfl rfl rfl rfl y29) rfl (by kernel_rfl) ?_
 refine D.q 16 [] hQ hS rfl (.tk 12 false 31 (ntF b32)) rfl rfl (by exact Rd.l T rfl rfl rfl) rfl (by kernel_rfl) ?_
 refine D.pt 17 [] 12 false 31 (ntF b32) T ?_
 refine D.pt 18 [] 12 false 31 (ntF b32) T ?_
 refine D.q 19 [] hQ hS rfl (.tk 9 true 28 b31) rfl rfl (by exact Rd.pk' rfl rfl (ntF b32) rfl) rfl (by kernel_rfl) ?_
 refine D.kt 20 [] b31 ?_
 refine D.done (by kernel_rfl) ?_
 exact St.wn (j28 _ g)
 refine D.sz 13 [] 12 false 31 (ntT b32) ?_
 refine D.sz 14 [] 12 false 31 (ntT b32) ?_
 refine D.sz 15 [] 12 false 31 (ntT b32) ?_
 refine D.sz 16 [] 12 false 31 (ntT b32) ?_
 refine D.sz 17 [] 12 false 31 (ntT b32) ?_
 refine D.sz 18 [] 12 false 31 (ntT b32) ?_
 refine D.q 19 [] hQ hS rfl (.tk 9 true 28 b31) rfl rfl (by exact Rd.pk rfl rfl (ntT b32) rfl) rfl (by kernel_rfl) ?_
 refine D.kt 20 [] b31 ?_
 refine D.done (by kernel_rfl) ?_
 exact St.wn (j28 _ g)
 refine D.sz 10 [] 9 true 28 b31 ?_
 refine D.sz 11 [] 9 true 28 b31 ?_
 refine D.sz 12 [] 9 true 28 b31 ?_
 refine D.sx 13 [] hQ hS (.und 12 false 31 rfl rfl rfl) ?_
 refine D.sx 14 [] hQ hS (.und 12 false 31 rfl rfl rfl) ?_
 refine D.sx 15 [] hQ hS (.und 12 false 31 rfl rfl rfl) ?_
 refine D.sx 16 [] hQ hS (.und 12 false 31 rfl rfl rfl) ?_
 refine D.sx 17 [] hQ hS (.und 12 false 31 rfl rfl rfl) ?_
 refine D.sx 18 [] hQ hS (.und 12 false 31 rfl rfl rfl) ?_
 refine D.sz 19 [] 9 true 28 b31 ?_
 refine D.kf 20 [] b31 ?_
 refine D.done (by kernel_rfl) ?_
 exact St.wn (j28 _ g)
 refine C.exit (C.ex (C.ex (C.bex ?_)))
 exact St.wn (j21 _ g)
 refine C.exit (C.ex (C.ex (C.bex ?_)))
 exact St.wn (j10 _ g)
theorem Q0J (s_1:ApiSite) (st:ApiState) (post:Bool→Prop) (g:Xe s_1 st post):
  Tr Tryz.prog 35 [.agg (Q2 s_1),.agg (Q1 st)] [] 0 (pB post):=by
 refine Tr.go Tryz.func35 Tryz.ntmps35 fun _ _ _ _ o=>?_
 unfold Xe at g
 refine C.ss (U.bx ?_)
 refine U.bx ?_
 refine U.pd 1 T (C.xs (C.seq ?_))
 refine C.jn (fun (x3:Bool)=>[(2,.p 0 0),(3,.p 1 0),(47,.b x3)]) (fun x3=>[(0,.box (Q2 s_1)),(1,.box (Q1 st))]) 2 g (fun x3 g=>?_) fun J4 g j4=>?_
 refine C.nx ?_
 refine C.ite rfl g (fun b9 g=>?_) fun b9 g=>?_
 refine C.ss (U.pd 1 T (C.nx (C.ret (C.rt ?_))))
 exact C.f1 T o (pBi g)
 refine C.skip (C.xs (C.ss (U.pd 1 T (C.nx ?_))))
 refine C.jn (fun (x14:Unit)=>[(2,.p 0 0),(3,.p 1 0)]) (fun x14=>[(0,.box (Q2 s_1)),(1,.box (Q1 st))]) 2 g (fun x14 g=>?_) fun J15 g j15=>?_
 refine C.xs (C.ss (U.pd 1 T (C.nx ?_)))
 refine C.jn (fun (x31:Unit)=>[(2,.p 0 0),(3,.p 1 0)]) (fun x31=>[(0,.box (Q2 s_1)),(1,.box (Q1 st))]) 2 g (fun x31 g=>?_) fun J32 g j32=>?_
 refine C.xs (C.ss (U.pd 1 T (C.nx ?_)))
 refine C.jn (fun (x54:Unit)=>[(2,.p 0 0),(3,.p 1 0)]) (fun x54=>[(0,.box (Q2 s_1)),(1,.box (Q1 st))]) 2 g (fun x54 g=>?_) fun J55 g j55=>?_
 refine C.xt (U.pd 1 T (C.xs (C.ss ?_)))
 refine U.pd 1 T (C.nx ?_)
 refine C.jn (fun (x77:Unit)=>[(2,.p 0 0),(3,.p 1 0)]) (fun x77=>[(0,.box (Q2 s_1)),(1,.box (Q1 st))]) 2 g (fun x77 g=>?_) fun J78 g j78=>?_
 refine C.xt (U.pd 1 T (C.xs (C.ss ?_)))
 refine U.pd 1 T (C.nx ?_)
 refine C.jn (fun (x100:Unit)=>[(3,.p 0 0)]) (fun x100=>[(0,.box (Q1 st))]) 1 g (fun x100 g=>?_) fun J101 g j101=>?_
 refine C.xt (U.ps 1 T rfl (U.k (GH st _ g) en49 (fun x125 g=>?_)))
 refine U.k (Yo x125 _ g) en39 fun x126 g=>?_
 refine U.pd 5 T (C.xt ?_)
 refine U.pd 3 T (C.nx (C.ret ?_))
 exact C.f1 T o (pBi g)
 refine C.block (St.wk (C.loop (fun (s102:Int×Int)=>[(2,.p 0 0),(3,.p 1 0),(10,.i s102.1),(12,.i s102.2)]) (fun s102=>[(0,.box (Q2 s_1)),(1,.box (Q1 st))]) g (fun s102 Y103 g=>?_)) (Wk.a (idR 2)))
 refine C.seq (C.ss (U.pd 5 T (C.nx ?_)))
 refine C.ite rfl g (fun b106 g=>?_) fun b106 g=>?_
 refine C.skip (C.xs (C.block (C.ss (U.ps 3 T rfl ?_))))
 obtain⟨x109,y109,g⟩:=g
 refine U.ix T y109 ?_
 refine U.ps 1 T rfl (U.al T ?_)
 refine U.st T ?_
 refine U.done (C.xs (C.seq ?_))
 refine C.jn (fun (x110:Bool)=>[(2,.p 0 0),(3,.p 1 0),(12,.i s102.2),(13,.p 2 0),(172,.b x110)]) (fun x110=>[(0,.box (Q2 s_1)),(1,.box (Q1 st)),(2,.box [.i x109.Cell,.i x109.Left])]) 3 g (fun x110 g=>?_) fun J111 g j111=>?_
 refine C.nx ?_
 refine C.ite rfl g (fun b116 g=>?_) fun b116 g=>?_
 refine C.ss (U.pd 1 T (C.nx (C.ret (C.rt (C.brt (C.rt (C.rt (C.brt (C.rt ?_)))))))))
 exact C.f1 T o (pBi g)
 refine C.skip (C.nx (U.start (U.pd 3 T (C.bnx (C.nx (U.start ?_))))))
 refine U.pd 3 T (C.nx ?_)
 exact St.wk (C.next g) (Wk.a (idR 2))
 refine U.start (U.ps 5 T rfl ?_)
 refine g.cs (fun b112 g=>?_) fun b112 g=>?_
 refine U.sk' 6 4 false 155 b112 ?_
 refine U.pk b112 ?_
 refine U.ps 1 T rfl (U.sk' 3 12 false 163 rfl ?_)
 refine U.pk rfl ?_
 refine U.ps 1 T rfl (U.sk' 3 17 false 168 rfl ?_)
 refine U.pk rfl ?_
 refine U.done ?_
 exact St.wa (idR 3) (j111 _ g)
 refine U.pq 4 4 false 155 b112 T ?_
 refine U.k (Gq s_1.Floor x109.Cell _ g) en97 (fun x113 g=>?_) (hw:=.take 4 false 155 _ b112 rfl rfl rfl)
 refine U.pq 1 4 false 155 b112 T ?_
 refine U.pk' b112 ?_
 refine U.ps 1 T rfl ?_
 refine g.cs (fun b114 g=>?_) fun b114 g=>?_
 refine U.sk' 3 12 false 163 b114 ?_
 refine U.pk b114 ?_
 refine U.ps 1 T rfl (U.sk' 3 17 false 168 rfl ?_)
 refine U.pk rfl ?_
 refine U.done ?_
 exact St.wa (idR 3) (j111 _ g)
 refine U.pq 3 12 false 163 b114 T ?_
 refine U.pk' b114 ?_
 refine U.ps 1 T rfl ?_
 refine g.cs (fun b115 g=>?_) fun b115 g=>?_
 refine U.sk' 3 17 false 168 b115 ?_
 refine U.pk b115 ?_
 refine U.done ?_
 exact St.wa (idR 3) (j111 _ g)
 refine U.pq 3 17 false 168 b115 T ?_
 refine U.pk' b115 ?_
 refine U.done ?_
 exact St.wa (idR 3) (j111 _ g)
 refine C.exit (C.ex (C.ex (C.bex ?_)))
 exact St.wa [some 1] (j101 _ g)
 refine C.block (St.wk (C.loop (fun (s79:Int×Int)=>[(2,.p 0 0),(3,.p 1 0),(10,.i s79.1),(11,.i s79.2)]) (fun s79=>[(0,.box (Q2 s_1)),(1,.box (Q1 st))]) g (fun s79 Y80 g=>?_)) (Wk.a (idR 2)))
 refine C.seq (C.ss (U.pd 5 T (C.nx ?_)))
 refine C.ite rfl g (fun b83 g=>?_) fun b83 g=>?_
 refine C.skip (C.xs (C.block (C.seq (C.seq ?_))))
 refine C.jn (fun (x84:Bool)=>[(2,.p 0 0),(3,.p 1 0),(11,.i s79.2),(133,.b x84)]) (fun x84=>[(0,.box (Q2 s_1)),(1,.box (Q1 st))]) 2 g (fun x84 g=>?_) fun J85 g j85=>?_
 refine C.nx ?_
 refine C.ite rfl g (fun b88 g=>?_) fun b88 g=>?_
 refine C.ss (U.pd 1 T (C.nx (C.ret (C.rt (C.brt (C.rt (C.rt (C.brt (C.rt ?_)))))))))
 exact C.f1 T o (pBi g)
 refine C.skip (C.nx (U.start (U.ps 3 T rfl ?_)))
 obtain⟨x93,y93,g⟩:=g
 refine U.ix T y93 ?_
 refine U.pd 2 T (C.bnx (C.nx (U.start ?_)))
 refine U.pd 3 T (C.nx ?_)
 exact St.wk (C.next g) (Wk.a (idR 2))
 refine D.bq mix 9999 [0,1] [] (fun hQ hS ws M'=>?_)
 refine D.pq 3 (zl [0,1,2]) T ?_
 obtain⟨x86,y86,g⟩:=g
 refine D.ix 3 [] T y86 ?_
 refine D.pq 4 (zl [4,5,6,7]) T ?_
 refine g.cs (fun b87 g=>?_) fun b87 g=>?_
 refine D.sz 8 [] 7 false 122 b87 ?_
 refine D.sz 9 [] 7 false 122 b87 ?_
 refine D.sz 10 [] 7 false 122 b87 ?_
 refine D.sz 11 [] 7 false 122 b87 ?_
 refine D.sz 12 [] 7 false 122 b87 ?_
 refine D.sz 13 [] 7 false 122 b87 ?_
 refine D.sz 14 [] 7 false 122 b87 ?_
 refine D.sz 15 [] 7 false 122 b87 ?_
 refine D.sz 16 [] 7 false 122 b87 ?_
 refine D.sz 17 [] 7 false 122 b87 ?_
 refine D.kt 18 [] b87 ?_
 refine D.done (by kernel_rfl) ?_
 exact St.wa (idR 2) (j85 _ g)
 refine D.pt 8 [] 7 false 122 b87 T ?_
 refine D.q 9 [] hQ hS rfl (.tk 7 false 122 b87) rfl rfl (by exact Rd.l T rfl rfl rfl) rfl (by kernel_rfl) ?_
 refine D.pt 10 [] 7 false 122 b87 T ?_
 refine D.q 11 [] hQ hS rfl (.tk 7 false 122 b87) rfl rfl (by exact Rd.ix T rfl rfl rfl rfl rfl rfl y86) rfl (by kernel_rfl) ?_
 refine D.q 12 [] hQ hS rfl (.tk 7 false 122 b87) rfl rfl (by exact Rd.l T rfl rfl rfl) rfl (by kernel_rfl) ?_
 refine D.pt 13 [] 7 false 122 b87 T ?_
 refine D.pt 14 [] 7 false 122 b87 T ?_
 refine D.q 15 [] hQ hS rfl (.tk 7 false 122 b87) rfl rfl (by exact Rd.l T rfl rfl rfl) rfl (by kernel_rfl) ?_
 refine D.pt 16 [] 7 false 122 b87 T ?_
 refine D.pt 17 [] 7 false 122 b87 T ?_
 refine D.kf 18 [] b87 ?_
 refine D.done (by kernel_rfl) ?_
 exact St.wa (idR 2) (j85 _ g)
 refine C.exit (C.ex (C.ex (C.bex ?_)))
 exact St.wa (idR 2) (j78 _ g)
 refine C.block (St.wk (C.loop (fun (s56:Int)=>[(2,.p 0 0),(3,.p 1 0),(8,.i s56)]) (fun s56=>[(0,.box (Q2 s_1)),(1,.box (Q1 st))]) g (fun s56 Y57 g=>?_)) (Wk.a (idR 2)))
 refine C.seq (C.ss (U.pd 5 T (C.nx ?_)))
 refine C.ite rfl g (fun b60 g=>?_) fun b60 g=>?_
 refine C.skip (C.xs (C.block (C.seq (D.bq mix 9999 [0,1] [] (fun hQ hS ws M'=>?_)))))
 refine D.pq 5 (zl [0,1,2,3,4]) T ?_
 obtain⟨x63,y63,g⟩:=g
 refine D.ix 5 [] T y63 ?_
 refine D.pq 1 [(6,[])] T ?_
 refine D.k 7 (Gq s_1.Floor x63 _ g) en97 fun x64 g=>?_
 refine D.pq 1 [(8,[])] T ?_
 refine D.done (by kernel_rfl) ?_
 refine C.xs ?_
 refine C.jn (fun (x65:Bool)=>[(2,.p 0 0),(3,.p 1 0),(8,.i s56),(107,.b x65)]) (fun x65=>[(0,.box (Q2 s_1)),(1,.box (Q1 st))]) 2 g (fun x65 g=>?_) fun J66 g j66=>?_
 refine C.nx ?_
 refine C.ite rfl g (fun b68 g=>?_) fun b68 g=>?_
 refine C.ss (U.pd 1 T (C.nx (C.ret (C.brt (C.rt (C.rt (C.brt (C.rt ?_))))))))
 exact C.f1 T o (pBi g)
 refine C.skip (C.bnx (C.nx (U.start (U.pd 3 T (C.nx ?_)))))
 exact St.wk (C.next g) (Wk.a (idR 2))
 refine U.start (U.ps 3 T rfl ?_)
 refine g.cs (fun b67 g=>?_) fun b67 g=>?_
 refine U.pq 2 2 true 104 b67 T ?_
 refine U.pk b67 ?_
 refine U.done ?_
 exact St.wa (idR 2) (j66 _ g)
 refine U.sk' 2 2 true 104 b67 ?_
 refine U.pk' b67 ?_
 refine U.done ?_
 exact St.wa (idR 2) (j66 _ g)
 refine C.exit (C.ex (C.ex (C.bex ?_)))
 exact St.wa (idR 2) (j55 _ g)
 refine C.block (St.wk (C.loop (fun (s33:Int)=>[(2,.p 0 0),(3,.p 1 0),(6,.i s33)]) (fun s33=>[(0,.box (Q2 s_1)),(1,.box (Q1 st))]) g (fun s33 Y34 g=>?_)) (Wk.a (idR 2)))
 refine C.seq (C.ss (U.pd 5 T (C.nx ?_)))
 refine C.ite rfl g (fun b37 g=>?_) fun b37 g=>?_
 refine C.skip (C.xs (C.block (C.seq (D.bq mix 9999 [0,1] [] (fun hQ hS ws M'=>?_)))))
 refine D.pq 5 (zl [0,1,2,3,4]) T ?_
 obtain⟨x40,y40,g⟩:=g
 refine D.ix 5 [] T y40 ?_
 refine D.pq 1 [(6,[])] T ?_
 refine D.k 7 (Gq s_1.Floor x40 _ g) en97 fun x41 g=>?_
 refine D.pq 1 [(8,[])] T ?_
 refine D.done (by kernel_rfl) ?_
 refine C.xs ?_
 refine C.jn (fun (x42:Bool)=>[(2,.p 0 0),(3,.p 1 0),(6,.i s33),(86,.b x42)]) (fun x42=>[(0,.box (Q2 s_1)),(1,.box (Q1 st))]) 2 g (fun x42 g=>?_) fun J43 g j43=>?_
 refine C.nx ?_
 refine C.ite rfl g (fun b47 g=>?_) fun b47 g=>?_
 refine C.ss (U.pd 1 T (C.nx (C.ret (C.brt (C.rt (C.rt (C.brt (C.rt ?_))))))))
 exact C.f1 T o (pBi g)
 refine C.skip (C.bnx (C.nx (U.start (U.pd 3 T (C.nx ?_)))))
 exact St.wk (C.next g) (Wk.a (idR 2))
 refine U.start (U.ps 2 T rfl (U.k (Gy st s33 _ g) en98 (fun x44 g=>?_)))
 refine U.ps 2 T rfl ?_
 refine g.cs (fun b45 g=>?_) fun b45 g=>?_
 refine U.pq 2 4 true 79 b45 T ?_
 refine U.pk b45 ?_
 refine U.ps 1 T rfl ?_
 refine g.cs (fun b46 g=>?_) fun b46 g=>?_
 refine U.pq 2 8 true 83 b46 T ?_
 refine U.pk b46 ?_
 refine U.done ?_
 exact St.wa (idR 2) (j43 _ g)
 refine U.sk' 2 8 true 83 b46 ?_
 refine U.pk' b46 ?_
 refine U.done ?_
 exact St.wa (idR 2) (j43 _ g)
 refine U.sk' 2 4 true 79 b45 ?_
 refine U.pk' b45 ?_
 refine U.ps 1 T rfl (U.sk' 2 8 true 83 rfl ?_)
 refine U.pk' rfl ?_
 refine U.done ?_
 exact St.wa (idR 2) (j43 _ g)
 refine C.exit (C.ex (C.ex (C.bex ?_)))
 exact St.wa (idR 2) (j32 _ g)
 refine C.block (St.wk (C.loop (fun (s16:Int)=>[(2,.p 0 0),(3,.p 1 0),(5,.i s16)]) (fun s16=>[(0,.box (Q2 s_1)),(1,.box (Q1 st))]) g (fun s16 Y17 g=>?_)) (Wk.a (idR 2)))
 refine C.seq (C.ss (U.pd 5 T (C.nx ?_)))
 refine C.ite rfl g (fun b20 g=>?_) fun b20 g=>?_
 refine C.skip (C.xs (C.block (C.ss (U.ps 3 T rfl (U.k (Q0O s_1 st s16 _ g) en96 (fun x23 g=>?_))))))
 refine U.pd 1 T (C.nx ?_)
 refine C.ite rfl g (fun b24 g=>?_) fun b24 g=>?_
 refine C.ss (U.pd 1 T (C.nx (C.ret (C.brt (C.rt (C.rt (C.brt (C.rt ?_))))))))
 exact C.f1 T o (pBi g)
 refine C.skip (C.bnx (C.nx (U.start (U.pd 3 T (C.nx ?_)))))
 exact St.wk (C.next g) (Wk.a (idR 2))
 refine C.exit (C.ex (C.ex (C.bex ?_)))
 exact St.wa (idR 2) (j15 _ g)
 refine U.start (U.ps 4 T rfl ?_)
 refine g.cs (fun b5 g=>?_) fun b5 g=>?_
 refine U.sk' 3 3 false 19 b5 ?_
 refine U.pk b5 ?_
 refine U.ps 1 T rfl (U.sk' 7 8 false 24 rfl ?_)
 refine U.pk rfl ?_
 refine U.ps 1 T rfl (U.sk' 7 17 false 33 rfl ?_)
 refine U.pk rfl ?_
 refine U.ps 1 T rfl (U.sk' 4 26 false 42 rfl ?_)
 refine U.pk rfl ?_
 refine U.done ?_
 exact St.wa (idR 2) (j4 _ g)
 refine U.pq 3 3 false 19 b5 T ?_
 refine U.pk' b5 ?_
 refine U.ps 1 T rfl ?_
 refine g.cs (fun b6 g=>?_) fun b6 g=>?_
 refine U.sk' 7 8 false 24 b6 ?_
 refine U.pk b6 ?_
 refine U.ps 1 T rfl (U.sk' 7 17 false 33 rfl ?_)
 refine U.pk rfl ?_
 refine U.ps 1 T rfl (U.sk' 4 26 false 42 rfl ?_)
 refine U.pk rfl ?_
 refine U.done ?_
 exact St.wa (idR 2) (j4 _ g)
 refine U.pq 7 8 false 24 b6 T ?_
 refine U.pk' b6 ?_
 refine U.ps 1 T rfl ?_
 refine g.cs (fun b7 g=>?_) fun b7 g=>?_
 refine U.sk' 7 17 false 33 b7 ?_
 refine U.pk b7 ?_
 refine U.ps 1 T rfl (U.sk' 4 26 false 42 rfl ?_)
 refine U.pk rfl ?_
 refine U.done ?_
 exact St.wa (idR 2) (j4 _ g)
 refine U.pq 7 17 false 33 b7 T ?_
 refine U.pk' b7 ?_
 refine U.ps 1 T rfl ?_
 refine g.cs (fun b8 g=>?_) fun b8 g=>?_
 refine U.sk' 4 26 false 42 b8 ?_
 refine U.pk b8 ?_
 refine U.done ?_
 exact St.wa (idR 2) (j4 _ g)
 refine U.pq 4 26 false 42 b8 T ?_
 refine U.pk' b8 ?_
 refine U.done ?_
 exact St.wa (idR 2) (j4 _ g)
theorem Q1p (l:List K0) (most:Int) (post:Bool→Prop) (g:XK l most post):
  Tr Tryz.prog 25 [.sl 4 QJ l,.i most] [] 0 (pB post):=by
 refine Tr.go Tryz.func25 Tryz.ntmps25 fun _ _ _ _ o=>?_
 unfold XK at g
 refine C.ss (U.pd 1 T (C.xs (C.ss ?_)))
 refine U.pd 1 T (C.nx ?_)
 refine C.jn (fun (x5:Unit)=>[(0,.sl 4 QJ l),(1,.i most)]) (fun x5=>[]) 0 g (fun x5 g=>?_) fun J6 g j6=>?_
 refine C.xt (U.pd 5 T (C.nx (C.ret ?_)))
 exact C.f1 T o (pBi g)
 refine C.block (St.wk (C.loop (fun (s7:Int)=>[(0,.sl 4 QJ l),(1,.i most),(5,.i s7)]) (fun s7=>[]) g (fun s7 Y8 g=>?_)) (Wk.e))
 refine C.seq (C.seq ?_)
 refine C.jn (fun (x9:Bool)=>[(0,.sl 4 QJ l),(1,.i most),(5,.i s7),(14,.b x9)]) (fun x9=>[]) 0 g (fun x9 g=>?_) fun J10 g j10=>?_
 refine C.nx ?_
 refine C.ite rfl g (fun b12 g=>?_) fun b12 g=>?_
 refine C.skip (C.xs (C.block (C.ss (U.ps 2 T rfl ?_))))
 obtain⟨x15,y15,g⟩:=g
 refine U.ix T y15 ?_
 refine U.pd 4 T (C.nx ?_)
 refine C.ite rfl g (fun b16 g=>?_) fun b16 g=>?_
 refine C.ss (U.pd 1 T (C.nx (C.ret (C.brt (C.rt (C.rt (C.brt (C.rt ?_))))))))
 exact C.f1 T o (pBi g)
 refine C.skip (C.bnx (C.nx (U.start (U.pd 3 T (C.nx ?_)))))
 exact St.wk (C.next g) (Wk.e)
 refine C.exit (C.ex (C.ex (C.bex ?_)))
 exact St.wn (j6 _ g)
 refine U.start (U.ps 5 T rfl ?_)
 refine g.cs (fun b11 g=>?_) fun b11 g=>?_
 refine U.pq 3 4 true 10 b11 T ?_
 refine U.pk b11 ?_
 refine U.done ?_
 exact St.wn (j10 _ g)
 refine U.sk' 3 4 true 10 b11 ?_
 refine U.pk' b11 ?_
 refine U.done ?_
 exact St.wn (j10 _ g)
theorem Q0P (s_1:ApiSite) (st:ApiState) (l:List K0) (most:Int) (post:Bool→Prop) (g:Xh s_1 st l most post):
  Tr Tryz.prog 9 [.agg (Q2 s_1),.agg (Q1 st),.sl 4 QJ l,.i most] [] 0 (pB post):=by
 refine Tr.go Tryz.func9 Tryz.ntmps9 fun _ _ _ _ o=>?_
 unfold Xh at g
 refine C.ss (U.bx ?_)
 refine U.bx ?_
 refine U.pd 1 T (C.xs ?_)
 refine C.jn (fun (x3:Bool)=>[(8,.b x3)]) (fun x3=>[]) 0 g (fun x3 g=>?_) fun J4 g j4=>?_
 refine C.nx (C.ret ?_)
 exact C.f1 T o (pBi g)
 refine U.start (U.ps 1 T rfl (U.k (Q1A s_1 30 6 _ g) en20 (fun x5 g=>?_)))
 refine U.ps 1 T rfl ?_
 refine g.cs (fun b6 g=>?_) fun b6 g=>?_
 refine U.pq 1 2 true 11 b6 T ?_
 refine U.k (Q0q s_1 _ g) en34 (fun x7 g=>?_) (hw:=.take 2 true 11 _ b6 rfl rfl rfl)
 refine U.pk b6 ?_
 refine U.ps 1 T rfl ?_
 refine g.cs (fun b8 g=>?_) fun b8 g=>?_
 refine U.pq 1 6 true 15 b8 T ?_
 refine U.k (Q1t st _ g) en22 (fun x9 g=>?_) (hw:=.take 6 true 15 _ b8 rfl rfl rfl)
 refine U.pk b8 ?_
 refine U.ps 1 T rfl ?_
 refine g.cs (fun b10 g=>?_) fun b10 g=>?_
 refine U.pq 2 10 true 19 b10 T ?_
 refine U.k (Q0J s_1 st _ g) en35 (fun x11 g=>?_) (hw:=.take 10 true 19 _ b10 rfl rfl rfl)
 refine U.pk b10 ?_
 refine U.ps 1 T rfl ?_
 refine g.cs (fun b12 g=>?_) fun b12 g=>?_
 refine U.pq 2 15 true 24 b12 T ?_
 refine U.k (Q1p l most _ g) en25 (fun x13 g=>?_) (hw:=.take 15 true 24 _ b12 rfl rfl rfl)
 refine U.pk b12 ?_
 refine U.pd 1 T ?_
 exact St.wn (j4 _ g)
 refine U.sk' 3 15 true 24 b12 ?_
 refine U.pk' b12 ?_
 refine U.pd 1 T ?_
 exact St.wn (j4 _ g)
 refine U.sk' 3 10 true 19 b10 ?_
 refine U.pk' b10 ?_
 refine U.ps 1 T rfl (U.sk' 3 15 true 24 rfl ?_)
 refine U.pk' rfl ?_
 refine U.pd 1 T ?_
 exact St.wn (j4 _ g)
 refine U.sk' 2 6 true 15 b8 ?_
 refine U.pk' b8 ?_
 refine U.ps 1 T rfl (U.sk' 3 10 true 19 rfl ?_)
 refine U.pk' rfl ?_
 refine U.ps 1 T rfl (U.sk' 3 15 true 24 rfl ?_)
 refine U.pk' rfl ?_
 refine U.pd 1 T ?_
 exact St.wn (j4 _ g)
 refine U.sk' 2 2 true 11 b6 ?_
 refine U.pk' b6 ?_
 refine U.ps 1 T rfl (U.sk' 2 6 true 15 rfl ?_)
 refine U.pk' rfl ?_
 refine U.ps 1 T rfl (U.sk' 3 10 true 19 rfl ?_)
 refine U.pk' rfl ?_
 refine U.ps 1 T rfl (U.sk' 3 15 true 24 rfl ?_)
 refine U.pk' rfl ?_
 refine U.pd 1 T ?_
 exact St.wn (j4 _ g)
theorem YD (act:Int) (post:Bool→Prop) (g:Kj act post):
  Tr Tryz.prog 106 [.i act] [] 0 (pB post):=by
 refine Tr.go Tryz.func106 Tryz.ntmps106 fun _ _ _ _ o=>?_
 unfold Kj at g
 refine C.ss (U.pd 1 T (C.xs ?_))
 refine C.jn (fun (x3:Bool)=>[(2,.b x3)]) (fun x3=>[]) 0 g (fun x3 g=>?_) fun J4 g j4=>?_
 refine C.nx (C.ret ?_)
 exact C.f1 T o (pBi g)
 refine U.start (U.ps 3 T rfl ?_)
 refine g.cs (fun b5 g=>?_) fun b5 g=>?_
 refine U.pq 2 2 true 5 b5 T ?_
 refine U.pk b5 ?_
 refine U.pd 1 T ?_
 exact St.wn (j4 _ g)
 refine U.sk' 2 2 true 5 b5 ?_
 refine U.pk' b5 ?_
 refine U.pd 1 T ?_
 exact St.wn (j4 _ g)
theorem Q1z (act:Int) (post:Bool→Prop) (g:GJ act post):
  Tr Tryz.prog 170 [.i act] [] 0 (pB post):=by
 refine Tr.go Tryz.func170 Tryz.ntmps170 fun _ _ _ _ o=>?_
 unfold GJ at g
 refine C.ss (U.pd 1 T (C.xs ?_))
 refine C.jn (fun (x3:Bool)=>[(2,.b x3)]) (fun x3=>[]) 0 g (fun x3 g=>?_) fun J4 g j4=>?_
 refine C.nx (C.ret ?_)
 exact C.f1 T o (pBi g)
 refine U.start (U.ps 3 T rfl ?_)
 refine g.cs (fun b5 g=>?_) fun b5 g=>?_
 refine U.pq 2 2 true 5 b5 T ?_
 refine U.pk b5 ?_
 refine U.pd 1 T ?_
 exact St.wn (j4 _ g)
 refine U.sk' 2 2 true 5 b5 ?_
 refine U.pk' b5 ?_
 refine U.pd 1 T ?_
 exact St.wn (j4 _ g)
theorem Q0U (act:Int) (laden:Bool) (post:Int→Prop) (g:XG act laden post):
  Tr Tryz.prog 210 [.i act,.b laden] [] 0 (pI post):=by
 refine Tr.go Tryz.func210 Tryz.ntmps210 fun _ _ _ _ o=>?_
 unfold XG at g
 refine C.ss (U.pd 1 T (C.xs (C.seq ?_)))
 refine C.jn (fun (x3:Bool)=>[(0,.i act),(1,.b laden),(11,.b x3)]) (fun x3=>[]) 0 g (fun x3 g=>?_) fun J4 g j4=>?_
 refine C.nx ?_
 refine C.ite rfl g (fun b6 g=>?_) fun b6 g=>?_
 refine C.ss (U.pd 1 T (C.nx (C.ret (C.rt ?_))))
 exact C.f1 T o (pIi g)
 refine C.skip (C.xs (C.ss (U.pd 2 T (C.nx ?_))))
 refine C.ite rfl g (fun b11 g=>?_) fun b11 g=>?_
 refine C.ss (U.pd 1 T (C.nx (C.ret (C.rt ?_))))
 exact C.f1 T o (pIi g)
 refine C.skip (C.xs (C.seq ?_))
 refine C.jn (fun (x14:Bool)=>[(0,.i act),(1,.b laden),(19,.b x14)]) (fun x14=>[]) 0 g (fun x14 g=>?_) fun J15 g j15=>?_
 refine C.nx ?_
 refine C.ite rfl g (fun b17 g=>?_) fun b17 g=>?_
 refine C.ss (U.pd 1 T (C.nx (C.ret (C.rt ?_))))
 exact C.f1 T o (pIi g)
 refine C.skip (C.xt (U.pd 1 T (C.xs (C.ss ?_))))
 refine U.pd 2 T (C.nx ?_)
 refine C.jn (fun (x24:Int)=>[(0,.i act),(1,.b laden),(5,.i x24)]) (fun x24=>[]) 0 g (fun x24 g=>?_) fun J25 g j25=>?_
 refine C.xs (C.ss (U.pd 2 T (C.nx ?_)))
 refine C.jn (fun (x31:Int)=>[(1,.b laden),(5,.i x31)]) (fun x31=>[]) 0 g (fun x31 g=>?_) fun J32 g j32=>?_
 refine C.xs (C.ss (U.pd 1 T (C.nx ?_)))
 refine C.jn (fun (x38:Int)=>[(5,.i x38)]) (fun x38=>[]) 0 g (fun x38 g=>?_) fun J39 g j39=>?_
 refine C.xt (U.pd 2 T (C.nx (C.ret ?_)))
 exact C.f1 T o (pIi g)
 refine C.ite rfl g (fun b40 g=>?_) fun b40 g=>?_
 refine U.start (U.pd 3 T ?_)
 exact St.wn (j39 _ g)
 refine C.skip ?_
 exact St.wn (j39 _ g)
 refine C.ite rfl g (fun b33 g=>?_) fun b33 g=>?_
 refine U.start (U.pd 1 T ?_)
 exact St.wn (j32 _ g)
 refine C.skip ?_
 exact St.wn (j32 _ g)
 refine C.ite rfl g (fun b26 g=>?_) fun b26 g=>?_
 refine U.start (U.pd 1 T ?_)
 exact St.wn (j25 _ g)
 refine C.skip ?_
 exact St.wn (j25 _ g)
 refine U.start (U.ps 3 T rfl ?_)
 refine g.cs (fun b16 g=>?_) fun b16 g=>?_
 refine U.sk' 2 2 false 16 b16 ?_
 refine U.pk b16 ?_
 refine U.done ?_
 exact St.wn (j15 _ g)
 refine U.pq 2 2 false 16 b16 T ?_
 refine U.pk' b16 ?_
 refine U.done ?_
 exact St.wn (j15 _ g)
 refine U.start (U.ps 3 T rfl ?_)
 refine g.cs (fun b5 g=>?_) fun b5 g=>?_
 refine U.sk' 2 2 false 8 b5 ?_
 refine U.pk b5 ?_
 refine U.done ?_
 exact St.wn (j4 _ g)
 refine U.pq 2 2 false 8 b5 T ?_
 refine U.pk' b5 ?_
 refine U.done ?_
 exact St.wn (j4 _ g)
theorem Q1D (tick:Int) (post:Int→Prop) (g:XM tick post):
  Tr Tryz.prog 211 [.i tick] [] 0 (pI post):=by
 refine Tr.go Tryz.func211 Tryz.ntmps211 fun _ _ _ _ o=>?_
 unfold XM at g
 refine C.ss (U.pd 1 T (C.xs (C.ss ?_)))
 refine U.pd 2 T (C.nx ?_)
 refine C.ite rfl g (fun b5 g=>?_) fun b5 g=>?_
 refine C.ss (U.pd 1 T (C.nx (C.ret (C.rt ?_))))
 exact C.f1 T o (pIi g)
 refine C.skip (C.xs (C.ss (U.pd 2 T (C.nx ?_))))
 refine C.ite rfl g (fun b10 g=>?_) fun b10 g=>?_
 refine C.ss (U.pd 1 T (C.nx (C.ret (C.rt ?_))))
 exact C.f1 T o (pIi g)
 refine C.skip (C.xt (U.ps 1 T rfl (U.r rfl (.none rfl) rfl rfl (by exact Rd.dv rfl rfl rfl rfl (by decide)) ?_)))
 refine U.pd 1 T (C.nx (C.ret ?_))
 exact C.f1 T o (pIi g)
theorem Q1j (tick:Int) (act:Int) (laden:Bool) (post:Int→Prop) (g:Xy tick act laden post):
  Tr Tryz.prog 172 [.i tick,.i act,.b laden] [] 0 (pI post):=by
 refine Tr.go Tryz.func172 Tryz.ntmps172 fun _ _ _ _ o=>?_
 unfold Xy at g
 refine C.ss (U.pd 1 T (C.xt ?_))
 refine U.ps 2 T rfl (U.k (Q0U act laden _ g) Qb1 (fun x5 g=>?_))
 refine U.ps 1 T rfl (U.k (Q1D tick _ g) QbJ (fun x6 g=>?_))
 refine U.pd 3 T (C.xs (C.ss ?_))
 refine U.ps 1 T rfl (U.r rfl (.none rfl) rfl rfl (by exact Rd.rm rfl rfl rfl rfl (by decide)) ?_)
 refine U.pd 1 T (C.nx ?_)
 refine C.ite rfl g (fun b10 g=>?_) fun b10 g=>?_
 refine C.ss (U.ps 1 T rfl (U.r rfl (.none rfl) rfl rfl (by exact Rd.dv rfl rfl rfl rfl (by decide)) ?_))
 refine U.pd 2 T (C.nx (C.ret (C.rt ?_)))
 exact C.f1 T o (pIi g)
 refine C.skip (C.xt (U.ps 1 T rfl (U.r rfl (.none rfl) rfl rfl (by exact Rd.dv rfl rfl rfl rfl (by decide)) ?_)))
 refine U.pd 1 T (C.nx (C.ret ?_))
 exact C.f1 T o (pIi g)
theorem Q0D (charge:Int) (cost:Int) (post:(Int×Int)→Prop) (g:G9 charge cost post):
  Tr Tryz.prog 171 [.i charge,.i cost] [] 0 (fun A H' k=>∃y,post y∧A=(.tup [.i y.1,.i y.2])∧H'=[]∧k=0):=by
 refine Tr.go Tryz.func171 Tryz.ntmps171 fun _ _ _ _ o=>?_
 unfold G9 at g
 refine C.ss (U.pd 2 T (C.xs (C.seq ?_)))
 refine C.jn (fun (x3:Bool)=>[(0,.i charge),(1,.i cost),(15,.b x3)]) (fun x3=>[]) 0 g (fun x3 g=>?_) fun J4 g j4=>?_
 refine C.nx ?_
 refine C.ite rfl g (fun b7 g=>?_) fun b7 g=>?_
 refine C.ss (U.pd 3 T (C.nx (C.ret (C.rt ?_))))
 exact C.f9 T o ⟨(charge,1),g,rfl,rfl,rfl⟩
 refine C.skip (C.xs (C.ss (U.pd 3 T (C.nx ?_))))
 refine C.ite rfl g (fun b12 g=>?_) fun b12 g=>?_
 refine C.ss (U.pd 3 T (C.nx (C.ret (C.rt ?_))))
 exact C.f9 T o ⟨(charge,16),g,rfl,rfl,rfl⟩
 refine C.skip (C.xt (U.pd 5 T (C.nx (C.ret ?_))))
 exact C.f9 T o ⟨(w64 (charge-cost),0),g,rfl,rfl,rfl⟩
 refine U.start (U.ps 3 T rfl ?_)
 refine g.cs (fun b5 g=>?_) fun b5 g=>?_
 refine U.sk' 2 2 false 8 b5 ?_
 refine U.pk b5 ?_
 refine U.ps 1 T rfl (U.sk' 2 6 false 12 rfl ?_)
 refine U.pk rfl ?_
 refine U.done ?_
 exact St.wn (j4 _ g)
 refine U.pq 2 2 false 8 b5 T ?_
 refine U.pk' b5 ?_
 refine U.ps 1 T rfl ?_
 refine g.cs (fun b6 g=>?_) fun b6 g=>?_
 refine U.sk' 2 6 false 12 b6 ?_
 refine U.pk b6 ?_
 refine U.done ?_
 exact St.wn (j4 _ g)
 refine U.pq 2 6 false 12 b6 T ?_
 refine U.pk' b6 ?_
 refine U.done ?_
 exact St.wn (j4 _ g)
theorem Ya (tick:Int) (charge:Int) (act:Int) (laden:Bool) (post:(Int×Int)→Prop) (g:KD tick charge act laden post):
  Tr Tryz.prog 107 [.i tick,.i charge,.i act,.b laden] [] 0 (fun A H' k=>∃y,post y∧A=(.tup [.i y.1,.i y.2])∧H'=[]∧k=0):=by
 refine Tr.go Tryz.func107 Tryz.ntmps107 fun _ _ _ _ o=>?_
 unfold KD at g
 refine C.ss (U.pd 2 T (C.xs (C.seq ?_)))
 refine C.jn (fun (x3:Bool)=>[(0,.i tick),(1,.i charge),(2,.i act),(3,.b laden),(20,.b x3)]) (fun x3=>[]) 0 g (fun x3 g=>?_) fun J4 g j4=>?_
 refine C.nx ?_
 refine C.ite rfl g (fun b8 g=>?_) fun b8 g=>?_
 refine C.ss (U.pd 3 T (C.nx (C.ret (C.rt ?_))))
 exact C.f9 T o ⟨(charge,1),g,rfl,rfl,rfl⟩
 refine C.skip (C.xs (C.ss (U.pd 2 T (C.nx ?_))))
 refine C.ite rfl g (fun b13 g=>?_) fun b13 g=>?_
 refine C.seq (C.ss (U.pd 2 T (C.nx ?_)))
 refine C.ite rfl g (fun b16 g=>?_) fun b16 g=>?_
 refine C.ss (U.pd 2 T (C.nx (C.ret (C.rt (C.rt ?_)))))
 exact C.f9 T o ⟨(1000000,0),g,rfl,rfl,rfl⟩
 refine C.skip (C.xt (U.pd 4 T (C.nx (C.ret (C.rt ?_)))))
 exact C.f9 T o ⟨(w64 (charge+20),0),g,rfl,rfl,rfl⟩
 refine C.skip (C.xt (U.ps 4 T rfl (U.k (Q1j tick act laden _ g) QaS (fun x23 g=>?_))))
 refine U.k (Q0D charge x23 _ g) QbF fun x24 g=>?_
 refine U.pd 4 T (C.nx (C.ret ?_))
 exact C.f9 T o ⟨(x24.1,x24.2),g,rfl,rfl,rfl⟩
 refine U.start (U.ps 3 T rfl ?_)
 refine g.cs (fun b5 g=>?_) fun b5 g=>?_
 refine U.sk' 2 2 false 12 b5 ?_
 refine U.pk b5 ?_
 refine U.ps 1 T rfl (U.sk' 3 6 false 16 rfl ?_)
 refine U.pk rfl ?_
 refine U.done ?_
 exact St.wn (j4 _ g)
 refine U.pq 2 2 false 12 b5 T ?_
 refine U.pk' b5 ?_
 refine U.ps 1 T rfl ?_
 refine g.cs (fun b6 g=>?_) fun b6 g=>?_
 refine U.sk' 3 6 false 16 b6 ?_
 refine U.pk b6 ?_
 refine U.done ?_
 exact St.wn (j4 _ g)
 refine U.pq 1 6 false 16 b6 T ?_
 refine U.k (Q1z act _ g) Qb8 (fun x7 g=>?_) (hw:=.take 6 false 16 _ b6 rfl rfl rfl)
 refine U.pq 1 6 false 16 b6 T ?_
 refine U.pk' b6 ?_
 refine U.done ?_
 exact St.wn (j4 _ g)
theorem Zk (s_1:ApiSite) (st:ApiState) (post:(List Int)→Prop) (g:K5 s_1 st post):
  Tr Tryz.prog 173 [.agg (Q2 s_1),.agg (Q1 st)] [] 0 (fun A H' k=>∃y,post y∧A=(.o 0)∧H'=[(0,.val (.os 1 eI y))]∧k=1):=by
 refine Tr.go Tryz.func173 Tryz.ntmps173 fun _ _ _ _ o=>?_
 unfold K5 at g
 refine C.ss (U.bx ?_)
 refine U.bx ?_
 refine U.pd 1 T (C.xt ?_)
 refine U.ps 4 T rfl ?_
 obtain⟨y5,g⟩:=g
 refine U.e1 rfl (.none rfl) (by exact Eff1.mk T (enc:=eI) (z0:=0) rfl rfl rfl rfl rfl rfl rfl rfl rfl rfl y5) ?_
 refine U.pd 1 T (C.xs (C.ss ?_))
 refine U.pd 1 T (C.nx ?_)
 refine C.jn (fun (x8:List Int)=>[(2,.p 0 0),(3,.p 1 0),(5,.o 2)]) (fun x8=>[(0,.box (Q2 s_1)),(1,.box (Q1 st)),(2,.val (.os 1 eI x8))]) 3 g (fun x8 g=>?_) fun J9 g j9=>?_
 refine C.xt (U.ps 3 T rfl ?_)
 obtain⟨y22,g⟩:=g
 refine U.e1 rfl (.none rfl) (by exact Eff1.mk T (enc:=eB) (z0:=false) rfl rfl rfl rfl rfl rfl rfl rfl rfl rfl y22) ?_
 refine U.pd 1 T (C.xs (C.ss ?_))
 refine U.pd 1 T (C.nx ?_)
 refine C.jn (fun (x25:List Bool)=>[(2,.p 0 0),(3,.p 1 0),(5,.o 2),(7,.o 3)]) (fun x25=>[(0,.box (Q2 s_1)),(1,.box (Q1 st)),(2,.val (.os 1 eI x8)),(3,.val (.os 1 eB x25))]) 4 g (fun x25 g=>?_) fun J26 g j26=>?_
 refine C.xs (C.ss (U.pd 5 T (C.nx ?_)))
 refine C.jn (fun (x48:List Int)=>[(5,.o 0)]) (fun x48=>[(0,.val (.os 1 eI x48))]) 1 g (fun x48 g=>?_) fun J49 g j49=>?_
 refine C.xt (U.pd 2 T (C.nx (C.ret ?_)))
 exact C.g1 [some 0] T o ⟨x48,g,rfl,rfl,rfl⟩
 refine C.block (St.wk (C.loop (fun (s50:List Int×Int)=>[(2,.p 0 0),(3,.p 1 0),(5,.o 2),(7,.o 3),(10,.i s50.2)]) (fun s50=>[(0,.box (Q2 s_1)),(1,.box (Q1 st)),(2,.val (.os 1 eI s50.1)),(3,.val (.os 1 eB x25))]) g (fun s50 Y51 g=>?_)) (Wk.a (idR 4)))
 refine C.seq (C.ss (U.pd 2 T (C.nx ?_)))
 refine C.ite rfl g (fun b54 g=>?_) fun b54 g=>?_
 refine C.skip (C.xs (C.block (C.seq ?_)))
 refine C.jn (fun (x55:Bool)=>[(2,.p 0 0),(3,.p 1 0),(5,.o 2),(7,.o 3),(10,.i s50.2),(75,.b x55)]) (fun x55=>[(0,.box (Q2 s_1)),(1,.box (Q1 st)),(2,.val (.os 1 eI s50.1)),(3,.val (.os 1 eB x25))]) 4 g (fun x55 g=>?_) fun J56 g j56=>?_
 refine C.nx ?_
 refine C.jn (fun (x61:List Int)=>[(2,.p 0 0),(3,.p 1 0),(5,.o 2),(7,.o 3),(10,.i s50.2)]) (fun x61=>[(0,.box (Q2 s_1)),(1,.box (Q1 st)),(2,.val (.os 1 eI x61)),(3,.val (.os 1 eB x25))]) 4 g (fun x61 g=>?_) fun J62 g j62=>?_
 refine C.bnx (C.nx (U.start (U.pd 3 T (C.nx ?_))))
 exact St.wk (C.next g) (Wk.a (idR 4))
 refine C.ite rfl g (fun b63 g=>?_) fun b63 g=>?_
 refine U.start (U.ps 4 T rfl ?_)
 obtain⟨x66,y66,g⟩:=g
 refine U.ix T y66 ?_
 refine U.ps 2 T rfl ?_
 obtain⟨x67,y67,g⟩:=g
 refine U.r rfl (.none rfl) rfl rfl (by exact Rd.io T rfl rfl rfl rfl rfl rfl rfl y67) ?_
 refine U.e1 rfl (.none rfl) (by exact Eff1.se T (z':=s50.2) rfl rfl rfl (Qj y67).2.2 rfl rfl rfl rfl rfl rfl rfl rfl (fun _=>rfl) rfl) ?_
 refine U.done ?_
 exact St.wa (idR 4) (j62 _ g)
 refine C.skip ?_
 exact St.wa (idR 4) (j62 _ g)
 refine D.bq mix 9999 [0,1,3] [] (fun hQ hS ws M'=>?_)
 refine D.pq 2 (zl [0,1]) T ?_
 obtain⟨x57,y57,g⟩:=g
 refine D.q 2 [] hQ hS rfl (.none rfl) rfl rfl (by exact Rd.io T rfl rfl rfl rfl rfl rfl rfl y57) rfl (by kernel_rfl) ?_
 refine D.q 3 [] hQ hS rfl (.none rfl) rfl rfl (by exact Rd.le T rfl rfl rfl (Qj y57).2.2 rfl rfl rfl) rfl (by kernel_rfl) ?_
 refine D.pq 2 (zl [4,5]) T ?_
 refine g.cs (fun b58 g=>?_) fun b58 g=>?_
 refine D.sz 6 [] 5 true 66 (ntF b58) ?_
 refine D.sz 7 [] 5 true 66 (ntF b58) ?_
 refine D.sz 8 [] 5 true 66 (ntF b58) ?_
 refine D.sz 9 [] 5 true 66 (ntF b58) ?_
 refine D.sz 10 [] 5 true 66 (ntF b58) ?_
 refine D.sz 11 [] 5 true 66 (ntF b58) ?_
 refine D.sz 12 [] 5 true 66 (ntF b58) ?_
 refine D.sz 13 [] 5 true 66 (ntF b58) ?_
 refine D.kf 14 [] (ntF b58) ?_
 refine D.done (by kernel_rfl) ?_
 exact St.wa (idR 4) (j56 _ g)
 refine D.pt 6 [] 5 true 66 (ntT b58) T ?_
 refine D.q 7 [] hQ hS rfl (.tk 5 true 66 (ntT b58)) rfl rfl (by exact Rd.l T rfl rfl rfl) rfl (by kernel_rfl) ?_
 refine D.pt 8 [] 5 true 66 (ntT b58) T ?_
 refine D.q 9 [] hQ hS rfl (.tk 5 true 66 (ntT b58)) rfl rfl (by exact Rd.l T rfl rfl rfl) rfl (by kernel_rfl) ?_
 refine D.pt 10 [] 5 true 66 (ntT b58) T ?_
 obtain⟨x59,y59,g⟩:=g
 refine D.q 11 [] hQ hS rfl (.tk 5 true 66 (ntT b58)) rfl rfl (by exact Rd.ix T rfl rfl rfl rfl rfl rfl y59) rfl (by kernel_rfl) ?_
 refine D.q 12 [] hQ hS rfl (.tk 5 true 66 (ntT b58)) rfl rfl (by exact Rd.l T rfl rfl rfl) rfl (by kernel_rfl) ?_
 refine D.k 13 (K1 s_1.Floor x59 _ g) en89 (fun x60 g=>?_) (hw:=.take 5 true 66 _ (ntT b58) rfl rfl rfl)
 refine D.kt 14 [] (ntT b58) ?_
 refine D.done (by kernel_rfl) ?_
 exact St.wa (idR 4) (j56 _ g)
 refine C.exit (C.ex (C.ex (C.bex ?_)))
 exact St.wa [some 2] (j49 _ g)
 refine C.block (St.wk (C.loop (fun (s27:List Bool×Int)=>[(2,.p 0 0),(3,.p 1 0),(5,.o 2),(7,.o 3),(8,.i s27.2)]) (fun s27=>[(0,.box (Q2 s_1)),(1,.box (Q1 st)),(2,.val (.os 1 eI x8)),(3,.val (.os 1 eB s27.1))]) g (fun s27 Y28 g=>?_)) (Wk.a (idR 4)))
 refine C.seq (C.ss (U.pd 5 T (C.nx ?_)))
 refine C.ite rfl g (fun b31 g=>?_) fun b31 g=>?_
 refine C.skip (C.xs (C.block (C.ss (U.ps 3 T rfl ?_))))
 obtain⟨x34,y34,g⟩:=g
 refine U.ix T y34 ?_
 refine U.pd 3 T (C.xs ?_)
 refine C.jn (fun (x35:Bool)=>[(2,.p 0 0),(3,.p 1 0),(5,.o 2),(7,.o 3),(8,.i s27.2),(9,.i x34.Load),(49,.b x35)]) (fun x35=>[(0,.box (Q2 s_1)),(1,.box (Q1 st)),(2,.val (.os 1 eI x8)),(3,.val (.os 1 eB s27.1))]) 4 g (fun x35 g=>?_) fun J36 g j36=>?_
 refine C.nx ?_
 refine C.jn (fun (x38:List Bool)=>[(2,.p 0 0),(3,.p 1 0),(5,.o 2),(7,.o 3),(8,.i s27.2)]) (fun x38=>[(0,.box (Q2 s_1)),(1,.box (Q1 st)),(2,.val (.os 1 eI x8)),(3,.val (.os 1 eB x38))]) 4 g (fun x38 g=>?_) fun J39 g j39=>?_
 refine C.bnx (C.nx (U.start (U.pd 3 T (C.nx ?_))))
 exact St.wk (C.next g) (Wk.a (idR 4))
 refine C.ite rfl g (fun b40 g=>?_) fun b40 g=>?_
 refine U.start (U.ps 2 T rfl ?_)
 obtain⟨x43,y43,g⟩:=g
 refine U.r rfl (.none rfl) rfl rfl (by exact Rd.io T rfl rfl rfl rfl rfl rfl rfl y43) ?_
 refine U.e1 rfl (.none rfl) (by exact Eff1.se T (z':=true) rfl rfl rfl (Qj y43).2.2 rfl rfl rfl rfl rfl rfl rfl rfl (fun _=>rfl) rfl) ?_
 refine U.done ?_
 exact St.wa (idR 4) (j39 _ g)
 refine C.skip ?_
 exact St.wa (idR 4) (j39 _ g)
 refine U.start (U.ps 3 T rfl ?_)
 refine g.cs (fun b37 g=>?_) fun b37 g=>?_
 refine U.pq 4 2 true 44 b37 T ?_
 refine U.pk b37 ?_
 refine U.done ?_
 exact St.wa (idR 4) (j36 _ g)
 refine U.sk' 4 2 true 44 b37 ?_
 refine U.pk' b37 ?_
 refine U.done ?_
 exact St.wa (idR 4) (j36 _ g)
 refine C.exit (C.ex (C.ex (C.bex ?_)))
 exact St.wa (idR 4) (j26 _ g)
 refine C.block (St.wk (C.loop (fun (s10:List Int×Int)=>[(2,.p 0 0),(3,.p 1 0),(5,.o 2),(6,.i s10.2)]) (fun s10=>[(0,.box (Q2 s_1)),(1,.box (Q1 st)),(2,.val (.os 1 eI s10.1))]) g (fun s10 Y11 g=>?_)) (Wk.a (idR 3)))
 refine C.seq (C.ss (U.pd 4 T (C.nx ?_)))
 refine C.ite rfl g (fun b14 g=>?_) fun b14 g=>?_
 refine C.skip (C.xs (C.block (U.start (U.ps 2 T rfl ?_))))
 obtain⟨x17,y17,g⟩:=g
 refine U.r rfl (.none rfl) rfl rfl (by exact Rd.io T rfl rfl rfl rfl rfl rfl rfl y17) ?_
 refine U.e1 rfl (.none rfl) (by exact Eff1.se T (z':=(-1)) rfl rfl rfl (Qj y17).2.2 rfl rfl rfl rfl rfl rfl rfl rfl (fun _=>rfl) rfl) ?_
 refine U.done (C.bnx (C.nx (U.start (U.pd 3 T (C.nx ?_)))))
 exact St.wk (C.next g) (Wk.a (idR 3))
 refine C.exit (C.ex (C.ex (C.bex ?_)))
 exact St.wa (idR 3) (j9 _ g)
theorem Ze (s_1:ApiSite) (st:ApiState) (c:Int) (post:Int→Prop) (g:Xs s_1 st c post):
  Tr Tryz.prog 108 [.agg (Q2 s_1),.agg (Q1 st),.i c] [] 0 (pI post):=by
 refine Tr.go Tryz.func108 Tryz.ntmps108 fun _ _ _ _ o=>?_
 unfold Xs at g
 refine C.ss (U.bx ?_)
 refine U.bx ?_
 refine U.pd 1 T (C.xs (C.ss ?_))
 refine U.ps 3 T rfl (U.k (K1 s_1.Floor c _ g) en89 (fun x5 g=>?_))
 refine U.pd 1 T (C.nx ?_)
 refine C.ite rfl g (fun b6 g=>?_) fun b6 g=>?_
 refine C.ss (U.pd 1 T (C.nx (C.ret (C.rt ?_))))
 exact C.f1 T o (pIi g)
 refine C.skip (C.xt (U.ps 2 T rfl (U.k (Zk s_1 st _ g) Qbq (fun x11 g=>?_))))
 refine U.ps 1 T rfl ?_
 obtain⟨x12,y12,g⟩:=g
 refine U.r rfl (.none rfl) rfl rfl (by exact Rd.io T rfl rfl rfl rfl rfl rfl rfl y12) ?_
 refine U.r rfl (.none rfl) rfl rfl (by exact Rd.le T rfl rfl rfl (Qj y12).2.2 rfl rfl rfl) ?_
 refine U.pd 1 T (C.nx (C.ret ?_))
 exact C.f1 T o (pIi g)
theorem Q05 (s_1:ApiSite) (c:Int) (post:Bool→Prop) (g:X1 s_1 c post):
  Tr Tryz.prog 174 [.agg (Q2 s_1),.i c] [] 0 (pB post):=by
 refine Tr.go Tryz.func174 Tryz.ntmps174 fun _ _ _ _ o=>?_
 unfold X1 at g
 refine C.ss (U.bx ?_)
 refine U.pd 1 T (C.xs (C.ss ?_))
 refine U.ps 3 T rfl (U.k (K1 s_1.Floor c _ g) en89 (fun x5 g=>?_))
 refine U.pd 1 T (C.nx ?_)
 refine C.ite rfl g (fun b6 g=>?_) fun b6 g=>?_
 refine C.ss (U.pd 1 T (C.nx (C.ret (C.rt ?_))))
 exact C.f1 T o (pBi g)
 refine C.skip (C.xs ?_)
 refine C.jn (fun (x9:Bool)=>[(4,.b x9)]) (fun x9=>[]) 0 g (fun x9 g=>?_) fun J10 g j10=>?_
 refine C.nx (C.ret ?_)
 exact C.f1 T o (pBi g)
 refine U.start (U.ps 4 T rfl ?_)
 obtain⟨x11,y11,g⟩:=g
 refine U.ix T y11 ?_
 refine U.ps 3 T rfl ?_
 refine g.cs (fun b12 g=>?_) fun b12 g=>?_
 refine U.sk' 7 7 false 17 b12 ?_
 refine U.pk b12 ?_
 refine U.pd 1 T ?_
 exact St.wn (j10 _ g)
 refine U.pq 4 7 false 17 b12 T ?_
 refine U.r rfl (.tk 7 false 17 b12) rfl rfl (by exact Rd.ix T rfl rfl rfl rfl rfl rfl y11) ?_
 refine U.pq 2 7 false 17 b12 T ?_
 refine U.pk' b12 ?_
 refine U.pd 1 T ?_
 exact St.wn (j10 _ g)
theorem ZJ (st:ApiState) (shelf:Int) (post:Int→Prop) (g:KL st shelf post):
  Tr Tryz.prog 175 [.agg (Q1 st),.i shelf] [] 0 (pI post):=by
 refine Tr.go Tryz.func175 Tryz.ntmps175 fun _ _ _ _ o=>?_
 unfold KL at g
 refine C.ss (U.bx ?_)
 refine U.pd 1 T (C.xs (C.ss ?_))
 refine U.pd 1 T (C.nx ?_)
 refine C.jn (fun (x5:Unit)=>[]) (fun x5=>[]) 0 g (fun x5 g=>?_) fun J6 g j6=>?_
 refine C.xt (U.pd 1 T (C.nx (C.ret ?_)))
 exact C.f1 T o (pIi g)
 refine C.block (St.wk (C.loop (fun (s7:Int)=>[(1,.i shelf),(2,.p 0 0),(5,.i s7)]) (fun s7=>[(0,.box (Q1 st))]) g (fun s7 Y8 g=>?_)) (Wk.a [some 0]))
 refine C.seq (C.seq ?_)
 refine C.jn (fun (x9:Bool)=>[(1,.i shelf),(2,.p 0 0),(5,.i s7),(14,.b x9)]) (fun x9=>[(0,.box (Q1 st))]) 1 g (fun x9 g=>?_) fun J10 g j10=>?_
 refine C.nx ?_
 refine C.ite rfl g (fun b12 g=>?_) fun b12 g=>?_
 refine C.skip (C.xs (C.block (C.ss (U.ps 3 T rfl ?_))))
 obtain⟨x15,y15,g⟩:=g
 refine U.ix T y15 ?_
 refine U.pd 4 T (C.nx ?_)
 refine C.ite rfl g (fun b16 g=>?_) fun b16 g=>?_
 refine C.ss (U.pd 2 T (C.nx (C.ret (C.brt (C.rt (C.rt (C.brt (C.rt ?_))))))))
 exact C.f1 T o (pIi g)
 refine C.skip (C.bnx (C.nx (U.start (U.pd 3 T (C.nx ?_)))))
 exact St.wk (C.next g) (Wk.a [some 0])
 refine C.exit (C.ex (C.ex (C.bex ?_)))
 exact St.wk (j6 _ g) (Wk.mk' [] rfl rfl trivial trivial rfl)
 refine U.start (U.ps 6 T rfl ?_)
 refine g.cs (fun b11 g=>?_) fun b11 g=>?_
 refine U.pq 2 5 true 11 b11 T ?_
 refine U.pk b11 ?_
 refine U.done ?_
 exact St.wa [some 0] (j10 _ g)
 refine U.sk' 2 5 true 11 b11 ?_
 refine U.pk' b11 ?_
 refine U.done ?_
 exact St.wa [some 0] (j10 _ g)
theorem Wi (f:Q6) (a:Int) (b:Int) (post:Bool→Prop) (g:Kg f a b post):
  Tr Tryz.prog 50 [.agg (Qd f),.i a,.i b] [] 0 (pB post):=by
 refine Tr.go Tryz.func50 Tryz.ntmps50 fun _ _ _ _ o=>?_
 unfold Kg at g
 refine C.ss (U.bx ?_)
 refine U.pd 1 T (C.xs (C.ss ?_))
 refine U.pd 1 T (C.nx ?_)
 refine C.jn (fun (x5:Unit)=>[]) (fun x5=>[]) 0 g (fun x5 g=>?_) fun J6 g j6=>?_
 refine C.xt (U.pd 1 T (C.nx (C.ret ?_)))
 exact C.f1 T o (pBi g)
 refine C.block (St.wk (C.loop (fun (s7:Int)=>[(1,.i a),(2,.i b),(3,.p 0 0),(7,.i s7)]) (fun s7=>[(0,.box (Qd f))]) g (fun s7 Y8 g=>?_)) (Wk.a [some 0]))
 refine C.seq (C.ss (U.pd 2 T (C.nx ?_)))
 refine C.ite rfl g (fun b11 g=>?_) fun b11 g=>?_
 refine C.skip (C.xs (C.block (C.seq ?_)))
 refine C.jn (fun (x12:Bool)=>[(1,.i a),(2,.i b),(3,.p 0 0),(7,.i s7),(22,.b x12)]) (fun x12=>[(0,.box (Qd f))]) 1 g (fun x12 g=>?_) fun J13 g j13=>?_
 refine C.nx ?_
 refine C.ite rfl g (fun b17 g=>?_) fun b17 g=>?_
 refine C.ss (U.pd 1 T (C.nx (C.ret (C.brt (C.rt (C.rt (C.brt (C.rt ?_))))))))
 exact C.f1 T o (pBi g)
 refine C.skip (C.bnx (C.nx (U.start (U.pd 3 T (C.nx ?_)))))
 exact St.wk (C.next g) (Wk.a [some 0])
 refine U.start (U.ps 2 T rfl (U.k (K1 f b _ g) en89 (fun x14 g=>?_)))
 refine U.ps 1 T rfl ?_
 refine g.cs (fun b15 g=>?_) fun b15 g=>?_
 refine U.pq 3 3 true 15 b15 T ?_
 refine U.k (GR f a s7 _ g) Q9d (fun x16 g=>?_) (hw:=.take 3 true 15 _ b15 rfl rfl rfl)
 refine U.pq 2 3 true 15 b15 T ?_
 refine U.pk b15 ?_
 refine U.done ?_
 exact St.wa [some 0] (j13 _ g)
 refine U.sk' 6 3 true 15 b15 ?_
 refine U.pk' b15 ?_
 refine U.done ?_
 exact St.wa [some 0] (j13 _ g)
 refine C.exit (C.ex (C.ex (C.bex ?_)))
 exact St.wk (j6 _ g) (Wk.mk' [] rfl rfl trivial trivial rfl)
theorem Y3 (s_1:ApiSite) (shelf:Int) (post:ByteArray→Prop) (g:KA s_1 shelf post):
  Tr Tryz.prog 177 [.agg (Q2 s_1),.i shelf] [] 0 (fun A H' k=>∃y,post y∧A=(.v (.string y))∧H'=[]∧k=0):=by
 refine Tr.go Tryz.func177 Tryz.ntmps177 fun _ _ _ _ o=>?_
 unfold KA at g
 refine C.ss (U.bx ?_)
 refine U.pd 1 T (C.xs (C.seq ?_))
 refine C.jn (fun (x3:Bool)=>[(1,.i shelf),(2,.p 0 0),(13,.b x3)]) (fun x3=>[(0,.box (Q2 s_1))]) 1 g (fun x3 g=>?_) fun J4 g j4=>?_
 refine C.nx ?_
 refine C.ite rfl g (fun b6 g=>?_) fun b6 g=>?_
 refine C.ss (U.pd 1 T (C.nx (C.ret (C.rt ?_))))
 exact C.f1 T o ⟨ByteArray.empty,g,rfl,rfl,rfl⟩
 refine C.skip (C.xt (U.ps 3 T rfl ?_))
 obtain⟨x11,y11,g⟩:=g
 refine U.ix T y11 ?_
 refine U.pd 3 T (C.nx (C.ret ?_))
 exact C.f1 T o ⟨x11.Class,g,rfl,rfl,rfl⟩
 refine U.start (U.ps 3 T rfl ?_)
 refine g.cs (fun b5 g=>?_) fun b5 g=>?_
 refine U.sk' 5 2 false 7 b5 ?_
 refine U.pk b5 ?_
 refine U.done ?_
 exact St.wa [some 0] (j4 _ g)
 refine U.pq 5 2 false 7 b5 T ?_
 refine U.pk' b5 ?_
 refine U.done ?_
 exact St.wa [some 0] (j4 _ g)
theorem Q0E (s_1:ApiSite) (a:ByteArray) (b:ByteArray) (post:Bool→Prop) (g:Xm s_1 a b post):
  Tr Tryz.prog 176 [.agg (Q2 s_1),.v (.string a),.v (.string b)] [] 0 (pB post):=by
 refine Tr.go Tryz.func176 Tryz.ntmps176 fun _ _ _ _ o=>?_
 unfold Xm at g
 refine C.ss (U.bx ?_)
 refine U.pd 1 T (C.xs (C.ss ?_))
 refine U.pd 1 T (C.nx ?_)
 refine C.jn (fun (x5:Unit)=>[]) (fun x5=>[]) 0 g (fun x5 g=>?_) fun J6 g j6=>?_
 refine C.xt (U.pd 1 T (C.nx (C.ret ?_)))
 exact C.f1 T o (pBi g)
 refine C.block (St.wk (C.loop (fun (s7:Int)=>[(1,.v (.string a)),(2,.v (.string b)),(3,.p 0 0),(7,.i s7)]) (fun s7=>[(0,.box (Q2 s_1))]) g (fun s7 Y8 g=>?_)) (Wk.a [some 0]))
 refine C.seq (C.seq ?_)
 refine C.jn (fun (x9:Bool)=>[(1,.v (.string a)),(2,.v (.string b)),(3,.p 0 0),(7,.i s7),(21,.b x9)]) (fun x9=>[(0,.box (Q2 s_1))]) 1 g (fun x9 g=>?_) fun J10 g j10=>?_
 refine C.nx ?_
 refine C.ite rfl g (fun b13 g=>?_) fun b13 g=>?_
 refine C.skip (C.xs (C.block (C.ss (U.ps 3 T rfl ?_))))
 obtain⟨x16,y16,g⟩:=g
 refine U.ix T y16 ?_
 refine U.ps 1 T rfl (U.al T ?_)
 refine U.st T ?_
 refine U.done (C.xs ?_)
 refine C.jn (fun (x17:Bool)=>[(1,.v (.string a)),(2,.v (.string b)),(3,.p 0 0),(7,.i s7),(50,.b x17)]) (fun x17=>[(0,.box (Q2 s_1))]) 1 g (fun x17 g=>?_) fun J18 g j18=>?_
 refine C.nx ?_
 refine C.ite rfl g (fun b23 g=>?_) fun b23 g=>?_
 refine C.ss (U.pd 1 T (C.nx (C.ret (C.brt (C.rt (C.rt (C.brt (C.rt ?_))))))))
 exact C.f1 T o (pBi g)
 refine C.skip (C.bnx (C.nx (U.start (U.pd 3 T (C.nx ?_)))))
 exact St.wk (C.next g) (Wk.a [some 0])
 refine U.start (U.ps 5 T rfl ?_)
 refine g.cs (fun b19 g=>?_) fun b19 g=>?_
 refine U.pq 4 4 true 33 b19 T ?_
 refine U.pk b19 ?_
 refine U.ps 1 T rfl ?_
 refine g.cs (fun b20 g=>?_) fun b20 g=>?_
 refine U.sk' 5 10 false 39 b20 ?_
 refine U.sku 4 15 true 44 rfl rfl rfl ?_
 refine U.sk' 1 10 false 39 b20 ?_
 refine U.pk b20 ?_
 refine U.done ?_
 exact St.wa [some 0] (j18 _ g)
 refine U.pq 5 10 false 39 b20 T ?_
 refine g.cs (fun b21 g=>?_) fun b21 g=>?_
 refine U.pq 4 15 true 44 b21 T ?_
 refine U.r rfl (.tk 10 false 39 b20) rfl rfl (by exact Rd.pk rfl rfl b21 rfl) ?_
 refine U.pk' b20 ?_
 refine U.done ?_
 exact St.wa [some 0] (j18 _ g)
 refine U.sk' 4 15 true 44 b21 ?_
 refine U.r rfl (.tk 10 false 39 b20) rfl rfl (by exact Rd.pk' rfl rfl b21 rfl) ?_
 refine U.pk' b20 ?_
 refine U.done ?_
 exact St.wa [some 0] (j18 _ g)
 refine U.sk' 4 4 true 33 b19 ?_
 refine U.pk' b19 ?_
 refine U.ps 1 T rfl (U.pq 5 10 false 39 rfl T ?_)
 refine g.cs (fun b22 g=>?_) fun b22 g=>?_
 refine U.pq 4 15 true 44 b22 T ?_
 refine U.r rfl (.tk 10 false 39 rfl) rfl rfl (by exact Rd.pk rfl rfl b22 rfl) ?_
 refine U.pk' rfl ?_
 refine U.done ?_
 exact St.wa [some 0] (j18 _ g)
 refine U.sk' 4 15 true 44 b22 ?_
 refine U.r rfl (.tk 10 false 39 rfl) rfl rfl (by exact Rd.pk' rfl rfl b22 rfl) ?_
 refine U.pk' rfl ?_
 refine U.done ?_
 exact St.wa [some 0] (j18 _ g)
 refine C.exit (C.ex (C.ex (C.bex ?_)))
 exact St.wk (j6 _ g) (Wk.mk' [] rfl rfl trivial trivial rfl)
 refine U.start (U.ps 6 T rfl ?_)
 refine g.cs (fun b11 g=>?_) fun b11 g=>?_
 refine U.pq 2 5 true 14 b11 T ?_
 refine U.pk b11 ?_
 refine U.ps 1 T rfl ?_
 refine g.cs (fun b12 g=>?_) fun b12 g=>?_
 refine U.sk' 2 9 true 18 (ntF b12) ?_
 refine U.pk' (ntF b12) ?_
 refine U.done ?_
 exact St.wa [some 0] (j10 _ g)
 refine U.pq 2 9 true 18 (ntT b12) T ?_
 refine U.pk (ntT b12) ?_
 refine U.done ?_
 exact St.wa [some 0] (j10 _ g)
 refine U.sk' 2 5 true 14 b11 ?_
 refine U.pk' b11 ?_
 refine U.ps 1 T rfl (U.sk' 2 9 true 18 rfl ?_)
 refine U.pk' rfl ?_
 refine U.done ?_
 exact St.wa [some 0] (j10 _ g)
theorem Q1a (s_1:ApiSite) (st:ApiState) (shelf:Int) (c:Int) (post:Int→Prop) (g:XB s_1 st shelf c post):
  Tr Tryz.prog 109 [.agg (Q2 s_1),.agg (Q1 st),.i shelf,.i c] [] 0 (pI post):=by
 refine Tr.go Tryz.func109 Tryz.ntmps109 fun _ _ _ _ o=>?_
 unfold XB at g
 refine C.ss (U.bx ?_)
 refine U.bx ?_
 refine U.pd 1 T (C.xs (C.seq ?_))
 refine C.jn (fun (x3:Bool)=>[(2,.i shelf),(3,.i c),(4,.p 0 0),(5,.p 1 0),(19,.b x3)]) (fun x3=>[(0,.box (Q2 s_1)),(1,.box (Q1 st))]) 2 g (fun x3 g=>?_) fun J4 g j4=>?_
 refine C.nx ?_
 refine C.ite rfl g (fun b6 g=>?_) fun b6 g=>?_
 refine C.ss (U.pd 1 T (C.nx (C.ret (C.rt ?_))))
 exact C.f1 T o (pIi g)
 refine C.skip (C.xs (C.ss (U.ps 2 T rfl (U.k (Q05 s_1 c _ g) QbD (fun x11 g=>?_)))))
 refine U.pd 1 T (C.nx ?_)
 refine C.ite rfl g (fun b12 g=>?_) fun b12 g=>?_
 refine C.ss (U.pd 1 T (C.nx (C.ret (C.rt ?_))))
 exact C.f1 T o (pIi g)
 refine C.skip (C.xt (U.pd 1 T (C.xs (C.ss ?_))))
 refine U.pd 1 T (C.nx ?_)
 refine C.jn (fun (x19:Int)=>[(9,.i x19)]) (fun x19=>[]) 0 g (fun x19 g=>?_) fun J20 g j20=>?_
 refine C.xt (U.pd 2 T (C.nx (C.ret ?_)))
 exact C.f1 T o (pIi g)
 refine C.block (St.wk (C.loop (fun (s21:Int×Int)=>[(2,.i shelf),(3,.i c),(4,.p 0 0),(5,.p 1 0),(9,.i s21.1),(10,.i s21.2)]) (fun s21=>[(0,.box (Q2 s_1)),(1,.box (Q1 st))]) g (fun s21 Y22 g=>?_)) (Wk.a (idR 2)))
 refine C.seq (C.ss (U.pd 5 T (C.nx ?_)))
 refine C.ite rfl g (fun b25 g=>?_) fun b25 g=>?_
 refine C.skip (C.xs ?_)
 refine C.jn (fun (x26:Int)=>[(2,.i shelf),(3,.i c),(4,.p 0 0),(5,.p 1 0),(9,.i x26),(10,.i s21.2)]) (fun x26=>[(0,.box (Q2 s_1)),(1,.box (Q1 st))]) 2 g (fun x26 g=>?_) fun J27 g j27=>?_
 refine C.nx (U.start (U.pd 3 T (C.nx ?_)))
 exact St.wk (C.next g) (Wk.a (idR 2))
 refine C.block (C.seq (C.seq ?_))
 refine C.jn (fun (x28:Bool)=>[(2,.i shelf),(3,.i c),(4,.p 0 0),(5,.p 1 0),(9,.i s21.1),(10,.i s21.2),(39,.b x28)]) (fun x28=>[(0,.box (Q2 s_1)),(1,.box (Q1 st))]) 2 g (fun x28 g=>?_) fun J29 g j29=>?_
 refine C.nx ?_
 refine C.ite rfl g (fun b32 g=>?_) fun b32 g=>?_
 refine C.exit (C.ex (C.bex ?_))
 exact St.wa (idR 2) (j27 _ g)
 refine C.skip (C.xs (C.ss (U.ps 3 T rfl ?_)))
 obtain⟨x35,y35,g⟩:=g
 refine U.ix T y35 ?_
 refine U.pd 3 T (C.nx ?_)
 refine C.ite rfl g (fun b36 g=>?_) fun b36 g=>?_
 refine C.ss (U.pd 1 T (C.nx (C.ret (C.rt (C.brt (C.rt (C.rt (C.brt (C.rt ?_)))))))))
 exact C.f1 T o (pIi g)
 refine C.skip (C.xs ?_)
 refine C.jn (fun (x39:Bool)=>[(2,.i shelf),(3,.i c),(4,.p 0 0),(5,.p 1 0),(9,.i s21.1),(10,.i s21.2),(65,.b x39)]) (fun x39=>[(0,.box (Q2 s_1)),(1,.box (Q1 st))]) 2 g (fun x39 g=>?_) fun J40 g j40=>?_
 refine C.nx ?_
 refine C.jn (fun (x46:Int)=>[(2,.i shelf),(3,.i c),(4,.p 0 0),(5,.p 1 0),(9,.i x46),(10,.i s21.2)]) (fun x46=>[(0,.box (Q2 s_1)),(1,.box (Q1 st))]) 2 g (fun x46 g=>?_) fun J47 g j47=>?_
 refine C.bnx ?_
 exact St.wa (idR 2) (j27 _ g)
 refine C.ite rfl g (fun b48 g=>?_) fun b48 g=>?_
 refine U.start (U.pd 1 T ?_)
 exact St.wa (idR 2) (j47 _ g)
 refine C.skip ?_
 exact St.wa (idR 2) (j47 _ g)
 refine D.bq mix 9999 [0,1] [] (fun hQ hS ws M'=>?_)
 refine D.pq 5 (zl [0,1,2,3,4]) T ?_
 refine D.ix 5 [] T y35 ?_
 refine D.pq 2 (zl [6,7]) T ?_
 refine D.k 8 (Wi s_1.Floor x35 c _ g) en50 fun x41 g=>?_
 refine D.pq 1 [(9,[])] T ?_
 refine g.cs (fun b42 g=>?_) fun b42 g=>?_
 refine D.q 10 [] hQ hS rfl (.tk 9 true 56 b42) rfl rfl (by exact Rd.l T rfl rfl rfl) rfl (by kernel_rfl) ?_
 refine D.q 11 [] hQ hS rfl (.tk 9 true 56 b42) rfl rfl (by exact Rd.l T rfl rfl rfl) rfl (by kernel_rfl) ?_
 refine D.pt 12 [] 9 true 56 b42 T ?_
 refine D.q 14 [] hQ hS rfl (.tk 9 true 56 b42) rfl rfl (by exact Rd.l T rfl rfl rfl) rfl (by kernel_rfl) ?_
 refine D.pt 15 [] 9 true 56 b42 T ?_
 refine D.k 13 (Y3 s_1 shelf _ g) Qad (fun x43 g=>?_) (hw:=.take 9 true 56 _ b42 rfl rfl rfl)
 refine D.k 16 (Y3 s_1 s21.2 _ g) Qad (fun x44 g=>?_) (hw:=.take 9 true 56 _ b42 rfl rfl rfl)
 refine D.k 17 (Q0E s_1 x43 x44 _ g) QbC (fun x45 g=>?_) (hw:=.take 9 true 56 _ b42 rfl rfl rfl)
 refine D.kt 18 [] b42 ?_
 refine D.done (by kernel_rfl) ?_
 exact St.wa (idR 2) (j40 _ g)
 refine D.sz 10 [] 9 true 56 b42 ?_
 refine D.sz 11 [] 9 true 56 b42 ?_
 refine D.sz 12 [] 9 true 56 b42 ?_
 refine D.sz 13 [] 9 true 56 b42 ?_
 refine D.sz 14 [] 9 true 56 b42 ?_
 refine D.sz 15 [] 9 true 56 b42 ?_
 refine D.sz 16 [] 9 true 56 b42 ?_
 refine D.sz 17 [] 9 true 56 b42 ?_
 refine D.kf 18 [] b42 ?_
 refine D.done (by kernel_rfl) ?_
 exact St.wa (idR 2) (j40 _ g)
 refine U.start (U.ps 4 T rfl ?_)
 refine g.cs (fun b30 g=>?_) fun b30 g=>?_
 refine U.sk' 4 3 false 34 b30 ?_
 refine U.pk b30 ?_
 refine U.done ?_
 exact St.wa (idR 2) (j29 _ g)
 refine U.pq 2 3 false 34 b30 T ?_
 refine U.k (ZJ st s21.2 _ g) Qbe (fun x31 g=>?_) (hw:=.take 3 false 34 _ b30 rfl rfl rfl)
 refine U.pq 1 3 false 34 b30 T ?_
 refine U.pk' b30 ?_
 refine U.done ?_
 exact St.wa (idR 2) (j29 _ g)
 refine C.exit (C.ex (C.ex (C.bex ?_)))
 exact St.wn (j20 _ g)
 refine U.start (U.ps 3 T rfl ?_)
 refine g.cs (fun b5 g=>?_) fun b5 g=>?_
 refine U.sk' 5 2 false 13 b5 ?_
 refine U.pk b5 ?_
 refine U.done ?_
 exact St.wa (idR 2) (j4 _ g)
 refine U.pq 5 2 false 13 b5 T ?_
 refine U.pk' b5 ?_
 refine U.done ?_
 exact St.wa (idR 2) (j4 _ g)
theorem Yt (f:Q6) (c:Int) (d:Int) (post:(Int×Bool)→Prop) (g:KQ f c d post):
  Tr Tryz.prog 111 [.agg (Qd f),.i c,.i d] [] 0 (fun A H' k=>∃y,post y∧A=(.tup [.i y.1,.b y.2])∧H'=[]∧k=0):=by
 refine Tr.go Tryz.func111 Tryz.ntmps111 fun _ _ _ _ o=>?_
 unfold KQ at g
 refine C.ss (U.bx ?_)
 refine U.pd 2 T (C.xt ?_)
 refine U.ps 3 T rfl (U.k (GR f c d _ g) Q9d (fun x5 g=>?_))
 refine U.pd 1 T (C.xs (C.ss ?_))
 refine U.pd 2 T (C.nx ?_)
 refine C.ite rfl g (fun b8 g=>?_) fun b8 g=>?_
 refine C.ss (U.pd 2 T (C.nx (C.ret (C.rt ?_))))
 exact C.f9 T o ⟨(0,false),g,rfl,rfl,rfl⟩
 refine C.skip (C.xs (C.seq ?_))
 refine C.jn (fun (x11:Bool)=>[(1,.i c),(2,.i d),(3,.p 0 0),(8,.i x5),(40,.b x11)]) (fun x11=>[(0,.box (Qd f))]) 1 g (fun x11 g=>?_) fun J12 g j12=>?_
 refine C.nx ?_
 refine C.ite rfl g (fun b19 g=>?_) fun b19 g=>?_
 refine C.ss (U.pd 2 T (C.nx (C.ret (C.rt ?_))))
 exact C.f9 T o ⟨(0,false),g,rfl,rfl,rfl⟩
 refine C.skip (C.xs (C.seq ?_))
 refine C.jn (fun (x22:Bool)=>[(8,.i x5),(58,.b x22)]) (fun x22=>[]) 0 g (fun x22 g=>?_) fun J23 g j23=>?_
 refine C.nx ?_
 refine C.ite rfl g (fun b28 g=>?_) fun b28 g=>?_
 refine C.ss (U.pd 2 T (C.nx (C.ret (C.rt ?_))))
 exact C.f9 T o ⟨(0,false),g,rfl,rfl,rfl⟩
 refine C.skip (C.xt (U.pd 3 T (C.nx (C.ret ?_))))
 exact C.f9 T o ⟨(x5,true),g,rfl,rfl,rfl⟩
 refine U.start (U.ps 3 T rfl ?_)
 refine g.cs (fun b24 g=>?_) fun b24 g=>?_
 refine U.pq 3 2 true 43 b24 T ?_
 obtain⟨x25,y25,g⟩:=g
 refine U.r rfl (.tk 2 true 43 b24) rfl rfl (by exact Rd.ix T rfl rfl rfl rfl rfl rfl y25) ?_
 refine U.pq 3 2 true 43 b24 T ?_
 refine g.cs (fun b26 g=>?_) fun b26 g=>?_
 refine U.sk' 6 9 false 50 b26 ?_
 refine U.r rfl (.tk 2 true 43 b24) rfl rfl (by exact Rd.pk rfl rfl b26 rfl) ?_
 refine U.pk b24 ?_
 refine U.done ?_
 exact St.wn (j23 _ g)
 refine U.pq 3 9 false 50 b26 T ?_
 obtain⟨x27,y27,g⟩:=g
 refine U.r rfl (.tk 9 false 50 b26) rfl rfl (by exact Rd.ix T rfl rfl rfl rfl rfl rfl y27) ?_
 refine U.pq 2 9 false 50 b26 T ?_
 refine U.r rfl (.tk 2 true 43 b24) rfl rfl (by exact Rd.pk' rfl rfl b26 rfl) ?_
 refine U.pk b24 ?_
 refine U.done ?_
 exact St.wn (j23 _ g)
 refine U.sk' 7 2 true 43 b24 ?_
 refine U.sku 6 9 false 50 rfl rfl rfl ?_
 refine U.sk' 1 2 true 43 b24 ?_
 refine U.pk' b24 ?_
 refine U.done ?_
 exact St.wn (j23 _ g)
 refine U.start (U.ps 3 T rfl ?_)
 obtain⟨x13,y13,g⟩:=g
 refine U.ix T y13 ?_
 refine U.ps 3 T rfl ?_
 refine g.cs (fun b14 g=>?_) fun b14 g=>?_
 refine U.sk' 6 6 false 21 b14 ?_
 refine U.pk b14 ?_
 refine U.ps 1 T rfl (U.sk' 10 14 false 29 rfl ?_)
 refine U.pk rfl ?_
 refine U.done ?_
 exact St.wa [some 0] (j12 _ g)
 refine U.pq 3 6 false 21 b14 T ?_
 obtain⟨x15,y15,g⟩:=g
 refine U.r rfl (.tk 6 false 21 b14) rfl rfl (by exact Rd.ix T rfl rfl rfl rfl rfl rfl y15) ?_
 refine U.pq 2 6 false 21 b14 T ?_
 refine U.pk' b14 ?_
 refine U.ps 1 T rfl ?_
 refine g.cs (fun b16 g=>?_) fun b16 g=>?_
 refine U.sk' 10 14 false 29 b16 ?_
 refine U.pk b16 ?_
 refine U.done ?_
 exact St.wa [some 0] (j12 _ g)
 refine U.pq 3 14 false 29 b16 T ?_
 obtain⟨x17,y17,g⟩:=g
 refine U.r rfl (.tk 14 false 29 b16) rfl rfl (by exact Rd.ix T rfl rfl rfl rfl rfl rfl y17) ?_
 refine U.pq 3 14 false 29 b16 T ?_
 obtain⟨y18,g⟩:=g
 refine U.r rfl (.tk 14 false 29 b16) rfl rfl (by exact Rd.sh rfl rfl rfl rfl y18) ?_
 refine U.pq 2 14 false 29 b16 T ?_
 refine U.pk' b16 ?_
 refine U.done ?_
 exact St.wa [some 0] (j12 _ g)
theorem WR (s_1:ApiSite) (st:ApiState) (robot:Int) (act:Int) (post:(Int×Bool)→Prop) (g:K3 s_1 st robot act post):
  Tr Tryz.prog 113 [.agg (Q2 s_1),.agg (Q1 st),.i robot,.i act] [] 0 (fun A H' k=>∃y,post y∧A=(.tup [.i y.1,.b y.2])∧H'=[]∧k=0):=by
 refine Tr.go Tryz.func113 Tryz.ntmps113 fun _ _ _ _ o=>?_
 unfold K3 at g
 refine C.ss (U.bx ?_)
 refine U.bx ?_
 refine U.pd 2 T (C.xs (C.seq ?_))
 refine C.jn (fun (x3:Bool)=>[(2,.i robot),(3,.i act),(4,.p 0 0),(5,.p 1 0),(23,.b x3)]) (fun x3=>[(0,.box (Q2 s_1)),(1,.box (Q1 st))]) 2 g (fun x3 g=>?_) fun J4 g j4=>?_
 refine C.nx ?_
 refine C.ite rfl g (fun b8 g=>?_) fun b8 g=>?_
 refine C.ss (U.pd 2 T (C.nx (C.ret (C.rt ?_))))
 exact C.f9 T o ⟨(0,false),g,rfl,rfl,rfl⟩
 refine C.skip (C.xs (D.bq mix 9999 [0,1] [] (fun hQ hS ws M'=>?_)))
 refine D.pq 5 (zl [0,1,2,3,4]) T ?_
 obtain⟨x13,y13,g⟩:=g
 refine D.ix 5 [] T y13 ?_
 refine D.pq 4 (zl [6,7,8,9]) T ?_
 refine D.k 10 (Yt s_1.Floor x13.Cell (w64 (act-1)) _ g) Qah fun x14 g=>?_
 refine D.pq 4 (zl [11,12,13,14]) T ?_
 refine D.done (by kernel_rfl) ?_
 refine C.nx (C.ret ?_)
 exact C.f9 T o ⟨(x14.1,x14.2),g,rfl,rfl,rfl⟩
 refine U.start (U.ps 3 T rfl ?_)
 refine g.cs (fun b5 g=>?_) fun b5 g=>?_
 refine U.sk' 5 2 false 12 b5 ?_
 refine U.pk b5 ?_
 refine U.ps 1 T rfl (U.sk' 3 9 false 19 rfl ?_)
 refine U.pk rfl ?_
 refine U.done ?_
 exact St.wa (idR 2) (j4 _ g)
 refine U.pq 5 2 false 12 b5 T ?_
 refine U.pk' b5 ?_
 refine U.ps 1 T rfl ?_
 refine g.cs (fun b6 g=>?_) fun b6 g=>?_
 refine U.sk' 3 9 false 19 b6 ?_
 refine U.pk b6 ?_
 refine U.done ?_
 exact St.wa (idR 2) (j4 _ g)
 refine U.pq 1 9 false 19 b6 T ?_
 refine U.k (YD act _ g) Qaa (fun x7 g=>?_) (hw:=.take 9 false 19 _ b6 rfl rfl rfl)
 refine U.pq 1 9 false 19 b6 T ?_
 refine U.pk' b6 ?_
 refine U.done ?_
 exact St.wa (idR 2) (j4 _ g)
theorem Yk (st:ApiState) (c:Int) (post:Bool→Prop) (g:KB st c post):
  Tr Tryz.prog 178 [.agg (Q1 st),.i c] [] 0 (pB post):=by
 refine Tr.go Tryz.func178 Tryz.ntmps178 fun _ _ _ _ o=>?_
 unfold KB at g
 refine C.ss (U.bx ?_)
 refine U.pd 1 T (C.xs (C.ss ?_))
 refine U.pd 1 T (C.nx ?_)
 refine C.jn (fun (x5:Unit)=>[]) (fun x5=>[]) 0 g (fun x5 g=>?_) fun J6 g j6=>?_
 refine C.xt (U.pd 1 T (C.nx (C.ret ?_)))
 exact C.f1 T o (pBi g)
 refine C.block (St.wk (C.loop (fun (s7:Int)=>[(1,.i c),(2,.p 0 0),(5,.i s7)]) (fun s7=>[(0,.box (Q1 st))]) g (fun s7 Y8 g=>?_)) (Wk.a [some 0]))
 refine C.seq (C.ss (U.pd 5 T (C.nx ?_)))
 refine C.ite rfl g (fun b11 g=>?_) fun b11 g=>?_
 refine C.skip (C.xs (C.block (C.ss (U.ps 3 T rfl ?_))))
 obtain⟨x14,y14,g⟩:=g
 refine U.ix T y14 ?_
 refine U.pd 4 T (C.nx ?_)
 refine C.ite rfl g (fun b15 g=>?_) fun b15 g=>?_
 refine C.ss (U.pd 1 T (C.nx (C.ret (C.brt (C.rt (C.rt (C.brt (C.rt ?_))))))))
 exact C.f1 T o (pBi g)
 refine C.skip (C.bnx (C.nx (U.start (U.pd 3 T (C.nx ?_)))))
 exact St.wk (C.next g) (Wk.a [some 0])
 refine C.exit (C.ex (C.ex (C.bex ?_)))
 exact St.wk (j6 _ g) (Wk.mk' [] rfl rfl trivial trivial rfl)
theorem Q1G (r:List Int) (c:Int) (post:Bool→Prop) (g:Xb r c post):
  Tr Tryz.prog 212 [.sl 1 eI r,.i c] [] 0 (pB post):=by
 refine Tr.go Tryz.func212 Tryz.ntmps212 fun _ _ _ _ o=>?_
 unfold Xb at g
 refine C.ss (U.pd 1 T (C.xt ?_))
 refine U.pd 1 T (C.xt ?_)
 refine U.pd 3 T (C.xs ?_)
 refine C.jn (fun (x7:Int)=>[(0,.sl 1 eI r),(1,.i c),(5,.i x7)]) (fun x7=>[]) 0 g (fun x7 g=>?_) fun J8 g j8=>?_
 refine C.xs (C.ss (U.pd 4 T (C.nx ?_)))
 refine C.ite rfl g (fun b29 g=>?_) fun b29 g=>?_
 refine C.ss (U.pd 1 T (C.nx (C.ret (C.rt ?_))))
 exact C.f1 T o (pBi g)
 refine C.skip (C.xt (U.ps 2 T rfl ?_))
 obtain⟨x34,y34,g⟩:=g
 refine U.ix T y34 ?_
 refine U.pd 4 T (C.nx (C.ret ?_))
 exact C.f1 T o (pBi g)
 refine C.block (St.wk (C.loop (fun (s9:Int×Int)=>[(0,.sl 1 eI r),(1,.i c),(5,.i s9.1),(6,.i s9.2)]) (fun s9=>[]) g (fun s9 Y10 g=>?_)) (Wk.e))
 refine C.seq (C.ss (U.pd 3 T (C.nx ?_)))
 refine C.ite rfl g (fun b13 g=>?_) fun b13 g=>?_
 refine C.skip (C.nx (C.block (C.ss (U.ps 3 T rfl (U.r rfl (.none rfl) rfl rfl (by exact Rd.dv rfl rfl rfl rfl (by decide)) ?_)))))
 refine U.pd 1 T (C.xt ?_)
 refine U.ps 2 T rfl ?_
 obtain⟨x19,y19,g⟩:=g
 refine U.ix T y19 ?_
 refine U.pd 3 T (C.nx ?_)
 refine C.jn (fun (x20:Int×Int)=>[(0,.sl 1 eI r),(1,.i c),(5,.i x20.1),(6,.i x20.2)]) (fun x20=>[]) 0 g (fun x20 g=>?_) fun J21 g j21=>?_
 refine C.bnx (C.nx ?_)
 exact St.wk (C.next g) (Wk.e)
 refine C.ite rfl g (fun b22 g=>?_) fun b22 g=>?_
 refine U.start (U.pd 3 T ?_)
 exact St.wn (j21 _ g)
 refine U.start (U.pd 2 T ?_)
 exact St.wn (j21 _ g)
 refine C.exit (C.ex (C.ex (C.bex ?_)))
 exact St.wn (j8 _ g)
theorem WQ (s_1:ApiSite) (c:Int) (post:Int→Prop) (g:Km s_1 c post):
  Tr Tryz.prog 180 [.agg (Q2 s_1),.i c] [] 0 (pI post):=by
 refine Tr.go Tryz.func180 Tryz.ntmps180 fun _ _ _ _ o=>?_
 unfold Km at g
 refine C.ss (U.bx ?_)
 refine U.pd 1 T (C.xs (C.ss ?_))
 refine U.pd 1 T (C.nx ?_)
 refine C.jn (fun (x5:Unit)=>[]) (fun x5=>[]) 0 g (fun x5 g=>?_) fun J6 g j6=>?_
 refine C.xt (U.pd 1 T (C.nx (C.ret ?_)))
 exact C.f1 T o (pIi g)
 refine C.block (St.wk (C.loop (fun (s7:Int)=>[(1,.i c),(2,.p 0 0),(5,.i s7)]) (fun s7=>[(0,.box (Q2 s_1))]) g (fun s7 Y8 g=>?_)) (Wk.a [some 0]))
 refine C.seq (C.ss (U.pd 5 T (C.nx ?_)))
 refine C.ite rfl g (fun b11 g=>?_) fun b11 g=>?_
 refine C.skip (C.xs (C.block (C.ss (U.ps 3 T rfl ?_))))
 obtain⟨x14,y14,g⟩:=g
 refine U.ix T y14 ?_
 refine U.ps 3 T rfl (U.k (Q1G x14.Cells c _ g) Qbu (fun x15 g=>?_))
 refine U.done (C.nx ?_)
 refine C.ite rfl g (fun b16 g=>?_) fun b16 g=>?_
 refine C.ss (U.pd 2 T (C.nx (C.ret (C.brt (C.rt (C.rt (C.brt (C.rt ?_))))))))
 exact C.f1 T o (pIi g)
 refine C.skip (C.bnx (C.nx (U.start (U.pd 3 T (C.nx ?_)))))
 exact St.wk (C.next g) (Wk.a [some 0])
 refine C.exit (C.ex (C.ex (C.bex ?_)))
 exact St.wk (j6 _ g) (Wk.mk' [] rfl rfl trivial trivial rfl)
theorem Q0Q (s_1:ApiSite) (c:Int) (tick:Int) (post:Bool→Prop) (g:XA s_1 c tick post):
  Tr Tryz.prog 179 [.agg (Q2 s_1),.i c,.i tick] [] 0 (pB post):=by
 refine Tr.go Tryz.func179 Tryz.ntmps179 fun _ _ _ _ o=>?_
 unfold XA at g
 refine C.ss (U.bx ?_)
 refine U.pd 1 T (C.xs (C.ss ?_))
 refine U.ps 3 T rfl (U.k (K1 s_1.Floor c _ g) en89 (fun x5 g=>?_))
 refine U.pd 1 T (C.nx ?_)
 refine C.ite rfl g (fun b6 g=>?_) fun b6 g=>?_
 refine C.ss (U.pd 1 T (C.nx (C.ret (C.rt ?_))))
 exact C.f1 T o (pBi g)
 refine C.skip (C.xt (U.ps 2 T rfl (U.k (WQ s_1 c _ g) Q9K (fun x11 g=>?_))))
 refine U.pd 1 T (C.xs (C.ss ?_))
 refine U.pd 2 T (C.nx ?_)
 refine C.ite rfl g (fun b14 g=>?_) fun b14 g=>?_
 refine C.ss (U.pd 1 T (C.nx (C.ret (C.rt ?_))))
 exact C.f1 T o (pBi g)
 refine C.skip (C.xt (U.ps 3 T rfl ?_))
 obtain⟨x19,y19,g⟩:=g
 refine U.ix T y19 ?_
 refine U.pd 3 T (C.xs (C.ss ?_))
 refine U.pd 1 T (C.nx ?_)
 refine C.jn (fun (x22:Unit)=>[]) (fun x22=>[]) 0 g (fun x22 g=>?_) fun J23 g j23=>?_
 refine C.xt (U.pd 1 T (C.nx (C.ret ?_)))
 exact C.f1 T o (pBi g)
 refine C.block (St.wk (C.loop (fun (s24:Int)=>[(2,.i tick),(8,.sl 2 G3 x19.Shut),(9,.i s24)]) (fun s24=>[]) g (fun s24 Y25 g=>?_)) (Wk.e))
 refine C.seq (C.ss (U.pd 4 T (C.nx ?_)))
 refine C.ite rfl g (fun b28 g=>?_) fun b28 g=>?_
 refine C.skip (C.xs (C.block (C.seq ?_)))
 refine C.jn (fun (x29:Bool)=>[(2,.i tick),(8,.sl 2 G3 x19.Shut),(9,.i s24),(47,.b x29)]) (fun x29=>[]) 0 g (fun x29 g=>?_) fun J30 g j30=>?_
 refine C.nx ?_
 refine C.ite rfl g (fun b33 g=>?_) fun b33 g=>?_
 refine C.ss (U.pd 1 T (C.nx (C.ret (C.brt (C.rt (C.rt (C.brt (C.rt ?_))))))))
 exact C.f1 T o (pBi g)
 refine C.skip (C.bnx (C.nx (U.start (U.pd 3 T (C.nx ?_)))))
 exact St.wk (C.next g) (Wk.e)
 refine U.start (U.ps 3 T rfl ?_)
 obtain⟨x31,y31,g⟩:=g
 refine U.ix T y31 ?_
 refine U.ps 4 T rfl ?_
 refine g.cs (fun b32 g=>?_) fun b32 g=>?_
 refine U.pq 3 7 true 39 b32 T ?_
 refine U.r rfl (.tk 7 true 39 b32) rfl rfl (by exact Rd.ix T rfl rfl rfl rfl rfl rfl y31) ?_
 refine U.pq 3 7 true 39 b32 T ?_
 refine U.pk b32 ?_
 refine U.done ?_
 exact St.wn (j30 _ g)
 refine U.sk' 7 7 true 39 b32 ?_
 refine U.pk' b32 ?_
 refine U.done ?_
 exact St.wn (j30 _ g)
 refine C.exit (C.ex (C.ex (C.bex ?_)))
 exact St.wk (j23 _ g) (Wk.mk' [] rfl rfl trivial trivial rfl)
theorem Q1n (s_1:ApiSite) (st:ApiState) (robot:Int) (act:Int) (post:Int→Prop) (g:XC s_1 st robot act post):
  Tr Tryz.prog 110 [.agg (Q2 s_1),.agg (Q1 st),.i robot,.i act] [] 0 (pI post):=by
 refine Tr.go Tryz.func110 Tryz.ntmps110 fun _ _ _ _ o=>?_
 unfold XC at g
 refine C.ss (U.bx ?_)
 refine U.bx ?_
 refine U.pd 1 T (C.xt ?_)
 refine U.ps 3 T rfl ?_
 obtain⟨x5,y5,g⟩:=g
 refine U.ix T y5 ?_
 refine U.ps 1 T rfl (U.al T ?_)
 refine U.st T ?_
 refine U.done (C.xt (U.ps 4 T rfl (U.k (WR s_1 st robot act _ g) Q9J (fun x8 g=>?_))))
 refine U.pd 5 T (C.xs (C.seq ?_))
 refine C.jn (fun (x9:Bool)=>[(3,.i act),(4,.p 0 0),(5,.p 1 0),(9,.p 2 0),(10,.i x8.1),(33,.b x9)]) (fun x9=>[(0,.box (Q2 s_1)),(1,.box (Q1 st)),(2,.box (Q4 x5))]) 3 g (fun x9 g=>?_) fun J10 g j10=>?_
 refine C.nx ?_
 refine C.ite rfl g (fun b13 g=>?_) fun b13 g=>?_
 refine C.ss (U.pd 1 T (C.nx (C.ret (C.rt ?_))))
 exact C.f1 T o (pIi g)
 refine C.skip (C.xs (C.seq ?_))
 refine C.jn (fun (x16:Bool)=>[(4,.p 0 0),(5,.p 1 0),(9,.p 2 0),(10,.i x8.1),(46,.b x16)]) (fun x16=>[(0,.box (Q2 s_1)),(1,.box (Q1 st)),(2,.box (Q4 x5))]) 3 g (fun x16 g=>?_) fun J17 g j17=>?_
 refine C.nx ?_
 refine C.ite rfl g (fun b22 g=>?_) fun b22 g=>?_
 refine C.ss (U.pd 1 T (C.nx (C.ret (C.rt ?_))))
 exact C.f1 T o (pIi g)
 refine C.skip (C.xs (C.ss (U.ps 4 T rfl (U.k (Q0Q s_1 x8.1 st.Tick _ g) QbL (fun x27 g=>?_)))))
 refine U.pd 1 T (C.nx ?_)
 refine C.ite rfl g (fun b28 g=>?_) fun b28 g=>?_
 refine C.ss (U.pd 1 T (C.nx (C.ret (C.rt ?_))))
 exact C.f1 T o (pIi g)
 refine C.skip (C.xt (U.ps 1 T rfl (U.k (GH st _ g) en49 (fun x33 g=>?_))))
 refine U.pd 1 T (C.xs (C.seq ?_))
 refine C.jn (fun (x34:Bool)=>[(70,.b x34)]) (fun x34=>[]) 0 g (fun x34 g=>?_) fun J35 g j35=>?_
 refine C.nx ?_
 refine C.ite rfl g (fun b40 g=>?_) fun b40 g=>?_
 refine C.ss (U.pd 1 T (C.nx (C.ret (C.rt ?_))))
 exact C.f1 T o (pIi g)
 refine C.skip (C.xt (U.pd 1 T (C.nx (C.ret ?_))))
 exact C.f1 T o (pIi g)
 refine U.start (U.ps 3 T rfl (U.k (Kc x33 (w64 (2*x8.1)) _ g) en48 (fun x36 g=>?_)))
 refine U.ps 1 T rfl ?_
 refine g.cs (fun b37 g=>?_) fun b37 g=>?_
 refine U.sk' 4 4 false 59 b37 ?_
 refine U.sku 5 8 true 63 rfl rfl rfl ?_
 refine U.sk' 1 4 false 59 b37 ?_
 refine U.pk b37 ?_
 refine U.done ?_
 exact St.wn (j35 _ g)
 refine U.pq 4 4 false 59 b37 T ?_
 refine g.cs (fun b38 g=>?_) fun b38 g=>?_
 refine U.pq 4 8 true 63 b38 T ?_
 refine U.k (Kc x33 (w64 ((w64 (2*x8.1))+1)) _ g) en48 (fun x39 g=>?_) (hw:=.take 8 true 63 _ b38 rfl rfl rfl)
 refine U.r rfl (.tk 4 false 59 b37) rfl rfl (by exact Rd.pk rfl rfl b38 rfl) ?_
 refine U.pk' b37 ?_
 refine U.done ?_
 exact St.wn (j35 _ g)
 refine U.sk' 5 8 true 63 b38 ?_
 refine U.r rfl (.tk 4 false 59 b37) rfl rfl (by exact Rd.pk' rfl rfl b38 rfl) ?_
 refine U.pk' b37 ?_
 refine U.done ?_
 exact St.wn (j35 _ g)
 refine U.start (U.ps 3 T rfl ?_)
 refine g.cs (fun b18 g=>?_) fun b18 g=>?_
 refine U.pq 3 2 true 36 b18 T ?_
 refine U.k (Yk st x5.Cell _ g) Q9T (fun x19 g=>?_) (hw:=.take 2 true 36 _ b18 rfl rfl rfl)
 refine U.pq 1 2 true 36 b18 T ?_
 refine g.cs (fun b20 g=>?_) fun b20 g=>?_
 refine U.sk' 3 7 false 41 b20 ?_
 refine U.r rfl (.tk 2 true 36 b18) rfl rfl (by exact Rd.pk rfl rfl b20 rfl) ?_
 refine U.pk b18 ?_
 refine U.done ?_
 exact St.wa (idR 3) (j17 _ g)
 refine U.pq 2 7 false 41 b20 T ?_
 refine U.k (Yk st x8.1 _ g) Q9T (fun x21 g=>?_) (hw:=.take 7 false 41 _ b20 rfl rfl rfl)
 refine U.r rfl (.tk 2 true 36 b18) rfl rfl (by exact Rd.pk' rfl rfl b20 rfl) ?_
 refine U.pk b18 ?_
 refine U.done ?_
 exact St.wa (idR 3) (j17 _ g)
 refine U.sk' 5 2 true 36 b18 ?_
 refine U.sku 3 7 false 41 rfl rfl rfl ?_
 refine U.sk' 1 2 true 36 b18 ?_
 refine U.pk' b18 ?_
 refine U.done ?_
 exact St.wa (idR 3) (j17 _ g)
 refine U.start (U.ps 3 T rfl ?_)
 refine g.cs (fun b11 g=>?_) fun b11 g=>?_
 refine U.pq 3 2 false 28 (ntF b11) T ?_
 refine U.k (Kc st.Dead x8.1 _ g) en48 (fun x12 g=>?_) (hw:=.take 2 false 28 _ (ntF b11) rfl rfl rfl)
 refine U.pk' (ntF b11) ?_
 refine U.done ?_
 exact St.wa (idR 3) (j10 _ g)
 refine U.sk' 4 2 false 28 (ntT b11) ?_
 refine U.pk (ntT b11) ?_
 refine U.done ?_
 exact St.wa (idR 3) (j10 _ g)
theorem W6 (s_1:ApiSite) (st:ApiState) (robot:Int) (act:Int) (post:Int→Prop) (g:QQ s_1 st robot act post):
  Tr Tryz.prog 38 [.agg (Q2 s_1),.agg (Q1 st),.i robot,.i act] [] 0 (pI post):=by
 refine Tr.go Tryz.func38 Tryz.ntmps38 fun _ _ _ _ o=>?_
 unfold QQ at g
 refine C.ss (U.bx ?_)
 refine U.bx ?_
 refine U.pd 1 T (C.xs (C.seq ?_))
 refine C.jn (fun (x3:Bool)=>[(2,.i robot),(3,.i act),(4,.p 0 0),(5,.p 1 0),(20,.b x3)]) (fun x3=>[(0,.box (Q2 s_1)),(1,.box (Q1 st))]) 2 g (fun x3 g=>?_) fun J4 g j4=>?_
 refine C.nx ?_
 refine C.ite rfl g (fun b6 g=>?_) fun b6 g=>?_
 refine C.ss (U.pd 1 T (C.nx (C.ret (C.rt ?_))))
 exact C.f1 T o (pIi g)
 refine C.skip (C.xs (C.seq ?_))
 refine C.jn (fun (x9:Bool)=>[(2,.i robot),(3,.i act),(4,.p 0 0),(5,.p 1 0),(26,.b x9)]) (fun x9=>[(0,.box (Q2 s_1)),(1,.box (Q1 st))]) 2 g (fun x9 g=>?_) fun J10 g j10=>?_
 refine C.nx ?_
 refine C.ite rfl g (fun b12 g=>?_) fun b12 g=>?_
 refine C.ss (U.pd 1 T (C.nx (C.ret (C.rt ?_))))
 exact C.f1 T o (pIi g)
 refine C.skip (C.xs (C.ss (U.pd 2 T (C.nx ?_))))
 refine C.ite rfl g (fun b17 g=>?_) fun b17 g=>?_
 refine C.ss (U.pd 1 T (C.nx (C.ret (C.rt ?_))))
 exact C.f1 T o (pIi g)
 refine C.skip (C.xt (U.ps 3 T rfl ?_))
 obtain⟨x22,y22,g⟩:=g
 refine U.ix T y22 ?_
 refine U.ps 1 T rfl (U.al T ?_)
 refine U.st T ?_
 refine U.done (C.xs (C.seq ?_))
 refine C.jn (fun (x23:Bool)=>[(2,.i robot),(3,.i act),(4,.p 0 0),(5,.p 1 0),(9,.p 2 0),(40,.b x23)]) (fun x23=>[(0,.box (Q2 s_1)),(1,.box (Q1 st)),(2,.box (Q4 x22))]) 3 g (fun x23 g=>?_) fun J24 g j24=>?_
 refine C.nx ?_
 refine C.ite rfl g (fun b26 g=>?_) fun b26 g=>?_
 refine C.ss (U.pd 1 T (C.nx (C.ret (C.rt ?_))))
 exact C.f1 T o (pIi g)
 refine C.skip (C.xs (C.seq ?_))
 refine C.jn (fun (x29:Bool)=>[(2,.i robot),(3,.i act),(4,.p 0 0),(5,.p 1 0),(9,.p 2 0),(47,.b x29)]) (fun x29=>[(0,.box (Q2 s_1)),(1,.box (Q1 st)),(2,.box (Q4 x22))]) 3 g (fun x29 g=>?_) fun J30 g j30=>?_
 refine C.nx ?_
 refine C.ite rfl g (fun b33 g=>?_) fun b33 g=>?_
 refine C.ss (U.pd 1 T (C.nx (C.ret (C.rt ?_))))
 exact C.f1 T o (pIi g)
 refine C.skip (C.xt (U.ps 8 T rfl (U.k (Ya st.Tick x22.Charge act (decide (x22.Load≥0)) _ g) Q9C (fun x38 g=>?_))))
 refine U.pd 5 T (C.xs (C.ss ?_))
 refine U.pd 2 T (C.nx ?_)
 refine C.ite rfl g (fun b41 g=>?_) fun b41 g=>?_
 refine C.ss (U.pd 1 T (C.nx (C.ret (C.rt ?_))))
 exact C.f1 T o (pIi g)
 refine C.skip (C.xs (C.ss (U.pd 1 T (C.nx (C.block (C.ss ?_))))))
 refine U.pd 2 T (C.nx ?_)
 refine C.ite rfl g (fun b48 g=>?_) fun b48 g=>?_
 refine C.seq (C.ss (U.pd 3 T (C.nx ?_)))
 refine C.ite rfl g (fun b51 g=>?_) fun b51 g=>?_
 refine C.ss (U.pd 1 T (C.nx (C.ret (C.rt (C.brt (C.rt ?_))))))
 exact C.f1 T o (pIi g)
 refine C.skip (C.xs (C.ss (U.ps 4 T rfl (U.k (Ze s_1 st x22.Cell _ g) Q9Z (fun x56 g=>?_)))))
 refine U.pd 1 T (C.nx ?_)
 refine C.ite rfl g (fun b57 g=>?_) fun b57 g=>?_
 refine C.ss (U.pd 1 T (C.nx (C.ret (C.rt (C.brt (C.rt ?_))))))
 exact C.f1 T o (pIi g)
 refine C.skip (C.xt (U.pd 1 T (C.nx (C.ret (C.brt (C.rt ?_))))))
 exact C.f1 T o (pIi g)
 refine C.ss (U.pd 2 T (C.nx ?_))
 refine C.ite rfl g (fun b64 g=>?_) fun b64 g=>?_
 refine C.seq (C.ss (U.pd 3 T (C.nx ?_)))
 refine C.ite rfl g (fun b67 g=>?_) fun b67 g=>?_
 refine C.ss (U.pd 1 T (C.nx (C.ret (C.rt (C.brt (C.rt ?_))))))
 exact C.f1 T o (pIi g)
 refine C.skip (C.xt (U.ps 6 T rfl (U.k (Q1a s_1 st x22.Load x22.Cell _ g) QbH (fun x72 g=>?_))))
 refine U.pd 1 T (C.nx (C.ret (C.brt (C.rt ?_))))
 exact C.f1 T o (pIi g)
 refine C.ss (U.pd 2 T (C.nx ?_))
 refine C.ite rfl g (fun b75 g=>?_) fun b75 g=>?_
 refine C.seq (C.ss (U.ps 5 T rfl ?_))
 obtain⟨x78,y78,g⟩:=g
 refine U.ix T y78 ?_
 refine U.pd 2 T (C.nx ?_)
 refine C.ite rfl g (fun b79 g=>?_) fun b79 g=>?_
 refine C.ss (U.pd 1 T (C.nx (C.ret (C.rt (C.brt (C.rt ?_))))))
 exact C.f1 T o (pIi g)
 refine C.skip (C.xt (U.pd 1 T (C.nx (C.ret (C.brt (C.rt ?_))))))
 exact C.f1 T o (pIi g)
 refine C.skip (C.bnx (C.xt (U.ps 4 T rfl (U.k (Q1n s_1 st robot act _ g) Qbc (fun x86 g=>?_)))))
 refine U.pd 1 T (C.nx (C.ret ?_))
 exact C.f1 T o (pIi g)
 refine U.start (U.ps 1 T rfl (U.k (YD act _ g) Qaa (fun x31 g=>?_)))
 refine U.ps 1 T rfl ?_
 refine g.cs (fun b32 g=>?_) fun b32 g=>?_
 refine U.pq 3 2 true 43 b32 T ?_
 refine U.pk b32 ?_
 refine U.done ?_
 exact St.wa (idR 3) (j30 _ g)
 refine U.sk' 3 2 true 43 b32 ?_
 refine U.pk' b32 ?_
 refine U.done ?_
 exact St.wa (idR 3) (j30 _ g)
 refine U.start (U.ps 3 T rfl ?_)
 refine g.cs (fun b25 g=>?_) fun b25 g=>?_
 refine U.sk' 3 2 false 36 b25 ?_
 refine U.pk b25 ?_
 refine U.done ?_
 exact St.wa (idR 3) (j24 _ g)
 refine U.pq 3 2 false 36 b25 T ?_
 refine U.pk' b25 ?_
 refine U.done ?_
 exact St.wa (idR 3) (j24 _ g)
 refine U.start (U.ps 3 T rfl ?_)
 refine g.cs (fun b11 g=>?_) fun b11 g=>?_
 refine U.sk' 2 2 false 23 b11 ?_
 refine U.pk b11 ?_
 refine U.done ?_
 exact St.wa (idR 2) (j10 _ g)
 refine U.pq 2 2 false 23 b11 T ?_
 refine U.pk' b11 ?_
 refine U.done ?_
 exact St.wa (idR 2) (j10 _ g)
 refine U.start (U.ps 3 T rfl ?_)
 refine g.cs (fun b5 g=>?_) fun b5 g=>?_
 refine U.sk' 5 2 false 14 b5 ?_
 refine U.pk b5 ?_
 refine U.done ?_
 exact St.wa (idR 2) (j4 _ g)
 refine U.pq 5 2 false 14 b5 T ?_
 refine U.pk' b5 ?_
 refine U.done ?_
 exact St.wa (idR 2) (j4 _ g)
theorem Q08 (f:Q6) (st:ApiState) (acts:List Int) (post:(List Int)→Prop) (g:Kn f st acts post):
  Tr Tryz.prog 40 [.agg (Qd f),.agg (Q1 st),.sl 1 eI acts] [] 0 (fun A H' k=>∃y,post y∧A=(.o 0)∧H'=[(0,.val (.os 1 eI y))]∧k=1):=by
 refine Tr.go Tryz.func40 Tryz.ntmps40 fun _ _ _ _ o=>?_
 unfold Kn at g
 refine C.ss (U.bx ?_)
 refine U.bx ?_
 refine U.pd 1 T (C.xt ?_)
 refine U.ps 1 T rfl (U.k (GH st _ g) en49 (fun x5 g=>?_))
 refine U.pd 1 T (C.xs (C.ss ?_))
 refine U.pd 1 T (C.nx ?_)
 refine C.jn (fun (x8:List Int)=>[(7,.o 0)]) (fun x8=>[(0,.val (.os 1 eI x8))]) 1 g (fun x8 g=>?_) fun J9 g j9=>?_
 refine C.xt (U.ps 1 T rfl (U.k (GQ x8 _ g) en55 (fun x44 g=>?_)))
 refine U.pd 1 T (C.nx (C.ret ?_))
 exact C.g1 [some 1] T o ⟨x44,g,rfl,rfl,rfl⟩
 refine C.block (St.wk (C.loop (fun (s10:List Int×Int)=>[(2,.sl 1 eI acts),(3,.p 0 0),(4,.p 1 0),(7,.o 2),(8,.i s10.2)]) (fun s10=>[(0,.box (Qd f)),(1,.box (Q1 st)),(2,.val (.os 1 eI s10.1))]) g (fun s10 Y11 g=>?_)) (Wk.a (idR 3)))
 refine C.seq (C.seq ?_)
 refine C.jn (fun (x12:Bool)=>[(2,.sl 1 eI acts),(3,.p 0 0),(4,.p 1 0),(7,.o 2),(8,.i s10.2),(24,.b x12)]) (fun x12=>[(0,.box (Qd f)),(1,.box (Q1 st)),(2,.val (.os 1 eI s10.1))]) 3 g (fun x12 g=>?_) fun J13 g j13=>?_
 refine C.nx ?_
 refine C.ite rfl g (fun b15 g=>?_) fun b15 g=>?_
 refine C.skip (C.xs ?_)
 refine C.jn (fun (x16:List Int)=>[(2,.sl 1 eI acts),(3,.p 0 0),(4,.p 1 0),(7,.o 2),(8,.i s10.2)]) (fun x16=>[(0,.box (Qd f)),(1,.box (Q1 st)),(2,.val (.os 1 eI x16))]) 3 g (fun x16 g=>?_) fun J17 g j17=>?_
 refine C.nx (U.start (U.pd 3 T (C.nx ?_)))
 exact St.wk (C.next g) (Wk.a (idR 3))
 refine C.block (C.ss (U.ps 2 T rfl ?_))
 obtain⟨x20,y20,g⟩:=g
 refine U.ix T y20 ?_
 refine U.pd 3 T (C.xs (C.seq ?_))
 refine C.jn (fun (x21:Bool)=>[(2,.sl 1 eI acts),(3,.p 0 0),(4,.p 1 0),(7,.o 2),(8,.i s10.2),(9,.i (w64 (x20-1))),(45,.b x21)]) (fun x21=>[(0,.box (Qd f)),(1,.box (Q1 st)),(2,.val (.os 1 eI s10.1))]) 3 g (fun x21 g=>?_) fun J22 g j22=>?_
 refine C.nx ?_
 refine C.ite rfl g (fun b26 g=>?_) fun b26 g=>?_
 refine C.exit (C.ex (C.bex ?_))
 exact St.wa (idR 3) (j17 _ g)
 refine C.skip (C.xs (D.bq mix 9999 [0,1] [] (fun hQ hS ws M'=>?_)))
 refine D.pq 4 (zl [0,1,2,3]) T ?_
 obtain⟨x29,y29,g⟩:=g
 refine D.ix 4 [] T y29 ?_
 refine D.pq 3 (zl [5,6,7]) T ?_
 refine D.k 8 (Yt f x29.Cell (w64 (x20-1)) _ g) Qah fun x30 g=>?_
 refine D.pq 5 (zl [9,10,11,12,13]) T ?_
 refine D.done (by kernel_rfl) ?_
 refine C.xt (U.pd 1 T (C.nx ?_))
 refine C.jn (fun (x33:List Int)=>[(2,.sl 1 eI acts),(3,.p 0 0),(4,.p 1 0),(7,.o 2),(8,.i s10.2)]) (fun x33=>[(0,.box (Qd f)),(1,.box (Q1 st)),(2,.val (.os 1 eI x33))]) 3 g (fun x33 g=>?_) fun J34 g j34=>?_
 refine C.bnx ?_
 exact St.wa (idR 3) (j17 _ g)
 refine C.ite rfl g (fun b35 g=>?_) fun b35 g=>?_
 refine U.start (U.ps 4 T rfl (U.ix T y29 ?_))
 refine U.ps 2 T rfl (U.k (Zf x29 x30.1 _ g) Qac (fun x38 g=>?_))
 obtain⟨y39,g⟩:=g
 refine U.ap T y39 ?_
 refine U.pd 1 T ?_
 exact St.wa [some 0,some 1,some 4] (j34 _ g)
 refine C.skip ?_
 exact St.wa (idR 3) (j34 _ g)
 refine U.start (U.ps 3 T rfl ?_)
 obtain⟨x23,y23,g⟩:=g
 refine U.ix T y23 ?_
 refine U.ps 3 T rfl ?_
 refine g.cs (fun b24 g=>?_) fun b24 g=>?_
 refine U.sk' 2 6 false 38 b24 ?_
 refine U.pk b24 ?_
 refine U.ps 1 T rfl (U.sk' 2 10 false 42 rfl ?_)
 refine U.pk rfl ?_
 refine U.done ?_
 exact St.wa (idR 3) (j22 _ g)
 refine U.pq 2 6 false 38 b24 T ?_
 refine U.pk' b24 ?_
 refine U.ps 1 T rfl ?_
 refine g.cs (fun b25 g=>?_) fun b25 g=>?_
 refine U.sk' 2 10 false 42 b25 ?_
 refine U.pk b25 ?_
 refine U.done ?_
 exact St.wa (idR 3) (j22 _ g)
 refine U.pq 2 10 false 42 b25 T ?_
 refine U.pk' b25 ?_
 refine U.done ?_
 exact St.wa (idR 3) (j22 _ g)
 refine C.exit (C.ex (C.ex (C.bex ?_)))
 exact St.wa [some 2] (j9 _ g)
 refine U.start (U.ps 6 T rfl ?_)
 refine g.cs (fun b14 g=>?_) fun b14 g=>?_
 refine U.pq 4 5 true 19 b14 T ?_
 refine U.pk b14 ?_
 refine U.done ?_
 exact St.wa (idR 3) (j13 _ g)
 refine U.sk' 4 5 true 19 b14 ?_
 refine U.pk' b14 ?_
 refine U.done ?_
 exact St.wa (idR 3) (j13 _ g)
end Go.Proofs.YtbpbennpgnjbkaaGreat
