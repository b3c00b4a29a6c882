/- The walks: each Go function does what its verification condition says (written by a program of the prover). -/
import Derived.Test.YtlaehjhkcanffaaGreatW0
import Derived.KernelRfl
set_option maxRecDepth 100000
set_option maxHeartbeats 8000000
set_option linter.unusedVariables false
set_option linter.unusedSimpArgs false
namespace Go.Proofs.YtlaehjhkcanffaaGreat
open Go Go.Taq
theorem WS (slots:List Int) (post:(Int×Bool)→Prop) (g:Kr slots post):
  Tr Tryz.prog 61 [.sl 1 eI slots] [] 0 (fun A H' k=>∃y,post y∧A=(.tup [.i y.1,.b y.2])∧H'=[]∧k=0):=by
 refine Tr.go Tryz.func61 Tryz.ntmps61 fun _ _ _ _ o=>?_
 unfold Kr at g
 refine C.ss (U.pd 2 T (C.xt ?_))
 refine U.pd 1 T (C.xt ?_)
 refine U.pd 1 T (C.xs (C.ss ?_))
 refine U.pd 1 T (C.nx ?_)
 refine C.jn (fun (x9:Bool×Int)=>[(4,.b x9.1),(5,.i x9.2)]) (fun x9=>[]) 0 g (fun x9 g=>?_) fun J10 g j10=>?_
 refine C.xt (U.pd 4 T (C.nx (C.ret ?_)))
 exact C.f9 T o ⟨(x9.2,x9.1),g,rfl,rfl,rfl⟩
 refine C.block (St.wk (C.loop (fun (s11:Bool×Int×Int)=>[(0,.sl 1 eI slots),(4,.b s11.1),(5,.i s11.2.1),(6,.i s11.2.2)]) (fun s11=>[]) g (fun s11 Y12 g=>?_)) (Wk.e))
 refine C.seq (C.ss (U.pd 4 T (C.nx ?_)))
 refine C.ite rfl g (fun b15 g=>?_) fun b15 g=>?_
 refine C.skip (C.xs ?_)
 refine C.jn (fun (x16:Bool×Int)=>[(0,.sl 1 eI slots),(4,.b x16.1),(5,.i x16.2),(6,.i s11.2.2)]) (fun x16=>[]) 0 g (fun x16 g=>?_) fun J17 g j17=>?_
 refine C.nx (U.start (U.pd 3 T (C.nx ?_)))
 exact St.wk (C.next g) (Wk.e)
 refine C.block (C.ss (U.pd 1 T (C.nx ?_)))
 refine C.jn (fun (x20:Bool×Int)=>[(0,.sl 1 eI slots),(4,.b x20.1),(5,.i x20.2),(6,.i s11.2.2)]) (fun x20=>[]) 0 g (fun x20 g=>?_) fun J21 g j21=>?_
 refine C.bnx ?_
 exact St.wn (j17 _ g)
 refine C.block (St.wk (C.loop (fun (s22:Bool×Int×Int)=>[(0,.sl 1 eI slots),(4,.b s22.1),(5,.i s22.2.1),(6,.i s11.2.2),(7,.i s22.2.2)]) (fun s22=>[]) g (fun s22 Y23 g=>?_)) (Wk.e))
 refine C.seq (C.ss (U.pd 3 T (C.nx ?_)))
 refine C.ite rfl g (fun b26 g=>?_) fun b26 g=>?_
 refine C.skip (C.xs (C.block (C.seq ?_)))
 refine C.jn (fun (x27:Bool)=>[(0,.sl 1 eI slots),(4,.b s22.1),(5,.i s22.2.1),(6,.i s11.2.2),(7,.i s22.2.2),(39,.b x27)]) (fun x27=>[]) 0 g (fun x27 g=>?_) fun J28 g j28=>?_
 refine C.nx ?_
 refine C.jn (fun (x33:Bool×Int)=>[(0,.sl 1 eI slots),(4,.b x33.1),(5,.i x33.2),(6,.i s11.2.2),(7,.i s22.2.2)]) (fun x33=>[]) 0 g (fun x33 g=>?_) fun J34 g j34=>?_
 refine C.bnx (C.nx (U.start (U.pd 3 T (C.nx ?_))))
 exact St.wk (C.next g) (Wk.e)
 refine C.ite rfl g (fun b35 g=>?_) fun b35 g=>?_
 refine C.ss (U.ps 2 T rfl ?_)
 obtain⟨x38,y38,g⟩:=g
 refine U.ix T y38 ?_
 refine U.pd 2 T (C.nx (U.start ?_))
 refine U.pd 1 T ?_
 exact St.wn (j34 _ g)
 refine C.skip ?_
 exact St.wn (j34 _ g)
 refine D.bq mix 9999 [] [] (fun hQ hS ws M'=>?_)
 refine D.pq 2 (zl [0,1]) T ?_
 obtain⟨x29,y29,g⟩:=g
 refine D.ix 2 [] T y29 ?_
 refine D.pq 3 (zl [3,4,5]) T ?_
 obtain⟨x30,y30,g⟩:=g
 refine D.ix 6 [] T y30 ?_
 refine D.pq 3 (zl [7,8,9]) T ?_
 refine g.cs (fun b31 g=>?_) fun b31 g=>?_
 refine D.pt 10 [] 9 true 28 b31 T ?_
 refine D.pt 11 [] 9 true 28 b31 T ?_
 refine D.pt 12 [] 9 true 28 b31 T ?_
 refine g.cs (fun b32 g=>?_) fun b32 g=>?_
 refine D.pt 13 [] 12 false 31 (ntF b32) T ?_
 refine D.pt 14 [] 12 false 31 (ntF b32) T ?_
 refine D.q 15 [] hQ hS rfl (.tk 12 false 31 (ntF b32)) rfl rfl (by exact Rd.ix T rfl rfl rfl rfl rfl rfl y29) rfl (by kernel_rfl) ?_
 refine D.q 16 [] hQ hS rfl (.tk 12 false 31 (ntF b32)) rfl rfl (by exact Rd.l T rfl rfl rfl) rfl (by kernel_rfl) ?_
 refine D.pt 17 [] 12 false 31 (ntF b32) T ?_
 refine D.pt 18 [] 12 false 31 (ntF b32) T ?_
 refine D.q 19 [] hQ hS rfl (.tk 9 true 28 b31) rfl rfl (by exact Rd.pk' rfl rfl (ntF b32) rfl) rfl (by kernel_rfl) ?_
 refine D.kt 20 [] b31 ?_
 refine D.done (by kernel_rfl) ?_
 exact St.wn (j28 _ g)
 refine D.sz 13 [] 12 false 31 (ntT b32) ?_
 refine D.sz 14 [] 12 false 31 (ntT b32) ?_
 refine D.sz 15 [] 12 false 31 (ntT b32) ?_
 refine D.sz 16 [] 12 false 31 (ntT b32) ?_
 refine D.sz 17 [] 12 false 31 (ntT b32) ?_
 refine D.sz 18 [] 12 false 31 (ntT b32) ?_
 refine D.q 19 [] hQ hS rfl (.tk 9 true 28 b31) rfl rfl (by exact Rd.pk rfl rfl (ntT b32) rfl) rfl (by kernel_rfl) ?_
 refine D.kt 20 [] b31 ?_
 refine D.done (by kernel_rfl) ?_
 exact St.wn (j28 _ g)
 refine D.sz 10 [] 9 true 28 b31 ?_
 refine D.sz 11 [] 9 true 28 b31 ?_
 refine D.sz 12 [] 9 true 28 b31 ?_
 refine D.sx 13 [] hQ hS (.und 12 false 31 rfl rfl rfl) ?_
 refine D.sx 14 [] hQ hS (.und 12 false 31 rfl rfl rfl) ?_
 refine D.sx 15 [] hQ hS (.und 12 false 31 rfl rfl rfl) ?_
 refine D.sx 16 [] hQ hS (.und 12 false 31 rfl rfl rfl) ?_
 refine D.sx 17 [] hQ hS (.und 12 false 31 rfl rfl rfl) ?_
 refine D.sx 18 [] hQ hS (.und 12 false 31 rfl rfl rfl) ?_
 refine D.sz 19 [] 9 true 28 b31 ?_
 refine D.kf 20 [] b31 ?_
 refine D.done (by kernel_rfl) ?_
 exact St.wn (j28 _ g)
 refine C.exit (C.ex (C.ex (C.bex ?_)))
 exact St.wn (j21 _ g)
 refine C.exit (C.ex (C.ex (C.bex ?_)))
 exact St.wn (j10 _ g)
theorem WX (s_1:ApiSite) (st:ApiState) (post:Bool→Prop) (g:Kt s_1 st post):
  Tr Tryz.prog 22 [.agg (Q0 s_1),.agg (Q4 st)] [] 0 (pB post):=by
 refine Tr.go Tryz.func22 Tryz.ntmps22 fun _ _ _ _ o=>?_
 unfold Kt at g
 refine C.ss (U.bx ?_)
 refine U.bx ?_
 refine U.pd 1 T (C.xs (C.seq ?_))
 refine C.jn (fun (x3:Bool)=>[(2,.p 0 0),(3,.p 1 0),(47,.b x3)]) (fun x3=>[(0,.box (Q0 s_1)),(1,.box (Q4 st))]) 2 g (fun x3 g=>?_) fun J4 g j4=>?_
 refine C.nx ?_
 refine C.ite rfl g (fun b9 g=>?_) fun b9 g=>?_
 refine C.ss (U.pd 1 T (C.nx (C.ret (C.rt ?_))))
 exact C.f1 T o (pBi g)
 refine C.skip (C.xs (C.ss (U.pd 1 T (C.nx ?_))))
 refine C.jn (fun (x14:Unit)=>[(2,.p 0 0),(3,.p 1 0)]) (fun x14=>[(0,.box (Q0 s_1)),(1,.box (Q4 st))]) 2 g (fun x14 g=>?_) fun J15 g j15=>?_
 refine C.xs (C.ss (U.pd 1 T (C.nx ?_)))
 refine C.jn (fun (x31:Unit)=>[(2,.p 0 0),(3,.p 1 0)]) (fun x31=>[(0,.box (Q0 s_1)),(1,.box (Q4 st))]) 2 g (fun x31 g=>?_) fun J32 g j32=>?_
 refine C.xs (C.ss (U.pd 1 T (C.nx ?_)))
 refine C.jn (fun (x54:Unit)=>[(2,.p 0 0),(3,.p 1 0)]) (fun x54=>[(0,.box (Q0 s_1)),(1,.box (Q4 st))]) 2 g (fun x54 g=>?_) fun J55 g j55=>?_
 refine C.xt (U.pd 1 T (C.xs (C.ss ?_)))
 refine U.pd 1 T (C.nx ?_)
 refine C.jn (fun (x77:Unit)=>[(2,.p 0 0),(3,.p 1 0)]) (fun x77=>[(0,.box (Q0 s_1)),(1,.box (Q4 st))]) 2 g (fun x77 g=>?_) fun J78 g j78=>?_
 refine C.xt (U.pd 1 T (C.xs (C.ss ?_)))
 refine U.pd 1 T (C.nx ?_)
 refine C.jn (fun (x100:Unit)=>[(3,.p 0 0)]) (fun x100=>[(0,.box (Q4 st))]) 1 g (fun x100 g=>?_) fun J101 g j101=>?_
 refine C.xt (U.ps 1 T rfl (U.k (YX st _ g) en62 (fun x125 g=>?_)))
 refine U.k (WS x125 _ g) en61 fun x126 g=>?_
 refine U.pd 5 T (C.xt ?_)
 refine U.pd 3 T (C.nx (C.ret ?_))
 exact C.f1 T o (pBi g)
 refine C.block (St.wk (C.loop (fun (s102:Int×Int)=>[(2,.p 0 0),(3,.p 1 0),(10,.i s102.1),(12,.i s102.2)]) (fun s102=>[(0,.box (Q0 s_1)),(1,.box (Q4 st))]) g (fun s102 Y103 g=>?_)) (Wk.a (idR 2)))
 refine C.seq (C.ss (U.pd 5 T (C.nx ?_)))
 refine C.ite rfl g (fun b106 g=>?_) fun b106 g=>?_
 refine C.skip (C.xs (C.block (C.ss (U.ps 3 T rfl ?_))))
 obtain⟨x109,y109,g⟩:=g
 refine U.ix T y109 ?_
 refine U.ps 1 T rfl (U.al T ?_)
 refine U.st T ?_
 refine U.done (C.xs (C.seq ?_))
 refine C.jn (fun (x110:Bool)=>[(2,.p 0 0),(3,.p 1 0),(12,.i s102.2),(13,.p 2 0),(172,.b x110)]) (fun x110=>[(0,.box (Q0 s_1)),(1,.box (Q4 st)),(2,.box [.i x109.Cell,.i x109.Left])]) 3 g (fun x110 g=>?_) fun J111 g j111=>?_
 refine C.nx ?_
 refine C.ite rfl g (fun b116 g=>?_) fun b116 g=>?_
 refine C.ss (U.pd 1 T (C.nx (C.ret (C.rt (C.brt (C.rt (C.rt (C.brt (C.rt ?_)))))))))
 exact C.f1 T o (pBi g)
 refine C.skip (C.nx (U.start (U.pd 3 T (C.bnx (C.nx (U.start ?_))))))
 refine U.pd 3 T (C.nx ?_)
 exact St.wk (C.next g) (Wk.a (idR 2))
 refine U.start (U.ps 5 T rfl ?_)
 refine g.cs (fun b112 g=>?_) fun b112 g=>?_
 refine U.sk' 6 4 false 155 b112 ?_
 refine U.pk b112 ?_
 refine U.ps 1 T rfl (U.sk' 3 12 false 163 rfl ?_)
 refine U.pk rfl ?_
 refine U.ps 1 T rfl (U.sk' 3 17 false 168 rfl ?_)
 refine U.pk rfl ?_
 refine U.done ?_
 exact St.wa (idR 3) (j111 _ g)
 refine U.pq 4 4 false 155 b112 T ?_
 refine U.k (X2 s_1.Floor x109.Cell _ g) en59 (fun x113 g=>?_) (hw:=.take 4 false 155 _ b112 rfl rfl rfl)
 refine U.pq 1 4 false 155 b112 T ?_
 refine U.pk' b112 ?_
 refine U.ps 1 T rfl ?_
 refine g.cs (fun b114 g=>?_) fun b114 g=>?_
 refine U.sk' 3 12 false 163 b114 ?_
 refine U.pk b114 ?_
 refine U.ps 1 T rfl (U.sk' 3 17 false 168 rfl ?_)
 refine U.pk rfl ?_
 refine U.done ?_
 exact St.wa (idR 3) (j111 _ g)
 refine U.pq 3 12 false 163 b114 T ?_
 refine U.pk' b114 ?_
 refine U.ps 1 T rfl ?_
 refine g.cs (fun b115 g=>?_) fun b115 g=>?_
 refine U.sk' 3 17 false 168 b115 ?_
 refine U.pk b115 ?_
 refine U.done ?_
 exact St.wa (idR 3) (j111 _ g)
 refine U.pq 3 17 false 168 b115 T ?_
 refine U.pk' b115 ?_
 refine U.done ?_
 exact St.wa (idR 3) (j111 _ g)
 refine C.exit (C.ex (C.ex (C.bex ?_)))
 exact St.wa [some 1] (j101 _ g)
 refine C.block (St.wk (C.loop (fun (s79:Int×Int)=>[(2,.p 0 0),(3,.p 1 0),(10,.i s79.1),(11,.i s79.2)]) (fun s79=>[(0,.box (Q0 s_1)),(1,.box (Q4 st))]) g (fun s79 Y80 g=>?_)) (Wk.a (idR 2)))
 refine C.seq (C.ss (U.pd 5 T (C.nx ?_)))
 refine C.ite rfl g (fun b83 g=>?_) fun b83 g=>?_
 refine C.skip (C.xs (C.block (C.seq (C.seq ?_))))
 refine C.jn (fun (x84:Bool)=>[(2,.p 0 0),(3,.p 1 0),(11,.i s79.2),(133,.b x84)]) (fun x84=>[(0,.box (Q0 s_1)),(1,.box (Q4 st))]) 2 g (fun x84 g=>?_) fun J85 g j85=>?_
 refine C.nx ?_
 refine C.ite rfl g (fun b88 g=>?_) fun b88 g=>?_
 refine C.ss (U.pd 1 T (C.nx (C.ret (C.rt (C.brt (C.rt (C.rt (C.brt (C.rt ?_)))))))))
 exact C.f1 T o (pBi g)
 refine C.skip (C.nx (U.start (U.ps 3 T rfl ?_)))
 obtain⟨x93,y93,g⟩:=g
 refine U.ix T y93 ?_
 refine U.pd 2 T (C.bnx (C.nx (U.start ?_)))
 refine U.pd 3 T (C.nx ?_)
 exact St.wk (C.next g) (Wk.a (idR 2))
 refine D.bq mix 9999 [0,1] [] (fun hQ hS ws M'=>?_)
 refine D.pq 3 (zl [0,1,2]) T ?_
 obtain⟨x86,y86,g⟩:=g
 refine D.ix 3 [] T y86 ?_
 refine D.pq 4 (zl [4,5,6,7]) T ?_
 refine g.cs (fun b87 g=>?_) fun b87 g=>?_
 refine D.sz 8 [] 7 false 122 b87 ?_
 refine D.sz 9 [] 7 false 122 b87 ?_
 refine D.sz 10 [] 7 false 122 b87 ?_
 refine D.sz 11 [] 7 false 122 b87 ?_
 refine D.sz 12 [] 7 false 122 b87 ?_
 refine D.sz 13 [] 7 false 122 b87 ?_
 refine D.sz 14 [] 7 false 122 b87 ?_
 refine D.sz 15 [] 7 false 122 b87 ?_
 refine D.sz 16 [] 7 false 122 b87 ?_
 refine D.sz 17 [] 7 false 122 b87 ?_
 refine D.kt 18 [] b87 ?_
 refine D.done (by kernel_rfl) ?_
 exact St.wa (idR 2) (j85 _ g)
 refine D.pt 8 [] 7 false 122 b87 T ?_
 refine D.q 9 [] hQ hS rfl (.tk 7 false 122 b87) rfl rfl (by exact Rd.l T rfl rfl rfl) rfl (by kernel_rfl) ?_
 refine D.pt 10 [] 7 false 122 b87 T ?_
 refine D.q 11 [] hQ hS rfl (.tk 7 false 122 b87) rfl rfl (by exact Rd.ix T rfl rfl rfl rfl rfl rfl y86) rfl (by kernel_rfl) ?_
 refine D.q 12 [] hQ hS rfl (.tk 7 false 122 b87) rfl rfl (by exact Rd.l T rfl rfl rfl) rfl (by kernel_rfl) ?_
 refine D.pt 13 [] 7 false 122 b87 T ?_
 refine D.pt 14 [] 7 false 122 b87 T ?_
 refine D.q 15 [] hQ hS rfl (.tk 7 false 122 b87) rfl rfl (by exact Rd.l T rfl rfl rfl) rfl (by kernel_rfl) ?_
 refine D.pt 16 [] 7 false 122 b87 T ?_
 refine D.pt 17 [] 7 false 122 b87 T ?_
 refine D.kf 18 [] b87 ?_
 refine D.done (by kernel_rfl) ?_
 exact St.wa (idR 2) (j85 _ g)
 refine C.exit (C.ex (C.ex (C.bex ?_)))
 exact St.wa (idR 2) (j78 _ g)
 refine C.block (St.wk (C.loop (fun (s56:Int)=>[(2,.p 0 0),(3,.p 1 0),(8,.i s56)]) (fun s56=>[(0,.box (Q0 s_1)),(1,.box (Q4 st))]) g (fun s56 Y57 g=>?_)) (Wk.a (idR 2)))
 refine C.seq (C.ss (U.pd 5 T (C.nx ?_)))
 refine C.ite rfl g (fun b60 g=>?_) fun b60 g=>?_
 refine C.skip (C.xs (C.block (C.seq (D.bq mix 9999 [0,1] [] (fun hQ hS ws M'=>?_)))))
 refine D.pq 5 (zl [0,1,2,3,4]) T ?_
 obtain⟨x63,y63,g⟩:=g
 refine D.ix 5 [] T y63 ?_
 refine D.pq 1 [(6,[])] T ?_
 refine D.k 7 (X2 s_1.Floor x63 _ g) en59 fun x64 g=>?_
 refine D.pq 1 [(8,[])] T ?_
 refine D.done (by kernel_rfl) ?_
 refine C.xs ?_
 refine C.jn (fun (x65:Bool)=>[(2,.p 0 0),(3,.p 1 0),(8,.i s56),(107,.b x65)]) (fun x65=>[(0,.box (Q0 s_1)),(1,.box (Q4 st))]) 2 g (fun x65 g=>?_) fun J66 g j66=>?_
 refine C.nx ?_
 refine C.ite rfl g (fun b68 g=>?_) fun b68 g=>?_
 refine C.ss (U.pd 1 T (C.nx (C.ret (C.brt (C.rt (C.rt (C.brt (C.rt ?_))))))))
 exact C.f1 T o (pBi g)
 refine C.skip (C.bnx (C.nx (U.start (U.pd 3 T (C.nx ?_)))))
 exact St.wk (C.next g) (Wk.a (idR 2))
 refine U.start (U.ps 3 T rfl ?_)
 refine g.cs (fun b67 g=>?_) fun b67 g=>?_
 refine U.pq 2 2 true 104 b67 T ?_
 refine U.pk b67 ?_
 refine U.done ?_
 exact St.wa (idR 2) (j66 _ g)
 refine U.sk' 2 2 true 104 b67 ?_
 refine U.pk' b67 ?_
 refine U.done ?_
 exact St.wa (idR 2) (j66 _ g)
 refine C.exit (C.ex (C.ex (C.bex ?_)))
 exact St.wa (idR 2) (j55 _ g)
 refine C.block (St.wk (C.loop (fun (s33:Int)=>[(2,.p 0 0),(3,.p 1 0),(6,.i s33)]) (fun s33=>[(0,.box (Q0 s_1)),(1,.box (Q4 st))]) g (fun s33 Y34 g=>?_)) (Wk.a (idR 2)))
 refine C.seq (C.ss (U.pd 5 T (C.nx ?_)))
 refine C.ite rfl g (fun b37 g=>?_) fun b37 g=>?_
 refine C.skip (C.xs (C.block (C.seq (D.bq mix 9999 [0,1] [] (fun hQ hS ws M'=>?_)))))
 refine D.pq 5 (zl [0,1,2,3,4]) T ?_
 obtain⟨x40,y40,g⟩:=g
 refine D.ix 5 [] T y40 ?_
 refine D.pq 1 [(6,[])] T ?_
 refine D.k 7 (X2 s_1.Floor x40 _ g) en59 fun x41 g=>?_
 refine D.pq 1 [(8,[])] T ?_
 refine D.done (by kernel_rfl) ?_
 refine C.xs ?_
 refine C.jn (fun (x42:Bool)=>[(2,.p 0 0),(3,.p 1 0),(6,.i s33),(86,.b x42)]) (fun x42=>[(0,.box (Q0 s_1)),(1,.box (Q4 st))]) 2 g (fun x42 g=>?_) fun J43 g j43=>?_
 refine C.nx ?_
 refine C.ite rfl g (fun b47 g=>?_) fun b47 g=>?_
 refine C.ss (U.pd 1 T (C.nx (C.ret (C.brt (C.rt (C.rt (C.brt (C.rt ?_))))))))
 exact C.f1 T o (pBi g)
 refine C.skip (C.bnx (C.nx (U.start (U.pd 3 T (C.nx ?_)))))
 exact St.wk (C.next g) (Wk.a (idR 2))
 refine U.start (U.ps 2 T rfl (U.k (X6 st s33 _ g) en60 (fun x44 g=>?_)))
 refine U.ps 2 T rfl ?_
 refine g.cs (fun b45 g=>?_) fun b45 g=>?_
 refine U.pq 2 4 true 79 b45 T ?_
 refine U.pk b45 ?_
 refine U.ps 1 T rfl ?_
 refine g.cs (fun b46 g=>?_) fun b46 g=>?_
 refine U.pq 2 8 true 83 b46 T ?_
 refine U.pk b46 ?_
 refine U.done ?_
 exact St.wa (idR 2) (j43 _ g)
 refine U.sk' 2 8 true 83 b46 ?_
 refine U.pk' b46 ?_
 refine U.done ?_
 exact St.wa (idR 2) (j43 _ g)
 refine U.sk' 2 4 true 79 b45 ?_
 refine U.pk' b45 ?_
 refine U.ps 1 T rfl (U.sk' 2 8 true 83 rfl ?_)
 refine U.pk' rfl ?_
 refine U.done ?_
 exact St.wa (idR 2) (j43 _ g)
 refine C.exit (C.ex (C.ex (C.bex ?_)))
 exact St.wa (idR 2) (j32 _ g)
 refine C.block (St.wk (C.loop (fun (s16:Int)=>[(2,.p 0 0),(3,.p 1 0),(5,.i s16)]) (fun s16=>[(0,.box (Q0 s_1)),(1,.box (Q4 st))]) g (fun s16 Y17 g=>?_)) (Wk.a (idR 2)))
 refine C.seq (C.ss (U.pd 5 T (C.nx ?_)))
 refine C.ite rfl g (fun b20 g=>?_) fun b20 g=>?_
 refine C.skip (C.xs (C.block (C.ss (U.ps 3 T rfl (U.k (Yc s_1 st s16 _ g) en58 (fun x23 g=>?_))))))
 refine U.pd 1 T (C.nx ?_)
 refine C.ite rfl g (fun b24 g=>?_) fun b24 g=>?_
 refine C.ss (U.pd 1 T (C.nx (C.ret (C.brt (C.rt (C.rt (C.brt (C.rt ?_))))))))
 exact C.f1 T o (pBi g)
 refine C.skip (C.bnx (C.nx (U.start (U.pd 3 T (C.nx ?_)))))
 exact St.wk (C.next g) (Wk.a (idR 2))
 refine C.exit (C.ex (C.ex (C.bex ?_)))
 exact St.wa (idR 2) (j15 _ g)
 refine U.start (U.ps 4 T rfl ?_)
 refine g.cs (fun b5 g=>?_) fun b5 g=>?_
 refine U.sk' 3 3 false 19 b5 ?_
 refine U.pk b5 ?_
 refine U.ps 1 T rfl (U.sk' 7 8 false 24 rfl ?_)
 refine U.pk rfl ?_
 refine U.ps 1 T rfl (U.sk' 7 17 false 33 rfl ?_)
 refine U.pk rfl ?_
 refine U.ps 1 T rfl (U.sk' 4 26 false 42 rfl ?_)
 refine U.pk rfl ?_
 refine U.done ?_
 exact St.wa (idR 2) (j4 _ g)
 refine U.pq 3 3 false 19 b5 T ?_
 refine U.pk' b5 ?_
 refine U.ps 1 T rfl ?_
 refine g.cs (fun b6 g=>?_) fun b6 g=>?_
 refine U.sk' 7 8 false 24 b6 ?_
 refine U.pk b6 ?_
 refine U.ps 1 T rfl (U.sk' 7 17 false 33 rfl ?_)
 refine U.pk rfl ?_
 refine U.ps 1 T rfl (U.sk' 4 26 false 42 rfl ?_)
 refine U.pk rfl ?_
 refine U.done ?_
 exact St.wa (idR 2) (j4 _ g)
 refine U.pq 7 8 false 24 b6 T ?_
 refine U.pk' b6 ?_
 refine U.ps 1 T rfl ?_
 refine g.cs (fun b7 g=>?_) fun b7 g=>?_
 refine U.sk' 7 17 false 33 b7 ?_
 refine U.pk b7 ?_
 refine U.ps 1 T rfl (U.sk' 4 26 false 42 rfl ?_)
 refine U.pk rfl ?_
 refine U.done ?_
 exact St.wa (idR 2) (j4 _ g)
 refine U.pq 7 17 false 33 b7 T ?_
 refine U.pk' b7 ?_
 refine U.ps 1 T rfl ?_
 refine g.cs (fun b8 g=>?_) fun b8 g=>?_
 refine U.sk' 4 26 false 42 b8 ?_
 refine U.pk b8 ?_
 refine U.done ?_
 exact St.wa (idR 2) (j4 _ g)
 refine U.pq 4 26 false 42 b8 T ?_
 refine U.pk' b8 ?_
 refine U.done ?_
 exact St.wa (idR 2) (j4 _ g)
theorem Yz (s_1:ApiSite) (st:ApiState) (post:Bool→Prop) (g:Ky s_1 st post):
  Tr Tryz.prog 5 [.agg (Q0 s_1),.agg (Q4 st)] [] 0 (pB post):=by
 refine Tr.go Tryz.func5 Tryz.ntmps5 fun _ _ _ _ o=>?_
 unfold Ky at g
 refine C.ss (U.bx ?_)
 refine U.bx ?_
 refine U.pd 1 T (C.xs ?_)
 refine C.jn (fun (x3:Bool)=>[(4,.b x3)]) (fun x3=>[]) 0 g (fun x3 g=>?_) fun J4 g j4=>?_
 refine C.nx (C.ret ?_)
 exact C.f1 T o (pBi g)
 refine U.start (U.ps 1 T rfl (U.k (YK s_1 50 20 _ g) en19 (fun x5 g=>?_)))
 refine U.ps 1 T rfl ?_
 refine g.cs (fun b6 g=>?_) fun b6 g=>?_
 refine U.pq 1 2 true 7 b6 T ?_
 refine U.k (Yi s_1 _ g) en20 (fun x7 g=>?_) (hw:=.take 2 true 7 _ b6 rfl rfl rfl)
 refine U.pk b6 ?_
 refine U.ps 1 T rfl ?_
 refine g.cs (fun b8 g=>?_) fun b8 g=>?_
 refine U.pq 1 6 true 11 b8 T ?_
 refine U.k (Z0 st _ g) en21 (fun x9 g=>?_) (hw:=.take 6 true 11 _ b8 rfl rfl rfl)
 refine U.pk b8 ?_
 refine U.ps 1 T rfl ?_
 refine g.cs (fun b10 g=>?_) fun b10 g=>?_
 refine U.pq 2 10 true 15 b10 T ?_
 refine U.k (WX s_1 st _ g) en22 (fun x11 g=>?_) (hw:=.take 10 true 15 _ b10 rfl rfl rfl)
 refine U.pk b10 ?_
 refine U.pd 1 T ?_
 exact St.wn (j4 _ g)
 refine U.sk' 3 10 true 15 b10 ?_
 refine U.pk' b10 ?_
 refine U.pd 1 T ?_
 exact St.wn (j4 _ g)
 refine U.sk' 2 6 true 11 b8 ?_
 refine U.pk' b8 ?_
 refine U.ps 1 T rfl (U.sk' 3 10 true 15 rfl ?_)
 refine U.pk' rfl ?_
 refine U.pd 1 T ?_
 exact St.wn (j4 _ g)
 refine U.sk' 2 2 true 7 b6 ?_
 refine U.pk' b6 ?_
 refine U.ps 1 T rfl (U.sk' 2 6 true 11 rfl ?_)
 refine U.pk' rfl ?_
 refine U.ps 1 T rfl (U.sk' 3 10 true 15 rfl ?_)
 refine U.pk' rfl ?_
 refine U.pd 1 T ?_
 exact St.wn (j4 _ g)
theorem YY (l:List (List Int)) (n:Int) (post:Bool→Prop) (g:V_taquinref34_Few l n post):
  Tr Tryz.prog 6 [.sl 1 eLeI l,.i n] [] 0 (pB post):=by
 refine Tr.go Tryz.func6 Tryz.ntmps6 fun _ _ _ _ o=>?_
 unfold V_taquinref34_Few at g
 refine C.ss (U.pd 1 T (C.xs (C.ss ?_)))
 refine U.pd 1 T (C.nx ?_)
 refine C.jn (fun (x5:Unit)=>[(0,.sl 1 eLeI l),(1,.i n)]) (fun x5=>[]) 0 g (fun x5 g=>?_) fun J6 g j6=>?_
 refine C.xt (U.pd 5 T (C.nx (C.ret ?_)))
 exact C.f1 T o (pBi g)
 refine C.block (St.wk (C.loop (fun (s7:Int)=>[(0,.sl 1 eLeI l),(1,.i n),(5,.i s7)]) (fun s7=>[]) g (fun s7 Y8 g=>?_)) (Wk.e))
 refine C.seq (C.seq ?_)
 refine C.jn (fun (x9:Bool)=>[(0,.sl 1 eLeI l),(1,.i n),(5,.i s7),(15,.b x9)]) (fun x9=>[]) 0 g (fun x9 g=>?_) fun J10 g j10=>?_
 refine C.nx ?_
 refine C.ite rfl g (fun b12 g=>?_) fun b12 g=>?_
 refine C.skip (C.xs ?_)
 refine C.jn (fun (x13:Unit)=>[(0,.sl 1 eLeI l),(1,.i n),(5,.i s7)]) (fun x13=>[]) 0 g (fun x13 g=>?_) fun J14 g j14=>?_
 refine C.nx (U.start (U.pd 3 T (C.nx ?_)))
 exact St.wk (C.next g) (Wk.e)
 refine C.block (C.seq (C.ss (U.pd 1 T (C.nx ?_))))
 refine C.jn (fun (x17:Unit)=>[(0,.sl 1 eLeI l),(1,.i n),(5,.i s7)]) (fun x17=>[]) 0 g (fun x17 g=>?_) fun J18 g j18=>?_
 refine C.xt (U.ps 2 T rfl ?_)
 obtain⟨x38,y38,g⟩:=g
 refine U.ix T y38 ?_
 refine U.pd 3 T (C.nx ?_)
 refine C.ite rfl g (fun b39 g=>?_) fun b39 g=>?_
 refine C.ss (U.pd 1 T (C.nx (C.ret (C.brt (C.rt (C.rt (C.brt (C.rt ?_))))))))
 exact C.f1 T o (pBi g)
 refine C.skip (C.bnx ?_)
 exact St.wn (j14 _ g)
 refine C.block (St.wk (C.loop (fun (s19:Int)=>[(0,.sl 1 eLeI l),(1,.i n),(5,.i s7),(6,.i s19)]) (fun s19=>[]) g (fun s19 Y20 g=>?_)) (Wk.e))
 refine C.seq (C.seq ?_)
 refine C.jn (fun (x21:Bool)=>[(0,.sl 1 eLeI l),(1,.i n),(5,.i s7),(6,.i s19),(28,.b x21)]) (fun x21=>[]) 0 g (fun x21 g=>?_) fun J22 g j22=>?_
 refine C.nx ?_
 refine C.ite rfl g (fun b25 g=>?_) fun b25 g=>?_
 refine C.skip (C.xs (C.block (C.seq ?_)))
 refine C.jn (fun (x26:Bool)=>[(0,.sl 1 eLeI l),(1,.i n),(5,.i s7),(6,.i s19),(48,.b x26)]) (fun x26=>[]) 0 g (fun x26 g=>?_) fun J27 g j27=>?_
 refine C.nx ?_
 refine C.ite rfl g (fun b31 g=>?_) fun b31 g=>?_
 refine C.ss (U.pd 1 T (C.nx (C.ret (C.brt (C.rt (C.rt (C.brt (C.rt (C.brt (C.rt (C.rt (C.brt (C.rt ?_)))))))))))))
 exact C.f1 T o (pBi g)
 refine C.skip (C.bnx (C.nx (U.start (U.pd 3 T (C.nx ?_)))))
 exact St.wk (C.next g) (Wk.e)
 refine U.start (U.ps 2 T rfl ?_)
 obtain⟨x28,y28,g⟩:=g
 refine U.ix T y28 ?_
 refine U.ps 2 T rfl ?_
 obtain⟨x29,y29,g⟩:=g
 refine U.ix T y29 ?_
 refine U.ps 3 T rfl ?_
 refine g.cs (fun b30 g=>?_) fun b30 g=>?_
 refine U.sk' 8 8 false 39 b30 ?_
 refine U.pk b30 ?_
 refine U.done ?_
 exact St.wn (j27 _ g)
 refine U.pq 2 8 false 39 b30 T ?_
 refine U.r rfl (.tk 8 false 39 b30) rfl rfl (by exact Rd.ix T rfl rfl rfl rfl rfl rfl y28) ?_
 refine U.pq 2 8 false 39 b30 T ?_
 refine U.r rfl (.tk 8 false 39 b30) rfl rfl (by exact Rd.ix T rfl rfl rfl rfl rfl rfl y29) ?_
 refine U.pq 2 8 false 39 b30 T ?_
 refine U.pk' b30 ?_
 refine U.done ?_
 exact St.wn (j27 _ g)
 refine C.exit (C.ex (C.ex (C.bex ?_)))
 exact St.wn (j18 _ g)
 refine U.start (U.ps 3 T rfl ?_)
 obtain⟨x23,y23,g⟩:=g
 refine U.ix T y23 ?_
 refine U.ps 4 T rfl ?_
 refine g.cs (fun b24 g=>?_) fun b24 g=>?_
 refine U.pq 2 7 true 25 b24 T ?_
 refine U.pk b24 ?_
 refine U.done ?_
 exact St.wn (j22 _ g)
 refine U.sk' 2 7 true 25 b24 ?_
 refine U.pk' b24 ?_
 refine U.done ?_
 exact St.wn (j22 _ g)
 refine C.exit (C.ex (C.ex (C.bex ?_)))
 exact St.wn (j6 _ g)
 refine U.start (U.ps 5 T rfl ?_)
 refine g.cs (fun b11 g=>?_) fun b11 g=>?_
 refine U.pq 3 4 true 11 b11 T ?_
 refine U.pk b11 ?_
 refine U.done ?_
 exact St.wn (j10 _ g)
 refine U.sk' 3 4 true 11 b11 ?_
 refine U.pk' b11 ?_
 refine U.done ?_
 exact St.wn (j10 _ g)
theorem YM (x_1:Int) (y_1:Int) (post:(Int×Int)→Prop) (g:Xf x_1 y_1 post):
  Tr Tryz.prog 89 [.v (.int .u64 x_1),.v (.int .u64 y_1)] [] 0 (fun A H' k=>∃y,post y∧A=(.tup [.v (.int .u64 y.1),.v (.int .u64 y.2)])∧H'=[]∧k=0):=by
 refine Tr.go Tryz.func89 Tryz.ntmps89 fun _ _ _ _ o=>?_
 unfold Xf at g
 refine C.ss (U.pd 2 T (C.xt ?_))
 refine U.pd 3 T (C.xt ?_)
 refine U.ps 1 T rfl (U.r rfl (.none rfl) rfl rfl (by exact Rd.sh rfl rfl rfl rfl (by decide)) ?_)
 refine U.pd 1 T (C.xt ?_)
 refine U.pd 3 T (C.xt ?_)
 refine U.ps 1 T rfl (U.r rfl (.none rfl) rfl rfl (by exact Rd.sh rfl rfl rfl rfl (by decide)) ?_)
 refine U.pd 1 T (C.xt ?_)
 refine U.pd 4 T (C.xt ?_)
 refine U.ps 4 T rfl (U.r rfl (.none rfl) rfl rfl (by exact Rd.sh rfl rfl rfl rfl (by decide)) ?_)
 refine U.pd 2 T (C.xt ?_)
 refine U.pd 3 T (C.xt ?_)
 refine U.ps 1 T rfl (U.r rfl (.none rfl) rfl rfl (by exact Rd.sh rfl rfl rfl rfl (by decide)) ?_)
 refine U.pd 1 T (C.xt ?_)
 refine U.pd 6 T (C.xt ?_)
 refine U.ps 6 T rfl (U.r rfl (.none rfl) rfl rfl (by exact Rd.sh rfl rfl rfl rfl (by decide)) ?_)
 refine U.pd 2 T (C.xt ?_)
 refine U.pd 4 T (C.nx (C.ret ?_))
 exact C.f9 T o ⟨(IntKind.wrap .u64 ((IntKind.wrap .u64 ((IntKind.wrap .u64 ((shrI .u64 x_1 32)*(shrI .u64 y_1 32)))+(shrI .u64 (IntKind.wrap .u64 ((IntKind.wrap .u64 ((shrI .u64 x_1 32)*(band .u64 y_1 4294967295)))+(shrI .u64 (IntKind.wrap .u64 ((band .u64 x_1 4294967295)*(band .u64 y_1 4294967295))) 32))) 32)))+(shrI .u64 (IntKind.wrap .u64 ((band .u64 (IntKind.wrap .u64 ((IntKind.wrap .u64 ((shrI .u64 x_1 32)*(band .u64 y_1 4294967295)))+(shrI .u64 (IntKind.wrap .u64 ((band .u64 x_1 4294967295)*(band .u64 y_1 4294967295))) 32))) 4294967295)+(IntKind.wrap .u64 ((band .u64 x_1 4294967295)*(shrI .u64 y_1 32))))) 32)),IntKind.wrap .u64 (x_1*y_1)),g,rfl,rfl,rfl⟩
theorem ZK (x_1:Int) (y_1:Int) (post:(Int×Int)→Prop) (g:X5 x_1 y_1 post):
  Tr Tryz.prog 63 [.v (.int .u64 x_1),.v (.int .u64 y_1)] [] 0 (fun A H' k=>∃y,post y∧A=(.tup [.v (.int .u64 y.1),.v (.int .u64 y.2)])∧H'=[]∧k=0):=by
 refine Tr.go Tryz.func63 Tryz.ntmps63 fun _ _ _ _ o=>?_
 unfold X5 at g
 refine C.ss (U.pd 2 T (C.xs ?_))
 refine C.condF rfl rfl ?_
 refine C.skip (C.xt (U.ps 2 T rfl (U.k (YM x_1 y_1 _ g) en89 (fun x5 g=>?_))))
 refine U.pd 5 T (C.xt ?_)
 refine U.pd 4 T (C.nx (C.ret ?_))
 exact C.f9 T o ⟨(x5.1,x5.2),g,rfl,rfl,rfl⟩
theorem GW (x_1:List Int) (count:Int) (post:(List Int)→Prop) (g:QP x_1 count post):
  Tr Tryz.prog 24 [.sl 1 eI x_1,.i count] [] 0 (fun A H' k=>∃y,post y∧A=(.o 0)∧H'=[(0,.val (.os 1 eI y))]∧k=1):=by
 refine Tr.go Tryz.func24 Tryz.ntmps24 fun _ _ _ _ o=>?_
 unfold QP at g
 refine C.ss (U.pd 1 T (C.xs (C.ss ?_)))
 refine U.pd 2 T (C.nx ?_)
 refine C.ite rfl g (fun b7 g=>?_) fun b7 g=>?_
 refine U.start ?_
 exact g.elim
 refine C.skip (C.xt (U.ps 5 T rfl (U.k (ZK (IntKind.wrap .u64 (x_1.length:Int)) (IntKind.wrap .u64 count) _ g) en63 (fun x12 g=>?_))))
 refine U.pd 5 T (C.xs (C.seq ?_))
 refine C.jn (fun (x13:Bool)=>[(0,.sl 1 eI x_1),(6,.v (.int .u64 x12.2)),(26,.b x13)]) (fun x13=>[]) 0 g (fun x13 g=>?_) fun J14 g j14=>?_
 refine C.nx ?_
 refine C.ite rfl g (fun b18 g=>?_) fun b18 g=>?_
 refine U.start ?_
 exact g.elim
 refine C.skip (C.xt (U.ps 2 T rfl ?_))
 obtain⟨y23,g⟩:=g
 refine U.e1 rfl (.none rfl) (by exact Eff1.mk T (enc:=eI) (z0:=0) rfl rfl rfl rfl rfl rfl rfl rfl rfl rfl y23) ?_
 refine U.pd 1 T (C.xt ?_)
 refine U.ps 2 T rfl (U.e1 rfl (.none rfl) (by exact Eff1.cp T rfl rfl rfl rfl (.inr ⟨rfl,rfl,rfl⟩) rfl rfl (.inl rfl) rfl rfl rfl (fun _=>rfl) (Nat.le_of_eq (Nat.zero_add _)) rfl) ?_)
 refine U.pd 1 T (C.xs ?_)
 refine C.jn (fun (x26:List Int)=>[(7,.o 0)]) (fun x26=>[(0,.val (.os 1 eI x26))]) 1 g (fun x26 g=>?_) fun J27 g j27=>?_
 refine C.xt (U.pd 2 T (C.nx (C.ret ?_)))
 exact C.g1 [some 0] T o ⟨x26,g,rfl,rfl,rfl⟩
 refine C.block (St.wk (C.loop (fun (s28:List Int×Int)=>[(7,.o 0),(8,.i s28.2)]) (fun s28=>[(0,.val (.os 1 eI s28.1))]) g (fun s28 Y29 g=>?_)) (Wk.a [some 0]))
 refine C.seq (C.ss (U.pd 4 T (C.nx ?_)))
 refine C.ite rfl g (fun b32 g=>?_) fun b32 g=>?_
 refine C.skip (C.nx (C.block (D.bq mix 9999 [] [0] (fun hQ hS ws M'=>?_))))
 refine D.pq 3 (zl [0,1,2]) T ?_
 obtain⟨y35,g⟩:=g
 refine D.q 3 [] hQ hS rfl (.none rfl) rfl rfl (by exact Rd.vw T rfl rfl rfl rfl rfl rfl (.some _ rfl) (.none _) y35) rfl (by kernel_rfl) ?_
 refine D.pq 2 (zl [4,5]) T ?_
 obtain⟨y36,g⟩:=g
 refine D.q 6 [] hQ hS rfl (.none rfl) rfl rfl (by exact Rd.vw T rfl rfl rfl rfl rfl rfl (.none _) (.some _ rfl) y36) rfl (by kernel_rfl) ?_
 obtain⟨y37,g⟩:=g
 obtain⟨y38,g⟩:=g
 refine D.e1 7 rfl (.none rfl) (by exact Eff1.cp T rfl rfl rfl rfl (.inl rfl) rfl rfl (.inr (.inr ⟨_,_,_,_,rfl,rfl,y38,rfl⟩)) rfl rfl rfl (fun _=>rfl) y37 rfl) (by kernel_rfl) rfl rfl ?_
 refine D.pq 2 (zl [8,9]) T ?_
 refine D.done (by kernel_rfl) ?_
 refine C.bnx (C.nx ?_)
 exact St.wk (C.next g) (Wk.a [some 0])
 refine C.exit (C.ex (C.ex (C.bex ?_)))
 exact St.wa [some 0] (j27 _ g)
 refine U.start (U.ps 3 T rfl ?_)
 refine g.cs (fun b15 g=>?_) fun b15 g=>?_
 refine U.sk' 2 2 false 23 b15 ?_
 refine U.pk b15 ?_
 refine U.done ?_
 exact St.wn (j14 _ g)
 refine U.pq 2 2 false 23 b15 T ?_
 refine U.pk' b15 ?_
 refine U.done ?_
 exact St.wn (j14 _ g)
theorem Wj (x_1:Int) (post:Bool→Prop) (g:Xc x_1 post):
  Tr Tryz.prog 129 [.i x_1] [] 0 (pB post):=by
 refine Tr.go Tryz.func129 Tryz.ntmps129 fun _ _ _ _ o=>?_
 unfold Xc at g
 refine C.ss (U.pd 1 T (C.xt ?_))
 refine U.pd 4 T (C.nx (C.ret ?_))
 exact C.f1 T o (pBi g)
theorem ZZ (x_1:Int) (y_1:Int) (post:Bool→Prop) (g:XH x_1 y_1 post):
  Tr Tryz.prog 118 [.i x_1,.i y_1] [] 0 (pB post):=by
 refine Tr.go Tryz.func118 Tryz.ntmps118 fun _ _ _ _ o=>?_
 unfold XH at g
 refine C.ss (U.pd 1 T (C.xs ?_))
 refine C.jn (fun (x3:Bool)=>[(4,.b x3)]) (fun x3=>[]) 0 g (fun x3 g=>?_) fun J4 g j4=>?_
 refine C.nx (C.ret ?_)
 exact C.f1 T o (pBi g)
 refine U.start (U.ps 1 T rfl (U.k (Wj x_1 _ g) Q4p (fun x5 g=>?_)))
 refine U.ps 1 T rfl ?_
 refine g.cs (fun b6 g=>?_) fun b6 g=>?_
 refine U.pq 1 2 true 7 b6 T ?_
 refine U.k (Wj y_1 _ g) Q4p (fun x7 g=>?_) (hw:=.take 2 true 7 _ b6 rfl rfl rfl)
 refine U.pq 1 2 true 7 b6 T ?_
 refine U.pk b6 ?_
 refine U.ps 1 T rfl ?_
 refine g.cs (fun b8 g=>?_) fun b8 g=>?_
 refine U.pq 3 7 false 12 (ntF b8) T ?_
 refine U.pk' (ntF b8) ?_
 refine U.pd 1 T ?_
 exact St.wn (j4 _ g)
 refine U.sk' 3 7 false 12 (ntT b8) ?_
 refine U.pk (ntT b8) ?_
 refine U.pd 1 T ?_
 exact St.wn (j4 _ g)
 refine U.sk' 3 2 true 7 b6 ?_
 refine U.pk' b6 ?_
 refine U.ps 1 T rfl (U.pq 3 7 false 12 rfl T ?_)
 refine U.pk' rfl ?_
 refine U.pd 1 T ?_
 exact St.wn (j4 _ g)
theorem Gn (x_1:Int) (post:Bool→Prop) (g:KA x_1 post):
  Tr Tryz.prog 123 [.i x_1] [] 0 (pB post):=by
 refine Tr.go Tryz.func123 Tryz.ntmps123 fun _ _ _ _ o=>?_
 unfold KA at g
 refine C.ss (U.pd 1 T (C.xt ?_))
 refine U.pd 4 T (C.nx (C.ret ?_))
 exact C.f1 T o (pBi g)
theorem XO (x_1:List Int) (target:Int) (post:(Int×Bool)→Prop) (g:Qq x_1 target post):
  Tr Tryz.prog 109 [.sl 1 eI x_1,.i target] [] 0 (fun A H' k=>∃y,post y∧A=(.tup [.i y.1,.b y.2])∧H'=[]∧k=0):=by
 refine Tr.go Tryz.func109 Tryz.ntmps109 fun _ _ _ _ o=>?_
 unfold Qq at g
 refine C.ss (U.pd 2 T (C.xt ?_))
 refine U.pd 3 T (C.xt ?_)
 refine U.pd 3 T (C.xs ?_)
 refine C.jn (fun (x7:Int)=>[(0,.sl 1 eI x_1),(1,.i target),(6,.i (x_1.length:Int)),(7,.i x7)]) (fun x7=>[]) 0 g (fun x7 g=>?_) fun J8 g j8=>?_
 refine C.xs ?_
 refine C.jn (fun (x28:Bool)=>[(4,.i x7),(5,.b x28)]) (fun x28=>[]) 0 g (fun x28 g=>?_) fun J29 g j29=>?_
 refine C.nx (C.ret ?_)
 exact C.f9 T o ⟨(x7,x28),g,rfl,rfl,rfl⟩
 refine U.start (U.ps 5 T rfl ?_)
 refine g.cs (fun b30 g=>?_) fun b30 g=>?_
 refine U.pq 2 4 true 35 b30 T ?_
 obtain⟨x31,y31,g⟩:=g
 refine U.r rfl (.tk 4 true 35 b30) rfl rfl (by exact Rd.ix T rfl rfl rfl rfl rfl rfl y31) ?_
 refine U.pq 4 4 true 35 b30 T ?_
 refine g.cs (fun b32 g=>?_) fun b32 g=>?_
 refine U.sk' 6 11 false 42 b32 ?_
 refine U.sku 2 17 true 48 rfl rfl rfl ?_
 refine U.sk' 1 11 false 42 b32 ?_
 refine U.r rfl (.tk 4 true 35 b30) rfl rfl (by exact Rd.pk rfl rfl b32 rfl) ?_
 refine U.pk b30 ?_
 refine U.pd 2 T ?_
 exact St.wn (j29 _ g)
 refine U.pq 2 11 false 42 b32 T ?_
 refine U.r rfl (.tk 11 false 42 b32) rfl rfl (by exact Rd.ix T rfl rfl rfl rfl rfl rfl y31) ?_
 refine U.pq 1 11 false 42 b32 T ?_
 refine U.k (Gn x31 _ g) Q4n (fun x33 g=>?_) (hw:=.take 11 false 42 _ b32 rfl rfl rfl)
 refine U.pq 1 11 false 42 b32 T ?_
 refine g.cs (fun b34 g=>?_) fun b34 g=>?_
 refine U.pq 1 17 true 48 b34 T ?_
 refine U.k (Gn target _ g) Q4n (fun x35 g=>?_) (hw:=.take 17 true 48 _ b34 rfl rfl rfl)
 refine U.r rfl (.tk 11 false 42 b32) rfl rfl (by exact Rd.pk rfl rfl b34 rfl) ?_
 refine U.r rfl (.tk 4 true 35 b30) rfl rfl (by exact Rd.pk' rfl rfl b32 rfl) ?_
 refine U.pk b30 ?_
 refine U.pd 2 T ?_
 exact St.wn (j29 _ g)
 refine U.sk' 2 17 true 48 b34 ?_
 refine U.r rfl (.tk 11 false 42 b32) rfl rfl (by exact Rd.pk' rfl rfl b34 rfl) ?_
 refine U.r rfl (.tk 4 true 35 b30) rfl rfl (by exact Rd.pk' rfl rfl b32 rfl) ?_
 refine U.pk b30 ?_
 refine U.pd 2 T ?_
 exact St.wn (j29 _ g)
 refine U.sk' 7 4 true 35 b30 ?_
 refine U.sku 6 11 false 42 rfl rfl rfl ?_
 refine U.sku 2 17 true 48 rfl rfl rfl ?_
 refine U.sku 1 11 false 42 rfl rfl rfl ?_
 refine U.sk' 1 4 true 35 b30 ?_
 refine U.pk' b30 ?_
 refine U.pd 2 T ?_
 exact St.wn (j29 _ g)
 refine C.block (St.wk (C.loop (fun (s9:Int×Int)=>[(0,.sl 1 eI x_1),(1,.i target),(6,.i (x_1.length:Int)),(7,.i s9.1),(8,.i s9.2)]) (fun s9=>[]) g (fun s9 Y10 g=>?_)) (Wk.e))
 refine C.seq (C.ss (U.pd 3 T (C.nx ?_)))
 refine C.ite rfl g (fun b13 g=>?_) fun b13 g=>?_
 refine C.skip (C.nx (C.block (C.ss (U.ps 4 T rfl (U.r rfl (.none rfl) rfl rfl (by exact Rd.sh rfl rfl rfl rfl (by decide)) ?_)))))
 refine U.pd 2 T (C.xt ?_)
 refine U.ps 2 T rfl ?_
 obtain⟨x19,y19,g⟩:=g
 refine U.ix T y19 ?_
 refine U.ps 2 T rfl (U.k (ZZ x19 target _ g) Q50 (fun x20 g=>?_))
 refine U.done (C.nx ?_)
 refine C.jn (fun (x21:Int×Int)=>[(0,.sl 1 eI x_1),(1,.i target),(6,.i (x_1.length:Int)),(7,.i x21.1),(8,.i x21.2)]) (fun x21=>[]) 0 g (fun x21 g=>?_) fun J22 g j22=>?_
 refine C.bnx (C.nx ?_)
 exact St.wk (C.next g) (Wk.e)
 refine C.ite rfl g (fun b23 g=>?_) fun b23 g=>?_
 refine U.start (U.pd 3 T ?_)
 exact St.wn (j22 _ g)
 refine U.start (U.pd 2 T ?_)
 exact St.wn (j22 _ g)
 refine C.exit (C.ex (C.ex (C.bex ?_)))
 exact St.wn (j8 _ g)
theorem Zh (z:ApiZone) (c0:Int) (post:Bool→Prop) (g:KW z c0 post):
  Tr Tryz.prog 108 [.agg (Ki z),.rp [.i c0]] [] 0 (pB post):=by
 refine Tr.go Tryz.func108 Tryz.ntmps108 fun _ _ _ _ o=>?_
 unfold KW at g
 refine C.ss (U.bx ?_)
 refine U.pd 1 T (C.xt ?_)
 refine U.ps 3 T rfl (U.k (XO z.Cells c0 _ g) Q4V (fun x5 g=>?_))
 refine U.pd 5 T (C.xt ?_)
 refine U.pd 2 T (C.nx (C.ret ?_))
 exact C.f1 T o (pBi g)
theorem Kk (s_1:List ApiZone) (f_c0:Int) (post:Int→Prop) (g:Qb s_1 f_c0 post):
  Tr Tryz.prog 107 [.sl 5 Ki s_1,.fn (.func 108) [] [.rp [.i f_c0]]] [] 0 (pI post):=by
 refine Tr.go Tryz.func107 Tryz.ntmps107 fun _ _ _ _ o=>?_
 unfold Qb at g
 refine C.ss (U.pd 1 T (C.xs (C.ss ?_)))
 refine U.pd 3 T (C.nx ?_)
 refine C.jn (fun (x5:Unit)=>[]) (fun x5=>[]) 0 g (fun x5 g=>?_) fun J6 g j6=>?_
 refine C.xt (U.pd 1 T (C.nx (C.ret ?_)))
 exact C.f1 T o (pIi g)
 refine C.block (St.wk (C.loop (fun (s7:Int)=>[(0,.sl 5 Ki s_1),(1,.fn (.func 108) [] [.rp [.i f_c0]]),(7,.i (s_1.length:Int)),(8,.i s7)]) (fun s7=>[]) g (fun s7 Y8 g=>?_)) (Wk.e))
 refine C.ss (U.pd 1 T (C.xs ?_))
 refine C.ite rfl g (fun b11 g=>?_) fun b11 g=>?_
 refine C.skip (C.xs (C.block (C.ss (U.pd 2 T (C.xt ?_)))))
 refine U.ps 3 T rfl ?_
 obtain⟨x16,y16,g⟩:=g
 refine U.ix T y16 ?_
 refine U.ps 1 T rfl (U.k (Zh x16 f_c0 _ g) Q53 (fun x17 g=>?_))
 refine U.done (C.nx ?_)
 refine C.ite rfl g (fun b18 g=>?_) fun b18 g=>?_
 refine C.ss (U.pd 2 T (C.nx (C.ret (C.brt (C.rt (C.rt (C.brt (C.rt ?_))))))))
 exact C.f1 T o (pIi g)
 refine C.skip (C.bnx (C.nx (U.start (U.pd 2 T (C.nx ?_)))))
 exact St.wk (C.next g) (Wk.e)
 refine C.exit (C.ex (C.ex (C.bex ?_)))
 exact St.wk (j6 _ g) (Wk.mk' [] rfl rfl trivial trivial rfl)
theorem ZL (s_1:ApiSite) (c:Int) (post:Int→Prop) (g:Xk s_1 c post):
  Tr Tryz.prog 90 [.agg (Q0 s_1),.i c] [] 0 (pI post):=by
 refine Tr.go Tryz.func90 Tryz.ntmps90 fun _ _ _ _ o=>?_
 unfold Xk at g
 refine C.ss (U.bx ?_)
 refine U.bx ?_
 refine U.pd 1 T (C.xt ?_)
 refine U.ps 3 T rfl (U.k (Kk s_1.Zones c _ g) Q55 (fun x5 g=>?_))
 refine U.pd 1 T (C.nx (C.ret ?_))
 exact C.f1 T o (pIi g)
theorem Yl (s_1:ApiSite) (c:Int) (post:Int→Prop) (g:Xg s_1 c post):
  Tr Tryz.prog 64 [.agg (Q0 s_1),.i c] [] 0 (pI post):=by
 refine Tr.go Tryz.func64 Tryz.ntmps64 fun _ _ _ _ o=>?_
 unfold Xg at g
 refine C.ss (U.bx ?_)
 refine U.pd 1 T (C.xs (C.ss ?_))
 refine U.ps 2 T rfl (U.k (ZL s_1 c _ g) en90 (fun x5 g=>?_))
 refine U.pd 1 T (C.xt ?_)
 refine U.pd 2 T (C.nx ?_)
 refine C.ite rfl g (fun b8 g=>?_) fun b8 g=>?_
 refine C.ss (U.ps 3 T rfl ?_)
 obtain⟨x11,y11,g⟩:=g
 refine U.ix T y11 ?_
 refine U.pd 3 T (C.nx (C.ret (C.rt ?_)))
 exact C.f1 T o (pIi g)
 refine C.skip (C.xt (U.pd 1 T (C.nx (C.ret ?_))))
 exact C.f1 T o (pIi g)
theorem ZP (act:Int) (laden:Bool) (post:Int→Prop) (g:Xi act laden post):
  Tr Tryz.prog 95 [.i act,.b laden] [] 0 (pI post):=by
 refine Tr.go Tryz.func95 Tryz.ntmps95 fun _ _ _ _ o=>?_
 unfold Xi at g
 refine C.ss (U.pd 1 T (C.xs (C.ss ?_)))
 refine U.pd 1 T (C.nx (C.block (C.seq (C.ss ?_))))
 refine U.pd 2 T (C.nx ?_)
 refine C.jn (fun (x7:Bool)=>[(0,.i act),(1,.b laden),(6,.i act),(7,.b x7)]) (fun x7=>[]) 0 g (fun x7 g=>?_) fun J8 g j8=>?_
 refine C.nx ?_
 refine C.ite rfl g (fun b12 g=>?_) fun b12 g=>?_
 refine C.ss (U.pd 1 T (C.nx (C.ret (C.brt (C.rt ?_)))))
 exact C.f1 T o (pIi g)
 refine C.ss (U.pd 2 T (C.nx ?_))
 refine C.ite rfl g (fun b17 g=>?_) fun b17 g=>?_
 refine C.ss (U.pd 1 T (C.nx (C.ret (C.brt (C.rt ?_)))))
 exact C.f1 T o (pIi g)
 refine C.skip (C.bnx (C.xt (U.pd 1 T (C.xs (C.ss ?_)))))
 refine U.pd 2 T (C.nx (C.block (C.seq (C.ss ?_))))
 refine U.pd 2 T (C.nx ?_)
 refine C.jn (fun (x26:Bool)=>[(1,.b laden),(5,.i 0),(13,.i (w64 (act-1))),(14,.b x26)]) (fun x26=>[]) 0 g (fun x26 g=>?_) fun J27 g j27=>?_
 refine C.nx ?_
 refine C.jn (fun (x41:Int)=>[(1,.b laden),(5,.i x41)]) (fun x41=>[]) 0 g (fun x41 g=>?_) fun J42 g j42=>?_
 refine C.bnx (C.xs (C.seq ?_))
 refine C.jn (fun (x60:Bool)=>[(5,.i x41),(27,.b x60)]) (fun x60=>[]) 0 g (fun x60 g=>?_) fun J61 g j61=>?_
 refine C.nx ?_
 refine C.jn (fun (x63:Int)=>[(5,.i x63)]) (fun x63=>[]) 0 g (fun x63 g=>?_) fun J64 g j64=>?_
 refine C.xt (U.pd 2 T (C.nx (C.ret ?_)))
 exact C.f1 T o (pIi g)
 refine C.ite rfl g (fun b65 g=>?_) fun b65 g=>?_
 refine U.start (U.pd 3 T ?_)
 exact St.wn (j64 _ g)
 refine C.skip ?_
 exact St.wn (j64 _ g)
 refine U.start (U.ps 3 T rfl ?_)
 refine g.cs (fun b62 g=>?_) fun b62 g=>?_
 refine U.pq 1 2 true 25 b62 T ?_
 refine U.pk b62 ?_
 refine U.done ?_
 exact St.wn (j61 _ g)
 refine U.sk' 1 2 true 25 b62 ?_
 refine U.pk' b62 ?_
 refine U.done ?_
 exact St.wn (j61 _ g)
 refine C.ite rfl g (fun b43 g=>?_) fun b43 g=>?_
 refine U.start (U.pd 1 T ?_)
 exact St.wn (j42 _ g)
 refine C.ss (U.pd 2 T (C.nx ?_))
 refine C.jn (fun (x48:Int)=>[(1,.b laden),(5,.i x48)]) (fun x48=>[]) 0 g (fun x48 g=>?_) fun J49 g j49=>?_
 exact St.wn (j42 _ g)
 refine C.ite rfl g (fun b50 g=>?_) fun b50 g=>?_
 refine U.start (U.pd 1 T ?_)
 exact St.wn (j49 _ g)
 refine C.ss (U.pd 2 T (C.nx ?_))
 refine C.jn (fun (x55:Int)=>[(1,.b laden),(5,.i x55)]) (fun x55=>[]) 0 g (fun x55 g=>?_) fun J56 g j56=>?_
 exact St.wn (j49 _ g)
 refine C.ite rfl g (fun b57 g=>?_) fun b57 g=>?_
 refine U.start (U.pd 1 T ?_)
 exact St.wn (j56 _ g)
 refine C.skip ?_
 exact St.wn (j56 _ g)
 refine C.ite rfl g (fun b28 g=>?_) fun b28 g=>?_
 refine C.skip ?_
 exact St.wn (j27 _ g)
 refine C.ss (U.pd 2 T (C.nx ?_))
 refine C.jn (fun (x31:Bool)=>[(1,.b laden),(5,.i 0),(13,.i (w64 (act-1))),(14,.b x31)]) (fun x31=>[]) 0 g (fun x31 g=>?_) fun J32 g j32=>?_
 exact St.wn (j27 _ g)
 refine C.ite rfl g (fun b33 g=>?_) fun b33 g=>?_
 refine C.skip ?_
 exact St.wn (j32 _ g)
 refine C.ss (U.pd 2 T (C.nx ?_))
 refine C.jn (fun (x36:Bool)=>[(1,.b laden),(5,.i 0),(13,.i (w64 (act-1))),(14,.b x36)]) (fun x36=>[]) 0 g (fun x36 g=>?_) fun J37 g j37=>?_
 exact St.wn (j32 _ g)
 refine C.ite rfl g (fun b38 g=>?_) fun b38 g=>?_
 refine C.skip ?_
 exact St.wn (j37 _ g)
 refine U.start (U.pd 2 T ?_)
 exact St.wn (j37 _ g)
 refine C.ite rfl g (fun b9 g=>?_) fun b9 g=>?_
 refine C.skip ?_
 exact St.wn (j8 _ g)
 refine U.start (U.pd 2 T ?_)
 exact St.wn (j8 _ g)
theorem WP (tick:Int) (act:Int) (laden:Bool) (post:Int→Prop) (g:KX tick act laden post):
  Tr Tryz.prog 68 [.i tick,.i act,.b laden] [] 0 (pI post):=by
 refine Tr.go Tryz.func68 Tryz.ntmps68 fun _ _ _ _ o=>?_
 unfold KX at g
 refine C.ss (U.pd 1 T (C.xt ?_))
 refine U.ps 3 T rfl (U.r rfl (.none rfl) rfl rfl (by exact Rd.dv rfl rfl rfl rfl (by decide)) ?_)
 refine U.pd 1 T (C.xt ?_)
 refine U.ps 2 T rfl (U.k (ZP act laden _ g) en95 (fun x8 g=>?_))
 refine U.ps 4 T rfl (U.r rfl (.none rfl) rfl rfl (by exact Rd.dv rfl rfl rfl rfl (by decide)) ?_)
 refine U.pd 1 T (C.nx (C.ret ?_))
 exact C.f1 T o (pIi g)
theorem Ws (post:Int→Prop) (g:X4 post):
  Tr Tryz.prog 35 [] [] 0 (pI post):=by
 refine Tr.go Tryz.func35 Tryz.ntmps35 fun _ _ _ _ o=>?_
 unfold X4 at g
 refine C.ss (U.pd 1 T (C.xt ?_))
 refine U.k (WP 20000 0 true _ g) en68 fun x5 g=>?_
 refine U.pd 1 T (C.nx (C.ret ?_))
 exact C.f1 T o (pIi g)
theorem Q1w (s_1:ApiSite) (c:Int) (post:Int→Prop) (g:XY s_1 c post):
  Tr Tryz.prog 25 [.agg (Q0 s_1),.i c] [] 0 (pI post):=by
 refine Tr.go Tryz.func25 Tryz.ntmps25 fun _ _ _ _ o=>?_
 unfold XY at g
 refine C.ss (U.bx ?_)
 refine U.pd 1 T (C.xs (C.ss ?_))
 refine U.ps 4 T rfl ?_
 obtain⟨x5,y5,g⟩:=g
 refine U.ix T y5 ?_
 refine U.pd 2 T (C.nx ?_)
 refine C.ite rfl g (fun b6 g=>?_) fun b6 g=>?_
 refine C.ss (U.pd 1 T (C.nx (C.ret (C.rt ?_))))
 exact C.f1 T o (pIi g)
 refine C.skip (C.xt (U.ps 2 T rfl (U.k (Yl s_1 c _ g) en64 (fun x11 g=>?_))))
 refine U.ps 1 T rfl (U.k (Ws _ g) en35 (fun x12 g=>?_))
 refine U.pd 2 T (C.nx (C.ret ?_))
 exact C.f1 T o (pIi g)
theorem Q1f (f:ApiFloor) (post:Int→Prop) (g:XN f post):
  Tr Tryz.prog 110 [.agg (Qi f)] [] 0 (pI post):=by
 refine Tr.go Tryz.func110 Tryz.ntmps110 fun _ _ _ _ o=>?_
 unfold XN at g
 refine C.ss (U.bx ?_)
 refine U.pd 1 T (C.xt ?_)
 refine U.pd 9 T (C.nx (C.ret ?_))
 exact C.f1 T o (pIi g)
theorem Q0o (f:ApiFloor) (c:Int) (post:Bool→Prop) (g:XX f c post):
  Tr Tryz.prog 91 [.agg (Qi f),.i c] [] 0 (pB post):=by
 refine Tr.go Tryz.func91 Tryz.ntmps91 fun _ _ _ _ o=>?_
 unfold XX at g
 refine C.ss (U.bx ?_)
 refine U.pd 1 T (C.xs ?_)
 refine C.jn (fun (x3:Bool)=>[(4,.b x3)]) (fun x3=>[]) 0 g (fun x3 g=>?_) fun J4 g j4=>?_
 refine C.nx (C.ret ?_)
 exact C.f1 T o (pBi g)
 refine U.start (U.ps 3 T rfl ?_)
 refine g.cs (fun b5 g=>?_) fun b5 g=>?_
 refine U.pq 2 2 true 7 b5 T ?_
 refine U.k (Q1f f _ g) Q4X (fun x6 g=>?_) (hw:=.take 2 true 7 _ b5 rfl rfl rfl)
 refine U.pq 1 2 true 7 b5 T ?_
 refine U.pk b5 ?_
 refine U.pd 1 T ?_
 exact St.wn (j4 _ g)
 refine U.sk' 4 2 true 7 b5 ?_
 refine U.pk' b5 ?_
 refine U.pd 1 T ?_
 exact St.wn (j4 _ g)
theorem Q2o (f:ApiFloor) (c:Int) (post:(Int×Int×Int)→Prop) (g:Gy f c post):
  Tr Tryz.prog 92 [.agg (Qi f),.i c] [] 0 (fun A H' k=>∃y,post y∧A=(.tup [.i y.1,.i y.2.1,.i y.2.2])∧H'=[]∧k=0):=by
 refine Tr.go Tryz.func92 Tryz.ntmps92 fun _ _ _ _ o=>?_
 unfold Gy at g
 refine C.ss (U.bx ?_)
 refine U.pd 3 T (C.xs (C.ss ?_))
 refine U.ps 2 T rfl (U.k (Q0o f c _ g) en91 (fun x5 g=>?_))
 refine U.pd 1 T (C.nx ?_)
 refine C.ite rfl g (fun b6 g=>?_) fun b6 g=>?_
 refine C.ss (U.pd 3 T (C.nx (C.ret (C.rt ?_))))
 exact C.f9 T o ⟨(0,0,0),g,rfl,rfl,rfl⟩
 refine C.skip (C.xs (D.bq mix 9999 [0] [] (fun hQ hS ws M'=>?_)))
 refine D.pq 3 (zl [0,1,2]) T ?_
 obtain⟨y11,g⟩:=g
 refine D.q 3 [] hQ hS rfl (.none rfl) rfl rfl (by exact Rd.rm rfl rfl rfl rfl y11) rfl (by kernel_rfl) ?_
 refine D.pq 3 (zl [4,5,6]) T ?_
 obtain⟨y12,g⟩:=g
 refine D.q 7 [] hQ hS rfl (.none rfl) rfl rfl (by exact Rd.dv rfl rfl rfl rfl y12) rfl (by kernel_rfl) ?_
 refine D.pq 2 (zl [8,9]) T ?_
 obtain⟨y13,g⟩:=g
 refine D.q 10 [] hQ hS rfl (.none rfl) rfl rfl (by exact Rd.rm rfl rfl rfl rfl y13) rfl (by kernel_rfl) ?_
 refine D.pq 6 (zl [11,12,13,14,15,16]) T ?_
 obtain⟨y14,g⟩:=g
 refine D.q 17 [] hQ hS rfl (.none rfl) rfl rfl (by exact Rd.dv rfl rfl rfl rfl y14) rfl (by kernel_rfl) ?_
 refine D.pq 3 (zl [18,19,20]) T ?_
 refine D.done (by kernel_rfl) ?_
 refine C.nx (C.ret ?_)
 exact C.f9 T o ⟨(c.tmod f.W,(w64 (c.tdiv f.W)).tmod f.H,w64 (c.tdiv (w64 (f.W*f.H)))),g,rfl,rfl,rfl⟩
theorem Q0M (post:XU→Prop) (g:XT post):
  Tr Tryz.prog 93 [] [] 0 (fun A H' k=>∃y,post y∧A=(.agg [.i y.e0.x,.i y.e0.y,.i y.e0.z,.i y.e1.x,.i y.e1.y,.i y.e1.z,.i y.e2.x,.i y.e2.y,.i y.e2.z,.i y.e3.x,.i y.e3.y,.i y.e3.z,.i y.e4.x,.i y.e4.y,.i y.e4.z,.i y.e5.x,.i y.e5.y,.i y.e5.z])∧H'=[]∧k=0):=by
 refine Tr.go Tryz.func93 Tryz.ntmps93 fun _ _ _ _ o=>?_
 unfold XT at g
 refine C.ss (U.al T ?_)
 refine U.done (C.xt (U.ps 7 T rfl (U.st T ?_)))
 refine U.done (C.nx (C.ret ?_))
 exact C.f1 T o ⟨({e0:=({x:=1,y:=0,z:=0:QL}),e1:=({x:=0,y:=1,z:=0:QL}),e2:=({x:=(-1),y:=0,z:=0:QL}),e3:=({x:=0,y:=(-1),z:=0:QL}),e4:=({x:=0,y:=0,z:=1:QL}),e5:=({x:=0,y:=0,z:=(-1):QL}):XU}),g,rfl,rfl,rfl⟩
theorem Q1i (f:ApiFloor) (x_1:Int) (y_1:Int) (z:Int) (post:Int→Prop) (g:XL f x_1 y_1 z post):
  Tr Tryz.prog 94 [.agg (Qi f),.i x_1,.i y_1,.i z] [] 0 (pI post):=by
 refine Tr.go Tryz.func94 Tryz.ntmps94 fun _ _ _ _ o=>?_
 unfold XL at g
 refine C.ss (U.bx ?_)
 refine U.pd 1 T (C.xs (C.seq ?_))
 refine C.jn (fun (x3:Bool)=>[(1,.i x_1),(2,.i y_1),(3,.i z),(4,.p 0 0),(31,.b x3)]) (fun x3=>[(0,.box (Qi f))]) 1 g (fun x3 g=>?_) fun J4 g j4=>?_
 refine C.nx ?_
 refine C.ite rfl g (fun b8 g=>?_) fun b8 g=>?_
 refine C.ss (U.pd 1 T (C.nx (C.ret (C.rt ?_))))
 exact C.f1 T o (pIi g)
 refine C.skip (C.xt (U.pd 12 T (C.nx (C.ret ?_))))
 exact C.f1 T o (pIi g)
 refine U.start (U.ps 6 T rfl ?_)
 refine g.cs (fun b5 g=>?_) fun b5 g=>?_
 refine U.sk' 4 5 false 14 b5 ?_
 refine U.pk b5 ?_
 refine U.ps 1 T rfl (U.sk' 4 11 false 20 rfl ?_)
 refine U.pk rfl ?_
 refine U.ps 1 T rfl (U.sk' 4 17 false 26 rfl ?_)
 refine U.pk rfl ?_
 refine U.done ?_
 exact St.wa [some 0] (j4 _ g)
 refine U.pq 4 5 false 14 b5 T ?_
 refine U.pk' b5 ?_
 refine U.ps 1 T rfl ?_
 refine g.cs (fun b6 g=>?_) fun b6 g=>?_
 refine U.sk' 4 11 false 20 b6 ?_
 refine U.pk b6 ?_
 refine U.ps 1 T rfl (U.sk' 4 17 false 26 rfl ?_)
 refine U.pk rfl ?_
 refine U.done ?_
 exact St.wa [some 0] (j4 _ g)
 refine U.pq 4 11 false 20 b6 T ?_
 refine U.pk' b6 ?_
 refine U.ps 1 T rfl ?_
 refine g.cs (fun b7 g=>?_) fun b7 g=>?_
 refine U.sk' 4 17 false 26 b7 ?_
 refine U.pk b7 ?_
 refine U.done ?_
 exact St.wa [some 0] (j4 _ g)
 refine U.pq 4 17 false 26 b7 T ?_
 refine U.pk' b7 ?_
 refine U.done ?_
 exact St.wa [some 0] (j4 _ g)
theorem Q03 (f:ApiFloor) (c:Int) (d:Int) (post:Int→Prop) (g:Xj f c d post):
  Tr Tryz.prog 65 [.agg (Qi f),.i c,.i d] [] 0 (pI post):=by
 refine Tr.go Tryz.func65 Tryz.ntmps65 fun _ _ _ _ o=>?_
 unfold Xj at g
 refine C.ss (U.bx ?_)
 refine U.pd 1 T (C.xs (C.seq ?_))
 refine C.jn (fun (x3:Bool)=>[(1,.i c),(2,.i d),(3,.p 0 0),(22,.b x3)]) (fun x3=>[(0,.box (Qi f))]) 1 g (fun x3 g=>?_) fun J4 g j4=>?_
 refine C.nx ?_
 refine C.ite rfl g (fun b8 g=>?_) fun b8 g=>?_
 refine C.ss (U.pd 1 T (C.nx (C.ret (C.rt ?_))))
 exact C.f1 T o (pIi g)
 refine C.skip (C.xt (U.ps 2 T rfl (U.k (Q2o f c _ g) en92 (fun x13 g=>?_))))
 refine U.pd 7 T (C.xt ?_)
 refine U.k (Q0M _ g) en93 fun x16 g=>?_
 refine U.ps 1 T rfl ?_
 obtain⟨x17,y17,g⟩:=g
 refine U.r rfl (.none rfl) rfl rfl (by exact Rd.ia T (enc:=Q2n) rfl rfl rfl rfl rfl rfl rfl rfl rfl (fun _ _=>rfl) y17) ?_
 refine U.al T ?_
 refine U.st T ?_
 refine U.done (C.xt (U.ps 13 T rfl (U.k (Q1i f (w64 (x13.1+x17.x)) (w64 (x13.2.1+x17.y)) (w64 (x13.2.2+x17.z)) _ g) en94 (fun x20 g=>?_))))
 refine U.pd 1 T (C.nx (C.ret ?_))
 exact C.f1 T o (pIi g)
 refine U.start (U.ps 2 T rfl (U.k (Q0o f c _ g) en91 (fun x5 g=>?_)))
 refine U.ps 2 T rfl ?_
 refine g.cs (fun b6 g=>?_) fun b6 g=>?_
 refine U.pq 2 4 false 15 (ntF b6) T ?_
 refine U.pk' (ntF b6) ?_
 refine U.ps 1 T rfl ?_
 refine g.cs (fun b7 g=>?_) fun b7 g=>?_
 refine U.sk' 2 8 false 19 b7 ?_
 refine U.pk b7 ?_
 refine U.done ?_
 exact St.wa [some 0] (j4 _ g)
 refine U.pq 2 8 false 19 b7 T ?_
 refine U.pk' b7 ?_
 refine U.done ?_
 exact St.wa [some 0] (j4 _ g)
 refine U.sk' 2 4 false 15 (ntT b6) ?_
 refine U.pk (ntT b6) ?_
 refine U.ps 1 T rfl (U.sk' 2 8 false 19 rfl ?_)
 refine U.pk rfl ?_
 refine U.done ?_
 exact St.wa [some 0] (j4 _ g)
theorem Q1s (f:ApiFloor) (c:Int) (d:Int) (post:(Int×Bool)→Prop) (g:XK f c d post):
  Tr Tryz.prog 26 [.agg (Qi f),.i c,.i d] [] 0 (fun A H' k=>∃y,post y∧A=(.tup [.i y.1,.b y.2])∧H'=[]∧k=0):=by
 refine Tr.go Tryz.func26 Tryz.ntmps26 fun _ _ _ _ o=>?_
 unfold XK at g
 refine C.ss (U.bx ?_)
 refine U.pd 2 T (C.xt ?_)
 refine U.ps 3 T rfl (U.k (Q03 f c d _ g) en65 (fun x5 g=>?_))
 refine U.pd 1 T (C.xs (C.seq ?_))
 refine C.jn (fun (x6:Bool)=>[(1,.i c),(2,.i d),(3,.p 0 0),(8,.i x5),(41,.b x6)]) (fun x6=>[(0,.box (Qi f))]) 1 g (fun x6 g=>?_) fun J7 g j7=>?_
 refine C.nx ?_
 refine C.ite rfl g (fun b15 g=>?_) fun b15 g=>?_
 refine C.ss (U.pd 2 T (C.nx (C.ret (C.rt ?_))))
 exact C.f9 T o ⟨(0,false),g,rfl,rfl,rfl⟩
 refine C.skip (C.xs (C.seq ?_))
 refine C.jn (fun (x18:Bool)=>[(8,.i x5),(63,.b x18)]) (fun x18=>[]) 0 g (fun x18 g=>?_) fun J19 g j19=>?_
 refine C.nx ?_
 refine C.ite rfl g (fun b28 g=>?_) fun b28 g=>?_
 refine C.ss (U.pd 2 T (C.nx (C.ret (C.rt ?_))))
 exact C.f9 T o ⟨(0,false),g,rfl,rfl,rfl⟩
 refine C.skip (C.xt (U.pd 3 T (C.nx (C.ret ?_))))
 exact C.f9 T o ⟨(x5,true),g,rfl,rfl,rfl⟩
 refine U.start (U.ps 3 T rfl ?_)
 refine g.cs (fun b20 g=>?_) fun b20 g=>?_
 refine U.sk' 2 2 false 44 b20 ?_
 refine U.pk b20 ?_
 refine U.ps 1 T rfl (U.pq 3 6 true 48 rfl T ?_)
 obtain⟨x21,y21,g⟩:=g
 refine U.r rfl (.tk 6 true 48 rfl) rfl rfl (by exact Rd.ix T rfl rfl rfl rfl rfl rfl y21) ?_
 refine U.pq 3 6 true 48 rfl T ?_
 refine g.cs (fun b22 g=>?_) fun b22 g=>?_
 refine U.sk' 6 13 false 55 b22 ?_
 refine U.r rfl (.tk 6 true 48 rfl) rfl rfl (by exact Rd.pk rfl rfl b22 rfl) ?_
 refine U.pk rfl ?_
 refine U.done ?_
 exact St.wn (j19 _ g)
 refine U.pq 3 13 false 55 b22 T ?_
 obtain⟨x23,y23,g⟩:=g
 refine U.r rfl (.tk 13 false 55 b22) rfl rfl (by exact Rd.ix T rfl rfl rfl rfl rfl rfl y23) ?_
 refine U.pq 2 13 false 55 b22 T ?_
 refine U.r rfl (.tk 6 true 48 rfl) rfl rfl (by exact Rd.pk' rfl rfl b22 rfl) ?_
 refine U.pk rfl ?_
 refine U.done ?_
 exact St.wn (j19 _ g)
 refine U.pq 2 2 false 44 b20 T ?_
 refine U.pk' b20 ?_
 refine U.ps 1 T rfl ?_
 refine g.cs (fun b24 g=>?_) fun b24 g=>?_
 refine U.pq 3 6 true 48 b24 T ?_
 obtain⟨x25,y25,g⟩:=g
 refine U.r rfl (.tk 6 true 48 b24) rfl rfl (by exact Rd.ix T rfl rfl rfl rfl rfl rfl y25) ?_
 refine U.pq 3 6 true 48 b24 T ?_
 refine g.cs (fun b26 g=>?_) fun b26 g=>?_
 refine U.sk' 6 13 false 55 b26 ?_
 refine U.r rfl (.tk 6 true 48 b24) rfl rfl (by exact Rd.pk rfl rfl b26 rfl) ?_
 refine U.pk b24 ?_
 refine U.done ?_
 exact St.wn (j19 _ g)
 refine U.pq 3 13 false 55 b26 T ?_
 obtain⟨x27,y27,g⟩:=g
 refine U.r rfl (.tk 13 false 55 b26) rfl rfl (by exact Rd.ix T rfl rfl rfl rfl rfl rfl y27) ?_
 refine U.pq 2 13 false 55 b26 T ?_
 refine U.r rfl (.tk 6 true 48 b24) rfl rfl (by exact Rd.pk' rfl rfl b26 rfl) ?_
 refine U.pk b24 ?_
 refine U.done ?_
 exact St.wn (j19 _ g)
 refine U.sk' 7 6 true 48 b24 ?_
 refine U.sku 6 13 false 55 rfl rfl rfl ?_
 refine U.sk' 1 6 true 48 b24 ?_
 refine U.pk' b24 ?_
 refine U.done ?_
 exact St.wn (j19 _ g)
 refine U.start (U.ps 3 T rfl ?_)
 refine g.cs (fun b8 g=>?_) fun b8 g=>?_
 refine U.sk' 6 2 false 15 b8 ?_
 refine U.pk b8 ?_
 refine U.ps 1 T rfl (U.sk' 6 10 false 23 rfl ?_)
 refine U.pk rfl ?_
 refine U.ps 1 T rfl (U.sk' 9 18 false 31 rfl ?_)
 refine U.pk rfl ?_
 refine U.done ?_
 exact St.wa [some 0] (j7 _ g)
 refine U.pq 3 2 false 15 b8 T ?_
 obtain⟨x9,y9,g⟩:=g
 refine U.r rfl (.tk 2 false 15 b8) rfl rfl (by exact Rd.ix T rfl rfl rfl rfl rfl rfl y9) ?_
 refine U.pq 2 2 false 15 b8 T ?_
 refine U.pk' b8 ?_
 refine U.ps 1 T rfl ?_
 refine g.cs (fun b10 g=>?_) fun b10 g=>?_
 refine U.sk' 6 10 false 23 b10 ?_
 refine U.pk b10 ?_
 refine U.ps 1 T rfl (U.sk' 9 18 false 31 rfl ?_)
 refine U.pk rfl ?_
 refine U.done ?_
 exact St.wa [some 0] (j7 _ g)
 refine U.pq 3 10 false 23 b10 T ?_
 obtain⟨x11,y11,g⟩:=g
 refine U.r rfl (.tk 10 false 23 b10) rfl rfl (by exact Rd.ix T rfl rfl rfl rfl rfl rfl y11) ?_
 refine U.pq 2 10 false 23 b10 T ?_
 refine U.pk' b10 ?_
 refine U.ps 1 T rfl ?_
 refine g.cs (fun b12 g=>?_) fun b12 g=>?_
 refine U.sk' 9 18 false 31 b12 ?_
 refine U.pk b12 ?_
 refine U.done ?_
 exact St.wa [some 0] (j7 _ g)
 refine U.pq 3 18 false 31 b12 T ?_
 obtain⟨x13,y13,g⟩:=g
 refine U.r rfl (.tk 18 false 31 b12) rfl rfl (by exact Rd.ix T rfl rfl rfl rfl rfl rfl y13) ?_
 refine U.pq 2 18 false 31 b12 T ?_
 obtain⟨y14,g⟩:=g
 refine U.r rfl (.tk 18 false 31 b12) rfl rfl (by exact Rd.sh rfl rfl rfl rfl y14) ?_
 refine U.pq 2 18 false 31 b12 T ?_
 refine U.pk' b12 ?_
 refine U.done ?_
 exact St.wa [some 0] (j7 _ g)
theorem Q06 (s_1:ApiSite) (c:Int) (post:Bool→Prop) (g:XI s_1 c post):
  Tr Tryz.prog 67 [.agg (Q0 s_1),.i c] [] 0 (pB post):=by
 refine Tr.go Tryz.func67 Tryz.ntmps67 fun _ _ _ _ o=>?_
 unfold XI at g
 refine C.ss (U.bx ?_)
 refine U.pd 1 T (C.xs ?_)
 refine C.jn (fun (x3:Bool)=>[(4,.b x3)]) (fun x3=>[]) 0 g (fun x3 g=>?_) fun J4 g j4=>?_
 refine C.nx (C.ret ?_)
 exact C.f1 T o (pBi g)
 refine U.start (U.ps 3 T rfl ?_)
 refine g.cs (fun b5 g=>?_) fun b5 g=>?_
 refine U.pq 6 2 true 7 b5 T ?_
 refine U.pk b5 ?_
 refine U.pd 1 T ?_
 exact St.wn (j4 _ g)
 refine U.sk' 6 2 true 7 b5 ?_
 refine U.pk' b5 ?_
 refine U.pd 1 T ?_
 exact St.wn (j4 _ g)
theorem YH (s_1:ApiSite) (c:Int) (post:Bool→Prop) (g:Xd s_1 c post):
  Tr Tryz.prog 69 [.agg (Q0 s_1),.i c] [] 0 (pB post):=by
 refine Tr.go Tryz.func69 Tryz.ntmps69 fun _ _ _ _ o=>?_
 unfold Xd at g
 refine C.ss (U.bx ?_)
 refine U.pd 1 T (C.xt ?_)
 refine U.ps 4 T rfl ?_
 obtain⟨x5,y5,g⟩:=g
 refine U.ix T y5 ?_
 refine U.pd 3 T (C.nx (C.ret ?_))
 exact C.f1 T o (pBi g)
theorem Q0J (s_1:ApiSite) (d:Int) (x_1:Int) (post:Int→Prop) (g:XC s_1 d x_1 post):
  Tr Tryz.prog 28 [.agg (Q0 s_1),.i d,.i x_1] [] 0 (pI post):=by
 refine Tr.go Tryz.func28 Tryz.ntmps28 fun _ _ _ _ o=>?_
 unfold XC at g
 refine C.ss (U.bx ?_)
 refine U.pd 1 T (C.xs (C.seq ?_))
 refine C.jn (fun (x3:Bool)=>[(1,.i d),(2,.i x_1),(3,.p 0 0),(19,.b x3)]) (fun x3=>[(0,.box (Q0 s_1))]) 1 g (fun x3 g=>?_) fun J4 g j4=>?_
 refine C.nx ?_
 refine C.ite rfl g (fun b8 g=>?_) fun b8 g=>?_
 refine C.ss (U.pd 1 T (C.nx (C.ret (C.rt ?_))))
 exact C.f1 T o (pIi g)
 refine C.skip (C.xt (U.ps 2 T rfl (U.k (WP 20000 (w64 (1+d)) true _ g) en68 (fun x13 g=>?_))))
 refine U.pd 1 T (C.xs (C.ss ?_))
 refine U.ps 2 T rfl (U.k (YH s_1 x_1 _ g) en69 (fun x16 g=>?_))
 refine U.pd 1 T (C.nx ?_)
 refine C.jn (fun (x17:Int)=>[(7,.i x17)]) (fun x17=>[]) 0 g (fun x17 g=>?_) fun J18 g j18=>?_
 refine C.xt (U.pd 2 T (C.nx (C.ret ?_)))
 exact C.f1 T o (pIi g)
 refine C.ite rfl g (fun b19 g=>?_) fun b19 g=>?_
 refine U.start (U.ps 3 T rfl (U.k (Yl s_1 x_1 _ g) en64 (fun x22 g=>?_)))
 refine U.ps 1 T rfl (U.k (Ws _ g) en35 (fun x23 g=>?_))
 refine U.pd 3 T ?_
 exact St.wn (j18 _ g)
 refine C.skip ?_
 exact St.wn (j18 _ g)
 refine U.start (U.ps 3 T rfl ?_)
 refine g.cs (fun b5 g=>?_) fun b5 g=>?_
 refine U.sk' 2 2 false 10 b5 ?_
 refine U.pk b5 ?_
 refine U.ps 1 T rfl (U.sk' 4 6 false 14 rfl ?_)
 refine U.pk rfl ?_
 refine U.done ?_
 exact St.wa [some 0] (j4 _ g)
 refine U.pq 2 2 false 10 b5 T ?_
 refine U.pk' b5 ?_
 refine U.ps 1 T rfl ?_
 refine g.cs (fun b6 g=>?_) fun b6 g=>?_
 refine U.sk' 4 6 false 14 b6 ?_
 refine U.pk b6 ?_
 refine U.done ?_
 exact St.wa [some 0] (j4 _ g)
 refine U.pq 2 6 false 14 b6 T ?_
 refine U.k (Q06 s_1 x_1 _ g) en67 (fun x7 g=>?_) (hw:=.take 6 false 14 _ b6 rfl rfl rfl)
 refine U.pq 1 6 false 14 b6 T ?_
 refine U.pk' b6 ?_
 refine U.done ?_
 exact St.wa [some 0] (j4 _ g)
theorem Wq (s_1:ApiSite) (blocked:List Int) (a:Int) (post:(List Int)→Prop) (g:KP s_1 blocked a post):
  Tr Tryz.prog 10 [.agg (Q0 s_1),.sl 1 eI blocked,.i a] [] 0 (fun A H' k=>∃y,post y∧A=(.o 0)∧H'=[(0,.val (.os 1 eI y))]∧k=1):=by
 refine Tr.go Tryz.func10 Tryz.ntmps10 fun _ _ _ _ o=>?_
 unfold KP at g
 refine C.ss (U.bx ?_)
 refine U.pd 1 T (C.xt ?_)
 refine U.bs T eI ([(-1)]:List Int) ?_
 refine U.ps 4 T rfl (U.k (GW ([(-1)]:List Int) (s_1.Floor.Kind.length:Int) _ g) en24 (fun x5 g=>?_))
 refine U.pd 1 T (C.xs (C.seq ?_))
 refine C.jn (fun (x6:Bool)=>[(1,.sl 1 eI blocked),(2,.i a),(3,.p 0 0),(7,.o 1),(37,.b x6)]) (fun x6=>[(0,.box (Q0 s_1)),(1,.val (.os 1 eI x5))]) 2 g (fun x6 g=>?_) fun J7 g j7=>?_
 refine C.nx ?_
 refine C.ite rfl g (fun b11 g=>?_) fun b11 g=>?_
 refine C.ss (U.pd 2 T (C.nx (C.ret (C.rt ?_))))
 exact C.g1 [some 1] T o ⟨x5,g,rfl,rfl,rfl⟩
 refine C.skip (C.xt (U.ps 2 T rfl ?_))
 obtain⟨x16,y16,g⟩:=g
 refine U.r rfl (.none rfl) rfl rfl (by exact Rd.io T rfl rfl rfl rfl rfl rfl rfl y16) ?_
 refine U.e1 rfl (.none rfl) (by exact Eff1.se T (z':=0) rfl rfl rfl (Q9 y16).2.2 rfl rfl rfl rfl rfl rfl rfl rfl (fun _=>rfl) rfl) ?_
 refine U.done (C.xt (U.ps 1 T rfl (U.bs T eI ([a]:List Int) ?_)))
 refine U.pd 1 T (C.xs ?_)
 refine C.jn (fun (x19:List Int)=>[(7,.o 0)]) (fun x19=>[(0,.val (.os 1 eI x19))]) 1 g (fun x19 g=>?_) fun J20 g j20=>?_
 refine C.xt (U.pd 2 T (C.nx (C.ret ?_)))
 exact C.g1 [some 0] T o ⟨x19,g,rfl,rfl,rfl⟩
 refine C.block (St.wk (C.loop (fun (s21:List Int×List Int)=>[(1,.sl 1 eI blocked),(2,.i a),(3,.p 0 0),(7,.o 1),(8,.o 2)]) (fun s21=>[(0,.box (Q0 s_1)),(1,.val (.os 1 eI s21.1)),(2,.val (.os 1 eI s21.2))]) g (fun s21 Y22 g=>?_)) (Wk.a (idR 3)))
 refine C.seq (C.ss (U.pd 3 T (C.nx ?_)))
 refine C.ite rfl g (fun b25 g=>?_) fun b25 g=>?_
 refine C.skip (C.nx ?_)
 refine C.jn (fun (x26:List Int×List Int)=>[(1,.sl 1 eI blocked),(2,.i a),(3,.p 0 0),(7,.o 1),(8,.o 2)]) (fun x26=>[(0,.box (Q0 s_1)),(1,.val (.os 1 eI x26.1)),(2,.val (.os 1 eI x26.2))]) 3 g (fun x26 g=>?_) fun J27 g j27=>?_
 refine C.nx ?_
 exact St.wk (C.next g) (Wk.a (idR 3))
 refine C.block (C.ss (U.ps 1 T rfl ?_))
 obtain⟨x30,y30,g⟩:=g
 refine U.r rfl (.none rfl) rfl rfl (by exact Rd.io T rfl rfl rfl rfl rfl rfl rfl y30) ?_
 refine U.r rfl (.none rfl) rfl rfl (by exact Rd.le T rfl rfl rfl (Q9 y30).2.2 rfl rfl rfl) ?_
 refine U.pd 1 T (C.xt ?_)
 refine U.ps 1 T rfl ?_
 obtain⟨y33,g⟩:=g
 refine U.e1 rfl (.none rfl) (by exact Eff1.sw T rfl rfl rfl rfl rfl rfl rfl rfl (.some _ rfl) (.none _) y33) ?_
 refine U.pd 1 T (C.xt ?_)
 refine U.ps 2 T rfl ?_
 obtain⟨x36,y36,g⟩:=g
 refine U.r rfl (.none rfl) rfl rfl (by exact Rd.io T rfl rfl rfl rfl rfl rfl rfl y36) ?_
 refine U.r rfl (.none rfl) rfl rfl (by exact Rd.le T rfl rfl rfl (Q9 y36).2.2 rfl rfl rfl) ?_
 refine U.pd 1 T (C.xs (C.ss ?_))
 refine U.pd 3 T (C.nx ?_)
 refine C.jn (fun (x39:Int)=>[(1,.sl 1 eI blocked),(2,.i a),(3,.p 0 0),(7,.o 1),(8,.o 2),(9,.i x30),(10,.i x39)]) (fun x39=>[(0,.box (Q0 s_1)),(1,.val (.os 1 eI s21.1)),(2,.val (.os 1 eI (sub s21.2 1 (s21.2.length:Int))))]) 3 g (fun x39 g=>?_) fun J40 g j40=>?_
 refine C.xt (U.pd 1 T (C.nx ?_))
 refine C.jn (fun (x47:List Int×List Int)=>[(1,.sl 1 eI blocked),(2,.i a),(3,.p 0 0),(7,.o 1),(8,.o 2)]) (fun x47=>[(0,.box (Q0 s_1)),(1,.val (.os 1 eI x47.1)),(2,.val (.os 1 eI x47.2))]) 3 g (fun x47 g=>?_) fun J48 g j48=>?_
 refine C.bnx ?_
 exact St.wa (idR 3) (j27 _ g)
 refine C.block (St.wk (C.loop (fun (s49:List Int×List Int×Int)=>[(1,.sl 1 eI blocked),(2,.i a),(3,.p 0 0),(7,.o 1),(8,.o 2),(9,.i x30),(10,.i x39),(64,.i s49.2.2)]) (fun s49=>[(0,.box (Q0 s_1)),(1,.val (.os 1 eI s49.1)),(2,.val (.os 1 eI s49.2.1))]) g (fun s49 Y50 g=>?_)) (Wk.a (idR 3)))
 refine C.ss (U.pd 1 T (C.xs ?_))
 refine C.ite rfl g (fun b53 g=>?_) fun b53 g=>?_
 refine C.skip (C.xs ?_)
 refine C.jn (fun (x54:List Int×List Int)=>[(1,.sl 1 eI blocked),(2,.i a),(3,.p 0 0),(7,.o 1),(8,.o 2),(9,.i x30),(10,.i x39),(64,.i s49.2.2)]) (fun x54=>[(0,.box (Q0 s_1)),(1,.val (.os 1 eI x54.1)),(2,.val (.os 1 eI x54.2))]) 3 g (fun x54 g=>?_) fun J55 g j55=>?_
 refine C.nx (U.start (U.pd 2 T (C.nx ?_)))
 exact St.wk (C.next g) (Wk.a (idR 3))
 refine C.block (C.ss (U.pd 2 T (C.xt ?_)))
 refine U.ps 4 T rfl (U.k (Q1s s_1.Floor x30 s49.2.2 _ g) en26 (fun x60 g=>?_))
 refine U.pd 5 T (C.xs (C.seq ?_))
 refine C.jn (fun (x61:Bool)=>[(1,.sl 1 eI blocked),(2,.i a),(3,.p 0 0),(7,.o 1),(8,.o 2),(9,.i x30),(10,.i x39),(11,.i s49.2.2),(12,.i x60.1),(64,.i s49.2.2),(81,.b x61)]) (fun x61=>[(0,.box (Q0 s_1)),(1,.val (.os 1 eI s49.1)),(2,.val (.os 1 eI s49.2.1))]) 3 g (fun x61 g=>?_) fun J62 g j62=>?_
 refine C.nx ?_
 refine C.ite rfl g (fun b65 g=>?_) fun b65 g=>?_
 refine C.exit (C.ex (C.bex ?_))
 exact St.wa (idR 3) (j55 _ g)
 refine C.skip (C.xt (U.ps 4 T rfl (U.k (Q0J s_1 s49.2.2 x60.1 _ g) en28 (fun x68 g=>?_))))
 refine U.pd 2 T (C.xs ?_)
 refine C.jn (fun (x69:Bool)=>[(1,.sl 1 eI blocked),(2,.i a),(3,.p 0 0),(7,.o 1),(8,.o 2),(9,.i x30),(10,.i x39),(12,.i x60.1),(14,.i (w64 (x39+x68))),(64,.i s49.2.2),(100,.b x69)]) (fun x69=>[(0,.box (Q0 s_1)),(1,.val (.os 1 eI s49.1)),(2,.val (.os 1 eI s49.2.1))]) 3 g (fun x69 g=>?_) fun J70 g j70=>?_
 refine C.nx ?_
 refine C.jn (fun (x73:List Int×List Int)=>[(1,.sl 1 eI blocked),(2,.i a),(3,.p 0 0),(7,.o 1),(8,.o 2),(9,.i x30),(10,.i x39),(64,.i s49.2.2)]) (fun x73=>[(0,.box (Q0 s_1)),(1,.val (.os 1 eI x73.1)),(2,.val (.os 1 eI x73.2))]) 3 g (fun x73 g=>?_) fun J74 g j74=>?_
 refine C.bnx ?_
 exact St.wa (idR 3) (j55 _ g)
 refine C.ite rfl g (fun b75 g=>?_) fun b75 g=>?_
 refine C.ss (U.ps 3 T rfl ?_)
 obtain⟨x78,y78,g⟩:=g
 refine U.r rfl (.none rfl) rfl rfl (by exact Rd.io T rfl rfl rfl rfl rfl rfl rfl y78) ?_
 refine U.e1 rfl (.none rfl) (by exact Eff1.se T (z':=w64 (x39+x68)) rfl rfl rfl (Q9 y78).2.2 rfl rfl rfl rfl rfl rfl rfl rfl (fun _=>rfl) rfl) ?_
 refine U.done (C.nx (U.start (U.ps 2 T rfl (U.bs T eI ([x60.1]:List Int) ?_))))
 obtain⟨y81,g⟩:=g
 refine U.ap T y81 ?_
 refine U.pd 1 T ?_
 exact St.wa [some 0,some 1,some 4] (j74 _ g)
 refine C.skip ?_
 exact St.wa (idR 3) (j74 _ g)
 refine U.start (U.ps 2 T rfl ?_)
 obtain⟨x71,y71,g⟩:=g
 refine U.r rfl (.none rfl) rfl rfl (by exact Rd.io T rfl rfl rfl rfl rfl rfl rfl y71) ?_
 refine U.r rfl (.none rfl) rfl rfl (by exact Rd.le T rfl rfl rfl (Q9 y71).2.2 rfl rfl rfl) ?_
 refine U.ps 2 T rfl ?_
 refine g.cs (fun b72 g=>?_) fun b72 g=>?_
 refine U.sk' 6 5 false 93 b72 ?_
 refine U.pk b72 ?_
 refine U.done ?_
 exact St.wa (idR 3) (j70 _ g)
 refine U.pq 3 5 false 93 b72 T ?_
 refine U.r rfl (.tk 5 false 93 b72) rfl rfl (by exact Rd.io T rfl rfl rfl rfl rfl rfl rfl y71) ?_
 refine U.r rfl (.tk 5 false 93 b72) rfl rfl (by exact Rd.le T rfl rfl rfl (Q9 y71).2.2 rfl rfl rfl) ?_
 refine U.pq 1 5 false 93 b72 T ?_
 refine U.pk' b72 ?_
 refine U.done ?_
 exact St.wa (idR 3) (j70 _ g)
 refine U.start (U.ps 3 T rfl ?_)
 refine g.cs (fun b63 g=>?_) fun b63 g=>?_
 refine U.pq 2 2 false 77 (ntF b63) T ?_
 refine U.k (Xm blocked x60.1 _ g) en27 (fun x64 g=>?_) (hw:=.take 2 false 77 _ (ntF b63) rfl rfl rfl)
 refine U.pk' (ntF b63) ?_
 refine U.done ?_
 exact St.wa (idR 3) (j62 _ g)
 refine U.sk' 3 2 false 77 (ntT b63) ?_
 refine U.pk (ntT b63) ?_
 refine U.done ?_
 exact St.wa (idR 3) (j62 _ g)
 refine C.exit (C.ex (C.ex (C.bex ?_)))
 exact St.wa (idR 3) (j48 _ g)
 refine C.ite rfl g (fun b41 g=>?_) fun b41 g=>?_
 refine U.start (U.ps 3 T rfl (U.k (Q1w s_1 x30 _ g) en25 (fun x44 g=>?_)))
 refine U.pd 2 T ?_
 exact St.wa [some 0,some 1,some 3] (j40 _ g)
 refine C.skip ?_
 exact St.wa [some 0,some 1,some 3] (j40 _ g)
 refine C.exit (C.ex (C.ex (C.bex ?_)))
 exact St.wa [some 1] (j20 _ g)
 refine U.start (U.ps 3 T rfl ?_)
 refine g.cs (fun b8 g=>?_) fun b8 g=>?_
 refine U.sk' 4 2 false 23 b8 ?_
 refine U.pk b8 ?_
 refine U.ps 1 T rfl (U.sk' 7 8 false 29 rfl ?_)
 refine U.pk rfl ?_
 refine U.done ?_
 exact St.wa [some 0,some 2] (j7 _ g)
 refine U.pq 4 2 false 23 b8 T ?_
 refine U.pk' b8 ?_
 refine U.ps 1 T rfl ?_
 refine g.cs (fun b9 g=>?_) fun b9 g=>?_
 refine U.sk' 7 8 false 29 b9 ?_
 refine U.pk b9 ?_
 refine U.done ?_
 exact St.wa [some 0,some 2] (j7 _ g)
 refine U.pq 4 8 false 29 b9 T ?_
 obtain⟨x10,y10,g⟩:=g
 refine U.r rfl (.tk 8 false 29 b9) rfl rfl (by exact Rd.ix T rfl rfl rfl rfl rfl rfl y10) ?_
 refine U.pq 2 8 false 29 b9 T ?_
 refine U.pk' b9 ?_
 refine U.done ?_
 exact St.wa [some 0,some 2] (j7 _ g)
theorem Q1D (s_1:ApiSite) (blocked:List Int) (a:Int) (b:Int) (post:Int→Prop) (g:Gb s_1 blocked a b post):
  Tr Tryz.prog 7 [.agg (Q0 s_1),.sl 1 eI blocked,.i a,.i b] [] 0 (pI post):=by
 refine Tr.go Tryz.func7 Tryz.ntmps7 fun _ _ _ _ o=>?_
 unfold Gb at g
 refine C.ss (U.bx ?_)
 refine U.pd 1 T (C.xs (C.seq ?_))
 refine C.jn (fun (x3:Bool)=>[(1,.sl 1 eI blocked),(2,.i a),(3,.i b),(4,.p 0 0),(18,.b x3)]) (fun x3=>[(0,.box (Q0 s_1))]) 1 g (fun x3 g=>?_) fun J4 g j4=>?_
 refine C.nx ?_
 refine C.ite rfl g (fun b6 g=>?_) fun b6 g=>?_
 refine C.ss (U.pd 1 T (C.nx (C.ret (C.rt ?_))))
 exact C.f1 T o (pIi g)
 refine C.skip (C.xt (U.ps 3 T rfl (U.k (Wq s_1 blocked a _ g) en10 (fun x11 g=>?_))))
 refine U.ps 1 T rfl ?_
 obtain⟨x12,y12,g⟩:=g
 refine U.r rfl (.none rfl) rfl rfl (by exact Rd.io T rfl rfl rfl rfl rfl rfl rfl y12) ?_
 refine U.r rfl (.none rfl) rfl rfl (by exact Rd.le T rfl rfl rfl (Q9 y12).2.2 rfl rfl rfl) ?_
 refine U.pd 1 T (C.nx (C.ret ?_))
 exact C.f1 T o (pIi g)
 refine U.start (U.ps 3 T rfl ?_)
 refine g.cs (fun b5 g=>?_) fun b5 g=>?_
 refine U.sk' 6 2 false 11 b5 ?_
 refine U.pk b5 ?_
 refine U.done ?_
 exact St.wa [some 0] (j4 _ g)
 refine U.pq 6 2 false 11 b5 T ?_
 refine U.pk' b5 ?_
 refine U.done ?_
 exact St.wa [some 0] (j4 _ g)
theorem Z1 (r:List Int) (c:Int) (post:Bool→Prop) (g:Kl r c post):
  Tr Tryz.prog 111 [.sl 1 eI r,.i c] [] 0 (pB post):=by
 refine Tr.go Tryz.func111 Tryz.ntmps111 fun _ _ _ _ o=>?_
 unfold Kl at g
 refine C.ss (U.pd 1 T (C.xt ?_))
 refine U.pd 1 T (C.xt ?_)
 refine U.pd 3 T (C.xs ?_)
 refine C.jn (fun (x7:Int)=>[(0,.sl 1 eI r),(1,.i c),(5,.i x7)]) (fun x7=>[]) 0 g (fun x7 g=>?_) fun J8 g j8=>?_
 refine C.xs (C.ss (U.pd 4 T (C.nx ?_)))
 refine C.ite rfl g (fun b29 g=>?_) fun b29 g=>?_
 refine C.ss (U.pd 1 T (C.nx (C.ret (C.rt ?_))))
 exact C.f1 T o (pBi g)
 refine C.skip (C.xt (U.ps 2 T rfl ?_))
 obtain⟨x34,y34,g⟩:=g
 refine U.ix T y34 ?_
 refine U.pd 4 T (C.nx (C.ret ?_))
 exact C.f1 T o (pBi g)
 refine C.block (St.wk (C.loop (fun (s9:Int×Int)=>[(0,.sl 1 eI r),(1,.i c),(5,.i s9.1),(6,.i s9.2)]) (fun s9=>[]) g (fun s9 Y10 g=>?_)) (Wk.e))
 refine C.seq (C.ss (U.pd 3 T (C.nx ?_)))
 refine C.ite rfl g (fun b13 g=>?_) fun b13 g=>?_
 refine C.skip (C.nx (C.block (C.ss (U.ps 3 T rfl (U.r rfl (.none rfl) rfl rfl (by exact Rd.dv rfl rfl rfl rfl (by decide)) ?_)))))
 refine U.pd 1 T (C.xt ?_)
 refine U.ps 2 T rfl ?_
 obtain⟨x19,y19,g⟩:=g
 refine U.ix T y19 ?_
 refine U.pd 3 T (C.nx ?_)
 refine C.jn (fun (x20:Int×Int)=>[(0,.sl 1 eI r),(1,.i c),(5,.i x20.1),(6,.i x20.2)]) (fun x20=>[]) 0 g (fun x20 g=>?_) fun J21 g j21=>?_
 refine C.bnx (C.nx ?_)
 exact St.wk (C.next g) (Wk.e)
 refine C.ite rfl g (fun b22 g=>?_) fun b22 g=>?_
 refine U.start (U.pd 3 T ?_)
 exact St.wn (j21 _ g)
 refine U.start (U.pd 2 T ?_)
 exact St.wn (j21 _ g)
 refine C.exit (C.ex (C.ex (C.bex ?_)))
 exact St.wn (j8 _ g)
theorem WB (s_1:ApiSite) (c:Int) (post:Int→Prop) (g:Ke s_1 c post):
  Tr Tryz.prog 96 [.agg (Q0 s_1),.i c] [] 0 (pI post):=by
 refine Tr.go Tryz.func96 Tryz.ntmps96 fun _ _ _ _ o=>?_
 unfold Ke at g
 refine C.ss (U.bx ?_)
 refine U.pd 1 T (C.xs (C.ss ?_))
 refine U.pd 1 T (C.nx ?_)
 refine C.jn (fun (x5:Unit)=>[]) (fun x5=>[]) 0 g (fun x5 g=>?_) fun J6 g j6=>?_
 refine C.xt (U.pd 1 T (C.nx (C.ret ?_)))
 exact C.f1 T o (pIi g)
 refine C.block (St.wk (C.loop (fun (s7:Int)=>[(1,.i c),(2,.p 0 0),(5,.i s7)]) (fun s7=>[(0,.box (Q0 s_1))]) g (fun s7 Y8 g=>?_)) (Wk.a [some 0]))
 refine C.seq (C.ss (U.pd 5 T (C.nx ?_)))
 refine C.ite rfl g (fun b11 g=>?_) fun b11 g=>?_
 refine C.skip (C.xs (C.block (C.ss (U.ps 3 T rfl ?_))))
 obtain⟨x14,y14,g⟩:=g
 refine U.ix T y14 ?_
 refine U.ps 3 T rfl (U.k (Z1 x14.Cells c _ g) Q4U (fun x15 g=>?_))
 refine U.done (C.nx ?_)
 refine C.ite rfl g (fun b16 g=>?_) fun b16 g=>?_
 refine C.ss (U.pd 2 T (C.nx (C.ret (C.brt (C.rt (C.rt (C.brt (C.rt ?_))))))))
 exact C.f1 T o (pIi g)
 refine C.skip (C.bnx (C.nx (U.start (U.pd 3 T (C.nx ?_)))))
 exact St.wk (C.next g) (Wk.a [some 0])
 refine C.exit (C.ex (C.ex (C.bex ?_)))
 exact St.wk (j6 _ g) (Wk.mk' [] rfl rfl trivial trivial rfl)
theorem G5 (s_1:ApiSite) (c:Int) (post:Int→Prop) (g:QZ s_1 c post):
  Tr Tryz.prog 70 [.agg (Q0 s_1),.i c] [] 0 (pI post):=by
 refine Tr.go Tryz.func70 Tryz.ntmps70 fun _ _ _ _ o=>?_
 unfold QZ at g
 refine C.ss (U.bx ?_)
 refine U.pd 1 T (C.xt ?_)
 refine U.ps 2 T rfl (U.k (WB s_1 c _ g) en96 (fun x5 g=>?_))
 refine U.pd 1 T (C.xs (C.ss ?_))
 refine U.pd 2 T (C.nx ?_)
 refine C.ite rfl g (fun b8 g=>?_) fun b8 g=>?_
 refine C.ss (U.pd 1 T (C.nx (C.ret (C.rt ?_))))
 exact C.f1 T o (pIi g)
 refine C.skip (C.xt (U.ps 3 T rfl ?_))
 obtain⟨x13,y13,g⟩:=g
 refine U.ix T y13 ?_
 refine U.pd 3 T (C.nx (C.ret ?_))
 exact C.f1 T o (pIi g)
theorem Yx (act:Int) (laden:Bool) (post:Int→Prop) (g:KB act laden post):
  Tr Tryz.prog 99 [.i act,.b laden] [] 0 (pI post):=by
 refine Tr.go Tryz.func99 Tryz.ntmps99 fun _ _ _ _ o=>?_
 unfold KB at g
 refine C.ss (U.pd 1 T (C.xs (C.seq ?_)))
 refine C.jn (fun (x3:Bool)=>[(0,.i act),(1,.b laden),(11,.b x3)]) (fun x3=>[]) 0 g (fun x3 g=>?_) fun J4 g j4=>?_
 refine C.nx ?_
 refine C.ite rfl g (fun b6 g=>?_) fun b6 g=>?_
 refine C.ss (U.pd 1 T (C.nx (C.ret (C.rt ?_))))
 exact C.f1 T o (pIi g)
 refine C.skip (C.xs (C.ss (U.pd 2 T (C.nx ?_))))
 refine C.ite rfl g (fun b11 g=>?_) fun b11 g=>?_
 refine C.ss (U.pd 1 T (C.nx (C.ret (C.rt ?_))))
 exact C.f1 T o (pIi g)
 refine C.skip (C.xs (C.seq ?_))
 refine C.jn (fun (x14:Bool)=>[(0,.i act),(1,.b laden),(19,.b x14)]) (fun x14=>[]) 0 g (fun x14 g=>?_) fun J15 g j15=>?_
 refine C.nx ?_
 refine C.ite rfl g (fun b17 g=>?_) fun b17 g=>?_
 refine C.ss (U.pd 1 T (C.nx (C.ret (C.rt ?_))))
 exact C.f1 T o (pIi g)
 refine C.skip (C.xt (U.pd 1 T (C.xs (C.ss ?_))))
 refine U.pd 2 T (C.nx ?_)
 refine C.jn (fun (x24:Int)=>[(0,.i act),(1,.b laden),(5,.i x24)]) (fun x24=>[]) 0 g (fun x24 g=>?_) fun J25 g j25=>?_
 refine C.xs (C.ss (U.pd 2 T (C.nx ?_)))
 refine C.jn (fun (x31:Int)=>[(1,.b laden),(5,.i x31)]) (fun x31=>[]) 0 g (fun x31 g=>?_) fun J32 g j32=>?_
 refine C.xs (C.ss (U.pd 1 T (C.nx ?_)))
 refine C.jn (fun (x38:Int)=>[(5,.i x38)]) (fun x38=>[]) 0 g (fun x38 g=>?_) fun J39 g j39=>?_
 refine C.xt (U.pd 2 T (C.nx (C.ret ?_)))
 exact C.f1 T o (pIi g)
 refine C.ite rfl g (fun b40 g=>?_) fun b40 g=>?_
 refine U.start (U.pd 3 T ?_)
 exact St.wn (j39 _ g)
 refine C.skip ?_
 exact St.wn (j39 _ g)
 refine C.ite rfl g (fun b33 g=>?_) fun b33 g=>?_
 refine U.start (U.pd 1 T ?_)
 exact St.wn (j32 _ g)
 refine C.skip ?_
 exact St.wn (j32 _ g)
 refine C.ite rfl g (fun b26 g=>?_) fun b26 g=>?_
 refine U.start (U.pd 1 T ?_)
 exact St.wn (j25 _ g)
 refine C.skip ?_
 exact St.wn (j25 _ g)
 refine U.start (U.ps 3 T rfl ?_)
 refine g.cs (fun b16 g=>?_) fun b16 g=>?_
 refine U.sk' 2 2 false 16 b16 ?_
 refine U.pk b16 ?_
 refine U.done ?_
 exact St.wn (j15 _ g)
 refine U.pq 2 2 false 16 b16 T ?_
 refine U.pk' b16 ?_
 refine U.done ?_
 exact St.wn (j15 _ g)
 refine U.start (U.ps 3 T rfl ?_)
 refine g.cs (fun b5 g=>?_) fun b5 g=>?_
 refine U.sk' 2 2 false 8 b5 ?_
 refine U.pk b5 ?_
 refine U.done ?_
 exact St.wn (j4 _ g)
 refine U.pq 2 2 false 8 b5 T ?_
 refine U.pk' b5 ?_
 refine U.done ?_
 exact St.wn (j4 _ g)
theorem YJ (tick:Int) (post:Int→Prop) (g:KJ tick post):
  Tr Tryz.prog 100 [.i tick] [] 0 (pI post):=by
 refine Tr.go Tryz.func100 Tryz.ntmps100 fun _ _ _ _ o=>?_
 unfold KJ at g
 refine C.ss (U.pd 1 T (C.xs (C.ss ?_)))
 refine U.pd 2 T (C.nx ?_)
 refine C.ite rfl g (fun b5 g=>?_) fun b5 g=>?_
 refine C.ss (U.pd 1 T (C.nx (C.ret (C.rt ?_))))
 exact C.f1 T o (pIi g)
 refine C.skip (C.xs (C.ss (U.pd 2 T (C.nx ?_))))
 refine C.ite rfl g (fun b10 g=>?_) fun b10 g=>?_
 refine C.ss (U.pd 1 T (C.nx (C.ret (C.rt ?_))))
 exact C.f1 T o (pIi g)
 refine C.skip (C.xt (U.ps 1 T rfl (U.r rfl (.none rfl) rfl rfl (by exact Rd.dv rfl rfl rfl rfl (by decide)) ?_)))
 refine U.pd 1 T (C.nx (C.ret ?_))
 exact C.f1 T o (pIi g)
theorem Ge (tick:Int) (act:Int) (laden:Bool) (post:Int→Prop) (g:K9 tick act laden post):
  Tr Tryz.prog 72 [.i tick,.i act,.b laden] [] 0 (pI post):=by
 refine Tr.go Tryz.func72 Tryz.ntmps72 fun _ _ _ _ o=>?_
 unfold K9 at g
 refine C.ss (U.pd 1 T (C.xt ?_))
 refine U.ps 2 T rfl (U.k (Yx act laden _ g) en99 (fun x5 g=>?_))
 refine U.ps 1 T rfl (U.k (YJ tick _ g) Q54 (fun x6 g=>?_))
 refine U.pd 3 T (C.xs (C.ss ?_))
 refine U.ps 1 T rfl (U.r rfl (.none rfl) rfl rfl (by exact Rd.rm rfl rfl rfl rfl (by decide)) ?_)
 refine U.pd 1 T (C.nx ?_)
 refine C.ite rfl g (fun b10 g=>?_) fun b10 g=>?_
 refine C.ss (U.ps 1 T rfl (U.r rfl (.none rfl) rfl rfl (by exact Rd.dv rfl rfl rfl rfl (by decide)) ?_))
 refine U.pd 2 T (C.nx (C.ret (C.rt ?_)))
 exact C.f1 T o (pIi g)
 refine C.skip (C.xt (U.ps 1 T rfl (U.r rfl (.none rfl) rfl rfl (by exact Rd.dv rfl rfl rfl rfl (by decide)) ?_)))
 refine U.pd 1 T (C.nx (C.ret ?_))
 exact C.f1 T o (pIi g)
theorem Xw (post:Int→Prop) (g:QO post):
  Tr Tryz.prog 37 [] [] 0 (pI post):=by
 refine Tr.go Tryz.func37 Tryz.ntmps37 fun _ _ _ _ o=>?_
 unfold QO at g
 refine C.ss (U.pd 1 T (C.xt ?_))
 refine U.k (Ge 20000 0 true _ g) en72 fun x5 g=>?_
 refine U.pd 1 T (C.nx (C.ret ?_))
 exact C.f1 T o (pIi g)
theorem Xz (s_1:ApiSite) (c:Int) (post:Int→Prop) (g:QM s_1 c post):
  Tr Tryz.prog 30 [.agg (Q0 s_1),.i c] [] 0 (pI post):=by
 refine Tr.go Tryz.func30 Tryz.ntmps30 fun _ _ _ _ o=>?_
 unfold QM at g
 refine C.ss (U.bx ?_)
 refine U.pd 1 T (C.xs (C.ss ?_))
 refine U.ps 4 T rfl ?_
 obtain⟨x5,y5,g⟩:=g
 refine U.ix T y5 ?_
 refine U.pd 2 T (C.nx ?_)
 refine C.ite rfl g (fun b6 g=>?_) fun b6 g=>?_
 refine C.ss (U.pd 1 T (C.nx (C.ret (C.rt ?_))))
 exact C.f1 T o (pIi g)
 refine C.skip (C.xt (U.ps 2 T rfl (U.k (G5 s_1 c _ g) en70 (fun x11 g=>?_))))
 refine U.ps 1 T rfl (U.k (Xw _ g) en37 (fun x12 g=>?_))
 refine U.pd 2 T (C.nx (C.ret ?_))
 exact C.f1 T o (pIi g)
theorem Yv (f:ApiFloor) (c:Int) (d:Int) (post:(Int×Bool)→Prop) (g:Kz f c d post):
  Tr Tryz.prog 31 [.agg (Qi f),.i c,.i d] [] 0 (fun A H' k=>∃y,post y∧A=(.tup [.i y.1,.b y.2])∧H'=[]∧k=0):=by
 refine Tr.go Tryz.func31 Tryz.ntmps31 fun _ _ _ _ o=>?_
 unfold Kz at g
 refine C.ss (U.bx ?_)
 refine U.pd 2 T (C.xt ?_)
 refine U.ps 3 T rfl (U.k (XQ f c d _ g) en71 (fun x5 g=>?_))
 refine U.pd 1 T (C.xs (C.ss ?_))
 refine U.pd 2 T (C.nx ?_)
 refine C.ite rfl g (fun b8 g=>?_) fun b8 g=>?_
 refine C.ss (U.pd 2 T (C.nx (C.ret (C.rt ?_))))
 exact C.f9 T o ⟨(0,false),g,rfl,rfl,rfl⟩
 refine C.skip (C.xs (C.seq ?_))
 refine C.jn (fun (x11:Bool)=>[(1,.i c),(2,.i d),(3,.p 0 0),(8,.i x5),(40,.b x11)]) (fun x11=>[(0,.box (Qi f))]) 1 g (fun x11 g=>?_) fun J12 g j12=>?_
 refine C.nx ?_
 refine C.ite rfl g (fun b19 g=>?_) fun b19 g=>?_
 refine C.ss (U.pd 2 T (C.nx (C.ret (C.rt ?_))))
 exact C.f9 T o ⟨(0,false),g,rfl,rfl,rfl⟩
 refine C.skip (C.xs (C.seq ?_))
 refine C.jn (fun (x22:Bool)=>[(8,.i x5),(58,.b x22)]) (fun x22=>[]) 0 g (fun x22 g=>?_) fun J23 g j23=>?_
 refine C.nx ?_
 refine C.ite rfl g (fun b28 g=>?_) fun b28 g=>?_
 refine C.ss (U.pd 2 T (C.nx (C.ret (C.rt ?_))))
 exact C.f9 T o ⟨(0,false),g,rfl,rfl,rfl⟩
 refine C.skip (C.xt (U.pd 3 T (C.nx (C.ret ?_))))
 exact C.f9 T o ⟨(x5,true),g,rfl,rfl,rfl⟩
 refine U.start (U.ps 3 T rfl ?_)
 refine g.cs (fun b24 g=>?_) fun b24 g=>?_
 refine U.pq 3 2 true 43 b24 T ?_
 obtain⟨x25,y25,g⟩:=g
 refine U.r rfl (.tk 2 true 43 b24) rfl rfl (by exact Rd.ix T rfl rfl rfl rfl rfl rfl y25) ?_
 refine U.pq 3 2 true 43 b24 T ?_
 refine g.cs (fun b26 g=>?_) fun b26 g=>?_
 refine U.sk' 6 9 false 50 b26 ?_
 refine U.r rfl (.tk 2 true 43 b24) rfl rfl (by exact Rd.pk rfl rfl b26 rfl) ?_
 refine U.pk b24 ?_
 refine U.done ?_
 exact St.wn (j23 _ g)
 refine U.pq 3 9 false 50 b26 T ?_
 obtain⟨x27,y27,g⟩:=g
 refine U.r rfl (.tk 9 false 50 b26) rfl rfl (by exact Rd.ix T rfl rfl rfl rfl rfl rfl y27) ?_
 refine U.pq 2 9 false 50 b26 T ?_
 refine U.r rfl (.tk 2 true 43 b24) rfl rfl (by exact Rd.pk' rfl rfl b26 rfl) ?_
 refine U.pk b24 ?_
 refine U.done ?_
 exact St.wn (j23 _ g)
 refine U.sk' 7 2 true 43 b24 ?_
 refine U.sku 6 9 false 50 rfl rfl rfl ?_
 refine U.sk' 1 2 true 43 b24 ?_
 refine U.pk' b24 ?_
 refine U.done ?_
 exact St.wn (j23 _ g)
 refine U.start (U.ps 3 T rfl ?_)
 obtain⟨x13,y13,g⟩:=g
 refine U.ix T y13 ?_
 refine U.ps 3 T rfl ?_
 refine g.cs (fun b14 g=>?_) fun b14 g=>?_
 refine U.sk' 6 6 false 21 b14 ?_
 refine U.pk b14 ?_
 refine U.ps 1 T rfl (U.sk' 10 14 false 29 rfl ?_)
 refine U.pk rfl ?_
 refine U.done ?_
 exact St.wa [some 0] (j12 _ g)
 refine U.pq 3 6 false 21 b14 T ?_
 obtain⟨x15,y15,g⟩:=g
 refine U.r rfl (.tk 6 false 21 b14) rfl rfl (by exact Rd.ix T rfl rfl rfl rfl rfl rfl y15) ?_
 refine U.pq 2 6 false 21 b14 T ?_
 refine U.pk' b14 ?_
 refine U.ps 1 T rfl ?_
 refine g.cs (fun b16 g=>?_) fun b16 g=>?_
 refine U.sk' 10 14 false 29 b16 ?_
 refine U.pk b16 ?_
 refine U.done ?_
 exact St.wa [some 0] (j12 _ g)
 refine U.pq 3 14 false 29 b16 T ?_
 obtain⟨x17,y17,g⟩:=g
 refine U.r rfl (.tk 14 false 29 b16) rfl rfl (by exact Rd.ix T rfl rfl rfl rfl rfl rfl y17) ?_
 refine U.pq 3 14 false 29 b16 T ?_
 obtain⟨y18,g⟩:=g
 refine U.r rfl (.tk 14 false 29 b16) rfl rfl (by exact Rd.sh rfl rfl rfl rfl y18) ?_
 refine U.pq 2 14 false 29 b16 T ?_
 refine U.pk' b16 ?_
 refine U.done ?_
 exact St.wa [some 0] (j12 _ g)
theorem Yg (s_1:ApiSite) (d:Int) (x_1:Int) (post:Int→Prop) (g:Ko s_1 d x_1 post):
  Tr Tryz.prog 33 [.agg (Q0 s_1),.i d,.i x_1] [] 0 (pI post):=by
 refine Tr.go Tryz.func33 Tryz.ntmps33 fun _ _ _ _ o=>?_
 unfold Ko at g
 refine C.ss (U.bx ?_)
 refine U.pd 1 T (C.xs (C.seq ?_))
 refine C.jn (fun (x3:Bool)=>[(1,.i d),(2,.i x_1),(3,.p 0 0),(20,.b x3)]) (fun x3=>[(0,.box (Q0 s_1))]) 1 g (fun x3 g=>?_) fun J4 g j4=>?_
 refine C.nx ?_
 refine C.ite rfl g (fun b8 g=>?_) fun b8 g=>?_
 refine C.ss (U.pd 1 T (C.nx (C.ret (C.rt ?_))))
 exact C.f1 T o (pIi g)
 refine C.skip (C.xt (U.ps 2 T rfl (U.k (Ge 20000 (w64 (1+d)) true _ g) en72 (fun x13 g=>?_))))
 refine U.pd 1 T (C.xs (C.ss ?_))
 refine U.ps 4 T rfl ?_
 obtain⟨x16,y16,g⟩:=g
 refine U.ix T y16 ?_
 refine U.pd 2 T (C.nx ?_)
 refine C.jn (fun (x17:Int)=>[(7,.i x17)]) (fun x17=>[]) 0 g (fun x17 g=>?_) fun J18 g j18=>?_
 refine C.xt (U.pd 2 T (C.nx (C.ret ?_)))
 exact C.f1 T o (pIi g)
 refine C.ite rfl g (fun b19 g=>?_) fun b19 g=>?_
 refine U.start (U.ps 3 T rfl (U.k (G5 s_1 x_1 _ g) en70 (fun x22 g=>?_)))
 refine U.ps 1 T rfl (U.k (Xw _ g) en37 (fun x23 g=>?_))
 refine U.pd 3 T ?_
 exact St.wn (j18 _ g)
 refine C.skip ?_
 exact St.wn (j18 _ g)
 refine U.start (U.ps 3 T rfl ?_)
 refine g.cs (fun b5 g=>?_) fun b5 g=>?_
 refine U.sk' 2 2 false 10 b5 ?_
 refine U.pk b5 ?_
 refine U.ps 1 T rfl (U.sk' 5 6 false 14 rfl ?_)
 refine U.pk rfl ?_
 refine U.done ?_
 exact St.wa [some 0] (j4 _ g)
 refine U.pq 2 2 false 10 b5 T ?_
 refine U.pk' b5 ?_
 refine U.ps 1 T rfl ?_
 refine g.cs (fun b6 g=>?_) fun b6 g=>?_
 refine U.sk' 5 6 false 14 b6 ?_
 refine U.pk b6 ?_
 refine U.done ?_
 exact St.wa [some 0] (j4 _ g)
 refine U.pq 3 6 false 14 b6 T ?_
 refine U.k (QU s_1.Floor x_1 _ g) en23 (fun x7 g=>?_) (hw:=.take 6 false 14 _ b6 rfl rfl rfl)
 refine U.pq 1 6 false 14 b6 T ?_
 refine U.pk' b6 ?_
 refine U.done ?_
 exact St.wa [some 0] (j4 _ g)
theorem Xs (s_1:ApiSite) (blocked:List Int) (a:Int) (post:(List Int)→Prop) (g:Qw s_1 blocked a post):
  Tr Tryz.prog 11 [.agg (Q0 s_1),.sl 1 eI blocked,.i a] [] 0 (fun A H' k=>∃y,post y∧A=(.o 0)∧H'=[(0,.val (.os 1 eI y))]∧k=1):=by
 refine Tr.go Tryz.func11 Tryz.ntmps11 fun _ _ _ _ o=>?_
 unfold Qw at g
 refine C.ss (U.bx ?_)
 refine U.pd 1 T (C.xt ?_)
 refine U.ps 2 T rfl (U.k (Gj s_1.Floor _ g) en29 (fun x5 g=>?_))
 obtain⟨y6,g⟩:=g
 refine U.e1 rfl (.none rfl) (by exact Eff1.mk T (enc:=eI) (z0:=0) rfl rfl rfl rfl rfl rfl rfl rfl rfl rfl y6) ?_
 refine U.pd 1 T (C.xt ?_)
 refine U.ps 2 T rfl ?_
 obtain⟨y9,g⟩:=g
 refine U.e1 rfl (.none rfl) (by exact Eff1.mk T (enc:=eB) (z0:=false) rfl rfl rfl rfl rfl rfl rfl rfl rfl rfl y9) ?_
 refine U.pd 1 T (C.xs (C.ss ?_))
 refine U.pd 1 T (C.nx ?_)
 refine C.jn (fun (x12:List Int)=>[(1,.sl 1 eI blocked),(2,.i a),(3,.p 0 0),(7,.o 1),(8,.o 2)]) (fun x12=>[(0,.box (Q0 s_1)),(1,.val (.os 1 eI x12)),(2,.val (.os 1 eB (List.replicate (Int.toNat ((List.replicate (Int.toNat x5) (0:Int)).length:Int)) false)))]) 3 g (fun x12 g=>?_) fun J13 g j13=>?_
 refine C.xs (C.ss (U.ps 3 T rfl (U.k (QU s_1.Floor a _ g) en23 (fun x26 g=>?_))))
 refine U.pd 1 T (C.nx ?_)
 refine C.ite rfl g (fun b27 g=>?_) fun b27 g=>?_
 refine C.ss (U.pd 2 T (C.nx (C.ret (C.rt ?_))))
 exact C.g1 [some 1] T o ⟨x12,g,rfl,rfl,rfl⟩
 refine C.skip (C.xs (C.ss (U.ps 4 T rfl ?_)))
 obtain⟨x32,y32,g⟩:=g
 refine U.ix T y32 ?_
 refine U.pd 2 T (C.nx ?_)
 refine C.ite rfl g (fun b33 g=>?_) fun b33 g=>?_
 refine C.ss (U.pd 2 T (C.nx (C.ret (C.rt ?_))))
 exact C.g1 [some 1] T o ⟨x12,g,rfl,rfl,rfl⟩
 refine C.skip (C.xt (U.ps 2 T rfl ?_))
 obtain⟨x38,y38,g⟩:=g
 refine U.r rfl (.none rfl) rfl rfl (by exact Rd.io T rfl rfl rfl rfl rfl rfl rfl y38) ?_
 refine U.e1 rfl (.none rfl) (by exact Eff1.se T (z':=0) rfl rfl rfl (Q9 y38).2.2 rfl rfl rfl rfl rfl rfl rfl rfl (fun _=>rfl) rfl) ?_
 refine U.done (C.xs (C.ss (U.pd 1 T (C.nx ?_))))
 refine C.jn (fun (x41:List Int)=>[(7,.o 0)]) (fun x41=>[(0,.val (.os 1 eI x41))]) 1 g (fun x41 g=>?_) fun J42 g j42=>?_
 refine C.xt (U.pd 2 T (C.nx (C.ret ?_)))
 exact C.g1 [some 0] T o ⟨x41,g,rfl,rfl,rfl⟩
 refine C.block (St.wk (C.loop (fun (s43:List Int×List Bool×Int)=>[(1,.sl 1 eI blocked),(2,.i a),(3,.p 0 0),(7,.o 1),(8,.o 2),(10,.i s43.2.2)]) (fun s43=>[(0,.box (Q0 s_1)),(1,.val (.os 1 eI s43.1)),(2,.val (.os 1 eB s43.2.1))]) g (fun s43 Y44 g=>?_)) (Wk.a (idR 3)))
 refine C.seq (C.ss (U.pd 4 T (C.nx ?_)))
 refine C.ite rfl g (fun b47 g=>?_) fun b47 g=>?_
 refine C.skip (C.xs ?_)
 refine C.jn (fun (x48:List Int×List Bool)=>[(1,.sl 1 eI blocked),(2,.i a),(3,.p 0 0),(7,.o 1),(8,.o 2),(10,.i s43.2.2)]) (fun x48=>[(0,.box (Q0 s_1)),(1,.val (.os 1 eI x48.1)),(2,.val (.os 1 eB x48.2))]) 3 g (fun x48 g=>?_) fun J49 g j49=>?_
 refine C.nx (U.start (U.pd 3 T (C.nx ?_)))
 exact St.wk (C.next g) (Wk.a (idR 3))
 refine C.block (C.ss (U.pd 1 T (C.xs (C.ss ?_))))
 refine U.pd 1 T (C.nx ?_)
 refine C.jn (fun (x54:Int)=>[(1,.sl 1 eI blocked),(2,.i a),(3,.p 0 0),(7,.o 1),(8,.o 2),(10,.i s43.2.2),(11,.i x54)]) (fun x54=>[(0,.box (Q0 s_1)),(1,.val (.os 1 eI s43.1)),(2,.val (.os 1 eB s43.2.1))]) 3 g (fun x54 g=>?_) fun J55 g j55=>?_
 refine C.xs (C.ss (U.pd 2 T (C.nx ?_)))
 refine C.ite rfl g (fun b80 g=>?_) fun b80 g=>?_
 refine C.ss (U.pd 2 T (C.nx (C.ret (C.rt (C.brt (C.rt (C.rt (C.brt (C.rt ?_)))))))))
 exact C.g1 [some 1] T o ⟨s43.1,g,rfl,rfl,rfl⟩
 refine C.skip (C.xt (U.ps 2 T rfl ?_))
 obtain⟨x85,y85,g⟩:=g
 refine U.r rfl (.none rfl) rfl rfl (by exact Rd.io T rfl rfl rfl rfl rfl rfl rfl y85) ?_
 refine U.e1 rfl (.none rfl) (by exact Eff1.se T (z':=true) rfl rfl rfl (Q9 y85).2.2 rfl rfl rfl rfl rfl rfl rfl rfl (fun _=>rfl) rfl) ?_
 refine U.done (C.xt (U.pd 1 T (C.nx ?_)))
 refine C.jn (fun (x88:List Int)=>[(1,.sl 1 eI blocked),(2,.i a),(3,.p 0 0),(7,.o 1),(8,.o 2),(10,.i s43.2.2)]) (fun x88=>[(0,.box (Q0 s_1)),(1,.val (.os 1 eI x88)),(2,.val (.os 1 eB (s43.2.1.set (Int.toNat x54) true)))]) 3 g (fun x88 g=>?_) fun J89 g j89=>?_
 refine C.bnx ?_
 exact St.wa (idR 3) (j49 _ g)
 refine C.block (St.wk (C.loop (fun (s90:List Int×Int)=>[(1,.sl 1 eI blocked),(2,.i a),(3,.p 0 0),(7,.o 1),(8,.o 2),(10,.i s43.2.2),(11,.i x54),(13,.i s90.2)]) (fun s90=>[(0,.box (Q0 s_1)),(1,.val (.os 1 eI s90.1)),(2,.val (.os 1 eB (s43.2.1.set (Int.toNat x54) true)))]) g (fun s90 Y91 g=>?_)) (Wk.a (idR 3)))
 refine C.seq (C.ss (U.pd 2 T (C.nx ?_)))
 refine C.ite rfl g (fun b94 g=>?_) fun b94 g=>?_
 refine C.skip (C.xs (C.block (C.ss (U.ps 4 T rfl (U.k (Yv s_1.Floor x54 s90.2 _ g) en31 (fun x97 g=>?_))))))
 refine U.pd 5 T (C.xs ?_)
 refine C.jn (fun (x98:Bool)=>[(1,.sl 1 eI blocked),(2,.i a),(3,.p 0 0),(7,.o 1),(8,.o 2),(10,.i s43.2.2),(11,.i x54),(13,.i s90.2),(14,.i x97.1),(124,.b x98)]) (fun x98=>[(0,.box (Q0 s_1)),(1,.val (.os 1 eI s90.1)),(2,.val (.os 1 eB (s43.2.1.set (Int.toNat x54) true)))]) 3 g (fun x98 g=>?_) fun J99 g j99=>?_
 refine C.nx ?_
 refine C.jn (fun (x102:List Int)=>[(1,.sl 1 eI blocked),(2,.i a),(3,.p 0 0),(7,.o 1),(8,.o 2),(10,.i s43.2.2),(11,.i x54),(13,.i s90.2)]) (fun x102=>[(0,.box (Q0 s_1)),(1,.val (.os 1 eI x102)),(2,.val (.os 1 eB (s43.2.1.set (Int.toNat x54) true)))]) 3 g (fun x102 g=>?_) fun J103 g j103=>?_
 refine C.bnx (C.nx (U.start (U.pd 3 T (C.nx ?_))))
 exact St.wk (C.next g) (Wk.a (idR 3))
 refine C.ite rfl g (fun b104 g=>?_) fun b104 g=>?_
 refine C.seq (D.bq mix 9999 [0,1] [] (fun hQ hS ws M'=>?_))
 refine D.pq 2 (zl [0,1]) T ?_
 obtain⟨x107,y107,g⟩:=g
 refine D.q 2 [] hQ hS rfl (.none rfl) rfl rfl (by exact Rd.io T rfl rfl rfl rfl rfl rfl rfl y107) rfl (by kernel_rfl) ?_
 refine D.q 3 [] hQ hS rfl (.none rfl) rfl rfl (by exact Rd.le T rfl rfl rfl (Q9 y107).2.2 rfl rfl rfl) rfl (by kernel_rfl) ?_
 refine D.pq 3 (zl [4,5,6]) T ?_
 refine D.k 7 (Yg s_1 s90.2 x97.1 _ g) en33 fun x108 g=>?_
 refine D.pq 2 (zl [8,9]) T ?_
 refine D.done (by kernel_rfl) ?_
 refine C.xs (C.ss (U.pd 3 T (C.nx ?_)))
 refine C.jn (fun (x111:Int)=>[(1,.sl 1 eI blocked),(2,.i a),(3,.p 0 0),(7,.o 1),(8,.o 2),(10,.i s43.2.2),(11,.i x54),(13,.i s90.2),(14,.i x97.1),(16,.i x111)]) (fun x111=>[(0,.box (Q0 s_1)),(1,.val (.os 1 eI s90.1)),(2,.val (.os 1 eB (s43.2.1.set (Int.toNat x54) true)))]) 3 g (fun x111 g=>?_) fun J112 g j112=>?_
 refine C.xs ?_
 refine C.jn (fun (x117:Bool)=>[(1,.sl 1 eI blocked),(2,.i a),(3,.p 0 0),(7,.o 1),(8,.o 2),(10,.i s43.2.2),(11,.i x54),(13,.i s90.2),(14,.i x97.1),(16,.i x111),(154,.b x117)]) (fun x117=>[(0,.box (Q0 s_1)),(1,.val (.os 1 eI s90.1)),(2,.val (.os 1 eB (s43.2.1.set (Int.toNat x54) true)))]) 3 g (fun x117 g=>?_) fun J118 g j118=>?_
 refine C.nx ?_
 refine C.jn (fun (x121:List Int)=>[(1,.sl 1 eI blocked),(2,.i a),(3,.p 0 0),(7,.o 1),(8,.o 2),(10,.i s43.2.2),(11,.i x54),(13,.i s90.2)]) (fun x121=>[(0,.box (Q0 s_1)),(1,.val (.os 1 eI x121)),(2,.val (.os 1 eB (s43.2.1.set (Int.toNat x54) true)))]) 3 g (fun x121 g=>?_) fun J122 g j122=>?_
 exact St.wa (idR 3) (j103 _ g)
 refine C.ite rfl g (fun b123 g=>?_) fun b123 g=>?_
 refine U.start (U.ps 3 T rfl ?_)
 obtain⟨x126,y126,g⟩:=g
 refine U.r rfl (.none rfl) rfl rfl (by exact Rd.io T rfl rfl rfl rfl rfl rfl rfl y126) ?_
 refine U.e1 rfl (.none rfl) (by exact Eff1.se T (z':=x111) rfl rfl rfl (Q9 y126).2.2 rfl rfl rfl rfl rfl rfl rfl rfl (fun _=>rfl) rfl) ?_
 refine U.done ?_
 exact St.wa (idR 3) (j122 _ g)
 refine C.skip ?_
 exact St.wa (idR 3) (j122 _ g)
 refine U.start (U.ps 2 T rfl ?_)
 obtain⟨x119,y119,g⟩:=g
 refine U.r rfl (.none rfl) rfl rfl (by exact Rd.io T rfl rfl rfl rfl rfl rfl rfl y119) ?_
 refine U.r rfl (.none rfl) rfl rfl (by exact Rd.le T rfl rfl rfl (Q9 y119).2.2 rfl rfl rfl) ?_
 refine U.ps 2 T rfl ?_
 refine g.cs (fun b120 g=>?_) fun b120 g=>?_
 refine U.sk' 6 5 false 147 b120 ?_
 refine U.pk b120 ?_
 refine U.done ?_
 exact St.wa (idR 3) (j118 _ g)
 refine U.pq 3 5 false 147 b120 T ?_
 refine U.r rfl (.tk 5 false 147 b120) rfl rfl (by exact Rd.io T rfl rfl rfl rfl rfl rfl rfl y119) ?_
 refine U.r rfl (.tk 5 false 147 b120) rfl rfl (by exact Rd.le T rfl rfl rfl (Q9 y119).2.2 rfl rfl rfl) ?_
 refine U.pq 1 5 false 147 b120 T ?_
 refine U.pk' b120 ?_
 refine U.done ?_
 exact St.wa (idR 3) (j118 _ g)
 refine C.ite rfl g (fun b113 g=>?_) fun b113 g=>?_
 refine U.start (U.ps 3 T rfl (U.k (Xz s_1 x54 _ g) en30 (fun x116 g=>?_)))
 refine U.pd 2 T ?_
 exact St.wa (idR 3) (j112 _ g)
 refine C.skip ?_
 exact St.wa (idR 3) (j112 _ g)
 refine C.skip ?_
 exact St.wa (idR 3) (j103 _ g)
 refine U.start (U.ps 2 T rfl ?_)
 refine g.cs (fun b100 g=>?_) fun b100 g=>?_
 refine U.pq 2 1 true 119 b100 T ?_
 refine U.k (Xe blocked x97.1 _ g) en32 (fun x101 g=>?_) (hw:=.take 1 true 119 _ b100 rfl rfl rfl)
 refine U.pq 1 1 true 119 b100 T ?_
 refine U.pk b100 ?_
 refine U.done ?_
 exact St.wa (idR 3) (j99 _ g)
 refine U.sk' 4 1 true 119 b100 ?_
 refine U.pk' b100 ?_
 refine U.done ?_
 exact St.wa (idR 3) (j99 _ g)
 refine C.exit (C.ex (C.ex (C.bex ?_)))
 exact St.wa (idR 3) (j89 _ g)
 refine C.block (St.wk (C.loop (fun (s56:Int×Int)=>[(1,.sl 1 eI blocked),(2,.i a),(3,.p 0 0),(7,.o 1),(8,.o 2),(10,.i s43.2.2),(11,.i s56.1),(12,.i s56.2)]) (fun s56=>[(0,.box (Q0 s_1)),(1,.val (.os 1 eI s43.1)),(2,.val (.os 1 eB s43.2.1))]) g (fun s56 Y57 g=>?_)) (Wk.a (idR 3)))
 refine C.seq (C.ss (U.pd 4 T (C.nx ?_)))
 refine C.ite rfl g (fun b60 g=>?_) fun b60 g=>?_
 refine C.skip (C.xs (C.block (C.seq ?_)))
 refine C.jn (fun (x61:Bool)=>[(1,.sl 1 eI blocked),(2,.i a),(3,.p 0 0),(7,.o 1),(8,.o 2),(10,.i s43.2.2),(11,.i s56.1),(12,.i s56.2),(98,.b x61)]) (fun x61=>[(0,.box (Q0 s_1)),(1,.val (.os 1 eI s43.1)),(2,.val (.os 1 eB s43.2.1))]) 3 g (fun x61 g=>?_) fun J62 g j62=>?_
 refine C.nx ?_
 refine C.jn (fun (x71:Int)=>[(1,.sl 1 eI blocked),(2,.i a),(3,.p 0 0),(7,.o 1),(8,.o 2),(10,.i s43.2.2),(11,.i x71),(12,.i s56.2)]) (fun x71=>[(0,.box (Q0 s_1)),(1,.val (.os 1 eI s43.1)),(2,.val (.os 1 eB s43.2.1))]) 3 g (fun x71 g=>?_) fun J72 g j72=>?_
 refine C.bnx (C.nx (U.start (U.pd 3 T (C.nx ?_))))
 exact St.wk (C.next g) (Wk.a (idR 3))
 refine C.ite rfl g (fun b73 g=>?_) fun b73 g=>?_
 refine U.start (U.pd 2 T ?_)
 exact St.wa (idR 3) (j72 _ g)
 refine C.skip ?_
 exact St.wa (idR 3) (j72 _ g)
 refine D.bq mix 9999 [0,1,2] [] (fun hQ hS ws M'=>?_)
 refine D.pq 2 (zl [0,1]) T ?_
 obtain⟨x63,y63,g⟩:=g
 refine D.q 2 [] hQ hS rfl (.none rfl) rfl rfl (by exact Rd.io T rfl rfl rfl rfl rfl rfl rfl y63) rfl (by kernel_rfl) ?_
 refine D.q 3 [] hQ hS rfl (.none rfl) rfl rfl (by exact Rd.le T rfl rfl rfl (Q9 y63).2.2 rfl rfl rfl) rfl (by kernel_rfl) ?_
 refine D.pq 2 (zl [4,5]) T ?_
 refine g.cs (fun b64 g=>?_) fun b64 g=>?_
 refine D.pt 6 [] 5 true 67 b64 T ?_
 refine D.pt 7 [] 5 true 67 b64 T ?_
 obtain⟨x65,y65,g⟩:=g
 refine D.q 8 [] hQ hS rfl (.tk 5 true 67 b64) rfl rfl (by exact Rd.io T rfl rfl rfl rfl rfl rfl rfl y65) rfl (by kernel_rfl) ?_
 refine D.q 9 [] hQ hS rfl (.tk 5 true 67 b64) rfl rfl (by exact Rd.le T rfl rfl rfl (Q9 y65).2.2 rfl rfl rfl) rfl (by kernel_rfl) ?_
 refine D.pt 10 [] 5 true 67 b64 T ?_
 refine D.kt 11 [] b64 ?_
 refine D.pq 1 [(12,[])] T ?_
 refine g.cs (fun b66 g=>?_) fun b66 g=>?_
 refine D.sz 13 [] 12 true 74 (ntF b66) ?_
 refine D.sz 14 [] 12 true 74 (ntF b66) ?_
 refine D.sz 15 [] 12 true 74 (ntF b66) ?_
 refine D.sx 16 [] hQ hS (.und 15 false 77 rfl rfl rfl) ?_
 refine D.sx 17 [] hQ hS (.und 15 false 77 rfl rfl rfl) ?_
 refine D.sx 18 [] hQ hS (.und 15 false 77 rfl rfl rfl) ?_
 refine D.sx 19 [] hQ hS (.und 15 false 77 rfl rfl rfl) ?_
 refine D.sx 20 [] hQ hS (.und 15 false 77 rfl rfl rfl) ?_
 refine D.sx 21 [] hQ hS (.und 15 false 77 rfl rfl rfl) ?_
 refine D.sx 22 [] hQ hS (.und 15 false 77 rfl rfl rfl) ?_
 refine D.sx 23 [] hQ hS (.und 15 false 77 rfl rfl rfl) ?_
 refine D.sx 24 [] hQ hS (.und 15 false 77 rfl rfl rfl) ?_
 refine D.sx 25 [] hQ hS (.und 15 false 77 rfl rfl rfl) ?_
 refine D.sx 26 [] hQ hS (.und 15 false 77 rfl rfl rfl) ?_
 refine D.sx 27 [] hQ hS (.und 15 false 77 rfl rfl rfl) ?_
 refine D.sx 28 [] hQ hS (.und 15 false 77 rfl rfl rfl) ?_
 refine D.sx 29 [] hQ hS (.und 15 false 77 rfl rfl rfl) ?_
 refine D.sx 30 [] hQ hS (.und 15 false 77 rfl rfl rfl) ?_
 refine D.sx 31 [] hQ hS (.und 15 false 77 rfl rfl rfl) ?_
 refine D.sx 32 [] hQ hS (.und 15 false 77 rfl rfl rfl) ?_
 refine D.sx 33 [] hQ hS (.und 15 false 77 rfl rfl rfl) ?_
 refine D.sx 34 [] hQ hS (.und 15 false 77 rfl rfl rfl) ?_
 refine D.sz 35 [] 12 true 74 (ntF b66) ?_
 refine D.kf 36 [] (ntF b66) ?_
 refine D.done (by kernel_rfl) ?_
 exact St.wa (idR 3) (j62 _ g)
 refine D.pt 13 [] 12 true 74 (ntT b66) T ?_
 refine D.pt 14 [] 12 true 74 (ntT b66) T ?_
 refine D.pt 15 [] 12 true 74 (ntT b66) T ?_
 refine g.cs (fun b67 g=>?_) fun b67 g=>?_
 refine D.sz 16 [] 15 false 77 b67 ?_
 refine D.sz 17 [] 15 false 77 b67 ?_
 refine D.sz 18 [] 15 false 77 b67 ?_
 refine D.sz 19 [] 15 false 77 b67 ?_
 refine D.sz 20 [] 15 false 77 b67 ?_
 refine D.sz 21 [] 15 false 77 b67 ?_
 refine D.sz 22 [] 15 false 77 b67 ?_
 refine D.sz 23 [] 15 false 77 b67 ?_
 refine D.sz 24 [] 15 false 77 b67 ?_
 refine D.sz 25 [] 15 false 77 b67 ?_
 refine D.sz 26 [] 15 false 77 b67 ?_
 refine D.sz 27 [] 15 false 77 b67 ?_
 refine D.sz 28 [] 15 false 77 b67 ?_
 refine D.sz 29 [] 15 false 77 b67 ?_
 refine D.sz 30 [] 15 false 77 b67 ?_
 refine D.sz 31 [] 15 false 77 b67 ?_
 refine D.sz 32 [] 15 false 77 b67 ?_
 refine D.sz 33 [] 15 false 77 b67 ?_
 refine D.sz 34 [] 15 false 77 b67 ?_
 refine D.q 35 [] hQ hS rfl (.tk 12 true 74 (ntT b66)) rfl rfl (by exact Rd.pk rfl rfl b67 rfl) rfl (by kernel_rfl) ?_
 refine D.kt 36 [] (ntT b66) ?_
 refine D.done (by kernel_rfl) ?_
 exact St.wa (idR 3) (j62 _ g)
 refine D.pt 16 [] 15 false 77 b67 T ?_
 refine D.pt 17 [] 15 false 77 b67 T ?_
 refine D.q 18 [] hQ hS rfl (.tk 15 false 77 b67) rfl rfl (by exact Rd.io T rfl rfl rfl rfl rfl rfl rfl y63) rfl (by kernel_rfl) ?_
 refine D.q 19 [] hQ hS rfl (.tk 15 false 77 b67) rfl rfl (by exact Rd.le T rfl rfl rfl (Q9 y63).2.2 rfl rfl rfl) rfl (by kernel_rfl) ?_
 refine D.q 20 [] hQ hS rfl (.tk 15 false 77 b67) rfl rfl (by exact Rd.l T rfl rfl rfl) rfl (by kernel_rfl) ?_
 refine D.pt 21 [] 15 false 77 b67 T ?_
 refine D.pt 24 [] 15 false 77 b67 T ?_
 refine D.pt 25 [] 15 false 77 b67 T ?_
 refine D.pt 26 [] 15 false 77 b67 T ?_
 obtain⟨x68,y68,g⟩:=g
 refine D.q 27 [] hQ hS rfl (.tk 15 false 77 b67) rfl rfl (by exact Rd.io T rfl rfl rfl rfl rfl rfl rfl y68) rfl (by kernel_rfl) ?_
 refine D.q 28 [] hQ hS rfl (.tk 15 false 77 b67) rfl rfl (by exact Rd.le T rfl rfl rfl (Q9 y68).2.2 rfl rfl rfl) rfl (by kernel_rfl) ?_
 refine D.q 29 [] hQ hS rfl (.tk 15 false 77 b67) rfl rfl (by exact Rd.l T rfl rfl rfl) rfl (by kernel_rfl) ?_
 refine D.pt 30 [] 15 false 77 b67 T ?_
 refine D.pt 31 [] 15 false 77 b67 T ?_
 refine D.k 22 (Xz s_1 s56.2 _ g) en30 (fun x69 g=>?_) (hw:=.take 15 false 77 _ b67 rfl rfl rfl)
 refine D.pt 23 [] 15 false 77 b67 T ?_
 refine D.k 32 (Xz s_1 (imax s56.1 0) _ g) en30 (fun x70 g=>?_) (hw:=.take 15 false 77 _ b67 rfl rfl rfl)
 refine D.pt 33 [] 15 false 77 b67 T ?_
 refine D.pt 34 [] 15 false 77 b67 T ?_
 refine D.q 35 [] hQ hS rfl (.tk 12 true 74 (ntT b66)) rfl rfl (by exact Rd.pk' rfl rfl b67 rfl) rfl (by kernel_rfl) ?_
 refine D.kt 36 [] (ntT b66) ?_
 refine D.done (by kernel_rfl) ?_
 exact St.wa (idR 3) (j62 _ g)
 refine D.sz 6 [] 5 true 67 b64 ?_
 refine D.sz 7 [] 5 true 67 b64 ?_
 refine D.sz 8 [] 5 true 67 b64 ?_
 refine D.sz 9 [] 5 true 67 b64 ?_
 refine D.sz 10 [] 5 true 67 b64 ?_
 refine D.kf 11 [] b64 ?_
 refine D.pq 1 [(12,[])] T ?_
 refine D.sz 13 [] 12 true 74 rfl ?_
 refine D.sz 14 [] 12 true 74 rfl ?_
 refine D.sz 15 [] 12 true 74 rfl ?_
 refine D.sx 16 [] hQ hS (.und 15 false 77 rfl rfl rfl) ?_
 refine D.sx 17 [] hQ hS (.und 15 false 77 rfl rfl rfl) ?_
 refine D.sx 18 [] hQ hS (.und 15 false 77 rfl rfl rfl) ?_
 refine D.sx 19 [] hQ hS (.und 15 false 77 rfl rfl rfl) ?_
 refine D.sx 20 [] hQ hS (.und 15 false 77 rfl rfl rfl) ?_
 refine D.sx 21 [] hQ hS (.und 15 false 77 rfl rfl rfl) ?_
 refine D.sx 22 [] hQ hS (.und 15 false 77 rfl rfl rfl) ?_
 refine D.sx 23 [] hQ hS (.und 15 false 77 rfl rfl rfl) ?_
 refine D.sx 24 [] hQ hS (.und 15 false 77 rfl rfl rfl) ?_
 refine D.sx 25 [] hQ hS (.und 15 false 77 rfl rfl rfl) ?_
 refine D.sx 26 [] hQ hS (.und 15 false 77 rfl rfl rfl) ?_
 refine D.sx 27 [] hQ hS (.und 15 false 77 rfl rfl rfl) ?_
 refine D.sx 28 [] hQ hS (.und 15 false 77 rfl rfl rfl) ?_
 refine D.sx 29 [] hQ hS (.und 15 false 77 rfl rfl rfl) ?_
 refine D.sx 30 [] hQ hS (.und 15 false 77 rfl rfl rfl) ?_
 refine D.sx 31 [] hQ hS (.und 15 false 77 rfl rfl rfl) ?_
 refine D.sx 32 [] hQ hS (.und 15 false 77 rfl rfl rfl) ?_
 refine D.sx 33 [] hQ hS (.und 15 false 77 rfl rfl rfl) ?_
 refine D.sx 34 [] hQ hS (.und 15 false 77 rfl rfl rfl) ?_
 refine D.sz 35 [] 12 true 74 rfl ?_
 refine D.kf 36 [] rfl ?_
 refine D.done (by kernel_rfl) ?_
 exact St.wa (idR 3) (j62 _ g)
 refine C.exit (C.ex (C.ex (C.bex ?_)))
 exact St.wa (idR 3) (j55 _ g)
 refine C.exit (C.ex (C.ex (C.bex ?_)))
 exact St.wa [some 1] (j42 _ g)
 refine C.block (St.wk (C.loop (fun (s14:List Int×Int)=>[(1,.sl 1 eI blocked),(2,.i a),(3,.p 0 0),(7,.o 1),(8,.o 2),(9,.i s14.2)]) (fun s14=>[(0,.box (Q0 s_1)),(1,.val (.os 1 eI s14.1)),(2,.val (.os 1 eB (List.replicate (Int.toNat ((List.replicate (Int.toNat x5) (0:Int)).length:Int)) false)))]) g (fun s14 Y15 g=>?_)) (Wk.a (idR 3)))
 refine C.seq (C.ss (U.pd 4 T (C.nx ?_)))
 refine C.ite rfl g (fun b18 g=>?_) fun b18 g=>?_
 refine C.skip (C.xs (C.block (U.start (U.ps 2 T rfl ?_))))
 obtain⟨x21,y21,g⟩:=g
 refine U.r rfl (.none rfl) rfl rfl (by exact Rd.io T rfl rfl rfl rfl rfl rfl rfl y21) ?_
 refine U.e1 rfl (.none rfl) (by exact Eff1.se T (z':=(-1)) rfl rfl rfl (Q9 y21).2.2 rfl rfl rfl rfl rfl rfl rfl rfl (fun _=>rfl) rfl) ?_
 refine U.done (C.bnx (C.nx (U.start (U.pd 3 T (C.nx ?_)))))
 exact St.wk (C.next g) (Wk.a (idR 3))
 refine C.exit (C.ex (C.ex (C.bex ?_)))
 exact St.wa (idR 3) (j13 _ g)
theorem Yu (s_1:ApiSite) (blocked:List Int) (a:Int) (b:Int) (post:Int→Prop) (g:KD s_1 blocked a b post):
  Tr Tryz.prog 8 [.agg (Q0 s_1),.sl 1 eI blocked,.i a,.i b] [] 0 (pI post):=by
 refine Tr.go Tryz.func8 Tryz.ntmps8 fun _ _ _ _ o=>?_
 unfold KD at g
 refine C.ss (U.bx ?_)
 refine U.pd 1 T (C.xt ?_)
 refine U.ps 3 T rfl (U.k (Xs s_1 blocked a _ g) en11 (fun x5 g=>?_))
 refine U.pd 1 T (C.xs (C.ss ?_))
 refine U.ps 3 T rfl (U.k (QU s_1.Floor b _ g) en23 (fun x8 g=>?_))
 refine U.pd 1 T (C.nx ?_)
 refine C.ite rfl g (fun b9 g=>?_) fun b9 g=>?_
 refine C.ss (U.pd 1 T (C.nx (C.ret (C.rt ?_))))
 exact C.f1 T o (pIi g)
 refine C.skip (C.xt (U.ps 2 T rfl ?_))
 obtain⟨x14,y14,g⟩:=g
 refine U.r rfl (.none rfl) rfl rfl (by exact Rd.io T rfl rfl rfl rfl rfl rfl rfl y14) ?_
 refine U.r rfl (.none rfl) rfl rfl (by exact Rd.le T rfl rfl rfl (Q9 y14).2.2 rfl rfl rfl) ?_
 refine U.pd 1 T (C.nx (C.ret ?_))
 exact C.f1 T o (pIi g)
theorem Zy (st:ApiState) (post:(List Int)→Prop) (g:Xb st post):
  Tr Tryz.prog 34 [.agg (Q4 st)] [] 0 (fun A H' k=>∃y,post y∧A=(.o 0)∧H'=[(0,.val (.os 1 eI y))]∧k=1):=by
 refine Tr.go Tryz.func34 Tryz.ntmps34 fun _ _ _ _ o=>?_
 unfold Xb at g
 refine C.ss (U.bx ?_)
 refine U.pd 1 T (C.xt ?_)
 refine U.ps 2 T rfl (U.k (XE st.Dead _ g) en42 (fun x5 g=>?_))
 refine U.pd 1 T (C.xs (C.ss ?_))
 refine U.pd 4 T (C.nx ?_)
 refine C.jn (fun (x8:List Int)=>[(3,.o 0)]) (fun x8=>[(0,.val (.os 1 eI x8))]) 1 g (fun x8 g=>?_) fun J9 g j9=>?_
 refine C.xt (U.ps 1 T rfl (U.c [some 0] (Xh x8 _ g) en73 (fun x30 g=>?_)))
 refine U.done (C.xt (U.ps 1 T rfl (U.c [some 0] (X1 x30 _ g) en39 (fun x33 g=>?_))))
 refine U.pd 1 T (C.nx (C.ret ?_))
 exact C.g1 [some 3] T o ⟨x33,g,rfl,rfl,rfl⟩
 refine C.block (St.wk (C.loop (fun (s10:List Int×Int)=>[(3,.o 0),(10,.sl 6 QV st.Robots),(11,.i (st.Robots.length:Int)),(12,.i s10.2)]) (fun s10=>[(0,.val (.os 1 eI s10.1))]) g (fun s10 Y11 g=>?_)) (Wk.a [some 1]))
 refine C.ss (U.pd 1 T (C.xs ?_))
 refine C.ite rfl g (fun b14 g=>?_) fun b14 g=>?_
 refine C.skip (C.xs (C.block (C.ss ?_)))
 obtain⟨x17,y17,g⟩:=g
 refine U.ix T y17 ?_
 refine U.ps 1 T rfl (U.al T ?_)
 refine U.st T ?_
 refine U.done (C.xt (U.pd 2 T (C.nx ?_)))
 refine C.jn (fun (x20:List Int)=>[(3,.o 0),(10,.sl 6 QV st.Robots),(11,.i (st.Robots.length:Int)),(12,.i s10.2)]) (fun x20=>[(0,.val (.os 1 eI x20))]) 1 g (fun x20 g=>?_) fun J21 g j21=>?_
 refine C.bnx (C.nx (U.start (U.pd 2 T (C.nx ?_))))
 exact St.wk (C.next g) (Wk.a [some 0])
 refine C.ite rfl g (fun b22 g=>?_) fun b22 g=>?_
 refine U.start (U.ps 3 T rfl (U.bs T eI ([x17.Cell]:List Int) ?_))
 obtain⟨y25,g⟩:=g
 refine U.ap T y25 ?_
 refine U.pd 1 T ?_
 exact St.wa [some 3] (j21 _ g)
 refine C.skip ?_
 exact St.wa [some 0] (j21 _ g)
 refine C.exit (C.ex (C.ex (C.bex ?_)))
 exact St.wa [some 0] (j9 _ g)
theorem Q1p (s_1:ApiSite) (st:ApiState) (post:(List (List Int))→Prop) (g:Xv s_1 st post):
  Tr Tryz.prog 13 [.agg (Q0 s_1),.agg (Q4 st)] [] 0 (fun A H' k=>∃y,post y∧A=(.o 0)∧H'=[(0,.val (.os 1 eOeI y))]∧k=1):=by
 refine Tr.go Tryz.func13 Tryz.ntmps13 fun _ _ _ _ o=>?_
 unfold Xv at g
 refine C.ss (U.bx ?_)
 refine U.bx ?_
 refine U.pd 1 T (C.xt ?_)
 refine U.ps 3 T rfl ?_
 obtain⟨y5,g⟩:=g
 refine U.e1 rfl (.none rfl) (by exact Eff1.re (A':=.os 1 eOeI (List.replicate (Int.toNat (st.Robots.length:Int)) [])) (Eff1.mk T (enc:=fun _:Unit=>[vN]) (z0:=()) rfl rfl rfl rfl rfl rfl rfl rfl rfl rfl y5) (fun _ _ _ _ _ h=>(NlR.rep (.cons (.os _ _) .nil) _).on h)) ?_
 refine U.pd 1 T (C.xt ?_)
 refine U.ps 1 T rfl (U.k (Zy st _ g) en34 (fun x8 g=>?_))
 refine U.pd 1 T (C.xs (C.ss ?_))
 refine U.pd 4 T (C.nx ?_)
 refine C.jn (fun (x11:List (List Int))=>[(5,.o 0)]) (fun x11=>[(0,.val (.os 1 eOeI x11))]) 1 g (fun x11 g=>?_) fun J12 g j12=>?_
 refine C.xt (U.pd 2 T (C.nx (C.ret ?_)))
 exact C.g1 [some 0] T o ⟨x11,g,rfl,rfl,rfl⟩
 refine C.block (St.wk (C.loop (fun (s13:List (List Int)×Int)=>[(2,.p 0 0),(5,.o 1),(6,.o 2),(19,.sl 6 QV st.Robots),(20,.i (st.Robots.length:Int)),(21,.i s13.2)]) (fun s13=>[(0,.box (Q0 s_1)),(1,.val (.os 1 eOeI s13.1)),(2,.val (.os 1 eI x8))]) g (fun s13 Y14 g=>?_)) (Wk.a [some 0,some 2,some 3]))
 refine C.ss (U.pd 1 T (C.xs ?_))
 refine C.ite rfl g (fun b17 g=>?_) fun b17 g=>?_
 refine C.skip (C.xs ?_)
 refine C.jn (fun (x18:List (List Int))=>[(2,.p 0 0),(5,.o 1),(6,.o 2),(19,.sl 6 QV st.Robots),(20,.i (st.Robots.length:Int)),(21,.i s13.2)]) (fun x18=>[(0,.box (Q0 s_1)),(1,.val (.os 1 eOeI x18)),(2,.val (.os 1 eI x8))]) 3 g (fun x18 g=>?_) fun J19 g j19=>?_
 refine C.nx (U.start (U.pd 2 T (C.nx ?_)))
 exact St.wk (C.next g) (Wk.a (idR 3))
 refine C.block (C.ss (U.ps 1 T rfl ?_))
 obtain⟨x22,y22,g⟩:=g
 refine U.ix T y22 ?_
 refine U.ps 1 T rfl (U.al T ?_)
 refine U.ps 1 T rfl (U.st T ?_)
 refine U.done (C.xs (C.ss (U.pd 2 T (C.nx ?_))))
 refine C.ite rfl g (fun b25 g=>?_) fun b25 g=>?_
 refine C.exit (C.ex (C.bex ?_))
 exact St.wa (idR 3) (j19 _ g)
 refine C.skip (C.xs (D.bq mix 9999 [3] [] (fun hQ hS ws M'=>?_)))
 refine D.pq 7 (zl [0,1,2,3,4,5,6]) T ?_
 refine D.k 7 (Ws _ g) en35 fun x28 g=>?_
 refine D.pq 3 (zl [8,9,10]) T ?_
 refine D.done (by kernel_rfl) ?_
 refine C.xt (U.ps 4 T rfl (U.k (Wq s_1 x8 x22.Cell _ g) en10 (fun x31 g=>?_)))
 refine U.pd 2 T (C.nx ?_)
 refine C.jn (fun (x32:List (List Int))=>[(2,.p 0 0),(5,.o 1),(6,.o 2),(19,.sl 6 QV st.Robots),(20,.i (st.Robots.length:Int)),(21,.i s13.2)]) (fun x32=>[(0,.box (Q0 s_1)),(1,.val (.os 1 eOeI x32)),(2,.val (.os 1 eI x8))]) 3 g (fun x32 g=>?_) fun J33 g j33=>?_
 refine C.bnx ?_
 exact St.wa (idR 3) (j19 _ g)
 refine C.block ?_
 refine St.wk (C.loop (fun (s34:List (List Int)×Int)=>[(2,.p 0 0),(5,.o 1),(6,.o 2),(7,.i s13.2),(9,.i (w64 (x22.Charge-(w64 ((w64 (x22.Rest+x22.Mute))*x28))))),(19,.sl 6 QV st.Robots),(20,.i (st.Robots.length:Int)),(21,.i s13.2),(42,.o 3),(43,.i (x31.length:Int)),(44,.i s34.2)]) (fun s34=>[(0,.box (Q0 s_1)),(1,.val (.os 1 eOeI s34.1)),(2,.val (.os 1 eI x8)),(3,.val (.os 1 eI x31))]) g (fun s34 Y35 g=>?_)) (Wk.a [some 0,some 1,some 2,some 4])
 refine C.ss (U.pd 1 T (C.xs ?_))
 refine C.ite rfl g (fun b38 g=>?_) fun b38 g=>?_
 refine C.skip (C.xs (C.block (C.ss (U.ps 1 T rfl ?_))))
 obtain⟨x41,y41,g⟩:=g
 refine U.r rfl (.none rfl) rfl rfl (by exact Rd.io T rfl rfl rfl rfl rfl rfl rfl y41) ?_
 refine U.r rfl (.none rfl) rfl rfl (by exact Rd.le T rfl rfl rfl (Q9 y41).2.2 rfl rfl rfl) ?_
 refine U.pd 2 T (C.xs ?_)
 refine C.jn (fun (x42:Bool)=>[(2,.p 0 0),(5,.o 1),(6,.o 2),(7,.i s13.2),(9,.i (w64 (x22.Charge-(w64 ((w64 (x22.Rest+x22.Mute))*x28))))),(10,.i s34.2),(19,.sl 6 QV st.Robots),(20,.i (st.Robots.length:Int)),(21,.i s13.2),(42,.o 3),(43,.i (x31.length:Int)),(44,.i s34.2),(64,.b x42)]) (fun x42=>[(0,.box (Q0 s_1)),(1,.val (.os 1 eOeI s34.1)),(2,.val (.os 1 eI x8)),(3,.val (.os 1 eI x31))]) 4 g (fun x42 g=>?_) fun J43 g j43=>?_
 refine C.nx ?_
 refine C.jn (fun (x47:List (List Int))=>[(2,.p 0 0),(5,.o 1),(6,.o 2),(7,.i s13.2),(9,.i (w64 (x22.Charge-(w64 ((w64 (x22.Rest+x22.Mute))*x28))))),(19,.sl 6 QV st.Robots),(20,.i (st.Robots.length:Int)),(21,.i s13.2),(42,.o 3),(43,.i (x31.length:Int)),(44,.i s34.2)]) (fun x47=>[(0,.box (Q0 s_1)),(1,.val (.os 1 eOeI x47)),(2,.val (.os 1 eI x8)),(3,.val (.os 1 eI x31))]) 4 g (fun x47 g=>?_) fun J48 g j48=>?_
 refine C.bnx (C.nx (U.start (U.pd 2 T (C.nx ?_))))
 exact St.wk (C.next g) (Wk.a (idR 4))
 refine C.ite rfl g (fun b49 g=>?_) fun b49 g=>?_
 refine U.start (U.ps 4 T rfl ?_)
 obtain⟨x52,y52,g⟩:=g
 refine U.r rfl (.none rfl) rfl rfl (by exact Rd.io T rfl rfl rfl rfl rfl rfl rfl y52) ?_
 refine St.lend (l:=1) (i:=(Int.toNat s13.2)) rfl (Q9 y52).2.2 rfl (fun _=>rfl) ?_
 refine U.r rfl (.none rfl) rfl rfl (by exact Rd.ll T rfl rfl rfl (.head _) rfl rfl rfl rfl) ?_
 refine U.ps 1 T rfl (U.bs T eI ([s34.2]:List Int) ?_)
 obtain⟨y53,g⟩:=g
 refine U.ap T y53 ?_
 refine U.r rfl (.none rfl) rfl rfl (by exact Rd.il T rfl rfl rfl rfl rfl rfl rfl y52) ?_
 refine U.e1 rfl (.none rfl) (by exact Eff1.sl T rfl rfl rfl (fun _ h=>nomatch h) rfl rfl rfl rfl) ?_
 refine U.done (St.putb (l:=1) (l':=6) (y:=(x52++([s34.2]:List Int))) rfl rfl rfl (fun _ h=>nomatch h) rfl _ rfl ?_)
 exact St.wa (idR 4) (j48 _ g)
 refine C.skip ?_
 exact St.wa (idR 4) (j48 _ g)
 refine U.start (U.ps 4 T rfl ?_)
 obtain⟨x44,y44,g⟩:=g
 refine U.ix T y44 ?_
 refine U.ps 3 T rfl ?_
 refine g.cs (fun b45 g=>?_) fun b45 g=>?_
 refine U.pq 2 7 true 56 b45 T ?_
 refine U.pk b45 ?_
 refine U.ps 1 T rfl ?_
 refine g.cs (fun b46 g=>?_) fun b46 g=>?_
 refine U.pq 3 11 true 60 b46 T ?_
 refine U.pk b46 ?_
 refine U.done ?_
 exact St.wa (idR 4) (j43 _ g)
 refine U.sk' 3 11 true 60 b46 ?_
 refine U.pk' b46 ?_
 refine U.done ?_
 exact St.wa (idR 4) (j43 _ g)
 refine U.sk' 2 7 true 56 b45 ?_
 refine U.pk' b45 ?_
 refine U.ps 1 T rfl (U.sk' 3 11 true 60 rfl ?_)
 refine U.pk' rfl ?_
 refine U.done ?_
 exact St.wa (idR 4) (j43 _ g)
 refine C.exit (C.ex (C.ex (C.bex ?_)))
 exact St.wa (idR 3) (j33 _ g)
 refine C.exit (C.ex (C.ex (C.bex ?_)))
 exact St.wa [some 1] (j12 _ g)
theorem Wn (st:ApiState) (post:(List Int)→Prop) (g:K7 st post):
  Tr Tryz.prog 36 [.agg (Q4 st)] [] 0 (fun A H' k=>∃y,post y∧A=(.o 0)∧H'=[(0,.val (.os 1 eI y))]∧k=1):=by
 refine Tr.go Tryz.func36 Tryz.ntmps36 fun _ _ _ _ o=>?_
 unfold K7 at g
 refine C.ss (U.bx ?_)
 refine U.pd 1 T (C.xt ?_)
 refine U.bs T eI ([]:List Int) ?_
 refine U.ps 2 T rfl ?_
 obtain⟨y5,g⟩:=g
 refine U.ap T y5 ?_
 refine U.pd 1 T (C.xs (C.ss ?_))
 refine U.pd 1 T (C.nx ?_)
 refine C.jn (fun (x8:List Int)=>[(3,.o 0)]) (fun x8=>[(0,.val (.os 1 eI x8))]) 1 g (fun x8 g=>?_) fun J9 g j9=>?_
 refine C.xt (U.pd 1 T (C.xs ?_))
 refine C.jn (fun (x28:List Int)=>[(5,.o 0)]) (fun x28=>[(0,.val (.os 1 eI x28))]) 1 g (fun x28 g=>?_) fun J29 g j29=>?_
 refine C.xt (U.pd 2 T (C.nx (C.ret ?_)))
 exact C.g1 [some 0] T o ⟨x28,g,rfl,rfl,rfl⟩
 refine C.block (St.wk (C.loop (fun (s30:List Int×List Int)=>[(3,.o 0),(5,.o 1)]) (fun s30=>[(0,.val (.os 1 eI s30.1)),(1,.val (.os 1 eI s30.2))]) g (fun s30 Y31 g=>?_)) (Wk.mk' [some 0,none] rfl rfl ⟨⟨_,rfl,(.eq rfl)⟩,⟨_,rfl,(.nilO _ _ ⟨rfl,rfl⟩ rfl)⟩,trivial⟩ ⟨vL,⟨_,rfl,.nil _ _⟩,trivial⟩ rfl))
 refine C.seq (C.ss (U.pd 3 T (C.nx ?_)))
 refine C.ite rfl g (fun b34 g=>?_) fun b34 g=>?_
 refine C.skip (C.nx ?_)
 refine C.jn (fun (x35:List Int×List Int)=>[(3,.o 0),(5,.o 1)]) (fun x35=>[(0,.val (.os 1 eI x35.1)),(1,.val (.os 1 eI x35.2))]) 2 g (fun x35 g=>?_) fun J36 g j36=>?_
 refine C.nx ?_
 exact St.wk (C.next g) (Wk.a (idR 2))
 refine C.block (C.ss (U.ps 1 T rfl ?_))
 obtain⟨x39,y39,g⟩:=g
 refine U.r rfl (.none rfl) rfl rfl (by exact Rd.io T rfl rfl rfl rfl rfl rfl rfl y39) ?_
 refine U.r rfl (.none rfl) rfl rfl (by exact Rd.le T rfl rfl rfl (Q9 y39).2.2 rfl rfl rfl) ?_
 refine U.pd 1 T (C.xs (C.ss ?_))
 refine U.pd 1 T (C.nx ?_)
 refine C.jn (fun (x42:Int)=>[(3,.o 0),(5,.o 1),(6,.i x42)]) (fun x42=>[(0,.val (.os 1 eI s30.1)),(1,.val (.os 1 eI s30.2))]) 2 g (fun x42 g=>?_) fun J43 g j43=>?_
 refine C.xt (U.ps 2 T rfl (U.bs T eI ([x42]:List Int) ?_))
 obtain⟨y56,g⟩:=g
 refine U.ap T y56 ?_
 refine U.pd 1 T (C.xt ?_)
 refine U.pd 1 T (C.xs (C.ss ?_))
 refine U.pd 1 T (C.nx ?_)
 refine C.jn (fun (x61:List Int)=>[(5,.o 0),(8,.o 1)]) (fun x61=>[(0,.val (.os 1 eI (s30.2++([x42]:List Int)))),(1,.val (.os 1 eI x61))]) 2 g (fun x61 g=>?_) fun J62 g j62=>?_
 refine C.nx (U.start (U.pd 2 T (C.bnx ?_)))
 exact St.wa [some 1,some 0] (j36 _ g)
 refine C.block ?_
 refine St.wk (C.loop (fun (s63:List Int×Int)=>[(3,.o 0),(5,.o 1),(6,.i x42),(8,.o 2),(9,.i s63.2)]) (fun s63=>[(0,.val (.os 1 eI s30.1)),(1,.val (.os 1 eI (s30.2++([x42]:List Int)))),(2,.val (.os 1 eI s63.1))]) g (fun s63 Y64 g=>?_)) (Wk.mk' [some 0,some 3,none] rfl rfl ⟨⟨_,rfl,(.eq rfl)⟩,⟨_,rfl,(.eq rfl)⟩,⟨_,rfl,(.eq rfl)⟩,⟨_,rfl,(.nilO _ _ ⟨rfl,rfl⟩ rfl)⟩,ChkG.eqs rfl⟩ ⟨vL,vL,⟨_,rfl,.nil _ _⟩,trivial⟩ rfl)
 refine C.seq (C.ss (U.pd 4 T (C.nx ?_)))
 refine C.ite rfl g (fun b67 g=>?_) fun b67 g=>?_
 refine C.skip (C.xs (C.block (C.ss (U.ps 2 T rfl ?_))))
 obtain⟨x70,y70,g⟩:=g
 refine U.r rfl (.none rfl) rfl rfl (by exact Rd.io T rfl rfl rfl rfl rfl rfl rfl y70) ?_
 refine U.r rfl (.none rfl) rfl rfl (by exact Rd.le T rfl rfl rfl (Q9 y70).2.2 rfl rfl rfl) ?_
 refine U.pd 2 T (C.nx ?_)
 refine C.jn (fun (x71:List Int)=>[(3,.o 0),(5,.o 1),(6,.i x42),(8,.o 2),(9,.i s63.2)]) (fun x71=>[(0,.val (.os 1 eI s30.1)),(1,.val (.os 1 eI (s30.2++([x42]:List Int)))),(2,.val (.os 1 eI x71))]) 3 g (fun x71 g=>?_) fun J72 g j72=>?_
 refine C.bnx (C.nx (U.start (U.pd 3 T (C.nx ?_))))
 exact St.wk (C.next g) (Wk.a (idR 3))
 refine C.ite rfl g (fun b73 g=>?_) fun b73 g=>?_
 refine U.start (U.ps 3 T rfl (U.r rfl (.none rfl) rfl rfl (by exact Rd.io T rfl rfl rfl rfl rfl rfl rfl y70) ?_))
 refine U.r rfl (.none rfl) rfl rfl (by exact Rd.le T rfl rfl rfl (Q9 y70).2.2 rfl rfl rfl) ?_
 refine U.bs T eI ([x70]:List Int) ?_
 obtain⟨y76,g⟩:=g
 refine U.ap T y76 ?_
 refine U.pd 1 T ?_
 exact St.wa [some 0,some 1,some 4] (j72 _ g)
 refine C.skip ?_
 exact St.wa (idR 3) (j72 _ g)
 refine C.exit (C.ex (C.ex (C.bex ?_)))
 exact St.wa (sqR 1 2) (j62 _ g)
 refine C.block (St.wk (C.loop (fun (s44:Int×Int)=>[(3,.o 0),(5,.o 1),(6,.i s44.1),(7,.i s44.2)]) (fun s44=>[(0,.val (.os 1 eI s30.1)),(1,.val (.os 1 eI s30.2))]) g (fun s44 Y45 g=>?_)) (Wk.a (idR 2)))
 refine C.seq (C.ss (U.pd 4 T (C.nx ?_)))
 refine C.ite rfl g (fun b48 g=>?_) fun b48 g=>?_
 refine C.skip (C.xs (C.block (U.start (U.ps 3 T rfl ?_))))
 obtain⟨x51,y51,g⟩:=g
 refine U.r rfl (.none rfl) rfl rfl (by exact Rd.io T rfl rfl rfl rfl rfl rfl rfl y51) ?_
 refine U.r rfl (.none rfl) rfl rfl (by exact Rd.le T rfl rfl rfl (Q9 y51).2.2 rfl rfl rfl) ?_
 refine U.pd 2 T (C.bnx (C.nx (U.start ?_)))
 refine U.pd 3 T (C.nx ?_)
 exact St.wk (C.next g) (Wk.a (idR 2))
 refine C.exit (C.ex (C.ex (C.bex ?_)))
 exact St.wa (idR 2) (j43 _ g)
 refine C.exit (C.ex (C.ex (C.bex ?_)))
 exact St.wa [some 1] (j29 _ g)
 refine C.block (St.wk (C.loop (fun (s10:List Int×Int)=>[(1,.p 0 0),(3,.o 1),(4,.i s10.2)]) (fun s10=>[(0,.box (Q4 st)),(1,.val (.os 1 eI s10.1))]) g (fun s10 Y11 g=>?_)) (Wk.a [some 0,some 2]))
 refine C.seq (C.ss (U.pd 5 T (C.nx ?_)))
 refine C.ite rfl g (fun b14 g=>?_) fun b14 g=>?_
 refine C.skip (C.xs (C.block (C.ss (U.ps 3 T rfl ?_))))
 obtain⟨x17,y17,g⟩:=g
 refine U.ix T y17 ?_
 refine U.pd 2 T (C.nx ?_)
 refine C.jn (fun (x18:List Int)=>[(1,.p 0 0),(3,.o 1),(4,.i s10.2)]) (fun x18=>[(0,.box (Q4 st)),(1,.val (.os 1 eI x18))]) 2 g (fun x18 g=>?_) fun J19 g j19=>?_
 refine C.bnx (C.nx (U.start (U.pd 3 T (C.nx ?_))))
 exact St.wk (C.next g) (Wk.a (idR 2))
 refine C.ite rfl g (fun b20 g=>?_) fun b20 g=>?_
 refine U.start (U.ps 4 T rfl (U.ix T y17 ?_))
 refine U.ps 2 T rfl (U.bs T eI ([x17.Cell]:List Int) ?_)
 obtain⟨y23,g⟩:=g
 refine U.ap T y23 ?_
 refine U.pd 1 T ?_
 exact St.wa [some 0,some 3] (j19 _ g)
 refine C.skip ?_
 exact St.wa (idR 2) (j19 _ g)
 refine C.exit (C.ex (C.ex (C.bex ?_)))
 exact St.wa [some 1] (j9 _ g)
theorem WR (s_1:ApiSite) (st:ApiState) (post:(List (List Int))→Prop) (g:K2 s_1 st post):
  Tr Tryz.prog 14 [.agg (Q0 s_1),.agg (Q4 st)] [] 0 (fun A H' k=>∃y,post y∧A=(.o 0)∧H'=[(0,.val (.os 1 eOeI y))]∧k=1):=by
 refine Tr.go Tryz.func14 Tryz.ntmps14 fun _ _ _ _ o=>?_
 unfold K2 at g
 refine C.ss (U.bx ?_)
 refine U.bx ?_
 refine U.pd 1 T (C.xt ?_)
 refine U.ps 3 T rfl ?_
 obtain⟨y5,g⟩:=g
 refine U.e1 rfl (.none rfl) (by exact Eff1.re (A':=.os 1 eOeI (List.replicate (Int.toNat (st.Robots.length:Int)) [])) (Eff1.mk T (enc:=fun _:Unit=>[vN]) (z0:=()) rfl rfl rfl rfl rfl rfl rfl rfl rfl rfl y5) (fun _ _ _ _ _ h=>(NlR.rep (.cons (.os _ _) .nil) _).on h)) ?_
 refine U.pd 1 T (C.xt ?_)
 refine U.ps 1 T rfl (U.k (Wn st _ g) en36 (fun x8 g=>?_))
 refine U.pd 1 T (C.xs (C.ss ?_))
 refine U.pd 1 T (C.nx ?_)
 refine C.jn (fun (x11:List (List Int))=>[(5,.o 0)]) (fun x11=>[(0,.val (.os 1 eOeI x11))]) 1 g (fun x11 g=>?_) fun J12 g j12=>?_
 refine C.xt (U.pd 2 T (C.nx (C.ret ?_)))
 exact C.g1 [some 0] T o ⟨x11,g,rfl,rfl,rfl⟩
 refine C.block (St.wk (C.loop (fun (s13:List (List Int)×Int)=>[(2,.p 0 0),(3,.p 1 0),(5,.o 2),(6,.o 3),(7,.i s13.2)]) (fun s13=>[(0,.box (Q0 s_1)),(1,.box (Q4 st)),(2,.val (.os 1 eOeI s13.1)),(3,.val (.os 1 eI x8))]) g (fun s13 Y14 g=>?_)) (Wk.a (idR 4)))
 refine C.seq (C.ss (U.pd 5 T (C.nx ?_)))
 refine C.ite rfl g (fun b17 g=>?_) fun b17 g=>?_
 refine C.skip (C.xs ?_)
 refine C.jn (fun (x18:List (List Int))=>[(2,.p 0 0),(3,.p 1 0),(5,.o 2),(6,.o 3),(7,.i s13.2)]) (fun x18=>[(0,.box (Q0 s_1)),(1,.box (Q4 st)),(2,.val (.os 1 eOeI x18)),(3,.val (.os 1 eI x8))]) 4 g (fun x18 g=>?_) fun J19 g j19=>?_
 refine C.nx (U.start (U.pd 3 T (C.nx ?_)))
 exact St.wk (C.next g) (Wk.a (idR 4))
 refine C.block (C.ss (U.ps 3 T rfl ?_))
 obtain⟨x22,y22,g⟩:=g
 refine U.ix T y22 ?_
 refine U.ps 1 T rfl (U.al T ?_)
 refine U.st T ?_
 refine U.done (C.xt (U.ps 4 T rfl (U.k (Xs s_1 x8 x22.Cell _ g) en11 (fun x25 g=>?_))))
 refine U.pd 1 T (C.xt ?_)
 refine U.pd 1 T (C.nx ?_)
 refine C.jn (fun (x28:List (List Int))=>[(2,.p 0 0),(3,.p 1 0),(5,.o 2),(6,.o 3),(7,.i s13.2)]) (fun x28=>[(0,.box (Q0 s_1)),(1,.box (Q4 st)),(2,.val (.os 1 eOeI x28)),(3,.val (.os 1 eI x8))]) 4 g (fun x28 g=>?_) fun J29 g j29=>?_
 refine C.bnx ?_
 exact St.wa (idR 4) (j19 _ g)
 refine C.block ?_
 refine St.wk (C.loop (fun (s30:List (List Int)×Int)=>[(2,.p 0 0),(3,.p 1 0),(5,.o 2),(6,.o 3),(7,.i s13.2),(8,.p 4 0),(9,.o 5),(10,.i s30.2)]) (fun s30=>[(0,.box (Q0 s_1)),(1,.box (Q4 st)),(2,.val (.os 1 eOeI s30.1)),(3,.val (.os 1 eI x8)),(4,.box (QV x22)),(5,.val (.os 1 eI x25))]) g (fun s30 Y31 g=>?_)) (Wk.a (idR 6))
 refine C.seq (C.seq ?_)
 refine C.jn (fun (x32:Bool)=>[(2,.p 0 0),(3,.p 1 0),(5,.o 2),(6,.o 3),(7,.i s13.2),(8,.p 4 0),(9,.o 5),(10,.i s30.2),(42,.b x32)]) (fun x32=>[(0,.box (Q0 s_1)),(1,.box (Q4 st)),(2,.val (.os 1 eOeI s30.1)),(3,.val (.os 1 eI x8)),(4,.box (QV x22)),(5,.val (.os 1 eI x25))]) 6 g (fun x32 g=>?_) fun J33 g j33=>?_
 refine C.nx ?_
 refine C.ite rfl g (fun b35 g=>?_) fun b35 g=>?_
 refine C.skip (C.xs (C.block (C.seq ?_)))
 refine C.jn (fun (x36:Bool)=>[(2,.p 0 0),(3,.p 1 0),(5,.o 2),(6,.o 3),(7,.i s13.2),(8,.p 4 0),(9,.o 5),(10,.i s30.2),(75,.b x36)]) (fun x36=>[(0,.box (Q0 s_1)),(1,.box (Q4 st)),(2,.val (.os 1 eOeI s30.1)),(3,.val (.os 1 eI x8)),(4,.box (QV x22)),(5,.val (.os 1 eI x25))]) 6 g (fun x36 g=>?_) fun J37 g j37=>?_
 refine C.nx ?_
 refine C.jn (fun (x43:List (List Int))=>[(2,.p 0 0),(3,.p 1 0),(5,.o 2),(6,.o 3),(7,.i s13.2),(8,.p 4 0),(9,.o 5),(10,.i s30.2)]) (fun x43=>[(0,.box (Q0 s_1)),(1,.box (Q4 st)),(2,.val (.os 1 eOeI x43)),(3,.val (.os 1 eI x8)),(4,.box (QV x22)),(5,.val (.os 1 eI x25))]) 6 g (fun x43 g=>?_) fun J44 g j44=>?_
 refine C.bnx (C.nx (U.start (U.pd 3 T (C.nx ?_))))
 exact St.wk (C.next g) (Wk.a (idR 6))
 refine C.ite rfl g (fun b45 g=>?_) fun b45 g=>?_
 refine U.start (U.ps 4 T rfl ?_)
 obtain⟨x48,y48,g⟩:=g
 refine U.r rfl (.none rfl) rfl rfl (by exact Rd.io T rfl rfl rfl rfl rfl rfl rfl y48) ?_
 refine St.lend (l:=2) (i:=(Int.toNat s13.2)) rfl (Q9 y48).2.2 rfl (fun _=>rfl) ?_
 refine U.r rfl (.none rfl) rfl rfl (by exact Rd.ll T rfl rfl rfl (.head _) rfl rfl rfl rfl) ?_
 refine U.ps 1 T rfl (U.bs T eI ([s30.2]:List Int) ?_)
 obtain⟨y49,g⟩:=g
 refine U.ap T y49 ?_
 refine U.r rfl (.none rfl) rfl rfl (by exact Rd.il T rfl rfl rfl rfl rfl rfl rfl y48) ?_
 refine U.e1 rfl (.none rfl) (by exact Eff1.sl T rfl rfl rfl (fun _ h=>nomatch h) rfl rfl rfl rfl) ?_
 refine U.done (St.putb (l:=2) (l':=8) (y:=(x48++([s30.2]:List Int))) rfl rfl rfl (fun _ h=>nomatch h) rfl _ rfl ?_)
 exact St.wa (idR 6) (j44 _ g)
 refine C.skip ?_
 exact St.wa (idR 6) (j44 _ g)
 refine D.bq mix 9999 [0,4,5] [] (fun hQ hS ws M'=>?_)
 refine D.pq 4 (zl [0,1,2,3]) T ?_
 obtain⟨x38,y38,g⟩:=g
 refine D.ix 4 [] T y38 ?_
 refine D.pq 3 (zl [5,6,7]) T ?_
 refine g.cs (fun b39 g=>?_) fun b39 g=>?_
 refine D.pt 8 [] 7 true 52 b39 T ?_
 refine D.pt 9 [] 7 true 52 b39 T ?_
 obtain⟨x40,y40,g⟩:=g
 refine D.q 10 [] hQ hS rfl (.tk 7 true 52 b39) rfl rfl (by exact Rd.io T rfl rfl rfl rfl rfl rfl rfl y40) rfl (by kernel_rfl) ?_
 refine D.q 11 [] hQ hS rfl (.tk 7 true 52 b39) rfl rfl (by exact Rd.le T rfl rfl rfl (Q9 y40).2.2 rfl rfl rfl) rfl (by kernel_rfl) ?_
 refine D.pt 12 [] 7 true 52 b39 T ?_
 refine D.kt 13 [] b39 ?_
 refine D.pq 1 [(14,[])] T ?_
 refine g.cs (fun b41 g=>?_) fun b41 g=>?_
 refine D.pt 15 [] 14 true 59 b41 T ?_
 refine D.q 16 [] hQ hS rfl (.tk 14 true 59 b41) rfl rfl (by exact Rd.l T rfl rfl rfl) rfl (by kernel_rfl) ?_
 refine D.pt 17 [] 14 true 59 b41 T ?_
 refine D.pt 18 [] 14 true 59 b41 T ?_
 refine D.q 19 [] hQ hS rfl (.tk 14 true 59 b41) rfl rfl (by exact Rd.io T rfl rfl rfl rfl rfl rfl rfl y40) rfl (by kernel_rfl) ?_
 refine D.q 20 [] hQ hS rfl (.tk 14 true 59 b41) rfl rfl (by exact Rd.le T rfl rfl rfl (Q9 y40).2.2 rfl rfl rfl) rfl (by kernel_rfl) ?_
 refine D.pt 21 [] 14 true 59 b41 T ?_
 refine D.q 22 [] hQ hS rfl (.tk 14 true 59 b41) rfl rfl (by exact Rd.l T rfl rfl rfl) rfl (by kernel_rfl) ?_
 refine D.pt 23 [] 14 true 59 b41 T ?_
 refine D.q 24 [] hQ hS rfl (.tk 14 true 59 b41) rfl rfl (by exact Rd.l T rfl rfl rfl) rfl (by kernel_rfl) ?_
 refine D.pt 25 [] 14 true 59 b41 T ?_
 refine D.k 26 (Xw _ g) en37 (fun x42 g=>?_) (hw:=.take 14 true 59 _ b41 rfl rfl rfl)
 refine D.pt 27 [] 14 true 59 b41 T ?_
 refine D.pt 28 [] 14 true 59 b41 T ?_
 refine D.pt 29 [] 14 true 59 b41 T ?_
 refine D.kt 30 [] b41 ?_
 refine D.done (by kernel_rfl) ?_
 exact St.wa (idR 6) (j37 _ g)
 refine D.sz 15 [] 14 true 59 b41 ?_
 refine D.sz 16 [] 14 true 59 b41 ?_
 refine D.sz 17 [] 14 true 59 b41 ?_
 refine D.sz 18 [] 14 true 59 b41 ?_
 refine D.sz 19 [] 14 true 59 b41 ?_
 refine D.sz 20 [] 14 true 59 b41 ?_
 refine D.sz 21 [] 14 true 59 b41 ?_
 refine D.sz 22 [] 14 true 59 b41 ?_
 refine D.sz 23 [] 14 true 59 b41 ?_
 refine D.sz 24 [] 14 true 59 b41 ?_
 refine D.sz 25 [] 14 true 59 b41 ?_
 refine D.sz 26 [] 14 true 59 b41 ?_
 refine D.sz 27 [] 14 true 59 b41 ?_
 refine D.sz 28 [] 14 true 59 b41 ?_
 refine D.sz 29 [] 14 true 59 b41 ?_
 refine D.kf 30 [] b41 ?_
 refine D.done (by kernel_rfl) ?_
 exact St.wa (idR 6) (j37 _ g)
 refine D.sz 8 [] 7 true 52 b39 ?_
 refine D.sz 9 [] 7 true 52 b39 ?_
 refine D.sz 10 [] 7 true 52 b39 ?_
 refine D.sz 11 [] 7 true 52 b39 ?_
 refine D.sz 12 [] 7 true 52 b39 ?_
 refine D.kf 13 [] b39 ?_
 refine D.pq 1 [(14,[])] T ?_
 refine D.sz 15 [] 14 true 59 rfl ?_
 refine D.sz 16 [] 14 true 59 rfl ?_
 refine D.sz 17 [] 14 true 59 rfl ?_
 refine D.sz 18 [] 14 true 59 rfl ?_
 refine D.sz 19 [] 14 true 59 rfl ?_
 refine D.sz 20 [] 14 true 59 rfl ?_
 refine D.sz 21 [] 14 true 59 rfl ?_
 refine D.sz 22 [] 14 true 59 rfl ?_
 refine D.sz 23 [] 14 true 59 rfl ?_
 refine D.sz 24 [] 14 true 59 rfl ?_
 refine D.sz 25 [] 14 true 59 rfl ?_
 refine D.sz 26 [] 14 true 59 rfl ?_
 refine D.sz 27 [] 14 true 59 rfl ?_
 refine D.sz 28 [] 14 true 59 rfl ?_
 refine D.sz 29 [] 14 true 59 rfl ?_
 refine D.kf 30 [] rfl ?_
 refine D.done (by kernel_rfl) ?_
 exact St.wa (idR 6) (j37 _ g)
 refine C.exit (C.ex (C.ex (C.bex ?_)))
 exact St.wa (idR 4) (j29 _ g)
 refine U.start (U.ps 5 T rfl ?_)
 refine g.cs (fun b34 g=>?_) fun b34 g=>?_
 refine U.pq 3 4 true 38 b34 T ?_
 refine U.pk b34 ?_
 refine U.done ?_
 exact St.wa (idR 6) (j33 _ g)
 refine U.sk' 3 4 true 38 b34 ?_
 refine U.pk' b34 ?_
 refine U.done ?_
 exact St.wa (idR 6) (j33 _ g)
 refine C.exit (C.ex (C.ex (C.bex ?_)))
 exact St.wa [some 2] (j12 _ g)
theorem Gh (a:List (List Int)) (b:List (List Int)) (post:Bool→Prop) (g:QQ a b post):
  Tr Tryz.prog 12 [.sl 1 eLeI a,.sl 1 eLeI b] [] 0 (pB post):=by
 refine Tr.go Tryz.func12 Tryz.ntmps12 fun _ _ _ _ o=>?_
 unfold QQ at g
 refine C.ss (U.pd 1 T (C.xs (C.ss ?_)))
 refine U.pd 5 T (C.nx ?_)
 refine C.ite rfl g (fun b5 g=>?_) fun b5 g=>?_
 refine C.ss (U.pd 1 T (C.nx (C.ret (C.rt ?_))))
 exact C.f1 T o (pBi g)
 refine C.skip (C.xs (C.ss (U.pd 1 T (C.nx ?_))))
 refine C.jn (fun (x10:Unit)=>[]) (fun x10=>[]) 0 g (fun x10 g=>?_) fun J11 g j11=>?_
 refine C.xt (U.pd 1 T (C.nx (C.ret ?_)))
 exact C.f1 T o (pBi g)
 refine C.block (St.wk (C.loop (fun (s12:Int)=>[(0,.sl 1 eLeI a),(1,.sl 1 eLeI b),(5,.i s12)]) (fun s12=>[]) g (fun s12 Y13 g=>?_)) (Wk.e))
 refine C.seq (C.ss (U.pd 4 T (C.nx ?_)))
 refine C.ite rfl g (fun b16 g=>?_) fun b16 g=>?_
 refine C.skip (C.xs (C.block (C.seq (D.bq mix 9999 [] [] (fun hQ hS ws M'=>?_)))))
 refine D.pq 2 (zl [0,1]) T ?_
 obtain⟨x19,y19,g⟩:=g
 refine D.ix 2 [] T y19 ?_
 refine D.pq 3 (zl [3,4,5]) T ?_
 obtain⟨x20,y20,g⟩:=g
 refine D.ix 6 [] T y20 ?_
 refine D.pq 1 [(7,[])] T ?_
 refine D.k 8 (Qu x19 x20 _ g) en9 fun x21 g=>?_
 refine D.pq 1 [(9,[])] T ?_
 refine D.done (by kernel_rfl) ?_
 refine C.nx ?_
 refine C.ite rfl g (fun b22 g=>?_) fun b22 g=>?_
 refine C.ss (U.pd 1 T (C.nx (C.ret (C.brt (C.rt (C.rt (C.brt (C.rt ?_))))))))
 exact C.f1 T o (pBi g)
 refine C.skip (C.bnx (C.nx (U.start (U.pd 3 T (C.nx ?_)))))
 exact St.wk (C.next g) (Wk.e)
 refine C.exit (C.ex (C.ex (C.bex ?_)))
 exact St.wk (j11 _ g) (Wk.mk' [] rfl rfl trivial trivial rfl)
theorem Wb (l:List (List Int)) (post:Int→Prop) (g:K5 l post):
  Tr Tryz.prog 77 [.sl 1 eLeI l] [] 0 (pI post):=by
 refine Tr.go Tryz.func77 Tryz.ntmps77 fun _ _ _ _ o=>?_
 unfold K5 at g
 refine C.ss (U.pd 1 T (C.xt ?_))
 refine U.pd 1 T (C.xs (C.ss ?_))
 refine U.pd 1 T (C.nx ?_)
 refine C.jn (fun (x7:Int)=>[(3,.i x7)]) (fun x7=>[]) 0 g (fun x7 g=>?_) fun J8 g j8=>?_
 refine C.xt (U.pd 2 T (C.nx (C.ret ?_)))
 exact C.f1 T o (pIi g)
 refine C.block (St.wk (C.loop (fun (s9:Int×Int)=>[(0,.sl 1 eLeI l),(3,.i s9.1),(4,.i s9.2)]) (fun s9=>[]) g (fun s9 Y10 g=>?_)) (Wk.e))
 refine C.seq (C.ss (U.pd 4 T (C.nx ?_)))
 refine C.ite rfl g (fun b13 g=>?_) fun b13 g=>?_
 refine C.skip (C.xs ?_)
 refine C.jn (fun (x14:Int)=>[(0,.sl 1 eLeI l),(3,.i x14),(4,.i s9.2)]) (fun x14=>[]) 0 g (fun x14 g=>?_) fun J15 g j15=>?_
 refine C.nx (U.start (U.pd 3 T (C.nx ?_)))
 exact St.wk (C.next g) (Wk.e)
 refine C.block (C.ss (U.pd 1 T (C.nx ?_)))
 refine C.jn (fun (x18:Int)=>[(0,.sl 1 eLeI l),(3,.i x18),(4,.i s9.2)]) (fun x18=>[]) 0 g (fun x18 g=>?_) fun J19 g j19=>?_
 refine C.bnx ?_
 exact St.wn (j15 _ g)
 refine C.block (St.wk (C.loop (fun (s20:Int×Int)=>[(0,.sl 1 eLeI l),(3,.i s20.1),(4,.i s9.2),(5,.i s20.2)]) (fun s20=>[]) g (fun s20 Y21 g=>?_)) (Wk.e))
 refine C.seq (C.ss (U.ps 3 T rfl ?_))
 obtain⟨x24,y24,g⟩:=g
 refine U.ix T y24 ?_
 refine U.pd 3 T (C.nx ?_)
 refine C.ite rfl g (fun b25 g=>?_) fun b25 g=>?_
 refine C.skip (C.xs (C.block (U.start (U.ps 3 T rfl (U.ix T y24 ?_)))))
 refine U.ps 2 T rfl ?_
 obtain⟨x28,y28,g⟩:=g
 refine U.ix T y28 ?_
 refine U.pd 4 T (C.bnx (C.nx (U.start ?_)))
 refine U.pd 3 T (C.nx ?_)
 exact St.wk (C.next g) (Wk.e)
 refine C.exit (C.ex (C.ex (C.bex ?_)))
 exact St.wn (j19 _ g)
 refine C.exit (C.ex (C.ex (C.bex ?_)))
 exact St.wn (j8 _ g)
def KF:(List (List Int)×Int×Int×List Int×List Bool)→((Bool×List Int×List Bool)→Prop)→Prop | (l,robot,first,owner,seen),post=>Tr Tryz.prog 78 [.sl 1 eLeI l,.o 0,.o 1,.i robot,.i first] [(0,.val (.os 1 eI owner)),(1,.val (.os 1 eB seen))] 2 (fun A H' k=>∃y,post y∧A=(.b y.1)∧H'=[(0,.val (.os 1 eI y.2.1)),(1,.val (.os 1 eB y.2.2))]∧k=2)
theorem Xn (l:List (List Int)) (robot:Int) (first:Int) (owner:List Int) (seen:List Bool) (post:(Bool×List Int×List Bool)→Prop) (h:KF (l,robot,first,owner,seen) post):Tr Tryz.prog 78 [.sl 1 eLeI l,.o 0,.o 1,.i robot,.i first] [(0,.val (.os 1 eI owner)),(1,.val (.os 1 eB seen))] 2 (fun A H' k=>∃y,post y∧A=(.b y.1)∧H'=[(0,.val (.os 1 eI y.2.1)),(1,.val (.os 1 eB y.2.2))]∧k=2):=h
theorem Gq (l:List (List Int)) (robot:Int) (first:Int) (owner:List Int) (seen:List Bool) (post:(Bool×List Int×List Bool)→Prop) (g:QD l robot first owner seen post):
  Tr Tryz.prog 78 [.sl 1 eLeI l,.o 0,.o 1,.i robot,.i first] [(0,.val (.os 1 eI owner)),(1,.val (.os 1 eB seen))] 2 (fun A H' k=>∃y,post y∧A=(.b y.1)∧H'=[(0,.val (.os 1 eI y.2.1)),(1,.val (.os 1 eB y.2.2))]∧k=2):=by
 refine Xn l robot first owner seen _ (g KF (fun a post g=>?_))
 obtain⟨l,robot,first,owner,seen⟩:=a
 replace g:QG KF l robot first owner seen post:=g
 show Tr Tryz.prog 78 [.sl 1 eLeI l,.o 0,.o 1,.i robot,.i first] [(0,.val (.os 1 eI owner)),(1,.val (.os 1 eB seen))] 2 (fun A H' k=>∃y,post y∧A=(.b y.1)∧H'=[(0,.val (.os 1 eI y.2.1)),(1,.val (.os 1 eB y.2.2))]∧k=2)
 refine Tr.go Tryz.func78 Tryz.ntmps78 fun _ _ _ _ o=>?_
 unfold QG at g
 refine C.ss (U.pd 1 T (C.xs (C.ss ?_)))
 refine U.pd 1 T (C.nx ?_)
 refine C.jn (fun (x5:List Int×List Bool)=>[]) (fun x5=>[(0,.val (.os 1 eI x5.1)),(1,.val (.os 1 eB x5.2))]) 2 g (fun x5 g=>?_) fun J6 g j6=>?_
 ·refine C.xt ?_
  refine U.pd 1 T (C.nx (C.ret ?_))
  exact C.g1 (idR 2) T o ⟨(false,x5.1,x5.2),g,rfl,rfl,rfl⟩
 ·refine C.block ?_
  refine St.wk (C.loop (fun (s7:List Int×List Bool×Int)=>[(0,.sl 1 eLeI l),(1,.o 0),(2,.o 1),(3,.i robot),(4,.i first),(11,.i s7.2.2)]) (fun s7=>[(0,.val (.os 1 eI s7.1)),(1,.val (.os 1 eB s7.2.1))]) g (fun s7 Y8 g=>?_)) (Wk.a (idR 2))
  refine C.seq (C.ss (U.ps 3 T rfl ?_))
  obtain⟨x11,y11,g⟩:=g
  refine U.ix T y11 ?_
  refine U.pd 3 T (C.nx ?_)
  refine C.ite rfl g (fun b12 g=>?_) fun b12 g=>?_
  ·refine C.skip (C.xs ?_)
   refine C.jn (fun (x13:List Int×List Bool)=>[(0,.sl 1 eLeI l),(1,.o 0),(2,.o 1),(3,.i robot),(4,.i first),(11,.i s7.2.2)]) (fun x13=>[(0,.val (.os 1 eI x13.1)),(1,.val (.os 1 eB x13.2))]) 2 g (fun x13 g=>?_) fun J14 g j14=>?_
   ·refine C.nx (U.start ?_)
    refine U.pd 3 T (C.nx ?_)
    exact St.wk (C.next g) (Wk.a (idR 2))
   ·refine C.block (C.ss ?_)
    refine U.ps 2 T rfl (U.ix T y11 ?_)
    refine U.ps 2 T rfl ?_
    obtain⟨x17,y17,g⟩:=g
    refine U.ix T y17 ?_
    refine U.pd 2 T (C.xs (C.ss ?_))
    refine U.ps 2 T rfl ?_
    obtain⟨x20,y20,g⟩:=g
    refine U.r rfl (.none rfl) rfl rfl (by exact Rd.io T rfl rfl rfl rfl rfl rfl rfl y20) ?_
    refine U.r rfl (.none rfl) rfl rfl (by exact Rd.le T rfl rfl rfl (Q9 y20).2.2 rfl rfl rfl) ?_
    refine U.done (C.nx ?_)
    refine C.ite rfl g (fun b21 g=>?_) fun b21 g=>?_
    ·refine C.exit (C.ex (C.bex ?_))
     exact St.wa (idR 2) (j14 _ g)
    ·refine C.skip (C.xt ?_)
     refine U.ps 2 T rfl (U.r rfl (.none rfl) rfl rfl (by exact Rd.io T rfl rfl rfl rfl rfl rfl rfl y20) ?_)
     refine U.e1 rfl (.none rfl) (by exact Eff1.se T (z':=true) rfl rfl rfl (Q9 y20).2.2 rfl rfl rfl rfl rfl rfl rfl rfl (fun _=>rfl) rfl) ?_
     refine U.done (C.xt (U.ps 2 T rfl ?_))
     obtain⟨x26,y26,g⟩:=g
     refine U.r rfl (.none rfl) rfl rfl (by exact Rd.io T rfl rfl rfl rfl rfl rfl rfl y26) ?_
     refine U.r rfl (.none rfl) rfl rfl (by exact Rd.le T rfl rfl rfl (Q9 y26).2.2 rfl rfl rfl) ?_
     refine U.pd 2 T (C.xs ?_)
     refine C.jn (fun (x27:List Int×List Bool×Bool)=>[(0,.sl 1 eLeI l),(1,.o 0),(2,.o 1),(3,.i robot),(4,.i first),(11,.i s7.2.2),(12,.i x17),(56,.b x27.2.2)]) (fun x27=>[(0,.val (.os 1 eI x27.1)),(1,.val (.os 1 eB x27.2.1))]) 2 g (fun x27 g=>?_) fun J28 g j28=>?_
     ·refine C.nx ?_
      refine C.ite rfl g (fun b32 g=>?_) fun b32 g=>?_
      ·refine C.ss ?_
       refine U.ps 4 T rfl ?_
       obtain⟨x35,y35,g⟩:=g
       refine U.r rfl (.none rfl) rfl rfl (by exact Rd.io T rfl rfl rfl rfl rfl rfl rfl y35) ?_
       refine U.e1 rfl (.none rfl) (by exact Eff1.se T (z':=w64 (robot+1)) rfl rfl rfl (Q9 y35).2.2 rfl rfl rfl rfl rfl rfl rfl rfl (fun _=>rfl) rfl) ?_
       refine U.done (C.xt (U.pd 1 T (C.nx (C.ret (C.brt (C.rt (C.rt (C.brt (C.rt ?_)))))))))
       exact C.g1 (idR 2) T o ⟨(true,(x27.1.set (Int.toNat x17) (w64 (robot+1))),x27.2.1),g,rfl,rfl,rfl⟩
      ·refine C.skip (C.bnx ?_)
       exact St.wa (idR 2) (j14 _ g)
     ·refine U.start ?_
      refine U.ps 3 T rfl ?_
      refine g.cs (fun b29 g=>?_) fun b29 g=>?_
      ·refine U.sk' 4 2 false 44 b29 ?_
       refine U.sku 6 6 true 48 rfl rfl rfl ?_
       refine U.sk' 1 2 false 44 b29 ?_
       refine U.pk b29 ?_
       refine U.done ?_
       exact St.wa (idR 2) (j28 _ g)
      ·refine U.pq 4 2 false 44 b29 T ?_
       refine g.cs (fun b30 g=>?_) fun b30 g=>?_
       ·refine U.pq 5 6 true 48 b30 T ?_
        refine U.c (idR 2) (Xn l (w64 (x26-1)) first s7.1 (s7.2.1.set (Int.toNat x17) true) _ g) en78 (fun x31 g=>?_) (hw:=.take 6 true 48 _ b30 rfl rfl rfl)
        refine U.r rfl (.tk 2 false 44 b29) rfl rfl (by exact Rd.pk rfl rfl b30 rfl) ?_
        refine U.pk' b29 ?_
        refine U.done ?_
        exact St.wa (idR 2) (j28 _ g)
       ·refine U.sk' 6 6 true 48 b30 ?_
        refine U.r rfl (.tk 2 false 44 b29) rfl rfl (by exact Rd.pk' rfl rfl b30 rfl) ?_
        refine U.pk' b29 ?_
        refine U.done ?_
        exact St.wa (idR 2) (j28 _ g)
  ·refine C.exit (C.ex (C.ex (C.bex ?_)))
   exact St.wk (j6 _ g) (Wk.mk' [some 0,some 1] rfl rfl trivial ⟨vL,vL,trivial⟩ rfl)
theorem Xy (l:List (List Int)) (given:List Int) (post:Int→Prop) (g:QB l given post):
  Tr Tryz.prog 43 [.sl 1 eLeI l,.sl 1 eI given] [] 0 (pI post):=by
 refine Tr.go Tryz.func43 Tryz.ntmps43 fun _ _ _ _ o=>?_
 unfold QB at g
 refine C.ss (U.pd 1 T (C.xt ?_))
 refine U.ps 1 T rfl (U.k (Wb l _ g) en77 (fun x5 g=>?_))
 obtain⟨y6,g⟩:=g
 refine U.e1 rfl (.none rfl) (by exact Eff1.mk T (enc:=eI) (z0:=0) rfl rfl rfl rfl rfl rfl rfl rfl rfl rfl y6) ?_
 refine U.pd 1 T (C.xt ?_)
 refine U.pd 1 T (C.xs (C.ss ?_))
 refine U.pd 1 T (C.nx ?_)
 refine C.jn (fun (x11:List Int×Int)=>[(0,.sl 1 eLeI l),(1,.sl 1 eI given),(5,.o 0),(6,.i x11.2)]) (fun x11=>[(0,.val (.os 1 eI x11.1))]) 1 g (fun x11 g=>?_) fun J12 g j12=>?_
 refine C.xs (C.ss (U.pd 3 T (C.nx ?_)))
 refine C.jn (fun (x33:Int)=>[(6,.i x33)]) (fun x33=>[]) 0 g (fun x33 g=>?_) fun J34 g j34=>?_
 refine C.xt (U.pd 2 T (C.nx (C.ret ?_)))
 exact C.f1 T o (pIi g)
 refine C.block (St.wk (C.loop (fun (s35:List Int×Int×Int)=>[(0,.sl 1 eLeI l),(1,.sl 1 eI given),(5,.o 0),(6,.i s35.2.1),(8,.i s35.2.2)]) (fun s35=>[(0,.val (.os 1 eI s35.1))]) g (fun s35 Y36 g=>?_)) (Wk.a [some 0]))
 refine C.seq (C.ss (U.pd 4 T (C.nx ?_)))
 refine C.ite rfl g (fun b39 g=>?_) fun b39 g=>?_
 refine C.skip (C.xs (C.block (C.ss (U.ps 4 T rfl ?_))))
 obtain⟨y42,g⟩:=g
 refine U.e1 rfl (.none rfl) (by exact Eff1.mk T (enc:=eB) (z0:=false) rfl rfl rfl rfl rfl rfl rfl rfl rfl rfl y42) ?_
 refine U.ps 3 T rfl (U.c (idR 2) (Gq l s35.2.2 (given.length:Int) s35.1 (List.replicate (Int.toNat (s35.1.length:Int)) false) _ g) en78 (fun x43 g=>?_))
 refine U.done (C.nx ?_)
 refine C.jn (fun (x44:Int)=>[(0,.sl 1 eLeI l),(1,.sl 1 eI given),(5,.o 0),(6,.i x44),(8,.i s35.2.2)]) (fun x44=>[(0,.val (.os 1 eI x43.2.1))]) 1 g (fun x44 g=>?_) fun J45 g j45=>?_
 refine C.bnx (C.nx (U.start (U.pd 3 T (C.nx ?_))))
 exact St.wk (C.next g) (Wk.a [some 0])
 refine C.ite rfl g (fun b46 g=>?_) fun b46 g=>?_
 refine U.start (U.pd 3 T ?_)
 exact St.wa [some 0] (j45 _ g)
 refine C.skip ?_
 exact St.wa [some 0] (j45 _ g)
 refine C.exit (C.ex (C.ex (C.bex ?_)))
 exact St.wn (j34 _ g)
 refine C.block (St.wk (C.loop (fun (s13:List Int×Int×Int)=>[(0,.sl 1 eLeI l),(1,.sl 1 eI given),(5,.o 0),(6,.i s13.2.1),(7,.i s13.2.2)]) (fun s13=>[(0,.val (.os 1 eI s13.1))]) g (fun s13 Y14 g=>?_)) (Wk.a [some 0]))
 refine C.seq (C.ss (U.pd 4 T (C.nx ?_)))
 refine C.ite rfl g (fun b17 g=>?_) fun b17 g=>?_
 refine C.skip (C.xs (C.block (C.ss (U.ps 2 T rfl ?_))))
 obtain⟨x20,y20,g⟩:=g
 refine U.ix T y20 ?_
 refine U.pd 2 T (C.nx ?_)
 refine C.jn (fun (x21:List Int×Int)=>[(0,.sl 1 eLeI l),(1,.sl 1 eI given),(5,.o 0),(6,.i x21.2),(7,.i s13.2.2)]) (fun x21=>[(0,.val (.os 1 eI x21.1))]) 1 g (fun x21 g=>?_) fun J22 g j22=>?_
 refine C.bnx (C.nx (U.start (U.pd 3 T (C.nx ?_))))
 exact St.wk (C.next g) (Wk.a [some 0])
 refine C.ite rfl g (fun b23 g=>?_) fun b23 g=>?_
 refine C.ss (U.ps 3 T rfl (U.ix T y20 ?_))
 refine U.ps 3 T rfl ?_
 obtain⟨x26,y26,g⟩:=g
 refine U.r rfl (.none rfl) rfl rfl (by exact Rd.io T rfl rfl rfl rfl rfl rfl rfl y26) ?_
 refine U.e1 rfl (.none rfl) (by exact Eff1.se T (z':=w64 (s13.2.2+1)) rfl rfl rfl (Q9 y26).2.2 rfl rfl rfl rfl rfl rfl rfl rfl (fun _=>rfl) rfl) ?_
 refine U.done (C.nx (U.start (U.pd 3 T ?_)))
 exact St.wa [some 0] (j22 _ g)
 refine C.skip ?_
 exact St.wa [some 0] (j22 _ g)
 refine C.exit (C.ex (C.ex (C.bex ?_)))
 exact St.wa [some 0] (j12 _ g)
theorem G6 (l:List (List Int)) (post:(List Int)→Prop) (g:K3 l post):
  Tr Tryz.prog 16 [.sl 1 eLeI l] [] 0 (fun A H' k=>∃y,post y∧A=(.o 0)∧H'=[(0,.val (.os 1 eI y))]∧k=1):=by
 refine Tr.go Tryz.func16 Tryz.ntmps16 fun _ _ _ _ o=>?_
 unfold K3 at g
 refine C.ss (U.pd 1 T (C.xt ?_))
 refine U.ps 1 T rfl (U.k (Xy l [] _ g) en43 (fun x5 g=>?_))
 refine U.pd 1 T (C.xt ?_)
 refine U.pd 1 T (C.xs (C.ss ?_))
 refine U.pd 1 T (C.nx ?_)
 refine C.jn (fun (x10:List Int)=>[(4,.o 0)]) (fun x10=>[(0,.val (.os 1 eI x10))]) 1 g (fun x10 g=>?_) fun J11 g j11=>?_
 refine C.xt (U.pd 2 T (C.nx (C.ret ?_)))
 exact C.g1 [some 0] T o ⟨x10,g,rfl,rfl,rfl⟩
 refine C.block (St.wk (C.loop (fun (s12:List Int×Int)=>[(0,.sl 1 eLeI l),(3,.i x5),(4,.o 0),(5,.i s12.2)]) (fun s12=>[(0,.val (.os 1 eI s12.1))]) g (fun s12 Y13 g=>?_)) (Wk.mk' [none] rfl rfl ⟨⟨_,rfl,(.eq rfl)⟩,⟨_,rfl,(.eq rfl)⟩,⟨_,rfl,(.nilO _ _ ⟨rfl,rfl⟩ rfl)⟩,ChkG.eqs rfl⟩ ⟨⟨_,rfl,.nil _ _⟩,trivial⟩ rfl))
 refine C.seq (C.ss (U.pd 4 T (C.nx ?_)))
 refine C.ite rfl g (fun b16 g=>?_) fun b16 g=>?_
 refine C.skip (C.xs ?_)
 refine C.jn (fun (x17:List Int)=>[(0,.sl 1 eLeI l),(3,.i x5),(4,.o 0),(5,.i s12.2)]) (fun x17=>[(0,.val (.os 1 eI x17))]) 1 g (fun x17 g=>?_) fun J18 g j18=>?_
 refine C.nx (U.start (U.pd 3 T (C.nx ?_)))
 exact St.wk (C.next g) (Wk.a [some 0])
 refine C.block (C.ss (U.pd 1 T (C.xs (C.ss ?_))))
 refine U.pd 1 T (C.nx ?_)
 refine C.jn (fun (x23:Int)=>[(0,.sl 1 eLeI l),(3,.i x5),(4,.o 0),(5,.i s12.2),(6,.i x23)]) (fun x23=>[(0,.val (.os 1 eI s12.1))]) 1 g (fun x23 g=>?_) fun J24 g j24=>?_
 refine C.nx (U.start (U.ps 2 T rfl (U.bs T eI ([x23]:List Int) ?_)))
 obtain⟨y55,g⟩:=g
 refine U.ap T y55 ?_
 refine U.pd 1 T (C.bnx ?_)
 exact St.wa [some 2] (j18 _ g)
 refine C.block (St.wk (C.loop (fun (s25:Int×Int)=>[(0,.sl 1 eLeI l),(3,.i x5),(4,.o 0),(5,.i s12.2),(6,.i s25.1),(7,.i s25.2)]) (fun s25=>[(0,.val (.os 1 eI s12.1))]) g (fun s25 Y26 g=>?_)) (Wk.a [some 0]))
 refine C.seq (C.ss (U.ps 3 T rfl ?_))
 obtain⟨x29,y29,g⟩:=g
 refine U.ix T y29 ?_
 refine U.pd 3 T (C.nx ?_)
 refine C.ite rfl g (fun b30 g=>?_) fun b30 g=>?_
 refine C.skip (C.xs (C.block (C.ss (U.ps 2 T rfl (U.ix T y29 ?_)))))
 refine U.ps 2 T rfl ?_
 obtain⟨x33,y33,g⟩:=g
 refine U.ix T y33 ?_
 refine U.pd 2 T (C.xs ?_)
 refine C.jn (fun (x34:Bool)=>[(0,.sl 1 eLeI l),(3,.i x5),(4,.o 0),(5,.i s12.2),(6,.i s25.1),(7,.i s25.2),(8,.i x33),(57,.b x34)]) (fun x34=>[(0,.val (.os 1 eI s12.1))]) 1 g (fun x34 g=>?_) fun J35 g j35=>?_
 refine C.nx ?_
 refine C.jn (fun (x46:Int)=>[(0,.sl 1 eLeI l),(3,.i x5),(4,.o 0),(5,.i s12.2),(6,.i x46),(7,.i s25.2)]) (fun x46=>[(0,.val (.os 1 eI s12.1))]) 1 g (fun x46 g=>?_) fun J47 g j47=>?_
 refine C.bnx (C.nx (U.start (U.pd 3 T (C.nx ?_))))
 exact St.wk (C.next g) (Wk.a [some 0])
 refine C.ite rfl g (fun b48 g=>?_) fun b48 g=>?_
 refine U.start (U.pd 2 T ?_)
 exact St.wa [some 0] (j47 _ g)
 refine C.skip ?_
 exact St.wa [some 0] (j47 _ g)
 refine U.start (U.ps 2 T rfl (U.k (Xe s12.1 x33 _ g) en32 (fun x36 g=>?_)))
 refine U.ps 2 T rfl ?_
 refine g.cs (fun b37 g=>?_) fun b37 g=>?_
 refine U.sk' 3 4 true 37 (ntF b37) ?_
 refine U.sku 3 7 false 40 rfl rfl rfl ?_
 refine U.sk' 1 4 true 37 (ntF b37) ?_
 refine U.pk' (ntF b37) ?_
 refine U.ps 1 T rfl (U.sk' 10 13 true 46 rfl ?_)
 refine U.pk' rfl ?_
 refine U.done ?_
 exact St.wa [some 0] (j35 _ g)
 refine U.pq 3 4 true 37 (ntT b37) T ?_
 refine g.cs (fun b38 g=>?_) fun b38 g=>?_
 refine U.sk' 3 7 false 40 b38 ?_
 refine U.r rfl (.tk 4 true 37 (ntT b37)) rfl rfl (by exact Rd.pk rfl rfl b38 rfl) ?_
 refine U.pk (ntT b37) ?_
 refine U.ps 1 T rfl (U.pq 1 13 true 46 rfl T ?_)
 refine U.e1 rfl (.tk 13 true 46 rfl) (by exact Eff1.bs T (enc:=eI) (xs:=([]:List Int)) rfl rfl rfl rfl rfl rfl rfl rfl rfl rfl (fun _ _=>rfl) rfl rfl) ?_
 refine U.pq 1 13 true 46 rfl T ?_
 obtain⟨y39,g⟩:=g
 refine U.e1 rfl (.tk 13 true 46 rfl) (by exact Eff1.ap T rfl rfl rfl rfl rfl rfl (.inr ⟨_,rfl,rfl⟩) rfl rfl rfl (fun _=>rfl) rfl y39) ?_
 refine U.pq 1 13 true 46 rfl T ?_
 refine U.e1 rfl (.tk 13 true 46 rfl) (by exact Eff1.bs T (enc:=eI) (xs:=([x33]:List Int)) rfl rfl rfl rfl rfl rfl rfl rfl rfl rfl (fun _ _=>rfl) rfl rfl) ?_
 obtain⟨y40,g⟩:=g
 refine U.e1 rfl (.tk 13 true 46 rfl) (by exact Eff1.ap T rfl rfl rfl rfl rfl rfl (.inr ⟨_,rfl,rfl⟩) rfl rfl rfl (fun _=>rfl) rfl y40) ?_
 refine U.k (Xy l ((([]:List Int)++s12.1)++([x33]:List Int)) _ g) en43 (fun x41 g=>?_) (hw:=.take 13 true 46 _ rfl rfl rfl rfl)
 refine U.pq 2 13 true 46 rfl T ?_
 refine U.pk rfl ?_
 refine U.done ?_
 exact St.wa [some 0] (j35 _ g)
 refine U.pq 3 7 false 40 b38 T ?_
 refine U.r rfl (.tk 4 true 37 (ntT b37)) rfl rfl (by exact Rd.pk' rfl rfl b38 rfl) ?_
 refine U.pk (ntT b37) ?_
 refine U.ps 1 T rfl ?_
 refine g.cs (fun b42 g=>?_) fun b42 g=>?_
 refine U.pq 1 13 true 46 b42 T ?_
 refine U.e1 rfl (.tk 13 true 46 b42) (by exact Eff1.bs T (enc:=eI) (xs:=([]:List Int)) rfl rfl rfl rfl rfl rfl rfl rfl rfl rfl (fun _ _=>rfl) rfl rfl) ?_
 refine U.pq 1 13 true 46 b42 T ?_
 obtain⟨y43,g⟩:=g
 refine U.e1 rfl (.tk 13 true 46 b42) (by exact Eff1.ap T rfl rfl rfl rfl rfl rfl (.inr ⟨_,rfl,rfl⟩) rfl rfl rfl (fun _=>rfl) rfl y43) ?_
 refine U.pq 1 13 true 46 b42 T ?_
 refine U.e1 rfl (.tk 13 true 46 b42) (by exact Eff1.bs T (enc:=eI) (xs:=([x33]:List Int)) rfl rfl rfl rfl rfl rfl rfl rfl rfl rfl (fun _ _=>rfl) rfl rfl) ?_
 obtain⟨y44,g⟩:=g
 refine U.e1 rfl (.tk 13 true 46 b42) (by exact Eff1.ap T rfl rfl rfl rfl rfl rfl (.inr ⟨_,rfl,rfl⟩) rfl rfl rfl (fun _=>rfl) rfl y44) ?_
 refine U.k (Xy l ((([]:List Int)++s12.1)++([x33]:List Int)) _ g) en43 (fun x45 g=>?_) (hw:=.take 13 true 46 _ b42 rfl rfl rfl)
 refine U.pq 2 13 true 46 b42 T ?_
 refine U.pk b42 ?_
 refine U.done ?_
 exact St.wa [some 0] (j35 _ g)
 refine U.sk' 10 13 true 46 b42 ?_
 refine U.pk' b42 ?_
 refine U.done ?_
 exact St.wa [some 0] (j35 _ g)
 refine C.exit (C.ex (C.ex (C.bex ?_)))
 exact St.wa [some 0] (j24 _ g)
 refine C.exit (C.ex (C.ex (C.bex ?_)))
 exact St.wa [some 0] (j11 _ g)
theorem Yb (l:List (List Int)) (post:(List (List Int))→Prop) (g:Kw l post):
  Tr Tryz.prog 18 [.sl 1 eLeI l] [] 0 (fun A H' k=>∃y,post y∧A=(.o 0)∧H'=[(0,.val (.os 1 eOeI y))]∧k=1):=by
 refine Tr.go Tryz.func18 Tryz.ntmps18 fun _ _ _ _ o=>?_
 unfold Kw at g
 refine C.ss (U.pd 1 T (C.xt ?_))
 refine U.bs T eLeI ([]:List (List Int)) ?_
 refine U.ps 1 T rfl ?_
 obtain⟨y5,g⟩:=g
 refine U.ap T y5 ?_
 refine U.pd 1 T (C.xt ?_)
 refine U.pd 1 T (C.xs (C.ss ?_))
 refine U.pd 1 T (C.nx ?_)
 refine C.jn (fun (x10:List (List Int))=>[(4,.o 0)]) (fun x10=>[(0,.val (.os 1 eOeI x10))]) 1 g (fun x10 g=>?_) fun J11 g j11=>?_
 refine C.xt (U.pd 2 T (C.nx (C.ret ?_)))
 exact C.g1 [some 0] T o ⟨x10,g,rfl,rfl,rfl⟩
 refine C.block ?_
 refine St.wk (C.loop (fun (s12:List (List Int)×List (List Int)×Int)=>[(0,.sl 1 eLeI l),(3,.o 0),(4,.o 1),(5,.i s12.2.2)]) (fun s12=>[(0,.val (.os 1 eLeI s12.1)),(1,.val (.os 1 eOeI s12.2.1))]) g (fun s12 Y13 g=>?_)) (Wk.mk' [some 1,none] rfl rfl ⟨⟨_,rfl,(.eq rfl)⟩,⟨_,rfl,(.eq rfl)⟩,⟨_,rfl,(.nilO _ _ ⟨rfl,rfl⟩ rfl)⟩,ChkG.eqs rfl⟩ ⟨vL,⟨_,rfl,.nil _ _⟩,trivial⟩ rfl)
 refine C.seq (C.ss (U.pd 4 T (C.nx ?_)))
 refine C.ite rfl g (fun b16 g=>?_) fun b16 g=>?_
 refine C.skip (C.xs ?_)
 refine C.jn (fun (x17:List (List Int)×List (List Int))=>[(0,.sl 1 eLeI l),(3,.o 0),(4,.o 1),(5,.i s12.2.2)]) (fun x17=>[(0,.val (.os 1 eLeI x17.1)),(1,.val (.os 1 eOeI x17.2))]) 2 g (fun x17 g=>?_) fun J18 g j18=>?_
 refine C.nx (U.start (U.pd 3 T (C.nx ?_)))
 exact St.wk (C.next g) (Wk.a (idR 2))
 refine C.block (C.ss (U.ps 1 T rfl (U.k (G6 s12.1 _ g) en16 (fun x21 g=>?_))))
 refine U.pd 1 T (C.xt ?_)
 refine U.pd 1 T (C.xs (C.ss ?_))
 refine U.pd 1 T (C.nx ?_)
 refine C.jn (fun (x26:List (List Int)×Bool)=>[(0,.sl 1 eLeI l),(3,.o 0),(4,.o 1),(5,.i s12.2.2),(6,.o 2),(7,.b x26.2)]) (fun x26=>[(0,.val (.os 1 eLeI x26.1)),(1,.val (.os 1 eOeI s12.2.1)),(2,.val (.os 1 eI x21))]) 3 g (fun x26 g=>?_) fun J27 g j27=>?_
 refine C.xs (C.ss (U.pd 2 T (C.nx ?_)))
 refine C.ite rfl g (fun b48 g=>?_) fun b48 g=>?_
 refine C.ss (U.pd 2 T (C.nx (C.ret (C.rt (C.brt (C.rt (C.rt (C.brt (C.rt ?_)))))))))
 exact C.g1 [some 1] T o ⟨s12.2.1,g,rfl,rfl,rfl⟩
 refine C.skip (C.nx (U.start (U.ps 2 T rfl (U.e1 rfl (.none rfl) (by exact Eff1.bsl T (enc:=eOeI) x21 rfl rfl rfl rfl rfl rfl rfl rfl rfl) ?_))))
 obtain⟨y53,g⟩:=g
 refine U.e1 rfl (.none rfl) (by exact Eff1.apl T rfl rfl rfl rfl rfl rfl rfl (fun _=>rfl) rfl rfl rfl rfl ⟨_,rfl,rfl⟩ y53) ?_
 refine U.pd 1 T ?_
 refine St.putb (l:=4) (l':=2) (y:=x21) rfl rfl rfl (fun _ h=>nomatch h) rfl _ rfl ?_
 refine C.bnx ?_
 exact St.wa [some 0,some 4] (j18 _ g)
 refine C.block (St.wk (C.loop (fun (s28:List (List Int)×Bool×Int)=>[(0,.sl 1 eLeI l),(3,.o 0),(4,.o 1),(5,.i s12.2.2),(6,.o 2),(7,.b s28.2.1),(8,.i s28.2.2)]) (fun s28=>[(0,.val (.os 1 eLeI s28.1)),(1,.val (.os 1 eOeI s12.2.1)),(2,.val (.os 1 eI x21))]) g (fun s28 Y29 g=>?_)) (Wk.a (idR 3)))
 refine C.seq (C.ss (U.pd 4 T (C.nx ?_)))
 refine C.ite rfl g (fun b32 g=>?_) fun b32 g=>?_
 refine C.skip (C.xs (C.block (C.ss (U.ps 2 T rfl ?_))))
 obtain⟨x35,y35,g⟩:=g
 refine U.r rfl (.none rfl) rfl rfl (by exact Rd.io T rfl rfl rfl rfl rfl rfl rfl y35) ?_
 refine U.r rfl (.none rfl) rfl rfl (by exact Rd.le T rfl rfl rfl (Q9 y35).2.2 rfl rfl rfl) ?_
 refine U.pd 1 T (C.nx ?_)
 refine C.jn (fun (x36:List (List Int)×Bool)=>[(0,.sl 1 eLeI l),(3,.o 0),(4,.o 1),(5,.i s12.2.2),(6,.o 2),(7,.b x36.2),(8,.i s28.2.2)]) (fun x36=>[(0,.val (.os 1 eLeI x36.1)),(1,.val (.os 1 eOeI s12.2.1)),(2,.val (.os 1 eI x21))]) 3 g (fun x36 g=>?_) fun J37 g j37=>?_
 refine C.bnx (C.nx (U.start (U.pd 3 T (C.nx ?_))))
 exact St.wk (C.next g) (Wk.a (idR 3))
 refine C.ite rfl g (fun b38 g=>?_) fun b38 g=>?_
 refine C.ss (U.pd 1 T (C.nx (U.start ?_)))
 refine U.ps 2 T rfl ?_
 obtain⟨x43,y43,g⟩:=g
 refine U.r rfl (.none rfl) rfl rfl (by exact Rd.io T rfl rfl rfl rfl rfl rfl rfl y43) ?_
 refine U.e1 rfl (.none rfl) (by exact Eff1.seN T (z':=[]) rfl rfl rfl (Q9 y43).2.2 rfl rfl rfl rfl rfl rfl (.cons (.sl _ _) .nil) rfl (fun _=>rfl) rfl) ?_
 refine U.done ?_
 exact St.wa (idR 3) (j37 _ g)
 refine C.skip ?_
 exact St.wa (idR 3) (j37 _ g)
 refine C.exit (C.ex (C.ex (C.bex ?_)))
 exact St.wa (idR 3) (j27 _ g)
 refine C.exit (C.ex (C.ex (C.bex ?_)))
 exact St.wa [some 1] (j11 _ g)
theorem W0 (s_1:ApiSite) (st:ApiState) (blocked:List Int) (a:Int) (b:Int) (l:List (List Int)) (post:Bool→Prop) (g:V_taquinlaw34_DockTells s_1 st blocked a b l post):
  Tr Tryz.prog 3 [.agg (Q0 s_1),.agg (Q4 st),.sl 1 eI blocked,.i a,.i b,.sl 1 eLeI l] [] 0 (pB post):=by
 refine Tr.go Tryz.func3 Tryz.ntmps3 fun _ _ _ _ o=>?_
 unfold V_taquinlaw34_DockTells at g
 refine C.ss (U.bx ?_)
 refine U.bx ?_
 refine U.pd 1 T (C.xt ?_)
 refine U.k (Y3 _ g) en4 fun x5 g=>?_
 refine U.pd 1 T (C.xs (C.seq ?_))
 refine C.jn (fun (x6:Bool)=>[(2,.sl 1 eI blocked),(3,.i a),(4,.i b),(5,.sl 1 eLeI l),(6,.p 0 0),(7,.p 1 0),(13,.b x5),(28,.b x6)]) (fun x6=>[(0,.box (Q0 s_1)),(1,.box (Q4 st))]) 2 g (fun x6 g=>?_) fun J7 g j7=>?_
 refine C.nx ?_
 refine C.ite rfl g (fun b12 g=>?_) fun b12 g=>?_
 refine C.ss (U.pd 2 T (C.nx (C.ret (C.rt ?_))))
 exact C.f1 T o (pBi g)
 refine C.skip (C.xs (C.seq ?_))
 refine C.jn (fun (x15:Bool)=>[(5,.sl 1 eLeI l),(13,.b x5),(62,.b x15)]) (fun x15=>[]) 0 g (fun x15 g=>?_) fun J16 g j16=>?_
 refine C.nx ?_
 refine C.ite rfl g (fun b27 g=>?_) fun b27 g=>?_
 refine C.ss (U.pd 1 T (C.nx (C.ret (C.rt ?_))))
 exact C.f1 T o (pBi g)
 refine C.skip (C.xs ?_)
 refine C.jn (fun (x30:Bool)=>[(12,.b x30)]) (fun x30=>[]) 0 g (fun x30 g=>?_) fun J31 g j31=>?_
 refine C.nx (C.ret ?_)
 exact C.f1 T o (pBi g)
 refine U.start (U.ps 2 T rfl ?_)
 refine g.cs (fun b32 g=>?_) fun b32 g=>?_
 refine U.pq 1 1 true 64 b32 T ?_
 refine U.k (Gf l _ g) en15 (fun x33 g=>?_) (hw:=.take 1 true 64 _ b32 rfl rfl rfl)
 refine U.pq 1 1 true 64 b32 T ?_
 refine U.k (G6 l _ g) en16 (fun x34 g=>?_) (hw:=.take 1 true 64 _ b32 rfl rfl rfl)
 refine U.k (Qu x33 x34 _ g) en9 (fun x35 g=>?_) (hw:=.take 1 true 64 _ b32 rfl rfl rfl)
 refine U.pk b32 ?_
 refine U.ps 1 T rfl ?_
 refine g.cs (fun b36 g=>?_) fun b36 g=>?_
 refine U.pq 1 8 true 71 b36 T ?_
 refine U.k (Wp l _ g) en17 (fun x37 g=>?_) (hw:=.take 8 true 71 _ b36 rfl rfl rfl)
 refine U.pq 1 8 true 71 b36 T ?_
 refine U.k (Yb l _ g) en18 (fun x38 g=>?_) (hw:=.take 8 true 71 _ b36 rfl rfl rfl)
 refine U.k (Gh x37 x38 _ g) en12 (fun x39 g=>?_) (hw:=.take 8 true 71 _ b36 rfl rfl rfl)
 refine U.pk b36 ?_
 refine U.pd 1 T ?_
 exact St.wn (j31 _ g)
 refine U.sk' 5 8 true 71 b36 ?_
 refine U.pk' b36 ?_
 refine U.pd 1 T ?_
 exact St.wn (j31 _ g)
 refine U.sk' 5 1 true 64 b32 ?_
 refine U.pk' b32 ?_
 refine U.ps 1 T rfl (U.sk' 5 8 true 71 rfl ?_)
 refine U.pk' rfl ?_
 refine U.pd 1 T ?_
 exact St.wn (j31 _ g)
 refine D.bq mix 9999 [0,1] [] (fun hQ hS ws M'=>?_)
 refine D.pq 8 (zl [0,1,2,3,5,6,7,8]) T ?_
 refine D.k 4 (Q1D s_1 blocked a b _ g) en7 fun x17 g=>?_
 refine D.k 9 (Yu s_1 blocked a b _ g) en8 fun x18 g=>?_
 refine D.pq 2 (zl [10,11]) T ?_
 refine g.cs (fun b19 g=>?_) fun b19 g=>?_
 refine D.sz 12 [] 11 false 41 b19 ?_
 refine D.sz 13 [] 11 false 41 b19 ?_
 refine D.sz 14 [] 11 false 41 b19 ?_
 refine D.sz 15 [] 11 false 41 b19 ?_
 refine D.sz 16 [] 11 false 41 b19 ?_
 refine D.sz 17 [] 11 false 41 b19 ?_
 refine D.sz 18 [] 11 false 41 b19 ?_
 refine D.sz 19 [] 11 false 41 b19 ?_
 refine D.sz 20 [] 11 false 41 b19 ?_
 refine D.sz 21 [] 11 false 41 b19 ?_
 refine D.kt 22 [] b19 ?_
 refine D.pq 1 [(23,[])] T ?_
 refine D.sz 24 [] 23 false 53 rfl ?_
 refine D.sz 25 [] 23 false 53 rfl ?_
 refine D.sz 26 [] 23 false 53 rfl ?_
 refine D.sz 27 [] 23 false 53 rfl ?_
 refine D.sz 28 [] 23 false 53 rfl ?_
 refine D.sz 29 [] 23 false 53 rfl ?_
 refine D.sz 30 [] 23 false 53 rfl ?_
 refine D.sz 31 [] 23 false 53 rfl ?_
 refine D.kt 32 [] rfl ?_
 refine D.done (by kernel_rfl) ?_
 exact St.wn (j16 _ g)
 refine D.q 12 [] hQ hS rfl (.tk 11 false 41 b19) rfl rfl (by exact Rd.l T rfl rfl rfl) rfl (by kernel_rfl) ?_
 refine D.pt 13 [] 11 false 41 b19 T ?_
 refine D.pt 14 [] 11 false 41 b19 T ?_
 refine D.q 16 [] hQ hS rfl (.tk 11 false 41 b19) rfl rfl (by exact Rd.l T rfl rfl rfl) rfl (by kernel_rfl) ?_
 refine D.pt 17 [] 11 false 41 b19 T ?_
 refine D.pt 18 [] 11 false 41 b19 T ?_
 refine D.k 15 (Wq s_1 blocked a _ g) en10 (fun x20 g=>?_) (hw:=.take 11 false 41 _ b19 rfl rfl rfl)
 refine D.k 19 (Xs s_1 blocked a _ g) en11 (fun x21 g=>?_) (hw:=.take 11 false 41 _ b19 rfl rfl rfl)
 refine D.k 20 (Qu x20 x21 _ g) en9 (fun x22 g=>?_) (hw:=.take 11 false 41 _ b19 rfl rfl rfl)
 refine D.pt 21 [] 11 false 41 b19 T ?_
 refine D.kf 22 [] b19 ?_
 refine D.pq 1 [(23,[])] T ?_
 refine g.cs (fun b23 g=>?_) fun b23 g=>?_
 refine D.q 24 [] hQ hS rfl (.tk 23 false 53 (ntF b23)) rfl rfl (by exact Rd.l T rfl rfl rfl) rfl (by kernel_rfl) ?_
 refine D.q 25 [] hQ hS rfl (.tk 23 false 53 (ntF b23)) rfl rfl (by exact Rd.l T rfl rfl rfl) rfl (by kernel_rfl) ?_
 refine D.q 27 [] hQ hS rfl (.tk 23 false 53 (ntF b23)) rfl rfl (by exact Rd.l T rfl rfl rfl) rfl (by kernel_rfl) ?_
 refine D.q 28 [] hQ hS rfl (.tk 23 false 53 (ntF b23)) rfl rfl (by exact Rd.l T rfl rfl rfl) rfl (by kernel_rfl) ?_
 refine D.k 26 (Q1p s_1 st _ g) en13 (fun x24 g=>?_) (hw:=.take 23 false 53 _ (ntF b23) rfl rfl rfl)
 refine D.k 29 (WR s_1 st _ g) en14 (fun x25 g=>?_) (hw:=.take 23 false 53 _ (ntF b23) rfl rfl rfl)
 refine D.k 30 (Gh x24 x25 _ g) en12 (fun x26 g=>?_) (hw:=.take 23 false 53 _ (ntF b23) rfl rfl rfl)
 refine D.pt 31 [] 23 false 53 (ntF b23) T ?_
 refine D.kf 32 [] (ntF b23) ?_
 refine D.done (by kernel_rfl) ?_
 exact St.wn (j16 _ g)
 refine D.sz 24 [] 23 false 53 (ntT b23) ?_
 refine D.sz 25 [] 23 false 53 (ntT b23) ?_
 refine D.sz 26 [] 23 false 53 (ntT b23) ?_
 refine D.sz 27 [] 23 false 53 (ntT b23) ?_
 refine D.sz 28 [] 23 false 53 (ntT b23) ?_
 refine D.sz 29 [] 23 false 53 (ntT b23) ?_
 refine D.sz 30 [] 23 false 53 (ntT b23) ?_
 refine D.sz 31 [] 23 false 53 (ntT b23) ?_
 refine D.kt 32 [] (ntT b23) ?_
 refine D.done (by kernel_rfl) ?_
 exact St.wn (j16 _ g)
 refine U.start (U.ps 2 T rfl (U.k (Yz s_1 st _ g) en5 (fun x8 g=>?_)))
 refine U.ps 2 T rfl ?_
 refine g.cs (fun b9 g=>?_) fun b9 g=>?_
 refine U.pq 3 4 false 19 (ntF b9) T ?_
 refine U.pk' (ntF b9) ?_
 refine U.ps 1 T rfl ?_
 refine g.cs (fun b10 g=>?_) fun b10 g=>?_
 refine U.sk' 3 9 false 24 b10 ?_
 refine U.pk b10 ?_
 refine U.done ?_
 exact St.wa (idR 2) (j7 _ g)
 refine U.pq 1 9 false 24 b10 T ?_
 refine U.k (YY l 12 _ g) en6 (fun x11 g=>?_) (hw:=.take 9 false 24 _ b10 rfl rfl rfl)
 refine U.pq 1 9 false 24 b10 T ?_
 refine U.pk' b10 ?_
 refine U.done ?_
 exact St.wa (idR 2) (j7 _ g)
 refine U.sk' 3 4 false 19 (ntT b9) ?_
 refine U.pk (ntT b9) ?_
 refine U.ps 1 T rfl (U.sk' 3 9 false 24 rfl ?_)
 refine U.pk rfl ?_
 refine U.done ?_
 exact St.wa (idR 2) (j7 _ g)
end Go.Proofs.YtlaehjhkcanffaaGreat
