/- The walks: each Go function does what its verification condition says (written by a program of the prover). -/
import Derived.Test.YtdcfcldpjfepiaaGreatW2
import Derived.KernelRfl
set_option maxRecDepth 100000
set_option maxHeartbeats 8000000
set_option linter.unusedVariables false
set_option linter.unusedSimpArgs false
namespace Go.Proofs.YtdcfcldpjfepiaaGreat
open Go Go.Taq
theorem Q1x (s_1:ApiSite) (st:ApiState) (robot:Int) (act:Int) (post:ApiState→Prop) (g:XS s_1 st robot act post):
  Tr Tryz.prog 70 [.agg (Q1 s_1),.agg (Q2 st),.i robot,.i act] [] 0 (fun A H' k=>∃y,post y∧A=(.agg [.i y.Tick,.o 0,.o 1,.o 2,.o 3,.o 4])∧H'=[(0,.val (.os 1 eI y.Shelves)),(1,.val (.os 6 Q4 y.Robots)),(2,.val (.os 1 eI y.People)),(3,.val (.os 1 eI y.Dead)),(4,.val (.os 2 Q7 y.Stuck))]∧k=5):=by
 refine Tr.go Tryz.func70 Tryz.ntmps70 fun _ _ _ _ o=>?_
 unfold XS at g
 refine C.ss (U.bx ?_)
 refine U.bx ?_
 refine U.al T ?_
 refine U.done (C.xt (U.ps 1 T rfl (U.k (Q0h st _ g) Q9b (fun x5 g=>?_))))
 refine U.al T ?_
 refine U.st T ?_
 refine U.done (C.xs (C.seq ?_))
 refine C.jn (fun (x6:Bool)=>[(2,.i robot),(3,.i act),(4,.p 0 0),(5,.p 1 0),(8,.p 2 0),(9,.p 3 0),(25,.b x6)]) (fun x6=>[(0,.box (Q1 s_1)),(1,.box (Q2 st)),(2,.box [.i 0,vN,vN,vN,vN,vN]),(3,.box [.i x5.Tick,.o 4,.o 5,.o 6,.o 7,.o 8]),(4,.val (.os 1 eI x5.Shelves)),(5,.val (.os 6 Q4 x5.Robots)),(6,.val (.os 1 eI x5.People)),(7,.val (.os 1 eI x5.Dead)),(8,.val (.os 2 Q7 x5.Stuck))]) 9 g (fun x6 g=>?_) fun J7 g j7=>?_
 refine C.nx ?_
 refine C.ite rfl g (fun b9 g=>?_) fun b9 g=>?_
 refine C.ss (U.ps 1 T rfl (U.st T ?_))
 refine U.done (C.nx (C.ret (C.rt ?_)))
 exact C.g1 (sqR 4 5) T o ⟨x5,g,rfl,rfl,rfl⟩
 refine C.skip (C.xt (U.ps 3 T rfl ?_))
 obtain⟨x14,y14,g⟩:=g
 refine U.r rfl (.none rfl) rfl rfl (by exact Rd.io T rfl rfl rfl rfl rfl rfl rfl y14) ?_
 refine U.r rfl (.none rfl) rfl rfl (by exact Rd.le T rfl rfl rfl (Q6 y14).2.2 rfl rfl rfl) ?_
 refine U.al T ?_
 refine U.st T ?_
 refine U.done (C.xs (C.ss (U.pd 2 T (C.nx ?_))))
 refine C.ite rfl g (fun b17 g=>?_) fun b17 g=>?_
 refine C.ss (U.ps 1 T rfl (U.st T ?_))
 refine U.done (C.nx (C.ret (C.rt ?_)))
 exact C.g1 (sqR 4 5) T o ⟨x5,g,rfl,rfl,rfl⟩
 refine C.skip (C.xt (U.ps 8 T rfl (U.k (Y9 st.Tick x14.Charge act (decide (x14.Load≥0)) _ g) Q7S (fun x22 g=>?_))))
 refine U.pd 5 T (C.xs (C.ss ?_))
 refine U.pd 2 T (C.nx ?_)
 refine C.jn (fun (x25:Int)=>[(2,.i robot),(3,.i act),(4,.p 0 0),(5,.p 1 0),(8,.p 2 0),(9,.p 3 0),(10,.p 9 0),(11,.i x25)]) (fun x25=>[(0,.box (Q1 s_1)),(1,.box (Q2 st)),(2,.box [.i 0,vN,vN,vN,vN,vN]),(3,.box [.i x5.Tick,.o 4,.o 5,.o 6,.o 7,.o 8]),(4,.val (.os 1 eI x5.Shelves)),(5,.val (.os 6 Q4 x5.Robots)),(6,.val (.os 1 eI x5.People)),(7,.val (.os 1 eI x5.Dead)),(8,.val (.os 2 Q7 x5.Stuck)),(9,.box (Q4 x14))]) 10 g (fun x25 g=>?_) fun J26 g j26=>?_
 refine C.xt (U.ps 2 T rfl (U.st T ?_))
 refine U.done (C.xs (C.ss (U.pd 1 T (C.nx (C.block (C.ss ?_))))))
 refine U.pd 2 T (C.nx ?_)
 refine C.jn (fun (x36:Int)=>[(2,.i robot),(3,.i act),(4,.p 0 0),(5,.p 1 0),(8,.p 2 0),(9,.p 3 0),(10,.p 9 0)]) (fun x36=>[(0,.box (Q1 s_1)),(1,.box (Q2 st)),(2,.box [.i 0,vN,vN,vN,vN,vN]),(3,.box [.i x5.Tick,.o 4,.o 5,.o 6,.o 7,.o 8]),(4,.val (.os 1 eI x5.Shelves)),(5,.val (.os 6 Q4 x5.Robots)),(6,.val (.os 1 eI x5.People)),(7,.val (.os 1 eI x5.Dead)),(8,.val (.os 2 Q7 x5.Stuck)),(9,.box [.i x14.Cell,.i x36,.i x25,.i x14.Rest,.i x14.Mute,.b x14.Dead])]) 10 g (fun x36 g=>?_) fun J37 g j37=>?_
 refine C.bnx (C.xt (U.ps 4 T rfl (U.k (WE s_1 st robot act _ g) Q8z (fun x51 g=>?_))))
 refine U.pd 5 T (C.xs (C.ss ?_))
 refine U.pd 1 T (C.nx ?_)
 refine C.jn (fun (x54:List Int×Int×Int)=>[(2,.i robot),(8,.p 0 0),(9,.p 1 0),(10,.p 7 0)]) (fun x54=>[(0,.box [.i 0,vN,vN,vN,vN,vN]),(1,.box [.i x5.Tick,.o 2,.o 3,.o 4,.o 5,.o 6]),(2,.val (.os 1 eI x54.1)),(3,.val (.os 6 Q4 x5.Robots)),(4,.val (.os 1 eI x5.People)),(5,.val (.os 1 eI x5.Dead)),(6,.val (.os 2 Q7 x5.Stuck)),(7,.box [.i x54.2.1,.i x36,.i x25,.i x54.2.2,.i x14.Mute,.b x14.Dead])]) 8 g (fun x54 g=>?_) fun J55 g j55=>?_
 refine C.xt (U.ps 4 T rfl (U.r rfl (.none rfl) rfl rfl (by exact Rd.io T rfl rfl rfl rfl rfl rfl rfl y14) ?_))
 refine U.e1 rfl (.none rfl) (by exact Eff1.se T (z':=({Cell:=x54.2.1,Load:=x36,Charge:=x25,Rest:=x54.2.2,Mute:=x14.Mute,Dead:=x14.Dead:Q0})) rfl rfl rfl (Q6 y14).2.2 rfl rfl rfl rfl rfl rfl rfl rfl (fun _=>rfl) rfl) ?_
 refine U.done (C.xt (U.ps 1 T rfl (U.st T ?_)))
 refine U.done (C.nx (C.ret ?_))
 exact C.g1 (sqR 2 5) T o ⟨({Tick:=x5.Tick,Shelves:=x54.1,Robots:=(x5.Robots.set (Int.toNat robot) ({Cell:=x54.2.1,Load:=x36,Charge:=x25,Rest:=x54.2.2,Mute:=x14.Mute,Dead:=x14.Dead:Q0})),People:=x5.People,Dead:=x5.Dead,Stuck:=x5.Stuck:ApiState}),g,rfl,rfl,rfl⟩
 refine C.ite rfl g (fun b56 g=>?_) fun b56 g=>?_
 refine C.ss (U.ps 2 T rfl (U.st T ?_))
 refine U.done (C.xt (U.ps 2 T rfl (U.k (Y2 s_1 x51.1 _ g) en59 (fun x61 g=>?_))))
 refine U.ps 2 T rfl (U.st T ?_)
 refine U.done (C.xs ?_)
 refine C.jn (fun (x62:Bool)=>[(2,.i robot),(8,.p 0 0),(9,.p 1 0),(10,.p 7 0),(13,.i x51.1),(89,.b x62)]) (fun x62=>[(0,.box [.i 0,vN,vN,vN,vN,vN]),(1,.box [.i x5.Tick,.o 2,.o 3,.o 4,.o 5,.o 6]),(2,.val (.os 1 eI x5.Shelves)),(3,.val (.os 6 Q4 x5.Robots)),(4,.val (.os 1 eI x5.People)),(5,.val (.os 1 eI x5.Dead)),(6,.val (.os 2 Q7 x5.Stuck)),(7,.box [.i x51.1,.i x36,.i x25,.i (w64 (x61-1)),.i x14.Mute,.b x14.Dead])]) 8 g (fun x62 g=>?_) fun J63 g j63=>?_
 refine C.nx ?_
 refine C.jn (fun (x65:List Int)=>[(2,.i robot),(8,.p 0 0),(9,.p 1 0),(10,.p 7 0)]) (fun x65=>[(0,.box [.i 0,vN,vN,vN,vN,vN]),(1,.box [.i x5.Tick,.o 2,.o 3,.o 4,.o 5,.o 6]),(2,.val (.os 1 eI x65)),(3,.val (.os 6 Q4 x5.Robots)),(4,.val (.os 1 eI x5.People)),(5,.val (.os 1 eI x5.Dead)),(6,.val (.os 2 Q7 x5.Stuck)),(7,.box [.i x51.1,.i x36,.i x25,.i (w64 (x61-1)),.i x14.Mute,.b x14.Dead])]) 8 g (fun x65 g=>?_) fun J66 g j66=>?_
 exact St.wa (idR 8) (j55 _ g)
 refine C.ite rfl g (fun b67 g=>?_) fun b67 g=>?_
 refine U.start (U.ps 5 T rfl ?_)
 obtain⟨x70,y70,g⟩:=g
 refine U.r rfl (.none rfl) rfl rfl (by exact Rd.io T rfl rfl rfl rfl rfl rfl rfl y70) ?_
 refine U.e1 rfl (.none rfl) (by exact Eff1.se T (z':=x51.1) rfl rfl rfl (Q6 y70).2.2 rfl rfl rfl rfl rfl rfl rfl rfl (fun _=>rfl) rfl) ?_
 refine U.done ?_
 exact St.wa (idR 8) (j66 _ g)
 refine C.skip ?_
 exact St.wa (idR 8) (j66 _ g)
 refine U.start (U.ps 4 T rfl ?_)
 refine g.cs (fun b64 g=>?_) fun b64 g=>?_
 refine U.pq 6 3 true 82 b64 T ?_
 refine U.pk b64 ?_
 refine U.done ?_
 exact St.wa (sqR 2 8) (j63 _ g)
 refine U.sk' 6 3 true 82 b64 ?_
 refine U.pk' b64 ?_
 refine U.done ?_
 exact St.wa (sqR 2 8) (j63 _ g)
 refine C.skip ?_
 exact St.wa (sqR 2 8) (j55 _ g)
 refine C.ite rfl g (fun b38 g=>?_) fun b38 g=>?_
 refine U.start (U.ps 4 T rfl (U.k (YX s_1 st x14.Cell _ g) Q8m (fun x41 g=>?_)))
 refine U.ps 1 T rfl (U.st T ?_)
 refine U.done ?_
 exact St.wa (idR 10) (j37 _ g)
 refine C.ss (U.pd 2 T (C.nx ?_))
 refine C.jn (fun (x44:Int)=>[(2,.i robot),(3,.i act),(4,.p 0 0),(5,.p 1 0),(8,.p 2 0),(9,.p 3 0),(10,.p 9 0)]) (fun x44=>[(0,.box (Q1 s_1)),(1,.box (Q2 st)),(2,.box [.i 0,vN,vN,vN,vN,vN]),(3,.box [.i x5.Tick,.o 4,.o 5,.o 6,.o 7,.o 8]),(4,.val (.os 1 eI x5.Shelves)),(5,.val (.os 6 Q4 x5.Robots)),(6,.val (.os 1 eI x5.People)),(7,.val (.os 1 eI x5.Dead)),(8,.val (.os 2 Q7 x5.Stuck)),(9,.box [.i x14.Cell,.i x44,.i x25,.i x14.Rest,.i x14.Mute,.b x14.Dead])]) 10 g (fun x44 g=>?_) fun J45 g j45=>?_
 exact St.wa (idR 10) (j37 _ g)
 refine C.ite rfl g (fun b46 g=>?_) fun b46 g=>?_
 refine U.start (U.ps 1 T rfl (U.st T ?_))
 refine U.done ?_
 exact St.wa (idR 10) (j45 _ g)
 refine C.skip ?_
 exact St.wa (idR 10) (j45 _ g)
 refine C.ite rfl g (fun b27 g=>?_) fun b27 g=>?_
 refine U.start (U.pd 1 T ?_)
 exact St.wa (idR 10) (j26 _ g)
 refine C.skip ?_
 exact St.wa (idR 10) (j26 _ g)
 refine U.start (U.ps 3 T rfl ?_)
 refine g.cs (fun b8 g=>?_) fun b8 g=>?_
 refine U.sk' 5 2 false 19 b8 ?_
 refine U.pk b8 ?_
 refine U.done ?_
 exact St.wa [some 0,some 1,some 2,some 8,some 3,some 4,some 5,some 6,some 7] (j7 _ g)
 refine U.pq 5 2 false 19 b8 T ?_
 refine U.pk' b8 ?_
 refine U.done ?_
 exact St.wa [some 0,some 1,some 2,some 8,some 3,some 4,some 5,some 6,some 7] (j7 _ g)
theorem ZO (s_1:ApiSite) (st:ApiState) (robot:Int) (act:Int) (delay:Int) (post:Int→Prop) (g:KM s_1 st robot act delay post):
  Tr Tryz.prog 30 [.agg (Q1 s_1),.agg (Q2 st),.i robot,.i act,.i delay] [] 0 (pI post):=by
 refine Tr.go Tryz.func30 Tryz.ntmps30 fun _ _ _ _ o=>?_
 unfold KM at g
 refine C.ss (U.bx ?_)
 refine U.bx ?_
 refine U.pd 1 T (C.xt ?_)
 refine U.ps 4 T rfl (U.k (Q06 s_1 st robot act _ g) en69 (fun x5 g=>?_))
 refine U.pd 1 T (C.xs (C.ss ?_))
 refine U.pd 2 T (C.nx ?_)
 refine C.ite rfl g (fun b8 g=>?_) fun b8 g=>?_
 refine C.ss (U.pd 2 T (C.nx (C.ret (C.rt ?_))))
 exact C.f1 T o (pIi g)
 refine C.skip (C.xt (U.ps 4 T rfl (U.k (Xw s_1 st robot delay _ g) en25 (fun x13 g=>?_))))
 refine U.pd 5 T (C.xs ?_)
 refine D.bq mix 9999 [0,1] [] (fun hQ hS ws M'=>?_)
 refine D.pq 7 (zl [0,1,2,3,4,6,7]) T ?_
 refine D.k 5 (Q1x s_1 st robot act _ g) en70 fun x16 g=>?_
 refine D.k 8 (Xw s_1 x16 robot delay _ g) en25 fun x17 g=>?_
 refine D.pq 5 (zl [9,10,11,12,13]) T ?_
 refine D.done (by kernel_rfl) ?_
 refine C.xs (C.ss (U.pd 2 T (C.nx ?_)))
 refine C.ite rfl g (fun b20 g=>?_) fun b20 g=>?_
 refine C.ss (U.pd 1 T (C.nx (C.ret (C.rt ?_))))
 exact C.f1 T o (pIi g)
 refine C.skip (C.xs (C.seq ?_))
 refine C.jn (fun (x23:Bool)=>[(56,.b x23)]) (fun x23=>[]) 0 g (fun x23 g=>?_) fun J24 g j24=>?_
 refine C.nx ?_
 refine C.ite rfl g (fun b27 g=>?_) fun b27 g=>?_
 refine C.ss (U.pd 1 T (C.nx (C.ret (C.rt ?_))))
 exact C.f1 T o (pIi g)
 refine C.skip (C.xt (U.pd 1 T (C.nx (C.ret ?_))))
 exact C.f1 T o (pIi g)
 refine U.start (U.ps 3 T rfl ?_)
 refine g.cs (fun b25 g=>?_) fun b25 g=>?_
 refine U.pq 3 2 true 48 b25 T ?_
 refine g.cs (fun b26 g=>?_) fun b26 g=>?_
 refine U.pq 3 5 false 51 (ntF b26) T ?_
 refine U.r rfl (.tk 2 true 48 b25) rfl rfl (by exact Rd.pk' rfl rfl (ntF b26) rfl) ?_
 refine U.pk b25 ?_
 refine U.done ?_
 exact St.wn (j24 _ g)
 refine U.sk' 3 5 false 51 (ntT b26) ?_
 refine U.r rfl (.tk 2 true 48 b25) rfl rfl (by exact Rd.pk rfl rfl (ntT b26) rfl) ?_
 refine U.pk b25 ?_
 refine U.done ?_
 exact St.wn (j24 _ g)
 refine U.sk' 3 2 true 48 b25 ?_
 refine U.sku 3 5 false 51 rfl rfl rfl ?_
 refine U.sk' 1 2 true 48 b25 ?_
 refine U.pk' b25 ?_
 refine U.done ?_
 exact St.wn (j24 _ g)
theorem YE (s_1:ApiSite) (st:ApiState) (blocked:List Int) (c:Int) (d:Int) (delay:Int) (a:Int) (post:Bool→Prop) (g:V_taquinlaw33_ReachTells s_1 st blocked c d delay a post):
  Tr Tryz.prog 4 [.agg (Q1 s_1),.agg (Q2 st),.sl 1 eI blocked,.i c,.i d,.i delay,.i a] [] 0 (pB post):=by
 refine Tr.go Tryz.func4 Tryz.ntmps4 fun _ _ _ _ o=>?_
 unfold V_taquinlaw33_ReachTells at g
 refine C.ss (U.bx ?_)
 refine U.bx ?_
 refine U.pd 1 T (C.xt ?_)
 refine U.k (Q0d _ g) en6 fun x5 g=>?_
 refine U.pd 1 T (C.xs (C.seq ?_))
 refine C.jn (fun (x6:Bool)=>[(2,.sl 1 eI blocked),(3,.i c),(4,.i d),(5,.i delay),(6,.i a),(7,.p 0 0),(8,.p 1 0),(15,.b x5),(38,.b x6)]) (fun x6=>[(0,.box (Q1 s_1)),(1,.box (Q2 st))]) 2 g (fun x6 g=>?_) fun J7 g j7=>?_
 refine C.nx ?_
 refine C.ite rfl g (fun b12 g=>?_) fun b12 g=>?_
 refine C.ss (U.pd 2 T (C.nx (C.ret (C.rt ?_))))
 exact C.f1 T o (pBi g)
 refine C.skip (C.xs ?_)
 refine C.jn (fun (x15:Bool)=>[(2,.sl 1 eI blocked),(3,.i c),(4,.i d),(5,.i delay),(6,.i a),(7,.p 0 0),(8,.p 1 0),(15,.b x5),(16,.b x15)]) (fun x15=>[(0,.box (Q1 s_1)),(1,.box (Q2 st))]) 2 g (fun x15 g=>?_) fun J16 g j16=>?_
 refine C.xs ?_
 refine C.jn (fun (x26:Bool)=>[(4,.i d),(5,.i delay),(6,.i a),(7,.p 0 0),(8,.p 1 0),(15,.b x5),(16,.b x15),(17,.b x26)]) (fun x26=>[(0,.box (Q1 s_1)),(1,.box (Q2 st))]) 2 g (fun x26 g=>?_) fun J27 g j27=>?_
 refine C.xs (C.seq ?_)
 refine C.jn (fun (x34:Bool)=>[(4,.i d),(5,.i delay),(6,.i a),(7,.p 0 0),(8,.p 1 0),(15,.b x5),(90,.b x34)]) (fun x34=>[(0,.box (Q1 s_1)),(1,.box (Q2 st))]) 2 g (fun x34 g=>?_) fun J35 g j35=>?_
 refine C.nx ?_
 refine C.ite rfl g (fun b37 g=>?_) fun b37 g=>?_
 refine C.ss (U.pd 1 T (C.nx (C.ret (C.rt ?_))))
 exact C.f1 T o (pBi g)
 refine C.skip (C.xs (C.seq ?_))
 refine C.jn (fun (x40:Bool)=>[(4,.i d),(5,.i delay),(6,.i a),(7,.p 0 0),(8,.p 1 0),(15,.b x5),(99,.b x40)]) (fun x40=>[(0,.box (Q1 s_1)),(1,.box (Q2 st))]) 2 g (fun x40 g=>?_) fun J41 g j41=>?_
 refine C.nx ?_
 refine C.ite rfl g (fun b45 g=>?_) fun b45 g=>?_
 refine C.ss (U.pd 2 T (C.nx (C.ret (C.rt ?_))))
 exact C.f1 T o (pBi g)
 refine C.skip (C.xt (U.ps 4 T rfl (U.k (Q2z s_1 st d delay _ g) en10 (fun x50 g=>?_))))
 refine U.pd 5 T (C.xt ?_)
 refine U.ps 4 T rfl (U.k (Xw s_1 st d delay _ g) en25 (fun x53 g=>?_))
 refine U.pd 5 T (C.xs ?_)
 refine C.jn (fun (x54:Bool)=>[(14,.b x54)]) (fun x54=>[]) 0 g (fun x54 g=>?_) fun J55 g j55=>?_
 refine C.nx (C.ret ?_)
 exact C.f1 T o (pBi g)
 refine D.bq mix 9999 [0,1] [] (fun hQ hS ws M'=>?_)
 refine D.pq 2 (zl [0,1]) T ?_
 refine g.cs (fun b56 g=>?_) fun b56 g=>?_
 refine D.pt 2 [] 1 true 118 b56 T ?_
 refine D.pt 3 [] 1 true 118 b56 T ?_
 refine D.pt 4 [] 1 true 118 b56 T ?_
 refine D.kt 5 [] b56 ?_
 refine D.pq 1 [(6,[])] T ?_
 refine g.cs (fun b57 g=>?_) fun b57 g=>?_
 refine D.pt 7 [] 6 true 123 b57 T ?_
 refine D.pt 8 [] 6 true 123 b57 T ?_
 refine D.pt 9 [] 6 true 123 b57 T ?_
 refine D.kt 10 [] b57 ?_
 refine D.pq 1 [(11,[])] T ?_
 refine g.cs (fun b58 g=>?_) fun b58 g=>?_
 refine D.q 12 [] hQ hS rfl (.tk 11 true 128 b58) rfl rfl (by exact Rd.l T rfl rfl rfl) rfl (by kernel_rfl) ?_
 refine D.q 14 [] hQ hS rfl (.tk 11 true 128 b58) rfl rfl (by exact Rd.l T rfl rfl rfl) rfl (by kernel_rfl) ?_
 refine D.k 13 (GX st _ g) en26 (fun x59 g=>?_) (hw:=.take 11 true 128 _ b58 rfl rfl rfl)
 refine D.k 15 (Wu st _ g) en27 (fun x60 g=>?_) (hw:=.take 11 true 128 _ b58 rfl rfl rfl)
 refine D.k 16 (G8 x59 x60 _ g) en18 (fun x61 g=>?_) (hw:=.take 11 true 128 _ b58 rfl rfl rfl)
 refine D.kt 17 [] b58 ?_
 refine D.pq 1 [(18,[])] T ?_
 refine g.cs (fun b62 g=>?_) fun b62 g=>?_
 refine D.q 19 [] hQ hS rfl (.tk 18 true 135 b62) rfl rfl (by exact Rd.l T rfl rfl rfl) rfl (by kernel_rfl) ?_
 refine D.q 20 [] hQ hS rfl (.tk 18 true 135 b62) rfl rfl (by exact Rd.l T rfl rfl rfl) rfl (by kernel_rfl) ?_
 refine D.pt 21 [] 18 true 135 b62 T ?_
 refine D.q 23 [] hQ hS rfl (.tk 18 true 135 b62) rfl rfl (by exact Rd.l T rfl rfl rfl) rfl (by kernel_rfl) ?_
 refine D.q 24 [] hQ hS rfl (.tk 18 true 135 b62) rfl rfl (by exact Rd.l T rfl rfl rfl) rfl (by kernel_rfl) ?_
 refine D.pt 25 [] 18 true 135 b62 T ?_
 refine D.k 22 (Q1P s_1 st delay _ g) en28 (fun x63 g=>?_) (hw:=.take 18 true 135 _ b62 rfl rfl rfl)
 refine D.k 26 (Zn s_1 st delay _ g) en29 (fun x64 g=>?_) (hw:=.take 18 true 135 _ b62 rfl rfl rfl)
 refine D.pt 27 [] 18 true 135 b62 T ?_
 refine D.kt 28 [] b62 ?_
 refine D.pq 1 [(29,[])] T ?_
 refine g.cs (fun b65 g=>?_) fun b65 g=>?_
 refine D.q 30 [] hQ hS rfl (.tk 29 true 146 b65) rfl rfl (by exact Rd.l T rfl rfl rfl) rfl (by kernel_rfl) ?_
 refine D.q 31 [] hQ hS rfl (.tk 29 true 146 b65) rfl rfl (by exact Rd.l T rfl rfl rfl) rfl (by kernel_rfl) ?_
 refine D.pt 32 [] 29 true 146 b65 T ?_
 refine D.pt 33 [] 29 true 146 b65 T ?_
 refine D.pt 34 [] 29 true 146 b65 T ?_
 refine D.q 36 [] hQ hS rfl (.tk 29 true 146 b65) rfl rfl (by exact Rd.l T rfl rfl rfl) rfl (by kernel_rfl) ?_
 refine D.q 37 [] hQ hS rfl (.tk 29 true 146 b65) rfl rfl (by exact Rd.l T rfl rfl rfl) rfl (by kernel_rfl) ?_
 refine D.pt 38 [] 29 true 146 b65 T ?_
 refine D.pt 39 [] 29 true 146 b65 T ?_
 refine D.pt 40 [] 29 true 146 b65 T ?_
 refine D.k 35 (Q2v s_1 st d a delay _ g) en11 (fun x66 g=>?_) (hw:=.take 29 true 146 _ b65 rfl rfl rfl)
 refine D.k 41 (ZO s_1 st d a delay _ g) en30 (fun x67 g=>?_) (hw:=.take 29 true 146 _ b65 rfl rfl rfl)
 refine D.pt 42 [] 29 true 146 b65 T ?_
 refine D.kt 43 [] b65 ?_
 refine D.pq 1 [(44,[])] T ?_
 refine D.done (by kernel_rfl) ?_
 exact St.wn (j55 _ g)
 refine D.sz 30 [] 29 true 146 b65 ?_
 refine D.sz 31 [] 29 true 146 b65 ?_
 refine D.sz 32 [] 29 true 146 b65 ?_
 refine D.sz 33 [] 29 true 146 b65 ?_
 refine D.sz 34 [] 29 true 146 b65 ?_
 refine D.sz 35 [] 29 true 146 b65 ?_
 refine D.sz 36 [] 29 true 146 b65 ?_
 refine D.sz 37 [] 29 true 146 b65 ?_
 refine D.sz 38 [] 29 true 146 b65 ?_
 refine D.sz 39 [] 29 true 146 b65 ?_
 refine D.sz 40 [] 29 true 146 b65 ?_
 refine D.sz 41 [] 29 true 146 b65 ?_
 refine D.sz 42 [] 29 true 146 b65 ?_
 refine D.kf 43 [] b65 ?_
 refine D.pq 1 [(44,[])] T ?_
 refine D.done (by kernel_rfl) ?_
 exact St.wn (j55 _ g)
 refine D.sz 19 [] 18 true 135 b62 ?_
 refine D.sz 20 [] 18 true 135 b62 ?_
 refine D.sz 21 [] 18 true 135 b62 ?_
 refine D.sz 22 [] 18 true 135 b62 ?_
 refine D.sz 23 [] 18 true 135 b62 ?_
 refine D.sz 24 [] 18 true 135 b62 ?_
 refine D.sz 25 [] 18 true 135 b62 ?_
 refine D.sz 26 [] 18 true 135 b62 ?_
 refine D.sz 27 [] 18 true 135 b62 ?_
 refine D.kf 28 [] b62 ?_
 refine D.pq 1 [(29,[])] T ?_
 refine D.sz 30 [] 29 true 146 rfl ?_
 refine D.sz 31 [] 29 true 146 rfl ?_
 refine D.sz 32 [] 29 true 146 rfl ?_
 refine D.sz 33 [] 29 true 146 rfl ?_
 refine D.sz 34 [] 29 true 146 rfl ?_
 refine D.sz 35 [] 29 true 146 rfl ?_
 refine D.sz 36 [] 29 true 146 rfl ?_
 refine D.sz 37 [] 29 true 146 rfl ?_
 refine D.sz 38 [] 29 true 146 rfl ?_
 refine D.sz 39 [] 29 true 146 rfl ?_
 refine D.sz 40 [] 29 true 146 rfl ?_
 refine D.sz 41 [] 29 true 146 rfl ?_
 refine D.sz 42 [] 29 true 146 rfl ?_
 refine D.kf 43 [] rfl ?_
 refine D.pq 1 [(44,[])] T ?_
 refine D.done (by kernel_rfl) ?_
 exact St.wn (j55 _ g)
 refine D.sz 12 [] 11 true 128 b58 ?_
 refine D.sz 13 [] 11 true 128 b58 ?_
 refine D.sz 14 [] 11 true 128 b58 ?_
 refine D.sz 15 [] 11 true 128 b58 ?_
 refine D.sz 16 [] 11 true 128 b58 ?_
 refine D.kf 17 [] b58 ?_
 refine D.pq 1 [(18,[])] T ?_
 refine D.sz 19 [] 18 true 135 rfl ?_
 refine D.sz 20 [] 18 true 135 rfl ?_
 refine D.sz 21 [] 18 true 135 rfl ?_
 refine D.sz 22 [] 18 true 135 rfl ?_
 refine D.sz 23 [] 18 true 135 rfl ?_
 refine D.sz 24 [] 18 true 135 rfl ?_
 refine D.sz 25 [] 18 true 135 rfl ?_
 refine D.sz 26 [] 18 true 135 rfl ?_
 refine D.sz 27 [] 18 true 135 rfl ?_
 refine D.kf 28 [] rfl ?_
 refine D.pq 1 [(29,[])] T ?_
 refine D.sz 30 [] 29 true 146 rfl ?_
 refine D.sz 31 [] 29 true 146 rfl ?_
 refine D.sz 32 [] 29 true 146 rfl ?_
 refine D.sz 33 [] 29 true 146 rfl ?_
 refine D.sz 34 [] 29 true 146 rfl ?_
 refine D.sz 35 [] 29 true 146 rfl ?_
 refine D.sz 36 [] 29 true 146 rfl ?_
 refine D.sz 37 [] 29 true 146 rfl ?_
 refine D.sz 38 [] 29 true 146 rfl ?_
 refine D.sz 39 [] 29 true 146 rfl ?_
 refine D.sz 40 [] 29 true 146 rfl ?_
 refine D.sz 41 [] 29 true 146 rfl ?_
 refine D.sz 42 [] 29 true 146 rfl ?_
 refine D.kf 43 [] rfl ?_
 refine D.pq 1 [(44,[])] T ?_
 refine D.done (by kernel_rfl) ?_
 exact St.wn (j55 _ g)
 refine D.sz 7 [] 6 true 123 b57 ?_
 refine D.sz 8 [] 6 true 123 b57 ?_
 refine D.sz 9 [] 6 true 123 b57 ?_
 refine D.kf 10 [] b57 ?_
 refine D.pq 1 [(11,[])] T ?_
 refine D.sz 12 [] 11 true 128 rfl ?_
 refine D.sz 13 [] 11 true 128 rfl ?_
 refine D.sz 14 [] 11 true 128 rfl ?_
 refine D.sz 15 [] 11 true 128 rfl ?_
 refine D.sz 16 [] 11 true 128 rfl ?_
 refine D.kf 17 [] rfl ?_
 refine D.pq 1 [(18,[])] T ?_
 refine D.sz 19 [] 18 true 135 rfl ?_
 refine D.sz 20 [] 18 true 135 rfl ?_
 refine D.sz 21 [] 18 true 135 rfl ?_
 refine D.sz 22 [] 18 true 135 rfl ?_
 refine D.sz 23 [] 18 true 135 rfl ?_
 refine D.sz 24 [] 18 true 135 rfl ?_
 refine D.sz 25 [] 18 true 135 rfl ?_
 refine D.sz 26 [] 18 true 135 rfl ?_
 refine D.sz 27 [] 18 true 135 rfl ?_
 refine D.kf 28 [] rfl ?_
 refine D.pq 1 [(29,[])] T ?_
 refine D.sz 30 [] 29 true 146 rfl ?_
 refine D.sz 31 [] 29 true 146 rfl ?_
 refine D.sz 32 [] 29 true 146 rfl ?_
 refine D.sz 33 [] 29 true 146 rfl ?_
 refine D.sz 34 [] 29 true 146 rfl ?_
 refine D.sz 35 [] 29 true 146 rfl ?_
 refine D.sz 36 [] 29 true 146 rfl ?_
 refine D.sz 37 [] 29 true 146 rfl ?_
 refine D.sz 38 [] 29 true 146 rfl ?_
 refine D.sz 39 [] 29 true 146 rfl ?_
 refine D.sz 40 [] 29 true 146 rfl ?_
 refine D.sz 41 [] 29 true 146 rfl ?_
 refine D.sz 42 [] 29 true 146 rfl ?_
 refine D.kf 43 [] rfl ?_
 refine D.pq 1 [(44,[])] T ?_
 refine D.done (by kernel_rfl) ?_
 exact St.wn (j55 _ g)
 refine D.sz 2 [] 1 true 118 b56 ?_
 refine D.sz 3 [] 1 true 118 b56 ?_
 refine D.sz 4 [] 1 true 118 b56 ?_
 refine D.kf 5 [] b56 ?_
 refine D.pq 1 [(6,[])] T ?_
 refine D.sz 7 [] 6 true 123 rfl ?_
 refine D.sz 8 [] 6 true 123 rfl ?_
 refine D.sz 9 [] 6 true 123 rfl ?_
 refine D.kf 10 [] rfl ?_
 refine D.pq 1 [(11,[])] T ?_
 refine D.sz 12 [] 11 true 128 rfl ?_
 refine D.sz 13 [] 11 true 128 rfl ?_
 refine D.sz 14 [] 11 true 128 rfl ?_
 refine D.sz 15 [] 11 true 128 rfl ?_
 refine D.sz 16 [] 11 true 128 rfl ?_
 refine D.kf 17 [] rfl ?_
 refine D.pq 1 [(18,[])] T ?_
 refine D.sz 19 [] 18 true 135 rfl ?_
 refine D.sz 20 [] 18 true 135 rfl ?_
 refine D.sz 21 [] 18 true 135 rfl ?_
 refine D.sz 22 [] 18 true 135 rfl ?_
 refine D.sz 23 [] 18 true 135 rfl ?_
 refine D.sz 24 [] 18 true 135 rfl ?_
 refine D.sz 25 [] 18 true 135 rfl ?_
 refine D.sz 26 [] 18 true 135 rfl ?_
 refine D.sz 27 [] 18 true 135 rfl ?_
 refine D.kf 28 [] rfl ?_
 refine D.pq 1 [(29,[])] T ?_
 refine D.sz 30 [] 29 true 146 rfl ?_
 refine D.sz 31 [] 29 true 146 rfl ?_
 refine D.sz 32 [] 29 true 146 rfl ?_
 refine D.sz 33 [] 29 true 146 rfl ?_
 refine D.sz 34 [] 29 true 146 rfl ?_
 refine D.sz 35 [] 29 true 146 rfl ?_
 refine D.sz 36 [] 29 true 146 rfl ?_
 refine D.sz 37 [] 29 true 146 rfl ?_
 refine D.sz 38 [] 29 true 146 rfl ?_
 refine D.sz 39 [] 29 true 146 rfl ?_
 refine D.sz 40 [] 29 true 146 rfl ?_
 refine D.sz 41 [] 29 true 146 rfl ?_
 refine D.sz 42 [] 29 true 146 rfl ?_
 refine D.kf 43 [] rfl ?_
 refine D.pq 1 [(44,[])] T ?_
 refine D.done (by kernel_rfl) ?_
 exact St.wn (j55 _ g)
 refine U.start (U.ps 1 T rfl (U.k (Q15 st _ g) en8 (fun x42 g=>?_)))
 refine U.ps 2 T rfl ?_
 refine g.cs (fun b43 g=>?_) fun b43 g=>?_
 refine U.pq 2 3 false 94 (ntF b43) T ?_
 refine U.k (Q3C s_1 st _ g) en9 (fun x44 g=>?_) (hw:=.take 3 false 94 _ (ntF b43) rfl rfl rfl)
 refine U.pq 1 3 false 94 (ntF b43) T ?_
 refine U.pk' (ntF b43) ?_
 refine U.done ?_
 exact St.wa (idR 2) (j41 _ g)
 refine U.sk' 4 3 false 94 (ntT b43) ?_
 refine U.pk (ntT b43) ?_
 refine U.done ?_
 exact St.wa (idR 2) (j41 _ g)
 refine U.start (U.ps 3 T rfl ?_)
 refine g.cs (fun b36 g=>?_) fun b36 g=>?_
 refine U.pq 2 2 false 87 (ntF b36) T ?_
 refine U.pk' (ntF b36) ?_
 refine U.done ?_
 exact St.wa (idR 2) (j35 _ g)
 refine U.sk' 2 2 false 87 (ntT b36) ?_
 refine U.pk (ntT b36) ?_
 refine U.done ?_
 exact St.wa (idR 2) (j35 _ g)
 refine D.bq mix 9999 [0] [] (fun hQ hS ws M'=>?_)
 refine D.pq 8 (zl [0,1,2,3,5,6,7,8]) T ?_
 refine D.k 4 (Z5 s_1 blocked c delay _ g) en21 fun x28 g=>?_
 refine D.k 9 (Ym s_1 blocked c delay _ g) en22 fun x29 g=>?_
 refine D.pq 2 (zl [10,11]) T ?_
 refine g.cs (fun b30 g=>?_) fun b30 g=>?_
 refine D.q 12 [] hQ hS rfl (.tk 11 true 74 b30) rfl rfl (by exact Rd.l T rfl rfl rfl) rfl (by kernel_rfl) ?_
 refine D.pt 13 [] 11 true 74 b30 T ?_
 refine D.pt 14 [] 11 true 74 b30 T ?_
 refine D.q 16 [] hQ hS rfl (.tk 11 true 74 b30) rfl rfl (by exact Rd.l T rfl rfl rfl) rfl (by kernel_rfl) ?_
 refine D.pt 17 [] 11 true 74 b30 T ?_
 refine D.pt 18 [] 11 true 74 b30 T ?_
 refine D.k 15 (GT s_1 blocked delay _ g) en23 (fun x31 g=>?_) (hw:=.take 11 true 74 _ b30 rfl rfl rfl)
 refine D.k 19 (WW s_1 blocked delay _ g) en24 (fun x32 g=>?_) (hw:=.take 11 true 74 _ b30 rfl rfl rfl)
 refine D.k 20 (G8 x31 x32 _ g) en18 (fun x33 g=>?_) (hw:=.take 11 true 74 _ b30 rfl rfl rfl)
 refine D.kt 21 [] b30 ?_
 refine D.pq 1 [(22,[])] T ?_
 refine D.done (by kernel_rfl) ?_
 exact St.wa (idR 2) (j27 _ g)
 refine D.sz 12 [] 11 true 74 b30 ?_
 refine D.sz 13 [] 11 true 74 b30 ?_
 refine D.sz 14 [] 11 true 74 b30 ?_
 refine D.sz 15 [] 11 true 74 b30 ?_
 refine D.sz 16 [] 11 true 74 b30 ?_
 refine D.sz 17 [] 11 true 74 b30 ?_
 refine D.sz 18 [] 11 true 74 b30 ?_
 refine D.sz 19 [] 11 true 74 b30 ?_
 refine D.sz 20 [] 11 true 74 b30 ?_
 refine D.kf 21 [] b30 ?_
 refine D.pq 1 [(22,[])] T ?_
 refine D.done (by kernel_rfl) ?_
 exact St.wa (idR 2) (j27 _ g)
 refine D.bq mix 9999 [0] [] (fun hQ hS ws M'=>?_)
 refine D.k 0 (Ww _ g) en14 fun x17 g=>?_
 refine D.k 1 (G6 _ g) en15 fun x18 g=>?_
 refine D.pq 2 (zl [2,3]) T ?_
 refine g.cs (fun b19 g=>?_) fun b19 g=>?_
 refine D.q 4 [] hQ hS rfl (.tk 3 true 43 b19) rfl rfl (by exact Rd.l T rfl rfl rfl) rfl (by kernel_rfl) ?_
 refine D.pt 5 [] 3 true 43 b19 T ?_
 refine D.pt 6 [] 3 true 43 b19 T ?_
 refine D.q 8 [] hQ hS rfl (.tk 3 true 43 b19) rfl rfl (by exact Rd.l T rfl rfl rfl) rfl (by kernel_rfl) ?_
 refine D.pt 9 [] 3 true 43 b19 T ?_
 refine D.pt 10 [] 3 true 43 b19 T ?_
 refine D.k 7 (YM s_1 d c _ g) en16 (fun x20 g=>?_) (hw:=.take 3 true 43 _ b19 rfl rfl rfl)
 refine D.k 11 (Y5 s_1 d c _ g) en17 (fun x21 g=>?_) (hw:=.take 3 true 43 _ b19 rfl rfl rfl)
 refine D.pt 12 [] 3 true 43 b19 T ?_
 refine D.kt 13 [] b19 ?_
 refine D.pq 1 [(14,[])] T ?_
 refine g.cs (fun b22 g=>?_) fun b22 g=>?_
 refine D.q 15 [] hQ hS rfl (.tk 14 true 54 b22) rfl rfl (by exact Rd.l T rfl rfl rfl) rfl (by kernel_rfl) ?_
 refine D.pt 16 [] 14 true 54 b22 T ?_
 refine D.q 18 [] hQ hS rfl (.tk 14 true 54 b22) rfl rfl (by exact Rd.l T rfl rfl rfl) rfl (by kernel_rfl) ?_
 refine D.pt 19 [] 14 true 54 b22 T ?_
 refine D.k 17 (Q1n s_1 blocked _ g) en19 (fun x23 g=>?_) (hw:=.take 14 true 54 _ b22 rfl rfl rfl)
 refine D.k 20 (GY s_1 blocked _ g) en20 (fun x24 g=>?_) (hw:=.take 14 true 54 _ b22 rfl rfl rfl)
 refine D.k 21 (G8 x23 x24 _ g) en18 (fun x25 g=>?_) (hw:=.take 14 true 54 _ b22 rfl rfl rfl)
 refine D.kt 22 [] b22 ?_
 refine D.pq 1 [(23,[])] T ?_
 refine D.done (by kernel_rfl) ?_
 exact St.wa (idR 2) (j16 _ g)
 refine D.sz 15 [] 14 true 54 b22 ?_
 refine D.sz 16 [] 14 true 54 b22 ?_
 refine D.sz 17 [] 14 true 54 b22 ?_
 refine D.sz 18 [] 14 true 54 b22 ?_
 refine D.sz 19 [] 14 true 54 b22 ?_
 refine D.sz 20 [] 14 true 54 b22 ?_
 refine D.sz 21 [] 14 true 54 b22 ?_
 refine D.kf 22 [] b22 ?_
 refine D.pq 1 [(23,[])] T ?_
 refine D.done (by kernel_rfl) ?_
 exact St.wa (idR 2) (j16 _ g)
 refine D.sz 4 [] 3 true 43 b19 ?_
 refine D.sz 5 [] 3 true 43 b19 ?_
 refine D.sz 6 [] 3 true 43 b19 ?_
 refine D.sz 7 [] 3 true 43 b19 ?_
 refine D.sz 8 [] 3 true 43 b19 ?_
 refine D.sz 9 [] 3 true 43 b19 ?_
 refine D.sz 10 [] 3 true 43 b19 ?_
 refine D.sz 11 [] 3 true 43 b19 ?_
 refine D.sz 12 [] 3 true 43 b19 ?_
 refine D.kf 13 [] b19 ?_
 refine D.pq 1 [(14,[])] T ?_
 refine D.sz 15 [] 14 true 54 rfl ?_
 refine D.sz 16 [] 14 true 54 rfl ?_
 refine D.sz 17 [] 14 true 54 rfl ?_
 refine D.sz 18 [] 14 true 54 rfl ?_
 refine D.sz 19 [] 14 true 54 rfl ?_
 refine D.sz 20 [] 14 true 54 rfl ?_
 refine D.sz 21 [] 14 true 54 rfl ?_
 refine D.kf 22 [] rfl ?_
 refine D.pq 1 [(23,[])] T ?_
 refine D.done (by kernel_rfl) ?_
 exact St.wa (idR 2) (j16 _ g)
 refine U.start (U.ps 1 T rfl (U.k (Q0C s_1 30 _ g) en7 (fun x8 g=>?_)))
 refine U.ps 2 T rfl ?_
 refine g.cs (fun b9 g=>?_) fun b9 g=>?_
 refine U.pq 3 3 false 26 (ntF b9) T ?_
 refine U.pk' (ntF b9) ?_
 refine U.ps 1 T rfl ?_
 refine g.cs (fun b10 g=>?_) fun b10 g=>?_
 refine U.sk' 2 8 false 31 b10 ?_
 refine U.pk b10 ?_
 refine U.ps 1 T rfl (U.sk' 2 12 false 35 rfl ?_)
 refine U.pk rfl ?_
 refine U.done ?_
 exact St.wa (idR 2) (j7 _ g)
 refine U.pq 2 8 false 31 b10 T ?_
 refine U.pk' b10 ?_
 refine U.ps 1 T rfl ?_
 refine g.cs (fun b11 g=>?_) fun b11 g=>?_
 refine U.sk' 2 12 false 35 b11 ?_
 refine U.pk b11 ?_
 refine U.done ?_
 exact St.wa (idR 2) (j7 _ g)
 refine U.pq 2 12 false 35 b11 T ?_
 refine U.pk' b11 ?_
 refine U.done ?_
 exact St.wa (idR 2) (j7 _ g)
 refine U.sk' 3 3 false 26 (ntT b9) ?_
 refine U.pk (ntT b9) ?_
 refine U.ps 1 T rfl (U.sk' 2 8 false 31 rfl ?_)
 refine U.pk rfl ?_
 refine U.ps 1 T rfl (U.sk' 2 12 false 35 rfl ?_)
 refine U.pk rfl ?_
 refine U.done ?_
 exact St.wa (idR 2) (j7 _ g)
end Go.Proofs.YtdcfcldpjfepiaaGreat
