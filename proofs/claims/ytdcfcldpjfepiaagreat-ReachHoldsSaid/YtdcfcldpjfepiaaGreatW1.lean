/- The walks: each Go function does what its verification condition says (written by a program of the prover). -/
import Derived.Test.YtdcfcldpjfepiaaGreatW0
import Derived.KernelRfl
set_option maxRecDepth 100000
set_option maxHeartbeats 8000000
set_option linter.unusedVariables false
set_option linter.unusedSimpArgs false
namespace Go.Proofs.YtdcfcldpjfepiaaGreat
open Go Go.Taq
theorem Q1M (s_1:ApiSite) (post:Bool→Prop) (g:Xx s_1 post):
  Tr Tryz.prog 37 [.agg (Q0 s_1)] [] 0 (pB post):=by
 refine Tr.go Tryz.func37 Tryz.ntmps37 fun _ _ _ _ o=>?_
 unfold Xx at g
 refine C.ss (U.bx ?_)
 refine U.pd 1 T (C.xs (C.ss ?_))
 refine U.ps 2 T rfl (U.k (Q2y s_1.Floor _ g) en74 (fun x5 g=>?_))
 refine U.pd 1 T (C.nx ?_)
 refine C.ite rfl g (fun b6 g=>?_) fun b6 g=>?_
 refine C.ss (U.pd 1 T (C.nx (C.ret (C.rt ?_))))
 exact C.f1 T o (pBi g)
 refine C.skip (C.xt (U.ps 2 T rfl (U.e rfl (.none rfl) (by exact Eff.c [] (v:=false) (Q0i s_1.Floor _ g) en75 rfl rfl rfl (.eq rfl) trivial rfl rfl rfl rfl rfl rfl (fun h=>by cases h) (.inr ⟨rfl,rfl⟩) (fun _=>rfl) (fun _=>rfl) rfl) (fun x11' g=>?_))))
 obtain⟨x11⟩:=x11'
 refine U.pd 1 T (C.xs (C.ss ?_))
 refine U.pd 4 T (C.nx ?_)
 refine C.jn (fun (x14:Int×Int×Int×List Int×List Int×List Qk×List Q9×List Qm×List Ql×List (Int×Int)×List (Int×Bool)×List (Int×Bool)×List (ByteArray×Int)×List (Int×Bool)×List Int×List Int)=>[(1,.p 0 0),(3,.p 1 0)]) (fun x14=>[(0,.box (Q0 s_1)),(1,.box [.i x14.1,.i x14.2.1,.i x14.2.2.1,.sl 1 eI x14.2.2.2.1,.sl 1 eI x14.2.2.2.2.1,.o 2,.o 3,.o 4,.o 5,.o 6,.o 7,.o 8,.o 9,.o 10,.o 11,.o 12]),(2,.val (.os 5 Q7 x14.2.2.2.2.2.1)),(3,.val (.os 2 Qb x14.2.2.2.2.2.2.1)),(4,.val (.os 2 Q8 x14.2.2.2.2.2.2.2.1)),(5,.val (.os 2 Qa x14.2.2.2.2.2.2.2.2.1)),(6,.val (.om kI veI x14.2.2.2.2.2.2.2.2.2.1)),(7,.val (.om kI veB x14.2.2.2.2.2.2.2.2.2.2.1)),(8,.val (.om kI veB x14.2.2.2.2.2.2.2.2.2.2.2.1)),(9,.val (.om kS veI x14.2.2.2.2.2.2.2.2.2.2.2.2.1)),(10,.val (.om kI veB x14.2.2.2.2.2.2.2.2.2.2.2.2.2.1)),(11,.val (.os 1 eI x14.2.2.2.2.2.2.2.2.2.2.2.2.2.2.1)),(12,.val (.os 1 eI x14.2.2.2.2.2.2.2.2.2.2.2.2.2.2.2))]) 13 g (fun x14 g=>?_) fun J15 g j15=>?_
 refine C.xs (C.ss (U.pd 4 T (C.nx ?_)))
 refine C.jn (fun (x43:Int×Int×Int×List Int×List Int×List Qk×List Q9×List Qm×List Ql×List (Int×Int)×List (Int×Bool)×List (Int×Bool)×List (ByteArray×Int)×List (Int×Bool)×List Int×List Int)=>[(1,.p 0 0),(3,.p 1 0)]) (fun x43=>[(0,.box (Q0 s_1)),(1,.box [.i x43.1,.i x43.2.1,.i x43.2.2.1,.sl 1 eI x43.2.2.2.1,.sl 1 eI x43.2.2.2.2.1,.o 2,.o 3,.o 4,.o 5,.o 6,.o 7,.o 8,.o 9,.o 10,.o 11,.o 12]),(2,.val (.os 5 Q7 x43.2.2.2.2.2.1)),(3,.val (.os 2 Qb x43.2.2.2.2.2.2.1)),(4,.val (.os 2 Q8 x43.2.2.2.2.2.2.2.1)),(5,.val (.os 2 Qa x43.2.2.2.2.2.2.2.2.1)),(6,.val (.om kI veI x43.2.2.2.2.2.2.2.2.2.1)),(7,.val (.om kI veB x43.2.2.2.2.2.2.2.2.2.2.1)),(8,.val (.om kI veB x43.2.2.2.2.2.2.2.2.2.2.2.1)),(9,.val (.om kS veI x43.2.2.2.2.2.2.2.2.2.2.2.2.1)),(10,.val (.om kI veB x43.2.2.2.2.2.2.2.2.2.2.2.2.2.1)),(11,.val (.os 1 eI x43.2.2.2.2.2.2.2.2.2.2.2.2.2.2.1)),(12,.val (.os 1 eI x43.2.2.2.2.2.2.2.2.2.2.2.2.2.2.2))]) 13 g (fun x43 g=>?_) fun J44 g j44=>?_
 refine C.xs (C.ss (U.pd 4 T (C.nx ?_)))
 refine C.jn (fun (x63:Int×Int×Int×List Int×List Int×List Qk×List Q9×List Qm×List Ql×List (Int×Int)×List (Int×Bool)×List (Int×Bool)×List (ByteArray×Int)×List (Int×Bool)×List Int×List Int)=>[(1,.p 0 0),(3,.p 1 0)]) (fun x63=>[(0,.box (Q0 s_1)),(1,.box [.i x63.1,.i x63.2.1,.i x63.2.2.1,.sl 1 eI x63.2.2.2.1,.sl 1 eI x63.2.2.2.2.1,.o 2,.o 3,.o 4,.o 5,.o 6,.o 7,.o 8,.o 9,.o 10,.o 11,.o 12]),(2,.val (.os 5 Q7 x63.2.2.2.2.2.1)),(3,.val (.os 2 Qb x63.2.2.2.2.2.2.1)),(4,.val (.os 2 Q8 x63.2.2.2.2.2.2.2.1)),(5,.val (.os 2 Qa x63.2.2.2.2.2.2.2.2.1)),(6,.val (.om kI veI x63.2.2.2.2.2.2.2.2.2.1)),(7,.val (.om kI veB x63.2.2.2.2.2.2.2.2.2.2.1)),(8,.val (.om kI veB x63.2.2.2.2.2.2.2.2.2.2.2.1)),(9,.val (.om kS veI x63.2.2.2.2.2.2.2.2.2.2.2.2.1)),(10,.val (.om kI veB x63.2.2.2.2.2.2.2.2.2.2.2.2.2.1)),(11,.val (.os 1 eI x63.2.2.2.2.2.2.2.2.2.2.2.2.2.2.1)),(12,.val (.os 1 eI x63.2.2.2.2.2.2.2.2.2.2.2.2.2.2.2))]) 13 g (fun x63 g=>?_) fun J64 g j64=>?_
 refine C.xs (C.ss (U.pd 4 T (C.nx ?_)))
 refine C.jn (fun (x83:Int×Int×Int×List Int×List Int×List Qk×List Q9×List Qm×List Ql×List (Int×Int)×List (Int×Bool)×List (Int×Bool)×List (ByteArray×Int)×List (Int×Bool)×List Int×List Int)=>[(3,.p 0 0)]) (fun x83=>[(0,.box [.i x83.1,.i x83.2.1,.i x83.2.2.1,.sl 1 eI x83.2.2.2.1,.sl 1 eI x83.2.2.2.2.1,.o 1,.o 2,.o 3,.o 4,.o 5,.o 6,.o 7,.o 8,.o 9,.o 10,.o 11]),(1,.val (.os 5 Q7 x83.2.2.2.2.2.1)),(2,.val (.os 2 Qb x83.2.2.2.2.2.2.1)),(3,.val (.os 2 Q8 x83.2.2.2.2.2.2.2.1)),(4,.val (.os 2 Qa x83.2.2.2.2.2.2.2.2.1)),(5,.val (.om kI veI x83.2.2.2.2.2.2.2.2.2.1)),(6,.val (.om kI veB x83.2.2.2.2.2.2.2.2.2.2.1)),(7,.val (.om kI veB x83.2.2.2.2.2.2.2.2.2.2.2.1)),(8,.val (.om kS veI x83.2.2.2.2.2.2.2.2.2.2.2.2.1)),(9,.val (.om kI veB x83.2.2.2.2.2.2.2.2.2.2.2.2.2.1)),(10,.val (.os 1 eI x83.2.2.2.2.2.2.2.2.2.2.2.2.2.2.1)),(11,.val (.os 1 eI x83.2.2.2.2.2.2.2.2.2.2.2.2.2.2.2))]) 12 g (fun x83 g=>?_) fun J84 g j84=>?_
 refine C.xs ?_
 refine C.jn (fun (x101:Bool)=>[(2,.b x101)]) (fun x101=>[]) 0 g (fun x101 g=>?_) fun J102 g j102=>?_
 refine C.nx (C.ret ?_)
 exact C.f1 T o (pBi g)
 refine U.start (U.ps 1 T rfl ?_)
 refine U.k (YO ({site:=({Floor:=({W:=x83.1,H:=x83.2.1,D:=x83.2.2.1,Kind:=x83.2.2.2.1,Out:=x83.2.2.2.2.1:ApiFloor}),Zones:=x83.2.2.2.2.2.1,Aparts:=x83.2.2.2.2.2.2.1,Shelves:=x83.2.2.2.2.2.2.2.1,Robots:=x83.2.2.2.2.2.2.2.2.1:ApiSite}),shelf:=x83.2.2.2.2.2.2.2.2.2.1,robot:=x83.2.2.2.2.2.2.2.2.2.2.1,zoned:=x83.2.2.2.2.2.2.2.2.2.2.2.1,names:=x83.2.2.2.2.2.2.2.2.2.2.2.2.1,oneways:=x83.2.2.2.2.2.2.2.2.2.2.2.2.2.1,shelves:=x83.2.2.2.2.2.2.2.2.2.2.2.2.2.2.1,zones:=x83.2.2.2.2.2.2.2.2.2.2.2.2.2.2.2:SurveyMaker}) _ g) en84 fun x103 g=>?_
 refine U.ps 2 T rfl ?_
 refine g.cs (fun b104 g=>?_) fun b104 g=>?_
 refine U.pq 1 3 true 100 b104 T ?_
 refine U.k (Yy ({site:=({Floor:=({W:=x83.1,H:=x83.2.1,D:=x83.2.2.1,Kind:=x83.2.2.2.1,Out:=x83.2.2.2.2.1:ApiFloor}),Zones:=x83.2.2.2.2.2.1,Aparts:=x83.2.2.2.2.2.2.1,Shelves:=x83.2.2.2.2.2.2.2.1,Robots:=x83.2.2.2.2.2.2.2.2.1:ApiSite}),shelf:=x83.2.2.2.2.2.2.2.2.2.1,robot:=x83.2.2.2.2.2.2.2.2.2.2.1,zoned:=x83.2.2.2.2.2.2.2.2.2.2.2.1,names:=x83.2.2.2.2.2.2.2.2.2.2.2.2.1,oneways:=x83.2.2.2.2.2.2.2.2.2.2.2.2.2.1,shelves:=x83.2.2.2.2.2.2.2.2.2.2.2.2.2.2.1,zones:=x83.2.2.2.2.2.2.2.2.2.2.2.2.2.2.2:SurveyMaker}) _ g) en85 (fun x105 g=>?_) (hw:=.take 3 true 100 _ b104 rfl rfl rfl)
 refine U.pq 1 3 true 100 b104 T ?_
 refine U.pk b104 ?_
 refine U.ps 1 T rfl ?_
 refine g.cs (fun b106 g=>?_) fun b106 g=>?_
 refine U.pq 1 8 true 105 b106 T ?_
 refine U.k (Yz ({site:=({Floor:=({W:=x83.1,H:=x83.2.1,D:=x83.2.2.1,Kind:=x83.2.2.2.1,Out:=x83.2.2.2.2.1:ApiFloor}),Zones:=x83.2.2.2.2.2.1,Aparts:=x83.2.2.2.2.2.2.1,Shelves:=x83.2.2.2.2.2.2.2.1,Robots:=x83.2.2.2.2.2.2.2.2.1:ApiSite}),shelf:=x83.2.2.2.2.2.2.2.2.2.1,robot:=x83.2.2.2.2.2.2.2.2.2.2.1,zoned:=x83.2.2.2.2.2.2.2.2.2.2.2.1,names:=x83.2.2.2.2.2.2.2.2.2.2.2.2.1,oneways:=x83.2.2.2.2.2.2.2.2.2.2.2.2.2.1,shelves:=x83.2.2.2.2.2.2.2.2.2.2.2.2.2.2.1,zones:=x83.2.2.2.2.2.2.2.2.2.2.2.2.2.2.2:SurveyMaker}) _ g) en86 (fun x107 g=>?_) (hw:=.take 8 true 105 _ b106 rfl rfl rfl)
 refine U.pk b106 ?_
 refine U.pd 1 T ?_
 exact St.wn (j102 _ g)
 refine U.sk' 2 8 true 105 b106 ?_
 refine U.pk' b106 ?_
 refine U.pd 1 T ?_
 exact St.wn (j102 _ g)
 refine U.sk' 3 3 true 100 b104 ?_
 refine U.pk' b104 ?_
 refine U.ps 1 T rfl (U.sk' 2 8 true 105 rfl ?_)
 refine U.pk' rfl ?_
 refine U.pd 1 T ?_
 exact St.wn (j102 _ g)
 refine C.block ?_
 refine St.wk (C.loop (fun (s85:Int×Int×Int×List Int×List Int×List Qk×List Q9×List Qm×List Ql×List (Int×Int)×List (Int×Bool)×List (Int×Bool)×List (ByteArray×Int)×List (Int×Bool)×List Int×List Int×Int)=>[(3,.p 0 0),(86,.sl 2 Qa s_1.Robots),(87,.i (s_1.Robots.length:Int)),(88,.i s85.2.2.2.2.2.2.2.2.2.2.2.2.2.2.2.2)]) (fun s85=>[(0,.box [.i s85.1,.i s85.2.1,.i s85.2.2.1,.sl 1 eI s85.2.2.2.1,.sl 1 eI s85.2.2.2.2.1,.o 1,.o 2,.o 3,.o 4,.o 5,.o 6,.o 7,.o 8,.o 9,.o 10,.o 11]),(1,.val (.os 5 Q7 s85.2.2.2.2.2.1)),(2,.val (.os 2 Qb s85.2.2.2.2.2.2.1)),(3,.val (.os 2 Q8 s85.2.2.2.2.2.2.2.1)),(4,.val (.os 2 Qa s85.2.2.2.2.2.2.2.2.1)),(5,.val (.om kI veI s85.2.2.2.2.2.2.2.2.2.1)),(6,.val (.om kI veB s85.2.2.2.2.2.2.2.2.2.2.1)),(7,.val (.om kI veB s85.2.2.2.2.2.2.2.2.2.2.2.1)),(8,.val (.om kS veI s85.2.2.2.2.2.2.2.2.2.2.2.2.1)),(9,.val (.om kI veB s85.2.2.2.2.2.2.2.2.2.2.2.2.2.1)),(10,.val (.os 1 eI s85.2.2.2.2.2.2.2.2.2.2.2.2.2.2.1)),(11,.val (.os 1 eI s85.2.2.2.2.2.2.2.2.2.2.2.2.2.2.2.1))]) g (fun s85 Y86 g=>?_)) (Wk.a (sqR 1 12))
 refine C.ss (U.pd 1 T (C.xs ?_))
 refine C.ite rfl g (fun b89 g=>?_) fun b89 g=>?_
 refine C.skip (C.xs (C.block (C.ss ?_)))
 obtain⟨x92,y92,g⟩:=g
 refine U.ix T y92 ?_
 refine U.ps 1 T rfl (U.al T ?_)
 refine U.st T ?_
 refine U.done (C.xt (U.ps 2 T rfl ?_))
 refine U.c (idR 12) (WI x92 ({site:=({Floor:=({W:=s85.1,H:=s85.2.1,D:=s85.2.2.1,Kind:=s85.2.2.2.1,Out:=s85.2.2.2.2.1:ApiFloor}),Zones:=s85.2.2.2.2.2.1,Aparts:=s85.2.2.2.2.2.2.1,Shelves:=s85.2.2.2.2.2.2.2.1,Robots:=s85.2.2.2.2.2.2.2.2.1:ApiSite}),shelf:=s85.2.2.2.2.2.2.2.2.2.1,robot:=s85.2.2.2.2.2.2.2.2.2.2.1,zoned:=s85.2.2.2.2.2.2.2.2.2.2.2.1,names:=s85.2.2.2.2.2.2.2.2.2.2.2.2.1,oneways:=s85.2.2.2.2.2.2.2.2.2.2.2.2.2.1,shelves:=s85.2.2.2.2.2.2.2.2.2.2.2.2.2.2.1,zones:=s85.2.2.2.2.2.2.2.2.2.2.2.2.2.2.2.1:SurveyMaker}) _ g) en83 fun x95 g=>?_
 refine U.pd 1 T (C.nx ?_)
 refine C.ite rfl g (fun b96 g=>?_) fun b96 g=>?_
 refine C.ss (U.pd 1 T (C.nx (C.ret (C.brt (C.rt (C.rt (C.brt (C.rt ?_))))))))
 exact C.f1 T o (pBi g)
 refine C.skip (C.bnx (C.nx (U.start (U.pd 2 T (C.nx ?_)))))
 exact St.wk (C.next g) (Wk.a [some 0,some 25,some 26,some 27,some 28,some 29,some 30,some 31,some 32,some 33,some 34,some 35])
 refine C.exit (C.ex (C.ex (C.bex ?_)))
 exact St.wa (idR 12) (j84 _ g)
 refine C.block ?_
 refine St.wk (C.loop (fun (s65:Int×Int×Int×List Int×List Int×List Qk×List Q9×List Qm×List Ql×List (Int×Int)×List (Int×Bool)×List (Int×Bool)×List (ByteArray×Int)×List (Int×Bool)×List Int×List Int×Int)=>[(1,.p 0 0),(3,.p 1 0),(74,.sl 2 Q8 s_1.Shelves),(75,.i (s_1.Shelves.length:Int)),(76,.i s65.2.2.2.2.2.2.2.2.2.2.2.2.2.2.2.2)]) (fun s65=>[(0,.box (Q0 s_1)),(1,.box [.i s65.1,.i s65.2.1,.i s65.2.2.1,.sl 1 eI s65.2.2.2.1,.sl 1 eI s65.2.2.2.2.1,.o 2,.o 3,.o 4,.o 5,.o 6,.o 7,.o 8,.o 9,.o 10,.o 11,.o 12]),(2,.val (.os 5 Q7 s65.2.2.2.2.2.1)),(3,.val (.os 2 Qb s65.2.2.2.2.2.2.1)),(4,.val (.os 2 Q8 s65.2.2.2.2.2.2.2.1)),(5,.val (.os 2 Qa s65.2.2.2.2.2.2.2.2.1)),(6,.val (.om kI veI s65.2.2.2.2.2.2.2.2.2.1)),(7,.val (.om kI veB s65.2.2.2.2.2.2.2.2.2.2.1)),(8,.val (.om kI veB s65.2.2.2.2.2.2.2.2.2.2.2.1)),(9,.val (.om kS veI s65.2.2.2.2.2.2.2.2.2.2.2.2.1)),(10,.val (.om kI veB s65.2.2.2.2.2.2.2.2.2.2.2.2.2.1)),(11,.val (.os 1 eI s65.2.2.2.2.2.2.2.2.2.2.2.2.2.2.1)),(12,.val (.os 1 eI s65.2.2.2.2.2.2.2.2.2.2.2.2.2.2.2.1))]) g (fun s65 Y66 g=>?_)) (Wk.a (idR 13))
 refine C.ss (U.pd 1 T (C.xs ?_))
 refine C.ite rfl g (fun b69 g=>?_) fun b69 g=>?_
 refine C.skip (C.xs (C.block (C.ss ?_)))
 obtain⟨x72,y72,g⟩:=g
 refine U.ix T y72 ?_
 refine U.ps 1 T rfl (U.al T ?_)
 refine U.st T ?_
 refine U.done (C.xt (U.ps 2 T rfl ?_))
 refine U.c (sqR 1 12) (WB x72 ({site:=({Floor:=({W:=s65.1,H:=s65.2.1,D:=s65.2.2.1,Kind:=s65.2.2.2.1,Out:=s65.2.2.2.2.1:ApiFloor}),Zones:=s65.2.2.2.2.2.1,Aparts:=s65.2.2.2.2.2.2.1,Shelves:=s65.2.2.2.2.2.2.2.1,Robots:=s65.2.2.2.2.2.2.2.2.1:ApiSite}),shelf:=s65.2.2.2.2.2.2.2.2.2.1,robot:=s65.2.2.2.2.2.2.2.2.2.2.1,zoned:=s65.2.2.2.2.2.2.2.2.2.2.2.1,names:=s65.2.2.2.2.2.2.2.2.2.2.2.2.1,oneways:=s65.2.2.2.2.2.2.2.2.2.2.2.2.2.1,shelves:=s65.2.2.2.2.2.2.2.2.2.2.2.2.2.2.1,zones:=s65.2.2.2.2.2.2.2.2.2.2.2.2.2.2.2.1:SurveyMaker}) _ g) en82 fun x75 g=>?_
 refine U.pd 1 T (C.nx ?_)
 refine C.ite rfl g (fun b76 g=>?_) fun b76 g=>?_
 refine C.ss (U.pd 1 T (C.nx (C.ret (C.brt (C.rt (C.rt (C.brt (C.rt ?_))))))))
 exact C.f1 T o (pBi g)
 refine C.skip (C.bnx (C.nx (U.start (U.pd 2 T (C.nx ?_)))))
 exact St.wk (C.next g) (Wk.a [some 0,some 1,some 26,some 27,some 28,some 29,some 30,some 31,some 32,some 33,some 34,some 35,some 36])
 refine C.exit (C.ex (C.ex (C.bex ?_)))
 exact St.wa (idR 13) (j64 _ g)
 refine C.block ?_
 refine St.wk (C.loop (fun (s45:Int×Int×Int×List Int×List Int×List Qk×List Q9×List Qm×List Ql×List (Int×Int)×List (Int×Bool)×List (Int×Bool)×List (ByteArray×Int)×List (Int×Bool)×List Int×List Int×Int)=>[(1,.p 0 0),(3,.p 1 0),(62,.sl 2 Qb s_1.Aparts),(63,.i (s_1.Aparts.length:Int)),(64,.i s45.2.2.2.2.2.2.2.2.2.2.2.2.2.2.2.2)]) (fun s45=>[(0,.box (Q0 s_1)),(1,.box [.i s45.1,.i s45.2.1,.i s45.2.2.1,.sl 1 eI s45.2.2.2.1,.sl 1 eI s45.2.2.2.2.1,.o 2,.o 3,.o 4,.o 5,.o 6,.o 7,.o 8,.o 9,.o 10,.o 11,.o 12]),(2,.val (.os 5 Q7 s45.2.2.2.2.2.1)),(3,.val (.os 2 Qb s45.2.2.2.2.2.2.1)),(4,.val (.os 2 Q8 s45.2.2.2.2.2.2.2.1)),(5,.val (.os 2 Qa s45.2.2.2.2.2.2.2.2.1)),(6,.val (.om kI veI s45.2.2.2.2.2.2.2.2.2.1)),(7,.val (.om kI veB s45.2.2.2.2.2.2.2.2.2.2.1)),(8,.val (.om kI veB s45.2.2.2.2.2.2.2.2.2.2.2.1)),(9,.val (.om kS veI s45.2.2.2.2.2.2.2.2.2.2.2.2.1)),(10,.val (.om kI veB s45.2.2.2.2.2.2.2.2.2.2.2.2.2.1)),(11,.val (.os 1 eI s45.2.2.2.2.2.2.2.2.2.2.2.2.2.2.1)),(12,.val (.os 1 eI s45.2.2.2.2.2.2.2.2.2.2.2.2.2.2.2.1))]) g (fun s45 Y46 g=>?_)) (Wk.a (idR 13))
 refine C.ss (U.pd 1 T (C.xs ?_))
 refine C.ite rfl g (fun b49 g=>?_) fun b49 g=>?_
 refine C.skip (C.xs (C.block (C.ss ?_)))
 obtain⟨x52,y52,g⟩:=g
 refine U.ix T y52 ?_
 refine U.ps 1 T rfl (U.al T ?_)
 refine U.st T ?_
 refine U.done (C.xt (U.ps 2 T rfl ?_))
 refine U.c (sqR 1 12) (WH x52 ({site:=({Floor:=({W:=s45.1,H:=s45.2.1,D:=s45.2.2.1,Kind:=s45.2.2.2.1,Out:=s45.2.2.2.2.1:ApiFloor}),Zones:=s45.2.2.2.2.2.1,Aparts:=s45.2.2.2.2.2.2.1,Shelves:=s45.2.2.2.2.2.2.2.1,Robots:=s45.2.2.2.2.2.2.2.2.1:ApiSite}),shelf:=s45.2.2.2.2.2.2.2.2.2.1,robot:=s45.2.2.2.2.2.2.2.2.2.2.1,zoned:=s45.2.2.2.2.2.2.2.2.2.2.2.1,names:=s45.2.2.2.2.2.2.2.2.2.2.2.2.1,oneways:=s45.2.2.2.2.2.2.2.2.2.2.2.2.2.1,shelves:=s45.2.2.2.2.2.2.2.2.2.2.2.2.2.2.1,zones:=s45.2.2.2.2.2.2.2.2.2.2.2.2.2.2.2.1:SurveyMaker}) _ g) en81 fun x55 g=>?_
 refine U.pd 1 T (C.nx ?_)
 refine C.ite rfl g (fun b56 g=>?_) fun b56 g=>?_
 refine C.ss (U.pd 1 T (C.nx (C.ret (C.brt (C.rt (C.rt (C.brt (C.rt ?_))))))))
 exact C.f1 T o (pBi g)
 refine C.skip (C.bnx (C.nx (U.start (U.pd 2 T (C.nx ?_)))))
 exact St.wk (C.next g) (Wk.a [some 0,some 1,some 26,some 27,some 28,some 29,some 30,some 31,some 32,some 33,some 34,some 35,some 36])
 refine C.exit (C.ex (C.ex (C.bex ?_)))
 exact St.wa (idR 13) (j44 _ g)
 refine C.block ?_
 refine St.wk (C.loop (fun (s16:Int×Int×Int×List Int×List Int×List Qk×List Q9×List Qm×List Ql×List (Int×Int)×List (Int×Bool)×List (Int×Bool)×List (ByteArray×Int)×List (Int×Bool)×List Int×List Int×Int)=>[(1,.p 0 0),(3,.p 1 0),(20,.sl 5 Q7 s_1.Zones),(21,.i (s_1.Zones.length:Int)),(22,.i s16.2.2.2.2.2.2.2.2.2.2.2.2.2.2.2.2)]) (fun s16=>[(0,.box (Q0 s_1)),(1,.box [.i s16.1,.i s16.2.1,.i s16.2.2.1,.sl 1 eI s16.2.2.2.1,.sl 1 eI s16.2.2.2.2.1,.o 2,.o 3,.o 4,.o 5,.o 6,.o 7,.o 8,.o 9,.o 10,.o 11,.o 12]),(2,.val (.os 5 Q7 s16.2.2.2.2.2.1)),(3,.val (.os 2 Qb s16.2.2.2.2.2.2.1)),(4,.val (.os 2 Q8 s16.2.2.2.2.2.2.2.1)),(5,.val (.os 2 Qa s16.2.2.2.2.2.2.2.2.1)),(6,.val (.om kI veI s16.2.2.2.2.2.2.2.2.2.1)),(7,.val (.om kI veB s16.2.2.2.2.2.2.2.2.2.2.1)),(8,.val (.om kI veB s16.2.2.2.2.2.2.2.2.2.2.2.1)),(9,.val (.om kS veI s16.2.2.2.2.2.2.2.2.2.2.2.2.1)),(10,.val (.om kI veB s16.2.2.2.2.2.2.2.2.2.2.2.2.2.1)),(11,.val (.os 1 eI s16.2.2.2.2.2.2.2.2.2.2.2.2.2.2.1)),(12,.val (.os 1 eI s16.2.2.2.2.2.2.2.2.2.2.2.2.2.2.2.1))]) g (fun s16 Y17 g=>?_)) (Wk.a [some 0,some 12,some 1,some 2,some 3,some 4,some 5,some 6,some 7,some 8,some 9,some 10,some 11])
 refine C.ss (U.pd 1 T (C.xs ?_))
 refine C.ite rfl g (fun b20 g=>?_) fun b20 g=>?_
 refine C.skip (C.xs (C.block (C.ss ?_)))
 obtain⟨x23,y23,g⟩:=g
 refine U.ix T y23 ?_
 refine U.ps 1 T rfl (U.al T ?_)
 refine U.st T ?_
 refine U.done (C.xs ?_)
 refine C.jn (fun (x24:Int×Int×Int×List Int×List Int×List Qk×List Q9×List Qm×List Ql×List (Int×Int)×List (Int×Bool)×List (Int×Bool)×List (ByteArray×Int)×List (Int×Bool)×List Int×List Int×Bool)=>[(1,.p 0 0),(3,.p 1 0),(20,.sl 5 Q7 s_1.Zones),(21,.i (s_1.Zones.length:Int)),(22,.i s16.2.2.2.2.2.2.2.2.2.2.2.2.2.2.2.2),(59,.b x24.2.2.2.2.2.2.2.2.2.2.2.2.2.2.2.2)]) (fun x24=>[(0,.box (Q0 s_1)),(1,.box [.i x24.1,.i x24.2.1,.i x24.2.2.1,.sl 1 eI x24.2.2.2.1,.sl 1 eI x24.2.2.2.2.1,.o 2,.o 3,.o 4,.o 5,.o 6,.o 7,.o 8,.o 9,.o 10,.o 11,.o 12]),(2,.val (.os 5 Q7 x24.2.2.2.2.2.1)),(3,.val (.os 2 Qb x24.2.2.2.2.2.2.1)),(4,.val (.os 2 Q8 x24.2.2.2.2.2.2.2.1)),(5,.val (.os 2 Qa x24.2.2.2.2.2.2.2.2.1)),(6,.val (.om kI veI x24.2.2.2.2.2.2.2.2.2.1)),(7,.val (.om kI veB x24.2.2.2.2.2.2.2.2.2.2.1)),(8,.val (.om kI veB x24.2.2.2.2.2.2.2.2.2.2.2.1)),(9,.val (.om kS veI x24.2.2.2.2.2.2.2.2.2.2.2.2.1)),(10,.val (.om kI veB x24.2.2.2.2.2.2.2.2.2.2.2.2.2.1)),(11,.val (.os 1 eI x24.2.2.2.2.2.2.2.2.2.2.2.2.2.2.1)),(12,.val (.os 1 eI x24.2.2.2.2.2.2.2.2.2.2.2.2.2.2.2.1))]) 13 g (fun x24 g=>?_) fun J25 g j25=>?_
 refine C.nx ?_
 refine C.ite rfl g (fun b36 g=>?_) fun b36 g=>?_
 refine C.ss (U.pd 1 T (C.nx (C.ret (C.brt (C.rt (C.rt (C.brt (C.rt ?_))))))))
 exact C.f1 T o (pBi g)
 refine C.skip (C.bnx (C.nx (U.start (U.pd 2 T (C.nx ?_)))))
 exact St.wk (C.next g) (Wk.a (idR 13))
 refine U.start (U.ps 2 T rfl (U.k (Wl x23.Name _ g) en76 (fun x26 g=>?_)))
 refine U.ps 2 T rfl ?_
 refine g.cs (fun b27 g=>?_) fun b27 g=>?_
 refine U.pq 2 4 false 30 (ntF b27) T ?_
 refine U.k (Z0 x23.Speed 1 100 _ g) en77 (fun x28 g=>?_) (hw:=.take 4 false 30 _ (ntF b27) rfl rfl rfl)
 refine U.pq 1 4 false 30 (ntF b27) T ?_
 refine U.pk' (ntF b27) ?_
 refine U.ps 1 T rfl ?_
 refine g.cs (fun b29 g=>?_) fun b29 g=>?_
 refine U.pq 3 10 false 36 (ntF b29) T ?_
 refine U.pk' (ntF b29) ?_
 refine U.ps 1 T rfl ?_
 refine g.cs (fun b30 g=>?_) fun b30 g=>?_
 refine U.sk' 4 15 false 41 b30 ?_
 refine U.pk b30 ?_
 refine U.ps 1 T rfl (U.sk' 5 21 false 47 rfl ?_)
 refine U.pk rfl ?_
 refine U.ps 1 T rfl (U.sk' 4 28 false 54 rfl ?_)
 refine U.pk rfl ?_
 refine U.done ?_
 exact St.wa (idR 13) (j25 _ g)
 refine U.pq 2 15 false 41 b30 T ?_
 refine U.k (Q35 x23.Shut _ g) en78 (fun x31 g=>?_) (hw:=.take 15 false 41 _ b30 rfl rfl rfl)
 refine U.pq 1 15 false 41 b30 T ?_
 refine U.pk' b30 ?_
 refine U.ps 1 T rfl ?_
 refine g.cs (fun b32 g=>?_) fun b32 g=>?_
 refine U.pq 3 21 false 47 (ntF b32) T ?_
 refine U.k (Zg ({site:=({Floor:=({W:=s16.1,H:=s16.2.1,D:=s16.2.2.1,Kind:=s16.2.2.2.1,Out:=s16.2.2.2.2.1:ApiFloor}),Zones:=s16.2.2.2.2.2.1,Aparts:=s16.2.2.2.2.2.2.1,Shelves:=s16.2.2.2.2.2.2.2.1,Robots:=s16.2.2.2.2.2.2.2.2.1:ApiSite}),shelf:=s16.2.2.2.2.2.2.2.2.2.1,robot:=s16.2.2.2.2.2.2.2.2.2.2.1,zoned:=s16.2.2.2.2.2.2.2.2.2.2.2.1,names:=s16.2.2.2.2.2.2.2.2.2.2.2.2.1,oneways:=s16.2.2.2.2.2.2.2.2.2.2.2.2.2.1,shelves:=s16.2.2.2.2.2.2.2.2.2.2.2.2.2.2.1,zones:=s16.2.2.2.2.2.2.2.2.2.2.2.2.2.2.2.1:SurveyMaker}) x23.Cells _ g) en79 (fun x33 g=>?_) (hw:=.take 21 false 47 _ (ntF b32) rfl rfl rfl)
 refine U.pq 1 21 false 47 (ntF b32) T ?_
 refine U.pk' (ntF b32) ?_
 refine U.ps 1 T rfl ?_
 refine g.cs (fun b34 g=>?_) fun b34 g=>?_
 refine U.pq 2 28 false 54 (ntF b34) T ?_
 refine U.c (sqR 1 12) (WK x23 ({site:=({Floor:=({W:=s16.1,H:=s16.2.1,D:=s16.2.2.1,Kind:=s16.2.2.2.1,Out:=s16.2.2.2.2.1:ApiFloor}),Zones:=s16.2.2.2.2.2.1,Aparts:=s16.2.2.2.2.2.2.1,Shelves:=s16.2.2.2.2.2.2.2.1,Robots:=s16.2.2.2.2.2.2.2.2.1:ApiSite}),shelf:=s16.2.2.2.2.2.2.2.2.2.1,robot:=s16.2.2.2.2.2.2.2.2.2.2.1,zoned:=s16.2.2.2.2.2.2.2.2.2.2.2.1,names:=s16.2.2.2.2.2.2.2.2.2.2.2.2.1,oneways:=s16.2.2.2.2.2.2.2.2.2.2.2.2.2.1,shelves:=s16.2.2.2.2.2.2.2.2.2.2.2.2.2.2.1,zones:=s16.2.2.2.2.2.2.2.2.2.2.2.2.2.2.2.1:SurveyMaker}) _ g) en80 (fun x35 g=>?_) (hw:=.take 28 false 54 _ (ntF b34) rfl rfl rfl)
 refine U.pq 1 28 false 54 (ntF b34) T ?_
 refine U.pk' (ntF b34) ?_
 refine U.done ?_
 exact St.wa [some 0,some 1,some 26,some 27,some 28,some 29,some 30,some 31,some 32,some 33,some 34,some 35,some 36] (j25 _ g)
 refine U.sk' 4 28 false 54 (ntT b34) ?_
 refine U.pk (ntT b34) ?_
 refine U.done ?_
 exact St.wa (idR 13) (j25 _ g)
 refine U.sk' 5 21 false 47 (ntT b32) ?_
 refine U.pk (ntT b32) ?_
 refine U.ps 1 T rfl (U.sk' 4 28 false 54 rfl ?_)
 refine U.pk rfl ?_
 refine U.done ?_
 exact St.wa (idR 13) (j25 _ g)
 refine U.sk' 3 10 false 36 (ntT b29) ?_
 refine U.pk (ntT b29) ?_
 refine U.ps 1 T rfl (U.sk' 4 15 false 41 rfl ?_)
 refine U.pk rfl ?_
 refine U.ps 1 T rfl (U.sk' 5 21 false 47 rfl ?_)
 refine U.pk rfl ?_
 refine U.ps 1 T rfl (U.sk' 4 28 false 54 rfl ?_)
 refine U.pk rfl ?_
 refine U.done ?_
 exact St.wa (idR 13) (j25 _ g)
 refine U.sk' 4 4 false 30 (ntT b27) ?_
 refine U.pk (ntT b27) ?_
 refine U.ps 1 T rfl (U.sk' 3 10 false 36 rfl ?_)
 refine U.pk rfl ?_
 refine U.ps 1 T rfl (U.sk' 4 15 false 41 rfl ?_)
 refine U.pk rfl ?_
 refine U.ps 1 T rfl (U.sk' 5 21 false 47 rfl ?_)
 refine U.pk rfl ?_
 refine U.ps 1 T rfl (U.sk' 4 28 false 54 rfl ?_)
 refine U.pk rfl ?_
 refine U.done ?_
 exact St.wa (idR 13) (j25 _ g)
 refine C.exit (C.ex (C.ex (C.bex ?_)))
 exact St.wa (idR 13) (j15 _ g)
theorem ZS (s_1:ApiSite) (n:Int) (post:Bool→Prop) (g:KZ s_1 n post):
  Tr Tryz.prog 7 [.agg (Q0 s_1),.i n] [] 0 (pB post):=by
 refine Tr.go Tryz.func7 Tryz.ntmps7 fun _ _ _ _ o=>?_
 unfold KZ at g
 refine C.ss (U.bx ?_)
 refine U.pd 1 T (C.xs ?_)
 refine C.jn (fun (x3:Bool)=>[(4,.b x3)]) (fun x3=>[]) 0 g (fun x3 g=>?_) fun J4 g j4=>?_
 refine C.nx (C.ret ?_)
 exact C.f1 T o (pBi g)
 refine U.start (U.ps 2 T rfl (U.k (Q0F s_1 n 20 _ g) en36 (fun x5 g=>?_)))
 refine U.ps 1 T rfl ?_
 refine g.cs (fun b6 g=>?_) fun b6 g=>?_
 refine U.pq 1 3 true 8 b6 T ?_
 refine U.k (Q1M s_1 _ g) en37 (fun x7 g=>?_) (hw:=.take 3 true 8 _ b6 rfl rfl rfl)
 refine U.pk b6 ?_
 refine U.pd 1 T ?_
 exact St.wn (j4 _ g)
 refine U.sk' 2 3 true 8 b6 ?_
 refine U.pk' b6 ?_
 refine U.pd 1 T ?_
 exact St.wn (j4 _ g)
theorem ZG (s_1:ApiSite) (c:Int) (laden:Bool) (post:ApiSite→Prop) (g:KD s_1 c laden post):
  Tr Tryz.prog 31 [.agg (Q0 s_1),.i c,.b laden] [] 0 (fun A H' k=>∃y,post y∧A=(.agg [.i y.Floor.W,.i y.Floor.H,.i y.Floor.D,.sl 1 eI y.Floor.Kind,.sl 1 eI y.Floor.Out,.o 0,.o 1,.o 2,.o 3])∧H'=[(0,.val (.os 5 Q7 y.Zones)),(1,.val (.os 2 Qb y.Aparts)),(2,.val (.os 2 Q8 y.Shelves)),(3,.val (.os 2 Qa y.Robots))]∧k=4):=by
 refine Tr.go Tryz.func31 Tryz.ntmps31 fun _ _ _ _ o=>?_
 unfold KD at g
 refine C.ss (U.bx ?_)
 refine U.al T ?_
 refine U.done (C.xt (U.ps 4 T rfl (U.bs T Qa ([({Cell:=c,Charge:=0:Ql})]:List Ql) ?_)))
 refine U.ps 1 T rfl (U.al T ?_)
 refine U.st T ?_
 refine U.done (C.xs (C.ss (U.pd 1 T (C.nx ?_))))
 refine C.jn (fun (x7:List Qk)=>[(2,.b laden),(3,.p 0 0),(6,.p 1 0),(7,.p 2 0)]) (fun x7=>[(0,.box (Q0 s_1)),(1,.box [.i 0,.i 0,.i 0,vN,vN,vN,vN,vN,vN]),(2,.box [.i s_1.Floor.W,.i s_1.Floor.H,.i s_1.Floor.D,.sl 1 eI s_1.Floor.Kind,.sl 1 eI s_1.Floor.Out,.o 3,vN,vN,.o 4]),(3,.val (.os 5 Q7 x7)),(4,.val (.os 2 Qa ([({Cell:=c,Charge:=0:Ql})]:List Ql)))]) 5 g (fun x7 g=>?_) fun J8 g j8=>?_
 refine C.xs (C.ss (U.pd 1 T (C.nx ?_)))
 refine C.jn (fun (x28:List Qm)=>[(6,.p 0 0),(7,.p 1 0)]) (fun x28=>[(0,.box [.i 0,.i 0,.i 0,vN,vN,vN,vN,vN,vN]),(1,.box [.i s_1.Floor.W,.i s_1.Floor.H,.i s_1.Floor.D,.sl 1 eI s_1.Floor.Kind,.sl 1 eI s_1.Floor.Out,.o 2,vN,.o 3,.o 4]),(2,.val (.os 5 Q7 x7)),(3,.val (.os 2 Q8 x28)),(4,.val (.os 2 Qa ([({Cell:=c,Charge:=0:Ql})]:List Ql)))]) 5 g (fun x28 g=>?_) fun J29 g j29=>?_
 refine C.xt (U.ps 1 T rfl (U.st T ?_))
 refine U.done (C.nx (C.ret ?_))
 exact C.g1 [some 2,none,some 3,some 4] T o ⟨({Floor:=s_1.Floor,Zones:=x7,Aparts:=[],Shelves:=x28,Robots:=([({Cell:=c,Charge:=0:Ql})]:List Ql):ApiSite}),g,rfl,rfl,rfl⟩
 refine C.block ?_
 refine St.wk (C.loop (fun (s30:List Qm×Int)=>[(2,.b laden),(3,.p 0 0),(6,.p 1 0),(7,.p 2 0),(10,.i s30.2)]) (fun s30=>[(0,.box (Q0 s_1)),(1,.box [.i 0,.i 0,.i 0,vN,vN,vN,vN,vN,vN]),(2,.box [.i s_1.Floor.W,.i s_1.Floor.H,.i s_1.Floor.D,.sl 1 eI s_1.Floor.Kind,.sl 1 eI s_1.Floor.Out,.o 3,vN,.o 4,.o 5]),(3,.val (.os 5 Q7 x7)),(4,.val (.os 2 Q8 s30.1)),(5,.val (.os 2 Qa ([({Cell:=c,Charge:=0:Ql})]:List Ql)))]) g (fun s30 Y31 g=>?_)) (Wk.mk' [some 0,some 1,some 2,some 3,none,some 4] rfl rfl (.eqs rfl) ⟨bX,bX,⟨_,rfl,.box rfl (.cons (.eq rfl) (.cons (.eq rfl) (.cons (.eq rfl) (.cons (.eq rfl) (.cons (.eq rfl) (.cons (.eq rfl) (.cons (.eq rfl) (.cons (.nilO _ _ ⟨rfl,rfl⟩ rfl) (.eq rfl)))))))))⟩,vL,⟨_,rfl,.nil _ _⟩,vL,trivial⟩ rfl)
 refine C.seq (C.seq ?_)
 refine C.jn (fun (x32:Bool)=>[(2,.b laden),(3,.p 0 0),(6,.p 1 0),(7,.p 2 0),(10,.i s30.2),(51,.b x32)]) (fun x32=>[(0,.box (Q0 s_1)),(1,.box [.i 0,.i 0,.i 0,vN,vN,vN,vN,vN,vN]),(2,.box [.i s_1.Floor.W,.i s_1.Floor.H,.i s_1.Floor.D,.sl 1 eI s_1.Floor.Kind,.sl 1 eI s_1.Floor.Out,.o 3,vN,.o 4,.o 5]),(3,.val (.os 5 Q7 x7)),(4,.val (.os 2 Q8 s30.1)),(5,.val (.os 2 Qa ([({Cell:=c,Charge:=0:Ql})]:List Ql)))]) 6 g (fun x32 g=>?_) fun J33 g j33=>?_
 refine C.nx ?_
 refine C.ite rfl g (fun b36 g=>?_) fun b36 g=>?_
 refine C.skip (C.xs (C.block (C.seq ?_)))
 refine C.jn (fun (x37:Bool)=>[(2,.b laden),(3,.p 0 0),(6,.p 1 0),(7,.p 2 0),(10,.i s30.2),(69,.b x37)]) (fun x37=>[(0,.box (Q0 s_1)),(1,.box [.i 0,.i 0,.i 0,vN,vN,vN,vN,vN,vN]),(2,.box [.i s_1.Floor.W,.i s_1.Floor.H,.i s_1.Floor.D,.sl 1 eI s_1.Floor.Kind,.sl 1 eI s_1.Floor.Out,.o 3,vN,.o 4,.o 5]),(3,.val (.os 5 Q7 x7)),(4,.val (.os 2 Q8 s30.1)),(5,.val (.os 2 Qa ([({Cell:=c,Charge:=0:Ql})]:List Ql)))]) 6 g (fun x37 g=>?_) fun J38 g j38=>?_
 refine C.nx ?_
 refine C.jn (fun (x41:List Qm)=>[(2,.b laden),(3,.p 0 0),(6,.p 1 0),(7,.p 2 0),(10,.i s30.2)]) (fun x41=>[(0,.box (Q0 s_1)),(1,.box [.i 0,.i 0,.i 0,vN,vN,vN,vN,vN,vN]),(2,.box [.i s_1.Floor.W,.i s_1.Floor.H,.i s_1.Floor.D,.sl 1 eI s_1.Floor.Kind,.sl 1 eI s_1.Floor.Out,.o 3,vN,.o 4,.o 5]),(3,.val (.os 5 Q7 x7)),(4,.val (.os 2 Q8 x41)),(5,.val (.os 2 Qa ([({Cell:=c,Charge:=0:Ql})]:List Ql)))]) 6 g (fun x41 g=>?_) fun J42 g j42=>?_
 refine C.bnx (C.nx (U.start (U.pd 3 T (C.nx ?_))))
 exact St.wk (C.next g) (Wk.a (idR 6))
 refine C.ite rfl g (fun b43 g=>?_) fun b43 g=>?_
 refine U.start (U.ps 2 T rfl (U.bs T Q8 ([({Cell:=s30.2,Class:=ByteArray.empty:Qm})]:List Qm) ?_))
 refine U.ps 1 T rfl (U.st T ?_)
 refine U.done ?_
 exact St.wa [some 0,some 1,some 2,some 3,some 6,some 5] (j42 _ g)
 refine C.skip ?_
 exact St.wa (idR 6) (j42 _ g)
 refine U.start (U.ps 4 T rfl ?_)
 obtain⟨x39,y39,g⟩:=g
 refine U.ix T y39 ?_
 refine U.ps 3 T rfl ?_
 refine g.cs (fun b40 g=>?_) fun b40 g=>?_
 refine U.sk' 7 7 false 61 b40 ?_
 refine U.pk b40 ?_
 refine U.done ?_
 exact St.wa (idR 6) (j38 _ g)
 refine U.pq 4 7 false 61 b40 T ?_
 refine U.r rfl (.tk 7 false 61 b40) rfl rfl (by exact Rd.ix T rfl rfl rfl rfl rfl rfl y39) ?_
 refine U.pq 2 7 false 61 b40 T ?_
 refine U.pk' b40 ?_
 refine U.done ?_
 exact St.wa (idR 6) (j38 _ g)
 refine C.exit (C.ex (C.ex (C.bex ?_)))
 exact St.wa (sqR 1 5) (j29 _ g)
 refine U.start (U.ps 7 T rfl ?_)
 refine g.cs (fun b34 g=>?_) fun b34 g=>?_
 refine U.pq 1 6 true 43 b34 T ?_
 refine U.pk b34 ?_
 refine U.ps 1 T rfl ?_
 refine g.cs (fun b35 g=>?_) fun b35 g=>?_
 refine U.pq 4 9 true 46 b35 T ?_
 refine U.pk b35 ?_
 refine U.done ?_
 exact St.wa (idR 6) (j33 _ g)
 refine U.sk' 4 9 true 46 b35 ?_
 refine U.pk' b35 ?_
 refine U.done ?_
 exact St.wa (idR 6) (j33 _ g)
 refine U.sk' 1 6 true 43 b34 ?_
 refine U.pk' b34 ?_
 refine U.ps 1 T rfl (U.sk' 4 9 true 46 rfl ?_)
 refine U.pk' rfl ?_
 refine U.done ?_
 exact St.wa (idR 6) (j33 _ g)
 refine C.block ?_
 refine St.wk (C.loop (fun (s9:List Qk×Int)=>[(2,.b laden),(3,.p 0 0),(6,.p 1 0),(7,.p 2 0),(8,.i s9.2)]) (fun s9=>[(0,.box (Q0 s_1)),(1,.box [.i 0,.i 0,.i 0,vN,vN,vN,vN,vN,vN]),(2,.box [.i s_1.Floor.W,.i s_1.Floor.H,.i s_1.Floor.D,.sl 1 eI s_1.Floor.Kind,.sl 1 eI s_1.Floor.Out,.o 3,vN,vN,.o 4]),(3,.val (.os 5 Q7 s9.1)),(4,.val (.os 2 Qa ([({Cell:=c,Charge:=0:Ql})]:List Ql)))]) g (fun s9 Y10 g=>?_)) (Wk.mk' [some 0,some 1,some 3,none,some 2] rfl rfl (.eqs rfl) ⟨bX,bX,⟨_,rfl,.box rfl (.cons (.eq rfl) (.cons (.eq rfl) (.cons (.eq rfl) (.cons (.eq rfl) (.cons (.eq rfl) (.cons (.nilO _ _ ⟨rfl,rfl⟩ rfl) (.eq rfl)))))))⟩,⟨_,rfl,.nil _ _⟩,vL,trivial⟩ rfl)
 refine C.seq (C.ss (U.pd 5 T (C.nx ?_)))
 refine C.ite rfl g (fun b13 g=>?_) fun b13 g=>?_
 refine C.skip (C.xs (C.block (C.ss (U.ps 3 T rfl ?_))))
 obtain⟨x16,y16,g⟩:=g
 refine U.ix T y16 ?_
 refine U.ps 1 T rfl (U.al T ?_)
 refine U.st T ?_
 refine U.done (C.xt (U.ps 1 T rfl (U.st T ?_)))
 refine U.done (C.xt (U.ps 1 T rfl (U.st T ?_)))
 refine U.done (C.nx (U.start (U.ps 3 T rfl ?_)))
 refine U.e1 rfl (.none rfl) (by exact Eff1.re (A':=.os 5 Q7 ([({Name:=x16.Name,Cells:=x16.Cells,Speed:=x16.Speed,Keep:=0,Shut:=[]:Qk})]:List Qk)) (Eff1.bs T (enc:=fun i:Nat=>([[.v (.string x16.Name),.sl 1 eI x16.Cells,.i x16.Speed,.i 0,vN]]:List (List AVal)).getD i []) (xs:=[0]) rfl rfl rfl rfl rfl rfl rfl rfl rfl rfl (fun y hy=>by simp at hy;(try rcases hy with rfl) <;> (try subst hy) <;> rfl) rfl rfl) (fun _ _ _ _ _ h=>((.cons (.cons (.refl _) (.cons (.refl _) (.cons (.refl _) (.cons (.refl _) (.cons (.sl _ _) .nil))))) .nil):NlR _ _ _ _).on h)) ?_
 obtain⟨y23,g⟩:=g
 refine U.ap T y23 ?_
 refine U.ps 1 T rfl (U.st T ?_)
 refine U.done (C.bnx (C.nx (U.start (U.pd 3 T (C.nx ?_)))))
 exact St.wk (C.next g) (Wk.a [some 0,some 1,some 2,some 7,some 4])
 refine C.exit (C.ex (C.ex (C.bex ?_)))
 exact St.wa (idR 5) (j8 _ g)
theorem Xo (s_1:ApiSite) (c:Int) (charge:Int) (tick:Int) (dead:List Int) (post:ApiState→Prop) (g:Ke s_1 c charge tick dead post):
  Tr Tryz.prog 32 [.agg (Q0 s_1),.i c,.i charge,.i tick,.sl 1 eI dead] [] 0 (fun A H' k=>∃y,post y∧A=(.agg [.i y.Tick,.o 0,.o 1,.o 2,.sl 1 eI y.Dead,.o 3])∧H'=[(0,.val (.os 1 eI y.Shelves)),(1,.val (.os 6 Q2 y.Robots)),(2,.val (.os 1 eI y.People)),(3,.val (.os 2 Q5 y.Stuck))]∧k=4):=by
 refine Tr.go Tryz.func32 Tryz.ntmps32 fun _ _ _ _ o=>?_
 unfold Ke at g
 refine C.ss (U.bx ?_)
 refine U.al T ?_
 refine U.done (C.xt (U.ps 4 T rfl (U.bs T Q2 ([({Cell:=c,Load:=(-1),Charge:=charge,Rest:=0,Mute:=0,Dead:=false:ApiRobot})]:List ApiRobot) ?_)))
 refine U.ps 2 T rfl (U.al T ?_)
 refine U.st T ?_
 refine U.done (C.xs (C.ss (U.pd 4 T (C.nx ?_))))
 refine C.jn (fun (x7:List Int×List ApiRobot)=>[(10,.p 0 0),(11,.p 1 0)]) (fun x7=>[(0,.box [.i 0,vN,vN,vN,vN,vN]),(1,.box [.i tick,.o 2,.o 3,vN,.sl 1 eI dead,vN]),(2,.val (.os 1 eI x7.1)),(3,.val (.os 6 Q2 x7.2))]) 4 g (fun x7 g=>?_) fun J8 g j8=>?_
 refine C.xt (U.ps 1 T rfl (U.st T ?_))
 refine U.done (C.nx (C.ret ?_))
 exact C.g1 [some 2,some 3,none,none] T o ⟨({Tick:=tick,Shelves:=x7.1,Robots:=x7.2,People:=[],Dead:=dead,Stuck:=[]:ApiState}),g,rfl,rfl,rfl⟩
 refine C.ite rfl g (fun b9 g=>?_) fun b9 g=>?_
 refine C.ss (U.ps 2 T rfl ?_)
 obtain⟨x12,y12,g⟩:=g
 refine U.r rfl (.none rfl) rfl rfl (by exact Rd.io T rfl rfl rfl rfl rfl rfl rfl y12) ?_
 refine U.ps 1 T rfl (U.e1 rfl (.none rfl) (by exact Eff1.se T (z':=({Cell:=x12.Cell,Load:=0,Charge:=x12.Charge,Rest:=x12.Rest,Mute:=x12.Mute,Dead:=x12.Dead:ApiRobot})) rfl rfl rfl (Q6 y12).2.2 rfl rfl rfl rfl rfl rfl rfl rfl (fun _=>rfl) rfl) ?_)
 refine U.done (C.nx (U.start (U.ps 1 T rfl (U.bs T eI ([c]:List Int) ?_))))
 refine U.ps 1 T rfl (U.st T ?_)
 refine U.done ?_
 exact St.wa [some 1,some 3,some 4,some 2] (j8 _ g)
 refine C.skip ?_
 exact St.wk (j8 _ g) (Wk.mk' [some 1,some 3,none,some 2] rfl rfl (.eqs rfl) ⟨bX,⟨_,rfl,.box rfl (.cons (.eq rfl) (.cons (.nilO _ _ ⟨rfl,rfl⟩ rfl) (.eq rfl)))⟩,⟨_,rfl,.nil _ _⟩,vL,trivial⟩ rfl)
def Qac:Go.Shelf.Ren:=⟨fun | 125=>122 | 128=>171 | 129=>172 | 189=>67 | 215=>202 | 216=>168 | 257=>121 | 294=>162 | 295=>163 | 296=>164 | 297=>165 | 298=>166 | 299=>167 | 300=>169 | 301=>170 | 328=>197 | 329=>198 | 330=>199 | 331=>200 | 332=>201 | 343=>211 | n=>n,fun | 0=>0 | 3=>3 | 4=>4 | 5=>5 | 9=>9 | 28=>22 | 46=>146 | 51=>190 | 53=>192 | 131=>39 | 182=>182 | 183=>183 | 218=>203 | 222=>207 | 228=>211 | 229=>89 | n=>n,fun n=>n⟩
theorem Q9Q:Go.Proofs.Lays.n189 Tryz.prog Qac where
 mixed:=by kernel_rfl
 f125:=Tryz.func122.trans (congrArg some (by kernel_rfl))
 f128:=Tryz.func171.trans (congrArg some (by kernel_rfl))
 f129:=Tryz.func172.trans (congrArg some (by kernel_rfl))
 f189:=Tryz.func67.trans (congrArg some (by kernel_rfl))
 f215:=Tryz.func202.trans (congrArg some (by kernel_rfl))
 f216:=Tryz.func168.trans (congrArg some (by kernel_rfl))
 f257:=Tryz.func121.trans (congrArg some (by kernel_rfl))
 f294:=Tryz.func162.trans (congrArg some (by kernel_rfl))
 f295:=Tryz.func163.trans (congrArg some (by kernel_rfl))
 f296:=Tryz.func164.trans (congrArg some (by kernel_rfl))
 f297:=Tryz.func165.trans (congrArg some (by kernel_rfl))
 f298:=Tryz.func166.trans (congrArg some (by kernel_rfl))
 f299:=Tryz.func167.trans (congrArg some (by kernel_rfl))
 f300:=Tryz.func169.trans (congrArg some (by kernel_rfl))
 f301:=Tryz.func170.trans (congrArg some (by kernel_rfl))
 f328:=Tryz.func197.trans (congrArg some (by kernel_rfl))
 f329:=Tryz.func198.trans (congrArg some (by kernel_rfl))
 f330:=Tryz.func199.trans (congrArg some (by kernel_rfl))
 f331:=Tryz.func200.trans (congrArg some (by kernel_rfl))
 f332:=Tryz.func201.trans (congrArg some (by kernel_rfl))
 f343:=Tryz.func211.trans (congrArg some (by kernel_rfl))
 t0:=Tryz.underlying0
 a0:=Tryz.isAgg0
 z0:=Tryz.sizeOf0
 v0:=Tryz.zeroValue0
 t3:=Tryz.underlying3
 a3:=Tryz.isAgg3
 z3:=Tryz.sizeOf3
 v3:=Tryz.zeroValue3
 t4:=Tryz.underlying4
 a4:=Tryz.isAgg4
 z4:=Tryz.sizeOf4
 v4:=Tryz.zeroValue4
 t5:=Tryz.underlying5
 a5:=Tryz.isAgg5
 z5:=Tryz.sizeOf5
 v5:=Tryz.zeroValue5
 t9:=Tryz.underlying9
 a9:=Tryz.isAgg9
 z9:=Tryz.sizeOf9
 v9:=Tryz.zeroValue9
 t28:=Tryz.underlying22
 a28:=Tryz.isAgg22
 z28:=Tryz.sizeOf22
 v28:=Tryz.zeroValue22
 t46:=Tryz.underlying146
 a46:=Tryz.isAgg146
 z46:=Tryz.sizeOf146
 v46:=Tryz.zeroValue146
 t51:=Tryz.underlying190
 a51:=Tryz.isAgg190
 z51:=Tryz.sizeOf190
 v51:=Tryz.zeroValue190
 t53:=Tryz.underlying192
 a53:=Tryz.isAgg192
 z53:=Tryz.sizeOf192
 v53:=Tryz.zeroValue192
 t131:=Tryz.underlying39
 a131:=Tryz.isAgg39
 z131:=Tryz.sizeOf39
 v131:=Tryz.zeroValue39
 t182:=Tryz.underlying182
 a182:=Tryz.isAgg182
 z182:=Tryz.sizeOf182
 v182:=Tryz.zeroValue182
 t183:=Tryz.underlying183
 a183:=Tryz.isAgg183
 z183:=Tryz.sizeOf183
 v183:=Tryz.zeroValue183
 t218:=Tryz.underlying203
 a218:=Tryz.isAgg203
 z218:=Tryz.sizeOf203
 v218:=Tryz.zeroValue203
 t222:=Tryz.underlying207
 a222:=Tryz.isAgg207
 z222:=Tryz.sizeOf207
 v222:=Tryz.zeroValue207
 t228:=Tryz.underlying211
 a228:=Tryz.isAgg211
 z228:=Tryz.sizeOf211
 v228:=Tryz.zeroValue211
 t229:=Tryz.underlying89
 a229:=Tryz.isAgg89
 z229:=Tryz.sizeOf89
 v229:=Tryz.zeroValue89
theorem K5 (p0:List Int) (post:List Int→Prop) (g:Qf p0 post):
  Tr Tryz.prog 67 [.o 0] [(0,.val (.os 1 eI p0))] 1 (fun A H' k=>∃y,post y∧A=(.tup [])∧H'=[(0,.val (.os 1 eI y))]∧k=1):=by
 unfold Qf at g
 exact Tr.sortInt Q9Q p0 g.1 g.2
theorem Wj (s_1:List Int) (post:(List Int)→Prop) (g:V_slices_Compact_int_int__o0 s_1 post):
  Tr Tryz.prog 68 [.o 0] [(0,.val (.os 1 eI s_1))] 1 (fun A H' k=>∃y,post y∧A=(.o 1)∧H'=[(1,.val (.os 1 eI y))]∧k=2):=by
 refine Tr.go Tryz.func68 Tryz.ntmps68 fun _ _ _ _ o=>?_
 unfold V_slices_Compact_int_int__o0 at g
 refine C.ss (U.pd 1 T (C.xs (C.ss ?_)))
 refine U.pd 3 T (C.nx ?_)
 refine C.ite rfl g (fun b5 g=>?_) fun b5 g=>?_
 refine C.ss (U.pd 2 T (C.nx (C.ret (C.rt ?_))))
 exact C.g1 [some 0,some 0] T o ⟨s_1,g,rfl,rfl,rfl⟩
 refine C.skip (C.xs (C.ss (U.pd 1 T (C.nx ?_))))
 refine C.jn (fun (x10:Unit)=>[(0,.o 0)]) (fun x10=>[(0,.val (.os 1 eI s_1))]) 1 g (fun x10 g=>?_) fun J11 g j11=>?_
 refine C.xt (U.pd 2 T (C.nx (C.ret ?_)))
 exact C.g1 [some 0,some 0] T o ⟨s_1,g,rfl,rfl,rfl⟩
 refine C.block (St.wk (C.loop (fun (s12:Int)=>[(0,.o 0),(3,.i s12)]) (fun s12=>[(0,.val (.os 1 eI s_1))]) g (fun s12 Y13 g=>?_)) (Wk.a [some 0]))
 refine C.seq (C.ss (U.pd 4 T (C.nx ?_)))
 refine C.ite rfl g (fun b16 g=>?_) fun b16 g=>?_
 refine C.skip (C.xs ?_)
 refine C.jn (fun (x17:Unit)=>[(0,.o 0),(3,.i s12)]) (fun x17=>[(0,.val (.os 1 eI s_1))]) 1 g (fun x17 g=>?_) fun J18 g j18=>?_
 refine C.nx (U.start (U.pd 3 T (C.nx ?_)))
 exact St.wk (C.next g) (Wk.a [some 0])
 refine C.block (C.seq (D.bq mix 9999 [0] [] (fun hQ hS ws M'=>?_)))
 refine D.pq 2 (zl [0,1]) T ?_
 obtain⟨x21,y21,g⟩:=g
 refine D.q 2 [] hQ hS rfl (.none rfl) rfl rfl (by exact Rd.io T rfl rfl rfl rfl rfl rfl rfl y21) rfl (by kernel_rfl) ?_
 refine D.q 3 [] hQ hS rfl (.none rfl) rfl rfl (by exact Rd.le T rfl rfl rfl (Q6 y21).2.2 rfl rfl rfl) rfl (by kernel_rfl) ?_
 refine D.pq 3 (zl [4,5,6]) T ?_
 obtain⟨x22,y22,g⟩:=g
 refine D.q 7 [] hQ hS rfl (.none rfl) rfl rfl (by exact Rd.io T rfl rfl rfl rfl rfl rfl rfl y22) rfl (by kernel_rfl) ?_
 refine D.q 8 [] hQ hS rfl (.none rfl) rfl rfl (by exact Rd.le T rfl rfl rfl (Q6 y22).2.2 rfl rfl rfl) rfl (by kernel_rfl) ?_
 refine D.pq 1 [(9,[])] T ?_
 refine D.done (by kernel_rfl) ?_
 refine C.nx ?_
 refine C.ite rfl g (fun b23 g=>?_) fun b23 g=>?_
 refine C.ss (U.ps 2 T rfl ?_)
 obtain⟨y26,g⟩:=g
 refine U.r rfl (.none rfl) rfl rfl (by exact Rd.vw T rfl rfl rfl rfl rfl rfl (.some _ rfl) (.none _) y26) ?_
 refine U.pd 1 T (C.xs (C.ss ?_))
 refine U.pd 1 T (C.nx ?_)
 refine C.jn (fun (x29:List Int×Int)=>[(0,.o 0),(3,.i x29.2)]) (fun x29=>[(0,.val (.os 1 eI x29.1))]) 1 g (fun x29 g=>?_) fun J30 g j30=>?_
 refine C.xt (U.ps 2 T rfl ?_)
 obtain⟨y55,g⟩:=g
 refine U.r rfl (.none rfl) rfl rfl (by exact Rd.vw T rfl rfl rfl rfl rfl rfl (.some _ rfl) (.none _) y55) ?_
 obtain⟨y56,g⟩:=g
 refine U.e1 rfl (.none rfl) (by exact Eff1.clv T (z0:=0) rfl rfl rfl rfl rfl rfl rfl (fun _=>rfl) rfl y56) ?_
 refine U.done (C.xt (U.ps 2 T rfl ?_))
 obtain⟨y59,g⟩:=g
 refine U.e1 rfl (.none rfl) (by exact Eff1.sw T rfl rfl rfl rfl rfl rfl rfl rfl (.none _) (.some _ rfl) y59) ?_
 refine U.pd 1 T (C.nx (C.ret (C.brt (C.rt (C.rt (C.brt (C.rt ?_)))))))
 exact C.g1 (idR 2) T o ⟨(sub (x29.1.take (Int.toNat x29.2)++(List.replicate (Int.toNat ((x29.1.length:Int)-x29.2)) 0++x29.1.drop ((Int.toNat x29.2)+(Int.toNat ((x29.1.length:Int)-x29.2))))) 0 x29.2),g,rfl,rfl,rfl⟩
 refine C.block (St.wk (C.loop (fun (s31:List Int×Int×Int)=>[(0,.o 0),(3,.i s31.2.1),(4,.vw 0 1 (Int.toNat s12) (Int.toNat ((s_1.length:Int)-s12))),(5,.i s31.2.2)]) (fun s31=>[(0,.val (.os 1 eI s31.1))]) g (fun s31 Y32 g=>?_)) (Wk.a [some 0]))
 refine C.seq (C.ss (U.ps 2 T rfl (U.r rfl (.none rfl) rfl rfl (by exact Rd.vl T rfl rfl rfl) ?_)))
 refine U.pd 1 T (C.nx ?_)
 refine C.ite rfl g (fun b35 g=>?_) fun b35 g=>?_
 refine C.skip (C.xs (C.block (C.seq (D.bq mix 9999 [0] [] (fun hQ hS ws M'=>?_)))))
 refine D.pq 2 (zl [0,1]) T ?_
 obtain⟨y38,g⟩:=g
 refine D.q 2 [] hQ hS rfl (.none rfl) rfl rfl (by exact Rd.vi T rfl rfl rfl rfl rfl rfl y38) rfl (by kernel_rfl) ?_
 obtain⟨x39,y39,g⟩:=g
 refine D.q 3 [] hQ hS rfl (.none rfl) rfl rfl (by exact Rd.le T rfl rfl rfl y39 rfl rfl rfl) rfl (by kernel_rfl) ?_
 refine D.pq 3 (zl [4,5,6]) T ?_
 obtain⟨y40,g⟩:=g
 refine D.q 7 [] hQ hS rfl (.none rfl) rfl rfl (by exact Rd.vi T rfl rfl rfl rfl rfl rfl y40) rfl (by kernel_rfl) ?_
 obtain⟨x41,y41,g⟩:=g
 refine D.q 8 [] hQ hS rfl (.none rfl) rfl rfl (by exact Rd.le T rfl rfl rfl y41 rfl rfl rfl) rfl (by kernel_rfl) ?_
 refine D.pq 1 [(9,[])] T ?_
 refine D.done (by kernel_rfl) ?_
 refine C.nx ?_
 refine C.jn (fun (x42:List Int×Int)=>[(0,.o 0),(3,.i x42.2),(4,.vw 0 1 (Int.toNat s12) (Int.toNat ((s_1.length:Int)-s12))),(5,.i s31.2.2)]) (fun x42=>[(0,.val (.os 1 eI x42.1))]) 1 g (fun x42 g=>?_) fun J43 g j43=>?_
 refine C.bnx (C.nx (U.start (U.pd 3 T (C.nx ?_))))
 exact St.wk (C.next g) (Wk.a [some 0])
 refine C.ite rfl g (fun b44 g=>?_) fun b44 g=>?_
 refine C.ss (U.ps 4 T rfl ?_)
 obtain⟨y47,g⟩:=g
 refine U.r rfl (.none rfl) rfl rfl (by exact Rd.vi T rfl rfl rfl rfl rfl rfl y47) ?_
 refine U.r rfl (.none rfl) rfl rfl (by exact Rd.le T rfl rfl rfl y39 rfl rfl rfl) ?_
 obtain⟨x48,y48,g⟩:=g
 refine U.r rfl (.none rfl) rfl rfl (by exact Rd.io T rfl rfl rfl rfl rfl rfl rfl y48) ?_
 refine U.e1 rfl (.none rfl) (by exact Eff1.se T (z':=x39) rfl rfl rfl (Q6 y48).2.2 rfl rfl rfl rfl rfl rfl rfl rfl (fun _=>rfl) rfl) ?_
 refine U.done (C.nx (U.start (U.pd 3 T ?_)))
 exact St.wa [some 0] (j43 _ g)
 refine C.skip ?_
 exact St.wa [some 0] (j43 _ g)
 refine C.exit (C.ex (C.ex (C.bex ?_)))
 exact St.wa [some 0] (j30 _ g)
 refine C.skip (C.bnx ?_)
 exact St.wa [some 0] (j18 _ g)
 refine C.exit (C.ex (C.ex (C.bex ?_)))
 exact St.wa [some 0] (j11 _ g)
theorem Q1A (st:ApiState) (post:(List Int)→Prop) (g:XG st post):
  Tr Tryz.prog 26 [.agg (Q3 st)] [] 0 (fun A H' k=>∃y,post y∧A=(.o 0)∧H'=[(0,.val (.os 1 eI y))]∧k=1):=by
 refine Tr.go Tryz.func26 Tryz.ntmps26 fun _ _ _ _ o=>?_
 unfold XG at g
 refine C.ss (U.bx ?_)
 refine U.pd 1 T (C.xt ?_)
 refine U.ps 2 T rfl (U.k (QW st.Dead _ g) en63 (fun x5 g=>?_))
 refine U.pd 1 T (C.xs (C.ss ?_))
 refine U.pd 4 T (C.nx ?_)
 refine C.jn (fun (x8:List Int)=>[(3,.o 0)]) (fun x8=>[(0,.val (.os 1 eI x8))]) 1 g (fun x8 g=>?_) fun J9 g j9=>?_
 refine C.xt (U.ps 1 T rfl (U.c [some 0] (K5 x8 _ g) en67 (fun x30 g=>?_)))
 refine U.done (C.xt (U.ps 1 T rfl (U.c [some 0] (Wj x30 _ g) en68 (fun x33 g=>?_))))
 refine U.pd 1 T (C.nx (C.ret ?_))
 exact C.g1 [some 3] T o ⟨x33,g,rfl,rfl,rfl⟩
 refine C.block (St.wk (C.loop (fun (s10:List Int×Int)=>[(3,.o 0),(10,.sl 6 Q2 st.Robots),(11,.i (st.Robots.length:Int)),(12,.i s10.2)]) (fun s10=>[(0,.val (.os 1 eI s10.1))]) g (fun s10 Y11 g=>?_)) (Wk.a [some 1]))
 refine C.ss (U.pd 1 T (C.xs ?_))
 refine C.ite rfl g (fun b14 g=>?_) fun b14 g=>?_
 refine C.skip (C.xs (C.block (C.ss ?_)))
 obtain⟨x17,y17,g⟩:=g
 refine U.ix T y17 ?_
 refine U.ps 1 T rfl (U.al T ?_)
 refine U.st T ?_
 refine U.done (C.xt (U.pd 2 T (C.nx ?_)))
 refine C.jn (fun (x20:List Int)=>[(3,.o 0),(10,.sl 6 Q2 st.Robots),(11,.i (st.Robots.length:Int)),(12,.i s10.2)]) (fun x20=>[(0,.val (.os 1 eI x20))]) 1 g (fun x20 g=>?_) fun J21 g j21=>?_
 refine C.bnx (C.nx (U.start (U.pd 2 T (C.nx ?_))))
 exact St.wk (C.next g) (Wk.a [some 0])
 refine C.ite rfl g (fun b22 g=>?_) fun b22 g=>?_
 refine U.start (U.ps 3 T rfl (U.bs T eI ([x17.Cell]:List Int) ?_))
 obtain⟨y25,g⟩:=g
 refine U.ap T y25 ?_
 refine U.pd 1 T ?_
 exact St.wa [some 3] (j21 _ g)
 refine C.skip ?_
 exact St.wa [some 0] (j21 _ g)
 refine C.exit (C.ex (C.ex (C.bex ?_)))
 exact St.wa [some 0] (j9 _ g)
theorem Q1O (st:ApiState) (robot:Int) (needs:List Int) (post:(Int×Bool)→Prop) (g:G5 st robot needs post):
  Tr Tryz.prog 45 [.agg (Q3 st),.i robot,.sl 1 eI needs] [] 0 (fun A H' k=>∃y,post y∧A=(.tup [.i y.1,.b y.2])∧H'=[]∧k=0):=by
 refine Tr.go Tryz.func45 Tryz.ntmps45 fun _ _ _ _ o=>?_
 unfold G5 at g
 refine C.ss (U.bx ?_)
 refine U.pd 2 T (C.xs (C.seq ?_))
 refine C.jn (fun (x3:Bool)=>[(1,.i robot),(2,.sl 1 eI needs),(3,.p 0 0),(17,.b x3)]) (fun x3=>[(0,.box (Q3 st))]) 1 g (fun x3 g=>?_) fun J4 g j4=>?_
 refine C.nx ?_
 refine C.ite rfl g (fun b6 g=>?_) fun b6 g=>?_
 refine C.ss (U.pd 2 T (C.nx (C.ret (C.rt ?_))))
 exact C.f9 T o ⟨(0,false),g,rfl,rfl,rfl⟩
 refine C.skip (C.xt (U.ps 3 T rfl ?_))
 obtain⟨x11,y11,g⟩:=g
 refine U.ix T y11 ?_
 refine U.ps 1 T rfl (U.al T ?_)
 refine U.st T ?_
 refine U.done (C.xs (C.seq ?_))
 refine C.jn (fun (x12:Bool)=>[(2,.sl 1 eI needs),(8,.p 0 0),(32,.b x12)]) (fun x12=>[(0,.box (Q2 x11))]) 1 g (fun x12 g=>?_) fun J13 g j13=>?_
 refine C.nx ?_
 refine C.ite rfl g (fun b16 g=>?_) fun b16 g=>?_
 refine C.ss (U.pd 2 T (C.nx (C.ret (C.rt ?_))))
 exact C.f9 T o ⟨(0,false),g,rfl,rfl,rfl⟩
 refine C.skip (C.xs (D.bq mix 9999 [0] [] (fun hQ hS ws M'=>?_)))
 refine D.pq 5 (zl [0,1,2,3,4]) T ?_
 obtain⟨x21,y21,g⟩:=g
 refine D.ix 5 [] T y21 ?_
 refine D.pq 7 (zl [6,7,8,9,10,11,12]) T ?_
 refine D.k 13 (KY _ g) en14 fun x22 g=>?_
 refine D.pq 4 (zl [14,15,16,17]) T ?_
 refine D.done (by kernel_rfl) ?_
 refine C.nx (C.ret ?_)
 exact C.f9 T o ⟨(w64 ((w64 (x11.Charge-x21))-(w64 ((w64 (x11.Rest+x11.Mute))*x22))),true),g,rfl,rfl,rfl⟩
 refine U.start (U.ps 3 T rfl ?_)
 refine g.cs (fun b14 g=>?_) fun b14 g=>?_
 refine U.sk' 6 2 false 25 b14 ?_
 refine U.pk b14 ?_
 refine U.done ?_
 exact St.wa [some 1] (j13 _ g)
 refine U.pq 3 2 false 25 b14 T ?_
 obtain⟨x15,y15,g⟩:=g
 refine U.r rfl (.tk 2 false 25 b14) rfl rfl (by exact Rd.ix T rfl rfl rfl rfl rfl rfl y15) ?_
 refine U.pq 2 2 false 25 b14 T ?_
 refine U.pk' b14 ?_
 refine U.done ?_
 exact St.wa [some 1] (j13 _ g)
 refine U.start (U.ps 3 T rfl ?_)
 refine g.cs (fun b5 g=>?_) fun b5 g=>?_
 refine U.sk' 5 2 false 11 b5 ?_
 refine U.pk b5 ?_
 refine U.done ?_
 exact St.wa [some 0] (j4 _ g)
 refine U.pq 5 2 false 11 b5 T ?_
 refine U.pk' b5 ?_
 refine U.done ?_
 exact St.wa [some 0] (j4 _ g)
theorem Q1X (s_1:ApiSite) (st:ApiState) (robot:Int) (delay:Int) (post:(Int×Bool)→Prop) (g:XW s_1 st robot delay post):
  Tr Tryz.prog 10 [.agg (Q0 s_1),.agg (Q3 st),.i robot,.i delay] [] 0 (fun A H' k=>∃y,post y∧A=(.tup [.i y.1,.b y.2])∧H'=[]∧k=0):=by
 refine Tr.go Tryz.func10 Tryz.ntmps10 fun _ _ _ _ o=>?_
 unfold XW at g
 refine C.ss (U.bx ?_)
 refine U.bx ?_
 refine U.pd 2 T (C.xs ?_)
 refine D.bq mix 9999 [0,1] [] (fun hQ hS ws M'=>?_)
 refine D.pq 5 (zl [0,1,2,3,5]) T ?_
 refine D.k 4 (Q1A st _ g) en26 fun x5 g=>?_
 refine D.k 6 (ZZ s_1 x5 delay _ g) en23 fun x6 g=>?_
 refine D.k 7 (Q1O st robot x6 _ g) en45 fun x7 g=>?_
 refine D.pq 4 (zl [8,9,10,11]) T ?_
 refine D.done (by kernel_rfl) ?_
 refine C.nx (C.ret ?_)
 exact C.f9 T o ⟨(x7.1,x7.2),g,rfl,rfl,rfl⟩
theorem XQ (n:Int) (from_1:Int) (to_1:Int) (post:Bool→Prop) (g:K7 n from_1 to_1 post):
  Tr Tryz.prog 38 [.i n,.i from_1,.i to_1] [] 0 (pB post):=by
 refine Tr.go Tryz.func38 Tryz.ntmps38 fun _ _ _ _ o=>?_
 unfold K7 at g
 refine C.ss (U.pd 1 T (C.xs ?_))
 refine C.jn (fun (x3:Bool)=>[(6,.b x3)]) (fun x3=>[]) 0 g (fun x3 g=>?_) fun J4 g j4=>?_
 refine C.nx (C.ret ?_)
 exact C.f1 T o (pBi g)
 refine U.start (U.ps 4 T rfl ?_)
 refine g.cs (fun b5 g=>?_) fun b5 g=>?_
 refine U.pq 3 3 true 10 b5 T ?_
 refine U.pk b5 ?_
 refine U.pd 1 T ?_
 exact St.wn (j4 _ g)
 refine U.sk' 3 3 true 10 b5 ?_
 refine U.pk' b5 ?_
 refine U.pd 1 T ?_
 exact St.wn (j4 _ g)
theorem Q2V (s_1:ApiSite) (st:ApiState) (post:Bool→Prop) (g:Gi s_1 st post):
  Tr Tryz.prog 39 [.agg (Q0 s_1),.agg (Q3 st)] [] 0 (pB post):=by
 refine Tr.go Tryz.func39 Tryz.ntmps39 fun _ _ _ _ o=>?_
 unfold Gi at g
 refine C.ss (U.bx ?_)
 refine U.bx ?_
 refine U.pd 1 T (C.xt ?_)
 refine U.e1 rfl (.none rfl) (by exact Eff1.mm kI veB rfl rfl rfl) ?_
 refine U.pd 1 T (C.xs (C.ss ?_))
 refine U.pd 4 T (C.nx ?_)
 refine C.jn (fun (x7:Unit)=>[]) (fun x7=>[]) 0 g (fun x7 g=>?_) fun J8 g j8=>?_
 refine C.xt (U.pd 1 T (C.nx (C.ret ?_)))
 exact C.f1 T o (pBi g)
 refine C.block (St.wk (C.loop (fun (s9:List (Int×Bool)×Int)=>[(2,.p 0 0),(3,.p 1 0),(5,.o 2),(10,.sl 6 Q2 st.Robots),(11,.i (st.Robots.length:Int)),(12,.i s9.2)]) (fun s9=>[(0,.box (Q0 s_1)),(1,.box (Q3 st)),(2,.val (.om kI veB s9.1))]) g (fun s9 Y10 g=>?_)) (Wk.a (idR 3)))
 refine C.ss (U.pd 1 T (C.xs ?_))
 refine C.ite rfl g (fun b13 g=>?_) fun b13 g=>?_
 refine C.skip (C.xs (C.block (C.ss ?_)))
 obtain⟨x16,y16,g⟩:=g
 refine U.ix T y16 ?_
 refine U.ps 1 T rfl (U.al T ?_)
 refine U.st T ?_
 refine U.done (C.xs (C.seq ?_))
 refine C.jn (fun (x17:Bool)=>[(2,.p 0 0),(3,.p 1 0),(5,.o 2),(7,.p 3 0),(10,.sl 6 Q2 st.Robots),(11,.i (st.Robots.length:Int)),(12,.i s9.2),(47,.b x17)]) (fun x17=>[(0,.box (Q0 s_1)),(1,.box (Q3 st)),(2,.val (.om kI veB s9.1)),(3,.box (Q2 x16))]) 4 g (fun x17 g=>?_) fun J18 g j18=>?_
 refine C.nx ?_
 refine C.ite rfl g (fun b24 g=>?_) fun b24 g=>?_
 refine C.ss (U.pd 1 T (C.nx (C.ret (C.rt (C.brt (C.rt (C.rt (C.brt (C.rt ?_)))))))))
 exact C.f1 T o (pBi g)
 refine C.skip (C.xs (C.seq ?_))
 refine C.jn (fun (x27:Bool)=>[(2,.p 0 0),(3,.p 1 0),(5,.o 2),(7,.p 3 0),(10,.sl 6 Q2 st.Robots),(11,.i (st.Robots.length:Int)),(12,.i s9.2),(63,.b x27)]) (fun x27=>[(0,.box (Q0 s_1)),(1,.box (Q3 st)),(2,.val (.om kI veB s9.1)),(3,.box (Q2 x16))]) 4 g (fun x27 g=>?_) fun J28 g j28=>?_
 refine C.nx ?_
 refine C.ite rfl g (fun b34 g=>?_) fun b34 g=>?_
 refine C.ss (U.pd 1 T (C.nx (C.ret (C.rt (C.brt (C.rt (C.rt (C.brt (C.rt ?_)))))))))
 exact C.f1 T o (pBi g)
 refine C.skip (C.xs (C.seq ?_))
 refine C.jn (fun (x37:Bool)=>[(2,.p 0 0),(3,.p 1 0),(5,.o 2),(7,.p 3 0),(10,.sl 6 Q2 st.Robots),(11,.i (st.Robots.length:Int)),(12,.i s9.2),(83,.b x37)]) (fun x37=>[(0,.box (Q0 s_1)),(1,.box (Q3 st)),(2,.val (.om kI veB s9.1)),(3,.box (Q2 x16))]) 4 g (fun x37 g=>?_) fun J38 g j38=>?_
 refine C.nx ?_
 refine C.ite rfl g (fun b42 g=>?_) fun b42 g=>?_
 refine C.ss (U.pd 1 T (C.nx (C.ret (C.rt (C.brt (C.rt (C.rt (C.brt (C.rt ?_)))))))))
 exact C.f1 T o (pBi g)
 refine C.skip (C.nx (U.start (U.ps 3 T rfl (U.e1 rfl (.none rfl) (by exact Eff1.mu T (x:=x16.Load) (y:=true) (.inl rfl) rfl kt3 (fun _=>rfl) rfl rfl rfl rfl rfl (.inl rfl) rfl) ?_))))
 refine U.done (C.bnx (C.nx (U.start (U.pd 2 T (C.nx ?_)))))
 exact St.wk (C.next g) (Wk.a (idR 3))
 refine D.bq mix 9999 [1,2,3] [] (fun hQ hS ws M'=>?_)
 refine D.pq 4 (zl [0,1,2,3]) T ?_
 refine g.cs (fun b39 g=>?_) fun b39 g=>?_
 refine D.pt 4 [] 3 true 67 b39 T ?_
 refine D.pt 5 [] 3 true 67 b39 T ?_
 refine D.q 6 [] hQ hS rfl (.tk 3 true 67 b39) rfl rfl (by exact Rd.l T rfl rfl rfl) rfl (by kernel_rfl) ?_
 refine D.q 7 [] hQ hS rfl (.tk 3 true 67 b39) rfl rfl (by exact Rd.lk T (ke:=kI) (ve:=veB) (xs:=s9.1) (z0:=false) (x:=x16.Load) rfl rfl kt3 zt4 (fun _=>rfl) rfl (.o rfl) rfl rfl rfl) rfl (by kernel_rfl) ?_
 refine D.pt 8 [] 3 true 67 b39 T ?_
 refine g.cs (fun b40 g=>?_) fun b40 g=>?_
 refine D.sz 9 [] 8 false 72 b40 ?_
 refine D.sz 10 [] 8 false 72 b40 ?_
 refine D.sz 11 [] 8 false 72 b40 ?_
 refine D.sz 12 [] 8 false 72 b40 ?_
 refine D.sz 13 [] 8 false 72 b40 ?_
 refine D.sz 14 [] 8 false 72 b40 ?_
 refine D.sz 15 [] 8 false 72 b40 ?_
 refine D.sz 16 [] 8 false 72 b40 ?_
 refine D.sz 17 [] 8 false 72 b40 ?_
 refine D.q 18 [] hQ hS rfl (.tk 3 true 67 b39) rfl rfl (by exact Rd.pk rfl rfl b40 rfl) rfl (by kernel_rfl) ?_
 refine D.kt 19 [] b39 ?_
 refine D.done (by kernel_rfl) ?_
 exact St.wa (idR 4) (j38 _ g)
 refine D.pt 9 [] 8 false 72 b40 T ?_
 refine D.q 10 [] hQ hS rfl (.tk 8 false 72 b40) rfl rfl (by exact Rd.l T rfl rfl rfl) rfl (by kernel_rfl) ?_
 refine D.pt 11 [] 8 false 72 b40 T ?_
 refine D.q 12 [] hQ hS rfl (.tk 8 false 72 b40) rfl rfl (by exact Rd.l T rfl rfl rfl) rfl (by kernel_rfl) ?_
 obtain⟨x41,y41,g⟩:=g
 refine D.q 13 [] hQ hS rfl (.tk 8 false 72 b40) rfl rfl (by exact Rd.ix T rfl rfl rfl rfl rfl rfl y41) rfl (by kernel_rfl) ?_
 refine D.q 14 [] hQ hS rfl (.tk 8 false 72 b40) rfl rfl (by exact Rd.l T rfl rfl rfl) rfl (by kernel_rfl) ?_
 refine D.pt 15 [] 8 false 72 b40 T ?_
 refine D.q 16 [] hQ hS rfl (.tk 8 false 72 b40) rfl rfl (by exact Rd.l T rfl rfl rfl) rfl (by kernel_rfl) ?_
 refine D.pt 17 [] 8 false 72 b40 T ?_
 refine D.q 18 [] hQ hS rfl (.tk 3 true 67 b39) rfl rfl (by exact Rd.pk' rfl rfl b40 rfl) rfl (by kernel_rfl) ?_
 refine D.kt 19 [] b39 ?_
 refine D.done (by kernel_rfl) ?_
 exact St.wa (idR 4) (j38 _ g)
 refine D.sz 4 [] 3 true 67 b39 ?_
 refine D.sz 5 [] 3 true 67 b39 ?_
 refine D.sz 6 [] 3 true 67 b39 ?_
 refine D.sz 7 [] 3 true 67 b39 ?_
 refine D.sz 8 [] 3 true 67 b39 ?_
 refine D.sx 9 [] hQ hS (.und 8 false 72 rfl rfl rfl) ?_
 refine D.sx 10 [] hQ hS (.und 8 false 72 rfl rfl rfl) ?_
 refine D.sx 11 [] hQ hS (.und 8 false 72 rfl rfl rfl) ?_
 refine D.sx 12 [] hQ hS (.und 8 false 72 rfl rfl rfl) ?_
 refine D.sx 13 [] hQ hS (.und 8 false 72 rfl rfl rfl) ?_
 refine D.sx 14 [] hQ hS (.und 8 false 72 rfl rfl rfl) ?_
 refine D.sx 15 [] hQ hS (.und 8 false 72 rfl rfl rfl) ?_
 refine D.sx 16 [] hQ hS (.und 8 false 72 rfl rfl rfl) ?_
 refine D.sx 17 [] hQ hS (.und 8 false 72 rfl rfl rfl) ?_
 refine D.sz 18 [] 3 true 67 b39 ?_
 refine D.kf 19 [] b39 ?_
 refine D.done (by kernel_rfl) ?_
 exact St.wa (idR 4) (j38 _ g)
 refine U.start (U.ps 2 T rfl (U.k (XQ x16.Charge 0 1000000 _ g) en38 (fun x29 g=>?_)))
 refine U.ps 2 T rfl ?_
 refine g.cs (fun b30 g=>?_) fun b30 g=>?_
 refine U.pq 2 4 false 52 (ntF b30) T ?_
 refine U.k (XQ x16.Rest 0 20000 _ g) en38 (fun x31 g=>?_) (hw:=.take 4 false 52 _ (ntF b30) rfl rfl rfl)
 refine U.pq 1 4 false 52 (ntF b30) T ?_
 refine U.pk' (ntF b30) ?_
 refine U.ps 1 T rfl ?_
 refine g.cs (fun b32 g=>?_) fun b32 g=>?_
 refine U.pq 2 10 false 58 (ntF b32) T ?_
 refine U.k (XQ x16.Mute 0 20000 _ g) en38 (fun x33 g=>?_) (hw:=.take 10 false 58 _ (ntF b32) rfl rfl rfl)
 refine U.pq 1 10 false 58 (ntF b32) T ?_
 refine U.pk' (ntF b32) ?_
 refine U.done ?_
 exact St.wa (idR 4) (j28 _ g)
 refine U.sk' 4 10 false 58 (ntT b32) ?_
 refine U.pk (ntT b32) ?_
 refine U.done ?_
 exact St.wa (idR 4) (j28 _ g)
 refine U.sk' 4 4 false 52 (ntT b30) ?_
 refine U.pk (ntT b30) ?_
 refine U.ps 1 T rfl (U.sk' 4 10 false 58 rfl ?_)
 refine U.pk rfl ?_
 refine U.done ?_
 exact St.wa (idR 4) (j28 _ g)
 refine U.start (U.ps 4 T rfl ?_)
 refine g.cs (fun b19 g=>?_) fun b19 g=>?_
 refine U.sk' 7 3 false 19 b19 ?_
 refine U.pk b19 ?_
 refine U.ps 1 T rfl (U.sk' 8 12 false 28 rfl ?_)
 refine U.pk rfl ?_
 refine U.ps 1 T rfl (U.sk' 8 22 false 38 rfl ?_)
 refine U.pk rfl ?_
 refine U.done ?_
 exact St.wa (idR 4) (j18 _ g)
 refine U.pq 7 3 false 19 b19 T ?_
 refine U.pk' b19 ?_
 refine U.ps 1 T rfl ?_
 refine g.cs (fun b20 g=>?_) fun b20 g=>?_
 refine U.sk' 8 12 false 28 b20 ?_
 refine U.pk b20 ?_
 refine U.ps 1 T rfl (U.sk' 8 22 false 38 rfl ?_)
 refine U.pk rfl ?_
 refine U.done ?_
 exact St.wa (idR 4) (j18 _ g)
 refine U.pq 5 12 false 28 b20 T ?_
 obtain⟨x21,y21,g⟩:=g
 refine U.r rfl (.tk 12 false 28 b20) rfl rfl (by exact Rd.ix T rfl rfl rfl rfl rfl rfl y21) ?_
 refine U.pq 2 12 false 28 b20 T ?_
 refine U.pk' b20 ?_
 refine U.ps 1 T rfl ?_
 refine g.cs (fun b22 g=>?_) fun b22 g=>?_
 refine U.sk' 8 22 false 38 b22 ?_
 refine U.pk b22 ?_
 refine U.done ?_
 exact St.wa (idR 4) (j18 _ g)
 refine U.pq 6 22 false 38 b22 T ?_
 refine U.k (XQ x16.Load (-1) (w64 ((st.Shelves.length:Int)-1)) _ g) en38 (fun x23 g=>?_) (hw:=.take 22 false 38 _ b22 rfl rfl rfl)
 refine U.pq 1 22 false 38 b22 T ?_
 refine U.pk' b22 ?_
 refine U.done ?_
 exact St.wa (idR 4) (j18 _ g)
 refine C.exit (C.ex (C.ex (C.bex ?_)))
 exact St.wk (j8 _ g) (Wk.mk' [] rfl rfl trivial trivial rfl)
theorem Q19 (f:ApiFloor) (c:Int) (kinds:List Int) (post:Bool→Prop) (g:XX f c kinds post):
  Tr Tryz.prog 42 [.agg (Qr f),.i c,.sl 1 eI kinds] [] 0 (pB post):=by
 refine Tr.go Tryz.func42 Tryz.ntmps42 fun _ _ _ _ o=>?_
 unfold XX at g
 refine C.ss (U.bx ?_)
 refine U.pd 1 T (C.xs ?_)
 refine C.jn (fun (x3:Bool)=>[(6,.b x3)]) (fun x3=>[]) 0 g (fun x3 g=>?_) fun J4 g j4=>?_
 refine C.nx (C.ret ?_)
 exact C.f1 T o (pBi g)
 refine U.start (U.ps 3 T rfl ?_)
 refine g.cs (fun b5 g=>?_) fun b5 g=>?_
 refine U.pq 5 2 true 9 b5 T ?_
 refine U.pk b5 ?_
 refine U.ps 1 T rfl ?_
 refine g.cs (fun b6 g=>?_) fun b6 g=>?_
 refine U.pq 4 9 true 16 b6 T ?_
 obtain⟨x7,y7,g⟩:=g
 refine U.r rfl (.tk 9 true 16 b6) rfl rfl (by exact Rd.ix T rfl rfl rfl rfl rfl rfl y7) ?_
 refine U.pq 1 9 true 16 b6 T ?_
 refine U.k (QO kinds x7 _ g) en89 (fun x8 g=>?_) (hw:=.take 9 true 16 _ b6 rfl rfl rfl)
 refine U.pk b6 ?_
 refine U.pd 1 T ?_
 exact St.wn (j4 _ g)
 refine U.sk' 7 9 true 16 b6 ?_
 refine U.pk' b6 ?_
 refine U.pd 1 T ?_
 exact St.wn (j4 _ g)
 refine U.sk' 5 2 true 9 b5 ?_
 refine U.pk' b5 ?_
 refine U.ps 1 T rfl (U.sk' 7 9 true 16 rfl ?_)
 refine U.pk' rfl ?_
 refine U.pd 1 T ?_
 exact St.wn (j4 _ g)
theorem Q4h (f:ApiFloor) (st:ApiState) (post:Bool→Prop) (g:WD f st post):
  Tr Tryz.prog 40 [.agg (Qr f),.agg (Q3 st)] [] 0 (pB post):=by
 refine Tr.go Tryz.func40 Tryz.ntmps40 fun _ _ _ _ o=>?_
 unfold WD at g
 refine C.ss (U.bx ?_)
 refine U.bx ?_
 refine U.pd 1 T (C.xs (C.ss ?_))
 refine U.pd 4 T (C.nx ?_)
 refine C.jn (fun (x5:Unit)=>[(2,.p 0 0),(3,.p 1 0)]) (fun x5=>[(0,.box (Qr f)),(1,.box (Q3 st))]) 2 g (fun x5 g=>?_) fun J6 g j6=>?_
 refine C.xs (C.ss (U.pd 4 T (C.nx ?_)))
 refine C.jn (fun (x28:Unit)=>[]) (fun x28=>[]) 0 g (fun x28 g=>?_) fun J29 g j29=>?_
 refine C.xt (U.pd 1 T (C.nx (C.ret ?_)))
 exact C.f1 T o (pBi g)
 refine C.block (St.wk (C.loop (fun (s30:Int)=>[(2,.p 0 0),(3,.p 1 0),(42,.sl 2 Q5 st.Stuck),(43,.i (st.Stuck.length:Int)),(44,.i s30)]) (fun s30=>[(0,.box (Qr f)),(1,.box (Q3 st))]) g (fun s30 Y31 g=>?_)) (Wk.a (idR 2)))
 refine C.ss (U.pd 1 T (C.xs ?_))
 refine C.ite rfl g (fun b34 g=>?_) fun b34 g=>?_
 refine C.skip (C.xs (C.block (C.ss (U.ps 1 T rfl ?_))))
 obtain⟨x37,y37,g⟩:=g
 refine U.ix T y37 ?_
 refine U.ps 1 T rfl (U.al T ?_)
 refine U.ps 1 T rfl (U.st T ?_)
 refine U.done (C.xs ?_)
 refine C.jn (fun (x38:Bool)=>[(2,.p 0 0),(3,.p 1 0),(42,.sl 2 Q5 st.Stuck),(43,.i (st.Stuck.length:Int)),(44,.i s30),(76,.b x38)]) (fun x38=>[(0,.box (Qr f)),(1,.box (Q3 st))]) 2 g (fun x38 g=>?_) fun J39 g j39=>?_
 refine C.nx ?_
 refine C.ite rfl g (fun b46 g=>?_) fun b46 g=>?_
 refine C.ss (U.pd 1 T (C.nx (C.ret (C.brt (C.rt (C.rt (C.brt (C.rt ?_))))))))
 exact C.f1 T o (pBi g)
 refine C.skip (C.bnx (C.nx (U.start (U.pd 2 T (C.nx ?_)))))
 exact St.wk (C.next g) (Wk.a (idR 2))
 refine D.bq mix 9999 [0,1,2] [] (fun hQ hS ws M'=>?_)
 refine D.pq 3 (zl [0,1,2]) T ?_
 refine D.e1 3 rfl (.none rfl) (by exact Eff1.bs T (enc:=eI) (xs:=([6]:List Int)) rfl rfl rfl rfl rfl rfl rfl rfl rfl rfl (fun _ _=>rfl) rfl rfl) (by kernel_rfl) rfl rfl ?_
 refine D.k 4 (Q19 f x37.Cell ([6]:List Int) _ g) en42 fun x40 g=>?_
 refine D.pq 2 (zl [5,6]) T ?_
 refine g.cs (fun b41 g=>?_) fun b41 g=>?_
 refine D.pt 7 [] 6 false 55 (ntF b41) T ?_
 refine D.q 8 [] hQ hS rfl (.tk 6 false 55 (ntF b41)) rfl rfl (by exact Rd.l T rfl rfl rfl) rfl (by kernel_rfl) ?_
 refine D.k 9 (XQ x37.Left 1 20000 _ g) en38 (fun x42 g=>?_) (hw:=.take 6 false 55 _ (ntF b41) rfl rfl rfl)
 refine D.pt 10 [] 6 false 55 (ntF b41) T ?_
 refine D.kf 11 [] (ntF b41) ?_
 refine D.pq 1 [(12,[])] T ?_
 refine g.cs (fun b43 g=>?_) fun b43 g=>?_
 refine D.pt 13 [] 12 false 61 (ntF b43) T ?_
 refine D.pt 14 [] 12 false 61 (ntF b43) T ?_
 refine D.pt 15 [] 12 false 61 (ntF b43) T ?_
 refine g.cs (fun b44 g=>?_) fun b44 g=>?_
 refine D.pt 16 [] 15 true 64 b44 T ?_
 refine D.q 17 [] hQ hS rfl (.tk 15 true 64 b44) rfl rfl (by exact Rd.l T rfl rfl rfl) rfl (by kernel_rfl) ?_
 refine D.pt 18 [] 15 true 64 b44 T ?_
 refine D.q 19 [] hQ hS rfl (.tk 15 true 64 b44) rfl rfl (by exact Rd.l T rfl rfl rfl) rfl (by kernel_rfl) ?_
 refine D.pt 20 [] 15 true 64 b44 T ?_
 refine D.pt 21 [] 15 true 64 b44 T ?_
 obtain⟨x45,y45,g⟩:=g
 refine D.q 22 [] hQ hS rfl (.tk 15 true 64 b44) rfl rfl (by exact Rd.ix T rfl rfl rfl rfl rfl rfl y45) rfl (by kernel_rfl) ?_
 refine D.pt 23 [] 15 true 64 b44 T ?_
 refine D.q 24 [] hQ hS rfl (.tk 15 true 64 b44) rfl rfl (by exact Rd.l T rfl rfl rfl) rfl (by kernel_rfl) ?_
 refine D.pt 25 [] 15 true 64 b44 T ?_
 refine D.q 26 [] hQ hS rfl (.tk 12 false 61 (ntF b43)) rfl rfl (by exact Rd.pk rfl rfl b44 rfl) rfl (by kernel_rfl) ?_
 refine D.kf 27 [] (ntF b43) ?_
 refine D.done (by kernel_rfl) ?_
 exact St.wa (idR 2) (j39 _ g)
 refine D.sz 16 [] 15 true 64 b44 ?_
 refine D.sz 17 [] 15 true 64 b44 ?_
 refine D.sz 18 [] 15 true 64 b44 ?_
 refine D.sz 19 [] 15 true 64 b44 ?_
 refine D.sz 20 [] 15 true 64 b44 ?_
 refine D.sz 21 [] 15 true 64 b44 ?_
 refine D.sz 22 [] 15 true 64 b44 ?_
 refine D.sz 23 [] 15 true 64 b44 ?_
 refine D.sz 24 [] 15 true 64 b44 ?_
 refine D.sz 25 [] 15 true 64 b44 ?_
 refine D.q 26 [] hQ hS rfl (.tk 12 false 61 (ntF b43)) rfl rfl (by exact Rd.pk' rfl rfl b44 rfl) rfl (by kernel_rfl) ?_
 refine D.kf 27 [] (ntF b43) ?_
 refine D.done (by kernel_rfl) ?_
 exact St.wa (idR 2) (j39 _ g)
 refine D.sz 13 [] 12 false 61 (ntT b43) ?_
 refine D.sz 14 [] 12 false 61 (ntT b43) ?_
 refine D.sz 15 [] 12 false 61 (ntT b43) ?_
 refine D.sx 16 [] hQ hS (.und 15 true 64 rfl rfl rfl) ?_
 refine D.sx 17 [] hQ hS (.und 15 true 64 rfl rfl rfl) ?_
 refine D.sx 18 [] hQ hS (.und 15 true 64 rfl rfl rfl) ?_
 refine D.sx 19 [] hQ hS (.und 15 true 64 rfl rfl rfl) ?_
 refine D.sx 20 [] hQ hS (.und 15 true 64 rfl rfl rfl) ?_
 refine D.sx 21 [] hQ hS (.und 15 true 64 rfl rfl rfl) ?_
 refine D.sx 22 [] hQ hS (.und 15 true 64 rfl rfl rfl) ?_
 refine D.sx 23 [] hQ hS (.und 15 true 64 rfl rfl rfl) ?_
 refine D.sx 24 [] hQ hS (.und 15 true 64 rfl rfl rfl) ?_
 refine D.sx 25 [] hQ hS (.und 15 true 64 rfl rfl rfl) ?_
 refine D.sz 26 [] 12 false 61 (ntT b43) ?_
 refine D.kt 27 [] (ntT b43) ?_
 refine D.done (by kernel_rfl) ?_
 exact St.wa (idR 2) (j39 _ g)
 refine D.sz 7 [] 6 false 55 (ntT b41) ?_
 refine D.sz 8 [] 6 false 55 (ntT b41) ?_
 refine D.sz 9 [] 6 false 55 (ntT b41) ?_
 refine D.sz 10 [] 6 false 55 (ntT b41) ?_
 refine D.kt 11 [] (ntT b41) ?_
 refine D.pq 1 [(12,[])] T ?_
 refine D.sz 13 [] 12 false 61 rfl ?_
 refine D.sz 14 [] 12 false 61 rfl ?_
 refine D.sz 15 [] 12 false 61 rfl ?_
 refine D.sx 16 [] hQ hS (.und 15 true 64 rfl rfl rfl) ?_
 refine D.sx 17 [] hQ hS (.und 15 true 64 rfl rfl rfl) ?_
 refine D.sx 18 [] hQ hS (.und 15 true 64 rfl rfl rfl) ?_
 refine D.sx 19 [] hQ hS (.und 15 true 64 rfl rfl rfl) ?_
 refine D.sx 20 [] hQ hS (.und 15 true 64 rfl rfl rfl) ?_
 refine D.sx 21 [] hQ hS (.und 15 true 64 rfl rfl rfl) ?_
 refine D.sx 22 [] hQ hS (.und 15 true 64 rfl rfl rfl) ?_
 refine D.sx 23 [] hQ hS (.und 15 true 64 rfl rfl rfl) ?_
 refine D.sx 24 [] hQ hS (.und 15 true 64 rfl rfl rfl) ?_
 refine D.sx 25 [] hQ hS (.und 15 true 64 rfl rfl rfl) ?_
 refine D.sz 26 [] 12 false 61 rfl ?_
 refine D.kt 27 [] rfl ?_
 refine D.done (by kernel_rfl) ?_
 exact St.wa (idR 2) (j39 _ g)
 refine C.exit (C.ex (C.ex (C.bex ?_)))
 exact St.wk (j29 _ g) (Wk.mk' [] rfl rfl trivial trivial rfl)
 refine C.block (St.wk (C.loop (fun (s7:Int)=>[(2,.p 0 0),(3,.p 1 0),(10,.sl 1 eI st.Dead),(11,.i (st.Dead.length:Int)),(12,.i s7)]) (fun s7=>[(0,.box (Qr f)),(1,.box (Q3 st))]) g (fun s7 Y8 g=>?_)) (Wk.a (idR 2)))
 refine C.ss (U.pd 1 T (C.xs ?_))
 refine C.ite rfl g (fun b11 g=>?_) fun b11 g=>?_
 refine C.skip (C.xs (C.block (C.ss (U.ps 1 T rfl ?_))))
 obtain⟨x14,y14,g⟩:=g
 refine U.ix T y14 ?_
 refine U.pd 3 T (C.xs ?_)
 refine C.jn (fun (x15:Bool)=>[(2,.p 0 0),(3,.p 1 0),(10,.sl 1 eI st.Dead),(11,.i (st.Dead.length:Int)),(12,.i s7),(39,.b x15)]) (fun x15=>[(0,.box (Qr f)),(1,.box (Q3 st))]) 2 g (fun x15 g=>?_) fun J16 g j16=>?_
 refine C.nx ?_
 refine C.ite rfl g (fun b21 g=>?_) fun b21 g=>?_
 refine C.ss (U.pd 1 T (C.nx (C.ret (C.brt (C.rt (C.rt (C.brt (C.rt ?_))))))))
 exact C.f1 T o (pBi g)
 refine C.skip (C.bnx (C.nx (U.start (U.pd 2 T (C.nx ?_)))))
 exact St.wk (C.next g) (Wk.a (idR 2))
 refine U.start (U.ps 3 T rfl ?_)
 refine g.cs (fun b17 g=>?_) fun b17 g=>?_
 refine U.sk' 5 2 false 19 b17 ?_
 refine U.pk b17 ?_
 refine U.ps 1 T rfl (U.sk' 3 9 false 26 rfl ?_)
 refine U.sku 8 12 true 29 rfl rfl rfl ?_
 refine U.sk' 1 9 false 26 rfl ?_
 refine U.pk rfl ?_
 refine U.done ?_
 exact St.wa (idR 2) (j16 _ g)
 refine U.pq 5 2 false 19 b17 T ?_
 refine U.pk' b17 ?_
 refine U.ps 1 T rfl ?_
 refine g.cs (fun b18 g=>?_) fun b18 g=>?_
 refine U.sk' 3 9 false 26 b18 ?_
 refine U.sku 8 12 true 29 rfl rfl rfl ?_
 refine U.sk' 1 9 false 26 b18 ?_
 refine U.pk b18 ?_
 refine U.done ?_
 exact St.wa (idR 2) (j16 _ g)
 refine U.pq 3 9 false 26 b18 T ?_
 refine g.cs (fun b19 g=>?_) fun b19 g=>?_
 refine U.pq 5 12 true 29 b19 T ?_
 obtain⟨x20,y20,g⟩:=g
 refine U.r rfl (.tk 12 true 29 b19) rfl rfl (by exact Rd.ix T rfl rfl rfl rfl rfl rfl y20) ?_
 refine U.pq 2 12 true 29 b19 T ?_
 refine U.r rfl (.tk 9 false 26 b18) rfl rfl (by exact Rd.pk rfl rfl b19 rfl) ?_
 refine U.pk' b18 ?_
 refine U.done ?_
 exact St.wa (idR 2) (j16 _ g)
 refine U.sk' 8 12 true 29 b19 ?_
 refine U.r rfl (.tk 9 false 26 b18) rfl rfl (by exact Rd.pk' rfl rfl b19 rfl) ?_
 refine U.pk' b18 ?_
 refine U.done ?_
 exact St.wa (idR 2) (j16 _ g)
 refine C.exit (C.ex (C.ex (C.bex ?_)))
 exact St.wa (idR 2) (j6 _ g)
theorem Q0Z (r:ApiRobot) (c0:Int) (post:Bool→Prop) (g:Xs r c0 post):
  Tr Tryz.prog 88 [.agg (Q2 r),.rp [.i c0]] [] 0 (pB post):=by
 refine Tr.go Tryz.func88 Tryz.ntmps88 fun _ _ _ _ o=>?_
 unfold Xs at g
 refine C.ss (U.bx ?_)
 refine U.pd 1 T (C.xt ?_)
 refine U.pd 5 T (C.nx (C.ret ?_))
 exact C.f1 T o (pBi g)
theorem Kt (s_1:List ApiRobot) (f_c0:Int) (post:Int→Prop) (g:Qp s_1 f_c0 post):
  Tr Tryz.prog 87 [.sl 6 Q2 s_1,.fn (.func 88) [] [.rp [.i f_c0]]] [] 0 (pI post):=by
 refine Tr.go Tryz.func87 Tryz.ntmps87 fun _ _ _ _ o=>?_
 unfold Qp at g
 refine C.ss (U.pd 1 T (C.xs (C.ss ?_)))
 refine U.pd 3 T (C.nx ?_)
 refine C.jn (fun (x5:Unit)=>[]) (fun x5=>[]) 0 g (fun x5 g=>?_) fun J6 g j6=>?_
 refine C.xt (U.pd 1 T (C.nx (C.ret ?_)))
 exact C.f1 T o (pIi g)
 refine C.block (St.wk (C.loop (fun (s7:Int)=>[(0,.sl 6 Q2 s_1),(1,.fn (.func 88) [] [.rp [.i f_c0]]),(7,.i (s_1.length:Int)),(8,.i s7)]) (fun s7=>[]) g (fun s7 Y8 g=>?_)) (Wk.e))
 refine C.ss (U.pd 1 T (C.xs ?_))
 refine C.ite rfl g (fun b11 g=>?_) fun b11 g=>?_
 refine C.skip (C.xs (C.block (C.ss (U.pd 2 T (C.xt ?_)))))
 refine U.ps 3 T rfl ?_
 obtain⟨x16,y16,g⟩:=g
 refine U.ix T y16 ?_
 refine U.ps 1 T rfl (U.k (Q0Z x16 f_c0 _ g) en88 (fun x17 g=>?_))
 refine U.done (C.nx ?_)
 refine C.ite rfl g (fun b18 g=>?_) fun b18 g=>?_
 refine C.ss (U.pd 2 T (C.nx (C.ret (C.brt (C.rt (C.rt (C.brt (C.rt ?_))))))))
 exact C.f1 T o (pIi g)
 refine C.skip (C.bnx (C.nx (U.start (U.pd 2 T (C.nx ?_)))))
 exact St.wk (C.next g) (Wk.e)
 refine C.exit (C.ex (C.ex (C.bex ?_)))
 exact St.wk (j6 _ g) (Wk.mk' [] rfl rfl trivial trivial rfl)
theorem Zn (st:ApiState) (shelf:Int) (post:Int→Prop) (g:X2 st shelf post):
  Tr Tryz.prog 41 [.agg (Q3 st),.i shelf] [] 0 (pI post):=by
 refine Tr.go Tryz.func41 Tryz.ntmps41 fun _ _ _ _ o=>?_
 unfold X2 at g
 refine C.ss (U.bx ?_)
 refine U.bx ?_
 refine U.pd 1 T (C.xs (C.ss ?_))
 refine U.pd 2 T (C.nx ?_)
 refine C.ite rfl g (fun b5 g=>?_) fun b5 g=>?_
 refine C.ss (U.pd 1 T (C.nx (C.ret (C.rt ?_))))
 exact C.f1 T o (pIi g)
 refine C.skip (C.xt (U.ps 3 T rfl (U.k (Kt st.Robots shelf _ g) en87 (fun x10 g=>?_))))
 refine U.pd 1 T (C.nx (C.ret ?_))
 exact C.f1 T o (pIi g)
theorem Yd (c:Int) (post:Int→Prop) (g:KL c post):
  Tr Tryz.prog 101 [.i c] [] 0 (pI post):=by
 refine Tr.go Tryz.func101 Tryz.ntmps101 fun _ _ _ _ o=>?_
 unfold KL at g
 refine C.ss (U.pd 1 T (C.xt ?_))
 refine U.pd 3 T (C.nx (C.ret ?_))
 exact C.f1 T o (pIi g)
theorem Wv (c:Int) (post:Int→Prop) (g:Kd c post):
  Tr Tryz.prog 102 [.i c] [] 0 (pI post):=by
 refine Tr.go Tryz.func102 Tryz.ntmps102 fun _ _ _ _ o=>?_
 unfold Kd at g
 refine C.ss (U.pd 1 T (C.xt ?_))
 refine U.pd 4 T (C.nx (C.ret ?_))
 exact C.f1 T o (pIi g)
theorem Q3y (r:ApiRobot) (c:Int) (post:(List Int)→Prop) (g:Wa r c post):
  Tr Tryz.prog 147 [.agg (Q2 r),.i c] [] 0 (fun A H' k=>∃y,post y∧A=(.o 0)∧H'=[(0,.val (.os 1 eI y))]∧k=1):=by
 refine Tr.go Tryz.func147 Tryz.ntmps147 fun _ _ _ _ o=>?_
 unfold Wa at g
 refine C.ss (U.bx ?_)
 refine U.pd 1 T (C.xs (C.ss ?_))
 refine U.pd 3 T (C.nx ?_)
 refine C.ite rfl g (fun b5 g=>?_) fun b5 g=>?_
 refine C.ss (U.ps 1 T rfl (U.k (Yd c _ g) Q6l (fun x8 g=>?_)))
 refine U.ps 1 T rfl (U.k (Wv c _ g) Q5G (fun x9 g=>?_))
 refine U.bs T eI ([x8,x9]:List Int) ?_
 refine U.pd 1 T (C.nx (C.ret (C.rt ?_)))
 exact C.g1 [some 1] T o ⟨([x8,x9]:List Int),g,rfl,rfl,rfl⟩
 refine C.skip (C.xt (U.ps 1 T rfl (U.k (Yd c _ g) Q6l (fun x12 g=>?_))))
 refine U.bs T eI ([x12]:List Int) ?_
 refine U.pd 1 T (C.nx (C.ret ?_))
 exact C.g1 [some 1] T o ⟨([x12]:List Int),g,rfl,rfl,rfl⟩
theorem Q3I (st:ApiState) (i:Int) (post:(List Int)→Prop) (g:G9 st i post):
  Tr Tryz.prog 92 [.agg (Q3 st),.i i] [] 0 (fun A H' k=>∃y,post y∧A=(.o 0)∧H'=[(0,.val (.os 1 eI y))]∧k=1):=by
 refine Tr.go Tryz.func92 Tryz.ntmps92 fun _ _ _ _ o=>?_
 unfold G9 at g
 refine C.ss (U.bx ?_)
 refine U.pd 1 T (C.xs (C.seq ?_))
 refine C.jn (fun (x3:Bool)=>[(1,.i i),(2,.p 0 0),(13,.b x3)]) (fun x3=>[(0,.box (Q3 st))]) 1 g (fun x3 g=>?_) fun J4 g j4=>?_
 refine C.nx ?_
 refine C.ite rfl g (fun b6 g=>?_) fun b6 g=>?_
 refine C.ss (U.pd 1 T (C.nx (C.ret (C.rt ?_))))
 exact C.g1 [none] T o ⟨[],g,rfl,rfl,rfl⟩
 refine C.skip (C.xs (D.bq mix 9999 [0] [] (fun hQ hS ws M'=>?_)))
 refine D.pq 3 (zl [0,1,2]) T ?_
 obtain⟨x11,y11,g⟩:=g
 refine D.ix 3 [] T y11 ?_
 refine D.pq 4 (zl [4,5,6,7]) T ?_
 refine D.ix 8 [] T y11 ?_
 refine D.pq 2 (zl [9,10]) T ?_
 refine D.k 11 (Q3y x11 x11.Cell _ g) Q8I fun x12 g=>?_
 refine D.pq 1 [(12,[])] T ?_
 refine D.done (by kernel_rfl) ?_
 refine C.nx (C.ret ?_)
 exact C.g1 [some 1] T o ⟨x12,g,rfl,rfl,rfl⟩
 refine U.start (U.ps 3 T rfl ?_)
 refine g.cs (fun b5 g=>?_) fun b5 g=>?_
 refine U.sk' 5 2 false 7 b5 ?_
 refine U.pk b5 ?_
 refine U.done ?_
 exact St.wa [some 0] (j4 _ g)
 refine U.pq 5 2 false 7 b5 T ?_
 refine U.pk' b5 ?_
 refine U.done ?_
 exact St.wa [some 0] (j4 _ g)
theorem Q3f (st:ApiState) (s_1:Int) (post:(List Int)→Prop) (g:Ga st s_1 post):
  Tr Tryz.prog 93 [.agg (Q3 st),.i s_1] [] 0 (fun A H' k=>∃y,post y∧A=(.o 0)∧H'=[(0,.val (.os 1 eI y))]∧k=1):=by
 refine Tr.go Tryz.func93 Tryz.ntmps93 fun _ _ _ _ o=>?_
 unfold Ga at g
 refine C.ss (U.bx ?_)
 refine U.pd 1 T (C.xs (C.seq ?_))
 refine C.jn (fun (x3:Bool)=>[(1,.i s_1),(2,.p 0 0),(19,.b x3)]) (fun x3=>[(0,.box (Q3 st))]) 1 g (fun x3 g=>?_) fun J4 g j4=>?_
 refine C.nx ?_
 refine C.ite rfl g (fun b8 g=>?_) fun b8 g=>?_
 refine C.ss (U.pd 1 T (C.nx (C.ret (C.rt ?_))))
 exact C.g1 [none] T o ⟨[],g,rfl,rfl,rfl⟩
 refine C.skip (C.xt (U.ps 3 T rfl ?_))
 obtain⟨x13,y13,g⟩:=g
 refine U.ix T y13 ?_
 refine U.ps 1 T rfl (U.k (Wv x13 _ g) Q5G (fun x14 g=>?_))
 refine U.bs T eI ([x14]:List Int) ?_
 refine U.pd 1 T (C.nx (C.ret ?_))
 exact C.g1 [some 1] T o ⟨([x14]:List Int),g,rfl,rfl,rfl⟩
 refine U.start (U.ps 3 T rfl ?_)
 refine g.cs (fun b5 g=>?_) fun b5 g=>?_
 refine U.sk' 5 2 false 7 b5 ?_
 refine U.pk b5 ?_
 refine U.ps 1 T rfl (U.sk' 4 9 false 14 rfl ?_)
 refine U.pk rfl ?_
 refine U.done ?_
 exact St.wa [some 0] (j4 _ g)
 refine U.pq 5 2 false 7 b5 T ?_
 refine U.pk' b5 ?_
 refine U.ps 1 T rfl ?_
 refine g.cs (fun b6 g=>?_) fun b6 g=>?_
 refine U.sk' 4 9 false 14 b6 ?_
 refine U.pk b6 ?_
 refine U.done ?_
 exact St.wa [some 0] (j4 _ g)
 refine U.pq 2 9 false 14 b6 T ?_
 refine U.k (Zn st s_1 _ g) en41 (fun x7 g=>?_) (hw:=.take 9 false 14 _ b6 rfl rfl rfl)
 refine U.pq 1 9 false 14 b6 T ?_
 refine U.pk' b6 ?_
 refine U.done ?_
 exact St.wa [some 0] (j4 _ g)
theorem Q2O (st:ApiState) (p:Int) (post:(List Int)→Prop) (g:XT st p post):
  Tr Tryz.prog 94 [.agg (Q3 st),.i p] [] 0 (fun A H' k=>∃y,post y∧A=(.o 0)∧H'=[(0,.val (.os 1 eI y))]∧k=1):=by
 refine Tr.go Tryz.func94 Tryz.ntmps94 fun _ _ _ _ o=>?_
 unfold XT at g
 refine C.ss (U.bx ?_)
 refine U.pd 1 T (C.xs (C.seq ?_))
 refine C.jn (fun (x3:Bool)=>[(1,.i p),(2,.p 0 0),(13,.b x3)]) (fun x3=>[(0,.box (Q3 st))]) 1 g (fun x3 g=>?_) fun J4 g j4=>?_
 refine C.nx ?_
 refine C.ite rfl g (fun b6 g=>?_) fun b6 g=>?_
 refine C.ss (U.pd 1 T (C.nx (C.ret (C.rt ?_))))
 exact C.g1 [none] T o ⟨[],g,rfl,rfl,rfl⟩
 refine C.skip (C.xs (D.bq mix 9999 [0] [] (fun hQ hS ws M'=>?_)))
 refine D.pq 3 (zl [0,1,2]) T ?_
 obtain⟨x11,y11,g⟩:=g
 refine D.ix 3 [] T y11 ?_
 refine D.pq 4 (zl [4,6,7,8]) T ?_
 refine D.ix 9 [] T y11 ?_
 refine D.pq 1 [(10,[])] T ?_
 refine D.k 5 (Yd x11 _ g) Q6l fun x12 g=>?_
 refine D.k 11 (Wv x11 _ g) Q5G fun x13 g=>?_
 refine D.e1 12 rfl (.none rfl) (by exact Eff1.bs T (enc:=eI) (xs:=([x12,x13]:List Int)) rfl rfl rfl rfl rfl rfl rfl rfl rfl rfl (fun _ _=>rfl) rfl rfl) (by kernel_rfl) rfl rfl ?_
 refine D.pq 1 [(13,[])] T ?_
 refine D.done (by kernel_rfl) ?_
 refine C.nx (C.ret ?_)
 exact C.g1 [some 1] T o ⟨([x12,x13]:List Int),g,rfl,rfl,rfl⟩
 refine U.start (U.ps 3 T rfl ?_)
 refine g.cs (fun b5 g=>?_) fun b5 g=>?_
 refine U.sk' 5 2 false 7 b5 ?_
 refine U.pk b5 ?_
 refine U.done ?_
 exact St.wa [some 0] (j4 _ g)
 refine U.pq 5 2 false 7 b5 T ?_
 refine U.pk' b5 ?_
 refine U.done ?_
 exact St.wa [some 0] (j4 _ g)
theorem Q0H (st:ApiState) (post:(List Int)→Prop) (g:Gx st post):
  Tr Tryz.prog 44 [.agg (Q3 st)] [] 0 (fun A H' k=>∃y,post y∧A=(.o 0)∧H'=[(0,.val (.os 1 eI y))]∧k=1):=by
 refine Tr.go Tryz.func44 Tryz.ntmps44 fun _ _ _ _ o=>?_
 unfold Gx at g
 refine C.ss (U.bx ?_)
 refine U.pd 1 T (C.xt ?_)
 refine U.pd 1 T (C.xs (C.ss ?_))
 refine U.pd 4 T (C.nx ?_)
 refine C.jn (fun (x7:List Int)=>[(1,.p 0 0),(3,.o 1)]) (fun x7=>[(0,.box (Q3 st)),(1,.val (.os 1 eI x7))]) 2 g (fun x7 g=>?_) fun J8 g j8=>?_
 refine C.xs (C.ss (U.pd 4 T (C.nx ?_)))
 refine C.jn (fun (x24:List Int)=>[(1,.p 0 0),(3,.o 1)]) (fun x24=>[(0,.box (Q3 st)),(1,.val (.os 1 eI x24))]) 2 g (fun x24 g=>?_) fun J25 g j25=>?_
 refine C.xs (C.ss (U.pd 4 T (C.nx ?_)))
 refine C.jn (fun (x41:List Int)=>[(3,.o 0)]) (fun x41=>[(0,.val (.os 1 eI x41))]) 1 g (fun x41 g=>?_) fun J42 g j42=>?_
 refine C.xt (U.pd 2 T (C.nx (C.ret ?_)))
 exact C.g1 [some 0] T o ⟨x41,g,rfl,rfl,rfl⟩
 refine C.block (St.wk (C.loop (fun (s43:List Int×Int)=>[(1,.p 0 0),(3,.o 1),(33,.i (st.People.length:Int)),(34,.i s43.2)]) (fun s43=>[(0,.box (Q3 st)),(1,.val (.os 1 eI s43.1))]) g (fun s43 Y44 g=>?_)) (Wk.a (idR 2)))
 refine C.ss (U.pd 1 T (C.xs ?_))
 refine C.ite rfl g (fun b47 g=>?_) fun b47 g=>?_
 refine C.skip (C.xs (C.block (C.ss (U.pd 2 T (C.nx (U.start ?_))))))
 refine U.ps 3 T rfl (U.k (Q2O st s43.2 _ g) en94 (fun x52 g=>?_))
 obtain⟨y53,g⟩:=g
 refine U.ap T y53 ?_
 refine U.pd 1 T (C.bnx (C.nx (U.start ?_)))
 refine U.pd 2 T (C.nx ?_)
 exact St.wk (C.next g) (Wk.a [some 0,some 3])
 refine C.exit (C.ex (C.ex (C.bex ?_)))
 exact St.wa [some 1] (j42 _ g)
 refine C.block (St.wk (C.loop (fun (s26:List Int×Int)=>[(1,.p 0 0),(3,.o 1),(21,.i (st.Shelves.length:Int)),(22,.i s26.2)]) (fun s26=>[(0,.box (Q3 st)),(1,.val (.os 1 eI s26.1))]) g (fun s26 Y27 g=>?_)) (Wk.a (idR 2)))
 refine C.ss (U.pd 1 T (C.xs ?_))
 refine C.ite rfl g (fun b30 g=>?_) fun b30 g=>?_
 refine C.skip (C.xs (C.block (C.ss (U.pd 2 T (C.nx (U.start ?_))))))
 refine U.ps 3 T rfl (U.k (Q3f st s26.2 _ g) en93 (fun x35 g=>?_))
 obtain⟨y36,g⟩:=g
 refine U.ap T y36 ?_
 refine U.pd 1 T (C.bnx (C.nx (U.start ?_)))
 refine U.pd 2 T (C.nx ?_)
 exact St.wk (C.next g) (Wk.a [some 0,some 3])
 refine C.exit (C.ex (C.ex (C.bex ?_)))
 exact St.wa (idR 2) (j25 _ g)
 refine C.block (St.wk (C.loop (fun (s9:List Int×Int)=>[(1,.p 0 0),(3,.o 1),(9,.i (st.Robots.length:Int)),(10,.i s9.2)]) (fun s9=>[(0,.box (Q3 st)),(1,.val (.os 1 eI s9.1))]) g (fun s9 Y10 g=>?_)) (Wk.mk' [some 0,none] rfl rfl ⟨⟨_,rfl,(.eq rfl)⟩,⟨_,rfl,(.nilO _ _ ⟨rfl,rfl⟩ rfl)⟩,ChkG.eqs rfl⟩ ⟨bX,⟨_,rfl,.nil _ _⟩,trivial⟩ rfl))
 refine C.ss (U.pd 1 T (C.xs ?_))
 refine C.ite rfl g (fun b13 g=>?_) fun b13 g=>?_
 refine C.skip (C.xs (C.block (C.ss (U.pd 2 T (C.nx (U.start ?_))))))
 refine U.ps 3 T rfl (U.k (Q3I st s9.2 _ g) en92 (fun x18 g=>?_))
 obtain⟨y19,g⟩:=g
 refine U.ap T y19 ?_
 refine U.pd 1 T (C.bnx (C.nx (U.start ?_)))
 refine U.pd 2 T (C.nx ?_)
 exact St.wk (C.next g) (Wk.a [some 0,some 3])
 refine C.exit (C.ex (C.ex (C.bex ?_)))
 exact St.wa (idR 2) (j8 _ g)
theorem Yk (s_1:List Int) (post:(List Int)→Prop) (g:K8 s_1 post):
  Tr Tryz.prog 91 [.sl 1 eI s_1] [] 0 (fun A H' k=>∃y,post y∧A=(.fn (.func 146) [] [.p 0 0])∧H'=[(0,.box [.sl 1 eI y])]∧k=1):=by
 refine Tr.go Tryz.func91 Tryz.ntmps91 fun _ _ _ _ o=>?_
 unfold K8 at g
 refine C.ss (U.bx ?_)
 refine U.pd 1 T (C.xt ?_)
 refine U.pd 2 T (C.nx (C.ret ?_))
 exact C.g1 [some 0] T o ⟨(s_1),g,rfl,rfl,rfl⟩
theorem Ks (seq_c0:List Int) (s_1:List Int) (post:(List Int)→Prop) (g:Qg seq_c0 s_1 post):
  Tr Tryz.prog 193 [.o 0,.fn (.func 146) [] [.rp [.sl 1 eI seq_c0]]] [(0,.val (.os 1 eI s_1))] 1 (fun A H' k=>∃y,post y∧A=(.o 1)∧H'=[(1,.val (.os 1 eI y))]∧k=2):=by
 refine Tr.go Tryz.func193 Tryz.ntmps193 fun _ _ _ _ o=>?_
 unfold Qg at g
 refine C.ss (U.bx ?_)
 refine U.pd 1 T (C.xs (C.ss ?_))
 refine U.pd 1 T (C.nx (C.block ?_))
 obtain⟨y8,g⟩:=g
 refine St.wk (C.range (Γ0:=[(2,.p 1 0),(6,.fn (.func 146) [] [.rp [.sl 1 eI seq_c0]])]) (Γ1:=fun (x5:Int)=>[(5,.i x5),(7,.i x5),(2,.p 1 0),(6,.fn (.func 146) [] [.rp [.sl 1 eI seq_c0]])]) (Hf:=fun (s6:List Int)=>[(1,.box [.o 2]),(2,.val (.os 1 eI s6))]) 2 g (Q9H seq_c0 y8) Qar rfl rfl rfl rfl rfl (fun _=>rfl) rfl rfl (fun _=>rfl) (fun x5 s6 Y7 g w0 ok M β l=>?_) (fun s12 g=>?_)) (Wk.a [some 0,some 1,some 0])
 refine CI.block ?_
 refine UI.start (by kernel_rfl) (by repeat (first | exact Yw.rnd | refine Yw.th ?_ | refine Yw.blk ?_)) ?_
 refine U.ps 2 T rfl (U.bs T eI ([x5]:List Int) ?_)
 obtain⟨y11,g⟩:=g
 refine U.ap T y11 ?_
 refine U.st T ?_
 refine U.done (C.bnx ?_)
 exact St.wk (CI.next g) (Wk.mk' [some 0,some 1,some 4] rfl rfl trivial ⟨bX,vL,trivial⟩ rfl)
 refine C.bnx (C.xt (U.pd 2 T (C.nx (C.ret ?_))))
 exact C.g1 [some 0,some 2] T o ⟨s12,g,rfl,rfl,rfl⟩
theorem Xj (seq_c0:List Int) (post:(List Int)→Prop) (g:Qq seq_c0 post):
  Tr Tryz.prog 145 [.fn (.func 146) [] [.rp [.sl 1 eI seq_c0]]] [] 0 (fun A H' k=>∃y,post y∧A=(.o 0)∧H'=[(0,.val (.os 1 eI y))]∧k=1):=by
 refine Tr.go Tryz.func145 Tryz.ntmps145 fun _ _ _ _ o=>?_
 unfold Qq at g
 refine C.ss (U.pd 1 T (C.xt ?_))
 refine U.ps 1 T rfl (U.c [none] (Ks seq_c0 [] _ g) Qai (fun x5 g=>?_))
 refine U.pd 1 T (C.nx (C.ret ?_))
 exact C.g1 [some 1] T o ⟨x5,g,rfl,rfl,rfl⟩
theorem Xk (seq_c0:List Int) (post:(List Int)→Prop) (g:Qt seq_c0 post):
  Tr Tryz.prog 90 [.fn (.func 146) [] [.rp [.sl 1 eI seq_c0]]] [] 0 (fun A H' k=>∃y,post y∧A=(.o 0)∧H'=[(0,.val (.os 1 eI y))]∧k=1):=by
 refine Tr.go Tryz.func90 Tryz.ntmps90 fun _ _ _ _ o=>?_
 unfold Qt at g
 refine C.ss (U.pd 1 T (C.xt ?_))
 refine U.ps 1 T rfl (U.k (Xj seq_c0 _ g) Qa0 (fun x5 g=>?_))
 refine U.pd 1 T (C.xt ?_)
 refine U.ps 1 T rfl (U.c [some 0] (K5 x5 _ g) en67 (fun x8 g=>?_))
 refine U.done (C.xt (U.pd 2 T (C.nx (C.ret ?_))))
 exact C.g1 [some 0] T o ⟨x8,g,rfl,rfl,rfl⟩
theorem Q0K (slots:List Int) (post:(Int×Bool)→Prop) (g:KX slots post):
  Tr Tryz.prog 43 [.sl 1 eI slots] [] 0 (fun A H' k=>∃y,post y∧A=(.tup [.i y.1,.b y.2])∧H'=[]∧k=0):=by
 refine Tr.go Tryz.func43 Tryz.ntmps43 fun _ _ _ _ o=>?_
 unfold KX at g
 refine C.ss (U.pd 2 T (C.xt ?_))
 refine U.ps 1 T rfl (U.e rfl (.none rfl) (by exact Eff.c [] (v:=false) (Yk slots _ g) en91 rfl rfl rfl (.eq rfl) trivial rfl rfl rfl rfl rfl rfl (fun h=>by cases h) (.inr ⟨rfl,rfl⟩) (fun _=>rfl) (fun _=>rfl) rfl) (fun x5' g=>?_))
 obtain⟨x5⟩:=x5'
 refine U.k (Xk x5 _ g) en90 fun x6 g=>?_
 refine U.pd 1 T (C.xs (C.ss ?_))
 refine U.pd 1 T (C.nx ?_)
 refine C.jn (fun (x9:Unit)=>[]) (fun x9=>[]) 0 g (fun x9 g=>?_) fun J10 g j10=>?_
 refine C.xt (U.pd 2 T (C.nx (C.ret ?_)))
 exact C.f9 T o ⟨(0,false),g,rfl,rfl,rfl⟩
 refine C.block (St.wk (C.loop (fun (s11:Int)=>[(4,.o 0),(5,.i s11)]) (fun s11=>[(0,.val (.os 1 eI x6))]) g (fun s11 Y12 g=>?_)) (Wk.a [some 1]))
 refine C.seq (C.ss (U.pd 4 T (C.nx ?_)))
 refine C.ite rfl g (fun b15 g=>?_) fun b15 g=>?_
 refine C.skip (C.xs (C.block (C.seq (D.bq mix 9999 [0] [] (fun hQ hS ws M'=>?_)))))
 refine D.pq 2 (zl [0,1]) T ?_
 obtain⟨x18,y18,g⟩:=g
 refine D.q 2 [] hQ hS rfl (.none rfl) rfl rfl (by exact Rd.io T rfl rfl rfl rfl rfl rfl rfl y18) rfl (by kernel_rfl) ?_
 refine D.q 3 [] hQ hS rfl (.none rfl) rfl rfl (by exact Rd.le T rfl rfl rfl (Q6 y18).2.2 rfl rfl rfl) rfl (by kernel_rfl) ?_
 refine D.pq 3 (zl [4,5,6]) T ?_
 obtain⟨x19,y19,g⟩:=g
 refine D.q 7 [] hQ hS rfl (.none rfl) rfl rfl (by exact Rd.io T rfl rfl rfl rfl rfl rfl rfl y19) rfl (by kernel_rfl) ?_
 refine D.q 8 [] hQ hS rfl (.none rfl) rfl rfl (by exact Rd.le T rfl rfl rfl (Q6 y19).2.2 rfl rfl rfl) rfl (by kernel_rfl) ?_
 refine D.pq 1 [(9,[])] T ?_
 refine D.done (by kernel_rfl) ?_
 refine C.nx ?_
 refine C.ite rfl g (fun b20 g=>?_) fun b20 g=>?_
 refine C.ss (U.ps 2 T rfl (U.r rfl (.none rfl) rfl rfl (by exact Rd.io T rfl rfl rfl rfl rfl rfl rfl y18) ?_))
 refine U.r rfl (.none rfl) rfl rfl (by exact Rd.le T rfl rfl rfl (Q6 y18).2.2 rfl rfl rfl) ?_
 refine U.pd 2 T (C.nx (C.ret (C.brt (C.rt (C.rt (C.brt (C.rt ?_)))))))
 exact C.f9 T o ⟨(x18,true),g,rfl,rfl,rfl⟩
 refine C.skip (C.bnx (C.nx (U.start (U.pd 3 T (C.nx ?_)))))
 exact St.wk (C.next g) (Wk.a [some 0])
 refine C.exit (C.ex (C.ex (C.bex ?_)))
 exact St.wk (j10 _ g) (Wk.mk' [] rfl rfl trivial trivial rfl)
theorem Q3L (s_1:ApiSite) (st:ApiState) (post:Bool→Prop) (g:W8 s_1 st post):
  Tr Tryz.prog 9 [.agg (Q0 s_1),.agg (Q3 st)] [] 0 (pB post):=by
 refine Tr.go Tryz.func9 Tryz.ntmps9 fun _ _ _ _ o=>?_
 unfold W8 at g
 refine C.ss (U.bx ?_)
 refine U.bx ?_
 refine U.pd 1 T (C.xs (C.seq ?_))
 refine C.jn (fun (x3:Bool)=>[(2,.p 0 0),(3,.p 1 0),(51,.b x3)]) (fun x3=>[(0,.box (Q0 s_1)),(1,.box (Q3 st))]) 2 g (fun x3 g=>?_) fun J4 g j4=>?_
 refine C.nx ?_
 refine C.ite rfl g (fun b13 g=>?_) fun b13 g=>?_
 refine C.ss (U.pd 1 T (C.nx (C.ret (C.rt ?_))))
 exact C.f1 T o (pBi g)
 refine C.skip (C.xs (C.ss (U.pd 4 T (C.nx ?_))))
 refine C.jn (fun (x18:Unit)=>[(2,.p 0 0),(3,.p 1 0)]) (fun x18=>[(0,.box (Q0 s_1)),(1,.box (Q3 st))]) 2 g (fun x18 g=>?_) fun J19 g j19=>?_
 refine C.xs (C.ss (U.pd 4 T (C.nx ?_)))
 refine C.jn (fun (x40:Unit)=>[(3,.p 0 0)]) (fun x40=>[(0,.box (Q3 st))]) 1 g (fun x40 g=>?_) fun J41 g j41=>?_
 refine C.xt (U.ps 1 T rfl (U.k (Q0H st _ g) en44 (fun x60 g=>?_)))
 refine U.k (Q0K x60 _ g) en43 fun x61 g=>?_
 refine U.pd 5 T (C.xt ?_)
 refine U.pd 3 T (C.nx (C.ret ?_))
 exact C.f1 T o (pBi g)
 refine C.block (St.wk (C.loop (fun (s42:Int)=>[(2,.p 0 0),(3,.p 1 0),(74,.sl 1 eI st.People),(75,.i (st.People.length:Int)),(76,.i s42)]) (fun s42=>[(0,.box (Q0 s_1)),(1,.box (Q3 st))]) g (fun s42 Y43 g=>?_)) (Wk.a (idR 2)))
 refine C.ss (U.pd 1 T (C.xs ?_))
 refine C.ite rfl g (fun b46 g=>?_) fun b46 g=>?_
 refine C.skip (C.xs (C.block (C.ss ?_)))
 obtain⟨x49,y49,g⟩:=g
 refine U.ix T y49 ?_
 refine U.pd 2 T (C.xt ?_)
 refine U.ps 3 T rfl (U.bs T eI ([4,5]:List Int) ?_)
 refine U.k (Q19 s_1.Floor x49 ([4,5]:List Int) _ g) en42 fun x52 g=>?_
 refine U.pd 1 T (C.nx ?_)
 refine C.ite rfl g (fun b53 g=>?_) fun b53 g=>?_
 refine C.ss (U.pd 1 T (C.nx (C.ret (C.brt (C.rt (C.rt (C.brt (C.rt ?_))))))))
 exact C.f1 T o (pBi g)
 refine C.skip (C.bnx (C.nx (U.start (U.pd 2 T (C.nx ?_)))))
 exact St.wk (C.next g) (Wk.a (idR 2))
 refine C.exit (C.ex (C.ex (C.bex ?_)))
 exact St.wa [some 1] (j41 _ g)
 refine C.block (St.wk (C.loop (fun (s20:Int)=>[(2,.p 0 0),(3,.p 1 0),(53,.sl 1 eI st.Shelves),(54,.i (st.Shelves.length:Int)),(55,.i s20)]) (fun s20=>[(0,.box (Q0 s_1)),(1,.box (Q3 st))]) g (fun s20 Y21 g=>?_)) (Wk.a (idR 2)))
 refine C.ss (U.pd 1 T (C.xs ?_))
 refine C.ite rfl g (fun b24 g=>?_) fun b24 g=>?_
 refine C.skip (C.xs (C.block (C.ss (U.ps 1 T rfl ?_))))
 obtain⟨x27,y27,g⟩:=g
 refine U.ix T y27 ?_
 refine U.pd 3 T (C.xs ?_)
 refine C.jn (fun (x28:Bool)=>[(2,.p 0 0),(3,.p 1 0),(53,.sl 1 eI st.Shelves),(54,.i (st.Shelves.length:Int)),(55,.i s20),(71,.b x28)]) (fun x28=>[(0,.box (Q0 s_1)),(1,.box (Q3 st))]) 2 g (fun x28 g=>?_) fun J29 g j29=>?_
 refine C.nx ?_
 refine C.ite rfl g (fun b33 g=>?_) fun b33 g=>?_
 refine C.ss (U.pd 1 T (C.nx (C.ret (C.brt (C.rt (C.rt (C.brt (C.rt ?_))))))))
 exact C.f1 T o (pBi g)
 refine C.skip (C.bnx (C.nx (U.start (U.pd 2 T (C.nx ?_)))))
 exact St.wk (C.next g) (Wk.a (idR 2))
 refine U.start (U.ps 2 T rfl (U.k (Zn st s20 _ g) en41 (fun x30 g=>?_)))
 refine U.ps 2 T rfl ?_
 refine g.cs (fun b31 g=>?_) fun b31 g=>?_
 refine U.pq 3 4 true 64 b31 T ?_
 refine U.e1 rfl (.tk 4 true 64 b31) (by exact Eff1.bs T (enc:=eI) (xs:=([1,2]:List Int)) rfl rfl rfl rfl rfl rfl rfl rfl rfl rfl (fun _ _=>rfl) rfl rfl) ?_
 refine U.k (Q19 s_1.Floor x27 ([1,2]:List Int) _ g) en42 (fun x32 g=>?_) (hw:=.take 4 true 64 _ b31 rfl rfl rfl)
 refine U.pq 1 4 true 64 b31 T ?_
 refine U.pk b31 ?_
 refine U.done ?_
 exact St.wa (idR 2) (j29 _ g)
 refine U.sk' 6 4 true 64 b31 ?_
 refine U.pk' b31 ?_
 refine U.done ?_
 exact St.wa (idR 2) (j29 _ g)
 refine C.exit (C.ex (C.ex (C.bex ?_)))
 exact St.wa (idR 2) (j19 _ g)
 refine U.start (U.ps 2 T rfl (U.k (XQ st.Tick 0 20000 _ g) en38 (fun x5 g=>?_)))
 refine U.ps 2 T rfl ?_
 refine g.cs (fun b6 g=>?_) fun b6 g=>?_
 refine U.pq 7 4 false 15 (ntF b6) T ?_
 refine U.pk' (ntF b6) ?_
 refine U.ps 1 T rfl ?_
 refine g.cs (fun b7 g=>?_) fun b7 g=>?_
 refine U.sk' 7 13 false 24 b7 ?_
 refine U.pk b7 ?_
 refine U.ps 1 T rfl (U.sk' 4 22 false 33 rfl ?_)
 refine U.pk rfl ?_
 refine U.ps 1 T rfl (U.sk' 4 28 false 39 rfl ?_)
 refine U.pk rfl ?_
 refine U.ps 1 T rfl (U.sk' 5 34 false 45 rfl ?_)
 refine U.pk rfl ?_
 refine U.done ?_
 exact St.wa (idR 2) (j4 _ g)
 refine U.pq 7 13 false 24 b7 T ?_
 refine U.pk' b7 ?_
 refine U.ps 1 T rfl ?_
 refine g.cs (fun b8 g=>?_) fun b8 g=>?_
 refine U.sk' 4 22 false 33 b8 ?_
 refine U.pk b8 ?_
 refine U.ps 1 T rfl (U.sk' 4 28 false 39 rfl ?_)
 refine U.pk rfl ?_
 refine U.ps 1 T rfl (U.sk' 5 34 false 45 rfl ?_)
 refine U.pk rfl ?_
 refine U.done ?_
 exact St.wa (idR 2) (j4 _ g)
 refine U.pq 4 22 false 33 b8 T ?_
 refine U.pk' b8 ?_
 refine U.ps 1 T rfl ?_
 refine g.cs (fun b9 g=>?_) fun b9 g=>?_
 refine U.sk' 4 28 false 39 b9 ?_
 refine U.pk b9 ?_
 refine U.ps 1 T rfl (U.sk' 5 34 false 45 rfl ?_)
 refine U.pk rfl ?_
 refine U.done ?_
 exact St.wa (idR 2) (j4 _ g)
 refine U.pq 2 28 false 39 b9 T ?_
 refine U.k (Q2V s_1 st _ g) en39 (fun x10 g=>?_) (hw:=.take 28 false 39 _ b9 rfl rfl rfl)
 refine U.pq 1 28 false 39 b9 T ?_
 refine U.pk' b9 ?_
 refine U.ps 1 T rfl ?_
 refine g.cs (fun b11 g=>?_) fun b11 g=>?_
 refine U.pq 3 34 false 45 (ntF b11) T ?_
 refine U.k (Q4h s_1.Floor st _ g) en40 (fun x12 g=>?_) (hw:=.take 34 false 45 _ (ntF b11) rfl rfl rfl)
 refine U.pq 1 34 false 45 (ntF b11) T ?_
 refine U.pk' (ntF b11) ?_
 refine U.done ?_
 exact St.wa (idR 2) (j4 _ g)
 refine U.sk' 5 34 false 45 (ntT b11) ?_
 refine U.pk (ntT b11) ?_
 refine U.done ?_
 exact St.wa (idR 2) (j4 _ g)
 refine U.sk' 7 4 false 15 (ntT b6) ?_
 refine U.pk (ntT b6) ?_
 refine U.ps 1 T rfl (U.sk' 7 13 false 24 rfl ?_)
 refine U.pk rfl ?_
 refine U.ps 1 T rfl (U.sk' 4 22 false 33 rfl ?_)
 refine U.pk rfl ?_
 refine U.ps 1 T rfl (U.sk' 4 28 false 39 rfl ?_)
 refine U.pk rfl ?_
 refine U.ps 1 T rfl (U.sk' 5 34 false 45 rfl ?_)
 refine U.pk rfl ?_
 refine U.done ?_
 exact St.wa (idR 2) (j4 _ g)
theorem ZO (f:ApiFloor) (post:Int→Prop) (g:KT f post):
  Tr Tryz.prog 71 [.agg (Qr f)] [] 0 (pI post):=by
 refine Tr.go Tryz.func71 Tryz.ntmps71 fun _ _ _ _ o=>?_
 unfold KT at g
 refine C.ss (U.bx ?_)
 refine U.pd 1 T (C.xt ?_)
 refine U.pd 9 T (C.nx (C.ret ?_))
 exact C.f1 T o (pIi g)
theorem Q0V (f:ApiFloor) (c:Int) (post:Bool→Prop) (g:Xq f c post):
  Tr Tryz.prog 33 [.agg (Qr f),.i c] [] 0 (pB post):=by
 refine Tr.go Tryz.func33 Tryz.ntmps33 fun _ _ _ _ o=>?_
 unfold Xq at g
 refine C.ss (U.bx ?_)
 refine U.pd 1 T (C.xs ?_)
 refine C.jn (fun (x3:Bool)=>[(4,.b x3)]) (fun x3=>[]) 0 g (fun x3 g=>?_) fun J4 g j4=>?_
 refine C.nx (C.ret ?_)
 exact C.f1 T o (pBi g)
 refine U.start (U.ps 3 T rfl ?_)
 refine g.cs (fun b5 g=>?_) fun b5 g=>?_
 refine U.pq 2 2 true 7 b5 T ?_
 refine U.k (ZO f _ g) en71 (fun x6 g=>?_) (hw:=.take 2 true 7 _ b5 rfl rfl rfl)
 refine U.pq 1 2 true 7 b5 T ?_
 refine U.pk b5 ?_
 refine U.pd 1 T ?_
 exact St.wn (j4 _ g)
 refine U.sk' 4 2 true 7 b5 ?_
 refine U.pk' b5 ?_
 refine U.pd 1 T ?_
 exact St.wn (j4 _ g)
theorem Q0j (l:List Int) (n:Int) (post:Bool→Prop) (g:Xe l n post):
  Tr Tryz.prog 66 [.sl 1 eI l,.i n] [] 0 (pB post):=by
 refine Tr.go Tryz.func66 Tryz.ntmps66 fun _ _ _ _ o=>?_
 unfold Xe at g
 refine C.ss (U.pd 1 T (C.xs (C.ss ?_)))
 refine U.pd 1 T (C.nx ?_)
 refine C.jn (fun (x5:Unit)=>[]) (fun x5=>[]) 0 g (fun x5 g=>?_) fun J6 g j6=>?_
 refine C.xt (U.pd 1 T (C.nx (C.ret ?_)))
 exact C.f1 T o (pBi g)
 refine C.block (St.wk (C.loop (fun (s7:Int)=>[(0,.sl 1 eI l),(1,.i n),(5,.i s7)]) (fun s7=>[]) g (fun s7 Y8 g=>?_)) (Wk.e))
 refine C.seq (C.ss (U.pd 4 T (C.nx ?_)))
 refine C.ite rfl g (fun b11 g=>?_) fun b11 g=>?_
 refine C.skip (C.xs (C.block (C.ss (U.ps 2 T rfl ?_))))
 obtain⟨x14,y14,g⟩:=g
 refine U.ix T y14 ?_
 refine U.pd 3 T (C.nx ?_)
 refine C.ite rfl g (fun b15 g=>?_) fun b15 g=>?_
 refine C.ss (U.pd 1 T (C.nx (C.ret (C.brt (C.rt (C.rt (C.brt (C.rt ?_))))))))
 exact C.f1 T o (pBi g)
 refine C.skip (C.bnx (C.nx (U.start (U.pd 3 T (C.nx ?_)))))
 exact St.wk (C.next g) (Wk.e)
 refine C.exit (C.ex (C.ex (C.bex ?_)))
 exact St.wk (j6 _ g) (Wk.mk' [] rfl rfl trivial trivial rfl)
theorem YN (act:Int) (post:(Int×Bool)→Prop) (g:Xd act post):
  Tr Tryz.prog 46 [.i act] [] 0 (fun A H' k=>∃y,post y∧A=(.tup [.i y.1,.b y.2])∧H'=[]∧k=0):=by
 refine Tr.go Tryz.func46 Tryz.ntmps46 fun _ _ _ _ o=>?_
 unfold Xd at g
 refine C.ss (U.pd 2 T (C.xt ?_))
 refine U.pd 3 T (C.xs ?_)
 refine C.jn (fun (x5:Bool)=>[(2,.i (w64 (act-1))),(3,.b x5)]) (fun x5=>[]) 0 g (fun x5 g=>?_) fun J6 g j6=>?_
 refine C.nx (C.ret ?_)
 exact C.f9 T o ⟨(w64 (act-1),x5),g,rfl,rfl,rfl⟩
 refine U.start (U.ps 4 T rfl ?_)
 refine g.cs (fun b7 g=>?_) fun b7 g=>?_
 refine U.pq 2 3 true 10 b7 T ?_
 refine U.pk b7 ?_
 refine U.pd 2 T ?_
 exact St.wn (j6 _ g)
 refine U.sk' 2 3 true 10 b7 ?_
 refine U.pk' b7 ?_
 refine U.pd 2 T ?_
 exact St.wn (j6 _ g)
theorem WT (n:Int) (post:Bool→Prop) (g:Kk n post):
  Tr Tryz.prog 95 [.i n] [] 0 (pB post):=by
 refine Tr.go Tryz.func95 Tryz.ntmps95 fun _ _ _ _ o=>?_
 unfold Kk at g
 refine C.ss (U.pd 1 T (C.xs ?_))
 refine C.jn (fun (x3:Bool)=>[(2,.b x3)]) (fun x3=>[]) 0 g (fun x3 g=>?_) fun J4 g j4=>?_
 refine C.nx (C.ret ?_)
 exact C.f1 T o (pBi g)
 refine U.start (U.ps 3 T rfl ?_)
 refine g.cs (fun b5 g=>?_) fun b5 g=>?_
 refine U.pq 2 2 true 5 b5 T ?_
 refine U.pk b5 ?_
 refine U.pd 1 T ?_
 exact St.wn (j4 _ g)
 refine U.sk' 2 2 true 5 b5 ?_
 refine U.pk' b5 ?_
 refine U.pd 1 T ?_
 exact St.wn (j4 _ g)
theorem Q1m (charge:Int) (cost:Int) (post:(Int×Int)→Prop) (g:XJ charge cost post):
  Tr Tryz.prog 96 [.i charge,.i cost] [] 0 (fun A H' k=>∃y,post y∧A=(.tup [.i y.1,.i y.2])∧H'=[]∧k=0):=by
 refine Tr.go Tryz.func96 Tryz.ntmps96 fun _ _ _ _ o=>?_
 unfold XJ at g
 refine C.ss (U.pd 2 T (C.xs (C.block (C.seq ?_))))
 refine C.jn (fun (x3:Bool)=>[(0,.i charge),(1,.i cost),(6,.b x3)]) (fun x3=>[]) 0 g (fun x3 g=>?_) fun J4 g j4=>?_
 refine C.nx ?_
 refine C.ite rfl g (fun b7 g=>?_) fun b7 g=>?_
 refine C.ss (U.pd 3 T (C.nx (C.ret (C.brt (C.rt ?_)))))
 exact C.f9 T o ⟨(charge,1),g,rfl,rfl,rfl⟩
 refine C.ss (U.pd 4 T (C.nx ?_))
 refine C.ite rfl g (fun b12 g=>?_) fun b12 g=>?_
 refine C.ss (U.pd 3 T (C.nx (C.ret (C.brt (C.rt ?_)))))
 exact C.f9 T o ⟨(charge,16),g,rfl,rfl,rfl⟩
 refine C.skip (C.bnx (C.xt (U.pd 5 T (C.nx (C.ret ?_)))))
 exact C.f9 T o ⟨(w64 (charge-cost),0),g,rfl,rfl,rfl⟩
 refine U.start (U.ps 1 T rfl (U.k (WT charge _ g) en95 (fun x5 g=>?_)))
 refine U.ps 2 T rfl ?_
 refine g.cs (fun b6 g=>?_) fun b6 g=>?_
 refine U.pq 2 3 false 10 (ntF b6) T ?_
 refine U.pk' (ntF b6) ?_
 refine U.pd 1 T ?_
 exact St.wn (j4 _ g)
 refine U.sk' 2 3 false 10 (ntT b6) ?_
 refine U.pk (ntT b6) ?_
 refine U.pd 1 T ?_
 exact St.wn (j4 _ g)
theorem YA (tick:Int) (charge:Int) (act:Int) (laden:Bool) (post:(Int×Int)→Prop) (g:X9 tick charge act laden post):
  Tr Tryz.prog 47 [.i tick,.i charge,.i act,.b laden] [] 0 (fun A H' k=>∃y,post y∧A=(.tup [.i y.1,.i y.2])∧H'=[]∧k=0):=by
 refine Tr.go Tryz.func47 Tryz.ntmps47 fun _ _ _ _ o=>?_
 unfold X9 at g
 refine C.ss (U.pd 2 T (C.xs (C.block (C.seq ?_))))
 refine C.jn (fun (x3:Bool)=>[(0,.i tick),(1,.i charge),(2,.i act),(3,.b laden),(10,.b x3)]) (fun x3=>[]) 0 g (fun x3 g=>?_) fun J4 g j4=>?_
 refine C.nx ?_
 refine C.ite rfl g (fun b8 g=>?_) fun b8 g=>?_
 refine C.ss (U.pd 3 T (C.nx (C.ret (C.brt (C.rt ?_)))))
 exact C.f9 T o ⟨(charge,1),g,rfl,rfl,rfl⟩
 refine C.ss (U.pd 3 T (C.nx ?_))
 refine C.ite rfl g (fun b13 g=>?_) fun b13 g=>?_
 refine C.ss (U.pd 5 T (C.nx (C.ret (C.brt (C.rt ?_)))))
 exact C.f9 T o ⟨(imin (w64 (charge+20)) 1000000,0),g,rfl,rfl,rfl⟩
 refine C.skip (C.bnx (C.xt (U.ps 4 T rfl (U.k (WW tick act laden _ g) en55 (fun x18 g=>?_)))))
 refine U.k (Q1m charge x18 _ g) en96 fun x19 g=>?_
 refine U.pd 4 T (C.nx (C.ret ?_))
 exact C.f9 T o ⟨(x19.1,x19.2),g,rfl,rfl,rfl⟩
 refine U.start (U.ps 1 T rfl (U.k (WT charge _ g) en95 (fun x5 g=>?_)))
 refine U.ps 2 T rfl ?_
 refine g.cs (fun b6 g=>?_) fun b6 g=>?_
 refine U.pq 2 3 false 14 (ntF b6) T ?_
 refine U.pk' (ntF b6) ?_
 refine U.ps 1 T rfl ?_
 refine g.cs (fun b7 g=>?_) fun b7 g=>?_
 refine U.sk' 2 7 false 18 b7 ?_
 refine U.pk b7 ?_
 refine U.pd 1 T ?_
 exact St.wn (j4 _ g)
 refine U.pq 2 7 false 18 b7 T ?_
 refine U.pk' b7 ?_
 refine U.pd 1 T ?_
 exact St.wn (j4 _ g)
 refine U.sk' 2 3 false 14 (ntT b6) ?_
 refine U.pk (ntT b6) ?_
 refine U.ps 1 T rfl (U.sk' 2 7 false 18 rfl ?_)
 refine U.pk rfl ?_
 refine U.pd 1 T ?_
 exact St.wn (j4 _ g)
theorem Q3z (x_1:ApiStuck) (c0:ApiRobot) (c1:Int) (post:Bool→Prop) (g:GZ x_1 c0 c1 post):
  Tr Tryz.prog 97 [.agg [.i x_1.Cell,.i x_1.Left],.rp [.i c0.Cell,.i c0.Load,.i c0.Charge,.i c0.Rest,.i c0.Mute,.b c0.Dead],.rp [.i c1]] [] 0 (pB post):=by
 refine Tr.go Tryz.func97 Tryz.ntmps97 fun _ _ _ _ o=>?_
 unfold GZ at g
 refine C.ss (U.bx ?_)
 refine U.pd 1 T (C.xs ?_)
 refine C.jn (fun (x3:Bool)=>[(4,.b x3)]) (fun x3=>[]) 0 g (fun x3 g=>?_) fun J4 g j4=>?_
 refine C.nx (C.ret ?_)
 exact C.f1 T o (pBi g)
 refine U.start (U.ps 6 T rfl ?_)
 refine g.cs (fun b5 g=>?_) fun b5 g=>?_
 refine U.sk' 4 5 false 10 b5 ?_
 refine U.pk b5 ?_
 refine U.pd 1 T ?_
 exact St.wn (j4 _ g)
 refine U.pq 4 5 false 10 b5 T ?_
 refine U.pk' b5 ?_
 refine U.pd 1 T ?_
 exact St.wn (j4 _ g)
theorem KI (s_1:List ApiStuck) (f_c0:ApiRobot) (f_c1:Int) (post:Int→Prop) (g:Qy s_1 f_c0 f_c1 post):
  Tr Tryz.prog 148 [.sl 2 Q5 s_1,.fn (.func 97) [] [.rp [.i f_c0.Cell,.i f_c0.Load,.i f_c0.Charge,.i f_c0.Rest,.i f_c0.Mute,.b f_c0.Dead],.rp [.i f_c1]]] [] 0 (pI post):=by
 refine Tr.go Tryz.func148 Tryz.ntmps148 fun _ _ _ _ o=>?_
 unfold Qy at g
 refine C.ss (U.pd 1 T (C.xs (C.ss ?_)))
 refine U.pd 3 T (C.nx ?_)
 refine C.jn (fun (x5:Unit)=>[]) (fun x5=>[]) 0 g (fun x5 g=>?_) fun J6 g j6=>?_
 refine C.xt (U.pd 1 T (C.nx (C.ret ?_)))
 exact C.f1 T o (pIi g)
 refine C.block (St.wk (C.loop (fun (s7:Int)=>[(0,.sl 2 Q5 s_1),(1,.fn (.func 97) [] [.rp [.i f_c0.Cell,.i f_c0.Load,.i f_c0.Charge,.i f_c0.Rest,.i f_c0.Mute,.b f_c0.Dead],.rp [.i f_c1]]),(7,.i (s_1.length:Int)),(8,.i s7)]) (fun s7=>[]) g (fun s7 Y8 g=>?_)) (Wk.e))
 refine C.ss (U.pd 1 T (C.xs ?_))
 refine C.ite rfl g (fun b11 g=>?_) fun b11 g=>?_
 refine C.skip (C.xs (C.block (C.ss (U.pd 2 T (C.xt ?_)))))
 refine U.ps 3 T rfl ?_
 obtain⟨x16,y16,g⟩:=g
 refine U.ix T y16 ?_
 refine U.ps 1 T rfl (U.k (Q3z x16 f_c0 f_c1 _ g) en97 (fun x17 g=>?_))
 refine U.done (C.nx ?_)
 refine C.ite rfl g (fun b18 g=>?_) fun b18 g=>?_
 refine C.ss (U.pd 2 T (C.nx (C.ret (C.brt (C.rt (C.rt (C.brt (C.rt ?_))))))))
 exact C.f1 T o (pIi g)
 refine C.skip (C.bnx (C.nx (U.start (U.pd 2 T (C.nx ?_)))))
 exact St.wk (C.next g) (Wk.e)
 refine C.exit (C.ex (C.ex (C.bex ?_)))
 exact St.wk (j6 _ g) (Wk.mk' [] rfl rfl trivial trivial rfl)
theorem Kx (s_1:List ApiStuck) (f_c0:ApiRobot) (f_c1:Int) (post:Bool→Prop) (g:Qh s_1 f_c0 f_c1 post):
  Tr Tryz.prog 98 [.sl 2 Q5 s_1,.fn (.func 97) [] [.rp [.i f_c0.Cell,.i f_c0.Load,.i f_c0.Charge,.i f_c0.Rest,.i f_c0.Mute,.b f_c0.Dead],.rp [.i f_c1]]] [] 0 (pB post):=by
 refine Tr.go Tryz.func98 Tryz.ntmps98 fun _ _ _ _ o=>?_
 unfold Qh at g
 refine C.ss (U.pd 1 T (C.xt ?_))
 refine U.ps 2 T rfl (U.k (KI s_1 f_c0 f_c1 _ g) Q7y (fun x5 g=>?_))
 refine U.pd 2 T (C.nx (C.ret ?_))
 exact C.f1 T o (pBi g)
theorem WU (s_1:ApiSite) (c:Int) (post:Bool→Prop) (g:Kz s_1 c post):
  Tr Tryz.prog 149 [.agg (Q0 s_1),.i c] [] 0 (pB post):=by
 refine Tr.go Tryz.func149 Tryz.ntmps149 fun _ _ _ _ o=>?_
 unfold Kz at g
 refine C.ss (U.bx ?_)
 refine U.pd 1 T (C.xs ?_)
 refine C.jn (fun (x3:Bool)=>[(4,.b x3)]) (fun x3=>[]) 0 g (fun x3 g=>?_) fun J4 g j4=>?_
 refine C.nx (C.ret ?_)
 exact C.f1 T o (pBi g)
 refine U.start (U.ps 3 T rfl ?_)
 refine g.cs (fun b5 g=>?_) fun b5 g=>?_
 refine U.pq 6 2 true 7 b5 T ?_
 refine U.pk b5 ?_
 refine U.pd 1 T ?_
 exact St.wn (j4 _ g)
 refine U.sk' 6 2 true 7 b5 ?_
 refine U.pk' b5 ?_
 refine U.pd 1 T ?_
 exact St.wn (j4 _ g)
theorem Q1N (x_1:XF) (c0:Int) (post:Bool→Prop) (g:G6 x_1 c0 post):
  Tr Tryz.prog 151 [.agg [.i x_1.From,.i x_1.To],.rp [.i c0]] [] 0 (pB post):=by
 refine Tr.go Tryz.func151 Tryz.ntmps151 fun _ _ _ _ o=>?_
 unfold G6 at g
 refine C.ss (U.bx ?_)
 refine U.pd 1 T (C.xs ?_)
 refine C.jn (fun (x3:Bool)=>[(3,.b x3)]) (fun x3=>[]) 0 g (fun x3 g=>?_) fun J4 g j4=>?_
 refine C.nx (C.ret ?_)
 exact C.f1 T o (pBi g)
 refine U.start (U.ps 5 T rfl ?_)
 refine g.cs (fun b5 g=>?_) fun b5 g=>?_
 refine U.pq 4 4 true 8 b5 T ?_
 refine U.pk b5 ?_
 refine U.pd 1 T ?_
 exact St.wn (j4 _ g)
 refine U.sk' 4 4 true 8 b5 ?_
 refine U.pk' b5 ?_
 refine U.pd 1 T ?_
 exact St.wn (j4 _ g)
theorem KJ (s_1:List XF) (f_c0:Int) (post:Int→Prop) (g:Qx s_1 f_c0 post):
  Tr Tryz.prog 194 [.sl 2 GV s_1,.fn (.func 151) [] [.rp [.i f_c0]]] [] 0 (pI post):=by
 refine Tr.go Tryz.func194 Tryz.ntmps194 fun _ _ _ _ o=>?_
 unfold Qx at g
 refine C.ss (U.pd 1 T (C.xs (C.ss ?_)))
 refine U.pd 3 T (C.nx ?_)
 refine C.jn (fun (x5:Unit)=>[]) (fun x5=>[]) 0 g (fun x5 g=>?_) fun J6 g j6=>?_
 refine C.xt (U.pd 1 T (C.nx (C.ret ?_)))
 exact C.f1 T o (pIi g)
 refine C.block (St.wk (C.loop (fun (s7:Int)=>[(0,.sl 2 GV s_1),(1,.fn (.func 151) [] [.rp [.i f_c0]]),(7,.i (s_1.length:Int)),(8,.i s7)]) (fun s7=>[]) g (fun s7 Y8 g=>?_)) (Wk.e))
 refine C.ss (U.pd 1 T (C.xs ?_))
 refine C.ite rfl g (fun b11 g=>?_) fun b11 g=>?_
 refine C.skip (C.xs (C.block (C.ss (U.pd 2 T (C.xt ?_)))))
 refine U.ps 3 T rfl ?_
 obtain⟨x16,y16,g⟩:=g
 refine U.ix T y16 ?_
 refine U.ps 1 T rfl (U.k (Q1N x16 f_c0 _ g) Q9X (fun x17 g=>?_))
 refine U.done (C.nx ?_)
 refine C.ite rfl g (fun b18 g=>?_) fun b18 g=>?_
 refine C.ss (U.pd 2 T (C.nx (C.ret (C.brt (C.rt (C.rt (C.brt (C.rt ?_))))))))
 exact C.f1 T o (pIi g)
 refine C.skip (C.bnx (C.nx (U.start (U.pd 2 T (C.nx ?_)))))
 exact St.wk (C.next g) (Wk.e)
 refine C.exit (C.ex (C.ex (C.bex ?_)))
 exact St.wk (j6 _ g) (Wk.mk' [] rfl rfl trivial trivial rfl)
theorem Kv (s_1:List XF) (f_c0:Int) (post:Bool→Prop) (g:Qi s_1 f_c0 post):
  Tr Tryz.prog 150 [.sl 2 GV s_1,.fn (.func 151) [] [.rp [.i f_c0]]] [] 0 (pB post):=by
 refine Tr.go Tryz.func150 Tryz.ntmps150 fun _ _ _ _ o=>?_
 unfold Qi at g
 refine C.ss (U.pd 1 T (C.xt ?_))
 refine U.ps 2 T rfl (U.k (KJ s_1 f_c0 _ g) Q9O (fun x5 g=>?_))
 refine U.pd 2 T (C.nx (C.ret ?_))
 exact C.f1 T o (pBi g)
theorem Q3l (s_1:ApiSite) (c:Int) (tick:Int) (post:Bool→Prop) (g:Wb s_1 c tick post):
  Tr Tryz.prog 99 [.agg (Q0 s_1),.i c,.i tick] [] 0 (pB post):=by
 refine Tr.go Tryz.func99 Tryz.ntmps99 fun _ _ _ _ o=>?_
 unfold Wb at g
 refine C.ss (U.bx ?_)
 refine U.bx ?_
 refine U.pd 1 T (C.xt ?_)
 refine U.ps 2 T rfl (U.k (Zr s_1 c _ g) Q8v (fun x5 g=>?_))
 refine U.pd 1 T (C.xs (C.seq ?_))
 refine C.jn (fun (x6:Bool)=>[(1,.i c),(3,.p 0 0),(5,.p 1 0),(7,.i x5),(18,.b x6)]) (fun x6=>[(0,.box (Q0 s_1)),(1,.box [.i tick])]) 2 g (fun x6 g=>?_) fun J7 g j7=>?_
 refine C.nx ?_
 refine C.ite rfl g (fun b10 g=>?_) fun b10 g=>?_
 refine C.ss (U.ps 2 T rfl (U.k (WU s_1 c _ g) Q88 (fun x13 g=>?_)))
 refine U.pd 1 T (C.nx (C.ret (C.rt ?_)))
 exact C.f1 T o (pBi g)
 refine C.skip (C.xt (U.ps 3 T rfl ?_))
 obtain⟨x16,y16,g⟩:=g
 refine U.ix T y16 ?_
 refine U.ps 3 T rfl (U.k (Kv x16.Shut tick _ g) Qal (fun x17 g=>?_))
 refine U.pd 2 T (C.nx (C.ret ?_))
 exact C.f1 T o (pBi g)
 refine U.start (U.ps 2 T rfl (U.k (WU s_1 c _ g) Q88 (fun x8 g=>?_)))
 refine U.ps 2 T rfl ?_
 refine g.cs (fun b9 g=>?_) fun b9 g=>?_
 refine U.pq 2 4 false 15 (ntF b9) T ?_
 refine U.pk' (ntF b9) ?_
 refine U.done ?_
 exact St.wa (idR 2) (j7 _ g)
 refine U.sk' 2 4 false 15 (ntT b9) ?_
 refine U.pk (ntT b9) ?_
 refine U.done ?_
 exact St.wa (idR 2) (j7 _ g)
theorem Q2d (st:ApiState) (post:(List Int)→Prop) (g:Ws st post):
  Tr Tryz.prog 100 [.agg (Q3 st)] [] 0 (fun A H' k=>∃y,post y∧A=(.o 0)∧H'=[(0,.val (.os 1 eI y))]∧k=1):=by
 refine Tr.go Tryz.func100 Tryz.ntmps100 fun _ _ _ _ o=>?_
 unfold Ws at g
 refine C.ss (U.bx ?_)
 refine U.pd 1 T (C.xt ?_)
 refine U.ps 1 T rfl (U.k (Q0H st _ g) en44 (fun x5 g=>?_))
 refine U.pd 1 T (C.xt ?_)
 refine U.ps 1 T rfl (U.c [some 1] (K5 x5 _ g) en67 (fun x8 g=>?_))
 refine U.done (C.xt (U.pd 2 T (C.nx (C.ret ?_))))
 exact C.g1 [some 1] T o ⟨x8,g,rfl,rfl,rfl⟩
theorem Q5d (s_1:ApiSite) (st:ApiState) (r:ApiRobot) (d:Int) (post:Int→Prop) (g:Ya s_1 st r d post):
  Tr Tryz.prog 48 [.agg (Q0 s_1),.agg (Q3 st),.agg (Q2 r),.i d] [] 0 (pI post):=by
 refine Tr.go Tryz.func48 Tryz.ntmps48 fun _ _ _ _ o=>?_
 unfold Ya at g
 refine C.ss (U.bx ?_)
 refine U.bx ?_
 refine U.bx ?_
 refine U.pd 1 T (C.xt ?_)
 refine U.ps 5 T rfl (U.k (W7 s_1.Floor r.Cell d _ g) en53 (fun x5 g=>?_))
 refine U.ps 3 T rfl (U.al T ?_)
 refine U.st T ?_
 refine U.pd 1 T (C.xs (C.seq ?_))
 refine C.jn (fun (x6:Bool)=>[(3,.i d),(4,.p 0 0),(5,.p 1 0),(6,.p 2 0),(9,.p 3 0),(29,.b x6)]) (fun x6=>[(0,.box (Q0 s_1)),(1,.box (Q3 st)),(2,.box (Q2 r)),(3,.box [.i x5.1])]) 4 g (fun x6 g=>?_) fun J7 g j7=>?_
 refine C.nx ?_
 refine C.ite rfl g (fun b10 g=>?_) fun b10 g=>?_
 refine C.ss (U.pd 1 T (C.nx (C.ret (C.rt ?_))))
 exact C.f1 T o (pIi g)
 refine C.skip (C.xs (C.seq ?_))
 refine C.jn (fun (x13:Bool)=>[(4,.p 0 0),(5,.p 1 0),(6,.p 2 0),(9,.p 3 0),(35,.b x13)]) (fun x13=>[(0,.box (Q0 s_1)),(1,.box (Q3 st)),(2,.box (Q2 r)),(3,.box [.i x5.1])]) 4 g (fun x13 g=>?_) fun J14 g j14=>?_
 refine C.nx ?_
 refine C.jn (fun (x16:Unit)=>[(4,.p 0 0),(5,.p 1 0),(6,.p 2 0),(9,.p 3 0)]) (fun x16=>[(0,.box (Q0 s_1)),(1,.box (Q3 st)),(2,.box (Q2 r)),(3,.box [.i x5.1])]) 4 g (fun x16 g=>?_) fun J17 g j17=>?_
 refine C.xs (C.ss (U.ps 4 T rfl (U.k (Q3l s_1 x5.1 st.Tick _ g) en99 (fun x29 g=>?_))))
 refine U.pd 1 T (C.nx ?_)
 refine C.ite rfl g (fun b30 g=>?_) fun b30 g=>?_
 refine C.ss (U.pd 1 T (C.nx (C.ret (C.rt ?_))))
 exact C.f1 T o (pIi g)
 refine C.skip (C.xt (U.ps 1 T rfl (U.k (Q2d st _ g) Q8r (fun x35 g=>?_))))
 refine U.pd 1 T (C.xs (C.seq ?_))
 refine C.jn (fun (x36:Bool)=>[(63,.b x36)]) (fun x36=>[]) 0 g (fun x36 g=>?_) fun J37 g j37=>?_
 refine C.nx ?_
 refine C.ite rfl g (fun b44 g=>?_) fun b44 g=>?_
 refine C.ss (U.pd 1 T (C.nx (C.ret (C.rt ?_))))
 exact C.f1 T o (pIi g)
 refine C.skip (C.xt (U.pd 1 T (C.nx (C.ret ?_))))
 exact C.f1 T o (pIi g)
 refine U.start (U.ps 2 T rfl (U.k (Yd x5.1 _ g) Q6l (fun x38 g=>?_)))
 refine U.k (QO x35 x38 _ g) en89 fun x39 g=>?_
 refine U.ps 1 T rfl ?_
 refine g.cs (fun b40 g=>?_) fun b40 g=>?_
 refine U.sk' 4 4 false 53 b40 ?_
 refine U.sku 4 8 true 57 rfl rfl rfl ?_
 refine U.sk' 1 4 false 53 b40 ?_
 refine U.pk b40 ?_
 refine U.done ?_
 exact St.wn (j37 _ g)
 refine U.pq 4 4 false 53 b40 T ?_
 refine g.cs (fun b41 g=>?_) fun b41 g=>?_
 refine U.pq 2 8 true 57 b41 T ?_
 refine U.k (Wv x5.1 _ g) Q5G (fun x42 g=>?_) (hw:=.take 8 true 57 _ b41 rfl rfl rfl)
 refine U.k (QO x35 x42 _ g) en89 (fun x43 g=>?_) (hw:=.take 8 true 57 _ b41 rfl rfl rfl)
 refine U.r rfl (.tk 4 false 53 b40) rfl rfl (by exact Rd.pk rfl rfl b41 rfl) ?_
 refine U.pk' b40 ?_
 refine U.done ?_
 exact St.wn (j37 _ g)
 refine U.sk' 4 8 true 57 b41 ?_
 refine U.r rfl (.tk 4 false 53 b40) rfl rfl (by exact Rd.pk' rfl rfl b41 rfl) ?_
 refine U.pk' b40 ?_
 refine U.done ?_
 exact St.wn (j37 _ g)
 refine C.ite rfl g (fun b18 g=>?_) fun b18 g=>?_
 refine C.ss (U.pd 2 T (C.xt ?_))
 refine U.ps 3 T rfl (U.k (Kx st.Stuck r x5.1 _ g) en98 (fun x23 g=>?_))
 refine U.done (C.nx ?_)
 refine C.ite rfl g (fun b24 g=>?_) fun b24 g=>?_
 refine C.ss (U.pd 1 T (C.nx (C.ret (C.rt ?_))))
 exact C.f1 T o (pIi g)
 refine C.skip ?_
 exact St.wa (idR 4) (j17 _ g)
 refine C.skip ?_
 exact St.wa (idR 4) (j17 _ g)
 refine U.start (U.ps 3 T rfl ?_)
 refine g.cs (fun b15 g=>?_) fun b15 g=>?_
 refine U.sk' 2 2 false 32 b15 ?_
 refine U.pk b15 ?_
 refine U.done ?_
 exact St.wa (idR 4) (j14 _ g)
 refine U.pq 2 2 false 32 b15 T ?_
 refine U.pk' b15 ?_
 refine U.done ?_
 exact St.wa (idR 4) (j14 _ g)
 refine U.start (U.ps 3 T rfl ?_)
 refine g.cs (fun b8 g=>?_) fun b8 g=>?_
 refine U.pq 3 2 false 24 (ntF b8) T ?_
 refine U.k (QO st.Dead x5.1 _ g) en89 (fun x9 g=>?_) (hw:=.take 2 false 24 _ (ntF b8) rfl rfl rfl)
 refine U.pk' (ntF b8) ?_
 refine U.done ?_
 exact St.wa (idR 4) (j7 _ g)
 refine U.sk' 4 2 false 24 (ntT b8) ?_
 refine U.pk (ntT b8) ?_
 refine U.done ?_
 exact St.wa (idR 4) (j7 _ g)
theorem WX (s_1:List Int) (post:(List Int)→Prop) (g:Kf s_1 post):
  Tr Tryz.prog 155 [.sl 1 eI s_1] [] 0 (fun A H' k=>∃y,post y∧A=(.fn (.func 195) [] [.p 0 0])∧H'=[(0,.box [.sl 1 eI y])]∧k=1):=by
 refine Tr.go Tryz.func155 Tryz.ntmps155 fun _ _ _ _ o=>?_
 unfold Kf at g
 refine C.ss (U.bx ?_)
 refine U.pd 1 T (C.xt ?_)
 refine U.pd 2 T (C.nx (C.ret ?_))
 exact C.g1 [some 0] T o ⟨(s_1),g,rfl,rfl,rfl⟩
theorem Q0T (st:ApiState) (post:(List (Int×Int))→Prop) (g:Xp st post):
  Tr Tryz.prog 110 [.agg (Q3 st)] [] 0 (fun A H' k=>∃y,post y∧A=(.o 0)∧H'=[(0,.val (.om kI veI y))]∧k=1):=by
 refine Tr.go Tryz.func110 Tryz.ntmps110 fun _ _ _ _ o=>?_
 unfold Xp at g
 refine C.ss (U.bx ?_)
 refine U.pd 1 T (C.xt ?_)
 refine U.e1 rfl (.none rfl) (by exact Eff1.mm kI veB rfl rfl rfl) ?_
 refine U.al T ?_
 refine U.st T ?_
 refine U.done (C.xs (C.ss (U.pd 4 T (C.nx ?_))))
 refine C.jn (fun (x7:List (Int×Bool))=>[(1,.p 0 0),(3,.p 1 0)]) (fun x7=>[(0,.box (Q3 st)),(1,.box [.o 2]),(2,.val (.om kI veB x7))]) 3 g (fun x7 g=>?_) fun J8 g j8=>?_
 refine C.xt (U.e1 rfl (.none rfl) (by exact Eff1.mm kI veI rfl rfl rfl) ?_)
 refine U.al T ?_
 refine U.st T ?_
 refine U.done (C.xs (C.ss (U.ps 2 T rfl (U.e rfl (.none rfl) (by exact Eff.c [] (v:=false) (WX st.Shelves _ g) Qa8 rfl rfl rfl (.eq rfl) trivial rfl rfl rfl rfl rfl rfl (fun h=>by cases h) (.inr ⟨rfl,rfl⟩) (fun _=>rfl) (fun _=>rfl) rfl) (fun x25' g=>?_)))))
 obtain⟨x25⟩:=x25'
 refine U.done (C.nx (C.block ?_))
 refine St.wk (Γ':=[(1,.p 0 0),(3,.p 1 0),(6,.p 3 0),(21,.o 4),(22,.p 0 1),(23,.sl 1 eI st.Shelves),(24,.fn (.func 195) [] [.rp [.sl 1 eI x25]])]) (H':=[(0,.box (Q3 st)),(1,.box [.o 2]),(2,.val (.om kI veB x7)),(3,.box [.o 4]),(4,.val (.om kI veI ([]:List (Int×Int))))]) (nl':=5) ?_ (Wk.mk' [some 0,some 1,some 2,some 4,some 3] rfl rfl ⟨⟨_,rfl,(.eq rfl)⟩,⟨_,rfl,(.eq rfl)⟩,⟨_,rfl,(.eq rfl)⟩,⟨_,rfl,(.eq rfl)⟩,⟨_,rfl,(.eq rfl)⟩,⟨_,rfl,(.eq rfl)⟩,⟨_,rfl,(.fn (.eq rfl) (.cons (.fzp rfl rfl rfl rfl (.eq rfl) rfl) .nil))⟩,trivial⟩ ⟨bX,bX,vL,bX,vL,trivial⟩ rfl)
 obtain⟨y29,g⟩:=g
 refine St.wk (C.range (Γ0:=[(3,.p 0 0),(6,.p 1 0),(24,.fn (.func 195) [] [.rp [.sl 1 eI x25]])]) (Γ1:=fun (x26:Int×Int)=>[(8,.i x26.2),(7,.i x26.1),(26,.i x26.2),(25,.i x26.1),(3,.p 0 0),(6,.p 1 0),(24,.fn (.func 195) [] [.rp [.sl 1 eI x25]])]) (Hf:=fun (s27:List (Int×Int))=>[(0,.box [.o 2]),(1,.box [.o 3]),(2,.val (.om kI veB x7)),(3,.val (.om kI veI s27))]) 2 g (Q9W x25 y29) Q9J rfl rfl rfl rfl rfl (fun _=>rfl) rfl rfl (fun _=>rfl) (fun x26 s27 Y28 g w0 ok M β l=>?_) (fun s37 g=>?_)) (Wk.a [some 1,some 3,some 2,some 4])
 refine CI.block ?_
 refine CI.seq ?_
 refine UI.start (by kernel_rfl) (by repeat (first | exact Yw.rnd | refine Yw.th ?_ | refine Yw.blk ?_)) ?_
 refine U.ps 2 T rfl (U.r rfl (.none rfl) rfl rfl (by exact Rd.lk T (ke:=kI) (ve:=veB) (xs:=x7) (z0:=false) (x:=x26.1) rfl rfl kt3 zt4 (fun _=>rfl) rfl (.o rfl) rfl rfl rfl) ?_)
 refine U.pd 1 T (C.nx ?_)
 refine CI.jn (fun (x32:List (Int×Int))=>[]) (fun (x32:List (Int×Int))=>[(0,.box [.o 2]),(1,.box [.o 3]),(2,.val (.om kI veB x7)),(3,.val (.om kI veI x32))]) 4 g (fun x32 g=>?_) fun J33 g j33=>?_
 refine C.bnx ?_
 exact St.wk (CI.next g) (Wk.mk' [some 0,some 1,some 2,some 3] rfl rfl trivial ⟨bX,bX,vL,vL,trivial⟩ rfl)
 refine CI.ite rfl g (fun b34 g=>?_) fun b34 g=>?_
 refine UI.start (by kernel_rfl) (by repeat (first | exact Yw.rnd | refine Yw.th ?_ | refine Yw.blk ?_)) ?_
 refine U.ps 3 T rfl (U.e1 rfl (.none rfl) (by exact Eff1.mu T (x:=x26.2) (y:=x26.1) (.inl rfl) rfl kt3 (fun _=>rfl) rfl rfl rfl rfl rfl (.inl rfl) rfl) ?_)
 refine U.done ?_
 exact St.wk (j33 _ g) (Wk.mk' [some 0,some 1,some 2,some 3] rfl rfl trivial ⟨bX,bX,vL,vL,trivial⟩ rfl)
 refine CI.skip ?_
 exact St.wk (j33 _ g) (Wk.mk' [some 0,some 1,some 2,some 3] rfl rfl trivial ⟨bX,bX,vL,vL,trivial⟩ rfl)
 refine C.bnx (C.xt (U.pd 2 T (C.nx (C.ret ?_))))
 exact C.g1 [some 3] T o ⟨s37,g,rfl,rfl,rfl⟩
 refine C.block (St.wk (C.loop (fun (s9:List (Int×Bool)×Int)=>[(1,.p 0 0),(3,.p 1 0),(11,.sl 6 Q2 st.Robots),(12,.i (st.Robots.length:Int)),(13,.i s9.2)]) (fun s9=>[(0,.box (Q3 st)),(1,.box [.o 2]),(2,.val (.om kI veB s9.1))]) g (fun s9 Y10 g=>?_)) (Wk.a [some 0,some 2,some 1]))
 refine C.ss (U.pd 1 T (C.xs ?_))
 refine C.ite rfl g (fun b13 g=>?_) fun b13 g=>?_
 refine C.skip (C.xs (C.block (C.ss ?_)))
 obtain⟨x16,y16,g⟩:=g
 refine U.ix T y16 ?_
 refine U.ps 1 T rfl (U.al T ?_)
 refine U.st T ?_
 refine U.done (C.nx (U.start (U.ps 3 T rfl (U.e1 rfl (.none rfl) (by exact Eff1.mu T (x:=x16.Load) (y:=true) (.inl rfl) rfl kt3 (fun _=>rfl) rfl rfl rfl rfl rfl (.inl rfl) rfl) ?_))))
 refine U.done (C.bnx (C.nx (U.start (U.pd 2 T (C.nx ?_)))))
 exact St.wk (C.next g) (Wk.a (idR 3))
 refine C.exit (C.ex (C.ex (C.bex ?_)))
 exact St.wa (idR 3) (j8 _ g)
theorem Q2g (s_1:ApiSite) (st:ApiState) (c:Int) (post:Int→Prop) (g:Wp s_1 st c post):
  Tr Tryz.prog 52 [.agg (Q0 s_1),.agg (Q3 st),.i c] [] 0 (pI post):=by
 refine Tr.go Tryz.func52 Tryz.ntmps52 fun _ _ _ _ o=>?_
 unfold Wp at g
 refine C.ss (U.bx ?_)
 refine U.bx ?_
 refine U.pd 1 T (C.xs (C.ss ?_))
 refine U.ps 1 T rfl (U.k (Q0T st _ g) Qau (fun x5 g=>?_))
 refine U.ps 1 T rfl (U.r rfl (.none rfl) rfl rfl (by exact Rd.lk2 T (ke:=kI) (ve:=veI) (xs:=x5) (z0:=0) (x:=c) rfl rfl kt3 zt3 (fun _=>rfl) rfl (.o rfl) rfl rfl rfl) ?_)
 refine U.pd 5 T (C.xt ?_)
 refine U.pd 1 T (C.nx ?_)
 refine C.ite rfl g (fun b8 g=>?_) fun b8 g=>?_
 refine C.ss (U.pd 2 T (C.nx (C.ret (C.rt ?_))))
 exact C.f1 T o (pIi g)
 refine C.skip (C.xt (U.pd 1 T (C.nx (C.ret ?_))))
 exact C.f1 T o (pIi g)
theorem Q56 (s_1:ApiSite) (st:ApiState) (r:ApiRobot) (post:Int→Prop) (g:Z8 s_1 st r post):
  Tr Tryz.prog 49 [.agg (Q0 s_1),.agg (Q3 st),.agg (Q2 r)] [] 0 (pI post):=by
 refine Tr.go Tryz.func49 Tryz.ntmps49 fun _ _ _ _ o=>?_
 unfold Z8 at g
 refine C.ss (U.bx ?_)
 refine U.bx ?_
 refine U.bx ?_
 refine U.pd 1 T (C.xs (C.ss ?_))
 refine U.pd 3 T (C.nx ?_)
 refine C.ite rfl g (fun b5 g=>?_) fun b5 g=>?_
 refine C.ss (U.pd 1 T (C.nx (C.ret (C.rt ?_))))
 exact C.f1 T o (pIi g)
 refine C.skip (C.xs (C.ss (U.ps 4 T rfl (U.k (Q2g s_1 st r.Cell _ g) en52 (fun x10 g=>?_)))))
 refine U.pd 1 T (C.nx ?_)
 refine C.ite rfl g (fun b11 g=>?_) fun b11 g=>?_
 refine C.ss (U.pd 1 T (C.nx (C.ret (C.rt ?_))))
 exact C.f1 T o (pIi g)
 refine C.skip (C.xt (U.pd 1 T (C.nx (C.ret ?_))))
 exact C.f1 T o (pIi g)
theorem Q20 (s_1:ApiSite) (c:Int) (post:Bool→Prop) (g:G0 s_1 c post):
  Tr Tryz.prog 103 [.agg (Q0 s_1),.i c] [] 0 (pB post):=by
 refine Tr.go Tryz.func103 Tryz.ntmps103 fun _ _ _ _ o=>?_
 unfold G0 at g
 refine C.ss (U.bx ?_)
 refine U.pd 1 T (C.xs ?_)
 refine C.jn (fun (x3:Bool)=>[(4,.b x3)]) (fun x3=>[]) 0 g (fun x3 g=>?_) fun J4 g j4=>?_
 refine C.nx (C.ret ?_)
 exact C.f1 T o (pBi g)
 refine U.start (U.ps 2 T rfl (U.k (WU s_1 c _ g) Q88 (fun x5 g=>?_)))
 refine U.ps 1 T rfl ?_
 refine g.cs (fun b6 g=>?_) fun b6 g=>?_
 refine U.pq 4 3 true 8 b6 T ?_
 obtain⟨x7,y7,g⟩:=g
 refine U.r rfl (.tk 3 true 8 b6) rfl rfl (by exact Rd.ix T rfl rfl rfl rfl rfl rfl y7) ?_
 refine U.pq 3 3 true 8 b6 T ?_
 refine g.cs (fun b8 g=>?_) fun b8 g=>?_
 refine U.sk' 7 11 false 16 b8 ?_
 refine U.r rfl (.tk 3 true 8 b6) rfl rfl (by exact Rd.pk rfl rfl b8 rfl) ?_
 refine U.pk b6 ?_
 refine U.pd 1 T ?_
 exact St.wn (j4 _ g)
 refine U.pq 4 11 false 16 b8 T ?_
 refine U.r rfl (.tk 11 false 16 b8) rfl rfl (by exact Rd.ix T rfl rfl rfl rfl rfl rfl y7) ?_
 refine U.pq 2 11 false 16 b8 T ?_
 refine U.r rfl (.tk 3 true 8 b6) rfl rfl (by exact Rd.pk' rfl rfl b8 rfl) ?_
 refine U.pk b6 ?_
 refine U.pd 1 T ?_
 exact St.wn (j4 _ g)
 refine U.sk' 8 3 true 8 b6 ?_
 refine U.sku 7 11 false 16 rfl rfl rfl ?_
 refine U.sk' 1 3 true 8 b6 ?_
 refine U.pk' b6 ?_
 refine U.pd 1 T ?_
 exact St.wn (j4 _ g)
theorem Q0R (f:ApiFloor) (a:Int) (b:Int) (post:Bool→Prop) (g:Gb f a b post):
  Tr Tryz.prog 104 [.agg (Qr f),.i a,.i b] [] 0 (pB post):=by
 refine Tr.go Tryz.func104 Tryz.ntmps104 fun _ _ _ _ o=>?_
 unfold Gb at g
 refine C.ss (U.bx ?_)
 refine U.pd 1 T (C.xs (C.ss ?_))
 refine U.ps 2 T rfl (U.k (Q0m f b _ g) Q8g (fun x5 g=>?_))
 refine U.pd 1 T (C.nx ?_)
 refine C.ite rfl g (fun b6 g=>?_) fun b6 g=>?_
 refine C.ss (U.pd 1 T (C.nx (C.ret (C.rt ?_))))
 exact C.f1 T o (pBi g)
 refine C.skip (C.xs (C.ss (U.pd 2 T (C.nx ?_))))
 refine C.jn (fun (x11:Unit)=>[]) (fun x11=>[]) 0 g (fun x11 g=>?_) fun J12 g j12=>?_
 refine C.xt (U.pd 1 T (C.nx (C.ret ?_)))
 exact C.f1 T o (pBi g)
 refine C.block (St.wk (C.loop (fun (s13:Int)=>[(1,.i a),(2,.i b),(3,.p 0 0),(13,.agg [.i 0,.i 1,.i 2,.i 3]),(14,.i s13)]) (fun s13=>[(0,.box (Qr f))]) g (fun s13 Y14 g=>?_)) (Wk.a [some 0]))
 refine C.ss (U.pd 1 T (C.xs ?_))
 refine C.ite rfl g (fun b17 g=>?_) fun b17 g=>?_
 refine C.skip (C.xs (C.block (C.ss ?_)))
 obtain⟨x20,y20,g⟩:=g
 refine U.r rfl (.none rfl) rfl rfl (by exact Rd.ia1 T (enc:=eI) rfl rfl rfl rfl rfl rfl rfl rfl rfl (fun _=>rfl) rfl y20) ?_
 refine U.pd 1 T (C.xt ?_)
 refine U.ps 3 T rfl (U.k (Zk f a x20 _ g) Q8o (fun x23 g=>?_))
 refine U.pd 2 T (C.nx ?_)
 refine C.ite rfl g (fun b24 g=>?_) fun b24 g=>?_
 refine C.ss (U.pd 1 T (C.nx (C.ret (C.brt (C.rt (C.rt (C.brt (C.rt ?_))))))))
 exact C.f1 T o (pBi g)
 refine C.skip (C.bnx (C.nx (U.start (U.pd 2 T (C.nx ?_)))))
 exact St.wk (C.next g) (Wk.a [some 0])
 refine C.exit (C.ex (C.ex (C.bex ?_)))
 exact St.wk (j12 _ g) (Wk.mk' [] rfl rfl trivial trivial rfl)
theorem Q0f (r:ApiRobot) (c0:Int) (post:Bool→Prop) (g:Xc r c0 post):
  Tr Tryz.prog 153 [.agg (Q2 r),.rp [.i c0]] [] 0 (pB post):=by
 refine Tr.go Tryz.func153 Tryz.ntmps153 fun _ _ _ _ o=>?_
 unfold Xc at g
 refine C.ss (U.bx ?_)
 refine U.pd 1 T (C.xt ?_)
 refine U.pd 5 T (C.nx (C.ret ?_))
 exact C.f1 T o (pBi g)
theorem Kn (s_1:List ApiRobot) (f_c0:Int) (post:Int→Prop) (g:Qo s_1 f_c0 post):
  Tr Tryz.prog 87 [.sl 6 Q2 s_1,.fn (.func 153) [] [.rp [.i f_c0]]] [] 0 (pI post):=by
 refine Tr.go Tryz.func87 Tryz.ntmps87 fun _ _ _ _ o=>?_
 unfold Qo at g
 refine C.ss (U.pd 1 T (C.xs (C.ss ?_)))
 refine U.pd 3 T (C.nx ?_)
 refine C.jn (fun (x5:Unit)=>[]) (fun x5=>[]) 0 g (fun x5 g=>?_) fun J6 g j6=>?_
 refine C.xt (U.pd 1 T (C.nx (C.ret ?_)))
 exact C.f1 T o (pIi g)
 refine C.block (St.wk (C.loop (fun (s7:Int)=>[(0,.sl 6 Q2 s_1),(1,.fn (.func 153) [] [.rp [.i f_c0]]),(7,.i (s_1.length:Int)),(8,.i s7)]) (fun s7=>[]) g (fun s7 Y8 g=>?_)) (Wk.e))
 refine C.ss (U.pd 1 T (C.xs ?_))
 refine C.ite rfl g (fun b11 g=>?_) fun b11 g=>?_
 refine C.skip (C.xs (C.block (C.ss (U.pd 2 T (C.xt ?_)))))
 refine U.ps 3 T rfl ?_
 obtain⟨x16,y16,g⟩:=g
 refine U.ix T y16 ?_
 refine U.ps 1 T rfl (U.k (Q0f x16 f_c0 _ g) Q9K (fun x17 g=>?_))
 refine U.done (C.nx ?_)
 refine C.ite rfl g (fun b18 g=>?_) fun b18 g=>?_
 refine C.ss (U.pd 2 T (C.nx (C.ret (C.brt (C.rt (C.rt (C.brt (C.rt ?_))))))))
 exact C.f1 T o (pIi g)
 refine C.skip (C.bnx (C.nx (U.start (U.pd 2 T (C.nx ?_)))))
 exact St.wk (C.next g) (Wk.e)
 refine C.exit (C.ex (C.ex (C.bex ?_)))
 exact St.wk (j6 _ g) (Wk.mk' [] rfl rfl trivial trivial rfl)
theorem YX (st:ApiState) (shelf:Int) (post:Int→Prop) (g:Xh st shelf post):
  Tr Tryz.prog 105 [.agg (Q3 st),.i shelf] [] 0 (pI post):=by
 refine Tr.go Tryz.func105 Tryz.ntmps105 fun _ _ _ _ o=>?_
 unfold Xh at g
 refine C.ss (U.bx ?_)
 refine U.bx ?_
 refine U.pd 1 T (C.xs (C.ss ?_))
 refine U.pd 2 T (C.nx ?_)
 refine C.ite rfl g (fun b5 g=>?_) fun b5 g=>?_
 refine C.ss (U.pd 1 T (C.nx (C.ret (C.rt ?_))))
 exact C.f1 T o (pIi g)
 refine C.skip (C.xt (U.ps 3 T rfl (U.k (Kn st.Robots shelf _ g) en87 (fun x10 g=>?_))))
 refine U.pd 1 T (C.nx (C.ret ?_))
 exact C.f1 T o (pIi g)
theorem ZY (s_1:ApiSite) (shelf:Int) (post:ByteArray→Prop) (g:XU s_1 shelf post):
  Tr Tryz.prog 107 [.agg (Q0 s_1),.i shelf] [] 0 (fun A H' k=>∃y,post y∧A=(.v (.string y))∧H'=[]∧k=0):=by
 refine Tr.go Tryz.func107 Tryz.ntmps107 fun _ _ _ _ o=>?_
 unfold XU at g
 refine C.ss (U.bx ?_)
 refine U.pd 1 T (C.xs (C.seq ?_))
 refine C.jn (fun (x3:Bool)=>[(1,.i shelf),(2,.p 0 0),(13,.b x3)]) (fun x3=>[(0,.box (Q0 s_1))]) 1 g (fun x3 g=>?_) fun J4 g j4=>?_
 refine C.nx ?_
 refine C.ite rfl g (fun b6 g=>?_) fun b6 g=>?_
 refine C.ss (U.pd 1 T (C.nx (C.ret (C.rt ?_))))
 exact C.f1 T o ⟨ByteArray.empty,g,rfl,rfl,rfl⟩
 refine C.skip (C.xt (U.ps 3 T rfl ?_))
 obtain⟨x11,y11,g⟩:=g
 refine U.ix T y11 ?_
 refine U.pd 3 T (C.nx (C.ret ?_))
 exact C.f1 T o ⟨x11.Class,g,rfl,rfl,rfl⟩
 refine U.start (U.ps 3 T rfl ?_)
 refine g.cs (fun b5 g=>?_) fun b5 g=>?_
 refine U.sk' 5 2 false 7 b5 ?_
 refine U.pk b5 ?_
 refine U.done ?_
 exact St.wa [some 0] (j4 _ g)
 refine U.pq 5 2 false 7 b5 T ?_
 refine U.pk' b5 ?_
 refine U.done ?_
 exact St.wa [some 0] (j4 _ g)
theorem Q1e (s_1:ApiSite) (post:(List (Q9×Bool))→Prop) (g:XK s_1 post):
  Tr Tryz.prog 154 [.agg (Q0 s_1)] [] 0 (fun A H' k=>∃y,post y∧A=(.o 0)∧H'=[(0,.val (.om Yc veB y))]∧k=1):=by
 refine Tr.go Tryz.func154 Tryz.ntmps154 fun _ _ _ _ o=>?_
 unfold XK at g
 refine C.ss (U.bx ?_)
 refine U.pd 1 T (C.xt ?_)
 refine U.e1 rfl (.none rfl) (by exact Eff1.mm Yc veB rfl rfl rfl) ?_
 refine U.pd 1 T (C.xs (C.ss ?_))
 refine U.pd 4 T (C.nx ?_)
 refine C.jn (fun (x7:List (Q9×Bool))=>[(3,.o 0)]) (fun x7=>[(0,.val (.om Yc veB x7))]) 1 g (fun x7 g=>?_) fun J8 g j8=>?_
 refine C.xt (U.pd 2 T (C.nx (C.ret ?_)))
 exact C.g1 [some 0] T o ⟨x7,g,rfl,rfl,rfl⟩
 refine C.block (St.wk (C.loop (fun (s9:List (Q9×Bool)×Int)=>[(3,.o 0),(8,.sl 2 Qb s_1.Aparts),(9,.i (s_1.Aparts.length:Int)),(10,.i s9.2)]) (fun s9=>[(0,.val (.om Yc veB s9.1))]) g (fun s9 Y10 g=>?_)) (Wk.a [some 1]))
 refine C.ss (U.pd 1 T (C.xs ?_))
 refine C.ite rfl g (fun b13 g=>?_) fun b13 g=>?_
 refine C.skip (C.xs (C.block (C.ss ?_)))
 obtain⟨x16,y16,g⟩:=g
 refine U.ix T y16 ?_
 refine U.ps 1 T rfl (U.al T ?_)
 refine U.st T ?_
 refine U.done (C.nx (D.bq mix 9 [1] [0] (fun hQ hS ws M'=>?_)))
 refine D.pq 8 (zl [0,1,2,3,4,5,6,7]) T ?_
 refine D.e1 8 rfl (.none rfl) (by exact Eff1.mu T (x:=x16) (y:=true) (.inl rfl) rfl Q7J (fun _=>rfl) rfl rfl rfl rfl rfl (.inl rfl) rfl) (by kernel_rfl) rfl rfl ?_
 refine D.ze1 rfl (.none rfl) (by exact Eff1.mu T (x:=({A:=x16.B,B:=x16.A:Q9})) (y:=true) (.inl rfl) rfl Q7J (fun _=>rfl) rfl rfl rfl rfl rfl (.inl rfl) rfl) (by kernel_rfl) (by kernel_rfl) ?_
 refine C.bnx (C.nx (U.start (U.pd 2 T (C.nx ?_))))
 exact St.wk (C.next g) (Wk.a [some 0])
 refine C.exit (C.ex (C.ex (C.bex ?_)))
 exact St.wa [some 0] (j8 _ g)
theorem Q2C (s_1:ApiSite) (a:ByteArray) (b:ByteArray) (post:Bool→Prop) (g:Gt s_1 a b post):
  Tr Tryz.prog 106 [.agg (Q0 s_1),.v (.string a),.v (.string b)] [] 0 (pB post):=by
 refine Tr.go Tryz.func106 Tryz.ntmps106 fun _ _ _ _ o=>?_
 unfold Gt at g
 refine C.ss (U.bx ?_)
 refine U.pd 1 T (C.xs ?_)
 refine C.jn (fun (x3:Bool)=>[(6,.b x3)]) (fun x3=>[]) 0 g (fun x3 g=>?_) fun J4 g j4=>?_
 refine C.nx (C.ret ?_)
 exact C.f1 T o (pBi g)
 refine U.start (U.ps 3 T rfl ?_)
 refine g.cs (fun b5 g=>?_) fun b5 g=>?_
 refine U.sk' 2 2 true 9 (ntF b5) ?_
 refine U.pk' (ntF b5) ?_
 refine U.ps 1 T rfl (U.sk' 6 6 true 13 rfl ?_)
 refine U.pk' rfl ?_
 refine U.pd 1 T ?_
 exact St.wn (j4 _ g)
 refine U.pq 2 2 true 9 (ntT b5) T ?_
 refine U.pk (ntT b5) ?_
 refine U.ps 1 T rfl ?_
 refine g.cs (fun b6 g=>?_) fun b6 g=>?_
 refine U.sk' 6 6 true 13 (ntF b6) ?_
 refine U.pk' (ntF b6) ?_
 refine U.pd 1 T ?_
 exact St.wn (j4 _ g)
 refine U.pq 1 6 true 13 (ntT b6) T ?_
 refine U.k (Q1e s_1 _ g) Qam (fun x7 g=>?_) (hw:=.take 6 true 13 _ (ntT b6) rfl rfl rfl)
 refine U.pq 3 6 true 13 (ntT b6) T ?_
 refine U.r rfl (.tk 6 true 13 (ntT b6)) rfl rfl (by exact Rd.lk T (ke:=Yc) (ve:=veB) (xs:=x7) (z0:=false) (x:=({A:=a,B:=b:Q9})) rfl rfl Q7J zt4 (fun _=>rfl) rfl (.o rfl) rfl rfl rfl) ?_
 refine U.pk (ntT b6) ?_
 refine U.pd 1 T ?_
 exact St.wn (j4 _ g)
theorem Q3B (s_1:ApiSite) (st:ApiState) (shelf:Int) (c:Int) (post:Int→Prop) (g:GY s_1 st shelf c post):
  Tr Tryz.prog 50 [.agg (Q0 s_1),.agg (Q3 st),.i shelf,.i c] [] 0 (pI post):=by
 refine Tr.go Tryz.func50 Tryz.ntmps50 fun _ _ _ _ o=>?_
 unfold GY at g
 refine C.ss (U.bx ?_)
 refine U.bx ?_
 refine U.pd 1 T (C.xs (C.block (C.seq ?_)))
 refine C.jn (fun (x3:Bool)=>[(2,.i shelf),(3,.i c),(4,.p 0 0),(5,.p 1 0),(12,.b x3)]) (fun x3=>[(0,.box (Q0 s_1)),(1,.box (Q3 st))]) 2 g (fun x3 g=>?_) fun J4 g j4=>?_
 refine C.nx ?_
 refine C.ite rfl g (fun b6 g=>?_) fun b6 g=>?_
 refine C.ss (U.pd 1 T (C.nx (C.ret (C.brt (C.rt ?_)))))
 exact C.f1 T o (pIi g)
 refine C.ss (U.ps 2 T rfl (U.k (Q20 s_1 c _ g) Qaj (fun x11 g=>?_)))
 refine U.pd 2 T (C.nx ?_)
 refine C.ite rfl g (fun b12 g=>?_) fun b12 g=>?_
 refine C.ss (U.pd 1 T (C.nx (C.ret (C.brt (C.rt ?_)))))
 exact C.f1 T o (pIi g)
 refine C.skip (C.bnx (C.xt (U.pd 1 T (C.xs (C.ss ?_)))))
 refine U.pd 4 T (C.nx ?_)
 refine C.jn (fun (x19:Int)=>[(9,.i x19)]) (fun x19=>[]) 0 g (fun x19 g=>?_) fun J20 g j20=>?_
 refine C.xt (U.pd 2 T (C.nx (C.ret ?_)))
 exact C.f1 T o (pIi g)
 refine C.block (St.wk (C.loop (fun (s21:Int×Int)=>[(2,.i shelf),(3,.i c),(4,.p 0 0),(5,.p 1 0),(9,.i s21.1),(28,.sl 1 eI st.Shelves),(29,.i (st.Shelves.length:Int)),(30,.i s21.2)]) (fun s21=>[(0,.box (Q0 s_1)),(1,.box (Q3 st))]) g (fun s21 Y22 g=>?_)) (Wk.a (idR 2)))
 refine C.ss (U.pd 1 T (C.xs ?_))
 refine C.ite rfl g (fun b25 g=>?_) fun b25 g=>?_
 refine C.skip (C.xs ?_)
 refine C.jn (fun (x26:Int)=>[(2,.i shelf),(3,.i c),(4,.p 0 0),(5,.p 1 0),(9,.i x26),(28,.sl 1 eI st.Shelves),(29,.i (st.Shelves.length:Int)),(30,.i s21.2)]) (fun x26=>[(0,.box (Q0 s_1)),(1,.box (Q3 st))]) 2 g (fun x26 g=>?_) fun J27 g j27=>?_
 refine C.nx (U.start (U.pd 2 T (C.nx ?_)))
 exact St.wk (C.next g) (Wk.a (idR 2))
 refine C.block (C.ss (U.ps 1 T rfl ?_))
 obtain⟨x30,y30,g⟩:=g
 refine U.ix T y30 ?_
 refine U.pd 3 T (C.xs (C.seq ?_))
 refine C.jn (fun (x31:Bool)=>[(2,.i shelf),(3,.i c),(4,.p 0 0),(5,.p 1 0),(9,.i s21.1),(10,.i s21.2),(11,.i x30),(28,.sl 1 eI st.Shelves),(29,.i (st.Shelves.length:Int)),(30,.i s21.2),(56,.b x31)]) (fun x31=>[(0,.box (Q0 s_1)),(1,.box (Q3 st))]) 2 g (fun x31 g=>?_) fun J32 g j32=>?_
 refine C.nx ?_
 refine C.ite rfl g (fun b39 g=>?_) fun b39 g=>?_
 refine C.exit (C.ex (C.bex ?_))
 exact St.wa (idR 2) (j27 _ g)
 refine C.skip (C.xs (C.ss (U.pd 3 T (C.nx ?_))))
 refine C.ite rfl g (fun b42 g=>?_) fun b42 g=>?_
 refine C.ss (U.pd 1 T (C.nx (C.ret (C.rt (C.brt (C.rt (C.rt (C.brt (C.rt ?_)))))))))
 exact C.f1 T o (pIi g)
 refine C.skip (C.xs (D.bq mix 7 [0] [] (fun hQ hS ws M'=>?_)))
 refine D.pq 5 [(0,[]),(1,[3]),(2,[3]),(4,[6]),(5,[6])] T ?_
 refine D.k 3 (ZY s_1 shelf _ g) Q8K fun x47 g=>?_
 refine D.k 6 (ZY s_1 s21.2 _ g) Q8K fun x48 g=>?_
 refine D.ze rfl (.none rfl) (by exact Eff.k (Q2C s_1 x47 x48 _ g) Qa4 rfl rfl rfl (.eq rfl) (fun _ _=>⟨(.v _),trivial⟩)) (by kernel_rfl) (by kernel_rfl) (fun x49' g=>?_)
 obtain⟨x49⟩:=x49'
 refine C.nx ?_
 refine C.jn (fun (x50:Int)=>[(2,.i shelf),(3,.i c),(4,.p 0 0),(5,.p 1 0),(9,.i x50),(28,.sl 1 eI st.Shelves),(29,.i (st.Shelves.length:Int)),(30,.i s21.2)]) (fun x50=>[(0,.box (Q0 s_1)),(1,.box (Q3 st))]) 2 g (fun x50 g=>?_) fun J51 g j51=>?_
 refine C.bnx ?_
 exact St.wa (idR 2) (j27 _ g)
 refine C.ite rfl g (fun b52 g=>?_) fun b52 g=>?_
 refine U.start (U.pd 1 T ?_)
 exact St.wa (idR 2) (j51 _ g)
 refine C.skip ?_
 exact St.wa (idR 2) (j51 _ g)
 refine U.start (U.ps 4 T rfl ?_)
 refine g.cs (fun b33 g=>?_) fun b33 g=>?_
 refine U.sk' 4 3 false 38 b33 ?_
 refine U.sku 6 7 true 42 rfl rfl rfl ?_
 refine U.sk' 1 3 false 38 b33 ?_
 refine U.pk b33 ?_
 refine U.ps 1 T rfl (U.sk' 4 16 false 51 rfl ?_)
 refine U.pk rfl ?_
 refine U.done ?_
 exact St.wa (idR 2) (j32 _ g)
 refine U.pq 4 3 false 38 b33 T ?_
 refine g.cs (fun b34 g=>?_) fun b34 g=>?_
 refine U.pq 4 7 true 42 b34 T ?_
 refine U.k (Q0R s_1.Floor x30 c _ g) Q8A (fun x35 g=>?_) (hw:=.take 7 true 42 _ b34 rfl rfl rfl)
 refine U.pq 1 7 true 42 b34 T ?_
 refine U.r rfl (.tk 3 false 38 b33) rfl rfl (by exact Rd.pk rfl rfl b34 rfl) ?_
 refine U.pk' b33 ?_
 refine U.ps 1 T rfl ?_
 refine g.cs (fun b36 g=>?_) fun b36 g=>?_
 refine U.pq 2 16 false 51 (ntF b36) T ?_
 refine U.k (YX st s21.2 _ g) Q9a (fun x37 g=>?_) (hw:=.take 16 false 51 _ (ntF b36) rfl rfl rfl)
 refine U.pq 1 16 false 51 (ntF b36) T ?_
 refine U.pk' (ntF b36) ?_
 refine U.done ?_
 exact St.wa (idR 2) (j32 _ g)
 refine U.sk' 4 16 false 51 (ntT b36) ?_
 refine U.pk (ntT b36) ?_
 refine U.done ?_
 exact St.wa (idR 2) (j32 _ g)
 refine U.sk' 6 7 true 42 b34 ?_
 refine U.r rfl (.tk 3 false 38 b33) rfl rfl (by exact Rd.pk' rfl rfl b34 rfl) ?_
 refine U.pk' b33 ?_
 refine U.ps 1 T rfl (U.pq 2 16 false 51 rfl T ?_)
 refine U.k (YX st s21.2 _ g) Q9a (fun x38 g=>?_) (hw:=.take 16 false 51 _ rfl rfl rfl rfl)
 refine U.pq 1 16 false 51 rfl T ?_
 refine U.pk' rfl ?_
 refine U.done ?_
 exact St.wa (idR 2) (j32 _ g)
 refine C.exit (C.ex (C.ex (C.bex ?_)))
 exact St.wn (j20 _ g)
 refine U.start (U.ps 3 T rfl ?_)
 refine g.cs (fun b5 g=>?_) fun b5 g=>?_
 refine U.sk' 5 2 false 15 b5 ?_
 refine U.pk b5 ?_
 refine U.pd 1 T ?_
 exact St.wa (idR 2) (j4 _ g)
 refine U.pq 5 2 false 15 b5 T ?_
 refine U.pk' b5 ?_
 refine U.pd 1 T ?_
 exact St.wa (idR 2) (j4 _ g)
theorem ZL (s_1:ApiSite) (st:ApiState) (robot:Int) (act:Int) (post:Int→Prop) (g:Xm s_1 st robot act post):
  Tr Tryz.prog 12 [.agg (Q0 s_1),.agg (Q3 st),.i robot,.i act] [] 0 (pI post):=by
 refine Tr.go Tryz.func12 Tryz.ntmps12 fun _ _ _ _ o=>?_
 unfold Xm at g
 refine C.ss (U.bx ?_)
 refine U.bx ?_
 refine U.pd 1 T (C.xs (C.seq ?_))
 refine C.jn (fun (x3:Bool)=>[(2,.i robot),(3,.i act),(4,.p 0 0),(5,.p 1 0),(22,.b x3)]) (fun x3=>[(0,.box (Q0 s_1)),(1,.box (Q3 st))]) 2 g (fun x3 g=>?_) fun J4 g j4=>?_
 refine C.nx ?_
 refine C.ite rfl g (fun b6 g=>?_) fun b6 g=>?_
 refine C.ss (U.pd 1 T (C.nx (C.ret (C.rt ?_))))
 exact C.f1 T o (pIi g)
 refine C.skip (C.xs (C.seq ?_))
 refine C.jn (fun (x9:Bool)=>[(2,.i robot),(3,.i act),(4,.p 0 0),(5,.p 1 0),(28,.b x9)]) (fun x9=>[(0,.box (Q0 s_1)),(1,.box (Q3 st))]) 2 g (fun x9 g=>?_) fun J10 g j10=>?_
 refine C.nx ?_
 refine C.ite rfl g (fun b12 g=>?_) fun b12 g=>?_
 refine C.ss (U.pd 1 T (C.nx (C.ret (C.rt ?_))))
 exact C.f1 T o (pIi g)
 refine C.skip (C.xs (C.ss (U.pd 2 T (C.nx ?_))))
 refine C.ite rfl g (fun b17 g=>?_) fun b17 g=>?_
 refine C.ss (U.pd 1 T (C.nx (C.ret (C.rt ?_))))
 exact C.f1 T o (pIi g)
 refine C.skip (C.xt (U.ps 3 T rfl ?_))
 obtain⟨x22,y22,g⟩:=g
 refine U.ix T y22 ?_
 refine U.ps 1 T rfl (U.al T ?_)
 refine U.st T ?_
 refine U.done (C.xt (U.ps 1 T rfl (U.k (YN act _ g) en46 (fun x25 g=>?_))))
 refine U.pd 5 T (C.xs (C.seq ?_))
 refine C.jn (fun (x26:Bool)=>[(3,.i act),(4,.p 0 0),(5,.p 1 0),(9,.p 2 0),(10,.i x25.1),(11,.b x25.2),(47,.b x26)]) (fun x26=>[(0,.box (Q0 s_1)),(1,.box (Q3 st)),(2,.box (Q2 x22))]) 3 g (fun x26 g=>?_) fun J27 g j27=>?_
 refine C.nx ?_
 refine C.ite rfl g (fun b29 g=>?_) fun b29 g=>?_
 refine C.ss (U.pd 1 T (C.nx (C.ret (C.rt ?_))))
 exact C.f1 T o (pIi g)
 refine C.skip (C.xs (C.seq ?_))
 refine C.jn (fun (x32:Bool)=>[(3,.i act),(4,.p 0 0),(5,.p 1 0),(9,.p 2 0),(10,.i x25.1),(11,.b x25.2),(53,.b x32)]) (fun x32=>[(0,.box (Q0 s_1)),(1,.box (Q3 st)),(2,.box (Q2 x22))]) 3 g (fun x32 g=>?_) fun J33 g j33=>?_
 refine C.nx ?_
 refine C.ite rfl g (fun b35 g=>?_) fun b35 g=>?_
 refine C.ss (U.pd 1 T (C.nx (C.ret (C.rt ?_))))
 exact C.f1 T o (pIi g)
 refine C.skip (C.xs (C.ss (U.ps 8 T rfl (U.k (YA st.Tick x22.Charge act (decide (x22.Load≥0)) _ g) en47 (fun x40 g=>?_)))))
 refine U.pd 5 T (C.xt ?_)
 refine U.pd 2 T (C.nx ?_)
 refine C.ite rfl g (fun b43 g=>?_) fun b43 g=>?_
 refine C.ss (U.pd 2 T (C.nx (C.ret (C.rt ?_))))
 exact C.f1 T o (pIi g)
 refine C.skip (C.xs (C.block (C.ss (U.pd 2 T (C.nx ?_)))))
 refine C.ite rfl g (fun b48 g=>?_) fun b48 g=>?_
 refine C.ss (U.ps 4 T rfl (U.k (Q5d s_1 st x22 x25.1 _ g) en48 (fun x51 g=>?_)))
 refine U.pd 1 T (C.nx (C.ret (C.brt (C.rt ?_))))
 exact C.f1 T o (pIi g)
 refine C.ss (U.pd 3 T (C.nx ?_))
 refine C.ite rfl g (fun b54 g=>?_) fun b54 g=>?_
 refine C.ss (U.ps 3 T rfl (U.k (Q56 s_1 st x22 _ g) en49 (fun x57 g=>?_)))
 refine U.pd 1 T (C.nx (C.ret (C.brt (C.rt ?_))))
 exact C.f1 T o (pIi g)
 refine C.seq ?_
 refine C.jn (fun (x58:Bool)=>[(3,.i act),(4,.p 0 0),(5,.p 1 0),(9,.p 2 0),(83,.b x58)]) (fun x58=>[(0,.box (Q0 s_1)),(1,.box (Q3 st)),(2,.box (Q2 x22))]) 3 g (fun x58 g=>?_) fun J59 g j59=>?_
 refine C.nx ?_
 refine C.ite rfl g (fun b61 g=>?_) fun b61 g=>?_
 refine C.ss (U.pd 1 T (C.nx (C.ret (C.brt (C.rt ?_)))))
 exact C.f1 T o (pIi g)
 refine C.ss (U.pd 3 T (C.nx ?_))
 refine C.ite rfl g (fun b66 g=>?_) fun b66 g=>?_
 refine C.ss (U.ps 6 T rfl (U.k (Q3B s_1 st x22.Load x22.Cell _ g) en50 (fun x69 g=>?_)))
 refine U.pd 1 T (C.nx (C.ret (C.brt (C.rt ?_))))
 exact C.f1 T o (pIi g)
 refine C.ss (U.ps 5 T rfl ?_)
 obtain⟨x72,y72,g⟩:=g
 refine U.ix T y72 ?_
 refine U.pd 3 T (C.nx ?_)
 refine C.ite rfl g (fun b73 g=>?_) fun b73 g=>?_
 refine C.ss (U.pd 1 T (C.nx (C.ret (C.brt (C.rt ?_)))))
 exact C.f1 T o (pIi g)
 refine C.skip (C.bnx (C.xt (U.pd 1 T (C.nx (C.ret ?_)))))
 exact C.f1 T o (pIi g)
 refine U.start (U.ps 3 T rfl ?_)
 refine g.cs (fun b60 g=>?_) fun b60 g=>?_
 refine U.pq 3 2 true 86 b60 T ?_
 refine U.pk b60 ?_
 refine U.pd 1 T ?_
 exact St.wa (idR 3) (j59 _ g)
 refine U.sk' 3 2 true 86 b60 ?_
 refine U.pk' b60 ?_
 refine U.pd 1 T ?_
 exact St.wa (idR 3) (j59 _ g)
 refine U.start (U.ps 2 T rfl ?_)
 refine g.cs (fun b34 g=>?_) fun b34 g=>?_
 refine U.pq 3 1 true 49 b34 T ?_
 refine U.pk b34 ?_
 refine U.done ?_
 exact St.wa (idR 3) (j33 _ g)
 refine U.sk' 3 1 true 49 b34 ?_
 refine U.pk' b34 ?_
 refine U.done ?_
 exact St.wa (idR 3) (j33 _ g)
 refine U.start (U.ps 3 T rfl ?_)
 refine g.cs (fun b28 g=>?_) fun b28 g=>?_
 refine U.sk' 3 2 false 43 b28 ?_
 refine U.pk b28 ?_
 refine U.done ?_
 exact St.wa (idR 3) (j27 _ g)
 refine U.pq 3 2 false 43 b28 T ?_
 refine U.pk' b28 ?_
 refine U.done ?_
 exact St.wa (idR 3) (j27 _ g)
 refine U.start (U.ps 3 T rfl ?_)
 refine g.cs (fun b11 g=>?_) fun b11 g=>?_
 refine U.sk' 2 2 false 25 b11 ?_
 refine U.pk b11 ?_
 refine U.done ?_
 exact St.wa (idR 2) (j10 _ g)
 refine U.pq 2 2 false 25 b11 T ?_
 refine U.pk' b11 ?_
 refine U.done ?_
 exact St.wa (idR 2) (j10 _ g)
 refine U.start (U.ps 3 T rfl ?_)
 refine g.cs (fun b5 g=>?_) fun b5 g=>?_
 refine U.sk' 5 2 false 16 b5 ?_
 refine U.pk b5 ?_
 refine U.done ?_
 exact St.wa (idR 2) (j4 _ g)
 refine U.pq 5 2 false 16 b5 T ?_
 refine U.pk' b5 ?_
 refine U.done ?_
 exact St.wa (idR 2) (j4 _ g)
theorem Q2L (f:ApiFloor) (st:ApiState) (acts:List Int) (post:(List Int)→Prop) (g:XP f st acts post):
  Tr Tryz.prog 184 [.agg (Qr f),.agg (Q3 st),.sl 1 eI acts] [] 0 (fun A H' k=>∃y,post y∧A=(.o 0)∧H'=[(0,.val (.os 1 eI y))]∧k=1):=by
 refine Tr.go Tryz.func184 Tryz.ntmps184 fun _ _ _ _ o=>?_
 unfold XP at g
 refine C.ss (U.bx ?_)
 refine U.bx ?_
 refine U.pd 1 T (C.xt ?_)
 refine U.ps 1 T rfl (U.k (Q0H st _ g) en44 (fun x5 g=>?_))
 refine U.pd 1 T (C.xs (C.ss ?_))
 refine U.pd 4 T (C.nx ?_)
 refine C.jn (fun (x8:List Int)=>[(7,.o 0)]) (fun x8=>[(0,.val (.os 1 eI x8))]) 1 g (fun x8 g=>?_) fun J9 g j9=>?_
 refine C.xt (U.ps 1 T rfl (U.c [some 0] (K5 x8 _ g) en67 (fun x44 g=>?_)))
 refine U.done (C.xt (U.pd 2 T (C.nx (C.ret ?_))))
 exact C.g1 [some 0] T o ⟨x44,g,rfl,rfl,rfl⟩
 refine C.block (St.wk (C.loop (fun (s10:List Int×Int)=>[(2,.sl 1 eI acts),(3,.p 0 0),(7,.o 1),(15,.sl 6 Q2 st.Robots),(16,.i (st.Robots.length:Int)),(17,.i s10.2)]) (fun s10=>[(0,.box (Qr f)),(1,.val (.os 1 eI s10.1))]) g (fun s10 Y11 g=>?_)) (Wk.a [some 0,some 2]))
 refine C.ss (U.pd 1 T (C.xs ?_))
 refine C.ite rfl g (fun b14 g=>?_) fun b14 g=>?_
 refine C.skip (C.xs ?_)
 refine C.jn (fun (x15:List Int)=>[(2,.sl 1 eI acts),(3,.p 0 0),(7,.o 1),(15,.sl 6 Q2 st.Robots),(16,.i (st.Robots.length:Int)),(17,.i s10.2)]) (fun x15=>[(0,.box (Qr f)),(1,.val (.os 1 eI x15))]) 2 g (fun x15 g=>?_) fun J16 g j16=>?_
 refine C.nx (U.start (U.pd 2 T (C.nx ?_)))
 exact St.wk (C.next g) (Wk.a (idR 2))
 refine C.block (C.ss (U.ps 1 T rfl ?_))
 obtain⟨x19,y19,g⟩:=g
 refine U.ix T y19 ?_
 refine U.ps 1 T rfl (U.al T ?_)
 refine U.ps 1 T rfl (U.st T ?_)
 refine U.done (C.xs (C.seq ?_))
 refine C.jn (fun (x20:Bool)=>[(2,.sl 1 eI acts),(3,.p 0 0),(7,.o 1),(8,.i s10.2),(9,.p 2 0),(15,.sl 6 Q2 st.Robots),(16,.i (st.Robots.length:Int)),(17,.i s10.2),(43,.b x20)]) (fun x20=>[(0,.box (Qr f)),(1,.val (.os 1 eI s10.1)),(2,.box (Q2 x19))]) 3 g (fun x20 g=>?_) fun J21 g j21=>?_
 refine C.nx ?_
 refine C.ite rfl g (fun b26 g=>?_) fun b26 g=>?_
 refine C.exit (C.ex (C.bex ?_))
 exact St.wa (idR 2) (j16 _ g)
 refine C.skip (C.xs (D.bq mix 9999 [0,2] [] (fun hQ hS ws M'=>?_)))
 refine D.pq 5 (zl [0,1,2,3,4]) T ?_
 obtain⟨x29,y29,g⟩:=g
 refine D.ix 5 [] T y29 ?_
 refine D.pq 2 (zl [6,7]) T ?_
 refine D.k 8 (W7 f x19.Cell (w64 (x29-1)) _ g) en53 fun x30 g=>?_
 refine D.pq 5 (zl [9,10,11,12,13]) T ?_
 refine D.done (by kernel_rfl) ?_
 refine C.xt (U.pd 1 T (C.nx ?_))
 refine C.jn (fun (x33:List Int)=>[(2,.sl 1 eI acts),(3,.p 0 0),(7,.o 1),(15,.sl 6 Q2 st.Robots),(16,.i (st.Robots.length:Int)),(17,.i s10.2)]) (fun x33=>[(0,.box (Qr f)),(1,.val (.os 1 eI x33))]) 2 g (fun x33 g=>?_) fun J34 g j34=>?_
 refine C.bnx ?_
 exact St.wa (idR 2) (j16 _ g)
 refine C.ite rfl g (fun b35 g=>?_) fun b35 g=>?_
 refine U.start (U.ps 3 T rfl (U.k (Q3y x19 x30.1 _ g) Q8I (fun x38 g=>?_)))
 obtain⟨y39,g⟩:=g
 refine U.ap T y39 ?_
 refine U.pd 1 T ?_
 exact St.wa [some 0,some 4] (j34 _ g)
 refine C.skip ?_
 exact St.wa (idR 2) (j34 _ g)
 refine U.start (U.ps 5 T rfl ?_)
 refine g.cs (fun b22 g=>?_) fun b22 g=>?_
 refine U.sk' 2 4 false 26 b22 ?_
 refine U.pk b22 ?_
 refine U.ps 1 T rfl (U.sk' 5 8 false 30 rfl ?_)
 refine U.pk rfl ?_
 refine U.ps 1 T rfl (U.sk' 5 15 false 37 rfl ?_)
 refine U.pk rfl ?_
 refine U.done ?_
 exact St.wa (idR 3) (j21 _ g)
 refine U.pq 2 4 false 26 b22 T ?_
 refine U.pk' b22 ?_
 refine U.ps 1 T rfl ?_
 refine g.cs (fun b23 g=>?_) fun b23 g=>?_
 refine U.sk' 5 8 false 30 b23 ?_
 refine U.pk b23 ?_
 refine U.ps 1 T rfl (U.sk' 5 15 false 37 rfl ?_)
 refine U.pk rfl ?_
 refine U.done ?_
 exact St.wa (idR 3) (j21 _ g)
 refine U.pq 2 8 false 30 b23 T ?_
 obtain⟨x24,y24,g⟩:=g
 refine U.r rfl (.tk 8 false 30 b23) rfl rfl (by exact Rd.ix T rfl rfl rfl rfl rfl rfl y24) ?_
 refine U.pq 2 8 false 30 b23 T ?_
 refine U.pk' b23 ?_
 refine U.ps 1 T rfl ?_
 refine g.cs (fun b25 g=>?_) fun b25 g=>?_
 refine U.sk' 5 15 false 37 b25 ?_
 refine U.pk b25 ?_
 refine U.done ?_
 exact St.wa (idR 3) (j21 _ g)
 refine U.pq 2 15 false 37 b25 T ?_
 refine U.r rfl (.tk 15 false 37 b25) rfl rfl (by exact Rd.ix T rfl rfl rfl rfl rfl rfl y24) ?_
 refine U.pq 2 15 false 37 b25 T ?_
 refine U.pk' b25 ?_
 refine U.done ?_
 exact St.wa (idR 3) (j21 _ g)
 refine C.exit (C.ex (C.ex (C.bex ?_)))
 exact St.wa [some 1] (j9 _ g)
theorem Gh (s_1:List ApiRobot) (post:(List ApiRobot)→Prop) (g:QK s_1 post):
  Tr Tryz.prog 108 [.sl 6 Q2 s_1] [] 0 (fun A H' k=>∃y,post y∧A=(.o 0)∧H'=[(0,.val (.os 6 Q2 y))]∧k=1):=by
 refine Tr.go Tryz.func108 Tryz.ntmps108 fun _ _ _ _ o=>?_
 unfold QK at g
 refine C.ss (U.pd 1 T (C.xs (C.ss ?_)))
 refine U.ps 1 T rfl (U.e rfl (.none rfl) (by exact Eff.isnil T true rfl rfl rfl rfl rfl rfl (.inl ⟨.sl,rfl⟩) rfl) (fun b5' hhb5=>?_))
 obtain⟨b5⟩:=b5'
 replace g:=g b5 hhb5
 refine U.done (C.nx ?_)
 refine C.ite rfl g (fun b6 g=>?_) fun b6 g=>?_
 refine C.ss (U.pd 1 T (C.nx (C.ret (C.rt ?_))))
 exact C.g1 [none] T o ⟨[],g,rfl,rfl,rfl⟩
 refine C.skip (C.xt (U.bs T Q2 ([]:List ApiRobot) ?_))
 refine U.ps 1 T rfl ?_
 obtain⟨y11,g⟩:=g
 refine U.ap T y11 ?_
 refine U.pd 1 T (C.nx (C.ret ?_))
 exact C.g1 [some 1] T o ⟨(([]:List ApiRobot)++s_1),g,rfl,rfl,rfl⟩
theorem Gf (s_1:List ApiStuck) (post:(List ApiStuck)→Prop) (g:QJ s_1 post):
  Tr Tryz.prog 109 [.sl 2 Q5 s_1] [] 0 (fun A H' k=>∃y,post y∧A=(.o 0)∧H'=[(0,.val (.os 2 Q5 y))]∧k=1):=by
 refine Tr.go Tryz.func109 Tryz.ntmps109 fun _ _ _ _ o=>?_
 unfold QJ at g
 refine C.ss (U.pd 1 T (C.xs (C.ss ?_)))
 refine U.ps 1 T rfl (U.e rfl (.none rfl) (by exact Eff.isnil T true rfl rfl rfl rfl rfl rfl (.inl ⟨.sl,rfl⟩) rfl) (fun b5' hhb5=>?_))
 obtain⟨b5⟩:=b5'
 replace g:=g b5 hhb5
 refine U.done (C.nx ?_)
 refine C.ite rfl g (fun b6 g=>?_) fun b6 g=>?_
 refine C.ss (U.pd 1 T (C.nx (C.ret (C.rt ?_))))
 exact C.g1 [none] T o ⟨[],g,rfl,rfl,rfl⟩
 refine C.skip (C.xt (U.bs T Q5 ([]:List ApiStuck) ?_))
 refine U.ps 1 T rfl ?_
 obtain⟨y11,g⟩:=g
 refine U.ap T y11 ?_
 refine U.pd 1 T (C.nx (C.ret ?_))
 exact C.g1 [some 1] T o ⟨(([]:List ApiStuck)++s_1),g,rfl,rfl,rfl⟩
theorem YD (st:ApiState) (post:ApiState→Prop) (g:XH st post):
  Tr Tryz.prog 51 [.agg (Q3 st)] [] 0 (fun A H' k=>∃y,post y∧A=(.agg [.i y.Tick,.o 0,.o 1,.o 2,.o 3,.o 4])∧H'=[(0,.val (.os 1 eI y.Shelves)),(1,.val (.os 6 Q2 y.Robots)),(2,.val (.os 1 eI y.People)),(3,.val (.os 1 eI y.Dead)),(4,.val (.os 2 Q5 y.Stuck))]∧k=5):=by
 refine Tr.go Tryz.func51 Tryz.ntmps51 fun _ _ _ _ o=>?_
 unfold XH at g
 refine C.ss (U.bx ?_)
 refine U.al T ?_
 refine U.done (C.xs (D.bq mix 18 [0] [] (fun hQ hS ws M'=>?_)))
 refine D.pq 12 (zl [0,1,2,3,5,6,8,9,11,12,14,15]) T ?_
 refine D.k 4 (QW st.Shelves _ g) en63 fun x5 g=>?_
 refine D.k 7 (Gh st.Robots _ g) Qad fun x6 g=>?_
 refine D.k 10 (QW st.People _ g) en63 fun x7 g=>?_
 refine D.k 13 (QW st.Dead _ g) en63 fun x8 g=>?_
 refine D.k 16 (Gf st.Stuck _ g) Qas fun x9 g=>?_
 refine D.pq 1 [(17,[])] T ?_
 refine D.ze1 rfl (.none rfl) (by exact Eff1.st T rfl rfl rfl rfl rfl rfl rfl rfl rfl rfl) (by kernel_rfl) (by kernel_rfl) ?_
 refine C.nx (C.ret ?_)
 exact C.g1 (sqR 2 5) T o ⟨({Tick:=st.Tick,Shelves:=x5,Robots:=x6,People:=x7,Dead:=x8,Stuck:=x9:ApiState}),g,rfl,rfl,rfl⟩
theorem Q4T (s_1:ApiSite) (st:ApiState) (robot:Int) (act:Int) (post:ApiState→Prop) (g:WM s_1 st robot act post):
  Tr Tryz.prog 13 [.agg (Q0 s_1),.agg (Q3 st),.i robot,.i act] [] 0 (fun A H' k=>∃y,post y∧A=(.agg [.i y.Tick,.o 0,.o 1,.o 2,.o 3,.o 4])∧H'=[(0,.val (.os 1 eI y.Shelves)),(1,.val (.os 6 Q2 y.Robots)),(2,.val (.os 1 eI y.People)),(3,.val (.os 1 eI y.Dead)),(4,.val (.os 2 Q5 y.Stuck))]∧k=5):=by
 refine Tr.go Tryz.func13 Tryz.ntmps13 fun _ _ _ _ o=>?_
 unfold WM at g
 refine C.ss (U.bx ?_)
 refine U.bx ?_
 refine U.al T ?_
 refine U.done (C.xt (U.ps 1 T rfl (U.k (YD st _ g) en51 (fun x5 g=>?_))))
 refine U.al T ?_
 refine U.st T ?_
 refine U.done (C.xs (C.seq ?_))
 refine C.jn (fun (x6:Bool)=>[(2,.i robot),(3,.i act),(4,.p 0 0),(5,.p 1 0),(8,.p 2 0),(9,.p 3 0),(35,.b x6)]) (fun x6=>[(0,.box (Q0 s_1)),(1,.box (Q3 st)),(2,.box [.i 0,vN,vN,vN,vN,vN]),(3,.box [.i x5.Tick,.o 4,.o 5,.o 6,.o 7,.o 8]),(4,.val (.os 1 eI x5.Shelves)),(5,.val (.os 6 Q2 x5.Robots)),(6,.val (.os 1 eI x5.People)),(7,.val (.os 1 eI x5.Dead)),(8,.val (.os 2 Q5 x5.Stuck))]) 9 g (fun x6 g=>?_) fun J7 g j7=>?_
 refine C.nx ?_
 refine C.ite rfl g (fun b11 g=>?_) fun b11 g=>?_
 refine C.ss (U.ps 1 T rfl (U.st T ?_))
 refine U.done (C.nx (C.ret (C.rt ?_)))
 exact C.g1 (sqR 4 5) T o ⟨x5,g,rfl,rfl,rfl⟩
 refine C.skip (C.xt (U.ps 3 T rfl ?_))
 obtain⟨x16,y16,g⟩:=g
 refine U.r rfl (.none rfl) rfl rfl (by exact Rd.io T rfl rfl rfl rfl rfl rfl rfl y16) ?_
 refine U.pd 1 T (C.xs ?_)
 refine D.bq mix 9999 [1,5] [] (fun hQ hS ws M'=>?_)
 refine D.pq 5 (zl [0,1,2,3,4]) T ?_
 refine D.q 5 [] hQ hS rfl (.none rfl) rfl rfl (by exact Rd.le T rfl rfl rfl (Q6 y16).2.2 rfl rfl rfl) rfl (by kernel_rfl) ?_
 refine D.pq 4 (zl [6,7,8,9]) T ?_
 refine D.q 10 [] hQ hS rfl (.none rfl) rfl rfl (by exact Rd.le T rfl rfl rfl (Q6 y16).2.2 rfl rfl rfl) rfl (by kernel_rfl) ?_
 refine D.pq 1 [(11,[])] T ?_
 refine D.k 12 (YA st.Tick x16.Charge act (decide (x16.Load≥0)) _ g) en47 fun x19 g=>?_
 refine D.pq 5 (zl [13,14,15,16,17]) T ?_
 refine D.done (by kernel_rfl) ?_
 refine C.xs (C.ss (U.pd 2 T (C.nx ?_)))
 refine C.jn (fun (x22:Int)=>[(3,.i act),(4,.p 0 0),(5,.p 1 0),(8,.p 2 0),(9,.p 3 0),(10,.ep 5 6 (Int.toNat robot) 0),(11,.i x22)]) (fun x22=>[(0,.box (Q0 s_1)),(1,.box (Q3 st)),(2,.box [.i 0,vN,vN,vN,vN,vN]),(3,.box [.i x5.Tick,.o 4,.o 5,.o 6,.o 7,.o 8]),(4,.val (.os 1 eI x5.Shelves)),(5,.val (.os 6 Q2 x5.Robots)),(6,.val (.os 1 eI x5.People)),(7,.val (.os 1 eI x5.Dead)),(8,.val (.os 2 Q5 x5.Stuck))]) 9 g (fun x22 g=>?_) fun J23 g j23=>?_
 refine C.xt (U.ps 4 T rfl (U.e1 rfl (.none rfl) (by exact Eff1.se T (z':=({Cell:=x16.Cell,Load:=x16.Load,Charge:=x22,Rest:=x16.Rest,Mute:=x16.Mute,Dead:=x16.Dead:ApiRobot})) rfl rfl rfl (Q6 y16).2.2 rfl rfl rfl rfl rfl rfl rfl rfl (fun _=>rfl) rfl) ?_))
 refine U.done (C.xs (C.ss (U.pd 1 T (C.nx (C.block (C.ss ?_))))))
 refine U.pd 2 T (C.nx ?_)
 refine C.jn (fun (x33:List ApiRobot)=>[(3,.i act),(4,.p 0 0),(8,.p 1 0),(9,.p 2 0),(10,.ep 4 6 (Int.toNat robot) 0)]) (fun x33=>[(0,.box (Q0 s_1)),(1,.box [.i 0,vN,vN,vN,vN,vN]),(2,.box [.i x5.Tick,.o 3,.o 4,.o 5,.o 6,.o 7]),(3,.val (.os 1 eI x5.Shelves)),(4,.val (.os 6 Q2 x33)),(5,.val (.os 1 eI x5.People)),(6,.val (.os 1 eI x5.Dead)),(7,.val (.os 2 Q5 x5.Stuck))]) 8 g (fun x33 g=>?_) fun J34 g j34=>?_
 refine C.bnx (C.xt (U.ps 1 T rfl (U.k (YN act _ g) en46 (fun x48 g=>?_))))
 refine U.pd 5 T (C.xs (C.ss ?_))
 refine U.pd 2 T (C.nx ?_)
 refine C.ite rfl g (fun b51 g=>?_) fun b51 g=>?_
 refine C.ss (U.ps 1 T rfl (U.st T ?_))
 refine U.done (C.nx (C.ret (C.rt ?_)))
 exact C.g1 (sqR 3 5) T o ⟨({Tick:=x5.Tick,Shelves:=x5.Shelves,Robots:=x33,People:=x5.People,Dead:=x5.Dead,Stuck:=x5.Stuck:ApiState}),g,rfl,rfl,rfl⟩
 refine C.skip (C.xs (C.seq (D.bq mix 9999 [0,4] [] (fun hQ hS ws M'=>?_))))
 refine D.pq 5 (zl [0,1,2,3,4]) T ?_
 obtain⟨x56,y56,g⟩:=g
 refine D.q 5 [] hQ hS rfl (.none rfl) rfl rfl (by exact Rd.le T rfl rfl rfl (Q6 y56).2.2 rfl rfl rfl) rfl (by kernel_rfl) ?_
 refine D.pq 1 [(6,[])] T ?_
 refine D.k 7 (W7 s_1.Floor x56.Cell x48.1 _ g) en53 fun x57 g=>?_
 refine D.pq 5 (zl [8,9,10,11,12]) T ?_
 refine D.done (by kernel_rfl) ?_
 refine C.xt (U.pd 1 T (C.nx ?_))
 refine C.jn (fun (x60:List Int×List ApiRobot)=>[(8,.p 0 0),(9,.p 1 0)]) (fun x60=>[(0,.box [.i 0,vN,vN,vN,vN,vN]),(1,.box [.i x5.Tick,.o 2,.o 3,.o 4,.o 5,.o 6]),(2,.val (.os 1 eI x60.1)),(3,.val (.os 6 Q2 x60.2)),(4,.val (.os 1 eI x5.People)),(5,.val (.os 1 eI x5.Dead)),(6,.val (.os 2 Q5 x5.Stuck))]) 7 g (fun x60 g=>?_) fun J61 g j61=>?_
 refine C.xt (U.ps 1 T rfl (U.st T ?_))
 refine U.done (C.nx (C.ret ?_))
 exact C.g1 (sqR 2 5) T o ⟨({Tick:=x5.Tick,Shelves:=x60.1,Robots:=x60.2,People:=x5.People,Dead:=x5.Dead,Stuck:=x5.Stuck:ApiState}),g,rfl,rfl,rfl⟩
 refine C.ite rfl g (fun b62 g=>?_) fun b62 g=>?_
 refine C.ss (U.ps 5 T rfl (U.k (Q00 s_1 x57.1 _ g) en54 (fun x65 g=>?_)))
 refine U.ps 3 T rfl (U.e1 rfl (.none rfl) (by exact Eff1.se T (z':=({Cell:=x57.1,Load:=x56.Load,Charge:=x56.Charge,Rest:=x56.Rest,Mute:=x56.Mute,Dead:=x56.Dead:ApiRobot})) rfl rfl rfl (Q6 y56).2.2 rfl rfl rfl rfl rfl rfl rfl rfl (fun _=>rfl) rfl) ?_)
 refine U.ps 2 T rfl ?_
 refine U.e1 rfl (.none rfl) (by exact Eff1.se T (z':=({Cell:=({Cell:=x57.1,Load:=x56.Load,Charge:=x56.Charge,Rest:=x56.Rest,Mute:=x56.Mute,Dead:=x56.Dead:ApiRobot}).Cell,Load:=({Cell:=x57.1,Load:=x56.Load,Charge:=x56.Charge,Rest:=x56.Rest,Mute:=x56.Mute,Dead:=x56.Dead:ApiRobot}).Load,Charge:=({Cell:=x57.1,Load:=x56.Load,Charge:=x56.Charge,Rest:=x56.Rest,Mute:=x56.Mute,Dead:=x56.Dead:ApiRobot}).Charge,Rest:=w64 (x65-1),Mute:=({Cell:=x57.1,Load:=x56.Load,Charge:=x56.Charge,Rest:=x56.Rest,Mute:=x56.Mute,Dead:=x56.Dead:ApiRobot}).Mute,Dead:=({Cell:=x57.1,Load:=x56.Load,Charge:=x56.Charge,Rest:=x56.Rest,Mute:=x56.Mute,Dead:=x56.Dead:ApiRobot}).Dead:ApiRobot})) rfl rfl rfl (Gq (Q6 y56).2.2) rfl rfl rfl rfl rfl rfl rfl rfl (fun _=>rfl) rfl) ?_
 refine U.done (C.xt (U.ps 3 T rfl (U.r rfl (.none rfl) rfl rfl (by exact Rd.le T rfl rfl rfl (Gq (Gq (Q6 y56).2.2)) rfl rfl rfl) ?_)))
 refine U.pd 1 T (C.nx ?_)
 refine C.jn (fun (x68:List Int)=>[(8,.p 0 0),(9,.p 1 0)]) (fun x68=>[(0,.box [.i 0,vN,vN,vN,vN,vN]),(1,.box [.i x5.Tick,.o 2,.o 3,.o 4,.o 5,.o 6]),(2,.val (.os 1 eI x68)),(3,.val (.os 6 Q2 ((x33.set (Int.toNat robot) ({Cell:=x57.1,Load:=x56.Load,Charge:=x56.Charge,Rest:=x56.Rest,Mute:=x56.Mute,Dead:=x56.Dead:ApiRobot})).set (Int.toNat robot) ({Cell:=({Cell:=x57.1,Load:=x56.Load,Charge:=x56.Charge,Rest:=x56.Rest,Mute:=x56.Mute,Dead:=x56.Dead:ApiRobot}).Cell,Load:=({Cell:=x57.1,Load:=x56.Load,Charge:=x56.Charge,Rest:=x56.Rest,Mute:=x56.Mute,Dead:=x56.Dead:ApiRobot}).Load,Charge:=({Cell:=x57.1,Load:=x56.Load,Charge:=x56.Charge,Rest:=x56.Rest,Mute:=x56.Mute,Dead:=x56.Dead:ApiRobot}).Charge,Rest:=w64 (x65-1),Mute:=({Cell:=x57.1,Load:=x56.Load,Charge:=x56.Charge,Rest:=x56.Rest,Mute:=x56.Mute,Dead:=x56.Dead:ApiRobot}).Mute,Dead:=({Cell:=x57.1,Load:=x56.Load,Charge:=x56.Charge,Rest:=x56.Rest,Mute:=x56.Mute,Dead:=x56.Dead:ApiRobot}).Dead:ApiRobot})))),(4,.val (.os 1 eI x5.People)),(5,.val (.os 1 eI x5.Dead)),(6,.val (.os 2 Q5 x5.Stuck))]) 7 g (fun x68 g=>?_) fun J69 g j69=>?_
 exact St.wa (idR 7) (j61 _ g)
 refine C.ite rfl g (fun b70 g=>?_) fun b70 g=>?_
 refine D.bq mix 8 [2,4] [] (fun hQ hS ws M'=>?_)
 refine D.pq 5 (zl [0,1,2,3,4]) T ?_
 refine D.q 5 [] hQ hS rfl (.none rfl) rfl rfl (by exact Rd.le T rfl rfl rfl (Gq (Gq (Q6 y56).2.2)) rfl rfl rfl) rfl (by kernel_rfl) ?_
 refine D.pq 1 [(6,[])] T ?_
 obtain⟨x73,y73,g⟩:=g
 refine D.q 7 [] hQ hS rfl (.none rfl) rfl rfl (by exact Rd.io T rfl rfl rfl rfl rfl rfl rfl y73) rfl (by kernel_rfl) ?_
 refine D.ze1 rfl (.none rfl) (by exact Eff1.se T (z':=x57.1) rfl rfl rfl (Q6 y73).2.2 rfl rfl rfl rfl rfl rfl rfl rfl (fun _=>rfl) rfl) (by kernel_rfl) (by kernel_rfl) ?_
 exact St.wa (sqR 1 7) (j69 _ g)
 refine C.skip ?_
 exact St.wa (sqR 1 7) (j69 _ g)
 refine C.skip ?_
 exact St.wa (sqR 1 7) (j61 _ g)
 refine C.ite rfl g (fun b35 g=>?_) fun b35 g=>?_
 refine D.bq mix 10 [0,1,5] [] (fun hQ hS ws M'=>?_)
 refine D.pq 6 (zl [0,1,2,3,4,5]) T ?_
 refine D.q 6 [] hQ hS rfl (.none rfl) rfl rfl (by exact Rd.le T rfl rfl rfl (Gq (Q6 y16).2.2) rfl rfl rfl) rfl (by kernel_rfl) ?_
 refine D.k 7 (Q2g s_1 st (({Cell:=x16.Cell,Load:=x16.Load,Charge:=x22,Rest:=x16.Rest,Mute:=x16.Mute,Dead:=x16.Dead:ApiRobot}).Cell) _ g) en52 fun x38 g=>?_
 refine D.pq 2 [(8,[9]),(9,[])] T ?_
 refine D.ze1 rfl (.none rfl) (by exact Eff1.se T (z':=({Cell:=({Cell:=x16.Cell,Load:=x16.Load,Charge:=x22,Rest:=x16.Rest,Mute:=x16.Mute,Dead:=x16.Dead:ApiRobot}).Cell,Load:=x38,Charge:=({Cell:=x16.Cell,Load:=x16.Load,Charge:=x22,Rest:=x16.Rest,Mute:=x16.Mute,Dead:=x16.Dead:ApiRobot}).Charge,Rest:=({Cell:=x16.Cell,Load:=x16.Load,Charge:=x22,Rest:=x16.Rest,Mute:=x16.Mute,Dead:=x16.Dead:ApiRobot}).Rest,Mute:=({Cell:=x16.Cell,Load:=x16.Load,Charge:=x22,Rest:=x16.Rest,Mute:=x16.Mute,Dead:=x16.Dead:ApiRobot}).Mute,Dead:=({Cell:=x16.Cell,Load:=x16.Load,Charge:=x22,Rest:=x16.Rest,Mute:=x16.Mute,Dead:=x16.Dead:ApiRobot}).Dead:ApiRobot})) rfl rfl rfl (Gq (Q6 y16).2.2) rfl rfl rfl rfl rfl rfl rfl rfl (fun _=>rfl) rfl) (by kernel_rfl) (by kernel_rfl) ?_
 exact St.wa [some 0,some 2,some 3,some 4,some 5,some 6,some 7,some 8] (j34 _ g)
 refine C.ss (U.pd 2 T (C.nx ?_))
 refine C.jn (fun (x41:List ApiRobot)=>[(3,.i act),(4,.p 0 0),(8,.p 1 0),(9,.p 2 0),(10,.ep 4 6 (Int.toNat robot) 0)]) (fun x41=>[(0,.box (Q0 s_1)),(1,.box [.i 0,vN,vN,vN,vN,vN]),(2,.box [.i x5.Tick,.o 3,.o 4,.o 5,.o 6,.o 7]),(3,.val (.os 1 eI x5.Shelves)),(4,.val (.os 6 Q2 x41)),(5,.val (.os 1 eI x5.People)),(6,.val (.os 1 eI x5.Dead)),(7,.val (.os 2 Q5 x5.Stuck))]) 8 g (fun x41 g=>?_) fun J42 g j42=>?_
 exact St.wa (idR 8) (j34 _ g)
 refine C.ite rfl g (fun b43 g=>?_) fun b43 g=>?_
 refine U.start (U.ps 3 T rfl ?_)
 refine U.e1 rfl (.none rfl) (by exact Eff1.se T (z':=({Cell:=({Cell:=x16.Cell,Load:=x16.Load,Charge:=x22,Rest:=x16.Rest,Mute:=x16.Mute,Dead:=x16.Dead:ApiRobot}).Cell,Load:=(-1),Charge:=({Cell:=x16.Cell,Load:=x16.Load,Charge:=x22,Rest:=x16.Rest,Mute:=x16.Mute,Dead:=x16.Dead:ApiRobot}).Charge,Rest:=({Cell:=x16.Cell,Load:=x16.Load,Charge:=x22,Rest:=x16.Rest,Mute:=x16.Mute,Dead:=x16.Dead:ApiRobot}).Rest,Mute:=({Cell:=x16.Cell,Load:=x16.Load,Charge:=x22,Rest:=x16.Rest,Mute:=x16.Mute,Dead:=x16.Dead:ApiRobot}).Mute,Dead:=({Cell:=x16.Cell,Load:=x16.Load,Charge:=x22,Rest:=x16.Rest,Mute:=x16.Mute,Dead:=x16.Dead:ApiRobot}).Dead:ApiRobot})) rfl rfl rfl (Gq (Q6 y16).2.2) rfl rfl rfl rfl rfl rfl rfl rfl (fun _=>rfl) rfl) ?_
 refine U.done ?_
 exact St.wa [some 0,some 2,some 3,some 4,some 5,some 6,some 7,some 8] (j42 _ g)
 refine C.skip ?_
 exact St.wa [some 0,some 2,some 3,some 4,some 5,some 6,some 7,some 8] (j42 _ g)
 refine C.ite rfl g (fun b24 g=>?_) fun b24 g=>?_
 refine U.start (U.pd 1 T ?_)
 exact St.wa (idR 9) (j23 _ g)
 refine C.skip ?_
 exact St.wa (idR 9) (j23 _ g)
 refine U.start (U.ps 3 T rfl ?_)
 refine g.cs (fun b8 g=>?_) fun b8 g=>?_
 refine U.sk' 5 2 false 21 b8 ?_
 refine U.pk b8 ?_
 refine U.ps 1 T rfl (U.sk' 6 9 false 28 rfl ?_)
 refine U.pk rfl ?_
 refine U.done ?_
 exact St.wa [some 0,some 1,some 2,some 8,some 3,some 4,some 5,some 6,some 7] (j7 _ g)
 refine U.pq 5 2 false 21 b8 T ?_
 refine U.pk' b8 ?_
 refine U.ps 1 T rfl ?_
 refine g.cs (fun b9 g=>?_) fun b9 g=>?_
 refine U.sk' 6 9 false 28 b9 ?_
 refine U.pk b9 ?_
 refine U.done ?_
 exact St.wa [some 0,some 1,some 2,some 8,some 3,some 4,some 5,some 6,some 7] (j7 _ g)
 refine U.pq 3 9 false 28 b9 T ?_
 obtain⟨x10,y10,g⟩:=g
 refine U.r rfl (.tk 9 false 28 b9) rfl rfl (by exact Rd.io T rfl rfl rfl rfl rfl rfl rfl y10) ?_
 refine U.pq 1 9 false 28 b9 T ?_
 refine U.r rfl (.tk 9 false 28 b9) rfl rfl (by exact Rd.le T rfl rfl rfl (Q6 y10).2.2 rfl rfl rfl) ?_
 refine U.pk' b9 ?_
 refine U.done ?_
 exact St.wa [some 0,some 1,some 2,some 8,some 3,some 4,some 5,some 6,some 7] (j7 _ g)
theorem Q2w (s_1:ApiSite) (st:ApiState) (acts:List Int) (post:Int→Prop) (g:Gn s_1 st acts post):
  Tr Tryz.prog 130 [.agg (Q0 s_1),.agg (Q3 st),.sl 1 eI acts] [] 0 (pI post):=by
 refine Tr.go Tryz.func130 Tryz.ntmps130 fun _ _ _ _ o=>?_
 unfold Gn at g
 refine C.ss (U.bx ?_)
 refine U.bx ?_
 refine U.pd 1 T (C.xs (C.block (C.ss ?_)))
 refine U.pd 4 T (C.nx ?_)
 refine C.ite rfl g (fun b5 g=>?_) fun b5 g=>?_
 refine C.ss (U.pd 1 T (C.nx (C.ret (C.brt (C.rt ?_)))))
 exact C.f1 T o (pIi g)
 refine C.ss (U.pd 7 T (C.nx ?_))
 refine C.ite rfl g (fun b10 g=>?_) fun b10 g=>?_
 refine C.ss (U.pd 1 T (C.nx (C.ret (C.brt (C.rt ?_)))))
 exact C.f1 T o (pIi g)
 refine C.skip (C.bnx (C.xs (C.ss (U.pd 3 T (C.nx ?_)))))
 refine C.jn (fun (x15:Unit)=>[(2,.sl 1 eI acts),(3,.p 0 0),(4,.p 1 0)]) (fun x15=>[(0,.box (Q0 s_1)),(1,.box (Q3 st))]) 2 g (fun x15 g=>?_) fun J16 g j16=>?_
 refine C.xs (C.ss (U.ps 4 T rfl (U.k (Q2L s_1.Floor st acts _ g) Qaa (fun x37 g=>?_))))
 refine U.k (Q0K x37 _ g) en43 fun x38 g=>?_
 refine U.pd 5 T (C.xt ?_)
 refine U.pd 1 T (C.nx ?_)
 refine C.ite rfl g (fun b41 g=>?_) fun b41 g=>?_
 refine C.ss (U.pd 1 T (C.nx (C.ret (C.rt ?_))))
 exact C.f1 T o (pIi g)
 refine C.skip (C.xs (C.ss (U.pd 3 T (C.nx ?_))))
 refine C.jn (fun (x46:Unit)=>[]) (fun x46=>[]) 0 g (fun x46 g=>?_) fun J47 g j47=>?_
 refine C.xt (U.pd 1 T (C.nx (C.ret ?_)))
 exact C.f1 T o (pIi g)
 refine C.block ?_
 refine St.wk (C.loop (fun (s48:Int×List Int×List ApiRobot×List Int×List Int×List ApiStuck×Int)=>[(3,.p 0 0),(4,.p 1 0),(52,.sl 1 eI acts),(53,.i (acts.length:Int)),(54,.i s48.2.2.2.2.2.2)]) (fun s48=>[(0,.box (Q0 s_1)),(1,.box [.i s48.1,.sl 1 eI s48.2.1,.sl 6 Q2 s48.2.2.1,.sl 1 eI s48.2.2.2.1,.sl 1 eI s48.2.2.2.2.1,.sl 2 Q5 s48.2.2.2.2.2.1])]) g (fun s48 Y49 g=>?_)) (Wk.a (idR 2))
 refine C.ss (U.pd 1 T (C.xs ?_))
 refine C.ite rfl g (fun b52 g=>?_) fun b52 g=>?_
 refine C.skip (C.xs (C.block (C.ss (U.ps 1 T rfl ?_))))
 obtain⟨x55,y55,g⟩:=g
 refine U.ix T y55 ?_
 refine U.pd 3 T (C.xs (C.ss ?_))
 refine U.ps 4 T rfl (U.k (ZL s_1 ({Tick:=s48.1,Shelves:=s48.2.1,Robots:=s48.2.2.1,People:=s48.2.2.2.1,Dead:=s48.2.2.2.2.1,Stuck:=s48.2.2.2.2.2.1:ApiState}) s48.2.2.2.2.2.2 x55 _ g) en12 (fun x58 g=>?_))
 refine U.pd 1 T (C.xt ?_)
 refine U.pd 2 T (C.nx ?_)
 refine C.ite rfl g (fun b61 g=>?_) fun b61 g=>?_
 refine C.ss (U.pd 2 T (C.nx (C.ret (C.rt (C.brt (C.rt (C.rt (C.brt (C.rt ?_)))))))))
 exact C.f1 T o (pIi g)
 refine C.skip (C.nx (U.start (U.ps 4 T rfl (U.k (Q4T s_1 ({Tick:=s48.1,Shelves:=s48.2.1,Robots:=s48.2.2.1,People:=s48.2.2.2.1,Dead:=s48.2.2.2.2.1,Stuck:=s48.2.2.2.2.2.1:ApiState}) s48.2.2.2.2.2.2 x55 _ g) en13 (fun x66 g=>?_)))))
 refine U.st T ?_
 refine U.done (C.bnx (C.nx (U.start (U.pd 2 T (C.nx ?_)))))
 exact St.wk (C.next g) (Wk.mk' [some 0,some 1] rfl rfl (.eqs rfl) ⟨bX,⟨_,rfl,.box rfl (.cons (.eq rfl) (.cons (.fz rfl rfl rfl (.os fun _=>.cons (.ro rfl) .nil)) (.cons (.fz rfl rfl rfl (.os fun _=>.cons (.ro rfl) (.cons (.ro rfl) (.cons (.ro rfl) (.cons (.ro rfl) (.cons (.ro rfl) (.cons (.ro rfl) .nil))))))) (.cons (.fz rfl rfl rfl (.os fun _=>.cons (.ro rfl) .nil)) (.cons (.fz rfl rfl rfl (.os fun _=>.cons (.ro rfl) .nil)) (.cons (.fz rfl rfl rfl (.os fun _=>.cons (.ro rfl) (.cons (.ro rfl) .nil))) .nil))))))⟩,trivial⟩ rfl)
 refine C.exit (C.ex (C.ex (C.bex ?_)))
 exact St.wk (j47 _ g) (Wk.mk' [] rfl rfl trivial trivial rfl)
 refine C.block (St.wk (C.loop (fun (s17:Int)=>[(2,.sl 1 eI acts),(3,.p 0 0),(4,.p 1 0),(26,.sl 1 eI acts),(27,.i (acts.length:Int)),(28,.i s17)]) (fun s17=>[(0,.box (Q0 s_1)),(1,.box (Q3 st))]) g (fun s17 Y18 g=>?_)) (Wk.a (idR 2)))
 refine C.ss (U.pd 1 T (C.xs ?_))
 refine C.ite rfl g (fun b21 g=>?_) fun b21 g=>?_
 refine C.skip (C.xs (C.block (C.ss (U.ps 1 T rfl ?_))))
 obtain⟨x24,y24,g⟩:=g
 refine U.ix T y24 ?_
 refine U.pd 3 T (C.xt ?_)
 refine U.ps 4 T rfl (U.k (ZL s_1 st s17 x24 _ g) en12 (fun x27 g=>?_))
 refine U.pd 1 T (C.xt ?_)
 refine U.pd 2 T (C.nx ?_)
 refine C.ite rfl g (fun b30 g=>?_) fun b30 g=>?_
 refine C.ss (U.pd 2 T (C.nx (C.ret (C.brt (C.rt (C.rt (C.brt (C.rt ?_))))))))
 exact C.f1 T o (pIi g)
 refine C.skip (C.bnx (C.nx (U.start (U.pd 2 T (C.nx ?_)))))
 exact St.wk (C.next g) (Wk.a (idR 2))
 refine C.exit (C.ex (C.ex (C.bex ?_)))
 exact St.wa (idR 2) (j16 _ g)
theorem Q0M (st:ApiState) (i:Int) (post:Bool→Prop) (g:Gc st i post):
  Tr Tryz.prog 185 [.agg (Q3 st),.i i] [] 0 (pB post):=by
 refine Tr.go Tryz.func185 Tryz.ntmps185 fun _ _ _ _ o=>?_
 unfold Gc at g
 refine C.ss (U.bx ?_)
 refine U.pd 1 T (C.xs ?_)
 refine C.jn (fun (x3:Bool)=>[(4,.b x3)]) (fun x3=>[]) 0 g (fun x3 g=>?_) fun J4 g j4=>?_
 refine C.nx (C.ret ?_)
 exact C.f1 T o (pBi g)
 refine U.start (U.ps 3 T rfl ?_)
 refine g.cs (fun b5 g=>?_) fun b5 g=>?_
 refine U.pq 5 2 true 7 b5 T ?_
 refine U.pk b5 ?_
 refine U.ps 1 T rfl ?_
 refine g.cs (fun b6 g=>?_) fun b6 g=>?_
 refine U.pq 3 9 true 14 b6 T ?_
 obtain⟨x7,y7,g⟩:=g
 refine U.r rfl (.tk 9 true 14 b6) rfl rfl (by exact Rd.ix T rfl rfl rfl rfl rfl rfl y7) ?_
 refine U.pq 3 9 true 14 b6 T ?_
 refine U.pk b6 ?_
 refine U.pd 1 T ?_
 exact St.wn (j4 _ g)
 refine U.sk' 7 9 true 14 b6 ?_
 refine U.pk' b6 ?_
 refine U.pd 1 T ?_
 exact St.wn (j4 _ g)
 refine U.sk' 5 2 true 7 b5 ?_
 refine U.pk' b5 ?_
 refine U.ps 1 T rfl (U.sk' 7 9 true 14 rfl ?_)
 refine U.pk' rfl ?_
 refine U.pd 1 T ?_
 exact St.wn (j4 _ g)
theorem YE (f:ApiFloor) (c:Int) (post:Int→Prop) (g:XM f c post):
  Tr Tryz.prog 186 [.agg (Qr f),.i c] [] 0 (pI post):=by
 refine Tr.go Tryz.func186 Tryz.ntmps186 fun _ _ _ _ o=>?_
 unfold XM at g
 refine C.ss (U.bx ?_)
 refine U.pd 1 T (C.xs (C.seq ?_))
 refine C.jn (fun (x3:Bool)=>[(1,.i c),(2,.p 0 0),(13,.b x3)]) (fun x3=>[(0,.box (Qr f))]) 1 g (fun x3 g=>?_) fun J4 g j4=>?_
 refine C.nx ?_
 refine C.ite rfl g (fun b6 g=>?_) fun b6 g=>?_
 refine C.ss (U.pd 1 T (C.nx (C.ret (C.rt ?_))))
 exact C.f1 T o (pIi g)
 refine C.skip (C.xt (U.ps 3 T rfl ?_))
 obtain⟨x11,y11,g⟩:=g
 refine U.ix T y11 ?_
 refine U.pd 2 T (C.nx (C.ret ?_))
 exact C.f1 T o (pIi g)
 refine U.start (U.ps 3 T rfl ?_)
 refine g.cs (fun b5 g=>?_) fun b5 g=>?_
 refine U.sk' 5 2 false 7 b5 ?_
 refine U.pk b5 ?_
 refine U.done ?_
 exact St.wa [some 0] (j4 _ g)
 refine U.pq 5 2 false 7 b5 T ?_
 refine U.pk' b5 ?_
 refine U.done ?_
 exact St.wa [some 0] (j4 _ g)
theorem Q2G (s_1:ApiSite) (st:ApiState) (person:Int) (c:Int) (post:Bool→Prop) (g:Gk s_1 st person c post):
  Tr Tryz.prog 187 [.agg (Q0 s_1),.agg (Q3 st),.i person,.i c] [] 0 (pB post):=by
 refine Tr.go Tryz.func187 Tryz.ntmps187 fun _ _ _ _ o=>?_
 unfold Gk at g
 refine C.ss (U.bx ?_)
 refine U.bx ?_
 refine U.pd 1 T (C.xt ?_)
 refine U.ps 3 T rfl (U.k (YE s_1.Floor c _ g) Q7S (fun x5 g=>?_))
 refine U.pd 1 T (C.xs (C.seq ?_))
 refine C.jn (fun (x6:Bool)=>[(2,.i person),(3,.i c),(4,.p 0 0),(5,.p 1 0),(9,.i x5),(21,.b x6)]) (fun x6=>[(0,.box (Q0 s_1)),(1,.box (Q3 st))]) 2 g (fun x6 g=>?_) fun J7 g j7=>?_
 refine C.nx ?_
 refine C.ite rfl g (fun b9 g=>?_) fun b9 g=>?_
 refine C.ss (U.pd 1 T (C.nx (C.ret (C.rt ?_))))
 exact C.f1 T o (pBi g)
 refine C.skip (C.xs (C.ss (U.ps 1 T rfl (U.k (Q2d st _ g) Q8r (fun x14 g=>?_)))))
 refine U.pd 2 T (C.nx ?_)
 refine C.jn (fun (x15:Unit)=>[(2,.i person),(3,.i c),(4,.p 0 0),(5,.p 1 0),(9,.i x5)]) (fun x15=>[(0,.box (Q0 s_1)),(1,.box (Q3 st))]) 2 g (fun x15 g=>?_) fun J16 g j16=>?_
 refine C.xs (C.ss (U.pd 5 T (C.nx ?_)))
 refine C.ite rfl g (fun b37 g=>?_) fun b37 g=>?_
 refine C.seq ?_
 refine C.jn (fun (x38:Bool)=>[(8,.b x38)]) (fun x38=>[]) 0 g (fun x38 g=>?_) fun J39 g j39=>?_
 refine C.nx (C.ret (C.rt ?_))
 exact C.f1 T o (pBi g)
 refine U.start (U.ps 3 T rfl ?_)
 refine g.cs (fun b40 g=>?_) fun b40 g=>?_
 refine U.pq 2 2 true 47 b40 T ?_
 refine U.pk b40 ?_
 refine U.pd 1 T ?_
 exact St.wn (j39 _ g)
 refine U.sk' 2 2 true 47 b40 ?_
 refine U.pk' b40 ?_
 refine U.pd 1 T ?_
 exact St.wn (j39 _ g)
 refine C.skip (C.xs ?_)
 refine C.jn (fun (x41:Bool)=>[(8,.b x41)]) (fun x41=>[]) 0 g (fun x41 g=>?_) fun J42 g j42=>?_
 refine C.nx (C.ret ?_)
 exact C.f1 T o (pBi g)
 refine D.bq mix 9999 [0,1] [] (fun hQ hS ws M'=>?_)
 refine D.pq 3 (zl [0,1,2]) T ?_
 refine g.cs (fun b43 g=>?_) fun b43 g=>?_
 refine D.pt 3 [] 2 true 53 b43 T ?_
 refine D.pt 4 [] 2 true 53 b43 T ?_
 refine D.q 5 [] hQ hS rfl (.tk 2 true 53 b43) rfl rfl (by exact Rd.l T rfl rfl rfl) rfl (by kernel_rfl) ?_
 refine D.pt 6 [] 2 true 53 b43 T ?_
 refine D.pt 7 [] 2 true 53 b43 T ?_
 refine D.kt 8 [] b43 ?_
 refine D.pq 1 [(9,[])] T ?_
 refine g.cs (fun b44 g=>?_) fun b44 g=>?_
 refine D.pt 10 [] 9 true 60 b44 T ?_
 refine D.q 11 [] hQ hS rfl (.tk 9 true 60 b44) rfl rfl (by exact Rd.l T rfl rfl rfl) rfl (by kernel_rfl) ?_
 refine D.pt 12 [] 9 true 60 b44 T ?_
 refine D.q 13 [] hQ hS rfl (.tk 9 true 60 b44) rfl rfl (by exact Rd.l T rfl rfl rfl) rfl (by kernel_rfl) ?_
 refine D.pt 14 [] 9 true 60 b44 T ?_
 obtain⟨x45,y45,g⟩:=g
 refine D.q 15 [] hQ hS rfl (.tk 9 true 60 b44) rfl rfl (by exact Rd.ix T rfl rfl rfl rfl rfl rfl y45) rfl (by kernel_rfl) ?_
 refine D.q 16 [] hQ hS rfl (.tk 9 true 60 b44) rfl rfl (by exact Rd.l T rfl rfl rfl) rfl (by kernel_rfl) ?_
 refine D.pt 17 [] 9 true 60 b44 T ?_
 refine D.k 18 (Q0R s_1.Floor x45 c _ g) Q8A (fun x46 g=>?_) (hw:=.take 9 true 60 _ b44 rfl rfl rfl)
 refine D.kt 19 [] b44 ?_
 refine D.pq 1 [(20,[])] T ?_
 refine D.done (by kernel_rfl) ?_
 exact St.wn (j42 _ g)
 refine D.sz 10 [] 9 true 60 b44 ?_
 refine D.sz 11 [] 9 true 60 b44 ?_
 refine D.sz 12 [] 9 true 60 b44 ?_
 refine D.sz 13 [] 9 true 60 b44 ?_
 refine D.sz 14 [] 9 true 60 b44 ?_
 refine D.sz 15 [] 9 true 60 b44 ?_
 refine D.sz 16 [] 9 true 60 b44 ?_
 refine D.sz 17 [] 9 true 60 b44 ?_
 refine D.sz 18 [] 9 true 60 b44 ?_
 refine D.kf 19 [] b44 ?_
 refine D.pq 1 [(20,[])] T ?_
 refine D.done (by kernel_rfl) ?_
 exact St.wn (j42 _ g)
 refine D.sz 3 [] 2 true 53 b43 ?_
 refine D.sz 4 [] 2 true 53 b43 ?_
 refine D.sz 5 [] 2 true 53 b43 ?_
 refine D.sz 6 [] 2 true 53 b43 ?_
 refine D.sz 7 [] 2 true 53 b43 ?_
 refine D.kf 8 [] b43 ?_
 refine D.pq 1 [(9,[])] T ?_
 refine D.sz 10 [] 9 true 60 rfl ?_
 refine D.sz 11 [] 9 true 60 rfl ?_
 refine D.sz 12 [] 9 true 60 rfl ?_
 refine D.sz 13 [] 9 true 60 rfl ?_
 refine D.sz 14 [] 9 true 60 rfl ?_
 refine D.sz 15 [] 9 true 60 rfl ?_
 refine D.sz 16 [] 9 true 60 rfl ?_
 refine D.sz 17 [] 9 true 60 rfl ?_
 refine D.sz 18 [] 9 true 60 rfl ?_
 refine D.kf 19 [] rfl ?_
 refine D.pq 1 [(20,[])] T ?_
 refine D.done (by kernel_rfl) ?_
 exact St.wn (j42 _ g)
 refine C.block (St.wk (C.loop (fun (s17:Int)=>[(2,.i person),(3,.i c),(4,.p 0 0),(5,.p 1 0),(9,.i x5),(23,.o 2),(24,.i (x14.length:Int)),(25,.i s17)]) (fun s17=>[(0,.box (Q0 s_1)),(1,.box (Q3 st)),(2,.val (.os 1 eI x14))]) g (fun s17 Y18 g=>?_)) (Wk.a (idR 3)))
 refine C.ss (U.pd 1 T (C.xs ?_))
 refine C.ite rfl g (fun b21 g=>?_) fun b21 g=>?_
 refine C.skip (C.xs (C.block (C.ss ?_)))
 obtain⟨x24,y24,g⟩:=g
 refine U.r rfl (.none rfl) rfl rfl (by exact Rd.io T rfl rfl rfl rfl rfl rfl rfl y24) ?_
 refine U.r rfl (.none rfl) rfl rfl (by exact Rd.le T rfl rfl rfl (Q6 y24).2.2 rfl rfl rfl) ?_
 refine U.pd 1 T (C.xs ?_)
 refine C.jn (fun (x25:Bool)=>[(2,.i person),(3,.i c),(4,.p 0 0),(5,.p 1 0),(9,.i x5),(23,.o 2),(24,.i (x14.length:Int)),(25,.i s17),(38,.b x25)]) (fun x25=>[(0,.box (Q0 s_1)),(1,.box (Q3 st)),(2,.val (.os 1 eI x14))]) 3 g (fun x25 g=>?_) fun J26 g j26=>?_
 refine C.nx ?_
 refine C.ite rfl g (fun b30 g=>?_) fun b30 g=>?_
 refine C.ss (U.pd 1 T (C.nx (C.ret (C.brt (C.rt (C.rt (C.brt (C.rt ?_))))))))
 exact C.f1 T o (pBi g)
 refine C.skip (C.bnx (C.nx (U.start (U.pd 2 T (C.nx ?_)))))
 exact St.wk (C.next g) (Wk.a (idR 3))
 refine U.start (U.ps 2 T rfl (U.k (Yd c _ g) Q6l (fun x27 g=>?_)))
 refine U.ps 2 T rfl ?_
 refine g.cs (fun b28 g=>?_) fun b28 g=>?_
 refine U.sk' 4 4 false 33 b28 ?_
 refine U.pk b28 ?_
 refine U.done ?_
 exact St.wa (idR 3) (j26 _ g)
 refine U.pq 2 4 false 33 b28 T ?_
 refine U.k (Wv c _ g) Q5G (fun x29 g=>?_) (hw:=.take 4 false 33 _ b28 rfl rfl rfl)
 refine U.pq 1 4 false 33 b28 T ?_
 refine U.pk' b28 ?_
 refine U.done ?_
 exact St.wa (idR 3) (j26 _ g)
 refine C.exit (C.ex (C.ex (C.bex ?_)))
 exact St.wa (idR 2) (j16 _ g)
 refine U.start (U.ps 3 T rfl ?_)
 refine g.cs (fun b8 g=>?_) fun b8 g=>?_
 refine U.pq 2 2 true 18 b8 T ?_
 refine U.pk b8 ?_
 refine U.done ?_
 exact St.wa (idR 2) (j7 _ g)
 refine U.sk' 2 2 true 18 b8 ?_
 refine U.pk' b8 ?_
 refine U.done ?_
 exact St.wa (idR 2) (j7 _ g)
theorem Ys (s_1:ApiSite) (st:ApiState) (f:QM) (post:Int→Prop) (g:KM s_1 st f post):
  Tr Tryz.prog 131 [.agg (Q0 s_1),.agg (Q3 st),.agg (Z4 f)] [] 0 (pI post):=by
 refine Tr.go Tryz.func131 Tryz.ntmps131 fun _ _ _ _ o=>?_
 unfold KM at g
 refine C.ss (U.bx ?_)
 refine U.bx ?_
 refine U.bx ?_
 refine U.pd 1 T (C.xt ?_)
 refine U.pd 1 T (C.xs ?_)
 refine C.jn (fun (x5:Bool)=>[(3,.p 0 0),(4,.p 1 0),(5,.p 2 0),(7,.b false),(8,.b x5)]) (fun x5=>[(0,.box (Q0 s_1)),(1,.box (Q3 st)),(2,.box (Z4 f))]) 3 g (fun x5 g=>?_) fun J6 g j6=>?_
 refine C.xs (C.ss (U.pd 2 T (C.nx (C.block (C.ss ?_)))))
 refine U.pd 2 T (C.nx ?_)
 refine C.jn (fun (x12:Bool)=>[(7,.b x12)]) (fun x12=>[]) 0 g (fun x12 g=>?_) fun J13 g j13=>?_
 refine C.bnx (C.xs (C.ss (U.pd 2 T (C.nx ?_))))
 refine C.ite rfl g (fun b63 g=>?_) fun b63 g=>?_
 refine C.ss (U.pd 1 T (C.nx (C.ret (C.rt ?_))))
 exact C.f1 T o (pIi g)
 refine C.skip (C.xt (U.pd 1 T (C.nx (C.ret ?_))))
 exact C.f1 T o (pIi g)
 refine C.ite rfl g (fun b14 g=>?_) fun b14 g=>?_
 refine U.start (U.pd 1 T ?_)
 exact St.wn (j13 _ g)
 refine C.ss (U.pd 2 T (C.nx ?_))
 refine C.jn (fun (x19:Bool)=>[(7,.b x19)]) (fun x19=>[]) 0 g (fun x19 g=>?_) fun J20 g j20=>?_
 exact St.wn (j13 _ g)
 refine C.ite rfl g (fun b21 g=>?_) fun b21 g=>?_
 refine U.start (U.ps 3 T rfl (U.k (Q0M st f.A _ g) Q8B (fun x24 g=>?_)))
 refine U.pd 1 T ?_
 exact St.wn (j20 _ g)
 refine C.ss (U.pd 2 T (C.nx ?_))
 refine C.jn (fun (x27:Bool)=>[(7,.b x27)]) (fun x27=>[]) 0 g (fun x27 g=>?_) fun J28 g j28=>?_
 exact St.wn (j20 _ g)
 refine C.ite rfl g (fun b29 g=>?_) fun b29 g=>?_
 refine C.jn (fun (x30:Bool)=>[(7,.b x30)]) (fun x30=>[]) 0 g (fun x30 g=>?_) fun J31 g j31=>?_
 exact St.wn (j28 _ g)
 refine U.start (U.ps 4 T rfl (U.k (YE s_1.Floor f.A _ g) Q7S (fun x32 g=>?_)))
 refine U.ps 2 T rfl ?_
 refine g.cs (fun b33 g=>?_) fun b33 g=>?_
 refine U.pq 4 6 true 35 b33 T ?_
 refine U.k (QO st.Dead f.A _ g) en89 (fun x34 g=>?_) (hw:=.take 6 true 35 _ b33 rfl rfl rfl)
 refine U.pq 1 6 true 35 b33 T ?_
 refine U.pk b33 ?_
 refine U.pd 1 T ?_
 exact St.wn (j31 _ g)
 refine U.sk' 6 6 true 35 b33 ?_
 refine U.pk' b33 ?_
 refine U.pd 1 T ?_
 exact St.wn (j31 _ g)
 refine C.ss (U.pd 2 T (C.nx ?_))
 refine C.jn (fun (x37:Bool)=>[(7,.b x37)]) (fun x37=>[]) 0 g (fun x37 g=>?_) fun J38 g j38=>?_
 exact St.wn (j28 _ g)
 refine C.ite rfl g (fun b39 g=>?_) fun b39 g=>?_
 refine C.jn (fun (x40:Bool)=>[(7,.b x40)]) (fun x40=>[]) 0 g (fun x40 g=>?_) fun J41 g j41=>?_
 exact St.wn (j38 _ g)
 refine U.start (U.ps 3 T rfl (U.k (Q0M st f.A _ g) Q8B (fun x42 g=>?_)))
 refine U.ps 1 T rfl ?_
 refine g.cs (fun b43 g=>?_) fun b43 g=>?_
 refine U.pq 1 4 true 49 b43 T ?_
 refine U.pk b43 ?_
 refine U.pd 1 T ?_
 exact St.wn (j41 _ g)
 refine U.sk' 1 4 true 49 b43 ?_
 refine U.pk' b43 ?_
 refine U.pd 1 T ?_
 exact St.wn (j41 _ g)
 refine C.ss (U.pd 2 T (C.nx ?_))
 refine C.jn (fun (x46:Bool)=>[(7,.b x46)]) (fun x46=>[]) 0 g (fun x46 g=>?_) fun J47 g j47=>?_
 exact St.wn (j38 _ g)
 refine C.ite rfl g (fun b48 g=>?_) fun b48 g=>?_
 refine C.jn (fun (x49:Bool)=>[(7,.b x49)]) (fun x49=>[]) 0 g (fun x49 g=>?_) fun J50 g j50=>?_
 exact St.wn (j47 _ g)
 refine U.start (U.ps 4 T rfl (U.k (YE s_1.Floor f.A _ g) Q7S (fun x51 g=>?_)))
 refine U.ps 2 T rfl ?_
 refine g.cs (fun b52 g=>?_) fun b52 g=>?_
 refine U.pq 1 6 true 60 b52 T ?_
 refine U.pk b52 ?_
 refine U.pd 1 T ?_
 exact St.wn (j50 _ g)
 refine U.sk' 1 6 true 60 b52 ?_
 refine U.pk' b52 ?_
 refine U.pd 1 T ?_
 exact St.wn (j50 _ g)
 refine C.ss (U.pd 2 T (C.nx ?_))
 refine C.jn (fun (x55:Bool)=>[(7,.b x55)]) (fun x55=>[]) 0 g (fun x55 g=>?_) fun J56 g j56=>?_
 exact St.wn (j47 _ g)
 refine C.ite rfl g (fun b57 g=>?_) fun b57 g=>?_
 refine U.start (U.ps 6 T rfl (U.k (Q2G s_1 st f.A f.N _ g) Q9M (fun x60 g=>?_)))
 refine U.pd 1 T ?_
 exact St.wn (j56 _ g)
 refine C.skip ?_
 exact St.wn (j56 _ g)
 refine U.start (U.ps 4 T rfl ?_)
 refine g.cs (fun b7 g=>?_) fun b7 g=>?_
 refine U.pq 3 3 true 12 b7 T ?_
 refine U.pk b7 ?_
 refine U.pd 1 T ?_
 exact St.wa (idR 3) (j6 _ g)
 refine U.sk' 3 3 true 12 b7 ?_
 refine U.pk' b7 ?_
 refine U.pd 1 T ?_
 exact St.wa (idR 3) (j6 _ g)
theorem Q1D (x_1:ApiStuck) (c0:Int) (post:Bool→Prop) (g:XD x_1 c0 post):
  Tr Tryz.prog 207 [.agg [.i x_1.Cell,.i x_1.Left],.rp [.i c0]] [] 0 (pB post):=by
 refine Tr.go Tryz.func207 Tryz.ntmps207 fun _ _ _ _ o=>?_
 unfold XD at g
 refine C.ss (U.bx ?_)
 refine U.pd 1 T (C.xt ?_)
 refine U.pd 5 T (C.nx (C.ret ?_))
 exact C.f1 T o (pBi g)
theorem Ku (s_1:List ApiStuck) (f_c0:Int) (post:Int→Prop) (g:Qs s_1 f_c0 post):
  Tr Tryz.prog 148 [.sl 2 Q5 s_1,.fn (.func 207) [] [.rp [.i f_c0]]] [] 0 (pI post):=by
 refine Tr.go Tryz.func148 Tryz.ntmps148 fun _ _ _ _ o=>?_
 unfold Qs at g
 refine C.ss (U.pd 1 T (C.xs (C.ss ?_)))
 refine U.pd 3 T (C.nx ?_)
 refine C.jn (fun (x5:Unit)=>[]) (fun x5=>[]) 0 g (fun x5 g=>?_) fun J6 g j6=>?_
 refine C.xt (U.pd 1 T (C.nx (C.ret ?_)))
 exact C.f1 T o (pIi g)
 refine C.block (St.wk (C.loop (fun (s7:Int)=>[(0,.sl 2 Q5 s_1),(1,.fn (.func 207) [] [.rp [.i f_c0]]),(7,.i (s_1.length:Int)),(8,.i s7)]) (fun s7=>[]) g (fun s7 Y8 g=>?_)) (Wk.e))
 refine C.ss (U.pd 1 T (C.xs ?_))
 refine C.ite rfl g (fun b11 g=>?_) fun b11 g=>?_
 refine C.skip (C.xs (C.block (C.ss (U.pd 2 T (C.xt ?_)))))
 refine U.ps 3 T rfl ?_
 obtain⟨x16,y16,g⟩:=g
 refine U.ix T y16 ?_
 refine U.ps 1 T rfl (U.k (Q1D x16 f_c0 _ g) Q9U (fun x17 g=>?_))
 refine U.done (C.nx ?_)
 refine C.ite rfl g (fun b18 g=>?_) fun b18 g=>?_
 refine C.ss (U.pd 2 T (C.nx (C.ret (C.brt (C.rt (C.rt (C.brt (C.rt ?_))))))))
 exact C.f1 T o (pIi g)
 refine C.skip (C.bnx (C.nx (U.start (U.pd 2 T (C.nx ?_)))))
 exact St.wk (C.next g) (Wk.e)
 refine C.exit (C.ex (C.ex (C.bex ?_)))
 exact St.wk (j6 _ g) (Wk.mk' [] rfl rfl trivial trivial rfl)
end Go.Proofs.YtdcfcldpjfepiaaGreat
