/- The walks: each Go function does what its verification condition says (written by a program of the prover). -/
import Derived.Test.YtdcfcldpjfepiaaGreatW0
import Derived.KernelRfl
set_option maxRecDepth 100000
set_option maxHeartbeats 8000000
set_option linter.unusedVariables false
set_option linter.unusedSimpArgs false
namespace Go.Proofs.YtdcfcldpjfepiaaGreat
open Go Go.Taq
theorem Q2t (s_1:ApiSite) (post:Bool→Prop) (g:XX s_1 post):
  Tr Tryz.prog 37 [.agg (Q1 s_1)] [] 0 (pB post):=by
 refine Tr.go Tryz.func37 Tryz.ntmps37 fun _ _ _ _ o=>?_
 unfold XX at g
 refine C.ss (U.bx ?_)
 refine U.pd 1 T (C.xs (C.ss ?_))
 refine U.ps 2 T rfl (U.k (Q39 s_1.Floor _ g) en74 (fun x5 g=>?_))
 refine U.pd 1 T (C.nx ?_)
 refine C.ite rfl g (fun b6 g=>?_) fun b6 g=>?_
 refine C.ss (U.pd 1 T (C.nx (C.ret (C.rt ?_))))
 exact C.f1 T o (pBi g)
 refine C.skip (C.xt (U.ps 2 T rfl (U.e rfl (.none rfl) (by exact Eff.c [] (v:=false) (Q17 s_1.Floor _ g) en75 rfl rfl rfl (.eq rfl) trivial rfl rfl rfl rfl rfl rfl (fun h=>by cases h) (.inr ⟨rfl,rfl⟩) (fun _=>rfl) (fun _=>rfl) rfl) (fun x11' g=>?_))))
 obtain⟨x11⟩:=x11'
 refine U.pd 1 T (C.xs (C.ss ?_))
 refine U.pd 4 T (C.nx ?_)
 refine C.jn (fun (x14:Int×Int×Int×List Int×List Int×List Qy×List Q8×List QD×List QL×List (Int×Int)×List (Int×Bool)×List (Int×Bool)×List (ByteArray×Int)×List (Int×Bool)×List Int×List Int)=>[(1,.p 0 0),(3,.p 1 0)]) (fun x14=>[(0,.box (Q1 s_1)),(1,.box [.i x14.1,.i x14.2.1,.i x14.2.2.1,.sl 1 eI x14.2.2.2.1,.sl 1 eI x14.2.2.2.2.1,.o 2,.o 3,.o 4,.o 5,.o 6,.o 7,.o 8,.o 9,.o 10,.o 11,.o 12]),(2,.val (.os 5 Qa x14.2.2.2.2.2.1)),(3,.val (.os 2 Q9 x14.2.2.2.2.2.2.1)),(4,.val (.os 2 Qb x14.2.2.2.2.2.2.2.1)),(5,.val (.os 2 Qf x14.2.2.2.2.2.2.2.2.1)),(6,.val (.om kI veI x14.2.2.2.2.2.2.2.2.2.1)),(7,.val (.om kI veB x14.2.2.2.2.2.2.2.2.2.2.1)),(8,.val (.om kI veB x14.2.2.2.2.2.2.2.2.2.2.2.1)),(9,.val (.om kS veI x14.2.2.2.2.2.2.2.2.2.2.2.2.1)),(10,.val (.om kI veB x14.2.2.2.2.2.2.2.2.2.2.2.2.2.1)),(11,.val (.os 1 eI x14.2.2.2.2.2.2.2.2.2.2.2.2.2.2.1)),(12,.val (.os 1 eI x14.2.2.2.2.2.2.2.2.2.2.2.2.2.2.2))]) 13 g (fun x14 g=>?_) fun J15 g j15=>?_
 refine C.xs (C.ss (U.pd 4 T (C.nx ?_)))
 refine C.jn (fun (x43:Int×Int×Int×List Int×List Int×List Qy×List Q8×List QD×List QL×List (Int×Int)×List (Int×Bool)×List (Int×Bool)×List (ByteArray×Int)×List (Int×Bool)×List Int×List Int)=>[(1,.p 0 0),(3,.p 1 0)]) (fun x43=>[(0,.box (Q1 s_1)),(1,.box [.i x43.1,.i x43.2.1,.i x43.2.2.1,.sl 1 eI x43.2.2.2.1,.sl 1 eI x43.2.2.2.2.1,.o 2,.o 3,.o 4,.o 5,.o 6,.o 7,.o 8,.o 9,.o 10,.o 11,.o 12]),(2,.val (.os 5 Qa x43.2.2.2.2.2.1)),(3,.val (.os 2 Q9 x43.2.2.2.2.2.2.1)),(4,.val (.os 2 Qb x43.2.2.2.2.2.2.2.1)),(5,.val (.os 2 Qf x43.2.2.2.2.2.2.2.2.1)),(6,.val (.om kI veI x43.2.2.2.2.2.2.2.2.2.1)),(7,.val (.om kI veB x43.2.2.2.2.2.2.2.2.2.2.1)),(8,.val (.om kI veB x43.2.2.2.2.2.2.2.2.2.2.2.1)),(9,.val (.om kS veI x43.2.2.2.2.2.2.2.2.2.2.2.2.1)),(10,.val (.om kI veB x43.2.2.2.2.2.2.2.2.2.2.2.2.2.1)),(11,.val (.os 1 eI x43.2.2.2.2.2.2.2.2.2.2.2.2.2.2.1)),(12,.val (.os 1 eI x43.2.2.2.2.2.2.2.2.2.2.2.2.2.2.2))]) 13 g (fun x43 g=>?_) fun J44 g j44=>?_
 refine C.xs (C.ss (U.pd 4 T (C.nx ?_)))
 refine C.jn (fun (x63:Int×Int×Int×List Int×List Int×List Qy×List Q8×List QD×List QL×List (Int×Int)×List (Int×Bool)×List (Int×Bool)×List (ByteArray×Int)×List (Int×Bool)×List Int×List Int)=>[(1,.p 0 0),(3,.p 1 0)]) (fun x63=>[(0,.box (Q1 s_1)),(1,.box [.i x63.1,.i x63.2.1,.i x63.2.2.1,.sl 1 eI x63.2.2.2.1,.sl 1 eI x63.2.2.2.2.1,.o 2,.o 3,.o 4,.o 5,.o 6,.o 7,.o 8,.o 9,.o 10,.o 11,.o 12]),(2,.val (.os 5 Qa x63.2.2.2.2.2.1)),(3,.val (.os 2 Q9 x63.2.2.2.2.2.2.1)),(4,.val (.os 2 Qb x63.2.2.2.2.2.2.2.1)),(5,.val (.os 2 Qf x63.2.2.2.2.2.2.2.2.1)),(6,.val (.om kI veI x63.2.2.2.2.2.2.2.2.2.1)),(7,.val (.om kI veB x63.2.2.2.2.2.2.2.2.2.2.1)),(8,.val (.om kI veB x63.2.2.2.2.2.2.2.2.2.2.2.1)),(9,.val (.om kS veI x63.2.2.2.2.2.2.2.2.2.2.2.2.1)),(10,.val (.om kI veB x63.2.2.2.2.2.2.2.2.2.2.2.2.2.1)),(11,.val (.os 1 eI x63.2.2.2.2.2.2.2.2.2.2.2.2.2.2.1)),(12,.val (.os 1 eI x63.2.2.2.2.2.2.2.2.2.2.2.2.2.2.2))]) 13 g (fun x63 g=>?_) fun J64 g j64=>?_
 refine C.xs (C.ss (U.pd 4 T (C.nx ?_)))
 refine C.jn (fun (x83:Int×Int×Int×List Int×List Int×List Qy×List Q8×List QD×List QL×List (Int×Int)×List (Int×Bool)×List (Int×Bool)×List (ByteArray×Int)×List (Int×Bool)×List Int×List Int)=>[(3,.p 0 0)]) (fun x83=>[(0,.box [.i x83.1,.i x83.2.1,.i x83.2.2.1,.sl 1 eI x83.2.2.2.1,.sl 1 eI x83.2.2.2.2.1,.o 1,.o 2,.o 3,.o 4,.o 5,.o 6,.o 7,.o 8,.o 9,.o 10,.o 11]),(1,.val (.os 5 Qa x83.2.2.2.2.2.1)),(2,.val (.os 2 Q9 x83.2.2.2.2.2.2.1)),(3,.val (.os 2 Qb x83.2.2.2.2.2.2.2.1)),(4,.val (.os 2 Qf x83.2.2.2.2.2.2.2.2.1)),(5,.val (.om kI veI x83.2.2.2.2.2.2.2.2.2.1)),(6,.val (.om kI veB x83.2.2.2.2.2.2.2.2.2.2.1)),(7,.val (.om kI veB x83.2.2.2.2.2.2.2.2.2.2.2.1)),(8,.val (.om kS veI x83.2.2.2.2.2.2.2.2.2.2.2.2.1)),(9,.val (.om kI veB x83.2.2.2.2.2.2.2.2.2.2.2.2.2.1)),(10,.val (.os 1 eI x83.2.2.2.2.2.2.2.2.2.2.2.2.2.2.1)),(11,.val (.os 1 eI x83.2.2.2.2.2.2.2.2.2.2.2.2.2.2.2))]) 12 g (fun x83 g=>?_) fun J84 g j84=>?_
 refine C.xs ?_
 refine C.jn (fun (x101:Bool)=>[(2,.b x101)]) (fun x101=>[]) 0 g (fun x101 g=>?_) fun J102 g j102=>?_
 refine C.nx (C.ret ?_)
 exact C.f1 T o (pBi g)
 refine U.start (U.ps 1 T rfl ?_)
 refine U.k (Zv ({site:=({Floor:=({W:=x83.1,H:=x83.2.1,D:=x83.2.2.1,Kind:=x83.2.2.2.1,Out:=x83.2.2.2.2.1:ApiFloor}),Zones:=x83.2.2.2.2.2.1,Aparts:=x83.2.2.2.2.2.2.1,Shelves:=x83.2.2.2.2.2.2.2.1,Robots:=x83.2.2.2.2.2.2.2.2.1:ApiSite}),shelf:=x83.2.2.2.2.2.2.2.2.2.1,robot:=x83.2.2.2.2.2.2.2.2.2.2.1,zoned:=x83.2.2.2.2.2.2.2.2.2.2.2.1,names:=x83.2.2.2.2.2.2.2.2.2.2.2.2.1,oneways:=x83.2.2.2.2.2.2.2.2.2.2.2.2.2.1,shelves:=x83.2.2.2.2.2.2.2.2.2.2.2.2.2.2.1,zones:=x83.2.2.2.2.2.2.2.2.2.2.2.2.2.2.2:SurveyMaker}) _ g) en84 fun x103 g=>?_
 refine U.ps 2 T rfl ?_
 refine g.cs (fun b104 g=>?_) fun b104 g=>?_
 refine U.pq 1 3 true 100 b104 T ?_
 refine U.k (Z1 ({site:=({Floor:=({W:=x83.1,H:=x83.2.1,D:=x83.2.2.1,Kind:=x83.2.2.2.1,Out:=x83.2.2.2.2.1:ApiFloor}),Zones:=x83.2.2.2.2.2.1,Aparts:=x83.2.2.2.2.2.2.1,Shelves:=x83.2.2.2.2.2.2.2.1,Robots:=x83.2.2.2.2.2.2.2.2.1:ApiSite}),shelf:=x83.2.2.2.2.2.2.2.2.2.1,robot:=x83.2.2.2.2.2.2.2.2.2.2.1,zoned:=x83.2.2.2.2.2.2.2.2.2.2.2.1,names:=x83.2.2.2.2.2.2.2.2.2.2.2.2.1,oneways:=x83.2.2.2.2.2.2.2.2.2.2.2.2.2.1,shelves:=x83.2.2.2.2.2.2.2.2.2.2.2.2.2.2.1,zones:=x83.2.2.2.2.2.2.2.2.2.2.2.2.2.2.2:SurveyMaker}) _ g) en85 (fun x105 g=>?_) (hw:=.take 3 true 100 _ b104 rfl rfl rfl)
 refine U.pq 1 3 true 100 b104 T ?_
 refine U.pk b104 ?_
 refine U.ps 1 T rfl ?_
 refine g.cs (fun b106 g=>?_) fun b106 g=>?_
 refine U.pq 1 8 true 105 b106 T ?_
 refine U.k (Z3 ({site:=({Floor:=({W:=x83.1,H:=x83.2.1,D:=x83.2.2.1,Kind:=x83.2.2.2.1,Out:=x83.2.2.2.2.1:ApiFloor}),Zones:=x83.2.2.2.2.2.1,Aparts:=x83.2.2.2.2.2.2.1,Shelves:=x83.2.2.2.2.2.2.2.1,Robots:=x83.2.2.2.2.2.2.2.2.1:ApiSite}),shelf:=x83.2.2.2.2.2.2.2.2.2.1,robot:=x83.2.2.2.2.2.2.2.2.2.2.1,zoned:=x83.2.2.2.2.2.2.2.2.2.2.2.1,names:=x83.2.2.2.2.2.2.2.2.2.2.2.2.1,oneways:=x83.2.2.2.2.2.2.2.2.2.2.2.2.2.1,shelves:=x83.2.2.2.2.2.2.2.2.2.2.2.2.2.2.1,zones:=x83.2.2.2.2.2.2.2.2.2.2.2.2.2.2.2:SurveyMaker}) _ g) en86 (fun x107 g=>?_) (hw:=.take 8 true 105 _ b106 rfl rfl rfl)
 refine U.pk b106 ?_
 refine U.pd 1 T ?_
 exact St.wn (j102 _ g)
 refine U.sk' 2 8 true 105 b106 ?_
 refine U.pk' b106 ?_
 refine U.pd 1 T ?_
 exact St.wn (j102 _ g)
 refine U.sk' 3 3 true 100 b104 ?_
 refine U.pk' b104 ?_
 refine U.ps 1 T rfl (U.sk' 2 8 true 105 rfl ?_)
 refine U.pk' rfl ?_
 refine U.pd 1 T ?_
 exact St.wn (j102 _ g)
 refine C.block ?_
 refine St.wk (C.loop (fun (s85:Int×Int×Int×List Int×List Int×List Qy×List Q8×List QD×List QL×List (Int×Int)×List (Int×Bool)×List (Int×Bool)×List (ByteArray×Int)×List (Int×Bool)×List Int×List Int×Int)=>[(3,.p 0 0),(86,.sl 2 Qf s_1.Robots),(87,.i (s_1.Robots.length:Int)),(88,.i s85.2.2.2.2.2.2.2.2.2.2.2.2.2.2.2.2)]) (fun s85=>[(0,.box [.i s85.1,.i s85.2.1,.i s85.2.2.1,.sl 1 eI s85.2.2.2.1,.sl 1 eI s85.2.2.2.2.1,.o 1,.o 2,.o 3,.o 4,.o 5,.o 6,.o 7,.o 8,.o 9,.o 10,.o 11]),(1,.val (.os 5 Qa s85.2.2.2.2.2.1)),(2,.val (.os 2 Q9 s85.2.2.2.2.2.2.1)),(3,.val (.os 2 Qb s85.2.2.2.2.2.2.2.1)),(4,.val (.os 2 Qf s85.2.2.2.2.2.2.2.2.1)),(5,.val (.om kI veI s85.2.2.2.2.2.2.2.2.2.1)),(6,.val (.om kI veB s85.2.2.2.2.2.2.2.2.2.2.1)),(7,.val (.om kI veB s85.2.2.2.2.2.2.2.2.2.2.2.1)),(8,.val (.om kS veI s85.2.2.2.2.2.2.2.2.2.2.2.2.1)),(9,.val (.om kI veB s85.2.2.2.2.2.2.2.2.2.2.2.2.2.1)),(10,.val (.os 1 eI s85.2.2.2.2.2.2.2.2.2.2.2.2.2.2.1)),(11,.val (.os 1 eI s85.2.2.2.2.2.2.2.2.2.2.2.2.2.2.2.1))]) g (fun s85 Y86 g=>?_)) (Wk.a (sqR 1 12))
 refine C.ss (U.pd 1 T (C.xs ?_))
 refine C.ite rfl g (fun b89 g=>?_) fun b89 g=>?_
 refine C.skip (C.xs (C.block (C.ss ?_)))
 obtain⟨x92,y92,g⟩:=g
 refine U.ix T y92 ?_
 refine U.ps 1 T rfl (U.al T ?_)
 refine U.st T ?_
 refine U.done (C.xt (U.ps 2 T rfl ?_))
 refine U.c (idR 12) (Y1 x92 ({site:=({Floor:=({W:=s85.1,H:=s85.2.1,D:=s85.2.2.1,Kind:=s85.2.2.2.1,Out:=s85.2.2.2.2.1:ApiFloor}),Zones:=s85.2.2.2.2.2.1,Aparts:=s85.2.2.2.2.2.2.1,Shelves:=s85.2.2.2.2.2.2.2.1,Robots:=s85.2.2.2.2.2.2.2.2.1:ApiSite}),shelf:=s85.2.2.2.2.2.2.2.2.2.1,robot:=s85.2.2.2.2.2.2.2.2.2.2.1,zoned:=s85.2.2.2.2.2.2.2.2.2.2.2.1,names:=s85.2.2.2.2.2.2.2.2.2.2.2.2.1,oneways:=s85.2.2.2.2.2.2.2.2.2.2.2.2.2.1,shelves:=s85.2.2.2.2.2.2.2.2.2.2.2.2.2.2.1,zones:=s85.2.2.2.2.2.2.2.2.2.2.2.2.2.2.2.1:SurveyMaker}) _ g) en83 fun x95 g=>?_
 refine U.pd 1 T (C.nx ?_)
 refine C.ite rfl g (fun b96 g=>?_) fun b96 g=>?_
 refine C.ss (U.pd 1 T (C.nx (C.ret (C.brt (C.rt (C.rt (C.brt (C.rt ?_))))))))
 exact C.f1 T o (pBi g)
 refine C.skip (C.bnx (C.nx (U.start (U.pd 2 T (C.nx ?_)))))
 exact St.wk (C.next g) (Wk.a [some 0,some 25,some 26,some 27,some 28,some 29,some 30,some 31,some 32,some 33,some 34,some 35])
 refine C.exit (C.ex (C.ex (C.bex ?_)))
 exact St.wa (idR 12) (j84 _ g)
 refine C.block ?_
 refine St.wk (C.loop (fun (s65:Int×Int×Int×List Int×List Int×List Qy×List Q8×List QD×List QL×List (Int×Int)×List (Int×Bool)×List (Int×Bool)×List (ByteArray×Int)×List (Int×Bool)×List Int×List Int×Int)=>[(1,.p 0 0),(3,.p 1 0),(74,.sl 2 Qb s_1.Shelves),(75,.i (s_1.Shelves.length:Int)),(76,.i s65.2.2.2.2.2.2.2.2.2.2.2.2.2.2.2.2)]) (fun s65=>[(0,.box (Q1 s_1)),(1,.box [.i s65.1,.i s65.2.1,.i s65.2.2.1,.sl 1 eI s65.2.2.2.1,.sl 1 eI s65.2.2.2.2.1,.o 2,.o 3,.o 4,.o 5,.o 6,.o 7,.o 8,.o 9,.o 10,.o 11,.o 12]),(2,.val (.os 5 Qa s65.2.2.2.2.2.1)),(3,.val (.os 2 Q9 s65.2.2.2.2.2.2.1)),(4,.val (.os 2 Qb s65.2.2.2.2.2.2.2.1)),(5,.val (.os 2 Qf s65.2.2.2.2.2.2.2.2.1)),(6,.val (.om kI veI s65.2.2.2.2.2.2.2.2.2.1)),(7,.val (.om kI veB s65.2.2.2.2.2.2.2.2.2.2.1)),(8,.val (.om kI veB s65.2.2.2.2.2.2.2.2.2.2.2.1)),(9,.val (.om kS veI s65.2.2.2.2.2.2.2.2.2.2.2.2.1)),(10,.val (.om kI veB s65.2.2.2.2.2.2.2.2.2.2.2.2.2.1)),(11,.val (.os 1 eI s65.2.2.2.2.2.2.2.2.2.2.2.2.2.2.1)),(12,.val (.os 1 eI s65.2.2.2.2.2.2.2.2.2.2.2.2.2.2.2.1))]) g (fun s65 Y66 g=>?_)) (Wk.a (idR 13))
 refine C.ss (U.pd 1 T (C.xs ?_))
 refine C.ite rfl g (fun b69 g=>?_) fun b69 g=>?_
 refine C.skip (C.xs (C.block (C.ss ?_)))
 obtain⟨x72,y72,g⟩:=g
 refine U.ix T y72 ?_
 refine U.ps 1 T rfl (U.al T ?_)
 refine U.st T ?_
 refine U.done (C.xt (U.ps 2 T rfl ?_))
 refine U.c (sqR 1 12) (Yd x72 ({site:=({Floor:=({W:=s65.1,H:=s65.2.1,D:=s65.2.2.1,Kind:=s65.2.2.2.1,Out:=s65.2.2.2.2.1:ApiFloor}),Zones:=s65.2.2.2.2.2.1,Aparts:=s65.2.2.2.2.2.2.1,Shelves:=s65.2.2.2.2.2.2.2.1,Robots:=s65.2.2.2.2.2.2.2.2.1:ApiSite}),shelf:=s65.2.2.2.2.2.2.2.2.2.1,robot:=s65.2.2.2.2.2.2.2.2.2.2.1,zoned:=s65.2.2.2.2.2.2.2.2.2.2.2.1,names:=s65.2.2.2.2.2.2.2.2.2.2.2.2.1,oneways:=s65.2.2.2.2.2.2.2.2.2.2.2.2.2.1,shelves:=s65.2.2.2.2.2.2.2.2.2.2.2.2.2.2.1,zones:=s65.2.2.2.2.2.2.2.2.2.2.2.2.2.2.2.1:SurveyMaker}) _ g) en82 fun x75 g=>?_
 refine U.pd 1 T (C.nx ?_)
 refine C.ite rfl g (fun b76 g=>?_) fun b76 g=>?_
 refine C.ss (U.pd 1 T (C.nx (C.ret (C.brt (C.rt (C.rt (C.brt (C.rt ?_))))))))
 exact C.f1 T o (pBi g)
 refine C.skip (C.bnx (C.nx (U.start (U.pd 2 T (C.nx ?_)))))
 exact St.wk (C.next g) (Wk.a [some 0,some 1,some 26,some 27,some 28,some 29,some 30,some 31,some 32,some 33,some 34,some 35,some 36])
 refine C.exit (C.ex (C.ex (C.bex ?_)))
 exact St.wa (idR 13) (j64 _ g)
 refine C.block ?_
 refine St.wk (C.loop (fun (s45:Int×Int×Int×List Int×List Int×List Qy×List Q8×List QD×List QL×List (Int×Int)×List (Int×Bool)×List (Int×Bool)×List (ByteArray×Int)×List (Int×Bool)×List Int×List Int×Int)=>[(1,.p 0 0),(3,.p 1 0),(62,.sl 2 Q9 s_1.Aparts),(63,.i (s_1.Aparts.length:Int)),(64,.i s45.2.2.2.2.2.2.2.2.2.2.2.2.2.2.2.2)]) (fun s45=>[(0,.box (Q1 s_1)),(1,.box [.i s45.1,.i s45.2.1,.i s45.2.2.1,.sl 1 eI s45.2.2.2.1,.sl 1 eI s45.2.2.2.2.1,.o 2,.o 3,.o 4,.o 5,.o 6,.o 7,.o 8,.o 9,.o 10,.o 11,.o 12]),(2,.val (.os 5 Qa s45.2.2.2.2.2.1)),(3,.val (.os 2 Q9 s45.2.2.2.2.2.2.1)),(4,.val (.os 2 Qb s45.2.2.2.2.2.2.2.1)),(5,.val (.os 2 Qf s45.2.2.2.2.2.2.2.2.1)),(6,.val (.om kI veI s45.2.2.2.2.2.2.2.2.2.1)),(7,.val (.om kI veB s45.2.2.2.2.2.2.2.2.2.2.1)),(8,.val (.om kI veB s45.2.2.2.2.2.2.2.2.2.2.2.1)),(9,.val (.om kS veI s45.2.2.2.2.2.2.2.2.2.2.2.2.1)),(10,.val (.om kI veB s45.2.2.2.2.2.2.2.2.2.2.2.2.2.1)),(11,.val (.os 1 eI s45.2.2.2.2.2.2.2.2.2.2.2.2.2.2.1)),(12,.val (.os 1 eI s45.2.2.2.2.2.2.2.2.2.2.2.2.2.2.2.1))]) g (fun s45 Y46 g=>?_)) (Wk.a (idR 13))
 refine C.ss (U.pd 1 T (C.xs ?_))
 refine C.ite rfl g (fun b49 g=>?_) fun b49 g=>?_
 refine C.skip (C.xs (C.block (C.ss ?_)))
 obtain⟨x52,y52,g⟩:=g
 refine U.ix T y52 ?_
 refine U.ps 1 T rfl (U.al T ?_)
 refine U.st T ?_
 refine U.done (C.xt (U.ps 2 T rfl ?_))
 refine U.c (sqR 1 12) (WZ x52 ({site:=({Floor:=({W:=s45.1,H:=s45.2.1,D:=s45.2.2.1,Kind:=s45.2.2.2.1,Out:=s45.2.2.2.2.1:ApiFloor}),Zones:=s45.2.2.2.2.2.1,Aparts:=s45.2.2.2.2.2.2.1,Shelves:=s45.2.2.2.2.2.2.2.1,Robots:=s45.2.2.2.2.2.2.2.2.1:ApiSite}),shelf:=s45.2.2.2.2.2.2.2.2.2.1,robot:=s45.2.2.2.2.2.2.2.2.2.2.1,zoned:=s45.2.2.2.2.2.2.2.2.2.2.2.1,names:=s45.2.2.2.2.2.2.2.2.2.2.2.2.1,oneways:=s45.2.2.2.2.2.2.2.2.2.2.2.2.2.1,shelves:=s45.2.2.2.2.2.2.2.2.2.2.2.2.2.2.1,zones:=s45.2.2.2.2.2.2.2.2.2.2.2.2.2.2.2.1:SurveyMaker}) _ g) en81 fun x55 g=>?_
 refine U.pd 1 T (C.nx ?_)
 refine C.ite rfl g (fun b56 g=>?_) fun b56 g=>?_
 refine C.ss (U.pd 1 T (C.nx (C.ret (C.brt (C.rt (C.rt (C.brt (C.rt ?_))))))))
 exact C.f1 T o (pBi g)
 refine C.skip (C.bnx (C.nx (U.start (U.pd 2 T (C.nx ?_)))))
 exact St.wk (C.next g) (Wk.a [some 0,some 1,some 26,some 27,some 28,some 29,some 30,some 31,some 32,some 33,some 34,some 35,some 36])
 refine C.exit (C.ex (C.ex (C.bex ?_)))
 exact St.wa (idR 13) (j44 _ g)
 refine C.block ?_
 refine St.wk (C.loop (fun (s16:Int×Int×Int×List Int×List Int×List Qy×List Q8×List QD×List QL×List (Int×Int)×List (Int×Bool)×List (Int×Bool)×List (ByteArray×Int)×List (Int×Bool)×List Int×List Int×Int)=>[(1,.p 0 0),(3,.p 1 0),(20,.sl 5 Qa s_1.Zones),(21,.i (s_1.Zones.length:Int)),(22,.i s16.2.2.2.2.2.2.2.2.2.2.2.2.2.2.2.2)]) (fun s16=>[(0,.box (Q1 s_1)),(1,.box [.i s16.1,.i s16.2.1,.i s16.2.2.1,.sl 1 eI s16.2.2.2.1,.sl 1 eI s16.2.2.2.2.1,.o 2,.o 3,.o 4,.o 5,.o 6,.o 7,.o 8,.o 9,.o 10,.o 11,.o 12]),(2,.val (.os 5 Qa s16.2.2.2.2.2.1)),(3,.val (.os 2 Q9 s16.2.2.2.2.2.2.1)),(4,.val (.os 2 Qb s16.2.2.2.2.2.2.2.1)),(5,.val (.os 2 Qf s16.2.2.2.2.2.2.2.2.1)),(6,.val (.om kI veI s16.2.2.2.2.2.2.2.2.2.1)),(7,.val (.om kI veB s16.2.2.2.2.2.2.2.2.2.2.1)),(8,.val (.om kI veB s16.2.2.2.2.2.2.2.2.2.2.2.1)),(9,.val (.om kS veI s16.2.2.2.2.2.2.2.2.2.2.2.2.1)),(10,.val (.om kI veB s16.2.2.2.2.2.2.2.2.2.2.2.2.2.1)),(11,.val (.os 1 eI s16.2.2.2.2.2.2.2.2.2.2.2.2.2.2.1)),(12,.val (.os 1 eI s16.2.2.2.2.2.2.2.2.2.2.2.2.2.2.2.1))]) g (fun s16 Y17 g=>?_)) (Wk.a [some 0,some 12,some 1,some 2,some 3,some 4,some 5,some 6,some 7,some 8,some 9,some 10,some 11])
 refine C.ss (U.pd 1 T (C.xs ?_))
 refine C.ite rfl g (fun b20 g=>?_) fun b20 g=>?_
 refine C.skip (C.xs (C.block (C.ss ?_)))
 obtain⟨x23,y23,g⟩:=g
 refine U.ix T y23 ?_
 refine U.ps 1 T rfl (U.al T ?_)
 refine U.st T ?_
 refine U.done (C.xs ?_)
 refine C.jn (fun (x24:Int×Int×Int×List Int×List Int×List Qy×List Q8×List QD×List QL×List (Int×Int)×List (Int×Bool)×List (Int×Bool)×List (ByteArray×Int)×List (Int×Bool)×List Int×List Int×Bool)=>[(1,.p 0 0),(3,.p 1 0),(20,.sl 5 Qa s_1.Zones),(21,.i (s_1.Zones.length:Int)),(22,.i s16.2.2.2.2.2.2.2.2.2.2.2.2.2.2.2.2),(59,.b x24.2.2.2.2.2.2.2.2.2.2.2.2.2.2.2.2)]) (fun x24=>[(0,.box (Q1 s_1)),(1,.box [.i x24.1,.i x24.2.1,.i x24.2.2.1,.sl 1 eI x24.2.2.2.1,.sl 1 eI x24.2.2.2.2.1,.o 2,.o 3,.o 4,.o 5,.o 6,.o 7,.o 8,.o 9,.o 10,.o 11,.o 12]),(2,.val (.os 5 Qa x24.2.2.2.2.2.1)),(3,.val (.os 2 Q9 x24.2.2.2.2.2.2.1)),(4,.val (.os 2 Qb x24.2.2.2.2.2.2.2.1)),(5,.val (.os 2 Qf x24.2.2.2.2.2.2.2.2.1)),(6,.val (.om kI veI x24.2.2.2.2.2.2.2.2.2.1)),(7,.val (.om kI veB x24.2.2.2.2.2.2.2.2.2.2.1)),(8,.val (.om kI veB x24.2.2.2.2.2.2.2.2.2.2.2.1)),(9,.val (.om kS veI x24.2.2.2.2.2.2.2.2.2.2.2.2.1)),(10,.val (.om kI veB x24.2.2.2.2.2.2.2.2.2.2.2.2.2.1)),(11,.val (.os 1 eI x24.2.2.2.2.2.2.2.2.2.2.2.2.2.2.1)),(12,.val (.os 1 eI x24.2.2.2.2.2.2.2.2.2.2.2.2.2.2.2.1))]) 13 g (fun x24 g=>?_) fun J25 g j25=>?_
 refine C.nx ?_
 refine C.ite rfl g (fun b36 g=>?_) fun b36 g=>?_
 refine C.ss (U.pd 1 T (C.nx (C.ret (C.brt (C.rt (C.rt (C.brt (C.rt ?_))))))))
 exact C.f1 T o (pBi g)
 refine C.skip (C.bnx (C.nx (U.start (U.pd 2 T (C.nx ?_)))))
 exact St.wk (C.next g) (Wk.a (idR 13))
 refine U.start (U.ps 2 T rfl (U.k (WI x23.Name _ g) en76 (fun x26 g=>?_)))
 refine U.ps 2 T rfl ?_
 refine g.cs (fun b27 g=>?_) fun b27 g=>?_
 refine U.pq 2 4 false 30 (ntF b27) T ?_
 refine U.k (Zt x23.Speed 1 100 _ g) en77 (fun x28 g=>?_) (hw:=.take 4 false 30 _ (ntF b27) rfl rfl rfl)
 refine U.pq 1 4 false 30 (ntF b27) T ?_
 refine U.pk' (ntF b27) ?_
 refine U.ps 1 T rfl ?_
 refine g.cs (fun b29 g=>?_) fun b29 g=>?_
 refine U.pq 3 10 false 36 (ntF b29) T ?_
 refine U.pk' (ntF b29) ?_
 refine U.ps 1 T rfl ?_
 refine g.cs (fun b30 g=>?_) fun b30 g=>?_
 refine U.sk' 4 15 false 41 b30 ?_
 refine U.pk b30 ?_
 refine U.ps 1 T rfl (U.sk' 5 21 false 47 rfl ?_)
 refine U.pk rfl ?_
 refine U.ps 1 T rfl (U.sk' 4 28 false 54 rfl ?_)
 refine U.pk rfl ?_
 refine U.done ?_
 exact St.wa (idR 13) (j25 _ g)
 refine U.pq 2 15 false 41 b30 T ?_
 refine U.k (Q3n x23.Shut _ g) en78 (fun x31 g=>?_) (hw:=.take 15 false 41 _ b30 rfl rfl rfl)
 refine U.pq 1 15 false 41 b30 T ?_
 refine U.pk' b30 ?_
 refine U.ps 1 T rfl ?_
 refine g.cs (fun b32 g=>?_) fun b32 g=>?_
 refine U.pq 3 21 false 47 (ntF b32) T ?_
 refine U.k (ZJ ({site:=({Floor:=({W:=s16.1,H:=s16.2.1,D:=s16.2.2.1,Kind:=s16.2.2.2.1,Out:=s16.2.2.2.2.1:ApiFloor}),Zones:=s16.2.2.2.2.2.1,Aparts:=s16.2.2.2.2.2.2.1,Shelves:=s16.2.2.2.2.2.2.2.1,Robots:=s16.2.2.2.2.2.2.2.2.1:ApiSite}),shelf:=s16.2.2.2.2.2.2.2.2.2.1,robot:=s16.2.2.2.2.2.2.2.2.2.2.1,zoned:=s16.2.2.2.2.2.2.2.2.2.2.2.1,names:=s16.2.2.2.2.2.2.2.2.2.2.2.2.1,oneways:=s16.2.2.2.2.2.2.2.2.2.2.2.2.2.1,shelves:=s16.2.2.2.2.2.2.2.2.2.2.2.2.2.2.1,zones:=s16.2.2.2.2.2.2.2.2.2.2.2.2.2.2.2.1:SurveyMaker}) x23.Cells _ g) en79 (fun x33 g=>?_) (hw:=.take 21 false 47 _ (ntF b32) rfl rfl rfl)
 refine U.pq 1 21 false 47 (ntF b32) T ?_
 refine U.pk' (ntF b32) ?_
 refine U.ps 1 T rfl ?_
 refine g.cs (fun b34 g=>?_) fun b34 g=>?_
 refine U.pq 2 28 false 54 (ntF b34) T ?_
 refine U.c (sqR 1 12) (Yg x23 ({site:=({Floor:=({W:=s16.1,H:=s16.2.1,D:=s16.2.2.1,Kind:=s16.2.2.2.1,Out:=s16.2.2.2.2.1:ApiFloor}),Zones:=s16.2.2.2.2.2.1,Aparts:=s16.2.2.2.2.2.2.1,Shelves:=s16.2.2.2.2.2.2.2.1,Robots:=s16.2.2.2.2.2.2.2.2.1:ApiSite}),shelf:=s16.2.2.2.2.2.2.2.2.2.1,robot:=s16.2.2.2.2.2.2.2.2.2.2.1,zoned:=s16.2.2.2.2.2.2.2.2.2.2.2.1,names:=s16.2.2.2.2.2.2.2.2.2.2.2.2.1,oneways:=s16.2.2.2.2.2.2.2.2.2.2.2.2.2.1,shelves:=s16.2.2.2.2.2.2.2.2.2.2.2.2.2.2.1,zones:=s16.2.2.2.2.2.2.2.2.2.2.2.2.2.2.2.1:SurveyMaker}) _ g) en80 (fun x35 g=>?_) (hw:=.take 28 false 54 _ (ntF b34) rfl rfl rfl)
 refine U.pq 1 28 false 54 (ntF b34) T ?_
 refine U.pk' (ntF b34) ?_
 refine U.done ?_
 exact St.wa [some 0,some 1,some 26,some 27,some 28,some 29,some 30,some 31,some 32,some 33,some 34,some 35,some 36] (j25 _ g)
 refine U.sk' 4 28 false 54 (ntT b34) ?_
 refine U.pk (ntT b34) ?_
 refine U.done ?_
 exact St.wa (idR 13) (j25 _ g)
 refine U.sk' 5 21 false 47 (ntT b32) ?_
 refine U.pk (ntT b32) ?_
 refine U.ps 1 T rfl (U.sk' 4 28 false 54 rfl ?_)
 refine U.pk rfl ?_
 refine U.done ?_
 exact St.wa (idR 13) (j25 _ g)
 refine U.sk' 3 10 false 36 (ntT b29) ?_
 refine U.pk (ntT b29) ?_
 refine U.ps 1 T rfl (U.sk' 4 15 false 41 rfl ?_)
 refine U.pk rfl ?_
 refine U.ps 1 T rfl (U.sk' 5 21 false 47 rfl ?_)
 refine U.pk rfl ?_
 refine U.ps 1 T rfl (U.sk' 4 28 false 54 rfl ?_)
 refine U.pk rfl ?_
 refine U.done ?_
 exact St.wa (idR 13) (j25 _ g)
 refine U.sk' 4 4 false 30 (ntT b27) ?_
 refine U.pk (ntT b27) ?_
 refine U.ps 1 T rfl (U.sk' 3 10 false 36 rfl ?_)
 refine U.pk rfl ?_
 refine U.ps 1 T rfl (U.sk' 4 15 false 41 rfl ?_)
 refine U.pk rfl ?_
 refine U.ps 1 T rfl (U.sk' 5 21 false 47 rfl ?_)
 refine U.pk rfl ?_
 refine U.ps 1 T rfl (U.sk' 4 28 false 54 rfl ?_)
 refine U.pk rfl ?_
 refine U.done ?_
 exact St.wa (idR 13) (j25 _ g)
 refine C.exit (C.ex (C.ex (C.bex ?_)))
 exact St.wa (idR 13) (j15 _ g)
theorem Q0C (s_1:ApiSite) (n:Int) (post:Bool→Prop) (g:Xa s_1 n post):
  Tr Tryz.prog 7 [.agg (Q1 s_1),.i n] [] 0 (pB post):=by
 refine Tr.go Tryz.func7 Tryz.ntmps7 fun _ _ _ _ o=>?_
 unfold Xa at g
 refine C.ss (U.bx ?_)
 refine U.pd 1 T (C.xs ?_)
 refine C.jn (fun (x3:Bool)=>[(4,.b x3)]) (fun x3=>[]) 0 g (fun x3 g=>?_) fun J4 g j4=>?_
 refine C.nx (C.ret ?_)
 exact C.f1 T o (pBi g)
 refine U.start (U.ps 2 T rfl (U.k (Q1j s_1 n 20 _ g) en36 (fun x5 g=>?_)))
 refine U.ps 1 T rfl ?_
 refine g.cs (fun b6 g=>?_) fun b6 g=>?_
 refine U.pq 1 3 true 8 b6 T ?_
 refine U.k (Q2t s_1 _ g) en37 (fun x7 g=>?_) (hw:=.take 3 true 8 _ b6 rfl rfl rfl)
 refine U.pk b6 ?_
 refine U.pd 1 T ?_
 exact St.wn (j4 _ g)
 refine U.sk' 2 3 true 8 b6 ?_
 refine U.pk' b6 ?_
 refine U.pd 1 T ?_
 exact St.wn (j4 _ g)
theorem Q0J (act:Int) (laden:Bool) (post:Int→Prop) (g:Xm act laden post):
  Tr Tryz.prog 114 [.i act,.b laden] [] 0 (pI post):=by
 refine Tr.go Tryz.func114 Tryz.ntmps114 fun _ _ _ _ o=>?_
 unfold Xm at g
 refine C.ss (U.pd 1 T (C.xs (C.seq ?_)))
 refine C.jn (fun (x3:Bool)=>[(0,.i act),(1,.b laden),(11,.b x3)]) (fun x3=>[]) 0 g (fun x3 g=>?_) fun J4 g j4=>?_
 refine C.nx ?_
 refine C.ite rfl g (fun b6 g=>?_) fun b6 g=>?_
 refine C.ss (U.pd 1 T (C.nx (C.ret (C.rt ?_))))
 exact C.f1 T o (pIi g)
 refine C.skip (C.xs (C.ss (U.pd 2 T (C.nx ?_))))
 refine C.ite rfl g (fun b11 g=>?_) fun b11 g=>?_
 refine C.ss (U.pd 1 T (C.nx (C.ret (C.rt ?_))))
 exact C.f1 T o (pIi g)
 refine C.skip (C.xs (C.seq ?_))
 refine C.jn (fun (x14:Bool)=>[(0,.i act),(1,.b laden),(19,.b x14)]) (fun x14=>[]) 0 g (fun x14 g=>?_) fun J15 g j15=>?_
 refine C.nx ?_
 refine C.ite rfl g (fun b17 g=>?_) fun b17 g=>?_
 refine C.ss (U.pd 1 T (C.nx (C.ret (C.rt ?_))))
 exact C.f1 T o (pIi g)
 refine C.skip (C.xt (U.pd 1 T (C.xs (C.ss ?_))))
 refine U.pd 2 T (C.nx ?_)
 refine C.jn (fun (x24:Int)=>[(0,.i act),(1,.b laden),(5,.i x24)]) (fun x24=>[]) 0 g (fun x24 g=>?_) fun J25 g j25=>?_
 refine C.xs (C.ss (U.pd 2 T (C.nx ?_)))
 refine C.jn (fun (x31:Int)=>[(1,.b laden),(5,.i x31)]) (fun x31=>[]) 0 g (fun x31 g=>?_) fun J32 g j32=>?_
 refine C.xs (C.ss (U.pd 1 T (C.nx ?_)))
 refine C.jn (fun (x38:Int)=>[(5,.i x38)]) (fun x38=>[]) 0 g (fun x38 g=>?_) fun J39 g j39=>?_
 refine C.xt (U.pd 2 T (C.nx (C.ret ?_)))
 exact C.f1 T o (pIi g)
 refine C.ite rfl g (fun b40 g=>?_) fun b40 g=>?_
 refine U.start (U.pd 3 T ?_)
 exact St.wn (j39 _ g)
 refine C.skip ?_
 exact St.wn (j39 _ g)
 refine C.ite rfl g (fun b33 g=>?_) fun b33 g=>?_
 refine U.start (U.pd 1 T ?_)
 exact St.wn (j32 _ g)
 refine C.skip ?_
 exact St.wn (j32 _ g)
 refine C.ite rfl g (fun b26 g=>?_) fun b26 g=>?_
 refine U.start (U.pd 1 T ?_)
 exact St.wn (j25 _ g)
 refine C.skip ?_
 exact St.wn (j25 _ g)
 refine U.start (U.ps 3 T rfl ?_)
 refine g.cs (fun b16 g=>?_) fun b16 g=>?_
 refine U.sk' 2 2 false 16 b16 ?_
 refine U.pk b16 ?_
 refine U.done ?_
 exact St.wn (j15 _ g)
 refine U.pq 2 2 false 16 b16 T ?_
 refine U.pk' b16 ?_
 refine U.done ?_
 exact St.wn (j15 _ g)
 refine U.start (U.ps 3 T rfl ?_)
 refine g.cs (fun b5 g=>?_) fun b5 g=>?_
 refine U.sk' 2 2 false 8 b5 ?_
 refine U.pk b5 ?_
 refine U.done ?_
 exact St.wn (j4 _ g)
 refine U.pq 2 2 false 8 b5 T ?_
 refine U.pk' b5 ?_
 refine U.done ?_
 exact St.wn (j4 _ g)
theorem Q1c (tick:Int) (post:Int→Prop) (g:XA tick post):
  Tr Tryz.prog 115 [.i tick] [] 0 (pI post):=by
 refine Tr.go Tryz.func115 Tryz.ntmps115 fun _ _ _ _ o=>?_
 unfold XA at g
 refine C.ss (U.pd 1 T (C.xs (C.ss ?_)))
 refine U.pd 2 T (C.nx ?_)
 refine C.ite rfl g (fun b5 g=>?_) fun b5 g=>?_
 refine C.ss (U.pd 1 T (C.nx (C.ret (C.rt ?_))))
 exact C.f1 T o (pIi g)
 refine C.skip (C.xs (C.ss (U.pd 2 T (C.nx ?_))))
 refine C.ite rfl g (fun b10 g=>?_) fun b10 g=>?_
 refine C.ss (U.pd 1 T (C.nx (C.ret (C.rt ?_))))
 exact C.f1 T o (pIi g)
 refine C.skip (C.xt (U.ps 1 T rfl (U.r rfl (.none rfl) rfl rfl (by exact Rd.dv rfl rfl rfl rfl (by decide)) ?_)))
 refine U.pd 1 T (C.nx (C.ret ?_))
 exact C.f1 T o (pIi g)
theorem W9 (tick:Int) (act:Int) (laden:Bool) (post:Int→Prop) (g:Kb tick act laden post):
  Tr Tryz.prog 56 [.i tick,.i act,.b laden] [] 0 (pI post):=by
 refine Tr.go Tryz.func56 Tryz.ntmps56 fun _ _ _ _ o=>?_
 unfold Kb at g
 refine C.ss (U.pd 1 T (C.xt ?_))
 refine U.ps 2 T rfl (U.k (Q0J act laden _ g) Q8P (fun x5 g=>?_))
 refine U.ps 1 T rfl (U.k (Q1c tick _ g) Q93 (fun x6 g=>?_))
 refine U.pd 3 T (C.xs (C.ss ?_))
 refine U.ps 1 T rfl (U.r rfl (.none rfl) rfl rfl (by exact Rd.rm rfl rfl rfl rfl (by decide)) ?_)
 refine U.pd 1 T (C.nx ?_)
 refine C.ite rfl g (fun b10 g=>?_) fun b10 g=>?_
 refine C.ss (U.ps 1 T rfl (U.r rfl (.none rfl) rfl rfl (by exact Rd.dv rfl rfl rfl rfl (by decide)) ?_))
 refine U.pd 2 T (C.nx (C.ret (C.rt ?_)))
 exact C.f1 T o (pIi g)
 refine C.skip (C.xt (U.ps 1 T rfl (U.r rfl (.none rfl) rfl rfl (by exact Rd.dv rfl rfl rfl rfl (by decide)) ?_)))
 refine U.pd 1 T (C.nx (C.ret ?_))
 exact C.f1 T o (pIi g)
theorem G6 (post:Int→Prop) (g:K5 post):
  Tr Tryz.prog 15 [] [] 0 (pI post):=by
 refine Tr.go Tryz.func15 Tryz.ntmps15 fun _ _ _ _ o=>?_
 unfold K5 at g
 refine C.ss (U.pd 1 T (C.xt ?_))
 refine U.k (W9 20000 0 true _ g) en56 fun x5 g=>?_
 refine U.pd 1 T (C.nx (C.ret ?_))
 exact C.f1 T o (pIi g)
theorem Q0O (f:ApiFloor) (post:Int→Prop) (g:Xb f post):
  Tr Tryz.prog 71 [.agg (Qk f)] [] 0 (pI post):=by
 refine Tr.go Tryz.func71 Tryz.ntmps71 fun _ _ _ _ o=>?_
 unfold Xb at g
 refine C.ss (U.bx ?_)
 refine U.pd 1 T (C.xt ?_)
 refine U.pd 9 T (C.nx (C.ret ?_))
 exact C.f1 T o (pIi g)
theorem K1 (f:ApiFloor) (c:Int) (post:Bool→Prop) (g:QG f c post):
  Tr Tryz.prog 33 [.agg (Qk f),.i c] [] 0 (pB post):=by
 refine Tr.go Tryz.func33 Tryz.ntmps33 fun _ _ _ _ o=>?_
 unfold QG at g
 refine C.ss (U.bx ?_)
 refine U.pd 1 T (C.xs ?_)
 refine C.jn (fun (x3:Bool)=>[(4,.b x3)]) (fun x3=>[]) 0 g (fun x3 g=>?_) fun J4 g j4=>?_
 refine C.nx (C.ret ?_)
 exact C.f1 T o (pBi g)
 refine U.start (U.ps 3 T rfl ?_)
 refine g.cs (fun b5 g=>?_) fun b5 g=>?_
 refine U.pq 2 2 true 7 b5 T ?_
 refine U.k (Q0O f _ g) en71 (fun x6 g=>?_) (hw:=.take 2 true 7 _ b5 rfl rfl rfl)
 refine U.pq 1 2 true 7 b5 T ?_
 refine U.pk b5 ?_
 refine U.pd 1 T ?_
 exact St.wn (j4 _ g)
 refine U.sk' 4 2 true 7 b5 ?_
 refine U.pk' b5 ?_
 refine U.pd 1 T ?_
 exact St.wn (j4 _ g)
theorem Q0T (r:List Int) (c:Int) (post:Bool→Prop) (g:KW r c post):
  Tr Tryz.prog 159 [.sl 1 eI r,.i c] [] 0 (pB post):=by
 refine Tr.go Tryz.func159 Tryz.ntmps159 fun _ _ _ _ o=>?_
 unfold KW at g
 refine C.ss (U.pd 1 T (C.xt ?_))
 refine U.pd 1 T (C.xt ?_)
 refine U.pd 3 T (C.xs ?_)
 refine C.jn (fun (x7:Int)=>[(0,.sl 1 eI r),(1,.i c),(5,.i x7)]) (fun x7=>[]) 0 g (fun x7 g=>?_) fun J8 g j8=>?_
 refine C.xs (C.ss (U.pd 4 T (C.nx ?_)))
 refine C.ite rfl g (fun b29 g=>?_) fun b29 g=>?_
 refine C.ss (U.pd 1 T (C.nx (C.ret (C.rt ?_))))
 exact C.f1 T o (pBi g)
 refine C.skip (C.xt (U.ps 2 T rfl ?_))
 obtain⟨x34,y34,g⟩:=g
 refine U.ix T y34 ?_
 refine U.pd 4 T (C.nx (C.ret ?_))
 exact C.f1 T o (pBi g)
 refine C.block (St.wk (C.loop (fun (s9:Int×Int)=>[(0,.sl 1 eI r),(1,.i c),(5,.i s9.1),(6,.i s9.2)]) (fun s9=>[]) g (fun s9 Y10 g=>?_)) (Wk.e))
 refine C.seq (C.ss (U.pd 3 T (C.nx ?_)))
 refine C.ite rfl g (fun b13 g=>?_) fun b13 g=>?_
 refine C.skip (C.nx (C.block (C.ss (U.ps 3 T rfl (U.r rfl (.none rfl) rfl rfl (by exact Rd.dv rfl rfl rfl rfl (by decide)) ?_)))))
 refine U.pd 1 T (C.xt ?_)
 refine U.ps 2 T rfl ?_
 obtain⟨x19,y19,g⟩:=g
 refine U.ix T y19 ?_
 refine U.pd 3 T (C.nx ?_)
 refine C.jn (fun (x20:Int×Int)=>[(0,.sl 1 eI r),(1,.i c),(5,.i x20.1),(6,.i x20.2)]) (fun x20=>[]) 0 g (fun x20 g=>?_) fun J21 g j21=>?_
 refine C.bnx (C.nx ?_)
 exact St.wk (C.next g) (Wk.e)
 refine C.ite rfl g (fun b22 g=>?_) fun b22 g=>?_
 refine U.start (U.pd 3 T ?_)
 exact St.wn (j21 _ g)
 refine U.start (U.pd 2 T ?_)
 exact St.wn (j21 _ g)
 refine C.exit (C.ex (C.ex (C.bex ?_)))
 exact St.wn (j8 _ g)
theorem WH (s_1:ApiSite) (c:Int) (post:Int→Prop) (g:Kg s_1 c post):
  Tr Tryz.prog 116 [.agg (Q1 s_1),.i c] [] 0 (pI post):=by
 refine Tr.go Tryz.func116 Tryz.ntmps116 fun _ _ _ _ o=>?_
 unfold Kg at g
 refine C.ss (U.bx ?_)
 refine U.pd 1 T (C.xs (C.ss ?_))
 refine U.pd 1 T (C.nx ?_)
 refine C.jn (fun (x5:Unit)=>[]) (fun x5=>[]) 0 g (fun x5 g=>?_) fun J6 g j6=>?_
 refine C.xt (U.pd 1 T (C.nx (C.ret ?_)))
 exact C.f1 T o (pIi g)
 refine C.block (St.wk (C.loop (fun (s7:Int)=>[(1,.i c),(2,.p 0 0),(5,.i s7)]) (fun s7=>[(0,.box (Q1 s_1))]) g (fun s7 Y8 g=>?_)) (Wk.a [some 0]))
 refine C.seq (C.ss (U.pd 5 T (C.nx ?_)))
 refine C.ite rfl g (fun b11 g=>?_) fun b11 g=>?_
 refine C.skip (C.xs (C.block (C.ss (U.ps 3 T rfl ?_))))
 obtain⟨x14,y14,g⟩:=g
 refine U.ix T y14 ?_
 refine U.ps 3 T rfl (U.k (Q0T x14.Cells c _ g) Q9g (fun x15 g=>?_))
 refine U.done (C.nx ?_)
 refine C.ite rfl g (fun b16 g=>?_) fun b16 g=>?_
 refine C.ss (U.pd 2 T (C.nx (C.ret (C.brt (C.rt (C.rt (C.brt (C.rt ?_))))))))
 exact C.f1 T o (pIi g)
 refine C.skip (C.bnx (C.nx (U.start (U.pd 3 T (C.nx ?_)))))
 exact St.wk (C.next g) (Wk.a [some 0])
 refine C.exit (C.ex (C.ex (C.bex ?_)))
 exact St.wk (j6 _ g) (Wk.mk' [] rfl rfl trivial trivial rfl)
theorem Y2 (s_1:ApiSite) (c:Int) (post:Int→Prop) (g:Km s_1 c post):
  Tr Tryz.prog 59 [.agg (Q1 s_1),.i c] [] 0 (pI post):=by
 refine Tr.go Tryz.func59 Tryz.ntmps59 fun _ _ _ _ o=>?_
 unfold Km at g
 refine C.ss (U.bx ?_)
 refine U.pd 1 T (C.xt ?_)
 refine U.ps 2 T rfl (U.k (WH s_1 c _ g) Q8l (fun x5 g=>?_))
 refine U.pd 1 T (C.xs (C.ss ?_))
 refine U.pd 2 T (C.nx ?_)
 refine C.ite rfl g (fun b8 g=>?_) fun b8 g=>?_
 refine C.ss (U.pd 1 T (C.nx (C.ret (C.rt ?_))))
 exact C.f1 T o (pIi g)
 refine C.skip (C.xt (U.ps 3 T rfl ?_))
 obtain⟨x13,y13,g⟩:=g
 refine U.ix T y13 ?_
 refine U.pd 3 T (C.nx (C.ret ?_))
 exact C.f1 T o (pIi g)
theorem Y5 (s_1:ApiSite) (d:Int) (x_1:Int) (post:Int→Prop) (g:Kq s_1 d x_1 post):
  Tr Tryz.prog 17 [.agg (Q1 s_1),.i d,.i x_1] [] 0 (pI post):=by
 refine Tr.go Tryz.func17 Tryz.ntmps17 fun _ _ _ _ o=>?_
 unfold Kq at g
 refine C.ss (U.bx ?_)
 refine U.pd 1 T (C.xs (C.seq ?_))
 refine C.jn (fun (x3:Bool)=>[(1,.i d),(2,.i x_1),(3,.p 0 0),(20,.b x3)]) (fun x3=>[(0,.box (Q1 s_1))]) 1 g (fun x3 g=>?_) fun J4 g j4=>?_
 refine C.nx ?_
 refine C.ite rfl g (fun b8 g=>?_) fun b8 g=>?_
 refine C.ss (U.pd 1 T (C.nx (C.ret (C.rt ?_))))
 exact C.f1 T o (pIi g)
 refine C.skip (C.xt (U.ps 2 T rfl (U.k (W9 20000 (w64 (1+d)) true _ g) en56 (fun x13 g=>?_))))
 refine U.pd 1 T (C.xs (C.ss ?_))
 refine U.ps 4 T rfl ?_
 obtain⟨x16,y16,g⟩:=g
 refine U.ix T y16 ?_
 refine U.pd 2 T (C.nx ?_)
 refine C.jn (fun (x17:Int)=>[(7,.i x17)]) (fun x17=>[]) 0 g (fun x17 g=>?_) fun J18 g j18=>?_
 refine C.xt (U.pd 2 T (C.nx (C.ret ?_)))
 exact C.f1 T o (pIi g)
 refine C.ite rfl g (fun b19 g=>?_) fun b19 g=>?_
 refine U.start (U.ps 3 T rfl (U.k (Y2 s_1 x_1 _ g) en59 (fun x22 g=>?_)))
 refine U.ps 1 T rfl (U.k (G6 _ g) en15 (fun x23 g=>?_))
 refine U.pd 3 T ?_
 exact St.wn (j18 _ g)
 refine C.skip ?_
 exact St.wn (j18 _ g)
 refine U.start (U.ps 3 T rfl ?_)
 refine g.cs (fun b5 g=>?_) fun b5 g=>?_
 refine U.sk' 2 2 false 10 b5 ?_
 refine U.pk b5 ?_
 refine U.ps 1 T rfl (U.sk' 5 6 false 14 rfl ?_)
 refine U.pk rfl ?_
 refine U.done ?_
 exact St.wa [some 0] (j4 _ g)
 refine U.pq 2 2 false 10 b5 T ?_
 refine U.pk' b5 ?_
 refine U.ps 1 T rfl ?_
 refine g.cs (fun b6 g=>?_) fun b6 g=>?_
 refine U.sk' 5 6 false 14 b6 ?_
 refine U.pk b6 ?_
 refine U.done ?_
 exact St.wa [some 0] (j4 _ g)
 refine U.pq 3 6 false 14 b6 T ?_
 refine U.k (K1 s_1.Floor x_1 _ g) en33 (fun x7 g=>?_) (hw:=.take 6 false 14 _ b6 rfl rfl rfl)
 refine U.pq 1 6 false 14 b6 T ?_
 refine U.pk' b6 ?_
 refine U.done ?_
 exact St.wa [some 0] (j4 _ g)
theorem Q1F (f:ApiFloor) (c:Int) (post:(Int×Int×Int)→Prop) (g:XU f c post):
  Tr Tryz.prog 160 [.agg (Qk f),.i c] [] 0 (fun A H' k=>∃y,post y∧A=(.tup [.i y.1,.i y.2.1,.i y.2.2])∧H'=[]∧k=0):=by
 refine Tr.go Tryz.func160 Tryz.ntmps160 fun _ _ _ _ o=>?_
 unfold XU at g
 refine C.ss (U.bx ?_)
 refine U.pd 3 T (C.xs (C.ss ?_))
 refine U.ps 2 T rfl (U.k (K1 f c _ g) en33 (fun x5 g=>?_))
 refine U.pd 1 T (C.nx ?_)
 refine C.ite rfl g (fun b6 g=>?_) fun b6 g=>?_
 refine C.ss (U.pd 3 T (C.nx (C.ret (C.rt ?_))))
 exact C.f9 T o ⟨(0,0,0),g,rfl,rfl,rfl⟩
 refine C.skip (C.xs (D.bq mix 9999 [0] [] (fun hQ hS ws M'=>?_)))
 refine D.pq 3 (zl [0,1,2]) T ?_
 obtain⟨y11,g⟩:=g
 refine D.q 3 [] hQ hS rfl (.none rfl) rfl rfl (by exact Rd.rm rfl rfl rfl rfl y11) rfl (by kernel_rfl) ?_
 refine D.pq 3 (zl [4,5,6]) T ?_
 obtain⟨y12,g⟩:=g
 refine D.q 7 [] hQ hS rfl (.none rfl) rfl rfl (by exact Rd.dv rfl rfl rfl rfl y12) rfl (by kernel_rfl) ?_
 refine D.pq 2 (zl [8,9]) T ?_
 obtain⟨y13,g⟩:=g
 refine D.q 10 [] hQ hS rfl (.none rfl) rfl rfl (by exact Rd.rm rfl rfl rfl rfl y13) rfl (by kernel_rfl) ?_
 refine D.pq 3 (zl [11,12,13]) T ?_
 obtain⟨y14,g⟩:=g
 refine D.q 14 [] hQ hS rfl (.none rfl) rfl rfl (by exact Rd.dv rfl rfl rfl rfl y14) rfl (by kernel_rfl) ?_
 refine D.pq 2 (zl [15,16]) T ?_
 obtain⟨y15,g⟩:=g
 refine D.q 17 [] hQ hS rfl (.none rfl) rfl rfl (by exact Rd.dv rfl rfl rfl rfl y15) rfl (by kernel_rfl) ?_
 refine D.pq 3 (zl [18,19,20]) T ?_
 refine D.done (by kernel_rfl) ?_
 refine C.nx (C.ret ?_)
 exact C.f9 T o ⟨(c.tmod f.W,(w64 (c.tdiv f.W)).tmod f.H,w64 ((w64 (c.tdiv f.W)).tdiv f.H)),g,rfl,rfl,rfl⟩
theorem KA (f:ApiFloor) (x_1:Int) (y_1:Int) (z:Int) (post:Int→Prop) (g:QM f x_1 y_1 z post):
  Tr Tryz.prog 161 [.agg (Qk f),.i x_1,.i y_1,.i z] [] 0 (pI post):=by
 refine Tr.go Tryz.func161 Tryz.ntmps161 fun _ _ _ _ o=>?_
 unfold QM at g
 refine C.ss (U.bx ?_)
 refine U.pd 1 T (C.xs (C.seq ?_))
 refine C.jn (fun (x3:Bool)=>[(1,.i x_1),(2,.i y_1),(3,.i z),(4,.p 0 0),(36,.b x3)]) (fun x3=>[(0,.box (Qk f))]) 1 g (fun x3 g=>?_) fun J4 g j4=>?_
 refine C.nx ?_
 refine C.ite rfl g (fun b10 g=>?_) fun b10 g=>?_
 refine C.ss (U.pd 1 T (C.nx (C.ret (C.rt ?_))))
 exact C.f1 T o (pIi g)
 refine C.skip (C.xt (U.pd 12 T (C.nx (C.ret ?_))))
 exact C.f1 T o (pIi g)
 refine U.start (U.ps 3 T rfl ?_)
 refine g.cs (fun b5 g=>?_) fun b5 g=>?_
 refine U.sk' 4 2 false 11 b5 ?_
 refine U.pk b5 ?_
 refine U.ps 1 T rfl (U.sk' 2 8 false 17 rfl ?_)
 refine U.pk rfl ?_
 refine U.ps 1 T rfl (U.sk' 4 12 false 21 rfl ?_)
 refine U.pk rfl ?_
 refine U.ps 1 T rfl (U.sk' 2 18 false 27 rfl ?_)
 refine U.pk rfl ?_
 refine U.ps 1 T rfl (U.sk' 4 22 false 31 rfl ?_)
 refine U.pk rfl ?_
 refine U.done ?_
 exact St.wa [some 0] (j4 _ g)
 refine U.pq 4 2 false 11 b5 T ?_
 refine U.pk' b5 ?_
 refine U.ps 1 T rfl ?_
 refine g.cs (fun b6 g=>?_) fun b6 g=>?_
 refine U.sk' 2 8 false 17 b6 ?_
 refine U.pk b6 ?_
 refine U.ps 1 T rfl (U.sk' 4 12 false 21 rfl ?_)
 refine U.pk rfl ?_
 refine U.ps 1 T rfl (U.sk' 2 18 false 27 rfl ?_)
 refine U.pk rfl ?_
 refine U.ps 1 T rfl (U.sk' 4 22 false 31 rfl ?_)
 refine U.pk rfl ?_
 refine U.done ?_
 exact St.wa [some 0] (j4 _ g)
 refine U.pq 2 8 false 17 b6 T ?_
 refine U.pk' b6 ?_
 refine U.ps 1 T rfl ?_
 refine g.cs (fun b7 g=>?_) fun b7 g=>?_
 refine U.sk' 4 12 false 21 b7 ?_
 refine U.pk b7 ?_
 refine U.ps 1 T rfl (U.sk' 2 18 false 27 rfl ?_)
 refine U.pk rfl ?_
 refine U.ps 1 T rfl (U.sk' 4 22 false 31 rfl ?_)
 refine U.pk rfl ?_
 refine U.done ?_
 exact St.wa [some 0] (j4 _ g)
 refine U.pq 4 12 false 21 b7 T ?_
 refine U.pk' b7 ?_
 refine U.ps 1 T rfl ?_
 refine g.cs (fun b8 g=>?_) fun b8 g=>?_
 refine U.sk' 2 18 false 27 b8 ?_
 refine U.pk b8 ?_
 refine U.ps 1 T rfl (U.sk' 4 22 false 31 rfl ?_)
 refine U.pk rfl ?_
 refine U.done ?_
 exact St.wa [some 0] (j4 _ g)
 refine U.pq 2 18 false 27 b8 T ?_
 refine U.pk' b8 ?_
 refine U.ps 1 T rfl ?_
 refine g.cs (fun b9 g=>?_) fun b9 g=>?_
 refine U.sk' 4 22 false 31 b9 ?_
 refine U.pk b9 ?_
 refine U.done ?_
 exact St.wa [some 0] (j4 _ g)
 refine U.pq 4 22 false 31 b9 T ?_
 refine U.pk' b9 ?_
 refine U.done ?_
 exact St.wa [some 0] (j4 _ g)
theorem WG (f:ApiFloor) (c:Int) (d:Int) (post:Int→Prop) (g:Kf f c d post):
  Tr Tryz.prog 119 [.agg (Qk f),.i c,.i d] [] 0 (pI post):=by
 refine Tr.go Tryz.func119 Tryz.ntmps119 fun _ _ _ _ o=>?_
 unfold Kf at g
 refine C.ss (U.bx ?_)
 refine U.pd 1 T (C.xs (C.ss ?_))
 refine U.ps 2 T rfl (U.k (K1 f c _ g) en33 (fun x5 g=>?_))
 refine U.pd 1 T (C.nx ?_)
 refine C.ite rfl g (fun b6 g=>?_) fun b6 g=>?_
 refine C.ss (U.pd 1 T (C.nx (C.ret (C.rt ?_))))
 exact C.f1 T o (pIi g)
 refine C.skip (C.xt (U.ps 2 T rfl (U.k (Q1F f c _ g) Q8N (fun x11 g=>?_))))
 refine U.pd 7 T (C.xs (C.ss ?_))
 refine U.pd 1 T (C.nx (C.block (C.ss ?_)))
 refine U.pd 2 T (C.nx ?_)
 refine C.ite rfl g (fun b16 g=>?_) fun b16 g=>?_
 refine C.ss (U.ps 5 T rfl (U.k (KA f (w64 (x11.1+1)) x11.2.1 x11.2.2 _ g) Q5m (fun x19 g=>?_)))
 refine U.pd 1 T (C.nx (C.ret (C.brt (C.rt ?_))))
 exact C.f1 T o (pIi g)
 refine C.ss (U.pd 2 T (C.nx ?_))
 refine C.ite rfl g (fun b22 g=>?_) fun b22 g=>?_
 refine C.ss (U.ps 5 T rfl (U.k (KA f x11.1 (w64 (x11.2.1+1)) x11.2.2 _ g) Q5m (fun x25 g=>?_)))
 refine U.pd 1 T (C.nx (C.ret (C.brt (C.rt ?_))))
 exact C.f1 T o (pIi g)
 refine C.ss (U.pd 2 T (C.nx ?_))
 refine C.ite rfl g (fun b28 g=>?_) fun b28 g=>?_
 refine C.ss (U.ps 5 T rfl (U.k (KA f (w64 (x11.1-1)) x11.2.1 x11.2.2 _ g) Q5m (fun x31 g=>?_)))
 refine U.pd 1 T (C.nx (C.ret (C.brt (C.rt ?_))))
 exact C.f1 T o (pIi g)
 refine C.ss (U.pd 2 T (C.nx ?_))
 refine C.ite rfl g (fun b34 g=>?_) fun b34 g=>?_
 refine C.ss (U.ps 5 T rfl (U.k (KA f x11.1 (w64 (x11.2.1-1)) x11.2.2 _ g) Q5m (fun x37 g=>?_)))
 refine U.pd 1 T (C.nx (C.ret (C.brt (C.rt ?_))))
 exact C.f1 T o (pIi g)
 refine C.ss (U.pd 2 T (C.nx ?_))
 refine C.ite rfl g (fun b40 g=>?_) fun b40 g=>?_
 refine C.ss (U.ps 5 T rfl (U.k (KA f x11.1 x11.2.1 (w64 (x11.2.2+1)) _ g) Q5m (fun x43 g=>?_)))
 refine U.pd 1 T (C.nx (C.ret (C.brt (C.rt ?_))))
 exact C.f1 T o (pIi g)
 refine C.ss (U.pd 2 T (C.nx ?_))
 refine C.ite rfl g (fun b46 g=>?_) fun b46 g=>?_
 refine C.ss (U.ps 5 T rfl (U.k (KA f x11.1 x11.2.1 (w64 (x11.2.2-1)) _ g) Q5m (fun x49 g=>?_)))
 refine U.pd 1 T (C.nx (C.ret (C.brt (C.rt ?_))))
 exact C.f1 T o (pIi g)
 refine C.skip (C.bnx (C.xt (U.pd 1 T (C.nx (C.ret ?_)))))
 exact C.f1 T o (pIi g)
theorem Yk (f:ApiFloor) (c:Int) (d:Int) (post:(Int×Bool)→Prop) (g:KC f c d post):
  Tr Tryz.prog 62 [.agg (Qk f),.i c,.i d] [] 0 (fun A H' k=>∃y,post y∧A=(.tup [.i y.1,.b y.2])∧H'=[]∧k=0):=by
 refine Tr.go Tryz.func62 Tryz.ntmps62 fun _ _ _ _ o=>?_
 unfold KC at g
 refine C.ss (U.bx ?_)
 refine U.pd 2 T (C.xt ?_)
 refine U.ps 3 T rfl (U.k (WG f c d _ g) Q89 (fun x5 g=>?_))
 refine U.pd 1 T (C.xs (C.ss ?_))
 refine U.pd 2 T (C.nx ?_)
 refine C.ite rfl g (fun b8 g=>?_) fun b8 g=>?_
 refine C.ss (U.pd 2 T (C.nx (C.ret (C.rt ?_))))
 exact C.f9 T o ⟨(0,false),g,rfl,rfl,rfl⟩
 refine C.skip (C.xs (C.seq ?_))
 refine C.jn (fun (x11:Bool)=>[(1,.i c),(2,.i d),(3,.p 0 0),(8,.i x5),(40,.b x11)]) (fun x11=>[(0,.box (Qk f))]) 1 g (fun x11 g=>?_) fun J12 g j12=>?_
 refine C.nx ?_
 refine C.ite rfl g (fun b19 g=>?_) fun b19 g=>?_
 refine C.ss (U.pd 2 T (C.nx (C.ret (C.rt ?_))))
 exact C.f9 T o ⟨(0,false),g,rfl,rfl,rfl⟩
 refine C.skip (C.xs (C.seq ?_))
 refine C.jn (fun (x22:Bool)=>[(8,.i x5),(58,.b x22)]) (fun x22=>[]) 0 g (fun x22 g=>?_) fun J23 g j23=>?_
 refine C.nx ?_
 refine C.ite rfl g (fun b28 g=>?_) fun b28 g=>?_
 refine C.ss (U.pd 2 T (C.nx (C.ret (C.rt ?_))))
 exact C.f9 T o ⟨(0,false),g,rfl,rfl,rfl⟩
 refine C.skip (C.xt (U.pd 3 T (C.nx (C.ret ?_))))
 exact C.f9 T o ⟨(x5,true),g,rfl,rfl,rfl⟩
 refine U.start (U.ps 3 T rfl ?_)
 refine g.cs (fun b24 g=>?_) fun b24 g=>?_
 refine U.pq 3 2 true 43 b24 T ?_
 obtain⟨x25,y25,g⟩:=g
 refine U.r rfl (.tk 2 true 43 b24) rfl rfl (by exact Rd.ix T rfl rfl rfl rfl rfl rfl y25) ?_
 refine U.pq 3 2 true 43 b24 T ?_
 refine g.cs (fun b26 g=>?_) fun b26 g=>?_
 refine U.sk' 6 9 false 50 b26 ?_
 refine U.r rfl (.tk 2 true 43 b24) rfl rfl (by exact Rd.pk rfl rfl b26 rfl) ?_
 refine U.pk b24 ?_
 refine U.done ?_
 exact St.wn (j23 _ g)
 refine U.pq 3 9 false 50 b26 T ?_
 obtain⟨x27,y27,g⟩:=g
 refine U.r rfl (.tk 9 false 50 b26) rfl rfl (by exact Rd.ix T rfl rfl rfl rfl rfl rfl y27) ?_
 refine U.pq 2 9 false 50 b26 T ?_
 refine U.r rfl (.tk 2 true 43 b24) rfl rfl (by exact Rd.pk' rfl rfl b26 rfl) ?_
 refine U.pk b24 ?_
 refine U.done ?_
 exact St.wn (j23 _ g)
 refine U.sk' 7 2 true 43 b24 ?_
 refine U.sku 6 9 false 50 rfl rfl rfl ?_
 refine U.sk' 1 2 true 43 b24 ?_
 refine U.pk' b24 ?_
 refine U.done ?_
 exact St.wn (j23 _ g)
 refine U.start (U.ps 3 T rfl ?_)
 obtain⟨x13,y13,g⟩:=g
 refine U.ix T y13 ?_
 refine U.ps 3 T rfl ?_
 refine g.cs (fun b14 g=>?_) fun b14 g=>?_
 refine U.sk' 6 6 false 21 b14 ?_
 refine U.pk b14 ?_
 refine U.ps 1 T rfl (U.sk' 10 14 false 29 rfl ?_)
 refine U.pk rfl ?_
 refine U.done ?_
 exact St.wa [some 0] (j12 _ g)
 refine U.pq 3 6 false 21 b14 T ?_
 obtain⟨x15,y15,g⟩:=g
 refine U.r rfl (.tk 6 false 21 b14) rfl rfl (by exact Rd.ix T rfl rfl rfl rfl rfl rfl y15) ?_
 refine U.pq 2 6 false 21 b14 T ?_
 refine U.pk' b14 ?_
 refine U.ps 1 T rfl ?_
 refine g.cs (fun b16 g=>?_) fun b16 g=>?_
 refine U.sk' 10 14 false 29 b16 ?_
 refine U.pk b16 ?_
 refine U.done ?_
 exact St.wa [some 0] (j12 _ g)
 refine U.pq 3 14 false 29 b16 T ?_
 obtain⟨x17,y17,g⟩:=g
 refine U.r rfl (.tk 14 false 29 b16) rfl rfl (by exact Rd.ix T rfl rfl rfl rfl rfl rfl y17) ?_
 refine U.pq 3 14 false 29 b16 T ?_
 obtain⟨y18,g⟩:=g
 refine U.r rfl (.tk 14 false 29 b16) rfl rfl (by exact Rd.sh rfl rfl rfl rfl y18) ?_
 refine U.pq 2 14 false 29 b16 T ?_
 refine U.pk' b16 ?_
 refine U.done ?_
 exact St.wa [some 0] (j12 _ g)
theorem GY (s_1:ApiSite) (blocked:List Int) (post:(List Int)→Prop) (g:Kc s_1 blocked post):
  Tr Tryz.prog 20 [.agg (Q1 s_1),.sl 1 eI blocked] [] 0 (fun A H' k=>∃y,post y∧A=(.o 0)∧H'=[(0,.val (.os 1 eI y))]∧k=1):=by
 refine Tr.go Tryz.func20 Tryz.ntmps20 fun _ _ _ _ o=>?_
 unfold Kc at g
 refine C.ss (U.bx ?_)
 refine U.pd 1 T (C.xt ?_)
 refine U.pd 5 T (C.xt ?_)
 refine U.ps 1 T rfl ?_
 obtain⟨y7,g⟩:=g
 refine U.e1 rfl (.none rfl) (by exact Eff1.mk T (enc:=eB) (z0:=false) rfl rfl rfl rfl rfl rfl rfl rfl rfl rfl y7) ?_
 refine U.pd 1 T (C.xs (C.ss ?_))
 refine U.pd 1 T (C.nx ?_)
 refine C.jn (fun (x10:List Bool)=>[(2,.p 0 0),(5,.i (s_1.Floor.Kind.length:Int)),(6,.o 1)]) (fun x10=>[(0,.box (Q1 s_1)),(1,.val (.os 1 eB x10))]) 2 g (fun x10 g=>?_) fun J11 g j11=>?_
 refine C.xt (U.ps 1 T rfl ?_)
 obtain⟨y31,g⟩:=g
 refine U.e1 rfl (.none rfl) (by exact Eff1.mk T (enc:=eI) (z0:=0) rfl rfl rfl rfl rfl rfl rfl rfl rfl rfl y31) ?_
 refine U.pd 1 T (C.xs (C.ss ?_))
 refine U.pd 1 T (C.nx ?_)
 refine C.jn (fun (x34:List Int)=>[(2,.p 0 0),(5,.i (s_1.Floor.Kind.length:Int)),(6,.o 1),(8,.o 2)]) (fun x34=>[(0,.box (Q1 s_1)),(1,.val (.os 1 eB x10)),(2,.val (.os 1 eI x34))]) 3 g (fun x34 g=>?_) fun J35 g j35=>?_
 refine C.xs (C.ss (U.pd 1 T (C.nx ?_)))
 refine C.jn (fun (x56:List Int)=>[(8,.o 0)]) (fun x56=>[(0,.val (.os 1 eI x56))]) 1 g (fun x56 g=>?_) fun J57 g j57=>?_
 refine C.xt (U.pd 2 T (C.nx (C.ret ?_)))
 exact C.g1 [some 0] T o ⟨x56,g,rfl,rfl,rfl⟩
 refine C.block (St.wk (C.loop (fun (s58:List Int×Bool)=>[(2,.p 0 0),(5,.i (s_1.Floor.Kind.length:Int)),(6,.o 1),(8,.o 2),(10,.b s58.2)]) (fun s58=>[(0,.box (Q1 s_1)),(1,.val (.os 1 eB x10)),(2,.val (.os 1 eI s58.1))]) g (fun s58 Y59 g=>?_)) (Wk.a (idR 3)))
 refine C.seq (C.ss (U.pd 1 T (C.nx ?_)))
 refine C.ite rfl g (fun b62 g=>?_) fun b62 g=>?_
 refine C.skip (C.nx ?_)
 refine C.jn (fun (x63:List Int×Bool)=>[(2,.p 0 0),(5,.i (s_1.Floor.Kind.length:Int)),(6,.o 1),(8,.o 2),(10,.b x63.2)]) (fun x63=>[(0,.box (Q1 s_1)),(1,.val (.os 1 eB x10)),(2,.val (.os 1 eI x63.1))]) 3 g (fun x63 g=>?_) fun J64 g j64=>?_
 refine C.nx ?_
 exact St.wk (C.next g) (Wk.a (idR 3))
 refine C.block (C.ss (U.pd 1 T (C.xt ?_)))
 refine U.pd 1 T (C.nx ?_)
 refine C.jn (fun (x69:List Int×Bool)=>[(2,.p 0 0),(5,.i (s_1.Floor.Kind.length:Int)),(6,.o 1),(8,.o 2),(10,.b x69.2)]) (fun x69=>[(0,.box (Q1 s_1)),(1,.val (.os 1 eB x10)),(2,.val (.os 1 eI x69.1))]) 3 g (fun x69 g=>?_) fun J70 g j70=>?_
 refine C.bnx ?_
 exact St.wa (idR 3) (j64 _ g)
 refine C.block (St.wk (C.loop (fun (s71:List Int×Bool×Int)=>[(2,.p 0 0),(5,.i (s_1.Floor.Kind.length:Int)),(6,.o 1),(8,.o 2),(10,.b s71.2.1),(11,.i s71.2.2)]) (fun s71=>[(0,.box (Q1 s_1)),(1,.val (.os 1 eB x10)),(2,.val (.os 1 eI s71.1))]) g (fun s71 Y72 g=>?_)) (Wk.a (idR 3)))
 refine C.seq (C.ss (U.pd 3 T (C.nx ?_)))
 refine C.ite rfl g (fun b75 g=>?_) fun b75 g=>?_
 refine C.skip (C.xs ?_)
 refine C.jn (fun (x76:List Int×Bool)=>[(2,.p 0 0),(5,.i (s_1.Floor.Kind.length:Int)),(6,.o 1),(8,.o 2),(10,.b x76.2),(11,.i s71.2.2)]) (fun x76=>[(0,.box (Q1 s_1)),(1,.val (.os 1 eB x10)),(2,.val (.os 1 eI x76.1))]) 3 g (fun x76 g=>?_) fun J77 g j77=>?_
 refine C.nx (U.start (U.pd 3 T (C.nx ?_)))
 exact St.wk (C.next g) (Wk.a (idR 3))
 refine C.block (C.ss (U.pd 1 T (C.nx ?_)))
 refine C.jn (fun (x80:List Int×Bool)=>[(2,.p 0 0),(5,.i (s_1.Floor.Kind.length:Int)),(6,.o 1),(8,.o 2),(10,.b x80.2),(11,.i s71.2.2)]) (fun x80=>[(0,.box (Q1 s_1)),(1,.val (.os 1 eB x10)),(2,.val (.os 1 eI x80.1))]) 3 g (fun x80 g=>?_) fun J81 g j81=>?_
 refine C.bnx ?_
 exact St.wa (idR 3) (j77 _ g)
 refine C.block (St.wk (C.loop (fun (s82:List Int×Bool×Int)=>[(2,.p 0 0),(5,.i (s_1.Floor.Kind.length:Int)),(6,.o 1),(8,.o 2),(10,.b s82.2.1),(11,.i s71.2.2),(12,.i s82.2.2)]) (fun s82=>[(0,.box (Q1 s_1)),(1,.val (.os 1 eB x10)),(2,.val (.os 1 eI s82.1))]) g (fun s82 Y83 g=>?_)) (Wk.a (idR 3)))
 refine C.seq (C.ss (U.pd 2 T (C.nx ?_)))
 refine C.ite rfl g (fun b86 g=>?_) fun b86 g=>?_
 refine C.skip (C.xs ?_)
 refine C.jn (fun (x87:List Int×Bool)=>[(2,.p 0 0),(5,.i (s_1.Floor.Kind.length:Int)),(6,.o 1),(8,.o 2),(10,.b x87.2),(11,.i s71.2.2),(12,.i s82.2.2)]) (fun x87=>[(0,.box (Q1 s_1)),(1,.val (.os 1 eB x10)),(2,.val (.os 1 eI x87.1))]) 3 g (fun x87 g=>?_) fun J88 g j88=>?_
 refine C.nx (U.start (U.pd 3 T (C.nx ?_)))
 exact St.wk (C.next g) (Wk.a (idR 3))
 refine C.block (C.ss (U.ps 4 T rfl (U.k (Yk s_1.Floor s71.2.2 s82.2.2 _ g) en62 (fun x91 g=>?_))))
 refine U.pd 5 T (C.xs (C.seq ?_))
 refine C.jn (fun (x92:Bool)=>[(2,.p 0 0),(5,.i (s_1.Floor.Kind.length:Int)),(6,.o 1),(8,.o 2),(10,.b s82.2.1),(11,.i s71.2.2),(12,.i s82.2.2),(13,.i x91.1),(87,.b x92)]) (fun x92=>[(0,.box (Q1 s_1)),(1,.val (.os 1 eB x10)),(2,.val (.os 1 eI s82.1))]) 3 g (fun x92 g=>?_) fun J93 g j93=>?_
 refine C.nx ?_
 refine C.ite rfl g (fun b96 g=>?_) fun b96 g=>?_
 refine C.exit (C.ex (C.bex ?_))
 exact St.wa (idR 3) (j88 _ g)
 refine C.skip (C.xs (C.seq ?_))
 refine C.jn (fun (x97:Bool)=>[(2,.p 0 0),(5,.i (s_1.Floor.Kind.length:Int)),(6,.o 1),(8,.o 2),(10,.b s82.2.1),(11,.i s71.2.2),(12,.i s82.2.2),(13,.i x91.1),(98,.b x97)]) (fun x97=>[(0,.box (Q1 s_1)),(1,.val (.os 1 eB x10)),(2,.val (.os 1 eI s82.1))]) 3 g (fun x97 g=>?_) fun J98 g j98=>?_
 refine C.nx ?_
 refine C.ite rfl g (fun b102 g=>?_) fun b102 g=>?_
 refine C.exit (C.ex (C.bex ?_))
 exact St.wa (idR 3) (j88 _ g)
 refine C.skip (C.xs (D.bq mix 9999 [0,2] [] (fun hQ hS ws M'=>?_)))
 refine D.pq 2 (zl [0,1]) T ?_
 obtain⟨x105,y105,g⟩:=g
 refine D.q 2 [] hQ hS rfl (.none rfl) rfl rfl (by exact Rd.io T rfl rfl rfl rfl rfl rfl rfl y105) rfl (by kernel_rfl) ?_
 refine D.q 3 [] hQ hS rfl (.none rfl) rfl rfl (by exact Rd.le T rfl rfl rfl (Q6 y105).2.2 rfl rfl rfl) rfl (by kernel_rfl) ?_
 refine D.pq 3 (zl [4,5,6]) T ?_
 refine D.k 7 (Y5 s_1 s82.2.2 x91.1 _ g) en17 fun x106 g=>?_
 refine D.pq 2 (zl [8,9]) T ?_
 refine D.done (by kernel_rfl) ?_
 refine C.xs ?_
 refine C.jn (fun (x107:Bool)=>[(2,.p 0 0),(5,.i (s_1.Floor.Kind.length:Int)),(6,.o 1),(8,.o 2),(10,.b s82.2.1),(11,.i s71.2.2),(12,.i s82.2.2),(15,.i (w64 (x105+x106))),(120,.b x107)]) (fun x107=>[(0,.box (Q1 s_1)),(1,.val (.os 1 eB x10)),(2,.val (.os 1 eI s82.1))]) 3 g (fun x107 g=>?_) fun J108 g j108=>?_
 refine C.nx ?_
 refine C.jn (fun (x111:List Int×Bool)=>[(2,.p 0 0),(5,.i (s_1.Floor.Kind.length:Int)),(6,.o 1),(8,.o 2),(10,.b x111.2),(11,.i s71.2.2),(12,.i s82.2.2)]) (fun x111=>[(0,.box (Q1 s_1)),(1,.val (.os 1 eB x10)),(2,.val (.os 1 eI x111.1))]) 3 g (fun x111 g=>?_) fun J112 g j112=>?_
 refine C.bnx ?_
 exact St.wa (idR 3) (j88 _ g)
 refine C.ite rfl g (fun b113 g=>?_) fun b113 g=>?_
 refine C.ss (U.ps 3 T rfl ?_)
 obtain⟨x116,y116,g⟩:=g
 refine U.r rfl (.none rfl) rfl rfl (by exact Rd.io T rfl rfl rfl rfl rfl rfl rfl y116) ?_
 refine U.e1 rfl (.none rfl) (by exact Eff1.se T (z':=w64 (x105+x106)) rfl rfl rfl (Q6 y116).2.2 rfl rfl rfl rfl rfl rfl rfl rfl (fun _=>rfl) rfl) ?_
 refine U.done (C.nx (U.start (U.pd 1 T ?_)))
 exact St.wa (idR 3) (j112 _ g)
 refine C.skip ?_
 exact St.wa (idR 3) (j112 _ g)
 refine U.start (U.ps 2 T rfl ?_)
 obtain⟨x109,y109,g⟩:=g
 refine U.r rfl (.none rfl) rfl rfl (by exact Rd.io T rfl rfl rfl rfl rfl rfl rfl y109) ?_
 refine U.r rfl (.none rfl) rfl rfl (by exact Rd.le T rfl rfl rfl (Q6 y109).2.2 rfl rfl rfl) ?_
 refine U.ps 2 T rfl ?_
 refine g.cs (fun b110 g=>?_) fun b110 g=>?_
 refine U.sk' 6 5 false 113 b110 ?_
 refine U.pk b110 ?_
 refine U.done ?_
 exact St.wa (idR 3) (j108 _ g)
 refine U.pq 3 5 false 113 b110 T ?_
 refine U.r rfl (.tk 5 false 113 b110) rfl rfl (by exact Rd.io T rfl rfl rfl rfl rfl rfl rfl y109) ?_
 refine U.r rfl (.tk 5 false 113 b110) rfl rfl (by exact Rd.le T rfl rfl rfl (Q6 y109).2.2 rfl rfl rfl) ?_
 refine U.pq 1 5 false 113 b110 T ?_
 refine U.pk' b110 ?_
 refine U.done ?_
 exact St.wa (idR 3) (j108 _ g)
 refine U.start (U.ps 2 T rfl ?_)
 obtain⟨x99,y99,g⟩:=g
 refine U.r rfl (.none rfl) rfl rfl (by exact Rd.io T rfl rfl rfl rfl rfl rfl rfl y99) ?_
 refine U.r rfl (.none rfl) rfl rfl (by exact Rd.le T rfl rfl rfl (Q6 y99).2.2 rfl rfl rfl) ?_
 refine U.ps 2 T rfl ?_
 refine g.cs (fun b100 g=>?_) fun b100 g=>?_
 refine U.sk' 4 5 false 93 b100 ?_
 refine U.pk b100 ?_
 refine U.done ?_
 exact St.wa (idR 3) (j98 _ g)
 refine U.pq 2 5 false 93 b100 T ?_
 obtain⟨x101,y101,g⟩:=g
 refine U.r rfl (.tk 5 false 93 b100) rfl rfl (by exact Rd.io T rfl rfl rfl rfl rfl rfl rfl y101) ?_
 refine U.r rfl (.tk 5 false 93 b100) rfl rfl (by exact Rd.le T rfl rfl rfl (Q6 y101).2.2 rfl rfl rfl) ?_
 refine U.pk' b100 ?_
 refine U.done ?_
 exact St.wa (idR 3) (j98 _ g)
 refine U.start (U.ps 3 T rfl ?_)
 refine g.cs (fun b94 g=>?_) fun b94 g=>?_
 refine U.pq 2 2 false 81 (ntF b94) T ?_
 obtain⟨x95,y95,g⟩:=g
 refine U.r rfl (.tk 2 false 81 (ntF b94)) rfl rfl (by exact Rd.io T rfl rfl rfl rfl rfl rfl rfl y95) ?_
 refine U.r rfl (.tk 2 false 81 (ntF b94)) rfl rfl (by exact Rd.le T rfl rfl rfl (Q6 y95).2.2 rfl rfl rfl) ?_
 refine U.pq 1 2 false 81 (ntF b94) T ?_
 refine U.pk' (ntF b94) ?_
 refine U.done ?_
 exact St.wa (idR 3) (j93 _ g)
 refine U.sk' 5 2 false 81 (ntT b94) ?_
 refine U.pk (ntT b94) ?_
 refine U.done ?_
 exact St.wa (idR 3) (j93 _ g)
 refine C.exit (C.ex (C.ex (C.bex ?_)))
 exact St.wa (idR 3) (j81 _ g)
 refine C.exit (C.ex (C.ex (C.bex ?_)))
 exact St.wa (idR 3) (j70 _ g)
 refine C.exit (C.ex (C.ex (C.bex ?_)))
 exact St.wa [some 2] (j57 _ g)
 refine C.block (St.wk (C.loop (fun (s36:List Int×Int)=>[(2,.p 0 0),(5,.i (s_1.Floor.Kind.length:Int)),(6,.o 1),(8,.o 2),(9,.i s36.2)]) (fun s36=>[(0,.box (Q1 s_1)),(1,.val (.os 1 eB x10)),(2,.val (.os 1 eI s36.1))]) g (fun s36 Y37 g=>?_)) (Wk.a (idR 3)))
 refine C.seq (C.ss (U.pd 3 T (C.nx ?_)))
 refine C.ite rfl g (fun b40 g=>?_) fun b40 g=>?_
 refine C.skip (C.xs (C.block (C.ss (U.ps 2 T rfl ?_))))
 obtain⟨x43,y43,g⟩:=g
 refine U.r rfl (.none rfl) rfl rfl (by exact Rd.io T rfl rfl rfl rfl rfl rfl rfl y43) ?_
 refine U.e1 rfl (.none rfl) (by exact Eff1.se T (z':=(-1)) rfl rfl rfl (Q6 y43).2.2 rfl rfl rfl rfl rfl rfl rfl rfl (fun _=>rfl) rfl) ?_
 refine U.done (C.xt (U.ps 4 T rfl ?_))
 obtain⟨x46,y46,g⟩:=g
 refine U.ix T y46 ?_
 refine U.pd 2 T (C.nx ?_)
 refine C.jn (fun (x47:List Int)=>[(2,.p 0 0),(5,.i (s_1.Floor.Kind.length:Int)),(6,.o 1),(8,.o 2),(9,.i s36.2)]) (fun x47=>[(0,.box (Q1 s_1)),(1,.val (.os 1 eB x10)),(2,.val (.os 1 eI x47))]) 3 g (fun x47 g=>?_) fun J48 g j48=>?_
 refine C.bnx (C.nx (U.start (U.pd 3 T (C.nx ?_))))
 exact St.wk (C.next g) (Wk.a (idR 3))
 refine C.ite rfl g (fun b49 g=>?_) fun b49 g=>?_
 refine U.start (U.ps 2 T rfl (U.r rfl (.none rfl) rfl rfl (by exact Rd.io T rfl rfl rfl rfl rfl rfl rfl (Q1W y43)) ?_))
 refine U.e1 rfl (.none rfl) (by exact Eff1.se T (z':=0) rfl rfl rfl (Wb (Q6 y43).2.2) rfl rfl rfl rfl rfl rfl rfl rfl (fun _=>rfl) rfl) ?_
 refine U.done ?_
 exact St.wa (idR 3) (j48 _ g)
 refine C.skip ?_
 exact St.wa (idR 3) (j48 _ g)
 refine C.exit (C.ex (C.ex (C.bex ?_)))
 exact St.wa (idR 3) (j35 _ g)
 refine C.block (St.wk (C.loop (fun (s12:List Bool×Int)=>[(1,.sl 1 eI blocked),(2,.p 0 0),(5,.i (s_1.Floor.Kind.length:Int)),(6,.o 1),(7,.i s12.2)]) (fun s12=>[(0,.box (Q1 s_1)),(1,.val (.os 1 eB s12.1))]) g (fun s12 Y13 g=>?_)) (Wk.a (idR 2)))
 refine C.seq (C.ss (U.pd 4 T (C.nx ?_)))
 refine C.ite rfl g (fun b16 g=>?_) fun b16 g=>?_
 refine C.skip (C.xs (C.block (C.seq (D.bq mix 6 [0] [] (fun hQ hS ws M'=>?_)))))
 refine D.pq 4 [(0,[1]),(1,[]),(2,[5,4]),(3,[5,4])] T ?_
 obtain⟨x19,y19,g⟩:=g
 refine D.ix 4 [5] T y19 ?_
 refine D.pq 1 [(5,[])] T ?_
 refine D.ze rfl (.none rfl) (by exact Eff.k (K1 s_1.Floor x19 _ g) en33 rfl rfl rfl (.eq rfl) (fun _ _=>⟨(.v _),trivial⟩)) (by kernel_rfl) (by kernel_rfl) (fun x20' g=>?_)
 obtain⟨x20⟩:=x20'
 refine C.nx ?_
 refine C.jn (fun (x21:List Bool)=>[(1,.sl 1 eI blocked),(2,.p 0 0),(5,.i (s_1.Floor.Kind.length:Int)),(6,.o 1),(7,.i s12.2)]) (fun x21=>[(0,.box (Q1 s_1)),(1,.val (.os 1 eB x21))]) 2 g (fun x21 g=>?_) fun J22 g j22=>?_
 refine C.bnx (C.nx (U.start (U.pd 3 T (C.nx ?_))))
 exact St.wk (C.next g) (Wk.a (idR 2))
 refine C.ite rfl g (fun b23 g=>?_) fun b23 g=>?_
 refine U.start (U.ps 3 T rfl (U.ix T y19 ?_))
 refine U.ps 1 T rfl ?_
 obtain⟨x26,y26,g⟩:=g
 refine U.r rfl (.none rfl) rfl rfl (by exact Rd.io T rfl rfl rfl rfl rfl rfl rfl y26) ?_
 refine U.e1 rfl (.none rfl) (by exact Eff1.se T (z':=true) rfl rfl rfl (Q6 y26).2.2 rfl rfl rfl rfl rfl rfl rfl rfl (fun _=>rfl) rfl) ?_
 refine U.done ?_
 exact St.wa (idR 2) (j22 _ g)
 refine C.skip ?_
 exact St.wa (idR 2) (j22 _ g)
 refine C.exit (C.ex (C.ex (C.bex ?_)))
 exact St.wa (idR 2) (j11 _ g)
theorem Gk (l:List Int) (n:Int) (post:Bool→Prop) (g:K9 l n post):
  Tr Tryz.prog 66 [.sl 1 eI l,.i n] [] 0 (pB post):=by
 refine Tr.go Tryz.func66 Tryz.ntmps66 fun _ _ _ _ o=>?_
 unfold K9 at g
 refine C.ss (U.pd 1 T (C.xs (C.ss ?_)))
 refine U.pd 1 T (C.nx ?_)
 refine C.jn (fun (x5:Unit)=>[]) (fun x5=>[]) 0 g (fun x5 g=>?_) fun J6 g j6=>?_
 refine C.xt (U.pd 1 T (C.nx (C.ret ?_)))
 exact C.f1 T o (pBi g)
 refine C.block (St.wk (C.loop (fun (s7:Int)=>[(0,.sl 1 eI l),(1,.i n),(5,.i s7)]) (fun s7=>[]) g (fun s7 Y8 g=>?_)) (Wk.e))
 refine C.seq (C.ss (U.pd 4 T (C.nx ?_)))
 refine C.ite rfl g (fun b11 g=>?_) fun b11 g=>?_
 refine C.skip (C.xs (C.block (C.ss (U.ps 2 T rfl ?_))))
 obtain⟨x14,y14,g⟩:=g
 refine U.ix T y14 ?_
 refine U.pd 3 T (C.nx ?_)
 refine C.ite rfl g (fun b15 g=>?_) fun b15 g=>?_
 refine C.ss (U.pd 1 T (C.nx (C.ret (C.brt (C.rt (C.rt (C.brt (C.rt ?_))))))))
 exact C.f1 T o (pBi g)
 refine C.skip (C.bnx (C.nx (U.start (U.pd 3 T (C.nx ?_)))))
 exact St.wk (C.next g) (Wk.e)
 refine C.exit (C.ex (C.ex (C.bex ?_)))
 exact St.wk (j6 _ g) (Wk.mk' [] rfl rfl trivial trivial rfl)
theorem WW (s_1:ApiSite) (blocked:List Int) (delay:Int) (post:(List Int)→Prop) (g:Ko s_1 blocked delay post):
  Tr Tryz.prog 24 [.agg (Q1 s_1),.sl 1 eI blocked,.i delay] [] 0 (fun A H' k=>∃y,post y∧A=(.o 0)∧H'=[(0,.val (.os 1 eI y))]∧k=1):=by
 refine Tr.go Tryz.func24 Tryz.ntmps24 fun _ _ _ _ o=>?_
 unfold Ko at g
 refine C.ss (U.bx ?_)
 refine U.pd 1 T (C.xt ?_)
 refine U.ps 2 T rfl (U.k (GY s_1 blocked _ g) en20 (fun x5 g=>?_))
 refine U.pd 1 T (C.xt ?_)
 refine U.ps 2 T rfl ?_
 obtain⟨y8,g⟩:=g
 refine U.e1 rfl (.none rfl) (by exact Eff1.mk T (enc:=eI) (z0:=0) rfl rfl rfl rfl rfl rfl rfl rfl rfl rfl y8) ?_
 refine U.pd 1 T (C.xs (C.ss ?_))
 refine U.pd 1 T (C.nx ?_)
 refine C.jn (fun (x11:List Int)=>[(1,.sl 1 eI blocked),(3,.p 0 0),(7,.o 1),(8,.o 2)]) (fun x11=>[(0,.box (Q1 s_1)),(1,.val (.os 1 eI x5)),(2,.val (.os 1 eI x11))]) 3 g (fun x11 g=>?_) fun J12 g j12=>?_
 refine C.xs (C.ss (U.pd 1 T (C.nx ?_)))
 refine C.jn (fun (x34:List Int)=>[(8,.o 0)]) (fun x34=>[(0,.val (.os 1 eI x34))]) 1 g (fun x34 g=>?_) fun J35 g j35=>?_
 refine C.xt (U.pd 2 T (C.nx (C.ret ?_)))
 exact C.g1 [some 0] T o ⟨x34,g,rfl,rfl,rfl⟩
 refine C.block (St.wk (C.loop (fun (s36:List Int×Int)=>[(1,.sl 1 eI blocked),(3,.p 0 0),(7,.o 1),(8,.o 2),(10,.i s36.2)]) (fun s36=>[(0,.box (Q1 s_1)),(1,.val (.os 1 eI x5)),(2,.val (.os 1 eI s36.1))]) g (fun s36 Y37 g=>?_)) (Wk.a (idR 3)))
 refine C.seq (C.ss (U.pd 4 T (C.nx ?_)))
 refine C.ite rfl g (fun b40 g=>?_) fun b40 g=>?_
 refine C.skip (C.xs ?_)
 refine C.jn (fun (x41:List Int)=>[(1,.sl 1 eI blocked),(3,.p 0 0),(7,.o 1),(8,.o 2),(10,.i s36.2)]) (fun x41=>[(0,.box (Q1 s_1)),(1,.val (.os 1 eI x5)),(2,.val (.os 1 eI x41))]) 3 g (fun x41 g=>?_) fun J42 g j42=>?_
 refine C.nx (U.start (U.pd 3 T (C.nx ?_)))
 exact St.wk (C.next g) (Wk.a (idR 3))
 refine C.block (C.seq (C.ss (U.ps 2 T rfl (U.k (Gk blocked s36.2 _ g) en66 (fun x45 g=>?_)))))
 refine U.done (C.nx ?_)
 refine C.ite rfl g (fun b46 g=>?_) fun b46 g=>?_
 refine C.exit (C.ex (C.bex ?_))
 exact St.wa (idR 3) (j42 _ g)
 refine C.skip (C.xs (D.bq mix 9999 [0] [3,4,5] (fun hQ hS ws M'=>?_)))
 refine D.pq 3 (zl [0,2,4]) T ?_
 obtain⟨y49,g⟩:=g
 refine D.have false [(1,.sl 1 eI blocked),(3,.p 0 0),(7,.o 1),(8,.o 2),(10,.i s36.2),(44,.i s36.2),(45,.o 1),(46,.i (x5.length:Int)),(47,.b (decide (s36.2<(x5.length:Int)))),(50,.sl 1 eI blocked),(51,.i s36.2),(52,.b x45),(53,.agg (Q1 s_1)),(54,.o 3),(55,.sl 1 eI blocked),(56,.o 4),(57,.i s36.2),(58,.o 5)] [(0,.box (Q1 s_1)),(1,.val (.os 1 eI x5)),(2,.val (.os 1 eI s36.1)),(4,.val (.os 1 eI (([]:List Int)++blocked))),(5,.val (.os 1 eI ([s36.2]:List Int)))] 6 3 #[true,true,true,true,true,true,false,false,false] ?_ fun hd48_5=>?_
 obtain⟨y50,g⟩:=g
 refine D.e1 6 rfl (.none rfl) (by exact Eff1.ap T rfl rfl rfl rfl rfl rfl (.inr ⟨_,rfl,rfl⟩) rfl rfl rfl (fun _=>rfl) rfl y50) (by kernel_rfl) rfl rfl ?_
 refine D.k 7 (GY s_1 ((([]:List Int)++blocked)++([s36.2]:List Int)) _ g) en20 fun x51 g=>?_
 refine D.pq 1 [(8,[])] T ?_
 refine D.done (by kernel_rfl) ?_
 refine C.xt (U.pd 1 T (C.nx ?_))
 refine C.jn (fun (x54:List Int)=>[(1,.sl 1 eI blocked),(3,.p 0 0),(7,.o 1),(8,.o 2),(10,.i s36.2)]) (fun x54=>[(0,.box (Q1 s_1)),(1,.val (.os 1 eI x5)),(2,.val (.os 1 eI x54))]) 3 g (fun x54 g=>?_) fun J55 g j55=>?_
 refine C.bnx ?_
 exact St.wa (idR 3) (j42 _ g)
 refine C.block (St.wk (C.loop (fun (s56:List Int×Int)=>[(1,.sl 1 eI blocked),(3,.p 0 0),(7,.o 1),(8,.o 2),(10,.i s36.2),(11,.o 3),(12,.i s56.2)]) (fun s56=>[(0,.box (Q1 s_1)),(1,.val (.os 1 eI x5)),(2,.val (.os 1 eI s56.1)),(3,.val (.os 1 eI x51))]) g (fun s56 Y57 g=>?_)) (Wk.a [some 0,some 1,some 2,some 7]))
 refine C.seq (C.ss (U.pd 4 T (C.nx ?_)))
 refine C.ite rfl g (fun b60 g=>?_) fun b60 g=>?_
 refine C.skip (C.xs ?_)
 refine C.jn (fun (x61:List Int)=>[(1,.sl 1 eI blocked),(3,.p 0 0),(7,.o 1),(8,.o 2),(10,.i s36.2),(11,.o 3),(12,.i s56.2)]) (fun x61=>[(0,.box (Q1 s_1)),(1,.val (.os 1 eI x5)),(2,.val (.os 1 eI x61)),(3,.val (.os 1 eI x51))]) 4 g (fun x61 g=>?_) fun J62 g j62=>?_
 refine C.nx (U.start (U.pd 3 T (C.nx ?_)))
 exact St.wk (C.next g) (Wk.a (idR 4))
 refine C.block (C.seq (C.seq ?_))
 refine C.jn (fun (x63:Bool)=>[(1,.sl 1 eI blocked),(3,.p 0 0),(7,.o 1),(8,.o 2),(10,.i s36.2),(11,.o 3),(12,.i s56.2),(76,.b x63)]) (fun x63=>[(0,.box (Q1 s_1)),(1,.val (.os 1 eI x5)),(2,.val (.os 1 eI s56.1)),(3,.val (.os 1 eI x51))]) 4 g (fun x63 g=>?_) fun J64 g j64=>?_
 refine C.nx ?_
 refine C.ite rfl g (fun b67 g=>?_) fun b67 g=>?_
 refine C.exit (C.ex (C.bex ?_))
 exact St.wa (idR 4) (j62 _ g)
 refine C.skip (C.xs (D.bq mix 12 [2,3] [] (fun hQ hS ws M'=>?_)))
 refine D.pq 4 (zl [0,1,2,3]) T ?_
 obtain⟨x70,y70,g⟩:=g
 refine D.q 4 [] hQ hS rfl (.none rfl) rfl rfl (by exact Rd.io T rfl rfl rfl rfl rfl rfl rfl y70) rfl (by kernel_rfl) ?_
 refine D.q 5 [] hQ hS rfl (.none rfl) rfl rfl (by exact Rd.le T rfl rfl rfl (Q6 y70).2.2 rfl rfl rfl) rfl (by kernel_rfl) ?_
 refine D.pq 2 (zl [6,7]) T ?_
 obtain⟨x71,y71,g⟩:=g
 refine D.q 8 [] hQ hS rfl (.none rfl) rfl rfl (by exact Rd.io T rfl rfl rfl rfl rfl rfl rfl y71) rfl (by kernel_rfl) ?_
 refine D.q 9 [] hQ hS rfl (.none rfl) rfl rfl (by exact Rd.le T rfl rfl rfl (Q6 y71).2.2 rfl rfl rfl) rfl (by kernel_rfl) ?_
 refine D.pq 1 [(10,[])] T ?_
 refine D.q 11 [] hQ hS rfl (.none rfl) rfl rfl (by exact Rd.io T rfl rfl rfl rfl rfl rfl rfl y70) rfl (by kernel_rfl) ?_
 refine D.ze1 rfl (.none rfl) (by exact Eff1.se T (z':=imax x70 x71) rfl rfl rfl (Q6 y70).2.2 rfl rfl rfl rfl rfl rfl rfl rfl (fun _=>rfl) rfl) (by kernel_rfl) (by kernel_rfl) ?_
 refine C.xt (U.ps 2 T rfl (U.r rfl (.none rfl) rfl rfl (by exact Rd.io T rfl rfl rfl rfl rfl rfl rfl y71) ?_))
 refine U.r rfl (.none rfl) rfl rfl (by exact Rd.le T rfl rfl rfl (Q6 y71).2.2 rfl rfl rfl) ?_
 refine U.pd 1 T (C.nx ?_)
 refine C.jn (fun (x74:List Int)=>[(1,.sl 1 eI blocked),(3,.p 0 0),(7,.o 1),(8,.o 2),(10,.i s36.2),(11,.o 3),(12,.i s56.2)]) (fun x74=>[(0,.box (Q1 s_1)),(1,.val (.os 1 eI x5)),(2,.val (.os 1 eI x74)),(3,.val (.os 1 eI x51))]) 4 g (fun x74 g=>?_) fun J75 g j75=>?_
 refine C.bnx ?_
 exact St.wa (idR 4) (j62 _ g)
 refine C.ite rfl g (fun b76 g=>?_) fun b76 g=>?_
 refine U.start (U.ps 2 T rfl (U.r rfl (.none rfl) rfl rfl (by exact Rd.io T rfl rfl rfl rfl rfl rfl rfl (Q1W y70)) ?_))
 refine U.e1 rfl (.none rfl) (by exact Eff1.se T (z':=(-1)) rfl rfl rfl (Wb (Q6 y70).2.2) rfl rfl rfl rfl rfl rfl rfl rfl (fun _=>rfl) rfl) ?_
 refine U.done ?_
 exact St.wa (idR 4) (j75 _ g)
 refine C.skip ?_
 exact St.wa (idR 4) (j75 _ g)
 refine U.start (U.ps 4 T rfl ?_)
 refine g.cs (fun b65 g=>?_) fun b65 g=>?_
 refine U.sk' 5 3 false 70 b65 ?_
 refine U.pk b65 ?_
 refine U.done ?_
 exact St.wa (idR 4) (j64 _ g)
 refine U.pq 2 3 false 70 b65 T ?_
 obtain⟨x66,y66,g⟩:=g
 refine U.r rfl (.tk 3 false 70 b65) rfl rfl (by exact Rd.io T rfl rfl rfl rfl rfl rfl rfl y66) ?_
 refine U.r rfl (.tk 3 false 70 b65) rfl rfl (by exact Rd.le T rfl rfl rfl (Q6 y66).2.2 rfl rfl rfl) ?_
 refine U.pq 1 3 false 70 b65 T ?_
 refine U.pk' b65 ?_
 refine U.done ?_
 exact St.wa (idR 4) (j64 _ g)
 refine C.exit (C.ex (C.ex (C.bex ?_)))
 exact St.wa (idR 3) (j55 _ g)
 refine D.have false [(1,.sl 1 eI blocked),(3,.p 0 0),(7,.o 1),(8,.o 2),(10,.i s36.2),(44,.i s36.2),(45,.o 1),(46,.i (x5.length:Int)),(47,.b (decide (s36.2<(x5.length:Int)))),(50,.sl 1 eI blocked),(51,.i s36.2),(52,.b x45),(53,.agg (Q1 s_1)),(54,.o 3),(55,.sl 1 eI blocked),(56,.o 4),(57,.i s36.2)] [(0,.box (Q1 s_1)),(1,.val (.os 1 eI x5)),(2,.val (.os 1 eI s36.1)),(4,.val (.os 1 eI (([]:List Int)++blocked)))] 5 4 #[true,true,true,true,true,false,false,false,false] ?_ fun hd48_3=>?_
 refine D.all 5 [] (by kernel_rfl) ⟨?_,trivial⟩
 refine D.bs T eI ([s36.2]:List Int) ?_
 exact D.tq [0,1,2,3,4,5] hd48_5
 refine D.have false [(1,.sl 1 eI blocked),(3,.p 0 0),(7,.o 1),(8,.o 2),(10,.i s36.2),(44,.i s36.2),(45,.o 1),(46,.i (x5.length:Int)),(47,.b (decide (s36.2<(x5.length:Int)))),(50,.sl 1 eI blocked),(51,.i s36.2),(52,.b x45),(53,.agg (Q1 s_1)),(54,.o 3),(55,.sl 1 eI blocked),(57,.i s36.2),(58,.o 4)] [(0,.box (Q1 s_1)),(1,.val (.os 1 eI x5)),(2,.val (.os 1 eI s36.1)),(3,.val (.os 1 eI ([]:List Int))),(4,.val (.os 1 eI ([s36.2]:List Int)))] 5 4 #[true,true,true,false,true,true,false,false,false] ?_ fun hd48_4=>?_
 refine D.all 3 [] (by kernel_rfl) ⟨?_,trivial⟩
 refine D.ef1 rfl (.none rfl) (by exact Eff1.ap T rfl rfl rfl rfl rfl rfl (.inl rfl) rfl rfl rfl (fun _=>rfl) rfl y49) rfl rfl ?_
 exact D.tq [0,1,2,3,5,4] hd48_5
 refine D.have false [(1,.sl 1 eI blocked),(3,.p 0 0),(7,.o 1),(8,.o 2),(10,.i s36.2),(44,.i s36.2),(45,.o 1),(46,.i (x5.length:Int)),(47,.b (decide (s36.2<(x5.length:Int)))),(50,.sl 1 eI blocked),(51,.i s36.2),(52,.b x45),(53,.agg (Q1 s_1)),(54,.o 3),(55,.sl 1 eI blocked),(57,.i s36.2)] [(0,.box (Q1 s_1)),(1,.val (.os 1 eI x5)),(2,.val (.os 1 eI s36.1)),(3,.val (.os 1 eI ([]:List Int)))] 4 5 #[true,true,true,false,true,false,false,false,false] ?_ fun hd48_1=>?_
 refine D.all 3 [5] (by kernel_rfl) ⟨?_,?_,trivial⟩
 refine D.ef1 rfl (.none rfl) (by exact Eff1.ap T rfl rfl rfl rfl rfl rfl (.inl rfl) rfl rfl rfl (fun _=>rfl) rfl y49) rfl rfl ?_
 exact D.tq [0,1,2,3,4] hd48_3
 refine D.bs T eI ([s36.2]:List Int) ?_
 exact D.tq [0,1,2,3,4] hd48_4
 refine D.have false [(1,.sl 1 eI blocked),(3,.p 0 0),(7,.o 1),(8,.o 2),(10,.i s36.2),(44,.i s36.2),(45,.o 1),(46,.i (x5.length:Int)),(47,.b (decide (s36.2<(x5.length:Int)))),(50,.sl 1 eI blocked),(51,.i s36.2),(52,.b x45),(53,.agg (Q1 s_1)),(55,.sl 1 eI blocked),(57,.i s36.2),(58,.o 3)] [(0,.box (Q1 s_1)),(1,.val (.os 1 eI x5)),(2,.val (.os 1 eI s36.1)),(3,.val (.os 1 eI ([s36.2]:List Int)))] 4 5 #[true,false,true,false,true,true,false,false,false] ?_ fun hd48_2=>?_
 refine D.all 1 [] (by kernel_rfl) ⟨?_,trivial⟩
 refine D.bs T eI ([]:List Int) ?_
 exact D.tq [0,1,2,4,3] hd48_4
 refine D.all 1 [5] (by kernel_rfl) ⟨?_,?_,trivial⟩
 refine D.bs T eI ([]:List Int) ?_
 exact D.tq [0,1,2,3] hd48_1
 refine D.bs T eI ([s36.2]:List Int) ?_
 exact D.tq [0,1,2,3] hd48_2
 refine C.exit (C.ex (C.ex (C.bex ?_)))
 exact St.wa [some 2] (j35 _ g)
 refine C.block (St.wk (C.loop (fun (s13:List Int×Int)=>[(1,.sl 1 eI blocked),(2,.i delay),(3,.p 0 0),(7,.o 1),(8,.o 2),(9,.i s13.2)]) (fun s13=>[(0,.box (Q1 s_1)),(1,.val (.os 1 eI x5)),(2,.val (.os 1 eI s13.1))]) g (fun s13 Y14 g=>?_)) (Wk.a (idR 3)))
 refine C.seq (C.ss (U.pd 4 T (C.nx ?_)))
 refine C.ite rfl g (fun b17 g=>?_) fun b17 g=>?_
 refine C.skip (C.xs (C.block (C.ss (U.ps 2 T rfl ?_))))
 obtain⟨x20,y20,g⟩:=g
 refine U.r rfl (.none rfl) rfl rfl (by exact Rd.io T rfl rfl rfl rfl rfl rfl rfl y20) ?_
 refine U.e1 rfl (.none rfl) (by exact Eff1.se T (z':=(-1)) rfl rfl rfl (Q6 y20).2.2 rfl rfl rfl rfl rfl rfl rfl rfl (fun _=>rfl) rfl) ?_
 refine U.done (C.xt (U.ps 2 T rfl ?_))
 obtain⟨x23,y23,g⟩:=g
 refine U.r rfl (.none rfl) rfl rfl (by exact Rd.io T rfl rfl rfl rfl rfl rfl rfl y23) ?_
 refine U.r rfl (.none rfl) rfl rfl (by exact Rd.le T rfl rfl rfl (Q6 y23).2.2 rfl rfl rfl) ?_
 refine U.pd 1 T (C.nx ?_)
 refine C.jn (fun (x24:List Int)=>[(1,.sl 1 eI blocked),(2,.i delay),(3,.p 0 0),(7,.o 1),(8,.o 2),(9,.i s13.2)]) (fun x24=>[(0,.box (Q1 s_1)),(1,.val (.os 1 eI x5)),(2,.val (.os 1 eI x24))]) 3 g (fun x24 g=>?_) fun J25 g j25=>?_
 refine C.bnx (C.nx (U.start (U.pd 3 T (C.nx ?_))))
 exact St.wk (C.next g) (Wk.a (idR 3))
 refine C.ite rfl g (fun b26 g=>?_) fun b26 g=>?_
 refine D.bq mix 11 [1] [] (fun hQ hS ws M'=>?_)
 refine D.pq 4 (zl [0,1,2,3]) T ?_
 refine D.q 4 [] hQ hS rfl (.none rfl) rfl rfl (by exact Rd.io T rfl rfl rfl rfl rfl rfl rfl y23) rfl (by kernel_rfl) ?_
 refine D.q 5 [] hQ hS rfl (.none rfl) rfl rfl (by exact Rd.le T rfl rfl rfl (Q6 y23).2.2 rfl rfl rfl) rfl (by kernel_rfl) ?_
 refine D.pq 1 [(6,[])] T ?_
 refine D.k 7 (G6 _ g) en15 fun x29 g=>?_
 refine D.pq 2 (zl [8,9]) T ?_
 refine D.q 10 [] hQ hS rfl (.none rfl) rfl rfl (by exact Rd.io T rfl rfl rfl rfl rfl rfl rfl (Q1W y20)) rfl (by kernel_rfl) ?_
 refine D.ze1 rfl (.none rfl) (by exact Eff1.se T (z':=w64 (x23+(w64 (delay*x29)))) rfl rfl rfl (Wb (Q6 y20).2.2) rfl rfl rfl rfl rfl rfl rfl rfl (fun _=>rfl) rfl) (by kernel_rfl) (by kernel_rfl) ?_
 exact St.wa (idR 3) (j25 _ g)
 refine C.skip ?_
 exact St.wa (idR 3) (j25 _ g)
 refine C.exit (C.ex (C.ex (C.bex ?_)))
 exact St.wa (idR 3) (j12 _ g)
theorem Ym (s_1:ApiSite) (blocked:List Int) (c:Int) (delay:Int) (post:Int→Prop) (g:KE s_1 blocked c delay post):
  Tr Tryz.prog 22 [.agg (Q1 s_1),.sl 1 eI blocked,.i c,.i delay] [] 0 (pI post):=by
 refine Tr.go Tryz.func22 Tryz.ntmps22 fun _ _ _ _ o=>?_
 unfold KE at g
 refine C.ss (U.bx ?_)
 refine U.pd 1 T (C.xs (C.ss ?_))
 refine U.ps 3 T rfl (U.k (K1 s_1.Floor c _ g) en33 (fun x5 g=>?_))
 refine U.pd 1 T (C.nx ?_)
 refine C.ite rfl g (fun b6 g=>?_) fun b6 g=>?_
 refine C.ss (U.pd 1 T (C.nx (C.ret (C.rt ?_))))
 exact C.f1 T o (pIi g)
 refine C.skip (C.xt (U.ps 3 T rfl (U.k (WW s_1 blocked delay _ g) en24 (fun x11 g=>?_))))
 refine U.ps 1 T rfl ?_
 obtain⟨x12,y12,g⟩:=g
 refine U.r rfl (.none rfl) rfl rfl (by exact Rd.io T rfl rfl rfl rfl rfl rfl rfl y12) ?_
 refine U.r rfl (.none rfl) rfl rfl (by exact Rd.le T rfl rfl rfl (Q6 y12).2.2 rfl rfl rfl) ?_
 refine U.pd 1 T (C.nx (C.ret ?_))
 exact C.f1 T o (pIi g)
theorem Q15 (st:ApiState) (post:Bool→Prop) (g:XJ st post):
  Tr Tryz.prog 8 [.agg (Q2 st)] [] 0 (pB post):=by
 refine Tr.go Tryz.func8 Tryz.ntmps8 fun _ _ _ _ o=>?_
 unfold XJ at g
 refine C.ss (U.bx ?_)
 refine U.pd 1 T (C.xs (C.seq ?_))
 refine C.jn (fun (x3:Bool)=>[(1,.p 0 0),(33,.b x3)]) (fun x3=>[(0,.box (Q2 st))]) 1 g (fun x3 g=>?_) fun J4 g j4=>?_
 refine C.nx ?_
 refine C.ite rfl g (fun b9 g=>?_) fun b9 g=>?_
 refine C.ss (U.pd 1 T (C.nx (C.ret (C.rt ?_))))
 exact C.f1 T o (pBi g)
 refine C.skip (C.xs (D.bq mix 9999 [0] [1,2,3] (fun hQ hS ws M'=>?_)))
 refine D.pq 6 (zl [1,2,4,5,7,8]) T ?_
 refine D.e1 0 rfl (.none rfl) (by exact Eff1.bs T (enc:=eI) (xs:=([]:List Int)) rfl rfl rfl rfl rfl rfl rfl rfl rfl rfl (fun _ _=>rfl) rfl rfl) (by kernel_rfl) rfl rfl ?_
 obtain⟨y14,g⟩:=g
 refine D.e1 3 rfl (.none rfl) (by exact Eff1.ap T rfl rfl rfl rfl rfl rfl (.inl rfl) rfl rfl rfl (fun _=>rfl) rfl y14) (by kernel_rfl) rfl rfl ?_
 obtain⟨y15,g⟩:=g
 refine D.e1 6 rfl (.none rfl) (by exact Eff1.ap T rfl rfl rfl rfl rfl rfl (.inl rfl) rfl rfl rfl (fun _=>rfl) rfl y15) (by kernel_rfl) rfl rfl ?_
 obtain⟨y16,g⟩:=g
 refine D.e1 9 rfl (.none rfl) (by exact Eff1.ap T rfl rfl rfl rfl rfl rfl (.inl rfl) rfl rfl rfl (fun _=>rfl) rfl y16) (by kernel_rfl) rfl rfl ?_
 refine D.pq 1 [(10,[])] T ?_
 refine D.done (by kernel_rfl) ?_
 refine C.xs (C.ss (U.pd 1 T (C.nx ?_)))
 refine C.jn (fun (x19:List Int)=>[(3,.o 0)]) (fun x19=>[(0,.val (.os 1 eI x19))]) 1 g (fun x19 g=>?_) fun J20 g j20=>?_
 refine C.xs (C.ss (U.pd 1 T (C.nx ?_)))
 refine C.jn (fun (x34:Unit)=>[]) (fun x34=>[]) 0 g (fun x34 g=>?_) fun J35 g j35=>?_
 refine C.xt (U.pd 1 T (C.nx (C.ret ?_)))
 exact C.f1 T o (pBi g)
 refine C.block (St.wk (C.loop (fun (s36:Int)=>[(3,.o 0),(5,.i s36)]) (fun s36=>[(0,.val (.os 1 eI x19))]) g (fun s36 Y37 g=>?_)) (Wk.a [some 0]))
 refine C.seq (C.ss (U.pd 4 T (C.nx ?_)))
 refine C.ite rfl g (fun b40 g=>?_) fun b40 g=>?_
 refine C.skip (C.xs (C.block (C.seq ?_)))
 refine C.jn (fun (x41:Bool)=>[(3,.o 0),(5,.i s36),(77,.b x41)]) (fun x41=>[(0,.val (.os 1 eI x19))]) 1 g (fun x41 g=>?_) fun J42 g j42=>?_
 refine C.nx ?_
 refine C.ite rfl g (fun b45 g=>?_) fun b45 g=>?_
 refine C.ss (U.pd 1 T (C.nx (C.ret (C.brt (C.rt (C.rt (C.brt (C.rt ?_))))))))
 exact C.f1 T o (pBi g)
 refine C.skip (C.bnx (C.nx (U.start (U.pd 3 T (C.nx ?_)))))
 exact St.wk (C.next g) (Wk.a [some 0])
 refine U.start (U.ps 2 T rfl ?_)
 obtain⟨x43,y43,g⟩:=g
 refine U.r rfl (.none rfl) rfl rfl (by exact Rd.io T rfl rfl rfl rfl rfl rfl rfl y43) ?_
 refine U.r rfl (.none rfl) rfl rfl (by exact Rd.le T rfl rfl rfl (Q6 y43).2.2 rfl rfl rfl) ?_
 refine U.ps 2 T rfl ?_
 refine g.cs (fun b44 g=>?_) fun b44 g=>?_
 refine U.sk' 5 5 false 71 b44 ?_
 refine U.pk b44 ?_
 refine U.done ?_
 exact St.wa [some 0] (j42 _ g)
 refine U.pq 2 5 false 71 b44 T ?_
 refine U.r rfl (.tk 5 false 71 b44) rfl rfl (by exact Rd.io T rfl rfl rfl rfl rfl rfl rfl y43) ?_
 refine U.r rfl (.tk 5 false 71 b44) rfl rfl (by exact Rd.le T rfl rfl rfl (Q6 y43).2.2 rfl rfl rfl) ?_
 refine U.pq 1 5 false 71 b44 T ?_
 refine U.pk' b44 ?_
 refine U.done ?_
 exact St.wa [some 0] (j42 _ g)
 refine C.exit (C.ex (C.ex (C.bex ?_)))
 exact St.wk (j35 _ g) (Wk.mk' [] rfl rfl trivial trivial rfl)
 refine C.block (St.wk (C.loop (fun (s21:List Int×Int)=>[(1,.p 0 0),(3,.o 1),(4,.i s21.2)]) (fun s21=>[(0,.box (Q2 st)),(1,.val (.os 1 eI s21.1))]) g (fun s21 Y22 g=>?_)) (Wk.a [some 0,some 4]))
 refine C.seq (C.ss (U.pd 5 T (C.nx ?_)))
 refine C.ite rfl g (fun b25 g=>?_) fun b25 g=>?_
 refine C.skip (C.xs (C.block (U.start (U.ps 4 T rfl ?_))))
 obtain⟨x28,y28,g⟩:=g
 refine U.ix T y28 ?_
 refine U.ps 2 T rfl (U.bs T eI ([x28.Cell]:List Int) ?_)
 obtain⟨y29,g⟩:=g
 refine U.ap T y29 ?_
 refine U.pd 1 T (C.bnx (C.nx (U.start ?_)))
 refine U.pd 3 T (C.nx ?_)
 exact St.wk (C.next g) (Wk.a [some 0,some 3])
 refine C.exit (C.ex (C.ex (C.bex ?_)))
 exact St.wa [some 1] (j20 _ g)
 refine U.start (U.ps 5 T rfl ?_)
 refine g.cs (fun b5 g=>?_) fun b5 g=>?_
 refine U.sk' 4 4 false 10 b5 ?_
 refine U.pk b5 ?_
 refine U.ps 1 T rfl (U.sk' 4 10 false 16 rfl ?_)
 refine U.pk rfl ?_
 refine U.ps 1 T rfl (U.sk' 4 16 false 22 rfl ?_)
 refine U.pk rfl ?_
 refine U.ps 1 T rfl (U.sk' 4 22 false 28 rfl ?_)
 refine U.pk rfl ?_
 refine U.done ?_
 exact St.wa [some 0] (j4 _ g)
 refine U.pq 4 4 false 10 b5 T ?_
 refine U.pk' b5 ?_
 refine U.ps 1 T rfl ?_
 refine g.cs (fun b6 g=>?_) fun b6 g=>?_
 refine U.sk' 4 10 false 16 b6 ?_
 refine U.pk b6 ?_
 refine U.ps 1 T rfl (U.sk' 4 16 false 22 rfl ?_)
 refine U.pk rfl ?_
 refine U.ps 1 T rfl (U.sk' 4 22 false 28 rfl ?_)
 refine U.pk rfl ?_
 refine U.done ?_
 exact St.wa [some 0] (j4 _ g)
 refine U.pq 4 10 false 16 b6 T ?_
 refine U.pk' b6 ?_
 refine U.ps 1 T rfl ?_
 refine g.cs (fun b7 g=>?_) fun b7 g=>?_
 refine U.sk' 4 16 false 22 b7 ?_
 refine U.pk b7 ?_
 refine U.ps 1 T rfl (U.sk' 4 22 false 28 rfl ?_)
 refine U.pk rfl ?_
 refine U.done ?_
 exact St.wa [some 0] (j4 _ g)
 refine U.pq 4 16 false 22 b7 T ?_
 refine U.pk' b7 ?_
 refine U.ps 1 T rfl ?_
 refine g.cs (fun b8 g=>?_) fun b8 g=>?_
 refine U.sk' 4 22 false 28 b8 ?_
 refine U.pk b8 ?_
 refine U.done ?_
 exact St.wa [some 0] (j4 _ g)
 refine U.pq 4 22 false 28 b8 T ?_
 refine U.pk' b8 ?_
 refine U.done ?_
 exact St.wa [some 0] (j4 _ g)
theorem Gq (n:Int) (from_1:Int) (to_1:Int) (post:Bool→Prop) (g:Ka n from_1 to_1 post):
  Tr Tryz.prog 38 [.i n,.i from_1,.i to_1] [] 0 (pB post):=by
 refine Tr.go Tryz.func38 Tryz.ntmps38 fun _ _ _ _ o=>?_
 unfold Ka at g
 refine C.ss (U.pd 1 T (C.xs ?_))
 refine C.jn (fun (x3:Bool)=>[(6,.b x3)]) (fun x3=>[]) 0 g (fun x3 g=>?_) fun J4 g j4=>?_
 refine C.nx (C.ret ?_)
 exact C.f1 T o (pBi g)
 refine U.start (U.ps 4 T rfl ?_)
 refine g.cs (fun b5 g=>?_) fun b5 g=>?_
 refine U.pq 3 3 true 10 b5 T ?_
 refine U.pk b5 ?_
 refine U.pd 1 T ?_
 exact St.wn (j4 _ g)
 refine U.sk' 3 3 true 10 b5 ?_
 refine U.pk' b5 ?_
 refine U.pd 1 T ?_
 exact St.wn (j4 _ g)
theorem Q3u (s_1:ApiSite) (st:ApiState) (post:Bool→Prop) (g:W0 s_1 st post):
  Tr Tryz.prog 39 [.agg (Q1 s_1),.agg (Q2 st)] [] 0 (pB post):=by
 refine Tr.go Tryz.func39 Tryz.ntmps39 fun _ _ _ _ o=>?_
 unfold W0 at g
 refine C.ss (U.bx ?_)
 refine U.bx ?_
 refine U.pd 1 T (C.xt ?_)
 refine U.e1 rfl (.none rfl) (by exact Eff1.mm kI veB rfl rfl rfl) ?_
 refine U.pd 1 T (C.xs (C.ss ?_))
 refine U.pd 4 T (C.nx ?_)
 refine C.jn (fun (x7:Unit)=>[]) (fun x7=>[]) 0 g (fun x7 g=>?_) fun J8 g j8=>?_
 refine C.xt (U.pd 1 T (C.nx (C.ret ?_)))
 exact C.f1 T o (pBi g)
 refine C.block (St.wk (C.loop (fun (s9:List (Int×Bool)×Int)=>[(2,.p 0 0),(3,.p 1 0),(5,.o 2),(10,.sl 6 Q4 st.Robots),(11,.i (st.Robots.length:Int)),(12,.i s9.2)]) (fun s9=>[(0,.box (Q1 s_1)),(1,.box (Q2 st)),(2,.val (.om kI veB s9.1))]) g (fun s9 Y10 g=>?_)) (Wk.a (idR 3)))
 refine C.ss (U.pd 1 T (C.xs ?_))
 refine C.ite rfl g (fun b13 g=>?_) fun b13 g=>?_
 refine C.skip (C.xs (C.block (C.ss ?_)))
 obtain⟨x16,y16,g⟩:=g
 refine U.ix T y16 ?_
 refine U.ps 1 T rfl (U.al T ?_)
 refine U.st T ?_
 refine U.done (C.xs (C.seq ?_))
 refine C.jn (fun (x17:Bool)=>[(2,.p 0 0),(3,.p 1 0),(5,.o 2),(7,.p 3 0),(10,.sl 6 Q4 st.Robots),(11,.i (st.Robots.length:Int)),(12,.i s9.2),(47,.b x17)]) (fun x17=>[(0,.box (Q1 s_1)),(1,.box (Q2 st)),(2,.val (.om kI veB s9.1)),(3,.box (Q4 x16))]) 4 g (fun x17 g=>?_) fun J18 g j18=>?_
 refine C.nx ?_
 refine C.ite rfl g (fun b24 g=>?_) fun b24 g=>?_
 refine C.ss (U.pd 1 T (C.nx (C.ret (C.rt (C.brt (C.rt (C.rt (C.brt (C.rt ?_)))))))))
 exact C.f1 T o (pBi g)
 refine C.skip (C.xs (C.seq ?_))
 refine C.jn (fun (x27:Bool)=>[(2,.p 0 0),(3,.p 1 0),(5,.o 2),(7,.p 3 0),(10,.sl 6 Q4 st.Robots),(11,.i (st.Robots.length:Int)),(12,.i s9.2),(63,.b x27)]) (fun x27=>[(0,.box (Q1 s_1)),(1,.box (Q2 st)),(2,.val (.om kI veB s9.1)),(3,.box (Q4 x16))]) 4 g (fun x27 g=>?_) fun J28 g j28=>?_
 refine C.nx ?_
 refine C.ite rfl g (fun b34 g=>?_) fun b34 g=>?_
 refine C.ss (U.pd 1 T (C.nx (C.ret (C.rt (C.brt (C.rt (C.rt (C.brt (C.rt ?_)))))))))
 exact C.f1 T o (pBi g)
 refine C.skip (C.xs (C.seq ?_))
 refine C.jn (fun (x37:Bool)=>[(2,.p 0 0),(3,.p 1 0),(5,.o 2),(7,.p 3 0),(10,.sl 6 Q4 st.Robots),(11,.i (st.Robots.length:Int)),(12,.i s9.2),(83,.b x37)]) (fun x37=>[(0,.box (Q1 s_1)),(1,.box (Q2 st)),(2,.val (.om kI veB s9.1)),(3,.box (Q4 x16))]) 4 g (fun x37 g=>?_) fun J38 g j38=>?_
 refine C.nx ?_
 refine C.ite rfl g (fun b42 g=>?_) fun b42 g=>?_
 refine C.ss (U.pd 1 T (C.nx (C.ret (C.rt (C.brt (C.rt (C.rt (C.brt (C.rt ?_)))))))))
 exact C.f1 T o (pBi g)
 refine C.skip (C.nx (U.start (U.ps 3 T rfl (U.e1 rfl (.none rfl) (by exact Eff1.mu T (x:=x16.Load) (y:=true) (.inl rfl) rfl kt3 (fun _=>rfl) rfl rfl rfl rfl rfl (.inl rfl) rfl) ?_))))
 refine U.done (C.bnx (C.nx (U.start (U.pd 2 T (C.nx ?_)))))
 exact St.wk (C.next g) (Wk.a (idR 3))
 refine D.bq mix 9999 [1,2,3] [] (fun hQ hS ws M'=>?_)
 refine D.pq 4 (zl [0,1,2,3]) T ?_
 refine g.cs (fun b39 g=>?_) fun b39 g=>?_
 refine D.pt 4 [] 3 true 67 b39 T ?_
 refine D.pt 5 [] 3 true 67 b39 T ?_
 refine D.q 6 [] hQ hS rfl (.tk 3 true 67 b39) rfl rfl (by exact Rd.l T rfl rfl rfl) rfl (by kernel_rfl) ?_
 refine D.q 7 [] hQ hS rfl (.tk 3 true 67 b39) rfl rfl (by exact Rd.lk T (ke:=kI) (ve:=veB) (xs:=s9.1) (z0:=false) (x:=x16.Load) rfl rfl kt3 zt4 (fun _=>rfl) rfl (.o rfl) rfl rfl rfl) rfl (by kernel_rfl) ?_
 refine D.pt 8 [] 3 true 67 b39 T ?_
 refine g.cs (fun b40 g=>?_) fun b40 g=>?_
 refine D.sz 9 [] 8 false 72 b40 ?_
 refine D.sz 10 [] 8 false 72 b40 ?_
 refine D.sz 11 [] 8 false 72 b40 ?_
 refine D.sz 12 [] 8 false 72 b40 ?_
 refine D.sz 13 [] 8 false 72 b40 ?_
 refine D.sz 14 [] 8 false 72 b40 ?_
 refine D.sz 15 [] 8 false 72 b40 ?_
 refine D.sz 16 [] 8 false 72 b40 ?_
 refine D.sz 17 [] 8 false 72 b40 ?_
 refine D.q 18 [] hQ hS rfl (.tk 3 true 67 b39) rfl rfl (by exact Rd.pk rfl rfl b40 rfl) rfl (by kernel_rfl) ?_
 refine D.kt 19 [] b39 ?_
 refine D.done (by kernel_rfl) ?_
 exact St.wa (idR 4) (j38 _ g)
 refine D.pt 9 [] 8 false 72 b40 T ?_
 refine D.q 10 [] hQ hS rfl (.tk 8 false 72 b40) rfl rfl (by exact Rd.l T rfl rfl rfl) rfl (by kernel_rfl) ?_
 refine D.pt 11 [] 8 false 72 b40 T ?_
 refine D.q 12 [] hQ hS rfl (.tk 8 false 72 b40) rfl rfl (by exact Rd.l T rfl rfl rfl) rfl (by kernel_rfl) ?_
 obtain⟨x41,y41,g⟩:=g
 refine D.q 13 [] hQ hS rfl (.tk 8 false 72 b40) rfl rfl (by exact Rd.ix T rfl rfl rfl rfl rfl rfl y41) rfl (by kernel_rfl) ?_
 refine D.q 14 [] hQ hS rfl (.tk 8 false 72 b40) rfl rfl (by exact Rd.l T rfl rfl rfl) rfl (by kernel_rfl) ?_
 refine D.pt 15 [] 8 false 72 b40 T ?_
 refine D.q 16 [] hQ hS rfl (.tk 8 false 72 b40) rfl rfl (by exact Rd.l T rfl rfl rfl) rfl (by kernel_rfl) ?_
 refine D.pt 17 [] 8 false 72 b40 T ?_
 refine D.q 18 [] hQ hS rfl (.tk 3 true 67 b39) rfl rfl (by exact Rd.pk' rfl rfl b40 rfl) rfl (by kernel_rfl) ?_
 refine D.kt 19 [] b39 ?_
 refine D.done (by kernel_rfl) ?_
 exact St.wa (idR 4) (j38 _ g)
 refine D.sz 4 [] 3 true 67 b39 ?_
 refine D.sz 5 [] 3 true 67 b39 ?_
 refine D.sz 6 [] 3 true 67 b39 ?_
 refine D.sz 7 [] 3 true 67 b39 ?_
 refine D.sz 8 [] 3 true 67 b39 ?_
 refine D.sx 9 [] hQ hS (.und 8 false 72 rfl rfl rfl) ?_
 refine D.sx 10 [] hQ hS (.und 8 false 72 rfl rfl rfl) ?_
 refine D.sx 11 [] hQ hS (.und 8 false 72 rfl rfl rfl) ?_
 refine D.sx 12 [] hQ hS (.und 8 false 72 rfl rfl rfl) ?_
 refine D.sx 13 [] hQ hS (.und 8 false 72 rfl rfl rfl) ?_
 refine D.sx 14 [] hQ hS (.und 8 false 72 rfl rfl rfl) ?_
 refine D.sx 15 [] hQ hS (.und 8 false 72 rfl rfl rfl) ?_
 refine D.sx 16 [] hQ hS (.und 8 false 72 rfl rfl rfl) ?_
 refine D.sx 17 [] hQ hS (.und 8 false 72 rfl rfl rfl) ?_
 refine D.sz 18 [] 3 true 67 b39 ?_
 refine D.kf 19 [] b39 ?_
 refine D.done (by kernel_rfl) ?_
 exact St.wa (idR 4) (j38 _ g)
 refine U.start (U.ps 2 T rfl (U.k (Gq x16.Charge 0 1000000 _ g) en38 (fun x29 g=>?_)))
 refine U.ps 2 T rfl ?_
 refine g.cs (fun b30 g=>?_) fun b30 g=>?_
 refine U.pq 2 4 false 52 (ntF b30) T ?_
 refine U.k (Gq x16.Rest 0 20000 _ g) en38 (fun x31 g=>?_) (hw:=.take 4 false 52 _ (ntF b30) rfl rfl rfl)
 refine U.pq 1 4 false 52 (ntF b30) T ?_
 refine U.pk' (ntF b30) ?_
 refine U.ps 1 T rfl ?_
 refine g.cs (fun b32 g=>?_) fun b32 g=>?_
 refine U.pq 2 10 false 58 (ntF b32) T ?_
 refine U.k (Gq x16.Mute 0 20000 _ g) en38 (fun x33 g=>?_) (hw:=.take 10 false 58 _ (ntF b32) rfl rfl rfl)
 refine U.pq 1 10 false 58 (ntF b32) T ?_
 refine U.pk' (ntF b32) ?_
 refine U.done ?_
 exact St.wa (idR 4) (j28 _ g)
 refine U.sk' 4 10 false 58 (ntT b32) ?_
 refine U.pk (ntT b32) ?_
 refine U.done ?_
 exact St.wa (idR 4) (j28 _ g)
 refine U.sk' 4 4 false 52 (ntT b30) ?_
 refine U.pk (ntT b30) ?_
 refine U.ps 1 T rfl (U.sk' 4 10 false 58 rfl ?_)
 refine U.pk rfl ?_
 refine U.done ?_
 exact St.wa (idR 4) (j28 _ g)
 refine U.start (U.ps 4 T rfl ?_)
 refine g.cs (fun b19 g=>?_) fun b19 g=>?_
 refine U.sk' 7 3 false 19 b19 ?_
 refine U.pk b19 ?_
 refine U.ps 1 T rfl (U.sk' 8 12 false 28 rfl ?_)
 refine U.pk rfl ?_
 refine U.ps 1 T rfl (U.sk' 8 22 false 38 rfl ?_)
 refine U.pk rfl ?_
 refine U.done ?_
 exact St.wa (idR 4) (j18 _ g)
 refine U.pq 7 3 false 19 b19 T ?_
 refine U.pk' b19 ?_
 refine U.ps 1 T rfl ?_
 refine g.cs (fun b20 g=>?_) fun b20 g=>?_
 refine U.sk' 8 12 false 28 b20 ?_
 refine U.pk b20 ?_
 refine U.ps 1 T rfl (U.sk' 8 22 false 38 rfl ?_)
 refine U.pk rfl ?_
 refine U.done ?_
 exact St.wa (idR 4) (j18 _ g)
 refine U.pq 5 12 false 28 b20 T ?_
 obtain⟨x21,y21,g⟩:=g
 refine U.r rfl (.tk 12 false 28 b20) rfl rfl (by exact Rd.ix T rfl rfl rfl rfl rfl rfl y21) ?_
 refine U.pq 2 12 false 28 b20 T ?_
 refine U.pk' b20 ?_
 refine U.ps 1 T rfl ?_
 refine g.cs (fun b22 g=>?_) fun b22 g=>?_
 refine U.sk' 8 22 false 38 b22 ?_
 refine U.pk b22 ?_
 refine U.done ?_
 exact St.wa (idR 4) (j18 _ g)
 refine U.pq 6 22 false 38 b22 T ?_
 refine U.k (Gq x16.Load (-1) (w64 ((st.Shelves.length:Int)-1)) _ g) en38 (fun x23 g=>?_) (hw:=.take 22 false 38 _ b22 rfl rfl rfl)
 refine U.pq 1 22 false 38 b22 T ?_
 refine U.pk' b22 ?_
 refine U.done ?_
 exact St.wa (idR 4) (j18 _ g)
 refine C.exit (C.ex (C.ex (C.bex ?_)))
 exact St.wk (j8 _ g) (Wk.mk' [] rfl rfl trivial trivial rfl)
theorem Q1M (f:ApiFloor) (c:Int) (kinds:List Int) (post:Bool→Prop) (g:Gx f c kinds post):
  Tr Tryz.prog 42 [.agg (Qk f),.i c,.sl 1 eI kinds] [] 0 (pB post):=by
 refine Tr.go Tryz.func42 Tryz.ntmps42 fun _ _ _ _ o=>?_
 unfold Gx at g
 refine C.ss (U.bx ?_)
 refine U.pd 1 T (C.xs ?_)
 refine C.jn (fun (x3:Bool)=>[(6,.b x3)]) (fun x3=>[]) 0 g (fun x3 g=>?_) fun J4 g j4=>?_
 refine C.nx (C.ret ?_)
 exact C.f1 T o (pBi g)
 refine U.start (U.ps 3 T rfl ?_)
 refine g.cs (fun b5 g=>?_) fun b5 g=>?_
 refine U.pq 5 2 true 9 b5 T ?_
 refine U.pk b5 ?_
 refine U.ps 1 T rfl ?_
 refine g.cs (fun b6 g=>?_) fun b6 g=>?_
 refine U.pq 4 9 true 16 b6 T ?_
 obtain⟨x7,y7,g⟩:=g
 refine U.r rfl (.tk 9 true 16 b6) rfl rfl (by exact Rd.ix T rfl rfl rfl rfl rfl rfl y7) ?_
 refine U.pq 1 9 true 16 b6 T ?_
 refine U.k (QR kinds x7 _ g) en89 (fun x8 g=>?_) (hw:=.take 9 true 16 _ b6 rfl rfl rfl)
 refine U.pk b6 ?_
 refine U.pd 1 T ?_
 exact St.wn (j4 _ g)
 refine U.sk' 7 9 true 16 b6 ?_
 refine U.pk' b6 ?_
 refine U.pd 1 T ?_
 exact St.wn (j4 _ g)
 refine U.sk' 5 2 true 9 b5 ?_
 refine U.pk' b5 ?_
 refine U.ps 1 T rfl (U.sk' 7 9 true 16 rfl ?_)
 refine U.pk' rfl ?_
 refine U.pd 1 T ?_
 exact St.wn (j4 _ g)
theorem Q4f (f:ApiFloor) (st:ApiState) (post:Bool→Prop) (g:WU f st post):
  Tr Tryz.prog 40 [.agg (Qk f),.agg (Q2 st)] [] 0 (pB post):=by
 refine Tr.go Tryz.func40 Tryz.ntmps40 fun _ _ _ _ o=>?_
 unfold WU at g
 refine C.ss (U.bx ?_)
 refine U.bx ?_
 refine U.pd 1 T (C.xs (C.ss ?_))
 refine U.pd 4 T (C.nx ?_)
 refine C.jn (fun (x5:Unit)=>[(2,.p 0 0),(3,.p 1 0)]) (fun x5=>[(0,.box (Qk f)),(1,.box (Q2 st))]) 2 g (fun x5 g=>?_) fun J6 g j6=>?_
 refine C.xs (C.ss (U.pd 4 T (C.nx ?_)))
 refine C.jn (fun (x28:Unit)=>[]) (fun x28=>[]) 0 g (fun x28 g=>?_) fun J29 g j29=>?_
 refine C.xt (U.pd 1 T (C.nx (C.ret ?_)))
 exact C.f1 T o (pBi g)
 refine C.block (St.wk (C.loop (fun (s30:Int)=>[(2,.p 0 0),(3,.p 1 0),(42,.sl 2 Q7 st.Stuck),(43,.i (st.Stuck.length:Int)),(44,.i s30)]) (fun s30=>[(0,.box (Qk f)),(1,.box (Q2 st))]) g (fun s30 Y31 g=>?_)) (Wk.a (idR 2)))
 refine C.ss (U.pd 1 T (C.xs ?_))
 refine C.ite rfl g (fun b34 g=>?_) fun b34 g=>?_
 refine C.skip (C.xs (C.block (C.ss (U.ps 1 T rfl ?_))))
 obtain⟨x37,y37,g⟩:=g
 refine U.ix T y37 ?_
 refine U.ps 1 T rfl (U.al T ?_)
 refine U.ps 1 T rfl (U.st T ?_)
 refine U.done (C.xs ?_)
 refine C.jn (fun (x38:Bool)=>[(2,.p 0 0),(3,.p 1 0),(42,.sl 2 Q7 st.Stuck),(43,.i (st.Stuck.length:Int)),(44,.i s30),(76,.b x38)]) (fun x38=>[(0,.box (Qk f)),(1,.box (Q2 st))]) 2 g (fun x38 g=>?_) fun J39 g j39=>?_
 refine C.nx ?_
 refine C.ite rfl g (fun b46 g=>?_) fun b46 g=>?_
 refine C.ss (U.pd 1 T (C.nx (C.ret (C.brt (C.rt (C.rt (C.brt (C.rt ?_))))))))
 exact C.f1 T o (pBi g)
 refine C.skip (C.bnx (C.nx (U.start (U.pd 2 T (C.nx ?_)))))
 exact St.wk (C.next g) (Wk.a (idR 2))
 refine D.bq mix 9999 [0,1,2] [] (fun hQ hS ws M'=>?_)
 refine D.pq 3 (zl [0,1,2]) T ?_
 refine D.e1 3 rfl (.none rfl) (by exact Eff1.bs T (enc:=eI) (xs:=([6]:List Int)) rfl rfl rfl rfl rfl rfl rfl rfl rfl rfl (fun _ _=>rfl) rfl rfl) (by kernel_rfl) rfl rfl ?_
 refine D.k 4 (Q1M f x37.Cell ([6]:List Int) _ g) en42 fun x40 g=>?_
 refine D.pq 2 (zl [5,6]) T ?_
 refine g.cs (fun b41 g=>?_) fun b41 g=>?_
 refine D.pt 7 [] 6 false 55 (ntF b41) T ?_
 refine D.q 8 [] hQ hS rfl (.tk 6 false 55 (ntF b41)) rfl rfl (by exact Rd.l T rfl rfl rfl) rfl (by kernel_rfl) ?_
 refine D.k 9 (Gq x37.Left 1 20000 _ g) en38 (fun x42 g=>?_) (hw:=.take 6 false 55 _ (ntF b41) rfl rfl rfl)
 refine D.pt 10 [] 6 false 55 (ntF b41) T ?_
 refine D.kf 11 [] (ntF b41) ?_
 refine D.pq 1 [(12,[])] T ?_
 refine g.cs (fun b43 g=>?_) fun b43 g=>?_
 refine D.pt 13 [] 12 false 61 (ntF b43) T ?_
 refine D.pt 14 [] 12 false 61 (ntF b43) T ?_
 refine D.pt 15 [] 12 false 61 (ntF b43) T ?_
 refine g.cs (fun b44 g=>?_) fun b44 g=>?_
 refine D.pt 16 [] 15 true 64 b44 T ?_
 refine D.q 17 [] hQ hS rfl (.tk 15 true 64 b44) rfl rfl (by exact Rd.l T rfl rfl rfl) rfl (by kernel_rfl) ?_
 refine D.pt 18 [] 15 true 64 b44 T ?_
 refine D.q 19 [] hQ hS rfl (.tk 15 true 64 b44) rfl rfl (by exact Rd.l T rfl rfl rfl) rfl (by kernel_rfl) ?_
 refine D.pt 20 [] 15 true 64 b44 T ?_
 refine D.pt 21 [] 15 true 64 b44 T ?_
 obtain⟨x45,y45,g⟩:=g
 refine D.q 22 [] hQ hS rfl (.tk 15 true 64 b44) rfl rfl (by exact Rd.ix T rfl rfl rfl rfl rfl rfl y45) rfl (by kernel_rfl) ?_
 refine D.pt 23 [] 15 true 64 b44 T ?_
 refine D.q 24 [] hQ hS rfl (.tk 15 true 64 b44) rfl rfl (by exact Rd.l T rfl rfl rfl) rfl (by kernel_rfl) ?_
 refine D.pt 25 [] 15 true 64 b44 T ?_
 refine D.q 26 [] hQ hS rfl (.tk 12 false 61 (ntF b43)) rfl rfl (by exact Rd.pk rfl rfl b44 rfl) rfl (by kernel_rfl) ?_
 refine D.kf 27 [] (ntF b43) ?_
 refine D.done (by kernel_rfl) ?_
 exact St.wa (idR 2) (j39 _ g)
 refine D.sz 16 [] 15 true 64 b44 ?_
 refine D.sz 17 [] 15 true 64 b44 ?_
 refine D.sz 18 [] 15 true 64 b44 ?_
 refine D.sz 19 [] 15 true 64 b44 ?_
 refine D.sz 20 [] 15 true 64 b44 ?_
 refine D.sz 21 [] 15 true 64 b44 ?_
 refine D.sz 22 [] 15 true 64 b44 ?_
 refine D.sz 23 [] 15 true 64 b44 ?_
 refine D.sz 24 [] 15 true 64 b44 ?_
 refine D.sz 25 [] 15 true 64 b44 ?_
 refine D.q 26 [] hQ hS rfl (.tk 12 false 61 (ntF b43)) rfl rfl (by exact Rd.pk' rfl rfl b44 rfl) rfl (by kernel_rfl) ?_
 refine D.kf 27 [] (ntF b43) ?_
 refine D.done (by kernel_rfl) ?_
 exact St.wa (idR 2) (j39 _ g)
 refine D.sz 13 [] 12 false 61 (ntT b43) ?_
 refine D.sz 14 [] 12 false 61 (ntT b43) ?_
 refine D.sz 15 [] 12 false 61 (ntT b43) ?_
 refine D.sx 16 [] hQ hS (.und 15 true 64 rfl rfl rfl) ?_
 refine D.sx 17 [] hQ hS (.und 15 true 64 rfl rfl rfl) ?_
 refine D.sx 18 [] hQ hS (.und 15 true 64 rfl rfl rfl) ?_
 refine D.sx 19 [] hQ hS (.und 15 true 64 rfl rfl rfl) ?_
 refine D.sx 20 [] hQ hS (.und 15 true 64 rfl rfl rfl) ?_
 refine D.sx 21 [] hQ hS (.und 15 true 64 rfl rfl rfl) ?_
 refine D.sx 22 [] hQ hS (.und 15 true 64 rfl rfl rfl) ?_
 refine D.sx 23 [] hQ hS (.und 15 true 64 rfl rfl rfl) ?_
 refine D.sx 24 [] hQ hS (.und 15 true 64 rfl rfl rfl) ?_
 refine D.sx 25 [] hQ hS (.und 15 true 64 rfl rfl rfl) ?_
 refine D.sz 26 [] 12 false 61 (ntT b43) ?_
 refine D.kt 27 [] (ntT b43) ?_
 refine D.done (by kernel_rfl) ?_
 exact St.wa (idR 2) (j39 _ g)
 refine D.sz 7 [] 6 false 55 (ntT b41) ?_
 refine D.sz 8 [] 6 false 55 (ntT b41) ?_
 refine D.sz 9 [] 6 false 55 (ntT b41) ?_
 refine D.sz 10 [] 6 false 55 (ntT b41) ?_
 refine D.kt 11 [] (ntT b41) ?_
 refine D.pq 1 [(12,[])] T ?_
 refine D.sz 13 [] 12 false 61 rfl ?_
 refine D.sz 14 [] 12 false 61 rfl ?_
 refine D.sz 15 [] 12 false 61 rfl ?_
 refine D.sx 16 [] hQ hS (.und 15 true 64 rfl rfl rfl) ?_
 refine D.sx 17 [] hQ hS (.und 15 true 64 rfl rfl rfl) ?_
 refine D.sx 18 [] hQ hS (.und 15 true 64 rfl rfl rfl) ?_
 refine D.sx 19 [] hQ hS (.und 15 true 64 rfl rfl rfl) ?_
 refine D.sx 20 [] hQ hS (.und 15 true 64 rfl rfl rfl) ?_
 refine D.sx 21 [] hQ hS (.und 15 true 64 rfl rfl rfl) ?_
 refine D.sx 22 [] hQ hS (.und 15 true 64 rfl rfl rfl) ?_
 refine D.sx 23 [] hQ hS (.und 15 true 64 rfl rfl rfl) ?_
 refine D.sx 24 [] hQ hS (.und 15 true 64 rfl rfl rfl) ?_
 refine D.sx 25 [] hQ hS (.und 15 true 64 rfl rfl rfl) ?_
 refine D.sz 26 [] 12 false 61 rfl ?_
 refine D.kt 27 [] rfl ?_
 refine D.done (by kernel_rfl) ?_
 exact St.wa (idR 2) (j39 _ g)
 refine C.exit (C.ex (C.ex (C.bex ?_)))
 exact St.wk (j29 _ g) (Wk.mk' [] rfl rfl trivial trivial rfl)
 refine C.block (St.wk (C.loop (fun (s7:Int)=>[(2,.p 0 0),(3,.p 1 0),(10,.sl 1 eI st.Dead),(11,.i (st.Dead.length:Int)),(12,.i s7)]) (fun s7=>[(0,.box (Qk f)),(1,.box (Q2 st))]) g (fun s7 Y8 g=>?_)) (Wk.a (idR 2)))
 refine C.ss (U.pd 1 T (C.xs ?_))
 refine C.ite rfl g (fun b11 g=>?_) fun b11 g=>?_
 refine C.skip (C.xs (C.block (C.ss (U.ps 1 T rfl ?_))))
 obtain⟨x14,y14,g⟩:=g
 refine U.ix T y14 ?_
 refine U.pd 3 T (C.xs ?_)
 refine C.jn (fun (x15:Bool)=>[(2,.p 0 0),(3,.p 1 0),(10,.sl 1 eI st.Dead),(11,.i (st.Dead.length:Int)),(12,.i s7),(39,.b x15)]) (fun x15=>[(0,.box (Qk f)),(1,.box (Q2 st))]) 2 g (fun x15 g=>?_) fun J16 g j16=>?_
 refine C.nx ?_
 refine C.ite rfl g (fun b21 g=>?_) fun b21 g=>?_
 refine C.ss (U.pd 1 T (C.nx (C.ret (C.brt (C.rt (C.rt (C.brt (C.rt ?_))))))))
 exact C.f1 T o (pBi g)
 refine C.skip (C.bnx (C.nx (U.start (U.pd 2 T (C.nx ?_)))))
 exact St.wk (C.next g) (Wk.a (idR 2))
 refine U.start (U.ps 3 T rfl ?_)
 refine g.cs (fun b17 g=>?_) fun b17 g=>?_
 refine U.sk' 5 2 false 19 b17 ?_
 refine U.pk b17 ?_
 refine U.ps 1 T rfl (U.sk' 3 9 false 26 rfl ?_)
 refine U.sku 8 12 true 29 rfl rfl rfl ?_
 refine U.sk' 1 9 false 26 rfl ?_
 refine U.pk rfl ?_
 refine U.done ?_
 exact St.wa (idR 2) (j16 _ g)
 refine U.pq 5 2 false 19 b17 T ?_
 refine U.pk' b17 ?_
 refine U.ps 1 T rfl ?_
 refine g.cs (fun b18 g=>?_) fun b18 g=>?_
 refine U.sk' 3 9 false 26 b18 ?_
 refine U.sku 8 12 true 29 rfl rfl rfl ?_
 refine U.sk' 1 9 false 26 b18 ?_
 refine U.pk b18 ?_
 refine U.done ?_
 exact St.wa (idR 2) (j16 _ g)
 refine U.pq 3 9 false 26 b18 T ?_
 refine g.cs (fun b19 g=>?_) fun b19 g=>?_
 refine U.pq 5 12 true 29 b19 T ?_
 obtain⟨x20,y20,g⟩:=g
 refine U.r rfl (.tk 12 true 29 b19) rfl rfl (by exact Rd.ix T rfl rfl rfl rfl rfl rfl y20) ?_
 refine U.pq 2 12 true 29 b19 T ?_
 refine U.r rfl (.tk 9 false 26 b18) rfl rfl (by exact Rd.pk rfl rfl b19 rfl) ?_
 refine U.pk' b18 ?_
 refine U.done ?_
 exact St.wa (idR 2) (j16 _ g)
 refine U.sk' 8 12 true 29 b19 ?_
 refine U.r rfl (.tk 9 false 26 b18) rfl rfl (by exact Rd.pk' rfl rfl b19 rfl) ?_
 refine U.pk' b18 ?_
 refine U.done ?_
 exact St.wa (idR 2) (j16 _ g)
 refine C.exit (C.ex (C.ex (C.bex ?_)))
 exact St.wa (idR 2) (j6 _ g)
theorem Q1E (r:Q0) (c0:Int) (post:Bool→Prop) (g:XR r c0 post):
  Tr Tryz.prog 88 [.agg (Q4 r),.rp [.i c0]] [] 0 (pB post):=by
 refine Tr.go Tryz.func88 Tryz.ntmps88 fun _ _ _ _ o=>?_
 unfold XR at g
 refine C.ss (U.bx ?_)
 refine U.pd 1 T (C.xt ?_)
 refine U.pd 5 T (C.nx (C.ret ?_))
 exact C.f1 T o (pBi g)
theorem KN (s_1:List Q0) (f_c0:Int) (post:Int→Prop) (g:Qo s_1 f_c0 post):
  Tr Tryz.prog 87 [.sl 6 Q4 s_1,.fn (.func 88) [] [.rp [.i f_c0]]] [] 0 (pI post):=by
 refine Tr.go Tryz.func87 Tryz.ntmps87 fun _ _ _ _ o=>?_
 unfold Qo at g
 refine C.ss (U.pd 1 T (C.xs (C.ss ?_)))
 refine U.pd 3 T (C.nx ?_)
 refine C.jn (fun (x5:Unit)=>[]) (fun x5=>[]) 0 g (fun x5 g=>?_) fun J6 g j6=>?_
 refine C.xt (U.pd 1 T (C.nx (C.ret ?_)))
 exact C.f1 T o (pIi g)
 refine C.block (St.wk (C.loop (fun (s7:Int)=>[(0,.sl 6 Q4 s_1),(1,.fn (.func 88) [] [.rp [.i f_c0]]),(7,.i (s_1.length:Int)),(8,.i s7)]) (fun s7=>[]) g (fun s7 Y8 g=>?_)) (Wk.e))
 refine C.ss (U.pd 1 T (C.xs ?_))
 refine C.ite rfl g (fun b11 g=>?_) fun b11 g=>?_
 refine C.skip (C.xs (C.block (C.ss (U.pd 2 T (C.xt ?_)))))
 refine U.ps 3 T rfl ?_
 obtain⟨x16,y16,g⟩:=g
 refine U.ix T y16 ?_
 refine U.ps 1 T rfl (U.k (Q1E x16 f_c0 _ g) en88 (fun x17 g=>?_))
 refine U.done (C.nx ?_)
 refine C.ite rfl g (fun b18 g=>?_) fun b18 g=>?_
 refine C.ss (U.pd 2 T (C.nx (C.ret (C.brt (C.rt (C.rt (C.brt (C.rt ?_))))))))
 exact C.f1 T o (pIi g)
 refine C.skip (C.bnx (C.nx (U.start (U.pd 2 T (C.nx ?_)))))
 exact St.wk (C.next g) (Wk.e)
 refine C.exit (C.ex (C.ex (C.bex ?_)))
 exact St.wk (j6 _ g) (Wk.mk' [] rfl rfl trivial trivial rfl)
theorem Q01 (st:ApiState) (shelf:Int) (post:Int→Prop) (g:Xp st shelf post):
  Tr Tryz.prog 41 [.agg (Q2 st),.i shelf] [] 0 (pI post):=by
 refine Tr.go Tryz.func41 Tryz.ntmps41 fun _ _ _ _ o=>?_
 unfold Xp at g
 refine C.ss (U.bx ?_)
 refine U.bx ?_
 refine U.pd 1 T (C.xs (C.ss ?_))
 refine U.pd 2 T (C.nx ?_)
 refine C.ite rfl g (fun b5 g=>?_) fun b5 g=>?_
 refine C.ss (U.pd 1 T (C.nx (C.ret (C.rt ?_))))
 exact C.f1 T o (pIi g)
 refine C.skip (C.xt (U.ps 3 T rfl (U.k (KN st.Robots shelf _ g) en87 (fun x10 g=>?_))))
 refine U.pd 1 T (C.nx (C.ret ?_))
 exact C.f1 T o (pIi g)
theorem ZF (c:Int) (post:Int→Prop) (g:Gp c post):
  Tr Tryz.prog 101 [.i c] [] 0 (pI post):=by
 refine Tr.go Tryz.func101 Tryz.ntmps101 fun _ _ _ _ o=>?_
 unfold Gp at g
 refine C.ss (U.pd 1 T (C.xt ?_))
 refine U.pd 3 T (C.nx (C.ret ?_))
 exact C.f1 T o (pIi g)
theorem YR (c:Int) (post:Int→Prop) (g:Xt c post):
  Tr Tryz.prog 102 [.i c] [] 0 (pI post):=by
 refine Tr.go Tryz.func102 Tryz.ntmps102 fun _ _ _ _ o=>?_
 unfold Xt at g
 refine C.ss (U.pd 1 T (C.xt ?_))
 refine U.pd 4 T (C.nx (C.ret ?_))
 exact C.f1 T o (pIi g)
theorem Q5A (r:Q0) (c:Int) (post:(List Int)→Prop) (g:Zr r c post):
  Tr Tryz.prog 147 [.agg (Q4 r),.i c] [] 0 (fun A H' k=>∃y,post y∧A=(.o 0)∧H'=[(0,.val (.os 1 eI y))]∧k=1):=by
 refine Tr.go Tryz.func147 Tryz.ntmps147 fun _ _ _ _ o=>?_
 unfold Zr at g
 refine C.ss (U.bx ?_)
 refine U.pd 1 T (C.xs (C.ss ?_))
 refine U.pd 3 T (C.nx ?_)
 refine C.ite rfl g (fun b5 g=>?_) fun b5 g=>?_
 refine C.ss (U.ps 1 T rfl (U.k (ZF c _ g) Q6c (fun x8 g=>?_)))
 refine U.ps 1 T rfl (U.k (YR c _ g) Q6A (fun x9 g=>?_))
 refine U.bs T eI ([x8,x9]:List Int) ?_
 refine U.pd 1 T (C.nx (C.ret (C.rt ?_)))
 exact C.g1 [some 1] T o ⟨([x8,x9]:List Int),g,rfl,rfl,rfl⟩
 refine C.skip (C.xt (U.ps 1 T rfl (U.k (ZF c _ g) Q6c (fun x12 g=>?_))))
 refine U.bs T eI ([x12]:List Int) ?_
 refine U.pd 1 T (C.nx (C.ret ?_))
 exact C.g1 [some 1] T o ⟨([x12]:List Int),g,rfl,rfl,rfl⟩
theorem Q3L (st:ApiState) (i:Int) (post:(List Int)→Prop) (g:GO st i post):
  Tr Tryz.prog 92 [.agg (Q2 st),.i i] [] 0 (fun A H' k=>∃y,post y∧A=(.o 0)∧H'=[(0,.val (.os 1 eI y))]∧k=1):=by
 refine Tr.go Tryz.func92 Tryz.ntmps92 fun _ _ _ _ o=>?_
 unfold GO at g
 refine C.ss (U.bx ?_)
 refine U.pd 1 T (C.xs (C.seq ?_))
 refine C.jn (fun (x3:Bool)=>[(1,.i i),(2,.p 0 0),(13,.b x3)]) (fun x3=>[(0,.box (Q2 st))]) 1 g (fun x3 g=>?_) fun J4 g j4=>?_
 refine C.nx ?_
 refine C.ite rfl g (fun b6 g=>?_) fun b6 g=>?_
 refine C.ss (U.pd 1 T (C.nx (C.ret (C.rt ?_))))
 exact C.g1 [none] T o ⟨[],g,rfl,rfl,rfl⟩
 refine C.skip (C.xs (D.bq mix 9999 [0] [] (fun hQ hS ws M'=>?_)))
 refine D.pq 3 (zl [0,1,2]) T ?_
 obtain⟨x11,y11,g⟩:=g
 refine D.ix 3 [] T y11 ?_
 refine D.pq 4 (zl [4,5,6,7]) T ?_
 refine D.ix 8 [] T y11 ?_
 refine D.pq 2 (zl [9,10]) T ?_
 refine D.k 11 (Q5A x11 x11.Cell _ g) Q9q fun x12 g=>?_
 refine D.pq 1 [(12,[])] T ?_
 refine D.done (by kernel_rfl) ?_
 refine C.nx (C.ret ?_)
 exact C.g1 [some 1] T o ⟨x12,g,rfl,rfl,rfl⟩
 refine U.start (U.ps 3 T rfl ?_)
 refine g.cs (fun b5 g=>?_) fun b5 g=>?_
 refine U.sk' 5 2 false 7 b5 ?_
 refine U.pk b5 ?_
 refine U.done ?_
 exact St.wa [some 0] (j4 _ g)
 refine U.pq 5 2 false 7 b5 T ?_
 refine U.pk' b5 ?_
 refine U.done ?_
 exact St.wa [some 0] (j4 _ g)
theorem Q3V (st:ApiState) (s_1:Int) (post:(List Int)→Prop) (g:GP st s_1 post):
  Tr Tryz.prog 93 [.agg (Q2 st),.i s_1] [] 0 (fun A H' k=>∃y,post y∧A=(.o 0)∧H'=[(0,.val (.os 1 eI y))]∧k=1):=by
 refine Tr.go Tryz.func93 Tryz.ntmps93 fun _ _ _ _ o=>?_
 unfold GP at g
 refine C.ss (U.bx ?_)
 refine U.pd 1 T (C.xs (C.seq ?_))
 refine C.jn (fun (x3:Bool)=>[(1,.i s_1),(2,.p 0 0),(19,.b x3)]) (fun x3=>[(0,.box (Q2 st))]) 1 g (fun x3 g=>?_) fun J4 g j4=>?_
 refine C.nx ?_
 refine C.ite rfl g (fun b8 g=>?_) fun b8 g=>?_
 refine C.ss (U.pd 1 T (C.nx (C.ret (C.rt ?_))))
 exact C.g1 [none] T o ⟨[],g,rfl,rfl,rfl⟩
 refine C.skip (C.xt (U.ps 3 T rfl ?_))
 obtain⟨x13,y13,g⟩:=g
 refine U.ix T y13 ?_
 refine U.ps 1 T rfl (U.k (YR x13 _ g) Q6A (fun x14 g=>?_))
 refine U.bs T eI ([x14]:List Int) ?_
 refine U.pd 1 T (C.nx (C.ret ?_))
 exact C.g1 [some 1] T o ⟨([x14]:List Int),g,rfl,rfl,rfl⟩
 refine U.start (U.ps 3 T rfl ?_)
 refine g.cs (fun b5 g=>?_) fun b5 g=>?_
 refine U.sk' 5 2 false 7 b5 ?_
 refine U.pk b5 ?_
 refine U.ps 1 T rfl (U.sk' 4 9 false 14 rfl ?_)
 refine U.pk rfl ?_
 refine U.done ?_
 exact St.wa [some 0] (j4 _ g)
 refine U.pq 5 2 false 7 b5 T ?_
 refine U.pk' b5 ?_
 refine U.ps 1 T rfl ?_
 refine g.cs (fun b6 g=>?_) fun b6 g=>?_
 refine U.sk' 4 9 false 14 b6 ?_
 refine U.pk b6 ?_
 refine U.done ?_
 exact St.wa [some 0] (j4 _ g)
 refine U.pq 2 9 false 14 b6 T ?_
 refine U.k (Q01 st s_1 _ g) en41 (fun x7 g=>?_) (hw:=.take 9 false 14 _ b6 rfl rfl rfl)
 refine U.pq 1 9 false 14 b6 T ?_
 refine U.pk' b6 ?_
 refine U.done ?_
 exact St.wa [some 0] (j4 _ g)
theorem Q35 (st:ApiState) (p:Int) (post:(List Int)→Prop) (g:Gj st p post):
  Tr Tryz.prog 94 [.agg (Q2 st),.i p] [] 0 (fun A H' k=>∃y,post y∧A=(.o 0)∧H'=[(0,.val (.os 1 eI y))]∧k=1):=by
 refine Tr.go Tryz.func94 Tryz.ntmps94 fun _ _ _ _ o=>?_
 unfold Gj at g
 refine C.ss (U.bx ?_)
 refine U.pd 1 T (C.xs (C.seq ?_))
 refine C.jn (fun (x3:Bool)=>[(1,.i p),(2,.p 0 0),(13,.b x3)]) (fun x3=>[(0,.box (Q2 st))]) 1 g (fun x3 g=>?_) fun J4 g j4=>?_
 refine C.nx ?_
 refine C.ite rfl g (fun b6 g=>?_) fun b6 g=>?_
 refine C.ss (U.pd 1 T (C.nx (C.ret (C.rt ?_))))
 exact C.g1 [none] T o ⟨[],g,rfl,rfl,rfl⟩
 refine C.skip (C.xs (D.bq mix 9999 [0] [] (fun hQ hS ws M'=>?_)))
 refine D.pq 3 (zl [0,1,2]) T ?_
 obtain⟨x11,y11,g⟩:=g
 refine D.ix 3 [] T y11 ?_
 refine D.pq 4 (zl [4,6,7,8]) T ?_
 refine D.ix 9 [] T y11 ?_
 refine D.pq 1 [(10,[])] T ?_
 refine D.k 5 (ZF x11 _ g) Q6c fun x12 g=>?_
 refine D.k 11 (YR x11 _ g) Q6A fun x13 g=>?_
 refine D.e1 12 rfl (.none rfl) (by exact Eff1.bs T (enc:=eI) (xs:=([x12,x13]:List Int)) rfl rfl rfl rfl rfl rfl rfl rfl rfl rfl (fun _ _=>rfl) rfl rfl) (by kernel_rfl) rfl rfl ?_
 refine D.pq 1 [(13,[])] T ?_
 refine D.done (by kernel_rfl) ?_
 refine C.nx (C.ret ?_)
 exact C.g1 [some 1] T o ⟨([x12,x13]:List Int),g,rfl,rfl,rfl⟩
 refine U.start (U.ps 3 T rfl ?_)
 refine g.cs (fun b5 g=>?_) fun b5 g=>?_
 refine U.sk' 5 2 false 7 b5 ?_
 refine U.pk b5 ?_
 refine U.done ?_
 exact St.wa [some 0] (j4 _ g)
 refine U.pq 5 2 false 7 b5 T ?_
 refine U.pk' b5 ?_
 refine U.done ?_
 exact St.wa [some 0] (j4 _ g)
theorem Q2F (st:ApiState) (post:(List Int)→Prop) (g:WR st post):
  Tr Tryz.prog 44 [.agg (Q2 st)] [] 0 (fun A H' k=>∃y,post y∧A=(.o 0)∧H'=[(0,.val (.os 1 eI y))]∧k=1):=by
 refine Tr.go Tryz.func44 Tryz.ntmps44 fun _ _ _ _ o=>?_
 unfold WR at g
 refine C.ss (U.bx ?_)
 refine U.pd 1 T (C.xt ?_)
 refine U.pd 1 T (C.xs (C.ss ?_))
 refine U.pd 4 T (C.nx ?_)
 refine C.jn (fun (x7:List Int)=>[(1,.p 0 0),(3,.o 1)]) (fun x7=>[(0,.box (Q2 st)),(1,.val (.os 1 eI x7))]) 2 g (fun x7 g=>?_) fun J8 g j8=>?_
 refine C.xs (C.ss (U.pd 4 T (C.nx ?_)))
 refine C.jn (fun (x24:List Int)=>[(1,.p 0 0),(3,.o 1)]) (fun x24=>[(0,.box (Q2 st)),(1,.val (.os 1 eI x24))]) 2 g (fun x24 g=>?_) fun J25 g j25=>?_
 refine C.xs (C.ss (U.pd 4 T (C.nx ?_)))
 refine C.jn (fun (x41:List Int)=>[(3,.o 0)]) (fun x41=>[(0,.val (.os 1 eI x41))]) 1 g (fun x41 g=>?_) fun J42 g j42=>?_
 refine C.xt (U.pd 2 T (C.nx (C.ret ?_)))
 exact C.g1 [some 0] T o ⟨x41,g,rfl,rfl,rfl⟩
 refine C.block (St.wk (C.loop (fun (s43:List Int×Int)=>[(1,.p 0 0),(3,.o 1),(33,.i (st.People.length:Int)),(34,.i s43.2)]) (fun s43=>[(0,.box (Q2 st)),(1,.val (.os 1 eI s43.1))]) g (fun s43 Y44 g=>?_)) (Wk.a (idR 2)))
 refine C.ss (U.pd 1 T (C.xs ?_))
 refine C.ite rfl g (fun b47 g=>?_) fun b47 g=>?_
 refine C.skip (C.xs (C.block (C.ss (U.pd 2 T (C.nx (U.start ?_))))))
 refine U.ps 3 T rfl (U.k (Q35 st s43.2 _ g) en94 (fun x52 g=>?_))
 obtain⟨y53,g⟩:=g
 refine U.ap T y53 ?_
 refine U.pd 1 T (C.bnx (C.nx (U.start ?_)))
 refine U.pd 2 T (C.nx ?_)
 exact St.wk (C.next g) (Wk.a [some 0,some 3])
 refine C.exit (C.ex (C.ex (C.bex ?_)))
 exact St.wa [some 1] (j42 _ g)
 refine C.block (St.wk (C.loop (fun (s26:List Int×Int)=>[(1,.p 0 0),(3,.o 1),(21,.i (st.Shelves.length:Int)),(22,.i s26.2)]) (fun s26=>[(0,.box (Q2 st)),(1,.val (.os 1 eI s26.1))]) g (fun s26 Y27 g=>?_)) (Wk.a (idR 2)))
 refine C.ss (U.pd 1 T (C.xs ?_))
 refine C.ite rfl g (fun b30 g=>?_) fun b30 g=>?_
 refine C.skip (C.xs (C.block (C.ss (U.pd 2 T (C.nx (U.start ?_))))))
 refine U.ps 3 T rfl (U.k (Q3V st s26.2 _ g) en93 (fun x35 g=>?_))
 obtain⟨y36,g⟩:=g
 refine U.ap T y36 ?_
 refine U.pd 1 T (C.bnx (C.nx (U.start ?_)))
 refine U.pd 2 T (C.nx ?_)
 exact St.wk (C.next g) (Wk.a [some 0,some 3])
 refine C.exit (C.ex (C.ex (C.bex ?_)))
 exact St.wa (idR 2) (j25 _ g)
 refine C.block (St.wk (C.loop (fun (s9:List Int×Int)=>[(1,.p 0 0),(3,.o 1),(9,.i (st.Robots.length:Int)),(10,.i s9.2)]) (fun s9=>[(0,.box (Q2 st)),(1,.val (.os 1 eI s9.1))]) g (fun s9 Y10 g=>?_)) (Wk.mk' [some 0,none] rfl rfl ⟨⟨_,rfl,(.eq rfl)⟩,⟨_,rfl,(.nilO _ _ ⟨rfl,rfl⟩ rfl)⟩,ChkG.eqs rfl⟩ ⟨bX,⟨_,rfl,.nil _ _⟩,trivial⟩ rfl))
 refine C.ss (U.pd 1 T (C.xs ?_))
 refine C.ite rfl g (fun b13 g=>?_) fun b13 g=>?_
 refine C.skip (C.xs (C.block (C.ss (U.pd 2 T (C.nx (U.start ?_))))))
 refine U.ps 3 T rfl (U.k (Q3L st s9.2 _ g) en92 (fun x18 g=>?_))
 obtain⟨y19,g⟩:=g
 refine U.ap T y19 ?_
 refine U.pd 1 T (C.bnx (C.nx (U.start ?_)))
 refine U.pd 2 T (C.nx ?_)
 exact St.wk (C.next g) (Wk.a [some 0,some 3])
 refine C.exit (C.ex (C.ex (C.bex ?_)))
 exact St.wa (idR 2) (j8 _ g)
theorem YJ (s_1:List Int) (post:(List Int)→Prop) (g:KO s_1 post):
  Tr Tryz.prog 91 [.sl 1 eI s_1] [] 0 (fun A H' k=>∃y,post y∧A=(.fn (.func 146) [] [.p 0 0])∧H'=[(0,.box [.sl 1 eI y])]∧k=1):=by
 refine Tr.go Tryz.func91 Tryz.ntmps91 fun _ _ _ _ o=>?_
 unfold KO at g
 refine C.ss (U.bx ?_)
 refine U.pd 1 T (C.xt ?_)
 refine U.pd 2 T (C.nx (C.ret ?_))
 exact C.g1 [some 0] T o ⟨(s_1),g,rfl,rfl,rfl⟩
theorem KL (seq_c0:List Int) (s_1:List Int) (post:(List Int)→Prop) (g:Qn seq_c0 s_1 post):
  Tr Tryz.prog 193 [.o 0,.fn (.func 146) [] [.rp [.sl 1 eI seq_c0]]] [(0,.val (.os 1 eI s_1))] 1 (fun A H' k=>∃y,post y∧A=(.o 1)∧H'=[(1,.val (.os 1 eI y))]∧k=2):=by
 refine Tr.go Tryz.func193 Tryz.ntmps193 fun _ _ _ _ o=>?_
 unfold Qn at g
 refine C.ss (U.bx ?_)
 refine U.pd 1 T (C.xs (C.ss ?_))
 refine U.pd 1 T (C.nx (C.block ?_))
 obtain⟨y8,g⟩:=g
 refine St.wk (C.range (Γ0:=[(2,.p 1 0),(6,.fn (.func 146) [] [.rp [.sl 1 eI seq_c0]])]) (Γ1:=fun (x5:Int)=>[(5,.i x5),(7,.i x5),(2,.p 1 0),(6,.fn (.func 146) [] [.rp [.sl 1 eI seq_c0]])]) (Hf:=fun (s6:List Int)=>[(1,.box [.o 2]),(2,.val (.os 1 eI s6))]) 2 g (Q9G seq_c0 y8) Q9z rfl rfl rfl rfl rfl (fun _=>rfl) rfl rfl (fun _=>rfl) (fun x5 s6 Y7 g w0 ok M β l=>?_) (fun s12 g=>?_)) (Wk.a [some 0,some 1,some 0])
 refine CI.block ?_
 refine UI.start (by kernel_rfl) (by repeat (first | exact Z0.rnd | refine Z0.th ?_ | refine Z0.blk ?_)) ?_
 refine U.ps 2 T rfl (U.bs T eI ([x5]:List Int) ?_)
 obtain⟨y11,g⟩:=g
 refine U.ap T y11 ?_
 refine U.st T ?_
 refine U.done (C.bnx ?_)
 exact St.wk (CI.next g) (Wk.mk' [some 0,some 1,some 4] rfl rfl trivial ⟨bX,vL,trivial⟩ rfl)
 refine C.bnx (C.xt (U.pd 2 T (C.nx (C.ret ?_))))
 exact C.g1 [some 0,some 2] T o ⟨s12,g,rfl,rfl,rfl⟩
theorem XF (seq_c0:List Int) (post:(List Int)→Prop) (g:QC seq_c0 post):
  Tr Tryz.prog 145 [.fn (.func 146) [] [.rp [.sl 1 eI seq_c0]]] [] 0 (fun A H' k=>∃y,post y∧A=(.o 0)∧H'=[(0,.val (.os 1 eI y))]∧k=1):=by
 refine Tr.go Tryz.func145 Tryz.ntmps145 fun _ _ _ _ o=>?_
 unfold QC at g
 refine C.ss (U.pd 1 T (C.xt ?_))
 refine U.ps 1 T rfl (U.c [none] (KL seq_c0 [] _ g) Q8Z (fun x5 g=>?_))
 refine U.pd 1 T (C.nx (C.ret ?_))
 exact C.g1 [some 1] T o ⟨x5,g,rfl,rfl,rfl⟩
def Q9A:Go.Shelf.Ren:=⟨fun | 125=>122 | 128=>171 | 129=>172 | 189=>67 | 215=>202 | 216=>168 | 257=>121 | 294=>162 | 295=>163 | 296=>164 | 297=>165 | 298=>166 | 299=>167 | 300=>169 | 301=>170 | 328=>197 | 329=>198 | 330=>199 | 331=>200 | 332=>201 | 343=>211 | n=>n,fun | 0=>0 | 3=>3 | 4=>4 | 5=>5 | 9=>9 | 28=>22 | 46=>146 | 51=>190 | 53=>192 | 131=>39 | 182=>182 | 183=>183 | 218=>203 | 222=>207 | 228=>211 | 229=>89 | n=>n,fun n=>n⟩
theorem Q9h:Go.Proofs.Lays.n189 Tryz.prog Q9A where
 mixed:=by kernel_rfl
 f125:=Tryz.func122.trans (congrArg some (by kernel_rfl))
 f128:=Tryz.func171.trans (congrArg some (by kernel_rfl))
 f129:=Tryz.func172.trans (congrArg some (by kernel_rfl))
 f189:=Tryz.func67.trans (congrArg some (by kernel_rfl))
 f215:=Tryz.func202.trans (congrArg some (by kernel_rfl))
 f216:=Tryz.func168.trans (congrArg some (by kernel_rfl))
 f257:=Tryz.func121.trans (congrArg some (by kernel_rfl))
 f294:=Tryz.func162.trans (congrArg some (by kernel_rfl))
 f295:=Tryz.func163.trans (congrArg some (by kernel_rfl))
 f296:=Tryz.func164.trans (congrArg some (by kernel_rfl))
 f297:=Tryz.func165.trans (congrArg some (by kernel_rfl))
 f298:=Tryz.func166.trans (congrArg some (by kernel_rfl))
 f299:=Tryz.func167.trans (congrArg some (by kernel_rfl))
 f300:=Tryz.func169.trans (congrArg some (by kernel_rfl))
 f301:=Tryz.func170.trans (congrArg some (by kernel_rfl))
 f328:=Tryz.func197.trans (congrArg some (by kernel_rfl))
 f329:=Tryz.func198.trans (congrArg some (by kernel_rfl))
 f330:=Tryz.func199.trans (congrArg some (by kernel_rfl))
 f331:=Tryz.func200.trans (congrArg some (by kernel_rfl))
 f332:=Tryz.func201.trans (congrArg some (by kernel_rfl))
 f343:=Tryz.func211.trans (congrArg some (by kernel_rfl))
 t0:=Tryz.underlying0
 a0:=Tryz.isAgg0
 z0:=Tryz.sizeOf0
 v0:=Tryz.zeroValue0
 t3:=Tryz.underlying3
 a3:=Tryz.isAgg3
 z3:=Tryz.sizeOf3
 v3:=Tryz.zeroValue3
 t4:=Tryz.underlying4
 a4:=Tryz.isAgg4
 z4:=Tryz.sizeOf4
 v4:=Tryz.zeroValue4
 t5:=Tryz.underlying5
 a5:=Tryz.isAgg5
 z5:=Tryz.sizeOf5
 v5:=Tryz.zeroValue5
 t9:=Tryz.underlying9
 a9:=Tryz.isAgg9
 z9:=Tryz.sizeOf9
 v9:=Tryz.zeroValue9
 t28:=Tryz.underlying22
 a28:=Tryz.isAgg22
 z28:=Tryz.sizeOf22
 v28:=Tryz.zeroValue22
 t46:=Tryz.underlying146
 a46:=Tryz.isAgg146
 z46:=Tryz.sizeOf146
 v46:=Tryz.zeroValue146
 t51:=Tryz.underlying190
 a51:=Tryz.isAgg190
 z51:=Tryz.sizeOf190
 v51:=Tryz.zeroValue190
 t53:=Tryz.underlying192
 a53:=Tryz.isAgg192
 z53:=Tryz.sizeOf192
 v53:=Tryz.zeroValue192
 t131:=Tryz.underlying39
 a131:=Tryz.isAgg39
 z131:=Tryz.sizeOf39
 v131:=Tryz.zeroValue39
 t182:=Tryz.underlying182
 a182:=Tryz.isAgg182
 z182:=Tryz.sizeOf182
 v182:=Tryz.zeroValue182
 t183:=Tryz.underlying183
 a183:=Tryz.isAgg183
 z183:=Tryz.sizeOf183
 v183:=Tryz.zeroValue183
 t218:=Tryz.underlying203
 a218:=Tryz.isAgg203
 z218:=Tryz.sizeOf203
 v218:=Tryz.zeroValue203
 t222:=Tryz.underlying207
 a222:=Tryz.isAgg207
 z222:=Tryz.sizeOf207
 v222:=Tryz.zeroValue207
 t228:=Tryz.underlying211
 a228:=Tryz.isAgg211
 z228:=Tryz.sizeOf211
 v228:=Tryz.zeroValue211
 t229:=Tryz.underlying89
 a229:=Tryz.isAgg89
 z229:=Tryz.sizeOf89
 v229:=Tryz.zeroValue89
theorem Xr (p0:List Int) (post:List Int→Prop) (g:QF p0 post):
  Tr Tryz.prog 67 [.o 0] [(0,.val (.os 1 eI p0))] 1 (fun A H' k=>∃y,post y∧A=(.tup [])∧H'=[(0,.val (.os 1 eI y))]∧k=1):=by
 unfold QF at g
 exact Tr.sortInt Q9h p0 g.1 g.2
theorem XM (seq_c0:List Int) (post:(List Int)→Prop) (g:QE seq_c0 post):
  Tr Tryz.prog 90 [.fn (.func 146) [] [.rp [.sl 1 eI seq_c0]]] [] 0 (fun A H' k=>∃y,post y∧A=(.o 0)∧H'=[(0,.val (.os 1 eI y))]∧k=1):=by
 refine Tr.go Tryz.func90 Tryz.ntmps90 fun _ _ _ _ o=>?_
 unfold QE at g
 refine C.ss (U.pd 1 T (C.xt ?_))
 refine U.ps 1 T rfl (U.k (XF seq_c0 _ g) Q99 (fun x5 g=>?_))
 refine U.pd 1 T (C.xt ?_)
 refine U.ps 1 T rfl (U.c [some 0] (Xr x5 _ g) en67 (fun x8 g=>?_))
 refine U.done (C.xt (U.pd 2 T (C.nx (C.ret ?_))))
 exact C.g1 [some 0] T o ⟨x8,g,rfl,rfl,rfl⟩
theorem Q4a (slots:List Int) (post:(Int×Bool)→Prop) (g:Wq slots post):
  Tr Tryz.prog 43 [.sl 1 eI slots] [] 0 (fun A H' k=>∃y,post y∧A=(.tup [.i y.1,.b y.2])∧H'=[]∧k=0):=by
 refine Tr.go Tryz.func43 Tryz.ntmps43 fun _ _ _ _ o=>?_
 unfold Wq at g
 refine C.ss (U.pd 2 T (C.xt ?_))
 refine U.ps 1 T rfl (U.e rfl (.none rfl) (by exact Eff.c [] (v:=false) (YJ slots _ g) en91 rfl rfl rfl (.eq rfl) trivial rfl rfl rfl rfl rfl rfl (fun h=>by cases h) (.inr ⟨rfl,rfl⟩) (fun _=>rfl) (fun _=>rfl) rfl) (fun x5' g=>?_))
 obtain⟨x5⟩:=x5'
 refine U.k (XM x5 _ g) en90 fun x6 g=>?_
 refine U.pd 1 T (C.xs (C.ss ?_))
 refine U.pd 1 T (C.nx ?_)
 refine C.jn (fun (x9:Unit)=>[]) (fun x9=>[]) 0 g (fun x9 g=>?_) fun J10 g j10=>?_
 refine C.xt (U.pd 2 T (C.nx (C.ret ?_)))
 exact C.f9 T o ⟨(0,false),g,rfl,rfl,rfl⟩
 refine C.block (St.wk (C.loop (fun (s11:Int)=>[(4,.o 0),(5,.i s11)]) (fun s11=>[(0,.val (.os 1 eI x6))]) g (fun s11 Y12 g=>?_)) (Wk.a [some 1]))
 refine C.seq (C.ss (U.pd 4 T (C.nx ?_)))
 refine C.ite rfl g (fun b15 g=>?_) fun b15 g=>?_
 refine C.skip (C.xs (C.block (C.seq (D.bq mix 9999 [0] [] (fun hQ hS ws M'=>?_)))))
 refine D.pq 2 (zl [0,1]) T ?_
 obtain⟨x18,y18,g⟩:=g
 refine D.q 2 [] hQ hS rfl (.none rfl) rfl rfl (by exact Rd.io T rfl rfl rfl rfl rfl rfl rfl y18) rfl (by kernel_rfl) ?_
 refine D.q 3 [] hQ hS rfl (.none rfl) rfl rfl (by exact Rd.le T rfl rfl rfl (Q6 y18).2.2 rfl rfl rfl) rfl (by kernel_rfl) ?_
 refine D.pq 3 (zl [4,5,6]) T ?_
 obtain⟨x19,y19,g⟩:=g
 refine D.q 7 [] hQ hS rfl (.none rfl) rfl rfl (by exact Rd.io T rfl rfl rfl rfl rfl rfl rfl y19) rfl (by kernel_rfl) ?_
 refine D.q 8 [] hQ hS rfl (.none rfl) rfl rfl (by exact Rd.le T rfl rfl rfl (Q6 y19).2.2 rfl rfl rfl) rfl (by kernel_rfl) ?_
 refine D.pq 1 [(9,[])] T ?_
 refine D.done (by kernel_rfl) ?_
 refine C.nx ?_
 refine C.ite rfl g (fun b20 g=>?_) fun b20 g=>?_
 refine C.ss (U.ps 2 T rfl (U.r rfl (.none rfl) rfl rfl (by exact Rd.io T rfl rfl rfl rfl rfl rfl rfl y18) ?_))
 refine U.r rfl (.none rfl) rfl rfl (by exact Rd.le T rfl rfl rfl (Q6 y18).2.2 rfl rfl rfl) ?_
 refine U.pd 2 T (C.nx (C.ret (C.brt (C.rt (C.rt (C.brt (C.rt ?_)))))))
 exact C.f9 T o ⟨(x18,true),g,rfl,rfl,rfl⟩
 refine C.skip (C.bnx (C.nx (U.start (U.pd 3 T (C.nx ?_)))))
 exact St.wk (C.next g) (Wk.a [some 0])
 refine C.exit (C.ex (C.ex (C.bex ?_)))
 exact St.wk (j10 _ g) (Wk.mk' [] rfl rfl trivial trivial rfl)
theorem Q3C (s_1:ApiSite) (st:ApiState) (post:Bool→Prop) (g:Wz s_1 st post):
  Tr Tryz.prog 9 [.agg (Q1 s_1),.agg (Q2 st)] [] 0 (pB post):=by
 refine Tr.go Tryz.func9 Tryz.ntmps9 fun _ _ _ _ o=>?_
 unfold Wz at g
 refine C.ss (U.bx ?_)
 refine U.bx ?_
 refine U.pd 1 T (C.xs (C.seq ?_))
 refine C.jn (fun (x3:Bool)=>[(2,.p 0 0),(3,.p 1 0),(51,.b x3)]) (fun x3=>[(0,.box (Q1 s_1)),(1,.box (Q2 st))]) 2 g (fun x3 g=>?_) fun J4 g j4=>?_
 refine C.nx ?_
 refine C.ite rfl g (fun b13 g=>?_) fun b13 g=>?_
 refine C.ss (U.pd 1 T (C.nx (C.ret (C.rt ?_))))
 exact C.f1 T o (pBi g)
 refine C.skip (C.xs (C.ss (U.pd 4 T (C.nx ?_))))
 refine C.jn (fun (x18:Unit)=>[(2,.p 0 0),(3,.p 1 0)]) (fun x18=>[(0,.box (Q1 s_1)),(1,.box (Q2 st))]) 2 g (fun x18 g=>?_) fun J19 g j19=>?_
 refine C.xs (C.ss (U.pd 4 T (C.nx ?_)))
 refine C.jn (fun (x40:Unit)=>[(3,.p 0 0)]) (fun x40=>[(0,.box (Q2 st))]) 1 g (fun x40 g=>?_) fun J41 g j41=>?_
 refine C.xt (U.ps 1 T rfl (U.k (Q2F st _ g) en44 (fun x60 g=>?_)))
 refine U.k (Q4a x60 _ g) en43 fun x61 g=>?_
 refine U.pd 5 T (C.xt ?_)
 refine U.pd 3 T (C.nx (C.ret ?_))
 exact C.f1 T o (pBi g)
 refine C.block (St.wk (C.loop (fun (s42:Int)=>[(2,.p 0 0),(3,.p 1 0),(74,.sl 1 eI st.People),(75,.i (st.People.length:Int)),(76,.i s42)]) (fun s42=>[(0,.box (Q1 s_1)),(1,.box (Q2 st))]) g (fun s42 Y43 g=>?_)) (Wk.a (idR 2)))
 refine C.ss (U.pd 1 T (C.xs ?_))
 refine C.ite rfl g (fun b46 g=>?_) fun b46 g=>?_
 refine C.skip (C.xs (C.block (C.ss ?_)))
 obtain⟨x49,y49,g⟩:=g
 refine U.ix T y49 ?_
 refine U.pd 2 T (C.xt ?_)
 refine U.ps 3 T rfl (U.bs T eI ([4,5]:List Int) ?_)
 refine U.k (Q1M s_1.Floor x49 ([4,5]:List Int) _ g) en42 fun x52 g=>?_
 refine U.pd 1 T (C.nx ?_)
 refine C.ite rfl g (fun b53 g=>?_) fun b53 g=>?_
 refine C.ss (U.pd 1 T (C.nx (C.ret (C.brt (C.rt (C.rt (C.brt (C.rt ?_))))))))
 exact C.f1 T o (pBi g)
 refine C.skip (C.bnx (C.nx (U.start (U.pd 2 T (C.nx ?_)))))
 exact St.wk (C.next g) (Wk.a (idR 2))
 refine C.exit (C.ex (C.ex (C.bex ?_)))
 exact St.wa [some 1] (j41 _ g)
 refine C.block (St.wk (C.loop (fun (s20:Int)=>[(2,.p 0 0),(3,.p 1 0),(53,.sl 1 eI st.Shelves),(54,.i (st.Shelves.length:Int)),(55,.i s20)]) (fun s20=>[(0,.box (Q1 s_1)),(1,.box (Q2 st))]) g (fun s20 Y21 g=>?_)) (Wk.a (idR 2)))
 refine C.ss (U.pd 1 T (C.xs ?_))
 refine C.ite rfl g (fun b24 g=>?_) fun b24 g=>?_
 refine C.skip (C.xs (C.block (C.ss (U.ps 1 T rfl ?_))))
 obtain⟨x27,y27,g⟩:=g
 refine U.ix T y27 ?_
 refine U.pd 3 T (C.xs ?_)
 refine C.jn (fun (x28:Bool)=>[(2,.p 0 0),(3,.p 1 0),(53,.sl 1 eI st.Shelves),(54,.i (st.Shelves.length:Int)),(55,.i s20),(71,.b x28)]) (fun x28=>[(0,.box (Q1 s_1)),(1,.box (Q2 st))]) 2 g (fun x28 g=>?_) fun J29 g j29=>?_
 refine C.nx ?_
 refine C.ite rfl g (fun b33 g=>?_) fun b33 g=>?_
 refine C.ss (U.pd 1 T (C.nx (C.ret (C.brt (C.rt (C.rt (C.brt (C.rt ?_))))))))
 exact C.f1 T o (pBi g)
 refine C.skip (C.bnx (C.nx (U.start (U.pd 2 T (C.nx ?_)))))
 exact St.wk (C.next g) (Wk.a (idR 2))
 refine U.start (U.ps 2 T rfl (U.k (Q01 st s20 _ g) en41 (fun x30 g=>?_)))
 refine U.ps 2 T rfl ?_
 refine g.cs (fun b31 g=>?_) fun b31 g=>?_
 refine U.pq 3 4 true 64 b31 T ?_
 refine U.e1 rfl (.tk 4 true 64 b31) (by exact Eff1.bs T (enc:=eI) (xs:=([1,2]:List Int)) rfl rfl rfl rfl rfl rfl rfl rfl rfl rfl (fun _ _=>rfl) rfl rfl) ?_
 refine U.k (Q1M s_1.Floor x27 ([1,2]:List Int) _ g) en42 (fun x32 g=>?_) (hw:=.take 4 true 64 _ b31 rfl rfl rfl)
 refine U.pq 1 4 true 64 b31 T ?_
 refine U.pk b31 ?_
 refine U.done ?_
 exact St.wa (idR 2) (j29 _ g)
 refine U.sk' 6 4 true 64 b31 ?_
 refine U.pk' b31 ?_
 refine U.done ?_
 exact St.wa (idR 2) (j29 _ g)
 refine C.exit (C.ex (C.ex (C.bex ?_)))
 exact St.wa (idR 2) (j19 _ g)
 refine U.start (U.ps 2 T rfl (U.k (Gq st.Tick 0 20000 _ g) en38 (fun x5 g=>?_)))
 refine U.ps 2 T rfl ?_
 refine g.cs (fun b6 g=>?_) fun b6 g=>?_
 refine U.pq 7 4 false 15 (ntF b6) T ?_
 refine U.pk' (ntF b6) ?_
 refine U.ps 1 T rfl ?_
 refine g.cs (fun b7 g=>?_) fun b7 g=>?_
 refine U.sk' 7 13 false 24 b7 ?_
 refine U.pk b7 ?_
 refine U.ps 1 T rfl (U.sk' 4 22 false 33 rfl ?_)
 refine U.pk rfl ?_
 refine U.ps 1 T rfl (U.sk' 4 28 false 39 rfl ?_)
 refine U.pk rfl ?_
 refine U.ps 1 T rfl (U.sk' 5 34 false 45 rfl ?_)
 refine U.pk rfl ?_
 refine U.done ?_
 exact St.wa (idR 2) (j4 _ g)
 refine U.pq 7 13 false 24 b7 T ?_
 refine U.pk' b7 ?_
 refine U.ps 1 T rfl ?_
 refine g.cs (fun b8 g=>?_) fun b8 g=>?_
 refine U.sk' 4 22 false 33 b8 ?_
 refine U.pk b8 ?_
 refine U.ps 1 T rfl (U.sk' 4 28 false 39 rfl ?_)
 refine U.pk rfl ?_
 refine U.ps 1 T rfl (U.sk' 5 34 false 45 rfl ?_)
 refine U.pk rfl ?_
 refine U.done ?_
 exact St.wa (idR 2) (j4 _ g)
 refine U.pq 4 22 false 33 b8 T ?_
 refine U.pk' b8 ?_
 refine U.ps 1 T rfl ?_
 refine g.cs (fun b9 g=>?_) fun b9 g=>?_
 refine U.sk' 4 28 false 39 b9 ?_
 refine U.pk b9 ?_
 refine U.ps 1 T rfl (U.sk' 5 34 false 45 rfl ?_)
 refine U.pk rfl ?_
 refine U.done ?_
 exact St.wa (idR 2) (j4 _ g)
 refine U.pq 2 28 false 39 b9 T ?_
 refine U.k (Q3u s_1 st _ g) en39 (fun x10 g=>?_) (hw:=.take 28 false 39 _ b9 rfl rfl rfl)
 refine U.pq 1 28 false 39 b9 T ?_
 refine U.pk' b9 ?_
 refine U.ps 1 T rfl ?_
 refine g.cs (fun b11 g=>?_) fun b11 g=>?_
 refine U.pq 3 34 false 45 (ntF b11) T ?_
 refine U.k (Q4f s_1.Floor st _ g) en40 (fun x12 g=>?_) (hw:=.take 34 false 45 _ (ntF b11) rfl rfl rfl)
 refine U.pq 1 34 false 45 (ntF b11) T ?_
 refine U.pk' (ntF b11) ?_
 refine U.done ?_
 exact St.wa (idR 2) (j4 _ g)
 refine U.sk' 5 34 false 45 (ntT b11) ?_
 refine U.pk (ntT b11) ?_
 refine U.done ?_
 exact St.wa (idR 2) (j4 _ g)
 refine U.sk' 7 4 false 15 (ntT b6) ?_
 refine U.pk (ntT b6) ?_
 refine U.ps 1 T rfl (U.sk' 7 13 false 24 rfl ?_)
 refine U.pk rfl ?_
 refine U.ps 1 T rfl (U.sk' 4 22 false 33 rfl ?_)
 refine U.pk rfl ?_
 refine U.ps 1 T rfl (U.sk' 4 28 false 39 rfl ?_)
 refine U.pk rfl ?_
 refine U.ps 1 T rfl (U.sk' 5 34 false 45 rfl ?_)
 refine U.pk rfl ?_
 refine U.done ?_
 exact St.wa (idR 2) (j4 _ g)
theorem WK (s_1:List Int) (post:(List Int)→Prop) (g:V_slices_Compact_int_int__o0 s_1 post):
  Tr Tryz.prog 68 [.o 0] [(0,.val (.os 1 eI s_1))] 1 (fun A H' k=>∃y,post y∧A=(.o 1)∧H'=[(1,.val (.os 1 eI y))]∧k=2):=by
 refine Tr.go Tryz.func68 Tryz.ntmps68 fun _ _ _ _ o=>?_
 unfold V_slices_Compact_int_int__o0 at g
 refine C.ss (U.pd 1 T (C.xs (C.ss ?_)))
 refine U.pd 3 T (C.nx ?_)
 refine C.ite rfl g (fun b5 g=>?_) fun b5 g=>?_
 refine C.ss (U.pd 2 T (C.nx (C.ret (C.rt ?_))))
 exact C.g1 [some 0,some 0] T o ⟨s_1,g,rfl,rfl,rfl⟩
 refine C.skip (C.xs (C.ss (U.pd 1 T (C.nx ?_))))
 refine C.jn (fun (x10:Unit)=>[(0,.o 0)]) (fun x10=>[(0,.val (.os 1 eI s_1))]) 1 g (fun x10 g=>?_) fun J11 g j11=>?_
 refine C.xt (U.pd 2 T (C.nx (C.ret ?_)))
 exact C.g1 [some 0,some 0] T o ⟨s_1,g,rfl,rfl,rfl⟩
 refine C.block (St.wk (C.loop (fun (s12:Int)=>[(0,.o 0),(3,.i s12)]) (fun s12=>[(0,.val (.os 1 eI s_1))]) g (fun s12 Y13 g=>?_)) (Wk.a [some 0]))
 refine C.seq (C.ss (U.pd 4 T (C.nx ?_)))
 refine C.ite rfl g (fun b16 g=>?_) fun b16 g=>?_
 refine C.skip (C.xs ?_)
 refine C.jn (fun (x17:Unit)=>[(0,.o 0),(3,.i s12)]) (fun x17=>[(0,.val (.os 1 eI s_1))]) 1 g (fun x17 g=>?_) fun J18 g j18=>?_
 refine C.nx (U.start (U.pd 3 T (C.nx ?_)))
 exact St.wk (C.next g) (Wk.a [some 0])
 refine C.block (C.seq (D.bq mix 9999 [0] [] (fun hQ hS ws M'=>?_)))
 refine D.pq 2 (zl [0,1]) T ?_
 obtain⟨x21,y21,g⟩:=g
 refine D.q 2 [] hQ hS rfl (.none rfl) rfl rfl (by exact Rd.io T rfl rfl rfl rfl rfl rfl rfl y21) rfl (by kernel_rfl) ?_
 refine D.q 3 [] hQ hS rfl (.none rfl) rfl rfl (by exact Rd.le T rfl rfl rfl (Q6 y21).2.2 rfl rfl rfl) rfl (by kernel_rfl) ?_
 refine D.pq 3 (zl [4,5,6]) T ?_
 obtain⟨x22,y22,g⟩:=g
 refine D.q 7 [] hQ hS rfl (.none rfl) rfl rfl (by exact Rd.io T rfl rfl rfl rfl rfl rfl rfl y22) rfl (by kernel_rfl) ?_
 refine D.q 8 [] hQ hS rfl (.none rfl) rfl rfl (by exact Rd.le T rfl rfl rfl (Q6 y22).2.2 rfl rfl rfl) rfl (by kernel_rfl) ?_
 refine D.pq 1 [(9,[])] T ?_
 refine D.done (by kernel_rfl) ?_
 refine C.nx ?_
 refine C.ite rfl g (fun b23 g=>?_) fun b23 g=>?_
 refine C.ss (U.ps 2 T rfl ?_)
 obtain⟨y26,g⟩:=g
 refine U.r rfl (.none rfl) rfl rfl (by exact Rd.vw T rfl rfl rfl rfl rfl rfl (.some _ rfl) (.none _) y26) ?_
 refine U.pd 1 T (C.xs (C.ss ?_))
 refine U.pd 1 T (C.nx ?_)
 refine C.jn (fun (x29:List Int×Int)=>[(0,.o 0),(3,.i x29.2)]) (fun x29=>[(0,.val (.os 1 eI x29.1))]) 1 g (fun x29 g=>?_) fun J30 g j30=>?_
 refine C.xt (U.ps 2 T rfl ?_)
 obtain⟨y55,g⟩:=g
 refine U.r rfl (.none rfl) rfl rfl (by exact Rd.vw T rfl rfl rfl rfl rfl rfl (.some _ rfl) (.none _) y55) ?_
 obtain⟨y56,g⟩:=g
 refine U.e1 rfl (.none rfl) (by exact Eff1.clv T (z0:=0) rfl rfl rfl rfl rfl rfl rfl (fun _=>rfl) rfl y56) ?_
 refine U.done (C.xt (U.ps 2 T rfl ?_))
 obtain⟨y59,g⟩:=g
 refine U.e1 rfl (.none rfl) (by exact Eff1.sw T rfl rfl rfl rfl rfl rfl rfl rfl (.none _) (.some _ rfl) y59) ?_
 refine U.pd 1 T (C.nx (C.ret (C.brt (C.rt (C.rt (C.brt (C.rt ?_)))))))
 exact C.g1 (idR 2) T o ⟨(sub (x29.1.take (Int.toNat x29.2)++(List.replicate (Int.toNat ((x29.1.length:Int)-x29.2)) 0++x29.1.drop ((Int.toNat x29.2)+(Int.toNat ((x29.1.length:Int)-x29.2))))) 0 x29.2),g,rfl,rfl,rfl⟩
 refine C.block (St.wk (C.loop (fun (s31:List Int×Int×Int)=>[(0,.o 0),(3,.i s31.2.1),(4,.vw 0 1 (Int.toNat s12) (Int.toNat ((s_1.length:Int)-s12))),(5,.i s31.2.2)]) (fun s31=>[(0,.val (.os 1 eI s31.1))]) g (fun s31 Y32 g=>?_)) (Wk.a [some 0]))
 refine C.seq (C.ss (U.ps 2 T rfl (U.r rfl (.none rfl) rfl rfl (by exact Rd.vl T rfl rfl rfl) ?_)))
 refine U.pd 1 T (C.nx ?_)
 refine C.ite rfl g (fun b35 g=>?_) fun b35 g=>?_
 refine C.skip (C.xs (C.block (C.seq (D.bq mix 9999 [0] [] (fun hQ hS ws M'=>?_)))))
 refine D.pq 2 (zl [0,1]) T ?_
 obtain⟨y38,g⟩:=g
 refine D.q 2 [] hQ hS rfl (.none rfl) rfl rfl (by exact Rd.vi T rfl rfl rfl rfl rfl rfl y38) rfl (by kernel_rfl) ?_
 obtain⟨x39,y39,g⟩:=g
 refine D.q 3 [] hQ hS rfl (.none rfl) rfl rfl (by exact Rd.le T rfl rfl rfl y39 rfl rfl rfl) rfl (by kernel_rfl) ?_
 refine D.pq 3 (zl [4,5,6]) T ?_
 obtain⟨y40,g⟩:=g
 refine D.q 7 [] hQ hS rfl (.none rfl) rfl rfl (by exact Rd.vi T rfl rfl rfl rfl rfl rfl y40) rfl (by kernel_rfl) ?_
 obtain⟨x41,y41,g⟩:=g
 refine D.q 8 [] hQ hS rfl (.none rfl) rfl rfl (by exact Rd.le T rfl rfl rfl y41 rfl rfl rfl) rfl (by kernel_rfl) ?_
 refine D.pq 1 [(9,[])] T ?_
 refine D.done (by kernel_rfl) ?_
 refine C.nx ?_
 refine C.jn (fun (x42:List Int×Int)=>[(0,.o 0),(3,.i x42.2),(4,.vw 0 1 (Int.toNat s12) (Int.toNat ((s_1.length:Int)-s12))),(5,.i s31.2.2)]) (fun x42=>[(0,.val (.os 1 eI x42.1))]) 1 g (fun x42 g=>?_) fun J43 g j43=>?_
 refine C.bnx (C.nx (U.start (U.pd 3 T (C.nx ?_))))
 exact St.wk (C.next g) (Wk.a [some 0])
 refine C.ite rfl g (fun b44 g=>?_) fun b44 g=>?_
 refine C.ss (U.ps 4 T rfl ?_)
 obtain⟨y47,g⟩:=g
 refine U.r rfl (.none rfl) rfl rfl (by exact Rd.vi T rfl rfl rfl rfl rfl rfl y47) ?_
 refine U.r rfl (.none rfl) rfl rfl (by exact Rd.le T rfl rfl rfl y39 rfl rfl rfl) ?_
 obtain⟨x48,y48,g⟩:=g
 refine U.r rfl (.none rfl) rfl rfl (by exact Rd.io T rfl rfl rfl rfl rfl rfl rfl y48) ?_
 refine U.e1 rfl (.none rfl) (by exact Eff1.se T (z':=x39) rfl rfl rfl (Q6 y48).2.2 rfl rfl rfl rfl rfl rfl rfl rfl (fun _=>rfl) rfl) ?_
 refine U.done (C.nx (U.start (U.pd 3 T ?_)))
 exact St.wa [some 0] (j43 _ g)
 refine C.skip ?_
 exact St.wa [some 0] (j43 _ g)
 refine C.exit (C.ex (C.ex (C.bex ?_)))
 exact St.wa [some 0] (j30 _ g)
 refine C.skip (C.bnx ?_)
 exact St.wa [some 0] (j18 _ g)
 refine C.exit (C.ex (C.ex (C.bex ?_)))
 exact St.wa [some 0] (j11 _ g)
theorem GX (st:ApiState) (post:(List Int)→Prop) (g:Ku st post):
  Tr Tryz.prog 26 [.agg (Q2 st)] [] 0 (fun A H' k=>∃y,post y∧A=(.o 0)∧H'=[(0,.val (.os 1 eI y))]∧k=1):=by
 refine Tr.go Tryz.func26 Tryz.ntmps26 fun _ _ _ _ o=>?_
 unfold Ku at g
 refine C.ss (U.bx ?_)
 refine U.pd 1 T (C.xt ?_)
 refine U.ps 2 T rfl (U.k (QV st.Dead _ g) en63 (fun x5 g=>?_))
 refine U.pd 1 T (C.xs (C.ss ?_))
 refine U.pd 4 T (C.nx ?_)
 refine C.jn (fun (x8:List Int)=>[(3,.o 0)]) (fun x8=>[(0,.val (.os 1 eI x8))]) 1 g (fun x8 g=>?_) fun J9 g j9=>?_
 refine C.xt (U.ps 1 T rfl (U.c [some 0] (Xr x8 _ g) en67 (fun x30 g=>?_)))
 refine U.done (C.xt (U.ps 1 T rfl (U.c [some 0] (WK x30 _ g) en68 (fun x33 g=>?_))))
 refine U.pd 1 T (C.nx (C.ret ?_))
 exact C.g1 [some 3] T o ⟨x33,g,rfl,rfl,rfl⟩
 refine C.block (St.wk (C.loop (fun (s10:List Int×Int)=>[(3,.o 0),(10,.sl 6 Q4 st.Robots),(11,.i (st.Robots.length:Int)),(12,.i s10.2)]) (fun s10=>[(0,.val (.os 1 eI s10.1))]) g (fun s10 Y11 g=>?_)) (Wk.a [some 1]))
 refine C.ss (U.pd 1 T (C.xs ?_))
 refine C.ite rfl g (fun b14 g=>?_) fun b14 g=>?_
 refine C.skip (C.xs (C.block (C.ss ?_)))
 obtain⟨x17,y17,g⟩:=g
 refine U.ix T y17 ?_
 refine U.ps 1 T rfl (U.al T ?_)
 refine U.st T ?_
 refine U.done (C.xt (U.pd 2 T (C.nx ?_)))
 refine C.jn (fun (x20:List Int)=>[(3,.o 0),(10,.sl 6 Q4 st.Robots),(11,.i (st.Robots.length:Int)),(12,.i s10.2)]) (fun x20=>[(0,.val (.os 1 eI x20))]) 1 g (fun x20 g=>?_) fun J21 g j21=>?_
 refine C.bnx (C.nx (U.start (U.pd 2 T (C.nx ?_))))
 exact St.wk (C.next g) (Wk.a [some 0])
 refine C.ite rfl g (fun b22 g=>?_) fun b22 g=>?_
 refine U.start (U.ps 3 T rfl (U.bs T eI ([x17.Cell]:List Int) ?_))
 obtain⟨y25,g⟩:=g
 refine U.ap T y25 ?_
 refine U.pd 1 T ?_
 exact St.wa [some 3] (j21 _ g)
 refine C.skip ?_
 exact St.wa [some 0] (j21 _ g)
 refine C.exit (C.ex (C.ex (C.bex ?_)))
 exact St.wa [some 0] (j9 _ g)
theorem Wm (st:ApiState) (robot:Int) (needs:List Int) (post:(Int×Bool)→Prop) (g:KU st robot needs post):
  Tr Tryz.prog 45 [.agg (Q2 st),.i robot,.sl 1 eI needs] [] 0 (fun A H' k=>∃y,post y∧A=(.tup [.i y.1,.b y.2])∧H'=[]∧k=0):=by
 refine Tr.go Tryz.func45 Tryz.ntmps45 fun _ _ _ _ o=>?_
 unfold KU at g
 refine C.ss (U.bx ?_)
 refine U.pd 2 T (C.xs (C.seq ?_))
 refine C.jn (fun (x3:Bool)=>[(1,.i robot),(2,.sl 1 eI needs),(3,.p 0 0),(17,.b x3)]) (fun x3=>[(0,.box (Q2 st))]) 1 g (fun x3 g=>?_) fun J4 g j4=>?_
 refine C.nx ?_
 refine C.ite rfl g (fun b6 g=>?_) fun b6 g=>?_
 refine C.ss (U.pd 2 T (C.nx (C.ret (C.rt ?_))))
 exact C.f9 T o ⟨(0,false),g,rfl,rfl,rfl⟩
 refine C.skip (C.xt (U.ps 3 T rfl ?_))
 obtain⟨x11,y11,g⟩:=g
 refine U.ix T y11 ?_
 refine U.ps 1 T rfl (U.al T ?_)
 refine U.st T ?_
 refine U.done (C.xs (C.seq ?_))
 refine C.jn (fun (x12:Bool)=>[(2,.sl 1 eI needs),(8,.p 0 0),(32,.b x12)]) (fun x12=>[(0,.box (Q4 x11))]) 1 g (fun x12 g=>?_) fun J13 g j13=>?_
 refine C.nx ?_
 refine C.ite rfl g (fun b16 g=>?_) fun b16 g=>?_
 refine C.ss (U.pd 2 T (C.nx (C.ret (C.rt ?_))))
 exact C.f9 T o ⟨(0,false),g,rfl,rfl,rfl⟩
 refine C.skip (C.xs (D.bq mix 9999 [0] [] (fun hQ hS ws M'=>?_)))
 refine D.pq 5 (zl [0,1,2,3,4]) T ?_
 obtain⟨x21,y21,g⟩:=g
 refine D.ix 5 [] T y21 ?_
 refine D.pq 7 (zl [6,7,8,9,10,11,12]) T ?_
 refine D.k 13 (Ww _ g) en14 fun x22 g=>?_
 refine D.pq 4 (zl [14,15,16,17]) T ?_
 refine D.done (by kernel_rfl) ?_
 refine C.nx (C.ret ?_)
 exact C.f9 T o ⟨(w64 ((w64 (x11.Charge-x21))-(w64 ((w64 (x11.Rest+x11.Mute))*x22))),true),g,rfl,rfl,rfl⟩
 refine U.start (U.ps 3 T rfl ?_)
 refine g.cs (fun b14 g=>?_) fun b14 g=>?_
 refine U.sk' 6 2 false 25 b14 ?_
 refine U.pk b14 ?_
 refine U.done ?_
 exact St.wa [some 1] (j13 _ g)
 refine U.pq 3 2 false 25 b14 T ?_
 obtain⟨x15,y15,g⟩:=g
 refine U.r rfl (.tk 2 false 25 b14) rfl rfl (by exact Rd.ix T rfl rfl rfl rfl rfl rfl y15) ?_
 refine U.pq 2 2 false 25 b14 T ?_
 refine U.pk' b14 ?_
 refine U.done ?_
 exact St.wa [some 1] (j13 _ g)
 refine U.start (U.ps 3 T rfl ?_)
 refine g.cs (fun b5 g=>?_) fun b5 g=>?_
 refine U.sk' 5 2 false 11 b5 ?_
 refine U.pk b5 ?_
 refine U.done ?_
 exact St.wa [some 0] (j4 _ g)
 refine U.pq 5 2 false 11 b5 T ?_
 refine U.pk' b5 ?_
 refine U.done ?_
 exact St.wa [some 0] (j4 _ g)
theorem Q2z (s_1:ApiSite) (st:ApiState) (robot:Int) (delay:Int) (post:(Int×Bool)→Prop) (g:Gt s_1 st robot delay post):
  Tr Tryz.prog 10 [.agg (Q1 s_1),.agg (Q2 st),.i robot,.i delay] [] 0 (fun A H' k=>∃y,post y∧A=(.tup [.i y.1,.b y.2])∧H'=[]∧k=0):=by
 refine Tr.go Tryz.func10 Tryz.ntmps10 fun _ _ _ _ o=>?_
 unfold Gt at g
 refine C.ss (U.bx ?_)
 refine U.bx ?_
 refine U.pd 2 T (C.xs ?_)
 refine D.bq mix 9999 [0,1] [] (fun hQ hS ws M'=>?_)
 refine D.pq 5 (zl [0,1,2,3,5]) T ?_
 refine D.k 4 (GX st _ g) en26 fun x5 g=>?_
 refine D.k 6 (GT s_1 x5 delay _ g) en23 fun x6 g=>?_
 refine D.k 7 (Wm st robot x6 _ g) en45 fun x7 g=>?_
 refine D.pq 4 (zl [8,9,10,11]) T ?_
 refine D.done (by kernel_rfl) ?_
 refine C.nx (C.ret ?_)
 exact C.f9 T o ⟨(x7.1,x7.2),g,rfl,rfl,rfl⟩
theorem Wu (st:ApiState) (post:(List Int)→Prop) (g:K7 st post):
  Tr Tryz.prog 27 [.agg (Q2 st)] [] 0 (fun A H' k=>∃y,post y∧A=(.o 0)∧H'=[(0,.val (.os 1 eI y))]∧k=1):=by
 refine Tr.go Tryz.func27 Tryz.ntmps27 fun _ _ _ _ o=>?_
 unfold K7 at g
 refine C.ss (U.bx ?_)
 refine U.pd 1 T (C.xt ?_)
 refine U.bs T eI ([]:List Int) ?_
 refine U.ps 2 T rfl ?_
 obtain⟨y5,g⟩:=g
 refine U.ap T y5 ?_
 refine U.pd 1 T (C.xs (C.ss ?_))
 refine U.pd 1 T (C.nx ?_)
 refine C.jn (fun (x8:List Int)=>[(3,.o 0)]) (fun x8=>[(0,.val (.os 1 eI x8))]) 1 g (fun x8 g=>?_) fun J9 g j9=>?_
 refine C.xt (U.pd 1 T (C.xs ?_))
 refine C.jn (fun (x28:List Int)=>[(5,.o 0)]) (fun x28=>[(0,.val (.os 1 eI x28))]) 1 g (fun x28 g=>?_) fun J29 g j29=>?_
 refine C.xt (U.pd 2 T (C.nx (C.ret ?_)))
 exact C.g1 [some 0] T o ⟨x28,g,rfl,rfl,rfl⟩
 refine C.block (St.wk (C.loop (fun (s30:List Int×List Int)=>[(3,.o 0),(5,.o 1)]) (fun s30=>[(0,.val (.os 1 eI s30.1)),(1,.val (.os 1 eI s30.2))]) g (fun s30 Y31 g=>?_)) (Wk.mk' [some 0,none] rfl rfl ⟨⟨_,rfl,(.eq rfl)⟩,⟨_,rfl,(.nilO _ _ ⟨rfl,rfl⟩ rfl)⟩,trivial⟩ ⟨vL,⟨_,rfl,.nil _ _⟩,trivial⟩ rfl))
 refine C.seq (C.ss (U.pd 3 T (C.nx ?_)))
 refine C.ite rfl g (fun b34 g=>?_) fun b34 g=>?_
 refine C.skip (C.nx ?_)
 refine C.jn (fun (x35:List Int×List Int)=>[(3,.o 0),(5,.o 1)]) (fun x35=>[(0,.val (.os 1 eI x35.1)),(1,.val (.os 1 eI x35.2))]) 2 g (fun x35 g=>?_) fun J36 g j36=>?_
 refine C.nx ?_
 exact St.wk (C.next g) (Wk.a (idR 2))
 refine C.block (C.ss (U.ps 1 T rfl ?_))
 obtain⟨x39,y39,g⟩:=g
 refine U.r rfl (.none rfl) rfl rfl (by exact Rd.io T rfl rfl rfl rfl rfl rfl rfl y39) ?_
 refine U.r rfl (.none rfl) rfl rfl (by exact Rd.le T rfl rfl rfl (Q6 y39).2.2 rfl rfl rfl) ?_
 refine U.pd 1 T (C.xs (C.ss ?_))
 refine U.pd 1 T (C.nx ?_)
 refine C.jn (fun (x42:Int)=>[(3,.o 0),(5,.o 1),(6,.i x42)]) (fun x42=>[(0,.val (.os 1 eI s30.1)),(1,.val (.os 1 eI s30.2))]) 2 g (fun x42 g=>?_) fun J43 g j43=>?_
 refine C.xt (U.ps 2 T rfl (U.bs T eI ([x42]:List Int) ?_))
 obtain⟨y56,g⟩:=g
 refine U.ap T y56 ?_
 refine U.pd 1 T (C.xt ?_)
 refine U.pd 1 T (C.xs (C.ss ?_))
 refine U.pd 1 T (C.nx ?_)
 refine C.jn (fun (x61:List Int)=>[(5,.o 0),(8,.o 1)]) (fun x61=>[(0,.val (.os 1 eI (s30.2++([x42]:List Int)))),(1,.val (.os 1 eI x61))]) 2 g (fun x61 g=>?_) fun J62 g j62=>?_
 refine C.nx (U.start (U.pd 2 T (C.bnx ?_)))
 exact St.wa [some 1,some 0] (j36 _ g)
 refine C.block ?_
 refine St.wk (C.loop (fun (s63:List Int×Int)=>[(3,.o 0),(5,.o 1),(6,.i x42),(8,.o 2),(9,.i s63.2)]) (fun s63=>[(0,.val (.os 1 eI s30.1)),(1,.val (.os 1 eI (s30.2++([x42]:List Int)))),(2,.val (.os 1 eI s63.1))]) g (fun s63 Y64 g=>?_)) (Wk.mk' [some 0,some 3,none] rfl rfl ⟨⟨_,rfl,(.eq rfl)⟩,⟨_,rfl,(.eq rfl)⟩,⟨_,rfl,(.eq rfl)⟩,⟨_,rfl,(.nilO _ _ ⟨rfl,rfl⟩ rfl)⟩,ChkG.eqs rfl⟩ ⟨vL,vL,⟨_,rfl,.nil _ _⟩,trivial⟩ rfl)
 refine C.seq (C.ss (U.pd 4 T (C.nx ?_)))
 refine C.ite rfl g (fun b67 g=>?_) fun b67 g=>?_
 refine C.skip (C.xs (C.block (C.ss (U.ps 2 T rfl ?_))))
 obtain⟨x70,y70,g⟩:=g
 refine U.r rfl (.none rfl) rfl rfl (by exact Rd.io T rfl rfl rfl rfl rfl rfl rfl y70) ?_
 refine U.r rfl (.none rfl) rfl rfl (by exact Rd.le T rfl rfl rfl (Q6 y70).2.2 rfl rfl rfl) ?_
 refine U.pd 2 T (C.nx ?_)
 refine C.jn (fun (x71:List Int)=>[(3,.o 0),(5,.o 1),(6,.i x42),(8,.o 2),(9,.i s63.2)]) (fun x71=>[(0,.val (.os 1 eI s30.1)),(1,.val (.os 1 eI (s30.2++([x42]:List Int)))),(2,.val (.os 1 eI x71))]) 3 g (fun x71 g=>?_) fun J72 g j72=>?_
 refine C.bnx (C.nx (U.start (U.pd 3 T (C.nx ?_))))
 exact St.wk (C.next g) (Wk.a (idR 3))
 refine C.ite rfl g (fun b73 g=>?_) fun b73 g=>?_
 refine U.start (U.ps 3 T rfl (U.r rfl (.none rfl) rfl rfl (by exact Rd.io T rfl rfl rfl rfl rfl rfl rfl y70) ?_))
 refine U.r rfl (.none rfl) rfl rfl (by exact Rd.le T rfl rfl rfl (Q6 y70).2.2 rfl rfl rfl) ?_
 refine U.bs T eI ([x70]:List Int) ?_
 obtain⟨y76,g⟩:=g
 refine U.ap T y76 ?_
 refine U.pd 1 T ?_
 exact St.wa [some 0,some 1,some 4] (j72 _ g)
 refine C.skip ?_
 exact St.wa (idR 3) (j72 _ g)
 refine C.exit (C.ex (C.ex (C.bex ?_)))
 exact St.wa (sqR 1 2) (j62 _ g)
 refine C.block (St.wk (C.loop (fun (s44:Int×Int)=>[(3,.o 0),(5,.o 1),(6,.i s44.1),(7,.i s44.2)]) (fun s44=>[(0,.val (.os 1 eI s30.1)),(1,.val (.os 1 eI s30.2))]) g (fun s44 Y45 g=>?_)) (Wk.a (idR 2)))
 refine C.seq (C.ss (U.pd 4 T (C.nx ?_)))
 refine C.ite rfl g (fun b48 g=>?_) fun b48 g=>?_
 refine C.skip (C.xs (C.block (U.start (U.ps 3 T rfl ?_))))
 obtain⟨x51,y51,g⟩:=g
 refine U.r rfl (.none rfl) rfl rfl (by exact Rd.io T rfl rfl rfl rfl rfl rfl rfl y51) ?_
 refine U.r rfl (.none rfl) rfl rfl (by exact Rd.le T rfl rfl rfl (Q6 y51).2.2 rfl rfl rfl) ?_
 refine U.pd 2 T (C.bnx (C.nx (U.start ?_)))
 refine U.pd 3 T (C.nx ?_)
 exact St.wk (C.next g) (Wk.a (idR 2))
 refine C.exit (C.ex (C.ex (C.bex ?_)))
 exact St.wa (idR 2) (j43 _ g)
 refine C.exit (C.ex (C.ex (C.bex ?_)))
 exact St.wa [some 1] (j29 _ g)
 refine C.block (St.wk (C.loop (fun (s10:List Int×Int)=>[(1,.p 0 0),(3,.o 1),(4,.i s10.2)]) (fun s10=>[(0,.box (Q2 st)),(1,.val (.os 1 eI s10.1))]) g (fun s10 Y11 g=>?_)) (Wk.a [some 0,some 2]))
 refine C.seq (C.ss (U.pd 5 T (C.nx ?_)))
 refine C.ite rfl g (fun b14 g=>?_) fun b14 g=>?_
 refine C.skip (C.xs (C.block (C.ss (U.ps 3 T rfl ?_))))
 obtain⟨x17,y17,g⟩:=g
 refine U.ix T y17 ?_
 refine U.pd 2 T (C.nx ?_)
 refine C.jn (fun (x18:List Int)=>[(1,.p 0 0),(3,.o 1),(4,.i s10.2)]) (fun x18=>[(0,.box (Q2 st)),(1,.val (.os 1 eI x18))]) 2 g (fun x18 g=>?_) fun J19 g j19=>?_
 refine C.bnx (C.nx (U.start (U.pd 3 T (C.nx ?_))))
 exact St.wk (C.next g) (Wk.a (idR 2))
 refine C.ite rfl g (fun b20 g=>?_) fun b20 g=>?_
 refine U.start (U.ps 4 T rfl (U.ix T y17 ?_))
 refine U.ps 2 T rfl (U.bs T eI ([x17.Cell]:List Int) ?_)
 obtain⟨y23,g⟩:=g
 refine U.ap T y23 ?_
 refine U.pd 1 T ?_
 exact St.wa [some 0,some 3] (j19 _ g)
 refine C.skip ?_
 exact St.wa (idR 2) (j19 _ g)
 refine C.exit (C.ex (C.ex (C.bex ?_)))
 exact St.wa [some 1] (j9 _ g)
theorem Xw (s_1:ApiSite) (st:ApiState) (robot:Int) (delay:Int) (post:(Int×Bool)→Prop) (g:QT s_1 st robot delay post):
  Tr Tryz.prog 25 [.agg (Q1 s_1),.agg (Q2 st),.i robot,.i delay] [] 0 (fun A H' k=>∃y,post y∧A=(.tup [.i y.1,.b y.2])∧H'=[]∧k=0):=by
 refine Tr.go Tryz.func25 Tryz.ntmps25 fun _ _ _ _ o=>?_
 unfold QT at g
 refine C.ss (U.bx ?_)
 refine U.bx ?_
 refine U.pd 2 T (C.xs (C.seq ?_))
 refine C.jn (fun (x3:Bool)=>[(2,.i robot),(3,.i delay),(4,.p 0 0),(5,.p 1 0),(20,.b x3)]) (fun x3=>[(0,.box (Q1 s_1)),(1,.box (Q2 st))]) 2 g (fun x3 g=>?_) fun J4 g j4=>?_
 refine C.nx ?_
 refine C.ite rfl g (fun b6 g=>?_) fun b6 g=>?_
 refine C.ss (U.pd 2 T (C.nx (C.ret (C.rt ?_))))
 exact C.f9 T o ⟨(0,false),g,rfl,rfl,rfl⟩
 refine C.skip (C.xt (U.ps 3 T rfl ?_))
 obtain⟨x11,y11,g⟩:=g
 refine U.ix T y11 ?_
 refine U.ps 1 T rfl (U.al T ?_)
 refine U.st T ?_
 refine U.done (C.xs (D.bq mix 9999 [0,1,2] [] (fun hQ hS ws M'=>?_)))
 refine D.pq 5 (zl [0,1,3,4,5]) T ?_
 refine D.k 2 (Wu st _ g) en27 fun x14 g=>?_
 refine D.k 6 (Ym s_1 x14 x11.Cell delay _ g) en22 fun x15 g=>?_
 refine D.pq 1 [(7,[])] T ?_
 refine D.done (by kernel_rfl) ?_
 refine C.xs (C.seq ?_)
 refine C.jn (fun (x16:Bool)=>[(10,.p 0 0),(11,.i x15),(38,.b x16)]) (fun x16=>[(0,.box (Q4 x11))]) 1 g (fun x16 g=>?_) fun J17 g j17=>?_
 refine C.nx ?_
 refine C.ite rfl g (fun b19 g=>?_) fun b19 g=>?_
 refine C.ss (U.pd 2 T (C.nx (C.ret (C.rt ?_))))
 exact C.f9 T o ⟨(0,false),g,rfl,rfl,rfl⟩
 refine C.skip (C.xs (D.bq mix 9999 [0] [] (fun hQ hS ws M'=>?_)))
 refine D.pq 9 (zl [0,1,2,3,4,5,6,7,8]) T ?_
 refine D.k 9 (G6 _ g) en15 fun x24 g=>?_
 refine D.pq 4 (zl [10,11,12,13]) T ?_
 refine D.done (by kernel_rfl) ?_
 refine C.nx (C.ret ?_)
 exact C.f9 T o ⟨(w64 ((w64 (x11.Charge-x15))-(w64 ((w64 (x11.Rest+x11.Mute))*x24))),true),g,rfl,rfl,rfl⟩
 refine U.start (U.ps 3 T rfl ?_)
 refine g.cs (fun b18 g=>?_) fun b18 g=>?_
 refine U.sk' 2 2 false 35 b18 ?_
 refine U.pk b18 ?_
 refine U.done ?_
 exact St.wa [some 2] (j17 _ g)
 refine U.pq 2 2 false 35 b18 T ?_
 refine U.pk' b18 ?_
 refine U.done ?_
 exact St.wa [some 2] (j17 _ g)
 refine U.start (U.ps 3 T rfl ?_)
 refine g.cs (fun b5 g=>?_) fun b5 g=>?_
 refine U.sk' 5 2 false 14 b5 ?_
 refine U.pk b5 ?_
 refine U.done ?_
 exact St.wa (idR 2) (j4 _ g)
 refine U.pq 5 2 false 14 b5 T ?_
 refine U.pk' b5 ?_
 refine U.done ?_
 exact St.wa (idR 2) (j4 _ g)
theorem Q1P (s_1:ApiSite) (st:ApiState) (delay:Int) (post:Int→Prop) (g:Gh s_1 st delay post):
  Tr Tryz.prog 28 [.agg (Q1 s_1),.agg (Q2 st),.i delay] [] 0 (pI post):=by
 refine Tr.go Tryz.func28 Tryz.ntmps28 fun _ _ _ _ o=>?_
 unfold Gh at g
 refine C.ss (U.bx ?_)
 refine U.bx ?_
 refine U.pd 1 T (C.xs ?_)
 refine D.bq mix 9999 [0,1] [] (fun hQ hS ws M'=>?_)
 refine D.pq 3 (zl [0,1,3]) T ?_
 refine D.k 2 (GX st _ g) en26 fun x5 g=>?_
 refine D.k 4 (GT s_1 x5 delay _ g) en23 fun x6 g=>?_
 refine D.pq 1 [(5,[])] T ?_
 refine D.done (by kernel_rfl) ?_
 refine C.xs (C.ss (U.pd 4 T (C.nx ?_)))
 refine C.jn (fun (x9:Unit)=>[]) (fun x9=>[]) 0 g (fun x9 g=>?_) fun J10 g j10=>?_
 refine C.xt (U.pd 1 T (C.nx (C.ret ?_)))
 exact C.f1 T o (pIi g)
 refine C.block (St.wk (C.loop (fun (s11:Int)=>[(4,.p 0 0),(7,.o 1),(18,.sl 6 Q4 st.Robots),(19,.i (st.Robots.length:Int)),(20,.i s11)]) (fun s11=>[(0,.box (Q2 st)),(1,.val (.os 1 eI x6))]) g (fun s11 Y12 g=>?_)) (Wk.a [some 1,some 3]))
 refine C.ss (U.pd 1 T (C.xs ?_))
 refine C.ite rfl g (fun b15 g=>?_) fun b15 g=>?_
 refine C.skip (C.xs (C.block (C.ss (U.ps 1 T rfl ?_))))
 obtain⟨x18,y18,g⟩:=g
 refine U.ix T y18 ?_
 refine U.ps 1 T rfl (U.al T ?_)
 refine U.ps 1 T rfl (U.st T ?_)
 refine U.done (C.xt (U.ps 3 T rfl (U.k (Wm st s11 x6 _ g) en45 (fun x21 g=>?_))))
 refine U.pd 5 T (C.xs ?_)
 refine C.jn (fun (x22:Bool)=>[(4,.p 0 0),(7,.o 1),(8,.i s11),(18,.sl 6 Q4 st.Robots),(19,.i (st.Robots.length:Int)),(20,.i s11),(42,.b x22)]) (fun x22=>[(0,.box (Q2 st)),(1,.val (.os 1 eI x6))]) 2 g (fun x22 g=>?_) fun J23 g j23=>?_
 refine C.nx ?_
 refine C.ite rfl g (fun b26 g=>?_) fun b26 g=>?_
 refine C.ss (U.pd 2 T (C.nx (C.ret (C.brt (C.rt (C.rt (C.brt (C.rt ?_))))))))
 exact C.f1 T o (pIi g)
 refine C.skip (C.bnx (C.nx (U.start (U.pd 2 T (C.nx ?_)))))
 exact St.wk (C.next g) (Wk.a (idR 2))
 refine U.start (U.ps 4 T rfl ?_)
 refine g.cs (fun b24 g=>?_) fun b24 g=>?_
 refine U.sk' 3 3 true 35 (ntF b24) ?_
 refine U.sku 2 6 false 38 rfl rfl rfl ?_
 refine U.sk' 1 3 true 35 (ntF b24) ?_
 refine U.pk' (ntF b24) ?_
 refine U.done ?_
 exact St.wa (idR 2) (j23 _ g)
 refine U.pq 3 3 true 35 (ntT b24) T ?_
 refine g.cs (fun b25 g=>?_) fun b25 g=>?_
 refine U.pq 2 6 false 38 (ntF b25) T ?_
 refine U.r rfl (.tk 3 true 35 (ntT b24)) rfl rfl (by exact Rd.pk' rfl rfl (ntF b25) rfl) ?_
 refine U.pk (ntT b24) ?_
 refine U.done ?_
 exact St.wa (idR 2) (j23 _ g)
 refine U.sk' 2 6 false 38 (ntT b25) ?_
 refine U.r rfl (.tk 3 true 35 (ntT b24)) rfl rfl (by exact Rd.pk rfl rfl (ntT b25) rfl) ?_
 refine U.pk (ntT b24) ?_
 refine U.done ?_
 exact St.wa (idR 2) (j23 _ g)
 refine C.exit (C.ex (C.ex (C.bex ?_)))
 exact St.wk (j10 _ g) (Wk.mk' [] rfl rfl trivial trivial rfl)
theorem Zn (s_1:ApiSite) (st:ApiState) (delay:Int) (post:Int→Prop) (g:Kv s_1 st delay post):
  Tr Tryz.prog 29 [.agg (Q1 s_1),.agg (Q2 st),.i delay] [] 0 (pI post):=by
 refine Tr.go Tryz.func29 Tryz.ntmps29 fun _ _ _ _ o=>?_
 unfold Kv at g
 refine C.ss (U.bx ?_)
 refine U.bx ?_
 refine U.pd 1 T (C.xs (C.ss ?_))
 refine U.pd 1 T (C.nx ?_)
 refine C.jn (fun (x5:Unit)=>[]) (fun x5=>[]) 0 g (fun x5 g=>?_) fun J6 g j6=>?_
 refine C.xt (U.pd 1 T (C.nx (C.ret ?_)))
 exact C.f1 T o (pIi g)
 refine C.block (St.wk (C.loop (fun (s7:Int)=>[(2,.i delay),(3,.p 0 0),(4,.p 1 0),(7,.i s7)]) (fun s7=>[(0,.box (Q1 s_1)),(1,.box (Q2 st))]) g (fun s7 Y8 g=>?_)) (Wk.a (idR 2)))
 refine C.seq (C.ss (U.pd 5 T (C.nx ?_)))
 refine C.ite rfl g (fun b11 g=>?_) fun b11 g=>?_
 refine C.skip (C.xs (C.block (C.ss (U.ps 3 T rfl ?_))))
 obtain⟨x14,y14,g⟩:=g
 refine U.ix T y14 ?_
 refine U.pd 3 T (C.nx ?_)
 refine C.jn (fun (x15:Unit)=>[(2,.i delay),(3,.p 0 0),(4,.p 1 0),(7,.i s7)]) (fun x15=>[(0,.box (Q1 s_1)),(1,.box (Q2 st))]) 2 g (fun x15 g=>?_) fun J16 g j16=>?_
 refine C.bnx (C.nx (U.start (U.pd 3 T (C.nx ?_))))
 exact St.wk (C.next g) (Wk.a (idR 2))
 refine C.ite rfl g (fun b17 g=>?_) fun b17 g=>?_
 refine C.ss (U.ps 4 T rfl (U.k (Xw s_1 st s7 delay _ g) en25 (fun x20 g=>?_)))
 refine U.pd 5 T (C.xs ?_)
 refine C.jn (fun (x21:Bool)=>[(2,.i delay),(3,.p 0 0),(4,.p 1 0),(7,.i s7),(37,.b x21)]) (fun x21=>[(0,.box (Q1 s_1)),(1,.box (Q2 st))]) 2 g (fun x21 g=>?_) fun J22 g j22=>?_
 refine C.nx ?_
 refine C.ite rfl g (fun b24 g=>?_) fun b24 g=>?_
 refine C.ss (U.pd 2 T (C.nx (C.ret (C.brt (C.rt (C.rt (C.brt (C.rt ?_))))))))
 exact C.f1 T o (pIi g)
 refine C.skip ?_
 exact St.wa (idR 2) (j16 _ g)
 refine U.start (U.ps 3 T rfl ?_)
 refine g.cs (fun b23 g=>?_) fun b23 g=>?_
 refine U.pq 2 2 false 34 (ntF b23) T ?_
 refine U.pk' (ntF b23) ?_
 refine U.done ?_
 exact St.wa (idR 2) (j22 _ g)
 refine U.sk' 2 2 false 34 (ntT b23) ?_
 refine U.pk (ntT b23) ?_
 refine U.done ?_
 exact St.wa (idR 2) (j22 _ g)
 refine C.skip ?_
 exact St.wa (idR 2) (j16 _ g)
 refine C.exit (C.ex (C.ex (C.bex ?_)))
 exact St.wk (j6 _ g) (Wk.mk' [] rfl rfl trivial trivial rfl)
theorem Zi (act:Int) (post:(Int×Bool)→Prop) (g:XB act post):
  Tr Tryz.prog 46 [.i act] [] 0 (fun A H' k=>∃y,post y∧A=(.tup [.i y.1,.b y.2])∧H'=[]∧k=0):=by
 refine Tr.go Tryz.func46 Tryz.ntmps46 fun _ _ _ _ o=>?_
 unfold XB at g
 refine C.ss (U.pd 2 T (C.xt ?_))
 refine U.pd 3 T (C.xs ?_)
 refine C.jn (fun (x5:Bool)=>[(2,.i (w64 (act-1))),(3,.b x5)]) (fun x5=>[]) 0 g (fun x5 g=>?_) fun J6 g j6=>?_
 refine C.nx (C.ret ?_)
 exact C.f9 T o ⟨(w64 (act-1),x5),g,rfl,rfl,rfl⟩
 refine U.start (U.ps 4 T rfl ?_)
 refine g.cs (fun b7 g=>?_) fun b7 g=>?_
 refine U.pq 2 3 true 10 b7 T ?_
 refine U.pk b7 ?_
 refine U.pd 2 T ?_
 exact St.wn (j6 _ g)
 refine U.sk' 2 3 true 10 b7 ?_
 refine U.pk' b7 ?_
 refine U.pd 2 T ?_
 exact St.wn (j6 _ g)
theorem Yl (n:Int) (post:Bool→Prop) (g:KB n post):
  Tr Tryz.prog 95 [.i n] [] 0 (pB post):=by
 refine Tr.go Tryz.func95 Tryz.ntmps95 fun _ _ _ _ o=>?_
 unfold KB at g
 refine C.ss (U.pd 1 T (C.xs ?_))
 refine C.jn (fun (x3:Bool)=>[(2,.b x3)]) (fun x3=>[]) 0 g (fun x3 g=>?_) fun J4 g j4=>?_
 refine C.nx (C.ret ?_)
 exact C.f1 T o (pBi g)
 refine U.start (U.ps 3 T rfl ?_)
 refine g.cs (fun b5 g=>?_) fun b5 g=>?_
 refine U.pq 2 2 true 5 b5 T ?_
 refine U.pk b5 ?_
 refine U.pd 1 T ?_
 exact St.wn (j4 _ g)
 refine U.sk' 2 2 true 5 b5 ?_
 refine U.pk' b5 ?_
 refine U.pd 1 T ?_
 exact St.wn (j4 _ g)
theorem Q1O (charge:Int) (cost:Int) (post:(Int×Int)→Prop) (g:G9 charge cost post):
  Tr Tryz.prog 96 [.i charge,.i cost] [] 0 (fun A H' k=>∃y,post y∧A=(.tup [.i y.1,.i y.2])∧H'=[]∧k=0):=by
 refine Tr.go Tryz.func96 Tryz.ntmps96 fun _ _ _ _ o=>?_
 unfold G9 at g
 refine C.ss (U.pd 2 T (C.xs (C.block (C.seq ?_))))
 refine C.jn (fun (x3:Bool)=>[(0,.i charge),(1,.i cost),(6,.b x3)]) (fun x3=>[]) 0 g (fun x3 g=>?_) fun J4 g j4=>?_
 refine C.nx ?_
 refine C.ite rfl g (fun b7 g=>?_) fun b7 g=>?_
 refine C.ss (U.pd 3 T (C.nx (C.ret (C.brt (C.rt ?_)))))
 exact C.f9 T o ⟨(charge,1),g,rfl,rfl,rfl⟩
 refine C.ss (U.pd 4 T (C.nx ?_))
 refine C.ite rfl g (fun b12 g=>?_) fun b12 g=>?_
 refine C.ss (U.pd 3 T (C.nx (C.ret (C.brt (C.rt ?_)))))
 exact C.f9 T o ⟨(charge,16),g,rfl,rfl,rfl⟩
 refine C.skip (C.bnx (C.xt (U.pd 5 T (C.nx (C.ret ?_)))))
 exact C.f9 T o ⟨(w64 (charge-cost),0),g,rfl,rfl,rfl⟩
 refine U.start (U.ps 1 T rfl (U.k (Yl charge _ g) en95 (fun x5 g=>?_)))
 refine U.ps 2 T rfl ?_
 refine g.cs (fun b6 g=>?_) fun b6 g=>?_
 refine U.pq 2 3 false 10 (ntF b6) T ?_
 refine U.pk' (ntF b6) ?_
 refine U.pd 1 T ?_
 exact St.wn (j4 _ g)
 refine U.sk' 2 3 false 10 (ntT b6) ?_
 refine U.pk (ntT b6) ?_
 refine U.pd 1 T ?_
 exact St.wn (j4 _ g)
theorem Ze (tick:Int) (charge:Int) (act:Int) (laden:Bool) (post:(Int×Int)→Prop) (g:Xy tick charge act laden post):
  Tr Tryz.prog 47 [.i tick,.i charge,.i act,.b laden] [] 0 (fun A H' k=>∃y,post y∧A=(.tup [.i y.1,.i y.2])∧H'=[]∧k=0):=by
 refine Tr.go Tryz.func47 Tryz.ntmps47 fun _ _ _ _ o=>?_
 unfold Xy at g
 refine C.ss (U.pd 2 T (C.xs (C.block (C.seq ?_))))
 refine C.jn (fun (x3:Bool)=>[(0,.i tick),(1,.i charge),(2,.i act),(3,.b laden),(10,.b x3)]) (fun x3=>[]) 0 g (fun x3 g=>?_) fun J4 g j4=>?_
 refine C.nx ?_
 refine C.ite rfl g (fun b8 g=>?_) fun b8 g=>?_
 refine C.ss (U.pd 3 T (C.nx (C.ret (C.brt (C.rt ?_)))))
 exact C.f9 T o ⟨(charge,1),g,rfl,rfl,rfl⟩
 refine C.ss (U.pd 3 T (C.nx ?_))
 refine C.ite rfl g (fun b13 g=>?_) fun b13 g=>?_
 refine C.ss (U.pd 5 T (C.nx (C.ret (C.brt (C.rt ?_)))))
 exact C.f9 T o ⟨(imin (w64 (charge+20)) 1000000,0),g,rfl,rfl,rfl⟩
 refine C.skip (C.bnx (C.xt (U.ps 4 T rfl (U.k (Yw tick act laden _ g) en55 (fun x18 g=>?_)))))
 refine U.k (Q1O charge x18 _ g) en96 fun x19 g=>?_
 refine U.pd 4 T (C.nx (C.ret ?_))
 exact C.f9 T o ⟨(x19.1,x19.2),g,rfl,rfl,rfl⟩
 refine U.start (U.ps 1 T rfl (U.k (Yl charge _ g) en95 (fun x5 g=>?_)))
 refine U.ps 2 T rfl ?_
 refine g.cs (fun b6 g=>?_) fun b6 g=>?_
 refine U.pq 2 3 false 14 (ntF b6) T ?_
 refine U.pk' (ntF b6) ?_
 refine U.ps 1 T rfl ?_
 refine g.cs (fun b7 g=>?_) fun b7 g=>?_
 refine U.sk' 2 7 false 18 b7 ?_
 refine U.pk b7 ?_
 refine U.pd 1 T ?_
 exact St.wn (j4 _ g)
 refine U.pq 2 7 false 18 b7 T ?_
 refine U.pk' b7 ?_
 refine U.pd 1 T ?_
 exact St.wn (j4 _ g)
 refine U.sk' 2 3 false 14 (ntT b6) ?_
 refine U.pk (ntT b6) ?_
 refine U.ps 1 T rfl (U.sk' 2 7 false 18 rfl ?_)
 refine U.pk rfl ?_
 refine U.pd 1 T ?_
 exact St.wn (j4 _ g)
theorem Q48 (x_1:Qd) (c0:Q0) (c1:Int) (post:Bool→Prop) (g:WC x_1 c0 c1 post):
  Tr Tryz.prog 97 [.agg [.i x_1.Cell,.i x_1.Left],.rp [.i c0.Cell,.i c0.Load,.i c0.Charge,.i c0.Rest,.i c0.Mute,.b c0.Dead],.rp [.i c1]] [] 0 (pB post):=by
 refine Tr.go Tryz.func97 Tryz.ntmps97 fun _ _ _ _ o=>?_
 unfold WC at g
 refine C.ss (U.bx ?_)
 refine U.pd 1 T (C.xs ?_)
 refine C.jn (fun (x3:Bool)=>[(4,.b x3)]) (fun x3=>[]) 0 g (fun x3 g=>?_) fun J4 g j4=>?_
 refine C.nx (C.ret ?_)
 exact C.f1 T o (pBi g)
 refine U.start (U.ps 6 T rfl ?_)
 refine g.cs (fun b5 g=>?_) fun b5 g=>?_
 refine U.sk' 4 5 false 10 b5 ?_
 refine U.pk b5 ?_
 refine U.pd 1 T ?_
 exact St.wn (j4 _ g)
 refine U.pq 4 5 false 10 b5 T ?_
 refine U.pk' b5 ?_
 refine U.pd 1 T ?_
 exact St.wn (j4 _ g)
theorem X5 (s_1:List Qd) (f_c0:Q0) (f_c1:Int) (post:Int→Prop) (g:Qt s_1 f_c0 f_c1 post):
  Tr Tryz.prog 148 [.sl 2 Q7 s_1,.fn (.func 97) [] [.rp [.i f_c0.Cell,.i f_c0.Load,.i f_c0.Charge,.i f_c0.Rest,.i f_c0.Mute,.b f_c0.Dead],.rp [.i f_c1]]] [] 0 (pI post):=by
 refine Tr.go Tryz.func148 Tryz.ntmps148 fun _ _ _ _ o=>?_
 unfold Qt at g
 refine C.ss (U.pd 1 T (C.xs (C.ss ?_)))
 refine U.pd 3 T (C.nx ?_)
 refine C.jn (fun (x5:Unit)=>[]) (fun x5=>[]) 0 g (fun x5 g=>?_) fun J6 g j6=>?_
 refine C.xt (U.pd 1 T (C.nx (C.ret ?_)))
 exact C.f1 T o (pIi g)
 refine C.block (St.wk (C.loop (fun (s7:Int)=>[(0,.sl 2 Q7 s_1),(1,.fn (.func 97) [] [.rp [.i f_c0.Cell,.i f_c0.Load,.i f_c0.Charge,.i f_c0.Rest,.i f_c0.Mute,.b f_c0.Dead],.rp [.i f_c1]]),(7,.i (s_1.length:Int)),(8,.i s7)]) (fun s7=>[]) g (fun s7 Y8 g=>?_)) (Wk.e))
 refine C.ss (U.pd 1 T (C.xs ?_))
 refine C.ite rfl g (fun b11 g=>?_) fun b11 g=>?_
 refine C.skip (C.xs (C.block (C.ss (U.pd 2 T (C.xt ?_)))))
 refine U.ps 3 T rfl ?_
 obtain⟨x16,y16,g⟩:=g
 refine U.ix T y16 ?_
 refine U.ps 1 T rfl (U.k (Q48 x16 f_c0 f_c1 _ g) en97 (fun x17 g=>?_))
 refine U.done (C.nx ?_)
 refine C.ite rfl g (fun b18 g=>?_) fun b18 g=>?_
 refine C.ss (U.pd 2 T (C.nx (C.ret (C.brt (C.rt (C.rt (C.brt (C.rt ?_))))))))
 exact C.f1 T o (pIi g)
 refine C.skip (C.bnx (C.nx (U.start (U.pd 2 T (C.nx ?_)))))
 exact St.wk (C.next g) (Wk.e)
 refine C.exit (C.ex (C.ex (C.bex ?_)))
 exact St.wk (j6 _ g) (Wk.mk' [] rfl rfl trivial trivial rfl)
theorem KQ (s_1:List Qd) (f_c0:Q0) (f_c1:Int) (post:Bool→Prop) (g:Qi s_1 f_c0 f_c1 post):
  Tr Tryz.prog 98 [.sl 2 Q7 s_1,.fn (.func 97) [] [.rp [.i f_c0.Cell,.i f_c0.Load,.i f_c0.Charge,.i f_c0.Rest,.i f_c0.Mute,.b f_c0.Dead],.rp [.i f_c1]]] [] 0 (pB post):=by
 refine Tr.go Tryz.func98 Tryz.ntmps98 fun _ _ _ _ o=>?_
 unfold Qi at g
 refine C.ss (U.pd 1 T (C.xt ?_))
 refine U.ps 2 T rfl (U.k (X5 s_1 f_c0 f_c1 _ g) Q9r (fun x5 g=>?_))
 refine U.pd 2 T (C.nx (C.ret ?_))
 exact C.f1 T o (pBi g)
theorem Yv (s_1:ApiSite) (c:Int) (post:Bool→Prop) (g:KT s_1 c post):
  Tr Tryz.prog 149 [.agg (Q1 s_1),.i c] [] 0 (pB post):=by
 refine Tr.go Tryz.func149 Tryz.ntmps149 fun _ _ _ _ o=>?_
 unfold KT at g
 refine C.ss (U.bx ?_)
 refine U.pd 1 T (C.xs ?_)
 refine C.jn (fun (x3:Bool)=>[(4,.b x3)]) (fun x3=>[]) 0 g (fun x3 g=>?_) fun J4 g j4=>?_
 refine C.nx (C.ret ?_)
 exact C.f1 T o (pBi g)
 refine U.start (U.ps 3 T rfl ?_)
 refine g.cs (fun b5 g=>?_) fun b5 g=>?_
 refine U.pq 6 2 true 7 b5 T ?_
 refine U.pk b5 ?_
 refine U.pd 1 T ?_
 exact St.wn (j4 _ g)
 refine U.sk' 6 2 true 7 b5 ?_
 refine U.pk' b5 ?_
 refine U.pd 1 T ?_
 exact St.wn (j4 _ g)
theorem Q2f (x_1:Gg) (c0:Int) (post:Bool→Prop) (g:Gu x_1 c0 post):
  Tr Tryz.prog 151 [.agg [.i x_1.From,.i x_1.To],.rp [.i c0]] [] 0 (pB post):=by
 refine Tr.go Tryz.func151 Tryz.ntmps151 fun _ _ _ _ o=>?_
 unfold Gu at g
 refine C.ss (U.bx ?_)
 refine U.pd 1 T (C.xs ?_)
 refine C.jn (fun (x3:Bool)=>[(3,.b x3)]) (fun x3=>[]) 0 g (fun x3 g=>?_) fun J4 g j4=>?_
 refine C.nx (C.ret ?_)
 exact C.f1 T o (pBi g)
 refine U.start (U.ps 5 T rfl ?_)
 refine g.cs (fun b5 g=>?_) fun b5 g=>?_
 refine U.pq 4 4 true 8 b5 T ?_
 refine U.pk b5 ?_
 refine U.pd 1 T ?_
 exact St.wn (j4 _ g)
 refine U.sk' 4 4 true 8 b5 ?_
 refine U.pk' b5 ?_
 refine U.pd 1 T ?_
 exact St.wn (j4 _ g)
theorem X6 (s_1:List Gg) (f_c0:Int) (post:Int→Prop) (g:Qs s_1 f_c0 post):
  Tr Tryz.prog 194 [.sl 2 GM s_1,.fn (.func 151) [] [.rp [.i f_c0]]] [] 0 (pI post):=by
 refine Tr.go Tryz.func194 Tryz.ntmps194 fun _ _ _ _ o=>?_
 unfold Qs at g
 refine C.ss (U.pd 1 T (C.xs (C.ss ?_)))
 refine U.pd 3 T (C.nx ?_)
 refine C.jn (fun (x5:Unit)=>[]) (fun x5=>[]) 0 g (fun x5 g=>?_) fun J6 g j6=>?_
 refine C.xt (U.pd 1 T (C.nx (C.ret ?_)))
 exact C.f1 T o (pIi g)
 refine C.block (St.wk (C.loop (fun (s7:Int)=>[(0,.sl 2 GM s_1),(1,.fn (.func 151) [] [.rp [.i f_c0]]),(7,.i (s_1.length:Int)),(8,.i s7)]) (fun s7=>[]) g (fun s7 Y8 g=>?_)) (Wk.e))
 refine C.ss (U.pd 1 T (C.xs ?_))
 refine C.ite rfl g (fun b11 g=>?_) fun b11 g=>?_
 refine C.skip (C.xs (C.block (C.ss (U.pd 2 T (C.xt ?_)))))
 refine U.ps 3 T rfl ?_
 obtain⟨x16,y16,g⟩:=g
 refine U.ix T y16 ?_
 refine U.ps 1 T rfl (U.k (Q2f x16 f_c0 _ g) Q8O (fun x17 g=>?_))
 refine U.done (C.nx ?_)
 refine C.ite rfl g (fun b18 g=>?_) fun b18 g=>?_
 refine C.ss (U.pd 2 T (C.nx (C.ret (C.brt (C.rt (C.rt (C.brt (C.rt ?_))))))))
 exact C.f1 T o (pIi g)
 refine C.skip (C.bnx (C.nx (U.start (U.pd 2 T (C.nx ?_)))))
 exact St.wk (C.next g) (Wk.e)
 refine C.exit (C.ex (C.ex (C.bex ?_)))
 exact St.wk (j6 _ g) (Wk.mk' [] rfl rfl trivial trivial rfl)
theorem KP (s_1:List Gg) (f_c0:Int) (post:Bool→Prop) (g:Qh s_1 f_c0 post):
  Tr Tryz.prog 150 [.sl 2 GM s_1,.fn (.func 151) [] [.rp [.i f_c0]]] [] 0 (pB post):=by
 refine Tr.go Tryz.func150 Tryz.ntmps150 fun _ _ _ _ o=>?_
 unfold Qh at g
 refine C.ss (U.pd 1 T (C.xt ?_))
 refine U.ps 2 T rfl (U.k (X6 s_1 f_c0 _ g) Q9p (fun x5 g=>?_))
 refine U.pd 2 T (C.nx (C.ret ?_))
 exact C.f1 T o (pBi g)
theorem Q4c (s_1:ApiSite) (c:Int) (tick:Int) (post:Bool→Prop) (g:Wx s_1 c tick post):
  Tr Tryz.prog 99 [.agg (Q1 s_1),.i c,.i tick] [] 0 (pB post):=by
 refine Tr.go Tryz.func99 Tryz.ntmps99 fun _ _ _ _ o=>?_
 unfold Wx at g
 refine C.ss (U.bx ?_)
 refine U.bx ?_
 refine U.pd 1 T (C.xt ?_)
 refine U.ps 2 T rfl (U.k (Q00 s_1 c _ g) Q83 (fun x5 g=>?_))
 refine U.pd 1 T (C.xs (C.seq ?_))
 refine C.jn (fun (x6:Bool)=>[(1,.i c),(3,.p 0 0),(5,.p 1 0),(7,.i x5),(18,.b x6)]) (fun x6=>[(0,.box (Q1 s_1)),(1,.box [.i tick])]) 2 g (fun x6 g=>?_) fun J7 g j7=>?_
 refine C.nx ?_
 refine C.ite rfl g (fun b10 g=>?_) fun b10 g=>?_
 refine C.ss (U.ps 2 T rfl (U.k (Yv s_1 c _ g) Q7o (fun x13 g=>?_)))
 refine U.pd 1 T (C.nx (C.ret (C.rt ?_)))
 exact C.f1 T o (pBi g)
 refine C.skip (C.xt (U.ps 3 T rfl ?_))
 obtain⟨x16,y16,g⟩:=g
 refine U.ix T y16 ?_
 refine U.ps 3 T rfl (U.k (KP x16.Shut tick _ g) Q9k (fun x17 g=>?_))
 refine U.pd 2 T (C.nx (C.ret ?_))
 exact C.f1 T o (pBi g)
 refine U.start (U.ps 2 T rfl (U.k (Yv s_1 c _ g) Q7o (fun x8 g=>?_)))
 refine U.ps 2 T rfl ?_
 refine g.cs (fun b9 g=>?_) fun b9 g=>?_
 refine U.pq 2 4 false 15 (ntF b9) T ?_
 refine U.pk' (ntF b9) ?_
 refine U.done ?_
 exact St.wa (idR 2) (j7 _ g)
 refine U.sk' 2 4 false 15 (ntT b9) ?_
 refine U.pk (ntT b9) ?_
 refine U.done ?_
 exact St.wa (idR 2) (j7 _ g)
theorem Q5p (st:ApiState) (post:(List Int)→Prop) (g:YC st post):
  Tr Tryz.prog 100 [.agg (Q2 st)] [] 0 (fun A H' k=>∃y,post y∧A=(.o 0)∧H'=[(0,.val (.os 1 eI y))]∧k=1):=by
 refine Tr.go Tryz.func100 Tryz.ntmps100 fun _ _ _ _ o=>?_
 unfold YC at g
 refine C.ss (U.bx ?_)
 refine U.pd 1 T (C.xt ?_)
 refine U.ps 1 T rfl (U.k (Q2F st _ g) en44 (fun x5 g=>?_))
 refine U.pd 1 T (C.xt ?_)
 refine U.ps 1 T rfl (U.c [some 1] (Xr x5 _ g) en67 (fun x8 g=>?_))
 refine U.done (C.xt (U.pd 2 T (C.nx (C.ret ?_))))
 exact C.g1 [some 1] T o ⟨x8,g,rfl,rfl,rfl⟩
theorem Q5d (s_1:ApiSite) (st:ApiState) (r:Q0) (d:Int) (post:Int→Prop) (g:YA s_1 st r d post):
  Tr Tryz.prog 48 [.agg (Q1 s_1),.agg (Q2 st),.agg (Q4 r),.i d] [] 0 (pI post):=by
 refine Tr.go Tryz.func48 Tryz.ntmps48 fun _ _ _ _ o=>?_
 unfold YA at g
 refine C.ss (U.bx ?_)
 refine U.bx ?_
 refine U.bx ?_
 refine U.pd 1 T (C.xt ?_)
 refine U.ps 5 T rfl (U.k (Zz s_1.Floor r.Cell d _ g) en53 (fun x5 g=>?_))
 refine U.ps 3 T rfl (U.al T ?_)
 refine U.st T ?_
 refine U.pd 1 T (C.xs (C.seq ?_))
 refine C.jn (fun (x6:Bool)=>[(3,.i d),(4,.p 0 0),(5,.p 1 0),(6,.p 2 0),(9,.p 3 0),(29,.b x6)]) (fun x6=>[(0,.box (Q1 s_1)),(1,.box (Q2 st)),(2,.box (Q4 r)),(3,.box [.i x5.1])]) 4 g (fun x6 g=>?_) fun J7 g j7=>?_
 refine C.nx ?_
 refine C.ite rfl g (fun b10 g=>?_) fun b10 g=>?_
 refine C.ss (U.pd 1 T (C.nx (C.ret (C.rt ?_))))
 exact C.f1 T o (pIi g)
 refine C.skip (C.xs (C.seq ?_))
 refine C.jn (fun (x13:Bool)=>[(4,.p 0 0),(5,.p 1 0),(6,.p 2 0),(9,.p 3 0),(35,.b x13)]) (fun x13=>[(0,.box (Q1 s_1)),(1,.box (Q2 st)),(2,.box (Q4 r)),(3,.box [.i x5.1])]) 4 g (fun x13 g=>?_) fun J14 g j14=>?_
 refine C.nx ?_
 refine C.jn (fun (x16:Unit)=>[(4,.p 0 0),(5,.p 1 0),(6,.p 2 0),(9,.p 3 0)]) (fun x16=>[(0,.box (Q1 s_1)),(1,.box (Q2 st)),(2,.box (Q4 r)),(3,.box [.i x5.1])]) 4 g (fun x16 g=>?_) fun J17 g j17=>?_
 refine C.xs (C.ss (U.ps 4 T rfl (U.k (Q4c s_1 x5.1 st.Tick _ g) en99 (fun x29 g=>?_))))
 refine U.pd 1 T (C.nx ?_)
 refine C.ite rfl g (fun b30 g=>?_) fun b30 g=>?_
 refine C.ss (U.pd 1 T (C.nx (C.ret (C.rt ?_))))
 exact C.f1 T o (pIi g)
 refine C.skip (C.xt (U.ps 1 T rfl (U.k (Q5p st _ g) Q90 (fun x35 g=>?_))))
 refine U.pd 1 T (C.xs (C.seq ?_))
 refine C.jn (fun (x36:Bool)=>[(63,.b x36)]) (fun x36=>[]) 0 g (fun x36 g=>?_) fun J37 g j37=>?_
 refine C.nx ?_
 refine C.ite rfl g (fun b44 g=>?_) fun b44 g=>?_
 refine C.ss (U.pd 1 T (C.nx (C.ret (C.rt ?_))))
 exact C.f1 T o (pIi g)
 refine C.skip (C.xt (U.pd 1 T (C.nx (C.ret ?_))))
 exact C.f1 T o (pIi g)
 refine U.start (U.ps 2 T rfl (U.k (ZF x5.1 _ g) Q6c (fun x38 g=>?_)))
 refine U.k (QR x35 x38 _ g) en89 fun x39 g=>?_
 refine U.ps 1 T rfl ?_
 refine g.cs (fun b40 g=>?_) fun b40 g=>?_
 refine U.sk' 4 4 false 53 b40 ?_
 refine U.sku 4 8 true 57 rfl rfl rfl ?_
 refine U.sk' 1 4 false 53 b40 ?_
 refine U.pk b40 ?_
 refine U.done ?_
 exact St.wn (j37 _ g)
 refine U.pq 4 4 false 53 b40 T ?_
 refine g.cs (fun b41 g=>?_) fun b41 g=>?_
 refine U.pq 2 8 true 57 b41 T ?_
 refine U.k (YR x5.1 _ g) Q6A (fun x42 g=>?_) (hw:=.take 8 true 57 _ b41 rfl rfl rfl)
 refine U.k (QR x35 x42 _ g) en89 (fun x43 g=>?_) (hw:=.take 8 true 57 _ b41 rfl rfl rfl)
 refine U.r rfl (.tk 4 false 53 b40) rfl rfl (by exact Rd.pk rfl rfl b41 rfl) ?_
 refine U.pk' b40 ?_
 refine U.done ?_
 exact St.wn (j37 _ g)
 refine U.sk' 4 8 true 57 b41 ?_
 refine U.r rfl (.tk 4 false 53 b40) rfl rfl (by exact Rd.pk' rfl rfl b41 rfl) ?_
 refine U.pk' b40 ?_
 refine U.done ?_
 exact St.wn (j37 _ g)
 refine C.ite rfl g (fun b18 g=>?_) fun b18 g=>?_
 refine C.ss (U.pd 2 T (C.xt ?_))
 refine U.ps 3 T rfl (U.k (KQ st.Stuck r x5.1 _ g) en98 (fun x23 g=>?_))
 refine U.done (C.nx ?_)
 refine C.ite rfl g (fun b24 g=>?_) fun b24 g=>?_
 refine C.ss (U.pd 1 T (C.nx (C.ret (C.rt ?_))))
 exact C.f1 T o (pIi g)
 refine C.skip ?_
 exact St.wa (idR 4) (j17 _ g)
 refine C.skip ?_
 exact St.wa (idR 4) (j17 _ g)
 refine U.start (U.ps 3 T rfl ?_)
 refine g.cs (fun b15 g=>?_) fun b15 g=>?_
 refine U.sk' 2 2 false 32 b15 ?_
 refine U.pk b15 ?_
 refine U.done ?_
 exact St.wa (idR 4) (j14 _ g)
 refine U.pq 2 2 false 32 b15 T ?_
 refine U.pk' b15 ?_
 refine U.done ?_
 exact St.wa (idR 4) (j14 _ g)
 refine U.start (U.ps 3 T rfl ?_)
 refine g.cs (fun b8 g=>?_) fun b8 g=>?_
 refine U.pq 3 2 false 24 (ntF b8) T ?_
 refine U.k (QR st.Dead x5.1 _ g) en89 (fun x9 g=>?_) (hw:=.take 2 false 24 _ (ntF b8) rfl rfl rfl)
 refine U.pk' (ntF b8) ?_
 refine U.done ?_
 exact St.wa (idR 4) (j7 _ g)
 refine U.sk' 4 2 false 24 (ntT b8) ?_
 refine U.pk (ntT b8) ?_
 refine U.done ?_
 exact St.wa (idR 4) (j7 _ g)
theorem Yx (s_1:List Int) (post:(List Int)→Prop) (g:Kt s_1 post):
  Tr Tryz.prog 155 [.sl 1 eI s_1] [] 0 (fun A H' k=>∃y,post y∧A=(.fn (.func 195) [] [.p 0 0])∧H'=[(0,.box [.sl 1 eI y])]∧k=1):=by
 refine Tr.go Tryz.func155 Tryz.ntmps155 fun _ _ _ _ o=>?_
 unfold Kt at g
 refine C.ss (U.bx ?_)
 refine U.pd 1 T (C.xt ?_)
 refine U.pd 2 T (C.nx (C.ret ?_))
 exact C.g1 [some 0] T o ⟨(s_1),g,rfl,rfl,rfl⟩
theorem Q1C (st:ApiState) (post:(List (Int×Int))→Prop) (g:XP st post):
  Tr Tryz.prog 110 [.agg (Q2 st)] [] 0 (fun A H' k=>∃y,post y∧A=(.o 0)∧H'=[(0,.val (.om kI veI y))]∧k=1):=by
 refine Tr.go Tryz.func110 Tryz.ntmps110 fun _ _ _ _ o=>?_
 unfold XP at g
 refine C.ss (U.bx ?_)
 refine U.pd 1 T (C.xt ?_)
 refine U.e1 rfl (.none rfl) (by exact Eff1.mm kI veB rfl rfl rfl) ?_
 refine U.al T ?_
 refine U.st T ?_
 refine U.done (C.xs (C.ss (U.pd 4 T (C.nx ?_))))
 refine C.jn (fun (x7:List (Int×Bool))=>[(1,.p 0 0),(3,.p 1 0)]) (fun x7=>[(0,.box (Q2 st)),(1,.box [.o 2]),(2,.val (.om kI veB x7))]) 3 g (fun x7 g=>?_) fun J8 g j8=>?_
 refine C.xt (U.e1 rfl (.none rfl) (by exact Eff1.mm kI veI rfl rfl rfl) ?_)
 refine U.al T ?_
 refine U.st T ?_
 refine U.done (C.xs (C.ss (U.ps 2 T rfl (U.e rfl (.none rfl) (by exact Eff.c [] (v:=false) (Yx st.Shelves _ g) Q91 rfl rfl rfl (.eq rfl) trivial rfl rfl rfl rfl rfl rfl (fun h=>by cases h) (.inr ⟨rfl,rfl⟩) (fun _=>rfl) (fun _=>rfl) rfl) (fun x25' g=>?_)))))
 obtain⟨x25⟩:=x25'
 refine U.done (C.nx (C.block ?_))
 refine St.wk (Γ':=[(1,.p 0 0),(3,.p 1 0),(6,.p 3 0),(21,.o 4),(22,.p 0 1),(23,.sl 1 eI st.Shelves),(24,.fn (.func 195) [] [.rp [.sl 1 eI x25]])]) (H':=[(0,.box (Q2 st)),(1,.box [.o 2]),(2,.val (.om kI veB x7)),(3,.box [.o 4]),(4,.val (.om kI veI ([]:List (Int×Int))))]) (nl':=5) ?_ (Wk.mk' [some 0,some 1,some 2,some 4,some 3] rfl rfl ⟨⟨_,rfl,(.eq rfl)⟩,⟨_,rfl,(.eq rfl)⟩,⟨_,rfl,(.eq rfl)⟩,⟨_,rfl,(.eq rfl)⟩,⟨_,rfl,(.eq rfl)⟩,⟨_,rfl,(.eq rfl)⟩,⟨_,rfl,(.fn (.eq rfl) (.cons (.fzp rfl rfl rfl rfl (.eq rfl) rfl) .nil))⟩,trivial⟩ ⟨bX,bX,vL,bX,vL,trivial⟩ rfl)
 obtain⟨y29,g⟩:=g
 refine St.wk (C.range (Γ0:=[(3,.p 0 0),(6,.p 1 0),(24,.fn (.func 195) [] [.rp [.sl 1 eI x25]])]) (Γ1:=fun (x26:Int×Int)=>[(8,.i x26.2),(7,.i x26.1),(26,.i x26.2),(25,.i x26.1),(3,.p 0 0),(6,.p 1 0),(24,.fn (.func 195) [] [.rp [.sl 1 eI x25]])]) (Hf:=fun (s27:List (Int×Int))=>[(0,.box [.o 2]),(1,.box [.o 3]),(2,.val (.om kI veB x7)),(3,.val (.om kI veI s27))]) 2 g (Q9H x25 y29) Q8R rfl rfl rfl rfl rfl (fun _=>rfl) rfl rfl (fun _=>rfl) (fun x26 s27 Y28 g w0 ok M β l=>?_) (fun s37 g=>?_)) (Wk.a [some 1,some 3,some 2,some 4])
 refine CI.block ?_
 refine CI.seq ?_
 refine UI.start (by kernel_rfl) (by repeat (first | exact Z0.rnd | refine Z0.th ?_ | refine Z0.blk ?_)) ?_
 refine U.ps 2 T rfl (U.r rfl (.none rfl) rfl rfl (by exact Rd.lk T (ke:=kI) (ve:=veB) (xs:=x7) (z0:=false) (x:=x26.1) rfl rfl kt3 zt4 (fun _=>rfl) rfl (.o rfl) rfl rfl rfl) ?_)
 refine U.pd 1 T (C.nx ?_)
 refine CI.jn (fun (x32:List (Int×Int))=>[]) (fun (x32:List (Int×Int))=>[(0,.box [.o 2]),(1,.box [.o 3]),(2,.val (.om kI veB x7)),(3,.val (.om kI veI x32))]) 4 g (fun x32 g=>?_) fun J33 g j33=>?_
 refine C.bnx ?_
 exact St.wk (CI.next g) (Wk.mk' [some 0,some 1,some 2,some 3] rfl rfl trivial ⟨bX,bX,vL,vL,trivial⟩ rfl)
 refine CI.ite rfl g (fun b34 g=>?_) fun b34 g=>?_
 refine UI.start (by kernel_rfl) (by repeat (first | exact Z0.rnd | refine Z0.th ?_ | refine Z0.blk ?_)) ?_
 refine U.ps 3 T rfl (U.e1 rfl (.none rfl) (by exact Eff1.mu T (x:=x26.2) (y:=x26.1) (.inl rfl) rfl kt3 (fun _=>rfl) rfl rfl rfl rfl rfl (.inl rfl) rfl) ?_)
 refine U.done ?_
 exact St.wk (j33 _ g) (Wk.mk' [some 0,some 1,some 2,some 3] rfl rfl trivial ⟨bX,bX,vL,vL,trivial⟩ rfl)
 refine CI.skip ?_
 exact St.wk (j33 _ g) (Wk.mk' [some 0,some 1,some 2,some 3] rfl rfl trivial ⟨bX,bX,vL,vL,trivial⟩ rfl)
 refine C.bnx (C.xt (U.pd 2 T (C.nx (C.ret ?_))))
 exact C.g1 [some 3] T o ⟨s37,g,rfl,rfl,rfl⟩
 refine C.block (St.wk (C.loop (fun (s9:List (Int×Bool)×Int)=>[(1,.p 0 0),(3,.p 1 0),(11,.sl 6 Q4 st.Robots),(12,.i (st.Robots.length:Int)),(13,.i s9.2)]) (fun s9=>[(0,.box (Q2 st)),(1,.box [.o 2]),(2,.val (.om kI veB s9.1))]) g (fun s9 Y10 g=>?_)) (Wk.a [some 0,some 2,some 1]))
 refine C.ss (U.pd 1 T (C.xs ?_))
 refine C.ite rfl g (fun b13 g=>?_) fun b13 g=>?_
 refine C.skip (C.xs (C.block (C.ss ?_)))
 obtain⟨x16,y16,g⟩:=g
 refine U.ix T y16 ?_
 refine U.ps 1 T rfl (U.al T ?_)
 refine U.st T ?_
 refine U.done (C.nx (U.start (U.ps 3 T rfl (U.e1 rfl (.none rfl) (by exact Eff1.mu T (x:=x16.Load) (y:=true) (.inl rfl) rfl kt3 (fun _=>rfl) rfl rfl rfl rfl rfl (.inl rfl) rfl) ?_))))
 refine U.done (C.bnx (C.nx (U.start (U.pd 2 T (C.nx ?_)))))
 exact St.wk (C.next g) (Wk.a (idR 3))
 refine C.exit (C.ex (C.ex (C.bex ?_)))
 exact St.wa (idR 3) (j8 _ g)
theorem Q2L (s_1:ApiSite) (st:ApiState) (c:Int) (post:Int→Prop) (g:WP s_1 st c post):
  Tr Tryz.prog 52 [.agg (Q1 s_1),.agg (Q2 st),.i c] [] 0 (pI post):=by
 refine Tr.go Tryz.func52 Tryz.ntmps52 fun _ _ _ _ o=>?_
 unfold WP at g
 refine C.ss (U.bx ?_)
 refine U.bx ?_
 refine U.pd 1 T (C.xs (C.ss ?_))
 refine U.ps 1 T rfl (U.k (Q1C st _ g) Q9v (fun x5 g=>?_))
 refine U.ps 1 T rfl (U.r rfl (.none rfl) rfl rfl (by exact Rd.lk2 T (ke:=kI) (ve:=veI) (xs:=x5) (z0:=0) (x:=c) rfl rfl kt3 zt3 (fun _=>rfl) rfl (.o rfl) rfl rfl rfl) ?_)
 refine U.pd 5 T (C.xt ?_)
 refine U.pd 1 T (C.nx ?_)
 refine C.ite rfl g (fun b8 g=>?_) fun b8 g=>?_
 refine C.ss (U.pd 2 T (C.nx (C.ret (C.rt ?_))))
 exact C.f1 T o (pIi g)
 refine C.skip (C.xt (U.pd 1 T (C.nx (C.ret ?_))))
 exact C.f1 T o (pIi g)
theorem Q5f (s_1:ApiSite) (st:ApiState) (r:Q0) (post:Int→Prop) (g:ZG s_1 st r post):
  Tr Tryz.prog 49 [.agg (Q1 s_1),.agg (Q2 st),.agg (Q4 r)] [] 0 (pI post):=by
 refine Tr.go Tryz.func49 Tryz.ntmps49 fun _ _ _ _ o=>?_
 unfold ZG at g
 refine C.ss (U.bx ?_)
 refine U.bx ?_
 refine U.bx ?_
 refine U.pd 1 T (C.xs (C.ss ?_))
 refine U.pd 3 T (C.nx ?_)
 refine C.ite rfl g (fun b5 g=>?_) fun b5 g=>?_
 refine C.ss (U.pd 1 T (C.nx (C.ret (C.rt ?_))))
 exact C.f1 T o (pIi g)
 refine C.skip (C.xs (C.ss (U.ps 4 T rfl (U.k (Q2L s_1 st r.Cell _ g) en52 (fun x10 g=>?_)))))
 refine U.pd 1 T (C.nx ?_)
 refine C.ite rfl g (fun b11 g=>?_) fun b11 g=>?_
 refine C.ss (U.pd 1 T (C.nx (C.ret (C.rt ?_))))
 exact C.f1 T o (pIi g)
 refine C.skip (C.xt (U.pd 1 T (C.nx (C.ret ?_))))
 exact C.f1 T o (pIi g)
theorem Q2i (s_1:ApiSite) (c:Int) (post:Bool→Prop) (g:Gz s_1 c post):
  Tr Tryz.prog 103 [.agg (Q1 s_1),.i c] [] 0 (pB post):=by
 refine Tr.go Tryz.func103 Tryz.ntmps103 fun _ _ _ _ o=>?_
 unfold Gz at g
 refine C.ss (U.bx ?_)
 refine U.pd 1 T (C.xs ?_)
 refine C.jn (fun (x3:Bool)=>[(4,.b x3)]) (fun x3=>[]) 0 g (fun x3 g=>?_) fun J4 g j4=>?_
 refine C.nx (C.ret ?_)
 exact C.f1 T o (pBi g)
 refine U.start (U.ps 2 T rfl (U.k (Yv s_1 c _ g) Q7o (fun x5 g=>?_)))
 refine U.ps 1 T rfl ?_
 refine g.cs (fun b6 g=>?_) fun b6 g=>?_
 refine U.pq 4 3 true 8 b6 T ?_
 obtain⟨x7,y7,g⟩:=g
 refine U.r rfl (.tk 3 true 8 b6) rfl rfl (by exact Rd.ix T rfl rfl rfl rfl rfl rfl y7) ?_
 refine U.pq 3 3 true 8 b6 T ?_
 refine g.cs (fun b8 g=>?_) fun b8 g=>?_
 refine U.sk' 7 11 false 16 b8 ?_
 refine U.r rfl (.tk 3 true 8 b6) rfl rfl (by exact Rd.pk rfl rfl b8 rfl) ?_
 refine U.pk b6 ?_
 refine U.pd 1 T ?_
 exact St.wn (j4 _ g)
 refine U.pq 4 11 false 16 b8 T ?_
 refine U.r rfl (.tk 11 false 16 b8) rfl rfl (by exact Rd.ix T rfl rfl rfl rfl rfl rfl y7) ?_
 refine U.pq 2 11 false 16 b8 T ?_
 refine U.r rfl (.tk 3 true 8 b6) rfl rfl (by exact Rd.pk' rfl rfl b8 rfl) ?_
 refine U.pk b6 ?_
 refine U.pd 1 T ?_
 exact St.wn (j4 _ g)
 refine U.sk' 8 3 true 8 b6 ?_
 refine U.sku 7 11 false 16 rfl rfl rfl ?_
 refine U.sk' 1 3 true 8 b6 ?_
 refine U.pk' b6 ?_
 refine U.pd 1 T ?_
 exact St.wn (j4 _ g)
theorem Q3F (f:ApiFloor) (a:Int) (b:Int) (post:Bool→Prop) (g:Wr f a b post):
  Tr Tryz.prog 104 [.agg (Qk f),.i a,.i b] [] 0 (pB post):=by
 refine Tr.go Tryz.func104 Tryz.ntmps104 fun _ _ _ _ o=>?_
 unfold Wr at g
 refine C.ss (U.bx ?_)
 refine U.pd 1 T (C.xs (C.ss ?_))
 refine U.ps 2 T rfl (U.k (Q19 f b _ g) Q7g (fun x5 g=>?_))
 refine U.pd 1 T (C.nx ?_)
 refine C.ite rfl g (fun b6 g=>?_) fun b6 g=>?_
 refine C.ss (U.pd 1 T (C.nx (C.ret (C.rt ?_))))
 exact C.f1 T o (pBi g)
 refine C.skip (C.xs (C.ss (U.pd 2 T (C.nx ?_))))
 refine C.jn (fun (x11:Unit)=>[]) (fun x11=>[]) 0 g (fun x11 g=>?_) fun J12 g j12=>?_
 refine C.xt (U.pd 1 T (C.nx (C.ret ?_)))
 exact C.f1 T o (pBi g)
 refine C.block (St.wk (C.loop (fun (s13:Int)=>[(1,.i a),(2,.i b),(3,.p 0 0),(13,.agg [.i 0,.i 1,.i 2,.i 3]),(14,.i s13)]) (fun s13=>[(0,.box (Qk f))]) g (fun s13 Y14 g=>?_)) (Wk.a [some 0]))
 refine C.ss (U.pd 1 T (C.xs ?_))
 refine C.ite rfl g (fun b17 g=>?_) fun b17 g=>?_
 refine C.skip (C.xs (C.block (C.ss ?_)))
 obtain⟨x20,y20,g⟩:=g
 refine U.r rfl (.none rfl) rfl rfl (by exact Rd.ia1 T (enc:=eI) rfl rfl rfl rfl rfl rfl rfl rfl rfl (fun _=>rfl) rfl y20) ?_
 refine U.pd 1 T (C.xt ?_)
 refine U.ps 3 T rfl (U.k (ZW f a x20 _ g) Q8e (fun x23 g=>?_))
 refine U.pd 2 T (C.nx ?_)
 refine C.ite rfl g (fun b24 g=>?_) fun b24 g=>?_
 refine C.ss (U.pd 1 T (C.nx (C.ret (C.brt (C.rt (C.rt (C.brt (C.rt ?_))))))))
 exact C.f1 T o (pBi g)
 refine C.skip (C.bnx (C.nx (U.start (U.pd 2 T (C.nx ?_)))))
 exact St.wk (C.next g) (Wk.a [some 0])
 refine C.exit (C.ex (C.ex (C.bex ?_)))
 exact St.wk (j12 _ g) (Wk.mk' [] rfl rfl trivial trivial rfl)
theorem Q1h (r:Q0) (c0:Int) (post:Bool→Prop) (g:XE r c0 post):
  Tr Tryz.prog 153 [.agg (Q4 r),.rp [.i c0]] [] 0 (pB post):=by
 refine Tr.go Tryz.func153 Tryz.ntmps153 fun _ _ _ _ o=>?_
 unfold XE at g
 refine C.ss (U.bx ?_)
 refine U.pd 1 T (C.xt ?_)
 refine U.pd 5 T (C.nx (C.ret ?_))
 exact C.f1 T o (pBi g)
theorem KF (s_1:List Q0) (f_c0:Int) (post:Int→Prop) (g:Ql s_1 f_c0 post):
  Tr Tryz.prog 87 [.sl 6 Q4 s_1,.fn (.func 153) [] [.rp [.i f_c0]]] [] 0 (pI post):=by
 refine Tr.go Tryz.func87 Tryz.ntmps87 fun _ _ _ _ o=>?_
 unfold Ql at g
 refine C.ss (U.pd 1 T (C.xs (C.ss ?_)))
 refine U.pd 3 T (C.nx ?_)
 refine C.jn (fun (x5:Unit)=>[]) (fun x5=>[]) 0 g (fun x5 g=>?_) fun J6 g j6=>?_
 refine C.xt (U.pd 1 T (C.nx (C.ret ?_)))
 exact C.f1 T o (pIi g)
 refine C.block (St.wk (C.loop (fun (s7:Int)=>[(0,.sl 6 Q4 s_1),(1,.fn (.func 153) [] [.rp [.i f_c0]]),(7,.i (s_1.length:Int)),(8,.i s7)]) (fun s7=>[]) g (fun s7 Y8 g=>?_)) (Wk.e))
 refine C.ss (U.pd 1 T (C.xs ?_))
 refine C.ite rfl g (fun b11 g=>?_) fun b11 g=>?_
 refine C.skip (C.xs (C.block (C.ss (U.pd 2 T (C.xt ?_)))))
 refine U.ps 3 T rfl ?_
 obtain⟨x16,y16,g⟩:=g
 refine U.ix T y16 ?_
 refine U.ps 1 T rfl (U.k (Q1h x16 f_c0 _ g) Q8I (fun x17 g=>?_))
 refine U.done (C.nx ?_)
 refine C.ite rfl g (fun b18 g=>?_) fun b18 g=>?_
 refine C.ss (U.pd 2 T (C.nx (C.ret (C.brt (C.rt (C.rt (C.brt (C.rt ?_))))))))
 exact C.f1 T o (pIi g)
 refine C.skip (C.bnx (C.nx (U.start (U.pd 2 T (C.nx ?_)))))
 exact St.wk (C.next g) (Wk.e)
 refine C.exit (C.ex (C.ex (C.bex ?_)))
 exact St.wk (j6 _ g) (Wk.mk' [] rfl rfl trivial trivial rfl)
theorem Zd (st:ApiState) (shelf:Int) (post:Int→Prop) (g:XH st shelf post):
  Tr Tryz.prog 105 [.agg (Q2 st),.i shelf] [] 0 (pI post):=by
 refine Tr.go Tryz.func105 Tryz.ntmps105 fun _ _ _ _ o=>?_
 unfold XH at g
 refine C.ss (U.bx ?_)
 refine U.bx ?_
 refine U.pd 1 T (C.xs (C.ss ?_))
 refine U.pd 2 T (C.nx ?_)
 refine C.ite rfl g (fun b5 g=>?_) fun b5 g=>?_
 refine C.ss (U.pd 1 T (C.nx (C.ret (C.rt ?_))))
 exact C.f1 T o (pIi g)
 refine C.skip (C.xt (U.ps 3 T rfl (U.k (KF st.Robots shelf _ g) en87 (fun x10 g=>?_))))
 refine U.pd 1 T (C.nx (C.ret ?_))
 exact C.f1 T o (pIi g)
theorem Q0R (s_1:ApiSite) (shelf:Int) (post:ByteArray→Prop) (g:XN s_1 shelf post):
  Tr Tryz.prog 107 [.agg (Q1 s_1),.i shelf] [] 0 (fun A H' k=>∃y,post y∧A=(.v (.string y))∧H'=[]∧k=0):=by
 refine Tr.go Tryz.func107 Tryz.ntmps107 fun _ _ _ _ o=>?_
 unfold XN at g
 refine C.ss (U.bx ?_)
 refine U.pd 1 T (C.xs (C.seq ?_))
 refine C.jn (fun (x3:Bool)=>[(1,.i shelf),(2,.p 0 0),(13,.b x3)]) (fun x3=>[(0,.box (Q1 s_1))]) 1 g (fun x3 g=>?_) fun J4 g j4=>?_
 refine C.nx ?_
 refine C.ite rfl g (fun b6 g=>?_) fun b6 g=>?_
 refine C.ss (U.pd 1 T (C.nx (C.ret (C.rt ?_))))
 exact C.f1 T o ⟨ByteArray.empty,g,rfl,rfl,rfl⟩
 refine C.skip (C.xt (U.ps 3 T rfl ?_))
 obtain⟨x11,y11,g⟩:=g
 refine U.ix T y11 ?_
 refine U.pd 3 T (C.nx (C.ret ?_))
 exact C.f1 T o ⟨x11.Class,g,rfl,rfl,rfl⟩
 refine U.start (U.ps 3 T rfl ?_)
 refine g.cs (fun b5 g=>?_) fun b5 g=>?_
 refine U.sk' 5 2 false 7 b5 ?_
 refine U.pk b5 ?_
 refine U.done ?_
 exact St.wa [some 0] (j4 _ g)
 refine U.pq 5 2 false 7 b5 T ?_
 refine U.pk' b5 ?_
 refine U.done ?_
 exact St.wa [some 0] (j4 _ g)
end Go.Proofs.YtdcfcldpjfepiaaGreat
