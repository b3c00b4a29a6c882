/- The walks: each Go function does what its verification condition says (written by a program of the prover). -/
import Derived.Test.YtbkpekodmhkbdaaGreatW0
import Derived.KernelRfl
set_option maxRecDepth 100000
set_option maxHeartbeats 8000000
set_option linter.unusedVariables false
set_option linter.unusedSimpArgs false
namespace Go.Proofs.YtbkpekodmhkbdaaGreat
open Go Go.Taq
theorem Zr (s_1:ApiSite) (post:Bool→Prop) (g:KO s_1 post):
  Tr Tryz.prog 11 [.agg (Q6 s_1)] [] 0 (pB post):=by
 refine Tr.go Tryz.func11 Tryz.ntmps11 fun _ _ _ _ o=>?_
 unfold KO at g
 refine C.ss (U.bx ?_)
 refine U.pd 1 T (C.xs (C.ss ?_))
 refine U.ps 2 T rfl (U.k (Q2v s_1.Floor _ g) en30 (fun x5 g=>?_))
 refine U.pd 1 T (C.nx ?_)
 refine C.ite rfl g (fun b6 g=>?_) fun b6 g=>?_
 refine C.ss (U.pd 1 T (C.nx (C.ret (C.rt ?_))))
 exact C.f1 T o (pBi g)
 refine C.skip (C.xt (U.ps 2 T rfl (U.e rfl (.none rfl) (by exact Eff.c [] (v:=false) (Q0l s_1.Floor _ g) en31 rfl rfl rfl (.eq rfl) trivial rfl rfl rfl rfl rfl rfl (fun h=>by cases h) (.inr ⟨rfl,rfl⟩) (fun _=>rfl) (fun _=>rfl) rfl) (fun x11' g=>?_))))
 obtain⟨x11⟩:=x11'
 refine U.pd 1 T (C.xs (C.ss ?_))
 refine U.pd 4 T (C.nx ?_)
 refine C.jn (fun (x14:Int×Int×Int×List Int×List Int×List Ql×List Qb×List QE×List QC×List (Int×Int)×List (Int×Bool)×List (Int×Bool)×List (ByteArray×Int)×List (Int×Bool)×List Int×List Int)=>[(1,.p 0 0),(3,.p 1 0)]) (fun x14=>[(0,.box (Q6 s_1)),(1,.box [.i x14.1,.i x14.2.1,.i x14.2.2.1,.sl 1 eI x14.2.2.2.1,.sl 1 eI x14.2.2.2.2.1,.o 2,.o 3,.o 4,.o 5,.o 6,.o 7,.o 8,.o 9,.o 10,.o 11,.o 12]),(2,.val (.os 5 Q8 x14.2.2.2.2.2.1)),(3,.val (.os 2 Q3 x14.2.2.2.2.2.2.1)),(4,.val (.os 2 Q4 x14.2.2.2.2.2.2.2.1)),(5,.val (.os 2 Q5 x14.2.2.2.2.2.2.2.2.1)),(6,.val (.om kI veI x14.2.2.2.2.2.2.2.2.2.1)),(7,.val (.om kI veB x14.2.2.2.2.2.2.2.2.2.2.1)),(8,.val (.om kI veB x14.2.2.2.2.2.2.2.2.2.2.2.1)),(9,.val (.om kS veI x14.2.2.2.2.2.2.2.2.2.2.2.2.1)),(10,.val (.om kI veB x14.2.2.2.2.2.2.2.2.2.2.2.2.2.1)),(11,.val (.os 1 eI x14.2.2.2.2.2.2.2.2.2.2.2.2.2.2.1)),(12,.val (.os 1 eI x14.2.2.2.2.2.2.2.2.2.2.2.2.2.2.2))]) 13 g (fun x14 g=>?_) fun J15 g j15=>?_
 refine C.xs (C.ss (U.pd 4 T (C.nx ?_)))
 refine C.jn (fun (x43:Int×Int×Int×List Int×List Int×List Ql×List Qb×List QE×List QC×List (Int×Int)×List (Int×Bool)×List (Int×Bool)×List (ByteArray×Int)×List (Int×Bool)×List Int×List Int)=>[(1,.p 0 0),(3,.p 1 0)]) (fun x43=>[(0,.box (Q6 s_1)),(1,.box [.i x43.1,.i x43.2.1,.i x43.2.2.1,.sl 1 eI x43.2.2.2.1,.sl 1 eI x43.2.2.2.2.1,.o 2,.o 3,.o 4,.o 5,.o 6,.o 7,.o 8,.o 9,.o 10,.o 11,.o 12]),(2,.val (.os 5 Q8 x43.2.2.2.2.2.1)),(3,.val (.os 2 Q3 x43.2.2.2.2.2.2.1)),(4,.val (.os 2 Q4 x43.2.2.2.2.2.2.2.1)),(5,.val (.os 2 Q5 x43.2.2.2.2.2.2.2.2.1)),(6,.val (.om kI veI x43.2.2.2.2.2.2.2.2.2.1)),(7,.val (.om kI veB x43.2.2.2.2.2.2.2.2.2.2.1)),(8,.val (.om kI veB x43.2.2.2.2.2.2.2.2.2.2.2.1)),(9,.val (.om kS veI x43.2.2.2.2.2.2.2.2.2.2.2.2.1)),(10,.val (.om kI veB x43.2.2.2.2.2.2.2.2.2.2.2.2.2.1)),(11,.val (.os 1 eI x43.2.2.2.2.2.2.2.2.2.2.2.2.2.2.1)),(12,.val (.os 1 eI x43.2.2.2.2.2.2.2.2.2.2.2.2.2.2.2))]) 13 g (fun x43 g=>?_) fun J44 g j44=>?_
 refine C.xs (C.ss (U.pd 4 T (C.nx ?_)))
 refine C.jn (fun (x63:Int×Int×Int×List Int×List Int×List Ql×List Qb×List QE×List QC×List (Int×Int)×List (Int×Bool)×List (Int×Bool)×List (ByteArray×Int)×List (Int×Bool)×List Int×List Int)=>[(1,.p 0 0),(3,.p 1 0)]) (fun x63=>[(0,.box (Q6 s_1)),(1,.box [.i x63.1,.i x63.2.1,.i x63.2.2.1,.sl 1 eI x63.2.2.2.1,.sl 1 eI x63.2.2.2.2.1,.o 2,.o 3,.o 4,.o 5,.o 6,.o 7,.o 8,.o 9,.o 10,.o 11,.o 12]),(2,.val (.os 5 Q8 x63.2.2.2.2.2.1)),(3,.val (.os 2 Q3 x63.2.2.2.2.2.2.1)),(4,.val (.os 2 Q4 x63.2.2.2.2.2.2.2.1)),(5,.val (.os 2 Q5 x63.2.2.2.2.2.2.2.2.1)),(6,.val (.om kI veI x63.2.2.2.2.2.2.2.2.2.1)),(7,.val (.om kI veB x63.2.2.2.2.2.2.2.2.2.2.1)),(8,.val (.om kI veB x63.2.2.2.2.2.2.2.2.2.2.2.1)),(9,.val (.om kS veI x63.2.2.2.2.2.2.2.2.2.2.2.2.1)),(10,.val (.om kI veB x63.2.2.2.2.2.2.2.2.2.2.2.2.2.1)),(11,.val (.os 1 eI x63.2.2.2.2.2.2.2.2.2.2.2.2.2.2.1)),(12,.val (.os 1 eI x63.2.2.2.2.2.2.2.2.2.2.2.2.2.2.2))]) 13 g (fun x63 g=>?_) fun J64 g j64=>?_
 refine C.xs (C.ss (U.pd 4 T (C.nx ?_)))
 refine C.jn (fun (x83:Int×Int×Int×List Int×List Int×List Ql×List Qb×List QE×List QC×List (Int×Int)×List (Int×Bool)×List (Int×Bool)×List (ByteArray×Int)×List (Int×Bool)×List Int×List Int)=>[(3,.p 0 0)]) (fun x83=>[(0,.box [.i x83.1,.i x83.2.1,.i x83.2.2.1,.sl 1 eI x83.2.2.2.1,.sl 1 eI x83.2.2.2.2.1,.o 1,.o 2,.o 3,.o 4,.o 5,.o 6,.o 7,.o 8,.o 9,.o 10,.o 11]),(1,.val (.os 5 Q8 x83.2.2.2.2.2.1)),(2,.val (.os 2 Q3 x83.2.2.2.2.2.2.1)),(3,.val (.os 2 Q4 x83.2.2.2.2.2.2.2.1)),(4,.val (.os 2 Q5 x83.2.2.2.2.2.2.2.2.1)),(5,.val (.om kI veI x83.2.2.2.2.2.2.2.2.2.1)),(6,.val (.om kI veB x83.2.2.2.2.2.2.2.2.2.2.1)),(7,.val (.om kI veB x83.2.2.2.2.2.2.2.2.2.2.2.1)),(8,.val (.om kS veI x83.2.2.2.2.2.2.2.2.2.2.2.2.1)),(9,.val (.om kI veB x83.2.2.2.2.2.2.2.2.2.2.2.2.2.1)),(10,.val (.os 1 eI x83.2.2.2.2.2.2.2.2.2.2.2.2.2.2.1)),(11,.val (.os 1 eI x83.2.2.2.2.2.2.2.2.2.2.2.2.2.2.2))]) 12 g (fun x83 g=>?_) fun J84 g j84=>?_
 refine C.xs ?_
 refine C.jn (fun (x101:Bool)=>[(2,.b x101)]) (fun x101=>[]) 0 g (fun x101 g=>?_) fun J102 g j102=>?_
 refine C.nx (C.ret ?_)
 exact C.f1 T o (pBi g)
 refine U.start (U.ps 1 T rfl ?_)
 refine U.k (Z0 ({site:=({Floor:=({W:=x83.1,H:=x83.2.1,D:=x83.2.2.1,Kind:=x83.2.2.2.1,Out:=x83.2.2.2.2.1:ApiFloor}),Zones:=x83.2.2.2.2.2.1,Aparts:=x83.2.2.2.2.2.2.1,Shelves:=x83.2.2.2.2.2.2.2.1,Robots:=x83.2.2.2.2.2.2.2.2.1:ApiSite}),shelf:=x83.2.2.2.2.2.2.2.2.2.1,robot:=x83.2.2.2.2.2.2.2.2.2.2.1,zoned:=x83.2.2.2.2.2.2.2.2.2.2.2.1,names:=x83.2.2.2.2.2.2.2.2.2.2.2.2.1,oneways:=x83.2.2.2.2.2.2.2.2.2.2.2.2.2.1,shelves:=x83.2.2.2.2.2.2.2.2.2.2.2.2.2.2.1,zones:=x83.2.2.2.2.2.2.2.2.2.2.2.2.2.2.2:SurveyMaker}) _ g) en40 fun x103 g=>?_
 refine U.ps 2 T rfl ?_
 refine g.cs (fun b104 g=>?_) fun b104 g=>?_
 refine U.pq 1 3 true 100 b104 T ?_
 refine U.k (Yz ({site:=({Floor:=({W:=x83.1,H:=x83.2.1,D:=x83.2.2.1,Kind:=x83.2.2.2.1,Out:=x83.2.2.2.2.1:ApiFloor}),Zones:=x83.2.2.2.2.2.1,Aparts:=x83.2.2.2.2.2.2.1,Shelves:=x83.2.2.2.2.2.2.2.1,Robots:=x83.2.2.2.2.2.2.2.2.1:ApiSite}),shelf:=x83.2.2.2.2.2.2.2.2.2.1,robot:=x83.2.2.2.2.2.2.2.2.2.2.1,zoned:=x83.2.2.2.2.2.2.2.2.2.2.2.1,names:=x83.2.2.2.2.2.2.2.2.2.2.2.2.1,oneways:=x83.2.2.2.2.2.2.2.2.2.2.2.2.2.1,shelves:=x83.2.2.2.2.2.2.2.2.2.2.2.2.2.2.1,zones:=x83.2.2.2.2.2.2.2.2.2.2.2.2.2.2.2:SurveyMaker}) _ g) en41 (fun x105 g=>?_) (hw:=.take 3 true 100 _ b104 rfl rfl rfl)
 refine U.pq 1 3 true 100 b104 T ?_
 refine U.pk b104 ?_
 refine U.ps 1 T rfl ?_
 refine g.cs (fun b106 g=>?_) fun b106 g=>?_
 refine U.pq 1 8 true 105 b106 T ?_
 refine U.k (YA ({site:=({Floor:=({W:=x83.1,H:=x83.2.1,D:=x83.2.2.1,Kind:=x83.2.2.2.1,Out:=x83.2.2.2.2.1:ApiFloor}),Zones:=x83.2.2.2.2.2.1,Aparts:=x83.2.2.2.2.2.2.1,Shelves:=x83.2.2.2.2.2.2.2.1,Robots:=x83.2.2.2.2.2.2.2.2.1:ApiSite}),shelf:=x83.2.2.2.2.2.2.2.2.2.1,robot:=x83.2.2.2.2.2.2.2.2.2.2.1,zoned:=x83.2.2.2.2.2.2.2.2.2.2.2.1,names:=x83.2.2.2.2.2.2.2.2.2.2.2.2.1,oneways:=x83.2.2.2.2.2.2.2.2.2.2.2.2.2.1,shelves:=x83.2.2.2.2.2.2.2.2.2.2.2.2.2.2.1,zones:=x83.2.2.2.2.2.2.2.2.2.2.2.2.2.2.2:SurveyMaker}) _ g) en42 (fun x107 g=>?_) (hw:=.take 8 true 105 _ b106 rfl rfl rfl)
 refine U.pk b106 ?_
 refine U.pd 1 T ?_
 exact St.wn (j102 _ g)
 refine U.sk' 2 8 true 105 b106 ?_
 refine U.pk' b106 ?_
 refine U.pd 1 T ?_
 exact St.wn (j102 _ g)
 refine U.sk' 3 3 true 100 b104 ?_
 refine U.pk' b104 ?_
 refine U.ps 1 T rfl (U.sk' 2 8 true 105 rfl ?_)
 refine U.pk' rfl ?_
 refine U.pd 1 T ?_
 exact St.wn (j102 _ g)
 refine C.block ?_
 refine St.wk (C.loop (fun (s85:Int×Int×Int×List Int×List Int×List Ql×List Qb×List QE×List QC×List (Int×Int)×List (Int×Bool)×List (Int×Bool)×List (ByteArray×Int)×List (Int×Bool)×List Int×List Int×Int)=>[(3,.p 0 0),(86,.sl 2 Q5 s_1.Robots),(87,.i (s_1.Robots.length:Int)),(88,.i s85.2.2.2.2.2.2.2.2.2.2.2.2.2.2.2.2)]) (fun s85=>[(0,.box [.i s85.1,.i s85.2.1,.i s85.2.2.1,.sl 1 eI s85.2.2.2.1,.sl 1 eI s85.2.2.2.2.1,.o 1,.o 2,.o 3,.o 4,.o 5,.o 6,.o 7,.o 8,.o 9,.o 10,.o 11]),(1,.val (.os 5 Q8 s85.2.2.2.2.2.1)),(2,.val (.os 2 Q3 s85.2.2.2.2.2.2.1)),(3,.val (.os 2 Q4 s85.2.2.2.2.2.2.2.1)),(4,.val (.os 2 Q5 s85.2.2.2.2.2.2.2.2.1)),(5,.val (.om kI veI s85.2.2.2.2.2.2.2.2.2.1)),(6,.val (.om kI veB s85.2.2.2.2.2.2.2.2.2.2.1)),(7,.val (.om kI veB s85.2.2.2.2.2.2.2.2.2.2.2.1)),(8,.val (.om kS veI s85.2.2.2.2.2.2.2.2.2.2.2.2.1)),(9,.val (.om kI veB s85.2.2.2.2.2.2.2.2.2.2.2.2.2.1)),(10,.val (.os 1 eI s85.2.2.2.2.2.2.2.2.2.2.2.2.2.2.1)),(11,.val (.os 1 eI s85.2.2.2.2.2.2.2.2.2.2.2.2.2.2.2.1))]) g (fun s85 Y86 g=>?_)) (Wk.a (sqR 1 12))
 refine C.ss (U.pd 1 T (C.xs ?_))
 refine C.ite rfl g (fun b89 g=>?_) fun b89 g=>?_
 refine C.skip (C.xs (C.block (C.ss ?_)))
 obtain⟨x92,y92,g⟩:=g
 refine U.ix T y92 ?_
 refine U.ps 1 T rfl (U.al T ?_)
 refine U.st T ?_
 refine U.done (C.xt (U.ps 2 T rfl ?_))
 refine U.c (idR 12) (WF x92 ({site:=({Floor:=({W:=s85.1,H:=s85.2.1,D:=s85.2.2.1,Kind:=s85.2.2.2.1,Out:=s85.2.2.2.2.1:ApiFloor}),Zones:=s85.2.2.2.2.2.1,Aparts:=s85.2.2.2.2.2.2.1,Shelves:=s85.2.2.2.2.2.2.2.1,Robots:=s85.2.2.2.2.2.2.2.2.1:ApiSite}),shelf:=s85.2.2.2.2.2.2.2.2.2.1,robot:=s85.2.2.2.2.2.2.2.2.2.2.1,zoned:=s85.2.2.2.2.2.2.2.2.2.2.2.1,names:=s85.2.2.2.2.2.2.2.2.2.2.2.2.1,oneways:=s85.2.2.2.2.2.2.2.2.2.2.2.2.2.1,shelves:=s85.2.2.2.2.2.2.2.2.2.2.2.2.2.2.1,zones:=s85.2.2.2.2.2.2.2.2.2.2.2.2.2.2.2.1:SurveyMaker}) _ g) en39 fun x95 g=>?_
 refine U.pd 1 T (C.nx ?_)
 refine C.ite rfl g (fun b96 g=>?_) fun b96 g=>?_
 refine C.ss (U.pd 1 T (C.nx (C.ret (C.brt (C.rt (C.rt (C.brt (C.rt ?_))))))))
 exact C.f1 T o (pBi g)
 refine C.skip (C.bnx (C.nx (U.start (U.pd 2 T (C.nx ?_)))))
 exact St.wk (C.next g) (Wk.a [some 0,some 25,some 26,some 27,some 28,some 29,some 30,some 31,some 32,some 33,some 34,some 35])
 refine C.exit (C.ex (C.ex (C.bex ?_)))
 exact St.wa (idR 12) (j84 _ g)
 refine C.block ?_
 refine St.wk (C.loop (fun (s65:Int×Int×Int×List Int×List Int×List Ql×List Qb×List QE×List QC×List (Int×Int)×List (Int×Bool)×List (Int×Bool)×List (ByteArray×Int)×List (Int×Bool)×List Int×List Int×Int)=>[(1,.p 0 0),(3,.p 1 0),(74,.sl 2 Q4 s_1.Shelves),(75,.i (s_1.Shelves.length:Int)),(76,.i s65.2.2.2.2.2.2.2.2.2.2.2.2.2.2.2.2)]) (fun s65=>[(0,.box (Q6 s_1)),(1,.box [.i s65.1,.i s65.2.1,.i s65.2.2.1,.sl 1 eI s65.2.2.2.1,.sl 1 eI s65.2.2.2.2.1,.o 2,.o 3,.o 4,.o 5,.o 6,.o 7,.o 8,.o 9,.o 10,.o 11,.o 12]),(2,.val (.os 5 Q8 s65.2.2.2.2.2.1)),(3,.val (.os 2 Q3 s65.2.2.2.2.2.2.1)),(4,.val (.os 2 Q4 s65.2.2.2.2.2.2.2.1)),(5,.val (.os 2 Q5 s65.2.2.2.2.2.2.2.2.1)),(6,.val (.om kI veI s65.2.2.2.2.2.2.2.2.2.1)),(7,.val (.om kI veB s65.2.2.2.2.2.2.2.2.2.2.1)),(8,.val (.om kI veB s65.2.2.2.2.2.2.2.2.2.2.2.1)),(9,.val (.om kS veI s65.2.2.2.2.2.2.2.2.2.2.2.2.1)),(10,.val (.om kI veB s65.2.2.2.2.2.2.2.2.2.2.2.2.2.1)),(11,.val (.os 1 eI s65.2.2.2.2.2.2.2.2.2.2.2.2.2.2.1)),(12,.val (.os 1 eI s65.2.2.2.2.2.2.2.2.2.2.2.2.2.2.2.1))]) g (fun s65 Y66 g=>?_)) (Wk.a (idR 13))
 refine C.ss (U.pd 1 T (C.xs ?_))
 refine C.ite rfl g (fun b69 g=>?_) fun b69 g=>?_
 refine C.skip (C.xs (C.block (C.ss ?_)))
 obtain⟨x72,y72,g⟩:=g
 refine U.ix T y72 ?_
 refine U.ps 1 T rfl (U.al T ?_)
 refine U.st T ?_
 refine U.done (C.xt (U.ps 2 T rfl ?_))
 refine U.c (sqR 1 12) (Wv x72 ({site:=({Floor:=({W:=s65.1,H:=s65.2.1,D:=s65.2.2.1,Kind:=s65.2.2.2.1,Out:=s65.2.2.2.2.1:ApiFloor}),Zones:=s65.2.2.2.2.2.1,Aparts:=s65.2.2.2.2.2.2.1,Shelves:=s65.2.2.2.2.2.2.2.1,Robots:=s65.2.2.2.2.2.2.2.2.1:ApiSite}),shelf:=s65.2.2.2.2.2.2.2.2.2.1,robot:=s65.2.2.2.2.2.2.2.2.2.2.1,zoned:=s65.2.2.2.2.2.2.2.2.2.2.2.1,names:=s65.2.2.2.2.2.2.2.2.2.2.2.2.1,oneways:=s65.2.2.2.2.2.2.2.2.2.2.2.2.2.1,shelves:=s65.2.2.2.2.2.2.2.2.2.2.2.2.2.2.1,zones:=s65.2.2.2.2.2.2.2.2.2.2.2.2.2.2.2.1:SurveyMaker}) _ g) en38 fun x75 g=>?_
 refine U.pd 1 T (C.nx ?_)
 refine C.ite rfl g (fun b76 g=>?_) fun b76 g=>?_
 refine C.ss (U.pd 1 T (C.nx (C.ret (C.brt (C.rt (C.rt (C.brt (C.rt ?_))))))))
 exact C.f1 T o (pBi g)
 refine C.skip (C.bnx (C.nx (U.start (U.pd 2 T (C.nx ?_)))))
 exact St.wk (C.next g) (Wk.a [some 0,some 1,some 26,some 27,some 28,some 29,some 30,some 31,some 32,some 33,some 34,some 35,some 36])
 refine C.exit (C.ex (C.ex (C.bex ?_)))
 exact St.wa (idR 13) (j64 _ g)
 refine C.block ?_
 refine St.wk (C.loop (fun (s45:Int×Int×Int×List Int×List Int×List Ql×List Qb×List QE×List QC×List (Int×Int)×List (Int×Bool)×List (Int×Bool)×List (ByteArray×Int)×List (Int×Bool)×List Int×List Int×Int)=>[(1,.p 0 0),(3,.p 1 0),(62,.sl 2 Q3 s_1.Aparts),(63,.i (s_1.Aparts.length:Int)),(64,.i s45.2.2.2.2.2.2.2.2.2.2.2.2.2.2.2.2)]) (fun s45=>[(0,.box (Q6 s_1)),(1,.box [.i s45.1,.i s45.2.1,.i s45.2.2.1,.sl 1 eI s45.2.2.2.1,.sl 1 eI s45.2.2.2.2.1,.o 2,.o 3,.o 4,.o 5,.o 6,.o 7,.o 8,.o 9,.o 10,.o 11,.o 12]),(2,.val (.os 5 Q8 s45.2.2.2.2.2.1)),(3,.val (.os 2 Q3 s45.2.2.2.2.2.2.1)),(4,.val (.os 2 Q4 s45.2.2.2.2.2.2.2.1)),(5,.val (.os 2 Q5 s45.2.2.2.2.2.2.2.2.1)),(6,.val (.om kI veI s45.2.2.2.2.2.2.2.2.2.1)),(7,.val (.om kI veB s45.2.2.2.2.2.2.2.2.2.2.1)),(8,.val (.om kI veB s45.2.2.2.2.2.2.2.2.2.2.2.1)),(9,.val (.om kS veI s45.2.2.2.2.2.2.2.2.2.2.2.2.1)),(10,.val (.om kI veB s45.2.2.2.2.2.2.2.2.2.2.2.2.2.1)),(11,.val (.os 1 eI s45.2.2.2.2.2.2.2.2.2.2.2.2.2.2.1)),(12,.val (.os 1 eI s45.2.2.2.2.2.2.2.2.2.2.2.2.2.2.2.1))]) g (fun s45 Y46 g=>?_)) (Wk.a (idR 13))
 refine C.ss (U.pd 1 T (C.xs ?_))
 refine C.ite rfl g (fun b49 g=>?_) fun b49 g=>?_
 refine C.skip (C.xs (C.block (C.ss ?_)))
 obtain⟨x52,y52,g⟩:=g
 refine U.ix T y52 ?_
 refine U.ps 1 T rfl (U.al T ?_)
 refine U.st T ?_
 refine U.done (C.xt (U.ps 2 T rfl ?_))
 refine U.c (sqR 1 12) (Wt x52 ({site:=({Floor:=({W:=s45.1,H:=s45.2.1,D:=s45.2.2.1,Kind:=s45.2.2.2.1,Out:=s45.2.2.2.2.1:ApiFloor}),Zones:=s45.2.2.2.2.2.1,Aparts:=s45.2.2.2.2.2.2.1,Shelves:=s45.2.2.2.2.2.2.2.1,Robots:=s45.2.2.2.2.2.2.2.2.1:ApiSite}),shelf:=s45.2.2.2.2.2.2.2.2.2.1,robot:=s45.2.2.2.2.2.2.2.2.2.2.1,zoned:=s45.2.2.2.2.2.2.2.2.2.2.2.1,names:=s45.2.2.2.2.2.2.2.2.2.2.2.2.1,oneways:=s45.2.2.2.2.2.2.2.2.2.2.2.2.2.1,shelves:=s45.2.2.2.2.2.2.2.2.2.2.2.2.2.2.1,zones:=s45.2.2.2.2.2.2.2.2.2.2.2.2.2.2.2.1:SurveyMaker}) _ g) en37 fun x55 g=>?_
 refine U.pd 1 T (C.nx ?_)
 refine C.ite rfl g (fun b56 g=>?_) fun b56 g=>?_
 refine C.ss (U.pd 1 T (C.nx (C.ret (C.brt (C.rt (C.rt (C.brt (C.rt ?_))))))))
 exact C.f1 T o (pBi g)
 refine C.skip (C.bnx (C.nx (U.start (U.pd 2 T (C.nx ?_)))))
 exact St.wk (C.next g) (Wk.a [some 0,some 1,some 26,some 27,some 28,some 29,some 30,some 31,some 32,some 33,some 34,some 35,some 36])
 refine C.exit (C.ex (C.ex (C.bex ?_)))
 exact St.wa (idR 13) (j44 _ g)
 refine C.block ?_
 refine St.wk (C.loop (fun (s16:Int×Int×Int×List Int×List Int×List Ql×List Qb×List QE×List QC×List (Int×Int)×List (Int×Bool)×List (Int×Bool)×List (ByteArray×Int)×List (Int×Bool)×List Int×List Int×Int)=>[(1,.p 0 0),(3,.p 1 0),(20,.sl 5 Q8 s_1.Zones),(21,.i (s_1.Zones.length:Int)),(22,.i s16.2.2.2.2.2.2.2.2.2.2.2.2.2.2.2.2)]) (fun s16=>[(0,.box (Q6 s_1)),(1,.box [.i s16.1,.i s16.2.1,.i s16.2.2.1,.sl 1 eI s16.2.2.2.1,.sl 1 eI s16.2.2.2.2.1,.o 2,.o 3,.o 4,.o 5,.o 6,.o 7,.o 8,.o 9,.o 10,.o 11,.o 12]),(2,.val (.os 5 Q8 s16.2.2.2.2.2.1)),(3,.val (.os 2 Q3 s16.2.2.2.2.2.2.1)),(4,.val (.os 2 Q4 s16.2.2.2.2.2.2.2.1)),(5,.val (.os 2 Q5 s16.2.2.2.2.2.2.2.2.1)),(6,.val (.om kI veI s16.2.2.2.2.2.2.2.2.2.1)),(7,.val (.om kI veB s16.2.2.2.2.2.2.2.2.2.2.1)),(8,.val (.om kI veB s16.2.2.2.2.2.2.2.2.2.2.2.1)),(9,.val (.om kS veI s16.2.2.2.2.2.2.2.2.2.2.2.2.1)),(10,.val (.om kI veB s16.2.2.2.2.2.2.2.2.2.2.2.2.2.1)),(11,.val (.os 1 eI s16.2.2.2.2.2.2.2.2.2.2.2.2.2.2.1)),(12,.val (.os 1 eI s16.2.2.2.2.2.2.2.2.2.2.2.2.2.2.2.1))]) g (fun s16 Y17 g=>?_)) (Wk.a [some 0,some 12,some 1,some 2,some 3,some 4,some 5,some 6,some 7,some 8,some 9,some 10,some 11])
 refine C.ss (U.pd 1 T (C.xs ?_))
 refine C.ite rfl g (fun b20 g=>?_) fun b20 g=>?_
 refine C.skip (C.xs (C.block (C.ss ?_)))
 obtain⟨x23,y23,g⟩:=g
 refine U.ix T y23 ?_
 refine U.ps 1 T rfl (U.al T ?_)
 refine U.st T ?_
 refine U.done (C.xs ?_)
 refine C.jn (fun (x24:Int×Int×Int×List Int×List Int×List Ql×List Qb×List QE×List QC×List (Int×Int)×List (Int×Bool)×List (Int×Bool)×List (ByteArray×Int)×List (Int×Bool)×List Int×List Int×Bool)=>[(1,.p 0 0),(3,.p 1 0),(20,.sl 5 Q8 s_1.Zones),(21,.i (s_1.Zones.length:Int)),(22,.i s16.2.2.2.2.2.2.2.2.2.2.2.2.2.2.2.2),(59,.b x24.2.2.2.2.2.2.2.2.2.2.2.2.2.2.2.2)]) (fun x24=>[(0,.box (Q6 s_1)),(1,.box [.i x24.1,.i x24.2.1,.i x24.2.2.1,.sl 1 eI x24.2.2.2.1,.sl 1 eI x24.2.2.2.2.1,.o 2,.o 3,.o 4,.o 5,.o 6,.o 7,.o 8,.o 9,.o 10,.o 11,.o 12]),(2,.val (.os 5 Q8 x24.2.2.2.2.2.1)),(3,.val (.os 2 Q3 x24.2.2.2.2.2.2.1)),(4,.val (.os 2 Q4 x24.2.2.2.2.2.2.2.1)),(5,.val (.os 2 Q5 x24.2.2.2.2.2.2.2.2.1)),(6,.val (.om kI veI x24.2.2.2.2.2.2.2.2.2.1)),(7,.val (.om kI veB x24.2.2.2.2.2.2.2.2.2.2.1)),(8,.val (.om kI veB x24.2.2.2.2.2.2.2.2.2.2.2.1)),(9,.val (.om kS veI x24.2.2.2.2.2.2.2.2.2.2.2.2.1)),(10,.val (.om kI veB x24.2.2.2.2.2.2.2.2.2.2.2.2.2.1)),(11,.val (.os 1 eI x24.2.2.2.2.2.2.2.2.2.2.2.2.2.2.1)),(12,.val (.os 1 eI x24.2.2.2.2.2.2.2.2.2.2.2.2.2.2.2.1))]) 13 g (fun x24 g=>?_) fun J25 g j25=>?_
 refine C.nx ?_
 refine C.ite rfl g (fun b36 g=>?_) fun b36 g=>?_
 refine C.ss (U.pd 1 T (C.nx (C.ret (C.brt (C.rt (C.rt (C.brt (C.rt ?_))))))))
 exact C.f1 T o (pBi g)
 refine C.skip (C.bnx (C.nx (U.start (U.pd 2 T (C.nx ?_)))))
 exact St.wk (C.next g) (Wk.a (idR 13))
 refine U.start (U.ps 2 T rfl (U.k (We x23.Name _ g) en32 (fun x26 g=>?_)))
 refine U.ps 2 T rfl ?_
 refine g.cs (fun b27 g=>?_) fun b27 g=>?_
 refine U.pq 2 4 false 30 (ntF b27) T ?_
 refine U.k (YG x23.Speed 1 100 _ g) en33 (fun x28 g=>?_) (hw:=.take 4 false 30 _ (ntF b27) rfl rfl rfl)
 refine U.pq 1 4 false 30 (ntF b27) T ?_
 refine U.pk' (ntF b27) ?_
 refine U.ps 1 T rfl ?_
 refine g.cs (fun b29 g=>?_) fun b29 g=>?_
 refine U.pq 3 10 false 36 (ntF b29) T ?_
 refine U.pk' (ntF b29) ?_
 refine U.ps 1 T rfl ?_
 refine g.cs (fun b30 g=>?_) fun b30 g=>?_
 refine U.sk' 4 15 false 41 b30 ?_
 refine U.pk b30 ?_
 refine U.ps 1 T rfl (U.sk' 5 21 false 47 rfl ?_)
 refine U.pk rfl ?_
 refine U.ps 1 T rfl (U.sk' 4 28 false 54 rfl ?_)
 refine U.pk rfl ?_
 refine U.done ?_
 exact St.wa (idR 13) (j25 _ g)
 refine U.pq 2 15 false 41 b30 T ?_
 refine U.k (Q2S x23.Shut _ g) en34 (fun x31 g=>?_) (hw:=.take 15 false 41 _ b30 rfl rfl rfl)
 refine U.pq 1 15 false 41 b30 T ?_
 refine U.pk' b30 ?_
 refine U.ps 1 T rfl ?_
 refine g.cs (fun b32 g=>?_) fun b32 g=>?_
 refine U.pq 3 21 false 47 (ntF b32) T ?_
 refine U.k (Zg ({site:=({Floor:=({W:=s16.1,H:=s16.2.1,D:=s16.2.2.1,Kind:=s16.2.2.2.1,Out:=s16.2.2.2.2.1:ApiFloor}),Zones:=s16.2.2.2.2.2.1,Aparts:=s16.2.2.2.2.2.2.1,Shelves:=s16.2.2.2.2.2.2.2.1,Robots:=s16.2.2.2.2.2.2.2.2.1:ApiSite}),shelf:=s16.2.2.2.2.2.2.2.2.2.1,robot:=s16.2.2.2.2.2.2.2.2.2.2.1,zoned:=s16.2.2.2.2.2.2.2.2.2.2.2.1,names:=s16.2.2.2.2.2.2.2.2.2.2.2.2.1,oneways:=s16.2.2.2.2.2.2.2.2.2.2.2.2.2.1,shelves:=s16.2.2.2.2.2.2.2.2.2.2.2.2.2.2.1,zones:=s16.2.2.2.2.2.2.2.2.2.2.2.2.2.2.2.1:SurveyMaker}) x23.Cells _ g) en35 (fun x33 g=>?_) (hw:=.take 21 false 47 _ (ntF b32) rfl rfl rfl)
 refine U.pq 1 21 false 47 (ntF b32) T ?_
 refine U.pk' (ntF b32) ?_
 refine U.ps 1 T rfl ?_
 refine g.cs (fun b34 g=>?_) fun b34 g=>?_
 refine U.pq 2 28 false 54 (ntF b34) T ?_
 refine U.c (sqR 1 12) (WG x23 ({site:=({Floor:=({W:=s16.1,H:=s16.2.1,D:=s16.2.2.1,Kind:=s16.2.2.2.1,Out:=s16.2.2.2.2.1:ApiFloor}),Zones:=s16.2.2.2.2.2.1,Aparts:=s16.2.2.2.2.2.2.1,Shelves:=s16.2.2.2.2.2.2.2.1,Robots:=s16.2.2.2.2.2.2.2.2.1:ApiSite}),shelf:=s16.2.2.2.2.2.2.2.2.2.1,robot:=s16.2.2.2.2.2.2.2.2.2.2.1,zoned:=s16.2.2.2.2.2.2.2.2.2.2.2.1,names:=s16.2.2.2.2.2.2.2.2.2.2.2.2.1,oneways:=s16.2.2.2.2.2.2.2.2.2.2.2.2.2.1,shelves:=s16.2.2.2.2.2.2.2.2.2.2.2.2.2.2.1,zones:=s16.2.2.2.2.2.2.2.2.2.2.2.2.2.2.2.1:SurveyMaker}) _ g) en36 (fun x35 g=>?_) (hw:=.take 28 false 54 _ (ntF b34) rfl rfl rfl)
 refine U.pq 1 28 false 54 (ntF b34) T ?_
 refine U.pk' (ntF b34) ?_
 refine U.done ?_
 exact St.wa [some 0,some 1,some 26,some 27,some 28,some 29,some 30,some 31,some 32,some 33,some 34,some 35,some 36] (j25 _ g)
 refine U.sk' 4 28 false 54 (ntT b34) ?_
 refine U.pk (ntT b34) ?_
 refine U.done ?_
 exact St.wa (idR 13) (j25 _ g)
 refine U.sk' 5 21 false 47 (ntT b32) ?_
 refine U.pk (ntT b32) ?_
 refine U.ps 1 T rfl (U.sk' 4 28 false 54 rfl ?_)
 refine U.pk rfl ?_
 refine U.done ?_
 exact St.wa (idR 13) (j25 _ g)
 refine U.sk' 3 10 false 36 (ntT b29) ?_
 refine U.pk (ntT b29) ?_
 refine U.ps 1 T rfl (U.sk' 4 15 false 41 rfl ?_)
 refine U.pk rfl ?_
 refine U.ps 1 T rfl (U.sk' 5 21 false 47 rfl ?_)
 refine U.pk rfl ?_
 refine U.ps 1 T rfl (U.sk' 4 28 false 54 rfl ?_)
 refine U.pk rfl ?_
 refine U.done ?_
 exact St.wa (idR 13) (j25 _ g)
 refine U.sk' 4 4 false 30 (ntT b27) ?_
 refine U.pk (ntT b27) ?_
 refine U.ps 1 T rfl (U.sk' 3 10 false 36 rfl ?_)
 refine U.pk rfl ?_
 refine U.ps 1 T rfl (U.sk' 4 15 false 41 rfl ?_)
 refine U.pk rfl ?_
 refine U.ps 1 T rfl (U.sk' 5 21 false 47 rfl ?_)
 refine U.pk rfl ?_
 refine U.ps 1 T rfl (U.sk' 4 28 false 54 rfl ?_)
 refine U.pk rfl ?_
 refine U.done ?_
 exact St.wa (idR 13) (j25 _ g)
 refine C.exit (C.ex (C.ex (C.bex ?_)))
 exact St.wa (idR 13) (j15 _ g)
theorem G9 (n:Int) (from_1:Int) (to_1:Int) (post:Bool→Prop) (g:K9 n from_1 to_1 post):
  Tr Tryz.prog 43 [.i n,.i from_1,.i to_1] [] 0 (pB post):=by
 refine Tr.go Tryz.func43 Tryz.ntmps43 fun _ _ _ _ o=>?_
 unfold K9 at g
 refine C.ss (U.pd 1 T (C.xs ?_))
 refine C.jn (fun (x3:Bool)=>[(6,.b x3)]) (fun x3=>[]) 0 g (fun x3 g=>?_) fun J4 g j4=>?_
 refine C.nx (C.ret ?_)
 exact C.f1 T o (pBi g)
 refine U.start (U.ps 4 T rfl ?_)
 refine g.cs (fun b5 g=>?_) fun b5 g=>?_
 refine U.pq 3 3 true 10 b5 T ?_
 refine U.pk b5 ?_
 refine U.pd 1 T ?_
 exact St.wn (j4 _ g)
 refine U.sk' 3 3 true 10 b5 ?_
 refine U.pk' b5 ?_
 refine U.pd 1 T ?_
 exact St.wn (j4 _ g)
theorem Q38 (s_1:ApiSite) (st:ApiState) (post:Bool→Prop) (g:Xy s_1 st post):
  Tr Tryz.prog 44 [.agg (Q6 s_1),.agg (Q1 st)] [] 0 (pB post):=by
 refine Tr.go Tryz.func44 Tryz.ntmps44 fun _ _ _ _ o=>?_
 unfold Xy at g
 refine C.ss (U.bx ?_)
 refine U.bx ?_
 refine U.pd 1 T (C.xt ?_)
 refine U.e1 rfl (.none rfl) (by exact Eff1.mm kI veB rfl rfl rfl) ?_
 refine U.pd 1 T (C.xs (C.ss ?_))
 refine U.pd 4 T (C.nx ?_)
 refine C.jn (fun (x7:Unit)=>[]) (fun x7=>[]) 0 g (fun x7 g=>?_) fun J8 g j8=>?_
 refine C.xt (U.pd 1 T (C.nx (C.ret ?_)))
 exact C.f1 T o (pBi g)
 refine C.block (St.wk (C.loop (fun (s9:List (Int×Bool)×Int)=>[(2,.p 0 0),(3,.p 1 0),(5,.o 2),(10,.sl 6 Q0 st.Robots),(11,.i (st.Robots.length:Int)),(12,.i s9.2)]) (fun s9=>[(0,.box (Q6 s_1)),(1,.box (Q1 st)),(2,.val (.om kI veB s9.1))]) g (fun s9 Y10 g=>?_)) (Wk.a (idR 3)))
 refine C.ss (U.pd 1 T (C.xs ?_))
 refine C.ite rfl g (fun b13 g=>?_) fun b13 g=>?_
 refine C.skip (C.xs (C.block (C.ss ?_)))
 obtain⟨x16,y16,g⟩:=g
 refine U.ix T y16 ?_
 refine U.ps 1 T rfl (U.al T ?_)
 refine U.st T ?_
 refine U.done (C.xs (C.seq ?_))
 refine C.jn (fun (x17:Bool)=>[(2,.p 0 0),(3,.p 1 0),(5,.o 2),(7,.p 3 0),(10,.sl 6 Q0 st.Robots),(11,.i (st.Robots.length:Int)),(12,.i s9.2),(47,.b x17)]) (fun x17=>[(0,.box (Q6 s_1)),(1,.box (Q1 st)),(2,.val (.om kI veB s9.1)),(3,.box (Q0 x16))]) 4 g (fun x17 g=>?_) fun J18 g j18=>?_
 refine C.nx ?_
 refine C.ite rfl g (fun b24 g=>?_) fun b24 g=>?_
 refine C.ss (U.pd 1 T (C.nx (C.ret (C.rt (C.brt (C.rt (C.rt (C.brt (C.rt ?_)))))))))
 exact C.f1 T o (pBi g)
 refine C.skip (C.xs (C.seq ?_))
 refine C.jn (fun (x27:Bool)=>[(2,.p 0 0),(3,.p 1 0),(5,.o 2),(7,.p 3 0),(10,.sl 6 Q0 st.Robots),(11,.i (st.Robots.length:Int)),(12,.i s9.2),(63,.b x27)]) (fun x27=>[(0,.box (Q6 s_1)),(1,.box (Q1 st)),(2,.val (.om kI veB s9.1)),(3,.box (Q0 x16))]) 4 g (fun x27 g=>?_) fun J28 g j28=>?_
 refine C.nx ?_
 refine C.ite rfl g (fun b34 g=>?_) fun b34 g=>?_
 refine C.ss (U.pd 1 T (C.nx (C.ret (C.rt (C.brt (C.rt (C.rt (C.brt (C.rt ?_)))))))))
 exact C.f1 T o (pBi g)
 refine C.skip (C.xs (C.seq ?_))
 refine C.jn (fun (x37:Bool)=>[(2,.p 0 0),(3,.p 1 0),(5,.o 2),(7,.p 3 0),(10,.sl 6 Q0 st.Robots),(11,.i (st.Robots.length:Int)),(12,.i s9.2),(83,.b x37)]) (fun x37=>[(0,.box (Q6 s_1)),(1,.box (Q1 st)),(2,.val (.om kI veB s9.1)),(3,.box (Q0 x16))]) 4 g (fun x37 g=>?_) fun J38 g j38=>?_
 refine C.nx ?_
 refine C.ite rfl g (fun b42 g=>?_) fun b42 g=>?_
 refine C.ss (U.pd 1 T (C.nx (C.ret (C.rt (C.brt (C.rt (C.rt (C.brt (C.rt ?_)))))))))
 exact C.f1 T o (pBi g)
 refine C.skip (C.nx (U.start (U.ps 3 T rfl (U.e1 rfl (.none rfl) (by exact Eff1.mu T (x:=x16.Load) (y:=true) (.inl rfl) rfl kt3 (fun _=>rfl) rfl rfl rfl rfl rfl (.inl rfl) rfl) ?_))))
 refine U.done (C.bnx (C.nx (U.start (U.pd 2 T (C.nx ?_)))))
 exact St.wk (C.next g) (Wk.a (idR 3))
 refine D.bq mix 9999 [1,2,3] [] (fun hQ hS ws M'=>?_)
 refine D.pq 4 (zl [0,1,2,3]) T ?_
 refine g.cs (fun b39 g=>?_) fun b39 g=>?_
 refine D.pt 4 [] 3 true 67 b39 T ?_
 refine D.pt 5 [] 3 true 67 b39 T ?_
 refine D.q 6 [] hQ hS rfl (.tk 3 true 67 b39) rfl rfl (by exact Rd.l T rfl rfl rfl) rfl (by kernel_rfl) ?_
 refine D.q 7 [] hQ hS rfl (.tk 3 true 67 b39) rfl rfl (by exact Rd.lk T (ke:=kI) (ve:=veB) (xs:=s9.1) (z0:=false) (x:=x16.Load) rfl rfl kt3 zt4 (fun _=>rfl) rfl (.o rfl) rfl rfl rfl) rfl (by kernel_rfl) ?_
 refine D.pt 8 [] 3 true 67 b39 T ?_
 refine g.cs (fun b40 g=>?_) fun b40 g=>?_
 refine D.sz 9 [] 8 false 72 b40 ?_
 refine D.sz 10 [] 8 false 72 b40 ?_
 refine D.sz 11 [] 8 false 72 b40 ?_
 refine D.sz 12 [] 8 false 72 b40 ?_
 refine D.sz 13 [] 8 false 72 b40 ?_
 refine D.sz 14 [] 8 false 72 b40 ?_
 refine D.sz 15 [] 8 false 72 b40 ?_
 refine D.sz 16 [] 8 false 72 b40 ?_
 refine D.sz 17 [] 8 false 72 b40 ?_
 refine D.q 18 [] hQ hS rfl (.tk 3 true 67 b39) rfl rfl (by exact Rd.pk rfl rfl b40 rfl) rfl (by kernel_rfl) ?_
 refine D.kt 19 [] b39 ?_
 refine D.done (by kernel_rfl) ?_
 exact St.wa (idR 4) (j38 _ g)
 refine D.pt 9 [] 8 false 72 b40 T ?_
 refine D.q 10 [] hQ hS rfl (.tk 8 false 72 b40) rfl rfl (by exact Rd.l T rfl rfl rfl) rfl (by kernel_rfl) ?_
 refine D.pt 11 [] 8 false 72 b40 T ?_
 refine D.q 12 [] hQ hS rfl (.tk 8 false 72 b40) rfl rfl (by exact Rd.l T rfl rfl rfl) rfl (by kernel_rfl) ?_
 obtain⟨x41,y41,g⟩:=g
 refine D.q 13 [] hQ hS rfl (.tk 8 false 72 b40) rfl rfl (by exact Rd.ix T rfl rfl rfl rfl rfl rfl y41) rfl (by kernel_rfl) ?_
 refine D.q 14 [] hQ hS rfl (.tk 8 false 72 b40) rfl rfl (by exact Rd.l T rfl rfl rfl) rfl (by kernel_rfl) ?_
 refine D.pt 15 [] 8 false 72 b40 T ?_
 refine D.q 16 [] hQ hS rfl (.tk 8 false 72 b40) rfl rfl (by exact Rd.l T rfl rfl rfl) rfl (by kernel_rfl) ?_
 refine D.pt 17 [] 8 false 72 b40 T ?_
 refine D.q 18 [] hQ hS rfl (.tk 3 true 67 b39) rfl rfl (by exact Rd.pk' rfl rfl b40 rfl) rfl (by kernel_rfl) ?_
 refine D.kt 19 [] b39 ?_
 refine D.done (by kernel_rfl) ?_
 exact St.wa (idR 4) (j38 _ g)
 refine D.sz 4 [] 3 true 67 b39 ?_
 refine D.sz 5 [] 3 true 67 b39 ?_
 refine D.sz 6 [] 3 true 67 b39 ?_
 refine D.sz 7 [] 3 true 67 b39 ?_
 refine D.sz 8 [] 3 true 67 b39 ?_
 refine D.sx 9 [] hQ hS (.und 8 false 72 rfl rfl rfl) ?_
 refine D.sx 10 [] hQ hS (.und 8 false 72 rfl rfl rfl) ?_
 refine D.sx 11 [] hQ hS (.und 8 false 72 rfl rfl rfl) ?_
 refine D.sx 12 [] hQ hS (.und 8 false 72 rfl rfl rfl) ?_
 refine D.sx 13 [] hQ hS (.und 8 false 72 rfl rfl rfl) ?_
 refine D.sx 14 [] hQ hS (.und 8 false 72 rfl rfl rfl) ?_
 refine D.sx 15 [] hQ hS (.und 8 false 72 rfl rfl rfl) ?_
 refine D.sx 16 [] hQ hS (.und 8 false 72 rfl rfl rfl) ?_
 refine D.sx 17 [] hQ hS (.und 8 false 72 rfl rfl rfl) ?_
 refine D.sz 18 [] 3 true 67 b39 ?_
 refine D.kf 19 [] b39 ?_
 refine D.done (by kernel_rfl) ?_
 exact St.wa (idR 4) (j38 _ g)
 refine U.start (U.ps 2 T rfl (U.k (G9 x16.Charge 0 1000000 _ g) en43 (fun x29 g=>?_)))
 refine U.ps 2 T rfl ?_
 refine g.cs (fun b30 g=>?_) fun b30 g=>?_
 refine U.pq 2 4 false 52 (ntF b30) T ?_
 refine U.k (G9 x16.Rest 0 20000 _ g) en43 (fun x31 g=>?_) (hw:=.take 4 false 52 _ (ntF b30) rfl rfl rfl)
 refine U.pq 1 4 false 52 (ntF b30) T ?_
 refine U.pk' (ntF b30) ?_
 refine U.ps 1 T rfl ?_
 refine g.cs (fun b32 g=>?_) fun b32 g=>?_
 refine U.pq 2 10 false 58 (ntF b32) T ?_
 refine U.k (G9 x16.Mute 0 20000 _ g) en43 (fun x33 g=>?_) (hw:=.take 10 false 58 _ (ntF b32) rfl rfl rfl)
 refine U.pq 1 10 false 58 (ntF b32) T ?_
 refine U.pk' (ntF b32) ?_
 refine U.done ?_
 exact St.wa (idR 4) (j28 _ g)
 refine U.sk' 4 10 false 58 (ntT b32) ?_
 refine U.pk (ntT b32) ?_
 refine U.done ?_
 exact St.wa (idR 4) (j28 _ g)
 refine U.sk' 4 4 false 52 (ntT b30) ?_
 refine U.pk (ntT b30) ?_
 refine U.ps 1 T rfl (U.sk' 4 10 false 58 rfl ?_)
 refine U.pk rfl ?_
 refine U.done ?_
 exact St.wa (idR 4) (j28 _ g)
 refine U.start (U.ps 4 T rfl ?_)
 refine g.cs (fun b19 g=>?_) fun b19 g=>?_
 refine U.sk' 7 3 false 19 b19 ?_
 refine U.pk b19 ?_
 refine U.ps 1 T rfl (U.sk' 8 12 false 28 rfl ?_)
 refine U.pk rfl ?_
 refine U.ps 1 T rfl (U.sk' 8 22 false 38 rfl ?_)
 refine U.pk rfl ?_
 refine U.done ?_
 exact St.wa (idR 4) (j18 _ g)
 refine U.pq 7 3 false 19 b19 T ?_
 refine U.pk' b19 ?_
 refine U.ps 1 T rfl ?_
 refine g.cs (fun b20 g=>?_) fun b20 g=>?_
 refine U.sk' 8 12 false 28 b20 ?_
 refine U.pk b20 ?_
 refine U.ps 1 T rfl (U.sk' 8 22 false 38 rfl ?_)
 refine U.pk rfl ?_
 refine U.done ?_
 exact St.wa (idR 4) (j18 _ g)
 refine U.pq 5 12 false 28 b20 T ?_
 obtain⟨x21,y21,g⟩:=g
 refine U.r rfl (.tk 12 false 28 b20) rfl rfl (by exact Rd.ix T rfl rfl rfl rfl rfl rfl y21) ?_
 refine U.pq 2 12 false 28 b20 T ?_
 refine U.pk' b20 ?_
 refine U.ps 1 T rfl ?_
 refine g.cs (fun b22 g=>?_) fun b22 g=>?_
 refine U.sk' 8 22 false 38 b22 ?_
 refine U.pk b22 ?_
 refine U.done ?_
 exact St.wa (idR 4) (j18 _ g)
 refine U.pq 6 22 false 38 b22 T ?_
 refine U.k (G9 x16.Load (-1) (w64 ((st.Shelves.length:Int)-1)) _ g) en43 (fun x23 g=>?_) (hw:=.take 22 false 38 _ b22 rfl rfl rfl)
 refine U.pq 1 22 false 38 b22 T ?_
 refine U.pk' b22 ?_
 refine U.done ?_
 exact St.wa (idR 4) (j18 _ g)
 refine C.exit (C.ex (C.ex (C.bex ?_)))
 exact St.wk (j8 _ g) (Wk.mk' [] rfl rfl trivial trivial rfl)
theorem Q1t (f:ApiFloor) (c:Int) (kinds:List Int) (post:Bool→Prop) (g:X0 f c kinds post):
  Tr Tryz.prog 47 [.agg (Qc f),.i c,.sl 1 eI kinds] [] 0 (pB post):=by
 refine Tr.go Tryz.func47 Tryz.ntmps47 fun _ _ _ _ o=>?_
 unfold X0 at g
 refine C.ss (U.bx ?_)
 refine U.pd 1 T (C.xs ?_)
 refine C.jn (fun (x3:Bool)=>[(6,.b x3)]) (fun x3=>[]) 0 g (fun x3 g=>?_) fun J4 g j4=>?_
 refine C.nx (C.ret ?_)
 exact C.f1 T o (pBi g)
 refine U.start (U.ps 3 T rfl ?_)
 refine g.cs (fun b5 g=>?_) fun b5 g=>?_
 refine U.pq 5 2 true 9 b5 T ?_
 refine U.pk b5 ?_
 refine U.ps 1 T rfl ?_
 refine g.cs (fun b6 g=>?_) fun b6 g=>?_
 refine U.pq 4 9 true 16 b6 T ?_
 obtain⟨x7,y7,g⟩:=g
 refine U.r rfl (.tk 9 true 16 b6) rfl rfl (by exact Rd.ix T rfl rfl rfl rfl rfl rfl y7) ?_
 refine U.pq 1 9 true 16 b6 T ?_
 refine U.k (QL kinds x7 _ g) en54 (fun x8 g=>?_) (hw:=.take 9 true 16 _ b6 rfl rfl rfl)
 refine U.pk b6 ?_
 refine U.pd 1 T ?_
 exact St.wn (j4 _ g)
 refine U.sk' 7 9 true 16 b6 ?_
 refine U.pk' b6 ?_
 refine U.pd 1 T ?_
 exact St.wn (j4 _ g)
 refine U.sk' 5 2 true 9 b5 ?_
 refine U.pk' b5 ?_
 refine U.ps 1 T rfl (U.sk' 7 9 true 16 rfl ?_)
 refine U.pk' rfl ?_
 refine U.pd 1 T ?_
 exact St.wn (j4 _ g)
theorem Q4h (f:ApiFloor) (st:ApiState) (post:Bool→Prop) (g:Gq f st post):
  Tr Tryz.prog 45 [.agg (Qc f),.agg (Q1 st)] [] 0 (pB post):=by
 refine Tr.go Tryz.func45 Tryz.ntmps45 fun _ _ _ _ o=>?_
 unfold Gq at g
 refine C.ss (U.bx ?_)
 refine U.bx ?_
 refine U.pd 1 T (C.xs (C.ss ?_))
 refine U.pd 4 T (C.nx ?_)
 refine C.jn (fun (x5:Unit)=>[(2,.p 0 0),(3,.p 1 0)]) (fun x5=>[(0,.box (Qc f)),(1,.box (Q1 st))]) 2 g (fun x5 g=>?_) fun J6 g j6=>?_
 refine C.xs (C.ss (U.pd 4 T (C.nx ?_)))
 refine C.jn (fun (x28:Unit)=>[]) (fun x28=>[]) 0 g (fun x28 g=>?_) fun J29 g j29=>?_
 refine C.xt (U.pd 1 T (C.nx (C.ret ?_)))
 exact C.f1 T o (pBi g)
 refine C.block (St.wk (C.loop (fun (s30:Int)=>[(2,.p 0 0),(3,.p 1 0),(42,.sl 2 Q7 st.Stuck),(43,.i (st.Stuck.length:Int)),(44,.i s30)]) (fun s30=>[(0,.box (Qc f)),(1,.box (Q1 st))]) g (fun s30 Y31 g=>?_)) (Wk.a (idR 2)))
 refine C.ss (U.pd 1 T (C.xs ?_))
 refine C.ite rfl g (fun b34 g=>?_) fun b34 g=>?_
 refine C.skip (C.xs (C.block (C.ss (U.ps 1 T rfl ?_))))
 obtain⟨x37,y37,g⟩:=g
 refine U.ix T y37 ?_
 refine U.ps 1 T rfl (U.al T ?_)
 refine U.ps 1 T rfl (U.st T ?_)
 refine U.done (C.xs ?_)
 refine C.jn (fun (x38:Bool)=>[(2,.p 0 0),(3,.p 1 0),(42,.sl 2 Q7 st.Stuck),(43,.i (st.Stuck.length:Int)),(44,.i s30),(76,.b x38)]) (fun x38=>[(0,.box (Qc f)),(1,.box (Q1 st))]) 2 g (fun x38 g=>?_) fun J39 g j39=>?_
 refine C.nx ?_
 refine C.ite rfl g (fun b46 g=>?_) fun b46 g=>?_
 refine C.ss (U.pd 1 T (C.nx (C.ret (C.brt (C.rt (C.rt (C.brt (C.rt ?_))))))))
 exact C.f1 T o (pBi g)
 refine C.skip (C.bnx (C.nx (U.start (U.pd 2 T (C.nx ?_)))))
 exact St.wk (C.next g) (Wk.a (idR 2))
 refine D.bq mix 9999 [0,1,2] [] (fun hQ hS ws M'=>?_)
 refine D.pq 3 (zl [0,1,2]) T ?_
 refine D.e1 3 rfl (.none rfl) (by exact Eff1.bs T (enc:=eI) (xs:=([6]:List Int)) rfl rfl rfl rfl rfl rfl rfl rfl rfl rfl (fun _ _=>rfl) rfl rfl) (by kernel_rfl) rfl rfl ?_
 refine D.k 4 (Q1t f x37.Cell ([6]:List Int) _ g) en47 fun x40 g=>?_
 refine D.pq 2 (zl [5,6]) T ?_
 refine g.cs (fun b41 g=>?_) fun b41 g=>?_
 refine D.pt 7 [] 6 false 55 (ntF b41) T ?_
 refine D.q 8 [] hQ hS rfl (.tk 6 false 55 (ntF b41)) rfl rfl (by exact Rd.l T rfl rfl rfl) rfl (by kernel_rfl) ?_
 refine D.k 9 (G9 x37.Left 1 20000 _ g) en43 (fun x42 g=>?_) (hw:=.take 6 false 55 _ (ntF b41) rfl rfl rfl)
 refine D.pt 10 [] 6 false 55 (ntF b41) T ?_
 refine D.kf 11 [] (ntF b41) ?_
 refine D.pq 1 [(12,[])] T ?_
 refine g.cs (fun b43 g=>?_) fun b43 g=>?_
 refine D.pt 13 [] 12 false 61 (ntF b43) T ?_
 refine D.pt 14 [] 12 false 61 (ntF b43) T ?_
 refine D.pt 15 [] 12 false 61 (ntF b43) T ?_
 refine g.cs (fun b44 g=>?_) fun b44 g=>?_
 refine D.pt 16 [] 15 true 64 b44 T ?_
 refine D.q 17 [] hQ hS rfl (.tk 15 true 64 b44) rfl rfl (by exact Rd.l T rfl rfl rfl) rfl (by kernel_rfl) ?_
 refine D.pt 18 [] 15 true 64 b44 T ?_
 refine D.q 19 [] hQ hS rfl (.tk 15 true 64 b44) rfl rfl (by exact Rd.l T rfl rfl rfl) rfl (by kernel_rfl) ?_
 refine D.pt 20 [] 15 true 64 b44 T ?_
 refine D.pt 21 [] 15 true 64 b44 T ?_
 obtain⟨x45,y45,g⟩:=g
 refine D.q 22 [] hQ hS rfl (.tk 15 true 64 b44) rfl rfl (by exact Rd.ix T rfl rfl rfl rfl rfl rfl y45) rfl (by kernel_rfl) ?_
 refine D.pt 23 [] 15 true 64 b44 T ?_
 refine D.q 24 [] hQ hS rfl (.tk 15 true 64 b44) rfl rfl (by exact Rd.l T rfl rfl rfl) rfl (by kernel_rfl) ?_
 refine D.pt 25 [] 15 true 64 b44 T ?_
 refine D.q 26 [] hQ hS rfl (.tk 12 false 61 (ntF b43)) rfl rfl (by exact Rd.pk rfl rfl b44 rfl) rfl (by kernel_rfl) ?_
 refine D.kf 27 [] (ntF b43) ?_
 refine D.done (by kernel_rfl) ?_
 exact St.wa (idR 2) (j39 _ g)
 refine D.sz 16 [] 15 true 64 b44 ?_
 refine D.sz 17 [] 15 true 64 b44 ?_
 refine D.sz 18 [] 15 true 64 b44 ?_
 refine D.sz 19 [] 15 true 64 b44 ?_
 refine D.sz 20 [] 15 true 64 b44 ?_
 refine D.sz 21 [] 15 true 64 b44 ?_
 refine D.sz 22 [] 15 true 64 b44 ?_
 refine D.sz 23 [] 15 true 64 b44 ?_
 refine D.sz 24 [] 15 true 64 b44 ?_
 refine D.sz 25 [] 15 true 64 b44 ?_
 refine D.q 26 [] hQ hS rfl (.tk 12 false 61 (ntF b43)) rfl rfl (by exact Rd.pk' rfl rfl b44 rfl) rfl (by kernel_rfl) ?_
 refine D.kf 27 [] (ntF b43) ?_
 refine D.done (by kernel_rfl) ?_
 exact St.wa (idR 2) (j39 _ g)
 refine D.sz 13 [] 12 false 61 (ntT b43) ?_
 refine D.sz 14 [] 12 false 61 (ntT b43) ?_
 refine D.sz 15 [] 12 false 61 (ntT b43) ?_
 refine D.sx 16 [] hQ hS (.und 15 true 64 rfl rfl rfl) ?_
 refine D.sx 17 [] hQ hS (.und 15 true 64 rfl rfl rfl) ?_
 refine D.sx 18 [] hQ hS (.und 15 true 64 rfl rfl rfl) ?_
 refine D.sx 19 [] hQ hS (.und 15 true 64 rfl rfl rfl) ?_
 refine D.sx 20 [] hQ hS (.und 15 true 64 rfl rfl rfl) ?_
 refine D.sx 21 [] hQ hS (.und 15 true 64 rfl rfl rfl) ?_
 refine D.sx 22 [] hQ hS (.und 15 true 64 rfl rfl rfl) ?_
 refine D.sx 23 [] hQ hS (.und 15 true 64 rfl rfl rfl) ?_
 refine D.sx 24 [] hQ hS (.und 15 true 64 rfl rfl rfl) ?_
 refine D.sx 25 [] hQ hS (.und 15 true 64 rfl rfl rfl) ?_
 refine D.sz 26 [] 12 false 61 (ntT b43) ?_
 refine D.kt 27 [] (ntT b43) ?_
 refine D.done (by kernel_rfl) ?_
 exact St.wa (idR 2) (j39 _ g)
 refine D.sz 7 [] 6 false 55 (ntT b41) ?_
 refine D.sz 8 [] 6 false 55 (ntT b41) ?_
 refine D.sz 9 [] 6 false 55 (ntT b41) ?_
 refine D.sz 10 [] 6 false 55 (ntT b41) ?_
 refine D.kt 11 [] (ntT b41) ?_
 refine D.pq 1 [(12,[])] T ?_
 refine D.sz 13 [] 12 false 61 rfl ?_
 refine D.sz 14 [] 12 false 61 rfl ?_
 refine D.sz 15 [] 12 false 61 rfl ?_
 refine D.sx 16 [] hQ hS (.und 15 true 64 rfl rfl rfl) ?_
 refine D.sx 17 [] hQ hS (.und 15 true 64 rfl rfl rfl) ?_
 refine D.sx 18 [] hQ hS (.und 15 true 64 rfl rfl rfl) ?_
 refine D.sx 19 [] hQ hS (.und 15 true 64 rfl rfl rfl) ?_
 refine D.sx 20 [] hQ hS (.und 15 true 64 rfl rfl rfl) ?_
 refine D.sx 21 [] hQ hS (.und 15 true 64 rfl rfl rfl) ?_
 refine D.sx 22 [] hQ hS (.und 15 true 64 rfl rfl rfl) ?_
 refine D.sx 23 [] hQ hS (.und 15 true 64 rfl rfl rfl) ?_
 refine D.sx 24 [] hQ hS (.und 15 true 64 rfl rfl rfl) ?_
 refine D.sx 25 [] hQ hS (.und 15 true 64 rfl rfl rfl) ?_
 refine D.sz 26 [] 12 false 61 rfl ?_
 refine D.kt 27 [] rfl ?_
 refine D.done (by kernel_rfl) ?_
 exact St.wa (idR 2) (j39 _ g)
 refine C.exit (C.ex (C.ex (C.bex ?_)))
 exact St.wk (j29 _ g) (Wk.mk' [] rfl rfl trivial trivial rfl)
 refine C.block (St.wk (C.loop (fun (s7:Int)=>[(2,.p 0 0),(3,.p 1 0),(10,.sl 1 eI st.Dead),(11,.i (st.Dead.length:Int)),(12,.i s7)]) (fun s7=>[(0,.box (Qc f)),(1,.box (Q1 st))]) g (fun s7 Y8 g=>?_)) (Wk.a (idR 2)))
 refine C.ss (U.pd 1 T (C.xs ?_))
 refine C.ite rfl g (fun b11 g=>?_) fun b11 g=>?_
 refine C.skip (C.xs (C.block (C.ss (U.ps 1 T rfl ?_))))
 obtain⟨x14,y14,g⟩:=g
 refine U.ix T y14 ?_
 refine U.pd 3 T (C.xs ?_)
 refine C.jn (fun (x15:Bool)=>[(2,.p 0 0),(3,.p 1 0),(10,.sl 1 eI st.Dead),(11,.i (st.Dead.length:Int)),(12,.i s7),(39,.b x15)]) (fun x15=>[(0,.box (Qc f)),(1,.box (Q1 st))]) 2 g (fun x15 g=>?_) fun J16 g j16=>?_
 refine C.nx ?_
 refine C.ite rfl g (fun b21 g=>?_) fun b21 g=>?_
 refine C.ss (U.pd 1 T (C.nx (C.ret (C.brt (C.rt (C.rt (C.brt (C.rt ?_))))))))
 exact C.f1 T o (pBi g)
 refine C.skip (C.bnx (C.nx (U.start (U.pd 2 T (C.nx ?_)))))
 exact St.wk (C.next g) (Wk.a (idR 2))
 refine U.start (U.ps 3 T rfl ?_)
 refine g.cs (fun b17 g=>?_) fun b17 g=>?_
 refine U.sk' 5 2 false 19 b17 ?_
 refine U.pk b17 ?_
 refine U.ps 1 T rfl (U.sk' 3 9 false 26 rfl ?_)
 refine U.sku 8 12 true 29 rfl rfl rfl ?_
 refine U.sk' 1 9 false 26 rfl ?_
 refine U.pk rfl ?_
 refine U.done ?_
 exact St.wa (idR 2) (j16 _ g)
 refine U.pq 5 2 false 19 b17 T ?_
 refine U.pk' b17 ?_
 refine U.ps 1 T rfl ?_
 refine g.cs (fun b18 g=>?_) fun b18 g=>?_
 refine U.sk' 3 9 false 26 b18 ?_
 refine U.sku 8 12 true 29 rfl rfl rfl ?_
 refine U.sk' 1 9 false 26 b18 ?_
 refine U.pk b18 ?_
 refine U.done ?_
 exact St.wa (idR 2) (j16 _ g)
 refine U.pq 3 9 false 26 b18 T ?_
 refine g.cs (fun b19 g=>?_) fun b19 g=>?_
 refine U.pq 5 12 true 29 b19 T ?_
 obtain⟨x20,y20,g⟩:=g
 refine U.r rfl (.tk 12 true 29 b19) rfl rfl (by exact Rd.ix T rfl rfl rfl rfl rfl rfl y20) ?_
 refine U.pq 2 12 true 29 b19 T ?_
 refine U.r rfl (.tk 9 false 26 b18) rfl rfl (by exact Rd.pk rfl rfl b19 rfl) ?_
 refine U.pk' b18 ?_
 refine U.done ?_
 exact St.wa (idR 2) (j16 _ g)
 refine U.sk' 8 12 true 29 b19 ?_
 refine U.r rfl (.tk 9 false 26 b18) rfl rfl (by exact Rd.pk' rfl rfl b19 rfl) ?_
 refine U.pk' b18 ?_
 refine U.done ?_
 exact St.wa (idR 2) (j16 _ g)
 refine C.exit (C.ex (C.ex (C.bex ?_)))
 exact St.wa (idR 2) (j6 _ g)
theorem Q0M (r:ApiRobot) (c0:Int) (post:Bool→Prop) (g:XD r c0 post):
  Tr Tryz.prog 83 [.agg (Q0 r),.rp [.i c0]] [] 0 (pB post):=by
 refine Tr.go Tryz.func83 Tryz.ntmps83 fun _ _ _ _ o=>?_
 unfold XD at g
 refine C.ss (U.bx ?_)
 refine U.pd 1 T (C.xt ?_)
 refine U.pd 5 T (C.nx (C.ret ?_))
 exact C.f1 T o (pBi g)
theorem KE (s_1:List ApiRobot) (f_c0:Int) (post:Int→Prop) (g:Qq s_1 f_c0 post):
  Tr Tryz.prog 82 [.sl 6 Q0 s_1,.fn (.func 83) [] [.rp [.i f_c0]]] [] 0 (pI post):=by
 refine Tr.go Tryz.func82 Tryz.ntmps82 fun _ _ _ _ o=>?_
 unfold Qq at g
 refine C.ss (U.pd 1 T (C.xs (C.ss ?_)))
 refine U.pd 3 T (C.nx ?_)
 refine C.jn (fun (x5:Unit)=>[]) (fun x5=>[]) 0 g (fun x5 g=>?_) fun J6 g j6=>?_
 refine C.xt (U.pd 1 T (C.nx (C.ret ?_)))
 exact C.f1 T o (pIi g)
 refine C.block (St.wk (C.loop (fun (s7:Int)=>[(0,.sl 6 Q0 s_1),(1,.fn (.func 83) [] [.rp [.i f_c0]]),(7,.i (s_1.length:Int)),(8,.i s7)]) (fun s7=>[]) g (fun s7 Y8 g=>?_)) (Wk.e))
 refine C.ss (U.pd 1 T (C.xs ?_))
 refine C.ite rfl g (fun b11 g=>?_) fun b11 g=>?_
 refine C.skip (C.xs (C.block (C.ss (U.pd 2 T (C.xt ?_)))))
 refine U.ps 3 T rfl ?_
 obtain⟨x16,y16,g⟩:=g
 refine U.ix T y16 ?_
 refine U.ps 1 T rfl (U.k (Q0M x16 f_c0 _ g) en83 (fun x17 g=>?_))
 refine U.done (C.nx ?_)
 refine C.ite rfl g (fun b18 g=>?_) fun b18 g=>?_
 refine C.ss (U.pd 2 T (C.nx (C.ret (C.brt (C.rt (C.rt (C.brt (C.rt ?_))))))))
 exact C.f1 T o (pIi g)
 refine C.skip (C.bnx (C.nx (U.start (U.pd 2 T (C.nx ?_)))))
 exact St.wk (C.next g) (Wk.e)
 refine C.exit (C.ex (C.ex (C.bex ?_)))
 exact St.wk (j6 _ g) (Wk.mk' [] rfl rfl trivial trivial rfl)
theorem Zs (st:ApiState) (shelf:Int) (post:Int→Prop) (g:KN st shelf post):
  Tr Tryz.prog 46 [.agg (Q1 st),.i shelf] [] 0 (pI post):=by
 refine Tr.go Tryz.func46 Tryz.ntmps46 fun _ _ _ _ o=>?_
 unfold KN at g
 refine C.ss (U.bx ?_)
 refine U.bx ?_
 refine U.pd 1 T (C.xs (C.ss ?_))
 refine U.pd 2 T (C.nx ?_)
 refine C.ite rfl g (fun b5 g=>?_) fun b5 g=>?_
 refine C.ss (U.pd 1 T (C.nx (C.ret (C.rt ?_))))
 exact C.f1 T o (pIi g)
 refine C.skip (C.xt (U.ps 3 T rfl (U.k (KE st.Robots shelf _ g) en82 (fun x10 g=>?_))))
 refine U.pd 1 T (C.nx (C.ret ?_))
 exact C.f1 T o (pIi g)
theorem Y1 (c:Int) (post:Int→Prop) (g:X4 c post):
  Tr Tryz.prog 127 [.i c] [] 0 (pI post):=by
 refine Tr.go Tryz.func127 Tryz.ntmps127 fun _ _ _ _ o=>?_
 unfold X4 at g
 refine C.ss (U.pd 1 T (C.xt ?_))
 refine U.pd 3 T (C.nx (C.ret ?_))
 exact C.f1 T o (pIi g)
theorem Wo (c:Int) (post:Int→Prop) (g:Ku c post):
  Tr Tryz.prog 126 [.i c] [] 0 (pI post):=by
 refine Tr.go Tryz.func126 Tryz.ntmps126 fun _ _ _ _ o=>?_
 unfold Ku at g
 refine C.ss (U.pd 1 T (C.xt ?_))
 refine U.pd 4 T (C.nx (C.ret ?_))
 exact C.f1 T o (pIi g)
theorem Q3c (r:ApiRobot) (c:Int) (post:(List Int)→Prop) (g:W7 r c post):
  Tr Tryz.prog 125 [.agg (Q0 r),.i c] [] 0 (fun A H' k=>∃y,post y∧A=(.o 0)∧H'=[(0,.val (.os 1 eI y))]∧k=1):=by
 refine Tr.go Tryz.func125 Tryz.ntmps125 fun _ _ _ _ o=>?_
 unfold W7 at g
 refine C.ss (U.bx ?_)
 refine U.pd 1 T (C.xs (C.ss ?_))
 refine U.pd 3 T (C.nx ?_)
 refine C.ite rfl g (fun b5 g=>?_) fun b5 g=>?_
 refine C.ss (U.ps 1 T rfl (U.k (Y1 c _ g) Q5V (fun x8 g=>?_)))
 refine U.ps 1 T rfl (U.k (Wo c _ g) Q6B (fun x9 g=>?_))
 refine U.bs T eI ([x8,x9]:List Int) ?_
 refine U.pd 1 T (C.nx (C.ret (C.rt ?_)))
 exact C.g1 [some 1] T o ⟨([x8,x9]:List Int),g,rfl,rfl,rfl⟩
 refine C.skip (C.xt (U.ps 1 T rfl (U.k (Y1 c _ g) Q5V (fun x12 g=>?_))))
 refine U.bs T eI ([x12]:List Int) ?_
 refine U.pd 1 T (C.nx (C.ret ?_))
 exact C.g1 [some 1] T o ⟨([x12]:List Int),g,rfl,rfl,rfl⟩
theorem Q3d (st:ApiState) (i:Int) (post:(List Int)→Prop) (g:Gu st i post):
  Tr Tryz.prog 86 [.agg (Q1 st),.i i] [] 0 (fun A H' k=>∃y,post y∧A=(.o 0)∧H'=[(0,.val (.os 1 eI y))]∧k=1):=by
 refine Tr.go Tryz.func86 Tryz.ntmps86 fun _ _ _ _ o=>?_
 unfold Gu at g
 refine C.ss (U.bx ?_)
 refine U.pd 1 T (C.xs (C.seq ?_))
 refine C.jn (fun (x3:Bool)=>[(1,.i i),(2,.p 0 0),(13,.b x3)]) (fun x3=>[(0,.box (Q1 st))]) 1 g (fun x3 g=>?_) fun J4 g j4=>?_
 refine C.nx ?_
 refine C.ite rfl g (fun b6 g=>?_) fun b6 g=>?_
 refine C.ss (U.pd 1 T (C.nx (C.ret (C.rt ?_))))
 exact C.g1 [none] T o ⟨[],g,rfl,rfl,rfl⟩
 refine C.skip (C.xs (D.bq mix 9999 [0] [] (fun hQ hS ws M'=>?_)))
 refine D.pq 3 (zl [0,1,2]) T ?_
 obtain⟨x11,y11,g⟩:=g
 refine D.ix 3 [] T y11 ?_
 refine D.pq 4 (zl [4,5,6,7]) T ?_
 refine D.ix 8 [] T y11 ?_
 refine D.pq 2 (zl [9,10]) T ?_
 refine D.k 11 (Q3c x11 x11.Cell _ g) Q9t fun x12 g=>?_
 refine D.pq 1 [(12,[])] T ?_
 refine D.done (by kernel_rfl) ?_
 refine C.nx (C.ret ?_)
 exact C.g1 [some 1] T o ⟨x12,g,rfl,rfl,rfl⟩
 refine U.start (U.ps 3 T rfl ?_)
 refine g.cs (fun b5 g=>?_) fun b5 g=>?_
 refine U.sk' 5 2 false 7 b5 ?_
 refine U.pk b5 ?_
 refine U.done ?_
 exact St.wa [some 0] (j4 _ g)
 refine U.pq 5 2 false 7 b5 T ?_
 refine U.pk' b5 ?_
 refine U.done ?_
 exact St.wa [some 0] (j4 _ g)
theorem Q3A (st:ApiState) (s_1:Int) (post:(List Int)→Prop) (g:Gt st s_1 post):
  Tr Tryz.prog 87 [.agg (Q1 st),.i s_1] [] 0 (fun A H' k=>∃y,post y∧A=(.o 0)∧H'=[(0,.val (.os 1 eI y))]∧k=1):=by
 refine Tr.go Tryz.func87 Tryz.ntmps87 fun _ _ _ _ o=>?_
 unfold Gt at g
 refine C.ss (U.bx ?_)
 refine U.pd 1 T (C.xs (C.seq ?_))
 refine C.jn (fun (x3:Bool)=>[(1,.i s_1),(2,.p 0 0),(19,.b x3)]) (fun x3=>[(0,.box (Q1 st))]) 1 g (fun x3 g=>?_) fun J4 g j4=>?_
 refine C.nx ?_
 refine C.ite rfl g (fun b8 g=>?_) fun b8 g=>?_
 refine C.ss (U.pd 1 T (C.nx (C.ret (C.rt ?_))))
 exact C.g1 [none] T o ⟨[],g,rfl,rfl,rfl⟩
 refine C.skip (C.xt (U.ps 3 T rfl ?_))
 obtain⟨x13,y13,g⟩:=g
 refine U.ix T y13 ?_
 refine U.ps 1 T rfl (U.k (Wo x13 _ g) Q6B (fun x14 g=>?_))
 refine U.bs T eI ([x14]:List Int) ?_
 refine U.pd 1 T (C.nx (C.ret ?_))
 exact C.g1 [some 1] T o ⟨([x14]:List Int),g,rfl,rfl,rfl⟩
 refine U.start (U.ps 3 T rfl ?_)
 refine g.cs (fun b5 g=>?_) fun b5 g=>?_
 refine U.sk' 5 2 false 7 b5 ?_
 refine U.pk b5 ?_
 refine U.ps 1 T rfl (U.sk' 4 9 false 14 rfl ?_)
 refine U.pk rfl ?_
 refine U.done ?_
 exact St.wa [some 0] (j4 _ g)
 refine U.pq 5 2 false 7 b5 T ?_
 refine U.pk' b5 ?_
 refine U.ps 1 T rfl ?_
 refine g.cs (fun b6 g=>?_) fun b6 g=>?_
 refine U.sk' 4 9 false 14 b6 ?_
 refine U.pk b6 ?_
 refine U.done ?_
 exact St.wa [some 0] (j4 _ g)
 refine U.pq 2 9 false 14 b6 T ?_
 refine U.k (Zs st s_1 _ g) en46 (fun x7 g=>?_) (hw:=.take 9 false 14 _ b6 rfl rfl rfl)
 refine U.pq 1 9 false 14 b6 T ?_
 refine U.pk' b6 ?_
 refine U.done ?_
 exact St.wa [some 0] (j4 _ g)
theorem Q2t (st:ApiState) (p:Int) (post:(List Int)→Prop) (g:Ga st p post):
  Tr Tryz.prog 88 [.agg (Q1 st),.i p] [] 0 (fun A H' k=>∃y,post y∧A=(.o 0)∧H'=[(0,.val (.os 1 eI y))]∧k=1):=by
 refine Tr.go Tryz.func88 Tryz.ntmps88 fun _ _ _ _ o=>?_
 unfold Ga at g
 refine C.ss (U.bx ?_)
 refine U.pd 1 T (C.xs (C.seq ?_))
 refine C.jn (fun (x3:Bool)=>[(1,.i p),(2,.p 0 0),(13,.b x3)]) (fun x3=>[(0,.box (Q1 st))]) 1 g (fun x3 g=>?_) fun J4 g j4=>?_
 refine C.nx ?_
 refine C.ite rfl g (fun b6 g=>?_) fun b6 g=>?_
 refine C.ss (U.pd 1 T (C.nx (C.ret (C.rt ?_))))
 exact C.g1 [none] T o ⟨[],g,rfl,rfl,rfl⟩
 refine C.skip (C.xs (D.bq mix 9999 [0] [] (fun hQ hS ws M'=>?_)))
 refine D.pq 3 (zl [0,1,2]) T ?_
 obtain⟨x11,y11,g⟩:=g
 refine D.ix 3 [] T y11 ?_
 refine D.pq 4 (zl [4,6,7,8]) T ?_
 refine D.ix 9 [] T y11 ?_
 refine D.pq 1 [(10,[])] T ?_
 refine D.k 5 (Y1 x11 _ g) Q5V fun x12 g=>?_
 refine D.k 11 (Wo x11 _ g) Q6B fun x13 g=>?_
 refine D.e1 12 rfl (.none rfl) (by exact Eff1.bs T (enc:=eI) (xs:=([x12,x13]:List Int)) rfl rfl rfl rfl rfl rfl rfl rfl rfl rfl (fun _ _=>rfl) rfl rfl) (by kernel_rfl) rfl rfl ?_
 refine D.pq 1 [(13,[])] T ?_
 refine D.done (by kernel_rfl) ?_
 refine C.nx (C.ret ?_)
 exact C.g1 [some 1] T o ⟨([x12,x13]:List Int),g,rfl,rfl,rfl⟩
 refine U.start (U.ps 3 T rfl ?_)
 refine g.cs (fun b5 g=>?_) fun b5 g=>?_
 refine U.sk' 5 2 false 7 b5 ?_
 refine U.pk b5 ?_
 refine U.done ?_
 exact St.wa [some 0] (j4 _ g)
 refine U.pq 5 2 false 7 b5 T ?_
 refine U.pk' b5 ?_
 refine U.done ?_
 exact St.wa [some 0] (j4 _ g)
theorem Q0t (st:ApiState) (post:(List Int)→Prop) (g:GO st post):
  Tr Tryz.prog 49 [.agg (Q1 st)] [] 0 (fun A H' k=>∃y,post y∧A=(.o 0)∧H'=[(0,.val (.os 1 eI y))]∧k=1):=by
 refine Tr.go Tryz.func49 Tryz.ntmps49 fun _ _ _ _ o=>?_
 unfold GO at g
 refine C.ss (U.bx ?_)
 refine U.pd 1 T (C.xt ?_)
 refine U.pd 1 T (C.xs (C.ss ?_))
 refine U.pd 4 T (C.nx ?_)
 refine C.jn (fun (x7:List Int)=>[(1,.p 0 0),(3,.o 1)]) (fun x7=>[(0,.box (Q1 st)),(1,.val (.os 1 eI x7))]) 2 g (fun x7 g=>?_) fun J8 g j8=>?_
 refine C.xs (C.ss (U.pd 4 T (C.nx ?_)))
 refine C.jn (fun (x24:List Int)=>[(1,.p 0 0),(3,.o 1)]) (fun x24=>[(0,.box (Q1 st)),(1,.val (.os 1 eI x24))]) 2 g (fun x24 g=>?_) fun J25 g j25=>?_
 refine C.xs (C.ss (U.pd 4 T (C.nx ?_)))
 refine C.jn (fun (x41:List Int)=>[(3,.o 0)]) (fun x41=>[(0,.val (.os 1 eI x41))]) 1 g (fun x41 g=>?_) fun J42 g j42=>?_
 refine C.xt (U.pd 2 T (C.nx (C.ret ?_)))
 exact C.g1 [some 0] T o ⟨x41,g,rfl,rfl,rfl⟩
 refine C.block (St.wk (C.loop (fun (s43:List Int×Int)=>[(1,.p 0 0),(3,.o 1),(33,.i (st.People.length:Int)),(34,.i s43.2)]) (fun s43=>[(0,.box (Q1 st)),(1,.val (.os 1 eI s43.1))]) g (fun s43 Y44 g=>?_)) (Wk.a (idR 2)))
 refine C.ss (U.pd 1 T (C.xs ?_))
 refine C.ite rfl g (fun b47 g=>?_) fun b47 g=>?_
 refine C.skip (C.xs (C.block (C.ss (U.pd 2 T (C.nx (U.start ?_))))))
 refine U.ps 3 T rfl (U.k (Q2t st s43.2 _ g) en88 (fun x52 g=>?_))
 obtain⟨y53,g⟩:=g
 refine U.ap T y53 ?_
 refine U.pd 1 T (C.bnx (C.nx (U.start ?_)))
 refine U.pd 2 T (C.nx ?_)
 exact St.wk (C.next g) (Wk.a [some 0,some 3])
 refine C.exit (C.ex (C.ex (C.bex ?_)))
 exact St.wa [some 1] (j42 _ g)
 refine C.block (St.wk (C.loop (fun (s26:List Int×Int)=>[(1,.p 0 0),(3,.o 1),(21,.i (st.Shelves.length:Int)),(22,.i s26.2)]) (fun s26=>[(0,.box (Q1 st)),(1,.val (.os 1 eI s26.1))]) g (fun s26 Y27 g=>?_)) (Wk.a (idR 2)))
 refine C.ss (U.pd 1 T (C.xs ?_))
 refine C.ite rfl g (fun b30 g=>?_) fun b30 g=>?_
 refine C.skip (C.xs (C.block (C.ss (U.pd 2 T (C.nx (U.start ?_))))))
 refine U.ps 3 T rfl (U.k (Q3A st s26.2 _ g) en87 (fun x35 g=>?_))
 obtain⟨y36,g⟩:=g
 refine U.ap T y36 ?_
 refine U.pd 1 T (C.bnx (C.nx (U.start ?_)))
 refine U.pd 2 T (C.nx ?_)
 exact St.wk (C.next g) (Wk.a [some 0,some 3])
 refine C.exit (C.ex (C.ex (C.bex ?_)))
 exact St.wa (idR 2) (j25 _ g)
 refine C.block (St.wk (C.loop (fun (s9:List Int×Int)=>[(1,.p 0 0),(3,.o 1),(9,.i (st.Robots.length:Int)),(10,.i s9.2)]) (fun s9=>[(0,.box (Q1 st)),(1,.val (.os 1 eI s9.1))]) g (fun s9 Y10 g=>?_)) (Wk.mk' [some 0,none] rfl rfl ⟨⟨_,rfl,(.eq rfl)⟩,⟨_,rfl,(.nilO _ _ ⟨rfl,rfl⟩ rfl)⟩,ChkG.eqs rfl⟩ ⟨bX,⟨_,rfl,.nil _ _⟩,trivial⟩ rfl))
 refine C.ss (U.pd 1 T (C.xs ?_))
 refine C.ite rfl g (fun b13 g=>?_) fun b13 g=>?_
 refine C.skip (C.xs (C.block (C.ss (U.pd 2 T (C.nx (U.start ?_))))))
 refine U.ps 3 T rfl (U.k (Q3d st s9.2 _ g) en86 (fun x18 g=>?_))
 obtain⟨y19,g⟩:=g
 refine U.ap T y19 ?_
 refine U.pd 1 T (C.bnx (C.nx (U.start ?_)))
 refine U.pd 2 T (C.nx ?_)
 exact St.wk (C.next g) (Wk.a [some 0,some 3])
 refine C.exit (C.ex (C.ex (C.bex ?_)))
 exact St.wa (idR 2) (j8 _ g)
theorem Yq (s_1:List Int) (post:(List Int)→Prop) (g:Ki s_1 post):
  Tr Tryz.prog 85 [.sl 1 eI s_1] [] 0 (fun A H' k=>∃y,post y∧A=(.fn (.func 124) [] [.p 0 0])∧H'=[(0,.box [.sl 1 eI y])]∧k=1):=by
 refine Tr.go Tryz.func85 Tryz.ntmps85 fun _ _ _ _ o=>?_
 unfold Ki at g
 refine C.ss (U.bx ?_)
 refine U.pd 1 T (C.xt ?_)
 refine U.pd 2 T (C.nx (C.ret ?_))
 exact C.g1 [some 0] T o ⟨(s_1),g,rfl,rfl,rfl⟩
theorem KD (seq_c0:List Int) (s_1:List Int) (post:(List Int)→Prop) (g:Qh seq_c0 s_1 post):
  Tr Tryz.prog 154 [.o 0,.fn (.func 124) [] [.rp [.sl 1 eI seq_c0]]] [(0,.val (.os 1 eI s_1))] 1 (fun A H' k=>∃y,post y∧A=(.o 1)∧H'=[(1,.val (.os 1 eI y))]∧k=2):=by
 refine Tr.go Tryz.func154 Tryz.ntmps154 fun _ _ _ _ o=>?_
 unfold Qh at g
 refine C.ss (U.bx ?_)
 refine U.pd 1 T (C.xs (C.ss ?_))
 refine U.pd 1 T (C.nx (C.block ?_))
 obtain⟨y8,g⟩:=g
 refine St.wk (C.range (Γ0:=[(2,.p 1 0),(6,.fn (.func 124) [] [.rp [.sl 1 eI seq_c0]])]) (Γ1:=fun (x5:Int)=>[(5,.i x5),(7,.i x5),(2,.p 1 0),(6,.fn (.func 124) [] [.rp [.sl 1 eI seq_c0]])]) (Hf:=fun (s6:List Int)=>[(1,.box [.o 2]),(2,.val (.os 1 eI s6))]) 2 g (Qa2 seq_c0 y8) Q9L rfl rfl rfl rfl rfl (fun _=>rfl) rfl rfl (fun _=>rfl) (fun x5 s6 Y7 g w0 ok M β l=>?_) (fun s12 g=>?_)) (Wk.a [some 0,some 1,some 0])
 refine CI.block ?_
 refine UI.start (by kernel_rfl) (by repeat (first | exact Yy.rnd | refine Yy.th ?_ | refine Yy.blk ?_)) ?_
 refine U.ps 2 T rfl (U.bs T eI ([x5]:List Int) ?_)
 obtain⟨y11,g⟩:=g
 refine U.ap T y11 ?_
 refine U.st T ?_
 refine U.done (C.bnx ?_)
 exact St.wk (CI.next g) (Wk.mk' [some 0,some 1,some 4] rfl rfl trivial ⟨bX,vL,trivial⟩ rfl)
 refine C.bnx (C.xt (U.pd 2 T (C.nx (C.ret ?_))))
 exact C.g1 [some 0,some 2] T o ⟨s12,g,rfl,rfl,rfl⟩
theorem Xm (seq_c0:List Int) (post:(List Int)→Prop) (g:Qr seq_c0 post):
  Tr Tryz.prog 123 [.fn (.func 124) [] [.rp [.sl 1 eI seq_c0]]] [] 0 (fun A H' k=>∃y,post y∧A=(.o 0)∧H'=[(0,.val (.os 1 eI y))]∧k=1):=by
 refine Tr.go Tryz.func123 Tryz.ntmps123 fun _ _ _ _ o=>?_
 unfold Qr at g
 refine C.ss (U.pd 1 T (C.xt ?_))
 refine U.ps 1 T rfl (U.c [none] (KD seq_c0 [] _ g) Q9G (fun x5 g=>?_))
 refine U.pd 1 T (C.nx (C.ret ?_))
 exact C.g1 [some 1] T o ⟨x5,g,rfl,rfl,rfl⟩
def Qaw:Go.Shelf.Ren:=⟨fun | 125=>129 | 128=>164 | 129=>165 | 189=>92 | 215=>186 | 216=>161 | 257=>128 | 294=>155 | 295=>156 | 296=>157 | 297=>158 | 298=>159 | 299=>160 | 300=>162 | 301=>163 | 328=>181 | 329=>182 | 330=>183 | 331=>184 | 332=>185 | 343=>191 | n=>n,fun | 0=>0 | 3=>3 | 4=>4 | 5=>5 | 9=>9 | 28=>22 | 46=>167 | 51=>192 | 53=>194 | 131=>54 | 182=>184 | 183=>185 | 218=>208 | 222=>212 | 228=>216 | 229=>217 | n=>n,fun n=>n⟩
theorem Qa8:Go.Proofs.Lays.n189 Tryz.prog Qaw where
 mixed:=by kernel_rfl
 f125:=Tryz.func129.trans (congrArg some (by kernel_rfl))
 f128:=Tryz.func164.trans (congrArg some (by kernel_rfl))
 f129:=Tryz.func165.trans (congrArg some (by kernel_rfl))
 f189:=Tryz.func92.trans (congrArg some (by kernel_rfl))
 f215:=Tryz.func186.trans (congrArg some (by kernel_rfl))
 f216:=Tryz.func161.trans (congrArg some (by kernel_rfl))
 f257:=Tryz.func128.trans (congrArg some (by kernel_rfl))
 f294:=Tryz.func155.trans (congrArg some (by kernel_rfl))
 f295:=Tryz.func156.trans (congrArg some (by kernel_rfl))
 f296:=Tryz.func157.trans (congrArg some (by kernel_rfl))
 f297:=Tryz.func158.trans (congrArg some (by kernel_rfl))
 f298:=Tryz.func159.trans (congrArg some (by kernel_rfl))
 f299:=Tryz.func160.trans (congrArg some (by kernel_rfl))
 f300:=Tryz.func162.trans (congrArg some (by kernel_rfl))
 f301:=Tryz.func163.trans (congrArg some (by kernel_rfl))
 f328:=Tryz.func181.trans (congrArg some (by kernel_rfl))
 f329:=Tryz.func182.trans (congrArg some (by kernel_rfl))
 f330:=Tryz.func183.trans (congrArg some (by kernel_rfl))
 f331:=Tryz.func184.trans (congrArg some (by kernel_rfl))
 f332:=Tryz.func185.trans (congrArg some (by kernel_rfl))
 f343:=Tryz.func191.trans (congrArg some (by kernel_rfl))
 t0:=Tryz.underlying0
 a0:=Tryz.isAgg0
 z0:=Tryz.sizeOf0
 v0:=Tryz.zeroValue0
 t3:=Tryz.underlying3
 a3:=Tryz.isAgg3
 z3:=Tryz.sizeOf3
 v3:=Tryz.zeroValue3
 t4:=Tryz.underlying4
 a4:=Tryz.isAgg4
 z4:=Tryz.sizeOf4
 v4:=Tryz.zeroValue4
 t5:=Tryz.underlying5
 a5:=Tryz.isAgg5
 z5:=Tryz.sizeOf5
 v5:=Tryz.zeroValue5
 t9:=Tryz.underlying9
 a9:=Tryz.isAgg9
 z9:=Tryz.sizeOf9
 v9:=Tryz.zeroValue9
 t28:=Tryz.underlying22
 a28:=Tryz.isAgg22
 z28:=Tryz.sizeOf22
 v28:=Tryz.zeroValue22
 t46:=Tryz.underlying167
 a46:=Tryz.isAgg167
 z46:=Tryz.sizeOf167
 v46:=Tryz.zeroValue167
 t51:=Tryz.underlying192
 a51:=Tryz.isAgg192
 z51:=Tryz.sizeOf192
 v51:=Tryz.zeroValue192
 t53:=Tryz.underlying194
 a53:=Tryz.isAgg194
 z53:=Tryz.sizeOf194
 v53:=Tryz.zeroValue194
 t131:=Tryz.underlying54
 a131:=Tryz.isAgg54
 z131:=Tryz.sizeOf54
 v131:=Tryz.zeroValue54
 t182:=Tryz.underlying184
 a182:=Tryz.isAgg184
 z182:=Tryz.sizeOf184
 v182:=Tryz.zeroValue184
 t183:=Tryz.underlying185
 a183:=Tryz.isAgg185
 z183:=Tryz.sizeOf185
 v183:=Tryz.zeroValue185
 t218:=Tryz.underlying208
 a218:=Tryz.isAgg208
 z218:=Tryz.sizeOf208
 v218:=Tryz.zeroValue208
 t222:=Tryz.underlying212
 a222:=Tryz.isAgg212
 z222:=Tryz.sizeOf212
 v222:=Tryz.zeroValue212
 t228:=Tryz.underlying216
 a228:=Tryz.isAgg216
 z228:=Tryz.sizeOf216
 v228:=Tryz.zeroValue216
 t229:=Tryz.underlying217
 a229:=Tryz.isAgg217
 z229:=Tryz.sizeOf217
 v229:=Tryz.zeroValue217
theorem Ke (p0:List Int) (post:List Int→Prop) (g:Qg p0 post):
  Tr Tryz.prog 92 [.o 0] [(0,.val (.os 1 eI p0))] 1 (fun A H' k=>∃y,post y∧A=(.tup [])∧H'=[(0,.val (.os 1 eI y))]∧k=1):=by
 unfold Qg at g
 exact Tr.sortInt Qa8 p0 g.1 g.2
theorem Xu (seq_c0:List Int) (post:(List Int)→Prop) (g:Qt seq_c0 post):
  Tr Tryz.prog 84 [.fn (.func 124) [] [.rp [.sl 1 eI seq_c0]]] [] 0 (fun A H' k=>∃y,post y∧A=(.o 0)∧H'=[(0,.val (.os 1 eI y))]∧k=1):=by
 refine Tr.go Tryz.func84 Tryz.ntmps84 fun _ _ _ _ o=>?_
 unfold Qt at g
 refine C.ss (U.pd 1 T (C.xt ?_))
 refine U.ps 1 T rfl (U.k (Xm seq_c0 _ g) Q9P (fun x5 g=>?_))
 refine U.pd 1 T (C.xt ?_)
 refine U.ps 1 T rfl (U.c [some 0] (Ke x5 _ g) en92 (fun x8 g=>?_))
 refine U.done (C.xt (U.pd 2 T (C.nx (C.ret ?_))))
 exact C.g1 [some 0] T o ⟨x8,g,rfl,rfl,rfl⟩
theorem Q0J (slots:List Int) (post:(Int×Bool)→Prop) (g:Xe slots post):
  Tr Tryz.prog 48 [.sl 1 eI slots] [] 0 (fun A H' k=>∃y,post y∧A=(.tup [.i y.1,.b y.2])∧H'=[]∧k=0):=by
 refine Tr.go Tryz.func48 Tryz.ntmps48 fun _ _ _ _ o=>?_
 unfold Xe at g
 refine C.ss (U.pd 2 T (C.xt ?_))
 refine U.ps 1 T rfl (U.e rfl (.none rfl) (by exact Eff.c [] (v:=false) (Yq slots _ g) en85 rfl rfl rfl (.eq rfl) trivial rfl rfl rfl rfl rfl rfl (fun h=>by cases h) (.inr ⟨rfl,rfl⟩) (fun _=>rfl) (fun _=>rfl) rfl) (fun x5' g=>?_))
 obtain⟨x5⟩:=x5'
 refine U.k (Xu x5 _ g) en84 fun x6 g=>?_
 refine U.pd 1 T (C.xs (C.ss ?_))
 refine U.pd 1 T (C.nx ?_)
 refine C.jn (fun (x9:Unit)=>[]) (fun x9=>[]) 0 g (fun x9 g=>?_) fun J10 g j10=>?_
 refine C.xt (U.pd 2 T (C.nx (C.ret ?_)))
 exact C.f9 T o ⟨(0,false),g,rfl,rfl,rfl⟩
 refine C.block (St.wk (C.loop (fun (s11:Int)=>[(4,.o 0),(5,.i s11)]) (fun s11=>[(0,.val (.os 1 eI x6))]) g (fun s11 Y12 g=>?_)) (Wk.a [some 1]))
 refine C.seq (C.ss (U.pd 4 T (C.nx ?_)))
 refine C.ite rfl g (fun b15 g=>?_) fun b15 g=>?_
 refine C.skip (C.xs (C.block (C.seq (D.bq mix 9999 [0] [] (fun hQ hS ws M'=>?_)))))
 refine D.pq 2 (zl [0,1]) T ?_
 obtain⟨x18,y18,g⟩:=g
 refine D.q 2 [] hQ hS rfl (.none rfl) rfl rfl (by exact Rd.io T rfl rfl rfl rfl rfl rfl rfl y18) rfl (by kernel_rfl) ?_
 refine D.q 3 [] hQ hS rfl (.none rfl) rfl rfl (by exact Rd.le T rfl rfl rfl (Qe y18).2.2 rfl rfl rfl) rfl (by kernel_rfl) ?_
 refine D.pq 3 (zl [4,5,6]) T ?_
 obtain⟨x19,y19,g⟩:=g
 refine D.q 7 [] hQ hS rfl (.none rfl) rfl rfl (by exact Rd.io T rfl rfl rfl rfl rfl rfl rfl y19) rfl (by kernel_rfl) ?_
 refine D.q 8 [] hQ hS rfl (.none rfl) rfl rfl (by exact Rd.le T rfl rfl rfl (Qe y19).2.2 rfl rfl rfl) rfl (by kernel_rfl) ?_
 refine D.pq 1 [(9,[])] T ?_
 refine D.done (by kernel_rfl) ?_
 refine C.nx ?_
 refine C.ite rfl g (fun b20 g=>?_) fun b20 g=>?_
 refine C.ss (U.ps 2 T rfl (U.r rfl (.none rfl) rfl rfl (by exact Rd.io T rfl rfl rfl rfl rfl rfl rfl y18) ?_))
 refine U.r rfl (.none rfl) rfl rfl (by exact Rd.le T rfl rfl rfl (Qe y18).2.2 rfl rfl rfl) ?_
 refine U.pd 2 T (C.nx (C.ret (C.brt (C.rt (C.rt (C.brt (C.rt ?_)))))))
 exact C.f9 T o ⟨(x18,true),g,rfl,rfl,rfl⟩
 refine C.skip (C.bnx (C.nx (U.start (U.pd 3 T (C.nx ?_)))))
 exact St.wk (C.next g) (Wk.a [some 0])
 refine C.exit (C.ex (C.ex (C.bex ?_)))
 exact St.wk (j10 _ g) (Wk.mk' [] rfl rfl trivial trivial rfl)
theorem Q0L (s_1:ApiSite) (st:ApiState) (post:Bool→Prop) (g:Xv s_1 st post):
  Tr Tryz.prog 12 [.agg (Q6 s_1),.agg (Q1 st)] [] 0 (pB post):=by
 refine Tr.go Tryz.func12 Tryz.ntmps12 fun _ _ _ _ o=>?_
 unfold Xv at g
 refine C.ss (U.bx ?_)
 refine U.bx ?_
 refine U.pd 1 T (C.xs (C.seq ?_))
 refine C.jn (fun (x3:Bool)=>[(2,.p 0 0),(3,.p 1 0),(51,.b x3)]) (fun x3=>[(0,.box (Q6 s_1)),(1,.box (Q1 st))]) 2 g (fun x3 g=>?_) fun J4 g j4=>?_
 refine C.nx ?_
 refine C.ite rfl g (fun b13 g=>?_) fun b13 g=>?_
 refine C.ss (U.pd 1 T (C.nx (C.ret (C.rt ?_))))
 exact C.f1 T o (pBi g)
 refine C.skip (C.xs (C.ss (U.pd 4 T (C.nx ?_))))
 refine C.jn (fun (x18:Unit)=>[(2,.p 0 0),(3,.p 1 0)]) (fun x18=>[(0,.box (Q6 s_1)),(1,.box (Q1 st))]) 2 g (fun x18 g=>?_) fun J19 g j19=>?_
 refine C.xs (C.ss (U.pd 4 T (C.nx ?_)))
 refine C.jn (fun (x40:Unit)=>[(3,.p 0 0)]) (fun x40=>[(0,.box (Q1 st))]) 1 g (fun x40 g=>?_) fun J41 g j41=>?_
 refine C.xt (U.ps 1 T rfl (U.k (Q0t st _ g) en49 (fun x60 g=>?_)))
 refine U.k (Q0J x60 _ g) en48 fun x61 g=>?_
 refine U.pd 5 T (C.xt ?_)
 refine U.pd 3 T (C.nx (C.ret ?_))
 exact C.f1 T o (pBi g)
 refine C.block (St.wk (C.loop (fun (s42:Int)=>[(2,.p 0 0),(3,.p 1 0),(74,.sl 1 eI st.People),(75,.i (st.People.length:Int)),(76,.i s42)]) (fun s42=>[(0,.box (Q6 s_1)),(1,.box (Q1 st))]) g (fun s42 Y43 g=>?_)) (Wk.a (idR 2)))
 refine C.ss (U.pd 1 T (C.xs ?_))
 refine C.ite rfl g (fun b46 g=>?_) fun b46 g=>?_
 refine C.skip (C.xs (C.block (C.ss ?_)))
 obtain⟨x49,y49,g⟩:=g
 refine U.ix T y49 ?_
 refine U.pd 2 T (C.xt ?_)
 refine U.ps 3 T rfl (U.bs T eI ([4,5]:List Int) ?_)
 refine U.k (Q1t s_1.Floor x49 ([4,5]:List Int) _ g) en47 fun x52 g=>?_
 refine U.pd 1 T (C.nx ?_)
 refine C.ite rfl g (fun b53 g=>?_) fun b53 g=>?_
 refine C.ss (U.pd 1 T (C.nx (C.ret (C.brt (C.rt (C.rt (C.brt (C.rt ?_))))))))
 exact C.f1 T o (pBi g)
 refine C.skip (C.bnx (C.nx (U.start (U.pd 2 T (C.nx ?_)))))
 exact St.wk (C.next g) (Wk.a (idR 2))
 refine C.exit (C.ex (C.ex (C.bex ?_)))
 exact St.wa [some 1] (j41 _ g)
 refine C.block (St.wk (C.loop (fun (s20:Int)=>[(2,.p 0 0),(3,.p 1 0),(53,.sl 1 eI st.Shelves),(54,.i (st.Shelves.length:Int)),(55,.i s20)]) (fun s20=>[(0,.box (Q6 s_1)),(1,.box (Q1 st))]) g (fun s20 Y21 g=>?_)) (Wk.a (idR 2)))
 refine C.ss (U.pd 1 T (C.xs ?_))
 refine C.ite rfl g (fun b24 g=>?_) fun b24 g=>?_
 refine C.skip (C.xs (C.block (C.ss (U.ps 1 T rfl ?_))))
 obtain⟨x27,y27,g⟩:=g
 refine U.ix T y27 ?_
 refine U.pd 3 T (C.xs ?_)
 refine C.jn (fun (x28:Bool)=>[(2,.p 0 0),(3,.p 1 0),(53,.sl 1 eI st.Shelves),(54,.i (st.Shelves.length:Int)),(55,.i s20),(71,.b x28)]) (fun x28=>[(0,.box (Q6 s_1)),(1,.box (Q1 st))]) 2 g (fun x28 g=>?_) fun J29 g j29=>?_
 refine C.nx ?_
 refine C.ite rfl g (fun b33 g=>?_) fun b33 g=>?_
 refine C.ss (U.pd 1 T (C.nx (C.ret (C.brt (C.rt (C.rt (C.brt (C.rt ?_))))))))
 exact C.f1 T o (pBi g)
 refine C.skip (C.bnx (C.nx (U.start (U.pd 2 T (C.nx ?_)))))
 exact St.wk (C.next g) (Wk.a (idR 2))
 refine U.start (U.ps 2 T rfl (U.k (Zs st s20 _ g) en46 (fun x30 g=>?_)))
 refine U.ps 2 T rfl ?_
 refine g.cs (fun b31 g=>?_) fun b31 g=>?_
 refine U.pq 3 4 true 64 b31 T ?_
 refine U.e1 rfl (.tk 4 true 64 b31) (by exact Eff1.bs T (enc:=eI) (xs:=([1,2]:List Int)) rfl rfl rfl rfl rfl rfl rfl rfl rfl rfl (fun _ _=>rfl) rfl rfl) ?_
 refine U.k (Q1t s_1.Floor x27 ([1,2]:List Int) _ g) en47 (fun x32 g=>?_) (hw:=.take 4 true 64 _ b31 rfl rfl rfl)
 refine U.pq 1 4 true 64 b31 T ?_
 refine U.pk b31 ?_
 refine U.done ?_
 exact St.wa (idR 2) (j29 _ g)
 refine U.sk' 6 4 true 64 b31 ?_
 refine U.pk' b31 ?_
 refine U.done ?_
 exact St.wa (idR 2) (j29 _ g)
 refine C.exit (C.ex (C.ex (C.bex ?_)))
 exact St.wa (idR 2) (j19 _ g)
 refine U.start (U.ps 2 T rfl (U.k (G9 st.Tick 0 20000 _ g) en43 (fun x5 g=>?_)))
 refine U.ps 2 T rfl ?_
 refine g.cs (fun b6 g=>?_) fun b6 g=>?_
 refine U.pq 7 4 false 15 (ntF b6) T ?_
 refine U.pk' (ntF b6) ?_
 refine U.ps 1 T rfl ?_
 refine g.cs (fun b7 g=>?_) fun b7 g=>?_
 refine U.sk' 7 13 false 24 b7 ?_
 refine U.pk b7 ?_
 refine U.ps 1 T rfl (U.sk' 4 22 false 33 rfl ?_)
 refine U.pk rfl ?_
 refine U.ps 1 T rfl (U.sk' 4 28 false 39 rfl ?_)
 refine U.pk rfl ?_
 refine U.ps 1 T rfl (U.sk' 5 34 false 45 rfl ?_)
 refine U.pk rfl ?_
 refine U.done ?_
 exact St.wa (idR 2) (j4 _ g)
 refine U.pq 7 13 false 24 b7 T ?_
 refine U.pk' b7 ?_
 refine U.ps 1 T rfl ?_
 refine g.cs (fun b8 g=>?_) fun b8 g=>?_
 refine U.sk' 4 22 false 33 b8 ?_
 refine U.pk b8 ?_
 refine U.ps 1 T rfl (U.sk' 4 28 false 39 rfl ?_)
 refine U.pk rfl ?_
 refine U.ps 1 T rfl (U.sk' 5 34 false 45 rfl ?_)
 refine U.pk rfl ?_
 refine U.done ?_
 exact St.wa (idR 2) (j4 _ g)
 refine U.pq 4 22 false 33 b8 T ?_
 refine U.pk' b8 ?_
 refine U.ps 1 T rfl ?_
 refine g.cs (fun b9 g=>?_) fun b9 g=>?_
 refine U.sk' 4 28 false 39 b9 ?_
 refine U.pk b9 ?_
 refine U.ps 1 T rfl (U.sk' 5 34 false 45 rfl ?_)
 refine U.pk rfl ?_
 refine U.done ?_
 exact St.wa (idR 2) (j4 _ g)
 refine U.pq 2 28 false 39 b9 T ?_
 refine U.k (Q38 s_1 st _ g) en44 (fun x10 g=>?_) (hw:=.take 28 false 39 _ b9 rfl rfl rfl)
 refine U.pq 1 28 false 39 b9 T ?_
 refine U.pk' b9 ?_
 refine U.ps 1 T rfl ?_
 refine g.cs (fun b11 g=>?_) fun b11 g=>?_
 refine U.pq 3 34 false 45 (ntF b11) T ?_
 refine U.k (Q4h s_1.Floor st _ g) en45 (fun x12 g=>?_) (hw:=.take 34 false 45 _ (ntF b11) rfl rfl rfl)
 refine U.pq 1 34 false 45 (ntF b11) T ?_
 refine U.pk' (ntF b11) ?_
 refine U.done ?_
 exact St.wa (idR 2) (j4 _ g)
 refine U.sk' 5 34 false 45 (ntT b11) ?_
 refine U.pk (ntT b11) ?_
 refine U.done ?_
 exact St.wa (idR 2) (j4 _ g)
 refine U.sk' 7 4 false 15 (ntT b6) ?_
 refine U.pk (ntT b6) ?_
 refine U.ps 1 T rfl (U.sk' 7 13 false 24 rfl ?_)
 refine U.pk rfl ?_
 refine U.ps 1 T rfl (U.sk' 4 22 false 33 rfl ?_)
 refine U.pk rfl ?_
 refine U.ps 1 T rfl (U.sk' 4 28 false 39 rfl ?_)
 refine U.pk rfl ?_
 refine U.ps 1 T rfl (U.sk' 5 34 false 45 rfl ?_)
 refine U.pk rfl ?_
 refine U.done ?_
 exact St.wa (idR 2) (j4 _ g)
theorem Kd (s_1:List Int) (post:(List Int)→Prop) (g:QR s_1 post):
  Tr Tryz.prog 51 [.sl 1 eI s_1] [] 0 (fun A H' k=>∃y,post y∧A=(.o 0)∧H'=[(0,.val (.os 1 eI y))]∧k=1):=by
 refine Tr.go Tryz.func51 Tryz.ntmps51 fun _ _ _ _ o=>?_
 unfold QR at g
 refine C.ss (U.pd 1 T (C.xs (C.ss ?_)))
 refine U.ps 1 T rfl (U.e rfl (.none rfl) (by exact Eff.isnil T true rfl rfl rfl rfl rfl rfl (.inl ⟨.sl,rfl⟩) rfl) (fun b5' hhb5=>?_))
 obtain⟨b5⟩:=b5'
 replace g:=g b5 hhb5
 refine U.done (C.nx ?_)
 refine C.ite rfl g (fun b6 g=>?_) fun b6 g=>?_
 refine C.ss (U.pd 1 T (C.nx (C.ret (C.rt ?_))))
 exact C.g1 [none] T o ⟨[],g,rfl,rfl,rfl⟩
 refine C.skip (C.xt (U.bs T eI ([]:List Int) ?_))
 refine U.ps 1 T rfl ?_
 obtain⟨y11,g⟩:=g
 refine U.ap T y11 ?_
 refine U.pd 1 T (C.nx (C.ret ?_))
 exact C.g1 [some 1] T o ⟨(([]:List Int)++s_1),g,rfl,rfl,rfl⟩
theorem Q19 (c:Int) (post:Bool→Prop) (g:GD c post):
  Tr Tryz.prog 91 [.i c] [] 0 (pB post):=by
 refine Tr.go Tryz.func91 Tryz.ntmps91 fun _ _ _ _ o=>?_
 unfold GD at g
 refine C.ss (U.pd 1 T (C.xs ?_))
 refine C.jn (fun (x3:Bool)=>[(2,.b x3)]) (fun x3=>[]) 0 g (fun x3 g=>?_) fun J4 g j4=>?_
 refine C.nx (C.ret ?_)
 exact C.f1 T o (pBi g)
 refine U.start (U.ps 3 T rfl ?_)
 refine g.cs (fun b5 g=>?_) fun b5 g=>?_
 refine U.pq 2 2 true 5 b5 T ?_
 refine U.pk b5 ?_
 refine U.pd 1 T ?_
 exact St.wn (j4 _ g)
 refine U.sk' 2 2 true 5 b5 ?_
 refine U.pk' b5 ?_
 refine U.pd 1 T ?_
 exact St.wn (j4 _ g)
theorem Q02 (c:Int) (post:Bool→Prop) (g:Xd c post):
  Tr Tryz.prog 90 [.i c] [] 0 (pB post):=by
 refine Tr.go Tryz.func90 Tryz.ntmps90 fun _ _ _ _ o=>?_
 unfold Xd at g
 refine C.ss (U.pd 1 T (C.xt ?_))
 refine U.ps 1 T rfl (U.k (Q19 c _ g) en91 (fun x5 g=>?_))
 refine U.pd 2 T (C.nx (C.ret ?_))
 exact C.f1 T o (pBi g)
theorem G5 (s_1:List Int) (post:Int→Prop) (g:QY s_1 post):
  Tr Tryz.prog 94 [.sl 1 eI s_1,.fn (.func 90) [] []] [] 0 (pI post):=by
 refine Tr.go Tryz.func94 Tryz.ntmps94 fun _ _ _ _ o=>?_
 unfold QY at g
 refine C.ss (U.pd 1 T (C.xs (C.ss ?_)))
 refine U.pd 3 T (C.nx ?_)
 refine C.jn (fun (x5:Unit)=>[]) (fun x5=>[]) 0 g (fun x5 g=>?_) fun J6 g j6=>?_
 refine C.xt (U.pd 1 T (C.nx (C.ret ?_)))
 exact C.f1 T o (pIi g)
 refine C.block (St.wk (C.loop (fun (s7:Int)=>[(0,.sl 1 eI s_1),(1,.fn (.func 90) [] []),(7,.i (s_1.length:Int)),(8,.i s7)]) (fun s7=>[]) g (fun s7 Y8 g=>?_)) (Wk.e))
 refine C.ss (U.pd 1 T (C.xs ?_))
 refine C.ite rfl g (fun b11 g=>?_) fun b11 g=>?_
 refine C.skip (C.xs (C.block (C.ss (U.pd 2 T (C.xt ?_)))))
 refine U.ps 3 T rfl ?_
 obtain⟨x16,y16,g⟩:=g
 refine U.ix T y16 ?_
 refine U.ps 1 T rfl (U.k (Q02 x16 _ g) en90 (fun x17 g=>?_))
 refine U.done (C.nx ?_)
 refine C.ite rfl g (fun b18 g=>?_) fun b18 g=>?_
 refine C.ss (U.pd 2 T (C.nx (C.ret (C.brt (C.rt (C.rt (C.brt (C.rt ?_))))))))
 exact C.f1 T o (pIi g)
 refine C.skip (C.bnx (C.nx (U.start (U.pd 2 T (C.nx ?_)))))
 exact St.wk (C.next g) (Wk.e)
 refine C.exit (C.ex (C.ex (C.bex ?_)))
 exact St.wk (j6 _ g) (Wk.mk' [] rfl rfl trivial trivial rfl)
theorem Xz (s_1:List Int) (post:(List Int)→Prop) (g:QJ s_1 post):
  Tr Tryz.prog 89 [.o 0,.fn (.func 90) [] []] [(0,.val (.os 1 eI s_1))] 1 (fun A H' k=>∃y,post y∧A=(.o 1)∧H'=[(1,.val (.os 1 eI y))]∧k=2):=by
 refine Tr.go Tryz.func89 Tryz.ntmps89 fun _ _ _ _ o=>?_
 unfold QJ at g
 refine C.ss (U.pd 1 T (C.xt ?_))
 refine U.ps 2 T rfl (U.k (G5 s_1 _ g) en94 (fun x5 g=>?_))
 refine U.pd 1 T (C.xs (C.ss ?_))
 refine U.pd 2 T (C.nx ?_)
 refine C.ite rfl g (fun b8 g=>?_) fun b8 g=>?_
 refine C.ss (U.pd 2 T (C.nx (C.ret (C.rt ?_))))
 exact C.g1 [some 0,some 0] T o ⟨s_1,g,rfl,rfl,rfl⟩
 refine C.skip (C.xs (C.ss (U.pd 3 T (C.nx ?_))))
 refine C.jn (fun (x13:List Int×Int)=>[(0,.o 0),(5,.i x13.2)]) (fun x13=>[(0,.val (.os 1 eI x13.1))]) 1 g (fun x13 g=>?_) fun J14 g j14=>?_
 refine C.xt (U.ps 2 T rfl ?_)
 obtain⟨y38,g⟩:=g
 refine U.r rfl (.none rfl) rfl rfl (by exact Rd.vw T rfl rfl rfl rfl rfl rfl (.some _ rfl) (.none _) y38) ?_
 obtain⟨y39,g⟩:=g
 refine U.e1 rfl (.none rfl) (by exact Eff1.clv T (z0:=0) rfl rfl rfl rfl rfl rfl rfl (fun _=>rfl) rfl y39) ?_
 refine U.done (C.xt (U.ps 2 T rfl ?_))
 obtain⟨y42,g⟩:=g
 refine U.e1 rfl (.none rfl) (by exact Eff1.sw T rfl rfl rfl rfl rfl rfl rfl rfl (.none _) (.some _ rfl) y42) ?_
 refine U.pd 1 T (C.nx (C.ret ?_))
 exact C.g1 (idR 2) T o ⟨(sub (x13.1.take (Int.toNat x13.2)++(List.replicate (Int.toNat ((x13.1.length:Int)-x13.2)) 0++x13.1.drop ((Int.toNat x13.2)+(Int.toNat ((x13.1.length:Int)-x13.2))))) 0 x13.2),g,rfl,rfl,rfl⟩
 refine C.block (St.wk (C.loop (fun (s15:List Int×Int×Int)=>[(0,.o 0),(1,.fn (.func 90) [] []),(5,.i s15.2.1),(6,.i s15.2.2)]) (fun s15=>[(0,.val (.os 1 eI s15.1))]) g (fun s15 Y16 g=>?_)) (Wk.a [some 0]))
 refine C.seq (C.ss (U.pd 4 T (C.nx ?_)))
 refine C.ite rfl g (fun b19 g=>?_) fun b19 g=>?_
 refine C.skip (C.xs (C.block (C.ss (U.ps 2 T rfl ?_))))
 obtain⟨x22,y22,g⟩:=g
 refine U.r rfl (.none rfl) rfl rfl (by exact Rd.io T rfl rfl rfl rfl rfl rfl rfl y22) ?_
 refine U.r rfl (.none rfl) rfl rfl (by exact Rd.le T rfl rfl rfl (Qe y22).2.2 rfl rfl rfl) ?_
 refine U.pd 1 T (C.xt ?_)
 refine U.ps 2 T rfl (U.k (Q02 x22 _ g) en90 (fun x25 g=>?_))
 refine U.pd 1 T (C.nx ?_)
 refine C.jn (fun (x26:List Int×Int)=>[(0,.o 0),(1,.fn (.func 90) [] []),(5,.i x26.2),(6,.i s15.2.2)]) (fun x26=>[(0,.val (.os 1 eI x26.1))]) 1 g (fun x26 g=>?_) fun J27 g j27=>?_
 refine C.bnx (C.nx (U.start (U.pd 3 T (C.nx ?_))))
 exact St.wk (C.next g) (Wk.a [some 0])
 refine C.ite rfl g (fun b28 g=>?_) fun b28 g=>?_
 refine C.ss (U.ps 3 T rfl ?_)
 obtain⟨x31,y31,g⟩:=g
 refine U.r rfl (.none rfl) rfl rfl (by exact Rd.io T rfl rfl rfl rfl rfl rfl rfl y31) ?_
 refine U.e1 rfl (.none rfl) (by exact Eff1.se T (z':=x22) rfl rfl rfl (Qe y31).2.2 rfl rfl rfl rfl rfl rfl rfl rfl (fun _=>rfl) rfl) ?_
 refine U.done (C.nx (U.start (U.pd 3 T ?_)))
 exact St.wa [some 0] (j27 _ g)
 refine C.skip ?_
 exact St.wa [some 0] (j27 _ g)
 refine C.exit (C.ex (C.ex (C.bex ?_)))
 exact St.wa [some 0] (j14 _ g)
theorem Wd (s_1:List Int) (post:(List Int)→Prop) (g:V_slices_Compact_int_int__o0 s_1 post):
  Tr Tryz.prog 93 [.o 0] [(0,.val (.os 1 eI s_1))] 1 (fun A H' k=>∃y,post y∧A=(.o 1)∧H'=[(1,.val (.os 1 eI y))]∧k=2):=by
 refine Tr.go Tryz.func93 Tryz.ntmps93 fun _ _ _ _ o=>?_
 unfold V_slices_Compact_int_int__o0 at g
 refine C.ss (U.pd 1 T (C.xs (C.ss ?_)))
 refine U.pd 3 T (C.nx ?_)
 refine C.ite rfl g (fun b5 g=>?_) fun b5 g=>?_
 refine C.ss (U.pd 2 T (C.nx (C.ret (C.rt ?_))))
 exact C.g1 [some 0,some 0] T o ⟨s_1,g,rfl,rfl,rfl⟩
 refine C.skip (C.xs (C.ss (U.pd 1 T (C.nx ?_))))
 refine C.jn (fun (x10:Unit)=>[(0,.o 0)]) (fun x10=>[(0,.val (.os 1 eI s_1))]) 1 g (fun x10 g=>?_) fun J11 g j11=>?_
 refine C.xt (U.pd 2 T (C.nx (C.ret ?_)))
 exact C.g1 [some 0,some 0] T o ⟨s_1,g,rfl,rfl,rfl⟩
 refine C.block (St.wk (C.loop (fun (s12:Int)=>[(0,.o 0),(3,.i s12)]) (fun s12=>[(0,.val (.os 1 eI s_1))]) g (fun s12 Y13 g=>?_)) (Wk.a [some 0]))
 refine C.seq (C.ss (U.pd 4 T (C.nx ?_)))
 refine C.ite rfl g (fun b16 g=>?_) fun b16 g=>?_
 refine C.skip (C.xs ?_)
 refine C.jn (fun (x17:Unit)=>[(0,.o 0),(3,.i s12)]) (fun x17=>[(0,.val (.os 1 eI s_1))]) 1 g (fun x17 g=>?_) fun J18 g j18=>?_
 refine C.nx (U.start (U.pd 3 T (C.nx ?_)))
 exact St.wk (C.next g) (Wk.a [some 0])
 refine C.block (C.seq (D.bq mix 9999 [0] [] (fun hQ hS ws M'=>?_)))
 refine D.pq 2 (zl [0,1]) T ?_
 obtain⟨x21,y21,g⟩:=g
 refine D.q 2 [] hQ hS rfl (.none rfl) rfl rfl (by exact Rd.io T rfl rfl rfl rfl rfl rfl rfl y21) rfl (by kernel_rfl) ?_
 refine D.q 3 [] hQ hS rfl (.none rfl) rfl rfl (by exact Rd.le T rfl rfl rfl (Qe y21).2.2 rfl rfl rfl) rfl (by kernel_rfl) ?_
 refine D.pq 3 (zl [4,5,6]) T ?_
 obtain⟨x22,y22,g⟩:=g
 refine D.q 7 [] hQ hS rfl (.none rfl) rfl rfl (by exact Rd.io T rfl rfl rfl rfl rfl rfl rfl y22) rfl (by kernel_rfl) ?_
 refine D.q 8 [] hQ hS rfl (.none rfl) rfl rfl (by exact Rd.le T rfl rfl rfl (Qe y22).2.2 rfl rfl rfl) rfl (by kernel_rfl) ?_
 refine D.pq 1 [(9,[])] T ?_
 refine D.done (by kernel_rfl) ?_
 refine C.nx ?_
 refine C.ite rfl g (fun b23 g=>?_) fun b23 g=>?_
 refine C.ss (U.ps 2 T rfl ?_)
 obtain⟨y26,g⟩:=g
 refine U.r rfl (.none rfl) rfl rfl (by exact Rd.vw T rfl rfl rfl rfl rfl rfl (.some _ rfl) (.none _) y26) ?_
 refine U.pd 1 T (C.xs (C.ss ?_))
 refine U.pd 1 T (C.nx ?_)
 refine C.jn (fun (x29:List Int×Int)=>[(0,.o 0),(3,.i x29.2)]) (fun x29=>[(0,.val (.os 1 eI x29.1))]) 1 g (fun x29 g=>?_) fun J30 g j30=>?_
 refine C.xt (U.ps 2 T rfl ?_)
 obtain⟨y55,g⟩:=g
 refine U.r rfl (.none rfl) rfl rfl (by exact Rd.vw T rfl rfl rfl rfl rfl rfl (.some _ rfl) (.none _) y55) ?_
 obtain⟨y56,g⟩:=g
 refine U.e1 rfl (.none rfl) (by exact Eff1.clv T (z0:=0) rfl rfl rfl rfl rfl rfl rfl (fun _=>rfl) rfl y56) ?_
 refine U.done (C.xt (U.ps 2 T rfl ?_))
 obtain⟨y59,g⟩:=g
 refine U.e1 rfl (.none rfl) (by exact Eff1.sw T rfl rfl rfl rfl rfl rfl rfl rfl (.none _) (.some _ rfl) y59) ?_
 refine U.pd 1 T (C.nx (C.ret (C.brt (C.rt (C.rt (C.brt (C.rt ?_)))))))
 exact C.g1 (idR 2) T o ⟨(sub (x29.1.take (Int.toNat x29.2)++(List.replicate (Int.toNat ((x29.1.length:Int)-x29.2)) 0++x29.1.drop ((Int.toNat x29.2)+(Int.toNat ((x29.1.length:Int)-x29.2))))) 0 x29.2),g,rfl,rfl,rfl⟩
 refine C.block (St.wk (C.loop (fun (s31:List Int×Int×Int)=>[(0,.o 0),(3,.i s31.2.1),(4,.vw 0 1 (Int.toNat s12) (Int.toNat ((s_1.length:Int)-s12))),(5,.i s31.2.2)]) (fun s31=>[(0,.val (.os 1 eI s31.1))]) g (fun s31 Y32 g=>?_)) (Wk.a [some 0]))
 refine C.seq (C.ss (U.ps 2 T rfl (U.r rfl (.none rfl) rfl rfl (by exact Rd.vl T rfl rfl rfl) ?_)))
 refine U.pd 1 T (C.nx ?_)
 refine C.ite rfl g (fun b35 g=>?_) fun b35 g=>?_
 refine C.skip (C.xs (C.block (C.seq (D.bq mix 9999 [0] [] (fun hQ hS ws M'=>?_)))))
 refine D.pq 2 (zl [0,1]) T ?_
 obtain⟨y38,g⟩:=g
 refine D.q 2 [] hQ hS rfl (.none rfl) rfl rfl (by exact Rd.vi T rfl rfl rfl rfl rfl rfl y38) rfl (by kernel_rfl) ?_
 obtain⟨x39,y39,g⟩:=g
 refine D.q 3 [] hQ hS rfl (.none rfl) rfl rfl (by exact Rd.le T rfl rfl rfl y39 rfl rfl rfl) rfl (by kernel_rfl) ?_
 refine D.pq 3 (zl [4,5,6]) T ?_
 obtain⟨y40,g⟩:=g
 refine D.q 7 [] hQ hS rfl (.none rfl) rfl rfl (by exact Rd.vi T rfl rfl rfl rfl rfl rfl y40) rfl (by kernel_rfl) ?_
 obtain⟨x41,y41,g⟩:=g
 refine D.q 8 [] hQ hS rfl (.none rfl) rfl rfl (by exact Rd.le T rfl rfl rfl y41 rfl rfl rfl) rfl (by kernel_rfl) ?_
 refine D.pq 1 [(9,[])] T ?_
 refine D.done (by kernel_rfl) ?_
 refine C.nx ?_
 refine C.jn (fun (x42:List Int×Int)=>[(0,.o 0),(3,.i x42.2),(4,.vw 0 1 (Int.toNat s12) (Int.toNat ((s_1.length:Int)-s12))),(5,.i s31.2.2)]) (fun x42=>[(0,.val (.os 1 eI x42.1))]) 1 g (fun x42 g=>?_) fun J43 g j43=>?_
 refine C.bnx (C.nx (U.start (U.pd 3 T (C.nx ?_))))
 exact St.wk (C.next g) (Wk.a [some 0])
 refine C.ite rfl g (fun b44 g=>?_) fun b44 g=>?_
 refine C.ss (U.ps 4 T rfl ?_)
 obtain⟨y47,g⟩:=g
 refine U.r rfl (.none rfl) rfl rfl (by exact Rd.vi T rfl rfl rfl rfl rfl rfl y47) ?_
 refine U.r rfl (.none rfl) rfl rfl (by exact Rd.le T rfl rfl rfl y39 rfl rfl rfl) ?_
 obtain⟨x48,y48,g⟩:=g
 refine U.r rfl (.none rfl) rfl rfl (by exact Rd.io T rfl rfl rfl rfl rfl rfl rfl y48) ?_
 refine U.e1 rfl (.none rfl) (by exact Eff1.se T (z':=x39) rfl rfl rfl (Qe y48).2.2 rfl rfl rfl rfl rfl rfl rfl rfl (fun _=>rfl) rfl) ?_
 refine U.done (C.nx (U.start (U.pd 3 T ?_)))
 exact St.wa [some 0] (j43 _ g)
 refine C.skip ?_
 exact St.wa [some 0] (j43 _ g)
 refine C.exit (C.ex (C.ex (C.bex ?_)))
 exact St.wa [some 0] (j30 _ g)
 refine C.skip (C.bnx ?_)
 exact St.wa [some 0] (j18 _ g)
 refine C.exit (C.ex (C.ex (C.bex ?_)))
 exact St.wa [some 0] (j11 _ g)
theorem Q4o (l:List Int) (post:(List Int)→Prop) (g:WB l post):
  Tr Tryz.prog 50 [.sl 1 eI l] [] 0 (fun A H' k=>∃y,post y∧A=(.o 0)∧H'=[(0,.val (.os 1 eI y))]∧k=1):=by
 refine Tr.go Tryz.func50 Tryz.ntmps50 fun _ _ _ _ o=>?_
 unfold WB at g
 refine C.ss (U.pd 1 T (C.xt ?_))
 refine U.ps 1 T rfl (U.k (Kd l _ g) en51 (fun x5 g=>?_))
 refine U.c [some 0] (Xz x5 _ g) en89 fun x6 g=>?_
 refine U.pd 1 T (C.xt ?_)
 refine U.ps 1 T rfl (U.c [some 2] (Ke x6 _ g) en92 (fun x9 g=>?_))
 refine U.done (C.xt (U.ps 1 T rfl (U.c [some 2] (Wd x9 _ g) en93 (fun x12 g=>?_))))
 refine U.pd 1 T (C.nx (C.ret ?_))
 exact C.g1 [some 5] T o ⟨x12,g,rfl,rfl,rfl⟩
theorem Q1Q (c:Int) (c0:ApiSite) (c1:List Int) (post:Bool→Prop) (g:Gm c c0 c1 post):
  Tr Tryz.prog 53 [.i c,.rp [.i c0.Floor.W,.i c0.Floor.H,.i c0.Floor.D,.sl 1 eI c0.Floor.Kind,.sl 1 eI c0.Floor.Out,.sl 5 Q8 c0.Zones,.sl 2 Q3 c0.Aparts,.sl 2 Q4 c0.Shelves,.sl 2 Q5 c0.Robots],.rp [.sl 1 eI c1]] [] 0 (pB post):=by
 refine Tr.go Tryz.func53 Tryz.ntmps53 fun _ _ _ _ o=>?_
 unfold Gm at g
 refine C.ss (U.pd 1 T (C.xs ?_))
 refine C.jn (fun (x3:Bool)=>[(4,.b x3)]) (fun x3=>[]) 0 g (fun x3 g=>?_) fun J4 g j4=>?_
 refine C.nx (C.ret ?_)
 exact C.f1 T o (pBi g)
 refine U.start (U.ps 3 T rfl ?_)
 refine g.cs (fun b5 g=>?_) fun b5 g=>?_
 refine U.sk' 6 2 false 7 b5 ?_
 refine U.pk b5 ?_
 refine U.ps 1 T rfl (U.sk' 7 10 false 15 rfl ?_)
 refine U.pk rfl ?_
 refine U.ps 1 T rfl (U.sk' 3 19 false 24 rfl ?_)
 refine U.pk rfl ?_
 refine U.pd 1 T ?_
 exact St.wn (j4 _ g)
 refine U.pq 6 2 false 7 b5 T ?_
 refine U.pk' b5 ?_
 refine U.ps 1 T rfl ?_
 refine g.cs (fun b6 g=>?_) fun b6 g=>?_
 refine U.sk' 7 10 false 15 b6 ?_
 refine U.pk b6 ?_
 refine U.ps 1 T rfl (U.sk' 3 19 false 24 rfl ?_)
 refine U.pk rfl ?_
 refine U.pd 1 T ?_
 exact St.wn (j4 _ g)
 refine U.pq 4 10 false 15 b6 T ?_
 obtain⟨x7,y7,g⟩:=g
 refine U.r rfl (.tk 10 false 15 b6) rfl rfl (by exact Rd.ix T rfl rfl rfl rfl rfl rfl y7) ?_
 refine U.pq 2 10 false 15 b6 T ?_
 refine U.pk' b6 ?_
 refine U.ps 1 T rfl ?_
 refine g.cs (fun b8 g=>?_) fun b8 g=>?_
 refine U.sk' 3 19 false 24 b8 ?_
 refine U.pk b8 ?_
 refine U.pd 1 T ?_
 exact St.wn (j4 _ g)
 refine U.pq 2 19 false 24 b8 T ?_
 refine U.k (QL c1 c _ g) en54 (fun x9 g=>?_) (hw:=.take 19 false 24 _ b8 rfl rfl rfl)
 refine U.pk' b8 ?_
 refine U.pd 1 T ?_
 exact St.wn (j4 _ g)
theorem XS (s_1:List Int) (f_c0:ApiSite) (f_c1:List Int) (post:Int→Prop) (g:QU s_1 f_c0 f_c1 post):
  Tr Tryz.prog 94 [.sl 1 eI s_1,.fn (.func 53) [] [.rp [.i f_c0.Floor.W,.i f_c0.Floor.H,.i f_c0.Floor.D,.sl 1 eI f_c0.Floor.Kind,.sl 1 eI f_c0.Floor.Out,.sl 5 Q8 f_c0.Zones,.sl 2 Q3 f_c0.Aparts,.sl 2 Q4 f_c0.Shelves,.sl 2 Q5 f_c0.Robots],.rp [.sl 1 eI f_c1]]] [] 0 (pI post):=by
 refine Tr.go Tryz.func94 Tryz.ntmps94 fun _ _ _ _ o=>?_
 unfold QU at g
 refine C.ss (U.pd 1 T (C.xs (C.ss ?_)))
 refine U.pd 3 T (C.nx ?_)
 refine C.jn (fun (x5:Unit)=>[]) (fun x5=>[]) 0 g (fun x5 g=>?_) fun J6 g j6=>?_
 refine C.xt (U.pd 1 T (C.nx (C.ret ?_)))
 exact C.f1 T o (pIi g)
 refine C.block ?_
 refine St.wk (C.loop (fun (s7:Int)=>[(0,.sl 1 eI s_1),(1,.fn (.func 53) [] [.rp [.i f_c0.Floor.W,.i f_c0.Floor.H,.i f_c0.Floor.D,.sl 1 eI f_c0.Floor.Kind,.sl 1 eI f_c0.Floor.Out,.sl 5 Q8 f_c0.Zones,.sl 2 Q3 f_c0.Aparts,.sl 2 Q4 f_c0.Shelves,.sl 2 Q5 f_c0.Robots],.rp [.sl 1 eI f_c1]]),(7,.i (s_1.length:Int)),(8,.i s7)]) (fun s7=>[]) g (fun s7 Y8 g=>?_)) (Wk.e)
 refine C.ss (U.pd 1 T (C.xs ?_))
 refine C.ite rfl g (fun b11 g=>?_) fun b11 g=>?_
 refine C.skip (C.xs (C.block (C.ss (U.pd 2 T (C.xt ?_)))))
 refine U.ps 3 T rfl ?_
 obtain⟨x16,y16,g⟩:=g
 refine U.ix T y16 ?_
 refine U.ps 1 T rfl (U.k (Q1Q x16 f_c0 f_c1 _ g) en53 (fun x17 g=>?_))
 refine U.done (C.nx ?_)
 refine C.ite rfl g (fun b18 g=>?_) fun b18 g=>?_
 refine C.ss (U.pd 2 T (C.nx (C.ret (C.brt (C.rt (C.rt (C.brt (C.rt ?_))))))))
 exact C.f1 T o (pIi g)
 refine C.skip (C.bnx (C.nx (U.start (U.pd 2 T (C.nx ?_)))))
 exact St.wk (C.next g) (Wk.e)
 refine C.exit (C.ex (C.ex (C.bex ?_)))
 exact St.wk (j6 _ g) (Wk.mk' [] rfl rfl trivial trivial rfl)
theorem XC (s_1:List Int) (f_c0:ApiSite) (f_c1:List Int) (post:Bool→Prop) (g:QK s_1 f_c0 f_c1 post):
  Tr Tryz.prog 52 [.sl 1 eI s_1,.fn (.func 53) [] [.rp [.i f_c0.Floor.W,.i f_c0.Floor.H,.i f_c0.Floor.D,.sl 1 eI f_c0.Floor.Kind,.sl 1 eI f_c0.Floor.Out,.sl 5 Q8 f_c0.Zones,.sl 2 Q3 f_c0.Aparts,.sl 2 Q4 f_c0.Shelves,.sl 2 Q5 f_c0.Robots],.rp [.sl 1 eI f_c1]]] [] 0 (pB post):=by
 refine Tr.go Tryz.func52 Tryz.ntmps52 fun _ _ _ _ o=>?_
 unfold QK at g
 refine C.ss (U.pd 1 T (C.xt ?_))
 refine U.ps 2 T rfl (U.k (XS s_1 f_c0 f_c1 _ g) en94 (fun x5 g=>?_))
 refine U.pd 2 T (C.nx (C.ret ?_))
 exact C.f1 T o (pBi g)
theorem Q3S (s_1:ApiSite) (st:ApiState) (homes:List Int) (post:Bool→Prop) (g:GW s_1 st homes post):
  Tr Tryz.prog 13 [.agg (Q6 s_1),.agg (Q1 st),.sl 1 eI homes] [] 0 (pB post):=by
 refine Tr.go Tryz.func13 Tryz.ntmps13 fun _ _ _ _ o=>?_
 unfold GW at g
 refine C.ss (U.bx ?_)
 refine U.bx ?_
 refine U.pd 1 T (C.xs (C.seq ?_))
 refine C.jn (fun (x3:Bool)=>[(2,.sl 1 eI homes),(3,.p 0 0),(4,.p 1 0),(23,.b x3)]) (fun x3=>[(0,.box (Q6 s_1)),(1,.box (Q1 st))]) 2 g (fun x3 g=>?_) fun J4 g j4=>?_
 refine C.nx ?_
 refine C.ite rfl g (fun b7 g=>?_) fun b7 g=>?_
 refine C.ss (U.pd 1 T (C.nx (C.ret (C.rt ?_))))
 exact C.f1 T o (pBi g)
 refine C.skip (C.xs ?_)
 refine C.jn (fun (x10:List Int)=>[(2,.sl 1 eI homes),(3,.p 0 0),(4,.p 1 0),(7,.p 2 0)]) (fun x10=>[(0,.box (Q6 s_1)),(1,.box (Q1 st)),(2,.box [.o 3]),(3,.val (.os 1 eI x10))]) 4 g (fun x10 g=>?_) fun J11 g j11=>?_
 refine C.xs (C.ss (U.pd 4 T (C.nx ?_)))
 refine C.jn (fun (x16:List Int)=>[(2,.sl 1 eI homes),(3,.p 0 0),(7,.p 1 0)]) (fun x16=>[(0,.box (Q6 s_1)),(1,.box [.o 2]),(2,.val (.os 1 eI x16))]) 3 g (fun x16 g=>?_) fun J17 g j17=>?_
 refine C.xt (U.ps 2 T rfl (U.k (XC homes s_1 x16 _ g) en52 (fun x38 g=>?_)))
 refine U.pd 2 T (C.nx (C.ret ?_))
 exact C.f1 T o (pBi g)
 refine C.block (St.wk (C.loop (fun (s18:List Int×Int)=>[(2,.sl 1 eI homes),(3,.p 0 0),(7,.p 1 0),(31,.sl 6 Q0 st.Robots),(32,.i (st.Robots.length:Int)),(33,.i s18.2)]) (fun s18=>[(0,.box (Q6 s_1)),(1,.box [.o 2]),(2,.val (.os 1 eI s18.1))]) g (fun s18 Y19 g=>?_)) (Wk.a [some 0,some 2,some 3]))
 refine C.ss (U.pd 1 T (C.xs ?_))
 refine C.ite rfl g (fun b22 g=>?_) fun b22 g=>?_
 refine C.skip (C.xs (C.block (C.ss ?_)))
 obtain⟨x25,y25,g⟩:=g
 refine U.ix T y25 ?_
 refine U.ps 1 T rfl (U.al T ?_)
 refine U.st T ?_
 refine U.done (C.xt (U.pd 2 T (C.nx ?_)))
 refine C.jn (fun (x28:List Int)=>[(2,.sl 1 eI homes),(3,.p 0 0),(7,.p 1 0),(31,.sl 6 Q0 st.Robots),(32,.i (st.Robots.length:Int)),(33,.i s18.2)]) (fun x28=>[(0,.box (Q6 s_1)),(1,.box [.o 2]),(2,.val (.os 1 eI x28))]) 3 g (fun x28 g=>?_) fun J29 g j29=>?_
 refine C.bnx (C.nx (U.start (U.pd 2 T (C.nx ?_))))
 exact St.wk (C.next g) (Wk.a (idR 3))
 refine C.ite rfl g (fun b30 g=>?_) fun b30 g=>?_
 refine U.start (U.ps 3 T rfl (U.bs T eI ([x25.Cell]:List Int) ?_))
 obtain⟨y33,g⟩:=g
 refine U.ap T y33 ?_
 refine U.st T ?_
 refine U.done ?_
 exact St.wa [some 0,some 1,some 5] (j29 _ g)
 refine C.skip ?_
 exact St.wa (idR 3) (j29 _ g)
 refine C.exit (C.ex (C.ex (C.bex ?_)))
 exact St.wa (idR 3) (j17 _ g)
 refine D.bq mix 7 [1] [2,3,4] (fun hQ hS ws M'=>?_)
 refine D.pq 4 (zl [0,1,3,4]) T ?_
 refine D.two 2 6 (by kernel_rfl) ?_ ?_
 refine D.ef rfl (.none rfl) (by exact Eff.c [] (v:=true) (Kd st.Dead _ g) en51 rfl rfl rfl (.eq rfl) trivial rfl rfl rfl rfl rfl rfl (fun _ _=>⟨(.o _),⟨.val (.os _ _ _ fun _=>(.cons (.v _) .nil)),trivial⟩⟩) (.inr ⟨rfl,rfl⟩) (fun _=>rfl) (fun _=>rfl) rfl) rfl rfl (fun x12' g=>?_)
 obtain⟨x12⟩:=x12'
 obtain⟨y13,g⟩:=g
 refine D.have false [(2,.sl 1 eI homes),(3,.p 0 0),(4,.p 1 0),(7,.p 4 0),(23,.b x3),(24,.p 1 4),(25,.sl 1 eI st.Dead),(26,.o 2),(27,.p 1 3),(28,.sl 1 eI st.People),(29,.o 3)] [(0,.box (Q6 s_1)),(1,.box (Q1 st)),(3,.val (.os 1 eI (x12++st.People))),(4,.box [vN])] 5 1 #[true,true,true,true,true,true,true,false] ?_ fun hd12_3=>?_
 refine D.ze1 rfl (.none rfl) (by exact Eff1.st T rfl rfl rfl rfl rfl rfl rfl rfl rfl rfl) (by kernel_rfl) (by kernel_rfl) ?_
 exact St.wa [some 0,some 1,some 4,some 3] (j11 _ g)
 refine D.have false [(2,.sl 1 eI homes),(3,.p 0 0),(4,.p 1 0),(23,.b x3),(24,.p 1 4),(25,.sl 1 eI st.Dead),(26,.o 2),(27,.p 1 3),(28,.sl 1 eI st.People),(29,.o 3)] [(0,.box (Q6 s_1)),(1,.box (Q1 st)),(3,.val (.os 1 eI (x12++st.People)))] 4 2 #[true,true,true,true,true,true,false,false] ?_ fun hd12_1=>?_
 refine D.all 6 [] (by kernel_rfl) ⟨?_,trivial⟩
 refine D.ef1 rfl (.none rfl) (by exact Eff1.al T rfl rfl rfl rfl) rfl rfl ?_
 exact D.tq [0,1,2,3,4] hd12_3
 refine D.have false [(2,.sl 1 eI homes),(3,.p 0 0),(4,.p 1 0),(7,.p 3 0),(23,.b x3),(24,.p 1 4),(25,.sl 1 eI st.Dead),(26,.o 2),(27,.p 1 3),(28,.sl 1 eI st.People)] [(0,.box (Q6 s_1)),(1,.box (Q1 st)),(2,.val (.os 1 eI x12)),(3,.box [vN])] 4 2 #[true,true,true,true,true,false,true,false] ?_ fun hd12_2=>?_
 refine D.all 5 [] (by kernel_rfl) ⟨?_,trivial⟩
 refine D.ef1 rfl (.none rfl) (by exact Eff1.ap T rfl rfl rfl rfl rfl rfl (.inl rfl) rfl rfl rfl (fun _=>rfl) rfl y13) rfl rfl ?_
 exact D.tq [0,1,2,4,3] hd12_3
 refine D.all 5 [6] (by kernel_rfl) ⟨?_,?_,trivial⟩
 refine D.ef1 rfl (.none rfl) (by exact Eff1.ap T rfl rfl rfl rfl rfl rfl (.inl rfl) rfl rfl rfl (fun _=>rfl) rfl y13) rfl rfl ?_
 exact D.tq [0,1,2,3] hd12_1
 refine D.ef1 rfl (.none rfl) (by exact Eff1.al T rfl rfl rfl rfl) rfl rfl ?_
 exact D.tq [0,1,2,3] hd12_2
 refine D.ef1 rfl (.none rfl) (by exact Eff1.al T rfl rfl rfl rfl) rfl rfl ?_
 refine D.k 2 (Kd st.Dead _ g) en51 fun x12 g=>?_
 obtain⟨y13,g⟩:=g
 refine D.e1 5 rfl (.none rfl) (by exact Eff1.ap T rfl rfl rfl rfl rfl rfl (.inl rfl) rfl rfl rfl (fun _=>rfl) rfl y13) (by kernel_rfl) rfl rfl ?_
 refine D.ze1 rfl (.none rfl) (by exact Eff1.st T rfl rfl rfl rfl rfl rfl rfl rfl rfl rfl) (by kernel_rfl) (by kernel_rfl) ?_
 exact St.wa [some 0,some 1,some 2,some 4] (j11 _ g)
 refine U.start (U.ps 7 T rfl ?_)
 refine g.cs (fun b5 g=>?_) fun b5 g=>?_
 refine U.sk' 6 6 false 16 b5 ?_
 refine U.pk b5 ?_
 refine U.done ?_
 exact St.wa (idR 2) (j4 _ g)
 refine U.pq 1 6 false 16 b5 T ?_
 refine U.k (Q4o homes _ g) en50 (fun x6 g=>?_) (hw:=.take 6 false 16 _ b5 rfl rfl rfl)
 refine U.pq 4 6 false 16 b5 T ?_
 refine U.pk' b5 ?_
 refine U.done ?_
 exact St.wa (idR 2) (j4 _ g)
theorem ZY (s_1:ApiSite) (st:ApiState) (homes:List Int) (n:Int) (post:Bool→Prop) (g:Xa s_1 st homes n post):
  Tr Tryz.prog 22 [.agg (Q6 s_1),.agg (Q1 st),.sl 1 eI homes,.i n] [] 0 (pB post):=by
 refine Tr.go Tryz.func22 Tryz.ntmps22 fun _ _ _ _ o=>?_
 unfold Xa at g
 refine C.ss (U.bx ?_)
 refine U.bx ?_
 refine U.pd 1 T (C.xs ?_)
 refine C.jn (fun (x3:Bool)=>[(8,.b x3)]) (fun x3=>[]) 0 g (fun x3 g=>?_) fun J4 g j4=>?_
 refine C.nx (C.ret ?_)
 exact C.f1 T o (pBi g)
 refine U.start (U.ps 2 T rfl (U.k (Q0e s_1 n 20 _ g) en9 (fun x5 g=>?_)))
 refine U.ps 1 T rfl ?_
 refine g.cs (fun b6 g=>?_) fun b6 g=>?_
 refine U.pq 1 3 true 12 b6 T ?_
 refine U.k (Q0p st _ g) en10 (fun x7 g=>?_) (hw:=.take 3 true 12 _ b6 rfl rfl rfl)
 refine U.pk b6 ?_
 refine U.ps 1 T rfl ?_
 refine g.cs (fun b8 g=>?_) fun b8 g=>?_
 refine U.pq 4 7 true 16 b8 T ?_
 refine U.pk b8 ?_
 refine U.ps 1 T rfl ?_
 refine g.cs (fun b9 g=>?_) fun b9 g=>?_
 refine U.pq 3 13 true 22 b9 T ?_
 refine U.pk b9 ?_
 refine U.ps 1 T rfl ?_
 refine g.cs (fun b10 g=>?_) fun b10 g=>?_
 refine U.pq 1 18 true 27 b10 T ?_
 refine U.k (Zr s_1 _ g) en11 (fun x11 g=>?_) (hw:=.take 18 true 27 _ b10 rfl rfl rfl)
 refine U.pk b10 ?_
 refine U.ps 1 T rfl ?_
 refine g.cs (fun b12 g=>?_) fun b12 g=>?_
 refine U.pq 2 22 true 31 b12 T ?_
 refine U.k (Q0L s_1 st _ g) en12 (fun x13 g=>?_) (hw:=.take 22 true 31 _ b12 rfl rfl rfl)
 refine U.pk b12 ?_
 refine U.ps 1 T rfl ?_
 refine g.cs (fun b14 g=>?_) fun b14 g=>?_
 refine U.pq 3 27 true 36 b14 T ?_
 refine U.k (Q3S s_1 st homes _ g) en13 (fun x15 g=>?_) (hw:=.take 27 true 36 _ b14 rfl rfl rfl)
 refine U.pk b14 ?_
 refine U.pd 1 T ?_
 exact St.wn (j4 _ g)
 refine U.sk' 4 27 true 36 b14 ?_
 refine U.pk' b14 ?_
 refine U.pd 1 T ?_
 exact St.wn (j4 _ g)
 refine U.sk' 3 22 true 31 b12 ?_
 refine U.pk' b12 ?_
 refine U.ps 1 T rfl (U.sk' 4 27 true 36 rfl ?_)
 refine U.pk' rfl ?_
 refine U.pd 1 T ?_
 exact St.wn (j4 _ g)
 refine U.sk' 2 18 true 27 b10 ?_
 refine U.pk' b10 ?_
 refine U.ps 1 T rfl (U.sk' 3 22 true 31 rfl ?_)
 refine U.pk' rfl ?_
 refine U.ps 1 T rfl (U.sk' 4 27 true 36 rfl ?_)
 refine U.pk' rfl ?_
 refine U.pd 1 T ?_
 exact St.wn (j4 _ g)
 refine U.sk' 3 13 true 22 b9 ?_
 refine U.pk' b9 ?_
 refine U.ps 1 T rfl (U.sk' 2 18 true 27 rfl ?_)
 refine U.pk' rfl ?_
 refine U.ps 1 T rfl (U.sk' 3 22 true 31 rfl ?_)
 refine U.pk' rfl ?_
 refine U.ps 1 T rfl (U.sk' 4 27 true 36 rfl ?_)
 refine U.pk' rfl ?_
 refine U.pd 1 T ?_
 exact St.wn (j4 _ g)
 refine U.sk' 4 7 true 16 b8 ?_
 refine U.pk' b8 ?_
 refine U.ps 1 T rfl (U.sk' 3 13 true 22 rfl ?_)
 refine U.pk' rfl ?_
 refine U.ps 1 T rfl (U.sk' 2 18 true 27 rfl ?_)
 refine U.pk' rfl ?_
 refine U.ps 1 T rfl (U.sk' 3 22 true 31 rfl ?_)
 refine U.pk' rfl ?_
 refine U.ps 1 T rfl (U.sk' 4 27 true 36 rfl ?_)
 refine U.pk' rfl ?_
 refine U.pd 1 T ?_
 exact St.wn (j4 _ g)
 refine U.sk' 2 3 true 12 b6 ?_
 refine U.pk' b6 ?_
 refine U.ps 1 T rfl (U.sk' 4 7 true 16 rfl ?_)
 refine U.pk' rfl ?_
 refine U.ps 1 T rfl (U.sk' 3 13 true 22 rfl ?_)
 refine U.pk' rfl ?_
 refine U.ps 1 T rfl (U.sk' 2 18 true 27 rfl ?_)
 refine U.pk' rfl ?_
 refine U.ps 1 T rfl (U.sk' 3 22 true 31 rfl ?_)
 refine U.pk' rfl ?_
 refine U.ps 1 T rfl (U.sk' 4 27 true 36 rfl ?_)
 refine U.pk' rfl ?_
 refine U.pd 1 T ?_
 exact St.wn (j4 _ g)
theorem Zf (s_1:ApiSite) (st:ApiState) (post:(ApiSite×ApiState)→Prop) (g:KG s_1 st post):
  Tr Tryz.prog 25 [.agg (Q6 s_1),.agg (Q1 st)] [] 0 (fun A H' k=>∃y,post y∧A=(.tup [.agg [.i y.1.Floor.W,.i y.1.Floor.H,.i y.1.Floor.D,.sl 1 eI y.1.Floor.Kind,.sl 1 eI y.1.Floor.Out,.o 0,.sl 2 Q3 y.1.Aparts,.sl 2 Q4 y.1.Shelves,.sl 2 Q5 y.1.Robots],.agg [.i y.2.Tick,.sl 1 eI y.2.Shelves,.o 1,.sl 1 eI y.2.People,.sl 1 eI y.2.Dead,.o 2]])∧H'=[(0,.val (.os 5 Q8 y.1.Zones)),(1,.val (.os 6 Q0 y.2.Robots)),(2,.val (.os 2 Q7 y.2.Stuck))]∧k=3):=by
 refine Tr.go Tryz.func25 Tryz.ntmps25 fun _ _ _ _ o=>?_
 unfold KG at g
 refine C.ss (U.bx ?_)
 refine U.bx ?_
 refine U.al T ?_
 refine U.al T ?_
 refine U.done (C.xt (U.ps 1 T rfl (U.al T ?_)))
 refine U.st T ?_
 refine U.done (C.xt (U.ps 1 T rfl (U.st T ?_)))
 refine U.done (C.xs (C.ss (U.pd 1 T (C.nx ?_))))
 refine C.jn (fun (x9:List Ql)=>[(3,.p 0 0),(4,.p 1 0),(5,.p 2 0),(6,.p 3 0)]) (fun x9=>[(0,.box (Q1 st)),(1,.box [.i 0,.i 0,.i 0,vN,vN,vN,vN,vN,vN]),(2,.box [.i 0,vN,vN,vN,vN,vN]),(3,.box [.i s_1.Floor.W,.i s_1.Floor.H,.i s_1.Floor.D,.sl 1 eI s_1.Floor.Kind,.sl 1 eI s_1.Floor.Out,.o 4,.sl 2 Q3 s_1.Aparts,.sl 2 Q4 s_1.Shelves,.sl 2 Q5 s_1.Robots]),(4,.val (.os 5 Q8 x9))]) 5 g (fun x9 g=>?_) fun J10 g j10=>?_
 refine C.xt (U.ps 1 T rfl (U.al T ?_))
 refine U.st T ?_
 refine U.done (C.xt (U.ps 1 T rfl (U.st T ?_)))
 refine U.done (C.xt (U.ps 1 T rfl (U.st T ?_)))
 refine U.done (C.xt (U.bs T Q0 ([]:List ApiRobot) ?_))
 refine U.ps 2 T rfl ?_
 obtain⟨y34,g⟩:=g
 refine U.ap T y34 ?_
 refine U.ps 1 T rfl (U.st T ?_)
 refine U.done (C.xs (C.ss (U.pd 1 T (C.nx ?_))))
 refine C.jn (fun (x37:List ApiRobot)=>[(4,.p 0 0),(5,.p 1 0),(6,.p 2 0),(9,.p 4 0)]) (fun x37=>[(0,.box [.i 0,.i 0,.i 0,vN,vN,vN,vN,vN,vN]),(1,.box [.i 0,vN,vN,vN,vN,vN]),(2,.box [.i s_1.Floor.W,.i s_1.Floor.H,.i s_1.Floor.D,.sl 1 eI s_1.Floor.Kind,.sl 1 eI s_1.Floor.Out,.o 3,.sl 2 Q3 s_1.Aparts,.sl 2 Q4 s_1.Shelves,.sl 2 Q5 s_1.Robots]),(3,.val (.os 5 Q8 x9)),(4,.box [.i 0,.sl 1 eI st.Shelves,.o 5,.sl 1 eI st.People,.sl 1 eI st.Dead,vN]),(5,.val (.os 6 Q0 x37))]) 6 g (fun x37 g=>?_) fun J38 g j38=>?_
 refine C.xs (D.bq mix 3 [2,4] [0] (fun hQ hS ws M'=>?_))
 refine D.pq 2 (zl [0,1]) T ?_
 refine D.e1 2 rfl (.none rfl) (by exact Eff1.st T rfl rfl rfl rfl rfl rfl rfl rfl rfl rfl) (by kernel_rfl) rfl rfl ?_
 refine D.ze1 rfl (.none rfl) (by exact Eff1.st T rfl rfl rfl rfl rfl rfl rfl rfl rfl rfl) (by kernel_rfl) (by kernel_rfl) ?_
 refine C.nx (C.ret ?_)
 exact C.fg [some 3,some 5,none] T o ⟨(({Floor:=s_1.Floor,Zones:=x9,Aparts:=s_1.Aparts,Shelves:=s_1.Shelves,Robots:=s_1.Robots:ApiSite}),({Tick:=0,Shelves:=st.Shelves,Robots:=x37,People:=st.People,Dead:=st.Dead,Stuck:=[]:ApiState})),g,rfl,rfl,rfl⟩
 refine C.block ?_
 refine St.wk (C.loop (fun (s39:List ApiRobot×Int)=>[(4,.p 0 0),(5,.p 1 0),(6,.p 2 0),(9,.p 4 0),(10,.i s39.2)]) (fun s39=>[(0,.box [.i 0,.i 0,.i 0,vN,vN,vN,vN,vN,vN]),(1,.box [.i 0,vN,vN,vN,vN,vN]),(2,.box [.i s_1.Floor.W,.i s_1.Floor.H,.i s_1.Floor.D,.sl 1 eI s_1.Floor.Kind,.sl 1 eI s_1.Floor.Out,.o 3,.sl 2 Q3 s_1.Aparts,.sl 2 Q4 s_1.Shelves,.sl 2 Q5 s_1.Robots]),(3,.val (.os 5 Q8 x9)),(4,.box [.i 0,.sl 1 eI st.Shelves,.o 5,.sl 1 eI st.People,.sl 1 eI st.Dead,vN]),(5,.val (.os 6 Q0 s39.1))]) g (fun s39 Y40 g=>?_)) (Wk.a [some 1,some 2,some 3,some 4,some 5,some 7])
 refine C.seq (C.ss (U.pd 5 T (C.nx ?_)))
 refine C.ite rfl g (fun b43 g=>?_) fun b43 g=>?_
 refine C.skip (C.xs (C.block (C.ss (U.ps 3 T rfl ?_))))
 obtain⟨x46,y46,g⟩:=g
 refine U.r rfl (.none rfl) rfl rfl (by exact Rd.io T rfl rfl rfl rfl rfl rfl rfl y46) ?_
 refine U.ps 1 T rfl (U.e1 rfl (.none rfl) (by exact Eff1.se T (z':=({Cell:=x46.Cell,Load:=x46.Load,Charge:=x46.Charge,Rest:=x46.Rest,Mute:=0,Dead:=x46.Dead:ApiRobot})) rfl rfl rfl (Qe y46).2.2 rfl rfl rfl rfl rfl rfl rfl rfl (fun _=>rfl) rfl) ?_)
 refine U.done (C.xt (U.ps 3 T rfl (U.r rfl (.none rfl) rfl rfl (by exact Rd.io T rfl rfl rfl rfl rfl rfl rfl (Q1b y46)) ?_)))
 refine U.ps 1 T rfl ?_
 refine U.e1 rfl (.none rfl) (by exact Eff1.se T (z':=({Cell:=({Cell:=x46.Cell,Load:=x46.Load,Charge:=x46.Charge,Rest:=x46.Rest,Mute:=0,Dead:=x46.Dead:ApiRobot}).Cell,Load:=({Cell:=x46.Cell,Load:=x46.Load,Charge:=x46.Charge,Rest:=x46.Rest,Mute:=0,Dead:=x46.Dead:ApiRobot}).Load,Charge:=1000000,Rest:=({Cell:=x46.Cell,Load:=x46.Load,Charge:=x46.Charge,Rest:=x46.Rest,Mute:=0,Dead:=x46.Dead:ApiRobot}).Rest,Mute:=({Cell:=x46.Cell,Load:=x46.Load,Charge:=x46.Charge,Rest:=x46.Rest,Mute:=0,Dead:=x46.Dead:ApiRobot}).Mute,Dead:=({Cell:=x46.Cell,Load:=x46.Load,Charge:=x46.Charge,Rest:=x46.Rest,Mute:=0,Dead:=x46.Dead:ApiRobot}).Dead:ApiRobot})) rfl rfl rfl (Ge (Qe y46).2.2) rfl rfl rfl rfl rfl rfl rfl rfl (fun _=>rfl) rfl) ?_
 refine U.done (C.nx (D.bq mix 12 [4,5] [] (fun hQ hS ws M'=>?_)))
 refine D.pq 6 (zl [0,1,2,3,4,5]) T ?_
 refine D.q 6 [] hQ hS rfl (.none rfl) rfl rfl (by exact Rd.io T rfl rfl rfl rfl rfl rfl rfl (Q1b (Q1b y46))) rfl (by kernel_rfl) ?_
 refine D.pq 1 [(7,[])] T ?_
 refine D.q 8 [] hQ hS rfl (.none rfl) rfl rfl (by exact Rd.le T rfl rfl rfl (Ge (Ge (Qe y46).2.2)) rfl rfl rfl) rfl (by kernel_rfl) ?_
 refine D.pq 1 [(9,[])] T ?_
 refine D.q 10 [11] hQ hS rfl (.none rfl) rfl rfl (by exact Rd.io T rfl rfl rfl rfl rfl rfl rfl (Q1b (Q1b y46))) rfl (by kernel_rfl) ?_
 refine D.pq 1 [(11,[])] T ?_
 refine D.ze1 rfl (.none rfl) (by exact Eff1.se T (z':=({Cell:=({Cell:=({Cell:=x46.Cell,Load:=x46.Load,Charge:=x46.Charge,Rest:=x46.Rest,Mute:=0,Dead:=x46.Dead:ApiRobot}).Cell,Load:=({Cell:=x46.Cell,Load:=x46.Load,Charge:=x46.Charge,Rest:=x46.Rest,Mute:=0,Dead:=x46.Dead:ApiRobot}).Load,Charge:=1000000,Rest:=({Cell:=x46.Cell,Load:=x46.Load,Charge:=x46.Charge,Rest:=x46.Rest,Mute:=0,Dead:=x46.Dead:ApiRobot}).Rest,Mute:=({Cell:=x46.Cell,Load:=x46.Load,Charge:=x46.Charge,Rest:=x46.Rest,Mute:=0,Dead:=x46.Dead:ApiRobot}).Mute,Dead:=({Cell:=x46.Cell,Load:=x46.Load,Charge:=x46.Charge,Rest:=x46.Rest,Mute:=0,Dead:=x46.Dead:ApiRobot}).Dead:ApiRobot}).Cell,Load:=({Cell:=({Cell:=x46.Cell,Load:=x46.Load,Charge:=x46.Charge,Rest:=x46.Rest,Mute:=0,Dead:=x46.Dead:ApiRobot}).Cell,Load:=({Cell:=x46.Cell,Load:=x46.Load,Charge:=x46.Charge,Rest:=x46.Rest,Mute:=0,Dead:=x46.Dead:ApiRobot}).Load,Charge:=1000000,Rest:=({Cell:=x46.Cell,Load:=x46.Load,Charge:=x46.Charge,Rest:=x46.Rest,Mute:=0,Dead:=x46.Dead:ApiRobot}).Rest,Mute:=({Cell:=x46.Cell,Load:=x46.Load,Charge:=x46.Charge,Rest:=x46.Rest,Mute:=0,Dead:=x46.Dead:ApiRobot}).Mute,Dead:=({Cell:=x46.Cell,Load:=x46.Load,Charge:=x46.Charge,Rest:=x46.Rest,Mute:=0,Dead:=x46.Dead:ApiRobot}).Dead:ApiRobot}).Load,Charge:=({Cell:=({Cell:=x46.Cell,Load:=x46.Load,Charge:=x46.Charge,Rest:=x46.Rest,Mute:=0,Dead:=x46.Dead:ApiRobot}).Cell,Load:=({Cell:=x46.Cell,Load:=x46.Load,Charge:=x46.Charge,Rest:=x46.Rest,Mute:=0,Dead:=x46.Dead:ApiRobot}).Load,Charge:=1000000,Rest:=({Cell:=x46.Cell,Load:=x46.Load,Charge:=x46.Charge,Rest:=x46.Rest,Mute:=0,Dead:=x46.Dead:ApiRobot}).Rest,Mute:=({Cell:=x46.Cell,Load:=x46.Load,Charge:=x46.Charge,Rest:=x46.Rest,Mute:=0,Dead:=x46.Dead:ApiRobot}).Mute,Dead:=({Cell:=x46.Cell,Load:=x46.Load,Charge:=x46.Charge,Rest:=x46.Rest,Mute:=0,Dead:=x46.Dead:ApiRobot}).Dead:ApiRobot}).Charge,Rest:=imin (({Cell:=({Cell:=x46.Cell,Load:=x46.Load,Charge:=x46.Charge,Rest:=x46.Rest,Mute:=0,Dead:=x46.Dead:ApiRobot}).Cell,Load:=({Cell:=x46.Cell,Load:=x46.Load,Charge:=x46.Charge,Rest:=x46.Rest,Mute:=0,Dead:=x46.Dead:ApiRobot}).Load,Charge:=1000000,Rest:=({Cell:=x46.Cell,Load:=x46.Load,Charge:=x46.Charge,Rest:=x46.Rest,Mute:=0,Dead:=x46.Dead:ApiRobot}).Rest,Mute:=({Cell:=x46.Cell,Load:=x46.Load,Charge:=x46.Charge,Rest:=x46.Rest,Mute:=0,Dead:=x46.Dead:ApiRobot}).Mute,Dead:=({Cell:=x46.Cell,Load:=x46.Load,Charge:=x46.Charge,Rest:=x46.Rest,Mute:=0,Dead:=x46.Dead:ApiRobot}).Dead:ApiRobot}).Rest) 10,Mute:=({Cell:=({Cell:=x46.Cell,Load:=x46.Load,Charge:=x46.Charge,Rest:=x46.Rest,Mute:=0,Dead:=x46.Dead:ApiRobot}).Cell,Load:=({Cell:=x46.Cell,Load:=x46.Load,Charge:=x46.Charge,Rest:=x46.Rest,Mute:=0,Dead:=x46.Dead:ApiRobot}).Load,Charge:=1000000,Rest:=({Cell:=x46.Cell,Load:=x46.Load,Charge:=x46.Charge,Rest:=x46.Rest,Mute:=0,Dead:=x46.Dead:ApiRobot}).Rest,Mute:=({Cell:=x46.Cell,Load:=x46.Load,Charge:=x46.Charge,Rest:=x46.Rest,Mute:=0,Dead:=x46.Dead:ApiRobot}).Mute,Dead:=({Cell:=x46.Cell,Load:=x46.Load,Charge:=x46.Charge,Rest:=x46.Rest,Mute:=0,Dead:=x46.Dead:ApiRobot}).Dead:ApiRobot}).Mute,Dead:=({Cell:=({Cell:=x46.Cell,Load:=x46.Load,Charge:=x46.Charge,Rest:=x46.Rest,Mute:=0,Dead:=x46.Dead:ApiRobot}).Cell,Load:=({Cell:=x46.Cell,Load:=x46.Load,Charge:=x46.Charge,Rest:=x46.Rest,Mute:=0,Dead:=x46.Dead:ApiRobot}).Load,Charge:=1000000,Rest:=({Cell:=x46.Cell,Load:=x46.Load,Charge:=x46.Charge,Rest:=x46.Rest,Mute:=0,Dead:=x46.Dead:ApiRobot}).Rest,Mute:=({Cell:=x46.Cell,Load:=x46.Load,Charge:=x46.Charge,Rest:=x46.Rest,Mute:=0,Dead:=x46.Dead:ApiRobot}).Mute,Dead:=({Cell:=x46.Cell,Load:=x46.Load,Charge:=x46.Charge,Rest:=x46.Rest,Mute:=0,Dead:=x46.Dead:ApiRobot}).Dead:ApiRobot}).Dead:ApiRobot})) rfl rfl rfl (Ge (Ge (Qe y46).2.2)) rfl rfl rfl rfl rfl rfl rfl rfl (fun _=>rfl) rfl) (by kernel_rfl) (by kernel_rfl) ?_
 refine C.bnx (C.nx (U.start (U.pd 3 T (C.nx ?_))))
 exact St.wk (C.next g) (Wk.a (idR 6))
 refine C.exit (C.ex (C.ex (C.bex ?_)))
 exact St.wa (idR 6) (j38 _ g)
 refine C.block ?_
 refine St.wk (C.loop (fun (s11:List Ql×Int)=>[(2,.p 0 0),(3,.p 1 0),(4,.p 2 0),(5,.p 3 0),(6,.p 4 0),(7,.i s11.2)]) (fun s11=>[(0,.box (Q6 s_1)),(1,.box (Q1 st)),(2,.box [.i 0,.i 0,.i 0,vN,vN,vN,vN,vN,vN]),(3,.box [.i 0,vN,vN,vN,vN,vN]),(4,.box [.i s_1.Floor.W,.i s_1.Floor.H,.i s_1.Floor.D,.sl 1 eI s_1.Floor.Kind,.sl 1 eI s_1.Floor.Out,.o 5,.sl 2 Q3 s_1.Aparts,.sl 2 Q4 s_1.Shelves,.sl 2 Q5 s_1.Robots]),(5,.val (.os 5 Q8 s11.1))]) g (fun s11 Y12 g=>?_)) (Wk.mk' [some 0,some 1,some 2,some 3,some 4,none] rfl rfl (.eqs rfl) ⟨bX,bX,bX,bX,⟨_,rfl,.box rfl (.cons (.eq rfl) (.cons (.eq rfl) (.cons (.eq rfl) (.cons (.eq rfl) (.cons (.eq rfl) (.cons (.nilO _ _ ⟨rfl,rfl⟩ rfl) (.eq rfl)))))))⟩,⟨_,rfl,.nil _ _⟩,trivial⟩ rfl)
 refine C.seq (C.ss (U.pd 5 T (C.nx ?_)))
 refine C.ite rfl g (fun b15 g=>?_) fun b15 g=>?_
 refine C.skip (C.xs (C.block (C.ss (U.ps 3 T rfl ?_))))
 obtain⟨x18,y18,g⟩:=g
 refine U.ix T y18 ?_
 refine U.ps 1 T rfl (U.al T ?_)
 refine U.st T ?_
 refine U.done (C.xt (U.ps 1 T rfl (U.st T ?_)))
 refine U.done (C.nx (U.start (U.ps 3 T rfl ?_)))
 refine U.e1 rfl (.none rfl) (by exact Eff1.re (A':=.os 5 Q8 ([({Name:=x18.Name,Cells:=x18.Cells,Speed:=x18.Speed,Keep:=x18.Keep,Shut:=[]:Ql})]:List Ql)) (Eff1.bs T (enc:=fun i:Nat=>([[.v (.string x18.Name),.sl 1 eI x18.Cells,.i x18.Speed,.i x18.Keep,vN]]:List (List AVal)).getD i []) (xs:=[0]) rfl rfl rfl rfl rfl rfl rfl rfl rfl rfl (fun y hy=>by simp at hy;(try rcases hy with rfl) <;> (try subst hy) <;> rfl) rfl rfl) (fun _ _ _ _ _ h=>((.cons (.cons (.refl _) (.cons (.refl _) (.cons (.refl _) (.cons (.refl _) (.cons (.sl _ _) .nil))))) .nil):NlR _ _ _ _).on h)) ?_
 obtain⟨y23,g⟩:=g
 refine U.ap T y23 ?_
 refine U.ps 1 T rfl (U.st T ?_)
 refine U.done (C.bnx (C.nx (U.start (U.pd 3 T (C.nx ?_)))))
 exact St.wk (C.next g) (Wk.a [some 0,some 1,some 2,some 3,some 4,some 8])
 refine C.exit (C.ex (C.ex (C.bex ?_)))
 exact St.wa (sqR 1 5) (j10 _ g)
theorem Yt (s_1:ApiSite) (a:Int) (b:Int) (post:Int→Prop) (g:Kl s_1 a b post):
  Tr Tryz.prog 26 [.agg (Q6 s_1),.i a,.i b] [] 0 (pI post):=by
 refine Tr.go Tryz.func26 Tryz.ntmps26 fun _ _ _ _ o=>?_
 unfold Kl at g
 refine C.ss (U.bx ?_)
 refine U.pd 1 T (C.xs (C.ss ?_))
 refine U.pd 1 T (C.nx ?_)
 refine C.jn (fun (x5:Unit)=>[]) (fun x5=>[]) 0 g (fun x5 g=>?_) fun J6 g j6=>?_
 refine C.xt (U.pd 1 T (C.nx (C.ret ?_)))
 exact C.f1 T o (pIi g)
 refine C.block (St.wk (C.loop (fun (s7:Int)=>[(1,.i a),(2,.i b),(3,.p 0 0),(7,.i s7)]) (fun s7=>[(0,.box (Q6 s_1))]) g (fun s7 Y8 g=>?_)) (Wk.a [some 0]))
 refine C.seq (C.ss (U.pd 2 T (C.nx ?_)))
 refine C.ite rfl g (fun b11 g=>?_) fun b11 g=>?_
 refine C.skip (C.xs (C.block (C.ss (U.ps 4 T rfl (U.k (Gx s_1.Floor a s7 _ g) en24 (fun x14 g=>?_))))))
 refine U.pd 5 T (C.xs ?_)
 refine C.jn (fun (x15:Bool)=>[(1,.i a),(2,.i b),(3,.p 0 0),(7,.i s7),(27,.b x15)]) (fun x15=>[(0,.box (Q6 s_1))]) 1 g (fun x15 g=>?_) fun J16 g j16=>?_
 refine C.nx ?_
 refine C.ite rfl g (fun b18 g=>?_) fun b18 g=>?_
 refine C.ss (U.pd 3 T (C.nx (C.ret (C.brt (C.rt (C.rt (C.brt (C.rt ?_))))))))
 exact C.f1 T o (pIi g)
 refine C.skip (C.bnx (C.nx (U.start (U.pd 3 T (C.nx ?_)))))
 exact St.wk (C.next g) (Wk.a [some 0])
 refine U.start (U.ps 2 T rfl ?_)
 refine g.cs (fun b17 g=>?_) fun b17 g=>?_
 refine U.pq 3 1 true 23 b17 T ?_
 refine U.pk b17 ?_
 refine U.done ?_
 exact St.wa [some 0] (j16 _ g)
 refine U.sk' 3 1 true 23 b17 ?_
 refine U.pk' b17 ?_
 refine U.done ?_
 exact St.wa [some 0] (j16 _ g)
 refine C.exit (C.ex (C.ex (C.bex ?_)))
 exact St.wk (j6 _ g) (Wk.mk' [] rfl rfl trivial trivial rfl)
theorem YY (act:Int) (post:(Int×Bool)→Prop) (g:Xl act post):
  Tr Tryz.prog 110 [.i act] [] 0 (fun A H' k=>∃y,post y∧A=(.tup [.i y.1,.b y.2])∧H'=[]∧k=0):=by
 refine Tr.go Tryz.func110 Tryz.ntmps110 fun _ _ _ _ o=>?_
 unfold Xl at g
 refine C.ss (U.pd 2 T (C.xt ?_))
 refine U.pd 3 T (C.xs ?_)
 refine C.jn (fun (x5:Bool)=>[(2,.i (w64 (act-1))),(3,.b x5)]) (fun x5=>[]) 0 g (fun x5 g=>?_) fun J6 g j6=>?_
 refine C.nx (C.ret ?_)
 exact C.f9 T o ⟨(w64 (act-1),x5),g,rfl,rfl,rfl⟩
 refine U.start (U.ps 4 T rfl ?_)
 refine g.cs (fun b7 g=>?_) fun b7 g=>?_
 refine U.pq 2 3 true 10 b7 T ?_
 refine U.pk b7 ?_
 refine U.pd 2 T ?_
 exact St.wn (j6 _ g)
 refine U.sk' 2 3 true 10 b7 ?_
 refine U.pk' b7 ?_
 refine U.pd 2 T ?_
 exact St.wn (j6 _ g)
theorem WL (n:Int) (post:Bool→Prop) (g:KB n post):
  Tr Tryz.prog 141 [.i n] [] 0 (pB post):=by
 refine Tr.go Tryz.func141 Tryz.ntmps141 fun _ _ _ _ o=>?_
 unfold KB at g
 refine C.ss (U.pd 1 T (C.xs ?_))
 refine C.jn (fun (x3:Bool)=>[(2,.b x3)]) (fun x3=>[]) 0 g (fun x3 g=>?_) fun J4 g j4=>?_
 refine C.nx (C.ret ?_)
 exact C.f1 T o (pBi g)
 refine U.start (U.ps 3 T rfl ?_)
 refine g.cs (fun b5 g=>?_) fun b5 g=>?_
 refine U.pq 2 2 true 5 b5 T ?_
 refine U.pk b5 ?_
 refine U.pd 1 T ?_
 exact St.wn (j4 _ g)
 refine U.sk' 2 2 true 5 b5 ?_
 refine U.pk' b5 ?_
 refine U.pd 1 T ?_
 exact St.wn (j4 _ g)
theorem Q1H (act:Int) (laden:Bool) (post:Int→Prop) (g:Gh act laden post):
  Tr Tryz.prog 173 [.i act,.b laden] [] 0 (pI post):=by
 refine Tr.go Tryz.func173 Tryz.ntmps173 fun _ _ _ _ o=>?_
 unfold Gh at g
 refine C.ss (U.pd 1 T (C.xs (C.ss ?_)))
 refine U.pd 1 T (C.nx (C.block (C.seq (C.ss ?_))))
 refine U.pd 2 T (C.nx ?_)
 refine C.jn (fun (x7:Bool)=>[(0,.i act),(1,.b laden),(6,.i act),(7,.b x7)]) (fun x7=>[]) 0 g (fun x7 g=>?_) fun J8 g j8=>?_
 refine C.nx ?_
 refine C.ite rfl g (fun b12 g=>?_) fun b12 g=>?_
 refine C.ss (U.pd 1 T (C.nx (C.ret (C.brt (C.rt ?_)))))
 exact C.f1 T o (pIi g)
 refine C.ss (U.pd 2 T (C.nx ?_))
 refine C.ite rfl g (fun b17 g=>?_) fun b17 g=>?_
 refine C.ss (U.pd 1 T (C.nx (C.ret (C.brt (C.rt ?_)))))
 exact C.f1 T o (pIi g)
 refine C.skip (C.bnx (C.xt (U.pd 1 T (C.xs (C.ss ?_)))))
 refine U.pd 2 T (C.nx (C.block (C.seq (C.ss ?_))))
 refine U.pd 2 T (C.nx ?_)
 refine C.jn (fun (x26:Bool)=>[(1,.b laden),(5,.i 0),(13,.i (w64 (act-1))),(14,.b x26)]) (fun x26=>[]) 0 g (fun x26 g=>?_) fun J27 g j27=>?_
 refine C.nx ?_
 refine C.jn (fun (x41:Int)=>[(1,.b laden),(5,.i x41)]) (fun x41=>[]) 0 g (fun x41 g=>?_) fun J42 g j42=>?_
 refine C.bnx (C.xs (C.seq ?_))
 refine C.jn (fun (x60:Bool)=>[(5,.i x41),(27,.b x60)]) (fun x60=>[]) 0 g (fun x60 g=>?_) fun J61 g j61=>?_
 refine C.nx ?_
 refine C.jn (fun (x63:Int)=>[(5,.i x63)]) (fun x63=>[]) 0 g (fun x63 g=>?_) fun J64 g j64=>?_
 refine C.xt (U.pd 2 T (C.nx (C.ret ?_)))
 exact C.f1 T o (pIi g)
 refine C.ite rfl g (fun b65 g=>?_) fun b65 g=>?_
 refine U.start (U.pd 3 T ?_)
 exact St.wn (j64 _ g)
 refine C.skip ?_
 exact St.wn (j64 _ g)
 refine U.start (U.ps 3 T rfl ?_)
 refine g.cs (fun b62 g=>?_) fun b62 g=>?_
 refine U.pq 1 2 true 25 b62 T ?_
 refine U.pk b62 ?_
 refine U.done ?_
 exact St.wn (j61 _ g)
 refine U.sk' 1 2 true 25 b62 ?_
 refine U.pk' b62 ?_
 refine U.done ?_
 exact St.wn (j61 _ g)
 refine C.ite rfl g (fun b43 g=>?_) fun b43 g=>?_
 refine U.start (U.pd 1 T ?_)
 exact St.wn (j42 _ g)
 refine C.ss (U.pd 2 T (C.nx ?_))
 refine C.jn (fun (x48:Int)=>[(1,.b laden),(5,.i x48)]) (fun x48=>[]) 0 g (fun x48 g=>?_) fun J49 g j49=>?_
 exact St.wn (j42 _ g)
 refine C.ite rfl g (fun b50 g=>?_) fun b50 g=>?_
 refine U.start (U.pd 1 T ?_)
 exact St.wn (j49 _ g)
 refine C.ss (U.pd 2 T (C.nx ?_))
 refine C.jn (fun (x55:Int)=>[(1,.b laden),(5,.i x55)]) (fun x55=>[]) 0 g (fun x55 g=>?_) fun J56 g j56=>?_
 exact St.wn (j49 _ g)
 refine C.ite rfl g (fun b57 g=>?_) fun b57 g=>?_
 refine U.start (U.pd 1 T ?_)
 exact St.wn (j56 _ g)
 refine C.skip ?_
 exact St.wn (j56 _ g)
 refine C.ite rfl g (fun b28 g=>?_) fun b28 g=>?_
 refine C.skip ?_
 exact St.wn (j27 _ g)
 refine C.ss (U.pd 2 T (C.nx ?_))
 refine C.jn (fun (x31:Bool)=>[(1,.b laden),(5,.i 0),(13,.i (w64 (act-1))),(14,.b x31)]) (fun x31=>[]) 0 g (fun x31 g=>?_) fun J32 g j32=>?_
 exact St.wn (j27 _ g)
 refine C.ite rfl g (fun b33 g=>?_) fun b33 g=>?_
 refine C.skip ?_
 exact St.wn (j32 _ g)
 refine C.ss (U.pd 2 T (C.nx ?_))
 refine C.jn (fun (x36:Bool)=>[(1,.b laden),(5,.i 0),(13,.i (w64 (act-1))),(14,.b x36)]) (fun x36=>[]) 0 g (fun x36 g=>?_) fun J37 g j37=>?_
 exact St.wn (j32 _ g)
 refine C.ite rfl g (fun b38 g=>?_) fun b38 g=>?_
 refine C.skip ?_
 exact St.wn (j37 _ g)
 refine U.start (U.pd 2 T ?_)
 exact St.wn (j37 _ g)
 refine C.ite rfl g (fun b9 g=>?_) fun b9 g=>?_
 refine C.skip ?_
 exact St.wn (j8 _ g)
 refine U.start (U.pd 2 T ?_)
 exact St.wn (j8 _ g)
theorem Q1z (tick:Int) (act:Int) (laden:Bool) (post:Int→Prop) (g:Gf tick act laden post):
  Tr Tryz.prog 143 [.i tick,.i act,.b laden] [] 0 (pI post):=by
 refine Tr.go Tryz.func143 Tryz.ntmps143 fun _ _ _ _ o=>?_
 unfold Gf at g
 refine C.ss (U.pd 1 T (C.xt ?_))
 refine U.ps 3 T rfl (U.r rfl (.none rfl) rfl rfl (by exact Rd.dv rfl rfl rfl rfl (by decide)) ?_)
 refine U.pd 1 T (C.xt ?_)
 refine U.ps 2 T rfl (U.k (Q1H act laden _ g) Q9F (fun x8 g=>?_))
 refine U.ps 4 T rfl (U.r rfl (.none rfl) rfl rfl (by exact Rd.dv rfl rfl rfl rfl (by decide)) ?_)
 refine U.pd 1 T (C.nx (C.ret ?_))
 exact C.f1 T o (pIi g)
theorem Q1f (charge:Int) (cost:Int) (post:(Int×Int)→Prop) (g:XV charge cost post):
  Tr Tryz.prog 142 [.i charge,.i cost] [] 0 (fun A H' k=>∃y,post y∧A=(.tup [.i y.1,.i y.2])∧H'=[]∧k=0):=by
 refine Tr.go Tryz.func142 Tryz.ntmps142 fun _ _ _ _ o=>?_
 unfold XV at g
 refine C.ss (U.pd 2 T (C.xs (C.block (C.seq ?_))))
 refine C.jn (fun (x3:Bool)=>[(0,.i charge),(1,.i cost),(6,.b x3)]) (fun x3=>[]) 0 g (fun x3 g=>?_) fun J4 g j4=>?_
 refine C.nx ?_
 refine C.ite rfl g (fun b7 g=>?_) fun b7 g=>?_
 refine C.ss (U.pd 3 T (C.nx (C.ret (C.brt (C.rt ?_)))))
 exact C.f9 T o ⟨(charge,1),g,rfl,rfl,rfl⟩
 refine C.ss (U.pd 4 T (C.nx ?_))
 refine C.ite rfl g (fun b12 g=>?_) fun b12 g=>?_
 refine C.ss (U.pd 3 T (C.nx (C.ret (C.brt (C.rt ?_)))))
 exact C.f9 T o ⟨(charge,16),g,rfl,rfl,rfl⟩
 refine C.skip (C.bnx (C.xt (U.pd 5 T (C.nx (C.ret ?_)))))
 exact C.f9 T o ⟨(w64 (charge-cost),0),g,rfl,rfl,rfl⟩
 refine U.start (U.ps 1 T rfl (U.k (WL charge _ g) Q8w (fun x5 g=>?_)))
 refine U.ps 2 T rfl ?_
 refine g.cs (fun b6 g=>?_) fun b6 g=>?_
 refine U.pq 2 3 false 10 (ntF b6) T ?_
 refine U.pk' (ntF b6) ?_
 refine U.pd 1 T ?_
 exact St.wn (j4 _ g)
 refine U.sk' 2 3 false 10 (ntT b6) ?_
 refine U.pk (ntT b6) ?_
 refine U.pd 1 T ?_
 exact St.wn (j4 _ g)
theorem YK (tick:Int) (charge:Int) (act:Int) (laden:Bool) (post:(Int×Int)→Prop) (g:Xn tick charge act laden post):
  Tr Tryz.prog 111 [.i tick,.i charge,.i act,.b laden] [] 0 (fun A H' k=>∃y,post y∧A=(.tup [.i y.1,.i y.2])∧H'=[]∧k=0):=by
 refine Tr.go Tryz.func111 Tryz.ntmps111 fun _ _ _ _ o=>?_
 unfold Xn at g
 refine C.ss (U.pd 2 T (C.xs (C.block (C.seq ?_))))
 refine C.jn (fun (x3:Bool)=>[(0,.i tick),(1,.i charge),(2,.i act),(3,.b laden),(10,.b x3)]) (fun x3=>[]) 0 g (fun x3 g=>?_) fun J4 g j4=>?_
 refine C.nx ?_
 refine C.ite rfl g (fun b8 g=>?_) fun b8 g=>?_
 refine C.ss (U.pd 3 T (C.nx (C.ret (C.brt (C.rt ?_)))))
 exact C.f9 T o ⟨(charge,1),g,rfl,rfl,rfl⟩
 refine C.ss (U.pd 3 T (C.nx ?_))
 refine C.ite rfl g (fun b13 g=>?_) fun b13 g=>?_
 refine C.ss (U.pd 5 T (C.nx (C.ret (C.brt (C.rt ?_)))))
 exact C.f9 T o ⟨(imin (w64 (charge+20)) 1000000,0),g,rfl,rfl,rfl⟩
 refine C.skip (C.bnx (C.xt (U.ps 4 T rfl (U.k (Q1z tick act laden _ g) Q9S (fun x18 g=>?_)))))
 refine U.k (Q1f charge x18 _ g) Qay fun x19 g=>?_
 refine U.pd 4 T (C.nx (C.ret ?_))
 exact C.f9 T o ⟨(x19.1,x19.2),g,rfl,rfl,rfl⟩
 refine U.start (U.ps 1 T rfl (U.k (WL charge _ g) Q8w (fun x5 g=>?_)))
 refine U.ps 2 T rfl ?_
 refine g.cs (fun b6 g=>?_) fun b6 g=>?_
 refine U.pq 2 3 false 14 (ntF b6) T ?_
 refine U.pk' (ntF b6) ?_
 refine U.ps 1 T rfl ?_
 refine g.cs (fun b7 g=>?_) fun b7 g=>?_
 refine U.sk' 2 7 false 18 b7 ?_
 refine U.pk b7 ?_
 refine U.pd 1 T ?_
 exact St.wn (j4 _ g)
 refine U.pq 2 7 false 18 b7 T ?_
 refine U.pk' b7 ?_
 refine U.pd 1 T ?_
 exact St.wn (j4 _ g)
 refine U.sk' 2 3 false 14 (ntT b6) ?_
 refine U.pk (ntT b6) ?_
 refine U.ps 1 T rfl (U.sk' 2 7 false 18 rfl ?_)
 refine U.pk rfl ?_
 refine U.pd 1 T ?_
 exact St.wn (j4 _ g)
theorem Q3n (x_1:ApiStuck) (c0:ApiRobot) (c1:Int) (post:Bool→Prop) (g:GT x_1 c0 c1 post):
  Tr Tryz.prog 144 [.agg [.i x_1.Cell,.i x_1.Left],.rp [.i c0.Cell,.i c0.Load,.i c0.Charge,.i c0.Rest,.i c0.Mute,.b c0.Dead],.rp [.i c1]] [] 0 (pB post):=by
 refine Tr.go Tryz.func144 Tryz.ntmps144 fun _ _ _ _ o=>?_
 unfold GT at g
 refine C.ss (U.bx ?_)
 refine U.pd 1 T (C.xs ?_)
 refine C.jn (fun (x3:Bool)=>[(4,.b x3)]) (fun x3=>[]) 0 g (fun x3 g=>?_) fun J4 g j4=>?_
 refine C.nx (C.ret ?_)
 exact C.f1 T o (pBi g)
 refine U.start (U.ps 6 T rfl ?_)
 refine g.cs (fun b5 g=>?_) fun b5 g=>?_
 refine U.sk' 4 5 false 10 b5 ?_
 refine U.pk b5 ?_
 refine U.pd 1 T ?_
 exact St.wn (j4 _ g)
 refine U.pq 4 5 false 10 b5 T ?_
 refine U.pk' b5 ?_
 refine U.pd 1 T ?_
 exact St.wn (j4 _ g)
theorem X3 (s_1:List ApiStuck) (f_c0:ApiRobot) (f_c1:Int) (post:Int→Prop) (g:Qx s_1 f_c0 f_c1 post):
  Tr Tryz.prog 138 [.sl 2 Q7 s_1,.fn (.func 144) [] [.rp [.i f_c0.Cell,.i f_c0.Load,.i f_c0.Charge,.i f_c0.Rest,.i f_c0.Mute,.b f_c0.Dead],.rp [.i f_c1]]] [] 0 (pI post):=by
 refine Tr.go Tryz.func138 Tryz.ntmps138 fun _ _ _ _ o=>?_
 unfold Qx at g
 refine C.ss (U.pd 1 T (C.xs (C.ss ?_)))
 refine U.pd 3 T (C.nx ?_)
 refine C.jn (fun (x5:Unit)=>[]) (fun x5=>[]) 0 g (fun x5 g=>?_) fun J6 g j6=>?_
 refine C.xt (U.pd 1 T (C.nx (C.ret ?_)))
 exact C.f1 T o (pIi g)
 refine C.block (St.wk (C.loop (fun (s7:Int)=>[(0,.sl 2 Q7 s_1),(1,.fn (.func 144) [] [.rp [.i f_c0.Cell,.i f_c0.Load,.i f_c0.Charge,.i f_c0.Rest,.i f_c0.Mute,.b f_c0.Dead],.rp [.i f_c1]]),(7,.i (s_1.length:Int)),(8,.i s7)]) (fun s7=>[]) g (fun s7 Y8 g=>?_)) (Wk.e))
 refine C.ss (U.pd 1 T (C.xs ?_))
 refine C.ite rfl g (fun b11 g=>?_) fun b11 g=>?_
 refine C.skip (C.xs (C.block (C.ss (U.pd 2 T (C.xt ?_)))))
 refine U.ps 3 T rfl ?_
 obtain⟨x16,y16,g⟩:=g
 refine U.ix T y16 ?_
 refine U.ps 1 T rfl (U.k (Q3n x16 f_c0 f_c1 _ g) Q9Y (fun x17 g=>?_))
 refine U.done (C.nx ?_)
 refine C.ite rfl g (fun b18 g=>?_) fun b18 g=>?_
 refine C.ss (U.pd 2 T (C.nx (C.ret (C.brt (C.rt (C.rt (C.brt (C.rt ?_))))))))
 exact C.f1 T o (pIi g)
 refine C.skip (C.bnx (C.nx (U.start (U.pd 2 T (C.nx ?_)))))
 exact St.wk (C.next g) (Wk.e)
 refine C.exit (C.ex (C.ex (C.bex ?_)))
 exact St.wk (j6 _ g) (Wk.mk' [] rfl rfl trivial trivial rfl)
theorem KH (s_1:List ApiStuck) (f_c0:ApiRobot) (f_c1:Int) (post:Bool→Prop) (g:Qj s_1 f_c0 f_c1 post):
  Tr Tryz.prog 145 [.sl 2 Q7 s_1,.fn (.func 144) [] [.rp [.i f_c0.Cell,.i f_c0.Load,.i f_c0.Charge,.i f_c0.Rest,.i f_c0.Mute,.b f_c0.Dead],.rp [.i f_c1]]] [] 0 (pB post):=by
 refine Tr.go Tryz.func145 Tryz.ntmps145 fun _ _ _ _ o=>?_
 unfold Qj at g
 refine C.ss (U.pd 1 T (C.xt ?_))
 refine U.ps 2 T rfl (U.k (X3 s_1 f_c0 f_c1 _ g) Q87 (fun x5 g=>?_))
 refine U.pd 2 T (C.nx (C.ret ?_))
 exact C.f1 T o (pBi g)
theorem YQ (x_1:Int) (post:Bool→Prop) (g:XW x_1 post):
  Tr Tryz.prog 186 [.i x_1] [] 0 (pB post):=by
 refine Tr.go Tryz.func186 Tryz.ntmps186 fun _ _ _ _ o=>?_
 unfold XW at g
 refine C.ss (U.pd 1 T (C.xt ?_))
 refine U.pd 4 T (C.nx (C.ret ?_))
 exact C.f1 T o (pBi g)
theorem Q1L (x_1:Int) (y_1:Int) (post:Bool→Prop) (g:GR x_1 y_1 post):
  Tr Tryz.prog 161 [.i x_1,.i y_1] [] 0 (pB post):=by
 refine Tr.go Tryz.func161 Tryz.ntmps161 fun _ _ _ _ o=>?_
 unfold GR at g
 refine C.ss (U.pd 1 T (C.xs ?_))
 refine C.jn (fun (x3:Bool)=>[(4,.b x3)]) (fun x3=>[]) 0 g (fun x3 g=>?_) fun J4 g j4=>?_
 refine C.nx (C.ret ?_)
 exact C.f1 T o (pBi g)
 refine U.start (U.ps 1 T rfl (U.k (YQ x_1 _ g) Q9j (fun x5 g=>?_)))
 refine U.ps 1 T rfl ?_
 refine g.cs (fun b6 g=>?_) fun b6 g=>?_
 refine U.pq 1 2 true 7 b6 T ?_
 refine U.k (YQ y_1 _ g) Q9j (fun x7 g=>?_) (hw:=.take 2 true 7 _ b6 rfl rfl rfl)
 refine U.pq 1 2 true 7 b6 T ?_
 refine U.pk b6 ?_
 refine U.ps 1 T rfl ?_
 refine g.cs (fun b8 g=>?_) fun b8 g=>?_
 refine U.pq 3 7 false 12 (ntF b8) T ?_
 refine U.pk' (ntF b8) ?_
 refine U.pd 1 T ?_
 exact St.wn (j4 _ g)
 refine U.sk' 3 7 false 12 (ntT b8) ?_
 refine U.pk (ntT b8) ?_
 refine U.pd 1 T ?_
 exact St.wn (j4 _ g)
 refine U.sk' 3 2 true 7 b6 ?_
 refine U.pk' b6 ?_
 refine U.ps 1 T rfl (U.pq 3 7 false 12 rfl T ?_)
 refine U.pk' rfl ?_
 refine U.pd 1 T ?_
 exact St.wn (j4 _ g)
theorem WP (x_1:Int) (post:Bool→Prop) (g:X8 x_1 post):
  Tr Tryz.prog 190 [.i x_1] [] 0 (pB post):=by
 refine Tr.go Tryz.func190 Tryz.ntmps190 fun _ _ _ _ o=>?_
 unfold X8 at g
 refine C.ss (U.pd 1 T (C.xt ?_))
 refine U.pd 4 T (C.nx (C.ret ?_))
 exact C.f1 T o (pBi g)
theorem W9 (x_1:List Int) (target:Int) (post:(Int×Bool)→Prop) (g:K5 x_1 target post):
  Tr Tryz.prog 180 [.sl 1 eI x_1,.i target] [] 0 (fun A H' k=>∃y,post y∧A=(.tup [.i y.1,.b y.2])∧H'=[]∧k=0):=by
 refine Tr.go Tryz.func180 Tryz.ntmps180 fun _ _ _ _ o=>?_
 unfold K5 at g
 refine C.ss (U.pd 2 T (C.xt ?_))
 refine U.pd 3 T (C.xt ?_)
 refine U.pd 3 T (C.xs ?_)
 refine C.jn (fun (x7:Int)=>[(0,.sl 1 eI x_1),(1,.i target),(6,.i (x_1.length:Int)),(7,.i x7)]) (fun x7=>[]) 0 g (fun x7 g=>?_) fun J8 g j8=>?_
 refine C.xs ?_
 refine C.jn (fun (x28:Bool)=>[(4,.i x7),(5,.b x28)]) (fun x28=>[]) 0 g (fun x28 g=>?_) fun J29 g j29=>?_
 refine C.nx (C.ret ?_)
 exact C.f9 T o ⟨(x7,x28),g,rfl,rfl,rfl⟩
 refine U.start (U.ps 5 T rfl ?_)
 refine g.cs (fun b30 g=>?_) fun b30 g=>?_
 refine U.pq 2 4 true 35 b30 T ?_
 obtain⟨x31,y31,g⟩:=g
 refine U.r rfl (.tk 4 true 35 b30) rfl rfl (by exact Rd.ix T rfl rfl rfl rfl rfl rfl y31) ?_
 refine U.pq 4 4 true 35 b30 T ?_
 refine g.cs (fun b32 g=>?_) fun b32 g=>?_
 refine U.sk' 6 11 false 42 b32 ?_
 refine U.sku 2 17 true 48 rfl rfl rfl ?_
 refine U.sk' 1 11 false 42 b32 ?_
 refine U.r rfl (.tk 4 true 35 b30) rfl rfl (by exact Rd.pk rfl rfl b32 rfl) ?_
 refine U.pk b30 ?_
 refine U.pd 2 T ?_
 exact St.wn (j29 _ g)
 refine U.pq 2 11 false 42 b32 T ?_
 refine U.r rfl (.tk 11 false 42 b32) rfl rfl (by exact Rd.ix T rfl rfl rfl rfl rfl rfl y31) ?_
 refine U.pq 1 11 false 42 b32 T ?_
 refine U.k (WP x31 _ g) Q8G (fun x33 g=>?_) (hw:=.take 11 false 42 _ b32 rfl rfl rfl)
 refine U.pq 1 11 false 42 b32 T ?_
 refine g.cs (fun b34 g=>?_) fun b34 g=>?_
 refine U.pq 1 17 true 48 b34 T ?_
 refine U.k (WP target _ g) Q8G (fun x35 g=>?_) (hw:=.take 17 true 48 _ b34 rfl rfl rfl)
 refine U.r rfl (.tk 11 false 42 b32) rfl rfl (by exact Rd.pk rfl rfl b34 rfl) ?_
 refine U.r rfl (.tk 4 true 35 b30) rfl rfl (by exact Rd.pk' rfl rfl b32 rfl) ?_
 refine U.pk b30 ?_
 refine U.pd 2 T ?_
 exact St.wn (j29 _ g)
 refine U.sk' 2 17 true 48 b34 ?_
 refine U.r rfl (.tk 11 false 42 b32) rfl rfl (by exact Rd.pk' rfl rfl b34 rfl) ?_
 refine U.r rfl (.tk 4 true 35 b30) rfl rfl (by exact Rd.pk' rfl rfl b32 rfl) ?_
 refine U.pk b30 ?_
 refine U.pd 2 T ?_
 exact St.wn (j29 _ g)
 refine U.sk' 7 4 true 35 b30 ?_
 refine U.sku 6 11 false 42 rfl rfl rfl ?_
 refine U.sku 2 17 true 48 rfl rfl rfl ?_
 refine U.sku 1 11 false 42 rfl rfl rfl ?_
 refine U.sk' 1 4 true 35 b30 ?_
 refine U.pk' b30 ?_
 refine U.pd 2 T ?_
 exact St.wn (j29 _ g)
 refine C.block (St.wk (C.loop (fun (s9:Int×Int)=>[(0,.sl 1 eI x_1),(1,.i target),(6,.i (x_1.length:Int)),(7,.i s9.1),(8,.i s9.2)]) (fun s9=>[]) g (fun s9 Y10 g=>?_)) (Wk.e))
 refine C.seq (C.ss (U.pd 3 T (C.nx ?_)))
 refine C.ite rfl g (fun b13 g=>?_) fun b13 g=>?_
 refine C.skip (C.nx (C.block (C.ss (U.ps 4 T rfl (U.r rfl (.none rfl) rfl rfl (by exact Rd.sh rfl rfl rfl rfl (by decide)) ?_)))))
 refine U.pd 2 T (C.xt ?_)
 refine U.ps 2 T rfl ?_
 obtain⟨x19,y19,g⟩:=g
 refine U.ix T y19 ?_
 refine U.ps 2 T rfl (U.k (Q1L x19 target _ g) Qav (fun x20 g=>?_))
 refine U.done (C.nx ?_)
 refine C.jn (fun (x21:Int×Int)=>[(0,.sl 1 eI x_1),(1,.i target),(6,.i (x_1.length:Int)),(7,.i x21.1),(8,.i x21.2)]) (fun x21=>[]) 0 g (fun x21 g=>?_) fun J22 g j22=>?_
 refine C.bnx (C.nx ?_)
 exact St.wk (C.next g) (Wk.e)
 refine C.ite rfl g (fun b23 g=>?_) fun b23 g=>?_
 refine U.start (U.pd 3 T ?_)
 exact St.wn (j22 _ g)
 refine U.start (U.pd 2 T ?_)
 exact St.wn (j22 _ g)
 refine C.exit (C.ex (C.ex (C.bex ?_)))
 exact St.wn (j8 _ g)
theorem Q0U (z:Ql) (c0:Int) (post:Bool→Prop) (g:XI z c0 post):
  Tr Tryz.prog 179 [.agg (Q8 z),.rp [.i c0]] [] 0 (pB post):=by
 refine Tr.go Tryz.func179 Tryz.ntmps179 fun _ _ _ _ o=>?_
 unfold XI at g
 refine C.ss (U.bx ?_)
 refine U.pd 1 T (C.xt ?_)
 refine U.ps 3 T rfl (U.k (W9 z.Cells c0 _ g) Q9T (fun x5 g=>?_))
 refine U.pd 5 T (C.xt ?_)
 refine U.pd 2 T (C.nx (C.ret ?_))
 exact C.f1 T o (pBi g)
theorem KU (s_1:List Ql) (f_c0:Int) (post:Int→Prop) (g:Qu s_1 f_c0 post):
  Tr Tryz.prog 80 [.sl 5 Q8 s_1,.fn (.func 179) [] [.rp [.i f_c0]]] [] 0 (pI post):=by
 refine Tr.go Tryz.func80 Tryz.ntmps80 fun _ _ _ _ o=>?_
 unfold Qu at g
 refine C.ss (U.pd 1 T (C.xs (C.ss ?_)))
 refine U.pd 3 T (C.nx ?_)
 refine C.jn (fun (x5:Unit)=>[]) (fun x5=>[]) 0 g (fun x5 g=>?_) fun J6 g j6=>?_
 refine C.xt (U.pd 1 T (C.nx (C.ret ?_)))
 exact C.f1 T o (pIi g)
 refine C.block (St.wk (C.loop (fun (s7:Int)=>[(0,.sl 5 Q8 s_1),(1,.fn (.func 179) [] [.rp [.i f_c0]]),(7,.i (s_1.length:Int)),(8,.i s7)]) (fun s7=>[]) g (fun s7 Y8 g=>?_)) (Wk.e))
 refine C.ss (U.pd 1 T (C.xs ?_))
 refine C.ite rfl g (fun b11 g=>?_) fun b11 g=>?_
 refine C.skip (C.xs (C.block (C.ss (U.pd 2 T (C.xt ?_)))))
 refine U.ps 3 T rfl ?_
 obtain⟨x16,y16,g⟩:=g
 refine U.ix T y16 ?_
 refine U.ps 1 T rfl (U.k (Q0U x16 f_c0 _ g) Q9V (fun x17 g=>?_))
 refine U.done (C.nx ?_)
 refine C.ite rfl g (fun b18 g=>?_) fun b18 g=>?_
 refine C.ss (U.pd 2 T (C.nx (C.ret (C.brt (C.rt (C.rt (C.brt (C.rt ?_))))))))
 exact C.f1 T o (pIi g)
 refine C.skip (C.bnx (C.nx (U.start (U.pd 2 T (C.nx ?_)))))
 exact St.wk (C.next g) (Wk.e)
 refine C.exit (C.ex (C.ex (C.bex ?_)))
 exact St.wk (j6 _ g) (Wk.mk' [] rfl rfl trivial trivial rfl)
theorem Zk (s_1:ApiSite) (c:Int) (post:Int→Prop) (g:XL s_1 c post):
  Tr Tryz.prog 151 [.agg (Q6 s_1),.i c] [] 0 (pI post):=by
 refine Tr.go Tryz.func151 Tryz.ntmps151 fun _ _ _ _ o=>?_
 unfold XL at g
 refine C.ss (U.bx ?_)
 refine U.bx ?_
 refine U.pd 1 T (C.xt ?_)
 refine U.ps 3 T rfl (U.k (KU s_1.Zones c _ g) en80 (fun x5 g=>?_))
 refine U.pd 1 T (C.nx (C.ret ?_))
 exact C.f1 T o (pIi g)
theorem WU (s_1:ApiSite) (c:Int) (post:Bool→Prop) (g:KQ s_1 c post):
  Tr Tryz.prog 174 [.agg (Q6 s_1),.i c] [] 0 (pB post):=by
 refine Tr.go Tryz.func174 Tryz.ntmps174 fun _ _ _ _ o=>?_
 unfold KQ at g
 refine C.ss (U.bx ?_)
 refine U.pd 1 T (C.xs ?_)
 refine C.jn (fun (x3:Bool)=>[(4,.b x3)]) (fun x3=>[]) 0 g (fun x3 g=>?_) fun J4 g j4=>?_
 refine C.nx (C.ret ?_)
 exact C.f1 T o (pBi g)
 refine U.start (U.ps 3 T rfl ?_)
 refine g.cs (fun b5 g=>?_) fun b5 g=>?_
 refine U.pq 6 2 true 7 b5 T ?_
 refine U.pk b5 ?_
 refine U.pd 1 T ?_
 exact St.wn (j4 _ g)
 refine U.sk' 6 2 true 7 b5 ?_
 refine U.pk' b5 ?_
 refine U.pd 1 T ?_
 exact St.wn (j4 _ g)
theorem Q1F (x_1:XP) (c0:Int) (post:Bool→Prop) (g:Gi x_1 c0 post):
  Tr Tryz.prog 176 [.agg [.i x_1.From,.i x_1.To],.rp [.i c0]] [] 0 (pB post):=by
 refine Tr.go Tryz.func176 Tryz.ntmps176 fun _ _ _ _ o=>?_
 unfold Gi at g
 refine C.ss (U.bx ?_)
 refine U.pd 1 T (C.xs ?_)
 refine C.jn (fun (x3:Bool)=>[(3,.b x3)]) (fun x3=>[]) 0 g (fun x3 g=>?_) fun J4 g j4=>?_
 refine C.nx (C.ret ?_)
 exact C.f1 T o (pBi g)
 refine U.start (U.ps 5 T rfl ?_)
 refine g.cs (fun b5 g=>?_) fun b5 g=>?_
 refine U.pq 4 4 true 8 b5 T ?_
 refine U.pk b5 ?_
 refine U.pd 1 T ?_
 exact St.wn (j4 _ g)
 refine U.sk' 4 4 true 8 b5 ?_
 refine U.pk' b5 ?_
 refine U.pd 1 T ?_
 exact St.wn (j4 _ g)
theorem X2 (s_1:List XP) (f_c0:Int) (post:Int→Prop) (g:Qy s_1 f_c0 post):
  Tr Tryz.prog 188 [.sl 2 GS s_1,.fn (.func 176) [] [.rp [.i f_c0]]] [] 0 (pI post):=by
 refine Tr.go Tryz.func188 Tryz.ntmps188 fun _ _ _ _ o=>?_
 unfold Qy at g
 refine C.ss (U.pd 1 T (C.xs (C.ss ?_)))
 refine U.pd 3 T (C.nx ?_)
 refine C.jn (fun (x5:Unit)=>[]) (fun x5=>[]) 0 g (fun x5 g=>?_) fun J6 g j6=>?_
 refine C.xt (U.pd 1 T (C.nx (C.ret ?_)))
 exact C.f1 T o (pIi g)
 refine C.block (St.wk (C.loop (fun (s7:Int)=>[(0,.sl 2 GS s_1),(1,.fn (.func 176) [] [.rp [.i f_c0]]),(7,.i (s_1.length:Int)),(8,.i s7)]) (fun s7=>[]) g (fun s7 Y8 g=>?_)) (Wk.e))
 refine C.ss (U.pd 1 T (C.xs ?_))
 refine C.ite rfl g (fun b11 g=>?_) fun b11 g=>?_
 refine C.skip (C.xs (C.block (C.ss (U.pd 2 T (C.xt ?_)))))
 refine U.ps 3 T rfl ?_
 obtain⟨x16,y16,g⟩:=g
 refine U.ix T y16 ?_
 refine U.ps 1 T rfl (U.k (Q1F x16 f_c0 _ g) Q9O (fun x17 g=>?_))
 refine U.done (C.nx ?_)
 refine C.ite rfl g (fun b18 g=>?_) fun b18 g=>?_
 refine C.ss (U.pd 2 T (C.nx (C.ret (C.brt (C.rt (C.rt (C.brt (C.rt ?_))))))))
 exact C.f1 T o (pIi g)
 refine C.skip (C.bnx (C.nx (U.start (U.pd 2 T (C.nx ?_)))))
 exact St.wk (C.next g) (Wk.e)
 refine C.exit (C.ex (C.ex (C.bex ?_)))
 exact St.wk (j6 _ g) (Wk.mk' [] rfl rfl trivial trivial rfl)
theorem KL (s_1:List XP) (f_c0:Int) (post:Bool→Prop) (g:Qi s_1 f_c0 post):
  Tr Tryz.prog 175 [.sl 2 GS s_1,.fn (.func 176) [] [.rp [.i f_c0]]] [] 0 (pB post):=by
 refine Tr.go Tryz.func175 Tryz.ntmps175 fun _ _ _ _ o=>?_
 unfold Qi at g
 refine C.ss (U.pd 1 T (C.xt ?_))
 refine U.ps 2 T rfl (U.k (X2 s_1 f_c0 _ g) Q9U (fun x5 g=>?_))
 refine U.pd 2 T (C.nx (C.ret ?_))
 exact C.f1 T o (pBi g)
theorem Q3e (s_1:ApiSite) (c:Int) (tick:Int) (post:Bool→Prop) (g:GU s_1 c tick post):
  Tr Tryz.prog 146 [.agg (Q6 s_1),.i c,.i tick] [] 0 (pB post):=by
 refine Tr.go Tryz.func146 Tryz.ntmps146 fun _ _ _ _ o=>?_
 unfold GU at g
 refine C.ss (U.bx ?_)
 refine U.bx ?_
 refine U.pd 1 T (C.xt ?_)
 refine U.ps 2 T rfl (U.k (Zk s_1 c _ g) Q9e (fun x5 g=>?_))
 refine U.pd 1 T (C.xs (C.seq ?_))
 refine C.jn (fun (x6:Bool)=>[(1,.i c),(3,.p 0 0),(5,.p 1 0),(7,.i x5),(18,.b x6)]) (fun x6=>[(0,.box (Q6 s_1)),(1,.box [.i tick])]) 2 g (fun x6 g=>?_) fun J7 g j7=>?_
 refine C.nx ?_
 refine C.ite rfl g (fun b10 g=>?_) fun b10 g=>?_
 refine C.ss (U.ps 2 T rfl (U.k (WU s_1 c _ g) Q7S (fun x13 g=>?_)))
 refine U.pd 1 T (C.nx (C.ret (C.rt ?_)))
 exact C.f1 T o (pBi g)
 refine C.skip (C.xt (U.ps 3 T rfl ?_))
 obtain⟨x16,y16,g⟩:=g
 refine U.ix T y16 ?_
 refine U.ps 3 T rfl (U.k (KL x16.Shut tick _ g) Qac (fun x17 g=>?_))
 refine U.pd 2 T (C.nx (C.ret ?_))
 exact C.f1 T o (pBi g)
 refine U.start (U.ps 2 T rfl (U.k (WU s_1 c _ g) Q7S (fun x8 g=>?_)))
 refine U.ps 2 T rfl ?_
 refine g.cs (fun b9 g=>?_) fun b9 g=>?_
 refine U.pq 2 4 false 15 (ntF b9) T ?_
 refine U.pk' (ntF b9) ?_
 refine U.done ?_
 exact St.wa (idR 2) (j7 _ g)
 refine U.sk' 2 4 false 15 (ntT b9) ?_
 refine U.pk (ntT b9) ?_
 refine U.done ?_
 exact St.wa (idR 2) (j7 _ g)
theorem Q2n (st:ApiState) (post:(List Int)→Prop) (g:Wj st post):
  Tr Tryz.prog 136 [.agg (Q1 st)] [] 0 (fun A H' k=>∃y,post y∧A=(.o 0)∧H'=[(0,.val (.os 1 eI y))]∧k=1):=by
 refine Tr.go Tryz.func136 Tryz.ntmps136 fun _ _ _ _ o=>?_
 unfold Wj at g
 refine C.ss (U.bx ?_)
 refine U.pd 1 T (C.xt ?_)
 refine U.ps 1 T rfl (U.k (Q0t st _ g) en49 (fun x5 g=>?_))
 refine U.pd 1 T (C.xt ?_)
 refine U.ps 1 T rfl (U.c [some 1] (Ke x5 _ g) en92 (fun x8 g=>?_))
 refine U.done (C.xt (U.pd 2 T (C.nx (C.ret ?_))))
 exact C.g1 [some 1] T o ⟨x8,g,rfl,rfl,rfl⟩
theorem Q5d (s_1:ApiSite) (st:ApiState) (r:ApiRobot) (d:Int) (post:Int→Prop) (g:Y5 s_1 st r d post):
  Tr Tryz.prog 112 [.agg (Q6 s_1),.agg (Q1 st),.agg (Q0 r),.i d] [] 0 (pI post):=by
 refine Tr.go Tryz.func112 Tryz.ntmps112 fun _ _ _ _ o=>?_
 unfold Y5 at g
 refine C.ss (U.bx ?_)
 refine U.bx ?_
 refine U.bx ?_
 refine U.pd 1 T (C.xt ?_)
 refine U.ps 5 T rfl (U.k (Gx s_1.Floor r.Cell d _ g) en24 (fun x5 g=>?_))
 refine U.ps 3 T rfl (U.al T ?_)
 refine U.st T ?_
 refine U.pd 1 T (C.xs (C.seq ?_))
 refine C.jn (fun (x6:Bool)=>[(3,.i d),(4,.p 0 0),(5,.p 1 0),(6,.p 2 0),(9,.p 3 0),(29,.b x6)]) (fun x6=>[(0,.box (Q6 s_1)),(1,.box (Q1 st)),(2,.box (Q0 r)),(3,.box [.i x5.1])]) 4 g (fun x6 g=>?_) fun J7 g j7=>?_
 refine C.nx ?_
 refine C.ite rfl g (fun b10 g=>?_) fun b10 g=>?_
 refine C.ss (U.pd 1 T (C.nx (C.ret (C.rt ?_))))
 exact C.f1 T o (pIi g)
 refine C.skip (C.xs (C.seq ?_))
 refine C.jn (fun (x13:Bool)=>[(4,.p 0 0),(5,.p 1 0),(6,.p 2 0),(9,.p 3 0),(35,.b x13)]) (fun x13=>[(0,.box (Q6 s_1)),(1,.box (Q1 st)),(2,.box (Q0 r)),(3,.box [.i x5.1])]) 4 g (fun x13 g=>?_) fun J14 g j14=>?_
 refine C.nx ?_
 refine C.jn (fun (x16:Unit)=>[(4,.p 0 0),(5,.p 1 0),(6,.p 2 0),(9,.p 3 0)]) (fun x16=>[(0,.box (Q6 s_1)),(1,.box (Q1 st)),(2,.box (Q0 r)),(3,.box [.i x5.1])]) 4 g (fun x16 g=>?_) fun J17 g j17=>?_
 refine C.xs (C.ss (U.ps 4 T rfl (U.k (Q3e s_1 x5.1 st.Tick _ g) QaA (fun x29 g=>?_))))
 refine U.pd 1 T (C.nx ?_)
 refine C.ite rfl g (fun b30 g=>?_) fun b30 g=>?_
 refine C.ss (U.pd 1 T (C.nx (C.ret (C.rt ?_))))
 exact C.f1 T o (pIi g)
 refine C.skip (C.xt (U.ps 1 T rfl (U.k (Q2n st _ g) Q8I (fun x35 g=>?_))))
 refine U.pd 1 T (C.xs (C.seq ?_))
 refine C.jn (fun (x36:Bool)=>[(63,.b x36)]) (fun x36=>[]) 0 g (fun x36 g=>?_) fun J37 g j37=>?_
 refine C.nx ?_
 refine C.ite rfl g (fun b44 g=>?_) fun b44 g=>?_
 refine C.ss (U.pd 1 T (C.nx (C.ret (C.rt ?_))))
 exact C.f1 T o (pIi g)
 refine C.skip (C.xt (U.pd 1 T (C.nx (C.ret ?_))))
 exact C.f1 T o (pIi g)
 refine U.start (U.ps 2 T rfl (U.k (Y1 x5.1 _ g) Q5V (fun x38 g=>?_)))
 refine U.k (QL x35 x38 _ g) en54 fun x39 g=>?_
 refine U.ps 1 T rfl ?_
 refine g.cs (fun b40 g=>?_) fun b40 g=>?_
 refine U.sk' 4 4 false 53 b40 ?_
 refine U.sku 4 8 true 57 rfl rfl rfl ?_
 refine U.sk' 1 4 false 53 b40 ?_
 refine U.pk b40 ?_
 refine U.done ?_
 exact St.wn (j37 _ g)
 refine U.pq 4 4 false 53 b40 T ?_
 refine g.cs (fun b41 g=>?_) fun b41 g=>?_
 refine U.pq 2 8 true 57 b41 T ?_
 refine U.k (Wo x5.1 _ g) Q6B (fun x42 g=>?_) (hw:=.take 8 true 57 _ b41 rfl rfl rfl)
 refine U.k (QL x35 x42 _ g) en54 (fun x43 g=>?_) (hw:=.take 8 true 57 _ b41 rfl rfl rfl)
 refine U.r rfl (.tk 4 false 53 b40) rfl rfl (by exact Rd.pk rfl rfl b41 rfl) ?_
 refine U.pk' b40 ?_
 refine U.done ?_
 exact St.wn (j37 _ g)
 refine U.sk' 4 8 true 57 b41 ?_
 refine U.r rfl (.tk 4 false 53 b40) rfl rfl (by exact Rd.pk' rfl rfl b41 rfl) ?_
 refine U.pk' b40 ?_
 refine U.done ?_
 exact St.wn (j37 _ g)
 refine C.ite rfl g (fun b18 g=>?_) fun b18 g=>?_
 refine C.ss (U.pd 2 T (C.xt ?_))
 refine U.ps 3 T rfl (U.k (KH st.Stuck r x5.1 _ g) Q9Z (fun x23 g=>?_))
 refine U.done (C.nx ?_)
 refine C.ite rfl g (fun b24 g=>?_) fun b24 g=>?_
 refine C.ss (U.pd 1 T (C.nx (C.ret (C.rt ?_))))
 exact C.f1 T o (pIi g)
 refine C.skip ?_
 exact St.wa (idR 4) (j17 _ g)
 refine C.skip ?_
 exact St.wa (idR 4) (j17 _ g)
 refine U.start (U.ps 3 T rfl ?_)
 refine g.cs (fun b15 g=>?_) fun b15 g=>?_
 refine U.sk' 2 2 false 32 b15 ?_
 refine U.pk b15 ?_
 refine U.done ?_
 exact St.wa (idR 4) (j14 _ g)
 refine U.pq 2 2 false 32 b15 T ?_
 refine U.pk' b15 ?_
 refine U.done ?_
 exact St.wa (idR 4) (j14 _ g)
 refine U.start (U.ps 3 T rfl ?_)
 refine g.cs (fun b8 g=>?_) fun b8 g=>?_
 refine U.pq 3 2 false 24 (ntF b8) T ?_
 refine U.k (QL st.Dead x5.1 _ g) en54 (fun x9 g=>?_) (hw:=.take 2 false 24 _ (ntF b8) rfl rfl rfl)
 refine U.pk' (ntF b8) ?_
 refine U.done ?_
 exact St.wa (idR 4) (j7 _ g)
 refine U.sk' 4 2 false 24 (ntT b8) ?_
 refine U.pk (ntT b8) ?_
 refine U.done ?_
 exact St.wa (idR 4) (j7 _ g)
theorem WW (s_1:List Int) (post:(List Int)→Prop) (g:Kv s_1 post):
  Tr Tryz.prog 178 [.sl 1 eI s_1] [] 0 (fun A H' k=>∃y,post y∧A=(.fn (.func 189) [] [.p 0 0])∧H'=[(0,.box [.sl 1 eI y])]∧k=1):=by
 refine Tr.go Tryz.func178 Tryz.ntmps178 fun _ _ _ _ o=>?_
 unfold Kv at g
 refine C.ss (U.bx ?_)
 refine U.pd 1 T (C.xt ?_)
 refine U.pd 2 T (C.nx (C.ret ?_))
 exact C.g1 [some 0] T o ⟨(s_1),g,rfl,rfl,rfl⟩
theorem Q0Q (st:ApiState) (post:(List (Int×Int))→Prop) (g:XG st post):
  Tr Tryz.prog 150 [.agg (Q1 st)] [] 0 (fun A H' k=>∃y,post y∧A=(.o 0)∧H'=[(0,.val (.om kI veI y))]∧k=1):=by
 refine Tr.go Tryz.func150 Tryz.ntmps150 fun _ _ _ _ o=>?_
 unfold XG at g
 refine C.ss (U.bx ?_)
 refine U.pd 1 T (C.xt ?_)
 refine U.e1 rfl (.none rfl) (by exact Eff1.mm kI veB rfl rfl rfl) ?_
 refine U.al T ?_
 refine U.st T ?_
 refine U.done (C.xs (C.ss (U.pd 4 T (C.nx ?_))))
 refine C.jn (fun (x7:List (Int×Bool))=>[(1,.p 0 0),(3,.p 1 0)]) (fun x7=>[(0,.box (Q1 st)),(1,.box [.o 2]),(2,.val (.om kI veB x7))]) 3 g (fun x7 g=>?_) fun J8 g j8=>?_
 refine C.xt (U.e1 rfl (.none rfl) (by exact Eff1.mm kI veI rfl rfl rfl) ?_)
 refine U.al T ?_
 refine U.st T ?_
 refine U.done (C.xs (C.ss (U.ps 2 T rfl (U.e rfl (.none rfl) (by exact Eff.c [] (v:=false) (WW st.Shelves _ g) Qap rfl rfl rfl (.eq rfl) trivial rfl rfl rfl rfl rfl rfl (fun h=>by cases h) (.inr ⟨rfl,rfl⟩) (fun _=>rfl) (fun _=>rfl) rfl) (fun x25' g=>?_)))))
 obtain⟨x25⟩:=x25'
 refine U.done (C.nx (C.block ?_))
 refine St.wk (Γ':=[(1,.p 0 0),(3,.p 1 0),(6,.p 3 0),(21,.o 4),(22,.p 0 1),(23,.sl 1 eI st.Shelves),(24,.fn (.func 189) [] [.rp [.sl 1 eI x25]])]) (H':=[(0,.box (Q1 st)),(1,.box [.o 2]),(2,.val (.om kI veB x7)),(3,.box [.o 4]),(4,.val (.om kI veI ([]:List (Int×Int))))]) (nl':=5) ?_ (Wk.mk' [some 0,some 1,some 2,some 4,some 3] rfl rfl ⟨⟨_,rfl,(.eq rfl)⟩,⟨_,rfl,(.eq rfl)⟩,⟨_,rfl,(.eq rfl)⟩,⟨_,rfl,(.eq rfl)⟩,⟨_,rfl,(.eq rfl)⟩,⟨_,rfl,(.eq rfl)⟩,⟨_,rfl,(.fn (.eq rfl) (.cons (.fzp rfl rfl rfl rfl (.eq rfl) rfl) .nil))⟩,trivial⟩ ⟨bX,bX,vL,bX,vL,trivial⟩ rfl)
 obtain⟨y29,g⟩:=g
 refine St.wk (C.range (Γ0:=[(3,.p 0 0),(6,.p 1 0),(24,.fn (.func 189) [] [.rp [.sl 1 eI x25]])]) (Γ1:=fun (x26:Int×Int)=>[(8,.i x26.2),(7,.i x26.1),(26,.i x26.2),(25,.i x26.1),(3,.p 0 0),(6,.p 1 0),(24,.fn (.func 189) [] [.rp [.sl 1 eI x25]])]) (Hf:=fun (s27:List (Int×Int))=>[(0,.box [.o 2]),(1,.box [.o 3]),(2,.val (.om kI veB x7)),(3,.val (.om kI veI s27))]) 2 g (Qai x25 y29) Qaf rfl rfl rfl rfl rfl (fun _=>rfl) rfl rfl (fun _=>rfl) (fun x26 s27 Y28 g w0 ok M β l=>?_) (fun s37 g=>?_)) (Wk.a [some 1,some 3,some 2,some 4])
 refine CI.block ?_
 refine CI.seq ?_
 refine UI.start (by kernel_rfl) (by repeat (first | exact Yy.rnd | refine Yy.th ?_ | refine Yy.blk ?_)) ?_
 refine U.ps 2 T rfl (U.r rfl (.none rfl) rfl rfl (by exact Rd.lk T (ke:=kI) (ve:=veB) (xs:=x7) (z0:=false) (x:=x26.1) rfl rfl kt3 zt4 (fun _=>rfl) rfl (.o rfl) rfl rfl rfl) ?_)
 refine U.pd 1 T (C.nx ?_)
 refine CI.jn (fun (x32:List (Int×Int))=>[]) (fun (x32:List (Int×Int))=>[(0,.box [.o 2]),(1,.box [.o 3]),(2,.val (.om kI veB x7)),(3,.val (.om kI veI x32))]) 4 g (fun x32 g=>?_) fun J33 g j33=>?_
 refine C.bnx ?_
 exact St.wk (CI.next g) (Wk.mk' [some 0,some 1,some 2,some 3] rfl rfl trivial ⟨bX,bX,vL,vL,trivial⟩ rfl)
 refine CI.ite rfl g (fun b34 g=>?_) fun b34 g=>?_
 refine UI.start (by kernel_rfl) (by repeat (first | exact Yy.rnd | refine Yy.th ?_ | refine Yy.blk ?_)) ?_
 refine U.ps 3 T rfl (U.e1 rfl (.none rfl) (by exact Eff1.mu T (x:=x26.2) (y:=x26.1) (.inl rfl) rfl kt3 (fun _=>rfl) rfl rfl rfl rfl rfl (.inl rfl) rfl) ?_)
 refine U.done ?_
 exact St.wk (j33 _ g) (Wk.mk' [some 0,some 1,some 2,some 3] rfl rfl trivial ⟨bX,bX,vL,vL,trivial⟩ rfl)
 refine CI.skip ?_
 exact St.wk (j33 _ g) (Wk.mk' [some 0,some 1,some 2,some 3] rfl rfl trivial ⟨bX,bX,vL,vL,trivial⟩ rfl)
 refine C.bnx (C.xt (U.pd 2 T (C.nx (C.ret ?_))))
 exact C.g1 [some 3] T o ⟨s37,g,rfl,rfl,rfl⟩
 refine C.block (St.wk (C.loop (fun (s9:List (Int×Bool)×Int)=>[(1,.p 0 0),(3,.p 1 0),(11,.sl 6 Q0 st.Robots),(12,.i (st.Robots.length:Int)),(13,.i s9.2)]) (fun s9=>[(0,.box (Q1 st)),(1,.box [.o 2]),(2,.val (.om kI veB s9.1))]) g (fun s9 Y10 g=>?_)) (Wk.a [some 0,some 2,some 1]))
 refine C.ss (U.pd 1 T (C.xs ?_))
 refine C.ite rfl g (fun b13 g=>?_) fun b13 g=>?_
 refine C.skip (C.xs (C.block (C.ss ?_)))
 obtain⟨x16,y16,g⟩:=g
 refine U.ix T y16 ?_
 refine U.ps 1 T rfl (U.al T ?_)
 refine U.st T ?_
 refine U.done (C.nx (U.start (U.ps 3 T rfl (U.e1 rfl (.none rfl) (by exact Eff1.mu T (x:=x16.Load) (y:=true) (.inl rfl) rfl kt3 (fun _=>rfl) rfl rfl rfl rfl rfl (.inl rfl) rfl) ?_))))
 refine U.done (C.bnx (C.nx (U.start (U.pd 2 T (C.nx ?_)))))
 exact St.wk (C.next g) (Wk.a (idR 3))
 refine C.exit (C.ex (C.ex (C.bex ?_)))
 exact St.wa (idR 3) (j8 _ g)
theorem Q26 (s_1:ApiSite) (st:ApiState) (c:Int) (post:Int→Prop) (g:Wi s_1 st c post):
  Tr Tryz.prog 115 [.agg (Q6 s_1),.agg (Q1 st),.i c] [] 0 (pI post):=by
 refine Tr.go Tryz.func115 Tryz.ntmps115 fun _ _ _ _ o=>?_
 unfold Wi at g
 refine C.ss (U.bx ?_)
 refine U.bx ?_
 refine U.pd 1 T (C.xs (C.ss ?_))
 refine U.ps 1 T rfl (U.k (Q0Q st _ g) Qaq (fun x5 g=>?_))
 refine U.ps 1 T rfl (U.r rfl (.none rfl) rfl rfl (by exact Rd.lk2 T (ke:=kI) (ve:=veI) (xs:=x5) (z0:=0) (x:=c) rfl rfl kt3 zt3 (fun _=>rfl) rfl (.o rfl) rfl rfl rfl) ?_)
 refine U.pd 5 T (C.xt ?_)
 refine U.pd 1 T (C.nx ?_)
 refine C.ite rfl g (fun b8 g=>?_) fun b8 g=>?_
 refine C.ss (U.pd 2 T (C.nx (C.ret (C.rt ?_))))
 exact C.f1 T o (pIi g)
 refine C.skip (C.xt (U.pd 1 T (C.nx (C.ret ?_))))
 exact C.f1 T o (pIi g)
theorem Q57 (s_1:ApiSite) (st:ApiState) (r:ApiRobot) (post:Int→Prop) (g:Za s_1 st r post):
  Tr Tryz.prog 113 [.agg (Q6 s_1),.agg (Q1 st),.agg (Q0 r)] [] 0 (pI post):=by
 refine Tr.go Tryz.func113 Tryz.ntmps113 fun _ _ _ _ o=>?_
 unfold Za at g
 refine C.ss (U.bx ?_)
 refine U.bx ?_
 refine U.bx ?_
 refine U.pd 1 T (C.xs (C.ss ?_))
 refine U.pd 3 T (C.nx ?_)
 refine C.ite rfl g (fun b5 g=>?_) fun b5 g=>?_
 refine C.ss (U.pd 1 T (C.nx (C.ret (C.rt ?_))))
 exact C.f1 T o (pIi g)
 refine C.skip (C.xs (C.ss (U.ps 4 T rfl (U.k (Q26 s_1 st r.Cell _ g) Q9n (fun x10 g=>?_)))))
 refine U.pd 1 T (C.nx ?_)
 refine C.ite rfl g (fun b11 g=>?_) fun b11 g=>?_
 refine C.ss (U.pd 1 T (C.nx (C.ret (C.rt ?_))))
 exact C.f1 T o (pIi g)
 refine C.skip (C.xt (U.pd 1 T (C.nx (C.ret ?_))))
 exact C.f1 T o (pIi g)
theorem Q1w (s_1:ApiSite) (c:Int) (post:Bool→Prop) (g:Gl s_1 c post):
  Tr Tryz.prog 147 [.agg (Q6 s_1),.i c] [] 0 (pB post):=by
 refine Tr.go Tryz.func147 Tryz.ntmps147 fun _ _ _ _ o=>?_
 unfold Gl at g
 refine C.ss (U.bx ?_)
 refine U.pd 1 T (C.xs ?_)
 refine C.jn (fun (x3:Bool)=>[(4,.b x3)]) (fun x3=>[]) 0 g (fun x3 g=>?_) fun J4 g j4=>?_
 refine C.nx (C.ret ?_)
 exact C.f1 T o (pBi g)
 refine U.start (U.ps 2 T rfl (U.k (WU s_1 c _ g) Q7S (fun x5 g=>?_)))
 refine U.ps 1 T rfl ?_
 refine g.cs (fun b6 g=>?_) fun b6 g=>?_
 refine U.pq 4 3 true 8 b6 T ?_
 obtain⟨x7,y7,g⟩:=g
 refine U.r rfl (.tk 3 true 8 b6) rfl rfl (by exact Rd.ix T rfl rfl rfl rfl rfl rfl y7) ?_
 refine U.pq 3 3 true 8 b6 T ?_
 refine g.cs (fun b8 g=>?_) fun b8 g=>?_
 refine U.sk' 7 11 false 16 b8 ?_
 refine U.r rfl (.tk 3 true 8 b6) rfl rfl (by exact Rd.pk rfl rfl b8 rfl) ?_
 refine U.pk b6 ?_
 refine U.pd 1 T ?_
 exact St.wn (j4 _ g)
 refine U.pq 4 11 false 16 b8 T ?_
 refine U.r rfl (.tk 11 false 16 b8) rfl rfl (by exact Rd.ix T rfl rfl rfl rfl rfl rfl y7) ?_
 refine U.pq 2 11 false 16 b8 T ?_
 refine U.r rfl (.tk 3 true 8 b6) rfl rfl (by exact Rd.pk' rfl rfl b8 rfl) ?_
 refine U.pk b6 ?_
 refine U.pd 1 T ?_
 exact St.wn (j4 _ g)
 refine U.sk' 8 3 true 8 b6 ?_
 refine U.sku 7 11 false 16 rfl rfl rfl ?_
 refine U.sk' 1 3 true 8 b6 ?_
 refine U.pk' b6 ?_
 refine U.pd 1 T ?_
 exact St.wn (j4 _ g)
theorem Q0H (f:ApiFloor) (a:Int) (b:Int) (post:Bool→Prop) (g:Gv f a b post):
  Tr Tryz.prog 137 [.agg (Qc f),.i a,.i b] [] 0 (pB post):=by
 refine Tr.go Tryz.func137 Tryz.ntmps137 fun _ _ _ _ o=>?_
 unfold Gv at g
 refine C.ss (U.bx ?_)
 refine U.pd 1 T (C.xs (C.ss ?_))
 refine U.ps 2 T rfl (U.k (GN f b _ g) Q4c (fun x5 g=>?_))
 refine U.pd 1 T (C.nx ?_)
 refine C.ite rfl g (fun b6 g=>?_) fun b6 g=>?_
 refine C.ss (U.pd 1 T (C.nx (C.ret (C.rt ?_))))
 exact C.f1 T o (pBi g)
 refine C.skip (C.xs (C.ss (U.pd 2 T (C.nx ?_))))
 refine C.jn (fun (x11:Unit)=>[]) (fun x11=>[]) 0 g (fun x11 g=>?_) fun J12 g j12=>?_
 refine C.xt (U.pd 1 T (C.nx (C.ret ?_)))
 exact C.f1 T o (pBi g)
 refine C.block (St.wk (C.loop (fun (s13:Int)=>[(1,.i a),(2,.i b),(3,.p 0 0),(13,.agg [.i 0,.i 1,.i 2,.i 3]),(14,.i s13)]) (fun s13=>[(0,.box (Qc f))]) g (fun s13 Y14 g=>?_)) (Wk.a [some 0]))
 refine C.ss (U.pd 1 T (C.xs ?_))
 refine C.ite rfl g (fun b17 g=>?_) fun b17 g=>?_
 refine C.skip (C.xs (C.block (C.ss ?_)))
 obtain⟨x20,y20,g⟩:=g
 refine U.r rfl (.none rfl) rfl rfl (by exact Rd.ia1 T (enc:=eI) rfl rfl rfl rfl rfl rfl rfl rfl rfl (fun _=>rfl) rfl y20) ?_
 refine U.pd 1 T (C.xt ?_)
 refine U.ps 3 T rfl (U.k (WV f a x20 _ g) en64 (fun x23 g=>?_))
 refine U.pd 2 T (C.nx ?_)
 refine C.ite rfl g (fun b24 g=>?_) fun b24 g=>?_
 refine C.ss (U.pd 1 T (C.nx (C.ret (C.brt (C.rt (C.rt (C.brt (C.rt ?_))))))))
 exact C.f1 T o (pBi g)
 refine C.skip (C.bnx (C.nx (U.start (U.pd 2 T (C.nx ?_)))))
 exact St.wk (C.next g) (Wk.a [some 0])
 refine C.exit (C.ex (C.ex (C.bex ?_)))
 exact St.wk (j12 _ g) (Wk.mk' [] rfl rfl trivial trivial rfl)
theorem ZT (s_1:ApiSite) (shelf:Int) (post:ByteArray→Prop) (g:G8 s_1 shelf post):
  Tr Tryz.prog 149 [.agg (Q6 s_1),.i shelf] [] 0 (fun A H' k=>∃y,post y∧A=(.v (.string y))∧H'=[]∧k=0):=by
 refine Tr.go Tryz.func149 Tryz.ntmps149 fun _ _ _ _ o=>?_
 unfold G8 at g
 refine C.ss (U.bx ?_)
 refine U.pd 1 T (C.xs (C.seq ?_))
 refine C.jn (fun (x3:Bool)=>[(1,.i shelf),(2,.p 0 0),(13,.b x3)]) (fun x3=>[(0,.box (Q6 s_1))]) 1 g (fun x3 g=>?_) fun J4 g j4=>?_
 refine C.nx ?_
 refine C.ite rfl g (fun b6 g=>?_) fun b6 g=>?_
 refine C.ss (U.pd 1 T (C.nx (C.ret (C.rt ?_))))
 exact C.f1 T o ⟨ByteArray.empty,g,rfl,rfl,rfl⟩
 refine C.skip (C.xt (U.ps 3 T rfl ?_))
 obtain⟨x11,y11,g⟩:=g
 refine U.ix T y11 ?_
 refine U.pd 3 T (C.nx (C.ret ?_))
 exact C.f1 T o ⟨x11.Class,g,rfl,rfl,rfl⟩
 refine U.start (U.ps 3 T rfl ?_)
 refine g.cs (fun b5 g=>?_) fun b5 g=>?_
 refine U.sk' 5 2 false 7 b5 ?_
 refine U.pk b5 ?_
 refine U.done ?_
 exact St.wa [some 0] (j4 _ g)
 refine U.pq 5 2 false 7 b5 T ?_
 refine U.pk' b5 ?_
 refine U.done ?_
 exact St.wa [some 0] (j4 _ g)
theorem Q1k (s_1:ApiSite) (post:(List (Qb×Bool))→Prop) (g:G3 s_1 post):
  Tr Tryz.prog 177 [.agg (Q6 s_1)] [] 0 (fun A H' k=>∃y,post y∧A=(.o 0)∧H'=[(0,.val (.om Y6 veB y))]∧k=1):=by
 refine Tr.go Tryz.func177 Tryz.ntmps177 fun _ _ _ _ o=>?_
 unfold G3 at g
 refine C.ss (U.bx ?_)
 refine U.pd 1 T (C.xt ?_)
 refine U.e1 rfl (.none rfl) (by exact Eff1.mm Y6 veB rfl rfl rfl) ?_
 refine U.pd 1 T (C.xs (C.ss ?_))
 refine U.pd 4 T (C.nx ?_)
 refine C.jn (fun (x7:List (Qb×Bool))=>[(3,.o 0)]) (fun x7=>[(0,.val (.om Y6 veB x7))]) 1 g (fun x7 g=>?_) fun J8 g j8=>?_
 refine C.xt (U.pd 2 T (C.nx (C.ret ?_)))
 exact C.g1 [some 0] T o ⟨x7,g,rfl,rfl,rfl⟩
 refine C.block (St.wk (C.loop (fun (s9:List (Qb×Bool)×Int)=>[(3,.o 0),(8,.sl 2 Q3 s_1.Aparts),(9,.i (s_1.Aparts.length:Int)),(10,.i s9.2)]) (fun s9=>[(0,.val (.om Y6 veB s9.1))]) g (fun s9 Y10 g=>?_)) (Wk.a [some 1]))
 refine C.ss (U.pd 1 T (C.xs ?_))
 refine C.ite rfl g (fun b13 g=>?_) fun b13 g=>?_
 refine C.skip (C.xs (C.block (C.ss ?_)))
 obtain⟨x16,y16,g⟩:=g
 refine U.ix T y16 ?_
 refine U.ps 1 T rfl (U.al T ?_)
 refine U.st T ?_
 refine U.done (C.nx (D.bq mix 9 [1] [0] (fun hQ hS ws M'=>?_)))
 refine D.pq 8 (zl [0,1,2,3,4,5,6,7]) T ?_
 refine D.e1 8 rfl (.none rfl) (by exact Eff1.mu T (x:=x16) (y:=true) (.inl rfl) rfl kt69 (fun _=>rfl) rfl rfl rfl rfl rfl (.inl rfl) rfl) (by kernel_rfl) rfl rfl ?_
 refine D.ze1 rfl (.none rfl) (by exact Eff1.mu T (x:=({A:=x16.B,B:=x16.A:Qb})) (y:=true) (.inl rfl) rfl kt69 (fun _=>rfl) rfl rfl rfl rfl rfl (.inl rfl) rfl) (by kernel_rfl) (by kernel_rfl) ?_
 refine C.bnx (C.nx (U.start (U.pd 2 T (C.nx ?_))))
 exact St.wk (C.next g) (Wk.a [some 0])
 refine C.exit (C.ex (C.ex (C.bex ?_)))
 exact St.wa [some 0] (j8 _ g)
theorem Q2Z (s_1:ApiSite) (a:ByteArray) (b:ByteArray) (post:Bool→Prop) (g:GI s_1 a b post):
  Tr Tryz.prog 148 [.agg (Q6 s_1),.v (.string a),.v (.string b)] [] 0 (pB post):=by
 refine Tr.go Tryz.func148 Tryz.ntmps148 fun _ _ _ _ o=>?_
 unfold GI at g
 refine C.ss (U.bx ?_)
 refine U.pd 1 T (C.xs ?_)
 refine C.jn (fun (x3:Bool)=>[(6,.b x3)]) (fun x3=>[]) 0 g (fun x3 g=>?_) fun J4 g j4=>?_
 refine C.nx (C.ret ?_)
 exact C.f1 T o (pBi g)
 refine U.start (U.ps 3 T rfl ?_)
 refine g.cs (fun b5 g=>?_) fun b5 g=>?_
 refine U.sk' 2 2 true 9 (ntF b5) ?_
 refine U.pk' (ntF b5) ?_
 refine U.ps 1 T rfl (U.sk' 6 6 true 13 rfl ?_)
 refine U.pk' rfl ?_
 refine U.pd 1 T ?_
 exact St.wn (j4 _ g)
 refine U.pq 2 2 true 9 (ntT b5) T ?_
 refine U.pk (ntT b5) ?_
 refine U.ps 1 T rfl ?_
 refine g.cs (fun b6 g=>?_) fun b6 g=>?_
 refine U.sk' 6 6 true 13 (ntF b6) ?_
 refine U.pk' (ntF b6) ?_
 refine U.pd 1 T ?_
 exact St.wn (j4 _ g)
 refine U.pq 1 6 true 13 (ntT b6) T ?_
 refine U.k (Q1k s_1 _ g) Qa7 (fun x7 g=>?_) (hw:=.take 6 true 13 _ (ntT b6) rfl rfl rfl)
 refine U.pq 3 6 true 13 (ntT b6) T ?_
 refine U.r rfl (.tk 6 true 13 (ntT b6)) rfl rfl (by exact Rd.lk T (ke:=Y6) (ve:=veB) (xs:=x7) (z0:=false) (x:=({A:=a,B:=b:Qb})) rfl rfl kt69 zt4 (fun _=>rfl) rfl (.o rfl) rfl rfl rfl) ?_
 refine U.pk (ntT b6) ?_
 refine U.pd 1 T ?_
 exact St.wn (j4 _ g)
theorem Q3i (s_1:ApiSite) (st:ApiState) (shelf:Int) (c:Int) (post:Int→Prop) (g:GZ s_1 st shelf c post):
  Tr Tryz.prog 114 [.agg (Q6 s_1),.agg (Q1 st),.i shelf,.i c] [] 0 (pI post):=by
 refine Tr.go Tryz.func114 Tryz.ntmps114 fun _ _ _ _ o=>?_
 unfold GZ at g
 refine C.ss (U.bx ?_)
 refine U.bx ?_
 refine U.pd 1 T (C.xs (C.block (C.seq ?_)))
 refine C.jn (fun (x3:Bool)=>[(2,.i shelf),(3,.i c),(4,.p 0 0),(5,.p 1 0),(12,.b x3)]) (fun x3=>[(0,.box (Q6 s_1)),(1,.box (Q1 st))]) 2 g (fun x3 g=>?_) fun J4 g j4=>?_
 refine C.nx ?_
 refine C.ite rfl g (fun b6 g=>?_) fun b6 g=>?_
 refine C.ss (U.pd 1 T (C.nx (C.ret (C.brt (C.rt ?_)))))
 exact C.f1 T o (pIi g)
 refine C.ss (U.ps 2 T rfl (U.k (Q1w s_1 c _ g) Q9I (fun x11 g=>?_)))
 refine U.pd 2 T (C.nx ?_)
 refine C.ite rfl g (fun b12 g=>?_) fun b12 g=>?_
 refine C.ss (U.pd 1 T (C.nx (C.ret (C.brt (C.rt ?_)))))
 exact C.f1 T o (pIi g)
 refine C.skip (C.bnx (C.xt (U.pd 1 T (C.xs (C.ss ?_)))))
 refine U.pd 4 T (C.nx ?_)
 refine C.jn (fun (x19:Int)=>[(9,.i x19)]) (fun x19=>[]) 0 g (fun x19 g=>?_) fun J20 g j20=>?_
 refine C.xt (U.pd 2 T (C.nx (C.ret ?_)))
 exact C.f1 T o (pIi g)
 refine C.block (St.wk (C.loop (fun (s21:Int×Int)=>[(2,.i shelf),(3,.i c),(4,.p 0 0),(5,.p 1 0),(9,.i s21.1),(28,.sl 1 eI st.Shelves),(29,.i (st.Shelves.length:Int)),(30,.i s21.2)]) (fun s21=>[(0,.box (Q6 s_1)),(1,.box (Q1 st))]) g (fun s21 Y22 g=>?_)) (Wk.a (idR 2)))
 refine C.ss (U.pd 1 T (C.xs ?_))
 refine C.ite rfl g (fun b25 g=>?_) fun b25 g=>?_
 refine C.skip (C.xs ?_)
 refine C.jn (fun (x26:Int)=>[(2,.i shelf),(3,.i c),(4,.p 0 0),(5,.p 1 0),(9,.i x26),(28,.sl 1 eI st.Shelves),(29,.i (st.Shelves.length:Int)),(30,.i s21.2)]) (fun x26=>[(0,.box (Q6 s_1)),(1,.box (Q1 st))]) 2 g (fun x26 g=>?_) fun J27 g j27=>?_
 refine C.nx (U.start (U.pd 2 T (C.nx ?_)))
 exact St.wk (C.next g) (Wk.a (idR 2))
 refine C.block (C.ss (U.ps 1 T rfl ?_))
 obtain⟨x30,y30,g⟩:=g
 refine U.ix T y30 ?_
 refine U.pd 3 T (C.xs (C.seq ?_))
 refine C.jn (fun (x31:Bool)=>[(2,.i shelf),(3,.i c),(4,.p 0 0),(5,.p 1 0),(9,.i s21.1),(10,.i s21.2),(11,.i x30),(28,.sl 1 eI st.Shelves),(29,.i (st.Shelves.length:Int)),(30,.i s21.2),(56,.b x31)]) (fun x31=>[(0,.box (Q6 s_1)),(1,.box (Q1 st))]) 2 g (fun x31 g=>?_) fun J32 g j32=>?_
 refine C.nx ?_
 refine C.ite rfl g (fun b39 g=>?_) fun b39 g=>?_
 refine C.exit (C.ex (C.bex ?_))
 exact St.wa (idR 2) (j27 _ g)
 refine C.skip (C.xs (C.ss (U.pd 3 T (C.nx ?_))))
 refine C.ite rfl g (fun b42 g=>?_) fun b42 g=>?_
 refine C.ss (U.pd 1 T (C.nx (C.ret (C.rt (C.brt (C.rt (C.rt (C.brt (C.rt ?_)))))))))
 exact C.f1 T o (pIi g)
 refine C.skip (C.xs (D.bq mix 7 [0] [] (fun hQ hS ws M'=>?_)))
 refine D.pq 5 [(0,[]),(1,[3]),(2,[3]),(4,[6]),(5,[6])] T ?_
 refine D.k 3 (ZT s_1 shelf _ g) Q9b fun x47 g=>?_
 refine D.k 6 (ZT s_1 s21.2 _ g) Q9b fun x48 g=>?_
 refine D.ze rfl (.none rfl) (by exact Eff.k (Q2Z s_1 x47 x48 _ g) Qar rfl rfl rfl (.eq rfl) (fun _ _=>⟨(.v _),trivial⟩)) (by kernel_rfl) (by kernel_rfl) (fun x49' g=>?_)
 obtain⟨x49⟩:=x49'
 refine C.nx ?_
 refine C.jn (fun (x50:Int)=>[(2,.i shelf),(3,.i c),(4,.p 0 0),(5,.p 1 0),(9,.i x50),(28,.sl 1 eI st.Shelves),(29,.i (st.Shelves.length:Int)),(30,.i s21.2)]) (fun x50=>[(0,.box (Q6 s_1)),(1,.box (Q1 st))]) 2 g (fun x50 g=>?_) fun J51 g j51=>?_
 refine C.bnx ?_
 exact St.wa (idR 2) (j27 _ g)
 refine C.ite rfl g (fun b52 g=>?_) fun b52 g=>?_
 refine U.start (U.pd 1 T ?_)
 exact St.wa (idR 2) (j51 _ g)
 refine C.skip ?_
 exact St.wa (idR 2) (j51 _ g)
 refine U.start (U.ps 4 T rfl ?_)
 refine g.cs (fun b33 g=>?_) fun b33 g=>?_
 refine U.sk' 4 3 false 38 b33 ?_
 refine U.sku 6 7 true 42 rfl rfl rfl ?_
 refine U.sk' 1 3 false 38 b33 ?_
 refine U.pk b33 ?_
 refine U.ps 1 T rfl (U.sk' 4 16 false 51 rfl ?_)
 refine U.pk rfl ?_
 refine U.done ?_
 exact St.wa (idR 2) (j32 _ g)
 refine U.pq 4 3 false 38 b33 T ?_
 refine g.cs (fun b34 g=>?_) fun b34 g=>?_
 refine U.pq 4 7 true 42 b34 T ?_
 refine U.k (Q0H s_1.Floor x30 c _ g) Q96 (fun x35 g=>?_) (hw:=.take 7 true 42 _ b34 rfl rfl rfl)
 refine U.pq 1 7 true 42 b34 T ?_
 refine U.r rfl (.tk 3 false 38 b33) rfl rfl (by exact Rd.pk rfl rfl b34 rfl) ?_
 refine U.pk' b33 ?_
 refine U.ps 1 T rfl ?_
 refine g.cs (fun b36 g=>?_) fun b36 g=>?_
 refine U.pq 2 16 false 51 (ntF b36) T ?_
 refine U.k (Wq st s21.2 _ g) en98 (fun x37 g=>?_) (hw:=.take 16 false 51 _ (ntF b36) rfl rfl rfl)
 refine U.pq 1 16 false 51 (ntF b36) T ?_
 refine U.pk' (ntF b36) ?_
 refine U.done ?_
 exact St.wa (idR 2) (j32 _ g)
 refine U.sk' 4 16 false 51 (ntT b36) ?_
 refine U.pk (ntT b36) ?_
 refine U.done ?_
 exact St.wa (idR 2) (j32 _ g)
 refine U.sk' 6 7 true 42 b34 ?_
 refine U.r rfl (.tk 3 false 38 b33) rfl rfl (by exact Rd.pk' rfl rfl b34 rfl) ?_
 refine U.pk' b33 ?_
 refine U.ps 1 T rfl (U.pq 2 16 false 51 rfl T ?_)
 refine U.k (Wq st s21.2 _ g) en98 (fun x38 g=>?_) (hw:=.take 16 false 51 _ rfl rfl rfl rfl)
 refine U.pq 1 16 false 51 rfl T ?_
 refine U.pk' rfl ?_
 refine U.done ?_
 exact St.wa (idR 2) (j32 _ g)
 refine C.exit (C.ex (C.ex (C.bex ?_)))
 exact St.wn (j20 _ g)
 refine U.start (U.ps 3 T rfl ?_)
 refine g.cs (fun b5 g=>?_) fun b5 g=>?_
 refine U.sk' 5 2 false 15 b5 ?_
 refine U.pk b5 ?_
 refine U.pd 1 T ?_
 exact St.wa (idR 2) (j4 _ g)
 refine U.pq 5 2 false 15 b5 T ?_
 refine U.pk' b5 ?_
 refine U.pd 1 T ?_
 exact St.wa (idR 2) (j4 _ g)
theorem ZE (s_1:ApiSite) (st:ApiState) (robot:Int) (act:Int) (post:Int→Prop) (g:XA s_1 st robot act post):
  Tr Tryz.prog 68 [.agg (Q6 s_1),.agg (Q1 st),.i robot,.i act] [] 0 (pI post):=by
 refine Tr.go Tryz.func68 Tryz.ntmps68 fun _ _ _ _ o=>?_
 unfold XA at g
 refine C.ss (U.bx ?_)
 refine U.bx ?_
 refine U.pd 1 T (C.xs (C.seq ?_))
 refine C.jn (fun (x3:Bool)=>[(2,.i robot),(3,.i act),(4,.p 0 0),(5,.p 1 0),(22,.b x3)]) (fun x3=>[(0,.box (Q6 s_1)),(1,.box (Q1 st))]) 2 g (fun x3 g=>?_) fun J4 g j4=>?_
 refine C.nx ?_
 refine C.ite rfl g (fun b6 g=>?_) fun b6 g=>?_
 refine C.ss (U.pd 1 T (C.nx (C.ret (C.rt ?_))))
 exact C.f1 T o (pIi g)
 refine C.skip (C.xs (C.seq ?_))
 refine C.jn (fun (x9:Bool)=>[(2,.i robot),(3,.i act),(4,.p 0 0),(5,.p 1 0),(28,.b x9)]) (fun x9=>[(0,.box (Q6 s_1)),(1,.box (Q1 st))]) 2 g (fun x9 g=>?_) fun J10 g j10=>?_
 refine C.nx ?_
 refine C.ite rfl g (fun b12 g=>?_) fun b12 g=>?_
 refine C.ss (U.pd 1 T (C.nx (C.ret (C.rt ?_))))
 exact C.f1 T o (pIi g)
 refine C.skip (C.xs (C.ss (U.pd 2 T (C.nx ?_))))
 refine C.ite rfl g (fun b17 g=>?_) fun b17 g=>?_
 refine C.ss (U.pd 1 T (C.nx (C.ret (C.rt ?_))))
 exact C.f1 T o (pIi g)
 refine C.skip (C.xt (U.ps 3 T rfl ?_))
 obtain⟨x22,y22,g⟩:=g
 refine U.ix T y22 ?_
 refine U.ps 1 T rfl (U.al T ?_)
 refine U.st T ?_
 refine U.done (C.xt (U.ps 1 T rfl (U.k (YY act _ g) Q8q (fun x25 g=>?_))))
 refine U.pd 5 T (C.xs (C.seq ?_))
 refine C.jn (fun (x26:Bool)=>[(3,.i act),(4,.p 0 0),(5,.p 1 0),(9,.p 2 0),(10,.i x25.1),(11,.b x25.2),(47,.b x26)]) (fun x26=>[(0,.box (Q6 s_1)),(1,.box (Q1 st)),(2,.box (Q0 x22))]) 3 g (fun x26 g=>?_) fun J27 g j27=>?_
 refine C.nx ?_
 refine C.ite rfl g (fun b29 g=>?_) fun b29 g=>?_
 refine C.ss (U.pd 1 T (C.nx (C.ret (C.rt ?_))))
 exact C.f1 T o (pIi g)
 refine C.skip (C.xs (C.seq ?_))
 refine C.jn (fun (x32:Bool)=>[(3,.i act),(4,.p 0 0),(5,.p 1 0),(9,.p 2 0),(10,.i x25.1),(11,.b x25.2),(53,.b x32)]) (fun x32=>[(0,.box (Q6 s_1)),(1,.box (Q1 st)),(2,.box (Q0 x22))]) 3 g (fun x32 g=>?_) fun J33 g j33=>?_
 refine C.nx ?_
 refine C.ite rfl g (fun b35 g=>?_) fun b35 g=>?_
 refine C.ss (U.pd 1 T (C.nx (C.ret (C.rt ?_))))
 exact C.f1 T o (pIi g)
 refine C.skip (C.xs (C.ss (U.ps 8 T rfl (U.k (YK st.Tick x22.Charge act (decide (x22.Load≥0)) _ g) Q92 (fun x40 g=>?_)))))
 refine U.pd 5 T (C.xt ?_)
 refine U.pd 2 T (C.nx ?_)
 refine C.ite rfl g (fun b43 g=>?_) fun b43 g=>?_
 refine C.ss (U.pd 2 T (C.nx (C.ret (C.rt ?_))))
 exact C.f1 T o (pIi g)
 refine C.skip (C.xs (C.block (C.ss (U.pd 2 T (C.nx ?_)))))
 refine C.ite rfl g (fun b48 g=>?_) fun b48 g=>?_
 refine C.ss (U.ps 4 T rfl (U.k (Q5d s_1 st x22 x25.1 _ g) Q9Q (fun x51 g=>?_)))
 refine U.pd 1 T (C.nx (C.ret (C.brt (C.rt ?_))))
 exact C.f1 T o (pIi g)
 refine C.ss (U.pd 3 T (C.nx ?_))
 refine C.ite rfl g (fun b54 g=>?_) fun b54 g=>?_
 refine C.ss (U.ps 3 T rfl (U.k (Q57 s_1 st x22 _ g) Qab (fun x57 g=>?_)))
 refine U.pd 1 T (C.nx (C.ret (C.brt (C.rt ?_))))
 exact C.f1 T o (pIi g)
 refine C.seq ?_
 refine C.jn (fun (x58:Bool)=>[(3,.i act),(4,.p 0 0),(5,.p 1 0),(9,.p 2 0),(83,.b x58)]) (fun x58=>[(0,.box (Q6 s_1)),(1,.box (Q1 st)),(2,.box (Q0 x22))]) 3 g (fun x58 g=>?_) fun J59 g j59=>?_
 refine C.nx ?_
 refine C.ite rfl g (fun b61 g=>?_) fun b61 g=>?_
 refine C.ss (U.pd 1 T (C.nx (C.ret (C.brt (C.rt ?_)))))
 exact C.f1 T o (pIi g)
 refine C.ss (U.pd 3 T (C.nx ?_))
 refine C.ite rfl g (fun b66 g=>?_) fun b66 g=>?_
 refine C.ss (U.ps 6 T rfl (U.k (Q3i s_1 st x22.Load x22.Cell _ g) Q9E (fun x69 g=>?_)))
 refine U.pd 1 T (C.nx (C.ret (C.brt (C.rt ?_))))
 exact C.f1 T o (pIi g)
 refine C.ss (U.ps 5 T rfl ?_)
 obtain⟨x72,y72,g⟩:=g
 refine U.ix T y72 ?_
 refine U.pd 3 T (C.nx ?_)
 refine C.ite rfl g (fun b73 g=>?_) fun b73 g=>?_
 refine C.ss (U.pd 1 T (C.nx (C.ret (C.brt (C.rt ?_)))))
 exact C.f1 T o (pIi g)
 refine C.skip (C.bnx (C.xt (U.pd 1 T (C.nx (C.ret ?_)))))
 exact C.f1 T o (pIi g)
 refine U.start (U.ps 3 T rfl ?_)
 refine g.cs (fun b60 g=>?_) fun b60 g=>?_
 refine U.pq 3 2 true 86 b60 T ?_
 refine U.pk b60 ?_
 refine U.pd 1 T ?_
 exact St.wa (idR 3) (j59 _ g)
 refine U.sk' 3 2 true 86 b60 ?_
 refine U.pk' b60 ?_
 refine U.pd 1 T ?_
 exact St.wa (idR 3) (j59 _ g)
 refine U.start (U.ps 2 T rfl ?_)
 refine g.cs (fun b34 g=>?_) fun b34 g=>?_
 refine U.pq 3 1 true 49 b34 T ?_
 refine U.pk b34 ?_
 refine U.done ?_
 exact St.wa (idR 3) (j33 _ g)
 refine U.sk' 3 1 true 49 b34 ?_
 refine U.pk' b34 ?_
 refine U.done ?_
 exact St.wa (idR 3) (j33 _ g)
 refine U.start (U.ps 3 T rfl ?_)
 refine g.cs (fun b28 g=>?_) fun b28 g=>?_
 refine U.sk' 3 2 false 43 b28 ?_
 refine U.pk b28 ?_
 refine U.done ?_
 exact St.wa (idR 3) (j27 _ g)
 refine U.pq 3 2 false 43 b28 T ?_
 refine U.pk' b28 ?_
 refine U.done ?_
 exact St.wa (idR 3) (j27 _ g)
 refine U.start (U.ps 3 T rfl ?_)
 refine g.cs (fun b11 g=>?_) fun b11 g=>?_
 refine U.sk' 2 2 false 25 b11 ?_
 refine U.pk b11 ?_
 refine U.done ?_
 exact St.wa (idR 2) (j10 _ g)
 refine U.pq 2 2 false 25 b11 T ?_
 refine U.pk' b11 ?_
 refine U.done ?_
 exact St.wa (idR 2) (j10 _ g)
 refine U.start (U.ps 3 T rfl ?_)
 refine g.cs (fun b5 g=>?_) fun b5 g=>?_
 refine U.sk' 5 2 false 16 b5 ?_
 refine U.pk b5 ?_
 refine U.done ?_
 exact St.wa (idR 2) (j4 _ g)
 refine U.pq 5 2 false 16 b5 T ?_
 refine U.pk' b5 ?_
 refine U.done ?_
 exact St.wa (idR 2) (j4 _ g)
theorem Q2O (f:ApiFloor) (st:ApiState) (acts:List Int) (post:(List Int)→Prop) (g:G7 f st acts post):
  Tr Tryz.prog 105 [.agg (Qc f),.agg (Q1 st),.sl 1 eI acts] [] 0 (fun A H' k=>∃y,post y∧A=(.o 0)∧H'=[(0,.val (.os 1 eI y))]∧k=1):=by
 refine Tr.go Tryz.func105 Tryz.ntmps105 fun _ _ _ _ o=>?_
 unfold G7 at g
 refine C.ss (U.bx ?_)
 refine U.bx ?_
 refine U.pd 1 T (C.xt ?_)
 refine U.ps 1 T rfl (U.k (Q0t st _ g) en49 (fun x5 g=>?_))
 refine U.pd 1 T (C.xs (C.ss ?_))
 refine U.pd 4 T (C.nx ?_)
 refine C.jn (fun (x8:List Int)=>[(7,.o 0)]) (fun x8=>[(0,.val (.os 1 eI x8))]) 1 g (fun x8 g=>?_) fun J9 g j9=>?_
 refine C.xt (U.ps 1 T rfl (U.c [some 0] (Ke x8 _ g) en92 (fun x44 g=>?_)))
 refine U.done (C.xt (U.pd 2 T (C.nx (C.ret ?_))))
 exact C.g1 [some 0] T o ⟨x44,g,rfl,rfl,rfl⟩
 refine C.block (St.wk (C.loop (fun (s10:List Int×Int)=>[(2,.sl 1 eI acts),(3,.p 0 0),(7,.o 1),(15,.sl 6 Q0 st.Robots),(16,.i (st.Robots.length:Int)),(17,.i s10.2)]) (fun s10=>[(0,.box (Qc f)),(1,.val (.os 1 eI s10.1))]) g (fun s10 Y11 g=>?_)) (Wk.a [some 0,some 2]))
 refine C.ss (U.pd 1 T (C.xs ?_))
 refine C.ite rfl g (fun b14 g=>?_) fun b14 g=>?_
 refine C.skip (C.xs ?_)
 refine C.jn (fun (x15:List Int)=>[(2,.sl 1 eI acts),(3,.p 0 0),(7,.o 1),(15,.sl 6 Q0 st.Robots),(16,.i (st.Robots.length:Int)),(17,.i s10.2)]) (fun x15=>[(0,.box (Qc f)),(1,.val (.os 1 eI x15))]) 2 g (fun x15 g=>?_) fun J16 g j16=>?_
 refine C.nx (U.start (U.pd 2 T (C.nx ?_)))
 exact St.wk (C.next g) (Wk.a (idR 2))
 refine C.block (C.ss (U.ps 1 T rfl ?_))
 obtain⟨x19,y19,g⟩:=g
 refine U.ix T y19 ?_
 refine U.ps 1 T rfl (U.al T ?_)
 refine U.ps 1 T rfl (U.st T ?_)
 refine U.done (C.xs (C.seq ?_))
 refine C.jn (fun (x20:Bool)=>[(2,.sl 1 eI acts),(3,.p 0 0),(7,.o 1),(8,.i s10.2),(9,.p 2 0),(15,.sl 6 Q0 st.Robots),(16,.i (st.Robots.length:Int)),(17,.i s10.2),(43,.b x20)]) (fun x20=>[(0,.box (Qc f)),(1,.val (.os 1 eI s10.1)),(2,.box (Q0 x19))]) 3 g (fun x20 g=>?_) fun J21 g j21=>?_
 refine C.nx ?_
 refine C.ite rfl g (fun b26 g=>?_) fun b26 g=>?_
 refine C.exit (C.ex (C.bex ?_))
 exact St.wa (idR 2) (j16 _ g)
 refine C.skip (C.xs (D.bq mix 9999 [0,2] [] (fun hQ hS ws M'=>?_)))
 refine D.pq 5 (zl [0,1,2,3,4]) T ?_
 obtain⟨x29,y29,g⟩:=g
 refine D.ix 5 [] T y29 ?_
 refine D.pq 2 (zl [6,7]) T ?_
 refine D.k 8 (Gx f x19.Cell (w64 (x29-1)) _ g) en24 fun x30 g=>?_
 refine D.pq 5 (zl [9,10,11,12,13]) T ?_
 refine D.done (by kernel_rfl) ?_
 refine C.xt (U.pd 1 T (C.nx ?_))
 refine C.jn (fun (x33:List Int)=>[(2,.sl 1 eI acts),(3,.p 0 0),(7,.o 1),(15,.sl 6 Q0 st.Robots),(16,.i (st.Robots.length:Int)),(17,.i s10.2)]) (fun x33=>[(0,.box (Qc f)),(1,.val (.os 1 eI x33))]) 2 g (fun x33 g=>?_) fun J34 g j34=>?_
 refine C.bnx ?_
 exact St.wa (idR 2) (j16 _ g)
 refine C.ite rfl g (fun b35 g=>?_) fun b35 g=>?_
 refine U.start (U.ps 3 T rfl (U.k (Q3c x19 x30.1 _ g) Q9t (fun x38 g=>?_)))
 obtain⟨y39,g⟩:=g
 refine U.ap T y39 ?_
 refine U.pd 1 T ?_
 exact St.wa [some 0,some 4] (j34 _ g)
 refine C.skip ?_
 exact St.wa (idR 2) (j34 _ g)
 refine U.start (U.ps 5 T rfl ?_)
 refine g.cs (fun b22 g=>?_) fun b22 g=>?_
 refine U.sk' 2 4 false 26 b22 ?_
 refine U.pk b22 ?_
 refine U.ps 1 T rfl (U.sk' 5 8 false 30 rfl ?_)
 refine U.pk rfl ?_
 refine U.ps 1 T rfl (U.sk' 5 15 false 37 rfl ?_)
 refine U.pk rfl ?_
 refine U.done ?_
 exact St.wa (idR 3) (j21 _ g)
 refine U.pq 2 4 false 26 b22 T ?_
 refine U.pk' b22 ?_
 refine U.ps 1 T rfl ?_
 refine g.cs (fun b23 g=>?_) fun b23 g=>?_
 refine U.sk' 5 8 false 30 b23 ?_
 refine U.pk b23 ?_
 refine U.ps 1 T rfl (U.sk' 5 15 false 37 rfl ?_)
 refine U.pk rfl ?_
 refine U.done ?_
 exact St.wa (idR 3) (j21 _ g)
 refine U.pq 2 8 false 30 b23 T ?_
 obtain⟨x24,y24,g⟩:=g
 refine U.r rfl (.tk 8 false 30 b23) rfl rfl (by exact Rd.ix T rfl rfl rfl rfl rfl rfl y24) ?_
 refine U.pq 2 8 false 30 b23 T ?_
 refine U.pk' b23 ?_
 refine U.ps 1 T rfl ?_
 refine g.cs (fun b25 g=>?_) fun b25 g=>?_
 refine U.sk' 5 15 false 37 b25 ?_
 refine U.pk b25 ?_
 refine U.done ?_
 exact St.wa (idR 3) (j21 _ g)
 refine U.pq 2 15 false 37 b25 T ?_
 refine U.r rfl (.tk 15 false 37 b25) rfl rfl (by exact Rd.ix T rfl rfl rfl rfl rfl rfl y24) ?_
 refine U.pq 2 15 false 37 b25 T ?_
 refine U.pk' b25 ?_
 refine U.done ?_
 exact St.wa (idR 3) (j21 _ g)
 refine C.exit (C.ex (C.ex (C.bex ?_)))
 exact St.wa [some 1] (j9 _ g)
theorem GB (s_1:List ApiRobot) (post:(List ApiRobot)→Prop) (g:QS s_1 post):
  Tr Tryz.prog 119 [.sl 6 Q0 s_1] [] 0 (fun A H' k=>∃y,post y∧A=(.o 0)∧H'=[(0,.val (.os 6 Q0 y))]∧k=1):=by
 refine Tr.go Tryz.func119 Tryz.ntmps119 fun _ _ _ _ o=>?_
 unfold QS at g
 refine C.ss (U.pd 1 T (C.xs (C.ss ?_)))
 refine U.ps 1 T rfl (U.e rfl (.none rfl) (by exact Eff.isnil T true rfl rfl rfl rfl rfl rfl (.inl ⟨.sl,rfl⟩) rfl) (fun b5' hhb5=>?_))
 obtain⟨b5⟩:=b5'
 replace g:=g b5 hhb5
 refine U.done (C.nx ?_)
 refine C.ite rfl g (fun b6 g=>?_) fun b6 g=>?_
 refine C.ss (U.pd 1 T (C.nx (C.ret (C.rt ?_))))
 exact C.g1 [none] T o ⟨[],g,rfl,rfl,rfl⟩
 refine C.skip (C.xt (U.bs T Q0 ([]:List ApiRobot) ?_))
 refine U.ps 1 T rfl ?_
 obtain⟨y11,g⟩:=g
 refine U.ap T y11 ?_
 refine U.pd 1 T (C.nx (C.ret ?_))
 exact C.g1 [some 1] T o ⟨(([]:List ApiRobot)++s_1),g,rfl,rfl,rfl⟩
theorem Gz (s_1:List ApiStuck) (post:(List ApiStuck)→Prop) (g:QT s_1 post):
  Tr Tryz.prog 120 [.sl 2 Q7 s_1] [] 0 (fun A H' k=>∃y,post y∧A=(.o 0)∧H'=[(0,.val (.os 2 Q7 y))]∧k=1):=by
 refine Tr.go Tryz.func120 Tryz.ntmps120 fun _ _ _ _ o=>?_
 unfold QT at g
 refine C.ss (U.pd 1 T (C.xs (C.ss ?_)))
 refine U.ps 1 T rfl (U.e rfl (.none rfl) (by exact Eff.isnil T true rfl rfl rfl rfl rfl rfl (.inl ⟨.sl,rfl⟩) rfl) (fun b5' hhb5=>?_))
 obtain⟨b5⟩:=b5'
 replace g:=g b5 hhb5
 refine U.done (C.nx ?_)
 refine C.ite rfl g (fun b6 g=>?_) fun b6 g=>?_
 refine C.ss (U.pd 1 T (C.nx (C.ret (C.rt ?_))))
 exact C.g1 [none] T o ⟨[],g,rfl,rfl,rfl⟩
 refine C.skip (C.xt (U.bs T Q7 ([]:List ApiStuck) ?_))
 refine U.ps 1 T rfl ?_
 obtain⟨y11,g⟩:=g
 refine U.ap T y11 ?_
 refine U.pd 1 T (C.nx (C.ret ?_))
 exact C.g1 [some 1] T o ⟨(([]:List ApiStuck)++s_1),g,rfl,rfl,rfl⟩
theorem YP (st:ApiState) (post:ApiState→Prop) (g:XY st post):
  Tr Tryz.prog 71 [.agg (Q1 st)] [] 0 (fun A H' k=>∃y,post y∧A=(.agg [.i y.Tick,.o 0,.o 1,.o 2,.o 3,.o 4])∧H'=[(0,.val (.os 1 eI y.Shelves)),(1,.val (.os 6 Q0 y.Robots)),(2,.val (.os 1 eI y.People)),(3,.val (.os 1 eI y.Dead)),(4,.val (.os 2 Q7 y.Stuck))]∧k=5):=by
 refine Tr.go Tryz.func71 Tryz.ntmps71 fun _ _ _ _ o=>?_
 unfold XY at g
 refine C.ss (U.bx ?_)
 refine U.al T ?_
 refine U.done (C.xs (D.bq mix 18 [0] [] (fun hQ hS ws M'=>?_)))
 refine D.pq 12 (zl [0,1,2,3,5,6,8,9,11,12,14,15]) T ?_
 refine D.k 4 (Kd st.Shelves _ g) en51 fun x5 g=>?_
 refine D.k 7 (GB st.Robots _ g) Qaa fun x6 g=>?_
 refine D.k 10 (Kd st.People _ g) en51 fun x7 g=>?_
 refine D.k 13 (Kd st.Dead _ g) en51 fun x8 g=>?_
 refine D.k 16 (Gz st.Stuck _ g) Q9J fun x9 g=>?_
 refine D.pq 1 [(17,[])] T ?_
 refine D.ze1 rfl (.none rfl) (by exact Eff1.st T rfl rfl rfl rfl rfl rfl rfl rfl rfl rfl) (by kernel_rfl) (by kernel_rfl) ?_
 refine C.nx (C.ret ?_)
 exact C.g1 (sqR 2 5) T o ⟨({Tick:=st.Tick,Shelves:=x5,Robots:=x6,People:=x7,Dead:=x8,Stuck:=x9:ApiState}),g,rfl,rfl,rfl⟩
theorem Q2G (s_1:ApiSite) (c:Int) (post:Int→Prop) (g:GF s_1 c post):
  Tr Tryz.prog 116 [.agg (Q6 s_1),.i c] [] 0 (pI post):=by
 refine Tr.go Tryz.func116 Tryz.ntmps116 fun _ _ _ _ o=>?_
 unfold GF at g
 refine C.ss (U.bx ?_)
 refine U.pd 1 T (C.xs (C.ss ?_))
 refine U.ps 2 T rfl (U.k (Zk s_1 c _ g) Q9e (fun x5 g=>?_))
 refine U.pd 1 T (C.xt ?_)
 refine U.pd 2 T (C.nx ?_)
 refine C.ite rfl g (fun b8 g=>?_) fun b8 g=>?_
 refine C.ss (U.ps 3 T rfl ?_)
 obtain⟨x11,y11,g⟩:=g
 refine U.ix T y11 ?_
 refine U.pd 3 T (C.nx (C.ret (C.rt ?_)))
 exact C.f1 T o (pIi g)
 refine C.skip (C.xt (U.pd 1 T (C.nx (C.ret ?_))))
 exact C.f1 T o (pIi g)
end Go.Proofs.YtbkpekodmhkbdaaGreat
