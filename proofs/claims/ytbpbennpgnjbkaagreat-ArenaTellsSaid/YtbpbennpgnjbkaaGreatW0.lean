/- The walks: each Go function does what its verification condition says (written by a program of the prover). -/
import Derived.Test.YtbpbennpgnjbkaaGreatEnc
import Derived.KernelRfl
set_option maxRecDepth 100000
set_option maxHeartbeats 8000000
set_option linter.unusedVariables false
set_option linter.unusedSimpArgs false
namespace Go.Proofs.YtbpbennpgnjbkaaGreat
open Go Go.Taq
theorem Q1m (post:ApiSite→Prop) (g:Xv post):
  Tr Tryz.prog 32 [] [] 0 (fun A H' k=>∃y,post y∧A=(.agg [.i y.Floor.W,.i y.Floor.H,.i y.Floor.D,.o 0,.o 1,.o 2,.o 3,.o 4,.o 5])∧H'=[(0,.val (.os 1 eI y.Floor.Kind)),(1,.val (.os 1 eI y.Floor.Out)),(2,.val (.os 5 Q9 y.Zones)),(3,.val (.os 2 Qa y.Aparts)),(4,.val (.os 2 Qc y.Shelves)),(5,.val (.os 2 Qb y.Robots))]∧k=6):=by
 refine Tr.go Tryz.func32 Tryz.ntmps32 fun _ _ _ _ o=>?_
 unfold Xv at g
 refine C.ss (U.al T ?_)
 refine U.done (C.xt (U.ps 3 T rfl (U.bs T Qb ([({Cell:=0,Charge:=100:ApiStart}),({Cell:=2,Charge:=100:ApiStart})]:List ApiStart) ?_)))
 refine U.ps 1 T rfl (U.al T ?_)
 refine U.st T ?_
 refine U.done (C.xs (C.ss (U.pd 1 T (C.nx ?_))))
 refine C.jn (fun (x7:List Int×List Int)=>[(0,.p 0 0),(1,.p 1 0)]) (fun x7=>[(0,.box [.i 0,.i 0,.i 0,vN,vN,vN,vN,vN,vN]),(1,.box [.i 6,.i 1,.i 1,.o 2,.o 3,vN,vN,vN,.o 4]),(2,.val (.os 1 eI x7.1)),(3,.val (.os 1 eI x7.2)),(4,.val (.os 2 Qb ([({Cell:=0,Charge:=100:ApiStart}),({Cell:=2,Charge:=100:ApiStart})]:List ApiStart)))]) 5 g (fun x7 g=>?_) fun J8 g j8=>?_
 refine C.xt (U.ps 1 T rfl (U.st T ?_))
 refine U.done (C.nx (C.ret ?_))
 exact C.g1 [some 2,some 3,none,none,none,some 4] T o ⟨({Floor:=({W:=6,H:=1,D:=1,Kind:=x7.1,Out:=x7.2:Q6}),Zones:=[],Aparts:=[],Shelves:=[],Robots:=([({Cell:=0,Charge:=100:ApiStart}),({Cell:=2,Charge:=100:ApiStart})]:List ApiStart):ApiSite}),g,rfl,rfl,rfl⟩
 refine C.block ?_
 refine St.wk (C.loop (fun (s9:List Int×List Int×Int)=>[(0,.p 0 0),(1,.p 1 0),(2,.i s9.2.2)]) (fun s9=>[(0,.box [.i 0,.i 0,.i 0,vN,vN,vN,vN,vN,vN]),(1,.box [.i 6,.i 1,.i 1,.o 2,.o 3,vN,vN,vN,.o 4]),(2,.val (.os 1 eI s9.1)),(3,.val (.os 1 eI s9.2.1)),(4,.val (.os 2 Qb ([({Cell:=0,Charge:=100:ApiStart}),({Cell:=2,Charge:=100:ApiStart})]:List ApiStart)))]) g (fun s9 Y10 g=>?_)) (Wk.mk' [some 0,some 2,none,none,some 1] rfl rfl (.eqs rfl) ⟨bX,⟨_,rfl,.box rfl (.cons (.eq rfl) (.cons (.eq rfl) (.cons (.eq rfl) (.cons (.nilO _ _ ⟨rfl,rfl⟩ rfl) (.cons (.nilO _ _ ⟨rfl,rfl⟩ rfl) (.eq rfl))))))⟩,⟨_,rfl,.nil _ _⟩,⟨_,rfl,.nil _ _⟩,vL,trivial⟩ rfl)
 refine C.seq (C.ss (U.pd 2 T (C.nx ?_)))
 refine C.ite rfl g (fun b13 g=>?_) fun b13 g=>?_
 refine C.skip (C.xs (C.block (C.ss (U.pd 1 T (C.xs (C.ss ?_))))))
 refine U.pd 2 T (C.nx ?_)
 refine C.jn (fun (x18:Int)=>[(0,.p 0 0),(1,.p 1 0),(2,.i s9.2.2),(3,.i x18)]) (fun x18=>[(0,.box [.i 0,.i 0,.i 0,vN,vN,vN,vN,vN,vN]),(1,.box [.i 6,.i 1,.i 1,.o 2,.o 3,vN,vN,vN,.o 4]),(2,.val (.os 1 eI s9.1)),(3,.val (.os 1 eI s9.2.1)),(4,.val (.os 2 Qb ([({Cell:=0,Charge:=100:ApiStart}),({Cell:=2,Charge:=100:ApiStart})]:List ApiStart)))]) 5 g (fun x18 g=>?_) fun J19 g j19=>?_
 refine C.xt (U.pd 1 T (C.xs (C.ss ?_)))
 refine U.pd 2 T (C.nx ?_)
 refine C.jn (fun (x27:Int)=>[(0,.p 0 0),(1,.p 1 0),(2,.i s9.2.2),(3,.i x18),(4,.i x27)]) (fun x27=>[(0,.box [.i 0,.i 0,.i 0,vN,vN,vN,vN,vN,vN]),(1,.box [.i 6,.i 1,.i 1,.o 2,.o 3,vN,vN,vN,.o 4]),(2,.val (.os 1 eI s9.1)),(3,.val (.os 1 eI s9.2.1)),(4,.val (.os 2 Qb ([({Cell:=0,Charge:=100:ApiStart}),({Cell:=2,Charge:=100:ApiStart})]:List ApiStart)))]) 5 g (fun x27 g=>?_) fun J28 g j28=>?_
 refine C.xs (C.ss (U.pd 2 T (C.nx ?_)))
 refine C.jn (fun (x34:Int)=>[(0,.p 0 0),(1,.p 1 0),(2,.i s9.2.2),(3,.i x18),(4,.i x34)]) (fun x34=>[(0,.box [.i 0,.i 0,.i 0,vN,vN,vN,vN,vN,vN]),(1,.box [.i 6,.i 1,.i 1,.o 2,.o 3,vN,vN,vN,.o 4]),(2,.val (.os 1 eI s9.1)),(3,.val (.os 1 eI s9.2.1)),(4,.val (.os 2 Qb ([({Cell:=0,Charge:=100:ApiStart}),({Cell:=2,Charge:=100:ApiStart})]:List ApiStart)))]) 5 g (fun x34 g=>?_) fun J35 g j35=>?_
 refine C.xt (U.ps 4 T rfl (U.bs T eI ([x18]:List Int) ?_))
 obtain⟨y41,g⟩:=g
 refine U.ap T y41 ?_
 refine U.ps 2 T rfl (U.st T ?_)
 refine U.done (C.nx (U.start (U.ps 4 T rfl (U.bs T eI ([x34]:List Int) ?_))))
 obtain⟨y44,g⟩:=g
 refine U.ap T y44 ?_
 refine U.ps 2 T rfl (U.st T ?_)
 refine U.done (C.bnx (C.nx (U.start (U.pd 3 T (C.nx ?_)))))
 exact St.wk (C.next g) (Wk.a [some 0,some 1,some 6,some 8,some 4])
 refine C.ite rfl g (fun b36 g=>?_) fun b36 g=>?_
 refine U.start (U.pd 3 T ?_)
 exact St.wa (idR 5) (j35 _ g)
 refine C.skip ?_
 exact St.wa (idR 5) (j35 _ g)
 refine C.ite rfl g (fun b29 g=>?_) fun b29 g=>?_
 refine U.start (U.pd 1 T ?_)
 exact St.wa (idR 5) (j28 _ g)
 refine C.skip ?_
 exact St.wa (idR 5) (j28 _ g)
 refine C.ite rfl g (fun b20 g=>?_) fun b20 g=>?_
 refine U.start (U.pd 1 T ?_)
 exact St.wa (idR 5) (j19 _ g)
 refine C.skip ?_
 exact St.wa (idR 5) (j19 _ g)
 refine C.exit (C.ex (C.ex (C.bex ?_)))
 exact St.wa (idR 5) (j8 _ g)
theorem Q5r (s_1:ApiSite) (post:ApiState→Prop) (g:WE s_1 post):
  Tr Tryz.prog 33 [.agg (Q2 s_1)] [] 0 (fun A H' k=>∃y,post y∧A=(.agg [.i y.Tick,.o 0,.o 1,.o 2,.o 3,.o 4])∧H'=[(0,.val (.os 1 eI y.Shelves)),(1,.val (.os 6 Q4 y.Robots)),(2,.val (.os 1 eI y.People)),(3,.val (.os 1 eI y.Dead)),(4,.val (.os 2 Q3 y.Stuck))]∧k=5):=by
 refine Tr.go Tryz.func33 Tryz.ntmps33 fun _ _ _ _ o=>?_
 unfold WE at g
 refine C.ss (U.bx ?_)
 refine U.al T ?_
 refine U.done (C.xt (U.al T ?_))
 refine U.done (C.xs (C.ss (U.pd 4 T (C.nx ?_))))
 refine C.jn (fun (x7:List Int)=>[(1,.p 0 0),(2,.p 1 0),(3,.p 2 0)]) (fun x7=>[(0,.box (Q2 s_1)),(1,.box [.i 0,vN,vN,vN,vN,vN]),(2,.box [.i 0,.o 3,vN,vN,vN,vN]),(3,.val (.os 1 eI x7))]) 4 g (fun x7 g=>?_) fun J8 g j8=>?_
 refine C.xs (C.ss (U.pd 4 T (C.nx ?_)))
 refine C.jn (fun (x24:List ApiRobot)=>[(2,.p 0 0),(3,.p 1 0)]) (fun x24=>[(0,.box [.i 0,vN,vN,vN,vN,vN]),(1,.box [.i 0,.o 2,.o 3,vN,vN,vN]),(2,.val (.os 1 eI x7)),(3,.val (.os 6 Q4 x24))]) 4 g (fun x24 g=>?_) fun J25 g j25=>?_
 refine C.xt (U.ps 1 T rfl (U.st T ?_))
 refine U.done (C.nx (C.ret ?_))
 exact C.g1 [some 2,some 3,none,none,none] T o ⟨({Tick:=0,Shelves:=x7,Robots:=x24,People:=[],Dead:=[],Stuck:=[]:ApiState}),g,rfl,rfl,rfl⟩
 refine C.block ?_
 refine St.wk (C.loop (fun (s26:List ApiRobot×Int)=>[(2,.p 0 0),(3,.p 1 0),(24,.sl 2 Qb s_1.Robots),(25,.i (s_1.Robots.length:Int)),(26,.i s26.2)]) (fun s26=>[(0,.box [.i 0,vN,vN,vN,vN,vN]),(1,.box [.i 0,.o 2,.o 3,vN,vN,vN]),(2,.val (.os 1 eI x7)),(3,.val (.os 6 Q4 s26.1))]) g (fun s26 Y27 g=>?_)) (Wk.mk' [some 1,some 2,some 3,none] rfl rfl (.eqs rfl) ⟨bX,⟨_,rfl,.box rfl (.cons (.eq rfl) (.cons (.eq rfl) (.cons (.nilO _ _ ⟨rfl,rfl⟩ rfl) (.eq rfl))))⟩,vL,⟨_,rfl,.nil _ _⟩,trivial⟩ rfl)
 refine C.ss (U.pd 1 T (C.xs ?_))
 refine C.ite rfl g (fun b30 g=>?_) fun b30 g=>?_
 refine C.skip (C.xs (C.block (C.ss ?_)))
 obtain⟨x33,y33,g⟩:=g
 refine U.ix T y33 ?_
 refine U.ps 1 T rfl (U.al T ?_)
 refine U.st T ?_
 refine U.done (C.nx (U.start (U.ps 7 T rfl (U.bs T Q4 ([({Cell:=x33.Cell,Load:=(-1),Charge:=x33.Charge,Rest:=0,Mute:=0,Dead:=false:ApiRobot})]:List ApiRobot) ?_))))
 obtain⟨y36,g⟩:=g
 refine U.ap T y36 ?_
 refine U.ps 1 T rfl (U.st T ?_)
 refine U.done (C.bnx (C.nx (U.start (U.pd 2 T (C.nx ?_)))))
 exact St.wk (C.next g) (Wk.a [some 0,some 1,some 2,some 6])
 refine C.exit (C.ex (C.ex (C.bex ?_)))
 exact St.wa (idR 4) (j25 _ g)
 refine C.block ?_
 refine St.wk (C.loop (fun (s9:List Int×Int)=>[(1,.p 0 0),(2,.p 1 0),(3,.p 2 0),(9,.sl 2 Qc s_1.Shelves),(10,.i (s_1.Shelves.length:Int)),(11,.i s9.2)]) (fun s9=>[(0,.box (Q2 s_1)),(1,.box [.i 0,vN,vN,vN,vN,vN]),(2,.box [.i 0,.o 3,vN,vN,vN,vN]),(3,.val (.os 1 eI s9.1))]) g (fun s9 Y10 g=>?_)) (Wk.mk' [some 0,some 1,some 2,none] rfl rfl (.eqs rfl) ⟨bX,bX,⟨_,rfl,.box rfl (.cons (.eq rfl) (.cons (.nilO _ _ ⟨rfl,rfl⟩ rfl) (.eq rfl)))⟩,⟨_,rfl,.nil _ _⟩,trivial⟩ rfl)
 refine C.ss (U.pd 1 T (C.xs ?_))
 refine C.ite rfl g (fun b13 g=>?_) fun b13 g=>?_
 refine C.skip (C.xs (C.block (C.ss ?_)))
 obtain⟨x16,y16,g⟩:=g
 refine U.ix T y16 ?_
 refine U.ps 1 T rfl (U.al T ?_)
 refine U.st T ?_
 refine U.done (C.nx (U.start (U.ps 4 T rfl (U.bs T eI ([x16.Cell]:List Int) ?_))))
 obtain⟨y19,g⟩:=g
 refine U.ap T y19 ?_
 refine U.ps 1 T rfl (U.st T ?_)
 refine U.done (C.bnx (C.nx (U.start (U.pd 2 T (C.nx ?_)))))
 exact St.wk (C.next g) (Wk.a [some 0,some 1,some 2,some 6])
 refine C.exit (C.ex (C.ex (C.bex ?_)))
 exact St.wa (idR 4) (j8 _ g)
theorem Zr (act:Int) (post:(Int×Bool)→Prop) (g:XS act post):
  Tr Tryz.prog 99 [.i act] [] 0 (fun A H' k=>∃y,post y∧A=(.tup [.i y.1,.b y.2])∧H'=[]∧k=0):=by
 refine Tr.go Tryz.func99 Tryz.ntmps99 fun _ _ _ _ o=>?_
 unfold XS at g
 refine C.ss (U.pd 2 T (C.xt ?_))
 refine U.pd 3 T (C.xs ?_)
 refine C.jn (fun (x5:Bool)=>[(2,.i (w64 (act-1))),(3,.b x5)]) (fun x5=>[]) 0 g (fun x5 g=>?_) fun J6 g j6=>?_
 refine C.nx (C.ret ?_)
 exact C.f9 T o ⟨(w64 (act-1),x5),g,rfl,rfl,rfl⟩
 refine U.start (U.ps 4 T rfl ?_)
 refine g.cs (fun b7 g=>?_) fun b7 g=>?_
 refine U.pq 2 3 true 10 b7 T ?_
 refine U.pk b7 ?_
 refine U.pd 2 T ?_
 exact St.wn (j6 _ g)
 refine U.sk' 2 3 true 10 b7 ?_
 refine U.pk' b7 ?_
 refine U.pd 2 T ?_
 exact St.wn (j6 _ g)
theorem Yv (n:Int) (post:Bool→Prop) (g:KT n post):
  Tr Tryz.prog 158 [.i n] [] 0 (pB post):=by
 refine Tr.go Tryz.func158 Tryz.ntmps158 fun _ _ _ _ o=>?_
 unfold KT at g
 refine C.ss (U.pd 1 T (C.xs ?_))
 refine C.jn (fun (x3:Bool)=>[(2,.b x3)]) (fun x3=>[]) 0 g (fun x3 g=>?_) fun J4 g j4=>?_
 refine C.nx (C.ret ?_)
 exact C.f1 T o (pBi g)
 refine U.start (U.ps 3 T rfl ?_)
 refine g.cs (fun b5 g=>?_) fun b5 g=>?_
 refine U.pq 2 2 true 5 b5 T ?_
 refine U.pk b5 ?_
 refine U.pd 1 T ?_
 exact St.wn (j4 _ g)
 refine U.sk' 2 2 true 5 b5 ?_
 refine U.pk' b5 ?_
 refine U.pd 1 T ?_
 exact St.wn (j4 _ g)
theorem Q2X (act:Int) (laden:Bool) (post:Int→Prop) (g:GX act laden post):
  Tr Tryz.prog 201 [.i act,.b laden] [] 0 (pI post):=by
 refine Tr.go Tryz.func201 Tryz.ntmps201 fun _ _ _ _ o=>?_
 unfold GX at g
 refine C.ss (U.pd 1 T (C.xs (C.ss ?_)))
 refine U.pd 1 T (C.nx (C.block (C.seq (C.ss ?_))))
 refine U.pd 2 T (C.nx ?_)
 refine C.jn (fun (x7:Bool)=>[(0,.i act),(1,.b laden),(6,.i act),(7,.b x7)]) (fun x7=>[]) 0 g (fun x7 g=>?_) fun J8 g j8=>?_
 refine C.nx ?_
 refine C.ite rfl g (fun b12 g=>?_) fun b12 g=>?_
 refine C.ss (U.pd 1 T (C.nx (C.ret (C.brt (C.rt ?_)))))
 exact C.f1 T o (pIi g)
 refine C.ss (U.pd 2 T (C.nx ?_))
 refine C.ite rfl g (fun b17 g=>?_) fun b17 g=>?_
 refine C.ss (U.pd 1 T (C.nx (C.ret (C.brt (C.rt ?_)))))
 exact C.f1 T o (pIi g)
 refine C.skip (C.bnx (C.xt (U.pd 1 T (C.xs (C.ss ?_)))))
 refine U.pd 2 T (C.nx (C.block (C.seq (C.ss ?_))))
 refine U.pd 2 T (C.nx ?_)
 refine C.jn (fun (x26:Bool)=>[(1,.b laden),(5,.i 0),(13,.i (w64 (act-1))),(14,.b x26)]) (fun x26=>[]) 0 g (fun x26 g=>?_) fun J27 g j27=>?_
 refine C.nx ?_
 refine C.jn (fun (x41:Int)=>[(1,.b laden),(5,.i x41)]) (fun x41=>[]) 0 g (fun x41 g=>?_) fun J42 g j42=>?_
 refine C.bnx (C.xs (C.seq ?_))
 refine C.jn (fun (x60:Bool)=>[(5,.i x41),(27,.b x60)]) (fun x60=>[]) 0 g (fun x60 g=>?_) fun J61 g j61=>?_
 refine C.nx ?_
 refine C.jn (fun (x63:Int)=>[(5,.i x63)]) (fun x63=>[]) 0 g (fun x63 g=>?_) fun J64 g j64=>?_
 refine C.xt (U.pd 2 T (C.nx (C.ret ?_)))
 exact C.f1 T o (pIi g)
 refine C.ite rfl g (fun b65 g=>?_) fun b65 g=>?_
 refine U.start (U.pd 3 T ?_)
 exact St.wn (j64 _ g)
 refine C.skip ?_
 exact St.wn (j64 _ g)
 refine U.start (U.ps 3 T rfl ?_)
 refine g.cs (fun b62 g=>?_) fun b62 g=>?_
 refine U.pq 1 2 true 25 b62 T ?_
 refine U.pk b62 ?_
 refine U.done ?_
 exact St.wn (j61 _ g)
 refine U.sk' 1 2 true 25 b62 ?_
 refine U.pk' b62 ?_
 refine U.done ?_
 exact St.wn (j61 _ g)
 refine C.ite rfl g (fun b43 g=>?_) fun b43 g=>?_
 refine U.start (U.pd 1 T ?_)
 exact St.wn (j42 _ g)
 refine C.ss (U.pd 2 T (C.nx ?_))
 refine C.jn (fun (x48:Int)=>[(1,.b laden),(5,.i x48)]) (fun x48=>[]) 0 g (fun x48 g=>?_) fun J49 g j49=>?_
 exact St.wn (j42 _ g)
 refine C.ite rfl g (fun b50 g=>?_) fun b50 g=>?_
 refine U.start (U.pd 1 T ?_)
 exact St.wn (j49 _ g)
 refine C.ss (U.pd 2 T (C.nx ?_))
 refine C.jn (fun (x55:Int)=>[(1,.b laden),(5,.i x55)]) (fun x55=>[]) 0 g (fun x55 g=>?_) fun J56 g j56=>?_
 exact St.wn (j49 _ g)
 refine C.ite rfl g (fun b57 g=>?_) fun b57 g=>?_
 refine U.start (U.pd 1 T ?_)
 exact St.wn (j56 _ g)
 refine C.skip ?_
 exact St.wn (j56 _ g)
 refine C.ite rfl g (fun b28 g=>?_) fun b28 g=>?_
 refine C.skip ?_
 exact St.wn (j27 _ g)
 refine C.ss (U.pd 2 T (C.nx ?_))
 refine C.jn (fun (x31:Bool)=>[(1,.b laden),(5,.i 0),(13,.i (w64 (act-1))),(14,.b x31)]) (fun x31=>[]) 0 g (fun x31 g=>?_) fun J32 g j32=>?_
 exact St.wn (j27 _ g)
 refine C.ite rfl g (fun b33 g=>?_) fun b33 g=>?_
 refine C.skip ?_
 exact St.wn (j32 _ g)
 refine C.ss (U.pd 2 T (C.nx ?_))
 refine C.jn (fun (x36:Bool)=>[(1,.b laden),(5,.i 0),(13,.i (w64 (act-1))),(14,.b x36)]) (fun x36=>[]) 0 g (fun x36 g=>?_) fun J37 g j37=>?_
 exact St.wn (j32 _ g)
 refine C.ite rfl g (fun b38 g=>?_) fun b38 g=>?_
 refine C.skip ?_
 exact St.wn (j37 _ g)
 refine U.start (U.pd 2 T ?_)
 exact St.wn (j37 _ g)
 refine C.ite rfl g (fun b9 g=>?_) fun b9 g=>?_
 refine C.skip ?_
 exact St.wn (j8 _ g)
 refine U.start (U.pd 2 T ?_)
 exact St.wn (j8 _ g)
theorem Q33 (tick:Int) (act:Int) (laden:Bool) (post:Int→Prop) (g:GW tick act laden post):
  Tr Tryz.prog 160 [.i tick,.i act,.b laden] [] 0 (pI post):=by
 refine Tr.go Tryz.func160 Tryz.ntmps160 fun _ _ _ _ o=>?_
 unfold GW at g
 refine C.ss (U.pd 1 T (C.xt ?_))
 refine U.ps 3 T rfl (U.r rfl (.none rfl) rfl rfl (by exact Rd.dv rfl rfl rfl rfl (by decide)) ?_)
 refine U.pd 1 T (C.xt ?_)
 refine U.ps 2 T rfl (U.k (Q2X act laden _ g) QbA (fun x8 g=>?_))
 refine U.ps 4 T rfl (U.r rfl (.none rfl) rfl rfl (by exact Rd.dv rfl rfl rfl rfl (by decide)) ?_)
 refine U.pd 1 T (C.nx (C.ret ?_))
 exact C.f1 T o (pIi g)
theorem Q2v (charge:Int) (cost:Int) (post:(Int×Int)→Prop) (g:GA charge cost post):
  Tr Tryz.prog 159 [.i charge,.i cost] [] 0 (fun A H' k=>∃y,post y∧A=(.tup [.i y.1,.i y.2])∧H'=[]∧k=0):=by
 refine Tr.go Tryz.func159 Tryz.ntmps159 fun _ _ _ _ o=>?_
 unfold GA at g
 refine C.ss (U.pd 2 T (C.xs (C.block (C.seq ?_))))
 refine C.jn (fun (x3:Bool)=>[(0,.i charge),(1,.i cost),(6,.b x3)]) (fun x3=>[]) 0 g (fun x3 g=>?_) fun J4 g j4=>?_
 refine C.nx ?_
 refine C.ite rfl g (fun b7 g=>?_) fun b7 g=>?_
 refine C.ss (U.pd 3 T (C.nx (C.ret (C.brt (C.rt ?_)))))
 exact C.f9 T o ⟨(charge,1),g,rfl,rfl,rfl⟩
 refine C.ss (U.pd 4 T (C.nx ?_))
 refine C.ite rfl g (fun b12 g=>?_) fun b12 g=>?_
 refine C.ss (U.pd 3 T (C.nx (C.ret (C.brt (C.rt ?_)))))
 exact C.f9 T o ⟨(charge,16),g,rfl,rfl,rfl⟩
 refine C.skip (C.bnx (C.xt (U.pd 5 T (C.nx (C.ret ?_)))))
 exact C.f9 T o ⟨(w64 (charge-cost),0),g,rfl,rfl,rfl⟩
 refine U.start (U.ps 1 T rfl (U.k (Yv charge _ g) Q9R (fun x5 g=>?_)))
 refine U.ps 2 T rfl ?_
 refine g.cs (fun b6 g=>?_) fun b6 g=>?_
 refine U.pq 2 3 false 10 (ntF b6) T ?_
 refine U.pk' (ntF b6) ?_
 refine U.pd 1 T ?_
 exact St.wn (j4 _ g)
 refine U.sk' 2 3 false 10 (ntT b6) ?_
 refine U.pk (ntT b6) ?_
 refine U.pd 1 T ?_
 exact St.wn (j4 _ g)
theorem ZS (tick:Int) (charge:Int) (act:Int) (laden:Bool) (post:(Int×Int)→Prop) (g:XQ tick charge act laden post):
  Tr Tryz.prog 100 [.i tick,.i charge,.i act,.b laden] [] 0 (fun A H' k=>∃y,post y∧A=(.tup [.i y.1,.i y.2])∧H'=[]∧k=0):=by
 refine Tr.go Tryz.func100 Tryz.ntmps100 fun _ _ _ _ o=>?_
 unfold XQ at g
 refine C.ss (U.pd 2 T (C.xs (C.block (C.seq ?_))))
 refine C.jn (fun (x3:Bool)=>[(0,.i tick),(1,.i charge),(2,.i act),(3,.b laden),(10,.b x3)]) (fun x3=>[]) 0 g (fun x3 g=>?_) fun J4 g j4=>?_
 refine C.nx ?_
 refine C.ite rfl g (fun b8 g=>?_) fun b8 g=>?_
 refine C.ss (U.pd 3 T (C.nx (C.ret (C.brt (C.rt ?_)))))
 exact C.f9 T o ⟨(charge,1),g,rfl,rfl,rfl⟩
 refine C.ss (U.pd 3 T (C.nx ?_))
 refine C.ite rfl g (fun b13 g=>?_) fun b13 g=>?_
 refine C.ss (U.pd 5 T (C.nx (C.ret (C.brt (C.rt ?_)))))
 exact C.f9 T o ⟨(imin (w64 (charge+20)) 1000000,0),g,rfl,rfl,rfl⟩
 refine C.skip (C.bnx (C.xt (U.ps 4 T rfl (U.k (Q33 tick act laden _ g) QaN (fun x18 g=>?_)))))
 refine U.k (Q2v charge x18 _ g) QbK fun x19 g=>?_
 refine U.pd 4 T (C.nx (C.ret ?_))
 exact C.f9 T o ⟨(x19.1,x19.2),g,rfl,rfl,rfl⟩
 refine U.start (U.ps 1 T rfl (U.k (Yv charge _ g) Q9R (fun x5 g=>?_)))
 refine U.ps 2 T rfl ?_
 refine g.cs (fun b6 g=>?_) fun b6 g=>?_
 refine U.pq 2 3 false 14 (ntF b6) T ?_
 refine U.pk' (ntF b6) ?_
 refine U.ps 1 T rfl ?_
 refine g.cs (fun b7 g=>?_) fun b7 g=>?_
 refine U.sk' 2 7 false 18 b7 ?_
 refine U.pk b7 ?_
 refine U.pd 1 T ?_
 exact St.wn (j4 _ g)
 refine U.pq 2 7 false 18 b7 T ?_
 refine U.pk' b7 ?_
 refine U.pd 1 T ?_
 exact St.wn (j4 _ g)
 refine U.sk' 2 3 false 14 (ntT b6) ?_
 refine U.pk (ntT b6) ?_
 refine U.ps 1 T rfl (U.sk' 2 7 false 18 rfl ?_)
 refine U.pk rfl ?_
 refine U.pd 1 T ?_
 exact St.wn (j4 _ g)
theorem Q1Y (f:Q6) (post:Int→Prop) (g:Gx f post):
  Tr Tryz.prog 136 [.agg (Qd f)] [] 0 (pI post):=by
 refine Tr.go Tryz.func136 Tryz.ntmps136 fun _ _ _ _ o=>?_
 unfold Gx at g
 refine C.ss (U.bx ?_)
 refine U.pd 1 T (C.xt ?_)
 refine U.pd 9 T (C.nx (C.ret ?_))
 exact C.f1 T o (pIi g)
theorem Q1q (f:Q6) (c:Int) (post:Bool→Prop) (g:Wy f c post):
  Tr Tryz.prog 149 [.agg (Qd f),.i c] [] 0 (pB post):=by
 refine Tr.go Tryz.func149 Tryz.ntmps149 fun _ _ _ _ o=>?_
 unfold Wy at g
 refine C.ss (U.bx ?_)
 refine U.pd 1 T (C.xs ?_)
 refine C.jn (fun (x3:Bool)=>[(4,.b x3)]) (fun x3=>[]) 0 g (fun x3 g=>?_) fun J4 g j4=>?_
 refine C.nx (C.ret ?_)
 exact C.f1 T o (pBi g)
 refine U.start (U.ps 3 T rfl ?_)
 refine g.cs (fun b5 g=>?_) fun b5 g=>?_
 refine U.pq 2 2 true 7 b5 T ?_
 refine U.k (Q1Y f _ g) Q9Y (fun x6 g=>?_) (hw:=.take 2 true 7 _ b5 rfl rfl rfl)
 refine U.pq 1 2 true 7 b5 T ?_
 refine U.pk b5 ?_
 refine U.pd 1 T ?_
 exact St.wn (j4 _ g)
 refine U.sk' 4 2 true 7 b5 ?_
 refine U.pk' b5 ?_
 refine U.pd 1 T ?_
 exact St.wn (j4 _ g)
theorem Q3n (f:Q6) (c:Int) (post:(Int×Int×Int)→Prop) (g:WZ f c post):
  Tr Tryz.prog 142 [.agg (Qd f),.i c] [] 0 (fun A H' k=>∃y,post y∧A=(.tup [.i y.1,.i y.2.1,.i y.2.2])∧H'=[]∧k=0):=by
 refine Tr.go Tryz.func142 Tryz.ntmps142 fun _ _ _ _ o=>?_
 unfold WZ at g
 refine C.ss (U.bx ?_)
 refine U.pd 3 T (C.xs (C.ss ?_))
 refine U.ps 2 T rfl (U.k (Q1q f c _ g) Q8I (fun x5 g=>?_))
 refine U.pd 1 T (C.nx ?_)
 refine C.ite rfl g (fun b6 g=>?_) fun b6 g=>?_
 refine C.ss (U.pd 3 T (C.nx (C.ret (C.rt ?_))))
 exact C.f9 T o ⟨(0,0,0),g,rfl,rfl,rfl⟩
 refine C.skip (C.xs (D.bq mix 9999 [0] [] (fun hQ hS ws M'=>?_)))
 refine D.pq 3 (zl [0,1,2]) T ?_
 obtain⟨y11,g⟩:=g
 refine D.q 3 [] hQ hS rfl (.none rfl) rfl rfl (by exact Rd.rm rfl rfl rfl rfl y11) rfl (by kernel_rfl) ?_
 refine D.pq 3 (zl [4,5,6]) T ?_
 obtain⟨y12,g⟩:=g
 refine D.q 7 [] hQ hS rfl (.none rfl) rfl rfl (by exact Rd.dv rfl rfl rfl rfl y12) rfl (by kernel_rfl) ?_
 refine D.pq 2 (zl [8,9]) T ?_
 obtain⟨y13,g⟩:=g
 refine D.q 10 [] hQ hS rfl (.none rfl) rfl rfl (by exact Rd.rm rfl rfl rfl rfl y13) rfl (by kernel_rfl) ?_
 refine D.pq 6 (zl [11,12,13,14,15,16]) T ?_
 obtain⟨y14,g⟩:=g
 refine D.q 17 [] hQ hS rfl (.none rfl) rfl rfl (by exact Rd.dv rfl rfl rfl rfl y14) rfl (by kernel_rfl) ?_
 refine D.pq 3 (zl [18,19,20]) T ?_
 refine D.done (by kernel_rfl) ?_
 refine C.nx (C.ret ?_)
 exact C.f9 T o ⟨(c.tmod f.W,(w64 (c.tdiv f.W)).tmod f.H,w64 (c.tdiv (w64 (f.W*f.H)))),g,rfl,rfl,rfl⟩
theorem Q3T (post:WU→Prop) (g:WS post):
  Tr Tryz.prog 150 [] [] 0 (fun A H' k=>∃y,post y∧A=(.agg [.i y.e0.x,.i y.e0.y,.i y.e0.z,.i y.e1.x,.i y.e1.y,.i y.e1.z,.i y.e2.x,.i y.e2.y,.i y.e2.z,.i y.e3.x,.i y.e3.y,.i y.e3.z,.i y.e4.x,.i y.e4.y,.i y.e4.z,.i y.e5.x,.i y.e5.y,.i y.e5.z])∧H'=[]∧k=0):=by
 refine Tr.go Tryz.func150 Tryz.ntmps150 fun _ _ _ _ o=>?_
 unfold WS at g
 refine C.ss (U.al T ?_)
 refine U.done (C.xt (U.ps 7 T rfl (U.st T ?_)))
 refine U.done (C.nx (C.ret ?_))
 exact C.f1 T o ⟨({e0:=({x:=1,y:=0,z:=0:Kb}),e1:=({x:=0,y:=1,z:=0:Kb}),e2:=({x:=(-1),y:=0,z:=0:Kb}),e3:=({x:=0,y:=(-1),z:=0:Kb}),e4:=({x:=0,y:=0,z:=1:Kb}),e5:=({x:=0,y:=0,z:=(-1):Kb}):WU}),g,rfl,rfl,rfl⟩
theorem WG (f:Q6) (x_1:Int) (y_1:Int) (z:Int) (post:Int→Prop) (g:XF f x_1 y_1 z post):
  Tr Tryz.prog 143 [.agg (Qd f),.i x_1,.i y_1,.i z] [] 0 (pI post):=by
 refine Tr.go Tryz.func143 Tryz.ntmps143 fun _ _ _ _ o=>?_
 unfold XF at g
 refine C.ss (U.bx ?_)
 refine U.pd 1 T (C.xs (C.seq ?_))
 refine C.jn (fun (x3:Bool)=>[(1,.i x_1),(2,.i y_1),(3,.i z),(4,.p 0 0),(31,.b x3)]) (fun x3=>[(0,.box (Qd f))]) 1 g (fun x3 g=>?_) fun J4 g j4=>?_
 refine C.nx ?_
 refine C.ite rfl g (fun b8 g=>?_) fun b8 g=>?_
 refine C.ss (U.pd 1 T (C.nx (C.ret (C.rt ?_))))
 exact C.f1 T o (pIi g)
 refine C.skip (C.xt (U.pd 12 T (C.nx (C.ret ?_))))
 exact C.f1 T o (pIi g)
 refine U.start (U.ps 6 T rfl ?_)
 refine g.cs (fun b5 g=>?_) fun b5 g=>?_
 refine U.sk' 4 5 false 14 b5 ?_
 refine U.pk b5 ?_
 refine U.ps 1 T rfl (U.sk' 4 11 false 20 rfl ?_)
 refine U.pk rfl ?_
 refine U.ps 1 T rfl (U.sk' 4 17 false 26 rfl ?_)
 refine U.pk rfl ?_
 refine U.done ?_
 exact St.wa [some 0] (j4 _ g)
 refine U.pq 4 5 false 14 b5 T ?_
 refine U.pk' b5 ?_
 refine U.ps 1 T rfl ?_
 refine g.cs (fun b6 g=>?_) fun b6 g=>?_
 refine U.sk' 4 11 false 20 b6 ?_
 refine U.pk b6 ?_
 refine U.ps 1 T rfl (U.sk' 4 17 false 26 rfl ?_)
 refine U.pk rfl ?_
 refine U.done ?_
 exact St.wa [some 0] (j4 _ g)
 refine U.pq 4 11 false 20 b6 T ?_
 refine U.pk' b6 ?_
 refine U.ps 1 T rfl ?_
 refine g.cs (fun b7 g=>?_) fun b7 g=>?_
 refine U.sk' 4 17 false 26 b7 ?_
 refine U.pk b7 ?_
 refine U.done ?_
 exact St.wa [some 0] (j4 _ g)
 refine U.pq 4 17 false 26 b7 T ?_
 refine U.pk' b7 ?_
 refine U.done ?_
 exact St.wa [some 0] (j4 _ g)
theorem Q0c (f:Q6) (c:Int) (d:Int) (post:Int→Prop) (g:XI f c d post):
  Tr Tryz.prog 77 [.agg (Qd f),.i c,.i d] [] 0 (pI post):=by
 refine Tr.go Tryz.func77 Tryz.ntmps77 fun _ _ _ _ o=>?_
 unfold XI at g
 refine C.ss (U.bx ?_)
 refine U.pd 1 T (C.xs (C.seq ?_))
 refine C.jn (fun (x3:Bool)=>[(1,.i c),(2,.i d),(3,.p 0 0),(22,.b x3)]) (fun x3=>[(0,.box (Qd f))]) 1 g (fun x3 g=>?_) fun J4 g j4=>?_
 refine C.nx ?_
 refine C.ite rfl g (fun b8 g=>?_) fun b8 g=>?_
 refine C.ss (U.pd 1 T (C.nx (C.ret (C.rt ?_))))
 exact C.f1 T o (pIi g)
 refine C.skip (C.xt (U.ps 2 T rfl (U.k (Q3n f c _ g) Q9i (fun x13 g=>?_))))
 refine U.pd 7 T (C.xt ?_)
 refine U.k (Q3T _ g) QaO fun x16 g=>?_
 refine U.ps 1 T rfl ?_
 obtain⟨x17,y17,g⟩:=g
 refine U.r rfl (.none rfl) rfl rfl (by exact Rd.ia T (enc:=Q6I) rfl rfl rfl rfl rfl rfl rfl rfl rfl (fun _ _=>rfl) y17) ?_
 refine U.al T ?_
 refine U.st T ?_
 refine U.done (C.xt (U.ps 13 T rfl (U.k (WG f (w64 (x13.1+x17.x)) (w64 (x13.2.1+x17.y)) (w64 (x13.2.2+x17.z)) _ g) Q7L (fun x20 g=>?_))))
 refine U.pd 1 T (C.nx (C.ret ?_))
 exact C.f1 T o (pIi g)
 refine U.start (U.ps 2 T rfl (U.k (Q1q f c _ g) Q8I (fun x5 g=>?_)))
 refine U.ps 2 T rfl ?_
 refine g.cs (fun b6 g=>?_) fun b6 g=>?_
 refine U.pq 2 4 false 15 (ntF b6) T ?_
 refine U.pk' (ntF b6) ?_
 refine U.ps 1 T rfl ?_
 refine g.cs (fun b7 g=>?_) fun b7 g=>?_
 refine U.sk' 2 8 false 19 b7 ?_
 refine U.pk b7 ?_
 refine U.done ?_
 exact St.wa [some 0] (j4 _ g)
 refine U.pq 2 8 false 19 b7 T ?_
 refine U.pk' b7 ?_
 refine U.done ?_
 exact St.wa [some 0] (j4 _ g)
 refine U.sk' 2 4 false 15 (ntT b6) ?_
 refine U.pk (ntT b6) ?_
 refine U.ps 1 T rfl (U.sk' 2 8 false 19 rfl ?_)
 refine U.pk rfl ?_
 refine U.done ?_
 exact St.wa [some 0] (j4 _ g)
theorem Zy (f:Q6) (c:Int) (d:Int) (post:(Int×Bool)→Prop) (g:GD f c d post):
  Tr Tryz.prog 24 [.agg (Qd f),.i c,.i d] [] 0 (fun A H' k=>∃y,post y∧A=(.tup [.i y.1,.b y.2])∧H'=[]∧k=0):=by
 refine Tr.go Tryz.func24 Tryz.ntmps24 fun _ _ _ _ o=>?_
 unfold GD at g
 refine C.ss (U.bx ?_)
 refine U.pd 2 T (C.xt ?_)
 refine U.ps 3 T rfl (U.k (Q0c f c d _ g) en77 (fun x5 g=>?_))
 refine U.pd 1 T (C.xs (C.seq ?_))
 refine C.jn (fun (x6:Bool)=>[(1,.i c),(2,.i d),(3,.p 0 0),(8,.i x5),(41,.b x6)]) (fun x6=>[(0,.box (Qd f))]) 1 g (fun x6 g=>?_) fun J7 g j7=>?_
 refine C.nx ?_
 refine C.ite rfl g (fun b15 g=>?_) fun b15 g=>?_
 refine C.ss (U.pd 2 T (C.nx (C.ret (C.rt ?_))))
 exact C.f9 T o ⟨(0,false),g,rfl,rfl,rfl⟩
 refine C.skip (C.xs (C.seq ?_))
 refine C.jn (fun (x18:Bool)=>[(8,.i x5),(63,.b x18)]) (fun x18=>[]) 0 g (fun x18 g=>?_) fun J19 g j19=>?_
 refine C.nx ?_
 refine C.ite rfl g (fun b28 g=>?_) fun b28 g=>?_
 refine C.ss (U.pd 2 T (C.nx (C.ret (C.rt ?_))))
 exact C.f9 T o ⟨(0,false),g,rfl,rfl,rfl⟩
 refine C.skip (C.xt (U.pd 3 T (C.nx (C.ret ?_))))
 exact C.f9 T o ⟨(x5,true),g,rfl,rfl,rfl⟩
 refine U.start (U.ps 3 T rfl ?_)
 refine g.cs (fun b20 g=>?_) fun b20 g=>?_
 refine U.sk' 2 2 false 44 b20 ?_
 refine U.pk b20 ?_
 refine U.ps 1 T rfl (U.pq 3 6 true 48 rfl T ?_)
 obtain⟨x21,y21,g⟩:=g
 refine U.r rfl (.tk 6 true 48 rfl) rfl rfl (by exact Rd.ix T rfl rfl rfl rfl rfl rfl y21) ?_
 refine U.pq 3 6 true 48 rfl T ?_
 refine g.cs (fun b22 g=>?_) fun b22 g=>?_
 refine U.sk' 6 13 false 55 b22 ?_
 refine U.r rfl (.tk 6 true 48 rfl) rfl rfl (by exact Rd.pk rfl rfl b22 rfl) ?_
 refine U.pk rfl ?_
 refine U.done ?_
 exact St.wn (j19 _ g)
 refine U.pq 3 13 false 55 b22 T ?_
 obtain⟨x23,y23,g⟩:=g
 refine U.r rfl (.tk 13 false 55 b22) rfl rfl (by exact Rd.ix T rfl rfl rfl rfl rfl rfl y23) ?_
 refine U.pq 2 13 false 55 b22 T ?_
 refine U.r rfl (.tk 6 true 48 rfl) rfl rfl (by exact Rd.pk' rfl rfl b22 rfl) ?_
 refine U.pk rfl ?_
 refine U.done ?_
 exact St.wn (j19 _ g)
 refine U.pq 2 2 false 44 b20 T ?_
 refine U.pk' b20 ?_
 refine U.ps 1 T rfl ?_
 refine g.cs (fun b24 g=>?_) fun b24 g=>?_
 refine U.pq 3 6 true 48 b24 T ?_
 obtain⟨x25,y25,g⟩:=g
 refine U.r rfl (.tk 6 true 48 b24) rfl rfl (by exact Rd.ix T rfl rfl rfl rfl rfl rfl y25) ?_
 refine U.pq 3 6 true 48 b24 T ?_
 refine g.cs (fun b26 g=>?_) fun b26 g=>?_
 refine U.sk' 6 13 false 55 b26 ?_
 refine U.r rfl (.tk 6 true 48 b24) rfl rfl (by exact Rd.pk rfl rfl b26 rfl) ?_
 refine U.pk b24 ?_
 refine U.done ?_
 exact St.wn (j19 _ g)
 refine U.pq 3 13 false 55 b26 T ?_
 obtain⟨x27,y27,g⟩:=g
 refine U.r rfl (.tk 13 false 55 b26) rfl rfl (by exact Rd.ix T rfl rfl rfl rfl rfl rfl y27) ?_
 refine U.pq 2 13 false 55 b26 T ?_
 refine U.r rfl (.tk 6 true 48 b24) rfl rfl (by exact Rd.pk' rfl rfl b26 rfl) ?_
 refine U.pk b24 ?_
 refine U.done ?_
 exact St.wn (j19 _ g)
 refine U.sk' 7 6 true 48 b24 ?_
 refine U.sku 6 13 false 55 rfl rfl rfl ?_
 refine U.sk' 1 6 true 48 b24 ?_
 refine U.pk' b24 ?_
 refine U.done ?_
 exact St.wn (j19 _ g)
 refine U.start (U.ps 3 T rfl ?_)
 refine g.cs (fun b8 g=>?_) fun b8 g=>?_
 refine U.sk' 6 2 false 15 b8 ?_
 refine U.pk b8 ?_
 refine U.ps 1 T rfl (U.sk' 6 10 false 23 rfl ?_)
 refine U.pk rfl ?_
 refine U.ps 1 T rfl (U.sk' 9 18 false 31 rfl ?_)
 refine U.pk rfl ?_
 refine U.done ?_
 exact St.wa [some 0] (j7 _ g)
 refine U.pq 3 2 false 15 b8 T ?_
 obtain⟨x9,y9,g⟩:=g
 refine U.r rfl (.tk 2 false 15 b8) rfl rfl (by exact Rd.ix T rfl rfl rfl rfl rfl rfl y9) ?_
 refine U.pq 2 2 false 15 b8 T ?_
 refine U.pk' b8 ?_
 refine U.ps 1 T rfl ?_
 refine g.cs (fun b10 g=>?_) fun b10 g=>?_
 refine U.sk' 6 10 false 23 b10 ?_
 refine U.pk b10 ?_
 refine U.ps 1 T rfl (U.sk' 9 18 false 31 rfl ?_)
 refine U.pk rfl ?_
 refine U.done ?_
 exact St.wa [some 0] (j7 _ g)
 refine U.pq 3 10 false 23 b10 T ?_
 obtain⟨x11,y11,g⟩:=g
 refine U.r rfl (.tk 10 false 23 b10) rfl rfl (by exact Rd.ix T rfl rfl rfl rfl rfl rfl y11) ?_
 refine U.pq 2 10 false 23 b10 T ?_
 refine U.pk' b10 ?_
 refine U.ps 1 T rfl ?_
 refine g.cs (fun b12 g=>?_) fun b12 g=>?_
 refine U.sk' 9 18 false 31 b12 ?_
 refine U.pk b12 ?_
 refine U.done ?_
 exact St.wa [some 0] (j7 _ g)
 refine U.pq 3 18 false 31 b12 T ?_
 obtain⟨x13,y13,g⟩:=g
 refine U.r rfl (.tk 18 false 31 b12) rfl rfl (by exact Rd.ix T rfl rfl rfl rfl rfl rfl y13) ?_
 refine U.pq 2 18 false 31 b12 T ?_
 obtain⟨y14,g⟩:=g
 refine U.r rfl (.tk 18 false 31 b12) rfl rfl (by exact Rd.sh rfl rfl rfl rfl y14) ?_
 refine U.pq 2 18 false 31 b12 T ?_
 refine U.pk' b12 ?_
 refine U.done ?_
 exact St.wa [some 0] (j7 _ g)
theorem Zm (s_1:List Int) (v:Int) (post:Int→Prop) (g:Kw s_1 v post):
  Tr Tryz.prog 115 [.sl 1 eI s_1,.i v] [] 0 (pI post):=by
 refine Tr.go Tryz.func115 Tryz.ntmps115 fun _ _ _ _ o=>?_
 unfold Kw at g
 refine C.ss (U.pd 1 T (C.xs (C.ss ?_)))
 refine U.pd 3 T (C.nx ?_)
 refine C.jn (fun (x5:Unit)=>[]) (fun x5=>[]) 0 g (fun x5 g=>?_) fun J6 g j6=>?_
 refine C.xt (U.pd 1 T (C.nx (C.ret ?_)))
 exact C.f1 T o (pIi g)
 refine C.block (St.wk (C.loop (fun (s7:Int)=>[(0,.sl 1 eI s_1),(1,.i v),(7,.i (s_1.length:Int)),(8,.i s7)]) (fun s7=>[]) g (fun s7 Y8 g=>?_)) (Wk.e))
 refine C.ss (U.pd 1 T (C.xs ?_))
 refine C.ite rfl g (fun b11 g=>?_) fun b11 g=>?_
 refine C.skip (C.xs (C.block (C.ss (U.pd 2 T (C.xt ?_)))))
 refine U.ps 3 T rfl ?_
 obtain⟨x16,y16,g⟩:=g
 refine U.ix T y16 ?_
 refine U.pd 2 T (C.nx ?_)
 refine C.ite rfl g (fun b17 g=>?_) fun b17 g=>?_
 refine C.ss (U.pd 2 T (C.nx (C.ret (C.brt (C.rt (C.rt (C.brt (C.rt ?_))))))))
 exact C.f1 T o (pIi g)
 refine C.skip (C.bnx (C.nx (U.start (U.pd 2 T (C.nx ?_)))))
 exact St.wk (C.next g) (Wk.e)
 refine C.exit (C.ex (C.ex (C.bex ?_)))
 exact St.wk (j6 _ g) (Wk.mk' [] rfl rfl trivial trivial rfl)
theorem K7 (s_1:List Int) (v:Int) (post:Bool→Prop) (g:Qx s_1 v post):
  Tr Tryz.prog 44 [.sl 1 eI s_1,.i v] [] 0 (pB post):=by
 refine Tr.go Tryz.func44 Tryz.ntmps44 fun _ _ _ _ o=>?_
 unfold Qx at g
 refine C.ss (U.pd 1 T (C.xt ?_))
 refine U.ps 2 T rfl (U.k (Zm s_1 v _ g) Qb7 (fun x5 g=>?_))
 refine U.pd 2 T (C.nx (C.ret ?_))
 exact C.f1 T o (pBi g)
theorem Q5k (x_1:Q0) (c0:ApiRobot) (c1:Int) (post:Bool→Prop) (g:WH x_1 c0 c1 post):
  Tr Tryz.prog 161 [.agg [.i x_1.Cell,.i x_1.Left],.rp [.i c0.Cell,.i c0.Load,.i c0.Charge,.i c0.Rest,.i c0.Mute,.b c0.Dead],.rp [.i c1]] [] 0 (pB post):=by
 refine Tr.go Tryz.func161 Tryz.ntmps161 fun _ _ _ _ o=>?_
 unfold WH at g
 refine C.ss (U.bx ?_)
 refine U.pd 1 T (C.xs ?_)
 refine C.jn (fun (x3:Bool)=>[(4,.b x3)]) (fun x3=>[]) 0 g (fun x3 g=>?_) fun J4 g j4=>?_
 refine C.nx (C.ret ?_)
 exact C.f1 T o (pBi g)
 refine U.start (U.ps 6 T rfl ?_)
 refine g.cs (fun b5 g=>?_) fun b5 g=>?_
 refine U.sk' 4 5 false 10 b5 ?_
 refine U.pk b5 ?_
 refine U.pd 1 T ?_
 exact St.wn (j4 _ g)
 refine U.pq 4 5 false 10 b5 T ?_
 refine U.pk' b5 ?_
 refine U.pd 1 T ?_
 exact St.wn (j4 _ g)
theorem Xq (s_1:List Q0) (f_c0:ApiRobot) (f_c1:Int) (post:Int→Prop) (g:Qu s_1 f_c0 f_c1 post):
  Tr Tryz.prog 129 [.sl 2 Q3 s_1,.fn (.func 161) [] [.rp [.i f_c0.Cell,.i f_c0.Load,.i f_c0.Charge,.i f_c0.Rest,.i f_c0.Mute,.b f_c0.Dead],.rp [.i f_c1]]] [] 0 (pI post):=by
 refine Tr.go Tryz.func129 Tryz.ntmps129 fun _ _ _ _ o=>?_
 unfold Qu at g
 refine C.ss (U.pd 1 T (C.xs (C.ss ?_)))
 refine U.pd 3 T (C.nx ?_)
 refine C.jn (fun (x5:Unit)=>[]) (fun x5=>[]) 0 g (fun x5 g=>?_) fun J6 g j6=>?_
 refine C.xt (U.pd 1 T (C.nx (C.ret ?_)))
 exact C.f1 T o (pIi g)
 refine C.block (St.wk (C.loop (fun (s7:Int)=>[(0,.sl 2 Q3 s_1),(1,.fn (.func 161) [] [.rp [.i f_c0.Cell,.i f_c0.Load,.i f_c0.Charge,.i f_c0.Rest,.i f_c0.Mute,.b f_c0.Dead],.rp [.i f_c1]]),(7,.i (s_1.length:Int)),(8,.i s7)]) (fun s7=>[]) g (fun s7 Y8 g=>?_)) (Wk.e))
 refine C.ss (U.pd 1 T (C.xs ?_))
 refine C.ite rfl g (fun b11 g=>?_) fun b11 g=>?_
 refine C.skip (C.xs (C.block (C.ss (U.pd 2 T (C.xt ?_)))))
 refine U.ps 3 T rfl ?_
 obtain⟨x16,y16,g⟩:=g
 refine U.ix T y16 ?_
 refine U.ps 1 T rfl (U.k (Q5k x16 f_c0 f_c1 _ g) QaK (fun x17 g=>?_))
 refine U.done (C.nx ?_)
 refine C.ite rfl g (fun b18 g=>?_) fun b18 g=>?_
 refine C.ss (U.pd 2 T (C.nx (C.ret (C.brt (C.rt (C.rt (C.brt (C.rt ?_))))))))
 exact C.f1 T o (pIi g)
 refine C.skip (C.bnx (C.nx (U.start (U.pd 2 T (C.nx ?_)))))
 exact St.wk (C.next g) (Wk.e)
 refine C.exit (C.ex (C.ex (C.bex ?_)))
 exact St.wk (j6 _ g) (Wk.mk' [] rfl rfl trivial trivial rfl)
theorem X6 (s_1:List Q0) (f_c0:ApiRobot) (f_c1:Int) (post:Bool→Prop) (g:Qf s_1 f_c0 f_c1 post):
  Tr Tryz.prog 162 [.sl 2 Q3 s_1,.fn (.func 161) [] [.rp [.i f_c0.Cell,.i f_c0.Load,.i f_c0.Charge,.i f_c0.Rest,.i f_c0.Mute,.b f_c0.Dead],.rp [.i f_c1]]] [] 0 (pB post):=by
 refine Tr.go Tryz.func162 Tryz.ntmps162 fun _ _ _ _ o=>?_
 unfold Qf at g
 refine C.ss (U.pd 1 T (C.xt ?_))
 refine U.ps 2 T rfl (U.k (Xq s_1 f_c0 f_c1 _ g) Q8w (fun x5 g=>?_))
 refine U.pd 2 T (C.nx (C.ret ?_))
 exact C.f1 T o (pBi g)
theorem ZN (x_1:Int) (post:Bool→Prop) (g:GF x_1 post):
  Tr Tryz.prog 218 [.i x_1] [] 0 (pB post):=by
 refine Tr.go Tryz.func218 Tryz.ntmps218 fun _ _ _ _ o=>?_
 unfold GF at g
 refine C.ss (U.pd 1 T (C.xt ?_))
 refine U.pd 4 T (C.nx (C.ret ?_))
 exact C.f1 T o (pBi g)
theorem Q3f (x_1:Int) (y_1:Int) (post:Bool→Prop) (g:WA x_1 y_1 post):
  Tr Tryz.prog 189 [.i x_1,.i y_1] [] 0 (pB post):=by
 refine Tr.go Tryz.func189 Tryz.ntmps189 fun _ _ _ _ o=>?_
 unfold WA at g
 refine C.ss (U.pd 1 T (C.xs ?_))
 refine C.jn (fun (x3:Bool)=>[(4,.b x3)]) (fun x3=>[]) 0 g (fun x3 g=>?_) fun J4 g j4=>?_
 refine C.nx (C.ret ?_)
 exact C.f1 T o (pBi g)
 refine U.start (U.ps 1 T rfl (U.k (ZN x_1 _ g) Q9W (fun x5 g=>?_)))
 refine U.ps 1 T rfl ?_
 refine g.cs (fun b6 g=>?_) fun b6 g=>?_
 refine U.pq 1 2 true 7 b6 T ?_
 refine U.k (ZN y_1 _ g) Q9W (fun x7 g=>?_) (hw:=.take 2 true 7 _ b6 rfl rfl rfl)
 refine U.pq 1 2 true 7 b6 T ?_
 refine U.pk b6 ?_
 refine U.ps 1 T rfl ?_
 refine g.cs (fun b8 g=>?_) fun b8 g=>?_
 refine U.pq 3 7 false 12 (ntF b8) T ?_
 refine U.pk' (ntF b8) ?_
 refine U.pd 1 T ?_
 exact St.wn (j4 _ g)
 refine U.sk' 3 7 false 12 (ntT b8) ?_
 refine U.pk (ntT b8) ?_
 refine U.pd 1 T ?_
 exact St.wn (j4 _ g)
 refine U.sk' 3 2 true 7 b6 ?_
 refine U.pk' b6 ?_
 refine U.ps 1 T rfl (U.pq 3 7 false 12 rfl T ?_)
 refine U.pk' rfl ?_
 refine U.pd 1 T ?_
 exact St.wn (j4 _ g)
theorem Yy (x_1:Int) (post:Bool→Prop) (g:XH x_1 post):
  Tr Tryz.prog 224 [.i x_1] [] 0 (pB post):=by
 refine Tr.go Tryz.func224 Tryz.ntmps224 fun _ _ _ _ o=>?_
 unfold XH at g
 refine C.ss (U.pd 1 T (C.xt ?_))
 refine U.pd 4 T (C.nx (C.ret ?_))
 exact C.f1 T o (pBi g)
theorem WM (x_1:List Int) (target:Int) (post:(Int×Bool)→Prop) (g:QS x_1 target post):
  Tr Tryz.prog 209 [.sl 1 eI x_1,.i target] [] 0 (fun A H' k=>∃y,post y∧A=(.tup [.i y.1,.b y.2])∧H'=[]∧k=0):=by
 refine Tr.go Tryz.func209 Tryz.ntmps209 fun _ _ _ _ o=>?_
 unfold QS at g
 refine C.ss (U.pd 2 T (C.xt ?_))
 refine U.pd 3 T (C.xt ?_)
 refine U.pd 3 T (C.xs ?_)
 refine C.jn (fun (x7:Int)=>[(0,.sl 1 eI x_1),(1,.i target),(6,.i (x_1.length:Int)),(7,.i x7)]) (fun x7=>[]) 0 g (fun x7 g=>?_) fun J8 g j8=>?_
 refine C.xs ?_
 refine C.jn (fun (x28:Bool)=>[(4,.i x7),(5,.b x28)]) (fun x28=>[]) 0 g (fun x28 g=>?_) fun J29 g j29=>?_
 refine C.nx (C.ret ?_)
 exact C.f9 T o ⟨(x7,x28),g,rfl,rfl,rfl⟩
 refine U.start (U.ps 5 T rfl ?_)
 refine g.cs (fun b30 g=>?_) fun b30 g=>?_
 refine U.pq 2 4 true 35 b30 T ?_
 obtain⟨x31,y31,g⟩:=g
 refine U.r rfl (.tk 4 true 35 b30) rfl rfl (by exact Rd.ix T rfl rfl rfl rfl rfl rfl y31) ?_
 refine U.pq 4 4 true 35 b30 T ?_
 refine g.cs (fun b32 g=>?_) fun b32 g=>?_
 refine U.sk' 6 11 false 42 b32 ?_
 refine U.sku 2 17 true 48 rfl rfl rfl ?_
 refine U.sk' 1 11 false 42 b32 ?_
 refine U.r rfl (.tk 4 true 35 b30) rfl rfl (by exact Rd.pk rfl rfl b32 rfl) ?_
 refine U.pk b30 ?_
 refine U.pd 2 T ?_
 exact St.wn (j29 _ g)
 refine U.pq 2 11 false 42 b32 T ?_
 refine U.r rfl (.tk 11 false 42 b32) rfl rfl (by exact Rd.ix T rfl rfl rfl rfl rfl rfl y31) ?_
 refine U.pq 1 11 false 42 b32 T ?_
 refine U.k (Yy x31 _ g) Q9p (fun x33 g=>?_) (hw:=.take 11 false 42 _ b32 rfl rfl rfl)
 refine U.pq 1 11 false 42 b32 T ?_
 refine g.cs (fun b34 g=>?_) fun b34 g=>?_
 refine U.pq 1 17 true 48 b34 T ?_
 refine U.k (Yy target _ g) Q9p (fun x35 g=>?_) (hw:=.take 17 true 48 _ b34 rfl rfl rfl)
 refine U.r rfl (.tk 11 false 42 b32) rfl rfl (by exact Rd.pk rfl rfl b34 rfl) ?_
 refine U.r rfl (.tk 4 true 35 b30) rfl rfl (by exact Rd.pk' rfl rfl b32 rfl) ?_
 refine U.pk b30 ?_
 refine U.pd 2 T ?_
 exact St.wn (j29 _ g)
 refine U.sk' 2 17 true 48 b34 ?_
 refine U.r rfl (.tk 11 false 42 b32) rfl rfl (by exact Rd.pk' rfl rfl b34 rfl) ?_
 refine U.r rfl (.tk 4 true 35 b30) rfl rfl (by exact Rd.pk' rfl rfl b32 rfl) ?_
 refine U.pk b30 ?_
 refine U.pd 2 T ?_
 exact St.wn (j29 _ g)
 refine U.sk' 7 4 true 35 b30 ?_
 refine U.sku 6 11 false 42 rfl rfl rfl ?_
 refine U.sku 2 17 true 48 rfl rfl rfl ?_
 refine U.sku 1 11 false 42 rfl rfl rfl ?_
 refine U.sk' 1 4 true 35 b30 ?_
 refine U.pk' b30 ?_
 refine U.pd 2 T ?_
 exact St.wn (j29 _ g)
 refine C.block (St.wk (C.loop (fun (s9:Int×Int)=>[(0,.sl 1 eI x_1),(1,.i target),(6,.i (x_1.length:Int)),(7,.i s9.1),(8,.i s9.2)]) (fun s9=>[]) g (fun s9 Y10 g=>?_)) (Wk.e))
 refine C.seq (C.ss (U.pd 3 T (C.nx ?_)))
 refine C.ite rfl g (fun b13 g=>?_) fun b13 g=>?_
 refine C.skip (C.nx (C.block (C.ss (U.ps 4 T rfl (U.r rfl (.none rfl) rfl rfl (by exact Rd.sh rfl rfl rfl rfl (by decide)) ?_)))))
 refine U.pd 2 T (C.xt ?_)
 refine U.ps 2 T rfl ?_
 obtain⟨x19,y19,g⟩:=g
 refine U.ix T y19 ?_
 refine U.ps 2 T rfl (U.k (Q3f x19 target _ g) QaR (fun x20 g=>?_))
 refine U.done (C.nx ?_)
 refine C.jn (fun (x21:Int×Int)=>[(0,.sl 1 eI x_1),(1,.i target),(6,.i (x_1.length:Int)),(7,.i x21.1),(8,.i x21.2)]) (fun x21=>[]) 0 g (fun x21 g=>?_) fun J22 g j22=>?_
 refine C.bnx (C.nx ?_)
 exact St.wk (C.next g) (Wk.e)
 refine C.ite rfl g (fun b23 g=>?_) fun b23 g=>?_
 refine U.start (U.pd 3 T ?_)
 exact St.wn (j22 _ g)
 refine U.start (U.pd 2 T ?_)
 exact St.wn (j22 _ g)
 refine C.exit (C.ex (C.ex (C.bex ?_)))
 exact St.wn (j8 _ g)
theorem Q2c (z:ApiZone) (c0:Int) (post:Bool→Prop) (g:Gd z c0 post):
  Tr Tryz.prog 208 [.agg (Q9 z),.rp [.i c0]] [] 0 (pB post):=by
 refine Tr.go Tryz.func208 Tryz.ntmps208 fun _ _ _ _ o=>?_
 unfold Gd at g
 refine C.ss (U.bx ?_)
 refine U.pd 1 T (C.xt ?_)
 refine U.ps 3 T rfl (U.k (WM z.Cells c0 _ g) QaE (fun x5 g=>?_))
 refine U.pd 5 T (C.xt ?_)
 refine U.pd 2 T (C.nx (C.ret ?_))
 exact C.f1 T o (pBi g)
theorem Xc (s_1:List ApiZone) (f_c0:Int) (post:Int→Prop) (g:Qs s_1 f_c0 post):
  Tr Tryz.prog 144 [.sl 5 Q9 s_1,.fn (.func 208) [] [.rp [.i f_c0]]] [] 0 (pI post):=by
 refine Tr.go Tryz.func144 Tryz.ntmps144 fun _ _ _ _ o=>?_
 unfold Qs at g
 refine C.ss (U.pd 1 T (C.xs (C.ss ?_)))
 refine U.pd 3 T (C.nx ?_)
 refine C.jn (fun (x5:Unit)=>[]) (fun x5=>[]) 0 g (fun x5 g=>?_) fun J6 g j6=>?_
 refine C.xt (U.pd 1 T (C.nx (C.ret ?_)))
 exact C.f1 T o (pIi g)
 refine C.block (St.wk (C.loop (fun (s7:Int)=>[(0,.sl 5 Q9 s_1),(1,.fn (.func 208) [] [.rp [.i f_c0]]),(7,.i (s_1.length:Int)),(8,.i s7)]) (fun s7=>[]) g (fun s7 Y8 g=>?_)) (Wk.e))
 refine C.ss (U.pd 1 T (C.xs ?_))
 refine C.ite rfl g (fun b11 g=>?_) fun b11 g=>?_
 refine C.skip (C.xs (C.block (C.ss (U.pd 2 T (C.xt ?_)))))
 refine U.ps 3 T rfl ?_
 obtain⟨x16,y16,g⟩:=g
 refine U.ix T y16 ?_
 refine U.ps 1 T rfl (U.k (Q2c x16 f_c0 _ g) Qb4 (fun x17 g=>?_))
 refine U.done (C.nx ?_)
 refine C.ite rfl g (fun b18 g=>?_) fun b18 g=>?_
 refine C.ss (U.pd 2 T (C.nx (C.ret (C.brt (C.rt (C.rt (C.brt (C.rt ?_))))))))
 exact C.f1 T o (pIi g)
 refine C.skip (C.bnx (C.nx (U.start (U.pd 2 T (C.nx ?_)))))
 exact St.wk (C.next g) (Wk.e)
 refine C.exit (C.ex (C.ex (C.bex ?_)))
 exact St.wk (j6 _ g) (Wk.mk' [] rfl rfl trivial trivial rfl)
theorem Q0m (s_1:ApiSite) (c:Int) (post:Int→Prop) (g:Gi s_1 c post):
  Tr Tryz.prog 169 [.agg (Q2 s_1),.i c] [] 0 (pI post):=by
 refine Tr.go Tryz.func169 Tryz.ntmps169 fun _ _ _ _ o=>?_
 unfold Gi at g
 refine C.ss (U.bx ?_)
 refine U.bx ?_
 refine U.pd 1 T (C.xt ?_)
 refine U.ps 3 T rfl (U.k (Xc s_1.Zones c _ g) Qa0 (fun x5 g=>?_))
 refine U.pd 1 T (C.nx (C.ret ?_))
 exact C.f1 T o (pIi g)
theorem YJ (s_1:ApiSite) (c:Int) (post:Bool→Prop) (g:X8 s_1 c post):
  Tr Tryz.prog 202 [.agg (Q2 s_1),.i c] [] 0 (pB post):=by
 refine Tr.go Tryz.func202 Tryz.ntmps202 fun _ _ _ _ o=>?_
 unfold X8 at g
 refine C.ss (U.bx ?_)
 refine U.pd 1 T (C.xs ?_)
 refine C.jn (fun (x3:Bool)=>[(4,.b x3)]) (fun x3=>[]) 0 g (fun x3 g=>?_) fun J4 g j4=>?_
 refine C.nx (C.ret ?_)
 exact C.f1 T o (pBi g)
 refine U.start (U.ps 3 T rfl ?_)
 refine g.cs (fun b5 g=>?_) fun b5 g=>?_
 refine U.pq 6 2 true 7 b5 T ?_
 refine U.pk b5 ?_
 refine U.pd 1 T ?_
 exact St.wn (j4 _ g)
 refine U.sk' 6 2 true 7 b5 ?_
 refine U.pk' b5 ?_
 refine U.pd 1 T ?_
 exact St.wn (j4 _ g)
theorem Q2Z (x_1:G6) (c0:Int) (post:Bool→Prop) (g:GZ x_1 c0 post):
  Tr Tryz.prog 204 [.agg [.i x_1.From,.i x_1.To],.rp [.i c0]] [] 0 (pB post):=by
 refine Tr.go Tryz.func204 Tryz.ntmps204 fun _ _ _ _ o=>?_
 unfold GZ at g
 refine C.ss (U.bx ?_)
 refine U.pd 1 T (C.xs ?_)
 refine C.jn (fun (x3:Bool)=>[(3,.b x3)]) (fun x3=>[]) 0 g (fun x3 g=>?_) fun J4 g j4=>?_
 refine C.nx (C.ret ?_)
 exact C.f1 T o (pBi g)
 refine U.start (U.ps 5 T rfl ?_)
 refine g.cs (fun b5 g=>?_) fun b5 g=>?_
 refine U.pq 4 4 true 8 b5 T ?_
 refine U.pk b5 ?_
 refine U.pd 1 T ?_
 exact St.wn (j4 _ g)
 refine U.sk' 4 4 true 8 b5 ?_
 refine U.pk' b5 ?_
 refine U.pd 1 T ?_
 exact St.wn (j4 _ g)
theorem Xp (s_1:List G6) (f_c0:Int) (post:Int→Prop) (g:Qv s_1 f_c0 post):
  Tr Tryz.prog 222 [.sl 2 G3 s_1,.fn (.func 204) [] [.rp [.i f_c0]]] [] 0 (pI post):=by
 refine Tr.go Tryz.func222 Tryz.ntmps222 fun _ _ _ _ o=>?_
 unfold Qv at g
 refine C.ss (U.pd 1 T (C.xs (C.ss ?_)))
 refine U.pd 3 T (C.nx ?_)
 refine C.jn (fun (x5:Unit)=>[]) (fun x5=>[]) 0 g (fun x5 g=>?_) fun J6 g j6=>?_
 refine C.xt (U.pd 1 T (C.nx (C.ret ?_)))
 exact C.f1 T o (pIi g)
 refine C.block (St.wk (C.loop (fun (s7:Int)=>[(0,.sl 2 G3 s_1),(1,.fn (.func 204) [] [.rp [.i f_c0]]),(7,.i (s_1.length:Int)),(8,.i s7)]) (fun s7=>[]) g (fun s7 Y8 g=>?_)) (Wk.e))
 refine C.ss (U.pd 1 T (C.xs ?_))
 refine C.ite rfl g (fun b11 g=>?_) fun b11 g=>?_
 refine C.skip (C.xs (C.block (C.ss (U.pd 2 T (C.xt ?_)))))
 refine U.ps 3 T rfl ?_
 obtain⟨x16,y16,g⟩:=g
 refine U.ix T y16 ?_
 refine U.ps 1 T rfl (U.k (Q2Z x16 f_c0 _ g) QbP (fun x17 g=>?_))
 refine U.done (C.nx ?_)
 refine C.ite rfl g (fun b18 g=>?_) fun b18 g=>?_
 refine C.ss (U.pd 2 T (C.nx (C.ret (C.brt (C.rt (C.rt (C.brt (C.rt ?_))))))))
 exact C.f1 T o (pIi g)
 refine C.skip (C.bnx (C.nx (U.start (U.pd 2 T (C.nx ?_)))))
 exact St.wk (C.next g) (Wk.e)
 refine C.exit (C.ex (C.ex (C.bex ?_)))
 exact St.wk (j6 _ g) (Wk.mk' [] rfl rfl trivial trivial rfl)
theorem X7 (s_1:List G6) (f_c0:Int) (post:Bool→Prop) (g:Qe s_1 f_c0 post):
  Tr Tryz.prog 203 [.sl 2 G3 s_1,.fn (.func 204) [] [.rp [.i f_c0]]] [] 0 (pB post):=by
 refine Tr.go Tryz.func203 Tryz.ntmps203 fun _ _ _ _ o=>?_
 unfold Qe at g
 refine C.ss (U.pd 1 T (C.xt ?_))
 refine U.ps 2 T rfl (U.k (Xp s_1 f_c0 _ g) Qbo (fun x5 g=>?_))
 refine U.pd 2 T (C.nx (C.ret ?_))
 exact C.f1 T o (pBi g)
theorem Q4R (s_1:ApiSite) (c:Int) (tick:Int) (post:Bool→Prop) (g:WF s_1 c tick post):
  Tr Tryz.prog 163 [.agg (Q2 s_1),.i c,.i tick] [] 0 (pB post):=by
 refine Tr.go Tryz.func163 Tryz.ntmps163 fun _ _ _ _ o=>?_
 unfold WF at g
 refine C.ss (U.bx ?_)
 refine U.bx ?_
 refine U.pd 1 T (C.xt ?_)
 refine U.ps 2 T rfl (U.k (Q0m s_1 c _ g) Qaf (fun x5 g=>?_))
 refine U.pd 1 T (C.xs (C.seq ?_))
 refine C.jn (fun (x6:Bool)=>[(1,.i c),(3,.p 0 0),(5,.p 1 0),(7,.i x5),(18,.b x6)]) (fun x6=>[(0,.box (Q2 s_1)),(1,.box [.i tick])]) 2 g (fun x6 g=>?_) fun J7 g j7=>?_
 refine C.nx ?_
 refine C.ite rfl g (fun b10 g=>?_) fun b10 g=>?_
 refine C.ss (U.ps 2 T rfl (U.k (YJ s_1 c _ g) Q8H (fun x13 g=>?_)))
 refine U.pd 1 T (C.nx (C.ret (C.rt ?_)))
 exact C.f1 T o (pBi g)
 refine C.skip (C.xt (U.ps 3 T rfl ?_))
 obtain⟨x16,y16,g⟩:=g
 refine U.ix T y16 ?_
 refine U.ps 3 T rfl (U.k (X7 x16.Shut tick _ g) QaC (fun x17 g=>?_))
 refine U.pd 2 T (C.nx (C.ret ?_))
 exact C.f1 T o (pBi g)
 refine U.start (U.ps 2 T rfl (U.k (YJ s_1 c _ g) Q8H (fun x8 g=>?_)))
 refine U.ps 2 T rfl ?_
 refine g.cs (fun b9 g=>?_) fun b9 g=>?_
 refine U.pq 2 4 false 15 (ntF b9) T ?_
 refine U.pk' (ntF b9) ?_
 refine U.done ?_
 exact St.wa (idR 2) (j7 _ g)
 refine U.sk' 2 4 false 15 (ntT b9) ?_
 refine U.pk (ntT b9) ?_
 refine U.done ?_
 exact St.wa (idR 2) (j7 _ g)
theorem YX (c:Int) (post:Int→Prop) (g:Xt c post):
  Tr Tryz.prog 117 [.i c] [] 0 (pI post):=by
 refine Tr.go Tryz.func117 Tryz.ntmps117 fun _ _ _ _ o=>?_
 unfold Xt at g
 refine C.ss (U.pd 1 T (C.xt ?_))
 refine U.pd 3 T (C.nx (C.ret ?_))
 exact C.f1 T o (pIi g)
theorem Yr (c:Int) (post:Int→Prop) (g:KE c post):
  Tr Tryz.prog 118 [.i c] [] 0 (pI post):=by
 refine Tr.go Tryz.func118 Tryz.ntmps118 fun _ _ _ _ o=>?_
 unfold KE at g
 refine C.ss (U.pd 1 T (C.xt ?_))
 refine U.pd 4 T (C.nx (C.ret ?_))
 exact C.f1 T o (pIi g)
theorem Q5e (r:ApiRobot) (c:Int) (post:(List Int)→Prop) (g:WJ r c post):
  Tr Tryz.prog 82 [.agg (Q4 r),.i c] [] 0 (fun A H' k=>∃y,post y∧A=(.o 0)∧H'=[(0,.val (.os 1 eI y))]∧k=1):=by
 refine Tr.go Tryz.func82 Tryz.ntmps82 fun _ _ _ _ o=>?_
 unfold WJ at g
 refine C.ss (U.bx ?_)
 refine U.pd 1 T (C.xs (C.ss ?_))
 refine U.pd 3 T (C.nx ?_)
 refine C.ite rfl g (fun b5 g=>?_) fun b5 g=>?_
 refine C.ss (U.ps 1 T rfl (U.k (YX c _ g) Q7E (fun x8 g=>?_)))
 refine U.ps 1 T rfl (U.k (Yr c _ g) Q7G (fun x9 g=>?_))
 refine U.bs T eI ([x8,x9]:List Int) ?_
 refine U.pd 1 T (C.nx (C.ret (C.rt ?_)))
 exact C.g1 [some 1] T o ⟨([x8,x9]:List Int),g,rfl,rfl,rfl⟩
 refine C.skip (C.xt (U.ps 1 T rfl (U.k (YX c _ g) Q7E (fun x12 g=>?_))))
 refine U.bs T eI ([x12]:List Int) ?_
 refine U.pd 1 T (C.nx (C.ret ?_))
 exact C.g1 [some 1] T o ⟨([x12]:List Int),g,rfl,rfl,rfl⟩
theorem Q4S (st:ApiState) (i:Int) (post:(List Int)→Prop) (g:W8 st i post):
  Tr Tryz.prog 146 [.agg (Q1 st),.i i] [] 0 (fun A H' k=>∃y,post y∧A=(.o 0)∧H'=[(0,.val (.os 1 eI y))]∧k=1):=by
 refine Tr.go Tryz.func146 Tryz.ntmps146 fun _ _ _ _ o=>?_
 unfold W8 at g
 refine C.ss (U.bx ?_)
 refine U.pd 1 T (C.xs (C.seq ?_))
 refine C.jn (fun (x3:Bool)=>[(1,.i i),(2,.p 0 0),(13,.b x3)]) (fun x3=>[(0,.box (Q1 st))]) 1 g (fun x3 g=>?_) fun J4 g j4=>?_
 refine C.nx ?_
 refine C.ite rfl g (fun b6 g=>?_) fun b6 g=>?_
 refine C.ss (U.pd 1 T (C.nx (C.ret (C.rt ?_))))
 exact C.g1 [none] T o ⟨[],g,rfl,rfl,rfl⟩
 refine C.skip (C.xs (D.bq mix 9999 [0] [] (fun hQ hS ws M'=>?_)))
 refine D.pq 3 (zl [0,1,2]) T ?_
 obtain⟨x11,y11,g⟩:=g
 refine D.ix 3 [] T y11 ?_
 refine D.pq 4 (zl [4,5,6,7]) T ?_
 refine D.ix 8 [] T y11 ?_
 refine D.pq 2 (zl [9,10]) T ?_
 refine D.k 11 (Q5e x11 x11.Cell _ g) en82 fun x12 g=>?_
 refine D.pq 1 [(12,[])] T ?_
 refine D.done (by kernel_rfl) ?_
 refine C.nx (C.ret ?_)
 exact C.g1 [some 1] T o ⟨x12,g,rfl,rfl,rfl⟩
 refine U.start (U.ps 3 T rfl ?_)
 refine g.cs (fun b5 g=>?_) fun b5 g=>?_
 refine U.sk' 5 2 false 7 b5 ?_
 refine U.pk b5 ?_
 refine U.done ?_
 exact St.wa [some 0] (j4 _ g)
 refine U.pq 5 2 false 7 b5 T ?_
 refine U.pk' b5 ?_
 refine U.done ?_
 exact St.wa [some 0] (j4 _ g)
theorem Q2a (r:ApiRobot) (c0:Int) (post:Bool→Prop) (g:Gc r c0 post):
  Tr Tryz.prog 84 [.agg (Q4 r),.rp [.i c0]] [] 0 (pB post):=by
 refine Tr.go Tryz.func84 Tryz.ntmps84 fun _ _ _ _ o=>?_
 unfold Gc at g
 refine C.ss (U.bx ?_)
 refine U.pd 1 T (C.xt ?_)
 refine U.pd 5 T (C.nx (C.ret ?_))
 exact C.f1 T o (pBi g)
theorem KZ (s_1:List ApiRobot) (f_c0:Int) (post:Int→Prop) (g:Qo s_1 f_c0 post):
  Tr Tryz.prog 83 [.sl 6 Q4 s_1,.fn (.func 84) [] [.rp [.i f_c0]]] [] 0 (pI post):=by
 refine Tr.go Tryz.func83 Tryz.ntmps83 fun _ _ _ _ o=>?_
 unfold Qo at g
 refine C.ss (U.pd 1 T (C.xs (C.ss ?_)))
 refine U.pd 3 T (C.nx ?_)
 refine C.jn (fun (x5:Unit)=>[]) (fun x5=>[]) 0 g (fun x5 g=>?_) fun J6 g j6=>?_
 refine C.xt (U.pd 1 T (C.nx (C.ret ?_)))
 exact C.f1 T o (pIi g)
 refine C.block (St.wk (C.loop (fun (s7:Int)=>[(0,.sl 6 Q4 s_1),(1,.fn (.func 84) [] [.rp [.i f_c0]]),(7,.i (s_1.length:Int)),(8,.i s7)]) (fun s7=>[]) g (fun s7 Y8 g=>?_)) (Wk.e))
 refine C.ss (U.pd 1 T (C.xs ?_))
 refine C.ite rfl g (fun b11 g=>?_) fun b11 g=>?_
 refine C.skip (C.xs (C.block (C.ss (U.pd 2 T (C.xt ?_)))))
 refine U.ps 3 T rfl ?_
 obtain⟨x16,y16,g⟩:=g
 refine U.ix T y16 ?_
 refine U.ps 1 T rfl (U.k (Q2a x16 f_c0 _ g) en84 (fun x17 g=>?_))
 refine U.done (C.nx ?_)
 refine C.ite rfl g (fun b18 g=>?_) fun b18 g=>?_
 refine C.ss (U.pd 2 T (C.nx (C.ret (C.brt (C.rt (C.rt (C.brt (C.rt ?_))))))))
 exact C.f1 T o (pIi g)
 refine C.skip (C.bnx (C.nx (U.start (U.pd 2 T (C.nx ?_)))))
 exact St.wk (C.next g) (Wk.e)
 refine C.exit (C.ex (C.ex (C.bex ?_)))
 exact St.wk (j6 _ g) (Wk.mk' [] rfl rfl trivial trivial rfl)
theorem Q3c (st:ApiState) (shelf:Int) (post:Int→Prop) (g:GV st shelf post):
  Tr Tryz.prog 30 [.agg (Q1 st),.i shelf] [] 0 (pI post):=by
 refine Tr.go Tryz.func30 Tryz.ntmps30 fun _ _ _ _ o=>?_
 unfold GV at g
 refine C.ss (U.bx ?_)
 refine U.bx ?_
 refine U.pd 1 T (C.xs (C.ss ?_))
 refine U.pd 2 T (C.nx ?_)
 refine C.ite rfl g (fun b5 g=>?_) fun b5 g=>?_
 refine C.ss (U.pd 1 T (C.nx (C.ret (C.rt ?_))))
 exact C.f1 T o (pIi g)
 refine C.skip (C.xt (U.ps 3 T rfl (U.k (KZ st.Robots shelf _ g) en83 (fun x10 g=>?_))))
 refine U.pd 1 T (C.nx (C.ret ?_))
 exact C.f1 T o (pIi g)
theorem Q5c (st:ApiState) (s_1:Int) (post:(List Int)→Prop) (g:W7 st s_1 post):
  Tr Tryz.prog 147 [.agg (Q1 st),.i s_1] [] 0 (fun A H' k=>∃y,post y∧A=(.o 0)∧H'=[(0,.val (.os 1 eI y))]∧k=1):=by
 refine Tr.go Tryz.func147 Tryz.ntmps147 fun _ _ _ _ o=>?_
 unfold W7 at g
 refine C.ss (U.bx ?_)
 refine U.pd 1 T (C.xs (C.seq ?_))
 refine C.jn (fun (x3:Bool)=>[(1,.i s_1),(2,.p 0 0),(19,.b x3)]) (fun x3=>[(0,.box (Q1 st))]) 1 g (fun x3 g=>?_) fun J4 g j4=>?_
 refine C.nx ?_
 refine C.ite rfl g (fun b8 g=>?_) fun b8 g=>?_
 refine C.ss (U.pd 1 T (C.nx (C.ret (C.rt ?_))))
 exact C.g1 [none] T o ⟨[],g,rfl,rfl,rfl⟩
 refine C.skip (C.xt (U.ps 3 T rfl ?_))
 obtain⟨x13,y13,g⟩:=g
 refine U.ix T y13 ?_
 refine U.ps 1 T rfl (U.k (Yr x13 _ g) Q7G (fun x14 g=>?_))
 refine U.bs T eI ([x14]:List Int) ?_
 refine U.pd 1 T (C.nx (C.ret ?_))
 exact C.g1 [some 1] T o ⟨([x14]:List Int),g,rfl,rfl,rfl⟩
 refine U.start (U.ps 3 T rfl ?_)
 refine g.cs (fun b5 g=>?_) fun b5 g=>?_
 refine U.sk' 5 2 false 7 b5 ?_
 refine U.pk b5 ?_
 refine U.ps 1 T rfl (U.sk' 4 9 false 14 rfl ?_)
 refine U.pk rfl ?_
 refine U.done ?_
 exact St.wa [some 0] (j4 _ g)
 refine U.pq 5 2 false 7 b5 T ?_
 refine U.pk' b5 ?_
 refine U.ps 1 T rfl ?_
 refine g.cs (fun b6 g=>?_) fun b6 g=>?_
 refine U.sk' 4 9 false 14 b6 ?_
 refine U.pk b6 ?_
 refine U.done ?_
 exact St.wa [some 0] (j4 _ g)
 refine U.pq 2 9 false 14 b6 T ?_
 refine U.k (Q3c st s_1 _ g) en30 (fun x7 g=>?_) (hw:=.take 9 false 14 _ b6 rfl rfl rfl)
 refine U.pq 1 9 false 14 b6 T ?_
 refine U.pk' b6 ?_
 refine U.done ?_
 exact St.wa [some 0] (j4 _ g)
theorem Q4i (st:ApiState) (p:Int) (post:(List Int)→Prop) (g:GK st p post):
  Tr Tryz.prog 148 [.agg (Q1 st),.i p] [] 0 (fun A H' k=>∃y,post y∧A=(.o 0)∧H'=[(0,.val (.os 1 eI y))]∧k=1):=by
 refine Tr.go Tryz.func148 Tryz.ntmps148 fun _ _ _ _ o=>?_
 unfold GK at g
 refine C.ss (U.bx ?_)
 refine U.pd 1 T (C.xs (C.seq ?_))
 refine C.jn (fun (x3:Bool)=>[(1,.i p),(2,.p 0 0),(13,.b x3)]) (fun x3=>[(0,.box (Q1 st))]) 1 g (fun x3 g=>?_) fun J4 g j4=>?_
 refine C.nx ?_
 refine C.ite rfl g (fun b6 g=>?_) fun b6 g=>?_
 refine C.ss (U.pd 1 T (C.nx (C.ret (C.rt ?_))))
 exact C.g1 [none] T o ⟨[],g,rfl,rfl,rfl⟩
 refine C.skip (C.xs (D.bq mix 9999 [0] [] (fun hQ hS ws M'=>?_)))
 refine D.pq 3 (zl [0,1,2]) T ?_
 obtain⟨x11,y11,g⟩:=g
 refine D.ix 3 [] T y11 ?_
 refine D.pq 4 (zl [4,6,7,8]) T ?_
 refine D.ix 9 [] T y11 ?_
 refine D.pq 1 [(10,[])] T ?_
 refine D.k 5 (YX x11 _ g) Q7E fun x12 g=>?_
 refine D.k 11 (Yr x11 _ g) Q7G fun x13 g=>?_
 refine D.e1 12 rfl (.none rfl) (by exact Eff1.bs T (enc:=eI) (xs:=([x12,x13]:List Int)) rfl rfl rfl rfl rfl rfl rfl rfl rfl rfl (fun _ _=>rfl) rfl rfl) (by kernel_rfl) rfl rfl ?_
 refine D.pq 1 [(13,[])] T ?_
 refine D.done (by kernel_rfl) ?_
 refine C.nx (C.ret ?_)
 exact C.g1 [some 1] T o ⟨([x12,x13]:List Int),g,rfl,rfl,rfl⟩
 refine U.start (U.ps 3 T rfl ?_)
 refine g.cs (fun b5 g=>?_) fun b5 g=>?_
 refine U.sk' 5 2 false 7 b5 ?_
 refine U.pk b5 ?_
 refine U.done ?_
 exact St.wa [some 0] (j4 _ g)
 refine U.pq 5 2 false 7 b5 T ?_
 refine U.pk' b5 ?_
 refine U.done ?_
 exact St.wa [some 0] (j4 _ g)
theorem Q3C (st:ApiState) (post:(List Int)→Prop) (g:WY st post):
  Tr Tryz.prog 76 [.agg (Q1 st)] [] 0 (fun A H' k=>∃y,post y∧A=(.o 0)∧H'=[(0,.val (.os 1 eI y))]∧k=1):=by
 refine Tr.go Tryz.func76 Tryz.ntmps76 fun _ _ _ _ o=>?_
 unfold WY at g
 refine C.ss (U.bx ?_)
 refine U.pd 1 T (C.xt ?_)
 refine U.pd 1 T (C.xs (C.ss ?_))
 refine U.pd 4 T (C.nx ?_)
 refine C.jn (fun (x7:List Int)=>[(1,.p 0 0),(3,.o 1)]) (fun x7=>[(0,.box (Q1 st)),(1,.val (.os 1 eI x7))]) 2 g (fun x7 g=>?_) fun J8 g j8=>?_
 refine C.xs (C.ss (U.pd 4 T (C.nx ?_)))
 refine C.jn (fun (x24:List Int)=>[(1,.p 0 0),(3,.o 1)]) (fun x24=>[(0,.box (Q1 st)),(1,.val (.os 1 eI x24))]) 2 g (fun x24 g=>?_) fun J25 g j25=>?_
 refine C.xs (C.ss (U.pd 4 T (C.nx ?_)))
 refine C.jn (fun (x41:List Int)=>[(3,.o 0)]) (fun x41=>[(0,.val (.os 1 eI x41))]) 1 g (fun x41 g=>?_) fun J42 g j42=>?_
 refine C.xt (U.pd 2 T (C.nx (C.ret ?_)))
 exact C.g1 [some 0] T o ⟨x41,g,rfl,rfl,rfl⟩
 refine C.block (St.wk (C.loop (fun (s43:List Int×Int)=>[(1,.p 0 0),(3,.o 1),(33,.i (st.People.length:Int)),(34,.i s43.2)]) (fun s43=>[(0,.box (Q1 st)),(1,.val (.os 1 eI s43.1))]) g (fun s43 Y44 g=>?_)) (Wk.a (idR 2)))
 refine C.ss (U.pd 1 T (C.xs ?_))
 refine C.ite rfl g (fun b47 g=>?_) fun b47 g=>?_
 refine C.skip (C.xs (C.block (C.ss (U.pd 2 T (C.nx (U.start ?_))))))
 refine U.ps 3 T rfl (U.k (Q4i st s43.2 _ g) Qb2 (fun x52 g=>?_))
 obtain⟨y53,g⟩:=g
 refine U.ap T y53 ?_
 refine U.pd 1 T (C.bnx (C.nx (U.start ?_)))
 refine U.pd 2 T (C.nx ?_)
 exact St.wk (C.next g) (Wk.a [some 0,some 3])
 refine C.exit (C.ex (C.ex (C.bex ?_)))
 exact St.wa [some 1] (j42 _ g)
 refine C.block (St.wk (C.loop (fun (s26:List Int×Int)=>[(1,.p 0 0),(3,.o 1),(21,.i (st.Shelves.length:Int)),(22,.i s26.2)]) (fun s26=>[(0,.box (Q1 st)),(1,.val (.os 1 eI s26.1))]) g (fun s26 Y27 g=>?_)) (Wk.a (idR 2)))
 refine C.ss (U.pd 1 T (C.xs ?_))
 refine C.ite rfl g (fun b30 g=>?_) fun b30 g=>?_
 refine C.skip (C.xs (C.block (C.ss (U.pd 2 T (C.nx (U.start ?_))))))
 refine U.ps 3 T rfl (U.k (Q5c st s26.2 _ g) Qbs (fun x35 g=>?_))
 obtain⟨y36,g⟩:=g
 refine U.ap T y36 ?_
 refine U.pd 1 T (C.bnx (C.nx (U.start ?_)))
 refine U.pd 2 T (C.nx ?_)
 exact St.wk (C.next g) (Wk.a [some 0,some 3])
 refine C.exit (C.ex (C.ex (C.bex ?_)))
 exact St.wa (idR 2) (j25 _ g)
 refine C.block (St.wk (C.loop (fun (s9:List Int×Int)=>[(1,.p 0 0),(3,.o 1),(9,.i (st.Robots.length:Int)),(10,.i s9.2)]) (fun s9=>[(0,.box (Q1 st)),(1,.val (.os 1 eI s9.1))]) g (fun s9 Y10 g=>?_)) (Wk.mk' [some 0,none] rfl rfl ⟨⟨_,rfl,(.eq rfl)⟩,⟨_,rfl,(.nilO _ _ ⟨rfl,rfl⟩ rfl)⟩,ChkG.eqs rfl⟩ ⟨bX,⟨_,rfl,.nil _ _⟩,trivial⟩ rfl))
 refine C.ss (U.pd 1 T (C.xs ?_))
 refine C.ite rfl g (fun b13 g=>?_) fun b13 g=>?_
 refine C.skip (C.xs (C.block (C.ss (U.pd 2 T (C.nx (U.start ?_))))))
 refine U.ps 3 T rfl (U.k (Q4S st s9.2 _ g) QaQ (fun x18 g=>?_))
 obtain⟨y19,g⟩:=g
 refine U.ap T y19 ?_
 refine U.pd 1 T (C.bnx (C.nx (U.start ?_)))
 refine U.pd 2 T (C.nx ?_)
 exact St.wk (C.next g) (Wk.a [some 0,some 3])
 refine C.exit (C.ex (C.ex (C.bex ?_)))
 exact St.wa (idR 2) (j8 _ g)
def QaL:Go.Shelf.Ren:=⟨fun | 125=>128 | 128=>192 | 129=>193 | 189=>52 | 215=>218 | 216=>189 | 257=>127 | 294=>183 | 295=>184 | 296=>185 | 297=>186 | 298=>187 | 299=>188 | 300=>190 | 301=>191 | 328=>213 | 329=>214 | 330=>215 | 331=>216 | 332=>217 | 343=>225 | n=>n,fun | 0=>0 | 3=>3 | 4=>4 | 5=>5 | 9=>9 | 28=>22 | 46=>139 | 51=>184 | 53=>186 | 131=>57 | 182=>176 | 183=>177 | 218=>204 | 222=>208 | 228=>212 | 229=>213 | n=>n,fun n=>n⟩
theorem Qb3:Go.Proofs.Lays.n189 Tryz.prog QaL where
 mixed:=by kernel_rfl
 f125:=Tryz.func128.trans (congrArg some (by kernel_rfl))
 f128:=Tryz.func192.trans (congrArg some (by kernel_rfl))
 f129:=Tryz.func193.trans (congrArg some (by kernel_rfl))
 f189:=Tryz.func52.trans (congrArg some (by kernel_rfl))
 f215:=Tryz.func218.trans (congrArg some (by kernel_rfl))
 f216:=Tryz.func189.trans (congrArg some (by kernel_rfl))
 f257:=Tryz.func127.trans (congrArg some (by kernel_rfl))
 f294:=Tryz.func183.trans (congrArg some (by kernel_rfl))
 f295:=Tryz.func184.trans (congrArg some (by kernel_rfl))
 f296:=Tryz.func185.trans (congrArg some (by kernel_rfl))
 f297:=Tryz.func186.trans (congrArg some (by kernel_rfl))
 f298:=Tryz.func187.trans (congrArg some (by kernel_rfl))
 f299:=Tryz.func188.trans (congrArg some (by kernel_rfl))
 f300:=Tryz.func190.trans (congrArg some (by kernel_rfl))
 f301:=Tryz.func191.trans (congrArg some (by kernel_rfl))
 f328:=Tryz.func213.trans (congrArg some (by kernel_rfl))
 f329:=Tryz.func214.trans (congrArg some (by kernel_rfl))
 f330:=Tryz.func215.trans (congrArg some (by kernel_rfl))
 f331:=Tryz.func216.trans (congrArg some (by kernel_rfl))
 f332:=Tryz.func217.trans (congrArg some (by kernel_rfl))
 f343:=Tryz.func225.trans (congrArg some (by kernel_rfl))
 t0:=Tryz.underlying0
 a0:=Tryz.isAgg0
 z0:=Tryz.sizeOf0
 v0:=Tryz.zeroValue0
 t3:=Tryz.underlying3
 a3:=Tryz.isAgg3
 z3:=Tryz.sizeOf3
 v3:=Tryz.zeroValue3
 t4:=Tryz.underlying4
 a4:=Tryz.isAgg4
 z4:=Tryz.sizeOf4
 v4:=Tryz.zeroValue4
 t5:=Tryz.underlying5
 a5:=Tryz.isAgg5
 z5:=Tryz.sizeOf5
 v5:=Tryz.zeroValue5
 t9:=Tryz.underlying9
 a9:=Tryz.isAgg9
 z9:=Tryz.sizeOf9
 v9:=Tryz.zeroValue9
 t28:=Tryz.underlying22
 a28:=Tryz.isAgg22
 z28:=Tryz.sizeOf22
 v28:=Tryz.zeroValue22
 t46:=Tryz.underlying139
 a46:=Tryz.isAgg139
 z46:=Tryz.sizeOf139
 v46:=Tryz.zeroValue139
 t51:=Tryz.underlying184
 a51:=Tryz.isAgg184
 z51:=Tryz.sizeOf184
 v51:=Tryz.zeroValue184
 t53:=Tryz.underlying186
 a53:=Tryz.isAgg186
 z53:=Tryz.sizeOf186
 v53:=Tryz.zeroValue186
 t131:=Tryz.underlying57
 a131:=Tryz.isAgg57
 z131:=Tryz.sizeOf57
 v131:=Tryz.zeroValue57
 t182:=Tryz.underlying176
 a182:=Tryz.isAgg176
 z182:=Tryz.sizeOf176
 v182:=Tryz.zeroValue176
 t183:=Tryz.underlying177
 a183:=Tryz.isAgg177
 z183:=Tryz.sizeOf177
 v183:=Tryz.zeroValue177
 t218:=Tryz.underlying204
 a218:=Tryz.isAgg204
 z218:=Tryz.sizeOf204
 v218:=Tryz.zeroValue204
 t222:=Tryz.underlying208
 a222:=Tryz.isAgg208
 z222:=Tryz.sizeOf208
 v222:=Tryz.zeroValue208
 t228:=Tryz.underlying212
 a228:=Tryz.isAgg212
 z228:=Tryz.sizeOf212
 v228:=Tryz.zeroValue212
 t229:=Tryz.underlying213
 a229:=Tryz.isAgg213
 z229:=Tryz.sizeOf213
 v229:=Tryz.zeroValue213
theorem KJ (p0:List Int) (post:List Int→Prop) (g:Qt p0 post):
  Tr Tryz.prog 52 [.o 0] [(0,.val (.os 1 eI p0))] 1 (fun A H' k=>∃y,post y∧A=(.tup [])∧H'=[(0,.val (.os 1 eI y))]∧k=1):=by
 unfold Qt at g
 exact Tr.sortInt Qb3 p0 g.1 g.2
theorem Q3x (st:ApiState) (post:(List Int)→Prop) (g:WX st post):
  Tr Tryz.prog 116 [.agg (Q1 st)] [] 0 (fun A H' k=>∃y,post y∧A=(.o 0)∧H'=[(0,.val (.os 1 eI y))]∧k=1):=by
 refine Tr.go Tryz.func116 Tryz.ntmps116 fun _ _ _ _ o=>?_
 unfold WX at g
 refine C.ss (U.bx ?_)
 refine U.pd 1 T (C.xt ?_)
 refine U.ps 1 T rfl (U.k (Q3C st _ g) en76 (fun x5 g=>?_))
 refine U.pd 1 T (C.xt ?_)
 refine U.ps 1 T rfl (U.c [some 1] (KJ x5 _ g) en52 (fun x8 g=>?_))
 refine U.done (C.xt (U.pd 2 T (C.nx (C.ret ?_))))
 exact C.g1 [some 1] T o ⟨x8,g,rfl,rfl,rfl⟩
theorem Q6P (s_1:ApiSite) (st:ApiState) (r:ApiRobot) (d:Int) (post:Int→Prop) (g:YT s_1 st r d post):
  Tr Tryz.prog 101 [.agg (Q2 s_1),.agg (Q1 st),.agg (Q4 r),.i d] [] 0 (pI post):=by
 refine Tr.go Tryz.func101 Tryz.ntmps101 fun _ _ _ _ o=>?_
 unfold YT at g
 refine C.ss (U.bx ?_)
 refine U.bx ?_
 refine U.bx ?_
 refine U.pd 1 T (C.xt ?_)
 refine U.ps 5 T rfl (U.k (Zy s_1.Floor r.Cell d _ g) en24 (fun x5 g=>?_))
 refine U.ps 3 T rfl (U.al T ?_)
 refine U.st T ?_
 refine U.pd 1 T (C.xs (C.seq ?_))
 refine C.jn (fun (x6:Bool)=>[(3,.i d),(4,.p 0 0),(5,.p 1 0),(6,.p 2 0),(9,.p 3 0),(29,.b x6)]) (fun x6=>[(0,.box (Q2 s_1)),(1,.box (Q1 st)),(2,.box (Q4 r)),(3,.box [.i x5.1])]) 4 g (fun x6 g=>?_) fun J7 g j7=>?_
 refine C.nx ?_
 refine C.ite rfl g (fun b10 g=>?_) fun b10 g=>?_
 refine C.ss (U.pd 1 T (C.nx (C.ret (C.rt ?_))))
 exact C.f1 T o (pIi g)
 refine C.skip (C.xs (C.seq ?_))
 refine C.jn (fun (x13:Bool)=>[(4,.p 0 0),(5,.p 1 0),(6,.p 2 0),(9,.p 3 0),(35,.b x13)]) (fun x13=>[(0,.box (Q2 s_1)),(1,.box (Q1 st)),(2,.box (Q4 r)),(3,.box [.i x5.1])]) 4 g (fun x13 g=>?_) fun J14 g j14=>?_
 refine C.nx ?_
 refine C.jn (fun (x16:Unit)=>[(4,.p 0 0),(5,.p 1 0),(6,.p 2 0),(9,.p 3 0)]) (fun x16=>[(0,.box (Q2 s_1)),(1,.box (Q1 st)),(2,.box (Q4 r)),(3,.box [.i x5.1])]) 4 g (fun x16 g=>?_) fun J17 g j17=>?_
 refine C.xs (C.ss (U.ps 4 T rfl (U.k (Q4R s_1 x5.1 st.Tick _ g) QaF (fun x29 g=>?_))))
 refine U.pd 1 T (C.nx ?_)
 refine C.ite rfl g (fun b30 g=>?_) fun b30 g=>?_
 refine C.ss (U.pd 1 T (C.nx (C.ret (C.rt ?_))))
 exact C.f1 T o (pIi g)
 refine C.skip (C.xt (U.ps 1 T rfl (U.k (Q3x st _ g) Q9w (fun x35 g=>?_))))
 refine U.pd 1 T (C.xs (C.seq ?_))
 refine C.jn (fun (x36:Bool)=>[(63,.b x36)]) (fun x36=>[]) 0 g (fun x36 g=>?_) fun J37 g j37=>?_
 refine C.nx ?_
 refine C.ite rfl g (fun b44 g=>?_) fun b44 g=>?_
 refine C.ss (U.pd 1 T (C.nx (C.ret (C.rt ?_))))
 exact C.f1 T o (pIi g)
 refine C.skip (C.xt (U.pd 1 T (C.nx (C.ret ?_))))
 exact C.f1 T o (pIi g)
 refine U.start (U.ps 2 T rfl (U.k (YX x5.1 _ g) Q7E (fun x38 g=>?_)))
 refine U.k (K7 x35 x38 _ g) en44 fun x39 g=>?_
 refine U.ps 1 T rfl ?_
 refine g.cs (fun b40 g=>?_) fun b40 g=>?_
 refine U.sk' 4 4 false 53 b40 ?_
 refine U.sku 4 8 true 57 rfl rfl rfl ?_
 refine U.sk' 1 4 false 53 b40 ?_
 refine U.pk b40 ?_
 refine U.done ?_
 exact St.wn (j37 _ g)
 refine U.pq 4 4 false 53 b40 T ?_
 refine g.cs (fun b41 g=>?_) fun b41 g=>?_
 refine U.pq 2 8 true 57 b41 T ?_
 refine U.k (Yr x5.1 _ g) Q7G (fun x42 g=>?_) (hw:=.take 8 true 57 _ b41 rfl rfl rfl)
 refine U.k (K7 x35 x42 _ g) en44 (fun x43 g=>?_) (hw:=.take 8 true 57 _ b41 rfl rfl rfl)
 refine U.r rfl (.tk 4 false 53 b40) rfl rfl (by exact Rd.pk rfl rfl b41 rfl) ?_
 refine U.pk' b40 ?_
 refine U.done ?_
 exact St.wn (j37 _ g)
 refine U.sk' 4 8 true 57 b41 ?_
 refine U.r rfl (.tk 4 false 53 b40) rfl rfl (by exact Rd.pk' rfl rfl b41 rfl) ?_
 refine U.pk' b40 ?_
 refine U.done ?_
 exact St.wn (j37 _ g)
 refine C.ite rfl g (fun b18 g=>?_) fun b18 g=>?_
 refine C.ss (U.pd 2 T (C.xt ?_))
 refine U.ps 3 T rfl (U.k (X6 st.Stuck r x5.1 _ g) Qbg (fun x23 g=>?_))
 refine U.done (C.nx ?_)
 refine C.ite rfl g (fun b24 g=>?_) fun b24 g=>?_
 refine C.ss (U.pd 1 T (C.nx (C.ret (C.rt ?_))))
 exact C.f1 T o (pIi g)
 refine C.skip ?_
 exact St.wa (idR 4) (j17 _ g)
 refine C.skip ?_
 exact St.wa (idR 4) (j17 _ g)
 refine U.start (U.ps 3 T rfl ?_)
 refine g.cs (fun b15 g=>?_) fun b15 g=>?_
 refine U.sk' 2 2 false 32 b15 ?_
 refine U.pk b15 ?_
 refine U.done ?_
 exact St.wa (idR 4) (j14 _ g)
 refine U.pq 2 2 false 32 b15 T ?_
 refine U.pk' b15 ?_
 refine U.done ?_
 exact St.wa (idR 4) (j14 _ g)
 refine U.start (U.ps 3 T rfl ?_)
 refine g.cs (fun b8 g=>?_) fun b8 g=>?_
 refine U.pq 3 2 false 24 (ntF b8) T ?_
 refine U.k (K7 st.Dead x5.1 _ g) en44 (fun x9 g=>?_) (hw:=.take 2 false 24 _ (ntF b8) rfl rfl rfl)
 refine U.pk' (ntF b8) ?_
 refine U.done ?_
 exact St.wa (idR 4) (j7 _ g)
 refine U.sk' 4 2 false 24 (ntT b8) ?_
 refine U.pk (ntT b8) ?_
 refine U.done ?_
 exact St.wa (idR 4) (j7 _ g)
theorem YL (s_1:List Int) (post:(List Int)→Prop) (g:KI s_1 post):
  Tr Tryz.prog 207 [.sl 1 eI s_1] [] 0 (fun A H' k=>∃y,post y∧A=(.fn (.func 223) [] [.p 0 0])∧H'=[(0,.box [.sl 1 eI y])]∧k=1):=by
 refine Tr.go Tryz.func207 Tryz.ntmps207 fun _ _ _ _ o=>?_
 unfold KI at g
 refine C.ss (U.bx ?_)
 refine U.pd 1 T (C.xt ?_)
 refine U.pd 2 T (C.nx (C.ret ?_))
 exact C.g1 [some 0] T o ⟨(s_1),g,rfl,rfl,rfl⟩
theorem Q27 (st:ApiState) (post:(List (Int×Int))→Prop) (g:Gf st post):
  Tr Tryz.prog 168 [.agg (Q1 st)] [] 0 (fun A H' k=>∃y,post y∧A=(.o 0)∧H'=[(0,.val (.om kI veI y))]∧k=1):=by
 refine Tr.go Tryz.func168 Tryz.ntmps168 fun _ _ _ _ o=>?_
 unfold Gf at g
 refine C.ss (U.bx ?_)
 refine U.pd 1 T (C.xt ?_)
 refine U.e1 rfl (.none rfl) (by exact Eff1.mm kI veB rfl rfl rfl) ?_
 refine U.al T ?_
 refine U.st T ?_
 refine U.done (C.xs (C.ss (U.pd 4 T (C.nx ?_))))
 refine C.jn (fun (x7:List (Int×Bool))=>[(1,.p 0 0),(3,.p 1 0)]) (fun x7=>[(0,.box (Q1 st)),(1,.box [.o 2]),(2,.val (.om kI veB x7))]) 3 g (fun x7 g=>?_) fun J8 g j8=>?_
 refine C.xt (U.e1 rfl (.none rfl) (by exact Eff1.mm kI veI rfl rfl rfl) ?_)
 refine U.al T ?_
 refine U.st T ?_
 refine U.done (C.xs (C.ss (U.ps 2 T rfl (U.e rfl (.none rfl) (by exact Eff.c [] (v:=false) (YL st.Shelves _ g) Qba rfl rfl rfl (.eq rfl) trivial rfl rfl rfl rfl rfl rfl (fun h=>by cases h) (.inr ⟨rfl,rfl⟩) (fun _=>rfl) (fun _=>rfl) rfl) (fun x25' g=>?_)))))
 obtain⟨x25⟩:=x25'
 refine U.done (C.nx (C.block ?_))
 refine St.wk (Γ':=[(1,.p 0 0),(3,.p 1 0),(6,.p 3 0),(21,.o 4),(22,.p 0 1),(23,.sl 1 eI st.Shelves),(24,.fn (.func 223) [] [.rp [.sl 1 eI x25]])]) (H':=[(0,.box (Q1 st)),(1,.box [.o 2]),(2,.val (.om kI veB x7)),(3,.box [.o 4]),(4,.val (.om kI veI ([]:List (Int×Int))))]) (nl':=5) ?_ (Wk.mk' [some 0,some 1,some 2,some 4,some 3] rfl rfl ⟨⟨_,rfl,(.eq rfl)⟩,⟨_,rfl,(.eq rfl)⟩,⟨_,rfl,(.eq rfl)⟩,⟨_,rfl,(.eq rfl)⟩,⟨_,rfl,(.eq rfl)⟩,⟨_,rfl,(.eq rfl)⟩,⟨_,rfl,(.fn (.eq rfl) (.cons (.fzp rfl rfl rfl rfl (.eq rfl) rfl) .nil))⟩,trivial⟩ ⟨bX,bX,vL,bX,vL,trivial⟩ rfl)
 obtain⟨y29,g⟩:=g
 refine St.wk (C.range (Γ0:=[(3,.p 0 0),(6,.p 1 0),(24,.fn (.func 223) [] [.rp [.sl 1 eI x25]])]) (Γ1:=fun (x26:Int×Int)=>[(8,.i x26.2),(7,.i x26.1),(26,.i x26.2),(25,.i x26.1),(3,.p 0 0),(6,.p 1 0),(24,.fn (.func 223) [] [.rp [.sl 1 eI x25]])]) (Hf:=fun (s27:List (Int×Int))=>[(0,.box [.o 2]),(1,.box [.o 3]),(2,.val (.om kI veB x7)),(3,.val (.om kI veI s27))]) 2 g (Qbx x25 y29) Qbm rfl rfl rfl rfl rfl (fun _=>rfl) rfl rfl (fun _=>rfl) (fun x26 s27 Y28 g w0 ok M β l=>?_) (fun s37 g=>?_)) (Wk.a [some 1,some 3,some 2,some 4])
 refine CI.block ?_
 refine CI.seq ?_
 refine UI.start (by kernel_rfl) (by repeat (first | exact Zl.rnd | refine Zl.th ?_ | refine Zl.blk ?_)) ?_
 refine U.ps 2 T rfl (U.r rfl (.none rfl) rfl rfl (by exact Rd.lk T (ke:=kI) (ve:=veB) (xs:=x7) (z0:=false) (x:=x26.1) rfl rfl kt3 zt4 (fun _=>rfl) rfl (.o rfl) rfl rfl rfl) ?_)
 refine U.pd 1 T (C.nx ?_)
 refine CI.jn (fun (x32:List (Int×Int))=>[]) (fun (x32:List (Int×Int))=>[(0,.box [.o 2]),(1,.box [.o 3]),(2,.val (.om kI veB x7)),(3,.val (.om kI veI x32))]) 4 g (fun x32 g=>?_) fun J33 g j33=>?_
 refine C.bnx ?_
 exact St.wk (CI.next g) (Wk.mk' [some 0,some 1,some 2,some 3] rfl rfl trivial ⟨bX,bX,vL,vL,trivial⟩ rfl)
 refine CI.ite rfl g (fun b34 g=>?_) fun b34 g=>?_
 refine UI.start (by kernel_rfl) (by repeat (first | exact Zl.rnd | refine Zl.th ?_ | refine Zl.blk ?_)) ?_
 refine U.ps 3 T rfl (U.e1 rfl (.none rfl) (by exact Eff1.mu T (x:=x26.2) (y:=x26.1) (.inl rfl) rfl kt3 (fun _=>rfl) rfl rfl rfl rfl rfl (.inl rfl) rfl) ?_)
 refine U.done ?_
 exact St.wk (j33 _ g) (Wk.mk' [some 0,some 1,some 2,some 3] rfl rfl trivial ⟨bX,bX,vL,vL,trivial⟩ rfl)
 refine CI.skip ?_
 exact St.wk (j33 _ g) (Wk.mk' [some 0,some 1,some 2,some 3] rfl rfl trivial ⟨bX,bX,vL,vL,trivial⟩ rfl)
 refine C.bnx (C.xt (U.pd 2 T (C.nx (C.ret ?_))))
 exact C.g1 [some 3] T o ⟨s37,g,rfl,rfl,rfl⟩
 refine C.block (St.wk (C.loop (fun (s9:List (Int×Bool)×Int)=>[(1,.p 0 0),(3,.p 1 0),(11,.sl 6 Q4 st.Robots),(12,.i (st.Robots.length:Int)),(13,.i s9.2)]) (fun s9=>[(0,.box (Q1 st)),(1,.box [.o 2]),(2,.val (.om kI veB s9.1))]) g (fun s9 Y10 g=>?_)) (Wk.a [some 0,some 2,some 1]))
 refine C.ss (U.pd 1 T (C.xs ?_))
 refine C.ite rfl g (fun b13 g=>?_) fun b13 g=>?_
 refine C.skip (C.xs (C.block (C.ss ?_)))
 obtain⟨x16,y16,g⟩:=g
 refine U.ix T y16 ?_
 refine U.ps 1 T rfl (U.al T ?_)
 refine U.st T ?_
 refine U.done (C.nx (U.start (U.ps 3 T rfl (U.e1 rfl (.none rfl) (by exact Eff1.mu T (x:=x16.Load) (y:=true) (.inl rfl) rfl kt3 (fun _=>rfl) rfl rfl rfl rfl rfl (.inl rfl) rfl) ?_))))
 refine U.done (C.bnx (C.nx (U.start (U.pd 2 T (C.nx ?_)))))
 exact St.wk (C.next g) (Wk.a (idR 3))
 refine C.exit (C.ex (C.ex (C.bex ?_)))
 exact St.wa (idR 3) (j8 _ g)
theorem Q3m (s_1:ApiSite) (st:ApiState) (c:Int) (post:Int→Prop) (g:WW s_1 st c post):
  Tr Tryz.prog 104 [.agg (Q2 s_1),.agg (Q1 st),.i c] [] 0 (pI post):=by
 refine Tr.go Tryz.func104 Tryz.ntmps104 fun _ _ _ _ o=>?_
 unfold WW at g
 refine C.ss (U.bx ?_)
 refine U.bx ?_
 refine U.pd 1 T (C.xs (C.ss ?_))
 refine U.ps 1 T rfl (U.k (Q27 st _ g) QaB (fun x5 g=>?_))
 refine U.ps 1 T rfl (U.r rfl (.none rfl) rfl rfl (by exact Rd.lk2 T (ke:=kI) (ve:=veI) (xs:=x5) (z0:=0) (x:=c) rfl rfl kt3 zt3 (fun _=>rfl) rfl (.o rfl) rfl rfl rfl) ?_)
 refine U.pd 5 T (C.xt ?_)
 refine U.pd 1 T (C.nx ?_)
 refine C.ite rfl g (fun b8 g=>?_) fun b8 g=>?_
 refine C.ss (U.pd 2 T (C.nx (C.ret (C.rt ?_))))
 exact C.f1 T o (pIi g)
 refine C.skip (C.xt (U.pd 1 T (C.nx (C.ret ?_))))
 exact C.f1 T o (pIi g)
theorem Q6O (s_1:ApiSite) (st:ApiState) (r:ApiRobot) (post:Int→Prop) (g:ZZ s_1 st r post):
  Tr Tryz.prog 102 [.agg (Q2 s_1),.agg (Q1 st),.agg (Q4 r)] [] 0 (pI post):=by
 refine Tr.go Tryz.func102 Tryz.ntmps102 fun _ _ _ _ o=>?_
 unfold ZZ at g
 refine C.ss (U.bx ?_)
 refine U.bx ?_
 refine U.bx ?_
 refine U.pd 1 T (C.xs (C.ss ?_))
 refine U.pd 3 T (C.nx ?_)
 refine C.ite rfl g (fun b5 g=>?_) fun b5 g=>?_
 refine C.ss (U.pd 1 T (C.nx (C.ret (C.rt ?_))))
 exact C.f1 T o (pIi g)
 refine C.skip (C.xs (C.ss (U.ps 4 T rfl (U.k (Q3m s_1 st r.Cell _ g) Q9S (fun x10 g=>?_)))))
 refine U.pd 1 T (C.nx ?_)
 refine C.ite rfl g (fun b11 g=>?_) fun b11 g=>?_
 refine C.ss (U.pd 1 T (C.nx (C.ret (C.rt ?_))))
 exact C.f1 T o (pIi g)
 refine C.skip (C.xt (U.pd 1 T (C.nx (C.ret ?_))))
 exact C.f1 T o (pIi g)
theorem Q37 (s_1:ApiSite) (c:Int) (post:Bool→Prop) (g:GS s_1 c post):
  Tr Tryz.prog 164 [.agg (Q2 s_1),.i c] [] 0 (pB post):=by
 refine Tr.go Tryz.func164 Tryz.ntmps164 fun _ _ _ _ o=>?_
 unfold GS at g
 refine C.ss (U.bx ?_)
 refine U.pd 1 T (C.xs ?_)
 refine C.jn (fun (x3:Bool)=>[(4,.b x3)]) (fun x3=>[]) 0 g (fun x3 g=>?_) fun J4 g j4=>?_
 refine C.nx (C.ret ?_)
 exact C.f1 T o (pBi g)
 refine U.start (U.ps 2 T rfl (U.k (YJ s_1 c _ g) Q8H (fun x5 g=>?_)))
 refine U.ps 1 T rfl ?_
 refine g.cs (fun b6 g=>?_) fun b6 g=>?_
 refine U.pq 4 3 true 8 b6 T ?_
 obtain⟨x7,y7,g⟩:=g
 refine U.r rfl (.tk 3 true 8 b6) rfl rfl (by exact Rd.ix T rfl rfl rfl rfl rfl rfl y7) ?_
 refine U.pq 3 3 true 8 b6 T ?_
 refine g.cs (fun b8 g=>?_) fun b8 g=>?_
 refine U.sk' 7 11 false 16 b8 ?_
 refine U.r rfl (.tk 3 true 8 b6) rfl rfl (by exact Rd.pk rfl rfl b8 rfl) ?_
 refine U.pk b6 ?_
 refine U.pd 1 T ?_
 exact St.wn (j4 _ g)
 refine U.pq 4 11 false 16 b8 T ?_
 refine U.r rfl (.tk 11 false 16 b8) rfl rfl (by exact Rd.ix T rfl rfl rfl rfl rfl rfl y7) ?_
 refine U.pq 2 11 false 16 b8 T ?_
 refine U.r rfl (.tk 3 true 8 b6) rfl rfl (by exact Rd.pk' rfl rfl b8 rfl) ?_
 refine U.pk b6 ?_
 refine U.pd 1 T ?_
 exact St.wn (j4 _ g)
 refine U.sk' 8 3 true 8 b6 ?_
 refine U.sku 7 11 false 16 rfl rfl rfl ?_
 refine U.sk' 1 3 true 8 b6 ?_
 refine U.pk' b6 ?_
 refine U.pd 1 T ?_
 exact St.wn (j4 _ g)
theorem Q22 (f:Q6) (a:Int) (b:Int) (post:Bool→Prop) (g:W9 f a b post):
  Tr Tryz.prog 119 [.agg (Qd f),.i a,.i b] [] 0 (pB post):=by
 refine Tr.go Tryz.func119 Tryz.ntmps119 fun _ _ _ _ o=>?_
 unfold W9 at g
 refine C.ss (U.bx ?_)
 refine U.pd 1 T (C.xs (C.ss ?_))
 refine U.ps 2 T rfl (U.k (Q1q f b _ g) Q8I (fun x5 g=>?_))
 refine U.pd 1 T (C.nx ?_)
 refine C.ite rfl g (fun b6 g=>?_) fun b6 g=>?_
 refine C.ss (U.pd 1 T (C.nx (C.ret (C.rt ?_))))
 exact C.f1 T o (pBi g)
 refine C.skip (C.xs (C.ss (U.pd 2 T (C.nx ?_))))
 refine C.jn (fun (x11:Unit)=>[]) (fun x11=>[]) 0 g (fun x11 g=>?_) fun J12 g j12=>?_
 refine C.xt (U.pd 1 T (C.nx (C.ret ?_)))
 exact C.f1 T o (pBi g)
 refine C.block (St.wk (C.loop (fun (s13:Int)=>[(1,.i a),(2,.i b),(3,.p 0 0),(13,.agg [.i 0,.i 1,.i 2,.i 3]),(14,.i s13)]) (fun s13=>[(0,.box (Qd f))]) g (fun s13 Y14 g=>?_)) (Wk.a [some 0]))
 refine C.ss (U.pd 1 T (C.xs ?_))
 refine C.ite rfl g (fun b17 g=>?_) fun b17 g=>?_
 refine C.skip (C.xs (C.block (C.ss ?_)))
 obtain⟨x20,y20,g⟩:=g
 refine U.r rfl (.none rfl) rfl rfl (by exact Rd.ia1 T (enc:=eI) rfl rfl rfl rfl rfl rfl rfl rfl rfl (fun _=>rfl) rfl y20) ?_
 refine U.pd 1 T (C.xt ?_)
 refine U.ps 3 T rfl (U.k (Q0c f a x20 _ g) en77 (fun x23 g=>?_))
 refine U.pd 2 T (C.nx ?_)
 refine C.ite rfl g (fun b24 g=>?_) fun b24 g=>?_
 refine C.ss (U.pd 1 T (C.nx (C.ret (C.brt (C.rt (C.rt (C.brt (C.rt ?_))))))))
 exact C.f1 T o (pBi g)
 refine C.skip (C.bnx (C.nx (U.start (U.pd 2 T (C.nx ?_)))))
 exact St.wk (C.next g) (Wk.a [some 0])
 refine C.exit (C.ex (C.ex (C.bex ?_)))
 exact St.wk (j12 _ g) (Wk.mk' [] rfl rfl trivial trivial rfl)
theorem Q1y (r:ApiRobot) (c0:Int) (post:Bool→Prop) (g:XV r c0 post):
  Tr Tryz.prog 205 [.agg (Q4 r),.rp [.i c0]] [] 0 (pB post):=by
 refine Tr.go Tryz.func205 Tryz.ntmps205 fun _ _ _ _ o=>?_
 unfold XV at g
 refine C.ss (U.bx ?_)
 refine U.pd 1 T (C.xt ?_)
 refine U.pd 5 T (C.nx (C.ret ?_))
 exact C.f1 T o (pBi g)
theorem KV (s_1:List ApiRobot) (f_c0:Int) (post:Int→Prop) (g:Qm s_1 f_c0 post):
  Tr Tryz.prog 83 [.sl 6 Q4 s_1,.fn (.func 205) [] [.rp [.i f_c0]]] [] 0 (pI post):=by
 refine Tr.go Tryz.func83 Tryz.ntmps83 fun _ _ _ _ o=>?_
 unfold Qm at g
 refine C.ss (U.pd 1 T (C.xs (C.ss ?_)))
 refine U.pd 3 T (C.nx ?_)
 refine C.jn (fun (x5:Unit)=>[]) (fun x5=>[]) 0 g (fun x5 g=>?_) fun J6 g j6=>?_
 refine C.xt (U.pd 1 T (C.nx (C.ret ?_)))
 exact C.f1 T o (pIi g)
 refine C.block (St.wk (C.loop (fun (s7:Int)=>[(0,.sl 6 Q4 s_1),(1,.fn (.func 205) [] [.rp [.i f_c0]]),(7,.i (s_1.length:Int)),(8,.i s7)]) (fun s7=>[]) g (fun s7 Y8 g=>?_)) (Wk.e))
 refine C.ss (U.pd 1 T (C.xs ?_))
 refine C.ite rfl g (fun b11 g=>?_) fun b11 g=>?_
 refine C.skip (C.xs (C.block (C.ss (U.pd 2 T (C.xt ?_)))))
 refine U.ps 3 T rfl ?_
 obtain⟨x16,y16,g⟩:=g
 refine U.ix T y16 ?_
 refine U.ps 1 T rfl (U.k (Q1y x16 f_c0 _ g) Qb5 (fun x17 g=>?_))
 refine U.done (C.nx ?_)
 refine C.ite rfl g (fun b18 g=>?_) fun b18 g=>?_
 refine C.ss (U.pd 2 T (C.nx (C.ret (C.brt (C.rt (C.rt (C.brt (C.rt ?_))))))))
 exact C.f1 T o (pIi g)
 refine C.skip (C.bnx (C.nx (U.start (U.pd 2 T (C.nx ?_)))))
 exact St.wk (C.next g) (Wk.e)
 refine C.exit (C.ex (C.ex (C.bex ?_)))
 exact St.wk (j6 _ g) (Wk.mk' [] rfl rfl trivial trivial rfl)
theorem Zv (st:ApiState) (shelf:Int) (post:Int→Prop) (g:XP st shelf post):
  Tr Tryz.prog 165 [.agg (Q1 st),.i shelf] [] 0 (pI post):=by
 refine Tr.go Tryz.func165 Tryz.ntmps165 fun _ _ _ _ o=>?_
 unfold XP at g
 refine C.ss (U.bx ?_)
 refine U.bx ?_
 refine U.pd 1 T (C.xs (C.ss ?_))
 refine U.pd 2 T (C.nx ?_)
 refine C.ite rfl g (fun b5 g=>?_) fun b5 g=>?_
 refine C.ss (U.pd 1 T (C.nx (C.ret (C.rt ?_))))
 exact C.f1 T o (pIi g)
 refine C.skip (C.xt (U.ps 3 T rfl (U.k (KV st.Robots shelf _ g) en83 (fun x10 g=>?_))))
 refine U.pd 1 T (C.nx (C.ret ?_))
 exact C.f1 T o (pIi g)
theorem Q0Y (s_1:ApiSite) (shelf:Int) (post:ByteArray→Prop) (g:G5 s_1 shelf post):
  Tr Tryz.prog 167 [.agg (Q2 s_1),.i shelf] [] 0 (fun A H' k=>∃y,post y∧A=(.v (.string y))∧H'=[]∧k=0):=by
 refine Tr.go Tryz.func167 Tryz.ntmps167 fun _ _ _ _ o=>?_
 unfold G5 at g
 refine C.ss (U.bx ?_)
 refine U.pd 1 T (C.xs (C.seq ?_))
 refine C.jn (fun (x3:Bool)=>[(1,.i shelf),(2,.p 0 0),(13,.b x3)]) (fun x3=>[(0,.box (Q2 s_1))]) 1 g (fun x3 g=>?_) fun J4 g j4=>?_
 refine C.nx ?_
 refine C.ite rfl g (fun b6 g=>?_) fun b6 g=>?_
 refine C.ss (U.pd 1 T (C.nx (C.ret (C.rt ?_))))
 exact C.f1 T o ⟨ByteArray.empty,g,rfl,rfl,rfl⟩
 refine C.skip (C.xt (U.ps 3 T rfl ?_))
 obtain⟨x11,y11,g⟩:=g
 refine U.ix T y11 ?_
 refine U.pd 3 T (C.nx (C.ret ?_))
 exact C.f1 T o ⟨x11.Class,g,rfl,rfl,rfl⟩
 refine U.start (U.ps 3 T rfl ?_)
 refine g.cs (fun b5 g=>?_) fun b5 g=>?_
 refine U.sk' 5 2 false 7 b5 ?_
 refine U.pk b5 ?_
 refine U.done ?_
 exact St.wa [some 0] (j4 _ g)
 refine U.pq 5 2 false 7 b5 T ?_
 refine U.pk' b5 ?_
 refine U.done ?_
 exact St.wa [some 0] (j4 _ g)
theorem Q2L (s_1:ApiSite) (post:(List (ApiApart×Bool))→Prop) (g:GC s_1 post):
  Tr Tryz.prog 206 [.agg (Q2 s_1)] [] 0 (fun A H' k=>∃y,post y∧A=(.o 0)∧H'=[(0,.val (.om YU veB y))]∧k=1):=by
 refine Tr.go Tryz.func206 Tryz.ntmps206 fun _ _ _ _ o=>?_
 unfold GC at g
 refine C.ss (U.bx ?_)
 refine U.pd 1 T (C.xt ?_)
 refine U.e1 rfl (.none rfl) (by exact Eff1.mm YU veB rfl rfl rfl) ?_
 refine U.pd 1 T (C.xs (C.ss ?_))
 refine U.pd 4 T (C.nx ?_)
 refine C.jn (fun (x7:List (ApiApart×Bool))=>[(3,.o 0)]) (fun x7=>[(0,.val (.om YU veB x7))]) 1 g (fun x7 g=>?_) fun J8 g j8=>?_
 refine C.xt (U.pd 2 T (C.nx (C.ret ?_)))
 exact C.g1 [some 0] T o ⟨x7,g,rfl,rfl,rfl⟩
 refine C.block (St.wk (C.loop (fun (s9:List (ApiApart×Bool)×Int)=>[(3,.o 0),(8,.sl 2 Qa s_1.Aparts),(9,.i (s_1.Aparts.length:Int)),(10,.i s9.2)]) (fun s9=>[(0,.val (.om YU veB s9.1))]) g (fun s9 Y10 g=>?_)) (Wk.a [some 1]))
 refine C.ss (U.pd 1 T (C.xs ?_))
 refine C.ite rfl g (fun b13 g=>?_) fun b13 g=>?_
 refine C.skip (C.xs (C.block (C.ss ?_)))
 obtain⟨x16,y16,g⟩:=g
 refine U.ix T y16 ?_
 refine U.ps 1 T rfl (U.al T ?_)
 refine U.st T ?_
 refine U.done (C.nx (D.bq mix 9 [1] [0] (fun hQ hS ws M'=>?_)))
 refine D.pq 8 (zl [0,1,2,3,4,5,6,7]) T ?_
 refine D.e1 8 rfl (.none rfl) (by exact Eff1.mu T (x:=x16) (y:=true) (.inl rfl) rfl kt88 (fun _=>rfl) rfl rfl rfl rfl rfl (.inl rfl) rfl) (by kernel_rfl) rfl rfl ?_
 refine D.ze1 rfl (.none rfl) (by exact Eff1.mu T (x:=({A:=x16.B,B:=x16.A:ApiApart})) (y:=true) (.inl rfl) rfl kt88 (fun _=>rfl) rfl rfl rfl rfl rfl (.inl rfl) rfl) (by kernel_rfl) (by kernel_rfl) ?_
 refine C.bnx (C.nx (U.start (U.pd 2 T (C.nx ?_))))
 exact St.wk (C.next g) (Wk.a [some 0])
 refine C.exit (C.ex (C.ex (C.bex ?_)))
 exact St.wa [some 0] (j8 _ g)
theorem Q3W (s_1:ApiSite) (a:ByteArray) (b:ByteArray) (post:Bool→Prop) (g:Wj s_1 a b post):
  Tr Tryz.prog 166 [.agg (Q2 s_1),.v (.string a),.v (.string b)] [] 0 (pB post):=by
 refine Tr.go Tryz.func166 Tryz.ntmps166 fun _ _ _ _ o=>?_
 unfold Wj at g
 refine C.ss (U.bx ?_)
 refine U.pd 1 T (C.xs ?_)
 refine C.jn (fun (x3:Bool)=>[(6,.b x3)]) (fun x3=>[]) 0 g (fun x3 g=>?_) fun J4 g j4=>?_
 refine C.nx (C.ret ?_)
 exact C.f1 T o (pBi g)
 refine U.start (U.ps 3 T rfl ?_)
 refine g.cs (fun b5 g=>?_) fun b5 g=>?_
 refine U.sk' 2 2 true 9 (ntF b5) ?_
 refine U.pk' (ntF b5) ?_
 refine U.ps 1 T rfl (U.sk' 6 6 true 13 rfl ?_)
 refine U.pk' rfl ?_
 refine U.pd 1 T ?_
 exact St.wn (j4 _ g)
 refine U.pq 2 2 true 9 (ntT b5) T ?_
 refine U.pk (ntT b5) ?_
 refine U.ps 1 T rfl ?_
 refine g.cs (fun b6 g=>?_) fun b6 g=>?_
 refine U.sk' 6 6 true 13 (ntF b6) ?_
 refine U.pk' (ntF b6) ?_
 refine U.pd 1 T ?_
 exact St.wn (j4 _ g)
 refine U.pq 1 6 true 13 (ntT b6) T ?_
 refine U.k (Q2L s_1 _ g) Qbk (fun x7 g=>?_) (hw:=.take 6 true 13 _ (ntT b6) rfl rfl rfl)
 refine U.pq 3 6 true 13 (ntT b6) T ?_
 refine U.r rfl (.tk 6 true 13 (ntT b6)) rfl rfl (by exact Rd.lk T (ke:=YU) (ve:=veB) (xs:=x7) (z0:=false) (x:=({A:=a,B:=b:ApiApart})) rfl rfl kt88 zt4 (fun _=>rfl) rfl (.o rfl) rfl rfl rfl) ?_
 refine U.pk (ntT b6) ?_
 refine U.pd 1 T ?_
 exact St.wn (j4 _ g)
theorem Q4Q (s_1:ApiSite) (st:ApiState) (shelf:Int) (c:Int) (post:Int→Prop) (g:WI s_1 st shelf c post):
  Tr Tryz.prog 103 [.agg (Q2 s_1),.agg (Q1 st),.i shelf,.i c] [] 0 (pI post):=by
 refine Tr.go Tryz.func103 Tryz.ntmps103 fun _ _ _ _ o=>?_
 unfold WI at g
 refine C.ss (U.bx ?_)
 refine U.bx ?_
 refine U.pd 1 T (C.xs (C.block (C.seq ?_)))
 refine C.jn (fun (x3:Bool)=>[(2,.i shelf),(3,.i c),(4,.p 0 0),(5,.p 1 0),(12,.b x3)]) (fun x3=>[(0,.box (Q2 s_1)),(1,.box (Q1 st))]) 2 g (fun x3 g=>?_) fun J4 g j4=>?_
 refine C.nx ?_
 refine C.ite rfl g (fun b6 g=>?_) fun b6 g=>?_
 refine C.ss (U.pd 1 T (C.nx (C.ret (C.brt (C.rt ?_)))))
 exact C.f1 T o (pIi g)
 refine C.ss (U.ps 2 T rfl (U.k (Q37 s_1 c _ g) Qb9 (fun x11 g=>?_)))
 refine U.pd 2 T (C.nx ?_)
 refine C.ite rfl g (fun b12 g=>?_) fun b12 g=>?_
 refine C.ss (U.pd 1 T (C.nx (C.ret (C.brt (C.rt ?_)))))
 exact C.f1 T o (pIi g)
 refine C.skip (C.bnx (C.xt (U.pd 1 T (C.xs (C.ss ?_)))))
 refine U.pd 4 T (C.nx ?_)
 refine C.jn (fun (x19:Int)=>[(9,.i x19)]) (fun x19=>[]) 0 g (fun x19 g=>?_) fun J20 g j20=>?_
 refine C.xt (U.pd 2 T (C.nx (C.ret ?_)))
 exact C.f1 T o (pIi g)
 refine C.block (St.wk (C.loop (fun (s21:Int×Int)=>[(2,.i shelf),(3,.i c),(4,.p 0 0),(5,.p 1 0),(9,.i s21.1),(28,.sl 1 eI st.Shelves),(29,.i (st.Shelves.length:Int)),(30,.i s21.2)]) (fun s21=>[(0,.box (Q2 s_1)),(1,.box (Q1 st))]) g (fun s21 Y22 g=>?_)) (Wk.a (idR 2)))
 refine C.ss (U.pd 1 T (C.xs ?_))
 refine C.ite rfl g (fun b25 g=>?_) fun b25 g=>?_
 refine C.skip (C.xs ?_)
 refine C.jn (fun (x26:Int)=>[(2,.i shelf),(3,.i c),(4,.p 0 0),(5,.p 1 0),(9,.i x26),(28,.sl 1 eI st.Shelves),(29,.i (st.Shelves.length:Int)),(30,.i s21.2)]) (fun x26=>[(0,.box (Q2 s_1)),(1,.box (Q1 st))]) 2 g (fun x26 g=>?_) fun J27 g j27=>?_
 refine C.nx (U.start (U.pd 2 T (C.nx ?_)))
 exact St.wk (C.next g) (Wk.a (idR 2))
 refine C.block (C.ss (U.ps 1 T rfl ?_))
 obtain⟨x30,y30,g⟩:=g
 refine U.ix T y30 ?_
 refine U.pd 3 T (C.xs (C.seq ?_))
 refine C.jn (fun (x31:Bool)=>[(2,.i shelf),(3,.i c),(4,.p 0 0),(5,.p 1 0),(9,.i s21.1),(10,.i s21.2),(11,.i x30),(28,.sl 1 eI st.Shelves),(29,.i (st.Shelves.length:Int)),(30,.i s21.2),(56,.b x31)]) (fun x31=>[(0,.box (Q2 s_1)),(1,.box (Q1 st))]) 2 g (fun x31 g=>?_) fun J32 g j32=>?_
 refine C.nx ?_
 refine C.ite rfl g (fun b39 g=>?_) fun b39 g=>?_
 refine C.exit (C.ex (C.bex ?_))
 exact St.wa (idR 2) (j27 _ g)
 refine C.skip (C.xs (C.ss (U.pd 3 T (C.nx ?_))))
 refine C.ite rfl g (fun b42 g=>?_) fun b42 g=>?_
 refine C.ss (U.pd 1 T (C.nx (C.ret (C.rt (C.brt (C.rt (C.rt (C.brt (C.rt ?_)))))))))
 exact C.f1 T o (pIi g)
 refine C.skip (C.xs (D.bq mix 7 [0] [] (fun hQ hS ws M'=>?_)))
 refine D.pq 5 [(0,[]),(1,[3]),(2,[3]),(4,[6]),(5,[6])] T ?_
 refine D.k 3 (Q0Y s_1 shelf _ g) Q9L fun x47 g=>?_
 refine D.k 6 (Q0Y s_1 s21.2 _ g) Q9L fun x48 g=>?_
 refine D.ze rfl (.none rfl) (by exact Eff.k (Q3W s_1 x47 x48 _ g) QaP rfl rfl rfl (.eq rfl) (fun _ _=>⟨(.v _),trivial⟩)) (by kernel_rfl) (by kernel_rfl) (fun x49' g=>?_)
 obtain⟨x49⟩:=x49'
 refine C.nx ?_
 refine C.jn (fun (x50:Int)=>[(2,.i shelf),(3,.i c),(4,.p 0 0),(5,.p 1 0),(9,.i x50),(28,.sl 1 eI st.Shelves),(29,.i (st.Shelves.length:Int)),(30,.i s21.2)]) (fun x50=>[(0,.box (Q2 s_1)),(1,.box (Q1 st))]) 2 g (fun x50 g=>?_) fun J51 g j51=>?_
 refine C.bnx ?_
 exact St.wa (idR 2) (j27 _ g)
 refine C.ite rfl g (fun b52 g=>?_) fun b52 g=>?_
 refine U.start (U.pd 1 T ?_)
 exact St.wa (idR 2) (j51 _ g)
 refine C.skip ?_
 exact St.wa (idR 2) (j51 _ g)
 refine U.start (U.ps 4 T rfl ?_)
 refine g.cs (fun b33 g=>?_) fun b33 g=>?_
 refine U.sk' 4 3 false 38 b33 ?_
 refine U.sku 6 7 true 42 rfl rfl rfl ?_
 refine U.sk' 1 3 false 38 b33 ?_
 refine U.pk b33 ?_
 refine U.ps 1 T rfl (U.sk' 4 16 false 51 rfl ?_)
 refine U.pk rfl ?_
 refine U.done ?_
 exact St.wa (idR 2) (j32 _ g)
 refine U.pq 4 3 false 38 b33 T ?_
 refine g.cs (fun b34 g=>?_) fun b34 g=>?_
 refine U.pq 4 7 true 42 b34 T ?_
 refine U.k (Q22 s_1.Floor x30 c _ g) Q9y (fun x35 g=>?_) (hw:=.take 7 true 42 _ b34 rfl rfl rfl)
 refine U.pq 1 7 true 42 b34 T ?_
 refine U.r rfl (.tk 3 false 38 b33) rfl rfl (by exact Rd.pk rfl rfl b34 rfl) ?_
 refine U.pk' b33 ?_
 refine U.ps 1 T rfl ?_
 refine g.cs (fun b36 g=>?_) fun b36 g=>?_
 refine U.pq 2 16 false 51 (ntF b36) T ?_
 refine U.k (Zv st s21.2 _ g) Qa2 (fun x37 g=>?_) (hw:=.take 16 false 51 _ (ntF b36) rfl rfl rfl)
 refine U.pq 1 16 false 51 (ntF b36) T ?_
 refine U.pk' (ntF b36) ?_
 refine U.done ?_
 exact St.wa (idR 2) (j32 _ g)
 refine U.sk' 4 16 false 51 (ntT b36) ?_
 refine U.pk (ntT b36) ?_
 refine U.done ?_
 exact St.wa (idR 2) (j32 _ g)
 refine U.sk' 6 7 true 42 b34 ?_
 refine U.r rfl (.tk 3 false 38 b33) rfl rfl (by exact Rd.pk' rfl rfl b34 rfl) ?_
 refine U.pk' b33 ?_
 refine U.ps 1 T rfl (U.pq 2 16 false 51 rfl T ?_)
 refine U.k (Zv st s21.2 _ g) Qa2 (fun x38 g=>?_) (hw:=.take 16 false 51 _ rfl rfl rfl rfl)
 refine U.pq 1 16 false 51 rfl T ?_
 refine U.pk' rfl ?_
 refine U.done ?_
 exact St.wa (idR 2) (j32 _ g)
 refine C.exit (C.ex (C.ex (C.bex ?_)))
 exact St.wn (j20 _ g)
 refine U.start (U.ps 3 T rfl ?_)
 refine g.cs (fun b5 g=>?_) fun b5 g=>?_
 refine U.sk' 5 2 false 15 b5 ?_
 refine U.pk b5 ?_
 refine U.pd 1 T ?_
 exact St.wa (idR 2) (j4 _ g)
 refine U.pq 5 2 false 15 b5 T ?_
 refine U.pk' b5 ?_
 refine U.pd 1 T ?_
 exact St.wa (idR 2) (j4 _ g)
theorem Q0H (s_1:ApiSite) (st:ApiState) (robot:Int) (act:Int) (post:Int→Prop) (g:G7 s_1 st robot act post):
  Tr Tryz.prog 36 [.agg (Q2 s_1),.agg (Q1 st),.i robot,.i act] [] 0 (pI post):=by
 refine Tr.go Tryz.func36 Tryz.ntmps36 fun _ _ _ _ o=>?_
 unfold G7 at g
 refine C.ss (U.bx ?_)
 refine U.bx ?_
 refine U.pd 1 T (C.xs (C.seq ?_))
 refine C.jn (fun (x3:Bool)=>[(2,.i robot),(3,.i act),(4,.p 0 0),(5,.p 1 0),(22,.b x3)]) (fun x3=>[(0,.box (Q2 s_1)),(1,.box (Q1 st))]) 2 g (fun x3 g=>?_) fun J4 g j4=>?_
 refine C.nx ?_
 refine C.ite rfl g (fun b6 g=>?_) fun b6 g=>?_
 refine C.ss (U.pd 1 T (C.nx (C.ret (C.rt ?_))))
 exact C.f1 T o (pIi g)
 refine C.skip (C.xs (C.seq ?_))
 refine C.jn (fun (x9:Bool)=>[(2,.i robot),(3,.i act),(4,.p 0 0),(5,.p 1 0),(28,.b x9)]) (fun x9=>[(0,.box (Q2 s_1)),(1,.box (Q1 st))]) 2 g (fun x9 g=>?_) fun J10 g j10=>?_
 refine C.nx ?_
 refine C.ite rfl g (fun b12 g=>?_) fun b12 g=>?_
 refine C.ss (U.pd 1 T (C.nx (C.ret (C.rt ?_))))
 exact C.f1 T o (pIi g)
 refine C.skip (C.xs (C.ss (U.pd 2 T (C.nx ?_))))
 refine C.ite rfl g (fun b17 g=>?_) fun b17 g=>?_
 refine C.ss (U.pd 1 T (C.nx (C.ret (C.rt ?_))))
 exact C.f1 T o (pIi g)
 refine C.skip (C.xt (U.ps 3 T rfl ?_))
 obtain⟨x22,y22,g⟩:=g
 refine U.ix T y22 ?_
 refine U.ps 1 T rfl (U.al T ?_)
 refine U.st T ?_
 refine U.done (C.xt (U.ps 1 T rfl (U.k (Zr act _ g) en99 (fun x25 g=>?_))))
 refine U.pd 5 T (C.xs (C.seq ?_))
 refine C.jn (fun (x26:Bool)=>[(3,.i act),(4,.p 0 0),(5,.p 1 0),(9,.p 2 0),(10,.i x25.1),(11,.b x25.2),(47,.b x26)]) (fun x26=>[(0,.box (Q2 s_1)),(1,.box (Q1 st)),(2,.box (Q4 x22))]) 3 g (fun x26 g=>?_) fun J27 g j27=>?_
 refine C.nx ?_
 refine C.ite rfl g (fun b29 g=>?_) fun b29 g=>?_
 refine C.ss (U.pd 1 T (C.nx (C.ret (C.rt ?_))))
 exact C.f1 T o (pIi g)
 refine C.skip (C.xs (C.seq ?_))
 refine C.jn (fun (x32:Bool)=>[(3,.i act),(4,.p 0 0),(5,.p 1 0),(9,.p 2 0),(10,.i x25.1),(11,.b x25.2),(53,.b x32)]) (fun x32=>[(0,.box (Q2 s_1)),(1,.box (Q1 st)),(2,.box (Q4 x22))]) 3 g (fun x32 g=>?_) fun J33 g j33=>?_
 refine C.nx ?_
 refine C.ite rfl g (fun b35 g=>?_) fun b35 g=>?_
 refine C.ss (U.pd 1 T (C.nx (C.ret (C.rt ?_))))
 exact C.f1 T o (pIi g)
 refine C.skip (C.xs (C.ss (U.ps 8 T rfl (U.k (ZS st.Tick x22.Charge act (decide (x22.Load≥0)) _ g) Q9G (fun x40 g=>?_)))))
 refine U.pd 5 T (C.xt ?_)
 refine U.pd 2 T (C.nx ?_)
 refine C.ite rfl g (fun b43 g=>?_) fun b43 g=>?_
 refine C.ss (U.pd 2 T (C.nx (C.ret (C.rt ?_))))
 exact C.f1 T o (pIi g)
 refine C.skip (C.xs (C.block (C.ss (U.pd 2 T (C.nx ?_)))))
 refine C.ite rfl g (fun b48 g=>?_) fun b48 g=>?_
 refine C.ss (U.ps 4 T rfl (U.k (Q6P s_1 st x22 x25.1 _ g) QbE (fun x51 g=>?_)))
 refine U.pd 1 T (C.nx (C.ret (C.brt (C.rt ?_))))
 exact C.f1 T o (pIi g)
 refine C.ss (U.pd 3 T (C.nx ?_))
 refine C.ite rfl g (fun b54 g=>?_) fun b54 g=>?_
 refine C.ss (U.ps 3 T rfl (U.k (Q6O s_1 st x22 _ g) QaT (fun x57 g=>?_)))
 refine U.pd 1 T (C.nx (C.ret (C.brt (C.rt ?_))))
 exact C.f1 T o (pIi g)
 refine C.seq ?_
 refine C.jn (fun (x58:Bool)=>[(3,.i act),(4,.p 0 0),(5,.p 1 0),(9,.p 2 0),(83,.b x58)]) (fun x58=>[(0,.box (Q2 s_1)),(1,.box (Q1 st)),(2,.box (Q4 x22))]) 3 g (fun x58 g=>?_) fun J59 g j59=>?_
 refine C.nx ?_
 refine C.ite rfl g (fun b61 g=>?_) fun b61 g=>?_
 refine C.ss (U.pd 1 T (C.nx (C.ret (C.brt (C.rt ?_)))))
 exact C.f1 T o (pIi g)
 refine C.ss (U.pd 3 T (C.nx ?_))
 refine C.ite rfl g (fun b66 g=>?_) fun b66 g=>?_
 refine C.ss (U.ps 6 T rfl (U.k (Q4Q s_1 st x22.Load x22.Cell _ g) Qbj (fun x69 g=>?_)))
 refine U.pd 1 T (C.nx (C.ret (C.brt (C.rt ?_))))
 exact C.f1 T o (pIi g)
 refine C.ss (U.ps 5 T rfl ?_)
 obtain⟨x72,y72,g⟩:=g
 refine U.ix T y72 ?_
 refine U.pd 3 T (C.nx ?_)
 refine C.ite rfl g (fun b73 g=>?_) fun b73 g=>?_
 refine C.ss (U.pd 1 T (C.nx (C.ret (C.brt (C.rt ?_)))))
 exact C.f1 T o (pIi g)
 refine C.skip (C.bnx (C.xt (U.pd 1 T (C.nx (C.ret ?_)))))
 exact C.f1 T o (pIi g)
 refine U.start (U.ps 3 T rfl ?_)
 refine g.cs (fun b60 g=>?_) fun b60 g=>?_
 refine U.pq 3 2 true 86 b60 T ?_
 refine U.pk b60 ?_
 refine U.pd 1 T ?_
 exact St.wa (idR 3) (j59 _ g)
 refine U.sk' 3 2 true 86 b60 ?_
 refine U.pk' b60 ?_
 refine U.pd 1 T ?_
 exact St.wa (idR 3) (j59 _ g)
 refine U.start (U.ps 2 T rfl ?_)
 refine g.cs (fun b34 g=>?_) fun b34 g=>?_
 refine U.pq 3 1 true 49 b34 T ?_
 refine U.pk b34 ?_
 refine U.done ?_
 exact St.wa (idR 3) (j33 _ g)
 refine U.sk' 3 1 true 49 b34 ?_
 refine U.pk' b34 ?_
 refine U.done ?_
 exact St.wa (idR 3) (j33 _ g)
 refine U.start (U.ps 3 T rfl ?_)
 refine g.cs (fun b28 g=>?_) fun b28 g=>?_
 refine U.sk' 3 2 false 43 b28 ?_
 refine U.pk b28 ?_
 refine U.done ?_
 exact St.wa (idR 3) (j27 _ g)
 refine U.pq 3 2 false 43 b28 T ?_
 refine U.pk' b28 ?_
 refine U.done ?_
 exact St.wa (idR 3) (j27 _ g)
 refine U.start (U.ps 3 T rfl ?_)
 refine g.cs (fun b11 g=>?_) fun b11 g=>?_
 refine U.sk' 2 2 false 25 b11 ?_
 refine U.pk b11 ?_
 refine U.done ?_
 exact St.wa (idR 2) (j10 _ g)
 refine U.pq 2 2 false 25 b11 T ?_
 refine U.pk' b11 ?_
 refine U.done ?_
 exact St.wa (idR 2) (j10 _ g)
 refine U.start (U.ps 3 T rfl ?_)
 refine g.cs (fun b5 g=>?_) fun b5 g=>?_
 refine U.sk' 5 2 false 16 b5 ?_
 refine U.pk b5 ?_
 refine U.done ?_
 exact St.wa (idR 2) (j4 _ g)
 refine U.pq 5 2 false 16 b5 T ?_
 refine U.pk' b5 ?_
 refine U.done ?_
 exact St.wa (idR 2) (j4 _ g)
theorem Q4I (f:Q6) (st:ApiState) (acts:List Int) (post:(List Int)→Prop) (g:GI f st acts post):
  Tr Tryz.prog 28 [.agg (Qd f),.agg (Q1 st),.sl 1 eI acts] [] 0 (fun A H' k=>∃y,post y∧A=(.o 0)∧H'=[(0,.val (.os 1 eI y))]∧k=1):=by
 refine Tr.go Tryz.func28 Tryz.ntmps28 fun _ _ _ _ o=>?_
 unfold GI at g
 refine C.ss (U.bx ?_)
 refine U.bx ?_
 refine U.pd 1 T (C.xt ?_)
 refine U.ps 1 T rfl (U.k (Q3C st _ g) en76 (fun x5 g=>?_))
 refine U.pd 1 T (C.xs (C.ss ?_))
 refine U.pd 4 T (C.nx ?_)
 refine C.jn (fun (x8:List Int)=>[(7,.o 0)]) (fun x8=>[(0,.val (.os 1 eI x8))]) 1 g (fun x8 g=>?_) fun J9 g j9=>?_
 refine C.xt (U.ps 1 T rfl (U.c [some 0] (KJ x8 _ g) en52 (fun x44 g=>?_)))
 refine U.done (C.xt (U.pd 2 T (C.nx (C.ret ?_))))
 exact C.g1 [some 0] T o ⟨x44,g,rfl,rfl,rfl⟩
 refine C.block (St.wk (C.loop (fun (s10:List Int×Int)=>[(2,.sl 1 eI acts),(3,.p 0 0),(7,.o 1),(15,.sl 6 Q4 st.Robots),(16,.i (st.Robots.length:Int)),(17,.i s10.2)]) (fun s10=>[(0,.box (Qd f)),(1,.val (.os 1 eI s10.1))]) g (fun s10 Y11 g=>?_)) (Wk.a [some 0,some 2]))
 refine C.ss (U.pd 1 T (C.xs ?_))
 refine C.ite rfl g (fun b14 g=>?_) fun b14 g=>?_
 refine C.skip (C.xs ?_)
 refine C.jn (fun (x15:List Int)=>[(2,.sl 1 eI acts),(3,.p 0 0),(7,.o 1),(15,.sl 6 Q4 st.Robots),(16,.i (st.Robots.length:Int)),(17,.i s10.2)]) (fun x15=>[(0,.box (Qd f)),(1,.val (.os 1 eI x15))]) 2 g (fun x15 g=>?_) fun J16 g j16=>?_
 refine C.nx (U.start (U.pd 2 T (C.nx ?_)))
 exact St.wk (C.next g) (Wk.a (idR 2))
 refine C.block (C.ss (U.ps 1 T rfl ?_))
 obtain⟨x19,y19,g⟩:=g
 refine U.ix T y19 ?_
 refine U.ps 1 T rfl (U.al T ?_)
 refine U.ps 1 T rfl (U.st T ?_)
 refine U.done (C.xs (C.seq ?_))
 refine C.jn (fun (x20:Bool)=>[(2,.sl 1 eI acts),(3,.p 0 0),(7,.o 1),(8,.i s10.2),(9,.p 2 0),(15,.sl 6 Q4 st.Robots),(16,.i (st.Robots.length:Int)),(17,.i s10.2),(43,.b x20)]) (fun x20=>[(0,.box (Qd f)),(1,.val (.os 1 eI s10.1)),(2,.box (Q4 x19))]) 3 g (fun x20 g=>?_) fun J21 g j21=>?_
 refine C.nx ?_
 refine C.ite rfl g (fun b26 g=>?_) fun b26 g=>?_
 refine C.exit (C.ex (C.bex ?_))
 exact St.wa (idR 2) (j16 _ g)
 refine C.skip (C.xs (D.bq mix 9999 [0,2] [] (fun hQ hS ws M'=>?_)))
 refine D.pq 5 (zl [0,1,2,3,4]) T ?_
 obtain⟨x29,y29,g⟩:=g
 refine D.ix 5 [] T y29 ?_
 refine D.pq 2 (zl [6,7]) T ?_
 refine D.k 8 (Zy f x19.Cell (w64 (x29-1)) _ g) en24 fun x30 g=>?_
 refine D.pq 5 (zl [9,10,11,12,13]) T ?_
 refine D.done (by kernel_rfl) ?_
 refine C.xt (U.pd 1 T (C.nx ?_))
 refine C.jn (fun (x33:List Int)=>[(2,.sl 1 eI acts),(3,.p 0 0),(7,.o 1),(15,.sl 6 Q4 st.Robots),(16,.i (st.Robots.length:Int)),(17,.i s10.2)]) (fun x33=>[(0,.box (Qd f)),(1,.val (.os 1 eI x33))]) 2 g (fun x33 g=>?_) fun J34 g j34=>?_
 refine C.bnx ?_
 exact St.wa (idR 2) (j16 _ g)
 refine C.ite rfl g (fun b35 g=>?_) fun b35 g=>?_
 refine U.start (U.ps 3 T rfl (U.k (Q5e x19 x30.1 _ g) en82 (fun x38 g=>?_)))
 obtain⟨y39,g⟩:=g
 refine U.ap T y39 ?_
 refine U.pd 1 T ?_
 exact St.wa [some 0,some 4] (j34 _ g)
 refine C.skip ?_
 exact St.wa (idR 2) (j34 _ g)
 refine U.start (U.ps 5 T rfl ?_)
 refine g.cs (fun b22 g=>?_) fun b22 g=>?_
 refine U.sk' 2 4 false 26 b22 ?_
 refine U.pk b22 ?_
 refine U.ps 1 T rfl (U.sk' 5 8 false 30 rfl ?_)
 refine U.pk rfl ?_
 refine U.ps 1 T rfl (U.sk' 5 15 false 37 rfl ?_)
 refine U.pk rfl ?_
 refine U.done ?_
 exact St.wa (idR 3) (j21 _ g)
 refine U.pq 2 4 false 26 b22 T ?_
 refine U.pk' b22 ?_
 refine U.ps 1 T rfl ?_
 refine g.cs (fun b23 g=>?_) fun b23 g=>?_
 refine U.sk' 5 8 false 30 b23 ?_
 refine U.pk b23 ?_
 refine U.ps 1 T rfl (U.sk' 5 15 false 37 rfl ?_)
 refine U.pk rfl ?_
 refine U.done ?_
 exact St.wa (idR 3) (j21 _ g)
 refine U.pq 2 8 false 30 b23 T ?_
 obtain⟨x24,y24,g⟩:=g
 refine U.r rfl (.tk 8 false 30 b23) rfl rfl (by exact Rd.ix T rfl rfl rfl rfl rfl rfl y24) ?_
 refine U.pq 2 8 false 30 b23 T ?_
 refine U.pk' b23 ?_
 refine U.ps 1 T rfl ?_
 refine g.cs (fun b25 g=>?_) fun b25 g=>?_
 refine U.sk' 5 15 false 37 b25 ?_
 refine U.pk b25 ?_
 refine U.done ?_
 exact St.wa (idR 3) (j21 _ g)
 refine U.pq 2 15 false 37 b25 T ?_
 refine U.r rfl (.tk 15 false 37 b25) rfl rfl (by exact Rd.ix T rfl rfl rfl rfl rfl rfl y24) ?_
 refine U.pq 2 15 false 37 b25 T ?_
 refine U.pk' b25 ?_
 refine U.done ?_
 exact St.wa (idR 3) (j21 _ g)
 refine C.exit (C.ex (C.ex (C.bex ?_)))
 exact St.wa [some 1] (j9 _ g)
theorem Z9 (s_1:List Int) (post:(List Int)→Prop) (g:X5 s_1 post):
  Tr Tryz.prog 81 [.sl 1 eI s_1] [] 0 (fun A H' k=>∃y,post y∧A=(.fn (.func 152) [] [.p 0 0])∧H'=[(0,.box [.sl 1 eI y])]∧k=1):=by
 refine Tr.go Tryz.func81 Tryz.ntmps81 fun _ _ _ _ o=>?_
 unfold X5 at g
 refine C.ss (U.bx ?_)
 refine U.pd 1 T (C.xt ?_)
 refine U.pd 2 T (C.nx (C.ret ?_))
 exact C.g1 [some 0] T o ⟨(s_1),g,rfl,rfl,rfl⟩
theorem KX (seq_c0:List Int) (s_1:List Int) (post:(List Int)→Prop) (g:Qp seq_c0 s_1 post):
  Tr Tryz.prog 200 [.o 0,.fn (.func 152) [] [.rp [.sl 1 eI seq_c0]]] [(0,.val (.os 1 eI s_1))] 1 (fun A H' k=>∃y,post y∧A=(.o 1)∧H'=[(1,.val (.os 1 eI y))]∧k=2):=by
 refine Tr.go Tryz.func200 Tryz.ntmps200 fun _ _ _ _ o=>?_
 unfold Qp at g
 refine C.ss (U.bx ?_)
 refine U.pd 1 T (C.xs (C.ss ?_))
 refine U.pd 1 T (C.nx (C.block ?_))
 obtain⟨y8,g⟩:=g
 refine St.wk (C.range (Γ0:=[(2,.p 1 0),(6,.fn (.func 152) [] [.rp [.sl 1 eI seq_c0]])]) (Γ1:=fun (x5:Int)=>[(5,.i x5),(7,.i x5),(2,.p 1 0),(6,.fn (.func 152) [] [.rp [.sl 1 eI seq_c0]])]) (Hf:=fun (s6:List Int)=>[(1,.box [.o 2]),(2,.val (.os 1 eI s6))]) 2 g (QbI seq_c0 y8) QbT rfl rfl rfl rfl rfl (fun _=>rfl) rfl rfl (fun _=>rfl) (fun x5 s6 Y7 g w0 ok M β l=>?_) (fun s12 g=>?_)) (Wk.a [some 0,some 1,some 0])
 refine CI.block ?_
 refine UI.start (by kernel_rfl) (by repeat (first | exact Zl.rnd | refine Zl.th ?_ | refine Zl.blk ?_)) ?_
 refine U.ps 2 T rfl (U.bs T eI ([x5]:List Int) ?_)
 obtain⟨y11,g⟩:=g
 refine U.ap T y11 ?_
 refine U.st T ?_
 refine U.done (C.bnx ?_)
 exact St.wk (CI.next g) (Wk.mk' [some 0,some 1,some 4] rfl rfl trivial ⟨bX,vL,trivial⟩ rfl)
 refine C.bnx (C.xt (U.pd 2 T (C.nx (C.ret ?_))))
 exact C.g1 [some 0,some 2] T o ⟨s12,g,rfl,rfl,rfl⟩
theorem XR (seq_c0:List Int) (post:(List Int)→Prop) (g:QB seq_c0 post):
  Tr Tryz.prog 151 [.fn (.func 152) [] [.rp [.sl 1 eI seq_c0]]] [] 0 (fun A H' k=>∃y,post y∧A=(.o 0)∧H'=[(0,.val (.os 1 eI y))]∧k=1):=by
 refine Tr.go Tryz.func151 Tryz.ntmps151 fun _ _ _ _ o=>?_
 unfold QB at g
 refine C.ss (U.pd 1 T (C.xt ?_))
 refine U.ps 1 T rfl (U.c [none] (KX seq_c0 [] _ g) QaU (fun x5 g=>?_))
 refine U.pd 1 T (C.nx (C.ret ?_))
 exact C.g1 [some 1] T o ⟨x5,g,rfl,rfl,rfl⟩
theorem XZ (seq_c0:List Int) (post:(List Int)→Prop) (g:QC seq_c0 post):
  Tr Tryz.prog 80 [.fn (.func 152) [] [.rp [.sl 1 eI seq_c0]]] [] 0 (fun A H' k=>∃y,post y∧A=(.o 0)∧H'=[(0,.val (.os 1 eI y))]∧k=1):=by
 refine Tr.go Tryz.func80 Tryz.ntmps80 fun _ _ _ _ o=>?_
 unfold QC at g
 refine C.ss (U.pd 1 T (C.xt ?_))
 refine U.ps 1 T rfl (U.k (XR seq_c0 _ g) Qb6 (fun x5 g=>?_))
 refine U.pd 1 T (C.xt ?_)
 refine U.ps 1 T rfl (U.c [some 0] (KJ x5 _ g) en52 (fun x8 g=>?_))
 refine U.done (C.xt (U.pd 2 T (C.nx (C.ret ?_))))
 exact C.g1 [some 0] T o ⟨x8,g,rfl,rfl,rfl⟩
theorem Q5b (slots:List Int) (post:(Int×Bool)→Prop) (g:Wb slots post):
  Tr Tryz.prog 27 [.sl 1 eI slots] [] 0 (fun A H' k=>∃y,post y∧A=(.tup [.i y.1,.b y.2])∧H'=[]∧k=0):=by
 refine Tr.go Tryz.func27 Tryz.ntmps27 fun _ _ _ _ o=>?_
 unfold Wb at g
 refine C.ss (U.pd 2 T (C.xt ?_))
 refine U.ps 1 T rfl (U.e rfl (.none rfl) (by exact Eff.c [] (v:=false) (Z9 slots _ g) en81 rfl rfl rfl (.eq rfl) trivial rfl rfl rfl rfl rfl rfl (fun h=>by cases h) (.inr ⟨rfl,rfl⟩) (fun _=>rfl) (fun _=>rfl) rfl) (fun x5' g=>?_))
 obtain⟨x5⟩:=x5'
 refine U.k (XZ x5 _ g) en80 fun x6 g=>?_
 refine U.pd 1 T (C.xs (C.ss ?_))
 refine U.pd 1 T (C.nx ?_)
 refine C.jn (fun (x9:Unit)=>[]) (fun x9=>[]) 0 g (fun x9 g=>?_) fun J10 g j10=>?_
 refine C.xt (U.pd 2 T (C.nx (C.ret ?_)))
 exact C.f9 T o ⟨(0,false),g,rfl,rfl,rfl⟩
 refine C.block (St.wk (C.loop (fun (s11:Int)=>[(4,.o 0),(5,.i s11)]) (fun s11=>[(0,.val (.os 1 eI x6))]) g (fun s11 Y12 g=>?_)) (Wk.a [some 1]))
 refine C.seq (C.ss (U.pd 4 T (C.nx ?_)))
 refine C.ite rfl g (fun b15 g=>?_) fun b15 g=>?_
 refine C.skip (C.xs (C.block (C.seq (D.bq mix 9999 [0] [] (fun hQ hS ws M'=>?_)))))
 refine D.pq 2 (zl [0,1]) T ?_
 obtain⟨x18,y18,g⟩:=g
 refine D.q 2 [] hQ hS rfl (.none rfl) rfl rfl (by exact Rd.io T rfl rfl rfl rfl rfl rfl rfl y18) rfl (by kernel_rfl) ?_
 refine D.q 3 [] hQ hS rfl (.none rfl) rfl rfl (by exact Rd.le T rfl rfl rfl (Qj y18).2.2 rfl rfl rfl) rfl (by kernel_rfl) ?_
 refine D.pq 3 (zl [4,5,6]) T ?_
 obtain⟨x19,y19,g⟩:=g
 refine D.q 7 [] hQ hS rfl (.none rfl) rfl rfl (by exact Rd.io T rfl rfl rfl rfl rfl rfl rfl y19) rfl (by kernel_rfl) ?_
 refine D.q 8 [] hQ hS rfl (.none rfl) rfl rfl (by exact Rd.le T rfl rfl rfl (Qj y19).2.2 rfl rfl rfl) rfl (by kernel_rfl) ?_
 refine D.pq 1 [(9,[])] T ?_
 refine D.done (by kernel_rfl) ?_
 refine C.nx ?_
 refine C.ite rfl g (fun b20 g=>?_) fun b20 g=>?_
 refine C.ss (U.ps 2 T rfl (U.r rfl (.none rfl) rfl rfl (by exact Rd.io T rfl rfl rfl rfl rfl rfl rfl y18) ?_))
 refine U.r rfl (.none rfl) rfl rfl (by exact Rd.le T rfl rfl rfl (Qj y18).2.2 rfl rfl rfl) ?_
 refine U.pd 2 T (C.nx (C.ret (C.brt (C.rt (C.rt (C.brt (C.rt ?_)))))))
 exact C.f9 T o ⟨(x18,true),g,rfl,rfl,rfl⟩
 refine C.skip (C.bnx (C.nx (U.start (U.pd 3 T (C.nx ?_)))))
 exact St.wk (C.next g) (Wk.a [some 0])
 refine C.exit (C.ex (C.ex (C.bex ?_)))
 exact St.wk (j10 _ g) (Wk.mk' [] rfl rfl trivial trivial rfl)
theorem Gl (s_1:List Int) (post:(List Int)→Prop) (g:QV s_1 post):
  Tr Tryz.prog 124 [.sl 1 eI s_1] [] 0 (fun A H' k=>∃y,post y∧A=(.o 0)∧H'=[(0,.val (.os 1 eI y))]∧k=1):=by
 refine Tr.go Tryz.func124 Tryz.ntmps124 fun _ _ _ _ o=>?_
 unfold QV at g
 refine C.ss (U.pd 1 T (C.xs (C.ss ?_)))
 refine U.ps 1 T rfl (U.e rfl (.none rfl) (by exact Eff.isnil T true rfl rfl rfl rfl rfl rfl (.inl ⟨.sl,rfl⟩) rfl) (fun b5' hhb5=>?_))
 obtain⟨b5⟩:=b5'
 replace g:=g b5 hhb5
 refine U.done (C.nx ?_)
 refine C.ite rfl g (fun b6 g=>?_) fun b6 g=>?_
 refine C.ss (U.pd 1 T (C.nx (C.ret (C.rt ?_))))
 exact C.g1 [none] T o ⟨[],g,rfl,rfl,rfl⟩
 refine C.skip (C.xt (U.bs T eI ([]:List Int) ?_))
 refine U.ps 1 T rfl ?_
 obtain⟨y11,g⟩:=g
 refine U.ap T y11 ?_
 refine U.pd 1 T (C.nx (C.ret ?_))
 exact C.g1 [some 1] T o ⟨(([]:List Int)++s_1),g,rfl,rfl,rfl⟩
theorem Wd (s_1:List ApiRobot) (post:(List ApiRobot)→Prop) (g:QH s_1 post):
  Tr Tryz.prog 125 [.sl 6 Q4 s_1] [] 0 (fun A H' k=>∃y,post y∧A=(.o 0)∧H'=[(0,.val (.os 6 Q4 y))]∧k=1):=by
 refine Tr.go Tryz.func125 Tryz.ntmps125 fun _ _ _ _ o=>?_
 unfold QH at g
 refine C.ss (U.pd 1 T (C.xs (C.ss ?_)))
 refine U.ps 1 T rfl (U.e rfl (.none rfl) (by exact Eff.isnil T true rfl rfl rfl rfl rfl rfl (.inl ⟨.sl,rfl⟩) rfl) (fun b5' hhb5=>?_))
 obtain⟨b5⟩:=b5'
 replace g:=g b5 hhb5
 refine U.done (C.nx ?_)
 refine C.ite rfl g (fun b6 g=>?_) fun b6 g=>?_
 refine C.ss (U.pd 1 T (C.nx (C.ret (C.rt ?_))))
 exact C.g1 [none] T o ⟨[],g,rfl,rfl,rfl⟩
 refine C.skip (C.xt (U.bs T Q4 ([]:List ApiRobot) ?_))
 refine U.ps 1 T rfl ?_
 obtain⟨y11,g⟩:=g
 refine U.ap T y11 ?_
 refine U.pd 1 T (C.nx (C.ret ?_))
 exact C.g1 [some 1] T o ⟨(([]:List ApiRobot)++s_1),g,rfl,rfl,rfl⟩
theorem We (s_1:List Q0) (post:(List Q0)→Prop) (g:QI s_1 post):
  Tr Tryz.prog 126 [.sl 2 Q3 s_1] [] 0 (fun A H' k=>∃y,post y∧A=(.o 0)∧H'=[(0,.val (.os 2 Q3 y))]∧k=1):=by
 refine Tr.go Tryz.func126 Tryz.ntmps126 fun _ _ _ _ o=>?_
 unfold QI at g
 refine C.ss (U.pd 1 T (C.xs (C.ss ?_)))
 refine U.ps 1 T rfl (U.e rfl (.none rfl) (by exact Eff.isnil T true rfl rfl rfl rfl rfl rfl (.inl ⟨.sl,rfl⟩) rfl) (fun b5' hhb5=>?_))
 obtain⟨b5⟩:=b5'
 replace g:=g b5 hhb5
 refine U.done (C.nx ?_)
 refine C.ite rfl g (fun b6 g=>?_) fun b6 g=>?_
 refine C.ss (U.pd 1 T (C.nx (C.ret (C.rt ?_))))
 exact C.g1 [none] T o ⟨[],g,rfl,rfl,rfl⟩
 refine C.skip (C.xt (U.bs T Q3 ([]:List Q0) ?_))
 refine U.ps 1 T rfl ?_
 obtain⟨y11,g⟩:=g
 refine U.ap T y11 ?_
 refine U.pd 1 T (C.nx (C.ret ?_))
 exact C.g1 [some 1] T o ⟨(([]:List Q0)++s_1),g,rfl,rfl,rfl⟩
theorem ZU (st:ApiState) (post:ApiState→Prop) (g:Gt st post):
  Tr Tryz.prog 51 [.agg (Q1 st)] [] 0 (fun A H' k=>∃y,post y∧A=(.agg [.i y.Tick,.o 0,.o 1,.o 2,.o 3,.o 4])∧H'=[(0,.val (.os 1 eI y.Shelves)),(1,.val (.os 6 Q4 y.Robots)),(2,.val (.os 1 eI y.People)),(3,.val (.os 1 eI y.Dead)),(4,.val (.os 2 Q3 y.Stuck))]∧k=5):=by
 refine Tr.go Tryz.func51 Tryz.ntmps51 fun _ _ _ _ o=>?_
 unfold Gt at g
 refine C.ss (U.bx ?_)
 refine U.al T ?_
 refine U.done (C.xs (D.bq mix 18 [0] [] (fun hQ hS ws M'=>?_)))
 refine D.pq 12 (zl [0,1,2,3,5,6,8,9,11,12,14,15]) T ?_
 refine D.k 4 (Gl st.Shelves _ g) Q9c fun x5 g=>?_
 refine D.k 7 (Wd st.Robots _ g) Qbw fun x6 g=>?_
 refine D.k 10 (Gl st.People _ g) Q9c fun x7 g=>?_
 refine D.k 13 (Gl st.Dead _ g) Q9c fun x8 g=>?_
 refine D.k 16 (We st.Stuck _ g) Qbb fun x9 g=>?_
 refine D.pq 1 [(17,[])] T ?_
 refine D.ze1 rfl (.none rfl) (by exact Eff1.st T rfl rfl rfl rfl rfl rfl rfl rfl rfl rfl) (by kernel_rfl) (by kernel_rfl) ?_
 refine C.nx (C.ret ?_)
 exact C.g1 (sqR 2 5) T o ⟨({Tick:=st.Tick,Shelves:=x5,Robots:=x6,People:=x7,Dead:=x8,Stuck:=x9:ApiState}),g,rfl,rfl,rfl⟩
theorem Q4A (s_1:ApiSite) (c:Int) (post:Int→Prop) (g:Wh s_1 c post):
  Tr Tryz.prog 105 [.agg (Q2 s_1),.i c] [] 0 (pI post):=by
 refine Tr.go Tryz.func105 Tryz.ntmps105 fun _ _ _ _ o=>?_
 unfold Wh at g
 refine C.ss (U.bx ?_)
 refine U.pd 1 T (C.xs (C.ss ?_))
 refine U.ps 2 T rfl (U.k (Q0m s_1 c _ g) Qaf (fun x5 g=>?_))
 refine U.pd 1 T (C.xt ?_)
 refine U.pd 2 T (C.nx ?_)
 refine C.ite rfl g (fun b8 g=>?_) fun b8 g=>?_
 refine C.ss (U.ps 3 T rfl ?_)
 obtain⟨x11,y11,g⟩:=g
 refine U.ix T y11 ?_
 refine U.pd 3 T (C.nx (C.ret (C.rt ?_)))
 exact C.f1 T o (pIi g)
 refine C.skip (C.xt (U.pd 1 T (C.nx (C.ret ?_))))
 exact C.f1 T o (pIi g)
theorem Q6t (s_1:ApiSite) (st:ApiState) (robot:Int) (act:Int) (post:ApiState→Prop) (g:Yz s_1 st robot act post):
  Tr Tryz.prog 37 [.agg (Q2 s_1),.agg (Q1 st),.i robot,.i act] [] 0 (fun A H' k=>∃y,post y∧A=(.agg [.i y.Tick,.o 0,.o 1,.o 2,.o 3,.o 4])∧H'=[(0,.val (.os 1 eI y.Shelves)),(1,.val (.os 6 Q4 y.Robots)),(2,.val (.os 1 eI y.People)),(3,.val (.os 1 eI y.Dead)),(4,.val (.os 2 Q3 y.Stuck))]∧k=5):=by
 refine Tr.go Tryz.func37 Tryz.ntmps37 fun _ _ _ _ o=>?_
 unfold Yz at g
 refine C.ss (U.bx ?_)
 refine U.bx ?_
 refine U.al T ?_
 refine U.done (C.xt (U.ps 1 T rfl (U.k (ZU st _ g) en51 (fun x5 g=>?_))))
 refine U.al T ?_
 refine U.st T ?_
 refine U.done (C.xs (C.seq ?_))
 refine C.jn (fun (x6:Bool)=>[(2,.i robot),(3,.i act),(4,.p 0 0),(5,.p 1 0),(8,.p 2 0),(9,.p 3 0),(35,.b x6)]) (fun x6=>[(0,.box (Q2 s_1)),(1,.box (Q1 st)),(2,.box [.i 0,vN,vN,vN,vN,vN]),(3,.box [.i x5.Tick,.o 4,.o 5,.o 6,.o 7,.o 8]),(4,.val (.os 1 eI x5.Shelves)),(5,.val (.os 6 Q4 x5.Robots)),(6,.val (.os 1 eI x5.People)),(7,.val (.os 1 eI x5.Dead)),(8,.val (.os 2 Q3 x5.Stuck))]) 9 g (fun x6 g=>?_) fun J7 g j7=>?_
 refine C.nx ?_
 refine C.ite rfl g (fun b11 g=>?_) fun b11 g=>?_
 refine C.ss (U.ps 1 T rfl (U.st T ?_))
 refine U.done (C.nx (C.ret (C.rt ?_)))
 exact C.g1 (sqR 4 5) T o ⟨x5,g,rfl,rfl,rfl⟩
 refine C.skip (C.xt (U.ps 3 T rfl ?_))
 obtain⟨x16,y16,g⟩:=g
 refine U.r rfl (.none rfl) rfl rfl (by exact Rd.io T rfl rfl rfl rfl rfl rfl rfl y16) ?_
 refine U.pd 1 T (C.xs ?_)
 refine D.bq mix 9999 [1,5] [] (fun hQ hS ws M'=>?_)
 refine D.pq 5 (zl [0,1,2,3,4]) T ?_
 refine D.q 5 [] hQ hS rfl (.none rfl) rfl rfl (by exact Rd.le T rfl rfl rfl (Qj y16).2.2 rfl rfl rfl) rfl (by kernel_rfl) ?_
 refine D.pq 4 (zl [6,7,8,9]) T ?_
 refine D.q 10 [] hQ hS rfl (.none rfl) rfl rfl (by exact Rd.le T rfl rfl rfl (Qj y16).2.2 rfl rfl rfl) rfl (by kernel_rfl) ?_
 refine D.pq 1 [(11,[])] T ?_
 refine D.k 12 (ZS st.Tick x16.Charge act (decide (x16.Load≥0)) _ g) Q9G fun x19 g=>?_
 refine D.pq 5 (zl [13,14,15,16,17]) T ?_
 refine D.done (by kernel_rfl) ?_
 refine C.xs (C.ss (U.pd 2 T (C.nx ?_)))
 refine C.jn (fun (x22:Int)=>[(3,.i act),(4,.p 0 0),(5,.p 1 0),(8,.p 2 0),(9,.p 3 0),(10,.ep 5 6 (Int.toNat robot) 0),(11,.i x22)]) (fun x22=>[(0,.box (Q2 s_1)),(1,.box (Q1 st)),(2,.box [.i 0,vN,vN,vN,vN,vN]),(3,.box [.i x5.Tick,.o 4,.o 5,.o 6,.o 7,.o 8]),(4,.val (.os 1 eI x5.Shelves)),(5,.val (.os 6 Q4 x5.Robots)),(6,.val (.os 1 eI x5.People)),(7,.val (.os 1 eI x5.Dead)),(8,.val (.os 2 Q3 x5.Stuck))]) 9 g (fun x22 g=>?_) fun J23 g j23=>?_
 refine C.xt (U.ps 4 T rfl (U.e1 rfl (.none rfl) (by exact Eff1.se T (z':=({Cell:=x16.Cell,Load:=x16.Load,Charge:=x22,Rest:=x16.Rest,Mute:=x16.Mute,Dead:=x16.Dead:ApiRobot})) rfl rfl rfl (Qj y16).2.2 rfl rfl rfl rfl rfl rfl rfl rfl (fun _=>rfl) rfl) ?_))
 refine U.done (C.xs (C.ss (U.pd 1 T (C.nx (C.block (C.ss ?_))))))
 refine U.pd 2 T (C.nx ?_)
 refine C.jn (fun (x33:List ApiRobot)=>[(3,.i act),(4,.p 0 0),(8,.p 1 0),(9,.p 2 0),(10,.ep 4 6 (Int.toNat robot) 0)]) (fun x33=>[(0,.box (Q2 s_1)),(1,.box [.i 0,vN,vN,vN,vN,vN]),(2,.box [.i x5.Tick,.o 3,.o 4,.o 5,.o 6,.o 7]),(3,.val (.os 1 eI x5.Shelves)),(4,.val (.os 6 Q4 x33)),(5,.val (.os 1 eI x5.People)),(6,.val (.os 1 eI x5.Dead)),(7,.val (.os 2 Q3 x5.Stuck))]) 8 g (fun x33 g=>?_) fun J34 g j34=>?_
 refine C.bnx (C.xt (U.ps 1 T rfl (U.k (Zr act _ g) en99 (fun x48 g=>?_))))
 refine U.pd 5 T (C.xs (C.ss ?_))
 refine U.pd 2 T (C.nx ?_)
 refine C.ite rfl g (fun b51 g=>?_) fun b51 g=>?_
 refine C.ss (U.ps 1 T rfl (U.st T ?_))
 refine U.done (C.nx (C.ret (C.rt ?_)))
 exact C.g1 (sqR 3 5) T o ⟨({Tick:=x5.Tick,Shelves:=x5.Shelves,Robots:=x33,People:=x5.People,Dead:=x5.Dead,Stuck:=x5.Stuck:ApiState}),g,rfl,rfl,rfl⟩
 refine C.skip (C.xs (C.seq (D.bq mix 9999 [0,4] [] (fun hQ hS ws M'=>?_))))
 refine D.pq 5 (zl [0,1,2,3,4]) T ?_
 obtain⟨x56,y56,g⟩:=g
 refine D.q 5 [] hQ hS rfl (.none rfl) rfl rfl (by exact Rd.le T rfl rfl rfl (Qj y56).2.2 rfl rfl rfl) rfl (by kernel_rfl) ?_
 refine D.pq 1 [(6,[])] T ?_
 refine D.k 7 (Zy s_1.Floor x56.Cell x48.1 _ g) en24 fun x57 g=>?_
 refine D.pq 5 (zl [8,9,10,11,12]) T ?_
 refine D.done (by kernel_rfl) ?_
 refine C.xt (U.pd 1 T (C.nx ?_))
 refine C.jn (fun (x60:List Int×List ApiRobot)=>[(8,.p 0 0),(9,.p 1 0)]) (fun x60=>[(0,.box [.i 0,vN,vN,vN,vN,vN]),(1,.box [.i x5.Tick,.o 2,.o 3,.o 4,.o 5,.o 6]),(2,.val (.os 1 eI x60.1)),(3,.val (.os 6 Q4 x60.2)),(4,.val (.os 1 eI x5.People)),(5,.val (.os 1 eI x5.Dead)),(6,.val (.os 2 Q3 x5.Stuck))]) 7 g (fun x60 g=>?_) fun J61 g j61=>?_
 refine C.xt (U.ps 1 T rfl (U.st T ?_))
 refine U.done (C.nx (C.ret ?_))
 exact C.g1 (sqR 2 5) T o ⟨({Tick:=x5.Tick,Shelves:=x60.1,Robots:=x60.2,People:=x5.People,Dead:=x5.Dead,Stuck:=x5.Stuck:ApiState}),g,rfl,rfl,rfl⟩
 refine C.ite rfl g (fun b62 g=>?_) fun b62 g=>?_
 refine C.ss (U.ps 5 T rfl (U.k (Q4A s_1 x57.1 _ g) QbQ (fun x65 g=>?_)))
 refine U.ps 3 T rfl (U.e1 rfl (.none rfl) (by exact Eff1.se T (z':=({Cell:=x57.1,Load:=x56.Load,Charge:=x56.Charge,Rest:=x56.Rest,Mute:=x56.Mute,Dead:=x56.Dead:ApiRobot})) rfl rfl rfl (Qj y56).2.2 rfl rfl rfl rfl rfl rfl rfl rfl (fun _=>rfl) rfl) ?_)
 refine U.ps 2 T rfl ?_
 refine U.e1 rfl (.none rfl) (by exact Eff1.se T (z':=({Cell:=({Cell:=x57.1,Load:=x56.Load,Charge:=x56.Charge,Rest:=x56.Rest,Mute:=x56.Mute,Dead:=x56.Dead:ApiRobot}).Cell,Load:=({Cell:=x57.1,Load:=x56.Load,Charge:=x56.Charge,Rest:=x56.Rest,Mute:=x56.Mute,Dead:=x56.Dead:ApiRobot}).Load,Charge:=({Cell:=x57.1,Load:=x56.Load,Charge:=x56.Charge,Rest:=x56.Rest,Mute:=x56.Mute,Dead:=x56.Dead:ApiRobot}).Charge,Rest:=w64 (x65-1),Mute:=({Cell:=x57.1,Load:=x56.Load,Charge:=x56.Charge,Rest:=x56.Rest,Mute:=x56.Mute,Dead:=x56.Dead:ApiRobot}).Mute,Dead:=({Cell:=x57.1,Load:=x56.Load,Charge:=x56.Charge,Rest:=x56.Rest,Mute:=x56.Mute,Dead:=x56.Dead:ApiRobot}).Dead:ApiRobot})) rfl rfl rfl (Y1 (Qj y56).2.2) rfl rfl rfl rfl rfl rfl rfl rfl (fun _=>rfl) rfl) ?_
 refine U.done (C.xt (U.ps 3 T rfl (U.r rfl (.none rfl) rfl rfl (by exact Rd.le T rfl rfl rfl (Y1 (Y1 (Qj y56).2.2)) rfl rfl rfl) ?_)))
 refine U.pd 1 T (C.nx ?_)
 refine C.jn (fun (x68:List Int)=>[(8,.p 0 0),(9,.p 1 0)]) (fun x68=>[(0,.box [.i 0,vN,vN,vN,vN,vN]),(1,.box [.i x5.Tick,.o 2,.o 3,.o 4,.o 5,.o 6]),(2,.val (.os 1 eI x68)),(3,.val (.os 6 Q4 ((x33.set (Int.toNat robot) ({Cell:=x57.1,Load:=x56.Load,Charge:=x56.Charge,Rest:=x56.Rest,Mute:=x56.Mute,Dead:=x56.Dead:ApiRobot})).set (Int.toNat robot) ({Cell:=({Cell:=x57.1,Load:=x56.Load,Charge:=x56.Charge,Rest:=x56.Rest,Mute:=x56.Mute,Dead:=x56.Dead:ApiRobot}).Cell,Load:=({Cell:=x57.1,Load:=x56.Load,Charge:=x56.Charge,Rest:=x56.Rest,Mute:=x56.Mute,Dead:=x56.Dead:ApiRobot}).Load,Charge:=({Cell:=x57.1,Load:=x56.Load,Charge:=x56.Charge,Rest:=x56.Rest,Mute:=x56.Mute,Dead:=x56.Dead:ApiRobot}).Charge,Rest:=w64 (x65-1),Mute:=({Cell:=x57.1,Load:=x56.Load,Charge:=x56.Charge,Rest:=x56.Rest,Mute:=x56.Mute,Dead:=x56.Dead:ApiRobot}).Mute,Dead:=({Cell:=x57.1,Load:=x56.Load,Charge:=x56.Charge,Rest:=x56.Rest,Mute:=x56.Mute,Dead:=x56.Dead:ApiRobot}).Dead:ApiRobot})))),(4,.val (.os 1 eI x5.People)),(5,.val (.os 1 eI x5.Dead)),(6,.val (.os 2 Q3 x5.Stuck))]) 7 g (fun x68 g=>?_) fun J69 g j69=>?_
 exact St.wa (idR 7) (j61 _ g)
 refine C.ite rfl g (fun b70 g=>?_) fun b70 g=>?_
 refine D.bq mix 8 [2,4] [] (fun hQ hS ws M'=>?_)
 refine D.pq 5 (zl [0,1,2,3,4]) T ?_
 refine D.q 5 [] hQ hS rfl (.none rfl) rfl rfl (by exact Rd.le T rfl rfl rfl (Y1 (Y1 (Qj y56).2.2)) rfl rfl rfl) rfl (by kernel_rfl) ?_
 refine D.pq 1 [(6,[])] T ?_
 obtain⟨x73,y73,g⟩:=g
 refine D.q 7 [] hQ hS rfl (.none rfl) rfl rfl (by exact Rd.io T rfl rfl rfl rfl rfl rfl rfl y73) rfl (by kernel_rfl) ?_
 refine D.ze1 rfl (.none rfl) (by exact Eff1.se T (z':=x57.1) rfl rfl rfl (Qj y73).2.2 rfl rfl rfl rfl rfl rfl rfl rfl (fun _=>rfl) rfl) (by kernel_rfl) (by kernel_rfl) ?_
 exact St.wa (sqR 1 7) (j69 _ g)
 refine C.skip ?_
 exact St.wa (sqR 1 7) (j69 _ g)
 refine C.skip ?_
 exact St.wa (sqR 1 7) (j61 _ g)
 refine C.ite rfl g (fun b35 g=>?_) fun b35 g=>?_
 refine D.bq mix 10 [0,1,5] [] (fun hQ hS ws M'=>?_)
 refine D.pq 6 (zl [0,1,2,3,4,5]) T ?_
 refine D.q 6 [] hQ hS rfl (.none rfl) rfl rfl (by exact Rd.le T rfl rfl rfl (Y1 (Qj y16).2.2) rfl rfl rfl) rfl (by kernel_rfl) ?_
 refine D.k 7 (Q3m s_1 st (({Cell:=x16.Cell,Load:=x16.Load,Charge:=x22,Rest:=x16.Rest,Mute:=x16.Mute,Dead:=x16.Dead:ApiRobot}).Cell) _ g) Q9S fun x38 g=>?_
 refine D.pq 2 [(8,[9]),(9,[])] T ?_
 refine D.ze1 rfl (.none rfl) (by exact Eff1.se T (z':=({Cell:=({Cell:=x16.Cell,Load:=x16.Load,Charge:=x22,Rest:=x16.Rest,Mute:=x16.Mute,Dead:=x16.Dead:ApiRobot}).Cell,Load:=x38,Charge:=({Cell:=x16.Cell,Load:=x16.Load,Charge:=x22,Rest:=x16.Rest,Mute:=x16.Mute,Dead:=x16.Dead:ApiRobot}).Charge,Rest:=({Cell:=x16.Cell,Load:=x16.Load,Charge:=x22,Rest:=x16.Rest,Mute:=x16.Mute,Dead:=x16.Dead:ApiRobot}).Rest,Mute:=({Cell:=x16.Cell,Load:=x16.Load,Charge:=x22,Rest:=x16.Rest,Mute:=x16.Mute,Dead:=x16.Dead:ApiRobot}).Mute,Dead:=({Cell:=x16.Cell,Load:=x16.Load,Charge:=x22,Rest:=x16.Rest,Mute:=x16.Mute,Dead:=x16.Dead:ApiRobot}).Dead:ApiRobot})) rfl rfl rfl (Y1 (Qj y16).2.2) rfl rfl rfl rfl rfl rfl rfl rfl (fun _=>rfl) rfl) (by kernel_rfl) (by kernel_rfl) ?_
 exact St.wa [some 0,some 2,some 3,some 4,some 5,some 6,some 7,some 8] (j34 _ g)
 refine C.ss (U.pd 2 T (C.nx ?_))
 refine C.jn (fun (x41:List ApiRobot)=>[(3,.i act),(4,.p 0 0),(8,.p 1 0),(9,.p 2 0),(10,.ep 4 6 (Int.toNat robot) 0)]) (fun x41=>[(0,.box (Q2 s_1)),(1,.box [.i 0,vN,vN,vN,vN,vN]),(2,.box [.i x5.Tick,.o 3,.o 4,.o 5,.o 6,.o 7]),(3,.val (.os 1 eI x5.Shelves)),(4,.val (.os 6 Q4 x41)),(5,.val (.os 1 eI x5.People)),(6,.val (.os 1 eI x5.Dead)),(7,.val (.os 2 Q3 x5.Stuck))]) 8 g (fun x41 g=>?_) fun J42 g j42=>?_
 exact St.wa (idR 8) (j34 _ g)
 refine C.ite rfl g (fun b43 g=>?_) fun b43 g=>?_
 refine U.start (U.ps 3 T rfl ?_)
 refine U.e1 rfl (.none rfl) (by exact Eff1.se T (z':=({Cell:=({Cell:=x16.Cell,Load:=x16.Load,Charge:=x22,Rest:=x16.Rest,Mute:=x16.Mute,Dead:=x16.Dead:ApiRobot}).Cell,Load:=(-1),Charge:=({Cell:=x16.Cell,Load:=x16.Load,Charge:=x22,Rest:=x16.Rest,Mute:=x16.Mute,Dead:=x16.Dead:ApiRobot}).Charge,Rest:=({Cell:=x16.Cell,Load:=x16.Load,Charge:=x22,Rest:=x16.Rest,Mute:=x16.Mute,Dead:=x16.Dead:ApiRobot}).Rest,Mute:=({Cell:=x16.Cell,Load:=x16.Load,Charge:=x22,Rest:=x16.Rest,Mute:=x16.Mute,Dead:=x16.Dead:ApiRobot}).Mute,Dead:=({Cell:=x16.Cell,Load:=x16.Load,Charge:=x22,Rest:=x16.Rest,Mute:=x16.Mute,Dead:=x16.Dead:ApiRobot}).Dead:ApiRobot})) rfl rfl rfl (Y1 (Qj y16).2.2) rfl rfl rfl rfl rfl rfl rfl rfl (fun _=>rfl) rfl) ?_
 refine U.done ?_
 exact St.wa [some 0,some 2,some 3,some 4,some 5,some 6,some 7,some 8] (j42 _ g)
 refine C.skip ?_
 exact St.wa [some 0,some 2,some 3,some 4,some 5,some 6,some 7,some 8] (j42 _ g)
 refine C.ite rfl g (fun b24 g=>?_) fun b24 g=>?_
 refine U.start (U.pd 1 T ?_)
 exact St.wa (idR 9) (j23 _ g)
 refine C.skip ?_
 exact St.wa (idR 9) (j23 _ g)
 refine U.start (U.ps 3 T rfl ?_)
 refine g.cs (fun b8 g=>?_) fun b8 g=>?_
 refine U.sk' 5 2 false 21 b8 ?_
 refine U.pk b8 ?_
 refine U.ps 1 T rfl (U.sk' 6 9 false 28 rfl ?_)
 refine U.pk rfl ?_
 refine U.done ?_
 exact St.wa [some 0,some 1,some 2,some 8,some 3,some 4,some 5,some 6,some 7] (j7 _ g)
 refine U.pq 5 2 false 21 b8 T ?_
 refine U.pk' b8 ?_
 refine U.ps 1 T rfl ?_
 refine g.cs (fun b9 g=>?_) fun b9 g=>?_
 refine U.sk' 6 9 false 28 b9 ?_
 refine U.pk b9 ?_
 refine U.done ?_
 exact St.wa [some 0,some 1,some 2,some 8,some 3,some 4,some 5,some 6,some 7] (j7 _ g)
 refine U.pq 3 9 false 28 b9 T ?_
 obtain⟨x10,y10,g⟩:=g
 refine U.r rfl (.tk 9 false 28 b9) rfl rfl (by exact Rd.io T rfl rfl rfl rfl rfl rfl rfl y10) ?_
 refine U.pq 1 9 false 28 b9 T ?_
 refine U.r rfl (.tk 9 false 28 b9) rfl rfl (by exact Rd.le T rfl rfl rfl (Qj y10).2.2 rfl rfl rfl) ?_
 refine U.pk' b9 ?_
 refine U.done ?_
 exact St.wa [some 0,some 1,some 2,some 8,some 3,some 4,some 5,some 6,some 7] (j7 _ g)
theorem Q1l (s_1:ApiSite) (st:ApiState) (acts:List Int) (post:Int→Prop) (g:GM s_1 st acts post):
  Tr Tryz.prog 10 [.agg (Q2 s_1),.agg (Q1 st),.sl 1 eI acts] [] 0 (pI post):=by
 refine Tr.go Tryz.func10 Tryz.ntmps10 fun _ _ _ _ o=>?_
 unfold GM at g
 refine C.ss (U.bx ?_)
 refine U.bx ?_
 refine U.pd 1 T (C.xs (C.block (C.ss ?_)))
 refine U.pd 4 T (C.nx ?_)
 refine C.ite rfl g (fun b5 g=>?_) fun b5 g=>?_
 refine C.ss (U.pd 1 T (C.nx (C.ret (C.brt (C.rt ?_)))))
 exact C.f1 T o (pIi g)
 refine C.ss (U.pd 7 T (C.nx ?_))
 refine C.ite rfl g (fun b10 g=>?_) fun b10 g=>?_
 refine C.ss (U.pd 1 T (C.nx (C.ret (C.brt (C.rt ?_)))))
 exact C.f1 T o (pIi g)
 refine C.skip (C.bnx (C.xs (C.ss (U.pd 3 T (C.nx ?_)))))
 refine C.jn (fun (x15:Unit)=>[(2,.sl 1 eI acts),(3,.p 0 0),(4,.p 1 0)]) (fun x15=>[(0,.box (Q2 s_1)),(1,.box (Q1 st))]) 2 g (fun x15 g=>?_) fun J16 g j16=>?_
 refine C.xs (C.ss (U.ps 4 T rfl (U.k (Q4I s_1.Floor st acts _ g) en28 (fun x37 g=>?_))))
 refine U.k (Q5b x37 _ g) en27 fun x38 g=>?_
 refine U.pd 5 T (C.xt ?_)
 refine U.pd 1 T (C.nx ?_)
 refine C.ite rfl g (fun b41 g=>?_) fun b41 g=>?_
 refine C.ss (U.pd 1 T (C.nx (C.ret (C.rt ?_))))
 exact C.f1 T o (pIi g)
 refine C.skip (C.xs (C.ss (U.pd 3 T (C.nx ?_))))
 refine C.jn (fun (x46:Unit)=>[]) (fun x46=>[]) 0 g (fun x46 g=>?_) fun J47 g j47=>?_
 refine C.xt (U.pd 1 T (C.nx (C.ret ?_)))
 exact C.f1 T o (pIi g)
 refine C.block ?_
 refine St.wk (C.loop (fun (s48:Int×List Int×List ApiRobot×List Int×List Int×List Q0×Int)=>[(3,.p 0 0),(4,.p 1 0),(52,.sl 1 eI acts),(53,.i (acts.length:Int)),(54,.i s48.2.2.2.2.2.2)]) (fun s48=>[(0,.box (Q2 s_1)),(1,.box [.i s48.1,.sl 1 eI s48.2.1,.sl 6 Q4 s48.2.2.1,.sl 1 eI s48.2.2.2.1,.sl 1 eI s48.2.2.2.2.1,.sl 2 Q3 s48.2.2.2.2.2.1])]) g (fun s48 Y49 g=>?_)) (Wk.a (idR 2))
 refine C.ss (U.pd 1 T (C.xs ?_))
 refine C.ite rfl g (fun b52 g=>?_) fun b52 g=>?_
 refine C.skip (C.xs (C.block (C.ss (U.ps 1 T rfl ?_))))
 obtain⟨x55,y55,g⟩:=g
 refine U.ix T y55 ?_
 refine U.pd 3 T (C.xs (C.ss ?_))
 refine U.ps 4 T rfl (U.k (Q0H s_1 ({Tick:=s48.1,Shelves:=s48.2.1,Robots:=s48.2.2.1,People:=s48.2.2.2.1,Dead:=s48.2.2.2.2.1,Stuck:=s48.2.2.2.2.2.1:ApiState}) s48.2.2.2.2.2.2 x55 _ g) en36 (fun x58 g=>?_))
 refine U.pd 1 T (C.xt ?_)
 refine U.pd 2 T (C.nx ?_)
 refine C.ite rfl g (fun b61 g=>?_) fun b61 g=>?_
 refine C.ss (U.pd 2 T (C.nx (C.ret (C.rt (C.brt (C.rt (C.rt (C.brt (C.rt ?_)))))))))
 exact C.f1 T o (pIi g)
 refine C.skip (C.nx (U.start (U.ps 4 T rfl (U.k (Q6t s_1 ({Tick:=s48.1,Shelves:=s48.2.1,Robots:=s48.2.2.1,People:=s48.2.2.2.1,Dead:=s48.2.2.2.2.1,Stuck:=s48.2.2.2.2.2.1:ApiState}) s48.2.2.2.2.2.2 x55 _ g) en37 (fun x66 g=>?_)))))
 refine U.st T ?_
 refine U.done (C.bnx (C.nx (U.start (U.pd 2 T (C.nx ?_)))))
 exact St.wk (C.next g) (Wk.mk' [some 0,some 1] rfl rfl (.eqs rfl) ⟨bX,⟨_,rfl,.box rfl (.cons (.eq rfl) (.cons (.fz rfl rfl rfl (.os fun _=>.cons (.ro rfl) .nil)) (.cons (.fz rfl rfl rfl (.os fun _=>.cons (.ro rfl) (.cons (.ro rfl) (.cons (.ro rfl) (.cons (.ro rfl) (.cons (.ro rfl) (.cons (.ro rfl) .nil))))))) (.cons (.fz rfl rfl rfl (.os fun _=>.cons (.ro rfl) .nil)) (.cons (.fz rfl rfl rfl (.os fun _=>.cons (.ro rfl) .nil)) (.cons (.fz rfl rfl rfl (.os fun _=>.cons (.ro rfl) (.cons (.ro rfl) .nil))) .nil))))))⟩,trivial⟩ rfl)
 refine C.exit (C.ex (C.ex (C.bex ?_)))
 exact St.wk (j47 _ g) (Wk.mk' [] rfl rfl trivial trivial rfl)
 refine C.block (St.wk (C.loop (fun (s17:Int)=>[(2,.sl 1 eI acts),(3,.p 0 0),(4,.p 1 0),(26,.sl 1 eI acts),(27,.i (acts.length:Int)),(28,.i s17)]) (fun s17=>[(0,.box (Q2 s_1)),(1,.box (Q1 st))]) g (fun s17 Y18 g=>?_)) (Wk.a (idR 2)))
 refine C.ss (U.pd 1 T (C.xs ?_))
 refine C.ite rfl g (fun b21 g=>?_) fun b21 g=>?_
 refine C.skip (C.xs (C.block (C.ss (U.ps 1 T rfl ?_))))
 obtain⟨x24,y24,g⟩:=g
 refine U.ix T y24 ?_
 refine U.pd 3 T (C.xt ?_)
 refine U.ps 4 T rfl (U.k (Q0H s_1 st s17 x24 _ g) en36 (fun x27 g=>?_))
 refine U.pd 1 T (C.xt ?_)
 refine U.pd 2 T (C.nx ?_)
 refine C.ite rfl g (fun b30 g=>?_) fun b30 g=>?_
 refine C.ss (U.pd 2 T (C.nx (C.ret (C.brt (C.rt (C.rt (C.brt (C.rt ?_))))))))
 exact C.f1 T o (pIi g)
 refine C.skip (C.bnx (C.nx (U.start (U.pd 2 T (C.nx ?_)))))
 exact St.wk (C.next g) (Wk.a (idR 2))
 refine C.exit (C.ex (C.ex (C.bex ?_)))
 exact St.wa (idR 2) (j16 _ g)
theorem Q24 (st:ApiState) (i:Int) (post:Bool→Prop) (g:Wa st i post):
  Tr Tryz.prog 42 [.agg (Q1 st),.i i] [] 0 (pB post):=by
 refine Tr.go Tryz.func42 Tryz.ntmps42 fun _ _ _ _ o=>?_
 unfold Wa at g
 refine C.ss (U.bx ?_)
 refine U.pd 1 T (C.xs ?_)
 refine C.jn (fun (x3:Bool)=>[(4,.b x3)]) (fun x3=>[]) 0 g (fun x3 g=>?_) fun J4 g j4=>?_
 refine C.nx (C.ret ?_)
 exact C.f1 T o (pBi g)
 refine U.start (U.ps 3 T rfl ?_)
 refine g.cs (fun b5 g=>?_) fun b5 g=>?_
 refine U.pq 5 2 true 7 b5 T ?_
 refine U.pk b5 ?_
 refine U.ps 1 T rfl ?_
 refine g.cs (fun b6 g=>?_) fun b6 g=>?_
 refine U.pq 3 9 true 14 b6 T ?_
 obtain⟨x7,y7,g⟩:=g
 refine U.r rfl (.tk 9 true 14 b6) rfl rfl (by exact Rd.ix T rfl rfl rfl rfl rfl rfl y7) ?_
 refine U.pq 3 9 true 14 b6 T ?_
 refine U.pk b6 ?_
 refine U.pd 1 T ?_
 exact St.wn (j4 _ g)
 refine U.sk' 7 9 true 14 b6 ?_
 refine U.pk' b6 ?_
 refine U.pd 1 T ?_
 exact St.wn (j4 _ g)
 refine U.sk' 5 2 true 7 b5 ?_
 refine U.pk' b5 ?_
 refine U.ps 1 T rfl (U.sk' 7 9 true 14 rfl ?_)
 refine U.pk' rfl ?_
 refine U.pd 1 T ?_
 exact St.wn (j4 _ g)
theorem Zw (f:Q6) (c:Int) (post:Int→Prop) (g:Gw f c post):
  Tr Tryz.prog 43 [.agg (Qd f),.i c] [] 0 (pI post):=by
 refine Tr.go Tryz.func43 Tryz.ntmps43 fun _ _ _ _ o=>?_
 unfold Gw at g
 refine C.ss (U.bx ?_)
 refine U.pd 1 T (C.xs (C.seq ?_))
 refine C.jn (fun (x3:Bool)=>[(1,.i c),(2,.p 0 0),(13,.b x3)]) (fun x3=>[(0,.box (Qd f))]) 1 g (fun x3 g=>?_) fun J4 g j4=>?_
 refine C.nx ?_
 refine C.ite rfl g (fun b6 g=>?_) fun b6 g=>?_
 refine C.ss (U.pd 1 T (C.nx (C.ret (C.rt ?_))))
 exact C.f1 T o (pIi g)
 refine C.skip (C.xt (U.ps 3 T rfl ?_))
 obtain⟨x11,y11,g⟩:=g
 refine U.ix T y11 ?_
 refine U.pd 2 T (C.nx (C.ret ?_))
 exact C.f1 T o (pIi g)
 refine U.start (U.ps 3 T rfl ?_)
 refine g.cs (fun b5 g=>?_) fun b5 g=>?_
 refine U.sk' 5 2 false 7 b5 ?_
 refine U.pk b5 ?_
 refine U.done ?_
 exact St.wa [some 0] (j4 _ g)
 refine U.pq 5 2 false 7 b5 T ?_
 refine U.pk' b5 ?_
 refine U.done ?_
 exact St.wa [some 0] (j4 _ g)
theorem Q4C (s_1:ApiSite) (st:ApiState) (person:Int) (c:Int) (post:Bool→Prop) (g:Wr s_1 st person c post):
  Tr Tryz.prog 45 [.agg (Q2 s_1),.agg (Q1 st),.i person,.i c] [] 0 (pB post):=by
 refine Tr.go Tryz.func45 Tryz.ntmps45 fun _ _ _ _ o=>?_
 unfold Wr at g
 refine C.ss (U.bx ?_)
 refine U.bx ?_
 refine U.pd 1 T (C.xt ?_)
 refine U.ps 3 T rfl (U.k (Zw s_1.Floor c _ g) en43 (fun x5 g=>?_))
 refine U.pd 1 T (C.xs (C.seq ?_))
 refine C.jn (fun (x6:Bool)=>[(2,.i person),(3,.i c),(4,.p 0 0),(5,.p 1 0),(9,.i x5),(21,.b x6)]) (fun x6=>[(0,.box (Q2 s_1)),(1,.box (Q1 st))]) 2 g (fun x6 g=>?_) fun J7 g j7=>?_
 refine C.nx ?_
 refine C.ite rfl g (fun b9 g=>?_) fun b9 g=>?_
 refine C.ss (U.pd 1 T (C.nx (C.ret (C.rt ?_))))
 exact C.f1 T o (pBi g)
 refine C.skip (C.xs (C.ss (U.ps 1 T rfl (U.k (Q3x st _ g) Q9w (fun x14 g=>?_)))))
 refine U.pd 2 T (C.nx ?_)
 refine C.jn (fun (x15:Unit)=>[(2,.i person),(3,.i c),(4,.p 0 0),(5,.p 1 0),(9,.i x5)]) (fun x15=>[(0,.box (Q2 s_1)),(1,.box (Q1 st))]) 2 g (fun x15 g=>?_) fun J16 g j16=>?_
 refine C.xs (C.ss (U.pd 5 T (C.nx ?_)))
 refine C.ite rfl g (fun b37 g=>?_) fun b37 g=>?_
 refine C.seq ?_
 refine C.jn (fun (x38:Bool)=>[(8,.b x38)]) (fun x38=>[]) 0 g (fun x38 g=>?_) fun J39 g j39=>?_
 refine C.nx (C.ret (C.rt ?_))
 exact C.f1 T o (pBi g)
 refine U.start (U.ps 3 T rfl ?_)
 refine g.cs (fun b40 g=>?_) fun b40 g=>?_
 refine U.pq 2 2 true 47 b40 T ?_
 refine U.pk b40 ?_
 refine U.pd 1 T ?_
 exact St.wn (j39 _ g)
 refine U.sk' 2 2 true 47 b40 ?_
 refine U.pk' b40 ?_
 refine U.pd 1 T ?_
 exact St.wn (j39 _ g)
 refine C.skip (C.xs ?_)
 refine C.jn (fun (x41:Bool)=>[(8,.b x41)]) (fun x41=>[]) 0 g (fun x41 g=>?_) fun J42 g j42=>?_
 refine C.nx (C.ret ?_)
 exact C.f1 T o (pBi g)
 refine D.bq mix 9999 [0,1] [] (fun hQ hS ws M'=>?_)
 refine D.pq 3 (zl [0,1,2]) T ?_
 refine g.cs (fun b43 g=>?_) fun b43 g=>?_
 refine D.pt 3 [] 2 true 53 b43 T ?_
 refine D.pt 4 [] 2 true 53 b43 T ?_
 refine D.q 5 [] hQ hS rfl (.tk 2 true 53 b43) rfl rfl (by exact Rd.l T rfl rfl rfl) rfl (by kernel_rfl) ?_
 refine D.pt 6 [] 2 true 53 b43 T ?_
 refine D.pt 7 [] 2 true 53 b43 T ?_
 refine D.kt 8 [] b43 ?_
 refine D.pq 1 [(9,[])] T ?_
 refine g.cs (fun b44 g=>?_) fun b44 g=>?_
 refine D.pt 10 [] 9 true 60 b44 T ?_
 refine D.q 11 [] hQ hS rfl (.tk 9 true 60 b44) rfl rfl (by exact Rd.l T rfl rfl rfl) rfl (by kernel_rfl) ?_
 refine D.pt 12 [] 9 true 60 b44 T ?_
 refine D.q 13 [] hQ hS rfl (.tk 9 true 60 b44) rfl rfl (by exact Rd.l T rfl rfl rfl) rfl (by kernel_rfl) ?_
 refine D.pt 14 [] 9 true 60 b44 T ?_
 obtain⟨x45,y45,g⟩:=g
 refine D.q 15 [] hQ hS rfl (.tk 9 true 60 b44) rfl rfl (by exact Rd.ix T rfl rfl rfl rfl rfl rfl y45) rfl (by kernel_rfl) ?_
 refine D.q 16 [] hQ hS rfl (.tk 9 true 60 b44) rfl rfl (by exact Rd.l T rfl rfl rfl) rfl (by kernel_rfl) ?_
 refine D.pt 17 [] 9 true 60 b44 T ?_
 refine D.k 18 (Q22 s_1.Floor x45 c _ g) Q9y (fun x46 g=>?_) (hw:=.take 9 true 60 _ b44 rfl rfl rfl)
 refine D.kt 19 [] b44 ?_
 refine D.pq 1 [(20,[])] T ?_
 refine D.done (by kernel_rfl) ?_
 exact St.wn (j42 _ g)
 refine D.sz 10 [] 9 true 60 b44 ?_
 refine D.sz 11 [] 9 true 60 b44 ?_
 refine D.sz 12 [] 9 true 60 b44 ?_
 refine D.sz 13 [] 9 true 60 b44 ?_
 refine D.sz 14 [] 9 true 60 b44 ?_
 refine D.sz 15 [] 9 true 60 b44 ?_
 refine D.sz 16 [] 9 true 60 b44 ?_
 refine D.sz 17 [] 9 true 60 b44 ?_
 refine D.sz 18 [] 9 true 60 b44 ?_
 refine D.kf 19 [] b44 ?_
 refine D.pq 1 [(20,[])] T ?_
 refine D.done (by kernel_rfl) ?_
 exact St.wn (j42 _ g)
 refine D.sz 3 [] 2 true 53 b43 ?_
 refine D.sz 4 [] 2 true 53 b43 ?_
 refine D.sz 5 [] 2 true 53 b43 ?_
 refine D.sz 6 [] 2 true 53 b43 ?_
 refine D.sz 7 [] 2 true 53 b43 ?_
 refine D.kf 8 [] b43 ?_
 refine D.pq 1 [(9,[])] T ?_
 refine D.sz 10 [] 9 true 60 rfl ?_
 refine D.sz 11 [] 9 true 60 rfl ?_
 refine D.sz 12 [] 9 true 60 rfl ?_
 refine D.sz 13 [] 9 true 60 rfl ?_
 refine D.sz 14 [] 9 true 60 rfl ?_
 refine D.sz 15 [] 9 true 60 rfl ?_
 refine D.sz 16 [] 9 true 60 rfl ?_
 refine D.sz 17 [] 9 true 60 rfl ?_
 refine D.sz 18 [] 9 true 60 rfl ?_
 refine D.kf 19 [] rfl ?_
 refine D.pq 1 [(20,[])] T ?_
 refine D.done (by kernel_rfl) ?_
 exact St.wn (j42 _ g)
 refine C.block (St.wk (C.loop (fun (s17:Int)=>[(2,.i person),(3,.i c),(4,.p 0 0),(5,.p 1 0),(9,.i x5),(23,.o 2),(24,.i (x14.length:Int)),(25,.i s17)]) (fun s17=>[(0,.box (Q2 s_1)),(1,.box (Q1 st)),(2,.val (.os 1 eI x14))]) g (fun s17 Y18 g=>?_)) (Wk.a (idR 3)))
 refine C.ss (U.pd 1 T (C.xs ?_))
 refine C.ite rfl g (fun b21 g=>?_) fun b21 g=>?_
 refine C.skip (C.xs (C.block (C.ss ?_)))
 obtain⟨x24,y24,g⟩:=g
 refine U.r rfl (.none rfl) rfl rfl (by exact Rd.io T rfl rfl rfl rfl rfl rfl rfl y24) ?_
 refine U.r rfl (.none rfl) rfl rfl (by exact Rd.le T rfl rfl rfl (Qj y24).2.2 rfl rfl rfl) ?_
 refine U.pd 1 T (C.xs ?_)
 refine C.jn (fun (x25:Bool)=>[(2,.i person),(3,.i c),(4,.p 0 0),(5,.p 1 0),(9,.i x5),(23,.o 2),(24,.i (x14.length:Int)),(25,.i s17),(38,.b x25)]) (fun x25=>[(0,.box (Q2 s_1)),(1,.box (Q1 st)),(2,.val (.os 1 eI x14))]) 3 g (fun x25 g=>?_) fun J26 g j26=>?_
 refine C.nx ?_
 refine C.ite rfl g (fun b30 g=>?_) fun b30 g=>?_
 refine C.ss (U.pd 1 T (C.nx (C.ret (C.brt (C.rt (C.rt (C.brt (C.rt ?_))))))))
 exact C.f1 T o (pBi g)
 refine C.skip (C.bnx (C.nx (U.start (U.pd 2 T (C.nx ?_)))))
 exact St.wk (C.next g) (Wk.a (idR 3))
 refine U.start (U.ps 2 T rfl (U.k (YX c _ g) Q7E (fun x27 g=>?_)))
 refine U.ps 2 T rfl ?_
 refine g.cs (fun b28 g=>?_) fun b28 g=>?_
 refine U.sk' 4 4 false 33 b28 ?_
 refine U.pk b28 ?_
 refine U.done ?_
 exact St.wa (idR 3) (j26 _ g)
 refine U.pq 2 4 false 33 b28 T ?_
 refine U.k (Yr c _ g) Q7G (fun x29 g=>?_) (hw:=.take 4 false 33 _ b28 rfl rfl rfl)
 refine U.pq 1 4 false 33 b28 T ?_
 refine U.pk' b28 ?_
 refine U.done ?_
 exact St.wa (idR 3) (j26 _ g)
 refine C.exit (C.ex (C.ex (C.bex ?_)))
 exact St.wa (idR 2) (j16 _ g)
 refine U.start (U.ps 3 T rfl ?_)
 refine g.cs (fun b8 g=>?_) fun b8 g=>?_
 refine U.pq 2 2 true 18 b8 T ?_
 refine U.pk b8 ?_
 refine U.done ?_
 exact St.wa (idR 2) (j7 _ g)
 refine U.sk' 2 2 true 18 b8 ?_
 refine U.pk' b8 ?_
 refine U.done ?_
 exact St.wa (idR 2) (j7 _ g)
theorem WK (s_1:ApiSite) (st:ApiState) (f:Qk) (post:Int→Prop) (g:KW s_1 st f post):
  Tr Tryz.prog 12 [.agg (Q2 s_1),.agg (Q1 st),.agg (Ks f)] [] 0 (pI post):=by
 refine Tr.go Tryz.func12 Tryz.ntmps12 fun _ _ _ _ o=>?_
 unfold KW at g
 refine C.ss (U.bx ?_)
 refine U.bx ?_
 refine U.bx ?_
 refine U.pd 1 T (C.xt ?_)
 refine U.pd 1 T (C.xs ?_)
 refine C.jn (fun (x5:Bool)=>[(3,.p 0 0),(4,.p 1 0),(5,.p 2 0),(7,.b false),(8,.b x5)]) (fun x5=>[(0,.box (Q2 s_1)),(1,.box (Q1 st)),(2,.box (Ks f))]) 3 g (fun x5 g=>?_) fun J6 g j6=>?_
 refine C.xs (C.ss (U.pd 2 T (C.nx (C.block (C.ss ?_)))))
 refine U.pd 2 T (C.nx ?_)
 refine C.jn (fun (x12:Bool)=>[(7,.b x12)]) (fun x12=>[]) 0 g (fun x12 g=>?_) fun J13 g j13=>?_
 refine C.bnx (C.xs (C.ss (U.pd 2 T (C.nx ?_))))
 refine C.ite rfl g (fun b63 g=>?_) fun b63 g=>?_
 refine C.ss (U.pd 1 T (C.nx (C.ret (C.rt ?_))))
 exact C.f1 T o (pIi g)
 refine C.skip (C.xt (U.pd 1 T (C.nx (C.ret ?_))))
 exact C.f1 T o (pIi g)
 refine C.ite rfl g (fun b14 g=>?_) fun b14 g=>?_
 refine U.start (U.pd 1 T ?_)
 exact St.wn (j13 _ g)
 refine C.ss (U.pd 2 T (C.nx ?_))
 refine C.jn (fun (x19:Bool)=>[(7,.b x19)]) (fun x19=>[]) 0 g (fun x19 g=>?_) fun J20 g j20=>?_
 exact St.wn (j13 _ g)
 refine C.ite rfl g (fun b21 g=>?_) fun b21 g=>?_
 refine U.start (U.ps 3 T rfl (U.k (Q24 st f.A _ g) en42 (fun x24 g=>?_)))
 refine U.pd 1 T ?_
 exact St.wn (j20 _ g)
 refine C.ss (U.pd 2 T (C.nx ?_))
 refine C.jn (fun (x27:Bool)=>[(7,.b x27)]) (fun x27=>[]) 0 g (fun x27 g=>?_) fun J28 g j28=>?_
 exact St.wn (j20 _ g)
 refine C.ite rfl g (fun b29 g=>?_) fun b29 g=>?_
 refine C.jn (fun (x30:Bool)=>[(7,.b x30)]) (fun x30=>[]) 0 g (fun x30 g=>?_) fun J31 g j31=>?_
 exact St.wn (j28 _ g)
 refine U.start (U.ps 4 T rfl (U.k (Zw s_1.Floor f.A _ g) en43 (fun x32 g=>?_)))
 refine U.ps 2 T rfl ?_
 refine g.cs (fun b33 g=>?_) fun b33 g=>?_
 refine U.pq 4 6 true 35 b33 T ?_
 refine U.k (K7 st.Dead f.A _ g) en44 (fun x34 g=>?_) (hw:=.take 6 true 35 _ b33 rfl rfl rfl)
 refine U.pq 1 6 true 35 b33 T ?_
 refine U.pk b33 ?_
 refine U.pd 1 T ?_
 exact St.wn (j31 _ g)
 refine U.sk' 6 6 true 35 b33 ?_
 refine U.pk' b33 ?_
 refine U.pd 1 T ?_
 exact St.wn (j31 _ g)
 refine C.ss (U.pd 2 T (C.nx ?_))
 refine C.jn (fun (x37:Bool)=>[(7,.b x37)]) (fun x37=>[]) 0 g (fun x37 g=>?_) fun J38 g j38=>?_
 exact St.wn (j28 _ g)
 refine C.ite rfl g (fun b39 g=>?_) fun b39 g=>?_
 refine C.jn (fun (x40:Bool)=>[(7,.b x40)]) (fun x40=>[]) 0 g (fun x40 g=>?_) fun J41 g j41=>?_
 exact St.wn (j38 _ g)
 refine U.start (U.ps 3 T rfl (U.k (Q24 st f.A _ g) en42 (fun x42 g=>?_)))
 refine U.ps 1 T rfl ?_
 refine g.cs (fun b43 g=>?_) fun b43 g=>?_
 refine U.pq 1 4 true 49 b43 T ?_
 refine U.pk b43 ?_
 refine U.pd 1 T ?_
 exact St.wn (j41 _ g)
 refine U.sk' 1 4 true 49 b43 ?_
 refine U.pk' b43 ?_
 refine U.pd 1 T ?_
 exact St.wn (j41 _ g)
 refine C.ss (U.pd 2 T (C.nx ?_))
 refine C.jn (fun (x46:Bool)=>[(7,.b x46)]) (fun x46=>[]) 0 g (fun x46 g=>?_) fun J47 g j47=>?_
 exact St.wn (j38 _ g)
 refine C.ite rfl g (fun b48 g=>?_) fun b48 g=>?_
 refine C.jn (fun (x49:Bool)=>[(7,.b x49)]) (fun x49=>[]) 0 g (fun x49 g=>?_) fun J50 g j50=>?_
 exact St.wn (j47 _ g)
 refine U.start (U.ps 4 T rfl (U.k (Zw s_1.Floor f.A _ g) en43 (fun x51 g=>?_)))
 refine U.ps 2 T rfl ?_
 refine g.cs (fun b52 g=>?_) fun b52 g=>?_
 refine U.pq 1 6 true 60 b52 T ?_
 refine U.pk b52 ?_
 refine U.pd 1 T ?_
 exact St.wn (j50 _ g)
 refine U.sk' 1 6 true 60 b52 ?_
 refine U.pk' b52 ?_
 refine U.pd 1 T ?_
 exact St.wn (j50 _ g)
 refine C.ss (U.pd 2 T (C.nx ?_))
 refine C.jn (fun (x55:Bool)=>[(7,.b x55)]) (fun x55=>[]) 0 g (fun x55 g=>?_) fun J56 g j56=>?_
 exact St.wn (j47 _ g)
 refine C.ite rfl g (fun b57 g=>?_) fun b57 g=>?_
 refine U.start (U.ps 6 T rfl (U.k (Q4C s_1 st f.A f.N _ g) en45 (fun x60 g=>?_)))
 refine U.pd 1 T ?_
 exact St.wn (j56 _ g)
 refine C.skip ?_
 exact St.wn (j56 _ g)
 refine U.start (U.ps 4 T rfl ?_)
 refine g.cs (fun b7 g=>?_) fun b7 g=>?_
 refine U.pq 3 3 true 12 b7 T ?_
 refine U.pk b7 ?_
 refine U.pd 1 T ?_
 exact St.wa (idR 3) (j6 _ g)
 refine U.sk' 3 3 true 12 b7 ?_
 refine U.pk' b7 ?_
 refine U.pd 1 T ?_
 exact St.wa (idR 3) (j6 _ g)
theorem Q2p (x_1:Q0) (c0:Int) (post:Bool→Prop) (g:Gv x_1 c0 post):
  Tr Tryz.prog 130 [.agg [.i x_1.Cell,.i x_1.Left],.rp [.i c0]] [] 0 (pB post):=by
 refine Tr.go Tryz.func130 Tryz.ntmps130 fun _ _ _ _ o=>?_
 unfold Gv at g
 refine C.ss (U.bx ?_)
 refine U.pd 1 T (C.xt ?_)
 refine U.pd 5 T (C.nx (C.ret ?_))
 exact C.f1 T o (pBi g)
theorem X4 (s_1:List Q0) (f_c0:Int) (post:Int→Prop) (g:Qq s_1 f_c0 post):
  Tr Tryz.prog 129 [.sl 2 Q3 s_1,.fn (.func 130) [] [.rp [.i f_c0]]] [] 0 (pI post):=by
 refine Tr.go Tryz.func129 Tryz.ntmps129 fun _ _ _ _ o=>?_
 unfold Qq at g
 refine C.ss (U.pd 1 T (C.xs (C.ss ?_)))
 refine U.pd 3 T (C.nx ?_)
 refine C.jn (fun (x5:Unit)=>[]) (fun x5=>[]) 0 g (fun x5 g=>?_) fun J6 g j6=>?_
 refine C.xt (U.pd 1 T (C.nx (C.ret ?_)))
 exact C.f1 T o (pIi g)
 refine C.block (St.wk (C.loop (fun (s7:Int)=>[(0,.sl 2 Q3 s_1),(1,.fn (.func 130) [] [.rp [.i f_c0]]),(7,.i (s_1.length:Int)),(8,.i s7)]) (fun s7=>[]) g (fun s7 Y8 g=>?_)) (Wk.e))
 refine C.ss (U.pd 1 T (C.xs ?_))
 refine C.ite rfl g (fun b11 g=>?_) fun b11 g=>?_
 refine C.skip (C.xs (C.block (C.ss (U.pd 2 T (C.xt ?_)))))
 refine U.ps 3 T rfl ?_
 obtain⟨x16,y16,g⟩:=g
 refine U.ix T y16 ?_
 refine U.ps 1 T rfl (U.k (Q2p x16 f_c0 _ g) Qby (fun x17 g=>?_))
 refine U.done (C.nx ?_)
 refine C.ite rfl g (fun b18 g=>?_) fun b18 g=>?_
 refine C.ss (U.pd 2 T (C.nx (C.ret (C.brt (C.rt (C.rt (C.brt (C.rt ?_))))))))
 exact C.f1 T o (pIi g)
 refine C.skip (C.bnx (C.nx (U.start (U.pd 2 T (C.nx ?_)))))
 exact St.wk (C.next g) (Wk.e)
 refine C.exit (C.ex (C.ex (C.bex ?_)))
 exact St.wk (j6 _ g) (Wk.mk' [] rfl rfl trivial trivial rfl)
theorem QaJ (w:World) {b off lb cb vb voff m vc:Nat} {cc cv:Array Value} {Tb Tv:TypeId} (hwb:w.heap[b]?=some (.cells cc Tb (0,0))) (hwv:w.heap[vb]?=some (.cells cv Tv (0,0))) (hne:vb≠b) (b0:cc.size≠0):
  (callFunc 194 #[.slice (some ⟨vb,voff,none⟩) m vc,.slice (some ⟨b,off,none⟩) lb cb]).run Tryz.prog w=.ok (.value (.bool false)) w:=by
 rw [run_callFunc_extern Tryz.func194 (by kernel_rfl) (by kernel_rfl) (by kernel_rfl) (e:=Extern.SlicesOverlaps.overlaps #[32,32] #[4]) (by kernel_rfl),
  Lib.run_overlaps_apart w 32 4 77 Tryz.underlying32 2 Tryz.sizeOf77 ⟨vb,voff,none⟩ ⟨b,off,none⟩ m vc lb cb hne Tv Tb cv.size cc.size (by simp [World.shape?,hwv]) (by simp [World.shape?,hwb]) b0 (by simp [World.frozen?,hwv]) (by simp [World.frozen?,hwv])]
 rfl
set_option maxHeartbeats 4000000 in
theorem Qay (w:World) (b off n c i vb voff m vc:Nat) (cb cv:Array Value) (Tb Tv:TypeId) (hwb:w.heap[b]?=some (.cells cb Tb (0,0))) (hwv:w.heap[vb]?=some (.cells cv Tv (0,0))) (hne:vb≠b) (hi:i<n) (g:0<m) (hmv:m≤vc) (hcb:off+c*2≤cb.size) (hcv:voff+vc*2≤cv.size)
  (ho1:∀q,q<n*2→(cb.getD (off+q) undef).oneCell'=true) (ho2:∀q,q<m*2→(cv.getD (voff+q) undef).oneCell'=true) (hroom:n+m≤c) (hnm:n+m≤1099511627776):
  Calls Tryz.prog 131 #[.slice (some ⟨b,off,none⟩) n c,.int .i64 i,.slice (some ⟨vb,voff,none⟩) m vc] w fun e w'=>e=.returned (.slice (some ⟨b,off,none⟩) (n+m) c) ∧
   w'=(w.drew.setRow b (spl cb (off+(i+m)*2) cb (off+i*2) ((n-i)*2))).setRow b (spl (spl cb (off+(i+m)*2) cb (off+i*2) ((n-i)*2)) (off+i*2) cv voff (m*2)):=by
 have u0:=run_underlying Tryz.underlying0;have u3:=run_underlying Tryz.underlying3;have u4:=run_underlying Tryz.underlying4;have uS:=run_underlying Tryz.underlying32
 have zE:=Tryz.sizeOf77
 have hz1:¬((m:Int)=0):=by omega
 have hz2:¬((i:Int)=(n:Int)):=by omega
 have hz3:¬((c:Int)<(n:Int)+(m:Int)):=by omega
 have hw1:IntKind.i64.wrap ((i:Int)+(m:Int))=(i:Int)+(m:Int):=IntWalk.i64_in _ (by omega)
 have hw2:IntKind.i64.wrap ((n:Int)+(m:Int))=(n:Int)+(m:Int):=IntWalk.i64_in _ (by omega)
 have b1:(0:Int)≤(i:Int)+(m:Int):=by omega
 have hin:i≤n:=by omega
 have htn:((i:Int)+(m:Int)).toNat=i+m:=by omega
 have b2:¬(c=i+m):=by omega
 have b3:(i:Int)≤(n:Int)+(m:Int):=by omega
 have b4:¬(c=i):=by omega
 have hN1:(i+m)*2+(n-i)*2=(n+m)*2:=by rw [←Nat.add_mul];congr 1;omega
 have hN2:i*2+(n-i)*2=n*2:=by rw [←Nat.add_mul];congr 1;omega
 have hN3:(n+m)*2≤c*2:=Nat.mul_le_mul_right _ hroom
 have hN4:n*2≤c*2:=Nat.mul_le_mul_right _ (by omega)
 have hN5:i*2+m*2=(i+m)*2:=(Nat.add_mul _ _ _).symm
 have hN6:(i+m)*2≤c*2:=Nat.mul_le_mul_right _ (by omega)
 have hN7:m*2≤vc*2:=Nat.mul_le_mul_right _ hmv
 have hsz0:cb.size≠0:=by
  have:1*2≤c*2:=Nat.mul_le_mul_right _ (by omega)
  omega
 have hov:∀lb cb2,(callFunc 194 #[.slice (some ⟨vb,voff,none⟩) m vc,.slice (some ⟨b,off+(i+m)*2,none⟩) lb cb2]).run Tryz.prog w=.ok (.value (.bool false)) w:=fun lb cb2=>QaJ w hwb hwv hne hsz0
 have hcp1:∀ty dc sc,(Builtin.copy_ #[32,32] ty #[.slice (some ⟨b,off+(i+m)*2,none⟩) (n+m-(i+m)) dc,.slice (some ⟨b,off+i*2,none⟩) (n+m-i) sc]).run Tryz.prog w.drew=.ok (goInt (n-i:Nat)) (w.drew.setRow b (spl cb (off+(i+m)*2) cb (off+i*2) ((n-i)*2))):=fun ty dc sc=>
  Z3 (K:=2) Tryz.underlying32 zE w.drew (k:=n-i) hwb hwb (by simp only [Nat.min_def];split <;> omega) (by omega) (by omega) (fun q hq=>by rw [Nat.add_assoc];exact ho1 _ (by omega)) ty
 have hW1:(w.drew.setRow b (spl cb (off+(i+m)*2) cb (off+i*2) ((n-i)*2))).heap[b]?=some (.cells (spl cb (off+(i+m)*2) cb (off+i*2) ((n-i)*2)) Tb (0,0)):=setRow_heap w.drew b cb _ Tb (0,0) hwb
 have hW2:(w.drew.setRow b (spl cb (off+(i+m)*2) cb (off+i*2) ((n-i)*2))).heap[vb]?=some (.cells cv Tv (0,0)):=by rw [setRow_other w.drew b vb _ hne];exact hwv
 generalize hc1:spl cb (off+(i+m)*2) cb (off+i*2) ((n-i)*2)=c1 at *
 have hc1s:c1.size=cb.size:=by rw [←hc1];exact Q03 (by omega) (by omega)
 have hcp2:∀ty dc,(Builtin.copy_ #[32,32] ty #[.slice (some ⟨b,off+i*2,none⟩) (n+m-i) dc,.slice (some ⟨vb,voff,none⟩) m vc]).run Tryz.prog (w.drew.setRow b c1)=.ok (goInt m) ((w.drew.setRow b c1).setRow b (spl c1 (off+i*2) cv voff (m*2))):=fun ty dc=>
  Z3 (K:=2) Tryz.underlying32 zE (w.drew.setRow b c1) (k:=m) hW1 hW2 (by simp only [Nat.min_def];split <;> omega) (by omega) (by omega) ho2 ty
 clear hc1 hN1 hN2 hN3 hN4 hN5 hN6 hN7 ho1 ho2 hW1 hW2
 go_enter Tryz.func131,Tryz.ntmps131
 go_wp2_with (simp only [hov])
 go_region_law (refine Q6v rfl _ _ 32 32 rfl _ _ (by simp [Act.eval,Act.put]) (by simp [Act.eval,Act.put]) (hcp1 _ _ _) ?_)
 go_wp2_with (at_builtin;refine Q6K _ rfl _ _ 32 32 rfl _ _ rfl rfl (hcp2 _ _) ?_)
 go_ret
 exact⟨rfl,rfl⟩
set_option maxHeartbeats 4000000 in
theorem Q9O (w:World) (b off n c i vb voff m vc:Nat) (cb cv:Array Value) (Tb Tv:TypeId) (hwb:w.heap[b]?=some (.cells cb Tb (0,0))) (hwv:w.heap[vb]?=some (.cells cv Tv (0,0))) (hi:i<n) (hnc:n≤c) (g:0<m) (hmv:m≤vc) (hcb:off+c*2≤cb.size) (hcv:voff+vc*2≤cv.size)
  (ho1:∀q,q<n*2→(cb.getD (off+q) undef).oneCell'=true) (ho2:∀q,q<m*2→(cv.getD (voff+q) undef).oneCell'=true) (hroom:c<n+m) (hnm:n+m≤1099511627776):
  ∃(G:Nat) (row:Array Value),n+m≤G∧row.size=G*2∧(∀q,q<i*2→row.getD q undef=cb.getD (off+q) undef) ∧
  Calls Tryz.prog 131 #[.slice (some ⟨b,off,none⟩) n c,.int .i64 i,.slice (some ⟨vb,voff,none⟩) m vc] w fun e w'=>e=.returned (.slice (some ⟨w.heap.size,0,none⟩) (n+m) G) ∧
   w'.heap=(((w.alloc (.cells row 77)).setRow w.heap.size (spl row (i*2) cv voff (m*2))).setRow w.heap.size (spl (spl row (i*2) cv voff (m*2)) ((i+m)*2) cb (off+i*2) ((n-i)*2))).heap∧w'.os=w.os∧w'.tape=w.tape∧w'.output=w.output∧w.drawn≤w'.drawn:=by
 have u0:=run_underlying Tryz.underlying0;have u3:=run_underlying Tryz.underlying3;have u4:=run_underlying Tryz.underlying4;have uS:=run_underlying Tryz.underlying32
 have zE:=Tryz.sizeOf77
 obtain⟨_,inf,z,hinf,hsz,hby,hz0,hzc,_,hzl,_⟩:=Q8p
 have hzs:z.cells.size=2:=by rw [←Array.length_toList,hzc];exact hzl
 have hby2:inf.bytes≤128:=by rw [hby];decide
 have hsz2:inf.size=2:=hsz
 have hkk:(n:Int)+(m:Int)-(i:Int)=((n+m-i:Nat):Int):=by omega
 have hik:i+(n+m-i)=n+m:=by omega
 have hN3:(n+m-i)*2=(n+m)*2-i*2:=Nat.sub_mul _ _ _
 have hN4:n*2≤c*2:=Nat.mul_le_mul_right _ hnc
 have hN2:i*2+(n-i)*2=n*2:=by rw [←Nat.add_mul];congr 1;omega
 have hN1:(i+m)*2+(n-i)*2=(n+m)*2:=by rw [←Nat.add_mul];congr 1;omega
 have hN5:i*2+m*2=(i+m)*2:=(Nat.add_mul _ _ _).symm
 have hN7:m*2≤vc*2:=Nat.mul_le_mul_right _ hmv
 have hN8:(n+m)*inf.bytes≤1099511627776*128:=Nat.mul_le_mul hnm hby2
 have hN9:(n+m-i)*inf.bytes≤(n+m)*inf.bytes:=Nat.mul_le_mul_right _ (by omega)
 have hol:((cb.toList.drop off).take (i*2)).length=i*inf.size:=by rw [hsz2];simp;omega
 have hold:(Builtin.firstCells inf.size i (.slice (some ⟨b,off,none⟩) i c)).run Tryz.prog w.drew=.ok ((cb.toList.drop off).take (i*2)).toArray w.drew:=
  run_firstCells_some w.drew inf.size i ⟨b,off,none⟩ i c _ hol (Q65 (w:=w.drew) hwb (by omega))
 obtain⟨G,hG⟩:∃G,G=grownCap w (n+m) c 77:=⟨_,rfl⟩
 have hGn:n+m≤G:=by rw [hG];exact grownCap_ge w _ _ _
 obtain⟨row,hrow⟩:∃row:Array Value,row=((cb.toList.drop off).take (i*2)).toArray++Builtin.zeroCells z.cells (n+m-i)++Builtin.zeroCells z.cells (G-(n+m)):=⟨_,rfl⟩
 have hrz:∀ty,(Builtin.append_ #[32,3] ty #[.slice (some ⟨b,off,none⟩) i c,.int .i64 ((n:Int)+(m:Int)-(i:Int))]).run Tryz.prog w=.ok (.slice (some ⟨w.heap.size,0,none⟩) (n+m) G) (w.drew.alloc (.cells row 77)):=fun ty=>by
  have h:=Lib.run_append_grow_zeros w 32 3 ty 77 inf z .i64 .i64 Tryz.underlying32 Tryz.underlying3 hinf hz0 (some ⟨b,off,none⟩) i c _ hold (n+m-i) (by omega) (by rw [hsz2];decide) (by omega) (by omega) (by omega) (by rw [hik];exact growslice_fits hroom (by omega))
  rw [hik] at h
  rw [hkk,hrow,hG]
  exact h
 have hrs:row.size=G*2:=by
  have:(G-(n+m))*2=G*2-(n+m)*2:=Nat.sub_mul _ _ _
  have:(n+m)*2≤G*2:=Nat.mul_le_mul_right _ hGn
  have hl2:((cb.toList.drop off).take (i*2)).length=i*2:=by rw [hol,hsz2]
  rw [hrow];simp only [Array.size_append,size_zeroCells,hzs,List.size_toArray];omega
 refine⟨G,row,hGn,hrs,fun q hq=>?_,?_⟩
 ·have h1:q<((cb.toList.drop off).take (i*2)).toArray.size:=by simp only [List.size_toArray];rw [hol,hsz2];exact hq
  rw [hrow,Array.getD_eq_getD_getElem?,Array.append_assoc,Array.getElem?_append_left h1,List.getElem?_toArray,List.getElem?_take,if_pos hq,List.getElem?_drop,Array.getD_eq_getD_getElem?];simp
 have hw1:IntKind.i64.wrap ((i:Int)+(m:Int))=(i:Int)+(m:Int):=IntWalk.i64_in _ (by omega)
 have hw2:IntKind.i64.wrap ((n:Int)+(m:Int))=(n:Int)+(m:Int):=IntWalk.i64_in _ (by omega)
 have hw3:IntKind.i64.wrap ((n:Int)+(m:Int)-(i:Int))=(n:Int)+(m:Int)-(i:Int):=IntWalk.i64_in _ (by omega)
 have hGK:(n+m)*2≤G*2:=Nat.mul_le_mul_right _ hGn
 have hbw:b<w.heap.size:=YG hwb
 have hvw:vb<w.heap.size:=YG hwv
 have hA0:(w.alloc (.cells row 77)).heap[w.heap.size]?=some (.cells row 77 (0,0)):=heap_alloc_new w _
 have hAb:(w.alloc (.cells row 77)).heap[b]?=some (.cells cb Tb (0,0)):=(RowKit.Below.heap_alloc w _ b hbw).trans hwb
 have hAv:(w.alloc (.cells row 77)).heap[vb]?=some (.cells cv Tv (0,0)):=(RowKit.Below.heap_alloc w _ vb hvw).trans hwv
 have hcpA:∀(W:World),W.heap=(w.alloc (.cells row 77)).heap→∀ty dc,(Builtin.copy_ #[32,32] ty #[.slice (some ⟨w.heap.size,i*2,none⟩) (n+m-i) dc,.slice (some ⟨vb,voff,none⟩) m vc]).run Tryz.prog W=.ok (goInt m) (W.setRow w.heap.size (spl row (i*2) cv voff (m*2))):=fun W hW ty dc=>by
  exact Z3 (K:=2) Tryz.underlying32 zE W (k:=m) (by rw [hW];exact hA0) (by rw [hW];exact hAv) (by simp only [Nat.min_def];split <;> omega) (by omega) (by omega) ho2 ty
 have hr1:(spl row (i*2) cv voff (m*2)).size=row.size:=Q03 (by omega) (by omega)
 have hcpB:∀(W:World),W.heap=((w.alloc (.cells row 77)).setRow w.heap.size (spl row (i*2) cv voff (m*2))).heap→∀ty dc sc,(Builtin.copy_ #[32,32] ty #[.slice (some ⟨w.heap.size,(i+m)*2,none⟩) (n+m-(i+m)) dc,.slice (some ⟨b,off+i*2,none⟩) (n-i) sc]).run Tryz.prog W=.ok (goInt (n-i:Nat)) (W.setRow w.heap.size (spl (spl row (i*2) cv voff (m*2)) ((i+m)*2) cb (off+i*2) ((n-i)*2))):=fun W hW ty dc sc=>by
  exact Z3 (K:=2) Tryz.underlying32 zE W (k:=n-i) (by rw [hW];exact setRow_heap _ _ _ _ _ _ hA0) (by rw [hW,setRow_other _ _ _ _ (by omega:b≠w.heap.size)];exact hAb) (by simp only [Nat.min_def];split <;> omega) (by omega) (by omega) (fun q hq=>by rw [Nat.add_assoc];exact ho1 _ (by omega)) ty
 have hz1:¬((m:Int)=0):=by omega
 have hz2:¬((i:Int)=(n:Int)):=by omega
 have hz3:(c:Int)<(n:Int)+(m:Int):=by omega
 have hGi:¬(G=i):=by omega
 have hGim:¬(G=i+m):=by omega
 have hci:¬(c=i):=by omega
 have b1:(0:Int)≤(i:Int)+(m:Int):=by omega
 have hin:i≤n:=by omega
 have htn:((i:Int)+(m:Int)).toNat=i+m:=by omega
 have b3:(i:Int)≤(n:Int):=by omega
 have hic:i≤c:=by omega
 have b5:(i:Int)≤(n:Int)+(m:Int):=by omega
 clear hold hol hrow hG hN1 hN2 hN3 hN4 hN5 hN7 hN8 hN9 ho1 ho2 hkk hik hr1 hGK
 go_enter Tryz.func131,Tryz.ntmps131
 go_wp2_with (first
  | (at_builtin;refine Lib.wpList_append_run _ rfl _ _ _ _ rfl _ _ rfl rfl _ _ (hrz _) ?_))
 rw [hcpA (w.alloc (.cells row 77)).drew rfl 3 (G-i)]
 go_wp2
 go_region_law (refine Q6v rfl _ _ 32 32 rfl (.slice (some ⟨w.heap.size,(i+m)*2,none⟩) (n+m-(i+m)) (G-(i+m))) (.slice (some ⟨b,off+i*2,none⟩) (n-i) (c-i)) (by simp [Act.eval,Act.put]) (by simp [Act.eval,Act.put]) (hcpB ((w.alloc (.cells row 77)).drew.setRow w.heap.size (spl row (i*2) cv voff (m*2))).drew rfl 3 (G-(i+m)) (c-i)) ?_)
 go_wp2
 go_ret
 exact⟨rfl,rfl,rfl,rfl,rfl,Nat.le_trans (Nat.le_succ _) (Nat.le_succ _)⟩
theorem Qau:Q79 Tryz.prog 131 2:=Q7B (E:=77) Qay Q9O
theorem Gg (i:Int) (xs:List Q0) (ys:List Q0) (post:List Q0→Prop) (g:QG i xs ys post):
  Tr Tryz.prog 131 [.o 0,.i i,.o 1] [(0,.val (.os 2 Q3 xs)),(1,.val (.os 2 Q3 ys))] 2 (fun A H' k=>∃y,post y∧A=(.o 2)∧H'=[(2,.val (.os 2 Q3 y))]∧k=3):=by
 unfold QG at g
 obtain⟨⟨h0,h1⟩,h2,h3,hp⟩:=g
 obtain⟨n,rfl⟩:=Int.eq_ofNat_of_zero_le h0
 exact Tr.insert Qau (enc:=Q3) (fun _=>rfl) xs ys n (by omega) h2 h3 hp
theorem Q1M (c:Int) (n:Int) (l:List Q0) (post:(List Q0)→Prop) (g:XL c n l post):
  Tr Tryz.prog 53 [.o 0,.i c,.i n] [(0,.val (.os 2 Q3 l))] 1 (fun A H' k=>∃y,post y∧A=(.o 1)∧H'=[(1,.val (.os 2 Q3 y))]∧k=2):=by
 refine Tr.go Tryz.func53 Tryz.ntmps53 fun _ _ _ _ o=>?_
 unfold XL at g
 refine C.ss (U.bx ?_)
 refine U.pd 1 T (C.xt ?_)
 refine U.ps 2 T rfl (U.k (X4 l c _ g) Q8w (fun x5 g=>?_))
 refine U.pd 1 T (C.xs (C.block (C.ss ?_)))
 refine U.pd 3 T (C.nx ?_)
 refine C.ite rfl g (fun b8 g=>?_) fun b8 g=>?_
 refine C.ss (U.ps 4 T rfl (U.bs T Q3 ([({Cell:=c,Left:=n:Q0})]:List Q0) ?_))
 obtain⟨y11,g⟩:=g
 refine U.ap T y11 ?_
 refine U.pd 1 T (C.nx (C.ret (C.brt (C.rt ?_))))
 exact C.g1 [some 0,some 3] T o ⟨(l++([({Cell:=c,Left:=n:Q0})]:List Q0)),g,rfl,rfl,rfl⟩
 refine C.seq (D.bq mix 9999 [0,1] [] (fun hQ hS ws M'=>?_))
 refine D.pq 2 (zl [0,1]) T ?_
 obtain⟨x14,y14,g⟩:=g
 refine D.q 2 [] hQ hS rfl (.none rfl) rfl rfl (by exact Rd.io T rfl rfl rfl rfl rfl rfl rfl y14) rfl (by kernel_rfl) ?_
 refine D.pq 1 [(3,[])] T ?_
 refine D.q 4 [] hQ hS rfl (.none rfl) rfl rfl (by exact Rd.le T rfl rfl rfl (Qj y14).2.2 rfl rfl rfl) rfl (by kernel_rfl) ?_
 refine D.pq 3 (zl [5,6,7]) T ?_
 refine D.done (by kernel_rfl) ?_
 refine C.nx ?_
 refine C.ite rfl g (fun b15 g=>?_) fun b15 g=>?_
 refine C.ss (U.ps 4 T rfl (U.r rfl (.none rfl) rfl rfl (by exact Rd.io T rfl rfl rfl rfl rfl rfl rfl y14) ?_))
 refine U.ps 1 T rfl (U.r rfl (.none rfl) rfl rfl (by exact Rd.le T rfl rfl rfl (Qj y14).2.2 rfl rfl rfl) ?_)
 refine U.ps 2 T rfl (U.r rfl (.none rfl) rfl rfl (by exact Rd.io T rfl rfl rfl rfl rfl rfl rfl y14) ?_)
 refine U.ps 1 T rfl (U.e1 rfl (.none rfl) (by exact Eff1.se T (z':=({Cell:=x14.Cell,Left:=imax x14.Left n:Q0})) rfl rfl rfl (Qj y14).2.2 rfl rfl rfl rfl rfl rfl rfl rfl (fun _=>rfl) rfl) ?_)
 refine U.done (C.xt (U.pd 2 T (C.nx (C.ret (C.brt (C.rt ?_))))))
 exact C.g1 [some 0,some 0] T o ⟨(l.set (Int.toNat x5) ({Cell:=x14.Cell,Left:=imax x14.Left n:Q0})),g,rfl,rfl,rfl⟩
 refine C.skip (C.bnx (C.xt (U.ps 5 T rfl (U.bs T Q3 ([({Cell:=c,Left:=n:Q0})]:List Q0) ?_))))
 refine U.c [some 0,some 2] (Gg x5 l ([({Cell:=c,Left:=n:Q0})]:List Q0) _ g) Qbp fun x22 g=>?_
 refine U.pd 1 T (C.nx (C.ret ?_))
 exact C.g1 [some 0,some 5] T o ⟨x22,g,rfl,rfl,rfl⟩
theorem Q0n (s_1:ApiSite) (st:ApiState) (f:Qk) (post:ApiState→Prop) (g:Gk s_1 st f post):
  Tr Tryz.prog 15 [.agg (Q2 s_1),.agg (Q1 st),.agg (Ks f)] [] 0 (fun A H' k=>∃y,post y∧A=(.agg [.i y.Tick,.o 0,.o 1,.o 2,.o 3,.o 4])∧H'=[(0,.val (.os 1 eI y.Shelves)),(1,.val (.os 6 Q4 y.Robots)),(2,.val (.os 1 eI y.People)),(3,.val (.os 1 eI y.Dead)),(4,.val (.os 2 Q3 y.Stuck))]∧k=5):=by
 refine Tr.go Tryz.func15 Tryz.ntmps15 fun _ _ _ _ o=>?_
 unfold Gk at g
 refine C.ss (U.bx ?_)
 refine U.bx ?_
 refine U.bx ?_
 refine U.al T ?_
 refine U.done (C.xt (U.ps 1 T rfl (U.k (ZU st _ g) en51 (fun x5 g=>?_))))
 refine U.al T ?_
 refine U.st T ?_
 refine U.done (C.xs (C.ss (U.ps 3 T rfl (U.k (WK s_1 st f _ g) en12 (fun x8 g=>?_)))))
 refine U.pd 1 T (C.nx ?_)
 refine C.ite rfl g (fun b9 g=>?_) fun b9 g=>?_
 refine C.ss (U.ps 1 T rfl (U.st T ?_))
 refine U.done (C.nx (C.ret (C.rt ?_)))
 exact C.g1 (sqR 4 5) T o ⟨x5,g,rfl,rfl,rfl⟩
 refine C.skip (C.xs (C.ss (U.pd 2 T (C.nx (C.block (C.ss ?_))))))
 refine U.pd 2 T (C.nx ?_)
 refine C.jn (fun (x16:List ApiRobot×List Int×List Int×List Q0)=>[(6,.p 0 0),(7,.p 1 0)]) (fun x16=>[(0,.box [.i 0,vN,vN,vN,vN,vN]),(1,.box [.i x5.Tick,.o 2,.o 3,.o 4,.o 5,.o 6]),(2,.val (.os 1 eI x5.Shelves)),(3,.val (.os 6 Q4 x16.1)),(4,.val (.os 1 eI x16.2.1)),(5,.val (.os 1 eI x16.2.2.1)),(6,.val (.os 2 Q3 x16.2.2.2))]) 7 g (fun x16 g=>?_) fun J17 g j17=>?_
 refine C.bnx (C.xt (U.ps 1 T rfl (U.st T ?_)))
 refine U.done (C.nx (C.ret ?_))
 exact C.g1 (sqR 2 5) T o ⟨({Tick:=x5.Tick,Shelves:=x5.Shelves,Robots:=x16.1,People:=x16.2.1,Dead:=x16.2.2.1,Stuck:=x16.2.2.2:ApiState}),g,rfl,rfl,rfl⟩
 refine C.ite rfl g (fun b18 g=>?_) fun b18 g=>?_
 refine U.start (U.ps 4 T rfl ?_)
 obtain⟨x21,y21,g⟩:=g
 refine U.r rfl (.none rfl) rfl rfl (by exact Rd.io T rfl rfl rfl rfl rfl rfl rfl y21) ?_
 refine U.ps 1 T rfl (U.e1 rfl (.none rfl) (by exact Eff1.se T (z':=({Cell:=x21.Cell,Load:=x21.Load,Charge:=x21.Charge,Rest:=x21.Rest,Mute:=x21.Mute,Dead:=true:ApiRobot})) rfl rfl rfl (Qj y21).2.2 rfl rfl rfl rfl rfl rfl rfl rfl (fun _=>rfl) rfl) ?_)
 refine U.done ?_
 exact St.wa [some 3,some 9,some 4,some 5,some 6,some 7,some 8] (j17 _ g)
 refine C.ss (U.pd 2 T (C.nx ?_))
 refine C.jn (fun (x24:List ApiRobot×List Int×List Int×List Q0)=>[(6,.p 0 0),(7,.p 1 0)]) (fun x24=>[(0,.box [.i 0,vN,vN,vN,vN,vN]),(1,.box [.i x5.Tick,.o 2,.o 3,.o 4,.o 5,.o 6]),(2,.val (.os 1 eI x5.Shelves)),(3,.val (.os 6 Q4 x24.1)),(4,.val (.os 1 eI x24.2.1)),(5,.val (.os 1 eI x24.2.2.1)),(6,.val (.os 2 Q3 x24.2.2.2))]) 7 g (fun x24 g=>?_) fun J25 g j25=>?_
 exact St.wa (idR 7) (j17 _ g)
 refine C.ite rfl g (fun b26 g=>?_) fun b26 g=>?_
 refine C.ss (U.ps 4 T rfl (U.bs T eI ([f.A]:List Int) ?_))
 obtain⟨y29,g⟩:=g
 refine U.ap T y29 ?_
 refine U.ps 1 T rfl (U.st T ?_)
 refine U.done (C.nx (U.start (U.ps 2 T rfl (U.c [some 11] (KJ (x5.Dead++([f.A]:List Int)) _ g) en52 (fun x32 g=>?_)))))
 refine U.done ?_
 exact St.wa [some 3,some 9,some 4,some 5,some 6,some 11,some 8] (j25 _ g)
 refine C.ss (U.pd 2 T (C.nx ?_))
 refine C.jn (fun (x35:List ApiRobot×List Int×List Q0)=>[(6,.p 0 0),(7,.p 1 0)]) (fun x35=>[(0,.box [.i 0,vN,vN,vN,vN,vN]),(1,.box [.i x5.Tick,.o 2,.o 3,.o 4,.o 5,.o 6]),(2,.val (.os 1 eI x5.Shelves)),(3,.val (.os 6 Q4 x35.1)),(4,.val (.os 1 eI x35.2.1)),(5,.val (.os 1 eI x5.Dead)),(6,.val (.os 2 Q3 x35.2.2))]) 7 g (fun x35 g=>?_) fun J36 g j36=>?_
 exact St.wa (idR 7) (j25 _ g)
 refine C.ite rfl g (fun b37 g=>?_) fun b37 g=>?_
 refine U.start (U.ps 6 T rfl ?_)
 obtain⟨x40,y40,g⟩:=g
 refine U.r rfl (.none rfl) rfl rfl (by exact Rd.io T rfl rfl rfl rfl rfl rfl rfl y40) ?_
 refine U.ps 1 T rfl (U.e1 rfl (.none rfl) (by exact Eff1.se T (z':=({Cell:=x40.Cell,Load:=x40.Load,Charge:=x40.Charge,Rest:=x40.Rest,Mute:=f.N,Dead:=x40.Dead:ApiRobot})) rfl rfl rfl (Qj y40).2.2 rfl rfl rfl rfl rfl rfl rfl rfl (fun _=>rfl) rfl) ?_)
 refine U.done ?_
 exact St.wa [some 3,some 9,some 4,some 5,some 6,some 7,some 8] (j36 _ g)
 refine C.ss (U.pd 2 T (C.nx ?_))
 refine C.jn (fun (x43:List Int×List Q0)=>[(6,.p 0 0),(7,.p 1 0)]) (fun x43=>[(0,.box [.i 0,vN,vN,vN,vN,vN]),(1,.box [.i x5.Tick,.o 2,.o 3,.o 4,.o 5,.o 6]),(2,.val (.os 1 eI x5.Shelves)),(3,.val (.os 6 Q4 x5.Robots)),(4,.val (.os 1 eI x43.1)),(5,.val (.os 1 eI x5.Dead)),(6,.val (.os 2 Q3 x43.2))]) 7 g (fun x43 g=>?_) fun J44 g j44=>?_
 exact St.wa (idR 7) (j36 _ g)
 refine C.ite rfl g (fun b45 g=>?_) fun b45 g=>?_
 refine U.start (U.ps 6 T rfl (U.c [some 8] (Q1M f.A f.N x5.Stuck _ g) en53 (fun x48 g=>?_)))
 refine U.ps 1 T rfl (U.st T ?_)
 refine U.done ?_
 exact St.wa [some 3,some 9,some 4,some 5,some 6,some 7,some 11] (j44 _ g)
 refine C.ss (U.pd 2 T (C.nx ?_))
 refine C.jn (fun (x51:List Int)=>[(6,.p 0 0),(7,.p 1 0)]) (fun x51=>[(0,.box [.i 0,vN,vN,vN,vN,vN]),(1,.box [.i x5.Tick,.o 2,.o 3,.o 4,.o 5,.o 6]),(2,.val (.os 1 eI x5.Shelves)),(3,.val (.os 6 Q4 x5.Robots)),(4,.val (.os 1 eI x51)),(5,.val (.os 1 eI x5.Dead)),(6,.val (.os 2 Q3 x5.Stuck))]) 7 g (fun x51 g=>?_) fun J52 g j52=>?_
 exact St.wa (idR 7) (j44 _ g)
 refine C.ite rfl g (fun b53 g=>?_) fun b53 g=>?_
 refine C.seq (C.ss (U.pd 6 T (C.nx ?_)))
 refine C.jn (fun (x56:List Int)=>[(5,.p 0 0),(6,.p 1 0),(7,.p 2 0)]) (fun x56=>[(0,.box (Ks f)),(1,.box [.i 0,vN,vN,vN,vN,vN]),(2,.box [.i x5.Tick,.o 3,.o 4,.o 5,.o 6,.o 7]),(3,.val (.os 1 eI x5.Shelves)),(4,.val (.os 6 Q4 x5.Robots)),(5,.val (.os 1 eI x56)),(6,.val (.os 1 eI x5.Dead)),(7,.val (.os 2 Q3 x5.Stuck))]) 8 g (fun x56 g=>?_) fun J57 g j57=>?_
 refine C.nx (U.start (U.ps 6 T rfl ?_))
 obtain⟨x64,y64,g⟩:=g
 refine U.r rfl (.none rfl) rfl rfl (by exact Rd.io T rfl rfl rfl rfl rfl rfl rfl y64) ?_
 refine U.e1 rfl (.none rfl) (by exact Eff1.se T (z':=f.N) rfl rfl rfl (Qj y64).2.2 rfl rfl rfl rfl rfl rfl rfl rfl (fun _=>rfl) rfl) ?_
 refine U.done ?_
 exact St.wa (sqR 1 7) (j52 _ g)
 refine C.ite rfl g (fun b58 g=>?_) fun b58 g=>?_
 refine U.start (U.ps 4 T rfl (U.bs T eI ([f.N]:List Int) ?_))
 obtain⟨y61,g⟩:=g
 refine U.ap T y61 ?_
 refine U.ps 1 T rfl (U.st T ?_)
 refine U.done ?_
 exact St.wa [some 2,some 3,some 9,some 4,some 5,some 11,some 7,some 8] (j57 _ g)
 refine C.skip ?_
 exact St.wa [some 2,some 3,some 9,some 4,some 5,some 6,some 7,some 8] (j57 _ g)
 refine C.skip ?_
 exact St.wa [some 3,some 9,some 4,some 5,some 6,some 7,some 8] (j52 _ g)
theorem Q0g (x_1:Q0) (post:Bool→Prop) (g:X9 x_1 post):
  Tr Tryz.prog 134 [.agg [.i x_1.Cell,.i x_1.Left]] [] 0 (pB post):=by
 refine Tr.go Tryz.func134 Tryz.ntmps134 fun _ _ _ _ o=>?_
 unfold X9 at g
 refine C.ss (U.bx ?_)
 refine U.pd 1 T (C.xt ?_)
 refine U.pd 4 T (C.nx (C.ret ?_))
 exact C.f1 T o (pBi g)
theorem Xa (s_1:List Q0) (post:Int→Prop) (g:Qr s_1 post):
  Tr Tryz.prog 129 [.sl 2 Q3 s_1,.fn (.func 134) [] []] [] 0 (pI post):=by
 refine Tr.go Tryz.func129 Tryz.ntmps129 fun _ _ _ _ o=>?_
 unfold Qr at g
 refine C.ss (U.pd 1 T (C.xs (C.ss ?_)))
 refine U.pd 3 T (C.nx ?_)
 refine C.jn (fun (x5:Unit)=>[]) (fun x5=>[]) 0 g (fun x5 g=>?_) fun J6 g j6=>?_
 refine C.xt (U.pd 1 T (C.nx (C.ret ?_)))
 exact C.f1 T o (pIi g)
 refine C.block (St.wk (C.loop (fun (s7:Int)=>[(0,.sl 2 Q3 s_1),(1,.fn (.func 134) [] []),(7,.i (s_1.length:Int)),(8,.i s7)]) (fun s7=>[]) g (fun s7 Y8 g=>?_)) (Wk.e))
 refine C.ss (U.pd 1 T (C.xs ?_))
 refine C.ite rfl g (fun b11 g=>?_) fun b11 g=>?_
 refine C.skip (C.xs (C.block (C.ss (U.pd 2 T (C.xt ?_)))))
 refine U.ps 3 T rfl ?_
 obtain⟨x16,y16,g⟩:=g
 refine U.ix T y16 ?_
 refine U.ps 1 T rfl (U.k (Q0g x16 _ g) Qax (fun x17 g=>?_))
 refine U.done (C.nx ?_)
 refine C.ite rfl g (fun b18 g=>?_) fun b18 g=>?_
 refine C.ss (U.pd 2 T (C.nx (C.ret (C.brt (C.rt (C.rt (C.brt (C.rt ?_))))))))
 exact C.f1 T o (pIi g)
 refine C.skip (C.bnx (C.nx (U.start (U.pd 2 T (C.nx ?_)))))
 exact St.wk (C.next g) (Wk.e)
 refine C.exit (C.ex (C.ex (C.bex ?_)))
 exact St.wk (j6 _ g) (Wk.mk' [] rfl rfl trivial trivial rfl)
theorem KO (s_1:List Q0) (post:(List Q0)→Prop) (g:Ql s_1 post):
  Tr Tryz.prog 133 [.o 0,.fn (.func 134) [] []] [(0,.val (.os 2 Q3 s_1))] 1 (fun A H' k=>∃y,post y∧A=(.o 1)∧H'=[(1,.val (.os 2 Q3 y))]∧k=2):=by
 refine Tr.go Tryz.func133 Tryz.ntmps133 fun _ _ _ _ o=>?_
 unfold Ql at g
 refine C.ss (U.pd 1 T (C.xt ?_))
 refine U.ps 2 T rfl (U.k (Xa s_1 _ g) Q8w (fun x5 g=>?_))
 refine U.pd 1 T (C.xs (C.ss ?_))
 refine U.pd 2 T (C.nx ?_)
 refine C.ite rfl g (fun b8 g=>?_) fun b8 g=>?_
 refine C.ss (U.pd 2 T (C.nx (C.ret (C.rt ?_))))
 exact C.g1 [some 0,some 0] T o ⟨s_1,g,rfl,rfl,rfl⟩
 refine C.skip (C.xs (C.ss (U.pd 3 T (C.nx ?_))))
 refine C.jn (fun (x13:List Q0×Int)=>[(0,.o 0),(5,.i x13.2)]) (fun x13=>[(0,.val (.os 2 Q3 x13.1))]) 1 g (fun x13 g=>?_) fun J14 g j14=>?_
 refine C.xt (U.ps 2 T rfl ?_)
 obtain⟨y38,g⟩:=g
 refine U.r rfl (.none rfl) rfl rfl (by exact Rd.vw T rfl rfl rfl rfl rfl rfl (.some _ rfl) (.none _) y38) ?_
 obtain⟨y39,g⟩:=g
 refine U.e1 rfl (.none rfl) (by exact Eff1.clv T (z0:=({Cell:=0,Left:=0:Q0})) rfl rfl rfl rfl rfl rfl rfl (fun _=>rfl) rfl y39) ?_
 refine U.done (C.xt (U.ps 2 T rfl ?_))
 obtain⟨y42,g⟩:=g
 refine U.e1 rfl (.none rfl) (by exact Eff1.sw T rfl rfl rfl rfl rfl rfl rfl rfl (.none _) (.some _ rfl) y42) ?_
 refine U.pd 1 T (C.nx (C.ret ?_))
 exact C.g1 (idR 2) T o ⟨(sub (x13.1.take (Int.toNat x13.2)++(List.replicate (Int.toNat ((x13.1.length:Int)-x13.2)) ({Cell:=0,Left:=0:Q0})++x13.1.drop ((Int.toNat x13.2)+(Int.toNat ((x13.1.length:Int)-x13.2))))) 0 x13.2),g,rfl,rfl,rfl⟩
 refine C.block (St.wk (C.loop (fun (s15:List Q0×Int×Int)=>[(0,.o 0),(1,.fn (.func 134) [] []),(5,.i s15.2.1),(6,.i s15.2.2)]) (fun s15=>[(0,.val (.os 2 Q3 s15.1))]) g (fun s15 Y16 g=>?_)) (Wk.a [some 0]))
 refine C.seq (C.ss (U.pd 4 T (C.nx ?_)))
 refine C.ite rfl g (fun b19 g=>?_) fun b19 g=>?_
 refine C.skip (C.xs (C.block (C.ss (U.ps 2 T rfl ?_))))
 obtain⟨x22,y22,g⟩:=g
 refine U.r rfl (.none rfl) rfl rfl (by exact Rd.io T rfl rfl rfl rfl rfl rfl rfl y22) ?_
 refine U.r rfl (.none rfl) rfl rfl (by exact Rd.le T rfl rfl rfl (Qj y22).2.2 rfl rfl rfl) ?_
 refine U.al T ?_
 refine U.st T ?_
 refine U.done (C.xt (U.ps 2 T rfl (U.k (Q0g x22 _ g) Qax (fun x25 g=>?_))))
 refine U.pd 1 T (C.nx ?_)
 refine C.jn (fun (x26:List Q0×Int)=>[(0,.o 0),(1,.fn (.func 134) [] []),(5,.i x26.2),(6,.i s15.2.2)]) (fun x26=>[(0,.val (.os 2 Q3 x26.1))]) 1 g (fun x26 g=>?_) fun J27 g j27=>?_
 refine C.bnx (C.nx (U.start (U.pd 3 T (C.nx ?_))))
 exact St.wk (C.next g) (Wk.a [some 0])
 refine C.ite rfl g (fun b28 g=>?_) fun b28 g=>?_
 refine C.ss (U.ps 3 T rfl ?_)
 obtain⟨x31,y31,g⟩:=g
 refine U.r rfl (.none rfl) rfl rfl (by exact Rd.io T rfl rfl rfl rfl rfl rfl rfl y31) ?_
 refine U.e1 rfl (.none rfl) (by exact Eff1.se T (z':=x22) rfl rfl rfl (Qj y31).2.2 rfl rfl rfl rfl rfl rfl rfl rfl (fun _=>rfl) rfl) ?_
 refine U.done (C.nx (U.start (U.pd 3 T ?_)))
 exact St.wa [some 0] (j27 _ g)
 refine C.skip ?_
 exact St.wa [some 0] (j27 _ g)
 refine C.exit (C.ex (C.ex (C.bex ?_)))
 exact St.wa [some 0] (j14 _ g)
theorem Q2d (before:ApiState) (st:ApiState) (post:ApiState→Prop) (g:Gb before st post):
  Tr Tryz.prog 56 [.agg (Q1 before),.agg [.i st.Tick,.o 0,.o 1,.o 2,.o 3,.o 4]] [(0,.val (.os 1 eI st.Shelves)),(1,.val (.os 6 Q4 st.Robots)),(2,.val (.os 1 eI st.People)),(3,.val (.os 1 eI st.Dead)),(4,.val (.os 2 Q3 st.Stuck))] 5 (fun A H' k=>∃y,post y∧A=(.agg [.i y.Tick,.o 5,.o 6,.o 7,.o 8,.o 9])∧H'=[(5,.val (.os 1 eI y.Shelves)),(6,.val (.os 6 Q4 y.Robots)),(7,.val (.os 1 eI y.People)),(8,.val (.os 1 eI y.Dead)),(9,.val (.os 2 Q3 y.Stuck))]∧k=10):=by
 refine Tr.go Tryz.func56 Tryz.ntmps56 fun _ _ _ _ o=>?_
 unfold Gb at g
 refine C.ss (U.bx ?_)
 refine U.bx ?_
 refine U.al T ?_
 refine U.done (C.nx (C.scope (C.ss ?_)))
 refine U.ps 4 T rfl (U.st T ?_)
 refine U.done (C.xs (C.label (C.xs (C.ss ?_))))
 refine U.pd 4 T (C.nx ?_)
 refine C.jn (fun (x7:List ApiRobot)=>[(3,.p 5 0),(4,.p 6 0)]) (fun x7=>[(0,.val (.os 1 eI st.Shelves)),(1,.val (.os 6 Q4 x7)),(2,.val (.os 1 eI st.People)),(3,.val (.os 1 eI st.Dead)),(4,.val (.os 2 Q3 st.Stuck)),(5,.box [.i (w64 (st.Tick+1)),.o 0,.o 1,.o 2,.o 3,.o 4]),(6,.box [.i 0,vN,vN,vN,vN,vN])]) 7 g (fun x7 g=>?_) fun J8 g j8=>?_
 refine C.xs (C.ss (U.pd 4 T (C.nx ?_)))
 refine C.jn (fun (x33:List Q0)=>[(3,.p 5 0),(4,.p 6 0)]) (fun x33=>[(0,.val (.os 1 eI st.Shelves)),(1,.val (.os 6 Q4 x7)),(2,.val (.os 1 eI st.People)),(3,.val (.os 1 eI st.Dead)),(4,.val (.os 2 Q3 x33)),(5,.box [.i (w64 (st.Tick+1)),.o 0,.o 1,.o 2,.o 3,.o 4]),(6,.box [.i 0,vN,vN,vN,vN,vN])]) 7 g (fun x33 g=>?_) fun J34 g j34=>?_
 refine C.xt (U.ps 2 T rfl (U.c [some 4] (KO x33 _ g) Qb0 (fun x49 g=>?_)))
 refine U.ps 1 T rfl (U.st T ?_)
 refine U.done (C.xt (U.ps 1 T rfl (U.st T ?_)))
 refine U.done (C.nx (C.ret (C.srt ?_)))
 exact C.g1 [some 0,some 1,some 2,some 3,some 4,some 0,some 1,some 2,some 3,some 8] T o ⟨({Tick:=w64 (st.Tick+1),Shelves:=st.Shelves,Robots:=x7,People:=st.People,Dead:=st.Dead,Stuck:=x49:ApiState}),g,rfl,rfl,rfl⟩
 refine C.block ?_
 refine St.wk (C.loop (fun (s35:List Q0×Int)=>[(3,.p 5 0),(4,.p 6 0),(54,.i (st.Stuck.length:Int)),(55,.i s35.2)]) (fun s35=>[(0,.val (.os 1 eI st.Shelves)),(1,.val (.os 6 Q4 x7)),(2,.val (.os 1 eI st.People)),(3,.val (.os 1 eI st.Dead)),(4,.val (.os 2 Q3 s35.1)),(5,.box [.i (w64 (st.Tick+1)),.o 0,.o 1,.o 2,.o 3,.o 4]),(6,.box [.i 0,vN,vN,vN,vN,vN])]) g (fun s35 Y36 g=>?_)) (Wk.a (idR 7))
 refine C.ss (U.pd 1 T (C.xs ?_))
 refine C.ite rfl g (fun b39 g=>?_) fun b39 g=>?_
 refine C.skip (C.xs (C.block (C.ss (U.pd 2 T (C.nx (U.start ?_))))))
 refine U.ps 3 T rfl ?_
 obtain⟨x44,y44,g⟩:=g
 refine U.r rfl (.none rfl) rfl rfl (by exact Rd.io T rfl rfl rfl rfl rfl rfl rfl y44) ?_
 refine U.ps 1 T rfl (U.r rfl (.none rfl) rfl rfl (by exact Rd.le T rfl rfl rfl (Qj y44).2.2 rfl rfl rfl) ?_)
 refine U.ps 1 T rfl (U.r rfl (.none rfl) rfl rfl (by exact Rd.io T rfl rfl rfl rfl rfl rfl rfl y44) ?_)
 refine U.ps 1 T rfl (U.e1 rfl (.none rfl) (by exact Eff1.se T (z':=({Cell:=x44.Cell,Left:=w64 (x44.Left-1):Q0})) rfl rfl rfl (Qj y44).2.2 rfl rfl rfl rfl rfl rfl rfl rfl (fun _=>rfl) rfl) ?_)
 refine U.done (C.bnx (C.nx (U.start (U.pd 2 T (C.nx ?_)))))
 exact St.wk (C.next g) (Wk.a (idR 7))
 refine C.exit (C.ex (C.ex (C.bex ?_)))
 exact St.wa (idR 7) (j34 _ g)
 refine C.block ?_
 refine St.wk (C.loop (fun (s9:List ApiRobot×Int)=>[(2,.p 5 0),(3,.p 6 0),(4,.p 7 0),(14,.i (st.Robots.length:Int)),(15,.i s9.2)]) (fun s9=>[(0,.val (.os 1 eI st.Shelves)),(1,.val (.os 6 Q4 s9.1)),(2,.val (.os 1 eI st.People)),(3,.val (.os 1 eI st.Dead)),(4,.val (.os 2 Q3 st.Stuck)),(5,.box (Q1 before)),(6,.box [.i (w64 (st.Tick+1)),.o 0,.o 1,.o 2,.o 3,.o 4]),(7,.box [.i 0,vN,vN,vN,vN,vN])]) g (fun s9 Y10 g=>?_)) (Wk.a (idR 8))
 refine C.ss (U.pd 1 T (C.xs ?_))
 refine C.ite rfl g (fun b13 g=>?_) fun b13 g=>?_
 refine C.skip (C.xs ?_)
 refine C.jn (fun (x14:List ApiRobot)=>[(2,.p 5 0),(3,.p 6 0),(4,.p 7 0),(14,.i (st.Robots.length:Int)),(15,.i s9.2)]) (fun x14=>[(0,.val (.os 1 eI st.Shelves)),(1,.val (.os 6 Q4 x14)),(2,.val (.os 1 eI st.People)),(3,.val (.os 1 eI st.Dead)),(4,.val (.os 2 Q3 st.Stuck)),(5,.box (Q1 before)),(6,.box [.i (w64 (st.Tick+1)),.o 0,.o 1,.o 2,.o 3,.o 4]),(7,.box [.i 0,vN,vN,vN,vN,vN])]) 8 g (fun x14 g=>?_) fun J15 g j15=>?_
 refine C.nx (U.start (U.pd 2 T (C.nx ?_)))
 exact St.wk (C.next g) (Wk.a (idR 8))
 refine C.block (C.ss (U.pd 2 T (C.xt ?_)))
 refine U.ps 3 T rfl ?_
 obtain⟨x20,y20,g⟩:=g
 refine U.r rfl (.none rfl) rfl rfl (by exact Rd.io T rfl rfl rfl rfl rfl rfl rfl y20) ?_
 refine U.pd 1 T (C.xt ?_)
 refine U.ps 4 T rfl (U.r rfl (.none rfl) rfl rfl (by exact Rd.le T rfl rfl rfl (Qj y20).2.2 rfl rfl rfl) ?_)
 refine U.ps 4 T rfl (U.e1 rfl (.none rfl) (by exact Eff1.se T (z':=({Cell:=x20.Cell,Load:=x20.Load,Charge:=x20.Charge,Rest:=x20.Rest,Mute:=imax (w64 (x20.Mute-1)) 0,Dead:=x20.Dead:ApiRobot})) rfl rfl rfl (Qj y20).2.2 rfl rfl rfl rfl rfl rfl rfl rfl (fun _=>rfl) rfl) ?_)
 refine U.done (C.xs (C.seq (D.bq mix 9999 [1,5] [] (fun hQ hS ws M'=>?_))))
 refine D.pq 3 (zl [0,1,2]) T ?_
 refine D.q 3 [] hQ hS rfl (.none rfl) rfl rfl (by exact Rd.le T rfl rfl rfl (Y1 (Qj y20).2.2) rfl rfl rfl) rfl (by kernel_rfl) ?_
 refine D.pq 3 (zl [4,5,6]) T ?_
 obtain⟨x25,y25,g⟩:=g
 refine D.ix 7 [] T y25 ?_
 refine D.pq 3 (zl [8,9,10]) T ?_
 refine D.done (by kernel_rfl) ?_
 refine C.nx ?_
 refine C.ite rfl g (fun b26 g=>?_) fun b26 g=>?_
 refine C.exit (C.ex (C.bex ?_))
 exact St.wa (idR 8) (j15 _ g)
 refine C.skip (C.nx (U.start (U.ps 4 T rfl (U.r rfl (.none rfl) rfl rfl (by exact Rd.le T rfl rfl rfl (Y1 (Qj y20).2.2) rfl rfl rfl) ?_))))
 refine U.ps 4 T rfl ?_
 refine U.e1 rfl (.none rfl) (by exact Eff1.se T (z':=({Cell:=({Cell:=x20.Cell,Load:=x20.Load,Charge:=x20.Charge,Rest:=x20.Rest,Mute:=imax (w64 (x20.Mute-1)) 0,Dead:=x20.Dead:ApiRobot}).Cell,Load:=({Cell:=x20.Cell,Load:=x20.Load,Charge:=x20.Charge,Rest:=x20.Rest,Mute:=imax (w64 (x20.Mute-1)) 0,Dead:=x20.Dead:ApiRobot}).Load,Charge:=({Cell:=x20.Cell,Load:=x20.Load,Charge:=x20.Charge,Rest:=x20.Rest,Mute:=imax (w64 (x20.Mute-1)) 0,Dead:=x20.Dead:ApiRobot}).Charge,Rest:=imax (w64 ((({Cell:=x20.Cell,Load:=x20.Load,Charge:=x20.Charge,Rest:=x20.Rest,Mute:=imax (w64 (x20.Mute-1)) 0,Dead:=x20.Dead:ApiRobot}).Rest)-1)) 0,Mute:=({Cell:=x20.Cell,Load:=x20.Load,Charge:=x20.Charge,Rest:=x20.Rest,Mute:=imax (w64 (x20.Mute-1)) 0,Dead:=x20.Dead:ApiRobot}).Mute,Dead:=({Cell:=x20.Cell,Load:=x20.Load,Charge:=x20.Charge,Rest:=x20.Rest,Mute:=imax (w64 (x20.Mute-1)) 0,Dead:=x20.Dead:ApiRobot}).Dead:ApiRobot})) rfl rfl rfl (Y1 (Qj y20).2.2) rfl rfl rfl rfl rfl rfl rfl rfl (fun _=>rfl) rfl) ?_
 refine U.done (C.bnx ?_)
 exact St.wa (idR 8) (j15 _ g)
 refine C.exit (C.ex (C.ex (C.bex ?_)))
 exact St.wa [some 0,some 1,some 2,some 3,some 4,some 6,some 7] (j8 _ g)
end Go.Proofs.YtbpbennpgnjbkaaGreat
