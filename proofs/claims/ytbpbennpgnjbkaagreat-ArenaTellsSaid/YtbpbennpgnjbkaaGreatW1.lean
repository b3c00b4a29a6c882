/- The walks: each Go function does what its verification condition says (written by a program of the prover). -/
import Derived.Test.YtbpbennpgnjbkaaGreatW0
import Derived.KernelRfl
set_option maxRecDepth 100000
set_option maxHeartbeats 8000000
set_option linter.unusedVariables false
set_option linter.unusedSimpArgs false
namespace Go.Proofs.YtbpbennpgnjbkaaGreat
open Go Go.Taq
theorem Yx (s_1:ApiSite) (st:ApiState) (acts:List Int) (f:Qk) (post:(ApiState×Int)→Prop) (g:G0 s_1 st acts f post):
  Tr Tryz.prog 17 [.agg (Q2 s_1),.agg (Q1 st),.sl 1 eI acts,.agg (Ks f)] [] 0 (fun A H' k=>∃y,post y∧A=(.tup [.agg [.i y.1.Tick,.o 0,.o 1,.o 2,.o 3,.o 4],.i y.2])∧H'=[(0,.val (.os 1 eI y.1.Shelves)),(1,.val (.os 6 Q4 y.1.Robots)),(2,.val (.os 1 eI y.1.People)),(3,.val (.os 1 eI y.1.Dead)),(4,.val (.os 2 Q3 y.1.Stuck))]∧k=5):=by
 refine Tr.go Tryz.func17 Tryz.ntmps17 fun _ _ _ _ o=>?_
 unfold G0 at g
 refine C.ss (U.bx ?_)
 refine U.bx ?_
 refine U.bx ?_
 refine U.al T ?_
 refine U.pd 1 T (C.xs (C.ss ?_))
 refine U.ps 3 T rfl (U.k (Q1l s_1 st acts _ g) en10 (fun x5 g=>?_))
 refine U.pd 1 T (C.xt ?_)
 refine U.pd 2 T (C.nx ?_)
 refine C.ite rfl g (fun b8 g=>?_) fun b8 g=>?_
 refine C.ss (U.ps 2 T rfl (U.st T ?_))
 refine U.pd 1 T (C.nx (C.ret (C.rt ?_)))
 exact C.fg [none,none,none,none,none] T o ⟨(({Tick:=0,Shelves:=[],Robots:=[],People:=[],Dead:=[],Stuck:=[]:ApiState}),x5),g,rfl,rfl,rfl⟩
 refine C.skip (C.xs (C.ss (U.ps 3 T rfl (U.k (WK s_1 st f _ g) en12 (fun x13 g=>?_)))))
 refine U.pd 1 T (C.xt ?_)
 refine U.pd 2 T (C.nx ?_)
 refine C.ite rfl g (fun b16 g=>?_) fun b16 g=>?_
 refine C.ss (U.ps 2 T rfl (U.st T ?_))
 refine U.pd 1 T (C.nx (C.ret (C.rt ?_)))
 exact C.fg [none,none,none,none,none] T o ⟨(({Tick:=0,Shelves:=[],Robots:=[],People:=[],Dead:=[],Stuck:=[]:ApiState}),x13),g,rfl,rfl,rfl⟩
 refine C.skip (C.xt (U.ps 3 T rfl (U.k (Q0n s_1 st f _ g) en15 (fun x21 g=>?_))))
 refine U.al T ?_
 refine U.st T ?_
 refine U.done (C.xs (C.ss (U.pd 3 T (C.nx ?_))))
 refine C.jn (fun (x24:Int×List Int×List ApiRobot×List Int×List Int×List Q0)=>[(5,.p 0 0),(8,.p 1 0),(12,.p 2 0)]) (fun x24=>[(0,.box (Q1 st)),(1,.box [.i 0,vN,vN,vN,vN,vN]),(2,.box [.i x24.1,.o 3,.o 4,.o 5,.o 6,.o 7]),(3,.val (.os 1 eI x24.2.1)),(4,.val (.os 6 Q4 x24.2.2.1)),(5,.val (.os 1 eI x24.2.2.2.1)),(6,.val (.os 1 eI x24.2.2.2.2.1)),(7,.val (.os 2 Q3 x24.2.2.2.2.2))]) 8 g (fun x24 g=>?_) fun J25 g j25=>?_
 refine C.xs (D.bq mix 3 [0,2] [] (fun hQ hS ws M'=>?_))
 refine D.pq 2 [(0,[]),(1,[2])] T ?_
 refine D.k 2 (ZU ({Tick:=x24.1,Shelves:=x24.2.1,Robots:=x24.2.2.1,People:=x24.2.2.2.1,Dead:=x24.2.2.2.2.1,Stuck:=x24.2.2.2.2.2:ApiState}) _ g) en51 fun x49 g=>?_
 refine D.zt [4,5] rfl (.none rfl) (by exact Eff.c [some 8,some 9,some 10,some 11,some 12] (v:=false) (Q2d st x49 _ g) en56 rfl rfl rfl (.eq rfl) ⟨vL,vL,vL,vL,vL,trivial⟩ rfl rfl rfl rfl rfl rfl (fun h=>by cases h) (.inl rfl) (fun _=>rfl) (fun _=>rfl) rfl) (by kernel_rfl) (by kernel_rfl) (by kernel_rfl) (by kernel_rfl) (fun x50' g=>?_)
 obtain⟨x50⟩:=x50'
 refine U.st T ?_
 refine U.pd 1 T (C.nx (C.ret ?_))
 exact C.fg (sqR 18 5) T o ⟨(x50,0),g,rfl,rfl,rfl⟩
 refine C.block ?_
 refine St.wk (C.loop (fun (s26:Int×List Int×List ApiRobot×List Int×List Int×List Q0×Int)=>[(4,.p 0 0),(5,.p 1 0),(8,.p 2 0),(12,.p 3 0),(35,.sl 1 eI acts),(36,.i (acts.length:Int)),(37,.i s26.2.2.2.2.2.2)]) (fun s26=>[(0,.box (Q2 s_1)),(1,.box (Q1 st)),(2,.box [.i 0,vN,vN,vN,vN,vN]),(3,.box [.i s26.1,.o 4,.o 5,.o 6,.o 7,.o 8]),(4,.val (.os 1 eI s26.2.1)),(5,.val (.os 6 Q4 s26.2.2.1)),(6,.val (.os 1 eI s26.2.2.2.1)),(7,.val (.os 1 eI s26.2.2.2.2.1)),(8,.val (.os 2 Q3 s26.2.2.2.2.2.1))]) g (fun s26 Y27 g=>?_)) (Wk.a [some 0,some 1,some 3,some 9,some 4,some 5,some 6,some 7,some 8])
 refine C.ss (U.pd 1 T (C.xs ?_))
 refine C.ite rfl g (fun b30 g=>?_) fun b30 g=>?_
 refine C.skip (C.xs (C.block (C.ss (U.ps 1 T rfl ?_))))
 obtain⟨x33,y33,g⟩:=g
 refine U.ix T y33 ?_
 refine U.pd 3 T (C.xs (C.ss ?_))
 refine U.ps 4 T rfl (U.k (Q0H s_1 ({Tick:=s26.1,Shelves:=s26.2.1,Robots:=s26.2.2.1,People:=s26.2.2.2.1,Dead:=s26.2.2.2.2.1,Stuck:=s26.2.2.2.2.2.1:ApiState}) s26.2.2.2.2.2.2 x33 _ g) en36 (fun x36 g=>?_))
 refine U.pd 1 T (C.nx ?_)
 refine C.jn (fun (x37:Int)=>[(4,.p 0 0),(5,.p 1 0),(8,.p 2 0),(12,.p 3 0),(13,.i s26.2.2.2.2.2.2),(14,.i x37),(35,.sl 1 eI acts),(36,.i (acts.length:Int)),(37,.i s26.2.2.2.2.2.2)]) (fun x37=>[(0,.box (Q2 s_1)),(1,.box (Q1 st)),(2,.box [.i 0,vN,vN,vN,vN,vN]),(3,.box [.i s26.1,.o 4,.o 5,.o 6,.o 7,.o 8]),(4,.val (.os 1 eI s26.2.1)),(5,.val (.os 6 Q4 s26.2.2.1)),(6,.val (.os 1 eI s26.2.2.2.1)),(7,.val (.os 1 eI s26.2.2.2.2.1)),(8,.val (.os 2 Q3 s26.2.2.2.2.2.1))]) 9 g (fun x37 g=>?_) fun J38 g j38=>?_
 refine C.nx (U.start (U.ps 4 T rfl (U.k (Q6t s_1 ({Tick:=s26.1,Shelves:=s26.2.1,Robots:=s26.2.2.1,People:=s26.2.2.2.1,Dead:=s26.2.2.2.2.1,Stuck:=s26.2.2.2.2.2.1:ApiState}) s26.2.2.2.2.2.2 x37 _ g) en37 (fun x44 g=>?_))))
 refine U.st T ?_
 refine U.done (C.bnx (C.nx (U.start (U.pd 2 T (C.nx ?_)))))
 exact St.wk (C.next g) (Wk.a [some 0,some 1,some 2,some 3,some 9,some 10,some 11,some 12,some 13])
 refine C.ite rfl g (fun b39 g=>?_) fun b39 g=>?_
 refine U.start (U.pd 1 T ?_)
 exact St.wa (idR 9) (j38 _ g)
 refine C.skip ?_
 exact St.wa (idR 9) (j38 _ g)
 refine C.exit (C.ex (C.ex (C.bex ?_)))
 exact St.wa (sqR 1 8) (j25 _ g)
theorem Q40 (f:Q6) (post:Bool→Prop) (g:Wp f post):
  Tr Tryz.prog 59 [.agg (Qd f)] [] 0 (pB post):=by
 refine Tr.go Tryz.func59 Tryz.ntmps59 fun _ _ _ _ o=>?_
 unfold Wp at g
 refine C.ss (U.bx ?_)
 refine U.pd 1 T (C.xs (C.seq ?_))
 refine C.jn (fun (x3:Bool)=>[(1,.p 0 0),(26,.b x3)]) (fun x3=>[(0,.box (Qd f))]) 1 g (fun x3 g=>?_) fun J4 g j4=>?_
 refine C.nx ?_
 refine C.ite rfl g (fun b7 g=>?_) fun b7 g=>?_
 refine C.ss (U.pd 1 T (C.nx (C.ret (C.rt ?_))))
 exact C.f1 T o (pBi g)
 refine C.skip (C.xt (U.ps 1 T rfl (U.k (Q1Y f _ g) Q9Y (fun x12 g=>?_))))
 refine U.pd 1 T (C.xs (C.seq ?_))
 refine C.jn (fun (x13:Bool)=>[(1,.p 0 0),(44,.b x13)]) (fun x13=>[(0,.box (Qd f))]) 1 g (fun x13 g=>?_) fun J14 g j14=>?_
 refine C.nx ?_
 refine C.ite rfl g (fun b17 g=>?_) fun b17 g=>?_
 refine C.ss (U.pd 1 T (C.nx (C.ret (C.rt ?_))))
 exact C.f1 T o (pBi g)
 refine C.skip (C.xs (C.ss (U.pd 4 T (C.nx ?_))))
 refine C.jn (fun (x22:Unit)=>[]) (fun x22=>[]) 0 g (fun x22 g=>?_) fun J23 g j23=>?_
 refine C.xt (U.pd 1 T (C.nx (C.ret ?_)))
 exact C.f1 T o (pBi g)
 refine C.block (St.wk (C.loop (fun (s24:Int)=>[(1,.p 0 0),(46,.sl 1 eI f.Kind),(47,.i (f.Kind.length:Int)),(48,.i s24)]) (fun s24=>[(0,.box (Qd f))]) g (fun s24 Y25 g=>?_)) (Wk.a [some 0]))
 refine C.ss (U.pd 1 T (C.xs ?_))
 refine C.ite rfl g (fun b28 g=>?_) fun b28 g=>?_
 refine C.skip (C.xs (C.block (C.ss (U.ps 1 T rfl ?_))))
 obtain⟨x31,y31,g⟩:=g
 refine U.ix T y31 ?_
 refine U.pd 3 T (C.xs ?_)
 refine C.jn (fun (x32:Bool)=>[(1,.p 0 0),(46,.sl 1 eI f.Kind),(47,.i (f.Kind.length:Int)),(48,.i s24),(74,.b x32)]) (fun x32=>[(0,.box (Qd f))]) 1 g (fun x32 g=>?_) fun J33 g j33=>?_
 refine C.nx ?_
 refine C.ite rfl g (fun b38 g=>?_) fun b38 g=>?_
 refine C.ss (U.pd 1 T (C.nx (C.ret (C.brt (C.rt (C.rt (C.brt (C.rt ?_))))))))
 exact C.f1 T o (pBi g)
 refine C.skip (C.bnx (C.nx (U.start (U.pd 2 T (C.nx ?_)))))
 exact St.wk (C.next g) (Wk.a [some 0])
 refine U.start (U.ps 3 T rfl ?_)
 refine g.cs (fun b34 g=>?_) fun b34 g=>?_
 refine U.sk' 2 2 false 55 b34 ?_
 refine U.pk b34 ?_
 refine U.ps 1 T rfl (U.sk' 6 6 false 59 rfl ?_)
 refine U.pk rfl ?_
 refine U.ps 1 T rfl (U.sk' 6 14 false 67 rfl ?_)
 refine U.pk rfl ?_
 refine U.done ?_
 exact St.wa [some 0] (j33 _ g)
 refine U.pq 2 2 false 55 b34 T ?_
 refine U.pk' b34 ?_
 refine U.ps 1 T rfl ?_
 refine g.cs (fun b35 g=>?_) fun b35 g=>?_
 refine U.sk' 6 6 false 59 b35 ?_
 refine U.pk b35 ?_
 refine U.ps 1 T rfl (U.sk' 6 14 false 67 rfl ?_)
 refine U.pk rfl ?_
 refine U.done ?_
 exact St.wa [some 0] (j33 _ g)
 refine U.pq 3 6 false 59 b35 T ?_
 obtain⟨x36,y36,g⟩:=g
 refine U.r rfl (.tk 6 false 59 b35) rfl rfl (by exact Rd.ix T rfl rfl rfl rfl rfl rfl y36) ?_
 refine U.pq 2 6 false 59 b35 T ?_
 refine U.pk' b35 ?_
 refine U.ps 1 T rfl ?_
 refine g.cs (fun b37 g=>?_) fun b37 g=>?_
 refine U.sk' 6 14 false 67 b37 ?_
 refine U.pk b37 ?_
 refine U.done ?_
 exact St.wa [some 0] (j33 _ g)
 refine U.pq 3 14 false 67 b37 T ?_
 refine U.r rfl (.tk 14 false 67 b37) rfl rfl (by exact Rd.ix T rfl rfl rfl rfl rfl rfl y36) ?_
 refine U.pq 2 14 false 67 b37 T ?_
 refine U.pk' b37 ?_
 refine U.done ?_
 exact St.wa [some 0] (j33 _ g)
 refine C.exit (C.ex (C.ex (C.bex ?_)))
 exact St.wk (j23 _ g) (Wk.mk' [] rfl rfl trivial trivial rfl)
 refine U.start (U.ps 3 T rfl ?_)
 refine g.cs (fun b15 g=>?_) fun b15 g=>?_
 refine U.sk' 5 2 false 31 b15 ?_
 refine U.pk b15 ?_
 refine U.ps 1 T rfl (U.sk' 5 9 false 38 rfl ?_)
 refine U.pk rfl ?_
 refine U.done ?_
 exact St.wa [some 0] (j14 _ g)
 refine U.pq 5 2 false 31 b15 T ?_
 refine U.pk' b15 ?_
 refine U.ps 1 T rfl ?_
 refine g.cs (fun b16 g=>?_) fun b16 g=>?_
 refine U.sk' 5 9 false 38 b16 ?_
 refine U.pk b16 ?_
 refine U.done ?_
 exact St.wa [some 0] (j14 _ g)
 refine U.pq 5 9 false 38 b16 T ?_
 refine U.pk' b16 ?_
 refine U.done ?_
 exact St.wa [some 0] (j14 _ g)
 refine U.start (U.ps 9 T rfl ?_)
 refine g.cs (fun b5 g=>?_) fun b5 g=>?_
 refine U.sk' 3 8 false 14 b5 ?_
 refine U.pk b5 ?_
 refine U.ps 1 T rfl (U.sk' 6 13 false 19 rfl ?_)
 refine U.pk rfl ?_
 refine U.done ?_
 exact St.wa [some 0] (j4 _ g)
 refine U.pq 3 8 false 14 b5 T ?_
 refine U.pk' b5 ?_
 refine U.ps 1 T rfl ?_
 refine g.cs (fun b6 g=>?_) fun b6 g=>?_
 refine U.sk' 6 13 false 19 b6 ?_
 refine U.pk b6 ?_
 refine U.done ?_
 exact St.wa [some 0] (j4 _ g)
 refine U.pq 6 13 false 19 b6 T ?_
 refine U.pk' b6 ?_
 refine U.done ?_
 exact St.wa [some 0] (j4 _ g)
theorem Q1r (f:Q6) (post:Q7→Prop) (g:GO f post):
  Tr Tryz.prog 60 [.agg (Qd f)] [] 0 (fun A H' k=>∃y,post y∧A=(.p 11 0)∧H'=[(0,.val (.os 5 Q9 y.site.Zones)),(1,.val (.os 2 Qa y.site.Aparts)),(2,.val (.os 2 Qc y.site.Shelves)),(3,.val (.os 2 Qb y.site.Robots)),(4,.val (.om kI veI y.shelf)),(5,.val (.om kI veB y.robot)),(6,.val (.om kI veB y.zoned)),(7,.val (.om kS veI y.names)),(8,.val (.om kI veB y.oneways)),(9,.val (.os 1 eI y.shelves)),(10,.val (.os 1 eI y.zones)),(11,.box [.i y.site.Floor.W,.i y.site.Floor.H,.i y.site.Floor.D,.sl 1 eI y.site.Floor.Kind,.sl 1 eI y.site.Floor.Out,.o 0,.o 1,.o 2,.o 3,.o 4,.o 5,.o 6,.o 7,.o 8,.o 9,.o 10])]∧k=12):=by
 refine Tr.go Tryz.func60 Tryz.ntmps60 fun _ _ _ _ o=>?_
 unfold GO at g
 refine C.ss (U.bx ?_)
 refine U.pd 1 T (C.xt ?_)
 refine U.ps 2 T rfl (U.e1 rfl (.none rfl) (by exact Eff1.mm kI veI rfl rfl rfl) ?_)
 refine U.e1 rfl (.none rfl) (by exact Eff1.mm kI veB rfl rfl rfl) ?_
 refine U.e1 rfl (.none rfl) (by exact Eff1.mm kI veB rfl rfl rfl) ?_
 refine U.e1 rfl (.none rfl) (by exact Eff1.mm kS veI rfl rfl rfl) ?_
 refine U.e1 rfl (.none rfl) (by exact Eff1.mm kI veB rfl rfl rfl) ?_
 refine U.ps 1 T rfl (U.bx ?_)
 refine U.pd 1 T (C.nx (C.ret ?_))
 exact C.g1 [none,none,none,none,some 1,some 2,some 3,some 4,some 5,none,none,some 6] T o ⟨({site:=({Floor:=f,Zones:=[],Aparts:=[],Shelves:=[],Robots:=[]:ApiSite}),shelf:=([]:List (Int×Int)),robot:=([]:List (Int×Bool)),zoned:=([]:List (Int×Bool)),names:=([]:List (ByteArray×Int)),oneways:=([]:List (Int×Bool)),shelves:=[],zones:=[]:Q7}),g,rfl,rfl,rfl⟩
def Qar:Go.Shelf.Ren:=⟨fun | 137=>137 | 217=>198 | 266=>220 | n=>n,fun | 3=>3 | 5=>5 | 9=>9 | n=>n,fun n=>n⟩
theorem Q9F:Go.Proofs.Lays.n137 Tryz.prog Qar where
 mixed:=by kernel_rfl
 f137:=Tryz.func137.trans (congrArg some (by kernel_rfl))
 f217:=Tryz.func198.trans (congrArg some (by kernel_rfl))
 f266:=Tryz.func220.trans (congrArg some (by kernel_rfl))
 t3:=Tryz.underlying3
 a3:=Tryz.isAgg3
 z3:=Tryz.sizeOf3
 v3:=Tryz.zeroValue3
 t5:=Tryz.underlying5
 a5:=Tryz.isAgg5
 z5:=Tryz.sizeOf5
 v5:=Tryz.zeroValue5
 t9:=Tryz.underlying9
 a9:=Tryz.isAgg9
 z9:=Tryz.sizeOf9
 v9:=Tryz.zeroValue9
theorem Q0A (s_1:ByteArray) (c:Int) (post:Int→Prop) (g:Ye s_1 c post):
  Tr Tryz.prog 137 [.v (.string s_1),.v (.int .u8 c)] [] 0 (pI post):=Tr.indexByte Q9F s_1 c g
theorem WT (s_1:ByteArray) (post:Bool→Prop) (g:GL s_1 post):
  Tr Tryz.prog 61 [.v (.string s_1)] [] 0 (pB post):=by
 refine Tr.go Tryz.func61 Tryz.ntmps61 fun _ _ _ _ o=>?_
 unfold GL at g
 refine C.ss (U.pd 1 T (C.xs (C.seq ?_)))
 refine C.jn (fun (x3:Bool)=>[(0,.v (.string s_1)),(21,.b x3)]) (fun x3=>[]) 0 g (fun x3 g=>?_) fun J4 g j4=>?_
 refine C.nx ?_
 refine C.ite rfl g (fun b9 g=>?_) fun b9 g=>?_
 refine C.ss (U.pd 1 T (C.nx (C.ret (C.rt ?_))))
 exact C.f1 T o (pBi g)
 refine C.skip (C.xs (C.ss (U.pd 3 T (C.nx ?_))))
 refine C.jn (fun (x14:Unit)=>[]) (fun x14=>[]) 0 g (fun x14 g=>?_) fun J15 g j15=>?_
 refine C.xt (U.pd 1 T (C.nx (C.ret ?_)))
 exact C.f1 T o (pBi g)
 refine C.block (St.wk (C.loop (fun (s16:Int)=>[(0,.v (.string s_1)),(23,.i (s_1.size:Int)),(24,.i s16)]) (fun s16=>[]) g (fun s16 Y17 g=>?_)) (Wk.e))
 refine C.ss (U.pd 1 T (C.xs ?_))
 refine C.ite rfl g (fun b20 g=>?_) fun b20 g=>?_
 refine C.skip (C.xs (C.block (C.ss (U.pd 2 T (C.xt ?_)))))
 refine U.ps 2 T rfl ?_
 obtain⟨x25,y25,g⟩:=g
 refine U.r rfl (.none rfl) rfl rfl (by exact Rd.ib T rfl rfl rfl rfl y25) ?_
 refine U.k (Q0A (ByteArray.mk #[97,98,99,100,101,102,103,104,105,106,107,108,109,110,111,112,113,114,115,116,117,118,119,120,121,122,65,66,67,68,69,70,71,72,73,74,75,76,77,78,79,80,81,82,83,84,85,86,87,88,89,90,48,49,50,51,52,53,54,55,56,57,95,45]) (x25.toNat:Int) _ g) QaM fun x26 g=>?_
 refine U.pd 1 T (C.nx ?_)
 refine C.ite rfl g (fun b27 g=>?_) fun b27 g=>?_
 refine C.ss (U.pd 1 T (C.nx (C.ret (C.brt (C.rt (C.rt (C.brt (C.rt ?_))))))))
 exact C.f1 T o (pBi g)
 refine C.skip (C.bnx (C.nx (U.start (U.pd 2 T (C.nx ?_)))))
 exact St.wk (C.next g) (Wk.e)
 refine C.exit (C.ex (C.ex (C.bex ?_)))
 exact St.wk (j15 _ g) (Wk.mk' [] rfl rfl trivial trivial rfl)
 refine U.start (U.ps 4 T rfl ?_)
 refine g.cs (fun b5 g=>?_) fun b5 g=>?_
 refine U.sk' 3 3 false 7 b5 ?_
 refine U.pk b5 ?_
 refine U.ps 1 T rfl (U.sk' 4 8 false 12 rfl ?_)
 refine U.sku 3 12 true 16 rfl rfl rfl ?_
 refine U.sk' 1 8 false 12 rfl ?_
 refine U.pk rfl ?_
 refine U.done ?_
 exact St.wn (j4 _ g)
 refine U.pq 3 3 false 7 b5 T ?_
 refine U.pk' b5 ?_
 refine U.ps 1 T rfl ?_
 refine g.cs (fun b6 g=>?_) fun b6 g=>?_
 refine U.sk' 4 8 false 12 b6 ?_
 refine U.sku 3 12 true 16 rfl rfl rfl ?_
 refine U.sk' 1 8 false 12 b6 ?_
 refine U.pk b6 ?_
 refine U.done ?_
 exact St.wn (j4 _ g)
 refine U.pq 1 8 false 12 b6 T ?_
 obtain⟨x7,y7,g⟩:=g
 refine U.r rfl (.tk 8 false 12 b6) rfl rfl (by exact Rd.ib T rfl rfl rfl rfl y7) ?_
 refine U.pq 2 8 false 12 b6 T ?_
 refine g.cs (fun b8 g=>?_) fun b8 g=>?_
 refine U.pq 1 12 true 16 b8 T ?_
 refine U.r rfl (.tk 12 true 16 b8) rfl rfl (by exact Rd.ib T rfl rfl rfl rfl y7) ?_
 refine U.pq 1 12 true 16 b8 T ?_
 refine U.r rfl (.tk 8 false 12 b6) rfl rfl (by exact Rd.pk rfl rfl b8 rfl) ?_
 refine U.pk' b6 ?_
 refine U.done ?_
 exact St.wn (j4 _ g)
 refine U.sk' 3 12 true 16 b8 ?_
 refine U.r rfl (.tk 8 false 12 b6) rfl rfl (by exact Rd.pk' rfl rfl b8 rfl) ?_
 refine U.pk' b6 ?_
 refine U.done ?_
 exact St.wn (j4 _ g)
theorem ZM (n:Int) (from_1:Int) (to_1:Int) (post:Bool→Prop) (g:GB n from_1 to_1 post):
  Tr Tryz.prog 62 [.i n,.i from_1,.i to_1] [] 0 (pB post):=by
 refine Tr.go Tryz.func62 Tryz.ntmps62 fun _ _ _ _ o=>?_
 unfold GB at g
 refine C.ss (U.pd 1 T (C.xs ?_))
 refine C.jn (fun (x3:Bool)=>[(6,.b x3)]) (fun x3=>[]) 0 g (fun x3 g=>?_) fun J4 g j4=>?_
 refine C.nx (C.ret ?_)
 exact C.f1 T o (pBi g)
 refine U.start (U.ps 4 T rfl ?_)
 refine g.cs (fun b5 g=>?_) fun b5 g=>?_
 refine U.pq 3 3 true 10 b5 T ?_
 refine U.pk b5 ?_
 refine U.pd 1 T ?_
 exact St.wn (j4 _ g)
 refine U.sk' 3 3 true 10 b5 ?_
 refine U.pk' b5 ?_
 refine U.pd 1 T ?_
 exact St.wn (j4 _ g)
theorem Q4H (l:List G6) (post:Bool→Prop) (g:Zd l post):
  Tr Tryz.prog 63 [.sl 2 G3 l] [] 0 (pB post):=by
 refine Tr.go Tryz.func63 Tryz.ntmps63 fun _ _ _ _ o=>?_
 unfold Zd at g
 refine C.ss (U.pd 1 T (C.xt ?_))
 refine U.pd 1 T (C.xs (C.ss ?_))
 refine U.pd 3 T (C.nx ?_)
 refine C.jn (fun (x7:Unit)=>[]) (fun x7=>[]) 0 g (fun x7 g=>?_) fun J8 g j8=>?_
 refine C.xt (U.pd 1 T (C.nx (C.ret ?_)))
 exact C.f1 T o (pBi g)
 refine C.block (St.wk (C.loop (fun (s9:Int×Int)=>[(3,.i s9.1),(6,.sl 2 G3 l),(7,.i (l.length:Int)),(8,.i s9.2)]) (fun s9=>[]) g (fun s9 Y10 g=>?_)) (Wk.e))
 refine C.ss (U.pd 1 T (C.xs ?_))
 refine C.ite rfl g (fun b13 g=>?_) fun b13 g=>?_
 refine C.skip (C.xs (C.block (C.ss ?_)))
 obtain⟨x16,y16,g⟩:=g
 refine U.ix T y16 ?_
 refine U.ps 1 T rfl (U.al T ?_)
 refine U.st T ?_
 refine U.done (C.xs (C.seq ?_))
 refine C.jn (fun (x17:Bool)=>[(5,.p 0 0),(6,.sl 2 G3 l),(7,.i (l.length:Int)),(8,.i s9.2),(27,.b x17)]) (fun x17=>[(0,.box [.i x16.From,.i x16.To])]) 1 g (fun x17 g=>?_) fun J18 g j18=>?_
 refine C.nx ?_
 refine C.ite rfl g (fun b21 g=>?_) fun b21 g=>?_
 refine C.ss (U.pd 1 T (C.nx (C.ret (C.rt (C.brt (C.rt (C.rt (C.brt (C.rt ?_)))))))))
 exact C.f1 T o (pBi g)
 refine C.skip (C.nx (U.start (U.pd 3 T (C.bnx (C.nx (U.start ?_))))))
 refine U.pd 2 T (C.nx ?_)
 exact St.wk (C.next g) (Wk.e)
 refine U.start (U.ps 5 T rfl ?_)
 refine g.cs (fun b19 g=>?_) fun b19 g=>?_
 refine U.sk' 5 4 false 16 b19 ?_
 refine U.pk b19 ?_
 refine U.ps 1 T rfl (U.sk' 3 11 false 23 rfl ?_)
 refine U.pk rfl ?_
 refine U.done ?_
 exact St.wa [some 0] (j18 _ g)
 refine U.pq 5 4 false 16 b19 T ?_
 refine U.pk' b19 ?_
 refine U.ps 1 T rfl ?_
 refine g.cs (fun b20 g=>?_) fun b20 g=>?_
 refine U.sk' 3 11 false 23 b20 ?_
 refine U.pk b20 ?_
 refine U.done ?_
 exact St.wa [some 0] (j18 _ g)
 refine U.pq 3 11 false 23 b20 T ?_
 refine U.pk' b20 ?_
 refine U.done ?_
 exact St.wa [some 0] (j18 _ g)
 refine C.exit (C.ex (C.ex (C.bex ?_)))
 exact St.wk (j8 _ g) (Wk.mk' [] rfl rfl trivial trivial rfl)
theorem Xw (m:Q7) (c:Int) (post:(Int×Bool)→Prop) (g:QP m c post):
  Tr Tryz.prog 138 [.rp [.i m.site.Floor.W,.i m.site.Floor.H,.i m.site.Floor.D,.sl 1 eI m.site.Floor.Kind,.sl 1 eI m.site.Floor.Out,.sl 5 Q9 m.site.Zones,.sl 2 Qa m.site.Aparts,.sl 2 Qc m.site.Shelves,.sl 2 Qb m.site.Robots,.rm kI veI m.shelf,.rm kI veB m.robot,.rm kI veB m.zoned,.rm kS veI m.names,.rm kI veB m.oneways,.sl 1 eI m.shelves,.sl 1 eI m.zones],.i c] [] 0 (fun A H' k=>∃y,post y∧A=(.tup [.i y.1,.b y.2])∧H'=[]∧k=0):=by
 refine Tr.go Tryz.func138 Tryz.ntmps138 fun _ _ _ _ o=>?_
 unfold QP at g
 refine C.ss (U.pd 2 T (C.xs (C.seq ?_)))
 refine C.jn (fun (x3:Bool)=>[(0,.rp [.i m.site.Floor.W,.i m.site.Floor.H,.i m.site.Floor.D,.sl 1 eI m.site.Floor.Kind,.sl 1 eI m.site.Floor.Out,.sl 5 Q9 m.site.Zones,.sl 2 Qa m.site.Aparts,.sl 2 Qc m.site.Shelves,.sl 2 Qb m.site.Robots,.rm kI veI m.shelf,.rm kI veB m.robot,.rm kI veB m.zoned,.rm kS veI m.names,.rm kI veB m.oneways,.sl 1 eI m.shelves,.sl 1 eI m.zones]),(1,.i c),(18,.b x3)]) (fun x3=>[]) 0 g (fun x3 g=>?_) fun J4 g j4=>?_
 refine C.nx ?_
 refine C.ite rfl g (fun b6 g=>?_) fun b6 g=>?_
 refine C.ss (U.pd 2 T (C.nx (C.ret (C.rt ?_))))
 exact C.f9 T o ⟨(0,false),g,rfl,rfl,rfl⟩
 refine C.skip (C.xt (U.ps 7 T rfl ?_))
 obtain⟨x11,y11,g⟩:=g
 refine U.ix T y11 ?_
 refine U.pd 3 T (C.nx (C.ret ?_))
 exact C.f9 T o ⟨(x11,true),g,rfl,rfl,rfl⟩
 refine U.start (U.ps 3 T rfl ?_)
 refine g.cs (fun b5 g=>?_) fun b5 g=>?_
 refine U.sk' 9 2 false 8 b5 ?_
 refine U.pk b5 ?_
 refine U.done ?_
 exact St.wn (j4 _ g)
 refine U.pq 9 2 false 8 b5 T ?_
 refine U.pk' b5 ?_
 refine U.done ?_
 exact St.wn (j4 _ g)
theorem Q04 (m:Q7) (l:List Int) (post:Bool→Prop) (g:GP m l post):
  Tr Tryz.prog 64 [.rp [.i m.site.Floor.W,.i m.site.Floor.H,.i m.site.Floor.D,.sl 1 eI m.site.Floor.Kind,.sl 1 eI m.site.Floor.Out,.sl 5 Q9 m.site.Zones,.sl 2 Qa m.site.Aparts,.sl 2 Qc m.site.Shelves,.sl 2 Qb m.site.Robots,.rm kI veI m.shelf,.rm kI veB m.robot,.rm kI veB m.zoned,.rm kS veI m.names,.rm kI veB m.oneways,.sl 1 eI m.shelves,.sl 1 eI m.zones],.sl 1 eI l] [] 0 (pB post):=by
 refine Tr.go Tryz.func64 Tryz.ntmps64 fun _ _ _ _ o=>?_
 unfold GP at g
 refine C.ss (U.pd 1 T (C.xs (C.ss ?_)))
 refine U.pd 3 T (C.nx ?_)
 refine C.jn (fun (x5:Unit)=>[(1,.sl 1 eI l)]) (fun x5=>[]) 0 g (fun x5 g=>?_) fun J6 g j6=>?_
 refine C.xt (U.pd 4 T (C.nx (C.ret ?_)))
 exact C.f1 T o (pBi g)
 refine C.block ?_
 refine St.wk (C.loop (fun (s7:Int)=>[(0,.rp [.i m.site.Floor.W,.i m.site.Floor.H,.i m.site.Floor.D,.sl 1 eI m.site.Floor.Kind,.sl 1 eI m.site.Floor.Out,.sl 5 Q9 m.site.Zones,.sl 2 Qa m.site.Aparts,.sl 2 Qc m.site.Shelves,.sl 2 Qb m.site.Robots,.rm kI veI m.shelf,.rm kI veB m.robot,.rm kI veB m.zoned,.rm kS veI m.names,.rm kI veB m.oneways,.sl 1 eI m.shelves,.sl 1 eI m.zones]),(1,.sl 1 eI l),(9,.sl 1 eI l),(10,.i (l.length:Int)),(11,.i s7)]) (fun s7=>[]) g (fun s7 Y8 g=>?_)) (Wk.e)
 refine C.ss (U.pd 1 T (C.xs ?_))
 refine C.ite rfl g (fun b11 g=>?_) fun b11 g=>?_
 refine C.skip (C.xs (C.block (C.ss (U.ps 1 T rfl ?_))))
 obtain⟨x14,y14,g⟩:=g
 refine U.ix T y14 ?_
 refine U.pd 3 T (C.xt ?_)
 refine U.ps 2 T rfl (U.k (Xw m x14 _ g) Q8j (fun x17 g=>?_))
 refine U.pd 5 T (C.xs ?_)
 refine C.jn (fun (x18:Bool)=>[(0,.rp [.i m.site.Floor.W,.i m.site.Floor.H,.i m.site.Floor.D,.sl 1 eI m.site.Floor.Kind,.sl 1 eI m.site.Floor.Out,.sl 5 Q9 m.site.Zones,.sl 2 Qa m.site.Aparts,.sl 2 Qc m.site.Shelves,.sl 2 Qb m.site.Robots,.rm kI veI m.shelf,.rm kI veB m.robot,.rm kI veB m.zoned,.rm kS veI m.names,.rm kI veB m.oneways,.sl 1 eI m.shelves,.sl 1 eI m.zones]),(1,.sl 1 eI l),(9,.sl 1 eI l),(10,.i (l.length:Int)),(11,.i s7),(36,.b x18)]) (fun x18=>[]) 0 g (fun x18 g=>?_) fun J19 g j19=>?_
 refine C.nx ?_
 refine C.ite rfl g (fun b23 g=>?_) fun b23 g=>?_
 refine C.ss (U.pd 1 T (C.nx (C.ret (C.brt (C.rt (C.rt (C.brt (C.rt ?_))))))))
 exact C.f1 T o (pBi g)
 refine C.skip (C.bnx (C.nx (U.start (U.pd 2 T (C.nx ?_)))))
 exact St.wk (C.next g) (Wk.e)
 refine U.start (U.ps 3 T rfl ?_)
 refine g.cs (fun b20 g=>?_) fun b20 g=>?_
 refine U.pq 3 2 false 24 (ntF b20) T ?_
 refine g.cs (fun b21 g=>?_) fun b21 g=>?_
 refine U.pq 3 5 true 27 b21 T ?_
 obtain⟨x22,y22,g⟩:=g
 refine U.r rfl (.tk 5 true 27 b21) rfl rfl (by exact Rd.ix T rfl rfl rfl rfl rfl rfl y22) ?_
 refine U.pq 3 5 true 27 b21 T ?_
 refine U.r rfl (.tk 2 false 24 (ntF b20)) rfl rfl (by exact Rd.pk rfl rfl b21 rfl) ?_
 refine U.pk' (ntF b20) ?_
 refine U.done ?_
 exact St.wn (j19 _ g)
 refine U.sk' 7 5 true 27 b21 ?_
 refine U.r rfl (.tk 2 false 24 (ntF b20)) rfl rfl (by exact Rd.pk' rfl rfl b21 rfl) ?_
 refine U.pk' (ntF b20) ?_
 refine U.done ?_
 exact St.wn (j19 _ g)
 refine U.sk' 3 2 false 24 (ntT b20) ?_
 refine U.sku 7 5 true 27 rfl rfl rfl ?_
 refine U.sk' 1 2 false 24 (ntT b20) ?_
 refine U.pk (ntT b20) ?_
 refine U.done ?_
 exact St.wn (j19 _ g)
 refine C.exit (C.ex (C.ex (C.bex ?_)))
 exact St.wn (j6 _ g)
theorem Q30 (kind:Int) (post:Bool→Prop) (g:YF kind post):
  Tr Tryz.prog 139 [.i kind] [] 0 (pB post):=by
 refine Tr.go Tryz.func139 Tryz.ntmps139 fun _ _ _ _ o=>?_
 unfold YF at g
 refine C.ss (U.pd 1 T (C.xs ?_))
 refine C.jn (fun (x3:Bool)=>[(2,.b x3)]) (fun x3=>[]) 0 g (fun x3 g=>?_) fun J4 g j4=>?_
 refine C.nx (C.ret ?_)
 exact C.f1 T o (pBi g)
 refine U.start (U.ps 3 T rfl ?_)
 refine g.cs (fun b5 g=>?_) fun b5 g=>?_
 refine U.pq 2 2 true 5 b5 T ?_
 refine U.pk b5 ?_
 refine U.ps 1 T rfl ?_
 refine g.cs (fun b6 g=>?_) fun b6 g=>?_
 refine U.pq 2 6 true 9 b6 T ?_
 refine U.pk b6 ?_
 refine U.pd 1 T ?_
 exact St.wn (j4 _ g)
 refine U.sk' 2 6 true 9 b6 ?_
 refine U.pk' b6 ?_
 refine U.pd 1 T ?_
 exact St.wn (j4 _ g)
 refine U.sk' 2 2 true 5 b5 ?_
 refine U.pk' b5 ?_
 refine U.ps 1 T rfl (U.sk' 2 6 true 9 rfl ?_)
 refine U.pk' rfl ?_
 refine U.pd 1 T ?_
 exact St.wn (j4 _ g)
theorem Ys (z:ApiZone) (m:Q7) (post:(Int×Q7)→Prop) (g:Xr z m post):
  Tr Tryz.prog 65 [.p 0 0,.agg (Q9 z)] [(0,.box [.i m.site.Floor.W,.i m.site.Floor.H,.i m.site.Floor.D,.sl 1 eI m.site.Floor.Kind,.sl 1 eI m.site.Floor.Out,.o 1,.o 2,.o 3,.o 4,.o 5,.o 6,.o 7,.o 8,.o 9,.o 10,.o 11]),(1,.val (.os 5 Q9 m.site.Zones)),(2,.val (.os 2 Qa m.site.Aparts)),(3,.val (.os 2 Qc m.site.Shelves)),(4,.val (.os 2 Qb m.site.Robots)),(5,.val (.om kI veI m.shelf)),(6,.val (.om kI veB m.robot)),(7,.val (.om kI veB m.zoned)),(8,.val (.om kS veI m.names)),(9,.val (.om kI veB m.oneways)),(10,.val (.os 1 eI m.shelves)),(11,.val (.os 1 eI m.zones))] 12 (fun A H' k=>∃y,post y∧A=(.i y.1)∧H'=[(0,.box [.i y.2.site.Floor.W,.i y.2.site.Floor.H,.i y.2.site.Floor.D,.sl 1 eI y.2.site.Floor.Kind,.sl 1 eI y.2.site.Floor.Out,.o 12,.o 13,.o 14,.o 15,.o 16,.o 17,.o 18,.o 19,.o 20,.o 21,.o 22]),(12,.val (.os 5 Q9 y.2.site.Zones)),(13,.val (.os 2 Qa y.2.site.Aparts)),(14,.val (.os 2 Qc y.2.site.Shelves)),(15,.val (.os 2 Qb y.2.site.Robots)),(16,.val (.om kI veI y.2.shelf)),(17,.val (.om kI veB y.2.robot)),(18,.val (.om kI veB y.2.zoned)),(19,.val (.om kS veI y.2.names)),(20,.val (.om kI veB y.2.oneways)),(21,.val (.os 1 eI y.2.shelves)),(22,.val (.os 1 eI y.2.zones))]∧k=23):=by
 refine Tr.go Tryz.func65 Tryz.ntmps65 fun _ _ _ _ o=>?_
 unfold Xr at g
 refine C.ss (U.bx ?_)
 refine U.pd 1 T (C.xs (C.seq ?_))
 refine D.bq mix 9999 [0,8,12] [] (fun hQ hS ws M'=>?_)
 refine D.pq 6 (zl [0,1,2,3,4,5]) T ?_
 refine D.q 6 [] hQ hS rfl (.none rfl) rfl rfl (by exact Rd.lk2 T (ke:=kS) (ve:=veI) (xs:=m.names) (z0:=0) (x:=z.Name) rfl rfl kt9 zt3 (fun _=>rfl) rfl (.o rfl) rfl rfl rfl) rfl (by kernel_rfl) ?_
 refine D.pq 5 (zl [7,8,9,10,11]) T ?_
 refine D.done (by kernel_rfl) ?_
 refine C.xt (U.pd 1 T (C.nx ?_))
 refine C.ite rfl g (fun b7 g=>?_) fun b7 g=>?_
 refine C.ss (U.pd 1 T (C.nx (C.ret (C.rt ?_))))
 exact C.g1 [some 0,some 1,some 2,some 3,some 4,some 5,some 6,some 7,some 8,some 9,some 10,some 11,some 1,some 2,some 3,some 4,some 5,some 6,some 7,some 8,some 9,some 10,some 11] T o ⟨(5,m),g,rfl,rfl,rfl⟩
 refine C.skip (C.xs (C.ss (U.pd 7 T (C.nx ?_))))
 refine C.ite rfl g (fun b12 g=>?_) fun b12 g=>?_
 refine C.ss (U.pd 1 T (C.nx (C.ret (C.rt ?_))))
 exact C.g1 [some 0,some 1,some 2,some 3,some 4,some 5,some 6,some 7,some 8,some 9,some 10,some 11,some 1,some 2,some 3,some 4,some 5,some 6,some 7,some 8,some 9,some 10,some 11] T o ⟨(6,m),g,rfl,rfl,rfl⟩
 refine C.skip (C.xs (C.ss (U.pd 4 T (C.nx ?_))))
 refine C.jn (fun (x17:Unit)=>[(0,.p 0 0),(3,.p 12 0)]) (fun x17=>[(0,.box [.i m.site.Floor.W,.i m.site.Floor.H,.i m.site.Floor.D,.sl 1 eI m.site.Floor.Kind,.sl 1 eI m.site.Floor.Out,.o 1,.o 2,.o 3,.o 4,.o 5,.o 6,.o 7,.o 8,.o 9,.o 10,.o 11]),(1,.val (.os 5 Q9 m.site.Zones)),(2,.val (.os 2 Qa m.site.Aparts)),(3,.val (.os 2 Qc m.site.Shelves)),(4,.val (.os 2 Qb m.site.Robots)),(5,.val (.om kI veI m.shelf)),(6,.val (.om kI veB m.robot)),(7,.val (.om kI veB m.zoned)),(8,.val (.om kS veI m.names)),(9,.val (.om kI veB m.oneways)),(10,.val (.os 1 eI m.shelves)),(11,.val (.os 1 eI m.zones)),(12,.box (Q9 z))]) 13 g (fun x17 g=>?_) fun J18 g j18=>?_
 refine C.xs (C.ss (U.pd 4 T (C.nx ?_)))
 refine C.jn (fun (x41:List (Int×Bool))=>[(0,.p 0 0),(3,.p 12 0)]) (fun x41=>[(0,.box [.i m.site.Floor.W,.i m.site.Floor.H,.i m.site.Floor.D,.sl 1 eI m.site.Floor.Kind,.sl 1 eI m.site.Floor.Out,.o 1,.o 2,.o 3,.o 4,.o 5,.o 6,.o 7,.o 8,.o 9,.o 10,.o 11]),(1,.val (.os 5 Q9 m.site.Zones)),(2,.val (.os 2 Qa m.site.Aparts)),(3,.val (.os 2 Qc m.site.Shelves)),(4,.val (.os 2 Qb m.site.Robots)),(5,.val (.om kI veI m.shelf)),(6,.val (.om kI veB m.robot)),(7,.val (.om kI veB x41)),(8,.val (.om kS veI m.names)),(9,.val (.om kI veB m.oneways)),(10,.val (.os 1 eI m.shelves)),(11,.val (.os 1 eI m.zones)),(12,.box (Q9 z))]) 13 g (fun x41 g=>?_) fun J42 g j42=>?_
 refine C.xs (D.bq mix 12 [0,12] [] (fun hQ hS ws M'=>?_))
 refine D.pq 12 (zl [0,1,2,3,4,5,6,7,8,9,10,11]) T ?_
 refine D.ze1 rfl (.none rfl) (by exact Eff1.mu T (x:=z.Name) (y:=(m.site.Zones.length:Int)) (.inl rfl) rfl kt9 (fun _=>rfl) rfl rfl rfl rfl rfl (.inl rfl) rfl) (by kernel_rfl) (by kernel_rfl) ?_
 refine C.xs (D.bq mix 12 [0,12] [1] (fun hQ hS ws M'=>?_))
 refine D.pq 7 (zl [0,1,2,3,4,5,6]) T ?_
 refine D.e1 7 rfl (.none rfl) (by exact Eff1.bs T (enc:=Q9) (xs:=([z]:List ApiZone)) rfl rfl rfl rfl rfl rfl rfl rfl rfl rfl (fun _ _=>rfl) rfl rfl) (by kernel_rfl) rfl rfl ?_
 obtain⟨y59,g⟩:=g
 refine D.e1 8 rfl (.none rfl) (by exact Eff1.ap T rfl rfl rfl rfl rfl rfl (.inr ⟨_,rfl,rfl⟩) rfl rfl rfl (fun _=>rfl) rfl y59) (by kernel_rfl) rfl rfl ?_
 refine D.pq 3 [(9,[11,10]),(10,[11]),(11,[])] T ?_
 refine D.ze1 rfl (.none rfl) (by exact Eff1.st T rfl rfl rfl rfl rfl rfl rfl rfl rfl rfl) (by kernel_rfl) (by kernel_rfl) ?_
 refine C.xt (U.pd 1 T (C.nx (C.ret ?_)))
 exact C.g1 [some 0,some 1,some 2,some 3,some 4,some 5,some 6,some 7,some 8,some 9,some 10,some 11,some 14,some 2,some 3,some 4,some 5,some 6,some 7,some 8,some 9,some 10,some 11] T o ⟨(0,({site:=({Floor:=m.site.Floor,Zones:=(m.site.Zones++([z]:List ApiZone)),Aparts:=m.site.Aparts,Shelves:=m.site.Shelves,Robots:=m.site.Robots:ApiSite}),shelf:=m.shelf,robot:=m.robot,zoned:=x41,names:=(upd m.names z.Name (m.site.Zones.length:Int)),oneways:=m.oneways,shelves:=m.shelves,zones:=m.zones:Q7})),g,rfl,rfl,rfl⟩
 refine C.block ?_
 refine St.wk (C.loop (fun (s43:List (Int×Bool)×Int)=>[(0,.p 0 0),(3,.p 12 0),(57,.sl 1 eI z.Cells),(58,.i (z.Cells.length:Int)),(59,.i s43.2)]) (fun s43=>[(0,.box [.i m.site.Floor.W,.i m.site.Floor.H,.i m.site.Floor.D,.sl 1 eI m.site.Floor.Kind,.sl 1 eI m.site.Floor.Out,.o 1,.o 2,.o 3,.o 4,.o 5,.o 6,.o 7,.o 8,.o 9,.o 10,.o 11]),(1,.val (.os 5 Q9 m.site.Zones)),(2,.val (.os 2 Qa m.site.Aparts)),(3,.val (.os 2 Qc m.site.Shelves)),(4,.val (.os 2 Qb m.site.Robots)),(5,.val (.om kI veI m.shelf)),(6,.val (.om kI veB m.robot)),(7,.val (.om kI veB s43.1)),(8,.val (.om kS veI m.names)),(9,.val (.om kI veB m.oneways)),(10,.val (.os 1 eI m.shelves)),(11,.val (.os 1 eI m.zones)),(12,.box (Q9 z))]) g (fun s43 Y44 g=>?_)) (Wk.a (idR 13))
 refine C.ss (U.pd 1 T (C.xs ?_))
 refine C.ite rfl g (fun b47 g=>?_) fun b47 g=>?_
 refine C.skip (C.xs (C.block (C.ss ?_)))
 obtain⟨x50,y50,g⟩:=g
 refine U.ix T y50 ?_
 refine U.pd 2 T (C.nx (U.start ?_))
 refine U.ps 5 T rfl (U.e1 rfl (.none rfl) (by exact Eff1.mu T (x:=x50) (y:=true) (.inl rfl) rfl kt3 (fun _=>rfl) rfl rfl rfl rfl rfl (.inl rfl) rfl) ?_)
 refine U.done (C.bnx (C.nx (U.start (U.pd 2 T (C.nx ?_)))))
 exact St.wk (C.next g) (Wk.a (idR 13))
 refine C.exit (C.ex (C.ex (C.bex ?_)))
 exact St.wa (idR 13) (j42 _ g)
 refine C.block ?_
 refine St.wk (C.loop (fun (s19:Int)=>[(0,.p 0 0),(3,.p 12 0),(32,.sl 1 eI z.Cells),(33,.i (z.Cells.length:Int)),(34,.i s19)]) (fun s19=>[(0,.box [.i m.site.Floor.W,.i m.site.Floor.H,.i m.site.Floor.D,.sl 1 eI m.site.Floor.Kind,.sl 1 eI m.site.Floor.Out,.o 1,.o 2,.o 3,.o 4,.o 5,.o 6,.o 7,.o 8,.o 9,.o 10,.o 11]),(1,.val (.os 5 Q9 m.site.Zones)),(2,.val (.os 2 Qa m.site.Aparts)),(3,.val (.os 2 Qc m.site.Shelves)),(4,.val (.os 2 Qb m.site.Robots)),(5,.val (.om kI veI m.shelf)),(6,.val (.om kI veB m.robot)),(7,.val (.om kI veB m.zoned)),(8,.val (.om kS veI m.names)),(9,.val (.om kI veB m.oneways)),(10,.val (.os 1 eI m.shelves)),(11,.val (.os 1 eI m.zones)),(12,.box (Q9 z))]) g (fun s19 Y20 g=>?_)) (Wk.a (idR 13))
 refine C.ss (U.pd 1 T (C.xs ?_))
 refine C.ite rfl g (fun b23 g=>?_) fun b23 g=>?_
 refine C.skip (C.xs (C.block (C.ss ?_)))
 obtain⟨x26,y26,g⟩:=g
 refine U.ix T y26 ?_
 refine U.pd 2 T (C.xt ?_)
 refine U.ps 2 T rfl (U.k (Xw m x26 _ g) Q8j (fun x29 g=>?_))
 refine U.pd 5 T (C.xs ?_)
 refine C.jn (fun (x30:Bool)=>[(0,.p 0 0),(3,.p 12 0),(32,.sl 1 eI z.Cells),(33,.i (z.Cells.length:Int)),(34,.i s19),(54,.b x30)]) (fun x30=>[(0,.box [.i m.site.Floor.W,.i m.site.Floor.H,.i m.site.Floor.D,.sl 1 eI m.site.Floor.Kind,.sl 1 eI m.site.Floor.Out,.o 1,.o 2,.o 3,.o 4,.o 5,.o 6,.o 7,.o 8,.o 9,.o 10,.o 11]),(1,.val (.os 5 Q9 m.site.Zones)),(2,.val (.os 2 Qa m.site.Aparts)),(3,.val (.os 2 Qc m.site.Shelves)),(4,.val (.os 2 Qb m.site.Robots)),(5,.val (.om kI veI m.shelf)),(6,.val (.om kI veB m.robot)),(7,.val (.om kI veB m.zoned)),(8,.val (.om kS veI m.names)),(9,.val (.om kI veB m.oneways)),(10,.val (.os 1 eI m.shelves)),(11,.val (.os 1 eI m.zones)),(12,.box (Q9 z))]) 13 g (fun x30 g=>?_) fun J31 g j31=>?_
 refine C.nx ?_
 refine C.ite rfl g (fun b34 g=>?_) fun b34 g=>?_
 refine C.ss (U.pd 1 T (C.nx (C.ret (C.brt (C.rt (C.rt (C.brt (C.rt ?_))))))))
 exact C.g1 [some 0,some 1,some 2,some 3,some 4,some 5,some 6,some 7,some 8,some 9,some 10,some 11,some 1,some 2,some 3,some 4,some 5,some 6,some 7,some 8,some 9,some 10,some 11] T o ⟨(13,m),g,rfl,rfl,rfl⟩
 refine C.skip (C.bnx (C.nx (U.start (U.pd 2 T (C.nx ?_)))))
 exact St.wk (C.next g) (Wk.a (idR 13))
 refine U.start (U.ps 1 T rfl (U.k (Q30 x29.1 _ g) QbB (fun x32 g=>?_)))
 refine U.ps 2 T rfl ?_
 refine g.cs (fun b33 g=>?_) fun b33 g=>?_
 refine U.pq 5 3 false 47 (ntF b33) T ?_
 refine U.r rfl (.tk 3 false 47 (ntF b33)) rfl rfl (by exact Rd.lk T (ke:=kI) (ve:=veB) (xs:=m.zoned) (z0:=false) (x:=x26) rfl rfl kt3 zt4 (fun _=>rfl) rfl (.o rfl) rfl rfl rfl) ?_
 refine U.pk' (ntF b33) ?_
 refine U.done ?_
 exact St.wa (idR 13) (j31 _ g)
 refine U.sk' 6 3 false 47 (ntT b33) ?_
 refine U.pk (ntT b33) ?_
 refine U.done ?_
 exact St.wa (idR 13) (j31 _ g)
 refine C.exit (C.ex (C.ex (C.bex ?_)))
 exact St.wa (idR 13) (j18 _ g)
theorem Wf (s_1:List ApiApart) (v:ApiApart) (post:Int→Prop) (g:Ke s_1 v post):
  Tr Tryz.prog 221 [.sl 2 Qa s_1,.agg [.v (.string v.A),.v (.string v.B)]] [] 0 (pI post):=by
 refine Tr.go Tryz.func221 Tryz.ntmps221 fun _ _ _ _ o=>?_
 unfold Ke at g
 refine C.ss (U.bx ?_)
 refine U.pd 1 T (C.xs (C.ss ?_))
 refine U.pd 3 T (C.nx ?_)
 refine C.jn (fun (x5:Unit)=>[]) (fun x5=>[]) 0 g (fun x5 g=>?_) fun J6 g j6=>?_
 refine C.xt (U.pd 1 T (C.nx (C.ret ?_)))
 exact C.f1 T o (pIi g)
 refine C.block (St.wk (C.loop (fun (s7:Int)=>[(0,.sl 2 Qa s_1),(3,.p 0 0),(7,.i (s_1.length:Int)),(8,.i s7)]) (fun s7=>[(0,.box [.v (.string v.A),.v (.string v.B)])]) g (fun s7 Y8 g=>?_)) (Wk.a [some 0]))
 refine C.ss (U.pd 1 T (C.xs ?_))
 refine C.ite rfl g (fun b11 g=>?_) fun b11 g=>?_
 refine C.skip (C.xs (C.block (C.ss (U.pd 2 T (C.xs ?_)))))
 refine D.bq mix 9999 [0] [] (fun hQ hS ws M'=>?_)
 refine D.pq 3 (zl [0,1,2]) T ?_
 obtain⟨x16,y16,g⟩:=g
 refine D.ix 3 [] T y16 ?_
 refine D.pq 1 [(4,[])] T ?_
 refine D.q 5 [] hQ hS rfl (.none rfl) rfl rfl (by exact Rd.eqs T rfl rfl Qap rfl rfl rfl) rfl (by kernel_rfl) ?_
 refine D.done (by kernel_rfl) ?_
 refine C.nx ?_
 refine C.ite rfl g (fun b17 g=>?_) fun b17 g=>?_
 refine C.ss (U.pd 2 T (C.nx (C.ret (C.brt (C.rt (C.rt (C.brt (C.rt ?_))))))))
 exact C.f1 T o (pIi g)
 refine C.skip (C.bnx (C.nx (U.start (U.pd 2 T (C.nx ?_)))))
 exact St.wk (C.next g) (Wk.a [some 0])
 refine C.exit (C.ex (C.ex (C.bex ?_)))
 exact St.wk (j6 _ g) (Wk.mk' [] rfl rfl trivial trivial rfl)
theorem X2 (s_1:List ApiApart) (v:ApiApart) (post:Bool→Prop) (g:QK s_1 v post):
  Tr Tryz.prog 199 [.sl 2 Qa s_1,.agg [.v (.string v.A),.v (.string v.B)]] [] 0 (pB post):=by
 refine Tr.go Tryz.func199 Tryz.ntmps199 fun _ _ _ _ o=>?_
 unfold QK at g
 refine C.ss (U.bx ?_)
 refine U.pd 1 T (C.xt ?_)
 refine U.ps 2 T rfl (U.k (Wf s_1 v _ g) QaV (fun x5 g=>?_))
 refine U.pd 2 T (C.nx (C.ret ?_))
 exact C.f1 T o (pBi g)
theorem Q0i (l:List ApiApart) (a:ByteArray) (b:ByteArray) (post:Bool→Prop) (g:WB l a b post):
  Tr Tryz.prog 140 [.sl 2 Qa l,.v (.string a),.v (.string b)] [] 0 (pB post):=by
 refine Tr.go Tryz.func140 Tryz.ntmps140 fun _ _ _ _ o=>?_
 unfold WB at g
 refine C.ss (U.pd 1 T (C.xs (C.seq ?_)))
 refine C.jn (fun (x3:Bool)=>[(0,.sl 2 Qa l),(1,.v (.string a)),(2,.v (.string b)),(12,.b x3)]) (fun x3=>[]) 0 g (fun x3 g=>?_) fun J4 g j4=>?_
 refine C.nx ?_
 refine C.ite rfl g (fun b6 g=>?_) fun b6 g=>?_
 refine C.ss (U.pd 1 T (C.nx (C.ret (C.rt ?_))))
 exact C.f1 T o (pBi g)
 refine C.skip (C.xs ?_)
 refine C.jn (fun (x9:Bool)=>[(6,.b x9)]) (fun x9=>[]) 0 g (fun x9 g=>?_) fun J10 g j10=>?_
 refine C.nx (C.ret ?_)
 exact C.f1 T o (pBi g)
 refine U.start (U.ps 4 T rfl (U.k (X2 l ({A:=a,B:=b:ApiApart}) _ g) Q9B (fun x11 g=>?_)))
 refine U.ps 1 T rfl ?_
 refine g.cs (fun b12 g=>?_) fun b12 g=>?_
 refine U.sk' 5 5 false 18 b12 ?_
 refine U.pk b12 ?_
 refine U.pd 1 T ?_
 exact St.wn (j10 _ g)
 refine U.pq 4 5 false 18 b12 T ?_
 refine U.k (X2 l ({A:=b,B:=a:ApiApart}) _ g) Q9B (fun x13 g=>?_) (hw:=.take 5 false 18 _ b12 rfl rfl rfl)
 refine U.pk' b12 ?_
 refine U.pd 1 T ?_
 exact St.wn (j10 _ g)
 refine U.start (U.ps 3 T rfl ?_)
 refine g.cs (fun b5 g=>?_) fun b5 g=>?_
 refine U.sk' 2 2 false 9 b5 ?_
 refine U.pk b5 ?_
 refine U.done ?_
 exact St.wn (j4 _ g)
 refine U.pq 2 2 false 9 b5 T ?_
 refine U.pk' b5 ?_
 refine U.done ?_
 exact St.wn (j4 _ g)
theorem Y9 (x_1:ApiApart) (m:Q7) (post:(Int×Q7)→Prop) (g:Xg x_1 m post):
  Tr Tryz.prog 66 [.p 0 0,.agg [.v (.string x_1.A),.v (.string x_1.B)]] [(0,.box [.i m.site.Floor.W,.i m.site.Floor.H,.i m.site.Floor.D,.sl 1 eI m.site.Floor.Kind,.sl 1 eI m.site.Floor.Out,.o 1,.o 2,.o 3,.o 4,.o 5,.o 6,.o 7,.o 8,.o 9,.o 10,.o 11]),(1,.val (.os 5 Q9 m.site.Zones)),(2,.val (.os 2 Qa m.site.Aparts)),(3,.val (.os 2 Qc m.site.Shelves)),(4,.val (.os 2 Qb m.site.Robots)),(5,.val (.om kI veI m.shelf)),(6,.val (.om kI veB m.robot)),(7,.val (.om kI veB m.zoned)),(8,.val (.om kS veI m.names)),(9,.val (.om kI veB m.oneways)),(10,.val (.os 1 eI m.shelves)),(11,.val (.os 1 eI m.zones))] 12 (fun A H' k=>∃y,post y∧A=(.i y.1)∧H'=[(0,.box [.i y.2.site.Floor.W,.i y.2.site.Floor.H,.i y.2.site.Floor.D,.sl 1 eI y.2.site.Floor.Kind,.sl 1 eI y.2.site.Floor.Out,.o 12,.o 13,.o 14,.o 15,.o 16,.o 17,.o 18,.o 19,.o 20,.o 21,.o 22]),(12,.val (.os 5 Q9 y.2.site.Zones)),(13,.val (.os 2 Qa y.2.site.Aparts)),(14,.val (.os 2 Qc y.2.site.Shelves)),(15,.val (.os 2 Qb y.2.site.Robots)),(16,.val (.om kI veI y.2.shelf)),(17,.val (.om kI veB y.2.robot)),(18,.val (.om kI veB y.2.zoned)),(19,.val (.om kS veI y.2.names)),(20,.val (.om kI veB y.2.oneways)),(21,.val (.os 1 eI y.2.shelves)),(22,.val (.os 1 eI y.2.zones))]∧k=23):=by
 refine Tr.go Tryz.func66 Tryz.ntmps66 fun _ _ _ _ o=>?_
 unfold Xg at g
 refine C.ss (U.bx ?_)
 refine U.pd 1 T (C.xs (C.seq ?_))
 refine C.jn (fun (x3:Bool)=>[(0,.p 0 0),(3,.p 12 0),(14,.b x3)]) (fun x3=>[(0,.box [.i m.site.Floor.W,.i m.site.Floor.H,.i m.site.Floor.D,.sl 1 eI m.site.Floor.Kind,.sl 1 eI m.site.Floor.Out,.o 1,.o 2,.o 3,.o 4,.o 5,.o 6,.o 7,.o 8,.o 9,.o 10,.o 11]),(1,.val (.os 5 Q9 m.site.Zones)),(2,.val (.os 2 Qa m.site.Aparts)),(3,.val (.os 2 Qc m.site.Shelves)),(4,.val (.os 2 Qb m.site.Robots)),(5,.val (.om kI veI m.shelf)),(6,.val (.om kI veB m.robot)),(7,.val (.om kI veB m.zoned)),(8,.val (.om kS veI m.names)),(9,.val (.om kI veB m.oneways)),(10,.val (.os 1 eI m.shelves)),(11,.val (.os 1 eI m.zones)),(12,.box [.v (.string x_1.A),.v (.string x_1.B)])]) 13 g (fun x3 g=>?_) fun J4 g j4=>?_
 refine C.nx ?_
 refine C.ite rfl g (fun b8 g=>?_) fun b8 g=>?_
 refine C.ss (U.pd 1 T (C.nx (C.ret (C.rt ?_))))
 exact C.g1 [some 0,some 1,some 2,some 3,some 4,some 5,some 6,some 7,some 8,some 9,some 10,some 11,some 1,some 2,some 3,some 4,some 5,some 6,some 7,some 8,some 9,some 10,some 11] T o ⟨(12,m),g,rfl,rfl,rfl⟩
 refine C.skip (C.xs (C.seq (D.bq mix 9 [0,12] [] (fun hQ hS ws M'=>?_))))
 refine D.pq 9 [(0,[4,3,2,1]),(1,[4,3,2]),(2,[4,3]),(3,[4]),(4,[]),(5,[6]),(6,[]),(7,[8]),(8,[])] T ?_
 refine D.ze rfl (.none rfl) (by exact Eff.k (Q0i m.site.Aparts x_1.A x_1.B _ g) Q9t rfl rfl rfl (.cons (.fz rfl rfl rfl (.os fun _=>.cons (.ro rfl) (.cons (.ro rfl) .nil))) (.eq rfl)) (fun _ _=>⟨(.v _),trivial⟩)) (by kernel_rfl) (by kernel_rfl) (fun x13' g=>?_)
 obtain⟨x13⟩:=x13'
 refine C.nx ?_
 refine C.ite rfl g (fun b14 g=>?_) fun b14 g=>?_
 refine C.ss (U.pd 1 T (C.nx (C.ret (C.rt ?_))))
 exact C.g1 [some 0,some 1,some 2,some 3,some 4,some 5,some 6,some 7,some 8,some 9,some 10,some 11,some 1,some 2,some 3,some 4,some 5,some 6,some 7,some 8,some 9,some 10,some 11] T o ⟨(5,m),g,rfl,rfl,rfl⟩
 refine C.skip (C.xs (D.bq mix 12 [0,12] [2] (fun hQ hS ws M'=>?_)))
 refine D.pq 7 (zl [0,1,2,3,4,5,6]) T ?_
 refine D.e1 7 rfl (.none rfl) (by exact Eff1.bs T (enc:=Qa) (xs:=([x_1]:List ApiApart)) rfl rfl rfl rfl rfl rfl rfl rfl rfl rfl (fun _ _=>rfl) rfl rfl) (by kernel_rfl) rfl rfl ?_
 obtain⟨y19,g⟩:=g
 refine D.e1 8 rfl (.none rfl) (by exact Eff1.ap T rfl rfl rfl rfl rfl rfl (.inr ⟨_,rfl,rfl⟩) rfl rfl rfl (fun _=>rfl) rfl y19) (by kernel_rfl) rfl rfl ?_
 refine D.pq 3 [(9,[11,10]),(10,[11]),(11,[])] T ?_
 refine D.ze1 rfl (.none rfl) (by exact Eff1.st T rfl rfl rfl rfl rfl rfl rfl rfl rfl rfl) (by kernel_rfl) (by kernel_rfl) ?_
 refine C.xt (U.pd 1 T (C.nx (C.ret ?_)))
 exact C.g1 [some 0,some 1,some 2,some 3,some 4,some 5,some 6,some 7,some 8,some 9,some 10,some 11,some 1,some 14,some 3,some 4,some 5,some 6,some 7,some 8,some 9,some 10,some 11] T o ⟨(0,({site:=({Floor:=m.site.Floor,Zones:=m.site.Zones,Aparts:=(m.site.Aparts++([x_1]:List ApiApart)),Shelves:=m.site.Shelves,Robots:=m.site.Robots:ApiSite}),shelf:=m.shelf,robot:=m.robot,zoned:=m.zoned,names:=m.names,oneways:=m.oneways,shelves:=m.shelves,zones:=m.zones:Q7})),g,rfl,rfl,rfl⟩
 refine U.start (U.ps 2 T rfl (U.k (WT x_1.A _ g) en61 (fun x5 g=>?_)))
 refine U.ps 2 T rfl ?_
 refine g.cs (fun b6 g=>?_) fun b6 g=>?_
 refine U.pq 2 4 false 9 (ntF b6) T ?_
 refine U.k (WT x_1.B _ g) en61 (fun x7 g=>?_) (hw:=.take 4 false 9 _ (ntF b6) rfl rfl rfl)
 refine U.pq 1 4 false 9 (ntF b6) T ?_
 refine U.pk' (ntF b6) ?_
 refine U.done ?_
 exact St.wa (idR 13) (j4 _ g)
 refine U.sk' 4 4 false 9 (ntT b6) ?_
 refine U.pk (ntT b6) ?_
 refine U.done ?_
 exact St.wa (idR 13) (j4 _ g)
theorem Zu (kind:Int) (post:Bool→Prop) (g:Wm kind post):
  Tr Tryz.prog 141 [.i kind] [] 0 (pB post):=by
 refine Tr.go Tryz.func141 Tryz.ntmps141 fun _ _ _ _ o=>?_
 unfold Wm at g
 refine C.ss (U.pd 1 T (C.xs ?_))
 refine C.jn (fun (x3:Bool)=>[(2,.b x3)]) (fun x3=>[]) 0 g (fun x3 g=>?_) fun J4 g j4=>?_
 refine C.nx (C.ret ?_)
 exact C.f1 T o (pBi g)
 refine U.start (U.ps 3 T rfl ?_)
 refine g.cs (fun b5 g=>?_) fun b5 g=>?_
 refine U.sk' 2 2 false 5 b5 ?_
 refine U.pk b5 ?_
 refine U.pd 1 T ?_
 exact St.wn (j4 _ g)
 refine U.pq 2 2 false 5 b5 T ?_
 refine U.pk' b5 ?_
 refine U.pd 1 T ?_
 exact St.wn (j4 _ g)
theorem Yb (x_1:ApiShelf) (m:Q7) (post:(Int×Q7)→Prop) (g:Xi x_1 m post):
  Tr Tryz.prog 67 [.p 0 0,.agg [.i x_1.Cell,.v (.string x_1.Class)]] [(0,.box [.i m.site.Floor.W,.i m.site.Floor.H,.i m.site.Floor.D,.sl 1 eI m.site.Floor.Kind,.sl 1 eI m.site.Floor.Out,.o 1,.o 2,.o 3,.o 4,.o 5,.o 6,.o 7,.o 8,.o 9,.o 10,.o 11]),(1,.val (.os 5 Q9 m.site.Zones)),(2,.val (.os 2 Qa m.site.Aparts)),(3,.val (.os 2 Qc m.site.Shelves)),(4,.val (.os 2 Qb m.site.Robots)),(5,.val (.om kI veI m.shelf)),(6,.val (.om kI veB m.robot)),(7,.val (.om kI veB m.zoned)),(8,.val (.om kS veI m.names)),(9,.val (.om kI veB m.oneways)),(10,.val (.os 1 eI m.shelves)),(11,.val (.os 1 eI m.zones))] 12 (fun A H' k=>∃y,post y∧A=(.i y.1)∧H'=[(0,.box [.i y.2.site.Floor.W,.i y.2.site.Floor.H,.i y.2.site.Floor.D,.sl 1 eI y.2.site.Floor.Kind,.sl 1 eI y.2.site.Floor.Out,.o 12,.o 13,.o 14,.o 15,.o 16,.o 17,.o 18,.o 19,.o 20,.o 21,.o 22]),(12,.val (.os 5 Q9 y.2.site.Zones)),(13,.val (.os 2 Qa y.2.site.Aparts)),(14,.val (.os 2 Qc y.2.site.Shelves)),(15,.val (.os 2 Qb y.2.site.Robots)),(16,.val (.om kI veI y.2.shelf)),(17,.val (.om kI veB y.2.robot)),(18,.val (.om kI veB y.2.zoned)),(19,.val (.om kS veI y.2.names)),(20,.val (.om kI veB y.2.oneways)),(21,.val (.os 1 eI y.2.shelves)),(22,.val (.os 1 eI y.2.zones))]∧k=23):=by
 refine Tr.go Tryz.func67 Tryz.ntmps67 fun _ _ _ _ o=>?_
 unfold Xi at g
 refine C.ss (U.bx ?_)
 refine U.pd 1 T (C.xs (C.seq ?_))
 refine C.jn (fun (x3:Bool)=>[(0,.p 0 0),(3,.p 12 0),(17,.b x3)]) (fun x3=>[(0,.box [.i m.site.Floor.W,.i m.site.Floor.H,.i m.site.Floor.D,.sl 1 eI m.site.Floor.Kind,.sl 1 eI m.site.Floor.Out,.o 1,.o 2,.o 3,.o 4,.o 5,.o 6,.o 7,.o 8,.o 9,.o 10,.o 11]),(1,.val (.os 5 Q9 m.site.Zones)),(2,.val (.os 2 Qa m.site.Aparts)),(3,.val (.os 2 Qc m.site.Shelves)),(4,.val (.os 2 Qb m.site.Robots)),(5,.val (.om kI veI m.shelf)),(6,.val (.om kI veB m.robot)),(7,.val (.om kI veB m.zoned)),(8,.val (.om kS veI m.names)),(9,.val (.om kI veB m.oneways)),(10,.val (.os 1 eI m.shelves)),(11,.val (.os 1 eI m.zones)),(12,.box [.i x_1.Cell,.v (.string x_1.Class)])]) 13 g (fun x3 g=>?_) fun J4 g j4=>?_
 refine C.nx ?_
 refine C.ite rfl g (fun b7 g=>?_) fun b7 g=>?_
 refine C.ss (U.pd 1 T (C.nx (C.ret (C.rt ?_))))
 exact C.g1 [some 0,some 1,some 2,some 3,some 4,some 5,some 6,some 7,some 8,some 9,some 10,some 11,some 1,some 2,some 3,some 4,some 5,some 6,some 7,some 8,some 9,some 10,some 11] T o ⟨(12,m),g,rfl,rfl,rfl⟩
 refine C.skip (C.xt (U.ps 3 T rfl (U.k (Xw m x_1.Cell _ g) Q8j (fun x12 g=>?_))))
 refine U.pd 5 T (C.xs (C.ss ?_))
 refine U.pd 2 T (C.nx ?_)
 refine C.ite rfl g (fun b15 g=>?_) fun b15 g=>?_
 refine C.ss (U.pd 1 T (C.nx (C.ret (C.rt ?_))))
 exact C.g1 [some 0,some 1,some 2,some 3,some 4,some 5,some 6,some 7,some 8,some 9,some 10,some 11,some 1,some 2,some 3,some 4,some 5,some 6,some 7,some 8,some 9,some 10,some 11] T o ⟨(3,m),g,rfl,rfl,rfl⟩
 refine C.skip (C.xs (C.ss (U.ps 1 T rfl (U.k (Zu x12.1 _ g) Qa8 (fun x20 g=>?_)))))
 refine U.pd 1 T (C.nx ?_)
 refine C.ite rfl g (fun b21 g=>?_) fun b21 g=>?_
 refine C.ss (U.pd 1 T (C.nx (C.ret (C.rt ?_))))
 exact C.g1 [some 0,some 1,some 2,some 3,some 4,some 5,some 6,some 7,some 8,some 9,some 10,some 11,some 1,some 2,some 3,some 4,some 5,some 6,some 7,some 8,some 9,some 10,some 11] T o ⟨(13,m),g,rfl,rfl,rfl⟩
 refine C.skip (C.xs (C.seq (D.bq mix 9999 [0,5,12] [] (fun hQ hS ws M'=>?_))))
 refine D.pq 6 (zl [0,1,2,3,4,5]) T ?_
 refine D.q 6 [] hQ hS rfl (.none rfl) rfl rfl (by exact Rd.lk2 T (ke:=kI) (ve:=veI) (xs:=m.shelf) (z0:=0) (x:=x_1.Cell) rfl rfl kt3 zt3 (fun _=>rfl) rfl (.o rfl) rfl rfl rfl) rfl (by kernel_rfl) ?_
 refine D.pq 5 (zl [7,8,9,10,11]) T ?_
 refine D.done (by kernel_rfl) ?_
 refine C.xt (U.pd 1 T (C.nx ?_))
 refine C.ite rfl g (fun b28 g=>?_) fun b28 g=>?_
 refine C.ss (U.pd 1 T (C.nx (C.ret (C.rt ?_))))
 exact C.g1 [some 0,some 1,some 2,some 3,some 4,some 5,some 6,some 7,some 8,some 9,some 10,some 11,some 1,some 2,some 3,some 4,some 5,some 6,some 7,some 8,some 9,some 10,some 11] T o ⟨(5,m),g,rfl,rfl,rfl⟩
 refine C.skip (C.xs (C.ss (U.pd 7 T (C.nx ?_))))
 refine C.ite rfl g (fun b33 g=>?_) fun b33 g=>?_
 refine C.ss (U.pd 1 T (C.nx (C.ret (C.rt ?_))))
 exact C.g1 [some 0,some 1,some 2,some 3,some 4,some 5,some 6,some 7,some 8,some 9,some 10,some 11,some 1,some 2,some 3,some 4,some 5,some 6,some 7,some 8,some 9,some 10,some 11] T o ⟨(6,m),g,rfl,rfl,rfl⟩
 refine C.skip (C.xs (D.bq mix 12 [0,12] [] (fun hQ hS ws M'=>?_)))
 refine D.pq 12 (zl [0,1,2,3,4,5,6,7,8,9,10,11]) T ?_
 refine D.ze1 rfl (.none rfl) (by exact Eff1.mu T (x:=x_1.Cell) (y:=(m.site.Shelves.length:Int)) (.inl rfl) rfl kt3 (fun _=>rfl) rfl rfl rfl rfl rfl (.inl rfl) rfl) (by kernel_rfl) (by kernel_rfl) ?_
 refine C.xs (D.bq mix 12 [0,12] [3] (fun hQ hS ws M'=>?_))
 refine D.pq 7 (zl [0,1,2,3,4,5,6]) T ?_
 refine D.e1 7 rfl (.none rfl) (by exact Eff1.bs T (enc:=Qc) (xs:=([x_1]:List ApiShelf)) rfl rfl rfl rfl rfl rfl rfl rfl rfl rfl (fun _ _=>rfl) rfl rfl) (by kernel_rfl) rfl rfl ?_
 obtain⟨y40,g⟩:=g
 refine D.e1 8 rfl (.none rfl) (by exact Eff1.ap T rfl rfl rfl rfl rfl rfl (.inr ⟨_,rfl,rfl⟩) rfl rfl rfl (fun _=>rfl) rfl y40) (by kernel_rfl) rfl rfl ?_
 refine D.pq 3 [(9,[11,10]),(10,[11]),(11,[])] T ?_
 refine D.ze1 rfl (.none rfl) (by exact Eff1.st T rfl rfl rfl rfl rfl rfl rfl rfl rfl rfl) (by kernel_rfl) (by kernel_rfl) ?_
 refine C.xt (U.pd 1 T (C.nx (C.ret ?_)))
 exact C.g1 [some 0,some 1,some 2,some 3,some 4,some 5,some 6,some 7,some 8,some 9,some 10,some 11,some 1,some 2,some 14,some 4,some 5,some 6,some 7,some 8,some 9,some 10,some 11] T o ⟨(0,({site:=({Floor:=m.site.Floor,Zones:=m.site.Zones,Aparts:=m.site.Aparts,Shelves:=(m.site.Shelves++([x_1]:List ApiShelf)),Robots:=m.site.Robots:ApiSite}),shelf:=(upd m.shelf x_1.Cell (m.site.Shelves.length:Int)),robot:=m.robot,zoned:=m.zoned,names:=m.names,oneways:=m.oneways,shelves:=m.shelves,zones:=m.zones:Q7})),g,rfl,rfl,rfl⟩
 refine U.start (U.ps 4 T rfl ?_)
 refine g.cs (fun b5 g=>?_) fun b5 g=>?_
 refine U.sk' 4 3 true 12 (ntF b5) ?_
 refine U.pk' (ntF b5) ?_
 refine U.done ?_
 exact St.wa (idR 13) (j4 _ g)
 refine U.pq 2 3 true 12 (ntT b5) T ?_
 refine U.k (WT x_1.Class _ g) en61 (fun x6 g=>?_) (hw:=.take 3 true 12 _ (ntT b5) rfl rfl rfl)
 refine U.pq 1 3 true 12 (ntT b5) T ?_
 refine U.pk (ntT b5) ?_
 refine U.done ?_
 exact St.wa (idR 13) (j4 _ g)
theorem Yc (x_1:ApiStart) (m:Q7) (post:(Int×Q7)→Prop) (g:QX x_1 m post):
  Tr Tryz.prog 68 [.p 0 0,.agg [.i x_1.Cell,.i x_1.Charge]] [(0,.box [.i m.site.Floor.W,.i m.site.Floor.H,.i m.site.Floor.D,.sl 1 eI m.site.Floor.Kind,.sl 1 eI m.site.Floor.Out,.o 1,.o 2,.o 3,.o 4,.o 5,.o 6,.o 7,.o 8,.o 9,.o 10,.o 11]),(1,.val (.os 5 Q9 m.site.Zones)),(2,.val (.os 2 Qa m.site.Aparts)),(3,.val (.os 2 Qc m.site.Shelves)),(4,.val (.os 2 Qb m.site.Robots)),(5,.val (.om kI veI m.shelf)),(6,.val (.om kI veB m.robot)),(7,.val (.om kI veB m.zoned)),(8,.val (.om kS veI m.names)),(9,.val (.om kI veB m.oneways)),(10,.val (.os 1 eI m.shelves)),(11,.val (.os 1 eI m.zones))] 12 (fun A H' k=>∃y,post y∧A=(.i y.1)∧H'=[(0,.box [.i y.2.site.Floor.W,.i y.2.site.Floor.H,.i y.2.site.Floor.D,.sl 1 eI y.2.site.Floor.Kind,.sl 1 eI y.2.site.Floor.Out,.o 12,.o 13,.o 14,.o 15,.o 16,.o 17,.o 18,.o 19,.o 20,.o 21,.o 22]),(12,.val (.os 5 Q9 y.2.site.Zones)),(13,.val (.os 2 Qa y.2.site.Aparts)),(14,.val (.os 2 Qc y.2.site.Shelves)),(15,.val (.os 2 Qb y.2.site.Robots)),(16,.val (.om kI veI y.2.shelf)),(17,.val (.om kI veB y.2.robot)),(18,.val (.om kI veB y.2.zoned)),(19,.val (.om kS veI y.2.names)),(20,.val (.om kI veB y.2.oneways)),(21,.val (.os 1 eI y.2.shelves)),(22,.val (.os 1 eI y.2.zones))]∧k=23):=by
 refine Tr.go Tryz.func68 Tryz.ntmps68 fun _ _ _ _ o=>?_
 unfold QX at g
 refine C.ss (U.bx ?_)
 refine U.pd 1 T (C.xt ?_)
 refine U.ps 3 T rfl (U.k (Xw m x_1.Cell _ g) Q8j (fun x5 g=>?_))
 refine U.pd 5 T (C.xs (C.seq ?_))
 refine C.jn (fun (x6:Bool)=>[(0,.p 0 0),(3,.p 12 0),(5,.i x5.1),(21,.b x6)]) (fun x6=>[(0,.box [.i m.site.Floor.W,.i m.site.Floor.H,.i m.site.Floor.D,.sl 1 eI m.site.Floor.Kind,.sl 1 eI m.site.Floor.Out,.o 1,.o 2,.o 3,.o 4,.o 5,.o 6,.o 7,.o 8,.o 9,.o 10,.o 11]),(1,.val (.os 5 Q9 m.site.Zones)),(2,.val (.os 2 Qa m.site.Aparts)),(3,.val (.os 2 Qc m.site.Shelves)),(4,.val (.os 2 Qb m.site.Robots)),(5,.val (.om kI veI m.shelf)),(6,.val (.om kI veB m.robot)),(7,.val (.om kI veB m.zoned)),(8,.val (.om kS veI m.names)),(9,.val (.om kI veB m.oneways)),(10,.val (.os 1 eI m.shelves)),(11,.val (.os 1 eI m.zones)),(12,.box [.i x_1.Cell,.i x_1.Charge])]) 13 g (fun x6 g=>?_) fun J7 g j7=>?_
 refine C.nx ?_
 refine C.ite rfl g (fun b10 g=>?_) fun b10 g=>?_
 refine C.ss (U.pd 1 T (C.nx (C.ret (C.rt ?_))))
 exact C.g1 [some 0,some 1,some 2,some 3,some 4,some 5,some 6,some 7,some 8,some 9,some 10,some 11,some 1,some 2,some 3,some 4,some 5,some 6,some 7,some 8,some 9,some 10,some 11] T o ⟨(3,m),g,rfl,rfl,rfl⟩
 refine C.skip (C.xs (C.ss (U.pd 2 T (C.nx ?_))))
 refine C.ite rfl g (fun b15 g=>?_) fun b15 g=>?_
 refine C.ss (U.pd 1 T (C.nx (C.ret (C.rt ?_))))
 exact C.g1 [some 0,some 1,some 2,some 3,some 4,some 5,some 6,some 7,some 8,some 9,some 10,some 11,some 1,some 2,some 3,some 4,some 5,some 6,some 7,some 8,some 9,some 10,some 11] T o ⟨(13,m),g,rfl,rfl,rfl⟩
 refine C.skip (C.xs (C.seq (D.bq mix 9999 [0,6,12] [] (fun hQ hS ws M'=>?_))))
 refine D.pq 6 (zl [0,1,2,3,4,5]) T ?_
 refine D.q 6 [] hQ hS rfl (.none rfl) rfl rfl (by exact Rd.lk T (ke:=kI) (ve:=veB) (xs:=m.robot) (z0:=false) (x:=x_1.Cell) rfl rfl kt3 zt4 (fun _=>rfl) rfl (.o rfl) rfl rfl rfl) rfl (by kernel_rfl) ?_
 refine D.done (by kernel_rfl) ?_
 refine C.nx ?_
 refine C.ite rfl g (fun b20 g=>?_) fun b20 g=>?_
 refine C.ss (U.pd 1 T (C.nx (C.ret (C.rt ?_))))
 exact C.g1 [some 0,some 1,some 2,some 3,some 4,some 5,some 6,some 7,some 8,some 9,some 10,some 11,some 1,some 2,some 3,some 4,some 5,some 6,some 7,some 8,some 9,some 10,some 11] T o ⟨(5,m),g,rfl,rfl,rfl⟩
 refine C.skip (C.xs (C.ss (U.pd 7 T (C.nx ?_))))
 refine C.ite rfl g (fun b25 g=>?_) fun b25 g=>?_
 refine C.ss (U.pd 1 T (C.nx (C.ret (C.rt ?_))))
 exact C.g1 [some 0,some 1,some 2,some 3,some 4,some 5,some 6,some 7,some 8,some 9,some 10,some 11,some 1,some 2,some 3,some 4,some 5,some 6,some 7,some 8,some 9,some 10,some 11] T o ⟨(6,m),g,rfl,rfl,rfl⟩
 refine C.skip (C.xs (D.bq mix 6 [0,12] [] (fun hQ hS ws M'=>?_)))
 refine D.pq 6 (zl [0,1,2,3,4,5]) T ?_
 refine D.ze1 rfl (.none rfl) (by exact Eff1.mu T (x:=x_1.Cell) (y:=true) (.inl rfl) rfl kt3 (fun _=>rfl) rfl rfl rfl rfl rfl (.inl rfl) rfl) (by kernel_rfl) (by kernel_rfl) ?_
 refine C.xs (D.bq mix 12 [0,12] [4] (fun hQ hS ws M'=>?_))
 refine D.pq 7 (zl [0,1,2,3,4,5,6]) T ?_
 refine D.e1 7 rfl (.none rfl) (by exact Eff1.bs T (enc:=Qb) (xs:=([x_1]:List ApiStart)) rfl rfl rfl rfl rfl rfl rfl rfl rfl rfl (fun _ _=>rfl) rfl rfl) (by kernel_rfl) rfl rfl ?_
 obtain⟨y32,g⟩:=g
 refine D.e1 8 rfl (.none rfl) (by exact Eff1.ap T rfl rfl rfl rfl rfl rfl (.inr ⟨_,rfl,rfl⟩) rfl rfl rfl (fun _=>rfl) rfl y32) (by kernel_rfl) rfl rfl ?_
 refine D.pq 3 [(9,[11,10]),(10,[11]),(11,[])] T ?_
 refine D.ze1 rfl (.none rfl) (by exact Eff1.st T rfl rfl rfl rfl rfl rfl rfl rfl rfl rfl) (by kernel_rfl) (by kernel_rfl) ?_
 refine C.xt (U.pd 1 T (C.nx (C.ret ?_)))
 exact C.g1 [some 0,some 1,some 2,some 3,some 4,some 5,some 6,some 7,some 8,some 9,some 10,some 11,some 1,some 2,some 3,some 14,some 5,some 6,some 7,some 8,some 9,some 10,some 11] T o ⟨(0,({site:=({Floor:=m.site.Floor,Zones:=m.site.Zones,Aparts:=m.site.Aparts,Shelves:=m.site.Shelves,Robots:=(m.site.Robots++([x_1]:List ApiStart)):ApiSite}),shelf:=m.shelf,robot:=(upd m.robot x_1.Cell true),zoned:=m.zoned,names:=m.names,oneways:=m.oneways,shelves:=m.shelves,zones:=m.zones:Q7})),g,rfl,rfl,rfl⟩
 refine U.start (U.ps 3 T rfl ?_)
 refine g.cs (fun b8 g=>?_) fun b8 g=>?_
 refine U.pq 2 2 false 16 (ntF b8) T ?_
 refine U.k (ZM x_1.Charge 0 1000000 _ g) en62 (fun x9 g=>?_) (hw:=.take 2 false 16 _ (ntF b8) rfl rfl rfl)
 refine U.pq 1 2 false 16 (ntF b8) T ?_
 refine U.pk' (ntF b8) ?_
 refine U.done ?_
 exact St.wa (idR 13) (j7 _ g)
 refine U.sk' 4 2 false 16 (ntT b8) ?_
 refine U.pk (ntT b8) ?_
 refine U.done ?_
 exact St.wa (idR 13) (j7 _ g)
theorem Zt (m:Q7) (post:Int→Prop) (g:KN m post):
  Tr Tryz.prog 69 [.rp [.i m.site.Floor.W,.i m.site.Floor.H,.i m.site.Floor.D,.sl 1 eI m.site.Floor.Kind,.sl 1 eI m.site.Floor.Out,.sl 5 Q9 m.site.Zones,.sl 2 Qa m.site.Aparts,.sl 2 Qc m.site.Shelves,.sl 2 Qb m.site.Robots,.rm kI veI m.shelf,.rm kI veB m.robot,.rm kI veB m.zoned,.rm kS veI m.names,.rm kI veB m.oneways,.sl 1 eI m.shelves,.sl 1 eI m.zones]] [] 0 (pI post):=by
 refine Tr.go Tryz.func69 Tryz.ntmps69 fun _ _ _ _ o=>?_
 unfold KN at g
 refine C.ss (U.pd 1 T (C.xt ?_))
 refine U.ps 5 T rfl (U.al T ?_)
 refine U.st T ?_
 refine U.done (C.xs (C.ss (U.pd 7 T (C.nx ?_))))
 refine C.jn (fun (x7:Unit)=>[]) (fun x7=>[]) 0 g (fun x7 g=>?_) fun J8 g j8=>?_
 refine C.xt (U.pd 1 T (C.nx (C.ret ?_)))
 exact C.f1 T o (pIi g)
 refine C.block ?_
 refine St.wk (C.loop (fun (s9:Int)=>[(0,.rp [.i m.site.Floor.W,.i m.site.Floor.H,.i m.site.Floor.D,.sl 1 eI m.site.Floor.Kind,.sl 1 eI m.site.Floor.Out,.sl 5 Q9 m.site.Zones,.sl 2 Qa m.site.Aparts,.sl 2 Qc m.site.Shelves,.sl 2 Qb m.site.Robots,.rm kI veI m.shelf,.rm kI veB m.robot,.rm kI veB m.zoned,.rm kS veI m.names,.rm kI veB m.oneways,.sl 1 eI m.shelves,.sl 1 eI m.zones]),(3,.p 0 0),(22,.sl 2 Qc m.site.Shelves),(23,.i (m.site.Shelves.length:Int)),(24,.i s9)]) (fun s9=>[(0,.box (Qd m.site.Floor))]) g (fun s9 Y10 g=>?_)) (Wk.a [some 0])
 refine C.ss (U.pd 1 T (C.xs ?_))
 refine C.ite rfl g (fun b13 g=>?_) fun b13 g=>?_
 refine C.skip (C.xs ?_)
 refine C.jn (fun (x14:Unit)=>[(0,.rp [.i m.site.Floor.W,.i m.site.Floor.H,.i m.site.Floor.D,.sl 1 eI m.site.Floor.Kind,.sl 1 eI m.site.Floor.Out,.sl 5 Q9 m.site.Zones,.sl 2 Qa m.site.Aparts,.sl 2 Qc m.site.Shelves,.sl 2 Qb m.site.Robots,.rm kI veI m.shelf,.rm kI veB m.robot,.rm kI veB m.zoned,.rm kS veI m.names,.rm kI veB m.oneways,.sl 1 eI m.shelves,.sl 1 eI m.zones]),(3,.p 0 0),(22,.sl 2 Qc m.site.Shelves),(23,.i (m.site.Shelves.length:Int)),(24,.i s9)]) (fun x14=>[(0,.box (Qd m.site.Floor))]) 1 g (fun x14 g=>?_) fun J15 g j15=>?_
 refine C.nx (U.start (U.pd 2 T (C.nx ?_)))
 exact St.wk (C.next g) (Wk.a [some 0])
 refine C.block (C.ss (U.ps 1 T rfl ?_))
 obtain⟨x18,y18,g⟩:=g
 refine U.ix T y18 ?_
 refine U.ps 1 T rfl (U.al T ?_)
 refine U.ps 1 T rfl (U.st T ?_)
 refine U.done (C.xt (U.ps 3 T rfl (U.k (Q3n m.site.Floor x18.Cell _ g) Q9i (fun x21 g=>?_))))
 refine U.pd 7 T (C.xs ?_)
 refine D.bq mix 9999 [0] [] (fun hQ hS ws M'=>?_)
 refine D.pq 21 (zl [0,1,2,3,4,6,7,8,9,10,12,13,14,15,16,18,19,20,21,22,26]) T ?_
 refine D.k 5 (WG m.site.Floor (w64 (x21.1+1)) x21.2.1 x21.2.2 _ g) Q7L fun x24 g=>?_
 refine D.k 11 (WG m.site.Floor x21.1 (w64 (x21.2.1+1)) x21.2.2 _ g) Q7L fun x25 g=>?_
 refine D.k 17 (WG m.site.Floor (w64 (x21.1-1)) x21.2.1 x21.2.2 _ g) Q7L fun x26 g=>?_
 refine D.k 23 (WG m.site.Floor x21.1 (w64 (x21.2.1-1)) x21.2.2 _ g) Q7L fun x27 g=>?_
 refine D.e1 24 rfl (.none rfl) (by exact Eff1.bs T (enc:=eI) (xs:=([x24,x25,x26,x27]:List Int)) rfl rfl rfl rfl rfl rfl rfl rfl rfl rfl (fun _ _=>rfl) rfl rfl) (by kernel_rfl) rfl rfl ?_
 refine D.pq 1 [(25,[])] T ?_
 refine D.done (by kernel_rfl) ?_
 refine C.nx ?_
 refine C.jn (fun (x28:Unit)=>[(0,.rp [.i m.site.Floor.W,.i m.site.Floor.H,.i m.site.Floor.D,.sl 1 eI m.site.Floor.Kind,.sl 1 eI m.site.Floor.Out,.sl 5 Q9 m.site.Zones,.sl 2 Qa m.site.Aparts,.sl 2 Qc m.site.Shelves,.sl 2 Qb m.site.Robots,.rm kI veI m.shelf,.rm kI veB m.robot,.rm kI veB m.zoned,.rm kS veI m.names,.rm kI veB m.oneways,.sl 1 eI m.shelves,.sl 1 eI m.zones]),(3,.p 0 0),(22,.sl 2 Qc m.site.Shelves),(23,.i (m.site.Shelves.length:Int)),(24,.i s9)]) (fun x28=>[(0,.box (Qd m.site.Floor))]) 1 g (fun x28 g=>?_) fun J29 g j29=>?_
 refine C.bnx ?_
 exact St.wa [some 0] (j15 _ g)
 refine C.block ?_
 refine St.wk (C.loop (fun (s30:Int)=>[(0,.rp [.i m.site.Floor.W,.i m.site.Floor.H,.i m.site.Floor.D,.sl 1 eI m.site.Floor.Kind,.sl 1 eI m.site.Floor.Out,.sl 5 Q9 m.site.Zones,.sl 2 Qa m.site.Aparts,.sl 2 Qc m.site.Shelves,.sl 2 Qb m.site.Robots,.rm kI veI m.shelf,.rm kI veB m.robot,.rm kI veB m.zoned,.rm kS veI m.names,.rm kI veB m.oneways,.sl 1 eI m.shelves,.sl 1 eI m.zones]),(3,.p 0 0),(4,.i s9),(5,.p 1 0),(22,.sl 2 Qc m.site.Shelves),(23,.i (m.site.Shelves.length:Int)),(24,.i s9),(61,.o 2),(62,.i (([x24,x25,x26,x27]:List Int).length:Int)),(63,.i s30)]) (fun s30=>[(0,.box (Qd m.site.Floor)),(1,.box [.i x18.Cell,.v (.string x18.Class)]),(2,.val (.os 1 eI ([x24,x25,x26,x27]:List Int)))]) g (fun s30 Y31 g=>?_)) (Wk.a (idR 3))
 refine C.ss (U.pd 1 T (C.xs ?_))
 refine C.ite rfl g (fun b34 g=>?_) fun b34 g=>?_
 refine C.skip (C.xs (C.block (C.ss ?_)))
 obtain⟨x37,y37,g⟩:=g
 refine U.r rfl (.none rfl) rfl rfl (by exact Rd.io T rfl rfl rfl rfl rfl rfl rfl y37) ?_
 refine U.r rfl (.none rfl) rfl rfl (by exact Rd.le T rfl rfl rfl (Qj y37).2.2 rfl rfl rfl) ?_
 refine U.pd 1 T (C.xt ?_)
 refine U.ps 5 T rfl (U.r rfl (.none rfl) rfl rfl (by exact Rd.lk2 T (ke:=kI) (ve:=veI) (xs:=m.shelf) (z0:=0) (x:=x37) rfl rfl kt3 zt3 (fun _=>rfl) rfl .rm rfl rfl rfl) ?_)
 refine U.pd 5 T (C.xs ?_)
 refine C.jn (fun (x40:Bool)=>[(0,.rp [.i m.site.Floor.W,.i m.site.Floor.H,.i m.site.Floor.D,.sl 1 eI m.site.Floor.Kind,.sl 1 eI m.site.Floor.Out,.sl 5 Q9 m.site.Zones,.sl 2 Qa m.site.Aparts,.sl 2 Qc m.site.Shelves,.sl 2 Qb m.site.Robots,.rm kI veI m.shelf,.rm kI veB m.robot,.rm kI veB m.zoned,.rm kS veI m.names,.rm kI veB m.oneways,.sl 1 eI m.shelves,.sl 1 eI m.zones]),(3,.p 0 0),(4,.i s9),(5,.p 1 0),(22,.sl 2 Qc m.site.Shelves),(23,.i (m.site.Shelves.length:Int)),(24,.i s9),(61,.o 2),(62,.i (([x24,x25,x26,x27]:List Int).length:Int)),(63,.i s30),(100,.b x40)]) (fun x40=>[(0,.box (Qd m.site.Floor)),(1,.box [.i x18.Cell,.v (.string x18.Class)]),(2,.val (.os 1 eI ([x24,x25,x26,x27]:List Int)))]) 3 g (fun x40 g=>?_) fun J41 g j41=>?_
 refine C.nx ?_
 refine C.ite rfl g (fun b46 g=>?_) fun b46 g=>?_
 refine C.ss (U.pd 2 T (C.nx (C.ret (C.brt (C.rt (C.rt (C.brt (C.brt (C.rt (C.rt (C.brt (C.rt ?_))))))))))))
 exact C.f1 T o (pIi g)
 refine C.skip (C.bnx (C.nx (U.start (U.pd 2 T (C.nx ?_)))))
 exact St.wk (C.next g) (Wk.a (idR 3))
 refine D.bq mix 9999 [1] [] (fun hQ hS ws M'=>?_)
 refine D.pq 2 (zl [0,1]) T ?_
 refine g.cs (fun b42 g=>?_) fun b42 g=>?_
 refine D.pt 2 [] 1 true 77 b42 T ?_
 refine D.pt 3 [] 1 true 77 b42 T ?_
 refine D.pt 4 [] 1 true 77 b42 T ?_
 refine D.kt 5 [] b42 ?_
 refine D.pq 1 [(6,[])] T ?_
 refine g.cs (fun b43 g=>?_) fun b43 g=>?_
 refine D.pt 7 [] 6 true 82 b43 T ?_
 refine D.pt 8 [] 6 true 82 b43 T ?_
 refine D.pt 9 [] 6 true 82 b43 T ?_
 refine D.pt 10 [] 6 true 82 b43 T ?_
 refine D.q 11 [] hQ hS rfl (.tk 6 true 82 b43) rfl rfl (by exact Rd.l T rfl rfl rfl) rfl (by kernel_rfl) ?_
 refine D.pt 12 [] 6 true 82 b43 T ?_
 refine D.q 13 [] hQ hS rfl (.tk 6 true 82 b43) rfl rfl (by exact Rd.l T rfl rfl rfl) rfl (by kernel_rfl) ?_
 refine D.pt 14 [] 6 true 82 b43 T ?_
 refine D.pt 15 [] 6 true 82 b43 T ?_
 refine D.pt 16 [] 6 true 82 b43 T ?_
 refine D.pt 17 [] 6 true 82 b43 T ?_
 refine D.q 18 [] hQ hS rfl (.tk 6 true 82 b43) rfl rfl (by exact Rd.l T rfl rfl rfl) rfl (by kernel_rfl) ?_
 refine D.pt 19 [] 6 true 82 b43 T ?_
 obtain⟨x44,y44,g⟩:=g
 refine D.q 20 [] hQ hS rfl (.tk 6 true 82 b43) rfl rfl (by exact Rd.ix T rfl rfl rfl rfl rfl rfl y44) rfl (by kernel_rfl) ?_
 refine D.pt 21 [] 6 true 82 b43 T ?_
 refine D.q 22 [] hQ hS rfl (.tk 6 true 82 b43) rfl rfl (by exact Rd.l T rfl rfl rfl) rfl (by kernel_rfl) ?_
 refine D.k 23 (Q0i m.site.Aparts x18.Class x44.Class _ g) Q9t (fun x45 g=>?_) (hw:=.take 6 true 82 _ b43 rfl rfl rfl)
 refine D.kt 24 [] b43 ?_
 refine D.done (by kernel_rfl) ?_
 exact St.wa (idR 3) (j41 _ g)
 refine D.sz 7 [] 6 true 82 b43 ?_
 refine D.sz 8 [] 6 true 82 b43 ?_
 refine D.sz 9 [] 6 true 82 b43 ?_
 refine D.sz 10 [] 6 true 82 b43 ?_
 refine D.sz 11 [] 6 true 82 b43 ?_
 refine D.sz 12 [] 6 true 82 b43 ?_
 refine D.sz 13 [] 6 true 82 b43 ?_
 refine D.sz 14 [] 6 true 82 b43 ?_
 refine D.sz 15 [] 6 true 82 b43 ?_
 refine D.sz 16 [] 6 true 82 b43 ?_
 refine D.sz 17 [] 6 true 82 b43 ?_
 refine D.sz 18 [] 6 true 82 b43 ?_
 refine D.sz 19 [] 6 true 82 b43 ?_
 refine D.sz 20 [] 6 true 82 b43 ?_
 refine D.sz 21 [] 6 true 82 b43 ?_
 refine D.sz 22 [] 6 true 82 b43 ?_
 refine D.sz 23 [] 6 true 82 b43 ?_
 refine D.kf 24 [] b43 ?_
 refine D.done (by kernel_rfl) ?_
 exact St.wa (idR 3) (j41 _ g)
 refine D.sz 2 [] 1 true 77 b42 ?_
 refine D.sz 3 [] 1 true 77 b42 ?_
 refine D.sz 4 [] 1 true 77 b42 ?_
 refine D.kf 5 [] b42 ?_
 refine D.pq 1 [(6,[])] T ?_
 refine D.sz 7 [] 6 true 82 rfl ?_
 refine D.sz 8 [] 6 true 82 rfl ?_
 refine D.sz 9 [] 6 true 82 rfl ?_
 refine D.sz 10 [] 6 true 82 rfl ?_
 refine D.sz 11 [] 6 true 82 rfl ?_
 refine D.sz 12 [] 6 true 82 rfl ?_
 refine D.sz 13 [] 6 true 82 rfl ?_
 refine D.sz 14 [] 6 true 82 rfl ?_
 refine D.sz 15 [] 6 true 82 rfl ?_
 refine D.sz 16 [] 6 true 82 rfl ?_
 refine D.sz 17 [] 6 true 82 rfl ?_
 refine D.sz 18 [] 6 true 82 rfl ?_
 refine D.sz 19 [] 6 true 82 rfl ?_
 refine D.sz 20 [] 6 true 82 rfl ?_
 refine D.sz 21 [] 6 true 82 rfl ?_
 refine D.sz 22 [] 6 true 82 rfl ?_
 refine D.sz 23 [] 6 true 82 rfl ?_
 refine D.kf 24 [] rfl ?_
 refine D.done (by kernel_rfl) ?_
 exact St.wa (idR 3) (j41 _ g)
 refine C.exit (C.ex (C.ex (C.bex ?_)))
 exact St.wa [some 0] (j29 _ g)
 refine C.exit (C.ex (C.ex (C.bex ?_)))
 exact St.wk (j8 _ g) (Wk.mk' [] rfl rfl trivial trivial rfl)
theorem YW (z:ApiZone) (c0:Q7) (post:Bool→Prop) (g:XO z c0 post):
  Tr Tryz.prog 145 [.agg (Q9 z),.rp [.rp [.i c0.site.Floor.W,.i c0.site.Floor.H,.i c0.site.Floor.D,.sl 1 eI c0.site.Floor.Kind,.sl 1 eI c0.site.Floor.Out,.sl 5 Q9 c0.site.Zones,.sl 2 Qa c0.site.Aparts,.sl 2 Qc c0.site.Shelves,.sl 2 Qb c0.site.Robots,.rm kI veI c0.shelf,.rm kI veB c0.robot,.rm kI veB c0.zoned,.rm kS veI c0.names,.rm kI veB c0.oneways,.sl 1 eI c0.shelves,.sl 1 eI c0.zones]]] [] 0 (pB post):=by
 refine Tr.go Tryz.func145 Tryz.ntmps145 fun _ _ _ _ o=>?_
 unfold XO at g
 refine C.ss (U.bx ?_)
 refine U.pd 1 T (C.xt ?_)
 refine U.pd 1 T (C.xs (C.ss ?_))
 refine U.pd 4 T (C.nx ?_)
 refine C.jn (fun (x7:Int)=>[(2,.p 0 0),(4,.i x7)]) (fun x7=>[(0,.box (Q9 z))]) 1 g (fun x7 g=>?_) fun J8 g j8=>?_
 refine C.xt (U.pd 5 T (C.nx (C.ret ?_)))
 exact C.f1 T o (pBi g)
 refine C.block ?_
 refine St.wk (C.loop (fun (s9:Int×Int)=>[(1,.rp [.rp [.i c0.site.Floor.W,.i c0.site.Floor.H,.i c0.site.Floor.D,.sl 1 eI c0.site.Floor.Kind,.sl 1 eI c0.site.Floor.Out,.sl 5 Q9 c0.site.Zones,.sl 2 Qa c0.site.Aparts,.sl 2 Qc c0.site.Shelves,.sl 2 Qb c0.site.Robots,.rm kI veI c0.shelf,.rm kI veB c0.robot,.rm kI veB c0.zoned,.rm kS veI c0.names,.rm kI veB c0.oneways,.sl 1 eI c0.shelves,.sl 1 eI c0.zones]]),(2,.p 0 0),(4,.i s9.1),(10,.sl 1 eI z.Cells),(11,.i (z.Cells.length:Int)),(12,.i s9.2)]) (fun s9=>[(0,.box (Q9 z))]) g (fun s9 Y10 g=>?_)) (Wk.a [some 0])
 refine C.ss (U.pd 1 T (C.xs ?_))
 refine C.ite rfl g (fun b13 g=>?_) fun b13 g=>?_
 refine C.skip (C.xs (C.block (C.ss ?_)))
 obtain⟨x16,y16,g⟩:=g
 refine U.ix T y16 ?_
 refine U.pd 2 T (C.xt ?_)
 refine U.ps 5 T rfl (U.r rfl (.none rfl) rfl rfl (by exact Rd.lk2 T (ke:=kI) (ve:=veI) (xs:=c0.shelf) (z0:=0) (x:=x16) rfl rfl kt3 zt3 (fun _=>rfl) rfl .rm rfl rfl rfl) ?_)
 refine U.pd 5 T (C.xs ?_)
 refine C.jn (fun (x19:Bool)=>[(1,.rp [.rp [.i c0.site.Floor.W,.i c0.site.Floor.H,.i c0.site.Floor.D,.sl 1 eI c0.site.Floor.Kind,.sl 1 eI c0.site.Floor.Out,.sl 5 Q9 c0.site.Zones,.sl 2 Qa c0.site.Aparts,.sl 2 Qc c0.site.Shelves,.sl 2 Qb c0.site.Robots,.rm kI veI c0.shelf,.rm kI veB c0.robot,.rm kI veB c0.zoned,.rm kS veI c0.names,.rm kI veB c0.oneways,.sl 1 eI c0.shelves,.sl 1 eI c0.zones]]),(2,.p 0 0),(4,.i s9.1),(10,.sl 1 eI z.Cells),(11,.i (z.Cells.length:Int)),(12,.i s9.2),(38,.b x19)]) (fun x19=>[(0,.box (Q9 z))]) 1 g (fun x19 g=>?_) fun J20 g j20=>?_
 refine C.nx ?_
 refine C.jn (fun (x24:Int)=>[(1,.rp [.rp [.i c0.site.Floor.W,.i c0.site.Floor.H,.i c0.site.Floor.D,.sl 1 eI c0.site.Floor.Kind,.sl 1 eI c0.site.Floor.Out,.sl 5 Q9 c0.site.Zones,.sl 2 Qa c0.site.Aparts,.sl 2 Qc c0.site.Shelves,.sl 2 Qb c0.site.Robots,.rm kI veI c0.shelf,.rm kI veB c0.robot,.rm kI veB c0.zoned,.rm kS veI c0.names,.rm kI veB c0.oneways,.sl 1 eI c0.shelves,.sl 1 eI c0.zones]]),(2,.p 0 0),(4,.i x24),(10,.sl 1 eI z.Cells),(11,.i (z.Cells.length:Int)),(12,.i s9.2)]) (fun x24=>[(0,.box (Q9 z))]) 1 g (fun x24 g=>?_) fun J25 g j25=>?_
 refine C.bnx (C.nx (U.start (U.pd 2 T (C.nx ?_))))
 exact St.wk (C.next g) (Wk.a [some 0])
 refine C.ite rfl g (fun b26 g=>?_) fun b26 g=>?_
 refine U.start (U.pd 3 T ?_)
 exact St.wa [some 0] (j25 _ g)
 refine C.skip ?_
 exact St.wa [some 0] (j25 _ g)
 refine U.start (U.ps 3 T rfl ?_)
 refine g.cs (fun b21 g=>?_) fun b21 g=>?_
 refine U.sk' 10 2 true 27 (ntF b21) ?_
 refine U.pk' (ntF b21) ?_
 refine U.done ?_
 exact St.wa [some 0] (j20 _ g)
 refine U.pq 7 2 true 27 (ntT b21) T ?_
 obtain⟨x22,y22,g⟩:=g
 refine U.r rfl (.tk 2 true 27 (ntT b21)) rfl rfl (by exact Rd.ix T rfl rfl rfl rfl rfl rfl y22) ?_
 refine U.pq 1 2 true 27 (ntT b21) T ?_
 refine U.k (Zu x22 _ g) Qa8 (fun x23 g=>?_) (hw:=.take 2 true 27 _ (ntT b21) rfl rfl rfl)
 refine U.pk (ntT b21) ?_
 refine U.done ?_
 exact St.wa [some 0] (j20 _ g)
 refine C.exit (C.ex (C.ex (C.bex ?_)))
 exact St.wa [some 0] (j8 _ g)
theorem Kt (s_1:List ApiZone) (f_c0:Q7) (post:Int→Prop) (g:Qi s_1 f_c0 post):
  Tr Tryz.prog 144 [.sl 5 Q9 s_1,.fn (.func 145) [] [.rp [.rp [.i f_c0.site.Floor.W,.i f_c0.site.Floor.H,.i f_c0.site.Floor.D,.sl 1 eI f_c0.site.Floor.Kind,.sl 1 eI f_c0.site.Floor.Out,.sl 5 Q9 f_c0.site.Zones,.sl 2 Qa f_c0.site.Aparts,.sl 2 Qc f_c0.site.Shelves,.sl 2 Qb f_c0.site.Robots,.rm kI veI f_c0.shelf,.rm kI veB f_c0.robot,.rm kI veB f_c0.zoned,.rm kS veI f_c0.names,.rm kI veB f_c0.oneways,.sl 1 eI f_c0.shelves,.sl 1 eI f_c0.zones]]]] [] 0 (pI post):=by
 refine Tr.go Tryz.func144 Tryz.ntmps144 fun _ _ _ _ o=>?_
 unfold Qi at g
 refine C.ss (U.pd 1 T (C.xs (C.ss ?_)))
 refine U.pd 3 T (C.nx ?_)
 refine C.jn (fun (x5:Unit)=>[]) (fun x5=>[]) 0 g (fun x5 g=>?_) fun J6 g j6=>?_
 refine C.xt (U.pd 1 T (C.nx (C.ret ?_)))
 exact C.f1 T o (pIi g)
 refine C.block ?_
 refine St.wk (C.loop (fun (s7:Int)=>[(0,.sl 5 Q9 s_1),(1,.fn (.func 145) [] [.rp [.rp [.i f_c0.site.Floor.W,.i f_c0.site.Floor.H,.i f_c0.site.Floor.D,.sl 1 eI f_c0.site.Floor.Kind,.sl 1 eI f_c0.site.Floor.Out,.sl 5 Q9 f_c0.site.Zones,.sl 2 Qa f_c0.site.Aparts,.sl 2 Qc f_c0.site.Shelves,.sl 2 Qb f_c0.site.Robots,.rm kI veI f_c0.shelf,.rm kI veB f_c0.robot,.rm kI veB f_c0.zoned,.rm kS veI f_c0.names,.rm kI veB f_c0.oneways,.sl 1 eI f_c0.shelves,.sl 1 eI f_c0.zones]]]),(7,.i (s_1.length:Int)),(8,.i s7)]) (fun s7=>[]) g (fun s7 Y8 g=>?_)) (Wk.e)
 refine C.ss (U.pd 1 T (C.xs ?_))
 refine C.ite rfl g (fun b11 g=>?_) fun b11 g=>?_
 refine C.skip (C.xs (C.block (C.ss (U.pd 2 T (C.xt ?_)))))
 refine U.ps 3 T rfl ?_
 obtain⟨x16,y16,g⟩:=g
 refine U.ix T y16 ?_
 refine U.ps 1 T rfl (U.k (YW x16 f_c0 _ g) Qbv (fun x17 g=>?_))
 refine U.done (C.nx ?_)
 refine C.ite rfl g (fun b18 g=>?_) fun b18 g=>?_
 refine C.ss (U.pd 2 T (C.nx (C.ret (C.brt (C.rt (C.rt (C.brt (C.rt ?_))))))))
 exact C.f1 T o (pIi g)
 refine C.skip (C.bnx (C.nx (U.start (U.pd 2 T (C.nx ?_)))))
 exact St.wk (C.next g) (Wk.e)
 refine C.exit (C.ex (C.ex (C.bex ?_)))
 exact St.wk (j6 _ g) (Wk.mk' [] rfl rfl trivial trivial rfl)
theorem Zj (m:Q7) (post:Int→Prop) (g:Ku m post):
  Tr Tryz.prog 70 [.rp [.i m.site.Floor.W,.i m.site.Floor.H,.i m.site.Floor.D,.sl 1 eI m.site.Floor.Kind,.sl 1 eI m.site.Floor.Out,.sl 5 Q9 m.site.Zones,.sl 2 Qa m.site.Aparts,.sl 2 Qc m.site.Shelves,.sl 2 Qb m.site.Robots,.rm kI veI m.shelf,.rm kI veB m.robot,.rm kI veB m.zoned,.rm kS veI m.names,.rm kI veB m.oneways,.sl 1 eI m.shelves,.sl 1 eI m.zones]] [] 0 (pI post):=by
 refine Tr.go Tryz.func70 Tryz.ntmps70 fun _ _ _ _ o=>?_
 unfold Ku at g
 refine C.ss (U.bx ?_)
 refine U.pd 1 T (C.xt ?_)
 refine U.ps 6 T rfl (U.k (Kt m.site.Zones m _ g) Qa0 (fun x5 g=>?_))
 refine U.pd 1 T (C.nx (C.ret ?_))
 exact C.f1 T o (pIi g)
theorem Zi (m:Q7) (post:Bool→Prop) (g:Kv m post):
  Tr Tryz.prog 71 [.rp [.i m.site.Floor.W,.i m.site.Floor.H,.i m.site.Floor.D,.sl 1 eI m.site.Floor.Kind,.sl 1 eI m.site.Floor.Out,.sl 5 Q9 m.site.Zones,.sl 2 Qa m.site.Aparts,.sl 2 Qc m.site.Shelves,.sl 2 Qb m.site.Robots,.rm kI veI m.shelf,.rm kI veB m.robot,.rm kI veB m.zoned,.rm kS veI m.names,.rm kI veB m.oneways,.sl 1 eI m.shelves,.sl 1 eI m.zones]] [] 0 (pB post):=by
 refine Tr.go Tryz.func71 Tryz.ntmps71 fun _ _ _ _ o=>?_
 unfold Kv at g
 refine C.ss (U.pd 1 T (C.xt ?_))
 refine U.ps 6 T rfl (U.k (K7 m.site.Floor.Kind 3 _ g) en44 (fun x5 g=>?_))
 refine U.pd 1 T (C.nx (C.ret ?_))
 exact C.f1 T o (pBi g)
theorem Q3d (s_1:ApiSite) (post:Bool→Prop) (g:W0 s_1 post):
  Tr Tryz.prog 21 [.agg (Q2 s_1)] [] 0 (pB post):=by
 refine Tr.go Tryz.func21 Tryz.ntmps21 fun _ _ _ _ o=>?_
 unfold W0 at g
 refine C.ss (U.bx ?_)
 refine U.pd 1 T (C.xs (C.ss ?_))
 refine U.ps 2 T rfl (U.k (Q40 s_1.Floor _ g) en59 (fun x5 g=>?_))
 refine U.pd 1 T (C.nx ?_)
 refine C.ite rfl g (fun b6 g=>?_) fun b6 g=>?_
 refine C.ss (U.pd 1 T (C.nx (C.ret (C.rt ?_))))
 exact C.f1 T o (pBi g)
 refine C.skip (C.xt (U.ps 2 T rfl (U.e rfl (.none rfl) (by exact Eff.c [] (v:=false) (Q1r s_1.Floor _ g) en60 rfl rfl rfl (.eq rfl) trivial rfl rfl rfl rfl rfl rfl (fun h=>by cases h) (.inr ⟨rfl,rfl⟩) (fun _=>rfl) (fun _=>rfl) rfl) (fun x11' g=>?_))))
 obtain⟨x11⟩:=x11'
 refine U.pd 1 T (C.xs (C.ss ?_))
 refine U.pd 4 T (C.nx ?_)
 refine C.jn (fun (x14:Int×Int×Int×List Int×List Int×List ApiZone×List ApiApart×List ApiShelf×List ApiStart×List (Int×Int)×List (Int×Bool)×List (Int×Bool)×List (ByteArray×Int)×List (Int×Bool)×List Int×List Int)=>[(1,.p 0 0),(3,.p 1 0)]) (fun x14=>[(0,.box (Q2 s_1)),(1,.box [.i x14.1,.i x14.2.1,.i x14.2.2.1,.sl 1 eI x14.2.2.2.1,.sl 1 eI x14.2.2.2.2.1,.o 2,.o 3,.o 4,.o 5,.o 6,.o 7,.o 8,.o 9,.o 10,.o 11,.o 12]),(2,.val (.os 5 Q9 x14.2.2.2.2.2.1)),(3,.val (.os 2 Qa x14.2.2.2.2.2.2.1)),(4,.val (.os 2 Qc x14.2.2.2.2.2.2.2.1)),(5,.val (.os 2 Qb x14.2.2.2.2.2.2.2.2.1)),(6,.val (.om kI veI x14.2.2.2.2.2.2.2.2.2.1)),(7,.val (.om kI veB x14.2.2.2.2.2.2.2.2.2.2.1)),(8,.val (.om kI veB x14.2.2.2.2.2.2.2.2.2.2.2.1)),(9,.val (.om kS veI x14.2.2.2.2.2.2.2.2.2.2.2.2.1)),(10,.val (.om kI veB x14.2.2.2.2.2.2.2.2.2.2.2.2.2.1)),(11,.val (.os 1 eI x14.2.2.2.2.2.2.2.2.2.2.2.2.2.2.1)),(12,.val (.os 1 eI x14.2.2.2.2.2.2.2.2.2.2.2.2.2.2.2))]) 13 g (fun x14 g=>?_) fun J15 g j15=>?_
 refine C.xs (C.ss (U.pd 4 T (C.nx ?_)))
 refine C.jn (fun (x43:Int×Int×Int×List Int×List Int×List ApiZone×List ApiApart×List ApiShelf×List ApiStart×List (Int×Int)×List (Int×Bool)×List (Int×Bool)×List (ByteArray×Int)×List (Int×Bool)×List Int×List Int)=>[(1,.p 0 0),(3,.p 1 0)]) (fun x43=>[(0,.box (Q2 s_1)),(1,.box [.i x43.1,.i x43.2.1,.i x43.2.2.1,.sl 1 eI x43.2.2.2.1,.sl 1 eI x43.2.2.2.2.1,.o 2,.o 3,.o 4,.o 5,.o 6,.o 7,.o 8,.o 9,.o 10,.o 11,.o 12]),(2,.val (.os 5 Q9 x43.2.2.2.2.2.1)),(3,.val (.os 2 Qa x43.2.2.2.2.2.2.1)),(4,.val (.os 2 Qc x43.2.2.2.2.2.2.2.1)),(5,.val (.os 2 Qb x43.2.2.2.2.2.2.2.2.1)),(6,.val (.om kI veI x43.2.2.2.2.2.2.2.2.2.1)),(7,.val (.om kI veB x43.2.2.2.2.2.2.2.2.2.2.1)),(8,.val (.om kI veB x43.2.2.2.2.2.2.2.2.2.2.2.1)),(9,.val (.om kS veI x43.2.2.2.2.2.2.2.2.2.2.2.2.1)),(10,.val (.om kI veB x43.2.2.2.2.2.2.2.2.2.2.2.2.2.1)),(11,.val (.os 1 eI x43.2.2.2.2.2.2.2.2.2.2.2.2.2.2.1)),(12,.val (.os 1 eI x43.2.2.2.2.2.2.2.2.2.2.2.2.2.2.2))]) 13 g (fun x43 g=>?_) fun J44 g j44=>?_
 refine C.xs (C.ss (U.pd 4 T (C.nx ?_)))
 refine C.jn (fun (x63:Int×Int×Int×List Int×List Int×List ApiZone×List ApiApart×List ApiShelf×List ApiStart×List (Int×Int)×List (Int×Bool)×List (Int×Bool)×List (ByteArray×Int)×List (Int×Bool)×List Int×List Int)=>[(1,.p 0 0),(3,.p 1 0)]) (fun x63=>[(0,.box (Q2 s_1)),(1,.box [.i x63.1,.i x63.2.1,.i x63.2.2.1,.sl 1 eI x63.2.2.2.1,.sl 1 eI x63.2.2.2.2.1,.o 2,.o 3,.o 4,.o 5,.o 6,.o 7,.o 8,.o 9,.o 10,.o 11,.o 12]),(2,.val (.os 5 Q9 x63.2.2.2.2.2.1)),(3,.val (.os 2 Qa x63.2.2.2.2.2.2.1)),(4,.val (.os 2 Qc x63.2.2.2.2.2.2.2.1)),(5,.val (.os 2 Qb x63.2.2.2.2.2.2.2.2.1)),(6,.val (.om kI veI x63.2.2.2.2.2.2.2.2.2.1)),(7,.val (.om kI veB x63.2.2.2.2.2.2.2.2.2.2.1)),(8,.val (.om kI veB x63.2.2.2.2.2.2.2.2.2.2.2.1)),(9,.val (.om kS veI x63.2.2.2.2.2.2.2.2.2.2.2.2.1)),(10,.val (.om kI veB x63.2.2.2.2.2.2.2.2.2.2.2.2.2.1)),(11,.val (.os 1 eI x63.2.2.2.2.2.2.2.2.2.2.2.2.2.2.1)),(12,.val (.os 1 eI x63.2.2.2.2.2.2.2.2.2.2.2.2.2.2.2))]) 13 g (fun x63 g=>?_) fun J64 g j64=>?_
 refine C.xs (C.ss (U.pd 4 T (C.nx ?_)))
 refine C.jn (fun (x83:Int×Int×Int×List Int×List Int×List ApiZone×List ApiApart×List ApiShelf×List ApiStart×List (Int×Int)×List (Int×Bool)×List (Int×Bool)×List (ByteArray×Int)×List (Int×Bool)×List Int×List Int)=>[(3,.p 0 0)]) (fun x83=>[(0,.box [.i x83.1,.i x83.2.1,.i x83.2.2.1,.sl 1 eI x83.2.2.2.1,.sl 1 eI x83.2.2.2.2.1,.o 1,.o 2,.o 3,.o 4,.o 5,.o 6,.o 7,.o 8,.o 9,.o 10,.o 11]),(1,.val (.os 5 Q9 x83.2.2.2.2.2.1)),(2,.val (.os 2 Qa x83.2.2.2.2.2.2.1)),(3,.val (.os 2 Qc x83.2.2.2.2.2.2.2.1)),(4,.val (.os 2 Qb x83.2.2.2.2.2.2.2.2.1)),(5,.val (.om kI veI x83.2.2.2.2.2.2.2.2.2.1)),(6,.val (.om kI veB x83.2.2.2.2.2.2.2.2.2.2.1)),(7,.val (.om kI veB x83.2.2.2.2.2.2.2.2.2.2.2.1)),(8,.val (.om kS veI x83.2.2.2.2.2.2.2.2.2.2.2.2.1)),(9,.val (.om kI veB x83.2.2.2.2.2.2.2.2.2.2.2.2.2.1)),(10,.val (.os 1 eI x83.2.2.2.2.2.2.2.2.2.2.2.2.2.2.1)),(11,.val (.os 1 eI x83.2.2.2.2.2.2.2.2.2.2.2.2.2.2.2))]) 12 g (fun x83 g=>?_) fun J84 g j84=>?_
 refine C.xs ?_
 refine C.jn (fun (x101:Bool)=>[(2,.b x101)]) (fun x101=>[]) 0 g (fun x101 g=>?_) fun J102 g j102=>?_
 refine C.nx (C.ret ?_)
 exact C.f1 T o (pBi g)
 refine U.start (U.ps 1 T rfl ?_)
 refine U.k (Zt ({site:=({Floor:=({W:=x83.1,H:=x83.2.1,D:=x83.2.2.1,Kind:=x83.2.2.2.1,Out:=x83.2.2.2.2.1:Q6}),Zones:=x83.2.2.2.2.2.1,Aparts:=x83.2.2.2.2.2.2.1,Shelves:=x83.2.2.2.2.2.2.2.1,Robots:=x83.2.2.2.2.2.2.2.2.1:ApiSite}),shelf:=x83.2.2.2.2.2.2.2.2.2.1,robot:=x83.2.2.2.2.2.2.2.2.2.2.1,zoned:=x83.2.2.2.2.2.2.2.2.2.2.2.1,names:=x83.2.2.2.2.2.2.2.2.2.2.2.2.1,oneways:=x83.2.2.2.2.2.2.2.2.2.2.2.2.2.1,shelves:=x83.2.2.2.2.2.2.2.2.2.2.2.2.2.2.1,zones:=x83.2.2.2.2.2.2.2.2.2.2.2.2.2.2.2:Q7}) _ g) en69 fun x103 g=>?_
 refine U.ps 2 T rfl ?_
 refine g.cs (fun b104 g=>?_) fun b104 g=>?_
 refine U.pq 1 3 true 100 b104 T ?_
 refine U.k (Zj ({site:=({Floor:=({W:=x83.1,H:=x83.2.1,D:=x83.2.2.1,Kind:=x83.2.2.2.1,Out:=x83.2.2.2.2.1:Q6}),Zones:=x83.2.2.2.2.2.1,Aparts:=x83.2.2.2.2.2.2.1,Shelves:=x83.2.2.2.2.2.2.2.1,Robots:=x83.2.2.2.2.2.2.2.2.1:ApiSite}),shelf:=x83.2.2.2.2.2.2.2.2.2.1,robot:=x83.2.2.2.2.2.2.2.2.2.2.1,zoned:=x83.2.2.2.2.2.2.2.2.2.2.2.1,names:=x83.2.2.2.2.2.2.2.2.2.2.2.2.1,oneways:=x83.2.2.2.2.2.2.2.2.2.2.2.2.2.1,shelves:=x83.2.2.2.2.2.2.2.2.2.2.2.2.2.2.1,zones:=x83.2.2.2.2.2.2.2.2.2.2.2.2.2.2.2:Q7}) _ g) en70 (fun x105 g=>?_) (hw:=.take 3 true 100 _ b104 rfl rfl rfl)
 refine U.pq 1 3 true 100 b104 T ?_
 refine U.pk b104 ?_
 refine U.ps 1 T rfl ?_
 refine g.cs (fun b106 g=>?_) fun b106 g=>?_
 refine U.pq 1 8 true 105 b106 T ?_
 refine U.k (Zi ({site:=({Floor:=({W:=x83.1,H:=x83.2.1,D:=x83.2.2.1,Kind:=x83.2.2.2.1,Out:=x83.2.2.2.2.1:Q6}),Zones:=x83.2.2.2.2.2.1,Aparts:=x83.2.2.2.2.2.2.1,Shelves:=x83.2.2.2.2.2.2.2.1,Robots:=x83.2.2.2.2.2.2.2.2.1:ApiSite}),shelf:=x83.2.2.2.2.2.2.2.2.2.1,robot:=x83.2.2.2.2.2.2.2.2.2.2.1,zoned:=x83.2.2.2.2.2.2.2.2.2.2.2.1,names:=x83.2.2.2.2.2.2.2.2.2.2.2.2.1,oneways:=x83.2.2.2.2.2.2.2.2.2.2.2.2.2.1,shelves:=x83.2.2.2.2.2.2.2.2.2.2.2.2.2.2.1,zones:=x83.2.2.2.2.2.2.2.2.2.2.2.2.2.2.2:Q7}) _ g) en71 (fun x107 g=>?_) (hw:=.take 8 true 105 _ b106 rfl rfl rfl)
 refine U.pk b106 ?_
 refine U.pd 1 T ?_
 exact St.wn (j102 _ g)
 refine U.sk' 2 8 true 105 b106 ?_
 refine U.pk' b106 ?_
 refine U.pd 1 T ?_
 exact St.wn (j102 _ g)
 refine U.sk' 3 3 true 100 b104 ?_
 refine U.pk' b104 ?_
 refine U.ps 1 T rfl (U.sk' 2 8 true 105 rfl ?_)
 refine U.pk' rfl ?_
 refine U.pd 1 T ?_
 exact St.wn (j102 _ g)
 refine C.block ?_
 refine St.wk (C.loop (fun (s85:Int×Int×Int×List Int×List Int×List ApiZone×List ApiApart×List ApiShelf×List ApiStart×List (Int×Int)×List (Int×Bool)×List (Int×Bool)×List (ByteArray×Int)×List (Int×Bool)×List Int×List Int×Int)=>[(3,.p 0 0),(86,.sl 2 Qb s_1.Robots),(87,.i (s_1.Robots.length:Int)),(88,.i s85.2.2.2.2.2.2.2.2.2.2.2.2.2.2.2.2)]) (fun s85=>[(0,.box [.i s85.1,.i s85.2.1,.i s85.2.2.1,.sl 1 eI s85.2.2.2.1,.sl 1 eI s85.2.2.2.2.1,.o 1,.o 2,.o 3,.o 4,.o 5,.o 6,.o 7,.o 8,.o 9,.o 10,.o 11]),(1,.val (.os 5 Q9 s85.2.2.2.2.2.1)),(2,.val (.os 2 Qa s85.2.2.2.2.2.2.1)),(3,.val (.os 2 Qc s85.2.2.2.2.2.2.2.1)),(4,.val (.os 2 Qb s85.2.2.2.2.2.2.2.2.1)),(5,.val (.om kI veI s85.2.2.2.2.2.2.2.2.2.1)),(6,.val (.om kI veB s85.2.2.2.2.2.2.2.2.2.2.1)),(7,.val (.om kI veB s85.2.2.2.2.2.2.2.2.2.2.2.1)),(8,.val (.om kS veI s85.2.2.2.2.2.2.2.2.2.2.2.2.1)),(9,.val (.om kI veB s85.2.2.2.2.2.2.2.2.2.2.2.2.2.1)),(10,.val (.os 1 eI s85.2.2.2.2.2.2.2.2.2.2.2.2.2.2.1)),(11,.val (.os 1 eI s85.2.2.2.2.2.2.2.2.2.2.2.2.2.2.2.1))]) g (fun s85 Y86 g=>?_)) (Wk.a (sqR 1 12))
 refine C.ss (U.pd 1 T (C.xs ?_))
 refine C.ite rfl g (fun b89 g=>?_) fun b89 g=>?_
 refine C.skip (C.xs (C.block (C.ss ?_)))
 obtain⟨x92,y92,g⟩:=g
 refine U.ix T y92 ?_
 refine U.ps 1 T rfl (U.al T ?_)
 refine U.st T ?_
 refine U.done (C.xt (U.ps 2 T rfl ?_))
 refine U.c (idR 12) (Yc x92 ({site:=({Floor:=({W:=s85.1,H:=s85.2.1,D:=s85.2.2.1,Kind:=s85.2.2.2.1,Out:=s85.2.2.2.2.1:Q6}),Zones:=s85.2.2.2.2.2.1,Aparts:=s85.2.2.2.2.2.2.1,Shelves:=s85.2.2.2.2.2.2.2.1,Robots:=s85.2.2.2.2.2.2.2.2.1:ApiSite}),shelf:=s85.2.2.2.2.2.2.2.2.2.1,robot:=s85.2.2.2.2.2.2.2.2.2.2.1,zoned:=s85.2.2.2.2.2.2.2.2.2.2.2.1,names:=s85.2.2.2.2.2.2.2.2.2.2.2.2.1,oneways:=s85.2.2.2.2.2.2.2.2.2.2.2.2.2.1,shelves:=s85.2.2.2.2.2.2.2.2.2.2.2.2.2.2.1,zones:=s85.2.2.2.2.2.2.2.2.2.2.2.2.2.2.2.1:Q7}) _ g) en68 fun x95 g=>?_
 refine U.pd 1 T (C.nx ?_)
 refine C.ite rfl g (fun b96 g=>?_) fun b96 g=>?_
 refine C.ss (U.pd 1 T (C.nx (C.ret (C.brt (C.rt (C.rt (C.brt (C.rt ?_))))))))
 exact C.f1 T o (pBi g)
 refine C.skip (C.bnx (C.nx (U.start (U.pd 2 T (C.nx ?_)))))
 exact St.wk (C.next g) (Wk.a [some 0,some 25,some 26,some 27,some 28,some 29,some 30,some 31,some 32,some 33,some 34,some 35])
 refine C.exit (C.ex (C.ex (C.bex ?_)))
 exact St.wa (idR 12) (j84 _ g)
 refine C.block ?_
 refine St.wk (C.loop (fun (s65:Int×Int×Int×List Int×List Int×List ApiZone×List ApiApart×List ApiShelf×List ApiStart×List (Int×Int)×List (Int×Bool)×List (Int×Bool)×List (ByteArray×Int)×List (Int×Bool)×List Int×List Int×Int)=>[(1,.p 0 0),(3,.p 1 0),(74,.sl 2 Qc s_1.Shelves),(75,.i (s_1.Shelves.length:Int)),(76,.i s65.2.2.2.2.2.2.2.2.2.2.2.2.2.2.2.2)]) (fun s65=>[(0,.box (Q2 s_1)),(1,.box [.i s65.1,.i s65.2.1,.i s65.2.2.1,.sl 1 eI s65.2.2.2.1,.sl 1 eI s65.2.2.2.2.1,.o 2,.o 3,.o 4,.o 5,.o 6,.o 7,.o 8,.o 9,.o 10,.o 11,.o 12]),(2,.val (.os 5 Q9 s65.2.2.2.2.2.1)),(3,.val (.os 2 Qa s65.2.2.2.2.2.2.1)),(4,.val (.os 2 Qc s65.2.2.2.2.2.2.2.1)),(5,.val (.os 2 Qb s65.2.2.2.2.2.2.2.2.1)),(6,.val (.om kI veI s65.2.2.2.2.2.2.2.2.2.1)),(7,.val (.om kI veB s65.2.2.2.2.2.2.2.2.2.2.1)),(8,.val (.om kI veB s65.2.2.2.2.2.2.2.2.2.2.2.1)),(9,.val (.om kS veI s65.2.2.2.2.2.2.2.2.2.2.2.2.1)),(10,.val (.om kI veB s65.2.2.2.2.2.2.2.2.2.2.2.2.2.1)),(11,.val (.os 1 eI s65.2.2.2.2.2.2.2.2.2.2.2.2.2.2.1)),(12,.val (.os 1 eI s65.2.2.2.2.2.2.2.2.2.2.2.2.2.2.2.1))]) g (fun s65 Y66 g=>?_)) (Wk.a (idR 13))
 refine C.ss (U.pd 1 T (C.xs ?_))
 refine C.ite rfl g (fun b69 g=>?_) fun b69 g=>?_
 refine C.skip (C.xs (C.block (C.ss ?_)))
 obtain⟨x72,y72,g⟩:=g
 refine U.ix T y72 ?_
 refine U.ps 1 T rfl (U.al T ?_)
 refine U.st T ?_
 refine U.done (C.xt (U.ps 2 T rfl ?_))
 refine U.c (sqR 1 12) (Yb x72 ({site:=({Floor:=({W:=s65.1,H:=s65.2.1,D:=s65.2.2.1,Kind:=s65.2.2.2.1,Out:=s65.2.2.2.2.1:Q6}),Zones:=s65.2.2.2.2.2.1,Aparts:=s65.2.2.2.2.2.2.1,Shelves:=s65.2.2.2.2.2.2.2.1,Robots:=s65.2.2.2.2.2.2.2.2.1:ApiSite}),shelf:=s65.2.2.2.2.2.2.2.2.2.1,robot:=s65.2.2.2.2.2.2.2.2.2.2.1,zoned:=s65.2.2.2.2.2.2.2.2.2.2.2.1,names:=s65.2.2.2.2.2.2.2.2.2.2.2.2.1,oneways:=s65.2.2.2.2.2.2.2.2.2.2.2.2.2.1,shelves:=s65.2.2.2.2.2.2.2.2.2.2.2.2.2.2.1,zones:=s65.2.2.2.2.2.2.2.2.2.2.2.2.2.2.2.1:Q7}) _ g) en67 fun x75 g=>?_
 refine U.pd 1 T (C.nx ?_)
 refine C.ite rfl g (fun b76 g=>?_) fun b76 g=>?_
 refine C.ss (U.pd 1 T (C.nx (C.ret (C.brt (C.rt (C.rt (C.brt (C.rt ?_))))))))
 exact C.f1 T o (pBi g)
 refine C.skip (C.bnx (C.nx (U.start (U.pd 2 T (C.nx ?_)))))
 exact St.wk (C.next g) (Wk.a [some 0,some 1,some 26,some 27,some 28,some 29,some 30,some 31,some 32,some 33,some 34,some 35,some 36])
 refine C.exit (C.ex (C.ex (C.bex ?_)))
 exact St.wa (idR 13) (j64 _ g)
 refine C.block ?_
 refine St.wk (C.loop (fun (s45:Int×Int×Int×List Int×List Int×List ApiZone×List ApiApart×List ApiShelf×List ApiStart×List (Int×Int)×List (Int×Bool)×List (Int×Bool)×List (ByteArray×Int)×List (Int×Bool)×List Int×List Int×Int)=>[(1,.p 0 0),(3,.p 1 0),(62,.sl 2 Qa s_1.Aparts),(63,.i (s_1.Aparts.length:Int)),(64,.i s45.2.2.2.2.2.2.2.2.2.2.2.2.2.2.2.2)]) (fun s45=>[(0,.box (Q2 s_1)),(1,.box [.i s45.1,.i s45.2.1,.i s45.2.2.1,.sl 1 eI s45.2.2.2.1,.sl 1 eI s45.2.2.2.2.1,.o 2,.o 3,.o 4,.o 5,.o 6,.o 7,.o 8,.o 9,.o 10,.o 11,.o 12]),(2,.val (.os 5 Q9 s45.2.2.2.2.2.1)),(3,.val (.os 2 Qa s45.2.2.2.2.2.2.1)),(4,.val (.os 2 Qc s45.2.2.2.2.2.2.2.1)),(5,.val (.os 2 Qb s45.2.2.2.2.2.2.2.2.1)),(6,.val (.om kI veI s45.2.2.2.2.2.2.2.2.2.1)),(7,.val (.om kI veB s45.2.2.2.2.2.2.2.2.2.2.1)),(8,.val (.om kI veB s45.2.2.2.2.2.2.2.2.2.2.2.1)),(9,.val (.om kS veI s45.2.2.2.2.2.2.2.2.2.2.2.2.1)),(10,.val (.om kI veB s45.2.2.2.2.2.2.2.2.2.2.2.2.2.1)),(11,.val (.os 1 eI s45.2.2.2.2.2.2.2.2.2.2.2.2.2.2.1)),(12,.val (.os 1 eI s45.2.2.2.2.2.2.2.2.2.2.2.2.2.2.2.1))]) g (fun s45 Y46 g=>?_)) (Wk.a (idR 13))
 refine C.ss (U.pd 1 T (C.xs ?_))
 refine C.ite rfl g (fun b49 g=>?_) fun b49 g=>?_
 refine C.skip (C.xs (C.block (C.ss ?_)))
 obtain⟨x52,y52,g⟩:=g
 refine U.ix T y52 ?_
 refine U.ps 1 T rfl (U.al T ?_)
 refine U.st T ?_
 refine U.done (C.xt (U.ps 2 T rfl ?_))
 refine U.c (sqR 1 12) (Y9 x52 ({site:=({Floor:=({W:=s45.1,H:=s45.2.1,D:=s45.2.2.1,Kind:=s45.2.2.2.1,Out:=s45.2.2.2.2.1:Q6}),Zones:=s45.2.2.2.2.2.1,Aparts:=s45.2.2.2.2.2.2.1,Shelves:=s45.2.2.2.2.2.2.2.1,Robots:=s45.2.2.2.2.2.2.2.2.1:ApiSite}),shelf:=s45.2.2.2.2.2.2.2.2.2.1,robot:=s45.2.2.2.2.2.2.2.2.2.2.1,zoned:=s45.2.2.2.2.2.2.2.2.2.2.2.1,names:=s45.2.2.2.2.2.2.2.2.2.2.2.2.1,oneways:=s45.2.2.2.2.2.2.2.2.2.2.2.2.2.1,shelves:=s45.2.2.2.2.2.2.2.2.2.2.2.2.2.2.1,zones:=s45.2.2.2.2.2.2.2.2.2.2.2.2.2.2.2.1:Q7}) _ g) en66 fun x55 g=>?_
 refine U.pd 1 T (C.nx ?_)
 refine C.ite rfl g (fun b56 g=>?_) fun b56 g=>?_
 refine C.ss (U.pd 1 T (C.nx (C.ret (C.brt (C.rt (C.rt (C.brt (C.rt ?_))))))))
 exact C.f1 T o (pBi g)
 refine C.skip (C.bnx (C.nx (U.start (U.pd 2 T (C.nx ?_)))))
 exact St.wk (C.next g) (Wk.a [some 0,some 1,some 26,some 27,some 28,some 29,some 30,some 31,some 32,some 33,some 34,some 35,some 36])
 refine C.exit (C.ex (C.ex (C.bex ?_)))
 exact St.wa (idR 13) (j44 _ g)
 refine C.block ?_
 refine St.wk (C.loop (fun (s16:Int×Int×Int×List Int×List Int×List ApiZone×List ApiApart×List ApiShelf×List ApiStart×List (Int×Int)×List (Int×Bool)×List (Int×Bool)×List (ByteArray×Int)×List (Int×Bool)×List Int×List Int×Int)=>[(1,.p 0 0),(3,.p 1 0),(20,.sl 5 Q9 s_1.Zones),(21,.i (s_1.Zones.length:Int)),(22,.i s16.2.2.2.2.2.2.2.2.2.2.2.2.2.2.2.2)]) (fun s16=>[(0,.box (Q2 s_1)),(1,.box [.i s16.1,.i s16.2.1,.i s16.2.2.1,.sl 1 eI s16.2.2.2.1,.sl 1 eI s16.2.2.2.2.1,.o 2,.o 3,.o 4,.o 5,.o 6,.o 7,.o 8,.o 9,.o 10,.o 11,.o 12]),(2,.val (.os 5 Q9 s16.2.2.2.2.2.1)),(3,.val (.os 2 Qa s16.2.2.2.2.2.2.1)),(4,.val (.os 2 Qc s16.2.2.2.2.2.2.2.1)),(5,.val (.os 2 Qb s16.2.2.2.2.2.2.2.2.1)),(6,.val (.om kI veI s16.2.2.2.2.2.2.2.2.2.1)),(7,.val (.om kI veB s16.2.2.2.2.2.2.2.2.2.2.1)),(8,.val (.om kI veB s16.2.2.2.2.2.2.2.2.2.2.2.1)),(9,.val (.om kS veI s16.2.2.2.2.2.2.2.2.2.2.2.2.1)),(10,.val (.om kI veB s16.2.2.2.2.2.2.2.2.2.2.2.2.2.1)),(11,.val (.os 1 eI s16.2.2.2.2.2.2.2.2.2.2.2.2.2.2.1)),(12,.val (.os 1 eI s16.2.2.2.2.2.2.2.2.2.2.2.2.2.2.2.1))]) g (fun s16 Y17 g=>?_)) (Wk.a [some 0,some 12,some 1,some 2,some 3,some 4,some 5,some 6,some 7,some 8,some 9,some 10,some 11])
 refine C.ss (U.pd 1 T (C.xs ?_))
 refine C.ite rfl g (fun b20 g=>?_) fun b20 g=>?_
 refine C.skip (C.xs (C.block (C.ss ?_)))
 obtain⟨x23,y23,g⟩:=g
 refine U.ix T y23 ?_
 refine U.ps 1 T rfl (U.al T ?_)
 refine U.st T ?_
 refine U.done (C.xs ?_)
 refine C.jn (fun (x24:Int×Int×Int×List Int×List Int×List ApiZone×List ApiApart×List ApiShelf×List ApiStart×List (Int×Int)×List (Int×Bool)×List (Int×Bool)×List (ByteArray×Int)×List (Int×Bool)×List Int×List Int×Bool)=>[(1,.p 0 0),(3,.p 1 0),(20,.sl 5 Q9 s_1.Zones),(21,.i (s_1.Zones.length:Int)),(22,.i s16.2.2.2.2.2.2.2.2.2.2.2.2.2.2.2.2),(59,.b x24.2.2.2.2.2.2.2.2.2.2.2.2.2.2.2.2)]) (fun x24=>[(0,.box (Q2 s_1)),(1,.box [.i x24.1,.i x24.2.1,.i x24.2.2.1,.sl 1 eI x24.2.2.2.1,.sl 1 eI x24.2.2.2.2.1,.o 2,.o 3,.o 4,.o 5,.o 6,.o 7,.o 8,.o 9,.o 10,.o 11,.o 12]),(2,.val (.os 5 Q9 x24.2.2.2.2.2.1)),(3,.val (.os 2 Qa x24.2.2.2.2.2.2.1)),(4,.val (.os 2 Qc x24.2.2.2.2.2.2.2.1)),(5,.val (.os 2 Qb x24.2.2.2.2.2.2.2.2.1)),(6,.val (.om kI veI x24.2.2.2.2.2.2.2.2.2.1)),(7,.val (.om kI veB x24.2.2.2.2.2.2.2.2.2.2.1)),(8,.val (.om kI veB x24.2.2.2.2.2.2.2.2.2.2.2.1)),(9,.val (.om kS veI x24.2.2.2.2.2.2.2.2.2.2.2.2.1)),(10,.val (.om kI veB x24.2.2.2.2.2.2.2.2.2.2.2.2.2.1)),(11,.val (.os 1 eI x24.2.2.2.2.2.2.2.2.2.2.2.2.2.2.1)),(12,.val (.os 1 eI x24.2.2.2.2.2.2.2.2.2.2.2.2.2.2.2.1))]) 13 g (fun x24 g=>?_) fun J25 g j25=>?_
 refine C.nx ?_
 refine C.ite rfl g (fun b36 g=>?_) fun b36 g=>?_
 refine C.ss (U.pd 1 T (C.nx (C.ret (C.brt (C.rt (C.rt (C.brt (C.rt ?_))))))))
 exact C.f1 T o (pBi g)
 refine C.skip (C.bnx (C.nx (U.start (U.pd 2 T (C.nx ?_)))))
 exact St.wk (C.next g) (Wk.a (idR 13))
 refine U.start (U.ps 2 T rfl (U.k (WT x23.Name _ g) en61 (fun x26 g=>?_)))
 refine U.ps 2 T rfl ?_
 refine g.cs (fun b27 g=>?_) fun b27 g=>?_
 refine U.pq 2 4 false 30 (ntF b27) T ?_
 refine U.k (ZM x23.Speed 1 100 _ g) en62 (fun x28 g=>?_) (hw:=.take 4 false 30 _ (ntF b27) rfl rfl rfl)
 refine U.pq 1 4 false 30 (ntF b27) T ?_
 refine U.pk' (ntF b27) ?_
 refine U.ps 1 T rfl ?_
 refine g.cs (fun b29 g=>?_) fun b29 g=>?_
 refine U.pq 3 10 false 36 (ntF b29) T ?_
 refine U.pk' (ntF b29) ?_
 refine U.ps 1 T rfl ?_
 refine g.cs (fun b30 g=>?_) fun b30 g=>?_
 refine U.sk' 4 15 false 41 b30 ?_
 refine U.pk b30 ?_
 refine U.ps 1 T rfl (U.sk' 5 21 false 47 rfl ?_)
 refine U.pk rfl ?_
 refine U.ps 1 T rfl (U.sk' 4 28 false 54 rfl ?_)
 refine U.pk rfl ?_
 refine U.done ?_
 exact St.wa (idR 13) (j25 _ g)
 refine U.pq 2 15 false 41 b30 T ?_
 refine U.k (Q4H x23.Shut _ g) en63 (fun x31 g=>?_) (hw:=.take 15 false 41 _ b30 rfl rfl rfl)
 refine U.pq 1 15 false 41 b30 T ?_
 refine U.pk' b30 ?_
 refine U.ps 1 T rfl ?_
 refine g.cs (fun b32 g=>?_) fun b32 g=>?_
 refine U.pq 3 21 false 47 (ntF b32) T ?_
 refine U.k (Q04 ({site:=({Floor:=({W:=s16.1,H:=s16.2.1,D:=s16.2.2.1,Kind:=s16.2.2.2.1,Out:=s16.2.2.2.2.1:Q6}),Zones:=s16.2.2.2.2.2.1,Aparts:=s16.2.2.2.2.2.2.1,Shelves:=s16.2.2.2.2.2.2.2.1,Robots:=s16.2.2.2.2.2.2.2.2.1:ApiSite}),shelf:=s16.2.2.2.2.2.2.2.2.2.1,robot:=s16.2.2.2.2.2.2.2.2.2.2.1,zoned:=s16.2.2.2.2.2.2.2.2.2.2.2.1,names:=s16.2.2.2.2.2.2.2.2.2.2.2.2.1,oneways:=s16.2.2.2.2.2.2.2.2.2.2.2.2.2.1,shelves:=s16.2.2.2.2.2.2.2.2.2.2.2.2.2.2.1,zones:=s16.2.2.2.2.2.2.2.2.2.2.2.2.2.2.2.1:Q7}) x23.Cells _ g) en64 (fun x33 g=>?_) (hw:=.take 21 false 47 _ (ntF b32) rfl rfl rfl)
 refine U.pq 1 21 false 47 (ntF b32) T ?_
 refine U.pk' (ntF b32) ?_
 refine U.ps 1 T rfl ?_
 refine g.cs (fun b34 g=>?_) fun b34 g=>?_
 refine U.pq 2 28 false 54 (ntF b34) T ?_
 refine U.c (sqR 1 12) (Ys x23 ({site:=({Floor:=({W:=s16.1,H:=s16.2.1,D:=s16.2.2.1,Kind:=s16.2.2.2.1,Out:=s16.2.2.2.2.1:Q6}),Zones:=s16.2.2.2.2.2.1,Aparts:=s16.2.2.2.2.2.2.1,Shelves:=s16.2.2.2.2.2.2.2.1,Robots:=s16.2.2.2.2.2.2.2.2.1:ApiSite}),shelf:=s16.2.2.2.2.2.2.2.2.2.1,robot:=s16.2.2.2.2.2.2.2.2.2.2.1,zoned:=s16.2.2.2.2.2.2.2.2.2.2.2.1,names:=s16.2.2.2.2.2.2.2.2.2.2.2.2.1,oneways:=s16.2.2.2.2.2.2.2.2.2.2.2.2.2.1,shelves:=s16.2.2.2.2.2.2.2.2.2.2.2.2.2.2.1,zones:=s16.2.2.2.2.2.2.2.2.2.2.2.2.2.2.2.1:Q7}) _ g) en65 (fun x35 g=>?_) (hw:=.take 28 false 54 _ (ntF b34) rfl rfl rfl)
 refine U.pq 1 28 false 54 (ntF b34) T ?_
 refine U.pk' (ntF b34) ?_
 refine U.done ?_
 exact St.wa [some 0,some 1,some 26,some 27,some 28,some 29,some 30,some 31,some 32,some 33,some 34,some 35,some 36] (j25 _ g)
 refine U.sk' 4 28 false 54 (ntT b34) ?_
 refine U.pk (ntT b34) ?_
 refine U.done ?_
 exact St.wa (idR 13) (j25 _ g)
 refine U.sk' 5 21 false 47 (ntT b32) ?_
 refine U.pk (ntT b32) ?_
 refine U.ps 1 T rfl (U.sk' 4 28 false 54 rfl ?_)
 refine U.pk rfl ?_
 refine U.done ?_
 exact St.wa (idR 13) (j25 _ g)
 refine U.sk' 3 10 false 36 (ntT b29) ?_
 refine U.pk (ntT b29) ?_
 refine U.ps 1 T rfl (U.sk' 4 15 false 41 rfl ?_)
 refine U.pk rfl ?_
 refine U.ps 1 T rfl (U.sk' 5 21 false 47 rfl ?_)
 refine U.pk rfl ?_
 refine U.ps 1 T rfl (U.sk' 4 28 false 54 rfl ?_)
 refine U.pk rfl ?_
 refine U.done ?_
 exact St.wa (idR 13) (j25 _ g)
 refine U.sk' 4 4 false 30 (ntT b27) ?_
 refine U.pk (ntT b27) ?_
 refine U.ps 1 T rfl (U.sk' 3 10 false 36 rfl ?_)
 refine U.pk rfl ?_
 refine U.ps 1 T rfl (U.sk' 4 15 false 41 rfl ?_)
 refine U.pk rfl ?_
 refine U.ps 1 T rfl (U.sk' 5 21 false 47 rfl ?_)
 refine U.pk rfl ?_
 refine U.ps 1 T rfl (U.sk' 4 28 false 54 rfl ?_)
 refine U.pk rfl ?_
 refine U.done ?_
 exact St.wa (idR 13) (j25 _ g)
 refine C.exit (C.ex (C.ex (C.bex ?_)))
 exact St.wa (idR 13) (j15 _ g)
theorem Q0G (post:Bool→Prop) (g:Xf post):
  Tr Tryz.prog 8 [] [] 0 (pB post):=by
 refine Tr.go Tryz.func8 Tryz.ntmps8 fun _ _ _ _ o=>?_
 unfold Xf at g
 refine C.ss (U.pd 1 T (C.xt ?_))
 refine U.e rfl (.none rfl) (by exact Eff.c [] (v:=false) (Q1m _ g) en32 rfl rfl rfl (.eq rfl) trivial rfl rfl rfl rfl rfl rfl (fun h=>by cases h) (.inr ⟨rfl,rfl⟩) (fun _=>rfl) (fun _=>rfl) rfl) (fun x5' g=>?_)
 obtain⟨x5⟩:=x5'
 refine U.al T ?_
 refine U.st T ?_
 refine U.done (C.xt (U.ps 1 T rfl (U.k (Q5r x5 _ g) en33 (fun x8 g=>?_))))
 refine U.al T ?_
 refine U.st T ?_
 refine U.done (C.xt (U.pd 1 T (C.xt ?_)))
 refine U.pd 1 T (C.xt ?_)
 refine U.ps 4 T rfl (U.bs T eI ([1,3]:List Int) ?_)
 refine U.ps 1 T rfl (U.k (Yx x5 x8 ([1,3]:List Int) ({Kind:=0,A:=0,N:=0:Qk}) _ g) en17 (fun x15 g=>?_))
 refine U.ps 3 T rfl (U.al T ?_)
 refine U.st T ?_
 refine U.pd 1 T (C.xt ?_)
 refine U.ps 3 T rfl (U.bs T eI ([1,0]:List Int) ?_)
 refine U.ps 1 T rfl (U.k (Yx x5 x8 ([1,0]:List Int) ({Kind:=2,A:=1,N:=0:Qk}) _ g) en17 (fun x18 g=>?_))
 refine U.ps 3 T rfl (U.al T ?_)
 refine U.st T ?_
 refine U.pd 1 T (C.xt ?_)
 refine U.ps 4 T rfl (U.bs T eI ([1,1]:List Int) ?_)
 refine U.ps 1 T rfl (U.k (Yx x5 x8 ([1,1]:List Int) ({Kind:=0,A:=0,N:=0:Qk}) _ g) en17 (fun x21 g=>?_))
 refine U.ps 3 T rfl (U.al T ?_)
 refine U.st T ?_
 refine U.pd 1 T (C.xs (C.seq ?_))
 refine C.jn (fun (x22:Bool)=>[(1,.p 0 0),(6,.i x15.2),(7,.p 7 0),(8,.i x18.2),(9,.p 13 0),(10,.i x21.2),(58,.b x22)]) (fun x22=>[(0,.box [.i x5.Floor.W,.i x5.Floor.H,.i x5.Floor.D,.o 1,.o 2,.o 3,.o 4,.o 5,.o 6]),(1,.val (.os 1 eI x5.Floor.Kind)),(2,.val (.os 1 eI x5.Floor.Out)),(3,.val (.os 5 Q9 x5.Zones)),(4,.val (.os 2 Qa x5.Aparts)),(5,.val (.os 2 Qc x5.Shelves)),(6,.val (.os 2 Qb x5.Robots)),(7,.box [.i x18.1.Tick,.o 8,.o 9,.o 10,.o 11,.o 12]),(8,.val (.os 1 eI x18.1.Shelves)),(9,.val (.os 6 Q4 x18.1.Robots)),(10,.val (.os 1 eI x18.1.People)),(11,.val (.os 1 eI x18.1.Dead)),(12,.val (.os 2 Q3 x18.1.Stuck)),(13,.box [.i x21.1.Tick,.o 14,.o 15,.o 16,.o 17,.o 18]),(14,.val (.os 1 eI x21.1.Shelves)),(15,.val (.os 6 Q4 x21.1.Robots)),(16,.val (.os 1 eI x21.1.People)),(17,.val (.os 1 eI x21.1.Dead)),(18,.val (.os 2 Q3 x21.1.Stuck))]) 19 g (fun x22 g=>?_) fun J23 g j23=>?_
 refine C.nx ?_
 refine C.ite rfl g (fun b26 g=>?_) fun b26 g=>?_
 refine C.ss (U.pd 1 T (C.nx (C.ret (C.rt ?_))))
 exact C.f1 T o (pBi g)
 refine C.skip (C.xs ?_)
 refine C.jn (fun (x29:Bool)=>[(0,.b x29)]) (fun x29=>[]) 0 g (fun x29 g=>?_) fun J30 g j30=>?_
 refine C.nx (C.ret ?_)
 exact C.f1 T o (pBi g)
 refine U.start (U.ps 3 T rfl ?_)
 refine g.cs (fun b31 g=>?_) fun b31 g=>?_
 refine U.pq 2 2 true 61 b31 T ?_
 refine U.pk b31 ?_
 refine U.ps 1 T rfl ?_
 refine g.cs (fun b32 g=>?_) fun b32 g=>?_
 refine U.pq 2 6 true 65 b32 T ?_
 obtain⟨x33,y33,g⟩:=g
 refine U.r rfl (.tk 6 true 65 b32) rfl rfl (by exact Rd.io T rfl rfl rfl rfl rfl rfl rfl y33) ?_
 refine U.pq 1 6 true 65 b32 T ?_
 refine U.r rfl (.tk 6 true 65 b32) rfl rfl (by exact Rd.le T rfl rfl rfl (Qj y33).2.2 rfl rfl rfl) ?_
 refine U.pq 1 6 true 65 b32 T ?_
 refine U.pk b32 ?_
 refine U.ps 1 T rfl ?_
 refine g.cs (fun b34 g=>?_) fun b34 g=>?_
 refine U.pq 2 14 true 73 b34 T ?_
 refine U.pk b34 ?_
 refine U.ps 1 T rfl ?_
 refine g.cs (fun b35 g=>?_) fun b35 g=>?_
 refine U.pq 2 18 true 77 b35 T ?_
 obtain⟨x36,y36,g⟩:=g
 refine U.r rfl (.tk 18 true 77 b35) rfl rfl (by exact Rd.io T rfl rfl rfl rfl rfl rfl rfl y36) ?_
 refine U.pq 1 18 true 77 b35 T ?_
 refine U.r rfl (.tk 18 true 77 b35) rfl rfl (by exact Rd.le T rfl rfl rfl (Qj y36).2.2 rfl rfl rfl) ?_
 refine U.pq 1 18 true 77 b35 T ?_
 refine U.pk b35 ?_
 refine U.ps 1 T rfl ?_
 refine g.cs (fun b37 g=>?_) fun b37 g=>?_
 refine U.pq 2 26 true 85 b37 T ?_
 obtain⟨x38,y38,g⟩:=g
 refine U.r rfl (.tk 26 true 85 b37) rfl rfl (by exact Rd.io T rfl rfl rfl rfl rfl rfl rfl y38) ?_
 refine U.pq 1 26 true 85 b37 T ?_
 refine U.r rfl (.tk 26 true 85 b37) rfl rfl (by exact Rd.le T rfl rfl rfl (Qj y38).2.2 rfl rfl rfl) ?_
 refine U.pq 1 26 true 85 b37 T ?_
 refine U.pk b37 ?_
 refine U.ps 1 T rfl ?_
 refine g.cs (fun b39 g=>?_) fun b39 g=>?_
 refine U.pq 3 34 true 93 b39 T ?_
 refine U.pk b39 ?_
 refine U.ps 1 T rfl ?_
 refine g.cs (fun b40 g=>?_) fun b40 g=>?_
 refine U.pq 1 39 true 98 b40 T ?_
 refine U.k (Q3d x5 _ g) en21 (fun x41 g=>?_) (hw:=.take 39 true 98 _ b40 rfl rfl rfl)
 refine U.pk b40 ?_
 refine U.pd 1 T ?_
 exact St.wn (j30 _ g)
 refine U.sk' 2 39 true 98 b40 ?_
 refine U.pk' b40 ?_
 refine U.pd 1 T ?_
 exact St.wn (j30 _ g)
 refine U.sk' 3 34 true 93 b39 ?_
 refine U.pk' b39 ?_
 refine U.ps 1 T rfl (U.sk' 2 39 true 98 rfl ?_)
 refine U.pk' rfl ?_
 refine U.pd 1 T ?_
 exact St.wn (j30 _ g)
 refine U.sk' 6 26 true 85 b37 ?_
 refine U.pk' b37 ?_
 refine U.ps 1 T rfl (U.sk' 3 34 true 93 rfl ?_)
 refine U.pk' rfl ?_
 refine U.ps 1 T rfl (U.sk' 2 39 true 98 rfl ?_)
 refine U.pk' rfl ?_
 refine U.pd 1 T ?_
 exact St.wn (j30 _ g)
 refine U.sk' 6 18 true 77 b35 ?_
 refine U.pk' b35 ?_
 refine U.ps 1 T rfl (U.sk' 6 26 true 85 rfl ?_)
 refine U.pk' rfl ?_
 refine U.ps 1 T rfl (U.sk' 3 34 true 93 rfl ?_)
 refine U.pk' rfl ?_
 refine U.ps 1 T rfl (U.sk' 2 39 true 98 rfl ?_)
 refine U.pk' rfl ?_
 refine U.pd 1 T ?_
 exact St.wn (j30 _ g)
 refine U.sk' 2 14 true 73 b34 ?_
 refine U.pk' b34 ?_
 refine U.ps 1 T rfl (U.sk' 6 18 true 77 rfl ?_)
 refine U.pk' rfl ?_
 refine U.ps 1 T rfl (U.sk' 6 26 true 85 rfl ?_)
 refine U.pk' rfl ?_
 refine U.ps 1 T rfl (U.sk' 3 34 true 93 rfl ?_)
 refine U.pk' rfl ?_
 refine U.ps 1 T rfl (U.sk' 2 39 true 98 rfl ?_)
 refine U.pk' rfl ?_
 refine U.pd 1 T ?_
 exact St.wn (j30 _ g)
 refine U.sk' 6 6 true 65 b32 ?_
 refine U.pk' b32 ?_
 refine U.ps 1 T rfl (U.sk' 2 14 true 73 rfl ?_)
 refine U.pk' rfl ?_
 refine U.ps 1 T rfl (U.sk' 6 18 true 77 rfl ?_)
 refine U.pk' rfl ?_
 refine U.ps 1 T rfl (U.sk' 6 26 true 85 rfl ?_)
 refine U.pk' rfl ?_
 refine U.ps 1 T rfl (U.sk' 3 34 true 93 rfl ?_)
 refine U.pk' rfl ?_
 refine U.ps 1 T rfl (U.sk' 2 39 true 98 rfl ?_)
 refine U.pk' rfl ?_
 refine U.pd 1 T ?_
 exact St.wn (j30 _ g)
 refine U.sk' 2 2 true 61 b31 ?_
 refine U.pk' b31 ?_
 refine U.ps 1 T rfl (U.sk' 6 6 true 65 rfl ?_)
 refine U.pk' rfl ?_
 refine U.ps 1 T rfl (U.sk' 2 14 true 73 rfl ?_)
 refine U.pk' rfl ?_
 refine U.ps 1 T rfl (U.sk' 6 18 true 77 rfl ?_)
 refine U.pk' rfl ?_
 refine U.ps 1 T rfl (U.sk' 6 26 true 85 rfl ?_)
 refine U.pk' rfl ?_
 refine U.ps 1 T rfl (U.sk' 3 34 true 93 rfl ?_)
 refine U.pk' rfl ?_
 refine U.ps 1 T rfl (U.sk' 2 39 true 98 rfl ?_)
 refine U.pk' rfl ?_
 refine U.pd 1 T ?_
 exact St.wn (j30 _ g)
 refine U.start (U.ps 5 T rfl ?_)
 refine g.cs (fun b24 g=>?_) fun b24 g=>?_
 refine U.sk' 4 4 false 47 b24 ?_
 refine U.pk b24 ?_
 refine U.ps 1 T rfl (U.sk' 4 10 false 53 rfl ?_)
 refine U.pk rfl ?_
 refine U.done ?_
 exact St.wa [some 6,some 0,some 1,some 2,some 3,some 4,some 5,some 26,some 21,some 22,some 23,some 24,some 25,some 33,some 28,some 29,some 30,some 31,some 32] (j23 _ g)
 refine U.pq 4 4 false 47 b24 T ?_
 refine U.pk' b24 ?_
 refine U.ps 1 T rfl ?_
 refine g.cs (fun b25 g=>?_) fun b25 g=>?_
 refine U.sk' 4 10 false 53 b25 ?_
 refine U.pk b25 ?_
 refine U.done ?_
 exact St.wa [some 6,some 0,some 1,some 2,some 3,some 4,some 5,some 26,some 21,some 22,some 23,some 24,some 25,some 33,some 28,some 29,some 30,some 31,some 32] (j23 _ g)
 refine U.pq 4 10 false 53 b25 T ?_
 refine U.pk' b25 ?_
 refine U.done ?_
 exact St.wa [some 6,some 0,some 1,some 2,some 3,some 4,some 5,some 26,some 21,some 22,some 23,some 24,some 25,some 33,some 28,some 29,some 30,some 31,some 32] (j23 _ g)
theorem Q1w (f:Q6) (n:Int) (post:Bool→Prop) (g:XU f n post):
  Tr Tryz.prog 58 [.agg (Qd f),.i n] [] 0 (pB post):=by
 refine Tr.go Tryz.func58 Tryz.ntmps58 fun _ _ _ _ o=>?_
 unfold XU at g
 refine C.ss (U.bx ?_)
 refine U.pd 1 T (C.xs ?_)
 refine C.jn (fun (x3:Bool)=>[(4,.b x3)]) (fun x3=>[]) 0 g (fun x3 g=>?_) fun J4 g j4=>?_
 refine C.nx (C.ret ?_)
 exact C.f1 T o (pBi g)
 refine U.start (U.ps 6 T rfl ?_)
 refine g.cs (fun b5 g=>?_) fun b5 g=>?_
 refine U.pq 5 5 true 10 b5 T ?_
 refine U.pk b5 ?_
 refine U.pd 1 T ?_
 exact St.wn (j4 _ g)
 refine U.sk' 5 5 true 10 b5 ?_
 refine U.pk' b5 ?_
 refine U.pd 1 T ?_
 exact St.wn (j4 _ g)
theorem Q1A (s_1:ApiSite) (cells:Int) (most:Int) (post:Bool→Prop) (g:XY s_1 cells most post):
  Tr Tryz.prog 20 [.agg (Q2 s_1),.i cells,.i most] [] 0 (pB post):=by
 refine Tr.go Tryz.func20 Tryz.ntmps20 fun _ _ _ _ o=>?_
 unfold XY at g
 refine C.ss (U.bx ?_)
 refine U.pd 1 T (C.xs (C.ss ?_))
 refine U.pd 1 T (C.nx ?_)
 refine C.jn (fun (x5:Unit)=>[(1,.i cells),(2,.i most),(3,.p 0 0)]) (fun x5=>[(0,.box (Q2 s_1))]) 1 g (fun x5 g=>?_) fun J6 g j6=>?_
 refine C.xs (C.ss (U.pd 1 T (C.nx ?_)))
 refine C.jn (fun (x25:Unit)=>[(1,.i cells),(2,.i most),(3,.p 0 0)]) (fun x25=>[(0,.box (Q2 s_1))]) 1 g (fun x25 g=>?_) fun J26 g j26=>?_
 refine C.xs (C.ss (U.pd 1 T (C.nx ?_)))
 refine C.jn (fun (x44:Unit)=>[(1,.i cells),(2,.i most),(3,.p 0 0)]) (fun x44=>[(0,.box (Q2 s_1))]) 1 g (fun x44 g=>?_) fun J45 g j45=>?_
 refine C.xs ?_
 refine C.jn (fun (x60:Bool)=>[(6,.b x60)]) (fun x60=>[]) 0 g (fun x60 g=>?_) fun J61 g j61=>?_
 refine C.nx (C.ret ?_)
 exact C.f1 T o (pBi g)
 refine U.start (U.ps 3 T rfl (U.k (Q1w s_1.Floor cells _ g) en58 (fun x62 g=>?_)))
 refine U.ps 1 T rfl ?_
 refine g.cs (fun b63 g=>?_) fun b63 g=>?_
 refine U.pq 5 4 true 105 b63 T ?_
 refine U.pk b63 ?_
 refine U.ps 1 T rfl ?_
 refine g.cs (fun b64 g=>?_) fun b64 g=>?_
 refine U.pq 5 11 true 112 b64 T ?_
 refine U.pk b64 ?_
 refine U.ps 1 T rfl ?_
 refine g.cs (fun b65 g=>?_) fun b65 g=>?_
 refine U.pq 5 18 true 119 b65 T ?_
 refine U.pk b65 ?_
 refine U.ps 1 T rfl ?_
 refine g.cs (fun b66 g=>?_) fun b66 g=>?_
 refine U.pq 5 25 true 126 b66 T ?_
 refine U.pk b66 ?_
 refine U.pd 1 T ?_
 exact St.wn (j61 _ g)
 refine U.sk' 5 25 true 126 b66 ?_
 refine U.pk' b66 ?_
 refine U.pd 1 T ?_
 exact St.wn (j61 _ g)
 refine U.sk' 5 18 true 119 b65 ?_
 refine U.pk' b65 ?_
 refine U.ps 1 T rfl (U.sk' 5 25 true 126 rfl ?_)
 refine U.pk' rfl ?_
 refine U.pd 1 T ?_
 exact St.wn (j61 _ g)
 refine U.sk' 5 11 true 112 b64 ?_
 refine U.pk' b64 ?_
 refine U.ps 1 T rfl (U.sk' 5 18 true 119 rfl ?_)
 refine U.pk' rfl ?_
 refine U.ps 1 T rfl (U.sk' 5 25 true 126 rfl ?_)
 refine U.pk' rfl ?_
 refine U.pd 1 T ?_
 exact St.wn (j61 _ g)
 refine U.sk' 5 4 true 105 b63 ?_
 refine U.pk' b63 ?_
 refine U.ps 1 T rfl (U.sk' 5 11 true 112 rfl ?_)
 refine U.pk' rfl ?_
 refine U.ps 1 T rfl (U.sk' 5 18 true 119 rfl ?_)
 refine U.pk' rfl ?_
 refine U.ps 1 T rfl (U.sk' 5 25 true 126 rfl ?_)
 refine U.pk' rfl ?_
 refine U.pd 1 T ?_
 exact St.wn (j61 _ g)
 refine C.block (St.wk (C.loop (fun (s46:Int)=>[(1,.i cells),(2,.i most),(3,.p 0 0),(9,.i s46)]) (fun s46=>[(0,.box (Q2 s_1))]) g (fun s46 Y47 g=>?_)) (Wk.a [some 0]))
 refine C.seq (C.seq ?_)
 refine C.jn (fun (x48:Bool)=>[(1,.i cells),(2,.i most),(3,.p 0 0),(9,.i s46),(90,.b x48)]) (fun x48=>[(0,.box (Q2 s_1))]) 1 g (fun x48 g=>?_) fun J49 g j49=>?_
 refine C.nx ?_
 refine C.ite rfl g (fun b51 g=>?_) fun b51 g=>?_
 refine C.skip (C.xs (C.block (C.ss (U.ps 3 T rfl ?_))))
 obtain⟨x54,y54,g⟩:=g
 refine U.ix T y54 ?_
 refine U.pd 4 T (C.nx ?_)
 refine C.ite rfl g (fun b55 g=>?_) fun b55 g=>?_
 refine C.ss (U.pd 1 T (C.nx (C.ret (C.brt (C.rt (C.rt (C.brt (C.rt ?_))))))))
 exact C.f1 T o (pBi g)
 refine C.skip (C.bnx (C.nx (U.start (U.pd 3 T (C.nx ?_)))))
 exact St.wk (C.next g) (Wk.a [some 0])
 refine C.exit (C.ex (C.ex (C.bex ?_)))
 exact St.wa [some 0] (j45 _ g)
 refine U.start (U.ps 6 T rfl ?_)
 refine g.cs (fun b50 g=>?_) fun b50 g=>?_
 refine U.pq 3 5 true 86 b50 T ?_
 refine U.pk b50 ?_
 refine U.done ?_
 exact St.wa [some 0] (j49 _ g)
 refine U.sk' 3 5 true 86 b50 ?_
 refine U.pk' b50 ?_
 refine U.done ?_
 exact St.wa [some 0] (j49 _ g)
 refine C.block (St.wk (C.loop (fun (s27:Int)=>[(1,.i cells),(2,.i most),(3,.p 0 0),(8,.i s27)]) (fun s27=>[(0,.box (Q2 s_1))]) g (fun s27 Y28 g=>?_)) (Wk.a [some 0]))
 refine C.seq (C.seq ?_)
 refine C.jn (fun (x29:Bool)=>[(1,.i cells),(2,.i most),(3,.p 0 0),(8,.i s27),(60,.b x29)]) (fun x29=>[(0,.box (Q2 s_1))]) 1 g (fun x29 g=>?_) fun J30 g j30=>?_
 refine C.nx ?_
 refine C.ite rfl g (fun b32 g=>?_) fun b32 g=>?_
 refine C.skip (C.xs (C.block (C.seq ?_)))
 refine C.jn (fun (x33:Bool)=>[(1,.i cells),(2,.i most),(3,.p 0 0),(8,.i s27),(80,.b x33)]) (fun x33=>[(0,.box (Q2 s_1))]) 1 g (fun x33 g=>?_) fun J34 g j34=>?_
 refine C.nx ?_
 refine C.ite rfl g (fun b37 g=>?_) fun b37 g=>?_
 refine C.ss (U.pd 1 T (C.nx (C.ret (C.brt (C.rt (C.rt (C.brt (C.rt ?_))))))))
 exact C.f1 T o (pBi g)
 refine C.skip (C.bnx (C.nx (U.start (U.pd 3 T (C.nx ?_)))))
 exact St.wk (C.next g) (Wk.a [some 0])
 refine U.start (U.ps 3 T rfl ?_)
 obtain⟨x35,y35,g⟩:=g
 refine U.ix T y35 ?_
 refine U.ps 5 T rfl ?_
 refine g.cs (fun b36 g=>?_) fun b36 g=>?_
 refine U.sk' 8 8 false 71 b36 ?_
 refine U.pk b36 ?_
 refine U.done ?_
 exact St.wa [some 0] (j34 _ g)
 refine U.pq 3 8 false 71 b36 T ?_
 refine U.r rfl (.tk 8 false 71 b36) rfl rfl (by exact Rd.ix T rfl rfl rfl rfl rfl rfl y35) ?_
 refine U.pq 4 8 false 71 b36 T ?_
 refine U.pk' b36 ?_
 refine U.done ?_
 exact St.wa [some 0] (j34 _ g)
 refine C.exit (C.ex (C.ex (C.bex ?_)))
 exact St.wa [some 0] (j26 _ g)
 refine U.start (U.ps 6 T rfl ?_)
 refine g.cs (fun b31 g=>?_) fun b31 g=>?_
 refine U.pq 3 5 true 56 b31 T ?_
 refine U.pk b31 ?_
 refine U.done ?_
 exact St.wa [some 0] (j30 _ g)
 refine U.sk' 3 5 true 56 b31 ?_
 refine U.pk' b31 ?_
 refine U.done ?_
 exact St.wa [some 0] (j30 _ g)
 refine C.block (St.wk (C.loop (fun (s7:Int)=>[(1,.i cells),(2,.i most),(3,.p 0 0),(7,.i s7)]) (fun s7=>[(0,.box (Q2 s_1))]) g (fun s7 Y8 g=>?_)) (Wk.a [some 0]))
 refine C.seq (C.seq ?_)
 refine C.jn (fun (x9:Bool)=>[(1,.i cells),(2,.i most),(3,.p 0 0),(7,.i s7),(19,.b x9)]) (fun x9=>[(0,.box (Q2 s_1))]) 1 g (fun x9 g=>?_) fun J10 g j10=>?_
 refine C.nx ?_
 refine C.ite rfl g (fun b12 g=>?_) fun b12 g=>?_
 refine C.skip (C.xs (C.block (C.seq ?_)))
 refine C.jn (fun (x13:Bool)=>[(1,.i cells),(2,.i most),(3,.p 0 0),(7,.i s7),(50,.b x13)]) (fun x13=>[(0,.box (Q2 s_1))]) 1 g (fun x13 g=>?_) fun J14 g j14=>?_
 refine C.nx ?_
 refine C.ite rfl g (fun b18 g=>?_) fun b18 g=>?_
 refine C.ss (U.pd 1 T (C.nx (C.ret (C.brt (C.rt (C.rt (C.brt (C.rt ?_))))))))
 exact C.f1 T o (pBi g)
 refine C.skip (C.bnx (C.nx (U.start (U.pd 3 T (C.nx ?_)))))
 exact St.wk (C.next g) (Wk.a [some 0])
 refine U.start (U.ps 3 T rfl ?_)
 obtain⟨x15,y15,g⟩:=g
 refine U.ix T y15 ?_
 refine U.ps 6 T rfl ?_
 refine g.cs (fun b16 g=>?_) fun b16 g=>?_
 refine U.sk' 8 9 false 31 b16 ?_
 refine U.pk b16 ?_
 refine U.ps 1 T rfl (U.sk' 8 19 false 41 rfl ?_)
 refine U.pk rfl ?_
 refine U.done ?_
 exact St.wa [some 0] (j14 _ g)
 refine U.pq 3 9 false 31 b16 T ?_
 refine U.r rfl (.tk 9 false 31 b16) rfl rfl (by exact Rd.ix T rfl rfl rfl rfl rfl rfl y15) ?_
 refine U.pq 4 9 false 31 b16 T ?_
 refine U.pk' b16 ?_
 refine U.ps 1 T rfl ?_
 refine g.cs (fun b17 g=>?_) fun b17 g=>?_
 refine U.sk' 8 19 false 41 b17 ?_
 refine U.pk b17 ?_
 refine U.done ?_
 exact St.wa [some 0] (j14 _ g)
 refine U.pq 3 19 false 41 b17 T ?_
 refine U.r rfl (.tk 19 false 41 b17) rfl rfl (by exact Rd.ix T rfl rfl rfl rfl rfl rfl y15) ?_
 refine U.pq 4 19 false 41 b17 T ?_
 refine U.pk' b17 ?_
 refine U.done ?_
 exact St.wa [some 0] (j14 _ g)
 refine C.exit (C.ex (C.ex (C.bex ?_)))
 exact St.wa [some 0] (j6 _ g)
 refine U.start (U.ps 6 T rfl ?_)
 refine g.cs (fun b11 g=>?_) fun b11 g=>?_
 refine U.pq 3 5 true 15 b11 T ?_
 refine U.pk b11 ?_
 refine U.done ?_
 exact St.wa [some 0] (j10 _ g)
 refine U.sk' 3 5 true 15 b11 ?_
 refine U.pk' b11 ?_
 refine U.done ?_
 exact St.wa [some 0] (j10 _ g)
theorem Q0v (f:Q6) (post:Bool→Prop) (g:Xn f post):
  Tr Tryz.prog 85 [.agg (Qd f)] [] 0 (pB post):=by
 refine Tr.go Tryz.func85 Tryz.ntmps85 fun _ _ _ _ o=>?_
 unfold Xn at g
 refine C.ss (U.bx ?_)
 refine U.pd 1 T (C.xs (C.seq ?_))
 refine C.jn (fun (x3:Bool)=>[(1,.p 0 0),(32,.b x3)]) (fun x3=>[(0,.box (Qd f))]) 1 g (fun x3 g=>?_) fun J4 g j4=>?_
 refine C.nx ?_
 refine C.ite rfl g (fun b10 g=>?_) fun b10 g=>?_
 refine C.ss (U.pd 1 T (C.nx (C.ret (C.rt ?_))))
 exact C.f1 T o (pBi g)
 refine C.skip (C.xt (U.pd 9 T (C.xs (C.seq ?_))))
 refine C.jn (fun (x15:Bool)=>[(1,.p 0 0),(3,.i (w64 ((w64 (f.W*f.H))*f.D))),(56,.b x15)]) (fun x15=>[(0,.box (Qd f))]) 1 g (fun x15 g=>?_) fun J16 g j16=>?_
 refine C.nx ?_
 refine C.ite rfl g (fun b19 g=>?_) fun b19 g=>?_
 refine C.ss (U.pd 1 T (C.nx (C.ret (C.rt ?_))))
 exact C.f1 T o (pBi g)
 refine C.skip (C.xs (C.ss (U.pd 1 T (C.nx ?_))))
 refine C.jn (fun (x24:Unit)=>[]) (fun x24=>[]) 0 g (fun x24 g=>?_) fun J25 g j25=>?_
 refine C.xt (U.pd 1 T (C.nx (C.ret ?_)))
 exact C.f1 T o (pBi g)
 refine C.block (St.wk (C.loop (fun (s26:Int)=>[(1,.p 0 0),(3,.i (w64 ((w64 (f.W*f.H))*f.D))),(4,.i s26)]) (fun s26=>[(0,.box (Qd f))]) g (fun s26 Y27 g=>?_)) (Wk.a [some 0]))
 refine C.seq (C.ss (U.pd 3 T (C.nx ?_)))
 refine C.ite rfl g (fun b30 g=>?_) fun b30 g=>?_
 refine C.skip (C.xs (C.block (C.seq ?_)))
 refine C.jn (fun (x31:Bool)=>[(1,.p 0 0),(3,.i (w64 ((w64 (f.W*f.H))*f.D))),(4,.i s26),(91,.b x31)]) (fun x31=>[(0,.box (Qd f))]) 1 g (fun x31 g=>?_) fun J32 g j32=>?_
 refine C.nx ?_
 refine C.ite rfl g (fun b38 g=>?_) fun b38 g=>?_
 refine C.ss (U.pd 1 T (C.nx (C.ret (C.brt (C.rt (C.rt (C.brt (C.rt ?_))))))))
 exact C.f1 T o (pBi g)
 refine C.skip (C.bnx (C.nx (U.start (U.pd 3 T (C.nx ?_)))))
 exact St.wk (C.next g) (Wk.a [some 0])
 refine U.start (U.ps 3 T rfl ?_)
 obtain⟨x33,y33,g⟩:=g
 refine U.ix T y33 ?_
 refine U.ps 3 T rfl ?_
 refine g.cs (fun b34 g=>?_) fun b34 g=>?_
 refine U.sk' 6 6 false 68 b34 ?_
 refine U.pk b34 ?_
 refine U.ps 1 T rfl (U.sk' 6 14 false 76 rfl ?_)
 refine U.pk rfl ?_
 refine U.ps 1 T rfl (U.sk' 6 22 false 84 rfl ?_)
 refine U.pk rfl ?_
 refine U.done ?_
 exact St.wa [some 0] (j32 _ g)
 refine U.pq 3 6 false 68 b34 T ?_
 refine U.r rfl (.tk 6 false 68 b34) rfl rfl (by exact Rd.ix T rfl rfl rfl rfl rfl rfl y33) ?_
 refine U.pq 2 6 false 68 b34 T ?_
 refine U.pk' b34 ?_
 refine U.ps 1 T rfl ?_
 refine g.cs (fun b35 g=>?_) fun b35 g=>?_
 refine U.sk' 6 14 false 76 b35 ?_
 refine U.pk b35 ?_
 refine U.ps 1 T rfl (U.sk' 6 22 false 84 rfl ?_)
 refine U.pk rfl ?_
 refine U.done ?_
 exact St.wa [some 0] (j32 _ g)
 refine U.pq 3 14 false 76 b35 T ?_
 obtain⟨x36,y36,g⟩:=g
 refine U.r rfl (.tk 14 false 76 b35) rfl rfl (by exact Rd.ix T rfl rfl rfl rfl rfl rfl y36) ?_
 refine U.pq 2 14 false 76 b35 T ?_
 refine U.pk' b35 ?_
 refine U.ps 1 T rfl ?_
 refine g.cs (fun b37 g=>?_) fun b37 g=>?_
 refine U.sk' 6 22 false 84 b37 ?_
 refine U.pk b37 ?_
 refine U.done ?_
 exact St.wa [some 0] (j32 _ g)
 refine U.pq 3 22 false 84 b37 T ?_
 refine U.r rfl (.tk 22 false 84 b37) rfl rfl (by exact Rd.ix T rfl rfl rfl rfl rfl rfl y36) ?_
 refine U.pq 2 22 false 84 b37 T ?_
 refine U.pk' b37 ?_
 refine U.done ?_
 exact St.wa [some 0] (j32 _ g)
 refine C.exit (C.ex (C.ex (C.bex ?_)))
 exact St.wk (j25 _ g) (Wk.mk' [] rfl rfl trivial trivial rfl)
 refine U.start (U.ps 3 T rfl ?_)
 refine g.cs (fun b17 g=>?_) fun b17 g=>?_
 refine U.sk' 5 2 false 43 b17 ?_
 refine U.pk b17 ?_
 refine U.ps 1 T rfl (U.sk' 5 9 false 50 rfl ?_)
 refine U.pk rfl ?_
 refine U.done ?_
 exact St.wa [some 0] (j16 _ g)
 refine U.pq 5 2 false 43 b17 T ?_
 refine U.pk' b17 ?_
 refine U.ps 1 T rfl ?_
 refine g.cs (fun b18 g=>?_) fun b18 g=>?_
 refine U.sk' 5 9 false 50 b18 ?_
 refine U.pk b18 ?_
 refine U.done ?_
 exact St.wa [some 0] (j16 _ g)
 refine U.pq 5 9 false 50 b18 T ?_
 refine U.pk' b18 ?_
 refine U.done ?_
 exact St.wa [some 0] (j16 _ g)
 refine U.start (U.ps 4 T rfl ?_)
 refine g.cs (fun b5 g=>?_) fun b5 g=>?_
 refine U.sk' 3 3 false 8 b5 ?_
 refine U.pk b5 ?_
 refine U.ps 1 T rfl (U.sk' 3 8 false 13 rfl ?_)
 refine U.pk rfl ?_
 refine U.ps 1 T rfl (U.sk' 3 13 false 18 rfl ?_)
 refine U.pk rfl ?_
 refine U.ps 1 T rfl (U.sk' 3 18 false 23 rfl ?_)
 refine U.pk rfl ?_
 refine U.ps 1 T rfl (U.sk' 3 23 false 28 rfl ?_)
 refine U.pk rfl ?_
 refine U.done ?_
 exact St.wa [some 0] (j4 _ g)
 refine U.pq 3 3 false 8 b5 T ?_
 refine U.pk' b5 ?_
 refine U.ps 1 T rfl ?_
 refine g.cs (fun b6 g=>?_) fun b6 g=>?_
 refine U.sk' 3 8 false 13 b6 ?_
 refine U.pk b6 ?_
 refine U.ps 1 T rfl (U.sk' 3 13 false 18 rfl ?_)
 refine U.pk rfl ?_
 refine U.ps 1 T rfl (U.sk' 3 18 false 23 rfl ?_)
 refine U.pk rfl ?_
 refine U.ps 1 T rfl (U.sk' 3 23 false 28 rfl ?_)
 refine U.pk rfl ?_
 refine U.done ?_
 exact St.wa [some 0] (j4 _ g)
 refine U.pq 3 8 false 13 b6 T ?_
 refine U.pk' b6 ?_
 refine U.ps 1 T rfl ?_
 refine g.cs (fun b7 g=>?_) fun b7 g=>?_
 refine U.sk' 3 13 false 18 b7 ?_
 refine U.pk b7 ?_
 refine U.ps 1 T rfl (U.sk' 3 18 false 23 rfl ?_)
 refine U.pk rfl ?_
 refine U.ps 1 T rfl (U.sk' 3 23 false 28 rfl ?_)
 refine U.pk rfl ?_
 refine U.done ?_
 exact St.wa [some 0] (j4 _ g)
 refine U.pq 3 13 false 18 b7 T ?_
 refine U.pk' b7 ?_
 refine U.ps 1 T rfl ?_
 refine g.cs (fun b8 g=>?_) fun b8 g=>?_
 refine U.sk' 3 18 false 23 b8 ?_
 refine U.pk b8 ?_
 refine U.ps 1 T rfl (U.sk' 3 23 false 28 rfl ?_)
 refine U.pk rfl ?_
 refine U.done ?_
 exact St.wa [some 0] (j4 _ g)
 refine U.pq 3 18 false 23 b8 T ?_
 refine U.pk' b8 ?_
 refine U.ps 1 T rfl ?_
 refine g.cs (fun b9 g=>?_) fun b9 g=>?_
 refine U.sk' 3 23 false 28 b9 ?_
 refine U.pk b9 ?_
 refine U.done ?_
 exact St.wa [some 0] (j4 _ g)
 refine U.pq 3 23 false 28 b9 T ?_
 refine U.pk' b9 ?_
 refine U.done ?_
 exact St.wa [some 0] (j4 _ g)
theorem Gr (s_1:ByteArray) (post:Bool→Prop) (g:K4 s_1 post):
  Tr Tryz.prog 87 [.v (.string s_1)] [] 0 (pB post):=by
 refine Tr.go Tryz.func87 Tryz.ntmps87 fun _ _ _ _ o=>?_
 unfold K4 at g
 refine C.ss (U.pd 1 T (C.xs (C.ss ?_)))
 refine U.pd 1 T (C.nx ?_)
 refine C.jn (fun (x5:Unit)=>[(0,.v (.string s_1))]) (fun x5=>[]) 0 g (fun x5 g=>?_) fun J6 g j6=>?_
 refine C.xs ?_
 refine C.jn (fun (x58:Bool)=>[(2,.b x58)]) (fun x58=>[]) 0 g (fun x58 g=>?_) fun J59 g j59=>?_
 refine C.nx (C.ret ?_)
 exact C.f1 T o (pBi g)
 refine U.start (U.ps 4 T rfl ?_)
 refine g.cs (fun b60 g=>?_) fun b60 g=>?_
 refine U.pq 3 3 true 57 b60 T ?_
 refine U.pk b60 ?_
 refine U.pd 1 T ?_
 exact St.wn (j59 _ g)
 refine U.sk' 3 3 true 57 b60 ?_
 refine U.pk' b60 ?_
 refine U.pd 1 T ?_
 exact St.wn (j59 _ g)
 refine C.block (St.wk (C.loop (fun (s7:Int)=>[(0,.v (.string s_1)),(3,.i s7)]) (fun s7=>[]) g (fun s7 Y8 g=>?_)) (Wk.e))
 refine C.seq (C.ss (U.pd 4 T (C.nx ?_)))
 refine C.ite rfl g (fun b11 g=>?_) fun b11 g=>?_
 refine C.skip (C.xs (C.block (C.ss (U.ps 2 T rfl ?_))))
 obtain⟨x14,y14,g⟩:=g
 refine U.r rfl (.none rfl) rfl rfl (by exact Rd.ib T rfl rfl rfl rfl y14) ?_
 refine U.pd 1 T (C.xs ?_)
 refine C.jn (fun (x15:Bool)=>[(0,.v (.string s_1)),(3,.i s7),(4,.v (.int .u8 (x14.toNat:Int))),(5,.b x15)]) (fun x15=>[]) 0 g (fun x15 g=>?_) fun J16 g j16=>?_
 refine C.xs ?_
 refine C.jn (fun (x18:Bool)=>[(0,.v (.string s_1)),(3,.i s7),(53,.b x18)]) (fun x18=>[]) 0 g (fun x18 g=>?_) fun J19 g j19=>?_
 refine C.nx ?_
 refine C.ite rfl g (fun b53 g=>?_) fun b53 g=>?_
 refine C.ss (U.pd 1 T (C.nx (C.ret (C.brt (C.rt (C.rt (C.brt (C.rt ?_))))))))
 exact C.f1 T o (pBi g)
 refine C.skip (C.bnx (C.nx (U.start (U.pd 3 T (C.nx ?_)))))
 exact St.wk (C.next g) (Wk.e)
 refine U.start (U.ps 3 T rfl ?_)
 refine g.cs (fun b20 g=>?_) fun b20 g=>?_
 refine U.pq 2 2 true 23 b20 T ?_
 refine U.pk b20 ?_
 refine U.ps 1 T rfl ?_
 refine g.cs (fun b21 g=>?_) fun b21 g=>?_
 refine U.sk' 3 6 false 27 b21 ?_
 refine U.sku 2 9 true 30 rfl rfl rfl ?_
 refine U.sk' 1 6 false 27 b21 ?_
 refine U.pk b21 ?_
 refine U.ps 1 T rfl (U.sk' 1 14 false 35 rfl ?_)
 refine U.pk rfl ?_
 refine U.ps 1 T rfl (U.sk' 2 17 false 38 rfl ?_)
 refine U.pk rfl ?_
 refine U.ps 1 T rfl (U.sk' 2 21 false 42 rfl ?_)
 refine U.pk rfl ?_
 refine U.ps 2 T rfl (U.pq 3 26 false 47 rfl T ?_)
 refine g.cs (fun b22 g=>?_) fun b22 g=>?_
 refine U.pq 1 29 true 50 b22 T ?_
 refine U.r rfl (.tk 26 false 47 rfl) rfl rfl (by exact Rd.pk rfl rfl b22 rfl) ?_
 refine U.pk' rfl ?_
 refine U.done ?_
 exact St.wn (j19 _ g)
 refine U.sk' 1 29 true 50 b22 ?_
 refine U.r rfl (.tk 26 false 47 rfl) rfl rfl (by exact Rd.pk' rfl rfl b22 rfl) ?_
 refine U.pk' rfl ?_
 refine U.done ?_
 exact St.wn (j19 _ g)
 refine U.pq 3 6 false 27 b21 T ?_
 refine g.cs (fun b23 g=>?_) fun b23 g=>?_
 refine U.pq 2 9 true 30 b23 T ?_
 refine U.r rfl (.tk 6 false 27 b21) rfl rfl (by exact Rd.pk rfl rfl b23 rfl) ?_
 refine U.pk' b21 ?_
 refine U.ps 1 T rfl ?_
 refine g.cs (fun b24 g=>?_) fun b24 g=>?_
 refine U.sk' 1 14 false 35 b24 ?_
 refine U.pk b24 ?_
 refine U.ps 1 T rfl (U.sk' 2 17 false 38 rfl ?_)
 refine U.pk rfl ?_
 refine U.ps 1 T rfl (U.sk' 2 21 false 42 rfl ?_)
 refine U.pk rfl ?_
 refine U.ps 2 T rfl (U.pq 3 26 false 47 rfl T ?_)
 refine g.cs (fun b25 g=>?_) fun b25 g=>?_
 refine U.pq 1 29 true 50 b25 T ?_
 refine U.r rfl (.tk 26 false 47 rfl) rfl rfl (by exact Rd.pk rfl rfl b25 rfl) ?_
 refine U.pk' rfl ?_
 refine U.done ?_
 exact St.wn (j19 _ g)
 refine U.sk' 1 29 true 50 b25 ?_
 refine U.r rfl (.tk 26 false 47 rfl) rfl rfl (by exact Rd.pk' rfl rfl b25 rfl) ?_
 refine U.pk' rfl ?_
 refine U.done ?_
 exact St.wn (j19 _ g)
 refine U.pq 1 14 false 35 b24 T ?_
 refine U.pk' b24 ?_
 refine U.ps 1 T rfl ?_
 refine g.cs (fun b26 g=>?_) fun b26 g=>?_
 refine U.sk' 2 17 false 38 b26 ?_
 refine U.pk b26 ?_
 refine U.ps 1 T rfl (U.sk' 2 21 false 42 rfl ?_)
 refine U.pk rfl ?_
 refine U.ps 2 T rfl (U.pq 3 26 false 47 rfl T ?_)
 refine g.cs (fun b27 g=>?_) fun b27 g=>?_
 refine U.pq 1 29 true 50 b27 T ?_
 refine U.r rfl (.tk 26 false 47 rfl) rfl rfl (by exact Rd.pk rfl rfl b27 rfl) ?_
 refine U.pk' rfl ?_
 refine U.done ?_
 exact St.wn (j19 _ g)
 refine U.sk' 1 29 true 50 b27 ?_
 refine U.r rfl (.tk 26 false 47 rfl) rfl rfl (by exact Rd.pk' rfl rfl b27 rfl) ?_
 refine U.pk' rfl ?_
 refine U.done ?_
 exact St.wn (j19 _ g)
 refine U.pq 2 17 false 38 b26 T ?_
 refine U.pk' b26 ?_
 refine U.ps 1 T rfl ?_
 refine g.cs (fun b28 g=>?_) fun b28 g=>?_
 refine U.sk' 2 21 false 42 b28 ?_
 refine U.pk b28 ?_
 refine U.ps 2 T rfl (U.pq 3 26 false 47 rfl T ?_)
 refine g.cs (fun b29 g=>?_) fun b29 g=>?_
 refine U.pq 1 29 true 50 b29 T ?_
 refine U.r rfl (.tk 26 false 47 rfl) rfl rfl (by exact Rd.pk rfl rfl b29 rfl) ?_
 refine U.pk' rfl ?_
 refine U.done ?_
 exact St.wn (j19 _ g)
 refine U.sk' 1 29 true 50 b29 ?_
 refine U.r rfl (.tk 26 false 47 rfl) rfl rfl (by exact Rd.pk' rfl rfl b29 rfl) ?_
 refine U.pk' rfl ?_
 refine U.done ?_
 exact St.wn (j19 _ g)
 refine U.pq 2 21 false 42 b28 T ?_
 refine U.pk' b28 ?_
 refine U.ps 2 T rfl ?_
 refine g.cs (fun b30 g=>?_) fun b30 g=>?_
 refine U.pq 3 26 false 47 (ntF b30) T ?_
 refine g.cs (fun b31 g=>?_) fun b31 g=>?_
 refine U.pq 1 29 true 50 b31 T ?_
 refine U.r rfl (.tk 26 false 47 (ntF b30)) rfl rfl (by exact Rd.pk rfl rfl b31 rfl) ?_
 refine U.pk' (ntF b30) ?_
 refine U.done ?_
 exact St.wn (j19 _ g)
 refine U.sk' 1 29 true 50 b31 ?_
 refine U.r rfl (.tk 26 false 47 (ntF b30)) rfl rfl (by exact Rd.pk' rfl rfl b31 rfl) ?_
 refine U.pk' (ntF b30) ?_
 refine U.done ?_
 exact St.wn (j19 _ g)
 refine U.sk' 3 26 false 47 (ntT b30) ?_
 refine U.sku 1 29 true 50 rfl rfl rfl ?_
 refine U.sk' 1 26 false 47 (ntT b30) ?_
 refine U.pk (ntT b30) ?_
 refine U.done ?_
 exact St.wn (j19 _ g)
 refine U.sk' 2 9 true 30 b23 ?_
 refine U.r rfl (.tk 6 false 27 b21) rfl rfl (by exact Rd.pk' rfl rfl b23 rfl) ?_
 refine U.pk' b21 ?_
 refine U.ps 1 T rfl (U.pq 1 14 false 35 rfl T ?_)
 refine U.pk' rfl ?_
 refine U.ps 1 T rfl ?_
 refine g.cs (fun b32 g=>?_) fun b32 g=>?_
 refine U.sk' 2 17 false 38 b32 ?_
 refine U.pk b32 ?_
 refine U.ps 1 T rfl (U.sk' 2 21 false 42 rfl ?_)
 refine U.pk rfl ?_
 refine U.ps 2 T rfl (U.pq 3 26 false 47 rfl T ?_)
 refine g.cs (fun b33 g=>?_) fun b33 g=>?_
 refine U.pq 1 29 true 50 b33 T ?_
 refine U.r rfl (.tk 26 false 47 rfl) rfl rfl (by exact Rd.pk rfl rfl b33 rfl) ?_
 refine U.pk' rfl ?_
 refine U.done ?_
 exact St.wn (j19 _ g)
 refine U.sk' 1 29 true 50 b33 ?_
 refine U.r rfl (.tk 26 false 47 rfl) rfl rfl (by exact Rd.pk' rfl rfl b33 rfl) ?_
 refine U.pk' rfl ?_
 refine U.done ?_
 exact St.wn (j19 _ g)
 refine U.pq 2 17 false 38 b32 T ?_
 refine U.pk' b32 ?_
 refine U.ps 1 T rfl ?_
 refine g.cs (fun b34 g=>?_) fun b34 g=>?_
 refine U.sk' 2 21 false 42 b34 ?_
 refine U.pk b34 ?_
 refine U.ps 2 T rfl (U.pq 3 26 false 47 rfl T ?_)
 refine g.cs (fun b35 g=>?_) fun b35 g=>?_
 refine U.pq 1 29 true 50 b35 T ?_
 refine U.r rfl (.tk 26 false 47 rfl) rfl rfl (by exact Rd.pk rfl rfl b35 rfl) ?_
 refine U.pk' rfl ?_
 refine U.done ?_
 exact St.wn (j19 _ g)
 refine U.sk' 1 29 true 50 b35 ?_
 refine U.r rfl (.tk 26 false 47 rfl) rfl rfl (by exact Rd.pk' rfl rfl b35 rfl) ?_
 refine U.pk' rfl ?_
 refine U.done ?_
 exact St.wn (j19 _ g)
 refine U.pq 2 21 false 42 b34 T ?_
 refine U.pk' b34 ?_
 refine U.ps 2 T rfl ?_
 refine g.cs (fun b36 g=>?_) fun b36 g=>?_
 refine U.pq 3 26 false 47 (ntF b36) T ?_
 refine g.cs (fun b37 g=>?_) fun b37 g=>?_
 refine U.pq 1 29 true 50 b37 T ?_
 refine U.r rfl (.tk 26 false 47 (ntF b36)) rfl rfl (by exact Rd.pk rfl rfl b37 rfl) ?_
 refine U.pk' (ntF b36) ?_
 refine U.done ?_
 exact St.wn (j19 _ g)
 refine U.sk' 1 29 true 50 b37 ?_
 refine U.r rfl (.tk 26 false 47 (ntF b36)) rfl rfl (by exact Rd.pk' rfl rfl b37 rfl) ?_
 refine U.pk' (ntF b36) ?_
 refine U.done ?_
 exact St.wn (j19 _ g)
 refine U.sk' 3 26 false 47 (ntT b36) ?_
 refine U.sku 1 29 true 50 rfl rfl rfl ?_
 refine U.sk' 1 26 false 47 (ntT b36) ?_
 refine U.pk (ntT b36) ?_
 refine U.done ?_
 exact St.wn (j19 _ g)
 refine U.sk' 2 2 true 23 b20 ?_
 refine U.pk' b20 ?_
 refine U.ps 1 T rfl (U.pq 3 6 false 27 rfl T ?_)
 refine g.cs (fun b38 g=>?_) fun b38 g=>?_
 refine U.pq 2 9 true 30 b38 T ?_
 refine U.r rfl (.tk 6 false 27 rfl) rfl rfl (by exact Rd.pk rfl rfl b38 rfl) ?_
 refine U.pk' rfl ?_
 refine U.ps 1 T rfl ?_
 refine g.cs (fun b39 g=>?_) fun b39 g=>?_
 refine U.sk' 1 14 false 35 b39 ?_
 refine U.pk b39 ?_
 refine U.ps 1 T rfl (U.sk' 2 17 false 38 rfl ?_)
 refine U.pk rfl ?_
 refine U.ps 1 T rfl (U.sk' 2 21 false 42 rfl ?_)
 refine U.pk rfl ?_
 refine U.ps 2 T rfl (U.pq 3 26 false 47 rfl T ?_)
 refine g.cs (fun b40 g=>?_) fun b40 g=>?_
 refine U.pq 1 29 true 50 b40 T ?_
 refine U.r rfl (.tk 26 false 47 rfl) rfl rfl (by exact Rd.pk rfl rfl b40 rfl) ?_
 refine U.pk' rfl ?_
 refine U.done ?_
 exact St.wn (j19 _ g)
 refine U.sk' 1 29 true 50 b40 ?_
 refine U.r rfl (.tk 26 false 47 rfl) rfl rfl (by exact Rd.pk' rfl rfl b40 rfl) ?_
 refine U.pk' rfl ?_
 refine U.done ?_
 exact St.wn (j19 _ g)
 refine U.pq 1 14 false 35 b39 T ?_
 refine U.pk' b39 ?_
 refine U.ps 1 T rfl ?_
 refine g.cs (fun b41 g=>?_) fun b41 g=>?_
 refine U.sk' 2 17 false 38 b41 ?_
 refine U.pk b41 ?_
 refine U.ps 1 T rfl (U.sk' 2 21 false 42 rfl ?_)
 refine U.pk rfl ?_
 refine U.ps 2 T rfl (U.pq 3 26 false 47 rfl T ?_)
 refine g.cs (fun b42 g=>?_) fun b42 g=>?_
 refine U.pq 1 29 true 50 b42 T ?_
 refine U.r rfl (.tk 26 false 47 rfl) rfl rfl (by exact Rd.pk rfl rfl b42 rfl) ?_
 refine U.pk' rfl ?_
 refine U.done ?_
 exact St.wn (j19 _ g)
 refine U.sk' 1 29 true 50 b42 ?_
 refine U.r rfl (.tk 26 false 47 rfl) rfl rfl (by exact Rd.pk' rfl rfl b42 rfl) ?_
 refine U.pk' rfl ?_
 refine U.done ?_
 exact St.wn (j19 _ g)
 refine U.pq 2 17 false 38 b41 T ?_
 refine U.pk' b41 ?_
 refine U.ps 1 T rfl ?_
 refine g.cs (fun b43 g=>?_) fun b43 g=>?_
 refine U.sk' 2 21 false 42 b43 ?_
 refine U.pk b43 ?_
 refine U.ps 2 T rfl (U.pq 3 26 false 47 rfl T ?_)
 refine g.cs (fun b44 g=>?_) fun b44 g=>?_
 refine U.pq 1 29 true 50 b44 T ?_
 refine U.r rfl (.tk 26 false 47 rfl) rfl rfl (by exact Rd.pk rfl rfl b44 rfl) ?_
 refine U.pk' rfl ?_
 refine U.done ?_
 exact St.wn (j19 _ g)
 refine U.sk' 1 29 true 50 b44 ?_
 refine U.r rfl (.tk 26 false 47 rfl) rfl rfl (by exact Rd.pk' rfl rfl b44 rfl) ?_
 refine U.pk' rfl ?_
 refine U.done ?_
 exact St.wn (j19 _ g)
 refine U.pq 2 21 false 42 b43 T ?_
 refine U.pk' b43 ?_
 refine U.ps 2 T rfl ?_
 refine g.cs (fun b45 g=>?_) fun b45 g=>?_
 refine U.pq 3 26 false 47 (ntF b45) T ?_
 refine g.cs (fun b46 g=>?_) fun b46 g=>?_
 refine U.pq 1 29 true 50 b46 T ?_
 refine U.r rfl (.tk 26 false 47 (ntF b45)) rfl rfl (by exact Rd.pk rfl rfl b46 rfl) ?_
 refine U.pk' (ntF b45) ?_
 refine U.done ?_
 exact St.wn (j19 _ g)
 refine U.sk' 1 29 true 50 b46 ?_
 refine U.r rfl (.tk 26 false 47 (ntF b45)) rfl rfl (by exact Rd.pk' rfl rfl b46 rfl) ?_
 refine U.pk' (ntF b45) ?_
 refine U.done ?_
 exact St.wn (j19 _ g)
 refine U.sk' 3 26 false 47 (ntT b45) ?_
 refine U.sku 1 29 true 50 rfl rfl rfl ?_
 refine U.sk' 1 26 false 47 (ntT b45) ?_
 refine U.pk (ntT b45) ?_
 refine U.done ?_
 exact St.wn (j19 _ g)
 refine U.sk' 2 9 true 30 b38 ?_
 refine U.r rfl (.tk 6 false 27 rfl) rfl rfl (by exact Rd.pk' rfl rfl b38 rfl) ?_
 refine U.pk' rfl ?_
 refine U.ps 1 T rfl (U.pq 1 14 false 35 rfl T ?_)
 refine U.pk' rfl ?_
 refine U.ps 1 T rfl ?_
 refine g.cs (fun b47 g=>?_) fun b47 g=>?_
 refine U.sk' 2 17 false 38 b47 ?_
 refine U.pk b47 ?_
 refine U.ps 1 T rfl (U.sk' 2 21 false 42 rfl ?_)
 refine U.pk rfl ?_
 refine U.ps 2 T rfl (U.pq 3 26 false 47 rfl T ?_)
 refine g.cs (fun b48 g=>?_) fun b48 g=>?_
 refine U.pq 1 29 true 50 b48 T ?_
 refine U.r rfl (.tk 26 false 47 rfl) rfl rfl (by exact Rd.pk rfl rfl b48 rfl) ?_
 refine U.pk' rfl ?_
 refine U.done ?_
 exact St.wn (j19 _ g)
 refine U.sk' 1 29 true 50 b48 ?_
 refine U.r rfl (.tk 26 false 47 rfl) rfl rfl (by exact Rd.pk' rfl rfl b48 rfl) ?_
 refine U.pk' rfl ?_
 refine U.done ?_
 exact St.wn (j19 _ g)
 refine U.pq 2 17 false 38 b47 T ?_
 refine U.pk' b47 ?_
 refine U.ps 1 T rfl ?_
 refine g.cs (fun b49 g=>?_) fun b49 g=>?_
 refine U.sk' 2 21 false 42 b49 ?_
 refine U.pk b49 ?_
 refine U.ps 2 T rfl (U.pq 3 26 false 47 rfl T ?_)
 refine g.cs (fun b50 g=>?_) fun b50 g=>?_
 refine U.pq 1 29 true 50 b50 T ?_
 refine U.r rfl (.tk 26 false 47 rfl) rfl rfl (by exact Rd.pk rfl rfl b50 rfl) ?_
 refine U.pk' rfl ?_
 refine U.done ?_
 exact St.wn (j19 _ g)
 refine U.sk' 1 29 true 50 b50 ?_
 refine U.r rfl (.tk 26 false 47 rfl) rfl rfl (by exact Rd.pk' rfl rfl b50 rfl) ?_
 refine U.pk' rfl ?_
 refine U.done ?_
 exact St.wn (j19 _ g)
 refine U.pq 2 21 false 42 b49 T ?_
 refine U.pk' b49 ?_
 refine U.ps 2 T rfl ?_
 refine g.cs (fun b51 g=>?_) fun b51 g=>?_
 refine U.pq 3 26 false 47 (ntF b51) T ?_
 refine g.cs (fun b52 g=>?_) fun b52 g=>?_
 refine U.pq 1 29 true 50 b52 T ?_
 refine U.r rfl (.tk 26 false 47 (ntF b51)) rfl rfl (by exact Rd.pk rfl rfl b52 rfl) ?_
 refine U.pk' (ntF b51) ?_
 refine U.done ?_
 exact St.wn (j19 _ g)
 refine U.sk' 1 29 true 50 b52 ?_
 refine U.r rfl (.tk 26 false 47 (ntF b51)) rfl rfl (by exact Rd.pk' rfl rfl b52 rfl) ?_
 refine U.pk' (ntF b51) ?_
 refine U.done ?_
 exact St.wn (j19 _ g)
 refine U.sk' 3 26 false 47 (ntT b51) ?_
 refine U.sku 1 29 true 50 rfl rfl rfl ?_
 refine U.sk' 1 26 false 47 (ntT b51) ?_
 refine U.pk (ntT b51) ?_
 refine U.done ?_
 exact St.wn (j19 _ g)
 refine U.start (U.ps 3 T rfl ?_)
 refine g.cs (fun b17 g=>?_) fun b17 g=>?_
 refine U.pq 2 2 true 17 b17 T ?_
 refine U.pk b17 ?_
 refine U.pd 1 T ?_
 exact St.wn (j16 _ g)
 refine U.sk' 2 2 true 17 b17 ?_
 refine U.pk' b17 ?_
 refine U.pd 1 T ?_
 exact St.wn (j16 _ g)
 refine C.exit (C.ex (C.ex (C.bex ?_)))
 exact St.wn (j6 _ g)
theorem Q0N (l:List ApiZone) (name:ByteArray) (post:Int→Prop) (g:Xl l name post):
  Tr Tryz.prog 153 [.sl 5 Q9 l,.v (.string name)] [] 0 (pI post):=by
 refine Tr.go Tryz.func153 Tryz.ntmps153 fun _ _ _ _ o=>?_
 unfold Xl at g
 refine C.ss (U.pd 1 T (C.xs (C.ss ?_)))
 refine U.pd 1 T (C.nx ?_)
 refine C.jn (fun (x5:Unit)=>[]) (fun x5=>[]) 0 g (fun x5 g=>?_) fun J6 g j6=>?_
 refine C.xt (U.pd 1 T (C.nx (C.ret ?_)))
 exact C.f1 T o (pIi g)
 refine C.block (St.wk (C.loop (fun (s7:Int)=>[(0,.sl 5 Q9 l),(1,.v (.string name)),(5,.i s7)]) (fun s7=>[]) g (fun s7 Y8 g=>?_)) (Wk.e))
 refine C.seq (C.ss (U.pd 4 T (C.nx ?_)))
 refine C.ite rfl g (fun b11 g=>?_) fun b11 g=>?_
 refine C.skip (C.xs (C.block (C.ss (U.ps 2 T rfl ?_))))
 obtain⟨x14,y14,g⟩:=g
 refine U.ix T y14 ?_
 refine U.pd 4 T (C.nx ?_)
 refine C.ite rfl g (fun b15 g=>?_) fun b15 g=>?_
 refine C.ss (U.pd 2 T (C.nx (C.ret (C.brt (C.rt (C.rt (C.brt (C.rt ?_))))))))
 exact C.f1 T o (pIi g)
 refine C.skip (C.bnx (C.nx (U.start (U.pd 3 T (C.nx ?_)))))
 exact St.wk (C.next g) (Wk.e)
 refine C.exit (C.ex (C.ex (C.bex ?_)))
 exact St.wk (j6 _ g) (Wk.mk' [] rfl rfl trivial trivial rfl)
theorem Q0r (l:List G6) (post:Bool→Prop) (g:Xo l post):
  Tr Tryz.prog 154 [.sl 2 G3 l] [] 0 (pB post):=by
 refine Tr.go Tryz.func154 Tryz.ntmps154 fun _ _ _ _ o=>?_
 unfold Xo at g
 refine C.ss (U.pd 1 T (C.xt ?_))
 refine U.pd 1 T (C.xs (C.ss ?_))
 refine U.pd 1 T (C.nx ?_)
 refine C.jn (fun (x7:Unit)=>[]) (fun x7=>[]) 0 g (fun x7 g=>?_) fun J8 g j8=>?_
 refine C.xt (U.pd 1 T (C.nx (C.ret ?_)))
 exact C.f1 T o (pBi g)
 refine C.block (St.wk (C.loop (fun (s9:Int×Int)=>[(0,.sl 2 G3 l),(3,.i s9.1),(4,.i s9.2)]) (fun s9=>[]) g (fun s9 Y10 g=>?_)) (Wk.e))
 refine C.seq (C.ss (U.pd 4 T (C.nx ?_)))
 refine C.ite rfl g (fun b13 g=>?_) fun b13 g=>?_
 refine C.skip (C.xs (C.block (C.seq (C.seq ?_))))
 refine C.jn (fun (x14:Bool)=>[(0,.sl 2 G3 l),(4,.i s9.2),(38,.b x14)]) (fun x14=>[]) 0 g (fun x14 g=>?_) fun J15 g j15=>?_
 refine C.nx ?_
 refine C.ite rfl g (fun b19 g=>?_) fun b19 g=>?_
 refine C.ss (U.pd 1 T (C.nx (C.ret (C.rt (C.brt (C.rt (C.rt (C.brt (C.rt ?_)))))))))
 exact C.f1 T o (pBi g)
 refine C.skip (C.nx (U.start (U.ps 2 T rfl ?_)))
 obtain⟨x24,y24,g⟩:=g
 refine U.ix T y24 ?_
 refine U.pd 3 T (C.bnx (C.nx (U.start ?_)))
 refine U.pd 3 T (C.nx ?_)
 exact St.wk (C.next g) (Wk.e)
 refine D.bq mix 9999 [] [] (fun hQ hS ws M'=>?_)
 refine D.pq 2 (zl [0,1]) T ?_
 obtain⟨x16,y16,g⟩:=g
 refine D.ix 2 [] T y16 ?_
 refine D.pq 5 (zl [3,4,5,6,7]) T ?_
 refine g.cs (fun b17 g=>?_) fun b17 g=>?_
 refine D.sz 8 [] 7 false 18 b17 ?_
 refine D.sz 9 [] 7 false 18 b17 ?_
 refine D.sz 10 [] 7 false 18 b17 ?_
 refine D.sz 11 [] 7 false 18 b17 ?_
 refine D.sz 12 [] 7 false 18 b17 ?_
 refine D.sz 13 [] 7 false 18 b17 ?_
 refine D.sz 14 [] 7 false 18 b17 ?_
 refine D.sz 15 [] 7 false 18 b17 ?_
 refine D.sz 16 [] 7 false 18 b17 ?_
 refine D.sz 17 [] 7 false 18 b17 ?_
 refine D.sz 18 [] 7 false 18 b17 ?_
 refine D.kt 19 [] b17 ?_
 refine D.pq 1 [(20,[])] T ?_
 refine D.sz 21 [] 20 false 31 rfl ?_
 refine D.sz 22 [] 20 false 31 rfl ?_
 refine D.sz 23 [] 20 false 31 rfl ?_
 refine D.sz 24 [] 20 false 31 rfl ?_
 refine D.sz 25 [] 20 false 31 rfl ?_
 refine D.sz 26 [] 20 false 31 rfl ?_
 refine D.kt 27 [] rfl ?_
 refine D.done (by kernel_rfl) ?_
 exact St.wn (j15 _ g)
 refine D.pt 8 [] 7 false 18 b17 T ?_
 refine D.pt 9 [] 7 false 18 b17 T ?_
 refine D.q 10 [] hQ hS rfl (.tk 7 false 18 b17) rfl rfl (by exact Rd.ix T rfl rfl rfl rfl rfl rfl y16) rfl (by kernel_rfl) ?_
 refine D.pt 11 [] 7 false 18 b17 T ?_
 refine D.q 12 [] hQ hS rfl (.tk 7 false 18 b17) rfl rfl (by exact Rd.l T rfl rfl rfl) rfl (by kernel_rfl) ?_
 refine D.pt 13 [] 7 false 18 b17 T ?_
 refine D.pt 14 [] 7 false 18 b17 T ?_
 refine D.q 15 [] hQ hS rfl (.tk 7 false 18 b17) rfl rfl (by exact Rd.ix T rfl rfl rfl rfl rfl rfl y16) rfl (by kernel_rfl) ?_
 refine D.pt 16 [] 7 false 18 b17 T ?_
 refine D.q 17 [] hQ hS rfl (.tk 7 false 18 b17) rfl rfl (by exact Rd.l T rfl rfl rfl) rfl (by kernel_rfl) ?_
 refine D.pt 18 [] 7 false 18 b17 T ?_
 refine D.kf 19 [] b17 ?_
 refine D.pq 1 [(20,[])] T ?_
 refine g.cs (fun b18 g=>?_) fun b18 g=>?_
 refine D.sz 21 [] 20 false 31 b18 ?_
 refine D.sz 22 [] 20 false 31 b18 ?_
 refine D.sz 23 [] 20 false 31 b18 ?_
 refine D.sz 24 [] 20 false 31 b18 ?_
 refine D.sz 25 [] 20 false 31 b18 ?_
 refine D.sz 26 [] 20 false 31 b18 ?_
 refine D.kt 27 [] b18 ?_
 refine D.done (by kernel_rfl) ?_
 exact St.wn (j15 _ g)
 refine D.pt 21 [] 20 false 31 b18 T ?_
 refine D.pt 22 [] 20 false 31 b18 T ?_
 refine D.q 23 [] hQ hS rfl (.tk 20 false 31 b18) rfl rfl (by exact Rd.ix T rfl rfl rfl rfl rfl rfl y16) rfl (by kernel_rfl) ?_
 refine D.pt 24 [] 20 false 31 b18 T ?_
 refine D.q 25 [] hQ hS rfl (.tk 20 false 31 b18) rfl rfl (by exact Rd.l T rfl rfl rfl) rfl (by kernel_rfl) ?_
 refine D.pt 26 [] 20 false 31 b18 T ?_
 refine D.kf 27 [] b18 ?_
 refine D.done (by kernel_rfl) ?_
 exact St.wn (j15 _ g)
 refine C.exit (C.ex (C.ex (C.bex ?_)))
 exact St.wk (j8 _ g) (Wk.mk' [] rfl rfl trivial trivial rfl)
theorem Q11 (f:Q6) (post:Int→Prop) (g:Xx f post):
  Tr Tryz.prog 157 [.agg (Qd f)] [] 0 (pI post):=by
 refine Tr.go Tryz.func157 Tryz.ntmps157 fun _ _ _ _ o=>?_
 unfold Xx at g
 refine C.ss (U.bx ?_)
 refine U.pd 1 T (C.xt ?_)
 refine U.pd 9 T (C.nx (C.ret ?_))
 exact C.f1 T o (pIi g)
theorem K1 (f:Q6) (c:Int) (post:Bool→Prop) (g:QF f c post):
  Tr Tryz.prog 89 [.agg (Qd f),.i c] [] 0 (pB post):=by
 refine Tr.go Tryz.func89 Tryz.ntmps89 fun _ _ _ _ o=>?_
 unfold QF at g
 refine C.ss (U.bx ?_)
 refine U.pd 1 T (C.xs ?_)
 refine C.jn (fun (x3:Bool)=>[(4,.b x3)]) (fun x3=>[]) 0 g (fun x3 g=>?_) fun J4 g j4=>?_
 refine C.nx (C.ret ?_)
 exact C.f1 T o (pBi g)
 refine U.start (U.ps 3 T rfl ?_)
 refine g.cs (fun b5 g=>?_) fun b5 g=>?_
 refine U.pq 2 2 true 7 b5 T ?_
 refine U.k (Q11 f _ g) Qbh (fun x6 g=>?_) (hw:=.take 2 true 7 _ b5 rfl rfl rfl)
 refine U.pq 1 2 true 7 b5 T ?_
 refine U.pk b5 ?_
 refine U.pd 1 T ?_
 exact St.wn (j4 _ g)
 refine U.sk' 4 2 true 7 b5 ?_
 refine U.pk' b5 ?_
 refine U.pd 1 T ?_
 exact St.wn (j4 _ g)
theorem Q0K (kind:Int) (post:Bool→Prop) (g:Xj kind post):
  Tr Tryz.prog 155 [.i kind] [] 0 (pB post):=by
 refine Tr.go Tryz.func155 Tryz.ntmps155 fun _ _ _ _ o=>?_
 unfold Xj at g
 refine C.ss (U.pd 1 T (C.xs ?_))
 refine C.jn (fun (x3:Bool)=>[(2,.b x3)]) (fun x3=>[]) 0 g (fun x3 g=>?_) fun J4 g j4=>?_
 refine C.nx (C.ret ?_)
 exact C.f1 T o (pBi g)
 refine U.start (U.ps 3 T rfl ?_)
 refine g.cs (fun b5 g=>?_) fun b5 g=>?_
 refine U.pq 2 2 true 5 b5 T ?_
 refine U.pk b5 ?_
 refine U.ps 1 T rfl ?_
 refine g.cs (fun b6 g=>?_) fun b6 g=>?_
 refine U.pq 2 6 true 9 b6 T ?_
 refine U.pk b6 ?_
 refine U.pd 1 T ?_
 exact St.wn (j4 _ g)
 refine U.sk' 2 6 true 9 b6 ?_
 refine U.pk' b6 ?_
 refine U.pd 1 T ?_
 exact St.wn (j4 _ g)
 refine U.sk' 2 2 true 5 b5 ?_
 refine U.pk' b5 ?_
 refine U.ps 1 T rfl (U.sk' 2 6 true 9 rfl ?_)
 refine U.pk' rfl ?_
 refine U.pd 1 T ?_
 exact St.wn (j4 _ g)
theorem Kc (l:List Int) (n:Int) (post:Bool→Prop) (g:QE l n post):
  Tr Tryz.prog 48 [.sl 1 eI l,.i n] [] 0 (pB post):=by
 refine Tr.go Tryz.func48 Tryz.ntmps48 fun _ _ _ _ o=>?_
 unfold QE at g
 refine C.ss (U.pd 1 T (C.xs (C.ss ?_)))
 refine U.pd 1 T (C.nx ?_)
 refine C.jn (fun (x5:Unit)=>[]) (fun x5=>[]) 0 g (fun x5 g=>?_) fun J6 g j6=>?_
 refine C.xt (U.pd 1 T (C.nx (C.ret ?_)))
 exact C.f1 T o (pBi g)
 refine C.block (St.wk (C.loop (fun (s7:Int)=>[(0,.sl 1 eI l),(1,.i n),(5,.i s7)]) (fun s7=>[]) g (fun s7 Y8 g=>?_)) (Wk.e))
 refine C.seq (C.ss (U.pd 4 T (C.nx ?_)))
 refine C.ite rfl g (fun b11 g=>?_) fun b11 g=>?_
 refine C.skip (C.xs (C.block (C.ss (U.ps 2 T rfl ?_))))
 obtain⟨x14,y14,g⟩:=g
 refine U.ix T y14 ?_
 refine U.pd 3 T (C.nx ?_)
 refine C.ite rfl g (fun b15 g=>?_) fun b15 g=>?_
 refine C.ss (U.pd 1 T (C.nx (C.ret (C.brt (C.rt (C.rt (C.brt (C.rt ?_))))))))
 exact C.f1 T o (pBi g)
 refine C.skip (C.bnx (C.nx (U.start (U.pd 3 T (C.nx ?_)))))
 exact St.wk (C.next g) (Wk.e)
 refine C.exit (C.ex (C.ex (C.bex ?_)))
 exact St.wk (j6 _ g) (Wk.mk' [] rfl rfl trivial trivial rfl)
theorem Q09 (l:List ApiZone) (c:Int) (post:Bool→Prop) (g:X3 l c post):
  Tr Tryz.prog 156 [.sl 5 Q9 l,.i c] [] 0 (pB post):=by
 refine Tr.go Tryz.func156 Tryz.ntmps156 fun _ _ _ _ o=>?_
 unfold X3 at g
 refine C.ss (U.pd 1 T (C.xs (C.ss ?_)))
 refine U.pd 1 T (C.nx ?_)
 refine C.jn (fun (x5:Unit)=>[]) (fun x5=>[]) 0 g (fun x5 g=>?_) fun J6 g j6=>?_
 refine C.xt (U.pd 1 T (C.nx (C.ret ?_)))
 exact C.f1 T o (pBi g)
 refine C.block (St.wk (C.loop (fun (s7:Int)=>[(0,.sl 5 Q9 l),(1,.i c),(5,.i s7)]) (fun s7=>[]) g (fun s7 Y8 g=>?_)) (Wk.e))
 refine C.seq (C.ss (U.pd 4 T (C.nx ?_)))
 refine C.ite rfl g (fun b11 g=>?_) fun b11 g=>?_
 refine C.skip (C.xs (C.block (C.ss (U.ps 2 T rfl ?_))))
 obtain⟨x14,y14,g⟩:=g
 refine U.ix T y14 ?_
 refine U.ps 3 T rfl (U.k (Kc x14.Cells c _ g) en48 (fun x15 g=>?_))
 refine U.done (C.nx ?_)
 refine C.ite rfl g (fun b16 g=>?_) fun b16 g=>?_
 refine C.ss (U.pd 1 T (C.nx (C.ret (C.brt (C.rt (C.rt (C.brt (C.rt ?_))))))))
 exact C.f1 T o (pBi g)
 refine C.skip (C.bnx (C.nx (U.start (U.pd 3 T (C.nx ?_)))))
 exact St.wk (C.next g) (Wk.e)
 refine C.exit (C.ex (C.ex (C.bex ?_)))
 exact St.wk (j6 _ g) (Wk.mk' [] rfl rfl trivial trivial rfl)
theorem Z2 (s_1:ApiSite) (post:Bool→Prop) (g:Ka s_1 post):
  Tr Tryz.prog 86 [.agg (Q2 s_1)] [] 0 (pB post):=by
 refine Tr.go Tryz.func86 Tryz.ntmps86 fun _ _ _ _ o=>?_
 unfold Ka at g
 refine C.ss (U.bx ?_)
 refine U.pd 1 T (C.xs (C.ss ?_))
 refine U.pd 1 T (C.nx ?_)
 refine C.jn (fun (x5:Unit)=>[(1,.p 0 0)]) (fun x5=>[(0,.box (Q2 s_1))]) 1 g (fun x5 g=>?_) fun J6 g j6=>?_
 refine C.xt (U.pd 5 T (C.nx (C.ret ?_)))
 exact C.f1 T o (pBi g)
 refine C.block (St.wk (C.loop (fun (s7:Int)=>[(1,.p 0 0),(3,.i s7)]) (fun s7=>[(0,.box (Q2 s_1))]) g (fun s7 Y8 g=>?_)) (Wk.a [some 0]))
 refine C.seq (C.ss (U.pd 5 T (C.nx ?_)))
 refine C.ite rfl g (fun b11 g=>?_) fun b11 g=>?_
 refine C.skip (C.xs ?_)
 refine C.jn (fun (x12:Unit)=>[(1,.p 0 0),(3,.i s7)]) (fun x12=>[(0,.box (Q2 s_1))]) 1 g (fun x12 g=>?_) fun J13 g j13=>?_
 refine C.nx (U.start (U.pd 3 T (C.nx ?_)))
 exact St.wk (C.next g) (Wk.a [some 0])
 refine C.block (C.ss (U.ps 3 T rfl ?_))
 obtain⟨x16,y16,g⟩:=g
 refine U.ix T y16 ?_
 refine U.ps 1 T rfl (U.al T ?_)
 refine U.st T ?_
 refine U.done (C.xs (C.seq ?_))
 refine C.jn (fun (x17:Bool)=>[(1,.p 0 0),(3,.i s7),(4,.p 1 0),(59,.b x17)]) (fun x17=>[(0,.box (Q2 s_1)),(1,.box (Q9 x16))]) 2 g (fun x17 g=>?_) fun J18 g j18=>?_
 refine C.nx ?_
 refine C.ite rfl g (fun b29 g=>?_) fun b29 g=>?_
 refine C.ss (U.pd 1 T (C.nx (C.ret (C.rt (C.brt (C.rt (C.rt (C.brt (C.rt ?_)))))))))
 exact C.f1 T o (pBi g)
 refine C.skip (C.xt (U.pd 1 T (C.nx ?_)))
 refine C.jn (fun (x34:Unit)=>[(1,.p 0 0),(3,.i s7)]) (fun x34=>[(0,.box (Q2 s_1))]) 1 g (fun x34 g=>?_) fun J35 g j35=>?_
 refine C.bnx ?_
 exact St.wa [some 0] (j13 _ g)
 refine C.block (St.wk (C.loop (fun (s36:Int)=>[(1,.p 0 0),(3,.i s7),(4,.p 1 0),(5,.i s36)]) (fun s36=>[(0,.box (Q2 s_1)),(1,.box (Q9 x16))]) g (fun s36 Y37 g=>?_)) (Wk.a (idR 2)))
 refine C.seq (C.ss (U.pd 5 T (C.nx ?_)))
 refine C.ite rfl g (fun b40 g=>?_) fun b40 g=>?_
 refine C.skip (C.xs (C.block (C.ss (U.ps 3 T rfl ?_))))
 obtain⟨x43,y43,g⟩:=g
 refine U.ix T y43 ?_
 refine U.pd 2 T (C.xs (C.seq ?_))
 refine C.jn (fun (x44:Bool)=>[(1,.p 0 0),(3,.i s7),(4,.p 1 0),(5,.i s36),(6,.i x43),(91,.b x44)]) (fun x44=>[(0,.box (Q2 s_1)),(1,.box (Q9 x16))]) 2 g (fun x44 g=>?_) fun J45 g j45=>?_
 refine C.nx ?_
 refine C.ite rfl g (fun b50 g=>?_) fun b50 g=>?_
 refine C.ss (U.pd 1 T (C.nx (C.ret (C.rt (C.brt (C.rt (C.rt (C.brt (C.brt (C.rt (C.rt (C.brt (C.rt ?_)))))))))))))
 exact C.f1 T o (pBi g)
 refine C.skip (C.xs ?_)
 refine C.jn (fun (x53:Bool)=>[(1,.p 0 0),(3,.i s7),(4,.p 1 0),(5,.i s36),(107,.b x53)]) (fun x53=>[(0,.box (Q2 s_1)),(1,.box (Q9 x16))]) 2 g (fun x53 g=>?_) fun J54 g j54=>?_
 refine C.nx ?_
 refine C.ite rfl g (fun b60 g=>?_) fun b60 g=>?_
 refine C.ss (U.pd 1 T (C.nx (C.ret (C.brt (C.rt (C.rt (C.brt (C.brt (C.rt (C.rt (C.brt (C.rt ?_))))))))))))
 exact C.f1 T o (pBi g)
 refine C.skip (C.bnx (C.nx (U.start (U.pd 3 T (C.nx ?_)))))
 exact St.wk (C.next g) (Wk.a (idR 2))
 refine U.start (U.ps 4 T rfl ?_)
 obtain⟨x55,y55,g⟩:=g
 refine U.ix T y55 ?_
 refine U.ps 1 T rfl (U.k (Q0K x55 _ g) QbN (fun x56 g=>?_))
 refine U.ps 2 T rfl ?_
 refine g.cs (fun b57 g=>?_) fun b57 g=>?_
 refine U.pq 3 8 false 100 (ntF b57) T ?_
 obtain⟨y58,g⟩:=g
 refine U.r rfl (.tk 8 false 100 (ntF b57)) rfl rfl (by exact Rd.so T rfl rfl rfl rfl rfl (.none _) (.some _ rfl) y58) ?_
 refine U.pq 1 8 false 100 (ntF b57) T ?_
 refine U.k (Q09 (sub s_1.Zones 0 s7) x43 _ g) QaY (fun x59 g=>?_) (hw:=.take 8 false 100 _ (ntF b57) rfl rfl rfl)
 refine U.pk' (ntF b57) ?_
 refine U.done ?_
 exact St.wa (idR 2) (j54 _ g)
 refine U.sk' 6 8 false 100 (ntT b57) ?_
 refine U.pk (ntT b57) ?_
 refine U.done ?_
 exact St.wa (idR 2) (j54 _ g)
 refine U.start (U.ps 3 T rfl (U.k (K1 s_1.Floor x43 _ g) en89 (fun x46 g=>?_)))
 refine U.ps 2 T rfl ?_
 refine g.cs (fun b47 g=>?_) fun b47 g=>?_
 refine U.pq 3 5 false 77 (ntF b47) T ?_
 refine g.cs (fun b48 g=>?_) fun b48 g=>?_
 refine U.pq 5 8 true 80 b48 T ?_
 obtain⟨x49,y49,g⟩:=g
 refine U.r rfl (.tk 8 true 80 b48) rfl rfl (by exact Rd.ix T rfl rfl rfl rfl rfl rfl y49) ?_
 refine U.pq 3 8 true 80 b48 T ?_
 refine U.r rfl (.tk 5 false 77 (ntF b47)) rfl rfl (by exact Rd.pk rfl rfl b48 rfl) ?_
 refine U.pk' (ntF b47) ?_
 refine U.done ?_
 exact St.wa (idR 2) (j45 _ g)
 refine U.sk' 9 8 true 80 b48 ?_
 refine U.r rfl (.tk 5 false 77 (ntF b47)) rfl rfl (by exact Rd.pk' rfl rfl b48 rfl) ?_
 refine U.pk' (ntF b47) ?_
 refine U.done ?_
 exact St.wa (idR 2) (j45 _ g)
 refine U.sk' 3 5 false 77 (ntT b47) ?_
 refine U.sku 9 8 true 80 rfl rfl rfl ?_
 refine U.sk' 1 5 false 77 (ntT b47) ?_
 refine U.pk (ntT b47) ?_
 refine U.done ?_
 exact St.wa (idR 2) (j45 _ g)
 refine C.exit (C.ex (C.ex (C.bex ?_)))
 exact St.wa [some 0] (j35 _ g)
 refine D.bq mix 9999 [0,1] [] (fun hQ hS ws M'=>?_)
 refine D.pq 2 (zl [0,1]) T ?_
 refine D.k 2 (Gr x16.Name _ g) en87 fun x19 g=>?_
 refine D.pq 2 (zl [3,4]) T ?_
 refine g.cs (fun b20 g=>?_) fun b20 g=>?_
 refine D.pt 5 [] 4 false 23 (ntF b20) T ?_
 refine D.q 6 [] hQ hS rfl (.tk 4 false 23 (ntF b20)) rfl rfl (by exact Rd.l T rfl rfl rfl) rfl (by kernel_rfl) ?_
 refine D.pt 7 [] 4 false 23 (ntF b20) T ?_
 obtain⟨y21,g⟩:=g
 refine D.q 8 [] hQ hS rfl (.tk 4 false 23 (ntF b20)) rfl rfl (by exact Rd.so T rfl rfl rfl rfl rfl (.none _) (.some _ rfl) y21) rfl (by kernel_rfl) ?_
 refine D.pt 9 [] 4 false 23 (ntF b20) T ?_
 refine D.q 10 [] hQ hS rfl (.tk 4 false 23 (ntF b20)) rfl rfl (by exact Rd.l T rfl rfl rfl) rfl (by kernel_rfl) ?_
 refine D.k 11 (Q0N (sub s_1.Zones 0 s7) x16.Name _ g) QaH (fun x22 g=>?_) (hw:=.take 4 false 23 _ (ntF b20) rfl rfl rfl)
 refine D.pt 12 [] 4 false 23 (ntF b20) T ?_
 refine D.kf 13 [] (ntF b20) ?_
 refine D.pq 1 [(14,[])] T ?_
 refine g.cs (fun b23 g=>?_) fun b23 g=>?_
 refine D.sz 15 [] 14 false 33 b23 ?_
 refine D.sz 16 [] 14 false 33 b23 ?_
 refine D.sz 17 [] 14 false 33 b23 ?_
 refine D.sz 18 [] 14 false 33 b23 ?_
 refine D.kt 19 [] b23 ?_
 refine D.pq 1 [(20,[])] T ?_
 refine D.sz 21 [] 20 false 39 rfl ?_
 refine D.sz 22 [] 20 false 39 rfl ?_
 refine D.sz 23 [] 20 false 39 rfl ?_
 refine D.kt 24 [] rfl ?_
 refine D.pq 1 [(25,[])] T ?_
 refine D.sz 26 [] 25 false 44 rfl ?_
 refine D.sz 27 [] 25 false 44 rfl ?_
 refine D.sz 28 [] 25 false 44 rfl ?_
 refine D.kt 29 [] rfl ?_
 refine D.pq 1 [(30,[])] T ?_
 refine D.sz 31 [] 30 false 49 rfl ?_
 refine D.sz 32 [] 30 false 49 rfl ?_
 refine D.sz 33 [] 30 false 49 rfl ?_
 refine D.kt 34 [] rfl ?_
 refine D.pq 1 [(35,[])] T ?_
 refine D.sz 36 [] 35 false 54 rfl ?_
 refine D.sz 37 [] 35 false 54 rfl ?_
 refine D.sz 38 [] 35 false 54 rfl ?_
 refine D.sz 39 [] 35 false 54 rfl ?_
 refine D.kt 40 [] rfl ?_
 refine D.done (by kernel_rfl) ?_
 exact St.wa (idR 2) (j18 _ g)
 refine D.pt 15 [] 14 false 33 b23 T ?_
 refine D.q 16 [] hQ hS rfl (.tk 14 false 33 b23) rfl rfl (by exact Rd.l T rfl rfl rfl) rfl (by kernel_rfl) ?_
 refine D.pt 17 [] 14 false 33 b23 T ?_
 refine D.pt 18 [] 14 false 33 b23 T ?_
 refine D.kf 19 [] b23 ?_
 refine D.pq 1 [(20,[])] T ?_
 refine g.cs (fun b24 g=>?_) fun b24 g=>?_
 refine D.sz 21 [] 20 false 39 b24 ?_
 refine D.sz 22 [] 20 false 39 b24 ?_
 refine D.sz 23 [] 20 false 39 b24 ?_
 refine D.kt 24 [] b24 ?_
 refine D.pq 1 [(25,[])] T ?_
 refine D.sz 26 [] 25 false 44 rfl ?_
 refine D.sz 27 [] 25 false 44 rfl ?_
 refine D.sz 28 [] 25 false 44 rfl ?_
 refine D.kt 29 [] rfl ?_
 refine D.pq 1 [(30,[])] T ?_
 refine D.sz 31 [] 30 false 49 rfl ?_
 refine D.sz 32 [] 30 false 49 rfl ?_
 refine D.sz 33 [] 30 false 49 rfl ?_
 refine D.kt 34 [] rfl ?_
 refine D.pq 1 [(35,[])] T ?_
 refine D.sz 36 [] 35 false 54 rfl ?_
 refine D.sz 37 [] 35 false 54 rfl ?_
 refine D.sz 38 [] 35 false 54 rfl ?_
 refine D.sz 39 [] 35 false 54 rfl ?_
 refine D.kt 40 [] rfl ?_
 refine D.done (by kernel_rfl) ?_
 exact St.wa (idR 2) (j18 _ g)
 refine D.pt 21 [] 20 false 39 b24 T ?_
 refine D.q 22 [] hQ hS rfl (.tk 20 false 39 b24) rfl rfl (by exact Rd.l T rfl rfl rfl) rfl (by kernel_rfl) ?_
 refine D.pt 23 [] 20 false 39 b24 T ?_
 refine D.kf 24 [] b24 ?_
 refine D.pq 1 [(25,[])] T ?_
 refine g.cs (fun b25 g=>?_) fun b25 g=>?_
 refine D.sz 26 [] 25 false 44 b25 ?_
 refine D.sz 27 [] 25 false 44 b25 ?_
 refine D.sz 28 [] 25 false 44 b25 ?_
 refine D.kt 29 [] b25 ?_
 refine D.pq 1 [(30,[])] T ?_
 refine D.sz 31 [] 30 false 49 rfl ?_
 refine D.sz 32 [] 30 false 49 rfl ?_
 refine D.sz 33 [] 30 false 49 rfl ?_
 refine D.kt 34 [] rfl ?_
 refine D.pq 1 [(35,[])] T ?_
 refine D.sz 36 [] 35 false 54 rfl ?_
 refine D.sz 37 [] 35 false 54 rfl ?_
 refine D.sz 38 [] 35 false 54 rfl ?_
 refine D.sz 39 [] 35 false 54 rfl ?_
 refine D.kt 40 [] rfl ?_
 refine D.done (by kernel_rfl) ?_
 exact St.wa (idR 2) (j18 _ g)
 refine D.pt 26 [] 25 false 44 b25 T ?_
 refine D.q 27 [] hQ hS rfl (.tk 25 false 44 b25) rfl rfl (by exact Rd.l T rfl rfl rfl) rfl (by kernel_rfl) ?_
 refine D.pt 28 [] 25 false 44 b25 T ?_
 refine D.kf 29 [] b25 ?_
 refine D.pq 1 [(30,[])] T ?_
 refine g.cs (fun b26 g=>?_) fun b26 g=>?_
 refine D.sz 31 [] 30 false 49 b26 ?_
 refine D.sz 32 [] 30 false 49 b26 ?_
 refine D.sz 33 [] 30 false 49 b26 ?_
 refine D.kt 34 [] b26 ?_
 refine D.pq 1 [(35,[])] T ?_
 refine D.sz 36 [] 35 false 54 rfl ?_
 refine D.sz 37 [] 35 false 54 rfl ?_
 refine D.sz 38 [] 35 false 54 rfl ?_
 refine D.sz 39 [] 35 false 54 rfl ?_
 refine D.kt 40 [] rfl ?_
 refine D.done (by kernel_rfl) ?_
 exact St.wa (idR 2) (j18 _ g)
 refine D.pt 31 [] 30 false 49 b26 T ?_
 refine D.q 32 [] hQ hS rfl (.tk 30 false 49 b26) rfl rfl (by exact Rd.l T rfl rfl rfl) rfl (by kernel_rfl) ?_
 refine D.pt 33 [] 30 false 49 b26 T ?_
 refine D.kf 34 [] b26 ?_
 refine D.pq 1 [(35,[])] T ?_
 refine g.cs (fun b27 g=>?_) fun b27 g=>?_
 refine D.sz 36 [] 35 false 54 b27 ?_
 refine D.sz 37 [] 35 false 54 b27 ?_
 refine D.sz 38 [] 35 false 54 b27 ?_
 refine D.sz 39 [] 35 false 54 b27 ?_
 refine D.kt 40 [] b27 ?_
 refine D.done (by kernel_rfl) ?_
 exact St.wa (idR 2) (j18 _ g)
 refine D.pt 36 [] 35 false 54 b27 T ?_
 refine D.q 37 [] hQ hS rfl (.tk 35 false 54 b27) rfl rfl (by exact Rd.l T rfl rfl rfl) rfl (by kernel_rfl) ?_
 refine D.k 38 (Q0r x16.Shut _ g) QbO (fun x28 g=>?_) (hw:=.take 35 false 54 _ b27 rfl rfl rfl)
 refine D.pt 39 [] 35 false 54 b27 T ?_
 refine D.kf 40 [] b27 ?_
 refine D.done (by kernel_rfl) ?_
 exact St.wa (idR 2) (j18 _ g)
 refine D.sz 5 [] 4 false 23 (ntT b20) ?_
 refine D.sz 6 [] 4 false 23 (ntT b20) ?_
 refine D.sz 7 [] 4 false 23 (ntT b20) ?_
 refine D.sz 8 [] 4 false 23 (ntT b20) ?_
 refine D.sz 9 [] 4 false 23 (ntT b20) ?_
 refine D.sz 10 [] 4 false 23 (ntT b20) ?_
 refine D.sz 11 [] 4 false 23 (ntT b20) ?_
 refine D.sz 12 [] 4 false 23 (ntT b20) ?_
 refine D.kt 13 [] (ntT b20) ?_
 refine D.pq 1 [(14,[])] T ?_
 refine D.sz 15 [] 14 false 33 rfl ?_
 refine D.sz 16 [] 14 false 33 rfl ?_
 refine D.sz 17 [] 14 false 33 rfl ?_
 refine D.sz 18 [] 14 false 33 rfl ?_
 refine D.kt 19 [] rfl ?_
 refine D.pq 1 [(20,[])] T ?_
 refine D.sz 21 [] 20 false 39 rfl ?_
 refine D.sz 22 [] 20 false 39 rfl ?_
 refine D.sz 23 [] 20 false 39 rfl ?_
 refine D.kt 24 [] rfl ?_
 refine D.pq 1 [(25,[])] T ?_
 refine D.sz 26 [] 25 false 44 rfl ?_
 refine D.sz 27 [] 25 false 44 rfl ?_
 refine D.sz 28 [] 25 false 44 rfl ?_
 refine D.kt 29 [] rfl ?_
 refine D.pq 1 [(30,[])] T ?_
 refine D.sz 31 [] 30 false 49 rfl ?_
 refine D.sz 32 [] 30 false 49 rfl ?_
 refine D.sz 33 [] 30 false 49 rfl ?_
 refine D.kt 34 [] rfl ?_
 refine D.pq 1 [(35,[])] T ?_
 refine D.sz 36 [] 35 false 54 rfl ?_
 refine D.sz 37 [] 35 false 54 rfl ?_
 refine D.sz 38 [] 35 false 54 rfl ?_
 refine D.sz 39 [] 35 false 54 rfl ?_
 refine D.kt 40 [] rfl ?_
 refine D.done (by kernel_rfl) ?_
 exact St.wa (idR 2) (j18 _ g)
 refine C.exit (C.ex (C.ex (C.bex ?_)))
 exact St.wa [some 0] (j6 _ g)
theorem Yd (l:List ApiApart) (a:ByteArray) (b:ByteArray) (post:Bool→Prop) (g:Kz l a b post):
  Tr Tryz.prog 88 [.sl 2 Qa l,.v (.string a),.v (.string b)] [] 0 (pB post):=by
 refine Tr.go Tryz.func88 Tryz.ntmps88 fun _ _ _ _ o=>?_
 unfold Kz at g
 refine C.ss (U.pd 1 T (C.xs (C.ss ?_)))
 refine U.pd 1 T (C.nx ?_)
 refine C.jn (fun (x5:Unit)=>[]) (fun x5=>[]) 0 g (fun x5 g=>?_) fun J6 g j6=>?_
 refine C.xt (U.pd 1 T (C.nx (C.ret ?_)))
 exact C.f1 T o (pBi g)
 refine C.block (St.wk (C.loop (fun (s7:Int)=>[(0,.sl 2 Qa l),(1,.v (.string a)),(2,.v (.string b)),(7,.i s7)]) (fun s7=>[]) g (fun s7 Y8 g=>?_)) (Wk.e))
 refine C.seq (C.seq ?_)
 refine C.jn (fun (x9:Bool)=>[(0,.sl 2 Qa l),(1,.v (.string a)),(2,.v (.string b)),(7,.i s7),(19,.b x9)]) (fun x9=>[]) 0 g (fun x9 g=>?_) fun J10 g j10=>?_
 refine C.nx ?_
 refine C.ite rfl g (fun b13 g=>?_) fun b13 g=>?_
 refine C.skip (C.xs (C.block (C.seq ?_)))
 refine C.jn (fun (x14:Bool)=>[(0,.sl 2 Qa l),(1,.v (.string a)),(2,.v (.string b)),(7,.i s7),(55,.b x14)]) (fun x14=>[]) 0 g (fun x14 g=>?_) fun J15 g j15=>?_
 refine C.nx ?_
 refine C.ite rfl g (fun b21 g=>?_) fun b21 g=>?_
 refine C.ss (U.pd 1 T (C.nx (C.ret (C.brt (C.rt (C.rt (C.brt (C.rt ?_))))))))
 exact C.f1 T o (pBi g)
 refine C.skip (C.bnx (C.nx (U.start (U.pd 3 T (C.nx ?_)))))
 exact St.wk (C.next g) (Wk.e)
 refine U.start (U.ps 2 T rfl ?_)
 obtain⟨x16,y16,g⟩:=g
 refine U.ix T y16 ?_
 refine U.ps 5 T rfl ?_
 refine g.cs (fun b17 g=>?_) fun b17 g=>?_
 refine U.pq 2 7 true 29 b17 T ?_
 refine U.r rfl (.tk 7 true 29 b17) rfl rfl (by exact Rd.ix T rfl rfl rfl rfl rfl rfl y16) ?_
 refine U.pq 4 7 true 29 b17 T ?_
 refine U.pk b17 ?_
 refine U.ps 1 T rfl ?_
 refine g.cs (fun b18 g=>?_) fun b18 g=>?_
 refine U.sk' 8 16 false 38 b18 ?_
 refine U.sku 7 24 true 46 rfl rfl rfl ?_
 refine U.sk' 1 16 false 38 b18 ?_
 refine U.pk b18 ?_
 refine U.done ?_
 exact St.wn (j15 _ g)
 refine U.pq 2 16 false 38 b18 T ?_
 refine U.r rfl (.tk 16 false 38 b18) rfl rfl (by exact Rd.ix T rfl rfl rfl rfl rfl rfl y16) ?_
 refine U.pq 5 16 false 38 b18 T ?_
 refine g.cs (fun b19 g=>?_) fun b19 g=>?_
 refine U.pq 2 24 true 46 b19 T ?_
 refine U.r rfl (.tk 24 true 46 b19) rfl rfl (by exact Rd.ix T rfl rfl rfl rfl rfl rfl y16) ?_
 refine U.pq 4 24 true 46 b19 T ?_
 refine U.r rfl (.tk 16 false 38 b18) rfl rfl (by exact Rd.pk rfl rfl b19 rfl) ?_
 refine U.pk' b18 ?_
 refine U.done ?_
 exact St.wn (j15 _ g)
 refine U.sk' 7 24 true 46 b19 ?_
 refine U.r rfl (.tk 16 false 38 b18) rfl rfl (by exact Rd.pk' rfl rfl b19 rfl) ?_
 refine U.pk' b18 ?_
 refine U.done ?_
 exact St.wn (j15 _ g)
 refine U.sk' 7 7 true 29 b17 ?_
 refine U.pk' b17 ?_
 refine U.ps 1 T rfl (U.pq 2 16 false 38 rfl T ?_)
 refine U.r rfl (.tk 16 false 38 rfl) rfl rfl (by exact Rd.ix T rfl rfl rfl rfl rfl rfl y16) ?_
 refine U.pq 5 16 false 38 rfl T ?_
 refine g.cs (fun b20 g=>?_) fun b20 g=>?_
 refine U.pq 2 24 true 46 b20 T ?_
 refine U.r rfl (.tk 24 true 46 b20) rfl rfl (by exact Rd.ix T rfl rfl rfl rfl rfl rfl y16) ?_
 refine U.pq 4 24 true 46 b20 T ?_
 refine U.r rfl (.tk 16 false 38 rfl) rfl rfl (by exact Rd.pk rfl rfl b20 rfl) ?_
 refine U.pk' rfl ?_
 refine U.done ?_
 exact St.wn (j15 _ g)
 refine U.sk' 7 24 true 46 b20 ?_
 refine U.r rfl (.tk 16 false 38 rfl) rfl rfl (by exact Rd.pk' rfl rfl b20 rfl) ?_
 refine U.pk' rfl ?_
 refine U.done ?_
 exact St.wn (j15 _ g)
 refine C.exit (C.ex (C.ex (C.bex ?_)))
 exact St.wk (j6 _ g) (Wk.mk' [] rfl rfl trivial trivial rfl)
 refine U.start (U.ps 5 T rfl ?_)
 refine g.cs (fun b11 g=>?_) fun b11 g=>?_
 refine U.pq 2 4 true 12 b11 T ?_
 refine U.pk b11 ?_
 refine U.ps 1 T rfl ?_
 refine g.cs (fun b12 g=>?_) fun b12 g=>?_
 refine U.sk' 2 8 true 16 (ntF b12) ?_
 refine U.pk' (ntF b12) ?_
 refine U.done ?_
 exact St.wn (j10 _ g)
 refine U.pq 2 8 true 16 (ntT b12) T ?_
 refine U.pk (ntT b12) ?_
 refine U.done ?_
 exact St.wn (j10 _ g)
 refine U.sk' 2 4 true 12 b11 ?_
 refine U.pk' b11 ?_
 refine U.ps 1 T rfl (U.sk' 2 8 true 16 rfl ?_)
 refine U.pk' rfl ?_
 refine U.done ?_
 exact St.wn (j10 _ g)
theorem WO (kind:Int) (post:Bool→Prop) (g:Kk kind post):
  Tr Tryz.prog 90 [.i kind] [] 0 (pB post):=by
 refine Tr.go Tryz.func90 Tryz.ntmps90 fun _ _ _ _ o=>?_
 unfold Kk at g
 refine C.ss (U.pd 1 T (C.xs ?_))
 refine C.jn (fun (x3:Bool)=>[(2,.b x3)]) (fun x3=>[]) 0 g (fun x3 g=>?_) fun J4 g j4=>?_
 refine C.nx (C.ret ?_)
 exact C.f1 T o (pBi g)
 refine U.start (U.ps 3 T rfl ?_)
 refine g.cs (fun b5 g=>?_) fun b5 g=>?_
 refine U.sk' 2 2 false 5 b5 ?_
 refine U.pk b5 ?_
 refine U.pd 1 T ?_
 exact St.wn (j4 _ g)
 refine U.pq 2 2 false 5 b5 T ?_
 refine U.pk' b5 ?_
 refine U.pd 1 T ?_
 exact St.wn (j4 _ g)
theorem Gu (l:List ApiShelf) (c:Int) (post:Int→Prop) (g:QW l c post):
  Tr Tryz.prog 91 [.sl 2 Qc l,.i c] [] 0 (pI post):=by
 refine Tr.go Tryz.func91 Tryz.ntmps91 fun _ _ _ _ o=>?_
 unfold QW at g
 refine C.ss (U.pd 1 T (C.xs (C.ss ?_)))
 refine U.pd 1 T (C.nx ?_)
 refine C.jn (fun (x5:Unit)=>[]) (fun x5=>[]) 0 g (fun x5 g=>?_) fun J6 g j6=>?_
 refine C.xt (U.pd 1 T (C.nx (C.ret ?_)))
 exact C.f1 T o (pIi g)
 refine C.block (St.wk (C.loop (fun (s7:Int)=>[(0,.sl 2 Qc l),(1,.i c),(5,.i s7)]) (fun s7=>[]) g (fun s7 Y8 g=>?_)) (Wk.e))
 refine C.seq (C.ss (U.pd 4 T (C.nx ?_)))
 refine C.ite rfl g (fun b11 g=>?_) fun b11 g=>?_
 refine C.skip (C.xs (C.block (C.ss (U.ps 2 T rfl ?_))))
 obtain⟨x14,y14,g⟩:=g
 refine U.ix T y14 ?_
 refine U.pd 4 T (C.nx ?_)
 refine C.ite rfl g (fun b15 g=>?_) fun b15 g=>?_
 refine C.ss (U.pd 2 T (C.nx (C.ret (C.brt (C.rt (C.rt (C.brt (C.rt ?_))))))))
 exact C.f1 T o (pIi g)
 refine C.skip (C.bnx (C.nx (U.start (U.pd 3 T (C.nx ?_)))))
 exact St.wk (C.next g) (Wk.e)
 refine C.exit (C.ex (C.ex (C.bex ?_)))
 exact St.wk (j6 _ g) (Wk.mk' [] rfl rfl trivial trivial rfl)
theorem Zs (l:List ApiStart) (c:Int) (post:Bool→Prop) (g:KK l c post):
  Tr Tryz.prog 92 [.sl 2 Qb l,.i c] [] 0 (pB post):=by
 refine Tr.go Tryz.func92 Tryz.ntmps92 fun _ _ _ _ o=>?_
 unfold KK at g
 refine C.ss (U.pd 1 T (C.xs (C.ss ?_)))
 refine U.pd 1 T (C.nx ?_)
 refine C.jn (fun (x5:Unit)=>[]) (fun x5=>[]) 0 g (fun x5 g=>?_) fun J6 g j6=>?_
 refine C.xt (U.pd 1 T (C.nx (C.ret ?_)))
 exact C.f1 T o (pBi g)
 refine C.block (St.wk (C.loop (fun (s7:Int)=>[(0,.sl 2 Qb l),(1,.i c),(5,.i s7)]) (fun s7=>[]) g (fun s7 Y8 g=>?_)) (Wk.e))
 refine C.seq (C.ss (U.pd 4 T (C.nx ?_)))
 refine C.ite rfl g (fun b11 g=>?_) fun b11 g=>?_
 refine C.skip (C.xs (C.block (C.ss (U.ps 2 T rfl ?_))))
 obtain⟨x14,y14,g⟩:=g
 refine U.ix T y14 ?_
 refine U.pd 4 T (C.nx ?_)
 refine C.ite rfl g (fun b15 g=>?_) fun b15 g=>?_
 refine C.ss (U.pd 1 T (C.nx (C.ret (C.brt (C.rt (C.rt (C.brt (C.rt ?_))))))))
 exact C.f1 T o (pBi g)
 refine C.skip (C.bnx (C.nx (U.start (U.pd 3 T (C.nx ?_)))))
 exact St.wk (C.next g) (Wk.e)
 refine C.exit (C.ex (C.ex (C.bex ?_)))
 exact St.wk (j6 _ g) (Wk.mk' [] rfl rfl trivial trivial rfl)
theorem Q07 (s_1:ApiSite) (z:ApiZone) (post:Int→Prop) (g:X0 s_1 z post):
  Tr Tryz.prog 93 [.agg (Q2 s_1),.agg (Q9 z)] [] 0 (pI post):=by
 refine Tr.go Tryz.func93 Tryz.ntmps93 fun _ _ _ _ o=>?_
 unfold X0 at g
 refine C.ss (U.bx ?_)
 refine U.bx ?_
 refine U.pd 1 T (C.xt ?_)
 refine U.pd 1 T (C.xs (C.ss ?_))
 refine U.pd 1 T (C.nx ?_)
 refine C.jn (fun (x7:Int)=>[(5,.i x7)]) (fun x7=>[]) 0 g (fun x7 g=>?_) fun J8 g j8=>?_
 refine C.xt (U.pd 2 T (C.nx (C.ret ?_)))
 exact C.f1 T o (pIi g)
 refine C.block (St.wk (C.loop (fun (s9:Int×Int)=>[(2,.p 0 0),(3,.p 1 0),(5,.i s9.1),(6,.i s9.2)]) (fun s9=>[(0,.box (Q2 s_1)),(1,.box (Q9 z))]) g (fun s9 Y10 g=>?_)) (Wk.a (idR 2)))
 refine C.seq (C.ss (U.pd 5 T (C.nx ?_)))
 refine C.ite rfl g (fun b13 g=>?_) fun b13 g=>?_
 refine C.skip (C.xs (C.block (C.seq ?_)))
 refine C.jn (fun (x14:Bool)=>[(2,.p 0 0),(3,.p 1 0),(5,.i s9.1),(6,.i s9.2),(35,.b x14)]) (fun x14=>[(0,.box (Q2 s_1)),(1,.box (Q9 z))]) 2 g (fun x14 g=>?_) fun J15 g j15=>?_
 refine C.nx ?_
 refine C.jn (fun (x21:Int)=>[(2,.p 0 0),(3,.p 1 0),(5,.i x21),(6,.i s9.2)]) (fun x21=>[(0,.box (Q2 s_1)),(1,.box (Q9 z))]) 2 g (fun x21 g=>?_) fun J22 g j22=>?_
 refine C.bnx (C.nx (U.start (U.pd 3 T (C.nx ?_))))
 exact St.wk (C.next g) (Wk.a (idR 2))
 refine C.ite rfl g (fun b23 g=>?_) fun b23 g=>?_
 refine U.start (U.pd 3 T ?_)
 exact St.wa (idR 2) (j22 _ g)
 refine C.skip ?_
 exact St.wa (idR 2) (j22 _ g)
 refine D.bq mix 9999 [0,1] [] (fun hQ hS ws M'=>?_)
 refine D.pq 6 (zl [0,1,2,3,4,5]) T ?_
 obtain⟨x16,y16,g⟩:=g
 refine D.ix 6 [] T y16 ?_
 refine D.pq 1 [(7,[])] T ?_
 obtain⟨x17,y17,g⟩:=g
 refine D.ix 8 [] T y17 ?_
 refine D.pq 1 [(9,[])] T ?_
 refine D.k 10 (WO x17 _ g) en90 fun x18 g=>?_
 refine D.pq 1 [(11,[])] T ?_
 refine g.cs (fun b19 g=>?_) fun b19 g=>?_
 refine D.pt 12 [] 11 true 25 b19 T ?_
 refine D.q 13 [] hQ hS rfl (.tk 11 true 25 b19) rfl rfl (by exact Rd.l T rfl rfl rfl) rfl (by kernel_rfl) ?_
 refine D.pt 14 [] 11 true 25 b19 T ?_
 refine D.q 15 [] hQ hS rfl (.tk 11 true 25 b19) rfl rfl (by exact Rd.l T rfl rfl rfl) rfl (by kernel_rfl) ?_
 refine D.pt 16 [] 11 true 25 b19 T ?_
 refine D.q 17 [] hQ hS rfl (.tk 11 true 25 b19) rfl rfl (by exact Rd.ix T rfl rfl rfl rfl rfl rfl y16) rfl (by kernel_rfl) ?_
 refine D.q 18 [] hQ hS rfl (.tk 11 true 25 b19) rfl rfl (by exact Rd.l T rfl rfl rfl) rfl (by kernel_rfl) ?_
 refine D.k 19 (Gu s_1.Shelves x16 _ g) en91 (fun x20 g=>?_) (hw:=.take 11 true 25 _ b19 rfl rfl rfl)
 refine D.pt 20 [] 11 true 25 b19 T ?_
 refine D.kt 21 [] b19 ?_
 refine D.done (by kernel_rfl) ?_
 exact St.wa (idR 2) (j15 _ g)
 refine D.sz 12 [] 11 true 25 b19 ?_
 refine D.sz 13 [] 11 true 25 b19 ?_
 refine D.sz 14 [] 11 true 25 b19 ?_
 refine D.sz 15 [] 11 true 25 b19 ?_
 refine D.sz 16 [] 11 true 25 b19 ?_
 refine D.sz 17 [] 11 true 25 b19 ?_
 refine D.sz 18 [] 11 true 25 b19 ?_
 refine D.sz 19 [] 11 true 25 b19 ?_
 refine D.sz 20 [] 11 true 25 b19 ?_
 refine D.kf 21 [] b19 ?_
 refine D.done (by kernel_rfl) ?_
 exact St.wa (idR 2) (j15 _ g)
 refine C.exit (C.ex (C.ex (C.bex ?_)))
 exact St.wn (j8 _ g)
theorem Q26 (f:Q6) (c:Int) (post:(Int×Int×Int)→Prop) (g:Ga f c post):
  Tr Tryz.prog 181 [.agg (Qd f),.i c] [] 0 (fun A H' k=>∃y,post y∧A=(.tup [.i y.1,.i y.2.1,.i y.2.2])∧H'=[]∧k=0):=by
 refine Tr.go Tryz.func181 Tryz.ntmps181 fun _ _ _ _ o=>?_
 unfold Ga at g
 refine C.ss (U.bx ?_)
 refine U.pd 3 T (C.xs (C.ss ?_))
 refine U.ps 2 T rfl (U.k (K1 f c _ g) en89 (fun x5 g=>?_))
 refine U.pd 1 T (C.nx ?_)
 refine C.ite rfl g (fun b6 g=>?_) fun b6 g=>?_
 refine C.ss (U.pd 3 T (C.nx (C.ret (C.rt ?_))))
 exact C.f9 T o ⟨(0,0,0),g,rfl,rfl,rfl⟩
 refine C.skip (C.xs (D.bq mix 9999 [0] [] (fun hQ hS ws M'=>?_)))
 refine D.pq 3 (zl [0,1,2]) T ?_
 obtain⟨y11,g⟩:=g
 refine D.q 3 [] hQ hS rfl (.none rfl) rfl rfl (by exact Rd.rm rfl rfl rfl rfl y11) rfl (by kernel_rfl) ?_
 refine D.pq 3 (zl [4,5,6]) T ?_
 obtain⟨y12,g⟩:=g
 refine D.q 7 [] hQ hS rfl (.none rfl) rfl rfl (by exact Rd.dv rfl rfl rfl rfl y12) rfl (by kernel_rfl) ?_
 refine D.pq 2 (zl [8,9]) T ?_
 obtain⟨y13,g⟩:=g
 refine D.q 10 [] hQ hS rfl (.none rfl) rfl rfl (by exact Rd.rm rfl rfl rfl rfl y13) rfl (by kernel_rfl) ?_
 refine D.pq 3 (zl [11,12,13]) T ?_
 obtain⟨y14,g⟩:=g
 refine D.q 14 [] hQ hS rfl (.none rfl) rfl rfl (by exact Rd.dv rfl rfl rfl rfl y14) rfl (by kernel_rfl) ?_
 refine D.pq 2 (zl [15,16]) T ?_
 obtain⟨y15,g⟩:=g
 refine D.q 17 [] hQ hS rfl (.none rfl) rfl rfl (by exact Rd.dv rfl rfl rfl rfl y15) rfl (by kernel_rfl) ?_
 refine D.pq 3 (zl [18,19,20]) T ?_
 refine D.done (by kernel_rfl) ?_
 refine C.nx (C.ret ?_)
 exact C.f9 T o ⟨(c.tmod f.W,(w64 (c.tdiv f.W)).tmod f.H,w64 ((w64 (c.tdiv f.W)).tdiv f.H)),g,rfl,rfl,rfl⟩
theorem KP (f:Q6) (x_1:Int) (y_1:Int) (z:Int) (post:Int→Prop) (g:QN f x_1 y_1 z post):
  Tr Tryz.prog 182 [.agg (Qd f),.i x_1,.i y_1,.i z] [] 0 (pI post):=by
 refine Tr.go Tryz.func182 Tryz.ntmps182 fun _ _ _ _ o=>?_
 unfold QN at g
 refine C.ss (U.bx ?_)
 refine U.pd 1 T (C.xs (C.seq ?_))
 refine C.jn (fun (x3:Bool)=>[(1,.i x_1),(2,.i y_1),(3,.i z),(4,.p 0 0),(36,.b x3)]) (fun x3=>[(0,.box (Qd f))]) 1 g (fun x3 g=>?_) fun J4 g j4=>?_
 refine C.nx ?_
 refine C.ite rfl g (fun b10 g=>?_) fun b10 g=>?_
 refine C.ss (U.pd 1 T (C.nx (C.ret (C.rt ?_))))
 exact C.f1 T o (pIi g)
 refine C.skip (C.xt (U.pd 12 T (C.nx (C.ret ?_))))
 exact C.f1 T o (pIi g)
 refine U.start (U.ps 3 T rfl ?_)
 refine g.cs (fun b5 g=>?_) fun b5 g=>?_
 refine U.sk' 4 2 false 11 b5 ?_
 refine U.pk b5 ?_
 refine U.ps 1 T rfl (U.sk' 2 8 false 17 rfl ?_)
 refine U.pk rfl ?_
 refine U.ps 1 T rfl (U.sk' 4 12 false 21 rfl ?_)
 refine U.pk rfl ?_
 refine U.ps 1 T rfl (U.sk' 2 18 false 27 rfl ?_)
 refine U.pk rfl ?_
 refine U.ps 1 T rfl (U.sk' 4 22 false 31 rfl ?_)
 refine U.pk rfl ?_
 refine U.done ?_
 exact St.wa [some 0] (j4 _ g)
 refine U.pq 4 2 false 11 b5 T ?_
 refine U.pk' b5 ?_
 refine U.ps 1 T rfl ?_
 refine g.cs (fun b6 g=>?_) fun b6 g=>?_
 refine U.sk' 2 8 false 17 b6 ?_
 refine U.pk b6 ?_
 refine U.ps 1 T rfl (U.sk' 4 12 false 21 rfl ?_)
 refine U.pk rfl ?_
 refine U.ps 1 T rfl (U.sk' 2 18 false 27 rfl ?_)
 refine U.pk rfl ?_
 refine U.ps 1 T rfl (U.sk' 4 22 false 31 rfl ?_)
 refine U.pk rfl ?_
 refine U.done ?_
 exact St.wa [some 0] (j4 _ g)
 refine U.pq 2 8 false 17 b6 T ?_
 refine U.pk' b6 ?_
 refine U.ps 1 T rfl ?_
 refine g.cs (fun b7 g=>?_) fun b7 g=>?_
 refine U.sk' 4 12 false 21 b7 ?_
 refine U.pk b7 ?_
 refine U.ps 1 T rfl (U.sk' 2 18 false 27 rfl ?_)
 refine U.pk rfl ?_
 refine U.ps 1 T rfl (U.sk' 4 22 false 31 rfl ?_)
 refine U.pk rfl ?_
 refine U.done ?_
 exact St.wa [some 0] (j4 _ g)
 refine U.pq 4 12 false 21 b7 T ?_
 refine U.pk' b7 ?_
 refine U.ps 1 T rfl ?_
 refine g.cs (fun b8 g=>?_) fun b8 g=>?_
 refine U.sk' 2 18 false 27 b8 ?_
 refine U.pk b8 ?_
 refine U.ps 1 T rfl (U.sk' 4 22 false 31 rfl ?_)
 refine U.pk rfl ?_
 refine U.done ?_
 exact St.wa [some 0] (j4 _ g)
 refine U.pq 2 18 false 27 b8 T ?_
 refine U.pk' b8 ?_
 refine U.ps 1 T rfl ?_
 refine g.cs (fun b9 g=>?_) fun b9 g=>?_
 refine U.sk' 4 22 false 31 b9 ?_
 refine U.pk b9 ?_
 refine U.done ?_
 exact St.wa [some 0] (j4 _ g)
 refine U.pq 4 22 false 31 b9 T ?_
 refine U.pk' b9 ?_
 refine U.done ?_
 exact St.wa [some 0] (j4 _ g)
theorem GR (f:Q6) (c:Int) (d:Int) (post:Int→Prop) (g:K2 f c d post):
  Tr Tryz.prog 123 [.agg (Qd f),.i c,.i d] [] 0 (pI post):=by
 refine Tr.go Tryz.func123 Tryz.ntmps123 fun _ _ _ _ o=>?_
 unfold K2 at g
 refine C.ss (U.bx ?_)
 refine U.pd 1 T (C.xs (C.ss ?_))
 refine U.ps 2 T rfl (U.k (K1 f c _ g) en89 (fun x5 g=>?_))
 refine U.pd 1 T (C.nx ?_)
 refine C.ite rfl g (fun b6 g=>?_) fun b6 g=>?_
 refine C.ss (U.pd 1 T (C.nx (C.ret (C.rt ?_))))
 exact C.f1 T o (pIi g)
 refine C.skip (C.xt (U.ps 2 T rfl (U.k (Q26 f c _ g) QaW (fun x11 g=>?_))))
 refine U.pd 7 T (C.xs (C.ss ?_))
 refine U.pd 1 T (C.nx (C.block (C.ss ?_)))
 refine U.pd 2 T (C.nx ?_)
 refine C.ite rfl g (fun b16 g=>?_) fun b16 g=>?_
 refine C.ss (U.ps 5 T rfl (U.k (KP f (w64 (x11.1+1)) x11.2.1 x11.2.2 _ g) Q6C (fun x19 g=>?_)))
 refine U.pd 1 T (C.nx (C.ret (C.brt (C.rt ?_))))
 exact C.f1 T o (pIi g)
 refine C.ss (U.pd 2 T (C.nx ?_))
 refine C.ite rfl g (fun b22 g=>?_) fun b22 g=>?_
 refine C.ss (U.ps 5 T rfl (U.k (KP f x11.1 (w64 (x11.2.1+1)) x11.2.2 _ g) Q6C (fun x25 g=>?_)))
 refine U.pd 1 T (C.nx (C.ret (C.brt (C.rt ?_))))
 exact C.f1 T o (pIi g)
 refine C.ss (U.pd 2 T (C.nx ?_))
 refine C.ite rfl g (fun b28 g=>?_) fun b28 g=>?_
 refine C.ss (U.ps 5 T rfl (U.k (KP f (w64 (x11.1-1)) x11.2.1 x11.2.2 _ g) Q6C (fun x31 g=>?_)))
 refine U.pd 1 T (C.nx (C.ret (C.brt (C.rt ?_))))
 exact C.f1 T o (pIi g)
 refine C.ss (U.pd 2 T (C.nx ?_))
 refine C.ite rfl g (fun b34 g=>?_) fun b34 g=>?_
 refine C.ss (U.ps 5 T rfl (U.k (KP f x11.1 (w64 (x11.2.1-1)) x11.2.2 _ g) Q6C (fun x37 g=>?_)))
 refine U.pd 1 T (C.nx (C.ret (C.brt (C.rt ?_))))
 exact C.f1 T o (pIi g)
 refine C.ss (U.pd 2 T (C.nx ?_))
 refine C.ite rfl g (fun b40 g=>?_) fun b40 g=>?_
 refine C.ss (U.ps 5 T rfl (U.k (KP f x11.1 x11.2.1 (w64 (x11.2.2+1)) _ g) Q6C (fun x43 g=>?_)))
 refine U.pd 1 T (C.nx (C.ret (C.brt (C.rt ?_))))
 exact C.f1 T o (pIi g)
 refine C.ss (U.pd 2 T (C.nx ?_))
 refine C.ite rfl g (fun b46 g=>?_) fun b46 g=>?_
 refine C.ss (U.ps 5 T rfl (U.k (KP f x11.1 x11.2.1 (w64 (x11.2.2-1)) _ g) Q6C (fun x49 g=>?_)))
 refine U.pd 1 T (C.nx (C.ret (C.brt (C.rt ?_))))
 exact C.f1 T o (pIi g)
 refine C.skip (C.bnx (C.xt (U.pd 1 T (C.nx (C.ret ?_)))))
 exact C.f1 T o (pIi g)
end Go.Proofs.YtbpbennpgnjbkaaGreat
