/- The walks: each Go function does what its verification condition says (written by a program of the prover). -/
import Derived.Test.YtbkpekodmhkbdaaGreatW1
import Derived.KernelRfl
set_option maxRecDepth 100000
set_option maxHeartbeats 8000000
set_option linter.unusedVariables false
set_option linter.unusedSimpArgs false
namespace Go.Proofs.YtbkpekodmhkbdaaGreat
open Go Go.Taq
theorem Q4J (s_1:ApiSite) (st:ApiState) (robot:Int) (act:Int) (post:ApiState→Prop) (g:WM s_1 st robot act post):
  Tr Tryz.prog 69 [.agg (Q6 s_1),.agg (Q1 st),.i robot,.i act] [] 0 (fun A H' k=>∃y,post y∧A=(.agg [.i y.Tick,.o 0,.o 1,.o 2,.o 3,.o 4])∧H'=[(0,.val (.os 1 eI y.Shelves)),(1,.val (.os 6 Q0 y.Robots)),(2,.val (.os 1 eI y.People)),(3,.val (.os 1 eI y.Dead)),(4,.val (.os 2 Q7 y.Stuck))]∧k=5):=by
 refine Tr.go Tryz.func69 Tryz.ntmps69 fun _ _ _ _ o=>?_
 unfold WM at g
 refine C.ss (U.bx ?_)
 refine U.bx ?_
 refine U.al T ?_
 refine U.done (C.xt (U.ps 1 T rfl (U.k (YP st _ g) en71 (fun x5 g=>?_))))
 refine U.al T ?_
 refine U.st T ?_
 refine U.done (C.xs (C.seq ?_))
 refine C.jn (fun (x6:Bool)=>[(2,.i robot),(3,.i act),(4,.p 0 0),(5,.p 1 0),(8,.p 2 0),(9,.p 3 0),(35,.b x6)]) (fun x6=>[(0,.box (Q6 s_1)),(1,.box (Q1 st)),(2,.box [.i 0,vN,vN,vN,vN,vN]),(3,.box [.i x5.Tick,.o 4,.o 5,.o 6,.o 7,.o 8]),(4,.val (.os 1 eI x5.Shelves)),(5,.val (.os 6 Q0 x5.Robots)),(6,.val (.os 1 eI x5.People)),(7,.val (.os 1 eI x5.Dead)),(8,.val (.os 2 Q7 x5.Stuck))]) 9 g (fun x6 g=>?_) fun J7 g j7=>?_
 refine C.nx ?_
 refine C.ite rfl g (fun b11 g=>?_) fun b11 g=>?_
 refine C.ss (U.ps 1 T rfl (U.st T ?_))
 refine U.done (C.nx (C.ret (C.rt ?_)))
 exact C.g1 (sqR 4 5) T o ⟨x5,g,rfl,rfl,rfl⟩
 refine C.skip (C.xt (U.ps 3 T rfl ?_))
 obtain⟨x16,y16,g⟩:=g
 refine U.r rfl (.none rfl) rfl rfl (by exact Rd.io T rfl rfl rfl rfl rfl rfl rfl y16) ?_
 refine U.pd 1 T (C.xs ?_)
 refine D.bq mix 9999 [1,5] [] (fun hQ hS ws M'=>?_)
 refine D.pq 5 (zl [0,1,2,3,4]) T ?_
 refine D.q 5 [] hQ hS rfl (.none rfl) rfl rfl (by exact Rd.le T rfl rfl rfl (Qe y16).2.2 rfl rfl rfl) rfl (by kernel_rfl) ?_
 refine D.pq 4 (zl [6,7,8,9]) T ?_
 refine D.q 10 [] hQ hS rfl (.none rfl) rfl rfl (by exact Rd.le T rfl rfl rfl (Qe y16).2.2 rfl rfl rfl) rfl (by kernel_rfl) ?_
 refine D.pq 1 [(11,[])] T ?_
 refine D.k 12 (YK st.Tick x16.Charge act (decide (x16.Load≥0)) _ g) Q92 fun x19 g=>?_
 refine D.pq 5 (zl [13,14,15,16,17]) T ?_
 refine D.done (by kernel_rfl) ?_
 refine C.xs (C.ss (U.pd 2 T (C.nx ?_)))
 refine C.jn (fun (x22:Int)=>[(3,.i act),(4,.p 0 0),(5,.p 1 0),(8,.p 2 0),(9,.p 3 0),(10,.ep 5 6 (Int.toNat robot) 0),(11,.i x22)]) (fun x22=>[(0,.box (Q6 s_1)),(1,.box (Q1 st)),(2,.box [.i 0,vN,vN,vN,vN,vN]),(3,.box [.i x5.Tick,.o 4,.o 5,.o 6,.o 7,.o 8]),(4,.val (.os 1 eI x5.Shelves)),(5,.val (.os 6 Q0 x5.Robots)),(6,.val (.os 1 eI x5.People)),(7,.val (.os 1 eI x5.Dead)),(8,.val (.os 2 Q7 x5.Stuck))]) 9 g (fun x22 g=>?_) fun J23 g j23=>?_
 refine C.xt (U.ps 4 T rfl (U.e1 rfl (.none rfl) (by exact Eff1.se T (z':=({Cell:=x16.Cell,Load:=x16.Load,Charge:=x22,Rest:=x16.Rest,Mute:=x16.Mute,Dead:=x16.Dead:ApiRobot})) rfl rfl rfl (Qe y16).2.2 rfl rfl rfl rfl rfl rfl rfl rfl (fun _=>rfl) rfl) ?_))
 refine U.done (C.xs (C.ss (U.pd 1 T (C.nx (C.block (C.ss ?_))))))
 refine U.pd 2 T (C.nx ?_)
 refine C.jn (fun (x33:List ApiRobot)=>[(3,.i act),(4,.p 0 0),(8,.p 1 0),(9,.p 2 0),(10,.ep 4 6 (Int.toNat robot) 0)]) (fun x33=>[(0,.box (Q6 s_1)),(1,.box [.i 0,vN,vN,vN,vN,vN]),(2,.box [.i x5.Tick,.o 3,.o 4,.o 5,.o 6,.o 7]),(3,.val (.os 1 eI x5.Shelves)),(4,.val (.os 6 Q0 x33)),(5,.val (.os 1 eI x5.People)),(6,.val (.os 1 eI x5.Dead)),(7,.val (.os 2 Q7 x5.Stuck))]) 8 g (fun x33 g=>?_) fun J34 g j34=>?_
 refine C.bnx (C.xt (U.ps 1 T rfl (U.k (YY act _ g) Q8q (fun x48 g=>?_))))
 refine U.pd 5 T (C.xs (C.ss ?_))
 refine U.pd 2 T (C.nx ?_)
 refine C.ite rfl g (fun b51 g=>?_) fun b51 g=>?_
 refine C.ss (U.ps 1 T rfl (U.st T ?_))
 refine U.done (C.nx (C.ret (C.rt ?_)))
 exact C.g1 (sqR 3 5) T o ⟨({Tick:=x5.Tick,Shelves:=x5.Shelves,Robots:=x33,People:=x5.People,Dead:=x5.Dead,Stuck:=x5.Stuck:ApiState}),g,rfl,rfl,rfl⟩
 refine C.skip (C.xs (C.seq (D.bq mix 9999 [0,4] [] (fun hQ hS ws M'=>?_))))
 refine D.pq 5 (zl [0,1,2,3,4]) T ?_
 obtain⟨x56,y56,g⟩:=g
 refine D.q 5 [] hQ hS rfl (.none rfl) rfl rfl (by exact Rd.le T rfl rfl rfl (Qe y56).2.2 rfl rfl rfl) rfl (by kernel_rfl) ?_
 refine D.pq 1 [(6,[])] T ?_
 refine D.k 7 (Gx s_1.Floor x56.Cell x48.1 _ g) en24 fun x57 g=>?_
 refine D.pq 5 (zl [8,9,10,11,12]) T ?_
 refine D.done (by kernel_rfl) ?_
 refine C.xt (U.pd 1 T (C.nx ?_))
 refine C.jn (fun (x60:List Int×List ApiRobot)=>[(8,.p 0 0),(9,.p 1 0)]) (fun x60=>[(0,.box [.i 0,vN,vN,vN,vN,vN]),(1,.box [.i x5.Tick,.o 2,.o 3,.o 4,.o 5,.o 6]),(2,.val (.os 1 eI x60.1)),(3,.val (.os 6 Q0 x60.2)),(4,.val (.os 1 eI x5.People)),(5,.val (.os 1 eI x5.Dead)),(6,.val (.os 2 Q7 x5.Stuck))]) 7 g (fun x60 g=>?_) fun J61 g j61=>?_
 refine C.xt (U.ps 1 T rfl (U.st T ?_))
 refine U.done (C.nx (C.ret ?_))
 exact C.g1 (sqR 2 5) T o ⟨({Tick:=x5.Tick,Shelves:=x60.1,Robots:=x60.2,People:=x5.People,Dead:=x5.Dead,Stuck:=x5.Stuck:ApiState}),g,rfl,rfl,rfl⟩
 refine C.ite rfl g (fun b62 g=>?_) fun b62 g=>?_
 refine C.ss (U.ps 5 T rfl (U.k (Q2G s_1 x57.1 _ g) Q9K (fun x65 g=>?_)))
 refine U.ps 3 T rfl (U.e1 rfl (.none rfl) (by exact Eff1.se T (z':=({Cell:=x57.1,Load:=x56.Load,Charge:=x56.Charge,Rest:=x56.Rest,Mute:=x56.Mute,Dead:=x56.Dead:ApiRobot})) rfl rfl rfl (Qe y56).2.2 rfl rfl rfl rfl rfl rfl rfl rfl (fun _=>rfl) rfl) ?_)
 refine U.ps 2 T rfl ?_
 refine U.e1 rfl (.none rfl) (by exact Eff1.se T (z':=({Cell:=({Cell:=x57.1,Load:=x56.Load,Charge:=x56.Charge,Rest:=x56.Rest,Mute:=x56.Mute,Dead:=x56.Dead:ApiRobot}).Cell,Load:=({Cell:=x57.1,Load:=x56.Load,Charge:=x56.Charge,Rest:=x56.Rest,Mute:=x56.Mute,Dead:=x56.Dead:ApiRobot}).Load,Charge:=({Cell:=x57.1,Load:=x56.Load,Charge:=x56.Charge,Rest:=x56.Rest,Mute:=x56.Mute,Dead:=x56.Dead:ApiRobot}).Charge,Rest:=w64 (x65-1),Mute:=({Cell:=x57.1,Load:=x56.Load,Charge:=x56.Charge,Rest:=x56.Rest,Mute:=x56.Mute,Dead:=x56.Dead:ApiRobot}).Mute,Dead:=({Cell:=x57.1,Load:=x56.Load,Charge:=x56.Charge,Rest:=x56.Rest,Mute:=x56.Mute,Dead:=x56.Dead:ApiRobot}).Dead:ApiRobot})) rfl rfl rfl (Ge (Qe y56).2.2) rfl rfl rfl rfl rfl rfl rfl rfl (fun _=>rfl) rfl) ?_
 refine U.done (C.xt (U.ps 3 T rfl (U.r rfl (.none rfl) rfl rfl (by exact Rd.le T rfl rfl rfl (Ge (Ge (Qe y56).2.2)) rfl rfl rfl) ?_)))
 refine U.pd 1 T (C.nx ?_)
 refine C.jn (fun (x68:List Int)=>[(8,.p 0 0),(9,.p 1 0)]) (fun x68=>[(0,.box [.i 0,vN,vN,vN,vN,vN]),(1,.box [.i x5.Tick,.o 2,.o 3,.o 4,.o 5,.o 6]),(2,.val (.os 1 eI x68)),(3,.val (.os 6 Q0 ((x33.set (Int.toNat robot) ({Cell:=x57.1,Load:=x56.Load,Charge:=x56.Charge,Rest:=x56.Rest,Mute:=x56.Mute,Dead:=x56.Dead:ApiRobot})).set (Int.toNat robot) ({Cell:=({Cell:=x57.1,Load:=x56.Load,Charge:=x56.Charge,Rest:=x56.Rest,Mute:=x56.Mute,Dead:=x56.Dead:ApiRobot}).Cell,Load:=({Cell:=x57.1,Load:=x56.Load,Charge:=x56.Charge,Rest:=x56.Rest,Mute:=x56.Mute,Dead:=x56.Dead:ApiRobot}).Load,Charge:=({Cell:=x57.1,Load:=x56.Load,Charge:=x56.Charge,Rest:=x56.Rest,Mute:=x56.Mute,Dead:=x56.Dead:ApiRobot}).Charge,Rest:=w64 (x65-1),Mute:=({Cell:=x57.1,Load:=x56.Load,Charge:=x56.Charge,Rest:=x56.Rest,Mute:=x56.Mute,Dead:=x56.Dead:ApiRobot}).Mute,Dead:=({Cell:=x57.1,Load:=x56.Load,Charge:=x56.Charge,Rest:=x56.Rest,Mute:=x56.Mute,Dead:=x56.Dead:ApiRobot}).Dead:ApiRobot})))),(4,.val (.os 1 eI x5.People)),(5,.val (.os 1 eI x5.Dead)),(6,.val (.os 2 Q7 x5.Stuck))]) 7 g (fun x68 g=>?_) fun J69 g j69=>?_
 exact St.wa (idR 7) (j61 _ g)
 refine C.ite rfl g (fun b70 g=>?_) fun b70 g=>?_
 refine D.bq mix 8 [2,4] [] (fun hQ hS ws M'=>?_)
 refine D.pq 5 (zl [0,1,2,3,4]) T ?_
 refine D.q 5 [] hQ hS rfl (.none rfl) rfl rfl (by exact Rd.le T rfl rfl rfl (Ge (Ge (Qe y56).2.2)) rfl rfl rfl) rfl (by kernel_rfl) ?_
 refine D.pq 1 [(6,[])] T ?_
 obtain⟨x73,y73,g⟩:=g
 refine D.q 7 [] hQ hS rfl (.none rfl) rfl rfl (by exact Rd.io T rfl rfl rfl rfl rfl rfl rfl y73) rfl (by kernel_rfl) ?_
 refine D.ze1 rfl (.none rfl) (by exact Eff1.se T (z':=x57.1) rfl rfl rfl (Qe y73).2.2 rfl rfl rfl rfl rfl rfl rfl rfl (fun _=>rfl) rfl) (by kernel_rfl) (by kernel_rfl) ?_
 exact St.wa (sqR 1 7) (j69 _ g)
 refine C.skip ?_
 exact St.wa (sqR 1 7) (j69 _ g)
 refine C.skip ?_
 exact St.wa (sqR 1 7) (j61 _ g)
 refine C.ite rfl g (fun b35 g=>?_) fun b35 g=>?_
 refine D.bq mix 10 [0,1,5] [] (fun hQ hS ws M'=>?_)
 refine D.pq 6 (zl [0,1,2,3,4,5]) T ?_
 refine D.q 6 [] hQ hS rfl (.none rfl) rfl rfl (by exact Rd.le T rfl rfl rfl (Ge (Qe y16).2.2) rfl rfl rfl) rfl (by kernel_rfl) ?_
 refine D.k 7 (Q26 s_1 st (({Cell:=x16.Cell,Load:=x16.Load,Charge:=x22,Rest:=x16.Rest,Mute:=x16.Mute,Dead:=x16.Dead:ApiRobot}).Cell) _ g) Q9n fun x38 g=>?_
 refine D.pq 2 [(8,[9]),(9,[])] T ?_
 refine D.ze1 rfl (.none rfl) (by exact Eff1.se T (z':=({Cell:=({Cell:=x16.Cell,Load:=x16.Load,Charge:=x22,Rest:=x16.Rest,Mute:=x16.Mute,Dead:=x16.Dead:ApiRobot}).Cell,Load:=x38,Charge:=({Cell:=x16.Cell,Load:=x16.Load,Charge:=x22,Rest:=x16.Rest,Mute:=x16.Mute,Dead:=x16.Dead:ApiRobot}).Charge,Rest:=({Cell:=x16.Cell,Load:=x16.Load,Charge:=x22,Rest:=x16.Rest,Mute:=x16.Mute,Dead:=x16.Dead:ApiRobot}).Rest,Mute:=({Cell:=x16.Cell,Load:=x16.Load,Charge:=x22,Rest:=x16.Rest,Mute:=x16.Mute,Dead:=x16.Dead:ApiRobot}).Mute,Dead:=({Cell:=x16.Cell,Load:=x16.Load,Charge:=x22,Rest:=x16.Rest,Mute:=x16.Mute,Dead:=x16.Dead:ApiRobot}).Dead:ApiRobot})) rfl rfl rfl (Ge (Qe y16).2.2) rfl rfl rfl rfl rfl rfl rfl rfl (fun _=>rfl) rfl) (by kernel_rfl) (by kernel_rfl) ?_
 exact St.wa [some 0,some 2,some 3,some 4,some 5,some 6,some 7,some 8] (j34 _ g)
 refine C.ss (U.pd 2 T (C.nx ?_))
 refine C.jn (fun (x41:List ApiRobot)=>[(3,.i act),(4,.p 0 0),(8,.p 1 0),(9,.p 2 0),(10,.ep 4 6 (Int.toNat robot) 0)]) (fun x41=>[(0,.box (Q6 s_1)),(1,.box [.i 0,vN,vN,vN,vN,vN]),(2,.box [.i x5.Tick,.o 3,.o 4,.o 5,.o 6,.o 7]),(3,.val (.os 1 eI x5.Shelves)),(4,.val (.os 6 Q0 x41)),(5,.val (.os 1 eI x5.People)),(6,.val (.os 1 eI x5.Dead)),(7,.val (.os 2 Q7 x5.Stuck))]) 8 g (fun x41 g=>?_) fun J42 g j42=>?_
 exact St.wa (idR 8) (j34 _ g)
 refine C.ite rfl g (fun b43 g=>?_) fun b43 g=>?_
 refine U.start (U.ps 3 T rfl ?_)
 refine U.e1 rfl (.none rfl) (by exact Eff1.se T (z':=({Cell:=({Cell:=x16.Cell,Load:=x16.Load,Charge:=x22,Rest:=x16.Rest,Mute:=x16.Mute,Dead:=x16.Dead:ApiRobot}).Cell,Load:=(-1),Charge:=({Cell:=x16.Cell,Load:=x16.Load,Charge:=x22,Rest:=x16.Rest,Mute:=x16.Mute,Dead:=x16.Dead:ApiRobot}).Charge,Rest:=({Cell:=x16.Cell,Load:=x16.Load,Charge:=x22,Rest:=x16.Rest,Mute:=x16.Mute,Dead:=x16.Dead:ApiRobot}).Rest,Mute:=({Cell:=x16.Cell,Load:=x16.Load,Charge:=x22,Rest:=x16.Rest,Mute:=x16.Mute,Dead:=x16.Dead:ApiRobot}).Mute,Dead:=({Cell:=x16.Cell,Load:=x16.Load,Charge:=x22,Rest:=x16.Rest,Mute:=x16.Mute,Dead:=x16.Dead:ApiRobot}).Dead:ApiRobot})) rfl rfl rfl (Ge (Qe y16).2.2) rfl rfl rfl rfl rfl rfl rfl rfl (fun _=>rfl) rfl) ?_
 refine U.done ?_
 exact St.wa [some 0,some 2,some 3,some 4,some 5,some 6,some 7,some 8] (j42 _ g)
 refine C.skip ?_
 exact St.wa [some 0,some 2,some 3,some 4,some 5,some 6,some 7,some 8] (j42 _ g)
 refine C.ite rfl g (fun b24 g=>?_) fun b24 g=>?_
 refine U.start (U.pd 1 T ?_)
 exact St.wa (idR 9) (j23 _ g)
 refine C.skip ?_
 exact St.wa (idR 9) (j23 _ g)
 refine U.start (U.ps 3 T rfl ?_)
 refine g.cs (fun b8 g=>?_) fun b8 g=>?_
 refine U.sk' 5 2 false 21 b8 ?_
 refine U.pk b8 ?_
 refine U.ps 1 T rfl (U.sk' 6 9 false 28 rfl ?_)
 refine U.pk rfl ?_
 refine U.done ?_
 exact St.wa [some 0,some 1,some 2,some 8,some 3,some 4,some 5,some 6,some 7] (j7 _ g)
 refine U.pq 5 2 false 21 b8 T ?_
 refine U.pk' b8 ?_
 refine U.ps 1 T rfl ?_
 refine g.cs (fun b9 g=>?_) fun b9 g=>?_
 refine U.sk' 6 9 false 28 b9 ?_
 refine U.pk b9 ?_
 refine U.done ?_
 exact St.wa [some 0,some 1,some 2,some 8,some 3,some 4,some 5,some 6,some 7] (j7 _ g)
 refine U.pq 3 9 false 28 b9 T ?_
 obtain⟨x10,y10,g⟩:=g
 refine U.r rfl (.tk 9 false 28 b9) rfl rfl (by exact Rd.io T rfl rfl rfl rfl rfl rfl rfl y10) ?_
 refine U.pq 1 9 false 28 b9 T ?_
 refine U.r rfl (.tk 9 false 28 b9) rfl rfl (by exact Rd.le T rfl rfl rfl (Qe y10).2.2 rfl rfl rfl) ?_
 refine U.pk' b9 ?_
 refine U.done ?_
 exact St.wa [some 0,some 1,some 2,some 8,some 3,some 4,some 5,some 6,some 7] (j7 _ g)
theorem Q2p (s_1:ApiSite) (st:ApiState) (acts:List Int) (post:Int→Prop) (g:GG s_1 st acts post):
  Tr Tryz.prog 65 [.agg (Q6 s_1),.agg (Q1 st),.sl 1 eI acts] [] 0 (pI post):=by
 refine Tr.go Tryz.func65 Tryz.ntmps65 fun _ _ _ _ o=>?_
 unfold GG at g
 refine C.ss (U.bx ?_)
 refine U.bx ?_
 refine U.pd 1 T (C.xs (C.block (C.ss ?_)))
 refine U.pd 4 T (C.nx ?_)
 refine C.ite rfl g (fun b5 g=>?_) fun b5 g=>?_
 refine C.ss (U.pd 1 T (C.nx (C.ret (C.brt (C.rt ?_)))))
 exact C.f1 T o (pIi g)
 refine C.ss (U.pd 7 T (C.nx ?_))
 refine C.ite rfl g (fun b10 g=>?_) fun b10 g=>?_
 refine C.ss (U.pd 1 T (C.nx (C.ret (C.brt (C.rt ?_)))))
 exact C.f1 T o (pIi g)
 refine C.skip (C.bnx (C.xs (C.ss (U.pd 3 T (C.nx ?_)))))
 refine C.jn (fun (x15:Unit)=>[(2,.sl 1 eI acts),(3,.p 0 0),(4,.p 1 0)]) (fun x15=>[(0,.box (Q6 s_1)),(1,.box (Q1 st))]) 2 g (fun x15 g=>?_) fun J16 g j16=>?_
 refine C.xs (C.ss (U.ps 4 T rfl (U.k (Q2O s_1.Floor st acts _ g) Q9W (fun x37 g=>?_))))
 refine U.k (Q0J x37 _ g) en48 fun x38 g=>?_
 refine U.pd 5 T (C.xt ?_)
 refine U.pd 1 T (C.nx ?_)
 refine C.ite rfl g (fun b41 g=>?_) fun b41 g=>?_
 refine C.ss (U.pd 1 T (C.nx (C.ret (C.rt ?_))))
 exact C.f1 T o (pIi g)
 refine C.skip (C.xs (C.ss (U.pd 3 T (C.nx ?_))))
 refine C.jn (fun (x46:Unit)=>[]) (fun x46=>[]) 0 g (fun x46 g=>?_) fun J47 g j47=>?_
 refine C.xt (U.pd 1 T (C.nx (C.ret ?_)))
 exact C.f1 T o (pIi g)
 refine C.block ?_
 refine St.wk (C.loop (fun (s48:Int×List Int×List ApiRobot×List Int×List Int×List ApiStuck×Int)=>[(3,.p 0 0),(4,.p 1 0),(52,.sl 1 eI acts),(53,.i (acts.length:Int)),(54,.i s48.2.2.2.2.2.2)]) (fun s48=>[(0,.box (Q6 s_1)),(1,.box [.i s48.1,.sl 1 eI s48.2.1,.sl 6 Q0 s48.2.2.1,.sl 1 eI s48.2.2.2.1,.sl 1 eI s48.2.2.2.2.1,.sl 2 Q7 s48.2.2.2.2.2.1])]) g (fun s48 Y49 g=>?_)) (Wk.a (idR 2))
 refine C.ss (U.pd 1 T (C.xs ?_))
 refine C.ite rfl g (fun b52 g=>?_) fun b52 g=>?_
 refine C.skip (C.xs (C.block (C.ss (U.ps 1 T rfl ?_))))
 obtain⟨x55,y55,g⟩:=g
 refine U.ix T y55 ?_
 refine U.pd 3 T (C.xs (C.ss ?_))
 refine U.ps 4 T rfl (U.k (ZE s_1 ({Tick:=s48.1,Shelves:=s48.2.1,Robots:=s48.2.2.1,People:=s48.2.2.2.1,Dead:=s48.2.2.2.2.1,Stuck:=s48.2.2.2.2.2.1:ApiState}) s48.2.2.2.2.2.2 x55 _ g) en68 (fun x58 g=>?_))
 refine U.pd 1 T (C.xt ?_)
 refine U.pd 2 T (C.nx ?_)
 refine C.ite rfl g (fun b61 g=>?_) fun b61 g=>?_
 refine C.ss (U.pd 2 T (C.nx (C.ret (C.rt (C.brt (C.rt (C.rt (C.brt (C.rt ?_)))))))))
 exact C.f1 T o (pIi g)
 refine C.skip (C.nx (U.start (U.ps 4 T rfl (U.k (Q4J s_1 ({Tick:=s48.1,Shelves:=s48.2.1,Robots:=s48.2.2.1,People:=s48.2.2.2.1,Dead:=s48.2.2.2.2.1,Stuck:=s48.2.2.2.2.2.1:ApiState}) s48.2.2.2.2.2.2 x55 _ g) en69 (fun x66 g=>?_)))))
 refine U.st T ?_
 refine U.done (C.bnx (C.nx (U.start (U.pd 2 T (C.nx ?_)))))
 exact St.wk (C.next g) (Wk.mk' [some 0,some 1] rfl rfl (.eqs rfl) ⟨bX,⟨_,rfl,.box rfl (.cons (.eq rfl) (.cons (.fz rfl rfl rfl (.os fun _=>.cons (.ro rfl) .nil)) (.cons (.fz rfl rfl rfl (.os fun _=>.cons (.ro rfl) (.cons (.ro rfl) (.cons (.ro rfl) (.cons (.ro rfl) (.cons (.ro rfl) (.cons (.ro rfl) .nil))))))) (.cons (.fz rfl rfl rfl (.os fun _=>.cons (.ro rfl) .nil)) (.cons (.fz rfl rfl rfl (.os fun _=>.cons (.ro rfl) .nil)) (.cons (.fz rfl rfl rfl (.os fun _=>.cons (.ro rfl) (.cons (.ro rfl) .nil))) .nil))))))⟩,trivial⟩ rfl)
 refine C.exit (C.ex (C.ex (C.bex ?_)))
 exact St.wk (j47 _ g) (Wk.mk' [] rfl rfl trivial trivial rfl)
 refine C.block (St.wk (C.loop (fun (s17:Int)=>[(2,.sl 1 eI acts),(3,.p 0 0),(4,.p 1 0),(26,.sl 1 eI acts),(27,.i (acts.length:Int)),(28,.i s17)]) (fun s17=>[(0,.box (Q6 s_1)),(1,.box (Q1 st))]) g (fun s17 Y18 g=>?_)) (Wk.a (idR 2)))
 refine C.ss (U.pd 1 T (C.xs ?_))
 refine C.ite rfl g (fun b21 g=>?_) fun b21 g=>?_
 refine C.skip (C.xs (C.block (C.ss (U.ps 1 T rfl ?_))))
 obtain⟨x24,y24,g⟩:=g
 refine U.ix T y24 ?_
 refine U.pd 3 T (C.xt ?_)
 refine U.ps 4 T rfl (U.k (ZE s_1 st s17 x24 _ g) en68 (fun x27 g=>?_))
 refine U.pd 1 T (C.xt ?_)
 refine U.pd 2 T (C.nx ?_)
 refine C.ite rfl g (fun b30 g=>?_) fun b30 g=>?_
 refine C.ss (U.pd 2 T (C.nx (C.ret (C.brt (C.rt (C.rt (C.brt (C.rt ?_))))))))
 exact C.f1 T o (pIi g)
 refine C.skip (C.bnx (C.nx (U.start (U.pd 2 T (C.nx ?_)))))
 exact St.wk (C.next g) (Wk.a (idR 2))
 refine C.exit (C.ex (C.ex (C.bex ?_)))
 exact St.wa (idR 2) (j16 _ g)
theorem Q0D (st:ApiState) (i:Int) (post:Bool→Prop) (g:Gw st i post):
  Tr Tryz.prog 106 [.agg (Q1 st),.i i] [] 0 (pB post):=by
 refine Tr.go Tryz.func106 Tryz.ntmps106 fun _ _ _ _ o=>?_
 unfold Gw at g
 refine C.ss (U.bx ?_)
 refine U.pd 1 T (C.xs ?_)
 refine C.jn (fun (x3:Bool)=>[(4,.b x3)]) (fun x3=>[]) 0 g (fun x3 g=>?_) fun J4 g j4=>?_
 refine C.nx (C.ret ?_)
 exact C.f1 T o (pBi g)
 refine U.start (U.ps 3 T rfl ?_)
 refine g.cs (fun b5 g=>?_) fun b5 g=>?_
 refine U.pq 5 2 true 7 b5 T ?_
 refine U.pk b5 ?_
 refine U.ps 1 T rfl ?_
 refine g.cs (fun b6 g=>?_) fun b6 g=>?_
 refine U.pq 3 9 true 14 b6 T ?_
 obtain⟨x7,y7,g⟩:=g
 refine U.r rfl (.tk 9 true 14 b6) rfl rfl (by exact Rd.ix T rfl rfl rfl rfl rfl rfl y7) ?_
 refine U.pq 3 9 true 14 b6 T ?_
 refine U.pk b6 ?_
 refine U.pd 1 T ?_
 exact St.wn (j4 _ g)
 refine U.sk' 7 9 true 14 b6 ?_
 refine U.pk' b6 ?_
 refine U.pd 1 T ?_
 exact St.wn (j4 _ g)
 refine U.sk' 5 2 true 7 b5 ?_
 refine U.pk' b5 ?_
 refine U.ps 1 T rfl (U.sk' 7 9 true 14 rfl ?_)
 refine U.pk' rfl ?_
 refine U.pd 1 T ?_
 exact St.wn (j4 _ g)
theorem YV (f:ApiFloor) (c:Int) (post:Int→Prop) (g:XZ f c post):
  Tr Tryz.prog 107 [.agg (Qc f),.i c] [] 0 (pI post):=by
 refine Tr.go Tryz.func107 Tryz.ntmps107 fun _ _ _ _ o=>?_
 unfold XZ at g
 refine C.ss (U.bx ?_)
 refine U.pd 1 T (C.xs (C.seq ?_))
 refine C.jn (fun (x3:Bool)=>[(1,.i c),(2,.p 0 0),(13,.b x3)]) (fun x3=>[(0,.box (Qc f))]) 1 g (fun x3 g=>?_) fun J4 g j4=>?_
 refine C.nx ?_
 refine C.ite rfl g (fun b6 g=>?_) fun b6 g=>?_
 refine C.ss (U.pd 1 T (C.nx (C.ret (C.rt ?_))))
 exact C.f1 T o (pIi g)
 refine C.skip (C.xt (U.ps 3 T rfl ?_))
 obtain⟨x11,y11,g⟩:=g
 refine U.ix T y11 ?_
 refine U.pd 2 T (C.nx (C.ret ?_))
 exact C.f1 T o (pIi g)
 refine U.start (U.ps 3 T rfl ?_)
 refine g.cs (fun b5 g=>?_) fun b5 g=>?_
 refine U.sk' 5 2 false 7 b5 ?_
 refine U.pk b5 ?_
 refine U.done ?_
 exact St.wa [some 0] (j4 _ g)
 refine U.pq 5 2 false 7 b5 T ?_
 refine U.pk' b5 ?_
 refine U.done ?_
 exact St.wa [some 0] (j4 _ g)
theorem Q2U (s_1:ApiSite) (st:ApiState) (person:Int) (c:Int) (post:Bool→Prop) (g:GC s_1 st person c post):
  Tr Tryz.prog 108 [.agg (Q6 s_1),.agg (Q1 st),.i person,.i c] [] 0 (pB post):=by
 refine Tr.go Tryz.func108 Tryz.ntmps108 fun _ _ _ _ o=>?_
 unfold GC at g
 refine C.ss (U.bx ?_)
 refine U.bx ?_
 refine U.pd 1 T (C.xt ?_)
 refine U.ps 3 T rfl (U.k (YV s_1.Floor c _ g) Q8h (fun x5 g=>?_))
 refine U.pd 1 T (C.xs (C.seq ?_))
 refine C.jn (fun (x6:Bool)=>[(2,.i person),(3,.i c),(4,.p 0 0),(5,.p 1 0),(9,.i x5),(21,.b x6)]) (fun x6=>[(0,.box (Q6 s_1)),(1,.box (Q1 st))]) 2 g (fun x6 g=>?_) fun J7 g j7=>?_
 refine C.nx ?_
 refine C.ite rfl g (fun b9 g=>?_) fun b9 g=>?_
 refine C.ss (U.pd 1 T (C.nx (C.ret (C.rt ?_))))
 exact C.f1 T o (pBi g)
 refine C.skip (C.xs (C.ss (U.ps 1 T rfl (U.k (Q2n st _ g) Q8I (fun x14 g=>?_)))))
 refine U.pd 2 T (C.nx ?_)
 refine C.jn (fun (x15:Unit)=>[(2,.i person),(3,.i c),(4,.p 0 0),(5,.p 1 0),(9,.i x5)]) (fun x15=>[(0,.box (Q6 s_1)),(1,.box (Q1 st))]) 2 g (fun x15 g=>?_) fun J16 g j16=>?_
 refine C.xs (C.ss (U.pd 5 T (C.nx ?_)))
 refine C.ite rfl g (fun b37 g=>?_) fun b37 g=>?_
 refine C.seq ?_
 refine C.jn (fun (x38:Bool)=>[(8,.b x38)]) (fun x38=>[]) 0 g (fun x38 g=>?_) fun J39 g j39=>?_
 refine C.nx (C.ret (C.rt ?_))
 exact C.f1 T o (pBi g)
 refine U.start (U.ps 3 T rfl ?_)
 refine g.cs (fun b40 g=>?_) fun b40 g=>?_
 refine U.pq 2 2 true 47 b40 T ?_
 refine U.pk b40 ?_
 refine U.pd 1 T ?_
 exact St.wn (j39 _ g)
 refine U.sk' 2 2 true 47 b40 ?_
 refine U.pk' b40 ?_
 refine U.pd 1 T ?_
 exact St.wn (j39 _ g)
 refine C.skip (C.xs ?_)
 refine C.jn (fun (x41:Bool)=>[(8,.b x41)]) (fun x41=>[]) 0 g (fun x41 g=>?_) fun J42 g j42=>?_
 refine C.nx (C.ret ?_)
 exact C.f1 T o (pBi g)
 refine D.bq mix 9999 [0,1] [] (fun hQ hS ws M'=>?_)
 refine D.pq 3 (zl [0,1,2]) T ?_
 refine g.cs (fun b43 g=>?_) fun b43 g=>?_
 refine D.pt 3 [] 2 true 53 b43 T ?_
 refine D.pt 4 [] 2 true 53 b43 T ?_
 refine D.q 5 [] hQ hS rfl (.tk 2 true 53 b43) rfl rfl (by exact Rd.l T rfl rfl rfl) rfl (by kernel_rfl) ?_
 refine D.pt 6 [] 2 true 53 b43 T ?_
 refine D.pt 7 [] 2 true 53 b43 T ?_
 refine D.kt 8 [] b43 ?_
 refine D.pq 1 [(9,[])] T ?_
 refine g.cs (fun b44 g=>?_) fun b44 g=>?_
 refine D.pt 10 [] 9 true 60 b44 T ?_
 refine D.q 11 [] hQ hS rfl (.tk 9 true 60 b44) rfl rfl (by exact Rd.l T rfl rfl rfl) rfl (by kernel_rfl) ?_
 refine D.pt 12 [] 9 true 60 b44 T ?_
 refine D.q 13 [] hQ hS rfl (.tk 9 true 60 b44) rfl rfl (by exact Rd.l T rfl rfl rfl) rfl (by kernel_rfl) ?_
 refine D.pt 14 [] 9 true 60 b44 T ?_
 obtain⟨x45,y45,g⟩:=g
 refine D.q 15 [] hQ hS rfl (.tk 9 true 60 b44) rfl rfl (by exact Rd.ix T rfl rfl rfl rfl rfl rfl y45) rfl (by kernel_rfl) ?_
 refine D.q 16 [] hQ hS rfl (.tk 9 true 60 b44) rfl rfl (by exact Rd.l T rfl rfl rfl) rfl (by kernel_rfl) ?_
 refine D.pt 17 [] 9 true 60 b44 T ?_
 refine D.k 18 (Q0H s_1.Floor x45 c _ g) Q96 (fun x46 g=>?_) (hw:=.take 9 true 60 _ b44 rfl rfl rfl)
 refine D.kt 19 [] b44 ?_
 refine D.pq 1 [(20,[])] T ?_
 refine D.done (by kernel_rfl) ?_
 exact St.wn (j42 _ g)
 refine D.sz 10 [] 9 true 60 b44 ?_
 refine D.sz 11 [] 9 true 60 b44 ?_
 refine D.sz 12 [] 9 true 60 b44 ?_
 refine D.sz 13 [] 9 true 60 b44 ?_
 refine D.sz 14 [] 9 true 60 b44 ?_
 refine D.sz 15 [] 9 true 60 b44 ?_
 refine D.sz 16 [] 9 true 60 b44 ?_
 refine D.sz 17 [] 9 true 60 b44 ?_
 refine D.sz 18 [] 9 true 60 b44 ?_
 refine D.kf 19 [] b44 ?_
 refine D.pq 1 [(20,[])] T ?_
 refine D.done (by kernel_rfl) ?_
 exact St.wn (j42 _ g)
 refine D.sz 3 [] 2 true 53 b43 ?_
 refine D.sz 4 [] 2 true 53 b43 ?_
 refine D.sz 5 [] 2 true 53 b43 ?_
 refine D.sz 6 [] 2 true 53 b43 ?_
 refine D.sz 7 [] 2 true 53 b43 ?_
 refine D.kf 8 [] b43 ?_
 refine D.pq 1 [(9,[])] T ?_
 refine D.sz 10 [] 9 true 60 rfl ?_
 refine D.sz 11 [] 9 true 60 rfl ?_
 refine D.sz 12 [] 9 true 60 rfl ?_
 refine D.sz 13 [] 9 true 60 rfl ?_
 refine D.sz 14 [] 9 true 60 rfl ?_
 refine D.sz 15 [] 9 true 60 rfl ?_
 refine D.sz 16 [] 9 true 60 rfl ?_
 refine D.sz 17 [] 9 true 60 rfl ?_
 refine D.sz 18 [] 9 true 60 rfl ?_
 refine D.kf 19 [] rfl ?_
 refine D.pq 1 [(20,[])] T ?_
 refine D.done (by kernel_rfl) ?_
 exact St.wn (j42 _ g)
 refine C.block (St.wk (C.loop (fun (s17:Int)=>[(2,.i person),(3,.i c),(4,.p 0 0),(5,.p 1 0),(9,.i x5),(23,.o 2),(24,.i (x14.length:Int)),(25,.i s17)]) (fun s17=>[(0,.box (Q6 s_1)),(1,.box (Q1 st)),(2,.val (.os 1 eI x14))]) g (fun s17 Y18 g=>?_)) (Wk.a (idR 3)))
 refine C.ss (U.pd 1 T (C.xs ?_))
 refine C.ite rfl g (fun b21 g=>?_) fun b21 g=>?_
 refine C.skip (C.xs (C.block (C.ss ?_)))
 obtain⟨x24,y24,g⟩:=g
 refine U.r rfl (.none rfl) rfl rfl (by exact Rd.io T rfl rfl rfl rfl rfl rfl rfl y24) ?_
 refine U.r rfl (.none rfl) rfl rfl (by exact Rd.le T rfl rfl rfl (Qe y24).2.2 rfl rfl rfl) ?_
 refine U.pd 1 T (C.xs ?_)
 refine C.jn (fun (x25:Bool)=>[(2,.i person),(3,.i c),(4,.p 0 0),(5,.p 1 0),(9,.i x5),(23,.o 2),(24,.i (x14.length:Int)),(25,.i s17),(38,.b x25)]) (fun x25=>[(0,.box (Q6 s_1)),(1,.box (Q1 st)),(2,.val (.os 1 eI x14))]) 3 g (fun x25 g=>?_) fun J26 g j26=>?_
 refine C.nx ?_
 refine C.ite rfl g (fun b30 g=>?_) fun b30 g=>?_
 refine C.ss (U.pd 1 T (C.nx (C.ret (C.brt (C.rt (C.rt (C.brt (C.rt ?_))))))))
 exact C.f1 T o (pBi g)
 refine C.skip (C.bnx (C.nx (U.start (U.pd 2 T (C.nx ?_)))))
 exact St.wk (C.next g) (Wk.a (idR 3))
 refine U.start (U.ps 2 T rfl (U.k (Y1 c _ g) Q5V (fun x27 g=>?_)))
 refine U.ps 2 T rfl ?_
 refine g.cs (fun b28 g=>?_) fun b28 g=>?_
 refine U.sk' 4 4 false 33 b28 ?_
 refine U.pk b28 ?_
 refine U.done ?_
 exact St.wa (idR 3) (j26 _ g)
 refine U.pq 2 4 false 33 b28 T ?_
 refine U.k (Wo c _ g) Q6B (fun x29 g=>?_) (hw:=.take 4 false 33 _ b28 rfl rfl rfl)
 refine U.pq 1 4 false 33 b28 T ?_
 refine U.pk' b28 ?_
 refine U.done ?_
 exact St.wa (idR 3) (j26 _ g)
 refine C.exit (C.ex (C.ex (C.bex ?_)))
 exact St.wa (idR 2) (j16 _ g)
 refine U.start (U.ps 3 T rfl ?_)
 refine g.cs (fun b8 g=>?_) fun b8 g=>?_
 refine U.pq 2 2 true 18 b8 T ?_
 refine U.pk b8 ?_
 refine U.done ?_
 exact St.wa (idR 2) (j7 _ g)
 refine U.sk' 2 2 true 18 b8 ?_
 refine U.pk' b8 ?_
 refine U.done ?_
 exact St.wa (idR 2) (j7 _ g)
theorem Yw (s_1:ApiSite) (st:ApiState) (f:QV) (post:Int→Prop) (g:X5 s_1 st f post):
  Tr Tryz.prog 66 [.agg (Q6 s_1),.agg (Q1 st),.agg (Z1 f)] [] 0 (pI post):=by
 refine Tr.go Tryz.func66 Tryz.ntmps66 fun _ _ _ _ o=>?_
 unfold X5 at g
 refine C.ss (U.bx ?_)
 refine U.bx ?_
 refine U.bx ?_
 refine U.pd 1 T (C.xt ?_)
 refine U.pd 1 T (C.xs ?_)
 refine C.jn (fun (x5:Bool)=>[(3,.p 0 0),(4,.p 1 0),(5,.p 2 0),(7,.b false),(8,.b x5)]) (fun x5=>[(0,.box (Q6 s_1)),(1,.box (Q1 st)),(2,.box (Z1 f))]) 3 g (fun x5 g=>?_) fun J6 g j6=>?_
 refine C.xs (C.ss (U.pd 2 T (C.nx (C.block (C.ss ?_)))))
 refine U.pd 2 T (C.nx ?_)
 refine C.jn (fun (x12:Bool)=>[(7,.b x12)]) (fun x12=>[]) 0 g (fun x12 g=>?_) fun J13 g j13=>?_
 refine C.bnx (C.xs (C.ss (U.pd 2 T (C.nx ?_))))
 refine C.ite rfl g (fun b63 g=>?_) fun b63 g=>?_
 refine C.ss (U.pd 1 T (C.nx (C.ret (C.rt ?_))))
 exact C.f1 T o (pIi g)
 refine C.skip (C.xt (U.pd 1 T (C.nx (C.ret ?_))))
 exact C.f1 T o (pIi g)
 refine C.ite rfl g (fun b14 g=>?_) fun b14 g=>?_
 refine U.start (U.pd 1 T ?_)
 exact St.wn (j13 _ g)
 refine C.ss (U.pd 2 T (C.nx ?_))
 refine C.jn (fun (x19:Bool)=>[(7,.b x19)]) (fun x19=>[]) 0 g (fun x19 g=>?_) fun J20 g j20=>?_
 exact St.wn (j13 _ g)
 refine C.ite rfl g (fun b21 g=>?_) fun b21 g=>?_
 refine U.start (U.ps 3 T rfl (U.k (Q0D st f.A _ g) Q8t (fun x24 g=>?_)))
 refine U.pd 1 T ?_
 exact St.wn (j20 _ g)
 refine C.ss (U.pd 2 T (C.nx ?_))
 refine C.jn (fun (x27:Bool)=>[(7,.b x27)]) (fun x27=>[]) 0 g (fun x27 g=>?_) fun J28 g j28=>?_
 exact St.wn (j20 _ g)
 refine C.ite rfl g (fun b29 g=>?_) fun b29 g=>?_
 refine C.jn (fun (x30:Bool)=>[(7,.b x30)]) (fun x30=>[]) 0 g (fun x30 g=>?_) fun J31 g j31=>?_
 exact St.wn (j28 _ g)
 refine U.start (U.ps 4 T rfl (U.k (YV s_1.Floor f.A _ g) Q8h (fun x32 g=>?_)))
 refine U.ps 2 T rfl ?_
 refine g.cs (fun b33 g=>?_) fun b33 g=>?_
 refine U.pq 4 6 true 35 b33 T ?_
 refine U.k (QL st.Dead f.A _ g) en54 (fun x34 g=>?_) (hw:=.take 6 true 35 _ b33 rfl rfl rfl)
 refine U.pq 1 6 true 35 b33 T ?_
 refine U.pk b33 ?_
 refine U.pd 1 T ?_
 exact St.wn (j31 _ g)
 refine U.sk' 6 6 true 35 b33 ?_
 refine U.pk' b33 ?_
 refine U.pd 1 T ?_
 exact St.wn (j31 _ g)
 refine C.ss (U.pd 2 T (C.nx ?_))
 refine C.jn (fun (x37:Bool)=>[(7,.b x37)]) (fun x37=>[]) 0 g (fun x37 g=>?_) fun J38 g j38=>?_
 exact St.wn (j28 _ g)
 refine C.ite rfl g (fun b39 g=>?_) fun b39 g=>?_
 refine C.jn (fun (x40:Bool)=>[(7,.b x40)]) (fun x40=>[]) 0 g (fun x40 g=>?_) fun J41 g j41=>?_
 exact St.wn (j38 _ g)
 refine U.start (U.ps 3 T rfl (U.k (Q0D st f.A _ g) Q8t (fun x42 g=>?_)))
 refine U.ps 1 T rfl ?_
 refine g.cs (fun b43 g=>?_) fun b43 g=>?_
 refine U.pq 1 4 true 49 b43 T ?_
 refine U.pk b43 ?_
 refine U.pd 1 T ?_
 exact St.wn (j41 _ g)
 refine U.sk' 1 4 true 49 b43 ?_
 refine U.pk' b43 ?_
 refine U.pd 1 T ?_
 exact St.wn (j41 _ g)
 refine C.ss (U.pd 2 T (C.nx ?_))
 refine C.jn (fun (x46:Bool)=>[(7,.b x46)]) (fun x46=>[]) 0 g (fun x46 g=>?_) fun J47 g j47=>?_
 exact St.wn (j38 _ g)
 refine C.ite rfl g (fun b48 g=>?_) fun b48 g=>?_
 refine C.jn (fun (x49:Bool)=>[(7,.b x49)]) (fun x49=>[]) 0 g (fun x49 g=>?_) fun J50 g j50=>?_
 exact St.wn (j47 _ g)
 refine U.start (U.ps 4 T rfl (U.k (YV s_1.Floor f.A _ g) Q8h (fun x51 g=>?_)))
 refine U.ps 2 T rfl ?_
 refine g.cs (fun b52 g=>?_) fun b52 g=>?_
 refine U.pq 1 6 true 60 b52 T ?_
 refine U.pk b52 ?_
 refine U.pd 1 T ?_
 exact St.wn (j50 _ g)
 refine U.sk' 1 6 true 60 b52 ?_
 refine U.pk' b52 ?_
 refine U.pd 1 T ?_
 exact St.wn (j50 _ g)
 refine C.ss (U.pd 2 T (C.nx ?_))
 refine C.jn (fun (x55:Bool)=>[(7,.b x55)]) (fun x55=>[]) 0 g (fun x55 g=>?_) fun J56 g j56=>?_
 exact St.wn (j47 _ g)
 refine C.ite rfl g (fun b57 g=>?_) fun b57 g=>?_
 refine U.start (U.ps 6 T rfl (U.k (Q2U s_1 st f.A f.N _ g) Qas (fun x60 g=>?_)))
 refine U.pd 1 T ?_
 exact St.wn (j56 _ g)
 refine C.skip ?_
 exact St.wn (j56 _ g)
 refine U.start (U.ps 4 T rfl ?_)
 refine g.cs (fun b7 g=>?_) fun b7 g=>?_
 refine U.pq 3 3 true 12 b7 T ?_
 refine U.pk b7 ?_
 refine U.pd 1 T ?_
 exact St.wa (idR 3) (j6 _ g)
 refine U.sk' 3 3 true 12 b7 ?_
 refine U.pk' b7 ?_
 refine U.pd 1 T ?_
 exact St.wa (idR 3) (j6 _ g)
theorem Q0Z (x_1:ApiStuck) (c0:Int) (post:Bool→Prop) (g:XU x_1 c0 post):
  Tr Tryz.prog 139 [.agg [.i x_1.Cell,.i x_1.Left],.rp [.i c0]] [] 0 (pB post):=by
 refine Tr.go Tryz.func139 Tryz.ntmps139 fun _ _ _ _ o=>?_
 unfold XU at g
 refine C.ss (U.bx ?_)
 refine U.pd 1 T (C.xt ?_)
 refine U.pd 5 T (C.nx (C.ret ?_))
 exact C.f1 T o (pBi g)
theorem KI (s_1:List ApiStuck) (f_c0:Int) (post:Int→Prop) (g:Qs s_1 f_c0 post):
  Tr Tryz.prog 138 [.sl 2 Q7 s_1,.fn (.func 139) [] [.rp [.i f_c0]]] [] 0 (pI post):=by
 refine Tr.go Tryz.func138 Tryz.ntmps138 fun _ _ _ _ o=>?_
 unfold Qs at g
 refine C.ss (U.pd 1 T (C.xs (C.ss ?_)))
 refine U.pd 3 T (C.nx ?_)
 refine C.jn (fun (x5:Unit)=>[]) (fun x5=>[]) 0 g (fun x5 g=>?_) fun J6 g j6=>?_
 refine C.xt (U.pd 1 T (C.nx (C.ret ?_)))
 exact C.f1 T o (pIi g)
 refine C.block (St.wk (C.loop (fun (s7:Int)=>[(0,.sl 2 Q7 s_1),(1,.fn (.func 139) [] [.rp [.i f_c0]]),(7,.i (s_1.length:Int)),(8,.i s7)]) (fun s7=>[]) g (fun s7 Y8 g=>?_)) (Wk.e))
 refine C.ss (U.pd 1 T (C.xs ?_))
 refine C.ite rfl g (fun b11 g=>?_) fun b11 g=>?_
 refine C.skip (C.xs (C.block (C.ss (U.pd 2 T (C.xt ?_)))))
 refine U.ps 3 T rfl ?_
 obtain⟨x16,y16,g⟩:=g
 refine U.ix T y16 ?_
 refine U.ps 1 T rfl (U.k (Q0Z x16 f_c0 _ g) Q9X (fun x17 g=>?_))
 refine U.done (C.nx ?_)
 refine C.ite rfl g (fun b18 g=>?_) fun b18 g=>?_
 refine C.ss (U.pd 2 T (C.nx (C.ret (C.brt (C.rt (C.rt (C.brt (C.rt ?_))))))))
 exact C.f1 T o (pIi g)
 refine C.skip (C.bnx (C.nx (U.start (U.pd 2 T (C.nx ?_)))))
 exact St.wk (C.next g) (Wk.e)
 refine C.exit (C.ex (C.ex (C.bex ?_)))
 exact St.wk (j6 _ g) (Wk.mk' [] rfl rfl trivial trivial rfl)
theorem Qaj (w:World) {b off lb cb vb voff m vc:Nat} {cc cv:Array Value} {Tb Tv:TypeId} (hwb:w.heap[b]?=some (.cells cc Tb (0,0))) (hwv:w.heap[vb]?=some (.cells cv Tv (0,0))) (hne:vb≠b) (b0:cc.size≠0):
  (callFunc 171 #[.slice (some ⟨vb,voff,none⟩) m vc,.slice (some ⟨b,off,none⟩) lb cb]).run Tryz.prog w=.ok (.value (.bool false)) w:=by
 rw [run_callFunc_extern Tryz.func171 (by kernel_rfl) (by kernel_rfl) (by kernel_rfl) (e:=Extern.SlicesOverlaps.overlaps #[32,32] #[4]) (by kernel_rfl),
  Lib.run_overlaps_apart w 32 4 129 Tryz.underlying32 2 Tryz.sizeOf129 ⟨vb,voff,none⟩ ⟨b,off,none⟩ m vc lb cb hne Tv Tb cv.size cc.size (by simp [World.shape?,hwv]) (by simp [World.shape?,hwb]) b0 (by simp [World.frozen?,hwv]) (by simp [World.frozen?,hwv])]
 rfl
set_option maxHeartbeats 4000000 in
theorem Q8B (w:World) (b off n c i vb voff m vc:Nat) (cb cv:Array Value) (Tb Tv:TypeId) (hwb:w.heap[b]?=some (.cells cb Tb (0,0))) (hwv:w.heap[vb]?=some (.cells cv Tv (0,0))) (hne:vb≠b) (hi:i<n) (g:0<m) (hmv:m≤vc) (hcb:off+c*2≤cb.size) (hcv:voff+vc*2≤cv.size)
  (ho1:∀q,q<n*2→(cb.getD (off+q) undef).oneCell'=true) (ho2:∀q,q<m*2→(cv.getD (voff+q) undef).oneCell'=true) (hroom:n+m≤c) (hnm:n+m≤1099511627776):
  Calls Tryz.prog 140 #[.slice (some ⟨b,off,none⟩) n c,.int .i64 i,.slice (some ⟨vb,voff,none⟩) m vc] w fun e w'=>e=.returned (.slice (some ⟨b,off,none⟩) (n+m) c) ∧
   w'=(w.drew.setRow b (spl cb (off+(i+m)*2) cb (off+i*2) ((n-i)*2))).setRow b (spl (spl cb (off+(i+m)*2) cb (off+i*2) ((n-i)*2)) (off+i*2) cv voff (m*2)):=by
 have u0:=run_underlying Tryz.underlying0;have u3:=run_underlying Tryz.underlying3;have u4:=run_underlying Tryz.underlying4;have uS:=run_underlying Tryz.underlying32
 have zE:=Tryz.sizeOf129
 have hz1:¬((m:Int)=0):=by omega
 have hz2:¬((i:Int)=(n:Int)):=by omega
 have hz3:¬((c:Int)<(n:Int)+(m:Int)):=by omega
 have hw1:IntKind.i64.wrap ((i:Int)+(m:Int))=(i:Int)+(m:Int):=IntWalk.i64_in _ (by omega)
 have hw2:IntKind.i64.wrap ((n:Int)+(m:Int))=(n:Int)+(m:Int):=IntWalk.i64_in _ (by omega)
 have b1:(0:Int)≤(i:Int)+(m:Int):=by omega
 have hin:i≤n:=by omega
 have htn:((i:Int)+(m:Int)).toNat=i+m:=by omega
 have b2:¬(c=i+m):=by omega
 have b3:(i:Int)≤(n:Int)+(m:Int):=by omega
 have b4:¬(c=i):=by omega
 have hN1:(i+m)*2+(n-i)*2=(n+m)*2:=by rw [←Nat.add_mul];congr 1;omega
 have hN2:i*2+(n-i)*2=n*2:=by rw [←Nat.add_mul];congr 1;omega
 have hN3:(n+m)*2≤c*2:=Nat.mul_le_mul_right _ hroom
 have hN4:n*2≤c*2:=Nat.mul_le_mul_right _ (by omega)
 have hN5:i*2+m*2=(i+m)*2:=(Nat.add_mul _ _ _).symm
 have hN6:(i+m)*2≤c*2:=Nat.mul_le_mul_right _ (by omega)
 have hN7:m*2≤vc*2:=Nat.mul_le_mul_right _ hmv
 have hsz0:cb.size≠0:=by
  have:1*2≤c*2:=Nat.mul_le_mul_right _ (by omega)
  omega
 have hov:∀lb cb2,(callFunc 171 #[.slice (some ⟨vb,voff,none⟩) m vc,.slice (some ⟨b,off+(i+m)*2,none⟩) lb cb2]).run Tryz.prog w=.ok (.value (.bool false)) w:=fun lb cb2=>Qaj w hwb hwv hne hsz0
 have hcp1:∀ty dc sc,(Builtin.copy_ #[32,32] ty #[.slice (some ⟨b,off+(i+m)*2,none⟩) (n+m-(i+m)) dc,.slice (some ⟨b,off+i*2,none⟩) (n+m-i) sc]).run Tryz.prog w.drew=.ok (goInt (n-i:Nat)) (w.drew.setRow b (spl cb (off+(i+m)*2) cb (off+i*2) ((n-i)*2))):=fun ty dc sc=>
  Yn (K:=2) Tryz.underlying32 zE w.drew (k:=n-i) hwb hwb (by simp only [Nat.min_def];split <;> omega) (by omega) (by omega) (fun q hq=>by rw [Nat.add_assoc];exact ho1 _ (by omega)) ty
 have hW1:(w.drew.setRow b (spl cb (off+(i+m)*2) cb (off+i*2) ((n-i)*2))).heap[b]?=some (.cells (spl cb (off+(i+m)*2) cb (off+i*2) ((n-i)*2)) Tb (0,0)):=setRow_heap w.drew b cb _ Tb (0,0) hwb
 have hW2:(w.drew.setRow b (spl cb (off+(i+m)*2) cb (off+i*2) ((n-i)*2))).heap[vb]?=some (.cells cv Tv (0,0)):=by rw [setRow_other w.drew b vb _ hne];exact hwv
 generalize hc1:spl cb (off+(i+m)*2) cb (off+i*2) ((n-i)*2)=c1 at *
 have hc1s:c1.size=cb.size:=by rw [←hc1];exact Z6 (by omega) (by omega)
 have hcp2:∀ty dc,(Builtin.copy_ #[32,32] ty #[.slice (some ⟨b,off+i*2,none⟩) (n+m-i) dc,.slice (some ⟨vb,voff,none⟩) m vc]).run Tryz.prog (w.drew.setRow b c1)=.ok (goInt m) ((w.drew.setRow b c1).setRow b (spl c1 (off+i*2) cv voff (m*2))):=fun ty dc=>
  Yn (K:=2) Tryz.underlying32 zE (w.drew.setRow b c1) (k:=m) hW1 hW2 (by simp only [Nat.min_def];split <;> omega) (by omega) (by omega) ho2 ty
 clear hc1 hN1 hN2 hN3 hN4 hN5 hN6 hN7 ho1 ho2 hW1 hW2
 go_enter Tryz.func140,Tryz.ntmps140
 go_wp2_with (simp only [hov])
 go_region_law (refine Q4Q rfl _ _ 32 32 rfl _ _ (by simp [Act.eval,Act.put]) (by simp [Act.eval,Act.put]) (hcp1 _ _ _) ?_)
 go_wp2_with (at_builtin;refine Q5a _ rfl _ _ 32 32 rfl _ _ rfl rfl (hcp2 _ _) ?_)
 go_ret
 exact⟨rfl,rfl⟩
set_option maxHeartbeats 4000000 in
theorem Q9f (w:World) (b off n c i vb voff m vc:Nat) (cb cv:Array Value) (Tb Tv:TypeId) (hwb:w.heap[b]?=some (.cells cb Tb (0,0))) (hwv:w.heap[vb]?=some (.cells cv Tv (0,0))) (hi:i<n) (hnc:n≤c) (g:0<m) (hmv:m≤vc) (hcb:off+c*2≤cb.size) (hcv:voff+vc*2≤cv.size)
  (ho1:∀q,q<n*2→(cb.getD (off+q) undef).oneCell'=true) (ho2:∀q,q<m*2→(cv.getD (voff+q) undef).oneCell'=true) (hroom:c<n+m) (hnm:n+m≤1099511627776):
  ∃(G:Nat) (row:Array Value),n+m≤G∧row.size=G*2∧(∀q,q<i*2→row.getD q undef=cb.getD (off+q) undef) ∧
  Calls Tryz.prog 140 #[.slice (some ⟨b,off,none⟩) n c,.int .i64 i,.slice (some ⟨vb,voff,none⟩) m vc] w fun e w'=>e=.returned (.slice (some ⟨w.heap.size,0,none⟩) (n+m) G) ∧
   w'.heap=(((w.alloc (.cells row 129)).setRow w.heap.size (spl row (i*2) cv voff (m*2))).setRow w.heap.size (spl (spl row (i*2) cv voff (m*2)) ((i+m)*2) cb (off+i*2) ((n-i)*2))).heap∧w'.os=w.os∧w'.tape=w.tape∧w'.output=w.output∧w.drawn≤w'.drawn:=by
 have u0:=run_underlying Tryz.underlying0;have u3:=run_underlying Tryz.underlying3;have u4:=run_underlying Tryz.underlying4;have uS:=run_underlying Tryz.underlying32
 have zE:=Tryz.sizeOf129
 obtain⟨_,inf,z,hinf,hsz,hby,hz0,hzc,_,hzl,_⟩:=Q6v
 have hzs:z.cells.size=2:=by rw [←Array.length_toList,hzc];exact hzl
 have hby2:inf.bytes≤128:=by rw [hby];decide
 have hsz2:inf.size=2:=hsz
 have hkk:(n:Int)+(m:Int)-(i:Int)=((n+m-i:Nat):Int):=by omega
 have hik:i+(n+m-i)=n+m:=by omega
 have hN3:(n+m-i)*2=(n+m)*2-i*2:=Nat.sub_mul _ _ _
 have hN4:n*2≤c*2:=Nat.mul_le_mul_right _ hnc
 have hN2:i*2+(n-i)*2=n*2:=by rw [←Nat.add_mul];congr 1;omega
 have hN1:(i+m)*2+(n-i)*2=(n+m)*2:=by rw [←Nat.add_mul];congr 1;omega
 have hN5:i*2+m*2=(i+m)*2:=(Nat.add_mul _ _ _).symm
 have hN7:m*2≤vc*2:=Nat.mul_le_mul_right _ hmv
 have hN8:(n+m)*inf.bytes≤1099511627776*128:=Nat.mul_le_mul hnm hby2
 have hN9:(n+m-i)*inf.bytes≤(n+m)*inf.bytes:=Nat.mul_le_mul_right _ (by omega)
 have hol:((cb.toList.drop off).take (i*2)).length=i*inf.size:=by rw [hsz2];simp;omega
 have hold:(Builtin.firstCells inf.size i (.slice (some ⟨b,off,none⟩) i c)).run Tryz.prog w.drew=.ok ((cb.toList.drop off).take (i*2)).toArray w.drew:=
  run_firstCells_some w.drew inf.size i ⟨b,off,none⟩ i c _ hol (Q4I (w:=w.drew) hwb (by omega))
 obtain⟨G,hG⟩:∃G,G=grownCap w (n+m) c 129:=⟨_,rfl⟩
 have hGn:n+m≤G:=by rw [hG];exact grownCap_ge w _ _ _
 obtain⟨row,hrow⟩:∃row:Array Value,row=((cb.toList.drop off).take (i*2)).toArray++Builtin.zeroCells z.cells (n+m-i)++Builtin.zeroCells z.cells (G-(n+m)):=⟨_,rfl⟩
 have hrz:∀ty,(Builtin.append_ #[32,3] ty #[.slice (some ⟨b,off,none⟩) i c,.int .i64 ((n:Int)+(m:Int)-(i:Int))]).run Tryz.prog w=.ok (.slice (some ⟨w.heap.size,0,none⟩) (n+m) G) (w.drew.alloc (.cells row 129)):=fun ty=>by
  have h:=Lib.run_append_grow_zeros w 32 3 ty 129 inf z .i64 .i64 Tryz.underlying32 Tryz.underlying3 hinf hz0 (some ⟨b,off,none⟩) i c _ hold (n+m-i) (by omega) (by rw [hsz2];decide) (by omega) (by omega) (by omega) (by rw [hik];exact growslice_fits hroom (by omega))
  rw [hik] at h
  rw [hkk,hrow,hG]
  exact h
 have hrs:row.size=G*2:=by
  have:(G-(n+m))*2=G*2-(n+m)*2:=Nat.sub_mul _ _ _
  have:(n+m)*2≤G*2:=Nat.mul_le_mul_right _ hGn
  have hl2:((cb.toList.drop off).take (i*2)).length=i*2:=by rw [hol,hsz2]
  rw [hrow];simp only [Array.size_append,size_zeroCells,hzs,List.size_toArray];omega
 refine⟨G,row,hGn,hrs,fun q hq=>?_,?_⟩
 ·have h1:q<((cb.toList.drop off).take (i*2)).toArray.size:=by simp only [List.size_toArray];rw [hol,hsz2];exact hq
  rw [hrow,Array.getD_eq_getD_getElem?,Array.append_assoc,Array.getElem?_append_left h1,List.getElem?_toArray,List.getElem?_take,if_pos hq,List.getElem?_drop,Array.getD_eq_getD_getElem?];simp
 have hw1:IntKind.i64.wrap ((i:Int)+(m:Int))=(i:Int)+(m:Int):=IntWalk.i64_in _ (by omega)
 have hw2:IntKind.i64.wrap ((n:Int)+(m:Int))=(n:Int)+(m:Int):=IntWalk.i64_in _ (by omega)
 have hw3:IntKind.i64.wrap ((n:Int)+(m:Int)-(i:Int))=(n:Int)+(m:Int)-(i:Int):=IntWalk.i64_in _ (by omega)
 have hGK:(n+m)*2≤G*2:=Nat.mul_le_mul_right _ hGn
 have hbw:b<w.heap.size:=WZ hwb
 have hvw:vb<w.heap.size:=WZ hwv
 have hA0:(w.alloc (.cells row 129)).heap[w.heap.size]?=some (.cells row 129 (0,0)):=heap_alloc_new w _
 have hAb:(w.alloc (.cells row 129)).heap[b]?=some (.cells cb Tb (0,0)):=(RowKit.Below.heap_alloc w _ b hbw).trans hwb
 have hAv:(w.alloc (.cells row 129)).heap[vb]?=some (.cells cv Tv (0,0)):=(RowKit.Below.heap_alloc w _ vb hvw).trans hwv
 have hcpA:∀(W:World),W.heap=(w.alloc (.cells row 129)).heap→∀ty dc,(Builtin.copy_ #[32,32] ty #[.slice (some ⟨w.heap.size,i*2,none⟩) (n+m-i) dc,.slice (some ⟨vb,voff,none⟩) m vc]).run Tryz.prog W=.ok (goInt m) (W.setRow w.heap.size (spl row (i*2) cv voff (m*2))):=fun W hW ty dc=>by
  exact Yn (K:=2) Tryz.underlying32 zE W (k:=m) (by rw [hW];exact hA0) (by rw [hW];exact hAv) (by simp only [Nat.min_def];split <;> omega) (by omega) (by omega) ho2 ty
 have hr1:(spl row (i*2) cv voff (m*2)).size=row.size:=Z6 (by omega) (by omega)
 have hcpB:∀(W:World),W.heap=((w.alloc (.cells row 129)).setRow w.heap.size (spl row (i*2) cv voff (m*2))).heap→∀ty dc sc,(Builtin.copy_ #[32,32] ty #[.slice (some ⟨w.heap.size,(i+m)*2,none⟩) (n+m-(i+m)) dc,.slice (some ⟨b,off+i*2,none⟩) (n-i) sc]).run Tryz.prog W=.ok (goInt (n-i:Nat)) (W.setRow w.heap.size (spl (spl row (i*2) cv voff (m*2)) ((i+m)*2) cb (off+i*2) ((n-i)*2))):=fun W hW ty dc sc=>by
  exact Yn (K:=2) Tryz.underlying32 zE W (k:=n-i) (by rw [hW];exact setRow_heap _ _ _ _ _ _ hA0) (by rw [hW,setRow_other _ _ _ _ (by omega:b≠w.heap.size)];exact hAb) (by simp only [Nat.min_def];split <;> omega) (by omega) (by omega) (fun q hq=>by rw [Nat.add_assoc];exact ho1 _ (by omega)) ty
 have hz1:¬((m:Int)=0):=by omega
 have hz2:¬((i:Int)=(n:Int)):=by omega
 have hz3:(c:Int)<(n:Int)+(m:Int):=by omega
 have hGi:¬(G=i):=by omega
 have hGim:¬(G=i+m):=by omega
 have hci:¬(c=i):=by omega
 have b1:(0:Int)≤(i:Int)+(m:Int):=by omega
 have hin:i≤n:=by omega
 have htn:((i:Int)+(m:Int)).toNat=i+m:=by omega
 have b3:(i:Int)≤(n:Int):=by omega
 have hic:i≤c:=by omega
 have b5:(i:Int)≤(n:Int)+(m:Int):=by omega
 clear hold hol hrow hG hN1 hN2 hN3 hN4 hN5 hN7 hN8 hN9 ho1 ho2 hkk hik hr1 hGK
 go_enter Tryz.func140,Tryz.ntmps140
 go_wp2_with (first
  | (at_builtin;refine Lib.wpList_append_run _ rfl _ _ _ _ rfl _ _ rfl rfl _ _ (hrz _) ?_))
 rw [hcpA (w.alloc (.cells row 129)).drew rfl 3 (G-i)]
 go_wp2
 go_region_law (refine Q4Q rfl _ _ 32 32 rfl (.slice (some ⟨w.heap.size,(i+m)*2,none⟩) (n+m-(i+m)) (G-(i+m))) (.slice (some ⟨b,off+i*2,none⟩) (n-i) (c-i)) (by simp [Act.eval,Act.put]) (by simp [Act.eval,Act.put]) (hcpB ((w.alloc (.cells row 129)).drew.setRow w.heap.size (spl row (i*2) cv voff (m*2))).drew rfl 3 (G-(i+m)) (c-i)) ?_)
 go_wp2
 go_ret
 exact⟨rfl,rfl,rfl,rfl,rfl,Nat.le_trans (Nat.le_succ _) (Nat.le_succ _)⟩
theorem Q8v:Q5K Tryz.prog 140 2:=Q62 (E:=129) Q8B Q9f
theorem XJ (i:Int) (xs:List ApiStuck) (ys:List ApiStuck) (post:List ApiStuck→Prop) (g:QN i xs ys post):
  Tr Tryz.prog 140 [.o 0,.i i,.o 1] [(0,.val (.os 2 Q7 xs)),(1,.val (.os 2 Q7 ys))] 2 (fun A H' k=>∃y,post y∧A=(.o 2)∧H'=[(2,.val (.os 2 Q7 y))]∧k=3):=by
 unfold QN at g
 obtain⟨⟨h0,h1⟩,h2,h3,hp⟩:=g
 obtain⟨n,rfl⟩:=Int.eq_ofNat_of_zero_le h0
 exact Tr.insert Q8v (enc:=Q7) (fun _=>rfl) xs ys n (by omega) h2 h3 hp
theorem Q0q (c:Int) (n:Int) (l:List ApiStuck) (post:(List ApiStuck)→Prop) (g:Xt c n l post):
  Tr Tryz.prog 109 [.o 0,.i c,.i n] [(0,.val (.os 2 Q7 l))] 1 (fun A H' k=>∃y,post y∧A=(.o 1)∧H'=[(1,.val (.os 2 Q7 y))]∧k=2):=by
 refine Tr.go Tryz.func109 Tryz.ntmps109 fun _ _ _ _ o=>?_
 unfold Xt at g
 refine C.ss (U.bx ?_)
 refine U.pd 1 T (C.xt ?_)
 refine U.ps 2 T rfl (U.k (KI l c _ g) Q87 (fun x5 g=>?_))
 refine U.pd 1 T (C.xs (C.block (C.ss ?_)))
 refine U.pd 3 T (C.nx ?_)
 refine C.ite rfl g (fun b8 g=>?_) fun b8 g=>?_
 refine C.ss (U.ps 4 T rfl (U.bs T Q7 ([({Cell:=c,Left:=n:ApiStuck})]:List ApiStuck) ?_))
 obtain⟨y11,g⟩:=g
 refine U.ap T y11 ?_
 refine U.pd 1 T (C.nx (C.ret (C.brt (C.rt ?_))))
 exact C.g1 [some 0,some 3] T o ⟨(l++([({Cell:=c,Left:=n:ApiStuck})]:List ApiStuck)),g,rfl,rfl,rfl⟩
 refine C.seq (D.bq mix 9999 [0,1] [] (fun hQ hS ws M'=>?_))
 refine D.pq 2 (zl [0,1]) T ?_
 obtain⟨x14,y14,g⟩:=g
 refine D.q 2 [] hQ hS rfl (.none rfl) rfl rfl (by exact Rd.io T rfl rfl rfl rfl rfl rfl rfl y14) rfl (by kernel_rfl) ?_
 refine D.pq 1 [(3,[])] T ?_
 refine D.q 4 [] hQ hS rfl (.none rfl) rfl rfl (by exact Rd.le T rfl rfl rfl (Qe y14).2.2 rfl rfl rfl) rfl (by kernel_rfl) ?_
 refine D.pq 3 (zl [5,6,7]) T ?_
 refine D.done (by kernel_rfl) ?_
 refine C.nx ?_
 refine C.ite rfl g (fun b15 g=>?_) fun b15 g=>?_
 refine C.ss (U.ps 4 T rfl (U.r rfl (.none rfl) rfl rfl (by exact Rd.io T rfl rfl rfl rfl rfl rfl rfl y14) ?_))
 refine U.ps 1 T rfl (U.r rfl (.none rfl) rfl rfl (by exact Rd.le T rfl rfl rfl (Qe y14).2.2 rfl rfl rfl) ?_)
 refine U.ps 2 T rfl (U.r rfl (.none rfl) rfl rfl (by exact Rd.io T rfl rfl rfl rfl rfl rfl rfl y14) ?_)
 refine U.ps 1 T rfl (U.e1 rfl (.none rfl) (by exact Eff1.se T (z':=({Cell:=x14.Cell,Left:=imax x14.Left n:ApiStuck})) rfl rfl rfl (Qe y14).2.2 rfl rfl rfl rfl rfl rfl rfl rfl (fun _=>rfl) rfl) ?_)
 refine U.done (C.xt (U.pd 2 T (C.nx (C.ret (C.brt (C.rt ?_))))))
 exact C.g1 [some 0,some 0] T o ⟨(l.set (Int.toNat x5) ({Cell:=x14.Cell,Left:=imax x14.Left n:ApiStuck})),g,rfl,rfl,rfl⟩
 refine C.skip (C.bnx (C.xt (U.ps 5 T rfl (U.bs T Q7 ([({Cell:=c,Left:=n:ApiStuck})]:List ApiStuck) ?_))))
 refine U.c [some 0,some 2] (XJ x5 l ([({Cell:=c,Left:=n:ApiStuck})]:List ApiStuck) _ g) Qa4 fun x22 g=>?_
 refine U.pd 1 T (C.nx (C.ret ?_))
 exact C.g1 [some 0,some 5] T o ⟨x22,g,rfl,rfl,rfl⟩
theorem Q1B (s_1:ApiSite) (st:ApiState) (f:QV) (post:ApiState→Prop) (g:Gg s_1 st f post):
  Tr Tryz.prog 67 [.agg (Q6 s_1),.agg (Q1 st),.agg (Z1 f)] [] 0 (fun A H' k=>∃y,post y∧A=(.agg [.i y.Tick,.o 0,.o 1,.o 2,.o 3,.o 4])∧H'=[(0,.val (.os 1 eI y.Shelves)),(1,.val (.os 6 Q0 y.Robots)),(2,.val (.os 1 eI y.People)),(3,.val (.os 1 eI y.Dead)),(4,.val (.os 2 Q7 y.Stuck))]∧k=5):=by
 refine Tr.go Tryz.func67 Tryz.ntmps67 fun _ _ _ _ o=>?_
 unfold Gg at g
 refine C.ss (U.bx ?_)
 refine U.bx ?_
 refine U.bx ?_
 refine U.al T ?_
 refine U.done (C.xt (U.ps 1 T rfl (U.k (YP st _ g) en71 (fun x5 g=>?_))))
 refine U.al T ?_
 refine U.st T ?_
 refine U.done (C.xs (C.ss (U.ps 3 T rfl (U.k (Yw s_1 st f _ g) en66 (fun x8 g=>?_)))))
 refine U.pd 1 T (C.nx ?_)
 refine C.ite rfl g (fun b9 g=>?_) fun b9 g=>?_
 refine C.ss (U.ps 1 T rfl (U.st T ?_))
 refine U.done (C.nx (C.ret (C.rt ?_)))
 exact C.g1 (sqR 4 5) T o ⟨x5,g,rfl,rfl,rfl⟩
 refine C.skip (C.xs (C.ss (U.pd 2 T (C.nx (C.block (C.ss ?_))))))
 refine U.pd 2 T (C.nx ?_)
 refine C.jn (fun (x16:List ApiRobot×List Int×List Int×List ApiStuck)=>[(6,.p 0 0),(7,.p 1 0)]) (fun x16=>[(0,.box [.i 0,vN,vN,vN,vN,vN]),(1,.box [.i x5.Tick,.o 2,.o 3,.o 4,.o 5,.o 6]),(2,.val (.os 1 eI x5.Shelves)),(3,.val (.os 6 Q0 x16.1)),(4,.val (.os 1 eI x16.2.1)),(5,.val (.os 1 eI x16.2.2.1)),(6,.val (.os 2 Q7 x16.2.2.2))]) 7 g (fun x16 g=>?_) fun J17 g j17=>?_
 refine C.bnx (C.xt (U.ps 1 T rfl (U.st T ?_)))
 refine U.done (C.nx (C.ret ?_))
 exact C.g1 (sqR 2 5) T o ⟨({Tick:=x5.Tick,Shelves:=x5.Shelves,Robots:=x16.1,People:=x16.2.1,Dead:=x16.2.2.1,Stuck:=x16.2.2.2:ApiState}),g,rfl,rfl,rfl⟩
 refine C.ite rfl g (fun b18 g=>?_) fun b18 g=>?_
 refine U.start (U.ps 4 T rfl ?_)
 obtain⟨x21,y21,g⟩:=g
 refine U.r rfl (.none rfl) rfl rfl (by exact Rd.io T rfl rfl rfl rfl rfl rfl rfl y21) ?_
 refine U.ps 1 T rfl (U.e1 rfl (.none rfl) (by exact Eff1.se T (z':=({Cell:=x21.Cell,Load:=x21.Load,Charge:=x21.Charge,Rest:=x21.Rest,Mute:=x21.Mute,Dead:=true:ApiRobot})) rfl rfl rfl (Qe y21).2.2 rfl rfl rfl rfl rfl rfl rfl rfl (fun _=>rfl) rfl) ?_)
 refine U.done ?_
 exact St.wa [some 3,some 9,some 4,some 5,some 6,some 7,some 8] (j17 _ g)
 refine C.ss (U.pd 2 T (C.nx ?_))
 refine C.jn (fun (x24:List ApiRobot×List Int×List Int×List ApiStuck)=>[(6,.p 0 0),(7,.p 1 0)]) (fun x24=>[(0,.box [.i 0,vN,vN,vN,vN,vN]),(1,.box [.i x5.Tick,.o 2,.o 3,.o 4,.o 5,.o 6]),(2,.val (.os 1 eI x5.Shelves)),(3,.val (.os 6 Q0 x24.1)),(4,.val (.os 1 eI x24.2.1)),(5,.val (.os 1 eI x24.2.2.1)),(6,.val (.os 2 Q7 x24.2.2.2))]) 7 g (fun x24 g=>?_) fun J25 g j25=>?_
 exact St.wa (idR 7) (j17 _ g)
 refine C.ite rfl g (fun b26 g=>?_) fun b26 g=>?_
 refine C.ss (U.ps 4 T rfl (U.bs T eI ([f.A]:List Int) ?_))
 obtain⟨y29,g⟩:=g
 refine U.ap T y29 ?_
 refine U.ps 1 T rfl (U.st T ?_)
 refine U.done (C.nx (U.start (U.ps 2 T rfl (U.c [some 11] (Ke (x5.Dead++([f.A]:List Int)) _ g) en92 (fun x32 g=>?_)))))
 refine U.done ?_
 exact St.wa [some 3,some 9,some 4,some 5,some 6,some 11,some 8] (j25 _ g)
 refine C.ss (U.pd 2 T (C.nx ?_))
 refine C.jn (fun (x35:List ApiRobot×List Int×List ApiStuck)=>[(6,.p 0 0),(7,.p 1 0)]) (fun x35=>[(0,.box [.i 0,vN,vN,vN,vN,vN]),(1,.box [.i x5.Tick,.o 2,.o 3,.o 4,.o 5,.o 6]),(2,.val (.os 1 eI x5.Shelves)),(3,.val (.os 6 Q0 x35.1)),(4,.val (.os 1 eI x35.2.1)),(5,.val (.os 1 eI x5.Dead)),(6,.val (.os 2 Q7 x35.2.2))]) 7 g (fun x35 g=>?_) fun J36 g j36=>?_
 exact St.wa (idR 7) (j25 _ g)
 refine C.ite rfl g (fun b37 g=>?_) fun b37 g=>?_
 refine U.start (U.ps 6 T rfl ?_)
 obtain⟨x40,y40,g⟩:=g
 refine U.r rfl (.none rfl) rfl rfl (by exact Rd.io T rfl rfl rfl rfl rfl rfl rfl y40) ?_
 refine U.ps 1 T rfl (U.e1 rfl (.none rfl) (by exact Eff1.se T (z':=({Cell:=x40.Cell,Load:=x40.Load,Charge:=x40.Charge,Rest:=x40.Rest,Mute:=f.N,Dead:=x40.Dead:ApiRobot})) rfl rfl rfl (Qe y40).2.2 rfl rfl rfl rfl rfl rfl rfl rfl (fun _=>rfl) rfl) ?_)
 refine U.done ?_
 exact St.wa [some 3,some 9,some 4,some 5,some 6,some 7,some 8] (j36 _ g)
 refine C.ss (U.pd 2 T (C.nx ?_))
 refine C.jn (fun (x43:List Int×List ApiStuck)=>[(6,.p 0 0),(7,.p 1 0)]) (fun x43=>[(0,.box [.i 0,vN,vN,vN,vN,vN]),(1,.box [.i x5.Tick,.o 2,.o 3,.o 4,.o 5,.o 6]),(2,.val (.os 1 eI x5.Shelves)),(3,.val (.os 6 Q0 x5.Robots)),(4,.val (.os 1 eI x43.1)),(5,.val (.os 1 eI x5.Dead)),(6,.val (.os 2 Q7 x43.2))]) 7 g (fun x43 g=>?_) fun J44 g j44=>?_
 exact St.wa (idR 7) (j36 _ g)
 refine C.ite rfl g (fun b45 g=>?_) fun b45 g=>?_
 refine U.start (U.ps 6 T rfl (U.c [some 8] (Q0q f.A f.N x5.Stuck _ g) Qam (fun x48 g=>?_)))
 refine U.ps 1 T rfl (U.st T ?_)
 refine U.done ?_
 exact St.wa [some 3,some 9,some 4,some 5,some 6,some 7,some 11] (j44 _ g)
 refine C.ss (U.pd 2 T (C.nx ?_))
 refine C.jn (fun (x51:List Int)=>[(6,.p 0 0),(7,.p 1 0)]) (fun x51=>[(0,.box [.i 0,vN,vN,vN,vN,vN]),(1,.box [.i x5.Tick,.o 2,.o 3,.o 4,.o 5,.o 6]),(2,.val (.os 1 eI x5.Shelves)),(3,.val (.os 6 Q0 x5.Robots)),(4,.val (.os 1 eI x51)),(5,.val (.os 1 eI x5.Dead)),(6,.val (.os 2 Q7 x5.Stuck))]) 7 g (fun x51 g=>?_) fun J52 g j52=>?_
 exact St.wa (idR 7) (j44 _ g)
 refine C.ite rfl g (fun b53 g=>?_) fun b53 g=>?_
 refine C.seq (C.ss (U.pd 6 T (C.nx ?_)))
 refine C.jn (fun (x56:List Int)=>[(5,.p 0 0),(6,.p 1 0),(7,.p 2 0)]) (fun x56=>[(0,.box (Z1 f)),(1,.box [.i 0,vN,vN,vN,vN,vN]),(2,.box [.i x5.Tick,.o 3,.o 4,.o 5,.o 6,.o 7]),(3,.val (.os 1 eI x5.Shelves)),(4,.val (.os 6 Q0 x5.Robots)),(5,.val (.os 1 eI x56)),(6,.val (.os 1 eI x5.Dead)),(7,.val (.os 2 Q7 x5.Stuck))]) 8 g (fun x56 g=>?_) fun J57 g j57=>?_
 refine C.nx (U.start (U.ps 6 T rfl ?_))
 obtain⟨x64,y64,g⟩:=g
 refine U.r rfl (.none rfl) rfl rfl (by exact Rd.io T rfl rfl rfl rfl rfl rfl rfl y64) ?_
 refine U.e1 rfl (.none rfl) (by exact Eff1.se T (z':=f.N) rfl rfl rfl (Qe y64).2.2 rfl rfl rfl rfl rfl rfl rfl rfl (fun _=>rfl) rfl) ?_
 refine U.done ?_
 exact St.wa (sqR 1 7) (j52 _ g)
 refine C.ite rfl g (fun b58 g=>?_) fun b58 g=>?_
 refine U.start (U.ps 4 T rfl (U.bs T eI ([f.N]:List Int) ?_))
 obtain⟨y61,g⟩:=g
 refine U.ap T y61 ?_
 refine U.ps 1 T rfl (U.st T ?_)
 refine U.done ?_
 exact St.wa [some 2,some 3,some 9,some 4,some 5,some 11,some 7,some 8] (j57 _ g)
 refine C.skip ?_
 exact St.wa [some 2,some 3,some 9,some 4,some 5,some 6,some 7,some 8] (j57 _ g)
 refine C.skip ?_
 exact St.wa [some 3,some 9,some 4,some 5,some 6,some 7,some 8] (j52 _ g)
theorem Zq (x_1:ApiStuck) (post:Bool→Prop) (g:KM x_1 post):
  Tr Tryz.prog 118 [.agg [.i x_1.Cell,.i x_1.Left]] [] 0 (pB post):=by
 refine Tr.go Tryz.func118 Tryz.ntmps118 fun _ _ _ _ o=>?_
 unfold KM at g
 refine C.ss (U.bx ?_)
 refine U.pd 1 T (C.xt ?_)
 refine U.pd 4 T (C.nx (C.ret ?_))
 exact C.f1 T o (pBi g)
theorem KV (s_1:List ApiStuck) (post:Int→Prop) (g:Qv s_1 post):
  Tr Tryz.prog 138 [.sl 2 Q7 s_1,.fn (.func 118) [] []] [] 0 (pI post):=by
 refine Tr.go Tryz.func138 Tryz.ntmps138 fun _ _ _ _ o=>?_
 unfold Qv at g
 refine C.ss (U.pd 1 T (C.xs (C.ss ?_)))
 refine U.pd 3 T (C.nx ?_)
 refine C.jn (fun (x5:Unit)=>[]) (fun x5=>[]) 0 g (fun x5 g=>?_) fun J6 g j6=>?_
 refine C.xt (U.pd 1 T (C.nx (C.ret ?_)))
 exact C.f1 T o (pIi g)
 refine C.block (St.wk (C.loop (fun (s7:Int)=>[(0,.sl 2 Q7 s_1),(1,.fn (.func 118) [] []),(7,.i (s_1.length:Int)),(8,.i s7)]) (fun s7=>[]) g (fun s7 Y8 g=>?_)) (Wk.e))
 refine C.ss (U.pd 1 T (C.xs ?_))
 refine C.ite rfl g (fun b11 g=>?_) fun b11 g=>?_
 refine C.skip (C.xs (C.block (C.ss (U.pd 2 T (C.xt ?_)))))
 refine U.ps 3 T rfl ?_
 obtain⟨x16,y16,g⟩:=g
 refine U.ix T y16 ?_
 refine U.ps 1 T rfl (U.k (Zq x16 _ g) Q9l (fun x17 g=>?_))
 refine U.done (C.nx ?_)
 refine C.ite rfl g (fun b18 g=>?_) fun b18 g=>?_
 refine C.ss (U.pd 2 T (C.nx (C.ret (C.brt (C.rt (C.rt (C.brt (C.rt ?_))))))))
 exact C.f1 T o (pIi g)
 refine C.skip (C.bnx (C.nx (U.start (U.pd 2 T (C.nx ?_)))))
 exact St.wk (C.next g) (Wk.e)
 refine C.exit (C.ex (C.ex (C.bex ?_)))
 exact St.wk (j6 _ g) (Wk.mk' [] rfl rfl trivial trivial rfl)
theorem KA (s_1:List ApiStuck) (post:(List ApiStuck)→Prop) (g:Qm s_1 post):
  Tr Tryz.prog 117 [.o 0,.fn (.func 118) [] []] [(0,.val (.os 2 Q7 s_1))] 1 (fun A H' k=>∃y,post y∧A=(.o 1)∧H'=[(1,.val (.os 2 Q7 y))]∧k=2):=by
 refine Tr.go Tryz.func117 Tryz.ntmps117 fun _ _ _ _ o=>?_
 unfold Qm at g
 refine C.ss (U.pd 1 T (C.xt ?_))
 refine U.ps 2 T rfl (U.k (KV s_1 _ g) Q87 (fun x5 g=>?_))
 refine U.pd 1 T (C.xs (C.ss ?_))
 refine U.pd 2 T (C.nx ?_)
 refine C.ite rfl g (fun b8 g=>?_) fun b8 g=>?_
 refine C.ss (U.pd 2 T (C.nx (C.ret (C.rt ?_))))
 exact C.g1 [some 0,some 0] T o ⟨s_1,g,rfl,rfl,rfl⟩
 refine C.skip (C.xs (C.ss (U.pd 3 T (C.nx ?_))))
 refine C.jn (fun (x13:List ApiStuck×Int)=>[(0,.o 0),(5,.i x13.2)]) (fun x13=>[(0,.val (.os 2 Q7 x13.1))]) 1 g (fun x13 g=>?_) fun J14 g j14=>?_
 refine C.xt (U.ps 2 T rfl ?_)
 obtain⟨y38,g⟩:=g
 refine U.r rfl (.none rfl) rfl rfl (by exact Rd.vw T rfl rfl rfl rfl rfl rfl (.some _ rfl) (.none _) y38) ?_
 obtain⟨y39,g⟩:=g
 refine U.e1 rfl (.none rfl) (by exact Eff1.clv T (z0:=({Cell:=0,Left:=0:ApiStuck})) rfl rfl rfl rfl rfl rfl rfl (fun _=>rfl) rfl y39) ?_
 refine U.done (C.xt (U.ps 2 T rfl ?_))
 obtain⟨y42,g⟩:=g
 refine U.e1 rfl (.none rfl) (by exact Eff1.sw T rfl rfl rfl rfl rfl rfl rfl rfl (.none _) (.some _ rfl) y42) ?_
 refine U.pd 1 T (C.nx (C.ret ?_))
 exact C.g1 (idR 2) T o ⟨(sub (x13.1.take (Int.toNat x13.2)++(List.replicate (Int.toNat ((x13.1.length:Int)-x13.2)) ({Cell:=0,Left:=0:ApiStuck})++x13.1.drop ((Int.toNat x13.2)+(Int.toNat ((x13.1.length:Int)-x13.2))))) 0 x13.2),g,rfl,rfl,rfl⟩
 refine C.block (St.wk (C.loop (fun (s15:List ApiStuck×Int×Int)=>[(0,.o 0),(1,.fn (.func 118) [] []),(5,.i s15.2.1),(6,.i s15.2.2)]) (fun s15=>[(0,.val (.os 2 Q7 s15.1))]) g (fun s15 Y16 g=>?_)) (Wk.a [some 0]))
 refine C.seq (C.ss (U.pd 4 T (C.nx ?_)))
 refine C.ite rfl g (fun b19 g=>?_) fun b19 g=>?_
 refine C.skip (C.xs (C.block (C.ss (U.ps 2 T rfl ?_))))
 obtain⟨x22,y22,g⟩:=g
 refine U.r rfl (.none rfl) rfl rfl (by exact Rd.io T rfl rfl rfl rfl rfl rfl rfl y22) ?_
 refine U.r rfl (.none rfl) rfl rfl (by exact Rd.le T rfl rfl rfl (Qe y22).2.2 rfl rfl rfl) ?_
 refine U.al T ?_
 refine U.st T ?_
 refine U.done (C.xt (U.ps 2 T rfl (U.k (Zq x22 _ g) Q9l (fun x25 g=>?_))))
 refine U.pd 1 T (C.nx ?_)
 refine C.jn (fun (x26:List ApiStuck×Int)=>[(0,.o 0),(1,.fn (.func 118) [] []),(5,.i x26.2),(6,.i s15.2.2)]) (fun x26=>[(0,.val (.os 2 Q7 x26.1))]) 1 g (fun x26 g=>?_) fun J27 g j27=>?_
 refine C.bnx (C.nx (U.start (U.pd 3 T (C.nx ?_))))
 exact St.wk (C.next g) (Wk.a [some 0])
 refine C.ite rfl g (fun b28 g=>?_) fun b28 g=>?_
 refine C.ss (U.ps 3 T rfl ?_)
 obtain⟨x31,y31,g⟩:=g
 refine U.r rfl (.none rfl) rfl rfl (by exact Rd.io T rfl rfl rfl rfl rfl rfl rfl y31) ?_
 refine U.e1 rfl (.none rfl) (by exact Eff1.se T (z':=x22) rfl rfl rfl (Qe y31).2.2 rfl rfl rfl rfl rfl rfl rfl rfl (fun _=>rfl) rfl) ?_
 refine U.done (C.nx (U.start (U.pd 3 T ?_)))
 exact St.wa [some 0] (j27 _ g)
 refine C.skip ?_
 exact St.wa [some 0] (j27 _ g)
 refine C.exit (C.ex (C.ex (C.bex ?_)))
 exact St.wa [some 0] (j14 _ g)
theorem Q0R (before:ApiState) (st:ApiState) (post:ApiState→Prop) (g:XH before st post):
  Tr Tryz.prog 70 [.agg (Q1 before),.agg [.i st.Tick,.o 0,.o 1,.o 2,.o 3,.o 4]] [(0,.val (.os 1 eI st.Shelves)),(1,.val (.os 6 Q0 st.Robots)),(2,.val (.os 1 eI st.People)),(3,.val (.os 1 eI st.Dead)),(4,.val (.os 2 Q7 st.Stuck))] 5 (fun A H' k=>∃y,post y∧A=(.agg [.i y.Tick,.o 5,.o 6,.o 7,.o 8,.o 9])∧H'=[(5,.val (.os 1 eI y.Shelves)),(6,.val (.os 6 Q0 y.Robots)),(7,.val (.os 1 eI y.People)),(8,.val (.os 1 eI y.Dead)),(9,.val (.os 2 Q7 y.Stuck))]∧k=10):=by
 refine Tr.go Tryz.func70 Tryz.ntmps70 fun _ _ _ _ o=>?_
 unfold XH at g
 refine C.ss (U.bx ?_)
 refine U.bx ?_
 refine U.al T ?_
 refine U.done (C.nx (C.scope (C.ss ?_)))
 refine U.ps 4 T rfl (U.st T ?_)
 refine U.done (C.xs (C.label (C.xs (C.ss ?_))))
 refine U.pd 4 T (C.nx ?_)
 refine C.jn (fun (x7:List ApiRobot)=>[(3,.p 5 0),(4,.p 6 0)]) (fun x7=>[(0,.val (.os 1 eI st.Shelves)),(1,.val (.os 6 Q0 x7)),(2,.val (.os 1 eI st.People)),(3,.val (.os 1 eI st.Dead)),(4,.val (.os 2 Q7 st.Stuck)),(5,.box [.i (w64 (st.Tick+1)),.o 0,.o 1,.o 2,.o 3,.o 4]),(6,.box [.i 0,vN,vN,vN,vN,vN])]) 7 g (fun x7 g=>?_) fun J8 g j8=>?_
 refine C.xs (C.ss (U.pd 4 T (C.nx ?_)))
 refine C.jn (fun (x33:List ApiStuck)=>[(3,.p 5 0),(4,.p 6 0)]) (fun x33=>[(0,.val (.os 1 eI st.Shelves)),(1,.val (.os 6 Q0 x7)),(2,.val (.os 1 eI st.People)),(3,.val (.os 1 eI st.Dead)),(4,.val (.os 2 Q7 x33)),(5,.box [.i (w64 (st.Tick+1)),.o 0,.o 1,.o 2,.o 3,.o 4]),(6,.box [.i 0,vN,vN,vN,vN,vN])]) 7 g (fun x33 g=>?_) fun J34 g j34=>?_
 refine C.xt (U.ps 2 T rfl (U.c [some 4] (KA x33 _ g) Q9N (fun x49 g=>?_)))
 refine U.ps 1 T rfl (U.st T ?_)
 refine U.done (C.xt (U.ps 1 T rfl (U.st T ?_)))
 refine U.done (C.nx (C.ret (C.srt ?_)))
 exact C.g1 [some 0,some 1,some 2,some 3,some 4,some 0,some 1,some 2,some 3,some 8] T o ⟨({Tick:=w64 (st.Tick+1),Shelves:=st.Shelves,Robots:=x7,People:=st.People,Dead:=st.Dead,Stuck:=x49:ApiState}),g,rfl,rfl,rfl⟩
 refine C.block ?_
 refine St.wk (C.loop (fun (s35:List ApiStuck×Int)=>[(3,.p 5 0),(4,.p 6 0),(54,.i (st.Stuck.length:Int)),(55,.i s35.2)]) (fun s35=>[(0,.val (.os 1 eI st.Shelves)),(1,.val (.os 6 Q0 x7)),(2,.val (.os 1 eI st.People)),(3,.val (.os 1 eI st.Dead)),(4,.val (.os 2 Q7 s35.1)),(5,.box [.i (w64 (st.Tick+1)),.o 0,.o 1,.o 2,.o 3,.o 4]),(6,.box [.i 0,vN,vN,vN,vN,vN])]) g (fun s35 Y36 g=>?_)) (Wk.a (idR 7))
 refine C.ss (U.pd 1 T (C.xs ?_))
 refine C.ite rfl g (fun b39 g=>?_) fun b39 g=>?_
 refine C.skip (C.xs (C.block (C.ss (U.pd 2 T (C.nx (U.start ?_))))))
 refine U.ps 3 T rfl ?_
 obtain⟨x44,y44,g⟩:=g
 refine U.r rfl (.none rfl) rfl rfl (by exact Rd.io T rfl rfl rfl rfl rfl rfl rfl y44) ?_
 refine U.ps 1 T rfl (U.r rfl (.none rfl) rfl rfl (by exact Rd.le T rfl rfl rfl (Qe y44).2.2 rfl rfl rfl) ?_)
 refine U.ps 1 T rfl (U.r rfl (.none rfl) rfl rfl (by exact Rd.io T rfl rfl rfl rfl rfl rfl rfl y44) ?_)
 refine U.ps 1 T rfl (U.e1 rfl (.none rfl) (by exact Eff1.se T (z':=({Cell:=x44.Cell,Left:=w64 (x44.Left-1):ApiStuck})) rfl rfl rfl (Qe y44).2.2 rfl rfl rfl rfl rfl rfl rfl rfl (fun _=>rfl) rfl) ?_)
 refine U.done (C.bnx (C.nx (U.start (U.pd 2 T (C.nx ?_)))))
 exact St.wk (C.next g) (Wk.a (idR 7))
 refine C.exit (C.ex (C.ex (C.bex ?_)))
 exact St.wa (idR 7) (j34 _ g)
 refine C.block ?_
 refine St.wk (C.loop (fun (s9:List ApiRobot×Int)=>[(2,.p 5 0),(3,.p 6 0),(4,.p 7 0),(14,.i (st.Robots.length:Int)),(15,.i s9.2)]) (fun s9=>[(0,.val (.os 1 eI st.Shelves)),(1,.val (.os 6 Q0 s9.1)),(2,.val (.os 1 eI st.People)),(3,.val (.os 1 eI st.Dead)),(4,.val (.os 2 Q7 st.Stuck)),(5,.box (Q1 before)),(6,.box [.i (w64 (st.Tick+1)),.o 0,.o 1,.o 2,.o 3,.o 4]),(7,.box [.i 0,vN,vN,vN,vN,vN])]) g (fun s9 Y10 g=>?_)) (Wk.a (idR 8))
 refine C.ss (U.pd 1 T (C.xs ?_))
 refine C.ite rfl g (fun b13 g=>?_) fun b13 g=>?_
 refine C.skip (C.xs ?_)
 refine C.jn (fun (x14:List ApiRobot)=>[(2,.p 5 0),(3,.p 6 0),(4,.p 7 0),(14,.i (st.Robots.length:Int)),(15,.i s9.2)]) (fun x14=>[(0,.val (.os 1 eI st.Shelves)),(1,.val (.os 6 Q0 x14)),(2,.val (.os 1 eI st.People)),(3,.val (.os 1 eI st.Dead)),(4,.val (.os 2 Q7 st.Stuck)),(5,.box (Q1 before)),(6,.box [.i (w64 (st.Tick+1)),.o 0,.o 1,.o 2,.o 3,.o 4]),(7,.box [.i 0,vN,vN,vN,vN,vN])]) 8 g (fun x14 g=>?_) fun J15 g j15=>?_
 refine C.nx (U.start (U.pd 2 T (C.nx ?_)))
 exact St.wk (C.next g) (Wk.a (idR 8))
 refine C.block (C.ss (U.pd 2 T (C.xt ?_)))
 refine U.ps 3 T rfl ?_
 obtain⟨x20,y20,g⟩:=g
 refine U.r rfl (.none rfl) rfl rfl (by exact Rd.io T rfl rfl rfl rfl rfl rfl rfl y20) ?_
 refine U.pd 1 T (C.xt ?_)
 refine U.ps 4 T rfl (U.r rfl (.none rfl) rfl rfl (by exact Rd.le T rfl rfl rfl (Qe y20).2.2 rfl rfl rfl) ?_)
 refine U.ps 4 T rfl (U.e1 rfl (.none rfl) (by exact Eff1.se T (z':=({Cell:=x20.Cell,Load:=x20.Load,Charge:=x20.Charge,Rest:=x20.Rest,Mute:=imax (w64 (x20.Mute-1)) 0,Dead:=x20.Dead:ApiRobot})) rfl rfl rfl (Qe y20).2.2 rfl rfl rfl rfl rfl rfl rfl rfl (fun _=>rfl) rfl) ?_)
 refine U.done (C.xs (C.seq (D.bq mix 9999 [1,5] [] (fun hQ hS ws M'=>?_))))
 refine D.pq 3 (zl [0,1,2]) T ?_
 refine D.q 3 [] hQ hS rfl (.none rfl) rfl rfl (by exact Rd.le T rfl rfl rfl (Ge (Qe y20).2.2) rfl rfl rfl) rfl (by kernel_rfl) ?_
 refine D.pq 3 (zl [4,5,6]) T ?_
 obtain⟨x25,y25,g⟩:=g
 refine D.ix 7 [] T y25 ?_
 refine D.pq 3 (zl [8,9,10]) T ?_
 refine D.done (by kernel_rfl) ?_
 refine C.nx ?_
 refine C.ite rfl g (fun b26 g=>?_) fun b26 g=>?_
 refine C.exit (C.ex (C.bex ?_))
 exact St.wa (idR 8) (j15 _ g)
 refine C.skip (C.nx (U.start (U.ps 4 T rfl (U.r rfl (.none rfl) rfl rfl (by exact Rd.le T rfl rfl rfl (Ge (Qe y20).2.2) rfl rfl rfl) ?_))))
 refine U.ps 4 T rfl ?_
 refine U.e1 rfl (.none rfl) (by exact Eff1.se T (z':=({Cell:=({Cell:=x20.Cell,Load:=x20.Load,Charge:=x20.Charge,Rest:=x20.Rest,Mute:=imax (w64 (x20.Mute-1)) 0,Dead:=x20.Dead:ApiRobot}).Cell,Load:=({Cell:=x20.Cell,Load:=x20.Load,Charge:=x20.Charge,Rest:=x20.Rest,Mute:=imax (w64 (x20.Mute-1)) 0,Dead:=x20.Dead:ApiRobot}).Load,Charge:=({Cell:=x20.Cell,Load:=x20.Load,Charge:=x20.Charge,Rest:=x20.Rest,Mute:=imax (w64 (x20.Mute-1)) 0,Dead:=x20.Dead:ApiRobot}).Charge,Rest:=imax (w64 ((({Cell:=x20.Cell,Load:=x20.Load,Charge:=x20.Charge,Rest:=x20.Rest,Mute:=imax (w64 (x20.Mute-1)) 0,Dead:=x20.Dead:ApiRobot}).Rest)-1)) 0,Mute:=({Cell:=x20.Cell,Load:=x20.Load,Charge:=x20.Charge,Rest:=x20.Rest,Mute:=imax (w64 (x20.Mute-1)) 0,Dead:=x20.Dead:ApiRobot}).Mute,Dead:=({Cell:=x20.Cell,Load:=x20.Load,Charge:=x20.Charge,Rest:=x20.Rest,Mute:=imax (w64 (x20.Mute-1)) 0,Dead:=x20.Dead:ApiRobot}).Dead:ApiRobot})) rfl rfl rfl (Ge (Qe y20).2.2) rfl rfl rfl rfl rfl rfl rfl rfl (fun _=>rfl) rfl) ?_
 refine U.done (C.bnx ?_)
 exact St.wa (idR 8) (j15 _ g)
 refine C.exit (C.ex (C.ex (C.bex ?_)))
 exact St.wa [some 0,some 1,some 2,some 3,some 4,some 6,some 7] (j8 _ g)
theorem Q3L (s_1:ApiSite) (st:ApiState) (acts:List Int) (f:QV) (post:(ApiState×Int)→Prop) (g:GY s_1 st acts f post):
  Tr Tryz.prog 27 [.agg (Q6 s_1),.agg (Q1 st),.sl 1 eI acts,.agg (Z1 f)] [] 0 (fun A H' k=>∃y,post y∧A=(.tup [.agg [.i y.1.Tick,.o 0,.o 1,.o 2,.o 3,.o 4],.i y.2])∧H'=[(0,.val (.os 1 eI y.1.Shelves)),(1,.val (.os 6 Q0 y.1.Robots)),(2,.val (.os 1 eI y.1.People)),(3,.val (.os 1 eI y.1.Dead)),(4,.val (.os 2 Q7 y.1.Stuck))]∧k=5):=by
 refine Tr.go Tryz.func27 Tryz.ntmps27 fun _ _ _ _ o=>?_
 unfold GY at g
 refine C.ss (U.bx ?_)
 refine U.bx ?_
 refine U.bx ?_
 refine U.al T ?_
 refine U.pd 1 T (C.xs (C.ss ?_))
 refine U.ps 3 T rfl (U.k (Q2p s_1 st acts _ g) en65 (fun x5 g=>?_))
 refine U.pd 1 T (C.xt ?_)
 refine U.pd 2 T (C.nx ?_)
 refine C.ite rfl g (fun b8 g=>?_) fun b8 g=>?_
 refine C.ss (U.ps 2 T rfl (U.st T ?_))
 refine U.pd 1 T (C.nx (C.ret (C.rt ?_)))
 exact C.fg [none,none,none,none,none] T o ⟨(({Tick:=0,Shelves:=[],Robots:=[],People:=[],Dead:=[],Stuck:=[]:ApiState}),x5),g,rfl,rfl,rfl⟩
 refine C.skip (C.xs (C.ss (U.ps 3 T rfl (U.k (Yw s_1 st f _ g) en66 (fun x13 g=>?_)))))
 refine U.pd 1 T (C.xt ?_)
 refine U.pd 2 T (C.nx ?_)
 refine C.ite rfl g (fun b16 g=>?_) fun b16 g=>?_
 refine C.ss (U.ps 2 T rfl (U.st T ?_))
 refine U.pd 1 T (C.nx (C.ret (C.rt ?_)))
 exact C.fg [none,none,none,none,none] T o ⟨(({Tick:=0,Shelves:=[],Robots:=[],People:=[],Dead:=[],Stuck:=[]:ApiState}),x13),g,rfl,rfl,rfl⟩
 refine C.skip (C.xt (U.ps 3 T rfl (U.k (Q1B s_1 st f _ g) en67 (fun x21 g=>?_))))
 refine U.al T ?_
 refine U.st T ?_
 refine U.done (C.xs (C.ss (U.pd 3 T (C.nx ?_))))
 refine C.jn (fun (x24:Int×List Int×List ApiRobot×List Int×List Int×List ApiStuck)=>[(5,.p 0 0),(8,.p 1 0),(12,.p 2 0)]) (fun x24=>[(0,.box (Q1 st)),(1,.box [.i 0,vN,vN,vN,vN,vN]),(2,.box [.i x24.1,.o 3,.o 4,.o 5,.o 6,.o 7]),(3,.val (.os 1 eI x24.2.1)),(4,.val (.os 6 Q0 x24.2.2.1)),(5,.val (.os 1 eI x24.2.2.2.1)),(6,.val (.os 1 eI x24.2.2.2.2.1)),(7,.val (.os 2 Q7 x24.2.2.2.2.2))]) 8 g (fun x24 g=>?_) fun J25 g j25=>?_
 refine C.xs (D.bq mix 3 [0,2] [] (fun hQ hS ws M'=>?_))
 refine D.pq 2 [(0,[]),(1,[2])] T ?_
 refine D.k 2 (YP ({Tick:=x24.1,Shelves:=x24.2.1,Robots:=x24.2.2.1,People:=x24.2.2.2.1,Dead:=x24.2.2.2.2.1,Stuck:=x24.2.2.2.2.2:ApiState}) _ g) en71 fun x49 g=>?_
 refine D.zt [4,5] rfl (.none rfl) (by exact Eff.c [some 8,some 9,some 10,some 11,some 12] (v:=false) (Q0R st x49 _ g) en70 rfl rfl rfl (.eq rfl) ⟨vL,vL,vL,vL,vL,trivial⟩ rfl rfl rfl rfl rfl rfl (fun h=>by cases h) (.inl rfl) (fun _=>rfl) (fun _=>rfl) rfl) (by kernel_rfl) (by kernel_rfl) (by kernel_rfl) (by kernel_rfl) (fun x50' g=>?_)
 obtain⟨x50⟩:=x50'
 refine U.st T ?_
 refine U.pd 1 T (C.nx (C.ret ?_))
 exact C.fg (sqR 18 5) T o ⟨(x50,0),g,rfl,rfl,rfl⟩
 refine C.block ?_
 refine St.wk (C.loop (fun (s26:Int×List Int×List ApiRobot×List Int×List Int×List ApiStuck×Int)=>[(4,.p 0 0),(5,.p 1 0),(8,.p 2 0),(12,.p 3 0),(35,.sl 1 eI acts),(36,.i (acts.length:Int)),(37,.i s26.2.2.2.2.2.2)]) (fun s26=>[(0,.box (Q6 s_1)),(1,.box (Q1 st)),(2,.box [.i 0,vN,vN,vN,vN,vN]),(3,.box [.i s26.1,.o 4,.o 5,.o 6,.o 7,.o 8]),(4,.val (.os 1 eI s26.2.1)),(5,.val (.os 6 Q0 s26.2.2.1)),(6,.val (.os 1 eI s26.2.2.2.1)),(7,.val (.os 1 eI s26.2.2.2.2.1)),(8,.val (.os 2 Q7 s26.2.2.2.2.2.1))]) g (fun s26 Y27 g=>?_)) (Wk.a [some 0,some 1,some 3,some 9,some 4,some 5,some 6,some 7,some 8])
 refine C.ss (U.pd 1 T (C.xs ?_))
 refine C.ite rfl g (fun b30 g=>?_) fun b30 g=>?_
 refine C.skip (C.xs (C.block (C.ss (U.ps 1 T rfl ?_))))
 obtain⟨x33,y33,g⟩:=g
 refine U.ix T y33 ?_
 refine U.pd 3 T (C.xs (C.ss ?_))
 refine U.ps 4 T rfl (U.k (ZE s_1 ({Tick:=s26.1,Shelves:=s26.2.1,Robots:=s26.2.2.1,People:=s26.2.2.2.1,Dead:=s26.2.2.2.2.1,Stuck:=s26.2.2.2.2.2.1:ApiState}) s26.2.2.2.2.2.2 x33 _ g) en68 (fun x36 g=>?_))
 refine U.pd 1 T (C.nx ?_)
 refine C.jn (fun (x37:Int)=>[(4,.p 0 0),(5,.p 1 0),(8,.p 2 0),(12,.p 3 0),(13,.i s26.2.2.2.2.2.2),(14,.i x37),(35,.sl 1 eI acts),(36,.i (acts.length:Int)),(37,.i s26.2.2.2.2.2.2)]) (fun x37=>[(0,.box (Q6 s_1)),(1,.box (Q1 st)),(2,.box [.i 0,vN,vN,vN,vN,vN]),(3,.box [.i s26.1,.o 4,.o 5,.o 6,.o 7,.o 8]),(4,.val (.os 1 eI s26.2.1)),(5,.val (.os 6 Q0 s26.2.2.1)),(6,.val (.os 1 eI s26.2.2.2.1)),(7,.val (.os 1 eI s26.2.2.2.2.1)),(8,.val (.os 2 Q7 s26.2.2.2.2.2.1))]) 9 g (fun x37 g=>?_) fun J38 g j38=>?_
 refine C.nx (U.start (U.ps 4 T rfl (U.k (Q4J s_1 ({Tick:=s26.1,Shelves:=s26.2.1,Robots:=s26.2.2.1,People:=s26.2.2.2.1,Dead:=s26.2.2.2.2.1,Stuck:=s26.2.2.2.2.2.1:ApiState}) s26.2.2.2.2.2.2 x37 _ g) en69 (fun x44 g=>?_))))
 refine U.st T ?_
 refine U.done (C.bnx (C.nx (U.start (U.pd 2 T (C.nx ?_)))))
 exact St.wk (C.next g) (Wk.a [some 0,some 1,some 2,some 3,some 9,some 10,some 11,some 12,some 13])
 refine C.ite rfl g (fun b39 g=>?_) fun b39 g=>?_
 refine U.start (U.pd 1 T ?_)
 exact St.wa (idR 9) (j38 _ g)
 refine C.skip ?_
 exact St.wa (idR 9) (j38 _ g)
 refine C.exit (C.ex (C.ex (C.bex ?_)))
 exact St.wa (sqR 1 8) (j25 _ g)
theorem Yp (s_1:ApiSite) (st:ApiState) (homes:List Int) (post:Bool→Prop) (g:KJ s_1 st homes post):
  Tr Tryz.prog 7 [.agg (Q6 s_1),.agg (Q1 st),.sl 1 eI homes] [] 0 (pB post):=by
 refine Tr.go Tryz.func7 Tryz.ntmps7 fun _ _ _ _ o=>?_
 unfold KJ at g
 refine C.ss (U.bx ?_)
 refine U.bx ?_
 refine U.pd 1 T (C.xt ?_)
 refine U.k (ZD _ g) en8 fun x5 g=>?_
 refine U.pd 1 T (C.xs (C.seq ?_))
 refine C.jn (fun (x6:Bool)=>[(2,.sl 1 eI homes),(3,.p 0 0),(4,.p 1 0),(7,.b x5),(32,.b x6)]) (fun x6=>[(0,.box (Q6 s_1)),(1,.box (Q1 st))]) 2 g (fun x6 g=>?_) fun J7 g j7=>?_
 refine C.nx ?_
 refine C.ite rfl g (fun b10 g=>?_) fun b10 g=>?_
 refine C.ss (U.pd 2 T (C.nx (C.ret (C.rt ?_))))
 exact C.f1 T o (pBi g)
 refine C.skip (C.xs (C.ss (U.pd 1 T (C.nx ?_))))
 refine C.jn (fun (x15:Unit)=>[(2,.sl 1 eI homes),(3,.p 0 0),(4,.p 1 0),(7,.b x5)]) (fun x15=>[(0,.box (Q6 s_1)),(1,.box (Q1 st))]) 2 g (fun x15 g=>?_) fun J16 g j16=>?_
 refine C.xt (U.ps 3 T rfl (U.k (ZF s_1 st homes _ g) en15 (fun x32 g=>?_)))
 refine St.wk (Γ':=[(2,.sl 1 eI homes),(3,.p 0 0),(4,.p 1 0),(7,.b x5),(50,.agg (Q6 s_1)),(51,.agg (Q1 st)),(52,.sl 1 eI homes),(53,.tup [.sl 1 eI x32.1,.b x32.2])]) (H':=[(0,.box (Q6 s_1)),(1,.box (Q1 st))]) (nl':=2) ?_ (Wk.mk' [some 0,some 1] rfl rfl ⟨⟨_,rfl,(.eq rfl)⟩,⟨_,rfl,(.eq rfl)⟩,⟨_,rfl,(.eq rfl)⟩,⟨_,rfl,(.eq rfl)⟩,⟨_,rfl,(.eq rfl)⟩,⟨_,rfl,(.eq rfl)⟩,⟨_,rfl,(.eq rfl)⟩,⟨_,rfl,(.tup (.cons (.fz rfl rfl rfl (.os fun _=>.cons (.ro rfl) .nil)) (.eq rfl)))⟩,trivial⟩ ⟨bX,bX,trivial⟩ rfl)
 refine U.pd 5 T (C.xs (C.ss ?_))
 refine U.pd 2 T (C.nx ?_)
 refine C.ite rfl g (fun b35 g=>?_) fun b35 g=>?_
 refine C.ss (U.pd 2 T (C.nx (C.ret (C.rt ?_))))
 exact C.f1 T o (pBi g)
 refine C.skip (C.xt (U.ps 2 T rfl (U.e rfl (.none rfl) (by exact Eff.c [] (v:=false) (Zf s_1 st _ g) en25 rfl rfl rfl (.eq rfl) trivial rfl rfl rfl rfl rfl rfl (fun h=>by cases h) (.inr ⟨rfl,rfl⟩) (fun _=>rfl) (fun _=>rfl) rfl) (fun x40' g=>?_))))
 obtain⟨x40⟩:=x40'
 refine U.ps 3 T rfl (U.al T ?_)
 refine U.al T ?_
 refine U.st T ?_
 refine U.st T ?_
 refine U.done (C.xs (C.seq ?_))
 refine C.jn (fun (x41:Bool)=>[(2,.sl 1 eI homes),(3,.p 0 0),(4,.p 1 0),(7,.b x5),(9,.sl 1 eI x32.1),(11,.p 2 0),(12,.p 4 0),(73,.b x41)]) (fun x41=>[(0,.box (Q6 s_1)),(1,.box (Q1 st)),(2,.box [.i x40.1.Floor.W,.i x40.1.Floor.H,.i x40.1.Floor.D,.sl 1 eI x40.1.Floor.Kind,.sl 1 eI x40.1.Floor.Out,.o 3,.sl 2 Q3 x40.1.Aparts,.sl 2 Q4 x40.1.Shelves,.sl 2 Q5 x40.1.Robots]),(3,.val (.os 5 Q8 x40.1.Zones)),(4,.box [.i x40.2.Tick,.sl 1 eI x40.2.Shelves,.o 5,.sl 1 eI x40.2.People,.sl 1 eI x40.2.Dead,.o 6]),(5,.val (.os 6 Q0 x40.2.Robots)),(6,.val (.os 2 Q7 x40.2.Stuck))]) 7 g (fun x41 g=>?_) fun J42 g j42=>?_
 refine C.nx ?_
 refine C.ite rfl g (fun b46 g=>?_) fun b46 g=>?_
 refine C.ss (U.pd 1 T (C.nx (C.ret (C.rt ?_))))
 exact C.f1 T o (pBi g)
 refine C.skip (C.xs (C.ss (U.pd 1 T (C.nx ?_))))
 refine C.jn (fun (x51:Int×List Int×List ApiRobot×List Int×List Int×List ApiStuck)=>[(2,.sl 1 eI homes),(7,.b x5),(12,.p 0 0)]) (fun x51=>[(0,.box [.i x51.1,.sl 1 eI x51.2.1,.o 1,.sl 1 eI x51.2.2.2.1,.sl 1 eI x51.2.2.2.2.1,.o 2]),(1,.val (.os 6 Q0 x51.2.2.1)),(2,.val (.os 2 Q7 x51.2.2.2.2.2))]) 3 g (fun x51 g=>?_) fun J52 g j52=>?_
 refine C.xs (C.ss (U.pd 1 T (C.nx ?_)))
 refine C.jn (fun (x107:Unit)=>[(7,.b x5)]) (fun x107=>[]) 0 g (fun x107 g=>?_) fun J108 g j108=>?_
 refine C.xt (U.pd 2 T (C.nx (C.ret ?_)))
 exact C.f1 T o (pBi g)
 refine C.block (St.wk (C.loop (fun (s109:Int)=>[(2,.sl 1 eI homes),(7,.b x5),(12,.p 0 0),(20,.i s109)]) (fun s109=>[(0,.box [.i x51.1,.sl 1 eI x51.2.1,.o 1,.sl 1 eI x51.2.2.2.1,.sl 1 eI x51.2.2.2.2.1,.o 2]),(1,.val (.os 6 Q0 x51.2.2.1)),(2,.val (.os 2 Q7 x51.2.2.2.2.2))]) g (fun s109 Y110 g=>?_)) (Wk.a (idR 3)))
 refine C.seq (C.ss (U.pd 5 T (C.nx ?_)))
 refine C.ite rfl g (fun b113 g=>?_) fun b113 g=>?_
 refine C.skip (C.xs (C.block (C.seq ?_)))
 refine C.jn (fun (x114:Bool)=>[(2,.sl 1 eI homes),(7,.b x5),(12,.p 0 0),(20,.i s109),(160,.b x114)]) (fun x114=>[(0,.box [.i x51.1,.sl 1 eI x51.2.1,.o 1,.sl 1 eI x51.2.2.2.1,.sl 1 eI x51.2.2.2.2.1,.o 2]),(1,.val (.os 6 Q0 x51.2.2.1)),(2,.val (.os 2 Q7 x51.2.2.2.2.2))]) 3 g (fun x114 g=>?_) fun J115 g j115=>?_
 refine C.nx ?_
 refine C.ite rfl g (fun b119 g=>?_) fun b119 g=>?_
 refine C.ss (U.pd 1 T (C.nx (C.ret (C.brt (C.rt (C.rt (C.brt (C.rt ?_))))))))
 exact C.f1 T o (pBi g)
 refine C.skip (C.bnx (C.nx (U.start (U.pd 3 T (C.nx ?_)))))
 exact St.wk (C.next g) (Wk.a (idR 3))
 refine D.bq mix 9999 [0,1] [] (fun hQ hS ws M'=>?_)
 refine D.pq 3 (zl [0,1,2]) T ?_
 obtain⟨x116,y116,g⟩:=g
 refine D.q 3 [] hQ hS rfl (.none rfl) rfl rfl (by exact Rd.io T rfl rfl rfl rfl rfl rfl rfl y116) rfl (by kernel_rfl) ?_
 refine D.pq 1 [(4,[])] T ?_
 refine D.q 5 [] hQ hS rfl (.none rfl) rfl rfl (by exact Rd.le T rfl rfl rfl (Qe y116).2.2 rfl rfl rfl) rfl (by kernel_rfl) ?_
 refine D.pq 2 (zl [6,7]) T ?_
 refine g.cs (fun b117 g=>?_) fun b117 g=>?_
 refine D.sz 8 [] 7 true 148 (ntF b117) ?_
 refine D.sz 9 [] 7 true 148 (ntF b117) ?_
 refine D.sz 10 [] 7 true 148 (ntF b117) ?_
 refine D.sz 11 [] 7 true 148 (ntF b117) ?_
 refine D.sz 12 [] 7 true 148 (ntF b117) ?_
 refine D.sz 13 [] 7 true 148 (ntF b117) ?_
 refine D.sz 14 [] 7 true 148 (ntF b117) ?_
 refine D.sz 15 [] 7 true 148 (ntF b117) ?_
 refine D.sz 16 [] 7 true 148 (ntF b117) ?_
 refine D.sz 17 [] 7 true 148 (ntF b117) ?_
 refine D.sz 18 [] 7 true 148 (ntF b117) ?_
 refine D.kf 19 [] (ntF b117) ?_
 refine D.done (by kernel_rfl) ?_
 exact St.wa (idR 3) (j115 _ g)
 refine D.pt 8 [] 7 true 148 (ntT b117) T ?_
 refine D.q 9 [] hQ hS rfl (.tk 7 true 148 (ntT b117)) rfl rfl (by exact Rd.l T rfl rfl rfl) rfl (by kernel_rfl) ?_
 refine D.pt 10 [] 7 true 148 (ntT b117) T ?_
 refine D.q 11 [] hQ hS rfl (.tk 7 true 148 (ntT b117)) rfl rfl (by exact Rd.io T rfl rfl rfl rfl rfl rfl rfl y116) rfl (by kernel_rfl) ?_
 refine D.pt 12 [] 7 true 148 (ntT b117) T ?_
 refine D.q 13 [] hQ hS rfl (.tk 7 true 148 (ntT b117)) rfl rfl (by exact Rd.le T rfl rfl rfl (Qe y116).2.2 rfl rfl rfl) rfl (by kernel_rfl) ?_
 refine D.pt 14 [] 7 true 148 (ntT b117) T ?_
 refine D.pt 15 [] 7 true 148 (ntT b117) T ?_
 obtain⟨x118,y118,g⟩:=g
 refine D.q 16 [] hQ hS rfl (.tk 7 true 148 (ntT b117)) rfl rfl (by exact Rd.ix T rfl rfl rfl rfl rfl rfl y118) rfl (by kernel_rfl) ?_
 refine D.q 17 [] hQ hS rfl (.tk 7 true 148 (ntT b117)) rfl rfl (by exact Rd.l T rfl rfl rfl) rfl (by kernel_rfl) ?_
 refine D.pt 18 [] 7 true 148 (ntT b117) T ?_
 refine D.kt 19 [] (ntT b117) ?_
 refine D.done (by kernel_rfl) ?_
 exact St.wa (idR 3) (j115 _ g)
 refine C.exit (C.ex (C.ex (C.bex ?_)))
 exact St.wn (j108 _ g)
 refine C.block ?_
 refine St.wk (C.loop (fun (s53:Int×List Int×List ApiRobot×List Int×List Int×List ApiStuck×Int)=>[(2,.sl 1 eI homes),(3,.p 0 0),(4,.p 1 0),(7,.b x5),(9,.sl 1 eI x32.1),(11,.p 2 0),(12,.p 4 0),(13,.i s53.2.2.2.2.2.2)]) (fun s53=>[(0,.box (Q6 s_1)),(1,.box (Q1 st)),(2,.box [.i x40.1.Floor.W,.i x40.1.Floor.H,.i x40.1.Floor.D,.sl 1 eI x40.1.Floor.Kind,.sl 1 eI x40.1.Floor.Out,.o 3,.sl 2 Q3 x40.1.Aparts,.sl 2 Q4 x40.1.Shelves,.sl 2 Q5 x40.1.Robots]),(3,.val (.os 5 Q8 x40.1.Zones)),(4,.box [.i s53.1,.sl 1 eI s53.2.1,.o 5,.sl 1 eI s53.2.2.2.1,.sl 1 eI s53.2.2.2.2.1,.o 6]),(5,.val (.os 6 Q0 s53.2.2.1)),(6,.val (.os 2 Q7 s53.2.2.2.2.2.1))]) g (fun s53 Y54 g=>?_)) (Wk.a (idR 7))
 refine C.seq (C.ss (U.pd 4 T (C.nx ?_)))
 refine C.ite rfl g (fun b57 g=>?_) fun b57 g=>?_
 refine C.skip (C.xs ?_)
 refine C.jn (fun (x58:Int×List Int×List ApiRobot×List Int×List Int×List ApiStuck)=>[(2,.sl 1 eI homes),(3,.p 0 0),(4,.p 1 0),(7,.b x5),(9,.sl 1 eI x32.1),(11,.p 2 0),(12,.p 4 0),(13,.i s53.2.2.2.2.2.2)]) (fun x58=>[(0,.box (Q6 s_1)),(1,.box (Q1 st)),(2,.box [.i x40.1.Floor.W,.i x40.1.Floor.H,.i x40.1.Floor.D,.sl 1 eI x40.1.Floor.Kind,.sl 1 eI x40.1.Floor.Out,.o 3,.sl 2 Q3 x40.1.Aparts,.sl 2 Q4 x40.1.Shelves,.sl 2 Q5 x40.1.Robots]),(3,.val (.os 5 Q8 x40.1.Zones)),(4,.box [.i x58.1,.sl 1 eI x58.2.1,.o 5,.sl 1 eI x58.2.2.2.1,.sl 1 eI x58.2.2.2.2.1,.o 6]),(5,.val (.os 6 Q0 x58.2.2.1)),(6,.val (.os 2 Q7 x58.2.2.2.2.2))]) 7 g (fun x58 g=>?_) fun J59 g j59=>?_
 refine C.nx (U.start (U.pd 3 T (C.nx ?_)))
 exact St.wk (C.next g) (Wk.a (idR 7))
 refine C.block (C.ss (U.ps 2 T rfl ?_))
 obtain⟨x62,y62,g⟩:=g
 refine U.ix T y62 ?_
 refine U.pd 2 T (C.xs ?_)
 refine D.bq mix 9999 [0,1] [] (fun hQ hS ws M'=>?_)
 refine D.pq 5 (zl [0,1,2,3,4]) T ?_
 obtain⟨y65,g⟩:=g
 refine D.q 5 [] hQ hS rfl (.none rfl) rfl rfl (by exact Rd.so T rfl rfl rfl rfl rfl (.none _) (.some _ rfl) y65) rfl (by kernel_rfl) ?_
 refine D.pq 1 [(6,[])] T ?_
 refine D.k 7 (Q2k s_1 st homes (sub x32.1 0 s53.2.2.2.2.2.2) x62 _ g) en20 fun x66 g=>?_
 refine D.pq 1 [(8,[])] T ?_
 refine D.done (by kernel_rfl) ?_
 refine C.xt (U.pd 1 T (C.nx ?_))
 refine C.jn (fun (x69:Int×List Int×List ApiRobot×List Int×List Int×List ApiStuck)=>[(2,.sl 1 eI homes),(3,.p 0 0),(4,.p 1 0),(7,.b x5),(9,.sl 1 eI x32.1),(11,.p 2 0),(12,.p 4 0),(13,.i s53.2.2.2.2.2.2)]) (fun x69=>[(0,.box (Q6 s_1)),(1,.box (Q1 st)),(2,.box [.i x40.1.Floor.W,.i x40.1.Floor.H,.i x40.1.Floor.D,.sl 1 eI x40.1.Floor.Kind,.sl 1 eI x40.1.Floor.Out,.o 3,.sl 2 Q3 x40.1.Aparts,.sl 2 Q4 x40.1.Shelves,.sl 2 Q5 x40.1.Robots]),(3,.val (.os 5 Q8 x40.1.Zones)),(4,.box [.i x69.1,.sl 1 eI x69.2.1,.o 5,.sl 1 eI x69.2.2.2.1,.sl 1 eI x69.2.2.2.2.1,.o 6]),(5,.val (.os 6 Q0 x69.2.2.1)),(6,.val (.os 2 Q7 x69.2.2.2.2.2))]) 7 g (fun x69 g=>?_) fun J70 g j70=>?_
 refine C.bnx ?_
 exact St.wa (idR 7) (j59 _ g)
 refine C.block ?_
 refine St.wk (C.loop (fun (s71:Int×List Int×List ApiRobot×List Int×List Int×List ApiStuck×Int)=>[(2,.sl 1 eI homes),(3,.p 0 0),(4,.p 1 0),(7,.b x5),(9,.sl 1 eI x32.1),(11,.p 2 0),(12,.p 4 0),(13,.i s53.2.2.2.2.2.2),(14,.i x62),(15,.o 7),(16,.i s71.2.2.2.2.2.2)]) (fun s71=>[(0,.box (Q6 s_1)),(1,.box (Q1 st)),(2,.box [.i x40.1.Floor.W,.i x40.1.Floor.H,.i x40.1.Floor.D,.sl 1 eI x40.1.Floor.Kind,.sl 1 eI x40.1.Floor.Out,.o 3,.sl 2 Q3 x40.1.Aparts,.sl 2 Q4 x40.1.Shelves,.sl 2 Q5 x40.1.Robots]),(3,.val (.os 5 Q8 x40.1.Zones)),(4,.box [.i s71.1,.sl 1 eI s71.2.1,.o 5,.sl 1 eI s71.2.2.2.1,.sl 1 eI s71.2.2.2.2.1,.o 6]),(5,.val (.os 6 Q0 s71.2.2.1)),(6,.val (.os 2 Q7 s71.2.2.2.2.2.1)),(7,.val (.os 1 eI x66))]) g (fun s71 Y72 g=>?_)) (Wk.a (idR 8))
 refine C.seq (C.ss (U.pd 4 T (C.nx ?_)))
 refine C.ite rfl g (fun b75 g=>?_) fun b75 g=>?_
 refine C.skip (C.nx (C.block (C.ss (U.ps 3 T rfl ?_))))
 obtain⟨y78,g⟩:=g
 refine U.e1 rfl (.none rfl) (by exact Eff1.mk T (enc:=eI) (z0:=0) rfl rfl rfl rfl rfl rfl rfl rfl rfl rfl y78) ?_
 refine U.pd 1 T (C.xs (C.ss ?_))
 refine U.ps 3 T rfl ?_
 obtain⟨x81,y81,g⟩:=g
 refine U.r rfl (.none rfl) rfl rfl (by exact Rd.io T rfl rfl rfl rfl rfl rfl rfl y81) ?_
 refine U.ps 1 T rfl (U.r rfl (.none rfl) rfl rfl (by exact Rd.le T rfl rfl rfl (Qe y81).2.2 rfl rfl rfl) ?_)
 refine U.pd 1 T (C.nx ?_)
 refine C.jn (fun (x82:Int×List Int)=>[(2,.sl 1 eI homes),(3,.p 0 0),(4,.p 1 0),(7,.b x5),(9,.sl 1 eI x32.1),(11,.p 2 0),(12,.p 4 0),(13,.i s53.2.2.2.2.2.2),(14,.i x62),(15,.o 7),(16,.i x82.1),(17,.o 8)]) (fun x82=>[(0,.box (Q6 s_1)),(1,.box (Q1 st)),(2,.box [.i x40.1.Floor.W,.i x40.1.Floor.H,.i x40.1.Floor.D,.sl 1 eI x40.1.Floor.Kind,.sl 1 eI x40.1.Floor.Out,.o 3,.sl 2 Q3 x40.1.Aparts,.sl 2 Q4 x40.1.Shelves,.sl 2 Q5 x40.1.Robots]),(3,.val (.os 5 Q8 x40.1.Zones)),(4,.box [.i s71.1,.sl 1 eI s71.2.1,.o 5,.sl 1 eI s71.2.2.2.1,.sl 1 eI s71.2.2.2.2.1,.o 6]),(5,.val (.os 6 Q0 s71.2.2.1)),(6,.val (.os 2 Q7 s71.2.2.2.2.2.1)),(7,.val (.os 1 eI x66)),(8,.val (.os 1 eI x82.2))]) 9 g (fun x82 g=>?_) fun J83 g j83=>?_
 refine C.xt (U.ps 4 T rfl (U.k (Q3L x40.1 ({Tick:=s71.1,Shelves:=s71.2.1,Robots:=s71.2.2.1,People:=s71.2.2.2.1,Dead:=s71.2.2.2.2.1,Stuck:=s71.2.2.2.2.2.1:ApiState}) x82.2 ({Kind:=0,A:=0,N:=0:QV}) _ g) en27 (fun x95 g=>?_)))
 refine U.ps 3 T rfl (U.al T ?_)
 refine U.st T ?_
 refine U.pd 1 T (C.xs (C.ss ?_))
 refine U.pd 2 T (C.nx ?_)
 refine C.ite rfl g (fun b98 g=>?_) fun b98 g=>?_
 refine C.ss (U.pd 1 T (C.nx (C.ret (C.rt (C.brt (C.rt (C.brt (C.brt (C.rt (C.rt (C.brt (C.rt ?_))))))))))))
 exact C.f1 T o (pBi g)
 refine C.skip (C.nx (U.start (U.ps 1 T rfl (U.st T ?_))))
 refine U.done (C.bnx (C.nx ?_))
 exact St.wk (C.next g) (Wk.mk' [some 0,some 1,some 2,some 3,some 4,some 10,some 13,some 7] rfl rfl (.eqs rfl) ⟨bX,bX,bX,vL,⟨_,rfl,.box rfl (.cons (.eq rfl) (.cons (.fz rfl rfl rfl (.os fun _=>.cons (.ro rfl) .nil)) (.cons (.eq rfl) (.cons (.fz rfl rfl rfl (.os fun _=>.cons (.ro rfl) .nil)) (.cons (.fz rfl rfl rfl (.os fun _=>.cons (.ro rfl) .nil)) (.eq rfl))))))⟩,vL,vL,vL,trivial⟩ rfl)
 refine C.ite rfl g (fun b84 g=>?_) fun b84 g=>?_
 refine C.seq (D.bq mix 14 [2,7] [] (fun hQ hS ws M'=>?_))
 refine D.pq 6 (zl [0,1,2,3,4,5]) T ?_
 obtain⟨x87,y87,g⟩:=g
 refine D.q 6 [] hQ hS rfl (.none rfl) rfl rfl (by exact Rd.io T rfl rfl rfl rfl rfl rfl rfl y87) rfl (by kernel_rfl) ?_
 refine D.q 7 [] hQ hS rfl (.none rfl) rfl rfl (by exact Rd.le T rfl rfl rfl (Qe y87).2.2 rfl rfl rfl) rfl (by kernel_rfl) ?_
 refine D.pq 2 (zl [8,9]) T ?_
 obtain⟨x88,y88,g⟩:=g
 refine D.q 10 [] hQ hS rfl (.none rfl) rfl rfl (by exact Rd.io T rfl rfl rfl rfl rfl rfl rfl y88) rfl (by kernel_rfl) ?_
 refine D.q 11 [] hQ hS rfl (.none rfl) rfl rfl (by exact Rd.le T rfl rfl rfl (Qe y88).2.2 rfl rfl rfl) rfl (by kernel_rfl) ?_
 refine D.k 12 (Yt x40.1 x87 x88 _ g) en26 fun x89 g=>?_
 obtain⟨x90,y90,g⟩:=g
 refine D.q 13 [] hQ hS rfl (.none rfl) rfl rfl (by exact Rd.io T rfl rfl rfl rfl rfl rfl rfl y90) rfl (by kernel_rfl) ?_
 refine D.ze1 rfl (.none rfl) (by exact Eff1.se T (z':=x89) rfl rfl rfl (Qe y90).2.2 rfl rfl rfl rfl rfl rfl rfl rfl (fun _=>rfl) rfl) (by kernel_rfl) (by kernel_rfl) ?_
 refine C.nx (U.start (U.pd 3 T ?_))
 exact St.wa (idR 9) (j83 _ g)
 refine C.skip ?_
 exact St.wa (idR 9) (j83 _ g)
 refine C.exit (C.ex (C.ex (C.bex ?_)))
 exact St.wa (idR 7) (j70 _ g)
 refine C.exit (C.ex (C.ex (C.bex ?_)))
 exact St.wa (sqR 4 3) (j52 _ g)
 refine U.start (U.ps 1 T rfl (U.k (Zr x40.1 _ g) en11 (fun x43 g=>?_)))
 refine U.ps 2 T rfl ?_
 refine g.cs (fun b44 g=>?_) fun b44 g=>?_
 refine U.pq 2 3 false 68 (ntF b44) T ?_
 refine U.k (Q0L x40.1 x40.2 _ g) en12 (fun x45 g=>?_) (hw:=.take 3 false 68 _ (ntF b44) rfl rfl rfl)
 refine U.pq 1 3 false 68 (ntF b44) T ?_
 refine U.pk' (ntF b44) ?_
 refine U.done ?_
 exact St.wa [some 0,some 1,some 5,some 2,some 6,some 3,some 4] (j42 _ g)
 refine U.sk' 4 3 false 68 (ntT b44) ?_
 refine U.pk (ntT b44) ?_
 refine U.done ?_
 exact St.wa [some 0,some 1,some 5,some 2,some 6,some 3,some 4] (j42 _ g)
 refine C.block (St.wk (C.loop (fun (s17:Int)=>[(2,.sl 1 eI homes),(3,.p 0 0),(4,.p 1 0),(7,.b x5),(8,.i s17)]) (fun s17=>[(0,.box (Q6 s_1)),(1,.box (Q1 st))]) g (fun s17 Y18 g=>?_)) (Wk.a (idR 2)))
 refine C.seq (C.ss (U.pd 5 T (C.nx ?_)))
 refine C.ite rfl g (fun b21 g=>?_) fun b21 g=>?_
 refine C.skip (C.xs (C.block (C.ss (U.ps 3 T rfl ?_))))
 obtain⟨x24,y24,g⟩:=g
 refine U.ix T y24 ?_
 refine U.pd 3 T (C.nx ?_)
 refine C.ite rfl g (fun b25 g=>?_) fun b25 g=>?_
 refine C.ss (U.pd 2 T (C.nx (C.ret (C.brt (C.rt (C.rt (C.brt (C.rt ?_))))))))
 exact C.f1 T o (pBi g)
 refine C.skip (C.bnx (C.nx (U.start (U.pd 3 T (C.nx ?_)))))
 exact St.wk (C.next g) (Wk.a (idR 2))
 refine C.exit (C.ex (C.ex (C.bex ?_)))
 exact St.wa (idR 2) (j16 _ g)
 refine U.start (U.ps 3 T rfl (U.k (ZY s_1 st homes 24 _ g) en22 (fun x8 g=>?_)))
 refine U.ps 2 T rfl ?_
 refine g.cs (fun b9 g=>?_) fun b9 g=>?_
 refine U.pq 4 5 false 27 (ntF b9) T ?_
 refine U.pk' (ntF b9) ?_
 refine U.done ?_
 exact St.wa (idR 2) (j7 _ g)
 refine U.sk' 4 5 false 27 (ntT b9) ?_
 refine U.pk (ntT b9) ?_
 refine U.done ?_
 exact St.wa (idR 2) (j7 _ g)
end Go.Proofs.YtbkpekodmhkbdaaGreat
