/- The walks: each Go function does what its verification condition says (written by a program of the prover). -/
import Derived.Test.YtlaehjhkcanffaaW0
import Derived.KernelRfl
set_option maxRecDepth 100000
set_option maxHeartbeats 8000000
set_option linter.unusedVariables false
set_option linter.unusedSimpArgs false
namespace Go.Proofs.Ytlaehjhkcanffaa
open Go Go.Taq
theorem XQ (s_1:ApiSite) (d:Int) (x_1:Int) (post:Int→Prop) (g:Km s_1 d x_1 post):
  Tr Try.prog 20 [.agg (Q1 s_1),.i d,.i x_1] [] 0 (pI post):=by
 refine Tr.go Try.func20 Try.ntmps20 fun _ _ _ _ o=>?_
 unfold Km at g
 refine C.ss (U.bx ?_)
 refine U.pd 1 T (C.xs (C.seq ?_))
 refine C.jn (fun (x3:Bool)=>[(1,.i d),(2,.i x_1),(3,.p 0 0),(19,.b x3)]) (fun x3=>[(0,.box (Q1 s_1))]) 1 g (fun x3 g=>?_) fun J4 g j4=>?_
 refine C.nx ?_
 refine C.ite rfl g (fun b8 g=>?_) fun b8 g=>?_
 refine C.ss (U.pd 1 T (C.nx (C.ret (C.rt ?_))))
 exact C.f1 T o (pIi g)
 refine C.skip (C.xt (U.ps 2 T rfl (U.k (Gr 20000 (w64 (1+d)) true _ g) en50 (fun x13 g=>?_))))
 refine U.pd 1 T (C.xs (C.ss ?_))
 refine U.ps 2 T rfl (U.k (XG s_1 x_1 _ g) en51 (fun x16 g=>?_))
 refine U.pd 1 T (C.nx ?_)
 refine C.jn (fun (x17:Int)=>[(7,.i x17)]) (fun x17=>[]) 0 g (fun x17 g=>?_) fun J18 g j18=>?_
 refine C.xt (U.pd 2 T (C.nx (C.ret ?_)))
 exact C.f1 T o (pIi g)
 refine C.ite rfl g (fun b19 g=>?_) fun b19 g=>?_
 refine U.start (U.ps 3 T rfl (U.k (XJ s_1 x_1 _ g) en47 (fun x22 g=>?_)))
 refine U.ps 1 T rfl (U.k (Gb _ g) en48 (fun x23 g=>?_))
 refine U.pd 3 T ?_
 exact St.wn (j18 _ g)
 refine C.skip ?_
 exact St.wn (j18 _ g)
 refine U.start (U.ps 3 T rfl ?_)
 refine g.cs (fun b5 g=>?_) fun b5 g=>?_
 refine U.sk' 2 2 false 10 b5 ?_
 refine U.pk b5 ?_
 refine U.ps 1 T rfl (U.sk' 4 6 false 14 rfl ?_)
 refine U.pk rfl ?_
 refine U.done ?_
 exact St.wa [some 0] (j4 _ g)
 refine U.pq 2 2 false 10 b5 T ?_
 refine U.pk' b5 ?_
 refine U.ps 1 T rfl ?_
 refine g.cs (fun b6 g=>?_) fun b6 g=>?_
 refine U.sk' 4 6 false 14 b6 ?_
 refine U.pk b6 ?_
 refine U.done ?_
 exact St.wa [some 0] (j4 _ g)
 refine U.pq 2 6 false 14 b6 T ?_
 refine U.k (Yy s_1 x_1 _ g) en49 (fun x7 g=>?_) (hw:=.take 6 false 14 _ b6 rfl rfl rfl)
 refine U.pq 1 6 false 14 b6 T ?_
 refine U.pk' b6 ?_
 refine U.done ?_
 exact St.wa [some 0] (j4 _ g)
theorem WJ (s_1:ApiSite) (blocked:List Int) (a:Int) (post:(List Int)→Prop) (g:KO s_1 blocked a post):
  Tr Try.prog 14 [.agg (Q1 s_1),.sl 1 eI blocked,.i a] [] 0 (fun A H' k=>∃y,post y∧A=(.o 0)∧H'=[(0,.val (.os 1 eI y))]∧k=1):=by
 refine Tr.go Try.func14 Try.ntmps14 fun _ _ _ _ o=>?_
 unfold KO at g
 refine C.ss (U.bx ?_)
 refine U.pd 1 T (C.xt ?_)
 refine U.bs T eI ([(-1)]:List Int) ?_
 refine U.ps 4 T rfl (U.k (XN ([(-1)]:List Int) (s_1.Floor.Kind.length:Int) _ g) en42 (fun x5 g=>?_))
 refine U.pd 1 T (C.xs (C.seq ?_))
 refine C.jn (fun (x6:Bool)=>[(1,.sl 1 eI blocked),(2,.i a),(3,.p 0 0),(7,.o 1),(37,.b x6)]) (fun x6=>[(0,.box (Q1 s_1)),(1,.val (.os 1 eI x5))]) 2 g (fun x6 g=>?_) fun J7 g j7=>?_
 refine C.nx ?_
 refine C.ite rfl g (fun b11 g=>?_) fun b11 g=>?_
 refine C.ss (U.pd 2 T (C.nx (C.ret (C.rt ?_))))
 exact C.g1 [some 1] T o ⟨x5,g,rfl,rfl,rfl⟩
 refine C.skip (C.xt (U.ps 2 T rfl ?_))
 obtain⟨x16,y16,g⟩:=g
 refine U.r rfl (.none rfl) rfl rfl (by exact Rd.io T rfl rfl rfl rfl rfl rfl rfl y16) ?_
 refine U.e1 rfl (.none rfl) (by exact Eff1.se T (z':=0) rfl rfl rfl (Qb y16).2.2 rfl rfl rfl rfl rfl rfl rfl rfl (fun _=>rfl) rfl) ?_
 refine U.done (C.xt (U.ps 1 T rfl (U.bs T eI ([a]:List Int) ?_)))
 refine U.pd 1 T (C.xs ?_)
 refine C.jn (fun (x19:List Int)=>[(7,.o 0)]) (fun x19=>[(0,.val (.os 1 eI x19))]) 1 g (fun x19 g=>?_) fun J20 g j20=>?_
 refine C.xt (U.pd 2 T (C.nx (C.ret ?_)))
 exact C.g1 [some 0] T o ⟨x19,g,rfl,rfl,rfl⟩
 refine C.block (St.wk (C.loop (fun (s21:List Int×List Int)=>[(1,.sl 1 eI blocked),(2,.i a),(3,.p 0 0),(7,.o 1),(8,.o 2)]) (fun s21=>[(0,.box (Q1 s_1)),(1,.val (.os 1 eI s21.1)),(2,.val (.os 1 eI s21.2))]) g (fun s21 Y22 g=>?_)) (Wk.a (idR 3)))
 refine C.seq (C.ss (U.pd 3 T (C.nx ?_)))
 refine C.ite rfl g (fun b25 g=>?_) fun b25 g=>?_
 refine C.skip (C.nx ?_)
 refine C.jn (fun (x26:List Int×List Int)=>[(1,.sl 1 eI blocked),(2,.i a),(3,.p 0 0),(7,.o 1),(8,.o 2)]) (fun x26=>[(0,.box (Q1 s_1)),(1,.val (.os 1 eI x26.1)),(2,.val (.os 1 eI x26.2))]) 3 g (fun x26 g=>?_) fun J27 g j27=>?_
 refine C.nx ?_
 exact St.wk (C.next g) (Wk.a (idR 3))
 refine C.block (C.ss (U.ps 1 T rfl ?_))
 obtain⟨x30,y30,g⟩:=g
 refine U.r rfl (.none rfl) rfl rfl (by exact Rd.io T rfl rfl rfl rfl rfl rfl rfl y30) ?_
 refine U.r rfl (.none rfl) rfl rfl (by exact Rd.le T rfl rfl rfl (Qb y30).2.2 rfl rfl rfl) ?_
 refine U.pd 1 T (C.xt ?_)
 refine U.ps 1 T rfl ?_
 obtain⟨y33,g⟩:=g
 refine U.e1 rfl (.none rfl) (by exact Eff1.sw T rfl rfl rfl rfl rfl rfl rfl rfl (.some _ rfl) (.none _) y33) ?_
 refine U.pd 1 T (C.xt ?_)
 refine U.ps 2 T rfl ?_
 obtain⟨x36,y36,g⟩:=g
 refine U.r rfl (.none rfl) rfl rfl (by exact Rd.io T rfl rfl rfl rfl rfl rfl rfl y36) ?_
 refine U.r rfl (.none rfl) rfl rfl (by exact Rd.le T rfl rfl rfl (Qb y36).2.2 rfl rfl rfl) ?_
 refine U.pd 1 T (C.xs (C.ss ?_))
 refine U.pd 3 T (C.nx ?_)
 refine C.jn (fun (x39:Int)=>[(1,.sl 1 eI blocked),(2,.i a),(3,.p 0 0),(7,.o 1),(8,.o 2),(9,.i x30),(10,.i x39)]) (fun x39=>[(0,.box (Q1 s_1)),(1,.val (.os 1 eI s21.1)),(2,.val (.os 1 eI (sub s21.2 1 (s21.2.length:Int))))]) 3 g (fun x39 g=>?_) fun J40 g j40=>?_
 refine C.xt (U.pd 1 T (C.nx ?_))
 refine C.jn (fun (x47:List Int×List Int)=>[(1,.sl 1 eI blocked),(2,.i a),(3,.p 0 0),(7,.o 1),(8,.o 2)]) (fun x47=>[(0,.box (Q1 s_1)),(1,.val (.os 1 eI x47.1)),(2,.val (.os 1 eI x47.2))]) 3 g (fun x47 g=>?_) fun J48 g j48=>?_
 refine C.bnx ?_
 exact St.wa (idR 3) (j27 _ g)
 refine C.block (St.wk (C.loop (fun (s49:List Int×List Int×Int)=>[(1,.sl 1 eI blocked),(2,.i a),(3,.p 0 0),(7,.o 1),(8,.o 2),(9,.i x30),(10,.i x39),(64,.i s49.2.2)]) (fun s49=>[(0,.box (Q1 s_1)),(1,.val (.os 1 eI s49.1)),(2,.val (.os 1 eI s49.2.1))]) g (fun s49 Y50 g=>?_)) (Wk.a (idR 3)))
 refine C.ss (U.pd 1 T (C.xs ?_))
 refine C.ite rfl g (fun b53 g=>?_) fun b53 g=>?_
 refine C.skip (C.xs ?_)
 refine C.jn (fun (x54:List Int×List Int)=>[(1,.sl 1 eI blocked),(2,.i a),(3,.p 0 0),(7,.o 1),(8,.o 2),(9,.i x30),(10,.i x39),(64,.i s49.2.2)]) (fun x54=>[(0,.box (Q1 s_1)),(1,.val (.os 1 eI x54.1)),(2,.val (.os 1 eI x54.2))]) 3 g (fun x54 g=>?_) fun J55 g j55=>?_
 refine C.nx (U.start (U.pd 2 T (C.nx ?_)))
 exact St.wk (C.next g) (Wk.a (idR 3))
 refine C.block (C.ss (U.pd 2 T (C.xt ?_)))
 refine U.ps 4 T rfl (U.k (Ge s_1.Floor x30 s49.2.2 _ g) en17 (fun x60 g=>?_))
 refine U.pd 5 T (C.xs (C.seq ?_))
 refine C.jn (fun (x61:Bool)=>[(1,.sl 1 eI blocked),(2,.i a),(3,.p 0 0),(7,.o 1),(8,.o 2),(9,.i x30),(10,.i x39),(11,.i s49.2.2),(12,.i x60.1),(64,.i s49.2.2),(81,.b x61)]) (fun x61=>[(0,.box (Q1 s_1)),(1,.val (.os 1 eI s49.1)),(2,.val (.os 1 eI s49.2.1))]) 3 g (fun x61 g=>?_) fun J62 g j62=>?_
 refine C.nx ?_
 refine C.ite rfl g (fun b65 g=>?_) fun b65 g=>?_
 refine C.exit (C.ex (C.bex ?_))
 exact St.wa (idR 3) (j55 _ g)
 refine C.skip (C.xt (U.ps 4 T rfl (U.k (XQ s_1 s49.2.2 x60.1 _ g) en20 (fun x68 g=>?_))))
 refine U.pd 2 T (C.xs ?_)
 refine C.jn (fun (x69:Bool)=>[(1,.sl 1 eI blocked),(2,.i a),(3,.p 0 0),(7,.o 1),(8,.o 2),(9,.i x30),(10,.i x39),(12,.i x60.1),(14,.i (w64 (x39+x68))),(64,.i s49.2.2),(100,.b x69)]) (fun x69=>[(0,.box (Q1 s_1)),(1,.val (.os 1 eI s49.1)),(2,.val (.os 1 eI s49.2.1))]) 3 g (fun x69 g=>?_) fun J70 g j70=>?_
 refine C.nx ?_
 refine C.jn (fun (x73:List Int×List Int)=>[(1,.sl 1 eI blocked),(2,.i a),(3,.p 0 0),(7,.o 1),(8,.o 2),(9,.i x30),(10,.i x39),(64,.i s49.2.2)]) (fun x73=>[(0,.box (Q1 s_1)),(1,.val (.os 1 eI x73.1)),(2,.val (.os 1 eI x73.2))]) 3 g (fun x73 g=>?_) fun J74 g j74=>?_
 refine C.bnx ?_
 exact St.wa (idR 3) (j55 _ g)
 refine C.ite rfl g (fun b75 g=>?_) fun b75 g=>?_
 refine C.ss (U.ps 3 T rfl ?_)
 obtain⟨x78,y78,g⟩:=g
 refine U.r rfl (.none rfl) rfl rfl (by exact Rd.io T rfl rfl rfl rfl rfl rfl rfl y78) ?_
 refine U.e1 rfl (.none rfl) (by exact Eff1.se T (z':=w64 (x39+x68)) rfl rfl rfl (Qb y78).2.2 rfl rfl rfl rfl rfl rfl rfl rfl (fun _=>rfl) rfl) ?_
 refine U.done (C.nx (U.start (U.ps 2 T rfl (U.bs T eI ([x60.1]:List Int) ?_))))
 obtain⟨y81,g⟩:=g
 refine U.ap T y81 ?_
 refine U.pd 1 T ?_
 exact St.wa [some 0,some 1,some 4] (j74 _ g)
 refine C.skip ?_
 exact St.wa (idR 3) (j74 _ g)
 refine U.start (U.ps 2 T rfl ?_)
 obtain⟨x71,y71,g⟩:=g
 refine U.r rfl (.none rfl) rfl rfl (by exact Rd.io T rfl rfl rfl rfl rfl rfl rfl y71) ?_
 refine U.r rfl (.none rfl) rfl rfl (by exact Rd.le T rfl rfl rfl (Qb y71).2.2 rfl rfl rfl) ?_
 refine U.ps 2 T rfl ?_
 refine g.cs (fun b72 g=>?_) fun b72 g=>?_
 refine U.sk' 6 5 false 93 b72 ?_
 refine U.pk b72 ?_
 refine U.done ?_
 exact St.wa (idR 3) (j70 _ g)
 refine U.pq 3 5 false 93 b72 T ?_
 refine U.r rfl (.tk 5 false 93 b72) rfl rfl (by exact Rd.io T rfl rfl rfl rfl rfl rfl rfl y71) ?_
 refine U.r rfl (.tk 5 false 93 b72) rfl rfl (by exact Rd.le T rfl rfl rfl (Qb y71).2.2 rfl rfl rfl) ?_
 refine U.pq 1 5 false 93 b72 T ?_
 refine U.pk' b72 ?_
 refine U.done ?_
 exact St.wa (idR 3) (j70 _ g)
 refine U.start (U.ps 3 T rfl ?_)
 refine g.cs (fun b63 g=>?_) fun b63 g=>?_
 refine U.pq 2 2 false 77 (ntF b63) T ?_
 refine U.k (Kb blocked x60.1 _ g) en25 (fun x64 g=>?_) (hw:=.take 2 false 77 _ (ntF b63) rfl rfl rfl)
 refine U.pk' (ntF b63) ?_
 refine U.done ?_
 exact St.wa (idR 3) (j62 _ g)
 refine U.sk' 3 2 false 77 (ntT b63) ?_
 refine U.pk (ntT b63) ?_
 refine U.done ?_
 exact St.wa (idR 3) (j62 _ g)
 refine C.exit (C.ex (C.ex (C.bex ?_)))
 exact St.wa (idR 3) (j48 _ g)
 refine C.ite rfl g (fun b41 g=>?_) fun b41 g=>?_
 refine U.start (U.ps 3 T rfl (U.k (ZL s_1 x30 _ g) en43 (fun x44 g=>?_)))
 refine U.pd 2 T ?_
 exact St.wa [some 0,some 1,some 3] (j40 _ g)
 refine C.skip ?_
 exact St.wa [some 0,some 1,some 3] (j40 _ g)
 refine C.exit (C.ex (C.ex (C.bex ?_)))
 exact St.wa [some 1] (j20 _ g)
 refine U.start (U.ps 3 T rfl ?_)
 refine g.cs (fun b8 g=>?_) fun b8 g=>?_
 refine U.sk' 4 2 false 23 b8 ?_
 refine U.pk b8 ?_
 refine U.ps 1 T rfl (U.sk' 7 8 false 29 rfl ?_)
 refine U.pk rfl ?_
 refine U.done ?_
 exact St.wa [some 0,some 2] (j7 _ g)
 refine U.pq 4 2 false 23 b8 T ?_
 refine U.pk' b8 ?_
 refine U.ps 1 T rfl ?_
 refine g.cs (fun b9 g=>?_) fun b9 g=>?_
 refine U.sk' 7 8 false 29 b9 ?_
 refine U.pk b9 ?_
 refine U.done ?_
 exact St.wa [some 0,some 2] (j7 _ g)
 refine U.pq 4 8 false 29 b9 T ?_
 obtain⟨x10,y10,g⟩:=g
 refine U.r rfl (.tk 8 false 29 b9) rfl rfl (by exact Rd.ix T rfl rfl rfl rfl rfl rfl y10) ?_
 refine U.pq 2 8 false 29 b9 T ?_
 refine U.pk' b9 ?_
 refine U.done ?_
 exact St.wa [some 0,some 2] (j7 _ g)
abbrev cE0 (s_1:ApiSite):Nat×AVal:=(0,.agg (Q1 s_1))
abbrev cE1:Nat×AVal:=(4,.v (.pointer none))
abbrev cE2 (s_1:ApiSite):Nat×AVal:=(5,.i (s_1.Floor.Kind.length:Int))
abbrev cE3:Nat×AVal:=(11,.p 0 0)
abbrev cE4:Nat×AVal:=(12,.p 0 3)
abbrev cE5 (s_1:ApiSite):Nat×AVal:=(13,.sl 1 eI s_1.Floor.Kind)
abbrev cE6 (s_1:ApiSite):Nat×AVal:=(14,.i (s_1.Floor.Kind.length:Int))
abbrev cE7 (s_1:ApiSite):Nat×AVal:=(15,.i (s_1.Floor.Kind.length:Int))
abbrev cE8 (s_1:ApiSite):Nat×AVal:=(17,.i (s_1.Floor.Kind.length:Int))
abbrev cE9 (s_1:ApiSite):Nat×AVal:=(19,.i (s_1.Floor.Kind.length:Int))
abbrev cE10 (s_1:ApiSite):Nat×Res:=(0,.box (Q1 s_1))
abbrev cE11 (s_1:ApiSite):Nat×Res:=(1,.val (.os 1 Qy (List.replicate (Int.toNat (s_1.Floor.Kind.length:Int)) [])))
theorem WQ (s_1:ApiSite) (blocked:List Int) (post:ReachGraph→Prop) (g:Ko s_1 blocked post):
  Tr Try.prog 44 [.agg (Q1 s_1),.sl 1 eI blocked] [] 0 (fun A H' k=>∃y,post y∧A=(.p 3 0)∧H'=[(0,.val (.os 1 Qy y.out)),(1,.val (.os 1 eOeI y.in_)),(2,.val (.os 1 eB y.home)),(3,.box [.o 0,.o 1,.o 2])]∧k=4):=by
 refine Tr.go Try.func44 Try.ntmps44 fun _ _ _ _ o=>?_
 unfold Ko at g
 refine C.ss (U.bx ?_)
 refine U.pd 1 T (C.xt ?_)
 refine U.pd 5 T (C.xs ?_)
 refine D.bq mix 9999 [] [1,2,3] (fun hQ hS ws M'=>?_)
 refine D.pq 3 (zl [0,2,4]) T ?_
 obtain⟨y7,g⟩:=g
 obtain⟨y8,g⟩:=g
 obtain⟨y9,g⟩:=g
 refine D.have false [cE0 s_1,(1,.sl 1 eI blocked),(2,.p 0 0),cE1,cE2 s_1,cE3,cE4,cE5 s_1,cE6 s_1,cE7 s_1,(16,.o 1),cE8 s_1,(18,.o 2),cE9 s_1,(20,.o 3),(21,.agg [.o 1,.o 2,.o 3])] [cE10 s_1,cE11 s_1,(2,.val (.os 1 eOeI (List.replicate (Int.toNat (s_1.Floor.Kind.length:Int)) []))),(3,.val (.os 1 eB (List.replicate (Int.toNat (s_1.Floor.Kind.length:Int)) false)))] 4 2 (bvA 9 [7,8]) ?_ fun hd6_7=>?_
 refine D.e1 7 rfl (.none rfl) (by exact Eff1.box rfl rfl rfl rfl rfl) (by kernel_rfl) rfl rfl ?_
 refine D.pq 1 [(8,[])] T ?_
 refine D.done (by kernel_rfl) ?_
 refine C.xs (C.ss (U.pd 2 T (C.nx ?_)))
 refine C.jn (fun (x12:List (List ReachStep)×List (List Int)×List Bool)=>[(6,.p 0 0)]) (fun x12=>[(0,.box [.o 1,.o 2,.o 3]),(1,.val (.os 1 Qy x12.1)),(2,.val (.os 1 eOeI x12.2.1)),(3,.val (.os 1 eB x12.2.2))]) 4 g (fun x12 g=>?_) fun J13 g j13=>?_
 refine C.xt (U.pd 2 T (C.nx (C.ret ?_)))
 exact C.g1 [some 1,some 2,some 3,some 0] T o ⟨({out:=x12.1,in_:=x12.2.1,home:=x12.2.2:ReachGraph}),g,rfl,rfl,rfl⟩
 refine C.block ?_
 refine St.wk (C.loop (fun (s14:List (List ReachStep)×List (List Int)×List Bool×Int)=>[(1,.sl 1 eI blocked),(2,.p 0 0),(6,.p 1 0),(23,.i (s_1.Floor.Kind.length:Int)),(24,.i s14.2.2.2)]) (fun s14=>[(0,.box (Q1 s_1)),(1,.box [.o 2,.o 3,.o 4]),(2,.val (.os 1 Qy s14.1)),(3,.val (.os 1 eOeI s14.2.1)),(4,.val (.os 1 eB s14.2.2.1))]) g (fun s14 Y15 g=>?_)) (Wk.a [some 0,some 4,some 1,some 2,some 3])
 refine C.ss (U.pd 1 T (C.xs ?_))
 refine C.ite rfl g (fun b18 g=>?_) fun b18 g=>?_
 refine C.skip (C.xs ?_)
 refine C.jn (fun (x19:List (List ReachStep)×List (List Int)×List Bool)=>[(1,.sl 1 eI blocked),(2,.p 0 0),(6,.p 1 0),(23,.i (s_1.Floor.Kind.length:Int)),(24,.i s14.2.2.2)]) (fun x19=>[(0,.box (Q1 s_1)),(1,.box [.o 2,.o 3,.o 4]),(2,.val (.os 1 Qy x19.1)),(3,.val (.os 1 eOeI x19.2.1)),(4,.val (.os 1 eB x19.2.2))]) 5 g (fun x19 g=>?_) fun J20 g j20=>?_
 refine C.nx (U.start (U.pd 2 T (C.nx ?_)))
 exact St.wk (C.next g) (Wk.a (idR 5))
 refine C.block (C.ss (U.pd 2 T (C.xs ?_)))
 refine D.bq mix 9 [0,1] [] (fun hQ hS ws M'=>?_)
 refine D.pq 7 (zl [0,1,2,3,4,5,6]) T ?_
 refine D.k 7 (XG s_1 s14.2.2.2 _ g) en51 fun x25 g=>?_
 obtain⟨x26,y26,g⟩:=g
 refine D.q 8 [] hQ hS rfl (.none rfl) rfl rfl (by exact Rd.io T rfl rfl rfl rfl rfl rfl rfl y26) rfl (by kernel_rfl) ?_
 refine D.ze1 rfl (.none rfl) (by exact Eff1.se T (z':=x25) rfl rfl rfl (Qb y26).2.2 rfl rfl rfl rfl rfl rfl rfl rfl (fun _=>rfl) rfl) (by kernel_rfl) (by kernel_rfl) ?_
 refine C.xt (U.pd 1 T (C.nx ?_))
 refine C.jn (fun (x29:List (List ReachStep)×List (List Int))=>[(1,.sl 1 eI blocked),(2,.p 0 0),(6,.p 1 0),(23,.i (s_1.Floor.Kind.length:Int)),(24,.i s14.2.2.2)]) (fun x29=>[(0,.box (Q1 s_1)),(1,.box [.o 2,.o 3,.o 4]),(2,.val (.os 1 Qy x29.1)),(3,.val (.os 1 eOeI x29.2)),(4,.val (.os 1 eB (s14.2.2.1.set (Int.toNat s14.2.2.2) x25)))]) 5 g (fun x29 g=>?_) fun J30 g j30=>?_
 refine C.bnx ?_
 exact St.wa (idR 5) (j20 _ g)
 refine C.block ?_
 refine St.wk (C.loop (fun (s31:List (List ReachStep)×List (List Int)×Int)=>[(1,.sl 1 eI blocked),(2,.p 0 0),(6,.p 1 0),(7,.i s14.2.2.2),(23,.i (s_1.Floor.Kind.length:Int)),(24,.i s14.2.2.2),(36,.i s31.2.2)]) (fun s31=>[(0,.box (Q1 s_1)),(1,.box [.o 2,.o 3,.o 4]),(2,.val (.os 1 Qy s31.1)),(3,.val (.os 1 eOeI s31.2.1)),(4,.val (.os 1 eB (s14.2.2.1.set (Int.toNat s14.2.2.2) x25)))]) g (fun s31 Y32 g=>?_)) (Wk.a (idR 5))
 refine C.ss (U.pd 1 T (C.xs ?_))
 refine C.ite rfl g (fun b35 g=>?_) fun b35 g=>?_
 refine C.skip (C.xs (C.block (C.ss (U.pd 2 T (C.xt ?_)))))
 refine U.ps 4 T rfl (U.k (Ge s_1.Floor s14.2.2.2 s31.2.2 _ g) en17 (fun x40 g=>?_))
 refine U.pd 5 T (C.xs ?_)
 refine C.jn (fun (x41:Bool)=>[(1,.sl 1 eI blocked),(2,.p 0 0),(6,.p 1 0),(7,.i s14.2.2.2),(8,.i s31.2.2),(9,.i x40.1),(23,.i (s_1.Floor.Kind.length:Int)),(24,.i s14.2.2.2),(36,.i s31.2.2),(53,.b x41)]) (fun x41=>[(0,.box (Q1 s_1)),(1,.box [.o 2,.o 3,.o 4]),(2,.val (.os 1 Qy s31.1)),(3,.val (.os 1 eOeI s31.2.1)),(4,.val (.os 1 eB (s14.2.2.1.set (Int.toNat s14.2.2.2) x25)))]) 5 g (fun x41 g=>?_) fun J42 g j42=>?_
 refine C.nx ?_
 refine C.jn (fun (x45:List (List ReachStep)×List (List Int))=>[(1,.sl 1 eI blocked),(2,.p 0 0),(6,.p 1 0),(7,.i s14.2.2.2),(23,.i (s_1.Floor.Kind.length:Int)),(24,.i s14.2.2.2),(36,.i s31.2.2)]) (fun x45=>[(0,.box (Q1 s_1)),(1,.box [.o 2,.o 3,.o 4]),(2,.val (.os 1 Qy x45.1)),(3,.val (.os 1 eOeI x45.2)),(4,.val (.os 1 eB (s14.2.2.1.set (Int.toNat s14.2.2.2) x25)))]) 5 g (fun x45 g=>?_) fun J46 g j46=>?_
 refine C.bnx (C.nx (U.start (U.pd 2 T (C.nx ?_))))
 exact St.wk (C.next g) (Wk.a (idR 5))
 refine C.ite rfl g (fun b47 g=>?_) fun b47 g=>?_
 refine C.seq ?_
 obtain⟨x50,y50,g⟩:=g
 refine St.lend (l:=2) (i:=(Int.toNat s14.2.2.2)) rfl (Qb y50).2.2 rfl (fun _=>rfl) ?_
 refine D.bq mix 21 [0,1,2] [5] (fun hQ hS ws M'=>?_)
 refine D.pq 10 (zl [0,1,2,3,4,5,6,7,8,9]) T ?_
 refine D.q 10 [] hQ hS rfl (.none rfl) rfl rfl (by exact Rd.il T rfl rfl rfl rfl rfl rfl rfl y50) rfl (by kernel_rfl) ?_
 refine D.q 11 [] hQ hS rfl (.none rfl) rfl rfl (by exact Rd.ll T rfl rfl rfl (.head _) rfl rfl rfl rfl) rfl (by kernel_rfl) ?_
 refine D.pq 4 (zl [12,13,14,15]) T ?_
 refine D.k 16 (XQ s_1 s31.2.2 x40.1 _ g) en20 fun x51 g=>?_
 refine D.pq 1 [(17,[])] T ?_
 refine D.e1 18 rfl (.none rfl) (by exact Eff1.bs T (enc:=Xf) (xs:=([({to_:=x40.1,price:=x51:ReachStep})]:List ReachStep)) rfl rfl rfl rfl rfl rfl rfl rfl rfl rfl (fun _ _=>rfl) rfl rfl) (by kernel_rfl) rfl rfl ?_
 obtain⟨y52,g⟩:=g
 refine D.e1 19 rfl (.none rfl) (by exact Eff1.ap T rfl rfl rfl rfl rfl rfl (.inr ⟨_,rfl,rfl⟩) rfl rfl rfl (fun _=>rfl) rfl y52) (by kernel_rfl) rfl rfl ?_
 refine D.q 20 [] hQ hS rfl (.none rfl) rfl rfl (by exact Rd.il T rfl rfl rfl rfl rfl rfl rfl y50) rfl (by kernel_rfl) ?_
 refine D.ze1 rfl (.none rfl) (by exact Eff1.sl T rfl rfl rfl (fun _ h=>nomatch h) rfl rfl rfl rfl) (by kernel_rfl) (by kernel_rfl) ?_
 refine St.putb (l:=2) (l':=7) (y:=(x50++([({to_:=x40.1,price:=x51:ReachStep})]:List ReachStep))) rfl rfl rfl (fun _ h=>nomatch h) rfl _ rfl ?_
 refine C.nx ?_
 obtain⟨x55,y55,g⟩:=g
 refine St.lend (l:=3) (i:=(Int.toNat x40.1)) rfl (Qb y55).2.2 rfl (fun _=>rfl) ?_
 refine D.bq mix 16 [1,3] [8] (fun hQ hS ws M'=>?_)
 refine D.pq 10 (zl [0,1,2,3,4,5,6,7,8,9]) T ?_
 refine D.q 10 [] hQ hS rfl (.none rfl) rfl rfl (by exact Rd.il T rfl rfl rfl rfl rfl rfl rfl y55) rfl (by kernel_rfl) ?_
 refine D.q 11 [] hQ hS rfl (.none rfl) rfl rfl (by exact Rd.ll T rfl rfl rfl (.head _) rfl rfl rfl rfl) rfl (by kernel_rfl) ?_
 refine D.pq 1 [(12,[])] T ?_
 refine D.e1 13 rfl (.none rfl) (by exact Eff1.bs T (enc:=eI) (xs:=([s14.2.2.2]:List Int)) rfl rfl rfl rfl rfl rfl rfl rfl rfl rfl (fun _ _=>rfl) rfl rfl) (by kernel_rfl) rfl rfl ?_
 obtain⟨y56,g⟩:=g
 refine D.e1 14 rfl (.none rfl) (by exact Eff1.ap T rfl rfl rfl rfl rfl rfl (.inr ⟨_,rfl,rfl⟩) rfl rfl rfl (fun _=>rfl) rfl y56) (by kernel_rfl) rfl rfl ?_
 refine D.q 15 [] hQ hS rfl (.none rfl) rfl rfl (by exact Rd.il T rfl rfl rfl rfl rfl rfl rfl y55) rfl (by kernel_rfl) ?_
 refine D.ze1 rfl (.none rfl) (by exact Eff1.sl T rfl rfl rfl (fun _ h=>nomatch h) rfl rfl rfl rfl) (by kernel_rfl) (by kernel_rfl) ?_
 refine St.putb (l:=3) (l':=10) (y:=(x55++([s14.2.2.2]:List Int))) rfl rfl rfl (fun _ h=>nomatch h) rfl _ rfl ?_
 exact St.wa (idR 5) (j46 _ g)
 refine C.skip ?_
 exact St.wa (idR 5) (j46 _ g)
 refine U.start (U.ps 2 T rfl ?_)
 refine g.cs (fun b43 g=>?_) fun b43 g=>?_
 refine U.pq 2 1 true 48 b43 T ?_
 refine U.k (Kb blocked x40.1 _ g) en25 (fun x44 g=>?_) (hw:=.take 1 true 48 _ b43 rfl rfl rfl)
 refine U.pq 1 1 true 48 b43 T ?_
 refine U.pk b43 ?_
 refine U.done ?_
 exact St.wa (idR 5) (j42 _ g)
 refine U.sk' 4 1 true 48 b43 ?_
 refine U.pk' b43 ?_
 refine U.done ?_
 exact St.wa (idR 5) (j42 _ g)
 refine C.exit (C.ex (C.ex (C.bex ?_)))
 exact St.wa (idR 5) (j30 _ g)
 refine C.exit (C.ex (C.ex (C.bex ?_)))
 exact St.wa (sqR 1 4) (j13 _ g)
 refine D.have false [cE0 s_1,(1,.sl 1 eI blocked),(2,.p 0 0),cE1,cE2 s_1,cE3,cE4,cE5 s_1,cE6 s_1,cE7 s_1,(16,.o 1),cE8 s_1,(18,.o 2),cE9 s_1] [cE10 s_1,cE11 s_1,(2,.val (.os 1 eOeI (List.replicate (Int.toNat (s_1.Floor.Kind.length:Int)) [])))] 3 4 (bvA 9 [5,6,7,8]) ?_ fun hd6_4=>?_
 refine D.all 5 [] (by kernel_rfl) ⟨?_,trivial⟩
 refine D.ef1 rfl (.none rfl) (by exact Eff1.mk T (enc:=eB) (z0:=false) rfl rfl rfl rfl rfl rfl rfl rfl rfl rfl y9) rfl rfl ?_
 refine D.pq 1 [(6,[])] T ?_
 exact D.tq [0,1,2,3] hd6_7
 refine D.have false [cE0 s_1,(1,.sl 1 eI blocked),(2,.p 0 0),cE1,cE2 s_1,cE3,cE4,cE5 s_1,cE6 s_1,cE7 s_1,(16,.o 1),cE8 s_1,cE9 s_1,(20,.o 2)] [cE10 s_1,cE11 s_1,(2,.val (.os 1 eB (List.replicate (Int.toNat (s_1.Floor.Kind.length:Int)) false)))] 3 4 (bvA 9 [3,6,7,8]) ?_ fun hd6_5=>?_
 refine D.all 3 [] (by kernel_rfl) ⟨?_,trivial⟩
 refine D.ef1 rfl (.none rfl) (by exact Eff1.re (A':=.os 1 eOeI (List.replicate (Int.toNat (s_1.Floor.Kind.length:Int)) [])) (Eff1.mk T (enc:=fun _:Unit=>[vN]) (z0:=()) rfl rfl rfl rfl rfl rfl rfl rfl rfl rfl y8) (fun _ _ _ _ _ h=>(NlR.rep (.cons (.os _ _) .nil) _).on h)) rfl rfl ?_
 refine D.pq 1 [(6,[])] T ?_
 exact D.tq [0,1,3,2] hd6_7
 refine D.have false [cE0 s_1,(1,.sl 1 eI blocked),(2,.p 0 0),cE1,cE2 s_1,cE3,cE4,cE5 s_1,cE6 s_1,cE7 s_1,cE8 s_1,(18,.o 1),cE9 s_1,(20,.o 2)] [cE10 s_1,(1,.val (.os 1 eOeI (List.replicate (Int.toNat (s_1.Floor.Kind.length:Int)) []))),(2,.val (.os 1 eB (List.replicate (Int.toNat (s_1.Floor.Kind.length:Int)) false)))] 3 4 (bvA 9 [1,6,7,8]) ?_ fun hd6_6=>?_
 refine D.all 1 [] (by kernel_rfl) ⟨?_,trivial⟩
 refine D.ef1 rfl (.none rfl) (by exact Eff1.re (A':=.os 1 Qy (List.replicate (Int.toNat (s_1.Floor.Kind.length:Int)) [])) (Eff1.mk T (enc:=fun _:Unit=>[vN]) (z0:=()) rfl rfl rfl rfl rfl rfl rfl rfl rfl rfl y7) (fun _ _ _ _ _ h=>(NlR.rep (.cons (.os _ _) .nil) _).on h)) rfl rfl ?_
 refine D.pq 1 [(6,[])] T ?_
 exact D.tq [0,3,1,2] hd6_7
 refine D.have false [cE0 s_1,(1,.sl 1 eI blocked),(2,.p 0 0),cE1,cE2 s_1,cE3,cE4,cE5 s_1,cE6 s_1,cE7 s_1,(16,.o 1),cE8 s_1,cE9 s_1] [cE10 s_1,cE11 s_1] 2 5 (bvA 9 [3,5,6,7,8]) ?_ fun hd6_1=>?_
 refine D.all 3 [5] (by kernel_rfl) ⟨?_,?_,trivial⟩
 refine D.ef1 rfl (.none rfl) (by exact Eff1.re (A':=.os 1 eOeI (List.replicate (Int.toNat (s_1.Floor.Kind.length:Int)) [])) (Eff1.mk T (enc:=fun _:Unit=>[vN]) (z0:=()) rfl rfl rfl rfl rfl rfl rfl rfl rfl rfl y8) (fun _ _ _ _ _ h=>(NlR.rep (.cons (.os _ _) .nil) _).on h)) rfl rfl ?_
 exact D.tq [0,1,2] hd6_4
 refine D.ef1 rfl (.none rfl) (by exact Eff1.mk T (enc:=eB) (z0:=false) rfl rfl rfl rfl rfl rfl rfl rfl rfl rfl y9) rfl rfl ?_
 exact D.tq [0,1,2] hd6_5
 refine D.have false [cE0 s_1,(1,.sl 1 eI blocked),(2,.p 0 0),cE1,cE2 s_1,cE3,cE4,cE5 s_1,cE6 s_1,cE7 s_1,cE8 s_1,(18,.o 1),cE9 s_1] [cE10 s_1,(1,.val (.os 1 eOeI (List.replicate (Int.toNat (s_1.Floor.Kind.length:Int)) [])))] 2 5 (bvA 9 [1,5,6,7,8]) ?_ fun hd6_2=>?_
 refine D.all 1 [5] (by kernel_rfl) ⟨?_,?_,trivial⟩
 refine D.ef1 rfl (.none rfl) (by exact Eff1.re (A':=.os 1 Qy (List.replicate (Int.toNat (s_1.Floor.Kind.length:Int)) [])) (Eff1.mk T (enc:=fun _:Unit=>[vN]) (z0:=()) rfl rfl rfl rfl rfl rfl rfl rfl rfl rfl y7) (fun _ _ _ _ _ h=>(NlR.rep (.cons (.os _ _) .nil) _).on h)) rfl rfl ?_
 exact D.tq [0,2,1] hd6_4
 refine D.ef1 rfl (.none rfl) (by exact Eff1.mk T (enc:=eB) (z0:=false) rfl rfl rfl rfl rfl rfl rfl rfl rfl rfl y9) rfl rfl ?_
 exact D.tq [0,1,2] hd6_6
 refine D.have false [cE0 s_1,(1,.sl 1 eI blocked),(2,.p 0 0),cE1,cE2 s_1,cE3,cE4,cE5 s_1,cE6 s_1,cE7 s_1,cE8 s_1,cE9 s_1,(20,.o 1)] [cE10 s_1,(1,.val (.os 1 eB (List.replicate (Int.toNat (s_1.Floor.Kind.length:Int)) false)))] 2 5 (bvA 9 [1,3,6,7,8]) ?_ fun hd6_3=>?_
 refine D.all 1 [3] (by kernel_rfl) ⟨?_,?_,trivial⟩
 refine D.ef1 rfl (.none rfl) (by exact Eff1.re (A':=.os 1 Qy (List.replicate (Int.toNat (s_1.Floor.Kind.length:Int)) [])) (Eff1.mk T (enc:=fun _:Unit=>[vN]) (z0:=()) rfl rfl rfl rfl rfl rfl rfl rfl rfl rfl y7) (fun _ _ _ _ _ h=>(NlR.rep (.cons (.os _ _) .nil) _).on h)) rfl rfl ?_
 exact D.tq [0,2,1] hd6_5
 refine D.ef1 rfl (.none rfl) (by exact Eff1.re (A':=.os 1 eOeI (List.replicate (Int.toNat (s_1.Floor.Kind.length:Int)) [])) (Eff1.mk T (enc:=fun _:Unit=>[vN]) (z0:=()) rfl rfl rfl rfl rfl rfl rfl rfl rfl rfl y8) (fun _ _ _ _ _ h=>(NlR.rep (.cons (.os _ _) .nil) _).on h)) rfl rfl ?_
 exact D.tq [0,2,1] hd6_6
 refine D.all 1 [3,5] (by kernel_rfl) ⟨?_,?_,?_,trivial⟩
 refine D.ef1 rfl (.none rfl) (by exact Eff1.re (A':=.os 1 Qy (List.replicate (Int.toNat (s_1.Floor.Kind.length:Int)) [])) (Eff1.mk T (enc:=fun _:Unit=>[vN]) (z0:=()) rfl rfl rfl rfl rfl rfl rfl rfl rfl rfl y7) (fun _ _ _ _ _ h=>(NlR.rep (.cons (.os _ _) .nil) _).on h)) rfl rfl ?_
 exact D.tq [0,1] hd6_1
 refine D.ef1 rfl (.none rfl) (by exact Eff1.re (A':=.os 1 eOeI (List.replicate (Int.toNat (s_1.Floor.Kind.length:Int)) [])) (Eff1.mk T (enc:=fun _:Unit=>[vN]) (z0:=()) rfl rfl rfl rfl rfl rfl rfl rfl rfl rfl y8) (fun _ _ _ _ _ h=>(NlR.rep (.cons (.os _ _) .nil) _).on h)) rfl rfl ?_
 exact D.tq [0,1] hd6_2
 refine D.ef1 rfl (.none rfl) (by exact Eff1.mk T (enc:=eB) (z0:=false) rfl rfl rfl rfl rfl rfl rfl rfl rfl rfl y9) rfl rfl ?_
 exact D.tq [0,1] hd6_3
theorem Gp (p0:Int) (post:Bool→Prop) (g:QP p0 post):
  Tr Try.prog 66 [.i p0] [] 0 (pB post):=by
 refine Tr.go Try.func66 Try.ntmps66 fun _ _ _ _ o=>?_
 unfold QP at g
 refine C.ss (U.pd 1 T (C.xt ?_))
 refine U.pd 1 T (C.nx (C.ret ?_))
 exact C.f1 T o (pBi g)
theorem W7 (g_1:ReachGraph) (fuel:List Int) (c:Int) (but:Int) (post:(Int×Int)→Prop) (g:QL g_1 fuel c but post):
  Tr Try.prog 81 [.rp [.sl 1 Qq g_1.out,.sl 1 eLeI g_1.in_,.sl 1 eB g_1.home],.sl 1 eI fuel,.i c,.i but] [] 0 (fun A H' k=>∃y,post y∧A=(.tup [.i y.1,.i y.2])∧H'=[]∧k=0):=by
 refine Tr.go Try.func81 Try.ntmps81 fun _ _ _ _ o=>?_
 unfold QL at g
 refine C.ss (U.pd 2 T (C.xt ?_))
 refine U.pd 2 T (C.xs (C.ss ?_))
 refine U.ps 5 T rfl ?_
 obtain⟨x7,y7,g⟩:=g
 refine U.ix T y7 ?_
 refine U.pd 3 T (C.nx ?_)
 refine C.jn (fun (x8:Int×Int)=>[(10,.i x8.1),(11,.i x8.2)]) (fun x8=>[]) 0 g (fun x8 g=>?_) fun J9 g j9=>?_
 refine C.xt (U.pd 4 T (C.nx (C.ret ?_)))
 exact C.f9 T o ⟨(x8.1,x8.2),g,rfl,rfl,rfl⟩
 refine C.block (St.wk (C.loop (fun (s10:Int×Int×Int)=>[(1,.sl 1 eI fuel),(3,.i but),(10,.i s10.1),(11,.i s10.2.1),(21,.sl 2 Xf x7),(22,.i (x7.length:Int)),(23,.i s10.2.2)]) (fun s10=>[]) g (fun s10 Y11 g=>?_)) (Wk.e))
 refine C.ss (U.pd 1 T (C.xs ?_))
 refine C.ite rfl g (fun b14 g=>?_) fun b14 g=>?_
 refine C.skip (C.xs (C.block (C.ss ?_)))
 obtain⟨x17,y17,g⟩:=g
 refine U.ix T y17 ?_
 refine U.ps 1 T rfl (U.al T ?_)
 refine U.st T ?_
 refine U.done (C.xs (D.bq mix 9999 [0] [] (fun hQ hS ws M'=>?_)))
 refine D.pq 3 (zl [0,1,2]) T ?_
 obtain⟨x20,y20,g⟩:=g
 refine D.ix 3 [] T y20 ?_
 refine D.pq 5 (zl [4,5,6,7,8]) T ?_
 refine D.done (by kernel_rfl) ?_
 refine C.xs ?_
 refine C.jn (fun (x21:Bool)=>[(1,.sl 1 eI fuel),(3,.i but),(10,.i s10.1),(11,.i s10.2.1),(13,.p 0 0),(14,.i (w64 (x20+x17.price))),(21,.sl 2 Xf x7),(22,.i (x7.length:Int)),(23,.i s10.2.2),(55,.b x21)]) (fun x21=>[(0,.box [.i x17.to_,.i x17.price])]) 1 g (fun x21 g=>?_) fun J22 g j22=>?_
 refine C.nx ?_
 refine C.jn (fun (x26:Int×Int)=>[(1,.sl 1 eI fuel),(3,.i but),(10,.i x26.1),(11,.i x26.2),(21,.sl 2 Xf x7),(22,.i (x7.length:Int)),(23,.i s10.2.2)]) (fun x26=>[]) 0 g (fun x26 g=>?_) fun J27 g j27=>?_
 refine C.bnx (C.nx (U.start (U.pd 2 T (C.nx ?_))))
 exact St.wk (C.next g) (Wk.e)
 refine C.ite rfl g (fun b28 g=>?_) fun b28 g=>?_
 refine D.bq mix 9999 [0] [] (fun hQ hS ws M'=>?_)
 refine D.pq 5 (zl [0,1,2,3,4]) T ?_
 refine D.done (by kernel_rfl) ?_
 exact St.wn (j27 _ g)
 refine C.skip ?_
 exact St.wn (j27 _ g)
 refine U.start (U.ps 5 T rfl ?_)
 refine g.cs (fun b23 g=>?_) fun b23 g=>?_
 refine U.pq 3 4 true 39 b23 T ?_
 refine U.r rfl (.tk 4 true 39 b23) rfl rfl (by exact Rd.ix T rfl rfl rfl rfl rfl rfl y20) ?_
 refine U.pq 2 4 true 39 b23 T ?_
 refine U.pk b23 ?_
 refine U.ps 1 T rfl ?_
 refine g.cs (fun b24 g=>?_) fun b24 g=>?_
 refine U.pq 3 12 true 47 b24 T ?_
 refine g.cs (fun b25 g=>?_) fun b25 g=>?_
 refine U.sk' 3 15 false 50 b25 ?_
 refine U.r rfl (.tk 12 true 47 b24) rfl rfl (by exact Rd.pk rfl rfl b25 rfl) ?_
 refine U.pk b24 ?_
 refine U.done ?_
 exact St.wa [some 0] (j22 _ g)
 refine U.pq 3 15 false 50 b25 T ?_
 refine U.r rfl (.tk 12 true 47 b24) rfl rfl (by exact Rd.pk' rfl rfl b25 rfl) ?_
 refine U.pk b24 ?_
 refine U.done ?_
 exact St.wa [some 0] (j22 _ g)
 refine U.sk' 3 12 true 47 b24 ?_
 refine U.sku 3 15 false 50 rfl rfl rfl ?_
 refine U.sk' 1 12 true 47 b24 ?_
 refine U.pk' b24 ?_
 refine U.done ?_
 exact St.wa [some 0] (j22 _ g)
 refine U.sk' 6 4 true 39 b23 ?_
 refine U.pk' b23 ?_
 refine U.ps 1 T rfl (U.sk' 3 12 true 47 rfl ?_)
 refine U.sku 3 15 false 50 rfl rfl rfl ?_
 refine U.sk' 1 12 true 47 rfl ?_
 refine U.pk' rfl ?_
 refine U.done ?_
 exact St.wa [some 0] (j22 _ g)
 refine C.exit (C.ex (C.ex (C.bex ?_)))
 exact St.wn (j9 _ g)
theorem Kc (g_1:ReachGraph) (but:Int) (fuel:List Int) (queue:List Int) (post:(List Int)→Prop) (g:Q9 g_1 but fuel queue post):
  Tr Try.prog 65 [.rp [.sl 1 Qq g_1.out,.sl 1 eLeI g_1.in_,.sl 1 eB g_1.home],.o 0,.o 1,.i but,.fn (.func 66) [] []] [(0,.val (.os 1 eI fuel)),(1,.val (.os 1 eI queue))] 2 (fun A H' k=>∃y,post y∧A=(.tup [])∧H'=[(0,.val (.os 1 eI y))]∧k=2):=by
 refine Tr.go Try.func65 Try.ntmps65 fun _ _ _ _ o=>?_
 unfold Q9 at g
 refine C.jn (fun (x1:List Int)=>[]) (fun x1=>[(0,.val (.os 1 eI x1))]) 2 g (fun x1 g=>?_) fun J2 g j2=>?_
 exact C.fg (idR 2) T o ⟨x1,g,rfl,rfl,rfl⟩
 refine C.block (St.wk (C.loop (fun (s3:List Int×List Int)=>[(0,.rp [.sl 1 Qq g_1.out,.sl 1 eLeI g_1.in_,.sl 1 eB g_1.home]),(1,.o 0),(2,.o 2),(3,.i but),(4,.fn (.func 66) [] [])]) (fun s3=>[(0,.val (.os 1 eI s3.1)),(2,.val (.os 1 eI s3.2))]) g (fun s3 Y4 g=>?_)) (Wk.a [some 0,some 1,some 1]))
 refine C.seq (C.ss (U.pd 3 T (C.nx ?_)))
 refine C.ite rfl g (fun b7 g=>?_) fun b7 g=>?_
 refine C.skip (C.xs ?_)
 refine C.jn (fun (x8:List Int×List Int)=>[(0,.rp [.sl 1 Qq g_1.out,.sl 1 eLeI g_1.in_,.sl 1 eB g_1.home]),(1,.o 0),(2,.o 2),(3,.i but),(4,.fn (.func 66) [] [])]) (fun x8=>[(0,.val (.os 1 eI x8.1)),(2,.val (.os 1 eI x8.2))]) 3 g (fun x8 g=>?_) fun J9 g j9=>?_
 refine C.nx (U.start (U.ps 1 T rfl ?_))
 obtain⟨y53,g⟩:=g
 refine U.e1 rfl (.none rfl) (by exact Eff1.sw T rfl rfl rfl rfl rfl rfl rfl rfl (.some _ rfl) (.none _) y53) ?_
 refine U.pd 1 T (C.nx ?_)
 exact St.wk (C.next g) (Wk.a [some 0,some 1,some 3])
 refine C.block (C.seq (D.bq mix 9999 [2] [] (fun hQ hS ws M'=>?_)))
 refine D.pq 5 (zl [0,1,2,3,4]) T ?_
 obtain⟨x12,y12,g⟩:=g
 refine D.q 5 [] hQ hS rfl (.none rfl) rfl rfl (by exact Rd.io T rfl rfl rfl rfl rfl rfl rfl y12) rfl (by kernel_rfl) ?_
 refine D.q 6 [] hQ hS rfl (.none rfl) rfl rfl (by exact Rd.le T rfl rfl rfl (Qb y12).2.2 rfl rfl rfl) rfl (by kernel_rfl) ?_
 obtain⟨x13,y13,g⟩:=g
 refine D.ix 7 [] T y13 ?_
 refine D.pq 3 (zl [8,9,10]) T ?_
 refine D.done (by kernel_rfl) ?_
 refine C.nx ?_
 refine C.jn (fun (x14:List Int×List Int)=>[(0,.rp [.sl 1 Qq g_1.out,.sl 1 eLeI g_1.in_,.sl 1 eB g_1.home]),(1,.o 0),(2,.o 2),(3,.i but),(4,.fn (.func 66) [] [])]) (fun x14=>[(0,.val (.os 1 eI x14.1)),(2,.val (.os 1 eI x14.2))]) 3 g (fun x14 g=>?_) fun J15 g j15=>?_
 refine C.bnx ?_
 exact St.wa (idR 3) (j9 _ g)
 refine C.block ?_
 refine St.wk (C.loop (fun (s16:List Int×List Int×Int)=>[(0,.rp [.sl 1 Qq g_1.out,.sl 1 eLeI g_1.in_,.sl 1 eB g_1.home]),(1,.o 0),(2,.o 2),(3,.i but),(4,.fn (.func 66) [] []),(27,.sl 1 eI x13),(28,.i (x13.length:Int)),(29,.i s16.2.2)]) (fun s16=>[(0,.val (.os 1 eI s16.1)),(2,.val (.os 1 eI s16.2.1))]) g (fun s16 Y17 g=>?_)) (Wk.a (idR 3))
 refine C.ss (U.pd 1 T (C.xs ?_))
 refine C.ite rfl g (fun b20 g=>?_) fun b20 g=>?_
 refine C.skip (C.xs ?_)
 refine C.jn (fun (x21:List Int×List Int)=>[(0,.rp [.sl 1 Qq g_1.out,.sl 1 eLeI g_1.in_,.sl 1 eB g_1.home]),(1,.o 0),(2,.o 2),(3,.i but),(4,.fn (.func 66) [] []),(27,.sl 1 eI x13),(28,.i (x13.length:Int)),(29,.i s16.2.2)]) (fun x21=>[(0,.val (.os 1 eI x21.1)),(2,.val (.os 1 eI x21.2))]) 3 g (fun x21 g=>?_) fun J22 g j22=>?_
 refine C.nx (U.start (U.pd 2 T (C.nx ?_)))
 exact St.wk (C.next g) (Wk.a (idR 3))
 refine C.block (C.ss ?_)
 obtain⟨x25,y25,g⟩:=g
 refine U.ix T y25 ?_
 refine U.pd 2 T (C.xs (C.seq ?_))
 refine C.jn (fun (x26:Bool)=>[(0,.rp [.sl 1 Qq g_1.out,.sl 1 eLeI g_1.in_,.sl 1 eB g_1.home]),(1,.o 0),(2,.o 2),(3,.i but),(4,.fn (.func 66) [] []),(11,.i x25),(27,.sl 1 eI x13),(28,.i (x13.length:Int)),(29,.i s16.2.2),(45,.b x26)]) (fun x26=>[(0,.val (.os 1 eI s16.1)),(2,.val (.os 1 eI s16.2.1))]) 3 g (fun x26 g=>?_) fun J27 g j27=>?_
 refine C.nx ?_
 refine C.ite rfl g (fun b31 g=>?_) fun b31 g=>?_
 refine C.exit (C.ex (C.bex ?_))
 exact St.wa (idR 3) (j22 _ g)
 refine C.skip (C.xt (U.ps 4 T rfl (U.k (W7 g_1 s16.1 x25 but _ g) en81 (fun x34 g=>?_))))
 refine U.pd 5 T (C.xs ?_)
 refine C.jn (fun (x35:Bool)=>[(0,.rp [.sl 1 Qq g_1.out,.sl 1 eLeI g_1.in_,.sl 1 eB g_1.home]),(1,.o 0),(2,.o 2),(3,.i but),(4,.fn (.func 66) [] []),(11,.i x25),(12,.i x34.1),(27,.sl 1 eI x13),(28,.i (x13.length:Int)),(29,.i s16.2.2),(70,.b x35)]) (fun x35=>[(0,.val (.os 1 eI s16.1)),(2,.val (.os 1 eI s16.2.1))]) 3 g (fun x35 g=>?_) fun J36 g j36=>?_
 refine C.nx ?_
 refine C.jn (fun (x40:List Int×List Int)=>[(0,.rp [.sl 1 Qq g_1.out,.sl 1 eLeI g_1.in_,.sl 1 eB g_1.home]),(1,.o 0),(2,.o 2),(3,.i but),(4,.fn (.func 66) [] []),(27,.sl 1 eI x13),(28,.i (x13.length:Int)),(29,.i s16.2.2)]) (fun x40=>[(0,.val (.os 1 eI x40.1)),(2,.val (.os 1 eI x40.2))]) 3 g (fun x40 g=>?_) fun J41 g j41=>?_
 refine C.bnx ?_
 exact St.wa (idR 3) (j22 _ g)
 refine C.ite rfl g (fun b42 g=>?_) fun b42 g=>?_
 refine C.ss (U.ps 3 T rfl ?_)
 obtain⟨x45,y45,g⟩:=g
 refine U.r rfl (.none rfl) rfl rfl (by exact Rd.io T rfl rfl rfl rfl rfl rfl rfl y45) ?_
 refine U.e1 rfl (.none rfl) (by exact Eff1.se T (z':=x34.1) rfl rfl rfl (Qb y45).2.2 rfl rfl rfl rfl rfl rfl rfl rfl (fun _=>rfl) rfl) ?_
 refine U.done (C.nx (U.start (U.ps 2 T rfl (U.bs T eI ([x25]:List Int) ?_))))
 obtain⟨y48,g⟩:=g
 refine U.ap T y48 ?_
 refine U.pd 1 T ?_
 exact St.wa [some 0,some 1,some 4] (j41 _ g)
 refine C.skip ?_
 exact St.wa (idR 3) (j41 _ g)
 refine U.start (U.ps 3 T rfl ?_)
 refine g.cs (fun b37 g=>?_) fun b37 g=>?_
 refine U.pq 2 2 true 56 b37 T ?_
 obtain⟨x38,y38,g⟩:=g
 refine U.r rfl (.tk 2 true 56 b37) rfl rfl (by exact Rd.io T rfl rfl rfl rfl rfl rfl rfl y38) ?_
 refine U.r rfl (.tk 2 true 56 b37) rfl rfl (by exact Rd.le T rfl rfl rfl (Qb y38).2.2 rfl rfl rfl) ?_
 refine U.pq 2 2 true 56 b37 T ?_
 refine g.cs (fun b39 g=>?_) fun b39 g=>?_
 refine U.sk' 6 8 false 62 b39 ?_
 refine U.r rfl (.tk 2 true 56 b37) rfl rfl (by exact Rd.pk rfl rfl b39 rfl) ?_
 refine U.pk b37 ?_
 refine U.done ?_
 exact St.wa (idR 3) (j36 _ g)
 refine U.pq 3 8 false 62 b39 T ?_
 refine U.r rfl (.tk 8 false 62 b39) rfl rfl (by exact Rd.io T rfl rfl rfl rfl rfl rfl rfl y38) ?_
 refine U.r rfl (.tk 8 false 62 b39) rfl rfl (by exact Rd.le T rfl rfl rfl (Qb y38).2.2 rfl rfl rfl) ?_
 refine U.pq 1 8 false 62 b39 T ?_
 refine U.r rfl (.tk 2 true 56 b37) rfl rfl (by exact Rd.pk' rfl rfl b39 rfl) ?_
 refine U.pk b37 ?_
 refine U.done ?_
 exact St.wa (idR 3) (j36 _ g)
 refine U.sk' 6 2 true 56 b37 ?_
 refine U.sku 6 8 false 62 rfl rfl rfl ?_
 refine U.sk' 1 2 true 56 b37 ?_
 refine U.pk' b37 ?_
 refine U.done ?_
 exact St.wa (idR 3) (j36 _ g)
 refine U.start (U.ps 5 T rfl ?_)
 obtain⟨x28,y28,g⟩:=g
 refine U.ix T y28 ?_
 refine U.ps 2 T rfl ?_
 refine g.cs (fun b29 g=>?_) fun b29 g=>?_
 refine U.sk' 4 7 false 40 b29 ?_
 refine U.pk b29 ?_
 refine U.done ?_
 exact St.wa (idR 3) (j27 _ g)
 refine U.pq 2 7 false 40 b29 T ?_
 refine U.k (Gp x25 _ g) en66 (fun x30 g=>?_) (hw:=.take 7 false 40 _ b29 rfl rfl rfl)
 refine U.pq 1 7 false 40 b29 T ?_
 refine U.pk' b29 ?_
 refine U.done ?_
 exact St.wa (idR 3) (j27 _ g)
 refine C.exit (C.ex (C.ex (C.bex ?_)))
 exact St.wa (idR 3) (j15 _ g)
 refine C.exit (C.ex (C.ex (C.bex ?_)))
 exact St.wk (j2 _ g) (Wk.mk' [some 0,some 1] rfl rfl trivial ⟨vL,trivial⟩ rfl)
theorem Wc (g_1:ReachGraph) (post:(List Int)→Prop) (g:K7 g_1 post):
  Tr Try.prog 45 [.rp [.sl 1 Qq g_1.out,.sl 1 eLeI g_1.in_,.sl 1 eB g_1.home]] [] 0 (fun A H' k=>∃y,post y∧A=(.o 0)∧H'=[(0,.val (.os 1 eI y))]∧k=1):=by
 refine Tr.go Try.func45 Try.ntmps45 fun _ _ _ _ o=>?_
 unfold K7 at g
 refine C.ss (U.pd 1 T (C.xt ?_))
 refine U.ps 5 T rfl ?_
 obtain⟨y5,g⟩:=g
 refine U.e1 rfl (.none rfl) (by exact Eff1.mk T (enc:=eI) (z0:=0) rfl rfl rfl rfl rfl rfl rfl rfl rfl rfl y5) ?_
 refine U.pd 1 T (C.xt ?_)
 refine U.pd 1 T (C.xs (C.ss ?_))
 refine U.pd 6 T (C.nx ?_)
 refine C.jn (fun (x10:List Int×List Int)=>[(0,.rp [.sl 1 Qq g_1.out,.sl 1 eLeI g_1.in_,.sl 1 eB g_1.home]),(3,.o 0),(4,.o 1)]) (fun x10=>[(0,.val (.os 1 eI x10.1)),(1,.val (.os 1 eI x10.2))]) 2 g (fun x10 g=>?_) fun J11 g j11=>?_
 refine C.xt (U.ps 3 T rfl (U.c (idR 2) (Kc g_1 (-1) x10.1 x10.2 _ g) en65 (fun x37 g=>?_)))
 refine U.done (C.xt (U.pd 2 T (C.nx (C.ret ?_))))
 exact C.g1 [some 0] T o ⟨x37,g,rfl,rfl,rfl⟩
 refine C.block ?_
 refine St.wk (C.loop (fun (s12:List Int×List Int×Int)=>[(0,.rp [.sl 1 Qq g_1.out,.sl 1 eLeI g_1.in_,.sl 1 eB g_1.home]),(3,.o 0),(4,.o 1),(16,.sl 1 eB g_1.home),(17,.i (g_1.home.length:Int)),(18,.i s12.2.2)]) (fun s12=>[(0,.val (.os 1 eI s12.1)),(1,.val (.os 1 eI s12.2.1))]) g (fun s12 Y13 g=>?_)) (Wk.mk' [some 0,none] rfl rfl ⟨⟨_,rfl,(.eq rfl)⟩,⟨_,rfl,(.eq rfl)⟩,⟨_,rfl,(.nilO _ _ ⟨rfl,rfl⟩ rfl)⟩,ChkG.eqs rfl⟩ ⟨vL,⟨_,rfl,.nil _ _⟩,trivial⟩ rfl)
 refine C.ss (U.pd 1 T (C.xs ?_))
 refine C.ite rfl g (fun b16 g=>?_) fun b16 g=>?_
 refine C.skip (C.xs (C.block (C.ss (U.ps 1 T rfl ?_))))
 obtain⟨x19,y19,g⟩:=g
 refine U.ix T y19 ?_
 refine U.pd 3 T (C.xt ?_)
 refine U.ps 2 T rfl ?_
 obtain⟨x22,y22,g⟩:=g
 refine U.r rfl (.none rfl) rfl rfl (by exact Rd.io T rfl rfl rfl rfl rfl rfl rfl y22) ?_
 refine U.e1 rfl (.none rfl) (by exact Eff1.se T (z':=(-1)) rfl rfl rfl (Qb y22).2.2 rfl rfl rfl rfl rfl rfl rfl rfl (fun _=>rfl) rfl) ?_
 refine U.done (C.xt (U.pd 1 T (C.nx ?_)))
 refine C.jn (fun (x25:List Int×List Int)=>[(0,.rp [.sl 1 Qq g_1.out,.sl 1 eLeI g_1.in_,.sl 1 eB g_1.home]),(3,.o 0),(4,.o 1),(16,.sl 1 eB g_1.home),(17,.i (g_1.home.length:Int)),(18,.i s12.2.2)]) (fun x25=>[(0,.val (.os 1 eI x25.1)),(1,.val (.os 1 eI x25.2))]) 2 g (fun x25 g=>?_) fun J26 g j26=>?_
 refine C.bnx (C.nx (U.start (U.pd 2 T (C.nx ?_))))
 exact St.wk (C.next g) (Wk.a (idR 2))
 refine C.ite rfl g (fun b27 g=>?_) fun b27 g=>?_
 refine C.ss (U.ps 2 T rfl (U.r rfl (.none rfl) rfl rfl (by exact Rd.io T rfl rfl rfl rfl rfl rfl rfl (Q1U y22)) ?_))
 refine U.e1 rfl (.none rfl) (by exact Eff1.se T (z':=0) rfl rfl rfl (Q23 (Qb y22).2.2) rfl rfl rfl rfl rfl rfl rfl rfl (fun _=>rfl) rfl) ?_
 refine U.done (C.nx (U.start (U.ps 2 T rfl (U.bs T eI ([s12.2.2]:List Int) ?_))))
 obtain⟨y32,g⟩:=g
 refine U.ap T y32 ?_
 refine U.pd 1 T ?_
 exact St.wa [some 0,some 3] (j26 _ g)
 refine C.skip ?_
 exact St.wa (idR 2) (j26 _ g)
 refine C.exit (C.ex (C.ex (C.bex ?_)))
 exact St.wa (idR 2) (j11 _ g)
theorem Zi (s_1:ApiSite) (blocked:List Int) (post:(List Int)→Prop) (g:X6 s_1 blocked post):
  Tr Try.prog 15 [.agg (Q1 s_1),.sl 1 eI blocked] [] 0 (fun A H' k=>∃y,post y∧A=(.o 0)∧H'=[(0,.val (.os 1 eI y))]∧k=1):=by
 refine Tr.go Try.func15 Try.ntmps15 fun _ _ _ _ o=>?_
 unfold X6 at g
 refine C.ss (U.bx ?_)
 refine U.pd 1 T (C.xt ?_)
 refine U.ps 2 T rfl (U.k (WQ s_1 blocked _ g) en44 (fun x5 g=>?_))
 refine U.k (Wc x5 _ g) en45 fun x6 g=>?_
 refine U.pd 1 T (C.nx (C.ret ?_))
 exact C.g1 [some 5] T o ⟨x6,g,rfl,rfl,rfl⟩
theorem Ye (s_1:ApiSite) (blocked:List Int) (a:Int) (b:Int) (post:Int→Prop) (g:KX s_1 blocked a b post):
  Tr Try.prog 16 [.agg (Q1 s_1),.sl 1 eI blocked,.i a,.i b] [] 0 (pI post):=by
 refine Tr.go Try.func16 Try.ntmps16 fun _ _ _ _ o=>?_
 unfold KX at g
 refine C.ss (U.bx ?_)
 refine U.pd 1 T (C.xs (C.seq ?_))
 refine C.jn (fun (x3:Bool)=>[(1,.sl 1 eI blocked),(2,.i a),(3,.i b),(4,.p 0 0),(18,.b x3)]) (fun x3=>[(0,.box (Q1 s_1))]) 1 g (fun x3 g=>?_) fun J4 g j4=>?_
 refine C.nx ?_
 refine C.ite rfl g (fun b6 g=>?_) fun b6 g=>?_
 refine C.ss (U.pd 1 T (C.nx (C.ret (C.rt ?_))))
 exact C.f1 T o (pIi g)
 refine C.skip (C.xt (U.ps 3 T rfl (U.k (WJ s_1 blocked a _ g) en14 (fun x11 g=>?_))))
 refine U.ps 1 T rfl ?_
 obtain⟨x12,y12,g⟩:=g
 refine U.r rfl (.none rfl) rfl rfl (by exact Rd.io T rfl rfl rfl rfl rfl rfl rfl y12) ?_
 refine U.r rfl (.none rfl) rfl rfl (by exact Rd.le T rfl rfl rfl (Qb y12).2.2 rfl rfl rfl) ?_
 refine U.pd 1 T (C.nx (C.ret ?_))
 exact C.f1 T o (pIi g)
 refine U.start (U.ps 3 T rfl ?_)
 refine g.cs (fun b5 g=>?_) fun b5 g=>?_
 refine U.sk' 6 2 false 11 b5 ?_
 refine U.pk b5 ?_
 refine U.done ?_
 exact St.wa [some 0] (j4 _ g)
 refine U.pq 6 2 false 11 b5 T ?_
 refine U.pk' b5 ?_
 refine U.done ?_
 exact St.wa [some 0] (j4 _ g)
theorem Wh (s_1:ApiSite) (c:Int) (post:Int→Prop) (g:Kt s_1 c post):
  Tr Try.prog 18 [.agg (Q1 s_1),.i c] [] 0 (pI post):=by
 refine Tr.go Try.func18 Try.ntmps18 fun _ _ _ _ o=>?_
 unfold Kt at g
 refine C.ss (U.bx ?_)
 refine U.pd 1 T (C.xs (C.ss ?_))
 refine U.ps 4 T rfl ?_
 obtain⟨x5,y5,g⟩:=g
 refine U.ix T y5 ?_
 refine U.pd 2 T (C.nx ?_)
 refine C.ite rfl g (fun b6 g=>?_) fun b6 g=>?_
 refine C.ss (U.pd 1 T (C.nx (C.ret (C.rt ?_))))
 exact C.f1 T o (pIi g)
 refine C.skip (C.xt (U.ps 2 T rfl (U.k (XJ s_1 c _ g) en47 (fun x11 g=>?_))))
 refine U.ps 1 T rfl (U.k (Gb _ g) en48 (fun x12 g=>?_))
 refine U.pd 2 T (C.nx (C.ret ?_))
 exact C.f1 T o (pIi g)
theorem XW (s_1:ApiSite) (blocked:List Int) (a:Int) (post:Bool→Prop) (g:V_taquinlaw34_DockFuel s_1 blocked a post):
  Tr Try.prog 5 [.agg (Q1 s_1),.sl 1 eI blocked,.i a] [] 0 (pB post):=by
 refine Tr.go Try.func5 Try.ntmps5 fun _ _ _ _ o=>?_
 unfold V_taquinlaw34_DockFuel at g
 refine C.ss (U.bx ?_)
 refine U.pd 1 T (C.xt ?_)
 refine U.k (Gy _ g) en6 fun x5 g=>?_
 refine U.pd 1 T (C.xs (C.seq ?_))
 refine C.jn (fun (x6:Bool)=>[(1,.sl 1 eI blocked),(2,.i a),(3,.p 0 0),(7,.b x5),(29,.b x6)]) (fun x6=>[(0,.box (Q1 s_1))]) 1 g (fun x6 g=>?_) fun J7 g j7=>?_
 refine C.nx ?_
 refine C.ite rfl g (fun b12 g=>?_) fun b12 g=>?_
 refine C.ss (U.pd 2 T (C.nx (C.ret (C.rt ?_))))
 exact C.f1 T o (pBi g)
 refine C.skip (C.xt (U.ps 3 T rfl (U.k (WJ s_1 blocked a _ g) en14 (fun x17 g=>?_))))
 refine U.pd 1 T (C.xt ?_)
 refine U.ps 2 T rfl (U.k (Zi s_1 blocked _ g) en15 (fun x20 g=>?_))
 refine U.pd 1 T (C.xs (C.seq ?_))
 refine C.jn (fun (x21:Bool)=>[(1,.sl 1 eI blocked),(2,.i a),(3,.p 0 0),(7,.b x5),(8,.o 1),(9,.o 2),(51,.b x21)]) (fun x21=>[(0,.box (Q1 s_1)),(1,.val (.os 1 eI x17)),(2,.val (.os 1 eI x20))]) 3 g (fun x21 g=>?_) fun J22 g j22=>?_
 refine C.nx ?_
 refine C.ite rfl g (fun b24 g=>?_) fun b24 g=>?_
 refine C.ss (U.pd 1 T (C.nx (C.ret (C.rt ?_))))
 exact C.f1 T o (pBi g)
 refine C.skip (C.xt (U.pd 1 T (C.xs (C.ss ?_))))
 refine U.pd 1 T (C.nx ?_)
 refine C.jn (fun (x31:Int)=>[(1,.sl 1 eI blocked),(2,.i a),(3,.p 0 0),(7,.b x5),(8,.o 1),(9,.o 2),(10,.i x31)]) (fun x31=>[(0,.box (Q1 s_1)),(1,.val (.os 1 eI x17)),(2,.val (.os 1 eI x20))]) 3 g (fun x31 g=>?_) fun J32 g j32=>?_
 refine C.xs (C.seq ?_)
 refine C.jn (fun (x101:Bool)=>[(1,.sl 1 eI blocked),(2,.i a),(3,.p 0 0),(7,.b x5),(8,.o 1),(9,.o 2),(10,.i x31),(170,.b x101)]) (fun x101=>[(0,.box (Q1 s_1)),(1,.val (.os 1 eI x17)),(2,.val (.os 1 eI x20))]) 3 g (fun x101 g=>?_) fun J102 g j102=>?_
 refine C.nx ?_
 refine C.ite rfl g (fun b104 g=>?_) fun b104 g=>?_
 refine C.seq ?_
 refine C.jn (fun (x105:Bool)=>[(6,.b x105)]) (fun x105=>[]) 0 g (fun x105 g=>?_) fun J106 g j106=>?_
 refine C.nx (C.ret (C.rt ?_))
 exact C.f1 T o (pBi g)
 refine U.start (U.ps 2 T rfl ?_)
 refine g.cs (fun b107 g=>?_) fun b107 g=>?_
 refine U.pq 2 1 true 172 b107 T ?_
 refine U.pk b107 ?_
 refine U.ps 1 T rfl ?_
 refine g.cs (fun b108 g=>?_) fun b108 g=>?_
 refine U.pq 3 5 true 176 b108 T ?_
 refine U.k (Ye s_1 blocked a 0 _ g) en16 (fun x109 g=>?_) (hw:=.take 5 true 176 _ b108 rfl rfl rfl)
 refine U.pq 1 5 true 176 b108 T ?_
 refine U.pk b108 ?_
 refine U.pd 1 T ?_
 exact St.wn (j106 _ g)
 refine U.sk' 5 5 true 176 b108 ?_
 refine U.pk' b108 ?_
 refine U.pd 1 T ?_
 exact St.wn (j106 _ g)
 refine U.sk' 2 1 true 172 b107 ?_
 refine U.pk' b107 ?_
 refine U.ps 1 T rfl (U.sk' 5 5 true 176 rfl ?_)
 refine U.pk' rfl ?_
 refine U.pd 1 T ?_
 exact St.wn (j106 _ g)
 refine C.skip (C.xs ?_)
 refine C.jn (fun (x110:Bool)=>[(6,.b x110)]) (fun x110=>[]) 0 g (fun x110 g=>?_) fun J111 g j111=>?_
 refine C.nx (C.ret ?_)
 exact C.f1 T o (pBi g)
 refine D.bq mix 9999 [0,1,2] [] (fun hQ hS ws M'=>?_)
 refine D.pq 2 (zl [0,1]) T ?_
 refine g.cs (fun b112 g=>?_) fun b112 g=>?_
 refine D.pt 2 [] 1 true 184 b112 T ?_
 refine D.pt 3 [] 1 true 184 b112 T ?_
 obtain⟨x113,y113,g⟩:=g
 refine D.q 4 [] hQ hS rfl (.tk 1 true 184 b112) rfl rfl (by exact Rd.io T rfl rfl rfl rfl rfl rfl rfl y113) rfl (by kernel_rfl) ?_
 refine D.q 5 [] hQ hS rfl (.tk 1 true 184 b112) rfl rfl (by exact Rd.le T rfl rfl rfl (Qb y113).2.2 rfl rfl rfl) rfl (by kernel_rfl) ?_
 refine D.pt 6 [] 1 true 184 b112 T ?_
 refine D.pt 7 [] 1 true 184 b112 T ?_
 refine D.kt 8 [] b112 ?_
 refine D.pq 1 [(9,[])] T ?_
 refine g.cs (fun b114 g=>?_) fun b114 g=>?_
 refine D.pt 10 [] 9 true 192 b114 T ?_
 refine D.pt 11 [] 9 true 192 b114 T ?_
 obtain⟨x115,y115,g⟩:=g
 refine D.q 12 [] hQ hS rfl (.tk 9 true 192 b114) rfl rfl (by exact Rd.io T rfl rfl rfl rfl rfl rfl rfl y115) rfl (by kernel_rfl) ?_
 refine D.q 13 [] hQ hS rfl (.tk 9 true 192 b114) rfl rfl (by exact Rd.le T rfl rfl rfl (Qb y115).2.2 rfl rfl rfl) rfl (by kernel_rfl) ?_
 refine D.pt 14 [] 9 true 192 b114 T ?_
 refine D.pt 15 [] 9 true 192 b114 T ?_
 refine D.pt 16 [] 9 true 192 b114 T ?_
 refine D.q 17 [] hQ hS rfl (.tk 9 true 192 b114) rfl rfl (by exact Rd.l T rfl rfl rfl) rfl (by kernel_rfl) ?_
 refine D.pt 18 [] 9 true 192 b114 T ?_
 obtain⟨x116,y116,g⟩:=g
 refine D.q 19 [] hQ hS rfl (.tk 9 true 192 b114) rfl rfl (by exact Rd.ix T rfl rfl rfl rfl rfl rfl y116) rfl (by kernel_rfl) ?_
 refine D.q 20 [] hQ hS rfl (.tk 9 true 192 b114) rfl rfl (by exact Rd.l T rfl rfl rfl) rfl (by kernel_rfl) ?_
 refine D.pt 21 [] 9 true 192 b114 T ?_
 refine D.pt 22 [] 9 true 192 b114 T ?_
 refine D.kt 23 [] b114 ?_
 refine D.pq 1 [(24,[])] T ?_
 refine D.done (by kernel_rfl) ?_
 exact St.wn (j111 _ g)
 refine D.sz 10 [] 9 true 192 b114 ?_
 refine D.sz 11 [] 9 true 192 b114 ?_
 refine D.sz 12 [] 9 true 192 b114 ?_
 refine D.sz 13 [] 9 true 192 b114 ?_
 refine D.sz 14 [] 9 true 192 b114 ?_
 refine D.sz 15 [] 9 true 192 b114 ?_
 refine D.sz 16 [] 9 true 192 b114 ?_
 refine D.sz 17 [] 9 true 192 b114 ?_
 refine D.sz 18 [] 9 true 192 b114 ?_
 refine D.sz 19 [] 9 true 192 b114 ?_
 refine D.sz 20 [] 9 true 192 b114 ?_
 refine D.sz 21 [] 9 true 192 b114 ?_
 refine D.sz 22 [] 9 true 192 b114 ?_
 refine D.kf 23 [] b114 ?_
 refine D.pq 1 [(24,[])] T ?_
 refine D.done (by kernel_rfl) ?_
 exact St.wn (j111 _ g)
 refine D.sz 2 [] 1 true 184 b112 ?_
 refine D.sz 3 [] 1 true 184 b112 ?_
 refine D.sz 4 [] 1 true 184 b112 ?_
 refine D.sz 5 [] 1 true 184 b112 ?_
 refine D.sz 6 [] 1 true 184 b112 ?_
 refine D.sz 7 [] 1 true 184 b112 ?_
 refine D.kf 8 [] b112 ?_
 refine D.pq 1 [(9,[])] T ?_
 refine D.sz 10 [] 9 true 192 rfl ?_
 refine D.sz 11 [] 9 true 192 rfl ?_
 refine D.sz 12 [] 9 true 192 rfl ?_
 refine D.sz 13 [] 9 true 192 rfl ?_
 refine D.sz 14 [] 9 true 192 rfl ?_
 refine D.sz 15 [] 9 true 192 rfl ?_
 refine D.sz 16 [] 9 true 192 rfl ?_
 refine D.sz 17 [] 9 true 192 rfl ?_
 refine D.sz 18 [] 9 true 192 rfl ?_
 refine D.sz 19 [] 9 true 192 rfl ?_
 refine D.sz 20 [] 9 true 192 rfl ?_
 refine D.sz 21 [] 9 true 192 rfl ?_
 refine D.sz 22 [] 9 true 192 rfl ?_
 refine D.kf 23 [] rfl ?_
 refine D.pq 1 [(24,[])] T ?_
 refine D.done (by kernel_rfl) ?_
 exact St.wn (j111 _ g)
 refine U.start (U.ps 3 T rfl ?_)
 refine g.cs (fun b103 g=>?_) fun b103 g=>?_
 refine U.sk' 4 2 false 165 b103 ?_
 refine U.pk b103 ?_
 refine U.done ?_
 exact St.wa (idR 3) (j102 _ g)
 refine U.pq 4 2 false 165 b103 T ?_
 refine U.pk' b103 ?_
 refine U.done ?_
 exact St.wa (idR 3) (j102 _ g)
 refine C.block (St.wk (C.loop (fun (s33:Int×Int)=>[(1,.sl 1 eI blocked),(2,.i a),(3,.p 0 0),(7,.b x5),(8,.o 1),(9,.o 2),(10,.i s33.1),(11,.i s33.2)]) (fun s33=>[(0,.box (Q1 s_1)),(1,.val (.os 1 eI x17)),(2,.val (.os 1 eI x20))]) g (fun s33 Y34 g=>?_)) (Wk.a (idR 3)))
 refine C.seq (C.ss (U.pd 4 T (C.nx ?_)))
 refine C.ite rfl g (fun b37 g=>?_) fun b37 g=>?_
 refine C.skip (C.xs ?_)
 refine C.jn (fun (x38:Int)=>[(1,.sl 1 eI blocked),(2,.i a),(3,.p 0 0),(7,.b x5),(8,.o 1),(9,.o 2),(10,.i x38),(11,.i s33.2)]) (fun x38=>[(0,.box (Q1 s_1)),(1,.val (.os 1 eI x17)),(2,.val (.os 1 eI x20))]) 3 g (fun x38 g=>?_) fun J39 g j39=>?_
 refine C.nx (U.start (U.pd 3 T (C.nx ?_)))
 exact St.wk (C.next g) (Wk.a (idR 3))
 refine C.block (C.seq (C.seq ?_))
 refine C.jn (fun (x40:Bool)=>[(1,.sl 1 eI blocked),(2,.i a),(3,.p 0 0),(7,.b x5),(8,.o 1),(9,.o 2),(10,.i s33.1),(11,.i s33.2),(83,.b x40)]) (fun x40=>[(0,.box (Q1 s_1)),(1,.val (.os 1 eI x17)),(2,.val (.os 1 eI x20))]) 3 g (fun x40 g=>?_) fun J41 g j41=>?_
 refine C.nx ?_
 refine C.jn (fun (x47:Int)=>[(1,.sl 1 eI blocked),(2,.i a),(3,.p 0 0),(7,.b x5),(8,.o 1),(9,.o 2),(10,.i x47),(11,.i s33.2)]) (fun x47=>[(0,.box (Q1 s_1)),(1,.val (.os 1 eI x17)),(2,.val (.os 1 eI x20))]) 3 g (fun x47 g=>?_) fun J48 g j48=>?_
 refine C.xs (C.seq ?_)
 refine C.jn (fun (x53:Bool)=>[(1,.sl 1 eI blocked),(2,.i a),(3,.p 0 0),(7,.b x5),(8,.o 1),(9,.o 2),(10,.i x47),(11,.i s33.2),(104,.b x53)]) (fun x53=>[(0,.box (Q1 s_1)),(1,.val (.os 1 eI x17)),(2,.val (.os 1 eI x20))]) 3 g (fun x53 g=>?_) fun J54 g j54=>?_
 refine C.nx ?_
 refine C.ite rfl g (fun b58 g=>?_) fun b58 g=>?_
 refine C.ss (U.pd 1 T (C.nx (C.ret (C.rt (C.brt (C.rt (C.rt (C.brt (C.rt ?_)))))))))
 exact C.f1 T o (pBi g)
 refine C.skip (C.xt (U.pd 1 T (C.nx ?_)))
 refine C.jn (fun (x63:Unit)=>[(1,.sl 1 eI blocked),(2,.i a),(3,.p 0 0),(7,.b x5),(8,.o 1),(9,.o 2),(10,.i x47),(11,.i s33.2)]) (fun x63=>[(0,.box (Q1 s_1)),(1,.val (.os 1 eI x17)),(2,.val (.os 1 eI x20))]) 3 g (fun x63 g=>?_) fun J64 g j64=>?_
 refine C.bnx ?_
 exact St.wa (idR 3) (j39 _ g)
 refine C.block (St.wk (C.loop (fun (s65:Int)=>[(1,.sl 1 eI blocked),(2,.i a),(3,.p 0 0),(7,.b x5),(8,.o 1),(9,.o 2),(10,.i x47),(11,.i s33.2),(12,.i s65)]) (fun s65=>[(0,.box (Q1 s_1)),(1,.val (.os 1 eI x17)),(2,.val (.os 1 eI x20))]) g (fun s65 Y66 g=>?_)) (Wk.a (idR 3)))
 refine C.seq (C.seq ?_)
 refine C.jn (fun (x67:Bool)=>[(1,.sl 1 eI blocked),(2,.i a),(3,.p 0 0),(7,.b x5),(8,.o 1),(9,.o 2),(10,.i x47),(11,.i s33.2),(12,.i s65),(113,.b x67)]) (fun x67=>[(0,.box (Q1 s_1)),(1,.val (.os 1 eI x17)),(2,.val (.os 1 eI x20))]) 3 g (fun x67 g=>?_) fun J68 g j68=>?_
 refine C.nx ?_
 refine C.ite rfl g (fun b71 g=>?_) fun b71 g=>?_
 refine C.skip (C.xs (C.block (C.ss (U.ps 4 T rfl (U.k (Ge s_1.Floor s33.2 s65 _ g) en17 (fun x74 g=>?_))))))
 refine U.pd 5 T (C.xt ?_)
 refine U.ps 2 T rfl ?_
 obtain⟨x77,y77,g⟩:=g
 refine U.r rfl (.none rfl) rfl rfl (by exact Rd.io T rfl rfl rfl rfl rfl rfl rfl y77) ?_
 refine U.r rfl (.none rfl) rfl rfl (by exact Rd.le T rfl rfl rfl (Qb y77).2.2 rfl rfl rfl) ?_
 refine U.pd 1 T (C.xs (C.ss ?_))
 refine U.pd 3 T (C.nx ?_)
 refine C.jn (fun (x80:Int)=>[(1,.sl 1 eI blocked),(2,.i a),(3,.p 0 0),(7,.b x5),(8,.o 1),(9,.o 2),(10,.i x47),(11,.i s33.2),(12,.i s65),(13,.i x74.1),(14,.b x74.2),(15,.i x80)]) (fun x80=>[(0,.box (Q1 s_1)),(1,.val (.os 1 eI x17)),(2,.val (.os 1 eI x20))]) 3 g (fun x80 g=>?_) fun J81 g j81=>?_
 refine C.xs ?_
 refine C.jn (fun (x86:Bool)=>[(1,.sl 1 eI blocked),(2,.i a),(3,.p 0 0),(7,.b x5),(8,.o 1),(9,.o 2),(10,.i x47),(11,.i s33.2),(12,.i s65),(162,.b x86)]) (fun x86=>[(0,.box (Q1 s_1)),(1,.val (.os 1 eI x17)),(2,.val (.os 1 eI x20))]) 3 g (fun x86 g=>?_) fun J87 g j87=>?_
 refine C.nx ?_
 refine C.ite rfl g (fun b94 g=>?_) fun b94 g=>?_
 refine C.ss (U.pd 1 T (C.nx (C.ret (C.brt (C.rt (C.rt (C.brt (C.brt (C.rt (C.rt (C.brt (C.rt ?_))))))))))))
 exact C.f1 T o (pBi g)
 refine C.skip (C.bnx (C.nx (U.start (U.pd 3 T (C.nx ?_)))))
 exact St.wk (C.next g) (Wk.a (idR 3))
 refine D.bq mix 9999 [0,1] [] (fun hQ hS ws M'=>?_)
 refine D.pq 2 (zl [0,1]) T ?_
 refine g.cs (fun b88 g=>?_) fun b88 g=>?_
 refine D.pt 2 [] 1 true 137 b88 T ?_
 refine D.pt 3 [] 1 true 137 b88 T ?_
 refine D.k 4 (KW blocked x74.1 _ g) en19 (fun x89 g=>?_) (hw:=.take 1 true 137 _ b88 rfl rfl rfl)
 refine D.pt 5 [] 1 true 137 b88 T ?_
 refine D.kt 6 [] b88 ?_
 refine D.pq 1 [(7,[])] T ?_
 refine g.cs (fun b90 g=>?_) fun b90 g=>?_
 refine D.sz 8 [] 7 true 143 (ntF b90) ?_
 refine D.sz 9 [] 7 true 143 (ntF b90) ?_
 refine D.sz 10 [] 7 true 143 (ntF b90) ?_
 refine D.sz 11 [] 7 true 143 (ntF b90) ?_
 refine D.sz 12 [] 7 true 143 (ntF b90) ?_
 refine D.sz 13 [] 7 true 143 (ntF b90) ?_
 refine D.sx 14 [] hQ hS (.und 13 false 149 rfl rfl rfl) ?_
 refine D.sx 15 [] hQ hS (.und 13 false 149 rfl rfl rfl) ?_
 refine D.sx 16 [] hQ hS (.und 13 false 149 rfl rfl rfl) ?_
 refine D.sx 17 [] hQ hS (.und 13 false 149 rfl rfl rfl) ?_
 refine D.sx 18 [] hQ hS (.und 13 false 149 rfl rfl rfl) ?_
 refine D.sx 19 [] hQ hS (.und 13 false 149 rfl rfl rfl) ?_
 refine D.sx 20 [] hQ hS (.und 13 false 149 rfl rfl rfl) ?_
 refine D.sx 21 [] hQ hS (.und 13 false 149 rfl rfl rfl) ?_
 refine D.sx 22 [] hQ hS (.und 13 false 149 rfl rfl rfl) ?_
 refine D.sx 23 [] hQ hS (.und 13 false 149 rfl rfl rfl) ?_
 refine D.sx 24 [] hQ hS (.und 13 false 149 rfl rfl rfl) ?_
 refine D.sz 25 [] 7 true 143 (ntF b90) ?_
 refine D.kf 26 [] (ntF b90) ?_
 refine D.done (by kernel_rfl) ?_
 exact St.wa (idR 3) (j87 _ g)
 refine D.pt 8 [] 7 true 143 (ntT b90) T ?_
 refine D.pt 9 [] 7 true 143 (ntT b90) T ?_
 obtain⟨x91,y91,g⟩:=g
 refine D.q 10 [] hQ hS rfl (.tk 7 true 143 (ntT b90)) rfl rfl (by exact Rd.io T rfl rfl rfl rfl rfl rfl rfl y91) rfl (by kernel_rfl) ?_
 refine D.q 11 [] hQ hS rfl (.tk 7 true 143 (ntT b90)) rfl rfl (by exact Rd.le T rfl rfl rfl (Qb y91).2.2 rfl rfl rfl) rfl (by kernel_rfl) ?_
 refine D.pt 12 [] 7 true 143 (ntT b90) T ?_
 refine D.pt 13 [] 7 true 143 (ntT b90) T ?_
 refine g.cs (fun b92 g=>?_) fun b92 g=>?_
 refine D.sz 14 [] 13 false 149 b92 ?_
 refine D.sz 15 [] 13 false 149 b92 ?_
 refine D.sz 16 [] 13 false 149 b92 ?_
 refine D.sz 17 [] 13 false 149 b92 ?_
 refine D.sz 18 [] 13 false 149 b92 ?_
 refine D.sz 19 [] 13 false 149 b92 ?_
 refine D.sz 20 [] 13 false 149 b92 ?_
 refine D.sz 21 [] 13 false 149 b92 ?_
 refine D.sz 22 [] 13 false 149 b92 ?_
 refine D.sz 23 [] 13 false 149 b92 ?_
 refine D.sz 24 [] 13 false 149 b92 ?_
 refine D.q 25 [] hQ hS rfl (.tk 7 true 143 (ntT b90)) rfl rfl (by exact Rd.pk rfl rfl b92 rfl) rfl (by kernel_rfl) ?_
 refine D.kt 26 [] (ntT b90) ?_
 refine D.done (by kernel_rfl) ?_
 exact St.wa (idR 3) (j87 _ g)
 refine D.pt 14 [] 13 false 149 b92 T ?_
 refine D.pt 15 [] 13 false 149 b92 T ?_
 refine D.q 16 [] hQ hS rfl (.tk 13 false 149 b92) rfl rfl (by exact Rd.io T rfl rfl rfl rfl rfl rfl rfl y91) rfl (by kernel_rfl) ?_
 refine D.q 17 [] hQ hS rfl (.tk 13 false 149 b92) rfl rfl (by exact Rd.le T rfl rfl rfl (Qb y91).2.2 rfl rfl rfl) rfl (by kernel_rfl) ?_
 refine D.pt 18 [] 13 false 149 b92 T ?_
 refine D.q 19 [] hQ hS rfl (.tk 13 false 149 b92) rfl rfl (by exact Rd.l T rfl rfl rfl) rfl (by kernel_rfl) ?_
 refine D.pt 20 [] 13 false 149 b92 T ?_
 refine D.pt 21 [] 13 false 149 b92 T ?_
 refine D.k 22 (XQ s_1 s65 x74.1 _ g) en20 (fun x93 g=>?_) (hw:=.take 13 false 149 _ b92 rfl rfl rfl)
 refine D.pt 23 [] 13 false 149 b92 T ?_
 refine D.pt 24 [] 13 false 149 b92 T ?_
 refine D.q 25 [] hQ hS rfl (.tk 7 true 143 (ntT b90)) rfl rfl (by exact Rd.pk' rfl rfl b92 rfl) rfl (by kernel_rfl) ?_
 refine D.kt 26 [] (ntT b90) ?_
 refine D.done (by kernel_rfl) ?_
 exact St.wa (idR 3) (j87 _ g)
 refine D.sz 2 [] 1 true 137 b88 ?_
 refine D.sz 3 [] 1 true 137 b88 ?_
 refine D.sz 4 [] 1 true 137 b88 ?_
 refine D.sz 5 [] 1 true 137 b88 ?_
 refine D.kf 6 [] b88 ?_
 refine D.pq 1 [(7,[])] T ?_
 refine D.sz 8 [] 7 true 143 rfl ?_
 refine D.sz 9 [] 7 true 143 rfl ?_
 refine D.sz 10 [] 7 true 143 rfl ?_
 refine D.sz 11 [] 7 true 143 rfl ?_
 refine D.sz 12 [] 7 true 143 rfl ?_
 refine D.sz 13 [] 7 true 143 rfl ?_
 refine D.sx 14 [] hQ hS (.und 13 false 149 rfl rfl rfl) ?_
 refine D.sx 15 [] hQ hS (.und 13 false 149 rfl rfl rfl) ?_
 refine D.sx 16 [] hQ hS (.und 13 false 149 rfl rfl rfl) ?_
 refine D.sx 17 [] hQ hS (.und 13 false 149 rfl rfl rfl) ?_
 refine D.sx 18 [] hQ hS (.und 13 false 149 rfl rfl rfl) ?_
 refine D.sx 19 [] hQ hS (.und 13 false 149 rfl rfl rfl) ?_
 refine D.sx 20 [] hQ hS (.und 13 false 149 rfl rfl rfl) ?_
 refine D.sx 21 [] hQ hS (.und 13 false 149 rfl rfl rfl) ?_
 refine D.sx 22 [] hQ hS (.und 13 false 149 rfl rfl rfl) ?_
 refine D.sx 23 [] hQ hS (.und 13 false 149 rfl rfl rfl) ?_
 refine D.sx 24 [] hQ hS (.und 13 false 149 rfl rfl rfl) ?_
 refine D.sz 25 [] 7 true 143 rfl ?_
 refine D.kf 26 [] rfl ?_
 refine D.done (by kernel_rfl) ?_
 exact St.wa (idR 3) (j87 _ g)
 refine C.ite rfl g (fun b82 g=>?_) fun b82 g=>?_
 refine U.start (U.ps 3 T rfl (U.k (Wh s_1 s33.2 _ g) en18 (fun x85 g=>?_)))
 refine U.pd 2 T ?_
 exact St.wa (idR 3) (j81 _ g)
 refine C.skip ?_
 exact St.wa (idR 3) (j81 _ g)
 refine C.exit (C.ex (C.ex (C.bex ?_)))
 exact St.wa (idR 3) (j64 _ g)
 refine U.start (U.ps 3 T rfl ?_)
 refine g.cs (fun b69 g=>?_) fun b69 g=>?_
 refine U.pq 2 2 true 107 b69 T ?_
 obtain⟨x70,y70,g⟩:=g
 refine U.r rfl (.tk 2 true 107 b69) rfl rfl (by exact Rd.io T rfl rfl rfl rfl rfl rfl rfl y70) ?_
 refine U.r rfl (.tk 2 true 107 b69) rfl rfl (by exact Rd.le T rfl rfl rfl (Qb y70).2.2 rfl rfl rfl) ?_
 refine U.pq 1 2 true 107 b69 T ?_
 refine U.pk b69 ?_
 refine U.done ?_
 exact St.wa (idR 3) (j68 _ g)
 refine U.sk' 5 2 true 107 b69 ?_
 refine U.pk' b69 ?_
 refine U.done ?_
 exact St.wa (idR 3) (j68 _ g)
 refine D.bq mix 9999 [0,1] [] (fun hQ hS ws M'=>?_)
 refine D.pq 6 (zl [0,1,2,3,5,6]) T ?_
 obtain⟨x55,y55,g⟩:=g
 refine D.q 7 [] hQ hS rfl (.none rfl) rfl rfl (by exact Rd.io T rfl rfl rfl rfl rfl rfl rfl y55) rfl (by kernel_rfl) ?_
 refine D.q 8 [] hQ hS rfl (.none rfl) rfl rfl (by exact Rd.le T rfl rfl rfl (Qb y55).2.2 rfl rfl rfl) rfl (by kernel_rfl) ?_
 refine D.k 4 (Ye s_1 blocked a s33.2 _ g) en16 fun x56 g=>?_
 refine D.pq 2 (zl [9,10]) T ?_
 refine g.cs (fun b57 g=>?_) fun b57 g=>?_
 refine D.sz 11 [] 10 false 98 b57 ?_
 refine D.sz 12 [] 10 false 98 b57 ?_
 refine D.sz 13 [] 10 false 98 b57 ?_
 refine D.sz 14 [] 10 false 98 b57 ?_
 refine D.sz 15 [] 10 false 98 b57 ?_
 refine D.kt 16 [] b57 ?_
 refine D.done (by kernel_rfl) ?_
 exact St.wa (idR 3) (j54 _ g)
 refine D.pt 11 [] 10 false 98 b57 T ?_
 refine D.pt 12 [] 10 false 98 b57 T ?_
 refine D.q 13 [] hQ hS rfl (.tk 10 false 98 b57) rfl rfl (by exact Rd.io T rfl rfl rfl rfl rfl rfl rfl y55) rfl (by kernel_rfl) ?_
 refine D.q 14 [] hQ hS rfl (.tk 10 false 98 b57) rfl rfl (by exact Rd.le T rfl rfl rfl (Qb y55).2.2 rfl rfl rfl) rfl (by kernel_rfl) ?_
 refine D.pt 15 [] 10 false 98 b57 T ?_
 refine D.kf 16 [] b57 ?_
 refine D.done (by kernel_rfl) ?_
 exact St.wa (idR 3) (j54 _ g)
 refine C.ite rfl g (fun b49 g=>?_) fun b49 g=>?_
 refine U.start (U.ps 2 T rfl ?_)
 obtain⟨x52,y52,g⟩:=g
 refine U.r rfl (.none rfl) rfl rfl (by exact Rd.io T rfl rfl rfl rfl rfl rfl rfl y52) ?_
 refine U.r rfl (.none rfl) rfl rfl (by exact Rd.le T rfl rfl rfl (Qb y52).2.2 rfl rfl rfl) ?_
 refine U.pd 1 T ?_
 exact St.wa (idR 3) (j48 _ g)
 refine C.skip ?_
 exact St.wa (idR 3) (j48 _ g)
 refine U.start (U.ps 4 T rfl ?_)
 obtain⟨x42,y42,g⟩:=g
 refine U.ix T y42 ?_
 refine U.ps 3 T rfl ?_
 refine g.cs (fun b43 g=>?_) fun b43 g=>?_
 refine U.pq 2 7 true 65 b43 T ?_
 obtain⟨x44,y44,g⟩:=g
 refine U.r rfl (.tk 7 true 65 b43) rfl rfl (by exact Rd.io T rfl rfl rfl rfl rfl rfl rfl y44) ?_
 refine U.r rfl (.tk 7 true 65 b43) rfl rfl (by exact Rd.le T rfl rfl rfl (Qb y44).2.2 rfl rfl rfl) ?_
 refine U.pq 1 7 true 65 b43 T ?_
 refine U.pk b43 ?_
 refine U.ps 1 T rfl ?_
 refine g.cs (fun b45 g=>?_) fun b45 g=>?_
 refine U.pq 3 14 true 72 b45 T ?_
 refine g.cs (fun b46 g=>?_) fun b46 g=>?_
 refine U.sk' 6 17 false 75 b46 ?_
 refine U.r rfl (.tk 14 true 72 b45) rfl rfl (by exact Rd.pk rfl rfl b46 rfl) ?_
 refine U.pk b45 ?_
 refine U.done ?_
 exact St.wa (idR 3) (j41 _ g)
 refine U.pq 2 17 false 75 b46 T ?_
 refine U.r rfl (.tk 17 false 75 b46) rfl rfl (by exact Rd.io T rfl rfl rfl rfl rfl rfl rfl y44) ?_
 refine U.r rfl (.tk 17 false 75 b46) rfl rfl (by exact Rd.le T rfl rfl rfl (Qb y44).2.2 rfl rfl rfl) ?_
 refine U.pq 2 17 false 75 b46 T ?_
 refine U.r rfl (.tk 14 true 72 b45) rfl rfl (by exact Rd.pk' rfl rfl b46 rfl) ?_
 refine U.pk b45 ?_
 refine U.done ?_
 exact St.wa (idR 3) (j41 _ g)
 refine U.sk' 3 14 true 72 b45 ?_
 refine U.sku 6 17 false 75 rfl rfl rfl ?_
 refine U.sk' 1 14 true 72 b45 ?_
 refine U.pk' b45 ?_
 refine U.done ?_
 exact St.wa (idR 3) (j41 _ g)
 refine U.sk' 5 7 true 65 b43 ?_
 refine U.pk' b43 ?_
 refine U.ps 1 T rfl (U.sk' 3 14 true 72 rfl ?_)
 refine U.sku 6 17 false 75 rfl rfl rfl ?_
 refine U.sk' 1 14 true 72 rfl ?_
 refine U.pk' rfl ?_
 refine U.done ?_
 exact St.wa (idR 3) (j41 _ g)
 refine C.exit (C.ex (C.ex (C.bex ?_)))
 exact St.wa (idR 3) (j32 _ g)
 refine U.start (U.ps 8 T rfl ?_)
 refine g.cs (fun b23 g=>?_) fun b23 g=>?_
 refine U.sk' 5 7 false 45 b23 ?_
 refine U.pk b23 ?_
 refine U.done ?_
 exact St.wa (idR 3) (j22 _ g)
 refine U.pq 5 7 false 45 b23 T ?_
 refine U.pk' b23 ?_
 refine U.done ?_
 exact St.wa (idR 3) (j22 _ g)
 refine U.start (U.ps 1 T rfl (U.k (Wv s_1 50 20 _ g) en12 (fun x8 g=>?_)))
 refine U.ps 2 T rfl ?_
 refine g.cs (fun b9 g=>?_) fun b9 g=>?_
 refine U.pq 1 3 false 20 (ntF b9) T ?_
 refine U.k (GQ s_1 _ g) en13 (fun x10 g=>?_) (hw:=.take 3 false 20 _ (ntF b9) rfl rfl rfl)
 refine U.pq 1 3 false 20 (ntF b9) T ?_
 refine U.pk' (ntF b9) ?_
 refine U.ps 1 T rfl ?_
 refine g.cs (fun b11 g=>?_) fun b11 g=>?_
 refine U.pq 3 8 false 25 (ntF b11) T ?_
 refine U.pk' (ntF b11) ?_
 refine U.done ?_
 exact St.wa [some 0] (j7 _ g)
 refine U.sk' 3 8 false 25 (ntT b11) ?_
 refine U.pk (ntT b11) ?_
 refine U.done ?_
 exact St.wa [some 0] (j7 _ g)
 refine U.sk' 3 3 false 20 (ntT b9) ?_
 refine U.pk (ntT b9) ?_
 refine U.ps 1 T rfl (U.sk' 3 8 false 25 rfl ?_)
 refine U.pk rfl ?_
 refine U.done ?_
 exact St.wa [some 0] (j7 _ g)
end Go.Proofs.Ytlaehjhkcanffaa
