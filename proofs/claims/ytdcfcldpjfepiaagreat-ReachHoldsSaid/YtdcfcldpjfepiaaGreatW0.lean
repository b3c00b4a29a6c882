/- The walks: each Go function does what its verification condition says (written by a program of the prover). -/
import Derived.Test.YtdcfcldpjfepiaaGreatEnc
import Derived.KernelRfl
set_option maxRecDepth 100000
set_option maxHeartbeats 8000000
set_option linter.unusedVariables false
set_option linter.unusedSimpArgs false
namespace Go.Proofs.YtdcfcldpjfepiaaGreat
open Go Go.Taq
theorem Zf (post:ApiSite→Prop) (g:X7 post):
  Tr Tryz.prog 35 [] [] 0 (fun A H' k=>∃y,post y∧A=(.agg [.i y.Floor.W,.i y.Floor.H,.i y.Floor.D,.o 0,.o 1,.o 2,.o 3,.o 4,.o 5])∧H'=[(0,.val (.os 1 eI y.Floor.Kind)),(1,.val (.os 1 eI y.Floor.Out)),(2,.val (.os 5 Q7 y.Zones)),(3,.val (.os 2 Qb y.Aparts)),(4,.val (.os 2 Q8 y.Shelves)),(5,.val (.os 2 Qa y.Robots))]∧k=6):=by
 refine Tr.go Tryz.func35 Tryz.ntmps35 fun _ _ _ _ o=>?_
 unfold X7 at g
 refine C.ss (U.al T ?_)
 refine U.done (C.xt (U.bs T eI ([3,1,1,3]:List Int) ?_))
 refine U.bs T eI ([5,5,5,5]:List Int) ?_
 refine U.ps 1 T rfl (U.al T ?_)
 refine U.st T ?_
 refine U.done (C.xt (U.ps 2 T rfl (U.st T ?_)))
 refine U.done (C.nx (C.ret ?_))
 exact C.g1 [some 1,some 2,none,none,none,none] T o ⟨({Floor:=({W:=4,H:=1,D:=1,Kind:=([3,1,1,3]:List Int),Out:=([5,5,5,5]:List Int):ApiFloor}),Zones:=[],Aparts:=[],Shelves:=[],Robots:=[]:ApiSite}),g,rfl,rfl,rfl⟩
theorem Q1V (act:Int) (laden:Bool) (post:Int→Prop) (g:G7 act laden post):
  Tr Tryz.prog 113 [.i act,.b laden] [] 0 (pI post):=by
 refine Tr.go Tryz.func113 Tryz.ntmps113 fun _ _ _ _ o=>?_
 unfold G7 at g
 refine C.ss (U.pd 1 T (C.xs (C.ss ?_)))
 refine U.pd 1 T (C.nx (C.block (C.seq (C.ss ?_))))
 refine U.pd 2 T (C.nx ?_)
 refine C.jn (fun (x7:Bool)=>[(0,.i act),(1,.b laden),(6,.i act),(7,.b x7)]) (fun x7=>[]) 0 g (fun x7 g=>?_) fun J8 g j8=>?_
 refine C.nx ?_
 refine C.ite rfl g (fun b12 g=>?_) fun b12 g=>?_
 refine C.ss (U.pd 1 T (C.nx (C.ret (C.brt (C.rt ?_)))))
 exact C.f1 T o (pIi g)
 refine C.ss (U.pd 2 T (C.nx ?_))
 refine C.ite rfl g (fun b17 g=>?_) fun b17 g=>?_
 refine C.ss (U.pd 1 T (C.nx (C.ret (C.brt (C.rt ?_)))))
 exact C.f1 T o (pIi g)
 refine C.skip (C.bnx (C.xt (U.pd 1 T (C.xs (C.ss ?_)))))
 refine U.pd 2 T (C.nx (C.block (C.seq (C.ss ?_))))
 refine U.pd 2 T (C.nx ?_)
 refine C.jn (fun (x26:Bool)=>[(1,.b laden),(5,.i 0),(13,.i (w64 (act-1))),(14,.b x26)]) (fun x26=>[]) 0 g (fun x26 g=>?_) fun J27 g j27=>?_
 refine C.nx ?_
 refine C.jn (fun (x41:Int)=>[(1,.b laden),(5,.i x41)]) (fun x41=>[]) 0 g (fun x41 g=>?_) fun J42 g j42=>?_
 refine C.bnx (C.xs (C.seq ?_))
 refine C.jn (fun (x60:Bool)=>[(5,.i x41),(27,.b x60)]) (fun x60=>[]) 0 g (fun x60 g=>?_) fun J61 g j61=>?_
 refine C.nx ?_
 refine C.jn (fun (x63:Int)=>[(5,.i x63)]) (fun x63=>[]) 0 g (fun x63 g=>?_) fun J64 g j64=>?_
 refine C.xt (U.pd 2 T (C.nx (C.ret ?_)))
 exact C.f1 T o (pIi g)
 refine C.ite rfl g (fun b65 g=>?_) fun b65 g=>?_
 refine U.start (U.pd 3 T ?_)
 exact St.wn (j64 _ g)
 refine C.skip ?_
 exact St.wn (j64 _ g)
 refine U.start (U.ps 3 T rfl ?_)
 refine g.cs (fun b62 g=>?_) fun b62 g=>?_
 refine U.pq 1 2 true 25 b62 T ?_
 refine U.pk b62 ?_
 refine U.done ?_
 exact St.wn (j61 _ g)
 refine U.sk' 1 2 true 25 b62 ?_
 refine U.pk' b62 ?_
 refine U.done ?_
 exact St.wn (j61 _ g)
 refine C.ite rfl g (fun b43 g=>?_) fun b43 g=>?_
 refine U.start (U.pd 1 T ?_)
 exact St.wn (j42 _ g)
 refine C.ss (U.pd 2 T (C.nx ?_))
 refine C.jn (fun (x48:Int)=>[(1,.b laden),(5,.i x48)]) (fun x48=>[]) 0 g (fun x48 g=>?_) fun J49 g j49=>?_
 exact St.wn (j42 _ g)
 refine C.ite rfl g (fun b50 g=>?_) fun b50 g=>?_
 refine U.start (U.pd 1 T ?_)
 exact St.wn (j49 _ g)
 refine C.ss (U.pd 2 T (C.nx ?_))
 refine C.jn (fun (x55:Int)=>[(1,.b laden),(5,.i x55)]) (fun x55=>[]) 0 g (fun x55 g=>?_) fun J56 g j56=>?_
 exact St.wn (j49 _ g)
 refine C.ite rfl g (fun b57 g=>?_) fun b57 g=>?_
 refine U.start (U.pd 1 T ?_)
 exact St.wn (j56 _ g)
 refine C.skip ?_
 exact St.wn (j56 _ g)
 refine C.ite rfl g (fun b28 g=>?_) fun b28 g=>?_
 refine C.skip ?_
 exact St.wn (j27 _ g)
 refine C.ss (U.pd 2 T (C.nx ?_))
 refine C.jn (fun (x31:Bool)=>[(1,.b laden),(5,.i 0),(13,.i (w64 (act-1))),(14,.b x31)]) (fun x31=>[]) 0 g (fun x31 g=>?_) fun J32 g j32=>?_
 exact St.wn (j27 _ g)
 refine C.ite rfl g (fun b33 g=>?_) fun b33 g=>?_
 refine C.skip ?_
 exact St.wn (j32 _ g)
 refine C.ss (U.pd 2 T (C.nx ?_))
 refine C.jn (fun (x36:Bool)=>[(1,.b laden),(5,.i 0),(13,.i (w64 (act-1))),(14,.b x36)]) (fun x36=>[]) 0 g (fun x36 g=>?_) fun J37 g j37=>?_
 exact St.wn (j32 _ g)
 refine C.ite rfl g (fun b38 g=>?_) fun b38 g=>?_
 refine C.skip ?_
 exact St.wn (j37 _ g)
 refine U.start (U.pd 2 T ?_)
 exact St.wn (j37 _ g)
 refine C.ite rfl g (fun b9 g=>?_) fun b9 g=>?_
 refine C.skip ?_
 exact St.wn (j8 _ g)
 refine U.start (U.pd 2 T ?_)
 exact St.wn (j8 _ g)
theorem WW (tick:Int) (act:Int) (laden:Bool) (post:Int→Prop) (g:X1 tick act laden post):
  Tr Tryz.prog 55 [.i tick,.i act,.b laden] [] 0 (pI post):=by
 refine Tr.go Tryz.func55 Tryz.ntmps55 fun _ _ _ _ o=>?_
 unfold X1 at g
 refine C.ss (U.pd 1 T (C.xt ?_))
 refine U.ps 3 T rfl (U.r rfl (.none rfl) rfl rfl (by exact Rd.dv rfl rfl rfl rfl (by decide)) ?_)
 refine U.pd 1 T (C.xt ?_)
 refine U.ps 2 T rfl (U.k (Q1V act laden _ g) Q9L (fun x8 g=>?_))
 refine U.ps 4 T rfl (U.r rfl (.none rfl) rfl rfl (by exact Rd.dv rfl rfl rfl rfl (by decide)) ?_)
 refine U.pd 1 T (C.nx (C.ret ?_))
 exact C.f1 T o (pIi g)
theorem KY (post:Int→Prop) (g:K9 post):
  Tr Tryz.prog 14 [] [] 0 (pI post):=by
 refine Tr.go Tryz.func14 Tryz.ntmps14 fun _ _ _ _ o=>?_
 unfold K9 at g
 refine C.ss (U.pd 1 T (C.xt ?_))
 refine U.k (WW 20000 0 true _ g) en55 fun x5 g=>?_
 refine U.pd 1 T (C.nx (C.ret ?_))
 exact C.f1 T o (pIi g)
theorem Zq (s_1:ApiSite) (c:Int) (post:Bool→Prop) (g:Xy s_1 c post):
  Tr Tryz.prog 57 [.agg (Q0 s_1),.i c] [] 0 (pB post):=by
 refine Tr.go Tryz.func57 Tryz.ntmps57 fun _ _ _ _ o=>?_
 unfold Xy at g
 refine C.ss (U.bx ?_)
 refine U.pd 1 T (C.xs ?_)
 refine C.jn (fun (x3:Bool)=>[(4,.b x3)]) (fun x3=>[]) 0 g (fun x3 g=>?_) fun J4 g j4=>?_
 refine C.nx (C.ret ?_)
 exact C.f1 T o (pBi g)
 refine U.start (U.ps 3 T rfl ?_)
 refine g.cs (fun b5 g=>?_) fun b5 g=>?_
 refine U.pq 6 2 true 7 b5 T ?_
 refine U.pk b5 ?_
 refine U.pd 1 T ?_
 exact St.wn (j4 _ g)
 refine U.sk' 6 2 true 7 b5 ?_
 refine U.pk' b5 ?_
 refine U.pd 1 T ?_
 exact St.wn (j4 _ g)
theorem Y1 (s_1:ApiSite) (c:Int) (post:Bool→Prop) (g:KA s_1 c post):
  Tr Tryz.prog 58 [.agg (Q0 s_1),.i c] [] 0 (pB post):=by
 refine Tr.go Tryz.func58 Tryz.ntmps58 fun _ _ _ _ o=>?_
 unfold KA at g
 refine C.ss (U.bx ?_)
 refine U.pd 1 T (C.xt ?_)
 refine U.ps 4 T rfl ?_
 obtain⟨x5,y5,g⟩:=g
 refine U.ix T y5 ?_
 refine U.pd 3 T (C.nx (C.ret ?_))
 exact C.f1 T o (pBi g)
theorem Z3 (x_1:Int) (post:Bool→Prop) (g:XC x_1 post):
  Tr Tryz.prog 202 [.i x_1] [] 0 (pB post):=by
 refine Tr.go Tryz.func202 Tryz.ntmps202 fun _ _ _ _ o=>?_
 unfold XC at g
 refine C.ss (U.pd 1 T (C.xt ?_))
 refine U.pd 4 T (C.nx (C.ret ?_))
 exact C.f1 T o (pBi g)
theorem Q1J (x_1:Int) (y_1:Int) (post:Bool→Prop) (g:GX x_1 y_1 post):
  Tr Tryz.prog 168 [.i x_1,.i y_1] [] 0 (pB post):=by
 refine Tr.go Tryz.func168 Tryz.ntmps168 fun _ _ _ _ o=>?_
 unfold GX at g
 refine C.ss (U.pd 1 T (C.xs ?_))
 refine C.jn (fun (x3:Bool)=>[(4,.b x3)]) (fun x3=>[]) 0 g (fun x3 g=>?_) fun J4 g j4=>?_
 refine C.nx (C.ret ?_)
 exact C.f1 T o (pBi g)
 refine U.start (U.ps 1 T rfl (U.k (Z3 x_1 _ g) Q97 (fun x5 g=>?_)))
 refine U.ps 1 T rfl ?_
 refine g.cs (fun b6 g=>?_) fun b6 g=>?_
 refine U.pq 1 2 true 7 b6 T ?_
 refine U.k (Z3 y_1 _ g) Q97 (fun x7 g=>?_) (hw:=.take 2 true 7 _ b6 rfl rfl rfl)
 refine U.pq 1 2 true 7 b6 T ?_
 refine U.pk b6 ?_
 refine U.ps 1 T rfl ?_
 refine g.cs (fun b8 g=>?_) fun b8 g=>?_
 refine U.pq 3 7 false 12 (ntF b8) T ?_
 refine U.pk' (ntF b8) ?_
 refine U.pd 1 T ?_
 exact St.wn (j4 _ g)
 refine U.sk' 3 7 false 12 (ntT b8) ?_
 refine U.pk (ntT b8) ?_
 refine U.pd 1 T ?_
 exact St.wn (j4 _ g)
 refine U.sk' 3 2 true 7 b6 ?_
 refine U.pk' b6 ?_
 refine U.ps 1 T rfl (U.pq 3 7 false 12 rfl T ?_)
 refine U.pk' rfl ?_
 refine U.pd 1 T ?_
 exact St.wn (j4 _ g)
theorem WO (x_1:Int) (post:Bool→Prop) (g:KR x_1 post):
  Tr Tryz.prog 196 [.i x_1] [] 0 (pB post):=by
 refine Tr.go Tryz.func196 Tryz.ntmps196 fun _ _ _ _ o=>?_
 unfold KR at g
 refine C.ss (U.pd 1 T (C.xt ?_))
 refine U.pd 4 T (C.nx (C.ret ?_))
 exact C.f1 T o (pBi g)
theorem Wd (x_1:List Int) (target:Int) (post:(Int×Bool)→Prop) (g:QT x_1 target post):
  Tr Tryz.prog 158 [.sl 1 eI x_1,.i target] [] 0 (fun A H' k=>∃y,post y∧A=(.tup [.i y.1,.b y.2])∧H'=[]∧k=0):=by
 refine Tr.go Tryz.func158 Tryz.ntmps158 fun _ _ _ _ o=>?_
 unfold QT at g
 refine C.ss (U.pd 2 T (C.xt ?_))
 refine U.pd 3 T (C.xt ?_)
 refine U.pd 3 T (C.xs ?_)
 refine C.jn (fun (x7:Int)=>[(0,.sl 1 eI x_1),(1,.i target),(6,.i (x_1.length:Int)),(7,.i x7)]) (fun x7=>[]) 0 g (fun x7 g=>?_) fun J8 g j8=>?_
 refine C.xs ?_
 refine C.jn (fun (x28:Bool)=>[(4,.i x7),(5,.b x28)]) (fun x28=>[]) 0 g (fun x28 g=>?_) fun J29 g j29=>?_
 refine C.nx (C.ret ?_)
 exact C.f9 T o ⟨(x7,x28),g,rfl,rfl,rfl⟩
 refine U.start (U.ps 5 T rfl ?_)
 refine g.cs (fun b30 g=>?_) fun b30 g=>?_
 refine U.pq 2 4 true 35 b30 T ?_
 obtain⟨x31,y31,g⟩:=g
 refine U.r rfl (.tk 4 true 35 b30) rfl rfl (by exact Rd.ix T rfl rfl rfl rfl rfl rfl y31) ?_
 refine U.pq 4 4 true 35 b30 T ?_
 refine g.cs (fun b32 g=>?_) fun b32 g=>?_
 refine U.sk' 6 11 false 42 b32 ?_
 refine U.sku 2 17 true 48 rfl rfl rfl ?_
 refine U.sk' 1 11 false 42 b32 ?_
 refine U.r rfl (.tk 4 true 35 b30) rfl rfl (by exact Rd.pk rfl rfl b32 rfl) ?_
 refine U.pk b30 ?_
 refine U.pd 2 T ?_
 exact St.wn (j29 _ g)
 refine U.pq 2 11 false 42 b32 T ?_
 refine U.r rfl (.tk 11 false 42 b32) rfl rfl (by exact Rd.ix T rfl rfl rfl rfl rfl rfl y31) ?_
 refine U.pq 1 11 false 42 b32 T ?_
 refine U.k (WO x31 _ g) Q94 (fun x33 g=>?_) (hw:=.take 11 false 42 _ b32 rfl rfl rfl)
 refine U.pq 1 11 false 42 b32 T ?_
 refine g.cs (fun b34 g=>?_) fun b34 g=>?_
 refine U.pq 1 17 true 48 b34 T ?_
 refine U.k (WO target _ g) Q94 (fun x35 g=>?_) (hw:=.take 17 true 48 _ b34 rfl rfl rfl)
 refine U.r rfl (.tk 11 false 42 b32) rfl rfl (by exact Rd.pk rfl rfl b34 rfl) ?_
 refine U.r rfl (.tk 4 true 35 b30) rfl rfl (by exact Rd.pk' rfl rfl b32 rfl) ?_
 refine U.pk b30 ?_
 refine U.pd 2 T ?_
 exact St.wn (j29 _ g)
 refine U.sk' 2 17 true 48 b34 ?_
 refine U.r rfl (.tk 11 false 42 b32) rfl rfl (by exact Rd.pk' rfl rfl b34 rfl) ?_
 refine U.r rfl (.tk 4 true 35 b30) rfl rfl (by exact Rd.pk' rfl rfl b32 rfl) ?_
 refine U.pk b30 ?_
 refine U.pd 2 T ?_
 exact St.wn (j29 _ g)
 refine U.sk' 7 4 true 35 b30 ?_
 refine U.sku 6 11 false 42 rfl rfl rfl ?_
 refine U.sku 2 17 true 48 rfl rfl rfl ?_
 refine U.sku 1 11 false 42 rfl rfl rfl ?_
 refine U.sk' 1 4 true 35 b30 ?_
 refine U.pk' b30 ?_
 refine U.pd 2 T ?_
 exact St.wn (j29 _ g)
 refine C.block (St.wk (C.loop (fun (s9:Int×Int)=>[(0,.sl 1 eI x_1),(1,.i target),(6,.i (x_1.length:Int)),(7,.i s9.1),(8,.i s9.2)]) (fun s9=>[]) g (fun s9 Y10 g=>?_)) (Wk.e))
 refine C.seq (C.ss (U.pd 3 T (C.nx ?_)))
 refine C.ite rfl g (fun b13 g=>?_) fun b13 g=>?_
 refine C.skip (C.nx (C.block (C.ss (U.ps 4 T rfl (U.r rfl (.none rfl) rfl rfl (by exact Rd.sh rfl rfl rfl rfl (by decide)) ?_)))))
 refine U.pd 2 T (C.xt ?_)
 refine U.ps 2 T rfl ?_
 obtain⟨x19,y19,g⟩:=g
 refine U.ix T y19 ?_
 refine U.ps 2 T rfl (U.k (Q1J x19 target _ g) Qae (fun x20 g=>?_))
 refine U.done (C.nx ?_)
 refine C.jn (fun (x21:Int×Int)=>[(0,.sl 1 eI x_1),(1,.i target),(6,.i (x_1.length:Int)),(7,.i x21.1),(8,.i x21.2)]) (fun x21=>[]) 0 g (fun x21 g=>?_) fun J22 g j22=>?_
 refine C.bnx (C.nx ?_)
 exact St.wk (C.next g) (Wk.e)
 refine C.ite rfl g (fun b23 g=>?_) fun b23 g=>?_
 refine U.start (U.pd 3 T ?_)
 exact St.wn (j22 _ g)
 refine U.start (U.pd 2 T ?_)
 exact St.wn (j22 _ g)
 refine C.exit (C.ex (C.ex (C.bex ?_)))
 exact St.wn (j8 _ g)
theorem Q0Y (z:Qk) (c0:Int) (post:Bool→Prop) (g:Xt z c0 post):
  Tr Tryz.prog 157 [.agg (Q7 z),.rp [.i c0]] [] 0 (pB post):=by
 refine Tr.go Tryz.func157 Tryz.ntmps157 fun _ _ _ _ o=>?_
 unfold Xt at g
 refine C.ss (U.bx ?_)
 refine U.pd 1 T (C.xt ?_)
 refine U.ps 3 T rfl (U.k (Wd z.Cells c0 _ g) Qah (fun x5 g=>?_))
 refine U.pd 5 T (C.xt ?_)
 refine U.pd 2 T (C.nx (C.ret ?_))
 exact C.f1 T o (pBi g)
theorem KC (s_1:List Qk) (f_c0:Int) (post:Int→Prop) (g:Qu s_1 f_c0 post):
  Tr Tryz.prog 142 [.sl 5 Q7 s_1,.fn (.func 157) [] [.rp [.i f_c0]]] [] 0 (pI post):=by
 refine Tr.go Tryz.func142 Tryz.ntmps142 fun _ _ _ _ o=>?_
 unfold Qu at g
 refine C.ss (U.pd 1 T (C.xs (C.ss ?_)))
 refine U.pd 3 T (C.nx ?_)
 refine C.jn (fun (x5:Unit)=>[]) (fun x5=>[]) 0 g (fun x5 g=>?_) fun J6 g j6=>?_
 refine C.xt (U.pd 1 T (C.nx (C.ret ?_)))
 exact C.f1 T o (pIi g)
 refine C.block (St.wk (C.loop (fun (s7:Int)=>[(0,.sl 5 Q7 s_1),(1,.fn (.func 157) [] [.rp [.i f_c0]]),(7,.i (s_1.length:Int)),(8,.i s7)]) (fun s7=>[]) g (fun s7 Y8 g=>?_)) (Wk.e))
 refine C.ss (U.pd 1 T (C.xs ?_))
 refine C.ite rfl g (fun b11 g=>?_) fun b11 g=>?_
 refine C.skip (C.xs (C.block (C.ss (U.pd 2 T (C.xt ?_)))))
 refine U.ps 3 T rfl ?_
 obtain⟨x16,y16,g⟩:=g
 refine U.ix T y16 ?_
 refine U.ps 1 T rfl (U.k (Q0Y x16 f_c0 _ g) Qa3 (fun x17 g=>?_))
 refine U.done (C.nx ?_)
 refine C.ite rfl g (fun b18 g=>?_) fun b18 g=>?_
 refine C.ss (U.pd 2 T (C.nx (C.ret (C.brt (C.rt (C.rt (C.brt (C.rt ?_))))))))
 exact C.f1 T o (pIi g)
 refine C.skip (C.bnx (C.nx (U.start (U.pd 2 T (C.nx ?_)))))
 exact St.wk (C.next g) (Wk.e)
 refine C.exit (C.ex (C.ex (C.bex ?_)))
 exact St.wk (j6 _ g) (Wk.mk' [] rfl rfl trivial trivial rfl)
theorem Zr (s_1:ApiSite) (c:Int) (post:Int→Prop) (g:Xw s_1 c post):
  Tr Tryz.prog 112 [.agg (Q0 s_1),.i c] [] 0 (pI post):=by
 refine Tr.go Tryz.func112 Tryz.ntmps112 fun _ _ _ _ o=>?_
 unfold Xw at g
 refine C.ss (U.bx ?_)
 refine U.bx ?_
 refine U.pd 1 T (C.xt ?_)
 refine U.ps 3 T rfl (U.k (KC s_1.Zones c _ g) Q8w (fun x5 g=>?_))
 refine U.pd 1 T (C.nx (C.ret ?_))
 exact C.f1 T o (pIi g)
theorem Q00 (s_1:ApiSite) (c:Int) (post:Int→Prop) (g:XO s_1 c post):
  Tr Tryz.prog 54 [.agg (Q0 s_1),.i c] [] 0 (pI post):=by
 refine Tr.go Tryz.func54 Tryz.ntmps54 fun _ _ _ _ o=>?_
 unfold XO at g
 refine C.ss (U.bx ?_)
 refine U.pd 1 T (C.xs (C.ss ?_))
 refine U.ps 2 T rfl (U.k (Zr s_1 c _ g) Q8v (fun x5 g=>?_))
 refine U.pd 1 T (C.xt ?_)
 refine U.pd 2 T (C.nx ?_)
 refine C.ite rfl g (fun b8 g=>?_) fun b8 g=>?_
 refine C.ss (U.ps 3 T rfl ?_)
 obtain⟨x11,y11,g⟩:=g
 refine U.ix T y11 ?_
 refine U.pd 3 T (C.nx (C.ret (C.rt ?_)))
 exact C.f1 T o (pIi g)
 refine C.skip (C.xt (U.pd 1 T (C.nx (C.ret ?_))))
 exact C.f1 T o (pIi g)
theorem Yj (s_1:ApiSite) (d:Int) (x_1:Int) (post:Int→Prop) (g:X0 s_1 d x_1 post):
  Tr Tryz.prog 16 [.agg (Q0 s_1),.i d,.i x_1] [] 0 (pI post):=by
 refine Tr.go Tryz.func16 Tryz.ntmps16 fun _ _ _ _ o=>?_
 unfold X0 at g
 refine C.ss (U.bx ?_)
 refine U.pd 1 T (C.xs (C.seq ?_))
 refine C.jn (fun (x3:Bool)=>[(1,.i d),(2,.i x_1),(3,.p 0 0),(19,.b x3)]) (fun x3=>[(0,.box (Q0 s_1))]) 1 g (fun x3 g=>?_) fun J4 g j4=>?_
 refine C.nx ?_
 refine C.ite rfl g (fun b8 g=>?_) fun b8 g=>?_
 refine C.ss (U.pd 1 T (C.nx (C.ret (C.rt ?_))))
 exact C.f1 T o (pIi g)
 refine C.skip (C.xt (U.ps 2 T rfl (U.k (WW 20000 (w64 (1+d)) true _ g) en55 (fun x13 g=>?_))))
 refine U.pd 1 T (C.xs (C.ss ?_))
 refine U.ps 2 T rfl (U.k (Y1 s_1 x_1 _ g) en58 (fun x16 g=>?_))
 refine U.pd 1 T (C.nx ?_)
 refine C.jn (fun (x17:Int)=>[(7,.i x17)]) (fun x17=>[]) 0 g (fun x17 g=>?_) fun J18 g j18=>?_
 refine C.xt (U.pd 2 T (C.nx (C.ret ?_)))
 exact C.f1 T o (pIi g)
 refine C.ite rfl g (fun b19 g=>?_) fun b19 g=>?_
 refine U.start (U.ps 3 T rfl (U.k (Q00 s_1 x_1 _ g) en54 (fun x22 g=>?_)))
 refine U.ps 1 T rfl (U.k (KY _ g) en14 (fun x23 g=>?_))
 refine U.pd 3 T ?_
 exact St.wn (j18 _ g)
 refine C.skip ?_
 exact St.wn (j18 _ g)
 refine U.start (U.ps 3 T rfl ?_)
 refine g.cs (fun b5 g=>?_) fun b5 g=>?_
 refine U.sk' 2 2 false 10 b5 ?_
 refine U.pk b5 ?_
 refine U.ps 1 T rfl (U.sk' 4 6 false 14 rfl ?_)
 refine U.pk rfl ?_
 refine U.done ?_
 exact St.wa [some 0] (j4 _ g)
 refine U.pq 2 2 false 10 b5 T ?_
 refine U.pk' b5 ?_
 refine U.ps 1 T rfl ?_
 refine g.cs (fun b6 g=>?_) fun b6 g=>?_
 refine U.sk' 4 6 false 14 b6 ?_
 refine U.pk b6 ?_
 refine U.done ?_
 exact St.wa [some 0] (j4 _ g)
 refine U.pq 2 6 false 14 b6 T ?_
 refine U.k (Zq s_1 x_1 _ g) en57 (fun x7 g=>?_) (hw:=.take 6 false 14 _ b6 rfl rfl rfl)
 refine U.pq 1 6 false 14 b6 T ?_
 refine U.pk' b6 ?_
 refine U.done ?_
 exact St.wa [some 0] (j4 _ g)
theorem Q0N (f:ApiFloor) (post:Int→Prop) (g:XL f post):
  Tr Tryz.prog 134 [.agg (Qr f)] [] 0 (pI post):=by
 refine Tr.go Tryz.func134 Tryz.ntmps134 fun _ _ _ _ o=>?_
 unfold XL at g
 refine C.ss (U.bx ?_)
 refine U.pd 1 T (C.xt ?_)
 refine U.pd 9 T (C.nx (C.ret ?_))
 exact C.f1 T o (pIi g)
theorem Q0m (f:ApiFloor) (c:Int) (post:Bool→Prop) (g:Gw f c post):
  Tr Tryz.prog 152 [.agg (Qr f),.i c] [] 0 (pB post):=by
 refine Tr.go Tryz.func152 Tryz.ntmps152 fun _ _ _ _ o=>?_
 unfold Gw at g
 refine C.ss (U.bx ?_)
 refine U.pd 1 T (C.xs ?_)
 refine C.jn (fun (x3:Bool)=>[(4,.b x3)]) (fun x3=>[]) 0 g (fun x3 g=>?_) fun J4 g j4=>?_
 refine C.nx (C.ret ?_)
 exact C.f1 T o (pBi g)
 refine U.start (U.ps 3 T rfl ?_)
 refine g.cs (fun b5 g=>?_) fun b5 g=>?_
 refine U.pq 2 2 true 7 b5 T ?_
 refine U.k (Q0N f _ g) Q9o (fun x6 g=>?_) (hw:=.take 2 true 7 _ b5 rfl rfl rfl)
 refine U.pq 1 2 true 7 b5 T ?_
 refine U.pk b5 ?_
 refine U.pd 1 T ?_
 exact St.wn (j4 _ g)
 refine U.sk' 4 2 true 7 b5 ?_
 refine U.pk' b5 ?_
 refine U.pd 1 T ?_
 exact St.wn (j4 _ g)
theorem Q2e (f:ApiFloor) (c:Int) (post:(Int×Int×Int)→Prop) (g:Wt f c post):
  Tr Tryz.prog 140 [.agg (Qr f),.i c] [] 0 (fun A H' k=>∃y,post y∧A=(.tup [.i y.1,.i y.2.1,.i y.2.2])∧H'=[]∧k=0):=by
 refine Tr.go Tryz.func140 Tryz.ntmps140 fun _ _ _ _ o=>?_
 unfold Wt at g
 refine C.ss (U.bx ?_)
 refine U.pd 3 T (C.xs (C.ss ?_))
 refine U.ps 2 T rfl (U.k (Q0m f c _ g) Q8g (fun x5 g=>?_))
 refine U.pd 1 T (C.nx ?_)
 refine C.ite rfl g (fun b6 g=>?_) fun b6 g=>?_
 refine C.ss (U.pd 3 T (C.nx (C.ret (C.rt ?_))))
 exact C.f9 T o ⟨(0,0,0),g,rfl,rfl,rfl⟩
 refine C.skip (C.xs (D.bq mix 9999 [0] [] (fun hQ hS ws M'=>?_)))
 refine D.pq 3 (zl [0,1,2]) T ?_
 obtain⟨y11,g⟩:=g
 refine D.q 3 [] hQ hS rfl (.none rfl) rfl rfl (by exact Rd.rm rfl rfl rfl rfl y11) rfl (by kernel_rfl) ?_
 refine D.pq 3 (zl [4,5,6]) T ?_
 obtain⟨y12,g⟩:=g
 refine D.q 7 [] hQ hS rfl (.none rfl) rfl rfl (by exact Rd.dv rfl rfl rfl rfl y12) rfl (by kernel_rfl) ?_
 refine D.pq 2 (zl [8,9]) T ?_
 obtain⟨y13,g⟩:=g
 refine D.q 10 [] hQ hS rfl (.none rfl) rfl rfl (by exact Rd.rm rfl rfl rfl rfl y13) rfl (by kernel_rfl) ?_
 refine D.pq 6 (zl [11,12,13,14,15,16]) T ?_
 obtain⟨y14,g⟩:=g
 refine D.q 17 [] hQ hS rfl (.none rfl) rfl rfl (by exact Rd.dv rfl rfl rfl rfl y14) rfl (by kernel_rfl) ?_
 refine D.pq 3 (zl [18,19,20]) T ?_
 refine D.done (by kernel_rfl) ?_
 refine C.nx (C.ret ?_)
 exact C.f9 T o ⟨(c.tmod f.W,(w64 (c.tdiv f.W)).tmod f.H,w64 (c.tdiv (w64 (f.W*f.H)))),g,rfl,rfl,rfl⟩
theorem Q2T (post:Wn→Prop) (g:Wm post):
  Tr Tryz.prog 156 [] [] 0 (fun A H' k=>∃y,post y∧A=(.agg [.i y.e0.x,.i y.e0.y,.i y.e0.z,.i y.e1.x,.i y.e1.y,.i y.e1.z,.i y.e2.x,.i y.e2.y,.i y.e2.z,.i y.e3.x,.i y.e3.y,.i y.e3.z,.i y.e4.x,.i y.e4.y,.i y.e4.z,.i y.e5.x,.i y.e5.y,.i y.e5.z])∧H'=[]∧k=0):=by
 refine Tr.go Tryz.func156 Tryz.ntmps156 fun _ _ _ _ o=>?_
 unfold Wm at g
 refine C.ss (U.al T ?_)
 refine U.done (C.xt (U.ps 7 T rfl (U.st T ?_)))
 refine U.done (C.nx (C.ret ?_))
 exact C.f1 T o ⟨({e0:=({x:=1,y:=0,z:=0:K6}),e1:=({x:=0,y:=1,z:=0:K6}),e2:=({x:=(-1),y:=0,z:=0:K6}),e3:=({x:=0,y:=(-1),z:=0:K6}),e4:=({x:=0,y:=0,z:=1:K6}),e5:=({x:=0,y:=0,z:=(-1):K6}):Wn}),g,rfl,rfl,rfl⟩
theorem W9 (f:ApiFloor) (x_1:Int) (y_1:Int) (z:Int) (post:Int→Prop) (g:KV f x_1 y_1 z post):
  Tr Tryz.prog 141 [.agg (Qr f),.i x_1,.i y_1,.i z] [] 0 (pI post):=by
 refine Tr.go Tryz.func141 Tryz.ntmps141 fun _ _ _ _ o=>?_
 unfold KV at g
 refine C.ss (U.bx ?_)
 refine U.pd 1 T (C.xs (C.seq ?_))
 refine C.jn (fun (x3:Bool)=>[(1,.i x_1),(2,.i y_1),(3,.i z),(4,.p 0 0),(31,.b x3)]) (fun x3=>[(0,.box (Qr f))]) 1 g (fun x3 g=>?_) fun J4 g j4=>?_
 refine C.nx ?_
 refine C.ite rfl g (fun b8 g=>?_) fun b8 g=>?_
 refine C.ss (U.pd 1 T (C.nx (C.ret (C.rt ?_))))
 exact C.f1 T o (pIi g)
 refine C.skip (C.xt (U.pd 12 T (C.nx (C.ret ?_))))
 exact C.f1 T o (pIi g)
 refine U.start (U.ps 6 T rfl ?_)
 refine g.cs (fun b5 g=>?_) fun b5 g=>?_
 refine U.sk' 4 5 false 14 b5 ?_
 refine U.pk b5 ?_
 refine U.ps 1 T rfl (U.sk' 4 11 false 20 rfl ?_)
 refine U.pk rfl ?_
 refine U.ps 1 T rfl (U.sk' 4 17 false 26 rfl ?_)
 refine U.pk rfl ?_
 refine U.done ?_
 exact St.wa [some 0] (j4 _ g)
 refine U.pq 4 5 false 14 b5 T ?_
 refine U.pk' b5 ?_
 refine U.ps 1 T rfl ?_
 refine g.cs (fun b6 g=>?_) fun b6 g=>?_
 refine U.sk' 4 11 false 20 b6 ?_
 refine U.pk b6 ?_
 refine U.ps 1 T rfl (U.sk' 4 17 false 26 rfl ?_)
 refine U.pk rfl ?_
 refine U.done ?_
 exact St.wa [some 0] (j4 _ g)
 refine U.pq 4 11 false 20 b6 T ?_
 refine U.pk' b6 ?_
 refine U.ps 1 T rfl ?_
 refine g.cs (fun b7 g=>?_) fun b7 g=>?_
 refine U.sk' 4 17 false 26 b7 ?_
 refine U.pk b7 ?_
 refine U.done ?_
 exact St.wa [some 0] (j4 _ g)
 refine U.pq 4 17 false 26 b7 T ?_
 refine U.pk' b7 ?_
 refine U.done ?_
 exact St.wa [some 0] (j4 _ g)
theorem Zk (f:ApiFloor) (c:Int) (d:Int) (post:Int→Prop) (g:X3 f c d post):
  Tr Tryz.prog 111 [.agg (Qr f),.i c,.i d] [] 0 (pI post):=by
 refine Tr.go Tryz.func111 Tryz.ntmps111 fun _ _ _ _ o=>?_
 unfold X3 at g
 refine C.ss (U.bx ?_)
 refine U.pd 1 T (C.xs (C.seq ?_))
 refine C.jn (fun (x3:Bool)=>[(1,.i c),(2,.i d),(3,.p 0 0),(22,.b x3)]) (fun x3=>[(0,.box (Qr f))]) 1 g (fun x3 g=>?_) fun J4 g j4=>?_
 refine C.nx ?_
 refine C.ite rfl g (fun b8 g=>?_) fun b8 g=>?_
 refine C.ss (U.pd 1 T (C.nx (C.ret (C.rt ?_))))
 exact C.f1 T o (pIi g)
 refine C.skip (C.xt (U.ps 2 T rfl (U.k (Q2e f c _ g) Q8u (fun x13 g=>?_))))
 refine U.pd 7 T (C.xt ?_)
 refine U.k (Q2T _ g) Qak fun x16 g=>?_
 refine U.ps 1 T rfl ?_
 obtain⟨x17,y17,g⟩:=g
 refine U.r rfl (.none rfl) rfl rfl (by exact Rd.ia T (enc:=Q50) rfl rfl rfl rfl rfl rfl rfl rfl rfl (fun _ _=>rfl) y17) ?_
 refine U.al T ?_
 refine U.st T ?_
 refine U.done (C.xt (U.ps 13 T rfl (U.k (W9 f (w64 (x13.1+x17.x)) (w64 (x13.2.1+x17.y)) (w64 (x13.2.2+x17.z)) _ g) Q61 (fun x20 g=>?_))))
 refine U.pd 1 T (C.nx (C.ret ?_))
 exact C.f1 T o (pIi g)
 refine U.start (U.ps 2 T rfl (U.k (Q0m f c _ g) Q8g (fun x5 g=>?_)))
 refine U.ps 2 T rfl ?_
 refine g.cs (fun b6 g=>?_) fun b6 g=>?_
 refine U.pq 2 4 false 15 (ntF b6) T ?_
 refine U.pk' (ntF b6) ?_
 refine U.ps 1 T rfl ?_
 refine g.cs (fun b7 g=>?_) fun b7 g=>?_
 refine U.sk' 2 8 false 19 b7 ?_
 refine U.pk b7 ?_
 refine U.done ?_
 exact St.wa [some 0] (j4 _ g)
 refine U.pq 2 8 false 19 b7 T ?_
 refine U.pk' b7 ?_
 refine U.done ?_
 exact St.wa [some 0] (j4 _ g)
 refine U.sk' 2 4 false 15 (ntT b6) ?_
 refine U.pk (ntT b6) ?_
 refine U.ps 1 T rfl (U.sk' 2 8 false 19 rfl ?_)
 refine U.pk rfl ?_
 refine U.done ?_
 exact St.wa [some 0] (j4 _ g)
theorem W7 (f:ApiFloor) (c:Int) (d:Int) (post:(Int×Bool)→Prop) (g:KP f c d post):
  Tr Tryz.prog 53 [.agg (Qr f),.i c,.i d] [] 0 (fun A H' k=>∃y,post y∧A=(.tup [.i y.1,.b y.2])∧H'=[]∧k=0):=by
 refine Tr.go Tryz.func53 Tryz.ntmps53 fun _ _ _ _ o=>?_
 unfold KP at g
 refine C.ss (U.bx ?_)
 refine U.pd 2 T (C.xt ?_)
 refine U.ps 3 T rfl (U.k (Zk f c d _ g) Q8o (fun x5 g=>?_))
 refine U.pd 1 T (C.xs (C.seq ?_))
 refine C.jn (fun (x6:Bool)=>[(1,.i c),(2,.i d),(3,.p 0 0),(8,.i x5),(41,.b x6)]) (fun x6=>[(0,.box (Qr f))]) 1 g (fun x6 g=>?_) fun J7 g j7=>?_
 refine C.nx ?_
 refine C.ite rfl g (fun b15 g=>?_) fun b15 g=>?_
 refine C.ss (U.pd 2 T (C.nx (C.ret (C.rt ?_))))
 exact C.f9 T o ⟨(0,false),g,rfl,rfl,rfl⟩
 refine C.skip (C.xs (C.seq ?_))
 refine C.jn (fun (x18:Bool)=>[(8,.i x5),(63,.b x18)]) (fun x18=>[]) 0 g (fun x18 g=>?_) fun J19 g j19=>?_
 refine C.nx ?_
 refine C.ite rfl g (fun b28 g=>?_) fun b28 g=>?_
 refine C.ss (U.pd 2 T (C.nx (C.ret (C.rt ?_))))
 exact C.f9 T o ⟨(0,false),g,rfl,rfl,rfl⟩
 refine C.skip (C.xt (U.pd 3 T (C.nx (C.ret ?_))))
 exact C.f9 T o ⟨(x5,true),g,rfl,rfl,rfl⟩
 refine U.start (U.ps 3 T rfl ?_)
 refine g.cs (fun b20 g=>?_) fun b20 g=>?_
 refine U.sk' 2 2 false 44 b20 ?_
 refine U.pk b20 ?_
 refine U.ps 1 T rfl (U.pq 3 6 true 48 rfl T ?_)
 obtain⟨x21,y21,g⟩:=g
 refine U.r rfl (.tk 6 true 48 rfl) rfl rfl (by exact Rd.ix T rfl rfl rfl rfl rfl rfl y21) ?_
 refine U.pq 3 6 true 48 rfl T ?_
 refine g.cs (fun b22 g=>?_) fun b22 g=>?_
 refine U.sk' 6 13 false 55 b22 ?_
 refine U.r rfl (.tk 6 true 48 rfl) rfl rfl (by exact Rd.pk rfl rfl b22 rfl) ?_
 refine U.pk rfl ?_
 refine U.done ?_
 exact St.wn (j19 _ g)
 refine U.pq 3 13 false 55 b22 T ?_
 obtain⟨x23,y23,g⟩:=g
 refine U.r rfl (.tk 13 false 55 b22) rfl rfl (by exact Rd.ix T rfl rfl rfl rfl rfl rfl y23) ?_
 refine U.pq 2 13 false 55 b22 T ?_
 refine U.r rfl (.tk 6 true 48 rfl) rfl rfl (by exact Rd.pk' rfl rfl b22 rfl) ?_
 refine U.pk rfl ?_
 refine U.done ?_
 exact St.wn (j19 _ g)
 refine U.pq 2 2 false 44 b20 T ?_
 refine U.pk' b20 ?_
 refine U.ps 1 T rfl ?_
 refine g.cs (fun b24 g=>?_) fun b24 g=>?_
 refine U.pq 3 6 true 48 b24 T ?_
 obtain⟨x25,y25,g⟩:=g
 refine U.r rfl (.tk 6 true 48 b24) rfl rfl (by exact Rd.ix T rfl rfl rfl rfl rfl rfl y25) ?_
 refine U.pq 3 6 true 48 b24 T ?_
 refine g.cs (fun b26 g=>?_) fun b26 g=>?_
 refine U.sk' 6 13 false 55 b26 ?_
 refine U.r rfl (.tk 6 true 48 b24) rfl rfl (by exact Rd.pk rfl rfl b26 rfl) ?_
 refine U.pk b24 ?_
 refine U.done ?_
 exact St.wn (j19 _ g)
 refine U.pq 3 13 false 55 b26 T ?_
 obtain⟨x27,y27,g⟩:=g
 refine U.r rfl (.tk 13 false 55 b26) rfl rfl (by exact Rd.ix T rfl rfl rfl rfl rfl rfl y27) ?_
 refine U.pq 2 13 false 55 b26 T ?_
 refine U.r rfl (.tk 6 true 48 b24) rfl rfl (by exact Rd.pk' rfl rfl b26 rfl) ?_
 refine U.pk b24 ?_
 refine U.done ?_
 exact St.wn (j19 _ g)
 refine U.sk' 7 6 true 48 b24 ?_
 refine U.sku 6 13 false 55 rfl rfl rfl ?_
 refine U.sk' 1 6 true 48 b24 ?_
 refine U.pk' b24 ?_
 refine U.done ?_
 exact St.wn (j19 _ g)
 refine U.start (U.ps 3 T rfl ?_)
 refine g.cs (fun b8 g=>?_) fun b8 g=>?_
 refine U.sk' 6 2 false 15 b8 ?_
 refine U.pk b8 ?_
 refine U.ps 1 T rfl (U.sk' 6 10 false 23 rfl ?_)
 refine U.pk rfl ?_
 refine U.ps 1 T rfl (U.sk' 9 18 false 31 rfl ?_)
 refine U.pk rfl ?_
 refine U.done ?_
 exact St.wa [some 0] (j7 _ g)
 refine U.pq 3 2 false 15 b8 T ?_
 obtain⟨x9,y9,g⟩:=g
 refine U.r rfl (.tk 2 false 15 b8) rfl rfl (by exact Rd.ix T rfl rfl rfl rfl rfl rfl y9) ?_
 refine U.pq 2 2 false 15 b8 T ?_
 refine U.pk' b8 ?_
 refine U.ps 1 T rfl ?_
 refine g.cs (fun b10 g=>?_) fun b10 g=>?_
 refine U.sk' 6 10 false 23 b10 ?_
 refine U.pk b10 ?_
 refine U.ps 1 T rfl (U.sk' 9 18 false 31 rfl ?_)
 refine U.pk rfl ?_
 refine U.done ?_
 exact St.wa [some 0] (j7 _ g)
 refine U.pq 3 10 false 23 b10 T ?_
 obtain⟨x11,y11,g⟩:=g
 refine U.r rfl (.tk 10 false 23 b10) rfl rfl (by exact Rd.ix T rfl rfl rfl rfl rfl rfl y11) ?_
 refine U.pq 2 10 false 23 b10 T ?_
 refine U.pk' b10 ?_
 refine U.ps 1 T rfl ?_
 refine g.cs (fun b12 g=>?_) fun b12 g=>?_
 refine U.sk' 9 18 false 31 b12 ?_
 refine U.pk b12 ?_
 refine U.done ?_
 exact St.wa [some 0] (j7 _ g)
 refine U.pq 3 18 false 31 b12 T ?_
 obtain⟨x13,y13,g⟩:=g
 refine U.r rfl (.tk 18 false 31 b12) rfl rfl (by exact Rd.ix T rfl rfl rfl rfl rfl rfl y13) ?_
 refine U.pq 2 18 false 31 b12 T ?_
 obtain⟨y14,g⟩:=g
 refine U.r rfl (.tk 18 false 31 b12) rfl rfl (by exact Rd.sh rfl rfl rfl rfl y14) ?_
 refine U.pq 2 18 false 31 b12 T ?_
 refine U.pk' b12 ?_
 refine U.done ?_
 exact St.wa [some 0] (j7 _ g)
theorem Yx (s_1:List Int) (v:Int) (post:Int→Prop) (g:Ka s_1 v post):
  Tr Tryz.prog 144 [.sl 1 eI s_1,.i v] [] 0 (pI post):=by
 refine Tr.go Tryz.func144 Tryz.ntmps144 fun _ _ _ _ o=>?_
 unfold Ka at g
 refine C.ss (U.pd 1 T (C.xs (C.ss ?_)))
 refine U.pd 3 T (C.nx ?_)
 refine C.jn (fun (x5:Unit)=>[]) (fun x5=>[]) 0 g (fun x5 g=>?_) fun J6 g j6=>?_
 refine C.xt (U.pd 1 T (C.nx (C.ret ?_)))
 exact C.f1 T o (pIi g)
 refine C.block (St.wk (C.loop (fun (s7:Int)=>[(0,.sl 1 eI s_1),(1,.i v),(7,.i (s_1.length:Int)),(8,.i s7)]) (fun s7=>[]) g (fun s7 Y8 g=>?_)) (Wk.e))
 refine C.ss (U.pd 1 T (C.xs ?_))
 refine C.ite rfl g (fun b11 g=>?_) fun b11 g=>?_
 refine C.skip (C.xs (C.block (C.ss (U.pd 2 T (C.xt ?_)))))
 refine U.ps 3 T rfl ?_
 obtain⟨x16,y16,g⟩:=g
 refine U.ix T y16 ?_
 refine U.pd 2 T (C.nx ?_)
 refine C.ite rfl g (fun b17 g=>?_) fun b17 g=>?_
 refine C.ss (U.pd 2 T (C.nx (C.ret (C.brt (C.rt (C.rt (C.brt (C.rt ?_))))))))
 exact C.f1 T o (pIi g)
 refine C.skip (C.bnx (C.nx (U.start (U.pd 2 T (C.nx ?_)))))
 exact St.wk (C.next g) (Wk.e)
 refine C.exit (C.ex (C.ex (C.bex ?_)))
 exact St.wk (j6 _ g) (Wk.mk' [] rfl rfl trivial trivial rfl)
theorem QO (s_1:List Int) (v:Int) (post:Bool→Prop) (g:Qj s_1 v post):
  Tr Tryz.prog 89 [.sl 1 eI s_1,.i v] [] 0 (pB post):=by
 refine Tr.go Tryz.func89 Tryz.ntmps89 fun _ _ _ _ o=>?_
 unfold Qj at g
 refine C.ss (U.pd 1 T (C.xt ?_))
 refine U.ps 2 T rfl (U.k (Yx s_1 v _ g) Qa2 (fun x5 g=>?_))
 refine U.pd 2 T (C.nx (C.ret ?_))
 exact C.f1 T o (pBi g)
abbrev cE0 (s_1:ApiSite):Nat×AVal:=(0,.agg (Q0 s_1))
abbrev cE1:Nat×AVal:=(4,.v (.pointer none))
abbrev cE2 (s_1:ApiSite):Nat×AVal:=(5,.i (s_1.Floor.Kind.length:Int))
abbrev cE3:Nat×AVal:=(11,.p 0 0)
abbrev cE4:Nat×AVal:=(12,.p 0 3)
abbrev cE5 (s_1:ApiSite):Nat×AVal:=(13,.sl 1 eI s_1.Floor.Kind)
abbrev cE6 (s_1:ApiSite):Nat×AVal:=(14,.i (s_1.Floor.Kind.length:Int))
abbrev cE7 (s_1:ApiSite):Nat×AVal:=(15,.i (s_1.Floor.Kind.length:Int))
abbrev cE8 (s_1:ApiSite):Nat×AVal:=(17,.i (s_1.Floor.Kind.length:Int))
abbrev cE9 (s_1:ApiSite):Nat×AVal:=(19,.i (s_1.Floor.Kind.length:Int))
abbrev cE10 (s_1:ApiSite):Nat×Res:=(0,.box (Q0 s_1))
abbrev cE11 (s_1:ApiSite):Nat×Res:=(1,.val (.os 1 Qz (List.replicate (Int.toNat (s_1.Floor.Kind.length:Int)) [])))
theorem Yv (s_1:ApiSite) (blocked:List Int) (post:ReachGraph→Prop) (g:KN s_1 blocked post):
  Tr Tryz.prog 60 [.agg (Q0 s_1),.sl 1 eI blocked] [] 0 (fun A H' k=>∃y,post y∧A=(.p 3 0)∧H'=[(0,.val (.os 1 Qz y.out)),(1,.val (.os 1 eOeI y.in_)),(2,.val (.os 1 eB y.home)),(3,.box [.o 0,.o 1,.o 2])]∧k=4):=by
 refine Tr.go Tryz.func60 Tryz.ntmps60 fun _ _ _ _ o=>?_
 unfold KN at g
 refine C.ss (U.bx ?_)
 refine U.pd 1 T (C.xt ?_)
 refine U.pd 5 T (C.xs ?_)
 refine D.bq mix 9999 [] [1,2,3] (fun hQ hS ws M'=>?_)
 refine D.pq 3 (zl [0,2,4]) T ?_
 obtain⟨y7,g⟩:=g
 obtain⟨y8,g⟩:=g
 obtain⟨y9,g⟩:=g
 refine D.have false [cE0 s_1,(1,.sl 1 eI blocked),(2,.p 0 0),cE1,cE2 s_1,cE3,cE4,cE5 s_1,cE6 s_1,cE7 s_1,(16,.o 1),cE8 s_1,(18,.o 2),cE9 s_1,(20,.o 3),(21,.agg [.o 1,.o 2,.o 3])] [cE10 s_1,cE11 s_1,(2,.val (.os 1 eOeI (List.replicate (Int.toNat (s_1.Floor.Kind.length:Int)) []))),(3,.val (.os 1 eB (List.replicate (Int.toNat (s_1.Floor.Kind.length:Int)) false)))] 4 2 (bvA 9 [7,8]) ?_ fun hd6_7=>?_
 refine D.e1 7 rfl (.none rfl) (by exact Eff1.box rfl rfl rfl rfl rfl) (by kernel_rfl) rfl rfl ?_
 refine D.pq 1 [(8,[])] T ?_
 refine D.done (by kernel_rfl) ?_
 refine C.xs (C.ss (U.pd 2 T (C.nx ?_)))
 refine C.jn (fun (x12:List (List ReachStep)×List (List Int)×List Bool)=>[(6,.p 0 0)]) (fun x12=>[(0,.box [.o 1,.o 2,.o 3]),(1,.val (.os 1 Qz x12.1)),(2,.val (.os 1 eOeI x12.2.1)),(3,.val (.os 1 eB x12.2.2))]) 4 g (fun x12 g=>?_) fun J13 g j13=>?_
 refine C.xt (U.pd 2 T (C.nx (C.ret ?_)))
 exact C.g1 [some 1,some 2,some 3,some 0] T o ⟨({out:=x12.1,in_:=x12.2.1,home:=x12.2.2:ReachGraph}),g,rfl,rfl,rfl⟩
 refine C.block ?_
 refine St.wk (C.loop (fun (s14:List (List ReachStep)×List (List Int)×List Bool×Int)=>[(1,.sl 1 eI blocked),(2,.p 0 0),(6,.p 1 0),(23,.i (s_1.Floor.Kind.length:Int)),(24,.i s14.2.2.2)]) (fun s14=>[(0,.box (Q0 s_1)),(1,.box [.o 2,.o 3,.o 4]),(2,.val (.os 1 Qz s14.1)),(3,.val (.os 1 eOeI s14.2.1)),(4,.val (.os 1 eB s14.2.2.1))]) g (fun s14 Y15 g=>?_)) (Wk.a [some 0,some 4,some 1,some 2,some 3])
 refine C.ss (U.pd 1 T (C.xs ?_))
 refine C.ite rfl g (fun b18 g=>?_) fun b18 g=>?_
 refine C.skip (C.xs ?_)
 refine C.jn (fun (x19:List (List ReachStep)×List (List Int)×List Bool)=>[(1,.sl 1 eI blocked),(2,.p 0 0),(6,.p 1 0),(23,.i (s_1.Floor.Kind.length:Int)),(24,.i s14.2.2.2)]) (fun x19=>[(0,.box (Q0 s_1)),(1,.box [.o 2,.o 3,.o 4]),(2,.val (.os 1 Qz x19.1)),(3,.val (.os 1 eOeI x19.2.1)),(4,.val (.os 1 eB x19.2.2))]) 5 g (fun x19 g=>?_) fun J20 g j20=>?_
 refine C.nx (U.start (U.pd 2 T (C.nx ?_)))
 exact St.wk (C.next g) (Wk.a (idR 5))
 refine C.block (C.ss (U.pd 2 T (C.xs ?_)))
 refine D.bq mix 9 [0,1] [] (fun hQ hS ws M'=>?_)
 refine D.pq 7 (zl [0,1,2,3,4,5,6]) T ?_
 refine D.k 7 (Y1 s_1 s14.2.2.2 _ g) en58 fun x25 g=>?_
 obtain⟨x26,y26,g⟩:=g
 refine D.q 8 [] hQ hS rfl (.none rfl) rfl rfl (by exact Rd.io T rfl rfl rfl rfl rfl rfl rfl y26) rfl (by kernel_rfl) ?_
 refine D.ze1 rfl (.none rfl) (by exact Eff1.se T (z':=x25) rfl rfl rfl (Q6 y26).2.2 rfl rfl rfl rfl rfl rfl rfl rfl (fun _=>rfl) rfl) (by kernel_rfl) (by kernel_rfl) ?_
 refine C.xt (U.pd 1 T (C.nx ?_))
 refine C.jn (fun (x29:List (List ReachStep)×List (List Int))=>[(1,.sl 1 eI blocked),(2,.p 0 0),(6,.p 1 0),(23,.i (s_1.Floor.Kind.length:Int)),(24,.i s14.2.2.2)]) (fun x29=>[(0,.box (Q0 s_1)),(1,.box [.o 2,.o 3,.o 4]),(2,.val (.os 1 Qz x29.1)),(3,.val (.os 1 eOeI x29.2)),(4,.val (.os 1 eB (s14.2.2.1.set (Int.toNat s14.2.2.2) x25)))]) 5 g (fun x29 g=>?_) fun J30 g j30=>?_
 refine C.bnx ?_
 exact St.wa (idR 5) (j20 _ g)
 refine C.block ?_
 refine St.wk (C.loop (fun (s31:List (List ReachStep)×List (List Int)×Int)=>[(1,.sl 1 eI blocked),(2,.p 0 0),(6,.p 1 0),(7,.i s14.2.2.2),(23,.i (s_1.Floor.Kind.length:Int)),(24,.i s14.2.2.2),(36,.i s31.2.2)]) (fun s31=>[(0,.box (Q0 s_1)),(1,.box [.o 2,.o 3,.o 4]),(2,.val (.os 1 Qz s31.1)),(3,.val (.os 1 eOeI s31.2.1)),(4,.val (.os 1 eB (s14.2.2.1.set (Int.toNat s14.2.2.2) x25)))]) g (fun s31 Y32 g=>?_)) (Wk.a (idR 5))
 refine C.ss (U.pd 1 T (C.xs ?_))
 refine C.ite rfl g (fun b35 g=>?_) fun b35 g=>?_
 refine C.skip (C.xs (C.block (C.ss (U.pd 2 T (C.xt ?_)))))
 refine U.ps 4 T rfl (U.k (W7 s_1.Floor s14.2.2.2 s31.2.2 _ g) en53 (fun x40 g=>?_))
 refine U.pd 5 T (C.xs ?_)
 refine C.jn (fun (x41:Bool)=>[(1,.sl 1 eI blocked),(2,.p 0 0),(6,.p 1 0),(7,.i s14.2.2.2),(8,.i s31.2.2),(9,.i x40.1),(23,.i (s_1.Floor.Kind.length:Int)),(24,.i s14.2.2.2),(36,.i s31.2.2),(53,.b x41)]) (fun x41=>[(0,.box (Q0 s_1)),(1,.box [.o 2,.o 3,.o 4]),(2,.val (.os 1 Qz s31.1)),(3,.val (.os 1 eOeI s31.2.1)),(4,.val (.os 1 eB (s14.2.2.1.set (Int.toNat s14.2.2.2) x25)))]) 5 g (fun x41 g=>?_) fun J42 g j42=>?_
 refine C.nx ?_
 refine C.jn (fun (x45:List (List ReachStep)×List (List Int))=>[(1,.sl 1 eI blocked),(2,.p 0 0),(6,.p 1 0),(7,.i s14.2.2.2),(23,.i (s_1.Floor.Kind.length:Int)),(24,.i s14.2.2.2),(36,.i s31.2.2)]) (fun x45=>[(0,.box (Q0 s_1)),(1,.box [.o 2,.o 3,.o 4]),(2,.val (.os 1 Qz x45.1)),(3,.val (.os 1 eOeI x45.2)),(4,.val (.os 1 eB (s14.2.2.1.set (Int.toNat s14.2.2.2) x25)))]) 5 g (fun x45 g=>?_) fun J46 g j46=>?_
 refine C.bnx (C.nx (U.start (U.pd 2 T (C.nx ?_))))
 exact St.wk (C.next g) (Wk.a (idR 5))
 refine C.ite rfl g (fun b47 g=>?_) fun b47 g=>?_
 refine C.seq ?_
 obtain⟨x50,y50,g⟩:=g
 refine St.lend (l:=2) (i:=(Int.toNat s14.2.2.2)) rfl (Q6 y50).2.2 rfl (fun _=>rfl) ?_
 refine D.bq mix 21 [0,1,2] [5] (fun hQ hS ws M'=>?_)
 refine D.pq 10 (zl [0,1,2,3,4,5,6,7,8,9]) T ?_
 refine D.q 10 [] hQ hS rfl (.none rfl) rfl rfl (by exact Rd.il T rfl rfl rfl rfl rfl rfl rfl y50) rfl (by kernel_rfl) ?_
 refine D.q 11 [] hQ hS rfl (.none rfl) rfl rfl (by exact Rd.ll T rfl rfl rfl (.head _) rfl rfl rfl rfl) rfl (by kernel_rfl) ?_
 refine D.pq 4 (zl [12,13,14,15]) T ?_
 refine D.k 16 (Yj s_1 s31.2.2 x40.1 _ g) en16 fun x51 g=>?_
 refine D.pq 1 [(17,[])] T ?_
 refine D.e1 18 rfl (.none rfl) (by exact Eff1.bs T (enc:=Wr) (xs:=([({to_:=x40.1,price:=x51:ReachStep})]:List ReachStep)) rfl rfl rfl rfl rfl rfl rfl rfl rfl rfl (fun _ _=>rfl) rfl rfl) (by kernel_rfl) rfl rfl ?_
 obtain⟨y52,g⟩:=g
 refine D.e1 19 rfl (.none rfl) (by exact Eff1.ap T rfl rfl rfl rfl rfl rfl (.inr ⟨_,rfl,rfl⟩) rfl rfl rfl (fun _=>rfl) rfl y52) (by kernel_rfl) rfl rfl ?_
 refine D.q 20 [] hQ hS rfl (.none rfl) rfl rfl (by exact Rd.il T rfl rfl rfl rfl rfl rfl rfl y50) rfl (by kernel_rfl) ?_
 refine D.ze1 rfl (.none rfl) (by exact Eff1.sl T rfl rfl rfl (fun _ h=>nomatch h) rfl rfl rfl rfl) (by kernel_rfl) (by kernel_rfl) ?_
 refine St.putb (l:=2) (l':=7) (y:=(x50++([({to_:=x40.1,price:=x51:ReachStep})]:List ReachStep))) rfl rfl rfl (fun _ h=>nomatch h) rfl _ rfl ?_
 refine C.nx ?_
 obtain⟨x55,y55,g⟩:=g
 refine St.lend (l:=3) (i:=(Int.toNat x40.1)) rfl (Q6 y55).2.2 rfl (fun _=>rfl) ?_
 refine D.bq mix 16 [1,3] [8] (fun hQ hS ws M'=>?_)
 refine D.pq 10 (zl [0,1,2,3,4,5,6,7,8,9]) T ?_
 refine D.q 10 [] hQ hS rfl (.none rfl) rfl rfl (by exact Rd.il T rfl rfl rfl rfl rfl rfl rfl y55) rfl (by kernel_rfl) ?_
 refine D.q 11 [] hQ hS rfl (.none rfl) rfl rfl (by exact Rd.ll T rfl rfl rfl (.head _) rfl rfl rfl rfl) rfl (by kernel_rfl) ?_
 refine D.pq 1 [(12,[])] T ?_
 refine D.e1 13 rfl (.none rfl) (by exact Eff1.bs T (enc:=eI) (xs:=([s14.2.2.2]:List Int)) rfl rfl rfl rfl rfl rfl rfl rfl rfl rfl (fun _ _=>rfl) rfl rfl) (by kernel_rfl) rfl rfl ?_
 obtain⟨y56,g⟩:=g
 refine D.e1 14 rfl (.none rfl) (by exact Eff1.ap T rfl rfl rfl rfl rfl rfl (.inr ⟨_,rfl,rfl⟩) rfl rfl rfl (fun _=>rfl) rfl y56) (by kernel_rfl) rfl rfl ?_
 refine D.q 15 [] hQ hS rfl (.none rfl) rfl rfl (by exact Rd.il T rfl rfl rfl rfl rfl rfl rfl y55) rfl (by kernel_rfl) ?_
 refine D.ze1 rfl (.none rfl) (by exact Eff1.sl T rfl rfl rfl (fun _ h=>nomatch h) rfl rfl rfl rfl) (by kernel_rfl) (by kernel_rfl) ?_
 refine St.putb (l:=3) (l':=10) (y:=(x55++([s14.2.2.2]:List Int))) rfl rfl rfl (fun _ h=>nomatch h) rfl _ rfl ?_
 exact St.wa (idR 5) (j46 _ g)
 refine C.skip ?_
 exact St.wa (idR 5) (j46 _ g)
 refine U.start (U.ps 2 T rfl ?_)
 refine g.cs (fun b43 g=>?_) fun b43 g=>?_
 refine U.pq 2 1 true 48 b43 T ?_
 refine U.k (QO blocked x40.1 _ g) en89 (fun x44 g=>?_) (hw:=.take 1 true 48 _ b43 rfl rfl rfl)
 refine U.pq 1 1 true 48 b43 T ?_
 refine U.pk b43 ?_
 refine U.done ?_
 exact St.wa (idR 5) (j42 _ g)
 refine U.sk' 4 1 true 48 b43 ?_
 refine U.pk' b43 ?_
 refine U.done ?_
 exact St.wa (idR 5) (j42 _ g)
 refine C.exit (C.ex (C.ex (C.bex ?_)))
 exact St.wa (idR 5) (j30 _ g)
 refine C.exit (C.ex (C.ex (C.bex ?_)))
 exact St.wa (sqR 1 4) (j13 _ g)
 refine D.have false [cE0 s_1,(1,.sl 1 eI blocked),(2,.p 0 0),cE1,cE2 s_1,cE3,cE4,cE5 s_1,cE6 s_1,cE7 s_1,(16,.o 1),cE8 s_1,(18,.o 2),cE9 s_1] [cE10 s_1,cE11 s_1,(2,.val (.os 1 eOeI (List.replicate (Int.toNat (s_1.Floor.Kind.length:Int)) [])))] 3 4 (bvA 9 [5,6,7,8]) ?_ fun hd6_4=>?_
 refine D.all 5 [] (by kernel_rfl) ⟨?_,trivial⟩
 refine D.ef1 rfl (.none rfl) (by exact Eff1.mk T (enc:=eB) (z0:=false) rfl rfl rfl rfl rfl rfl rfl rfl rfl rfl y9) rfl rfl ?_
 refine D.pq 1 [(6,[])] T ?_
 exact D.tq [0,1,2,3] hd6_7
 refine D.have false [cE0 s_1,(1,.sl 1 eI blocked),(2,.p 0 0),cE1,cE2 s_1,cE3,cE4,cE5 s_1,cE6 s_1,cE7 s_1,(16,.o 1),cE8 s_1,cE9 s_1,(20,.o 2)] [cE10 s_1,cE11 s_1,(2,.val (.os 1 eB (List.replicate (Int.toNat (s_1.Floor.Kind.length:Int)) false)))] 3 4 (bvA 9 [3,6,7,8]) ?_ fun hd6_5=>?_
 refine D.all 3 [] (by kernel_rfl) ⟨?_,trivial⟩
 refine D.ef1 rfl (.none rfl) (by exact Eff1.re (A':=.os 1 eOeI (List.replicate (Int.toNat (s_1.Floor.Kind.length:Int)) [])) (Eff1.mk T (enc:=fun _:Unit=>[vN]) (z0:=()) rfl rfl rfl rfl rfl rfl rfl rfl rfl rfl y8) (fun _ _ _ _ _ h=>(NlR.rep (.cons (.os _ _) .nil) _).on h)) rfl rfl ?_
 refine D.pq 1 [(6,[])] T ?_
 exact D.tq [0,1,3,2] hd6_7
 refine D.have false [cE0 s_1,(1,.sl 1 eI blocked),(2,.p 0 0),cE1,cE2 s_1,cE3,cE4,cE5 s_1,cE6 s_1,cE7 s_1,cE8 s_1,(18,.o 1),cE9 s_1,(20,.o 2)] [cE10 s_1,(1,.val (.os 1 eOeI (List.replicate (Int.toNat (s_1.Floor.Kind.length:Int)) []))),(2,.val (.os 1 eB (List.replicate (Int.toNat (s_1.Floor.Kind.length:Int)) false)))] 3 4 (bvA 9 [1,6,7,8]) ?_ fun hd6_6=>?_
 refine D.all 1 [] (by kernel_rfl) ⟨?_,trivial⟩
 refine D.ef1 rfl (.none rfl) (by exact Eff1.re (A':=.os 1 Qz (List.replicate (Int.toNat (s_1.Floor.Kind.length:Int)) [])) (Eff1.mk T (enc:=fun _:Unit=>[vN]) (z0:=()) rfl rfl rfl rfl rfl rfl rfl rfl rfl rfl y7) (fun _ _ _ _ _ h=>(NlR.rep (.cons (.os _ _) .nil) _).on h)) rfl rfl ?_
 refine D.pq 1 [(6,[])] T ?_
 exact D.tq [0,3,1,2] hd6_7
 refine D.have false [cE0 s_1,(1,.sl 1 eI blocked),(2,.p 0 0),cE1,cE2 s_1,cE3,cE4,cE5 s_1,cE6 s_1,cE7 s_1,(16,.o 1),cE8 s_1,cE9 s_1] [cE10 s_1,cE11 s_1] 2 5 (bvA 9 [3,5,6,7,8]) ?_ fun hd6_1=>?_
 refine D.all 3 [5] (by kernel_rfl) ⟨?_,?_,trivial⟩
 refine D.ef1 rfl (.none rfl) (by exact Eff1.re (A':=.os 1 eOeI (List.replicate (Int.toNat (s_1.Floor.Kind.length:Int)) [])) (Eff1.mk T (enc:=fun _:Unit=>[vN]) (z0:=()) rfl rfl rfl rfl rfl rfl rfl rfl rfl rfl y8) (fun _ _ _ _ _ h=>(NlR.rep (.cons (.os _ _) .nil) _).on h)) rfl rfl ?_
 exact D.tq [0,1,2] hd6_4
 refine D.ef1 rfl (.none rfl) (by exact Eff1.mk T (enc:=eB) (z0:=false) rfl rfl rfl rfl rfl rfl rfl rfl rfl rfl y9) rfl rfl ?_
 exact D.tq [0,1,2] hd6_5
 refine D.have false [cE0 s_1,(1,.sl 1 eI blocked),(2,.p 0 0),cE1,cE2 s_1,cE3,cE4,cE5 s_1,cE6 s_1,cE7 s_1,cE8 s_1,(18,.o 1),cE9 s_1] [cE10 s_1,(1,.val (.os 1 eOeI (List.replicate (Int.toNat (s_1.Floor.Kind.length:Int)) [])))] 2 5 (bvA 9 [1,5,6,7,8]) ?_ fun hd6_2=>?_
 refine D.all 1 [5] (by kernel_rfl) ⟨?_,?_,trivial⟩
 refine D.ef1 rfl (.none rfl) (by exact Eff1.re (A':=.os 1 Qz (List.replicate (Int.toNat (s_1.Floor.Kind.length:Int)) [])) (Eff1.mk T (enc:=fun _:Unit=>[vN]) (z0:=()) rfl rfl rfl rfl rfl rfl rfl rfl rfl rfl y7) (fun _ _ _ _ _ h=>(NlR.rep (.cons (.os _ _) .nil) _).on h)) rfl rfl ?_
 exact D.tq [0,2,1] hd6_4
 refine D.ef1 rfl (.none rfl) (by exact Eff1.mk T (enc:=eB) (z0:=false) rfl rfl rfl rfl rfl rfl rfl rfl rfl rfl y9) rfl rfl ?_
 exact D.tq [0,1,2] hd6_6
 refine D.have false [cE0 s_1,(1,.sl 1 eI blocked),(2,.p 0 0),cE1,cE2 s_1,cE3,cE4,cE5 s_1,cE6 s_1,cE7 s_1,cE8 s_1,cE9 s_1,(20,.o 1)] [cE10 s_1,(1,.val (.os 1 eB (List.replicate (Int.toNat (s_1.Floor.Kind.length:Int)) false)))] 2 5 (bvA 9 [1,3,6,7,8]) ?_ fun hd6_3=>?_
 refine D.all 1 [3] (by kernel_rfl) ⟨?_,?_,trivial⟩
 refine D.ef1 rfl (.none rfl) (by exact Eff1.re (A':=.os 1 Qz (List.replicate (Int.toNat (s_1.Floor.Kind.length:Int)) [])) (Eff1.mk T (enc:=fun _:Unit=>[vN]) (z0:=()) rfl rfl rfl rfl rfl rfl rfl rfl rfl rfl y7) (fun _ _ _ _ _ h=>(NlR.rep (.cons (.os _ _) .nil) _).on h)) rfl rfl ?_
 exact D.tq [0,2,1] hd6_5
 refine D.ef1 rfl (.none rfl) (by exact Eff1.re (A':=.os 1 eOeI (List.replicate (Int.toNat (s_1.Floor.Kind.length:Int)) [])) (Eff1.mk T (enc:=fun _:Unit=>[vN]) (z0:=()) rfl rfl rfl rfl rfl rfl rfl rfl rfl rfl y8) (fun _ _ _ _ _ h=>(NlR.rep (.cons (.os _ _) .nil) _).on h)) rfl rfl ?_
 exact D.tq [0,2,1] hd6_6
 refine D.all 1 [3,5] (by kernel_rfl) ⟨?_,?_,?_,trivial⟩
 refine D.ef1 rfl (.none rfl) (by exact Eff1.re (A':=.os 1 Qz (List.replicate (Int.toNat (s_1.Floor.Kind.length:Int)) [])) (Eff1.mk T (enc:=fun _:Unit=>[vN]) (z0:=()) rfl rfl rfl rfl rfl rfl rfl rfl rfl rfl y7) (fun _ _ _ _ _ h=>(NlR.rep (.cons (.os _ _) .nil) _).on h)) rfl rfl ?_
 exact D.tq [0,1] hd6_1
 refine D.ef1 rfl (.none rfl) (by exact Eff1.re (A':=.os 1 eOeI (List.replicate (Int.toNat (s_1.Floor.Kind.length:Int)) [])) (Eff1.mk T (enc:=fun _:Unit=>[vN]) (z0:=()) rfl rfl rfl rfl rfl rfl rfl rfl rfl rfl y8) (fun _ _ _ _ _ h=>(NlR.rep (.cons (.os _ _) .nil) _).on h)) rfl rfl ?_
 exact D.tq [0,1] hd6_2
 refine D.ef1 rfl (.none rfl) (by exact Eff1.mk T (enc:=eB) (z0:=false) rfl rfl rfl rfl rfl rfl rfl rfl rfl rfl y9) rfl rfl ?_
 exact D.tq [0,1] hd6_3
theorem Ze (p0:Int) (post:Bool→Prop) (g:Kq p0 post):
  Tr Tryz.prog 118 [.i p0] [] 0 (pB post):=by
 refine Tr.go Tryz.func118 Tryz.ntmps118 fun _ _ _ _ o=>?_
 unfold Kq at g
 refine C.ss (U.pd 1 T (C.xt ?_))
 refine U.pd 1 T (C.nx (C.ret ?_))
 exact C.f1 T o (pBi g)
theorem Xz (g_1:ReachGraph) (fuel:List Int) (c:Int) (but:Int) (post:(Int×Int)→Prop) (g:QX g_1 fuel c but post):
  Tr Tryz.prog 64 [.rp [.sl 1 Qe g_1.out,.sl 1 eLeI g_1.in_,.sl 1 eB g_1.home],.sl 1 eI fuel,.i c,.i but] [] 0 (fun A H' k=>∃y,post y∧A=(.tup [.i y.1,.i y.2])∧H'=[]∧k=0):=by
 refine Tr.go Tryz.func64 Tryz.ntmps64 fun _ _ _ _ o=>?_
 unfold QX at g
 refine C.ss (U.pd 2 T (C.xt ?_))
 refine U.pd 2 T (C.xs (C.ss ?_))
 refine U.ps 5 T rfl ?_
 obtain⟨x7,y7,g⟩:=g
 refine U.ix T y7 ?_
 refine U.pd 3 T (C.nx ?_)
 refine C.jn (fun (x8:Int×Int)=>[(10,.i x8.1),(11,.i x8.2)]) (fun x8=>[]) 0 g (fun x8 g=>?_) fun J9 g j9=>?_
 refine C.xt (U.pd 4 T (C.nx (C.ret ?_)))
 exact C.f9 T o ⟨(x8.1,x8.2),g,rfl,rfl,rfl⟩
 refine C.block (St.wk (C.loop (fun (s10:Int×Int×Int)=>[(1,.sl 1 eI fuel),(3,.i but),(10,.i s10.1),(11,.i s10.2.1),(21,.sl 2 Wr x7),(22,.i (x7.length:Int)),(23,.i s10.2.2)]) (fun s10=>[]) g (fun s10 Y11 g=>?_)) (Wk.e))
 refine C.ss (U.pd 1 T (C.xs ?_))
 refine C.ite rfl g (fun b14 g=>?_) fun b14 g=>?_
 refine C.skip (C.xs (C.block (C.ss ?_)))
 obtain⟨x17,y17,g⟩:=g
 refine U.ix T y17 ?_
 refine U.ps 1 T rfl (U.al T ?_)
 refine U.st T ?_
 refine U.done (C.xs (D.bq mix 9999 [0] [] (fun hQ hS ws M'=>?_)))
 refine D.pq 3 (zl [0,1,2]) T ?_
 obtain⟨x20,y20,g⟩:=g
 refine D.ix 3 [] T y20 ?_
 refine D.pq 5 (zl [4,5,6,7,8]) T ?_
 refine D.done (by kernel_rfl) ?_
 refine C.xs ?_
 refine C.jn (fun (x21:Bool)=>[(1,.sl 1 eI fuel),(3,.i but),(10,.i s10.1),(11,.i s10.2.1),(13,.p 0 0),(14,.i (w64 (x20+x17.price))),(21,.sl 2 Wr x7),(22,.i (x7.length:Int)),(23,.i s10.2.2),(55,.b x21)]) (fun x21=>[(0,.box [.i x17.to_,.i x17.price])]) 1 g (fun x21 g=>?_) fun J22 g j22=>?_
 refine C.nx ?_
 refine C.jn (fun (x26:Int×Int)=>[(1,.sl 1 eI fuel),(3,.i but),(10,.i x26.1),(11,.i x26.2),(21,.sl 2 Wr x7),(22,.i (x7.length:Int)),(23,.i s10.2.2)]) (fun x26=>[]) 0 g (fun x26 g=>?_) fun J27 g j27=>?_
 refine C.bnx (C.nx (U.start (U.pd 2 T (C.nx ?_))))
 exact St.wk (C.next g) (Wk.e)
 refine C.ite rfl g (fun b28 g=>?_) fun b28 g=>?_
 refine D.bq mix 9999 [0] [] (fun hQ hS ws M'=>?_)
 refine D.pq 5 (zl [0,1,2,3,4]) T ?_
 refine D.done (by kernel_rfl) ?_
 exact St.wn (j27 _ g)
 refine C.skip ?_
 exact St.wn (j27 _ g)
 refine U.start (U.ps 5 T rfl ?_)
 refine g.cs (fun b23 g=>?_) fun b23 g=>?_
 refine U.pq 3 4 true 39 b23 T ?_
 refine U.r rfl (.tk 4 true 39 b23) rfl rfl (by exact Rd.ix T rfl rfl rfl rfl rfl rfl y20) ?_
 refine U.pq 2 4 true 39 b23 T ?_
 refine U.pk b23 ?_
 refine U.ps 1 T rfl ?_
 refine g.cs (fun b24 g=>?_) fun b24 g=>?_
 refine U.pq 3 12 true 47 b24 T ?_
 refine g.cs (fun b25 g=>?_) fun b25 g=>?_
 refine U.sk' 3 15 false 50 b25 ?_
 refine U.r rfl (.tk 12 true 47 b24) rfl rfl (by exact Rd.pk rfl rfl b25 rfl) ?_
 refine U.pk b24 ?_
 refine U.done ?_
 exact St.wa [some 0] (j22 _ g)
 refine U.pq 3 15 false 50 b25 T ?_
 refine U.r rfl (.tk 12 true 47 b24) rfl rfl (by exact Rd.pk' rfl rfl b25 rfl) ?_
 refine U.pk b24 ?_
 refine U.done ?_
 exact St.wa [some 0] (j22 _ g)
 refine U.sk' 3 12 true 47 b24 ?_
 refine U.sku 3 15 false 50 rfl rfl rfl ?_
 refine U.sk' 1 12 true 47 b24 ?_
 refine U.pk' b24 ?_
 refine U.done ?_
 exact St.wa [some 0] (j22 _ g)
 refine U.sk' 6 4 true 39 b23 ?_
 refine U.pk' b23 ?_
 refine U.ps 1 T rfl (U.sk' 3 12 true 47 rfl ?_)
 refine U.sku 3 15 false 50 rfl rfl rfl ?_
 refine U.sk' 1 12 true 47 rfl ?_
 refine U.pk' rfl ?_
 refine U.done ?_
 exact St.wa [some 0] (j22 _ g)
 refine C.exit (C.ex (C.ex (C.bex ?_)))
 exact St.wn (j9 _ g)
theorem X6 (g_1:ReachGraph) (but:Int) (fuel:List Int) (queue:List Int) (post:(List Int)→Prop) (g:QE g_1 but fuel queue post):
  Tr Tryz.prog 117 [.rp [.sl 1 Qe g_1.out,.sl 1 eLeI g_1.in_,.sl 1 eB g_1.home],.o 0,.o 1,.i but,.fn (.func 118) [] []] [(0,.val (.os 1 eI fuel)),(1,.val (.os 1 eI queue))] 2 (fun A H' k=>∃y,post y∧A=(.tup [])∧H'=[(0,.val (.os 1 eI y))]∧k=2):=by
 refine Tr.go Tryz.func117 Tryz.ntmps117 fun _ _ _ _ o=>?_
 unfold QE at g
 refine C.jn (fun (x1:List Int)=>[]) (fun x1=>[(0,.val (.os 1 eI x1))]) 2 g (fun x1 g=>?_) fun J2 g j2=>?_
 exact C.fg (idR 2) T o ⟨x1,g,rfl,rfl,rfl⟩
 refine C.block (St.wk (C.loop (fun (s3:List Int×List Int)=>[(0,.rp [.sl 1 Qe g_1.out,.sl 1 eLeI g_1.in_,.sl 1 eB g_1.home]),(1,.o 0),(2,.o 2),(3,.i but),(4,.fn (.func 118) [] [])]) (fun s3=>[(0,.val (.os 1 eI s3.1)),(2,.val (.os 1 eI s3.2))]) g (fun s3 Y4 g=>?_)) (Wk.a [some 0,some 1,some 1]))
 refine C.seq (C.ss (U.pd 3 T (C.nx ?_)))
 refine C.ite rfl g (fun b7 g=>?_) fun b7 g=>?_
 refine C.skip (C.xs ?_)
 refine C.jn (fun (x8:List Int×List Int)=>[(0,.rp [.sl 1 Qe g_1.out,.sl 1 eLeI g_1.in_,.sl 1 eB g_1.home]),(1,.o 0),(2,.o 2),(3,.i but),(4,.fn (.func 118) [] [])]) (fun x8=>[(0,.val (.os 1 eI x8.1)),(2,.val (.os 1 eI x8.2))]) 3 g (fun x8 g=>?_) fun J9 g j9=>?_
 refine C.nx (U.start (U.ps 1 T rfl ?_))
 obtain⟨y53,g⟩:=g
 refine U.e1 rfl (.none rfl) (by exact Eff1.sw T rfl rfl rfl rfl rfl rfl rfl rfl (.some _ rfl) (.none _) y53) ?_
 refine U.pd 1 T (C.nx ?_)
 exact St.wk (C.next g) (Wk.a [some 0,some 1,some 3])
 refine C.block (C.seq (D.bq mix 9999 [2] [] (fun hQ hS ws M'=>?_)))
 refine D.pq 5 (zl [0,1,2,3,4]) T ?_
 obtain⟨x12,y12,g⟩:=g
 refine D.q 5 [] hQ hS rfl (.none rfl) rfl rfl (by exact Rd.io T rfl rfl rfl rfl rfl rfl rfl y12) rfl (by kernel_rfl) ?_
 refine D.q 6 [] hQ hS rfl (.none rfl) rfl rfl (by exact Rd.le T rfl rfl rfl (Q6 y12).2.2 rfl rfl rfl) rfl (by kernel_rfl) ?_
 obtain⟨x13,y13,g⟩:=g
 refine D.ix 7 [] T y13 ?_
 refine D.pq 3 (zl [8,9,10]) T ?_
 refine D.done (by kernel_rfl) ?_
 refine C.nx ?_
 refine C.jn (fun (x14:List Int×List Int)=>[(0,.rp [.sl 1 Qe g_1.out,.sl 1 eLeI g_1.in_,.sl 1 eB g_1.home]),(1,.o 0),(2,.o 2),(3,.i but),(4,.fn (.func 118) [] [])]) (fun x14=>[(0,.val (.os 1 eI x14.1)),(2,.val (.os 1 eI x14.2))]) 3 g (fun x14 g=>?_) fun J15 g j15=>?_
 refine C.bnx ?_
 exact St.wa (idR 3) (j9 _ g)
 refine C.block ?_
 refine St.wk (C.loop (fun (s16:List Int×List Int×Int)=>[(0,.rp [.sl 1 Qe g_1.out,.sl 1 eLeI g_1.in_,.sl 1 eB g_1.home]),(1,.o 0),(2,.o 2),(3,.i but),(4,.fn (.func 118) [] []),(27,.sl 1 eI x13),(28,.i (x13.length:Int)),(29,.i s16.2.2)]) (fun s16=>[(0,.val (.os 1 eI s16.1)),(2,.val (.os 1 eI s16.2.1))]) g (fun s16 Y17 g=>?_)) (Wk.a (idR 3))
 refine C.ss (U.pd 1 T (C.xs ?_))
 refine C.ite rfl g (fun b20 g=>?_) fun b20 g=>?_
 refine C.skip (C.xs ?_)
 refine C.jn (fun (x21:List Int×List Int)=>[(0,.rp [.sl 1 Qe g_1.out,.sl 1 eLeI g_1.in_,.sl 1 eB g_1.home]),(1,.o 0),(2,.o 2),(3,.i but),(4,.fn (.func 118) [] []),(27,.sl 1 eI x13),(28,.i (x13.length:Int)),(29,.i s16.2.2)]) (fun x21=>[(0,.val (.os 1 eI x21.1)),(2,.val (.os 1 eI x21.2))]) 3 g (fun x21 g=>?_) fun J22 g j22=>?_
 refine C.nx (U.start (U.pd 2 T (C.nx ?_)))
 exact St.wk (C.next g) (Wk.a (idR 3))
 refine C.block (C.ss ?_)
 obtain⟨x25,y25,g⟩:=g
 refine U.ix T y25 ?_
 refine U.pd 2 T (C.xs (C.seq ?_))
 refine C.jn (fun (x26:Bool)=>[(0,.rp [.sl 1 Qe g_1.out,.sl 1 eLeI g_1.in_,.sl 1 eB g_1.home]),(1,.o 0),(2,.o 2),(3,.i but),(4,.fn (.func 118) [] []),(11,.i x25),(27,.sl 1 eI x13),(28,.i (x13.length:Int)),(29,.i s16.2.2),(45,.b x26)]) (fun x26=>[(0,.val (.os 1 eI s16.1)),(2,.val (.os 1 eI s16.2.1))]) 3 g (fun x26 g=>?_) fun J27 g j27=>?_
 refine C.nx ?_
 refine C.ite rfl g (fun b31 g=>?_) fun b31 g=>?_
 refine C.exit (C.ex (C.bex ?_))
 exact St.wa (idR 3) (j22 _ g)
 refine C.skip (C.xt (U.ps 4 T rfl (U.k (Xz g_1 s16.1 x25 but _ g) en64 (fun x34 g=>?_))))
 refine U.pd 5 T (C.xs ?_)
 refine C.jn (fun (x35:Bool)=>[(0,.rp [.sl 1 Qe g_1.out,.sl 1 eLeI g_1.in_,.sl 1 eB g_1.home]),(1,.o 0),(2,.o 2),(3,.i but),(4,.fn (.func 118) [] []),(11,.i x25),(12,.i x34.1),(27,.sl 1 eI x13),(28,.i (x13.length:Int)),(29,.i s16.2.2),(70,.b x35)]) (fun x35=>[(0,.val (.os 1 eI s16.1)),(2,.val (.os 1 eI s16.2.1))]) 3 g (fun x35 g=>?_) fun J36 g j36=>?_
 refine C.nx ?_
 refine C.jn (fun (x40:List Int×List Int)=>[(0,.rp [.sl 1 Qe g_1.out,.sl 1 eLeI g_1.in_,.sl 1 eB g_1.home]),(1,.o 0),(2,.o 2),(3,.i but),(4,.fn (.func 118) [] []),(27,.sl 1 eI x13),(28,.i (x13.length:Int)),(29,.i s16.2.2)]) (fun x40=>[(0,.val (.os 1 eI x40.1)),(2,.val (.os 1 eI x40.2))]) 3 g (fun x40 g=>?_) fun J41 g j41=>?_
 refine C.bnx ?_
 exact St.wa (idR 3) (j22 _ g)
 refine C.ite rfl g (fun b42 g=>?_) fun b42 g=>?_
 refine C.ss (U.ps 3 T rfl ?_)
 obtain⟨x45,y45,g⟩:=g
 refine U.r rfl (.none rfl) rfl rfl (by exact Rd.io T rfl rfl rfl rfl rfl rfl rfl y45) ?_
 refine U.e1 rfl (.none rfl) (by exact Eff1.se T (z':=x34.1) rfl rfl rfl (Q6 y45).2.2 rfl rfl rfl rfl rfl rfl rfl rfl (fun _=>rfl) rfl) ?_
 refine U.done (C.nx (U.start (U.ps 2 T rfl (U.bs T eI ([x25]:List Int) ?_))))
 obtain⟨y48,g⟩:=g
 refine U.ap T y48 ?_
 refine U.pd 1 T ?_
 exact St.wa [some 0,some 1,some 4] (j41 _ g)
 refine C.skip ?_
 exact St.wa (idR 3) (j41 _ g)
 refine U.start (U.ps 3 T rfl ?_)
 refine g.cs (fun b37 g=>?_) fun b37 g=>?_
 refine U.pq 2 2 true 56 b37 T ?_
 obtain⟨x38,y38,g⟩:=g
 refine U.r rfl (.tk 2 true 56 b37) rfl rfl (by exact Rd.io T rfl rfl rfl rfl rfl rfl rfl y38) ?_
 refine U.r rfl (.tk 2 true 56 b37) rfl rfl (by exact Rd.le T rfl rfl rfl (Q6 y38).2.2 rfl rfl rfl) ?_
 refine U.pq 2 2 true 56 b37 T ?_
 refine g.cs (fun b39 g=>?_) fun b39 g=>?_
 refine U.sk' 6 8 false 62 b39 ?_
 refine U.r rfl (.tk 2 true 56 b37) rfl rfl (by exact Rd.pk rfl rfl b39 rfl) ?_
 refine U.pk b37 ?_
 refine U.done ?_
 exact St.wa (idR 3) (j36 _ g)
 refine U.pq 3 8 false 62 b39 T ?_
 refine U.r rfl (.tk 8 false 62 b39) rfl rfl (by exact Rd.io T rfl rfl rfl rfl rfl rfl rfl y38) ?_
 refine U.r rfl (.tk 8 false 62 b39) rfl rfl (by exact Rd.le T rfl rfl rfl (Q6 y38).2.2 rfl rfl rfl) ?_
 refine U.pq 1 8 false 62 b39 T ?_
 refine U.r rfl (.tk 2 true 56 b37) rfl rfl (by exact Rd.pk' rfl rfl b39 rfl) ?_
 refine U.pk b37 ?_
 refine U.done ?_
 exact St.wa (idR 3) (j36 _ g)
 refine U.sk' 6 2 true 56 b37 ?_
 refine U.sku 6 8 false 62 rfl rfl rfl ?_
 refine U.sk' 1 2 true 56 b37 ?_
 refine U.pk' b37 ?_
 refine U.done ?_
 exact St.wa (idR 3) (j36 _ g)
 refine U.start (U.ps 5 T rfl ?_)
 obtain⟨x28,y28,g⟩:=g
 refine U.ix T y28 ?_
 refine U.ps 2 T rfl ?_
 refine g.cs (fun b29 g=>?_) fun b29 g=>?_
 refine U.sk' 4 7 false 40 b29 ?_
 refine U.pk b29 ?_
 refine U.done ?_
 exact St.wa (idR 3) (j27 _ g)
 refine U.pq 2 7 false 40 b29 T ?_
 refine U.k (Ze x25 _ g) Qa6 (fun x30 g=>?_) (hw:=.take 7 false 40 _ b29 rfl rfl rfl)
 refine U.pq 1 7 false 40 b29 T ?_
 refine U.pk' b29 ?_
 refine U.done ?_
 exact St.wa (idR 3) (j27 _ g)
 refine C.exit (C.ex (C.ex (C.bex ?_)))
 exact St.wa (idR 3) (j15 _ g)
 refine C.exit (C.ex (C.ex (C.bex ?_)))
 exact St.wk (j2 _ g) (Wk.mk' [some 0,some 1] rfl rfl trivial ⟨vL,trivial⟩ rfl)
theorem WN (g_1:ReachGraph) (post:(List Int)→Prop) (g:Kj g_1 post):
  Tr Tryz.prog 61 [.rp [.sl 1 Qe g_1.out,.sl 1 eLeI g_1.in_,.sl 1 eB g_1.home]] [] 0 (fun A H' k=>∃y,post y∧A=(.o 0)∧H'=[(0,.val (.os 1 eI y))]∧k=1):=by
 refine Tr.go Tryz.func61 Tryz.ntmps61 fun _ _ _ _ o=>?_
 unfold Kj at g
 refine C.ss (U.pd 1 T (C.xt ?_))
 refine U.ps 5 T rfl ?_
 obtain⟨y5,g⟩:=g
 refine U.e1 rfl (.none rfl) (by exact Eff1.mk T (enc:=eI) (z0:=0) rfl rfl rfl rfl rfl rfl rfl rfl rfl rfl y5) ?_
 refine U.pd 1 T (C.xt ?_)
 refine U.pd 1 T (C.xs (C.ss ?_))
 refine U.pd 6 T (C.nx ?_)
 refine C.jn (fun (x10:List Int×List Int)=>[(0,.rp [.sl 1 Qe g_1.out,.sl 1 eLeI g_1.in_,.sl 1 eB g_1.home]),(3,.o 0),(4,.o 1)]) (fun x10=>[(0,.val (.os 1 eI x10.1)),(1,.val (.os 1 eI x10.2))]) 2 g (fun x10 g=>?_) fun J11 g j11=>?_
 refine C.xt (U.ps 3 T rfl (U.c (idR 2) (X6 g_1 (-1) x10.1 x10.2 _ g) Q8E (fun x37 g=>?_)))
 refine U.done (C.xt (U.pd 2 T (C.nx (C.ret ?_))))
 exact C.g1 [some 0] T o ⟨x37,g,rfl,rfl,rfl⟩
 refine C.block ?_
 refine St.wk (C.loop (fun (s12:List Int×List Int×Int)=>[(0,.rp [.sl 1 Qe g_1.out,.sl 1 eLeI g_1.in_,.sl 1 eB g_1.home]),(3,.o 0),(4,.o 1),(16,.sl 1 eB g_1.home),(17,.i (g_1.home.length:Int)),(18,.i s12.2.2)]) (fun s12=>[(0,.val (.os 1 eI s12.1)),(1,.val (.os 1 eI s12.2.1))]) g (fun s12 Y13 g=>?_)) (Wk.mk' [some 0,none] rfl rfl ⟨⟨_,rfl,(.eq rfl)⟩,⟨_,rfl,(.eq rfl)⟩,⟨_,rfl,(.nilO _ _ ⟨rfl,rfl⟩ rfl)⟩,ChkG.eqs rfl⟩ ⟨vL,⟨_,rfl,.nil _ _⟩,trivial⟩ rfl)
 refine C.ss (U.pd 1 T (C.xs ?_))
 refine C.ite rfl g (fun b16 g=>?_) fun b16 g=>?_
 refine C.skip (C.xs (C.block (C.ss (U.ps 1 T rfl ?_))))
 obtain⟨x19,y19,g⟩:=g
 refine U.ix T y19 ?_
 refine U.pd 3 T (C.xt ?_)
 refine U.ps 2 T rfl ?_
 obtain⟨x22,y22,g⟩:=g
 refine U.r rfl (.none rfl) rfl rfl (by exact Rd.io T rfl rfl rfl rfl rfl rfl rfl y22) ?_
 refine U.e1 rfl (.none rfl) (by exact Eff1.se T (z':=(-1)) rfl rfl rfl (Q6 y22).2.2 rfl rfl rfl rfl rfl rfl rfl rfl (fun _=>rfl) rfl) ?_
 refine U.done (C.xt (U.pd 1 T (C.nx ?_)))
 refine C.jn (fun (x25:List Int×List Int)=>[(0,.rp [.sl 1 Qe g_1.out,.sl 1 eLeI g_1.in_,.sl 1 eB g_1.home]),(3,.o 0),(4,.o 1),(16,.sl 1 eB g_1.home),(17,.i (g_1.home.length:Int)),(18,.i s12.2.2)]) (fun x25=>[(0,.val (.os 1 eI x25.1)),(1,.val (.os 1 eI x25.2))]) 2 g (fun x25 g=>?_) fun J26 g j26=>?_
 refine C.bnx (C.nx (U.start (U.pd 2 T (C.nx ?_))))
 exact St.wk (C.next g) (Wk.a (idR 2))
 refine C.ite rfl g (fun b27 g=>?_) fun b27 g=>?_
 refine C.ss (U.ps 2 T rfl (U.r rfl (.none rfl) rfl rfl (by exact Rd.io T rfl rfl rfl rfl rfl rfl rfl (Q48 y22)) ?_))
 refine U.e1 rfl (.none rfl) (by exact Eff1.se T (z':=0) rfl rfl rfl (Gq (Q6 y22).2.2) rfl rfl rfl rfl rfl rfl rfl rfl (fun _=>rfl) rfl) ?_
 refine U.done (C.nx (U.start (U.ps 2 T rfl (U.bs T eI ([s12.2.2]:List Int) ?_))))
 obtain⟨y32,g⟩:=g
 refine U.ap T y32 ?_
 refine U.pd 1 T ?_
 exact St.wa [some 0,some 3] (j26 _ g)
 refine C.skip ?_
 exact St.wa (idR 2) (j26 _ g)
 refine C.exit (C.ex (C.ex (C.bex ?_)))
 exact St.wa (idR 2) (j11 _ g)
theorem Q0P (s_1:ApiSite) (blocked:List Int) (post:(List Int)→Prop) (g:KO s_1 blocked post):
  Tr Tryz.prog 19 [.agg (Q0 s_1),.sl 1 eI blocked] [] 0 (fun A H' k=>∃y,post y∧A=(.o 0)∧H'=[(0,.val (.os 1 eI y))]∧k=1):=by
 refine Tr.go Tryz.func19 Tryz.ntmps19 fun _ _ _ _ o=>?_
 unfold KO at g
 refine C.ss (U.bx ?_)
 refine U.pd 1 T (C.xt ?_)
 refine U.ps 2 T rfl (U.k (Yv s_1 blocked _ g) en60 (fun x5 g=>?_))
 refine U.k (WN x5 _ g) en61 fun x6 g=>?_
 refine U.pd 1 T (C.nx (C.ret ?_))
 exact C.g1 [some 5] T o ⟨x6,g,rfl,rfl,rfl⟩
theorem ZP (a:List Int) (b:List Int) (post:Bool→Prop) (g:Kl a b post):
  Tr Tryz.prog 18 [.sl 1 eI a,.sl 1 eI b] [] 0 (pB post):=by
 refine Tr.go Tryz.func18 Tryz.ntmps18 fun _ _ _ _ o=>?_
 unfold Kl at g
 refine C.ss (U.pd 1 T (C.xs (C.ss ?_)))
 refine U.pd 5 T (C.nx ?_)
 refine C.ite rfl g (fun b5 g=>?_) fun b5 g=>?_
 refine C.ss (U.pd 1 T (C.nx (C.ret (C.rt ?_))))
 exact C.f1 T o (pBi g)
 refine C.skip (C.xs (C.ss (U.pd 1 T (C.nx ?_))))
 refine C.jn (fun (x10:Unit)=>[]) (fun x10=>[]) 0 g (fun x10 g=>?_) fun J11 g j11=>?_
 refine C.xt (U.pd 1 T (C.nx (C.ret ?_)))
 exact C.f1 T o (pBi g)
 refine C.block (St.wk (C.loop (fun (s12:Int)=>[(0,.sl 1 eI a),(1,.sl 1 eI b),(5,.i s12)]) (fun s12=>[]) g (fun s12 Y13 g=>?_)) (Wk.e))
 refine C.seq (C.ss (U.pd 4 T (C.nx ?_)))
 refine C.ite rfl g (fun b16 g=>?_) fun b16 g=>?_
 refine C.skip (C.xs (C.block (C.seq (D.bq mix 9999 [] [] (fun hQ hS ws M'=>?_)))))
 refine D.pq 2 (zl [0,1]) T ?_
 obtain⟨x19,y19,g⟩:=g
 refine D.ix 2 [] T y19 ?_
 refine D.pq 3 (zl [3,4,5]) T ?_
 obtain⟨x20,y20,g⟩:=g
 refine D.ix 6 [] T y20 ?_
 refine D.pq 2 (zl [7,8]) T ?_
 refine D.done (by kernel_rfl) ?_
 refine C.nx ?_
 refine C.ite rfl g (fun b21 g=>?_) fun b21 g=>?_
 refine C.ss (U.pd 1 T (C.nx (C.ret (C.brt (C.rt (C.rt (C.brt (C.rt ?_))))))))
 exact C.f1 T o (pBi g)
 refine C.skip (C.bnx (C.nx (U.start (U.pd 3 T (C.nx ?_)))))
 exact St.wk (C.next g) (Wk.e)
 refine C.exit (C.ex (C.ex (C.bex ?_)))
 exact St.wk (j11 _ g) (Wk.mk' [] rfl rfl trivial trivial rfl)
theorem QW (s_1:List Int) (post:(List Int)→Prop) (g:QC s_1 post):
  Tr Tryz.prog 63 [.sl 1 eI s_1] [] 0 (fun A H' k=>∃y,post y∧A=(.o 0)∧H'=[(0,.val (.os 1 eI y))]∧k=1):=by
 refine Tr.go Tryz.func63 Tryz.ntmps63 fun _ _ _ _ o=>?_
 unfold QC at g
 refine C.ss (U.pd 1 T (C.xs (C.ss ?_)))
 refine U.ps 1 T rfl (U.e rfl (.none rfl) (by exact Eff.isnil T true rfl rfl rfl rfl rfl rfl (.inl ⟨.sl,rfl⟩) rfl) (fun b5' hhb5=>?_))
 obtain⟨b5⟩:=b5'
 replace g:=g b5 hhb5
 refine U.done (C.nx ?_)
 refine C.ite rfl g (fun b6 g=>?_) fun b6 g=>?_
 refine C.ss (U.pd 1 T (C.nx (C.ret (C.rt ?_))))
 exact C.g1 [none] T o ⟨[],g,rfl,rfl,rfl⟩
 refine C.skip (C.xt (U.bs T eI ([]:List Int) ?_))
 refine U.ps 1 T rfl ?_
 obtain⟨y11,g⟩:=g
 refine U.ap T y11 ?_
 refine U.pd 1 T (C.nx (C.ret ?_))
 exact C.g1 [some 1] T o ⟨(([]:List Int)++s_1),g,rfl,rfl,rfl⟩
theorem Yi (c:Int) (c0:List (Int×Int)) (post:Bool→Prop) (g:K3 c c0 post):
  Tr Tryz.prog 120 [.i c,.rp [.rm kI veI c0]] [] 0 (pB post):=by
 refine Tr.go Tryz.func120 Tryz.ntmps120 fun _ _ _ _ o=>?_
 unfold K3 at g
 refine C.ss (U.pd 1 T (C.xt ?_))
 refine U.ps 2 T rfl (U.r rfl (.none rfl) rfl rfl (by exact Rd.lk2 T (ke:=kI) (ve:=veI) (xs:=c0) (z0:=0) (x:=c) rfl rfl kt3 zt3 (fun _=>rfl) rfl .rm rfl rfl rfl) ?_)
 refine U.pd 5 T (C.xt ?_)
 refine U.pd 2 T (C.nx (C.ret ?_))
 exact C.f1 T o (pBi g)
theorem KK (g_1:ReachGraph) (but:Int) (may_c0:List (Int×Int)) (fuel:List Int) (queue:List Int) (post:(List Int)→Prop) (g:QB g_1 but may_c0 fuel queue post):
  Tr Tryz.prog 117 [.rp [.sl 1 Qe g_1.out,.sl 1 eLeI g_1.in_,.sl 1 eB g_1.home],.o 0,.o 1,.i but,.fn (.func 120) [] [.rp [.rm kI veI may_c0]]] [(0,.val (.os 1 eI fuel)),(1,.val (.os 1 eI queue))] 2 (fun A H' k=>∃y,post y∧A=(.tup [])∧H'=[(0,.val (.os 1 eI y))]∧k=2):=by
 refine Tr.go Tryz.func117 Tryz.ntmps117 fun _ _ _ _ o=>?_
 unfold QB at g
 refine C.jn (fun (x1:List Int)=>[]) (fun x1=>[(0,.val (.os 1 eI x1))]) 2 g (fun x1 g=>?_) fun J2 g j2=>?_
 exact C.fg (idR 2) T o ⟨x1,g,rfl,rfl,rfl⟩
 refine C.block (St.wk (C.loop (fun (s3:List Int×List Int)=>[(0,.rp [.sl 1 Qe g_1.out,.sl 1 eLeI g_1.in_,.sl 1 eB g_1.home]),(1,.o 0),(2,.o 2),(3,.i but),(4,.fn (.func 120) [] [.rp [.rm kI veI may_c0]])]) (fun s3=>[(0,.val (.os 1 eI s3.1)),(2,.val (.os 1 eI s3.2))]) g (fun s3 Y4 g=>?_)) (Wk.a [some 0,some 1,some 1]))
 refine C.seq (C.ss (U.pd 3 T (C.nx ?_)))
 refine C.ite rfl g (fun b7 g=>?_) fun b7 g=>?_
 refine C.skip (C.xs ?_)
 refine C.jn (fun (x8:List Int×List Int)=>[(0,.rp [.sl 1 Qe g_1.out,.sl 1 eLeI g_1.in_,.sl 1 eB g_1.home]),(1,.o 0),(2,.o 2),(3,.i but),(4,.fn (.func 120) [] [.rp [.rm kI veI may_c0]])]) (fun x8=>[(0,.val (.os 1 eI x8.1)),(2,.val (.os 1 eI x8.2))]) 3 g (fun x8 g=>?_) fun J9 g j9=>?_
 refine C.nx (U.start (U.ps 1 T rfl ?_))
 obtain⟨y53,g⟩:=g
 refine U.e1 rfl (.none rfl) (by exact Eff1.sw T rfl rfl rfl rfl rfl rfl rfl rfl (.some _ rfl) (.none _) y53) ?_
 refine U.pd 1 T (C.nx ?_)
 exact St.wk (C.next g) (Wk.a [some 0,some 1,some 3])
 refine C.block (C.seq (D.bq mix 9999 [2] [] (fun hQ hS ws M'=>?_)))
 refine D.pq 5 (zl [0,1,2,3,4]) T ?_
 obtain⟨x12,y12,g⟩:=g
 refine D.q 5 [] hQ hS rfl (.none rfl) rfl rfl (by exact Rd.io T rfl rfl rfl rfl rfl rfl rfl y12) rfl (by kernel_rfl) ?_
 refine D.q 6 [] hQ hS rfl (.none rfl) rfl rfl (by exact Rd.le T rfl rfl rfl (Q6 y12).2.2 rfl rfl rfl) rfl (by kernel_rfl) ?_
 obtain⟨x13,y13,g⟩:=g
 refine D.ix 7 [] T y13 ?_
 refine D.pq 3 (zl [8,9,10]) T ?_
 refine D.done (by kernel_rfl) ?_
 refine C.nx ?_
 refine C.jn (fun (x14:List Int×List Int)=>[(0,.rp [.sl 1 Qe g_1.out,.sl 1 eLeI g_1.in_,.sl 1 eB g_1.home]),(1,.o 0),(2,.o 2),(3,.i but),(4,.fn (.func 120) [] [.rp [.rm kI veI may_c0]])]) (fun x14=>[(0,.val (.os 1 eI x14.1)),(2,.val (.os 1 eI x14.2))]) 3 g (fun x14 g=>?_) fun J15 g j15=>?_
 refine C.bnx ?_
 exact St.wa (idR 3) (j9 _ g)
 refine C.block ?_
 refine St.wk (C.loop (fun (s16:List Int×List Int×Int)=>[(0,.rp [.sl 1 Qe g_1.out,.sl 1 eLeI g_1.in_,.sl 1 eB g_1.home]),(1,.o 0),(2,.o 2),(3,.i but),(4,.fn (.func 120) [] [.rp [.rm kI veI may_c0]]),(27,.sl 1 eI x13),(28,.i (x13.length:Int)),(29,.i s16.2.2)]) (fun s16=>[(0,.val (.os 1 eI s16.1)),(2,.val (.os 1 eI s16.2.1))]) g (fun s16 Y17 g=>?_)) (Wk.a (idR 3))
 refine C.ss (U.pd 1 T (C.xs ?_))
 refine C.ite rfl g (fun b20 g=>?_) fun b20 g=>?_
 refine C.skip (C.xs ?_)
 refine C.jn (fun (x21:List Int×List Int)=>[(0,.rp [.sl 1 Qe g_1.out,.sl 1 eLeI g_1.in_,.sl 1 eB g_1.home]),(1,.o 0),(2,.o 2),(3,.i but),(4,.fn (.func 120) [] [.rp [.rm kI veI may_c0]]),(27,.sl 1 eI x13),(28,.i (x13.length:Int)),(29,.i s16.2.2)]) (fun x21=>[(0,.val (.os 1 eI x21.1)),(2,.val (.os 1 eI x21.2))]) 3 g (fun x21 g=>?_) fun J22 g j22=>?_
 refine C.nx (U.start (U.pd 2 T (C.nx ?_)))
 exact St.wk (C.next g) (Wk.a (idR 3))
 refine C.block (C.ss ?_)
 obtain⟨x25,y25,g⟩:=g
 refine U.ix T y25 ?_
 refine U.pd 2 T (C.xs (C.seq ?_))
 refine C.jn (fun (x26:Bool)=>[(0,.rp [.sl 1 Qe g_1.out,.sl 1 eLeI g_1.in_,.sl 1 eB g_1.home]),(1,.o 0),(2,.o 2),(3,.i but),(4,.fn (.func 120) [] [.rp [.rm kI veI may_c0]]),(11,.i x25),(27,.sl 1 eI x13),(28,.i (x13.length:Int)),(29,.i s16.2.2),(45,.b x26)]) (fun x26=>[(0,.val (.os 1 eI s16.1)),(2,.val (.os 1 eI s16.2.1))]) 3 g (fun x26 g=>?_) fun J27 g j27=>?_
 refine C.nx ?_
 refine C.ite rfl g (fun b31 g=>?_) fun b31 g=>?_
 refine C.exit (C.ex (C.bex ?_))
 exact St.wa (idR 3) (j22 _ g)
 refine C.skip (C.xt (U.ps 4 T rfl (U.k (Xz g_1 s16.1 x25 but _ g) en64 (fun x34 g=>?_))))
 refine U.pd 5 T (C.xs ?_)
 refine C.jn (fun (x35:Bool)=>[(0,.rp [.sl 1 Qe g_1.out,.sl 1 eLeI g_1.in_,.sl 1 eB g_1.home]),(1,.o 0),(2,.o 2),(3,.i but),(4,.fn (.func 120) [] [.rp [.rm kI veI may_c0]]),(11,.i x25),(12,.i x34.1),(27,.sl 1 eI x13),(28,.i (x13.length:Int)),(29,.i s16.2.2),(70,.b x35)]) (fun x35=>[(0,.val (.os 1 eI s16.1)),(2,.val (.os 1 eI s16.2.1))]) 3 g (fun x35 g=>?_) fun J36 g j36=>?_
 refine C.nx ?_
 refine C.jn (fun (x40:List Int×List Int)=>[(0,.rp [.sl 1 Qe g_1.out,.sl 1 eLeI g_1.in_,.sl 1 eB g_1.home]),(1,.o 0),(2,.o 2),(3,.i but),(4,.fn (.func 120) [] [.rp [.rm kI veI may_c0]]),(27,.sl 1 eI x13),(28,.i (x13.length:Int)),(29,.i s16.2.2)]) (fun x40=>[(0,.val (.os 1 eI x40.1)),(2,.val (.os 1 eI x40.2))]) 3 g (fun x40 g=>?_) fun J41 g j41=>?_
 refine C.bnx ?_
 exact St.wa (idR 3) (j22 _ g)
 refine C.ite rfl g (fun b42 g=>?_) fun b42 g=>?_
 refine C.ss (U.ps 3 T rfl ?_)
 obtain⟨x45,y45,g⟩:=g
 refine U.r rfl (.none rfl) rfl rfl (by exact Rd.io T rfl rfl rfl rfl rfl rfl rfl y45) ?_
 refine U.e1 rfl (.none rfl) (by exact Eff1.se T (z':=x34.1) rfl rfl rfl (Q6 y45).2.2 rfl rfl rfl rfl rfl rfl rfl rfl (fun _=>rfl) rfl) ?_
 refine U.done (C.nx (U.start (U.ps 2 T rfl (U.bs T eI ([x25]:List Int) ?_))))
 obtain⟨y48,g⟩:=g
 refine U.ap T y48 ?_
 refine U.pd 1 T ?_
 exact St.wa [some 0,some 1,some 4] (j41 _ g)
 refine C.skip ?_
 exact St.wa (idR 3) (j41 _ g)
 refine U.start (U.ps 3 T rfl ?_)
 refine g.cs (fun b37 g=>?_) fun b37 g=>?_
 refine U.pq 2 2 true 56 b37 T ?_
 obtain⟨x38,y38,g⟩:=g
 refine U.r rfl (.tk 2 true 56 b37) rfl rfl (by exact Rd.io T rfl rfl rfl rfl rfl rfl rfl y38) ?_
 refine U.r rfl (.tk 2 true 56 b37) rfl rfl (by exact Rd.le T rfl rfl rfl (Q6 y38).2.2 rfl rfl rfl) ?_
 refine U.pq 2 2 true 56 b37 T ?_
 refine g.cs (fun b39 g=>?_) fun b39 g=>?_
 refine U.sk' 6 8 false 62 b39 ?_
 refine U.r rfl (.tk 2 true 56 b37) rfl rfl (by exact Rd.pk rfl rfl b39 rfl) ?_
 refine U.pk b37 ?_
 refine U.done ?_
 exact St.wa (idR 3) (j36 _ g)
 refine U.pq 3 8 false 62 b39 T ?_
 refine U.r rfl (.tk 8 false 62 b39) rfl rfl (by exact Rd.io T rfl rfl rfl rfl rfl rfl rfl y38) ?_
 refine U.r rfl (.tk 8 false 62 b39) rfl rfl (by exact Rd.le T rfl rfl rfl (Q6 y38).2.2 rfl rfl rfl) ?_
 refine U.pq 1 8 false 62 b39 T ?_
 refine U.r rfl (.tk 2 true 56 b37) rfl rfl (by exact Rd.pk' rfl rfl b39 rfl) ?_
 refine U.pk b37 ?_
 refine U.done ?_
 exact St.wa (idR 3) (j36 _ g)
 refine U.sk' 6 2 true 56 b37 ?_
 refine U.sku 6 8 false 62 rfl rfl rfl ?_
 refine U.sk' 1 2 true 56 b37 ?_
 refine U.pk' b37 ?_
 refine U.done ?_
 exact St.wa (idR 3) (j36 _ g)
 refine U.start (U.ps 5 T rfl ?_)
 obtain⟨x28,y28,g⟩:=g
 refine U.ix T y28 ?_
 refine U.ps 2 T rfl ?_
 refine g.cs (fun b29 g=>?_) fun b29 g=>?_
 refine U.sk' 4 7 false 40 b29 ?_
 refine U.pk b29 ?_
 refine U.done ?_
 exact St.wa (idR 3) (j27 _ g)
 refine U.pq 2 7 false 40 b29 T ?_
 refine U.k (Yi x25 may_c0 _ g) Q9V (fun x30 g=>?_) (hw:=.take 7 false 40 _ b29 rfl rfl rfl)
 refine U.pq 1 7 false 40 b29 T ?_
 refine U.pk' b29 ?_
 refine U.done ?_
 exact St.wa (idR 3) (j27 _ g)
 refine C.exit (C.ex (C.ex (C.bex ?_)))
 exact St.wa (idR 3) (j15 _ g)
 refine C.exit (C.ex (C.ex (C.bex ?_)))
 exact St.wk (j2 _ g) (Wk.mk' [some 0,some 1] rfl rfl trivial ⟨vL,trivial⟩ rfl)
theorem Z1 (g_1:ReachGraph) (fuel:List Int) (children:List (List Int)) (x_1:Int) (post:(Sum (Unit) (List (Int×Int)))→Prop) (g:Kh g_1 fuel children x_1 post):
  Tr Tryz.prog 65 [.rp [.sl 1 Qe g_1.out,.sl 1 eLeI g_1.in_,.sl 1 eB g_1.home],.sl 1 eI fuel,.sl 1 eLeI children,.i x_1] [] 0 (fun A H' k=>∃y,post y∧A=((match y with | .inl y=>.v (.map none) | .inr y=>.o 0))∧H'=(match y with | .inl y=>[] | .inr y=>[(0,.val (.om kI veI y))])∧k=(match y with | .inl _=>0 | .inr _=>1)):=by
 refine Tr.go Tryz.func65 Tryz.ntmps65 fun _ _ _ _ o=>?_
 unfold Kh at g
 refine C.ss (U.pd 1 T (C.xt ?_))
 refine U.ps 2 T rfl ?_
 obtain⟨x5,y5,g⟩:=g
 refine U.ix T y5 ?_
 refine U.ps 1 T rfl (U.k (QW x5 _ g) en63 (fun x6 g=>?_))
 refine U.pd 1 T (C.xs (C.ss ?_))
 refine U.pd 1 T (C.nx ?_)
 refine C.jn (fun (x9:List Int)=>[(0,.rp [.sl 1 Qe g_1.out,.sl 1 eLeI g_1.in_,.sl 1 eB g_1.home]),(1,.sl 1 eI fuel),(3,.i x_1),(9,.o 0)]) (fun x9=>[(0,.val (.os 1 eI x9))]) 1 g (fun x9 g=>?_) fun J10 g j10=>?_
 refine C.xs (C.ss (U.pd 3 T (C.nx ?_)))
 refine C.ite rfl g (fun b25 g=>?_) fun b25 g=>?_
 refine C.ss (U.pd 1 T (C.nx (C.ret (C.rt ?_))))
 exact C.f1 T o ⟨(.inl ()),g,rfl,rfl,rfl⟩
 refine C.skip (C.xt (U.ps 1 T rfl (U.k (QW fuel _ g) en63 (fun x30 g=>?_))))
 refine U.pd 1 T (C.xt ?_)
 refine U.e1 rfl (.none rfl) (by exact Eff1.mm kI veI rfl rfl rfl) ?_
 refine U.al T ?_
 refine U.st T ?_
 refine U.done (C.xs (C.ss (U.pd 3 T (C.nx ?_))))
 refine C.jn (fun (x35:List Int×List (Int×Int))=>[(0,.rp [.sl 1 Qe g_1.out,.sl 1 eLeI g_1.in_,.sl 1 eB g_1.home]),(3,.i x_1),(9,.o 0),(11,.o 1),(12,.p 2 0)]) (fun x35=>[(0,.val (.os 1 eI x9)),(1,.val (.os 1 eI x35.1)),(2,.box [.o 3]),(3,.val (.om kI veI x35.2))]) 4 g (fun x35 g=>?_) fun J36 g j36=>?_
 refine C.xt (U.pd 1 T (C.xs (C.ss ?_)))
 refine U.pd 3 T (C.nx ?_)
 refine C.jn (fun (x54:List (Int×Int))=>[(0,.rp [.sl 1 Qe g_1.out,.sl 1 eLeI g_1.in_,.sl 1 eB g_1.home]),(3,.i x_1),(9,.o 0),(11,.o 1),(12,.p 2 0),(15,vN)]) (fun x54=>[(0,.val (.os 1 eI x9)),(1,.val (.os 1 eI x35.1)),(2,.box [.o 3]),(3,.val (.om kI veI x54))]) 4 g (fun x54 g=>?_) fun J55 g j55=>?_
 refine C.xs (C.ss (U.pd 3 T (C.nx ?_)))
 refine C.jn (fun (x78:List Int×List Int)=>[(0,.rp [.sl 1 Qe g_1.out,.sl 1 eLeI g_1.in_,.sl 1 eB g_1.home]),(3,.i x_1),(9,.o 0),(11,.o 1),(12,.p 2 0),(15,.o 4)]) (fun x78=>[(0,.val (.os 1 eI x9)),(1,.val (.os 1 eI x78.1)),(2,.box [.o 3]),(3,.val (.om kI veI x54)),(4,.val (.os 1 eI x78.2))]) 5 g (fun x78 g=>?_) fun J79 g j79=>?_
 refine C.xt (U.ps 5 T rfl ?_)
 refine U.e rfl (.none rfl) (by exact Eff.c [some 1,some 4] (v:=true) (KK g_1 x_1 x54 x78.1 x78.2 _ g) Q8E rfl rfl rfl (.cons (.eq rfl) (.cons (.eq rfl) (.cons (.eq rfl) (.cons (.eq rfl) (.cons (.fn (.eq rfl) (.cons (.fzp rfl rfl rfl rfl (.cons (.fz rfl rfl rfl (.om fun _=>.ro rfl)) .nil) rfl) .nil)) .nil))))) ⟨vL,vL,trivial⟩ rfl rfl rfl rfl rfl rfl (fun _ _=>⟨(.tup .nil),⟨.val (.os _ _ _ fun _=>(.cons (.v _) .nil)),trivial⟩⟩) (.inl rfl) (fun _=>rfl) (fun _=>rfl) rfl) (fun x103' g=>?_)
 obtain⟨x103⟩:=x103'
 refine U.done (C.xs (C.ss (U.pd 3 T (C.nx ?_))))
 refine C.jn (fun (x106:List (Int×Int))=>[(12,.p 0 0)]) (fun x106=>[(0,.box [.o 1]),(1,.val (.om kI veI x106))]) 2 g (fun x106 g=>?_) fun J107 g j107=>?_
 refine C.xt (U.pd 2 T (C.nx (C.ret ?_)))
 exact C.g1 [some 1] T o ⟨(.inr x106),g,rfl,rfl,rfl⟩
 refine C.block (St.wk (C.loop (fun (s108:List (Int×Int)×Int)=>[(11,.o 0),(12,.p 1 0),(110,.o 3),(111,.i (x9.length:Int)),(112,.i s108.2)]) (fun s108=>[(0,.val (.os 1 eI x103)),(1,.box [.o 2]),(2,.val (.om kI veI s108.1)),(3,.val (.os 1 eI x9))]) g (fun s108 Y109 g=>?_)) (Wk.a [some 1,some 2,some 3,some 0]))
 refine C.ss (U.pd 1 T (C.xs ?_))
 refine C.ite rfl g (fun b112 g=>?_) fun b112 g=>?_
 refine C.skip (C.xs (C.block (C.ss ?_)))
 obtain⟨x115,y115,g⟩:=g
 refine U.r rfl (.none rfl) rfl rfl (by exact Rd.io T rfl rfl rfl rfl rfl rfl rfl y115) ?_
 refine U.r rfl (.none rfl) rfl rfl (by exact Rd.le T rfl rfl rfl (Q6 y115).2.2 rfl rfl rfl) ?_
 refine U.pd 1 T (C.nx ?_)
 refine D.bq mix 6 [0,1] [] (fun hQ hS ws M'=>?_)
 refine D.pq 4 (zl [0,1,2,3]) T ?_
 obtain⟨x118,y118,g⟩:=g
 refine D.q 4 [] hQ hS rfl (.none rfl) rfl rfl (by exact Rd.io T rfl rfl rfl rfl rfl rfl rfl y118) rfl (by kernel_rfl) ?_
 refine D.q 5 [] hQ hS rfl (.none rfl) rfl rfl (by exact Rd.le T rfl rfl rfl (Q6 y118).2.2 rfl rfl rfl) rfl (by kernel_rfl) ?_
 refine D.ze1 rfl (.none rfl) (by exact Eff1.mu T (x:=x115) (y:=x118) (.inl rfl) rfl kt3 (fun _=>rfl) rfl rfl rfl rfl rfl (.inl rfl) rfl) (by kernel_rfl) (by kernel_rfl) ?_
 refine C.bnx (C.nx (U.start (U.pd 2 T (C.nx ?_))))
 exact St.wk (C.next g) (Wk.a (idR 4))
 refine C.exit (C.ex (C.ex (C.bex ?_)))
 exact St.wa (sqR 1 2) (j107 _ g)
 refine C.block ?_
 refine St.wk (C.loop (fun (s80:List Int×List Int×Int)=>[(0,.rp [.sl 1 Qe g_1.out,.sl 1 eLeI g_1.in_,.sl 1 eB g_1.home]),(3,.i x_1),(9,.o 0),(11,.o 1),(12,.p 2 0),(15,.o 4),(82,.o 0),(83,.i (x9.length:Int)),(84,.i s80.2.2)]) (fun s80=>[(0,.val (.os 1 eI x9)),(1,.val (.os 1 eI s80.1)),(2,.box [.o 3]),(3,.val (.om kI veI x54)),(4,.val (.os 1 eI s80.2.1))]) g (fun s80 Y81 g=>?_)) (Wk.mk' [some 0,some 1,some 2,some 3,none] rfl rfl ⟨⟨_,rfl,(.eq rfl)⟩,⟨_,rfl,(.eq rfl)⟩,⟨_,rfl,(.eq rfl)⟩,⟨_,rfl,(.eq rfl)⟩,⟨_,rfl,(.eq rfl)⟩,⟨_,rfl,(.nilO _ _ ⟨rfl,rfl⟩ rfl)⟩,ChkG.eqs rfl⟩ ⟨vL,vL,bX,vL,⟨_,rfl,.nil _ _⟩,trivial⟩ rfl)
 refine C.ss (U.pd 1 T (C.xs ?_))
 refine C.ite rfl g (fun b84 g=>?_) fun b84 g=>?_
 refine C.skip (C.xs (C.block (C.ss ?_)))
 obtain⟨x87,y87,g⟩:=g
 refine U.r rfl (.none rfl) rfl rfl (by exact Rd.io T rfl rfl rfl rfl rfl rfl rfl y87) ?_
 refine U.r rfl (.none rfl) rfl rfl (by exact Rd.le T rfl rfl rfl (Q6 y87).2.2 rfl rfl rfl) ?_
 refine U.pd 1 T (C.xt ?_)
 refine U.ps 4 T rfl (U.r rfl (.none rfl) rfl rfl (by exact Rd.lk T (ke:=kI) (ve:=veI) (xs:=x54) (z0:=0) (x:=x87) rfl rfl kt3 zt3 (fun _=>rfl) rfl (.o rfl) rfl rfl rfl) ?_)
 obtain⟨x90,y90,g⟩:=g
 refine U.r rfl (.none rfl) rfl rfl (by exact Rd.io T rfl rfl rfl rfl rfl rfl rfl y90) ?_
 refine U.e1 rfl (.none rfl) (by exact Eff1.se T (z':=((lk x54 x87).getD 0)) rfl rfl rfl (Q6 y90).2.2 rfl rfl rfl rfl rfl rfl rfl rfl (fun _=>rfl) rfl) ?_
 refine U.done (C.xt (U.ps 2 T rfl (U.r rfl (.none rfl) rfl rfl (by exact Rd.io T rfl rfl rfl rfl rfl rfl rfl (Q48 y90)) ?_)))
 refine U.r rfl (.none rfl) rfl rfl (by exact Rd.le T rfl rfl rfl (Gq (Q6 y90).2.2) rfl rfl rfl) ?_
 refine U.pd 1 T (C.nx ?_)
 refine C.jn (fun (x93:List Int)=>[(0,.rp [.sl 1 Qe g_1.out,.sl 1 eLeI g_1.in_,.sl 1 eB g_1.home]),(3,.i x_1),(9,.o 0),(11,.o 1),(12,.p 2 0),(15,.o 4),(82,.o 0),(83,.i (x9.length:Int)),(84,.i s80.2.2)]) (fun x93=>[(0,.val (.os 1 eI x9)),(1,.val (.os 1 eI (s80.1.set (Int.toNat x87) ((lk x54 x87).getD 0)))),(2,.box [.o 3]),(3,.val (.om kI veI x54)),(4,.val (.os 1 eI x93))]) 5 g (fun x93 g=>?_) fun J94 g j94=>?_
 refine C.bnx (C.nx (U.start (U.pd 2 T (C.nx ?_))))
 exact St.wk (C.next g) (Wk.a (idR 5))
 refine C.ite rfl g (fun b95 g=>?_) fun b95 g=>?_
 refine U.start (U.ps 2 T rfl (U.bs T eI ([x87]:List Int) ?_))
 obtain⟨y98,g⟩:=g
 refine U.ap T y98 ?_
 refine U.pd 1 T ?_
 exact St.wa [some 0,some 1,some 2,some 3,some 6] (j94 _ g)
 refine C.skip ?_
 exact St.wa (idR 5) (j94 _ g)
 refine C.exit (C.ex (C.ex (C.bex ?_)))
 exact St.wa (idR 5) (j79 _ g)
 refine C.block ?_
 refine St.wk (C.loop (fun (s56:List (Int×Int)×Int)=>[(0,.rp [.sl 1 Qe g_1.out,.sl 1 eLeI g_1.in_,.sl 1 eB g_1.home]),(3,.i x_1),(9,.o 0),(11,.o 1),(12,.p 2 0),(15,vN),(62,.o 0),(63,.i (x9.length:Int)),(64,.i s56.2)]) (fun s56=>[(0,.val (.os 1 eI x9)),(1,.val (.os 1 eI x35.1)),(2,.box [.o 3]),(3,.val (.om kI veI s56.1))]) g (fun s56 Y57 g=>?_)) (Wk.a (idR 4))
 refine C.ss (U.pd 1 T (C.xs ?_))
 refine C.ite rfl g (fun b60 g=>?_) fun b60 g=>?_
 refine C.skip (C.xs (C.block (C.ss ?_)))
 obtain⟨x63,y63,g⟩:=g
 refine U.r rfl (.none rfl) rfl rfl (by exact Rd.io T rfl rfl rfl rfl rfl rfl rfl y63) ?_
 refine U.r rfl (.none rfl) rfl rfl (by exact Rd.le T rfl rfl rfl (Q6 y63).2.2 rfl rfl rfl) ?_
 refine U.pd 1 T (C.xt ?_)
 refine U.ps 4 T rfl (U.k (Xz g_1 x35.1 x63 x_1 _ g) en64 (fun x66 g=>?_))
 refine U.pd 5 T (C.xt ?_)
 refine U.pd 2 T (C.nx ?_)
 refine C.jn (fun (x69:List (Int×Int))=>[(0,.rp [.sl 1 Qe g_1.out,.sl 1 eLeI g_1.in_,.sl 1 eB g_1.home]),(3,.i x_1),(9,.o 0),(11,.o 1),(12,.p 2 0),(15,vN),(62,.o 0),(63,.i (x9.length:Int)),(64,.i s56.2)]) (fun x69=>[(0,.val (.os 1 eI x9)),(1,.val (.os 1 eI x35.1)),(2,.box [.o 3]),(3,.val (.om kI veI x69))]) 4 g (fun x69 g=>?_) fun J70 g j70=>?_
 refine C.bnx (C.nx (U.start (U.pd 2 T (C.nx ?_))))
 exact St.wk (C.next g) (Wk.a (idR 4))
 refine C.ite rfl g (fun b71 g=>?_) fun b71 g=>?_
 refine U.start (U.ps 3 T rfl (U.e1 rfl (.none rfl) (by exact Eff1.mu T (x:=x63) (y:=x66.1) (.inl rfl) rfl kt3 (fun _=>rfl) rfl rfl rfl rfl rfl (.inl rfl) rfl) ?_))
 refine U.done ?_
 exact St.wa (idR 4) (j70 _ g)
 refine C.skip ?_
 exact St.wa (idR 4) (j70 _ g)
 refine C.exit (C.ex (C.ex (C.bex ?_)))
 exact St.wa (idR 4) (j55 _ g)
 refine C.block ?_
 refine St.wk (C.loop (fun (s37:List Int×List (Int×Int)×Int)=>[(0,.rp [.sl 1 Qe g_1.out,.sl 1 eLeI g_1.in_,.sl 1 eB g_1.home]),(3,.i x_1),(9,.o 0),(11,.o 1),(12,.p 2 0),(50,.o 0),(51,.i (x9.length:Int)),(52,.i s37.2.2)]) (fun s37=>[(0,.val (.os 1 eI x9)),(1,.val (.os 1 eI s37.1)),(2,.box [.o 3]),(3,.val (.om kI veI s37.2.1))]) g (fun s37 Y38 g=>?_)) (Wk.a [some 0,some 1,some 3,some 2])
 refine C.ss (U.pd 1 T (C.xs ?_))
 refine C.ite rfl g (fun b41 g=>?_) fun b41 g=>?_
 refine C.skip (C.xs (C.block (C.ss ?_)))
 obtain⟨x44,y44,g⟩:=g
 refine U.r rfl (.none rfl) rfl rfl (by exact Rd.io T rfl rfl rfl rfl rfl rfl rfl y44) ?_
 refine U.r rfl (.none rfl) rfl rfl (by exact Rd.le T rfl rfl rfl (Q6 y44).2.2 rfl rfl rfl) ?_
 refine U.pd 1 T (C.nx ?_)
 refine D.bq mix 6 [2] [1] (fun hQ hS ws M'=>?_)
 refine D.pq 4 (zl [0,1,2,3]) T ?_
 obtain⟨x47,y47,g⟩:=g
 refine D.q 4 [] hQ hS rfl (.none rfl) rfl rfl (by exact Rd.io T rfl rfl rfl rfl rfl rfl rfl y47) rfl (by kernel_rfl) ?_
 refine D.e1 5 rfl (.none rfl) (by exact Eff1.se T (z':=(-1)) rfl rfl rfl (Q6 y47).2.2 rfl rfl rfl rfl rfl rfl rfl rfl (fun _=>rfl) rfl) (by kernel_rfl) rfl rfl ?_
 refine D.ze1 rfl (.none rfl) (by exact Eff1.mu T (x:=x44) (y:=(-1)) (.inl rfl) rfl kt3 (fun _=>rfl) rfl rfl rfl rfl rfl (.inl rfl) rfl) (by kernel_rfl) (by kernel_rfl) ?_
 refine C.bnx (C.nx (U.start (U.pd 2 T (C.nx ?_))))
 exact St.wk (C.next g) (Wk.a (idR 4))
 refine C.exit (C.ex (C.ex (C.bex ?_)))
 exact St.wa (idR 4) (j36 _ g)
 refine C.block (St.wk (C.loop (fun (s11:List Int×Int)=>[(0,.rp [.sl 1 Qe g_1.out,.sl 1 eLeI g_1.in_,.sl 1 eB g_1.home]),(1,.sl 1 eI fuel),(2,.sl 1 eLeI children),(3,.i x_1),(9,.o 0),(10,.i s11.2)]) (fun s11=>[(0,.val (.os 1 eI s11.1))]) g (fun s11 Y12 g=>?_)) (Wk.a [some 0]))
 refine C.seq (C.ss (U.pd 4 T (C.nx ?_)))
 refine C.ite rfl g (fun b15 g=>?_) fun b15 g=>?_
 refine C.skip (C.xs (C.block (U.start (U.ps 4 T rfl ?_))))
 obtain⟨x18,y18,g⟩:=g
 refine U.r rfl (.none rfl) rfl rfl (by exact Rd.io T rfl rfl rfl rfl rfl rfl rfl y18) ?_
 refine U.r rfl (.none rfl) rfl rfl (by exact Rd.le T rfl rfl rfl (Q6 y18).2.2 rfl rfl rfl) ?_
 obtain⟨x19,y19,g⟩:=g
 refine U.ix T y19 ?_
 refine U.ps 1 T rfl ?_
 obtain⟨y20,g⟩:=g
 refine U.ap T y20 ?_
 refine U.pd 1 T (C.bnx (C.nx (U.start ?_)))
 refine U.pd 3 T (C.nx ?_)
 exact St.wk (C.next g) (Wk.a [some 1])
 refine C.exit (C.ex (C.ex (C.bex ?_)))
 exact St.wa [some 0] (j10 _ g)
theorem ZZ (s_1:ApiSite) (blocked:List Int) (delay:Int) (post:(List Int)→Prop) (g:V_reach_Needs s_1 blocked delay post):
  Tr Tryz.prog 23 [.agg (Q0 s_1),.sl 1 eI blocked,.i delay] [] 0 (fun A H' k=>∃y,post y∧A=(.o 0)∧H'=[(0,.val (.os 1 eI y))]∧k=1):=by
 refine Tr.go Tryz.func23 Tryz.ntmps23 fun _ _ _ _ o=>?_
 unfold V_reach_Needs at g
 refine C.ss (U.bx ?_)
 refine U.pd 1 T (C.xt ?_)
 refine U.ps 2 T rfl (U.k (Yv s_1 blocked _ g) en60 (fun x5 g=>?_))
 refine U.pd 1 T (C.xt ?_)
 refine U.ps 1 T rfl (U.k (WN x5 _ g) en61 (fun x8 g=>?_))
 refine U.pd 1 T (C.xt ?_)
 refine U.ps 1 T rfl (U.k (QW x8 _ g) en63 (fun x11 g=>?_))
 refine U.pd 1 T (C.xt ?_)
 refine U.ps 2 T rfl ?_
 obtain⟨y14,g⟩:=g
 refine U.e1 rfl (.none rfl) (by exact Eff1.re (A':=.os 1 eOeI (List.replicate (Int.toNat (x8.length:Int)) [])) (Eff1.mk T (enc:=fun _:Unit=>[vN]) (z0:=()) rfl rfl rfl rfl rfl rfl rfl rfl rfl rfl y14) (fun _ _ _ _ _ h=>(NlR.rep (.cons (.os _ _) .nil) _).on h)) ?_
 refine U.pd 1 T (C.xs (C.ss ?_))
 refine U.pd 3 T (C.nx ?_)
 refine C.jn (fun (x17:List Int×List (List Int))=>[(7,.p 0 0),(8,.o 4),(9,.o 5),(10,.o 6)]) (fun x17=>[(0,.box [.o 1,.o 2,.o 3]),(1,.val (.os 1 Qz x5.out)),(2,.val (.os 1 eOeI x5.in_)),(3,.val (.os 1 eB x5.home)),(4,.val (.os 1 eI x8)),(5,.val (.os 1 eI x17.1)),(6,.val (.os 1 eOeI x17.2))]) 7 g (fun x17 g=>?_) fun J18 g j18=>?_
 refine C.xs (C.ss (U.pd 3 T (C.nx ?_)))
 refine C.jn (fun (x53:List Int)=>[(9,.o 0)]) (fun x53=>[(0,.val (.os 1 eI x53))]) 1 g (fun x53 g=>?_) fun J54 g j54=>?_
 refine C.xt (U.pd 2 T (C.nx (C.ret ?_)))
 exact C.g1 [some 0] T o ⟨x53,g,rfl,rfl,rfl⟩
 refine C.block ?_
 refine St.wk (C.loop (fun (s55:List Int×Int)=>[(7,.p 0 0),(8,.o 4),(9,.o 5),(10,.o 6),(72,.i (x8.length:Int)),(73,.i s55.2)]) (fun s55=>[(0,.box [.o 1,.o 2,.o 3]),(1,.val (.os 1 Qz x5.out)),(2,.val (.os 1 eOeI x5.in_)),(3,.val (.os 1 eB x5.home)),(4,.val (.os 1 eI x8)),(5,.val (.os 1 eI s55.1)),(6,.val (.os 1 eOeI x17.2))]) g (fun s55 Y56 g=>?_)) (Wk.a (idR 7))
 refine C.ss (U.pd 1 T (C.xs ?_))
 refine C.ite rfl g (fun b59 g=>?_) fun b59 g=>?_
 refine C.skip (C.xs ?_)
 refine C.jn (fun (x60:List Int)=>[(7,.p 0 0),(8,.o 4),(9,.o 5),(10,.o 6),(72,.i (x8.length:Int)),(73,.i s55.2)]) (fun x60=>[(0,.box [.o 1,.o 2,.o 3]),(1,.val (.os 1 Qz x5.out)),(2,.val (.os 1 eOeI x5.in_)),(3,.val (.os 1 eB x5.home)),(4,.val (.os 1 eI x8)),(5,.val (.os 1 eI x60)),(6,.val (.os 1 eOeI x17.2))]) 7 g (fun x60 g=>?_) fun J61 g j61=>?_
 refine C.nx (U.start (U.pd 2 T (C.nx ?_)))
 exact St.wk (C.next g) (Wk.a (idR 7))
 refine C.block (C.ss (U.pd 2 T (C.xt ?_)))
 refine U.ps 4 T rfl ?_
 refine U.e rfl (.none rfl) (by exact Eff.cS (nl':=fun y=>match y with | .inl _=>7 | .inr _=>8) [] (v:=true) (Z1 x5 x8 x17.2 s55.2 _ g) en65 rfl rfl rfl (.cons (.fzp rfl rfl rfl rfl (.cons (.fz rfl rfl rfl (.os fun _=>.cons (.os fun _=>.cons (.ro rfl) (.cons (.ro rfl) .nil)) .nil)) (.cons (.fz rfl rfl rfl (.os fun _=>.cons (.os fun _=>.cons (.ro rfl) .nil) .nil)) (.cons (.fz rfl rfl rfl (.os fun _=>.cons (.ro rfl) .nil)) .nil))) rfl) (.cons (.fz rfl rfl rfl (.os fun _=>.cons (.ro rfl) .nil)) (.cons (.fz rfl rfl rfl (.os fun _=>.cons (.os fun _=>.cons (.ro rfl) .nil) .nil)) (.eq rfl)))) trivial rfl rfl rfl rfl rfl rfl (fun _ y=>match y with | .inl _=>⟨(.v _),trivial⟩ | .inr _=>⟨(.o _),⟨.val (.om _ _ _ fun _=>(.v _)),trivial⟩⟩) (.inr ⟨rfl,rfl⟩) (fun _=>rfl) (fun _=>rfl) (fun y=>by cases y <;> rfl)) (fun x64' g=>?_)
 obtain⟨x64 | x64⟩:=x64'
 refine U.e1 rfl (.none rfl) (by exact Eff1.rgN T rfl rfl rfl rfl rfl) ?_
 refine U.done (C.nx ?_)
 refine C.jn (fun (x65:List Int)=>[(7,.p 0 0),(8,.o 4),(9,.o 5),(10,.o 6),(72,.i (x8.length:Int)),(73,.i s55.2)]) (fun x65=>[(0,.box [.o 1,.o 2,.o 3]),(1,.val (.os 1 Qz x5.out)),(2,.val (.os 1 eOeI x5.in_)),(3,.val (.os 1 eB x5.home)),(4,.val (.os 1 eI x8)),(5,.val (.os 1 eI x65)),(6,.val (.os 1 eOeI x17.2))]) 7 g (fun x65 g=>?_) fun J66 g j66=>?_
 refine C.bnx ?_
 exact St.wa (idR 7) (j61 _ g)
 refine C.block ?_
 refine St.wk (C.loop (fun (s67:List Int)=>[(7,.p 0 0),(8,.o 4),(9,.o 5),(10,.o 6),(72,.i (x8.length:Int)),(73,.i s55.2),(81,.o 7)]) (fun s67=>[(0,.box [.o 1,.o 2,.o 3]),(1,.val (.os 1 Qz x5.out)),(2,.val (.os 1 eOeI x5.in_)),(3,.val (.os 1 eB x5.home)),(4,.val (.os 1 eI x8)),(5,.val (.os 1 eI s67)),(6,.val (.os 1 eOeI x17.2)),(7,.itn)]) g (fun s67 Y68 g=>?_)) (Wk.f [some 0,some 1,some 2,some 3,some 4,some 5,some 6,some 7] ⟨bX,vL,vL,vL,vL,vL,vL,⟨_,rfl,.itn rfl⟩,trivial⟩)
 refine C.ss (U.e1 rfl (.none rfl) (by exact Eff1.nxN rfl rfl rfl rfl rfl) ?_)
 refine U.pd 1 T (C.xs ?_)
 refine C.condF rfl rfl ?_
 refine C.exit (C.ex (C.ex (C.bex ?_)))
 exact St.wa (idR 7) (j66 _ g)
 refine U.e1 rfl (.none rfl) (by exact Eff1.rg T rfl rfl rfl rfl rfl rfl) ?_
 refine U.done (C.nx ?_)
 refine C.jn (fun (x69:List Int)=>[(7,.p 0 0),(8,.o 4),(9,.o 5),(10,.o 6),(72,.i (x8.length:Int)),(73,.i s55.2)]) (fun x69=>[(0,.box [.o 1,.o 2,.o 3]),(1,.val (.os 1 Qz x5.out)),(2,.val (.os 1 eOeI x5.in_)),(3,.val (.os 1 eB x5.home)),(4,.val (.os 1 eI x8)),(5,.val (.os 1 eI x69)),(6,.val (.os 1 eOeI x17.2))]) 7 g (fun x69 g=>?_) fun J70 g j70=>?_
 refine C.bnx ?_
 exact St.wa (idR 7) (j61 _ g)
 refine C.block ?_
 refine St.wk (C.loop (fun (s71:List Int×List Int)=>[(7,.p 0 0),(8,.o 4),(9,.o 5),(10,.o 6),(72,.i (x8.length:Int)),(73,.i s55.2),(81,.o 8)]) (fun s71=>[(0,.box [.o 1,.o 2,.o 3]),(1,.val (.os 1 Qz x5.out)),(2,.val (.os 1 eOeI x5.in_)),(3,.val (.os 1 eB x5.home)),(4,.val (.os 1 eI x8)),(5,.val (.os 1 eI s71.1)),(6,.val (.os 1 eOeI x17.2)),(7,.rng kI veI x64 s71.2 8)]) g (fun s71 Y72 g=>?_)) (Wk.f [some 0,some 1,some 2,some 3,some 4,some 5,some 6,some 7,some 8] ⟨bX,vL,vL,vL,vL,vL,vL,⟨_,rfl,.rng rfl rfl⟩,trivial⟩)
 refine C.ss (U.e rfl (.none rfl) (by exact Eff.nx (ke:=kI) (ve:=veI) (l:=7) rfl rfl rfl (fun _=>rfl) rfl rfl) (fun y' h'=>?_))
 obtain⟨_ | ⟨x73,x74⟩⟩:=y'
 replace g:=g.2 h'
 refine U.pd 1 T (C.xs ?_)
 refine C.condF rfl rfl ?_
 refine C.exit (C.ex (C.ex (C.bex ?_)))
 exact St.wa (idR 7) (j70 _ g)
 have y73:=h'
 replace g:=g.1 x73 x74 h'
 refine U.pd 1 T (C.xs ?_)
 refine C.condT rfl rfl ?_
 refine C.skip (C.nx (C.block (C.ss (U.r rfl (.none rfl) rfl rfl (by exact Rd.en (ke:=kI) (ve:=veI) rfl (fun _=>rfl) rfl (l:=7) rfl rfl y73.1) ?_))))
 refine U.pd 4 T (C.xs ?_)
 refine C.jn (fun (x77:Bool)=>[(7,.p 0 0),(8,.o 4),(9,.o 5),(10,.o 6),(16,.i x73),(17,.i x74),(72,.i (x8.length:Int)),(73,.i s55.2),(81,.o 8),(95,.b x77)]) (fun x77=>[(0,.box [.o 1,.o 2,.o 3]),(1,.val (.os 1 Qz x5.out)),(2,.val (.os 1 eOeI x5.in_)),(3,.val (.os 1 eB x5.home)),(4,.val (.os 1 eI x8)),(5,.val (.os 1 eI s71.1)),(6,.val (.os 1 eOeI x17.2)),(7,.rng kI veI x64 (x73 :: s71.2) 8)]) 9 g (fun x77 g=>?_) fun J78 g j78=>?_
 refine C.nx ?_
 refine C.jn (fun (x81:List Int)=>[(7,.p 0 0),(8,.o 4),(9,.o 5),(10,.o 6),(72,.i (x8.length:Int)),(73,.i s55.2),(81,.o 8)]) (fun x81=>[(0,.box [.o 1,.o 2,.o 3]),(1,.val (.os 1 Qz x5.out)),(2,.val (.os 1 eOeI x5.in_)),(3,.val (.os 1 eB x5.home)),(4,.val (.os 1 eI x8)),(5,.val (.os 1 eI x81)),(6,.val (.os 1 eOeI x17.2)),(7,.rng kI veI x64 (x73 :: s71.2) 8)]) 9 g (fun x81 g=>?_) fun J82 g j82=>?_
 refine C.bnx (C.nx ?_)
 exact St.wk (C.next g) (Wk.f [some 0,some 1,some 2,some 3,some 4,some 5,some 6,some 7,some 8] ⟨bX,vL,vL,vL,vL,vL,vL,⟨_,rfl,.rng rfl rfl⟩,trivial⟩)
 refine C.ite rfl g (fun b83 g=>?_) fun b83 g=>?_
 refine U.start (U.ps 2 T rfl ?_)
 obtain⟨x86,y86,g⟩:=g
 refine U.r rfl (.none rfl) rfl rfl (by exact Rd.io T rfl rfl rfl rfl rfl rfl rfl y86) ?_
 refine U.e1 rfl (.none rfl) (by exact Eff1.se T (z':=(-1)) rfl rfl rfl (Q6 y86).2.2 rfl rfl rfl rfl rfl rfl rfl rfl (fun _=>rfl) rfl) ?_
 refine U.done ?_
 exact St.wk (j82 _ g) (Wk.f [some 0,some 1,some 2,some 3,some 4,some 5,some 6,some 7,some 8] ⟨bX,vL,vL,vL,vL,vL,vL,⟨_,rfl,.rng rfl rfl⟩,trivial⟩)
 refine U.start (U.ps 4 T rfl ?_)
 obtain⟨x89,y89,g⟩:=g
 refine U.r rfl (.none rfl) rfl rfl (by exact Rd.io T rfl rfl rfl rfl rfl rfl rfl y89) ?_
 refine U.r rfl (.none rfl) rfl rfl (by exact Rd.le T rfl rfl rfl (Q6 y89).2.2 rfl rfl rfl) ?_
 refine U.ps 2 T rfl (U.r rfl (.none rfl) rfl rfl (by exact Rd.io T rfl rfl rfl rfl rfl rfl rfl y89) ?_)
 refine U.e1 rfl (.none rfl) (by exact Eff1.se T (z':=imax x89 x74) rfl rfl rfl (Q6 y89).2.2 rfl rfl rfl rfl rfl rfl rfl rfl (fun _=>rfl) rfl) ?_
 refine U.done ?_
 exact St.wk (j82 _ g) (Wk.f [some 0,some 1,some 2,some 3,some 4,some 5,some 6,some 7,some 8] ⟨bX,vL,vL,vL,vL,vL,vL,⟨_,rfl,.rng rfl rfl⟩,trivial⟩)
 refine U.start (U.ps 3 T rfl ?_)
 refine g.cs (fun b79 g=>?_) fun b79 g=>?_
 refine U.sk' 5 2 false 89 b79 ?_
 refine U.pk b79 ?_
 refine U.done ?_
 exact St.wk (j78 _ g) (Wk.f [some 0,some 1,some 2,some 3,some 4,some 5,some 6,some 7,some 8] ⟨bX,vL,vL,vL,vL,vL,vL,⟨_,rfl,.rng rfl rfl⟩,trivial⟩)
 refine U.pq 2 2 false 89 b79 T ?_
 obtain⟨x80,y80,g⟩:=g
 refine U.r rfl (.tk 2 false 89 b79) rfl rfl (by exact Rd.io T rfl rfl rfl rfl rfl rfl rfl y80) ?_
 refine U.r rfl (.tk 2 false 89 b79) rfl rfl (by exact Rd.le T rfl rfl rfl (Q6 y80).2.2 rfl rfl rfl) ?_
 refine U.pq 1 2 false 89 b79 T ?_
 refine U.pk' b79 ?_
 refine U.done ?_
 exact St.wk (j78 _ g) (Wk.f [some 0,some 1,some 2,some 3,some 4,some 5,some 6,some 7,some 8] ⟨bX,vL,vL,vL,vL,vL,vL,⟨_,rfl,.rng rfl rfl⟩,trivial⟩)
 refine C.exit (C.ex (C.ex (C.bex ?_)))
 exact St.wa [some 5] (j54 _ g)
 refine C.block ?_
 refine St.wk (C.loop (fun (s19:List Int×List (List Int)×Int)=>[(2,.i delay),(7,.p 0 0),(8,.o 4),(9,.o 5),(10,.o 6),(28,.o 4),(29,.i (x8.length:Int)),(30,.i s19.2.2)]) (fun s19=>[(0,.box [.o 1,.o 2,.o 3]),(1,.val (.os 1 Qz x5.out)),(2,.val (.os 1 eOeI x5.in_)),(3,.val (.os 1 eB x5.home)),(4,.val (.os 1 eI x8)),(5,.val (.os 1 eI s19.1)),(6,.val (.os 1 eOeI s19.2.1))]) g (fun s19 Y20 g=>?_)) (Wk.a [some 4,some 1,some 2,some 3,some 5,some 6,some 7])
 refine C.ss (U.pd 1 T (C.xs ?_))
 refine C.ite rfl g (fun b23 g=>?_) fun b23 g=>?_
 refine C.skip (C.xs ?_)
 refine C.jn (fun (x24:List Int×List (List Int))=>[(2,.i delay),(7,.p 0 0),(8,.o 4),(9,.o 5),(10,.o 6),(28,.o 4),(29,.i (x8.length:Int)),(30,.i s19.2.2)]) (fun x24=>[(0,.box [.o 1,.o 2,.o 3]),(1,.val (.os 1 Qz x5.out)),(2,.val (.os 1 eOeI x5.in_)),(3,.val (.os 1 eB x5.home)),(4,.val (.os 1 eI x8)),(5,.val (.os 1 eI x24.1)),(6,.val (.os 1 eOeI x24.2))]) 7 g (fun x24 g=>?_) fun J25 g j25=>?_
 refine C.nx (U.start (U.pd 2 T (C.nx ?_)))
 exact St.wk (C.next g) (Wk.a (idR 7))
 refine C.block (C.ss (U.ps 1 T rfl ?_))
 obtain⟨x28,y28,g⟩:=g
 refine U.r rfl (.none rfl) rfl rfl (by exact Rd.io T rfl rfl rfl rfl rfl rfl rfl y28) ?_
 refine U.r rfl (.none rfl) rfl rfl (by exact Rd.le T rfl rfl rfl (Q6 y28).2.2 rfl rfl rfl) ?_
 refine U.pd 2 T (C.xs (C.ss ?_))
 refine U.pd 2 T (C.nx ?_)
 refine C.ite rfl g (fun b31 g=>?_) fun b31 g=>?_
 refine C.exit (C.ex (C.bex ?_))
 exact St.wa (idR 7) (j25 _ g)
 refine C.skip (C.xt (U.ps 4 T rfl (U.k (KY _ g) en14 (fun x34 g=>?_))))
 refine U.ps 2 T rfl ?_
 obtain⟨x35,y35,g⟩:=g
 refine U.r rfl (.none rfl) rfl rfl (by exact Rd.io T rfl rfl rfl rfl rfl rfl rfl y35) ?_
 refine U.e1 rfl (.none rfl) (by exact Eff1.se T (z':=w64 (x28+(w64 (delay*x34)))) rfl rfl rfl (Q6 y35).2.2 rfl rfl rfl rfl rfl rfl rfl rfl (fun _=>rfl) rfl) ?_
 refine U.done (C.xt (U.ps 3 T rfl (U.k (Xz x5 x8 s19.2.2 (-1) _ g) en64 (fun x38 g=>?_))))
 refine U.pd 5 T (C.xt ?_)
 refine U.ps 5 T rfl ?_
 obtain⟨x41,y41,g⟩:=g
 refine U.r rfl (.none rfl) rfl rfl (by exact Rd.io T rfl rfl rfl rfl rfl rfl rfl y41) ?_
 refine U.r rfl (.none rfl) rfl rfl (by exact Rd.le T rfl rfl rfl (Q6 y41).2.2 rfl rfl rfl) ?_
 refine U.pd 1 T (C.nx ?_)
 refine C.jn (fun (x42:List (List Int))=>[(2,.i delay),(7,.p 0 0),(8,.o 4),(9,.o 5),(10,.o 6),(28,.o 4),(29,.i (x8.length:Int)),(30,.i s19.2.2)]) (fun x42=>[(0,.box [.o 1,.o 2,.o 3]),(1,.val (.os 1 Qz x5.out)),(2,.val (.os 1 eOeI x5.in_)),(3,.val (.os 1 eB x5.home)),(4,.val (.os 1 eI x8)),(5,.val (.os 1 eI (s19.1.set (Int.toNat s19.2.2) (w64 (x28+(w64 (delay*x34))))))),(6,.val (.os 1 eOeI x42))]) 7 g (fun x42 g=>?_) fun J43 g j43=>?_
 refine C.bnx ?_
 exact St.wa (idR 7) (j25 _ g)
 refine C.ite rfl g (fun b44 g=>?_) fun b44 g=>?_
 refine U.start (U.ps 4 T rfl ?_)
 obtain⟨x47,y47,g⟩:=g
 refine U.r rfl (.none rfl) rfl rfl (by exact Rd.io T rfl rfl rfl rfl rfl rfl rfl y47) ?_
 refine St.lend (l:=6) (i:=(Int.toNat x38.2)) rfl (Q6 y47).2.2 rfl (fun _=>rfl) ?_
 refine U.r rfl (.none rfl) rfl rfl (by exact Rd.ll T rfl rfl rfl (.head _) rfl rfl rfl rfl) ?_
 refine U.ps 1 T rfl (U.bs T eI ([s19.2.2]:List Int) ?_)
 obtain⟨y48,g⟩:=g
 refine U.ap T y48 ?_
 refine U.r rfl (.none rfl) rfl rfl (by exact Rd.il T rfl rfl rfl rfl rfl rfl rfl y47) ?_
 refine U.e1 rfl (.none rfl) (by exact Eff1.sl T rfl rfl rfl (fun _ h=>nomatch h) rfl rfl rfl rfl) ?_
 refine U.done (St.putb (l:=6) (l':=9) (y:=(x47++([s19.2.2]:List Int))) rfl rfl rfl (fun _ h=>nomatch h) rfl _ rfl ?_)
 exact St.wa (idR 7) (j43 _ g)
 refine C.skip ?_
 exact St.wa (idR 7) (j43 _ g)
 refine C.exit (C.ex (C.ex (C.bex ?_)))
 exact St.wa (idR 7) (j18 _ g)
theorem YM (s_1:ApiSite) (blocked:List Int) (c:Int) (delay:Int) (post:Int→Prop) (g:KQ s_1 blocked c delay post):
  Tr Tryz.prog 21 [.agg (Q0 s_1),.sl 1 eI blocked,.i c,.i delay] [] 0 (pI post):=by
 refine Tr.go Tryz.func21 Tryz.ntmps21 fun _ _ _ _ o=>?_
 unfold KQ at g
 refine C.ss (U.bx ?_)
 refine U.pd 1 T (C.xs (C.ss ?_))
 refine U.ps 2 T rfl (U.k (Zq s_1 c _ g) en57 (fun x5 g=>?_))
 refine U.pd 1 T (C.nx ?_)
 refine C.ite rfl g (fun b6 g=>?_) fun b6 g=>?_
 refine C.ss (U.pd 1 T (C.nx (C.ret (C.rt ?_))))
 exact C.f1 T o (pIi g)
 refine C.skip (C.xt (U.ps 3 T rfl (U.k (ZZ s_1 blocked delay _ g) en23 (fun x11 g=>?_))))
 refine U.ps 1 T rfl ?_
 obtain⟨x12,y12,g⟩:=g
 refine U.r rfl (.none rfl) rfl rfl (by exact Rd.io T rfl rfl rfl rfl rfl rfl rfl y12) ?_
 refine U.r rfl (.none rfl) rfl rfl (by exact Rd.le T rfl rfl rfl (Q6 y12).2.2 rfl rfl rfl) ?_
 refine U.pd 1 T (C.nx (C.ret ?_))
 exact C.f1 T o (pIi g)
theorem ZD (post:Bool→Prop) (g:KE post):
  Tr Tryz.prog 6 [] [] 0 (pB post):=by
 refine Tr.go Tryz.func6 Tryz.ntmps6 fun _ _ _ _ o=>?_
 unfold KE at g
 refine C.ss (U.pd 1 T (C.xt ?_))
 refine U.e rfl (.none rfl) (by exact Eff.c [] (v:=false) (Zf _ g) en35 rfl rfl rfl (.eq rfl) trivial rfl rfl rfl rfl rfl rfl (fun h=>by cases h) (.inr ⟨rfl,rfl⟩) (fun _=>rfl) (fun _=>rfl) rfl) (fun x5' g=>?_)
 obtain⟨x5⟩:=x5'
 refine U.al T ?_
 refine U.st T ?_
 refine U.done (C.xs ?_)
 refine C.jn (fun (x6:Bool)=>[(0,.b x6)]) (fun x6=>[]) 0 g (fun x6 g=>?_) fun J7 g j7=>?_
 refine C.nx (C.ret ?_)
 exact C.f1 T o (pBi g)
 refine U.start (U.k (KY _ g) en14 (fun x8 g=>?_))
 refine U.ps 2 T rfl ?_
 refine g.cs (fun b9 g=>?_) fun b9 g=>?_
 refine U.pq 1 2 true 5 b9 T ?_
 refine U.k (Yj x5 2 1 _ g) en16 (fun x10 g=>?_) (hw:=.take 2 true 5 _ b9 rfl rfl rfl)
 refine U.pq 1 2 true 5 b9 T ?_
 refine U.pk b9 ?_
 refine U.ps 1 T rfl ?_
 refine g.cs (fun b11 g=>?_) fun b11 g=>?_
 refine U.pq 1 7 true 10 b11 T ?_
 refine U.k (Q0P x5 [] _ g) en19 (fun x12 g=>?_) (hw:=.take 7 true 10 _ b11 rfl rfl rfl)
 refine U.e1 rfl (.tk 7 true 10 b11) (by exact Eff1.bs T (enc:=eI) (xs:=([0,12,12,0]:List Int)) rfl rfl rfl rfl rfl rfl rfl rfl rfl rfl (fun _ _=>rfl) rfl rfl) ?_
 refine U.k (ZP x12 ([0,12,12,0]:List Int) _ g) en18 (fun x13 g=>?_) (hw:=.take 7 true 10 _ b11 rfl rfl rfl)
 refine U.pk b11 ?_
 refine U.ps 1 T rfl ?_
 refine g.cs (fun b14 g=>?_) fun b14 g=>?_
 refine U.pq 1 13 true 16 b14 T ?_
 refine U.k (YM x5 [] 1 0 _ g) en21 (fun x15 g=>?_) (hw:=.take 13 true 16 _ b14 rfl rfl rfl)
 refine U.pq 1 13 true 16 b14 T ?_
 refine U.pk b14 ?_
 refine U.ps 1 T rfl ?_
 refine g.cs (fun b16 g=>?_) fun b16 g=>?_
 refine U.pq 1 18 true 21 b16 T ?_
 refine U.e1 rfl (.tk 18 true 21 b16) (by exact Eff1.bs T (enc:=eI) (xs:=([0]:List Int)) rfl rfl rfl rfl rfl rfl rfl rfl rfl rfl (fun _ _=>rfl) rfl rfl) ?_
 refine U.k (YM x5 ([0]:List Int) 1 0 _ g) en21 (fun x17 g=>?_) (hw:=.take 18 true 21 _ b16 rfl rfl rfl)
 refine U.pq 1 18 true 21 b16 T ?_
 refine U.pk b16 ?_
 refine U.pd 1 T ?_
 exact St.wn (j7 _ g)
 refine U.sk' 4 18 true 21 b16 ?_
 refine U.pk' b16 ?_
 refine U.pd 1 T ?_
 exact St.wn (j7 _ g)
 refine U.sk' 3 13 true 16 b14 ?_
 refine U.pk' b14 ?_
 refine U.ps 1 T rfl (U.sk' 4 18 true 21 rfl ?_)
 refine U.pk' rfl ?_
 refine U.pd 1 T ?_
 exact St.wn (j7 _ g)
 refine U.sk' 4 7 true 10 b11 ?_
 refine U.pk' b11 ?_
 refine U.ps 1 T rfl (U.sk' 3 13 true 16 rfl ?_)
 refine U.pk' rfl ?_
 refine U.ps 1 T rfl (U.sk' 4 18 true 21 rfl ?_)
 refine U.pk' rfl ?_
 refine U.pd 1 T ?_
 exact St.wn (j7 _ g)
 refine U.sk' 3 2 true 5 b9 ?_
 refine U.pk' b9 ?_
 refine U.ps 1 T rfl (U.sk' 4 7 true 10 rfl ?_)
 refine U.pk' rfl ?_
 refine U.ps 1 T rfl (U.sk' 3 13 true 16 rfl ?_)
 refine U.pk' rfl ?_
 refine U.ps 1 T rfl (U.sk' 4 18 true 21 rfl ?_)
 refine U.pk' rfl ?_
 refine U.pd 1 T ?_
 exact St.wn (j7 _ g)
theorem Q0q (f:ApiFloor) (n:Int) (post:Bool→Prop) (g:Xa f n post):
  Tr Tryz.prog 73 [.agg (Qr f),.i n] [] 0 (pB post):=by
 refine Tr.go Tryz.func73 Tryz.ntmps73 fun _ _ _ _ o=>?_
 unfold Xa at g
 refine C.ss (U.bx ?_)
 refine U.pd 1 T (C.xs ?_)
 refine C.jn (fun (x3:Bool)=>[(4,.b x3)]) (fun x3=>[]) 0 g (fun x3 g=>?_) fun J4 g j4=>?_
 refine C.nx (C.ret ?_)
 exact C.f1 T o (pBi g)
 refine U.start (U.ps 6 T rfl ?_)
 refine g.cs (fun b5 g=>?_) fun b5 g=>?_
 refine U.pq 5 5 true 10 b5 T ?_
 refine U.pk b5 ?_
 refine U.pd 1 T ?_
 exact St.wn (j4 _ g)
 refine U.sk' 5 5 true 10 b5 ?_
 refine U.pk' b5 ?_
 refine U.pd 1 T ?_
 exact St.wn (j4 _ g)
theorem Q0F (s_1:ApiSite) (cells:Int) (most:Int) (post:Bool→Prop) (g:Xi s_1 cells most post):
  Tr Tryz.prog 36 [.agg (Q0 s_1),.i cells,.i most] [] 0 (pB post):=by
 refine Tr.go Tryz.func36 Tryz.ntmps36 fun _ _ _ _ o=>?_
 unfold Xi at g
 refine C.ss (U.bx ?_)
 refine U.pd 1 T (C.xs (C.ss ?_))
 refine U.pd 1 T (C.nx ?_)
 refine C.jn (fun (x5:Unit)=>[(1,.i cells),(2,.i most),(3,.p 0 0)]) (fun x5=>[(0,.box (Q0 s_1))]) 1 g (fun x5 g=>?_) fun J6 g j6=>?_
 refine C.xs (C.ss (U.pd 1 T (C.nx ?_)))
 refine C.jn (fun (x25:Unit)=>[(1,.i cells),(2,.i most),(3,.p 0 0)]) (fun x25=>[(0,.box (Q0 s_1))]) 1 g (fun x25 g=>?_) fun J26 g j26=>?_
 refine C.xs (C.ss (U.pd 1 T (C.nx ?_)))
 refine C.jn (fun (x44:Unit)=>[(1,.i cells),(2,.i most),(3,.p 0 0)]) (fun x44=>[(0,.box (Q0 s_1))]) 1 g (fun x44 g=>?_) fun J45 g j45=>?_
 refine C.xs ?_
 refine C.jn (fun (x60:Bool)=>[(6,.b x60)]) (fun x60=>[]) 0 g (fun x60 g=>?_) fun J61 g j61=>?_
 refine C.nx (C.ret ?_)
 exact C.f1 T o (pBi g)
 refine U.start (U.ps 3 T rfl (U.k (Q0q s_1.Floor cells _ g) en73 (fun x62 g=>?_)))
 refine U.ps 1 T rfl ?_
 refine g.cs (fun b63 g=>?_) fun b63 g=>?_
 refine U.pq 5 4 true 105 b63 T ?_
 refine U.pk b63 ?_
 refine U.ps 1 T rfl ?_
 refine g.cs (fun b64 g=>?_) fun b64 g=>?_
 refine U.pq 5 11 true 112 b64 T ?_
 refine U.pk b64 ?_
 refine U.ps 1 T rfl ?_
 refine g.cs (fun b65 g=>?_) fun b65 g=>?_
 refine U.pq 5 18 true 119 b65 T ?_
 refine U.pk b65 ?_
 refine U.ps 1 T rfl ?_
 refine g.cs (fun b66 g=>?_) fun b66 g=>?_
 refine U.pq 5 25 true 126 b66 T ?_
 refine U.pk b66 ?_
 refine U.pd 1 T ?_
 exact St.wn (j61 _ g)
 refine U.sk' 5 25 true 126 b66 ?_
 refine U.pk' b66 ?_
 refine U.pd 1 T ?_
 exact St.wn (j61 _ g)
 refine U.sk' 5 18 true 119 b65 ?_
 refine U.pk' b65 ?_
 refine U.ps 1 T rfl (U.sk' 5 25 true 126 rfl ?_)
 refine U.pk' rfl ?_
 refine U.pd 1 T ?_
 exact St.wn (j61 _ g)
 refine U.sk' 5 11 true 112 b64 ?_
 refine U.pk' b64 ?_
 refine U.ps 1 T rfl (U.sk' 5 18 true 119 rfl ?_)
 refine U.pk' rfl ?_
 refine U.ps 1 T rfl (U.sk' 5 25 true 126 rfl ?_)
 refine U.pk' rfl ?_
 refine U.pd 1 T ?_
 exact St.wn (j61 _ g)
 refine U.sk' 5 4 true 105 b63 ?_
 refine U.pk' b63 ?_
 refine U.ps 1 T rfl (U.sk' 5 11 true 112 rfl ?_)
 refine U.pk' rfl ?_
 refine U.ps 1 T rfl (U.sk' 5 18 true 119 rfl ?_)
 refine U.pk' rfl ?_
 refine U.ps 1 T rfl (U.sk' 5 25 true 126 rfl ?_)
 refine U.pk' rfl ?_
 refine U.pd 1 T ?_
 exact St.wn (j61 _ g)
 refine C.block (St.wk (C.loop (fun (s46:Int)=>[(1,.i cells),(2,.i most),(3,.p 0 0),(9,.i s46)]) (fun s46=>[(0,.box (Q0 s_1))]) g (fun s46 Y47 g=>?_)) (Wk.a [some 0]))
 refine C.seq (C.seq ?_)
 refine C.jn (fun (x48:Bool)=>[(1,.i cells),(2,.i most),(3,.p 0 0),(9,.i s46),(90,.b x48)]) (fun x48=>[(0,.box (Q0 s_1))]) 1 g (fun x48 g=>?_) fun J49 g j49=>?_
 refine C.nx ?_
 refine C.ite rfl g (fun b51 g=>?_) fun b51 g=>?_
 refine C.skip (C.xs (C.block (C.ss (U.ps 3 T rfl ?_))))
 obtain⟨x54,y54,g⟩:=g
 refine U.ix T y54 ?_
 refine U.pd 4 T (C.nx ?_)
 refine C.ite rfl g (fun b55 g=>?_) fun b55 g=>?_
 refine C.ss (U.pd 1 T (C.nx (C.ret (C.brt (C.rt (C.rt (C.brt (C.rt ?_))))))))
 exact C.f1 T o (pBi g)
 refine C.skip (C.bnx (C.nx (U.start (U.pd 3 T (C.nx ?_)))))
 exact St.wk (C.next g) (Wk.a [some 0])
 refine C.exit (C.ex (C.ex (C.bex ?_)))
 exact St.wa [some 0] (j45 _ g)
 refine U.start (U.ps 6 T rfl ?_)
 refine g.cs (fun b50 g=>?_) fun b50 g=>?_
 refine U.pq 3 5 true 86 b50 T ?_
 refine U.pk b50 ?_
 refine U.done ?_
 exact St.wa [some 0] (j49 _ g)
 refine U.sk' 3 5 true 86 b50 ?_
 refine U.pk' b50 ?_
 refine U.done ?_
 exact St.wa [some 0] (j49 _ g)
 refine C.block (St.wk (C.loop (fun (s27:Int)=>[(1,.i cells),(2,.i most),(3,.p 0 0),(8,.i s27)]) (fun s27=>[(0,.box (Q0 s_1))]) g (fun s27 Y28 g=>?_)) (Wk.a [some 0]))
 refine C.seq (C.seq ?_)
 refine C.jn (fun (x29:Bool)=>[(1,.i cells),(2,.i most),(3,.p 0 0),(8,.i s27),(60,.b x29)]) (fun x29=>[(0,.box (Q0 s_1))]) 1 g (fun x29 g=>?_) fun J30 g j30=>?_
 refine C.nx ?_
 refine C.ite rfl g (fun b32 g=>?_) fun b32 g=>?_
 refine C.skip (C.xs (C.block (C.seq ?_)))
 refine C.jn (fun (x33:Bool)=>[(1,.i cells),(2,.i most),(3,.p 0 0),(8,.i s27),(80,.b x33)]) (fun x33=>[(0,.box (Q0 s_1))]) 1 g (fun x33 g=>?_) fun J34 g j34=>?_
 refine C.nx ?_
 refine C.ite rfl g (fun b37 g=>?_) fun b37 g=>?_
 refine C.ss (U.pd 1 T (C.nx (C.ret (C.brt (C.rt (C.rt (C.brt (C.rt ?_))))))))
 exact C.f1 T o (pBi g)
 refine C.skip (C.bnx (C.nx (U.start (U.pd 3 T (C.nx ?_)))))
 exact St.wk (C.next g) (Wk.a [some 0])
 refine U.start (U.ps 3 T rfl ?_)
 obtain⟨x35,y35,g⟩:=g
 refine U.ix T y35 ?_
 refine U.ps 5 T rfl ?_
 refine g.cs (fun b36 g=>?_) fun b36 g=>?_
 refine U.sk' 8 8 false 71 b36 ?_
 refine U.pk b36 ?_
 refine U.done ?_
 exact St.wa [some 0] (j34 _ g)
 refine U.pq 3 8 false 71 b36 T ?_
 refine U.r rfl (.tk 8 false 71 b36) rfl rfl (by exact Rd.ix T rfl rfl rfl rfl rfl rfl y35) ?_
 refine U.pq 4 8 false 71 b36 T ?_
 refine U.pk' b36 ?_
 refine U.done ?_
 exact St.wa [some 0] (j34 _ g)
 refine C.exit (C.ex (C.ex (C.bex ?_)))
 exact St.wa [some 0] (j26 _ g)
 refine U.start (U.ps 6 T rfl ?_)
 refine g.cs (fun b31 g=>?_) fun b31 g=>?_
 refine U.pq 3 5 true 56 b31 T ?_
 refine U.pk b31 ?_
 refine U.done ?_
 exact St.wa [some 0] (j30 _ g)
 refine U.sk' 3 5 true 56 b31 ?_
 refine U.pk' b31 ?_
 refine U.done ?_
 exact St.wa [some 0] (j30 _ g)
 refine C.block (St.wk (C.loop (fun (s7:Int)=>[(1,.i cells),(2,.i most),(3,.p 0 0),(7,.i s7)]) (fun s7=>[(0,.box (Q0 s_1))]) g (fun s7 Y8 g=>?_)) (Wk.a [some 0]))
 refine C.seq (C.seq ?_)
 refine C.jn (fun (x9:Bool)=>[(1,.i cells),(2,.i most),(3,.p 0 0),(7,.i s7),(19,.b x9)]) (fun x9=>[(0,.box (Q0 s_1))]) 1 g (fun x9 g=>?_) fun J10 g j10=>?_
 refine C.nx ?_
 refine C.ite rfl g (fun b12 g=>?_) fun b12 g=>?_
 refine C.skip (C.xs (C.block (C.seq ?_)))
 refine C.jn (fun (x13:Bool)=>[(1,.i cells),(2,.i most),(3,.p 0 0),(7,.i s7),(50,.b x13)]) (fun x13=>[(0,.box (Q0 s_1))]) 1 g (fun x13 g=>?_) fun J14 g j14=>?_
 refine C.nx ?_
 refine C.ite rfl g (fun b18 g=>?_) fun b18 g=>?_
 refine C.ss (U.pd 1 T (C.nx (C.ret (C.brt (C.rt (C.rt (C.brt (C.rt ?_))))))))
 exact C.f1 T o (pBi g)
 refine C.skip (C.bnx (C.nx (U.start (U.pd 3 T (C.nx ?_)))))
 exact St.wk (C.next g) (Wk.a [some 0])
 refine U.start (U.ps 3 T rfl ?_)
 obtain⟨x15,y15,g⟩:=g
 refine U.ix T y15 ?_
 refine U.ps 6 T rfl ?_
 refine g.cs (fun b16 g=>?_) fun b16 g=>?_
 refine U.sk' 8 9 false 31 b16 ?_
 refine U.pk b16 ?_
 refine U.ps 1 T rfl (U.sk' 8 19 false 41 rfl ?_)
 refine U.pk rfl ?_
 refine U.done ?_
 exact St.wa [some 0] (j14 _ g)
 refine U.pq 3 9 false 31 b16 T ?_
 refine U.r rfl (.tk 9 false 31 b16) rfl rfl (by exact Rd.ix T rfl rfl rfl rfl rfl rfl y15) ?_
 refine U.pq 4 9 false 31 b16 T ?_
 refine U.pk' b16 ?_
 refine U.ps 1 T rfl ?_
 refine g.cs (fun b17 g=>?_) fun b17 g=>?_
 refine U.sk' 8 19 false 41 b17 ?_
 refine U.pk b17 ?_
 refine U.done ?_
 exact St.wa [some 0] (j14 _ g)
 refine U.pq 3 19 false 41 b17 T ?_
 refine U.r rfl (.tk 19 false 41 b17) rfl rfl (by exact Rd.ix T rfl rfl rfl rfl rfl rfl y15) ?_
 refine U.pq 4 19 false 41 b17 T ?_
 refine U.pk' b17 ?_
 refine U.done ?_
 exact St.wa [some 0] (j14 _ g)
 refine C.exit (C.ex (C.ex (C.bex ?_)))
 exact St.wa [some 0] (j6 _ g)
 refine U.start (U.ps 6 T rfl ?_)
 refine g.cs (fun b11 g=>?_) fun b11 g=>?_
 refine U.pq 3 5 true 15 b11 T ?_
 refine U.pk b11 ?_
 refine U.done ?_
 exact St.wa [some 0] (j10 _ g)
 refine U.sk' 3 5 true 15 b11 ?_
 refine U.pk' b11 ?_
 refine U.done ?_
 exact St.wa [some 0] (j10 _ g)
theorem Q2y (f:ApiFloor) (post:Bool→Prop) (g:Gs f post):
  Tr Tryz.prog 74 [.agg (Qr f)] [] 0 (pB post):=by
 refine Tr.go Tryz.func74 Tryz.ntmps74 fun _ _ _ _ o=>?_
 unfold Gs at g
 refine C.ss (U.bx ?_)
 refine U.pd 1 T (C.xs (C.seq ?_))
 refine C.jn (fun (x3:Bool)=>[(1,.p 0 0),(26,.b x3)]) (fun x3=>[(0,.box (Qr f))]) 1 g (fun x3 g=>?_) fun J4 g j4=>?_
 refine C.nx ?_
 refine C.ite rfl g (fun b7 g=>?_) fun b7 g=>?_
 refine C.ss (U.pd 1 T (C.nx (C.ret (C.rt ?_))))
 exact C.f1 T o (pBi g)
 refine C.skip (C.xt (U.ps 1 T rfl (U.k (Q0N f _ g) Q9o (fun x12 g=>?_))))
 refine U.pd 1 T (C.xs (C.seq ?_))
 refine C.jn (fun (x13:Bool)=>[(1,.p 0 0),(44,.b x13)]) (fun x13=>[(0,.box (Qr f))]) 1 g (fun x13 g=>?_) fun J14 g j14=>?_
 refine C.nx ?_
 refine C.ite rfl g (fun b17 g=>?_) fun b17 g=>?_
 refine C.ss (U.pd 1 T (C.nx (C.ret (C.rt ?_))))
 exact C.f1 T o (pBi g)
 refine C.skip (C.xs (C.ss (U.pd 4 T (C.nx ?_))))
 refine C.jn (fun (x22:Unit)=>[]) (fun x22=>[]) 0 g (fun x22 g=>?_) fun J23 g j23=>?_
 refine C.xt (U.pd 1 T (C.nx (C.ret ?_)))
 exact C.f1 T o (pBi g)
 refine C.block (St.wk (C.loop (fun (s24:Int)=>[(1,.p 0 0),(46,.sl 1 eI f.Kind),(47,.i (f.Kind.length:Int)),(48,.i s24)]) (fun s24=>[(0,.box (Qr f))]) g (fun s24 Y25 g=>?_)) (Wk.a [some 0]))
 refine C.ss (U.pd 1 T (C.xs ?_))
 refine C.ite rfl g (fun b28 g=>?_) fun b28 g=>?_
 refine C.skip (C.xs (C.block (C.ss (U.ps 1 T rfl ?_))))
 obtain⟨x31,y31,g⟩:=g
 refine U.ix T y31 ?_
 refine U.pd 3 T (C.xs ?_)
 refine C.jn (fun (x32:Bool)=>[(1,.p 0 0),(46,.sl 1 eI f.Kind),(47,.i (f.Kind.length:Int)),(48,.i s24),(74,.b x32)]) (fun x32=>[(0,.box (Qr f))]) 1 g (fun x32 g=>?_) fun J33 g j33=>?_
 refine C.nx ?_
 refine C.ite rfl g (fun b38 g=>?_) fun b38 g=>?_
 refine C.ss (U.pd 1 T (C.nx (C.ret (C.brt (C.rt (C.rt (C.brt (C.rt ?_))))))))
 exact C.f1 T o (pBi g)
 refine C.skip (C.bnx (C.nx (U.start (U.pd 2 T (C.nx ?_)))))
 exact St.wk (C.next g) (Wk.a [some 0])
 refine U.start (U.ps 3 T rfl ?_)
 refine g.cs (fun b34 g=>?_) fun b34 g=>?_
 refine U.sk' 2 2 false 55 b34 ?_
 refine U.pk b34 ?_
 refine U.ps 1 T rfl (U.sk' 6 6 false 59 rfl ?_)
 refine U.pk rfl ?_
 refine U.ps 1 T rfl (U.sk' 6 14 false 67 rfl ?_)
 refine U.pk rfl ?_
 refine U.done ?_
 exact St.wa [some 0] (j33 _ g)
 refine U.pq 2 2 false 55 b34 T ?_
 refine U.pk' b34 ?_
 refine U.ps 1 T rfl ?_
 refine g.cs (fun b35 g=>?_) fun b35 g=>?_
 refine U.sk' 6 6 false 59 b35 ?_
 refine U.pk b35 ?_
 refine U.ps 1 T rfl (U.sk' 6 14 false 67 rfl ?_)
 refine U.pk rfl ?_
 refine U.done ?_
 exact St.wa [some 0] (j33 _ g)
 refine U.pq 3 6 false 59 b35 T ?_
 obtain⟨x36,y36,g⟩:=g
 refine U.r rfl (.tk 6 false 59 b35) rfl rfl (by exact Rd.ix T rfl rfl rfl rfl rfl rfl y36) ?_
 refine U.pq 2 6 false 59 b35 T ?_
 refine U.pk' b35 ?_
 refine U.ps 1 T rfl ?_
 refine g.cs (fun b37 g=>?_) fun b37 g=>?_
 refine U.sk' 6 14 false 67 b37 ?_
 refine U.pk b37 ?_
 refine U.done ?_
 exact St.wa [some 0] (j33 _ g)
 refine U.pq 3 14 false 67 b37 T ?_
 refine U.r rfl (.tk 14 false 67 b37) rfl rfl (by exact Rd.ix T rfl rfl rfl rfl rfl rfl y36) ?_
 refine U.pq 2 14 false 67 b37 T ?_
 refine U.pk' b37 ?_
 refine U.done ?_
 exact St.wa [some 0] (j33 _ g)
 refine C.exit (C.ex (C.ex (C.bex ?_)))
 exact St.wk (j23 _ g) (Wk.mk' [] rfl rfl trivial trivial rfl)
 refine U.start (U.ps 3 T rfl ?_)
 refine g.cs (fun b15 g=>?_) fun b15 g=>?_
 refine U.sk' 5 2 false 31 b15 ?_
 refine U.pk b15 ?_
 refine U.ps 1 T rfl (U.sk' 5 9 false 38 rfl ?_)
 refine U.pk rfl ?_
 refine U.done ?_
 exact St.wa [some 0] (j14 _ g)
 refine U.pq 5 2 false 31 b15 T ?_
 refine U.pk' b15 ?_
 refine U.ps 1 T rfl ?_
 refine g.cs (fun b16 g=>?_) fun b16 g=>?_
 refine U.sk' 5 9 false 38 b16 ?_
 refine U.pk b16 ?_
 refine U.done ?_
 exact St.wa [some 0] (j14 _ g)
 refine U.pq 5 9 false 38 b16 T ?_
 refine U.pk' b16 ?_
 refine U.done ?_
 exact St.wa [some 0] (j14 _ g)
 refine U.start (U.ps 9 T rfl ?_)
 refine g.cs (fun b5 g=>?_) fun b5 g=>?_
 refine U.sk' 3 8 false 14 b5 ?_
 refine U.pk b5 ?_
 refine U.ps 1 T rfl (U.sk' 6 13 false 19 rfl ?_)
 refine U.pk rfl ?_
 refine U.done ?_
 exact St.wa [some 0] (j4 _ g)
 refine U.pq 3 8 false 14 b5 T ?_
 refine U.pk' b5 ?_
 refine U.ps 1 T rfl ?_
 refine g.cs (fun b6 g=>?_) fun b6 g=>?_
 refine U.sk' 6 13 false 19 b6 ?_
 refine U.pk b6 ?_
 refine U.done ?_
 exact St.wa [some 0] (j4 _ g)
 refine U.pq 6 13 false 19 b6 T ?_
 refine U.pk' b6 ?_
 refine U.done ?_
 exact St.wa [some 0] (j4 _ g)
theorem Q0i (f:ApiFloor) (post:SurveyMaker→Prop) (g:XS f post):
  Tr Tryz.prog 75 [.agg (Qr f)] [] 0 (fun A H' k=>∃y,post y∧A=(.p 11 0)∧H'=[(0,.val (.os 5 Q7 y.site.Zones)),(1,.val (.os 2 Qb y.site.Aparts)),(2,.val (.os 2 Q8 y.site.Shelves)),(3,.val (.os 2 Qa y.site.Robots)),(4,.val (.om kI veI y.shelf)),(5,.val (.om kI veB y.robot)),(6,.val (.om kI veB y.zoned)),(7,.val (.om kS veI y.names)),(8,.val (.om kI veB y.oneways)),(9,.val (.os 1 eI y.shelves)),(10,.val (.os 1 eI y.zones)),(11,.box [.i y.site.Floor.W,.i y.site.Floor.H,.i y.site.Floor.D,.sl 1 eI y.site.Floor.Kind,.sl 1 eI y.site.Floor.Out,.o 0,.o 1,.o 2,.o 3,.o 4,.o 5,.o 6,.o 7,.o 8,.o 9,.o 10])]∧k=12):=by
 refine Tr.go Tryz.func75 Tryz.ntmps75 fun _ _ _ _ o=>?_
 unfold XS at g
 refine C.ss (U.bx ?_)
 refine U.pd 1 T (C.xt ?_)
 refine U.ps 2 T rfl (U.e1 rfl (.none rfl) (by exact Eff1.mm kI veI rfl rfl rfl) ?_)
 refine U.e1 rfl (.none rfl) (by exact Eff1.mm kI veB rfl rfl rfl) ?_
 refine U.e1 rfl (.none rfl) (by exact Eff1.mm kI veB rfl rfl rfl) ?_
 refine U.e1 rfl (.none rfl) (by exact Eff1.mm kS veI rfl rfl rfl) ?_
 refine U.e1 rfl (.none rfl) (by exact Eff1.mm kI veB rfl rfl rfl) ?_
 refine U.ps 1 T rfl (U.bx ?_)
 refine U.pd 1 T (C.nx (C.ret ?_))
 exact C.g1 [none,none,none,none,some 1,some 2,some 3,some 4,some 5,none,none,some 6] T o ⟨({site:=({Floor:=f,Zones:=[],Aparts:=[],Shelves:=[],Robots:=[]:ApiSite}),shelf:=([]:List (Int×Int)),robot:=([]:List (Int×Bool)),zoned:=([]:List (Int×Bool)),names:=([]:List (ByteArray×Int)),oneways:=([]:List (Int×Bool)),shelves:=[],zones:=[]:SurveyMaker}),g,rfl,rfl,rfl⟩
def Q9h:Go.Shelf.Ren:=⟨fun | 137=>135 | 217=>191 | 266=>209 | n=>n,fun | 3=>3 | 5=>5 | 9=>9 | n=>n,fun n=>n⟩
theorem Q9d:Go.Proofs.Lays.n137 Tryz.prog Q9h where
 mixed:=by kernel_rfl
 f137:=Tryz.func135.trans (congrArg some (by kernel_rfl))
 f217:=Tryz.func191.trans (congrArg some (by kernel_rfl))
 f266:=Tryz.func209.trans (congrArg some (by kernel_rfl))
 t3:=Tryz.underlying3
 a3:=Tryz.isAgg3
 z3:=Tryz.sizeOf3
 v3:=Tryz.zeroValue3
 t5:=Tryz.underlying5
 a5:=Tryz.isAgg5
 z5:=Tryz.sizeOf5
 v5:=Tryz.zeroValue5
 t9:=Tryz.underlying9
 a9:=Tryz.isAgg9
 z9:=Tryz.sizeOf9
 v9:=Tryz.zeroValue9
theorem ZB (s_1:ByteArray) (c:Int) (post:Int→Prop) (g:Ww s_1 c post):
  Tr Tryz.prog 135 [.v (.string s_1),.v (.int .u8 c)] [] 0 (pI post):=Tr.indexByte Q9d s_1 c g
theorem Wl (s_1:ByteArray) (post:Bool→Prop) (g:Kw s_1 post):
  Tr Tryz.prog 76 [.v (.string s_1)] [] 0 (pB post):=by
 refine Tr.go Tryz.func76 Tryz.ntmps76 fun _ _ _ _ o=>?_
 unfold Kw at g
 refine C.ss (U.pd 1 T (C.xs (C.seq ?_)))
 refine C.jn (fun (x3:Bool)=>[(0,.v (.string s_1)),(21,.b x3)]) (fun x3=>[]) 0 g (fun x3 g=>?_) fun J4 g j4=>?_
 refine C.nx ?_
 refine C.ite rfl g (fun b9 g=>?_) fun b9 g=>?_
 refine C.ss (U.pd 1 T (C.nx (C.ret (C.rt ?_))))
 exact C.f1 T o (pBi g)
 refine C.skip (C.xs (C.ss (U.pd 3 T (C.nx ?_))))
 refine C.jn (fun (x14:Unit)=>[]) (fun x14=>[]) 0 g (fun x14 g=>?_) fun J15 g j15=>?_
 refine C.xt (U.pd 1 T (C.nx (C.ret ?_)))
 exact C.f1 T o (pBi g)
 refine C.block (St.wk (C.loop (fun (s16:Int)=>[(0,.v (.string s_1)),(23,.i (s_1.size:Int)),(24,.i s16)]) (fun s16=>[]) g (fun s16 Y17 g=>?_)) (Wk.e))
 refine C.ss (U.pd 1 T (C.xs ?_))
 refine C.ite rfl g (fun b20 g=>?_) fun b20 g=>?_
 refine C.skip (C.xs (C.block (C.ss (U.pd 2 T (C.xt ?_)))))
 refine U.ps 2 T rfl ?_
 obtain⟨x25,y25,g⟩:=g
 refine U.r rfl (.none rfl) rfl rfl (by exact Rd.ib T rfl rfl rfl rfl y25) ?_
 refine U.k (ZB (ByteArray.mk #[97,98,99,100,101,102,103,104,105,106,107,108,109,110,111,112,113,114,115,116,117,118,119,120,121,122,65,66,67,68,69,70,71,72,73,74,75,76,77,78,79,80,81,82,83,84,85,86,87,88,89,90,48,49,50,51,52,53,54,55,56,57,95,45]) (x25.toNat:Int) _ g) Q9N fun x26 g=>?_
 refine U.pd 1 T (C.nx ?_)
 refine C.ite rfl g (fun b27 g=>?_) fun b27 g=>?_
 refine C.ss (U.pd 1 T (C.nx (C.ret (C.brt (C.rt (C.rt (C.brt (C.rt ?_))))))))
 exact C.f1 T o (pBi g)
 refine C.skip (C.bnx (C.nx (U.start (U.pd 2 T (C.nx ?_)))))
 exact St.wk (C.next g) (Wk.e)
 refine C.exit (C.ex (C.ex (C.bex ?_)))
 exact St.wk (j15 _ g) (Wk.mk' [] rfl rfl trivial trivial rfl)
 refine U.start (U.ps 4 T rfl ?_)
 refine g.cs (fun b5 g=>?_) fun b5 g=>?_
 refine U.sk' 3 3 false 7 b5 ?_
 refine U.pk b5 ?_
 refine U.ps 1 T rfl (U.sk' 4 8 false 12 rfl ?_)
 refine U.sku 3 12 true 16 rfl rfl rfl ?_
 refine U.sk' 1 8 false 12 rfl ?_
 refine U.pk rfl ?_
 refine U.done ?_
 exact St.wn (j4 _ g)
 refine U.pq 3 3 false 7 b5 T ?_
 refine U.pk' b5 ?_
 refine U.ps 1 T rfl ?_
 refine g.cs (fun b6 g=>?_) fun b6 g=>?_
 refine U.sk' 4 8 false 12 b6 ?_
 refine U.sku 3 12 true 16 rfl rfl rfl ?_
 refine U.sk' 1 8 false 12 b6 ?_
 refine U.pk b6 ?_
 refine U.done ?_
 exact St.wn (j4 _ g)
 refine U.pq 1 8 false 12 b6 T ?_
 obtain⟨x7,y7,g⟩:=g
 refine U.r rfl (.tk 8 false 12 b6) rfl rfl (by exact Rd.ib T rfl rfl rfl rfl y7) ?_
 refine U.pq 2 8 false 12 b6 T ?_
 refine g.cs (fun b8 g=>?_) fun b8 g=>?_
 refine U.pq 1 12 true 16 b8 T ?_
 refine U.r rfl (.tk 12 true 16 b8) rfl rfl (by exact Rd.ib T rfl rfl rfl rfl y7) ?_
 refine U.pq 1 12 true 16 b8 T ?_
 refine U.r rfl (.tk 8 false 12 b6) rfl rfl (by exact Rd.pk rfl rfl b8 rfl) ?_
 refine U.pk' b6 ?_
 refine U.done ?_
 exact St.wn (j4 _ g)
 refine U.sk' 3 12 true 16 b8 ?_
 refine U.r rfl (.tk 8 false 12 b6) rfl rfl (by exact Rd.pk' rfl rfl b8 rfl) ?_
 refine U.pk' b6 ?_
 refine U.done ?_
 exact St.wn (j4 _ g)
theorem Z0 (n:Int) (from_1:Int) (to_1:Int) (post:Bool→Prop) (g:X8 n from_1 to_1 post):
  Tr Tryz.prog 77 [.i n,.i from_1,.i to_1] [] 0 (pB post):=by
 refine Tr.go Tryz.func77 Tryz.ntmps77 fun _ _ _ _ o=>?_
 unfold X8 at g
 refine C.ss (U.pd 1 T (C.xs ?_))
 refine C.jn (fun (x3:Bool)=>[(6,.b x3)]) (fun x3=>[]) 0 g (fun x3 g=>?_) fun J4 g j4=>?_
 refine C.nx (C.ret ?_)
 exact C.f1 T o (pBi g)
 refine U.start (U.ps 4 T rfl ?_)
 refine g.cs (fun b5 g=>?_) fun b5 g=>?_
 refine U.pq 3 3 true 10 b5 T ?_
 refine U.pk b5 ?_
 refine U.pd 1 T ?_
 exact St.wn (j4 _ g)
 refine U.sk' 3 3 true 10 b5 ?_
 refine U.pk' b5 ?_
 refine U.pd 1 T ?_
 exact St.wn (j4 _ g)
theorem Q35 (l:List XF) (post:Bool→Prop) (g:Gr l post):
  Tr Tryz.prog 78 [.sl 2 GV l] [] 0 (pB post):=by
 refine Tr.go Tryz.func78 Tryz.ntmps78 fun _ _ _ _ o=>?_
 unfold Gr at g
 refine C.ss (U.pd 1 T (C.xt ?_))
 refine U.pd 1 T (C.xs (C.ss ?_))
 refine U.pd 3 T (C.nx ?_)
 refine C.jn (fun (x7:Unit)=>[]) (fun x7=>[]) 0 g (fun x7 g=>?_) fun J8 g j8=>?_
 refine C.xt (U.pd 1 T (C.nx (C.ret ?_)))
 exact C.f1 T o (pBi g)
 refine C.block (St.wk (C.loop (fun (s9:Int×Int)=>[(3,.i s9.1),(6,.sl 2 GV l),(7,.i (l.length:Int)),(8,.i s9.2)]) (fun s9=>[]) g (fun s9 Y10 g=>?_)) (Wk.e))
 refine C.ss (U.pd 1 T (C.xs ?_))
 refine C.ite rfl g (fun b13 g=>?_) fun b13 g=>?_
 refine C.skip (C.xs (C.block (C.ss ?_)))
 obtain⟨x16,y16,g⟩:=g
 refine U.ix T y16 ?_
 refine U.ps 1 T rfl (U.al T ?_)
 refine U.st T ?_
 refine U.done (C.xs (C.seq ?_))
 refine C.jn (fun (x17:Bool)=>[(5,.p 0 0),(6,.sl 2 GV l),(7,.i (l.length:Int)),(8,.i s9.2),(27,.b x17)]) (fun x17=>[(0,.box [.i x16.From,.i x16.To])]) 1 g (fun x17 g=>?_) fun J18 g j18=>?_
 refine C.nx ?_
 refine C.ite rfl g (fun b21 g=>?_) fun b21 g=>?_
 refine C.ss (U.pd 1 T (C.nx (C.ret (C.rt (C.brt (C.rt (C.rt (C.brt (C.rt ?_)))))))))
 exact C.f1 T o (pBi g)
 refine C.skip (C.nx (U.start (U.pd 3 T (C.bnx (C.nx (U.start ?_))))))
 refine U.pd 2 T (C.nx ?_)
 exact St.wk (C.next g) (Wk.e)
 refine U.start (U.ps 5 T rfl ?_)
 refine g.cs (fun b19 g=>?_) fun b19 g=>?_
 refine U.sk' 5 4 false 16 b19 ?_
 refine U.pk b19 ?_
 refine U.ps 1 T rfl (U.sk' 3 11 false 23 rfl ?_)
 refine U.pk rfl ?_
 refine U.done ?_
 exact St.wa [some 0] (j18 _ g)
 refine U.pq 5 4 false 16 b19 T ?_
 refine U.pk' b19 ?_
 refine U.ps 1 T rfl ?_
 refine g.cs (fun b20 g=>?_) fun b20 g=>?_
 refine U.sk' 3 11 false 23 b20 ?_
 refine U.pk b20 ?_
 refine U.done ?_
 exact St.wa [some 0] (j18 _ g)
 refine U.pq 3 11 false 23 b20 T ?_
 refine U.pk' b20 ?_
 refine U.done ?_
 exact St.wa [some 0] (j18 _ g)
 refine C.exit (C.ex (C.ex (C.bex ?_)))
 exact St.wk (j8 _ g) (Wk.mk' [] rfl rfl trivial trivial rfl)
theorem KU (m:SurveyMaker) (c:Int) (post:(Int×Bool)→Prop) (g:QQ m c post):
  Tr Tryz.prog 136 [.rp [.i m.site.Floor.W,.i m.site.Floor.H,.i m.site.Floor.D,.sl 1 eI m.site.Floor.Kind,.sl 1 eI m.site.Floor.Out,.sl 5 Q7 m.site.Zones,.sl 2 Qb m.site.Aparts,.sl 2 Q8 m.site.Shelves,.sl 2 Qa m.site.Robots,.rm kI veI m.shelf,.rm kI veB m.robot,.rm kI veB m.zoned,.rm kS veI m.names,.rm kI veB m.oneways,.sl 1 eI m.shelves,.sl 1 eI m.zones],.i c] [] 0 (fun A H' k=>∃y,post y∧A=(.tup [.i y.1,.b y.2])∧H'=[]∧k=0):=by
 refine Tr.go Tryz.func136 Tryz.ntmps136 fun _ _ _ _ o=>?_
 unfold QQ at g
 refine C.ss (U.pd 2 T (C.xs (C.seq ?_)))
 refine C.jn (fun (x3:Bool)=>[(0,.rp [.i m.site.Floor.W,.i m.site.Floor.H,.i m.site.Floor.D,.sl 1 eI m.site.Floor.Kind,.sl 1 eI m.site.Floor.Out,.sl 5 Q7 m.site.Zones,.sl 2 Qb m.site.Aparts,.sl 2 Q8 m.site.Shelves,.sl 2 Qa m.site.Robots,.rm kI veI m.shelf,.rm kI veB m.robot,.rm kI veB m.zoned,.rm kS veI m.names,.rm kI veB m.oneways,.sl 1 eI m.shelves,.sl 1 eI m.zones]),(1,.i c),(18,.b x3)]) (fun x3=>[]) 0 g (fun x3 g=>?_) fun J4 g j4=>?_
 refine C.nx ?_
 refine C.ite rfl g (fun b6 g=>?_) fun b6 g=>?_
 refine C.ss (U.pd 2 T (C.nx (C.ret (C.rt ?_))))
 exact C.f9 T o ⟨(0,false),g,rfl,rfl,rfl⟩
 refine C.skip (C.xt (U.ps 7 T rfl ?_))
 obtain⟨x11,y11,g⟩:=g
 refine U.ix T y11 ?_
 refine U.pd 3 T (C.nx (C.ret ?_))
 exact C.f9 T o ⟨(x11,true),g,rfl,rfl,rfl⟩
 refine U.start (U.ps 3 T rfl ?_)
 refine g.cs (fun b5 g=>?_) fun b5 g=>?_
 refine U.sk' 9 2 false 8 b5 ?_
 refine U.pk b5 ?_
 refine U.done ?_
 exact St.wn (j4 _ g)
 refine U.pq 9 2 false 8 b5 T ?_
 refine U.pk' b5 ?_
 refine U.done ?_
 exact St.wn (j4 _ g)
theorem Zg (m:SurveyMaker) (l:List Int) (post:Bool→Prop) (g:Ko m l post):
  Tr Tryz.prog 79 [.rp [.i m.site.Floor.W,.i m.site.Floor.H,.i m.site.Floor.D,.sl 1 eI m.site.Floor.Kind,.sl 1 eI m.site.Floor.Out,.sl 5 Q7 m.site.Zones,.sl 2 Qb m.site.Aparts,.sl 2 Q8 m.site.Shelves,.sl 2 Qa m.site.Robots,.rm kI veI m.shelf,.rm kI veB m.robot,.rm kI veB m.zoned,.rm kS veI m.names,.rm kI veB m.oneways,.sl 1 eI m.shelves,.sl 1 eI m.zones],.sl 1 eI l] [] 0 (pB post):=by
 refine Tr.go Tryz.func79 Tryz.ntmps79 fun _ _ _ _ o=>?_
 unfold Ko at g
 refine C.ss (U.pd 1 T (C.xs (C.ss ?_)))
 refine U.pd 3 T (C.nx ?_)
 refine C.jn (fun (x5:Unit)=>[(1,.sl 1 eI l)]) (fun x5=>[]) 0 g (fun x5 g=>?_) fun J6 g j6=>?_
 refine C.xt (U.pd 4 T (C.nx (C.ret ?_)))
 exact C.f1 T o (pBi g)
 refine C.block ?_
 refine St.wk (C.loop (fun (s7:Int)=>[(0,.rp [.i m.site.Floor.W,.i m.site.Floor.H,.i m.site.Floor.D,.sl 1 eI m.site.Floor.Kind,.sl 1 eI m.site.Floor.Out,.sl 5 Q7 m.site.Zones,.sl 2 Qb m.site.Aparts,.sl 2 Q8 m.site.Shelves,.sl 2 Qa m.site.Robots,.rm kI veI m.shelf,.rm kI veB m.robot,.rm kI veB m.zoned,.rm kS veI m.names,.rm kI veB m.oneways,.sl 1 eI m.shelves,.sl 1 eI m.zones]),(1,.sl 1 eI l),(9,.sl 1 eI l),(10,.i (l.length:Int)),(11,.i s7)]) (fun s7=>[]) g (fun s7 Y8 g=>?_)) (Wk.e)
 refine C.ss (U.pd 1 T (C.xs ?_))
 refine C.ite rfl g (fun b11 g=>?_) fun b11 g=>?_
 refine C.skip (C.xs (C.block (C.ss (U.ps 1 T rfl ?_))))
 obtain⟨x14,y14,g⟩:=g
 refine U.ix T y14 ?_
 refine U.pd 3 T (C.xt ?_)
 refine U.ps 2 T rfl (U.k (KU m x14 _ g) Q6I (fun x17 g=>?_))
 refine U.pd 5 T (C.xs ?_)
 refine C.jn (fun (x18:Bool)=>[(0,.rp [.i m.site.Floor.W,.i m.site.Floor.H,.i m.site.Floor.D,.sl 1 eI m.site.Floor.Kind,.sl 1 eI m.site.Floor.Out,.sl 5 Q7 m.site.Zones,.sl 2 Qb m.site.Aparts,.sl 2 Q8 m.site.Shelves,.sl 2 Qa m.site.Robots,.rm kI veI m.shelf,.rm kI veB m.robot,.rm kI veB m.zoned,.rm kS veI m.names,.rm kI veB m.oneways,.sl 1 eI m.shelves,.sl 1 eI m.zones]),(1,.sl 1 eI l),(9,.sl 1 eI l),(10,.i (l.length:Int)),(11,.i s7),(36,.b x18)]) (fun x18=>[]) 0 g (fun x18 g=>?_) fun J19 g j19=>?_
 refine C.nx ?_
 refine C.ite rfl g (fun b23 g=>?_) fun b23 g=>?_
 refine C.ss (U.pd 1 T (C.nx (C.ret (C.brt (C.rt (C.rt (C.brt (C.rt ?_))))))))
 exact C.f1 T o (pBi g)
 refine C.skip (C.bnx (C.nx (U.start (U.pd 2 T (C.nx ?_)))))
 exact St.wk (C.next g) (Wk.e)
 refine U.start (U.ps 3 T rfl ?_)
 refine g.cs (fun b20 g=>?_) fun b20 g=>?_
 refine U.pq 3 2 false 24 (ntF b20) T ?_
 refine g.cs (fun b21 g=>?_) fun b21 g=>?_
 refine U.pq 3 5 true 27 b21 T ?_
 obtain⟨x22,y22,g⟩:=g
 refine U.r rfl (.tk 5 true 27 b21) rfl rfl (by exact Rd.ix T rfl rfl rfl rfl rfl rfl y22) ?_
 refine U.pq 3 5 true 27 b21 T ?_
 refine U.r rfl (.tk 2 false 24 (ntF b20)) rfl rfl (by exact Rd.pk rfl rfl b21 rfl) ?_
 refine U.pk' (ntF b20) ?_
 refine U.done ?_
 exact St.wn (j19 _ g)
 refine U.sk' 7 5 true 27 b21 ?_
 refine U.r rfl (.tk 2 false 24 (ntF b20)) rfl rfl (by exact Rd.pk' rfl rfl b21 rfl) ?_
 refine U.pk' (ntF b20) ?_
 refine U.done ?_
 exact St.wn (j19 _ g)
 refine U.sk' 3 2 false 24 (ntT b20) ?_
 refine U.sku 7 5 true 27 rfl rfl rfl ?_
 refine U.sk' 1 2 false 24 (ntT b20) ?_
 refine U.pk (ntT b20) ?_
 refine U.done ?_
 exact St.wn (j19 _ g)
 refine C.exit (C.ex (C.ex (C.bex ?_)))
 exact St.wn (j6 _ g)
theorem Q1Y (kind:Int) (post:Bool→Prop) (g:XZ kind post):
  Tr Tryz.prog 137 [.i kind] [] 0 (pB post):=by
 refine Tr.go Tryz.func137 Tryz.ntmps137 fun _ _ _ _ o=>?_
 unfold XZ at g
 refine C.ss (U.pd 1 T (C.xs ?_))
 refine C.jn (fun (x3:Bool)=>[(2,.b x3)]) (fun x3=>[]) 0 g (fun x3 g=>?_) fun J4 g j4=>?_
 refine C.nx (C.ret ?_)
 exact C.f1 T o (pBi g)
 refine U.start (U.ps 3 T rfl ?_)
 refine g.cs (fun b5 g=>?_) fun b5 g=>?_
 refine U.pq 2 2 true 5 b5 T ?_
 refine U.pk b5 ?_
 refine U.ps 1 T rfl ?_
 refine g.cs (fun b6 g=>?_) fun b6 g=>?_
 refine U.pq 2 6 true 9 b6 T ?_
 refine U.pk b6 ?_
 refine U.pd 1 T ?_
 exact St.wn (j4 _ g)
 refine U.sk' 2 6 true 9 b6 ?_
 refine U.pk' b6 ?_
 refine U.pd 1 T ?_
 exact St.wn (j4 _ g)
 refine U.sk' 2 2 true 5 b5 ?_
 refine U.pk' b5 ?_
 refine U.ps 1 T rfl (U.sk' 2 6 true 9 rfl ?_)
 refine U.pk' rfl ?_
 refine U.pd 1 T ?_
 exact St.wn (j4 _ g)
theorem WK (z:Qk) (m:SurveyMaker) (post:(Int×SurveyMaker)→Prop) (g:K4 z m post):
  Tr Tryz.prog 80 [.p 0 0,.agg (Q7 z)] [(0,.box [.i m.site.Floor.W,.i m.site.Floor.H,.i m.site.Floor.D,.sl 1 eI m.site.Floor.Kind,.sl 1 eI m.site.Floor.Out,.o 1,.o 2,.o 3,.o 4,.o 5,.o 6,.o 7,.o 8,.o 9,.o 10,.o 11]),(1,.val (.os 5 Q7 m.site.Zones)),(2,.val (.os 2 Qb m.site.Aparts)),(3,.val (.os 2 Q8 m.site.Shelves)),(4,.val (.os 2 Qa m.site.Robots)),(5,.val (.om kI veI m.shelf)),(6,.val (.om kI veB m.robot)),(7,.val (.om kI veB m.zoned)),(8,.val (.om kS veI m.names)),(9,.val (.om kI veB m.oneways)),(10,.val (.os 1 eI m.shelves)),(11,.val (.os 1 eI m.zones))] 12 (fun A H' k=>∃y,post y∧A=(.i y.1)∧H'=[(0,.box [.i y.2.site.Floor.W,.i y.2.site.Floor.H,.i y.2.site.Floor.D,.sl 1 eI y.2.site.Floor.Kind,.sl 1 eI y.2.site.Floor.Out,.o 12,.o 13,.o 14,.o 15,.o 16,.o 17,.o 18,.o 19,.o 20,.o 21,.o 22]),(12,.val (.os 5 Q7 y.2.site.Zones)),(13,.val (.os 2 Qb y.2.site.Aparts)),(14,.val (.os 2 Q8 y.2.site.Shelves)),(15,.val (.os 2 Qa y.2.site.Robots)),(16,.val (.om kI veI y.2.shelf)),(17,.val (.om kI veB y.2.robot)),(18,.val (.om kI veB y.2.zoned)),(19,.val (.om kS veI y.2.names)),(20,.val (.om kI veB y.2.oneways)),(21,.val (.os 1 eI y.2.shelves)),(22,.val (.os 1 eI y.2.zones))]∧k=23):=by
 refine Tr.go Tryz.func80 Tryz.ntmps80 fun _ _ _ _ o=>?_
 unfold K4 at g
 refine C.ss (U.bx ?_)
 refine U.pd 1 T (C.xs (C.seq ?_))
 refine D.bq mix 9999 [0,8,12] [] (fun hQ hS ws M'=>?_)
 refine D.pq 6 (zl [0,1,2,3,4,5]) T ?_
 refine D.q 6 [] hQ hS rfl (.none rfl) rfl rfl (by exact Rd.lk2 T (ke:=kS) (ve:=veI) (xs:=m.names) (z0:=0) (x:=z.Name) rfl rfl kt9 zt3 (fun _=>rfl) rfl (.o rfl) rfl rfl rfl) rfl (by kernel_rfl) ?_
 refine D.pq 5 (zl [7,8,9,10,11]) T ?_
 refine D.done (by kernel_rfl) ?_
 refine C.xt (U.pd 1 T (C.nx ?_))
 refine C.ite rfl g (fun b7 g=>?_) fun b7 g=>?_
 refine C.ss (U.pd 1 T (C.nx (C.ret (C.rt ?_))))
 exact C.g1 [some 0,some 1,some 2,some 3,some 4,some 5,some 6,some 7,some 8,some 9,some 10,some 11,some 1,some 2,some 3,some 4,some 5,some 6,some 7,some 8,some 9,some 10,some 11] T o ⟨(5,m),g,rfl,rfl,rfl⟩
 refine C.skip (C.xs (C.ss (U.pd 7 T (C.nx ?_))))
 refine C.ite rfl g (fun b12 g=>?_) fun b12 g=>?_
 refine C.ss (U.pd 1 T (C.nx (C.ret (C.rt ?_))))
 exact C.g1 [some 0,some 1,some 2,some 3,some 4,some 5,some 6,some 7,some 8,some 9,some 10,some 11,some 1,some 2,some 3,some 4,some 5,some 6,some 7,some 8,some 9,some 10,some 11] T o ⟨(6,m),g,rfl,rfl,rfl⟩
 refine C.skip (C.xs (C.ss (U.pd 4 T (C.nx ?_))))
 refine C.jn (fun (x17:Unit)=>[(0,.p 0 0),(3,.p 12 0)]) (fun x17=>[(0,.box [.i m.site.Floor.W,.i m.site.Floor.H,.i m.site.Floor.D,.sl 1 eI m.site.Floor.Kind,.sl 1 eI m.site.Floor.Out,.o 1,.o 2,.o 3,.o 4,.o 5,.o 6,.o 7,.o 8,.o 9,.o 10,.o 11]),(1,.val (.os 5 Q7 m.site.Zones)),(2,.val (.os 2 Qb m.site.Aparts)),(3,.val (.os 2 Q8 m.site.Shelves)),(4,.val (.os 2 Qa m.site.Robots)),(5,.val (.om kI veI m.shelf)),(6,.val (.om kI veB m.robot)),(7,.val (.om kI veB m.zoned)),(8,.val (.om kS veI m.names)),(9,.val (.om kI veB m.oneways)),(10,.val (.os 1 eI m.shelves)),(11,.val (.os 1 eI m.zones)),(12,.box (Q7 z))]) 13 g (fun x17 g=>?_) fun J18 g j18=>?_
 refine C.xs (C.ss (U.pd 4 T (C.nx ?_)))
 refine C.jn (fun (x41:List (Int×Bool))=>[(0,.p 0 0),(3,.p 12 0)]) (fun x41=>[(0,.box [.i m.site.Floor.W,.i m.site.Floor.H,.i m.site.Floor.D,.sl 1 eI m.site.Floor.Kind,.sl 1 eI m.site.Floor.Out,.o 1,.o 2,.o 3,.o 4,.o 5,.o 6,.o 7,.o 8,.o 9,.o 10,.o 11]),(1,.val (.os 5 Q7 m.site.Zones)),(2,.val (.os 2 Qb m.site.Aparts)),(3,.val (.os 2 Q8 m.site.Shelves)),(4,.val (.os 2 Qa m.site.Robots)),(5,.val (.om kI veI m.shelf)),(6,.val (.om kI veB m.robot)),(7,.val (.om kI veB x41)),(8,.val (.om kS veI m.names)),(9,.val (.om kI veB m.oneways)),(10,.val (.os 1 eI m.shelves)),(11,.val (.os 1 eI m.zones)),(12,.box (Q7 z))]) 13 g (fun x41 g=>?_) fun J42 g j42=>?_
 refine C.xs (D.bq mix 12 [0,12] [] (fun hQ hS ws M'=>?_))
 refine D.pq 12 (zl [0,1,2,3,4,5,6,7,8,9,10,11]) T ?_
 refine D.ze1 rfl (.none rfl) (by exact Eff1.mu T (x:=z.Name) (y:=(m.site.Zones.length:Int)) (.inl rfl) rfl kt9 (fun _=>rfl) rfl rfl rfl rfl rfl (.inl rfl) rfl) (by kernel_rfl) (by kernel_rfl) ?_
 refine C.xs (D.bq mix 12 [0,12] [1] (fun hQ hS ws M'=>?_))
 refine D.pq 7 (zl [0,1,2,3,4,5,6]) T ?_
 refine D.e1 7 rfl (.none rfl) (by exact Eff1.bs T (enc:=Q7) (xs:=([z]:List Qk)) rfl rfl rfl rfl rfl rfl rfl rfl rfl rfl (fun _ _=>rfl) rfl rfl) (by kernel_rfl) rfl rfl ?_
 obtain⟨y59,g⟩:=g
 refine D.e1 8 rfl (.none rfl) (by exact Eff1.ap T rfl rfl rfl rfl rfl rfl (.inr ⟨_,rfl,rfl⟩) rfl rfl rfl (fun _=>rfl) rfl y59) (by kernel_rfl) rfl rfl ?_
 refine D.pq 3 [(9,[11,10]),(10,[11]),(11,[])] T ?_
 refine D.ze1 rfl (.none rfl) (by exact Eff1.st T rfl rfl rfl rfl rfl rfl rfl rfl rfl rfl) (by kernel_rfl) (by kernel_rfl) ?_
 refine C.xt (U.pd 1 T (C.nx (C.ret ?_)))
 exact C.g1 [some 0,some 1,some 2,some 3,some 4,some 5,some 6,some 7,some 8,some 9,some 10,some 11,some 14,some 2,some 3,some 4,some 5,some 6,some 7,some 8,some 9,some 10,some 11] T o ⟨(0,({site:=({Floor:=m.site.Floor,Zones:=(m.site.Zones++([z]:List Qk)),Aparts:=m.site.Aparts,Shelves:=m.site.Shelves,Robots:=m.site.Robots:ApiSite}),shelf:=m.shelf,robot:=m.robot,zoned:=x41,names:=(upd m.names z.Name (m.site.Zones.length:Int)),oneways:=m.oneways,shelves:=m.shelves,zones:=m.zones:SurveyMaker})),g,rfl,rfl,rfl⟩
 refine C.block ?_
 refine St.wk (C.loop (fun (s43:List (Int×Bool)×Int)=>[(0,.p 0 0),(3,.p 12 0),(57,.sl 1 eI z.Cells),(58,.i (z.Cells.length:Int)),(59,.i s43.2)]) (fun s43=>[(0,.box [.i m.site.Floor.W,.i m.site.Floor.H,.i m.site.Floor.D,.sl 1 eI m.site.Floor.Kind,.sl 1 eI m.site.Floor.Out,.o 1,.o 2,.o 3,.o 4,.o 5,.o 6,.o 7,.o 8,.o 9,.o 10,.o 11]),(1,.val (.os 5 Q7 m.site.Zones)),(2,.val (.os 2 Qb m.site.Aparts)),(3,.val (.os 2 Q8 m.site.Shelves)),(4,.val (.os 2 Qa m.site.Robots)),(5,.val (.om kI veI m.shelf)),(6,.val (.om kI veB m.robot)),(7,.val (.om kI veB s43.1)),(8,.val (.om kS veI m.names)),(9,.val (.om kI veB m.oneways)),(10,.val (.os 1 eI m.shelves)),(11,.val (.os 1 eI m.zones)),(12,.box (Q7 z))]) g (fun s43 Y44 g=>?_)) (Wk.a (idR 13))
 refine C.ss (U.pd 1 T (C.xs ?_))
 refine C.ite rfl g (fun b47 g=>?_) fun b47 g=>?_
 refine C.skip (C.xs (C.block (C.ss ?_)))
 obtain⟨x50,y50,g⟩:=g
 refine U.ix T y50 ?_
 refine U.pd 2 T (C.nx (U.start ?_))
 refine U.ps 5 T rfl (U.e1 rfl (.none rfl) (by exact Eff1.mu T (x:=x50) (y:=true) (.inl rfl) rfl kt3 (fun _=>rfl) rfl rfl rfl rfl rfl (.inl rfl) rfl) ?_)
 refine U.done (C.bnx (C.nx (U.start (U.pd 2 T (C.nx ?_)))))
 exact St.wk (C.next g) (Wk.a (idR 13))
 refine C.exit (C.ex (C.ex (C.bex ?_)))
 exact St.wa (idR 13) (j42 _ g)
 refine C.block ?_
 refine St.wk (C.loop (fun (s19:Int)=>[(0,.p 0 0),(3,.p 12 0),(32,.sl 1 eI z.Cells),(33,.i (z.Cells.length:Int)),(34,.i s19)]) (fun s19=>[(0,.box [.i m.site.Floor.W,.i m.site.Floor.H,.i m.site.Floor.D,.sl 1 eI m.site.Floor.Kind,.sl 1 eI m.site.Floor.Out,.o 1,.o 2,.o 3,.o 4,.o 5,.o 6,.o 7,.o 8,.o 9,.o 10,.o 11]),(1,.val (.os 5 Q7 m.site.Zones)),(2,.val (.os 2 Qb m.site.Aparts)),(3,.val (.os 2 Q8 m.site.Shelves)),(4,.val (.os 2 Qa m.site.Robots)),(5,.val (.om kI veI m.shelf)),(6,.val (.om kI veB m.robot)),(7,.val (.om kI veB m.zoned)),(8,.val (.om kS veI m.names)),(9,.val (.om kI veB m.oneways)),(10,.val (.os 1 eI m.shelves)),(11,.val (.os 1 eI m.zones)),(12,.box (Q7 z))]) g (fun s19 Y20 g=>?_)) (Wk.a (idR 13))
 refine C.ss (U.pd 1 T (C.xs ?_))
 refine C.ite rfl g (fun b23 g=>?_) fun b23 g=>?_
 refine C.skip (C.xs (C.block (C.ss ?_)))
 obtain⟨x26,y26,g⟩:=g
 refine U.ix T y26 ?_
 refine U.pd 2 T (C.xt ?_)
 refine U.ps 2 T rfl (U.k (KU m x26 _ g) Q6I (fun x29 g=>?_))
 refine U.pd 5 T (C.xs ?_)
 refine C.jn (fun (x30:Bool)=>[(0,.p 0 0),(3,.p 12 0),(32,.sl 1 eI z.Cells),(33,.i (z.Cells.length:Int)),(34,.i s19),(54,.b x30)]) (fun x30=>[(0,.box [.i m.site.Floor.W,.i m.site.Floor.H,.i m.site.Floor.D,.sl 1 eI m.site.Floor.Kind,.sl 1 eI m.site.Floor.Out,.o 1,.o 2,.o 3,.o 4,.o 5,.o 6,.o 7,.o 8,.o 9,.o 10,.o 11]),(1,.val (.os 5 Q7 m.site.Zones)),(2,.val (.os 2 Qb m.site.Aparts)),(3,.val (.os 2 Q8 m.site.Shelves)),(4,.val (.os 2 Qa m.site.Robots)),(5,.val (.om kI veI m.shelf)),(6,.val (.om kI veB m.robot)),(7,.val (.om kI veB m.zoned)),(8,.val (.om kS veI m.names)),(9,.val (.om kI veB m.oneways)),(10,.val (.os 1 eI m.shelves)),(11,.val (.os 1 eI m.zones)),(12,.box (Q7 z))]) 13 g (fun x30 g=>?_) fun J31 g j31=>?_
 refine C.nx ?_
 refine C.ite rfl g (fun b34 g=>?_) fun b34 g=>?_
 refine C.ss (U.pd 1 T (C.nx (C.ret (C.brt (C.rt (C.rt (C.brt (C.rt ?_))))))))
 exact C.g1 [some 0,some 1,some 2,some 3,some 4,some 5,some 6,some 7,some 8,some 9,some 10,some 11,some 1,some 2,some 3,some 4,some 5,some 6,some 7,some 8,some 9,some 10,some 11] T o ⟨(13,m),g,rfl,rfl,rfl⟩
 refine C.skip (C.bnx (C.nx (U.start (U.pd 2 T (C.nx ?_)))))
 exact St.wk (C.next g) (Wk.a (idR 13))
 refine U.start (U.ps 1 T rfl (U.k (Q1Y x29.1 _ g) Q9S (fun x32 g=>?_)))
 refine U.ps 2 T rfl ?_
 refine g.cs (fun b33 g=>?_) fun b33 g=>?_
 refine U.pq 5 3 false 47 (ntF b33) T ?_
 refine U.r rfl (.tk 3 false 47 (ntF b33)) rfl rfl (by exact Rd.lk T (ke:=kI) (ve:=veB) (xs:=m.zoned) (z0:=false) (x:=x26) rfl rfl kt3 zt4 (fun _=>rfl) rfl (.o rfl) rfl rfl rfl) ?_
 refine U.pk' (ntF b33) ?_
 refine U.done ?_
 exact St.wa (idR 13) (j31 _ g)
 refine U.sk' 6 3 false 47 (ntT b33) ?_
 refine U.pk (ntT b33) ?_
 refine U.done ?_
 exact St.wa (idR 13) (j31 _ g)
 refine C.exit (C.ex (C.ex (C.bex ?_)))
 exact St.wa (idR 13) (j18 _ g)
theorem Gg (s_1:List Q9) (v:Q9) (post:Int→Prop) (g:QU s_1 v post):
  Tr Tryz.prog 210 [.sl 2 Qb s_1,.agg [.v (.string v.A),.v (.string v.B)]] [] 0 (pI post):=by
 refine Tr.go Tryz.func210 Tryz.ntmps210 fun _ _ _ _ o=>?_
 unfold QU at g
 refine C.ss (U.bx ?_)
 refine U.pd 1 T (C.xs (C.ss ?_))
 refine U.pd 3 T (C.nx ?_)
 refine C.jn (fun (x5:Unit)=>[]) (fun x5=>[]) 0 g (fun x5 g=>?_) fun J6 g j6=>?_
 refine C.xt (U.pd 1 T (C.nx (C.ret ?_)))
 exact C.f1 T o (pIi g)
 refine C.block (St.wk (C.loop (fun (s7:Int)=>[(0,.sl 2 Qb s_1),(3,.p 0 0),(7,.i (s_1.length:Int)),(8,.i s7)]) (fun s7=>[(0,.box [.v (.string v.A),.v (.string v.B)])]) g (fun s7 Y8 g=>?_)) (Wk.a [some 0]))
 refine C.ss (U.pd 1 T (C.xs ?_))
 refine C.ite rfl g (fun b11 g=>?_) fun b11 g=>?_
 refine C.skip (C.xs (C.block (C.ss (U.pd 2 T (C.xs ?_)))))
 refine D.bq mix 9999 [0] [] (fun hQ hS ws M'=>?_)
 refine D.pq 3 (zl [0,1,2]) T ?_
 obtain⟨x16,y16,g⟩:=g
 refine D.ix 3 [] T y16 ?_
 refine D.pq 1 [(4,[])] T ?_
 refine D.q 5 [] hQ hS rfl (.none rfl) rfl rfl (by exact Rd.eqs T rfl rfl Q7q rfl rfl rfl) rfl (by kernel_rfl) ?_
 refine D.done (by kernel_rfl) ?_
 refine C.nx ?_
 refine C.ite rfl g (fun b17 g=>?_) fun b17 g=>?_
 refine C.ss (U.pd 2 T (C.nx (C.ret (C.brt (C.rt (C.rt (C.brt (C.rt ?_))))))))
 exact C.f1 T o (pIi g)
 refine C.skip (C.bnx (C.nx (U.start (U.pd 2 T (C.nx ?_)))))
 exact St.wk (C.next g) (Wk.a [some 0])
 refine C.exit (C.ex (C.ex (C.bex ?_)))
 exact St.wk (j6 _ g) (Wk.mk' [] rfl rfl trivial trivial rfl)
theorem Kr (s_1:List Q9) (v:Q9) (post:Bool→Prop) (g:Qw s_1 v post):
  Tr Tryz.prog 192 [.sl 2 Qb s_1,.agg [.v (.string v.A),.v (.string v.B)]] [] 0 (pB post):=by
 refine Tr.go Tryz.func192 Tryz.ntmps192 fun _ _ _ _ o=>?_
 unfold Qw at g
 refine C.ss (U.bx ?_)
 refine U.pd 1 T (C.xt ?_)
 refine U.ps 2 T rfl (U.k (Gg s_1 v _ g) Qa1 (fun x5 g=>?_))
 refine U.pd 2 T (C.nx (C.ret ?_))
 exact C.f1 T o (pBi g)
theorem Zm (l:List Q9) (a:ByteArray) (b:ByteArray) (post:Bool→Prop) (g:Xv l a b post):
  Tr Tryz.prog 138 [.sl 2 Qb l,.v (.string a),.v (.string b)] [] 0 (pB post):=by
 refine Tr.go Tryz.func138 Tryz.ntmps138 fun _ _ _ _ o=>?_
 unfold Xv at g
 refine C.ss (U.pd 1 T (C.xs (C.seq ?_)))
 refine C.jn (fun (x3:Bool)=>[(0,.sl 2 Qb l),(1,.v (.string a)),(2,.v (.string b)),(12,.b x3)]) (fun x3=>[]) 0 g (fun x3 g=>?_) fun J4 g j4=>?_
 refine C.nx ?_
 refine C.ite rfl g (fun b6 g=>?_) fun b6 g=>?_
 refine C.ss (U.pd 1 T (C.nx (C.ret (C.rt ?_))))
 exact C.f1 T o (pBi g)
 refine C.skip (C.xs ?_)
 refine C.jn (fun (x9:Bool)=>[(6,.b x9)]) (fun x9=>[]) 0 g (fun x9 g=>?_) fun J10 g j10=>?_
 refine C.nx (C.ret ?_)
 exact C.f1 T o (pBi g)
 refine U.start (U.ps 4 T rfl (U.k (Kr l ({A:=a,B:=b:Q9}) _ g) Q9i (fun x11 g=>?_)))
 refine U.ps 1 T rfl ?_
 refine g.cs (fun b12 g=>?_) fun b12 g=>?_
 refine U.sk' 5 5 false 18 b12 ?_
 refine U.pk b12 ?_
 refine U.pd 1 T ?_
 exact St.wn (j10 _ g)
 refine U.pq 4 5 false 18 b12 T ?_
 refine U.k (Kr l ({A:=b,B:=a:Q9}) _ g) Q9i (fun x13 g=>?_) (hw:=.take 5 false 18 _ b12 rfl rfl rfl)
 refine U.pk' b12 ?_
 refine U.pd 1 T ?_
 exact St.wn (j10 _ g)
 refine U.start (U.ps 3 T rfl ?_)
 refine g.cs (fun b5 g=>?_) fun b5 g=>?_
 refine U.sk' 2 2 false 9 b5 ?_
 refine U.pk b5 ?_
 refine U.done ?_
 exact St.wn (j4 _ g)
 refine U.pq 2 2 false 9 b5 T ?_
 refine U.pk' b5 ?_
 refine U.done ?_
 exact St.wn (j4 _ g)
theorem WH (x_1:Q9) (m:SurveyMaker) (post:(Int×SurveyMaker)→Prop) (g:K1 x_1 m post):
  Tr Tryz.prog 81 [.p 0 0,.agg [.v (.string x_1.A),.v (.string x_1.B)]] [(0,.box [.i m.site.Floor.W,.i m.site.Floor.H,.i m.site.Floor.D,.sl 1 eI m.site.Floor.Kind,.sl 1 eI m.site.Floor.Out,.o 1,.o 2,.o 3,.o 4,.o 5,.o 6,.o 7,.o 8,.o 9,.o 10,.o 11]),(1,.val (.os 5 Q7 m.site.Zones)),(2,.val (.os 2 Qb m.site.Aparts)),(3,.val (.os 2 Q8 m.site.Shelves)),(4,.val (.os 2 Qa m.site.Robots)),(5,.val (.om kI veI m.shelf)),(6,.val (.om kI veB m.robot)),(7,.val (.om kI veB m.zoned)),(8,.val (.om kS veI m.names)),(9,.val (.om kI veB m.oneways)),(10,.val (.os 1 eI m.shelves)),(11,.val (.os 1 eI m.zones))] 12 (fun A H' k=>∃y,post y∧A=(.i y.1)∧H'=[(0,.box [.i y.2.site.Floor.W,.i y.2.site.Floor.H,.i y.2.site.Floor.D,.sl 1 eI y.2.site.Floor.Kind,.sl 1 eI y.2.site.Floor.Out,.o 12,.o 13,.o 14,.o 15,.o 16,.o 17,.o 18,.o 19,.o 20,.o 21,.o 22]),(12,.val (.os 5 Q7 y.2.site.Zones)),(13,.val (.os 2 Qb y.2.site.Aparts)),(14,.val (.os 2 Q8 y.2.site.Shelves)),(15,.val (.os 2 Qa y.2.site.Robots)),(16,.val (.om kI veI y.2.shelf)),(17,.val (.om kI veB y.2.robot)),(18,.val (.om kI veB y.2.zoned)),(19,.val (.om kS veI y.2.names)),(20,.val (.om kI veB y.2.oneways)),(21,.val (.os 1 eI y.2.shelves)),(22,.val (.os 1 eI y.2.zones))]∧k=23):=by
 refine Tr.go Tryz.func81 Tryz.ntmps81 fun _ _ _ _ o=>?_
 unfold K1 at g
 refine C.ss (U.bx ?_)
 refine U.pd 1 T (C.xs (C.seq ?_))
 refine C.jn (fun (x3:Bool)=>[(0,.p 0 0),(3,.p 12 0),(14,.b x3)]) (fun x3=>[(0,.box [.i m.site.Floor.W,.i m.site.Floor.H,.i m.site.Floor.D,.sl 1 eI m.site.Floor.Kind,.sl 1 eI m.site.Floor.Out,.o 1,.o 2,.o 3,.o 4,.o 5,.o 6,.o 7,.o 8,.o 9,.o 10,.o 11]),(1,.val (.os 5 Q7 m.site.Zones)),(2,.val (.os 2 Qb m.site.Aparts)),(3,.val (.os 2 Q8 m.site.Shelves)),(4,.val (.os 2 Qa m.site.Robots)),(5,.val (.om kI veI m.shelf)),(6,.val (.om kI veB m.robot)),(7,.val (.om kI veB m.zoned)),(8,.val (.om kS veI m.names)),(9,.val (.om kI veB m.oneways)),(10,.val (.os 1 eI m.shelves)),(11,.val (.os 1 eI m.zones)),(12,.box [.v (.string x_1.A),.v (.string x_1.B)])]) 13 g (fun x3 g=>?_) fun J4 g j4=>?_
 refine C.nx ?_
 refine C.ite rfl g (fun b8 g=>?_) fun b8 g=>?_
 refine C.ss (U.pd 1 T (C.nx (C.ret (C.rt ?_))))
 exact C.g1 [some 0,some 1,some 2,some 3,some 4,some 5,some 6,some 7,some 8,some 9,some 10,some 11,some 1,some 2,some 3,some 4,some 5,some 6,some 7,some 8,some 9,some 10,some 11] T o ⟨(12,m),g,rfl,rfl,rfl⟩
 refine C.skip (C.xs (C.seq (D.bq mix 9 [0,12] [] (fun hQ hS ws M'=>?_))))
 refine D.pq 9 [(0,[4,3,2,1]),(1,[4,3,2]),(2,[4,3]),(3,[4]),(4,[]),(5,[6]),(6,[]),(7,[8]),(8,[])] T ?_
 refine D.ze rfl (.none rfl) (by exact Eff.k (Zm m.site.Aparts x_1.A x_1.B _ g) Q9f rfl rfl rfl (.cons (.fz rfl rfl rfl (.os fun _=>.cons (.ro rfl) (.cons (.ro rfl) .nil))) (.eq rfl)) (fun _ _=>⟨(.v _),trivial⟩)) (by kernel_rfl) (by kernel_rfl) (fun x13' g=>?_)
 obtain⟨x13⟩:=x13'
 refine C.nx ?_
 refine C.ite rfl g (fun b14 g=>?_) fun b14 g=>?_
 refine C.ss (U.pd 1 T (C.nx (C.ret (C.rt ?_))))
 exact C.g1 [some 0,some 1,some 2,some 3,some 4,some 5,some 6,some 7,some 8,some 9,some 10,some 11,some 1,some 2,some 3,some 4,some 5,some 6,some 7,some 8,some 9,some 10,some 11] T o ⟨(5,m),g,rfl,rfl,rfl⟩
 refine C.skip (C.xs (D.bq mix 12 [0,12] [2] (fun hQ hS ws M'=>?_)))
 refine D.pq 7 (zl [0,1,2,3,4,5,6]) T ?_
 refine D.e1 7 rfl (.none rfl) (by exact Eff1.bs T (enc:=Qb) (xs:=([x_1]:List Q9)) rfl rfl rfl rfl rfl rfl rfl rfl rfl rfl (fun _ _=>rfl) rfl rfl) (by kernel_rfl) rfl rfl ?_
 obtain⟨y19,g⟩:=g
 refine D.e1 8 rfl (.none rfl) (by exact Eff1.ap T rfl rfl rfl rfl rfl rfl (.inr ⟨_,rfl,rfl⟩) rfl rfl rfl (fun _=>rfl) rfl y19) (by kernel_rfl) rfl rfl ?_
 refine D.pq 3 [(9,[11,10]),(10,[11]),(11,[])] T ?_
 refine D.ze1 rfl (.none rfl) (by exact Eff1.st T rfl rfl rfl rfl rfl rfl rfl rfl rfl rfl) (by kernel_rfl) (by kernel_rfl) ?_
 refine C.xt (U.pd 1 T (C.nx (C.ret ?_)))
 exact C.g1 [some 0,some 1,some 2,some 3,some 4,some 5,some 6,some 7,some 8,some 9,some 10,some 11,some 1,some 14,some 3,some 4,some 5,some 6,some 7,some 8,some 9,some 10,some 11] T o ⟨(0,({site:=({Floor:=m.site.Floor,Zones:=m.site.Zones,Aparts:=(m.site.Aparts++([x_1]:List Q9)),Shelves:=m.site.Shelves,Robots:=m.site.Robots:ApiSite}),shelf:=m.shelf,robot:=m.robot,zoned:=m.zoned,names:=m.names,oneways:=m.oneways,shelves:=m.shelves,zones:=m.zones:SurveyMaker})),g,rfl,rfl,rfl⟩
 refine U.start (U.ps 2 T rfl (U.k (Wl x_1.A _ g) en76 (fun x5 g=>?_)))
 refine U.ps 2 T rfl ?_
 refine g.cs (fun b6 g=>?_) fun b6 g=>?_
 refine U.pq 2 4 false 9 (ntF b6) T ?_
 refine U.k (Wl x_1.B _ g) en76 (fun x7 g=>?_) (hw:=.take 4 false 9 _ (ntF b6) rfl rfl rfl)
 refine U.pq 1 4 false 9 (ntF b6) T ?_
 refine U.pk' (ntF b6) ?_
 refine U.done ?_
 exact St.wa (idR 13) (j4 _ g)
 refine U.sk' 4 4 false 9 (ntT b6) ?_
 refine U.pk (ntT b6) ?_
 refine U.done ?_
 exact St.wa (idR 13) (j4 _ g)
theorem YS (kind:Int) (post:Bool→Prop) (g:Xf kind post):
  Tr Tryz.prog 139 [.i kind] [] 0 (pB post):=by
 refine Tr.go Tryz.func139 Tryz.ntmps139 fun _ _ _ _ o=>?_
 unfold Xf at g
 refine C.ss (U.pd 1 T (C.xs ?_))
 refine C.jn (fun (x3:Bool)=>[(2,.b x3)]) (fun x3=>[]) 0 g (fun x3 g=>?_) fun J4 g j4=>?_
 refine C.nx (C.ret ?_)
 exact C.f1 T o (pBi g)
 refine U.start (U.ps 3 T rfl ?_)
 refine g.cs (fun b5 g=>?_) fun b5 g=>?_
 refine U.sk' 2 2 false 5 b5 ?_
 refine U.pk b5 ?_
 refine U.pd 1 T ?_
 exact St.wn (j4 _ g)
 refine U.pq 2 2 false 5 b5 T ?_
 refine U.pk' b5 ?_
 refine U.pd 1 T ?_
 exact St.wn (j4 _ g)
theorem WB (x_1:Qm) (m:SurveyMaker) (post:(Int×SurveyMaker)→Prop) (g:K2 x_1 m post):
  Tr Tryz.prog 82 [.p 0 0,.agg [.i x_1.Cell,.v (.string x_1.Class)]] [(0,.box [.i m.site.Floor.W,.i m.site.Floor.H,.i m.site.Floor.D,.sl 1 eI m.site.Floor.Kind,.sl 1 eI m.site.Floor.Out,.o 1,.o 2,.o 3,.o 4,.o 5,.o 6,.o 7,.o 8,.o 9,.o 10,.o 11]),(1,.val (.os 5 Q7 m.site.Zones)),(2,.val (.os 2 Qb m.site.Aparts)),(3,.val (.os 2 Q8 m.site.Shelves)),(4,.val (.os 2 Qa m.site.Robots)),(5,.val (.om kI veI m.shelf)),(6,.val (.om kI veB m.robot)),(7,.val (.om kI veB m.zoned)),(8,.val (.om kS veI m.names)),(9,.val (.om kI veB m.oneways)),(10,.val (.os 1 eI m.shelves)),(11,.val (.os 1 eI m.zones))] 12 (fun A H' k=>∃y,post y∧A=(.i y.1)∧H'=[(0,.box [.i y.2.site.Floor.W,.i y.2.site.Floor.H,.i y.2.site.Floor.D,.sl 1 eI y.2.site.Floor.Kind,.sl 1 eI y.2.site.Floor.Out,.o 12,.o 13,.o 14,.o 15,.o 16,.o 17,.o 18,.o 19,.o 20,.o 21,.o 22]),(12,.val (.os 5 Q7 y.2.site.Zones)),(13,.val (.os 2 Qb y.2.site.Aparts)),(14,.val (.os 2 Q8 y.2.site.Shelves)),(15,.val (.os 2 Qa y.2.site.Robots)),(16,.val (.om kI veI y.2.shelf)),(17,.val (.om kI veB y.2.robot)),(18,.val (.om kI veB y.2.zoned)),(19,.val (.om kS veI y.2.names)),(20,.val (.om kI veB y.2.oneways)),(21,.val (.os 1 eI y.2.shelves)),(22,.val (.os 1 eI y.2.zones))]∧k=23):=by
 refine Tr.go Tryz.func82 Tryz.ntmps82 fun _ _ _ _ o=>?_
 unfold K2 at g
 refine C.ss (U.bx ?_)
 refine U.pd 1 T (C.xs (C.seq ?_))
 refine C.jn (fun (x3:Bool)=>[(0,.p 0 0),(3,.p 12 0),(17,.b x3)]) (fun x3=>[(0,.box [.i m.site.Floor.W,.i m.site.Floor.H,.i m.site.Floor.D,.sl 1 eI m.site.Floor.Kind,.sl 1 eI m.site.Floor.Out,.o 1,.o 2,.o 3,.o 4,.o 5,.o 6,.o 7,.o 8,.o 9,.o 10,.o 11]),(1,.val (.os 5 Q7 m.site.Zones)),(2,.val (.os 2 Qb m.site.Aparts)),(3,.val (.os 2 Q8 m.site.Shelves)),(4,.val (.os 2 Qa m.site.Robots)),(5,.val (.om kI veI m.shelf)),(6,.val (.om kI veB m.robot)),(7,.val (.om kI veB m.zoned)),(8,.val (.om kS veI m.names)),(9,.val (.om kI veB m.oneways)),(10,.val (.os 1 eI m.shelves)),(11,.val (.os 1 eI m.zones)),(12,.box [.i x_1.Cell,.v (.string x_1.Class)])]) 13 g (fun x3 g=>?_) fun J4 g j4=>?_
 refine C.nx ?_
 refine C.ite rfl g (fun b7 g=>?_) fun b7 g=>?_
 refine C.ss (U.pd 1 T (C.nx (C.ret (C.rt ?_))))
 exact C.g1 [some 0,some 1,some 2,some 3,some 4,some 5,some 6,some 7,some 8,some 9,some 10,some 11,some 1,some 2,some 3,some 4,some 5,some 6,some 7,some 8,some 9,some 10,some 11] T o ⟨(12,m),g,rfl,rfl,rfl⟩
 refine C.skip (C.xt (U.ps 3 T rfl (U.k (KU m x_1.Cell _ g) Q6I (fun x12 g=>?_))))
 refine U.pd 5 T (C.xs (C.ss ?_))
 refine U.pd 2 T (C.nx ?_)
 refine C.ite rfl g (fun b15 g=>?_) fun b15 g=>?_
 refine C.ss (U.pd 1 T (C.nx (C.ret (C.rt ?_))))
 exact C.g1 [some 0,some 1,some 2,some 3,some 4,some 5,some 6,some 7,some 8,some 9,some 10,some 11,some 1,some 2,some 3,some 4,some 5,some 6,some 7,some 8,some 9,some 10,some 11] T o ⟨(3,m),g,rfl,rfl,rfl⟩
 refine C.skip (C.xs (C.ss (U.ps 1 T rfl (U.k (YS x12.1 _ g) Q8U (fun x20 g=>?_)))))
 refine U.pd 1 T (C.nx ?_)
 refine C.ite rfl g (fun b21 g=>?_) fun b21 g=>?_
 refine C.ss (U.pd 1 T (C.nx (C.ret (C.rt ?_))))
 exact C.g1 [some 0,some 1,some 2,some 3,some 4,some 5,some 6,some 7,some 8,some 9,some 10,some 11,some 1,some 2,some 3,some 4,some 5,some 6,some 7,some 8,some 9,some 10,some 11] T o ⟨(13,m),g,rfl,rfl,rfl⟩
 refine C.skip (C.xs (C.seq (D.bq mix 9999 [0,5,12] [] (fun hQ hS ws M'=>?_))))
 refine D.pq 6 (zl [0,1,2,3,4,5]) T ?_
 refine D.q 6 [] hQ hS rfl (.none rfl) rfl rfl (by exact Rd.lk2 T (ke:=kI) (ve:=veI) (xs:=m.shelf) (z0:=0) (x:=x_1.Cell) rfl rfl kt3 zt3 (fun _=>rfl) rfl (.o rfl) rfl rfl rfl) rfl (by kernel_rfl) ?_
 refine D.pq 5 (zl [7,8,9,10,11]) T ?_
 refine D.done (by kernel_rfl) ?_
 refine C.xt (U.pd 1 T (C.nx ?_))
 refine C.ite rfl g (fun b28 g=>?_) fun b28 g=>?_
 refine C.ss (U.pd 1 T (C.nx (C.ret (C.rt ?_))))
 exact C.g1 [some 0,some 1,some 2,some 3,some 4,some 5,some 6,some 7,some 8,some 9,some 10,some 11,some 1,some 2,some 3,some 4,some 5,some 6,some 7,some 8,some 9,some 10,some 11] T o ⟨(5,m),g,rfl,rfl,rfl⟩
 refine C.skip (C.xs (C.ss (U.pd 7 T (C.nx ?_))))
 refine C.ite rfl g (fun b33 g=>?_) fun b33 g=>?_
 refine C.ss (U.pd 1 T (C.nx (C.ret (C.rt ?_))))
 exact C.g1 [some 0,some 1,some 2,some 3,some 4,some 5,some 6,some 7,some 8,some 9,some 10,some 11,some 1,some 2,some 3,some 4,some 5,some 6,some 7,some 8,some 9,some 10,some 11] T o ⟨(6,m),g,rfl,rfl,rfl⟩
 refine C.skip (C.xs (D.bq mix 12 [0,12] [] (fun hQ hS ws M'=>?_)))
 refine D.pq 12 (zl [0,1,2,3,4,5,6,7,8,9,10,11]) T ?_
 refine D.ze1 rfl (.none rfl) (by exact Eff1.mu T (x:=x_1.Cell) (y:=(m.site.Shelves.length:Int)) (.inl rfl) rfl kt3 (fun _=>rfl) rfl rfl rfl rfl rfl (.inl rfl) rfl) (by kernel_rfl) (by kernel_rfl) ?_
 refine C.xs (D.bq mix 12 [0,12] [3] (fun hQ hS ws M'=>?_))
 refine D.pq 7 (zl [0,1,2,3,4,5,6]) T ?_
 refine D.e1 7 rfl (.none rfl) (by exact Eff1.bs T (enc:=Q8) (xs:=([x_1]:List Qm)) rfl rfl rfl rfl rfl rfl rfl rfl rfl rfl (fun _ _=>rfl) rfl rfl) (by kernel_rfl) rfl rfl ?_
 obtain⟨y40,g⟩:=g
 refine D.e1 8 rfl (.none rfl) (by exact Eff1.ap T rfl rfl rfl rfl rfl rfl (.inr ⟨_,rfl,rfl⟩) rfl rfl rfl (fun _=>rfl) rfl y40) (by kernel_rfl) rfl rfl ?_
 refine D.pq 3 [(9,[11,10]),(10,[11]),(11,[])] T ?_
 refine D.ze1 rfl (.none rfl) (by exact Eff1.st T rfl rfl rfl rfl rfl rfl rfl rfl rfl rfl) (by kernel_rfl) (by kernel_rfl) ?_
 refine C.xt (U.pd 1 T (C.nx (C.ret ?_)))
 exact C.g1 [some 0,some 1,some 2,some 3,some 4,some 5,some 6,some 7,some 8,some 9,some 10,some 11,some 1,some 2,some 14,some 4,some 5,some 6,some 7,some 8,some 9,some 10,some 11] T o ⟨(0,({site:=({Floor:=m.site.Floor,Zones:=m.site.Zones,Aparts:=m.site.Aparts,Shelves:=(m.site.Shelves++([x_1]:List Qm)),Robots:=m.site.Robots:ApiSite}),shelf:=(upd m.shelf x_1.Cell (m.site.Shelves.length:Int)),robot:=m.robot,zoned:=m.zoned,names:=m.names,oneways:=m.oneways,shelves:=m.shelves,zones:=m.zones:SurveyMaker})),g,rfl,rfl,rfl⟩
 refine U.start (U.ps 4 T rfl ?_)
 refine g.cs (fun b5 g=>?_) fun b5 g=>?_
 refine U.sk' 4 3 true 12 (ntF b5) ?_
 refine U.pk' (ntF b5) ?_
 refine U.done ?_
 exact St.wa (idR 13) (j4 _ g)
 refine U.pq 2 3 true 12 (ntT b5) T ?_
 refine U.k (Wl x_1.Class _ g) en76 (fun x6 g=>?_) (hw:=.take 3 true 12 _ (ntT b5) rfl rfl rfl)
 refine U.pq 1 3 true 12 (ntT b5) T ?_
 refine U.pk (ntT b5) ?_
 refine U.done ?_
 exact St.wa (idR 13) (j4 _ g)
theorem WI (x_1:Ql) (m:SurveyMaker) (post:(Int×SurveyMaker)→Prop) (g:K0 x_1 m post):
  Tr Tryz.prog 83 [.p 0 0,.agg [.i x_1.Cell,.i x_1.Charge]] [(0,.box [.i m.site.Floor.W,.i m.site.Floor.H,.i m.site.Floor.D,.sl 1 eI m.site.Floor.Kind,.sl 1 eI m.site.Floor.Out,.o 1,.o 2,.o 3,.o 4,.o 5,.o 6,.o 7,.o 8,.o 9,.o 10,.o 11]),(1,.val (.os 5 Q7 m.site.Zones)),(2,.val (.os 2 Qb m.site.Aparts)),(3,.val (.os 2 Q8 m.site.Shelves)),(4,.val (.os 2 Qa m.site.Robots)),(5,.val (.om kI veI m.shelf)),(6,.val (.om kI veB m.robot)),(7,.val (.om kI veB m.zoned)),(8,.val (.om kS veI m.names)),(9,.val (.om kI veB m.oneways)),(10,.val (.os 1 eI m.shelves)),(11,.val (.os 1 eI m.zones))] 12 (fun A H' k=>∃y,post y∧A=(.i y.1)∧H'=[(0,.box [.i y.2.site.Floor.W,.i y.2.site.Floor.H,.i y.2.site.Floor.D,.sl 1 eI y.2.site.Floor.Kind,.sl 1 eI y.2.site.Floor.Out,.o 12,.o 13,.o 14,.o 15,.o 16,.o 17,.o 18,.o 19,.o 20,.o 21,.o 22]),(12,.val (.os 5 Q7 y.2.site.Zones)),(13,.val (.os 2 Qb y.2.site.Aparts)),(14,.val (.os 2 Q8 y.2.site.Shelves)),(15,.val (.os 2 Qa y.2.site.Robots)),(16,.val (.om kI veI y.2.shelf)),(17,.val (.om kI veB y.2.robot)),(18,.val (.om kI veB y.2.zoned)),(19,.val (.om kS veI y.2.names)),(20,.val (.om kI veB y.2.oneways)),(21,.val (.os 1 eI y.2.shelves)),(22,.val (.os 1 eI y.2.zones))]∧k=23):=by
 refine Tr.go Tryz.func83 Tryz.ntmps83 fun _ _ _ _ o=>?_
 unfold K0 at g
 refine C.ss (U.bx ?_)
 refine U.pd 1 T (C.xt ?_)
 refine U.ps 3 T rfl (U.k (KU m x_1.Cell _ g) Q6I (fun x5 g=>?_))
 refine U.pd 5 T (C.xs (C.seq ?_))
 refine C.jn (fun (x6:Bool)=>[(0,.p 0 0),(3,.p 12 0),(5,.i x5.1),(21,.b x6)]) (fun x6=>[(0,.box [.i m.site.Floor.W,.i m.site.Floor.H,.i m.site.Floor.D,.sl 1 eI m.site.Floor.Kind,.sl 1 eI m.site.Floor.Out,.o 1,.o 2,.o 3,.o 4,.o 5,.o 6,.o 7,.o 8,.o 9,.o 10,.o 11]),(1,.val (.os 5 Q7 m.site.Zones)),(2,.val (.os 2 Qb m.site.Aparts)),(3,.val (.os 2 Q8 m.site.Shelves)),(4,.val (.os 2 Qa m.site.Robots)),(5,.val (.om kI veI m.shelf)),(6,.val (.om kI veB m.robot)),(7,.val (.om kI veB m.zoned)),(8,.val (.om kS veI m.names)),(9,.val (.om kI veB m.oneways)),(10,.val (.os 1 eI m.shelves)),(11,.val (.os 1 eI m.zones)),(12,.box [.i x_1.Cell,.i x_1.Charge])]) 13 g (fun x6 g=>?_) fun J7 g j7=>?_
 refine C.nx ?_
 refine C.ite rfl g (fun b10 g=>?_) fun b10 g=>?_
 refine C.ss (U.pd 1 T (C.nx (C.ret (C.rt ?_))))
 exact C.g1 [some 0,some 1,some 2,some 3,some 4,some 5,some 6,some 7,some 8,some 9,some 10,some 11,some 1,some 2,some 3,some 4,some 5,some 6,some 7,some 8,some 9,some 10,some 11] T o ⟨(3,m),g,rfl,rfl,rfl⟩
 refine C.skip (C.xs (C.ss (U.pd 2 T (C.nx ?_))))
 refine C.ite rfl g (fun b15 g=>?_) fun b15 g=>?_
 refine C.ss (U.pd 1 T (C.nx (C.ret (C.rt ?_))))
 exact C.g1 [some 0,some 1,some 2,some 3,some 4,some 5,some 6,some 7,some 8,some 9,some 10,some 11,some 1,some 2,some 3,some 4,some 5,some 6,some 7,some 8,some 9,some 10,some 11] T o ⟨(13,m),g,rfl,rfl,rfl⟩
 refine C.skip (C.xs (C.seq (D.bq mix 9999 [0,6,12] [] (fun hQ hS ws M'=>?_))))
 refine D.pq 6 (zl [0,1,2,3,4,5]) T ?_
 refine D.q 6 [] hQ hS rfl (.none rfl) rfl rfl (by exact Rd.lk T (ke:=kI) (ve:=veB) (xs:=m.robot) (z0:=false) (x:=x_1.Cell) rfl rfl kt3 zt4 (fun _=>rfl) rfl (.o rfl) rfl rfl rfl) rfl (by kernel_rfl) ?_
 refine D.done (by kernel_rfl) ?_
 refine C.nx ?_
 refine C.ite rfl g (fun b20 g=>?_) fun b20 g=>?_
 refine C.ss (U.pd 1 T (C.nx (C.ret (C.rt ?_))))
 exact C.g1 [some 0,some 1,some 2,some 3,some 4,some 5,some 6,some 7,some 8,some 9,some 10,some 11,some 1,some 2,some 3,some 4,some 5,some 6,some 7,some 8,some 9,some 10,some 11] T o ⟨(5,m),g,rfl,rfl,rfl⟩
 refine C.skip (C.xs (C.ss (U.pd 7 T (C.nx ?_))))
 refine C.ite rfl g (fun b25 g=>?_) fun b25 g=>?_
 refine C.ss (U.pd 1 T (C.nx (C.ret (C.rt ?_))))
 exact C.g1 [some 0,some 1,some 2,some 3,some 4,some 5,some 6,some 7,some 8,some 9,some 10,some 11,some 1,some 2,some 3,some 4,some 5,some 6,some 7,some 8,some 9,some 10,some 11] T o ⟨(6,m),g,rfl,rfl,rfl⟩
 refine C.skip (C.xs (D.bq mix 6 [0,12] [] (fun hQ hS ws M'=>?_)))
 refine D.pq 6 (zl [0,1,2,3,4,5]) T ?_
 refine D.ze1 rfl (.none rfl) (by exact Eff1.mu T (x:=x_1.Cell) (y:=true) (.inl rfl) rfl kt3 (fun _=>rfl) rfl rfl rfl rfl rfl (.inl rfl) rfl) (by kernel_rfl) (by kernel_rfl) ?_
 refine C.xs (D.bq mix 12 [0,12] [4] (fun hQ hS ws M'=>?_))
 refine D.pq 7 (zl [0,1,2,3,4,5,6]) T ?_
 refine D.e1 7 rfl (.none rfl) (by exact Eff1.bs T (enc:=Qa) (xs:=([x_1]:List Ql)) rfl rfl rfl rfl rfl rfl rfl rfl rfl rfl (fun _ _=>rfl) rfl rfl) (by kernel_rfl) rfl rfl ?_
 obtain⟨y32,g⟩:=g
 refine D.e1 8 rfl (.none rfl) (by exact Eff1.ap T rfl rfl rfl rfl rfl rfl (.inr ⟨_,rfl,rfl⟩) rfl rfl rfl (fun _=>rfl) rfl y32) (by kernel_rfl) rfl rfl ?_
 refine D.pq 3 [(9,[11,10]),(10,[11]),(11,[])] T ?_
 refine D.ze1 rfl (.none rfl) (by exact Eff1.st T rfl rfl rfl rfl rfl rfl rfl rfl rfl rfl) (by kernel_rfl) (by kernel_rfl) ?_
 refine C.xt (U.pd 1 T (C.nx (C.ret ?_)))
 exact C.g1 [some 0,some 1,some 2,some 3,some 4,some 5,some 6,some 7,some 8,some 9,some 10,some 11,some 1,some 2,some 3,some 14,some 5,some 6,some 7,some 8,some 9,some 10,some 11] T o ⟨(0,({site:=({Floor:=m.site.Floor,Zones:=m.site.Zones,Aparts:=m.site.Aparts,Shelves:=m.site.Shelves,Robots:=(m.site.Robots++([x_1]:List Ql)):ApiSite}),shelf:=m.shelf,robot:=(upd m.robot x_1.Cell true),zoned:=m.zoned,names:=m.names,oneways:=m.oneways,shelves:=m.shelves,zones:=m.zones:SurveyMaker})),g,rfl,rfl,rfl⟩
 refine U.start (U.ps 3 T rfl ?_)
 refine g.cs (fun b8 g=>?_) fun b8 g=>?_
 refine U.pq 2 2 false 16 (ntF b8) T ?_
 refine U.k (Z0 x_1.Charge 0 1000000 _ g) en77 (fun x9 g=>?_) (hw:=.take 2 false 16 _ (ntF b8) rfl rfl rfl)
 refine U.pq 1 2 false 16 (ntF b8) T ?_
 refine U.pk' (ntF b8) ?_
 refine U.done ?_
 exact St.wa (idR 13) (j7 _ g)
 refine U.sk' 4 2 false 16 (ntT b8) ?_
 refine U.pk (ntT b8) ?_
 refine U.done ?_
 exact St.wa (idR 13) (j7 _ g)
theorem YO (m:SurveyMaker) (post:Int→Prop) (g:Kg m post):
  Tr Tryz.prog 84 [.rp [.i m.site.Floor.W,.i m.site.Floor.H,.i m.site.Floor.D,.sl 1 eI m.site.Floor.Kind,.sl 1 eI m.site.Floor.Out,.sl 5 Q7 m.site.Zones,.sl 2 Qb m.site.Aparts,.sl 2 Q8 m.site.Shelves,.sl 2 Qa m.site.Robots,.rm kI veI m.shelf,.rm kI veB m.robot,.rm kI veB m.zoned,.rm kS veI m.names,.rm kI veB m.oneways,.sl 1 eI m.shelves,.sl 1 eI m.zones]] [] 0 (pI post):=by
 refine Tr.go Tryz.func84 Tryz.ntmps84 fun _ _ _ _ o=>?_
 unfold Kg at g
 refine C.ss (U.pd 1 T (C.xt ?_))
 refine U.ps 5 T rfl (U.al T ?_)
 refine U.st T ?_
 refine U.done (C.xs (C.ss (U.pd 7 T (C.nx ?_))))
 refine C.jn (fun (x7:Unit)=>[]) (fun x7=>[]) 0 g (fun x7 g=>?_) fun J8 g j8=>?_
 refine C.xt (U.pd 1 T (C.nx (C.ret ?_)))
 exact C.f1 T o (pIi g)
 refine C.block ?_
 refine St.wk (C.loop (fun (s9:Int)=>[(0,.rp [.i m.site.Floor.W,.i m.site.Floor.H,.i m.site.Floor.D,.sl 1 eI m.site.Floor.Kind,.sl 1 eI m.site.Floor.Out,.sl 5 Q7 m.site.Zones,.sl 2 Qb m.site.Aparts,.sl 2 Q8 m.site.Shelves,.sl 2 Qa m.site.Robots,.rm kI veI m.shelf,.rm kI veB m.robot,.rm kI veB m.zoned,.rm kS veI m.names,.rm kI veB m.oneways,.sl 1 eI m.shelves,.sl 1 eI m.zones]),(3,.p 0 0),(22,.sl 2 Q8 m.site.Shelves),(23,.i (m.site.Shelves.length:Int)),(24,.i s9)]) (fun s9=>[(0,.box (Qr m.site.Floor))]) g (fun s9 Y10 g=>?_)) (Wk.a [some 0])
 refine C.ss (U.pd 1 T (C.xs ?_))
 refine C.ite rfl g (fun b13 g=>?_) fun b13 g=>?_
 refine C.skip (C.xs ?_)
 refine C.jn (fun (x14:Unit)=>[(0,.rp [.i m.site.Floor.W,.i m.site.Floor.H,.i m.site.Floor.D,.sl 1 eI m.site.Floor.Kind,.sl 1 eI m.site.Floor.Out,.sl 5 Q7 m.site.Zones,.sl 2 Qb m.site.Aparts,.sl 2 Q8 m.site.Shelves,.sl 2 Qa m.site.Robots,.rm kI veI m.shelf,.rm kI veB m.robot,.rm kI veB m.zoned,.rm kS veI m.names,.rm kI veB m.oneways,.sl 1 eI m.shelves,.sl 1 eI m.zones]),(3,.p 0 0),(22,.sl 2 Q8 m.site.Shelves),(23,.i (m.site.Shelves.length:Int)),(24,.i s9)]) (fun x14=>[(0,.box (Qr m.site.Floor))]) 1 g (fun x14 g=>?_) fun J15 g j15=>?_
 refine C.nx (U.start (U.pd 2 T (C.nx ?_)))
 exact St.wk (C.next g) (Wk.a [some 0])
 refine C.block (C.ss (U.ps 1 T rfl ?_))
 obtain⟨x18,y18,g⟩:=g
 refine U.ix T y18 ?_
 refine U.ps 1 T rfl (U.al T ?_)
 refine U.ps 1 T rfl (U.st T ?_)
 refine U.done (C.xt (U.ps 3 T rfl (U.k (Q2e m.site.Floor x18.Cell _ g) Q8u (fun x21 g=>?_))))
 refine U.pd 7 T (C.xs ?_)
 refine D.bq mix 9999 [0] [] (fun hQ hS ws M'=>?_)
 refine D.pq 21 (zl [0,1,2,3,4,6,7,8,9,10,12,13,14,15,16,18,19,20,21,22,26]) T ?_
 refine D.k 5 (W9 m.site.Floor (w64 (x21.1+1)) x21.2.1 x21.2.2 _ g) Q61 fun x24 g=>?_
 refine D.k 11 (W9 m.site.Floor x21.1 (w64 (x21.2.1+1)) x21.2.2 _ g) Q61 fun x25 g=>?_
 refine D.k 17 (W9 m.site.Floor (w64 (x21.1-1)) x21.2.1 x21.2.2 _ g) Q61 fun x26 g=>?_
 refine D.k 23 (W9 m.site.Floor x21.1 (w64 (x21.2.1-1)) x21.2.2 _ g) Q61 fun x27 g=>?_
 refine D.e1 24 rfl (.none rfl) (by exact Eff1.bs T (enc:=eI) (xs:=([x24,x25,x26,x27]:List Int)) rfl rfl rfl rfl rfl rfl rfl rfl rfl rfl (fun _ _=>rfl) rfl rfl) (by kernel_rfl) rfl rfl ?_
 refine D.pq 1 [(25,[])] T ?_
 refine D.done (by kernel_rfl) ?_
 refine C.nx ?_
 refine C.jn (fun (x28:Unit)=>[(0,.rp [.i m.site.Floor.W,.i m.site.Floor.H,.i m.site.Floor.D,.sl 1 eI m.site.Floor.Kind,.sl 1 eI m.site.Floor.Out,.sl 5 Q7 m.site.Zones,.sl 2 Qb m.site.Aparts,.sl 2 Q8 m.site.Shelves,.sl 2 Qa m.site.Robots,.rm kI veI m.shelf,.rm kI veB m.robot,.rm kI veB m.zoned,.rm kS veI m.names,.rm kI veB m.oneways,.sl 1 eI m.shelves,.sl 1 eI m.zones]),(3,.p 0 0),(22,.sl 2 Q8 m.site.Shelves),(23,.i (m.site.Shelves.length:Int)),(24,.i s9)]) (fun x28=>[(0,.box (Qr m.site.Floor))]) 1 g (fun x28 g=>?_) fun J29 g j29=>?_
 refine C.bnx ?_
 exact St.wa [some 0] (j15 _ g)
 refine C.block ?_
 refine St.wk (C.loop (fun (s30:Int)=>[(0,.rp [.i m.site.Floor.W,.i m.site.Floor.H,.i m.site.Floor.D,.sl 1 eI m.site.Floor.Kind,.sl 1 eI m.site.Floor.Out,.sl 5 Q7 m.site.Zones,.sl 2 Qb m.site.Aparts,.sl 2 Q8 m.site.Shelves,.sl 2 Qa m.site.Robots,.rm kI veI m.shelf,.rm kI veB m.robot,.rm kI veB m.zoned,.rm kS veI m.names,.rm kI veB m.oneways,.sl 1 eI m.shelves,.sl 1 eI m.zones]),(3,.p 0 0),(4,.i s9),(5,.p 1 0),(22,.sl 2 Q8 m.site.Shelves),(23,.i (m.site.Shelves.length:Int)),(24,.i s9),(61,.o 2),(62,.i (([x24,x25,x26,x27]:List Int).length:Int)),(63,.i s30)]) (fun s30=>[(0,.box (Qr m.site.Floor)),(1,.box [.i x18.Cell,.v (.string x18.Class)]),(2,.val (.os 1 eI ([x24,x25,x26,x27]:List Int)))]) g (fun s30 Y31 g=>?_)) (Wk.a (idR 3))
 refine C.ss (U.pd 1 T (C.xs ?_))
 refine C.ite rfl g (fun b34 g=>?_) fun b34 g=>?_
 refine C.skip (C.xs (C.block (C.ss ?_)))
 obtain⟨x37,y37,g⟩:=g
 refine U.r rfl (.none rfl) rfl rfl (by exact Rd.io T rfl rfl rfl rfl rfl rfl rfl y37) ?_
 refine U.r rfl (.none rfl) rfl rfl (by exact Rd.le T rfl rfl rfl (Q6 y37).2.2 rfl rfl rfl) ?_
 refine U.pd 1 T (C.xt ?_)
 refine U.ps 5 T rfl (U.r rfl (.none rfl) rfl rfl (by exact Rd.lk2 T (ke:=kI) (ve:=veI) (xs:=m.shelf) (z0:=0) (x:=x37) rfl rfl kt3 zt3 (fun _=>rfl) rfl .rm rfl rfl rfl) ?_)
 refine U.pd 5 T (C.xs ?_)
 refine C.jn (fun (x40:Bool)=>[(0,.rp [.i m.site.Floor.W,.i m.site.Floor.H,.i m.site.Floor.D,.sl 1 eI m.site.Floor.Kind,.sl 1 eI m.site.Floor.Out,.sl 5 Q7 m.site.Zones,.sl 2 Qb m.site.Aparts,.sl 2 Q8 m.site.Shelves,.sl 2 Qa m.site.Robots,.rm kI veI m.shelf,.rm kI veB m.robot,.rm kI veB m.zoned,.rm kS veI m.names,.rm kI veB m.oneways,.sl 1 eI m.shelves,.sl 1 eI m.zones]),(3,.p 0 0),(4,.i s9),(5,.p 1 0),(22,.sl 2 Q8 m.site.Shelves),(23,.i (m.site.Shelves.length:Int)),(24,.i s9),(61,.o 2),(62,.i (([x24,x25,x26,x27]:List Int).length:Int)),(63,.i s30),(100,.b x40)]) (fun x40=>[(0,.box (Qr m.site.Floor)),(1,.box [.i x18.Cell,.v (.string x18.Class)]),(2,.val (.os 1 eI ([x24,x25,x26,x27]:List Int)))]) 3 g (fun x40 g=>?_) fun J41 g j41=>?_
 refine C.nx ?_
 refine C.ite rfl g (fun b46 g=>?_) fun b46 g=>?_
 refine C.ss (U.pd 2 T (C.nx (C.ret (C.brt (C.rt (C.rt (C.brt (C.brt (C.rt (C.rt (C.brt (C.rt ?_))))))))))))
 exact C.f1 T o (pIi g)
 refine C.skip (C.bnx (C.nx (U.start (U.pd 2 T (C.nx ?_)))))
 exact St.wk (C.next g) (Wk.a (idR 3))
 refine D.bq mix 9999 [1] [] (fun hQ hS ws M'=>?_)
 refine D.pq 2 (zl [0,1]) T ?_
 refine g.cs (fun b42 g=>?_) fun b42 g=>?_
 refine D.pt 2 [] 1 true 77 b42 T ?_
 refine D.pt 3 [] 1 true 77 b42 T ?_
 refine D.pt 4 [] 1 true 77 b42 T ?_
 refine D.kt 5 [] b42 ?_
 refine D.pq 1 [(6,[])] T ?_
 refine g.cs (fun b43 g=>?_) fun b43 g=>?_
 refine D.pt 7 [] 6 true 82 b43 T ?_
 refine D.pt 8 [] 6 true 82 b43 T ?_
 refine D.pt 9 [] 6 true 82 b43 T ?_
 refine D.pt 10 [] 6 true 82 b43 T ?_
 refine D.q 11 [] hQ hS rfl (.tk 6 true 82 b43) rfl rfl (by exact Rd.l T rfl rfl rfl) rfl (by kernel_rfl) ?_
 refine D.pt 12 [] 6 true 82 b43 T ?_
 refine D.q 13 [] hQ hS rfl (.tk 6 true 82 b43) rfl rfl (by exact Rd.l T rfl rfl rfl) rfl (by kernel_rfl) ?_
 refine D.pt 14 [] 6 true 82 b43 T ?_
 refine D.pt 15 [] 6 true 82 b43 T ?_
 refine D.pt 16 [] 6 true 82 b43 T ?_
 refine D.pt 17 [] 6 true 82 b43 T ?_
 refine D.q 18 [] hQ hS rfl (.tk 6 true 82 b43) rfl rfl (by exact Rd.l T rfl rfl rfl) rfl (by kernel_rfl) ?_
 refine D.pt 19 [] 6 true 82 b43 T ?_
 obtain⟨x44,y44,g⟩:=g
 refine D.q 20 [] hQ hS rfl (.tk 6 true 82 b43) rfl rfl (by exact Rd.ix T rfl rfl rfl rfl rfl rfl y44) rfl (by kernel_rfl) ?_
 refine D.pt 21 [] 6 true 82 b43 T ?_
 refine D.q 22 [] hQ hS rfl (.tk 6 true 82 b43) rfl rfl (by exact Rd.l T rfl rfl rfl) rfl (by kernel_rfl) ?_
 refine D.k 23 (Zm m.site.Aparts x18.Class x44.Class _ g) Q9f (fun x45 g=>?_) (hw:=.take 6 true 82 _ b43 rfl rfl rfl)
 refine D.kt 24 [] b43 ?_
 refine D.done (by kernel_rfl) ?_
 exact St.wa (idR 3) (j41 _ g)
 refine D.sz 7 [] 6 true 82 b43 ?_
 refine D.sz 8 [] 6 true 82 b43 ?_
 refine D.sz 9 [] 6 true 82 b43 ?_
 refine D.sz 10 [] 6 true 82 b43 ?_
 refine D.sz 11 [] 6 true 82 b43 ?_
 refine D.sz 12 [] 6 true 82 b43 ?_
 refine D.sz 13 [] 6 true 82 b43 ?_
 refine D.sz 14 [] 6 true 82 b43 ?_
 refine D.sz 15 [] 6 true 82 b43 ?_
 refine D.sz 16 [] 6 true 82 b43 ?_
 refine D.sz 17 [] 6 true 82 b43 ?_
 refine D.sz 18 [] 6 true 82 b43 ?_
 refine D.sz 19 [] 6 true 82 b43 ?_
 refine D.sz 20 [] 6 true 82 b43 ?_
 refine D.sz 21 [] 6 true 82 b43 ?_
 refine D.sz 22 [] 6 true 82 b43 ?_
 refine D.sz 23 [] 6 true 82 b43 ?_
 refine D.kf 24 [] b43 ?_
 refine D.done (by kernel_rfl) ?_
 exact St.wa (idR 3) (j41 _ g)
 refine D.sz 2 [] 1 true 77 b42 ?_
 refine D.sz 3 [] 1 true 77 b42 ?_
 refine D.sz 4 [] 1 true 77 b42 ?_
 refine D.kf 5 [] b42 ?_
 refine D.pq 1 [(6,[])] T ?_
 refine D.sz 7 [] 6 true 82 rfl ?_
 refine D.sz 8 [] 6 true 82 rfl ?_
 refine D.sz 9 [] 6 true 82 rfl ?_
 refine D.sz 10 [] 6 true 82 rfl ?_
 refine D.sz 11 [] 6 true 82 rfl ?_
 refine D.sz 12 [] 6 true 82 rfl ?_
 refine D.sz 13 [] 6 true 82 rfl ?_
 refine D.sz 14 [] 6 true 82 rfl ?_
 refine D.sz 15 [] 6 true 82 rfl ?_
 refine D.sz 16 [] 6 true 82 rfl ?_
 refine D.sz 17 [] 6 true 82 rfl ?_
 refine D.sz 18 [] 6 true 82 rfl ?_
 refine D.sz 19 [] 6 true 82 rfl ?_
 refine D.sz 20 [] 6 true 82 rfl ?_
 refine D.sz 21 [] 6 true 82 rfl ?_
 refine D.sz 22 [] 6 true 82 rfl ?_
 refine D.sz 23 [] 6 true 82 rfl ?_
 refine D.kf 24 [] rfl ?_
 refine D.done (by kernel_rfl) ?_
 exact St.wa (idR 3) (j41 _ g)
 refine C.exit (C.ex (C.ex (C.bex ?_)))
 exact St.wa [some 0] (j29 _ g)
 refine C.exit (C.ex (C.ex (C.bex ?_)))
 exact St.wk (j8 _ g) (Wk.mk' [] rfl rfl trivial trivial rfl)
theorem WZ (z:Qk) (c0:SurveyMaker) (post:Bool→Prop) (g:QY z c0 post):
  Tr Tryz.prog 143 [.agg (Q7 z),.rp [.rp [.i c0.site.Floor.W,.i c0.site.Floor.H,.i c0.site.Floor.D,.sl 1 eI c0.site.Floor.Kind,.sl 1 eI c0.site.Floor.Out,.sl 5 Q7 c0.site.Zones,.sl 2 Qb c0.site.Aparts,.sl 2 Q8 c0.site.Shelves,.sl 2 Qa c0.site.Robots,.rm kI veI c0.shelf,.rm kI veB c0.robot,.rm kI veB c0.zoned,.rm kS veI c0.names,.rm kI veB c0.oneways,.sl 1 eI c0.shelves,.sl 1 eI c0.zones]]] [] 0 (pB post):=by
 refine Tr.go Tryz.func143 Tryz.ntmps143 fun _ _ _ _ o=>?_
 unfold QY at g
 refine C.ss (U.bx ?_)
 refine U.pd 1 T (C.xt ?_)
 refine U.pd 1 T (C.xs (C.ss ?_))
 refine U.pd 4 T (C.nx ?_)
 refine C.jn (fun (x7:Int)=>[(2,.p 0 0),(4,.i x7)]) (fun x7=>[(0,.box (Q7 z))]) 1 g (fun x7 g=>?_) fun J8 g j8=>?_
 refine C.xt (U.pd 5 T (C.nx (C.ret ?_)))
 exact C.f1 T o (pBi g)
 refine C.block ?_
 refine St.wk (C.loop (fun (s9:Int×Int)=>[(1,.rp [.rp [.i c0.site.Floor.W,.i c0.site.Floor.H,.i c0.site.Floor.D,.sl 1 eI c0.site.Floor.Kind,.sl 1 eI c0.site.Floor.Out,.sl 5 Q7 c0.site.Zones,.sl 2 Qb c0.site.Aparts,.sl 2 Q8 c0.site.Shelves,.sl 2 Qa c0.site.Robots,.rm kI veI c0.shelf,.rm kI veB c0.robot,.rm kI veB c0.zoned,.rm kS veI c0.names,.rm kI veB c0.oneways,.sl 1 eI c0.shelves,.sl 1 eI c0.zones]]),(2,.p 0 0),(4,.i s9.1),(10,.sl 1 eI z.Cells),(11,.i (z.Cells.length:Int)),(12,.i s9.2)]) (fun s9=>[(0,.box (Q7 z))]) g (fun s9 Y10 g=>?_)) (Wk.a [some 0])
 refine C.ss (U.pd 1 T (C.xs ?_))
 refine C.ite rfl g (fun b13 g=>?_) fun b13 g=>?_
 refine C.skip (C.xs (C.block (C.ss ?_)))
 obtain⟨x16,y16,g⟩:=g
 refine U.ix T y16 ?_
 refine U.pd 2 T (C.xt ?_)
 refine U.ps 5 T rfl (U.r rfl (.none rfl) rfl rfl (by exact Rd.lk2 T (ke:=kI) (ve:=veI) (xs:=c0.shelf) (z0:=0) (x:=x16) rfl rfl kt3 zt3 (fun _=>rfl) rfl .rm rfl rfl rfl) ?_)
 refine U.pd 5 T (C.xs ?_)
 refine C.jn (fun (x19:Bool)=>[(1,.rp [.rp [.i c0.site.Floor.W,.i c0.site.Floor.H,.i c0.site.Floor.D,.sl 1 eI c0.site.Floor.Kind,.sl 1 eI c0.site.Floor.Out,.sl 5 Q7 c0.site.Zones,.sl 2 Qb c0.site.Aparts,.sl 2 Q8 c0.site.Shelves,.sl 2 Qa c0.site.Robots,.rm kI veI c0.shelf,.rm kI veB c0.robot,.rm kI veB c0.zoned,.rm kS veI c0.names,.rm kI veB c0.oneways,.sl 1 eI c0.shelves,.sl 1 eI c0.zones]]),(2,.p 0 0),(4,.i s9.1),(10,.sl 1 eI z.Cells),(11,.i (z.Cells.length:Int)),(12,.i s9.2),(38,.b x19)]) (fun x19=>[(0,.box (Q7 z))]) 1 g (fun x19 g=>?_) fun J20 g j20=>?_
 refine C.nx ?_
 refine C.jn (fun (x24:Int)=>[(1,.rp [.rp [.i c0.site.Floor.W,.i c0.site.Floor.H,.i c0.site.Floor.D,.sl 1 eI c0.site.Floor.Kind,.sl 1 eI c0.site.Floor.Out,.sl 5 Q7 c0.site.Zones,.sl 2 Qb c0.site.Aparts,.sl 2 Q8 c0.site.Shelves,.sl 2 Qa c0.site.Robots,.rm kI veI c0.shelf,.rm kI veB c0.robot,.rm kI veB c0.zoned,.rm kS veI c0.names,.rm kI veB c0.oneways,.sl 1 eI c0.shelves,.sl 1 eI c0.zones]]),(2,.p 0 0),(4,.i x24),(10,.sl 1 eI z.Cells),(11,.i (z.Cells.length:Int)),(12,.i s9.2)]) (fun x24=>[(0,.box (Q7 z))]) 1 g (fun x24 g=>?_) fun J25 g j25=>?_
 refine C.bnx (C.nx (U.start (U.pd 2 T (C.nx ?_))))
 exact St.wk (C.next g) (Wk.a [some 0])
 refine C.ite rfl g (fun b26 g=>?_) fun b26 g=>?_
 refine U.start (U.pd 3 T ?_)
 exact St.wa [some 0] (j25 _ g)
 refine C.skip ?_
 exact St.wa [some 0] (j25 _ g)
 refine U.start (U.ps 3 T rfl ?_)
 refine g.cs (fun b21 g=>?_) fun b21 g=>?_
 refine U.sk' 10 2 true 27 (ntF b21) ?_
 refine U.pk' (ntF b21) ?_
 refine U.done ?_
 exact St.wa [some 0] (j20 _ g)
 refine U.pq 7 2 true 27 (ntT b21) T ?_
 obtain⟨x22,y22,g⟩:=g
 refine U.r rfl (.tk 2 true 27 (ntT b21)) rfl rfl (by exact Rd.ix T rfl rfl rfl rfl rfl rfl y22) ?_
 refine U.pq 1 2 true 27 (ntT b21) T ?_
 refine U.k (YS x22 _ g) Q8U (fun x23 g=>?_) (hw:=.take 2 true 27 _ (ntT b21) rfl rfl rfl)
 refine U.pk (ntT b21) ?_
 refine U.done ?_
 exact St.wa [some 0] (j20 _ g)
 refine C.exit (C.ex (C.ex (C.bex ?_)))
 exact St.wa [some 0] (j8 _ g)
theorem Kb (s_1:List Qk) (f_c0:SurveyMaker) (post:Int→Prop) (g:Qd s_1 f_c0 post):
  Tr Tryz.prog 142 [.sl 5 Q7 s_1,.fn (.func 143) [] [.rp [.rp [.i f_c0.site.Floor.W,.i f_c0.site.Floor.H,.i f_c0.site.Floor.D,.sl 1 eI f_c0.site.Floor.Kind,.sl 1 eI f_c0.site.Floor.Out,.sl 5 Q7 f_c0.site.Zones,.sl 2 Qb f_c0.site.Aparts,.sl 2 Q8 f_c0.site.Shelves,.sl 2 Qa f_c0.site.Robots,.rm kI veI f_c0.shelf,.rm kI veB f_c0.robot,.rm kI veB f_c0.zoned,.rm kS veI f_c0.names,.rm kI veB f_c0.oneways,.sl 1 eI f_c0.shelves,.sl 1 eI f_c0.zones]]]] [] 0 (pI post):=by
 refine Tr.go Tryz.func142 Tryz.ntmps142 fun _ _ _ _ o=>?_
 unfold Qd at g
 refine C.ss (U.pd 1 T (C.xs (C.ss ?_)))
 refine U.pd 3 T (C.nx ?_)
 refine C.jn (fun (x5:Unit)=>[]) (fun x5=>[]) 0 g (fun x5 g=>?_) fun J6 g j6=>?_
 refine C.xt (U.pd 1 T (C.nx (C.ret ?_)))
 exact C.f1 T o (pIi g)
 refine C.block ?_
 refine St.wk (C.loop (fun (s7:Int)=>[(0,.sl 5 Q7 s_1),(1,.fn (.func 143) [] [.rp [.rp [.i f_c0.site.Floor.W,.i f_c0.site.Floor.H,.i f_c0.site.Floor.D,.sl 1 eI f_c0.site.Floor.Kind,.sl 1 eI f_c0.site.Floor.Out,.sl 5 Q7 f_c0.site.Zones,.sl 2 Qb f_c0.site.Aparts,.sl 2 Q8 f_c0.site.Shelves,.sl 2 Qa f_c0.site.Robots,.rm kI veI f_c0.shelf,.rm kI veB f_c0.robot,.rm kI veB f_c0.zoned,.rm kS veI f_c0.names,.rm kI veB f_c0.oneways,.sl 1 eI f_c0.shelves,.sl 1 eI f_c0.zones]]]),(7,.i (s_1.length:Int)),(8,.i s7)]) (fun s7=>[]) g (fun s7 Y8 g=>?_)) (Wk.e)
 refine C.ss (U.pd 1 T (C.xs ?_))
 refine C.ite rfl g (fun b11 g=>?_) fun b11 g=>?_
 refine C.skip (C.xs (C.block (C.ss (U.pd 2 T (C.xt ?_)))))
 refine U.ps 3 T rfl ?_
 obtain⟨x16,y16,g⟩:=g
 refine U.ix T y16 ?_
 refine U.ps 1 T rfl (U.k (WZ x16 f_c0 _ g) Q9I (fun x17 g=>?_))
 refine U.done (C.nx ?_)
 refine C.ite rfl g (fun b18 g=>?_) fun b18 g=>?_
 refine C.ss (U.pd 2 T (C.nx (C.ret (C.brt (C.rt (C.rt (C.brt (C.rt ?_))))))))
 exact C.f1 T o (pIi g)
 refine C.skip (C.bnx (C.nx (U.start (U.pd 2 T (C.nx ?_)))))
 exact St.wk (C.next g) (Wk.e)
 refine C.exit (C.ex (C.ex (C.bex ?_)))
 exact St.wk (j6 _ g) (Wk.mk' [] rfl rfl trivial trivial rfl)
theorem Yy (m:SurveyMaker) (post:Int→Prop) (g:KF m post):
  Tr Tryz.prog 85 [.rp [.i m.site.Floor.W,.i m.site.Floor.H,.i m.site.Floor.D,.sl 1 eI m.site.Floor.Kind,.sl 1 eI m.site.Floor.Out,.sl 5 Q7 m.site.Zones,.sl 2 Qb m.site.Aparts,.sl 2 Q8 m.site.Shelves,.sl 2 Qa m.site.Robots,.rm kI veI m.shelf,.rm kI veB m.robot,.rm kI veB m.zoned,.rm kS veI m.names,.rm kI veB m.oneways,.sl 1 eI m.shelves,.sl 1 eI m.zones]] [] 0 (pI post):=by
 refine Tr.go Tryz.func85 Tryz.ntmps85 fun _ _ _ _ o=>?_
 unfold KF at g
 refine C.ss (U.bx ?_)
 refine U.pd 1 T (C.xt ?_)
 refine U.ps 6 T rfl (U.k (Kb m.site.Zones m _ g) Q8w (fun x5 g=>?_))
 refine U.pd 1 T (C.nx (C.ret ?_))
 exact C.f1 T o (pIi g)
theorem Yz (m:SurveyMaker) (post:Bool→Prop) (g:KG m post):
  Tr Tryz.prog 86 [.rp [.i m.site.Floor.W,.i m.site.Floor.H,.i m.site.Floor.D,.sl 1 eI m.site.Floor.Kind,.sl 1 eI m.site.Floor.Out,.sl 5 Q7 m.site.Zones,.sl 2 Qb m.site.Aparts,.sl 2 Q8 m.site.Shelves,.sl 2 Qa m.site.Robots,.rm kI veI m.shelf,.rm kI veB m.robot,.rm kI veB m.zoned,.rm kS veI m.names,.rm kI veB m.oneways,.sl 1 eI m.shelves,.sl 1 eI m.zones]] [] 0 (pB post):=by
 refine Tr.go Tryz.func86 Tryz.ntmps86 fun _ _ _ _ o=>?_
 unfold KG at g
 refine C.ss (U.pd 1 T (C.xt ?_))
 refine U.ps 6 T rfl (U.k (QO m.site.Floor.Kind 3 _ g) en89 (fun x5 g=>?_))
 refine U.pd 1 T (C.nx (C.ret ?_))
 exact C.f1 T o (pBi g)
end Go.Proofs.YtdcfcldpjfepiaaGreat
