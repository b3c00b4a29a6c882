/- The walks: each Go function does what its verification condition says (written by a program of the prover). -/
import Derived.Test.YtpckofngkabgbaaGreatEnc
import Derived.KernelRfl
set_option maxRecDepth 100000
set_option maxHeartbeats 8000000
set_option linter.unusedVariables false
set_option linter.unusedSimpArgs false
namespace Go.Proofs.YtpckofngkabgbaaGreat
open Go Go.Taq
theorem Yp (post:ApiSite→Prop) (g:Xi post):
  Tr Tryz.prog 13 [] [] 0 (fun A H' k=>∃y,post y∧A=(.agg [.i y.Floor.W,.i y.Floor.H,.i y.Floor.D,.o 0,.o 1,.o 2,.o 3,.o 4,.o 5])∧H'=[(0,.val (.os 1 eI y.Floor.Kind)),(1,.val (.os 1 eI y.Floor.Out)),(2,.val (.os 5 Q3 y.Zones)),(3,.val (.os 2 Q0 y.Aparts)),(4,.val (.os 2 Q1 y.Shelves)),(5,.val (.os 2 Q2 y.Robots))]∧k=6):=by
 refine Tr.go Tryz.func13 Tryz.ntmps13 fun _ _ _ _ o=>?_
 unfold Xi at g
 refine C.ss (U.al T ?_)
 refine U.done (C.xt (U.bs T eI ([1,1,1,1,1,3]:List Int) ?_))
 refine U.bs T eI ([15,15,15,15,15,15]:List Int) ?_
 refine U.ps 1 T rfl (U.al T ?_)
 refine U.st T ?_
 refine U.done (C.xt (U.ps 2 T rfl (U.st T ?_)))
 refine U.done (C.nx (C.ret ?_))
 exact C.g1 [some 1,some 2,none,none,none,none] T o ⟨({Floor:=({W:=3,H:=2,D:=1,Kind:=([1,1,1,1,1,3]:List Int),Out:=([15,15,15,15,15,15]:List Int):ApiFloor}),Zones:=[],Aparts:=[],Shelves:=[],Robots:=[]:ApiSite}),g,rfl,rfl,rfl⟩
theorem Yf (s_1:ApiSite) (c:Int) (post:Bool→Prop) (g:XQ s_1 c post):
  Tr Tryz.prog 23 [.agg (Q9 s_1),.i c] [] 0 (pB post):=by
 refine Tr.go Tryz.func23 Tryz.ntmps23 fun _ _ _ _ o=>?_
 unfold XQ at g
 refine C.ss (U.bx ?_)
 refine U.pd 1 T (C.xs ?_)
 refine C.jn (fun (x3:Bool)=>[(4,.b x3)]) (fun x3=>[]) 0 g (fun x3 g=>?_) fun J4 g j4=>?_
 refine C.nx (C.ret ?_)
 exact C.f1 T o (pBi g)
 refine U.start (U.ps 3 T rfl ?_)
 refine g.cs (fun b5 g=>?_) fun b5 g=>?_
 refine U.pq 6 2 true 7 b5 T ?_
 refine U.pk b5 ?_
 refine U.ps 1 T rfl ?_
 refine g.cs (fun b6 g=>?_) fun b6 g=>?_
 refine U.pq 4 10 true 15 b6 T ?_
 obtain⟨x7,y7,g⟩:=g
 refine U.r rfl (.tk 10 true 15 b6) rfl rfl (by exact Rd.ix T rfl rfl rfl rfl rfl rfl y7) ?_
 refine U.pq 2 10 true 15 b6 T ?_
 refine U.pk b6 ?_
 refine U.pd 1 T ?_
 exact St.wn (j4 _ g)
 refine U.sk' 7 10 true 15 b6 ?_
 refine U.pk' b6 ?_
 refine U.pd 1 T ?_
 exact St.wn (j4 _ g)
 refine U.sk' 6 2 true 7 b5 ?_
 refine U.pk' b5 ?_
 refine U.ps 1 T rfl (U.sk' 7 10 true 15 rfl ?_)
 refine U.pk' rfl ?_
 refine U.pd 1 T ?_
 exact St.wn (j4 _ g)
theorem YP (s_1:ApiSite) (trips:List ApiTrip) (post:Bool→Prop) (g:XT s_1 trips post):
  Tr Tryz.prog 8 [.agg (Q9 s_1),.sl 2 Q4 trips] [] 0 (pB post):=by
 refine Tr.go Tryz.func8 Tryz.ntmps8 fun _ _ _ _ o=>?_
 unfold XT at g
 refine C.ss (U.bx ?_)
 refine U.pd 1 T (C.xt ?_)
 refine U.e1 rfl (.none rfl) (by exact Eff1.mm kI veB rfl rfl rfl) ?_
 refine U.e1 rfl (.none rfl) (by exact Eff1.mm kI veB rfl rfl rfl) ?_
 refine U.pd 2 T (C.xs (C.ss ?_))
 refine U.pd 3 T (C.nx ?_)
 refine C.jn (fun (x7:Unit)=>[(1,.sl 2 Q4 trips)]) (fun x7=>[]) 0 g (fun x7 g=>?_) fun J8 g j8=>?_
 refine C.xs ?_
 refine C.jn (fun (x31:Bool)=>[(4,.b x31)]) (fun x31=>[]) 0 g (fun x31 g=>?_) fun J32 g j32=>?_
 refine C.nx (C.ret ?_)
 exact C.f1 T o (pBi g)
 refine U.start (U.ps 4 T rfl ?_)
 refine g.cs (fun b33 g=>?_) fun b33 g=>?_
 refine U.pq 3 3 true 51 b33 T ?_
 refine U.pk b33 ?_
 refine U.pd 1 T ?_
 exact St.wn (j32 _ g)
 refine U.sk' 3 3 true 51 b33 ?_
 refine U.pk' b33 ?_
 refine U.pd 1 T ?_
 exact St.wn (j32 _ g)
 refine C.block ?_
 refine St.wk (C.loop (fun (s9:List (Int×Bool)×List (Int×Bool)×Int)=>[(1,.sl 2 Q4 trips),(2,.p 0 0),(5,.o 1),(6,.o 2),(11,.sl 2 Q4 trips),(12,.i (trips.length:Int)),(13,.i s9.2.2)]) (fun s9=>[(0,.box (Q9 s_1)),(1,.val (.om kI veB s9.1)),(2,.val (.om kI veB s9.2.1))]) g (fun s9 Y10 g=>?_)) (Wk.a (idR 3))
 refine C.ss (U.pd 1 T (C.xs ?_))
 refine C.ite rfl g (fun b13 g=>?_) fun b13 g=>?_
 refine C.skip (C.xs (C.block (C.ss ?_)))
 obtain⟨x16,y16,g⟩:=g
 refine U.ix T y16 ?_
 refine U.ps 1 T rfl (U.al T ?_)
 refine U.st T ?_
 refine U.done (C.xs (C.seq ?_))
 refine C.jn (fun (x17:Bool)=>[(1,.sl 2 Q4 trips),(2,.p 0 0),(5,.o 1),(6,.o 2),(8,.p 3 0),(11,.sl 2 Q4 trips),(12,.i (trips.length:Int)),(13,.i s9.2.2),(40,.b x17)]) (fun x17=>[(0,.box (Q9 s_1)),(1,.val (.om kI veB s9.1)),(2,.val (.om kI veB s9.2.1)),(3,.box [.i x16.From,.i x16.To])]) 4 g (fun x17 g=>?_) fun J18 g j18=>?_
 refine C.nx ?_
 refine C.ite rfl g (fun b24 g=>?_) fun b24 g=>?_
 refine C.ss (U.pd 1 T (C.nx (C.ret (C.rt (C.brt (C.rt (C.rt (C.brt (C.rt ?_)))))))))
 exact C.f1 T o (pBi g)
 refine C.skip (C.nx (D.bq mix 7 [3] [1] (fun hQ hS ws M'=>?_)))
 refine D.pq 6 (zl [0,1,2,3,4,5]) T ?_
 refine D.e1 6 rfl (.none rfl) (by exact Eff1.mu T (x:=x16.From) (y:=true) (.inl rfl) rfl kt3 (fun _=>rfl) rfl rfl rfl rfl rfl (.inl rfl) rfl) (by kernel_rfl) rfl rfl ?_
 refine D.ze1 rfl (.none rfl) (by exact Eff1.mu T (x:=x16.To) (y:=true) (.inl rfl) rfl kt3 (fun _=>rfl) rfl rfl rfl rfl rfl (.inl rfl) rfl) (by kernel_rfl) (by kernel_rfl) ?_
 refine C.bnx (C.nx (U.start (U.pd 2 T (C.nx ?_))))
 exact St.wk (C.next g) (Wk.a (idR 3))
 refine U.start (U.ps 3 T rfl (U.k (Yf s_1 x16.From _ g) en23 (fun x19 g=>?_)))
 refine U.ps 2 T rfl ?_
 refine g.cs (fun b20 g=>?_) fun b20 g=>?_
 refine U.pq 3 5 false 22 (ntF b20) T ?_
 refine U.k (Yf s_1 x16.To _ g) en23 (fun x21 g=>?_) (hw:=.take 5 false 22 _ (ntF b20) rfl rfl rfl)
 refine U.pq 1 5 false 22 (ntF b20) T ?_
 refine U.pk' (ntF b20) ?_
 refine U.ps 1 T rfl ?_
 refine g.cs (fun b22 g=>?_) fun b22 g=>?_
 refine U.pq 3 12 false 29 (ntF b22) T ?_
 refine U.r rfl (.tk 12 false 29 (ntF b22)) rfl rfl (by exact Rd.lk T (ke:=kI) (ve:=veB) (xs:=s9.1) (z0:=false) (x:=x16.From) rfl rfl kt3 zt4 (fun _=>rfl) rfl (.o rfl) rfl rfl rfl) ?_
 refine U.pk' (ntF b22) ?_
 refine U.ps 1 T rfl ?_
 refine g.cs (fun b23 g=>?_) fun b23 g=>?_
 refine U.sk' 4 18 false 35 b23 ?_
 refine U.pk b23 ?_
 refine U.done ?_
 exact St.wa (idR 4) (j18 _ g)
 refine U.pq 3 18 false 35 b23 T ?_
 refine U.r rfl (.tk 18 false 35 b23) rfl rfl (by exact Rd.lk T (ke:=kI) (ve:=veB) (xs:=s9.2.1) (z0:=false) (x:=x16.To) rfl rfl kt3 zt4 (fun _=>rfl) rfl (.o rfl) rfl rfl rfl) ?_
 refine U.pk' b23 ?_
 refine U.done ?_
 exact St.wa (idR 4) (j18 _ g)
 refine U.sk' 4 12 false 29 (ntT b22) ?_
 refine U.pk (ntT b22) ?_
 refine U.ps 1 T rfl (U.sk' 4 18 false 35 rfl ?_)
 refine U.pk rfl ?_
 refine U.done ?_
 exact St.wa (idR 4) (j18 _ g)
 refine U.sk' 5 5 false 22 (ntT b20) ?_
 refine U.pk (ntT b20) ?_
 refine U.ps 1 T rfl (U.sk' 4 12 false 29 rfl ?_)
 refine U.pk rfl ?_
 refine U.ps 1 T rfl (U.sk' 4 18 false 35 rfl ?_)
 refine U.pk rfl ?_
 refine U.done ?_
 exact St.wa (idR 4) (j18 _ g)
 refine C.exit (C.ex (C.ex (C.bex ?_)))
 exact St.wn (j8 _ g)
theorem Yg (x_1:Int) (post:Bool→Prop) (g:XP x_1 post):
  Tr Tryz.prog 210 [.i x_1] [] 0 (pB post):=by
 refine Tr.go Tryz.func210 Tryz.ntmps210 fun _ _ _ _ o=>?_
 unfold XP at g
 refine C.ss (U.pd 1 T (C.xt ?_))
 refine U.pd 4 T (C.nx (C.ret ?_))
 exact C.f1 T o (pBi g)
theorem Q0D (x_1:Int) (y_1:Int) (post:Bool→Prop) (g:GC x_1 y_1 post):
  Tr Tryz.prog 180 [.i x_1,.i y_1] [] 0 (pB post):=by
 refine Tr.go Tryz.func180 Tryz.ntmps180 fun _ _ _ _ o=>?_
 unfold GC at g
 refine C.ss (U.pd 1 T (C.xs ?_))
 refine C.jn (fun (x3:Bool)=>[(4,.b x3)]) (fun x3=>[]) 0 g (fun x3 g=>?_) fun J4 g j4=>?_
 refine C.nx (C.ret ?_)
 exact C.f1 T o (pBi g)
 refine U.start (U.ps 1 T rfl (U.k (Yg x_1 _ g) Q6c (fun x5 g=>?_)))
 refine U.ps 1 T rfl ?_
 refine g.cs (fun b6 g=>?_) fun b6 g=>?_
 refine U.pq 1 2 true 7 b6 T ?_
 refine U.k (Yg y_1 _ g) Q6c (fun x7 g=>?_) (hw:=.take 2 true 7 _ b6 rfl rfl rfl)
 refine U.pq 1 2 true 7 b6 T ?_
 refine U.pk b6 ?_
 refine U.ps 1 T rfl ?_
 refine g.cs (fun b8 g=>?_) fun b8 g=>?_
 refine U.pq 3 7 false 12 (ntF b8) T ?_
 refine U.pk' (ntF b8) ?_
 refine U.pd 1 T ?_
 exact St.wn (j4 _ g)
 refine U.sk' 3 7 false 12 (ntT b8) ?_
 refine U.pk (ntT b8) ?_
 refine U.pd 1 T ?_
 exact St.wn (j4 _ g)
 refine U.sk' 3 2 true 7 b6 ?_
 refine U.pk' b6 ?_
 refine U.ps 1 T rfl (U.pq 3 7 false 12 rfl T ?_)
 refine U.pk' rfl ?_
 refine U.pd 1 T ?_
 exact St.wn (j4 _ g)
theorem Wj (x_1:Int) (post:Bool→Prop) (g:Xg x_1 post):
  Tr Tryz.prog 187 [.i x_1] [] 0 (pB post):=by
 refine Tr.go Tryz.func187 Tryz.ntmps187 fun _ _ _ _ o=>?_
 unfold Xg at g
 refine C.ss (U.pd 1 T (C.xt ?_))
 refine U.pd 4 T (C.nx (C.ret ?_))
 exact C.f1 T o (pBi g)
theorem GI (x_1:List Int) (target:Int) (post:(Int×Bool)→Prop) (g:QR x_1 target post):
  Tr Tryz.prog 145 [.sl 1 eI x_1,.i target] [] 0 (fun A H' k=>∃y,post y∧A=(.tup [.i y.1,.b y.2])∧H'=[]∧k=0):=by
 refine Tr.go Tryz.func145 Tryz.ntmps145 fun _ _ _ _ o=>?_
 unfold QR at g
 refine C.ss (U.pd 2 T (C.xt ?_))
 refine U.pd 3 T (C.xt ?_)
 refine U.pd 3 T (C.xs ?_)
 refine C.jn (fun (x7:Int)=>[(0,.sl 1 eI x_1),(1,.i target),(6,.i (x_1.length:Int)),(7,.i x7)]) (fun x7=>[]) 0 g (fun x7 g=>?_) fun J8 g j8=>?_
 refine C.xs ?_
 refine C.jn (fun (x28:Bool)=>[(4,.i x7),(5,.b x28)]) (fun x28=>[]) 0 g (fun x28 g=>?_) fun J29 g j29=>?_
 refine C.nx (C.ret ?_)
 exact C.f9 T o ⟨(x7,x28),g,rfl,rfl,rfl⟩
 refine U.start (U.ps 5 T rfl ?_)
 refine g.cs (fun b30 g=>?_) fun b30 g=>?_
 refine U.pq 2 4 true 35 b30 T ?_
 obtain⟨x31,y31,g⟩:=g
 refine U.r rfl (.tk 4 true 35 b30) rfl rfl (by exact Rd.ix T rfl rfl rfl rfl rfl rfl y31) ?_
 refine U.pq 4 4 true 35 b30 T ?_
 refine g.cs (fun b32 g=>?_) fun b32 g=>?_
 refine U.sk' 6 11 false 42 b32 ?_
 refine U.sku 2 17 true 48 rfl rfl rfl ?_
 refine U.sk' 1 11 false 42 b32 ?_
 refine U.r rfl (.tk 4 true 35 b30) rfl rfl (by exact Rd.pk rfl rfl b32 rfl) ?_
 refine U.pk b30 ?_
 refine U.pd 2 T ?_
 exact St.wn (j29 _ g)
 refine U.pq 2 11 false 42 b32 T ?_
 refine U.r rfl (.tk 11 false 42 b32) rfl rfl (by exact Rd.ix T rfl rfl rfl rfl rfl rfl y31) ?_
 refine U.pq 1 11 false 42 b32 T ?_
 refine U.k (Wj x31 _ g) Q5W (fun x33 g=>?_) (hw:=.take 11 false 42 _ b32 rfl rfl rfl)
 refine U.pq 1 11 false 42 b32 T ?_
 refine g.cs (fun b34 g=>?_) fun b34 g=>?_
 refine U.pq 1 17 true 48 b34 T ?_
 refine U.k (Wj target _ g) Q5W (fun x35 g=>?_) (hw:=.take 17 true 48 _ b34 rfl rfl rfl)
 refine U.r rfl (.tk 11 false 42 b32) rfl rfl (by exact Rd.pk rfl rfl b34 rfl) ?_
 refine U.r rfl (.tk 4 true 35 b30) rfl rfl (by exact Rd.pk' rfl rfl b32 rfl) ?_
 refine U.pk b30 ?_
 refine U.pd 2 T ?_
 exact St.wn (j29 _ g)
 refine U.sk' 2 17 true 48 b34 ?_
 refine U.r rfl (.tk 11 false 42 b32) rfl rfl (by exact Rd.pk' rfl rfl b34 rfl) ?_
 refine U.r rfl (.tk 4 true 35 b30) rfl rfl (by exact Rd.pk' rfl rfl b32 rfl) ?_
 refine U.pk b30 ?_
 refine U.pd 2 T ?_
 exact St.wn (j29 _ g)
 refine U.sk' 7 4 true 35 b30 ?_
 refine U.sku 6 11 false 42 rfl rfl rfl ?_
 refine U.sku 2 17 true 48 rfl rfl rfl ?_
 refine U.sku 1 11 false 42 rfl rfl rfl ?_
 refine U.sk' 1 4 true 35 b30 ?_
 refine U.pk' b30 ?_
 refine U.pd 2 T ?_
 exact St.wn (j29 _ g)
 refine C.block (St.wk (C.loop (fun (s9:Int×Int)=>[(0,.sl 1 eI x_1),(1,.i target),(6,.i (x_1.length:Int)),(7,.i s9.1),(8,.i s9.2)]) (fun s9=>[]) g (fun s9 Y10 g=>?_)) (Wk.e))
 refine C.seq (C.ss (U.pd 3 T (C.nx ?_)))
 refine C.ite rfl g (fun b13 g=>?_) fun b13 g=>?_
 refine C.skip (C.nx (C.block (C.ss (U.ps 4 T rfl (U.r rfl (.none rfl) rfl rfl (by exact Rd.sh rfl rfl rfl rfl (by decide)) ?_)))))
 refine U.pd 2 T (C.xt ?_)
 refine U.ps 2 T rfl ?_
 obtain⟨x19,y19,g⟩:=g
 refine U.ix T y19 ?_
 refine U.ps 2 T rfl (U.k (Q0D x19 target _ g) Q6H (fun x20 g=>?_))
 refine U.done (C.nx ?_)
 refine C.jn (fun (x21:Int×Int)=>[(0,.sl 1 eI x_1),(1,.i target),(6,.i (x_1.length:Int)),(7,.i x21.1),(8,.i x21.2)]) (fun x21=>[]) 0 g (fun x21 g=>?_) fun J22 g j22=>?_
 refine C.bnx (C.nx ?_)
 exact St.wk (C.next g) (Wk.e)
 refine C.ite rfl g (fun b23 g=>?_) fun b23 g=>?_
 refine U.start (U.pd 3 T ?_)
 exact St.wn (j22 _ g)
 refine U.start (U.pd 2 T ?_)
 exact St.wn (j22 _ g)
 refine C.exit (C.ex (C.ex (C.bex ?_)))
 exact St.wn (j8 _ g)
theorem ZO (z:Qx) (c0:Int) (post:Bool→Prop) (g:Xz z c0 post):
  Tr Tryz.prog 144 [.agg (Q3 z),.rp [.i c0]] [] 0 (pB post):=by
 refine Tr.go Tryz.func144 Tryz.ntmps144 fun _ _ _ _ o=>?_
 unfold Xz at g
 refine C.ss (U.bx ?_)
 refine U.pd 1 T (C.xt ?_)
 refine U.ps 3 T rfl (U.k (GI z.Cells c0 _ g) Q6w (fun x5 g=>?_))
 refine U.pd 5 T (C.xt ?_)
 refine U.pd 2 T (C.nx (C.ret ?_))
 exact C.f1 T o (pBi g)
theorem KT (s_1:List Qx) (f_c0:Int) (post:Int→Prop) (g:Qs s_1 f_c0 post):
  Tr Tryz.prog 92 [.sl 5 Q3 s_1,.fn (.func 144) [] [.rp [.i f_c0]]] [] 0 (pI post):=by
 refine Tr.go Tryz.func92 Tryz.ntmps92 fun _ _ _ _ o=>?_
 unfold Qs at g
 refine C.ss (U.pd 1 T (C.xs (C.ss ?_)))
 refine U.pd 3 T (C.nx ?_)
 refine C.jn (fun (x5:Unit)=>[]) (fun x5=>[]) 0 g (fun x5 g=>?_) fun J6 g j6=>?_
 refine C.xt (U.pd 1 T (C.nx (C.ret ?_)))
 exact C.f1 T o (pIi g)
 refine C.block (St.wk (C.loop (fun (s7:Int)=>[(0,.sl 5 Q3 s_1),(1,.fn (.func 144) [] [.rp [.i f_c0]]),(7,.i (s_1.length:Int)),(8,.i s7)]) (fun s7=>[]) g (fun s7 Y8 g=>?_)) (Wk.e))
 refine C.ss (U.pd 1 T (C.xs ?_))
 refine C.ite rfl g (fun b11 g=>?_) fun b11 g=>?_
 refine C.skip (C.xs (C.block (C.ss (U.pd 2 T (C.xt ?_)))))
 refine U.ps 3 T rfl ?_
 obtain⟨x16,y16,g⟩:=g
 refine U.ix T y16 ?_
 refine U.ps 1 T rfl (U.k (ZO x16 f_c0 _ g) Q6h (fun x17 g=>?_))
 refine U.done (C.nx ?_)
 refine C.ite rfl g (fun b18 g=>?_) fun b18 g=>?_
 refine C.ss (U.pd 2 T (C.nx (C.ret (C.brt (C.rt (C.rt (C.brt (C.rt ?_))))))))
 exact C.f1 T o (pIi g)
 refine C.skip (C.bnx (C.nx (U.start (U.pd 2 T (C.nx ?_)))))
 exact St.wk (C.next g) (Wk.e)
 refine C.exit (C.ex (C.ex (C.bex ?_)))
 exact St.wk (j6 _ g) (Wk.mk' [] rfl rfl trivial trivial rfl)
theorem Yt (s_1:ApiSite) (c:Int) (post:Int→Prop) (g:XC s_1 c post):
  Tr Tryz.prog 96 [.agg (Q9 s_1),.i c] [] 0 (pI post):=by
 refine Tr.go Tryz.func96 Tryz.ntmps96 fun _ _ _ _ o=>?_
 unfold XC at g
 refine C.ss (U.bx ?_)
 refine U.bx ?_
 refine U.pd 1 T (C.xt ?_)
 refine U.ps 3 T rfl (U.k (KT s_1.Zones c _ g) en92 (fun x5 g=>?_))
 refine U.pd 1 T (C.nx (C.ret ?_))
 exact C.f1 T o (pIi g)
theorem WF (s_1:ApiSite) (c:Int) (post:Int→Prop) (g:Xy s_1 c post):
  Tr Tryz.prog 46 [.agg (Q9 s_1),.i c] [] 0 (pI post):=by
 refine Tr.go Tryz.func46 Tryz.ntmps46 fun _ _ _ _ o=>?_
 unfold Xy at g
 refine C.ss (U.bx ?_)
 refine U.pd 1 T (C.xs (C.ss ?_))
 refine U.ps 2 T rfl (U.k (Yt s_1 c _ g) en96 (fun x5 g=>?_))
 refine U.pd 1 T (C.xt ?_)
 refine U.pd 2 T (C.nx ?_)
 refine C.ite rfl g (fun b8 g=>?_) fun b8 g=>?_
 refine C.ss (U.ps 3 T rfl ?_)
 obtain⟨x11,y11,g⟩:=g
 refine U.ix T y11 ?_
 refine U.pd 3 T (C.nx (C.ret (C.rt ?_)))
 exact C.f1 T o (pIi g)
 refine C.skip (C.xt (U.pd 1 T (C.nx (C.ret ?_))))
 exact C.f1 T o (pIi g)
theorem Yd (p:CbsProblem) (post:Bool→Prop) (g:Kz p post):
  Tr Tryz.prog 20 [.rp [.i p.s.Floor.W,.i p.s.Floor.H,.i p.s.Floor.D,.sl 1 eI p.s.Floor.Kind,.sl 1 eI p.s.Floor.Out,.sl 5 Q3 p.s.Zones,.sl 2 Q0 p.s.Aparts,.sl 2 Q1 p.s.Shelves,.sl 2 Q2 p.s.Robots,.sl 2 Q4 p.trips,.i p.tick,.sl 1 eI p.avoid,.i p.most]] [] 0 (pB post):=by
 refine Tr.go Tryz.func20 Tryz.ntmps20 fun _ _ _ _ o=>?_
 unfold Kz at g
 refine C.ss (U.pd 1 T (C.xt ?_))
 refine U.pd 3 T (C.xs (C.ss ?_))
 refine U.pd 8 T (C.nx ?_)
 refine C.jn (fun (x7:Int×Int)=>[(0,.rp [.i p.s.Floor.W,.i p.s.Floor.H,.i p.s.Floor.D,.sl 1 eI p.s.Floor.Kind,.sl 1 eI p.s.Floor.Out,.sl 5 Q3 p.s.Zones,.sl 2 Q0 p.s.Aparts,.sl 2 Q1 p.s.Shelves,.sl 2 Q2 p.s.Robots,.sl 2 Q4 p.trips,.i p.tick,.sl 1 eI p.avoid,.i p.most]),(3,.i x7.1),(4,.i x7.2),(5,.i 1)]) (fun x7=>[]) 0 g (fun x7 g=>?_) fun J8 g j8=>?_
 refine C.xs (C.ss (U.pd 6 T (C.nx ?_)))
 refine C.jn (fun (x31:Int)=>[(0,.rp [.i p.s.Floor.W,.i p.s.Floor.H,.i p.s.Floor.D,.sl 1 eI p.s.Floor.Kind,.sl 1 eI p.s.Floor.Out,.sl 5 Q3 p.s.Zones,.sl 2 Q0 p.s.Aparts,.sl 2 Q1 p.s.Shelves,.sl 2 Q2 p.s.Robots,.sl 2 Q4 p.trips,.i p.tick,.sl 1 eI p.avoid,.i p.most]),(5,.i x31)]) (fun x31=>[]) 0 g (fun x31 g=>?_) fun J32 g j32=>?_
 refine C.xs ?_
 refine C.jn (fun (x42:Bool)=>[(2,.b x42)]) (fun x42=>[]) 0 g (fun x42 g=>?_) fun J43 g j43=>?_
 refine C.nx (C.ret ?_)
 exact C.f1 T o (pBi g)
 refine U.start (U.ps 3 T rfl ?_)
 refine g.cs (fun b44 g=>?_) fun b44 g=>?_
 refine U.pq 5 2 true 50 b44 T ?_
 refine U.pk b44 ?_
 refine U.pd 1 T ?_
 exact St.wn (j43 _ g)
 refine U.sk' 5 2 true 50 b44 ?_
 refine U.pk' b44 ?_
 refine U.pd 1 T ?_
 exact St.wn (j43 _ g)
 refine C.block ?_
 refine St.wk (C.loop (fun (s33:Int×Int)=>[(0,.rp [.i p.s.Floor.W,.i p.s.Floor.H,.i p.s.Floor.D,.sl 1 eI p.s.Floor.Kind,.sl 1 eI p.s.Floor.Out,.sl 5 Q3 p.s.Zones,.sl 2 Q0 p.s.Aparts,.sl 2 Q1 p.s.Shelves,.sl 2 Q2 p.s.Robots,.sl 2 Q4 p.trips,.i p.tick,.sl 1 eI p.avoid,.i p.most]),(3,.i x7.1),(4,.i x7.2),(5,.i s33.1),(38,.i (p.trips.length:Int)),(39,.i s33.2)]) (fun s33=>[]) g (fun s33 Y34 g=>?_)) (Wk.e)
 refine C.ss (U.pd 1 T (C.xs ?_))
 refine C.ite rfl g (fun b37 g=>?_) fun b37 g=>?_
 refine C.skip (C.xs (C.block (U.start (U.pd 7 T (C.bnx (C.nx (U.start ?_)))))))
 refine U.pd 2 T (C.nx ?_)
 exact St.wk (C.next g) (Wk.e)
 refine C.exit (C.ex (C.ex (C.bex ?_)))
 exact St.wn (j32 _ g)
 refine C.block ?_
 refine St.wk (C.loop (fun (s9:Int×Int×Int)=>[(0,.rp [.i p.s.Floor.W,.i p.s.Floor.H,.i p.s.Floor.D,.sl 1 eI p.s.Floor.Kind,.sl 1 eI p.s.Floor.Out,.sl 5 Q3 p.s.Zones,.sl 2 Q0 p.s.Aparts,.sl 2 Q1 p.s.Shelves,.sl 2 Q2 p.s.Robots,.sl 2 Q4 p.trips,.i p.tick,.sl 1 eI p.avoid,.i p.most]),(3,.i s9.1),(4,.i s9.2.1),(5,.i 1),(13,.i (p.s.Floor.Kind.length:Int)),(14,.i s9.2.2)]) (fun s9=>[]) g (fun s9 Y10 g=>?_)) (Wk.e)
 refine C.ss (U.pd 1 T (C.xs ?_))
 refine C.ite rfl g (fun b13 g=>?_) fun b13 g=>?_
 refine C.skip (C.xs (C.block (C.ss (U.pd 2 T (C.xt ?_)))))
 refine U.ps 6 T rfl (U.k (WF p.s s9.2.2 _ g) en46 (fun x18 g=>?_))
 refine U.pd 2 T (C.xt ?_)
 refine U.ps 5 T rfl (U.k (Yf p.s s9.2.2 _ g) en23 (fun x21 g=>?_))
 refine U.done (C.nx ?_)
 refine C.jn (fun (x22:Int)=>[(0,.rp [.i p.s.Floor.W,.i p.s.Floor.H,.i p.s.Floor.D,.sl 1 eI p.s.Floor.Kind,.sl 1 eI p.s.Floor.Out,.sl 5 Q3 p.s.Zones,.sl 2 Q0 p.s.Aparts,.sl 2 Q1 p.s.Shelves,.sl 2 Q2 p.s.Robots,.sl 2 Q4 p.trips,.i p.tick,.sl 1 eI p.avoid,.i p.most]),(3,.i x22),(4,.i (imax s9.2.1 x18)),(5,.i 1),(13,.i (p.s.Floor.Kind.length:Int)),(14,.i s9.2.2)]) (fun x22=>[]) 0 g (fun x22 g=>?_) fun J23 g j23=>?_
 refine C.bnx (C.nx (U.start (U.pd 2 T (C.nx ?_))))
 exact St.wk (C.next g) (Wk.e)
 refine C.ite rfl g (fun b24 g=>?_) fun b24 g=>?_
 refine U.start (U.pd 3 T ?_)
 exact St.wn (j23 _ g)
 refine C.skip ?_
 exact St.wn (j23 _ g)
 refine C.exit (C.ex (C.ex (C.bex ?_)))
 exact St.wn (j8 _ g)
theorem ZL (vals:List Int) (post:Int→Prop) (g:Gf vals post):
  Tr Tryz.prog 98 [.sl 1 eI vals] [] 0 (pI post):=by
 refine Tr.go Tryz.func98 Tryz.ntmps98 fun _ _ _ _ o=>?_
 unfold Gf at g
 refine C.ss (U.pd 1 T (C.xt ?_))
 refine U.pd 1 T (C.xs (C.ss ?_))
 refine U.pd 3 T (C.nx ?_)
 refine C.jn (fun (x7:Unit)=>[(3,.i 0)]) (fun x7=>[]) 0 g (fun x7 g=>?_) fun J8 g j8=>?_
 refine C.xt (U.pd 2 T (C.nx (C.ret ?_)))
 exact C.f1 T o (pIi g)
 refine C.block (St.wk (C.loop (fun (s9:Int)=>[(3,.i 0),(6,.sl 1 eI vals),(7,.i (vals.length:Int)),(8,.i s9)]) (fun s9=>[]) g (fun s9 Y10 g=>?_)) (Wk.e))
 refine C.ss (U.pd 1 T (C.xs ?_))
 refine C.ite rfl g (fun b13 g=>?_) fun b13 g=>?_
 refine C.skip (C.xs (C.block (C.ss ?_)))
 obtain⟨x16,y16,g⟩:=g
 refine U.ix T y16 ?_
 refine U.pd 2 T (C.xt ?_)
 refine U.pd 3 T (C.nx ?_)
 refine C.ite rfl g (fun b19 g=>?_) fun b19 g=>?_
 refine C.ss (U.pd 2 T (C.nx (C.ret (C.brt (C.rt (C.rt (C.brt (C.rt ?_))))))))
 exact C.f1 T o (pIi g)
 refine C.skip (C.bnx (C.nx (U.start (U.pd 2 T (C.nx ?_)))))
 exact St.wk (C.next g) (Wk.e)
 refine C.exit (C.ex (C.ex (C.bex ?_)))
 exact St.wn (j8 _ g)
theorem Q02 (a:CbsPlace) (b:CbsPlace) (post:Int→Prop) (g:XS a b post):
  Tr Tryz.prog 97 [.agg (Qc a),.agg (Qc b)] [] 0 (pI post):=by
 refine Tr.go Tryz.func97 Tryz.ntmps97 fun _ _ _ _ o=>?_
 unfold XS at g
 refine C.ss (U.bx ?_)
 refine U.bx ?_
 refine U.pd 1 T (C.xt ?_)
 refine U.ps 10 T rfl (U.bs T eI ([w64 (a.cell-b.cell),w64 (a.rest-b.rest)]:List Int) ?_)
 refine U.k (ZL ([w64 (a.cell-b.cell),w64 (a.rest-b.rest)]:List Int) _ g) en98 fun x5 g=>?_
 refine U.pd 1 T (C.xs (C.seq ?_))
 refine C.jn (fun (x6:Bool)=>[(2,.p 0 0),(5,.i x5),(26,.b x6)]) (fun x6=>[(0,.box (Qc a))]) 1 g (fun x6 g=>?_) fun J7 g j7=>?_
 refine C.nx ?_
 refine C.jn (fun (x9:Int)=>[(5,.i x9)]) (fun x9=>[]) 0 g (fun x9 g=>?_) fun J10 g j10=>?_
 refine C.xt (U.pd 2 T (C.nx (C.ret ?_)))
 exact C.f1 T o (pIi g)
 refine C.ite rfl g (fun b11 g=>?_) fun b11 g=>?_
 refine C.ss (U.pd 1 T (C.xt ?_))
 refine U.pd 2 T (C.nx ?_)
 refine C.jn (fun (x16:Int)=>[(5,.i x16)]) (fun x16=>[]) 0 g (fun x16 g=>?_) fun J17 g j17=>?_
 exact St.wn (j10 _ g)
 refine C.ite rfl g (fun b18 g=>?_) fun b18 g=>?_
 refine U.start (U.pd 1 T ?_)
 exact St.wn (j17 _ g)
 refine C.skip ?_
 exact St.wn (j17 _ g)
 refine C.skip ?_
 exact St.wn (j10 _ g)
 refine U.start (U.ps 3 T rfl ?_)
 refine g.cs (fun b8 g=>?_) fun b8 g=>?_
 refine U.pq 5 2 true 20 b8 T ?_
 refine U.pk b8 ?_
 refine U.done ?_
 exact St.wa [some 0] (j7 _ g)
 refine U.sk' 5 2 true 20 b8 ?_
 refine U.pk' b8 ?_
 refine U.done ?_
 exact St.wa [some 0] (j7 _ g)
theorem K6 (s1_1:List CbsPlace) (s2_1:List CbsPlace) (post:Int→Prop) (g:Qb s1_1 s2_1 post):
  Tr Tryz.prog 101 [.sl 3 Qc s1_1,.sl 3 Qc s2_1,.fn (.func 97) [] []] [] 0 (pI post):=by
 refine Tr.go Tryz.func101 Tryz.ntmps101 fun _ _ _ _ o=>?_
 unfold Qb at g
 refine C.ss (U.pd 1 T (C.xs (C.ss ?_)))
 refine U.pd 3 T (C.nx ?_)
 refine C.jn (fun (x5:Unit)=>[(0,.sl 3 Qc s1_1),(1,.sl 3 Qc s2_1)]) (fun x5=>[]) 0 g (fun x5 g=>?_) fun J6 g j6=>?_
 refine C.xs (C.ss (U.pd 5 T (C.nx ?_)))
 refine C.ite rfl g (fun b35 g=>?_) fun b35 g=>?_
 refine C.ss (U.pd 1 T (C.nx (C.ret (C.rt ?_))))
 exact C.f1 T o (pIi g)
 refine C.skip (C.xt (U.pd 1 T (C.nx (C.ret ?_))))
 exact C.f1 T o (pIi g)
 refine C.block (St.wk (C.loop (fun (s7:Int)=>[(0,.sl 3 Qc s1_1),(1,.sl 3 Qc s2_1),(2,.fn (.func 97) [] []),(11,.sl 3 Qc s1_1),(12,.i (s1_1.length:Int)),(13,.i s7)]) (fun s7=>[]) g (fun s7 Y8 g=>?_)) (Wk.e))
 refine C.ss (U.pd 1 T (C.xs ?_))
 refine C.ite rfl g (fun b11 g=>?_) fun b11 g=>?_
 refine C.skip (C.xs (C.block (C.ss (U.ps 1 T rfl ?_))))
 obtain⟨x14,y14,g⟩:=g
 refine U.ix T y14 ?_
 refine U.ps 1 T rfl (U.al T ?_)
 refine U.ps 1 T rfl (U.st T ?_)
 refine U.done (C.xs (C.ss (U.pd 4 T (C.nx ?_))))
 refine C.ite rfl g (fun b17 g=>?_) fun b17 g=>?_
 refine C.ss (U.pd 1 T (C.nx (C.ret (C.rt (C.brt (C.rt (C.rt (C.brt (C.rt ?_)))))))))
 exact C.f1 T o (pIi g)
 refine C.skip (C.xt (U.ps 2 T rfl ?_))
 obtain⟨x22,y22,g⟩:=g
 refine U.ix T y22 ?_
 refine U.ps 1 T rfl (U.al T ?_)
 refine U.st T ?_
 refine U.done (C.xt (U.ps 3 T rfl (U.k (Q02 x14 x22 _ g) en97 (fun x25 g=>?_))))
 refine U.pd 1 T (C.xt ?_)
 refine U.pd 2 T (C.nx ?_)
 refine C.ite rfl g (fun b28 g=>?_) fun b28 g=>?_
 refine C.ss (U.pd 2 T (C.nx (C.ret (C.brt (C.rt (C.rt (C.brt (C.rt ?_))))))))
 exact C.f1 T o (pIi g)
 refine C.skip (C.bnx (C.nx (U.start (U.pd 2 T (C.nx ?_)))))
 exact St.wk (C.next g) (Wk.e)
 refine C.exit (C.ex (C.ex (C.bex ?_)))
 exact St.wn (j6 _ g)
theorem Q0l (a:Arr4CbsPlace) (b:Arr4CbsPlace) (post:Int→Prop) (g:XN a b post):
  Tr Tryz.prog 100 [.agg [.i a.e0.cell,.i a.e0.rest,.b a.e0.done,.i a.e1.cell,.i a.e1.rest,.b a.e1.done,.i a.e2.cell,.i a.e2.rest,.b a.e2.done,.i a.e3.cell,.i a.e3.rest,.b a.e3.done],.agg [.i b.e0.cell,.i b.e0.rest,.b b.e0.done,.i b.e1.cell,.i b.e1.rest,.b b.e1.done,.i b.e2.cell,.i b.e2.rest,.b b.e2.done,.i b.e3.cell,.i b.e3.rest,.b b.e3.done],.rp [.v (.func (.func 97) #[] #[])]] [] 0 (pI post):=by
 refine Tr.go Tryz.func100 Tryz.ntmps100 fun _ _ _ _ o=>?_
 unfold XN at g
 refine C.ss (U.bx ?_)
 refine U.bx ?_
 refine U.pd 1 T (C.xs ?_)
 refine St.wk (Γ':=[(0,.agg [.i a.e0.cell,.i a.e0.rest,.b a.e0.done,.i a.e1.cell,.i a.e1.rest,.b a.e1.done,.i a.e2.cell,.i a.e2.rest,.b a.e2.done,.i a.e3.cell,.i a.e3.rest,.b a.e3.done]),(1,.agg [.i b.e0.cell,.i b.e0.rest,.b b.e0.done,.i b.e1.cell,.i b.e1.rest,.b b.e1.done,.i b.e2.cell,.i b.e2.rest,.b b.e2.done,.i b.e3.cell,.i b.e3.rest,.b b.e3.done]),(2,.rp [.v (.func (.func 97) #[] #[])]),(3,.rp [.i a.e0.cell,.i a.e0.rest,.b a.e0.done,.i a.e1.cell,.i a.e1.rest,.b a.e1.done,.i a.e2.cell,.i a.e2.rest,.b a.e2.done,.i a.e3.cell,.i a.e3.rest,.b a.e3.done]),(4,.p 0 0),(5,.i 0)]) (H':=[(0,.box [.i b.e0.cell,.i b.e0.rest,.b b.e0.done,.i b.e1.cell,.i b.e1.rest,.b b.e1.done,.i b.e2.cell,.i b.e2.rest,.b b.e2.done,.i b.e3.cell,.i b.e3.rest,.b b.e3.done])]) (nl':=1) ?_ (Wk.mk' [some 1] rfl rfl ⟨⟨_,rfl,(.eq rfl)⟩,⟨_,rfl,(.eq rfl)⟩,⟨_,rfl,(.eq rfl)⟩,⟨_,rfl,(.fzp rfl rfl rfl rfl (.eq rfl) rfl)⟩,ChkG.eqs rfl⟩ ⟨bX,trivial⟩ rfl)
 refine St.wk (Γ':=[(0,.agg [.i a.e0.cell,.i a.e0.rest,.b a.e0.done,.i a.e1.cell,.i a.e1.rest,.b a.e1.done,.i a.e2.cell,.i a.e2.rest,.b a.e2.done,.i a.e3.cell,.i a.e3.rest,.b a.e3.done]),(1,.agg [.i b.e0.cell,.i b.e0.rest,.b b.e0.done,.i b.e1.cell,.i b.e1.rest,.b b.e1.done,.i b.e2.cell,.i b.e2.rest,.b b.e2.done,.i b.e3.cell,.i b.e3.rest,.b b.e3.done]),(2,.rp [.v (.func (.func 97) #[] #[])]),(3,.rp [.i a.e0.cell,.i a.e0.rest,.b a.e0.done,.i a.e1.cell,.i a.e1.rest,.b a.e1.done,.i a.e2.cell,.i a.e2.rest,.b a.e2.done,.i a.e3.cell,.i a.e3.rest,.b a.e3.done]),(4,.rp [.i b.e0.cell,.i b.e0.rest,.b b.e0.done,.i b.e1.cell,.i b.e1.rest,.b b.e1.done,.i b.e2.cell,.i b.e2.rest,.b b.e2.done,.i b.e3.cell,.i b.e3.rest,.b b.e3.done]),(5,.i 0)]) (H':=[]) (nl':=0) ?_ (Wk.mk' [] rfl rfl ⟨⟨_,rfl,(.eq rfl)⟩,⟨_,rfl,(.eq rfl)⟩,⟨_,rfl,(.eq rfl)⟩,⟨_,rfl,(.eq rfl)⟩,⟨_,rfl,(.fzp rfl rfl rfl rfl (.eq rfl) rfl)⟩,ChkG.eqs rfl⟩ trivial rfl)
 refine D.bq mix 9999 [] [] (fun hQ hS ws M'=>?_)
 refine D.q 0 [] hQ hS rfl (.none rfl) rfl rfl (by exact Rd.sar T (enc:=Qc) (xs:=([a.e0,a.e1,a.e2,a.e3]:List CbsPlace)) rfl rfl rfl rfl rfl rfl (fun _=>rfl) rfl) rfl (by kernel_rfl) ?_
 refine D.q 1 [] hQ hS rfl (.none rfl) rfl rfl (by exact Rd.sar T (enc:=Qc) (xs:=([b.e0,b.e1,b.e2,b.e3]:List CbsPlace)) rfl rfl rfl rfl rfl rfl (fun _=>rfl) rfl) rfl (by kernel_rfl) ?_
 refine D.q 2 [] hQ hS rfl (.none rfl) rfl rfl (by exact Rd.fnv (Rd.l T rfl rfl rfl)) rfl (by kernel_rfl) ?_
 refine D.k 3 (K6 ([a.e0,a.e1,a.e2,a.e3]:List CbsPlace) ([b.e0,b.e1,b.e2,b.e3]:List CbsPlace) _ g) Q6B fun x5 g=>?_
 refine D.pq 1 [(4,[])] T ?_
 refine D.done (by kernel_rfl) ?_
 refine C.nx (C.ret ?_)
 exact C.f1 T o (pIi g)
def Q6j:Go.Shelf.Ren:=⟨fun | 6=>99 | 14=>146 | 15=>139 | 20=>188 | 21=>189 | 22=>190 | 23=>191 | 24=>192 | 25=>193 | 26=>194 | 27=>195 | 28=>183 | 29=>184 | 46=>211 | 47=>206 | 48=>207 | 49=>212 | 50=>213 | 57=>225 | n=>n,fun | 0=>0 | 3=>3 | 4=>4 | 5=>5 | 9=>9 | 22=>113 | 24=>107 | 25=>179 | 39=>193 | 45=>253 | 46=>254 | 50=>80 | 53=>260 | 55=>262 | 66=>280 | 70=>284 | 76=>293 | 77=>294 | n=>n,fun n=>n⟩
theorem Q6L:SlLaysF0.n6 Tryz.prog Q6j where
 mixed:=by kernel_rfl
 f6:=⟨Tryz.f99.name,by decide,Tryz.func99.trans (congrArg some (by kernel_rfl))⟩
 f14:=⟨Tryz.f146.name,by decide,Tryz.func146.trans (congrArg some (by kernel_rfl))⟩
 f15:=Tryz.func139.trans (congrArg some (by kernel_rfl))
 f20:=⟨Tryz.f188.name,by decide,Tryz.func188.trans (congrArg some (by kernel_rfl))⟩
 f21:=⟨Tryz.f189.name,by decide,Tryz.func189.trans (congrArg some (by kernel_rfl))⟩
 f22:=⟨Tryz.f190.name,by decide,Tryz.func190.trans (congrArg some (by kernel_rfl))⟩
 f23:=⟨Tryz.f191.name,by decide,Tryz.func191.trans (congrArg some (by kernel_rfl))⟩
 f24:=⟨Tryz.f192.name,by decide,Tryz.func192.trans (congrArg some (by kernel_rfl))⟩
 f25:=⟨Tryz.f193.name,by decide,Tryz.func193.trans (congrArg some (by kernel_rfl))⟩
 f26:=⟨Tryz.f194.name,by decide,Tryz.func194.trans (congrArg some (by kernel_rfl))⟩
 f27:=⟨Tryz.f195.name,by decide,Tryz.func195.trans (congrArg some (by kernel_rfl))⟩
 f28:=Tryz.func183.trans (congrArg some (by kernel_rfl))
 f29:=Tryz.func184.trans (congrArg some (by kernel_rfl))
 f46:=⟨Tryz.f211.name,by decide,Tryz.func211.trans (congrArg some (by kernel_rfl))⟩
 f47:=Tryz.func206.trans (congrArg some (by kernel_rfl))
 f48:=Tryz.func207.trans (congrArg some (by kernel_rfl))
 f49:=⟨Tryz.f212.name,by decide,Tryz.func212.trans (congrArg some (by kernel_rfl))⟩
 f50:=⟨Tryz.f213.name,by decide,Tryz.func213.trans (congrArg some (by kernel_rfl))⟩
 f57:=⟨Tryz.f225.name,by decide,Tryz.func225.trans (congrArg some (by kernel_rfl))⟩
 t0:=Tryz.underlying0
 a0:=Tryz.isAgg0
 z0:=Tryz.sizeOf0
 v0:=Tryz.zeroValue0
 t3:=Tryz.underlying3
 a3:=Tryz.isAgg3
 z3:=Tryz.sizeOf3
 v3:=Tryz.zeroValue3
 t4:=Tryz.underlying4
 a4:=Tryz.isAgg4
 z4:=Tryz.sizeOf4
 v4:=Tryz.zeroValue4
 t5:=Tryz.underlying5
 a5:=Tryz.isAgg5
 z5:=Tryz.sizeOf5
 v5:=Tryz.zeroValue5
 t9:=Tryz.underlying9
 a9:=Tryz.isAgg9
 z9:=Tryz.sizeOf9
 v9:=Tryz.zeroValue9
 t22:=Tryz.underlying113
 a22:=Tryz.isAgg113
 z22:=Tryz.sizeOf113
 v22:=Tryz.zeroValue113
 t25:=Tryz.underlying179
 a25:=Tryz.isAgg179
 z25:=Tryz.sizeOf179
 v25:=Tryz.zeroValue179
 t39:=Tryz.underlying193
 a39:=Tryz.isAgg193
 z39:=Tryz.sizeOf193
 v39:=Tryz.zeroValue193
 t45:=Tryz.underlying253
 a45:=Tryz.isAgg253
 z45:=Tryz.sizeOf253
 v45:=Tryz.zeroValue253
 t46:=Tryz.underlying254
 a46:=Tryz.isAgg254
 z46:=Tryz.sizeOf254
 v46:=Tryz.zeroValue254
 t50:=Tryz.underlying80
 a50:=Tryz.isAgg80
 z50:=Tryz.sizeOf80
 v50:=Tryz.zeroValue80
 t53:=Tryz.underlying260
 a53:=Tryz.isAgg260
 z53:=Tryz.sizeOf260
 v53:=Tryz.zeroValue260
 t55:=Tryz.underlying262
 a55:=Tryz.isAgg262
 z55:=Tryz.sizeOf262
 v55:=Tryz.zeroValue262
 t66:=Tryz.underlying280
 a66:=Tryz.isAgg280
 z66:=Tryz.sizeOf280
 v66:=Tryz.zeroValue280
 t70:=Tryz.underlying284
 a70:=Tryz.isAgg284
 z70:=Tryz.sizeOf284
 v70:=Tryz.zeroValue284
 t76:=Tryz.underlying293
 a76:=Tryz.isAgg293
 z76:=Tryz.sizeOf293
 v76:=Tryz.zeroValue293
 t77:=Tryz.underlying294
 a77:=Tryz.isAgg294
 z77:=Tryz.sizeOf294
 v77:=Tryz.zeroValue294
theorem KI (p0:List Arr4CbsPlace) (post:List Arr4CbsPlace→Prop) (g:Qm p0 post):
  Tr Tryz.prog 99 [.o 0,.fn (.func 100) [] [.rp [.v (.func (.func 97) #[] #[])]]] [(0,.val (.os 12 Ku p0))] 1 (fun A H' k=>∃y,post y∧A=(.tup [])∧H'=[(0,.val (.os 12 Ku y))]∧k=1):=by
 unfold Qm at g
 obtain⟨p,cf,h0,hO,hp,hcmp,hsz,hpost⟩:=g
 exact Tr.sortFuncCP (caps:=[.rp [.v (.func (.func 97) #[] #[])]]) (by intro A h;simp only [List.mem_cons,List.not_mem_nil,or_false] at h;subst h;rfl) (k:=12) Q6L Tryz.isAgg107 Tryz.sizeOf107 (fun _=>rfl) (fun _=>rfl) Q6A h0 hO p0 hp (fun x y hx hy=>Q0l x y _ (hcmp x y hx hy)) hsz hpost
theorem Q1y (layer:List (Arr4CbsPlace×CbsStep)) (post:(List Arr4CbsPlace)→Prop) (g:Gl layer post):
  Tr Tryz.prog 47 [.rm Qa QD layer] [] 0 (fun A H' k=>∃y,post y∧A=(.o 0)∧H'=[(0,.val (.os 12 Ku y))]∧k=1):=by
 refine Tr.go Tryz.func47 Tryz.ntmps47 fun _ _ _ _ o=>?_
 unfold Gl at g
 refine C.ss (U.pd 1 T (C.xt ?_))
 refine U.pd 1 T (C.xs (C.ss ?_))
 refine U.ps 1 T rfl (U.e1 rfl (.none rfl) (by exact Eff1.rgm T rfl rfl rfl rfl rfl) ?_)
 refine U.done (C.nx ?_)
 refine C.jn (fun (x7:List Arr4CbsPlace)=>[(3,.o 0)]) (fun x7=>[(0,.val (.os 12 Ku x7))]) 1 g (fun x7 g=>?_) fun J8 g j8=>?_
 refine C.xt (U.al T ?_)
 refine U.st T ?_
 refine U.done (C.xt (U.ps 2 T rfl ?_))
 refine U.e rfl (.none rfl) (by exact Eff.c [some 0] (v:=true) (KI x7 _ g) en99 rfl rfl rfl (.cons (.eq rfl) (.cons (.fn (.eq rfl) (.cons (.fzp rfl rfl rfl rfl (.cons (.fnv _) .nil) rfl) .nil)) .nil)) ⟨vL,trivial⟩ rfl rfl rfl rfl rfl rfl (fun _ _=>⟨(.tup .nil),⟨.val (.os _ _ _ fun _=>(.cons (.v _) (.cons (.v _) (.cons (.v _) (.cons (.v _) (.cons (.v _) (.cons (.v _) (.cons (.v _) (.cons (.v _) (.cons (.v _) (.cons (.v _) (.cons (.v _) (.cons (.v _) .nil))))))))))))),trivial⟩⟩) (.inl rfl) (fun _=>rfl) (fun _=>rfl) rfl) (fun x22' g=>?_)
 obtain⟨x22⟩:=x22'
 refine U.done (C.xt (U.pd 2 T (C.nx (C.ret ?_))))
 exact C.g1 [some 0] T o ⟨x22,g,rfl,rfl,rfl⟩
 refine C.block ?_
 refine St.wk (C.loop (fun (s9:List Arr4CbsPlace×List Arr4CbsPlace)=>[(3,.o 0),(7,.o 1)]) (fun s9=>[(0,.val (.os 12 Ku s9.1)),(1,.rngm Qa QD layer s9.2)]) g (fun s9 Y10 g=>?_)) (Wk.mk' [none,some 0] rfl rfl ⟨⟨_,rfl,(.nilO _ _ ⟨rfl,rfl⟩ rfl)⟩,ChkG.eqs rfl⟩ ⟨⟨_,rfl,.nil _ _⟩,⟨_,rfl,.rngm rfl⟩,trivial⟩ rfl)
 refine C.ss (U.e rfl (.none rfl) (by exact Eff.nxm (ke:=Qa) (ve:=QD) (li:=1) rfl rfl rfl rfl rfl) (fun y' h'=>?_))
 obtain⟨_ | ⟨x11,x12⟩⟩:=y'
 replace g:=g.2 h'
 refine U.pd 1 T (C.xs ?_)
 refine C.condF rfl rfl ?_
 refine C.exit (C.ex (C.ex (C.bex ?_)))
 exact St.wa [some 0] (j8 _ g)
 have y11:=h'
 replace g:=g.1 x11 x12 h'
 refine U.pd 1 T (C.xs ?_)
 refine C.condT rfl rfl ?_
 refine C.skip (C.nx (C.block (C.ss (U.r rfl (.none rfl) rfl rfl (by exact Rd.enm (ke:=Qa) (ve:=QD) rfl rfl rfl rfl y11.1) ?_))))
 refine U.ps 1 T rfl (U.al T ?_)
 refine U.st T ?_
 refine U.done (C.nx (U.start (U.ps 2 T rfl (U.bs T Ku ([x11]:List Arr4CbsPlace) ?_))))
 obtain⟨y17,g⟩:=g
 refine U.ap T y17 ?_
 refine U.pd 1 T (C.bnx (C.nx ?_))
 exact St.wk (C.next g) (Wk.f [some 4,some 1] ⟨vL,⟨_,rfl,.rngm rfl⟩,trivial⟩)
theorem WW (p:CbsProblem) (at_1:Arr4CbsPlace) (post:Bool→Prop) (g:KB p at_1 post):
  Tr Tryz.prog 48 [.rp [.i p.s.Floor.W,.i p.s.Floor.H,.i p.s.Floor.D,.sl 1 eI p.s.Floor.Kind,.sl 1 eI p.s.Floor.Out,.sl 5 Q3 p.s.Zones,.sl 2 Q0 p.s.Aparts,.sl 2 Q1 p.s.Shelves,.sl 2 Q2 p.s.Robots,.sl 2 Q4 p.trips,.i p.tick,.sl 1 eI p.avoid,.i p.most],.agg [.i at_1.e0.cell,.i at_1.e0.rest,.b at_1.e0.done,.i at_1.e1.cell,.i at_1.e1.rest,.b at_1.e1.done,.i at_1.e2.cell,.i at_1.e2.rest,.b at_1.e2.done,.i at_1.e3.cell,.i at_1.e3.rest,.b at_1.e3.done]] [] 0 (pB post):=by
 refine Tr.go Tryz.func48 Tryz.ntmps48 fun _ _ _ _ o=>?_
 unfold KB at g
 refine C.ss (U.bx ?_)
 refine U.pd 1 T (C.xs (C.ss ?_))
 refine U.pd 6 T (C.nx ?_)
 refine C.jn (fun (x5:Unit)=>[]) (fun x5=>[]) 0 g (fun x5 g=>?_) fun J6 g j6=>?_
 refine C.xt (U.pd 1 T (C.nx (C.ret ?_)))
 exact C.f1 T o (pBi g)
 refine C.block ?_
 refine St.wk (C.loop (fun (s7:Int)=>[(3,.p 0 0),(10,.sl 2 Q4 p.trips),(11,.i (p.trips.length:Int)),(12,.i s7)]) (fun s7=>[(0,.box [.i at_1.e0.cell,.i at_1.e0.rest,.b at_1.e0.done,.i at_1.e1.cell,.i at_1.e1.rest,.b at_1.e1.done,.i at_1.e2.cell,.i at_1.e2.rest,.b at_1.e2.done,.i at_1.e3.cell,.i at_1.e3.rest,.b at_1.e3.done])]) g (fun s7 Y8 g=>?_)) (Wk.a [some 0])
 refine C.ss (U.pd 1 T (C.xs ?_))
 refine C.ite rfl g (fun b11 g=>?_) fun b11 g=>?_
 refine C.skip (C.xs (C.block (C.ss (U.ps 1 T rfl ?_))))
 obtain⟨x14,y14,g⟩:=g
 refine U.ix T y14 ?_
 refine U.ps 1 T rfl (U.al T ?_)
 refine U.ps 1 T rfl (U.st T ?_)
 refine U.done (C.xs (D.bq mix 9999 [0,1] [] (fun hQ hS ws M'=>?_)))
 refine D.pq 1 [(0,[])] T ?_
 obtain⟨x18,y18,g⟩:=g
 refine D.q 1 [] hQ hS rfl (.none rfl) rfl rfl (by exact Rd.pi T rfl rfl rfl rfl rfl rfl ⟨(Qi y18).1,(Qi y18).2.1⟩) rfl (by kernel_rfl) ?_
 refine D.pq 1 [(2,[])] T ?_
 refine D.q 3 [] hQ hS rfl (.none rfl) rfl rfl (by exact Rd.lj T (pre:=[]) (post:=[]) (enc:=Qc) (xs:=([at_1.e0,at_1.e1,at_1.e2,at_1.e3]:List CbsPlace)) (m:=3) (sub:=0) (j:=s7) rfl rfl rfl rfl rfl (fun _=>rfl) y18 rfl rfl rfl) rfl (by kernel_rfl) ?_
 refine D.pq 3 (zl [4,5,6]) T ?_
 refine D.done (by kernel_rfl) ?_
 refine C.nx ?_
 refine C.ite rfl g (fun b19 g=>?_) fun b19 g=>?_
 refine C.ss (U.pd 1 T (C.nx (C.ret (C.brt (C.rt (C.rt (C.brt (C.rt ?_))))))))
 exact C.f1 T o (pBi g)
 refine C.skip (C.bnx (C.nx (U.start (U.pd 2 T (C.nx ?_)))))
 exact St.wk (C.next g) (Wk.a [some 0])
 refine C.exit (C.ex (C.ex (C.bex ?_)))
 exact St.wk (j6 _ g) (Wk.mk' [] rfl rfl trivial trivial rfl)
theorem WS (s_1:List Int) (v:Int) (post:Int→Prop) (g:Ko s_1 v post):
  Tr Tryz.prog 142 [.sl 1 eI s_1,.i v] [] 0 (pI post):=by
 refine Tr.go Tryz.func142 Tryz.ntmps142 fun _ _ _ _ o=>?_
 unfold Ko at g
 refine C.ss (U.pd 1 T (C.xs (C.ss ?_)))
 refine U.pd 3 T (C.nx ?_)
 refine C.jn (fun (x5:Unit)=>[]) (fun x5=>[]) 0 g (fun x5 g=>?_) fun J6 g j6=>?_
 refine C.xt (U.pd 1 T (C.nx (C.ret ?_)))
 exact C.f1 T o (pIi g)
 refine C.block (St.wk (C.loop (fun (s7:Int)=>[(0,.sl 1 eI s_1),(1,.i v),(7,.i (s_1.length:Int)),(8,.i s7)]) (fun s7=>[]) g (fun s7 Y8 g=>?_)) (Wk.e))
 refine C.ss (U.pd 1 T (C.xs ?_))
 refine C.ite rfl g (fun b11 g=>?_) fun b11 g=>?_
 refine C.skip (C.xs (C.block (C.ss (U.pd 2 T (C.xt ?_)))))
 refine U.ps 3 T rfl ?_
 obtain⟨x16,y16,g⟩:=g
 refine U.ix T y16 ?_
 refine U.pd 2 T (C.nx ?_)
 refine C.ite rfl g (fun b17 g=>?_) fun b17 g=>?_
 refine C.ss (U.pd 2 T (C.nx (C.ret (C.brt (C.rt (C.rt (C.brt (C.rt ?_))))))))
 exact C.f1 T o (pIi g)
 refine C.skip (C.bnx (C.nx (U.start (U.pd 2 T (C.nx ?_)))))
 exact St.wk (C.next g) (Wk.e)
 refine C.exit (C.ex (C.ex (C.bex ?_)))
 exact St.wk (j6 _ g) (Wk.mk' [] rfl rfl trivial trivial rfl)
theorem Kw (s_1:List Int) (v:Int) (post:Bool→Prop) (g:Qy s_1 v post):
  Tr Tryz.prog 94 [.sl 1 eI s_1,.i v] [] 0 (pB post):=by
 refine Tr.go Tryz.func94 Tryz.ntmps94 fun _ _ _ _ o=>?_
 unfold Qy at g
 refine C.ss (U.pd 1 T (C.xt ?_))
 refine U.ps 2 T rfl (U.k (WS s_1 v _ g) Q6l (fun x5 g=>?_))
 refine U.pd 2 T (C.nx (C.ret ?_))
 exact C.f1 T o (pBi g)
theorem Ww (c:Int) (c0:List Int) (post:Bool→Prop) (g:QZ c c0 post):
  Tr Tryz.prog 103 [.i c,.rp [.sl 1 eI c0]] [] 0 (pB post):=by
 refine Tr.go Tryz.func103 Tryz.ntmps103 fun _ _ _ _ o=>?_
 unfold QZ at g
 refine C.ss (U.pd 1 T (C.xt ?_))
 refine U.ps 2 T rfl (U.k (Kw c0 c _ g) en94 (fun x5 g=>?_))
 refine U.pd 1 T (C.nx (C.ret ?_))
 exact C.f1 T o (pBi g)
theorem X5 (s_1:List Int) (f_c0:List Int) (post:Int→Prop) (g:Qu s_1 f_c0 post):
  Tr Tryz.prog 109 [.sl 1 eI s_1,.fn (.func 103) [] [.rp [.sl 1 eI f_c0]]] [] 0 (pI post):=by
 refine Tr.go Tryz.func109 Tryz.ntmps109 fun _ _ _ _ o=>?_
 unfold Qu at g
 refine C.ss (U.pd 1 T (C.xs (C.ss ?_)))
 refine U.pd 3 T (C.nx ?_)
 refine C.jn (fun (x5:Unit)=>[]) (fun x5=>[]) 0 g (fun x5 g=>?_) fun J6 g j6=>?_
 refine C.xt (U.pd 1 T (C.nx (C.ret ?_)))
 exact C.f1 T o (pIi g)
 refine C.block (St.wk (C.loop (fun (s7:Int)=>[(0,.sl 1 eI s_1),(1,.fn (.func 103) [] [.rp [.sl 1 eI f_c0]]),(7,.i (s_1.length:Int)),(8,.i s7)]) (fun s7=>[]) g (fun s7 Y8 g=>?_)) (Wk.e))
 refine C.ss (U.pd 1 T (C.xs ?_))
 refine C.ite rfl g (fun b11 g=>?_) fun b11 g=>?_
 refine C.skip (C.xs (C.block (C.ss (U.pd 2 T (C.xt ?_)))))
 refine U.ps 3 T rfl ?_
 obtain⟨x16,y16,g⟩:=g
 refine U.ix T y16 ?_
 refine U.ps 1 T rfl (U.k (Ww x16 f_c0 _ g) Q6I (fun x17 g=>?_))
 refine U.done (C.nx ?_)
 refine C.ite rfl g (fun b18 g=>?_) fun b18 g=>?_
 refine C.ss (U.pd 2 T (C.nx (C.ret (C.brt (C.rt (C.rt (C.brt (C.rt ?_))))))))
 exact C.f1 T o (pIi g)
 refine C.skip (C.bnx (C.nx (U.start (U.pd 2 T (C.nx ?_)))))
 exact St.wk (C.next g) (Wk.e)
 refine C.exit (C.ex (C.ex (C.bex ?_)))
 exact St.wk (j6 _ g) (Wk.mk' [] rfl rfl trivial trivial rfl)
theorem KN (s_1:List Int) (f_c0:List Int) (post:Bool→Prop) (g:Qp s_1 f_c0 post):
  Tr Tryz.prog 58 [.sl 1 eI s_1,.fn (.func 103) [] [.rp [.sl 1 eI f_c0]]] [] 0 (pB post):=by
 refine Tr.go Tryz.func58 Tryz.ntmps58 fun _ _ _ _ o=>?_
 unfold Qp at g
 refine C.ss (U.pd 1 T (C.xt ?_))
 refine U.ps 2 T rfl (U.k (X5 s_1 f_c0 _ g) Q5e (fun x5 g=>?_))
 refine U.pd 2 T (C.nx (C.ret ?_))
 exact C.f1 T o (pBi g)
theorem XF (cells:List Int) (c0:List Int) (post:Bool→Prop) (g:QW cells c0 post):
  Tr Tryz.prog 102 [.sl 1 eI cells,.rp [.sl 1 eI c0]] [] 0 (pB post):=by
 refine Tr.go Tryz.func102 Tryz.ntmps102 fun _ _ _ _ o=>?_
 unfold QW at g
 refine C.ss (U.pd 1 T (C.xt ?_))
 refine U.ps 2 T rfl (U.k (KN cells c0 _ g) en58 (fun x5 g=>?_))
 refine U.pd 2 T (C.nx (C.ret ?_))
 exact C.f1 T o (pBi g)
theorem Kq (s_1:List Int) (post:(List Int)→Prop) (g:QV s_1 post):
  Tr Tryz.prog 79 [.sl 1 eI s_1] [] 0 (fun A H' k=>∃y,post y∧A=(.o 0)∧H'=[(0,.val (.os 1 eI y))]∧k=1):=by
 refine Tr.go Tryz.func79 Tryz.ntmps79 fun _ _ _ _ o=>?_
 unfold QV at g
 refine C.ss (U.pd 1 T (C.xs (C.ss ?_)))
 refine U.ps 1 T rfl (U.e rfl (.none rfl) (by exact Eff.isnil T true rfl rfl rfl rfl rfl rfl (.inl ⟨.sl,rfl⟩) rfl) (fun b5' hhb5=>?_))
 obtain⟨b5⟩:=b5'
 replace g:=g b5 hhb5
 refine U.done (C.nx ?_)
 refine C.ite rfl g (fun b6 g=>?_) fun b6 g=>?_
 refine C.ss (U.pd 1 T (C.nx (C.ret (C.rt ?_))))
 exact C.g1 [none] T o ⟨[],g,rfl,rfl,rfl⟩
 refine C.skip (C.xt (U.bs T eI ([]:List Int) ?_))
 refine U.ps 1 T rfl ?_
 obtain⟨y11,g⟩:=g
 refine U.ap T y11 ?_
 refine U.pd 1 T (C.nx (C.ret ?_))
 exact C.g1 [some 1] T o ⟨(([]:List Int)++s_1),g,rfl,rfl,rfl⟩
theorem ZK (f:ApiFloor) (post:Int→Prop) (g:XU f post):
  Tr Tryz.prog 84 [.agg (K5 f)] [] 0 (pI post):=by
 refine Tr.go Tryz.func84 Tryz.ntmps84 fun _ _ _ _ o=>?_
 unfold XU at g
 refine C.ss (U.bx ?_)
 refine U.pd 1 T (C.xt ?_)
 refine U.pd 9 T (C.nx (C.ret ?_))
 exact C.f1 T o (pIi g)
theorem Q0X (f:ApiFloor) (c:Int) (post:Bool→Prop) (g:GS f c post):
  Tr Tryz.prog 136 [.agg (K5 f),.i c] [] 0 (pB post):=by
 refine Tr.go Tryz.func136 Tryz.ntmps136 fun _ _ _ _ o=>?_
 unfold GS at g
 refine C.ss (U.bx ?_)
 refine U.pd 1 T (C.xs ?_)
 refine C.jn (fun (x3:Bool)=>[(4,.b x3)]) (fun x3=>[]) 0 g (fun x3 g=>?_) fun J4 g j4=>?_
 refine C.nx (C.ret ?_)
 exact C.f1 T o (pBi g)
 refine U.start (U.ps 3 T rfl ?_)
 refine g.cs (fun b5 g=>?_) fun b5 g=>?_
 refine U.pq 2 2 true 7 b5 T ?_
 refine U.k (ZK f _ g) en84 (fun x6 g=>?_) (hw:=.take 2 true 7 _ b5 rfl rfl rfl)
 refine U.pq 1 2 true 7 b5 T ?_
 refine U.pk b5 ?_
 refine U.pd 1 T ?_
 exact St.wn (j4 _ g)
 refine U.sk' 4 2 true 7 b5 ?_
 refine U.pk' b5 ?_
 refine U.pd 1 T ?_
 exact St.wn (j4 _ g)
theorem Q18 (f:ApiFloor) (c:Int) (post:(Int×Int×Int)→Prop) (g:GR f c post):
  Tr Tryz.prog 90 [.agg (K5 f),.i c] [] 0 (fun A H' k=>∃y,post y∧A=(.tup [.i y.1,.i y.2.1,.i y.2.2])∧H'=[]∧k=0):=by
 refine Tr.go Tryz.func90 Tryz.ntmps90 fun _ _ _ _ o=>?_
 unfold GR at g
 refine C.ss (U.bx ?_)
 refine U.pd 3 T (C.xs (C.ss ?_))
 refine U.ps 2 T rfl (U.k (Q0X f c _ g) Q5s (fun x5 g=>?_))
 refine U.pd 1 T (C.nx ?_)
 refine C.ite rfl g (fun b6 g=>?_) fun b6 g=>?_
 refine C.ss (U.pd 3 T (C.nx (C.ret (C.rt ?_))))
 exact C.f9 T o ⟨(0,0,0),g,rfl,rfl,rfl⟩
 refine C.skip (C.xs (D.bq mix 9999 [0] [] (fun hQ hS ws M'=>?_)))
 refine D.pq 3 (zl [0,1,2]) T ?_
 obtain⟨y11,g⟩:=g
 refine D.q 3 [] hQ hS rfl (.none rfl) rfl rfl (by exact Rd.rm rfl rfl rfl rfl y11) rfl (by kernel_rfl) ?_
 refine D.pq 3 (zl [4,5,6]) T ?_
 obtain⟨y12,g⟩:=g
 refine D.q 7 [] hQ hS rfl (.none rfl) rfl rfl (by exact Rd.dv rfl rfl rfl rfl y12) rfl (by kernel_rfl) ?_
 refine D.pq 2 (zl [8,9]) T ?_
 obtain⟨y13,g⟩:=g
 refine D.q 10 [] hQ hS rfl (.none rfl) rfl rfl (by exact Rd.rm rfl rfl rfl rfl y13) rfl (by kernel_rfl) ?_
 refine D.pq 6 (zl [11,12,13,14,15,16]) T ?_
 obtain⟨y14,g⟩:=g
 refine D.q 17 [] hQ hS rfl (.none rfl) rfl rfl (by exact Rd.dv rfl rfl rfl rfl y14) rfl (by kernel_rfl) ?_
 refine D.pq 3 (zl [18,19,20]) T ?_
 refine D.done (by kernel_rfl) ?_
 refine C.nx (C.ret ?_)
 exact C.f9 T o ⟨(c.tmod f.W,(w64 (c.tdiv f.W)).tmod f.H,w64 (c.tdiv (w64 (f.W*f.H)))),g,rfl,rfl,rfl⟩
theorem Q1d (post:GP→Prop) (g:GL post):
  Tr Tryz.prog 137 [] [] 0 (fun A H' k=>∃y,post y∧A=(.agg [.i y.e0.x,.i y.e0.y,.i y.e0.z,.i y.e1.x,.i y.e1.y,.i y.e1.z,.i y.e2.x,.i y.e2.y,.i y.e2.z,.i y.e3.x,.i y.e3.y,.i y.e3.z,.i y.e4.x,.i y.e4.y,.i y.e4.z,.i y.e5.x,.i y.e5.y,.i y.e5.z])∧H'=[]∧k=0):=by
 refine Tr.go Tryz.func137 Tryz.ntmps137 fun _ _ _ _ o=>?_
 unfold GL at g
 refine C.ss (U.al T ?_)
 refine U.done (C.xt (U.ps 7 T rfl (U.st T ?_)))
 refine U.done (C.nx (C.ret ?_))
 exact C.f1 T o ⟨({e0:=({x:=1,y:=0,z:=0:Kf}),e1:=({x:=0,y:=1,z:=0:Kf}),e2:=({x:=(-1),y:=0,z:=0:Kf}),e3:=({x:=0,y:=(-1),z:=0:Kf}),e4:=({x:=0,y:=0,z:=1:Kf}),e5:=({x:=0,y:=0,z:=(-1):Kf}):GP}),g,rfl,rfl,rfl⟩
theorem GD (f:ApiFloor) (x_1:Int) (y_1:Int) (z:Int) (post:Int→Prop) (g:X9 f x_1 y_1 z post):
  Tr Tryz.prog 91 [.agg (K5 f),.i x_1,.i y_1,.i z] [] 0 (pI post):=by
 refine Tr.go Tryz.func91 Tryz.ntmps91 fun _ _ _ _ o=>?_
 unfold X9 at g
 refine C.ss (U.bx ?_)
 refine U.pd 1 T (C.xs (C.seq ?_))
 refine C.jn (fun (x3:Bool)=>[(1,.i x_1),(2,.i y_1),(3,.i z),(4,.p 0 0),(31,.b x3)]) (fun x3=>[(0,.box (K5 f))]) 1 g (fun x3 g=>?_) fun J4 g j4=>?_
 refine C.nx ?_
 refine C.ite rfl g (fun b8 g=>?_) fun b8 g=>?_
 refine C.ss (U.pd 1 T (C.nx (C.ret (C.rt ?_))))
 exact C.f1 T o (pIi g)
 refine C.skip (C.xt (U.pd 12 T (C.nx (C.ret ?_))))
 exact C.f1 T o (pIi g)
 refine U.start (U.ps 6 T rfl ?_)
 refine g.cs (fun b5 g=>?_) fun b5 g=>?_
 refine U.sk' 4 5 false 14 b5 ?_
 refine U.pk b5 ?_
 refine U.ps 1 T rfl (U.sk' 4 11 false 20 rfl ?_)
 refine U.pk rfl ?_
 refine U.ps 1 T rfl (U.sk' 4 17 false 26 rfl ?_)
 refine U.pk rfl ?_
 refine U.done ?_
 exact St.wa [some 0] (j4 _ g)
 refine U.pq 4 5 false 14 b5 T ?_
 refine U.pk' b5 ?_
 refine U.ps 1 T rfl ?_
 refine g.cs (fun b6 g=>?_) fun b6 g=>?_
 refine U.sk' 4 11 false 20 b6 ?_
 refine U.pk b6 ?_
 refine U.ps 1 T rfl (U.sk' 4 17 false 26 rfl ?_)
 refine U.pk rfl ?_
 refine U.done ?_
 exact St.wa [some 0] (j4 _ g)
 refine U.pq 4 11 false 20 b6 T ?_
 refine U.pk' b6 ?_
 refine U.ps 1 T rfl ?_
 refine g.cs (fun b7 g=>?_) fun b7 g=>?_
 refine U.sk' 4 17 false 26 b7 ?_
 refine U.pk b7 ?_
 refine U.done ?_
 exact St.wa [some 0] (j4 _ g)
 refine U.pq 4 17 false 26 b7 T ?_
 refine U.pk' b7 ?_
 refine U.done ?_
 exact St.wa [some 0] (j4 _ g)
theorem Q0L (f:ApiFloor) (c:Int) (d:Int) (post:Int→Prop) (g:G8 f c d post):
  Tr Tryz.prog 77 [.agg (K5 f),.i c,.i d] [] 0 (pI post):=by
 refine Tr.go Tryz.func77 Tryz.ntmps77 fun _ _ _ _ o=>?_
 unfold G8 at g
 refine C.ss (U.bx ?_)
 refine U.pd 1 T (C.xs (C.seq ?_))
 refine C.jn (fun (x3:Bool)=>[(1,.i c),(2,.i d),(3,.p 0 0),(22,.b x3)]) (fun x3=>[(0,.box (K5 f))]) 1 g (fun x3 g=>?_) fun J4 g j4=>?_
 refine C.nx ?_
 refine C.ite rfl g (fun b8 g=>?_) fun b8 g=>?_
 refine C.ss (U.pd 1 T (C.nx (C.ret (C.rt ?_))))
 exact C.f1 T o (pIi g)
 refine C.skip (C.xt (U.ps 2 T rfl (U.k (Q18 f c _ g) en90 (fun x13 g=>?_))))
 refine U.pd 7 T (C.xt ?_)
 refine U.k (Q1d _ g) Q6C fun x16 g=>?_
 refine U.ps 1 T rfl ?_
 obtain⟨x17,y17,g⟩:=g
 refine U.r rfl (.none rfl) rfl rfl (by exact Rd.ia T (enc:=Q2V) rfl rfl rfl rfl rfl rfl rfl rfl rfl (fun _ _=>rfl) y17) ?_
 refine U.al T ?_
 refine U.st T ?_
 refine U.done (C.xt (U.ps 13 T rfl (U.k (GD f (w64 (x13.1+x17.x)) (w64 (x13.2.1+x17.y)) (w64 (x13.2.2+x17.z)) _ g) en91 (fun x20 g=>?_))))
 refine U.pd 1 T (C.nx (C.ret ?_))
 exact C.f1 T o (pIi g)
 refine U.start (U.ps 2 T rfl (U.k (Q0X f c _ g) Q5s (fun x5 g=>?_)))
 refine U.ps 2 T rfl ?_
 refine g.cs (fun b6 g=>?_) fun b6 g=>?_
 refine U.pq 2 4 false 15 (ntF b6) T ?_
 refine U.pk' (ntF b6) ?_
 refine U.ps 1 T rfl ?_
 refine g.cs (fun b7 g=>?_) fun b7 g=>?_
 refine U.sk' 2 8 false 19 b7 ?_
 refine U.pk b7 ?_
 refine U.done ?_
 exact St.wa [some 0] (j4 _ g)
 refine U.pq 2 8 false 19 b7 T ?_
 refine U.pk' b7 ?_
 refine U.done ?_
 exact St.wa [some 0] (j4 _ g)
 refine U.sk' 2 4 false 15 (ntT b6) ?_
 refine U.pk (ntT b6) ?_
 refine U.ps 1 T rfl (U.sk' 2 8 false 19 rfl ?_)
 refine U.pk rfl ?_
 refine U.done ?_
 exact St.wa [some 0] (j4 _ g)
theorem Wb (f:ApiFloor) (c:Int) (d:Int) (post:(Int×Bool)→Prop) (g:Xt f c d post):
  Tr Tryz.prog 29 [.agg (K5 f),.i c,.i d] [] 0 (fun A H' k=>∃y,post y∧A=(.tup [.i y.1,.b y.2])∧H'=[]∧k=0):=by
 refine Tr.go Tryz.func29 Tryz.ntmps29 fun _ _ _ _ o=>?_
 unfold Xt at g
 refine C.ss (U.bx ?_)
 refine U.pd 2 T (C.xt ?_)
 refine U.ps 3 T rfl (U.k (Q0L f c d _ g) en77 (fun x5 g=>?_))
 refine U.pd 1 T (C.xs (C.seq ?_))
 refine C.jn (fun (x6:Bool)=>[(1,.i c),(2,.i d),(3,.p 0 0),(8,.i x5),(41,.b x6)]) (fun x6=>[(0,.box (K5 f))]) 1 g (fun x6 g=>?_) fun J7 g j7=>?_
 refine C.nx ?_
 refine C.ite rfl g (fun b15 g=>?_) fun b15 g=>?_
 refine C.ss (U.pd 2 T (C.nx (C.ret (C.rt ?_))))
 exact C.f9 T o ⟨(0,false),g,rfl,rfl,rfl⟩
 refine C.skip (C.xs (C.seq ?_))
 refine C.jn (fun (x18:Bool)=>[(8,.i x5),(63,.b x18)]) (fun x18=>[]) 0 g (fun x18 g=>?_) fun J19 g j19=>?_
 refine C.nx ?_
 refine C.ite rfl g (fun b28 g=>?_) fun b28 g=>?_
 refine C.ss (U.pd 2 T (C.nx (C.ret (C.rt ?_))))
 exact C.f9 T o ⟨(0,false),g,rfl,rfl,rfl⟩
 refine C.skip (C.xt (U.pd 3 T (C.nx (C.ret ?_))))
 exact C.f9 T o ⟨(x5,true),g,rfl,rfl,rfl⟩
 refine U.start (U.ps 3 T rfl ?_)
 refine g.cs (fun b20 g=>?_) fun b20 g=>?_
 refine U.sk' 2 2 false 44 b20 ?_
 refine U.pk b20 ?_
 refine U.ps 1 T rfl (U.pq 3 6 true 48 rfl T ?_)
 obtain⟨x21,y21,g⟩:=g
 refine U.r rfl (.tk 6 true 48 rfl) rfl rfl (by exact Rd.ix T rfl rfl rfl rfl rfl rfl y21) ?_
 refine U.pq 3 6 true 48 rfl T ?_
 refine g.cs (fun b22 g=>?_) fun b22 g=>?_
 refine U.sk' 6 13 false 55 b22 ?_
 refine U.r rfl (.tk 6 true 48 rfl) rfl rfl (by exact Rd.pk rfl rfl b22 rfl) ?_
 refine U.pk rfl ?_
 refine U.done ?_
 exact St.wn (j19 _ g)
 refine U.pq 3 13 false 55 b22 T ?_
 obtain⟨x23,y23,g⟩:=g
 refine U.r rfl (.tk 13 false 55 b22) rfl rfl (by exact Rd.ix T rfl rfl rfl rfl rfl rfl y23) ?_
 refine U.pq 2 13 false 55 b22 T ?_
 refine U.r rfl (.tk 6 true 48 rfl) rfl rfl (by exact Rd.pk' rfl rfl b22 rfl) ?_
 refine U.pk rfl ?_
 refine U.done ?_
 exact St.wn (j19 _ g)
 refine U.pq 2 2 false 44 b20 T ?_
 refine U.pk' b20 ?_
 refine U.ps 1 T rfl ?_
 refine g.cs (fun b24 g=>?_) fun b24 g=>?_
 refine U.pq 3 6 true 48 b24 T ?_
 obtain⟨x25,y25,g⟩:=g
 refine U.r rfl (.tk 6 true 48 b24) rfl rfl (by exact Rd.ix T rfl rfl rfl rfl rfl rfl y25) ?_
 refine U.pq 3 6 true 48 b24 T ?_
 refine g.cs (fun b26 g=>?_) fun b26 g=>?_
 refine U.sk' 6 13 false 55 b26 ?_
 refine U.r rfl (.tk 6 true 48 b24) rfl rfl (by exact Rd.pk rfl rfl b26 rfl) ?_
 refine U.pk b24 ?_
 refine U.done ?_
 exact St.wn (j19 _ g)
 refine U.pq 3 13 false 55 b26 T ?_
 obtain⟨x27,y27,g⟩:=g
 refine U.r rfl (.tk 13 false 55 b26) rfl rfl (by exact Rd.ix T rfl rfl rfl rfl rfl rfl y27) ?_
 refine U.pq 2 13 false 55 b26 T ?_
 refine U.r rfl (.tk 6 true 48 b24) rfl rfl (by exact Rd.pk' rfl rfl b26 rfl) ?_
 refine U.pk b24 ?_
 refine U.done ?_
 exact St.wn (j19 _ g)
 refine U.sk' 7 6 true 48 b24 ?_
 refine U.sku 6 13 false 55 rfl rfl rfl ?_
 refine U.sk' 1 6 true 48 b24 ?_
 refine U.pk' b24 ?_
 refine U.done ?_
 exact St.wn (j19 _ g)
 refine U.start (U.ps 3 T rfl ?_)
 refine g.cs (fun b8 g=>?_) fun b8 g=>?_
 refine U.sk' 6 2 false 15 b8 ?_
 refine U.pk b8 ?_
 refine U.ps 1 T rfl (U.sk' 6 10 false 23 rfl ?_)
 refine U.pk rfl ?_
 refine U.ps 1 T rfl (U.sk' 9 18 false 31 rfl ?_)
 refine U.pk rfl ?_
 refine U.done ?_
 exact St.wa [some 0] (j7 _ g)
 refine U.pq 3 2 false 15 b8 T ?_
 obtain⟨x9,y9,g⟩:=g
 refine U.r rfl (.tk 2 false 15 b8) rfl rfl (by exact Rd.ix T rfl rfl rfl rfl rfl rfl y9) ?_
 refine U.pq 2 2 false 15 b8 T ?_
 refine U.pk' b8 ?_
 refine U.ps 1 T rfl ?_
 refine g.cs (fun b10 g=>?_) fun b10 g=>?_
 refine U.sk' 6 10 false 23 b10 ?_
 refine U.pk b10 ?_
 refine U.ps 1 T rfl (U.sk' 9 18 false 31 rfl ?_)
 refine U.pk rfl ?_
 refine U.done ?_
 exact St.wa [some 0] (j7 _ g)
 refine U.pq 3 10 false 23 b10 T ?_
 obtain⟨x11,y11,g⟩:=g
 refine U.r rfl (.tk 10 false 23 b10) rfl rfl (by exact Rd.ix T rfl rfl rfl rfl rfl rfl y11) ?_
 refine U.pq 2 10 false 23 b10 T ?_
 refine U.pk' b10 ?_
 refine U.ps 1 T rfl ?_
 refine g.cs (fun b12 g=>?_) fun b12 g=>?_
 refine U.sk' 9 18 false 31 b12 ?_
 refine U.pk b12 ?_
 refine U.done ?_
 exact St.wa [some 0] (j7 _ g)
 refine U.pq 3 18 false 31 b12 T ?_
 obtain⟨x13,y13,g⟩:=g
 refine U.r rfl (.tk 18 false 31 b12) rfl rfl (by exact Rd.ix T rfl rfl rfl rfl rfl rfl y13) ?_
 refine U.pq 2 18 false 31 b12 T ?_
 obtain⟨y14,g⟩:=g
 refine U.r rfl (.tk 18 false 31 b12) rfl rfl (by exact Rd.sh rfl rfl rfl rfl y14) ?_
 refine U.pq 2 18 false 31 b12 T ?_
 refine U.pk' b12 ?_
 refine U.done ?_
 exact St.wa [some 0] (j7 _ g)
theorem Yy (s_1:ApiSite) (c:Int) (post:Bool→Prop) (g:XA s_1 c post):
  Tr Tryz.prog 150 [.agg (Q9 s_1),.i c] [] 0 (pB post):=by
 refine Tr.go Tryz.func150 Tryz.ntmps150 fun _ _ _ _ o=>?_
 unfold XA at g
 refine C.ss (U.bx ?_)
 refine U.pd 1 T (C.xs ?_)
 refine C.jn (fun (x3:Bool)=>[(4,.b x3)]) (fun x3=>[]) 0 g (fun x3 g=>?_) fun J4 g j4=>?_
 refine C.nx (C.ret ?_)
 exact C.f1 T o (pBi g)
 refine U.start (U.ps 3 T rfl ?_)
 refine g.cs (fun b5 g=>?_) fun b5 g=>?_
 refine U.pq 6 2 true 7 b5 T ?_
 refine U.pk b5 ?_
 refine U.pd 1 T ?_
 exact St.wn (j4 _ g)
 refine U.sk' 6 2 true 7 b5 ?_
 refine U.pk' b5 ?_
 refine U.pd 1 T ?_
 exact St.wn (j4 _ g)
theorem Q0E (x_1:QF) (c0:Int) (post:Bool→Prop) (g:G6 x_1 c0 post):
  Tr Tryz.prog 151 [.agg [.i x_1.From,.i x_1.To],.rp [.i c0]] [] 0 (pB post):=by
 refine Tr.go Tryz.func151 Tryz.ntmps151 fun _ _ _ _ o=>?_
 unfold G6 at g
 refine C.ss (U.bx ?_)
 refine U.pd 1 T (C.xs ?_)
 refine C.jn (fun (x3:Bool)=>[(3,.b x3)]) (fun x3=>[]) 0 g (fun x3 g=>?_) fun J4 g j4=>?_
 refine C.nx (C.ret ?_)
 exact C.f1 T o (pBi g)
 refine U.start (U.ps 5 T rfl ?_)
 refine g.cs (fun b5 g=>?_) fun b5 g=>?_
 refine U.pq 4 4 true 8 b5 T ?_
 refine U.pk b5 ?_
 refine U.pd 1 T ?_
 exact St.wn (j4 _ g)
 refine U.sk' 4 4 true 8 b5 ?_
 refine U.pk' b5 ?_
 refine U.pd 1 T ?_
 exact St.wn (j4 _ g)
theorem X4 (s_1:List QF) (f_c0:Int) (post:Int→Prop) (g:Qv s_1 f_c0 post):
  Tr Tryz.prog 152 [.sl 2 X7 s_1,.fn (.func 151) [] [.rp [.i f_c0]]] [] 0 (pI post):=by
 refine Tr.go Tryz.func152 Tryz.ntmps152 fun _ _ _ _ o=>?_
 unfold Qv at g
 refine C.ss (U.pd 1 T (C.xs (C.ss ?_)))
 refine U.pd 3 T (C.nx ?_)
 refine C.jn (fun (x5:Unit)=>[]) (fun x5=>[]) 0 g (fun x5 g=>?_) fun J6 g j6=>?_
 refine C.xt (U.pd 1 T (C.nx (C.ret ?_)))
 exact C.f1 T o (pIi g)
 refine C.block (St.wk (C.loop (fun (s7:Int)=>[(0,.sl 2 X7 s_1),(1,.fn (.func 151) [] [.rp [.i f_c0]]),(7,.i (s_1.length:Int)),(8,.i s7)]) (fun s7=>[]) g (fun s7 Y8 g=>?_)) (Wk.e))
 refine C.ss (U.pd 1 T (C.xs ?_))
 refine C.ite rfl g (fun b11 g=>?_) fun b11 g=>?_
 refine C.skip (C.xs (C.block (C.ss (U.pd 2 T (C.xt ?_)))))
 refine U.ps 3 T rfl ?_
 obtain⟨x16,y16,g⟩:=g
 refine U.ix T y16 ?_
 refine U.ps 1 T rfl (U.k (Q0E x16 f_c0 _ g) Q6z (fun x17 g=>?_))
 refine U.done (C.nx ?_)
 refine C.ite rfl g (fun b18 g=>?_) fun b18 g=>?_
 refine C.ss (U.pd 2 T (C.nx (C.ret (C.brt (C.rt (C.rt (C.brt (C.rt ?_))))))))
 exact C.f1 T o (pIi g)
 refine C.skip (C.bnx (C.nx (U.start (U.pd 2 T (C.nx ?_)))))
 exact St.wk (C.next g) (Wk.e)
 refine C.exit (C.ex (C.ex (C.bex ?_)))
 exact St.wk (j6 _ g) (Wk.mk' [] rfl rfl trivial trivial rfl)
theorem KO (s_1:List QF) (f_c0:Int) (post:Bool→Prop) (g:Qh s_1 f_c0 post):
  Tr Tryz.prog 111 [.sl 2 X7 s_1,.fn (.func 151) [] [.rp [.i f_c0]]] [] 0 (pB post):=by
 refine Tr.go Tryz.func111 Tryz.ntmps111 fun _ _ _ _ o=>?_
 unfold Qh at g
 refine C.ss (U.pd 1 T (C.xt ?_))
 refine U.ps 2 T rfl (U.k (X4 s_1 f_c0 _ g) Q5D (fun x5 g=>?_))
 refine U.pd 2 T (C.nx (C.ret ?_))
 exact C.f1 T o (pBi g)
theorem Zz (s_1:ApiSite) (c:Int) (tick:Int) (post:Bool→Prop) (g:Gg s_1 c tick post):
  Tr Tryz.prog 110 [.agg (Q9 s_1),.i c,.i tick] [] 0 (pB post):=by
 refine Tr.go Tryz.func110 Tryz.ntmps110 fun _ _ _ _ o=>?_
 unfold Gg at g
 refine C.ss (U.bx ?_)
 refine U.bx ?_
 refine U.pd 1 T (C.xt ?_)
 refine U.ps 2 T rfl (U.k (Yt s_1 c _ g) en96 (fun x5 g=>?_))
 refine U.pd 1 T (C.xs (C.seq ?_))
 refine C.jn (fun (x6:Bool)=>[(1,.i c),(3,.p 0 0),(5,.p 1 0),(7,.i x5),(18,.b x6)]) (fun x6=>[(0,.box (Q9 s_1)),(1,.box [.i tick])]) 2 g (fun x6 g=>?_) fun J7 g j7=>?_
 refine C.nx ?_
 refine C.ite rfl g (fun b10 g=>?_) fun b10 g=>?_
 refine C.ss (U.ps 2 T rfl (U.k (Yy s_1 c _ g) Q62 (fun x13 g=>?_)))
 refine U.pd 1 T (C.nx (C.ret (C.rt ?_)))
 exact C.f1 T o (pBi g)
 refine C.skip (C.xt (U.ps 3 T rfl ?_))
 obtain⟨x16,y16,g⟩:=g
 refine U.ix T y16 ?_
 refine U.ps 3 T rfl (U.k (KO x16.Shut tick _ g) Q6b (fun x17 g=>?_))
 refine U.pd 2 T (C.nx (C.ret ?_))
 exact C.f1 T o (pBi g)
 refine U.start (U.ps 2 T rfl (U.k (Yy s_1 c _ g) Q62 (fun x8 g=>?_)))
 refine U.ps 2 T rfl ?_
 refine g.cs (fun b9 g=>?_) fun b9 g=>?_
 refine U.pq 2 4 false 15 (ntF b9) T ?_
 refine U.pk' (ntF b9) ?_
 refine U.done ?_
 exact St.wa (idR 2) (j7 _ g)
 refine U.sk' 2 4 false 15 (ntT b9) ?_
 refine U.pk (ntT b9) ?_
 refine U.done ?_
 exact St.wa (idR 2) (j7 _ g)
theorem W8 (p:CbsProblem) (at_1:CbsPlace) (k:Int) (post:(List Ke)→Prop) (g:Kt p at_1 k post):
  Tr Tryz.prog 104 [.rp [.i p.s.Floor.W,.i p.s.Floor.H,.i p.s.Floor.D,.sl 1 eI p.s.Floor.Kind,.sl 1 eI p.s.Floor.Out,.sl 5 Q3 p.s.Zones,.sl 2 Q0 p.s.Aparts,.sl 2 Q1 p.s.Shelves,.sl 2 Q2 p.s.Robots,.sl 2 Q4 p.trips,.i p.tick,.sl 1 eI p.avoid,.i p.most],.agg (Qc at_1),.i k] [] 0 (fun A H' k=>∃y,post y∧A=(.o 0)∧H'=[(0,.val (.os 4 QQ y))]∧k=1):=by
 refine Tr.go Tryz.func104 Tryz.ntmps104 fun _ _ _ _ o=>?_
 unfold Kt at g
 refine C.ss (U.bx ?_)
 refine U.pd 1 T (C.xt ?_)
 refine U.ps 8 T rfl (U.e1 rfl (.none rfl) (by exact Eff1.bs T (enc:=QQ) (xs:=([({act:=0,to_:=({cell:=at_1.cell,rest:=imax 0 (w64 (at_1.rest-1)),done:=false:CbsPlace}):Ke})]:List Ke)) rfl rfl rfl rfl rfl rfl rfl rfl rfl rfl (fun _ _=>rfl) rfl rfl) ?_)
 refine U.pd 1 T (C.xs (C.ss ?_))
 refine U.pd 1 T (C.nx ?_)
 refine C.jn (fun (x7:List Ke)=>[(7,.o 0)]) (fun x7=>[(0,.val (.os 4 QQ x7))]) 1 g (fun x7 g=>?_) fun J8 g j8=>?_
 refine C.xt (U.pd 2 T (C.nx (C.ret ?_)))
 exact C.g1 [some 0] T o ⟨x7,g,rfl,rfl,rfl⟩
 refine C.block ?_
 refine St.wk (C.loop (fun (s9:List Ke×Int)=>[(0,.rp [.i p.s.Floor.W,.i p.s.Floor.H,.i p.s.Floor.D,.sl 1 eI p.s.Floor.Kind,.sl 1 eI p.s.Floor.Out,.sl 5 Q3 p.s.Zones,.sl 2 Q0 p.s.Aparts,.sl 2 Q1 p.s.Shelves,.sl 2 Q2 p.s.Robots,.sl 2 Q4 p.trips,.i p.tick,.sl 1 eI p.avoid,.i p.most]),(2,.i k),(4,.p 0 0),(7,.o 1),(20,.i s9.2)]) (fun s9=>[(0,.box (Qc at_1)),(1,.val (.os 4 QQ s9.1))]) g (fun s9 Y10 g=>?_)) (Wk.a (idR 2))
 refine C.ss (U.pd 1 T (C.xs ?_))
 refine C.ite rfl g (fun b13 g=>?_) fun b13 g=>?_
 refine C.skip (C.xs (C.block (C.ss (U.pd 2 T (C.xs ?_)))))
 refine D.bq mix 9999 [0] [] (fun hQ hS ws M'=>?_)
 refine D.pq 8 (zl [0,1,2,3,4,5,6,7]) T ?_
 refine D.k 8 (Wb p.s.Floor at_1.cell s9.2 _ g) en29 fun x18 g=>?_
 refine D.pq 5 (zl [9,10,11,12,13]) T ?_
 refine D.done (by kernel_rfl) ?_
 refine C.xs ?_
 refine C.jn (fun (x19:Bool)=>[(0,.rp [.i p.s.Floor.W,.i p.s.Floor.H,.i p.s.Floor.D,.sl 1 eI p.s.Floor.Kind,.sl 1 eI p.s.Floor.Out,.sl 5 Q3 p.s.Zones,.sl 2 Q0 p.s.Aparts,.sl 2 Q1 p.s.Shelves,.sl 2 Q2 p.s.Robots,.sl 2 Q4 p.trips,.i p.tick,.sl 1 eI p.avoid,.i p.most]),(2,.i k),(4,.p 0 0),(7,.o 1),(8,.i s9.2),(9,.i x18.1),(20,.i s9.2),(63,.b x19)]) (fun x19=>[(0,.box (Qc at_1)),(1,.val (.os 4 QQ s9.1))]) 2 g (fun x19 g=>?_) fun J20 g j20=>?_
 refine C.nx ?_
 refine C.jn (fun (x26:List Ke)=>[(0,.rp [.i p.s.Floor.W,.i p.s.Floor.H,.i p.s.Floor.D,.sl 1 eI p.s.Floor.Kind,.sl 1 eI p.s.Floor.Out,.sl 5 Q3 p.s.Zones,.sl 2 Q0 p.s.Aparts,.sl 2 Q1 p.s.Shelves,.sl 2 Q2 p.s.Robots,.sl 2 Q4 p.trips,.i p.tick,.sl 1 eI p.avoid,.i p.most]),(2,.i k),(4,.p 0 0),(7,.o 1),(20,.i s9.2)]) (fun x26=>[(0,.box (Qc at_1)),(1,.val (.os 4 QQ x26))]) 2 g (fun x26 g=>?_) fun J27 g j27=>?_
 refine C.bnx (C.nx (U.start (U.pd 2 T (C.nx ?_))))
 exact St.wk (C.next g) (Wk.a (idR 2))
 refine C.ite rfl g (fun b28 g=>?_) fun b28 g=>?_
 refine U.start (U.ps 9 T rfl (U.k (WF p.s x18.1 _ g) en46 (fun x31 g=>?_)))
 refine U.ps 3 T rfl (U.bs T QQ ([({act:=w64 (1+s9.2),to_:=({cell:=x18.1,rest:=w64 (x31-1),done:=false:CbsPlace}):Ke})]:List Ke) ?_)
 obtain⟨y32,g⟩:=g
 refine U.ap T y32 ?_
 refine U.pd 1 T ?_
 exact St.wa [some 0,some 3] (j27 _ g)
 refine C.skip ?_
 exact St.wa (idR 2) (j27 _ g)
 refine D.bq mix 9999 [0] [] (fun hQ hS ws M'=>?_)
 refine D.pq 2 (zl [0,1]) T ?_
 refine g.cs (fun b21 g=>?_) fun b21 g=>?_
 refine D.pt 2 [] 1 true 36 b21 T ?_
 refine D.q 3 [] hQ hS rfl (.tk 1 true 36 b21) rfl rfl (by exact Rd.l T rfl rfl rfl) rfl (by kernel_rfl) ?_
 refine D.pt 4 [] 1 true 36 b21 T ?_
 refine D.kt 5 [] b21 ?_
 refine D.pq 1 [(6,[])] T ?_
 refine g.cs (fun b22 g=>?_) fun b22 g=>?_
 refine D.pt 7 [] 6 true 41 b22 T ?_
 refine D.pt 8 [] 6 true 41 b22 T ?_
 refine D.pt 9 [] 6 true 41 b22 T ?_
 refine D.q 10 [] hQ hS rfl (.tk 6 true 41 b22) rfl rfl (by exact Rd.l T rfl rfl rfl) rfl (by kernel_rfl) ?_
 refine D.pt 11 [] 6 true 41 b22 T ?_
 refine D.pt 12 [] 6 true 41 b22 T ?_
 refine D.pt 13 [] 6 true 41 b22 T ?_
 refine D.pt 14 [] 6 true 41 b22 T ?_
 refine D.q 15 [] hQ hS rfl (.tk 6 true 41 b22) rfl rfl (by exact Rd.l T rfl rfl rfl) rfl (by kernel_rfl) ?_
 refine D.pt 16 [] 6 true 41 b22 T ?_
 refine D.pt 17 [] 6 true 41 b22 T ?_
 refine D.k 18 (Zz p.s x18.1 (w64 (p.tick+k)) _ g) Q5z (fun x23 g=>?_) (hw:=.take 6 true 41 _ b22 rfl rfl rfl)
 refine D.kt 19 [] b22 ?_
 refine D.pq 1 [(20,[])] T ?_
 refine g.cs (fun b24 g=>?_) fun b24 g=>?_
 refine D.pt 21 [] 20 true 55 b24 T ?_
 refine D.pt 22 [] 20 true 55 b24 T ?_
 refine D.pt 23 [] 20 true 55 b24 T ?_
 refine D.q 24 [] hQ hS rfl (.tk 20 true 55 b24) rfl rfl (by exact Rd.l T rfl rfl rfl) rfl (by kernel_rfl) ?_
 refine D.pt 25 [] 20 true 55 b24 T ?_
 refine D.k 26 (Kw p.avoid x18.1 _ g) en94 (fun x25 g=>?_) (hw:=.take 20 true 55 _ b24 rfl rfl rfl)
 refine D.pt 27 [] 20 true 55 b24 T ?_
 refine D.kt 28 [] b24 ?_
 refine D.done (by kernel_rfl) ?_
 exact St.wa (idR 2) (j20 _ g)
 refine D.sz 21 [] 20 true 55 b24 ?_
 refine D.sz 22 [] 20 true 55 b24 ?_
 refine D.sz 23 [] 20 true 55 b24 ?_
 refine D.sz 24 [] 20 true 55 b24 ?_
 refine D.sz 25 [] 20 true 55 b24 ?_
 refine D.sz 26 [] 20 true 55 b24 ?_
 refine D.sz 27 [] 20 true 55 b24 ?_
 refine D.kf 28 [] b24 ?_
 refine D.done (by kernel_rfl) ?_
 exact St.wa (idR 2) (j20 _ g)
 refine D.sz 7 [] 6 true 41 b22 ?_
 refine D.sz 8 [] 6 true 41 b22 ?_
 refine D.sz 9 [] 6 true 41 b22 ?_
 refine D.sz 10 [] 6 true 41 b22 ?_
 refine D.sz 11 [] 6 true 41 b22 ?_
 refine D.sz 12 [] 6 true 41 b22 ?_
 refine D.sz 13 [] 6 true 41 b22 ?_
 refine D.sz 14 [] 6 true 41 b22 ?_
 refine D.sz 15 [] 6 true 41 b22 ?_
 refine D.sz 16 [] 6 true 41 b22 ?_
 refine D.sz 17 [] 6 true 41 b22 ?_
 refine D.sz 18 [] 6 true 41 b22 ?_
 refine D.kf 19 [] b22 ?_
 refine D.pq 1 [(20,[])] T ?_
 refine D.sz 21 [] 20 true 55 rfl ?_
 refine D.sz 22 [] 20 true 55 rfl ?_
 refine D.sz 23 [] 20 true 55 rfl ?_
 refine D.sz 24 [] 20 true 55 rfl ?_
 refine D.sz 25 [] 20 true 55 rfl ?_
 refine D.sz 26 [] 20 true 55 rfl ?_
 refine D.sz 27 [] 20 true 55 rfl ?_
 refine D.kf 28 [] rfl ?_
 refine D.done (by kernel_rfl) ?_
 exact St.wa (idR 2) (j20 _ g)
 refine D.sz 2 [] 1 true 36 b21 ?_
 refine D.sz 3 [] 1 true 36 b21 ?_
 refine D.sz 4 [] 1 true 36 b21 ?_
 refine D.kf 5 [] b21 ?_
 refine D.pq 1 [(6,[])] T ?_
 refine D.sz 7 [] 6 true 41 rfl ?_
 refine D.sz 8 [] 6 true 41 rfl ?_
 refine D.sz 9 [] 6 true 41 rfl ?_
 refine D.sz 10 [] 6 true 41 rfl ?_
 refine D.sz 11 [] 6 true 41 rfl ?_
 refine D.sz 12 [] 6 true 41 rfl ?_
 refine D.sz 13 [] 6 true 41 rfl ?_
 refine D.sz 14 [] 6 true 41 rfl ?_
 refine D.sz 15 [] 6 true 41 rfl ?_
 refine D.sz 16 [] 6 true 41 rfl ?_
 refine D.sz 17 [] 6 true 41 rfl ?_
 refine D.sz 18 [] 6 true 41 rfl ?_
 refine D.kf 19 [] rfl ?_
 refine D.pq 1 [(20,[])] T ?_
 refine D.sz 21 [] 20 true 55 rfl ?_
 refine D.sz 22 [] 20 true 55 rfl ?_
 refine D.sz 23 [] 20 true 55 rfl ?_
 refine D.sz 24 [] 20 true 55 rfl ?_
 refine D.sz 25 [] 20 true 55 rfl ?_
 refine D.sz 26 [] 20 true 55 rfl ?_
 refine D.sz 27 [] 20 true 55 rfl ?_
 refine D.kf 28 [] rfl ?_
 refine D.done (by kernel_rfl) ?_
 exact St.wa (idR 2) (j20 _ g)
 refine C.exit (C.ex (C.ex (C.bex ?_)))
 exact St.wa [some 1] (j8 _ g)
def Xo:(CbsProblem×Int×Int×Arr4CbsPlace×List Int×CbsStep×List (Arr4CbsPlace×CbsStep))→((List (Arr4CbsPlace×CbsStep))→Prop)→Prop | (p,i,k,to_1,used,x_1,layer),post=>Tr Tryz.prog 49 [.rp [.i p.s.Floor.W,.i p.s.Floor.H,.i p.s.Floor.D,.sl 1 eI p.s.Floor.Kind,.sl 1 eI p.s.Floor.Out,.sl 5 Q3 p.s.Zones,.sl 2 Q0 p.s.Aparts,.sl 2 Q1 p.s.Shelves,.sl 2 Q2 p.s.Robots,.sl 2 Q4 p.trips,.i p.tick,.sl 1 eI p.avoid,.i p.most],.o 0,.i i,.i k,.agg [.i to_1.e0.cell,.i to_1.e0.rest,.b to_1.e0.done,.i to_1.e1.cell,.i to_1.e1.rest,.b to_1.e1.done,.i to_1.e2.cell,.i to_1.e2.rest,.b to_1.e2.done,.i to_1.e3.cell,.i to_1.e3.rest,.b to_1.e3.done],.sl 1 eI used,.agg (K1 x_1)] [(0,.val (.om Qa QD layer))] 1 (fun A H' k=>∃y,post y∧A=(.tup [])∧H'=[(0,.val (.om Qa QD y))]∧k=1)
theorem Xk (p:CbsProblem) (i:Int) (k:Int) (to_1:Arr4CbsPlace) (used:List Int) (x_1:CbsStep) (layer:List (Arr4CbsPlace×CbsStep)) (post:(List (Arr4CbsPlace×CbsStep))→Prop) (h:Xo (p,i,k,to_1,used,x_1,layer) post):Tr Tryz.prog 49 [.rp [.i p.s.Floor.W,.i p.s.Floor.H,.i p.s.Floor.D,.sl 1 eI p.s.Floor.Kind,.sl 1 eI p.s.Floor.Out,.sl 5 Q3 p.s.Zones,.sl 2 Q0 p.s.Aparts,.sl 2 Q1 p.s.Shelves,.sl 2 Q2 p.s.Robots,.sl 2 Q4 p.trips,.i p.tick,.sl 1 eI p.avoid,.i p.most],.o 0,.i i,.i k,.agg [.i to_1.e0.cell,.i to_1.e0.rest,.b to_1.e0.done,.i to_1.e1.cell,.i to_1.e1.rest,.b to_1.e1.done,.i to_1.e2.cell,.i to_1.e2.rest,.b to_1.e2.done,.i to_1.e3.cell,.i to_1.e3.rest,.b to_1.e3.done],.sl 1 eI used,.agg (K1 x_1)] [(0,.val (.om Qa QD layer))] 1 (fun A H' k=>∃y,post y∧A=(.tup [])∧H'=[(0,.val (.om Qa QD y))]∧k=1):=h
abbrev cE0 (p:CbsProblem) (i:Int):Nat×AVal:=(0,.rp [.i p.s.Floor.W,.i p.s.Floor.H,.i p.s.Floor.D,.sl 1 eI p.s.Floor.Kind,.sl 1 eI p.s.Floor.Out,.sl 5 Q3 p.s.Zones,.sl 2 Q0 p.s.Aparts,.sl 2 Q1 p.s.Shelves,.sl 2 Q2 p.s.Robots,.sl 2 Q4 p.trips,.i p.tick,.sl 1 eI p.avoid,.i p.most])
abbrev cE1 (p:CbsProblem):Nat×AVal:=(17,.fn (.func 102) [] [.p 2 0])
abbrev cE2 (p:CbsProblem):Nat×AVal:=(111,.fn (.func 102) [] [.p 2 0])
abbrev cE3 (i:Int) (to_1:Arr4CbsPlace):Nat×AVal:=(119,.agg [.i to_1.e0.cell,.i to_1.e0.rest,.b to_1.e0.done,.i to_1.e1.cell,.i to_1.e1.rest,.b to_1.e1.done,.i to_1.e2.cell,.i to_1.e2.rest,.b to_1.e2.done,.i to_1.e3.cell,.i to_1.e3.rest,.b to_1.e3.done])
abbrev cE4 (x_1:CbsStep):Nat×AVal:=(120,.agg (K1 x_1))
abbrev cE5 (i:Int) (to_1:Arr4CbsPlace):Nat×Res:=(1,.box [.i to_1.e0.cell,.i to_1.e0.rest,.b to_1.e0.done,.i to_1.e1.cell,.i to_1.e1.rest,.b to_1.e1.done,.i to_1.e2.cell,.i to_1.e2.rest,.b to_1.e2.done,.i to_1.e3.cell,.i to_1.e3.rest,.b to_1.e3.done])
abbrev cE6 (used:List Int):Nat×Res:=(2,.box [.sl 1 eI used])
abbrev cE7 (x_1:CbsStep):Nat×Res:=(3,.box (K1 x_1))
abbrev cE8 (i:Int) (to_1:Arr4CbsPlace):Nat×AVal:=(76,.agg [.i to_1.e0.cell,.i to_1.e0.rest,.b to_1.e0.done,.i to_1.e1.cell,.i to_1.e1.rest,.b to_1.e1.done,.i to_1.e2.cell,.i to_1.e2.rest,.b to_1.e2.done,.i to_1.e3.cell,.i to_1.e3.rest,.b to_1.e3.done])
abbrev cE9 (layer:List (Arr4CbsPlace×CbsStep)):Nat×Res:=(0,.val (.om Qa QD layer))
theorem Wt (p:CbsProblem) (i:Int) (k:Int) (to_1:Arr4CbsPlace) (used:List Int) (x_1:CbsStep) (layer:List (Arr4CbsPlace×CbsStep)) (post:(List (Arr4CbsPlace×CbsStep))→Prop) (g:KF p i k to_1 used x_1 layer post):
  Tr Tryz.prog 49 [.rp [.i p.s.Floor.W,.i p.s.Floor.H,.i p.s.Floor.D,.sl 1 eI p.s.Floor.Kind,.sl 1 eI p.s.Floor.Out,.sl 5 Q3 p.s.Zones,.sl 2 Q0 p.s.Aparts,.sl 2 Q1 p.s.Shelves,.sl 2 Q2 p.s.Robots,.sl 2 Q4 p.trips,.i p.tick,.sl 1 eI p.avoid,.i p.most],.o 0,.i i,.i k,.agg [.i to_1.e0.cell,.i to_1.e0.rest,.b to_1.e0.done,.i to_1.e1.cell,.i to_1.e1.rest,.b to_1.e1.done,.i to_1.e2.cell,.i to_1.e2.rest,.b to_1.e2.done,.i to_1.e3.cell,.i to_1.e3.rest,.b to_1.e3.done],.sl 1 eI used,.agg (K1 x_1)] [(0,.val (.om Qa QD layer))] 1 (fun A H' k=>∃y,post y∧A=(.tup [])∧H'=[(0,.val (.om Qa QD y))]∧k=1):=by
 refine Xk p i k to_1 used x_1 layer _ (g Xo (fun a post g=>?_))
 obtain⟨p,i,k,to_1,used,x_1,layer⟩:=a
 replace g:QH Xo p i k to_1 used x_1 layer post:=g
 show Tr Tryz.prog 49 [.rp [.i p.s.Floor.W,.i p.s.Floor.H,.i p.s.Floor.D,.sl 1 eI p.s.Floor.Kind,.sl 1 eI p.s.Floor.Out,.sl 5 Q3 p.s.Zones,.sl 2 Q0 p.s.Aparts,.sl 2 Q1 p.s.Shelves,.sl 2 Q2 p.s.Robots,.sl 2 Q4 p.trips,.i p.tick,.sl 1 eI p.avoid,.i p.most],.o 0,.i i,.i k,.agg [.i to_1.e0.cell,.i to_1.e0.rest,.b to_1.e0.done,.i to_1.e1.cell,.i to_1.e1.rest,.b to_1.e1.done,.i to_1.e2.cell,.i to_1.e2.rest,.b to_1.e2.done,.i to_1.e3.cell,.i to_1.e3.rest,.b to_1.e3.done],.sl 1 eI used,.agg (K1 x_1)] [(0,.val (.om Qa QD layer))] 1 (fun A H' k=>∃y,post y∧A=(.tup [])∧H'=[(0,.val (.om Qa QD y))]∧k=1)
 refine Tr.go Tryz.func49 Tryz.ntmps49 fun _ _ _ _ o=>?_
 unfold QH at g
 refine C.ss (U.bx ?_)
 refine U.bx ?_
 refine U.bx ?_
 refine U.done (C.xs (C.ss (U.pd 7 T (C.nx ?_))))
 refine C.ite rfl g (fun b5 g=>?_) fun b5 g=>?_
 ·refine C.seq (C.ss ?_)
  refine U.ps 2 T rfl ?_
  refine U.r rfl (.none rfl) rfl rfl (by exact Rd.lk2 T (ke:=Qa) (ve:=QD) (xs:=layer) (z0:=({cost:=0,from_:=({e0:=({cell:=0,rest:=0,done:=false:CbsPlace}),e1:=({cell:=0,rest:=0,done:=false:CbsPlace}),e2:=({cell:=0,rest:=0,done:=false:CbsPlace}),e3:=({cell:=0,rest:=0,done:=false:CbsPlace}):Arr4CbsPlace}),acts:=({e0:=0,e1:=0,e2:=0,e3:=0:Arr4Int}):CbsStep})) (x:=to_1) rfl rfl Q3u zt110 (fun _=>rfl) rfl (.o rfl) rfl rfl rfl) ?_
  refine U.ps 3 T rfl (U.al T ?_)
  refine U.st T ?_
  refine U.pd 1 T (C.xs ?_)
  refine C.jn (fun (x8:Bool)=>[(1,.o 0),(11,.p 1 0),(13,.p 2 0),(45,.b x8)]) (fun x8=>[(0,.val (.om Qa QD layer)),(1,.box [.i to_1.e0.cell,.i to_1.e0.rest,.b to_1.e0.done,.i to_1.e1.cell,.i to_1.e1.rest,.b to_1.e1.done,.i to_1.e2.cell,.i to_1.e2.rest,.b to_1.e2.done,.i to_1.e3.cell,.i to_1.e3.rest,.b to_1.e3.done]),(2,.box (K1 x_1))]) 3 g (fun x8 g=>?_) fun J9 g j9=>?_
  ·refine C.nx ?_
   refine C.jn (fun (x11:List (Arr4CbsPlace×CbsStep))=>[]) (fun x11=>[(0,.val (.om Qa QD x11))]) 1 g (fun x11 g=>?_) fun J12 g j12=>?_
   ·refine C.nx (C.ret (C.rt ?_))
    exact C.fg [some 0] T o ⟨x11,g,rfl,rfl,rfl⟩
   ·refine C.ite rfl g (fun b13 g=>?_) (fun b13 g=>?_)
    ·refine U.start ?_
     refine U.ps 3 T rfl (U.e1 rfl (.none rfl) (by exact Eff1.mu T (x:=to_1) (y:=x_1) (.inl rfl) rfl Q3u (fun _=>rfl) rfl rfl rfl rfl rfl (.inr (.inl ⟨_,rfl,rfl⟩)) rfl) ?_)
     refine U.done ?_
     exact St.wk (j12 _ g) (Wk.mk' [some 0] rfl rfl trivial ⟨vL,trivial⟩ rfl)
    ·refine C.skip ?_
     exact St.wk (j12 _ g) (Wk.mk' [some 0] rfl rfl trivial ⟨vL,trivial⟩ rfl)
  ·refine U.start ?_
   refine U.ps 3 T rfl ?_
   refine g.cs (fun b10 g=>?_) fun b10 g=>?_
   ·refine U.pq 5 2 false 39 (ntF b10) T ?_
    refine U.pk' (ntF b10) ?_
    refine U.done ?_
    exact St.wa [some 0,some 1,some 3] (j9 _ g)
   ·refine U.sk' 5 2 false 39 (ntT b10) ?_
    refine U.pk (ntT b10) ?_
    refine U.done ?_
    exact St.wa [some 0,some 1,some 3] (j9 _ g)
 ·refine C.skip (C.xt ?_)
  refine U.ps 2 T rfl ?_
  obtain⟨x19,y19,g⟩:=g
  refine U.r rfl (.none rfl) rfl rfl (by exact Rd.pi T rfl rfl rfl rfl rfl rfl ⟨(Qi y19).1,(Qi y19).2.1⟩) ?_
  refine U.r rfl (.none rfl) rfl rfl (by exact Rd.ljg T (pre:=[.i x_1.cost]) (post:=[.i x_1.acts.e0,.i x_1.acts.e1,.i x_1.acts.e2,.i x_1.acts.e3]) (enc:=Qc) (xs:=([x_1.from_.e0,x_1.from_.e1,x_1.from_.e2,x_1.from_.e3]:List CbsPlace)) (m:=3) (sub:=0) (j:=i) rfl rfl rfl rfl rfl (fun _=>rfl) y19 rfl rfl rfl rfl) ?_
  refine U.al T ?_
  refine U.st T ?_
  refine U.done (C.xt (U.pd 2 T (C.xs (C.seq ?_))))
  refine C.jn (fun (x22:Bool)=>[(0,.rp [.i p.s.Floor.W,.i p.s.Floor.H,.i p.s.Floor.D,.sl 1 eI p.s.Floor.Kind,.sl 1 eI p.s.Floor.Out,.sl 5 Q3 p.s.Zones,.sl 2 Q0 p.s.Aparts,.sl 2 Q1 p.s.Shelves,.sl 2 Q2 p.s.Robots,.sl 2 Q4 p.trips,.i p.tick,.sl 1 eI p.avoid,.i p.most]),(1,.o 0),(2,.i i),(3,.i k),(11,.p 1 0),(12,.p 2 0),(13,.p 3 0),(16,.p 4 0),(17,.fn (.func 102) [] [.p 2 0]),(75,.b x22)]) (fun x22=>[(0,.val (.om Qa QD layer)),(1,.box [.i to_1.e0.cell,.i to_1.e0.rest,.b to_1.e0.done,.i to_1.e1.cell,.i to_1.e1.rest,.b to_1.e1.done,.i to_1.e2.cell,.i to_1.e2.rest,.b to_1.e2.done,.i to_1.e3.cell,.i to_1.e3.rest,.b to_1.e3.done]),(2,.box [.sl 1 eI used]),(3,.box (K1 x_1)),(4,.box (Qc x19))]) 5 g (fun x22 g=>?_) fun J23 g j23=>?_
  ·refine C.nx ?_
   refine C.jn (fun (x29:List (Arr4CbsPlace×CbsStep))=>[(0,.rp [.i p.s.Floor.W,.i p.s.Floor.H,.i p.s.Floor.D,.sl 1 eI p.s.Floor.Kind,.sl 1 eI p.s.Floor.Out,.sl 5 Q3 p.s.Zones,.sl 2 Q0 p.s.Aparts,.sl 2 Q1 p.s.Shelves,.sl 2 Q2 p.s.Robots,.sl 2 Q4 p.trips,.i p.tick,.sl 1 eI p.avoid,.i p.most]),(1,.o 0),(2,.i i),(3,.i k),(11,.p 1 0),(12,.p 2 0),(13,.p 3 0),(16,.p 4 0),(17,.fn (.func 102) [] [.p 2 0])]) (fun x29=>[(0,.val (.om Qa QD x29)),(1,.box [.i to_1.e0.cell,.i to_1.e0.rest,.b to_1.e0.done,.i to_1.e1.cell,.i to_1.e1.rest,.b to_1.e1.done,.i to_1.e2.cell,.i to_1.e2.rest,.b to_1.e2.done,.i to_1.e3.cell,.i to_1.e3.rest,.b to_1.e3.done]),(2,.box [.sl 1 eI used]),(3,.box (K1 x_1)),(4,.box (Qc x19))]) 5 g (fun x29 g=>?_) fun J30 g j30=>?_
   ·refine C.xs (C.ss ?_)
    refine U.pd 2 T (C.nx ?_)
    refine C.ite rfl g (fun b49 g=>?_) fun b49 g=>?_
    ·refine C.ret (C.rt ?_)
     exact C.fg [some 0] T o ⟨x29,g,rfl,rfl,rfl⟩
    ·refine C.skip (C.xt ?_)
     refine U.ps 3 T rfl (U.k (W8 p x19 k _ g) Q67 (fun x52 g=>?_))
     refine U.pd 2 T (C.nx ?_)
     refine C.jn (fun (x53:List (Arr4CbsPlace×CbsStep))=>[]) (fun x53=>[(0,.val (.om Qa QD x53))]) 1 g (fun x53 g=>?_) fun J54 g j54=>?_
     ·exact C.fg [some 0] T o ⟨x53,g,rfl,rfl,rfl⟩
     ·refine C.block ?_
      refine St.wk (C.loop (fun (s55:List (Arr4CbsPlace×CbsStep)×Int)=>[(0,.rp [.i p.s.Floor.W,.i p.s.Floor.H,.i p.s.Floor.D,.sl 1 eI p.s.Floor.Kind,.sl 1 eI p.s.Floor.Out,.sl 5 Q3 p.s.Zones,.sl 2 Q0 p.s.Aparts,.sl 2 Q1 p.s.Shelves,.sl 2 Q2 p.s.Robots,.sl 2 Q4 p.trips,.i p.tick,.sl 1 eI p.avoid,.i p.most]),(1,.o 0),(2,.i i),(3,.i k),(11,.p 1 0),(12,.p 2 0),(13,.p 3 0),(16,.p 4 0),(17,.fn (.func 102) [] [.p 2 0]),(105,.o 5),(106,.i (x52.length:Int)),(107,.i s55.2)]) (fun s55=>[(0,.val (.om Qa QD s55.1)),(1,.box [.i to_1.e0.cell,.i to_1.e0.rest,.b to_1.e0.done,.i to_1.e1.cell,.i to_1.e1.rest,.b to_1.e1.done,.i to_1.e2.cell,.i to_1.e2.rest,.b to_1.e2.done,.i to_1.e3.cell,.i to_1.e3.rest,.b to_1.e3.done]),(2,.box [.sl 1 eI used]),(3,.box (K1 x_1)),(4,.box (Qc x19)),(5,.val (.os 4 QQ x52))]) g (fun s55 Y56 g=>?_)) (Wk.a (idR 6))
      refine C.ss (U.pd 1 T (C.xs ?_))
      refine C.ite rfl g (fun b59 g=>?_) fun b59 g=>?_
      ·refine C.skip (C.xs (C.block (C.ss ?_)))
       obtain⟨x62,y62,g⟩:=g
       refine U.r rfl (.none rfl) rfl rfl (by exact Rd.io T rfl rfl rfl rfl rfl rfl rfl y62) ?_
       refine U.r rfl (.none rfl) rfl rfl (by exact Rd.le T rfl rfl rfl (Qi y62).2.2 rfl rfl rfl) ?_
       refine U.al T ?_
       refine U.st T ?_
       refine U.done (C.xt (U.ps 6 T rfl (U.bs T eI ([x19.cell,x62.to_.cell]:List Int) ?_)))
       refine U.k (XF ([x19.cell,x62.to_.cell]:List Int) used _ g) Q4M fun x65 g=>?_
       refine U.done (C.nx ?_)
       refine C.jn (fun (x66:List (Arr4CbsPlace×CbsStep))=>[(0,.rp [.i p.s.Floor.W,.i p.s.Floor.H,.i p.s.Floor.D,.sl 1 eI p.s.Floor.Kind,.sl 1 eI p.s.Floor.Out,.sl 5 Q3 p.s.Zones,.sl 2 Q0 p.s.Aparts,.sl 2 Q1 p.s.Shelves,.sl 2 Q2 p.s.Robots,.sl 2 Q4 p.trips,.i p.tick,.sl 1 eI p.avoid,.i p.most]),(1,.o 0),(2,.i i),(3,.i k),(11,.p 1 0),(12,.p 2 0),(13,.p 3 0),(16,.p 4 0),(17,.fn (.func 102) [] [.p 2 0]),(105,.o 5),(106,.i (x52.length:Int)),(107,.i s55.2)]) (fun x66=>[(0,.val (.om Qa QD x66)),(1,.box [.i to_1.e0.cell,.i to_1.e0.rest,.b to_1.e0.done,.i to_1.e1.cell,.i to_1.e1.rest,.b to_1.e1.done,.i to_1.e2.cell,.i to_1.e2.rest,.b to_1.e2.done,.i to_1.e3.cell,.i to_1.e3.rest,.b to_1.e3.done]),(2,.box [.sl 1 eI used]),(3,.box (K1 x_1)),(4,.box (Qc x19)),(5,.val (.os 4 QQ x52))]) 6 g (fun x66 g=>?_) fun J67 g j67=>?_
       ·refine C.bnx (C.nx (U.start ?_))
        refine U.pd 2 T (C.nx ?_)
        exact St.wk (C.next g) (Wk.a (idR 6))
       ·refine C.ite rfl g (fun b68 g=>?_) (fun b68 g=>?_)
        ·refine C.seq ?_
         refine D.bq mix 5 [1,3] [8,9] (fun hQ hS ws M'=>?_)
         refine D.pq 2 (zl [0,1]) T ?_
         refine D.have false [cE0 p i,(1,.o 0),(2,.i i),(3,.i k),(11,.p 1 0),(12,.p 2 0),(13,.p 3 0),(16,.p 4 0),cE1 p,(21,.p 6 0),(22,.p 8 0),(23,.p 9 0),(105,.o 5),(106,.i (x52.length:Int)),(107,.i s55.2),(108,.b (decide (s55.2<(x52.length:Int)))),(109,.ep 5 4 (Int.toNat s55.2) 0),(110,.agg (QQ x62)),cE2 p,(112,.p 4 0),(113,.i x19.cell),(114,.p 6 1),(115,.p 6 1),(116,.i x62.to_.cell),(117,.o 7),(118,.b x65),cE3 i to_1,cE4 x_1] [(0,.val (.om Qa QD s55.1)),cE5 i to_1,cE6 used,cE7 x_1,(4,.box (Qc x19)),(5,.val (.os 4 QQ x52)),(6,.box (QQ x62)),(7,.val (.os 1 eI ([x19.cell,x62.to_.cell]:List Int))),(8,.box [.i 0,.i 0,.b false,.i 0,.i 0,.b false,.i 0,.i 0,.b false,.i 0,.i 0,.b false]),(9,.box [.i 0,.i 0,.i 0,.b false,.i 0,.i 0,.b false,.i 0,.i 0,.b false,.i 0,.i 0,.b false,.i 0,.i 0,.i 0,.i 0])] 10 2 (bvA 6 [4,5]) ?_ fun hd70_3=>?_
         ·refine D.e1 4 rfl (.none rfl) (by exact Eff1.st T rfl rfl rfl rfl rfl rfl rfl rfl rfl rfl) (by kernel_rfl) rfl rfl ?_
          refine D.ze1 rfl (.none rfl) (by exact Eff1.st T rfl rfl rfl rfl rfl rfl rfl rfl rfl rfl) (by kernel_rfl) (by kernel_rfl) ?_
          refine C.xs (D.bq mix 10 [6] [8] (fun hQ hS ws M'=>?_))
          refine D.pq 6 (zl [0,1,2,3,4,5]) T ?_
          obtain⟨x74,y74,g⟩:=g
          refine D.q 6 [] hQ hS rfl (.none rfl) rfl rfl (by exact Rd.pi T rfl rfl rfl rfl rfl rfl ⟨(Qi y74).1,(Qi y74).2.1⟩) rfl (by kernel_rfl) ?_
          refine D.pq 1 [(8,[9])] T ?_
          obtain⟨x75,y75,g⟩:=g
          refine D.e1 7 rfl (.none rfl) (by exact Eff1.sj T (pre:=[]) (post:=[]) (enc:=Qc) (xs:=([to_1.e0,to_1.e1,to_1.e2,to_1.e3]:List CbsPlace)) (ys:=([x75.e0,x75.e1,x75.e2,x75.e3]:List CbsPlace)) (m:=3) (j:=i) (z:=x62.to_) rfl rfl rfl rfl rfl (fun _=>rfl) y74 rfl rfl rfl rfl rfl rfl rfl y75 rfl) (by kernel_rfl) rfl rfl ?_
          obtain⟨x77,y77,g⟩:=g
          refine D.q 9 [] hQ hS rfl (.none rfl) rfl rfl (by exact Rd.pi T rfl rfl rfl rfl rfl rfl ⟨(Qi y77).1,(Qi y77).2.1⟩) rfl (by kernel_rfl) ?_
          obtain⟨x78,y78,g⟩:=g
          refine D.ze1 rfl (.none rfl) (by exact Eff1.sj T (pre:=[.i x_1.cost,.i x_1.from_.e0.cell,.i x_1.from_.e0.rest,.b x_1.from_.e0.done,.i x_1.from_.e1.cell,.i x_1.from_.e1.rest,.b x_1.from_.e1.done,.i x_1.from_.e2.cell,.i x_1.from_.e2.rest,.b x_1.from_.e2.done,.i x_1.from_.e3.cell,.i x_1.from_.e3.rest,.b x_1.from_.e3.done]) (post:=[]) (enc:=eI) (xs:=([x_1.acts.e0,x_1.acts.e1,x_1.acts.e2,x_1.acts.e3]:List Int)) (ys:=([x78.e0,x78.e1,x78.e2,x78.e3]:List Int)) (m:=1) (j:=i) (z:=x62.act) rfl rfl rfl rfl rfl (fun _=>rfl) y77 rfl rfl rfl rfl rfl rfl rfl y78 rfl) (by kernel_rfl) (by kernel_rfl) ?_
          refine C.xt (U.ps 4 T rfl (U.st T ?_))
          refine U.done (C.nx (D.bq mix 16 [2,4,6,8,9] [10,11] (fun hQ hS ws M'=>?_)))
          refine D.pq 13 [(0,[]),(1,[]),(2,[3]),(3,[]),(4,[]),(5,[]),(6,[14,7]),(8,[14,13,9]),(9,[14,13]),(10,[14,13,12,11]),(11,[14,13,12]),(12,[14,13]),(15,[])] T ?_
          refine D.hav1 g false (fun x83=>[(0,.rp [.i p.s.Floor.W,.i p.s.Floor.H,.i p.s.Floor.D,.sl 1 eI p.s.Floor.Kind,.sl 1 eI p.s.Floor.Out,.sl 5 Q3 p.s.Zones,.sl 2 Q0 p.s.Aparts,.sl 2 Q1 p.s.Shelves,.sl 2 Q2 p.s.Robots,.sl 2 Q4 p.trips,.i p.tick,.sl 1 eI p.avoid,.i p.most]),(1,.o 0),(2,.i i),(3,.i k),(11,.p 1 0),(12,.p 2 0),(13,.p 3 0),(16,.p 4 0),(17,.fn (.func 102) [] [.p 2 0]),(21,.p 6 0),(22,.p 8 0),(23,.p 9 0),(105,.o 5),(106,.i (x52.length:Int)),(107,.i s55.2),(108,.b (decide (s55.2<(x52.length:Int)))),(109,.ep 5 4 (Int.toNat s55.2) 0),(110,.agg (QQ x62)),(111,.fn (.func 102) [] [.p 2 0]),(112,.p 4 0),(113,.i x19.cell),(114,.p 6 1),(115,.p 6 1),(116,.i x62.to_.cell),(117,.o 7),(118,.b x65),(119,.agg [.i to_1.e0.cell,.i to_1.e0.rest,.b to_1.e0.done,.i to_1.e1.cell,.i to_1.e1.rest,.b to_1.e1.done,.i to_1.e2.cell,.i to_1.e2.rest,.b to_1.e2.done,.i to_1.e3.cell,.i to_1.e3.rest,.b to_1.e3.done]),(120,.agg (K1 x_1)),(121,.i i),(122,.i i),(123,.p 6 1),(124,.agg (Qc x62.to_)),(125,.p 6 0),(126,.i x62.act),(127,.p 8 (0+Int.toNat i*3)),(128,.p 9 13),(129,.p 9 (13+Int.toNat i*1)),(130,.p 9 0),(131,.i x_1.cost),(132,.i (w64 (x_1.cost+1))),(133,.p 9 0),(134,.rp [.i p.s.Floor.W,.i p.s.Floor.H,.i p.s.Floor.D,.sl 1 eI p.s.Floor.Kind,.sl 1 eI p.s.Floor.Out,.sl 5 Q3 p.s.Zones,.sl 2 Q0 p.s.Aparts,.sl 2 Q1 p.s.Shelves,.sl 2 Q2 p.s.Robots,.sl 2 Q4 p.trips,.i p.tick,.sl 1 eI p.avoid,.i p.most]),(135,.o 0),(136,.i i),(137,.i (w64 (i+1))),(138,.i k),(139,.agg [.i x75.e0.cell,.i x75.e0.rest,.b x75.e0.done,.i x75.e1.cell,.i x75.e1.rest,.b x75.e1.done,.i x75.e2.cell,.i x75.e2.rest,.b x75.e2.done,.i x75.e3.cell,.i x75.e3.rest,.b x75.e3.done]),(140,.sl 1 eI used),(141,.o 10),(142,.p 4 0),(143,.i x19.cell),(144,.p 6 1),(145,.p 6 1),(146,.i x62.to_.cell),(147,.o 11),(149,.agg [.i (w64 (x_1.cost+1)),.i x_1.from_.e0.cell,.i x_1.from_.e0.rest,.b x_1.from_.e0.done,.i x_1.from_.e1.cell,.i x_1.from_.e1.rest,.b x_1.from_.e1.done,.i x_1.from_.e2.cell,.i x_1.from_.e2.rest,.b x_1.from_.e2.done,.i x_1.from_.e3.cell,.i x_1.from_.e3.rest,.b x_1.from_.e3.done,.i x78.e0,.i x78.e1,.i x78.e2,.i x78.e3])]) (fun x83=>[(0,.val (.om Qa QD s55.1)),(1,.box [.i to_1.e0.cell,.i to_1.e0.rest,.b to_1.e0.done,.i to_1.e1.cell,.i to_1.e1.rest,.b to_1.e1.done,.i to_1.e2.cell,.i to_1.e2.rest,.b to_1.e2.done,.i to_1.e3.cell,.i to_1.e3.rest,.b to_1.e3.done]),(2,.box [.sl 1 eI used]),(3,.box (K1 x_1)),(4,.box (Qc x19)),(5,.val (.os 4 QQ x52)),(6,.box (QQ x62)),(7,.val (.os 1 eI ([x19.cell,x62.to_.cell]:List Int))),(8,.box [.i x75.e0.cell,.i x75.e0.rest,.b x75.e0.done,.i x75.e1.cell,.i x75.e1.rest,.b x75.e1.done,.i x75.e2.cell,.i x75.e2.rest,.b x75.e2.done,.i x75.e3.cell,.i x75.e3.rest,.b x75.e3.done]),(9,.box [.i (w64 (x_1.cost+1)),.i x_1.from_.e0.cell,.i x_1.from_.e0.rest,.b x_1.from_.e0.done,.i x_1.from_.e1.cell,.i x_1.from_.e1.rest,.b x_1.from_.e1.done,.i x_1.from_.e2.cell,.i x_1.from_.e2.rest,.b x_1.from_.e2.done,.i x_1.from_.e3.cell,.i x_1.from_.e3.rest,.b x_1.from_.e3.done,.i x78.e0,.i x78.e1,.i x78.e2,.i x78.e3]),(10,.val (.os 1 eI x83)),(11,.val (.os 1 eI ([x19.cell,x62.to_.cell]:List Int)))]) 12 2 #[true,true,true,true,true,true,true,true,true,true,true,true,true,true,false,true,false] (fun x83 g=>?_) fun hd82_3=>?_
          ·obtain⟨y84,g⟩:=g
           refine D.e1 14 rfl (.none rfl) (by exact Eff1.ap T rfl rfl rfl rfl rfl rfl (.inr ⟨_,rfl,rfl⟩) rfl rfl rfl (fun _=>rfl) rfl y84) (by kernel_rfl) rfl rfl ?_
           refine D.ze rfl (.none rfl) (by exact Eff.c [some 0] (v:=true) (Xk p (w64 (i+1)) k x75 (x83++([x19.cell,x62.to_.cell]:List Int)) ({cost:=w64 (x_1.cost+1),from_:=x_1.from_,acts:=x78:CbsStep}) s55.1 _ g) en49 rfl rfl rfl (.cons (.eq rfl) (.cons (.eq rfl) (.cons (.eq rfl) (.cons (.eq rfl) (.cons (.eq rfl) (.cons (.fz rfl rfl rfl (.os fun _=>.cons (.ro rfl) .nil)) (.eq rfl))))))) ⟨vL,trivial⟩ rfl rfl rfl rfl rfl rfl (fun _ _=>⟨(.tup .nil),⟨.val (.om _ _ _ fun _=>(.v _)),trivial⟩⟩) (.inl rfl) (fun _=>rfl) (fun _=>rfl) rfl) (by kernel_rfl) (by kernel_rfl) (fun x85' g=>?_)
           obtain⟨x85⟩:=x85'
           exact St.wa (idR 6) (j67 _ g)
          refine D.hav1 g false (fun x83=>[(0,.rp [.i p.s.Floor.W,.i p.s.Floor.H,.i p.s.Floor.D,.sl 1 eI p.s.Floor.Kind,.sl 1 eI p.s.Floor.Out,.sl 5 Q3 p.s.Zones,.sl 2 Q0 p.s.Aparts,.sl 2 Q1 p.s.Shelves,.sl 2 Q2 p.s.Robots,.sl 2 Q4 p.trips,.i p.tick,.sl 1 eI p.avoid,.i p.most]),(1,.o 0),(2,.i i),(3,.i k),(11,.p 1 0),(12,.p 2 0),(13,.p 3 0),(16,.p 4 0),(17,.fn (.func 102) [] [.p 2 0]),(21,.p 6 0),(22,.p 8 0),(23,.p 9 0),(105,.o 5),(106,.i (x52.length:Int)),(107,.i s55.2),(108,.b (decide (s55.2<(x52.length:Int)))),(109,.ep 5 4 (Int.toNat s55.2) 0),(110,.agg (QQ x62)),(111,.fn (.func 102) [] [.p 2 0]),(112,.p 4 0),(113,.i x19.cell),(114,.p 6 1),(115,.p 6 1),(116,.i x62.to_.cell),(117,.o 7),(118,.b x65),(119,.agg [.i to_1.e0.cell,.i to_1.e0.rest,.b to_1.e0.done,.i to_1.e1.cell,.i to_1.e1.rest,.b to_1.e1.done,.i to_1.e2.cell,.i to_1.e2.rest,.b to_1.e2.done,.i to_1.e3.cell,.i to_1.e3.rest,.b to_1.e3.done]),(120,.agg (K1 x_1)),(121,.i i),(122,.i i),(123,.p 6 1),(124,.agg (Qc x62.to_)),(125,.p 6 0),(126,.i x62.act),(127,.p 8 (0+Int.toNat i*3)),(128,.p 9 13),(129,.p 9 (13+Int.toNat i*1)),(130,.p 9 0),(131,.i x_1.cost),(132,.i (w64 (x_1.cost+1))),(133,.p 9 0),(134,.rp [.i p.s.Floor.W,.i p.s.Floor.H,.i p.s.Floor.D,.sl 1 eI p.s.Floor.Kind,.sl 1 eI p.s.Floor.Out,.sl 5 Q3 p.s.Zones,.sl 2 Q0 p.s.Aparts,.sl 2 Q1 p.s.Shelves,.sl 2 Q2 p.s.Robots,.sl 2 Q4 p.trips,.i p.tick,.sl 1 eI p.avoid,.i p.most]),(135,.o 0),(136,.i i),(137,.i (w64 (i+1))),(138,.i k),(139,.agg [.i x75.e0.cell,.i x75.e0.rest,.b x75.e0.done,.i x75.e1.cell,.i x75.e1.rest,.b x75.e1.done,.i x75.e2.cell,.i x75.e2.rest,.b x75.e2.done,.i x75.e3.cell,.i x75.e3.rest,.b x75.e3.done]),(140,.sl 1 eI used),(141,.o 10),(142,.p 4 0),(143,.i x19.cell),(144,.p 6 1),(145,.p 6 1),(146,.i x62.to_.cell),(149,.agg [.i (w64 (x_1.cost+1)),.i x_1.from_.e0.cell,.i x_1.from_.e0.rest,.b x_1.from_.e0.done,.i x_1.from_.e1.cell,.i x_1.from_.e1.rest,.b x_1.from_.e1.done,.i x_1.from_.e2.cell,.i x_1.from_.e2.rest,.b x_1.from_.e2.done,.i x_1.from_.e3.cell,.i x_1.from_.e3.rest,.b x_1.from_.e3.done,.i x78.e0,.i x78.e1,.i x78.e2,.i x78.e3])]) (fun x83=>[(0,.val (.om Qa QD s55.1)),(1,.box [.i to_1.e0.cell,.i to_1.e0.rest,.b to_1.e0.done,.i to_1.e1.cell,.i to_1.e1.rest,.b to_1.e1.done,.i to_1.e2.cell,.i to_1.e2.rest,.b to_1.e2.done,.i to_1.e3.cell,.i to_1.e3.rest,.b to_1.e3.done]),(2,.box [.sl 1 eI used]),(3,.box (K1 x_1)),(4,.box (Qc x19)),(5,.val (.os 4 QQ x52)),(6,.box (QQ x62)),(7,.val (.os 1 eI ([x19.cell,x62.to_.cell]:List Int))),(8,.box [.i x75.e0.cell,.i x75.e0.rest,.b x75.e0.done,.i x75.e1.cell,.i x75.e1.rest,.b x75.e1.done,.i x75.e2.cell,.i x75.e2.rest,.b x75.e2.done,.i x75.e3.cell,.i x75.e3.rest,.b x75.e3.done]),(9,.box [.i (w64 (x_1.cost+1)),.i x_1.from_.e0.cell,.i x_1.from_.e0.rest,.b x_1.from_.e0.done,.i x_1.from_.e1.cell,.i x_1.from_.e1.rest,.b x_1.from_.e1.done,.i x_1.from_.e2.cell,.i x_1.from_.e2.rest,.b x_1.from_.e2.done,.i x_1.from_.e3.cell,.i x_1.from_.e3.rest,.b x_1.from_.e3.done,.i x78.e0,.i x78.e1,.i x78.e2,.i x78.e3]),(10,.val (.os 1 eI x83))]) 11 3 #[true,true,true,true,true,true,true,true,true,true,true,true,true,false,false,true,false] (fun x83 g=>?_) fun hd82_1=>?_
          ·refine D.all 13 [] (by kernel_rfl) ⟨?_,trivial⟩
           ·refine D.bs T eI ([x19.cell,x62.to_.cell]:List Int) ?_
            exact D.to [some 0,some 1,some 2,some 3,some 4,some 5,some 6,some 7,some 8,some 9,some 10,some 11] (hd82_3 x83 g) (by kernel_rfl) rfl rfl (.eqs rfl) ⟨vL,bX,bX,bX,bX,vL,bX,vL,bX,bX,vL,vL,trivial⟩ rfl rfl rfl
          refine D.have false [cE0 p i,(1,.o 0),(2,.i i),(3,.i k),(11,.p 1 0),(12,.p 2 0),(13,.p 3 0),(16,.p 4 0),cE1 p,(21,.p 6 0),(22,.p 8 0),(23,.p 9 0),(105,.o 5),(106,.i (x52.length:Int)),(107,.i s55.2),(108,.b (decide (s55.2<(x52.length:Int)))),(109,.ep 5 4 (Int.toNat s55.2) 0),(110,.agg (QQ x62)),cE2 p,(112,.p 4 0),(113,.i x19.cell),(114,.p 6 1),(115,.p 6 1),(116,.i x62.to_.cell),(117,.o 7),(118,.b x65),cE3 i to_1,cE4 x_1,(121,.i i),(122,.i i),(123,.p 6 1),(124,.agg (Qc x62.to_)),(125,.p 6 0),(126,.i x62.act),(127,.p 8 (0+Int.toNat i*3)),(128,.p 9 13),(129,.p 9 (13+Int.toNat i*1)),(130,.p 9 0),(131,.i x_1.cost),(132,.i (w64 (x_1.cost+1))),(133,.p 9 0),(134,.rp [.i p.s.Floor.W,.i p.s.Floor.H,.i p.s.Floor.D,.sl 1 eI p.s.Floor.Kind,.sl 1 eI p.s.Floor.Out,.sl 5 Q3 p.s.Zones,.sl 2 Q0 p.s.Aparts,.sl 2 Q1 p.s.Shelves,.sl 2 Q2 p.s.Robots,.sl 2 Q4 p.trips,.i p.tick,.sl 1 eI p.avoid,.i p.most]),(135,.o 0),(136,.i i),(137,.i (w64 (i+1))),(138,.i k),(139,.agg [.i x75.e0.cell,.i x75.e0.rest,.b x75.e0.done,.i x75.e1.cell,.i x75.e1.rest,.b x75.e1.done,.i x75.e2.cell,.i x75.e2.rest,.b x75.e2.done,.i x75.e3.cell,.i x75.e3.rest,.b x75.e3.done]),(140,.sl 1 eI used),(142,.p 4 0),(143,.i x19.cell),(144,.p 6 1),(145,.p 6 1),(146,.i x62.to_.cell),(147,.o 10),(149,.agg [.i (w64 (x_1.cost+1)),.i x_1.from_.e0.cell,.i x_1.from_.e0.rest,.b x_1.from_.e0.done,.i x_1.from_.e1.cell,.i x_1.from_.e1.rest,.b x_1.from_.e1.done,.i x_1.from_.e2.cell,.i x_1.from_.e2.rest,.b x_1.from_.e2.done,.i x_1.from_.e3.cell,.i x_1.from_.e3.rest,.b x_1.from_.e3.done,.i x78.e0,.i x78.e1,.i x78.e2,.i x78.e3])] [(0,.val (.om Qa QD s55.1)),cE5 i to_1,cE6 used,cE7 x_1,(4,.box (Qc x19)),(5,.val (.os 4 QQ x52)),(6,.box (QQ x62)),(7,.val (.os 1 eI ([x19.cell,x62.to_.cell]:List Int))),(8,.box [.i x75.e0.cell,.i x75.e0.rest,.b x75.e0.done,.i x75.e1.cell,.i x75.e1.rest,.b x75.e1.done,.i x75.e2.cell,.i x75.e2.rest,.b x75.e2.done,.i x75.e3.cell,.i x75.e3.rest,.b x75.e3.done]),(9,.box [.i (w64 (x_1.cost+1)),.i x_1.from_.e0.cell,.i x_1.from_.e0.rest,.b x_1.from_.e0.done,.i x_1.from_.e1.cell,.i x_1.from_.e1.rest,.b x_1.from_.e1.done,.i x_1.from_.e2.cell,.i x_1.from_.e2.rest,.b x_1.from_.e2.done,.i x_1.from_.e3.cell,.i x_1.from_.e3.rest,.b x_1.from_.e3.done,.i x78.e0,.i x78.e1,.i x78.e2,.i x78.e3]),(10,.val (.os 1 eI ([x19.cell,x62.to_.cell]:List Int)))] 11 3 (bvA 17 [7,14,16]) ?_ fun hd82_2=>?_
          ·refine D.all 7 [] (by kernel_rfl) ⟨?_,trivial⟩
           ·refine D.ef rfl (.none rfl) (by exact Eff.c [] (v:=true) (Kq used _ g) en79 rfl rfl rfl (.eq rfl) trivial rfl rfl rfl rfl rfl rfl (fun _ _=>⟨(.o _),⟨.val (.os _ _ _ fun _=>(.cons (.v _) .nil)),trivial⟩⟩) (.inr ⟨rfl,rfl⟩) (fun _=>rfl) (fun _=>rfl) rfl) rfl rfl (fun x83' g=>?_)
            obtain⟨x83⟩:=x83'
            exact D.to [some 0,some 1,some 2,some 3,some 4,some 5,some 6,some 7,some 8,some 9,some 11,some 10] (hd82_3 x83 g) (by kernel_rfl) rfl rfl (.eqs rfl) ⟨vL,bX,bX,bX,bX,vL,bX,vL,bX,bX,vL,vL,trivial⟩ rfl rfl rfl
          refine D.all 7 [13] (by kernel_rfl) ⟨?_,?_,trivial⟩
          ·refine D.ef rfl (.none rfl) (by exact Eff.c [] (v:=true) (Kq used _ g) en79 rfl rfl rfl (.eq rfl) trivial rfl rfl rfl rfl rfl rfl (fun _ _=>⟨(.o _),⟨.val (.os _ _ _ fun _=>(.cons (.v _) .nil)),trivial⟩⟩) (.inr ⟨rfl,rfl⟩) (fun _=>rfl) (fun _=>rfl) rfl) rfl rfl (fun x83' g=>?_)
           obtain⟨x83⟩:=x83'
           exact D.to [some 0,some 1,some 2,some 3,some 4,some 5,some 6,some 7,some 8,some 9,some 10] (hd82_1 x83 g) (by kernel_rfl) rfl rfl (.eqs rfl) ⟨vL,bX,bX,bX,bX,vL,bX,vL,bX,bX,vL,trivial⟩ rfl rfl rfl
          ·refine D.bs T eI ([x19.cell,x62.to_.cell]:List Int) ?_
           exact D.tq [0,1,2,3,4,5,6,7,8,9,10] hd82_2
         refine D.have false [cE0 p i,(1,.o 0),(2,.i i),(3,.i k),(11,.p 1 0),(12,.p 2 0),(13,.p 3 0),(16,.p 4 0),cE1 p,(21,.p 6 0),(22,.p 8 0),(105,.o 5),(106,.i (x52.length:Int)),(107,.i s55.2),(108,.b (decide (s55.2<(x52.length:Int)))),(109,.ep 5 4 (Int.toNat s55.2) 0),(110,.agg (QQ x62)),cE2 p,(112,.p 4 0),(113,.i x19.cell),(114,.p 6 1),(115,.p 6 1),(116,.i x62.to_.cell),(117,.o 7),(118,.b x65),cE3 i to_1,cE4 x_1] [(0,.val (.om Qa QD s55.1)),cE5 i to_1,cE6 used,cE7 x_1,(4,.box (Qc x19)),(5,.val (.os 4 QQ x52)),(6,.box (QQ x62)),(7,.val (.os 1 eI ([x19.cell,x62.to_.cell]:List Int))),(8,.box [.i 0,.i 0,.b false,.i 0,.i 0,.b false,.i 0,.i 0,.b false,.i 0,.i 0,.b false])] 9 3 (bvA 6 [3,4,5]) ?_ fun hd70_1=>?_
         ·refine D.all 3 [] (by kernel_rfl) ⟨?_,trivial⟩
          ·refine D.ef1 rfl (.none rfl) (by exact Eff1.al T rfl rfl rfl rfl) rfl rfl ?_
           exact D.tq [0,1,2,3,4,5,6,7,8,9] hd70_3
         refine D.have false [cE0 p i,(1,.o 0),(2,.i i),(3,.i k),(11,.p 1 0),(12,.p 2 0),(13,.p 3 0),(16,.p 4 0),cE1 p,(21,.p 6 0),(23,.p 8 0),(105,.o 5),(106,.i (x52.length:Int)),(107,.i s55.2),(108,.b (decide (s55.2<(x52.length:Int)))),(109,.ep 5 4 (Int.toNat s55.2) 0),(110,.agg (QQ x62)),cE2 p,(112,.p 4 0),(113,.i x19.cell),(114,.p 6 1),(115,.p 6 1),(116,.i x62.to_.cell),(117,.o 7),(118,.b x65),cE3 i to_1,cE4 x_1] [(0,.val (.om Qa QD s55.1)),cE5 i to_1,cE6 used,cE7 x_1,(4,.box (Qc x19)),(5,.val (.os 4 QQ x52)),(6,.box (QQ x62)),(7,.val (.os 1 eI ([x19.cell,x62.to_.cell]:List Int))),(8,.box [.i 0,.i 0,.i 0,.b false,.i 0,.i 0,.b false,.i 0,.i 0,.b false,.i 0,.i 0,.b false,.i 0,.i 0,.i 0,.i 0])] 9 3 (bvA 6 [2,4,5]) ?_ fun hd70_2=>?_
         ·refine D.all 2 [] (by kernel_rfl) ⟨?_,trivial⟩
          ·refine D.ef1 rfl (.none rfl) (by exact Eff1.al T rfl rfl rfl rfl) rfl rfl ?_
           exact D.tq [0,1,2,3,4,5,6,7,9,8] hd70_3
         refine D.all 2 [3] (by kernel_rfl) ⟨?_,?_,trivial⟩
         ·refine D.ef1 rfl (.none rfl) (by exact Eff1.al T rfl rfl rfl rfl) rfl rfl ?_
          exact D.tq [0,1,2,3,4,5,6,7,8] hd70_1
         ·refine D.ef1 rfl (.none rfl) (by exact Eff1.al T rfl rfl rfl rfl) rfl rfl ?_
          exact D.tq [0,1,2,3,4,5,6,7,8] hd70_2
        ·refine C.skip ?_
         exact St.wa (idR 6) (j67 _ g)
      ·refine C.exit (C.ex (C.ex (C.bex ?_)))
       exact St.wk (j54 _ g) (Wk.mk' [some 0] rfl rfl trivial ⟨vL,trivial⟩ rfl)
   ·refine C.ite rfl g (fun b31 g=>?_) (fun b31 g=>?_)
    ·refine C.seq ?_
     refine D.bq mix 5 [1,3] [5,6] (fun hQ hS ws M'=>?_)
     refine D.pq 2 (zl [0,1]) T ?_
     refine D.have false [cE0 p i,(1,.o 0),(2,.i i),(3,.i k),(11,.p 1 0),(12,.p 2 0),(13,.p 3 0),(16,.p 4 0),cE1 p,(18,.p 5 0),(19,.p 6 0),(75,.b x22),cE8 i to_1,(77,.agg (K1 x_1))] [cE9 layer,cE5 i to_1,cE6 used,cE7 x_1,(4,.box (Qc x19)),(5,.box [.i 0,.i 0,.b false,.i 0,.i 0,.b false,.i 0,.i 0,.b false,.i 0,.i 0,.b false]),(6,.box [.i 0,.i 0,.i 0,.b false,.i 0,.i 0,.b false,.i 0,.i 0,.b false,.i 0,.i 0,.b false,.i 0,.i 0,.i 0,.i 0])] 7 2 (bvA 6 [4,5]) ?_ fun hd33_3=>?_
     ·refine D.e1 4 rfl (.none rfl) (by exact Eff1.st T rfl rfl rfl rfl rfl rfl rfl rfl rfl rfl) (by kernel_rfl) rfl rfl ?_
      refine D.ze1 rfl (.none rfl) (by exact Eff1.st T rfl rfl rfl rfl rfl rfl rfl rfl rfl rfl) (by kernel_rfl) (by kernel_rfl) ?_
      refine C.xt (U.ps 5 T rfl ?_)
      obtain⟨x37,y37,g⟩:=g
      refine U.r rfl (.none rfl) rfl rfl (by exact Rd.pi T rfl rfl rfl rfl rfl rfl ⟨(Qi y37).1,(Qi y37).2.1⟩) ?_
      obtain⟨x38,y38,g⟩:=g
      refine U.e1 rfl (.none rfl) (by exact Eff1.sj T (pre:=[]) (post:=[]) (enc:=Qc) (xs:=([to_1.e0,to_1.e1,to_1.e2,to_1.e3]:List CbsPlace)) (ys:=([x38.e0,x38.e1,x38.e2,x38.e3]:List CbsPlace)) (m:=3) (j:=i) (z:=({cell:=x19.cell,rest:=0,done:=true:CbsPlace})) rfl rfl rfl rfl rfl (fun _=>rfl) y37 rfl rfl rfl rfl rfl rfl rfl y38 rfl) ?_
      refine U.ps 1 T rfl ?_
      obtain⟨x40,y40,g⟩:=g
      refine U.r rfl (.none rfl) rfl rfl (by exact Rd.pi T rfl rfl rfl rfl rfl rfl ⟨(Qi y40).1,(Qi y40).2.1⟩) ?_
      obtain⟨x41,y41,g⟩:=g
      refine U.e1 rfl (.none rfl) (by exact Eff1.sj T (pre:=[.i x_1.cost,.i x_1.from_.e0.cell,.i x_1.from_.e0.rest,.b x_1.from_.e0.done,.i x_1.from_.e1.cell,.i x_1.from_.e1.rest,.b x_1.from_.e1.done,.i x_1.from_.e2.cell,.i x_1.from_.e2.rest,.b x_1.from_.e2.done,.i x_1.from_.e3.cell,.i x_1.from_.e3.rest,.b x_1.from_.e3.done]) (post:=[]) (enc:=eI) (xs:=([x_1.acts.e0,x_1.acts.e1,x_1.acts.e2,x_1.acts.e3]:List Int)) (ys:=([x41.e0,x41.e1,x41.e2,x41.e3]:List Int)) (m:=1) (j:=i) (z:=(-1)) rfl rfl rfl rfl rfl (fun _=>rfl) y40 rfl rfl rfl rfl rfl rfl rfl y41 rfl) ?_
      refine U.done (C.nx (D.bq mix 13 [2,4,5,6] [7,8] (fun hQ hS ws M'=>?_)))
      refine D.pq 10 [(0,[]),(1,[]),(2,[3]),(3,[]),(4,[]),(5,[]),(6,[11,7]),(8,[11,10,9]),(9,[11,10]),(12,[])] T ?_
      refine D.hav1 g false (fun x44=>[(0,.rp [.i p.s.Floor.W,.i p.s.Floor.H,.i p.s.Floor.D,.sl 1 eI p.s.Floor.Kind,.sl 1 eI p.s.Floor.Out,.sl 5 Q3 p.s.Zones,.sl 2 Q0 p.s.Aparts,.sl 2 Q1 p.s.Shelves,.sl 2 Q2 p.s.Robots,.sl 2 Q4 p.trips,.i p.tick,.sl 1 eI p.avoid,.i p.most]),(1,.o 0),(2,.i i),(3,.i k),(11,.p 1 0),(12,.p 2 0),(13,.p 3 0),(16,.p 4 0),(17,.fn (.func 102) [] [.p 2 0]),(18,.p 5 0),(19,.p 6 0),(75,.b x22),(76,.agg [.i to_1.e0.cell,.i to_1.e0.rest,.b to_1.e0.done,.i to_1.e1.cell,.i to_1.e1.rest,.b to_1.e1.done,.i to_1.e2.cell,.i to_1.e2.rest,.b to_1.e2.done,.i to_1.e3.cell,.i to_1.e3.rest,.b to_1.e3.done]),(77,.agg (K1 x_1)),(78,.i i),(79,.i i),(80,.p 4 0),(81,.i x19.cell),(82,.agg [.i x19.cell,.i 0,.b true]),(83,.p 5 (0+Int.toNat i*3)),(84,.p 6 13),(85,.p 6 (13+Int.toNat i*1)),(86,.rp [.i p.s.Floor.W,.i p.s.Floor.H,.i p.s.Floor.D,.sl 1 eI p.s.Floor.Kind,.sl 1 eI p.s.Floor.Out,.sl 5 Q3 p.s.Zones,.sl 2 Q0 p.s.Aparts,.sl 2 Q1 p.s.Shelves,.sl 2 Q2 p.s.Robots,.sl 2 Q4 p.trips,.i p.tick,.sl 1 eI p.avoid,.i p.most]),(87,.o 0),(88,.i i),(89,.i (w64 (i+1))),(90,.i k),(91,.agg [.i x38.e0.cell,.i x38.e0.rest,.b x38.e0.done,.i x38.e1.cell,.i x38.e1.rest,.b x38.e1.done,.i x38.e2.cell,.i x38.e2.rest,.b x38.e2.done,.i x38.e3.cell,.i x38.e3.rest,.b x38.e3.done]),(92,.sl 1 eI used),(93,.o 7),(94,.p 4 0),(95,.i x19.cell),(96,.o 8),(98,.agg [.i x_1.cost,.i x_1.from_.e0.cell,.i x_1.from_.e0.rest,.b x_1.from_.e0.done,.i x_1.from_.e1.cell,.i x_1.from_.e1.rest,.b x_1.from_.e1.done,.i x_1.from_.e2.cell,.i x_1.from_.e2.rest,.b x_1.from_.e2.done,.i x_1.from_.e3.cell,.i x_1.from_.e3.rest,.b x_1.from_.e3.done,.i x41.e0,.i x41.e1,.i x41.e2,.i x41.e3])]) (fun x44=>[(0,.val (.om Qa QD layer)),(1,.box [.i to_1.e0.cell,.i to_1.e0.rest,.b to_1.e0.done,.i to_1.e1.cell,.i to_1.e1.rest,.b to_1.e1.done,.i to_1.e2.cell,.i to_1.e2.rest,.b to_1.e2.done,.i to_1.e3.cell,.i to_1.e3.rest,.b to_1.e3.done]),(2,.box [.sl 1 eI used]),(3,.box (K1 x_1)),(4,.box (Qc x19)),(5,.box [.i x38.e0.cell,.i x38.e0.rest,.b x38.e0.done,.i x38.e1.cell,.i x38.e1.rest,.b x38.e1.done,.i x38.e2.cell,.i x38.e2.rest,.b x38.e2.done,.i x38.e3.cell,.i x38.e3.rest,.b x38.e3.done]),(6,.box [.i x_1.cost,.i x_1.from_.e0.cell,.i x_1.from_.e0.rest,.b x_1.from_.e0.done,.i x_1.from_.e1.cell,.i x_1.from_.e1.rest,.b x_1.from_.e1.done,.i x_1.from_.e2.cell,.i x_1.from_.e2.rest,.b x_1.from_.e2.done,.i x_1.from_.e3.cell,.i x_1.from_.e3.rest,.b x_1.from_.e3.done,.i x41.e0,.i x41.e1,.i x41.e2,.i x41.e3]),(7,.val (.os 1 eI x44)),(8,.val (.os 1 eI ([x19.cell]:List Int)))]) 9 2 #[true,true,true,true,true,true,true,true,true,true,true,false,true,false] (fun x44 g=>?_) fun hd43_3=>?_
      ·obtain⟨y45,g⟩:=g
       refine D.e1 11 rfl (.none rfl) (by exact Eff1.ap T rfl rfl rfl rfl rfl rfl (.inr ⟨_,rfl,rfl⟩) rfl rfl rfl (fun _=>rfl) rfl y45) (by kernel_rfl) rfl rfl ?_
       refine D.ze rfl (.none rfl) (by exact Eff.c [some 0] (v:=true) (Xk p (w64 (i+1)) k x38 (x44++([x19.cell]:List Int)) ({cost:=x_1.cost,from_:=x_1.from_,acts:=x41:CbsStep}) layer _ g) en49 rfl rfl rfl (.cons (.eq rfl) (.cons (.eq rfl) (.cons (.eq rfl) (.cons (.eq rfl) (.cons (.eq rfl) (.cons (.fz rfl rfl rfl (.os fun _=>.cons (.ro rfl) .nil)) (.eq rfl))))))) ⟨vL,trivial⟩ rfl rfl rfl rfl rfl rfl (fun _ _=>⟨(.tup .nil),⟨.val (.om _ _ _ fun _=>(.v _)),trivial⟩⟩) (.inl rfl) (fun _=>rfl) (fun _=>rfl) rfl) (by kernel_rfl) (by kernel_rfl) (fun x46' g=>?_)
       obtain⟨x46⟩:=x46'
       exact St.wa (idR 5) (j30 _ g)
      refine D.hav1 g false (fun x44=>[(0,.rp [.i p.s.Floor.W,.i p.s.Floor.H,.i p.s.Floor.D,.sl 1 eI p.s.Floor.Kind,.sl 1 eI p.s.Floor.Out,.sl 5 Q3 p.s.Zones,.sl 2 Q0 p.s.Aparts,.sl 2 Q1 p.s.Shelves,.sl 2 Q2 p.s.Robots,.sl 2 Q4 p.trips,.i p.tick,.sl 1 eI p.avoid,.i p.most]),(1,.o 0),(2,.i i),(3,.i k),(11,.p 1 0),(12,.p 2 0),(13,.p 3 0),(16,.p 4 0),(17,.fn (.func 102) [] [.p 2 0]),(18,.p 5 0),(19,.p 6 0),(75,.b x22),(76,.agg [.i to_1.e0.cell,.i to_1.e0.rest,.b to_1.e0.done,.i to_1.e1.cell,.i to_1.e1.rest,.b to_1.e1.done,.i to_1.e2.cell,.i to_1.e2.rest,.b to_1.e2.done,.i to_1.e3.cell,.i to_1.e3.rest,.b to_1.e3.done]),(77,.agg (K1 x_1)),(78,.i i),(79,.i i),(80,.p 4 0),(81,.i x19.cell),(82,.agg [.i x19.cell,.i 0,.b true]),(83,.p 5 (0+Int.toNat i*3)),(84,.p 6 13),(85,.p 6 (13+Int.toNat i*1)),(86,.rp [.i p.s.Floor.W,.i p.s.Floor.H,.i p.s.Floor.D,.sl 1 eI p.s.Floor.Kind,.sl 1 eI p.s.Floor.Out,.sl 5 Q3 p.s.Zones,.sl 2 Q0 p.s.Aparts,.sl 2 Q1 p.s.Shelves,.sl 2 Q2 p.s.Robots,.sl 2 Q4 p.trips,.i p.tick,.sl 1 eI p.avoid,.i p.most]),(87,.o 0),(88,.i i),(89,.i (w64 (i+1))),(90,.i k),(91,.agg [.i x38.e0.cell,.i x38.e0.rest,.b x38.e0.done,.i x38.e1.cell,.i x38.e1.rest,.b x38.e1.done,.i x38.e2.cell,.i x38.e2.rest,.b x38.e2.done,.i x38.e3.cell,.i x38.e3.rest,.b x38.e3.done]),(92,.sl 1 eI used),(93,.o 7),(94,.p 4 0),(95,.i x19.cell),(98,.agg [.i x_1.cost,.i x_1.from_.e0.cell,.i x_1.from_.e0.rest,.b x_1.from_.e0.done,.i x_1.from_.e1.cell,.i x_1.from_.e1.rest,.b x_1.from_.e1.done,.i x_1.from_.e2.cell,.i x_1.from_.e2.rest,.b x_1.from_.e2.done,.i x_1.from_.e3.cell,.i x_1.from_.e3.rest,.b x_1.from_.e3.done,.i x41.e0,.i x41.e1,.i x41.e2,.i x41.e3])]) (fun x44=>[(0,.val (.om Qa QD layer)),(1,.box [.i to_1.e0.cell,.i to_1.e0.rest,.b to_1.e0.done,.i to_1.e1.cell,.i to_1.e1.rest,.b to_1.e1.done,.i to_1.e2.cell,.i to_1.e2.rest,.b to_1.e2.done,.i to_1.e3.cell,.i to_1.e3.rest,.b to_1.e3.done]),(2,.box [.sl 1 eI used]),(3,.box (K1 x_1)),(4,.box (Qc x19)),(5,.box [.i x38.e0.cell,.i x38.e0.rest,.b x38.e0.done,.i x38.e1.cell,.i x38.e1.rest,.b x38.e1.done,.i x38.e2.cell,.i x38.e2.rest,.b x38.e2.done,.i x38.e3.cell,.i x38.e3.rest,.b x38.e3.done]),(6,.box [.i x_1.cost,.i x_1.from_.e0.cell,.i x_1.from_.e0.rest,.b x_1.from_.e0.done,.i x_1.from_.e1.cell,.i x_1.from_.e1.rest,.b x_1.from_.e1.done,.i x_1.from_.e2.cell,.i x_1.from_.e2.rest,.b x_1.from_.e2.done,.i x_1.from_.e3.cell,.i x_1.from_.e3.rest,.b x_1.from_.e3.done,.i x41.e0,.i x41.e1,.i x41.e2,.i x41.e3]),(7,.val (.os 1 eI x44))]) 8 3 #[true,true,true,true,true,true,true,true,true,true,false,false,true,false] (fun x44 g=>?_) fun hd43_1=>?_
      ·refine D.all 10 [] (by kernel_rfl) ⟨?_,trivial⟩
       ·refine D.bs T eI ([x19.cell]:List Int) ?_
        exact D.to [some 0,some 1,some 2,some 3,some 4,some 5,some 6,some 7,some 8] (hd43_3 x44 g) (by kernel_rfl) rfl rfl (.eqs rfl) ⟨vL,bX,bX,bX,bX,bX,bX,vL,vL,trivial⟩ rfl rfl rfl
      refine D.have false [cE0 p i,(1,.o 0),(2,.i i),(3,.i k),(11,.p 1 0),(12,.p 2 0),(13,.p 3 0),(16,.p 4 0),cE1 p,(18,.p 5 0),(19,.p 6 0),(75,.b x22),cE8 i to_1,(77,.agg (K1 x_1)),(78,.i i),(79,.i i),(80,.p 4 0),(81,.i x19.cell),(82,.agg [.i x19.cell,.i 0,.b true]),(83,.p 5 (0+Int.toNat i*3)),(84,.p 6 13),(85,.p 6 (13+Int.toNat i*1)),(86,.rp [.i p.s.Floor.W,.i p.s.Floor.H,.i p.s.Floor.D,.sl 1 eI p.s.Floor.Kind,.sl 1 eI p.s.Floor.Out,.sl 5 Q3 p.s.Zones,.sl 2 Q0 p.s.Aparts,.sl 2 Q1 p.s.Shelves,.sl 2 Q2 p.s.Robots,.sl 2 Q4 p.trips,.i p.tick,.sl 1 eI p.avoid,.i p.most]),(87,.o 0),(88,.i i),(89,.i (w64 (i+1))),(90,.i k),(91,.agg [.i x38.e0.cell,.i x38.e0.rest,.b x38.e0.done,.i x38.e1.cell,.i x38.e1.rest,.b x38.e1.done,.i x38.e2.cell,.i x38.e2.rest,.b x38.e2.done,.i x38.e3.cell,.i x38.e3.rest,.b x38.e3.done]),(92,.sl 1 eI used),(94,.p 4 0),(95,.i x19.cell),(96,.o 7),(98,.agg [.i x_1.cost,.i x_1.from_.e0.cell,.i x_1.from_.e0.rest,.b x_1.from_.e0.done,.i x_1.from_.e1.cell,.i x_1.from_.e1.rest,.b x_1.from_.e1.done,.i x_1.from_.e2.cell,.i x_1.from_.e2.rest,.b x_1.from_.e2.done,.i x_1.from_.e3.cell,.i x_1.from_.e3.rest,.b x_1.from_.e3.done,.i x41.e0,.i x41.e1,.i x41.e2,.i x41.e3])] [cE9 layer,cE5 i to_1,cE6 used,cE7 x_1,(4,.box (Qc x19)),(5,.box [.i x38.e0.cell,.i x38.e0.rest,.b x38.e0.done,.i x38.e1.cell,.i x38.e1.rest,.b x38.e1.done,.i x38.e2.cell,.i x38.e2.rest,.b x38.e2.done,.i x38.e3.cell,.i x38.e3.rest,.b x38.e3.done]),(6,.box [.i x_1.cost,.i x_1.from_.e0.cell,.i x_1.from_.e0.rest,.b x_1.from_.e0.done,.i x_1.from_.e1.cell,.i x_1.from_.e1.rest,.b x_1.from_.e1.done,.i x_1.from_.e2.cell,.i x_1.from_.e2.rest,.b x_1.from_.e2.done,.i x_1.from_.e3.cell,.i x_1.from_.e3.rest,.b x_1.from_.e3.done,.i x41.e0,.i x41.e1,.i x41.e2,.i x41.e3]),(7,.val (.os 1 eI ([x19.cell]:List Int)))] 8 3 (bvA 14 [7,11,13]) ?_ fun hd43_2=>?_
      ·refine D.all 7 [] (by kernel_rfl) ⟨?_,trivial⟩
       ·refine D.ef rfl (.none rfl) (by exact Eff.c [] (v:=true) (Kq used _ g) en79 rfl rfl rfl (.eq rfl) trivial rfl rfl rfl rfl rfl rfl (fun _ _=>⟨(.o _),⟨.val (.os _ _ _ fun _=>(.cons (.v _) .nil)),trivial⟩⟩) (.inr ⟨rfl,rfl⟩) (fun _=>rfl) (fun _=>rfl) rfl) rfl rfl (fun x44' g=>?_)
        obtain⟨x44⟩:=x44'
        exact D.to [some 0,some 1,some 2,some 3,some 4,some 5,some 6,some 8,some 7] (hd43_3 x44 g) (by kernel_rfl) rfl rfl (.eqs rfl) ⟨vL,bX,bX,bX,bX,bX,bX,vL,vL,trivial⟩ rfl rfl rfl
      refine D.all 7 [10] (by kernel_rfl) ⟨?_,?_,trivial⟩
      ·refine D.ef rfl (.none rfl) (by exact Eff.c [] (v:=true) (Kq used _ g) en79 rfl rfl rfl (.eq rfl) trivial rfl rfl rfl rfl rfl rfl (fun _ _=>⟨(.o _),⟨.val (.os _ _ _ fun _=>(.cons (.v _) .nil)),trivial⟩⟩) (.inr ⟨rfl,rfl⟩) (fun _=>rfl) (fun _=>rfl) rfl) rfl rfl (fun x44' g=>?_)
       obtain⟨x44⟩:=x44'
       exact D.to [some 0,some 1,some 2,some 3,some 4,some 5,some 6,some 7] (hd43_1 x44 g) (by kernel_rfl) rfl rfl (.eqs rfl) ⟨vL,bX,bX,bX,bX,bX,bX,vL,trivial⟩ rfl rfl rfl
      ·refine D.bs T eI ([x19.cell]:List Int) ?_
       exact D.tq [0,1,2,3,4,5,6,7] hd43_2
     refine D.have false [cE0 p i,(1,.o 0),(2,.i i),(3,.i k),(11,.p 1 0),(12,.p 2 0),(13,.p 3 0),(16,.p 4 0),cE1 p,(18,.p 5 0),(75,.b x22),cE8 i to_1,(77,.agg (K1 x_1))] [cE9 layer,cE5 i to_1,cE6 used,cE7 x_1,(4,.box (Qc x19)),(5,.box [.i 0,.i 0,.b false,.i 0,.i 0,.b false,.i 0,.i 0,.b false,.i 0,.i 0,.b false])] 6 3 (bvA 6 [3,4,5]) ?_ fun hd33_1=>?_
     ·refine D.all 3 [] (by kernel_rfl) ⟨?_,trivial⟩
      ·refine D.ef1 rfl (.none rfl) (by exact Eff1.al T rfl rfl rfl rfl) rfl rfl ?_
       exact D.tq [0,1,2,3,4,5,6] hd33_3
     refine D.have false [cE0 p i,(1,.o 0),(2,.i i),(3,.i k),(11,.p 1 0),(12,.p 2 0),(13,.p 3 0),(16,.p 4 0),cE1 p,(19,.p 5 0),(75,.b x22),cE8 i to_1,(77,.agg (K1 x_1))] [cE9 layer,cE5 i to_1,cE6 used,cE7 x_1,(4,.box (Qc x19)),(5,.box [.i 0,.i 0,.i 0,.b false,.i 0,.i 0,.b false,.i 0,.i 0,.b false,.i 0,.i 0,.b false,.i 0,.i 0,.i 0,.i 0])] 6 3 (bvA 6 [2,4,5]) ?_ fun hd33_2=>?_
     ·refine D.all 2 [] (by kernel_rfl) ⟨?_,trivial⟩
      ·refine D.ef1 rfl (.none rfl) (by exact Eff1.al T rfl rfl rfl rfl) rfl rfl ?_
       exact D.tq [0,1,2,3,4,6,5] hd33_3
     refine D.all 2 [3] (by kernel_rfl) ⟨?_,?_,trivial⟩
     ·refine D.ef1 rfl (.none rfl) (by exact Eff1.al T rfl rfl rfl rfl) rfl rfl ?_
      exact D.tq [0,1,2,3,4,5] hd33_1
     ·refine D.ef1 rfl (.none rfl) (by exact Eff1.al T rfl rfl rfl rfl) rfl rfl ?_
      exact D.tq [0,1,2,3,4,5] hd33_2
    ·refine C.skip ?_
     exact St.wa (idR 5) (j30 _ g)
  ·refine D.bq mix 9999 [4] [] (fun hQ hS ws M'=>?_)
   refine D.pq 3 (zl [0,1,2]) T ?_
   refine g.cs (fun b24 g=>?_) fun b24 g=>?_
   ·refine D.sz 3 [] 2 false 56 b24 ?_
    refine D.sz 4 [] 2 false 56 b24 ?_
    refine D.sz 5 [] 2 false 56 b24 ?_
    refine D.sz 6 [] 2 false 56 b24 ?_
    refine D.sz 7 [] 2 false 56 b24 ?_
    refine D.sz 8 [] 2 false 56 b24 ?_
    refine D.sz 9 [] 2 false 56 b24 ?_
    refine D.sz 10 [] 2 false 56 b24 ?_
    refine D.sz 11 [] 2 false 56 b24 ?_
    refine D.sz 12 [] 2 false 56 b24 ?_
    refine D.sz 13 [] 2 false 56 b24 ?_
    refine D.kt 14 [] b24 ?_
    refine D.pq 1 [(15,[])] T ?_
    refine D.pt 16 [] 15 true 69 rfl T ?_
    refine D.pt 17 [] 15 true 69 rfl T ?_
    refine D.q 18 [] hQ hS rfl (.tk 15 true 69 rfl) rfl rfl (by exact Rd.l T rfl rfl rfl) rfl (by kernel_rfl) ?_
    refine D.e1 19 rfl (.tk 15 true 69 rfl) (by exact Eff1.bs T (enc:=eI) (xs:=([x19.cell]:List Int)) rfl rfl rfl rfl rfl rfl rfl rfl rfl rfl (fun _ _=>rfl) rfl rfl) (by kernel_rfl) rfl rfl ?_
    refine D.k 20 (XF ([x19.cell]:List Int) used _ g) Q4M (fun x25 g=>?_) (hw:=.take 15 true 69 _ rfl rfl rfl rfl)
    refine D.kt 21 [] rfl ?_
    refine D.done (by kernel_rfl) ?_
    exact St.wa (idR 5) (j23 _ g)
   ·refine D.pt 3 [] 2 false 56 b24 T ?_
    refine D.q 4 [] hQ hS rfl (.tk 2 false 56 b24) rfl rfl (by exact Rd.l T rfl rfl rfl) rfl (by kernel_rfl) ?_
    refine D.pt 5 [] 2 false 56 b24 T ?_
    refine D.pt 6 [] 2 false 56 b24 T ?_
    refine D.pt 7 [] 2 false 56 b24 T ?_
    refine D.q 8 [] hQ hS rfl (.tk 2 false 56 b24) rfl rfl (by exact Rd.l T rfl rfl rfl) rfl (by kernel_rfl) ?_
    refine D.pt 9 [] 2 false 56 b24 T ?_
    obtain⟨x26,y26,g⟩:=g
    refine D.q 10 [] hQ hS rfl (.tk 2 false 56 b24) rfl rfl (by exact Rd.ix T rfl rfl rfl rfl rfl rfl y26) rfl (by kernel_rfl) ?_
    refine D.pt 11 [] 2 false 56 b24 T ?_
    refine D.q 12 [] hQ hS rfl (.tk 2 false 56 b24) rfl rfl (by exact Rd.l T rfl rfl rfl) rfl (by kernel_rfl) ?_
    refine D.pt 13 [] 2 false 56 b24 T ?_
    refine D.kf 14 [] b24 ?_
    refine D.pq 1 [(15,[])] T ?_
    refine g.cs (fun b27 g=>?_) fun b27 g=>?_
    ·refine D.pt 16 [] 15 true 69 b27 T ?_
     refine D.pt 17 [] 15 true 69 b27 T ?_
     refine D.q 18 [] hQ hS rfl (.tk 15 true 69 b27) rfl rfl (by exact Rd.l T rfl rfl rfl) rfl (by kernel_rfl) ?_
     refine D.e1 19 rfl (.tk 15 true 69 b27) (by exact Eff1.bs T (enc:=eI) (xs:=([x19.cell]:List Int)) rfl rfl rfl rfl rfl rfl rfl rfl rfl rfl (fun _ _=>rfl) rfl rfl) (by kernel_rfl) rfl rfl ?_
     refine D.k 20 (XF ([x19.cell]:List Int) used _ g) Q4M (fun x28 g=>?_) (hw:=.take 15 true 69 _ b27 rfl rfl rfl)
     refine D.kt 21 [] b27 ?_
     refine D.done (by kernel_rfl) ?_
     exact St.wa (idR 5) (j23 _ g)
    ·refine D.sz 16 [] 15 true 69 b27 ?_
     refine D.sz 17 [] 15 true 69 b27 ?_
     refine D.sz 18 [] 15 true 69 b27 ?_
     refine D.sz 19 [] 15 true 69 b27 ?_
     refine D.sz 20 [] 15 true 69 b27 ?_
     refine D.kf 21 [] b27 ?_
     refine D.done (by kernel_rfl) ?_
     exact St.wa (idR 5) (j23 _ g)
theorem XG (s_1:List Int) (post:(List Int)→Prop) (g:QL s_1 post):
  Tr Tryz.prog 50 [.o 0] [(0,.val (.os 1 eI s_1))] 1 (fun A H' k=>∃y,post y∧A=(.tup [])∧H'=[(0,.val (.os 1 eI y))]∧k=1):=by
 refine Tr.go Tryz.func50 Tryz.ntmps50 fun _ _ _ _ o=>?_
 unfold QL at g
 refine C.ss (U.pd 5 T (C.nx ?_))
 refine C.jn (fun (x3:List Int)=>[]) (fun x3=>[(0,.val (.os 1 eI x3))]) 1 g (fun x3 g=>?_) fun J4 g j4=>?_
 exact C.fg [some 0] T o ⟨x3,g,rfl,rfl,rfl⟩
 refine C.block (St.wk (C.loop (fun (s5:List Int×Int×Int)=>[(0,.o 0),(2,.i s5.2.1),(3,.i s5.2.2)]) (fun s5=>[(0,.val (.os 1 eI s5.1))]) g (fun s5 Y6 g=>?_)) (Wk.a [some 0]))
 refine C.seq (C.ss (U.pd 3 T (C.nx ?_)))
 refine C.ite rfl g (fun b9 g=>?_) fun b9 g=>?_
 refine C.skip (C.xs (C.block (D.bq mix 15 [] [0] (fun hQ hS ws M'=>?_))))
 refine D.pq 6 (zl [0,1,2,3,4,5]) T ?_
 obtain⟨x12,y12,g⟩:=g
 refine D.q 6 [] hQ hS rfl (.none rfl) rfl rfl (by exact Rd.io T rfl rfl rfl rfl rfl rfl rfl y12) rfl (by kernel_rfl) ?_
 refine D.pq 2 (zl [8,9]) T ?_
 obtain⟨x13,y13,g⟩:=g
 refine D.q 10 [] hQ hS rfl (.none rfl) rfl rfl (by exact Rd.io T rfl rfl rfl rfl rfl rfl rfl y13) rfl (by kernel_rfl) ?_
 refine D.have false [(0,.o 0),(2,.i s5.2.1),(3,.i s5.2.2),(7,.i s5.2.1),(8,.i s5.2.2),(9,.b (decide (s5.2.1<s5.2.2))),(14,.o 0),(15,.i s5.2.1),(16,.o 0),(17,.i s5.2.2),(18,.o 0),(19,.i s5.2.2),(20,.ep 0 1 (Int.toNat s5.2.2) 0),(21,.i x12),(22,.o 0),(23,.i s5.2.1),(24,.ep 0 1 (Int.toNat s5.2.1) 0),(25,.i x13),(26,.ep 0 1 (Int.toNat s5.2.1) 0)] [(0,.val (.os 1 eI s5.1))] 1 3 #[true,true,true,true,true,true,true,true,true,true,true,true,true,false,false,false] ?_ fun hd13_3=>?_
 refine D.e1 13 rfl (.none rfl) (by exact Eff1.se T (z':=x12) rfl rfl rfl (Qi y13).2.2 rfl rfl rfl rfl rfl rfl rfl rfl (fun _=>rfl) rfl) (by kernel_rfl) rfl rfl ?_
 obtain⟨x14,y14,g⟩:=g
 refine D.q 14 [] hQ hS rfl (.none rfl) rfl rfl (by exact Rd.io T rfl rfl rfl rfl rfl rfl rfl y14) rfl (by kernel_rfl) ?_
 refine D.ze1 rfl (.none rfl) (by exact Eff1.se T (z':=x13) rfl rfl rfl (Qi y14).2.2 rfl rfl rfl rfl rfl rfl rfl rfl (fun _=>rfl) rfl) (by kernel_rfl) (by kernel_rfl) ?_
 refine C.bnx (C.nx (U.start (U.pd 6 T (C.nx ?_))))
 exact St.wk (C.next g) (Wk.a [some 0])
 refine D.have false [(0,.o 0),(2,.i s5.2.1),(3,.i s5.2.2),(7,.i s5.2.1),(8,.i s5.2.2),(9,.b (decide (s5.2.1<s5.2.2))),(14,.o 0),(15,.i s5.2.1),(16,.o 0),(17,.i s5.2.2),(18,.o 0),(19,.i s5.2.2),(20,.ep 0 1 (Int.toNat s5.2.2) 0),(21,.i x12),(22,.o 0),(23,.i s5.2.1),(24,.ep 0 1 (Int.toNat s5.2.1) 0)] [(0,.val (.os 1 eI s5.1))] 1 5 #[true,true,true,true,true,true,true,true,true,true,true,false,false,false,false,false] ?_ fun hd13_1=>?_
 refine D.all 11 [] (by kernel_rfl) ⟨?_,trivial⟩
 refine D.ef1 rfl (.none rfl) (by exact Eff1.rd rfl rfl (Rd.le T rfl rfl rfl (Qi y13).2.2 rfl rfl rfl)) rfl rfl ?_
 refine D.q 12 [] hQ hS rfl (.none rfl) rfl rfl (by exact Rd.io T rfl rfl rfl rfl rfl rfl rfl y13) rfl (by kernel_rfl) ?_
 exact D.tq [0] hd13_3
 refine D.have false [(0,.o 0),(2,.i s5.2.1),(3,.i s5.2.2),(7,.i s5.2.1),(8,.i s5.2.2),(9,.b (decide (s5.2.1<s5.2.2))),(14,.o 0),(15,.i s5.2.1),(16,.o 0),(17,.i s5.2.2),(18,.o 0),(19,.i s5.2.2),(20,.ep 0 1 (Int.toNat s5.2.2) 0),(22,.o 0),(23,.i s5.2.1),(24,.ep 0 1 (Int.toNat s5.2.1) 0),(25,.i x13)] [(0,.val (.os 1 eI s5.1))] 1 5 #[true,true,true,true,true,true,true,false,true,true,true,true,false,false,false,false] ?_ fun hd13_2=>?_
 refine D.all 7 [] (by kernel_rfl) ⟨?_,trivial⟩
 refine D.ef1 rfl (.none rfl) (by exact Eff1.rd rfl rfl (Rd.le T rfl rfl rfl (Qi y12).2.2 rfl rfl rfl)) rfl rfl ?_
 refine D.q 12 [] hQ hS rfl (.none rfl) rfl rfl (by exact Rd.io T rfl rfl rfl rfl rfl rfl rfl y13) rfl (by kernel_rfl) ?_
 exact D.tq [0] hd13_3
 refine D.all 7 [11] (by kernel_rfl) ⟨?_,?_,trivial⟩
 refine D.ef1 rfl (.none rfl) (by exact Eff1.rd rfl rfl (Rd.le T rfl rfl rfl (Qi y12).2.2 rfl rfl rfl)) rfl rfl ?_
 exact D.tq [0] hd13_1
 refine D.ef1 rfl (.none rfl) (by exact Eff1.rd rfl rfl (Rd.le T rfl rfl rfl (Qi y13).2.2 rfl rfl rfl)) rfl rfl ?_
 exact D.tq [0] hd13_2
 refine C.exit (C.ex (C.ex (C.bex ?_)))
 exact St.wk (j4 _ g) (Wk.mk' [some 0] rfl rfl trivial ⟨vL,trivial⟩ rfl)
theorem YU (p:CbsProblem) (post:(List (List Int)×Int)→Prop) (g:KV p post):
  Tr Tryz.prog 21 [.rp [.i p.s.Floor.W,.i p.s.Floor.H,.i p.s.Floor.D,.sl 1 eI p.s.Floor.Kind,.sl 1 eI p.s.Floor.Out,.sl 5 Q3 p.s.Zones,.sl 2 Q0 p.s.Aparts,.sl 2 Q1 p.s.Shelves,.sl 2 Q2 p.s.Robots,.sl 2 Q4 p.trips,.i p.tick,.sl 1 eI p.avoid,.i p.most]] [] 0 (fun A H' k=>∃y,post y∧A=(.tup [.o 0,.i y.2])∧H'=[(0,.val (.os 1 eOeI y.1))]∧k=1):=by
 refine Tr.go Tryz.func21 Tryz.ntmps21 fun _ _ _ _ o=>?_
 unfold KV at g
 refine C.ss (U.pd 2 T (C.xt ?_))
 refine U.al T ?_
 refine U.done (C.xs (C.ss (U.pd 6 T (C.nx ?_))))
 refine C.jn (fun (x7:Arr4CbsPlace)=>[(0,.rp [.i p.s.Floor.W,.i p.s.Floor.H,.i p.s.Floor.D,.sl 1 eI p.s.Floor.Kind,.sl 1 eI p.s.Floor.Out,.sl 5 Q3 p.s.Zones,.sl 2 Q0 p.s.Aparts,.sl 2 Q1 p.s.Shelves,.sl 2 Q2 p.s.Robots,.sl 2 Q4 p.trips,.i p.tick,.sl 1 eI p.avoid,.i p.most]),(4,.p 0 0)]) (fun x7=>[(0,.box [.i x7.e0.cell,.i x7.e0.rest,.b x7.e0.done,.i x7.e1.cell,.i x7.e1.rest,.b x7.e1.done,.i x7.e2.cell,.i x7.e2.rest,.b x7.e2.done,.i x7.e3.cell,.i x7.e3.rest,.b x7.e3.done])]) 1 g (fun x7 g=>?_) fun J8 g j8=>?_
 refine C.xt (U.e1 rfl (.none rfl) (by exact Eff1.mm Qa QD rfl rfl rfl) ?_)
 refine U.ps 2 T rfl ?_
 refine U.e1 rfl (.none rfl) (by exact Eff1.mu T (x:=x7) (y:=({cost:=0,from_:=({e0:=({cell:=0,rest:=0,done:=false:CbsPlace}),e1:=({cell:=0,rest:=0,done:=false:CbsPlace}),e2:=({cell:=0,rest:=0,done:=false:CbsPlace}),e3:=({cell:=0,rest:=0,done:=false:CbsPlace}):Arr4CbsPlace}),acts:=({e0:=0,e1:=0,e2:=0,e3:=0:Arr4Int}):CbsStep})) (.inr rfl) rfl Q3u (fun _=>rfl) rfl rfl rfl rfl rfl (.inr (.inl ⟨_,rfl,rfl⟩)) rfl) ?_
 refine U.ps 1 T rfl ?_
 refine U.e1 rfl (.none rfl) (by exact Eff1.bsl T (enc:=Qe) (upd ([]:List (Arr4CbsPlace×CbsStep)) x7 ({cost:=0,from_:=({e0:=({cell:=0,rest:=0,done:=false:CbsPlace}),e1:=({cell:=0,rest:=0,done:=false:CbsPlace}),e2:=({cell:=0,rest:=0,done:=false:CbsPlace}),e3:=({cell:=0,rest:=0,done:=false:CbsPlace}):Arr4CbsPlace}),acts:=({e0:=0,e1:=0,e2:=0,e3:=0:Arr4Int}):CbsStep})) rfl rfl rfl rfl rfl rfl rfl rfl rfl) ?_
 refine U.pd 1 T ?_
 refine St.putb (l:=2) (l':=1) (y:=(upd ([]:List (Arr4CbsPlace×CbsStep)) x7 ({cost:=0,from_:=({e0:=({cell:=0,rest:=0,done:=false:CbsPlace}),e1:=({cell:=0,rest:=0,done:=false:CbsPlace}),e2:=({cell:=0,rest:=0,done:=false:CbsPlace}),e3:=({cell:=0,rest:=0,done:=false:CbsPlace}):Arr4CbsPlace}),acts:=({e0:=0,e1:=0,e2:=0,e3:=0:Arr4Int}):CbsStep}))) rfl rfl rfl (fun _ h=>nomatch h) rfl _ rfl ?_
 refine C.xt (U.ps 1 T rfl (U.al T ?_))
 refine U.st T ?_
 refine U.pd 1 T (C.xt ?_)
 refine U.pd 1 T (C.xs (C.ss ?_))
 refine U.pd 1 T (C.nx ?_)
 refine C.jn (fun (x32:List (List (Arr4CbsPlace×CbsStep))×Arr4CbsPlace×Int×Int)=>[(0,.rp [.i p.s.Floor.W,.i p.s.Floor.H,.i p.s.Floor.D,.sl 1 eI p.s.Floor.Kind,.sl 1 eI p.s.Floor.Out,.sl 5 Q3 p.s.Zones,.sl 2 Q0 p.s.Aparts,.sl 2 Q1 p.s.Shelves,.sl 2 Q2 p.s.Robots,.sl 2 Q4 p.trips,.i p.tick,.sl 1 eI p.avoid,.i p.most]),(7,.o 0),(8,.p 1 0),(9,.i x32.2.2.1),(10,.i x32.2.2.2)]) (fun x32=>[(0,.val (.os 1 Qe x32.1)),(1,.box [.i x32.2.1.e0.cell,.i x32.2.1.e0.rest,.b x32.2.1.e0.done,.i x32.2.1.e1.cell,.i x32.2.1.e1.rest,.b x32.2.1.e1.done,.i x32.2.1.e2.cell,.i x32.2.1.e2.rest,.b x32.2.1.e2.done,.i x32.2.1.e3.cell,.i x32.2.1.e3.rest,.b x32.2.1.e3.done])]) 2 g (fun x32 g=>?_) fun J33 g j33=>?_
 refine C.xs (C.ss (U.pd 2 T (C.nx ?_)))
 refine C.ite rfl g (fun b87 g=>?_) fun b87 g=>?_
 refine C.ss (U.pd 2 T (C.nx (C.ret (C.rt ?_))))
 exact C.fg [none] T o ⟨([],14),g,rfl,rfl,rfl⟩
 refine C.skip (C.xt (U.ps 5 T rfl ?_))
 obtain⟨y92,g⟩:=g
 refine U.e1 rfl (.none rfl) (by exact Eff1.re (A':=.os 1 eOeI (List.replicate (Int.toNat (p.trips.length:Int)) [])) (Eff1.mk T (enc:=fun _:Unit=>[vN]) (z0:=()) rfl rfl rfl rfl rfl rfl rfl rfl rfl rfl y92) (fun _ _ _ _ _ h=>(NlR.rep (.cons (.os _ _) .nil) _).on h)) ?_
 refine U.pd 1 T (C.xs ?_)
 refine C.jn (fun (x93:List (List Int))=>[(16,.o 0)]) (fun x93=>[(0,.val (.os 1 eOeI x93))]) 1 g (fun x93 g=>?_) fun J94 g j94=>?_
 refine C.xs (C.ss (U.pd 3 T (C.nx ?_)))
 refine C.jn (fun (x136:List (List Int))=>[(16,.o 0)]) (fun x136=>[(0,.val (.os 1 eOeI x136))]) 1 g (fun x136 g=>?_) fun J137 g j137=>?_
 refine C.xt (U.pd 3 T (C.nx (C.ret ?_)))
 exact C.fg [some 0] T o ⟨(x136,0),g,rfl,rfl,rfl⟩
 refine C.block (St.wk (C.loop (fun (s138:List (List Int)×Int)=>[(16,.o 0),(150,.o 0),(151,.i (x93.length:Int)),(152,.i s138.2)]) (fun s138=>[(0,.val (.os 1 eOeI s138.1))]) g (fun s138 Y139 g=>?_)) (Wk.a [some 0]))
 refine C.ss (U.pd 1 T (C.xs ?_))
 refine C.ite rfl g (fun b142 g=>?_) fun b142 g=>?_
 refine C.skip (C.xs (C.block (C.ss ?_)))
 obtain⟨x145,y145,g⟩:=g
 refine U.r rfl (.none rfl) rfl rfl (by exact Rd.io T rfl rfl rfl rfl rfl rfl rfl y145) ?_
 refine St.lend (l:=0) (i:=(Int.toNat s138.2)) rfl (Qi y145).2.2 rfl (fun _=>rfl) ?_
 refine U.r rfl (.none rfl) rfl rfl (by exact Rd.ll T rfl rfl rfl (.head _) rfl rfl rfl rfl) ?_
 refine U.pd 1 T (C.nx (U.start ?_))
 refine U.ps 1 T rfl (U.c [some 1] (XG x145 _ g) en50 (fun x148 g=>?_))
 refine U.done (St.putb (l:=0) (l':=1) (y:=x148) rfl rfl rfl (fun _ h=>nomatch h) rfl _ rfl ?_)
 refine C.bnx (C.nx (U.start (U.pd 2 T (C.nx ?_))))
 exact St.wk (C.next g) (Wk.a [some 0])
 refine C.exit (C.ex (C.ex (C.bex ?_)))
 exact St.wa [some 0] (j137 _ g)
 refine C.block ?_
 refine St.wk (C.loop (fun (s95:List (List (Arr4CbsPlace×CbsStep))×Arr4CbsPlace×Int×List (List Int))=>[(7,.o 0),(8,.p 1 0),(10,.i s95.2.2.1),(16,.o 2)]) (fun s95=>[(0,.val (.os 1 Qe s95.1)),(1,.box [.i s95.2.1.e0.cell,.i s95.2.1.e0.rest,.b s95.2.1.e0.done,.i s95.2.1.e1.cell,.i s95.2.1.e1.rest,.b s95.2.1.e1.done,.i s95.2.1.e2.cell,.i s95.2.1.e2.rest,.b s95.2.1.e2.done,.i s95.2.1.e3.cell,.i s95.2.1.e3.rest,.b s95.2.1.e3.done]),(2,.val (.os 1 eOeI s95.2.2.2))]) g (fun s95 Y96 g=>?_)) (Wk.a (idR 3))
 refine C.seq (C.ss (U.pd 2 T (C.nx ?_)))
 refine C.ite rfl g (fun b99 g=>?_) fun b99 g=>?_
 refine C.skip (C.xs ?_)
 refine C.jn (fun (x100:List (List (Arr4CbsPlace×CbsStep))×Arr4CbsPlace×List (List Int))=>[(7,.o 0),(8,.p 1 0),(10,.i s95.2.2.1),(16,.o 2)]) (fun x100=>[(0,.val (.os 1 Qe x100.1)),(1,.box [.i x100.2.1.e0.cell,.i x100.2.1.e0.rest,.b x100.2.1.e0.done,.i x100.2.1.e1.cell,.i x100.2.1.e1.rest,.b x100.2.1.e1.done,.i x100.2.1.e2.cell,.i x100.2.1.e2.rest,.b x100.2.1.e2.done,.i x100.2.1.e3.cell,.i x100.2.1.e3.rest,.b x100.2.1.e3.done]),(2,.val (.os 1 eOeI x100.2.2))]) 3 g (fun x100 g=>?_) fun J101 g j101=>?_
 refine C.nx (U.start (U.pd 3 T (C.nx ?_)))
 exact St.wk (C.next g) (Wk.a (idR 3))
 refine C.block (C.seq ?_)
 obtain⟨x104,y104,g⟩:=g
 refine St.lend (l:=0) (i:=(Int.toNat s95.2.2.1)) rfl (Qi y104).2.2 rfl (fun _=>rfl) ?_
 refine D.bq mix 7 [0,1,3] [] (fun hQ hS ws M'=>?_)
 refine D.pq 2 (zl [0,1]) T ?_
 refine D.q 2 [] hQ hS rfl (.none rfl) rfl rfl (by exact Rd.il T rfl rfl rfl rfl rfl rfl rfl y104) rfl (by kernel_rfl) ?_
 refine D.q 3 [] hQ hS rfl (.none rfl) rfl rfl (by exact Rd.ll T rfl rfl rfl (.head _) rfl rfl rfl rfl) rfl (by kernel_rfl) ?_
 refine D.pq 1 [(4,[])] T ?_
 refine D.q 5 [] hQ hS rfl (.none rfl) rfl rfl (by exact Rd.lk T (ke:=Qa) (ve:=QD) (xs:=x104) (z0:=({cost:=0,from_:=({e0:=({cell:=0,rest:=0,done:=false:CbsPlace}),e1:=({cell:=0,rest:=0,done:=false:CbsPlace}),e2:=({cell:=0,rest:=0,done:=false:CbsPlace}),e3:=({cell:=0,rest:=0,done:=false:CbsPlace}):Arr4CbsPlace}),acts:=({e0:=0,e1:=0,e2:=0,e3:=0:Arr4Int}):CbsStep})) (x:=s95.2.1) rfl rfl Q3u zt110 (fun _=>rfl) rfl (.o rfl) rfl rfl rfl) rfl (by kernel_rfl) ?_
 refine D.e1 6 rfl (.none rfl) (by exact Eff1.al T rfl rfl rfl rfl) (by kernel_rfl) rfl rfl ?_
 refine D.ze1 rfl (.none rfl) (by exact Eff1.st T rfl rfl rfl rfl rfl rfl rfl rfl rfl rfl) (by kernel_rfl) (by kernel_rfl) ?_
 refine St.putb (l:=0) (l':=3) (y:=x104) rfl rfl rfl (fun _ h=>nomatch h) rfl _ rfl ?_
 refine C.xs (C.ss (U.pd 3 T (C.nx ?_)))
 refine C.jn (fun (x107:List (List Int))=>[(7,.o 0),(8,.p 1 0),(10,.i s95.2.2.1),(16,.o 2),(17,.p 3 0)]) (fun x107=>[(0,.val (.os 1 Qe (s95.1.set (Int.toNat s95.2.2.1) x104))),(1,.box [.i s95.2.1.e0.cell,.i s95.2.1.e0.rest,.b s95.2.1.e0.done,.i s95.2.1.e1.cell,.i s95.2.1.e1.rest,.b s95.2.1.e1.done,.i s95.2.1.e2.cell,.i s95.2.1.e2.rest,.b s95.2.1.e2.done,.i s95.2.1.e3.cell,.i s95.2.1.e3.rest,.b s95.2.1.e3.done]),(2,.val (.os 1 eOeI x107)),(3,.box (K1 ((lk x104 s95.2.1).getD ({cost:=0,from_:=({e0:=({cell:=0,rest:=0,done:=false:CbsPlace}),e1:=({cell:=0,rest:=0,done:=false:CbsPlace}),e2:=({cell:=0,rest:=0,done:=false:CbsPlace}),e3:=({cell:=0,rest:=0,done:=false:CbsPlace}):Arr4CbsPlace}),acts:=({e0:=0,e1:=0,e2:=0,e3:=0:Arr4Int}):CbsStep}))))]) 4 g (fun x107 g=>?_) fun J108 g j108=>?_
 refine C.nx (U.start (U.ps 2 T rfl (U.st T ?_)))
 refine U.done (C.bnx ?_)
 exact St.wa (idR 3) (j101 _ g)
 refine C.block ?_
 refine St.wk (C.loop (fun (s109:List (List Int)×Int)=>[(7,.o 0),(8,.p 1 0),(10,.i s95.2.2.1),(16,.o 2),(17,.p 3 0),(125,.i (s95.2.2.2.length:Int)),(126,.i s109.2)]) (fun s109=>[(0,.val (.os 1 Qe (s95.1.set (Int.toNat s95.2.2.1) x104))),(1,.box [.i s95.2.1.e0.cell,.i s95.2.1.e0.rest,.b s95.2.1.e0.done,.i s95.2.1.e1.cell,.i s95.2.1.e1.rest,.b s95.2.1.e1.done,.i s95.2.1.e2.cell,.i s95.2.1.e2.rest,.b s95.2.1.e2.done,.i s95.2.1.e3.cell,.i s95.2.1.e3.rest,.b s95.2.1.e3.done]),(2,.val (.os 1 eOeI s109.1)),(3,.box (K1 ((lk x104 s95.2.1).getD ({cost:=0,from_:=({e0:=({cell:=0,rest:=0,done:=false:CbsPlace}),e1:=({cell:=0,rest:=0,done:=false:CbsPlace}),e2:=({cell:=0,rest:=0,done:=false:CbsPlace}),e3:=({cell:=0,rest:=0,done:=false:CbsPlace}):Arr4CbsPlace}),acts:=({e0:=0,e1:=0,e2:=0,e3:=0:Arr4Int}):CbsStep}))))]) g (fun s109 Y110 g=>?_)) (Wk.a [some 0,some 1,some 2,some 4])
 refine C.ss (U.pd 1 T (C.xs ?_))
 refine C.ite rfl g (fun b113 g=>?_) fun b113 g=>?_
 refine C.skip (C.xs (C.block (C.ss (U.pd 2 T (C.xt ?_)))))
 refine U.ps 2 T rfl ?_
 obtain⟨x119,y119,g⟩:=g
 refine U.r rfl (.none rfl) rfl rfl (by exact Rd.pi T rfl rfl rfl rfl rfl rfl ⟨(Qi y119).1,(Qi y119).2.1⟩) ?_
 refine U.r rfl (.none rfl) rfl rfl (by exact Rd.lj T (pre:=[.i (((lk x104 s95.2.1).getD ({cost:=0,from_:=({e0:=({cell:=0,rest:=0,done:=false:CbsPlace}),e1:=({cell:=0,rest:=0,done:=false:CbsPlace}),e2:=({cell:=0,rest:=0,done:=false:CbsPlace}),e3:=({cell:=0,rest:=0,done:=false:CbsPlace}):Arr4CbsPlace}),acts:=({e0:=0,e1:=0,e2:=0,e3:=0:Arr4Int}):CbsStep})).cost),.i (((lk x104 s95.2.1).getD ({cost:=0,from_:=({e0:=({cell:=0,rest:=0,done:=false:CbsPlace}),e1:=({cell:=0,rest:=0,done:=false:CbsPlace}),e2:=({cell:=0,rest:=0,done:=false:CbsPlace}),e3:=({cell:=0,rest:=0,done:=false:CbsPlace}):Arr4CbsPlace}),acts:=({e0:=0,e1:=0,e2:=0,e3:=0:Arr4Int}):CbsStep})).from_.e0.cell),.i (((lk x104 s95.2.1).getD ({cost:=0,from_:=({e0:=({cell:=0,rest:=0,done:=false:CbsPlace}),e1:=({cell:=0,rest:=0,done:=false:CbsPlace}),e2:=({cell:=0,rest:=0,done:=false:CbsPlace}),e3:=({cell:=0,rest:=0,done:=false:CbsPlace}):Arr4CbsPlace}),acts:=({e0:=0,e1:=0,e2:=0,e3:=0:Arr4Int}):CbsStep})).from_.e0.rest),.b (((lk x104 s95.2.1).getD ({cost:=0,from_:=({e0:=({cell:=0,rest:=0,done:=false:CbsPlace}),e1:=({cell:=0,rest:=0,done:=false:CbsPlace}),e2:=({cell:=0,rest:=0,done:=false:CbsPlace}),e3:=({cell:=0,rest:=0,done:=false:CbsPlace}):Arr4CbsPlace}),acts:=({e0:=0,e1:=0,e2:=0,e3:=0:Arr4Int}):CbsStep})).from_.e0.done),.i (((lk x104 s95.2.1).getD ({cost:=0,from_:=({e0:=({cell:=0,rest:=0,done:=false:CbsPlace}),e1:=({cell:=0,rest:=0,done:=false:CbsPlace}),e2:=({cell:=0,rest:=0,done:=false:CbsPlace}),e3:=({cell:=0,rest:=0,done:=false:CbsPlace}):Arr4CbsPlace}),acts:=({e0:=0,e1:=0,e2:=0,e3:=0:Arr4Int}):CbsStep})).from_.e1.cell),.i (((lk x104 s95.2.1).getD ({cost:=0,from_:=({e0:=({cell:=0,rest:=0,done:=false:CbsPlace}),e1:=({cell:=0,rest:=0,done:=false:CbsPlace}),e2:=({cell:=0,rest:=0,done:=false:CbsPlace}),e3:=({cell:=0,rest:=0,done:=false:CbsPlace}):Arr4CbsPlace}),acts:=({e0:=0,e1:=0,e2:=0,e3:=0:Arr4Int}):CbsStep})).from_.e1.rest),.b (((lk x104 s95.2.1).getD ({cost:=0,from_:=({e0:=({cell:=0,rest:=0,done:=false:CbsPlace}),e1:=({cell:=0,rest:=0,done:=false:CbsPlace}),e2:=({cell:=0,rest:=0,done:=false:CbsPlace}),e3:=({cell:=0,rest:=0,done:=false:CbsPlace}):Arr4CbsPlace}),acts:=({e0:=0,e1:=0,e2:=0,e3:=0:Arr4Int}):CbsStep})).from_.e1.done),.i (((lk x104 s95.2.1).getD ({cost:=0,from_:=({e0:=({cell:=0,rest:=0,done:=false:CbsPlace}),e1:=({cell:=0,rest:=0,done:=false:CbsPlace}),e2:=({cell:=0,rest:=0,done:=false:CbsPlace}),e3:=({cell:=0,rest:=0,done:=false:CbsPlace}):Arr4CbsPlace}),acts:=({e0:=0,e1:=0,e2:=0,e3:=0:Arr4Int}):CbsStep})).from_.e2.cell),.i (((lk x104 s95.2.1).getD ({cost:=0,from_:=({e0:=({cell:=0,rest:=0,done:=false:CbsPlace}),e1:=({cell:=0,rest:=0,done:=false:CbsPlace}),e2:=({cell:=0,rest:=0,done:=false:CbsPlace}),e3:=({cell:=0,rest:=0,done:=false:CbsPlace}):Arr4CbsPlace}),acts:=({e0:=0,e1:=0,e2:=0,e3:=0:Arr4Int}):CbsStep})).from_.e2.rest),.b (((lk x104 s95.2.1).getD ({cost:=0,from_:=({e0:=({cell:=0,rest:=0,done:=false:CbsPlace}),e1:=({cell:=0,rest:=0,done:=false:CbsPlace}),e2:=({cell:=0,rest:=0,done:=false:CbsPlace}),e3:=({cell:=0,rest:=0,done:=false:CbsPlace}):Arr4CbsPlace}),acts:=({e0:=0,e1:=0,e2:=0,e3:=0:Arr4Int}):CbsStep})).from_.e2.done),.i (((lk x104 s95.2.1).getD ({cost:=0,from_:=({e0:=({cell:=0,rest:=0,done:=false:CbsPlace}),e1:=({cell:=0,rest:=0,done:=false:CbsPlace}),e2:=({cell:=0,rest:=0,done:=false:CbsPlace}),e3:=({cell:=0,rest:=0,done:=false:CbsPlace}):Arr4CbsPlace}),acts:=({e0:=0,e1:=0,e2:=0,e3:=0:Arr4Int}):CbsStep})).from_.e3.cell),.i (((lk x104 s95.2.1).getD ({cost:=0,from_:=({e0:=({cell:=0,rest:=0,done:=false:CbsPlace}),e1:=({cell:=0,rest:=0,done:=false:CbsPlace}),e2:=({cell:=0,rest:=0,done:=false:CbsPlace}),e3:=({cell:=0,rest:=0,done:=false:CbsPlace}):Arr4CbsPlace}),acts:=({e0:=0,e1:=0,e2:=0,e3:=0:Arr4Int}):CbsStep})).from_.e3.rest),.b (((lk x104 s95.2.1).getD ({cost:=0,from_:=({e0:=({cell:=0,rest:=0,done:=false:CbsPlace}),e1:=({cell:=0,rest:=0,done:=false:CbsPlace}),e2:=({cell:=0,rest:=0,done:=false:CbsPlace}),e3:=({cell:=0,rest:=0,done:=false:CbsPlace}):Arr4CbsPlace}),acts:=({e0:=0,e1:=0,e2:=0,e3:=0:Arr4Int}):CbsStep})).from_.e3.done)]) (post:=[]) (enc:=eI) (xs:=([((lk x104 s95.2.1).getD ({cost:=0,from_:=({e0:=({cell:=0,rest:=0,done:=false:CbsPlace}),e1:=({cell:=0,rest:=0,done:=false:CbsPlace}),e2:=({cell:=0,rest:=0,done:=false:CbsPlace}),e3:=({cell:=0,rest:=0,done:=false:CbsPlace}):Arr4CbsPlace}),acts:=({e0:=0,e1:=0,e2:=0,e3:=0:Arr4Int}):CbsStep})).acts.e0,((lk x104 s95.2.1).getD ({cost:=0,from_:=({e0:=({cell:=0,rest:=0,done:=false:CbsPlace}),e1:=({cell:=0,rest:=0,done:=false:CbsPlace}),e2:=({cell:=0,rest:=0,done:=false:CbsPlace}),e3:=({cell:=0,rest:=0,done:=false:CbsPlace}):Arr4CbsPlace}),acts:=({e0:=0,e1:=0,e2:=0,e3:=0:Arr4Int}):CbsStep})).acts.e1,((lk x104 s95.2.1).getD ({cost:=0,from_:=({e0:=({cell:=0,rest:=0,done:=false:CbsPlace}),e1:=({cell:=0,rest:=0,done:=false:CbsPlace}),e2:=({cell:=0,rest:=0,done:=false:CbsPlace}),e3:=({cell:=0,rest:=0,done:=false:CbsPlace}):Arr4CbsPlace}),acts:=({e0:=0,e1:=0,e2:=0,e3:=0:Arr4Int}):CbsStep})).acts.e2,((lk x104 s95.2.1).getD ({cost:=0,from_:=({e0:=({cell:=0,rest:=0,done:=false:CbsPlace}),e1:=({cell:=0,rest:=0,done:=false:CbsPlace}),e2:=({cell:=0,rest:=0,done:=false:CbsPlace}),e3:=({cell:=0,rest:=0,done:=false:CbsPlace}):Arr4CbsPlace}),acts:=({e0:=0,e1:=0,e2:=0,e3:=0:Arr4Int}):CbsStep})).acts.e3]:List Int)) (m:=1) (sub:=0) (j:=s109.2) rfl rfl rfl rfl rfl (fun _=>rfl) y119 rfl rfl rfl) ?_
 refine U.pd 1 T (C.nx ?_)
 refine C.jn (fun (x120:List (List Int))=>[(7,.o 0),(8,.p 1 0),(10,.i s95.2.2.1),(16,.o 2),(17,.p 3 0),(125,.i (s95.2.2.2.length:Int)),(126,.i s109.2)]) (fun x120=>[(0,.val (.os 1 Qe (s95.1.set (Int.toNat s95.2.2.1) x104))),(1,.box [.i s95.2.1.e0.cell,.i s95.2.1.e0.rest,.b s95.2.1.e0.done,.i s95.2.1.e1.cell,.i s95.2.1.e1.rest,.b s95.2.1.e1.done,.i s95.2.1.e2.cell,.i s95.2.1.e2.rest,.b s95.2.1.e2.done,.i s95.2.1.e3.cell,.i s95.2.1.e3.rest,.b s95.2.1.e3.done]),(2,.val (.os 1 eOeI x120)),(3,.box (K1 ((lk x104 s95.2.1).getD ({cost:=0,from_:=({e0:=({cell:=0,rest:=0,done:=false:CbsPlace}),e1:=({cell:=0,rest:=0,done:=false:CbsPlace}),e2:=({cell:=0,rest:=0,done:=false:CbsPlace}),e3:=({cell:=0,rest:=0,done:=false:CbsPlace}):Arr4CbsPlace}),acts:=({e0:=0,e1:=0,e2:=0,e3:=0:Arr4Int}):CbsStep}))))]) 4 g (fun x120 g=>?_) fun J121 g j121=>?_
 refine C.bnx (C.nx (U.start (U.pd 2 T (C.nx ?_))))
 exact St.wk (C.next g) (Wk.a (idR 4))
 refine C.ite rfl g (fun b122 g=>?_) fun b122 g=>?_
 obtain⟨x125,y125,g⟩:=g
 refine St.lend (l:=2) (i:=(Int.toNat s109.2)) rfl (Qi y125).2.2 rfl (fun _=>rfl) ?_
 refine D.bq mix 13 [2,3] [4] (fun hQ hS ws M'=>?_)
 refine D.pq 4 (zl [0,1,2,3]) T ?_
 refine D.q 4 [] hQ hS rfl (.none rfl) rfl rfl (by exact Rd.il T rfl rfl rfl rfl rfl rfl rfl y125) rfl (by kernel_rfl) ?_
 refine D.q 5 [] hQ hS rfl (.none rfl) rfl rfl (by exact Rd.ll T rfl rfl rfl (.head _) rfl rfl rfl rfl) rfl (by kernel_rfl) ?_
 refine D.pq 2 (zl [6,7]) T ?_
 refine D.q 8 [] hQ hS rfl (.none rfl) rfl rfl (by exact Rd.pi T rfl rfl rfl rfl rfl rfl ⟨(Qi y119).1,(Qi y119).2.1⟩) rfl (by kernel_rfl) ?_
 refine D.q 9 [] hQ hS rfl (.none rfl) rfl rfl (by exact Rd.lj T (pre:=[.i (((lk x104 s95.2.1).getD ({cost:=0,from_:=({e0:=({cell:=0,rest:=0,done:=false:CbsPlace}),e1:=({cell:=0,rest:=0,done:=false:CbsPlace}),e2:=({cell:=0,rest:=0,done:=false:CbsPlace}),e3:=({cell:=0,rest:=0,done:=false:CbsPlace}):Arr4CbsPlace}),acts:=({e0:=0,e1:=0,e2:=0,e3:=0:Arr4Int}):CbsStep})).cost),.i (((lk x104 s95.2.1).getD ({cost:=0,from_:=({e0:=({cell:=0,rest:=0,done:=false:CbsPlace}),e1:=({cell:=0,rest:=0,done:=false:CbsPlace}),e2:=({cell:=0,rest:=0,done:=false:CbsPlace}),e3:=({cell:=0,rest:=0,done:=false:CbsPlace}):Arr4CbsPlace}),acts:=({e0:=0,e1:=0,e2:=0,e3:=0:Arr4Int}):CbsStep})).from_.e0.cell),.i (((lk x104 s95.2.1).getD ({cost:=0,from_:=({e0:=({cell:=0,rest:=0,done:=false:CbsPlace}),e1:=({cell:=0,rest:=0,done:=false:CbsPlace}),e2:=({cell:=0,rest:=0,done:=false:CbsPlace}),e3:=({cell:=0,rest:=0,done:=false:CbsPlace}):Arr4CbsPlace}),acts:=({e0:=0,e1:=0,e2:=0,e3:=0:Arr4Int}):CbsStep})).from_.e0.rest),.b (((lk x104 s95.2.1).getD ({cost:=0,from_:=({e0:=({cell:=0,rest:=0,done:=false:CbsPlace}),e1:=({cell:=0,rest:=0,done:=false:CbsPlace}),e2:=({cell:=0,rest:=0,done:=false:CbsPlace}),e3:=({cell:=0,rest:=0,done:=false:CbsPlace}):Arr4CbsPlace}),acts:=({e0:=0,e1:=0,e2:=0,e3:=0:Arr4Int}):CbsStep})).from_.e0.done),.i (((lk x104 s95.2.1).getD ({cost:=0,from_:=({e0:=({cell:=0,rest:=0,done:=false:CbsPlace}),e1:=({cell:=0,rest:=0,done:=false:CbsPlace}),e2:=({cell:=0,rest:=0,done:=false:CbsPlace}),e3:=({cell:=0,rest:=0,done:=false:CbsPlace}):Arr4CbsPlace}),acts:=({e0:=0,e1:=0,e2:=0,e3:=0:Arr4Int}):CbsStep})).from_.e1.cell),.i (((lk x104 s95.2.1).getD ({cost:=0,from_:=({e0:=({cell:=0,rest:=0,done:=false:CbsPlace}),e1:=({cell:=0,rest:=0,done:=false:CbsPlace}),e2:=({cell:=0,rest:=0,done:=false:CbsPlace}),e3:=({cell:=0,rest:=0,done:=false:CbsPlace}):Arr4CbsPlace}),acts:=({e0:=0,e1:=0,e2:=0,e3:=0:Arr4Int}):CbsStep})).from_.e1.rest),.b (((lk x104 s95.2.1).getD ({cost:=0,from_:=({e0:=({cell:=0,rest:=0,done:=false:CbsPlace}),e1:=({cell:=0,rest:=0,done:=false:CbsPlace}),e2:=({cell:=0,rest:=0,done:=false:CbsPlace}),e3:=({cell:=0,rest:=0,done:=false:CbsPlace}):Arr4CbsPlace}),acts:=({e0:=0,e1:=0,e2:=0,e3:=0:Arr4Int}):CbsStep})).from_.e1.done),.i (((lk x104 s95.2.1).getD ({cost:=0,from_:=({e0:=({cell:=0,rest:=0,done:=false:CbsPlace}),e1:=({cell:=0,rest:=0,done:=false:CbsPlace}),e2:=({cell:=0,rest:=0,done:=false:CbsPlace}),e3:=({cell:=0,rest:=0,done:=false:CbsPlace}):Arr4CbsPlace}),acts:=({e0:=0,e1:=0,e2:=0,e3:=0:Arr4Int}):CbsStep})).from_.e2.cell),.i (((lk x104 s95.2.1).getD ({cost:=0,from_:=({e0:=({cell:=0,rest:=0,done:=false:CbsPlace}),e1:=({cell:=0,rest:=0,done:=false:CbsPlace}),e2:=({cell:=0,rest:=0,done:=false:CbsPlace}),e3:=({cell:=0,rest:=0,done:=false:CbsPlace}):Arr4CbsPlace}),acts:=({e0:=0,e1:=0,e2:=0,e3:=0:Arr4Int}):CbsStep})).from_.e2.rest),.b (((lk x104 s95.2.1).getD ({cost:=0,from_:=({e0:=({cell:=0,rest:=0,done:=false:CbsPlace}),e1:=({cell:=0,rest:=0,done:=false:CbsPlace}),e2:=({cell:=0,rest:=0,done:=false:CbsPlace}),e3:=({cell:=0,rest:=0,done:=false:CbsPlace}):Arr4CbsPlace}),acts:=({e0:=0,e1:=0,e2:=0,e3:=0:Arr4Int}):CbsStep})).from_.e2.done),.i (((lk x104 s95.2.1).getD ({cost:=0,from_:=({e0:=({cell:=0,rest:=0,done:=false:CbsPlace}),e1:=({cell:=0,rest:=0,done:=false:CbsPlace}),e2:=({cell:=0,rest:=0,done:=false:CbsPlace}),e3:=({cell:=0,rest:=0,done:=false:CbsPlace}):Arr4CbsPlace}),acts:=({e0:=0,e1:=0,e2:=0,e3:=0:Arr4Int}):CbsStep})).from_.e3.cell),.i (((lk x104 s95.2.1).getD ({cost:=0,from_:=({e0:=({cell:=0,rest:=0,done:=false:CbsPlace}),e1:=({cell:=0,rest:=0,done:=false:CbsPlace}),e2:=({cell:=0,rest:=0,done:=false:CbsPlace}),e3:=({cell:=0,rest:=0,done:=false:CbsPlace}):Arr4CbsPlace}),acts:=({e0:=0,e1:=0,e2:=0,e3:=0:Arr4Int}):CbsStep})).from_.e3.rest),.b (((lk x104 s95.2.1).getD ({cost:=0,from_:=({e0:=({cell:=0,rest:=0,done:=false:CbsPlace}),e1:=({cell:=0,rest:=0,done:=false:CbsPlace}),e2:=({cell:=0,rest:=0,done:=false:CbsPlace}),e3:=({cell:=0,rest:=0,done:=false:CbsPlace}):Arr4CbsPlace}),acts:=({e0:=0,e1:=0,e2:=0,e3:=0:Arr4Int}):CbsStep})).from_.e3.done)]) (post:=[]) (enc:=eI) (xs:=([((lk x104 s95.2.1).getD ({cost:=0,from_:=({e0:=({cell:=0,rest:=0,done:=false:CbsPlace}),e1:=({cell:=0,rest:=0,done:=false:CbsPlace}),e2:=({cell:=0,rest:=0,done:=false:CbsPlace}),e3:=({cell:=0,rest:=0,done:=false:CbsPlace}):Arr4CbsPlace}),acts:=({e0:=0,e1:=0,e2:=0,e3:=0:Arr4Int}):CbsStep})).acts.e0,((lk x104 s95.2.1).getD ({cost:=0,from_:=({e0:=({cell:=0,rest:=0,done:=false:CbsPlace}),e1:=({cell:=0,rest:=0,done:=false:CbsPlace}),e2:=({cell:=0,rest:=0,done:=false:CbsPlace}),e3:=({cell:=0,rest:=0,done:=false:CbsPlace}):Arr4CbsPlace}),acts:=({e0:=0,e1:=0,e2:=0,e3:=0:Arr4Int}):CbsStep})).acts.e1,((lk x104 s95.2.1).getD ({cost:=0,from_:=({e0:=({cell:=0,rest:=0,done:=false:CbsPlace}),e1:=({cell:=0,rest:=0,done:=false:CbsPlace}),e2:=({cell:=0,rest:=0,done:=false:CbsPlace}),e3:=({cell:=0,rest:=0,done:=false:CbsPlace}):Arr4CbsPlace}),acts:=({e0:=0,e1:=0,e2:=0,e3:=0:Arr4Int}):CbsStep})).acts.e2,((lk x104 s95.2.1).getD ({cost:=0,from_:=({e0:=({cell:=0,rest:=0,done:=false:CbsPlace}),e1:=({cell:=0,rest:=0,done:=false:CbsPlace}),e2:=({cell:=0,rest:=0,done:=false:CbsPlace}),e3:=({cell:=0,rest:=0,done:=false:CbsPlace}):Arr4CbsPlace}),acts:=({e0:=0,e1:=0,e2:=0,e3:=0:Arr4Int}):CbsStep})).acts.e3]:List Int)) (m:=1) (sub:=0) (j:=s109.2) rfl rfl rfl rfl rfl (fun _=>rfl) y119 rfl rfl rfl) rfl (by kernel_rfl) ?_
 refine D.e1 10 rfl (.none rfl) (by exact Eff1.bs T (enc:=eI) (xs:=([x119]:List Int)) rfl rfl rfl rfl rfl rfl rfl rfl rfl rfl (fun _ _=>rfl) rfl rfl) (by kernel_rfl) rfl rfl ?_
 obtain⟨y127,g⟩:=g
 refine D.e1 11 rfl (.none rfl) (by exact Eff1.ap T rfl rfl rfl rfl rfl rfl (.inr ⟨_,rfl,rfl⟩) rfl rfl rfl (fun _=>rfl) rfl y127) (by kernel_rfl) rfl rfl ?_
 refine D.q 12 [] hQ hS rfl (.none rfl) rfl rfl (by exact Rd.il T rfl rfl rfl rfl rfl rfl rfl y125) rfl (by kernel_rfl) ?_
 refine D.ze1 rfl (.none rfl) (by exact Eff1.sl T rfl rfl rfl (fun _ h=>nomatch h) rfl rfl rfl rfl) (by kernel_rfl) (by kernel_rfl) ?_
 refine St.putb (l:=2) (l':=6) (y:=(x125++([x119]:List Int))) rfl rfl rfl (fun _ h=>nomatch h) rfl _ rfl ?_
 exact St.wa (idR 4) (j121 _ g)
 refine C.skip ?_
 exact St.wa (idR 4) (j121 _ g)
 refine C.exit (C.ex (C.ex (C.bex ?_)))
 exact St.wa (idR 4) (j108 _ g)
 refine C.exit (C.ex (C.ex (C.bex ?_)))
 exact St.wa [some 2] (j94 _ g)
 refine C.block ?_
 refine St.wk (C.loop (fun (s34:List (List (Arr4CbsPlace×CbsStep))×Arr4CbsPlace×Int×Int×Int)=>[(0,.rp [.i p.s.Floor.W,.i p.s.Floor.H,.i p.s.Floor.D,.sl 1 eI p.s.Floor.Kind,.sl 1 eI p.s.Floor.Out,.sl 5 Q3 p.s.Zones,.sl 2 Q0 p.s.Aparts,.sl 2 Q1 p.s.Shelves,.sl 2 Q2 p.s.Robots,.sl 2 Q4 p.trips,.i p.tick,.sl 1 eI p.avoid,.i p.most]),(7,.o 0),(8,.p 1 0),(9,.i s34.2.2.1),(10,.i s34.2.2.2.1),(11,.i s34.2.2.2.2)]) (fun s34=>[(0,.val (.os 1 Qe s34.1)),(1,.box [.i s34.2.1.e0.cell,.i s34.2.1.e0.rest,.b s34.2.1.e0.done,.i s34.2.1.e1.cell,.i s34.2.1.e1.rest,.b s34.2.1.e1.done,.i s34.2.1.e2.cell,.i s34.2.1.e2.rest,.b s34.2.1.e2.done,.i s34.2.1.e3.cell,.i s34.2.1.e3.rest,.b s34.2.1.e3.done])]) g (fun s34 Y35 g=>?_)) (Wk.a (sqR 2 2))
 refine C.seq (C.ss (U.pd 6 T (C.nx ?_)))
 refine C.ite rfl g (fun b38 g=>?_) fun b38 g=>?_
 refine C.skip (C.xs ?_)
 refine C.jn (fun (x39:List (List (Arr4CbsPlace×CbsStep))×Arr4CbsPlace×Int×Int)=>[(0,.rp [.i p.s.Floor.W,.i p.s.Floor.H,.i p.s.Floor.D,.sl 1 eI p.s.Floor.Kind,.sl 1 eI p.s.Floor.Out,.sl 5 Q3 p.s.Zones,.sl 2 Q0 p.s.Aparts,.sl 2 Q1 p.s.Shelves,.sl 2 Q2 p.s.Robots,.sl 2 Q4 p.trips,.i p.tick,.sl 1 eI p.avoid,.i p.most]),(7,.o 0),(8,.p 1 0),(9,.i x39.2.2.1),(10,.i x39.2.2.2),(11,.i s34.2.2.2.2)]) (fun x39=>[(0,.val (.os 1 Qe x39.1)),(1,.box [.i x39.2.1.e0.cell,.i x39.2.1.e0.rest,.b x39.2.1.e0.done,.i x39.2.1.e1.cell,.i x39.2.1.e1.rest,.b x39.2.1.e1.done,.i x39.2.1.e2.cell,.i x39.2.1.e2.rest,.b x39.2.1.e2.done,.i x39.2.1.e3.cell,.i x39.2.1.e3.rest,.b x39.2.1.e3.done])]) 2 g (fun x39 g=>?_) fun J40 g j40=>?_
 refine C.nx (U.start (U.pd 3 T (C.nx ?_)))
 exact St.wk (C.next g) (Wk.a (idR 2))
 refine C.block (C.ss (U.e1 rfl (.none rfl) (by exact Eff1.mm Qa QD rfl rfl rfl) ?_))
 refine U.pd 1 T (C.xs (C.ss ?_))
 refine U.ps 2 T rfl ?_
 obtain⟨x45,y45,g⟩:=g
 refine U.r rfl (.none rfl) rfl rfl (by exact Rd.io T rfl rfl rfl rfl rfl rfl rfl y45) ?_
 refine St.lend (l:=0) (i:=(Int.toNat s34.2.2.2.2)) rfl (Qi y45).2.2 rfl (fun _=>rfl) ?_
 refine U.r rfl (.none rfl) rfl rfl (by exact Rd.ll T rfl rfl rfl (.head _) rfl rfl rfl rfl) ?_
 refine U.k (Q1y x45 _ g) en47 fun x46 g=>?_
 refine U.pd 2 T ?_
 refine St.putb (l:=0) (l':=3) (y:=x45) rfl rfl rfl (fun _ h=>nomatch h) rfl _ rfl ?_
 refine C.nx ?_
 refine C.jn (fun (x47:List (List (Arr4CbsPlace×CbsStep))×Arr4CbsPlace×Int×Int×List (Arr4CbsPlace×CbsStep))=>[(0,.rp [.i p.s.Floor.W,.i p.s.Floor.H,.i p.s.Floor.D,.sl 1 eI p.s.Floor.Kind,.sl 1 eI p.s.Floor.Out,.sl 5 Q3 p.s.Zones,.sl 2 Q0 p.s.Aparts,.sl 2 Q1 p.s.Shelves,.sl 2 Q2 p.s.Robots,.sl 2 Q4 p.trips,.i p.tick,.sl 1 eI p.avoid,.i p.most]),(7,.o 0),(8,.p 1 0),(9,.i x47.2.2.1),(10,.i x47.2.2.2.1),(11,.i s34.2.2.2.2),(12,.o 2)]) (fun x47=>[(0,.val (.os 1 Qe x47.1)),(1,.box [.i x47.2.1.e0.cell,.i x47.2.1.e0.rest,.b x47.2.1.e0.done,.i x47.2.1.e1.cell,.i x47.2.1.e1.rest,.b x47.2.1.e1.done,.i x47.2.1.e2.cell,.i x47.2.1.e2.rest,.b x47.2.1.e2.done,.i x47.2.1.e3.cell,.i x47.2.1.e3.rest,.b x47.2.1.e3.done]),(2,.val (.om Qa QD x47.2.2.2.2))]) 3 g (fun x47 g=>?_) fun J48 g j48=>?_
 refine C.nx (U.start (U.ps 2 T rfl (U.e1 rfl (.none rfl) (by exact Eff1.bsl T (enc:=Qe) x47.2.2.2.2 rfl rfl rfl rfl rfl rfl rfl rfl rfl) ?_)))
 obtain⟨y82,g⟩:=g
 refine U.e1 rfl (.none rfl) (by exact Eff1.apl T rfl rfl rfl rfl rfl rfl rfl (fun _=>rfl) rfl rfl rfl rfl ⟨_,rfl,rfl⟩ y82) ?_
 refine U.pd 1 T ?_
 refine St.putb (l:=4) (l':=2) (y:=x47.2.2.2.2) rfl rfl rfl (fun _ h=>nomatch h) rfl _ rfl ?_
 refine C.bnx ?_
 exact St.wa [some 4,some 1] (j40 _ g)
 refine C.block ?_
 refine St.wk (C.loop (fun (s49:List (List (Arr4CbsPlace×CbsStep))×Arr4CbsPlace×Int×Int×List (Arr4CbsPlace×CbsStep)×Int)=>[(0,.rp [.i p.s.Floor.W,.i p.s.Floor.H,.i p.s.Floor.D,.sl 1 eI p.s.Floor.Kind,.sl 1 eI p.s.Floor.Out,.sl 5 Q3 p.s.Zones,.sl 2 Q0 p.s.Aparts,.sl 2 Q1 p.s.Shelves,.sl 2 Q2 p.s.Robots,.sl 2 Q4 p.trips,.i p.tick,.sl 1 eI p.avoid,.i p.most]),(7,.o 0),(8,.p 1 0),(9,.i s49.2.2.1),(10,.i s49.2.2.2.1),(11,.i s34.2.2.2.2),(12,.o 2),(56,.o 3),(57,.i (x46.length:Int)),(58,.i s49.2.2.2.2.2)]) (fun s49=>[(0,.val (.os 1 Qe s49.1)),(1,.box [.i s49.2.1.e0.cell,.i s49.2.1.e0.rest,.b s49.2.1.e0.done,.i s49.2.1.e1.cell,.i s49.2.1.e1.rest,.b s49.2.1.e1.done,.i s49.2.1.e2.cell,.i s49.2.1.e2.rest,.b s49.2.1.e2.done,.i s49.2.1.e3.cell,.i s49.2.1.e3.rest,.b s49.2.1.e3.done]),(2,.val (.om Qa QD s49.2.2.2.2.1)),(3,.val (.os 12 Ku x46))]) g (fun s49 Y50 g=>?_)) (Wk.a [some 0,some 1,some 2,some 4])
 refine C.ss (U.pd 1 T (C.xs ?_))
 refine C.ite rfl g (fun b53 g=>?_) fun b53 g=>?_
 refine C.skip (C.xs (C.block (C.ss ?_)))
 obtain⟨x56,y56,g⟩:=g
 refine U.r rfl (.none rfl) rfl rfl (by exact Rd.io T rfl rfl rfl rfl rfl rfl rfl y56) ?_
 refine U.r rfl (.none rfl) rfl rfl (by exact Rd.le T rfl rfl rfl (Qi y56).2.2 rfl rfl rfl) ?_
 refine U.al T ?_
 refine U.st T ?_
 refine U.done (C.xs ?_)
 obtain⟨x59,y59,g⟩:=g
 refine St.lend (l:=0) (i:=(Int.toNat s34.2.2.2.2)) rfl (Qi y59).2.2 rfl (fun _=>rfl) ?_
 refine D.bq mix 7 [0,4,5] [] (fun hQ hS ws M'=>?_)
 refine D.pq 2 (zl [0,1]) T ?_
 refine D.q 2 [] hQ hS rfl (.none rfl) rfl rfl (by exact Rd.il T rfl rfl rfl rfl rfl rfl rfl y59) rfl (by kernel_rfl) ?_
 refine D.q 3 [] hQ hS rfl (.none rfl) rfl rfl (by exact Rd.ll T rfl rfl rfl (.head _) rfl rfl rfl rfl) rfl (by kernel_rfl) ?_
 refine D.pq 1 [(4,[])] T ?_
 refine D.q 5 [] hQ hS rfl (.none rfl) rfl rfl (by exact Rd.lk T (ke:=Qa) (ve:=QD) (xs:=x59) (z0:=({cost:=0,from_:=({e0:=({cell:=0,rest:=0,done:=false:CbsPlace}),e1:=({cell:=0,rest:=0,done:=false:CbsPlace}),e2:=({cell:=0,rest:=0,done:=false:CbsPlace}),e3:=({cell:=0,rest:=0,done:=false:CbsPlace}):Arr4CbsPlace}),acts:=({e0:=0,e1:=0,e2:=0,e3:=0:Arr4Int}):CbsStep})) (x:=x56) rfl rfl Q3u zt110 (fun _=>rfl) rfl (.o rfl) rfl rfl rfl) rfl (by kernel_rfl) ?_
 refine D.e1 6 rfl (.none rfl) (by exact Eff1.al T rfl rfl rfl rfl) (by kernel_rfl) rfl rfl ?_
 refine D.ze1 rfl (.none rfl) (by exact Eff1.st T rfl rfl rfl rfl rfl rfl rfl rfl rfl rfl) (by kernel_rfl) (by kernel_rfl) ?_
 refine St.putb (l:=0) (l':=5) (y:=x59) rfl rfl rfl (fun _ h=>nomatch h) rfl _ rfl ?_
 refine C.xs (C.seq ?_)
 refine C.jn (fun (x60:Bool)=>[(0,.rp [.i p.s.Floor.W,.i p.s.Floor.H,.i p.s.Floor.D,.sl 1 eI p.s.Floor.Kind,.sl 1 eI p.s.Floor.Out,.sl 5 Q3 p.s.Zones,.sl 2 Q0 p.s.Aparts,.sl 2 Q1 p.s.Shelves,.sl 2 Q2 p.s.Robots,.sl 2 Q4 p.trips,.i p.tick,.sl 1 eI p.avoid,.i p.most]),(7,.o 0),(8,.p 1 0),(9,.i s49.2.2.1),(10,.i s49.2.2.2.1),(11,.i s34.2.2.2.2),(12,.o 2),(14,.p 3 0),(15,.p 4 0),(56,.o 5),(57,.i (x46.length:Int)),(58,.i s49.2.2.2.2.2),(80,.b x60)]) (fun x60=>[(0,.val (.os 1 Qe (s49.1.set (Int.toNat s34.2.2.2.2) x59))),(1,.box [.i s49.2.1.e0.cell,.i s49.2.1.e0.rest,.b s49.2.1.e0.done,.i s49.2.1.e1.cell,.i s49.2.1.e1.rest,.b s49.2.1.e1.done,.i s49.2.1.e2.cell,.i s49.2.1.e2.rest,.b s49.2.1.e2.done,.i s49.2.1.e3.cell,.i s49.2.1.e3.rest,.b s49.2.1.e3.done]),(2,.val (.om Qa QD s49.2.2.2.2.1)),(3,.box [.i x56.e0.cell,.i x56.e0.rest,.b x56.e0.done,.i x56.e1.cell,.i x56.e1.rest,.b x56.e1.done,.i x56.e2.cell,.i x56.e2.rest,.b x56.e2.done,.i x56.e3.cell,.i x56.e3.rest,.b x56.e3.done]),(4,.box (K1 ((lk x59 x56).getD ({cost:=0,from_:=({e0:=({cell:=0,rest:=0,done:=false:CbsPlace}),e1:=({cell:=0,rest:=0,done:=false:CbsPlace}),e2:=({cell:=0,rest:=0,done:=false:CbsPlace}),e3:=({cell:=0,rest:=0,done:=false:CbsPlace}):Arr4CbsPlace}),acts:=({e0:=0,e1:=0,e2:=0,e3:=0:Arr4Int}):CbsStep})))),(5,.val (.os 12 Ku x46))]) 6 g (fun x60 g=>?_) fun J61 g j61=>?_
 refine C.nx ?_
 refine C.jn (fun (x65:Arr4CbsPlace×Int×Int)=>[(0,.rp [.i p.s.Floor.W,.i p.s.Floor.H,.i p.s.Floor.D,.sl 1 eI p.s.Floor.Kind,.sl 1 eI p.s.Floor.Out,.sl 5 Q3 p.s.Zones,.sl 2 Q0 p.s.Aparts,.sl 2 Q1 p.s.Shelves,.sl 2 Q2 p.s.Robots,.sl 2 Q4 p.trips,.i p.tick,.sl 1 eI p.avoid,.i p.most]),(7,.o 0),(8,.p 1 0),(9,.i x65.2.1),(10,.i x65.2.2),(11,.i s34.2.2.2.2),(12,.o 2),(14,.p 3 0),(15,.p 4 0),(56,.o 5),(57,.i (x46.length:Int)),(58,.i s49.2.2.2.2.2)]) (fun x65=>[(0,.val (.os 1 Qe (s49.1.set (Int.toNat s34.2.2.2.2) x59))),(1,.box [.i x65.1.e0.cell,.i x65.1.e0.rest,.b x65.1.e0.done,.i x65.1.e1.cell,.i x65.1.e1.rest,.b x65.1.e1.done,.i x65.1.e2.cell,.i x65.1.e2.rest,.b x65.1.e2.done,.i x65.1.e3.cell,.i x65.1.e3.rest,.b x65.1.e3.done]),(2,.val (.om Qa QD s49.2.2.2.2.1)),(3,.box [.i x56.e0.cell,.i x56.e0.rest,.b x56.e0.done,.i x56.e1.cell,.i x56.e1.rest,.b x56.e1.done,.i x56.e2.cell,.i x56.e2.rest,.b x56.e2.done,.i x56.e3.cell,.i x56.e3.rest,.b x56.e3.done]),(4,.box (K1 ((lk x59 x56).getD ({cost:=0,from_:=({e0:=({cell:=0,rest:=0,done:=false:CbsPlace}),e1:=({cell:=0,rest:=0,done:=false:CbsPlace}),e2:=({cell:=0,rest:=0,done:=false:CbsPlace}),e3:=({cell:=0,rest:=0,done:=false:CbsPlace}):Arr4CbsPlace}),acts:=({e0:=0,e1:=0,e2:=0,e3:=0:Arr4Int}):CbsStep})))),(5,.val (.os 12 Ku x46))]) 6 g (fun x65 g=>?_) fun J66 g j66=>?_
 refine C.xt (U.pd 6 T (C.nx ?_))
 refine C.jn (fun (x72:List (Arr4CbsPlace×CbsStep))=>[(0,.rp [.i p.s.Floor.W,.i p.s.Floor.H,.i p.s.Floor.D,.sl 1 eI p.s.Floor.Kind,.sl 1 eI p.s.Floor.Out,.sl 5 Q3 p.s.Zones,.sl 2 Q0 p.s.Aparts,.sl 2 Q1 p.s.Shelves,.sl 2 Q2 p.s.Robots,.sl 2 Q4 p.trips,.i p.tick,.sl 1 eI p.avoid,.i p.most]),(7,.o 0),(8,.p 1 0),(9,.i x65.2.1),(10,.i x65.2.2),(11,.i s34.2.2.2.2),(12,.o 2),(56,.o 3),(57,.i (x46.length:Int)),(58,.i s49.2.2.2.2.2)]) (fun x72=>[(0,.val (.os 1 Qe (s49.1.set (Int.toNat s34.2.2.2.2) x59))),(1,.box [.i x65.1.e0.cell,.i x65.1.e0.rest,.b x65.1.e0.done,.i x65.1.e1.cell,.i x65.1.e1.rest,.b x65.1.e1.done,.i x65.1.e2.cell,.i x65.1.e2.rest,.b x65.1.e2.done,.i x65.1.e3.cell,.i x65.1.e3.rest,.b x65.1.e3.done]),(2,.val (.om Qa QD x72)),(3,.val (.os 12 Ku x46))]) 4 g (fun x72 g=>?_) fun J73 g j73=>?_
 refine C.bnx (C.nx (U.start (U.pd 2 T (C.nx ?_))))
 exact St.wk (C.next g) (Wk.a (idR 4))
 refine C.ite rfl g (fun b74 g=>?_) fun b74 g=>?_
 refine U.start (U.ps 9 T rfl ?_)
 refine U.c [some 2] (Wt p 0 s34.2.2.2.2 ({e0:=({cell:=0,rest:=0,done:=false:CbsPlace}),e1:=({cell:=0,rest:=0,done:=false:CbsPlace}),e2:=({cell:=0,rest:=0,done:=false:CbsPlace}),e3:=({cell:=0,rest:=0,done:=false:CbsPlace}):Arr4CbsPlace}) [] ({cost:=((lk x59 x56).getD ({cost:=0,from_:=({e0:=({cell:=0,rest:=0,done:=false:CbsPlace}),e1:=({cell:=0,rest:=0,done:=false:CbsPlace}),e2:=({cell:=0,rest:=0,done:=false:CbsPlace}),e3:=({cell:=0,rest:=0,done:=false:CbsPlace}):Arr4CbsPlace}),acts:=({e0:=0,e1:=0,e2:=0,e3:=0:Arr4Int}):CbsStep})).cost,from_:=x56,acts:=({e0:=0,e1:=0,e2:=0,e3:=0:Arr4Int}):CbsStep}) s49.2.2.2.2.1 _ g) en49 fun x77 g=>?_
 refine U.done ?_
 exact St.wa [some 0,some 1,some 2,some 5] (j73 _ g)
 refine C.skip ?_
 exact St.wa [some 0,some 1,some 2,some 5] (j73 _ g)
 refine C.ite rfl g (fun b67 g=>?_) fun b67 g=>?_
 refine D.bq mix 9999 [3,4] [1] (fun hQ hS ws M'=>?_)
 refine D.pq 4 (zl [0,1,2,3]) T ?_
 refine D.e1 4 rfl (.none rfl) (by exact Eff1.st T rfl rfl rfl rfl rfl rfl rfl rfl rfl rfl) (by kernel_rfl) rfl rfl ?_
 refine D.pq 2 (zl [5,6]) T ?_
 refine D.done (by kernel_rfl) ?_
 exact St.wa (idR 6) (j66 _ g)
 refine C.skip ?_
 exact St.wa (idR 6) (j66 _ g)
 refine U.start (U.ps 2 T rfl (U.k (WW p x56 _ g) en48 (fun x62 g=>?_)))
 refine U.ps 1 T rfl ?_
 refine g.cs (fun b63 g=>?_) fun b63 g=>?_
 refine U.pq 3 3 true 71 b63 T ?_
 refine g.cs (fun b64 g=>?_) fun b64 g=>?_
 refine U.sk' 4 6 false 74 b64 ?_
 refine U.r rfl (.tk 3 true 71 b63) rfl rfl (by exact Rd.pk rfl rfl b64 rfl) ?_
 refine U.pk b63 ?_
 refine U.done ?_
 exact St.wa [some 0,some 1,some 2,some 4,some 6,some 3] (j61 _ g)
 refine U.pq 4 6 false 74 b64 T ?_
 refine U.r rfl (.tk 3 true 71 b63) rfl rfl (by exact Rd.pk' rfl rfl b64 rfl) ?_
 refine U.pk b63 ?_
 refine U.done ?_
 exact St.wa [some 0,some 1,some 2,some 4,some 6,some 3] (j61 _ g)
 refine U.sk' 3 3 true 71 b63 ?_
 refine U.sku 4 6 false 74 rfl rfl rfl ?_
 refine U.sk' 1 3 true 71 b63 ?_
 refine U.pk' b63 ?_
 refine U.done ?_
 exact St.wa [some 0,some 1,some 2,some 4,some 6,some 3] (j61 _ g)
 refine C.exit (C.ex (C.ex (C.bex ?_)))
 exact St.wa (idR 3) (j48 _ g)
 refine C.exit (C.ex (C.ex (C.bex ?_)))
 exact St.wa (idR 2) (j33 _ g)
 refine C.block ?_
 refine St.wk (C.loop (fun (s9:Arr4CbsPlace×Int)=>[(0,.rp [.i p.s.Floor.W,.i p.s.Floor.H,.i p.s.Floor.D,.sl 1 eI p.s.Floor.Kind,.sl 1 eI p.s.Floor.Out,.sl 5 Q3 p.s.Zones,.sl 2 Q0 p.s.Aparts,.sl 2 Q1 p.s.Shelves,.sl 2 Q2 p.s.Robots,.sl 2 Q4 p.trips,.i p.tick,.sl 1 eI p.avoid,.i p.most]),(4,.p 0 0),(24,.sl 2 Q4 p.trips),(25,.i (p.trips.length:Int)),(26,.i s9.2)]) (fun s9=>[(0,.box [.i s9.1.e0.cell,.i s9.1.e0.rest,.b s9.1.e0.done,.i s9.1.e1.cell,.i s9.1.e1.rest,.b s9.1.e1.done,.i s9.1.e2.cell,.i s9.1.e2.rest,.b s9.1.e2.done,.i s9.1.e3.cell,.i s9.1.e3.rest,.b s9.1.e3.done])]) g (fun s9 Y10 g=>?_)) (Wk.a [some 0])
 refine C.ss (U.pd 1 T (C.xs ?_))
 refine C.ite rfl g (fun b13 g=>?_) fun b13 g=>?_
 refine C.skip (C.xs (C.block (C.ss (U.ps 1 T rfl ?_))))
 obtain⟨x16,y16,g⟩:=g
 refine U.ix T y16 ?_
 refine U.ps 1 T rfl (U.al T ?_)
 refine U.ps 1 T rfl (U.st T ?_)
 refine U.done (C.nx (U.start (U.ps 4 T rfl ?_)))
 obtain⟨x20,y20,g⟩:=g
 refine U.r rfl (.none rfl) rfl rfl (by exact Rd.pi T rfl rfl rfl rfl rfl rfl ⟨(Qi y20).1,(Qi y20).2.1⟩) ?_
 obtain⟨x21,y21,g⟩:=g
 refine U.e1 rfl (.none rfl) (by exact Eff1.sj T (pre:=[]) (post:=[]) (enc:=Qc) (xs:=([s9.1.e0,s9.1.e1,s9.1.e2,s9.1.e3]:List CbsPlace)) (ys:=([x21.e0,x21.e1,x21.e2,x21.e3]:List CbsPlace)) (m:=3) (j:=s9.2) (z:=({cell:=x16.From,rest:=0,done:=false:CbsPlace})) rfl rfl rfl rfl rfl (fun _=>rfl) y20 rfl rfl rfl rfl rfl rfl rfl y21 rfl) ?_
 refine U.done (C.bnx (C.nx (U.start (U.pd 2 T (C.nx ?_)))))
 exact St.wk (C.next g) (Wk.a [some 0])
 refine C.exit (C.ex (C.ex (C.bex ?_)))
 exact St.wa [some 0] (j8 _ g)
theorem Wl (a:CbsPlace) (b:CbsPlace) (post:Int→Prop) (g:Kv a b post):
  Tr Tryz.prog 148 [.agg (Qc a),.agg (Qc b)] [] 0 (pI post):=by
 refine Tr.go Tryz.func148 Tryz.ntmps148 fun _ _ _ _ o=>?_
 unfold Kv at g
 refine C.ss (U.bx ?_)
 refine U.bx ?_
 refine U.pd 1 T (C.xt ?_)
 refine U.ps 10 T rfl (U.bs T eI ([w64 (a.cell-b.cell),w64 (a.rest-b.rest)]:List Int) ?_)
 refine U.k (ZL ([w64 (a.cell-b.cell),w64 (a.rest-b.rest)]:List Int) _ g) en98 fun x5 g=>?_
 refine U.pd 1 T (C.nx (C.ret ?_))
 exact C.f1 T o (pIi g)
def Q5v:Go.Shelf.Ren:=⟨fun | 6=>147 | 14=>196 | 15=>139 | 20=>214 | 21=>215 | 22=>216 | 23=>217 | 24=>218 | 25=>219 | 26=>220 | 27=>221 | 28=>183 | 29=>184 | 46=>226 | 47=>206 | 48=>207 | 49=>227 | 50=>228 | 57=>230 | n=>n,fun | 0=>0 | 3=>3 | 4=>4 | 5=>5 | 9=>9 | 22=>178 | 24=>105 | 25=>175 | 39=>193 | 45=>253 | 46=>254 | 50=>80 | 53=>260 | 55=>262 | 66=>280 | 70=>284 | 76=>293 | 77=>294 | n=>n,fun n=>n⟩
theorem Q5V:SlLaysF0.n6 Tryz.prog Q5v where
 mixed:=by kernel_rfl
 f6:=⟨Tryz.f147.name,by decide,Tryz.func147.trans (congrArg some (by kernel_rfl))⟩
 f14:=⟨Tryz.f196.name,by decide,Tryz.func196.trans (congrArg some (by kernel_rfl))⟩
 f15:=Tryz.func139.trans (congrArg some (by kernel_rfl))
 f20:=⟨Tryz.f214.name,by decide,Tryz.func214.trans (congrArg some (by kernel_rfl))⟩
 f21:=⟨Tryz.f215.name,by decide,Tryz.func215.trans (congrArg some (by kernel_rfl))⟩
 f22:=⟨Tryz.f216.name,by decide,Tryz.func216.trans (congrArg some (by kernel_rfl))⟩
 f23:=⟨Tryz.f217.name,by decide,Tryz.func217.trans (congrArg some (by kernel_rfl))⟩
 f24:=⟨Tryz.f218.name,by decide,Tryz.func218.trans (congrArg some (by kernel_rfl))⟩
 f25:=⟨Tryz.f219.name,by decide,Tryz.func219.trans (congrArg some (by kernel_rfl))⟩
 f26:=⟨Tryz.f220.name,by decide,Tryz.func220.trans (congrArg some (by kernel_rfl))⟩
 f27:=⟨Tryz.f221.name,by decide,Tryz.func221.trans (congrArg some (by kernel_rfl))⟩
 f28:=Tryz.func183.trans (congrArg some (by kernel_rfl))
 f29:=Tryz.func184.trans (congrArg some (by kernel_rfl))
 f46:=⟨Tryz.f226.name,by decide,Tryz.func226.trans (congrArg some (by kernel_rfl))⟩
 f47:=Tryz.func206.trans (congrArg some (by kernel_rfl))
 f48:=Tryz.func207.trans (congrArg some (by kernel_rfl))
 f49:=⟨Tryz.f227.name,by decide,Tryz.func227.trans (congrArg some (by kernel_rfl))⟩
 f50:=⟨Tryz.f228.name,by decide,Tryz.func228.trans (congrArg some (by kernel_rfl))⟩
 f57:=⟨Tryz.f230.name,by decide,Tryz.func230.trans (congrArg some (by kernel_rfl))⟩
 t0:=Tryz.underlying0
 a0:=Tryz.isAgg0
 z0:=Tryz.sizeOf0
 v0:=Tryz.zeroValue0
 t3:=Tryz.underlying3
 a3:=Tryz.isAgg3
 z3:=Tryz.sizeOf3
 v3:=Tryz.zeroValue3
 t4:=Tryz.underlying4
 a4:=Tryz.isAgg4
 z4:=Tryz.sizeOf4
 v4:=Tryz.zeroValue4
 t5:=Tryz.underlying5
 a5:=Tryz.isAgg5
 z5:=Tryz.sizeOf5
 v5:=Tryz.zeroValue5
 t9:=Tryz.underlying9
 a9:=Tryz.isAgg9
 z9:=Tryz.sizeOf9
 v9:=Tryz.zeroValue9
 t22:=Tryz.underlying178
 a22:=Tryz.isAgg178
 z22:=Tryz.sizeOf178
 v22:=Tryz.zeroValue178
 t25:=Tryz.underlying175
 a25:=Tryz.isAgg175
 z25:=Tryz.sizeOf175
 v25:=Tryz.zeroValue175
 t39:=Tryz.underlying193
 a39:=Tryz.isAgg193
 z39:=Tryz.sizeOf193
 v39:=Tryz.zeroValue193
 t45:=Tryz.underlying253
 a45:=Tryz.isAgg253
 z45:=Tryz.sizeOf253
 v45:=Tryz.zeroValue253
 t46:=Tryz.underlying254
 a46:=Tryz.isAgg254
 z46:=Tryz.sizeOf254
 v46:=Tryz.zeroValue254
 t50:=Tryz.underlying80
 a50:=Tryz.isAgg80
 z50:=Tryz.sizeOf80
 v50:=Tryz.zeroValue80
 t53:=Tryz.underlying260
 a53:=Tryz.isAgg260
 z53:=Tryz.sizeOf260
 v53:=Tryz.zeroValue260
 t55:=Tryz.underlying262
 a55:=Tryz.isAgg262
 z55:=Tryz.sizeOf262
 v55:=Tryz.zeroValue262
 t66:=Tryz.underlying280
 a66:=Tryz.isAgg280
 z66:=Tryz.sizeOf280
 v66:=Tryz.zeroValue280
 t70:=Tryz.underlying284
 a70:=Tryz.isAgg284
 z70:=Tryz.sizeOf284
 v70:=Tryz.zeroValue284
 t76:=Tryz.underlying293
 a76:=Tryz.isAgg293
 z76:=Tryz.sizeOf293
 v76:=Tryz.zeroValue293
 t77:=Tryz.underlying294
 a77:=Tryz.isAgg294
 z77:=Tryz.sizeOf294
 v77:=Tryz.zeroValue294
theorem Kk (p0:List CbsPlace) (post:List CbsPlace→Prop) (g:Qq p0 post):
  Tr Tryz.prog 147 [.o 0,.fn (.func 148) [] []] [(0,.val (.os 3 Qc p0))] 1 (fun A H' k=>∃y,post y∧A=(.tup [])∧H'=[(0,.val (.os 3 Qc y))]∧k=1):=by
 unfold Qq at g
 obtain⟨p,cf,h0,hO,hp,hcmp,hsz,hpost⟩:=g
 exact Tr.sortFuncP (k:=3) Q5V Tryz.isAgg105 Tryz.sizeOf105 (fun _=>rfl) (fun _=>rfl) Q6q h0 hO p0 hp (fun x y hx hy=>Wl x y _ (hcmp x y hx hy)) hsz hpost
theorem WM (layer:List (CbsPlace×CbsOrigin)) (post:(List CbsPlace)→Prop) (g:Kn layer post):
  Tr Tryz.prog 105 [.rm Kr K9 layer] [] 0 (fun A H' k=>∃y,post y∧A=(.o 0)∧H'=[(0,.val (.os 3 Qc y))]∧k=1):=by
 refine Tr.go Tryz.func105 Tryz.ntmps105 fun _ _ _ _ o=>?_
 unfold Kn at g
 refine C.ss (U.pd 1 T (C.xt ?_))
 refine U.pd 1 T (C.xs (C.ss ?_))
 refine U.ps 1 T rfl (U.e1 rfl (.none rfl) (by exact Eff1.rgm T rfl rfl rfl rfl rfl) ?_)
 refine U.done (C.nx ?_)
 refine C.jn (fun (x7:List CbsPlace)=>[(3,.o 0)]) (fun x7=>[(0,.val (.os 3 Qc x7))]) 1 g (fun x7 g=>?_) fun J8 g j8=>?_
 refine C.xt (U.ps 1 T rfl (U.c [some 0] (Kk x7 _ g) Q6M (fun x20 g=>?_)))
 refine U.done (C.xt (U.pd 2 T (C.nx (C.ret ?_))))
 exact C.g1 [some 0] T o ⟨x20,g,rfl,rfl,rfl⟩
 refine C.block (St.wk (C.loop (fun (s9:List CbsPlace×List CbsPlace)=>[(3,.o 0),(6,.o 1)]) (fun s9=>[(0,.val (.os 3 Qc s9.1)),(1,.rngm Kr K9 layer s9.2)]) g (fun s9 Y10 g=>?_)) (Wk.mk' [none,some 0] rfl rfl ⟨⟨_,rfl,(.nilO _ _ ⟨rfl,rfl⟩ rfl)⟩,ChkG.eqs rfl⟩ ⟨⟨_,rfl,.nil _ _⟩,⟨_,rfl,.rngm rfl⟩,trivial⟩ rfl))
 refine C.ss (U.e rfl (.none rfl) (by exact Eff.nxm (ke:=Kr) (ve:=K9) (li:=1) rfl rfl rfl rfl rfl) (fun y' h'=>?_))
 obtain⟨_ | ⟨x11,x12⟩⟩:=y'
 replace g:=g.2 h'
 refine U.pd 1 T (C.xs ?_)
 refine C.condF rfl rfl ?_
 refine C.exit (C.ex (C.ex (C.bex ?_)))
 exact St.wa [some 0] (j8 _ g)
 have y11:=h'
 replace g:=g.1 x11 x12 h'
 refine U.pd 1 T (C.xs ?_)
 refine C.condT rfl rfl ?_
 refine C.skip (C.nx (C.block (C.ss (U.r rfl (.none rfl) rfl rfl (by exact Rd.enm (ke:=Kr) (ve:=K9) rfl rfl rfl rfl y11.1) ?_))))
 refine U.ps 1 T rfl (U.al T ?_)
 refine U.st T ?_
 refine U.done (C.nx (U.start (U.ps 2 T rfl (U.bs T Qc ([x11]:List CbsPlace) ?_))))
 obtain⟨y17,g⟩:=g
 refine U.ap T y17 ?_
 refine U.pd 1 T (C.bnx (C.nx ?_))
 exact St.wk (C.next g) (Wk.f [some 4,some 1] ⟨vL,⟨_,rfl,.rngm rfl⟩,trivial⟩)
end Go.Proofs.YtpckofngkabgbaaGreat
