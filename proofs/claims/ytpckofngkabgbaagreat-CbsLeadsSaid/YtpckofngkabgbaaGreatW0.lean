/- The walks: each Go function does what its verification condition says (written by a program of the prover). -/
import Derived.Test.YtpckofngkabgbaaGreatEnc
import Derived.KernelRfl
set_option maxRecDepth 100000
set_option maxHeartbeats 8000000
set_option linter.unusedVariables false
set_option linter.unusedSimpArgs false
namespace Go.Proofs.YtpckofngkabgbaaGreat
open Go Go.Taq Tryz
theorem V{α:Sort _}{a:α}:a=a:=rfl
abbrev zC5:Qm:={e0:=0,e1:=0,e2:=0,e3:=0:Qm}
abbrev zC4:Q1:={cell:=0,Ba:=0,B4:=false:Q1}
abbrev zC3:Q7:={Ar:=0,Al:=[],Ak:=[],Ai:=[],A8:=[],Aq:=[]:Q7}
abbrev zC2:Qw:={B5:=zC4,Av:=0:Qw}
abbrev zC1:Q0:={e0:=zC4,e1:=zC4,e2:=zC4,e3:=zC4:Q0}
abbrev zC0:Qb:={Az:=0,B5:=zC1,Aw:=zC5:Qb}
abbrev zV0(p:Qq):List AVal:=[.i p.s.A9.W,.i p.s.A9.H,.i p.s.A9.D,.sl 1 eI p.s.A9.Ac,.sl 1 eI p.s.A9.Ah,.sl 5 Q8 p.s.Au,.sl 2 Q3 p.s.A3,.sl 2 Q6 p.s.Al,.sl 2 Q4 p.s.Ak,.sl 2 Q9 p.Bj,.i p.Bh,.sl 1 eI p.Ax,.i p.B6]
abbrev zV1(p:Q0):List AVal:=[.i p.e0.cell,.i p.e0.Ba,.b p.e0.B4,.i p.e1.cell,.i p.e1.Ba,.b p.e1.B4,.i p.e2.cell,.i p.e2.Ba,.b p.e2.B4,.i p.e3.cell,.i p.e3.Ba,.b p.e3.B4]
abbrev zV2(p:Qc):List AVal:=[.i p.Bf.A9.W,.i p.Bf.A9.H,.i p.Bf.A9.D,.sl 1 eI p.Bf.A9.Ac,.sl 1 eI p.Bf.A9.Ah,.sl 5 Q8 p.Bf.Au,.sl 2 Q3 p.Bf.A3,.sl 2 Q6 p.Bf.Al,.sl 2 Q4 p.Bf.Ak,.rm kI veI p.Bc,.rm kI veB p.Bb,.rm kI veB p.Bk,.rm kS veI p.B7,.rm kI veB p.B8,.sl 1 eI p.Be,.sl 1 eI p.Bl]
abbrev zV3(p:Qc):List AVal:=[.rp [.i p.Bf.A9.W,.i p.Bf.A9.H,.i p.Bf.A9.D,.sl 1 eI p.Bf.A9.Ac,.sl 1 eI p.Bf.A9.Ah,.sl 5 Q8 p.Bf.Au,.sl 2 Q3 p.Bf.A3,.sl 2 Q6 p.Bf.Al,.sl 2 Q4 p.Bf.Ak,.rm kI veI p.Bc,.rm kI veB p.Bb,.rm kI veB p.Bk,.rm kS veI p.B7,.rm kI veB p.B8,.sl 1 eI p.Be,.sl 1 eI p.Bl]]
abbrev zV4(p:Qc):List AVal:=[.i p.Bf.A9.W,.i p.Bf.A9.H,.i p.Bf.A9.D,.sl 1 eI p.Bf.A9.Ac,.sl 1 eI p.Bf.A9.Ah,.o 1,.o 2,.o 3,.o 4,.o 5,.o 6,.o 7,.o 8,.o 9,.o 10,.o 11]
abbrev zV5(p:K6):List AVal:=[.rm Qy veB p.Ay,.sl 1 eLeI p.B9]
abbrev zV6(p:Q5):List AVal:=[.i p.A9.W,.i p.A9.H,.i p.A9.D,.sl 1 eI p.A9.Ac,.sl 1 eI p.A9.Ah,.sl 5 Q8 p.Au,.sl 2 Q3 p.A3,vN,.o 1]
abbrev zV7(p:List (List (Q0×Qb))×Q0×Int×List (List Int)):List AVal:=[.i p.2.1.e0.cell,.i p.2.1.e0.Ba,.b p.2.1.e0.B4,.i p.2.1.e1.cell,.i p.2.1.e1.Ba,.b p.2.1.e1.B4,.i p.2.1.e2.cell,.i p.2.1.e2.Ba,.b p.2.1.e2.B4,.i p.2.1.e3.cell,.i p.2.1.e3.Ba,.b p.2.1.e3.B4]
abbrev zV8(p:WB):List AVal:=[.i p.Bf.A9.W,.i p.Bf.A9.H,.i p.Bf.A9.D,.sl 1 eI p.Bf.A9.Ac,.sl 1 eI p.Bf.A9.Ah,.sl 5 Q8 p.Bf.Au,.sl 2 Q3 p.Bf.A3,.sl 2 Q6 p.Bf.Al,.sl 2 Q4 p.Bf.Ak,.i p.Bh,.sl 1 eI p.Ax,.rm kI Yx p.Bg]
abbrev zV9(p:Qq):List AVal:=[.rp [.i p.s.A9.W,.i p.s.A9.H,.i p.s.A9.D,.sl 1 eI p.s.A9.Ac,.sl 1 eI p.s.A9.Ah,.sl 5 Q8 p.s.Au,.sl 2 Q3 p.s.A3,.sl 2 Q6 p.s.Al,.sl 2 Q4 p.s.Ak,.sl 2 Q9 p.Bj,.i p.Bh,.sl 1 eI p.Ax,.i p.B6]]
abbrev zV10(p:Qc):List AVal:=[.rp [.rp [.i p.Bf.A9.W,.i p.Bf.A9.H,.i p.Bf.A9.D,.sl 1 eI p.Bf.A9.Ac,.sl 1 eI p.Bf.A9.Ah,.sl 5 Q8 p.Bf.Au,.sl 2 Q3 p.Bf.A3,.sl 2 Q6 p.Bf.Al,.sl 2 Q4 p.Bf.Ak,.rm kI veI p.Bc,.rm kI veB p.Bb,.rm kI veB p.Bk,.rm kS veI p.B7,.rm kI veB p.B8,.sl 1 eI p.Be,.sl 1 eI p.Bl]]]
abbrev zV11:List AVal:=[.i 0,.i 0,.i 0,.b false,.i 0,.i 0,.b false,.i 0,.i 0,.b false,.i 0,.i 0,.b false,.i 0,.i 0,.i 0,.i 0]
abbrev zV12(p:Int×Int×Int×List Int×List Int×List K7×List Qp×List K4×List QV×List (Int×Int)×List (Int×Bool)×List (Int×Bool)×List (ByteArray×Int)×List (Int×Bool)×List Int×List Int):List AVal:=[.i p.1,.i p.2.1,.i p.2.2.1,.sl 1 eI p.2.2.2.1,.sl 1 eI p.2.2.2.2.1,.o 2,.o 3,.o 4,.o 5,.o 6,.o 7,.o 8,.o 9,.o 10,.o 11,.o 12]
abbrev zV13(p:Int×Int×Int×List Int×List Int×List K7×List Qp×List K4×List QV×List (Int×Int)×List (Int×Bool)×List (Int×Bool)×List (ByteArray×Int)×List (Int×Bool)×List Int×List Int×Int):List AVal:=[.i p.1,.i p.2.1,.i p.2.2.1,.sl 1 eI p.2.2.2.1,.sl 1 eI p.2.2.2.2.1,.o 2,.o 3,.o 4,.o 5,.o 6,.o 7,.o 8,.o 9,.o 10,.o 11,.o 12]
abbrev zV14(p:List (List (Q0×Qb))×Q0×Int×Int):List AVal:=[.i p.2.1.e0.cell,.i p.2.1.e0.Ba,.b p.2.1.e0.B4,.i p.2.1.e1.cell,.i p.2.1.e1.Ba,.b p.2.1.e1.B4,.i p.2.1.e2.cell,.i p.2.1.e2.Ba,.b p.2.1.e2.B4,.i p.2.1.e3.cell,.i p.2.1.e3.Ba,.b p.2.1.e3.B4]
abbrev zV15(p:List (List (Q0×Qb))×Q0×Int×Int×List (Q0×Qb)×Int):List AVal:=[.i p.2.1.e0.cell,.i p.2.1.e0.Ba,.b p.2.1.e0.B4,.i p.2.1.e1.cell,.i p.2.1.e1.Ba,.b p.2.1.e1.B4,.i p.2.1.e2.cell,.i p.2.1.e2.Ba,.b p.2.1.e2.B4,.i p.2.1.e3.cell,.i p.2.1.e3.Ba,.b p.2.1.e3.B4]
abbrev zV16(p:Qb):List AVal:=[.i p.Az,.i p.B5.e0.cell,.i p.B5.e0.Ba,.b p.B5.e0.B4,.i p.B5.e1.cell,.i p.B5.e1.Ba,.b p.B5.e1.B4,.i p.B5.e2.cell,.i p.B5.e2.Ba,.b p.B5.e2.B4,.i p.B5.e3.cell,.i p.B5.e3.Ba,.b p.B5.e3.B4]
abbrev zV17(p:Q0×Int×Int):List AVal:=[.i p.1.e0.cell,.i p.1.e0.Ba,.b p.1.e0.B4,.i p.1.e1.cell,.i p.1.e1.Ba,.b p.1.e1.B4,.i p.1.e2.cell,.i p.1.e2.Ba,.b p.1.e2.B4,.i p.1.e3.cell,.i p.1.e3.Ba,.b p.1.e3.B4]
abbrev zV18:List AVal:=[.i 0,.i 0,.b false,.i 0,.i 0,.b false,.i 0,.i 0,.b false,.i 0,.i 0,.b false]
abbrev zV19(p:Q7):List AVal:=[.i p.Ar,.o 2,.o 3,.o 4,.o 5,.o 6]
abbrev zV20(p:Q7):List AVal:=[.i (w64 (p.Ar+1)),.o 0,.o 1,.o 2,.o 3,.o 4]
abbrev zV21(p:Q2):List AVal:=[.i p.A4,.i p.Ae,.i p.A6,.i p.Aj,.i p.Af,.b p.A8]
abbrev zV22(p:Qq):List AVal:=[.sl 2 Q9 p.Bj,.i p.Bh,.sl 1 eI p.Ax,.i p.B6]
abbrev zV23:List AVal:=[.i 0,.i 0,.i 0,vN,vN,vN,vN,vN,vN,.i 0,vN,.v (.map none)]
abbrev zV24(p:Int×List Int×List Q2×List Int×List Int×List Qd×Int):List AVal:=[.i p.1,.o 3,.o 4,.o 5,.o 6,.o 7]
abbrev zV25(p:Qp):List AVal:=[.v (.string p.A),.v (.string p.B)]
abbrev zV26(p:Q7):List AVal:=[.i p.Ar,.o 0,.o 1,.o 2,.o 3,.o 4]
theorem Q1d post(g:Gy post):
  Tr prog 13 [] [] 0 (λA H' k=>∃y,post y∧A=(.agg [.i y.A9.W,.i y.A9.H,.i y.A9.D,.o 0,.o 1,.o 2,.o 3,.o 4,.o 5])∧H'=[(0,.val (.os 1 eI y.A9.Ac)),(1,.val (.os 1 eI y.A9.Ah)),(2,.val (.os 5 Q8 y.Au)),(3,.val (.os 2 Q3 y.A3)),(4,.val (.os 2 Q6 y.Al)),(5,.val (.os 2 Q4 y.Ak))]∧k=6):=by
 refine Tr.go func13 ntmps13 λ_ _ _ _ o=>?_
 unfold Gy at g;refine C.ss (U.al ?_);refine U.done (C.xt (U.bs eI ([1,1,1,1,1,3]:List Int) ?_));refine U.bs eI ([15,15,15,15,15,15]:List Int) ?_;refine U.ps 1 V (U.al ?_);refine U.st ?_;refine U.done (C.xt (U.ps 2 V (U.st ?_)));exact U.done (C.nr (C.g1 [some 1,some 2,none,none,none,none] o ⟨(⟨(⟨3,2,1,([1,1,1,1,1,3]:List Int),([15,15,15,15,15,15]:List Int)⟩:Qe),[],[],[],[]⟩:Q5),g,V,V,V⟩))
theorem Q0H s_1 c post(g:Wy s_1 c post):
  Tr prog 23 [.agg (Qa s_1),.i c] [] 0 (pB post):=by
 refine Tr.go func23 ntmps23 λ_ _ _ _ o=>?_
 unfold Wy at g;refine C.ss (U.bx ?_);refine U.pd 1 (C.xs ?_);refine C.jn (λx3=>[(4,.b x3)]) (λx3=>[]) 0 g (λx3 g=>?_) λ_ g j4=>?_
 exact C.nr (C.f1 o (pBi g));refine U.start (U.ps 3 V (g.cs (λb5 g=>?_) λb5 g=>?_));refine U.G 6 b5 ?_;refine U.pk b5 ?_;refine U.ps 1 V (g.cs (λb6 g=>?_) λb6 g=>?_);refine U.G 4 b6 ?_;obtain⟨x7,y7,g⟩:=g;refine U.Rt b6 V (Rd.ix V V V V V V y7) ?_;refine U.G 2 b6 ?_;refine U.pk b6 ?_;refine U.pd 1 ?_;exact St.wn (j4 _ g);refine U.S 7 b6 ?_;refine U.pk' b6 ?_;refine U.pd 1 ?_;exact St.wn (j4 _ g);refine U.S 6 b5 ?_;refine U.pk' b5 ?_;refine U.ps 1 V (U.S 7 V ?_);refine U.pk' V ?_;refine U.pd 1 ?_;exact St.wn (j4 _ g)
theorem Q3l s_1 trips post(g:WV s_1 trips post):
  Tr prog 8 [.agg (Qa s_1),.sl 2 Q9 trips] [] 0 (pB post):=by
 refine Tr.go func8 ntmps8 λ_ _ _ _ o=>?_
 unfold WV at g;refine C.ss (U.bx ?_);refine U.pd 1 (C.xt ?_);refine U.E V (Eff1.mm kI veB V V V) ?_;refine U.E V (Eff1.mm kI veB V V V) ?_;refine U.pd 2 (C.xs (C.ss ?_));refine U.pd 3 (C.nx ?_);refine C.jn (λx7=>[(1,.sl 2 Q9 trips)]) (λx7=>[]) 0 g (λx7 g=>?_) λ_ g j8=>?_
 refine C.xs (C.jn (λx31=>[(4,.b x31)]) (λx31=>[]) 0 g (λx31 g=>?_) λ_ g j32=>?_);exact C.nr (C.f1 o (pBi g));refine U.start (U.ps 4 V (g.cs (λb33 g=>?_) λb33 g=>?_));refine U.G 3 b33 ?_;refine U.pk b33 ?_;refine U.pd 1 ?_;exact St.wn (j32 _ g);refine U.S 3 b33 ?_;refine U.pk' b33 ?_;refine U.pd 1 ?_;exact St.wn (j32 _ g)
 let E0:Env->Env:=λr=>(11,.sl 2 Q9 trips)::(12,.i (trips.length:Int))::r
 let E1:Env->Env:=λr=>(1,.sl 2 Q9 trips)::(2,.p 0 0)::(5,.o 1)::(6,.o 2)::r
 refine C.block (St.wk (C.loop (λs9=>E1 (E0 [(13,.i s9.2.2)])) (λs9=>[(0,.box (Qa s_1)),(1,.val (.om kI veB s9.1)),(2,.val (.om kI veB s9.2.1))]) g (λs9 _ g=>?_)) (Wk.a (idR 3)));refine C.ss (U.pd 1 (C.xs ?_));refine C.ite V g (λb13 g=>?_) λb13 g=>?_
 refine C.skip (C.xs (C.block (C.ss ?_)));obtain⟨x16,y16,g⟩:=g;refine U.ix y16 ?_;refine U.ps 1 V (U.al ?_);refine U.st ?_;refine U.done (C.xs (C.seq (C.jn (λx17=>E1 ((8,.p 3 0)::E0 [(13,.i s9.2.2),(40,.b x17)])) (λx17=>[(0,.box (Qa s_1)),(1,.val (.om kI veB s9.1)),(2,.val (.om kI veB s9.2.1)),(3,.box [.i x16.Aa,.i x16.To])]) 4 g (λx17 g=>?_) λ_ g j18=>?_)));refine C.nx (C.ite V g (λb24 g=>?_) λb24 g=>?_);refine C.ss (U.pd 1 (C.nr (C.rt (C.brt (C.rt (C.rt (C.brt (C.rt ?_))))))));exact C.f1 o (pBi g);refine C.skip (C.nx (D.bq mix 7 [3] [1] (λhQ hS ws M'=>?_)));refine D.pq 6 (zl [0,1,2,3,4,5]) ?_;refine D.E 6 V (by exact Eff1.mu (x:=x16.Aa) (y:=true) (.inl V) V kt3 (λ_=>V) V V V V V (.inl V) V) ?_;refine D.Z V (by exact Eff1.mu (x:=x16.To) (y:=true) (.inl V) V kt3 (λ_=>V) V V V V V (.inl V) V) ?_;refine C.bnx (C.nx (U.start (U.pd 2 (C.nx ?_))));exact St.wa (idR 3) (C.next g);refine U.start (U.ps 3 V (U.k (Q0H s_1 x16.Aa _ g) call23 (λx19 g=>?_)));refine U.ps 2 V (g.cs (λb20 g=>?_) λb20 g=>?_);refine U.G 3 (ntF b20) ?_;refine U.k (Q0H s_1 x16.To _ g) call23 (λx21 g=>?_) (hw:=.take 5 false 22 _ (ntF b20) V V V);refine U.G 1 (ntF b20) ?_;refine U.pk' (ntF b20) ?_;refine U.ps 1 V (g.cs (λb22 g=>?_) λb22 g=>?_);refine U.G 3 (ntF b22) ?_;refine U.Rt (ntF b22) V (by exact Rd.lk (ke:=kI) (ve:=veB) (xs:=s9.1) (z0:=false) (x:=x16.Aa) V V kt3 zt4 (λ_=>V) V (.o V) V V V) ?_;refine U.pk' (ntF b22) ?_;refine U.ps 1 V (g.cs (λb23 g=>?_) λb23 g=>?_);refine U.S 4 b23 ?_;refine U.pk b23 ?_;exact U.done (St.wa (idR 4) (j18 _ g));refine U.G 3 b23 ?_;refine U.Rt b23 V (by exact Rd.lk (ke:=kI) (ve:=veB) (xs:=s9.2.1) (z0:=false) (x:=x16.To) V V kt3 zt4 (λ_=>V) V (.o V) V V V) ?_;refine U.pk' b23 ?_;exact U.done (St.wa (idR 4) (j18 _ g));refine U.S 4 (ntT b22) ?_;refine U.pk (ntT b22) ?_;refine U.ps 1 V (U.S 4 V ?_);refine U.pk V ?_;exact U.done (St.wa (idR 4) (j18 _ g));refine U.S 5 (ntT b20) ?_;refine U.pk (ntT b20) ?_;refine U.ps 1 V (U.S 4 V ?_);refine U.pk V ?_;refine U.ps 1 V (U.S 4 V ?_);refine U.pk V ?_;exact U.done (St.wa (idR 4) (j18 _ g));exact C.xw (St.wn (j8 _ g))
theorem Q10 x_1 post(g:Wz x_1 post):
  Tr prog 210 [.i x_1] [] 0 (pB post):=by
 refine Tr.go func210 ntmps210 λ_ _ _ _ o=>?_
 unfold Wz at g;refine C.ss (U.pd 1 (C.xt ?_));refine U.pd 4 (C.nx (C.ret ?_));exact C.f1 o (pBi g)
theorem Q4l x_1 y_1 post(g:YB x_1 y_1 post):
  Tr prog 180 [.i x_1,.i y_1] [] 0 (pB post):=by
 refine Tr.go func180 ntmps180 λ_ _ _ _ o=>?_
 unfold YB at g;refine C.ss (U.pd 1 (C.xs ?_));refine C.jn (λx3=>[(4,.b x3)]) (λx3=>[]) 0 g (λx3 g=>?_) λ_ g j4=>?_
 exact C.nr (C.f1 o (pBi g));refine U.start (U.ps 1 V (U.k (Q10 x_1 _ g) call210 (λx5 g=>?_)));refine U.ps 1 V (g.cs (λb6 g=>?_) λb6 g=>?_);refine U.G 1 b6 ?_;refine U.k (Q10 y_1 _ g) call210 (λx7 g=>?_) (hw:=.take 2 true 7 _ b6 V V V);refine U.G 1 b6 ?_;refine U.pk b6 ?_;refine U.ps 1 V (g.cs (λb8 g=>?_) λb8 g=>?_);refine U.G 3 (ntF b8) ?_;refine U.pk' (ntF b8) ?_;refine U.pd 1 ?_;exact St.wn (j4 _ g);refine U.S 3 (ntT b8) ?_;refine U.pk (ntT b8) ?_;refine U.pd 1 ?_;exact St.wn (j4 _ g);refine U.S 3 b6 ?_;refine U.pk' b6 ?_;refine U.ps 1 V (U.G 3 V ?_);refine U.pk' V ?_;refine U.pd 1 ?_;exact St.wn (j4 _ g)
theorem Zp x_1 post(g:Gi x_1 post):
  Tr prog 187 [.i x_1] [] 0 (pB post):=by
 refine Tr.go func187 ntmps187 λ_ _ _ _ o=>?_
 unfold Gi at g;refine C.ss (U.pd 1 (C.xt ?_));refine U.pd 4 (C.nx (C.ret ?_));exact C.f1 o (pBi g)
theorem YM x_1 target post(g:KC x_1 target post):
  Tr prog 145 [.sl 1 eI x_1,.i target] [] 0 (λA H' k=>∃y,post y∧A=(.tup [.i y.1,.b y.2])∧H'=[]∧k=0):=by
 refine Tr.go func145 ntmps145 λ_ _ _ _ o=>?_
 unfold KC at g;refine C.ss (U.pd 2 (C.xt ?_));refine U.pd 3 (C.xt ?_);refine U.pd 3 (C.xs ?_)
 let E0:Env->Env:=λr=>(0,.sl 1 eI x_1)::(1,.i target)::(6,.i (x_1.length:Int))::r
 refine C.jn (λx7=>E0 [(7,.i x7)]) (λx7=>[]) 0 g (λx7 g=>?_) λ_ g j8=>?_
 refine C.xs (C.jn (λx28=>[(4,.i x7),(5,.b x28)]) (λx28=>[]) 0 g (λx28 g=>?_) λ_ g j29=>?_);exact C.nr (C.f9 o ⟨(x7,x28),g,V,V,V⟩);refine U.start (U.ps 5 V (g.cs (λb30 g=>?_) λb30 g=>?_));refine U.G 2 b30 ?_;obtain⟨x31,y31,g⟩:=g;refine U.Rt b30 V (Rd.ix V V V V V V y31) ?_;refine U.G 4 b30 ?_;refine g.cs (λb32 g=>?_) λb32 g=>?_
 refine U.S 6 b32 ?_;refine U.sku 2 17 true 48 V V V (U.S 1 b32 ?_);refine U.Rt b30 V (Rd.pk V V b32 V) ?_;refine U.pk b30 ?_;refine U.pd 2 ?_;exact St.wn (j29 _ g);refine U.G 2 b32 ?_;refine U.Rt b32 V (Rd.ix V V V V V V y31) ?_;refine U.G 1 b32 ?_;refine U.k (Zp x31 _ g) call187 (λx33 g=>?_) (hw:=.take 11 false 42 _ b32 V V V);refine U.G 1 b32 ?_;refine g.cs (λb34 g=>?_) λb34 g=>?_
 refine U.G 1 b34 ?_;refine U.k (Zp target _ g) call187 (λx35 g=>?_) (hw:=.take 17 true 48 _ b34 V V V);refine U.Rt b32 V (Rd.pk V V b34 V) ?_;refine U.Rt b30 V (Rd.pk' V V b32 V) ?_;refine U.pk b30 ?_;refine U.pd 2 ?_;exact St.wn (j29 _ g);refine U.S 2 b34 ?_;refine U.Rt b32 V (Rd.pk' V V b34 V) ?_;refine U.Rt b30 V (Rd.pk' V V b32 V) ?_;refine U.pk b30 ?_;refine U.pd 2 ?_;exact St.wn (j29 _ g);refine U.S 7 b30 ?_;refine U.sku 6 11 false 42 V V V (U.sku 2 17 true 48 V V V (U.sku 1 11 false 42 V V V (U.S 1 b30 ?_)));refine U.pk' b30 ?_;refine U.pd 2 ?_;exact St.wn (j29 _ g);refine C.block (St.wk (C.loop (λs9=>E0 [(7,.i s9.1),(8,.i s9.2)]) (λs9=>[]) g (λs9 _ g=>?_)) (Wk.e));refine C.seq (C.ss (U.pd 3 (C.nx ?_)));refine C.ite V g (λb13 g=>?_) λb13 g=>?_
 refine C.skip (C.nx (C.block (C.ss (U.ps 4 V (U.R V (Rd.sh V V V V (by decide)) ?_)))));refine U.pd 2 (C.xt ?_);refine U.ps 2 V ?_;obtain⟨x19,y19,g⟩:=g;refine U.ix y19 ?_;refine U.ps 2 V (U.k (Q4l x19 target _ g) call180 (λx20 g=>?_));refine U.done (C.nx (C.jn (λx21=>E0 [(7,.i x21.1),(8,.i x21.2)]) (λx21=>[]) 0 g (λx21 g=>?_) λ_ g j22=>?_));exact C.bnx (C.nx (St.wk (C.next g) (Wk.e)));refine C.ite V g (λb23 g=>?_) λb23 g=>?_
 refine U.start (U.pd 3 ?_);exact St.wn (j22 _ g);refine U.start (U.pd 2 ?_);exact St.wn (j22 _ g);exact C.xw (St.wn (j8 _ g))
theorem Q30 z c0 post(g:GZ z c0 post):
  Tr prog 144 [.agg (Q8 z),.rp [.i c0]] [] 0 (pB post):=by
 refine Tr.go func144 ntmps144 λ_ _ _ _ o=>?_
 unfold GZ at g;refine C.ss (U.bx ?_);refine U.pd 1 (C.xt ?_);refine U.ps 3 V (U.k (YM z.A5 c0 _ g) call145 (λx5 g=>?_));refine U.pd 5 (C.xt ?_);refine U.pd 2 (C.nx (C.ret ?_));exact C.f1 o (pBi g)
theorem XV s_1 f_c0 post(g:QW s_1 f_c0 post):
  Tr prog 92 [.sl 5 Q8 s_1,.fn (.func 144) [] [.rp [.i f_c0]]] [] 0 (pI post):=by
 refine Tr.go func92 ntmps92 λ_ _ _ _ o=>?_
 unfold QW at g;refine C.ss (U.pd 1 (C.xs (C.ss ?_)));refine U.pd 3 (C.nx ?_);refine C.jn (λx5=>[]) (λx5=>[]) 0 g (λx5 g=>?_) λ_ g j6=>?_
 refine C.xt (U.pd 1 (C.nx (C.ret ?_)));exact C.f1 o (pIi g);refine C.block (St.wk (C.loop (λs7=>[(0,.sl 5 Q8 s_1),(1,.fn (.func 144) [] [.rp [.i f_c0]]),(7,.i (s_1.length:Int)),(8,.i s7)]) (λs7=>[]) g (λs7 _ g=>?_)) (Wk.e));refine C.ss (U.pd 1 (C.xs ?_));refine C.ite V g (λb11 g=>?_) λb11 g=>?_
 refine C.skip (C.xs (C.block (C.ss (U.pd 2 (C.xt ?_)))));refine U.ps 3 V ?_;obtain⟨x16,y16,g⟩:=g;refine U.ix y16 ?_;refine U.ps 1 V (U.k (Q30 x16 f_c0 _ g) call144 (λx17 g=>?_));refine U.done (C.nx (C.ite V g (λb18 g=>?_) λb18 g=>?_));refine C.ss (U.pd 2 (C.nr (C.brt (C.rt (C.rt (C.brt (C.rt ?_)))))));exact C.f1 o (pIi g);refine C.sb (U.pd 2 (C.nx ?_));exact St.wk (C.next g) (Wk.e);exact C.xw (St.wn (j6 _ g))
theorem Q1k s_1 c post(g:Wa s_1 c post):
  Tr prog 96 [.agg (Qa s_1),.i c] [] 0 (pI post):=by
 refine Tr.go func96 ntmps96 λ_ _ _ _ o=>?_
 unfold Wa at g;refine C.ss (U.bx ?_);refine U.bx ?_;refine U.pd 1 (C.xt ?_);refine U.ps 3 V (U.k (XV s_1.Au c _ g) call92 (λx5 g=>?_));refine U.pd 1 (C.nx (C.ret ?_));exact C.f1 o (pIi g)
theorem YT s_1 c post(g:Gg s_1 c post):
  Tr prog 46 [.agg (Qa s_1),.i c] [] 0 (pI post):=by
 refine Tr.go func46 ntmps46 λ_ _ _ _ o=>?_
 unfold Gg at g;refine C.ss (U.bx ?_);refine U.pd 1 (C.xs (C.ss ?_));refine U.ps 2 V (U.k (Q1k s_1 c _ g) call96 (λx5 g=>?_));refine U.pd 1 (C.xt ?_);refine U.pd 2 (C.nx ?_);refine C.ite V g (λb8 g=>?_) λb8 g=>?_
 refine C.ss (U.ps 3 V ?_);obtain⟨x11,y11,g⟩:=g;refine U.ix y11 ?_;refine U.pd 3 (C.nr (C.rt ?_));exact C.f1 o (pIi g);refine C.skip (C.xt (U.pd 1 (C.nx (C.ret ?_))));exact C.f1 o (pIi g)
theorem Q0G p post(g:Xr p post):
  Tr prog 20 (zV9 p) [] 0 (pB post):=by
 refine Tr.go func20 ntmps20 λ_ _ _ _ o=>?_
 unfold Xr at g;refine C.ss (U.pd 1 (C.xt ?_));refine U.pd 3 (C.xs (C.ss ?_));refine U.pd 8 (C.nx ?_)
 let E0:Env->Env:=λr=>(0,.rp (zV0 p))::r
 refine C.jn (λx7=>E0 [(3,.i x7.1),(4,.i x7.2),(5,.i 1)]) (λx7=>[]) 0 g (λx7 g=>?_) λ_ g j8=>?_
 refine C.xs (C.ss (U.pd 6 (C.nx ?_)));refine C.jn (λx31=>E0 [(5,.i x31)]) (λx31=>[]) 0 g (λx31 g=>?_) λ_ g j32=>?_
 refine C.xs (C.jn (λx42=>[(2,.b x42)]) (λx42=>[]) 0 g (λx42 g=>?_) λ_ g j43=>?_);exact C.nr (C.f1 o (pBi g));refine U.start (U.ps 3 V (g.cs (λb44 g=>?_) λb44 g=>?_));refine U.G 5 b44 ?_;refine U.pk b44 ?_;refine U.pd 1 ?_;exact St.wn (j43 _ g);refine U.S 5 b44 ?_;refine U.pk' b44 ?_;refine U.pd 1 ?_;exact St.wn (j43 _ g);refine C.block (St.wk (C.loop (λs33=>E0 [(3,.i x7.1),(4,.i x7.2),(5,.i s33.1),(38,.i (p.Bj.length:Int)),(39,.i s33.2)]) (λs33=>[]) g (λs33 _ g=>?_)) (Wk.e));refine C.ss (U.pd 1 (C.xs ?_));refine C.ite V g (λb37 g=>?_) λb37 g=>?_
 refine C.skip (C.xs (C.block (U.start (U.pd 7 (C.bnx (C.nx (U.start ?_)))))));refine U.pd 2 (C.nx ?_);exact St.wk (C.next g) (Wk.e);exact C.xw (St.wn (j32 _ g));refine C.block (St.wk (C.loop (λs9=>E0 [(3,.i s9.1),(4,.i s9.2.1),(5,.i 1),(13,.i (p.s.A9.Ac.length:Int)),(14,.i s9.2.2)]) (λs9=>[]) g (λs9 _ g=>?_)) (Wk.e));refine C.ss (U.pd 1 (C.xs ?_));refine C.ite V g (λb13 g=>?_) λb13 g=>?_
 refine C.skip (C.xs (C.block (C.ss (U.pd 2 (C.xt ?_)))));refine U.ps 6 V (U.k (YT p.s s9.2.2 _ g) call46 (λx18 g=>?_));refine U.pd 2 (C.xt ?_);refine U.ps 5 V (U.k (Q0H p.s s9.2.2 _ g) call23 (λx21 g=>?_));refine U.done (C.nx (C.jn (λx22=>E0 [(3,.i x22),(4,.i (imax s9.2.1 x18)),(5,.i 1),(13,.i (p.s.A9.Ac.length:Int)),(14,.i s9.2.2)]) (λx22=>[]) 0 g (λx22 g=>?_) λ_ g j23=>?_));refine C.bnx (C.nx (U.start (U.pd 2 (C.nx ?_))));exact St.wk (C.next g) (Wk.e);refine C.ite V g (λb24 g=>?_) λb24 g=>?_
 refine U.start (U.pd 3 ?_);exact St.wn (j23 _ g);exact C.skip (St.wn (j23 _ g));exact C.xw (St.wn (j8 _ g))
theorem Q2Y vals post(g:WZ vals post):
  Tr prog 98 [.sl 1 eI vals] [] 0 (pI post):=by
 refine Tr.go func98 ntmps98 λ_ _ _ _ o=>?_
 unfold WZ at g;refine C.ss (U.pd 1 (C.xt ?_));refine U.pd 1 (C.xs (C.ss ?_));refine U.pd 3 (C.nx ?_);refine C.jn (λx7=>[(3,.i 0)]) (λx7=>[]) 0 g (λx7 g=>?_) λ_ g j8=>?_
 refine C.xt (U.pd 2 (C.nx (C.ret ?_)));exact C.f1 o (pIi g);refine C.block (St.wk (C.loop (λs9=>[(3,.i 0),(6,.sl 1 eI vals),(7,.i (vals.length:Int)),(8,.i s9)]) (λs9=>[]) g (λs9 _ g=>?_)) (Wk.e));refine C.ss (U.pd 1 (C.xs ?_));refine C.ite V g (λb13 g=>?_) λb13 g=>?_
 refine C.skip (C.xs (C.block (C.ss ?_)));obtain⟨x16,y16,g⟩:=g;refine U.ix y16 ?_;refine U.pd 2 (C.xt ?_);refine U.pd 3 (C.nx ?_);refine C.ite V g (λb19 g=>?_) λb19 g=>?_
 refine C.ss (U.pd 2 (C.nr (C.brt (C.rt (C.rt (C.brt (C.rt ?_)))))));exact C.f1 o (pIi g);refine C.sb (U.pd 2 (C.nx ?_));exact St.wk (C.next g) (Wk.e);exact C.xw (St.wn (j8 _ g))
theorem Q3C a b post(g:Wq a b post):
  Tr prog 97 [.agg (Qt a),.agg (Qt b)] [] 0 (pI post):=by
 refine Tr.go func97 ntmps97 λ_ _ _ _ o=>?_
 unfold Wq at g;refine C.ss (U.bx ?_);refine U.bx ?_;refine U.pd 1 (C.xt ?_);refine U.ps 10 V (U.bs eI ([w64 (a.cell-b.cell),w64 (a.Ba-b.Ba)]:List Int) ?_);refine U.k (Q2Y ([w64 (a.cell-b.cell),w64 (a.Ba-b.Ba)]:List Int) _ g) call98 λx5 g=>?_
 refine U.pd 1 (C.xs (C.seq ?_));refine C.jn (λx6=>[(2,.p 0 0),(5,.i x5),(26,.b x6)]) (λx6=>[(0,.box (Qt a))]) 1 g (λx6 g=>?_) λ_ g j7=>?_
 refine C.nx (C.jn (λx9=>[(5,.i x9)]) (λx9=>[]) 0 g (λx9 g=>?_) λ_ g j10=>?_);refine C.xt (U.pd 2 (C.nx (C.ret ?_)));exact C.f1 o (pIi g);refine C.ite V g (λb11 g=>?_) λb11 g=>?_
 refine C.ss (U.pd 1 (C.xt ?_));refine U.pd 2 (C.nx ?_);refine C.jn (λx16=>[(5,.i x16)]) (λx16=>[]) 0 g (λx16 g=>?_) λ_ g j17=>?_
 exact St.wn (j10 _ g);refine C.ite V g (λb18 g=>?_) λb18 g=>?_
 refine U.start (U.pd 1 ?_);exact St.wn (j17 _ g);exact C.skip (St.wn (j17 _ g));exact C.skip (St.wn (j10 _ g));refine U.start (U.ps 3 V (g.cs (λb8 g=>?_) λb8 g=>?_));refine U.G 5 b8 ?_;refine U.pk b8 ?_;exact U.done (St.wa [some 0] (j7 _ g));refine U.S 5 b8 ?_;refine U.pk' b8 ?_;exact U.done (St.wa [some 0] (j7 _ g))
theorem KN s1_1 s2_1 post(g:Qs s1_1 s2_1 post):
  Tr prog 101 [.sl 3 Qt s1_1,.sl 3 Qt s2_1,.fn (.func 97) [] []] [] 0 (pI post):=by
 refine Tr.go func101 ntmps101 λ_ _ _ _ o=>?_
 unfold Qs at g;refine C.ss (U.pd 1 (C.xs (C.ss ?_)));refine U.pd 3 (C.nx ?_);refine C.jn (λx5=>[(0,.sl 3 Qt s1_1),(1,.sl 3 Qt s2_1)]) (λx5=>[]) 0 g (λx5 g=>?_) λ_ g j6=>?_
 refine C.xs (C.ss (U.pd 5 (C.nx ?_)));refine C.ite V g (λb35 g=>?_) λb35 g=>?_
 refine C.ss (U.pd 1 (C.nr (C.rt ?_)));exact C.f1 o (pIi g);refine C.skip (C.xt (U.pd 1 (C.nx (C.ret ?_))));exact C.f1 o (pIi g);refine C.block (St.wk (C.loop (λs7=>[(0,.sl 3 Qt s1_1),(1,.sl 3 Qt s2_1),(2,.fn (.func 97) [] []),(11,.sl 3 Qt s1_1),(12,.i (s1_1.length:Int)),(13,.i s7)]) (λs7=>[]) g (λs7 _ g=>?_)) (Wk.e));refine C.ss (U.pd 1 (C.xs ?_));refine C.ite V g (λb11 g=>?_) λb11 g=>?_
 refine C.skip (C.xs (C.block (C.ss (U.ps 1 V ?_))));obtain⟨x14,y14,g⟩:=g;refine U.ix y14 ?_;refine U.ps 1 V (U.al ?_);refine U.ps 1 V (U.st ?_);refine U.done (C.xs (C.ss (U.pd 4 (C.nx ?_))));refine C.ite V g (λb17 g=>?_) λb17 g=>?_
 refine C.ss (U.pd 1 (C.nr (C.rt (C.brt (C.rt (C.rt (C.brt (C.rt ?_))))))));exact C.f1 o (pIi g);refine C.skip (C.xt (U.ps 2 V ?_));obtain⟨x22,y22,g⟩:=g;refine U.ix y22 ?_;refine U.ps 1 V (U.al ?_);refine U.st ?_;refine U.done (C.xt (U.ps 3 V (U.k (Q3C x14 x22 _ g) call97 (λx25 g=>?_))));refine U.pd 1 (C.xt ?_);refine U.pd 2 (C.nx ?_);refine C.ite V g (λb28 g=>?_) λb28 g=>?_
 refine C.ss (U.pd 2 (C.nr (C.brt (C.rt (C.rt (C.brt (C.rt ?_)))))));exact C.f1 o (pIi g);refine C.sb (U.pd 2 (C.nx ?_));exact St.wk (C.next g) (Wk.e);exact C.xw (St.wn (j6 _ g))
theorem Q3v a b post(g:Wv a b post):
  Tr prog 100 [.agg (zV1 a),.agg (zV1 b),.rp [.v (.func (.func 97) #[] #[])]] [] 0 (pI post):=by
 refine Tr.go func100 ntmps100 λ_ _ _ _ o=>?_
 unfold Wv at g;refine C.ss (U.bx ?_);refine U.bx ?_;refine U.pd 1 (C.xs ?_)
 let E0:Env->Env:=λr=>(0,.agg (zV1 a))::(1,.agg (zV1 b))::(2,.rp [.v (.func (.func 97) #[] #[])])::(3,.rp (zV1 a))::r
 refine St.wk (Γ':=E0 [(4,.p 0 0),(5,.i 0)]) (H':=[(0,.box (zV1 b))]) (nl':=1) ?_ (Wk.mk' [some 1] V V ⟨⟨_,V,(.eq V)⟩,⟨_,V,(.eq V)⟩,⟨_,V,(.eq V)⟩,⟨_,V,(.fzp V V V V (.eq V) V)⟩,ChkG.eqs V⟩ ⟨bX,trivial⟩ V);refine St.wk (Γ':=E0 [(4,.rp (zV1 b)),(5,.i 0)]) (H':=[]) (nl':=0) ?_ (Wk.mk' [] V V ⟨⟨_,V,(.eq V)⟩,⟨_,V,(.eq V)⟩,⟨_,V,(.eq V)⟩,⟨_,V,(.eq V)⟩,⟨_,V,(.fzp V V V V (.eq V) V)⟩,ChkG.eqs V⟩ trivial V);refine D.bq mix 9999 [] [] (λhQ hS ws M'=>?_);refine D.R 0 [] V (Rd.sar (enc:=Qt) (xs:=([a.e0,a.e1,a.e2,a.e3]:List Q1)) V V V V V V (λ_=>V) V) ?_;refine D.R 1 [] V (Rd.sar (enc:=Qt) (xs:=([b.e0,b.e1,b.e2,b.e3]:List Q1)) V V V V V V (λ_=>V) V) ?_;refine D.R 2 [] V (Rd.fnv (Rd.l V V V)) ?_;refine D.k 3 (KN ([a.e0,a.e1,a.e2,a.e3]:List Q1) ([b.e0,b.e1,b.e2,b.e3]:List Q1) _ g) call101 λx5 g=>?_
 refine D.pq 1 [(4,[])] ?_;refine D.dn ?_;exact C.nr (C.f1 o (pIi g))
def Qdj:Go.Shelf.Ren:=⟨λ| 6=>99 | 14=>146 | 15=>139 | 20=>188 | 21=>189 | 22=>190 | 23=>191 | 24=>192 | 25=>193 | 26=>194 | 27=>195 | 28=>183 | 29=>184 | 46=>211 | 47=>206 | 48=>207 | 49=>212 | 50=>213 | 57=>225 | n=>n,λ| 0=>0 | 3=>3 | 4=>4 | 5=>5 | 9=>9 | 22=>113 | 24=>107 | 25=>179 | 39=>193 | 45=>253 | 46=>254 | 50=>80 | 53=>260 | 55=>262 | 66=>280 | 70=>284 | 76=>293 | 77=>294 | n=>n,λn=>n⟩
theorem Qdc:SlLaysF0.n6 prog Qdj where
 mixed:=by kernel_rfl
 f6:=⟨Tryz.f99.name,by decide,FnX func99⟩
 f14:=⟨Tryz.f146.name,by decide,FnX func146⟩
 f15:=FnX func139
 f20:=⟨Tryz.f188.name,by decide,FnX func188⟩
 f21:=⟨Tryz.f189.name,by decide,FnX func189⟩
 f22:=⟨Tryz.f190.name,by decide,FnX func190⟩
 f23:=⟨Tryz.f191.name,by decide,FnX func191⟩
 f24:=⟨Tryz.f192.name,by decide,FnX func192⟩
 f25:=⟨Tryz.f193.name,by decide,FnX func193⟩
 f26:=⟨Tryz.f194.name,by decide,FnX func194⟩
 f27:=⟨Tryz.f195.name,by decide,FnX func195⟩
 f28:=FnX func183
 f29:=FnX func184
 f46:=⟨Tryz.f211.name,by decide,FnX func211⟩
 f47:=FnX func206
 f48:=FnX func207
 f49:=⟨Tryz.f212.name,by decide,FnX func212⟩
 f50:=⟨Tryz.f213.name,by decide,FnX func213⟩
 f57:=⟨Tryz.f225.name,by decide,FnX func225⟩
 t0:=underlying0
 a0:=isAgg0
 z0:=sizeOf0
 v0:=zeroValue0
 t3:=underlying3
 a3:=isAgg3
 z3:=sizeOf3
 v3:=zeroValue3
 t4:=underlying4
 a4:=isAgg4
 z4:=sizeOf4
 v4:=zeroValue4
 t5:=underlying5
 a5:=isAgg5
 z5:=sizeOf5
 v5:=zeroValue5
 t9:=underlying9
 a9:=isAgg9
 z9:=sizeOf9
 v9:=zeroValue9
 t22:=underlying113
 a22:=isAgg113
 z22:=sizeOf113
 v22:=zeroValue113
 t25:=underlying179
 a25:=isAgg179
 z25:=sizeOf179
 v25:=zeroValue179
 t39:=underlying193
 a39:=isAgg193
 z39:=sizeOf193
 v39:=zeroValue193
 t45:=underlying253
 a45:=isAgg253
 z45:=sizeOf253
 v45:=zeroValue253
 t46:=underlying254
 a46:=isAgg254
 z46:=sizeOf254
 v46:=zeroValue254
 t50:=underlying80
 a50:=isAgg80
 z50:=sizeOf80
 v50:=zeroValue80
 t53:=underlying260
 a53:=isAgg260
 z53:=sizeOf260
 v53:=zeroValue260
 t55:=underlying262
 a55:=isAgg262
 z55:=sizeOf262
 v55:=zeroValue262
 t66:=underlying280
 a66:=isAgg280
 z66:=sizeOf280
 v66:=zeroValue280
 t70:=underlying284
 a70:=isAgg284
 z70:=sizeOf284
 v70:=zeroValue284
 t76:=underlying293
 a76:=isAgg293
 z76:=sizeOf293
 v76:=zeroValue293
 t77:=underlying294
 a77:=isAgg294
 z77:=sizeOf294
 v77:=zeroValue294
theorem XD p0 post(g:QL p0 post):
  Tr prog 99 [.o 0,.fn (.func 100) [] [.rp [.v (.func (.func 97) #[] #[])]]] [(0,.val (.os 12 Xi p0))] 1 (λA H' k=>∃y,post y∧A=(.tup [])∧H'=[(0,.val (.os 12 Xi y))]∧k=1):=by
 unfold QL at g;obtain⟨p,cf,h0,hO,hp,hcmp,hsz,hpost⟩:=g;exact Tr.sortFuncCP (caps:=[.rp [.v (.func (.func 97) #[] #[])]]) (by intro A h;simp only [List.mem_cons,List.not_mem_nil,or_false] at h;subst h;rfl) (k:=12) Qdc isAgg107 sizeOf107 (λ_=>V) (λ_=>V) call100 h0 hO p0 hp (λx y hx hy=>Q3v x y _ (hcmp x y hx hy)) hsz hpost
theorem Q5F layer post(g:Yl layer post):
  Tr prog 47 [.rm Qn Kc layer] [] 0 (λA H' k=>∃y,post y∧A=(.o 0)∧H'=[(0,.val (.os 12 Xi y))]∧k=1):=by
 refine Tr.go func47 ntmps47 λ_ _ _ _ o=>?_
 unfold Yl at g;refine C.ss (U.pd 1 (C.xt ?_));refine U.pd 1 (C.xs (C.ss ?_));refine U.ps 1 V (U.E V (Eff1.rgm V V V V V) ?_);refine U.done (C.nx (C.jn (λx7=>[(3,.o 0)]) (λx7=>[(0,.val (.os 12 Xi x7))]) 1 g (λx7 g=>?_) λ_ g j8=>?_));refine C.xt (U.al ?_);refine U.st ?_;refine U.done (C.xt (U.ps 2 V (U.e V (.none V) (by exact Eff.c [some 0] (v:=true) (XD x7 _ g) call99 V V V (.cons (.eq V) (.cons (.fn (.eq V) (.cons (.fzp V V V V (.cons (.fnv _) .nil) V) .nil)) .nil)) ⟨vL,trivial⟩ V V V V V V (λ_ _=>⟨(.tup .nil),⟨.val (.os _ _ _ λ_=>(.cons (.v _) (.cons (.v _) (.cons (.v _) (.cons (.v _) (.cons (.v _) (.cons (.v _) (.cons (.v _) (.cons (.v _) (.cons (.v _) (.cons (.v _) (.cons (.v _) (.cons (.v _) .nil))))))))))))),trivial⟩⟩) (.inl V) (λ_=>V) (λ_=>V) V) (λx22' g=>?_))));obtain⟨x22⟩:=x22';refine U.done (C.xt (U.pd 2 (C.nx (C.ret ?_))));exact C.g1 [some 0] o ⟨x22,g,V,V,V⟩;refine C.block (St.wk (C.loop (λs9=>[(3,.o 0),(7,.o 1)]) (λs9=>[(0,.val (.os 12 Xi s9.1)),(1,.rngm Qn Kc layer s9.2)]) g (λs9 _ g=>?_)) (Wk.mk' [none,some 0] V V ⟨⟨_,V,(.nilO _ _ ⟨V,V⟩ V)⟩,ChkG.eqs V⟩ ⟨⟨_,V,.nil _ _⟩,⟨_,V,.rngm V⟩,trivial⟩ V));refine C.ss (U.e V (.none V) (by exact Eff.nxm (ke:=Qn) (ve:=Kc) (li:=1) V V V V V) (λy' h'=>?_));obtain⟨_ | ⟨x11,x12⟩⟩:=y';replace g:=g.2 h';refine U.pd 1 (C.xs ?_);exact C.condF V V (C.xw (St.wa [some 0] (j8 _ g)));have y11:=h';replace g:=g.1 x11 x12 h';refine U.pd 1 (C.xs ?_);refine C.condT V V (C.skip (C.nx (C.block (C.ss (U.R V (Rd.enm (ke:=Qn) (ve:=Kc) V V V V y11.1) ?_)))));refine U.ps 1 V (U.al ?_);refine U.st ?_;refine U.done (C.nx (U.start (U.ps 2 V (U.bs Xi ([x11]:List Q0) ?_))));obtain⟨y17,g⟩:=g;refine U.ap y17 ?_;refine U.pd 1 (C.bnx (C.nx ?_));exact St.wk (C.next g) (Wk.f [some 4,some 1] ⟨vL,⟨_,V,.rngm V⟩,trivial⟩)
theorem Q0T p at_1 post(g:Xq p at_1 post):
  Tr prog 48 [.rp (zV0 p),.agg (zV1 at_1)] [] 0 (pB post):=by
 refine Tr.go func48 ntmps48 λ_ _ _ _ o=>?_
 unfold Xq at g;refine C.ss (U.bx ?_);refine U.pd 1 (C.xs (C.ss ?_));refine U.pd 6 (C.nx ?_);refine C.jn (λx5=>[]) (λx5=>[]) 0 g (λx5 g=>?_) λ_ g j6=>?_
 refine C.xt (U.pd 1 (C.nx (C.ret ?_)));exact C.f1 o (pBi g);refine C.block (St.wk (C.loop (λs7=>[(3,.p 0 0),(10,.sl 2 Q9 p.Bj),(11,.i (p.Bj.length:Int)),(12,.i s7)]) (λs7=>[(0,.box (zV1 at_1))]) g (λs7 _ g=>?_)) (Wk.a [some 0]));refine C.ss (U.pd 1 (C.xs ?_));refine C.ite V g (λb11 g=>?_) λb11 g=>?_
 refine C.skip (C.xs (C.block (C.ss (U.ps 1 V ?_))));obtain⟨x14,y14,g⟩:=g;refine U.ix y14 ?_;refine U.ps 1 V (U.al ?_);refine U.ps 1 V (U.st ?_);refine U.done (C.xs (D.bq mix 9999 [0,1] [] (λhQ hS ws M'=>?_)));refine D.pq 1 [(0,[])] ?_;obtain⟨x18,y18,g⟩:=g;refine D.R 1 [] V (Rd.pi V V V V V V ⟨(Qk y18).1,(Qk y18).2.1⟩) ?_;refine D.pq 1 [(2,[])] ?_;refine D.R 3 [] V (Rd.lj (pre:=[]) (post:=[]) (enc:=Qt) (xs:=([at_1.e0,at_1.e1,at_1.e2,at_1.e3]:List Q1)) (m:=3) (sub:=0) (j:=s7) V V V V V (λ_=>V) y18 V V V) ?_;refine D.pq 3 (zl [4,5,6]) ?_;refine D.dn ?_;refine C.nx (C.ite V g (λb19 g=>?_) λb19 g=>?_);refine C.ss (U.pd 1 (C.nr (C.brt (C.rt (C.rt (C.brt (C.rt ?_)))))));exact C.f1 o (pBi g);refine C.sb (U.pd 2 (C.nx ?_));exact St.wa [some 0] (C.next g);exact C.xw (St.wn (j6 _ g))
theorem Q0u s_1 v post(g:Xc s_1 v post):
  Tr prog 142 [.sl 1 eI s_1,.i v] [] 0 (pI post):=by
 refine Tr.go func142 ntmps142 λ_ _ _ _ o=>?_
 unfold Xc at g;refine C.ss (U.pd 1 (C.xs (C.ss ?_)));refine U.pd 3 (C.nx ?_);refine C.jn (λx5=>[]) (λx5=>[]) 0 g (λx5 g=>?_) λ_ g j6=>?_
 refine C.xt (U.pd 1 (C.nx (C.ret ?_)));exact C.f1 o (pIi g);refine C.block (St.wk (C.loop (λs7=>[(0,.sl 1 eI s_1),(1,.i v),(7,.i (s_1.length:Int)),(8,.i s7)]) (λs7=>[]) g (λs7 _ g=>?_)) (Wk.e));refine C.ss (U.pd 1 (C.xs ?_));refine C.ite V g (λb11 g=>?_) λb11 g=>?_
 refine C.skip (C.xs (C.block (C.ss (U.pd 2 (C.xt ?_)))));refine U.ps 3 V ?_;obtain⟨x16,y16,g⟩:=g;refine U.ix y16 ?_;refine U.pd 2 (C.nx ?_);refine C.ite V g (λb17 g=>?_) λb17 g=>?_
 refine C.ss (U.pd 2 (C.nr (C.brt (C.rt (C.rt (C.brt (C.rt ?_)))))));exact C.f1 o (pIi g);refine C.sb (U.pd 2 (C.nx ?_));exact St.wk (C.next g) (Wk.e);exact C.xw (St.wn (j6 _ g))
theorem K8 s_1 v post(g:Qv s_1 v post):
  Tr prog 94 [.sl 1 eI s_1,.i v] [] 0 (pB post):=by
 refine Tr.go func94 ntmps94 λ_ _ _ _ o=>?_
 unfold Qv at g;refine C.ss (U.pd 1 (C.xt ?_));refine U.ps 2 V (U.k (Q0u s_1 v _ g) call142 (λx5 g=>?_));refine U.pd 2 (C.nx (C.ret ?_));exact C.f1 o (pBi g)
theorem ZQ c c0 post(g:KL c c0 post):
  Tr prog 103 [.i c,.rp [.sl 1 eI c0]] [] 0 (pB post):=by
 refine Tr.go func103 ntmps103 λ_ _ _ _ o=>?_
 unfold KL at g;refine C.ss (U.pd 1 (C.xt ?_));refine U.ps 2 V (U.k (K8 c0 c _ g) call94 (λx5 g=>?_));refine U.pd 1 (C.nx (C.ret ?_));exact C.f1 o (pBi g)
theorem Ga s_1 f_c0 post(g:QZ s_1 f_c0 post):
  Tr prog 109 [.sl 1 eI s_1,.fn (.func 103) [] [.rp [.sl 1 eI f_c0]]] [] 0 (pI post):=by
 refine Tr.go func109 ntmps109 λ_ _ _ _ o=>?_
 unfold QZ at g;refine C.ss (U.pd 1 (C.xs (C.ss ?_)));refine U.pd 3 (C.nx ?_);refine C.jn (λx5=>[]) (λx5=>[]) 0 g (λx5 g=>?_) λ_ g j6=>?_
 refine C.xt (U.pd 1 (C.nx (C.ret ?_)));exact C.f1 o (pIi g);refine C.block (St.wk (C.loop (λs7=>[(0,.sl 1 eI s_1),(1,.fn (.func 103) [] [.rp [.sl 1 eI f_c0]]),(7,.i (s_1.length:Int)),(8,.i s7)]) (λs7=>[]) g (λs7 _ g=>?_)) (Wk.e));refine C.ss (U.pd 1 (C.xs ?_));refine C.ite V g (λb11 g=>?_) λb11 g=>?_
 refine C.skip (C.xs (C.block (C.ss (U.pd 2 (C.xt ?_)))));refine U.ps 3 V ?_;obtain⟨x16,y16,g⟩:=g;refine U.ix y16 ?_;refine U.ps 1 V (U.k (ZQ x16 f_c0 _ g) call103 (λx17 g=>?_));refine U.done (C.nx (C.ite V g (λb18 g=>?_) λb18 g=>?_));refine C.ss (U.pd 2 (C.nr (C.brt (C.rt (C.rt (C.brt (C.rt ?_)))))));exact C.f1 o (pIi g);refine C.sb (U.pd 2 (C.nx ?_));exact St.wk (C.next g) (Wk.e);exact C.xw (St.wn (j6 _ g))
theorem XQ s_1 f_c0 post(g:QQ s_1 f_c0 post):
  Tr prog 58 [.sl 1 eI s_1,.fn (.func 103) [] [.rp [.sl 1 eI f_c0]]] [] 0 (pB post):=by
 refine Tr.go func58 ntmps58 λ_ _ _ _ o=>?_
 unfold QQ at g;refine C.ss (U.pd 1 (C.xt ?_));refine U.ps 2 V (U.k (Ga s_1 f_c0 _ g) call109 (λx5 g=>?_));refine U.pd 2 (C.nx (C.ret ?_));exact C.f1 o (pBi g)
theorem We cells c0 post(g:KH cells c0 post):
  Tr prog 102 [.sl 1 eI cells,.rp [.sl 1 eI c0]] [] 0 (pB post):=by
 refine Tr.go func102 ntmps102 λ_ _ _ _ o=>?_
 unfold KH at g;refine C.ss (U.pd 1 (C.xt ?_));refine U.ps 2 V (U.k (XQ cells c0 _ g) call58 (λx5 g=>?_));refine U.pd 2 (C.nx (C.ret ?_));exact C.f1 o (pBi g)
theorem Ku s_1 post(g:Kb s_1 post):
  Tr prog 79 [.sl 1 eI s_1] [] 0 (λA H' k=>∃y,post y∧A=(.o 0)∧H'=[(0,.val (.os 1 eI y))]∧k=1):=by
 refine Tr.go func79 ntmps79 λ_ _ _ _ o=>?_
 unfold Kb at g;refine C.ss (U.pd 1 (C.xs (C.ss ?_)));refine U.ps 1 V (U.e V (.none V) (by exact Eff.isnil true V V V V V V (.inl ⟨.sl,V⟩) V) (λb5' hhb5=>?_));obtain⟨b5⟩:=b5';replace g:=g b5 hhb5;refine U.done (C.nx (C.ite V g (λb6 g=>?_) λb6 g=>?_));refine C.ss (U.pd 1 (C.nr (C.rt ?_)));exact C.g1 [none] o ⟨[],g,V,V,V⟩;refine C.skip (C.xt (U.bs eI ([]:List Int) ?_));refine U.ps 1 V ?_;obtain⟨y11,g⟩:=g;refine U.ap y11 ?_;refine U.pd 1 (C.nx (C.ret ?_));exact C.g1 [some 1] o ⟨(([]:List Int)++s_1),g,V,V,V⟩
theorem Q2R f post(g:GS f post):
  Tr prog 84 [.agg (QX f)] [] 0 (pI post):=by
 refine Tr.go func84 ntmps84 λ_ _ _ _ o=>?_
 unfold GS at g;refine C.ss (U.bx ?_);refine U.pd 1 (C.xt ?_);refine U.pd 9 (C.nx (C.ret ?_));exact C.f1 o (pIi g)
theorem Q2r f c post(g:Ys f c post):
  Tr prog 136 [.agg (QX f),.i c] [] 0 (pB post):=by
 refine Tr.go func136 ntmps136 λ_ _ _ _ o=>?_
 unfold Ys at g;refine C.ss (U.bx ?_);refine U.pd 1 (C.xs ?_);refine C.jn (λx3=>[(4,.b x3)]) (λx3=>[]) 0 g (λx3 g=>?_) λ_ g j4=>?_
 exact C.nr (C.f1 o (pBi g));refine U.start (U.ps 3 V (g.cs (λb5 g=>?_) λb5 g=>?_));refine U.G 2 b5 ?_;refine U.k (Q2R f _ g) call84 (λx6 g=>?_) (hw:=.take 2 true 7 _ b5 V V V);refine U.G 1 b5 ?_;refine U.pk b5 ?_;refine U.pd 1 ?_;exact St.wn (j4 _ g);refine U.S 4 b5 ?_;refine U.pk' b5 ?_;refine U.pd 1 ?_;exact St.wn (j4 _ g)
theorem Q4O f c post(g:YZ f c post):
  Tr prog 90 [.agg (QX f),.i c] [] 0 (λA H' k=>∃y,post y∧A=(.tup [.i y.1,.i y.2.1,.i y.2.2])∧H'=[]∧k=0):=by
 refine Tr.go func90 ntmps90 λ_ _ _ _ o=>?_
 unfold YZ at g;refine C.ss (U.bx ?_);refine U.pd 3 (C.xs (C.ss ?_));refine U.ps 2 V (U.k (Q2r f c _ g) call136 (λx5 g=>?_));refine U.pd 1 (C.nx ?_);refine C.ite V g (λb6 g=>?_) λb6 g=>?_
 refine C.ss (U.pd 3 (C.nr (C.rt ?_)));exact C.f9 o ⟨(0,0,0),g,V,V,V⟩;refine C.skip (C.xs (D.bq mix 9999 [0] [] (λhQ hS ws M'=>?_)));refine D.pq 3 (zl [0,1,2]) ?_;obtain⟨y11,g⟩:=g;refine D.R 3 [] V (Rd.rm V V V V y11) ?_;refine D.pq 3 (zl [4,5,6]) ?_;obtain⟨y12,g⟩:=g;refine D.R 7 [] V (Rd.dv V V V V y12) ?_;refine D.pq 2 (zl [8,9]) ?_;obtain⟨y13,g⟩:=g;refine D.R 10 [] V (Rd.rm V V V V y13) ?_;refine D.pq 6 (zl [11,12,13,14,15,16]) ?_;obtain⟨y14,g⟩:=g;refine D.R 17 [] V (Rd.dv V V V V y14) ?_;refine D.pq 3 (zl [18,19,20]) ?_;refine D.dn ?_;exact C.nr (C.f9 o ⟨(c.tmod f.W,(w64 (c.tdiv f.W)).tmod f.H,w64 (c.tdiv (w64 (f.W*f.H)))),g,V,V,V⟩)
theorem Q57 post(g:YQ post):
  Tr prog 137 [] [] 0 (λA H' k=>∃y,post y∧A=(.agg [.i y.e0.x,.i y.e0.y,.i y.e0.z,.i y.e1.x,.i y.e1.y,.i y.e1.z,.i y.e2.x,.i y.e2.y,.i y.e2.z,.i y.e3.x,.i y.e3.y,.i y.e3.z,.i y.e4.x,.i y.e4.y,.i y.e4.z,.i y.e5.x,.i y.e5.y,.i y.e5.z])∧H'=[]∧k=0):=by
 refine Tr.go func137 ntmps137 λ_ _ _ _ o=>?_
 unfold YQ at g;refine C.ss (U.al ?_);refine U.done (C.xt (U.ps 7 V (U.st ?_)));exact U.done (C.nr (C.f1 o ⟨(⟨(⟨1,0,0⟩:KX),(⟨0,1,0⟩:KX),(⟨(-1),0,0⟩:KX),(⟨0,(-1),0⟩:KX),(⟨0,0,1⟩:KX),(⟨0,0,(-1)⟩:KX)⟩:YR),g,V,V,V⟩))
theorem YL f x_1 y_1 z post(g:Gp f x_1 y_1 z post):
  Tr prog 91 [.agg (QX f),.i x_1,.i y_1,.i z] [] 0 (pI post):=by
 refine Tr.go func91 ntmps91 λ_ _ _ _ o=>?_
 unfold Gp at g;refine C.ss (U.bx ?_);refine U.pd 1 (C.xs (C.seq ?_));refine C.jn (λx3=>[(1,.i x_1),(2,.i y_1),(3,.i z),(4,.p 0 0),(31,.b x3)]) (λx3=>[(0,.box (QX f))]) 1 g (λx3 g=>?_) λ_ g j4=>?_
 refine C.nx (C.ite V g (λb8 g=>?_) λb8 g=>?_);refine C.ss (U.pd 1 (C.nr (C.rt ?_)));exact C.f1 o (pIi g);refine C.skip (C.xt (U.pd 12 (C.nx (C.ret ?_))));exact C.f1 o (pIi g);refine U.start (U.ps 6 V (g.cs (λb5 g=>?_) λb5 g=>?_));refine U.S 4 b5 ?_;refine U.pk b5 ?_;refine U.ps 1 V (U.S 4 V ?_);refine U.pk V ?_;refine U.ps 1 V (U.S 4 V ?_);refine U.pk V ?_;exact U.done (St.wa [some 0] (j4 _ g));refine U.G 4 b5 ?_;refine U.pk' b5 ?_;refine U.ps 1 V (g.cs (λb6 g=>?_) λb6 g=>?_);refine U.S 4 b6 ?_;refine U.pk b6 ?_;refine U.ps 1 V (U.S 4 V ?_);refine U.pk V ?_;exact U.done (St.wa [some 0] (j4 _ g));refine U.G 4 b6 ?_;refine U.pk' b6 ?_;refine U.ps 1 V (g.cs (λb7 g=>?_) λb7 g=>?_);refine U.S 4 b7 ?_;refine U.pk b7 ?_;exact U.done (St.wa [some 0] (j4 _ g));refine U.G 4 b7 ?_;refine U.pk' b7 ?_;exact U.done (St.wa [some 0] (j4 _ g))
theorem Q1v f c d post(g:Gs f c d post):
  Tr prog 77 [.agg (QX f),.i c,.i d] [] 0 (pI post):=by
 refine Tr.go func77 ntmps77 λ_ _ _ _ o=>?_
 unfold Gs at g;refine C.ss (U.bx ?_);refine U.pd 1 (C.xs (C.seq ?_));refine C.jn (λx3=>[(1,.i c),(2,.i d),(3,.p 0 0),(22,.b x3)]) (λx3=>[(0,.box (QX f))]) 1 g (λx3 g=>?_) λ_ g j4=>?_
 refine C.nx (C.ite V g (λb8 g=>?_) λb8 g=>?_);refine C.ss (U.pd 1 (C.nr (C.rt ?_)));exact C.f1 o (pIi g);refine C.skip (C.xt (U.ps 2 V (U.k (Q4O f c _ g) call90 (λx13 g=>?_))));refine U.pd 7 (C.xt ?_);refine U.k (Q57 _ g) call137 λx16 g=>?_
 refine U.ps 1 V ?_;obtain⟨x17,y17,g⟩:=g;refine U.R V (Rd.ia (enc:=Q82) V V V V V V V V V (λ_ _=>V) y17) ?_;refine U.al ?_;refine U.st ?_;refine U.done (C.xt (U.ps 13 V (U.k (YL f (w64 (x13.1+x17.x)) (w64 (x13.2.1+x17.y)) (w64 (x13.2.2+x17.z)) _ g) call91 (λx20 g=>?_))));refine U.pd 1 (C.nx (C.ret ?_));exact C.f1 o (pIi g);refine U.start (U.ps 2 V (U.k (Q2r f c _ g) call136 (λx5 g=>?_)));refine U.ps 2 V (g.cs (λb6 g=>?_) λb6 g=>?_);refine U.G 2 (ntF b6) ?_;refine U.pk' (ntF b6) ?_;refine U.ps 1 V (g.cs (λb7 g=>?_) λb7 g=>?_);refine U.S 2 b7 ?_;refine U.pk b7 ?_;exact U.done (St.wa [some 0] (j4 _ g));refine U.G 2 b7 ?_;refine U.pk' b7 ?_;exact U.done (St.wa [some 0] (j4 _ g));refine U.S 2 (ntT b6) ?_;refine U.pk (ntT b6) ?_;refine U.ps 1 V (U.S 2 V ?_);refine U.pk V ?_;exact U.done (St.wa [some 0] (j4 _ g))
theorem WA f c d post(g:Xn f c d post):
  Tr prog 29 [.agg (QX f),.i c,.i d] [] 0 (λA H' k=>∃y,post y∧A=(.tup [.i y.1,.b y.2])∧H'=[]∧k=0):=by
 refine Tr.go func29 ntmps29 λ_ _ _ _ o=>?_
 unfold Xn at g;refine C.ss (U.bx ?_);refine U.pd 2 (C.xt ?_);refine U.ps 3 V (U.k (Q1v f c d _ g) call77 (λx5 g=>?_));refine U.pd 1 (C.xs (C.seq ?_));refine C.jn (λx6=>[(1,.i c),(2,.i d),(3,.p 0 0),(8,.i x5),(41,.b x6)]) (λx6=>[(0,.box (QX f))]) 1 g (λx6 g=>?_) λ_ g j7=>?_
 refine C.nx (C.ite V g (λb15 g=>?_) λb15 g=>?_);refine C.ss (U.pd 2 (C.nr (C.rt ?_)));exact C.f9 o ⟨(0,false),g,V,V,V⟩;refine C.skip (C.xs (C.seq (C.jn (λx18=>[(8,.i x5),(63,.b x18)]) (λx18=>[]) 0 g (λx18 g=>?_) λ_ g j19=>?_)));refine C.nx (C.ite V g (λb28 g=>?_) λb28 g=>?_);refine C.ss (U.pd 2 (C.nr (C.rt ?_)));exact C.f9 o ⟨(0,false),g,V,V,V⟩;refine C.skip (C.xt (U.pd 3 (C.nx (C.ret ?_))));exact C.f9 o ⟨(x5,true),g,V,V,V⟩;refine U.start (U.ps 3 V (g.cs (λb20 g=>?_) λb20 g=>?_));refine U.S 2 b20 ?_;refine U.pk b20 ?_;refine U.ps 1 V (U.G 3 V ?_);obtain⟨x21,y21,g⟩:=g;refine U.Rt V V (Rd.ix V V V V V V y21) ?_;refine U.G 3 V ?_;refine g.cs (λb22 g=>?_) λb22 g=>?_
 refine U.S 6 b22 ?_;refine U.Rt V V (Rd.pk V V b22 V) ?_;refine U.pk V ?_;exact U.done (St.wn (j19 _ g));refine U.G 3 b22 ?_;obtain⟨x23,y23,g⟩:=g;refine U.Rt b22 V (Rd.ix V V V V V V y23) ?_;refine U.G 2 b22 ?_;refine U.Rt V V (Rd.pk' V V b22 V) ?_;refine U.pk V ?_;exact U.done (St.wn (j19 _ g));refine U.G 2 b20 ?_;refine U.pk' b20 ?_;refine U.ps 1 V (g.cs (λb24 g=>?_) λb24 g=>?_);refine U.G 3 b24 ?_;obtain⟨x25,y25,g⟩:=g;refine U.Rt b24 V (Rd.ix V V V V V V y25) ?_;refine U.G 3 b24 ?_;refine g.cs (λb26 g=>?_) λb26 g=>?_
 refine U.S 6 b26 ?_;refine U.Rt b24 V (Rd.pk V V b26 V) ?_;refine U.pk b24 ?_;exact U.done (St.wn (j19 _ g));refine U.G 3 b26 ?_;obtain⟨x27,y27,g⟩:=g;refine U.Rt b26 V (Rd.ix V V V V V V y27) ?_;refine U.G 2 b26 ?_;refine U.Rt b24 V (Rd.pk' V V b26 V) ?_;refine U.pk b24 ?_;exact U.done (St.wn (j19 _ g));refine U.S 7 b24 ?_;refine U.sku 6 13 false 55 V V V (U.S 1 b24 ?_);refine U.pk' b24 ?_;exact U.done (St.wn (j19 _ g));refine U.start (U.ps 3 V (g.cs (λb8 g=>?_) λb8 g=>?_));refine U.S 6 b8 ?_;refine U.pk b8 ?_;refine U.ps 1 V (U.S 6 V ?_);refine U.pk V ?_;refine U.ps 1 V (U.S 9 V ?_);refine U.pk V ?_;exact U.done (St.wa [some 0] (j7 _ g));refine U.G 3 b8 ?_;obtain⟨x9,y9,g⟩:=g;refine U.Rt b8 V (Rd.ix V V V V V V y9) ?_;refine U.G 2 b8 ?_;refine U.pk' b8 ?_;refine U.ps 1 V (g.cs (λb10 g=>?_) λb10 g=>?_);refine U.S 6 b10 ?_;refine U.pk b10 ?_;refine U.ps 1 V (U.S 9 V ?_);refine U.pk V ?_;exact U.done (St.wa [some 0] (j7 _ g));refine U.G 3 b10 ?_;obtain⟨x11,y11,g⟩:=g;refine U.Rt b10 V (Rd.ix V V V V V V y11) ?_;refine U.G 2 b10 ?_;refine U.pk' b10 ?_;refine U.ps 1 V (g.cs (λb12 g=>?_) λb12 g=>?_);refine U.S 9 b12 ?_;refine U.pk b12 ?_;exact U.done (St.wa [some 0] (j7 _ g));refine U.G 3 b12 ?_;obtain⟨x13,y13,g⟩:=g;refine U.Rt b12 V (Rd.ix V V V V V V y13) ?_;refine U.G 2 b12 ?_;obtain⟨y14,g⟩:=g;refine U.Rt b12 V (Rd.sh V V V V y14) ?_;refine U.G 2 b12 ?_;refine U.pk' b12 ?_;exact U.done (St.wa [some 0] (j7 _ g))
theorem ZG s_1 c post(g:XU s_1 c post):
  Tr prog 150 [.agg (Qa s_1),.i c] [] 0 (pB post):=by
 refine Tr.go func150 ntmps150 λ_ _ _ _ o=>?_
 unfold XU at g;refine C.ss (U.bx ?_);refine U.pd 1 (C.xs ?_);refine C.jn (λx3=>[(4,.b x3)]) (λx3=>[]) 0 g (λx3 g=>?_) λ_ g j4=>?_
 exact C.nr (C.f1 o (pBi g));refine U.start (U.ps 3 V (g.cs (λb5 g=>?_) λb5 g=>?_));refine U.G 6 b5 ?_;refine U.pk b5 ?_;refine U.pd 1 ?_;exact St.wn (j4 _ g);refine U.S 6 b5 ?_;refine U.pk' b5 ?_;refine U.pd 1 ?_;exact St.wn (j4 _ g)
theorem Q4a x_1 c0 post(g:WT x_1 c0 post):
  Tr prog 151 [.agg [.i x_1.Aa,.i x_1.To],.rp [.i c0]] [] 0 (pB post):=by
 refine Tr.go func151 ntmps151 λ_ _ _ _ o=>?_
 unfold WT at g;refine C.ss (U.bx ?_);refine U.pd 1 (C.xs ?_);refine C.jn (λx3=>[(3,.b x3)]) (λx3=>[]) 0 g (λx3 g=>?_) λ_ g j4=>?_
 exact C.nr (C.f1 o (pBi g));refine U.start (U.ps 5 V (g.cs (λb5 g=>?_) λb5 g=>?_));refine U.G 4 b5 ?_;refine U.pk b5 ?_;refine U.pd 1 ?_;exact St.wn (j4 _ g);refine U.S 4 b5 ?_;refine U.pk' b5 ?_;refine U.pd 1 ?_;exact St.wn (j4 _ g)
theorem Gb s_1 f_c0 post(g:K0 s_1 f_c0 post):
  Tr prog 152 [.sl 2 Gj s_1,.fn (.func 151) [] [.rp [.i f_c0]]] [] 0 (pI post):=by
 refine Tr.go func152 ntmps152 λ_ _ _ _ o=>?_
 unfold K0 at g;refine C.ss (U.pd 1 (C.xs (C.ss ?_)));refine U.pd 3 (C.nx ?_);refine C.jn (λx5=>[]) (λx5=>[]) 0 g (λx5 g=>?_) λ_ g j6=>?_
 refine C.xt (U.pd 1 (C.nx (C.ret ?_)));exact C.f1 o (pIi g);refine C.block (St.wk (C.loop (λs7=>[(0,.sl 2 Gj s_1),(1,.fn (.func 151) [] [.rp [.i f_c0]]),(7,.i (s_1.length:Int)),(8,.i s7)]) (λs7=>[]) g (λs7 _ g=>?_)) (Wk.e));refine C.ss (U.pd 1 (C.xs ?_));refine C.ite V g (λb11 g=>?_) λb11 g=>?_
 refine C.skip (C.xs (C.block (C.ss (U.pd 2 (C.xt ?_)))));refine U.ps 3 V ?_;obtain⟨x16,y16,g⟩:=g;refine U.ix y16 ?_;refine U.ps 1 V (U.k (Q4a x16 f_c0 _ g) call151 (λx17 g=>?_));refine U.done (C.nx (C.ite V g (λb18 g=>?_) λb18 g=>?_));refine C.ss (U.pd 2 (C.nr (C.brt (C.rt (C.rt (C.brt (C.rt ?_)))))));exact C.f1 o (pIi g);refine C.sb (U.pd 2 (C.nx ?_));exact St.wk (C.next g) (Wk.e);exact C.xw (St.wn (j6 _ g))
theorem XM s_1 f_c0 post(g:QE s_1 f_c0 post):
  Tr prog 111 [.sl 2 Gj s_1,.fn (.func 151) [] [.rp [.i f_c0]]] [] 0 (pB post):=by
 refine Tr.go func111 ntmps111 λ_ _ _ _ o=>?_
 unfold QE at g;refine C.ss (U.pd 1 (C.xt ?_));refine U.ps 2 V (U.k (Gb s_1 f_c0 _ g) call152 (λx5 g=>?_));refine U.pd 2 (C.nx (C.ret ?_));exact C.f1 o (pBi g)
theorem Q0w s_1 c tick post(g:Wp s_1 c tick post):
  Tr prog 110 [.agg (Qa s_1),.i c,.i tick] [] 0 (pB post):=by
 refine Tr.go func110 ntmps110 λ_ _ _ _ o=>?_
 unfold Wp at g;refine C.ss (U.bx ?_);refine U.bx ?_;refine U.pd 1 (C.xt ?_);refine U.ps 2 V (U.k (Q1k s_1 c _ g) call96 (λx5 g=>?_));refine U.pd 1 (C.xs (C.seq ?_));refine C.jn (λx6=>[(1,.i c),(3,.p 0 0),(5,.p 1 0),(7,.i x5),(18,.b x6)]) (λx6=>[(0,.box (Qa s_1)),(1,.box [.i tick])]) 2 g (λx6 g=>?_) λ_ g j7=>?_
 refine C.nx (C.ite V g (λb10 g=>?_) λb10 g=>?_);refine C.ss (U.ps 2 V (U.k (ZG s_1 c _ g) call150 (λx13 g=>?_)));refine U.pd 1 (C.nr (C.rt ?_));exact C.f1 o (pBi g);refine C.skip (C.xt (U.ps 3 V ?_));obtain⟨x16,y16,g⟩:=g;refine U.ix y16 ?_;refine U.ps 3 V (U.k (XM x16.Am tick _ g) call111 (λx17 g=>?_));refine U.pd 2 (C.nx (C.ret ?_));exact C.f1 o (pBi g);refine U.start (U.ps 2 V (U.k (ZG s_1 c _ g) call150 (λx8 g=>?_)));refine U.ps 2 V (g.cs (λb9 g=>?_) λb9 g=>?_);refine U.G 2 (ntF b9) ?_;refine U.pk' (ntF b9) ?_;exact U.done (St.wa (idR 2) (j7 _ g));refine U.S 2 (ntT b9) ?_;refine U.pk (ntT b9) ?_;exact U.done (St.wa (idR 2) (j7 _ g))
theorem Zj p at_1 k post(g:Xh p at_1 k post):
  Tr prog 104 [.rp (zV0 p),.agg (Qt at_1),.i k] [] 0 (λA H' k=>∃y,post y∧A=(.o 0)∧H'=[(0,.val (.os 4 KA y))]∧k=1):=by
 refine Tr.go func104 ntmps104 λ_ _ _ _ o=>?_
 unfold Xh at g;refine C.ss (U.bx ?_);refine U.pd 1 (C.xt ?_);refine U.ps 8 V (U.e1 V (.none V) (Eff1.bs (enc:=KA) (xs:=([(⟨0,(⟨at_1.cell,imax 0 (w64 (at_1.Ba-1)),false⟩:Q1)⟩:KV)]:List KV)) V V V V V V V V V V (λ_ _=>V) V V) (U.pd 1 (C.xs (C.ss ?_))));refine U.pd 1 (C.nx ?_);refine C.jn (λx7=>[(7,.o 0)]) (λx7=>[(0,.val (.os 4 KA x7))]) 1 g (λx7 g=>?_) λ_ g j8=>?_
 refine C.xt (U.pd 2 (C.nx (C.ret ?_)));exact C.g1 [some 0] o ⟨x7,g,V,V,V⟩
 let E0:Env->Env:=λr=>(0,.rp (zV0 p))::(2,.i k)::(4,.p 0 0)::(7,.o 1)::r
 refine C.block (St.wk (C.loop (λs9=>E0 [(20,.i s9.2)]) (λs9=>[(0,.box (Qt at_1)),(1,.val (.os 4 KA s9.1))]) g (λs9 _ g=>?_)) (Wk.a (idR 2)));refine C.ss (U.pd 1 (C.xs ?_));refine C.ite V g (λb13 g=>?_) λb13 g=>?_
 refine C.skip (C.xs (C.block (C.ss (U.pd 2 (C.xs ?_)))));refine D.bq mix 9999 [0] [] (λhQ hS ws M'=>?_);refine D.pq 8 (zl [0,1,2,3,4,5,6,7]) ?_;refine D.k 8 (WA p.s.A9 at_1.cell s9.2 _ g) call29 λx18 g=>?_
 refine D.pq 5 (zl [9,10,11,12,13]) ?_;refine D.dn ?_;refine C.xs (C.jn (λx19=>E0 [(8,.i s9.2),(9,.i x18.1),(20,.i s9.2),(63,.b x19)]) (λx19=>[(0,.box (Qt at_1)),(1,.val (.os 4 KA s9.1))]) 2 g (λx19 g=>?_) λ_ g j20=>?_);refine C.nx (C.jn (λx26=>E0 [(20,.i s9.2)]) (λx26=>[(0,.box (Qt at_1)),(1,.val (.os 4 KA x26))]) 2 g (λx26 g=>?_) λ_ g j27=>?_);refine C.bnx (C.nx (U.start (U.pd 2 (C.nx ?_))));exact St.wa (idR 2) (C.next g);refine C.ite V g (λb28 g=>?_) λb28 g=>?_
 refine U.start (U.ps 9 V (U.k (YT p.s x18.1 _ g) call46 (λx31 g=>?_)));refine U.ps 3 V (U.bs KA ([(⟨w64 (1+s9.2),(⟨x18.1,w64 (x31-1),false⟩:Q1)⟩:KV)]:List KV) ?_);obtain⟨y32,g⟩:=g;refine U.ap y32 ?_;refine U.pd 1 ?_;exact St.wa [some 0,some 3] (j27 _ g);exact C.skip (St.wa (idR 2) (j27 _ g));refine D.bq mix 9999 [0] [] (λhQ hS ws M'=>?_);refine D.pq 2 (zl [0,1]) ?_;refine g.cs (λb21 g=>?_) λb21 g=>?_
 refine D.G 2 [] b21 ?_;refine D.Rt 3 [] b21 V (Rd.l V V V) ?_;refine D.G 4 [] b21 ?_;refine D.kt 5 [] b21 ?_;refine D.pq 1 [(6,[])] ?_;refine g.cs (λb22 g=>?_) λb22 g=>?_
 refine D.G 7 [] b22 ?_;refine D.G 8 [] b22 ?_;refine D.G 9 [] b22 ?_;refine D.Rt 10 [] b22 V (Rd.l V V V) ?_;refine D.G 11 [] b22 ?_;refine D.G 12 [] b22 ?_;refine D.G 13 [] b22 ?_;refine D.G 14 [] b22 ?_;refine D.Rt 15 [] b22 V (Rd.l V V V) ?_;refine D.G 16 [] b22 ?_;refine D.G 17 [] b22 ?_;refine D.k 18 (Q0w p.s x18.1 (w64 (p.Bh+k)) _ g) call110 (λx23 g=>?_) (hw:=.take 6 true 41 _ b22 V V V);refine D.kt 19 [] b22 ?_;refine D.pq 1 [(20,[])] ?_;refine g.cs (λb24 g=>?_) λb24 g=>?_
 refine D.G 21 [] b24 ?_;refine D.G 22 [] b24 ?_;refine D.G 23 [] b24 ?_;refine D.Rt 24 [] b24 V (Rd.l V V V) ?_;refine D.G 25 [] b24 ?_;refine D.k 26 (K8 p.Ax x18.1 _ g) call94 (λx25 g=>?_) (hw:=.take 20 true 55 _ b24 V V V);refine D.G 27 [] b24 ?_;refine D.kt 28 [] b24 ?_;refine D.dn ?_;exact St.wa (idR 2) (j20 _ g);refine D.S 21 [] b24 ?_;refine D.S 22 [] b24 ?_;refine D.S 23 [] b24 ?_;refine D.S 24 [] b24 ?_;refine D.S 25 [] b24 ?_;refine D.S 26 [] b24 ?_;refine D.S 27 [] b24 ?_;refine D.kf 28 [] b24 ?_;refine D.dn ?_;exact St.wa (idR 2) (j20 _ g);refine D.S 7 [] b22 ?_;refine D.S 8 [] b22 ?_;refine D.S 9 [] b22 ?_;refine D.S 10 [] b22 ?_;refine D.S 11 [] b22 ?_;refine D.S 12 [] b22 ?_;refine D.S 13 [] b22 ?_;refine D.S 14 [] b22 ?_;refine D.S 15 [] b22 ?_;refine D.S 16 [] b22 ?_;refine D.S 17 [] b22 ?_;refine D.S 18 [] b22 ?_;refine D.kf 19 [] b22 ?_;refine D.pq 1 [(20,[])] ?_;refine D.S 21 [] V ?_;refine D.S 22 [] V ?_;refine D.S 23 [] V ?_;refine D.S 24 [] V ?_;refine D.S 25 [] V ?_;refine D.S 26 [] V ?_;refine D.S 27 [] V ?_;refine D.kf 28 [] V ?_;refine D.dn ?_;exact St.wa (idR 2) (j20 _ g);refine D.S 2 [] b21 ?_;refine D.S 3 [] b21 ?_;refine D.S 4 [] b21 ?_;refine D.kf 5 [] b21 ?_;refine D.pq 1 [(6,[])] ?_;refine D.S 7 [] V ?_;refine D.S 8 [] V ?_;refine D.S 9 [] V ?_;refine D.S 10 [] V ?_;refine D.S 11 [] V ?_;refine D.S 12 [] V ?_;refine D.S 13 [] V ?_;refine D.S 14 [] V ?_;refine D.S 15 [] V ?_;refine D.S 16 [] V ?_;refine D.S 17 [] V ?_;refine D.S 18 [] V ?_;refine D.kf 19 [] V ?_;refine D.pq 1 [(20,[])] ?_;refine D.S 21 [] V ?_;refine D.S 22 [] V ?_;refine D.S 23 [] V ?_;refine D.S 24 [] V ?_;refine D.S 25 [] V ?_;refine D.S 26 [] V ?_;refine D.S 27 [] V ?_;refine D.kf 28 [] V ?_;refine D.dn ?_;exact St.wa (idR 2) (j20 _ g);exact C.xw (St.wa [some 1] (j8 _ g))
def GB:(Qq×Int×Int×Q0×List Int×Qb×List (Q0×Qb))->((List (Q0×Qb))->Prop)->Prop | (p,i,k,to_1,used,x_1,layer),post=>Tr prog 49 [.rp [.i p.s.A9.W,.i p.s.A9.H,.i p.s.A9.D,.sl 1 eI p.s.A9.Ac,.sl 1 eI p.s.A9.Ah,.sl 5 Q8 p.s.Au,.sl 2 Q3 p.s.A3,.sl 2 Q6 p.s.Al,.sl 2 Q4 p.s.Ak,.sl 2 Q9 p.Bj,.i p.Bh,.sl 1 eI p.Ax,.i p.B6],.o 0,.i i,.i k,.agg [.i to_1.e0.cell,.i to_1.e0.Ba,.b to_1.e0.B4,.i to_1.e1.cell,.i to_1.e1.Ba,.b to_1.e1.B4,.i to_1.e2.cell,.i to_1.e2.Ba,.b to_1.e2.B4,.i to_1.e3.cell,.i to_1.e3.Ba,.b to_1.e3.B4],.sl 1 eI used,.agg (KM x_1)] [(0,.val (.om Qn Kc layer))] 1 (λA H' k=>∃y,post y∧A=(.tup [])∧H'=[(0,.val (.om Qn Kc y))]∧k=1)
theorem GF(p:Qq)(i:Int)(k:Int)(to_1:Q0)(used:List Int)(x_1:Qb)(layer:List (Q0×Qb))(post:(List (Q0×Qb))->Prop)(h:GB (p,i,k,to_1,used,x_1,layer) post):Tr prog 49 [.rp (zV0 p),.o 0,.i i,.i k,.agg (zV1 to_1),.sl 1 eI used,.agg (KM x_1)] [(0,.val (.om Qn Kc layer))] 1 (λA H' k=>∃y,post y∧A=(.tup [])∧H'=[(0,.val (.om Qn Kc y))]∧k=1):=h
abbrev cE0(p:Qq)(i:Int):Nat×AVal:=(0,.rp [.i p.s.A9.W,.i p.s.A9.H,.i p.s.A9.D,.sl 1 eI p.s.A9.Ac,.sl 1 eI p.s.A9.Ah,.sl 5 Q8 p.s.Au,.sl 2 Q3 p.s.A3,.sl 2 Q6 p.s.Al,.sl 2 Q4 p.s.Ak,.sl 2 Q9 p.Bj,.i p.Bh,.sl 1 eI p.Ax,.i p.B6])
abbrev cE1(p:Qq):Nat×AVal:=(17,.fn (.func 102) [] [.p 2 0])
abbrev cE2(p:Qq):Nat×AVal:=(111,.fn (.func 102) [] [.p 2 0])
abbrev cE3(i:Int)(to_1:Q0):Nat×AVal:=(119,.agg [.i to_1.e0.cell,.i to_1.e0.Ba,.b to_1.e0.B4,.i to_1.e1.cell,.i to_1.e1.Ba,.b to_1.e1.B4,.i to_1.e2.cell,.i to_1.e2.Ba,.b to_1.e2.B4,.i to_1.e3.cell,.i to_1.e3.Ba,.b to_1.e3.B4])
abbrev cE4(x_1:Qb):Nat×AVal:=(120,.agg (KM x_1))
abbrev cE5(i:Int)(to_1:Q0):Nat×Res:=(1,.box [.i to_1.e0.cell,.i to_1.e0.Ba,.b to_1.e0.B4,.i to_1.e1.cell,.i to_1.e1.Ba,.b to_1.e1.B4,.i to_1.e2.cell,.i to_1.e2.Ba,.b to_1.e2.B4,.i to_1.e3.cell,.i to_1.e3.Ba,.b to_1.e3.B4])
abbrev cE6(used:List Int):Nat×Res:=(2,.box [.sl 1 eI used])
abbrev cE7(x_1:Qb):Nat×Res:=(3,.box (KM x_1))
abbrev cE8(i:Int)(to_1:Q0):Nat×AVal:=(76,.agg [.i to_1.e0.cell,.i to_1.e0.Ba,.b to_1.e0.B4,.i to_1.e1.cell,.i to_1.e1.Ba,.b to_1.e1.B4,.i to_1.e2.cell,.i to_1.e2.Ba,.b to_1.e2.B4,.i to_1.e3.cell,.i to_1.e3.Ba,.b to_1.e3.B4])
abbrev cE9(layer:List (Q0×Qb)):Nat×Res:=(0,.val (.om Qn Kc layer))
theorem ZZ p i k to_1 used x_1 layer post(g:Xx p i k to_1 used x_1 layer post):
  Tr prog 49 [.rp (zV0 p),.o 0,.i i,.i k,.agg (zV1 to_1),.sl 1 eI used,.agg (KM x_1)] [(0,.val (.om Qn Kc layer))] 1 (λA H' k=>∃y,post y∧A=(.tup [])∧H'=[(0,.val (.om Qn Kc y))]∧k=1):=by
 refine GF p i k to_1 used x_1 layer _ (g GB (λa post g=>?_));obtain⟨p,i,k,to_1,used,x_1,layer⟩:=a;replace g:Km GB p i k to_1 used x_1 layer post:=g
 let F8:Heap->Heap:=λr=>(0,.val (.om Qn Kc layer))::r
 show Tr prog 49 [.rp (zV0 p),.o 0,.i i,.i k,.agg (zV1 to_1),.sl 1 eI used,.agg (KM x_1)] (F8 []) 1 (λA H' k=>∃y,post y∧A=(.tup [])∧H'=[(0,.val (.om Qn Kc y))]∧k=1);refine Tr.go func49 ntmps49 λ_ _ _ _ o=>?_
 unfold Km at g;refine C.ss (U.bx ?_);refine U.bx ?_;refine U.bx ?_;refine U.done (C.xs (C.ss (U.pd 7 (C.nx ?_))));refine C.ite V g (λb5 g=>?_) λb5 g=>?_
 ·refine C.seq (C.ss (U.ps 2 V (U.R V (by exact Rd.lk2 (ke:=Qn) (ve:=Kc) (xs:=layer) (z0:=zC0) (x:=to_1) V V Q8x zt110 (λ_=>V) V (.o V) V V V) ?_)));refine U.ps 3 V (U.al ?_);refine U.st ?_;refine U.pd 1 (C.xs ?_);refine C.jn (λx8=>[(1,.o 0),(11,.p 1 0),(13,.p 2 0),(45,.b x8)]) (λx8=>F8 [(1,.box (zV1 to_1)),(2,.box (KM x_1))]) 3 g (λx8 g=>?_) λ_ g j9=>?_
  ·refine C.nx (C.jn (λx11=>[]) (λx11=>[(0,.val (.om Qn Kc x11))]) 1 g (λx11 g=>?_) λ_ g j12=>?_)
   ·exact C.nr (C.rt (C.fg [some 0] o ⟨x11,g,V,V,V⟩))
   ·refine C.ite V g (λb13 g=>?_) (λb13 g=>?_)
    ·refine U.start (U.ps 3 V (U.E V (by exact Eff1.mu (x:=to_1) (y:=x_1) (.inl V) V Q8x (λ_=>V) V V V V V (.inr (.inl ⟨_,V,V⟩)) V) ?_));exact U.done (St.wa [some 0] (j12 _ g))
    ·exact C.skip (St.wa [some 0] (j12 _ g))
  ·refine U.start (U.ps 3 V (g.cs (λb10 g=>?_) λb10 g=>?_))
   ·refine U.G 5 (ntF b10) ?_;refine U.pk' (ntF b10) ?_;exact U.done (St.wa [some 0,some 1,some 3] (j9 _ g))
   ·refine U.S 5 (ntT b10) ?_;refine U.pk (ntT b10) ?_;exact U.done (St.wa [some 0,some 1,some 3] (j9 _ g))
 ·refine C.skip (C.xt (U.ps 2 V ?_));obtain⟨x19,y19,g⟩:=g;refine U.R V (Rd.pi V V V V V V ⟨(Qk y19).1,(Qk y19).2.1⟩) ?_;refine U.R V (Rd.ljg (pre:=[.i x_1.Az]) (post:=[.i x_1.Aw.e0,.i x_1.Aw.e1,.i x_1.Aw.e2,.i x_1.Aw.e3]) (enc:=Qt) (xs:=([x_1.B5.e0,x_1.B5.e1,x_1.B5.e2,x_1.B5.e3]:List Q1)) (m:=3) (sub:=0) (j:=i) V V V V V (λ_=>V) y19 V V V V) ?_;refine U.al ?_;refine U.st ?_;refine U.done (C.xt (U.pd 2 (C.xs (C.seq ?_))))
  let E0:Env->Env:=λr=>(1,.o 0)::(2,.i i)::(3,.i k)::(11,.p 1 0)::(12,.p 2 0)::(13,.p 3 0)::(16,.p 4 0)::r
  let E8:Heap->Heap:=λr=>(1,.box (zV1 to_1))::(2,.box [.sl 1 eI used])::(3,.box (KM x_1))::r
  let F5:Env->Env:=λr=>(17,.fn (.func 102) [] [.p 2 0])::r
  let F9:Env->Env:=λr=>(0,.rp (zV0 p))::r
  let M4:Heap->Heap:=λr=>(4,.box (Qt x19))::r
  refine C.jn (λx22=>F9 (E0 (F5 [(75,.b x22)]))) (λx22=>F8 (E8 (M4 []))) 5 g (λx22 g=>?_) λ_ g j23=>?_
  ·refine C.nx (C.jn (λx29=>F9 (E0 (F5 []))) (λx29=>(0,.val (.om Qn Kc x29))::E8 (M4 [])) 5 g (λx29 g=>?_) λ_ g j30=>?_)
   ·refine C.xs (C.ss (U.pd 2 (C.nx ?_)));refine C.ite V g (λb49 g=>?_) λb49 g=>?_
    ·exact C.ret (C.rt (C.fg [some 0] o ⟨x29,g,V,V,V⟩))
    ·refine C.skip (C.xt (U.ps 3 V (U.k (Zj p x19 k _ g) call104 (λx52 g=>?_))));refine U.pd 2 (C.nx ?_);refine C.jn (λx53=>[]) (λx53=>[(0,.val (.om Qn Kc x53))]) 1 g (λx53 g=>?_) λ_ g j54=>?_
     ·exact C.fg [some 0] o ⟨x53,g,V,V,V⟩
     ·refine C.block (St.wk (C.loop (λs55=>F9 (E0 (F5 [(105,.o 5),(106,.i (x52.length:Int)),(107,.i s55.2)]))) (λs55=>(0,.val (.om Qn Kc s55.1))::E8 (M4 [(5,.val (.os 4 KA x52))])) g (λs55 _ g=>?_)) (Wk.a (idR 6)));refine C.ss (U.pd 1 (C.xs ?_));refine C.ite V g (λb59 g=>?_) λb59 g=>?_
      ·refine C.skip (C.xs (C.block (C.ss ?_)));obtain⟨x62,y62,g⟩:=g;refine U.R V (Rd.io V V V V V V V y62) ?_;refine U.R V (Rd.le V V V (Qk y62).2.2 V V V) ?_;refine U.al ?_;refine U.st ?_;refine U.done (C.xt (U.ps 6 V (U.bs eI ([x19.cell,x62.Bi.cell]:List Int) ?_)));refine U.k (We ([x19.cell,x62.Bi.cell]:List Int) used _ g) call102 λx65 g=>?_
       refine U.done (C.nx (C.jn (λx66=>F9 (E0 (F5 [(105,.o 5),(106,.i (x52.length:Int)),(107,.i s55.2)]))) (λx66=>(0,.val (.om Qn Kc x66))::E8 (M4 [(5,.val (.os 4 KA x52))])) 6 g (λx66 g=>?_) λ_ g j67=>?_))
       ·refine C.bnx (C.nx (U.start (U.pd 2 (C.nx ?_))));exact St.wa (idR 6) (C.next g)
       ·refine C.ite V g (λb68 g=>?_) (λb68 g=>?_)
        ·refine C.seq (D.bq mix 5 [1,3] [8,9] (λhQ hS ws M'=>?_));refine D.pq 2 (zl [0,1]) ?_
         let E1:Env->Env:=λr=>(105,.o 5)::(106,.i (x52.length:Int))::(107,.i s55.2)::(108,.b (decide (s55.2<(x52.length:Int))))::(109,.ep 5 4 (Int.toNat s55.2) 0)::(110,.agg (KA x62))::cE2 p::(112,.p 4 0)::(113,.i x19.cell)::(114,.p 6 1)::(115,.p 6 1)::(116,.i x62.Bi.cell)::(117,.o 7)::(118,.b x65)::cE3 i to_1::cE4 x_1::r
         let E9:Heap->Heap:=λr=>(0,.val (.om Qn Kc s55.1))::cE5 i to_1::cE6 used::cE7 x_1::(4,.box (Qt x19))::(5,.val (.os 4 KA x52))::(6,.box (KA x62))::(7,.val (.os 1 eI ([x19.cell,x62.Bi.cell]:List Int)))::r
         let M1:Env->Env:=λr=>cE1 p::(21,.p 6 0)::(22,.p 8 0)::r
         refine D.have false (cE0 p i::E0 (M1 ((23,.p 9 0)::E1 []))) (E9 [(8,.box zV18),(9,.box zV11)]) 10 2 (bvA 6 [4,5]) ?_ λhd70_3=>?_
         ·refine D.E 4 V (Eff1.st V V V V V V V V V V) ?_;refine D.Z V (Eff1.st V V V V V V V V V V) ?_;refine C.xs (D.bq mix 10 [6] [8] (λhQ hS ws M'=>?_));refine D.pq 6 (zl [0,1,2,3,4,5]) ?_;obtain⟨x74,y74,g⟩:=g;refine D.R 6 [] V (Rd.pi V V V V V V ⟨(Qk y74).1,(Qk y74).2.1⟩) ?_;refine D.pq 1 [(8,[9])] ?_;obtain⟨x75,y75,g⟩:=g;refine D.E 7 V (Eff1.sj (pre:=[]) (post:=[]) (enc:=Qt) (xs:=([to_1.e0,to_1.e1,to_1.e2,to_1.e3]:List Q1)) (ys:=([x75.e0,x75.e1,x75.e2,x75.e3]:List Q1)) (m:=3) (j:=i) (z:=x62.Bi) V V V V V (λ_=>V) y74 V V V V V V V y75 V) ?_;obtain⟨x77,y77,g⟩:=g;refine D.R 9 [] V (Rd.pi V V V V V V ⟨(Qk y77).1,(Qk y77).2.1⟩) ?_;obtain⟨x78,y78,g⟩:=g;refine D.Z V (Eff1.sj (pre:=(zV16 x_1)) (post:=[]) (enc:=eI) (xs:=([x_1.Aw.e0,x_1.Aw.e1,x_1.Aw.e2,x_1.Aw.e3]:List Int)) (ys:=([x78.e0,x78.e1,x78.e2,x78.e3]:List Int)) (m:=1) (j:=i) (z:=x62.Av) V V V V V (λ_=>V) y77 V V V V V V V y78 V) ?_;refine C.xt (U.ps 4 V (U.st ?_));refine U.done (C.nx (D.bq mix 16 [2,4,6,8,9] [10,11] (λhQ hS ws M'=>?_)));refine D.pq 13 [(0,[]),(1,[]),(2,[3]),(3,[]),(4,[]),(5,[]),(6,[14,7]),(8,[14,13,9]),(9,[14,13]),(10,[14,13,12,11]),(11,[14,13,12]),(12,[14,13]),(15,[])] ?_
          let E2:Heap->Heap:=λr=>(4,.box (Qt x19))::(5,.val (.os 4 KA x52))::(6,.box (KA x62))::(7,.val (.os 1 eI ([x19.cell,x62.Bi.cell]:List Int)))::(8,.box (zV1 x75))::(9,.box [.i (w64 (x_1.Az+1)),.i x_1.B5.e0.cell,.i x_1.B5.e0.Ba,.b x_1.B5.e0.B4,.i x_1.B5.e1.cell,.i x_1.B5.e1.Ba,.b x_1.B5.e1.B4,.i x_1.B5.e2.cell,.i x_1.B5.e2.Ba,.b x_1.B5.e2.B4,.i x_1.B5.e3.cell,.i x_1.B5.e3.Ba,.b x_1.B5.e3.B4,.i x78.e0,.i x78.e1,.i x78.e2,.i x78.e3])::r
          let E3:Env->Env:=λr=>(17,.fn (.func 102) [] [.p 2 0])::(21,.p 6 0)::(22,.p 8 0)::(23,.p 9 0)::(105,.o 5)::(106,.i (x52.length:Int))::(107,.i s55.2)::(108,.b (decide (s55.2<(x52.length:Int))))::(109,.ep 5 4 (Int.toNat s55.2) 0)::(110,.agg (KA x62))::(111,.fn (.func 102) [] [.p 2 0])::(112,.p 4 0)::(113,.i x19.cell)::(114,.p 6 1)::(115,.p 6 1)::(116,.i x62.Bi.cell)::(117,.o 7)::(118,.b x65)::(119,.agg (zV1 to_1))::(120,.agg (KM x_1))::(121,.i i)::(122,.i i)::(123,.p 6 1)::(124,.agg (Qt x62.Bi))::(125,.p 6 0)::(126,.i x62.Av)::(127,.p 8 (0+Int.toNat i*3))::(128,.p 9 13)::(129,.p 9 (13+Int.toNat i*1))::(130,.p 9 0)::(131,.i x_1.Az)::(132,.i (w64 (x_1.Az+1)))::(133,.p 9 0)::(134,.rp (zV0 p))::(135,.o 0)::(136,.i i)::(137,.i (w64 (i+1)))::(138,.i k)::(139,.agg (zV1 x75))::(140,.sl 1 eI used)::(141,.o 10)::(142,.p 4 0)::(143,.i x19.cell)::(144,.p 6 1)::(145,.p 6 1)::(146,.i x62.Bi.cell)::r
          let E6:Env->Env:=λr=>(149,.agg [.i (w64 (x_1.Az+1)),.i x_1.B5.e0.cell,.i x_1.B5.e0.Ba,.b x_1.B5.e0.B4,.i x_1.B5.e1.cell,.i x_1.B5.e1.Ba,.b x_1.B5.e1.B4,.i x_1.B5.e2.cell,.i x_1.B5.e2.Ba,.b x_1.B5.e2.B4,.i x_1.B5.e3.cell,.i x_1.B5.e3.Ba,.b x_1.B5.e3.B4,.i x78.e0,.i x78.e1,.i x78.e2,.i x78.e3])::r
          let M3:Heap->Heap:=λr=>(0,.val (.om Qn Kc s55.1))::r
          refine D.hav1 g false (λx83=>F9 (E0 (E3 ((147,.o 11)::E6 [])))) (λx83=>M3 (E8 (E2 [(10,.val (.os 1 eI x83)),(11,.val (.os 1 eI ([x19.cell,x62.Bi.cell]:List Int)))]))) 12 2 #[true,true,true,true,true,true,true,true,true,true,true,true,true,true,false,true,false] (λx83 g=>?_) λhd82_3=>?_
          ·obtain⟨y84,g⟩:=g;refine D.E 14 V (Eff1.ap V V V V V V (.inr ⟨_,V,V⟩) V V V (λ_=>V) V y84) ?_;refine D.ze V (.none V) (by exact Eff.c [some 0] (v:=true) (GF p (w64 (i+1)) k x75 (x83++([x19.cell,x62.Bi.cell]:List Int)) (⟨w64 (x_1.Az+1),x_1.B5,x78⟩:Qb) s55.1 _ g) call49 V V V (.cons (.eq V) (.cons (.eq V) (.cons (.eq V) (.cons (.eq V) (.cons (.eq V) (.cons (.fz V V V (.os λ_=>.cons (.ro V) .nil)) (.eq V))))))) ⟨vL,trivial⟩ V V V V V V (λ_ _=>⟨(.tup .nil),⟨.val (.om _ _ _ λ_=>(.v _)),trivial⟩⟩) (.inl V) (λ_=>V) (λ_=>V) V) (by kernel_rfl) (by kernel_rfl) (λx85' g=>?_);obtain⟨x85⟩:=x85';exact St.wa (idR 6) (j67 _ g)
          refine D.hav1 g false (λx83=>F9 (E0 (E3 (E6 [])))) (λx83=>M3 (E8 (E2 [(10,.val (.os 1 eI x83))]))) 11 3 #[true,true,true,true,true,true,true,true,true,true,true,true,true,false,false,true,false] (λx83 g=>?_) λhd82_1=>?_
          ·refine D.all 13 [] (by kernel_rfl) ⟨?_,trivial⟩
           ·refine D.bs eI ([x19.cell,x62.Bi.cell]:List Int) ?_;exact D.to [some 0,some 1,some 2,some 3,some 4,some 5,some 6,some 7,some 8,some 9,some 10,some 11] (hd82_3 x83 g) (by kernel_rfl) V V (.eqs V) ⟨vL,bX,bX,bX,bX,vL,bX,vL,bX,bX,vL,vL,trivial⟩ V V V
          refine D.have false (cE0 p i::E0 (M1 ((23,.p 9 0)::E1 ((121,.i i)::(122,.i i)::(123,.p 6 1)::(124,.agg (Qt x62.Bi))::(125,.p 6 0)::(126,.i x62.Av)::(127,.p 8 (0+Int.toNat i*3))::(128,.p 9 13)::(129,.p 9 (13+Int.toNat i*1))::(130,.p 9 0)::(131,.i x_1.Az)::(132,.i (w64 (x_1.Az+1)))::(133,.p 9 0)::(134,.rp (zV0 p))::(135,.o 0)::(136,.i i)::(137,.i (w64 (i+1)))::(138,.i k)::(139,.agg (zV1 x75))::(140,.sl 1 eI used)::(142,.p 4 0)::(143,.i x19.cell)::(144,.p 6 1)::(145,.p 6 1)::(146,.i x62.Bi.cell)::(147,.o 10)::E6 [])))) (M3 (cE5 i to_1::cE6 used::cE7 x_1::E2 [(10,.val (.os 1 eI ([x19.cell,x62.Bi.cell]:List Int)))])) 11 3 (bvA 17 [7,14,16]) ?_ λhd82_2=>?_
          ·refine D.all 7 [] (by kernel_rfl) ⟨?_,trivial⟩
           ·refine D.ef V (.none V) (by exact Eff.c [] (v:=true) (Ku used _ g) call79 V V V (.eq V) trivial V V V V V V (λ_ _=>⟨(.o _),⟨.val (.os _ _ _ λ_=>(.cons (.v _) .nil)),trivial⟩⟩) (.inr ⟨V,V⟩) (λ_=>V) (λ_=>V) V) V V (λx83' g=>?_);obtain⟨x83⟩:=x83';exact D.to [some 0,some 1,some 2,some 3,some 4,some 5,some 6,some 7,some 8,some 9,some 11,some 10] (hd82_3 x83 g) (by kernel_rfl) V V (.eqs V) ⟨vL,bX,bX,bX,bX,vL,bX,vL,bX,bX,vL,vL,trivial⟩ V V V
          refine D.all 7 [13] (by kernel_rfl) ⟨?_,?_,trivial⟩
          ·refine D.ef V (.none V) (by exact Eff.c [] (v:=true) (Ku used _ g) call79 V V V (.eq V) trivial V V V V V V (λ_ _=>⟨(.o _),⟨.val (.os _ _ _ λ_=>(.cons (.v _) .nil)),trivial⟩⟩) (.inr ⟨V,V⟩) (λ_=>V) (λ_=>V) V) V V (λx83' g=>?_);obtain⟨x83⟩:=x83';exact D.to [some 0,some 1,some 2,some 3,some 4,some 5,some 6,some 7,some 8,some 9,some 10] (hd82_1 x83 g) (by kernel_rfl) V V (.eqs V) ⟨vL,bX,bX,bX,bX,vL,bX,vL,bX,bX,vL,trivial⟩ V V V
          ·refine D.bs eI ([x19.cell,x62.Bi.cell]:List Int) ?_;exact D.tq [0,1,2,3,4,5,6,7,8,9,10] hd82_2
         refine D.have false (cE0 p i::E0 (M1 (E1 []))) (E9 [(8,.box zV18)]) 9 3 (bvA 6 [3,4,5]) ?_ λhd70_1=>?_
         ·refine D.all 3 [] (by kernel_rfl) ⟨?_,trivial⟩
          ·refine D.F V (Eff1.al V V V V) ?_;exact D.tq [0,1,2,3,4,5,6,7,8,9] hd70_3
         refine D.have false (cE0 p i::E0 (cE1 p::(21,.p 6 0)::(23,.p 8 0)::E1 [])) (E9 [(8,.box zV11)]) 9 3 (bvA 6 [2,4,5]) ?_ λhd70_2=>?_
         ·refine D.all 2 [] (by kernel_rfl) ⟨?_,trivial⟩
          ·refine D.F V (Eff1.al V V V V) ?_;exact D.tq [0,1,2,3,4,5,6,7,9,8] hd70_3
         refine D.all 2 [3] (by kernel_rfl) ⟨?_,?_,trivial⟩
         ·refine D.F V (Eff1.al V V V V) ?_;exact D.tq [0,1,2,3,4,5,6,7,8] hd70_1
         ·refine D.F V (Eff1.al V V V V) ?_;exact D.tq [0,1,2,3,4,5,6,7,8] hd70_2
        ·exact C.skip (St.wa (idR 6) (j67 _ g))
      ·exact C.xw (St.wa [some 0] (j54 _ g))
   ·refine C.ite V g (λb31 g=>?_) (λb31 g=>?_)
    ·refine C.seq (D.bq mix 5 [1,3] [5,6] (λhQ hS ws M'=>?_));refine D.pq 2 (zl [0,1]) ?_
     let F6:Heap->Heap:=λr=>cE9 layer::cE5 i to_1::cE6 used::cE7 x_1::(4,.box (Qt x19))::r
     let F7:Env->Env:=λr=>(18,.p 5 0)::(19,.p 6 0)::(75,.b x22)::r
     let M0:Env->Env:=λr=>cE8 i to_1::(77,.agg (KM x_1))::r
     refine D.have false (cE0 p i::E0 (cE1 p::F7 (M0 []))) (F6 [(5,.box zV18),(6,.box zV11)]) 7 2 (bvA 6 [4,5]) ?_ λhd33_3=>?_
     ·refine D.E 4 V (Eff1.st V V V V V V V V V V) ?_;refine D.Z V (Eff1.st V V V V V V V V V V) ?_;refine C.xt (U.ps 5 V ?_);obtain⟨x37,y37,g⟩:=g;refine U.R V (Rd.pi V V V V V V ⟨(Qk y37).1,(Qk y37).2.1⟩) ?_;obtain⟨x38,y38,g⟩:=g;refine U.E V (Eff1.sj (pre:=[]) (post:=[]) (enc:=Qt) (xs:=([to_1.e0,to_1.e1,to_1.e2,to_1.e3]:List Q1)) (ys:=([x38.e0,x38.e1,x38.e2,x38.e3]:List Q1)) (m:=3) (j:=i) (z:=(⟨x19.cell,0,true⟩:Q1)) V V V V V (λ_=>V) y37 V V V V V V V y38 V) ?_;refine U.ps 1 V ?_;obtain⟨x40,y40,g⟩:=g;refine U.R V (Rd.pi V V V V V V ⟨(Qk y40).1,(Qk y40).2.1⟩) ?_;obtain⟨x41,y41,g⟩:=g;refine U.E V (Eff1.sj (pre:=(zV16 x_1)) (post:=[]) (enc:=eI) (xs:=([x_1.Aw.e0,x_1.Aw.e1,x_1.Aw.e2,x_1.Aw.e3]:List Int)) (ys:=([x41.e0,x41.e1,x41.e2,x41.e3]:List Int)) (m:=1) (j:=i) (z:=(-1)) V V V V V (λ_=>V) y40 V V V V V V V y41 V) ?_;refine U.done (C.nx (D.bq mix 13 [2,4,5,6] [7,8] (λhQ hS ws M'=>?_)));refine D.pq 10 [(0,[]),(1,[]),(2,[3]),(3,[]),(4,[]),(5,[]),(6,[11,7]),(8,[11,10,9]),(9,[11,10]),(12,[])] ?_
      let E4:Heap->Heap:=λr=>(4,.box (Qt x19))::(5,.box (zV1 x38))::(6,.box [.i x_1.Az,.i x_1.B5.e0.cell,.i x_1.B5.e0.Ba,.b x_1.B5.e0.B4,.i x_1.B5.e1.cell,.i x_1.B5.e1.Ba,.b x_1.B5.e1.B4,.i x_1.B5.e2.cell,.i x_1.B5.e2.Ba,.b x_1.B5.e2.B4,.i x_1.B5.e3.cell,.i x_1.B5.e3.Ba,.b x_1.B5.e3.B4,.i x41.e0,.i x41.e1,.i x41.e2,.i x41.e3])::r
      let E5:Env->Env:=λr=>(77,.agg (KM x_1))::(78,.i i)::(79,.i i)::(80,.p 4 0)::(81,.i x19.cell)::(82,.agg [.i x19.cell,.i 0,.b true])::(83,.p 5 (0+Int.toNat i*3))::(84,.p 6 13)::(85,.p 6 (13+Int.toNat i*1))::(86,.rp (zV0 p))::(87,.o 0)::(88,.i i)::(89,.i (w64 (i+1)))::(90,.i k)::(91,.agg (zV1 x38))::(92,.sl 1 eI used)::r
      let E7:Env->Env:=λr=>(98,.agg [.i x_1.Az,.i x_1.B5.e0.cell,.i x_1.B5.e0.Ba,.b x_1.B5.e0.B4,.i x_1.B5.e1.cell,.i x_1.B5.e1.Ba,.b x_1.B5.e1.B4,.i x_1.B5.e2.cell,.i x_1.B5.e2.Ba,.b x_1.B5.e2.B4,.i x_1.B5.e3.cell,.i x_1.B5.e3.Ba,.b x_1.B5.e3.B4,.i x41.e0,.i x41.e1,.i x41.e2,.i x41.e3])::r
      let M2:Env->Env:=λr=>(94,.p 4 0)::(95,.i x19.cell)::r
      refine D.hav1 g false (λx44=>F9 (E0 (F5 (F7 ((76,.agg (zV1 to_1))::E5 ((93,.o 7)::M2 ((96,.o 8)::E7 []))))))) (λx44=>F8 (E8 (E4 [(7,.val (.os 1 eI x44)),(8,.val (.os 1 eI ([x19.cell]:List Int)))]))) 9 2 #[true,true,true,true,true,true,true,true,true,true,true,false,true,false] (λx44 g=>?_) λhd43_3=>?_
      ·obtain⟨y45,g⟩:=g;refine D.E 11 V (Eff1.ap V V V V V V (.inr ⟨_,V,V⟩) V V V (λ_=>V) V y45) ?_;refine D.ze V (.none V) (by exact Eff.c [some 0] (v:=true) (GF p (w64 (i+1)) k x38 (x44++([x19.cell]:List Int)) (⟨x_1.Az,x_1.B5,x41⟩:Qb) layer _ g) call49 V V V (.cons (.eq V) (.cons (.eq V) (.cons (.eq V) (.cons (.eq V) (.cons (.eq V) (.cons (.fz V V V (.os λ_=>.cons (.ro V) .nil)) (.eq V))))))) ⟨vL,trivial⟩ V V V V V V (λ_ _=>⟨(.tup .nil),⟨.val (.om _ _ _ λ_=>(.v _)),trivial⟩⟩) (.inl V) (λ_=>V) (λ_=>V) V) (by kernel_rfl) (by kernel_rfl) (λx46' g=>?_);obtain⟨x46⟩:=x46';exact St.wa (idR 5) (j30 _ g)
      refine D.hav1 g false (λx44=>F9 (E0 (F5 (F7 ((76,.agg (zV1 to_1))::E5 ((93,.o 7)::M2 (E7 []))))))) (λx44=>F8 (E8 (E4 [(7,.val (.os 1 eI x44))]))) 8 3 #[true,true,true,true,true,true,true,true,true,true,false,false,true,false] (λx44 g=>?_) λhd43_1=>?_
      ·refine D.all 10 [] (by kernel_rfl) ⟨?_,trivial⟩
       ·refine D.bs eI ([x19.cell]:List Int) ?_;exact D.to [some 0,some 1,some 2,some 3,some 4,some 5,some 6,some 7,some 8] (hd43_3 x44 g) (by kernel_rfl) V V (.eqs V) ⟨vL,bX,bX,bX,bX,bX,bX,vL,vL,trivial⟩ V V V
      refine D.have false (cE0 p i::E0 (cE1 p::F7 (cE8 i to_1::E5 (M2 ((96,.o 7)::E7 []))))) (cE9 layer::cE5 i to_1::cE6 used::cE7 x_1::E4 [(7,.val (.os 1 eI ([x19.cell]:List Int)))]) 8 3 (bvA 14 [7,11,13]) ?_ λhd43_2=>?_
      ·refine D.all 7 [] (by kernel_rfl) ⟨?_,trivial⟩
       ·refine D.ef V (.none V) (by exact Eff.c [] (v:=true) (Ku used _ g) call79 V V V (.eq V) trivial V V V V V V (λ_ _=>⟨(.o _),⟨.val (.os _ _ _ λ_=>(.cons (.v _) .nil)),trivial⟩⟩) (.inr ⟨V,V⟩) (λ_=>V) (λ_=>V) V) V V (λx44' g=>?_);obtain⟨x44⟩:=x44';exact D.to [some 0,some 1,some 2,some 3,some 4,some 5,some 6,some 8,some 7] (hd43_3 x44 g) (by kernel_rfl) V V (.eqs V) ⟨vL,bX,bX,bX,bX,bX,bX,vL,vL,trivial⟩ V V V
      refine D.all 7 [10] (by kernel_rfl) ⟨?_,?_,trivial⟩
      ·refine D.ef V (.none V) (by exact Eff.c [] (v:=true) (Ku used _ g) call79 V V V (.eq V) trivial V V V V V V (λ_ _=>⟨(.o _),⟨.val (.os _ _ _ λ_=>(.cons (.v _) .nil)),trivial⟩⟩) (.inr ⟨V,V⟩) (λ_=>V) (λ_=>V) V) V V (λx44' g=>?_);obtain⟨x44⟩:=x44';exact D.to [some 0,some 1,some 2,some 3,some 4,some 5,some 6,some 7] (hd43_1 x44 g) (by kernel_rfl) V V (.eqs V) ⟨vL,bX,bX,bX,bX,bX,bX,vL,trivial⟩ V V V
      ·refine D.bs eI ([x19.cell]:List Int) ?_;exact D.tq [0,1,2,3,4,5,6,7] hd43_2
     refine D.have false (cE0 p i::E0 (cE1 p::(18,.p 5 0)::(75,.b x22)::M0 [])) (F6 [(5,.box zV18)]) 6 3 (bvA 6 [3,4,5]) ?_ λhd33_1=>?_
     ·refine D.all 3 [] (by kernel_rfl) ⟨?_,trivial⟩
      ·refine D.F V (Eff1.al V V V V) ?_;exact D.tq [0,1,2,3,4,5,6] hd33_3
     refine D.have false (cE0 p i::E0 (cE1 p::(19,.p 5 0)::(75,.b x22)::M0 [])) (F6 [(5,.box zV11)]) 6 3 (bvA 6 [2,4,5]) ?_ λhd33_2=>?_
     ·refine D.all 2 [] (by kernel_rfl) ⟨?_,trivial⟩
      ·refine D.F V (Eff1.al V V V V) ?_;exact D.tq [0,1,2,3,4,6,5] hd33_3
     refine D.all 2 [3] (by kernel_rfl) ⟨?_,?_,trivial⟩
     ·refine D.F V (Eff1.al V V V V) ?_;exact D.tq [0,1,2,3,4,5] hd33_1
     ·refine D.F V (Eff1.al V V V V) ?_;exact D.tq [0,1,2,3,4,5] hd33_2
    ·exact C.skip (St.wa (idR 5) (j30 _ g))
  ·refine D.bq mix 9999 [4] [] (λhQ hS ws M'=>?_);refine D.pq 3 (zl [0,1,2]) ?_;refine g.cs (λb24 g=>?_) λb24 g=>?_
   ·refine D.S 3 [] b24 ?_;refine D.S 4 [] b24 ?_;refine D.S 5 [] b24 ?_;refine D.S 6 [] b24 ?_;refine D.S 7 [] b24 ?_;refine D.S 8 [] b24 ?_;refine D.S 9 [] b24 ?_;refine D.S 10 [] b24 ?_;refine D.S 11 [] b24 ?_;refine D.S 12 [] b24 ?_;refine D.S 13 [] b24 ?_;refine D.kt 14 [] b24 ?_;refine D.pq 1 [(15,[])] ?_;refine D.G 16 [] V ?_;refine D.G 17 [] V ?_;refine D.Rt 18 [] V V (Rd.l V V V) ?_;refine D.e1 19 V (.t V) (Eff1.bs (enc:=eI) (xs:=([x19.cell]:List Int)) V V V V V V V V V V (λ_ _=>V) V V) (by kernel_rfl) V V ?_;refine D.k 20 (We ([x19.cell]:List Int) used _ g) call102 (λx25 g=>?_) (hw:=.take 15 true 69 _ V V V V);refine D.kt 21 [] V ?_;refine D.dn ?_;exact St.wa (idR 5) (j23 _ g)
   ·refine D.G 3 [] b24 ?_;refine D.Rt 4 [] b24 V (Rd.l V V V) ?_;refine D.G 5 [] b24 ?_;refine D.G 6 [] b24 ?_;refine D.G 7 [] b24 ?_;refine D.Rt 8 [] b24 V (Rd.l V V V) ?_;refine D.G 9 [] b24 ?_;obtain⟨x26,y26,g⟩:=g;refine D.Rt 10 [] b24 V (Rd.ix V V V V V V y26) ?_;refine D.G 11 [] b24 ?_;refine D.Rt 12 [] b24 V (Rd.l V V V) ?_;refine D.G 13 [] b24 ?_;refine D.kf 14 [] b24 ?_;refine D.pq 1 [(15,[])] ?_;refine g.cs (λb27 g=>?_) λb27 g=>?_
    ·refine D.G 16 [] b27 ?_;refine D.G 17 [] b27 ?_;refine D.Rt 18 [] b27 V (Rd.l V V V) ?_;refine D.e1 19 V (.t b27) (Eff1.bs (enc:=eI) (xs:=([x19.cell]:List Int)) V V V V V V V V V V (λ_ _=>V) V V) (by kernel_rfl) V V ?_;refine D.k 20 (We ([x19.cell]:List Int) used _ g) call102 (λx28 g=>?_) (hw:=.take 15 true 69 _ b27 V V V);refine D.kt 21 [] b27 ?_;refine D.dn ?_;exact St.wa (idR 5) (j23 _ g)
    ·refine D.S 16 [] b27 ?_;refine D.S 17 [] b27 ?_;refine D.S 18 [] b27 ?_;refine D.S 19 [] b27 ?_;refine D.S 20 [] b27 ?_;refine D.kf 21 [] b27 ?_;refine D.dn ?_;exact St.wa (idR 5) (j23 _ g)
theorem Wh s_1 post(g:Ks s_1 post):
  Tr prog 50 [.o 0] [(0,.val (.os 1 eI s_1))] 1 (λA H' k=>∃y,post y∧A=(.tup [])∧H'=[(0,.val (.os 1 eI y))]∧k=1):=by
 refine Tr.go func50 ntmps50 λ_ _ _ _ o=>?_
 unfold Ks at g;refine C.ss (U.pd 5 (C.nx ?_));refine C.jn (λx3=>[]) (λx3=>[(0,.val (.os 1 eI x3))]) 1 g (λx3 g=>?_) λ_ g j4=>?_
 exact C.fg [some 0] o ⟨x3,g,V,V,V⟩;refine C.block (St.wk (C.loop (λs5=>[(0,.o 0),(2,.i s5.2.1),(3,.i s5.2.2)]) (λs5=>[(0,.val (.os 1 eI s5.1))]) g (λs5 _ g=>?_)) (Wk.a [some 0]));refine C.seq (C.ss (U.pd 3 (C.nx ?_)));refine C.ite V g (λb9 g=>?_) λb9 g=>?_
 refine C.skip (C.xs (C.block (D.bq mix 15 [] [0] (λhQ hS ws M'=>?_))));refine D.pq 6 (zl [0,1,2,3,4,5]) ?_;obtain⟨x12,y12,g⟩:=g;refine D.R 6 [] V (Rd.io V V V V V V V y12) ?_;refine D.pq 2 (zl [8,9]) ?_;obtain⟨x13,y13,g⟩:=g;refine D.R 10 [] V (Rd.io V V V V V V V y13) ?_
 let E0:Env->Env:=λr=>(0,.o 0)::(2,.i s5.2.1)::(3,.i s5.2.2)::(7,.i s5.2.1)::(8,.i s5.2.2)::(9,.b (decide (s5.2.1<s5.2.2)))::(14,.o 0)::(15,.i s5.2.1)::(16,.o 0)::(17,.i s5.2.2)::(18,.o 0)::(19,.i s5.2.2)::(20,.ep 0 1 (Int.toNat s5.2.2) 0)::r
 let E1:Env->Env:=λr=>(22,.o 0)::(23,.i s5.2.1)::(24,.ep 0 1 (Int.toNat s5.2.1) 0)::r
 let E2:Heap->Heap:=λr=>(0,.val (.os 1 eI s5.1))::r
 refine D.have false (E0 ((21,.i x12)::E1 [(25,.i x13),(26,.ep 0 1 (Int.toNat s5.2.1) 0)])) (E2 []) 1 3 #[true,true,true,true,true,true,true,true,true,true,true,true,true,false,false,false] ?_ λhd13_3=>?_
 refine D.E 13 V (Eff1.se (z':=x12) V V V (Qk y13).2.2 V V V V V V V V (λ_=>V) V) ?_;obtain⟨x14,y14,g⟩:=g;refine D.R 14 [] V (Rd.io V V V V V V V y14) ?_;refine D.Z V (Eff1.se (z':=x13) V V V (Qk y14).2.2 V V V V V V V V (λ_=>V) V) ?_;refine C.bnx (C.nx (U.start (U.pd 6 (C.nx ?_))));exact St.wa [some 0] (C.next g);refine D.have false (E0 ((21,.i x12)::E1 [])) (E2 []) 1 5 #[true,true,true,true,true,true,true,true,true,true,true,false,false,false,false,false] ?_ λhd13_1=>?_
 refine D.all 11 [] (by kernel_rfl) ⟨?_,trivial⟩;refine D.F V (Eff1.rd V V (Rd.le V V V (Qk y13).2.2 V V V)) ?_;refine D.R 12 [] V (Rd.io V V V V V V V y13) ?_;exact D.tq [0] hd13_3;refine D.have false (E0 (E1 [(25,.i x13)])) (E2 []) 1 5 #[true,true,true,true,true,true,true,false,true,true,true,true,false,false,false,false] ?_ λhd13_2=>?_
 refine D.all 7 [] (by kernel_rfl) ⟨?_,trivial⟩;refine D.F V (Eff1.rd V V (Rd.le V V V (Qk y12).2.2 V V V)) ?_;refine D.R 12 [] V (Rd.io V V V V V V V y13) ?_;exact D.tq [0] hd13_3;refine D.all 7 [11] (by kernel_rfl) ⟨?_,?_,trivial⟩;refine D.F V (Eff1.rd V V (Rd.le V V V (Qk y12).2.2 V V V)) ?_;exact D.tq [0] hd13_1;refine D.F V (Eff1.rd V V (Rd.le V V V (Qk y13).2.2 V V V)) ?_;exact D.tq [0] hd13_2;exact C.xw (St.wa [some 0] (j4 _ g))
theorem Q1A p post(g:XY p post):
  Tr prog 21 (zV9 p) [] 0 (λA H' k=>∃y,post y∧A=(.tup [.o 0,.i y.2])∧H'=[(0,.val (.os 1 eOeI y.1))]∧k=1):=by
 refine Tr.go func21 ntmps21 λ_ _ _ _ o=>?_
 unfold XY at g;refine C.ss (U.pd 2 (C.xt ?_));refine U.al ?_;refine U.done (C.xs (C.ss (U.pd 6 (C.nx ?_))));refine C.jn (λx7=>[(0,.rp (zV0 p)),(4,.p 0 0)]) (λx7=>[(0,.box (zV1 x7))]) 1 g (λx7 g=>?_) λ_ g j8=>?_
 refine C.xt (U.E V (Eff1.mm Qn Kc V V V) ?_);refine U.ps 2 V (U.E V (by exact Eff1.mu (x:=x7) (y:=zC0) (.inr V) V Q8x (λ_=>V) V V V V V (.inr (.inl ⟨_,V,V⟩)) V) ?_);refine U.ps 1 V (U.E V (Eff1.bsl (enc:=Qx) (upd ([]:List (Q0×Qb)) x7 zC0) V V V V V V V V V) ?_);refine U.pd 1 ?_;refine St.putb (l:=2) (l':=1) (y:=(upd ([]:List (Q0×Qb)) x7 zC0)) V V V (λ_ h=>nomatch h) V _ V (C.xt (U.ps 1 V (U.al ?_)));refine U.st ?_;refine U.pd 1 (C.xt ?_);refine U.pd 1 (C.xs (C.ss ?_));refine U.pd 1 (C.nx ?_)
 let E0:Env->Env:=λr=>(0,.rp (zV0 p))::(7,.o 0)::(8,.p 1 0)::r
 refine C.jn (λx32=>E0 [(9,.i x32.2.2.1),(10,.i x32.2.2.2)]) (λx32=>[(0,.val (.os 1 Qx x32.1)),(1,.box (zV14 x32))]) 2 g (λx32 g=>?_) λ_ g j33=>?_
 refine C.xs (C.ss (U.pd 2 (C.nx ?_)));refine C.ite V g (λb87 g=>?_) λb87 g=>?_
 refine C.ss (U.pd 2 (C.nr (C.rt ?_)));exact C.fg [none] o ⟨([],14),g,V,V,V⟩;refine C.skip (C.xt (U.ps 5 V ?_));obtain⟨y92,g⟩:=g;refine U.E V (Eff1.re (A':=.os 1 eOeI (List.replicate (Int.toNat (p.Bj.length:Int)) [])) (Eff1.mk (enc:=λ_:Unit=>[vN]) (z0:=()) V V V V V V V V V V y92) (λ_ _ _ _ _ h=>(NlR.rep (.cons (.os _ _) .nil) _).on h)) ?_;refine U.pd 1 (C.xs ?_);refine C.jn (λx93=>[(16,.o 0)]) (λx93=>[(0,.val (.os 1 eOeI x93))]) 1 g (λx93 g=>?_) λ_ g j94=>?_
 refine C.xs (C.ss (U.pd 3 (C.nx ?_)));refine C.jn (λx136=>[(16,.o 0)]) (λx136=>[(0,.val (.os 1 eOeI x136))]) 1 g (λx136 g=>?_) λ_ g j137=>?_
 refine C.xt (U.pd 3 (C.nx (C.ret ?_)));exact C.fg [some 0] o ⟨(x136,0),g,V,V,V⟩;refine C.block (St.wk (C.loop (λs138=>[(16,.o 0),(150,.o 0),(151,.i (x93.length:Int)),(152,.i s138.2)]) (λs138=>[(0,.val (.os 1 eOeI s138.1))]) g (λs138 _ g=>?_)) (Wk.a [some 0]));refine C.ss (U.pd 1 (C.xs ?_));refine C.ite V g (λb142 g=>?_) λb142 g=>?_
 refine C.skip (C.xs (C.block (C.ss ?_)));obtain⟨x145,y145,g⟩:=g;refine U.R V (Rd.io V V V V V V V y145) ?_;refine St.lend (l:=0) (i:=(Int.toNat s138.2)) V (Qk y145).2.2 V (λ_=>V) (U.R V (Rd.ll V V V (.head _) V V V V) ?_);refine U.pd 1 (C.nx (U.start ?_));refine U.ps 1 V (U.c [some 1] (Wh x145 _ g) call50 (λx148 g=>?_));refine U.done (St.putb (l:=0) (l':=1) (y:=x148) V V V (λ_ h=>nomatch h) V _ V (C.bnx (C.nx (U.start (U.pd 2 (C.nx ?_))))));exact St.wa [some 0] (C.next g);exact C.xw (St.wa [some 0] (j137 _ g));refine C.block (St.wk (C.loop (λs95=>[(7,.o 0),(8,.p 1 0),(10,.i s95.2.2.1),(16,.o 2)]) (λs95=>[(0,.val (.os 1 Qx s95.1)),(1,.box (zV7 s95)),(2,.val (.os 1 eOeI s95.2.2.2))]) g (λs95 _ g=>?_)) (Wk.a (idR 3)));refine C.seq (C.ss (U.pd 2 (C.nx ?_)));refine C.ite V g (λb99 g=>?_) λb99 g=>?_
 let E2:Env->Env:=λr=>(7,.o 0)::(8,.p 1 0)::(10,.i s95.2.2.1)::(16,.o 2)::r
 refine C.skip (C.xs (C.jn (λx100=>E2 []) (λx100=>[(0,.val (.os 1 Qx x100.1)),(1,.box [.i x100.2.1.e0.cell,.i x100.2.1.e0.Ba,.b x100.2.1.e0.B4,.i x100.2.1.e1.cell,.i x100.2.1.e1.Ba,.b x100.2.1.e1.B4,.i x100.2.1.e2.cell,.i x100.2.1.e2.Ba,.b x100.2.1.e2.B4,.i x100.2.1.e3.cell,.i x100.2.1.e3.Ba,.b x100.2.1.e3.B4]),(2,.val (.os 1 eOeI x100.2.2))]) 3 g (λx100 g=>?_) λ_ g j101=>?_));refine C.nx (U.start (U.pd 3 (C.nx ?_)));exact St.wa (idR 3) (C.next g);refine C.block (C.seq ?_);obtain⟨x104,y104,g⟩:=g;refine St.lend (l:=0) (i:=(Int.toNat s95.2.2.1)) V (Qk y104).2.2 V (λ_=>V) (D.bq mix 7 [0,1,3] [] (λhQ hS ws M'=>?_));refine D.pq 2 (zl [0,1]) ?_;refine D.R 2 [] V (Rd.il V V V V V V V y104) ?_;refine D.R 3 [] V (Rd.ll V V V (.head _) V V V V) ?_;refine D.pq 1 [(4,[])] ?_;refine D.R 5 [] V (by exact Rd.lk (ke:=Qn) (ve:=Kc) (xs:=x104) (z0:=zC0) (x:=s95.2.1) V V Q8x zt110 (λ_=>V) V (.o V) V V V) ?_;refine D.E 6 V (Eff1.al V V V V) ?_;refine D.Z V (Eff1.st V V V V V V V V V V) ?_;refine St.putb (l:=0) (l':=3) (y:=x104) V V V (λ_ h=>nomatch h) V _ V (C.xs (C.ss (U.pd 3 (C.nx ?_))))
 let E1:Heap->Heap:=λr=>(0,.val (.os 1 Qx (s95.1.set (Int.toNat s95.2.2.1) x104)))::(1,.box (zV7 s95))::r
 let E6:Heap->Heap:=λr=>(3,.box (KM ((lk x104 s95.2.1).getD zC0)))::r
 refine C.jn (λx107=>E2 [(17,.p 3 0)]) (λx107=>E1 ((2,.val (.os 1 eOeI x107))::E6 [])) 4 g (λx107 g=>?_) λ_ g j108=>?_
 refine C.nx (U.start (U.ps 2 V (U.st ?_)));exact U.done (C.bnx (St.wa (idR 3) (j101 _ g)))
 let E8:Env->Env:=λr=>(17,.p 3 0)::(125,.i (s95.2.2.2.length:Int))::r
 refine C.block (St.wk (C.loop (λs109=>E2 (E8 [(126,.i s109.2)])) (λs109=>E1 ((2,.val (.os 1 eOeI s109.1))::E6 [])) g (λs109 _ g=>?_)) (Wk.a [some 0,some 1,some 2,some 4]));refine C.ss (U.pd 1 (C.xs ?_));refine C.ite V g (λb113 g=>?_) λb113 g=>?_
 refine C.skip (C.xs (C.block (C.ss (U.pd 2 (C.xt ?_)))));refine U.ps 2 V ?_;obtain⟨x119,y119,g⟩:=g;refine U.R V (Rd.pi V V V V V V ⟨(Qk y119).1,(Qk y119).2.1⟩) ?_;refine U.r V (.none V) V V (Rd.lj (pre:=[.i (((lk x104 s95.2.1).getD zC0).Az),.i (((lk x104 s95.2.1).getD zC0).B5.e0.cell),.i (((lk x104 s95.2.1).getD zC0).B5.e0.Ba),.b (((lk x104 s95.2.1).getD zC0).B5.e0.B4),.i (((lk x104 s95.2.1).getD zC0).B5.e1.cell),.i (((lk x104 s95.2.1).getD zC0).B5.e1.Ba),.b (((lk x104 s95.2.1).getD zC0).B5.e1.B4),.i (((lk x104 s95.2.1).getD zC0).B5.e2.cell),.i (((lk x104 s95.2.1).getD zC0).B5.e2.Ba),.b (((lk x104 s95.2.1).getD zC0).B5.e2.B4),.i (((lk x104 s95.2.1).getD zC0).B5.e3.cell),.i (((lk x104 s95.2.1).getD zC0).B5.e3.Ba),.b (((lk x104 s95.2.1).getD zC0).B5.e3.B4)]) (post:=[]) (enc:=eI) (xs:=([((lk x104 s95.2.1).getD zC0).Aw.e0,((lk x104 s95.2.1).getD zC0).Aw.e1,((lk x104 s95.2.1).getD zC0).Aw.e2,((lk x104 s95.2.1).getD zC0).Aw.e3]:List Int)) (m:=1) (sub:=0) (j:=s109.2) V V V V V (λ_=>V) y119 V V V) (U.pd 1 (C.nx ?_));refine C.jn (λx120=>E2 (E8 [(126,.i s109.2)])) (λx120=>E1 ((2,.val (.os 1 eOeI x120))::E6 [])) 4 g (λx120 g=>?_) λ_ g j121=>?_
 refine C.bnx (C.nx (U.start (U.pd 2 (C.nx ?_))));exact St.wa (idR 4) (C.next g);refine C.ite V g (λb122 g=>?_) λb122 g=>?_
 obtain⟨x125,y125,g⟩:=g;refine St.lend (l:=2) (i:=(Int.toNat s109.2)) V (Qk y125).2.2 V (λ_=>V) (D.bq mix 13 [2,3] [4] (λhQ hS ws M'=>?_));refine D.pq 4 (zl [0,1,2,3]) ?_;refine D.R 4 [] V (Rd.il V V V V V V V y125) ?_;refine D.R 5 [] V (Rd.ll V V V (.head _) V V V V) ?_;refine D.pq 2 (zl [6,7]) ?_;refine D.R 8 [] V (Rd.pi V V V V V V ⟨(Qk y119).1,(Qk y119).2.1⟩) ?_;refine D.q 9 [] hQ hS V (.none V) V V (Rd.lj (pre:=[.i (((lk x104 s95.2.1).getD zC0).Az),.i (((lk x104 s95.2.1).getD zC0).B5.e0.cell),.i (((lk x104 s95.2.1).getD zC0).B5.e0.Ba),.b (((lk x104 s95.2.1).getD zC0).B5.e0.B4),.i (((lk x104 s95.2.1).getD zC0).B5.e1.cell),.i (((lk x104 s95.2.1).getD zC0).B5.e1.Ba),.b (((lk x104 s95.2.1).getD zC0).B5.e1.B4),.i (((lk x104 s95.2.1).getD zC0).B5.e2.cell),.i (((lk x104 s95.2.1).getD zC0).B5.e2.Ba),.b (((lk x104 s95.2.1).getD zC0).B5.e2.B4),.i (((lk x104 s95.2.1).getD zC0).B5.e3.cell),.i (((lk x104 s95.2.1).getD zC0).B5.e3.Ba),.b (((lk x104 s95.2.1).getD zC0).B5.e3.B4)]) (post:=[]) (enc:=eI) (xs:=([((lk x104 s95.2.1).getD zC0).Aw.e0,((lk x104 s95.2.1).getD zC0).Aw.e1,((lk x104 s95.2.1).getD zC0).Aw.e2,((lk x104 s95.2.1).getD zC0).Aw.e3]:List Int)) (m:=1) (sub:=0) (j:=s109.2) V V V V V (λ_=>V) y119 V V V) V (by kernel_rfl) ?_;refine D.E 10 V (Eff1.bs (enc:=eI) (xs:=([x119]:List Int)) V V V V V V V V V V (λ_ _=>V) V V) ?_;obtain⟨y127,g⟩:=g;refine D.E 11 V (Eff1.ap V V V V V V (.inr ⟨_,V,V⟩) V V V (λ_=>V) V y127) ?_;refine D.R 12 [] V (Rd.il V V V V V V V y125) ?_;refine D.Z V (Eff1.sl V V V (λ_ h=>nomatch h) V V V V) ?_;exact St.putb (l:=2) (l':=6) (y:=(x125++([x119]:List Int))) V V V (λ_ h=>nomatch h) V _ V (St.wa (idR 4) (j121 _ g));exact C.skip (St.wa (idR 4) (j121 _ g));exact C.xw (St.wa (idR 4) (j108 _ g));exact C.xw (St.wa [some 2] (j94 _ g));refine C.block (St.wk (C.loop (λs34=>E0 [(9,.i s34.2.2.1),(10,.i s34.2.2.2.1),(11,.i s34.2.2.2.2)]) (λs34=>[(0,.val (.os 1 Qx s34.1)),(1,.box [.i s34.2.1.e0.cell,.i s34.2.1.e0.Ba,.b s34.2.1.e0.B4,.i s34.2.1.e1.cell,.i s34.2.1.e1.Ba,.b s34.2.1.e1.B4,.i s34.2.1.e2.cell,.i s34.2.1.e2.Ba,.b s34.2.1.e2.B4,.i s34.2.1.e3.cell,.i s34.2.1.e3.Ba,.b s34.2.1.e3.B4])]) g (λs34 _ g=>?_)) (Wk.a (sqR 2 2)));refine C.seq (C.ss (U.pd 6 (C.nx ?_)));refine C.ite V g (λb38 g=>?_) λb38 g=>?_
 refine C.skip (C.xs (C.jn (λx39=>E0 [(9,.i x39.2.2.1),(10,.i x39.2.2.2),(11,.i s34.2.2.2.2)]) (λx39=>[(0,.val (.os 1 Qx x39.1)),(1,.box (zV14 x39))]) 2 g (λx39 g=>?_) λ_ g j40=>?_));refine C.nx (U.start (U.pd 3 (C.nx ?_)));exact St.wa (idR 2) (C.next g);refine C.block (C.ss (U.E V (Eff1.mm Qn Kc V V V) ?_));refine U.pd 1 (C.xs (C.ss ?_));refine U.ps 2 V ?_;obtain⟨x45,y45,g⟩:=g;refine U.R V (Rd.io V V V V V V V y45) ?_;refine St.lend (l:=0) (i:=(Int.toNat s34.2.2.2.2)) V (Qk y45).2.2 V (λ_=>V) (U.R V (Rd.ll V V V (.head _) V V V V) ?_);refine U.k (Q5F x45 _ g) call47 λx46 g=>?_
 refine U.pd 2 ?_;refine St.putb (l:=0) (l':=3) (y:=x45) V V V (λ_ h=>nomatch h) V _ V (C.nx (C.jn (λx47=>E0 [(9,.i x47.2.2.1),(10,.i x47.2.2.2.1),(11,.i s34.2.2.2.2),(12,.o 2)]) (λx47=>[(0,.val (.os 1 Qx x47.1)),(1,.box [.i x47.2.1.e0.cell,.i x47.2.1.e0.Ba,.b x47.2.1.e0.B4,.i x47.2.1.e1.cell,.i x47.2.1.e1.Ba,.b x47.2.1.e1.B4,.i x47.2.1.e2.cell,.i x47.2.1.e2.Ba,.b x47.2.1.e2.B4,.i x47.2.1.e3.cell,.i x47.2.1.e3.Ba,.b x47.2.1.e3.B4]),(2,.val (.om Qn Kc x47.2.2.2.2))]) 3 g (λx47 g=>?_) λ_ g j48=>?_));refine C.nx (U.start (U.ps 2 V (U.E V (Eff1.bsl (enc:=Qx) x47.2.2.2.2 V V V V V V V V V) ?_)));obtain⟨y82,g⟩:=g;refine U.E V (Eff1.apl V V V V V V V (λ_=>V) V V V V ⟨_,V,V⟩ y82) ?_;refine U.pd 1 ?_;exact St.putb (l:=4) (l':=2) (y:=x47.2.2.2.2) V V V (λ_ h=>nomatch h) V _ V (C.bnx (St.wa [some 4,some 1] (j40 _ g)))
 let E7:Env->Env:=λr=>(11,.i s34.2.2.2.2)::(12,.o 2)::(56,.o 3)::(57,.i (x46.length:Int))::r
 refine C.block (St.wk (C.loop (λs49=>E0 ((9,.i s49.2.2.1)::(10,.i s49.2.2.2.1)::E7 [(58,.i s49.2.2.2.2.2)])) (λs49=>[(0,.val (.os 1 Qx s49.1)),(1,.box (zV15 s49)),(2,.val (.om Qn Kc s49.2.2.2.2.1)),(3,.val (.os 12 Xi x46))]) g (λs49 _ g=>?_)) (Wk.a [some 0,some 1,some 2,some 4]));refine C.ss (U.pd 1 (C.xs ?_));refine C.ite V g (λb53 g=>?_) λb53 g=>?_
 refine C.skip (C.xs (C.block (C.ss ?_)));obtain⟨x56,y56,g⟩:=g;refine U.R V (Rd.io V V V V V V V y56) ?_;refine U.R V (Rd.le V V V (Qk y56).2.2 V V V) ?_;refine U.al ?_;refine U.st ?_;refine U.done (C.xs ?_);obtain⟨x59,y59,g⟩:=g;refine St.lend (l:=0) (i:=(Int.toNat s34.2.2.2.2)) V (Qk y59).2.2 V (λ_=>V) (D.bq mix 7 [0,4,5] [] (λhQ hS ws M'=>?_));refine D.pq 2 (zl [0,1]) ?_;refine D.R 2 [] V (Rd.il V V V V V V V y59) ?_;refine D.R 3 [] V (Rd.ll V V V (.head _) V V V V) ?_;refine D.pq 1 [(4,[])] ?_;refine D.R 5 [] V (by exact Rd.lk (ke:=Qn) (ve:=Kc) (xs:=x59) (z0:=zC0) (x:=x56) V V Q8x zt110 (λ_=>V) V (.o V) V V V) ?_;refine D.E 6 V (Eff1.al V V V V) ?_;refine D.Z V (Eff1.st V V V V V V V V V V) ?_
 let E3:Heap->Heap:=λr=>(0,.val (.os 1 Qx (s49.1.set (Int.toNat s34.2.2.2.2) x59)))::r
 let E4:Heap->Heap:=λr=>(2,.val (.om Qn Kc s49.2.2.2.2.1))::(3,.box (zV1 x56))::(4,.box (KM ((lk x59 x56).getD zC0)))::(5,.val (.os 12 Xi x46))::r
 let E5:Env->Env:=λr=>(11,.i s34.2.2.2.2)::(12,.o 2)::(14,.p 3 0)::(15,.p 4 0)::(56,.o 5)::(57,.i (x46.length:Int))::(58,.i s49.2.2.2.2.2)::r
 refine St.putb (l:=0) (l':=5) (y:=x59) V V V (λ_ h=>nomatch h) V _ V (C.xs (C.seq (C.jn (λx60=>E0 ((9,.i s49.2.2.1)::(10,.i s49.2.2.2.1)::E5 [(80,.b x60)])) (λx60=>E3 ((1,.box (zV15 s49))::E4 [])) 6 g (λx60 g=>?_) λ_ g j61=>?_)));refine C.nx (C.jn (λx65=>E0 ((9,.i x65.2.1)::(10,.i x65.2.2)::E5 [])) (λx65=>E3 ((1,.box (zV17 x65))::E4 [])) 6 g (λx65 g=>?_) λ_ g j66=>?_);refine C.xt (U.pd 6 (C.nx ?_));refine C.jn (λx72=>E0 ((9,.i x65.2.1)::(10,.i x65.2.2)::E7 [(58,.i s49.2.2.2.2.2)])) (λx72=>E3 [(1,.box (zV17 x65)),(2,.val (.om Qn Kc x72)),(3,.val (.os 12 Xi x46))]) 4 g (λx72 g=>?_) λ_ g j73=>?_
 refine C.bnx (C.nx (U.start (U.pd 2 (C.nx ?_))));exact St.wa (idR 4) (C.next g);refine C.ite V g (λb74 g=>?_) λb74 g=>?_
 refine U.start (U.ps 9 V (U.c [some 2] (ZZ p 0 s34.2.2.2.2 zC1 [] (⟨((lk x59 x56).getD zC0).Az,x56,zC5⟩:Qb) s49.2.2.2.2.1 _ g) call49 λx77 g=>?_));exact U.done (St.wa [some 0,some 1,some 2,some 5] (j73 _ g));exact C.skip (St.wa [some 0,some 1,some 2,some 5] (j73 _ g));refine C.ite V g (λb67 g=>?_) λb67 g=>?_
 refine D.bq mix 9999 [3,4] [1] (λhQ hS ws M'=>?_);refine D.pq 4 (zl [0,1,2,3]) ?_;refine D.E 4 V (Eff1.st V V V V V V V V V V) ?_;refine D.pq 2 (zl [5,6]) ?_;refine D.dn ?_;exact St.wa (idR 6) (j66 _ g);exact C.skip (St.wa (idR 6) (j66 _ g));refine U.start (U.ps 2 V (U.k (Q0T p x56 _ g) call48 (λx62 g=>?_)));refine U.ps 1 V (g.cs (λb63 g=>?_) λb63 g=>?_);refine U.G 3 b63 ?_;refine g.cs (λb64 g=>?_) λb64 g=>?_
 refine U.S 4 b64 ?_;refine U.Rt b63 V (Rd.pk V V b64 V) ?_;refine U.pk b63 ?_;exact U.done (St.wa [some 0,some 1,some 2,some 4,some 6,some 3] (j61 _ g));refine U.G 4 b64 ?_;refine U.Rt b63 V (Rd.pk' V V b64 V) ?_;refine U.pk b63 ?_;exact U.done (St.wa [some 0,some 1,some 2,some 4,some 6,some 3] (j61 _ g));refine U.S 3 b63 ?_;refine U.sku 4 6 false 74 V V V (U.S 1 b63 ?_);refine U.pk' b63 ?_;exact U.done (St.wa [some 0,some 1,some 2,some 4,some 6,some 3] (j61 _ g));exact C.xw (St.wa (idR 3) (j48 _ g));exact C.xw (St.wa (idR 2) (j33 _ g));refine C.block (St.wk (C.loop (λs9=>[(0,.rp (zV0 p)),(4,.p 0 0),(24,.sl 2 Q9 p.Bj),(25,.i (p.Bj.length:Int)),(26,.i s9.2)]) (λs9=>[(0,.box [.i s9.1.e0.cell,.i s9.1.e0.Ba,.b s9.1.e0.B4,.i s9.1.e1.cell,.i s9.1.e1.Ba,.b s9.1.e1.B4,.i s9.1.e2.cell,.i s9.1.e2.Ba,.b s9.1.e2.B4,.i s9.1.e3.cell,.i s9.1.e3.Ba,.b s9.1.e3.B4])]) g (λs9 _ g=>?_)) (Wk.a [some 0]));refine C.ss (U.pd 1 (C.xs ?_));refine C.ite V g (λb13 g=>?_) λb13 g=>?_
 refine C.skip (C.xs (C.block (C.ss (U.ps 1 V ?_))));obtain⟨x16,y16,g⟩:=g;refine U.ix y16 ?_;refine U.ps 1 V (U.al ?_);refine U.ps 1 V (U.st ?_);refine U.done (C.nx (U.start (U.ps 4 V ?_)));obtain⟨x20,y20,g⟩:=g;refine U.R V (Rd.pi V V V V V V ⟨(Qk y20).1,(Qk y20).2.1⟩) ?_;obtain⟨x21,y21,g⟩:=g;refine U.E V (Eff1.sj (pre:=[]) (post:=[]) (enc:=Qt) (xs:=([s9.1.e0,s9.1.e1,s9.1.e2,s9.1.e3]:List Q1)) (ys:=([x21.e0,x21.e1,x21.e2,x21.e3]:List Q1)) (m:=3) (j:=s9.2) (z:=(⟨x16.Aa,0,false⟩:Q1)) V V V V V (λ_=>V) y20 V V V V V V V y21 V) ?_;refine U.done (C.bnx (C.nx (U.start (U.pd 2 (C.nx ?_)))));exact St.wa [some 0] (C.next g);exact C.xw (St.wa [some 0] (j8 _ g))
theorem ZK a b post(g:Xj a b post):
  Tr prog 148 [.agg (Qt a),.agg (Qt b)] [] 0 (pI post):=by
 refine Tr.go func148 ntmps148 λ_ _ _ _ o=>?_
 unfold Xj at g;refine C.ss (U.bx ?_);refine U.bx ?_;refine U.pd 1 (C.xt ?_);refine U.ps 10 V (U.bs eI ([w64 (a.cell-b.cell),w64 (a.Ba-b.Ba)]:List Int) ?_);refine U.k (Q2Y ([w64 (a.cell-b.cell),w64 (a.Ba-b.Ba)]:List Int) _ g) call98 λx5 g=>?_
 refine U.pd 1 (C.nx (C.ret ?_));exact C.f1 o (pIi g)
def Qcz:Go.Shelf.Ren:=⟨λ| 6=>147 | 14=>196 | 15=>139 | 20=>214 | 21=>215 | 22=>216 | 23=>217 | 24=>218 | 25=>219 | 26=>220 | 27=>221 | 28=>183 | 29=>184 | 46=>226 | 47=>206 | 48=>207 | 49=>227 | 50=>228 | 57=>230 | n=>n,λ| 0=>0 | 3=>3 | 4=>4 | 5=>5 | 9=>9 | 22=>178 | 24=>105 | 25=>175 | 39=>193 | 45=>253 | 46=>254 | 50=>80 | 53=>260 | 55=>262 | 66=>280 | 70=>284 | 76=>293 | 77=>294 | n=>n,λn=>n⟩
theorem Qc9:SlLaysF0.n6 prog Qcz where
 mixed:=by kernel_rfl
 f6:=⟨Tryz.f147.name,by decide,FnX func147⟩
 f14:=⟨Tryz.f196.name,by decide,FnX func196⟩
 f15:=FnX func139
 f20:=⟨Tryz.f214.name,by decide,FnX func214⟩
 f21:=⟨Tryz.f215.name,by decide,FnX func215⟩
 f22:=⟨Tryz.f216.name,by decide,FnX func216⟩
 f23:=⟨Tryz.f217.name,by decide,FnX func217⟩
 f24:=⟨Tryz.f218.name,by decide,FnX func218⟩
 f25:=⟨Tryz.f219.name,by decide,FnX func219⟩
 f26:=⟨Tryz.f220.name,by decide,FnX func220⟩
 f27:=⟨Tryz.f221.name,by decide,FnX func221⟩
 f28:=FnX func183
 f29:=FnX func184
 f46:=⟨Tryz.f226.name,by decide,FnX func226⟩
 f47:=FnX func206
 f48:=FnX func207
 f49:=⟨Tryz.f227.name,by decide,FnX func227⟩
 f50:=⟨Tryz.f228.name,by decide,FnX func228⟩
 f57:=⟨Tryz.f230.name,by decide,FnX func230⟩
 t0:=underlying0
 a0:=isAgg0
 z0:=sizeOf0
 v0:=zeroValue0
 t3:=underlying3
 a3:=isAgg3
 z3:=sizeOf3
 v3:=zeroValue3
 t4:=underlying4
 a4:=isAgg4
 z4:=sizeOf4
 v4:=zeroValue4
 t5:=underlying5
 a5:=isAgg5
 z5:=sizeOf5
 v5:=zeroValue5
 t9:=underlying9
 a9:=isAgg9
 z9:=sizeOf9
 v9:=zeroValue9
 t22:=underlying178
 a22:=isAgg178
 z22:=sizeOf178
 v22:=zeroValue178
 t25:=underlying175
 a25:=isAgg175
 z25:=sizeOf175
 v25:=zeroValue175
 t39:=underlying193
 a39:=isAgg193
 z39:=sizeOf193
 v39:=zeroValue193
 t45:=underlying253
 a45:=isAgg253
 z45:=sizeOf253
 v45:=zeroValue253
 t46:=underlying254
 a46:=isAgg254
 z46:=sizeOf254
 v46:=zeroValue254
 t50:=underlying80
 a50:=isAgg80
 z50:=sizeOf80
 v50:=zeroValue80
 t53:=underlying260
 a53:=isAgg260
 z53:=sizeOf260
 v53:=zeroValue260
 t55:=underlying262
 a55:=isAgg262
 z55:=sizeOf262
 v55:=zeroValue262
 t66:=underlying280
 a66:=isAgg280
 z66:=sizeOf280
 v66:=zeroValue280
 t70:=underlying284
 a70:=isAgg284
 z70:=sizeOf284
 v70:=zeroValue284
 t76:=underlying293
 a76:=isAgg293
 z76:=sizeOf293
 v76:=zeroValue293
 t77:=underlying294
 a77:=isAgg294
 z77:=sizeOf294
 v77:=zeroValue294
theorem X0 p0 post(g:QR p0 post):
  Tr prog 147 [.o 0,.fn (.func 148) [] []] [(0,.val (.os 3 Qt p0))] 1 (λA H' k=>∃y,post y∧A=(.tup [])∧H'=[(0,.val (.os 3 Qt y))]∧k=1):=by
 unfold QR at g;obtain⟨p,cf,h0,hO,hp,hcmp,hsz,hpost⟩:=g;exact Tr.sortFuncP (k:=3) Qc9 isAgg105 sizeOf105 (λ_=>V) (λ_=>V) call148 h0 hO p0 hp (λx y hx hy=>ZK x y _ (hcmp x y hx hy)) hsz hpost
theorem Q0h layer post(g:X8 layer post):
  Tr prog 105 [.rm Xa KQ layer] [] 0 (λA H' k=>∃y,post y∧A=(.o 0)∧H'=[(0,.val (.os 3 Qt y))]∧k=1):=by
 refine Tr.go func105 ntmps105 λ_ _ _ _ o=>?_
 unfold X8 at g;refine C.ss (U.pd 1 (C.xt ?_));refine U.pd 1 (C.xs (C.ss ?_));refine U.ps 1 V (U.E V (Eff1.rgm V V V V V) ?_);refine U.done (C.nx (C.jn (λx7=>[(3,.o 0)]) (λx7=>[(0,.val (.os 3 Qt x7))]) 1 g (λx7 g=>?_) λ_ g j8=>?_));refine C.xt (U.ps 1 V (U.c [some 0] (X0 x7 _ g) call147 (λx20 g=>?_)));refine U.done (C.xt (U.pd 2 (C.nx (C.ret ?_))));exact C.g1 [some 0] o ⟨x20,g,V,V,V⟩;refine C.block (St.wk (C.loop (λs9=>[(3,.o 0),(6,.o 1)]) (λs9=>[(0,.val (.os 3 Qt s9.1)),(1,.rngm Xa KQ layer s9.2)]) g (λs9 _ g=>?_)) (Wk.mk' [none,some 0] V V ⟨⟨_,V,(.nilO _ _ ⟨V,V⟩ V)⟩,ChkG.eqs V⟩ ⟨⟨_,V,.nil _ _⟩,⟨_,V,.rngm V⟩,trivial⟩ V));refine C.ss (U.e V (.none V) (by exact Eff.nxm (ke:=Xa) (ve:=KQ) (li:=1) V V V V V) (λy' h'=>?_));obtain⟨_ | ⟨x11,x12⟩⟩:=y';replace g:=g.2 h';refine U.pd 1 (C.xs ?_);exact C.condF V V (C.xw (St.wa [some 0] (j8 _ g)));have y11:=h';replace g:=g.1 x11 x12 h';refine U.pd 1 (C.xs ?_);refine C.condT V V (C.skip (C.nx (C.block (C.ss (U.R V (Rd.enm (ke:=Xa) (ve:=KQ) V V V V y11.1) ?_)))));refine U.ps 1 V (U.al ?_);refine U.st ?_;refine U.done (C.nx (U.start (U.ps 2 V (U.bs Qt ([x11]:List Q1) ?_))));obtain⟨y17,g⟩:=g;refine U.ap y17 ?_;refine U.pd 1 (C.bnx (C.nx ?_));exact St.wk (C.next g) (Wk.f [some 4,some 1] ⟨vL,⟨_,V,.rngm V⟩,trivial⟩)
end Go.Proofs.YtpckofngkabgbaaGreat
