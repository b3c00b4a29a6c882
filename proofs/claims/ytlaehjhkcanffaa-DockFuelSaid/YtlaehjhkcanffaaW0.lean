/- The walks: each Go function does what its verification condition says (written by a program of the prover). -/
import Derived.Test.YtlaehjhkcanffaaEnc
import Derived.KernelRfl
set_option maxRecDepth 100000
set_option maxHeartbeats 8000000
set_option linter.unusedVariables false
set_option linter.unusedSimpArgs false
namespace Go.Proofs.Ytlaehjhkcanffaa
open Go Go.Taq
def Qv:(Int×Q4×List (Int×Bool)×Int)→((Bool×Q4×List (Int×Bool)×Int)→Prop)→Prop | (robot,v1,c1,c2),post=>Tr Try.prog 73 [.i robot,.p 0 0,.p 3 0,.p 5 0,.p 6 0] [(0,.box [.p 1 0]),(1,.box [.sl 1 eLeI v1.lists,.o 2]),(2,.val (.om kI veI v1.owner)),(3,.box [.o 4]),(4,.val (.om kI veB c1)),(5,.box [.i c2]),(6,.box [.fn (.func 73) [] [.p 0 0,.p 3 0,.p 5 0,.p 6 0]])] 7 (fun A H' k=>∃y,post y∧A=(.b y.1)∧H'=[(0,.box [.p 1 0]),(1,.box [.sl 1 eLeI y.2.1.lists,.o 7]),(3,.box [.o 8]),(5,.box [.i y.2.2.2]),(6,.box [.fn (.func 73) [] [.p 0 0,.p 3 0,.p 5 0,.p 6 0]]),(7,.val (.om kI veI y.2.1.owner)),(8,.val (.om kI veB y.2.2.1))]∧k=9)
theorem K2 (robot:Int) (v1:Q4) (c1:List (Int×Bool)) (c2:Int) (post:(Bool×Q4×List (Int×Bool)×Int)→Prop) (h:Qv (robot,v1,c1,c2) post):Tr Try.prog 73 [.i robot,.p 0 0,.p 3 0,.p 5 0,.p 6 0] [(0,.box [.p 1 0]),(1,.box [.sl 1 eLeI v1.lists,.o 2]),(2,.val (.om kI veI v1.owner)),(3,.box [.o 4]),(4,.val (.om kI veB c1)),(5,.box [.i c2]),(6,.box [.fn (.func 73) [] [.p 0 0,.p 3 0,.p 5 0,.p 6 0]])] 7 (fun A H' k=>∃y,post y∧A=(.b y.1)∧H'=[(0,.box [.p 1 0]),(1,.box [.sl 1 eLeI y.2.1.lists,.o 7]),(3,.box [.o 8]),(5,.box [.i y.2.2.2]),(6,.box [.fn (.func 73) [] [.p 0 0,.p 3 0,.p 5 0,.p 6 0]]),(7,.val (.om kI veI y.2.1.owner)),(8,.val (.om kI veB y.2.2.1))]∧k=9):=h
theorem KM (robot:Int) (v1:Q4) (c1:List (Int×Bool)) (c2:Int) (post:(Bool×Q4×List (Int×Bool)×Int)→Prop) (g:Qu robot v1 c1 c2 post):
  Tr Try.prog 73 [.i robot,.p 0 0,.p 3 0,.p 5 0,.p 6 0] [(0,.box [.p 1 0]),(1,.box [.sl 1 eLeI v1.lists,.o 2]),(2,.val (.om kI veI v1.owner)),(3,.box [.o 4]),(4,.val (.om kI veB c1)),(5,.box [.i c2]),(6,.box [.fn (.func 73) [] [.p 0 0,.p 3 0,.p 5 0,.p 6 0]])] 7 (fun A H' k=>∃y,post y∧A=(.b y.1)∧H'=[(0,.box [.p 1 0]),(1,.box [.sl 1 eLeI y.2.1.lists,.o 7]),(3,.box [.o 8]),(5,.box [.i y.2.2.2]),(6,.box [.fn (.func 73) [] [.p 0 0,.p 3 0,.p 5 0,.p 6 0]]),(7,.val (.om kI veI y.2.1.owner)),(8,.val (.om kI veB y.2.2.1))]∧k=9):=by
 refine K2 robot v1 c1 c2 _ (g Qv (fun a post g=>?_))
 obtain⟨robot,v1,c1,c2⟩:=a
 replace g:Qd Qv robot v1 c1 c2 post:=g
 show Tr Try.prog 73 [.i robot,.p 0 0,.p 3 0,.p 5 0,.p 6 0] [(0,.box [.p 1 0]),(1,.box [.sl 1 eLeI v1.lists,.o 2]),(2,.val (.om kI veI v1.owner)),(3,.box [.o 4]),(4,.val (.om kI veB c1)),(5,.box [.i c2]),(6,.box [.fn (.func 73) [] [.p 0 0,.p 3 0,.p 5 0,.p 6 0]])] 7 (fun A H' k=>∃y,post y∧A=(.b y.1)∧H'=[(0,.box [.p 1 0]),(1,.box [.sl 1 eLeI y.2.1.lists,.o 7]),(3,.box [.o 8]),(5,.box [.i y.2.2.2]),(6,.box [.fn (.func 73) [] [.p 0 0,.p 3 0,.p 5 0,.p 6 0]]),(7,.val (.om kI veI y.2.1.owner)),(8,.val (.om kI veB y.2.2.1))]∧k=9)
 refine Tr.go Try.func73 Try.ntmps73 fun _ _ _ _ o=>?_
 unfold Qd at g
 refine C.ss (U.pd 1 T (C.xs (C.ss ?_)))
 refine U.ps 5 T rfl ?_
 obtain⟨x5,y5,g⟩:=g
 refine U.ix T y5 ?_
 refine U.pd 3 T (C.nx ?_)
 refine C.jn (fun (x6:List (List Int)×List (Int×Int)×List (Int×Bool)×Int)=>[]) (fun x6=>[(0,.box [.p 1 0]),(1,.box [.sl 1 eLeI x6.1,.o 7]),(3,.box [.o 8]),(5,.box [.i x6.2.2.2]),(6,.box [.fn (.func 73) [] [.p 0 0,.p 3 0,.p 5 0,.p 6 0]]),(7,.val (.om kI veI x6.2.1)),(8,.val (.om kI veB x6.2.2.1))]) 9 g (fun x6 g=>?_) fun J7 g j7=>?_
 ·refine C.xt ?_
  refine U.pd 1 T (C.nx (C.ret ?_))
  exact C.g1 (idR 9) T o ⟨(false,({lists:=x6.1,owner:=x6.2.1:Q4}),x6.2.2.1,x6.2.2.2),g,rfl,rfl,rfl⟩
 ·refine C.block ?_
  refine St.wk (C.loop (fun (s8:List (List Int)×List (Int×Int)×List (Int×Bool)×Int×Int)=>[(0,.i robot),(1,.p 0 0),(2,.p 3 0),(3,.p 5 0),(4,.p 6 0),(17,.sl 1 eI x5),(18,.i (x5.length:Int)),(19,.i s8.2.2.2.2)]) (fun s8=>[(0,.box [.p 1 0]),(1,.box [.sl 1 eLeI s8.1,.o 7]),(3,.box [.o 8]),(5,.box [.i s8.2.2.2.1]),(6,.box [.fn (.func 73) [] [.p 0 0,.p 3 0,.p 5 0,.p 6 0]]),(7,.val (.om kI veI s8.2.1)),(8,.val (.om kI veB s8.2.2.1))]) g (fun s8 Y9 g=>?_)) (Wk.a [some 0,some 1,some 2,some 3,some 4,some 5,some 6,some 2,some 4])
  refine C.ss (U.pd 1 T (C.xs ?_))
  refine C.ite rfl g (fun b12 g=>?_) fun b12 g=>?_
  ·refine C.skip (C.xs ?_)
   refine C.jn (fun (x13:List (List Int)×List (Int×Int)×List (Int×Bool)×Int)=>[(0,.i robot),(1,.p 0 0),(2,.p 3 0),(3,.p 5 0),(4,.p 6 0),(17,.sl 1 eI x5),(18,.i (x5.length:Int)),(19,.i s8.2.2.2.2)]) (fun x13=>[(0,.box [.p 1 0]),(1,.box [.sl 1 eLeI x13.1,.o 7]),(3,.box [.o 8]),(5,.box [.i x13.2.2.2]),(6,.box [.fn (.func 73) [] [.p 0 0,.p 3 0,.p 5 0,.p 6 0]]),(7,.val (.om kI veI x13.2.1)),(8,.val (.om kI veB x13.2.2.1))]) 9 g (fun x13 g=>?_) fun J14 g j14=>?_
   ·refine C.nx (U.start ?_)
    refine U.pd 2 T (C.nx ?_)
    exact St.wk (C.next g) (Wk.a (idR 9))
   ·refine C.block (C.ss ?_)
    obtain⟨x17,y17,g⟩:=g
    refine U.ix T y17 ?_
    refine U.pd 2 T (C.xs (C.ss ?_))
    refine U.ps 2 T rfl (U.r rfl (.none rfl) rfl rfl (by exact Rd.lk T (ke:=kI) (ve:=veB) (xs:=s8.2.2.1) (z0:=false) (x:=x17) rfl rfl kt3 zt4 (fun _=>rfl) rfl (.o rfl) rfl rfl rfl) ?_)
    refine U.done (C.nx ?_)
    refine C.ite rfl g (fun b20 g=>?_) fun b20 g=>?_
    ·refine C.exit (C.ex (C.bex ?_))
     exact St.wa (idR 9) (j14 _ g)
    ·refine C.skip (C.xt ?_)
     refine U.ps 2 T rfl (U.e1 rfl (.none rfl) (by exact Eff1.mu T (x:=x17) (y:=true) (.inl rfl) rfl kt3 (fun _=>rfl) rfl rfl rfl rfl rfl (.inl rfl) rfl) ?_)
     refine U.done (C.xt (U.ps 5 T rfl (U.r rfl (.none rfl) rfl rfl (by exact Rd.lk2 T (ke:=kI) (ve:=veI) (xs:=s8.2.1) (z0:=0) (x:=x17) rfl rfl kt3 zt3 (fun _=>rfl) rfl (.o rfl) rfl rfl rfl) ?_)))
     refine U.pd 5 T (C.xs ?_)
     refine C.jn (fun (x25:List (List Int)×List (Int×Int)×List (Int×Bool)×Int×Bool)=>[(0,.i robot),(1,.p 0 0),(2,.p 3 0),(3,.p 5 0),(4,.p 6 0),(8,.i x17),(17,.sl 1 eI x5),(18,.i (x5.length:Int)),(19,.i s8.2.2.2.2),(48,.b x25.2.2.2.2)]) (fun x25=>[(0,.box [.p 1 0]),(1,.box [.sl 1 eLeI x25.1,.o 7]),(3,.box [.o 8]),(5,.box [.i x25.2.2.2.1]),(6,.box [.fn (.func 73) [] [.p 0 0,.p 3 0,.p 5 0,.p 6 0]]),(7,.val (.om kI veI x25.2.1)),(8,.val (.om kI veB x25.2.2.1))]) 9 g (fun x25 g=>?_) fun J26 g j26=>?_
     ·refine C.nx ?_
      refine C.ite rfl g (fun b30 g=>?_) fun b30 g=>?_
      ·refine C.ss ?_
       refine U.ps 6 T rfl (U.e1 rfl (.none rfl) (by exact Eff1.mu T (x:=x17) (y:=robot) (.inl rfl) rfl kt3 (fun _=>rfl) rfl rfl rfl rfl rfl (.inl rfl) rfl) ?_)
       refine U.done (C.xt (U.pd 1 T (C.nx (C.ret (C.brt (C.rt (C.rt (C.brt (C.rt ?_)))))))))
       exact C.g1 (idR 9) T o ⟨(true,({lists:=x25.1,owner:=(upd x25.2.1 x17 robot):Q4}),x25.2.2.1,x25.2.2.2.1),g,rfl,rfl,rfl⟩
      ·refine C.skip (C.bnx ?_)
       exact St.wa (idR 9) (j14 _ g)
     ·refine U.start ?_
      refine U.ps 3 T rfl ?_
      refine g.cs (fun b27 g=>?_) fun b27 g=>?_
      ·refine U.pq 4 2 false 39 (ntF b27) T ?_
       refine g.cs (fun b28 g=>?_) fun b28 g=>?_
       ·refine U.pq 2 6 true 43 b28 T ?_
        refine U.c [some 0,some 1,some 7,some 3,some 8,some 5,some 6] (K2 ((lk s8.2.1 x17).getD 0) ({lists:=s8.1,owner:=s8.2.1:Q4}) (upd s8.2.2.1 x17 true) s8.2.2.2.1 _ g) en73 (fun x29 g=>?_) (hw:=.take 6 true 43 _ b28 rfl rfl rfl)
        refine U.r rfl (.tk 2 false 39 (ntF b27)) rfl rfl (by exact Rd.pk rfl rfl b28 rfl) ?_
        refine U.pk' (ntF b27) ?_
        refine U.done ?_
        exact St.wa [some 0,some 1,some 2,some 3,some 4,some 5,some 6,some 16,some 17] (j26 _ g)
       ·refine U.sk' 3 6 true 43 b28 ?_
        refine U.r rfl (.tk 2 false 39 (ntF b27)) rfl rfl (by exact Rd.pk' rfl rfl b28 rfl) ?_
        refine U.pk' (ntF b27) ?_
        refine U.done ?_
        exact St.wa (idR 9) (j26 _ g)
      ·refine U.sk' 4 2 false 39 (ntT b27) ?_
       refine U.sku 3 6 true 43 rfl rfl rfl ?_
       refine U.sk' 1 2 false 39 (ntT b27) ?_
       refine U.pk (ntT b27) ?_
       refine U.done ?_
       exact St.wa (idR 9) (j26 _ g)
  ·refine C.exit (C.ex (C.ex (C.bex ?_)))
   exact St.wk (j7 _ g) (Wk.mk' [some 0,some 1,some 2,some 3,some 4,some 5,some 6,some 7,some 8] rfl rfl trivial ⟨bX,bX,bX,bX,bX,vL,vL,trivial⟩ rfl)
theorem XE (robot:Int) (first:Int) (m:Q4) (post:(Bool×Q4)→Prop) (g:Qz robot first m post):
  Tr Try.prog 52 [.p 0 0,.i robot,.i first] [(0,.box [.sl 1 eLeI m.lists,.o 1]),(1,.val (.om kI veI m.owner))] 2 (fun A H' k=>∃y,post y∧A=(.b y.1)∧H'=[(0,.box [.sl 1 eLeI y.2.lists,.o 2]),(2,.val (.om kI veI y.2.owner))]∧k=3):=by
 refine Tr.go Try.func52 Try.ntmps52 fun _ _ _ _ o=>?_
 unfold Qz at g
 refine C.ss (U.bx ?_)
 refine U.bx ?_
 refine U.pd 1 T (C.xt ?_)
 refine U.e1 rfl (.none rfl) (by exact Eff1.mm kI veB rfl rfl rfl) ?_
 refine U.al T ?_
 refine U.st T ?_
 refine U.done (C.xt (U.al T ?_))
 refine U.done (C.xt (U.ps 1 T rfl (U.st T ?_)))
 refine U.done (C.xt (U.ps 2 T rfl (U.c [some 2,some 0,some 1,some 5,some 4,some 3,some 6] (KM robot m ([]:List (Int×Bool)) first _ g) en73 (fun x11 g=>?_))))
 refine U.pd 1 T (C.nx (C.ret ?_))
 exact C.g1 [some 0,some 1,some 14] T o ⟨(x11.1,x11.2.1),g,rfl,rfl,rfl⟩
theorem WZ (l:List (List Int)) (given:List Int) (post:Int→Prop) (g:X0 l given post):
  Tr Try.prog 21 [.sl 1 eLeI l,.sl 1 eI given] [] 0 (pI post):=by
 refine Tr.go Try.func21 Try.ntmps21 fun _ _ _ _ o=>?_
 unfold X0 at g
 refine C.ss (U.pd 1 T (C.xt ?_))
 refine U.ps 1 T rfl (U.e1 rfl (.none rfl) (by exact Eff1.mm kI veI rfl rfl rfl) ?_)
 refine U.ps 1 T rfl (U.bx ?_)
 refine U.pd 1 T (C.xs (C.ss ?_))
 refine U.pd 3 T (C.nx ?_)
 refine C.jn (fun (x7:List (Int×Int))=>[(0,.sl 1 eLeI l),(1,.sl 1 eI given),(5,.p 0 0)]) (fun x7=>[(0,.box [.sl 1 eLeI l,.o 1]),(1,.val (.om kI veI x7))]) 2 g (fun x7 g=>?_) fun J8 g j8=>?_
 refine C.xs (C.ss (U.pd 3 T (C.nx ?_)))
 refine C.jn (fun (x28:List (List Int)×List (Int×Int))=>[(5,.p 0 0)]) (fun x28=>[(0,.box [.sl 1 eLeI x28.1,.o 1]),(1,.val (.om kI veI x28.2))]) 2 g (fun x28 g=>?_) fun J29 g j29=>?_
 refine C.xt (U.ps 4 T rfl (U.r rfl (.none rfl) rfl rfl (by exact Rd.lm T (ke:=kI) (ve:=veI) (xs:=x28.2) rfl rfl (fun _=>rfl) rfl (.o rfl)) ?_))
 refine U.pd 1 T (C.nx (C.ret ?_))
 exact C.f1 T o (pIi g)
 refine C.block (St.wk (C.loop (fun (s30:List (List Int)×List (Int×Int)×Int)=>[(0,.sl 1 eLeI l),(1,.sl 1 eI given),(5,.p 0 0),(8,.i s30.2.2)]) (fun s30=>[(0,.box [.sl 1 eLeI s30.1,.o 1]),(1,.val (.om kI veI s30.2.1))]) g (fun s30 Y31 g=>?_)) (Wk.a (idR 2)))
 refine C.seq (C.ss (U.pd 4 T (C.nx ?_)))
 refine C.ite rfl g (fun b34 g=>?_) fun b34 g=>?_
 refine C.skip (C.xs (C.block (U.start (U.ps 4 T rfl (U.c (idR 2) (XE s30.2.2 (given.length:Int) ({lists:=s30.1,owner:=s30.2.1:Q4}) _ g) en52 (fun x37 g=>?_))))))
 refine U.done (C.bnx (C.nx (U.start (U.pd 3 T (C.nx ?_)))))
 exact St.wk (C.next g) (Wk.a [some 0,some 4])
 refine C.exit (C.ex (C.ex (C.bex ?_)))
 exact St.wa (idR 2) (j29 _ g)
 refine C.block (St.wk (C.loop (fun (s9:List (Int×Int)×Int)=>[(0,.sl 1 eLeI l),(1,.sl 1 eI given),(5,.p 0 0),(13,.sl 1 eI given),(14,.i (given.length:Int)),(15,.i s9.2)]) (fun s9=>[(0,.box [.sl 1 eLeI l,.o 1]),(1,.val (.om kI veI s9.1))]) g (fun s9 Y10 g=>?_)) (Wk.a [some 1,some 0]))
 refine C.ss (U.pd 1 T (C.xs ?_))
 refine C.ite rfl g (fun b13 g=>?_) fun b13 g=>?_
 refine C.skip (C.xs (C.block (C.ss (U.ps 1 T rfl ?_))))
 obtain⟨x16,y16,g⟩:=g
 refine U.ix T y16 ?_
 refine U.pd 3 T (C.xt ?_)
 refine U.pd 2 T (C.nx ?_)
 refine C.jn (fun (x19:List (Int×Int))=>[(0,.sl 1 eLeI l),(1,.sl 1 eI given),(5,.p 0 0),(13,.sl 1 eI given),(14,.i (given.length:Int)),(15,.i s9.2)]) (fun x19=>[(0,.box [.sl 1 eLeI l,.o 1]),(1,.val (.om kI veI x19))]) 2 g (fun x19 g=>?_) fun J20 g j20=>?_
 refine C.bnx (C.nx (U.start (U.pd 2 T (C.nx ?_))))
 exact St.wk (C.next g) (Wk.a (idR 2))
 refine C.ite rfl g (fun b21 g=>?_) fun b21 g=>?_
 refine U.start (U.ps 6 T rfl (U.e1 rfl (.none rfl) (by exact Eff1.mu T (x:=x16) (y:=s9.2) (.inl rfl) rfl kt3 (fun _=>rfl) rfl rfl rfl rfl rfl (.inl rfl) rfl) ?_))
 refine U.done ?_
 exact St.wa (idR 2) (j20 _ g)
 refine C.skip ?_
 exact St.wa (idR 2) (j20 _ g)
 refine C.exit (C.ex (C.ex (C.bex ?_)))
 exact St.wa (idR 2) (j8 _ g)
theorem XL (s_1:List Int) (post:(List Int)→Prop) (g:QC s_1 post):
  Tr Try.prog 24 [.sl 1 eI s_1] [] 0 (fun A H' k=>∃y,post y∧A=(.fn (.func 55) [] [.p 0 0])∧H'=[(0,.box [.sl 1 eI y])]∧k=1):=by
 refine Tr.go Try.func24 Try.ntmps24 fun _ _ _ _ o=>?_
 unfold QC at g
 refine C.ss (U.bx ?_)
 refine U.pd 1 T (C.xt ?_)
 refine U.pd 2 T (C.nx (C.ret ?_))
 exact C.g1 [some 0] T o ⟨(s_1),g,rfl,rfl,rfl⟩
theorem QV (seq_c0:List Int) (s_1:List Int) (post:(List Int)→Prop) (g:Q5 seq_c0 s_1 post):
  Tr Try.prog 74 [.o 0,.fn (.func 55) [] [.rp [.sl 1 eI seq_c0]]] [(0,.val (.os 1 eI s_1))] 1 (fun A H' k=>∃y,post y∧A=(.o 1)∧H'=[(1,.val (.os 1 eI y))]∧k=2):=by
 refine Tr.go Try.func74 Try.ntmps74 fun _ _ _ _ o=>?_
 unfold Q5 at g
 refine C.ss (U.bx ?_)
 refine U.pd 1 T (C.xs (C.ss ?_))
 refine U.pd 1 T (C.nx (C.block ?_))
 obtain⟨y8,g⟩:=g
 refine St.wk (C.range (Γ0:=[(2,.p 1 0),(6,.fn (.func 55) [] [.rp [.sl 1 eI seq_c0]])]) (Γ1:=fun (x5:Int)=>[(5,.i x5),(7,.i x5),(2,.p 1 0),(6,.fn (.func 55) [] [.rp [.sl 1 eI seq_c0]])]) (Hf:=fun (s6:List Int)=>[(1,.box [.o 2]),(2,.val (.os 1 eI s6))]) 2 g (it55 seq_c0 y8) en55 rfl rfl rfl rfl rfl (fun _=>rfl) rfl rfl (fun _=>rfl) (fun x5 s6 Y7 g w0 ok M β l=>?_) (fun s12 g=>?_)) (Wk.a [some 0,some 1,some 0])
 refine CI.block ?_
 refine UI.start (by kernel_rfl) (by repeat (first | exact Ww.rnd | refine Ww.th ?_ | refine Ww.blk ?_)) ?_
 refine U.ps 2 T rfl (U.bs T eI ([x5]:List Int) ?_)
 obtain⟨y11,g⟩:=g
 refine U.ap T y11 ?_
 refine U.st T ?_
 refine U.done (C.bnx ?_)
 exact St.wk (CI.next g) (Wk.mk' [some 0,some 1,some 4] rfl rfl trivial ⟨bX,vL,trivial⟩ rfl)
 refine C.bnx (C.xt (U.pd 2 T (C.nx (C.ret ?_))))
 exact C.g1 [some 0,some 2] T o ⟨s12,g,rfl,rfl,rfl⟩
theorem Ke (seq_c0:List Int) (post:(List Int)→Prop) (g:Qa seq_c0 post):
  Tr Try.prog 53 [.fn (.func 55) [] [.rp [.sl 1 eI seq_c0]]] [] 0 (fun A H' k=>∃y,post y∧A=(.o 0)∧H'=[(0,.val (.os 1 eI y))]∧k=1):=by
 refine Tr.go Try.func53 Try.ntmps53 fun _ _ _ _ o=>?_
 unfold Qa at g
 refine C.ss (U.pd 1 T (C.xt ?_))
 refine U.ps 1 T rfl (U.c [none] (QV seq_c0 [] _ g) en74 (fun x5 g=>?_))
 refine U.pd 1 T (C.nx (C.ret ?_))
 exact C.g1 [some 1] T o ⟨x5,g,rfl,rfl,rfl⟩
def Q32:Go.Shelf.Ren:=⟨fun | 125=>76 | 128=>95 | 129=>96 | 189=>54 | 215=>103 | 216=>92 | 257=>75 | 294=>86 | 295=>87 | 296=>88 | 297=>89 | 298=>90 | 299=>91 | 300=>93 | 301=>94 | 328=>98 | 329=>99 | 330=>100 | 331=>101 | 332=>102 | 343=>104 | n=>n,fun | 0=>0 | 3=>3 | 4=>4 | 5=>5 | 9=>9 | 28=>23 | 46=>97 | 51=>121 | 53=>124 | 131=>27 | 182=>133 | 183=>134 | 218=>141 | 222=>145 | 228=>147 | 229=>127 | n=>n,fun n=>n⟩
theorem Q2Y:Go.Proofs.Lays.n189 Try.prog Q32 where
 mixed:=by kernel_rfl
 f125:=Try.func76.trans (congrArg some (by kernel_rfl))
 f128:=Try.func95.trans (congrArg some (by kernel_rfl))
 f129:=Try.func96.trans (congrArg some (by kernel_rfl))
 f189:=Try.func54.trans (congrArg some (by kernel_rfl))
 f215:=Try.func103.trans (congrArg some (by kernel_rfl))
 f216:=Try.func92.trans (congrArg some (by kernel_rfl))
 f257:=Try.func75.trans (congrArg some (by kernel_rfl))
 f294:=Try.func86.trans (congrArg some (by kernel_rfl))
 f295:=Try.func87.trans (congrArg some (by kernel_rfl))
 f296:=Try.func88.trans (congrArg some (by kernel_rfl))
 f297:=Try.func89.trans (congrArg some (by kernel_rfl))
 f298:=Try.func90.trans (congrArg some (by kernel_rfl))
 f299:=Try.func91.trans (congrArg some (by kernel_rfl))
 f300:=Try.func93.trans (congrArg some (by kernel_rfl))
 f301:=Try.func94.trans (congrArg some (by kernel_rfl))
 f328:=Try.func98.trans (congrArg some (by kernel_rfl))
 f329:=Try.func99.trans (congrArg some (by kernel_rfl))
 f330:=Try.func100.trans (congrArg some (by kernel_rfl))
 f331:=Try.func101.trans (congrArg some (by kernel_rfl))
 f332:=Try.func102.trans (congrArg some (by kernel_rfl))
 f343:=Try.func104.trans (congrArg some (by kernel_rfl))
 t0:=Try.underlying0
 a0:=Try.isAgg0
 z0:=Try.sizeOf0
 v0:=Try.zeroValue0
 t3:=Try.underlying3
 a3:=Try.isAgg3
 z3:=Try.sizeOf3
 v3:=Try.zeroValue3
 t4:=Try.underlying4
 a4:=Try.isAgg4
 z4:=Try.sizeOf4
 v4:=Try.zeroValue4
 t5:=Try.underlying5
 a5:=Try.isAgg5
 z5:=Try.sizeOf5
 v5:=Try.zeroValue5
 t9:=Try.underlying9
 a9:=Try.isAgg9
 z9:=Try.sizeOf9
 v9:=Try.zeroValue9
 t28:=Try.underlying23
 a28:=Try.isAgg23
 z28:=Try.sizeOf23
 v28:=Try.zeroValue23
 t46:=Try.underlying97
 a46:=Try.isAgg97
 z46:=Try.sizeOf97
 v46:=Try.zeroValue97
 t51:=Try.underlying121
 a51:=Try.isAgg121
 z51:=Try.sizeOf121
 v51:=Try.zeroValue121
 t53:=Try.underlying124
 a53:=Try.isAgg124
 z53:=Try.sizeOf124
 v53:=Try.zeroValue124
 t131:=Try.underlying27
 a131:=Try.isAgg27
 z131:=Try.sizeOf27
 v131:=Try.zeroValue27
 t182:=Try.underlying133
 a182:=Try.isAgg133
 z182:=Try.sizeOf133
 v182:=Try.zeroValue133
 t183:=Try.underlying134
 a183:=Try.isAgg134
 z183:=Try.sizeOf134
 v183:=Try.zeroValue134
 t218:=Try.underlying141
 a218:=Try.isAgg141
 z218:=Try.sizeOf141
 v218:=Try.zeroValue141
 t222:=Try.underlying145
 a222:=Try.isAgg145
 z222:=Try.sizeOf145
 v222:=Try.zeroValue145
 t228:=Try.underlying147
 a228:=Try.isAgg147
 z228:=Try.sizeOf147
 v228:=Try.zeroValue147
 t229:=Try.underlying127
 a229:=Try.isAgg127
 z229:=Try.sizeOf127
 v229:=Try.zeroValue127
theorem Xw (p0:List Int) (post:List Int→Prop) (g:QI p0 post):
  Tr Try.prog 54 [.o 0] [(0,.val (.os 1 eI p0))] 1 (fun A H' k=>∃y,post y∧A=(.tup [])∧H'=[(0,.val (.os 1 eI y))]∧k=1):=by
 unfold QI at g
 exact Tr.sortInt Q2Y p0 g.1 g.2
theorem Ki (seq_c0:List Int) (post:(List Int)→Prop) (g:Q6 seq_c0 post):
  Tr Try.prog 23 [.fn (.func 55) [] [.rp [.sl 1 eI seq_c0]]] [] 0 (fun A H' k=>∃y,post y∧A=(.o 0)∧H'=[(0,.val (.os 1 eI y))]∧k=1):=by
 refine Tr.go Try.func23 Try.ntmps23 fun _ _ _ _ o=>?_
 unfold Q6 at g
 refine C.ss (U.pd 1 T (C.xt ?_))
 refine U.ps 1 T rfl (U.k (Ke seq_c0 _ g) en53 (fun x5 g=>?_))
 refine U.pd 1 T (C.xt ?_)
 refine U.ps 1 T rfl (U.c [some 0] (Xw x5 _ g) en54 (fun x8 g=>?_))
 refine U.done (C.xt (U.pd 2 T (C.nx (C.ret ?_))))
 exact C.g1 [some 0] T o ⟨x8,g,rfl,rfl,rfl⟩
theorem Xe (s_1:List Int) (post:(List Int)→Prop) (g:V_slices_Compact_int_int__o0 s_1 post):
  Tr Try.prog 22 [.o 0] [(0,.val (.os 1 eI s_1))] 1 (fun A H' k=>∃y,post y∧A=(.o 1)∧H'=[(1,.val (.os 1 eI y))]∧k=2):=by
 refine Tr.go Try.func22 Try.ntmps22 fun _ _ _ _ o=>?_
 unfold V_slices_Compact_int_int__o0 at g
 refine C.ss (U.pd 1 T (C.xs (C.ss ?_)))
 refine U.pd 3 T (C.nx ?_)
 refine C.ite rfl g (fun b5 g=>?_) fun b5 g=>?_
 refine C.ss (U.pd 2 T (C.nx (C.ret (C.rt ?_))))
 exact C.g1 [some 0,some 0] T o ⟨s_1,g,rfl,rfl,rfl⟩
 refine C.skip (C.xs (C.ss (U.pd 1 T (C.nx ?_))))
 refine C.jn (fun (x10:Unit)=>[(0,.o 0)]) (fun x10=>[(0,.val (.os 1 eI s_1))]) 1 g (fun x10 g=>?_) fun J11 g j11=>?_
 refine C.xt (U.pd 2 T (C.nx (C.ret ?_)))
 exact C.g1 [some 0,some 0] T o ⟨s_1,g,rfl,rfl,rfl⟩
 refine C.block (St.wk (C.loop (fun (s12:Int)=>[(0,.o 0),(3,.i s12)]) (fun s12=>[(0,.val (.os 1 eI s_1))]) g (fun s12 Y13 g=>?_)) (Wk.a [some 0]))
 refine C.seq (C.ss (U.pd 4 T (C.nx ?_)))
 refine C.ite rfl g (fun b16 g=>?_) fun b16 g=>?_
 refine C.skip (C.xs ?_)
 refine C.jn (fun (x17:Unit)=>[(0,.o 0),(3,.i s12)]) (fun x17=>[(0,.val (.os 1 eI s_1))]) 1 g (fun x17 g=>?_) fun J18 g j18=>?_
 refine C.nx (U.start (U.pd 3 T (C.nx ?_)))
 exact St.wk (C.next g) (Wk.a [some 0])
 refine C.block (C.seq (D.bq mix 9999 [0] [] (fun hQ hS ws M'=>?_)))
 refine D.pq 2 (zl [0,1]) T ?_
 obtain⟨x21,y21,g⟩:=g
 refine D.q 2 [] hQ hS rfl (.none rfl) rfl rfl (by exact Rd.io T rfl rfl rfl rfl rfl rfl rfl y21) rfl (by kernel_rfl) ?_
 refine D.q 3 [] hQ hS rfl (.none rfl) rfl rfl (by exact Rd.le T rfl rfl rfl (Qb y21).2.2 rfl rfl rfl) rfl (by kernel_rfl) ?_
 refine D.pq 3 (zl [4,5,6]) T ?_
 obtain⟨x22,y22,g⟩:=g
 refine D.q 7 [] hQ hS rfl (.none rfl) rfl rfl (by exact Rd.io T rfl rfl rfl rfl rfl rfl rfl y22) rfl (by kernel_rfl) ?_
 refine D.q 8 [] hQ hS rfl (.none rfl) rfl rfl (by exact Rd.le T rfl rfl rfl (Qb y22).2.2 rfl rfl rfl) rfl (by kernel_rfl) ?_
 refine D.pq 1 [(9,[])] T ?_
 refine D.done (by kernel_rfl) ?_
 refine C.nx ?_
 refine C.ite rfl g (fun b23 g=>?_) fun b23 g=>?_
 refine C.ss (U.ps 2 T rfl ?_)
 obtain⟨y26,g⟩:=g
 refine U.r rfl (.none rfl) rfl rfl (by exact Rd.vw T rfl rfl rfl rfl rfl rfl (.some _ rfl) (.none _) y26) ?_
 refine U.pd 1 T (C.xs (C.ss ?_))
 refine U.pd 1 T (C.nx ?_)
 refine C.jn (fun (x29:List Int×Int)=>[(0,.o 0),(3,.i x29.2)]) (fun x29=>[(0,.val (.os 1 eI x29.1))]) 1 g (fun x29 g=>?_) fun J30 g j30=>?_
 refine C.xt (U.ps 2 T rfl ?_)
 obtain⟨y55,g⟩:=g
 refine U.r rfl (.none rfl) rfl rfl (by exact Rd.vw T rfl rfl rfl rfl rfl rfl (.some _ rfl) (.none _) y55) ?_
 obtain⟨y56,g⟩:=g
 refine U.e1 rfl (.none rfl) (by exact Eff1.clv T (z0:=0) rfl rfl rfl rfl rfl rfl rfl (fun _=>rfl) rfl y56) ?_
 refine U.done (C.xt (U.ps 2 T rfl ?_))
 obtain⟨y59,g⟩:=g
 refine U.e1 rfl (.none rfl) (by exact Eff1.sw T rfl rfl rfl rfl rfl rfl rfl rfl (.none _) (.some _ rfl) y59) ?_
 refine U.pd 1 T (C.nx (C.ret (C.brt (C.rt (C.rt (C.brt (C.rt ?_)))))))
 exact C.g1 (idR 2) T o ⟨(sub (x29.1.take (Int.toNat x29.2)++(List.replicate (Int.toNat ((x29.1.length:Int)-x29.2)) 0++x29.1.drop ((Int.toNat x29.2)+(Int.toNat ((x29.1.length:Int)-x29.2))))) 0 x29.2),g,rfl,rfl,rfl⟩
 refine C.block (St.wk (C.loop (fun (s31:List Int×Int×Int)=>[(0,.o 0),(3,.i s31.2.1),(4,.vw 0 1 (Int.toNat s12) (Int.toNat ((s_1.length:Int)-s12))),(5,.i s31.2.2)]) (fun s31=>[(0,.val (.os 1 eI s31.1))]) g (fun s31 Y32 g=>?_)) (Wk.a [some 0]))
 refine C.seq (C.ss (U.ps 2 T rfl (U.r rfl (.none rfl) rfl rfl (by exact Rd.vl T rfl rfl rfl) ?_)))
 refine U.pd 1 T (C.nx ?_)
 refine C.ite rfl g (fun b35 g=>?_) fun b35 g=>?_
 refine C.skip (C.xs (C.block (C.seq (D.bq mix 9999 [0] [] (fun hQ hS ws M'=>?_)))))
 refine D.pq 2 (zl [0,1]) T ?_
 obtain⟨y38,g⟩:=g
 refine D.q 2 [] hQ hS rfl (.none rfl) rfl rfl (by exact Rd.vi T rfl rfl rfl rfl rfl rfl y38) rfl (by kernel_rfl) ?_
 obtain⟨x39,y39,g⟩:=g
 refine D.q 3 [] hQ hS rfl (.none rfl) rfl rfl (by exact Rd.le T rfl rfl rfl y39 rfl rfl rfl) rfl (by kernel_rfl) ?_
 refine D.pq 3 (zl [4,5,6]) T ?_
 obtain⟨y40,g⟩:=g
 refine D.q 7 [] hQ hS rfl (.none rfl) rfl rfl (by exact Rd.vi T rfl rfl rfl rfl rfl rfl y40) rfl (by kernel_rfl) ?_
 obtain⟨x41,y41,g⟩:=g
 refine D.q 8 [] hQ hS rfl (.none rfl) rfl rfl (by exact Rd.le T rfl rfl rfl y41 rfl rfl rfl) rfl (by kernel_rfl) ?_
 refine D.pq 1 [(9,[])] T ?_
 refine D.done (by kernel_rfl) ?_
 refine C.nx ?_
 refine C.jn (fun (x42:List Int×Int)=>[(0,.o 0),(3,.i x42.2),(4,.vw 0 1 (Int.toNat s12) (Int.toNat ((s_1.length:Int)-s12))),(5,.i s31.2.2)]) (fun x42=>[(0,.val (.os 1 eI x42.1))]) 1 g (fun x42 g=>?_) fun J43 g j43=>?_
 refine C.bnx (C.nx (U.start (U.pd 3 T (C.nx ?_))))
 exact St.wk (C.next g) (Wk.a [some 0])
 refine C.ite rfl g (fun b44 g=>?_) fun b44 g=>?_
 refine C.ss (U.ps 4 T rfl ?_)
 obtain⟨y47,g⟩:=g
 refine U.r rfl (.none rfl) rfl rfl (by exact Rd.vi T rfl rfl rfl rfl rfl rfl y47) ?_
 refine U.r rfl (.none rfl) rfl rfl (by exact Rd.le T rfl rfl rfl y39 rfl rfl rfl) ?_
 obtain⟨x48,y48,g⟩:=g
 refine U.r rfl (.none rfl) rfl rfl (by exact Rd.io T rfl rfl rfl rfl rfl rfl rfl y48) ?_
 refine U.e1 rfl (.none rfl) (by exact Eff1.se T (z':=x39) rfl rfl rfl (Qb y48).2.2 rfl rfl rfl rfl rfl rfl rfl rfl (fun _=>rfl) rfl) ?_
 refine U.done (C.nx (U.start (U.pd 3 T ?_)))
 exact St.wa [some 0] (j43 _ g)
 refine C.skip ?_
 exact St.wa [some 0] (j43 _ g)
 refine C.exit (C.ex (C.ex (C.bex ?_)))
 exact St.wa [some 0] (j30 _ g)
 refine C.skip (C.bnx ?_)
 exact St.wa [some 0] (j18 _ g)
 refine C.exit (C.ex (C.ex (C.bex ?_)))
 exact St.wa [some 0] (j11 _ g)
theorem XV (s_1:List Int) (v:Int) (post:Int→Prop) (g:QG s_1 v post):
  Tr Try.prog 56 [.sl 1 eI s_1,.i v] [] 0 (pI post):=by
 refine Tr.go Try.func56 Try.ntmps56 fun _ _ _ _ o=>?_
 unfold QG at g
 refine C.ss (U.pd 1 T (C.xs (C.ss ?_)))
 refine U.pd 3 T (C.nx ?_)
 refine C.jn (fun (x5:Unit)=>[]) (fun x5=>[]) 0 g (fun x5 g=>?_) fun J6 g j6=>?_
 refine C.xt (U.pd 1 T (C.nx (C.ret ?_)))
 exact C.f1 T o (pIi g)
 refine C.block (St.wk (C.loop (fun (s7:Int)=>[(0,.sl 1 eI s_1),(1,.i v),(7,.i (s_1.length:Int)),(8,.i s7)]) (fun s7=>[]) g (fun s7 Y8 g=>?_)) (Wk.e))
 refine C.ss (U.pd 1 T (C.xs ?_))
 refine C.ite rfl g (fun b11 g=>?_) fun b11 g=>?_
 refine C.skip (C.xs (C.block (C.ss (U.pd 2 T (C.xt ?_)))))
 refine U.ps 3 T rfl ?_
 obtain⟨x16,y16,g⟩:=g
 refine U.ix T y16 ?_
 refine U.pd 2 T (C.nx ?_)
 refine C.ite rfl g (fun b17 g=>?_) fun b17 g=>?_
 refine C.ss (U.pd 2 T (C.nx (C.ret (C.brt (C.rt (C.rt (C.brt (C.rt ?_))))))))
 exact C.f1 T o (pIi g)
 refine C.skip (C.bnx (C.nx (U.start (U.pd 2 T (C.nx ?_)))))
 exact St.wk (C.next g) (Wk.e)
 refine C.exit (C.ex (C.ex (C.bex ?_)))
 exact St.wk (j6 _ g) (Wk.mk' [] rfl rfl trivial trivial rfl)
theorem Kb (s_1:List Int) (v:Int) (post:Bool→Prop) (g:Qg s_1 v post):
  Tr Try.prog 25 [.sl 1 eI s_1,.i v] [] 0 (pB post):=by
 refine Tr.go Try.func25 Try.ntmps25 fun _ _ _ _ o=>?_
 unfold Qg at g
 refine C.ss (U.pd 1 T (C.xt ?_))
 refine U.ps 2 T rfl (U.k (XV s_1 v _ g) en56 (fun x5 g=>?_))
 refine U.pd 2 T (C.nx (C.ret ?_))
 exact C.f1 T o (pBi g)
theorem XX (s_1:List Int) (post:(List Int)→Prop) (g:QF s_1 post):
  Tr Try.prog 26 [.sl 1 eI s_1] [] 0 (fun A H' k=>∃y,post y∧A=(.o 0)∧H'=[(0,.val (.os 1 eI y))]∧k=1):=by
 refine Tr.go Try.func26 Try.ntmps26 fun _ _ _ _ o=>?_
 unfold QF at g
 refine C.ss (U.pd 1 T (C.xs (C.ss ?_)))
 refine U.ps 1 T rfl (U.e rfl (.none rfl) (by exact Eff.isnil T true rfl rfl rfl rfl rfl rfl (.inl ⟨.sl,rfl⟩) rfl) (fun b5' hhb5=>?_))
 obtain⟨b5⟩:=b5'
 replace g:=g b5 hhb5
 refine U.done (C.nx ?_)
 refine C.ite rfl g (fun b6 g=>?_) fun b6 g=>?_
 refine C.ss (U.pd 1 T (C.nx (C.ret (C.rt ?_))))
 exact C.g1 [none] T o ⟨[],g,rfl,rfl,rfl⟩
 refine C.skip (C.xt (U.bs T eI ([]:List Int) ?_))
 refine U.ps 1 T rfl ?_
 obtain⟨y11,g⟩:=g
 refine U.ap T y11 ?_
 refine U.pd 1 T (C.nx (C.ret ?_))
 exact C.g1 [some 1] T o ⟨(([]:List Int)++s_1),g,rfl,rfl,rfl⟩
theorem XY (l:List (List Int)) (post:(List Int)→Prop) (g:KC l post):
  Tr Try.prog 8 [.sl 1 eLeI l] [] 0 (fun A H' k=>∃y,post y∧A=(.o 0)∧H'=[(0,.val (.os 1 eI y))]∧k=1):=by
 refine Tr.go Try.func8 Try.ntmps8 fun _ _ _ _ o=>?_
 unfold KC at g
 refine C.ss (U.pd 1 T (C.xt ?_))
 refine U.ps 1 T rfl (U.k (WZ l [] _ g) en21 (fun x5 g=>?_))
 refine U.pd 1 T (C.xt ?_)
 refine U.pd 1 T (C.xs (C.ss ?_))
 refine U.pd 3 T (C.nx ?_)
 refine C.jn (fun (x10:List Int)=>[(4,.o 0)]) (fun x10=>[(0,.val (.os 1 eI x10))]) 1 g (fun x10 g=>?_) fun J11 g j11=>?_
 refine C.xt (U.pd 2 T (C.nx (C.ret ?_)))
 exact C.g1 [some 0] T o ⟨x10,g,rfl,rfl,rfl⟩
 refine C.block ?_
 refine St.wk (C.loop (fun (s12:List Int×Int)=>[(0,.sl 1 eLeI l),(3,.i x5),(4,.o 0),(12,.sl 1 eLeI l),(13,.i (l.length:Int)),(14,.i s12.2)]) (fun s12=>[(0,.val (.os 1 eI s12.1))]) g (fun s12 Y13 g=>?_)) (Wk.mk' [none] rfl rfl ⟨⟨_,rfl,(.eq rfl)⟩,⟨_,rfl,(.eq rfl)⟩,⟨_,rfl,(.nilO _ _ ⟨rfl,rfl⟩ rfl)⟩,ChkG.eqs rfl⟩ ⟨⟨_,rfl,.nil _ _⟩,trivial⟩ rfl)
 refine C.ss (U.pd 1 T (C.xs ?_))
 refine C.ite rfl g (fun b16 g=>?_) fun b16 g=>?_
 refine C.skip (C.xs ?_)
 refine C.jn (fun (x17:List Int)=>[(0,.sl 1 eLeI l),(3,.i x5),(4,.o 0),(12,.sl 1 eLeI l),(13,.i (l.length:Int)),(14,.i s12.2)]) (fun x17=>[(0,.val (.os 1 eI x17))]) 1 g (fun x17 g=>?_) fun J18 g j18=>?_
 refine C.nx (U.start (U.pd 2 T (C.nx ?_)))
 exact St.wk (C.next g) (Wk.a [some 0])
 refine C.block (C.ss ?_)
 obtain⟨x21,y21,g⟩:=g
 refine U.ix T y21 ?_
 refine U.pd 2 T (C.xt ?_)
 refine U.pd 1 T (C.xs (C.ss ?_))
 refine U.ps 1 T rfl (U.e rfl (.none rfl) (by exact Eff.c [] (v:=false) (XL x21 _ g) en24 rfl rfl rfl (.eq rfl) trivial rfl rfl rfl rfl rfl rfl (fun h=>by cases h) (.inr ⟨rfl,rfl⟩) (fun _=>rfl) (fun _=>rfl) rfl) (fun x26' g=>?_))
 obtain⟨x26⟩:=x26'
 refine U.k (Ki x26 _ g) en23 fun x27 g=>?_
 refine U.c [some 2] (Xe x27 _ g) en22 fun x28 g=>?_
 refine U.pd 2 T (C.nx ?_)
 refine C.jn (fun (x29:Int)=>[(0,.sl 1 eLeI l),(3,.i x5),(4,.o 0),(7,.i x29),(12,.sl 1 eLeI l),(13,.i (l.length:Int)),(14,.i s12.2)]) (fun x29=>[(0,.val (.os 1 eI s12.1))]) 1 g (fun x29 g=>?_) fun J30 g j30=>?_
 refine C.nx (U.start (U.ps 2 T rfl (U.bs T eI ([x29]:List Int) ?_)))
 obtain⟨y53,g⟩:=g
 refine U.ap T y53 ?_
 refine U.pd 1 T (C.bnx ?_)
 exact St.wa [some 2] (j18 _ g)
 refine C.block (St.wk (C.loop (fun (s31:Int)=>[(0,.sl 1 eLeI l),(3,.i x5),(4,.o 0),(7,.i (-1)),(12,.sl 1 eLeI l),(13,.i (l.length:Int)),(14,.i s12.2),(21,.o 1),(22,.i (x28.length:Int)),(23,.i s31)]) (fun s31=>[(0,.val (.os 1 eI s12.1)),(1,.val (.os 1 eI x28))]) g (fun s31 Y32 g=>?_)) (Wk.a [some 0,some 4]))
 refine C.ss (U.pd 1 T (C.xs ?_))
 refine C.ite rfl g (fun b35 g=>?_) fun b35 g=>?_
 refine C.skip (C.xs (C.block (C.ss ?_)))
 obtain⟨x38,y38,g⟩:=g
 refine U.r rfl (.none rfl) rfl rfl (by exact Rd.io T rfl rfl rfl rfl rfl rfl rfl y38) ?_
 refine U.r rfl (.none rfl) rfl rfl (by exact Rd.le T rfl rfl rfl (Qb y38).2.2 rfl rfl rfl) ?_
 refine U.pd 1 T (C.xs ?_)
 refine C.jn (fun (x39:Bool)=>[(0,.sl 1 eLeI l),(3,.i x5),(4,.o 0),(7,.i (-1)),(9,.i x38),(12,.sl 1 eLeI l),(13,.i (l.length:Int)),(14,.i s12.2),(21,.o 1),(22,.i (x28.length:Int)),(23,.i s31),(41,.b x39)]) (fun x39=>[(0,.val (.os 1 eI s12.1)),(1,.val (.os 1 eI x28))]) 2 g (fun x39 g=>?_) fun J40 g j40=>?_
 refine C.nx ?_
 refine C.ite rfl g (fun b46 g=>?_) fun b46 g=>?_
 refine C.ss (U.pd 2 T (C.nx (C.exit ?_)))
 refine C.bex' rfl ?_
 refine C.ex (C.ex (C.bex ?_))
 exact St.wa [some 0] (j30 _ g)
 refine C.skip (C.bnx (C.nx (U.start (U.pd 2 T (C.nx ?_)))))
 exact St.wk (C.next g) (Wk.a (idR 2))
 refine U.start (U.ps 2 T rfl (U.k (Kb s12.1 x38 _ g) en25 (fun x41 g=>?_)))
 refine U.ps 2 T rfl ?_
 refine g.cs (fun b42 g=>?_) fun b42 g=>?_
 refine U.sk' 9 4 true 31 (ntF b42) ?_
 refine U.pk' (ntF b42) ?_
 refine U.done ?_
 exact St.wa (idR 2) (j40 _ g)
 refine U.pq 2 4 true 31 (ntT b42) T ?_
 refine U.k (XX s12.1 _ g) en26 (fun x43 g=>?_) (hw:=.take 4 true 31 _ (ntT b42) rfl rfl rfl)
 refine U.pq 1 4 true 31 (ntT b42) T ?_
 refine U.e1 rfl (.tk 4 true 31 (ntT b42)) (by exact Eff1.bs T (enc:=eI) (xs:=([x38]:List Int)) rfl rfl rfl rfl rfl rfl rfl rfl rfl rfl (fun _ _=>rfl) rfl rfl) ?_
 obtain⟨y44,g⟩:=g
 refine U.e1 rfl (.tk 4 true 31 (ntT b42)) (by exact Eff1.ap T rfl rfl rfl rfl rfl rfl (.inr ⟨_,rfl,rfl⟩) rfl rfl rfl (fun _=>rfl) rfl y44) ?_
 refine U.k (WZ l (x43++([x38]:List Int)) _ g) en21 (fun x45 g=>?_) (hw:=.take 4 true 31 _ (ntT b42) rfl rfl rfl)
 refine U.pq 2 4 true 31 (ntT b42) T ?_
 refine U.pk (ntT b42) ?_
 refine U.done ?_
 exact St.wa (idR 2) (j40 _ g)
 refine C.exit (C.ex (C.ex (C.bex ?_)))
 exact St.wa [some 0] (j30 _ g)
 refine C.exit (C.ex (C.ex (C.bex ?_)))
 exact St.wa [some 0] (j11 _ g)
theorem Xv (s_1:List (List Int)) (post:(List (List Int))→Prop) (g:Qs s_1 post):
  Tr Try.prog 27 [.sl 1 eLeI s_1] [] 0 (fun A H' k=>∃y,post y∧A=(.o 0)∧H'=[(0,.val (.os 1 eLeI y))]∧k=1):=by
 refine Tr.go Try.func27 Try.ntmps27 fun _ _ _ _ o=>?_
 unfold Qs at g
 refine C.ss (U.pd 1 T (C.xs (C.ss ?_)))
 refine U.ps 1 T rfl (U.e rfl (.none rfl) (by exact Eff.isnil T true rfl rfl rfl rfl rfl rfl (.inl ⟨.sl,rfl⟩) rfl) (fun b5' hhb5=>?_))
 obtain⟨b5⟩:=b5'
 replace g:=g b5 hhb5
 refine U.done (C.nx ?_)
 refine C.ite rfl g (fun b6 g=>?_) fun b6 g=>?_
 refine C.ss (U.pd 1 T (C.nx (C.ret (C.rt ?_))))
 exact C.g1 [none] T o ⟨[],g,rfl,rfl,rfl⟩
 refine C.skip (C.xt (U.bs T eLeI ([]:List (List Int)) ?_))
 refine U.ps 1 T rfl ?_
 obtain⟨y11,g⟩:=g
 refine U.ap T y11 ?_
 refine U.pd 1 T (C.nx (C.ret ?_))
 exact C.g1 [some 1] T o ⟨(([]:List (List Int))++s_1),g,rfl,rfl,rfl⟩
theorem Yz (c:Int) (post:Bool→Prop) (g:KH c post):
  Tr Try.prog 29 [.i c] [] 0 (pB post):=by
 refine Tr.go Try.func29 Try.ntmps29 fun _ _ _ _ o=>?_
 unfold KH at g
 refine C.ss (U.pd 1 T (C.xt ?_))
 refine U.pd 3 T (C.nx (C.ret ?_))
 exact C.f1 T o (pBi g)
theorem Kv (s_1:List Int) (post:Int→Prop) (g:Qf s_1 post):
  Tr Try.prog 57 [.sl 1 eI s_1,.fn (.func 29) [] []] [] 0 (pI post):=by
 refine Tr.go Try.func57 Try.ntmps57 fun _ _ _ _ o=>?_
 unfold Qf at g
 refine C.ss (U.pd 1 T (C.xs (C.ss ?_)))
 refine U.pd 3 T (C.nx ?_)
 refine C.jn (fun (x5:Unit)=>[]) (fun x5=>[]) 0 g (fun x5 g=>?_) fun J6 g j6=>?_
 refine C.xt (U.pd 1 T (C.nx (C.ret ?_)))
 exact C.f1 T o (pIi g)
 refine C.block (St.wk (C.loop (fun (s7:Int)=>[(0,.sl 1 eI s_1),(1,.fn (.func 29) [] []),(7,.i (s_1.length:Int)),(8,.i s7)]) (fun s7=>[]) g (fun s7 Y8 g=>?_)) (Wk.e))
 refine C.ss (U.pd 1 T (C.xs ?_))
 refine C.ite rfl g (fun b11 g=>?_) fun b11 g=>?_
 refine C.skip (C.xs (C.block (C.ss (U.pd 2 T (C.xt ?_)))))
 refine U.ps 3 T rfl ?_
 obtain⟨x16,y16,g⟩:=g
 refine U.ix T y16 ?_
 refine U.ps 1 T rfl (U.k (Yz x16 _ g) en29 (fun x17 g=>?_))
 refine U.done (C.nx ?_)
 refine C.ite rfl g (fun b18 g=>?_) fun b18 g=>?_
 refine C.ss (U.pd 2 T (C.nx (C.ret (C.brt (C.rt (C.rt (C.brt (C.rt ?_))))))))
 exact C.f1 T o (pIi g)
 refine C.skip (C.bnx (C.nx (U.start (U.pd 2 T (C.nx ?_)))))
 exact St.wk (C.next g) (Wk.e)
 refine C.exit (C.ex (C.ex (C.bex ?_)))
 exact St.wk (j6 _ g) (Wk.mk' [] rfl rfl trivial trivial rfl)
theorem Kl (s_1:List Int) (post:Bool→Prop) (g:Q8 s_1 post):
  Tr Try.prog 28 [.sl 1 eI s_1,.fn (.func 29) [] []] [] 0 (pB post):=by
 refine Tr.go Try.func28 Try.ntmps28 fun _ _ _ _ o=>?_
 unfold Q8 at g
 refine C.ss (U.pd 1 T (C.xt ?_))
 refine U.ps 2 T rfl (U.k (Kv s_1 _ g) en57 (fun x5 g=>?_))
 refine U.pd 2 T (C.nx (C.ret ?_))
 exact C.f1 T o (pBi g)
theorem WB (l:List (List Int)) (post:(List (List Int))→Prop) (g:KP l post):
  Tr Try.prog 10 [.sl 1 eLeI l] [] 0 (fun A H' k=>∃y,post y∧A=(.o 0)∧H'=[(0,.val (.os 1 eOeI y))]∧k=1):=by
 refine Tr.go Try.func10 Try.ntmps10 fun _ _ _ _ o=>?_
 unfold KP at g
 refine C.ss (U.pd 1 T (C.xt ?_))
 refine U.ps 1 T rfl (U.e rfl (.none rfl) (by exact Eff.c [] (v:=false) (Xv l _ g) en27 rfl rfl rfl (.eq rfl) trivial rfl rfl rfl rfl rfl rfl (fun h=>by cases h) (.inr ⟨rfl,rfl⟩) (fun _=>rfl) (fun _=>rfl) rfl) (fun x5' g=>?_))
 obtain⟨x5⟩:=x5'
 refine U.pd 1 T (C.xt ?_)
 refine U.pd 1 T (C.nx (C.block ?_))
 refine St.wk (C.loop (fun (s10:List (List Int)×List (List Int))=>[(3,.o 0),(4,.o 1)]) (fun s10=>[(0,.val (.os 1 eLeI s10.1)),(1,.val (.os 1 eOeI s10.2))]) g (fun s10 Y11 g=>?_)) (Wk.mk' [some 0,none] rfl rfl ⟨⟨_,rfl,(.eq rfl)⟩,⟨_,rfl,(.nilO _ _ ⟨rfl,rfl⟩ rfl)⟩,trivial⟩ ⟨vL,⟨_,rfl,.nil _ _⟩,trivial⟩ rfl)
 refine C.jn (fun (x12:List (List Int)×List (List Int))=>[(3,.o 0),(4,.o 1)]) (fun x12=>[(0,.val (.os 1 eLeI x12.1)),(1,.val (.os 1 eOeI x12.2))]) 2 g (fun x12 g=>?_) fun J13 g j13=>?_
 refine C.nx ?_
 exact St.wk (C.next g) (Wk.a (idR 2))
 refine C.block (C.ss (U.ps 1 T rfl (U.k (XY s10.1 _ g) en8 (fun x16 g=>?_))))
 refine U.pd 1 T (C.xs (C.ss ?_))
 refine U.ps 1 T rfl (U.k (Kl x16 _ g) en28 (fun x19 g=>?_))
 refine U.pd 1 T (C.nx ?_)
 refine C.ite rfl g (fun b20 g=>?_) fun b20 g=>?_
 refine C.ss (U.pd 2 T (C.nx (C.ret (C.rt (C.brt (C.rt (C.brt ?_)))))))
 exact C.g1 [some 1] T o ⟨s10.2,g,rfl,rfl,rfl⟩
 refine C.skip (C.xs (C.ss (U.pd 3 T (C.nx ?_))))
 refine C.jn (fun (x25:List (List Int))=>[(3,.o 0),(4,.o 1),(5,.o 2)]) (fun x25=>[(0,.val (.os 1 eLeI x25)),(1,.val (.os 1 eOeI s10.2)),(2,.val (.os 1 eI x16))]) 3 g (fun x25 g=>?_) fun J26 g j26=>?_
 refine C.nx (U.start (U.ps 2 T rfl (U.e1 rfl (.none rfl) (by exact Eff1.bsl T (enc:=eOeI) x16 rfl rfl rfl rfl rfl rfl rfl rfl rfl) ?_)))
 obtain⟨y47,g⟩:=g
 refine U.e1 rfl (.none rfl) (by exact Eff1.apl T rfl rfl rfl rfl rfl rfl rfl (fun _=>rfl) rfl rfl rfl rfl ⟨_,rfl,rfl⟩ y47) ?_
 refine U.pd 1 T ?_
 refine St.putb (l:=4) (l':=2) (y:=x16) rfl rfl rfl (fun _ h=>nomatch h) rfl _ rfl ?_
 refine C.bnx ?_
 exact St.wa [some 0,some 4] (j13 _ g)
 refine C.block (St.wk (C.loop (fun (s27:List (List Int)×Int)=>[(3,.o 0),(4,.o 1),(5,.o 2),(16,.o 2),(17,.i (x16.length:Int)),(18,.i s27.2)]) (fun s27=>[(0,.val (.os 1 eLeI s27.1)),(1,.val (.os 1 eOeI s10.2)),(2,.val (.os 1 eI x16))]) g (fun s27 Y28 g=>?_)) (Wk.a (idR 3)))
 refine C.ss (U.pd 1 T (C.xs ?_))
 refine C.ite rfl g (fun b31 g=>?_) fun b31 g=>?_
 refine C.skip (C.xs (C.block (C.ss (U.ps 1 T rfl ?_))))
 obtain⟨x34,y34,g⟩:=g
 refine U.r rfl (.none rfl) rfl rfl (by exact Rd.io T rfl rfl rfl rfl rfl rfl rfl y34) ?_
 refine U.r rfl (.none rfl) rfl rfl (by exact Rd.le T rfl rfl rfl (Qb y34).2.2 rfl rfl rfl) ?_
 refine U.pd 2 T (C.xt ?_)
 refine U.pd 2 T (C.nx ?_)
 refine C.jn (fun (x37:List (List Int))=>[(3,.o 0),(4,.o 1),(5,.o 2),(16,.o 2),(17,.i (x16.length:Int)),(18,.i s27.2)]) (fun x37=>[(0,.val (.os 1 eLeI x37)),(1,.val (.os 1 eOeI s10.2)),(2,.val (.os 1 eI x16))]) 3 g (fun x37 g=>?_) fun J38 g j38=>?_
 refine C.bnx (C.nx (U.start (U.pd 2 T (C.nx ?_))))
 exact St.wk (C.next g) (Wk.a (idR 3))
 refine C.ite rfl g (fun b39 g=>?_) fun b39 g=>?_
 refine U.start (U.ps 2 T rfl ?_)
 obtain⟨x42,y42,g⟩:=g
 refine U.r rfl (.none rfl) rfl rfl (by exact Rd.io T rfl rfl rfl rfl rfl rfl rfl y42) ?_
 refine U.e1 rfl (.none rfl) (by exact Eff1.seN T (z':=[]) rfl rfl rfl (Qb y42).2.2 rfl rfl rfl rfl rfl rfl (.cons (.sl _ _) .nil) rfl (fun _=>rfl) rfl) ?_
 refine U.done ?_
 exact St.wa (idR 3) (j38 _ g)
 refine C.skip ?_
 exact St.wa (idR 3) (j38 _ g)
 refine C.exit (C.ex (C.ex (C.bex ?_)))
 exact St.wa (idR 3) (j26 _ g)
theorem QN (a:List Int) (b:List Int) (post:Bool→Prop) (g:Qc a b post):
  Tr Try.prog 11 [.sl 1 eI a,.sl 1 eI b] [] 0 (pB post):=by
 refine Tr.go Try.func11 Try.ntmps11 fun _ _ _ _ o=>?_
 unfold Qc at g
 refine C.ss (U.pd 1 T (C.xs (C.ss ?_)))
 refine U.pd 5 T (C.nx ?_)
 refine C.ite rfl g (fun b5 g=>?_) fun b5 g=>?_
 refine C.ss (U.pd 1 T (C.nx (C.ret (C.rt ?_))))
 exact C.f1 T o (pBi g)
 refine C.skip (C.xs (C.ss (U.pd 1 T (C.nx ?_))))
 refine C.jn (fun (x10:Unit)=>[]) (fun x10=>[]) 0 g (fun x10 g=>?_) fun J11 g j11=>?_
 refine C.xt (U.pd 1 T (C.nx (C.ret ?_)))
 exact C.f1 T o (pBi g)
 refine C.block (St.wk (C.loop (fun (s12:Int)=>[(0,.sl 1 eI a),(1,.sl 1 eI b),(5,.i s12)]) (fun s12=>[]) g (fun s12 Y13 g=>?_)) (Wk.e))
 refine C.seq (C.ss (U.pd 4 T (C.nx ?_)))
 refine C.ite rfl g (fun b16 g=>?_) fun b16 g=>?_
 refine C.skip (C.xs (C.block (C.seq (D.bq mix 9999 [] [] (fun hQ hS ws M'=>?_)))))
 refine D.pq 2 (zl [0,1]) T ?_
 obtain⟨x19,y19,g⟩:=g
 refine D.ix 2 [] T y19 ?_
 refine D.pq 3 (zl [3,4,5]) T ?_
 obtain⟨x20,y20,g⟩:=g
 refine D.ix 6 [] T y20 ?_
 refine D.pq 2 (zl [7,8]) T ?_
 refine D.done (by kernel_rfl) ?_
 refine C.nx ?_
 refine C.ite rfl g (fun b21 g=>?_) fun b21 g=>?_
 refine C.ss (U.pd 1 T (C.nx (C.ret (C.brt (C.rt (C.rt (C.brt (C.rt ?_))))))))
 exact C.f1 T o (pBi g)
 refine C.skip (C.bnx (C.nx (U.start (U.pd 3 T (C.nx ?_)))))
 exact St.wk (C.next g) (Wk.e)
 refine C.exit (C.ex (C.ex (C.bex ?_)))
 exact St.wk (j11 _ g) (Wk.mk' [] rfl rfl trivial trivial rfl)
theorem Gy (post:Bool→Prop) (g:K5 post):
  Tr Try.prog 6 [] [] 0 (pB post):=by
 refine Tr.go Try.func6 Try.ntmps6 fun _ _ _ _ o=>?_
 unfold K5 at g
 refine C.ss (U.pd 1 T (C.xt ?_))
 refine U.bs T eI ([5,9]:List Int) ?_
 refine U.bs T eI ([5]:List Int) ?_
 refine St.wk (Γ':=[(0,.b false),(5,.sl 1 eI ([5,9]:List Int)),(6,.sl 1 eI ([5]:List Int))]) (H':=[]) (nl':=0) ?_ (Wk.mk' [] rfl rfl ⟨⟨_,rfl,(.eq rfl)⟩,⟨_,rfl,(.fz rfl rfl rfl (.os fun _=>.cons (.ro rfl) .nil))⟩,⟨_,rfl,(.fz rfl rfl rfl (.os fun _=>.cons (.ro rfl) .nil))⟩,trivial⟩ trivial rfl)
 refine U.bs T eLeI ([([5,9]:List Int),([5]:List Int)]:List (List Int)) ?_
 refine U.k (XY ([([5,9]:List Int),([5]:List Int)]:List (List Int)) _ g) en8 fun x5 g=>?_
 refine U.pd 1 T (C.xt ?_)
 refine U.bs T eI ([5,9]:List Int) ?_
 refine U.bs T eI ([5]:List Int) ?_
 refine U.bs T eI ([9]:List Int) ?_
 refine St.wk (Γ':=[(0,.b false),(1,.o 0),(5,.sl 1 eI ([5,9]:List Int)),(6,.sl 1 eI ([5]:List Int)),(7,.o 1),(8,.o 0),(9,.sl 1 eI ([5,9]:List Int)),(10,.sl 1 eI ([5]:List Int)),(11,.sl 1 eI ([9]:List Int))]) (H':=[(0,.val (.os 1 eI x5)),(1,.val (.os 1 eLeI ([([5,9]:List Int),([5]:List Int)]:List (List Int))))]) (nl':=2) ?_ (Wk.mk' [some 1,some 0] rfl rfl ⟨⟨_,rfl,(.eq rfl)⟩,⟨_,rfl,(.eq rfl)⟩,⟨_,rfl,(.eq rfl)⟩,⟨_,rfl,(.eq rfl)⟩,⟨_,rfl,(.eq rfl)⟩,⟨_,rfl,(.eq rfl)⟩,⟨_,rfl,(.fz rfl rfl rfl (.os fun _=>.cons (.ro rfl) .nil))⟩,⟨_,rfl,(.fz rfl rfl rfl (.os fun _=>.cons (.ro rfl) .nil))⟩,⟨_,rfl,(.fz rfl rfl rfl (.os fun _=>.cons (.ro rfl) .nil))⟩,trivial⟩ ⟨vL,vL,trivial⟩ rfl)
 refine U.bs T eLeI ([([5,9]:List Int),([5]:List Int),([9]:List Int)]:List (List Int)) ?_
 refine U.k (XY ([([5,9]:List Int),([5]:List Int),([9]:List Int)]:List (List Int)) _ g) en8 fun x8 g=>?_
 refine U.pd 1 T (C.xt ?_)
 refine U.bs T eI ([5,9]:List Int) ?_
 refine U.bs T eI ([5]:List Int) ?_
 refine U.bs T eI ([9]:List Int) ?_
 refine St.wk (Γ':=[(0,.b false),(1,.o 0),(2,.o 1),(5,.sl 1 eI ([5,9]:List Int)),(6,.sl 1 eI ([5]:List Int)),(7,.o 2),(8,.o 0),(9,.sl 1 eI ([5,9]:List Int)),(10,.sl 1 eI ([5]:List Int)),(11,.sl 1 eI ([9]:List Int)),(12,.o 3),(13,.o 1),(14,.sl 1 eI ([5,9]:List Int)),(15,.sl 1 eI ([5]:List Int)),(16,.sl 1 eI ([9]:List Int))]) (H':=[(0,.val (.os 1 eI x5)),(1,.val (.os 1 eI x8)),(2,.val (.os 1 eLeI ([([5,9]:List Int),([5]:List Int)]:List (List Int)))),(3,.val (.os 1 eLeI ([([5,9]:List Int),([5]:List Int),([9]:List Int)]:List (List Int))))]) (nl':=4) ?_ (Wk.mk' [some 0,some 3,some 1,some 2] rfl rfl ⟨⟨_,rfl,(.eq rfl)⟩,⟨_,rfl,(.eq rfl)⟩,⟨_,rfl,(.eq rfl)⟩,⟨_,rfl,(.eq rfl)⟩,⟨_,rfl,(.eq rfl)⟩,⟨_,rfl,(.eq rfl)⟩,⟨_,rfl,(.eq rfl)⟩,⟨_,rfl,(.eq rfl)⟩,⟨_,rfl,(.eq rfl)⟩,⟨_,rfl,(.eq rfl)⟩,⟨_,rfl,(.eq rfl)⟩,⟨_,rfl,(.eq rfl)⟩,⟨_,rfl,(.fz rfl rfl rfl (.os fun _=>.cons (.ro rfl) .nil))⟩,⟨_,rfl,(.fz rfl rfl rfl (.os fun _=>.cons (.ro rfl) .nil))⟩,⟨_,rfl,(.fz rfl rfl rfl (.os fun _=>.cons (.ro rfl) .nil))⟩,trivial⟩ ⟨vL,vL,vL,vL,trivial⟩ rfl)
 refine U.bs T eLeI ([([5,9]:List Int),([5]:List Int),([9]:List Int)]:List (List Int)) ?_
 refine U.k (WB ([([5,9]:List Int),([5]:List Int),([9]:List Int)]:List (List Int)) _ g) en10 fun x11 g=>?_
 refine U.pd 1 T (C.xt ?_)
 refine U.bs T eI ([5]:List Int) ?_
 refine U.bs T eI ([5]:List Int) ?_
 refine St.wk (Γ':=[(0,.b false),(1,.o 0),(2,.o 1),(3,.o 2),(5,.sl 1 eI ([5,9]:List Int)),(6,.sl 1 eI ([5]:List Int)),(7,.o 3),(8,.o 0),(9,.sl 1 eI ([5,9]:List Int)),(10,.sl 1 eI ([5]:List Int)),(11,.sl 1 eI ([9]:List Int)),(12,.o 4),(13,.o 1),(14,.sl 1 eI ([5,9]:List Int)),(15,.sl 1 eI ([5]:List Int)),(16,.sl 1 eI ([9]:List Int)),(17,.o 5),(18,.o 2),(19,.sl 1 eI ([5]:List Int)),(20,.sl 1 eI ([5]:List Int))]) (H':=[(0,.val (.os 1 eI x5)),(1,.val (.os 1 eI x8)),(2,.val (.os 1 eOeI x11)),(3,.val (.os 1 eLeI ([([5,9]:List Int),([5]:List Int)]:List (List Int)))),(4,.val (.os 1 eLeI ([([5,9]:List Int),([5]:List Int),([9]:List Int)]:List (List Int)))),(5,.val (.os 1 eLeI ([([5,9]:List Int),([5]:List Int),([9]:List Int)]:List (List Int))))]) (nl':=6) ?_ (Wk.mk' [some 0,some 1,some 5,some 2,some 3,some 4] rfl rfl ⟨⟨_,rfl,(.eq rfl)⟩,⟨_,rfl,(.eq rfl)⟩,⟨_,rfl,(.eq rfl)⟩,⟨_,rfl,(.eq rfl)⟩,⟨_,rfl,(.eq rfl)⟩,⟨_,rfl,(.eq rfl)⟩,⟨_,rfl,(.eq rfl)⟩,⟨_,rfl,(.eq rfl)⟩,⟨_,rfl,(.eq rfl)⟩,⟨_,rfl,(.eq rfl)⟩,⟨_,rfl,(.eq rfl)⟩,⟨_,rfl,(.eq rfl)⟩,⟨_,rfl,(.eq rfl)⟩,⟨_,rfl,(.eq rfl)⟩,⟨_,rfl,(.eq rfl)⟩,⟨_,rfl,(.eq rfl)⟩,⟨_,rfl,(.eq rfl)⟩,⟨_,rfl,(.eq rfl)⟩,⟨_,rfl,(.fz rfl rfl rfl (.os fun _=>.cons (.ro rfl) .nil))⟩,⟨_,rfl,(.fz rfl rfl rfl (.os fun _=>.cons (.ro rfl) .nil))⟩,trivial⟩ ⟨vL,vL,vL,vL,vL,vL,trivial⟩ rfl)
 refine U.e1 rfl (.none rfl) (by exact Eff1.re (A':=.os 1 eLeI ([([5]:List Int),[],([5]:List Int)]:List (List Int))) (Eff1.bs T (enc:=fun i:Nat=>([[.sl 1 eI ([5]:List Int)],[vN],[.sl 1 eI ([5]:List Int)]]:List (List AVal)).getD i []) (xs:=[0,1,2]) rfl rfl rfl rfl rfl rfl rfl rfl rfl rfl (fun y hy=>by simp at hy;(try rcases hy with rfl | rfl | rfl) <;> (try subst hy) <;> rfl) rfl rfl) (fun _ _ _ _ _ h=>((.cons (.cons (.refl _) .nil) (.cons (.cons (.sl _ _) .nil) (.cons (.cons (.refl _) .nil) .nil))):NlR _ _ _ _).on h)) ?_
 refine U.k (WB ([([5]:List Int),[],([5]:List Int)]:List (List Int)) _ g) en10 fun x14 g=>?_
 refine U.pd 1 T (C.xs (C.seq ?_))
 refine C.jn (fun (x15:Bool)=>[(1,.o 0),(2,.o 1),(3,.o 2),(4,.o 3),(30,.b x15)]) (fun x15=>[(0,.val (.os 1 eI x5)),(1,.val (.os 1 eI x8)),(2,.val (.os 1 eOeI x11)),(3,.val (.os 1 eOeI x14))]) 4 g (fun x15 g=>?_) fun J16 g j16=>?_
 refine C.nx ?_
 refine C.ite rfl g (fun b18 g=>?_) fun b18 g=>?_
 refine C.ss (U.pd 1 T (C.nx (C.ret (C.rt ?_))))
 exact C.f1 T o (pBi g)
 refine C.skip (C.xs ?_)
 refine C.jn (fun (x21:Bool)=>[(0,.b x21)]) (fun x21=>[]) 0 g (fun x21 g=>?_) fun J22 g j22=>?_
 refine C.nx (C.ret ?_)
 exact C.f1 T o (pBi g)
 refine U.start (U.ps 1 T rfl (U.bs T eI ([9,5]:List Int) ?_))
 refine U.k (QN x5 ([9,5]:List Int) _ g) en11 fun x23 g=>?_
 refine U.ps 1 T rfl ?_
 refine g.cs (fun b24 g=>?_) fun b24 g=>?_
 refine U.pq 1 3 true 34 b24 T ?_
 refine U.e1 rfl (.tk 3 true 34 b24) (by exact Eff1.bs T (enc:=eI) (xs:=([5,(-1),9]:List Int)) rfl rfl rfl rfl rfl rfl rfl rfl rfl rfl (fun _ _=>rfl) rfl rfl) ?_
 refine U.k (QN x8 ([5,(-1),9]:List Int) _ g) en11 (fun x25 g=>?_) (hw:=.take 3 true 34 _ b24 rfl rfl rfl)
 refine U.pk b24 ?_
 refine U.ps 1 T rfl ?_
 refine g.cs (fun b26 g=>?_) fun b26 g=>?_
 refine U.pq 1 8 true 39 b26 T ?_
 obtain⟨x27,y27,g⟩:=g
 refine U.r rfl (.tk 8 true 39 b26) rfl rfl (by exact Rd.io T rfl rfl rfl rfl rfl rfl rfl y27) ?_
 refine St.lend (l:=2) (i:=(Int.toNat 0)) rfl (Qb y27).2.2 rfl (fun _=>rfl) ?_
 refine U.r rfl (.tk 8 true 39 b26) rfl rfl (by exact Rd.ll T rfl rfl rfl (.head _) rfl rfl rfl rfl) ?_
 refine U.pq 1 8 true 39 b26 T ?_
 refine U.k (QN x27 x8 _ g) en11 (fun x28 g=>?_) (hw:=.take 8 true 39 _ b26 rfl rfl rfl)
 refine U.pk b26 ?_
 refine U.ps 1 T rfl ?_
 refine g.cs (fun b29 g=>?_) fun b29 g=>?_
 refine U.pq 1 15 true 46 b29 T ?_
 obtain⟨x30,y30,g⟩:=g
 refine U.r rfl (.tk 15 true 46 b29) rfl rfl (by exact Rd.il T rfl rfl rfl rfl rfl rfl rfl y30) ?_
 obtain⟨y31,g⟩:=g
 refine St.lend2 (l:=2) (i:=(Int.toNat 1)) rfl (fun p hp=>by simp only [List.mem_singleton] at hp;subst hp;exact y31) (Qb y30).2.2 rfl ?_
 refine U.r rfl (.tk 15 true 46 b29) rfl rfl (by exact Rd.ll T rfl rfl rfl (.head _) rfl rfl rfl rfl) ?_
 refine U.e1 rfl (.tk 15 true 46 b29) (by exact Eff1.bs T (enc:=eI) (xs:=([(-1),5,(-1)]:List Int)) rfl rfl rfl rfl rfl rfl rfl rfl rfl rfl (fun _ _=>rfl) rfl rfl) ?_
 refine U.k (QN x30 ([(-1),5,(-1)]:List Int) _ g) en11 (fun x32 g=>?_) (hw:=.take 15 true 46 _ b29 rfl rfl rfl)
 refine U.pk b29 ?_
 refine U.ps 1 T rfl ?_
 refine g.cs (fun b33 g=>?_) fun b33 g=>?_
 refine U.pq 1 22 true 53 b33 T ?_
 obtain⟨x34,y34,g⟩:=g
 refine U.r rfl (.tk 22 true 53 b33) rfl rfl (by exact Rd.io T rfl rfl rfl rfl rfl rfl rfl y34) ?_
 refine St.lend (l:=3) (i:=(Int.toNat 0)) rfl (Qb y34).2.2 rfl (fun _=>rfl) ?_
 refine U.r rfl (.tk 22 true 53 b33) rfl rfl (by exact Rd.ll T rfl rfl rfl (.head _) rfl rfl rfl rfl) ?_
 refine U.e1 rfl (.tk 22 true 53 b33) (by exact Eff1.bs T (enc:=eI) (xs:=([5,(-1),(-1)]:List Int)) rfl rfl rfl rfl rfl rfl rfl rfl rfl rfl (fun _ _=>rfl) rfl rfl) ?_
 refine U.k (QN x34 ([5,(-1),(-1)]:List Int) _ g) en11 (fun x35 g=>?_) (hw:=.take 22 true 53 _ b33 rfl rfl rfl)
 refine U.pk b33 ?_
 refine U.ps 1 T rfl ?_
 refine g.cs (fun b36 g=>?_) fun b36 g=>?_
 refine U.pq 1 29 true 60 b36 T ?_
 obtain⟨x37,y37,g⟩:=g
 refine U.r rfl (.tk 29 true 60 b36) rfl rfl (by exact Rd.il T rfl rfl rfl rfl rfl rfl rfl y37) ?_
 obtain⟨y38,g⟩:=g
 refine St.lend2 (l:=3) (i:=(Int.toNat 1)) rfl (fun p hp=>by simp only [List.mem_singleton] at hp;subst hp;exact y38) (Qb y37).2.2 rfl ?_
 refine U.r rfl (.tk 29 true 60 b36) rfl rfl (by exact Rd.ll T rfl rfl rfl (.head _) rfl rfl rfl rfl) ?_
 refine U.e1 rfl (.tk 29 true 60 b36) (by exact Eff1.bs T (enc:=eI) (xs:=([(-1),(-1),5]:List Int)) rfl rfl rfl rfl rfl rfl rfl rfl rfl rfl (fun _ _=>rfl) rfl rfl) ?_
 refine U.k (QN x37 ([(-1),(-1),5]:List Int) _ g) en11 (fun x39 g=>?_) (hw:=.take 29 true 60 _ b36 rfl rfl rfl)
 refine U.pk b36 ?_
 refine U.pd 1 T ?_
 refine St.putb (l:=2) (l':=7) (y:=x30) rfl rfl rfl (fun p hp=>by simp only [List.mem_singleton] at hp;subst hp;exact y38) rfl _ rfl ?_
 refine St.putb (l:=2) (l':=6) (y:=x27) rfl rfl rfl (fun _ h=>nomatch h) rfl _ rfl ?_
 refine St.putb (l:=3) (l':=11) (y:=x37) rfl rfl rfl (fun p hp=>by simp only [List.mem_singleton] at hp;subst hp;exact y38) rfl _ rfl ?_
 refine St.putb (l:=3) (l':=9) (y:=x34) rfl rfl rfl (fun _ h=>nomatch h) rfl _ rfl ?_
 exact St.wn (j22 _ g)
 refine U.sk' 5 29 true 60 b36 ?_
 refine U.pk' b36 ?_
 refine U.pd 1 T ?_
 refine St.putb (l:=2) (l':=7) (y:=x30) rfl rfl rfl (fun p hp=>by simp only [List.mem_singleton] at hp;subst hp;exact y31) rfl _ rfl ?_
 refine St.putb (l:=2) (l':=6) (y:=x27) rfl rfl rfl (fun _ h=>nomatch h) rfl _ rfl ?_
 refine St.putb (l:=3) (l':=9) (y:=x34) rfl rfl rfl (fun _ h=>nomatch h) rfl _ rfl ?_
 exact St.wn (j22 _ g)
 refine U.sk' 5 22 true 53 b33 ?_
 refine U.pk' b33 ?_
 refine U.ps 1 T rfl (U.sk' 5 29 true 60 rfl ?_)
 refine U.pk' rfl ?_
 refine U.pd 1 T ?_
 refine St.putb (l:=2) (l':=7) (y:=x30) rfl rfl rfl (fun p hp=>by simp only [List.mem_singleton] at hp;subst hp;exact y31) rfl _ rfl ?_
 refine St.putb (l:=2) (l':=6) (y:=x27) rfl rfl rfl (fun _ h=>nomatch h) rfl _ rfl ?_
 exact St.wn (j22 _ g)
 refine U.sk' 5 15 true 46 b29 ?_
 refine U.pk' b29 ?_
 refine U.ps 1 T rfl (U.sk' 5 22 true 53 rfl ?_)
 refine U.pk' rfl ?_
 refine U.ps 1 T rfl (U.sk' 5 29 true 60 rfl ?_)
 refine U.pk' rfl ?_
 refine U.pd 1 T ?_
 refine St.putb (l:=2) (l':=6) (y:=x27) rfl rfl rfl (fun _ h=>nomatch h) rfl _ rfl ?_
 exact St.wn (j22 _ g)
 refine U.sk' 5 8 true 39 b26 ?_
 refine U.pk' b26 ?_
 refine U.ps 1 T rfl (U.sk' 5 15 true 46 rfl ?_)
 refine U.pk' rfl ?_
 refine U.ps 1 T rfl (U.sk' 5 22 true 53 rfl ?_)
 refine U.pk' rfl ?_
 refine U.ps 1 T rfl (U.sk' 5 29 true 60 rfl ?_)
 refine U.pk' rfl ?_
 refine U.pd 1 T ?_
 exact St.wn (j22 _ g)
 refine U.sk' 3 3 true 34 b24 ?_
 refine U.pk' b24 ?_
 refine U.ps 1 T rfl (U.sk' 5 8 true 39 rfl ?_)
 refine U.pk' rfl ?_
 refine U.ps 1 T rfl (U.sk' 5 15 true 46 rfl ?_)
 refine U.pk' rfl ?_
 refine U.ps 1 T rfl (U.sk' 5 22 true 53 rfl ?_)
 refine U.pk' rfl ?_
 refine U.ps 1 T rfl (U.sk' 5 29 true 60 rfl ?_)
 refine U.pk' rfl ?_
 refine U.pd 1 T ?_
 exact St.wn (j22 _ g)
 refine U.start (U.ps 4 T rfl ?_)
 refine g.cs (fun b17 g=>?_) fun b17 g=>?_
 refine U.sk' 3 3 false 26 b17 ?_
 refine U.pk b17 ?_
 refine U.done ?_
 exact St.wa [some 0,some 1,some 2,some 7] (j16 _ g)
 refine U.pq 3 3 false 26 b17 T ?_
 refine U.pk' b17 ?_
 refine U.done ?_
 exact St.wa [some 0,some 1,some 2,some 7] (j16 _ g)
theorem Wz (f:ApiFloor) (n:Int) (post:Bool→Prop) (g:Kh f n post):
  Tr Try.prog 30 [.agg (Qm f),.i n] [] 0 (pB post):=by
 refine Tr.go Try.func30 Try.ntmps30 fun _ _ _ _ o=>?_
 unfold Kh at g
 refine C.ss (U.bx ?_)
 refine U.pd 1 T (C.xs ?_)
 refine C.jn (fun (x3:Bool)=>[(4,.b x3)]) (fun x3=>[]) 0 g (fun x3 g=>?_) fun J4 g j4=>?_
 refine C.nx (C.ret ?_)
 exact C.f1 T o (pBi g)
 refine U.start (U.ps 6 T rfl ?_)
 refine g.cs (fun b5 g=>?_) fun b5 g=>?_
 refine U.pq 5 5 true 10 b5 T ?_
 refine U.pk b5 ?_
 refine U.pd 1 T ?_
 exact St.wn (j4 _ g)
 refine U.sk' 5 5 true 10 b5 ?_
 refine U.pk' b5 ?_
 refine U.pd 1 T ?_
 exact St.wn (j4 _ g)
theorem Wv (s_1:ApiSite) (cells:Int) (most:Int) (post:Bool→Prop) (g:Kf s_1 cells most post):
  Tr Try.prog 12 [.agg (Q1 s_1),.i cells,.i most] [] 0 (pB post):=by
 refine Tr.go Try.func12 Try.ntmps12 fun _ _ _ _ o=>?_
 unfold Kf at g
 refine C.ss (U.bx ?_)
 refine U.pd 1 T (C.xs (C.ss ?_))
 refine U.pd 1 T (C.nx ?_)
 refine C.jn (fun (x5:Unit)=>[(1,.i cells),(2,.i most),(3,.p 0 0)]) (fun x5=>[(0,.box (Q1 s_1))]) 1 g (fun x5 g=>?_) fun J6 g j6=>?_
 refine C.xs (C.ss (U.pd 1 T (C.nx ?_)))
 refine C.jn (fun (x25:Unit)=>[(1,.i cells),(2,.i most),(3,.p 0 0)]) (fun x25=>[(0,.box (Q1 s_1))]) 1 g (fun x25 g=>?_) fun J26 g j26=>?_
 refine C.xs (C.ss (U.pd 1 T (C.nx ?_)))
 refine C.jn (fun (x44:Unit)=>[(1,.i cells),(2,.i most),(3,.p 0 0)]) (fun x44=>[(0,.box (Q1 s_1))]) 1 g (fun x44 g=>?_) fun J45 g j45=>?_
 refine C.xs ?_
 refine C.jn (fun (x60:Bool)=>[(6,.b x60)]) (fun x60=>[]) 0 g (fun x60 g=>?_) fun J61 g j61=>?_
 refine C.nx (C.ret ?_)
 exact C.f1 T o (pBi g)
 refine U.start (U.ps 3 T rfl (U.k (Wz s_1.Floor cells _ g) en30 (fun x62 g=>?_)))
 refine U.ps 1 T rfl ?_
 refine g.cs (fun b63 g=>?_) fun b63 g=>?_
 refine U.pq 5 4 true 105 b63 T ?_
 refine U.pk b63 ?_
 refine U.ps 1 T rfl ?_
 refine g.cs (fun b64 g=>?_) fun b64 g=>?_
 refine U.pq 5 11 true 112 b64 T ?_
 refine U.pk b64 ?_
 refine U.ps 1 T rfl ?_
 refine g.cs (fun b65 g=>?_) fun b65 g=>?_
 refine U.pq 5 18 true 119 b65 T ?_
 refine U.pk b65 ?_
 refine U.ps 1 T rfl ?_
 refine g.cs (fun b66 g=>?_) fun b66 g=>?_
 refine U.pq 5 25 true 126 b66 T ?_
 refine U.pk b66 ?_
 refine U.pd 1 T ?_
 exact St.wn (j61 _ g)
 refine U.sk' 5 25 true 126 b66 ?_
 refine U.pk' b66 ?_
 refine U.pd 1 T ?_
 exact St.wn (j61 _ g)
 refine U.sk' 5 18 true 119 b65 ?_
 refine U.pk' b65 ?_
 refine U.ps 1 T rfl (U.sk' 5 25 true 126 rfl ?_)
 refine U.pk' rfl ?_
 refine U.pd 1 T ?_
 exact St.wn (j61 _ g)
 refine U.sk' 5 11 true 112 b64 ?_
 refine U.pk' b64 ?_
 refine U.ps 1 T rfl (U.sk' 5 18 true 119 rfl ?_)
 refine U.pk' rfl ?_
 refine U.ps 1 T rfl (U.sk' 5 25 true 126 rfl ?_)
 refine U.pk' rfl ?_
 refine U.pd 1 T ?_
 exact St.wn (j61 _ g)
 refine U.sk' 5 4 true 105 b63 ?_
 refine U.pk' b63 ?_
 refine U.ps 1 T rfl (U.sk' 5 11 true 112 rfl ?_)
 refine U.pk' rfl ?_
 refine U.ps 1 T rfl (U.sk' 5 18 true 119 rfl ?_)
 refine U.pk' rfl ?_
 refine U.ps 1 T rfl (U.sk' 5 25 true 126 rfl ?_)
 refine U.pk' rfl ?_
 refine U.pd 1 T ?_
 exact St.wn (j61 _ g)
 refine C.block (St.wk (C.loop (fun (s46:Int)=>[(1,.i cells),(2,.i most),(3,.p 0 0),(9,.i s46)]) (fun s46=>[(0,.box (Q1 s_1))]) g (fun s46 Y47 g=>?_)) (Wk.a [some 0]))
 refine C.seq (C.seq ?_)
 refine C.jn (fun (x48:Bool)=>[(1,.i cells),(2,.i most),(3,.p 0 0),(9,.i s46),(90,.b x48)]) (fun x48=>[(0,.box (Q1 s_1))]) 1 g (fun x48 g=>?_) fun J49 g j49=>?_
 refine C.nx ?_
 refine C.ite rfl g (fun b51 g=>?_) fun b51 g=>?_
 refine C.skip (C.xs (C.block (C.ss (U.ps 3 T rfl ?_))))
 obtain⟨x54,y54,g⟩:=g
 refine U.ix T y54 ?_
 refine U.pd 4 T (C.nx ?_)
 refine C.ite rfl g (fun b55 g=>?_) fun b55 g=>?_
 refine C.ss (U.pd 1 T (C.nx (C.ret (C.brt (C.rt (C.rt (C.brt (C.rt ?_))))))))
 exact C.f1 T o (pBi g)
 refine C.skip (C.bnx (C.nx (U.start (U.pd 3 T (C.nx ?_)))))
 exact St.wk (C.next g) (Wk.a [some 0])
 refine C.exit (C.ex (C.ex (C.bex ?_)))
 exact St.wa [some 0] (j45 _ g)
 refine U.start (U.ps 6 T rfl ?_)
 refine g.cs (fun b50 g=>?_) fun b50 g=>?_
 refine U.pq 3 5 true 86 b50 T ?_
 refine U.pk b50 ?_
 refine U.done ?_
 exact St.wa [some 0] (j49 _ g)
 refine U.sk' 3 5 true 86 b50 ?_
 refine U.pk' b50 ?_
 refine U.done ?_
 exact St.wa [some 0] (j49 _ g)
 refine C.block (St.wk (C.loop (fun (s27:Int)=>[(1,.i cells),(2,.i most),(3,.p 0 0),(8,.i s27)]) (fun s27=>[(0,.box (Q1 s_1))]) g (fun s27 Y28 g=>?_)) (Wk.a [some 0]))
 refine C.seq (C.seq ?_)
 refine C.jn (fun (x29:Bool)=>[(1,.i cells),(2,.i most),(3,.p 0 0),(8,.i s27),(60,.b x29)]) (fun x29=>[(0,.box (Q1 s_1))]) 1 g (fun x29 g=>?_) fun J30 g j30=>?_
 refine C.nx ?_
 refine C.ite rfl g (fun b32 g=>?_) fun b32 g=>?_
 refine C.skip (C.xs (C.block (C.seq ?_)))
 refine C.jn (fun (x33:Bool)=>[(1,.i cells),(2,.i most),(3,.p 0 0),(8,.i s27),(80,.b x33)]) (fun x33=>[(0,.box (Q1 s_1))]) 1 g (fun x33 g=>?_) fun J34 g j34=>?_
 refine C.nx ?_
 refine C.ite rfl g (fun b37 g=>?_) fun b37 g=>?_
 refine C.ss (U.pd 1 T (C.nx (C.ret (C.brt (C.rt (C.rt (C.brt (C.rt ?_))))))))
 exact C.f1 T o (pBi g)
 refine C.skip (C.bnx (C.nx (U.start (U.pd 3 T (C.nx ?_)))))
 exact St.wk (C.next g) (Wk.a [some 0])
 refine U.start (U.ps 3 T rfl ?_)
 obtain⟨x35,y35,g⟩:=g
 refine U.ix T y35 ?_
 refine U.ps 5 T rfl ?_
 refine g.cs (fun b36 g=>?_) fun b36 g=>?_
 refine U.sk' 8 8 false 71 b36 ?_
 refine U.pk b36 ?_
 refine U.done ?_
 exact St.wa [some 0] (j34 _ g)
 refine U.pq 3 8 false 71 b36 T ?_
 refine U.r rfl (.tk 8 false 71 b36) rfl rfl (by exact Rd.ix T rfl rfl rfl rfl rfl rfl y35) ?_
 refine U.pq 4 8 false 71 b36 T ?_
 refine U.pk' b36 ?_
 refine U.done ?_
 exact St.wa [some 0] (j34 _ g)
 refine C.exit (C.ex (C.ex (C.bex ?_)))
 exact St.wa [some 0] (j26 _ g)
 refine U.start (U.ps 6 T rfl ?_)
 refine g.cs (fun b31 g=>?_) fun b31 g=>?_
 refine U.pq 3 5 true 56 b31 T ?_
 refine U.pk b31 ?_
 refine U.done ?_
 exact St.wa [some 0] (j30 _ g)
 refine U.sk' 3 5 true 56 b31 ?_
 refine U.pk' b31 ?_
 refine U.done ?_
 exact St.wa [some 0] (j30 _ g)
 refine C.block (St.wk (C.loop (fun (s7:Int)=>[(1,.i cells),(2,.i most),(3,.p 0 0),(7,.i s7)]) (fun s7=>[(0,.box (Q1 s_1))]) g (fun s7 Y8 g=>?_)) (Wk.a [some 0]))
 refine C.seq (C.seq ?_)
 refine C.jn (fun (x9:Bool)=>[(1,.i cells),(2,.i most),(3,.p 0 0),(7,.i s7),(19,.b x9)]) (fun x9=>[(0,.box (Q1 s_1))]) 1 g (fun x9 g=>?_) fun J10 g j10=>?_
 refine C.nx ?_
 refine C.ite rfl g (fun b12 g=>?_) fun b12 g=>?_
 refine C.skip (C.xs (C.block (C.seq ?_)))
 refine C.jn (fun (x13:Bool)=>[(1,.i cells),(2,.i most),(3,.p 0 0),(7,.i s7),(50,.b x13)]) (fun x13=>[(0,.box (Q1 s_1))]) 1 g (fun x13 g=>?_) fun J14 g j14=>?_
 refine C.nx ?_
 refine C.ite rfl g (fun b18 g=>?_) fun b18 g=>?_
 refine C.ss (U.pd 1 T (C.nx (C.ret (C.brt (C.rt (C.rt (C.brt (C.rt ?_))))))))
 exact C.f1 T o (pBi g)
 refine C.skip (C.bnx (C.nx (U.start (U.pd 3 T (C.nx ?_)))))
 exact St.wk (C.next g) (Wk.a [some 0])
 refine U.start (U.ps 3 T rfl ?_)
 obtain⟨x15,y15,g⟩:=g
 refine U.ix T y15 ?_
 refine U.ps 6 T rfl ?_
 refine g.cs (fun b16 g=>?_) fun b16 g=>?_
 refine U.sk' 8 9 false 31 b16 ?_
 refine U.pk b16 ?_
 refine U.ps 1 T rfl (U.sk' 8 19 false 41 rfl ?_)
 refine U.pk rfl ?_
 refine U.done ?_
 exact St.wa [some 0] (j14 _ g)
 refine U.pq 3 9 false 31 b16 T ?_
 refine U.r rfl (.tk 9 false 31 b16) rfl rfl (by exact Rd.ix T rfl rfl rfl rfl rfl rfl y15) ?_
 refine U.pq 4 9 false 31 b16 T ?_
 refine U.pk' b16 ?_
 refine U.ps 1 T rfl ?_
 refine g.cs (fun b17 g=>?_) fun b17 g=>?_
 refine U.sk' 8 19 false 41 b17 ?_
 refine U.pk b17 ?_
 refine U.done ?_
 exact St.wa [some 0] (j14 _ g)
 refine U.pq 3 19 false 41 b17 T ?_
 refine U.r rfl (.tk 19 false 41 b17) rfl rfl (by exact Rd.ix T rfl rfl rfl rfl rfl rfl y15) ?_
 refine U.pq 4 19 false 41 b17 T ?_
 refine U.pk' b17 ?_
 refine U.done ?_
 exact St.wa [some 0] (j14 _ g)
 refine C.exit (C.ex (C.ex (C.bex ?_)))
 exact St.wa [some 0] (j6 _ g)
 refine U.start (U.ps 6 T rfl ?_)
 refine g.cs (fun b11 g=>?_) fun b11 g=>?_
 refine U.pq 3 5 true 15 b11 T ?_
 refine U.pk b11 ?_
 refine U.done ?_
 exact St.wa [some 0] (j10 _ g)
 refine U.sk' 3 5 true 15 b11 ?_
 refine U.pk' b11 ?_
 refine U.done ?_
 exact St.wa [some 0] (j10 _ g)
theorem Gw (f:ApiFloor) (post:Bool→Prop) (g:K0 f post):
  Tr Try.prog 31 [.agg (Qm f)] [] 0 (pB post):=by
 refine Tr.go Try.func31 Try.ntmps31 fun _ _ _ _ o=>?_
 unfold K0 at g
 refine C.ss (U.bx ?_)
 refine U.pd 1 T (C.xs (C.seq ?_))
 refine C.jn (fun (x3:Bool)=>[(1,.p 0 0),(32,.b x3)]) (fun x3=>[(0,.box (Qm f))]) 1 g (fun x3 g=>?_) fun J4 g j4=>?_
 refine C.nx ?_
 refine C.ite rfl g (fun b10 g=>?_) fun b10 g=>?_
 refine C.ss (U.pd 1 T (C.nx (C.ret (C.rt ?_))))
 exact C.f1 T o (pBi g)
 refine C.skip (C.xt (U.pd 9 T (C.xs (C.seq ?_))))
 refine C.jn (fun (x15:Bool)=>[(1,.p 0 0),(3,.i (w64 ((w64 (f.W*f.H))*f.D))),(56,.b x15)]) (fun x15=>[(0,.box (Qm f))]) 1 g (fun x15 g=>?_) fun J16 g j16=>?_
 refine C.nx ?_
 refine C.ite rfl g (fun b19 g=>?_) fun b19 g=>?_
 refine C.ss (U.pd 1 T (C.nx (C.ret (C.rt ?_))))
 exact C.f1 T o (pBi g)
 refine C.skip (C.xs (C.ss (U.pd 1 T (C.nx ?_))))
 refine C.jn (fun (x24:Unit)=>[]) (fun x24=>[]) 0 g (fun x24 g=>?_) fun J25 g j25=>?_
 refine C.xt (U.pd 1 T (C.nx (C.ret ?_)))
 exact C.f1 T o (pBi g)
 refine C.block (St.wk (C.loop (fun (s26:Int)=>[(1,.p 0 0),(3,.i (w64 ((w64 (f.W*f.H))*f.D))),(4,.i s26)]) (fun s26=>[(0,.box (Qm f))]) g (fun s26 Y27 g=>?_)) (Wk.a [some 0]))
 refine C.seq (C.ss (U.pd 3 T (C.nx ?_)))
 refine C.ite rfl g (fun b30 g=>?_) fun b30 g=>?_
 refine C.skip (C.xs (C.block (C.seq ?_)))
 refine C.jn (fun (x31:Bool)=>[(1,.p 0 0),(3,.i (w64 ((w64 (f.W*f.H))*f.D))),(4,.i s26),(91,.b x31)]) (fun x31=>[(0,.box (Qm f))]) 1 g (fun x31 g=>?_) fun J32 g j32=>?_
 refine C.nx ?_
 refine C.ite rfl g (fun b38 g=>?_) fun b38 g=>?_
 refine C.ss (U.pd 1 T (C.nx (C.ret (C.brt (C.rt (C.rt (C.brt (C.rt ?_))))))))
 exact C.f1 T o (pBi g)
 refine C.skip (C.bnx (C.nx (U.start (U.pd 3 T (C.nx ?_)))))
 exact St.wk (C.next g) (Wk.a [some 0])
 refine U.start (U.ps 3 T rfl ?_)
 obtain⟨x33,y33,g⟩:=g
 refine U.ix T y33 ?_
 refine U.ps 3 T rfl ?_
 refine g.cs (fun b34 g=>?_) fun b34 g=>?_
 refine U.sk' 6 6 false 68 b34 ?_
 refine U.pk b34 ?_
 refine U.ps 1 T rfl (U.sk' 6 14 false 76 rfl ?_)
 refine U.pk rfl ?_
 refine U.ps 1 T rfl (U.sk' 6 22 false 84 rfl ?_)
 refine U.pk rfl ?_
 refine U.done ?_
 exact St.wa [some 0] (j32 _ g)
 refine U.pq 3 6 false 68 b34 T ?_
 refine U.r rfl (.tk 6 false 68 b34) rfl rfl (by exact Rd.ix T rfl rfl rfl rfl rfl rfl y33) ?_
 refine U.pq 2 6 false 68 b34 T ?_
 refine U.pk' b34 ?_
 refine U.ps 1 T rfl ?_
 refine g.cs (fun b35 g=>?_) fun b35 g=>?_
 refine U.sk' 6 14 false 76 b35 ?_
 refine U.pk b35 ?_
 refine U.ps 1 T rfl (U.sk' 6 22 false 84 rfl ?_)
 refine U.pk rfl ?_
 refine U.done ?_
 exact St.wa [some 0] (j32 _ g)
 refine U.pq 3 14 false 76 b35 T ?_
 obtain⟨x36,y36,g⟩:=g
 refine U.r rfl (.tk 14 false 76 b35) rfl rfl (by exact Rd.ix T rfl rfl rfl rfl rfl rfl y36) ?_
 refine U.pq 2 14 false 76 b35 T ?_
 refine U.pk' b35 ?_
 refine U.ps 1 T rfl ?_
 refine g.cs (fun b37 g=>?_) fun b37 g=>?_
 refine U.sk' 6 22 false 84 b37 ?_
 refine U.pk b37 ?_
 refine U.done ?_
 exact St.wa [some 0] (j32 _ g)
 refine U.pq 3 22 false 84 b37 T ?_
 refine U.r rfl (.tk 22 false 84 b37) rfl rfl (by exact Rd.ix T rfl rfl rfl rfl rfl rfl y36) ?_
 refine U.pq 2 22 false 84 b37 T ?_
 refine U.pk' b37 ?_
 refine U.done ?_
 exact St.wa [some 0] (j32 _ g)
 refine C.exit (C.ex (C.ex (C.bex ?_)))
 exact St.wk (j25 _ g) (Wk.mk' [] rfl rfl trivial trivial rfl)
 refine U.start (U.ps 3 T rfl ?_)
 refine g.cs (fun b17 g=>?_) fun b17 g=>?_
 refine U.sk' 5 2 false 43 b17 ?_
 refine U.pk b17 ?_
 refine U.ps 1 T rfl (U.sk' 5 9 false 50 rfl ?_)
 refine U.pk rfl ?_
 refine U.done ?_
 exact St.wa [some 0] (j16 _ g)
 refine U.pq 5 2 false 43 b17 T ?_
 refine U.pk' b17 ?_
 refine U.ps 1 T rfl ?_
 refine g.cs (fun b18 g=>?_) fun b18 g=>?_
 refine U.sk' 5 9 false 50 b18 ?_
 refine U.pk b18 ?_
 refine U.done ?_
 exact St.wa [some 0] (j16 _ g)
 refine U.pq 5 9 false 50 b18 T ?_
 refine U.pk' b18 ?_
 refine U.done ?_
 exact St.wa [some 0] (j16 _ g)
 refine U.start (U.ps 4 T rfl ?_)
 refine g.cs (fun b5 g=>?_) fun b5 g=>?_
 refine U.sk' 3 3 false 8 b5 ?_
 refine U.pk b5 ?_
 refine U.ps 1 T rfl (U.sk' 3 8 false 13 rfl ?_)
 refine U.pk rfl ?_
 refine U.ps 1 T rfl (U.sk' 3 13 false 18 rfl ?_)
 refine U.pk rfl ?_
 refine U.ps 1 T rfl (U.sk' 3 18 false 23 rfl ?_)
 refine U.pk rfl ?_
 refine U.ps 1 T rfl (U.sk' 3 23 false 28 rfl ?_)
 refine U.pk rfl ?_
 refine U.done ?_
 exact St.wa [some 0] (j4 _ g)
 refine U.pq 3 3 false 8 b5 T ?_
 refine U.pk' b5 ?_
 refine U.ps 1 T rfl ?_
 refine g.cs (fun b6 g=>?_) fun b6 g=>?_
 refine U.sk' 3 8 false 13 b6 ?_
 refine U.pk b6 ?_
 refine U.ps 1 T rfl (U.sk' 3 13 false 18 rfl ?_)
 refine U.pk rfl ?_
 refine U.ps 1 T rfl (U.sk' 3 18 false 23 rfl ?_)
 refine U.pk rfl ?_
 refine U.ps 1 T rfl (U.sk' 3 23 false 28 rfl ?_)
 refine U.pk rfl ?_
 refine U.done ?_
 exact St.wa [some 0] (j4 _ g)
 refine U.pq 3 8 false 13 b6 T ?_
 refine U.pk' b6 ?_
 refine U.ps 1 T rfl ?_
 refine g.cs (fun b7 g=>?_) fun b7 g=>?_
 refine U.sk' 3 13 false 18 b7 ?_
 refine U.pk b7 ?_
 refine U.ps 1 T rfl (U.sk' 3 18 false 23 rfl ?_)
 refine U.pk rfl ?_
 refine U.ps 1 T rfl (U.sk' 3 23 false 28 rfl ?_)
 refine U.pk rfl ?_
 refine U.done ?_
 exact St.wa [some 0] (j4 _ g)
 refine U.pq 3 13 false 18 b7 T ?_
 refine U.pk' b7 ?_
 refine U.ps 1 T rfl ?_
 refine g.cs (fun b8 g=>?_) fun b8 g=>?_
 refine U.sk' 3 18 false 23 b8 ?_
 refine U.pk b8 ?_
 refine U.ps 1 T rfl (U.sk' 3 23 false 28 rfl ?_)
 refine U.pk rfl ?_
 refine U.done ?_
 exact St.wa [some 0] (j4 _ g)
 refine U.pq 3 18 false 23 b8 T ?_
 refine U.pk' b8 ?_
 refine U.ps 1 T rfl ?_
 refine g.cs (fun b9 g=>?_) fun b9 g=>?_
 refine U.sk' 3 23 false 28 b9 ?_
 refine U.pk b9 ?_
 refine U.done ?_
 exact St.wa [some 0] (j4 _ g)
 refine U.pq 3 23 false 28 b9 T ?_
 refine U.pk' b9 ?_
 refine U.done ?_
 exact St.wa [some 0] (j4 _ g)
theorem Ku (s_1:ByteArray) (post:Bool→Prop) (g:Qr s_1 post):
  Tr Try.prog 33 [.v (.string s_1)] [] 0 (pB post):=by
 refine Tr.go Try.func33 Try.ntmps33 fun _ _ _ _ o=>?_
 unfold Qr at g
 refine C.ss (U.pd 1 T (C.xs (C.ss ?_)))
 refine U.pd 1 T (C.nx ?_)
 refine C.jn (fun (x5:Unit)=>[(0,.v (.string s_1))]) (fun x5=>[]) 0 g (fun x5 g=>?_) fun J6 g j6=>?_
 refine C.xs ?_
 refine C.jn (fun (x58:Bool)=>[(2,.b x58)]) (fun x58=>[]) 0 g (fun x58 g=>?_) fun J59 g j59=>?_
 refine C.nx (C.ret ?_)
 exact C.f1 T o (pBi g)
 refine U.start (U.ps 4 T rfl ?_)
 refine g.cs (fun b60 g=>?_) fun b60 g=>?_
 refine U.pq 3 3 true 57 b60 T ?_
 refine U.pk b60 ?_
 refine U.pd 1 T ?_
 exact St.wn (j59 _ g)
 refine U.sk' 3 3 true 57 b60 ?_
 refine U.pk' b60 ?_
 refine U.pd 1 T ?_
 exact St.wn (j59 _ g)
 refine C.block (St.wk (C.loop (fun (s7:Int)=>[(0,.v (.string s_1)),(3,.i s7)]) (fun s7=>[]) g (fun s7 Y8 g=>?_)) (Wk.e))
 refine C.seq (C.ss (U.pd 4 T (C.nx ?_)))
 refine C.ite rfl g (fun b11 g=>?_) fun b11 g=>?_
 refine C.skip (C.xs (C.block (C.ss (U.ps 2 T rfl ?_))))
 obtain⟨x14,y14,g⟩:=g
 refine U.r rfl (.none rfl) rfl rfl (by exact Rd.ib T rfl rfl rfl rfl y14) ?_
 refine U.pd 1 T (C.xs ?_)
 refine C.jn (fun (x15:Bool)=>[(0,.v (.string s_1)),(3,.i s7),(4,.v (.int .u8 (x14.toNat:Int))),(5,.b x15)]) (fun x15=>[]) 0 g (fun x15 g=>?_) fun J16 g j16=>?_
 refine C.xs ?_
 refine C.jn (fun (x18:Bool)=>[(0,.v (.string s_1)),(3,.i s7),(53,.b x18)]) (fun x18=>[]) 0 g (fun x18 g=>?_) fun J19 g j19=>?_
 refine C.nx ?_
 refine C.ite rfl g (fun b53 g=>?_) fun b53 g=>?_
 refine C.ss (U.pd 1 T (C.nx (C.ret (C.brt (C.rt (C.rt (C.brt (C.rt ?_))))))))
 exact C.f1 T o (pBi g)
 refine C.skip (C.bnx (C.nx (U.start (U.pd 3 T (C.nx ?_)))))
 exact St.wk (C.next g) (Wk.e)
 refine U.start (U.ps 3 T rfl ?_)
 refine g.cs (fun b20 g=>?_) fun b20 g=>?_
 refine U.pq 2 2 true 23 b20 T ?_
 refine U.pk b20 ?_
 refine U.ps 1 T rfl ?_
 refine g.cs (fun b21 g=>?_) fun b21 g=>?_
 refine U.sk' 3 6 false 27 b21 ?_
 refine U.sku 2 9 true 30 rfl rfl rfl ?_
 refine U.sk' 1 6 false 27 b21 ?_
 refine U.pk b21 ?_
 refine U.ps 1 T rfl (U.sk' 1 14 false 35 rfl ?_)
 refine U.pk rfl ?_
 refine U.ps 1 T rfl (U.sk' 2 17 false 38 rfl ?_)
 refine U.pk rfl ?_
 refine U.ps 1 T rfl (U.sk' 2 21 false 42 rfl ?_)
 refine U.pk rfl ?_
 refine U.ps 2 T rfl (U.pq 3 26 false 47 rfl T ?_)
 refine g.cs (fun b22 g=>?_) fun b22 g=>?_
 refine U.pq 1 29 true 50 b22 T ?_
 refine U.r rfl (.tk 26 false 47 rfl) rfl rfl (by exact Rd.pk rfl rfl b22 rfl) ?_
 refine U.pk' rfl ?_
 refine U.done ?_
 exact St.wn (j19 _ g)
 refine U.sk' 1 29 true 50 b22 ?_
 refine U.r rfl (.tk 26 false 47 rfl) rfl rfl (by exact Rd.pk' rfl rfl b22 rfl) ?_
 refine U.pk' rfl ?_
 refine U.done ?_
 exact St.wn (j19 _ g)
 refine U.pq 3 6 false 27 b21 T ?_
 refine g.cs (fun b23 g=>?_) fun b23 g=>?_
 refine U.pq 2 9 true 30 b23 T ?_
 refine U.r rfl (.tk 6 false 27 b21) rfl rfl (by exact Rd.pk rfl rfl b23 rfl) ?_
 refine U.pk' b21 ?_
 refine U.ps 1 T rfl ?_
 refine g.cs (fun b24 g=>?_) fun b24 g=>?_
 refine U.sk' 1 14 false 35 b24 ?_
 refine U.pk b24 ?_
 refine U.ps 1 T rfl (U.sk' 2 17 false 38 rfl ?_)
 refine U.pk rfl ?_
 refine U.ps 1 T rfl (U.sk' 2 21 false 42 rfl ?_)
 refine U.pk rfl ?_
 refine U.ps 2 T rfl (U.pq 3 26 false 47 rfl T ?_)
 refine g.cs (fun b25 g=>?_) fun b25 g=>?_
 refine U.pq 1 29 true 50 b25 T ?_
 refine U.r rfl (.tk 26 false 47 rfl) rfl rfl (by exact Rd.pk rfl rfl b25 rfl) ?_
 refine U.pk' rfl ?_
 refine U.done ?_
 exact St.wn (j19 _ g)
 refine U.sk' 1 29 true 50 b25 ?_
 refine U.r rfl (.tk 26 false 47 rfl) rfl rfl (by exact Rd.pk' rfl rfl b25 rfl) ?_
 refine U.pk' rfl ?_
 refine U.done ?_
 exact St.wn (j19 _ g)
 refine U.pq 1 14 false 35 b24 T ?_
 refine U.pk' b24 ?_
 refine U.ps 1 T rfl ?_
 refine g.cs (fun b26 g=>?_) fun b26 g=>?_
 refine U.sk' 2 17 false 38 b26 ?_
 refine U.pk b26 ?_
 refine U.ps 1 T rfl (U.sk' 2 21 false 42 rfl ?_)
 refine U.pk rfl ?_
 refine U.ps 2 T rfl (U.pq 3 26 false 47 rfl T ?_)
 refine g.cs (fun b27 g=>?_) fun b27 g=>?_
 refine U.pq 1 29 true 50 b27 T ?_
 refine U.r rfl (.tk 26 false 47 rfl) rfl rfl (by exact Rd.pk rfl rfl b27 rfl) ?_
 refine U.pk' rfl ?_
 refine U.done ?_
 exact St.wn (j19 _ g)
 refine U.sk' 1 29 true 50 b27 ?_
 refine U.r rfl (.tk 26 false 47 rfl) rfl rfl (by exact Rd.pk' rfl rfl b27 rfl) ?_
 refine U.pk' rfl ?_
 refine U.done ?_
 exact St.wn (j19 _ g)
 refine U.pq 2 17 false 38 b26 T ?_
 refine U.pk' b26 ?_
 refine U.ps 1 T rfl ?_
 refine g.cs (fun b28 g=>?_) fun b28 g=>?_
 refine U.sk' 2 21 false 42 b28 ?_
 refine U.pk b28 ?_
 refine U.ps 2 T rfl (U.pq 3 26 false 47 rfl T ?_)
 refine g.cs (fun b29 g=>?_) fun b29 g=>?_
 refine U.pq 1 29 true 50 b29 T ?_
 refine U.r rfl (.tk 26 false 47 rfl) rfl rfl (by exact Rd.pk rfl rfl b29 rfl) ?_
 refine U.pk' rfl ?_
 refine U.done ?_
 exact St.wn (j19 _ g)
 refine U.sk' 1 29 true 50 b29 ?_
 refine U.r rfl (.tk 26 false 47 rfl) rfl rfl (by exact Rd.pk' rfl rfl b29 rfl) ?_
 refine U.pk' rfl ?_
 refine U.done ?_
 exact St.wn (j19 _ g)
 refine U.pq 2 21 false 42 b28 T ?_
 refine U.pk' b28 ?_
 refine U.ps 2 T rfl ?_
 refine g.cs (fun b30 g=>?_) fun b30 g=>?_
 refine U.pq 3 26 false 47 (ntF b30) T ?_
 refine g.cs (fun b31 g=>?_) fun b31 g=>?_
 refine U.pq 1 29 true 50 b31 T ?_
 refine U.r rfl (.tk 26 false 47 (ntF b30)) rfl rfl (by exact Rd.pk rfl rfl b31 rfl) ?_
 refine U.pk' (ntF b30) ?_
 refine U.done ?_
 exact St.wn (j19 _ g)
 refine U.sk' 1 29 true 50 b31 ?_
 refine U.r rfl (.tk 26 false 47 (ntF b30)) rfl rfl (by exact Rd.pk' rfl rfl b31 rfl) ?_
 refine U.pk' (ntF b30) ?_
 refine U.done ?_
 exact St.wn (j19 _ g)
 refine U.sk' 3 26 false 47 (ntT b30) ?_
 refine U.sku 1 29 true 50 rfl rfl rfl ?_
 refine U.sk' 1 26 false 47 (ntT b30) ?_
 refine U.pk (ntT b30) ?_
 refine U.done ?_
 exact St.wn (j19 _ g)
 refine U.sk' 2 9 true 30 b23 ?_
 refine U.r rfl (.tk 6 false 27 b21) rfl rfl (by exact Rd.pk' rfl rfl b23 rfl) ?_
 refine U.pk' b21 ?_
 refine U.ps 1 T rfl (U.pq 1 14 false 35 rfl T ?_)
 refine U.pk' rfl ?_
 refine U.ps 1 T rfl ?_
 refine g.cs (fun b32 g=>?_) fun b32 g=>?_
 refine U.sk' 2 17 false 38 b32 ?_
 refine U.pk b32 ?_
 refine U.ps 1 T rfl (U.sk' 2 21 false 42 rfl ?_)
 refine U.pk rfl ?_
 refine U.ps 2 T rfl (U.pq 3 26 false 47 rfl T ?_)
 refine g.cs (fun b33 g=>?_) fun b33 g=>?_
 refine U.pq 1 29 true 50 b33 T ?_
 refine U.r rfl (.tk 26 false 47 rfl) rfl rfl (by exact Rd.pk rfl rfl b33 rfl) ?_
 refine U.pk' rfl ?_
 refine U.done ?_
 exact St.wn (j19 _ g)
 refine U.sk' 1 29 true 50 b33 ?_
 refine U.r rfl (.tk 26 false 47 rfl) rfl rfl (by exact Rd.pk' rfl rfl b33 rfl) ?_
 refine U.pk' rfl ?_
 refine U.done ?_
 exact St.wn (j19 _ g)
 refine U.pq 2 17 false 38 b32 T ?_
 refine U.pk' b32 ?_
 refine U.ps 1 T rfl ?_
 refine g.cs (fun b34 g=>?_) fun b34 g=>?_
 refine U.sk' 2 21 false 42 b34 ?_
 refine U.pk b34 ?_
 refine U.ps 2 T rfl (U.pq 3 26 false 47 rfl T ?_)
 refine g.cs (fun b35 g=>?_) fun b35 g=>?_
 refine U.pq 1 29 true 50 b35 T ?_
 refine U.r rfl (.tk 26 false 47 rfl) rfl rfl (by exact Rd.pk rfl rfl b35 rfl) ?_
 refine U.pk' rfl ?_
 refine U.done ?_
 exact St.wn (j19 _ g)
 refine U.sk' 1 29 true 50 b35 ?_
 refine U.r rfl (.tk 26 false 47 rfl) rfl rfl (by exact Rd.pk' rfl rfl b35 rfl) ?_
 refine U.pk' rfl ?_
 refine U.done ?_
 exact St.wn (j19 _ g)
 refine U.pq 2 21 false 42 b34 T ?_
 refine U.pk' b34 ?_
 refine U.ps 2 T rfl ?_
 refine g.cs (fun b36 g=>?_) fun b36 g=>?_
 refine U.pq 3 26 false 47 (ntF b36) T ?_
 refine g.cs (fun b37 g=>?_) fun b37 g=>?_
 refine U.pq 1 29 true 50 b37 T ?_
 refine U.r rfl (.tk 26 false 47 (ntF b36)) rfl rfl (by exact Rd.pk rfl rfl b37 rfl) ?_
 refine U.pk' (ntF b36) ?_
 refine U.done ?_
 exact St.wn (j19 _ g)
 refine U.sk' 1 29 true 50 b37 ?_
 refine U.r rfl (.tk 26 false 47 (ntF b36)) rfl rfl (by exact Rd.pk' rfl rfl b37 rfl) ?_
 refine U.pk' (ntF b36) ?_
 refine U.done ?_
 exact St.wn (j19 _ g)
 refine U.sk' 3 26 false 47 (ntT b36) ?_
 refine U.sku 1 29 true 50 rfl rfl rfl ?_
 refine U.sk' 1 26 false 47 (ntT b36) ?_
 refine U.pk (ntT b36) ?_
 refine U.done ?_
 exact St.wn (j19 _ g)
 refine U.sk' 2 2 true 23 b20 ?_
 refine U.pk' b20 ?_
 refine U.ps 1 T rfl (U.pq 3 6 false 27 rfl T ?_)
 refine g.cs (fun b38 g=>?_) fun b38 g=>?_
 refine U.pq 2 9 true 30 b38 T ?_
 refine U.r rfl (.tk 6 false 27 rfl) rfl rfl (by exact Rd.pk rfl rfl b38 rfl) ?_
 refine U.pk' rfl ?_
 refine U.ps 1 T rfl ?_
 refine g.cs (fun b39 g=>?_) fun b39 g=>?_
 refine U.sk' 1 14 false 35 b39 ?_
 refine U.pk b39 ?_
 refine U.ps 1 T rfl (U.sk' 2 17 false 38 rfl ?_)
 refine U.pk rfl ?_
 refine U.ps 1 T rfl (U.sk' 2 21 false 42 rfl ?_)
 refine U.pk rfl ?_
 refine U.ps 2 T rfl (U.pq 3 26 false 47 rfl T ?_)
 refine g.cs (fun b40 g=>?_) fun b40 g=>?_
 refine U.pq 1 29 true 50 b40 T ?_
 refine U.r rfl (.tk 26 false 47 rfl) rfl rfl (by exact Rd.pk rfl rfl b40 rfl) ?_
 refine U.pk' rfl ?_
 refine U.done ?_
 exact St.wn (j19 _ g)
 refine U.sk' 1 29 true 50 b40 ?_
 refine U.r rfl (.tk 26 false 47 rfl) rfl rfl (by exact Rd.pk' rfl rfl b40 rfl) ?_
 refine U.pk' rfl ?_
 refine U.done ?_
 exact St.wn (j19 _ g)
 refine U.pq 1 14 false 35 b39 T ?_
 refine U.pk' b39 ?_
 refine U.ps 1 T rfl ?_
 refine g.cs (fun b41 g=>?_) fun b41 g=>?_
 refine U.sk' 2 17 false 38 b41 ?_
 refine U.pk b41 ?_
 refine U.ps 1 T rfl (U.sk' 2 21 false 42 rfl ?_)
 refine U.pk rfl ?_
 refine U.ps 2 T rfl (U.pq 3 26 false 47 rfl T ?_)
 refine g.cs (fun b42 g=>?_) fun b42 g=>?_
 refine U.pq 1 29 true 50 b42 T ?_
 refine U.r rfl (.tk 26 false 47 rfl) rfl rfl (by exact Rd.pk rfl rfl b42 rfl) ?_
 refine U.pk' rfl ?_
 refine U.done ?_
 exact St.wn (j19 _ g)
 refine U.sk' 1 29 true 50 b42 ?_
 refine U.r rfl (.tk 26 false 47 rfl) rfl rfl (by exact Rd.pk' rfl rfl b42 rfl) ?_
 refine U.pk' rfl ?_
 refine U.done ?_
 exact St.wn (j19 _ g)
 refine U.pq 2 17 false 38 b41 T ?_
 refine U.pk' b41 ?_
 refine U.ps 1 T rfl ?_
 refine g.cs (fun b43 g=>?_) fun b43 g=>?_
 refine U.sk' 2 21 false 42 b43 ?_
 refine U.pk b43 ?_
 refine U.ps 2 T rfl (U.pq 3 26 false 47 rfl T ?_)
 refine g.cs (fun b44 g=>?_) fun b44 g=>?_
 refine U.pq 1 29 true 50 b44 T ?_
 refine U.r rfl (.tk 26 false 47 rfl) rfl rfl (by exact Rd.pk rfl rfl b44 rfl) ?_
 refine U.pk' rfl ?_
 refine U.done ?_
 exact St.wn (j19 _ g)
 refine U.sk' 1 29 true 50 b44 ?_
 refine U.r rfl (.tk 26 false 47 rfl) rfl rfl (by exact Rd.pk' rfl rfl b44 rfl) ?_
 refine U.pk' rfl ?_
 refine U.done ?_
 exact St.wn (j19 _ g)
 refine U.pq 2 21 false 42 b43 T ?_
 refine U.pk' b43 ?_
 refine U.ps 2 T rfl ?_
 refine g.cs (fun b45 g=>?_) fun b45 g=>?_
 refine U.pq 3 26 false 47 (ntF b45) T ?_
 refine g.cs (fun b46 g=>?_) fun b46 g=>?_
 refine U.pq 1 29 true 50 b46 T ?_
 refine U.r rfl (.tk 26 false 47 (ntF b45)) rfl rfl (by exact Rd.pk rfl rfl b46 rfl) ?_
 refine U.pk' (ntF b45) ?_
 refine U.done ?_
 exact St.wn (j19 _ g)
 refine U.sk' 1 29 true 50 b46 ?_
 refine U.r rfl (.tk 26 false 47 (ntF b45)) rfl rfl (by exact Rd.pk' rfl rfl b46 rfl) ?_
 refine U.pk' (ntF b45) ?_
 refine U.done ?_
 exact St.wn (j19 _ g)
 refine U.sk' 3 26 false 47 (ntT b45) ?_
 refine U.sku 1 29 true 50 rfl rfl rfl ?_
 refine U.sk' 1 26 false 47 (ntT b45) ?_
 refine U.pk (ntT b45) ?_
 refine U.done ?_
 exact St.wn (j19 _ g)
 refine U.sk' 2 9 true 30 b38 ?_
 refine U.r rfl (.tk 6 false 27 rfl) rfl rfl (by exact Rd.pk' rfl rfl b38 rfl) ?_
 refine U.pk' rfl ?_
 refine U.ps 1 T rfl (U.pq 1 14 false 35 rfl T ?_)
 refine U.pk' rfl ?_
 refine U.ps 1 T rfl ?_
 refine g.cs (fun b47 g=>?_) fun b47 g=>?_
 refine U.sk' 2 17 false 38 b47 ?_
 refine U.pk b47 ?_
 refine U.ps 1 T rfl (U.sk' 2 21 false 42 rfl ?_)
 refine U.pk rfl ?_
 refine U.ps 2 T rfl (U.pq 3 26 false 47 rfl T ?_)
 refine g.cs (fun b48 g=>?_) fun b48 g=>?_
 refine U.pq 1 29 true 50 b48 T ?_
 refine U.r rfl (.tk 26 false 47 rfl) rfl rfl (by exact Rd.pk rfl rfl b48 rfl) ?_
 refine U.pk' rfl ?_
 refine U.done ?_
 exact St.wn (j19 _ g)
 refine U.sk' 1 29 true 50 b48 ?_
 refine U.r rfl (.tk 26 false 47 rfl) rfl rfl (by exact Rd.pk' rfl rfl b48 rfl) ?_
 refine U.pk' rfl ?_
 refine U.done ?_
 exact St.wn (j19 _ g)
 refine U.pq 2 17 false 38 b47 T ?_
 refine U.pk' b47 ?_
 refine U.ps 1 T rfl ?_
 refine g.cs (fun b49 g=>?_) fun b49 g=>?_
 refine U.sk' 2 21 false 42 b49 ?_
 refine U.pk b49 ?_
 refine U.ps 2 T rfl (U.pq 3 26 false 47 rfl T ?_)
 refine g.cs (fun b50 g=>?_) fun b50 g=>?_
 refine U.pq 1 29 true 50 b50 T ?_
 refine U.r rfl (.tk 26 false 47 rfl) rfl rfl (by exact Rd.pk rfl rfl b50 rfl) ?_
 refine U.pk' rfl ?_
 refine U.done ?_
 exact St.wn (j19 _ g)
 refine U.sk' 1 29 true 50 b50 ?_
 refine U.r rfl (.tk 26 false 47 rfl) rfl rfl (by exact Rd.pk' rfl rfl b50 rfl) ?_
 refine U.pk' rfl ?_
 refine U.done ?_
 exact St.wn (j19 _ g)
 refine U.pq 2 21 false 42 b49 T ?_
 refine U.pk' b49 ?_
 refine U.ps 2 T rfl ?_
 refine g.cs (fun b51 g=>?_) fun b51 g=>?_
 refine U.pq 3 26 false 47 (ntF b51) T ?_
 refine g.cs (fun b52 g=>?_) fun b52 g=>?_
 refine U.pq 1 29 true 50 b52 T ?_
 refine U.r rfl (.tk 26 false 47 (ntF b51)) rfl rfl (by exact Rd.pk rfl rfl b52 rfl) ?_
 refine U.pk' (ntF b51) ?_
 refine U.done ?_
 exact St.wn (j19 _ g)
 refine U.sk' 1 29 true 50 b52 ?_
 refine U.r rfl (.tk 26 false 47 (ntF b51)) rfl rfl (by exact Rd.pk' rfl rfl b52 rfl) ?_
 refine U.pk' (ntF b51) ?_
 refine U.done ?_
 exact St.wn (j19 _ g)
 refine U.sk' 3 26 false 47 (ntT b51) ?_
 refine U.sku 1 29 true 50 rfl rfl rfl ?_
 refine U.sk' 1 26 false 47 (ntT b51) ?_
 refine U.pk (ntT b51) ?_
 refine U.done ?_
 exact St.wn (j19 _ g)
 refine U.start (U.ps 3 T rfl ?_)
 refine g.cs (fun b17 g=>?_) fun b17 g=>?_
 refine U.pq 2 2 true 17 b17 T ?_
 refine U.pk b17 ?_
 refine U.pd 1 T ?_
 exact St.wn (j16 _ g)
 refine U.sk' 2 2 true 17 b17 ?_
 refine U.pk' b17 ?_
 refine U.pd 1 T ?_
 exact St.wn (j16 _ g)
 refine C.exit (C.ex (C.ex (C.bex ?_)))
 exact St.wn (j6 _ g)
theorem GU (l:List ApiZone) (name:ByteArray) (post:Int→Prop) (g:K4 l name post):
  Tr Try.prog 58 [.sl 5 QX l,.v (.string name)] [] 0 (pI post):=by
 refine Tr.go Try.func58 Try.ntmps58 fun _ _ _ _ o=>?_
 unfold K4 at g
 refine C.ss (U.pd 1 T (C.xs (C.ss ?_)))
 refine U.pd 1 T (C.nx ?_)
 refine C.jn (fun (x5:Unit)=>[]) (fun x5=>[]) 0 g (fun x5 g=>?_) fun J6 g j6=>?_
 refine C.xt (U.pd 1 T (C.nx (C.ret ?_)))
 exact C.f1 T o (pIi g)
 refine C.block (St.wk (C.loop (fun (s7:Int)=>[(0,.sl 5 QX l),(1,.v (.string name)),(5,.i s7)]) (fun s7=>[]) g (fun s7 Y8 g=>?_)) (Wk.e))
 refine C.seq (C.ss (U.pd 4 T (C.nx ?_)))
 refine C.ite rfl g (fun b11 g=>?_) fun b11 g=>?_
 refine C.skip (C.xs (C.block (C.ss (U.ps 2 T rfl ?_))))
 obtain⟨x14,y14,g⟩:=g
 refine U.ix T y14 ?_
 refine U.pd 4 T (C.nx ?_)
 refine C.ite rfl g (fun b15 g=>?_) fun b15 g=>?_
 refine C.ss (U.pd 2 T (C.nx (C.ret (C.brt (C.rt (C.rt (C.brt (C.rt ?_))))))))
 exact C.f1 T o (pIi g)
 refine C.skip (C.bnx (C.nx (U.start (U.pd 3 T (C.nx ?_)))))
 exact St.wk (C.next g) (Wk.e)
 refine C.exit (C.ex (C.ex (C.bex ?_)))
 exact St.wk (j6 _ g) (Wk.mk' [] rfl rfl trivial trivial rfl)
theorem GX (l:List XI) (post:Bool→Prop) (g:K6 l post):
  Tr Try.prog 59 [.sl 2 XR l] [] 0 (pB post):=by
 refine Tr.go Try.func59 Try.ntmps59 fun _ _ _ _ o=>?_
 unfold K6 at g
 refine C.ss (U.pd 1 T (C.xt ?_))
 refine U.pd 1 T (C.xs (C.ss ?_))
 refine U.pd 1 T (C.nx ?_)
 refine C.jn (fun (x7:Unit)=>[]) (fun x7=>[]) 0 g (fun x7 g=>?_) fun J8 g j8=>?_
 refine C.xt (U.pd 1 T (C.nx (C.ret ?_)))
 exact C.f1 T o (pBi g)
 refine C.block (St.wk (C.loop (fun (s9:Int×Int)=>[(0,.sl 2 XR l),(3,.i s9.1),(4,.i s9.2)]) (fun s9=>[]) g (fun s9 Y10 g=>?_)) (Wk.e))
 refine C.seq (C.ss (U.pd 4 T (C.nx ?_)))
 refine C.ite rfl g (fun b13 g=>?_) fun b13 g=>?_
 refine C.skip (C.xs (C.block (C.seq (C.seq ?_))))
 refine C.jn (fun (x14:Bool)=>[(0,.sl 2 XR l),(4,.i s9.2),(38,.b x14)]) (fun x14=>[]) 0 g (fun x14 g=>?_) fun J15 g j15=>?_
 refine C.nx ?_
 refine C.ite rfl g (fun b19 g=>?_) fun b19 g=>?_
 refine C.ss (U.pd 1 T (C.nx (C.ret (C.rt (C.brt (C.rt (C.rt (C.brt (C.rt ?_)))))))))
 exact C.f1 T o (pBi g)
 refine C.skip (C.nx (U.start (U.ps 2 T rfl ?_)))
 obtain⟨x24,y24,g⟩:=g
 refine U.ix T y24 ?_
 refine U.pd 3 T (C.bnx (C.nx (U.start ?_)))
 refine U.pd 3 T (C.nx ?_)
 exact St.wk (C.next g) (Wk.e)
 refine D.bq mix 9999 [] [] (fun hQ hS ws M'=>?_)
 refine D.pq 2 (zl [0,1]) T ?_
 obtain⟨x16,y16,g⟩:=g
 refine D.ix 2 [] T y16 ?_
 refine D.pq 5 (zl [3,4,5,6,7]) T ?_
 refine g.cs (fun b17 g=>?_) fun b17 g=>?_
 refine D.sz 8 [] 7 false 18 b17 ?_
 refine D.sz 9 [] 7 false 18 b17 ?_
 refine D.sz 10 [] 7 false 18 b17 ?_
 refine D.sz 11 [] 7 false 18 b17 ?_
 refine D.sz 12 [] 7 false 18 b17 ?_
 refine D.sz 13 [] 7 false 18 b17 ?_
 refine D.sz 14 [] 7 false 18 b17 ?_
 refine D.sz 15 [] 7 false 18 b17 ?_
 refine D.sz 16 [] 7 false 18 b17 ?_
 refine D.sz 17 [] 7 false 18 b17 ?_
 refine D.sz 18 [] 7 false 18 b17 ?_
 refine D.kt 19 [] b17 ?_
 refine D.pq 1 [(20,[])] T ?_
 refine D.sz 21 [] 20 false 31 rfl ?_
 refine D.sz 22 [] 20 false 31 rfl ?_
 refine D.sz 23 [] 20 false 31 rfl ?_
 refine D.sz 24 [] 20 false 31 rfl ?_
 refine D.sz 25 [] 20 false 31 rfl ?_
 refine D.sz 26 [] 20 false 31 rfl ?_
 refine D.kt 27 [] rfl ?_
 refine D.done (by kernel_rfl) ?_
 exact St.wn (j15 _ g)
 refine D.pt 8 [] 7 false 18 b17 T ?_
 refine D.pt 9 [] 7 false 18 b17 T ?_
 refine D.q 10 [] hQ hS rfl (.tk 7 false 18 b17) rfl rfl (by exact Rd.ix T rfl rfl rfl rfl rfl rfl y16) rfl (by kernel_rfl) ?_
 refine D.pt 11 [] 7 false 18 b17 T ?_
 refine D.q 12 [] hQ hS rfl (.tk 7 false 18 b17) rfl rfl (by exact Rd.l T rfl rfl rfl) rfl (by kernel_rfl) ?_
 refine D.pt 13 [] 7 false 18 b17 T ?_
 refine D.pt 14 [] 7 false 18 b17 T ?_
 refine D.q 15 [] hQ hS rfl (.tk 7 false 18 b17) rfl rfl (by exact Rd.ix T rfl rfl rfl rfl rfl rfl y16) rfl (by kernel_rfl) ?_
 refine D.pt 16 [] 7 false 18 b17 T ?_
 refine D.q 17 [] hQ hS rfl (.tk 7 false 18 b17) rfl rfl (by exact Rd.l T rfl rfl rfl) rfl (by kernel_rfl) ?_
 refine D.pt 18 [] 7 false 18 b17 T ?_
 refine D.kf 19 [] b17 ?_
 refine D.pq 1 [(20,[])] T ?_
 refine g.cs (fun b18 g=>?_) fun b18 g=>?_
 refine D.sz 21 [] 20 false 31 b18 ?_
 refine D.sz 22 [] 20 false 31 b18 ?_
 refine D.sz 23 [] 20 false 31 b18 ?_
 refine D.sz 24 [] 20 false 31 b18 ?_
 refine D.sz 25 [] 20 false 31 b18 ?_
 refine D.sz 26 [] 20 false 31 b18 ?_
 refine D.kt 27 [] b18 ?_
 refine D.done (by kernel_rfl) ?_
 exact St.wn (j15 _ g)
 refine D.pt 21 [] 20 false 31 b18 T ?_
 refine D.pt 22 [] 20 false 31 b18 T ?_
 refine D.q 23 [] hQ hS rfl (.tk 20 false 31 b18) rfl rfl (by exact Rd.ix T rfl rfl rfl rfl rfl rfl y16) rfl (by kernel_rfl) ?_
 refine D.pt 24 [] 20 false 31 b18 T ?_
 refine D.q 25 [] hQ hS rfl (.tk 20 false 31 b18) rfl rfl (by exact Rd.l T rfl rfl rfl) rfl (by kernel_rfl) ?_
 refine D.pt 26 [] 20 false 31 b18 T ?_
 refine D.kf 27 [] b18 ?_
 refine D.done (by kernel_rfl) ?_
 exact St.wn (j15 _ g)
 refine C.exit (C.ex (C.ex (C.bex ?_)))
 exact St.wk (j8 _ g) (Wk.mk' [] rfl rfl trivial trivial rfl)
theorem W5 (f:ApiFloor) (post:Int→Prop) (g:Ka f post):
  Tr Try.prog 62 [.agg (Qm f)] [] 0 (pI post):=by
 refine Tr.go Try.func62 Try.ntmps62 fun _ _ _ _ o=>?_
 unfold Ka at g
 refine C.ss (U.bx ?_)
 refine U.pd 1 T (C.xt ?_)
 refine U.pd 9 T (C.nx (C.ret ?_))
 exact C.f1 T o (pIi g)
theorem Kr (f:ApiFloor) (c:Int) (post:Bool→Prop) (g:Qt f c post):
  Tr Try.prog 35 [.agg (Qm f),.i c] [] 0 (pB post):=by
 refine Tr.go Try.func35 Try.ntmps35 fun _ _ _ _ o=>?_
 unfold Qt at g
 refine C.ss (U.bx ?_)
 refine U.pd 1 T (C.xs ?_)
 refine C.jn (fun (x3:Bool)=>[(4,.b x3)]) (fun x3=>[]) 0 g (fun x3 g=>?_) fun J4 g j4=>?_
 refine C.nx (C.ret ?_)
 exact C.f1 T o (pBi g)
 refine U.start (U.ps 3 T rfl ?_)
 refine g.cs (fun b5 g=>?_) fun b5 g=>?_
 refine U.pq 2 2 true 7 b5 T ?_
 refine U.k (W5 f _ g) en62 (fun x6 g=>?_) (hw:=.take 2 true 7 _ b5 rfl rfl rfl)
 refine U.pq 1 2 true 7 b5 T ?_
 refine U.pk b5 ?_
 refine U.pd 1 T ?_
 exact St.wn (j4 _ g)
 refine U.sk' 4 2 true 7 b5 ?_
 refine U.pk' b5 ?_
 refine U.pd 1 T ?_
 exact St.wn (j4 _ g)
theorem Gv (kind:Int) (post:Bool→Prop) (g:K3 kind post):
  Tr Try.prog 60 [.i kind] [] 0 (pB post):=by
 refine Tr.go Try.func60 Try.ntmps60 fun _ _ _ _ o=>?_
 unfold K3 at g
 refine C.ss (U.pd 1 T (C.xs ?_))
 refine C.jn (fun (x3:Bool)=>[(2,.b x3)]) (fun x3=>[]) 0 g (fun x3 g=>?_) fun J4 g j4=>?_
 refine C.nx (C.ret ?_)
 exact C.f1 T o (pBi g)
 refine U.start (U.ps 3 T rfl ?_)
 refine g.cs (fun b5 g=>?_) fun b5 g=>?_
 refine U.pq 2 2 true 5 b5 T ?_
 refine U.pk b5 ?_
 refine U.ps 1 T rfl ?_
 refine g.cs (fun b6 g=>?_) fun b6 g=>?_
 refine U.pq 2 6 true 9 b6 T ?_
 refine U.pk b6 ?_
 refine U.pd 1 T ?_
 exact St.wn (j4 _ g)
 refine U.sk' 2 6 true 9 b6 ?_
 refine U.pk' b6 ?_
 refine U.pd 1 T ?_
 exact St.wn (j4 _ g)
 refine U.sk' 2 2 true 5 b5 ?_
 refine U.pk' b5 ?_
 refine U.ps 1 T rfl (U.sk' 2 6 true 9 rfl ?_)
 refine U.pk' rfl ?_
 refine U.pd 1 T ?_
 exact St.wn (j4 _ g)
theorem KW (l:List Int) (n:Int) (post:Bool→Prop) (g:QB l n post):
  Tr Try.prog 19 [.sl 1 eI l,.i n] [] 0 (pB post):=by
 refine Tr.go Try.func19 Try.ntmps19 fun _ _ _ _ o=>?_
 unfold QB at g
 refine C.ss (U.pd 1 T (C.xs (C.ss ?_)))
 refine U.pd 1 T (C.nx ?_)
 refine C.jn (fun (x5:Unit)=>[]) (fun x5=>[]) 0 g (fun x5 g=>?_) fun J6 g j6=>?_
 refine C.xt (U.pd 1 T (C.nx (C.ret ?_)))
 exact C.f1 T o (pBi g)
 refine C.block (St.wk (C.loop (fun (s7:Int)=>[(0,.sl 1 eI l),(1,.i n),(5,.i s7)]) (fun s7=>[]) g (fun s7 Y8 g=>?_)) (Wk.e))
 refine C.seq (C.ss (U.pd 4 T (C.nx ?_)))
 refine C.ite rfl g (fun b11 g=>?_) fun b11 g=>?_
 refine C.skip (C.xs (C.block (C.ss (U.ps 2 T rfl ?_))))
 obtain⟨x14,y14,g⟩:=g
 refine U.ix T y14 ?_
 refine U.pd 3 T (C.nx ?_)
 refine C.ite rfl g (fun b15 g=>?_) fun b15 g=>?_
 refine C.ss (U.pd 1 T (C.nx (C.ret (C.brt (C.rt (C.rt (C.brt (C.rt ?_))))))))
 exact C.f1 T o (pBi g)
 refine C.skip (C.bnx (C.nx (U.start (U.pd 3 T (C.nx ?_)))))
 exact St.wk (C.next g) (Wk.e)
 refine C.exit (C.ex (C.ex (C.bex ?_)))
 exact St.wk (j6 _ g) (Wk.mk' [] rfl rfl trivial trivial rfl)
theorem Gq (l:List ApiZone) (c:Int) (post:Bool→Prop) (g:QU l c post):
  Tr Try.prog 61 [.sl 5 QX l,.i c] [] 0 (pB post):=by
 refine Tr.go Try.func61 Try.ntmps61 fun _ _ _ _ o=>?_
 unfold QU at g
 refine C.ss (U.pd 1 T (C.xs (C.ss ?_)))
 refine U.pd 1 T (C.nx ?_)
 refine C.jn (fun (x5:Unit)=>[]) (fun x5=>[]) 0 g (fun x5 g=>?_) fun J6 g j6=>?_
 refine C.xt (U.pd 1 T (C.nx (C.ret ?_)))
 exact C.f1 T o (pBi g)
 refine C.block (St.wk (C.loop (fun (s7:Int)=>[(0,.sl 5 QX l),(1,.i c),(5,.i s7)]) (fun s7=>[]) g (fun s7 Y8 g=>?_)) (Wk.e))
 refine C.seq (C.ss (U.pd 4 T (C.nx ?_)))
 refine C.ite rfl g (fun b11 g=>?_) fun b11 g=>?_
 refine C.skip (C.xs (C.block (C.ss (U.ps 2 T rfl ?_))))
 obtain⟨x14,y14,g⟩:=g
 refine U.ix T y14 ?_
 refine U.ps 3 T rfl (U.k (KW x14.Cells c _ g) en19 (fun x15 g=>?_))
 refine U.done (C.nx ?_)
 refine C.ite rfl g (fun b16 g=>?_) fun b16 g=>?_
 refine C.ss (U.pd 1 T (C.nx (C.ret (C.brt (C.rt (C.rt (C.brt (C.rt ?_))))))))
 exact C.f1 T o (pBi g)
 refine C.skip (C.bnx (C.nx (U.start (U.pd 3 T (C.nx ?_)))))
 exact St.wk (C.next g) (Wk.e)
 refine C.exit (C.ex (C.ex (C.bex ?_)))
 exact St.wk (j6 _ g) (Wk.mk' [] rfl rfl trivial trivial rfl)
theorem Xx (s_1:ApiSite) (post:Bool→Prop) (g:Qx s_1 post):
  Tr Try.prog 32 [.agg (Q1 s_1)] [] 0 (pB post):=by
 refine Tr.go Try.func32 Try.ntmps32 fun _ _ _ _ o=>?_
 unfold Qx at g
 refine C.ss (U.bx ?_)
 refine U.pd 1 T (C.xs (C.ss ?_))
 refine U.pd 1 T (C.nx ?_)
 refine C.jn (fun (x5:Unit)=>[(1,.p 0 0)]) (fun x5=>[(0,.box (Q1 s_1))]) 1 g (fun x5 g=>?_) fun J6 g j6=>?_
 refine C.xt (U.pd 5 T (C.nx (C.ret ?_)))
 exact C.f1 T o (pBi g)
 refine C.block (St.wk (C.loop (fun (s7:Int)=>[(1,.p 0 0),(3,.i s7)]) (fun s7=>[(0,.box (Q1 s_1))]) g (fun s7 Y8 g=>?_)) (Wk.a [some 0]))
 refine C.seq (C.ss (U.pd 5 T (C.nx ?_)))
 refine C.ite rfl g (fun b11 g=>?_) fun b11 g=>?_
 refine C.skip (C.xs ?_)
 refine C.jn (fun (x12:Unit)=>[(1,.p 0 0),(3,.i s7)]) (fun x12=>[(0,.box (Q1 s_1))]) 1 g (fun x12 g=>?_) fun J13 g j13=>?_
 refine C.nx (U.start (U.pd 3 T (C.nx ?_)))
 exact St.wk (C.next g) (Wk.a [some 0])
 refine C.block (C.ss (U.ps 3 T rfl ?_))
 obtain⟨x16,y16,g⟩:=g
 refine U.ix T y16 ?_
 refine U.ps 1 T rfl (U.al T ?_)
 refine U.st T ?_
 refine U.done (C.xs (C.seq ?_))
 refine C.jn (fun (x17:Bool)=>[(1,.p 0 0),(3,.i s7),(4,.p 1 0),(59,.b x17)]) (fun x17=>[(0,.box (Q1 s_1)),(1,.box (QX x16))]) 2 g (fun x17 g=>?_) fun J18 g j18=>?_
 refine C.nx ?_
 refine C.ite rfl g (fun b29 g=>?_) fun b29 g=>?_
 refine C.ss (U.pd 1 T (C.nx (C.ret (C.rt (C.brt (C.rt (C.rt (C.brt (C.rt ?_)))))))))
 exact C.f1 T o (pBi g)
 refine C.skip (C.xt (U.pd 1 T (C.nx ?_)))
 refine C.jn (fun (x34:Unit)=>[(1,.p 0 0),(3,.i s7)]) (fun x34=>[(0,.box (Q1 s_1))]) 1 g (fun x34 g=>?_) fun J35 g j35=>?_
 refine C.bnx ?_
 exact St.wa [some 0] (j13 _ g)
 refine C.block (St.wk (C.loop (fun (s36:Int)=>[(1,.p 0 0),(3,.i s7),(4,.p 1 0),(5,.i s36)]) (fun s36=>[(0,.box (Q1 s_1)),(1,.box (QX x16))]) g (fun s36 Y37 g=>?_)) (Wk.a (idR 2)))
 refine C.seq (C.ss (U.pd 5 T (C.nx ?_)))
 refine C.ite rfl g (fun b40 g=>?_) fun b40 g=>?_
 refine C.skip (C.xs (C.block (C.ss (U.ps 3 T rfl ?_))))
 obtain⟨x43,y43,g⟩:=g
 refine U.ix T y43 ?_
 refine U.pd 2 T (C.xs (C.seq ?_))
 refine C.jn (fun (x44:Bool)=>[(1,.p 0 0),(3,.i s7),(4,.p 1 0),(5,.i s36),(6,.i x43),(91,.b x44)]) (fun x44=>[(0,.box (Q1 s_1)),(1,.box (QX x16))]) 2 g (fun x44 g=>?_) fun J45 g j45=>?_
 refine C.nx ?_
 refine C.ite rfl g (fun b50 g=>?_) fun b50 g=>?_
 refine C.ss (U.pd 1 T (C.nx (C.ret (C.rt (C.brt (C.rt (C.rt (C.brt (C.brt (C.rt (C.rt (C.brt (C.rt ?_)))))))))))))
 exact C.f1 T o (pBi g)
 refine C.skip (C.xs ?_)
 refine C.jn (fun (x53:Bool)=>[(1,.p 0 0),(3,.i s7),(4,.p 1 0),(5,.i s36),(107,.b x53)]) (fun x53=>[(0,.box (Q1 s_1)),(1,.box (QX x16))]) 2 g (fun x53 g=>?_) fun J54 g j54=>?_
 refine C.nx ?_
 refine C.ite rfl g (fun b60 g=>?_) fun b60 g=>?_
 refine C.ss (U.pd 1 T (C.nx (C.ret (C.brt (C.rt (C.rt (C.brt (C.brt (C.rt (C.rt (C.brt (C.rt ?_))))))))))))
 exact C.f1 T o (pBi g)
 refine C.skip (C.bnx (C.nx (U.start (U.pd 3 T (C.nx ?_)))))
 exact St.wk (C.next g) (Wk.a (idR 2))
 refine U.start (U.ps 4 T rfl ?_)
 obtain⟨x55,y55,g⟩:=g
 refine U.ix T y55 ?_
 refine U.ps 1 T rfl (U.k (Gv x55 _ g) en60 (fun x56 g=>?_))
 refine U.ps 2 T rfl ?_
 refine g.cs (fun b57 g=>?_) fun b57 g=>?_
 refine U.pq 3 8 false 100 (ntF b57) T ?_
 obtain⟨y58,g⟩:=g
 refine U.r rfl (.tk 8 false 100 (ntF b57)) rfl rfl (by exact Rd.so T rfl rfl rfl rfl rfl (.none _) (.some _ rfl) y58) ?_
 refine U.pq 1 8 false 100 (ntF b57) T ?_
 refine U.k (Gq (sub s_1.Zones 0 s7) x43 _ g) en61 (fun x59 g=>?_) (hw:=.take 8 false 100 _ (ntF b57) rfl rfl rfl)
 refine U.pk' (ntF b57) ?_
 refine U.done ?_
 exact St.wa (idR 2) (j54 _ g)
 refine U.sk' 6 8 false 100 (ntT b57) ?_
 refine U.pk (ntT b57) ?_
 refine U.done ?_
 exact St.wa (idR 2) (j54 _ g)
 refine U.start (U.ps 3 T rfl (U.k (Kr s_1.Floor x43 _ g) en35 (fun x46 g=>?_)))
 refine U.ps 2 T rfl ?_
 refine g.cs (fun b47 g=>?_) fun b47 g=>?_
 refine U.pq 3 5 false 77 (ntF b47) T ?_
 refine g.cs (fun b48 g=>?_) fun b48 g=>?_
 refine U.pq 5 8 true 80 b48 T ?_
 obtain⟨x49,y49,g⟩:=g
 refine U.r rfl (.tk 8 true 80 b48) rfl rfl (by exact Rd.ix T rfl rfl rfl rfl rfl rfl y49) ?_
 refine U.pq 3 8 true 80 b48 T ?_
 refine U.r rfl (.tk 5 false 77 (ntF b47)) rfl rfl (by exact Rd.pk rfl rfl b48 rfl) ?_
 refine U.pk' (ntF b47) ?_
 refine U.done ?_
 exact St.wa (idR 2) (j45 _ g)
 refine U.sk' 9 8 true 80 b48 ?_
 refine U.r rfl (.tk 5 false 77 (ntF b47)) rfl rfl (by exact Rd.pk' rfl rfl b48 rfl) ?_
 refine U.pk' (ntF b47) ?_
 refine U.done ?_
 exact St.wa (idR 2) (j45 _ g)
 refine U.sk' 3 5 false 77 (ntT b47) ?_
 refine U.sku 9 8 true 80 rfl rfl rfl ?_
 refine U.sk' 1 5 false 77 (ntT b47) ?_
 refine U.pk (ntT b47) ?_
 refine U.done ?_
 exact St.wa (idR 2) (j45 _ g)
 refine C.exit (C.ex (C.ex (C.bex ?_)))
 exact St.wa [some 0] (j35 _ g)
 refine D.bq mix 9999 [0,1] [] (fun hQ hS ws M'=>?_)
 refine D.pq 2 (zl [0,1]) T ?_
 refine D.k 2 (Ku x16.Name _ g) en33 fun x19 g=>?_
 refine D.pq 2 (zl [3,4]) T ?_
 refine g.cs (fun b20 g=>?_) fun b20 g=>?_
 refine D.pt 5 [] 4 false 23 (ntF b20) T ?_
 refine D.q 6 [] hQ hS rfl (.tk 4 false 23 (ntF b20)) rfl rfl (by exact Rd.l T rfl rfl rfl) rfl (by kernel_rfl) ?_
 refine D.pt 7 [] 4 false 23 (ntF b20) T ?_
 obtain⟨y21,g⟩:=g
 refine D.q 8 [] hQ hS rfl (.tk 4 false 23 (ntF b20)) rfl rfl (by exact Rd.so T rfl rfl rfl rfl rfl (.none _) (.some _ rfl) y21) rfl (by kernel_rfl) ?_
 refine D.pt 9 [] 4 false 23 (ntF b20) T ?_
 refine D.q 10 [] hQ hS rfl (.tk 4 false 23 (ntF b20)) rfl rfl (by exact Rd.l T rfl rfl rfl) rfl (by kernel_rfl) ?_
 refine D.k 11 (GU (sub s_1.Zones 0 s7) x16.Name _ g) en58 (fun x22 g=>?_) (hw:=.take 4 false 23 _ (ntF b20) rfl rfl rfl)
 refine D.pt 12 [] 4 false 23 (ntF b20) T ?_
 refine D.kf 13 [] (ntF b20) ?_
 refine D.pq 1 [(14,[])] T ?_
 refine g.cs (fun b23 g=>?_) fun b23 g=>?_
 refine D.sz 15 [] 14 false 33 b23 ?_
 refine D.sz 16 [] 14 false 33 b23 ?_
 refine D.sz 17 [] 14 false 33 b23 ?_
 refine D.sz 18 [] 14 false 33 b23 ?_
 refine D.kt 19 [] b23 ?_
 refine D.pq 1 [(20,[])] T ?_
 refine D.sz 21 [] 20 false 39 rfl ?_
 refine D.sz 22 [] 20 false 39 rfl ?_
 refine D.sz 23 [] 20 false 39 rfl ?_
 refine D.kt 24 [] rfl ?_
 refine D.pq 1 [(25,[])] T ?_
 refine D.sz 26 [] 25 false 44 rfl ?_
 refine D.sz 27 [] 25 false 44 rfl ?_
 refine D.sz 28 [] 25 false 44 rfl ?_
 refine D.kt 29 [] rfl ?_
 refine D.pq 1 [(30,[])] T ?_
 refine D.sz 31 [] 30 false 49 rfl ?_
 refine D.sz 32 [] 30 false 49 rfl ?_
 refine D.sz 33 [] 30 false 49 rfl ?_
 refine D.kt 34 [] rfl ?_
 refine D.pq 1 [(35,[])] T ?_
 refine D.sz 36 [] 35 false 54 rfl ?_
 refine D.sz 37 [] 35 false 54 rfl ?_
 refine D.sz 38 [] 35 false 54 rfl ?_
 refine D.sz 39 [] 35 false 54 rfl ?_
 refine D.kt 40 [] rfl ?_
 refine D.done (by kernel_rfl) ?_
 exact St.wa (idR 2) (j18 _ g)
 refine D.pt 15 [] 14 false 33 b23 T ?_
 refine D.q 16 [] hQ hS rfl (.tk 14 false 33 b23) rfl rfl (by exact Rd.l T rfl rfl rfl) rfl (by kernel_rfl) ?_
 refine D.pt 17 [] 14 false 33 b23 T ?_
 refine D.pt 18 [] 14 false 33 b23 T ?_
 refine D.kf 19 [] b23 ?_
 refine D.pq 1 [(20,[])] T ?_
 refine g.cs (fun b24 g=>?_) fun b24 g=>?_
 refine D.sz 21 [] 20 false 39 b24 ?_
 refine D.sz 22 [] 20 false 39 b24 ?_
 refine D.sz 23 [] 20 false 39 b24 ?_
 refine D.kt 24 [] b24 ?_
 refine D.pq 1 [(25,[])] T ?_
 refine D.sz 26 [] 25 false 44 rfl ?_
 refine D.sz 27 [] 25 false 44 rfl ?_
 refine D.sz 28 [] 25 false 44 rfl ?_
 refine D.kt 29 [] rfl ?_
 refine D.pq 1 [(30,[])] T ?_
 refine D.sz 31 [] 30 false 49 rfl ?_
 refine D.sz 32 [] 30 false 49 rfl ?_
 refine D.sz 33 [] 30 false 49 rfl ?_
 refine D.kt 34 [] rfl ?_
 refine D.pq 1 [(35,[])] T ?_
 refine D.sz 36 [] 35 false 54 rfl ?_
 refine D.sz 37 [] 35 false 54 rfl ?_
 refine D.sz 38 [] 35 false 54 rfl ?_
 refine D.sz 39 [] 35 false 54 rfl ?_
 refine D.kt 40 [] rfl ?_
 refine D.done (by kernel_rfl) ?_
 exact St.wa (idR 2) (j18 _ g)
 refine D.pt 21 [] 20 false 39 b24 T ?_
 refine D.q 22 [] hQ hS rfl (.tk 20 false 39 b24) rfl rfl (by exact Rd.l T rfl rfl rfl) rfl (by kernel_rfl) ?_
 refine D.pt 23 [] 20 false 39 b24 T ?_
 refine D.kf 24 [] b24 ?_
 refine D.pq 1 [(25,[])] T ?_
 refine g.cs (fun b25 g=>?_) fun b25 g=>?_
 refine D.sz 26 [] 25 false 44 b25 ?_
 refine D.sz 27 [] 25 false 44 b25 ?_
 refine D.sz 28 [] 25 false 44 b25 ?_
 refine D.kt 29 [] b25 ?_
 refine D.pq 1 [(30,[])] T ?_
 refine D.sz 31 [] 30 false 49 rfl ?_
 refine D.sz 32 [] 30 false 49 rfl ?_
 refine D.sz 33 [] 30 false 49 rfl ?_
 refine D.kt 34 [] rfl ?_
 refine D.pq 1 [(35,[])] T ?_
 refine D.sz 36 [] 35 false 54 rfl ?_
 refine D.sz 37 [] 35 false 54 rfl ?_
 refine D.sz 38 [] 35 false 54 rfl ?_
 refine D.sz 39 [] 35 false 54 rfl ?_
 refine D.kt 40 [] rfl ?_
 refine D.done (by kernel_rfl) ?_
 exact St.wa (idR 2) (j18 _ g)
 refine D.pt 26 [] 25 false 44 b25 T ?_
 refine D.q 27 [] hQ hS rfl (.tk 25 false 44 b25) rfl rfl (by exact Rd.l T rfl rfl rfl) rfl (by kernel_rfl) ?_
 refine D.pt 28 [] 25 false 44 b25 T ?_
 refine D.kf 29 [] b25 ?_
 refine D.pq 1 [(30,[])] T ?_
 refine g.cs (fun b26 g=>?_) fun b26 g=>?_
 refine D.sz 31 [] 30 false 49 b26 ?_
 refine D.sz 32 [] 30 false 49 b26 ?_
 refine D.sz 33 [] 30 false 49 b26 ?_
 refine D.kt 34 [] b26 ?_
 refine D.pq 1 [(35,[])] T ?_
 refine D.sz 36 [] 35 false 54 rfl ?_
 refine D.sz 37 [] 35 false 54 rfl ?_
 refine D.sz 38 [] 35 false 54 rfl ?_
 refine D.sz 39 [] 35 false 54 rfl ?_
 refine D.kt 40 [] rfl ?_
 refine D.done (by kernel_rfl) ?_
 exact St.wa (idR 2) (j18 _ g)
 refine D.pt 31 [] 30 false 49 b26 T ?_
 refine D.q 32 [] hQ hS rfl (.tk 30 false 49 b26) rfl rfl (by exact Rd.l T rfl rfl rfl) rfl (by kernel_rfl) ?_
 refine D.pt 33 [] 30 false 49 b26 T ?_
 refine D.kf 34 [] b26 ?_
 refine D.pq 1 [(35,[])] T ?_
 refine g.cs (fun b27 g=>?_) fun b27 g=>?_
 refine D.sz 36 [] 35 false 54 b27 ?_
 refine D.sz 37 [] 35 false 54 b27 ?_
 refine D.sz 38 [] 35 false 54 b27 ?_
 refine D.sz 39 [] 35 false 54 b27 ?_
 refine D.kt 40 [] b27 ?_
 refine D.done (by kernel_rfl) ?_
 exact St.wa (idR 2) (j18 _ g)
 refine D.pt 36 [] 35 false 54 b27 T ?_
 refine D.q 37 [] hQ hS rfl (.tk 35 false 54 b27) rfl rfl (by exact Rd.l T rfl rfl rfl) rfl (by kernel_rfl) ?_
 refine D.k 38 (GX x16.Shut _ g) en59 (fun x28 g=>?_) (hw:=.take 35 false 54 _ b27 rfl rfl rfl)
 refine D.pt 39 [] 35 false 54 b27 T ?_
 refine D.kf 40 [] b27 ?_
 refine D.done (by kernel_rfl) ?_
 exact St.wa (idR 2) (j18 _ g)
 refine D.sz 5 [] 4 false 23 (ntT b20) ?_
 refine D.sz 6 [] 4 false 23 (ntT b20) ?_
 refine D.sz 7 [] 4 false 23 (ntT b20) ?_
 refine D.sz 8 [] 4 false 23 (ntT b20) ?_
 refine D.sz 9 [] 4 false 23 (ntT b20) ?_
 refine D.sz 10 [] 4 false 23 (ntT b20) ?_
 refine D.sz 11 [] 4 false 23 (ntT b20) ?_
 refine D.sz 12 [] 4 false 23 (ntT b20) ?_
 refine D.kt 13 [] (ntT b20) ?_
 refine D.pq 1 [(14,[])] T ?_
 refine D.sz 15 [] 14 false 33 rfl ?_
 refine D.sz 16 [] 14 false 33 rfl ?_
 refine D.sz 17 [] 14 false 33 rfl ?_
 refine D.sz 18 [] 14 false 33 rfl ?_
 refine D.kt 19 [] rfl ?_
 refine D.pq 1 [(20,[])] T ?_
 refine D.sz 21 [] 20 false 39 rfl ?_
 refine D.sz 22 [] 20 false 39 rfl ?_
 refine D.sz 23 [] 20 false 39 rfl ?_
 refine D.kt 24 [] rfl ?_
 refine D.pq 1 [(25,[])] T ?_
 refine D.sz 26 [] 25 false 44 rfl ?_
 refine D.sz 27 [] 25 false 44 rfl ?_
 refine D.sz 28 [] 25 false 44 rfl ?_
 refine D.kt 29 [] rfl ?_
 refine D.pq 1 [(30,[])] T ?_
 refine D.sz 31 [] 30 false 49 rfl ?_
 refine D.sz 32 [] 30 false 49 rfl ?_
 refine D.sz 33 [] 30 false 49 rfl ?_
 refine D.kt 34 [] rfl ?_
 refine D.pq 1 [(35,[])] T ?_
 refine D.sz 36 [] 35 false 54 rfl ?_
 refine D.sz 37 [] 35 false 54 rfl ?_
 refine D.sz 38 [] 35 false 54 rfl ?_
 refine D.sz 39 [] 35 false 54 rfl ?_
 refine D.kt 40 [] rfl ?_
 refine D.done (by kernel_rfl) ?_
 exact St.wa (idR 2) (j18 _ g)
 refine C.exit (C.ex (C.ex (C.bex ?_)))
 exact St.wa [some 0] (j6 _ g)
theorem Xl (l:List ApiApart) (a:ByteArray) (b:ByteArray) (post:Bool→Prop) (g:QH l a b post):
  Tr Try.prog 34 [.sl 2 X8 l,.v (.string a),.v (.string b)] [] 0 (pB post):=by
 refine Tr.go Try.func34 Try.ntmps34 fun _ _ _ _ o=>?_
 unfold QH at g
 refine C.ss (U.pd 1 T (C.xs (C.ss ?_)))
 refine U.pd 1 T (C.nx ?_)
 refine C.jn (fun (x5:Unit)=>[]) (fun x5=>[]) 0 g (fun x5 g=>?_) fun J6 g j6=>?_
 refine C.xt (U.pd 1 T (C.nx (C.ret ?_)))
 exact C.f1 T o (pBi g)
 refine C.block (St.wk (C.loop (fun (s7:Int)=>[(0,.sl 2 X8 l),(1,.v (.string a)),(2,.v (.string b)),(7,.i s7)]) (fun s7=>[]) g (fun s7 Y8 g=>?_)) (Wk.e))
 refine C.seq (C.seq ?_)
 refine C.jn (fun (x9:Bool)=>[(0,.sl 2 X8 l),(1,.v (.string a)),(2,.v (.string b)),(7,.i s7),(19,.b x9)]) (fun x9=>[]) 0 g (fun x9 g=>?_) fun J10 g j10=>?_
 refine C.nx ?_
 refine C.ite rfl g (fun b13 g=>?_) fun b13 g=>?_
 refine C.skip (C.xs (C.block (C.seq ?_)))
 refine C.jn (fun (x14:Bool)=>[(0,.sl 2 X8 l),(1,.v (.string a)),(2,.v (.string b)),(7,.i s7),(55,.b x14)]) (fun x14=>[]) 0 g (fun x14 g=>?_) fun J15 g j15=>?_
 refine C.nx ?_
 refine C.ite rfl g (fun b21 g=>?_) fun b21 g=>?_
 refine C.ss (U.pd 1 T (C.nx (C.ret (C.brt (C.rt (C.rt (C.brt (C.rt ?_))))))))
 exact C.f1 T o (pBi g)
 refine C.skip (C.bnx (C.nx (U.start (U.pd 3 T (C.nx ?_)))))
 exact St.wk (C.next g) (Wk.e)
 refine U.start (U.ps 2 T rfl ?_)
 obtain⟨x16,y16,g⟩:=g
 refine U.ix T y16 ?_
 refine U.ps 5 T rfl ?_
 refine g.cs (fun b17 g=>?_) fun b17 g=>?_
 refine U.pq 2 7 true 29 b17 T ?_
 refine U.r rfl (.tk 7 true 29 b17) rfl rfl (by exact Rd.ix T rfl rfl rfl rfl rfl rfl y16) ?_
 refine U.pq 4 7 true 29 b17 T ?_
 refine U.pk b17 ?_
 refine U.ps 1 T rfl ?_
 refine g.cs (fun b18 g=>?_) fun b18 g=>?_
 refine U.sk' 8 16 false 38 b18 ?_
 refine U.sku 7 24 true 46 rfl rfl rfl ?_
 refine U.sk' 1 16 false 38 b18 ?_
 refine U.pk b18 ?_
 refine U.done ?_
 exact St.wn (j15 _ g)
 refine U.pq 2 16 false 38 b18 T ?_
 refine U.r rfl (.tk 16 false 38 b18) rfl rfl (by exact Rd.ix T rfl rfl rfl rfl rfl rfl y16) ?_
 refine U.pq 5 16 false 38 b18 T ?_
 refine g.cs (fun b19 g=>?_) fun b19 g=>?_
 refine U.pq 2 24 true 46 b19 T ?_
 refine U.r rfl (.tk 24 true 46 b19) rfl rfl (by exact Rd.ix T rfl rfl rfl rfl rfl rfl y16) ?_
 refine U.pq 4 24 true 46 b19 T ?_
 refine U.r rfl (.tk 16 false 38 b18) rfl rfl (by exact Rd.pk rfl rfl b19 rfl) ?_
 refine U.pk' b18 ?_
 refine U.done ?_
 exact St.wn (j15 _ g)
 refine U.sk' 7 24 true 46 b19 ?_
 refine U.r rfl (.tk 16 false 38 b18) rfl rfl (by exact Rd.pk' rfl rfl b19 rfl) ?_
 refine U.pk' b18 ?_
 refine U.done ?_
 exact St.wn (j15 _ g)
 refine U.sk' 7 7 true 29 b17 ?_
 refine U.pk' b17 ?_
 refine U.ps 1 T rfl (U.pq 2 16 false 38 rfl T ?_)
 refine U.r rfl (.tk 16 false 38 rfl) rfl rfl (by exact Rd.ix T rfl rfl rfl rfl rfl rfl y16) ?_
 refine U.pq 5 16 false 38 rfl T ?_
 refine g.cs (fun b20 g=>?_) fun b20 g=>?_
 refine U.pq 2 24 true 46 b20 T ?_
 refine U.r rfl (.tk 24 true 46 b20) rfl rfl (by exact Rd.ix T rfl rfl rfl rfl rfl rfl y16) ?_
 refine U.pq 4 24 true 46 b20 T ?_
 refine U.r rfl (.tk 16 false 38 rfl) rfl rfl (by exact Rd.pk rfl rfl b20 rfl) ?_
 refine U.pk' rfl ?_
 refine U.done ?_
 exact St.wn (j15 _ g)
 refine U.sk' 7 24 true 46 b20 ?_
 refine U.r rfl (.tk 16 false 38 rfl) rfl rfl (by exact Rd.pk' rfl rfl b20 rfl) ?_
 refine U.pk' rfl ?_
 refine U.done ?_
 exact St.wn (j15 _ g)
 refine C.exit (C.ex (C.ex (C.bex ?_)))
 exact St.wk (j6 _ g) (Wk.mk' [] rfl rfl trivial trivial rfl)
 refine U.start (U.ps 5 T rfl ?_)
 refine g.cs (fun b11 g=>?_) fun b11 g=>?_
 refine U.pq 2 4 true 12 b11 T ?_
 refine U.pk b11 ?_
 refine U.ps 1 T rfl ?_
 refine g.cs (fun b12 g=>?_) fun b12 g=>?_
 refine U.sk' 2 8 true 16 (ntF b12) ?_
 refine U.pk' (ntF b12) ?_
 refine U.done ?_
 exact St.wn (j10 _ g)
 refine U.pq 2 8 true 16 (ntT b12) T ?_
 refine U.pk (ntT b12) ?_
 refine U.done ?_
 exact St.wn (j10 _ g)
 refine U.sk' 2 4 true 12 b11 ?_
 refine U.pk' b11 ?_
 refine U.ps 1 T rfl (U.sk' 2 8 true 16 rfl ?_)
 refine U.pk' rfl ?_
 refine U.done ?_
 exact St.wn (j10 _ g)
theorem Xb (kind:Int) (post:Bool→Prop) (g:QE kind post):
  Tr Try.prog 36 [.i kind] [] 0 (pB post):=by
 refine Tr.go Try.func36 Try.ntmps36 fun _ _ _ _ o=>?_
 unfold QE at g
 refine C.ss (U.pd 1 T (C.xs ?_))
 refine C.jn (fun (x3:Bool)=>[(2,.b x3)]) (fun x3=>[]) 0 g (fun x3 g=>?_) fun J4 g j4=>?_
 refine C.nx (C.ret ?_)
 exact C.f1 T o (pBi g)
 refine U.start (U.ps 3 T rfl ?_)
 refine g.cs (fun b5 g=>?_) fun b5 g=>?_
 refine U.sk' 2 2 false 5 b5 ?_
 refine U.pk b5 ?_
 refine U.pd 1 T ?_
 exact St.wn (j4 _ g)
 refine U.pq 2 2 false 5 b5 T ?_
 refine U.pk' b5 ?_
 refine U.pd 1 T ?_
 exact St.wn (j4 _ g)
theorem Kz (l:List ApiShelf) (c:Int) (post:Int→Prop) (g:Qp l c post):
  Tr Try.prog 37 [.sl 2 XH l,.i c] [] 0 (pI post):=by
 refine Tr.go Try.func37 Try.ntmps37 fun _ _ _ _ o=>?_
 unfold Qp at g
 refine C.ss (U.pd 1 T (C.xs (C.ss ?_)))
 refine U.pd 1 T (C.nx ?_)
 refine C.jn (fun (x5:Unit)=>[]) (fun x5=>[]) 0 g (fun x5 g=>?_) fun J6 g j6=>?_
 refine C.xt (U.pd 1 T (C.nx (C.ret ?_)))
 exact C.f1 T o (pIi g)
 refine C.block (St.wk (C.loop (fun (s7:Int)=>[(0,.sl 2 XH l),(1,.i c),(5,.i s7)]) (fun s7=>[]) g (fun s7 Y8 g=>?_)) (Wk.e))
 refine C.seq (C.ss (U.pd 4 T (C.nx ?_)))
 refine C.ite rfl g (fun b11 g=>?_) fun b11 g=>?_
 refine C.skip (C.xs (C.block (C.ss (U.ps 2 T rfl ?_))))
 obtain⟨x14,y14,g⟩:=g
 refine U.ix T y14 ?_
 refine U.pd 4 T (C.nx ?_)
 refine C.ite rfl g (fun b15 g=>?_) fun b15 g=>?_
 refine C.ss (U.pd 2 T (C.nx (C.ret (C.brt (C.rt (C.rt (C.brt (C.rt ?_))))))))
 exact C.f1 T o (pIi g)
 refine C.skip (C.bnx (C.nx (U.start (U.pd 3 T (C.nx ?_)))))
 exact St.wk (C.next g) (Wk.e)
 refine C.exit (C.ex (C.ex (C.bex ?_)))
 exact St.wk (j6 _ g) (Wk.mk' [] rfl rfl trivial trivial rfl)
theorem G8 (l:List ApiStart) (c:Int) (post:Bool→Prop) (g:QK l c post):
  Tr Try.prog 38 [.sl 2 XA l,.i c] [] 0 (pB post):=by
 refine Tr.go Try.func38 Try.ntmps38 fun _ _ _ _ o=>?_
 unfold QK at g
 refine C.ss (U.pd 1 T (C.xs (C.ss ?_)))
 refine U.pd 1 T (C.nx ?_)
 refine C.jn (fun (x5:Unit)=>[]) (fun x5=>[]) 0 g (fun x5 g=>?_) fun J6 g j6=>?_
 refine C.xt (U.pd 1 T (C.nx (C.ret ?_)))
 exact C.f1 T o (pBi g)
 refine C.block (St.wk (C.loop (fun (s7:Int)=>[(0,.sl 2 XA l),(1,.i c),(5,.i s7)]) (fun s7=>[]) g (fun s7 Y8 g=>?_)) (Wk.e))
 refine C.seq (C.ss (U.pd 4 T (C.nx ?_)))
 refine C.ite rfl g (fun b11 g=>?_) fun b11 g=>?_
 refine C.skip (C.xs (C.block (C.ss (U.ps 2 T rfl ?_))))
 obtain⟨x14,y14,g⟩:=g
 refine U.ix T y14 ?_
 refine U.pd 4 T (C.nx ?_)
 refine C.ite rfl g (fun b15 g=>?_) fun b15 g=>?_
 refine C.ss (U.pd 1 T (C.nx (C.ret (C.brt (C.rt (C.rt (C.brt (C.rt ?_))))))))
 exact C.f1 T o (pBi g)
 refine C.skip (C.bnx (C.nx (U.start (U.pd 3 T (C.nx ?_)))))
 exact St.wk (C.next g) (Wk.e)
 refine C.exit (C.ex (C.ex (C.bex ?_)))
 exact St.wk (j6 _ g) (Wk.mk' [] rfl rfl trivial trivial rfl)
theorem Gl (s_1:ApiSite) (z:ApiZone) (post:Int→Prop) (g:QQ s_1 z post):
  Tr Try.prog 39 [.agg (Q1 s_1),.agg (QX z)] [] 0 (pI post):=by
 refine Tr.go Try.func39 Try.ntmps39 fun _ _ _ _ o=>?_
 unfold QQ at g
 refine C.ss (U.bx ?_)
 refine U.bx ?_
 refine U.pd 1 T (C.xt ?_)
 refine U.pd 1 T (C.xs (C.ss ?_))
 refine U.pd 1 T (C.nx ?_)
 refine C.jn (fun (x7:Int)=>[(5,.i x7)]) (fun x7=>[]) 0 g (fun x7 g=>?_) fun J8 g j8=>?_
 refine C.xt (U.pd 2 T (C.nx (C.ret ?_)))
 exact C.f1 T o (pIi g)
 refine C.block (St.wk (C.loop (fun (s9:Int×Int)=>[(2,.p 0 0),(3,.p 1 0),(5,.i s9.1),(6,.i s9.2)]) (fun s9=>[(0,.box (Q1 s_1)),(1,.box (QX z))]) g (fun s9 Y10 g=>?_)) (Wk.a (idR 2)))
 refine C.seq (C.ss (U.pd 5 T (C.nx ?_)))
 refine C.ite rfl g (fun b13 g=>?_) fun b13 g=>?_
 refine C.skip (C.xs (C.block (C.seq ?_)))
 refine C.jn (fun (x14:Bool)=>[(2,.p 0 0),(3,.p 1 0),(5,.i s9.1),(6,.i s9.2),(35,.b x14)]) (fun x14=>[(0,.box (Q1 s_1)),(1,.box (QX z))]) 2 g (fun x14 g=>?_) fun J15 g j15=>?_
 refine C.nx ?_
 refine C.jn (fun (x21:Int)=>[(2,.p 0 0),(3,.p 1 0),(5,.i x21),(6,.i s9.2)]) (fun x21=>[(0,.box (Q1 s_1)),(1,.box (QX z))]) 2 g (fun x21 g=>?_) fun J22 g j22=>?_
 refine C.bnx (C.nx (U.start (U.pd 3 T (C.nx ?_))))
 exact St.wk (C.next g) (Wk.a (idR 2))
 refine C.ite rfl g (fun b23 g=>?_) fun b23 g=>?_
 refine U.start (U.pd 3 T ?_)
 exact St.wa (idR 2) (j22 _ g)
 refine C.skip ?_
 exact St.wa (idR 2) (j22 _ g)
 refine D.bq mix 9999 [0,1] [] (fun hQ hS ws M'=>?_)
 refine D.pq 6 (zl [0,1,2,3,4,5]) T ?_
 obtain⟨x16,y16,g⟩:=g
 refine D.ix 6 [] T y16 ?_
 refine D.pq 1 [(7,[])] T ?_
 obtain⟨x17,y17,g⟩:=g
 refine D.ix 8 [] T y17 ?_
 refine D.pq 1 [(9,[])] T ?_
 refine D.k 10 (Xb x17 _ g) en36 fun x18 g=>?_
 refine D.pq 1 [(11,[])] T ?_
 refine g.cs (fun b19 g=>?_) fun b19 g=>?_
 refine D.pt 12 [] 11 true 25 b19 T ?_
 refine D.q 13 [] hQ hS rfl (.tk 11 true 25 b19) rfl rfl (by exact Rd.l T rfl rfl rfl) rfl (by kernel_rfl) ?_
 refine D.pt 14 [] 11 true 25 b19 T ?_
 refine D.q 15 [] hQ hS rfl (.tk 11 true 25 b19) rfl rfl (by exact Rd.l T rfl rfl rfl) rfl (by kernel_rfl) ?_
 refine D.pt 16 [] 11 true 25 b19 T ?_
 refine D.q 17 [] hQ hS rfl (.tk 11 true 25 b19) rfl rfl (by exact Rd.ix T rfl rfl rfl rfl rfl rfl y16) rfl (by kernel_rfl) ?_
 refine D.q 18 [] hQ hS rfl (.tk 11 true 25 b19) rfl rfl (by exact Rd.l T rfl rfl rfl) rfl (by kernel_rfl) ?_
 refine D.k 19 (Kz s_1.Shelves x16 _ g) en37 (fun x20 g=>?_) (hw:=.take 11 true 25 _ b19 rfl rfl rfl)
 refine D.pt 20 [] 11 true 25 b19 T ?_
 refine D.kt 21 [] b19 ?_
 refine D.done (by kernel_rfl) ?_
 exact St.wa (idR 2) (j15 _ g)
 refine D.sz 12 [] 11 true 25 b19 ?_
 refine D.sz 13 [] 11 true 25 b19 ?_
 refine D.sz 14 [] 11 true 25 b19 ?_
 refine D.sz 15 [] 11 true 25 b19 ?_
 refine D.sz 16 [] 11 true 25 b19 ?_
 refine D.sz 17 [] 11 true 25 b19 ?_
 refine D.sz 18 [] 11 true 25 b19 ?_
 refine D.sz 19 [] 11 true 25 b19 ?_
 refine D.sz 20 [] 11 true 25 b19 ?_
 refine D.kf 21 [] b19 ?_
 refine D.done (by kernel_rfl) ?_
 exact St.wa (idR 2) (j15 _ g)
 refine C.exit (C.ex (C.ex (C.bex ?_)))
 exact St.wn (j8 _ g)
theorem WO (f:ApiFloor) (c:Int) (post:(Int×Int×Int)→Prop) (g:Kn f c post):
  Tr Try.prog 77 [.agg (Qm f),.i c] [] 0 (fun A H' k=>∃y,post y∧A=(.tup [.i y.1,.i y.2.1,.i y.2.2])∧H'=[]∧k=0):=by
 refine Tr.go Try.func77 Try.ntmps77 fun _ _ _ _ o=>?_
 unfold Kn at g
 refine C.ss (U.bx ?_)
 refine U.pd 3 T (C.xs (C.ss ?_))
 refine U.ps 2 T rfl (U.k (Kr f c _ g) en35 (fun x5 g=>?_))
 refine U.pd 1 T (C.nx ?_)
 refine C.ite rfl g (fun b6 g=>?_) fun b6 g=>?_
 refine C.ss (U.pd 3 T (C.nx (C.ret (C.rt ?_))))
 exact C.f9 T o ⟨(0,0,0),g,rfl,rfl,rfl⟩
 refine C.skip (C.xs (D.bq mix 9999 [0] [] (fun hQ hS ws M'=>?_)))
 refine D.pq 3 (zl [0,1,2]) T ?_
 obtain⟨y11,g⟩:=g
 refine D.q 3 [] hQ hS rfl (.none rfl) rfl rfl (by exact Rd.rm rfl rfl rfl rfl y11) rfl (by kernel_rfl) ?_
 refine D.pq 3 (zl [4,5,6]) T ?_
 obtain⟨y12,g⟩:=g
 refine D.q 7 [] hQ hS rfl (.none rfl) rfl rfl (by exact Rd.dv rfl rfl rfl rfl y12) rfl (by kernel_rfl) ?_
 refine D.pq 2 (zl [8,9]) T ?_
 obtain⟨y13,g⟩:=g
 refine D.q 10 [] hQ hS rfl (.none rfl) rfl rfl (by exact Rd.rm rfl rfl rfl rfl y13) rfl (by kernel_rfl) ?_
 refine D.pq 3 (zl [11,12,13]) T ?_
 obtain⟨y14,g⟩:=g
 refine D.q 14 [] hQ hS rfl (.none rfl) rfl rfl (by exact Rd.dv rfl rfl rfl rfl y14) rfl (by kernel_rfl) ?_
 refine D.pq 2 (zl [15,16]) T ?_
 obtain⟨y15,g⟩:=g
 refine D.q 17 [] hQ hS rfl (.none rfl) rfl rfl (by exact Rd.dv rfl rfl rfl rfl y15) rfl (by kernel_rfl) ?_
 refine D.pq 3 (zl [18,19,20]) T ?_
 refine D.done (by kernel_rfl) ?_
 refine C.nx (C.ret ?_)
 exact C.f9 T o ⟨(c.tmod f.W,(w64 (c.tdiv f.W)).tmod f.H,w64 ((w64 (c.tdiv f.W)).tdiv f.H)),g,rfl,rfl,rfl⟩
theorem QO (f:ApiFloor) (x_1:Int) (y_1:Int) (z:Int) (post:Int→Prop) (g:Qh f x_1 y_1 z post):
  Tr Try.prog 78 [.agg (Qm f),.i x_1,.i y_1,.i z] [] 0 (pI post):=by
 refine Tr.go Try.func78 Try.ntmps78 fun _ _ _ _ o=>?_
 unfold Qh at g
 refine C.ss (U.bx ?_)
 refine U.pd 1 T (C.xs (C.seq ?_))
 refine C.jn (fun (x3:Bool)=>[(1,.i x_1),(2,.i y_1),(3,.i z),(4,.p 0 0),(36,.b x3)]) (fun x3=>[(0,.box (Qm f))]) 1 g (fun x3 g=>?_) fun J4 g j4=>?_
 refine C.nx ?_
 refine C.ite rfl g (fun b10 g=>?_) fun b10 g=>?_
 refine C.ss (U.pd 1 T (C.nx (C.ret (C.rt ?_))))
 exact C.f1 T o (pIi g)
 refine C.skip (C.xt (U.pd 12 T (C.nx (C.ret ?_))))
 exact C.f1 T o (pIi g)
 refine U.start (U.ps 3 T rfl ?_)
 refine g.cs (fun b5 g=>?_) fun b5 g=>?_
 refine U.sk' 4 2 false 11 b5 ?_
 refine U.pk b5 ?_
 refine U.ps 1 T rfl (U.sk' 2 8 false 17 rfl ?_)
 refine U.pk rfl ?_
 refine U.ps 1 T rfl (U.sk' 4 12 false 21 rfl ?_)
 refine U.pk rfl ?_
 refine U.ps 1 T rfl (U.sk' 2 18 false 27 rfl ?_)
 refine U.pk rfl ?_
 refine U.ps 1 T rfl (U.sk' 4 22 false 31 rfl ?_)
 refine U.pk rfl ?_
 refine U.done ?_
 exact St.wa [some 0] (j4 _ g)
 refine U.pq 4 2 false 11 b5 T ?_
 refine U.pk' b5 ?_
 refine U.ps 1 T rfl ?_
 refine g.cs (fun b6 g=>?_) fun b6 g=>?_
 refine U.sk' 2 8 false 17 b6 ?_
 refine U.pk b6 ?_
 refine U.ps 1 T rfl (U.sk' 4 12 false 21 rfl ?_)
 refine U.pk rfl ?_
 refine U.ps 1 T rfl (U.sk' 2 18 false 27 rfl ?_)
 refine U.pk rfl ?_
 refine U.ps 1 T rfl (U.sk' 4 22 false 31 rfl ?_)
 refine U.pk rfl ?_
 refine U.done ?_
 exact St.wa [some 0] (j4 _ g)
 refine U.pq 2 8 false 17 b6 T ?_
 refine U.pk' b6 ?_
 refine U.ps 1 T rfl ?_
 refine g.cs (fun b7 g=>?_) fun b7 g=>?_
 refine U.sk' 4 12 false 21 b7 ?_
 refine U.pk b7 ?_
 refine U.ps 1 T rfl (U.sk' 2 18 false 27 rfl ?_)
 refine U.pk rfl ?_
 refine U.ps 1 T rfl (U.sk' 4 22 false 31 rfl ?_)
 refine U.pk rfl ?_
 refine U.done ?_
 exact St.wa [some 0] (j4 _ g)
 refine U.pq 4 12 false 21 b7 T ?_
 refine U.pk' b7 ?_
 refine U.ps 1 T rfl ?_
 refine g.cs (fun b8 g=>?_) fun b8 g=>?_
 refine U.sk' 2 18 false 27 b8 ?_
 refine U.pk b8 ?_
 refine U.ps 1 T rfl (U.sk' 4 22 false 31 rfl ?_)
 refine U.pk rfl ?_
 refine U.done ?_
 exact St.wa [some 0] (j4 _ g)
 refine U.pq 2 18 false 27 b8 T ?_
 refine U.pk' b8 ?_
 refine U.ps 1 T rfl ?_
 refine g.cs (fun b9 g=>?_) fun b9 g=>?_
 refine U.sk' 4 22 false 31 b9 ?_
 refine U.pk b9 ?_
 refine U.done ?_
 exact St.wa [some 0] (j4 _ g)
 refine U.pq 4 22 false 31 b9 T ?_
 refine U.pk' b9 ?_
 refine U.done ?_
 exact St.wa [some 0] (j4 _ g)
theorem Gn (f:ApiFloor) (c:Int) (d:Int) (post:Int→Prop) (g:QR f c d post):
  Tr Try.prog 63 [.agg (Qm f),.i c,.i d] [] 0 (pI post):=by
 refine Tr.go Try.func63 Try.ntmps63 fun _ _ _ _ o=>?_
 unfold QR at g
 refine C.ss (U.bx ?_)
 refine U.pd 1 T (C.xs (C.ss ?_))
 refine U.ps 2 T rfl (U.k (Kr f c _ g) en35 (fun x5 g=>?_))
 refine U.pd 1 T (C.nx ?_)
 refine C.ite rfl g (fun b6 g=>?_) fun b6 g=>?_
 refine C.ss (U.pd 1 T (C.nx (C.ret (C.rt ?_))))
 exact C.f1 T o (pIi g)
 refine C.skip (C.xt (U.ps 2 T rfl (U.k (WO f c _ g) en77 (fun x11 g=>?_))))
 refine U.pd 7 T (C.xs (C.ss ?_))
 refine U.pd 1 T (C.nx (C.block (C.ss ?_)))
 refine U.pd 2 T (C.nx ?_)
 refine C.ite rfl g (fun b16 g=>?_) fun b16 g=>?_
 refine C.ss (U.ps 5 T rfl (U.k (QO f (w64 (x11.1+1)) x11.2.1 x11.2.2 _ g) en78 (fun x19 g=>?_)))
 refine U.pd 1 T (C.nx (C.ret (C.brt (C.rt ?_))))
 exact C.f1 T o (pIi g)
 refine C.ss (U.pd 2 T (C.nx ?_))
 refine C.ite rfl g (fun b22 g=>?_) fun b22 g=>?_
 refine C.ss (U.ps 5 T rfl (U.k (QO f x11.1 (w64 (x11.2.1+1)) x11.2.2 _ g) en78 (fun x25 g=>?_)))
 refine U.pd 1 T (C.nx (C.ret (C.brt (C.rt ?_))))
 exact C.f1 T o (pIi g)
 refine C.ss (U.pd 2 T (C.nx ?_))
 refine C.ite rfl g (fun b28 g=>?_) fun b28 g=>?_
 refine C.ss (U.ps 5 T rfl (U.k (QO f (w64 (x11.1-1)) x11.2.1 x11.2.2 _ g) en78 (fun x31 g=>?_)))
 refine U.pd 1 T (C.nx (C.ret (C.brt (C.rt ?_))))
 exact C.f1 T o (pIi g)
 refine C.ss (U.pd 2 T (C.nx ?_))
 refine C.ite rfl g (fun b34 g=>?_) fun b34 g=>?_
 refine C.ss (U.ps 5 T rfl (U.k (QO f x11.1 (w64 (x11.2.1-1)) x11.2.2 _ g) en78 (fun x37 g=>?_)))
 refine U.pd 1 T (C.nx (C.ret (C.brt (C.rt ?_))))
 exact C.f1 T o (pIi g)
 refine C.ss (U.pd 2 T (C.nx ?_))
 refine C.ite rfl g (fun b40 g=>?_) fun b40 g=>?_
 refine C.ss (U.ps 5 T rfl (U.k (QO f x11.1 x11.2.1 (w64 (x11.2.2+1)) _ g) en78 (fun x43 g=>?_)))
 refine U.pd 1 T (C.nx (C.ret (C.brt (C.rt ?_))))
 exact C.f1 T o (pIi g)
 refine C.ss (U.pd 2 T (C.nx ?_))
 refine C.ite rfl g (fun b46 g=>?_) fun b46 g=>?_
 refine C.ss (U.ps 5 T rfl (U.k (QO f x11.1 x11.2.1 (w64 (x11.2.2-1)) _ g) en78 (fun x49 g=>?_)))
 refine U.pd 1 T (C.nx (C.ret (C.brt (C.rt ?_))))
 exact C.f1 T o (pIi g)
 refine C.skip (C.bnx (C.xt (U.pd 1 T (C.nx (C.ret ?_)))))
 exact C.f1 T o (pIi g)
theorem Gm (s_1:ApiSite) (post:Int→Prop) (g:QT s_1 post):
  Tr Try.prog 40 [.agg (Q1 s_1)] [] 0 (pI post):=by
 refine Tr.go Try.func40 Try.ntmps40 fun _ _ _ _ o=>?_
 unfold QT at g
 refine C.ss (U.bx ?_)
 refine U.pd 1 T (C.xs (C.ss ?_))
 refine U.pd 1 T (C.nx ?_)
 refine C.jn (fun (x5:Unit)=>[]) (fun x5=>[]) 0 g (fun x5 g=>?_) fun J6 g j6=>?_
 refine C.xt (U.pd 1 T (C.nx (C.ret ?_)))
 exact C.f1 T o (pIi g)
 refine C.block (St.wk (C.loop (fun (s7:Int)=>[(1,.p 0 0),(3,.i s7)]) (fun s7=>[(0,.box (Q1 s_1))]) g (fun s7 Y8 g=>?_)) (Wk.a [some 0]))
 refine C.seq (C.ss (U.pd 5 T (C.nx ?_)))
 refine C.ite rfl g (fun b11 g=>?_) fun b11 g=>?_
 refine C.skip (C.xs ?_)
 refine C.jn (fun (x12:Unit)=>[(1,.p 0 0),(3,.i s7)]) (fun x12=>[(0,.box (Q1 s_1))]) 1 g (fun x12 g=>?_) fun J13 g j13=>?_
 refine C.nx (U.start (U.pd 3 T (C.nx ?_)))
 exact St.wk (C.next g) (Wk.a [some 0])
 refine C.block (C.ss (U.pd 1 T (C.nx ?_)))
 refine C.jn (fun (x16:Unit)=>[(1,.p 0 0),(3,.i s7)]) (fun x16=>[(0,.box (Q1 s_1))]) 1 g (fun x16 g=>?_) fun J17 g j17=>?_
 refine C.bnx ?_
 exact St.wa [some 0] (j13 _ g)
 refine C.block (St.wk (C.loop (fun (s18:Int)=>[(1,.p 0 0),(3,.i s7),(4,.i s18)]) (fun s18=>[(0,.box (Q1 s_1))]) g (fun s18 Y19 g=>?_)) (Wk.a [some 0]))
 refine C.seq (C.ss (U.pd 2 T (C.nx ?_)))
 refine C.ite rfl g (fun b22 g=>?_) fun b22 g=>?_
 refine C.skip (C.xs (C.block (C.seq (D.bq mix 9999 [0] [] (fun hQ hS ws M'=>?_)))))
 refine D.pq 5 (zl [0,1,2,3,4]) T ?_
 obtain⟨x25,y25,g⟩:=g
 refine D.ix 5 [] T y25 ?_
 refine D.pq 3 (zl [6,7,8]) T ?_
 refine D.k 9 (Gn s_1.Floor x25.Cell s18 _ g) en63 fun x26 g=>?_
 refine D.pq 1 [(10,[])] T ?_
 refine D.done (by kernel_rfl) ?_
 refine C.xt (U.ps 3 T rfl (U.k (Kz s_1.Shelves x26 _ g) en37 (fun x29 g=>?_)))
 refine U.pd 1 T (C.xs ?_)
 refine C.jn (fun (x30:Bool)=>[(1,.p 0 0),(3,.i s7),(4,.i s18),(60,.b x30)]) (fun x30=>[(0,.box (Q1 s_1))]) 1 g (fun x30 g=>?_) fun J31 g j31=>?_
 refine C.nx ?_
 refine C.ite rfl g (fun b37 g=>?_) fun b37 g=>?_
 refine C.ss (U.pd 2 T (C.nx (C.ret (C.brt (C.rt (C.rt (C.brt (C.brt (C.rt (C.rt (C.brt (C.rt ?_))))))))))))
 exact C.f1 T o (pIi g)
 refine C.skip (C.bnx (C.nx (U.start (U.pd 3 T (C.nx ?_)))))
 exact St.wk (C.next g) (Wk.a [some 0])
 refine D.bq mix 9999 [0] [] (fun hQ hS ws M'=>?_)
 refine D.pq 3 (zl [0,1,2]) T ?_
 refine g.cs (fun b32 g=>?_) fun b32 g=>?_
 refine D.pt 3 [] 2 true 34 b32 T ?_
 refine D.pt 4 [] 2 true 34 b32 T ?_
 refine D.kt 5 [] b32 ?_
 refine D.pq 1 [(6,[])] T ?_
 refine g.cs (fun b33 g=>?_) fun b33 g=>?_
 refine D.pt 7 [] 6 true 38 b33 T ?_
 refine D.pt 8 [] 6 true 38 b33 T ?_
 refine D.pt 9 [] 6 true 38 b33 T ?_
 refine D.kt 10 [] b33 ?_
 refine D.pq 1 [(11,[])] T ?_
 refine g.cs (fun b34 g=>?_) fun b34 g=>?_
 refine D.pt 12 [] 11 true 43 b34 T ?_
 refine D.q 13 [] hQ hS rfl (.tk 11 true 43 b34) rfl rfl (by exact Rd.l T rfl rfl rfl) rfl (by kernel_rfl) ?_
 refine D.pt 14 [] 11 true 43 b34 T ?_
 refine D.q 15 [] hQ hS rfl (.tk 11 true 43 b34) rfl rfl (by exact Rd.l T rfl rfl rfl) rfl (by kernel_rfl) ?_
 refine D.pt 16 [] 11 true 43 b34 T ?_
 refine D.q 17 [] hQ hS rfl (.tk 11 true 43 b34) rfl rfl (by exact Rd.ix T rfl rfl rfl rfl rfl rfl y25) rfl (by kernel_rfl) ?_
 refine D.pt 18 [] 11 true 43 b34 T ?_
 refine D.q 19 [] hQ hS rfl (.tk 11 true 43 b34) rfl rfl (by exact Rd.l T rfl rfl rfl) rfl (by kernel_rfl) ?_
 refine D.pt 20 [] 11 true 43 b34 T ?_
 refine D.q 21 [] hQ hS rfl (.tk 11 true 43 b34) rfl rfl (by exact Rd.l T rfl rfl rfl) rfl (by kernel_rfl) ?_
 refine D.pt 22 [] 11 true 43 b34 T ?_
 refine D.pt 23 [] 11 true 43 b34 T ?_
 obtain⟨x35,y35,g⟩:=g
 refine D.q 24 [] hQ hS rfl (.tk 11 true 43 b34) rfl rfl (by exact Rd.ix T rfl rfl rfl rfl rfl rfl y35) rfl (by kernel_rfl) ?_
 refine D.pt 25 [] 11 true 43 b34 T ?_
 refine D.q 26 [] hQ hS rfl (.tk 11 true 43 b34) rfl rfl (by exact Rd.l T rfl rfl rfl) rfl (by kernel_rfl) ?_
 refine D.k 27 (Xl s_1.Aparts x25.Class x35.Class _ g) en34 (fun x36 g=>?_) (hw:=.take 11 true 43 _ b34 rfl rfl rfl)
 refine D.kt 28 [] b34 ?_
 refine D.done (by kernel_rfl) ?_
 exact St.wa [some 0] (j31 _ g)
 refine D.sz 12 [] 11 true 43 b34 ?_
 refine D.sz 13 [] 11 true 43 b34 ?_
 refine D.sz 14 [] 11 true 43 b34 ?_
 refine D.sz 15 [] 11 true 43 b34 ?_
 refine D.sz 16 [] 11 true 43 b34 ?_
 refine D.sz 17 [] 11 true 43 b34 ?_
 refine D.sz 18 [] 11 true 43 b34 ?_
 refine D.sz 19 [] 11 true 43 b34 ?_
 refine D.sz 20 [] 11 true 43 b34 ?_
 refine D.sz 21 [] 11 true 43 b34 ?_
 refine D.sz 22 [] 11 true 43 b34 ?_
 refine D.sz 23 [] 11 true 43 b34 ?_
 refine D.sz 24 [] 11 true 43 b34 ?_
 refine D.sz 25 [] 11 true 43 b34 ?_
 refine D.sz 26 [] 11 true 43 b34 ?_
 refine D.sz 27 [] 11 true 43 b34 ?_
 refine D.kf 28 [] b34 ?_
 refine D.done (by kernel_rfl) ?_
 exact St.wa [some 0] (j31 _ g)
 refine D.sz 7 [] 6 true 38 b33 ?_
 refine D.sz 8 [] 6 true 38 b33 ?_
 refine D.sz 9 [] 6 true 38 b33 ?_
 refine D.kf 10 [] b33 ?_
 refine D.pq 1 [(11,[])] T ?_
 refine D.sz 12 [] 11 true 43 rfl ?_
 refine D.sz 13 [] 11 true 43 rfl ?_
 refine D.sz 14 [] 11 true 43 rfl ?_
 refine D.sz 15 [] 11 true 43 rfl ?_
 refine D.sz 16 [] 11 true 43 rfl ?_
 refine D.sz 17 [] 11 true 43 rfl ?_
 refine D.sz 18 [] 11 true 43 rfl ?_
 refine D.sz 19 [] 11 true 43 rfl ?_
 refine D.sz 20 [] 11 true 43 rfl ?_
 refine D.sz 21 [] 11 true 43 rfl ?_
 refine D.sz 22 [] 11 true 43 rfl ?_
 refine D.sz 23 [] 11 true 43 rfl ?_
 refine D.sz 24 [] 11 true 43 rfl ?_
 refine D.sz 25 [] 11 true 43 rfl ?_
 refine D.sz 26 [] 11 true 43 rfl ?_
 refine D.sz 27 [] 11 true 43 rfl ?_
 refine D.kf 28 [] rfl ?_
 refine D.done (by kernel_rfl) ?_
 exact St.wa [some 0] (j31 _ g)
 refine D.sz 3 [] 2 true 34 b32 ?_
 refine D.sz 4 [] 2 true 34 b32 ?_
 refine D.kf 5 [] b32 ?_
 refine D.pq 1 [(6,[])] T ?_
 refine D.sz 7 [] 6 true 38 rfl ?_
 refine D.sz 8 [] 6 true 38 rfl ?_
 refine D.sz 9 [] 6 true 38 rfl ?_
 refine D.kf 10 [] rfl ?_
 refine D.pq 1 [(11,[])] T ?_
 refine D.sz 12 [] 11 true 43 rfl ?_
 refine D.sz 13 [] 11 true 43 rfl ?_
 refine D.sz 14 [] 11 true 43 rfl ?_
 refine D.sz 15 [] 11 true 43 rfl ?_
 refine D.sz 16 [] 11 true 43 rfl ?_
 refine D.sz 17 [] 11 true 43 rfl ?_
 refine D.sz 18 [] 11 true 43 rfl ?_
 refine D.sz 19 [] 11 true 43 rfl ?_
 refine D.sz 20 [] 11 true 43 rfl ?_
 refine D.sz 21 [] 11 true 43 rfl ?_
 refine D.sz 22 [] 11 true 43 rfl ?_
 refine D.sz 23 [] 11 true 43 rfl ?_
 refine D.sz 24 [] 11 true 43 rfl ?_
 refine D.sz 25 [] 11 true 43 rfl ?_
 refine D.sz 26 [] 11 true 43 rfl ?_
 refine D.sz 27 [] 11 true 43 rfl ?_
 refine D.kf 28 [] rfl ?_
 refine D.done (by kernel_rfl) ?_
 exact St.wa [some 0] (j31 _ g)
 refine C.exit (C.ex (C.ex (C.bex ?_)))
 exact St.wa [some 0] (j17 _ g)
 refine C.exit (C.ex (C.ex (C.bex ?_)))
 exact St.wk (j6 _ g) (Wk.mk' [] rfl rfl trivial trivial rfl)
theorem Gf (f:ApiFloor) (post:Bool→Prop) (g:QJ f post):
  Tr Try.prog 41 [.agg (Qm f)] [] 0 (pB post):=by
 refine Tr.go Try.func41 Try.ntmps41 fun _ _ _ _ o=>?_
 unfold QJ at g
 refine C.ss (U.bx ?_)
 refine U.pd 1 T (C.xt ?_)
 refine U.ps 2 T rfl (U.k (KW f.Kind 3 _ g) en19 (fun x5 g=>?_))
 refine U.pd 1 T (C.nx (C.ret ?_))
 exact C.f1 T o (pBi g)
theorem GQ (s_1:ApiSite) (post:Bool→Prop) (g:K1 s_1 post):
  Tr Try.prog 13 [.agg (Q1 s_1)] [] 0 (pB post):=by
 refine Tr.go Try.func13 Try.ntmps13 fun _ _ _ _ o=>?_
 unfold K1 at g
 refine C.ss (U.bx ?_)
 refine U.pd 1 T (C.xs (C.seq ?_))
 refine C.jn (fun (x3:Bool)=>[(1,.p 0 0),(30,.b x3)]) (fun x3=>[(0,.box (Q1 s_1))]) 1 g (fun x3 g=>?_) fun J4 g j4=>?_
 refine C.nx ?_
 refine C.ite rfl g (fun b10 g=>?_) fun b10 g=>?_
 refine C.ss (U.pd 1 T (C.nx (C.ret (C.rt ?_))))
 exact C.f1 T o (pBi g)
 refine C.skip (C.xs (C.ss (U.pd 1 T (C.nx ?_))))
 refine C.jn (fun (x15:Unit)=>[(1,.p 0 0)]) (fun x15=>[(0,.box (Q1 s_1))]) 1 g (fun x15 g=>?_) fun J16 g j16=>?_
 refine C.xs (C.ss (U.pd 1 T (C.nx ?_)))
 refine C.jn (fun (x40:Unit)=>[(1,.p 0 0)]) (fun x40=>[(0,.box (Q1 s_1))]) 1 g (fun x40 g=>?_) fun J41 g j41=>?_
 refine C.xs (C.ss (U.pd 1 T (C.nx ?_)))
 refine C.jn (fun (x73:Unit)=>[(1,.p 0 0)]) (fun x73=>[(0,.box (Q1 s_1))]) 1 g (fun x73 g=>?_) fun J74 g j74=>?_
 refine C.xs (C.ss (U.pd 1 T (C.nx ?_)))
 refine C.jn (fun (x104:Unit)=>[(1,.p 0 0)]) (fun x104=>[(0,.box (Q1 s_1))]) 1 g (fun x104 g=>?_) fun J105 g j105=>?_
 refine C.xs ?_
 refine C.jn (fun (x120:Bool)=>[(2,.b x120)]) (fun x120=>[]) 0 g (fun x120 g=>?_) fun J121 g j121=>?_
 refine C.nx (C.ret ?_)
 exact C.f1 T o (pBi g)
 refine U.start (U.ps 1 T rfl (U.k (Gm s_1 _ g) en40 (fun x122 g=>?_)))
 refine U.ps 2 T rfl ?_
 refine g.cs (fun b123 g=>?_) fun b123 g=>?_
 refine U.pq 2 3 true 181 b123 T ?_
 refine U.k (Gf s_1.Floor _ g) en41 (fun x124 g=>?_) (hw:=.take 3 true 181 _ b123 rfl rfl rfl)
 refine U.pk b123 ?_
 refine U.pd 1 T ?_
 exact St.wn (j121 _ g)
 refine U.sk' 3 3 true 181 b123 ?_
 refine U.pk' b123 ?_
 refine U.pd 1 T ?_
 exact St.wn (j121 _ g)
 refine C.block (St.wk (C.loop (fun (s106:Int)=>[(1,.p 0 0),(9,.i s106)]) (fun s106=>[(0,.box (Q1 s_1))]) g (fun s106 Y107 g=>?_)) (Wk.a [some 0]))
 refine C.seq (C.ss (U.pd 5 T (C.nx ?_)))
 refine C.ite rfl g (fun b110 g=>?_) fun b110 g=>?_
 refine C.skip (C.xs (C.block (C.seq (D.bq mix 9999 [0] [] (fun hQ hS ws M'=>?_)))))
 refine D.pq 4 (zl [0,1,2,3]) T ?_
 obtain⟨x113,y113,g⟩:=g
 refine D.ix 4 [] T y113 ?_
 refine D.pq 4 (zl [5,7,8,9]) T ?_
 refine D.ix 10 [] T y113 ?_
 refine D.pq 2 (zl [11,12]) T ?_
 refine D.k 6 (Gl s_1 x113 _ g) en39 fun x114 g=>?_
 refine D.pq 1 [(13,[])] T ?_
 refine D.done (by kernel_rfl) ?_
 refine C.nx ?_
 refine C.ite rfl g (fun b115 g=>?_) fun b115 g=>?_
 refine C.ss (U.pd 1 T (C.nx (C.ret (C.brt (C.rt (C.rt (C.brt (C.rt ?_))))))))
 exact C.f1 T o (pBi g)
 refine C.skip (C.bnx (C.nx (U.start (U.pd 3 T (C.nx ?_)))))
 exact St.wk (C.next g) (Wk.a [some 0])
 refine C.exit (C.ex (C.ex (C.bex ?_)))
 exact St.wa [some 0] (j105 _ g)
 refine C.block (St.wk (C.loop (fun (s75:Int)=>[(1,.p 0 0),(7,.i s75)]) (fun s75=>[(0,.box (Q1 s_1))]) g (fun s75 Y76 g=>?_)) (Wk.a [some 0]))
 refine C.seq (C.ss (U.pd 5 T (C.nx ?_)))
 refine C.ite rfl g (fun b79 g=>?_) fun b79 g=>?_
 refine C.skip (C.xs (C.block (C.ss (U.ps 3 T rfl ?_))))
 obtain⟨x82,y82,g⟩:=g
 refine U.ix T y82 ?_
 refine U.ps 1 T rfl (U.al T ?_)
 refine U.st T ?_
 refine U.done (C.xs (C.seq ?_))
 refine C.jn (fun (x83:Bool)=>[(1,.p 0 0),(7,.i s75),(8,.p 1 0),(139,.b x83)]) (fun x83=>[(0,.box (Q1 s_1)),(1,.box [.i x82.Cell,.i x82.Charge])]) 2 g (fun x83 g=>?_) fun J84 g j84=>?_
 refine C.nx ?_
 refine C.ite rfl g (fun b88 g=>?_) fun b88 g=>?_
 refine C.ss (U.pd 1 T (C.nx (C.ret (C.rt (C.brt (C.rt (C.rt (C.brt (C.rt ?_)))))))))
 exact C.f1 T o (pBi g)
 refine C.skip (C.xs ?_)
 refine C.jn (fun (x91:Bool)=>[(1,.p 0 0),(7,.i s75),(156,.b x91)]) (fun x91=>[(0,.box (Q1 s_1))]) 1 g (fun x91 g=>?_) fun J92 g j92=>?_
 refine C.nx ?_
 refine C.ite rfl g (fun b97 g=>?_) fun b97 g=>?_
 refine C.ss (U.pd 1 T (C.nx (C.ret (C.brt (C.rt (C.rt (C.brt (C.rt ?_))))))))
 exact C.f1 T o (pBi g)
 refine C.skip (C.bnx (C.nx (U.start (U.pd 3 T (C.nx ?_)))))
 exact St.wk (C.next g) (Wk.a [some 0])
 refine D.bq mix 9999 [0,1] [] (fun hQ hS ws M'=>?_)
 refine D.pq 5 (zl [0,1,2,3,4]) T ?_
 obtain⟨x93,y93,g⟩:=g
 refine D.ix 5 [] T y93 ?_
 refine D.pq 3 (zl [6,7,8]) T ?_
 refine g.cs (fun b94 g=>?_) fun b94 g=>?_
 refine D.sz 9 [] 8 false 148 b94 ?_
 refine D.sz 10 [] 8 false 148 b94 ?_
 refine D.sz 11 [] 8 false 148 b94 ?_
 refine D.sz 12 [] 8 false 148 b94 ?_
 refine D.sz 13 [] 8 false 148 b94 ?_
 refine D.sz 14 [] 8 false 148 b94 ?_
 refine D.sz 15 [] 8 false 148 b94 ?_
 refine D.kt 16 [] b94 ?_
 refine D.done (by kernel_rfl) ?_
 exact St.wa [some 0] (j92 _ g)
 refine D.pt 9 [] 8 false 148 b94 T ?_
 refine D.q 10 [] hQ hS rfl (.tk 8 false 148 b94) rfl rfl (by exact Rd.l T rfl rfl rfl) rfl (by kernel_rfl) ?_
 refine D.pt 11 [] 8 false 148 b94 T ?_
 obtain⟨y95,g⟩:=g
 refine D.q 12 [] hQ hS rfl (.tk 8 false 148 b94) rfl rfl (by exact Rd.so T rfl rfl rfl rfl rfl (.none _) (.some _ rfl) y95) rfl (by kernel_rfl) ?_
 refine D.pt 13 [] 8 false 148 b94 T ?_
 refine D.q 14 [] hQ hS rfl (.tk 8 false 148 b94) rfl rfl (by exact Rd.l T rfl rfl rfl) rfl (by kernel_rfl) ?_
 refine D.k 15 (G8 (sub s_1.Robots 0 s75) x82.Cell _ g) en38 (fun x96 g=>?_) (hw:=.take 8 false 148 _ b94 rfl rfl rfl)
 refine D.kf 16 [] b94 ?_
 refine D.done (by kernel_rfl) ?_
 exact St.wa [some 0] (j92 _ g)
 refine U.start (U.ps 4 T rfl (U.k (Kr s_1.Floor x82.Cell _ g) en35 (fun x85 g=>?_)))
 refine U.ps 2 T rfl ?_
 refine g.cs (fun b86 g=>?_) fun b86 g=>?_
 refine U.pq 3 6 false 130 (ntF b86) T ?_
 refine U.pk' (ntF b86) ?_
 refine U.ps 1 T rfl ?_
 refine g.cs (fun b87 g=>?_) fun b87 g=>?_
 refine U.sk' 3 11 false 135 b87 ?_
 refine U.pk b87 ?_
 refine U.done ?_
 exact St.wa (idR 2) (j84 _ g)
 refine U.pq 3 11 false 135 b87 T ?_
 refine U.pk' b87 ?_
 refine U.done ?_
 exact St.wa (idR 2) (j84 _ g)
 refine U.sk' 3 6 false 130 (ntT b86) ?_
 refine U.pk (ntT b86) ?_
 refine U.ps 1 T rfl (U.sk' 3 11 false 135 rfl ?_)
 refine U.pk rfl ?_
 refine U.done ?_
 exact St.wa (idR 2) (j84 _ g)
 refine C.exit (C.ex (C.ex (C.bex ?_)))
 exact St.wa [some 0] (j74 _ g)
 refine C.block (St.wk (C.loop (fun (s42:Int)=>[(1,.p 0 0),(5,.i s42)]) (fun s42=>[(0,.box (Q1 s_1))]) g (fun s42 Y43 g=>?_)) (Wk.a [some 0]))
 refine C.seq (C.ss (U.pd 5 T (C.nx ?_)))
 refine C.ite rfl g (fun b46 g=>?_) fun b46 g=>?_
 refine C.skip (C.xs (C.block (C.ss (U.ps 3 T rfl ?_))))
 obtain⟨x49,y49,g⟩:=g
 refine U.ix T y49 ?_
 refine U.ps 1 T rfl (U.al T ?_)
 refine U.st T ?_
 refine U.done (C.xs (C.seq ?_))
 refine C.jn (fun (x50:Bool)=>[(1,.p 0 0),(5,.i s42),(6,.p 1 0),(92,.b x50)]) (fun x50=>[(0,.box (Q1 s_1)),(1,.box [.i x49.Cell,.v (.string x49.Class)])]) 2 g (fun x50 g=>?_) fun J51 g j51=>?_
 refine C.nx ?_
 refine C.ite rfl g (fun b56 g=>?_) fun b56 g=>?_
 refine C.ss (U.pd 1 T (C.nx (C.ret (C.rt (C.brt (C.rt (C.rt (C.brt (C.rt ?_)))))))))
 exact C.f1 T o (pBi g)
 refine C.skip (C.xs ?_)
 refine C.jn (fun (x59:Bool)=>[(1,.p 0 0),(5,.i s42),(111,.b x59)]) (fun x59=>[(0,.box (Q1 s_1))]) 1 g (fun x59 g=>?_) fun J60 g j60=>?_
 refine C.nx ?_
 refine C.ite rfl g (fun b66 g=>?_) fun b66 g=>?_
 refine C.ss (U.pd 1 T (C.nx (C.ret (C.brt (C.rt (C.rt (C.brt (C.rt ?_))))))))
 exact C.f1 T o (pBi g)
 refine C.skip (C.bnx (C.nx (U.start (U.pd 3 T (C.nx ?_)))))
 exact St.wk (C.next g) (Wk.a [some 0])
 refine D.bq mix 9999 [0,1] [] (fun hQ hS ws M'=>?_)
 refine D.pq 5 (zl [0,1,2,3,4]) T ?_
 obtain⟨x61,y61,g⟩:=g
 refine D.ix 5 [] T y61 ?_
 refine D.pq 1 [(6,[])] T ?_
 refine D.k 7 (Xb x61 _ g) en36 fun x62 g=>?_
 refine D.pq 2 (zl [8,9]) T ?_
 refine g.cs (fun b63 g=>?_) fun b63 g=>?_
 refine D.pt 10 [] 9 false 102 (ntF b63) T ?_
 refine D.q 11 [] hQ hS rfl (.tk 9 false 102 (ntF b63)) rfl rfl (by exact Rd.l T rfl rfl rfl) rfl (by kernel_rfl) ?_
 refine D.pt 12 [] 9 false 102 (ntF b63) T ?_
 obtain⟨y64,g⟩:=g
 refine D.q 13 [] hQ hS rfl (.tk 9 false 102 (ntF b63)) rfl rfl (by exact Rd.so T rfl rfl rfl rfl rfl (.none _) (.some _ rfl) y64) rfl (by kernel_rfl) ?_
 refine D.pt 14 [] 9 false 102 (ntF b63) T ?_
 refine D.q 15 [] hQ hS rfl (.tk 9 false 102 (ntF b63)) rfl rfl (by exact Rd.l T rfl rfl rfl) rfl (by kernel_rfl) ?_
 refine D.k 16 (Kz (sub s_1.Shelves 0 s42) x49.Cell _ g) en37 (fun x65 g=>?_) (hw:=.take 9 false 102 _ (ntF b63) rfl rfl rfl)
 refine D.pt 17 [] 9 false 102 (ntF b63) T ?_
 refine D.kf 18 [] (ntF b63) ?_
 refine D.done (by kernel_rfl) ?_
 exact St.wa [some 0] (j60 _ g)
 refine D.sz 10 [] 9 false 102 (ntT b63) ?_
 refine D.sz 11 [] 9 false 102 (ntT b63) ?_
 refine D.sz 12 [] 9 false 102 (ntT b63) ?_
 refine D.sz 13 [] 9 false 102 (ntT b63) ?_
 refine D.sz 14 [] 9 false 102 (ntT b63) ?_
 refine D.sz 15 [] 9 false 102 (ntT b63) ?_
 refine D.sz 16 [] 9 false 102 (ntT b63) ?_
 refine D.sz 17 [] 9 false 102 (ntT b63) ?_
 refine D.kt 18 [] (ntT b63) ?_
 refine D.done (by kernel_rfl) ?_
 exact St.wa [some 0] (j60 _ g)
 refine U.start (U.ps 4 T rfl (U.k (Kr s_1.Floor x49.Cell _ g) en35 (fun x52 g=>?_)))
 refine U.ps 2 T rfl ?_
 refine g.cs (fun b53 g=>?_) fun b53 g=>?_
 refine U.pq 4 6 false 82 (ntF b53) T ?_
 refine g.cs (fun b54 g=>?_) fun b54 g=>?_
 refine U.sk' 4 10 true 86 (ntF b54) ?_
 refine U.r rfl (.tk 6 false 82 (ntF b53)) rfl rfl (by exact Rd.pk' rfl rfl (ntF b54) rfl) ?_
 refine U.pk' (ntF b53) ?_
 refine U.done ?_
 exact St.wa (idR 2) (j51 _ g)
 refine U.pq 2 10 true 86 (ntT b54) T ?_
 refine U.k (Ku x49.Class _ g) en33 (fun x55 g=>?_) (hw:=.take 10 true 86 _ (ntT b54) rfl rfl rfl)
 refine U.pq 1 10 true 86 (ntT b54) T ?_
 refine U.r rfl (.tk 6 false 82 (ntF b53)) rfl rfl (by exact Rd.pk rfl rfl (ntT b54) rfl) ?_
 refine U.pk' (ntF b53) ?_
 refine U.done ?_
 exact St.wa (idR 2) (j51 _ g)
 refine U.sk' 4 6 false 82 (ntT b53) ?_
 refine U.sku 4 10 true 86 rfl rfl rfl ?_
 refine U.sk' 1 6 false 82 (ntT b53) ?_
 refine U.pk (ntT b53) ?_
 refine U.done ?_
 exact St.wa (idR 2) (j51 _ g)
 refine C.exit (C.ex (C.ex (C.bex ?_)))
 exact St.wa [some 0] (j41 _ g)
 refine C.block (St.wk (C.loop (fun (s17:Int)=>[(1,.p 0 0),(3,.i s17)]) (fun s17=>[(0,.box (Q1 s_1))]) g (fun s17 Y18 g=>?_)) (Wk.a [some 0]))
 refine C.seq (C.ss (U.pd 5 T (C.nx ?_)))
 refine C.ite rfl g (fun b21 g=>?_) fun b21 g=>?_
 refine C.skip (C.xs (C.block (C.ss (U.ps 3 T rfl ?_))))
 obtain⟨x24,y24,g⟩:=g
 refine U.ix T y24 ?_
 refine U.ps 1 T rfl (U.al T ?_)
 refine U.st T ?_
 refine U.done (C.xs ?_)
 refine C.jn (fun (x25:Bool)=>[(1,.p 0 0),(3,.i s17),(63,.b x25)]) (fun x25=>[(0,.box (Q1 s_1))]) 1 g (fun x25 g=>?_) fun J26 g j26=>?_
 refine C.nx ?_
 refine C.ite rfl g (fun b33 g=>?_) fun b33 g=>?_
 refine C.ss (U.pd 1 T (C.nx (C.ret (C.brt (C.rt (C.rt (C.brt (C.rt ?_))))))))
 exact C.f1 T o (pBi g)
 refine C.skip (C.bnx (C.nx (U.start (U.pd 3 T (C.nx ?_)))))
 exact St.wk (C.next g) (Wk.a [some 0])
 refine D.bq mix 9999 [0,1] [] (fun hQ hS ws M'=>?_)
 refine D.pq 2 (zl [0,1]) T ?_
 refine D.k 2 (Ku x24.A _ g) en33 fun x27 g=>?_
 refine D.pq 2 (zl [3,4]) T ?_
 refine g.cs (fun b28 g=>?_) fun b28 g=>?_
 refine D.pt 5 [] 4 false 47 (ntF b28) T ?_
 refine D.q 6 [] hQ hS rfl (.tk 4 false 47 (ntF b28)) rfl rfl (by exact Rd.l T rfl rfl rfl) rfl (by kernel_rfl) ?_
 refine D.k 7 (Ku x24.B _ g) en33 (fun x29 g=>?_) (hw:=.take 4 false 47 _ (ntF b28) rfl rfl rfl)
 refine D.pt 8 [] 4 false 47 (ntF b28) T ?_
 refine D.kf 9 [] (ntF b28) ?_
 refine D.pq 1 [(10,[])] T ?_
 refine g.cs (fun b30 g=>?_) fun b30 g=>?_
 refine D.pt 11 [] 10 false 53 (ntF b30) T ?_
 refine D.q 12 [] hQ hS rfl (.tk 10 false 53 (ntF b30)) rfl rfl (by exact Rd.l T rfl rfl rfl) rfl (by kernel_rfl) ?_
 refine D.pt 13 [] 10 false 53 (ntF b30) T ?_
 obtain⟨y31,g⟩:=g
 refine D.q 14 [] hQ hS rfl (.tk 10 false 53 (ntF b30)) rfl rfl (by exact Rd.so T rfl rfl rfl rfl rfl (.none _) (.some _ rfl) y31) rfl (by kernel_rfl) ?_
 refine D.pt 15 [] 10 false 53 (ntF b30) T ?_
 refine D.q 16 [] hQ hS rfl (.tk 10 false 53 (ntF b30)) rfl rfl (by exact Rd.l T rfl rfl rfl) rfl (by kernel_rfl) ?_
 refine D.pt 17 [] 10 false 53 (ntF b30) T ?_
 refine D.q 18 [] hQ hS rfl (.tk 10 false 53 (ntF b30)) rfl rfl (by exact Rd.l T rfl rfl rfl) rfl (by kernel_rfl) ?_
 refine D.k 19 (Xl (sub s_1.Aparts 0 s17) x24.A x24.B _ g) en34 (fun x32 g=>?_) (hw:=.take 10 false 53 _ (ntF b30) rfl rfl rfl)
 refine D.kf 20 [] (ntF b30) ?_
 refine D.done (by kernel_rfl) ?_
 exact St.wa [some 0] (j26 _ g)
 refine D.sz 11 [] 10 false 53 (ntT b30) ?_
 refine D.sz 12 [] 10 false 53 (ntT b30) ?_
 refine D.sz 13 [] 10 false 53 (ntT b30) ?_
 refine D.sz 14 [] 10 false 53 (ntT b30) ?_
 refine D.sz 15 [] 10 false 53 (ntT b30) ?_
 refine D.sz 16 [] 10 false 53 (ntT b30) ?_
 refine D.sz 17 [] 10 false 53 (ntT b30) ?_
 refine D.sz 18 [] 10 false 53 (ntT b30) ?_
 refine D.sz 19 [] 10 false 53 (ntT b30) ?_
 refine D.kt 20 [] (ntT b30) ?_
 refine D.done (by kernel_rfl) ?_
 exact St.wa [some 0] (j26 _ g)
 refine D.sz 5 [] 4 false 47 (ntT b28) ?_
 refine D.sz 6 [] 4 false 47 (ntT b28) ?_
 refine D.sz 7 [] 4 false 47 (ntT b28) ?_
 refine D.sz 8 [] 4 false 47 (ntT b28) ?_
 refine D.kt 9 [] (ntT b28) ?_
 refine D.pq 1 [(10,[])] T ?_
 refine D.sz 11 [] 10 false 53 rfl ?_
 refine D.sz 12 [] 10 false 53 rfl ?_
 refine D.sz 13 [] 10 false 53 rfl ?_
 refine D.sz 14 [] 10 false 53 rfl ?_
 refine D.sz 15 [] 10 false 53 rfl ?_
 refine D.sz 16 [] 10 false 53 rfl ?_
 refine D.sz 17 [] 10 false 53 rfl ?_
 refine D.sz 18 [] 10 false 53 rfl ?_
 refine D.sz 19 [] 10 false 53 rfl ?_
 refine D.kt 20 [] rfl ?_
 refine D.done (by kernel_rfl) ?_
 exact St.wa [some 0] (j26 _ g)
 refine C.exit (C.ex (C.ex (C.bex ?_)))
 exact St.wa [some 0] (j16 _ g)
 refine U.start (U.ps 2 T rfl (U.k (Gw s_1.Floor _ g) en31 (fun x5 g=>?_)))
 refine U.ps 2 T rfl ?_
 refine g.cs (fun b6 g=>?_) fun b6 g=>?_
 refine U.pq 1 4 false 14 (ntF b6) T ?_
 refine U.k (Xx s_1 _ g) en32 (fun x7 g=>?_) (hw:=.take 4 false 14 _ (ntF b6) rfl rfl rfl)
 refine U.pq 1 4 false 14 (ntF b6) T ?_
 refine U.pk' (ntF b6) ?_
 refine U.ps 1 T rfl ?_
 refine g.cs (fun b8 g=>?_) fun b8 g=>?_
 refine U.pq 4 9 false 19 (ntF b8) T ?_
 refine U.pk' (ntF b8) ?_
 refine U.ps 1 T rfl ?_
 refine g.cs (fun b9 g=>?_) fun b9 g=>?_
 refine U.sk' 4 15 false 25 b9 ?_
 refine U.pk b9 ?_
 refine U.done ?_
 exact St.wa [some 0] (j4 _ g)
 refine U.pq 4 15 false 25 b9 T ?_
 refine U.pk' b9 ?_
 refine U.done ?_
 exact St.wa [some 0] (j4 _ g)
 refine U.sk' 4 9 false 19 (ntT b8) ?_
 refine U.pk (ntT b8) ?_
 refine U.ps 1 T rfl (U.sk' 4 15 false 25 rfl ?_)
 refine U.pk rfl ?_
 refine U.done ?_
 exact St.wa [some 0] (j4 _ g)
 refine U.sk' 3 4 false 14 (ntT b6) ?_
 refine U.pk (ntT b6) ?_
 refine U.ps 1 T rfl (U.sk' 4 9 false 19 rfl ?_)
 refine U.pk rfl ?_
 refine U.ps 1 T rfl (U.sk' 4 15 false 25 rfl ?_)
 refine U.pk rfl ?_
 refine U.done ?_
 exact St.wa [some 0] (j4 _ g)
theorem Wt (x_1:Int) (y_1:Int) (post:(Int×Int)→Prop) (g:KF x_1 y_1 post):
  Tr Try.prog 80 [.v (.int .u64 x_1),.v (.int .u64 y_1)] [] 0 (fun A H' k=>∃y,post y∧A=(.tup [.v (.int .u64 y.1),.v (.int .u64 y.2)])∧H'=[]∧k=0):=by
 refine Tr.go Try.func80 Try.ntmps80 fun _ _ _ _ o=>?_
 unfold KF at g
 refine C.ss (U.pd 2 T (C.xt ?_))
 refine U.pd 3 T (C.xt ?_)
 refine U.ps 1 T rfl (U.r rfl (.none rfl) rfl rfl (by exact Rd.sh rfl rfl rfl rfl (by decide)) ?_)
 refine U.pd 1 T (C.xt ?_)
 refine U.pd 3 T (C.xt ?_)
 refine U.ps 1 T rfl (U.r rfl (.none rfl) rfl rfl (by exact Rd.sh rfl rfl rfl rfl (by decide)) ?_)
 refine U.pd 1 T (C.xt ?_)
 refine U.pd 4 T (C.xt ?_)
 refine U.ps 4 T rfl (U.r rfl (.none rfl) rfl rfl (by exact Rd.sh rfl rfl rfl rfl (by decide)) ?_)
 refine U.pd 2 T (C.xt ?_)
 refine U.pd 3 T (C.xt ?_)
 refine U.ps 1 T rfl (U.r rfl (.none rfl) rfl rfl (by exact Rd.sh rfl rfl rfl rfl (by decide)) ?_)
 refine U.pd 1 T (C.xt ?_)
 refine U.pd 6 T (C.xt ?_)
 refine U.ps 6 T rfl (U.r rfl (.none rfl) rfl rfl (by exact Rd.sh rfl rfl rfl rfl (by decide)) ?_)
 refine U.pd 2 T (C.xt ?_)
 refine U.pd 4 T (C.nx (C.ret ?_))
 exact C.f9 T o ⟨(IntKind.wrap .u64 ((IntKind.wrap .u64 ((IntKind.wrap .u64 ((shrI .u64 x_1 32)*(shrI .u64 y_1 32)))+(shrI .u64 (IntKind.wrap .u64 ((IntKind.wrap .u64 ((shrI .u64 x_1 32)*(band .u64 y_1 4294967295)))+(shrI .u64 (IntKind.wrap .u64 ((band .u64 x_1 4294967295)*(band .u64 y_1 4294967295))) 32))) 32)))+(shrI .u64 (IntKind.wrap .u64 ((band .u64 (IntKind.wrap .u64 ((IntKind.wrap .u64 ((shrI .u64 x_1 32)*(band .u64 y_1 4294967295)))+(shrI .u64 (IntKind.wrap .u64 ((band .u64 x_1 4294967295)*(band .u64 y_1 4294967295))) 32))) 4294967295)+(IntKind.wrap .u64 ((band .u64 x_1 4294967295)*(shrI .u64 y_1 32))))) 32)),IntKind.wrap .u64 (x_1*y_1)),g,rfl,rfl,rfl⟩
theorem Y6 (x_1:Int) (y_1:Int) (post:(Int×Int)→Prop) (g:Ky x_1 y_1 post):
  Tr Try.prog 64 [.v (.int .u64 x_1),.v (.int .u64 y_1)] [] 0 (fun A H' k=>∃y,post y∧A=(.tup [.v (.int .u64 y.1),.v (.int .u64 y.2)])∧H'=[]∧k=0):=by
 refine Tr.go Try.func64 Try.ntmps64 fun _ _ _ _ o=>?_
 unfold Ky at g
 refine C.ss (U.pd 2 T (C.xs ?_))
 refine C.condF rfl rfl ?_
 refine C.skip (C.xt (U.ps 2 T rfl (U.k (Wt x_1 y_1 _ g) en80 (fun x5 g=>?_))))
 refine U.pd 5 T (C.xt ?_)
 refine U.pd 4 T (C.nx (C.ret ?_))
 exact C.f9 T o ⟨(x5.1,x5.2),g,rfl,rfl,rfl⟩
theorem XN (x_1:List Int) (count:Int) (post:(List Int)→Prop) (g:QD x_1 count post):
  Tr Try.prog 42 [.sl 1 eI x_1,.i count] [] 0 (fun A H' k=>∃y,post y∧A=(.o 0)∧H'=[(0,.val (.os 1 eI y))]∧k=1):=by
 refine Tr.go Try.func42 Try.ntmps42 fun _ _ _ _ o=>?_
 unfold QD at g
 refine C.ss (U.pd 1 T (C.xs (C.ss ?_)))
 refine U.pd 2 T (C.nx ?_)
 refine C.ite rfl g (fun b7 g=>?_) fun b7 g=>?_
 refine U.start ?_
 exact g.elim
 refine C.skip (C.xt (U.ps 5 T rfl (U.k (Y6 (IntKind.wrap .u64 (x_1.length:Int)) (IntKind.wrap .u64 count) _ g) en64 (fun x12 g=>?_))))
 refine U.pd 5 T (C.xs (C.seq ?_))
 refine C.jn (fun (x13:Bool)=>[(0,.sl 1 eI x_1),(6,.v (.int .u64 x12.2)),(26,.b x13)]) (fun x13=>[]) 0 g (fun x13 g=>?_) fun J14 g j14=>?_
 refine C.nx ?_
 refine C.ite rfl g (fun b18 g=>?_) fun b18 g=>?_
 refine U.start ?_
 exact g.elim
 refine C.skip (C.xt (U.ps 2 T rfl ?_))
 obtain⟨y23,g⟩:=g
 refine U.e1 rfl (.none rfl) (by exact Eff1.mk T (enc:=eI) (z0:=0) rfl rfl rfl rfl rfl rfl rfl rfl rfl rfl y23) ?_
 refine U.pd 1 T (C.xt ?_)
 refine U.ps 2 T rfl (U.e1 rfl (.none rfl) (by exact Eff1.cp T rfl rfl rfl rfl (.inr ⟨rfl,rfl,rfl⟩) rfl rfl (.inl rfl) rfl rfl rfl (fun _=>rfl) (Nat.le_of_eq (Nat.zero_add _)) rfl) ?_)
 refine U.pd 1 T (C.xs ?_)
 refine C.jn (fun (x26:List Int)=>[(7,.o 0)]) (fun x26=>[(0,.val (.os 1 eI x26))]) 1 g (fun x26 g=>?_) fun J27 g j27=>?_
 refine C.xt (U.pd 2 T (C.nx (C.ret ?_)))
 exact C.g1 [some 0] T o ⟨x26,g,rfl,rfl,rfl⟩
 refine C.block (St.wk (C.loop (fun (s28:List Int×Int)=>[(7,.o 0),(8,.i s28.2)]) (fun s28=>[(0,.val (.os 1 eI s28.1))]) g (fun s28 Y29 g=>?_)) (Wk.a [some 0]))
 refine C.seq (C.ss (U.pd 4 T (C.nx ?_)))
 refine C.ite rfl g (fun b32 g=>?_) fun b32 g=>?_
 refine C.skip (C.nx (C.block (D.bq mix 9999 [] [0] (fun hQ hS ws M'=>?_))))
 refine D.pq 3 (zl [0,1,2]) T ?_
 obtain⟨y35,g⟩:=g
 refine D.q 3 [] hQ hS rfl (.none rfl) rfl rfl (by exact Rd.vw T rfl rfl rfl rfl rfl rfl (.some _ rfl) (.none _) y35) rfl (by kernel_rfl) ?_
 refine D.pq 2 (zl [4,5]) T ?_
 obtain⟨y36,g⟩:=g
 refine D.q 6 [] hQ hS rfl (.none rfl) rfl rfl (by exact Rd.vw T rfl rfl rfl rfl rfl rfl (.none _) (.some _ rfl) y36) rfl (by kernel_rfl) ?_
 obtain⟨y37,g⟩:=g
 obtain⟨y38,g⟩:=g
 refine D.e1 7 rfl (.none rfl) (by exact Eff1.cp T rfl rfl rfl rfl (.inl rfl) rfl rfl (.inr (.inr ⟨_,_,_,_,rfl,rfl,y38,rfl⟩)) rfl rfl rfl (fun _=>rfl) y37 rfl) (by kernel_rfl) rfl rfl ?_
 refine D.pq 2 (zl [8,9]) T ?_
 refine D.done (by kernel_rfl) ?_
 refine C.bnx (C.nx ?_)
 exact St.wk (C.next g) (Wk.a [some 0])
 refine C.exit (C.ex (C.ex (C.bex ?_)))
 exact St.wa [some 0] (j27 _ g)
 refine U.start (U.ps 3 T rfl ?_)
 refine g.cs (fun b15 g=>?_) fun b15 g=>?_
 refine U.sk' 2 2 false 23 b15 ?_
 refine U.pk b15 ?_
 refine U.done ?_
 exact St.wn (j14 _ g)
 refine U.pq 2 2 false 23 b15 T ?_
 refine U.pk' b15 ?_
 refine U.done ?_
 exact St.wn (j14 _ g)
theorem G7 (x_1:Int) (post:Bool→Prop) (g:Kw x_1 post):
  Tr Try.prog 103 [.i x_1] [] 0 (pB post):=by
 refine Tr.go Try.func103 Try.ntmps103 fun _ _ _ _ o=>?_
 unfold Kw at g
 refine C.ss (U.pd 1 T (C.xt ?_))
 refine U.pd 4 T (C.nx (C.ret ?_))
 exact C.f1 T o (pBi g)
theorem Yp (x_1:Int) (y_1:Int) (post:Bool→Prop) (g:X3 x_1 y_1 post):
  Tr Try.prog 92 [.i x_1,.i y_1] [] 0 (pB post):=by
 refine Tr.go Try.func92 Try.ntmps92 fun _ _ _ _ o=>?_
 unfold X3 at g
 refine C.ss (U.pd 1 T (C.xs ?_))
 refine C.jn (fun (x3:Bool)=>[(4,.b x3)]) (fun x3=>[]) 0 g (fun x3 g=>?_) fun J4 g j4=>?_
 refine C.nx (C.ret ?_)
 exact C.f1 T o (pBi g)
 refine U.start (U.ps 1 T rfl (U.k (G7 x_1 _ g) Q2A (fun x5 g=>?_)))
 refine U.ps 1 T rfl ?_
 refine g.cs (fun b6 g=>?_) fun b6 g=>?_
 refine U.pq 1 2 true 7 b6 T ?_
 refine U.k (G7 y_1 _ g) Q2A (fun x7 g=>?_) (hw:=.take 2 true 7 _ b6 rfl rfl rfl)
 refine U.pq 1 2 true 7 b6 T ?_
 refine U.pk b6 ?_
 refine U.ps 1 T rfl ?_
 refine g.cs (fun b8 g=>?_) fun b8 g=>?_
 refine U.pq 3 7 false 12 (ntF b8) T ?_
 refine U.pk' (ntF b8) ?_
 refine U.pd 1 T ?_
 exact St.wn (j4 _ g)
 refine U.sk' 3 7 false 12 (ntT b8) ?_
 refine U.pk (ntT b8) ?_
 refine U.pd 1 T ?_
 exact St.wn (j4 _ g)
 refine U.sk' 3 2 true 7 b6 ?_
 refine U.pk' b6 ?_
 refine U.ps 1 T rfl (U.pq 3 7 false 12 rfl T ?_)
 refine U.pk' rfl ?_
 refine U.pd 1 T ?_
 exact St.wn (j4 _ g)
theorem Xs (x_1:Int) (post:Bool→Prop) (g:K9 x_1 post):
  Tr Try.prog 97 [.i x_1] [] 0 (pB post):=by
 refine Tr.go Try.func97 Try.ntmps97 fun _ _ _ _ o=>?_
 unfold K9 at g
 refine C.ss (U.pd 1 T (C.xt ?_))
 refine U.pd 4 T (C.nx (C.ret ?_))
 exact C.f1 T o (pBi g)
theorem Xa (x_1:List Int) (target:Int) (post:(Int×Bool)→Prop) (g:Qj x_1 target post):
  Tr Try.prog 85 [.sl 1 eI x_1,.i target] [] 0 (fun A H' k=>∃y,post y∧A=(.tup [.i y.1,.b y.2])∧H'=[]∧k=0):=by
 refine Tr.go Try.func85 Try.ntmps85 fun _ _ _ _ o=>?_
 unfold Qj at g
 refine C.ss (U.pd 2 T (C.xt ?_))
 refine U.pd 3 T (C.xt ?_)
 refine U.pd 3 T (C.xs ?_)
 refine C.jn (fun (x7:Int)=>[(0,.sl 1 eI x_1),(1,.i target),(6,.i (x_1.length:Int)),(7,.i x7)]) (fun x7=>[]) 0 g (fun x7 g=>?_) fun J8 g j8=>?_
 refine C.xs ?_
 refine C.jn (fun (x28:Bool)=>[(4,.i x7),(5,.b x28)]) (fun x28=>[]) 0 g (fun x28 g=>?_) fun J29 g j29=>?_
 refine C.nx (C.ret ?_)
 exact C.f9 T o ⟨(x7,x28),g,rfl,rfl,rfl⟩
 refine U.start (U.ps 5 T rfl ?_)
 refine g.cs (fun b30 g=>?_) fun b30 g=>?_
 refine U.pq 2 4 true 35 b30 T ?_
 obtain⟨x31,y31,g⟩:=g
 refine U.r rfl (.tk 4 true 35 b30) rfl rfl (by exact Rd.ix T rfl rfl rfl rfl rfl rfl y31) ?_
 refine U.pq 4 4 true 35 b30 T ?_
 refine g.cs (fun b32 g=>?_) fun b32 g=>?_
 refine U.sk' 6 11 false 42 b32 ?_
 refine U.sku 2 17 true 48 rfl rfl rfl ?_
 refine U.sk' 1 11 false 42 b32 ?_
 refine U.r rfl (.tk 4 true 35 b30) rfl rfl (by exact Rd.pk rfl rfl b32 rfl) ?_
 refine U.pk b30 ?_
 refine U.pd 2 T ?_
 exact St.wn (j29 _ g)
 refine U.pq 2 11 false 42 b32 T ?_
 refine U.r rfl (.tk 11 false 42 b32) rfl rfl (by exact Rd.ix T rfl rfl rfl rfl rfl rfl y31) ?_
 refine U.pq 1 11 false 42 b32 T ?_
 refine U.k (Xs x31 _ g) en97 (fun x33 g=>?_) (hw:=.take 11 false 42 _ b32 rfl rfl rfl)
 refine U.pq 1 11 false 42 b32 T ?_
 refine g.cs (fun b34 g=>?_) fun b34 g=>?_
 refine U.pq 1 17 true 48 b34 T ?_
 refine U.k (Xs target _ g) en97 (fun x35 g=>?_) (hw:=.take 17 true 48 _ b34 rfl rfl rfl)
 refine U.r rfl (.tk 11 false 42 b32) rfl rfl (by exact Rd.pk rfl rfl b34 rfl) ?_
 refine U.r rfl (.tk 4 true 35 b30) rfl rfl (by exact Rd.pk' rfl rfl b32 rfl) ?_
 refine U.pk b30 ?_
 refine U.pd 2 T ?_
 exact St.wn (j29 _ g)
 refine U.sk' 2 17 true 48 b34 ?_
 refine U.r rfl (.tk 11 false 42 b32) rfl rfl (by exact Rd.pk' rfl rfl b34 rfl) ?_
 refine U.r rfl (.tk 4 true 35 b30) rfl rfl (by exact Rd.pk' rfl rfl b32 rfl) ?_
 refine U.pk b30 ?_
 refine U.pd 2 T ?_
 exact St.wn (j29 _ g)
 refine U.sk' 7 4 true 35 b30 ?_
 refine U.sku 6 11 false 42 rfl rfl rfl ?_
 refine U.sku 2 17 true 48 rfl rfl rfl ?_
 refine U.sku 1 11 false 42 rfl rfl rfl ?_
 refine U.sk' 1 4 true 35 b30 ?_
 refine U.pk' b30 ?_
 refine U.pd 2 T ?_
 exact St.wn (j29 _ g)
 refine C.block (St.wk (C.loop (fun (s9:Int×Int)=>[(0,.sl 1 eI x_1),(1,.i target),(6,.i (x_1.length:Int)),(7,.i s9.1),(8,.i s9.2)]) (fun s9=>[]) g (fun s9 Y10 g=>?_)) (Wk.e))
 refine C.seq (C.ss (U.pd 3 T (C.nx ?_)))
 refine C.ite rfl g (fun b13 g=>?_) fun b13 g=>?_
 refine C.skip (C.nx (C.block (C.ss (U.ps 4 T rfl (U.r rfl (.none rfl) rfl rfl (by exact Rd.sh rfl rfl rfl rfl (by decide)) ?_)))))
 refine U.pd 2 T (C.xt ?_)
 refine U.ps 2 T rfl ?_
 obtain⟨x19,y19,g⟩:=g
 refine U.ix T y19 ?_
 refine U.ps 2 T rfl (U.k (Yp x19 target _ g) en92 (fun x20 g=>?_))
 refine U.done (C.nx ?_)
 refine C.jn (fun (x21:Int×Int)=>[(0,.sl 1 eI x_1),(1,.i target),(6,.i (x_1.length:Int)),(7,.i x21.1),(8,.i x21.2)]) (fun x21=>[]) 0 g (fun x21 g=>?_) fun J22 g j22=>?_
 refine C.bnx (C.nx ?_)
 exact St.wk (C.next g) (Wk.e)
 refine C.ite rfl g (fun b23 g=>?_) fun b23 g=>?_
 refine U.start (U.pd 3 T ?_)
 exact St.wn (j22 _ g)
 refine U.start (U.pd 2 T ?_)
 exact St.wn (j22 _ g)
 refine C.exit (C.ex (C.ex (C.bex ?_)))
 exact St.wn (j8 _ g)
theorem WN (z:ApiZone) (c0:Int) (post:Bool→Prop) (g:Kq z c0 post):
  Tr Try.prog 84 [.agg (QX z),.rp [.i c0]] [] 0 (pB post):=by
 refine Tr.go Try.func84 Try.ntmps84 fun _ _ _ _ o=>?_
 unfold Kq at g
 refine C.ss (U.bx ?_)
 refine U.pd 1 T (C.xt ?_)
 refine U.ps 3 T rfl (U.k (Xa z.Cells c0 _ g) en85 (fun x5 g=>?_))
 refine U.pd 5 T (C.xt ?_)
 refine U.pd 2 T (C.nx (C.ret ?_))
 exact C.f1 T o (pBi g)
theorem QY (s_1:List ApiZone) (f_c0:Int) (post:Int→Prop) (g:Q7 s_1 f_c0 post):
  Tr Try.prog 83 [.sl 5 QX s_1,.fn (.func 84) [] [.rp [.i f_c0]]] [] 0 (pI post):=by
 refine Tr.go Try.func83 Try.ntmps83 fun _ _ _ _ o=>?_
 unfold Q7 at g
 refine C.ss (U.pd 1 T (C.xs (C.ss ?_)))
 refine U.pd 3 T (C.nx ?_)
 refine C.jn (fun (x5:Unit)=>[]) (fun x5=>[]) 0 g (fun x5 g=>?_) fun J6 g j6=>?_
 refine C.xt (U.pd 1 T (C.nx (C.ret ?_)))
 exact C.f1 T o (pIi g)
 refine C.block (St.wk (C.loop (fun (s7:Int)=>[(0,.sl 5 QX s_1),(1,.fn (.func 84) [] [.rp [.i f_c0]]),(7,.i (s_1.length:Int)),(8,.i s7)]) (fun s7=>[]) g (fun s7 Y8 g=>?_)) (Wk.e))
 refine C.ss (U.pd 1 T (C.xs ?_))
 refine C.ite rfl g (fun b11 g=>?_) fun b11 g=>?_
 refine C.skip (C.xs (C.block (C.ss (U.pd 2 T (C.xt ?_)))))
 refine U.ps 3 T rfl ?_
 obtain⟨x16,y16,g⟩:=g
 refine U.ix T y16 ?_
 refine U.ps 1 T rfl (U.k (WN x16 f_c0 _ g) en84 (fun x17 g=>?_))
 refine U.done (C.nx ?_)
 refine C.ite rfl g (fun b18 g=>?_) fun b18 g=>?_
 refine C.ss (U.pd 2 T (C.nx (C.ret (C.brt (C.rt (C.rt (C.brt (C.rt ?_))))))))
 exact C.f1 T o (pIi g)
 refine C.skip (C.bnx (C.nx (U.start (U.pd 2 T (C.nx ?_)))))
 exact St.wk (C.next g) (Wk.e)
 refine C.exit (C.ex (C.ex (C.bex ?_)))
 exact St.wk (j6 _ g) (Wk.mk' [] rfl rfl trivial trivial rfl)
theorem Ym (s_1:ApiSite) (c:Int) (post:Int→Prop) (g:KK s_1 c post):
  Tr Try.prog 71 [.agg (Q1 s_1),.i c] [] 0 (pI post):=by
 refine Tr.go Try.func71 Try.ntmps71 fun _ _ _ _ o=>?_
 unfold KK at g
 refine C.ss (U.bx ?_)
 refine U.bx ?_
 refine U.pd 1 T (C.xt ?_)
 refine U.ps 3 T rfl (U.k (QY s_1.Zones c _ g) en83 (fun x5 g=>?_))
 refine U.pd 1 T (C.nx (C.ret ?_))
 exact C.f1 T o (pIi g)
theorem XJ (s_1:ApiSite) (c:Int) (post:Int→Prop) (g:Kk s_1 c post):
  Tr Try.prog 47 [.agg (Q1 s_1),.i c] [] 0 (pI post):=by
 refine Tr.go Try.func47 Try.ntmps47 fun _ _ _ _ o=>?_
 unfold Kk at g
 refine C.ss (U.bx ?_)
 refine U.pd 1 T (C.xs (C.ss ?_))
 refine U.ps 2 T rfl (U.k (Ym s_1 c _ g) en71 (fun x5 g=>?_))
 refine U.pd 1 T (C.xt ?_)
 refine U.pd 2 T (C.nx ?_)
 refine C.ite rfl g (fun b8 g=>?_) fun b8 g=>?_
 refine C.ss (U.ps 3 T rfl ?_)
 obtain⟨x11,y11,g⟩:=g
 refine U.ix T y11 ?_
 refine U.pd 3 T (C.nx (C.ret (C.rt ?_)))
 exact C.f1 T o (pIi g)
 refine C.skip (C.xt (U.pd 1 T (C.nx (C.ret ?_))))
 exact C.f1 T o (pIi g)
theorem Yv (act:Int) (laden:Bool) (post:Int→Prop) (g:KG act laden post):
  Tr Try.prog 72 [.i act,.b laden] [] 0 (pI post):=by
 refine Tr.go Try.func72 Try.ntmps72 fun _ _ _ _ o=>?_
 unfold KG at g
 refine C.ss (U.pd 1 T (C.xs (C.ss ?_)))
 refine U.pd 1 T (C.nx (C.block (C.seq (C.ss ?_))))
 refine U.pd 2 T (C.nx ?_)
 refine C.jn (fun (x7:Bool)=>[(0,.i act),(1,.b laden),(6,.i act),(7,.b x7)]) (fun x7=>[]) 0 g (fun x7 g=>?_) fun J8 g j8=>?_
 refine C.nx ?_
 refine C.ite rfl g (fun b12 g=>?_) fun b12 g=>?_
 refine C.ss (U.pd 1 T (C.nx (C.ret (C.brt (C.rt ?_)))))
 exact C.f1 T o (pIi g)
 refine C.ss (U.pd 2 T (C.nx ?_))
 refine C.ite rfl g (fun b17 g=>?_) fun b17 g=>?_
 refine C.ss (U.pd 1 T (C.nx (C.ret (C.brt (C.rt ?_)))))
 exact C.f1 T o (pIi g)
 refine C.skip (C.bnx (C.xt (U.pd 1 T (C.xs (C.ss ?_)))))
 refine U.pd 2 T (C.nx (C.block (C.seq (C.ss ?_))))
 refine U.pd 2 T (C.nx ?_)
 refine C.jn (fun (x26:Bool)=>[(1,.b laden),(5,.i 0),(13,.i (w64 (act-1))),(14,.b x26)]) (fun x26=>[]) 0 g (fun x26 g=>?_) fun J27 g j27=>?_
 refine C.nx ?_
 refine C.jn (fun (x41:Int)=>[(1,.b laden),(5,.i x41)]) (fun x41=>[]) 0 g (fun x41 g=>?_) fun J42 g j42=>?_
 refine C.bnx (C.xs (C.seq ?_))
 refine C.jn (fun (x60:Bool)=>[(5,.i x41),(27,.b x60)]) (fun x60=>[]) 0 g (fun x60 g=>?_) fun J61 g j61=>?_
 refine C.nx ?_
 refine C.jn (fun (x63:Int)=>[(5,.i x63)]) (fun x63=>[]) 0 g (fun x63 g=>?_) fun J64 g j64=>?_
 refine C.xt (U.pd 2 T (C.nx (C.ret ?_)))
 exact C.f1 T o (pIi g)
 refine C.ite rfl g (fun b65 g=>?_) fun b65 g=>?_
 refine U.start (U.pd 3 T ?_)
 exact St.wn (j64 _ g)
 refine C.skip ?_
 exact St.wn (j64 _ g)
 refine U.start (U.ps 3 T rfl ?_)
 refine g.cs (fun b62 g=>?_) fun b62 g=>?_
 refine U.pq 1 2 true 25 b62 T ?_
 refine U.pk b62 ?_
 refine U.done ?_
 exact St.wn (j61 _ g)
 refine U.sk' 1 2 true 25 b62 ?_
 refine U.pk' b62 ?_
 refine U.done ?_
 exact St.wn (j61 _ g)
 refine C.ite rfl g (fun b43 g=>?_) fun b43 g=>?_
 refine U.start (U.pd 1 T ?_)
 exact St.wn (j42 _ g)
 refine C.ss (U.pd 2 T (C.nx ?_))
 refine C.jn (fun (x48:Int)=>[(1,.b laden),(5,.i x48)]) (fun x48=>[]) 0 g (fun x48 g=>?_) fun J49 g j49=>?_
 exact St.wn (j42 _ g)
 refine C.ite rfl g (fun b50 g=>?_) fun b50 g=>?_
 refine U.start (U.pd 1 T ?_)
 exact St.wn (j49 _ g)
 refine C.ss (U.pd 2 T (C.nx ?_))
 refine C.jn (fun (x55:Int)=>[(1,.b laden),(5,.i x55)]) (fun x55=>[]) 0 g (fun x55 g=>?_) fun J56 g j56=>?_
 exact St.wn (j49 _ g)
 refine C.ite rfl g (fun b57 g=>?_) fun b57 g=>?_
 refine U.start (U.pd 1 T ?_)
 exact St.wn (j56 _ g)
 refine C.skip ?_
 exact St.wn (j56 _ g)
 refine C.ite rfl g (fun b28 g=>?_) fun b28 g=>?_
 refine C.skip ?_
 exact St.wn (j27 _ g)
 refine C.ss (U.pd 2 T (C.nx ?_))
 refine C.jn (fun (x31:Bool)=>[(1,.b laden),(5,.i 0),(13,.i (w64 (act-1))),(14,.b x31)]) (fun x31=>[]) 0 g (fun x31 g=>?_) fun J32 g j32=>?_
 exact St.wn (j27 _ g)
 refine C.ite rfl g (fun b33 g=>?_) fun b33 g=>?_
 refine C.skip ?_
 exact St.wn (j32 _ g)
 refine C.ss (U.pd 2 T (C.nx ?_))
 refine C.jn (fun (x36:Bool)=>[(1,.b laden),(5,.i 0),(13,.i (w64 (act-1))),(14,.b x36)]) (fun x36=>[]) 0 g (fun x36 g=>?_) fun J37 g j37=>?_
 exact St.wn (j32 _ g)
 refine C.ite rfl g (fun b38 g=>?_) fun b38 g=>?_
 refine C.skip ?_
 exact St.wn (j37 _ g)
 refine U.start (U.pd 2 T ?_)
 exact St.wn (j37 _ g)
 refine C.ite rfl g (fun b9 g=>?_) fun b9 g=>?_
 refine C.skip ?_
 exact St.wn (j8 _ g)
 refine U.start (U.pd 2 T ?_)
 exact St.wn (j8 _ g)
theorem Gr (tick:Int) (act:Int) (laden:Bool) (post:Int→Prop) (g:Ks tick act laden post):
  Tr Try.prog 50 [.i tick,.i act,.b laden] [] 0 (pI post):=by
 refine Tr.go Try.func50 Try.ntmps50 fun _ _ _ _ o=>?_
 unfold Ks at g
 refine C.ss (U.pd 1 T (C.xt ?_))
 refine U.ps 3 T rfl (U.r rfl (.none rfl) rfl rfl (by exact Rd.dv rfl rfl rfl rfl (by decide)) ?_)
 refine U.pd 1 T (C.xt ?_)
 refine U.ps 2 T rfl (U.k (Yv act laden _ g) en72 (fun x8 g=>?_))
 refine U.ps 4 T rfl (U.r rfl (.none rfl) rfl rfl (by exact Rd.dv rfl rfl rfl rfl (by decide)) ?_)
 refine U.pd 1 T (C.nx (C.ret ?_))
 exact C.f1 T o (pIi g)
theorem Gb (post:Int→Prop) (g:KD post):
  Tr Try.prog 48 [] [] 0 (pI post):=by
 refine Tr.go Try.func48 Try.ntmps48 fun _ _ _ _ o=>?_
 unfold KD at g
 refine C.ss (U.pd 1 T (C.xt ?_))
 refine U.k (Gr 20000 0 true _ g) en50 fun x5 g=>?_
 refine U.pd 1 T (C.nx (C.ret ?_))
 exact C.f1 T o (pIi g)
theorem ZL (s_1:ApiSite) (c:Int) (post:Int→Prop) (g:Xi s_1 c post):
  Tr Try.prog 43 [.agg (Q1 s_1),.i c] [] 0 (pI post):=by
 refine Tr.go Try.func43 Try.ntmps43 fun _ _ _ _ o=>?_
 unfold Xi at g
 refine C.ss (U.bx ?_)
 refine U.pd 1 T (C.xs (C.ss ?_))
 refine U.ps 4 T rfl ?_
 obtain⟨x5,y5,g⟩:=g
 refine U.ix T y5 ?_
 refine U.pd 2 T (C.nx ?_)
 refine C.ite rfl g (fun b6 g=>?_) fun b6 g=>?_
 refine C.ss (U.pd 1 T (C.nx (C.ret (C.rt ?_))))
 exact C.f1 T o (pIi g)
 refine C.skip (C.xt (U.ps 2 T rfl (U.k (XJ s_1 c _ g) en47 (fun x11 g=>?_))))
 refine U.ps 1 T rfl (U.k (Gb _ g) en48 (fun x12 g=>?_))
 refine U.pd 2 T (C.nx (C.ret ?_))
 exact C.f1 T o (pIi g)
theorem Zo (f:ApiFloor) (post:Int→Prop) (g:X9 f post):
  Tr Try.prog 82 [.agg (Qm f)] [] 0 (pI post):=by
 refine Tr.go Try.func82 Try.ntmps82 fun _ _ _ _ o=>?_
 unfold X9 at g
 refine C.ss (U.bx ?_)
 refine U.pd 1 T (C.xt ?_)
 refine U.pd 9 T (C.nx (C.ret ?_))
 exact C.f1 T o (pIi g)
theorem YH (f:ApiFloor) (c:Int) (post:Bool→Prop) (g:Xh f c post):
  Tr Try.prog 67 [.agg (Qm f),.i c] [] 0 (pB post):=by
 refine Tr.go Try.func67 Try.ntmps67 fun _ _ _ _ o=>?_
 unfold Xh at g
 refine C.ss (U.bx ?_)
 refine U.pd 1 T (C.xs ?_)
 refine C.jn (fun (x3:Bool)=>[(4,.b x3)]) (fun x3=>[]) 0 g (fun x3 g=>?_) fun J4 g j4=>?_
 refine C.nx (C.ret ?_)
 exact C.f1 T o (pBi g)
 refine U.start (U.ps 3 T rfl ?_)
 refine g.cs (fun b5 g=>?_) fun b5 g=>?_
 refine U.pq 2 2 true 7 b5 T ?_
 refine U.k (Zo f _ g) en82 (fun x6 g=>?_) (hw:=.take 2 true 7 _ b5 rfl rfl rfl)
 refine U.pq 1 2 true 7 b5 T ?_
 refine U.pk b5 ?_
 refine U.pd 1 T ?_
 exact St.wn (j4 _ g)
 refine U.sk' 4 2 true 7 b5 ?_
 refine U.pk' b5 ?_
 refine U.pd 1 T ?_
 exact St.wn (j4 _ g)
theorem Q0v (f:ApiFloor) (c:Int) (post:(Int×Int×Int)→Prop) (g:XD f c post):
  Tr Try.prog 68 [.agg (Qm f),.i c] [] 0 (fun A H' k=>∃y,post y∧A=(.tup [.i y.1,.i y.2.1,.i y.2.2])∧H'=[]∧k=0):=by
 refine Tr.go Try.func68 Try.ntmps68 fun _ _ _ _ o=>?_
 unfold XD at g
 refine C.ss (U.bx ?_)
 refine U.pd 3 T (C.xs (C.ss ?_))
 refine U.ps 2 T rfl (U.k (YH f c _ g) en67 (fun x5 g=>?_))
 refine U.pd 1 T (C.nx ?_)
 refine C.ite rfl g (fun b6 g=>?_) fun b6 g=>?_
 refine C.ss (U.pd 3 T (C.nx (C.ret (C.rt ?_))))
 exact C.f9 T o ⟨(0,0,0),g,rfl,rfl,rfl⟩
 refine C.skip (C.xs (D.bq mix 9999 [0] [] (fun hQ hS ws M'=>?_)))
 refine D.pq 3 (zl [0,1,2]) T ?_
 obtain⟨y11,g⟩:=g
 refine D.q 3 [] hQ hS rfl (.none rfl) rfl rfl (by exact Rd.rm rfl rfl rfl rfl y11) rfl (by kernel_rfl) ?_
 refine D.pq 3 (zl [4,5,6]) T ?_
 obtain⟨y12,g⟩:=g
 refine D.q 7 [] hQ hS rfl (.none rfl) rfl rfl (by exact Rd.dv rfl rfl rfl rfl y12) rfl (by kernel_rfl) ?_
 refine D.pq 2 (zl [8,9]) T ?_
 obtain⟨y13,g⟩:=g
 refine D.q 10 [] hQ hS rfl (.none rfl) rfl rfl (by exact Rd.rm rfl rfl rfl rfl y13) rfl (by kernel_rfl) ?_
 refine D.pq 6 (zl [11,12,13,14,15,16]) T ?_
 obtain⟨y14,g⟩:=g
 refine D.q 17 [] hQ hS rfl (.none rfl) rfl rfl (by exact Rd.dv rfl rfl rfl rfl y14) rfl (by kernel_rfl) ?_
 refine D.pq 3 (zl [18,19,20]) T ?_
 refine D.done (by kernel_rfl) ?_
 refine C.nx (C.ret ?_)
 exact C.f9 T o ⟨(c.tmod f.W,(w64 (c.tdiv f.W)).tmod f.H,w64 (c.tdiv (w64 (f.W*f.H)))),g,rfl,rfl,rfl⟩
theorem Z3 (post:Xd→Prop) (g:Xc post):
  Tr Try.prog 69 [] [] 0 (fun A H' k=>∃y,post y∧A=(.agg [.i y.e0.x,.i y.e0.y,.i y.e0.z,.i y.e1.x,.i y.e1.y,.i y.e1.z,.i y.e2.x,.i y.e2.y,.i y.e2.z,.i y.e3.x,.i y.e3.y,.i y.e3.z,.i y.e4.x,.i y.e4.y,.i y.e4.z,.i y.e5.x,.i y.e5.y,.i y.e5.z])∧H'=[]∧k=0):=by
 refine Tr.go Try.func69 Try.ntmps69 fun _ _ _ _ o=>?_
 unfold Xc at g
 refine C.ss (U.al T ?_)
 refine U.done (C.xt (U.ps 7 T rfl (U.st T ?_)))
 refine U.done (C.nx (C.ret ?_))
 exact C.f1 T o ⟨({e0:=({x:=1,y:=0,z:=0:Qw}),e1:=({x:=0,y:=1,z:=0:Qw}),e2:=({x:=(-1),y:=0,z:=0:Qw}),e3:=({x:=0,y:=(-1),z:=0:Qw}),e4:=({x:=0,y:=0,z:=1:Qw}),e5:=({x:=0,y:=0,z:=(-1):Qw}):Xd}),g,rfl,rfl,rfl⟩
theorem Zr (f:ApiFloor) (x_1:Int) (y_1:Int) (z:Int) (post:Int→Prop) (g:X7 f x_1 y_1 z post):
  Tr Try.prog 70 [.agg (Qm f),.i x_1,.i y_1,.i z] [] 0 (pI post):=by
 refine Tr.go Try.func70 Try.ntmps70 fun _ _ _ _ o=>?_
 unfold X7 at g
 refine C.ss (U.bx ?_)
 refine U.pd 1 T (C.xs (C.seq ?_))
 refine C.jn (fun (x3:Bool)=>[(1,.i x_1),(2,.i y_1),(3,.i z),(4,.p 0 0),(31,.b x3)]) (fun x3=>[(0,.box (Qm f))]) 1 g (fun x3 g=>?_) fun J4 g j4=>?_
 refine C.nx ?_
 refine C.ite rfl g (fun b8 g=>?_) fun b8 g=>?_
 refine C.ss (U.pd 1 T (C.nx (C.ret (C.rt ?_))))
 exact C.f1 T o (pIi g)
 refine C.skip (C.xt (U.pd 12 T (C.nx (C.ret ?_))))
 exact C.f1 T o (pIi g)
 refine U.start (U.ps 6 T rfl ?_)
 refine g.cs (fun b5 g=>?_) fun b5 g=>?_
 refine U.sk' 4 5 false 14 b5 ?_
 refine U.pk b5 ?_
 refine U.ps 1 T rfl (U.sk' 4 11 false 20 rfl ?_)
 refine U.pk rfl ?_
 refine U.ps 1 T rfl (U.sk' 4 17 false 26 rfl ?_)
 refine U.pk rfl ?_
 refine U.done ?_
 exact St.wa [some 0] (j4 _ g)
 refine U.pq 4 5 false 14 b5 T ?_
 refine U.pk' b5 ?_
 refine U.ps 1 T rfl ?_
 refine g.cs (fun b6 g=>?_) fun b6 g=>?_
 refine U.sk' 4 11 false 20 b6 ?_
 refine U.pk b6 ?_
 refine U.ps 1 T rfl (U.sk' 4 17 false 26 rfl ?_)
 refine U.pk rfl ?_
 refine U.done ?_
 exact St.wa [some 0] (j4 _ g)
 refine U.pq 4 11 false 20 b6 T ?_
 refine U.pk' b6 ?_
 refine U.ps 1 T rfl ?_
 refine g.cs (fun b7 g=>?_) fun b7 g=>?_
 refine U.sk' 4 17 false 26 b7 ?_
 refine U.pk b7 ?_
 refine U.done ?_
 exact St.wa [some 0] (j4 _ g)
 refine U.pq 4 17 false 26 b7 T ?_
 refine U.pk' b7 ?_
 refine U.done ?_
 exact St.wa [some 0] (j4 _ g)
theorem Yo (f:ApiFloor) (c:Int) (d:Int) (post:Int→Prop) (g:KL f c d post):
  Tr Try.prog 46 [.agg (Qm f),.i c,.i d] [] 0 (pI post):=by
 refine Tr.go Try.func46 Try.ntmps46 fun _ _ _ _ o=>?_
 unfold KL at g
 refine C.ss (U.bx ?_)
 refine U.pd 1 T (C.xs (C.seq ?_))
 refine C.jn (fun (x3:Bool)=>[(1,.i c),(2,.i d),(3,.p 0 0),(22,.b x3)]) (fun x3=>[(0,.box (Qm f))]) 1 g (fun x3 g=>?_) fun J4 g j4=>?_
 refine C.nx ?_
 refine C.ite rfl g (fun b8 g=>?_) fun b8 g=>?_
 refine C.ss (U.pd 1 T (C.nx (C.ret (C.rt ?_))))
 exact C.f1 T o (pIi g)
 refine C.skip (C.xt (U.ps 2 T rfl (U.k (Q0v f c _ g) en68 (fun x13 g=>?_))))
 refine U.pd 7 T (C.xt ?_)
 refine U.k (Z3 _ g) en69 fun x16 g=>?_
 refine U.ps 1 T rfl ?_
 obtain⟨x17,y17,g⟩:=g
 refine U.r rfl (.none rfl) rfl rfl (by exact Rd.ia T (enc:=Q0A) rfl rfl rfl rfl rfl rfl rfl rfl rfl (fun _ _=>rfl) y17) ?_
 refine U.al T ?_
 refine U.st T ?_
 refine U.done (C.xt (U.ps 13 T rfl (U.k (Zr f (w64 (x13.1+x17.x)) (w64 (x13.2.1+x17.y)) (w64 (x13.2.2+x17.z)) _ g) en70 (fun x20 g=>?_))))
 refine U.pd 1 T (C.nx (C.ret ?_))
 exact C.f1 T o (pIi g)
 refine U.start (U.ps 2 T rfl (U.k (YH f c _ g) en67 (fun x5 g=>?_)))
 refine U.ps 2 T rfl ?_
 refine g.cs (fun b6 g=>?_) fun b6 g=>?_
 refine U.pq 2 4 false 15 (ntF b6) T ?_
 refine U.pk' (ntF b6) ?_
 refine U.ps 1 T rfl ?_
 refine g.cs (fun b7 g=>?_) fun b7 g=>?_
 refine U.sk' 2 8 false 19 b7 ?_
 refine U.pk b7 ?_
 refine U.done ?_
 exact St.wa [some 0] (j4 _ g)
 refine U.pq 2 8 false 19 b7 T ?_
 refine U.pk' b7 ?_
 refine U.done ?_
 exact St.wa [some 0] (j4 _ g)
 refine U.sk' 2 4 false 15 (ntT b6) ?_
 refine U.pk (ntT b6) ?_
 refine U.ps 1 T rfl (U.sk' 2 8 false 19 rfl ?_)
 refine U.pk rfl ?_
 refine U.done ?_
 exact St.wa [some 0] (j4 _ g)
theorem Ge (f:ApiFloor) (c:Int) (d:Int) (post:(Int×Bool)→Prop) (g:KA f c d post):
  Tr Try.prog 17 [.agg (Qm f),.i c,.i d] [] 0 (fun A H' k=>∃y,post y∧A=(.tup [.i y.1,.b y.2])∧H'=[]∧k=0):=by
 refine Tr.go Try.func17 Try.ntmps17 fun _ _ _ _ o=>?_
 unfold KA at g
 refine C.ss (U.bx ?_)
 refine U.pd 2 T (C.xt ?_)
 refine U.ps 3 T rfl (U.k (Yo f c d _ g) en46 (fun x5 g=>?_))
 refine U.pd 1 T (C.xs (C.seq ?_))
 refine C.jn (fun (x6:Bool)=>[(1,.i c),(2,.i d),(3,.p 0 0),(8,.i x5),(41,.b x6)]) (fun x6=>[(0,.box (Qm f))]) 1 g (fun x6 g=>?_) fun J7 g j7=>?_
 refine C.nx ?_
 refine C.ite rfl g (fun b15 g=>?_) fun b15 g=>?_
 refine C.ss (U.pd 2 T (C.nx (C.ret (C.rt ?_))))
 exact C.f9 T o ⟨(0,false),g,rfl,rfl,rfl⟩
 refine C.skip (C.xs (C.seq ?_))
 refine C.jn (fun (x18:Bool)=>[(8,.i x5),(63,.b x18)]) (fun x18=>[]) 0 g (fun x18 g=>?_) fun J19 g j19=>?_
 refine C.nx ?_
 refine C.ite rfl g (fun b28 g=>?_) fun b28 g=>?_
 refine C.ss (U.pd 2 T (C.nx (C.ret (C.rt ?_))))
 exact C.f9 T o ⟨(0,false),g,rfl,rfl,rfl⟩
 refine C.skip (C.xt (U.pd 3 T (C.nx (C.ret ?_))))
 exact C.f9 T o ⟨(x5,true),g,rfl,rfl,rfl⟩
 refine U.start (U.ps 3 T rfl ?_)
 refine g.cs (fun b20 g=>?_) fun b20 g=>?_
 refine U.sk' 2 2 false 44 b20 ?_
 refine U.pk b20 ?_
 refine U.ps 1 T rfl (U.pq 3 6 true 48 rfl T ?_)
 obtain⟨x21,y21,g⟩:=g
 refine U.r rfl (.tk 6 true 48 rfl) rfl rfl (by exact Rd.ix T rfl rfl rfl rfl rfl rfl y21) ?_
 refine U.pq 3 6 true 48 rfl T ?_
 refine g.cs (fun b22 g=>?_) fun b22 g=>?_
 refine U.sk' 6 13 false 55 b22 ?_
 refine U.r rfl (.tk 6 true 48 rfl) rfl rfl (by exact Rd.pk rfl rfl b22 rfl) ?_
 refine U.pk rfl ?_
 refine U.done ?_
 exact St.wn (j19 _ g)
 refine U.pq 3 13 false 55 b22 T ?_
 obtain⟨x23,y23,g⟩:=g
 refine U.r rfl (.tk 13 false 55 b22) rfl rfl (by exact Rd.ix T rfl rfl rfl rfl rfl rfl y23) ?_
 refine U.pq 2 13 false 55 b22 T ?_
 refine U.r rfl (.tk 6 true 48 rfl) rfl rfl (by exact Rd.pk' rfl rfl b22 rfl) ?_
 refine U.pk rfl ?_
 refine U.done ?_
 exact St.wn (j19 _ g)
 refine U.pq 2 2 false 44 b20 T ?_
 refine U.pk' b20 ?_
 refine U.ps 1 T rfl ?_
 refine g.cs (fun b24 g=>?_) fun b24 g=>?_
 refine U.pq 3 6 true 48 b24 T ?_
 obtain⟨x25,y25,g⟩:=g
 refine U.r rfl (.tk 6 true 48 b24) rfl rfl (by exact Rd.ix T rfl rfl rfl rfl rfl rfl y25) ?_
 refine U.pq 3 6 true 48 b24 T ?_
 refine g.cs (fun b26 g=>?_) fun b26 g=>?_
 refine U.sk' 6 13 false 55 b26 ?_
 refine U.r rfl (.tk 6 true 48 b24) rfl rfl (by exact Rd.pk rfl rfl b26 rfl) ?_
 refine U.pk b24 ?_
 refine U.done ?_
 exact St.wn (j19 _ g)
 refine U.pq 3 13 false 55 b26 T ?_
 obtain⟨x27,y27,g⟩:=g
 refine U.r rfl (.tk 13 false 55 b26) rfl rfl (by exact Rd.ix T rfl rfl rfl rfl rfl rfl y27) ?_
 refine U.pq 2 13 false 55 b26 T ?_
 refine U.r rfl (.tk 6 true 48 b24) rfl rfl (by exact Rd.pk' rfl rfl b26 rfl) ?_
 refine U.pk b24 ?_
 refine U.done ?_
 exact St.wn (j19 _ g)
 refine U.sk' 7 6 true 48 b24 ?_
 refine U.sku 6 13 false 55 rfl rfl rfl ?_
 refine U.sk' 1 6 true 48 b24 ?_
 refine U.pk' b24 ?_
 refine U.done ?_
 exact St.wn (j19 _ g)
 refine U.start (U.ps 3 T rfl ?_)
 refine g.cs (fun b8 g=>?_) fun b8 g=>?_
 refine U.sk' 6 2 false 15 b8 ?_
 refine U.pk b8 ?_
 refine U.ps 1 T rfl (U.sk' 6 10 false 23 rfl ?_)
 refine U.pk rfl ?_
 refine U.ps 1 T rfl (U.sk' 9 18 false 31 rfl ?_)
 refine U.pk rfl ?_
 refine U.done ?_
 exact St.wa [some 0] (j7 _ g)
 refine U.pq 3 2 false 15 b8 T ?_
 obtain⟨x9,y9,g⟩:=g
 refine U.r rfl (.tk 2 false 15 b8) rfl rfl (by exact Rd.ix T rfl rfl rfl rfl rfl rfl y9) ?_
 refine U.pq 2 2 false 15 b8 T ?_
 refine U.pk' b8 ?_
 refine U.ps 1 T rfl ?_
 refine g.cs (fun b10 g=>?_) fun b10 g=>?_
 refine U.sk' 6 10 false 23 b10 ?_
 refine U.pk b10 ?_
 refine U.ps 1 T rfl (U.sk' 9 18 false 31 rfl ?_)
 refine U.pk rfl ?_
 refine U.done ?_
 exact St.wa [some 0] (j7 _ g)
 refine U.pq 3 10 false 23 b10 T ?_
 obtain⟨x11,y11,g⟩:=g
 refine U.r rfl (.tk 10 false 23 b10) rfl rfl (by exact Rd.ix T rfl rfl rfl rfl rfl rfl y11) ?_
 refine U.pq 2 10 false 23 b10 T ?_
 refine U.pk' b10 ?_
 refine U.ps 1 T rfl ?_
 refine g.cs (fun b12 g=>?_) fun b12 g=>?_
 refine U.sk' 9 18 false 31 b12 ?_
 refine U.pk b12 ?_
 refine U.done ?_
 exact St.wa [some 0] (j7 _ g)
 refine U.pq 3 18 false 31 b12 T ?_
 obtain⟨x13,y13,g⟩:=g
 refine U.r rfl (.tk 18 false 31 b12) rfl rfl (by exact Rd.ix T rfl rfl rfl rfl rfl rfl y13) ?_
 refine U.pq 2 18 false 31 b12 T ?_
 obtain⟨y14,g⟩:=g
 refine U.r rfl (.tk 18 false 31 b12) rfl rfl (by exact Rd.sh rfl rfl rfl rfl y14) ?_
 refine U.pq 2 18 false 31 b12 T ?_
 refine U.pk' b12 ?_
 refine U.done ?_
 exact St.wa [some 0] (j7 _ g)
theorem Yy (s_1:ApiSite) (c:Int) (post:Bool→Prop) (g:X2 s_1 c post):
  Tr Try.prog 49 [.agg (Q1 s_1),.i c] [] 0 (pB post):=by
 refine Tr.go Try.func49 Try.ntmps49 fun _ _ _ _ o=>?_
 unfold X2 at g
 refine C.ss (U.bx ?_)
 refine U.pd 1 T (C.xs ?_)
 refine C.jn (fun (x3:Bool)=>[(4,.b x3)]) (fun x3=>[]) 0 g (fun x3 g=>?_) fun J4 g j4=>?_
 refine C.nx (C.ret ?_)
 exact C.f1 T o (pBi g)
 refine U.start (U.ps 3 T rfl ?_)
 refine g.cs (fun b5 g=>?_) fun b5 g=>?_
 refine U.pq 6 2 true 7 b5 T ?_
 refine U.pk b5 ?_
 refine U.pd 1 T ?_
 exact St.wn (j4 _ g)
 refine U.sk' 6 2 true 7 b5 ?_
 refine U.pk' b5 ?_
 refine U.pd 1 T ?_
 exact St.wn (j4 _ g)
theorem XG (s_1:ApiSite) (c:Int) (post:Bool→Prop) (g:QZ s_1 c post):
  Tr Try.prog 51 [.agg (Q1 s_1),.i c] [] 0 (pB post):=by
 refine Tr.go Try.func51 Try.ntmps51 fun _ _ _ _ o=>?_
 unfold QZ at g
 refine C.ss (U.bx ?_)
 refine U.pd 1 T (C.xt ?_)
 refine U.ps 4 T rfl ?_
 obtain⟨x5,y5,g⟩:=g
 refine U.ix T y5 ?_
 refine U.pd 3 T (C.nx (C.ret ?_))
 exact C.f1 T o (pBi g)
end Go.Proofs.Ytlaehjhkcanffaa
