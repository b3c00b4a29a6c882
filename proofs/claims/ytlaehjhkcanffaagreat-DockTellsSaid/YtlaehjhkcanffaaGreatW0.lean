/- The walks: each Go function does what its verification condition says (written by a program of the prover). -/
import Derived.Test.YtlaehjhkcanffaaGreatEnc
import Derived.KernelRfl
set_option maxRecDepth 100000
set_option maxHeartbeats 8000000
set_option linter.unusedVariables false
set_option linter.unusedSimpArgs false
namespace Go.Proofs.YtlaehjhkcanffaaGreat
open Go Go.Taq
def QI:(Int×Q5×List (Int×Bool)×Int)→((Bool×Q5×List (Int×Bool)×Int)→Prop)→Prop | (robot,v1,c1,c2),post=>Tr Tryz.prog 103 [.i robot,.p 0 0,.p 3 0,.p 5 0,.p 6 0] [(0,.box [.p 1 0]),(1,.box [.sl 1 eLeI v1.lists,.o 2]),(2,.val (.om kI veI v1.owner)),(3,.box [.o 4]),(4,.val (.om kI veB c1)),(5,.box [.i c2]),(6,.box [.fn (.func 103) [] [.p 0 0,.p 3 0,.p 5 0,.p 6 0]])] 7 (fun A H' k=>∃y,post y∧A=(.b y.1)∧H'=[(0,.box [.p 1 0]),(1,.box [.sl 1 eLeI y.2.1.lists,.o 7]),(3,.box [.o 8]),(5,.box [.i y.2.2.2]),(6,.box [.fn (.func 103) [] [.p 0 0,.p 3 0,.p 5 0,.p 6 0]]),(7,.val (.om kI veI y.2.1.owner)),(8,.val (.om kI veB y.2.2.1))]∧k=9)
theorem Ku (robot:Int) (v1:Q5) (c1:List (Int×Bool)) (c2:Int) (post:(Bool×Q5×List (Int×Bool)×Int)→Prop) (h:QI (robot,v1,c1,c2) post):Tr Tryz.prog 103 [.i robot,.p 0 0,.p 3 0,.p 5 0,.p 6 0] [(0,.box [.p 1 0]),(1,.box [.sl 1 eLeI v1.lists,.o 2]),(2,.val (.om kI veI v1.owner)),(3,.box [.o 4]),(4,.val (.om kI veB c1)),(5,.box [.i c2]),(6,.box [.fn (.func 103) [] [.p 0 0,.p 3 0,.p 5 0,.p 6 0]])] 7 (fun A H' k=>∃y,post y∧A=(.b y.1)∧H'=[(0,.box [.p 1 0]),(1,.box [.sl 1 eLeI y.2.1.lists,.o 7]),(3,.box [.o 8]),(5,.box [.i y.2.2.2]),(6,.box [.fn (.func 103) [] [.p 0 0,.p 3 0,.p 5 0,.p 6 0]]),(7,.val (.om kI veI y.2.1.owner)),(8,.val (.om kI veB y.2.2.1))]∧k=9):=h
theorem Xq (robot:Int) (v1:Q5) (c1:List (Int×Bool)) (c2:Int) (post:(Bool×Q5×List (Int×Bool)×Int)→Prop) (g:QH robot v1 c1 c2 post):
  Tr Tryz.prog 103 [.i robot,.p 0 0,.p 3 0,.p 5 0,.p 6 0] [(0,.box [.p 1 0]),(1,.box [.sl 1 eLeI v1.lists,.o 2]),(2,.val (.om kI veI v1.owner)),(3,.box [.o 4]),(4,.val (.om kI veB c1)),(5,.box [.i c2]),(6,.box [.fn (.func 103) [] [.p 0 0,.p 3 0,.p 5 0,.p 6 0]])] 7 (fun A H' k=>∃y,post y∧A=(.b y.1)∧H'=[(0,.box [.p 1 0]),(1,.box [.sl 1 eLeI y.2.1.lists,.o 7]),(3,.box [.o 8]),(5,.box [.i y.2.2.2]),(6,.box [.fn (.func 103) [] [.p 0 0,.p 3 0,.p 5 0,.p 6 0]]),(7,.val (.om kI veI y.2.1.owner)),(8,.val (.om kI veB y.2.2.1))]∧k=9):=by
 refine Ku robot v1 c1 c2 _ (g QI (fun a post g=>?_))
 obtain⟨robot,v1,c1,c2⟩:=a
 replace g:Qg QI robot v1 c1 c2 post:=g
 show Tr Tryz.prog 103 [.i robot,.p 0 0,.p 3 0,.p 5 0,.p 6 0] [(0,.box [.p 1 0]),(1,.box [.sl 1 eLeI v1.lists,.o 2]),(2,.val (.om kI veI v1.owner)),(3,.box [.o 4]),(4,.val (.om kI veB c1)),(5,.box [.i c2]),(6,.box [.fn (.func 103) [] [.p 0 0,.p 3 0,.p 5 0,.p 6 0]])] 7 (fun A H' k=>∃y,post y∧A=(.b y.1)∧H'=[(0,.box [.p 1 0]),(1,.box [.sl 1 eLeI y.2.1.lists,.o 7]),(3,.box [.o 8]),(5,.box [.i y.2.2.2]),(6,.box [.fn (.func 103) [] [.p 0 0,.p 3 0,.p 5 0,.p 6 0]]),(7,.val (.om kI veI y.2.1.owner)),(8,.val (.om kI veB y.2.2.1))]∧k=9)
 refine Tr.go Tryz.func103 Tryz.ntmps103 fun _ _ _ _ o=>?_
 unfold Qg at g
 refine C.ss (U.pd 1 T (C.xs (C.ss ?_)))
 refine U.ps 5 T rfl ?_
 obtain⟨x5,y5,g⟩:=g
 refine U.ix T y5 ?_
 refine U.pd 3 T (C.nx ?_)
 refine C.jn (fun (x6:List (List Int)×List (Int×Int)×List (Int×Bool)×Int)=>[]) (fun x6=>[(0,.box [.p 1 0]),(1,.box [.sl 1 eLeI x6.1,.o 7]),(3,.box [.o 8]),(5,.box [.i x6.2.2.2]),(6,.box [.fn (.func 103) [] [.p 0 0,.p 3 0,.p 5 0,.p 6 0]]),(7,.val (.om kI veI x6.2.1)),(8,.val (.om kI veB x6.2.2.1))]) 9 g (fun x6 g=>?_) fun J7 g j7=>?_
 ·refine C.xt ?_
  refine U.pd 1 T (C.nx (C.ret ?_))
  exact C.g1 (idR 9) T o ⟨(false,({lists:=x6.1,owner:=x6.2.1:Q5}),x6.2.2.1,x6.2.2.2),g,rfl,rfl,rfl⟩
 ·refine C.block ?_
  refine St.wk (C.loop (fun (s8:List (List Int)×List (Int×Int)×List (Int×Bool)×Int×Int)=>[(0,.i robot),(1,.p 0 0),(2,.p 3 0),(3,.p 5 0),(4,.p 6 0),(17,.sl 1 eI x5),(18,.i (x5.length:Int)),(19,.i s8.2.2.2.2)]) (fun s8=>[(0,.box [.p 1 0]),(1,.box [.sl 1 eLeI s8.1,.o 7]),(3,.box [.o 8]),(5,.box [.i s8.2.2.2.1]),(6,.box [.fn (.func 103) [] [.p 0 0,.p 3 0,.p 5 0,.p 6 0]]),(7,.val (.om kI veI s8.2.1)),(8,.val (.om kI veB s8.2.2.1))]) g (fun s8 Y9 g=>?_)) (Wk.a [some 0,some 1,some 2,some 3,some 4,some 5,some 6,some 2,some 4])
  refine C.ss (U.pd 1 T (C.xs ?_))
  refine C.ite rfl g (fun b12 g=>?_) fun b12 g=>?_
  ·refine C.skip (C.xs ?_)
   refine C.jn (fun (x13:List (List Int)×List (Int×Int)×List (Int×Bool)×Int)=>[(0,.i robot),(1,.p 0 0),(2,.p 3 0),(3,.p 5 0),(4,.p 6 0),(17,.sl 1 eI x5),(18,.i (x5.length:Int)),(19,.i s8.2.2.2.2)]) (fun x13=>[(0,.box [.p 1 0]),(1,.box [.sl 1 eLeI x13.1,.o 7]),(3,.box [.o 8]),(5,.box [.i x13.2.2.2]),(6,.box [.fn (.func 103) [] [.p 0 0,.p 3 0,.p 5 0,.p 6 0]]),(7,.val (.om kI veI x13.2.1)),(8,.val (.om kI veB x13.2.2.1))]) 9 g (fun x13 g=>?_) fun J14 g j14=>?_
   ·refine C.nx (U.start ?_)
    refine U.pd 2 T (C.nx ?_)
    exact St.wk (C.next g) (Wk.a (idR 9))
   ·refine C.block (C.ss ?_)
    obtain⟨x17,y17,g⟩:=g
    refine U.ix T y17 ?_
    refine U.pd 2 T (C.xs (C.ss ?_))
    refine U.ps 2 T rfl (U.r rfl (.none rfl) rfl rfl (by exact Rd.lk T (ke:=kI) (ve:=veB) (xs:=s8.2.2.1) (z0:=false) (x:=x17) rfl rfl kt3 zt4 (fun _=>rfl) rfl (.o rfl) rfl rfl rfl) ?_)
    refine U.done (C.nx ?_)
    refine C.ite rfl g (fun b20 g=>?_) fun b20 g=>?_
    ·refine C.exit (C.ex (C.bex ?_))
     exact St.wa (idR 9) (j14 _ g)
    ·refine C.skip (C.xt ?_)
     refine U.ps 2 T rfl (U.e1 rfl (.none rfl) (by exact Eff1.mu T (x:=x17) (y:=true) (.inl rfl) rfl kt3 (fun _=>rfl) rfl rfl rfl rfl rfl (.inl rfl) rfl) ?_)
     refine U.done (C.xt (U.ps 5 T rfl (U.r rfl (.none rfl) rfl rfl (by exact Rd.lk2 T (ke:=kI) (ve:=veI) (xs:=s8.2.1) (z0:=0) (x:=x17) rfl rfl kt3 zt3 (fun _=>rfl) rfl (.o rfl) rfl rfl rfl) ?_)))
     refine U.pd 5 T (C.xs ?_)
     refine C.jn (fun (x25:List (List Int)×List (Int×Int)×List (Int×Bool)×Int×Bool)=>[(0,.i robot),(1,.p 0 0),(2,.p 3 0),(3,.p 5 0),(4,.p 6 0),(8,.i x17),(17,.sl 1 eI x5),(18,.i (x5.length:Int)),(19,.i s8.2.2.2.2),(48,.b x25.2.2.2.2)]) (fun x25=>[(0,.box [.p 1 0]),(1,.box [.sl 1 eLeI x25.1,.o 7]),(3,.box [.o 8]),(5,.box [.i x25.2.2.2.1]),(6,.box [.fn (.func 103) [] [.p 0 0,.p 3 0,.p 5 0,.p 6 0]]),(7,.val (.om kI veI x25.2.1)),(8,.val (.om kI veB x25.2.2.1))]) 9 g (fun x25 g=>?_) fun J26 g j26=>?_
     ·refine C.nx ?_
      refine C.ite rfl g (fun b30 g=>?_) fun b30 g=>?_
      ·refine C.ss ?_
       refine U.ps 6 T rfl (U.e1 rfl (.none rfl) (by exact Eff1.mu T (x:=x17) (y:=robot) (.inl rfl) rfl kt3 (fun _=>rfl) rfl rfl rfl rfl rfl (.inl rfl) rfl) ?_)
       refine U.done (C.xt (U.pd 1 T (C.nx (C.ret (C.brt (C.rt (C.rt (C.brt (C.rt ?_)))))))))
       exact C.g1 (idR 9) T o ⟨(true,({lists:=x25.1,owner:=(upd x25.2.1 x17 robot):Q5}),x25.2.2.1,x25.2.2.2.1),g,rfl,rfl,rfl⟩
      ·refine C.skip (C.bnx ?_)
       exact St.wa (idR 9) (j14 _ g)
     ·refine U.start ?_
      refine U.ps 3 T rfl ?_
      refine g.cs (fun b27 g=>?_) fun b27 g=>?_
      ·refine U.pq 4 2 false 39 (ntF b27) T ?_
       refine g.cs (fun b28 g=>?_) fun b28 g=>?_
       ·refine U.pq 2 6 true 43 b28 T ?_
        refine U.c [some 0,some 1,some 7,some 3,some 8,some 5,some 6] (Ku ((lk s8.2.1 x17).getD 0) ({lists:=s8.1,owner:=s8.2.1:Q5}) (upd s8.2.2.1 x17 true) s8.2.2.2.1 _ g) Q4P (fun x29 g=>?_) (hw:=.take 6 true 43 _ b28 rfl rfl rfl)
        refine U.r rfl (.tk 2 false 39 (ntF b27)) rfl rfl (by exact Rd.pk rfl rfl b28 rfl) ?_
        refine U.pk' (ntF b27) ?_
        refine U.done ?_
        exact St.wa [some 0,some 1,some 2,some 3,some 4,some 5,some 6,some 16,some 17] (j26 _ g)
       ·refine U.sk' 3 6 true 43 b28 ?_
        refine U.r rfl (.tk 2 false 39 (ntF b27)) rfl rfl (by exact Rd.pk' rfl rfl b28 rfl) ?_
        refine U.pk' (ntF b27) ?_
        refine U.done ?_
        exact St.wa (idR 9) (j26 _ g)
      ·refine U.sk' 4 2 false 39 (ntT b27) ?_
       refine U.sku 3 6 true 43 rfl rfl rfl ?_
       refine U.sk' 1 2 false 39 (ntT b27) ?_
       refine U.pk (ntT b27) ?_
       refine U.done ?_
       exact St.wa (idR 9) (j26 _ g)
  ·refine C.exit (C.ex (C.ex (C.bex ?_)))
   exact St.wk (j7 _ g) (Wk.mk' [some 0,some 1,some 2,some 3,some 4,some 5,some 6,some 7,some 8] rfl rfl trivial ⟨bX,bX,bX,bX,bX,vL,vL,trivial⟩ rfl)
theorem GO (robot:Int) (first:Int) (m:Q5) (post:(Bool×Q5)→Prop) (g:QK robot first m post):
  Tr Tryz.prog 74 [.p 0 0,.i robot,.i first] [(0,.box [.sl 1 eLeI m.lists,.o 1]),(1,.val (.om kI veI m.owner))] 2 (fun A H' k=>∃y,post y∧A=(.b y.1)∧H'=[(0,.box [.sl 1 eLeI y.2.lists,.o 2]),(2,.val (.om kI veI y.2.owner))]∧k=3):=by
 refine Tr.go Tryz.func74 Tryz.ntmps74 fun _ _ _ _ o=>?_
 unfold QK at g
 refine C.ss (U.bx ?_)
 refine U.bx ?_
 refine U.pd 1 T (C.xt ?_)
 refine U.e1 rfl (.none rfl) (by exact Eff1.mm kI veB rfl rfl rfl) ?_
 refine U.al T ?_
 refine U.st T ?_
 refine U.done (C.xt (U.al T ?_))
 refine U.done (C.xt (U.ps 1 T rfl (U.st T ?_)))
 refine U.done (C.xt (U.ps 2 T rfl (U.c [some 2,some 0,some 1,some 5,some 4,some 3,some 6] (Xq robot m ([]:List (Int×Bool)) first _ g) Q4P (fun x11 g=>?_))))
 refine U.pd 1 T (C.nx (C.ret ?_))
 exact C.g1 [some 0,some 1,some 14] T o ⟨(x11.1,x11.2.1),g,rfl,rfl,rfl⟩
theorem ZG (l:List (List Int)) (given:List Int) (post:Int→Prop) (g:XF l given post):
  Tr Tryz.prog 38 [.sl 1 eLeI l,.sl 1 eI given] [] 0 (pI post):=by
 refine Tr.go Tryz.func38 Tryz.ntmps38 fun _ _ _ _ o=>?_
 unfold XF at g
 refine C.ss (U.pd 1 T (C.xt ?_))
 refine U.ps 1 T rfl (U.e1 rfl (.none rfl) (by exact Eff1.mm kI veI rfl rfl rfl) ?_)
 refine U.ps 1 T rfl (U.bx ?_)
 refine U.pd 1 T (C.xs (C.ss ?_))
 refine U.pd 3 T (C.nx ?_)
 refine C.jn (fun (x7:List (Int×Int))=>[(0,.sl 1 eLeI l),(1,.sl 1 eI given),(5,.p 0 0)]) (fun x7=>[(0,.box [.sl 1 eLeI l,.o 1]),(1,.val (.om kI veI x7))]) 2 g (fun x7 g=>?_) fun J8 g j8=>?_
 refine C.xs (C.ss (U.pd 3 T (C.nx ?_)))
 refine C.jn (fun (x28:List (List Int)×List (Int×Int))=>[(5,.p 0 0)]) (fun x28=>[(0,.box [.sl 1 eLeI x28.1,.o 1]),(1,.val (.om kI veI x28.2))]) 2 g (fun x28 g=>?_) fun J29 g j29=>?_
 refine C.xt (U.ps 4 T rfl (U.r rfl (.none rfl) rfl rfl (by exact Rd.lm T (ke:=kI) (ve:=veI) (xs:=x28.2) rfl rfl (fun _=>rfl) rfl (.o rfl)) ?_))
 refine U.pd 1 T (C.nx (C.ret ?_))
 exact C.f1 T o (pIi g)
 refine C.block (St.wk (C.loop (fun (s30:List (List Int)×List (Int×Int)×Int)=>[(0,.sl 1 eLeI l),(1,.sl 1 eI given),(5,.p 0 0),(8,.i s30.2.2)]) (fun s30=>[(0,.box [.sl 1 eLeI s30.1,.o 1]),(1,.val (.om kI veI s30.2.1))]) g (fun s30 Y31 g=>?_)) (Wk.a (idR 2)))
 refine C.seq (C.ss (U.pd 4 T (C.nx ?_)))
 refine C.ite rfl g (fun b34 g=>?_) fun b34 g=>?_
 refine C.skip (C.xs (C.block (U.start (U.ps 4 T rfl (U.c (idR 2) (GO s30.2.2 (given.length:Int) ({lists:=s30.1,owner:=s30.2.1:Q5}) _ g) en74 (fun x37 g=>?_))))))
 refine U.done (C.bnx (C.nx (U.start (U.pd 3 T (C.nx ?_)))))
 exact St.wk (C.next g) (Wk.a [some 0,some 4])
 refine C.exit (C.ex (C.ex (C.bex ?_)))
 exact St.wa (idR 2) (j29 _ g)
 refine C.block (St.wk (C.loop (fun (s9:List (Int×Int)×Int)=>[(0,.sl 1 eLeI l),(1,.sl 1 eI given),(5,.p 0 0),(13,.sl 1 eI given),(14,.i (given.length:Int)),(15,.i s9.2)]) (fun s9=>[(0,.box [.sl 1 eLeI l,.o 1]),(1,.val (.om kI veI s9.1))]) g (fun s9 Y10 g=>?_)) (Wk.a [some 1,some 0]))
 refine C.ss (U.pd 1 T (C.xs ?_))
 refine C.ite rfl g (fun b13 g=>?_) fun b13 g=>?_
 refine C.skip (C.xs (C.block (C.ss (U.ps 1 T rfl ?_))))
 obtain⟨x16,y16,g⟩:=g
 refine U.ix T y16 ?_
 refine U.pd 3 T (C.xt ?_)
 refine U.pd 2 T (C.nx ?_)
 refine C.jn (fun (x19:List (Int×Int))=>[(0,.sl 1 eLeI l),(1,.sl 1 eI given),(5,.p 0 0),(13,.sl 1 eI given),(14,.i (given.length:Int)),(15,.i s9.2)]) (fun x19=>[(0,.box [.sl 1 eLeI l,.o 1]),(1,.val (.om kI veI x19))]) 2 g (fun x19 g=>?_) fun J20 g j20=>?_
 refine C.bnx (C.nx (U.start (U.pd 2 T (C.nx ?_))))
 exact St.wk (C.next g) (Wk.a (idR 2))
 refine C.ite rfl g (fun b21 g=>?_) fun b21 g=>?_
 refine U.start (U.ps 6 T rfl (U.e1 rfl (.none rfl) (by exact Eff1.mu T (x:=x16) (y:=s9.2) (.inl rfl) rfl kt3 (fun _=>rfl) rfl rfl rfl rfl rfl (.inl rfl) rfl) ?_))
 refine U.done ?_
 exact St.wa (idR 2) (j20 _ g)
 refine C.skip ?_
 exact St.wa (idR 2) (j20 _ g)
 refine C.exit (C.ex (C.ex (C.bex ?_)))
 exact St.wa (idR 2) (j8 _ g)
theorem GQ (s_1:List Int) (post:(List Int)→Prop) (g:QN s_1 post):
  Tr Tryz.prog 41 [.sl 1 eI s_1] [] 0 (fun A H' k=>∃y,post y∧A=(.fn (.func 76) [] [.p 0 0])∧H'=[(0,.box [.sl 1 eI y])]∧k=1):=by
 refine Tr.go Tryz.func41 Tryz.ntmps41 fun _ _ _ _ o=>?_
 unfold QN at g
 refine C.ss (U.bx ?_)
 refine U.pd 1 T (C.xt ?_)
 refine U.pd 2 T (C.nx (C.ret ?_))
 exact C.g1 [some 0] T o ⟨(s_1),g,rfl,rfl,rfl⟩
theorem Kd (seq_c0:List Int) (s_1:List Int) (post:(List Int)→Prop) (g:Q8 seq_c0 s_1 post):
  Tr Tryz.prog 104 [.o 0,.fn (.func 76) [] [.rp [.sl 1 eI seq_c0]]] [(0,.val (.os 1 eI s_1))] 1 (fun A H' k=>∃y,post y∧A=(.o 1)∧H'=[(1,.val (.os 1 eI y))]∧k=2):=by
 refine Tr.go Tryz.func104 Tryz.ntmps104 fun _ _ _ _ o=>?_
 unfold Q8 at g
 refine C.ss (U.bx ?_)
 refine U.pd 1 T (C.xs (C.ss ?_))
 refine U.pd 1 T (C.nx (C.block ?_))
 obtain⟨y8,g⟩:=g
 refine St.wk (C.range (Γ0:=[(2,.p 1 0),(6,.fn (.func 76) [] [.rp [.sl 1 eI seq_c0]])]) (Γ1:=fun (x5:Int)=>[(5,.i x5),(7,.i x5),(2,.p 1 0),(6,.fn (.func 76) [] [.rp [.sl 1 eI seq_c0]])]) (Hf:=fun (s6:List Int)=>[(1,.box [.o 2]),(2,.val (.os 1 eI s6))]) 2 g (it76 seq_c0 y8) en76 rfl rfl rfl rfl rfl (fun _=>rfl) rfl rfl (fun _=>rfl) (fun x5 s6 Y7 g w0 ok M β l=>?_) (fun s12 g=>?_)) (Wk.a [some 0,some 1,some 0])
 refine CI.block ?_
 refine UI.start (by kernel_rfl) (by repeat (first | exact YN.rnd | refine YN.th ?_ | refine YN.blk ?_)) ?_
 refine U.ps 2 T rfl (U.bs T eI ([x5]:List Int) ?_)
 obtain⟨y11,g⟩:=g
 refine U.ap T y11 ?_
 refine U.st T ?_
 refine U.done (C.bnx ?_)
 exact St.wk (CI.next g) (Wk.mk' [some 0,some 1,some 4] rfl rfl trivial ⟨bX,vL,trivial⟩ rfl)
 refine C.bnx (C.xt (U.pd 2 T (C.nx (C.ret ?_))))
 exact C.g1 [some 0,some 2] T o ⟨s12,g,rfl,rfl,rfl⟩
theorem KM (seq_c0:List Int) (post:(List Int)→Prop) (g:Qf seq_c0 post):
  Tr Tryz.prog 75 [.fn (.func 76) [] [.rp [.sl 1 eI seq_c0]]] [] 0 (fun A H' k=>∃y,post y∧A=(.o 0)∧H'=[(0,.val (.os 1 eI y))]∧k=1):=by
 refine Tr.go Tryz.func75 Tryz.ntmps75 fun _ _ _ _ o=>?_
 unfold Qf at g
 refine C.ss (U.pd 1 T (C.xt ?_))
 refine U.ps 1 T rfl (U.c [none] (Kd seq_c0 [] _ g) Q4W (fun x5 g=>?_))
 refine U.pd 1 T (C.nx (C.ret ?_))
 exact C.g1 [some 1] T o ⟨x5,g,rfl,rfl,rfl⟩
def Q4Z:Go.Shelf.Ren:=⟨fun | 125=>102 | 128=>121 | 129=>122 | 189=>73 | 215=>129 | 216=>118 | 257=>101 | 294=>112 | 295=>113 | 296=>114 | 297=>115 | 298=>116 | 299=>117 | 300=>119 | 301=>120 | 328=>124 | 329=>125 | 330=>126 | 331=>127 | 332=>128 | 343=>130 | n=>n,fun | 0=>0 | 3=>3 | 4=>4 | 5=>5 | 9=>9 | 28=>22 | 46=>93 | 51=>113 | 53=>116 | 131=>53 | 182=>139 | 183=>140 | 218=>147 | 222=>151 | 228=>153 | 229=>154 | n=>n,fun n=>n⟩
theorem Q57:Go.Proofs.Lays.n189 Tryz.prog Q4Z where
 mixed:=by kernel_rfl
 f125:=Tryz.func102.trans (congrArg some (by kernel_rfl))
 f128:=Tryz.func121.trans (congrArg some (by kernel_rfl))
 f129:=Tryz.func122.trans (congrArg some (by kernel_rfl))
 f189:=Tryz.func73.trans (congrArg some (by kernel_rfl))
 f215:=Tryz.func129.trans (congrArg some (by kernel_rfl))
 f216:=Tryz.func118.trans (congrArg some (by kernel_rfl))
 f257:=Tryz.func101.trans (congrArg some (by kernel_rfl))
 f294:=Tryz.func112.trans (congrArg some (by kernel_rfl))
 f295:=Tryz.func113.trans (congrArg some (by kernel_rfl))
 f296:=Tryz.func114.trans (congrArg some (by kernel_rfl))
 f297:=Tryz.func115.trans (congrArg some (by kernel_rfl))
 f298:=Tryz.func116.trans (congrArg some (by kernel_rfl))
 f299:=Tryz.func117.trans (congrArg some (by kernel_rfl))
 f300:=Tryz.func119.trans (congrArg some (by kernel_rfl))
 f301:=Tryz.func120.trans (congrArg some (by kernel_rfl))
 f328:=Tryz.func124.trans (congrArg some (by kernel_rfl))
 f329:=Tryz.func125.trans (congrArg some (by kernel_rfl))
 f330:=Tryz.func126.trans (congrArg some (by kernel_rfl))
 f331:=Tryz.func127.trans (congrArg some (by kernel_rfl))
 f332:=Tryz.func128.trans (congrArg some (by kernel_rfl))
 f343:=Tryz.func130.trans (congrArg some (by kernel_rfl))
 t0:=Tryz.underlying0
 a0:=Tryz.isAgg0
 z0:=Tryz.sizeOf0
 v0:=Tryz.zeroValue0
 t3:=Tryz.underlying3
 a3:=Tryz.isAgg3
 z3:=Tryz.sizeOf3
 v3:=Tryz.zeroValue3
 t4:=Tryz.underlying4
 a4:=Tryz.isAgg4
 z4:=Tryz.sizeOf4
 v4:=Tryz.zeroValue4
 t5:=Tryz.underlying5
 a5:=Tryz.isAgg5
 z5:=Tryz.sizeOf5
 v5:=Tryz.zeroValue5
 t9:=Tryz.underlying9
 a9:=Tryz.isAgg9
 z9:=Tryz.sizeOf9
 v9:=Tryz.zeroValue9
 t28:=Tryz.underlying22
 a28:=Tryz.isAgg22
 z28:=Tryz.sizeOf22
 v28:=Tryz.zeroValue22
 t46:=Tryz.underlying93
 a46:=Tryz.isAgg93
 z46:=Tryz.sizeOf93
 v46:=Tryz.zeroValue93
 t51:=Tryz.underlying113
 a51:=Tryz.isAgg113
 z51:=Tryz.sizeOf113
 v51:=Tryz.zeroValue113
 t53:=Tryz.underlying116
 a53:=Tryz.isAgg116
 z53:=Tryz.sizeOf116
 v53:=Tryz.zeroValue116
 t131:=Tryz.underlying53
 a131:=Tryz.isAgg53
 z131:=Tryz.sizeOf53
 v131:=Tryz.zeroValue53
 t182:=Tryz.underlying139
 a182:=Tryz.isAgg139
 z182:=Tryz.sizeOf139
 v182:=Tryz.zeroValue139
 t183:=Tryz.underlying140
 a183:=Tryz.isAgg140
 z183:=Tryz.sizeOf140
 v183:=Tryz.zeroValue140
 t218:=Tryz.underlying147
 a218:=Tryz.isAgg147
 z218:=Tryz.sizeOf147
 v218:=Tryz.zeroValue147
 t222:=Tryz.underlying151
 a222:=Tryz.isAgg151
 z222:=Tryz.sizeOf151
 v222:=Tryz.zeroValue151
 t228:=Tryz.underlying153
 a228:=Tryz.isAgg153
 z228:=Tryz.sizeOf153
 v228:=Tryz.zeroValue153
 t229:=Tryz.underlying154
 a229:=Tryz.isAgg154
 z229:=Tryz.sizeOf154
 v229:=Tryz.zeroValue154
theorem Xh (p0:List Int) (post:List Int→Prop) (g:Qs p0 post):
  Tr Tryz.prog 73 [.o 0] [(0,.val (.os 1 eI p0))] 1 (fun A H' k=>∃y,post y∧A=(.tup [])∧H'=[(0,.val (.os 1 eI y))]∧k=1):=by
 unfold Qs at g
 exact Tr.sortInt Q57 p0 g.1 g.2
theorem KO (seq_c0:List Int) (post:(List Int)→Prop) (g:Qa seq_c0 post):
  Tr Tryz.prog 40 [.fn (.func 76) [] [.rp [.sl 1 eI seq_c0]]] [] 0 (fun A H' k=>∃y,post y∧A=(.o 0)∧H'=[(0,.val (.os 1 eI y))]∧k=1):=by
 refine Tr.go Tryz.func40 Tryz.ntmps40 fun _ _ _ _ o=>?_
 unfold Qa at g
 refine C.ss (U.pd 1 T (C.xt ?_))
 refine U.ps 1 T rfl (U.k (KM seq_c0 _ g) en75 (fun x5 g=>?_))
 refine U.pd 1 T (C.xt ?_)
 refine U.ps 1 T rfl (U.c [some 0] (Xh x5 _ g) en73 (fun x8 g=>?_))
 refine U.done (C.xt (U.pd 2 T (C.nx (C.ret ?_))))
 exact C.g1 [some 0] T o ⟨x8,g,rfl,rfl,rfl⟩
theorem X1 (s_1:List Int) (post:(List Int)→Prop) (g:V_slices_Compact_int_int__o0 s_1 post):
  Tr Tryz.prog 39 [.o 0] [(0,.val (.os 1 eI s_1))] 1 (fun A H' k=>∃y,post y∧A=(.o 1)∧H'=[(1,.val (.os 1 eI y))]∧k=2):=by
 refine Tr.go Tryz.func39 Tryz.ntmps39 fun _ _ _ _ o=>?_
 unfold V_slices_Compact_int_int__o0 at g
 refine C.ss (U.pd 1 T (C.xs (C.ss ?_)))
 refine U.pd 3 T (C.nx ?_)
 refine C.ite rfl g (fun b5 g=>?_) fun b5 g=>?_
 refine C.ss (U.pd 2 T (C.nx (C.ret (C.rt ?_))))
 exact C.g1 [some 0,some 0] T o ⟨s_1,g,rfl,rfl,rfl⟩
 refine C.skip (C.xs (C.ss (U.pd 1 T (C.nx ?_))))
 refine C.jn (fun (x10:Unit)=>[(0,.o 0)]) (fun x10=>[(0,.val (.os 1 eI s_1))]) 1 g (fun x10 g=>?_) fun J11 g j11=>?_
 refine C.xt (U.pd 2 T (C.nx (C.ret ?_)))
 exact C.g1 [some 0,some 0] T o ⟨s_1,g,rfl,rfl,rfl⟩
 refine C.block (St.wk (C.loop (fun (s12:Int)=>[(0,.o 0),(3,.i s12)]) (fun s12=>[(0,.val (.os 1 eI s_1))]) g (fun s12 Y13 g=>?_)) (Wk.a [some 0]))
 refine C.seq (C.ss (U.pd 4 T (C.nx ?_)))
 refine C.ite rfl g (fun b16 g=>?_) fun b16 g=>?_
 refine C.skip (C.xs ?_)
 refine C.jn (fun (x17:Unit)=>[(0,.o 0),(3,.i s12)]) (fun x17=>[(0,.val (.os 1 eI s_1))]) 1 g (fun x17 g=>?_) fun J18 g j18=>?_
 refine C.nx (U.start (U.pd 3 T (C.nx ?_)))
 exact St.wk (C.next g) (Wk.a [some 0])
 refine C.block (C.seq (D.bq mix 9999 [0] [] (fun hQ hS ws M'=>?_)))
 refine D.pq 2 (zl [0,1]) T ?_
 obtain⟨x21,y21,g⟩:=g
 refine D.q 2 [] hQ hS rfl (.none rfl) rfl rfl (by exact Rd.io T rfl rfl rfl rfl rfl rfl rfl y21) rfl (by kernel_rfl) ?_
 refine D.q 3 [] hQ hS rfl (.none rfl) rfl rfl (by exact Rd.le T rfl rfl rfl (Q9 y21).2.2 rfl rfl rfl) rfl (by kernel_rfl) ?_
 refine D.pq 3 (zl [4,5,6]) T ?_
 obtain⟨x22,y22,g⟩:=g
 refine D.q 7 [] hQ hS rfl (.none rfl) rfl rfl (by exact Rd.io T rfl rfl rfl rfl rfl rfl rfl y22) rfl (by kernel_rfl) ?_
 refine D.q 8 [] hQ hS rfl (.none rfl) rfl rfl (by exact Rd.le T rfl rfl rfl (Q9 y22).2.2 rfl rfl rfl) rfl (by kernel_rfl) ?_
 refine D.pq 1 [(9,[])] T ?_
 refine D.done (by kernel_rfl) ?_
 refine C.nx ?_
 refine C.ite rfl g (fun b23 g=>?_) fun b23 g=>?_
 refine C.ss (U.ps 2 T rfl ?_)
 obtain⟨y26,g⟩:=g
 refine U.r rfl (.none rfl) rfl rfl (by exact Rd.vw T rfl rfl rfl rfl rfl rfl (.some _ rfl) (.none _) y26) ?_
 refine U.pd 1 T (C.xs (C.ss ?_))
 refine U.pd 1 T (C.nx ?_)
 refine C.jn (fun (x29:List Int×Int)=>[(0,.o 0),(3,.i x29.2)]) (fun x29=>[(0,.val (.os 1 eI x29.1))]) 1 g (fun x29 g=>?_) fun J30 g j30=>?_
 refine C.xt (U.ps 2 T rfl ?_)
 obtain⟨y55,g⟩:=g
 refine U.r rfl (.none rfl) rfl rfl (by exact Rd.vw T rfl rfl rfl rfl rfl rfl (.some _ rfl) (.none _) y55) ?_
 obtain⟨y56,g⟩:=g
 refine U.e1 rfl (.none rfl) (by exact Eff1.clv T (z0:=0) rfl rfl rfl rfl rfl rfl rfl (fun _=>rfl) rfl y56) ?_
 refine U.done (C.xt (U.ps 2 T rfl ?_))
 obtain⟨y59,g⟩:=g
 refine U.e1 rfl (.none rfl) (by exact Eff1.sw T rfl rfl rfl rfl rfl rfl rfl rfl (.none _) (.some _ rfl) y59) ?_
 refine U.pd 1 T (C.nx (C.ret (C.brt (C.rt (C.rt (C.brt (C.rt ?_)))))))
 exact C.g1 (idR 2) T o ⟨(sub (x29.1.take (Int.toNat x29.2)++(List.replicate (Int.toNat ((x29.1.length:Int)-x29.2)) 0++x29.1.drop ((Int.toNat x29.2)+(Int.toNat ((x29.1.length:Int)-x29.2))))) 0 x29.2),g,rfl,rfl,rfl⟩
 refine C.block (St.wk (C.loop (fun (s31:List Int×Int×Int)=>[(0,.o 0),(3,.i s31.2.1),(4,.vw 0 1 (Int.toNat s12) (Int.toNat ((s_1.length:Int)-s12))),(5,.i s31.2.2)]) (fun s31=>[(0,.val (.os 1 eI s31.1))]) g (fun s31 Y32 g=>?_)) (Wk.a [some 0]))
 refine C.seq (C.ss (U.ps 2 T rfl (U.r rfl (.none rfl) rfl rfl (by exact Rd.vl T rfl rfl rfl) ?_)))
 refine U.pd 1 T (C.nx ?_)
 refine C.ite rfl g (fun b35 g=>?_) fun b35 g=>?_
 refine C.skip (C.xs (C.block (C.seq (D.bq mix 9999 [0] [] (fun hQ hS ws M'=>?_)))))
 refine D.pq 2 (zl [0,1]) T ?_
 obtain⟨y38,g⟩:=g
 refine D.q 2 [] hQ hS rfl (.none rfl) rfl rfl (by exact Rd.vi T rfl rfl rfl rfl rfl rfl y38) rfl (by kernel_rfl) ?_
 obtain⟨x39,y39,g⟩:=g
 refine D.q 3 [] hQ hS rfl (.none rfl) rfl rfl (by exact Rd.le T rfl rfl rfl y39 rfl rfl rfl) rfl (by kernel_rfl) ?_
 refine D.pq 3 (zl [4,5,6]) T ?_
 obtain⟨y40,g⟩:=g
 refine D.q 7 [] hQ hS rfl (.none rfl) rfl rfl (by exact Rd.vi T rfl rfl rfl rfl rfl rfl y40) rfl (by kernel_rfl) ?_
 obtain⟨x41,y41,g⟩:=g
 refine D.q 8 [] hQ hS rfl (.none rfl) rfl rfl (by exact Rd.le T rfl rfl rfl y41 rfl rfl rfl) rfl (by kernel_rfl) ?_
 refine D.pq 1 [(9,[])] T ?_
 refine D.done (by kernel_rfl) ?_
 refine C.nx ?_
 refine C.jn (fun (x42:List Int×Int)=>[(0,.o 0),(3,.i x42.2),(4,.vw 0 1 (Int.toNat s12) (Int.toNat ((s_1.length:Int)-s12))),(5,.i s31.2.2)]) (fun x42=>[(0,.val (.os 1 eI x42.1))]) 1 g (fun x42 g=>?_) fun J43 g j43=>?_
 refine C.bnx (C.nx (U.start (U.pd 3 T (C.nx ?_))))
 exact St.wk (C.next g) (Wk.a [some 0])
 refine C.ite rfl g (fun b44 g=>?_) fun b44 g=>?_
 refine C.ss (U.ps 4 T rfl ?_)
 obtain⟨y47,g⟩:=g
 refine U.r rfl (.none rfl) rfl rfl (by exact Rd.vi T rfl rfl rfl rfl rfl rfl y47) ?_
 refine U.r rfl (.none rfl) rfl rfl (by exact Rd.le T rfl rfl rfl y39 rfl rfl rfl) ?_
 obtain⟨x48,y48,g⟩:=g
 refine U.r rfl (.none rfl) rfl rfl (by exact Rd.io T rfl rfl rfl rfl rfl rfl rfl y48) ?_
 refine U.e1 rfl (.none rfl) (by exact Eff1.se T (z':=x39) rfl rfl rfl (Q9 y48).2.2 rfl rfl rfl rfl rfl rfl rfl rfl (fun _=>rfl) rfl) ?_
 refine U.done (C.nx (U.start (U.pd 3 T ?_)))
 exact St.wa [some 0] (j43 _ g)
 refine C.skip ?_
 exact St.wa [some 0] (j43 _ g)
 refine C.exit (C.ex (C.ex (C.bex ?_)))
 exact St.wa [some 0] (j30 _ g)
 refine C.skip (C.bnx ?_)
 exact St.wa [some 0] (j18 _ g)
 refine C.exit (C.ex (C.ex (C.bex ?_)))
 exact St.wa [some 0] (j11 _ g)
theorem W8 (s_1:List Int) (v:Int) (post:Int→Prop) (g:QW s_1 v post):
  Tr Tryz.prog 66 [.sl 1 eI s_1,.i v] [] 0 (pI post):=by
 refine Tr.go Tryz.func66 Tryz.ntmps66 fun _ _ _ _ o=>?_
 unfold QW at g
 refine C.ss (U.pd 1 T (C.xs (C.ss ?_)))
 refine U.pd 3 T (C.nx ?_)
 refine C.jn (fun (x5:Unit)=>[]) (fun x5=>[]) 0 g (fun x5 g=>?_) fun J6 g j6=>?_
 refine C.xt (U.pd 1 T (C.nx (C.ret ?_)))
 exact C.f1 T o (pIi g)
 refine C.block (St.wk (C.loop (fun (s7:Int)=>[(0,.sl 1 eI s_1),(1,.i v),(7,.i (s_1.length:Int)),(8,.i s7)]) (fun s7=>[]) g (fun s7 Y8 g=>?_)) (Wk.e))
 refine C.ss (U.pd 1 T (C.xs ?_))
 refine C.ite rfl g (fun b11 g=>?_) fun b11 g=>?_
 refine C.skip (C.xs (C.block (C.ss (U.pd 2 T (C.xt ?_)))))
 refine U.ps 3 T rfl ?_
 obtain⟨x16,y16,g⟩:=g
 refine U.ix T y16 ?_
 refine U.pd 2 T (C.nx ?_)
 refine C.ite rfl g (fun b17 g=>?_) fun b17 g=>?_
 refine C.ss (U.pd 2 T (C.nx (C.ret (C.brt (C.rt (C.rt (C.brt (C.rt ?_))))))))
 exact C.f1 T o (pIi g)
 refine C.skip (C.bnx (C.nx (U.start (U.pd 2 T (C.nx ?_)))))
 exact St.wk (C.next g) (Wk.e)
 refine C.exit (C.ex (C.ex (C.bex ?_)))
 exact St.wk (j6 _ g) (Wk.mk' [] rfl rfl trivial trivial rfl)
theorem Xm (s_1:List Int) (v:Int) (post:Bool→Prop) (g:Qr s_1 v post):
  Tr Tryz.prog 27 [.sl 1 eI s_1,.i v] [] 0 (pB post):=by
 refine Tr.go Tryz.func27 Tryz.ntmps27 fun _ _ _ _ o=>?_
 unfold Qr at g
 refine C.ss (U.pd 1 T (C.xt ?_))
 refine U.ps 2 T rfl (U.k (W8 s_1 v _ g) en66 (fun x5 g=>?_))
 refine U.pd 2 T (C.nx (C.ret ?_))
 exact C.f1 T o (pBi g)
theorem XE (s_1:List Int) (post:(List Int)→Prop) (g:QC s_1 post):
  Tr Tryz.prog 42 [.sl 1 eI s_1] [] 0 (fun A H' k=>∃y,post y∧A=(.o 0)∧H'=[(0,.val (.os 1 eI y))]∧k=1):=by
 refine Tr.go Tryz.func42 Tryz.ntmps42 fun _ _ _ _ o=>?_
 unfold QC at g
 refine C.ss (U.pd 1 T (C.xs (C.ss ?_)))
 refine U.ps 1 T rfl (U.e rfl (.none rfl) (by exact Eff.isnil T true rfl rfl rfl rfl rfl rfl (.inl ⟨.sl,rfl⟩) rfl) (fun b5' hhb5=>?_))
 obtain⟨b5⟩:=b5'
 replace g:=g b5 hhb5
 refine U.done (C.nx ?_)
 refine C.ite rfl g (fun b6 g=>?_) fun b6 g=>?_
 refine C.ss (U.pd 1 T (C.nx (C.ret (C.rt ?_))))
 exact C.g1 [none] T o ⟨[],g,rfl,rfl,rfl⟩
 refine C.skip (C.xt (U.bs T eI ([]:List Int) ?_))
 refine U.ps 1 T rfl ?_
 obtain⟨y11,g⟩:=g
 refine U.ap T y11 ?_
 refine U.pd 1 T (C.nx (C.ret ?_))
 exact C.g1 [some 1] T o ⟨(([]:List Int)++s_1),g,rfl,rfl,rfl⟩
theorem Gf (l:List (List Int)) (post:(List Int)→Prop) (g:KQ l post):
  Tr Tryz.prog 15 [.sl 1 eLeI l] [] 0 (fun A H' k=>∃y,post y∧A=(.o 0)∧H'=[(0,.val (.os 1 eI y))]∧k=1):=by
 refine Tr.go Tryz.func15 Tryz.ntmps15 fun _ _ _ _ o=>?_
 unfold KQ at g
 refine C.ss (U.pd 1 T (C.xt ?_))
 refine U.ps 1 T rfl (U.k (ZG l [] _ g) en38 (fun x5 g=>?_))
 refine U.pd 1 T (C.xt ?_)
 refine U.pd 1 T (C.xs (C.ss ?_))
 refine U.pd 3 T (C.nx ?_)
 refine C.jn (fun (x10:List Int)=>[(4,.o 0)]) (fun x10=>[(0,.val (.os 1 eI x10))]) 1 g (fun x10 g=>?_) fun J11 g j11=>?_
 refine C.xt (U.pd 2 T (C.nx (C.ret ?_)))
 exact C.g1 [some 0] T o ⟨x10,g,rfl,rfl,rfl⟩
 refine C.block ?_
 refine St.wk (C.loop (fun (s12:List Int×Int)=>[(0,.sl 1 eLeI l),(3,.i x5),(4,.o 0),(12,.sl 1 eLeI l),(13,.i (l.length:Int)),(14,.i s12.2)]) (fun s12=>[(0,.val (.os 1 eI s12.1))]) g (fun s12 Y13 g=>?_)) (Wk.mk' [none] rfl rfl ⟨⟨_,rfl,(.eq rfl)⟩,⟨_,rfl,(.eq rfl)⟩,⟨_,rfl,(.nilO _ _ ⟨rfl,rfl⟩ rfl)⟩,ChkG.eqs rfl⟩ ⟨⟨_,rfl,.nil _ _⟩,trivial⟩ rfl)
 refine C.ss (U.pd 1 T (C.xs ?_))
 refine C.ite rfl g (fun b16 g=>?_) fun b16 g=>?_
 refine C.skip (C.xs ?_)
 refine C.jn (fun (x17:List Int)=>[(0,.sl 1 eLeI l),(3,.i x5),(4,.o 0),(12,.sl 1 eLeI l),(13,.i (l.length:Int)),(14,.i s12.2)]) (fun x17=>[(0,.val (.os 1 eI x17))]) 1 g (fun x17 g=>?_) fun J18 g j18=>?_
 refine C.nx (U.start (U.pd 2 T (C.nx ?_)))
 exact St.wk (C.next g) (Wk.a [some 0])
 refine C.block (C.ss ?_)
 obtain⟨x21,y21,g⟩:=g
 refine U.ix T y21 ?_
 refine U.pd 2 T (C.xt ?_)
 refine U.pd 1 T (C.xs (C.ss ?_))
 refine U.ps 1 T rfl (U.e rfl (.none rfl) (by exact Eff.c [] (v:=false) (GQ x21 _ g) en41 rfl rfl rfl (.eq rfl) trivial rfl rfl rfl rfl rfl rfl (fun h=>by cases h) (.inr ⟨rfl,rfl⟩) (fun _=>rfl) (fun _=>rfl) rfl) (fun x26' g=>?_))
 obtain⟨x26⟩:=x26'
 refine U.k (KO x26 _ g) en40 fun x27 g=>?_
 refine U.c [some 2] (X1 x27 _ g) en39 fun x28 g=>?_
 refine U.pd 2 T (C.nx ?_)
 refine C.jn (fun (x29:Int)=>[(0,.sl 1 eLeI l),(3,.i x5),(4,.o 0),(7,.i x29),(12,.sl 1 eLeI l),(13,.i (l.length:Int)),(14,.i s12.2)]) (fun x29=>[(0,.val (.os 1 eI s12.1))]) 1 g (fun x29 g=>?_) fun J30 g j30=>?_
 refine C.nx (U.start (U.ps 2 T rfl (U.bs T eI ([x29]:List Int) ?_)))
 obtain⟨y53,g⟩:=g
 refine U.ap T y53 ?_
 refine U.pd 1 T (C.bnx ?_)
 exact St.wa [some 2] (j18 _ g)
 refine C.block (St.wk (C.loop (fun (s31:Int)=>[(0,.sl 1 eLeI l),(3,.i x5),(4,.o 0),(7,.i (-1)),(12,.sl 1 eLeI l),(13,.i (l.length:Int)),(14,.i s12.2),(21,.o 1),(22,.i (x28.length:Int)),(23,.i s31)]) (fun s31=>[(0,.val (.os 1 eI s12.1)),(1,.val (.os 1 eI x28))]) g (fun s31 Y32 g=>?_)) (Wk.a [some 0,some 4]))
 refine C.ss (U.pd 1 T (C.xs ?_))
 refine C.ite rfl g (fun b35 g=>?_) fun b35 g=>?_
 refine C.skip (C.xs (C.block (C.ss ?_)))
 obtain⟨x38,y38,g⟩:=g
 refine U.r rfl (.none rfl) rfl rfl (by exact Rd.io T rfl rfl rfl rfl rfl rfl rfl y38) ?_
 refine U.r rfl (.none rfl) rfl rfl (by exact Rd.le T rfl rfl rfl (Q9 y38).2.2 rfl rfl rfl) ?_
 refine U.pd 1 T (C.xs ?_)
 refine C.jn (fun (x39:Bool)=>[(0,.sl 1 eLeI l),(3,.i x5),(4,.o 0),(7,.i (-1)),(9,.i x38),(12,.sl 1 eLeI l),(13,.i (l.length:Int)),(14,.i s12.2),(21,.o 1),(22,.i (x28.length:Int)),(23,.i s31),(41,.b x39)]) (fun x39=>[(0,.val (.os 1 eI s12.1)),(1,.val (.os 1 eI x28))]) 2 g (fun x39 g=>?_) fun J40 g j40=>?_
 refine C.nx ?_
 refine C.ite rfl g (fun b46 g=>?_) fun b46 g=>?_
 refine C.ss (U.pd 2 T (C.nx (C.exit ?_)))
 refine C.bex' rfl ?_
 refine C.ex (C.ex (C.bex ?_))
 exact St.wa [some 0] (j30 _ g)
 refine C.skip (C.bnx (C.nx (U.start (U.pd 2 T (C.nx ?_)))))
 exact St.wk (C.next g) (Wk.a (idR 2))
 refine U.start (U.ps 2 T rfl (U.k (Xm s12.1 x38 _ g) en27 (fun x41 g=>?_)))
 refine U.ps 2 T rfl ?_
 refine g.cs (fun b42 g=>?_) fun b42 g=>?_
 refine U.sk' 9 4 true 31 (ntF b42) ?_
 refine U.pk' (ntF b42) ?_
 refine U.done ?_
 exact St.wa (idR 2) (j40 _ g)
 refine U.pq 2 4 true 31 (ntT b42) T ?_
 refine U.k (XE s12.1 _ g) en42 (fun x43 g=>?_) (hw:=.take 4 true 31 _ (ntT b42) rfl rfl rfl)
 refine U.pq 1 4 true 31 (ntT b42) T ?_
 refine U.e1 rfl (.tk 4 true 31 (ntT b42)) (by exact Eff1.bs T (enc:=eI) (xs:=([x38]:List Int)) rfl rfl rfl rfl rfl rfl rfl rfl rfl rfl (fun _ _=>rfl) rfl rfl) ?_
 obtain⟨y44,g⟩:=g
 refine U.e1 rfl (.tk 4 true 31 (ntT b42)) (by exact Eff1.ap T rfl rfl rfl rfl rfl rfl (.inr ⟨_,rfl,rfl⟩) rfl rfl rfl (fun _=>rfl) rfl y44) ?_
 refine U.k (ZG l (x43++([x38]:List Int)) _ g) en38 (fun x45 g=>?_) (hw:=.take 4 true 31 _ (ntT b42) rfl rfl rfl)
 refine U.pq 2 4 true 31 (ntT b42) T ?_
 refine U.pk (ntT b42) ?_
 refine U.done ?_
 exact St.wa (idR 2) (j40 _ g)
 refine C.exit (C.ex (C.ex (C.bex ?_)))
 exact St.wa [some 0] (j30 _ g)
 refine C.exit (C.ex (C.ex (C.bex ?_)))
 exact St.wa [some 0] (j11 _ g)
theorem Gr (s_1:List (List Int)) (post:(List (List Int))→Prop) (g:QF s_1 post):
  Tr Tryz.prog 44 [.sl 1 eLeI s_1] [] 0 (fun A H' k=>∃y,post y∧A=(.o 0)∧H'=[(0,.val (.os 1 eLeI y))]∧k=1):=by
 refine Tr.go Tryz.func44 Tryz.ntmps44 fun _ _ _ _ o=>?_
 unfold QF at g
 refine C.ss (U.pd 1 T (C.xs (C.ss ?_)))
 refine U.ps 1 T rfl (U.e rfl (.none rfl) (by exact Eff.isnil T true rfl rfl rfl rfl rfl rfl (.inl ⟨.sl,rfl⟩) rfl) (fun b5' hhb5=>?_))
 obtain⟨b5⟩:=b5'
 replace g:=g b5 hhb5
 refine U.done (C.nx ?_)
 refine C.ite rfl g (fun b6 g=>?_) fun b6 g=>?_
 refine C.ss (U.pd 1 T (C.nx (C.ret (C.rt ?_))))
 exact C.g1 [none] T o ⟨[],g,rfl,rfl,rfl⟩
 refine C.skip (C.xt (U.bs T eLeI ([]:List (List Int)) ?_))
 refine U.ps 1 T rfl ?_
 obtain⟨y11,g⟩:=g
 refine U.ap T y11 ?_
 refine U.pd 1 T (C.nx (C.ret ?_))
 exact C.g1 [some 1] T o ⟨(([]:List (List Int))++s_1),g,rfl,rfl,rfl⟩
theorem ZY (c:Int) (post:Bool→Prop) (g:Xo c post):
  Tr Tryz.prog 46 [.i c] [] 0 (pB post):=by
 refine Tr.go Tryz.func46 Tryz.ntmps46 fun _ _ _ _ o=>?_
 unfold Xo at g
 refine C.ss (U.pd 1 T (C.xt ?_))
 refine U.pd 3 T (C.nx (C.ret ?_))
 exact C.f1 T o (pBi g)
theorem X3 (s_1:List Int) (post:Int→Prop) (g:Qh s_1 post):
  Tr Tryz.prog 79 [.sl 1 eI s_1,.fn (.func 46) [] []] [] 0 (pI post):=by
 refine Tr.go Tryz.func79 Tryz.ntmps79 fun _ _ _ _ o=>?_
 unfold Qh at g
 refine C.ss (U.pd 1 T (C.xs (C.ss ?_)))
 refine U.pd 3 T (C.nx ?_)
 refine C.jn (fun (x5:Unit)=>[]) (fun x5=>[]) 0 g (fun x5 g=>?_) fun J6 g j6=>?_
 refine C.xt (U.pd 1 T (C.nx (C.ret ?_)))
 exact C.f1 T o (pIi g)
 refine C.block (St.wk (C.loop (fun (s7:Int)=>[(0,.sl 1 eI s_1),(1,.fn (.func 46) [] []),(7,.i (s_1.length:Int)),(8,.i s7)]) (fun s7=>[]) g (fun s7 Y8 g=>?_)) (Wk.e))
 refine C.ss (U.pd 1 T (C.xs ?_))
 refine C.ite rfl g (fun b11 g=>?_) fun b11 g=>?_
 refine C.skip (C.xs (C.block (C.ss (U.pd 2 T (C.xt ?_)))))
 refine U.ps 3 T rfl ?_
 obtain⟨x16,y16,g⟩:=g
 refine U.ix T y16 ?_
 refine U.ps 1 T rfl (U.k (ZY x16 _ g) en46 (fun x17 g=>?_))
 refine U.done (C.nx ?_)
 refine C.ite rfl g (fun b18 g=>?_) fun b18 g=>?_
 refine C.ss (U.pd 2 T (C.nx (C.ret (C.brt (C.rt (C.rt (C.brt (C.rt ?_))))))))
 exact C.f1 T o (pIi g)
 refine C.skip (C.bnx (C.nx (U.start (U.pd 2 T (C.nx ?_)))))
 exact St.wk (C.next g) (Wk.e)
 refine C.exit (C.ex (C.ex (C.bex ?_)))
 exact St.wk (j6 _ g) (Wk.mk' [] rfl rfl trivial trivial rfl)
theorem KR (s_1:List Int) (post:Bool→Prop) (g:Qc s_1 post):
  Tr Tryz.prog 45 [.sl 1 eI s_1,.fn (.func 46) [] []] [] 0 (pB post):=by
 refine Tr.go Tryz.func45 Tryz.ntmps45 fun _ _ _ _ o=>?_
 unfold Qc at g
 refine C.ss (U.pd 1 T (C.xt ?_))
 refine U.ps 2 T rfl (U.k (X3 s_1 _ g) en79 (fun x5 g=>?_))
 refine U.pd 2 T (C.nx (C.ret ?_))
 exact C.f1 T o (pBi g)
theorem Wp (l:List (List Int)) (post:(List (List Int))→Prop) (g:X9 l post):
  Tr Tryz.prog 17 [.sl 1 eLeI l] [] 0 (fun A H' k=>∃y,post y∧A=(.o 0)∧H'=[(0,.val (.os 1 eOeI y))]∧k=1):=by
 refine Tr.go Tryz.func17 Tryz.ntmps17 fun _ _ _ _ o=>?_
 unfold X9 at g
 refine C.ss (U.pd 1 T (C.xt ?_))
 refine U.ps 1 T rfl (U.e rfl (.none rfl) (by exact Eff.c [] (v:=false) (Gr l _ g) en44 rfl rfl rfl (.eq rfl) trivial rfl rfl rfl rfl rfl rfl (fun h=>by cases h) (.inr ⟨rfl,rfl⟩) (fun _=>rfl) (fun _=>rfl) rfl) (fun x5' g=>?_))
 obtain⟨x5⟩:=x5'
 refine U.pd 1 T (C.xt ?_)
 refine U.pd 1 T (C.nx (C.block ?_))
 refine St.wk (C.loop (fun (s10:List (List Int)×List (List Int))=>[(3,.o 0),(4,.o 1)]) (fun s10=>[(0,.val (.os 1 eLeI s10.1)),(1,.val (.os 1 eOeI s10.2))]) g (fun s10 Y11 g=>?_)) (Wk.mk' [some 0,none] rfl rfl ⟨⟨_,rfl,(.eq rfl)⟩,⟨_,rfl,(.nilO _ _ ⟨rfl,rfl⟩ rfl)⟩,trivial⟩ ⟨vL,⟨_,rfl,.nil _ _⟩,trivial⟩ rfl)
 refine C.jn (fun (x12:List (List Int)×List (List Int))=>[(3,.o 0),(4,.o 1)]) (fun x12=>[(0,.val (.os 1 eLeI x12.1)),(1,.val (.os 1 eOeI x12.2))]) 2 g (fun x12 g=>?_) fun J13 g j13=>?_
 refine C.nx ?_
 exact St.wk (C.next g) (Wk.a (idR 2))
 refine C.block (C.ss (U.ps 1 T rfl (U.k (Gf s10.1 _ g) en15 (fun x16 g=>?_))))
 refine U.pd 1 T (C.xs (C.ss ?_))
 refine U.ps 1 T rfl (U.k (KR x16 _ g) en45 (fun x19 g=>?_))
 refine U.pd 1 T (C.nx ?_)
 refine C.ite rfl g (fun b20 g=>?_) fun b20 g=>?_
 refine C.ss (U.pd 2 T (C.nx (C.ret (C.rt (C.brt (C.rt (C.brt ?_)))))))
 exact C.g1 [some 1] T o ⟨s10.2,g,rfl,rfl,rfl⟩
 refine C.skip (C.xs (C.ss (U.pd 3 T (C.nx ?_))))
 refine C.jn (fun (x25:List (List Int))=>[(3,.o 0),(4,.o 1),(5,.o 2)]) (fun x25=>[(0,.val (.os 1 eLeI x25)),(1,.val (.os 1 eOeI s10.2)),(2,.val (.os 1 eI x16))]) 3 g (fun x25 g=>?_) fun J26 g j26=>?_
 refine C.nx (U.start (U.ps 2 T rfl (U.e1 rfl (.none rfl) (by exact Eff1.bsl T (enc:=eOeI) x16 rfl rfl rfl rfl rfl rfl rfl rfl rfl) ?_)))
 obtain⟨y47,g⟩:=g
 refine U.e1 rfl (.none rfl) (by exact Eff1.apl T rfl rfl rfl rfl rfl rfl rfl (fun _=>rfl) rfl rfl rfl rfl ⟨_,rfl,rfl⟩ y47) ?_
 refine U.pd 1 T ?_
 refine St.putb (l:=4) (l':=2) (y:=x16) rfl rfl rfl (fun _ h=>nomatch h) rfl _ rfl ?_
 refine C.bnx ?_
 exact St.wa [some 0,some 4] (j13 _ g)
 refine C.block (St.wk (C.loop (fun (s27:List (List Int)×Int)=>[(3,.o 0),(4,.o 1),(5,.o 2),(16,.o 2),(17,.i (x16.length:Int)),(18,.i s27.2)]) (fun s27=>[(0,.val (.os 1 eLeI s27.1)),(1,.val (.os 1 eOeI s10.2)),(2,.val (.os 1 eI x16))]) g (fun s27 Y28 g=>?_)) (Wk.a (idR 3)))
 refine C.ss (U.pd 1 T (C.xs ?_))
 refine C.ite rfl g (fun b31 g=>?_) fun b31 g=>?_
 refine C.skip (C.xs (C.block (C.ss (U.ps 1 T rfl ?_))))
 obtain⟨x34,y34,g⟩:=g
 refine U.r rfl (.none rfl) rfl rfl (by exact Rd.io T rfl rfl rfl rfl rfl rfl rfl y34) ?_
 refine U.r rfl (.none rfl) rfl rfl (by exact Rd.le T rfl rfl rfl (Q9 y34).2.2 rfl rfl rfl) ?_
 refine U.pd 2 T (C.xt ?_)
 refine U.pd 2 T (C.nx ?_)
 refine C.jn (fun (x37:List (List Int))=>[(3,.o 0),(4,.o 1),(5,.o 2),(16,.o 2),(17,.i (x16.length:Int)),(18,.i s27.2)]) (fun x37=>[(0,.val (.os 1 eLeI x37)),(1,.val (.os 1 eOeI s10.2)),(2,.val (.os 1 eI x16))]) 3 g (fun x37 g=>?_) fun J38 g j38=>?_
 refine C.bnx (C.nx (U.start (U.pd 2 T (C.nx ?_))))
 exact St.wk (C.next g) (Wk.a (idR 3))
 refine C.ite rfl g (fun b39 g=>?_) fun b39 g=>?_
 refine U.start (U.ps 2 T rfl ?_)
 obtain⟨x42,y42,g⟩:=g
 refine U.r rfl (.none rfl) rfl rfl (by exact Rd.io T rfl rfl rfl rfl rfl rfl rfl y42) ?_
 refine U.e1 rfl (.none rfl) (by exact Eff1.seN T (z':=[]) rfl rfl rfl (Q9 y42).2.2 rfl rfl rfl rfl rfl rfl (.cons (.sl _ _) .nil) rfl (fun _=>rfl) rfl) ?_
 refine U.done ?_
 exact St.wa (idR 3) (j38 _ g)
 refine C.skip ?_
 exact St.wa (idR 3) (j38 _ g)
 refine C.exit (C.ex (C.ex (C.bex ?_)))
 exact St.wa (idR 3) (j26 _ g)
theorem Qu (a:List Int) (b:List Int) (post:Bool→Prop) (g:Q7 a b post):
  Tr Tryz.prog 9 [.sl 1 eI a,.sl 1 eI b] [] 0 (pB post):=by
 refine Tr.go Tryz.func9 Tryz.ntmps9 fun _ _ _ _ o=>?_
 unfold Q7 at g
 refine C.ss (U.pd 1 T (C.xs (C.ss ?_)))
 refine U.pd 5 T (C.nx ?_)
 refine C.ite rfl g (fun b5 g=>?_) fun b5 g=>?_
 refine C.ss (U.pd 1 T (C.nx (C.ret (C.rt ?_))))
 exact C.f1 T o (pBi g)
 refine C.skip (C.xs (C.ss (U.pd 1 T (C.nx ?_))))
 refine C.jn (fun (x10:Unit)=>[]) (fun x10=>[]) 0 g (fun x10 g=>?_) fun J11 g j11=>?_
 refine C.xt (U.pd 1 T (C.nx (C.ret ?_)))
 exact C.f1 T o (pBi g)
 refine C.block (St.wk (C.loop (fun (s12:Int)=>[(0,.sl 1 eI a),(1,.sl 1 eI b),(5,.i s12)]) (fun s12=>[]) g (fun s12 Y13 g=>?_)) (Wk.e))
 refine C.seq (C.ss (U.pd 4 T (C.nx ?_)))
 refine C.ite rfl g (fun b16 g=>?_) fun b16 g=>?_
 refine C.skip (C.xs (C.block (C.seq (D.bq mix 9999 [] [] (fun hQ hS ws M'=>?_)))))
 refine D.pq 2 (zl [0,1]) T ?_
 obtain⟨x19,y19,g⟩:=g
 refine D.ix 2 [] T y19 ?_
 refine D.pq 3 (zl [3,4,5]) T ?_
 obtain⟨x20,y20,g⟩:=g
 refine D.ix 6 [] T y20 ?_
 refine D.pq 2 (zl [7,8]) T ?_
 refine D.done (by kernel_rfl) ?_
 refine C.nx ?_
 refine C.ite rfl g (fun b21 g=>?_) fun b21 g=>?_
 refine C.ss (U.pd 1 T (C.nx (C.ret (C.brt (C.rt (C.rt (C.brt (C.rt ?_))))))))
 exact C.f1 T o (pBi g)
 refine C.skip (C.bnx (C.nx (U.start (U.pd 3 T (C.nx ?_)))))
 exact St.wk (C.next g) (Wk.e)
 refine C.exit (C.ex (C.ex (C.bex ?_)))
 exact St.wk (j11 _ g) (Wk.mk' [] rfl rfl trivial trivial rfl)
theorem Y3 (post:Bool→Prop) (g:Km post):
  Tr Tryz.prog 4 [] [] 0 (pB post):=by
 refine Tr.go Tryz.func4 Tryz.ntmps4 fun _ _ _ _ o=>?_
 unfold Km at g
 refine C.ss (U.pd 1 T (C.xt ?_))
 refine U.bs T eI ([5,9]:List Int) ?_
 refine U.bs T eI ([5]:List Int) ?_
 refine St.wk (Γ':=[(0,.b false),(5,.sl 1 eI ([5,9]:List Int)),(6,.sl 1 eI ([5]:List Int))]) (H':=[]) (nl':=0) ?_ (Wk.mk' [] rfl rfl ⟨⟨_,rfl,(.eq rfl)⟩,⟨_,rfl,(.fz rfl rfl rfl (.os fun _=>.cons (.ro rfl) .nil))⟩,⟨_,rfl,(.fz rfl rfl rfl (.os fun _=>.cons (.ro rfl) .nil))⟩,trivial⟩ trivial rfl)
 refine U.bs T eLeI ([([5,9]:List Int),([5]:List Int)]:List (List Int)) ?_
 refine U.k (Gf ([([5,9]:List Int),([5]:List Int)]:List (List Int)) _ g) en15 fun x5 g=>?_
 refine U.pd 1 T (C.xt ?_)
 refine U.bs T eI ([5,9]:List Int) ?_
 refine U.bs T eI ([5]:List Int) ?_
 refine U.bs T eI ([9]:List Int) ?_
 refine St.wk (Γ':=[(0,.b false),(1,.o 0),(5,.sl 1 eI ([5,9]:List Int)),(6,.sl 1 eI ([5]:List Int)),(7,.o 1),(8,.o 0),(9,.sl 1 eI ([5,9]:List Int)),(10,.sl 1 eI ([5]:List Int)),(11,.sl 1 eI ([9]:List Int))]) (H':=[(0,.val (.os 1 eI x5)),(1,.val (.os 1 eLeI ([([5,9]:List Int),([5]:List Int)]:List (List Int))))]) (nl':=2) ?_ (Wk.mk' [some 1,some 0] rfl rfl ⟨⟨_,rfl,(.eq rfl)⟩,⟨_,rfl,(.eq rfl)⟩,⟨_,rfl,(.eq rfl)⟩,⟨_,rfl,(.eq rfl)⟩,⟨_,rfl,(.eq rfl)⟩,⟨_,rfl,(.eq rfl)⟩,⟨_,rfl,(.fz rfl rfl rfl (.os fun _=>.cons (.ro rfl) .nil))⟩,⟨_,rfl,(.fz rfl rfl rfl (.os fun _=>.cons (.ro rfl) .nil))⟩,⟨_,rfl,(.fz rfl rfl rfl (.os fun _=>.cons (.ro rfl) .nil))⟩,trivial⟩ ⟨vL,vL,trivial⟩ rfl)
 refine U.bs T eLeI ([([5,9]:List Int),([5]:List Int),([9]:List Int)]:List (List Int)) ?_
 refine U.k (Gf ([([5,9]:List Int),([5]:List Int),([9]:List Int)]:List (List Int)) _ g) en15 fun x8 g=>?_
 refine U.pd 1 T (C.xt ?_)
 refine U.bs T eI ([5,9]:List Int) ?_
 refine U.bs T eI ([5]:List Int) ?_
 refine U.bs T eI ([9]:List Int) ?_
 refine St.wk (Γ':=[(0,.b false),(1,.o 0),(2,.o 1),(5,.sl 1 eI ([5,9]:List Int)),(6,.sl 1 eI ([5]:List Int)),(7,.o 2),(8,.o 0),(9,.sl 1 eI ([5,9]:List Int)),(10,.sl 1 eI ([5]:List Int)),(11,.sl 1 eI ([9]:List Int)),(12,.o 3),(13,.o 1),(14,.sl 1 eI ([5,9]:List Int)),(15,.sl 1 eI ([5]:List Int)),(16,.sl 1 eI ([9]:List Int))]) (H':=[(0,.val (.os 1 eI x5)),(1,.val (.os 1 eI x8)),(2,.val (.os 1 eLeI ([([5,9]:List Int),([5]:List Int)]:List (List Int)))),(3,.val (.os 1 eLeI ([([5,9]:List Int),([5]:List Int),([9]:List Int)]:List (List Int))))]) (nl':=4) ?_ (Wk.mk' [some 0,some 3,some 1,some 2] rfl rfl ⟨⟨_,rfl,(.eq rfl)⟩,⟨_,rfl,(.eq rfl)⟩,⟨_,rfl,(.eq rfl)⟩,⟨_,rfl,(.eq rfl)⟩,⟨_,rfl,(.eq rfl)⟩,⟨_,rfl,(.eq rfl)⟩,⟨_,rfl,(.eq rfl)⟩,⟨_,rfl,(.eq rfl)⟩,⟨_,rfl,(.eq rfl)⟩,⟨_,rfl,(.eq rfl)⟩,⟨_,rfl,(.eq rfl)⟩,⟨_,rfl,(.eq rfl)⟩,⟨_,rfl,(.fz rfl rfl rfl (.os fun _=>.cons (.ro rfl) .nil))⟩,⟨_,rfl,(.fz rfl rfl rfl (.os fun _=>.cons (.ro rfl) .nil))⟩,⟨_,rfl,(.fz rfl rfl rfl (.os fun _=>.cons (.ro rfl) .nil))⟩,trivial⟩ ⟨vL,vL,vL,vL,trivial⟩ rfl)
 refine U.bs T eLeI ([([5,9]:List Int),([5]:List Int),([9]:List Int)]:List (List Int)) ?_
 refine U.k (Wp ([([5,9]:List Int),([5]:List Int),([9]:List Int)]:List (List Int)) _ g) en17 fun x11 g=>?_
 refine U.pd 1 T (C.xt ?_)
 refine U.bs T eI ([5]:List Int) ?_
 refine U.bs T eI ([5]:List Int) ?_
 refine St.wk (Γ':=[(0,.b false),(1,.o 0),(2,.o 1),(3,.o 2),(5,.sl 1 eI ([5,9]:List Int)),(6,.sl 1 eI ([5]:List Int)),(7,.o 3),(8,.o 0),(9,.sl 1 eI ([5,9]:List Int)),(10,.sl 1 eI ([5]:List Int)),(11,.sl 1 eI ([9]:List Int)),(12,.o 4),(13,.o 1),(14,.sl 1 eI ([5,9]:List Int)),(15,.sl 1 eI ([5]:List Int)),(16,.sl 1 eI ([9]:List Int)),(17,.o 5),(18,.o 2),(19,.sl 1 eI ([5]:List Int)),(20,.sl 1 eI ([5]:List Int))]) (H':=[(0,.val (.os 1 eI x5)),(1,.val (.os 1 eI x8)),(2,.val (.os 1 eOeI x11)),(3,.val (.os 1 eLeI ([([5,9]:List Int),([5]:List Int)]:List (List Int)))),(4,.val (.os 1 eLeI ([([5,9]:List Int),([5]:List Int),([9]:List Int)]:List (List Int)))),(5,.val (.os 1 eLeI ([([5,9]:List Int),([5]:List Int),([9]:List Int)]:List (List Int))))]) (nl':=6) ?_ (Wk.mk' [some 0,some 1,some 5,some 2,some 3,some 4] rfl rfl ⟨⟨_,rfl,(.eq rfl)⟩,⟨_,rfl,(.eq rfl)⟩,⟨_,rfl,(.eq rfl)⟩,⟨_,rfl,(.eq rfl)⟩,⟨_,rfl,(.eq rfl)⟩,⟨_,rfl,(.eq rfl)⟩,⟨_,rfl,(.eq rfl)⟩,⟨_,rfl,(.eq rfl)⟩,⟨_,rfl,(.eq rfl)⟩,⟨_,rfl,(.eq rfl)⟩,⟨_,rfl,(.eq rfl)⟩,⟨_,rfl,(.eq rfl)⟩,⟨_,rfl,(.eq rfl)⟩,⟨_,rfl,(.eq rfl)⟩,⟨_,rfl,(.eq rfl)⟩,⟨_,rfl,(.eq rfl)⟩,⟨_,rfl,(.eq rfl)⟩,⟨_,rfl,(.eq rfl)⟩,⟨_,rfl,(.fz rfl rfl rfl (.os fun _=>.cons (.ro rfl) .nil))⟩,⟨_,rfl,(.fz rfl rfl rfl (.os fun _=>.cons (.ro rfl) .nil))⟩,trivial⟩ ⟨vL,vL,vL,vL,vL,vL,trivial⟩ rfl)
 refine U.e1 rfl (.none rfl) (by exact Eff1.re (A':=.os 1 eLeI ([([5]:List Int),[],([5]:List Int)]:List (List Int))) (Eff1.bs T (enc:=fun i:Nat=>([[.sl 1 eI ([5]:List Int)],[vN],[.sl 1 eI ([5]:List Int)]]:List (List AVal)).getD i []) (xs:=[0,1,2]) rfl rfl rfl rfl rfl rfl rfl rfl rfl rfl (fun y hy=>by simp at hy;(try rcases hy with rfl | rfl | rfl) <;> (try subst hy) <;> rfl) rfl rfl) (fun _ _ _ _ _ h=>((.cons (.cons (.refl _) .nil) (.cons (.cons (.sl _ _) .nil) (.cons (.cons (.refl _) .nil) .nil))):NlR _ _ _ _).on h)) ?_
 refine U.k (Wp ([([5]:List Int),[],([5]:List Int)]:List (List Int)) _ g) en17 fun x14 g=>?_
 refine U.pd 1 T (C.xs (C.seq ?_))
 refine C.jn (fun (x15:Bool)=>[(1,.o 0),(2,.o 1),(3,.o 2),(4,.o 3),(30,.b x15)]) (fun x15=>[(0,.val (.os 1 eI x5)),(1,.val (.os 1 eI x8)),(2,.val (.os 1 eOeI x11)),(3,.val (.os 1 eOeI x14))]) 4 g (fun x15 g=>?_) fun J16 g j16=>?_
 refine C.nx ?_
 refine C.ite rfl g (fun b18 g=>?_) fun b18 g=>?_
 refine C.ss (U.pd 1 T (C.nx (C.ret (C.rt ?_))))
 exact C.f1 T o (pBi g)
 refine C.skip (C.xs ?_)
 refine C.jn (fun (x21:Bool)=>[(0,.b x21)]) (fun x21=>[]) 0 g (fun x21 g=>?_) fun J22 g j22=>?_
 refine C.nx (C.ret ?_)
 exact C.f1 T o (pBi g)
 refine U.start (U.ps 1 T rfl (U.bs T eI ([9,5]:List Int) ?_))
 refine U.k (Qu x5 ([9,5]:List Int) _ g) en9 fun x23 g=>?_
 refine U.ps 1 T rfl ?_
 refine g.cs (fun b24 g=>?_) fun b24 g=>?_
 refine U.pq 1 3 true 34 b24 T ?_
 refine U.e1 rfl (.tk 3 true 34 b24) (by exact Eff1.bs T (enc:=eI) (xs:=([5,(-1),9]:List Int)) rfl rfl rfl rfl rfl rfl rfl rfl rfl rfl (fun _ _=>rfl) rfl rfl) ?_
 refine U.k (Qu x8 ([5,(-1),9]:List Int) _ g) en9 (fun x25 g=>?_) (hw:=.take 3 true 34 _ b24 rfl rfl rfl)
 refine U.pk b24 ?_
 refine U.ps 1 T rfl ?_
 refine g.cs (fun b26 g=>?_) fun b26 g=>?_
 refine U.pq 1 8 true 39 b26 T ?_
 obtain⟨x27,y27,g⟩:=g
 refine U.r rfl (.tk 8 true 39 b26) rfl rfl (by exact Rd.io T rfl rfl rfl rfl rfl rfl rfl y27) ?_
 refine St.lend (l:=2) (i:=(Int.toNat 0)) rfl (Q9 y27).2.2 rfl (fun _=>rfl) ?_
 refine U.r rfl (.tk 8 true 39 b26) rfl rfl (by exact Rd.ll T rfl rfl rfl (.head _) rfl rfl rfl rfl) ?_
 refine U.pq 1 8 true 39 b26 T ?_
 refine U.k (Qu x27 x8 _ g) en9 (fun x28 g=>?_) (hw:=.take 8 true 39 _ b26 rfl rfl rfl)
 refine U.pk b26 ?_
 refine U.ps 1 T rfl ?_
 refine g.cs (fun b29 g=>?_) fun b29 g=>?_
 refine U.pq 1 15 true 46 b29 T ?_
 obtain⟨x30,y30,g⟩:=g
 refine U.r rfl (.tk 15 true 46 b29) rfl rfl (by exact Rd.il T rfl rfl rfl rfl rfl rfl rfl y30) ?_
 obtain⟨y31,g⟩:=g
 refine St.lend2 (l:=2) (i:=(Int.toNat 1)) rfl (fun p hp=>by simp only [List.mem_singleton] at hp;subst hp;exact y31) (Q9 y30).2.2 rfl ?_
 refine U.r rfl (.tk 15 true 46 b29) rfl rfl (by exact Rd.ll T rfl rfl rfl (.head _) rfl rfl rfl rfl) ?_
 refine U.e1 rfl (.tk 15 true 46 b29) (by exact Eff1.bs T (enc:=eI) (xs:=([(-1),5,(-1)]:List Int)) rfl rfl rfl rfl rfl rfl rfl rfl rfl rfl (fun _ _=>rfl) rfl rfl) ?_
 refine U.k (Qu x30 ([(-1),5,(-1)]:List Int) _ g) en9 (fun x32 g=>?_) (hw:=.take 15 true 46 _ b29 rfl rfl rfl)
 refine U.pk b29 ?_
 refine U.ps 1 T rfl ?_
 refine g.cs (fun b33 g=>?_) fun b33 g=>?_
 refine U.pq 1 22 true 53 b33 T ?_
 obtain⟨x34,y34,g⟩:=g
 refine U.r rfl (.tk 22 true 53 b33) rfl rfl (by exact Rd.io T rfl rfl rfl rfl rfl rfl rfl y34) ?_
 refine St.lend (l:=3) (i:=(Int.toNat 0)) rfl (Q9 y34).2.2 rfl (fun _=>rfl) ?_
 refine U.r rfl (.tk 22 true 53 b33) rfl rfl (by exact Rd.ll T rfl rfl rfl (.head _) rfl rfl rfl rfl) ?_
 refine U.e1 rfl (.tk 22 true 53 b33) (by exact Eff1.bs T (enc:=eI) (xs:=([5,(-1),(-1)]:List Int)) rfl rfl rfl rfl rfl rfl rfl rfl rfl rfl (fun _ _=>rfl) rfl rfl) ?_
 refine U.k (Qu x34 ([5,(-1),(-1)]:List Int) _ g) en9 (fun x35 g=>?_) (hw:=.take 22 true 53 _ b33 rfl rfl rfl)
 refine U.pk b33 ?_
 refine U.ps 1 T rfl ?_
 refine g.cs (fun b36 g=>?_) fun b36 g=>?_
 refine U.pq 1 29 true 60 b36 T ?_
 obtain⟨x37,y37,g⟩:=g
 refine U.r rfl (.tk 29 true 60 b36) rfl rfl (by exact Rd.il T rfl rfl rfl rfl rfl rfl rfl y37) ?_
 obtain⟨y38,g⟩:=g
 refine St.lend2 (l:=3) (i:=(Int.toNat 1)) rfl (fun p hp=>by simp only [List.mem_singleton] at hp;subst hp;exact y38) (Q9 y37).2.2 rfl ?_
 refine U.r rfl (.tk 29 true 60 b36) rfl rfl (by exact Rd.ll T rfl rfl rfl (.head _) rfl rfl rfl rfl) ?_
 refine U.e1 rfl (.tk 29 true 60 b36) (by exact Eff1.bs T (enc:=eI) (xs:=([(-1),(-1),5]:List Int)) rfl rfl rfl rfl rfl rfl rfl rfl rfl rfl (fun _ _=>rfl) rfl rfl) ?_
 refine U.k (Qu x37 ([(-1),(-1),5]:List Int) _ g) en9 (fun x39 g=>?_) (hw:=.take 29 true 60 _ b36 rfl rfl rfl)
 refine U.pk b36 ?_
 refine U.pd 1 T ?_
 refine St.putb (l:=2) (l':=7) (y:=x30) rfl rfl rfl (fun p hp=>by simp only [List.mem_singleton] at hp;subst hp;exact y38) rfl _ rfl ?_
 refine St.putb (l:=2) (l':=6) (y:=x27) rfl rfl rfl (fun _ h=>nomatch h) rfl _ rfl ?_
 refine St.putb (l:=3) (l':=11) (y:=x37) rfl rfl rfl (fun p hp=>by simp only [List.mem_singleton] at hp;subst hp;exact y38) rfl _ rfl ?_
 refine St.putb (l:=3) (l':=9) (y:=x34) rfl rfl rfl (fun _ h=>nomatch h) rfl _ rfl ?_
 exact St.wn (j22 _ g)
 refine U.sk' 5 29 true 60 b36 ?_
 refine U.pk' b36 ?_
 refine U.pd 1 T ?_
 refine St.putb (l:=2) (l':=7) (y:=x30) rfl rfl rfl (fun p hp=>by simp only [List.mem_singleton] at hp;subst hp;exact y31) rfl _ rfl ?_
 refine St.putb (l:=2) (l':=6) (y:=x27) rfl rfl rfl (fun _ h=>nomatch h) rfl _ rfl ?_
 refine St.putb (l:=3) (l':=9) (y:=x34) rfl rfl rfl (fun _ h=>nomatch h) rfl _ rfl ?_
 exact St.wn (j22 _ g)
 refine U.sk' 5 22 true 53 b33 ?_
 refine U.pk' b33 ?_
 refine U.ps 1 T rfl (U.sk' 5 29 true 60 rfl ?_)
 refine U.pk' rfl ?_
 refine U.pd 1 T ?_
 refine St.putb (l:=2) (l':=7) (y:=x30) rfl rfl rfl (fun p hp=>by simp only [List.mem_singleton] at hp;subst hp;exact y31) rfl _ rfl ?_
 refine St.putb (l:=2) (l':=6) (y:=x27) rfl rfl rfl (fun _ h=>nomatch h) rfl _ rfl ?_
 exact St.wn (j22 _ g)
 refine U.sk' 5 15 true 46 b29 ?_
 refine U.pk' b29 ?_
 refine U.ps 1 T rfl (U.sk' 5 22 true 53 rfl ?_)
 refine U.pk' rfl ?_
 refine U.ps 1 T rfl (U.sk' 5 29 true 60 rfl ?_)
 refine U.pk' rfl ?_
 refine U.pd 1 T ?_
 refine St.putb (l:=2) (l':=6) (y:=x27) rfl rfl rfl (fun _ h=>nomatch h) rfl _ rfl ?_
 exact St.wn (j22 _ g)
 refine U.sk' 5 8 true 39 b26 ?_
 refine U.pk' b26 ?_
 refine U.ps 1 T rfl (U.sk' 5 15 true 46 rfl ?_)
 refine U.pk' rfl ?_
 refine U.ps 1 T rfl (U.sk' 5 22 true 53 rfl ?_)
 refine U.pk' rfl ?_
 refine U.ps 1 T rfl (U.sk' 5 29 true 60 rfl ?_)
 refine U.pk' rfl ?_
 refine U.pd 1 T ?_
 exact St.wn (j22 _ g)
 refine U.sk' 3 3 true 34 b24 ?_
 refine U.pk' b24 ?_
 refine U.ps 1 T rfl (U.sk' 5 8 true 39 rfl ?_)
 refine U.pk' rfl ?_
 refine U.ps 1 T rfl (U.sk' 5 15 true 46 rfl ?_)
 refine U.pk' rfl ?_
 refine U.ps 1 T rfl (U.sk' 5 22 true 53 rfl ?_)
 refine U.pk' rfl ?_
 refine U.ps 1 T rfl (U.sk' 5 29 true 60 rfl ?_)
 refine U.pk' rfl ?_
 refine U.pd 1 T ?_
 exact St.wn (j22 _ g)
 refine U.start (U.ps 4 T rfl ?_)
 refine g.cs (fun b17 g=>?_) fun b17 g=>?_
 refine U.sk' 3 3 false 26 b17 ?_
 refine U.pk b17 ?_
 refine U.done ?_
 exact St.wa [some 0,some 1,some 2,some 7] (j16 _ g)
 refine U.pq 3 3 false 26 b17 T ?_
 refine U.pk' b17 ?_
 refine U.done ?_
 exact St.wa [some 0,some 1,some 2,some 7] (j16 _ g)
theorem YU (f:ApiFloor) (n:Int) (post:Bool→Prop) (g:KH f n post):
  Tr Tryz.prog 47 [.agg (Qi f),.i n] [] 0 (pB post):=by
 refine Tr.go Tryz.func47 Tryz.ntmps47 fun _ _ _ _ o=>?_
 unfold KH at g
 refine C.ss (U.bx ?_)
 refine U.pd 1 T (C.xs ?_)
 refine C.jn (fun (x3:Bool)=>[(4,.b x3)]) (fun x3=>[]) 0 g (fun x3 g=>?_) fun J4 g j4=>?_
 refine C.nx (C.ret ?_)
 exact C.f1 T o (pBi g)
 refine U.start (U.ps 6 T rfl ?_)
 refine g.cs (fun b5 g=>?_) fun b5 g=>?_
 refine U.pq 5 5 true 10 b5 T ?_
 refine U.pk b5 ?_
 refine U.pd 1 T ?_
 exact St.wn (j4 _ g)
 refine U.sk' 5 5 true 10 b5 ?_
 refine U.pk' b5 ?_
 refine U.pd 1 T ?_
 exact St.wn (j4 _ g)
theorem YK (s_1:ApiSite) (cells:Int) (most:Int) (post:Bool→Prop) (g:KK s_1 cells most post):
  Tr Tryz.prog 19 [.agg (Q0 s_1),.i cells,.i most] [] 0 (pB post):=by
 refine Tr.go Tryz.func19 Tryz.ntmps19 fun _ _ _ _ o=>?_
 unfold KK at g
 refine C.ss (U.bx ?_)
 refine U.pd 1 T (C.xs (C.ss ?_))
 refine U.pd 1 T (C.nx ?_)
 refine C.jn (fun (x5:Unit)=>[(1,.i cells),(2,.i most),(3,.p 0 0)]) (fun x5=>[(0,.box (Q0 s_1))]) 1 g (fun x5 g=>?_) fun J6 g j6=>?_
 refine C.xs (C.ss (U.pd 1 T (C.nx ?_)))
 refine C.jn (fun (x25:Unit)=>[(1,.i cells),(2,.i most),(3,.p 0 0)]) (fun x25=>[(0,.box (Q0 s_1))]) 1 g (fun x25 g=>?_) fun J26 g j26=>?_
 refine C.xs (C.ss (U.pd 1 T (C.nx ?_)))
 refine C.jn (fun (x44:Unit)=>[(1,.i cells),(2,.i most),(3,.p 0 0)]) (fun x44=>[(0,.box (Q0 s_1))]) 1 g (fun x44 g=>?_) fun J45 g j45=>?_
 refine C.xs ?_
 refine C.jn (fun (x60:Bool)=>[(6,.b x60)]) (fun x60=>[]) 0 g (fun x60 g=>?_) fun J61 g j61=>?_
 refine C.nx (C.ret ?_)
 exact C.f1 T o (pBi g)
 refine U.start (U.ps 3 T rfl (U.k (YU s_1.Floor cells _ g) en47 (fun x62 g=>?_)))
 refine U.ps 1 T rfl ?_
 refine g.cs (fun b63 g=>?_) fun b63 g=>?_
 refine U.pq 5 4 true 105 b63 T ?_
 refine U.pk b63 ?_
 refine U.ps 1 T rfl ?_
 refine g.cs (fun b64 g=>?_) fun b64 g=>?_
 refine U.pq 5 11 true 112 b64 T ?_
 refine U.pk b64 ?_
 refine U.ps 1 T rfl ?_
 refine g.cs (fun b65 g=>?_) fun b65 g=>?_
 refine U.pq 5 18 true 119 b65 T ?_
 refine U.pk b65 ?_
 refine U.ps 1 T rfl ?_
 refine g.cs (fun b66 g=>?_) fun b66 g=>?_
 refine U.pq 5 25 true 126 b66 T ?_
 refine U.pk b66 ?_
 refine U.pd 1 T ?_
 exact St.wn (j61 _ g)
 refine U.sk' 5 25 true 126 b66 ?_
 refine U.pk' b66 ?_
 refine U.pd 1 T ?_
 exact St.wn (j61 _ g)
 refine U.sk' 5 18 true 119 b65 ?_
 refine U.pk' b65 ?_
 refine U.ps 1 T rfl (U.sk' 5 25 true 126 rfl ?_)
 refine U.pk' rfl ?_
 refine U.pd 1 T ?_
 exact St.wn (j61 _ g)
 refine U.sk' 5 11 true 112 b64 ?_
 refine U.pk' b64 ?_
 refine U.ps 1 T rfl (U.sk' 5 18 true 119 rfl ?_)
 refine U.pk' rfl ?_
 refine U.ps 1 T rfl (U.sk' 5 25 true 126 rfl ?_)
 refine U.pk' rfl ?_
 refine U.pd 1 T ?_
 exact St.wn (j61 _ g)
 refine U.sk' 5 4 true 105 b63 ?_
 refine U.pk' b63 ?_
 refine U.ps 1 T rfl (U.sk' 5 11 true 112 rfl ?_)
 refine U.pk' rfl ?_
 refine U.ps 1 T rfl (U.sk' 5 18 true 119 rfl ?_)
 refine U.pk' rfl ?_
 refine U.ps 1 T rfl (U.sk' 5 25 true 126 rfl ?_)
 refine U.pk' rfl ?_
 refine U.pd 1 T ?_
 exact St.wn (j61 _ g)
 refine C.block (St.wk (C.loop (fun (s46:Int)=>[(1,.i cells),(2,.i most),(3,.p 0 0),(9,.i s46)]) (fun s46=>[(0,.box (Q0 s_1))]) g (fun s46 Y47 g=>?_)) (Wk.a [some 0]))
 refine C.seq (C.seq ?_)
 refine C.jn (fun (x48:Bool)=>[(1,.i cells),(2,.i most),(3,.p 0 0),(9,.i s46),(90,.b x48)]) (fun x48=>[(0,.box (Q0 s_1))]) 1 g (fun x48 g=>?_) fun J49 g j49=>?_
 refine C.nx ?_
 refine C.ite rfl g (fun b51 g=>?_) fun b51 g=>?_
 refine C.skip (C.xs (C.block (C.ss (U.ps 3 T rfl ?_))))
 obtain⟨x54,y54,g⟩:=g
 refine U.ix T y54 ?_
 refine U.pd 4 T (C.nx ?_)
 refine C.ite rfl g (fun b55 g=>?_) fun b55 g=>?_
 refine C.ss (U.pd 1 T (C.nx (C.ret (C.brt (C.rt (C.rt (C.brt (C.rt ?_))))))))
 exact C.f1 T o (pBi g)
 refine C.skip (C.bnx (C.nx (U.start (U.pd 3 T (C.nx ?_)))))
 exact St.wk (C.next g) (Wk.a [some 0])
 refine C.exit (C.ex (C.ex (C.bex ?_)))
 exact St.wa [some 0] (j45 _ g)
 refine U.start (U.ps 6 T rfl ?_)
 refine g.cs (fun b50 g=>?_) fun b50 g=>?_
 refine U.pq 3 5 true 86 b50 T ?_
 refine U.pk b50 ?_
 refine U.done ?_
 exact St.wa [some 0] (j49 _ g)
 refine U.sk' 3 5 true 86 b50 ?_
 refine U.pk' b50 ?_
 refine U.done ?_
 exact St.wa [some 0] (j49 _ g)
 refine C.block (St.wk (C.loop (fun (s27:Int)=>[(1,.i cells),(2,.i most),(3,.p 0 0),(8,.i s27)]) (fun s27=>[(0,.box (Q0 s_1))]) g (fun s27 Y28 g=>?_)) (Wk.a [some 0]))
 refine C.seq (C.seq ?_)
 refine C.jn (fun (x29:Bool)=>[(1,.i cells),(2,.i most),(3,.p 0 0),(8,.i s27),(60,.b x29)]) (fun x29=>[(0,.box (Q0 s_1))]) 1 g (fun x29 g=>?_) fun J30 g j30=>?_
 refine C.nx ?_
 refine C.ite rfl g (fun b32 g=>?_) fun b32 g=>?_
 refine C.skip (C.xs (C.block (C.seq ?_)))
 refine C.jn (fun (x33:Bool)=>[(1,.i cells),(2,.i most),(3,.p 0 0),(8,.i s27),(80,.b x33)]) (fun x33=>[(0,.box (Q0 s_1))]) 1 g (fun x33 g=>?_) fun J34 g j34=>?_
 refine C.nx ?_
 refine C.ite rfl g (fun b37 g=>?_) fun b37 g=>?_
 refine C.ss (U.pd 1 T (C.nx (C.ret (C.brt (C.rt (C.rt (C.brt (C.rt ?_))))))))
 exact C.f1 T o (pBi g)
 refine C.skip (C.bnx (C.nx (U.start (U.pd 3 T (C.nx ?_)))))
 exact St.wk (C.next g) (Wk.a [some 0])
 refine U.start (U.ps 3 T rfl ?_)
 obtain⟨x35,y35,g⟩:=g
 refine U.ix T y35 ?_
 refine U.ps 5 T rfl ?_
 refine g.cs (fun b36 g=>?_) fun b36 g=>?_
 refine U.sk' 8 8 false 71 b36 ?_
 refine U.pk b36 ?_
 refine U.done ?_
 exact St.wa [some 0] (j34 _ g)
 refine U.pq 3 8 false 71 b36 T ?_
 refine U.r rfl (.tk 8 false 71 b36) rfl rfl (by exact Rd.ix T rfl rfl rfl rfl rfl rfl y35) ?_
 refine U.pq 4 8 false 71 b36 T ?_
 refine U.pk' b36 ?_
 refine U.done ?_
 exact St.wa [some 0] (j34 _ g)
 refine C.exit (C.ex (C.ex (C.bex ?_)))
 exact St.wa [some 0] (j26 _ g)
 refine U.start (U.ps 6 T rfl ?_)
 refine g.cs (fun b31 g=>?_) fun b31 g=>?_
 refine U.pq 3 5 true 56 b31 T ?_
 refine U.pk b31 ?_
 refine U.done ?_
 exact St.wa [some 0] (j30 _ g)
 refine U.sk' 3 5 true 56 b31 ?_
 refine U.pk' b31 ?_
 refine U.done ?_
 exact St.wa [some 0] (j30 _ g)
 refine C.block (St.wk (C.loop (fun (s7:Int)=>[(1,.i cells),(2,.i most),(3,.p 0 0),(7,.i s7)]) (fun s7=>[(0,.box (Q0 s_1))]) g (fun s7 Y8 g=>?_)) (Wk.a [some 0]))
 refine C.seq (C.seq ?_)
 refine C.jn (fun (x9:Bool)=>[(1,.i cells),(2,.i most),(3,.p 0 0),(7,.i s7),(19,.b x9)]) (fun x9=>[(0,.box (Q0 s_1))]) 1 g (fun x9 g=>?_) fun J10 g j10=>?_
 refine C.nx ?_
 refine C.ite rfl g (fun b12 g=>?_) fun b12 g=>?_
 refine C.skip (C.xs (C.block (C.seq ?_)))
 refine C.jn (fun (x13:Bool)=>[(1,.i cells),(2,.i most),(3,.p 0 0),(7,.i s7),(50,.b x13)]) (fun x13=>[(0,.box (Q0 s_1))]) 1 g (fun x13 g=>?_) fun J14 g j14=>?_
 refine C.nx ?_
 refine C.ite rfl g (fun b18 g=>?_) fun b18 g=>?_
 refine C.ss (U.pd 1 T (C.nx (C.ret (C.brt (C.rt (C.rt (C.brt (C.rt ?_))))))))
 exact C.f1 T o (pBi g)
 refine C.skip (C.bnx (C.nx (U.start (U.pd 3 T (C.nx ?_)))))
 exact St.wk (C.next g) (Wk.a [some 0])
 refine U.start (U.ps 3 T rfl ?_)
 obtain⟨x15,y15,g⟩:=g
 refine U.ix T y15 ?_
 refine U.ps 6 T rfl ?_
 refine g.cs (fun b16 g=>?_) fun b16 g=>?_
 refine U.sk' 8 9 false 31 b16 ?_
 refine U.pk b16 ?_
 refine U.ps 1 T rfl (U.sk' 8 19 false 41 rfl ?_)
 refine U.pk rfl ?_
 refine U.done ?_
 exact St.wa [some 0] (j14 _ g)
 refine U.pq 3 9 false 31 b16 T ?_
 refine U.r rfl (.tk 9 false 31 b16) rfl rfl (by exact Rd.ix T rfl rfl rfl rfl rfl rfl y15) ?_
 refine U.pq 4 9 false 31 b16 T ?_
 refine U.pk' b16 ?_
 refine U.ps 1 T rfl ?_
 refine g.cs (fun b17 g=>?_) fun b17 g=>?_
 refine U.sk' 8 19 false 41 b17 ?_
 refine U.pk b17 ?_
 refine U.done ?_
 exact St.wa [some 0] (j14 _ g)
 refine U.pq 3 19 false 41 b17 T ?_
 refine U.r rfl (.tk 19 false 41 b17) rfl rfl (by exact Rd.ix T rfl rfl rfl rfl rfl rfl y15) ?_
 refine U.pq 4 19 false 41 b17 T ?_
 refine U.pk' b17 ?_
 refine U.done ?_
 exact St.wa [some 0] (j14 _ g)
 refine C.exit (C.ex (C.ex (C.bex ?_)))
 exact St.wa [some 0] (j6 _ g)
 refine U.start (U.ps 6 T rfl ?_)
 refine g.cs (fun b11 g=>?_) fun b11 g=>?_
 refine U.pq 3 5 true 15 b11 T ?_
 refine U.pk b11 ?_
 refine U.done ?_
 exact St.wa [some 0] (j10 _ g)
 refine U.sk' 3 5 true 15 b11 ?_
 refine U.pk' b11 ?_
 refine U.done ?_
 exact St.wa [some 0] (j10 _ g)
theorem Yf (f:ApiFloor) (post:Bool→Prop) (g:Kx f post):
  Tr Tryz.prog 48 [.agg (Qi f)] [] 0 (pB post):=by
 refine Tr.go Tryz.func48 Tryz.ntmps48 fun _ _ _ _ o=>?_
 unfold Kx at g
 refine C.ss (U.bx ?_)
 refine U.pd 1 T (C.xs (C.seq ?_))
 refine C.jn (fun (x3:Bool)=>[(1,.p 0 0),(32,.b x3)]) (fun x3=>[(0,.box (Qi f))]) 1 g (fun x3 g=>?_) fun J4 g j4=>?_
 refine C.nx ?_
 refine C.ite rfl g (fun b10 g=>?_) fun b10 g=>?_
 refine C.ss (U.pd 1 T (C.nx (C.ret (C.rt ?_))))
 exact C.f1 T o (pBi g)
 refine C.skip (C.xt (U.pd 9 T (C.xs (C.seq ?_))))
 refine C.jn (fun (x15:Bool)=>[(1,.p 0 0),(3,.i (w64 ((w64 (f.W*f.H))*f.D))),(56,.b x15)]) (fun x15=>[(0,.box (Qi f))]) 1 g (fun x15 g=>?_) fun J16 g j16=>?_
 refine C.nx ?_
 refine C.ite rfl g (fun b19 g=>?_) fun b19 g=>?_
 refine C.ss (U.pd 1 T (C.nx (C.ret (C.rt ?_))))
 exact C.f1 T o (pBi g)
 refine C.skip (C.xs (C.ss (U.pd 1 T (C.nx ?_))))
 refine C.jn (fun (x24:Unit)=>[]) (fun x24=>[]) 0 g (fun x24 g=>?_) fun J25 g j25=>?_
 refine C.xt (U.pd 1 T (C.nx (C.ret ?_)))
 exact C.f1 T o (pBi g)
 refine C.block (St.wk (C.loop (fun (s26:Int)=>[(1,.p 0 0),(3,.i (w64 ((w64 (f.W*f.H))*f.D))),(4,.i s26)]) (fun s26=>[(0,.box (Qi f))]) g (fun s26 Y27 g=>?_)) (Wk.a [some 0]))
 refine C.seq (C.ss (U.pd 3 T (C.nx ?_)))
 refine C.ite rfl g (fun b30 g=>?_) fun b30 g=>?_
 refine C.skip (C.xs (C.block (C.seq ?_)))
 refine C.jn (fun (x31:Bool)=>[(1,.p 0 0),(3,.i (w64 ((w64 (f.W*f.H))*f.D))),(4,.i s26),(91,.b x31)]) (fun x31=>[(0,.box (Qi f))]) 1 g (fun x31 g=>?_) fun J32 g j32=>?_
 refine C.nx ?_
 refine C.ite rfl g (fun b38 g=>?_) fun b38 g=>?_
 refine C.ss (U.pd 1 T (C.nx (C.ret (C.brt (C.rt (C.rt (C.brt (C.rt ?_))))))))
 exact C.f1 T o (pBi g)
 refine C.skip (C.bnx (C.nx (U.start (U.pd 3 T (C.nx ?_)))))
 exact St.wk (C.next g) (Wk.a [some 0])
 refine U.start (U.ps 3 T rfl ?_)
 obtain⟨x33,y33,g⟩:=g
 refine U.ix T y33 ?_
 refine U.ps 3 T rfl ?_
 refine g.cs (fun b34 g=>?_) fun b34 g=>?_
 refine U.sk' 6 6 false 68 b34 ?_
 refine U.pk b34 ?_
 refine U.ps 1 T rfl (U.sk' 6 14 false 76 rfl ?_)
 refine U.pk rfl ?_
 refine U.ps 1 T rfl (U.sk' 6 22 false 84 rfl ?_)
 refine U.pk rfl ?_
 refine U.done ?_
 exact St.wa [some 0] (j32 _ g)
 refine U.pq 3 6 false 68 b34 T ?_
 refine U.r rfl (.tk 6 false 68 b34) rfl rfl (by exact Rd.ix T rfl rfl rfl rfl rfl rfl y33) ?_
 refine U.pq 2 6 false 68 b34 T ?_
 refine U.pk' b34 ?_
 refine U.ps 1 T rfl ?_
 refine g.cs (fun b35 g=>?_) fun b35 g=>?_
 refine U.sk' 6 14 false 76 b35 ?_
 refine U.pk b35 ?_
 refine U.ps 1 T rfl (U.sk' 6 22 false 84 rfl ?_)
 refine U.pk rfl ?_
 refine U.done ?_
 exact St.wa [some 0] (j32 _ g)
 refine U.pq 3 14 false 76 b35 T ?_
 obtain⟨x36,y36,g⟩:=g
 refine U.r rfl (.tk 14 false 76 b35) rfl rfl (by exact Rd.ix T rfl rfl rfl rfl rfl rfl y36) ?_
 refine U.pq 2 14 false 76 b35 T ?_
 refine U.pk' b35 ?_
 refine U.ps 1 T rfl ?_
 refine g.cs (fun b37 g=>?_) fun b37 g=>?_
 refine U.sk' 6 22 false 84 b37 ?_
 refine U.pk b37 ?_
 refine U.done ?_
 exact St.wa [some 0] (j32 _ g)
 refine U.pq 3 22 false 84 b37 T ?_
 refine U.r rfl (.tk 22 false 84 b37) rfl rfl (by exact Rd.ix T rfl rfl rfl rfl rfl rfl y36) ?_
 refine U.pq 2 22 false 84 b37 T ?_
 refine U.pk' b37 ?_
 refine U.done ?_
 exact St.wa [some 0] (j32 _ g)
 refine C.exit (C.ex (C.ex (C.bex ?_)))
 exact St.wk (j25 _ g) (Wk.mk' [] rfl rfl trivial trivial rfl)
 refine U.start (U.ps 3 T rfl ?_)
 refine g.cs (fun b17 g=>?_) fun b17 g=>?_
 refine U.sk' 5 2 false 43 b17 ?_
 refine U.pk b17 ?_
 refine U.ps 1 T rfl (U.sk' 5 9 false 50 rfl ?_)
 refine U.pk rfl ?_
 refine U.done ?_
 exact St.wa [some 0] (j16 _ g)
 refine U.pq 5 2 false 43 b17 T ?_
 refine U.pk' b17 ?_
 refine U.ps 1 T rfl ?_
 refine g.cs (fun b18 g=>?_) fun b18 g=>?_
 refine U.sk' 5 9 false 50 b18 ?_
 refine U.pk b18 ?_
 refine U.done ?_
 exact St.wa [some 0] (j16 _ g)
 refine U.pq 5 9 false 50 b18 T ?_
 refine U.pk' b18 ?_
 refine U.done ?_
 exact St.wa [some 0] (j16 _ g)
 refine U.start (U.ps 4 T rfl ?_)
 refine g.cs (fun b5 g=>?_) fun b5 g=>?_
 refine U.sk' 3 3 false 8 b5 ?_
 refine U.pk b5 ?_
 refine U.ps 1 T rfl (U.sk' 3 8 false 13 rfl ?_)
 refine U.pk rfl ?_
 refine U.ps 1 T rfl (U.sk' 3 13 false 18 rfl ?_)
 refine U.pk rfl ?_
 refine U.ps 1 T rfl (U.sk' 3 18 false 23 rfl ?_)
 refine U.pk rfl ?_
 refine U.ps 1 T rfl (U.sk' 3 23 false 28 rfl ?_)
 refine U.pk rfl ?_
 refine U.done ?_
 exact St.wa [some 0] (j4 _ g)
 refine U.pq 3 3 false 8 b5 T ?_
 refine U.pk' b5 ?_
 refine U.ps 1 T rfl ?_
 refine g.cs (fun b6 g=>?_) fun b6 g=>?_
 refine U.sk' 3 8 false 13 b6 ?_
 refine U.pk b6 ?_
 refine U.ps 1 T rfl (U.sk' 3 13 false 18 rfl ?_)
 refine U.pk rfl ?_
 refine U.ps 1 T rfl (U.sk' 3 18 false 23 rfl ?_)
 refine U.pk rfl ?_
 refine U.ps 1 T rfl (U.sk' 3 23 false 28 rfl ?_)
 refine U.pk rfl ?_
 refine U.done ?_
 exact St.wa [some 0] (j4 _ g)
 refine U.pq 3 8 false 13 b6 T ?_
 refine U.pk' b6 ?_
 refine U.ps 1 T rfl ?_
 refine g.cs (fun b7 g=>?_) fun b7 g=>?_
 refine U.sk' 3 13 false 18 b7 ?_
 refine U.pk b7 ?_
 refine U.ps 1 T rfl (U.sk' 3 18 false 23 rfl ?_)
 refine U.pk rfl ?_
 refine U.ps 1 T rfl (U.sk' 3 23 false 28 rfl ?_)
 refine U.pk rfl ?_
 refine U.done ?_
 exact St.wa [some 0] (j4 _ g)
 refine U.pq 3 13 false 18 b7 T ?_
 refine U.pk' b7 ?_
 refine U.ps 1 T rfl ?_
 refine g.cs (fun b8 g=>?_) fun b8 g=>?_
 refine U.sk' 3 18 false 23 b8 ?_
 refine U.pk b8 ?_
 refine U.ps 1 T rfl (U.sk' 3 23 false 28 rfl ?_)
 refine U.pk rfl ?_
 refine U.done ?_
 exact St.wa [some 0] (j4 _ g)
 refine U.pq 3 18 false 23 b8 T ?_
 refine U.pk' b8 ?_
 refine U.ps 1 T rfl ?_
 refine g.cs (fun b9 g=>?_) fun b9 g=>?_
 refine U.sk' 3 23 false 28 b9 ?_
 refine U.pk b9 ?_
 refine U.done ?_
 exact St.wa [some 0] (j4 _ g)
 refine U.pq 3 23 false 28 b9 T ?_
 refine U.pk' b9 ?_
 refine U.done ?_
 exact St.wa [some 0] (j4 _ g)
theorem X0 (s_1:ByteArray) (post:Bool→Prop) (g:Qy s_1 post):
  Tr Tryz.prog 50 [.v (.string s_1)] [] 0 (pB post):=by
 refine Tr.go Tryz.func50 Tryz.ntmps50 fun _ _ _ _ o=>?_
 unfold Qy at g
 refine C.ss (U.pd 1 T (C.xs (C.ss ?_)))
 refine U.pd 1 T (C.nx ?_)
 refine C.jn (fun (x5:Unit)=>[(0,.v (.string s_1))]) (fun x5=>[]) 0 g (fun x5 g=>?_) fun J6 g j6=>?_
 refine C.xs ?_
 refine C.jn (fun (x58:Bool)=>[(2,.b x58)]) (fun x58=>[]) 0 g (fun x58 g=>?_) fun J59 g j59=>?_
 refine C.nx (C.ret ?_)
 exact C.f1 T o (pBi g)
 refine U.start (U.ps 4 T rfl ?_)
 refine g.cs (fun b60 g=>?_) fun b60 g=>?_
 refine U.pq 3 3 true 57 b60 T ?_
 refine U.pk b60 ?_
 refine U.pd 1 T ?_
 exact St.wn (j59 _ g)
 refine U.sk' 3 3 true 57 b60 ?_
 refine U.pk' b60 ?_
 refine U.pd 1 T ?_
 exact St.wn (j59 _ g)
 refine C.block (St.wk (C.loop (fun (s7:Int)=>[(0,.v (.string s_1)),(3,.i s7)]) (fun s7=>[]) g (fun s7 Y8 g=>?_)) (Wk.e))
 refine C.seq (C.ss (U.pd 4 T (C.nx ?_)))
 refine C.ite rfl g (fun b11 g=>?_) fun b11 g=>?_
 refine C.skip (C.xs (C.block (C.ss (U.ps 2 T rfl ?_))))
 obtain⟨x14,y14,g⟩:=g
 refine U.r rfl (.none rfl) rfl rfl (by exact Rd.ib T rfl rfl rfl rfl y14) ?_
 refine U.pd 1 T (C.xs ?_)
 refine C.jn (fun (x15:Bool)=>[(0,.v (.string s_1)),(3,.i s7),(4,.v (.int .u8 (x14.toNat:Int))),(5,.b x15)]) (fun x15=>[]) 0 g (fun x15 g=>?_) fun J16 g j16=>?_
 refine C.xs ?_
 refine C.jn (fun (x18:Bool)=>[(0,.v (.string s_1)),(3,.i s7),(53,.b x18)]) (fun x18=>[]) 0 g (fun x18 g=>?_) fun J19 g j19=>?_
 refine C.nx ?_
 refine C.ite rfl g (fun b53 g=>?_) fun b53 g=>?_
 refine C.ss (U.pd 1 T (C.nx (C.ret (C.brt (C.rt (C.rt (C.brt (C.rt ?_))))))))
 exact C.f1 T o (pBi g)
 refine C.skip (C.bnx (C.nx (U.start (U.pd 3 T (C.nx ?_)))))
 exact St.wk (C.next g) (Wk.e)
 refine U.start (U.ps 3 T rfl ?_)
 refine g.cs (fun b20 g=>?_) fun b20 g=>?_
 refine U.pq 2 2 true 23 b20 T ?_
 refine U.pk b20 ?_
 refine U.ps 1 T rfl ?_
 refine g.cs (fun b21 g=>?_) fun b21 g=>?_
 refine U.sk' 3 6 false 27 b21 ?_
 refine U.sku 2 9 true 30 rfl rfl rfl ?_
 refine U.sk' 1 6 false 27 b21 ?_
 refine U.pk b21 ?_
 refine U.ps 1 T rfl (U.sk' 1 14 false 35 rfl ?_)
 refine U.pk rfl ?_
 refine U.ps 1 T rfl (U.sk' 2 17 false 38 rfl ?_)
 refine U.pk rfl ?_
 refine U.ps 1 T rfl (U.sk' 2 21 false 42 rfl ?_)
 refine U.pk rfl ?_
 refine U.ps 2 T rfl (U.pq 3 26 false 47 rfl T ?_)
 refine g.cs (fun b22 g=>?_) fun b22 g=>?_
 refine U.pq 1 29 true 50 b22 T ?_
 refine U.r rfl (.tk 26 false 47 rfl) rfl rfl (by exact Rd.pk rfl rfl b22 rfl) ?_
 refine U.pk' rfl ?_
 refine U.done ?_
 exact St.wn (j19 _ g)
 refine U.sk' 1 29 true 50 b22 ?_
 refine U.r rfl (.tk 26 false 47 rfl) rfl rfl (by exact Rd.pk' rfl rfl b22 rfl) ?_
 refine U.pk' rfl ?_
 refine U.done ?_
 exact St.wn (j19 _ g)
 refine U.pq 3 6 false 27 b21 T ?_
 refine g.cs (fun b23 g=>?_) fun b23 g=>?_
 refine U.pq 2 9 true 30 b23 T ?_
 refine U.r rfl (.tk 6 false 27 b21) rfl rfl (by exact Rd.pk rfl rfl b23 rfl) ?_
 refine U.pk' b21 ?_
 refine U.ps 1 T rfl ?_
 refine g.cs (fun b24 g=>?_) fun b24 g=>?_
 refine U.sk' 1 14 false 35 b24 ?_
 refine U.pk b24 ?_
 refine U.ps 1 T rfl (U.sk' 2 17 false 38 rfl ?_)
 refine U.pk rfl ?_
 refine U.ps 1 T rfl (U.sk' 2 21 false 42 rfl ?_)
 refine U.pk rfl ?_
 refine U.ps 2 T rfl (U.pq 3 26 false 47 rfl T ?_)
 refine g.cs (fun b25 g=>?_) fun b25 g=>?_
 refine U.pq 1 29 true 50 b25 T ?_
 refine U.r rfl (.tk 26 false 47 rfl) rfl rfl (by exact Rd.pk rfl rfl b25 rfl) ?_
 refine U.pk' rfl ?_
 refine U.done ?_
 exact St.wn (j19 _ g)
 refine U.sk' 1 29 true 50 b25 ?_
 refine U.r rfl (.tk 26 false 47 rfl) rfl rfl (by exact Rd.pk' rfl rfl b25 rfl) ?_
 refine U.pk' rfl ?_
 refine U.done ?_
 exact St.wn (j19 _ g)
 refine U.pq 1 14 false 35 b24 T ?_
 refine U.pk' b24 ?_
 refine U.ps 1 T rfl ?_
 refine g.cs (fun b26 g=>?_) fun b26 g=>?_
 refine U.sk' 2 17 false 38 b26 ?_
 refine U.pk b26 ?_
 refine U.ps 1 T rfl (U.sk' 2 21 false 42 rfl ?_)
 refine U.pk rfl ?_
 refine U.ps 2 T rfl (U.pq 3 26 false 47 rfl T ?_)
 refine g.cs (fun b27 g=>?_) fun b27 g=>?_
 refine U.pq 1 29 true 50 b27 T ?_
 refine U.r rfl (.tk 26 false 47 rfl) rfl rfl (by exact Rd.pk rfl rfl b27 rfl) ?_
 refine U.pk' rfl ?_
 refine U.done ?_
 exact St.wn (j19 _ g)
 refine U.sk' 1 29 true 50 b27 ?_
 refine U.r rfl (.tk 26 false 47 rfl) rfl rfl (by exact Rd.pk' rfl rfl b27 rfl) ?_
 refine U.pk' rfl ?_
 refine U.done ?_
 exact St.wn (j19 _ g)
 refine U.pq 2 17 false 38 b26 T ?_
 refine U.pk' b26 ?_
 refine U.ps 1 T rfl ?_
 refine g.cs (fun b28 g=>?_) fun b28 g=>?_
 refine U.sk' 2 21 false 42 b28 ?_
 refine U.pk b28 ?_
 refine U.ps 2 T rfl (U.pq 3 26 false 47 rfl T ?_)
 refine g.cs (fun b29 g=>?_) fun b29 g=>?_
 refine U.pq 1 29 true 50 b29 T ?_
 refine U.r rfl (.tk 26 false 47 rfl) rfl rfl (by exact Rd.pk rfl rfl b29 rfl) ?_
 refine U.pk' rfl ?_
 refine U.done ?_
 exact St.wn (j19 _ g)
 refine U.sk' 1 29 true 50 b29 ?_
 refine U.r rfl (.tk 26 false 47 rfl) rfl rfl (by exact Rd.pk' rfl rfl b29 rfl) ?_
 refine U.pk' rfl ?_
 refine U.done ?_
 exact St.wn (j19 _ g)
 refine U.pq 2 21 false 42 b28 T ?_
 refine U.pk' b28 ?_
 refine U.ps 2 T rfl ?_
 refine g.cs (fun b30 g=>?_) fun b30 g=>?_
 refine U.pq 3 26 false 47 (ntF b30) T ?_
 refine g.cs (fun b31 g=>?_) fun b31 g=>?_
 refine U.pq 1 29 true 50 b31 T ?_
 refine U.r rfl (.tk 26 false 47 (ntF b30)) rfl rfl (by exact Rd.pk rfl rfl b31 rfl) ?_
 refine U.pk' (ntF b30) ?_
 refine U.done ?_
 exact St.wn (j19 _ g)
 refine U.sk' 1 29 true 50 b31 ?_
 refine U.r rfl (.tk 26 false 47 (ntF b30)) rfl rfl (by exact Rd.pk' rfl rfl b31 rfl) ?_
 refine U.pk' (ntF b30) ?_
 refine U.done ?_
 exact St.wn (j19 _ g)
 refine U.sk' 3 26 false 47 (ntT b30) ?_
 refine U.sku 1 29 true 50 rfl rfl rfl ?_
 refine U.sk' 1 26 false 47 (ntT b30) ?_
 refine U.pk (ntT b30) ?_
 refine U.done ?_
 exact St.wn (j19 _ g)
 refine U.sk' 2 9 true 30 b23 ?_
 refine U.r rfl (.tk 6 false 27 b21) rfl rfl (by exact Rd.pk' rfl rfl b23 rfl) ?_
 refine U.pk' b21 ?_
 refine U.ps 1 T rfl (U.pq 1 14 false 35 rfl T ?_)
 refine U.pk' rfl ?_
 refine U.ps 1 T rfl ?_
 refine g.cs (fun b32 g=>?_) fun b32 g=>?_
 refine U.sk' 2 17 false 38 b32 ?_
 refine U.pk b32 ?_
 refine U.ps 1 T rfl (U.sk' 2 21 false 42 rfl ?_)
 refine U.pk rfl ?_
 refine U.ps 2 T rfl (U.pq 3 26 false 47 rfl T ?_)
 refine g.cs (fun b33 g=>?_) fun b33 g=>?_
 refine U.pq 1 29 true 50 b33 T ?_
 refine U.r rfl (.tk 26 false 47 rfl) rfl rfl (by exact Rd.pk rfl rfl b33 rfl) ?_
 refine U.pk' rfl ?_
 refine U.done ?_
 exact St.wn (j19 _ g)
 refine U.sk' 1 29 true 50 b33 ?_
 refine U.r rfl (.tk 26 false 47 rfl) rfl rfl (by exact Rd.pk' rfl rfl b33 rfl) ?_
 refine U.pk' rfl ?_
 refine U.done ?_
 exact St.wn (j19 _ g)
 refine U.pq 2 17 false 38 b32 T ?_
 refine U.pk' b32 ?_
 refine U.ps 1 T rfl ?_
 refine g.cs (fun b34 g=>?_) fun b34 g=>?_
 refine U.sk' 2 21 false 42 b34 ?_
 refine U.pk b34 ?_
 refine U.ps 2 T rfl (U.pq 3 26 false 47 rfl T ?_)
 refine g.cs (fun b35 g=>?_) fun b35 g=>?_
 refine U.pq 1 29 true 50 b35 T ?_
 refine U.r rfl (.tk 26 false 47 rfl) rfl rfl (by exact Rd.pk rfl rfl b35 rfl) ?_
 refine U.pk' rfl ?_
 refine U.done ?_
 exact St.wn (j19 _ g)
 refine U.sk' 1 29 true 50 b35 ?_
 refine U.r rfl (.tk 26 false 47 rfl) rfl rfl (by exact Rd.pk' rfl rfl b35 rfl) ?_
 refine U.pk' rfl ?_
 refine U.done ?_
 exact St.wn (j19 _ g)
 refine U.pq 2 21 false 42 b34 T ?_
 refine U.pk' b34 ?_
 refine U.ps 2 T rfl ?_
 refine g.cs (fun b36 g=>?_) fun b36 g=>?_
 refine U.pq 3 26 false 47 (ntF b36) T ?_
 refine g.cs (fun b37 g=>?_) fun b37 g=>?_
 refine U.pq 1 29 true 50 b37 T ?_
 refine U.r rfl (.tk 26 false 47 (ntF b36)) rfl rfl (by exact Rd.pk rfl rfl b37 rfl) ?_
 refine U.pk' (ntF b36) ?_
 refine U.done ?_
 exact St.wn (j19 _ g)
 refine U.sk' 1 29 true 50 b37 ?_
 refine U.r rfl (.tk 26 false 47 (ntF b36)) rfl rfl (by exact Rd.pk' rfl rfl b37 rfl) ?_
 refine U.pk' (ntF b36) ?_
 refine U.done ?_
 exact St.wn (j19 _ g)
 refine U.sk' 3 26 false 47 (ntT b36) ?_
 refine U.sku 1 29 true 50 rfl rfl rfl ?_
 refine U.sk' 1 26 false 47 (ntT b36) ?_
 refine U.pk (ntT b36) ?_
 refine U.done ?_
 exact St.wn (j19 _ g)
 refine U.sk' 2 2 true 23 b20 ?_
 refine U.pk' b20 ?_
 refine U.ps 1 T rfl (U.pq 3 6 false 27 rfl T ?_)
 refine g.cs (fun b38 g=>?_) fun b38 g=>?_
 refine U.pq 2 9 true 30 b38 T ?_
 refine U.r rfl (.tk 6 false 27 rfl) rfl rfl (by exact Rd.pk rfl rfl b38 rfl) ?_
 refine U.pk' rfl ?_
 refine U.ps 1 T rfl ?_
 refine g.cs (fun b39 g=>?_) fun b39 g=>?_
 refine U.sk' 1 14 false 35 b39 ?_
 refine U.pk b39 ?_
 refine U.ps 1 T rfl (U.sk' 2 17 false 38 rfl ?_)
 refine U.pk rfl ?_
 refine U.ps 1 T rfl (U.sk' 2 21 false 42 rfl ?_)
 refine U.pk rfl ?_
 refine U.ps 2 T rfl (U.pq 3 26 false 47 rfl T ?_)
 refine g.cs (fun b40 g=>?_) fun b40 g=>?_
 refine U.pq 1 29 true 50 b40 T ?_
 refine U.r rfl (.tk 26 false 47 rfl) rfl rfl (by exact Rd.pk rfl rfl b40 rfl) ?_
 refine U.pk' rfl ?_
 refine U.done ?_
 exact St.wn (j19 _ g)
 refine U.sk' 1 29 true 50 b40 ?_
 refine U.r rfl (.tk 26 false 47 rfl) rfl rfl (by exact Rd.pk' rfl rfl b40 rfl) ?_
 refine U.pk' rfl ?_
 refine U.done ?_
 exact St.wn (j19 _ g)
 refine U.pq 1 14 false 35 b39 T ?_
 refine U.pk' b39 ?_
 refine U.ps 1 T rfl ?_
 refine g.cs (fun b41 g=>?_) fun b41 g=>?_
 refine U.sk' 2 17 false 38 b41 ?_
 refine U.pk b41 ?_
 refine U.ps 1 T rfl (U.sk' 2 21 false 42 rfl ?_)
 refine U.pk rfl ?_
 refine U.ps 2 T rfl (U.pq 3 26 false 47 rfl T ?_)
 refine g.cs (fun b42 g=>?_) fun b42 g=>?_
 refine U.pq 1 29 true 50 b42 T ?_
 refine U.r rfl (.tk 26 false 47 rfl) rfl rfl (by exact Rd.pk rfl rfl b42 rfl) ?_
 refine U.pk' rfl ?_
 refine U.done ?_
 exact St.wn (j19 _ g)
 refine U.sk' 1 29 true 50 b42 ?_
 refine U.r rfl (.tk 26 false 47 rfl) rfl rfl (by exact Rd.pk' rfl rfl b42 rfl) ?_
 refine U.pk' rfl ?_
 refine U.done ?_
 exact St.wn (j19 _ g)
 refine U.pq 2 17 false 38 b41 T ?_
 refine U.pk' b41 ?_
 refine U.ps 1 T rfl ?_
 refine g.cs (fun b43 g=>?_) fun b43 g=>?_
 refine U.sk' 2 21 false 42 b43 ?_
 refine U.pk b43 ?_
 refine U.ps 2 T rfl (U.pq 3 26 false 47 rfl T ?_)
 refine g.cs (fun b44 g=>?_) fun b44 g=>?_
 refine U.pq 1 29 true 50 b44 T ?_
 refine U.r rfl (.tk 26 false 47 rfl) rfl rfl (by exact Rd.pk rfl rfl b44 rfl) ?_
 refine U.pk' rfl ?_
 refine U.done ?_
 exact St.wn (j19 _ g)
 refine U.sk' 1 29 true 50 b44 ?_
 refine U.r rfl (.tk 26 false 47 rfl) rfl rfl (by exact Rd.pk' rfl rfl b44 rfl) ?_
 refine U.pk' rfl ?_
 refine U.done ?_
 exact St.wn (j19 _ g)
 refine U.pq 2 21 false 42 b43 T ?_
 refine U.pk' b43 ?_
 refine U.ps 2 T rfl ?_
 refine g.cs (fun b45 g=>?_) fun b45 g=>?_
 refine U.pq 3 26 false 47 (ntF b45) T ?_
 refine g.cs (fun b46 g=>?_) fun b46 g=>?_
 refine U.pq 1 29 true 50 b46 T ?_
 refine U.r rfl (.tk 26 false 47 (ntF b45)) rfl rfl (by exact Rd.pk rfl rfl b46 rfl) ?_
 refine U.pk' (ntF b45) ?_
 refine U.done ?_
 exact St.wn (j19 _ g)
 refine U.sk' 1 29 true 50 b46 ?_
 refine U.r rfl (.tk 26 false 47 (ntF b45)) rfl rfl (by exact Rd.pk' rfl rfl b46 rfl) ?_
 refine U.pk' (ntF b45) ?_
 refine U.done ?_
 exact St.wn (j19 _ g)
 refine U.sk' 3 26 false 47 (ntT b45) ?_
 refine U.sku 1 29 true 50 rfl rfl rfl ?_
 refine U.sk' 1 26 false 47 (ntT b45) ?_
 refine U.pk (ntT b45) ?_
 refine U.done ?_
 exact St.wn (j19 _ g)
 refine U.sk' 2 9 true 30 b38 ?_
 refine U.r rfl (.tk 6 false 27 rfl) rfl rfl (by exact Rd.pk' rfl rfl b38 rfl) ?_
 refine U.pk' rfl ?_
 refine U.ps 1 T rfl (U.pq 1 14 false 35 rfl T ?_)
 refine U.pk' rfl ?_
 refine U.ps 1 T rfl ?_
 refine g.cs (fun b47 g=>?_) fun b47 g=>?_
 refine U.sk' 2 17 false 38 b47 ?_
 refine U.pk b47 ?_
 refine U.ps 1 T rfl (U.sk' 2 21 false 42 rfl ?_)
 refine U.pk rfl ?_
 refine U.ps 2 T rfl (U.pq 3 26 false 47 rfl T ?_)
 refine g.cs (fun b48 g=>?_) fun b48 g=>?_
 refine U.pq 1 29 true 50 b48 T ?_
 refine U.r rfl (.tk 26 false 47 rfl) rfl rfl (by exact Rd.pk rfl rfl b48 rfl) ?_
 refine U.pk' rfl ?_
 refine U.done ?_
 exact St.wn (j19 _ g)
 refine U.sk' 1 29 true 50 b48 ?_
 refine U.r rfl (.tk 26 false 47 rfl) rfl rfl (by exact Rd.pk' rfl rfl b48 rfl) ?_
 refine U.pk' rfl ?_
 refine U.done ?_
 exact St.wn (j19 _ g)
 refine U.pq 2 17 false 38 b47 T ?_
 refine U.pk' b47 ?_
 refine U.ps 1 T rfl ?_
 refine g.cs (fun b49 g=>?_) fun b49 g=>?_
 refine U.sk' 2 21 false 42 b49 ?_
 refine U.pk b49 ?_
 refine U.ps 2 T rfl (U.pq 3 26 false 47 rfl T ?_)
 refine g.cs (fun b50 g=>?_) fun b50 g=>?_
 refine U.pq 1 29 true 50 b50 T ?_
 refine U.r rfl (.tk 26 false 47 rfl) rfl rfl (by exact Rd.pk rfl rfl b50 rfl) ?_
 refine U.pk' rfl ?_
 refine U.done ?_
 exact St.wn (j19 _ g)
 refine U.sk' 1 29 true 50 b50 ?_
 refine U.r rfl (.tk 26 false 47 rfl) rfl rfl (by exact Rd.pk' rfl rfl b50 rfl) ?_
 refine U.pk' rfl ?_
 refine U.done ?_
 exact St.wn (j19 _ g)
 refine U.pq 2 21 false 42 b49 T ?_
 refine U.pk' b49 ?_
 refine U.ps 2 T rfl ?_
 refine g.cs (fun b51 g=>?_) fun b51 g=>?_
 refine U.pq 3 26 false 47 (ntF b51) T ?_
 refine g.cs (fun b52 g=>?_) fun b52 g=>?_
 refine U.pq 1 29 true 50 b52 T ?_
 refine U.r rfl (.tk 26 false 47 (ntF b51)) rfl rfl (by exact Rd.pk rfl rfl b52 rfl) ?_
 refine U.pk' (ntF b51) ?_
 refine U.done ?_
 exact St.wn (j19 _ g)
 refine U.sk' 1 29 true 50 b52 ?_
 refine U.r rfl (.tk 26 false 47 (ntF b51)) rfl rfl (by exact Rd.pk' rfl rfl b52 rfl) ?_
 refine U.pk' (ntF b51) ?_
 refine U.done ?_
 exact St.wn (j19 _ g)
 refine U.sk' 3 26 false 47 (ntT b51) ?_
 refine U.sku 1 29 true 50 rfl rfl rfl ?_
 refine U.sk' 1 26 false 47 (ntT b51) ?_
 refine U.pk (ntT b51) ?_
 refine U.done ?_
 exact St.wn (j19 _ g)
 refine U.start (U.ps 3 T rfl ?_)
 refine g.cs (fun b17 g=>?_) fun b17 g=>?_
 refine U.pq 2 2 true 17 b17 T ?_
 refine U.pk b17 ?_
 refine U.pd 1 T ?_
 exact St.wn (j16 _ g)
 refine U.sk' 2 2 true 17 b17 ?_
 refine U.pk' b17 ?_
 refine U.pd 1 T ?_
 exact St.wn (j16 _ g)
 refine C.exit (C.ex (C.ex (C.bex ?_)))
 exact St.wn (j6 _ g)
theorem Yh (l:List ApiZone) (name:ByteArray) (post:Int→Prop) (g:Kq l name post):
  Tr Tryz.prog 80 [.sl 5 Ki l,.v (.string name)] [] 0 (pI post):=by
 refine Tr.go Tryz.func80 Tryz.ntmps80 fun _ _ _ _ o=>?_
 unfold Kq at g
 refine C.ss (U.pd 1 T (C.xs (C.ss ?_)))
 refine U.pd 1 T (C.nx ?_)
 refine C.jn (fun (x5:Unit)=>[]) (fun x5=>[]) 0 g (fun x5 g=>?_) fun J6 g j6=>?_
 refine C.xt (U.pd 1 T (C.nx (C.ret ?_)))
 exact C.f1 T o (pIi g)
 refine C.block (St.wk (C.loop (fun (s7:Int)=>[(0,.sl 5 Ki l),(1,.v (.string name)),(5,.i s7)]) (fun s7=>[]) g (fun s7 Y8 g=>?_)) (Wk.e))
 refine C.seq (C.ss (U.pd 4 T (C.nx ?_)))
 refine C.ite rfl g (fun b11 g=>?_) fun b11 g=>?_
 refine C.skip (C.xs (C.block (C.ss (U.ps 2 T rfl ?_))))
 obtain⟨x14,y14,g⟩:=g
 refine U.ix T y14 ?_
 refine U.pd 4 T (C.nx ?_)
 refine C.ite rfl g (fun b15 g=>?_) fun b15 g=>?_
 refine C.ss (U.pd 2 T (C.nx (C.ret (C.brt (C.rt (C.rt (C.brt (C.rt ?_))))))))
 exact C.f1 T o (pIi g)
 refine C.skip (C.bnx (C.nx (U.start (U.pd 3 T (C.nx ?_)))))
 exact St.wk (C.next g) (Wk.e)
 refine C.exit (C.ex (C.ex (C.bex ?_)))
 exact St.wk (j6 _ g) (Wk.mk' [] rfl rfl trivial trivial rfl)
theorem WZ (l:List GY) (post:Bool→Prop) (g:Kv l post):
  Tr Tryz.prog 81 [.sl 2 W5 l] [] 0 (pB post):=by
 refine Tr.go Tryz.func81 Tryz.ntmps81 fun _ _ _ _ o=>?_
 unfold Kv at g
 refine C.ss (U.pd 1 T (C.xt ?_))
 refine U.pd 1 T (C.xs (C.ss ?_))
 refine U.pd 1 T (C.nx ?_)
 refine C.jn (fun (x7:Unit)=>[]) (fun x7=>[]) 0 g (fun x7 g=>?_) fun J8 g j8=>?_
 refine C.xt (U.pd 1 T (C.nx (C.ret ?_)))
 exact C.f1 T o (pBi g)
 refine C.block (St.wk (C.loop (fun (s9:Int×Int)=>[(0,.sl 2 W5 l),(3,.i s9.1),(4,.i s9.2)]) (fun s9=>[]) g (fun s9 Y10 g=>?_)) (Wk.e))
 refine C.seq (C.ss (U.pd 4 T (C.nx ?_)))
 refine C.ite rfl g (fun b13 g=>?_) fun b13 g=>?_
 refine C.skip (C.xs (C.block (C.seq (C.seq ?_))))
 refine C.jn (fun (x14:Bool)=>[(0,.sl 2 W5 l),(4,.i s9.2),(38,.b x14)]) (fun x14=>[]) 0 g (fun x14 g=>?_) fun J15 g j15=>?_
 refine C.nx ?_
 refine C.ite rfl g (fun b19 g=>?_) fun b19 g=>?_
 refine C.ss (U.pd 1 T (C.nx (C.ret (C.rt (C.brt (C.rt (C.rt (C.brt (C.rt ?_)))))))))
 exact C.f1 T o (pBi g)
 refine C.skip (C.nx (U.start (U.ps 2 T rfl ?_)))
 obtain⟨x24,y24,g⟩:=g
 refine U.ix T y24 ?_
 refine U.pd 3 T (C.bnx (C.nx (U.start ?_)))
 refine U.pd 3 T (C.nx ?_)
 exact St.wk (C.next g) (Wk.e)
 refine D.bq mix 9999 [] [] (fun hQ hS ws M'=>?_)
 refine D.pq 2 (zl [0,1]) T ?_
 obtain⟨x16,y16,g⟩:=g
 refine D.ix 2 [] T y16 ?_
 refine D.pq 5 (zl [3,4,5,6,7]) T ?_
 refine g.cs (fun b17 g=>?_) fun b17 g=>?_
 refine D.sz 8 [] 7 false 18 b17 ?_
 refine D.sz 9 [] 7 false 18 b17 ?_
 refine D.sz 10 [] 7 false 18 b17 ?_
 refine D.sz 11 [] 7 false 18 b17 ?_
 refine D.sz 12 [] 7 false 18 b17 ?_
 refine D.sz 13 [] 7 false 18 b17 ?_
 refine D.sz 14 [] 7 false 18 b17 ?_
 refine D.sz 15 [] 7 false 18 b17 ?_
 refine D.sz 16 [] 7 false 18 b17 ?_
 refine D.sz 17 [] 7 false 18 b17 ?_
 refine D.sz 18 [] 7 false 18 b17 ?_
 refine D.kt 19 [] b17 ?_
 refine D.pq 1 [(20,[])] T ?_
 refine D.sz 21 [] 20 false 31 rfl ?_
 refine D.sz 22 [] 20 false 31 rfl ?_
 refine D.sz 23 [] 20 false 31 rfl ?_
 refine D.sz 24 [] 20 false 31 rfl ?_
 refine D.sz 25 [] 20 false 31 rfl ?_
 refine D.sz 26 [] 20 false 31 rfl ?_
 refine D.kt 27 [] rfl ?_
 refine D.done (by kernel_rfl) ?_
 exact St.wn (j15 _ g)
 refine D.pt 8 [] 7 false 18 b17 T ?_
 refine D.pt 9 [] 7 false 18 b17 T ?_
 refine D.q 10 [] hQ hS rfl (.tk 7 false 18 b17) rfl rfl (by exact Rd.ix T rfl rfl rfl rfl rfl rfl y16) rfl (by kernel_rfl) ?_
 refine D.pt 11 [] 7 false 18 b17 T ?_
 refine D.q 12 [] hQ hS rfl (.tk 7 false 18 b17) rfl rfl (by exact Rd.l T rfl rfl rfl) rfl (by kernel_rfl) ?_
 refine D.pt 13 [] 7 false 18 b17 T ?_
 refine D.pt 14 [] 7 false 18 b17 T ?_
 refine D.q 15 [] hQ hS rfl (.tk 7 false 18 b17) rfl rfl (by exact Rd.ix T rfl rfl rfl rfl rfl rfl y16) rfl (by kernel_rfl) ?_
 refine D.pt 16 [] 7 false 18 b17 T ?_
 refine D.q 17 [] hQ hS rfl (.tk 7 false 18 b17) rfl rfl (by exact Rd.l T rfl rfl rfl) rfl (by kernel_rfl) ?_
 refine D.pt 18 [] 7 false 18 b17 T ?_
 refine D.kf 19 [] b17 ?_
 refine D.pq 1 [(20,[])] T ?_
 refine g.cs (fun b18 g=>?_) fun b18 g=>?_
 refine D.sz 21 [] 20 false 31 b18 ?_
 refine D.sz 22 [] 20 false 31 b18 ?_
 refine D.sz 23 [] 20 false 31 b18 ?_
 refine D.sz 24 [] 20 false 31 b18 ?_
 refine D.sz 25 [] 20 false 31 b18 ?_
 refine D.sz 26 [] 20 false 31 b18 ?_
 refine D.kt 27 [] b18 ?_
 refine D.done (by kernel_rfl) ?_
 exact St.wn (j15 _ g)
 refine D.pt 21 [] 20 false 31 b18 T ?_
 refine D.pt 22 [] 20 false 31 b18 T ?_
 refine D.q 23 [] hQ hS rfl (.tk 20 false 31 b18) rfl rfl (by exact Rd.ix T rfl rfl rfl rfl rfl rfl y16) rfl (by kernel_rfl) ?_
 refine D.pt 24 [] 20 false 31 b18 T ?_
 refine D.q 25 [] hQ hS rfl (.tk 20 false 31 b18) rfl rfl (by exact Rd.l T rfl rfl rfl) rfl (by kernel_rfl) ?_
 refine D.pt 26 [] 20 false 31 b18 T ?_
 refine D.kf 27 [] b18 ?_
 refine D.done (by kernel_rfl) ?_
 exact St.wn (j15 _ g)
 refine C.exit (C.ex (C.ex (C.bex ?_)))
 exact St.wk (j8 _ g) (Wk.mk' [] rfl rfl trivial trivial rfl)
theorem Gj (f:ApiFloor) (post:Int→Prop) (g:K8 f post):
  Tr Tryz.prog 29 [.agg (Qi f)] [] 0 (pI post):=by
 refine Tr.go Tryz.func29 Tryz.ntmps29 fun _ _ _ _ o=>?_
 unfold K8 at g
 refine C.ss (U.bx ?_)
 refine U.pd 1 T (C.xt ?_)
 refine U.pd 9 T (C.nx (C.ret ?_))
 exact C.f1 T o (pIi g)
theorem QU (f:ApiFloor) (c:Int) (post:Bool→Prop) (g:Qk f c post):
  Tr Tryz.prog 23 [.agg (Qi f),.i c] [] 0 (pB post):=by
 refine Tr.go Tryz.func23 Tryz.ntmps23 fun _ _ _ _ o=>?_
 unfold Qk at g
 refine C.ss (U.bx ?_)
 refine U.pd 1 T (C.xs ?_)
 refine C.jn (fun (x3:Bool)=>[(4,.b x3)]) (fun x3=>[]) 0 g (fun x3 g=>?_) fun J4 g j4=>?_
 refine C.nx (C.ret ?_)
 exact C.f1 T o (pBi g)
 refine U.start (U.ps 3 T rfl ?_)
 refine g.cs (fun b5 g=>?_) fun b5 g=>?_
 refine U.pq 2 2 true 7 b5 T ?_
 refine U.k (Gj f _ g) en29 (fun x6 g=>?_) (hw:=.take 2 true 7 _ b5 rfl rfl rfl)
 refine U.pq 1 2 true 7 b5 T ?_
 refine U.pk b5 ?_
 refine U.pd 1 T ?_
 exact St.wn (j4 _ g)
 refine U.sk' 4 2 true 7 b5 ?_
 refine U.pk' b5 ?_
 refine U.pd 1 T ?_
 exact St.wn (j4 _ g)
theorem Y1 (kind:Int) (post:Bool→Prop) (g:Kn kind post):
  Tr Tryz.prog 82 [.i kind] [] 0 (pB post):=by
 refine Tr.go Tryz.func82 Tryz.ntmps82 fun _ _ _ _ o=>?_
 unfold Kn at g
 refine C.ss (U.pd 1 T (C.xs ?_))
 refine C.jn (fun (x3:Bool)=>[(2,.b x3)]) (fun x3=>[]) 0 g (fun x3 g=>?_) fun J4 g j4=>?_
 refine C.nx (C.ret ?_)
 exact C.f1 T o (pBi g)
 refine U.start (U.ps 3 T rfl ?_)
 refine g.cs (fun b5 g=>?_) fun b5 g=>?_
 refine U.pq 2 2 true 5 b5 T ?_
 refine U.pk b5 ?_
 refine U.ps 1 T rfl ?_
 refine g.cs (fun b6 g=>?_) fun b6 g=>?_
 refine U.pq 2 6 true 9 b6 T ?_
 refine U.pk b6 ?_
 refine U.pd 1 T ?_
 exact St.wn (j4 _ g)
 refine U.sk' 2 6 true 9 b6 ?_
 refine U.pk' b6 ?_
 refine U.pd 1 T ?_
 exact St.wn (j4 _ g)
 refine U.sk' 2 2 true 5 b5 ?_
 refine U.pk' b5 ?_
 refine U.ps 1 T rfl (U.sk' 2 6 true 9 rfl ?_)
 refine U.pk' rfl ?_
 refine U.pd 1 T ?_
 exact St.wn (j4 _ g)
theorem Xe (l:List Int) (n:Int) (post:Bool→Prop) (g:Qx l n post):
  Tr Tryz.prog 32 [.sl 1 eI l,.i n] [] 0 (pB post):=by
 refine Tr.go Tryz.func32 Tryz.ntmps32 fun _ _ _ _ o=>?_
 unfold Qx at g
 refine C.ss (U.pd 1 T (C.xs (C.ss ?_)))
 refine U.pd 1 T (C.nx ?_)
 refine C.jn (fun (x5:Unit)=>[]) (fun x5=>[]) 0 g (fun x5 g=>?_) fun J6 g j6=>?_
 refine C.xt (U.pd 1 T (C.nx (C.ret ?_)))
 exact C.f1 T o (pBi g)
 refine C.block (St.wk (C.loop (fun (s7:Int)=>[(0,.sl 1 eI l),(1,.i n),(5,.i s7)]) (fun s7=>[]) g (fun s7 Y8 g=>?_)) (Wk.e))
 refine C.seq (C.ss (U.pd 4 T (C.nx ?_)))
 refine C.ite rfl g (fun b11 g=>?_) fun b11 g=>?_
 refine C.skip (C.xs (C.block (C.ss (U.ps 2 T rfl ?_))))
 obtain⟨x14,y14,g⟩:=g
 refine U.ix T y14 ?_
 refine U.pd 3 T (C.nx ?_)
 refine C.ite rfl g (fun b15 g=>?_) fun b15 g=>?_
 refine C.ss (U.pd 1 T (C.nx (C.ret (C.brt (C.rt (C.rt (C.brt (C.rt ?_))))))))
 exact C.f1 T o (pBi g)
 refine C.skip (C.bnx (C.nx (U.start (U.pd 3 T (C.nx ?_)))))
 exact St.wk (C.next g) (Wk.e)
 refine C.exit (C.ex (C.ex (C.bex ?_)))
 exact St.wk (j6 _ g) (Wk.mk' [] rfl rfl trivial trivial rfl)
theorem WG (l:List ApiZone) (c:Int) (post:Bool→Prop) (g:Kb l c post):
  Tr Tryz.prog 83 [.sl 5 Ki l,.i c] [] 0 (pB post):=by
 refine Tr.go Tryz.func83 Tryz.ntmps83 fun _ _ _ _ o=>?_
 unfold Kb at g
 refine C.ss (U.pd 1 T (C.xs (C.ss ?_)))
 refine U.pd 1 T (C.nx ?_)
 refine C.jn (fun (x5:Unit)=>[]) (fun x5=>[]) 0 g (fun x5 g=>?_) fun J6 g j6=>?_
 refine C.xt (U.pd 1 T (C.nx (C.ret ?_)))
 exact C.f1 T o (pBi g)
 refine C.block (St.wk (C.loop (fun (s7:Int)=>[(0,.sl 5 Ki l),(1,.i c),(5,.i s7)]) (fun s7=>[]) g (fun s7 Y8 g=>?_)) (Wk.e))
 refine C.seq (C.ss (U.pd 4 T (C.nx ?_)))
 refine C.ite rfl g (fun b11 g=>?_) fun b11 g=>?_
 refine C.skip (C.xs (C.block (C.ss (U.ps 2 T rfl ?_))))
 obtain⟨x14,y14,g⟩:=g
 refine U.ix T y14 ?_
 refine U.ps 3 T rfl (U.k (Xe x14.Cells c _ g) en32 (fun x15 g=>?_))
 refine U.done (C.nx ?_)
 refine C.ite rfl g (fun b16 g=>?_) fun b16 g=>?_
 refine C.ss (U.pd 1 T (C.nx (C.ret (C.brt (C.rt (C.rt (C.brt (C.rt ?_))))))))
 exact C.f1 T o (pBi g)
 refine C.skip (C.bnx (C.nx (U.start (U.pd 3 T (C.nx ?_)))))
 exact St.wk (C.next g) (Wk.e)
 refine C.exit (C.ex (C.ex (C.bex ?_)))
 exact St.wk (j6 _ g) (Wk.mk' [] rfl rfl trivial trivial rfl)
theorem Gs (s_1:ApiSite) (post:Bool→Prop) (g:QJ s_1 post):
  Tr Tryz.prog 49 [.agg (Q0 s_1)] [] 0 (pB post):=by
 refine Tr.go Tryz.func49 Tryz.ntmps49 fun _ _ _ _ o=>?_
 unfold QJ at g
 refine C.ss (U.bx ?_)
 refine U.pd 1 T (C.xs (C.ss ?_))
 refine U.pd 1 T (C.nx ?_)
 refine C.jn (fun (x5:Unit)=>[(1,.p 0 0)]) (fun x5=>[(0,.box (Q0 s_1))]) 1 g (fun x5 g=>?_) fun J6 g j6=>?_
 refine C.xt (U.pd 5 T (C.nx (C.ret ?_)))
 exact C.f1 T o (pBi g)
 refine C.block (St.wk (C.loop (fun (s7:Int)=>[(1,.p 0 0),(3,.i s7)]) (fun s7=>[(0,.box (Q0 s_1))]) g (fun s7 Y8 g=>?_)) (Wk.a [some 0]))
 refine C.seq (C.ss (U.pd 5 T (C.nx ?_)))
 refine C.ite rfl g (fun b11 g=>?_) fun b11 g=>?_
 refine C.skip (C.xs ?_)
 refine C.jn (fun (x12:Unit)=>[(1,.p 0 0),(3,.i s7)]) (fun x12=>[(0,.box (Q0 s_1))]) 1 g (fun x12 g=>?_) fun J13 g j13=>?_
 refine C.nx (U.start (U.pd 3 T (C.nx ?_)))
 exact St.wk (C.next g) (Wk.a [some 0])
 refine C.block (C.ss (U.ps 3 T rfl ?_))
 obtain⟨x16,y16,g⟩:=g
 refine U.ix T y16 ?_
 refine U.ps 1 T rfl (U.al T ?_)
 refine U.st T ?_
 refine U.done (C.xs (C.seq ?_))
 refine C.jn (fun (x17:Bool)=>[(1,.p 0 0),(3,.i s7),(4,.p 1 0),(59,.b x17)]) (fun x17=>[(0,.box (Q0 s_1)),(1,.box (Ki x16))]) 2 g (fun x17 g=>?_) fun J18 g j18=>?_
 refine C.nx ?_
 refine C.ite rfl g (fun b29 g=>?_) fun b29 g=>?_
 refine C.ss (U.pd 1 T (C.nx (C.ret (C.rt (C.brt (C.rt (C.rt (C.brt (C.rt ?_)))))))))
 exact C.f1 T o (pBi g)
 refine C.skip (C.xt (U.pd 1 T (C.nx ?_)))
 refine C.jn (fun (x34:Unit)=>[(1,.p 0 0),(3,.i s7)]) (fun x34=>[(0,.box (Q0 s_1))]) 1 g (fun x34 g=>?_) fun J35 g j35=>?_
 refine C.bnx ?_
 exact St.wa [some 0] (j13 _ g)
 refine C.block (St.wk (C.loop (fun (s36:Int)=>[(1,.p 0 0),(3,.i s7),(4,.p 1 0),(5,.i s36)]) (fun s36=>[(0,.box (Q0 s_1)),(1,.box (Ki x16))]) g (fun s36 Y37 g=>?_)) (Wk.a (idR 2)))
 refine C.seq (C.ss (U.pd 5 T (C.nx ?_)))
 refine C.ite rfl g (fun b40 g=>?_) fun b40 g=>?_
 refine C.skip (C.xs (C.block (C.ss (U.ps 3 T rfl ?_))))
 obtain⟨x43,y43,g⟩:=g
 refine U.ix T y43 ?_
 refine U.pd 2 T (C.xs (C.seq ?_))
 refine C.jn (fun (x44:Bool)=>[(1,.p 0 0),(3,.i s7),(4,.p 1 0),(5,.i s36),(6,.i x43),(91,.b x44)]) (fun x44=>[(0,.box (Q0 s_1)),(1,.box (Ki x16))]) 2 g (fun x44 g=>?_) fun J45 g j45=>?_
 refine C.nx ?_
 refine C.ite rfl g (fun b50 g=>?_) fun b50 g=>?_
 refine C.ss (U.pd 1 T (C.nx (C.ret (C.rt (C.brt (C.rt (C.rt (C.brt (C.brt (C.rt (C.rt (C.brt (C.rt ?_)))))))))))))
 exact C.f1 T o (pBi g)
 refine C.skip (C.xs ?_)
 refine C.jn (fun (x53:Bool)=>[(1,.p 0 0),(3,.i s7),(4,.p 1 0),(5,.i s36),(107,.b x53)]) (fun x53=>[(0,.box (Q0 s_1)),(1,.box (Ki x16))]) 2 g (fun x53 g=>?_) fun J54 g j54=>?_
 refine C.nx ?_
 refine C.ite rfl g (fun b60 g=>?_) fun b60 g=>?_
 refine C.ss (U.pd 1 T (C.nx (C.ret (C.brt (C.rt (C.rt (C.brt (C.brt (C.rt (C.rt (C.brt (C.rt ?_))))))))))))
 exact C.f1 T o (pBi g)
 refine C.skip (C.bnx (C.nx (U.start (U.pd 3 T (C.nx ?_)))))
 exact St.wk (C.next g) (Wk.a (idR 2))
 refine U.start (U.ps 4 T rfl ?_)
 obtain⟨x55,y55,g⟩:=g
 refine U.ix T y55 ?_
 refine U.ps 1 T rfl (U.k (Y1 x55 _ g) en82 (fun x56 g=>?_))
 refine U.ps 2 T rfl ?_
 refine g.cs (fun b57 g=>?_) fun b57 g=>?_
 refine U.pq 3 8 false 100 (ntF b57) T ?_
 obtain⟨y58,g⟩:=g
 refine U.r rfl (.tk 8 false 100 (ntF b57)) rfl rfl (by exact Rd.so T rfl rfl rfl rfl rfl (.none _) (.some _ rfl) y58) ?_
 refine U.pq 1 8 false 100 (ntF b57) T ?_
 refine U.k (WG (sub s_1.Zones 0 s7) x43 _ g) en83 (fun x59 g=>?_) (hw:=.take 8 false 100 _ (ntF b57) rfl rfl rfl)
 refine U.pk' (ntF b57) ?_
 refine U.done ?_
 exact St.wa (idR 2) (j54 _ g)
 refine U.sk' 6 8 false 100 (ntT b57) ?_
 refine U.pk (ntT b57) ?_
 refine U.done ?_
 exact St.wa (idR 2) (j54 _ g)
 refine U.start (U.ps 3 T rfl (U.k (QU s_1.Floor x43 _ g) en23 (fun x46 g=>?_)))
 refine U.ps 2 T rfl ?_
 refine g.cs (fun b47 g=>?_) fun b47 g=>?_
 refine U.pq 3 5 false 77 (ntF b47) T ?_
 refine g.cs (fun b48 g=>?_) fun b48 g=>?_
 refine U.pq 5 8 true 80 b48 T ?_
 obtain⟨x49,y49,g⟩:=g
 refine U.r rfl (.tk 8 true 80 b48) rfl rfl (by exact Rd.ix T rfl rfl rfl rfl rfl rfl y49) ?_
 refine U.pq 3 8 true 80 b48 T ?_
 refine U.r rfl (.tk 5 false 77 (ntF b47)) rfl rfl (by exact Rd.pk rfl rfl b48 rfl) ?_
 refine U.pk' (ntF b47) ?_
 refine U.done ?_
 exact St.wa (idR 2) (j45 _ g)
 refine U.sk' 9 8 true 80 b48 ?_
 refine U.r rfl (.tk 5 false 77 (ntF b47)) rfl rfl (by exact Rd.pk' rfl rfl b48 rfl) ?_
 refine U.pk' (ntF b47) ?_
 refine U.done ?_
 exact St.wa (idR 2) (j45 _ g)
 refine U.sk' 3 5 false 77 (ntT b47) ?_
 refine U.sku 9 8 true 80 rfl rfl rfl ?_
 refine U.sk' 1 5 false 77 (ntT b47) ?_
 refine U.pk (ntT b47) ?_
 refine U.done ?_
 exact St.wa (idR 2) (j45 _ g)
 refine C.exit (C.ex (C.ex (C.bex ?_)))
 exact St.wa [some 0] (j35 _ g)
 refine D.bq mix 9999 [0,1] [] (fun hQ hS ws M'=>?_)
 refine D.pq 2 (zl [0,1]) T ?_
 refine D.k 2 (X0 x16.Name _ g) en50 fun x19 g=>?_
 refine D.pq 2 (zl [3,4]) T ?_
 refine g.cs (fun b20 g=>?_) fun b20 g=>?_
 refine D.pt 5 [] 4 false 23 (ntF b20) T ?_
 refine D.q 6 [] hQ hS rfl (.tk 4 false 23 (ntF b20)) rfl rfl (by exact Rd.l T rfl rfl rfl) rfl (by kernel_rfl) ?_
 refine D.pt 7 [] 4 false 23 (ntF b20) T ?_
 obtain⟨y21,g⟩:=g
 refine D.q 8 [] hQ hS rfl (.tk 4 false 23 (ntF b20)) rfl rfl (by exact Rd.so T rfl rfl rfl rfl rfl (.none _) (.some _ rfl) y21) rfl (by kernel_rfl) ?_
 refine D.pt 9 [] 4 false 23 (ntF b20) T ?_
 refine D.q 10 [] hQ hS rfl (.tk 4 false 23 (ntF b20)) rfl rfl (by exact Rd.l T rfl rfl rfl) rfl (by kernel_rfl) ?_
 refine D.k 11 (Yh (sub s_1.Zones 0 s7) x16.Name _ g) en80 (fun x22 g=>?_) (hw:=.take 4 false 23 _ (ntF b20) rfl rfl rfl)
 refine D.pt 12 [] 4 false 23 (ntF b20) T ?_
 refine D.kf 13 [] (ntF b20) ?_
 refine D.pq 1 [(14,[])] T ?_
 refine g.cs (fun b23 g=>?_) fun b23 g=>?_
 refine D.sz 15 [] 14 false 33 b23 ?_
 refine D.sz 16 [] 14 false 33 b23 ?_
 refine D.sz 17 [] 14 false 33 b23 ?_
 refine D.sz 18 [] 14 false 33 b23 ?_
 refine D.kt 19 [] b23 ?_
 refine D.pq 1 [(20,[])] T ?_
 refine D.sz 21 [] 20 false 39 rfl ?_
 refine D.sz 22 [] 20 false 39 rfl ?_
 refine D.sz 23 [] 20 false 39 rfl ?_
 refine D.kt 24 [] rfl ?_
 refine D.pq 1 [(25,[])] T ?_
 refine D.sz 26 [] 25 false 44 rfl ?_
 refine D.sz 27 [] 25 false 44 rfl ?_
 refine D.sz 28 [] 25 false 44 rfl ?_
 refine D.kt 29 [] rfl ?_
 refine D.pq 1 [(30,[])] T ?_
 refine D.sz 31 [] 30 false 49 rfl ?_
 refine D.sz 32 [] 30 false 49 rfl ?_
 refine D.sz 33 [] 30 false 49 rfl ?_
 refine D.kt 34 [] rfl ?_
 refine D.pq 1 [(35,[])] T ?_
 refine D.sz 36 [] 35 false 54 rfl ?_
 refine D.sz 37 [] 35 false 54 rfl ?_
 refine D.sz 38 [] 35 false 54 rfl ?_
 refine D.sz 39 [] 35 false 54 rfl ?_
 refine D.kt 40 [] rfl ?_
 refine D.done (by kernel_rfl) ?_
 exact St.wa (idR 2) (j18 _ g)
 refine D.pt 15 [] 14 false 33 b23 T ?_
 refine D.q 16 [] hQ hS rfl (.tk 14 false 33 b23) rfl rfl (by exact Rd.l T rfl rfl rfl) rfl (by kernel_rfl) ?_
 refine D.pt 17 [] 14 false 33 b23 T ?_
 refine D.pt 18 [] 14 false 33 b23 T ?_
 refine D.kf 19 [] b23 ?_
 refine D.pq 1 [(20,[])] T ?_
 refine g.cs (fun b24 g=>?_) fun b24 g=>?_
 refine D.sz 21 [] 20 false 39 b24 ?_
 refine D.sz 22 [] 20 false 39 b24 ?_
 refine D.sz 23 [] 20 false 39 b24 ?_
 refine D.kt 24 [] b24 ?_
 refine D.pq 1 [(25,[])] T ?_
 refine D.sz 26 [] 25 false 44 rfl ?_
 refine D.sz 27 [] 25 false 44 rfl ?_
 refine D.sz 28 [] 25 false 44 rfl ?_
 refine D.kt 29 [] rfl ?_
 refine D.pq 1 [(30,[])] T ?_
 refine D.sz 31 [] 30 false 49 rfl ?_
 refine D.sz 32 [] 30 false 49 rfl ?_
 refine D.sz 33 [] 30 false 49 rfl ?_
 refine D.kt 34 [] rfl ?_
 refine D.pq 1 [(35,[])] T ?_
 refine D.sz 36 [] 35 false 54 rfl ?_
 refine D.sz 37 [] 35 false 54 rfl ?_
 refine D.sz 38 [] 35 false 54 rfl ?_
 refine D.sz 39 [] 35 false 54 rfl ?_
 refine D.kt 40 [] rfl ?_
 refine D.done (by kernel_rfl) ?_
 exact St.wa (idR 2) (j18 _ g)
 refine D.pt 21 [] 20 false 39 b24 T ?_
 refine D.q 22 [] hQ hS rfl (.tk 20 false 39 b24) rfl rfl (by exact Rd.l T rfl rfl rfl) rfl (by kernel_rfl) ?_
 refine D.pt 23 [] 20 false 39 b24 T ?_
 refine D.kf 24 [] b24 ?_
 refine D.pq 1 [(25,[])] T ?_
 refine g.cs (fun b25 g=>?_) fun b25 g=>?_
 refine D.sz 26 [] 25 false 44 b25 ?_
 refine D.sz 27 [] 25 false 44 b25 ?_
 refine D.sz 28 [] 25 false 44 b25 ?_
 refine D.kt 29 [] b25 ?_
 refine D.pq 1 [(30,[])] T ?_
 refine D.sz 31 [] 30 false 49 rfl ?_
 refine D.sz 32 [] 30 false 49 rfl ?_
 refine D.sz 33 [] 30 false 49 rfl ?_
 refine D.kt 34 [] rfl ?_
 refine D.pq 1 [(35,[])] T ?_
 refine D.sz 36 [] 35 false 54 rfl ?_
 refine D.sz 37 [] 35 false 54 rfl ?_
 refine D.sz 38 [] 35 false 54 rfl ?_
 refine D.sz 39 [] 35 false 54 rfl ?_
 refine D.kt 40 [] rfl ?_
 refine D.done (by kernel_rfl) ?_
 exact St.wa (idR 2) (j18 _ g)
 refine D.pt 26 [] 25 false 44 b25 T ?_
 refine D.q 27 [] hQ hS rfl (.tk 25 false 44 b25) rfl rfl (by exact Rd.l T rfl rfl rfl) rfl (by kernel_rfl) ?_
 refine D.pt 28 [] 25 false 44 b25 T ?_
 refine D.kf 29 [] b25 ?_
 refine D.pq 1 [(30,[])] T ?_
 refine g.cs (fun b26 g=>?_) fun b26 g=>?_
 refine D.sz 31 [] 30 false 49 b26 ?_
 refine D.sz 32 [] 30 false 49 b26 ?_
 refine D.sz 33 [] 30 false 49 b26 ?_
 refine D.kt 34 [] b26 ?_
 refine D.pq 1 [(35,[])] T ?_
 refine D.sz 36 [] 35 false 54 rfl ?_
 refine D.sz 37 [] 35 false 54 rfl ?_
 refine D.sz 38 [] 35 false 54 rfl ?_
 refine D.sz 39 [] 35 false 54 rfl ?_
 refine D.kt 40 [] rfl ?_
 refine D.done (by kernel_rfl) ?_
 exact St.wa (idR 2) (j18 _ g)
 refine D.pt 31 [] 30 false 49 b26 T ?_
 refine D.q 32 [] hQ hS rfl (.tk 30 false 49 b26) rfl rfl (by exact Rd.l T rfl rfl rfl) rfl (by kernel_rfl) ?_
 refine D.pt 33 [] 30 false 49 b26 T ?_
 refine D.kf 34 [] b26 ?_
 refine D.pq 1 [(35,[])] T ?_
 refine g.cs (fun b27 g=>?_) fun b27 g=>?_
 refine D.sz 36 [] 35 false 54 b27 ?_
 refine D.sz 37 [] 35 false 54 b27 ?_
 refine D.sz 38 [] 35 false 54 b27 ?_
 refine D.sz 39 [] 35 false 54 b27 ?_
 refine D.kt 40 [] b27 ?_
 refine D.done (by kernel_rfl) ?_
 exact St.wa (idR 2) (j18 _ g)
 refine D.pt 36 [] 35 false 54 b27 T ?_
 refine D.q 37 [] hQ hS rfl (.tk 35 false 54 b27) rfl rfl (by exact Rd.l T rfl rfl rfl) rfl (by kernel_rfl) ?_
 refine D.k 38 (WZ x16.Shut _ g) en81 (fun x28 g=>?_) (hw:=.take 35 false 54 _ b27 rfl rfl rfl)
 refine D.pt 39 [] 35 false 54 b27 T ?_
 refine D.kf 40 [] b27 ?_
 refine D.done (by kernel_rfl) ?_
 exact St.wa (idR 2) (j18 _ g)
 refine D.sz 5 [] 4 false 23 (ntT b20) ?_
 refine D.sz 6 [] 4 false 23 (ntT b20) ?_
 refine D.sz 7 [] 4 false 23 (ntT b20) ?_
 refine D.sz 8 [] 4 false 23 (ntT b20) ?_
 refine D.sz 9 [] 4 false 23 (ntT b20) ?_
 refine D.sz 10 [] 4 false 23 (ntT b20) ?_
 refine D.sz 11 [] 4 false 23 (ntT b20) ?_
 refine D.sz 12 [] 4 false 23 (ntT b20) ?_
 refine D.kt 13 [] (ntT b20) ?_
 refine D.pq 1 [(14,[])] T ?_
 refine D.sz 15 [] 14 false 33 rfl ?_
 refine D.sz 16 [] 14 false 33 rfl ?_
 refine D.sz 17 [] 14 false 33 rfl ?_
 refine D.sz 18 [] 14 false 33 rfl ?_
 refine D.kt 19 [] rfl ?_
 refine D.pq 1 [(20,[])] T ?_
 refine D.sz 21 [] 20 false 39 rfl ?_
 refine D.sz 22 [] 20 false 39 rfl ?_
 refine D.sz 23 [] 20 false 39 rfl ?_
 refine D.kt 24 [] rfl ?_
 refine D.pq 1 [(25,[])] T ?_
 refine D.sz 26 [] 25 false 44 rfl ?_
 refine D.sz 27 [] 25 false 44 rfl ?_
 refine D.sz 28 [] 25 false 44 rfl ?_
 refine D.kt 29 [] rfl ?_
 refine D.pq 1 [(30,[])] T ?_
 refine D.sz 31 [] 30 false 49 rfl ?_
 refine D.sz 32 [] 30 false 49 rfl ?_
 refine D.sz 33 [] 30 false 49 rfl ?_
 refine D.kt 34 [] rfl ?_
 refine D.pq 1 [(35,[])] T ?_
 refine D.sz 36 [] 35 false 54 rfl ?_
 refine D.sz 37 [] 35 false 54 rfl ?_
 refine D.sz 38 [] 35 false 54 rfl ?_
 refine D.sz 39 [] 35 false 54 rfl ?_
 refine D.kt 40 [] rfl ?_
 refine D.done (by kernel_rfl) ?_
 exact St.wa (idR 2) (j18 _ g)
 refine C.exit (C.ex (C.ex (C.bex ?_)))
 exact St.wa [some 0] (j6 _ g)
theorem XZ (l:List ApiApart) (a:ByteArray) (b:ByteArray) (post:Bool→Prop) (g:K0 l a b post):
  Tr Tryz.prog 51 [.sl 2 XM l,.v (.string a),.v (.string b)] [] 0 (pB post):=by
 refine Tr.go Tryz.func51 Tryz.ntmps51 fun _ _ _ _ o=>?_
 unfold K0 at g
 refine C.ss (U.pd 1 T (C.xs (C.ss ?_)))
 refine U.pd 1 T (C.nx ?_)
 refine C.jn (fun (x5:Unit)=>[]) (fun x5=>[]) 0 g (fun x5 g=>?_) fun J6 g j6=>?_
 refine C.xt (U.pd 1 T (C.nx (C.ret ?_)))
 exact C.f1 T o (pBi g)
 refine C.block (St.wk (C.loop (fun (s7:Int)=>[(0,.sl 2 XM l),(1,.v (.string a)),(2,.v (.string b)),(7,.i s7)]) (fun s7=>[]) g (fun s7 Y8 g=>?_)) (Wk.e))
 refine C.seq (C.seq ?_)
 refine C.jn (fun (x9:Bool)=>[(0,.sl 2 XM l),(1,.v (.string a)),(2,.v (.string b)),(7,.i s7),(19,.b x9)]) (fun x9=>[]) 0 g (fun x9 g=>?_) fun J10 g j10=>?_
 refine C.nx ?_
 refine C.ite rfl g (fun b13 g=>?_) fun b13 g=>?_
 refine C.skip (C.xs (C.block (C.seq ?_)))
 refine C.jn (fun (x14:Bool)=>[(0,.sl 2 XM l),(1,.v (.string a)),(2,.v (.string b)),(7,.i s7),(55,.b x14)]) (fun x14=>[]) 0 g (fun x14 g=>?_) fun J15 g j15=>?_
 refine C.nx ?_
 refine C.ite rfl g (fun b21 g=>?_) fun b21 g=>?_
 refine C.ss (U.pd 1 T (C.nx (C.ret (C.brt (C.rt (C.rt (C.brt (C.rt ?_))))))))
 exact C.f1 T o (pBi g)
 refine C.skip (C.bnx (C.nx (U.start (U.pd 3 T (C.nx ?_)))))
 exact St.wk (C.next g) (Wk.e)
 refine U.start (U.ps 2 T rfl ?_)
 obtain⟨x16,y16,g⟩:=g
 refine U.ix T y16 ?_
 refine U.ps 5 T rfl ?_
 refine g.cs (fun b17 g=>?_) fun b17 g=>?_
 refine U.pq 2 7 true 29 b17 T ?_
 refine U.r rfl (.tk 7 true 29 b17) rfl rfl (by exact Rd.ix T rfl rfl rfl rfl rfl rfl y16) ?_
 refine U.pq 4 7 true 29 b17 T ?_
 refine U.pk b17 ?_
 refine U.ps 1 T rfl ?_
 refine g.cs (fun b18 g=>?_) fun b18 g=>?_
 refine U.sk' 8 16 false 38 b18 ?_
 refine U.sku 7 24 true 46 rfl rfl rfl ?_
 refine U.sk' 1 16 false 38 b18 ?_
 refine U.pk b18 ?_
 refine U.done ?_
 exact St.wn (j15 _ g)
 refine U.pq 2 16 false 38 b18 T ?_
 refine U.r rfl (.tk 16 false 38 b18) rfl rfl (by exact Rd.ix T rfl rfl rfl rfl rfl rfl y16) ?_
 refine U.pq 5 16 false 38 b18 T ?_
 refine g.cs (fun b19 g=>?_) fun b19 g=>?_
 refine U.pq 2 24 true 46 b19 T ?_
 refine U.r rfl (.tk 24 true 46 b19) rfl rfl (by exact Rd.ix T rfl rfl rfl rfl rfl rfl y16) ?_
 refine U.pq 4 24 true 46 b19 T ?_
 refine U.r rfl (.tk 16 false 38 b18) rfl rfl (by exact Rd.pk rfl rfl b19 rfl) ?_
 refine U.pk' b18 ?_
 refine U.done ?_
 exact St.wn (j15 _ g)
 refine U.sk' 7 24 true 46 b19 ?_
 refine U.r rfl (.tk 16 false 38 b18) rfl rfl (by exact Rd.pk' rfl rfl b19 rfl) ?_
 refine U.pk' b18 ?_
 refine U.done ?_
 exact St.wn (j15 _ g)
 refine U.sk' 7 7 true 29 b17 ?_
 refine U.pk' b17 ?_
 refine U.ps 1 T rfl (U.pq 2 16 false 38 rfl T ?_)
 refine U.r rfl (.tk 16 false 38 rfl) rfl rfl (by exact Rd.ix T rfl rfl rfl rfl rfl rfl y16) ?_
 refine U.pq 5 16 false 38 rfl T ?_
 refine g.cs (fun b20 g=>?_) fun b20 g=>?_
 refine U.pq 2 24 true 46 b20 T ?_
 refine U.r rfl (.tk 24 true 46 b20) rfl rfl (by exact Rd.ix T rfl rfl rfl rfl rfl rfl y16) ?_
 refine U.pq 4 24 true 46 b20 T ?_
 refine U.r rfl (.tk 16 false 38 rfl) rfl rfl (by exact Rd.pk rfl rfl b20 rfl) ?_
 refine U.pk' rfl ?_
 refine U.done ?_
 exact St.wn (j15 _ g)
 refine U.sk' 7 24 true 46 b20 ?_
 refine U.r rfl (.tk 16 false 38 rfl) rfl rfl (by exact Rd.pk' rfl rfl b20 rfl) ?_
 refine U.pk' rfl ?_
 refine U.done ?_
 exact St.wn (j15 _ g)
 refine C.exit (C.ex (C.ex (C.bex ?_)))
 exact St.wk (j6 _ g) (Wk.mk' [] rfl rfl trivial trivial rfl)
 refine U.start (U.ps 5 T rfl ?_)
 refine g.cs (fun b11 g=>?_) fun b11 g=>?_
 refine U.pq 2 4 true 12 b11 T ?_
 refine U.pk b11 ?_
 refine U.ps 1 T rfl ?_
 refine g.cs (fun b12 g=>?_) fun b12 g=>?_
 refine U.sk' 2 8 true 16 (ntF b12) ?_
 refine U.pk' (ntF b12) ?_
 refine U.done ?_
 exact St.wn (j10 _ g)
 refine U.pq 2 8 true 16 (ntT b12) T ?_
 refine U.pk (ntT b12) ?_
 refine U.done ?_
 exact St.wn (j10 _ g)
 refine U.sk' 2 4 true 12 b11 ?_
 refine U.pk' b11 ?_
 refine U.ps 1 T rfl (U.sk' 2 8 true 16 rfl ?_)
 refine U.pk' rfl ?_
 refine U.done ?_
 exact St.wn (j10 _ g)
theorem XR (kind:Int) (post:Bool→Prop) (g:QS kind post):
  Tr Tryz.prog 52 [.i kind] [] 0 (pB post):=by
 refine Tr.go Tryz.func52 Tryz.ntmps52 fun _ _ _ _ o=>?_
 unfold QS at g
 refine C.ss (U.pd 1 T (C.xs ?_))
 refine C.jn (fun (x3:Bool)=>[(2,.b x3)]) (fun x3=>[]) 0 g (fun x3 g=>?_) fun J4 g j4=>?_
 refine C.nx (C.ret ?_)
 exact C.f1 T o (pBi g)
 refine U.start (U.ps 3 T rfl ?_)
 refine g.cs (fun b5 g=>?_) fun b5 g=>?_
 refine U.sk' 2 2 false 5 b5 ?_
 refine U.pk b5 ?_
 refine U.pd 1 T ?_
 exact St.wn (j4 _ g)
 refine U.pq 2 2 false 5 b5 T ?_
 refine U.pk' b5 ?_
 refine U.pd 1 T ?_
 exact St.wn (j4 _ g)
theorem X7 (l:List ApiShelf) (c:Int) (post:Int→Prop) (g:Qv l c post):
  Tr Tryz.prog 53 [.sl 2 Gw l,.i c] [] 0 (pI post):=by
 refine Tr.go Tryz.func53 Tryz.ntmps53 fun _ _ _ _ o=>?_
 unfold Qv at g
 refine C.ss (U.pd 1 T (C.xs (C.ss ?_)))
 refine U.pd 1 T (C.nx ?_)
 refine C.jn (fun (x5:Unit)=>[]) (fun x5=>[]) 0 g (fun x5 g=>?_) fun J6 g j6=>?_
 refine C.xt (U.pd 1 T (C.nx (C.ret ?_)))
 exact C.f1 T o (pIi g)
 refine C.block (St.wk (C.loop (fun (s7:Int)=>[(0,.sl 2 Gw l),(1,.i c),(5,.i s7)]) (fun s7=>[]) g (fun s7 Y8 g=>?_)) (Wk.e))
 refine C.seq (C.ss (U.pd 4 T (C.nx ?_)))
 refine C.ite rfl g (fun b11 g=>?_) fun b11 g=>?_
 refine C.skip (C.xs (C.block (C.ss (U.ps 2 T rfl ?_))))
 obtain⟨x14,y14,g⟩:=g
 refine U.ix T y14 ?_
 refine U.pd 4 T (C.nx ?_)
 refine C.ite rfl g (fun b15 g=>?_) fun b15 g=>?_
 refine C.ss (U.pd 2 T (C.nx (C.ret (C.brt (C.rt (C.rt (C.brt (C.rt ?_))))))))
 exact C.f1 T o (pIi g)
 refine C.skip (C.bnx (C.nx (U.start (U.pd 3 T (C.nx ?_)))))
 exact St.wk (C.next g) (Wk.e)
 refine C.exit (C.ex (C.ex (C.bex ?_)))
 exact St.wk (j6 _ g) (Wk.mk' [] rfl rfl trivial trivial rfl)
theorem Wc (l:List ApiStart) (c:Int) (post:Bool→Prop) (g:K6 l c post):
  Tr Tryz.prog 54 [.sl 2 Gv l,.i c] [] 0 (pB post):=by
 refine Tr.go Tryz.func54 Tryz.ntmps54 fun _ _ _ _ o=>?_
 unfold K6 at g
 refine C.ss (U.pd 1 T (C.xs (C.ss ?_)))
 refine U.pd 1 T (C.nx ?_)
 refine C.jn (fun (x5:Unit)=>[]) (fun x5=>[]) 0 g (fun x5 g=>?_) fun J6 g j6=>?_
 refine C.xt (U.pd 1 T (C.nx (C.ret ?_)))
 exact C.f1 T o (pBi g)
 refine C.block (St.wk (C.loop (fun (s7:Int)=>[(0,.sl 2 Gv l),(1,.i c),(5,.i s7)]) (fun s7=>[]) g (fun s7 Y8 g=>?_)) (Wk.e))
 refine C.seq (C.ss (U.pd 4 T (C.nx ?_)))
 refine C.ite rfl g (fun b11 g=>?_) fun b11 g=>?_
 refine C.skip (C.xs (C.block (C.ss (U.ps 2 T rfl ?_))))
 obtain⟨x14,y14,g⟩:=g
 refine U.ix T y14 ?_
 refine U.pd 4 T (C.nx ?_)
 refine C.ite rfl g (fun b15 g=>?_) fun b15 g=>?_
 refine C.ss (U.pd 1 T (C.nx (C.ret (C.brt (C.rt (C.rt (C.brt (C.rt ?_))))))))
 exact C.f1 T o (pBi g)
 refine C.skip (C.bnx (C.nx (U.start (U.pd 3 T (C.nx ?_)))))
 exact St.wk (C.next g) (Wk.e)
 refine C.exit (C.ex (C.ex (C.bex ?_)))
 exact St.wk (j6 _ g) (Wk.mk' [] rfl rfl trivial trivial rfl)
theorem WI (s_1:ApiSite) (z:ApiZone) (post:Int→Prop) (g:Kg s_1 z post):
  Tr Tryz.prog 55 [.agg (Q0 s_1),.agg (Ki z)] [] 0 (pI post):=by
 refine Tr.go Tryz.func55 Tryz.ntmps55 fun _ _ _ _ o=>?_
 unfold Kg at g
 refine C.ss (U.bx ?_)
 refine U.bx ?_
 refine U.pd 1 T (C.xt ?_)
 refine U.pd 1 T (C.xs (C.ss ?_))
 refine U.pd 1 T (C.nx ?_)
 refine C.jn (fun (x7:Int)=>[(5,.i x7)]) (fun x7=>[]) 0 g (fun x7 g=>?_) fun J8 g j8=>?_
 refine C.xt (U.pd 2 T (C.nx (C.ret ?_)))
 exact C.f1 T o (pIi g)
 refine C.block (St.wk (C.loop (fun (s9:Int×Int)=>[(2,.p 0 0),(3,.p 1 0),(5,.i s9.1),(6,.i s9.2)]) (fun s9=>[(0,.box (Q0 s_1)),(1,.box (Ki z))]) g (fun s9 Y10 g=>?_)) (Wk.a (idR 2)))
 refine C.seq (C.ss (U.pd 5 T (C.nx ?_)))
 refine C.ite rfl g (fun b13 g=>?_) fun b13 g=>?_
 refine C.skip (C.xs (C.block (C.seq ?_)))
 refine C.jn (fun (x14:Bool)=>[(2,.p 0 0),(3,.p 1 0),(5,.i s9.1),(6,.i s9.2),(35,.b x14)]) (fun x14=>[(0,.box (Q0 s_1)),(1,.box (Ki z))]) 2 g (fun x14 g=>?_) fun J15 g j15=>?_
 refine C.nx ?_
 refine C.jn (fun (x21:Int)=>[(2,.p 0 0),(3,.p 1 0),(5,.i x21),(6,.i s9.2)]) (fun x21=>[(0,.box (Q0 s_1)),(1,.box (Ki z))]) 2 g (fun x21 g=>?_) fun J22 g j22=>?_
 refine C.bnx (C.nx (U.start (U.pd 3 T (C.nx ?_))))
 exact St.wk (C.next g) (Wk.a (idR 2))
 refine C.ite rfl g (fun b23 g=>?_) fun b23 g=>?_
 refine U.start (U.pd 3 T ?_)
 exact St.wa (idR 2) (j22 _ g)
 refine C.skip ?_
 exact St.wa (idR 2) (j22 _ g)
 refine D.bq mix 9999 [0,1] [] (fun hQ hS ws M'=>?_)
 refine D.pq 6 (zl [0,1,2,3,4,5]) T ?_
 obtain⟨x16,y16,g⟩:=g
 refine D.ix 6 [] T y16 ?_
 refine D.pq 1 [(7,[])] T ?_
 obtain⟨x17,y17,g⟩:=g
 refine D.ix 8 [] T y17 ?_
 refine D.pq 1 [(9,[])] T ?_
 refine D.k 10 (XR x17 _ g) en52 fun x18 g=>?_
 refine D.pq 1 [(11,[])] T ?_
 refine g.cs (fun b19 g=>?_) fun b19 g=>?_
 refine D.pt 12 [] 11 true 25 b19 T ?_
 refine D.q 13 [] hQ hS rfl (.tk 11 true 25 b19) rfl rfl (by exact Rd.l T rfl rfl rfl) rfl (by kernel_rfl) ?_
 refine D.pt 14 [] 11 true 25 b19 T ?_
 refine D.q 15 [] hQ hS rfl (.tk 11 true 25 b19) rfl rfl (by exact Rd.l T rfl rfl rfl) rfl (by kernel_rfl) ?_
 refine D.pt 16 [] 11 true 25 b19 T ?_
 refine D.q 17 [] hQ hS rfl (.tk 11 true 25 b19) rfl rfl (by exact Rd.ix T rfl rfl rfl rfl rfl rfl y16) rfl (by kernel_rfl) ?_
 refine D.q 18 [] hQ hS rfl (.tk 11 true 25 b19) rfl rfl (by exact Rd.l T rfl rfl rfl) rfl (by kernel_rfl) ?_
 refine D.k 19 (X7 s_1.Shelves x16 _ g) en53 (fun x20 g=>?_) (hw:=.take 11 true 25 _ b19 rfl rfl rfl)
 refine D.pt 20 [] 11 true 25 b19 T ?_
 refine D.kt 21 [] b19 ?_
 refine D.done (by kernel_rfl) ?_
 exact St.wa (idR 2) (j15 _ g)
 refine D.sz 12 [] 11 true 25 b19 ?_
 refine D.sz 13 [] 11 true 25 b19 ?_
 refine D.sz 14 [] 11 true 25 b19 ?_
 refine D.sz 15 [] 11 true 25 b19 ?_
 refine D.sz 16 [] 11 true 25 b19 ?_
 refine D.sz 17 [] 11 true 25 b19 ?_
 refine D.sz 18 [] 11 true 25 b19 ?_
 refine D.sz 19 [] 11 true 25 b19 ?_
 refine D.sz 20 [] 11 true 25 b19 ?_
 refine D.kf 21 [] b19 ?_
 refine D.done (by kernel_rfl) ?_
 exact St.wa (idR 2) (j15 _ g)
 refine C.exit (C.ex (C.ex (C.bex ?_)))
 exact St.wn (j8 _ g)
theorem Zd (f:ApiFloor) (c:Int) (post:(Int×Int×Int)→Prop) (g:KT f c post):
  Tr Tryz.prog 97 [.agg (Qi f),.i c] [] 0 (fun A H' k=>∃y,post y∧A=(.tup [.i y.1,.i y.2.1,.i y.2.2])∧H'=[]∧k=0):=by
 refine Tr.go Tryz.func97 Tryz.ntmps97 fun _ _ _ _ o=>?_
 unfold KT at g
 refine C.ss (U.bx ?_)
 refine U.pd 3 T (C.xs (C.ss ?_))
 refine U.ps 2 T rfl (U.k (QU f c _ g) en23 (fun x5 g=>?_))
 refine U.pd 1 T (C.nx ?_)
 refine C.ite rfl g (fun b6 g=>?_) fun b6 g=>?_
 refine C.ss (U.pd 3 T (C.nx (C.ret (C.rt ?_))))
 exact C.f9 T o ⟨(0,0,0),g,rfl,rfl,rfl⟩
 refine C.skip (C.xs (D.bq mix 9999 [0] [] (fun hQ hS ws M'=>?_)))
 refine D.pq 3 (zl [0,1,2]) T ?_
 obtain⟨y11,g⟩:=g
 refine D.q 3 [] hQ hS rfl (.none rfl) rfl rfl (by exact Rd.rm rfl rfl rfl rfl y11) rfl (by kernel_rfl) ?_
 refine D.pq 3 (zl [4,5,6]) T ?_
 obtain⟨y12,g⟩:=g
 refine D.q 7 [] hQ hS rfl (.none rfl) rfl rfl (by exact Rd.dv rfl rfl rfl rfl y12) rfl (by kernel_rfl) ?_
 refine D.pq 2 (zl [8,9]) T ?_
 obtain⟨y13,g⟩:=g
 refine D.q 10 [] hQ hS rfl (.none rfl) rfl rfl (by exact Rd.rm rfl rfl rfl rfl y13) rfl (by kernel_rfl) ?_
 refine D.pq 3 (zl [11,12,13]) T ?_
 obtain⟨y14,g⟩:=g
 refine D.q 14 [] hQ hS rfl (.none rfl) rfl rfl (by exact Rd.dv rfl rfl rfl rfl y14) rfl (by kernel_rfl) ?_
 refine D.pq 2 (zl [15,16]) T ?_
 obtain⟨y15,g⟩:=g
 refine D.q 17 [] hQ hS rfl (.none rfl) rfl rfl (by exact Rd.dv rfl rfl rfl rfl y15) rfl (by kernel_rfl) ?_
 refine D.pq 3 (zl [18,19,20]) T ?_
 refine D.done (by kernel_rfl) ?_
 refine C.nx (C.ret ?_)
 exact C.f9 T o ⟨(c.tmod f.W,(w64 (c.tdiv f.W)).tmod f.H,w64 ((w64 (c.tdiv f.W)).tdiv f.H)),g,rfl,rfl,rfl⟩
theorem Ka (f:ApiFloor) (x_1:Int) (y_1:Int) (z:Int) (post:Int→Prop) (g:Qm f x_1 y_1 z post):
  Tr Tryz.prog 98 [.agg (Qi f),.i x_1,.i y_1,.i z] [] 0 (pI post):=by
 refine Tr.go Tryz.func98 Tryz.ntmps98 fun _ _ _ _ o=>?_
 unfold Qm at g
 refine C.ss (U.bx ?_)
 refine U.pd 1 T (C.xs (C.seq ?_))
 refine C.jn (fun (x3:Bool)=>[(1,.i x_1),(2,.i y_1),(3,.i z),(4,.p 0 0),(36,.b x3)]) (fun x3=>[(0,.box (Qi f))]) 1 g (fun x3 g=>?_) fun J4 g j4=>?_
 refine C.nx ?_
 refine C.ite rfl g (fun b10 g=>?_) fun b10 g=>?_
 refine C.ss (U.pd 1 T (C.nx (C.ret (C.rt ?_))))
 exact C.f1 T o (pIi g)
 refine C.skip (C.xt (U.pd 12 T (C.nx (C.ret ?_))))
 exact C.f1 T o (pIi g)
 refine U.start (U.ps 3 T rfl ?_)
 refine g.cs (fun b5 g=>?_) fun b5 g=>?_
 refine U.sk' 4 2 false 11 b5 ?_
 refine U.pk b5 ?_
 refine U.ps 1 T rfl (U.sk' 2 8 false 17 rfl ?_)
 refine U.pk rfl ?_
 refine U.ps 1 T rfl (U.sk' 4 12 false 21 rfl ?_)
 refine U.pk rfl ?_
 refine U.ps 1 T rfl (U.sk' 2 18 false 27 rfl ?_)
 refine U.pk rfl ?_
 refine U.ps 1 T rfl (U.sk' 4 22 false 31 rfl ?_)
 refine U.pk rfl ?_
 refine U.done ?_
 exact St.wa [some 0] (j4 _ g)
 refine U.pq 4 2 false 11 b5 T ?_
 refine U.pk' b5 ?_
 refine U.ps 1 T rfl ?_
 refine g.cs (fun b6 g=>?_) fun b6 g=>?_
 refine U.sk' 2 8 false 17 b6 ?_
 refine U.pk b6 ?_
 refine U.ps 1 T rfl (U.sk' 4 12 false 21 rfl ?_)
 refine U.pk rfl ?_
 refine U.ps 1 T rfl (U.sk' 2 18 false 27 rfl ?_)
 refine U.pk rfl ?_
 refine U.ps 1 T rfl (U.sk' 4 22 false 31 rfl ?_)
 refine U.pk rfl ?_
 refine U.done ?_
 exact St.wa [some 0] (j4 _ g)
 refine U.pq 2 8 false 17 b6 T ?_
 refine U.pk' b6 ?_
 refine U.ps 1 T rfl ?_
 refine g.cs (fun b7 g=>?_) fun b7 g=>?_
 refine U.sk' 4 12 false 21 b7 ?_
 refine U.pk b7 ?_
 refine U.ps 1 T rfl (U.sk' 2 18 false 27 rfl ?_)
 refine U.pk rfl ?_
 refine U.ps 1 T rfl (U.sk' 4 22 false 31 rfl ?_)
 refine U.pk rfl ?_
 refine U.done ?_
 exact St.wa [some 0] (j4 _ g)
 refine U.pq 4 12 false 21 b7 T ?_
 refine U.pk' b7 ?_
 refine U.ps 1 T rfl ?_
 refine g.cs (fun b8 g=>?_) fun b8 g=>?_
 refine U.sk' 2 18 false 27 b8 ?_
 refine U.pk b8 ?_
 refine U.ps 1 T rfl (U.sk' 4 22 false 31 rfl ?_)
 refine U.pk rfl ?_
 refine U.done ?_
 exact St.wa [some 0] (j4 _ g)
 refine U.pq 2 18 false 27 b8 T ?_
 refine U.pk' b8 ?_
 refine U.ps 1 T rfl ?_
 refine g.cs (fun b9 g=>?_) fun b9 g=>?_
 refine U.sk' 4 22 false 31 b9 ?_
 refine U.pk b9 ?_
 refine U.done ?_
 exact St.wa [some 0] (j4 _ g)
 refine U.pq 4 22 false 31 b9 T ?_
 refine U.pk' b9 ?_
 refine U.done ?_
 exact St.wa [some 0] (j4 _ g)
theorem XQ (f:ApiFloor) (c:Int) (d:Int) (post:Int→Prop) (g:QR f c d post):
  Tr Tryz.prog 71 [.agg (Qi f),.i c,.i d] [] 0 (pI post):=by
 refine Tr.go Tryz.func71 Tryz.ntmps71 fun _ _ _ _ o=>?_
 unfold QR at g
 refine C.ss (U.bx ?_)
 refine U.pd 1 T (C.xs (C.ss ?_))
 refine U.ps 2 T rfl (U.k (QU f c _ g) en23 (fun x5 g=>?_))
 refine U.pd 1 T (C.nx ?_)
 refine C.ite rfl g (fun b6 g=>?_) fun b6 g=>?_
 refine C.ss (U.pd 1 T (C.nx (C.ret (C.rt ?_))))
 exact C.f1 T o (pIi g)
 refine C.skip (C.xt (U.ps 2 T rfl (U.k (Zd f c _ g) en97 (fun x11 g=>?_))))
 refine U.pd 7 T (C.xs (C.ss ?_))
 refine U.pd 1 T (C.nx (C.block (C.ss ?_)))
 refine U.pd 2 T (C.nx ?_)
 refine C.ite rfl g (fun b16 g=>?_) fun b16 g=>?_
 refine C.ss (U.ps 5 T rfl (U.k (Ka f (w64 (x11.1+1)) x11.2.1 x11.2.2 _ g) en98 (fun x19 g=>?_)))
 refine U.pd 1 T (C.nx (C.ret (C.brt (C.rt ?_))))
 exact C.f1 T o (pIi g)
 refine C.ss (U.pd 2 T (C.nx ?_))
 refine C.ite rfl g (fun b22 g=>?_) fun b22 g=>?_
 refine C.ss (U.ps 5 T rfl (U.k (Ka f x11.1 (w64 (x11.2.1+1)) x11.2.2 _ g) en98 (fun x25 g=>?_)))
 refine U.pd 1 T (C.nx (C.ret (C.brt (C.rt ?_))))
 exact C.f1 T o (pIi g)
 refine C.ss (U.pd 2 T (C.nx ?_))
 refine C.ite rfl g (fun b28 g=>?_) fun b28 g=>?_
 refine C.ss (U.ps 5 T rfl (U.k (Ka f (w64 (x11.1-1)) x11.2.1 x11.2.2 _ g) en98 (fun x31 g=>?_)))
 refine U.pd 1 T (C.nx (C.ret (C.brt (C.rt ?_))))
 exact C.f1 T o (pIi g)
 refine C.ss (U.pd 2 T (C.nx ?_))
 refine C.ite rfl g (fun b34 g=>?_) fun b34 g=>?_
 refine C.ss (U.ps 5 T rfl (U.k (Ka f x11.1 (w64 (x11.2.1-1)) x11.2.2 _ g) en98 (fun x37 g=>?_)))
 refine U.pd 1 T (C.nx (C.ret (C.brt (C.rt ?_))))
 exact C.f1 T o (pIi g)
 refine C.ss (U.pd 2 T (C.nx ?_))
 refine C.ite rfl g (fun b40 g=>?_) fun b40 g=>?_
 refine C.ss (U.ps 5 T rfl (U.k (Ka f x11.1 x11.2.1 (w64 (x11.2.2+1)) _ g) en98 (fun x43 g=>?_)))
 refine U.pd 1 T (C.nx (C.ret (C.brt (C.rt ?_))))
 exact C.f1 T o (pIi g)
 refine C.ss (U.pd 2 T (C.nx ?_))
 refine C.ite rfl g (fun b46 g=>?_) fun b46 g=>?_
 refine C.ss (U.ps 5 T rfl (U.k (Ka f x11.1 x11.2.1 (w64 (x11.2.2-1)) _ g) en98 (fun x49 g=>?_)))
 refine U.pd 1 T (C.nx (C.ret (C.brt (C.rt ?_))))
 exact C.f1 T o (pIi g)
 refine C.skip (C.bnx (C.xt (U.pd 1 T (C.nx (C.ret ?_)))))
 exact C.f1 T o (pIi g)
theorem WE (s_1:ApiSite) (post:Int→Prop) (g:Kf s_1 post):
  Tr Tryz.prog 56 [.agg (Q0 s_1)] [] 0 (pI post):=by
 refine Tr.go Tryz.func56 Tryz.ntmps56 fun _ _ _ _ o=>?_
 unfold Kf at g
 refine C.ss (U.bx ?_)
 refine U.pd 1 T (C.xs (C.ss ?_))
 refine U.pd 1 T (C.nx ?_)
 refine C.jn (fun (x5:Unit)=>[]) (fun x5=>[]) 0 g (fun x5 g=>?_) fun J6 g j6=>?_
 refine C.xt (U.pd 1 T (C.nx (C.ret ?_)))
 exact C.f1 T o (pIi g)
 refine C.block (St.wk (C.loop (fun (s7:Int)=>[(1,.p 0 0),(3,.i s7)]) (fun s7=>[(0,.box (Q0 s_1))]) g (fun s7 Y8 g=>?_)) (Wk.a [some 0]))
 refine C.seq (C.ss (U.pd 5 T (C.nx ?_)))
 refine C.ite rfl g (fun b11 g=>?_) fun b11 g=>?_
 refine C.skip (C.xs ?_)
 refine C.jn (fun (x12:Unit)=>[(1,.p 0 0),(3,.i s7)]) (fun x12=>[(0,.box (Q0 s_1))]) 1 g (fun x12 g=>?_) fun J13 g j13=>?_
 refine C.nx (U.start (U.pd 3 T (C.nx ?_)))
 exact St.wk (C.next g) (Wk.a [some 0])
 refine C.block (C.ss (U.pd 1 T (C.nx ?_)))
 refine C.jn (fun (x16:Unit)=>[(1,.p 0 0),(3,.i s7)]) (fun x16=>[(0,.box (Q0 s_1))]) 1 g (fun x16 g=>?_) fun J17 g j17=>?_
 refine C.bnx ?_
 exact St.wa [some 0] (j13 _ g)
 refine C.block (St.wk (C.loop (fun (s18:Int)=>[(1,.p 0 0),(3,.i s7),(4,.i s18)]) (fun s18=>[(0,.box (Q0 s_1))]) g (fun s18 Y19 g=>?_)) (Wk.a [some 0]))
 refine C.seq (C.ss (U.pd 2 T (C.nx ?_)))
 refine C.ite rfl g (fun b22 g=>?_) fun b22 g=>?_
 refine C.skip (C.xs (C.block (C.seq (D.bq mix 9999 [0] [] (fun hQ hS ws M'=>?_)))))
 refine D.pq 5 (zl [0,1,2,3,4]) T ?_
 obtain⟨x25,y25,g⟩:=g
 refine D.ix 5 [] T y25 ?_
 refine D.pq 3 (zl [6,7,8]) T ?_
 refine D.k 9 (XQ s_1.Floor x25.Cell s18 _ g) en71 fun x26 g=>?_
 refine D.pq 1 [(10,[])] T ?_
 refine D.done (by kernel_rfl) ?_
 refine C.xt (U.ps 3 T rfl (U.k (X7 s_1.Shelves x26 _ g) en53 (fun x29 g=>?_)))
 refine U.pd 1 T (C.xs ?_)
 refine C.jn (fun (x30:Bool)=>[(1,.p 0 0),(3,.i s7),(4,.i s18),(60,.b x30)]) (fun x30=>[(0,.box (Q0 s_1))]) 1 g (fun x30 g=>?_) fun J31 g j31=>?_
 refine C.nx ?_
 refine C.ite rfl g (fun b37 g=>?_) fun b37 g=>?_
 refine C.ss (U.pd 2 T (C.nx (C.ret (C.brt (C.rt (C.rt (C.brt (C.brt (C.rt (C.rt (C.brt (C.rt ?_))))))))))))
 exact C.f1 T o (pIi g)
 refine C.skip (C.bnx (C.nx (U.start (U.pd 3 T (C.nx ?_)))))
 exact St.wk (C.next g) (Wk.a [some 0])
 refine D.bq mix 9999 [0] [] (fun hQ hS ws M'=>?_)
 refine D.pq 3 (zl [0,1,2]) T ?_
 refine g.cs (fun b32 g=>?_) fun b32 g=>?_
 refine D.pt 3 [] 2 true 34 b32 T ?_
 refine D.pt 4 [] 2 true 34 b32 T ?_
 refine D.kt 5 [] b32 ?_
 refine D.pq 1 [(6,[])] T ?_
 refine g.cs (fun b33 g=>?_) fun b33 g=>?_
 refine D.pt 7 [] 6 true 38 b33 T ?_
 refine D.pt 8 [] 6 true 38 b33 T ?_
 refine D.pt 9 [] 6 true 38 b33 T ?_
 refine D.kt 10 [] b33 ?_
 refine D.pq 1 [(11,[])] T ?_
 refine g.cs (fun b34 g=>?_) fun b34 g=>?_
 refine D.pt 12 [] 11 true 43 b34 T ?_
 refine D.q 13 [] hQ hS rfl (.tk 11 true 43 b34) rfl rfl (by exact Rd.l T rfl rfl rfl) rfl (by kernel_rfl) ?_
 refine D.pt 14 [] 11 true 43 b34 T ?_
 refine D.q 15 [] hQ hS rfl (.tk 11 true 43 b34) rfl rfl (by exact Rd.l T rfl rfl rfl) rfl (by kernel_rfl) ?_
 refine D.pt 16 [] 11 true 43 b34 T ?_
 refine D.q 17 [] hQ hS rfl (.tk 11 true 43 b34) rfl rfl (by exact Rd.ix T rfl rfl rfl rfl rfl rfl y25) rfl (by kernel_rfl) ?_
 refine D.pt 18 [] 11 true 43 b34 T ?_
 refine D.q 19 [] hQ hS rfl (.tk 11 true 43 b34) rfl rfl (by exact Rd.l T rfl rfl rfl) rfl (by kernel_rfl) ?_
 refine D.pt 20 [] 11 true 43 b34 T ?_
 refine D.q 21 [] hQ hS rfl (.tk 11 true 43 b34) rfl rfl (by exact Rd.l T rfl rfl rfl) rfl (by kernel_rfl) ?_
 refine D.pt 22 [] 11 true 43 b34 T ?_
 refine D.pt 23 [] 11 true 43 b34 T ?_
 obtain⟨x35,y35,g⟩:=g
 refine D.q 24 [] hQ hS rfl (.tk 11 true 43 b34) rfl rfl (by exact Rd.ix T rfl rfl rfl rfl rfl rfl y35) rfl (by kernel_rfl) ?_
 refine D.pt 25 [] 11 true 43 b34 T ?_
 refine D.q 26 [] hQ hS rfl (.tk 11 true 43 b34) rfl rfl (by exact Rd.l T rfl rfl rfl) rfl (by kernel_rfl) ?_
 refine D.k 27 (XZ s_1.Aparts x25.Class x35.Class _ g) en51 (fun x36 g=>?_) (hw:=.take 11 true 43 _ b34 rfl rfl rfl)
 refine D.kt 28 [] b34 ?_
 refine D.done (by kernel_rfl) ?_
 exact St.wa [some 0] (j31 _ g)
 refine D.sz 12 [] 11 true 43 b34 ?_
 refine D.sz 13 [] 11 true 43 b34 ?_
 refine D.sz 14 [] 11 true 43 b34 ?_
 refine D.sz 15 [] 11 true 43 b34 ?_
 refine D.sz 16 [] 11 true 43 b34 ?_
 refine D.sz 17 [] 11 true 43 b34 ?_
 refine D.sz 18 [] 11 true 43 b34 ?_
 refine D.sz 19 [] 11 true 43 b34 ?_
 refine D.sz 20 [] 11 true 43 b34 ?_
 refine D.sz 21 [] 11 true 43 b34 ?_
 refine D.sz 22 [] 11 true 43 b34 ?_
 refine D.sz 23 [] 11 true 43 b34 ?_
 refine D.sz 24 [] 11 true 43 b34 ?_
 refine D.sz 25 [] 11 true 43 b34 ?_
 refine D.sz 26 [] 11 true 43 b34 ?_
 refine D.sz 27 [] 11 true 43 b34 ?_
 refine D.kf 28 [] b34 ?_
 refine D.done (by kernel_rfl) ?_
 exact St.wa [some 0] (j31 _ g)
 refine D.sz 7 [] 6 true 38 b33 ?_
 refine D.sz 8 [] 6 true 38 b33 ?_
 refine D.sz 9 [] 6 true 38 b33 ?_
 refine D.kf 10 [] b33 ?_
 refine D.pq 1 [(11,[])] T ?_
 refine D.sz 12 [] 11 true 43 rfl ?_
 refine D.sz 13 [] 11 true 43 rfl ?_
 refine D.sz 14 [] 11 true 43 rfl ?_
 refine D.sz 15 [] 11 true 43 rfl ?_
 refine D.sz 16 [] 11 true 43 rfl ?_
 refine D.sz 17 [] 11 true 43 rfl ?_
 refine D.sz 18 [] 11 true 43 rfl ?_
 refine D.sz 19 [] 11 true 43 rfl ?_
 refine D.sz 20 [] 11 true 43 rfl ?_
 refine D.sz 21 [] 11 true 43 rfl ?_
 refine D.sz 22 [] 11 true 43 rfl ?_
 refine D.sz 23 [] 11 true 43 rfl ?_
 refine D.sz 24 [] 11 true 43 rfl ?_
 refine D.sz 25 [] 11 true 43 rfl ?_
 refine D.sz 26 [] 11 true 43 rfl ?_
 refine D.sz 27 [] 11 true 43 rfl ?_
 refine D.kf 28 [] rfl ?_
 refine D.done (by kernel_rfl) ?_
 exact St.wa [some 0] (j31 _ g)
 refine D.sz 3 [] 2 true 34 b32 ?_
 refine D.sz 4 [] 2 true 34 b32 ?_
 refine D.kf 5 [] b32 ?_
 refine D.pq 1 [(6,[])] T ?_
 refine D.sz 7 [] 6 true 38 rfl ?_
 refine D.sz 8 [] 6 true 38 rfl ?_
 refine D.sz 9 [] 6 true 38 rfl ?_
 refine D.kf 10 [] rfl ?_
 refine D.pq 1 [(11,[])] T ?_
 refine D.sz 12 [] 11 true 43 rfl ?_
 refine D.sz 13 [] 11 true 43 rfl ?_
 refine D.sz 14 [] 11 true 43 rfl ?_
 refine D.sz 15 [] 11 true 43 rfl ?_
 refine D.sz 16 [] 11 true 43 rfl ?_
 refine D.sz 17 [] 11 true 43 rfl ?_
 refine D.sz 18 [] 11 true 43 rfl ?_
 refine D.sz 19 [] 11 true 43 rfl ?_
 refine D.sz 20 [] 11 true 43 rfl ?_
 refine D.sz 21 [] 11 true 43 rfl ?_
 refine D.sz 22 [] 11 true 43 rfl ?_
 refine D.sz 23 [] 11 true 43 rfl ?_
 refine D.sz 24 [] 11 true 43 rfl ?_
 refine D.sz 25 [] 11 true 43 rfl ?_
 refine D.sz 26 [] 11 true 43 rfl ?_
 refine D.sz 27 [] 11 true 43 rfl ?_
 refine D.kf 28 [] rfl ?_
 refine D.done (by kernel_rfl) ?_
 exact St.wa [some 0] (j31 _ g)
 refine C.exit (C.ex (C.ex (C.bex ?_)))
 exact St.wa [some 0] (j17 _ g)
 refine C.exit (C.ex (C.ex (C.bex ?_)))
 exact St.wk (j6 _ g) (Wk.mk' [] rfl rfl trivial trivial rfl)
theorem Wh (f:ApiFloor) (post:Bool→Prop) (g:K4 f post):
  Tr Tryz.prog 57 [.agg (Qi f)] [] 0 (pB post):=by
 refine Tr.go Tryz.func57 Tryz.ntmps57 fun _ _ _ _ o=>?_
 unfold K4 at g
 refine C.ss (U.bx ?_)
 refine U.pd 1 T (C.xt ?_)
 refine U.ps 2 T rfl (U.k (Xe f.Kind 3 _ g) en32 (fun x5 g=>?_))
 refine U.pd 1 T (C.nx (C.ret ?_))
 exact C.f1 T o (pBi g)
theorem Yi (s_1:ApiSite) (post:Bool→Prop) (g:Ks s_1 post):
  Tr Tryz.prog 20 [.agg (Q0 s_1)] [] 0 (pB post):=by
 refine Tr.go Tryz.func20 Tryz.ntmps20 fun _ _ _ _ o=>?_
 unfold Ks at g
 refine C.ss (U.bx ?_)
 refine U.pd 1 T (C.xs (C.seq ?_))
 refine C.jn (fun (x3:Bool)=>[(1,.p 0 0),(30,.b x3)]) (fun x3=>[(0,.box (Q0 s_1))]) 1 g (fun x3 g=>?_) fun J4 g j4=>?_
 refine C.nx ?_
 refine C.ite rfl g (fun b10 g=>?_) fun b10 g=>?_
 refine C.ss (U.pd 1 T (C.nx (C.ret (C.rt ?_))))
 exact C.f1 T o (pBi g)
 refine C.skip (C.xs (C.ss (U.pd 1 T (C.nx ?_))))
 refine C.jn (fun (x15:Unit)=>[(1,.p 0 0)]) (fun x15=>[(0,.box (Q0 s_1))]) 1 g (fun x15 g=>?_) fun J16 g j16=>?_
 refine C.xs (C.ss (U.pd 1 T (C.nx ?_)))
 refine C.jn (fun (x40:Unit)=>[(1,.p 0 0)]) (fun x40=>[(0,.box (Q0 s_1))]) 1 g (fun x40 g=>?_) fun J41 g j41=>?_
 refine C.xs (C.ss (U.pd 1 T (C.nx ?_)))
 refine C.jn (fun (x73:Unit)=>[(1,.p 0 0)]) (fun x73=>[(0,.box (Q0 s_1))]) 1 g (fun x73 g=>?_) fun J74 g j74=>?_
 refine C.xs (C.ss (U.pd 1 T (C.nx ?_)))
 refine C.jn (fun (x104:Unit)=>[(1,.p 0 0)]) (fun x104=>[(0,.box (Q0 s_1))]) 1 g (fun x104 g=>?_) fun J105 g j105=>?_
 refine C.xs ?_
 refine C.jn (fun (x120:Bool)=>[(2,.b x120)]) (fun x120=>[]) 0 g (fun x120 g=>?_) fun J121 g j121=>?_
 refine C.nx (C.ret ?_)
 exact C.f1 T o (pBi g)
 refine U.start (U.ps 1 T rfl (U.k (WE s_1 _ g) en56 (fun x122 g=>?_)))
 refine U.ps 2 T rfl ?_
 refine g.cs (fun b123 g=>?_) fun b123 g=>?_
 refine U.pq 2 3 true 181 b123 T ?_
 refine U.k (Wh s_1.Floor _ g) en57 (fun x124 g=>?_) (hw:=.take 3 true 181 _ b123 rfl rfl rfl)
 refine U.pk b123 ?_
 refine U.pd 1 T ?_
 exact St.wn (j121 _ g)
 refine U.sk' 3 3 true 181 b123 ?_
 refine U.pk' b123 ?_
 refine U.pd 1 T ?_
 exact St.wn (j121 _ g)
 refine C.block (St.wk (C.loop (fun (s106:Int)=>[(1,.p 0 0),(9,.i s106)]) (fun s106=>[(0,.box (Q0 s_1))]) g (fun s106 Y107 g=>?_)) (Wk.a [some 0]))
 refine C.seq (C.ss (U.pd 5 T (C.nx ?_)))
 refine C.ite rfl g (fun b110 g=>?_) fun b110 g=>?_
 refine C.skip (C.xs (C.block (C.seq (D.bq mix 9999 [0] [] (fun hQ hS ws M'=>?_)))))
 refine D.pq 4 (zl [0,1,2,3]) T ?_
 obtain⟨x113,y113,g⟩:=g
 refine D.ix 4 [] T y113 ?_
 refine D.pq 4 (zl [5,7,8,9]) T ?_
 refine D.ix 10 [] T y113 ?_
 refine D.pq 2 (zl [11,12]) T ?_
 refine D.k 6 (WI s_1 x113 _ g) en55 fun x114 g=>?_
 refine D.pq 1 [(13,[])] T ?_
 refine D.done (by kernel_rfl) ?_
 refine C.nx ?_
 refine C.ite rfl g (fun b115 g=>?_) fun b115 g=>?_
 refine C.ss (U.pd 1 T (C.nx (C.ret (C.brt (C.rt (C.rt (C.brt (C.rt ?_))))))))
 exact C.f1 T o (pBi g)
 refine C.skip (C.bnx (C.nx (U.start (U.pd 3 T (C.nx ?_)))))
 exact St.wk (C.next g) (Wk.a [some 0])
 refine C.exit (C.ex (C.ex (C.bex ?_)))
 exact St.wa [some 0] (j105 _ g)
 refine C.block (St.wk (C.loop (fun (s75:Int)=>[(1,.p 0 0),(7,.i s75)]) (fun s75=>[(0,.box (Q0 s_1))]) g (fun s75 Y76 g=>?_)) (Wk.a [some 0]))
 refine C.seq (C.ss (U.pd 5 T (C.nx ?_)))
 refine C.ite rfl g (fun b79 g=>?_) fun b79 g=>?_
 refine C.skip (C.xs (C.block (C.ss (U.ps 3 T rfl ?_))))
 obtain⟨x82,y82,g⟩:=g
 refine U.ix T y82 ?_
 refine U.ps 1 T rfl (U.al T ?_)
 refine U.st T ?_
 refine U.done (C.xs (C.seq ?_))
 refine C.jn (fun (x83:Bool)=>[(1,.p 0 0),(7,.i s75),(8,.p 1 0),(139,.b x83)]) (fun x83=>[(0,.box (Q0 s_1)),(1,.box [.i x82.Cell,.i x82.Charge])]) 2 g (fun x83 g=>?_) fun J84 g j84=>?_
 refine C.nx ?_
 refine C.ite rfl g (fun b88 g=>?_) fun b88 g=>?_
 refine C.ss (U.pd 1 T (C.nx (C.ret (C.rt (C.brt (C.rt (C.rt (C.brt (C.rt ?_)))))))))
 exact C.f1 T o (pBi g)
 refine C.skip (C.xs ?_)
 refine C.jn (fun (x91:Bool)=>[(1,.p 0 0),(7,.i s75),(156,.b x91)]) (fun x91=>[(0,.box (Q0 s_1))]) 1 g (fun x91 g=>?_) fun J92 g j92=>?_
 refine C.nx ?_
 refine C.ite rfl g (fun b97 g=>?_) fun b97 g=>?_
 refine C.ss (U.pd 1 T (C.nx (C.ret (C.brt (C.rt (C.rt (C.brt (C.rt ?_))))))))
 exact C.f1 T o (pBi g)
 refine C.skip (C.bnx (C.nx (U.start (U.pd 3 T (C.nx ?_)))))
 exact St.wk (C.next g) (Wk.a [some 0])
 refine D.bq mix 9999 [0,1] [] (fun hQ hS ws M'=>?_)
 refine D.pq 5 (zl [0,1,2,3,4]) T ?_
 obtain⟨x93,y93,g⟩:=g
 refine D.ix 5 [] T y93 ?_
 refine D.pq 3 (zl [6,7,8]) T ?_
 refine g.cs (fun b94 g=>?_) fun b94 g=>?_
 refine D.sz 9 [] 8 false 148 b94 ?_
 refine D.sz 10 [] 8 false 148 b94 ?_
 refine D.sz 11 [] 8 false 148 b94 ?_
 refine D.sz 12 [] 8 false 148 b94 ?_
 refine D.sz 13 [] 8 false 148 b94 ?_
 refine D.sz 14 [] 8 false 148 b94 ?_
 refine D.sz 15 [] 8 false 148 b94 ?_
 refine D.kt 16 [] b94 ?_
 refine D.done (by kernel_rfl) ?_
 exact St.wa [some 0] (j92 _ g)
 refine D.pt 9 [] 8 false 148 b94 T ?_
 refine D.q 10 [] hQ hS rfl (.tk 8 false 148 b94) rfl rfl (by exact Rd.l T rfl rfl rfl) rfl (by kernel_rfl) ?_
 refine D.pt 11 [] 8 false 148 b94 T ?_
 obtain⟨y95,g⟩:=g
 refine D.q 12 [] hQ hS rfl (.tk 8 false 148 b94) rfl rfl (by exact Rd.so T rfl rfl rfl rfl rfl (.none _) (.some _ rfl) y95) rfl (by kernel_rfl) ?_
 refine D.pt 13 [] 8 false 148 b94 T ?_
 refine D.q 14 [] hQ hS rfl (.tk 8 false 148 b94) rfl rfl (by exact Rd.l T rfl rfl rfl) rfl (by kernel_rfl) ?_
 refine D.k 15 (Wc (sub s_1.Robots 0 s75) x82.Cell _ g) en54 (fun x96 g=>?_) (hw:=.take 8 false 148 _ b94 rfl rfl rfl)
 refine D.kf 16 [] b94 ?_
 refine D.done (by kernel_rfl) ?_
 exact St.wa [some 0] (j92 _ g)
 refine U.start (U.ps 4 T rfl (U.k (QU s_1.Floor x82.Cell _ g) en23 (fun x85 g=>?_)))
 refine U.ps 2 T rfl ?_
 refine g.cs (fun b86 g=>?_) fun b86 g=>?_
 refine U.pq 3 6 false 130 (ntF b86) T ?_
 refine U.pk' (ntF b86) ?_
 refine U.ps 1 T rfl ?_
 refine g.cs (fun b87 g=>?_) fun b87 g=>?_
 refine U.sk' 3 11 false 135 b87 ?_
 refine U.pk b87 ?_
 refine U.done ?_
 exact St.wa (idR 2) (j84 _ g)
 refine U.pq 3 11 false 135 b87 T ?_
 refine U.pk' b87 ?_
 refine U.done ?_
 exact St.wa (idR 2) (j84 _ g)
 refine U.sk' 3 6 false 130 (ntT b86) ?_
 refine U.pk (ntT b86) ?_
 refine U.ps 1 T rfl (U.sk' 3 11 false 135 rfl ?_)
 refine U.pk rfl ?_
 refine U.done ?_
 exact St.wa (idR 2) (j84 _ g)
 refine C.exit (C.ex (C.ex (C.bex ?_)))
 exact St.wa [some 0] (j74 _ g)
 refine C.block (St.wk (C.loop (fun (s42:Int)=>[(1,.p 0 0),(5,.i s42)]) (fun s42=>[(0,.box (Q0 s_1))]) g (fun s42 Y43 g=>?_)) (Wk.a [some 0]))
 refine C.seq (C.ss (U.pd 5 T (C.nx ?_)))
 refine C.ite rfl g (fun b46 g=>?_) fun b46 g=>?_
 refine C.skip (C.xs (C.block (C.ss (U.ps 3 T rfl ?_))))
 obtain⟨x49,y49,g⟩:=g
 refine U.ix T y49 ?_
 refine U.ps 1 T rfl (U.al T ?_)
 refine U.st T ?_
 refine U.done (C.xs (C.seq ?_))
 refine C.jn (fun (x50:Bool)=>[(1,.p 0 0),(5,.i s42),(6,.p 1 0),(92,.b x50)]) (fun x50=>[(0,.box (Q0 s_1)),(1,.box [.i x49.Cell,.v (.string x49.Class)])]) 2 g (fun x50 g=>?_) fun J51 g j51=>?_
 refine C.nx ?_
 refine C.ite rfl g (fun b56 g=>?_) fun b56 g=>?_
 refine C.ss (U.pd 1 T (C.nx (C.ret (C.rt (C.brt (C.rt (C.rt (C.brt (C.rt ?_)))))))))
 exact C.f1 T o (pBi g)
 refine C.skip (C.xs ?_)
 refine C.jn (fun (x59:Bool)=>[(1,.p 0 0),(5,.i s42),(111,.b x59)]) (fun x59=>[(0,.box (Q0 s_1))]) 1 g (fun x59 g=>?_) fun J60 g j60=>?_
 refine C.nx ?_
 refine C.ite rfl g (fun b66 g=>?_) fun b66 g=>?_
 refine C.ss (U.pd 1 T (C.nx (C.ret (C.brt (C.rt (C.rt (C.brt (C.rt ?_))))))))
 exact C.f1 T o (pBi g)
 refine C.skip (C.bnx (C.nx (U.start (U.pd 3 T (C.nx ?_)))))
 exact St.wk (C.next g) (Wk.a [some 0])
 refine D.bq mix 9999 [0,1] [] (fun hQ hS ws M'=>?_)
 refine D.pq 5 (zl [0,1,2,3,4]) T ?_
 obtain⟨x61,y61,g⟩:=g
 refine D.ix 5 [] T y61 ?_
 refine D.pq 1 [(6,[])] T ?_
 refine D.k 7 (XR x61 _ g) en52 fun x62 g=>?_
 refine D.pq 2 (zl [8,9]) T ?_
 refine g.cs (fun b63 g=>?_) fun b63 g=>?_
 refine D.pt 10 [] 9 false 102 (ntF b63) T ?_
 refine D.q 11 [] hQ hS rfl (.tk 9 false 102 (ntF b63)) rfl rfl (by exact Rd.l T rfl rfl rfl) rfl (by kernel_rfl) ?_
 refine D.pt 12 [] 9 false 102 (ntF b63) T ?_
 obtain⟨y64,g⟩:=g
 refine D.q 13 [] hQ hS rfl (.tk 9 false 102 (ntF b63)) rfl rfl (by exact Rd.so T rfl rfl rfl rfl rfl (.none _) (.some _ rfl) y64) rfl (by kernel_rfl) ?_
 refine D.pt 14 [] 9 false 102 (ntF b63) T ?_
 refine D.q 15 [] hQ hS rfl (.tk 9 false 102 (ntF b63)) rfl rfl (by exact Rd.l T rfl rfl rfl) rfl (by kernel_rfl) ?_
 refine D.k 16 (X7 (sub s_1.Shelves 0 s42) x49.Cell _ g) en53 (fun x65 g=>?_) (hw:=.take 9 false 102 _ (ntF b63) rfl rfl rfl)
 refine D.pt 17 [] 9 false 102 (ntF b63) T ?_
 refine D.kf 18 [] (ntF b63) ?_
 refine D.done (by kernel_rfl) ?_
 exact St.wa [some 0] (j60 _ g)
 refine D.sz 10 [] 9 false 102 (ntT b63) ?_
 refine D.sz 11 [] 9 false 102 (ntT b63) ?_
 refine D.sz 12 [] 9 false 102 (ntT b63) ?_
 refine D.sz 13 [] 9 false 102 (ntT b63) ?_
 refine D.sz 14 [] 9 false 102 (ntT b63) ?_
 refine D.sz 15 [] 9 false 102 (ntT b63) ?_
 refine D.sz 16 [] 9 false 102 (ntT b63) ?_
 refine D.sz 17 [] 9 false 102 (ntT b63) ?_
 refine D.kt 18 [] (ntT b63) ?_
 refine D.done (by kernel_rfl) ?_
 exact St.wa [some 0] (j60 _ g)
 refine U.start (U.ps 4 T rfl (U.k (QU s_1.Floor x49.Cell _ g) en23 (fun x52 g=>?_)))
 refine U.ps 2 T rfl ?_
 refine g.cs (fun b53 g=>?_) fun b53 g=>?_
 refine U.pq 4 6 false 82 (ntF b53) T ?_
 refine g.cs (fun b54 g=>?_) fun b54 g=>?_
 refine U.sk' 4 10 true 86 (ntF b54) ?_
 refine U.r rfl (.tk 6 false 82 (ntF b53)) rfl rfl (by exact Rd.pk' rfl rfl (ntF b54) rfl) ?_
 refine U.pk' (ntF b53) ?_
 refine U.done ?_
 exact St.wa (idR 2) (j51 _ g)
 refine U.pq 2 10 true 86 (ntT b54) T ?_
 refine U.k (X0 x49.Class _ g) en50 (fun x55 g=>?_) (hw:=.take 10 true 86 _ (ntT b54) rfl rfl rfl)
 refine U.pq 1 10 true 86 (ntT b54) T ?_
 refine U.r rfl (.tk 6 false 82 (ntF b53)) rfl rfl (by exact Rd.pk rfl rfl (ntT b54) rfl) ?_
 refine U.pk' (ntF b53) ?_
 refine U.done ?_
 exact St.wa (idR 2) (j51 _ g)
 refine U.sk' 4 6 false 82 (ntT b53) ?_
 refine U.sku 4 10 true 86 rfl rfl rfl ?_
 refine U.sk' 1 6 false 82 (ntT b53) ?_
 refine U.pk (ntT b53) ?_
 refine U.done ?_
 exact St.wa (idR 2) (j51 _ g)
 refine C.exit (C.ex (C.ex (C.bex ?_)))
 exact St.wa [some 0] (j41 _ g)
 refine C.block (St.wk (C.loop (fun (s17:Int)=>[(1,.p 0 0),(3,.i s17)]) (fun s17=>[(0,.box (Q0 s_1))]) g (fun s17 Y18 g=>?_)) (Wk.a [some 0]))
 refine C.seq (C.ss (U.pd 5 T (C.nx ?_)))
 refine C.ite rfl g (fun b21 g=>?_) fun b21 g=>?_
 refine C.skip (C.xs (C.block (C.ss (U.ps 3 T rfl ?_))))
 obtain⟨x24,y24,g⟩:=g
 refine U.ix T y24 ?_
 refine U.ps 1 T rfl (U.al T ?_)
 refine U.st T ?_
 refine U.done (C.xs ?_)
 refine C.jn (fun (x25:Bool)=>[(1,.p 0 0),(3,.i s17),(63,.b x25)]) (fun x25=>[(0,.box (Q0 s_1))]) 1 g (fun x25 g=>?_) fun J26 g j26=>?_
 refine C.nx ?_
 refine C.ite rfl g (fun b33 g=>?_) fun b33 g=>?_
 refine C.ss (U.pd 1 T (C.nx (C.ret (C.brt (C.rt (C.rt (C.brt (C.rt ?_))))))))
 exact C.f1 T o (pBi g)
 refine C.skip (C.bnx (C.nx (U.start (U.pd 3 T (C.nx ?_)))))
 exact St.wk (C.next g) (Wk.a [some 0])
 refine D.bq mix 9999 [0,1] [] (fun hQ hS ws M'=>?_)
 refine D.pq 2 (zl [0,1]) T ?_
 refine D.k 2 (X0 x24.A _ g) en50 fun x27 g=>?_
 refine D.pq 2 (zl [3,4]) T ?_
 refine g.cs (fun b28 g=>?_) fun b28 g=>?_
 refine D.pt 5 [] 4 false 47 (ntF b28) T ?_
 refine D.q 6 [] hQ hS rfl (.tk 4 false 47 (ntF b28)) rfl rfl (by exact Rd.l T rfl rfl rfl) rfl (by kernel_rfl) ?_
 refine D.k 7 (X0 x24.B _ g) en50 (fun x29 g=>?_) (hw:=.take 4 false 47 _ (ntF b28) rfl rfl rfl)
 refine D.pt 8 [] 4 false 47 (ntF b28) T ?_
 refine D.kf 9 [] (ntF b28) ?_
 refine D.pq 1 [(10,[])] T ?_
 refine g.cs (fun b30 g=>?_) fun b30 g=>?_
 refine D.pt 11 [] 10 false 53 (ntF b30) T ?_
 refine D.q 12 [] hQ hS rfl (.tk 10 false 53 (ntF b30)) rfl rfl (by exact Rd.l T rfl rfl rfl) rfl (by kernel_rfl) ?_
 refine D.pt 13 [] 10 false 53 (ntF b30) T ?_
 obtain⟨y31,g⟩:=g
 refine D.q 14 [] hQ hS rfl (.tk 10 false 53 (ntF b30)) rfl rfl (by exact Rd.so T rfl rfl rfl rfl rfl (.none _) (.some _ rfl) y31) rfl (by kernel_rfl) ?_
 refine D.pt 15 [] 10 false 53 (ntF b30) T ?_
 refine D.q 16 [] hQ hS rfl (.tk 10 false 53 (ntF b30)) rfl rfl (by exact Rd.l T rfl rfl rfl) rfl (by kernel_rfl) ?_
 refine D.pt 17 [] 10 false 53 (ntF b30) T ?_
 refine D.q 18 [] hQ hS rfl (.tk 10 false 53 (ntF b30)) rfl rfl (by exact Rd.l T rfl rfl rfl) rfl (by kernel_rfl) ?_
 refine D.k 19 (XZ (sub s_1.Aparts 0 s17) x24.A x24.B _ g) en51 (fun x32 g=>?_) (hw:=.take 10 false 53 _ (ntF b30) rfl rfl rfl)
 refine D.kf 20 [] (ntF b30) ?_
 refine D.done (by kernel_rfl) ?_
 exact St.wa [some 0] (j26 _ g)
 refine D.sz 11 [] 10 false 53 (ntT b30) ?_
 refine D.sz 12 [] 10 false 53 (ntT b30) ?_
 refine D.sz 13 [] 10 false 53 (ntT b30) ?_
 refine D.sz 14 [] 10 false 53 (ntT b30) ?_
 refine D.sz 15 [] 10 false 53 (ntT b30) ?_
 refine D.sz 16 [] 10 false 53 (ntT b30) ?_
 refine D.sz 17 [] 10 false 53 (ntT b30) ?_
 refine D.sz 18 [] 10 false 53 (ntT b30) ?_
 refine D.sz 19 [] 10 false 53 (ntT b30) ?_
 refine D.kt 20 [] (ntT b30) ?_
 refine D.done (by kernel_rfl) ?_
 exact St.wa [some 0] (j26 _ g)
 refine D.sz 5 [] 4 false 47 (ntT b28) ?_
 refine D.sz 6 [] 4 false 47 (ntT b28) ?_
 refine D.sz 7 [] 4 false 47 (ntT b28) ?_
 refine D.sz 8 [] 4 false 47 (ntT b28) ?_
 refine D.kt 9 [] (ntT b28) ?_
 refine D.pq 1 [(10,[])] T ?_
 refine D.sz 11 [] 10 false 53 rfl ?_
 refine D.sz 12 [] 10 false 53 rfl ?_
 refine D.sz 13 [] 10 false 53 rfl ?_
 refine D.sz 14 [] 10 false 53 rfl ?_
 refine D.sz 15 [] 10 false 53 rfl ?_
 refine D.sz 16 [] 10 false 53 rfl ?_
 refine D.sz 17 [] 10 false 53 rfl ?_
 refine D.sz 18 [] 10 false 53 rfl ?_
 refine D.sz 19 [] 10 false 53 rfl ?_
 refine D.kt 20 [] rfl ?_
 refine D.done (by kernel_rfl) ?_
 exact St.wa [some 0] (j26 _ g)
 refine C.exit (C.ex (C.ex (C.bex ?_)))
 exact St.wa [some 0] (j16 _ g)
 refine U.start (U.ps 2 T rfl (U.k (Yf s_1.Floor _ g) en48 (fun x5 g=>?_)))
 refine U.ps 2 T rfl ?_
 refine g.cs (fun b6 g=>?_) fun b6 g=>?_
 refine U.pq 1 4 false 14 (ntF b6) T ?_
 refine U.k (Gs s_1 _ g) en49 (fun x7 g=>?_) (hw:=.take 4 false 14 _ (ntF b6) rfl rfl rfl)
 refine U.pq 1 4 false 14 (ntF b6) T ?_
 refine U.pk' (ntF b6) ?_
 refine U.ps 1 T rfl ?_
 refine g.cs (fun b8 g=>?_) fun b8 g=>?_
 refine U.pq 4 9 false 19 (ntF b8) T ?_
 refine U.pk' (ntF b8) ?_
 refine U.ps 1 T rfl ?_
 refine g.cs (fun b9 g=>?_) fun b9 g=>?_
 refine U.sk' 4 15 false 25 b9 ?_
 refine U.pk b9 ?_
 refine U.done ?_
 exact St.wa [some 0] (j4 _ g)
 refine U.pq 4 15 false 25 b9 T ?_
 refine U.pk' b9 ?_
 refine U.done ?_
 exact St.wa [some 0] (j4 _ g)
 refine U.sk' 4 9 false 19 (ntT b8) ?_
 refine U.pk (ntT b8) ?_
 refine U.ps 1 T rfl (U.sk' 4 15 false 25 rfl ?_)
 refine U.pk rfl ?_
 refine U.done ?_
 exact St.wa [some 0] (j4 _ g)
 refine U.sk' 3 4 false 14 (ntT b6) ?_
 refine U.pk (ntT b6) ?_
 refine U.ps 1 T rfl (U.sk' 4 9 false 19 rfl ?_)
 refine U.pk rfl ?_
 refine U.ps 1 T rfl (U.sk' 4 15 false 25 rfl ?_)
 refine U.pk rfl ?_
 refine U.done ?_
 exact St.wa [some 0] (j4 _ g)
theorem Z0 (st:ApiState) (post:Bool→Prop) (g:KG st post):
  Tr Tryz.prog 21 [.agg (Q4 st)] [] 0 (pB post):=by
 refine Tr.go Tryz.func21 Tryz.ntmps21 fun _ _ _ _ o=>?_
 unfold KG at g
 refine C.ss (U.bx ?_)
 refine U.pd 1 T (C.xs (C.seq ?_))
 refine C.jn (fun (x3:Bool)=>[(1,.p 0 0),(33,.b x3)]) (fun x3=>[(0,.box (Q4 st))]) 1 g (fun x3 g=>?_) fun J4 g j4=>?_
 refine C.nx ?_
 refine C.ite rfl g (fun b9 g=>?_) fun b9 g=>?_
 refine C.ss (U.pd 1 T (C.nx (C.ret (C.rt ?_))))
 exact C.f1 T o (pBi g)
 refine C.skip (C.xs (D.bq mix 9999 [0] [1,2,3] (fun hQ hS ws M'=>?_)))
 refine D.pq 6 (zl [1,2,4,5,7,8]) T ?_
 refine D.e1 0 rfl (.none rfl) (by exact Eff1.bs T (enc:=eI) (xs:=([]:List Int)) rfl rfl rfl rfl rfl rfl rfl rfl rfl rfl (fun _ _=>rfl) rfl rfl) (by kernel_rfl) rfl rfl ?_
 obtain⟨y14,g⟩:=g
 refine D.e1 3 rfl (.none rfl) (by exact Eff1.ap T rfl rfl rfl rfl rfl rfl (.inl rfl) rfl rfl rfl (fun _=>rfl) rfl y14) (by kernel_rfl) rfl rfl ?_
 obtain⟨y15,g⟩:=g
 refine D.e1 6 rfl (.none rfl) (by exact Eff1.ap T rfl rfl rfl rfl rfl rfl (.inl rfl) rfl rfl rfl (fun _=>rfl) rfl y15) (by kernel_rfl) rfl rfl ?_
 obtain⟨y16,g⟩:=g
 refine D.e1 9 rfl (.none rfl) (by exact Eff1.ap T rfl rfl rfl rfl rfl rfl (.inl rfl) rfl rfl rfl (fun _=>rfl) rfl y16) (by kernel_rfl) rfl rfl ?_
 refine D.pq 1 [(10,[])] T ?_
 refine D.done (by kernel_rfl) ?_
 refine C.xs (C.ss (U.pd 1 T (C.nx ?_)))
 refine C.jn (fun (x19:List Int)=>[(3,.o 0)]) (fun x19=>[(0,.val (.os 1 eI x19))]) 1 g (fun x19 g=>?_) fun J20 g j20=>?_
 refine C.xs (C.ss (U.pd 1 T (C.nx ?_)))
 refine C.jn (fun (x34:Unit)=>[]) (fun x34=>[]) 0 g (fun x34 g=>?_) fun J35 g j35=>?_
 refine C.xt (U.pd 1 T (C.nx (C.ret ?_)))
 exact C.f1 T o (pBi g)
 refine C.block (St.wk (C.loop (fun (s36:Int)=>[(3,.o 0),(5,.i s36)]) (fun s36=>[(0,.val (.os 1 eI x19))]) g (fun s36 Y37 g=>?_)) (Wk.a [some 0]))
 refine C.seq (C.ss (U.pd 4 T (C.nx ?_)))
 refine C.ite rfl g (fun b40 g=>?_) fun b40 g=>?_
 refine C.skip (C.xs (C.block (C.seq ?_)))
 refine C.jn (fun (x41:Bool)=>[(3,.o 0),(5,.i s36),(77,.b x41)]) (fun x41=>[(0,.val (.os 1 eI x19))]) 1 g (fun x41 g=>?_) fun J42 g j42=>?_
 refine C.nx ?_
 refine C.ite rfl g (fun b45 g=>?_) fun b45 g=>?_
 refine C.ss (U.pd 1 T (C.nx (C.ret (C.brt (C.rt (C.rt (C.brt (C.rt ?_))))))))
 exact C.f1 T o (pBi g)
 refine C.skip (C.bnx (C.nx (U.start (U.pd 3 T (C.nx ?_)))))
 exact St.wk (C.next g) (Wk.a [some 0])
 refine U.start (U.ps 2 T rfl ?_)
 obtain⟨x43,y43,g⟩:=g
 refine U.r rfl (.none rfl) rfl rfl (by exact Rd.io T rfl rfl rfl rfl rfl rfl rfl y43) ?_
 refine U.r rfl (.none rfl) rfl rfl (by exact Rd.le T rfl rfl rfl (Q9 y43).2.2 rfl rfl rfl) ?_
 refine U.ps 2 T rfl ?_
 refine g.cs (fun b44 g=>?_) fun b44 g=>?_
 refine U.sk' 5 5 false 71 b44 ?_
 refine U.pk b44 ?_
 refine U.done ?_
 exact St.wa [some 0] (j42 _ g)
 refine U.pq 2 5 false 71 b44 T ?_
 refine U.r rfl (.tk 5 false 71 b44) rfl rfl (by exact Rd.io T rfl rfl rfl rfl rfl rfl rfl y43) ?_
 refine U.r rfl (.tk 5 false 71 b44) rfl rfl (by exact Rd.le T rfl rfl rfl (Q9 y43).2.2 rfl rfl rfl) ?_
 refine U.pq 1 5 false 71 b44 T ?_
 refine U.pk' b44 ?_
 refine U.done ?_
 exact St.wa [some 0] (j42 _ g)
 refine C.exit (C.ex (C.ex (C.bex ?_)))
 exact St.wk (j35 _ g) (Wk.mk' [] rfl rfl trivial trivial rfl)
 refine C.block (St.wk (C.loop (fun (s21:List Int×Int)=>[(1,.p 0 0),(3,.o 1),(4,.i s21.2)]) (fun s21=>[(0,.box (Q4 st)),(1,.val (.os 1 eI s21.1))]) g (fun s21 Y22 g=>?_)) (Wk.a [some 0,some 4]))
 refine C.seq (C.ss (U.pd 5 T (C.nx ?_)))
 refine C.ite rfl g (fun b25 g=>?_) fun b25 g=>?_
 refine C.skip (C.xs (C.block (U.start (U.ps 4 T rfl ?_))))
 obtain⟨x28,y28,g⟩:=g
 refine U.ix T y28 ?_
 refine U.ps 2 T rfl (U.bs T eI ([x28.Cell]:List Int) ?_)
 obtain⟨y29,g⟩:=g
 refine U.ap T y29 ?_
 refine U.pd 1 T (C.bnx (C.nx (U.start ?_)))
 refine U.pd 3 T (C.nx ?_)
 exact St.wk (C.next g) (Wk.a [some 0,some 3])
 refine C.exit (C.ex (C.ex (C.bex ?_)))
 exact St.wa [some 1] (j20 _ g)
 refine U.start (U.ps 5 T rfl ?_)
 refine g.cs (fun b5 g=>?_) fun b5 g=>?_
 refine U.sk' 4 4 false 10 b5 ?_
 refine U.pk b5 ?_
 refine U.ps 1 T rfl (U.sk' 4 10 false 16 rfl ?_)
 refine U.pk rfl ?_
 refine U.ps 1 T rfl (U.sk' 4 16 false 22 rfl ?_)
 refine U.pk rfl ?_
 refine U.ps 1 T rfl (U.sk' 4 22 false 28 rfl ?_)
 refine U.pk rfl ?_
 refine U.done ?_
 exact St.wa [some 0] (j4 _ g)
 refine U.pq 4 4 false 10 b5 T ?_
 refine U.pk' b5 ?_
 refine U.ps 1 T rfl ?_
 refine g.cs (fun b6 g=>?_) fun b6 g=>?_
 refine U.sk' 4 10 false 16 b6 ?_
 refine U.pk b6 ?_
 refine U.ps 1 T rfl (U.sk' 4 16 false 22 rfl ?_)
 refine U.pk rfl ?_
 refine U.ps 1 T rfl (U.sk' 4 22 false 28 rfl ?_)
 refine U.pk rfl ?_
 refine U.done ?_
 exact St.wa [some 0] (j4 _ g)
 refine U.pq 4 10 false 16 b6 T ?_
 refine U.pk' b6 ?_
 refine U.ps 1 T rfl ?_
 refine g.cs (fun b7 g=>?_) fun b7 g=>?_
 refine U.sk' 4 16 false 22 b7 ?_
 refine U.pk b7 ?_
 refine U.ps 1 T rfl (U.sk' 4 22 false 28 rfl ?_)
 refine U.pk rfl ?_
 refine U.done ?_
 exact St.wa [some 0] (j4 _ g)
 refine U.pq 4 16 false 22 b7 T ?_
 refine U.pk' b7 ?_
 refine U.ps 1 T rfl ?_
 refine g.cs (fun b8 g=>?_) fun b8 g=>?_
 refine U.sk' 4 22 false 28 b8 ?_
 refine U.pk b8 ?_
 refine U.done ?_
 exact St.wa [some 0] (j4 _ g)
 refine U.pq 4 22 false 28 b8 T ?_
 refine U.pk' b8 ?_
 refine U.done ?_
 exact St.wa [some 0] (j4 _ g)
theorem X2 (f:ApiFloor) (c:Int) (post:Int→Prop) (g:Ql f c post):
  Tr Tryz.prog 59 [.agg (Qi f),.i c] [] 0 (pI post):=by
 refine Tr.go Tryz.func59 Tryz.ntmps59 fun _ _ _ _ o=>?_
 unfold Ql at g
 refine C.ss (U.bx ?_)
 refine U.pd 1 T (C.xs (C.seq ?_))
 refine C.jn (fun (x3:Bool)=>[(1,.i c),(2,.p 0 0),(13,.b x3)]) (fun x3=>[(0,.box (Qi f))]) 1 g (fun x3 g=>?_) fun J4 g j4=>?_
 refine C.nx ?_
 refine C.ite rfl g (fun b6 g=>?_) fun b6 g=>?_
 refine C.ss (U.pd 1 T (C.nx (C.ret (C.rt ?_))))
 exact C.f1 T o (pIi g)
 refine C.skip (C.xt (U.ps 3 T rfl ?_))
 obtain⟨x11,y11,g⟩:=g
 refine U.ix T y11 ?_
 refine U.pd 2 T (C.nx (C.ret ?_))
 exact C.f1 T o (pIi g)
 refine U.start (U.ps 3 T rfl ?_)
 refine g.cs (fun b5 g=>?_) fun b5 g=>?_
 refine U.sk' 5 2 false 7 b5 ?_
 refine U.pk b5 ?_
 refine U.done ?_
 exact St.wa [some 0] (j4 _ g)
 refine U.pq 5 2 false 7 b5 T ?_
 refine U.pk' b5 ?_
 refine U.done ?_
 exact St.wa [some 0] (j4 _ g)
theorem X6 (st:ApiState) (shelf:Int) (post:Int→Prop) (g:Qo st shelf post):
  Tr Tryz.prog 60 [.agg (Q4 st),.i shelf] [] 0 (pI post):=by
 refine Tr.go Tryz.func60 Tryz.ntmps60 fun _ _ _ _ o=>?_
 unfold Qo at g
 refine C.ss (U.bx ?_)
 refine U.pd 1 T (C.xs (C.ss ?_))
 refine U.pd 1 T (C.nx ?_)
 refine C.jn (fun (x5:Unit)=>[]) (fun x5=>[]) 0 g (fun x5 g=>?_) fun J6 g j6=>?_
 refine C.xt (U.pd 1 T (C.nx (C.ret ?_)))
 exact C.f1 T o (pIi g)
 refine C.block (St.wk (C.loop (fun (s7:Int)=>[(1,.i shelf),(2,.p 0 0),(5,.i s7)]) (fun s7=>[(0,.box (Q4 st))]) g (fun s7 Y8 g=>?_)) (Wk.a [some 0]))
 refine C.seq (C.seq ?_)
 refine C.jn (fun (x9:Bool)=>[(1,.i shelf),(2,.p 0 0),(5,.i s7),(14,.b x9)]) (fun x9=>[(0,.box (Q4 st))]) 1 g (fun x9 g=>?_) fun J10 g j10=>?_
 refine C.nx ?_
 refine C.ite rfl g (fun b12 g=>?_) fun b12 g=>?_
 refine C.skip (C.xs (C.block (C.ss (U.ps 3 T rfl ?_))))
 obtain⟨x15,y15,g⟩:=g
 refine U.ix T y15 ?_
 refine U.pd 4 T (C.nx ?_)
 refine C.ite rfl g (fun b16 g=>?_) fun b16 g=>?_
 refine C.ss (U.pd 2 T (C.nx (C.ret (C.brt (C.rt (C.rt (C.brt (C.rt ?_))))))))
 exact C.f1 T o (pIi g)
 refine C.skip (C.bnx (C.nx (U.start (U.pd 3 T (C.nx ?_)))))
 exact St.wk (C.next g) (Wk.a [some 0])
 refine C.exit (C.ex (C.ex (C.bex ?_)))
 exact St.wk (j6 _ g) (Wk.mk' [] rfl rfl trivial trivial rfl)
 refine U.start (U.ps 6 T rfl ?_)
 refine g.cs (fun b11 g=>?_) fun b11 g=>?_
 refine U.pq 2 5 true 11 b11 T ?_
 refine U.pk b11 ?_
 refine U.done ?_
 exact St.wa [some 0] (j10 _ g)
 refine U.sk' 2 5 true 11 b11 ?_
 refine U.pk' b11 ?_
 refine U.done ?_
 exact St.wa [some 0] (j10 _ g)
theorem Yc (s_1:ApiSite) (st:ApiState) (i:Int) (post:Bool→Prop) (g:QY s_1 st i post):
  Tr Tryz.prog 58 [.agg (Q0 s_1),.agg (Q4 st),.i i] [] 0 (pB post):=by
 refine Tr.go Tryz.func58 Tryz.ntmps58 fun _ _ _ _ o=>?_
 unfold QY at g
 refine C.ss (U.bx ?_)
 refine U.bx ?_
 refine U.pd 1 T (C.xt ?_)
 refine U.ps 3 T rfl ?_
 obtain⟨x5,y5,g⟩:=g
 refine U.ix T y5 ?_
 refine U.ps 1 T rfl (U.al T ?_)
 refine U.st T ?_
 refine U.done (C.xt (U.ps 4 T rfl (U.k (X2 s_1.Floor x5.Cell _ g) en59 (fun x8 g=>?_))))
 refine U.pd 1 T (C.xs (C.seq ?_))
 refine C.jn (fun (x9:Bool)=>[(2,.i i),(4,.p 0 0),(7,.p 1 0),(67,.b x9)]) (fun x9=>[(0,.box (Q4 st)),(1,.box (QV x5))]) 2 g (fun x9 g=>?_) fun J10 g j10=>?_
 refine C.nx ?_
 refine C.ite rfl g (fun b20 g=>?_) fun b20 g=>?_
 refine C.ss (U.pd 1 T (C.nx (C.ret (C.rt ?_))))
 exact C.f1 T o (pBi g)
 refine C.skip (C.xs (C.ss (U.pd 3 T (C.nx ?_))))
 refine C.ite rfl g (fun b25 g=>?_) fun b25 g=>?_
 refine C.seq ?_
 refine C.jn (fun (x26:Bool)=>[(6,.b x26)]) (fun x26=>[]) 0 g (fun x26 g=>?_) fun J27 g j27=>?_
 refine C.nx (C.ret (C.rt ?_))
 exact C.f1 T o (pBi g)
 refine D.bq mix 9999 [0,1] [] (fun hQ hS ws M'=>?_)
 refine D.pq 4 (zl [0,1,2,4]) T ?_
 refine D.k 3 (X6 st x5.Load _ g) en60 fun x28 g=>?_
 refine D.pq 2 (zl [5,6]) T ?_
 refine g.cs (fun b29 g=>?_) fun b29 g=>?_
 refine D.pt 7 [] 6 true 77 b29 T ?_
 refine D.q 8 [] hQ hS rfl (.tk 6 true 77 b29) rfl rfl (by exact Rd.l T rfl rfl rfl) rfl (by kernel_rfl) ?_
 refine D.pt 9 [] 6 true 77 b29 T ?_
 refine D.q 10 [] hQ hS rfl (.tk 6 true 77 b29) rfl rfl (by exact Rd.l T rfl rfl rfl) rfl (by kernel_rfl) ?_
 obtain⟨x30,y30,g⟩:=g
 refine D.q 11 [] hQ hS rfl (.tk 6 true 77 b29) rfl rfl (by exact Rd.ix T rfl rfl rfl rfl rfl rfl y30) rfl (by kernel_rfl) ?_
 refine D.q 12 [] hQ hS rfl (.tk 6 true 77 b29) rfl rfl (by exact Rd.l T rfl rfl rfl) rfl (by kernel_rfl) ?_
 refine D.pt 13 [] 6 true 77 b29 T ?_
 refine D.q 14 [] hQ hS rfl (.tk 6 true 77 b29) rfl rfl (by exact Rd.l T rfl rfl rfl) rfl (by kernel_rfl) ?_
 refine D.pt 15 [] 6 true 77 b29 T ?_
 refine D.kt 16 [] b29 ?_
 refine D.pq 1 [(17,[])] T ?_
 refine D.done (by kernel_rfl) ?_
 exact St.wn (j27 _ g)
 refine D.sz 7 [] 6 true 77 b29 ?_
 refine D.sz 8 [] 6 true 77 b29 ?_
 refine D.sz 9 [] 6 true 77 b29 ?_
 refine D.sz 10 [] 6 true 77 b29 ?_
 refine D.sz 11 [] 6 true 77 b29 ?_
 refine D.sz 12 [] 6 true 77 b29 ?_
 refine D.sz 13 [] 6 true 77 b29 ?_
 refine D.sz 14 [] 6 true 77 b29 ?_
 refine D.sz 15 [] 6 true 77 b29 ?_
 refine D.kf 16 [] b29 ?_
 refine D.pq 1 [(17,[])] T ?_
 refine D.done (by kernel_rfl) ?_
 exact St.wn (j27 _ g)
 refine C.skip (C.xt (U.pd 1 T (C.nx (C.ret ?_))))
 exact C.f1 T o (pBi g)
 refine U.start (U.ps 3 T rfl ?_)
 refine g.cs (fun b11 g=>?_) fun b11 g=>?_
 refine U.sk' 2 2 false 21 b11 ?_
 refine U.pk b11 ?_
 refine U.ps 1 T rfl (U.sk' 3 6 false 25 rfl ?_)
 refine U.pk rfl ?_
 refine U.ps 1 T rfl (U.sk' 6 11 false 30 rfl ?_)
 refine U.pk rfl ?_
 refine U.ps 1 T rfl (U.sk' 3 19 false 38 rfl ?_)
 refine U.pk rfl ?_
 refine U.ps 1 T rfl (U.sk' 3 24 false 43 rfl ?_)
 refine U.pk rfl ?_
 refine U.ps 1 T rfl (U.sk' 3 29 false 48 rfl ?_)
 refine U.pk rfl ?_
 refine U.ps 1 T rfl (U.sk' 3 34 false 53 rfl ?_)
 refine U.pk rfl ?_
 refine U.ps 1 T rfl (U.sk' 3 39 false 58 rfl ?_)
 refine U.pk rfl ?_
 refine U.ps 1 T rfl (U.sk' 3 44 false 63 rfl ?_)
 refine U.pk rfl ?_
 refine U.done ?_
 exact St.wa (sqR 1 2) (j10 _ g)
 refine U.pq 2 2 false 21 b11 T ?_
 refine U.pk' b11 ?_
 refine U.ps 1 T rfl ?_
 refine g.cs (fun b12 g=>?_) fun b12 g=>?_
 refine U.sk' 3 6 false 25 b12 ?_
 refine U.pk b12 ?_
 refine U.ps 1 T rfl (U.sk' 6 11 false 30 rfl ?_)
 refine U.pk rfl ?_
 refine U.ps 1 T rfl (U.sk' 3 19 false 38 rfl ?_)
 refine U.pk rfl ?_
 refine U.ps 1 T rfl (U.sk' 3 24 false 43 rfl ?_)
 refine U.pk rfl ?_
 refine U.ps 1 T rfl (U.sk' 3 29 false 48 rfl ?_)
 refine U.pk rfl ?_
 refine U.ps 1 T rfl (U.sk' 3 34 false 53 rfl ?_)
 refine U.pk rfl ?_
 refine U.ps 1 T rfl (U.sk' 3 39 false 58 rfl ?_)
 refine U.pk rfl ?_
 refine U.ps 1 T rfl (U.sk' 3 44 false 63 rfl ?_)
 refine U.pk rfl ?_
 refine U.done ?_
 exact St.wa (sqR 1 2) (j10 _ g)
 refine U.pq 3 6 false 25 b12 T ?_
 refine U.pk' b12 ?_
 refine U.ps 1 T rfl ?_
 refine g.cs (fun b13 g=>?_) fun b13 g=>?_
 refine U.sk' 6 11 false 30 b13 ?_
 refine U.pk b13 ?_
 refine U.ps 1 T rfl (U.sk' 3 19 false 38 rfl ?_)
 refine U.pk rfl ?_
 refine U.ps 1 T rfl (U.sk' 3 24 false 43 rfl ?_)
 refine U.pk rfl ?_
 refine U.ps 1 T rfl (U.sk' 3 29 false 48 rfl ?_)
 refine U.pk rfl ?_
 refine U.ps 1 T rfl (U.sk' 3 34 false 53 rfl ?_)
 refine U.pk rfl ?_
 refine U.ps 1 T rfl (U.sk' 3 39 false 58 rfl ?_)
 refine U.pk rfl ?_
 refine U.ps 1 T rfl (U.sk' 3 44 false 63 rfl ?_)
 refine U.pk rfl ?_
 refine U.done ?_
 exact St.wa (sqR 1 2) (j10 _ g)
 refine U.pq 6 11 false 30 b13 T ?_
 refine U.pk' b13 ?_
 refine U.ps 1 T rfl ?_
 refine g.cs (fun b14 g=>?_) fun b14 g=>?_
 refine U.sk' 3 19 false 38 b14 ?_
 refine U.pk b14 ?_
 refine U.ps 1 T rfl (U.sk' 3 24 false 43 rfl ?_)
 refine U.pk rfl ?_
 refine U.ps 1 T rfl (U.sk' 3 29 false 48 rfl ?_)
 refine U.pk rfl ?_
 refine U.ps 1 T rfl (U.sk' 3 34 false 53 rfl ?_)
 refine U.pk rfl ?_
 refine U.ps 1 T rfl (U.sk' 3 39 false 58 rfl ?_)
 refine U.pk rfl ?_
 refine U.ps 1 T rfl (U.sk' 3 44 false 63 rfl ?_)
 refine U.pk rfl ?_
 refine U.done ?_
 exact St.wa (sqR 1 2) (j10 _ g)
 refine U.pq 3 19 false 38 b14 T ?_
 refine U.pk' b14 ?_
 refine U.ps 1 T rfl ?_
 refine g.cs (fun b15 g=>?_) fun b15 g=>?_
 refine U.sk' 3 24 false 43 b15 ?_
 refine U.pk b15 ?_
 refine U.ps 1 T rfl (U.sk' 3 29 false 48 rfl ?_)
 refine U.pk rfl ?_
 refine U.ps 1 T rfl (U.sk' 3 34 false 53 rfl ?_)
 refine U.pk rfl ?_
 refine U.ps 1 T rfl (U.sk' 3 39 false 58 rfl ?_)
 refine U.pk rfl ?_
 refine U.ps 1 T rfl (U.sk' 3 44 false 63 rfl ?_)
 refine U.pk rfl ?_
 refine U.done ?_
 exact St.wa (sqR 1 2) (j10 _ g)
 refine U.pq 3 24 false 43 b15 T ?_
 refine U.pk' b15 ?_
 refine U.ps 1 T rfl ?_
 refine g.cs (fun b16 g=>?_) fun b16 g=>?_
 refine U.sk' 3 29 false 48 b16 ?_
 refine U.pk b16 ?_
 refine U.ps 1 T rfl (U.sk' 3 34 false 53 rfl ?_)
 refine U.pk rfl ?_
 refine U.ps 1 T rfl (U.sk' 3 39 false 58 rfl ?_)
 refine U.pk rfl ?_
 refine U.ps 1 T rfl (U.sk' 3 44 false 63 rfl ?_)
 refine U.pk rfl ?_
 refine U.done ?_
 exact St.wa (sqR 1 2) (j10 _ g)
 refine U.pq 3 29 false 48 b16 T ?_
 refine U.pk' b16 ?_
 refine U.ps 1 T rfl ?_
 refine g.cs (fun b17 g=>?_) fun b17 g=>?_
 refine U.sk' 3 34 false 53 b17 ?_
 refine U.pk b17 ?_
 refine U.ps 1 T rfl (U.sk' 3 39 false 58 rfl ?_)
 refine U.pk rfl ?_
 refine U.ps 1 T rfl (U.sk' 3 44 false 63 rfl ?_)
 refine U.pk rfl ?_
 refine U.done ?_
 exact St.wa (sqR 1 2) (j10 _ g)
 refine U.pq 3 34 false 53 b17 T ?_
 refine U.pk' b17 ?_
 refine U.ps 1 T rfl ?_
 refine g.cs (fun b18 g=>?_) fun b18 g=>?_
 refine U.sk' 3 39 false 58 b18 ?_
 refine U.pk b18 ?_
 refine U.ps 1 T rfl (U.sk' 3 44 false 63 rfl ?_)
 refine U.pk rfl ?_
 refine U.done ?_
 exact St.wa (sqR 1 2) (j10 _ g)
 refine U.pq 3 39 false 58 b18 T ?_
 refine U.pk' b18 ?_
 refine U.ps 1 T rfl ?_
 refine g.cs (fun b19 g=>?_) fun b19 g=>?_
 refine U.sk' 3 44 false 63 b19 ?_
 refine U.pk b19 ?_
 refine U.done ?_
 exact St.wa (sqR 1 2) (j10 _ g)
 refine U.pq 3 44 false 63 b19 T ?_
 refine U.pk' b19 ?_
 refine U.done ?_
 exact St.wa (sqR 1 2) (j10 _ g)
theorem Ze (r:Qz) (c:Int) (post:(List Int)→Prop) (g:KV r c post):
  Tr Tryz.prog 105 [.agg (QV r),.i c] [] 0 (fun A H' k=>∃y,post y∧A=(.o 0)∧H'=[(0,.val (.os 1 eI y))]∧k=1):=by
 refine Tr.go Tryz.func105 Tryz.ntmps105 fun _ _ _ _ o=>?_
 unfold KV at g
 refine C.ss (U.bx ?_)
 refine U.pd 1 T (C.xs (C.ss ?_))
 refine U.pd 3 T (C.nx ?_)
 refine C.ite rfl g (fun b5 g=>?_) fun b5 g=>?_
 refine C.ss (U.ps 2 T rfl (U.bs T eI ([w64 (2*c)]:List Int) ?_))
 refine U.pd 1 T (C.nx (C.ret (C.rt ?_)))
 exact C.g1 [some 1] T o ⟨([w64 (2*c)]:List Int),g,rfl,rfl,rfl⟩
 refine C.skip (C.xt (U.ps 5 T rfl (U.bs T eI ([w64 (2*c),w64 ((w64 (2*c))+1)]:List Int) ?_)))
 refine U.pd 1 T (C.nx (C.ret ?_))
 exact C.g1 [some 1] T o ⟨([w64 (2*c),w64 ((w64 (2*c))+1)]:List Int),g,rfl,rfl,rfl⟩
theorem WT (st:ApiState) (i:Int) (post:(List Int)→Prop) (g:K1 st i post):
  Tr Tryz.prog 84 [.agg (Q4 st),.i i] [] 0 (fun A H' k=>∃y,post y∧A=(.o 0)∧H'=[(0,.val (.os 1 eI y))]∧k=1):=by
 refine Tr.go Tryz.func84 Tryz.ntmps84 fun _ _ _ _ o=>?_
 unfold K1 at g
 refine C.ss (U.bx ?_)
 refine U.pd 1 T (C.xs (C.seq ?_))
 refine C.jn (fun (x3:Bool)=>[(1,.i i),(2,.p 0 0),(13,.b x3)]) (fun x3=>[(0,.box (Q4 st))]) 1 g (fun x3 g=>?_) fun J4 g j4=>?_
 refine C.nx ?_
 refine C.ite rfl g (fun b6 g=>?_) fun b6 g=>?_
 refine C.ss (U.pd 1 T (C.nx (C.ret (C.rt ?_))))
 exact C.g1 [none] T o ⟨[],g,rfl,rfl,rfl⟩
 refine C.skip (C.xs (D.bq mix 9999 [0] [] (fun hQ hS ws M'=>?_)))
 refine D.pq 3 (zl [0,1,2]) T ?_
 obtain⟨x11,y11,g⟩:=g
 refine D.ix 3 [] T y11 ?_
 refine D.pq 4 (zl [4,5,6,7]) T ?_
 refine D.ix 8 [] T y11 ?_
 refine D.pq 2 (zl [9,10]) T ?_
 refine D.k 11 (Ze x11 x11.Cell _ g) Q59 fun x12 g=>?_
 refine D.pq 1 [(12,[])] T ?_
 refine D.done (by kernel_rfl) ?_
 refine C.nx (C.ret ?_)
 exact C.g1 [some 1] T o ⟨x12,g,rfl,rfl,rfl⟩
 refine U.start (U.ps 3 T rfl ?_)
 refine g.cs (fun b5 g=>?_) fun b5 g=>?_
 refine U.sk' 5 2 false 7 b5 ?_
 refine U.pk b5 ?_
 refine U.done ?_
 exact St.wa [some 0] (j4 _ g)
 refine U.pq 5 2 false 7 b5 T ?_
 refine U.pk' b5 ?_
 refine U.done ?_
 exact St.wa [some 0] (j4 _ g)
theorem Y5 (st:ApiState) (s_1:Int) (post:(List Int)→Prop) (g:QX st s_1 post):
  Tr Tryz.prog 85 [.agg (Q4 st),.i s_1] [] 0 (fun A H' k=>∃y,post y∧A=(.o 0)∧H'=[(0,.val (.os 1 eI y))]∧k=1):=by
 refine Tr.go Tryz.func85 Tryz.ntmps85 fun _ _ _ _ o=>?_
 unfold QX at g
 refine C.ss (U.bx ?_)
 refine U.pd 1 T (C.xs (C.seq ?_))
 refine C.jn (fun (x3:Bool)=>[(1,.i s_1),(2,.p 0 0),(19,.b x3)]) (fun x3=>[(0,.box (Q4 st))]) 1 g (fun x3 g=>?_) fun J4 g j4=>?_
 refine C.nx ?_
 refine C.ite rfl g (fun b8 g=>?_) fun b8 g=>?_
 refine C.ss (U.pd 1 T (C.nx (C.ret (C.rt ?_))))
 exact C.g1 [none] T o ⟨[],g,rfl,rfl,rfl⟩
 refine C.skip (C.xt (U.ps 3 T rfl ?_))
 obtain⟨x13,y13,g⟩:=g
 refine U.ix T y13 ?_
 refine U.ps 3 T rfl (U.bs T eI ([w64 ((w64 (2*x13))+1)]:List Int) ?_)
 refine U.pd 1 T (C.nx (C.ret ?_))
 exact C.g1 [some 1] T o ⟨([w64 ((w64 (2*x13))+1)]:List Int),g,rfl,rfl,rfl⟩
 refine U.start (U.ps 3 T rfl ?_)
 refine g.cs (fun b5 g=>?_) fun b5 g=>?_
 refine U.sk' 5 2 false 7 b5 ?_
 refine U.pk b5 ?_
 refine U.ps 1 T rfl (U.sk' 4 9 false 14 rfl ?_)
 refine U.pk rfl ?_
 refine U.done ?_
 exact St.wa [some 0] (j4 _ g)
 refine U.pq 5 2 false 7 b5 T ?_
 refine U.pk' b5 ?_
 refine U.ps 1 T rfl ?_
 refine g.cs (fun b6 g=>?_) fun b6 g=>?_
 refine U.sk' 4 9 false 14 b6 ?_
 refine U.pk b6 ?_
 refine U.done ?_
 exact St.wa [some 0] (j4 _ g)
 refine U.pq 2 9 false 14 b6 T ?_
 refine U.k (X6 st s_1 _ g) en60 (fun x7 g=>?_) (hw:=.take 9 false 14 _ b6 rfl rfl rfl)
 refine U.pq 1 9 false 14 b6 T ?_
 refine U.pk' b6 ?_
 refine U.done ?_
 exact St.wa [some 0] (j4 _ g)
theorem WJ (st:ApiState) (p:Int) (post:(List Int)→Prop) (g:QT st p post):
  Tr Tryz.prog 86 [.agg (Q4 st),.i p] [] 0 (fun A H' k=>∃y,post y∧A=(.o 0)∧H'=[(0,.val (.os 1 eI y))]∧k=1):=by
 refine Tr.go Tryz.func86 Tryz.ntmps86 fun _ _ _ _ o=>?_
 unfold QT at g
 refine C.ss (U.bx ?_)
 refine U.pd 1 T (C.xs (C.seq ?_))
 refine C.jn (fun (x3:Bool)=>[(1,.i p),(2,.p 0 0),(13,.b x3)]) (fun x3=>[(0,.box (Q4 st))]) 1 g (fun x3 g=>?_) fun J4 g j4=>?_
 refine C.nx ?_
 refine C.ite rfl g (fun b6 g=>?_) fun b6 g=>?_
 refine C.ss (U.pd 1 T (C.nx (C.ret (C.rt ?_))))
 exact C.g1 [none] T o ⟨[],g,rfl,rfl,rfl⟩
 refine C.skip (C.xs (D.bq mix 9999 [0] [] (fun hQ hS ws M'=>?_)))
 refine D.pq 3 (zl [0,1,2]) T ?_
 obtain⟨x11,y11,g⟩:=g
 refine D.ix 3 [] T y11 ?_
 refine D.pq 5 (zl [4,5,6,7,8]) T ?_
 refine D.ix 9 [] T y11 ?_
 refine D.pq 3 (zl [10,11,12]) T ?_
 refine D.e1 13 rfl (.none rfl) (by exact Eff1.bs T (enc:=eI) (xs:=([w64 (2*x11),w64 ((w64 (2*x11))+1)]:List Int)) rfl rfl rfl rfl rfl rfl rfl rfl rfl rfl (fun _ _=>rfl) rfl rfl) (by kernel_rfl) rfl rfl ?_
 refine D.pq 1 [(14,[])] T ?_
 refine D.done (by kernel_rfl) ?_
 refine C.nx (C.ret ?_)
 exact C.g1 [some 1] T o ⟨([w64 (2*x11),w64 ((w64 (2*x11))+1)]:List Int),g,rfl,rfl,rfl⟩
 refine U.start (U.ps 3 T rfl ?_)
 refine g.cs (fun b5 g=>?_) fun b5 g=>?_
 refine U.sk' 5 2 false 7 b5 ?_
 refine U.pk b5 ?_
 refine U.done ?_
 exact St.wa [some 0] (j4 _ g)
 refine U.pq 5 2 false 7 b5 T ?_
 refine U.pk' b5 ?_
 refine U.done ?_
 exact St.wa [some 0] (j4 _ g)
theorem Yw (l:List Int) (n:Int) (post:(List Int)→Prop) (g:KE l n post):
  Tr Tryz.prog 106 [.sl 1 eI l,.i n] [] 0 (fun A H' k=>∃y,post y∧A=(.o 0)∧H'=[(0,.val (.os 1 eI y))]∧k=1):=by
 refine Tr.go Tryz.func106 Tryz.ntmps106 fun _ _ _ _ o=>?_
 unfold KE at g
 refine C.ss (U.pd 1 T (C.xt ?_))
 refine U.pd 1 T (C.xt ?_)
 refine U.pd 1 T (C.xs (C.ss ?_))
 refine U.pd 1 T (C.nx ?_)
 refine C.jn (fun (x9:List Int×Bool)=>[(1,.i n),(5,.o 0),(6,.b x9.2)]) (fun x9=>[(0,.val (.os 1 eI x9.1))]) 1 g (fun x9 g=>?_) fun J10 g j10=>?_
 refine C.xs (C.ss (U.pd 2 T (C.nx ?_)))
 refine C.jn (fun (x36:List Int)=>[(5,.o 0)]) (fun x36=>[(0,.val (.os 1 eI x36))]) 1 g (fun x36 g=>?_) fun J37 g j37=>?_
 refine C.xt (U.pd 2 T (C.nx (C.ret ?_)))
 exact C.g1 [some 0] T o ⟨x36,g,rfl,rfl,rfl⟩
 refine C.ite rfl g (fun b38 g=>?_) fun b38 g=>?_
 refine U.start (U.ps 2 T rfl (U.bs T eI ([n]:List Int) ?_))
 obtain⟨y41,g⟩:=g
 refine U.ap T y41 ?_
 refine U.pd 1 T ?_
 exact St.wa [some 2] (j37 _ g)
 refine C.skip ?_
 exact St.wa [some 0] (j37 _ g)
 refine C.block (St.wk (C.loop (fun (s11:List Int×Bool×Int)=>[(0,.sl 1 eI l),(1,.i n),(5,.o 0),(6,.b s11.2.1),(7,.i s11.2.2)]) (fun s11=>[(0,.val (.os 1 eI s11.1))]) g (fun s11 Y12 g=>?_)) (Wk.mk' [none] rfl rfl ⟨⟨_,rfl,(.eq rfl)⟩,⟨_,rfl,(.eq rfl)⟩,⟨_,rfl,(.nilO _ _ ⟨rfl,rfl⟩ rfl)⟩,ChkG.eqs rfl⟩ ⟨⟨_,rfl,.nil _ _⟩,trivial⟩ rfl))
 refine C.seq (C.ss (U.pd 4 T (C.nx ?_)))
 refine C.ite rfl g (fun b15 g=>?_) fun b15 g=>?_
 refine C.skip (C.xs (C.block (C.seq (C.seq ?_))))
 refine C.jn (fun (x16:Bool)=>[(0,.sl 1 eI l),(1,.i n),(5,.o 0),(6,.b s11.2.1),(7,.i s11.2.2),(23,.b x16)]) (fun x16=>[(0,.val (.os 1 eI s11.1))]) 1 g (fun x16 g=>?_) fun J17 g j17=>?_
 refine C.nx ?_
 refine C.jn (fun (x20:List Int×Bool)=>[(0,.sl 1 eI l),(1,.i n),(5,.o 0),(6,.b x20.2),(7,.i s11.2.2)]) (fun x20=>[(0,.val (.os 1 eI x20.1))]) 1 g (fun x20 g=>?_) fun J21 g j21=>?_
 refine C.nx (U.start (U.ps 3 T rfl ?_))
 obtain⟨x30,y30,g⟩:=g
 refine U.ix T y30 ?_
 refine U.ps 1 T rfl (U.bs T eI ([x30]:List Int) ?_)
 obtain⟨y31,g⟩:=g
 refine U.ap T y31 ?_
 refine U.pd 1 T (C.bnx (C.nx (U.start ?_)))
 refine U.pd 3 T (C.nx ?_)
 exact St.wk (C.next g) (Wk.a [some 2])
 refine C.ite rfl g (fun b22 g=>?_) fun b22 g=>?_
 refine C.ss (U.ps 2 T rfl (U.bs T eI ([n]:List Int) ?_))
 obtain⟨y25,g⟩:=g
 refine U.ap T y25 ?_
 refine U.pd 1 T (C.nx (U.start ?_))
 refine U.pd 1 T ?_
 exact St.wa [some 2] (j21 _ g)
 refine C.skip ?_
 exact St.wa [some 0] (j21 _ g)
 refine U.start (U.ps 3 T rfl ?_)
 refine g.cs (fun b18 g=>?_) fun b18 g=>?_
 refine U.sk' 6 2 true 16 (ntF b18) ?_
 refine U.pk' (ntF b18) ?_
 refine U.done ?_
 exact St.wa [some 0] (j17 _ g)
 refine U.pq 2 2 true 16 (ntT b18) T ?_
 obtain⟨x19,y19,g⟩:=g
 refine U.r rfl (.tk 2 true 16 (ntT b18)) rfl rfl (by exact Rd.ix T rfl rfl rfl rfl rfl rfl y19) ?_
 refine U.pq 3 2 true 16 (ntT b18) T ?_
 refine U.pk (ntT b18) ?_
 refine U.done ?_
 exact St.wa [some 0] (j17 _ g)
 refine C.exit (C.ex (C.ex (C.bex ?_)))
 exact St.wa [some 0] (j10 _ g)
theorem WH (l:List Int) (post:(List Int)→Prop) (g:Kh l post):
  Tr Tryz.prog 87 [.sl 1 eI l] [] 0 (fun A H' k=>∃y,post y∧A=(.o 0)∧H'=[(0,.val (.os 1 eI y))]∧k=1):=by
 refine Tr.go Tryz.func87 Tryz.ntmps87 fun _ _ _ _ o=>?_
 unfold Kh at g
 refine C.ss (U.pd 1 T (C.xt ?_))
 refine U.pd 1 T (C.xs (C.ss ?_))
 refine U.pd 1 T (C.nx ?_)
 refine C.jn (fun (x7:List Int)=>[(3,.o 0)]) (fun x7=>[(0,.val (.os 1 eI x7))]) 1 g (fun x7 g=>?_) fun J8 g j8=>?_
 refine C.xt (U.pd 2 T (C.nx (C.ret ?_)))
 exact C.g1 [some 0] T o ⟨x7,g,rfl,rfl,rfl⟩
 refine C.block (St.wk (C.loop (fun (s9:List Int×Int)=>[(0,.sl 1 eI l),(3,.o 0),(4,.i s9.2)]) (fun s9=>[(0,.val (.os 1 eI s9.1))]) g (fun s9 Y10 g=>?_)) (Wk.mk' [none] rfl rfl ⟨⟨_,rfl,(.eq rfl)⟩,⟨_,rfl,(.nilO _ _ ⟨rfl,rfl⟩ rfl)⟩,ChkG.eqs rfl⟩ ⟨⟨_,rfl,.nil _ _⟩,trivial⟩ rfl))
 refine C.seq (C.ss (U.pd 4 T (C.nx ?_)))
 refine C.ite rfl g (fun b13 g=>?_) fun b13 g=>?_
 refine C.skip (C.xs (C.block (U.start (U.ps 3 T rfl ?_))))
 obtain⟨x16,y16,g⟩:=g
 refine U.ix T y16 ?_
 refine U.ps 1 T rfl (U.k (Yw s9.1 x16 _ g) Q51 (fun x17 g=>?_))
 refine U.pd 1 T (C.bnx (C.nx (U.start ?_)))
 refine U.pd 3 T (C.nx ?_)
 exact St.wk (C.next g) (Wk.a [some 1])
 refine C.exit (C.ex (C.ex (C.bex ?_)))
 exact St.wa [some 0] (j8 _ g)
theorem YX (st:ApiState) (post:(List Int)→Prop) (g:KN st post):
  Tr Tryz.prog 62 [.agg (Q4 st)] [] 0 (fun A H' k=>∃y,post y∧A=(.o 0)∧H'=[(0,.val (.os 1 eI y))]∧k=1):=by
 refine Tr.go Tryz.func62 Tryz.ntmps62 fun _ _ _ _ o=>?_
 unfold KN at g
 refine C.ss (U.bx ?_)
 refine U.pd 1 T (C.xt ?_)
 refine U.pd 1 T (C.xs (C.ss ?_))
 refine U.pd 1 T (C.nx ?_)
 refine C.jn (fun (x7:List Int)=>[(1,.p 0 0),(3,.o 1)]) (fun x7=>[(0,.box (Q4 st)),(1,.val (.os 1 eI x7))]) 2 g (fun x7 g=>?_) fun J8 g j8=>?_
 refine C.xs (C.ss (U.pd 1 T (C.nx ?_)))
 refine C.jn (fun (x22:List Int)=>[(1,.p 0 0),(3,.o 1)]) (fun x22=>[(0,.box (Q4 st)),(1,.val (.os 1 eI x22))]) 2 g (fun x22 g=>?_) fun J23 g j23=>?_
 refine C.xs (C.ss (U.pd 1 T (C.nx ?_)))
 refine C.jn (fun (x37:List Int)=>[(3,.o 0)]) (fun x37=>[(0,.val (.os 1 eI x37))]) 1 g (fun x37 g=>?_) fun J38 g j38=>?_
 refine C.xt (U.ps 1 T rfl (U.k (WH x37 _ g) en87 (fun x52 g=>?_)))
 refine U.pd 1 T (C.nx (C.ret ?_))
 exact C.g1 [some 1] T o ⟨x52,g,rfl,rfl,rfl⟩
 refine C.block (St.wk (C.loop (fun (s39:List Int×Int)=>[(1,.p 0 0),(3,.o 1),(6,.i s39.2)]) (fun s39=>[(0,.box (Q4 st)),(1,.val (.os 1 eI s39.1))]) g (fun s39 Y40 g=>?_)) (Wk.a (idR 2)))
 refine C.seq (C.ss (U.pd 5 T (C.nx ?_)))
 refine C.ite rfl g (fun b43 g=>?_) fun b43 g=>?_
 refine C.skip (C.xs (C.block (U.start (U.ps 3 T rfl (U.k (WJ st s39.2 _ g) en86 (fun x46 g=>?_))))))
 obtain⟨y47,g⟩:=g
 refine U.ap T y47 ?_
 refine U.pd 1 T (C.bnx (C.nx (U.start ?_)))
 refine U.pd 3 T (C.nx ?_)
 exact St.wk (C.next g) (Wk.a [some 0,some 3])
 refine C.exit (C.ex (C.ex (C.bex ?_)))
 exact St.wa [some 1] (j38 _ g)
 refine C.block (St.wk (C.loop (fun (s24:List Int×Int)=>[(1,.p 0 0),(3,.o 1),(5,.i s24.2)]) (fun s24=>[(0,.box (Q4 st)),(1,.val (.os 1 eI s24.1))]) g (fun s24 Y25 g=>?_)) (Wk.a (idR 2)))
 refine C.seq (C.ss (U.pd 5 T (C.nx ?_)))
 refine C.ite rfl g (fun b28 g=>?_) fun b28 g=>?_
 refine C.skip (C.xs (C.block (U.start (U.ps 3 T rfl (U.k (Y5 st s24.2 _ g) en85 (fun x31 g=>?_))))))
 obtain⟨y32,g⟩:=g
 refine U.ap T y32 ?_
 refine U.pd 1 T (C.bnx (C.nx (U.start ?_)))
 refine U.pd 3 T (C.nx ?_)
 exact St.wk (C.next g) (Wk.a [some 0,some 3])
 refine C.exit (C.ex (C.ex (C.bex ?_)))
 exact St.wa (idR 2) (j23 _ g)
 refine C.block (St.wk (C.loop (fun (s9:List Int×Int)=>[(1,.p 0 0),(3,.o 1),(4,.i s9.2)]) (fun s9=>[(0,.box (Q4 st)),(1,.val (.os 1 eI s9.1))]) g (fun s9 Y10 g=>?_)) (Wk.mk' [some 0,none] rfl rfl ⟨⟨_,rfl,(.eq rfl)⟩,⟨_,rfl,(.nilO _ _ ⟨rfl,rfl⟩ rfl)⟩,ChkG.eqs rfl⟩ ⟨bX,⟨_,rfl,.nil _ _⟩,trivial⟩ rfl))
 refine C.seq (C.ss (U.pd 5 T (C.nx ?_)))
 refine C.ite rfl g (fun b13 g=>?_) fun b13 g=>?_
 refine C.skip (C.xs (C.block (U.start (U.ps 3 T rfl (U.k (WT st s9.2 _ g) en84 (fun x16 g=>?_))))))
 obtain⟨y17,g⟩:=g
 refine U.ap T y17 ?_
 refine U.pd 1 T (C.bnx (C.nx (U.start ?_)))
 refine U.pd 3 T (C.nx ?_)
 exact St.wk (C.next g) (Wk.a [some 0,some 3])
 refine C.exit (C.ex (C.ex (C.bex ?_)))
 exact St.wa (idR 2) (j8 _ g)
end Go.Proofs.YtlaehjhkcanffaaGreat
