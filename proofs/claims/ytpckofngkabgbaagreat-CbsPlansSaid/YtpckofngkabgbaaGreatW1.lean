/- The walks: each Go function does what its verification condition says (written by a program of the prover). -/
import Derived.Test.YtpckofngkabgbaaGreatW0
import Derived.KernelRfl
set_option maxRecDepth 100000
set_option maxHeartbeats 8000000
set_option linter.unusedVariables false
set_option linter.unusedSimpArgs false
namespace Go.Proofs.YtpckofngkabgbaaGreat
open Go Go.Taq
theorem Wh (p:CbsProblem) (i:Int) (bans:List (Kl×Bool)) (post:(List Int×Bool)→Prop) (g:KD p i bans post):
  Tr Tryz.prog 51 [.rp [.i p.s.Floor.W,.i p.s.Floor.H,.i p.s.Floor.D,.sl 1 eI p.s.Floor.Kind,.sl 1 eI p.s.Floor.Out,.sl 5 Q3 p.s.Zones,.sl 2 Q0 p.s.Aparts,.sl 2 Q1 p.s.Shelves,.sl 2 Q2 p.s.Robots,.sl 2 Q4 p.trips,.i p.tick,.sl 1 eI p.avoid,.i p.most],.i i,.rm Qf veB bans] [] 0 (fun A H' k=>∃y,post y∧A=(.tup [.o 0,.b y.2])∧H'=[(0,.val (.os 1 eI y.1))]∧k=1):=by
 refine Tr.go Tryz.func51 Tryz.ntmps51 fun _ _ _ _ o=>?_
 unfold KD at g
 refine C.ss (U.pd 2 T (C.xt ?_))
 refine U.pd 1 T (C.xs (C.ss ?_))
 refine U.ps 1 T rfl (U.e1 rfl (.none rfl) (by exact Eff1.rgm T rfl rfl rfl rfl rfl) ?_)
 refine U.done (C.nx ?_)
 refine C.jn (fun (x7:Int)=>[(0,.rp [.i p.s.Floor.W,.i p.s.Floor.H,.i p.s.Floor.D,.sl 1 eI p.s.Floor.Kind,.sl 1 eI p.s.Floor.Out,.sl 5 Q3 p.s.Zones,.sl 2 Q0 p.s.Aparts,.sl 2 Q1 p.s.Shelves,.sl 2 Q2 p.s.Robots,.sl 2 Q4 p.trips,.i p.tick,.sl 1 eI p.avoid,.i p.most]),(1,.i i),(2,.rm Qf veB bans),(8,.i x7)]) (fun x7=>[]) 0 g (fun x7 g=>?_) fun J8 g j8=>?_
 refine C.xt (U.e1 rfl (.none rfl) (by exact Eff1.mm Kr K9 rfl rfl rfl) ?_)
 refine U.ps 5 T rfl ?_
 obtain⟨x26,y26,g⟩:=g
 refine U.ix T y26 ?_
 refine U.ps 4 T rfl (U.e1 rfl (.none rfl) (by exact Eff1.mu T (x:=({cell:=x26.From,rest:=0,done:=false:CbsPlace})) (y:=({from_:=({cell:=0,rest:=0,done:=false:CbsPlace}),act:=0:CbsOrigin})) (.inr rfl) rfl Q49 (fun _=>rfl) rfl rfl rfl rfl rfl (.inr (.inl ⟨_,rfl,rfl⟩)) rfl) ?_)
 refine U.ps 1 T rfl (U.e1 rfl (.none rfl) (by exact Eff1.bsl T (enc:=Qj) (upd ([]:List (CbsPlace×CbsOrigin)) ({cell:=x26.From,rest:=0,done:=false:CbsPlace}) ({from_:=({cell:=0,rest:=0,done:=false:CbsPlace}),act:=0:CbsOrigin})) rfl rfl rfl rfl rfl rfl rfl rfl rfl) ?_)
 refine U.pd 1 T ?_
 refine St.putb (l:=1) (l':=0) (y:=(upd ([]:List (CbsPlace×CbsOrigin)) ({cell:=x26.From,rest:=0,done:=false:CbsPlace}) ({from_:=({cell:=0,rest:=0,done:=false:CbsPlace}),act:=0:CbsOrigin}))) rfl rfl rfl (fun _ h=>nomatch h) rfl _ rfl ?_
 refine C.xs (C.ss (U.pd 1 T (C.nx ?_)))
 refine C.jn (fun (x29:Unit)=>[]) (fun x29=>[]) 0 g (fun x29 g=>?_) fun J30 g j30=>?_
 refine C.xt (U.pd 2 T (C.nx (C.ret ?_)))
 exact C.fg [none] T o ⟨([],false),g,rfl,rfl,rfl⟩
 refine C.block ?_
 refine St.wk (C.loop (fun (s31:List (List (CbsPlace×CbsOrigin))×Int)=>[(0,.rp [.i p.s.Floor.W,.i p.s.Floor.H,.i p.s.Floor.D,.sl 1 eI p.s.Floor.Kind,.sl 1 eI p.s.Floor.Out,.sl 5 Q3 p.s.Zones,.sl 2 Q0 p.s.Aparts,.sl 2 Q1 p.s.Shelves,.sl 2 Q2 p.s.Robots,.sl 2 Q4 p.trips,.i p.tick,.sl 1 eI p.avoid,.i p.most]),(1,.i i),(2,.rm Qf veB bans),(8,.i x7),(10,.o 0),(11,.i s31.2)]) (fun s31=>[(0,.val (.os 1 Qj s31.1))]) g (fun s31 Y32 g=>?_)) (Wk.a [some 1])
 refine C.seq (C.ss (U.pd 6 T (C.nx ?_)))
 refine C.ite rfl g (fun b35 g=>?_) fun b35 g=>?_
 refine C.skip (C.xs ?_)
 refine C.jn (fun (x36:List (List (CbsPlace×CbsOrigin)))=>[(0,.rp [.i p.s.Floor.W,.i p.s.Floor.H,.i p.s.Floor.D,.sl 1 eI p.s.Floor.Kind,.sl 1 eI p.s.Floor.Out,.sl 5 Q3 p.s.Zones,.sl 2 Q0 p.s.Aparts,.sl 2 Q1 p.s.Shelves,.sl 2 Q2 p.s.Robots,.sl 2 Q4 p.trips,.i p.tick,.sl 1 eI p.avoid,.i p.most]),(1,.i i),(2,.rm Qf veB bans),(8,.i x7),(10,.o 0),(11,.i s31.2)]) (fun x36=>[(0,.val (.os 1 Qj x36))]) 1 g (fun x36 g=>?_) fun J37 g j37=>?_
 refine C.nx (U.start (U.pd 3 T (C.nx ?_)))
 exact St.wk (C.next g) (Wk.a [some 0])
 refine C.block (C.ss (U.e1 rfl (.none rfl) (by exact Eff1.mm Kr K9 rfl rfl rfl) ?_))
 refine U.pd 1 T (C.xs (C.ss ?_))
 refine U.ps 2 T rfl ?_
 obtain⟨x42,y42,g⟩:=g
 refine U.r rfl (.none rfl) rfl rfl (by exact Rd.io T rfl rfl rfl rfl rfl rfl rfl y42) ?_
 refine St.lend (l:=0) (i:=(Int.toNat s31.2)) rfl (Qi y42).2.2 rfl (fun _=>rfl) ?_
 refine U.r rfl (.none rfl) rfl rfl (by exact Rd.ll T rfl rfl rfl (.head _) rfl rfl rfl rfl) ?_
 refine U.k (WM x42 _ g) Q6N fun x43 g=>?_
 refine U.pd 2 T ?_
 refine St.putb (l:=0) (l':=2) (y:=x42) rfl rfl rfl (fun _ h=>nomatch h) rfl _ rfl ?_
 refine C.nx ?_
 refine C.jn (fun (x44:List (CbsPlace×CbsOrigin))=>[(0,.rp [.i p.s.Floor.W,.i p.s.Floor.H,.i p.s.Floor.D,.sl 1 eI p.s.Floor.Kind,.sl 1 eI p.s.Floor.Out,.sl 5 Q3 p.s.Zones,.sl 2 Q0 p.s.Aparts,.sl 2 Q1 p.s.Shelves,.sl 2 Q2 p.s.Robots,.sl 2 Q4 p.trips,.i p.tick,.sl 1 eI p.avoid,.i p.most]),(1,.i i),(2,.rm Qf veB bans),(8,.i x7),(10,.o 0),(11,.i s31.2),(12,.o 1)]) (fun x44=>[(0,.val (.os 1 Qj (s31.1.set (Int.toNat s31.2) x42))),(1,.val (.om Kr K9 x44))]) 2 g (fun x44 g=>?_) fun J45 g j45=>?_
 refine C.nx (U.start (U.ps 2 T rfl (U.e1 rfl (.none rfl) (by exact Eff1.bsl T (enc:=Qj) x44 rfl rfl rfl rfl rfl rfl rfl rfl rfl) ?_)))
 obtain⟨y115,g⟩:=g
 refine U.e1 rfl (.none rfl) (by exact Eff1.apl T rfl rfl rfl rfl rfl rfl rfl (fun _=>rfl) rfl rfl rfl rfl ⟨_,rfl,rfl⟩ y115) ?_
 refine U.pd 1 T ?_
 refine St.putb (l:=3) (l':=1) (y:=x44) rfl rfl rfl (fun _ h=>nomatch h) rfl _ rfl ?_
 refine C.bnx ?_
 exact St.wa [some 3] (j37 _ g)
 refine C.block ?_
 refine St.wk (C.loop (fun (s46:List (CbsPlace×CbsOrigin)×Int)=>[(0,.rp [.i p.s.Floor.W,.i p.s.Floor.H,.i p.s.Floor.D,.sl 1 eI p.s.Floor.Kind,.sl 1 eI p.s.Floor.Out,.sl 5 Q3 p.s.Zones,.sl 2 Q0 p.s.Aparts,.sl 2 Q1 p.s.Shelves,.sl 2 Q2 p.s.Robots,.sl 2 Q4 p.trips,.i p.tick,.sl 1 eI p.avoid,.i p.most]),(1,.i i),(2,.rm Qf veB bans),(8,.i x7),(10,.o 0),(11,.i s31.2),(12,.o 1),(74,.o 2),(75,.i (x43.length:Int)),(76,.i s46.2)]) (fun s46=>[(0,.val (.os 1 Qj (s31.1.set (Int.toNat s31.2) x42))),(1,.val (.om Kr K9 s46.1)),(2,.val (.os 3 Qc x43))]) g (fun s46 Y47 g=>?_)) (Wk.a [some 0,some 1,some 3])
 refine C.ss (U.pd 1 T (C.xs ?_))
 refine C.ite rfl g (fun b50 g=>?_) fun b50 g=>?_
 refine C.skip (C.xs ?_)
 refine C.jn (fun (x51:List (CbsPlace×CbsOrigin))=>[(0,.rp [.i p.s.Floor.W,.i p.s.Floor.H,.i p.s.Floor.D,.sl 1 eI p.s.Floor.Kind,.sl 1 eI p.s.Floor.Out,.sl 5 Q3 p.s.Zones,.sl 2 Q0 p.s.Aparts,.sl 2 Q1 p.s.Shelves,.sl 2 Q2 p.s.Robots,.sl 2 Q4 p.trips,.i p.tick,.sl 1 eI p.avoid,.i p.most]),(1,.i i),(2,.rm Qf veB bans),(8,.i x7),(10,.o 0),(11,.i s31.2),(12,.o 1),(74,.o 2),(75,.i (x43.length:Int)),(76,.i s46.2)]) (fun x51=>[(0,.val (.os 1 Qj (s31.1.set (Int.toNat s31.2) x42))),(1,.val (.om Kr K9 x51)),(2,.val (.os 3 Qc x43))]) 3 g (fun x51 g=>?_) fun J52 g j52=>?_
 refine C.nx (U.start (U.pd 2 T (C.nx ?_)))
 exact St.wk (C.next g) (Wk.a (idR 3))
 refine C.block (C.ss ?_)
 obtain⟨x55,y55,g⟩:=g
 refine U.r rfl (.none rfl) rfl rfl (by exact Rd.io T rfl rfl rfl rfl rfl rfl rfl y55) ?_
 refine U.r rfl (.none rfl) rfl rfl (by exact Rd.le T rfl rfl rfl (Qi y55).2.2 rfl rfl rfl) ?_
 refine U.al T ?_
 refine U.st T ?_
 refine U.done (C.xs (C.seq ?_))
 refine C.jn (fun (x56:Bool)=>[(0,.rp [.i p.s.Floor.W,.i p.s.Floor.H,.i p.s.Floor.D,.sl 1 eI p.s.Floor.Kind,.sl 1 eI p.s.Floor.Out,.sl 5 Q3 p.s.Zones,.sl 2 Q0 p.s.Aparts,.sl 2 Q1 p.s.Shelves,.sl 2 Q2 p.s.Robots,.sl 2 Q4 p.trips,.i p.tick,.sl 1 eI p.avoid,.i p.most]),(1,.i i),(2,.rm Qf veB bans),(8,.i x7),(10,.o 0),(11,.i s31.2),(12,.o 1),(14,.p 2 0),(74,.o 3),(75,.i (x43.length:Int)),(76,.i s46.2),(95,.b x56)]) (fun x56=>[(0,.val (.os 1 Qj (s31.1.set (Int.toNat s31.2) x42))),(1,.val (.om Kr K9 s46.1)),(2,.box (Qc x55)),(3,.val (.os 3 Qc x43))]) 4 g (fun x56 g=>?_) fun J57 g j57=>?_
 refine C.nx ?_
 refine C.ite rfl g (fun b60 g=>?_) fun b60 g=>?_
 refine C.ss (U.pd 1 T (C.xs ?_))
 refine C.jn (fun (x63:List Int)=>[(15,.o 0)]) (fun x63=>[(0,.val (.os 1 eI x63))]) 1 g (fun x63 g=>?_) fun J64 g j64=>?_
 refine C.xt (U.ps 1 T rfl (U.c [some 0] (XG x63 _ g) en50 (fun x80 g=>?_)))
 refine U.done (C.xt (U.pd 3 T (C.nx (C.ret (C.rt (C.brt (C.rt (C.rt (C.brt (C.rt (C.brt (C.rt (C.rt (C.brt (C.rt ?_)))))))))))))))
 exact C.fg [some 0] T o ⟨(x80,true),g,rfl,rfl,rfl⟩
 refine C.block ?_
 refine St.wk (C.loop (fun (s65:List (List (CbsPlace×CbsOrigin))×Int×Int×Int×Bool×List Int)=>[(10,.o 0),(11,.i s65.2.1),(14,.p 1 0),(15,.o 2)]) (fun s65=>[(0,.val (.os 1 Qj s65.1)),(1,.box [.i s65.2.2.1,.i s65.2.2.2.1,.b s65.2.2.2.2.1]),(2,.val (.os 1 eI s65.2.2.2.2.2))]) g (fun s65 Y66 g=>?_)) (Wk.mk' [some 0,some 2,none] rfl rfl ⟨⟨_,rfl,(.eq rfl)⟩,⟨_,rfl,(.eq rfl)⟩,⟨_,rfl,(.eq rfl)⟩,⟨_,rfl,(.nilO _ _ ⟨rfl,rfl⟩ rfl)⟩,trivial⟩ ⟨vL,bX,⟨_,rfl,.nil _ _⟩,trivial⟩ rfl)
 refine C.seq (C.ss (U.pd 2 T (C.nx ?_)))
 refine C.ite rfl g (fun b69 g=>?_) fun b69 g=>?_
 refine C.skip (C.xs (C.block (C.seq ?_)))
 obtain⟨x72,y72,g⟩:=g
 refine St.lend (l:=0) (i:=(Int.toNat s65.2.1)) rfl (Qi y72).2.2 rfl (fun _=>rfl) ?_
 refine D.bq mix 7 [0,1,3] [] (fun hQ hS ws M'=>?_)
 refine D.pq 2 (zl [0,1]) T ?_
 refine D.q 2 [] hQ hS rfl (.none rfl) rfl rfl (by exact Rd.il T rfl rfl rfl rfl rfl rfl rfl y72) rfl (by kernel_rfl) ?_
 refine D.q 3 [] hQ hS rfl (.none rfl) rfl rfl (by exact Rd.ll T rfl rfl rfl (.head _) rfl rfl rfl rfl) rfl (by kernel_rfl) ?_
 refine D.pq 1 [(4,[])] T ?_
 refine D.q 5 [] hQ hS rfl (.none rfl) rfl rfl (by exact Rd.lk T (ke:=Kr) (ve:=K9) (xs:=x72) (z0:=({from_:=({cell:=0,rest:=0,done:=false:CbsPlace}),act:=0:CbsOrigin})) (x:=({cell:=s65.2.2.1,rest:=s65.2.2.2.1,done:=s65.2.2.2.2.1:CbsPlace})) rfl rfl Q49 zt187 (fun _=>rfl) rfl (.o rfl) rfl rfl rfl) rfl (by kernel_rfl) ?_
 refine D.e1 6 rfl (.none rfl) (by exact Eff1.al T rfl rfl rfl rfl) (by kernel_rfl) rfl rfl ?_
 refine D.ze1 rfl (.none rfl) (by exact Eff1.st T rfl rfl rfl rfl rfl rfl rfl rfl rfl rfl) (by kernel_rfl) (by kernel_rfl) ?_
 refine St.putb (l:=0) (l':=3) (y:=x72) rfl rfl rfl (fun _ h=>nomatch h) rfl _ rfl ?_
 refine C.nx (D.bq mix 8 [4] [2] (fun hQ hS ws M'=>?_))
 refine D.pq 5 (zl [0,1,2,5,6]) T ?_
 refine D.e1 3 rfl (.none rfl) (by exact Eff1.bs T (enc:=eI) (xs:=([((lk x72 ({cell:=s65.2.2.1,rest:=s65.2.2.2.1,done:=s65.2.2.2.2.1:CbsPlace})).getD ({from_:=({cell:=0,rest:=0,done:=false:CbsPlace}),act:=0:CbsOrigin})).act]:List Int)) rfl rfl rfl rfl rfl rfl rfl rfl rfl rfl (fun _ _=>rfl) rfl rfl) (by kernel_rfl) rfl rfl ?_
 obtain⟨y75,g⟩:=g
 refine D.e1 4 rfl (.none rfl) (by exact Eff1.ap T rfl rfl rfl rfl rfl rfl (.inr ⟨_,rfl,rfl⟩) rfl rfl rfl (fun _=>rfl) rfl y75) (by kernel_rfl) rfl rfl ?_
 refine D.pq 1 [(7,[])] T ?_
 refine D.ze1 rfl (.none rfl) (by exact Eff1.st T rfl rfl rfl rfl rfl rfl rfl rfl rfl rfl) (by kernel_rfl) (by kernel_rfl) ?_
 refine C.bnx (C.nx (U.start (U.pd 3 T (C.nx ?_))))
 exact St.wk (C.next g) (Wk.a [some 0,some 1,some 6])
 refine C.exit (C.ex (C.ex (C.bex ?_)))
 exact St.wa [some 2] (j64 _ g)
 refine C.skip (C.xs (C.ss (U.ps 6 T rfl (U.r rfl (.none rfl) rfl rfl (by exact Rd.lk T (ke:=Qf) (ve:=veB) (xs:=bans) (z0:=false) (x:=({robot:=i,cell:=x55.cell,tick:=s31.2:Kl})) rfl rfl Q26 zt4 (fun _=>rfl) rfl .rm rfl rfl rfl) ?_))))
 refine U.done (C.nx ?_)
 refine C.ite rfl g (fun b85 g=>?_) fun b85 g=>?_
 refine C.exit (C.ex (C.bex ?_))
 exact St.wa [some 0,some 1,some 3] (j52 _ g)
 refine C.skip (C.xt (U.ps 3 T rfl (U.k (W8 p x55 s31.2 _ g) Q67 (fun x88 g=>?_))))
 refine U.pd 2 T (C.nx ?_)
 refine C.jn (fun (x89:List (CbsPlace×CbsOrigin))=>[(0,.rp [.i p.s.Floor.W,.i p.s.Floor.H,.i p.s.Floor.D,.sl 1 eI p.s.Floor.Kind,.sl 1 eI p.s.Floor.Out,.sl 5 Q3 p.s.Zones,.sl 2 Q0 p.s.Aparts,.sl 2 Q1 p.s.Shelves,.sl 2 Q2 p.s.Robots,.sl 2 Q4 p.trips,.i p.tick,.sl 1 eI p.avoid,.i p.most]),(1,.i i),(2,.rm Qf veB bans),(8,.i x7),(10,.o 0),(11,.i s31.2),(12,.o 1),(74,.o 2),(75,.i (x43.length:Int)),(76,.i s46.2)]) (fun x89=>[(0,.val (.os 1 Qj (s31.1.set (Int.toNat s31.2) x42))),(1,.val (.om Kr K9 x89)),(2,.val (.os 3 Qc x43))]) 3 g (fun x89 g=>?_) fun J90 g j90=>?_
 refine C.bnx ?_
 exact St.wa (idR 3) (j52 _ g)
 refine C.block ?_
 refine St.wk (C.loop (fun (s91:List (CbsPlace×CbsOrigin)×Int)=>[(0,.rp [.i p.s.Floor.W,.i p.s.Floor.H,.i p.s.Floor.D,.sl 1 eI p.s.Floor.Kind,.sl 1 eI p.s.Floor.Out,.sl 5 Q3 p.s.Zones,.sl 2 Q0 p.s.Aparts,.sl 2 Q1 p.s.Shelves,.sl 2 Q2 p.s.Robots,.sl 2 Q4 p.trips,.i p.tick,.sl 1 eI p.avoid,.i p.most]),(1,.i i),(2,.rm Qf veB bans),(8,.i x7),(10,.o 0),(11,.i s31.2),(12,.o 1),(14,.p 2 0),(74,.o 3),(75,.i (x43.length:Int)),(76,.i s46.2),(126,.o 4),(127,.i (x88.length:Int)),(128,.i s91.2)]) (fun s91=>[(0,.val (.os 1 Qj (s31.1.set (Int.toNat s31.2) x42))),(1,.val (.om Kr K9 s91.1)),(2,.box (Qc x55)),(3,.val (.os 3 Qc x43)),(4,.val (.os 4 QQ x88))]) g (fun s91 Y92 g=>?_)) (Wk.a (idR 5))
 refine C.ss (U.pd 1 T (C.xs ?_))
 refine C.ite rfl g (fun b95 g=>?_) fun b95 g=>?_
 refine C.skip (C.xs (C.block (C.ss ?_)))
 obtain⟨x98,y98,g⟩:=g
 refine U.r rfl (.none rfl) rfl rfl (by exact Rd.io T rfl rfl rfl rfl rfl rfl rfl y98) ?_
 refine U.r rfl (.none rfl) rfl rfl (by exact Rd.le T rfl rfl rfl (Qi y98).2.2 rfl rfl rfl) ?_
 refine U.al T ?_
 refine U.st T ?_
 refine U.done (C.xt (U.ps 3 T rfl (U.r rfl (.none rfl) rfl rfl (by exact Rd.lk2 T (ke:=Kr) (ve:=K9) (xs:=s91.1) (z0:=({from_:=({cell:=0,rest:=0,done:=false:CbsPlace}),act:=0:CbsOrigin})) (x:=x98.to_) rfl rfl Q49 zt187 (fun _=>rfl) rfl (.o rfl) rfl rfl rfl) ?_)))
 refine U.ps 3 T rfl (U.al T ?_)
 refine U.st T ?_
 refine U.pd 1 T (C.xs ?_)
 refine C.jn (fun (x101:Bool)=>[(0,.rp [.i p.s.Floor.W,.i p.s.Floor.H,.i p.s.Floor.D,.sl 1 eI p.s.Floor.Kind,.sl 1 eI p.s.Floor.Out,.sl 5 Q3 p.s.Zones,.sl 2 Q0 p.s.Aparts,.sl 2 Q1 p.s.Shelves,.sl 2 Q2 p.s.Robots,.sl 2 Q4 p.trips,.i p.tick,.sl 1 eI p.avoid,.i p.most]),(1,.i i),(2,.rm Qf veB bans),(8,.i x7),(10,.o 0),(11,.i s31.2),(12,.o 1),(14,.p 2 0),(18,.p 3 0),(74,.o 4),(75,.i (x43.length:Int)),(76,.i s46.2),(126,.o 5),(127,.i (x88.length:Int)),(128,.i s91.2),(151,.b x101)]) (fun x101=>[(0,.val (.os 1 Qj (s31.1.set (Int.toNat s31.2) x42))),(1,.val (.om Kr K9 s91.1)),(2,.box (Qc x55)),(3,.box (QQ x98)),(4,.val (.os 3 Qc x43)),(5,.val (.os 4 QQ x88))]) 6 g (fun x101 g=>?_) fun J102 g j102=>?_
 refine C.nx ?_
 refine C.jn (fun (x104:List (CbsPlace×CbsOrigin))=>[(0,.rp [.i p.s.Floor.W,.i p.s.Floor.H,.i p.s.Floor.D,.sl 1 eI p.s.Floor.Kind,.sl 1 eI p.s.Floor.Out,.sl 5 Q3 p.s.Zones,.sl 2 Q0 p.s.Aparts,.sl 2 Q1 p.s.Shelves,.sl 2 Q2 p.s.Robots,.sl 2 Q4 p.trips,.i p.tick,.sl 1 eI p.avoid,.i p.most]),(1,.i i),(2,.rm Qf veB bans),(8,.i x7),(10,.o 0),(11,.i s31.2),(12,.o 1),(14,.p 2 0),(74,.o 3),(75,.i (x43.length:Int)),(76,.i s46.2),(126,.o 4),(127,.i (x88.length:Int)),(128,.i s91.2)]) (fun x104=>[(0,.val (.os 1 Qj (s31.1.set (Int.toNat s31.2) x42))),(1,.val (.om Kr K9 x104)),(2,.box (Qc x55)),(3,.val (.os 3 Qc x43)),(4,.val (.os 4 QQ x88))]) 5 g (fun x104 g=>?_) fun J105 g j105=>?_
 refine C.bnx (C.nx (U.start (U.pd 2 T (C.nx ?_))))
 exact St.wk (C.next g) (Wk.a (idR 5))
 refine C.ite rfl g (fun b106 g=>?_) fun b106 g=>?_
 refine U.start (U.ps 7 T rfl (U.e1 rfl (.none rfl) (by exact Eff1.mu T (x:=x98.to_) (y:=({from_:=x55,act:=x98.act:CbsOrigin})) (.inl rfl) rfl Q49 (fun _=>rfl) rfl rfl rfl rfl rfl (.inr (.inl ⟨_,rfl,rfl⟩)) rfl) ?_))
 refine U.done ?_
 exact St.wa [some 0,some 1,some 2,some 4,some 5] (j105 _ g)
 refine C.skip ?_
 exact St.wa [some 0,some 1,some 2,some 4,some 5] (j105 _ g)
 refine U.start (U.ps 3 T rfl ?_)
 refine g.cs (fun b103 g=>?_) fun b103 g=>?_
 refine U.sk' 9 2 true 141 (ntF b103) ?_
 refine U.pk' (ntF b103) ?_
 refine U.done ?_
 exact St.wa [some 0,some 1,some 2,some 5,some 3,some 4] (j102 _ g)
 refine U.pq 7 2 true 141 (ntT b103) T ?_
 refine U.r rfl (.tk 2 true 141 (ntT b103)) rfl rfl (by exact Rd.lk T (ke:=Qf) (ve:=veB) (xs:=bans) (z0:=false) (x:=({robot:=i,cell:=x98.to_.cell,tick:=s31.2:Kl})) rfl rfl Q26 zt4 (fun _=>rfl) rfl .rm rfl rfl rfl) ?_
 refine U.pq 1 2 true 141 (ntT b103) T ?_
 refine U.pk (ntT b103) ?_
 refine U.done ?_
 exact St.wa [some 0,some 1,some 2,some 5,some 3,some 4] (j102 _ g)
 refine C.exit (C.ex (C.ex (C.bex ?_)))
 exact St.wa [some 0,some 1,some 3] (j90 _ g)
 refine D.bq mix 9999 [3] [] (fun hQ hS ws M'=>?_)
 refine D.pq 7 (zl [0,1,2,3,4,5,6]) T ?_
 obtain⟨x58,y58,g⟩:=g
 refine D.ix 7 [] T y58 ?_
 refine D.pq 4 (zl [8,9,10,11]) T ?_
 refine g.cs (fun b59 g=>?_) fun b59 g=>?_
 refine D.pt 12 [] 11 true 91 b59 T ?_
 refine D.pt 13 [] 11 true 91 b59 T ?_
 refine D.pt 14 [] 11 true 91 b59 T ?_
 refine D.kt 15 [] b59 ?_
 refine D.done (by kernel_rfl) ?_
 exact St.wa [some 0,some 1,some 3,some 2] (j57 _ g)
 refine D.sz 12 [] 11 true 91 b59 ?_
 refine D.sz 13 [] 11 true 91 b59 ?_
 refine D.sz 14 [] 11 true 91 b59 ?_
 refine D.kf 15 [] b59 ?_
 refine D.done (by kernel_rfl) ?_
 exact St.wa [some 0,some 1,some 3,some 2] (j57 _ g)
 refine C.exit (C.ex (C.ex (C.bex ?_)))
 exact St.wa (idR 2) (j45 _ g)
 refine C.exit (C.ex (C.ex (C.bex ?_)))
 exact St.wk (j30 _ g) (Wk.mk' [] rfl rfl trivial trivial rfl)
 refine C.block ?_
 refine St.wk (C.loop (fun (s9:Int×List Kl)=>[(0,.rp [.i p.s.Floor.W,.i p.s.Floor.H,.i p.s.Floor.D,.sl 1 eI p.s.Floor.Kind,.sl 1 eI p.s.Floor.Out,.sl 5 Q3 p.s.Zones,.sl 2 Q0 p.s.Aparts,.sl 2 Q1 p.s.Shelves,.sl 2 Q2 p.s.Robots,.sl 2 Q4 p.trips,.i p.tick,.sl 1 eI p.avoid,.i p.most]),(1,.i i),(2,.rm Qf veB bans),(8,.i s9.1),(22,.o 0)]) (fun s9=>[(0,.rngm Qf veB bans s9.2)]) g (fun s9 Y10 g=>?_)) (Wk.f [some 0] ⟨⟨_,rfl,.rngm rfl⟩,trivial⟩)
 refine C.ss (U.e rfl (.none rfl) (by exact Eff.nxm (ke:=Qf) (ve:=veB) (li:=0) rfl rfl rfl rfl rfl) (fun y' h'=>?_))
 obtain⟨_ | ⟨x11,x12⟩⟩:=y'
 replace g:=g.2 h'
 refine U.pd 1 T (C.xs ?_)
 refine C.condF rfl rfl ?_
 refine C.exit (C.ex (C.ex (C.bex ?_)))
 exact St.wn (j8 _ g)
 have y11:=h'
 replace g:=g.1 x11 x12 h'
 refine U.pd 1 T (C.xs ?_)
 refine C.condT rfl rfl ?_
 refine C.skip (C.nx (C.block (C.ss (U.r rfl (.none rfl) rfl rfl (by exact Rd.enm (ke:=Qf) (ve:=veB) rfl rfl rfl rfl y11.1) ?_))))
 refine U.ps 1 T rfl (U.al T ?_)
 refine U.st T ?_
 refine U.done (C.xs ?_)
 refine C.jn (fun (x15:Bool)=>[(0,.rp [.i p.s.Floor.W,.i p.s.Floor.H,.i p.s.Floor.D,.sl 1 eI p.s.Floor.Kind,.sl 1 eI p.s.Floor.Out,.sl 5 Q3 p.s.Zones,.sl 2 Q0 p.s.Aparts,.sl 2 Q1 p.s.Shelves,.sl 2 Q2 p.s.Robots,.sl 2 Q4 p.trips,.i p.tick,.sl 1 eI p.avoid,.i p.most]),(1,.i i),(2,.rm Qf veB bans),(8,.i s9.1),(9,.p 0 0),(22,.o 1),(43,.b x15)]) (fun x15=>[(0,.box (QS x11)),(1,.rngm Qf veB bans (x11 :: s9.2))]) 2 g (fun x15 g=>?_) fun J16 g j16=>?_
 refine C.nx ?_
 refine C.jn (fun (x19:Int)=>[(0,.rp [.i p.s.Floor.W,.i p.s.Floor.H,.i p.s.Floor.D,.sl 1 eI p.s.Floor.Kind,.sl 1 eI p.s.Floor.Out,.sl 5 Q3 p.s.Zones,.sl 2 Q0 p.s.Aparts,.sl 2 Q1 p.s.Shelves,.sl 2 Q2 p.s.Robots,.sl 2 Q4 p.trips,.i p.tick,.sl 1 eI p.avoid,.i p.most]),(1,.i i),(2,.rm Qf veB bans),(8,.i x19),(22,.o 0)]) (fun x19=>[(0,.rngm Qf veB bans (x11 :: s9.2))]) 1 g (fun x19 g=>?_) fun J20 g j20=>?_
 refine C.bnx (C.nx ?_)
 exact St.wk (C.next g) (Wk.f [some 0] ⟨⟨_,rfl,.rngm rfl⟩,trivial⟩)
 refine C.ite rfl g (fun b21 g=>?_) fun b21 g=>?_
 refine U.start (U.pd 5 T ?_)
 exact St.wk (j20 _ g) (Wk.f [some 1] ⟨⟨_,rfl,.rngm rfl⟩,trivial⟩)
 refine C.skip ?_
 exact St.wk (j20 _ g) (Wk.f [some 1] ⟨⟨_,rfl,.rngm rfl⟩,trivial⟩)
 refine D.bq mix 9999 [1] [] (fun hQ hS ws M'=>?_)
 refine D.pq 5 (zl [0,1,2,3,4]) T ?_
 refine g.cs (fun b17 g=>?_) fun b17 g=>?_
 refine D.pt 5 [] 4 true 31 b17 T ?_
 refine D.q 6 [] hQ hS rfl (.tk 4 true 31 b17) rfl rfl (by exact Rd.l T rfl rfl rfl) rfl (by kernel_rfl) ?_
 refine D.pt 7 [] 4 true 31 b17 T ?_
 refine D.pt 8 [] 4 true 31 b17 T ?_
 refine D.pt 9 [] 4 true 31 b17 T ?_
 refine D.q 10 [] hQ hS rfl (.tk 4 true 31 b17) rfl rfl (by exact Rd.l T rfl rfl rfl) rfl (by kernel_rfl) ?_
 refine D.pt 11 [] 4 true 31 b17 T ?_
 obtain⟨x18,y18,g⟩:=g
 refine D.q 12 [] hQ hS rfl (.tk 4 true 31 b17) rfl rfl (by exact Rd.ix T rfl rfl rfl rfl rfl rfl y18) rfl (by kernel_rfl) ?_
 refine D.pt 13 [] 4 true 31 b17 T ?_
 refine D.q 14 [] hQ hS rfl (.tk 4 true 31 b17) rfl rfl (by exact Rd.l T rfl rfl rfl) rfl (by kernel_rfl) ?_
 refine D.pt 15 [] 4 true 31 b17 T ?_
 refine D.kt 16 [] b17 ?_
 refine D.done (by kernel_rfl) ?_
 exact St.wk (j16 _ g) (Wk.f [some 1,some 0] ⟨bX,⟨_,rfl,.rngm rfl⟩,trivial⟩)
 refine D.sz 5 [] 4 true 31 b17 ?_
 refine D.sz 6 [] 4 true 31 b17 ?_
 refine D.sz 7 [] 4 true 31 b17 ?_
 refine D.sz 8 [] 4 true 31 b17 ?_
 refine D.sz 9 [] 4 true 31 b17 ?_
 refine D.sz 10 [] 4 true 31 b17 ?_
 refine D.sz 11 [] 4 true 31 b17 ?_
 refine D.sz 12 [] 4 true 31 b17 ?_
 refine D.sz 13 [] 4 true 31 b17 ?_
 refine D.sz 14 [] 4 true 31 b17 ?_
 refine D.sz 15 [] 4 true 31 b17 ?_
 refine D.kf 16 [] b17 ?_
 refine D.done (by kernel_rfl) ?_
 exact St.wk (j16 _ g) (Wk.f [some 1,some 0] ⟨bX,⟨_,rfl,.rngm rfl⟩,trivial⟩)
theorem Q1i (s_1:ApiSite) (from_1:Int) (acts:List Int) (post:(List Int)→Prop) (g:Gq s_1 from_1 acts post):
  Tr Tryz.prog 28 [.agg (Q9 s_1),.i from_1,.sl 1 eI acts] [] 0 (fun A H' k=>∃y,post y∧A=(.o 0)∧H'=[(0,.val (.os 1 eI y))]∧k=1):=by
 refine Tr.go Tryz.func28 Tryz.ntmps28 fun _ _ _ _ o=>?_
 unfold Gq at g
 refine C.ss (U.bx ?_)
 refine U.pd 1 T (C.xs (C.seq ?_))
 refine C.jn (fun (x3:Bool)=>[(1,.i from_1),(2,.sl 1 eI acts),(3,.p 0 0),(21,.b x3)]) (fun x3=>[(0,.box (Q9 s_1))]) 1 g (fun x3 g=>?_) fun J4 g j4=>?_
 refine C.nx ?_
 refine C.ite rfl g (fun b6 g=>?_) fun b6 g=>?_
 refine C.ss (U.pd 1 T (C.nx (C.ret (C.rt ?_))))
 exact C.g1 [none] T o ⟨[],g,rfl,rfl,rfl⟩
 refine C.skip (C.xt (U.ps 1 T rfl (U.bs T eI ([from_1]:List Int) ?_)))
 refine U.pd 1 T (C.xs (C.ss ?_))
 refine U.pd 3 T (C.nx ?_)
 refine C.jn (fun (x13:List Int)=>[(7,.o 0)]) (fun x13=>[(0,.val (.os 1 eI x13))]) 1 g (fun x13 g=>?_) fun J14 g j14=>?_
 refine C.xt (U.pd 2 T (C.nx (C.ret ?_)))
 exact C.g1 [some 0] T o ⟨x13,g,rfl,rfl,rfl⟩
 refine C.block (St.wk (C.loop (fun (s15:Int×List Int×Int)=>[(1,.i s15.1),(3,.p 0 0),(7,.o 1),(24,.sl 1 eI acts),(25,.i (acts.length:Int)),(26,.i s15.2.2)]) (fun s15=>[(0,.box (Q9 s_1)),(1,.val (.os 1 eI s15.2.1))]) g (fun s15 Y16 g=>?_)) (Wk.a (idR 2)))
 refine C.ss (U.pd 1 T (C.xs ?_))
 refine C.ite rfl g (fun b19 g=>?_) fun b19 g=>?_
 refine C.skip (C.xs (C.block (C.ss ?_)))
 obtain⟨x22,y22,g⟩:=g
 refine U.ix T y22 ?_
 refine U.pd 2 T (C.xs (C.ss ?_))
 refine U.ps 5 T rfl (U.k (Wb s_1.Floor s15.1 (w64 (x22-1)) _ g) en29 (fun x25 g=>?_))
 refine U.pd 5 T (C.xt ?_)
 refine U.pd 1 T (C.nx ?_)
 refine C.jn (fun (x28:Int)=>[(1,.i x28),(3,.p 0 0),(7,.o 1),(24,.sl 1 eI acts),(25,.i (acts.length:Int)),(26,.i s15.2.2)]) (fun x28=>[(0,.box (Q9 s_1)),(1,.val (.os 1 eI s15.2.1))]) 2 g (fun x28 g=>?_) fun J29 g j29=>?_
 refine C.nx (U.start (U.ps 2 T rfl (U.bs T eI ([x28]:List Int) ?_)))
 obtain⟨y35,g⟩:=g
 refine U.ap T y35 ?_
 refine U.pd 1 T (C.bnx (C.nx (U.start ?_)))
 refine U.pd 2 T (C.nx ?_)
 exact St.wk (C.next g) (Wk.a [some 0,some 3])
 refine C.ite rfl g (fun b30 g=>?_) fun b30 g=>?_
 refine U.start (U.pd 2 T ?_)
 exact St.wa (idR 2) (j29 _ g)
 refine C.skip ?_
 exact St.wa (idR 2) (j29 _ g)
 refine C.exit (C.ex (C.ex (C.bex ?_)))
 exact St.wa [some 1] (j14 _ g)
 refine U.start (U.ps 3 T rfl ?_)
 refine g.cs (fun b5 g=>?_) fun b5 g=>?_
 refine U.sk' 6 2 false 14 b5 ?_
 refine U.pk b5 ?_
 refine U.done ?_
 exact St.wa [some 0] (j4 _ g)
 refine U.pq 6 2 false 14 b5 T ?_
 refine U.pk' b5 ?_
 refine U.done ?_
 exact St.wa [some 0] (j4 _ g)
theorem Q0f (c:Int) (post:Bool→Prop) (g:Gk c post):
  Tr Tryz.prog 81 [.i c] [] 0 (pB post):=by
 refine Tr.go Tryz.func81 Tryz.ntmps81 fun _ _ _ _ o=>?_
 unfold Gk at g
 refine C.ss (U.pd 1 T (C.xs ?_))
 refine C.jn (fun (x3:Bool)=>[(2,.b x3)]) (fun x3=>[]) 0 g (fun x3 g=>?_) fun J4 g j4=>?_
 refine C.nx (C.ret ?_)
 exact C.f1 T o (pBi g)
 refine U.start (U.ps 3 T rfl ?_)
 refine g.cs (fun b5 g=>?_) fun b5 g=>?_
 refine U.pq 2 2 true 5 b5 T ?_
 refine U.pk b5 ?_
 refine U.pd 1 T ?_
 exact St.wn (j4 _ g)
 refine U.sk' 2 2 true 5 b5 ?_
 refine U.pk' b5 ?_
 refine U.pd 1 T ?_
 exact St.wn (j4 _ g)
theorem Z6 (c:Int) (post:Bool→Prop) (g:X6 c post):
  Tr Tryz.prog 80 [.i c] [] 0 (pB post):=by
 refine Tr.go Tryz.func80 Tryz.ntmps80 fun _ _ _ _ o=>?_
 unfold X6 at g
 refine C.ss (U.pd 1 T (C.xt ?_))
 refine U.ps 1 T rfl (U.k (Q0f c _ g) en81 (fun x5 g=>?_))
 refine U.pd 2 T (C.nx (C.ret ?_))
 exact C.f1 T o (pBi g)
theorem XK (s_1:List Int) (post:Int→Prop) (g:QJ s_1 post):
  Tr Tryz.prog 109 [.sl 1 eI s_1,.fn (.func 80) [] []] [] 0 (pI post):=by
 refine Tr.go Tryz.func109 Tryz.ntmps109 fun _ _ _ _ o=>?_
 unfold QJ at g
 refine C.ss (U.pd 1 T (C.xs (C.ss ?_)))
 refine U.pd 3 T (C.nx ?_)
 refine C.jn (fun (x5:Unit)=>[]) (fun x5=>[]) 0 g (fun x5 g=>?_) fun J6 g j6=>?_
 refine C.xt (U.pd 1 T (C.nx (C.ret ?_)))
 exact C.f1 T o (pIi g)
 refine C.block (St.wk (C.loop (fun (s7:Int)=>[(0,.sl 1 eI s_1),(1,.fn (.func 80) [] []),(7,.i (s_1.length:Int)),(8,.i s7)]) (fun s7=>[]) g (fun s7 Y8 g=>?_)) (Wk.e))
 refine C.ss (U.pd 1 T (C.xs ?_))
 refine C.ite rfl g (fun b11 g=>?_) fun b11 g=>?_
 refine C.skip (C.xs (C.block (C.ss (U.pd 2 T (C.xt ?_)))))
 refine U.ps 3 T rfl ?_
 obtain⟨x16,y16,g⟩:=g
 refine U.ix T y16 ?_
 refine U.ps 1 T rfl (U.k (Z6 x16 _ g) en80 (fun x17 g=>?_))
 refine U.done (C.nx ?_)
 refine C.ite rfl g (fun b18 g=>?_) fun b18 g=>?_
 refine C.ss (U.pd 2 T (C.nx (C.ret (C.brt (C.rt (C.rt (C.brt (C.rt ?_))))))))
 exact C.f1 T o (pIi g)
 refine C.skip (C.bnx (C.nx (U.start (U.pd 2 T (C.nx ?_)))))
 exact St.wk (C.next g) (Wk.e)
 refine C.exit (C.ex (C.ex (C.bex ?_)))
 exact St.wk (j6 _ g) (Wk.mk' [] rfl rfl trivial trivial rfl)
theorem Xw (s_1:List Int) (post:(List Int)→Prop) (g:QE s_1 post):
  Tr Tryz.prog 78 [.o 0,.fn (.func 80) [] []] [(0,.val (.os 1 eI s_1))] 1 (fun A H' k=>∃y,post y∧A=(.o 1)∧H'=[(1,.val (.os 1 eI y))]∧k=2):=by
 refine Tr.go Tryz.func78 Tryz.ntmps78 fun _ _ _ _ o=>?_
 unfold QE at g
 refine C.ss (U.pd 1 T (C.xt ?_))
 refine U.ps 2 T rfl (U.k (XK s_1 _ g) Q5e (fun x5 g=>?_))
 refine U.pd 1 T (C.xs (C.ss ?_))
 refine U.pd 2 T (C.nx ?_)
 refine C.ite rfl g (fun b8 g=>?_) fun b8 g=>?_
 refine C.ss (U.pd 2 T (C.nx (C.ret (C.rt ?_))))
 exact C.g1 [some 0,some 0] T o ⟨s_1,g,rfl,rfl,rfl⟩
 refine C.skip (C.xs (C.ss (U.pd 3 T (C.nx ?_))))
 refine C.jn (fun (x13:List Int×Int)=>[(0,.o 0),(5,.i x13.2)]) (fun x13=>[(0,.val (.os 1 eI x13.1))]) 1 g (fun x13 g=>?_) fun J14 g j14=>?_
 refine C.xt (U.ps 2 T rfl ?_)
 obtain⟨y38,g⟩:=g
 refine U.r rfl (.none rfl) rfl rfl (by exact Rd.vw T rfl rfl rfl rfl rfl rfl (.some _ rfl) (.none _) y38) ?_
 obtain⟨y39,g⟩:=g
 refine U.e1 rfl (.none rfl) (by exact Eff1.clv T (z0:=0) rfl rfl rfl rfl rfl rfl rfl (fun _=>rfl) rfl y39) ?_
 refine U.done (C.xt (U.ps 2 T rfl ?_))
 obtain⟨y42,g⟩:=g
 refine U.e1 rfl (.none rfl) (by exact Eff1.sw T rfl rfl rfl rfl rfl rfl rfl rfl (.none _) (.some _ rfl) y42) ?_
 refine U.pd 1 T (C.nx (C.ret ?_))
 exact C.g1 (idR 2) T o ⟨(sub (x13.1.take (Int.toNat x13.2)++(List.replicate (Int.toNat ((x13.1.length:Int)-x13.2)) 0++x13.1.drop ((Int.toNat x13.2)+(Int.toNat ((x13.1.length:Int)-x13.2))))) 0 x13.2),g,rfl,rfl,rfl⟩
 refine C.block (St.wk (C.loop (fun (s15:List Int×Int×Int)=>[(0,.o 0),(1,.fn (.func 80) [] []),(5,.i s15.2.1),(6,.i s15.2.2)]) (fun s15=>[(0,.val (.os 1 eI s15.1))]) g (fun s15 Y16 g=>?_)) (Wk.a [some 0]))
 refine C.seq (C.ss (U.pd 4 T (C.nx ?_)))
 refine C.ite rfl g (fun b19 g=>?_) fun b19 g=>?_
 refine C.skip (C.xs (C.block (C.ss (U.ps 2 T rfl ?_))))
 obtain⟨x22,y22,g⟩:=g
 refine U.r rfl (.none rfl) rfl rfl (by exact Rd.io T rfl rfl rfl rfl rfl rfl rfl y22) ?_
 refine U.r rfl (.none rfl) rfl rfl (by exact Rd.le T rfl rfl rfl (Qi y22).2.2 rfl rfl rfl) ?_
 refine U.pd 1 T (C.xt ?_)
 refine U.ps 2 T rfl (U.k (Z6 x22 _ g) en80 (fun x25 g=>?_))
 refine U.pd 1 T (C.nx ?_)
 refine C.jn (fun (x26:List Int×Int)=>[(0,.o 0),(1,.fn (.func 80) [] []),(5,.i x26.2),(6,.i s15.2.2)]) (fun x26=>[(0,.val (.os 1 eI x26.1))]) 1 g (fun x26 g=>?_) fun J27 g j27=>?_
 refine C.bnx (C.nx (U.start (U.pd 3 T (C.nx ?_))))
 exact St.wk (C.next g) (Wk.a [some 0])
 refine C.ite rfl g (fun b28 g=>?_) fun b28 g=>?_
 refine C.ss (U.ps 3 T rfl ?_)
 obtain⟨x31,y31,g⟩:=g
 refine U.r rfl (.none rfl) rfl rfl (by exact Rd.io T rfl rfl rfl rfl rfl rfl rfl y31) ?_
 refine U.e1 rfl (.none rfl) (by exact Eff1.se T (z':=x22) rfl rfl rfl (Qi y31).2.2 rfl rfl rfl rfl rfl rfl rfl rfl (fun _=>rfl) rfl) ?_
 refine U.done (C.nx (U.start (U.pd 3 T ?_)))
 exact St.wa [some 0] (j27 _ g)
 refine C.skip ?_
 exact St.wa [some 0] (j27 _ g)
 refine C.exit (C.ex (C.ex (C.bex ?_)))
 exact St.wa [some 0] (j14 _ g)
def Q6F:Go.Shelf.Ren:=⟨fun | 125=>139 | 128=>183 | 129=>184 | 189=>82 | 215=>210 | 216=>180 | 257=>138 | 294=>174 | 295=>175 | 296=>176 | 297=>177 | 298=>178 | 299=>179 | 300=>181 | 301=>182 | 328=>205 | 329=>206 | 330=>207 | 331=>208 | 332=>209 | 343=>224 | n=>n,fun | 0=>0 | 3=>3 | 4=>4 | 5=>5 | 9=>9 | 28=>22 | 46=>193 | 51=>260 | 53=>262 | 131=>80 | 182=>253 | 183=>254 | 218=>280 | 222=>284 | 228=>293 | 229=>294 | n=>n,fun n=>n⟩
theorem Q6t:Go.Proofs.Lays.n189 Tryz.prog Q6F where
 mixed:=by kernel_rfl
 f125:=Tryz.func139.trans (congrArg some (by kernel_rfl))
 f128:=Tryz.func183.trans (congrArg some (by kernel_rfl))
 f129:=Tryz.func184.trans (congrArg some (by kernel_rfl))
 f189:=Tryz.func82.trans (congrArg some (by kernel_rfl))
 f215:=Tryz.func210.trans (congrArg some (by kernel_rfl))
 f216:=Tryz.func180.trans (congrArg some (by kernel_rfl))
 f257:=Tryz.func138.trans (congrArg some (by kernel_rfl))
 f294:=Tryz.func174.trans (congrArg some (by kernel_rfl))
 f295:=Tryz.func175.trans (congrArg some (by kernel_rfl))
 f296:=Tryz.func176.trans (congrArg some (by kernel_rfl))
 f297:=Tryz.func177.trans (congrArg some (by kernel_rfl))
 f298:=Tryz.func178.trans (congrArg some (by kernel_rfl))
 f299:=Tryz.func179.trans (congrArg some (by kernel_rfl))
 f300:=Tryz.func181.trans (congrArg some (by kernel_rfl))
 f301:=Tryz.func182.trans (congrArg some (by kernel_rfl))
 f328:=Tryz.func205.trans (congrArg some (by kernel_rfl))
 f329:=Tryz.func206.trans (congrArg some (by kernel_rfl))
 f330:=Tryz.func207.trans (congrArg some (by kernel_rfl))
 f331:=Tryz.func208.trans (congrArg some (by kernel_rfl))
 f332:=Tryz.func209.trans (congrArg some (by kernel_rfl))
 f343:=Tryz.func224.trans (congrArg some (by kernel_rfl))
 t0:=Tryz.underlying0
 a0:=Tryz.isAgg0
 z0:=Tryz.sizeOf0
 v0:=Tryz.zeroValue0
 t3:=Tryz.underlying3
 a3:=Tryz.isAgg3
 z3:=Tryz.sizeOf3
 v3:=Tryz.zeroValue3
 t4:=Tryz.underlying4
 a4:=Tryz.isAgg4
 z4:=Tryz.sizeOf4
 v4:=Tryz.zeroValue4
 t5:=Tryz.underlying5
 a5:=Tryz.isAgg5
 z5:=Tryz.sizeOf5
 v5:=Tryz.zeroValue5
 t9:=Tryz.underlying9
 a9:=Tryz.isAgg9
 z9:=Tryz.sizeOf9
 v9:=Tryz.zeroValue9
 t28:=Tryz.underlying22
 a28:=Tryz.isAgg22
 z28:=Tryz.sizeOf22
 v28:=Tryz.zeroValue22
 t46:=Tryz.underlying193
 a46:=Tryz.isAgg193
 z46:=Tryz.sizeOf193
 v46:=Tryz.zeroValue193
 t51:=Tryz.underlying260
 a51:=Tryz.isAgg260
 z51:=Tryz.sizeOf260
 v51:=Tryz.zeroValue260
 t53:=Tryz.underlying262
 a53:=Tryz.isAgg262
 z53:=Tryz.sizeOf262
 v53:=Tryz.zeroValue262
 t131:=Tryz.underlying80
 a131:=Tryz.isAgg80
 z131:=Tryz.sizeOf80
 v131:=Tryz.zeroValue80
 t182:=Tryz.underlying253
 a182:=Tryz.isAgg253
 z182:=Tryz.sizeOf253
 v182:=Tryz.zeroValue253
 t183:=Tryz.underlying254
 a183:=Tryz.isAgg254
 z183:=Tryz.sizeOf254
 v183:=Tryz.zeroValue254
 t218:=Tryz.underlying280
 a218:=Tryz.isAgg280
 z218:=Tryz.sizeOf280
 v218:=Tryz.zeroValue280
 t222:=Tryz.underlying284
 a222:=Tryz.isAgg284
 z222:=Tryz.sizeOf284
 v222:=Tryz.zeroValue284
 t228:=Tryz.underlying293
 a228:=Tryz.isAgg293
 z228:=Tryz.sizeOf293
 v228:=Tryz.zeroValue293
 t229:=Tryz.underlying294
 a229:=Tryz.isAgg294
 z229:=Tryz.sizeOf294
 v229:=Tryz.zeroValue294
theorem Wn (p0:List Int) (post:List Int→Prop) (g:Kd p0 post):
  Tr Tryz.prog 82 [.o 0] [(0,.val (.os 1 eI p0))] 1 (fun A H' k=>∃y,post y∧A=(.tup [])∧H'=[(0,.val (.os 1 eI y))]∧k=1):=by
 unfold Kd at g
 exact Tr.sortInt Q6t p0 g.1 g.2
theorem GO (s_1:List Int) (post:(List Int)→Prop) (g:V_slices_Compact_int_int__o0 s_1 post):
  Tr Tryz.prog 83 [.o 0] [(0,.val (.os 1 eI s_1))] 1 (fun A H' k=>∃y,post y∧A=(.o 1)∧H'=[(1,.val (.os 1 eI y))]∧k=2):=by
 refine Tr.go Tryz.func83 Tryz.ntmps83 fun _ _ _ _ o=>?_
 unfold V_slices_Compact_int_int__o0 at g
 refine C.ss (U.pd 1 T (C.xs (C.ss ?_)))
 refine U.pd 3 T (C.nx ?_)
 refine C.ite rfl g (fun b5 g=>?_) fun b5 g=>?_
 refine C.ss (U.pd 2 T (C.nx (C.ret (C.rt ?_))))
 exact C.g1 [some 0,some 0] T o ⟨s_1,g,rfl,rfl,rfl⟩
 refine C.skip (C.xs (C.ss (U.pd 1 T (C.nx ?_))))
 refine C.jn (fun (x10:Unit)=>[(0,.o 0)]) (fun x10=>[(0,.val (.os 1 eI s_1))]) 1 g (fun x10 g=>?_) fun J11 g j11=>?_
 refine C.xt (U.pd 2 T (C.nx (C.ret ?_)))
 exact C.g1 [some 0,some 0] T o ⟨s_1,g,rfl,rfl,rfl⟩
 refine C.block (St.wk (C.loop (fun (s12:Int)=>[(0,.o 0),(3,.i s12)]) (fun s12=>[(0,.val (.os 1 eI s_1))]) g (fun s12 Y13 g=>?_)) (Wk.a [some 0]))
 refine C.seq (C.ss (U.pd 4 T (C.nx ?_)))
 refine C.ite rfl g (fun b16 g=>?_) fun b16 g=>?_
 refine C.skip (C.xs ?_)
 refine C.jn (fun (x17:Unit)=>[(0,.o 0),(3,.i s12)]) (fun x17=>[(0,.val (.os 1 eI s_1))]) 1 g (fun x17 g=>?_) fun J18 g j18=>?_
 refine C.nx (U.start (U.pd 3 T (C.nx ?_)))
 exact St.wk (C.next g) (Wk.a [some 0])
 refine C.block (C.seq (D.bq mix 9999 [0] [] (fun hQ hS ws M'=>?_)))
 refine D.pq 2 (zl [0,1]) T ?_
 obtain⟨x21,y21,g⟩:=g
 refine D.q 2 [] hQ hS rfl (.none rfl) rfl rfl (by exact Rd.io T rfl rfl rfl rfl rfl rfl rfl y21) rfl (by kernel_rfl) ?_
 refine D.q 3 [] hQ hS rfl (.none rfl) rfl rfl (by exact Rd.le T rfl rfl rfl (Qi y21).2.2 rfl rfl rfl) rfl (by kernel_rfl) ?_
 refine D.pq 3 (zl [4,5,6]) T ?_
 obtain⟨x22,y22,g⟩:=g
 refine D.q 7 [] hQ hS rfl (.none rfl) rfl rfl (by exact Rd.io T rfl rfl rfl rfl rfl rfl rfl y22) rfl (by kernel_rfl) ?_
 refine D.q 8 [] hQ hS rfl (.none rfl) rfl rfl (by exact Rd.le T rfl rfl rfl (Qi y22).2.2 rfl rfl rfl) rfl (by kernel_rfl) ?_
 refine D.pq 1 [(9,[])] T ?_
 refine D.done (by kernel_rfl) ?_
 refine C.nx ?_
 refine C.ite rfl g (fun b23 g=>?_) fun b23 g=>?_
 refine C.ss (U.ps 2 T rfl ?_)
 obtain⟨y26,g⟩:=g
 refine U.r rfl (.none rfl) rfl rfl (by exact Rd.vw T rfl rfl rfl rfl rfl rfl (.some _ rfl) (.none _) y26) ?_
 refine U.pd 1 T (C.xs (C.ss ?_))
 refine U.pd 1 T (C.nx ?_)
 refine C.jn (fun (x29:List Int×Int)=>[(0,.o 0),(3,.i x29.2)]) (fun x29=>[(0,.val (.os 1 eI x29.1))]) 1 g (fun x29 g=>?_) fun J30 g j30=>?_
 refine C.xt (U.ps 2 T rfl ?_)
 obtain⟨y55,g⟩:=g
 refine U.r rfl (.none rfl) rfl rfl (by exact Rd.vw T rfl rfl rfl rfl rfl rfl (.some _ rfl) (.none _) y55) ?_
 obtain⟨y56,g⟩:=g
 refine U.e1 rfl (.none rfl) (by exact Eff1.clv T (z0:=0) rfl rfl rfl rfl rfl rfl rfl (fun _=>rfl) rfl y56) ?_
 refine U.done (C.xt (U.ps 2 T rfl ?_))
 obtain⟨y59,g⟩:=g
 refine U.e1 rfl (.none rfl) (by exact Eff1.sw T rfl rfl rfl rfl rfl rfl rfl rfl (.none _) (.some _ rfl) y59) ?_
 refine U.pd 1 T (C.nx (C.ret (C.brt (C.rt (C.rt (C.brt (C.rt ?_)))))))
 exact C.g1 (idR 2) T o ⟨(sub (x29.1.take (Int.toNat x29.2)++(List.replicate (Int.toNat ((x29.1.length:Int)-x29.2)) 0++x29.1.drop ((Int.toNat x29.2)+(Int.toNat ((x29.1.length:Int)-x29.2))))) 0 x29.2),g,rfl,rfl,rfl⟩
 refine C.block (St.wk (C.loop (fun (s31:List Int×Int×Int)=>[(0,.o 0),(3,.i s31.2.1),(4,.vw 0 1 (Int.toNat s12) (Int.toNat ((s_1.length:Int)-s12))),(5,.i s31.2.2)]) (fun s31=>[(0,.val (.os 1 eI s31.1))]) g (fun s31 Y32 g=>?_)) (Wk.a [some 0]))
 refine C.seq (C.ss (U.ps 2 T rfl (U.r rfl (.none rfl) rfl rfl (by exact Rd.vl T rfl rfl rfl) ?_)))
 refine U.pd 1 T (C.nx ?_)
 refine C.ite rfl g (fun b35 g=>?_) fun b35 g=>?_
 refine C.skip (C.xs (C.block (C.seq (D.bq mix 9999 [0] [] (fun hQ hS ws M'=>?_)))))
 refine D.pq 2 (zl [0,1]) T ?_
 obtain⟨y38,g⟩:=g
 refine D.q 2 [] hQ hS rfl (.none rfl) rfl rfl (by exact Rd.vi T rfl rfl rfl rfl rfl rfl y38) rfl (by kernel_rfl) ?_
 obtain⟨x39,y39,g⟩:=g
 refine D.q 3 [] hQ hS rfl (.none rfl) rfl rfl (by exact Rd.le T rfl rfl rfl y39 rfl rfl rfl) rfl (by kernel_rfl) ?_
 refine D.pq 3 (zl [4,5,6]) T ?_
 obtain⟨y40,g⟩:=g
 refine D.q 7 [] hQ hS rfl (.none rfl) rfl rfl (by exact Rd.vi T rfl rfl rfl rfl rfl rfl y40) rfl (by kernel_rfl) ?_
 obtain⟨x41,y41,g⟩:=g
 refine D.q 8 [] hQ hS rfl (.none rfl) rfl rfl (by exact Rd.le T rfl rfl rfl y41 rfl rfl rfl) rfl (by kernel_rfl) ?_
 refine D.pq 1 [(9,[])] T ?_
 refine D.done (by kernel_rfl) ?_
 refine C.nx ?_
 refine C.jn (fun (x42:List Int×Int)=>[(0,.o 0),(3,.i x42.2),(4,.vw 0 1 (Int.toNat s12) (Int.toNat ((s_1.length:Int)-s12))),(5,.i s31.2.2)]) (fun x42=>[(0,.val (.os 1 eI x42.1))]) 1 g (fun x42 g=>?_) fun J43 g j43=>?_
 refine C.bnx (C.nx (U.start (U.pd 3 T (C.nx ?_))))
 exact St.wk (C.next g) (Wk.a [some 0])
 refine C.ite rfl g (fun b44 g=>?_) fun b44 g=>?_
 refine C.ss (U.ps 4 T rfl ?_)
 obtain⟨y47,g⟩:=g
 refine U.r rfl (.none rfl) rfl rfl (by exact Rd.vi T rfl rfl rfl rfl rfl rfl y47) ?_
 refine U.r rfl (.none rfl) rfl rfl (by exact Rd.le T rfl rfl rfl y39 rfl rfl rfl) ?_
 obtain⟨x48,y48,g⟩:=g
 refine U.r rfl (.none rfl) rfl rfl (by exact Rd.io T rfl rfl rfl rfl rfl rfl rfl y48) ?_
 refine U.e1 rfl (.none rfl) (by exact Eff1.se T (z':=x39) rfl rfl rfl (Qi y48).2.2 rfl rfl rfl rfl rfl rfl rfl rfl (fun _=>rfl) rfl) ?_
 refine U.done (C.nx (U.start (U.pd 3 T ?_)))
 exact St.wa [some 0] (j43 _ g)
 refine C.skip ?_
 exact St.wa [some 0] (j43 _ g)
 refine C.exit (C.ex (C.ex (C.bex ?_)))
 exact St.wa [some 0] (j30 _ g)
 refine C.skip (C.bnx ?_)
 exact St.wa [some 0] (j18 _ g)
 refine C.exit (C.ex (C.ex (C.bex ?_)))
 exact St.wa [some 0] (j11 _ g)
theorem Q2g (l:List Int) (post:(List Int)→Prop) (g:GZ l post):
  Tr Tryz.prog 30 [.sl 1 eI l] [] 0 (fun A H' k=>∃y,post y∧A=(.o 0)∧H'=[(0,.val (.os 1 eI y))]∧k=1):=by
 refine Tr.go Tryz.func30 Tryz.ntmps30 fun _ _ _ _ o=>?_
 unfold GZ at g
 refine C.ss (U.pd 1 T (C.xt ?_))
 refine U.ps 1 T rfl (U.k (Kq l _ g) en79 (fun x5 g=>?_))
 refine U.c [some 0] (Xw x5 _ g) en78 fun x6 g=>?_
 refine U.pd 1 T (C.xt ?_)
 refine U.ps 1 T rfl (U.c [some 2] (Wn x6 _ g) en82 (fun x9 g=>?_))
 refine U.done (C.xt (U.ps 1 T rfl (U.c [some 2] (GO x9 _ g) en83 (fun x12 g=>?_))))
 refine U.pd 1 T (C.nx (C.ret ?_))
 exact C.g1 [some 5] T o ⟨x12,g,rfl,rfl,rfl⟩
theorem Yj (s_1:ApiSite) (from_1:Int) (acts:List Int) (k:Int) (post:(List Int)→Prop) (g:XX s_1 from_1 acts k post):
  Tr Tryz.prog 15 [.agg (Q9 s_1),.i from_1,.sl 1 eI acts,.i k] [] 0 (fun A H' k=>∃y,post y∧A=(.o 0)∧H'=[(0,.val (.os 1 eI y))]∧k=1):=by
 refine Tr.go Tryz.func15 Tryz.ntmps15 fun _ _ _ _ o=>?_
 unfold XX at g
 refine C.ss (U.bx ?_)
 refine U.pd 1 T (C.xt ?_)
 refine U.ps 3 T rfl (U.k (Q1i s_1 from_1 acts _ g) en28 (fun x5 g=>?_))
 refine U.pd 1 T (C.xs (C.seq ?_))
 refine C.jn (fun (x6:Bool)=>[(2,.sl 1 eI acts),(3,.i k),(4,.p 0 0),(9,.o 1),(23,.b x6)]) (fun x6=>[(0,.box (Q9 s_1)),(1,.val (.os 1 eI x5))]) 2 g (fun x6 g=>?_) fun J7 g j7=>?_
 refine C.nx ?_
 refine C.ite rfl g (fun b9 g=>?_) fun b9 g=>?_
 refine C.ss (U.pd 1 T (C.nx (C.ret (C.rt ?_))))
 exact C.g1 [none] T o ⟨[],g,rfl,rfl,rfl⟩
 refine C.skip (C.xt (U.ps 6 T rfl ?_))
 obtain⟨x14,y14,g⟩:=g
 refine U.r rfl (.none rfl) rfl rfl (by exact Rd.io T rfl rfl rfl rfl rfl rfl rfl y14) ?_
 refine U.r rfl (.none rfl) rfl rfl (by exact Rd.le T rfl rfl rfl (Qi y14).2.2 rfl rfl rfl) ?_
 refine U.pd 1 T (C.xs (C.seq ?_))
 refine C.jn (fun (x15:Bool)=>[(2,.sl 1 eI acts),(3,.i k),(4,.p 0 0),(10,.i x14),(49,.b x15)]) (fun x15=>[(0,.box (Q9 s_1))]) 1 g (fun x15 g=>?_) fun J16 g j16=>?_
 refine C.nx ?_
 refine C.jn (fun (x20:Unit)=>[(10,.i x14)]) (fun x20=>[]) 0 g (fun x20 g=>?_) fun J21 g j21=>?_
 refine C.xt (U.ps 1 T rfl (U.bs T eI ([x14]:List Int) ?_))
 refine U.pd 1 T (C.nx (C.ret ?_))
 exact C.g1 [some 0] T o ⟨([x14]:List Int),g,rfl,rfl,rfl⟩
 refine C.ite rfl g (fun b22 g=>?_) fun b22 g=>?_
 refine C.seq (D.bq mix 9999 [0] [] (fun hQ hS ws M'=>?_))
 refine D.pq 5 (zl [0,1,2,3,4]) T ?_
 obtain⟨x25,y25,g⟩:=g
 refine D.ix 5 [] T y25 ?_
 refine D.pq 2 (zl [6,7]) T ?_
 refine D.k 8 (Wb s_1.Floor x14 (w64 (x25-1)) _ g) en29 fun x26 g=>?_
 refine D.pq 5 (zl [9,10,11,12,13]) T ?_
 refine D.done (by kernel_rfl) ?_
 refine C.xt (U.pd 1 T (C.nx ?_))
 refine C.ite rfl g (fun b29 g=>?_) fun b29 g=>?_
 refine C.ss (U.ps 2 T rfl (U.bs T eI ([x14,x26.1]:List Int) ?_))
 refine U.k (Q2g ([x14,x26.1]:List Int) _ g) en30 fun x32 g=>?_
 refine U.pd 1 T (C.nx (C.ret (C.rt ?_)))
 exact C.g1 [some 2] T o ⟨x32,g,rfl,rfl,rfl⟩
 refine C.skip ?_
 exact St.wn (j21 _ g)
 refine C.skip ?_
 exact St.wn (j21 _ g)
 refine U.start (U.ps 5 T rfl ?_)
 refine g.cs (fun b17 g=>?_) fun b17 g=>?_
 refine U.pq 2 4 true 36 b17 T ?_
 obtain⟨x18,y18,g⟩:=g
 refine U.r rfl (.tk 4 true 36 b17) rfl rfl (by exact Rd.ix T rfl rfl rfl rfl rfl rfl y18) ?_
 refine U.pq 2 4 true 36 b17 T ?_
 refine U.pk b17 ?_
 refine U.ps 1 T rfl ?_
 refine g.cs (fun b19 g=>?_) fun b19 g=>?_
 refine U.pq 2 11 true 43 b19 T ?_
 refine U.r rfl (.tk 11 true 43 b19) rfl rfl (by exact Rd.ix T rfl rfl rfl rfl rfl rfl y18) ?_
 refine U.pq 2 11 true 43 b19 T ?_
 refine U.pk b19 ?_
 refine U.done ?_
 exact St.wa [some 0] (j16 _ g)
 refine U.sk' 5 11 true 43 b19 ?_
 refine U.pk' b19 ?_
 refine U.done ?_
 exact St.wa [some 0] (j16 _ g)
 refine U.sk' 5 4 true 36 b17 ?_
 refine U.pk' b17 ?_
 refine U.ps 1 T rfl (U.sk' 5 11 true 43 rfl ?_)
 refine U.pk' rfl ?_
 refine U.done ?_
 exact St.wa [some 0] (j16 _ g)
 refine U.start (U.ps 4 T rfl ?_)
 refine g.cs (fun b8 g=>?_) fun b8 g=>?_
 refine U.sk' 2 3 false 20 b8 ?_
 refine U.pk b8 ?_
 refine U.done ?_
 exact St.wa (idR 2) (j7 _ g)
 refine U.pq 2 3 false 20 b8 T ?_
 refine U.pk' b8 ?_
 refine U.done ?_
 exact St.wa (idR 2) (j7 _ g)
theorem Q0u (a:List Int) (b:List Int) (post:(List Int×List Int)→Prop) (g:Gm a b post):
  Tr Tryz.prog 113 [.sl 1 eI a,.sl 1 eI b] [] 0 (fun A H' k=>∃y,post y∧A=(.fn (.func 153) [] [.p 0 0,.p 1 0])∧H'=[(0,.box [.sl 1 eI y.1]),(1,.box [.sl 1 eI y.2])]∧k=2):=by
 refine Tr.go Tryz.func113 Tryz.ntmps113 fun _ _ _ _ o=>?_
 unfold Gm at g
 refine C.ss (U.bx ?_)
 refine U.bx ?_
 refine U.pd 1 T (C.xt ?_)
 refine U.pd 2 T (C.nx (C.ret ?_))
 exact C.g1 (idR 2) T o ⟨(a,b),g,rfl,rfl,rfl⟩
theorem Wu (c0:List Int) (c1:List Int) (oy:Option (List (Int×QX))) (post:(Option (List (Int×QX)))→Prop) (g:Kh c0 c1 oy post) (lid:Nat) (E Ex:Foot):
  Tr Tryz.prog 153 [.v (.func (.yield lid) #[] #[]),.p 0 0,.p 1 0] [(0,.box [.sl 1 eI c0]),(1,.box [.sl 1 eI c1]),(2,.abs (CapO Tryz.prog lid (fun x:Int×QX=>[.i x.1,.agg [.b x.2.e0,.b x.2.e1]]) E Ex oy))] 3 (fun A H' k=>∃y,post y∧A=(.tup [])∧H'=[(2,.abs (CapO Tryz.prog lid (fun x:Int×QX=>[.i x.1,.agg [.b x.2.e0,.b x.2.e1]]) E Ex y))]∧k=3):=by
 refine Tr.go Tryz.func153 Tryz.ntmps153 fun _ _ _ _ o=>?_
 unfold Kh at g
 refine C.jn (fun (x1:List Int×List Int×Option (List (Int×QX)))=>[]) (fun x1=>[(0,.box [.sl 1 eI x1.1]),(1,.box [.sl 1 eI x1.2.1]),(2,.abs (CapO Tryz.prog lid (fun x:Int×QX=>[.i x.1,.agg [.b x.2.e0,.b x.2.e1]]) E Ex x1.2.2))]) 3 g (fun x1 g=>?_) fun J2 g j2=>?_
 exact C.fin T (rs':=[]) (H':=[(2,.abs (CapO Tryz.prog lid (fun x:Int×QX=>[.i x.1,.agg [.b x.2.e0,.b x.2.e1]]) E Ex x1.2.2))]) (nl':=3) [some 0,some 1,some 2] rfl rfl (.eq rfl) ⟨⟨_,rfl,.abs rfl⟩,trivial⟩ rfl rfl rfl rfl o ⟨x1.2.2,g,rfl,rfl,rfl⟩
 refine C.block ?_
 refine St.wk (C.loop (fun (s3:List Int×List Int×Option (List (Int×QX)))=>[(0,.v (.func (.yield lid) #[] #[])),(1,.p 0 0),(2,.p 1 0)]) (fun s3=>[(0,.box [.sl 1 eI s3.1]),(1,.box [.sl 1 eI s3.2.1]),(2,.abs (CapO Tryz.prog lid (fun x:Int×QX=>[.i x.1,.agg [.b x.2.e0,.b x.2.e1]]) E Ex s3.2.2))]) g (fun s3 Y4 g=>?_)) (Wk.f [some 0,some 1,some 2] ⟨bX,bX,⟨_,rfl,.abs rfl⟩,trivial⟩)
 refine C.seq (C.ss (U.pd 6 T (C.nx ?_)))
 refine C.ite rfl g (fun b7 g=>?_) fun b7 g=>?_
 refine C.skip (C.nx (C.block (C.seq ?_)))
 refine C.jn (fun (x8:Bool)=>[(0,.v (.func (.yield lid) #[] #[])),(1,.p 0 0),(2,.p 1 0),(4,.b x8)]) (fun x8=>[(0,.box [.sl 1 eI s3.1]),(1,.box [.sl 1 eI s3.2.1]),(2,.abs (CapO Tryz.prog lid (fun x:Int×QX=>[.i x.1,.agg [.b x.2.e0,.b x.2.e1]]) E Ex s3.2.2))]) 3 g (fun x8 g=>?_) fun J9 g j9=>?_
 refine C.xs ?_
 refine C.jn (fun (x14:Bool)=>[(0,.v (.func (.yield lid) #[] #[])),(1,.p 0 0),(2,.p 1 0),(4,.b x8),(5,.b x14)]) (fun x14=>[(0,.box [.sl 1 eI s3.1]),(1,.box [.sl 1 eI s3.2.1]),(2,.abs (CapO Tryz.prog lid (fun x:Int×QX=>[.i x.1,.agg [.b x.2.e0,.b x.2.e1]]) E Ex s3.2.2))]) 3 g (fun x14 g=>?_) fun J15 g j15=>?_
 refine C.xt (U.pd 1 T (C.xs (C.ss ?_)))
 refine U.pd 1 T (C.nx ?_)
 refine C.jn (fun (x24:List Int×Int)=>[(0,.v (.func (.yield lid) #[] #[])),(1,.p 0 0),(2,.p 1 0),(4,.b x8),(5,.b x14),(6,.i x24.2)]) (fun x24=>[(0,.box [.sl 1 eI x24.1]),(1,.box [.sl 1 eI s3.2.1]),(2,.abs (CapO Tryz.prog lid (fun x:Int×QX=>[.i x.1,.agg [.b x.2.e0,.b x.2.e1]]) E Ex s3.2.2))]) 3 g (fun x24 g=>?_) fun J25 g j25=>?_
 refine C.xs (C.ss (U.pd 1 T (C.nx ?_)))
 refine C.jn (fun (x33:List Int×Int)=>[(0,.v (.func (.yield lid) #[] #[])),(1,.p 0 0),(2,.p 1 0),(4,.b x8),(5,.b x14),(6,.i x33.2)]) (fun x33=>[(0,.box [.sl 1 eI x24.1]),(1,.box [.sl 1 eI x33.1]),(2,.abs (CapO Tryz.prog lid (fun x:Int×QX=>[.i x.1,.agg [.b x.2.e0,.b x.2.e1]]) E Ex s3.2.2))]) 3 g (fun x33 g=>?_) fun J34 g j34=>?_
 refine C.xs (Y.start ?_)
 refine Y.pre [0,1,2,3,4] [5,6] (by kernel_rfl) (by kernel_rfl) (by repeat (first | exact Xd.rnd | exact Xd.body | exact Xd.bot | refine Xd.th ?_ | refine Xd.blk ?_)) ?_
 refine U.pd 5 T (C.nx ?_)
 refine Y.yield (x:=(x33.2,({e0:=x8,e1:=x14:QX}))) (c:=2) g rfl rfl rfl rfl rfl rfl rfl rfl fun x40 g=>?_
 refine Y.pre [6] [] (by kernel_rfl) (by kernel_rfl) (by repeat (first | exact Xd.rnd | exact Xd.body | exact Xd.bot | refine Xd.th ?_ | refine Xd.blk ?_)) ?_
 refine U.pd 1 T (C.nx ?_)
 refine Y.done ?_
 refine C.nx ?_
 refine C.ite rfl g (fun b41 g=>?_) fun b41 g=>?_
 refine C.ret (C.brt (C.rt (C.brt ?_)))
 exact C.fin T (rs':=[]) (H':=[(2,.abs (CapO Tryz.prog lid (fun x:Int×QX=>[.i x.1,.agg [.b x.2.e0,.b x.2.e1]]) E Ex x40.2))]) (nl':=3) [some 0,some 1,some 2] rfl rfl (.eq rfl) ⟨⟨_,rfl,.abs rfl⟩,trivial⟩ rfl rfl rfl rfl o ⟨x40.2,g,rfl,rfl,rfl⟩
 refine C.skip (C.bnx (C.nx ?_))
 exact St.wk (C.next g) (Wk.f [some 0,some 1,some 2] ⟨bX,bX,⟨_,rfl,.abs rfl⟩,trivial⟩)
 refine C.ite rfl g (fun b35 g=>?_) fun b35 g=>?_
 refine D.bq mix 6 [1] [] (fun hQ hS ws M'=>?_)
 refine D.pq 1 [(0,[])] T ?_
 obtain⟨x38,y38,g⟩:=g
 refine D.ix 1 [] T y38 ?_
 refine D.pq 2 (zl [2,3]) T ?_
 obtain⟨y39,g⟩:=g
 refine D.q 4 [] hQ hS rfl (.none rfl) rfl rfl (by exact Rd.so T rfl rfl rfl rfl rfl (.some _ rfl) (.none _) y39) rfl (by kernel_rfl) ?_
 refine D.pq 1 [(5,[])] T ?_
 refine D.ze1 rfl (.none rfl) (by exact Eff1.st T rfl rfl rfl rfl rfl rfl rfl rfl rfl rfl) (by kernel_rfl) (by kernel_rfl) ?_
 exact St.wk (j34 _ g) (Wk.f [some 0,some 1,some 2] ⟨bX,bX,⟨_,rfl,.abs rfl⟩,trivial⟩)
 refine C.skip ?_
 exact St.wk (j34 _ g) (Wk.f [some 0,some 1,some 2] ⟨bX,bX,⟨_,rfl,.abs rfl⟩,trivial⟩)
 refine C.ite rfl g (fun b26 g=>?_) fun b26 g=>?_
 refine D.bq mix 6 [0] [] (fun hQ hS ws M'=>?_)
 refine D.pq 1 [(0,[])] T ?_
 obtain⟨x29,y29,g⟩:=g
 refine D.ix 1 [] T y29 ?_
 refine D.pq 2 (zl [2,3]) T ?_
 obtain⟨y30,g⟩:=g
 refine D.q 4 [] hQ hS rfl (.none rfl) rfl rfl (by exact Rd.so T rfl rfl rfl rfl rfl (.some _ rfl) (.none _) y30) rfl (by kernel_rfl) ?_
 refine D.pq 1 [(5,[])] T ?_
 refine D.ze1 rfl (.none rfl) (by exact Eff1.st T rfl rfl rfl rfl rfl rfl rfl rfl rfl rfl) (by kernel_rfl) (by kernel_rfl) ?_
 exact St.wk (j25 _ g) (Wk.f [some 0,some 1,some 2] ⟨bX,bX,⟨_,rfl,.abs rfl⟩,trivial⟩)
 refine C.skip ?_
 exact St.wk (j25 _ g) (Wk.f [some 0,some 1,some 2] ⟨bX,bX,⟨_,rfl,.abs rfl⟩,trivial⟩)
 refine D.bq mix 9999 [0,1] [] (fun hQ hS ws M'=>?_)
 refine D.pq 4 (zl [0,1,2,3]) T ?_
 refine g.cs (fun b16 g=>?_) fun b16 g=>?_
 refine D.sz 4 [] 3 false 33 b16 ?_
 refine D.sz 5 [] 3 false 33 b16 ?_
 refine D.sz 6 [] 3 false 33 b16 ?_
 refine D.sz 7 [] 3 false 33 b16 ?_
 refine D.sx 8 [] hQ hS (.und 7 true 37 rfl rfl rfl) ?_
 refine D.sx 9 [] hQ hS (.und 7 true 37 rfl rfl rfl) ?_
 refine D.sx 10 [] hQ hS (.und 7 true 37 rfl rfl rfl) ?_
 refine D.sx 11 [] hQ hS (.und 7 true 37 rfl rfl rfl) ?_
 refine D.sx 12 [] hQ hS (.und 7 true 37 rfl rfl rfl) ?_
 refine D.sx 13 [] hQ hS (.und 7 true 37 rfl rfl rfl) ?_
 refine D.sx 14 [] hQ hS (.und 7 true 37 rfl rfl rfl) ?_
 refine D.sz 15 [] 3 false 33 b16 ?_
 refine D.kt 16 [] b16 ?_
 refine D.pq 1 [(17,[])] T ?_
 refine D.done (by kernel_rfl) ?_
 exact St.wk (j15 _ g) (Wk.f [some 0,some 1,some 2] ⟨bX,bX,⟨_,rfl,.abs rfl⟩,trivial⟩)
 refine D.q 4 [] hQ hS rfl (.tk 3 false 33 b16) rfl rfl (by exact Rd.l T rfl rfl rfl) rfl (by kernel_rfl) ?_
 refine D.pt 5 [] 3 false 33 b16 T ?_
 refine D.pt 6 [] 3 false 33 b16 T ?_
 refine D.pt 7 [] 3 false 33 b16 T ?_
 refine g.cs (fun b17 g=>?_) fun b17 g=>?_
 refine D.q 8 [] hQ hS rfl (.tk 7 true 37 b17) rfl rfl (by exact Rd.l T rfl rfl rfl) rfl (by kernel_rfl) ?_
 obtain⟨x18,y18,g⟩:=g
 refine D.q 9 [] hQ hS rfl (.tk 7 true 37 b17) rfl rfl (by exact Rd.ix T rfl rfl rfl rfl rfl rfl y18) rfl (by kernel_rfl) ?_
 refine D.q 10 [] hQ hS rfl (.tk 7 true 37 b17) rfl rfl (by exact Rd.l T rfl rfl rfl) rfl (by kernel_rfl) ?_
 refine D.q 11 [] hQ hS rfl (.tk 7 true 37 b17) rfl rfl (by exact Rd.l T rfl rfl rfl) rfl (by kernel_rfl) ?_
 obtain⟨x19,y19,g⟩:=g
 refine D.q 12 [] hQ hS rfl (.tk 7 true 37 b17) rfl rfl (by exact Rd.ix T rfl rfl rfl rfl rfl rfl y19) rfl (by kernel_rfl) ?_
 refine D.q 13 [] hQ hS rfl (.tk 7 true 37 b17) rfl rfl (by exact Rd.l T rfl rfl rfl) rfl (by kernel_rfl) ?_
 refine D.pt 14 [] 7 true 37 b17 T ?_
 refine D.q 15 [] hQ hS rfl (.tk 3 false 33 b16) rfl rfl (by exact Rd.pk rfl rfl b17 rfl) rfl (by kernel_rfl) ?_
 refine D.kf 16 [] b16 ?_
 refine D.pq 1 [(17,[])] T ?_
 refine D.done (by kernel_rfl) ?_
 exact St.wk (j15 _ g) (Wk.f [some 0,some 1,some 2] ⟨bX,bX,⟨_,rfl,.abs rfl⟩,trivial⟩)
 refine D.sz 8 [] 7 true 37 b17 ?_
 refine D.sz 9 [] 7 true 37 b17 ?_
 refine D.sz 10 [] 7 true 37 b17 ?_
 refine D.sz 11 [] 7 true 37 b17 ?_
 refine D.sz 12 [] 7 true 37 b17 ?_
 refine D.sz 13 [] 7 true 37 b17 ?_
 refine D.sz 14 [] 7 true 37 b17 ?_
 refine D.q 15 [] hQ hS rfl (.tk 3 false 33 b16) rfl rfl (by exact Rd.pk' rfl rfl b17 rfl) rfl (by kernel_rfl) ?_
 refine D.kf 16 [] b16 ?_
 refine D.pq 1 [(17,[])] T ?_
 refine D.done (by kernel_rfl) ?_
 exact St.wk (j15 _ g) (Wk.f [some 0,some 1,some 2] ⟨bX,bX,⟨_,rfl,.abs rfl⟩,trivial⟩)
 refine D.bq mix 9999 [0,1] [] (fun hQ hS ws M'=>?_)
 refine D.pq 4 (zl [0,1,2,3]) T ?_
 refine g.cs (fun b10 g=>?_) fun b10 g=>?_
 refine D.sz 4 [] 3 false 16 b10 ?_
 refine D.sz 5 [] 3 false 16 b10 ?_
 refine D.sz 6 [] 3 false 16 b10 ?_
 refine D.sz 7 [] 3 false 16 b10 ?_
 refine D.sx 8 [] hQ hS (.und 7 true 20 rfl rfl rfl) ?_
 refine D.sx 9 [] hQ hS (.und 7 true 20 rfl rfl rfl) ?_
 refine D.sx 10 [] hQ hS (.und 7 true 20 rfl rfl rfl) ?_
 refine D.sx 11 [] hQ hS (.und 7 true 20 rfl rfl rfl) ?_
 refine D.sx 12 [] hQ hS (.und 7 true 20 rfl rfl rfl) ?_
 refine D.sx 13 [] hQ hS (.und 7 true 20 rfl rfl rfl) ?_
 refine D.sx 14 [] hQ hS (.und 7 true 20 rfl rfl rfl) ?_
 refine D.sz 15 [] 3 false 16 b10 ?_
 refine D.kt 16 [] b10 ?_
 refine D.pq 1 [(17,[])] T ?_
 refine D.done (by kernel_rfl) ?_
 exact St.wk (j9 _ g) (Wk.f [some 0,some 1,some 2] ⟨bX,bX,⟨_,rfl,.abs rfl⟩,trivial⟩)
 refine D.q 4 [] hQ hS rfl (.tk 3 false 16 b10) rfl rfl (by exact Rd.l T rfl rfl rfl) rfl (by kernel_rfl) ?_
 refine D.pt 5 [] 3 false 16 b10 T ?_
 refine D.pt 6 [] 3 false 16 b10 T ?_
 refine D.pt 7 [] 3 false 16 b10 T ?_
 refine g.cs (fun b11 g=>?_) fun b11 g=>?_
 refine D.q 8 [] hQ hS rfl (.tk 7 true 20 b11) rfl rfl (by exact Rd.l T rfl rfl rfl) rfl (by kernel_rfl) ?_
 obtain⟨x12,y12,g⟩:=g
 refine D.q 9 [] hQ hS rfl (.tk 7 true 20 b11) rfl rfl (by exact Rd.ix T rfl rfl rfl rfl rfl rfl y12) rfl (by kernel_rfl) ?_
 refine D.q 10 [] hQ hS rfl (.tk 7 true 20 b11) rfl rfl (by exact Rd.l T rfl rfl rfl) rfl (by kernel_rfl) ?_
 refine D.q 11 [] hQ hS rfl (.tk 7 true 20 b11) rfl rfl (by exact Rd.l T rfl rfl rfl) rfl (by kernel_rfl) ?_
 obtain⟨x13,y13,g⟩:=g
 refine D.q 12 [] hQ hS rfl (.tk 7 true 20 b11) rfl rfl (by exact Rd.ix T rfl rfl rfl rfl rfl rfl y13) rfl (by kernel_rfl) ?_
 refine D.q 13 [] hQ hS rfl (.tk 7 true 20 b11) rfl rfl (by exact Rd.l T rfl rfl rfl) rfl (by kernel_rfl) ?_
 refine D.pt 14 [] 7 true 20 b11 T ?_
 refine D.q 15 [] hQ hS rfl (.tk 3 false 16 b10) rfl rfl (by exact Rd.pk rfl rfl b11 rfl) rfl (by kernel_rfl) ?_
 refine D.kf 16 [] b10 ?_
 refine D.pq 1 [(17,[])] T ?_
 refine D.done (by kernel_rfl) ?_
 exact St.wk (j9 _ g) (Wk.f [some 0,some 1,some 2] ⟨bX,bX,⟨_,rfl,.abs rfl⟩,trivial⟩)
 refine D.sz 8 [] 7 true 20 b11 ?_
 refine D.sz 9 [] 7 true 20 b11 ?_
 refine D.sz 10 [] 7 true 20 b11 ?_
 refine D.sz 11 [] 7 true 20 b11 ?_
 refine D.sz 12 [] 7 true 20 b11 ?_
 refine D.sz 13 [] 7 true 20 b11 ?_
 refine D.sz 14 [] 7 true 20 b11 ?_
 refine D.q 15 [] hQ hS rfl (.tk 3 false 16 b10) rfl rfl (by exact Rd.pk' rfl rfl b11 rfl) rfl (by kernel_rfl) ?_
 refine D.kf 16 [] b10 ?_
 refine D.pq 1 [(17,[])] T ?_
 refine D.done (by kernel_rfl) ?_
 exact St.wk (j9 _ g) (Wk.f [some 0,some 1,some 2] ⟨bX,bX,⟨_,rfl,.abs rfl⟩,trivial⟩)
 refine C.exit (C.ex (C.ex (C.bex ?_)))
 exact St.wk (j2 _ g) (Wk.mk' [some 0,some 1,some 2] rfl rfl trivial ⟨bX,bX,⟨_,rfl,.abs rfl⟩,trivial⟩ rfl)
theorem Q0A (a:List Int) (b:List Int) (post:(List Int)→Prop) (g:G5 a b post):
  Tr Tryz.prog 62 [.sl 1 eI a,.sl 1 eI b] [] 0 (fun A H' k=>∃y,post y∧A=(.o 0)∧H'=[(0,.val (.os 1 eI y))]∧k=1):=by
 refine Tr.go Tryz.func62 Tryz.ntmps62 fun _ _ _ _ o=>?_
 unfold G5 at g
 refine C.ss (U.pd 1 T (C.xt ?_))
 refine U.al T ?_
 refine U.done (C.xs (C.ss (U.ps 2 T rfl (U.e rfl (.none rfl) (by exact Eff.c [] (v:=false) (Q0u a b _ g) Q6x rfl rfl rfl (.eq rfl) trivial rfl rfl rfl rfl rfl rfl (fun h=>by cases h) (.inr ⟨rfl,rfl⟩) (fun _=>rfl) (fun _=>rfl) rfl) (fun x7' g=>?_)))))
 obtain⟨x7⟩:=x7'
 refine U.done (C.nx (C.block ?_))
 obtain⟨ys8,y12,g⟩:=g
 refine St.wk (C.rangeI (nl:=4) (As:=[.p 0 0,.p 1 0]) (Hc:=[(0,.box [.sl 1 eI x7.1]),(1,.box [.sl 1 eI x7.2])]) (encs:=(fun x:Int×QX=>[.i x.1,.agg [.b x.2.e0,.b x.2.e1]])) (Γ0:=[(5,.p 2 0),(10,.fn (.func 153) [] [.p 0 0,.p 1 0])]) (H:=[(0,.box [.sl 1 eI x7.1]),(1,.box [.sl 1 eI x7.2]),(2,.box [.o 3]),(3,.val (.os 1 eI []))]) (Hf:=fun (s10:List Int)=>[(2,.box [.o 3]),(3,.val (.os 1 eI s10))]) [some 0,some 1] 3 g (fun lid' E' Ex'=>(Wu x7.1 x7.2 (some ys8) (fun r=>r=none∨r=some []) y12 lid' E' Ex').mono (fun A H n ⟨y,hy,hA,hH,hn⟩=>⟨2,by rcases hy with rfl | rfl;exact .inr hH;exact .inl hH⟩)) Q6Q rfl rfl rfl (.eq rfl) ⟨bX,bX,trivial⟩ rfl rfl rfl rfl (fun _ _=>rfl) rfl (fun _=>rfl) (fun x9 s10 Y11 g w0 ok M β l=>?_) (fun s28 g=>?_)) (Wk.mk' [some 1,some 2,some 0,none] rfl rfl (.eqs rfl) ⟨bX,bX,⟨_,rfl,.box rfl (.cons (.nilO _ _ ⟨rfl,rfl⟩ rfl) .nil)⟩,⟨_,rfl,.nil _ _⟩,trivial⟩ rfl)
 refine CI.seq ?_
 refine UI.start (by kernel_rfl) (by repeat (first | exact Xd.rnd | exact Xd.body | exact Xd.bot | refine Xd.th ?_ | refine Xd.blk ?_)) ?_
 refine U.pd 1 T (C.nx ?_)
 refine UI.start (by kernel_rfl) (by repeat (first | exact Xd.rnd | exact Xd.body | exact Xd.bot | refine Xd.th ?_ | refine Xd.blk ?_)) ?_
 refine U.al T ?_
 refine U.st T ?_
 refine U.done (C.nx (CI.turn (fun w0=>?_)))
 refine CI.block ?_
 refine CI.seq ?_
 refine CI.jn (fun (x17:Bool)=>[(5,.p 2 0),(6,.i x9.1),(18,.b x17)]) (fun (x17:Bool)=>[(2,.box [.o 3]),(3,.val (.os 1 eI s10))]) 4 g (fun x17 g=>?_) fun J18 g j18=>?_
 refine C.nx ?_
 refine CI.jn (fun (x22:List Int)=>[]) (fun (x22:List Int)=>[(2,.box [.o 3]),(3,.val (.os 1 eI x22))]) 4 g (fun x22 g=>?_) fun J23 g j23=>?_
 refine C.bnx ?_
 exact St.wk (CI.next g) (Wk.mk' [some 0,some 1,some 2,some 3] rfl rfl trivial ⟨bX,vL,trivial⟩ rfl)
 refine CI.ite rfl g (fun b24 g=>?_) fun b24 g=>?_
 refine UI.start (by kernel_rfl) (by repeat (first | exact Xd.rnd | exact Xd.body | exact Xd.bot | refine Xd.th ?_ | refine Xd.blk ?_)) ?_
 refine U.ps 2 T rfl (U.bs T eI ([x9.1]:List Int) ?_)
 obtain⟨y27,g⟩:=g
 refine U.ap T y27 ?_
 refine U.st T ?_
 refine U.done ?_
 exact St.wk (j23 _ g) (Wk.mk' [some 0,some 1,some 2,some 5] rfl rfl trivial ⟨bX,vL,trivial⟩ rfl)
 refine CI.skip ?_
 exact St.wk (j23 _ g) (Wk.mk' [some 0,some 1,some 2,some 3] rfl rfl trivial ⟨bX,vL,trivial⟩ rfl)
 refine UI.start (by kernel_rfl) (by repeat (first | exact Xd.rnd | exact Xd.body | exact Xd.bot | refine Xd.th ?_ | refine Xd.blk ?_)) ?_
 refine U.r rfl (.none rfl) rfl rfl (by exact Rd.pi T rfl rfl rfl rfl rfl rfl (by decide)) ?_
 refine U.ps 2 T rfl ?_
 refine g.cs (fun b20 g=>?_) fun b20 g=>?_
 refine U.r rfl (.tk 2 true 15 b20) rfl rfl (by exact Rd.pi T rfl rfl rfl rfl rfl rfl (by decide)) ?_
 refine U.pq 1 2 true 15 b20 T ?_
 refine U.pk b20 ?_
 refine U.done ?_
 exact St.wa (idR 4) (j18 _ g)
 refine U.sk' 2 2 true 15 b20 ?_
 refine U.pk' b20 ?_
 refine U.done ?_
 exact St.wa (idR 4) (j18 _ g)
 refine C.bnx (C.xt (U.pd 2 T (C.nx (C.ret ?_))))
 exact C.g1 [some 3] T o ⟨s28,g,rfl,rfl,rfl⟩
theorem YT (s_1:ApiSite) (trips:List ApiTrip) (plan:List (List Int)) (post:(We×Bool)→Prop) (g:Gy s_1 trips plan post):
  Tr Tryz.prog 25 [.agg (Q9 s_1),.sl 2 Q4 trips,.sl 1 eLeI plan] [] 0 (fun A H' k=>∃y,post y∧A=(.tup [.agg (Xf y.1),.b y.2])∧H'=[]∧k=0):=by
 refine Tr.go Tryz.func25 Tryz.ntmps25 fun _ _ _ _ o=>?_
 unfold Gy at g
 refine C.ss (U.bx ?_)
 refine U.al T ?_
 refine U.pd 1 T (C.xt ?_)
 refine U.pd 1 T (C.xs (C.ss ?_))
 refine U.pd 3 T (C.nx ?_)
 refine C.jn (fun (x7:Int)=>[(1,.sl 2 Q4 trips),(2,.sl 1 eLeI plan),(3,.p 0 0),(6,.p 1 0),(8,.i x7)]) (fun x7=>[(0,.box (Q9 s_1)),(1,.box [.i 0,.i 0,.i 0,.i 0])]) 2 g (fun x7 g=>?_) fun J8 g j8=>?_
 refine C.xs (C.ss (U.pd 3 T (C.nx ?_)))
 refine C.jn (fun (x23:Unit)=>[(6,.p 0 0)]) (fun x23=>[(0,.box [.i 0,.i 0,.i 0,.i 0])]) 1 g (fun x23 g=>?_) fun J24 g j24=>?_
 refine C.xt (U.ps 1 T rfl (U.st T ?_))
 refine U.pd 1 T (C.nx (C.ret ?_))
 exact C.f9 T o ⟨(({a:=0,b:=0,tick:=0,cell:=0:We}),false),g,rfl,rfl,rfl⟩
 refine C.block (St.wk (C.loop (fun (s25:Int)=>[(1,.sl 2 Q4 trips),(2,.sl 1 eLeI plan),(3,.p 0 0),(6,.p 1 0),(28,.i (w64 (x7+1))),(29,.i s25)]) (fun s25=>[(0,.box (Q9 s_1)),(1,.box [.i 0,.i 0,.i 0,.i 0])]) g (fun s25 Y26 g=>?_)) (Wk.a (idR 2)))
 refine C.ss (U.pd 1 T (C.xs ?_))
 refine C.ite rfl g (fun b29 g=>?_) fun b29 g=>?_
 refine C.skip (C.xs ?_)
 refine C.jn (fun (x30:Unit)=>[(1,.sl 2 Q4 trips),(2,.sl 1 eLeI plan),(3,.p 0 0),(6,.p 1 0),(28,.i (w64 (x7+1))),(29,.i s25)]) (fun x30=>[(0,.box (Q9 s_1)),(1,.box [.i 0,.i 0,.i 0,.i 0])]) 2 g (fun x30 g=>?_) fun J31 g j31=>?_
 refine C.nx (U.start (U.pd 2 T (C.nx ?_)))
 exact St.wk (C.next g) (Wk.a (idR 2))
 refine C.block (C.ss (U.pd 2 T (C.xt ?_)))
 refine U.pd 3 T (C.nx ?_)
 refine C.jn (fun (x36:Unit)=>[(1,.sl 2 Q4 trips),(2,.sl 1 eLeI plan),(3,.p 0 0),(6,.p 1 0),(28,.i (w64 (x7+1))),(29,.i s25)]) (fun x36=>[(0,.box (Q9 s_1)),(1,.box [.i 0,.i 0,.i 0,.i 0])]) 2 g (fun x36 g=>?_) fun J37 g j37=>?_
 refine C.bnx ?_
 exact St.wa (idR 2) (j31 _ g)
 refine C.block (St.wk (C.loop (fun (s38:Int)=>[(1,.sl 2 Q4 trips),(2,.sl 1 eLeI plan),(3,.p 0 0),(6,.p 1 0),(11,.i s25),(28,.i (w64 (x7+1))),(29,.i s25),(33,.i (plan.length:Int)),(34,.i s38)]) (fun s38=>[(0,.box (Q9 s_1)),(1,.box [.i 0,.i 0,.i 0,.i 0])]) g (fun s38 Y39 g=>?_)) (Wk.a (idR 2)))
 refine C.ss (U.pd 1 T (C.xs ?_))
 refine C.ite rfl g (fun b42 g=>?_) fun b42 g=>?_
 refine C.skip (C.xs ?_)
 refine C.jn (fun (x43:Unit)=>[(1,.sl 2 Q4 trips),(2,.sl 1 eLeI plan),(3,.p 0 0),(6,.p 1 0),(11,.i s25),(28,.i (w64 (x7+1))),(29,.i s25),(33,.i (plan.length:Int)),(34,.i s38)]) (fun x43=>[(0,.box (Q9 s_1)),(1,.box [.i 0,.i 0,.i 0,.i 0])]) 2 g (fun x43 g=>?_) fun J44 g j44=>?_
 refine C.nx (U.start (U.pd 2 T (C.nx ?_)))
 exact St.wk (C.next g) (Wk.a (idR 2))
 refine C.block (C.ss (U.pd 2 T (C.xs ?_)))
 refine D.bq mix 9999 [0] [] (fun hQ hS ws M'=>?_)
 refine D.pq 3 (zl [0,1,2]) T ?_
 obtain⟨x49,y49,g⟩:=g
 refine D.ix 3 [] T y49 ?_
 refine D.pq 4 (zl [4,5,6,7]) T ?_
 obtain⟨x50,y50,g⟩:=g
 refine D.ix 8 [] T y50 ?_
 refine D.pq 2 (zl [9,10]) T ?_
 refine D.k 11 (Yj s_1 x49.From x50 s25 _ g) en15 fun x51 g=>?_
 refine D.pq 1 [(12,[])] T ?_
 refine D.done (by kernel_rfl) ?_
 refine C.xt (U.pd 3 T (C.nx ?_))
 refine C.jn (fun (x54:Unit)=>[(1,.sl 2 Q4 trips),(2,.sl 1 eLeI plan),(3,.p 0 0),(6,.p 1 0),(11,.i s25),(28,.i (w64 (x7+1))),(29,.i s25),(33,.i (plan.length:Int)),(34,.i s38)]) (fun x54=>[(0,.box (Q9 s_1)),(1,.box [.i 0,.i 0,.i 0,.i 0])]) 2 g (fun x54 g=>?_) fun J55 g j55=>?_
 refine C.bnx ?_
 exact St.wa (idR 2) (j44 _ g)
 refine C.block ?_
 refine St.wk (C.loop (fun (s56:Int)=>[(1,.sl 2 Q4 trips),(2,.sl 1 eLeI plan),(3,.p 0 0),(6,.p 1 0),(11,.i s25),(12,.i s38),(13,.o 2),(14,.i s56),(28,.i (w64 (x7+1))),(29,.i s25),(33,.i (plan.length:Int)),(34,.i s38)]) (fun s56=>[(0,.box (Q9 s_1)),(1,.box [.i 0,.i 0,.i 0,.i 0]),(2,.val (.os 1 eI x51))]) g (fun s56 Y57 g=>?_)) (Wk.a (idR 3))
 refine C.seq (C.ss (U.pd 4 T (C.nx ?_)))
 refine C.ite rfl g (fun b60 g=>?_) fun b60 g=>?_
 refine C.skip (C.xs (C.block (C.seq (D.bq mix 9999 [0] [] (fun hQ hS ws M'=>?_)))))
 refine D.pq 4 (zl [0,1,2,3]) T ?_
 obtain⟨x63,y63,g⟩:=g
 refine D.ix 4 [] T y63 ?_
 refine D.pq 4 (zl [5,6,7,8]) T ?_
 obtain⟨x64,y64,g⟩:=g
 refine D.ix 9 [] T y64 ?_
 refine D.pq 2 (zl [10,11]) T ?_
 refine D.k 12 (Yj s_1 x63.From x64 s25 _ g) en15 fun x65 g=>?_
 refine D.k 13 (Q0A x51 x65 _ g) en62 fun x66 g=>?_
 refine D.pq 1 [(14,[])] T ?_
 refine D.done (by kernel_rfl) ?_
 refine C.xt (U.pd 3 T (C.nx ?_))
 refine C.ite rfl g (fun b69 g=>?_) fun b69 g=>?_
 refine C.ss (U.ps 4 T rfl ?_)
 obtain⟨x72,y72,g⟩:=g
 refine U.r rfl (.none rfl) rfl rfl (by exact Rd.io T rfl rfl rfl rfl rfl rfl rfl y72) ?_
 refine U.r rfl (.none rfl) rfl rfl (by exact Rd.le T rfl rfl rfl (Qi y72).2.2 rfl rfl rfl) ?_
 refine U.ps 1 T rfl (U.st T ?_)
 refine U.pd 1 T (C.nx (C.ret (C.brt (C.rt (C.rt (C.brt (C.brt (C.rt (C.rt (C.brt (C.brt (C.rt (C.rt (C.brt (C.rt ?_)))))))))))))))
 exact C.f9 T o ⟨(({a:=s38,b:=s56,tick:=s25,cell:=x72:We}),true),g,rfl,rfl,rfl⟩
 refine C.skip (C.bnx (C.nx (U.start (U.pd 3 T (C.nx ?_)))))
 exact St.wk (C.next g) (Wk.a (idR 3))
 refine C.exit (C.ex (C.ex (C.bex ?_)))
 exact St.wa (idR 2) (j55 _ g)
 refine C.exit (C.ex (C.ex (C.bex ?_)))
 exact St.wa (idR 2) (j37 _ g)
 refine C.exit (C.ex (C.ex (C.bex ?_)))
 exact St.wa [some 1] (j24 _ g)
 refine C.block (St.wk (C.loop (fun (s9:Int×Int)=>[(1,.sl 2 Q4 trips),(2,.sl 1 eLeI plan),(3,.p 0 0),(6,.p 1 0),(8,.i s9.1),(16,.sl 1 eLeI plan),(17,.i (plan.length:Int)),(18,.i s9.2)]) (fun s9=>[(0,.box (Q9 s_1)),(1,.box [.i 0,.i 0,.i 0,.i 0])]) g (fun s9 Y10 g=>?_)) (Wk.a (idR 2)))
 refine C.ss (U.pd 1 T (C.xs ?_))
 refine C.ite rfl g (fun b13 g=>?_) fun b13 g=>?_
 refine C.skip (C.xs (C.block (C.ss ?_)))
 obtain⟨x16,y16,g⟩:=g
 refine U.ix T y16 ?_
 refine U.pd 2 T (C.nx (U.start ?_))
 refine U.pd 5 T (C.bnx (C.nx (U.start ?_)))
 refine U.pd 2 T (C.nx ?_)
 exact St.wk (C.next g) (Wk.a (idR 2))
 refine C.exit (C.ex (C.ex (C.bex ?_)))
 exact St.wa (idR 2) (j8 _ g)
theorem QU (s_1:List (List Int)) (post:(List (List Int))→Prop) (g:Kb s_1 post):
  Tr Tryz.prog 106 [.sl 1 eLeI s_1] [] 0 (fun A H' k=>∃y,post y∧A=(.o 0)∧H'=[(0,.val (.os 1 eLeI y))]∧k=1):=by
 refine Tr.go Tryz.func106 Tryz.ntmps106 fun _ _ _ _ o=>?_
 unfold Kb at g
 refine C.ss (U.pd 1 T (C.xs (C.ss ?_)))
 refine U.ps 1 T rfl (U.e rfl (.none rfl) (by exact Eff.isnil T true rfl rfl rfl rfl rfl rfl (.inl ⟨.sl,rfl⟩) rfl) (fun b5' hhb5=>?_))
 obtain⟨b5⟩:=b5'
 replace g:=g b5 hhb5
 refine U.done (C.nx ?_)
 refine C.ite rfl g (fun b6 g=>?_) fun b6 g=>?_
 refine C.ss (U.pd 1 T (C.nx (C.ret (C.rt ?_))))
 exact C.g1 [none] T o ⟨[],g,rfl,rfl,rfl⟩
 refine C.skip (C.xt (U.bs T eLeI ([]:List (List Int)) ?_))
 refine U.ps 1 T rfl ?_
 obtain⟨y11,g⟩:=g
 refine U.ap T y11 ?_
 refine U.pd 1 T (C.nx (C.ret ?_))
 exact C.g1 [some 1] T o ⟨(([]:List (List Int))++s_1),g,rfl,rfl,rfl⟩
theorem YW (p:CbsProblem) (n:Qw) (b:Kl) (post:(Qw×Bool)→Prop) (g:KE p n b post):
  Tr Tryz.prog 52 [.rp [.i p.s.Floor.W,.i p.s.Floor.H,.i p.s.Floor.D,.sl 1 eI p.s.Floor.Kind,.sl 1 eI p.s.Floor.Out,.sl 5 Q3 p.s.Zones,.sl 2 Q0 p.s.Aparts,.sl 2 Q1 p.s.Shelves,.sl 2 Q2 p.s.Robots,.sl 2 Q4 p.trips,.i p.tick,.sl 1 eI p.avoid,.i p.most],.agg [.rm Qf veB n.bans,.sl 1 eLeI n.plan],.agg (QS b)] [] 0 (fun A H' k=>∃y,post y∧A=(.tup [.agg [.o 0,.o 1],.b y.2])∧H'=[(0,.val (.om Qf veB y.1.bans)),(1,.val (.os 1 eLeI y.1.plan))]∧k=2):=by
 refine Tr.go Tryz.func52 Tryz.ntmps52 fun _ _ _ _ o=>?_
 unfold KE at g
 refine C.ss (U.bx ?_)
 refine U.bx ?_
 refine U.al T ?_
 refine U.pd 1 T (C.xs ?_)
 refine D.bq mix 9 [0,1] [3,4,5] (fun hQ hS ws M'=>?_)
 refine D.pq 3 (zl [1,4,5]) T ?_
 refine D.hav1 g true (fun x5=>[(0,.rp [.i p.s.Floor.W,.i p.s.Floor.H,.i p.s.Floor.D,.sl 1 eI p.s.Floor.Kind,.sl 1 eI p.s.Floor.Out,.sl 5 Q3 p.s.Zones,.sl 2 Q0 p.s.Aparts,.sl 2 Q1 p.s.Shelves,.sl 2 Q2 p.s.Robots,.sl 2 Q4 p.trips,.i p.tick,.sl 1 eI p.avoid,.i p.most]),(1,.agg [.rm Qf veB n.bans,.sl 1 eLeI n.plan]),(2,.agg (QS b)),(4,.p 0 0),(5,.p 1 0),(6,.p 2 0),(7,.b false),(8,.p 5 0),(12,.o 3),(13,.agg (QS b)),(14,.o 3),(15,.p 0 1),(16,.sl 1 eLeI n.plan),(17,.o 4),(18,.agg [.o 3,.o 4])]) (fun x5=>[(0,.box [.rm Qf veB n.bans,.sl 1 eLeI n.plan]),(1,.box (QS b)),(2,.box [.v (.map none),vN]),(3,.val (.om Qf veB (upd ([]:List (Kl×Bool)) b true))),(4,.val (.os 1 eLeI x5)),(5,.box [.v (.map none),vN])]) 6 1 #[true,true,true,true,true,true,true,true,true,false] (fun x5 g=>?_) fun hd4_11=>?_
 refine D.ze1 rfl (.none rfl) (by exact Eff1.st T rfl rfl rfl rfl rfl rfl rfl rfl rfl rfl) (by kernel_rfl) (by kernel_rfl) ?_
 refine C.xs (C.ss (U.ps 2 T rfl (U.e1 rfl (.none rfl) (by exact Eff1.rgm T rfl rfl rfl rfl rfl) ?_)))
 refine U.done (C.nx ?_)
 refine C.jn (fun (x8:List (Kl×Bool))=>[(0,.rp [.i p.s.Floor.W,.i p.s.Floor.H,.i p.s.Floor.D,.sl 1 eI p.s.Floor.Kind,.sl 1 eI p.s.Floor.Out,.sl 5 Q3 p.s.Zones,.sl 2 Q0 p.s.Aparts,.sl 2 Q1 p.s.Shelves,.sl 2 Q2 p.s.Robots,.sl 2 Q4 p.trips,.i p.tick,.sl 1 eI p.avoid,.i p.most]),(5,.p 0 0),(6,.p 1 0),(8,.p 2 0)]) (fun x8=>[(0,.box (QS b)),(1,.box [.v (.map none),vN]),(2,.box [.o 3,.o 4]),(3,.val (.om Qf veB x8)),(4,.val (.os 1 eLeI x5))]) 5 g (fun x8 g=>?_) fun J9 g j9=>?_
 refine C.xt (U.ps 5 T rfl (U.k (Wh p b.robot x8 _ g) en51 (fun x20 g=>?_)))
 refine U.pd 5 T (C.xt ?_)
 refine U.ps 5 T rfl ?_
 obtain⟨x23,y23,g⟩:=g
 refine U.r rfl (.none rfl) rfl rfl (by exact Rd.io T rfl rfl rfl rfl rfl rfl rfl y23) ?_
 refine St.wk (Γ':=[(0,.rp [.i p.s.Floor.W,.i p.s.Floor.H,.i p.s.Floor.D,.sl 1 eI p.s.Floor.Kind,.sl 1 eI p.s.Floor.Out,.sl 5 Q3 p.s.Zones,.sl 2 Q0 p.s.Aparts,.sl 2 Q1 p.s.Shelves,.sl 2 Q2 p.s.Robots,.sl 2 Q4 p.trips,.i p.tick,.sl 1 eI p.avoid,.i p.most]),(5,.p 0 0),(6,.p 1 0),(8,.p 2 0),(10,.sl 1 eI x20.1),(11,.b x20.2),(30,.rp [.i p.s.Floor.W,.i p.s.Floor.H,.i p.s.Floor.D,.sl 1 eI p.s.Floor.Kind,.sl 1 eI p.s.Floor.Out,.sl 5 Q3 p.s.Zones,.sl 2 Q0 p.s.Aparts,.sl 2 Q1 p.s.Shelves,.sl 2 Q2 p.s.Robots,.sl 2 Q4 p.trips,.i p.tick,.sl 1 eI p.avoid,.i p.most]),(31,.p 0 0),(32,.i b.robot),(33,.p 2 0),(34,.o 3),(36,.sl 1 eI x20.1),(37,.b x20.2),(38,.p 2 1),(39,.o 4),(40,.p 0 0),(41,.i b.robot),(42,.sl 1 eI x20.1),(43,.ep 4 1 (Int.toNat b.robot) 0)]) (H':=[(0,.box (QS b)),(1,.box [.v (.map none),vN]),(2,.box [.o 3,.o 4]),(3,.val (.om Qf veB x8)),(4,.val (.os 1 eLeI x5))]) (nl':=5) ?_ (Wk.mk' [some 0,some 1,some 2,some 3,some 4] rfl rfl ⟨⟨_,rfl,(.eq rfl)⟩,⟨_,rfl,(.eq rfl)⟩,⟨_,rfl,(.eq rfl)⟩,⟨_,rfl,(.eq rfl)⟩,⟨_,rfl,(.fz rfl rfl rfl (.os fun _=>.cons (.ro rfl) .nil))⟩,⟨_,rfl,(.eq rfl)⟩,⟨_,rfl,(.eq rfl)⟩,⟨_,rfl,(.eq rfl)⟩,⟨_,rfl,(.eq rfl)⟩,⟨_,rfl,(.eq rfl)⟩,⟨_,rfl,(.eq rfl)⟩,⟨_,rfl,(.fz rfl rfl rfl (.os fun _=>.cons (.ro rfl) .nil))⟩,⟨_,rfl,(.eq rfl)⟩,⟨_,rfl,(.eq rfl)⟩,⟨_,rfl,(.eq rfl)⟩,⟨_,rfl,(.eq rfl)⟩,⟨_,rfl,(.eq rfl)⟩,⟨_,rfl,(.fz rfl rfl rfl (.os fun _=>.cons (.ro rfl) .nil))⟩,ChkG.eqs rfl⟩ ⟨bX,bX,bX,vL,vL,trivial⟩ rfl)
 refine U.e1 rfl (.none rfl) (by exact Eff1.se T (z':=x20.1) rfl rfl rfl (Qi y23).2.2 rfl rfl rfl rfl rfl rfl rfl rfl (fun _=>rfl) rfl) ?_
 refine U.done (C.xt (U.ps 2 T rfl (U.st T ?_)))
 refine U.pd 1 T (C.nx (C.ret ?_))
 exact C.fg (sqR 3 2) T o ⟨(({bans:=x8,plan:=(x5.set (Int.toNat b.robot) x20.1):Qw}),x20.2),g,rfl,rfl,rfl⟩
 refine C.block ?_
 refine St.wk (C.loop (fun (s10:List (Kl×Bool)×List Kl)=>[(0,.rp [.i p.s.Floor.W,.i p.s.Floor.H,.i p.s.Floor.D,.sl 1 eI p.s.Floor.Kind,.sl 1 eI p.s.Floor.Out,.sl 5 Q3 p.s.Zones,.sl 2 Q0 p.s.Aparts,.sl 2 Q1 p.s.Shelves,.sl 2 Q2 p.s.Robots,.sl 2 Q4 p.trips,.i p.tick,.sl 1 eI p.avoid,.i p.most]),(5,.p 0 0),(6,.p 1 0),(8,.p 2 0),(21,.o 5)]) (fun s10=>[(0,.box (QS b)),(1,.box [.v (.map none),vN]),(2,.box [.o 3,.o 4]),(3,.val (.om Qf veB s10.1)),(4,.val (.os 1 eLeI x5)),(5,.rngm Qf veB n.bans s10.2)]) g (fun s10 Y11 g=>?_)) (Wk.f [some 1,some 2,some 5,some 3,some 4,some 6] ⟨bX,bX,bX,vL,vL,⟨_,rfl,.rngm rfl⟩,trivial⟩)
 refine C.ss (U.e rfl (.none rfl) (by exact Eff.nxm (ke:=Qf) (ve:=veB) (li:=5) rfl rfl rfl rfl rfl) (fun y' h'=>?_))
 obtain⟨_ | ⟨x12,x13⟩⟩:=y'
 replace g:=g.2 h'
 refine U.pd 1 T (C.xs ?_)
 refine C.condF rfl rfl ?_
 refine C.exit (C.ex (C.ex (C.bex ?_)))
 exact St.wa (idR 5) (j9 _ g)
 have y12:=h'
 replace g:=g.1 x12 x13 h'
 refine U.pd 1 T (C.xs ?_)
 refine C.condT rfl rfl ?_
 refine C.skip (C.nx (C.block (C.ss (U.r rfl (.none rfl) rfl rfl (by exact Rd.enm (ke:=Qf) (ve:=veB) rfl rfl rfl rfl y12.1) ?_))))
 refine U.ps 1 T rfl (U.al T ?_)
 refine U.st T ?_
 refine U.done (C.nx (U.start (U.ps 3 T rfl (U.e1 rfl (.none rfl) (by exact Eff1.mu T (x:=x12) (y:=true) (.inl rfl) rfl Q26 (fun _=>rfl) rfl rfl rfl rfl rfl (.inl rfl) rfl) ?_))))
 refine U.done (C.bnx (C.nx ?_))
 exact St.wk (C.next g) (Wk.f [some 0,some 1,some 2,some 3,some 4,some 5] ⟨bX,bX,bX,vL,vL,⟨_,rfl,.rngm rfl⟩,trivial⟩)
 refine D.hav1 g true (fun x5=>[(0,.rp [.i p.s.Floor.W,.i p.s.Floor.H,.i p.s.Floor.D,.sl 1 eI p.s.Floor.Kind,.sl 1 eI p.s.Floor.Out,.sl 5 Q3 p.s.Zones,.sl 2 Q0 p.s.Aparts,.sl 2 Q1 p.s.Shelves,.sl 2 Q2 p.s.Robots,.sl 2 Q4 p.trips,.i p.tick,.sl 1 eI p.avoid,.i p.most]),(1,.agg [.rm Qf veB n.bans,.sl 1 eLeI n.plan]),(2,.agg (QS b)),(4,.p 0 0),(5,.p 1 0),(6,.p 2 0),(7,.b false),(12,.o 3),(13,.agg (QS b)),(14,.o 3),(15,.p 0 1),(16,.sl 1 eLeI n.plan),(17,.o 4),(18,.agg [.o 3,.o 4])]) (fun x5=>[(0,.box [.rm Qf veB n.bans,.sl 1 eLeI n.plan]),(1,.box (QS b)),(2,.box [.v (.map none),vN]),(3,.val (.om Qf veB (upd ([]:List (Kl×Bool)) b true))),(4,.val (.os 1 eLeI x5))]) 5 2 #[true,true,true,true,true,true,true,true,false,false] (fun x5 g=>?_) fun hd4_10=>?_
 refine D.all 8 [] (by kernel_rfl) ⟨?_,trivial⟩
 refine D.ef1 rfl (.none rfl) (by exact Eff1.al T rfl rfl rfl rfl) rfl rfl ?_
 exact D.to [some 0,some 1,some 2,some 3,some 4,some 5] (hd4_11 x5 g) (by kernel_rfl) rfl rfl (.eqs rfl) ⟨bX,bX,bX,vL,vL,bX,trivial⟩ rfl rfl rfl
 refine D.have false [(0,.rp [.i p.s.Floor.W,.i p.s.Floor.H,.i p.s.Floor.D,.sl 1 eI p.s.Floor.Kind,.sl 1 eI p.s.Floor.Out,.sl 5 Q3 p.s.Zones,.sl 2 Q0 p.s.Aparts,.sl 2 Q1 p.s.Shelves,.sl 2 Q2 p.s.Robots,.sl 2 Q4 p.trips,.i p.tick,.sl 1 eI p.avoid,.i p.most]),(1,.agg [.rm Qf veB n.bans,.sl 1 eLeI n.plan]),(2,.agg (QS b)),(4,.p 0 0),(5,.p 1 0),(6,.p 2 0),(7,.b false),(8,.p 4 0),(12,.o 3),(13,.agg (QS b)),(14,.o 3),(15,.p 0 1),(16,.sl 1 eLeI n.plan)] [(0,.box [.rm Qf veB n.bans,.sl 1 eLeI n.plan]),(1,.box (QS b)),(2,.box [.v (.map none),vN]),(3,.val (.om Qf veB (upd ([]:List (Kl×Bool)) b true))),(4,.box [.v (.map none),vN])] 5 3 #[true,true,true,true,true,true,false,false,true,false] ?_ fun hd4_9=>?_
 refine D.all 6 [] (by kernel_rfl) ⟨?_,trivial⟩
 refine D.ef rfl (.none rfl) (by exact Eff.c [] (v:=false) (QU n.plan _ g) Q37 rfl rfl rfl (.eq rfl) trivial rfl rfl rfl rfl rfl rfl (fun h=>by cases h) (.inr ⟨rfl,rfl⟩) (fun _=>rfl) (fun _=>rfl) rfl) rfl rfl (fun x5' g=>?_)
 obtain⟨x5⟩:=x5'
 refine D.q0 7 hQ hS rfl (.none rfl) rfl rfl (by exact Rd.p T rfl) (by kernel_rfl) ?_
 exact D.to [some 0,some 1,some 2,some 3,some 5,some 4] (hd4_11 x5 g) (by kernel_rfl) rfl rfl (.eqs rfl) ⟨bX,bX,bX,vL,vL,bX,trivial⟩ rfl rfl rfl
 refine D.have false [(0,.rp [.i p.s.Floor.W,.i p.s.Floor.H,.i p.s.Floor.D,.sl 1 eI p.s.Floor.Kind,.sl 1 eI p.s.Floor.Out,.sl 5 Q3 p.s.Zones,.sl 2 Q0 p.s.Aparts,.sl 2 Q1 p.s.Shelves,.sl 2 Q2 p.s.Robots,.sl 2 Q4 p.trips,.i p.tick,.sl 1 eI p.avoid,.i p.most]),(1,.agg [.rm Qf veB n.bans,.sl 1 eLeI n.plan]),(2,.agg (QS b)),(4,.p 0 0),(5,.p 1 0),(6,.p 2 0),(7,.b false),(12,.o 3),(13,.agg (QS b)),(14,.o 3),(15,.p 0 1),(16,.sl 1 eLeI n.plan)] [(0,.box [.rm Qf veB n.bans,.sl 1 eLeI n.plan]),(1,.box (QS b)),(2,.box [.v (.map none),vN]),(3,.val (.om Qf veB (upd ([]:List (Kl×Bool)) b true)))] 4 4 #[true,true,true,true,true,true,false,false,false,false] ?_ fun hd4_7=>?_
 refine D.all 6 [8] (by kernel_rfl) ⟨?_,?_,trivial⟩
 refine D.ef rfl (.none rfl) (by exact Eff.c [] (v:=false) (QU n.plan _ g) Q37 rfl rfl rfl (.eq rfl) trivial rfl rfl rfl rfl rfl rfl (fun h=>by cases h) (.inr ⟨rfl,rfl⟩) (fun _=>rfl) (fun _=>rfl) rfl) rfl rfl (fun x5' g=>?_)
 obtain⟨x5⟩:=x5'
 refine D.q0 7 hQ hS rfl (.none rfl) rfl rfl (by exact Rd.p T rfl) (by kernel_rfl) ?_
 exact D.to [some 0,some 1,some 2,some 3,some 4] (hd4_10 x5 g) (by kernel_rfl) rfl rfl (.eqs rfl) ⟨bX,bX,bX,vL,vL,trivial⟩ rfl rfl rfl
 refine D.ef1 rfl (.none rfl) (by exact Eff1.al T rfl rfl rfl rfl) rfl rfl ?_
 exact D.tq [0,1,2,3,4] hd4_9
 refine D.hav1 g true (fun x5=>[(0,.rp [.i p.s.Floor.W,.i p.s.Floor.H,.i p.s.Floor.D,.sl 1 eI p.s.Floor.Kind,.sl 1 eI p.s.Floor.Out,.sl 5 Q3 p.s.Zones,.sl 2 Q0 p.s.Aparts,.sl 2 Q1 p.s.Shelves,.sl 2 Q2 p.s.Robots,.sl 2 Q4 p.trips,.i p.tick,.sl 1 eI p.avoid,.i p.most]),(1,.agg [.rm Qf veB n.bans,.sl 1 eLeI n.plan]),(2,.agg (QS b)),(4,.p 0 0),(5,.p 1 0),(6,.p 2 0),(7,.b false),(8,.p 5 0),(12,.o 3),(13,.agg (QS b)),(15,.p 0 1),(16,.sl 1 eLeI n.plan),(17,.o 4)]) (fun x5=>[(0,.box [.rm Qf veB n.bans,.sl 1 eLeI n.plan]),(1,.box (QS b)),(2,.box [.v (.map none),vN]),(3,.val (.om Qf veB ([]:List (Kl×Bool)))),(4,.val (.os 1 eLeI x5)),(5,.box [.v (.map none),vN])]) 6 4 #[true,true,false,false,true,true,true,false,true,false] (fun x5 g=>?_) fun hd4_8=>?_
 refine D.all 2 [] (by kernel_rfl) ⟨?_,trivial⟩
 refine D.ef1 rfl (.none rfl) (by exact Eff1.mu T (x:=b) (y:=true) (.inr rfl) rfl Q26 (fun _=>rfl) rfl rfl rfl rfl rfl (.inl rfl) rfl) rfl rfl ?_
 refine D.q0 3 hQ hS rfl (.none rfl) rfl rfl (by exact Rd.p T rfl) (by kernel_rfl) ?_
 refine D.q0 7 hQ hS rfl (.none rfl) rfl rfl (by exact Rd.p T rfl) (by kernel_rfl) ?_
 exact D.to [some 0,some 1,some 2,some 3,some 4,some 5] (hd4_11 x5 g) (by kernel_rfl) rfl rfl (.eqs rfl) ⟨bX,bX,bX,vL,vL,bX,trivial⟩ rfl rfl rfl
 refine D.hav1 g true (fun x5=>[(0,.rp [.i p.s.Floor.W,.i p.s.Floor.H,.i p.s.Floor.D,.sl 1 eI p.s.Floor.Kind,.sl 1 eI p.s.Floor.Out,.sl 5 Q3 p.s.Zones,.sl 2 Q0 p.s.Aparts,.sl 2 Q1 p.s.Shelves,.sl 2 Q2 p.s.Robots,.sl 2 Q4 p.trips,.i p.tick,.sl 1 eI p.avoid,.i p.most]),(1,.agg [.rm Qf veB n.bans,.sl 1 eLeI n.plan]),(2,.agg (QS b)),(4,.p 0 0),(5,.p 1 0),(6,.p 2 0),(7,.b false),(12,.o 3),(13,.agg (QS b)),(15,.p 0 1),(16,.sl 1 eLeI n.plan),(17,.o 4)]) (fun x5=>[(0,.box [.rm Qf veB n.bans,.sl 1 eLeI n.plan]),(1,.box (QS b)),(2,.box [.v (.map none),vN]),(3,.val (.om Qf veB ([]:List (Kl×Bool)))),(4,.val (.os 1 eLeI x5))]) 5 5 #[true,true,false,false,true,true,true,false,false,false] (fun x5 g=>?_) fun hd4_4=>?_
 refine D.all 2 [8] (by kernel_rfl) ⟨?_,?_,trivial⟩
 refine D.ef1 rfl (.none rfl) (by exact Eff1.mu T (x:=b) (y:=true) (.inr rfl) rfl Q26 (fun _=>rfl) rfl rfl rfl rfl rfl (.inl rfl) rfl) rfl rfl ?_
 refine D.q0 3 hQ hS rfl (.none rfl) rfl rfl (by exact Rd.p T rfl) (by kernel_rfl) ?_
 refine D.q0 7 hQ hS rfl (.none rfl) rfl rfl (by exact Rd.p T rfl) (by kernel_rfl) ?_
 exact D.to [some 0,some 1,some 2,some 3,some 4] (hd4_10 x5 g) (by kernel_rfl) rfl rfl (.eqs rfl) ⟨bX,bX,bX,vL,vL,trivial⟩ rfl rfl rfl
 refine D.ef1 rfl (.none rfl) (by exact Eff1.al T rfl rfl rfl rfl) rfl rfl ?_
 exact D.to [some 0,some 1,some 2,some 3,some 4,some 5] (hd4_8 x5 g) (by kernel_rfl) rfl rfl (.eqs rfl) ⟨bX,bX,bX,vL,vL,bX,trivial⟩ rfl rfl rfl
 refine D.have false [(0,.rp [.i p.s.Floor.W,.i p.s.Floor.H,.i p.s.Floor.D,.sl 1 eI p.s.Floor.Kind,.sl 1 eI p.s.Floor.Out,.sl 5 Q3 p.s.Zones,.sl 2 Q0 p.s.Aparts,.sl 2 Q1 p.s.Shelves,.sl 2 Q2 p.s.Robots,.sl 2 Q4 p.trips,.i p.tick,.sl 1 eI p.avoid,.i p.most]),(1,.agg [.rm Qf veB n.bans,.sl 1 eLeI n.plan]),(2,.agg (QS b)),(4,.p 0 0),(5,.p 1 0),(6,.p 2 0),(7,.b false),(8,.p 4 0),(12,.o 3),(13,.agg (QS b)),(15,.p 0 1),(16,.sl 1 eLeI n.plan)] [(0,.box [.rm Qf veB n.bans,.sl 1 eLeI n.plan]),(1,.box (QS b)),(2,.box [.v (.map none),vN]),(3,.val (.om Qf veB ([]:List (Kl×Bool)))),(4,.box [.v (.map none),vN])] 5 5 #[true,true,false,false,true,true,false,false,true,false] ?_ fun hd4_5=>?_
 refine D.all 2 [6] (by kernel_rfl) ⟨?_,?_,trivial⟩
 refine D.ef1 rfl (.none rfl) (by exact Eff1.mu T (x:=b) (y:=true) (.inr rfl) rfl Q26 (fun _=>rfl) rfl rfl rfl rfl rfl (.inl rfl) rfl) rfl rfl ?_
 refine D.pq 1 [(3,[])] T ?_
 exact D.tq [0,1,2,3,4] hd4_9
 refine D.ef rfl (.none rfl) (by exact Eff.c [] (v:=false) (QU n.plan _ g) Q37 rfl rfl rfl (.eq rfl) trivial rfl rfl rfl rfl rfl rfl (fun h=>by cases h) (.inr ⟨rfl,rfl⟩) (fun _=>rfl) (fun _=>rfl) rfl) rfl rfl (fun x5' g=>?_)
 obtain⟨x5⟩:=x5'
 exact D.to [some 0,some 1,some 2,some 3,some 5,some 4] (hd4_8 x5 g) (by kernel_rfl) rfl rfl (.eqs rfl) ⟨bX,bX,bX,vL,vL,bX,trivial⟩ rfl rfl rfl
 refine D.hav1 g true (fun x5=>[(0,.rp [.i p.s.Floor.W,.i p.s.Floor.H,.i p.s.Floor.D,.sl 1 eI p.s.Floor.Kind,.sl 1 eI p.s.Floor.Out,.sl 5 Q3 p.s.Zones,.sl 2 Q0 p.s.Aparts,.sl 2 Q1 p.s.Shelves,.sl 2 Q2 p.s.Robots,.sl 2 Q4 p.trips,.i p.tick,.sl 1 eI p.avoid,.i p.most]),(1,.agg [.rm Qf veB n.bans,.sl 1 eLeI n.plan]),(2,.agg (QS b)),(4,.p 0 0),(5,.p 1 0),(6,.p 2 0),(7,.b false),(8,.p 4 0),(13,.agg (QS b)),(15,.p 0 1),(16,.sl 1 eLeI n.plan),(17,.o 3)]) (fun x5=>[(0,.box [.rm Qf veB n.bans,.sl 1 eLeI n.plan]),(1,.box (QS b)),(2,.box [.v (.map none),vN]),(3,.val (.os 1 eLeI x5)),(4,.box [.v (.map none),vN])]) 5 5 #[false,true,false,false,true,true,true,false,true,false] (fun x5 g=>?_) fun hd4_6=>?_
 refine D.all 0 [] (by kernel_rfl) ⟨?_,trivial⟩
 refine D.ef1 rfl (.none rfl) (by exact Eff1.mm Qf veB rfl rfl rfl) rfl rfl ?_
 exact D.to [some 0,some 1,some 2,some 5,some 3,some 4] (hd4_8 x5 g) (by kernel_rfl) rfl rfl (.eqs rfl) ⟨bX,bX,bX,vL,vL,bX,trivial⟩ rfl rfl rfl
 refine D.have false [(0,.rp [.i p.s.Floor.W,.i p.s.Floor.H,.i p.s.Floor.D,.sl 1 eI p.s.Floor.Kind,.sl 1 eI p.s.Floor.Out,.sl 5 Q3 p.s.Zones,.sl 2 Q0 p.s.Aparts,.sl 2 Q1 p.s.Shelves,.sl 2 Q2 p.s.Robots,.sl 2 Q4 p.trips,.i p.tick,.sl 1 eI p.avoid,.i p.most]),(1,.agg [.rm Qf veB n.bans,.sl 1 eLeI n.plan]),(2,.agg (QS b)),(4,.p 0 0),(5,.p 1 0),(6,.p 2 0),(7,.b false),(12,.o 3),(13,.agg (QS b)),(15,.p 0 1),(16,.sl 1 eLeI n.plan)] [(0,.box [.rm Qf veB n.bans,.sl 1 eLeI n.plan]),(1,.box (QS b)),(2,.box [.v (.map none),vN]),(3,.val (.om Qf veB ([]:List (Kl×Bool))))] 4 6 #[true,true,false,false,true,true,false,false,false,false] ?_ fun hd4_1=>?_
 refine D.all 2 [6,8] (by kernel_rfl) ⟨?_,?_,?_,trivial⟩
 refine D.ef1 rfl (.none rfl) (by exact Eff1.mu T (x:=b) (y:=true) (.inr rfl) rfl Q26 (fun _=>rfl) rfl rfl rfl rfl rfl (.inl rfl) rfl) rfl rfl ?_
 refine D.pq 1 [(3,[])] T ?_
 exact D.tq [0,1,2,3] hd4_7
 refine D.ef rfl (.none rfl) (by exact Eff.c [] (v:=false) (QU n.plan _ g) Q37 rfl rfl rfl (.eq rfl) trivial rfl rfl rfl rfl rfl rfl (fun h=>by cases h) (.inr ⟨rfl,rfl⟩) (fun _=>rfl) (fun _=>rfl) rfl) rfl rfl (fun x5' g=>?_)
 obtain⟨x5⟩:=x5'
 exact D.to [some 0,some 1,some 2,some 3,some 4] (hd4_4 x5 g) (by kernel_rfl) rfl rfl (.eqs rfl) ⟨bX,bX,bX,vL,vL,trivial⟩ rfl rfl rfl
 refine D.ef1 rfl (.none rfl) (by exact Eff1.al T rfl rfl rfl rfl) rfl rfl ?_
 exact D.tq [0,1,2,3,4] hd4_5
 refine D.hav1 g true (fun x5=>[(0,.rp [.i p.s.Floor.W,.i p.s.Floor.H,.i p.s.Floor.D,.sl 1 eI p.s.Floor.Kind,.sl 1 eI p.s.Floor.Out,.sl 5 Q3 p.s.Zones,.sl 2 Q0 p.s.Aparts,.sl 2 Q1 p.s.Shelves,.sl 2 Q2 p.s.Robots,.sl 2 Q4 p.trips,.i p.tick,.sl 1 eI p.avoid,.i p.most]),(1,.agg [.rm Qf veB n.bans,.sl 1 eLeI n.plan]),(2,.agg (QS b)),(4,.p 0 0),(5,.p 1 0),(6,.p 2 0),(7,.b false),(13,.agg (QS b)),(15,.p 0 1),(16,.sl 1 eLeI n.plan),(17,.o 3)]) (fun x5=>[(0,.box [.rm Qf veB n.bans,.sl 1 eLeI n.plan]),(1,.box (QS b)),(2,.box [.v (.map none),vN]),(3,.val (.os 1 eLeI x5))]) 4 6 #[false,true,false,false,true,true,true,false,false,false] (fun x5 g=>?_) fun hd4_2=>?_
 refine D.all 0 [8] (by kernel_rfl) ⟨?_,?_,trivial⟩
 refine D.ef1 rfl (.none rfl) (by exact Eff1.mm Qf veB rfl rfl rfl) rfl rfl ?_
 exact D.to [some 0,some 1,some 2,some 4,some 3] (hd4_4 x5 g) (by kernel_rfl) rfl rfl (.eqs rfl) ⟨bX,bX,bX,vL,vL,trivial⟩ rfl rfl rfl
 refine D.ef1 rfl (.none rfl) (by exact Eff1.al T rfl rfl rfl rfl) rfl rfl ?_
 exact D.to [some 0,some 1,some 2,some 3,some 4] (hd4_6 x5 g) (by kernel_rfl) rfl rfl (.eqs rfl) ⟨bX,bX,bX,vL,bX,trivial⟩ rfl rfl rfl
 refine D.have false [(0,.rp [.i p.s.Floor.W,.i p.s.Floor.H,.i p.s.Floor.D,.sl 1 eI p.s.Floor.Kind,.sl 1 eI p.s.Floor.Out,.sl 5 Q3 p.s.Zones,.sl 2 Q0 p.s.Aparts,.sl 2 Q1 p.s.Shelves,.sl 2 Q2 p.s.Robots,.sl 2 Q4 p.trips,.i p.tick,.sl 1 eI p.avoid,.i p.most]),(1,.agg [.rm Qf veB n.bans,.sl 1 eLeI n.plan]),(2,.agg (QS b)),(4,.p 0 0),(5,.p 1 0),(6,.p 2 0),(7,.b false),(8,.p 3 0),(13,.agg (QS b)),(15,.p 0 1),(16,.sl 1 eLeI n.plan)] [(0,.box [.rm Qf veB n.bans,.sl 1 eLeI n.plan]),(1,.box (QS b)),(2,.box [.v (.map none),vN]),(3,.box [.v (.map none),vN])] 4 6 #[false,true,false,false,true,true,false,false,true,false] ?_ fun hd4_3=>?_
 refine D.all 0 [6] (by kernel_rfl) ⟨?_,?_,trivial⟩
 refine D.ef1 rfl (.none rfl) (by exact Eff1.mm Qf veB rfl rfl rfl) rfl rfl ?_
 exact D.tq [0,1,2,4,3] hd4_5
 refine D.ef rfl (.none rfl) (by exact Eff.c [] (v:=false) (QU n.plan _ g) Q37 rfl rfl rfl (.eq rfl) trivial rfl rfl rfl rfl rfl rfl (fun h=>by cases h) (.inr ⟨rfl,rfl⟩) (fun _=>rfl) (fun _=>rfl) rfl) rfl rfl (fun x5' g=>?_)
 obtain⟨x5⟩:=x5'
 exact D.to [some 0,some 1,some 2,some 4,some 3] (hd4_6 x5 g) (by kernel_rfl) rfl rfl (.eqs rfl) ⟨bX,bX,bX,vL,bX,trivial⟩ rfl rfl rfl
 refine D.all 0 [6,8] (by kernel_rfl) ⟨?_,?_,?_,trivial⟩
 refine D.ef1 rfl (.none rfl) (by exact Eff1.mm Qf veB rfl rfl rfl) rfl rfl ?_
 exact D.tq [0,1,2,3] hd4_1
 refine D.ef rfl (.none rfl) (by exact Eff.c [] (v:=false) (QU n.plan _ g) Q37 rfl rfl rfl (.eq rfl) trivial rfl rfl rfl rfl rfl rfl (fun h=>by cases h) (.inr ⟨rfl,rfl⟩) (fun _=>rfl) (fun _=>rfl) rfl) rfl rfl (fun x5' g=>?_)
 obtain⟨x5⟩:=x5'
 exact D.to [some 0,some 1,some 2,some 3] (hd4_2 x5 g) (by kernel_rfl) rfl rfl (.eqs rfl) ⟨bX,bX,bX,vL,trivial⟩ rfl rfl rfl
 refine D.ef1 rfl (.none rfl) (by exact Eff1.al T rfl rfl rfl rfl) rfl rfl ?_
 exact D.tq [0,1,2,3] hd4_3
theorem WI (plan:List (List Int)) (post:Int→Prop) (g:KX plan post):
  Tr Tryz.prog 16 [.sl 1 eLeI plan] [] 0 (pI post):=by
 refine Tr.go Tryz.func16 Tryz.ntmps16 fun _ _ _ _ o=>?_
 unfold KX at g
 refine C.ss (U.pd 1 T (C.xt ?_))
 refine U.pd 1 T (C.xs (C.ss ?_))
 refine U.pd 3 T (C.nx ?_)
 refine C.jn (fun (x7:Int)=>[(3,.i x7)]) (fun x7=>[]) 0 g (fun x7 g=>?_) fun J8 g j8=>?_
 refine C.xt (U.pd 2 T (C.nx (C.ret ?_)))
 exact C.f1 T o (pIi g)
 refine C.block (St.wk (C.loop (fun (s9:Int×Int)=>[(3,.i s9.1),(6,.sl 1 eLeI plan),(7,.i (plan.length:Int)),(8,.i s9.2)]) (fun s9=>[]) g (fun s9 Y10 g=>?_)) (Wk.e))
 refine C.ss (U.pd 1 T (C.xs ?_))
 refine C.ite rfl g (fun b13 g=>?_) fun b13 g=>?_
 refine C.skip (C.xs (C.block (C.ss ?_)))
 obtain⟨x16,y16,g⟩:=g
 refine U.ix T y16 ?_
 refine U.pd 2 T (C.nx (U.start ?_))
 refine U.pd 5 T (C.bnx (C.nx (U.start ?_)))
 refine U.pd 2 T (C.nx ?_)
 exact St.wk (C.next g) (Wk.e)
 refine C.exit (C.ex (C.ex (C.bex ?_)))
 exact St.wn (j8 _ g)
theorem Gt (o_1:Qw) (t:Int) (post:Int→Prop) (g:Ka o_1 t post):
  Tr Tryz.prog 54 [.agg [.rm Qf veB o_1.bans,.sl 1 eLeI o_1.plan],.i t] [] 0 (pI post):=by
 refine Tr.go Tryz.func54 Tryz.ntmps54 fun _ _ _ _ o=>?_
 unfold Ka at g
 refine C.ss (U.bx ?_)
 refine U.pd 1 T (C.xt ?_)
 refine U.ps 2 T rfl (U.k (WI o_1.plan _ g) en16 (fun x5 g=>?_))
 refine U.pd 3 T (C.nx (C.ret ?_))
 exact C.f1 T o (pIi g)
theorem Kc (x_1:List Qw) (target:Int) (post:(Int×Bool)→Prop) (g:Q7 x_1 target post):
  Tr Tryz.prog 53 [.sl 2 Kj x_1,.i target,.fn (.func 54) [] []] [] 0 (fun A H' k=>∃y,post y∧A=(.tup [.i y.1,.b y.2])∧H'=[]∧k=0):=by
 refine Tr.go Tryz.func53 Tryz.ntmps53 fun _ _ _ _ o=>?_
 unfold Q7 at g
 refine C.ss (U.pd 2 T (C.xt ?_))
 refine U.pd 3 T (C.xt ?_)
 refine U.pd 3 T (C.xs ?_)
 refine C.jn (fun (x7:Int)=>[(0,.sl 2 Kj x_1),(1,.i target),(2,.fn (.func 54) [] []),(8,.i (x_1.length:Int)),(9,.i x7)]) (fun x7=>[]) 0 g (fun x7 g=>?_) fun J8 g j8=>?_
 refine C.xs ?_
 refine C.jn (fun (x28:Bool)=>[(6,.i x7),(7,.b x28)]) (fun x28=>[]) 0 g (fun x28 g=>?_) fun J29 g j29=>?_
 refine C.nx (C.ret ?_)
 exact C.f9 T o ⟨(x7,x28),g,rfl,rfl,rfl⟩
 refine U.start (U.ps 5 T rfl ?_)
 refine g.cs (fun b30 g=>?_) fun b30 g=>?_
 refine U.pq 3 4 true 39 b30 T ?_
 obtain⟨x31,y31,g⟩:=g
 refine U.r rfl (.tk 4 true 39 b30) rfl rfl (by exact Rd.ix T rfl rfl rfl rfl rfl rfl y31) ?_
 refine U.pq 2 4 true 39 b30 T ?_
 refine U.k (Gt x31 target _ g) en54 (fun x32 g=>?_) (hw:=.take 4 true 39 _ b30 rfl rfl rfl)
 refine U.pq 1 4 true 39 b30 T ?_
 refine U.pk b30 ?_
 refine U.pd 2 T ?_
 exact St.wn (j29 _ g)
 refine U.sk' 8 4 true 39 b30 ?_
 refine U.pk' b30 ?_
 refine U.pd 2 T ?_
 exact St.wn (j29 _ g)
 refine C.block (St.wk (C.loop (fun (s9:Int×Int)=>[(0,.sl 2 Kj x_1),(1,.i target),(2,.fn (.func 54) [] []),(8,.i (x_1.length:Int)),(9,.i s9.1),(10,.i s9.2)]) (fun s9=>[]) g (fun s9 Y10 g=>?_)) (Wk.e))
 refine C.seq (C.ss (U.pd 3 T (C.nx ?_)))
 refine C.ite rfl g (fun b13 g=>?_) fun b13 g=>?_
 refine C.skip (C.nx (C.block (C.ss (U.ps 4 T rfl (U.r rfl (.none rfl) rfl rfl (by exact Rd.sh rfl rfl rfl rfl (by decide)) ?_)))))
 refine U.pd 2 T (C.xt ?_)
 refine U.ps 3 T rfl ?_
 obtain⟨x19,y19,g⟩:=g
 refine U.ix T y19 ?_
 refine U.ps 2 T rfl (U.k (Gt x19 target _ g) en54 (fun x20 g=>?_))
 refine U.pd 1 T (C.nx ?_)
 refine C.jn (fun (x21:Int×Int)=>[(0,.sl 2 Kj x_1),(1,.i target),(2,.fn (.func 54) [] []),(8,.i (x_1.length:Int)),(9,.i x21.1),(10,.i x21.2)]) (fun x21=>[]) 0 g (fun x21 g=>?_) fun J22 g j22=>?_
 refine C.bnx (C.nx ?_)
 exact St.wk (C.next g) (Wk.e)
 refine C.ite rfl g (fun b23 g=>?_) fun b23 g=>?_
 refine U.start (U.pd 3 T ?_)
 exact St.wn (j22 _ g)
 refine U.start (U.pd 2 T ?_)
 exact St.wn (j22 _ g)
 refine C.exit (C.ex (C.ex (C.bex ?_)))
 exact St.wn (j8 _ g)
theorem Xr (i:Int) (s_1:List Qw) (v:List Qw) (post:(List Qw×List Qw)→Prop) (g:QC i s_1 v post):
  Tr Tryz.prog 55 [.o 0,.i i,.o 1] [(0,.val (.os 2 Kj s_1)),(1,.val (.os 2 Kj v))] 2 (fun A H' k=>∃y,post y∧A=(.o 2)∧H'=[(1,.val (.os 2 Kj y.2)),(2,.val (.os 2 Kj y.1))]∧k=3):=by
 refine Tr.go Tryz.func55 Tryz.ntmps55 fun _ _ _ _ o=>?_
 unfold QC at g
 refine C.ss (U.pd 1 T (C.xt ?_))
 refine U.ps 2 T rfl ?_
 obtain⟨y5,g⟩:=g
 refine U.r rfl (.none rfl) rfl rfl (by exact Rd.vw T rfl rfl rfl rfl rfl rfl (.some _ rfl) (.none _) y5) ?_
 refine U.done (C.xt (U.pd 3 T (C.xs (C.ss ?_))))
 refine U.pd 2 T (C.nx ?_)
 refine C.ite rfl g (fun b10 g=>?_) fun b10 g=>?_
 refine C.ss (U.pd 2 T (C.nx (C.ret (C.rt ?_))))
 exact C.g1 [some 0,some 1,some 0] T o ⟨(s_1,v),g,rfl,rfl,rfl⟩
 refine C.skip (C.xt (U.pd 3 T (C.xs (C.ss ?_))))
 refine U.pd 3 T (C.nx ?_)
 refine C.ite rfl g (fun b17 g=>?_) fun b17 g=>?_
 refine C.ss (U.ps 2 T rfl ?_)
 obtain⟨y20,g⟩:=g
 refine U.ap T y20 ?_
 refine U.pd 1 T (C.nx (C.ret (C.rt ?_)))
 exact C.g1 (idR 3) T o ⟨((s_1++v),v),g,rfl,rfl,rfl⟩
 exact g.elim
theorem ov55 (w:World) {b off lb cb vb voff m vc:Nat} {cc cv:Array Value} {Tb Tv:TypeId} (hwb:w.heap[b]?=some (.cells cc Tb (0,0))) (hwv:w.heap[vb]?=some (.cells cv Tv (0,0))) (hne:vb≠b) (b0:cc.size≠0):
  (callFunc 107 #[.slice (some ⟨vb,voff,none⟩) m vc,.slice (some ⟨b,off,none⟩) lb cb]).run Tryz.prog w=.ok (.value (.bool false)) w:=by
 rw [run_callFunc_extern Tryz.func107 (by kernel_rfl) (by kernel_rfl) (by kernel_rfl) (e:=Extern.SlicesOverlaps.overlaps #[123,123] #[4]) (by kernel_rfl),
  Lib.run_overlaps_apart w 123 4 120 Tryz.underlying123 2 Tryz.sizeOf120 ⟨vb,voff,none⟩ ⟨b,off,none⟩ m vc lb cb hne Tv Tb cv.size cc.size (by simp [World.shape?,hwv]) (by simp [World.shape?,hwb]) b0 (by simp [World.frozen?,hwv]) (by simp [World.frozen?,hwv])]
 rfl
set_option maxHeartbeats 4000000 in
theorem Q6r (w:World) (b off n c i vb voff m vc:Nat) (cb cv:Array Value) (Tb Tv:TypeId) (hwb:w.heap[b]?=some (.cells cb Tb (0,0))) (hwv:w.heap[vb]?=some (.cells cv Tv (0,0))) (hne:vb≠b) (hi:i<n) (g:0<m) (hmv:m≤vc) (hcb:off+c*2≤cb.size) (hcv:voff+vc*2≤cv.size)
  (ho1:∀q,q<n*2→(cb.getD (off+q) undef).oneCell'=true) (ho2:∀q,q<m*2→(cv.getD (voff+q) undef).oneCell'=true) (hroom:n+m≤c) (hnm:n+m≤1099511627776):
  Calls Tryz.prog 55 #[.slice (some ⟨b,off,none⟩) n c,.int .i64 i,.slice (some ⟨vb,voff,none⟩) m vc] w fun e w'=>e=.returned (.slice (some ⟨b,off,none⟩) (n+m) c) ∧
   w'=(w.drew.setRow b (spl cb (off+(i+m)*2) cb (off+i*2) ((n-i)*2))).setRow b (spl (spl cb (off+(i+m)*2) cb (off+i*2) ((n-i)*2)) (off+i*2) cv voff (m*2)):=by
 have u0:=run_underlying Tryz.underlying0;have u3:=run_underlying Tryz.underlying3;have u4:=run_underlying Tryz.underlying4;have uS:=run_underlying Tryz.underlying123
 have zE:=Tryz.sizeOf120
 have hz1:¬((m:Int)=0):=by omega
 have hz2:¬((i:Int)=(n:Int)):=by omega
 have hz3:¬((c:Int)<(n:Int)+(m:Int)):=by omega
 have hw1:IntKind.i64.wrap ((i:Int)+(m:Int))=(i:Int)+(m:Int):=IntWalk.i64_in _ (by omega)
 have hw2:IntKind.i64.wrap ((n:Int)+(m:Int))=(n:Int)+(m:Int):=IntWalk.i64_in _ (by omega)
 have b1:(0:Int)≤(i:Int)+(m:Int):=by omega
 have hin:i≤n:=by omega
 have htn:((i:Int)+(m:Int)).toNat=i+m:=by omega
 have b2:¬(c=i+m):=by omega
 have b3:(i:Int)≤(n:Int)+(m:Int):=by omega
 have b4:¬(c=i):=by omega
 have hN1:(i+m)*2+(n-i)*2=(n+m)*2:=by rw [←Nat.add_mul];congr 1;omega
 have hN2:i*2+(n-i)*2=n*2:=by rw [←Nat.add_mul];congr 1;omega
 have hN3:(n+m)*2≤c*2:=Nat.mul_le_mul_right _ hroom
 have hN4:n*2≤c*2:=Nat.mul_le_mul_right _ (by omega)
 have hN5:i*2+m*2=(i+m)*2:=(Nat.add_mul _ _ _).symm
 have hN6:(i+m)*2≤c*2:=Nat.mul_le_mul_right _ (by omega)
 have hN7:m*2≤vc*2:=Nat.mul_le_mul_right _ hmv
 have hsz0:cb.size≠0:=by
  have:1*2≤c*2:=Nat.mul_le_mul_right _ (by omega)
  omega
 have hov:∀lb cb2,(callFunc 107 #[.slice (some ⟨vb,voff,none⟩) m vc,.slice (some ⟨b,off+(i+m)*2,none⟩) lb cb2]).run Tryz.prog w=.ok (.value (.bool false)) w:=fun lb cb2=>ov55 w hwb hwv hne hsz0
 have hcp1:∀ty dc sc,(Builtin.copy_ #[123,123] ty #[.slice (some ⟨b,off+(i+m)*2,none⟩) (n+m-(i+m)) dc,.slice (some ⟨b,off+i*2,none⟩) (n+m-i) sc]).run Tryz.prog w.drew=.ok (goInt (n-i:Nat)) (w.drew.setRow b (spl cb (off+(i+m)*2) cb (off+i*2) ((n-i)*2))):=fun ty dc sc=>
  WN (K:=2) Tryz.underlying123 zE w.drew (k:=n-i) hwb hwb (by simp only [Nat.min_def];split <;> omega) (by omega) (by omega) (fun q hq=>by rw [Nat.add_assoc];exact ho1 _ (by omega)) ty
 have hW1:(w.drew.setRow b (spl cb (off+(i+m)*2) cb (off+i*2) ((n-i)*2))).heap[b]?=some (.cells (spl cb (off+(i+m)*2) cb (off+i*2) ((n-i)*2)) Tb (0,0)):=setRow_heap w.drew b cb _ Tb (0,0) hwb
 have hW2:(w.drew.setRow b (spl cb (off+(i+m)*2) cb (off+i*2) ((n-i)*2))).heap[vb]?=some (.cells cv Tv (0,0)):=by rw [setRow_other w.drew b vb _ hne];exact hwv
 generalize hc1:spl cb (off+(i+m)*2) cb (off+i*2) ((n-i)*2)=c1 at *
 have hc1s:c1.size=cb.size:=by rw [←hc1];exact Yk (by omega) (by omega)
 have hcp2:∀ty dc,(Builtin.copy_ #[123,123] ty #[.slice (some ⟨b,off+i*2,none⟩) (n+m-i) dc,.slice (some ⟨vb,voff,none⟩) m vc]).run Tryz.prog (w.drew.setRow b c1)=.ok (goInt m) ((w.drew.setRow b c1).setRow b (spl c1 (off+i*2) cv voff (m*2))):=fun ty dc=>
  WN (K:=2) Tryz.underlying123 zE (w.drew.setRow b c1) (k:=m) hW1 hW2 (by simp only [Nat.min_def];split <;> omega) (by omega) (by omega) ho2 ty
 clear hc1 hN1 hN2 hN3 hN4 hN5 hN6 hN7 ho1 ho2 hW1 hW2
 go_enter Tryz.func55,Tryz.ntmps55
 go_wp2_with (simp only [hov])
 go_region_law (refine Q2D rfl _ _ 123 123 rfl _ _ (by simp [Act.eval,Act.put]) (by simp [Act.eval,Act.put]) (hcp1 _ _ _) ?_)
 go_wp2_with (at_builtin;refine Q2X _ rfl _ _ 123 123 rfl _ _ rfl rfl (hcp2 _ _) ?_)
 go_ret
 exact⟨rfl,rfl⟩
set_option maxHeartbeats 4000000 in
theorem Q6P (w:World) (b off n c i vb voff m vc:Nat) (cb cv:Array Value) (Tb Tv:TypeId) (hwb:w.heap[b]?=some (.cells cb Tb (0,0))) (hwv:w.heap[vb]?=some (.cells cv Tv (0,0))) (hi:i<n) (hnc:n≤c) (g:0<m) (hmv:m≤vc) (hcb:off+c*2≤cb.size) (hcv:voff+vc*2≤cv.size)
  (ho1:∀q,q<n*2→(cb.getD (off+q) undef).oneCell'=true) (ho2:∀q,q<m*2→(cv.getD (voff+q) undef).oneCell'=true) (hroom:c<n+m) (hnm:n+m≤1099511627776):
  ∃(G:Nat) (row:Array Value),n+m≤G∧row.size=G*2∧(∀q,q<i*2→row.getD q undef=cb.getD (off+q) undef) ∧
  Calls Tryz.prog 55 #[.slice (some ⟨b,off,none⟩) n c,.int .i64 i,.slice (some ⟨vb,voff,none⟩) m vc] w fun e w'=>e=.returned (.slice (some ⟨w.heap.size,0,none⟩) (n+m) G) ∧
   w'.heap=(((w.alloc (.cells row 120)).setRow w.heap.size (spl row (i*2) cv voff (m*2))).setRow w.heap.size (spl (spl row (i*2) cv voff (m*2)) ((i+m)*2) cb (off+i*2) ((n-i)*2))).heap∧w'.os=w.os∧w'.tape=w.tape∧w'.output=w.output∧w.drawn≤w'.drawn:=by
 have u0:=run_underlying Tryz.underlying0;have u3:=run_underlying Tryz.underlying3;have u4:=run_underlying Tryz.underlying4;have uS:=run_underlying Tryz.underlying123
 have zE:=Tryz.sizeOf120
 obtain⟨_,inf,z,hinf,hsz,hby,hz0,hzc,_,hzl,_⟩:=Q3v
 have hzs:z.cells.size=2:=by rw [←Array.length_toList,hzc];exact hzl
 have hby2:inf.bytes≤128:=by rw [hby];decide
 have hsz2:inf.size=2:=hsz
 have hkk:(n:Int)+(m:Int)-(i:Int)=((n+m-i:Nat):Int):=by omega
 have hik:i+(n+m-i)=n+m:=by omega
 have hN3:(n+m-i)*2=(n+m)*2-i*2:=Nat.sub_mul _ _ _
 have hN4:n*2≤c*2:=Nat.mul_le_mul_right _ hnc
 have hN2:i*2+(n-i)*2=n*2:=by rw [←Nat.add_mul];congr 1;omega
 have hN1:(i+m)*2+(n-i)*2=(n+m)*2:=by rw [←Nat.add_mul];congr 1;omega
 have hN5:i*2+m*2=(i+m)*2:=(Nat.add_mul _ _ _).symm
 have hN7:m*2≤vc*2:=Nat.mul_le_mul_right _ hmv
 have hN8:(n+m)*inf.bytes≤1099511627776*128:=Nat.mul_le_mul hnm hby2
 have hN9:(n+m-i)*inf.bytes≤(n+m)*inf.bytes:=Nat.mul_le_mul_right _ (by omega)
 have hol:((cb.toList.drop off).take (i*2)).length=i*inf.size:=by rw [hsz2];simp;omega
 have hold:(Builtin.firstCells inf.size i (.slice (some ⟨b,off,none⟩) i c)).run Tryz.prog w.drew=.ok ((cb.toList.drop off).take (i*2)).toArray w.drew:=
  run_firstCells_some w.drew inf.size i ⟨b,off,none⟩ i c _ hol (Q2B (w:=w.drew) hwb (by omega))
 obtain⟨G,hG⟩:∃G,G=grownCap w (n+m) c 120:=⟨_,rfl⟩
 have hGn:n+m≤G:=by rw [hG];exact grownCap_ge w _ _ _
 obtain⟨row,hrow⟩:∃row:Array Value,row=((cb.toList.drop off).take (i*2)).toArray++Builtin.zeroCells z.cells (n+m-i)++Builtin.zeroCells z.cells (G-(n+m)):=⟨_,rfl⟩
 have hrz:∀ty,(Builtin.append_ #[123,3] ty #[.slice (some ⟨b,off,none⟩) i c,.int .i64 ((n:Int)+(m:Int)-(i:Int))]).run Tryz.prog w=.ok (.slice (some ⟨w.heap.size,0,none⟩) (n+m) G) (w.drew.alloc (.cells row 120)):=fun ty=>by
  have h:=Lib.run_append_grow_zeros w 123 3 ty 120 inf z .i64 .i64 Tryz.underlying123 Tryz.underlying3 hinf hz0 (some ⟨b,off,none⟩) i c _ hold (n+m-i) (by omega) (by rw [hsz2];decide) (by omega) (by omega) (by omega) (by rw [hik];exact growslice_fits hroom (by omega))
  rw [hik] at h
  rw [hkk,hrow,hG]
  exact h
 have hrs:row.size=G*2:=by
  have:(G-(n+m))*2=G*2-(n+m)*2:=Nat.sub_mul _ _ _
  have:(n+m)*2≤G*2:=Nat.mul_le_mul_right _ hGn
  have hl2:((cb.toList.drop off).take (i*2)).length=i*2:=by rw [hol,hsz2]
  rw [hrow];simp only [Array.size_append,size_zeroCells,hzs,List.size_toArray];omega
 refine⟨G,row,hGn,hrs,fun q hq=>?_,?_⟩
 ·have h1:q<((cb.toList.drop off).take (i*2)).toArray.size:=by simp only [List.size_toArray];rw [hol,hsz2];exact hq
  rw [hrow,Array.getD_eq_getD_getElem?,Array.append_assoc,Array.getElem?_append_left h1,List.getElem?_toArray,List.getElem?_take,if_pos hq,List.getElem?_drop,Array.getD_eq_getD_getElem?];simp
 have hw1:IntKind.i64.wrap ((i:Int)+(m:Int))=(i:Int)+(m:Int):=IntWalk.i64_in _ (by omega)
 have hw2:IntKind.i64.wrap ((n:Int)+(m:Int))=(n:Int)+(m:Int):=IntWalk.i64_in _ (by omega)
 have hw3:IntKind.i64.wrap ((n:Int)+(m:Int)-(i:Int))=(n:Int)+(m:Int)-(i:Int):=IntWalk.i64_in _ (by omega)
 have hGK:(n+m)*2≤G*2:=Nat.mul_le_mul_right _ hGn
 have hbw:b<w.heap.size:=Xv hwb
 have hvw:vb<w.heap.size:=Xv hwv
 have hA0:(w.alloc (.cells row 120)).heap[w.heap.size]?=some (.cells row 120 (0,0)):=heap_alloc_new w _
 have hAb:(w.alloc (.cells row 120)).heap[b]?=some (.cells cb Tb (0,0)):=(RowKit.Below.heap_alloc w _ b hbw).trans hwb
 have hAv:(w.alloc (.cells row 120)).heap[vb]?=some (.cells cv Tv (0,0)):=(RowKit.Below.heap_alloc w _ vb hvw).trans hwv
 have hcpA:∀(W:World),W.heap=(w.alloc (.cells row 120)).heap→∀ty dc,(Builtin.copy_ #[123,123] ty #[.slice (some ⟨w.heap.size,i*2,none⟩) (n+m-i) dc,.slice (some ⟨vb,voff,none⟩) m vc]).run Tryz.prog W=.ok (goInt m) (W.setRow w.heap.size (spl row (i*2) cv voff (m*2))):=fun W hW ty dc=>by
  exact WN (K:=2) Tryz.underlying123 zE W (k:=m) (by rw [hW];exact hA0) (by rw [hW];exact hAv) (by simp only [Nat.min_def];split <;> omega) (by omega) (by omega) ho2 ty
 have hr1:(spl row (i*2) cv voff (m*2)).size=row.size:=Yk (by omega) (by omega)
 have hcpB:∀(W:World),W.heap=((w.alloc (.cells row 120)).setRow w.heap.size (spl row (i*2) cv voff (m*2))).heap→∀ty dc sc,(Builtin.copy_ #[123,123] ty #[.slice (some ⟨w.heap.size,(i+m)*2,none⟩) (n+m-(i+m)) dc,.slice (some ⟨b,off+i*2,none⟩) (n-i) sc]).run Tryz.prog W=.ok (goInt (n-i:Nat)) (W.setRow w.heap.size (spl (spl row (i*2) cv voff (m*2)) ((i+m)*2) cb (off+i*2) ((n-i)*2))):=fun W hW ty dc sc=>by
  exact WN (K:=2) Tryz.underlying123 zE W (k:=n-i) (by rw [hW];exact setRow_heap _ _ _ _ _ _ hA0) (by rw [hW,setRow_other _ _ _ _ (by omega:b≠w.heap.size)];exact hAb) (by simp only [Nat.min_def];split <;> omega) (by omega) (by omega) (fun q hq=>by rw [Nat.add_assoc];exact ho1 _ (by omega)) ty
 have hz1:¬((m:Int)=0):=by omega
 have hz2:¬((i:Int)=(n:Int)):=by omega
 have hz3:(c:Int)<(n:Int)+(m:Int):=by omega
 have hGi:¬(G=i):=by omega
 have hGim:¬(G=i+m):=by omega
 have hci:¬(c=i):=by omega
 have b1:(0:Int)≤(i:Int)+(m:Int):=by omega
 have hin:i≤n:=by omega
 have htn:((i:Int)+(m:Int)).toNat=i+m:=by omega
 have b3:(i:Int)≤(n:Int):=by omega
 have hic:i≤c:=by omega
 have b5:(i:Int)≤(n:Int)+(m:Int):=by omega
 clear hold hol hrow hG hN1 hN2 hN3 hN4 hN5 hN7 hN8 hN9 ho1 ho2 hkk hik hr1 hGK
 go_enter Tryz.func55,Tryz.ntmps55
 go_wp2_with (first
  | (at_builtin;refine Lib.wpList_append_run _ rfl _ _ _ _ rfl _ _ rfl rfl _ _ (hrz _) ?_))
 rw [hcpA (w.alloc (.cells row 120)).drew rfl 3 (G-i)]
 go_wp2
 go_region_law (refine Q2D rfl _ _ 123 123 rfl (.slice (some ⟨w.heap.size,(i+m)*2,none⟩) (n+m-(i+m)) (G-(i+m))) (.slice (some ⟨b,off+i*2,none⟩) (n-i) (c-i)) (by simp [Act.eval,Act.put]) (by simp [Act.eval,Act.put]) (hcpB ((w.alloc (.cells row 120)).drew.setRow w.heap.size (spl row (i*2) cv voff (m*2))).drew rfl 3 (G-(i+m)) (c-i)) ?_)
 go_wp2
 go_ret
 exact⟨rfl,rfl,rfl,rfl,rfl,Nat.le_trans (Nat.le_succ _) (Nat.le_succ _)⟩
theorem Q6s:Q3r Tryz.prog 55 2:=Q3w (E:=120) Q6r Q6P
theorem XI (i:Int) (xs:List Qw) (ys:List Qw) (post:List Qw→Prop) (g:Qn i xs ys post):
  Tr Tryz.prog 55 [.o 0,.i i,.o 1] [(0,.val (.os 2 Kj xs)),(1,.val (.os 2 Kj ys))] 2 (fun A H' k=>∃y,post y∧A=(.o 2)∧H'=[(2,.val (.os 2 Kj y))]∧k=3):=by
 unfold Qn at g
 rcases g with g | g
 refine (Tr.drop1 (Xr i xs ys _ g)).mono fun A H' k h=>?_
 obtain⟨y,hy,hA,hH,hk⟩:=h
 exact⟨y.1,hy,hA,hH,hk⟩
 obtain⟨⟨h0,h1⟩,h2,h3,hp⟩:=g
 obtain⟨n,rfl⟩:=Int.eq_ofNat_of_zero_le h0
 exact Tr.insert Q6s (enc:=Kj) (fun _=>rfl) xs ys n (by omega) h2 h3 hp
theorem Yo (p:CbsProblem) (post:(List (List Int)×Int)→Prop) (g:KJ p post):
  Tr Tryz.prog 22 [.rp [.i p.s.Floor.W,.i p.s.Floor.H,.i p.s.Floor.D,.sl 1 eI p.s.Floor.Kind,.sl 1 eI p.s.Floor.Out,.sl 5 Q3 p.s.Zones,.sl 2 Q0 p.s.Aparts,.sl 2 Q1 p.s.Shelves,.sl 2 Q2 p.s.Robots,.sl 2 Q4 p.trips,.i p.tick,.sl 1 eI p.avoid,.i p.most]] [] 0 (fun A H' k=>∃y,post y∧A=(.tup [.sl 1 eLeI y.1,.i y.2])∧H'=[]∧k=0):=by
 refine Tr.go Tryz.func22 Tryz.ntmps22 fun _ _ _ _ o=>?_
 unfold KJ at g
 refine C.ss (U.pd 2 T (C.xt ?_))
 refine U.ps 5 T rfl ?_
 obtain⟨y5,g⟩:=g
 refine U.e1 rfl (.none rfl) (by exact Eff1.re (A':=.os 1 eOeI (List.replicate (Int.toNat (p.trips.length:Int)) [])) (Eff1.mk T (enc:=fun _:Unit=>[vN]) (z0:=()) rfl rfl rfl rfl rfl rfl rfl rfl rfl rfl y5) (fun _ _ _ _ _ h=>(NlR.rep (.cons (.os _ _) .nil) _).on h)) ?_
 refine U.ps 1 T rfl (U.al T ?_)
 refine U.st T ?_
 refine U.done (C.xs (C.ss (U.pd 6 T (C.nx ?_))))
 refine C.jn (fun (x8:List (List Int))=>[(0,.rp [.i p.s.Floor.W,.i p.s.Floor.H,.i p.s.Floor.D,.sl 1 eI p.s.Floor.Kind,.sl 1 eI p.s.Floor.Out,.sl 5 Q3 p.s.Zones,.sl 2 Q0 p.s.Aparts,.sl 2 Q1 p.s.Shelves,.sl 2 Q2 p.s.Robots,.sl 2 Q4 p.trips,.i p.tick,.sl 1 eI p.avoid,.i p.most]),(4,.p 0 0)]) (fun x8=>[(0,.box [.v (.map none),.o 1]),(1,.val (.os 1 eOeI x8))]) 2 g (fun x8 g=>?_) fun J9 g j9=>?_
 refine C.xt (U.ps 1 T rfl ?_)
 refine St.wk (Γ':=[(0,.rp [.i p.s.Floor.W,.i p.s.Floor.H,.i p.s.Floor.D,.sl 1 eI p.s.Floor.Kind,.sl 1 eI p.s.Floor.Out,.sl 5 Q3 p.s.Zones,.sl 2 Q0 p.s.Aparts,.sl 2 Q1 p.s.Shelves,.sl 2 Q2 p.s.Robots,.sl 2 Q4 p.trips,.i p.tick,.sl 1 eI p.avoid,.i p.most]),(4,.p 0 0),(47,.agg [.v (.map none),.sl 1 eLeI x8])]) (H':=[(0,.box [.v (.map none),.sl 1 eLeI x8])]) (nl':=1) ?_ (Wk.mk' [some 0] rfl rfl ⟨⟨_,rfl,(.eq rfl)⟩,⟨_,rfl,(.eq rfl)⟩,⟨_,rfl,(.agg (.cons (.eq rfl) (.cons (.fz rfl rfl rfl (.os fun _=>.cons (.os fun _=>.cons (.ro rfl) .nil) .nil)) .nil)))⟩,trivial⟩ ⟨⟨_,rfl,.box rfl (.cons (.eq rfl) (.cons (.fz rfl rfl rfl (.os fun _=>.cons (.os fun _=>.cons (.ro rfl) .nil) .nil)) .nil))⟩,trivial⟩ rfl)
 refine U.e1 rfl (.none rfl) (by exact Eff1.re (A':=.os 2 Kj ([({bans:=[],plan:=x8:Qw})]:List Qw)) (Eff1.bs T (enc:=fun i:Nat=>([[.v (.map none),.sl 1 eLeI x8]]:List (List AVal)).getD i []) (xs:=[0]) rfl rfl rfl rfl rfl rfl rfl rfl rfl rfl (fun y hy=>by simp at hy;(try rcases hy with rfl) <;> (try subst hy) <;> rfl) rfl rfl) (fun _ _ _ _ _ h=>((.cons (.cons (.rm _ _) (.cons (.refl _) .nil)) .nil):NlR _ _ _ _).on h)) ?_
 refine U.pd 1 T (C.xs (C.ss ?_))
 refine U.pd 1 T (C.nx ?_)
 refine C.jn (fun (x34:Unit)=>[]) (fun x34=>[]) 0 g (fun x34 g=>?_) fun J35 g j35=>?_
 refine C.xt (U.pd 2 T (C.nx (C.ret ?_)))
 exact C.fg [] T o ⟨([],27),g,rfl,rfl,rfl⟩
 refine C.block ?_
 refine St.wk (C.loop (fun (s36:List Qw×Int)=>[(0,.rp [.i p.s.Floor.W,.i p.s.Floor.H,.i p.s.Floor.D,.sl 1 eI p.s.Floor.Kind,.sl 1 eI p.s.Floor.Out,.sl 5 Q3 p.s.Zones,.sl 2 Q0 p.s.Aparts,.sl 2 Q1 p.s.Shelves,.sl 2 Q2 p.s.Robots,.sl 2 Q4 p.trips,.i p.tick,.sl 1 eI p.avoid,.i p.most]),(8,.o 0),(49,.i s36.2)]) (fun s36=>[(0,.val (.os 2 Kj s36.1))]) g (fun s36 Y37 g=>?_)) (Wk.a [some 1])
 refine C.ss (U.pd 1 T (C.xs ?_))
 refine C.ite rfl g (fun b40 g=>?_) fun b40 g=>?_
 refine C.skip (C.xs ?_)
 refine C.jn (fun (x41:List Qw)=>[(0,.rp [.i p.s.Floor.W,.i p.s.Floor.H,.i p.s.Floor.D,.sl 1 eI p.s.Floor.Kind,.sl 1 eI p.s.Floor.Out,.sl 5 Q3 p.s.Zones,.sl 2 Q0 p.s.Aparts,.sl 2 Q1 p.s.Shelves,.sl 2 Q2 p.s.Robots,.sl 2 Q4 p.trips,.i p.tick,.sl 1 eI p.avoid,.i p.most]),(8,.o 0),(49,.i s36.2)]) (fun x41=>[(0,.val (.os 2 Kj x41))]) 1 g (fun x41 g=>?_) fun J42 g j42=>?_
 refine C.nx (U.start (U.pd 2 T (C.nx ?_)))
 exact St.wk (C.next g) (Wk.a [some 0])
 refine C.block (C.seq (C.ss (U.pd 3 T (C.nx ?_))))
 refine C.ite rfl g (fun b45 g=>?_) fun b45 g=>?_
 refine C.ss (U.pd 2 T (C.nx (C.ret (C.rt (C.brt (C.rt (C.rt (C.brt (C.rt ?_)))))))))
 exact C.fg [] T o ⟨([],14),g,rfl,rfl,rfl⟩
 refine C.skip (C.xt (U.ps 1 T rfl ?_))
 obtain⟨x50,y50,g⟩:=g
 refine U.r rfl (.none rfl) rfl rfl (by exact Rd.io T rfl rfl rfl rfl rfl rfl rfl y50) ?_
 refine U.r rfl (.none rfl) rfl rfl (by exact Rd.le T rfl rfl rfl (Qi y50).2.2 rfl rfl rfl) ?_
 refine U.al T ?_
 refine U.st T ?_
 refine U.done (C.xt (U.ps 1 T rfl ?_))
 obtain⟨y53,g⟩:=g
 refine U.e1 rfl (.none rfl) (by exact Eff1.sw T rfl rfl rfl rfl rfl rfl rfl rfl (.some _ rfl) (.none _) y53) ?_
 refine U.pd 1 T (C.xs ?_)
 refine D.bq mix 9999 [1] [3] (fun hQ hS ws M'=>?_)
 refine D.pq 10 (zl [0,1,2,3,4,5,6,7,8,9]) T ?_
 refine D.hav1 g false (fun x56=>[(0,.rp [.i p.s.Floor.W,.i p.s.Floor.H,.i p.s.Floor.D,.sl 1 eI p.s.Floor.Kind,.sl 1 eI p.s.Floor.Out,.sl 5 Q3 p.s.Zones,.sl 2 Q0 p.s.Aparts,.sl 2 Q1 p.s.Shelves,.sl 2 Q2 p.s.Robots,.sl 2 Q4 p.trips,.i p.tick,.sl 1 eI p.avoid,.i p.most]),(8,.o 2),(9,.p 1 0),(10,.p 3 0),(11,.b x56.2),(49,.i s36.2),(50,.b (decide (s36.2<500))),(51,.o 0),(52,.i (s36.1.length:Int)),(53,.b ((s36.1.length:Int) == 0)),(54,.o 0),(55,.ep 0 2 (Int.toNat 0) 0),(56,.agg [.rm Qf veB x50.bans,.sl 1 eLeI x50.plan]),(57,.o 0),(58,.o 2),(59,.tup [.agg (Xf x56.1),.b x56.2]),(60,.rp [.i p.s.Floor.W,.i p.s.Floor.H,.i p.s.Floor.D,.sl 1 eI p.s.Floor.Kind,.sl 1 eI p.s.Floor.Out,.sl 5 Q3 p.s.Zones,.sl 2 Q0 p.s.Aparts,.sl 2 Q1 p.s.Shelves,.sl 2 Q2 p.s.Robots,.sl 2 Q4 p.trips,.i p.tick,.sl 1 eI p.avoid,.i p.most]),(61,.rp [.i p.s.Floor.W,.i p.s.Floor.H,.i p.s.Floor.D,.sl 1 eI p.s.Floor.Kind,.sl 1 eI p.s.Floor.Out,.sl 5 Q3 p.s.Zones,.sl 2 Q0 p.s.Aparts,.sl 2 Q1 p.s.Shelves,.sl 2 Q2 p.s.Robots,.sl 2 Q4 p.trips,.i p.tick,.sl 1 eI p.avoid,.i p.most]),(62,.rp [.i p.s.Floor.W,.i p.s.Floor.H,.i p.s.Floor.D,.sl 1 eI p.s.Floor.Kind,.sl 1 eI p.s.Floor.Out,.sl 5 Q3 p.s.Zones,.sl 2 Q0 p.s.Aparts,.sl 2 Q1 p.s.Shelves,.sl 2 Q2 p.s.Robots,.sl 2 Q4 p.trips,.i p.tick,.sl 1 eI p.avoid,.i p.most]),(63,.agg (Q9 p.s)),(64,.rp [.i p.s.Floor.W,.i p.s.Floor.H,.i p.s.Floor.D,.sl 1 eI p.s.Floor.Kind,.sl 1 eI p.s.Floor.Out,.sl 5 Q3 p.s.Zones,.sl 2 Q0 p.s.Aparts,.sl 2 Q1 p.s.Shelves,.sl 2 Q2 p.s.Robots,.sl 2 Q4 p.trips,.i p.tick,.sl 1 eI p.avoid,.i p.most]),(65,.rp [.i p.s.Floor.W,.i p.s.Floor.H,.i p.s.Floor.D,.sl 1 eI p.s.Floor.Kind,.sl 1 eI p.s.Floor.Out,.sl 5 Q3 p.s.Zones,.sl 2 Q0 p.s.Aparts,.sl 2 Q1 p.s.Shelves,.sl 2 Q2 p.s.Robots,.sl 2 Q4 p.trips,.i p.tick,.sl 1 eI p.avoid,.i p.most]),(66,.rp [.sl 2 Q4 p.trips,.i p.tick,.sl 1 eI p.avoid,.i p.most]),(67,.sl 2 Q4 p.trips),(68,.p 1 1),(69,.sl 1 eLeI x50.plan),(70,.tup [.agg (Xf x56.1),.b x56.2]),(71,.agg (Xf x56.1)),(72,.b x56.2)]) (fun x56=>[(1,.box [.rm Qf veB x50.bans,.sl 1 eLeI x50.plan]),(2,.val (.os 2 Kj (sub s36.1 1 (s36.1.length:Int)))),(3,.box (Xf x56.1))]) 4 0 #[true,true,true,true,true,true,true,true,true,true,true,true,true,true,true,true,true] (fun x56 g=>?_) fun hd55_4=>?_
 refine D.done (by kernel_rfl) ?_
 refine C.xs (C.ss (U.pd 2 T (C.nx ?_)))
 refine C.ite rfl g (fun b59 g=>?_) fun b59 g=>?_
 refine C.ss (U.pd 4 T (C.nx (C.ret (C.rt (C.brt (C.rt (C.rt (C.brt (C.rt ?_)))))))))
 exact C.f9 T o ⟨(x50.plan,0),g,rfl,rfl,rfl⟩
 refine C.skip (C.xt (U.ps 4 T rfl (U.bs T eI ([x56.1.a,x56.1.b]:List Int) ?_)))
 refine U.pd 2 T (C.nx ?_)
 refine C.jn (fun (x64:List Qw)=>[(0,.rp [.i p.s.Floor.W,.i p.s.Floor.H,.i p.s.Floor.D,.sl 1 eI p.s.Floor.Kind,.sl 1 eI p.s.Floor.Out,.sl 5 Q3 p.s.Zones,.sl 2 Q0 p.s.Aparts,.sl 2 Q1 p.s.Shelves,.sl 2 Q2 p.s.Robots,.sl 2 Q4 p.trips,.i p.tick,.sl 1 eI p.avoid,.i p.most]),(8,.o 0),(49,.i s36.2)]) (fun x64=>[(0,.val (.os 2 Kj x64))]) 1 g (fun x64 g=>?_) fun J65 g j65=>?_
 refine C.bnx ?_
 exact St.wa [some 0] (j42 _ g)
 refine C.block ?_
 refine St.wk (C.loop (fun (s66:List Qw×Int)=>[(0,.rp [.i p.s.Floor.W,.i p.s.Floor.H,.i p.s.Floor.D,.sl 1 eI p.s.Floor.Kind,.sl 1 eI p.s.Floor.Out,.sl 5 Q3 p.s.Zones,.sl 2 Q0 p.s.Aparts,.sl 2 Q1 p.s.Shelves,.sl 2 Q2 p.s.Robots,.sl 2 Q4 p.trips,.i p.tick,.sl 1 eI p.avoid,.i p.most]),(8,.o 0),(9,.p 1 0),(10,.p 2 0),(49,.i s36.2),(81,.o 3),(82,.i (([x56.1.a,x56.1.b]:List Int).length:Int)),(83,.i s66.2)]) (fun s66=>[(0,.val (.os 2 Kj s66.1)),(1,.box [.rm Qf veB x50.bans,.sl 1 eLeI x50.plan]),(2,.box (Xf x56.1)),(3,.val (.os 1 eI ([x56.1.a,x56.1.b]:List Int)))]) g (fun s66 Y67 g=>?_)) (Wk.a [some 2,some 1,some 3,some 4])
 refine C.ss (U.pd 1 T (C.xs ?_))
 refine C.ite rfl g (fun b70 g=>?_) fun b70 g=>?_
 refine C.skip (C.xs (C.block (C.ss ?_)))
 obtain⟨x73,y73,g⟩:=g
 refine U.r rfl (.none rfl) rfl rfl (by exact Rd.io T rfl rfl rfl rfl rfl rfl rfl y73) ?_
 refine U.r rfl (.none rfl) rfl rfl (by exact Rd.le T rfl rfl rfl (Qi y73).2.2 rfl rfl rfl) ?_
 refine U.pd 1 T (C.xt ?_)
 refine U.ps 8 T rfl (U.e rfl (.none rfl) (by exact Eff.c [] (v:=false) (YW p x50 ({robot:=x73,cell:=x56.1.cell,tick:=x56.1.tick:Kl}) _ g) en52 rfl rfl rfl (.eq rfl) trivial rfl rfl rfl rfl rfl rfl (fun h=>by cases h) (.inr ⟨rfl,rfl⟩) (fun _=>rfl) (fun _=>rfl) rfl) (fun x76' g=>?_))
 obtain⟨x76⟩:=x76'
 refine U.ps 3 T rfl (U.al T ?_)
 refine U.st T ?_
 refine U.pd 1 T (C.xt ?_)
 refine U.pd 1 T (C.nx ?_)
 refine C.jn (fun (x79:List Qw)=>[(0,.rp [.i p.s.Floor.W,.i p.s.Floor.H,.i p.s.Floor.D,.sl 1 eI p.s.Floor.Kind,.sl 1 eI p.s.Floor.Out,.sl 5 Q3 p.s.Zones,.sl 2 Q0 p.s.Aparts,.sl 2 Q1 p.s.Shelves,.sl 2 Q2 p.s.Robots,.sl 2 Q4 p.trips,.i p.tick,.sl 1 eI p.avoid,.i p.most]),(8,.o 0),(9,.p 1 0),(10,.p 2 0),(49,.i s36.2),(81,.o 3),(82,.i (([x56.1.a,x56.1.b]:List Int).length:Int)),(83,.i s66.2)]) (fun x79=>[(0,.val (.os 2 Kj x79)),(1,.box [.rm Qf veB x50.bans,.sl 1 eLeI x50.plan]),(2,.box (Xf x56.1)),(3,.val (.os 1 eI ([x56.1.a,x56.1.b]:List Int)))]) 4 g (fun x79 g=>?_) fun J80 g j80=>?_
 refine C.bnx (C.nx (U.start (U.pd 2 T (C.nx ?_))))
 exact St.wk (C.next g) (Wk.a (idR 4))
 refine C.ite rfl g (fun b81 g=>?_) fun b81 g=>?_
 refine C.ss (U.ps 3 T rfl (U.k (WI x76.1.plan _ g) en16 (fun x84 g=>?_)))
 refine U.ps 1 T rfl (U.k (Kc s66.1 (w64 (x84+1)) _ g) en53 (fun x85 g=>?_))
 refine U.pd 5 T (C.nx (U.start ?_))
 refine U.ps 3 T rfl ?_
 refine St.wk (Γ':=[(0,.rp [.i p.s.Floor.W,.i p.s.Floor.H,.i p.s.Floor.D,.sl 1 eI p.s.Floor.Kind,.sl 1 eI p.s.Floor.Out,.sl 5 Q3 p.s.Zones,.sl 2 Q0 p.s.Aparts,.sl 2 Q1 p.s.Shelves,.sl 2 Q2 p.s.Robots,.sl 2 Q4 p.trips,.i p.tick,.sl 1 eI p.avoid,.i p.most]),(8,.o 0),(9,.p 1 0),(10,.p 2 0),(13,.i x73),(14,.p 3 0),(15,.b x76.2),(16,.i x85.1),(17,.b x85.2),(49,.i s36.2),(81,.o 4),(82,.i (([x56.1.a,x56.1.b]:List Int).length:Int)),(83,.i s66.2),(84,.b (decide (s66.2<(([x56.1.a,x56.1.b]:List Int).length:Int)))),(85,.ep 4 1 (Int.toNat s66.2) 0),(86,.i x73),(88,.rp [.i p.s.Floor.W,.i p.s.Floor.H,.i p.s.Floor.D,.sl 1 eI p.s.Floor.Kind,.sl 1 eI p.s.Floor.Out,.sl 5 Q3 p.s.Zones,.sl 2 Q0 p.s.Aparts,.sl 2 Q1 p.s.Shelves,.sl 2 Q2 p.s.Robots,.sl 2 Q4 p.trips,.i p.tick,.sl 1 eI p.avoid,.i p.most]),(89,.agg [.rm Qf veB x50.bans,.sl 1 eLeI x50.plan]),(90,.i x73),(91,.p 2 3),(92,.i x56.1.cell),(93,.p 2 2),(94,.i x56.1.tick),(95,.agg [.i x73,.i x56.1.cell,.i x56.1.tick]),(97,.agg [.rm Qf veB x76.1.bans,.sl 1 eLeI x76.1.plan]),(98,.b x76.2),(99,.b x76.2),(100,.tup [.i x85.1,.b x85.2]),(101,.o 0),(102,.p 3 1),(103,.sl 1 eLeI x76.1.plan),(104,.i x84),(105,.i (w64 (x84+1))),(106,.tup [.i x85.1,.b x85.2]),(107,.i x85.1),(108,.b x85.2),(109,.o 0),(110,.i x85.1),(111,.agg [.rm Qf veB x76.1.bans,.sl 1 eLeI x76.1.plan])]) (H':=[(0,.val (.os 2 Kj s66.1)),(1,.box [.rm Qf veB x50.bans,.sl 1 eLeI x50.plan]),(2,.box (Xf x56.1)),(3,.box [.rm Qf veB x76.1.bans,.sl 1 eLeI x76.1.plan]),(4,.val (.os 1 eI ([x56.1.a,x56.1.b]:List Int)))]) (nl':=5) ?_ (Wk.mk' [some 0,some 1,some 2,some 6,some 3] rfl rfl ⟨⟨_,rfl,(.eq rfl)⟩,⟨_,rfl,(.eq rfl)⟩,⟨_,rfl,(.eq rfl)⟩,⟨_,rfl,(.eq rfl)⟩,⟨_,rfl,(.eq rfl)⟩,⟨_,rfl,(.eq rfl)⟩,⟨_,rfl,(.eq rfl)⟩,⟨_,rfl,(.eq rfl)⟩,⟨_,rfl,(.eq rfl)⟩,⟨_,rfl,(.eq rfl)⟩,⟨_,rfl,(.eq rfl)⟩,⟨_,rfl,(.eq rfl)⟩,⟨_,rfl,(.eq rfl)⟩,⟨_,rfl,(.eq rfl)⟩,⟨_,rfl,(.eq rfl)⟩,⟨_,rfl,(.eq rfl)⟩,⟨_,rfl,(.eq rfl)⟩,⟨_,rfl,(.eq rfl)⟩,⟨_,rfl,(.eq rfl)⟩,⟨_,rfl,(.eq rfl)⟩,⟨_,rfl,(.eq rfl)⟩,⟨_,rfl,(.eq rfl)⟩,⟨_,rfl,(.eq rfl)⟩,⟨_,rfl,(.eq rfl)⟩,⟨_,rfl,(.agg (.cons (.fz rfl rfl rfl (.om fun _=>.ro rfl)) (.cons (.fz rfl rfl rfl (.os fun _=>.cons (.ro rfl) .nil)) .nil)))⟩,⟨_,rfl,(.eq rfl)⟩,⟨_,rfl,(.eq rfl)⟩,⟨_,rfl,(.eq rfl)⟩,⟨_,rfl,(.eq rfl)⟩,⟨_,rfl,(.eq rfl)⟩,⟨_,rfl,(.fz rfl rfl rfl (.os fun _=>.cons (.ro rfl) .nil))⟩,⟨_,rfl,(.eq rfl)⟩,⟨_,rfl,(.eq rfl)⟩,⟨_,rfl,(.eq rfl)⟩,⟨_,rfl,(.eq rfl)⟩,⟨_,rfl,(.eq rfl)⟩,⟨_,rfl,(.eq rfl)⟩,⟨_,rfl,(.eq rfl)⟩,⟨_,rfl,(.agg (.cons (.fz rfl rfl rfl (.om fun _=>.ro rfl)) (.cons (.fz rfl rfl rfl (.os fun _=>.cons (.ro rfl) .nil)) .nil)))⟩,trivial⟩ ⟨vL,bX,bX,⟨_,rfl,.box rfl (.cons (.fz rfl rfl rfl (.om fun _=>.ro rfl)) (.cons (.fz rfl rfl rfl (.os fun _=>.cons (.ro rfl) .nil)) .nil))⟩,vL,trivial⟩ rfl)
 refine U.bs T Kj ([x76.1]:List Qw) ?_
 refine U.c [some 0,some 5] (XI x85.1 s66.1 ([x76.1]:List Qw) _ g) en55 fun x88 g=>?_
 refine U.pd 1 T ?_
 exact St.wa [some 8,some 1,some 2,some 4] (j80 _ g)
 refine C.skip ?_
 exact St.wa (idR 4) (j80 _ g)
 refine C.exit (C.ex (C.ex (C.bex ?_)))
 exact St.wa [some 0] (j65 _ g)
 refine D.hav1 g false (fun x56=>[(0,.rp [.i p.s.Floor.W,.i p.s.Floor.H,.i p.s.Floor.D,.sl 1 eI p.s.Floor.Kind,.sl 1 eI p.s.Floor.Out,.sl 5 Q3 p.s.Zones,.sl 2 Q0 p.s.Aparts,.sl 2 Q1 p.s.Shelves,.sl 2 Q2 p.s.Robots,.sl 2 Q4 p.trips,.i p.tick,.sl 1 eI p.avoid,.i p.most]),(8,.o 2),(9,.p 1 0),(10,.p 3 0),(49,.i s36.2),(50,.b (decide (s36.2<500))),(51,.o 0),(52,.i (s36.1.length:Int)),(53,.b ((s36.1.length:Int) == 0)),(54,.o 0),(55,.ep 0 2 (Int.toNat 0) 0),(56,.agg [.rm Qf veB x50.bans,.sl 1 eLeI x50.plan]),(57,.o 0),(58,.o 2),(59,.tup [.agg (Xf x56.1),.b x56.2]),(60,.rp [.i p.s.Floor.W,.i p.s.Floor.H,.i p.s.Floor.D,.sl 1 eI p.s.Floor.Kind,.sl 1 eI p.s.Floor.Out,.sl 5 Q3 p.s.Zones,.sl 2 Q0 p.s.Aparts,.sl 2 Q1 p.s.Shelves,.sl 2 Q2 p.s.Robots,.sl 2 Q4 p.trips,.i p.tick,.sl 1 eI p.avoid,.i p.most]),(61,.rp [.i p.s.Floor.W,.i p.s.Floor.H,.i p.s.Floor.D,.sl 1 eI p.s.Floor.Kind,.sl 1 eI p.s.Floor.Out,.sl 5 Q3 p.s.Zones,.sl 2 Q0 p.s.Aparts,.sl 2 Q1 p.s.Shelves,.sl 2 Q2 p.s.Robots,.sl 2 Q4 p.trips,.i p.tick,.sl 1 eI p.avoid,.i p.most]),(62,.rp [.i p.s.Floor.W,.i p.s.Floor.H,.i p.s.Floor.D,.sl 1 eI p.s.Floor.Kind,.sl 1 eI p.s.Floor.Out,.sl 5 Q3 p.s.Zones,.sl 2 Q0 p.s.Aparts,.sl 2 Q1 p.s.Shelves,.sl 2 Q2 p.s.Robots,.sl 2 Q4 p.trips,.i p.tick,.sl 1 eI p.avoid,.i p.most]),(63,.agg (Q9 p.s)),(64,.rp [.i p.s.Floor.W,.i p.s.Floor.H,.i p.s.Floor.D,.sl 1 eI p.s.Floor.Kind,.sl 1 eI p.s.Floor.Out,.sl 5 Q3 p.s.Zones,.sl 2 Q0 p.s.Aparts,.sl 2 Q1 p.s.Shelves,.sl 2 Q2 p.s.Robots,.sl 2 Q4 p.trips,.i p.tick,.sl 1 eI p.avoid,.i p.most]),(65,.rp [.i p.s.Floor.W,.i p.s.Floor.H,.i p.s.Floor.D,.sl 1 eI p.s.Floor.Kind,.sl 1 eI p.s.Floor.Out,.sl 5 Q3 p.s.Zones,.sl 2 Q0 p.s.Aparts,.sl 2 Q1 p.s.Shelves,.sl 2 Q2 p.s.Robots,.sl 2 Q4 p.trips,.i p.tick,.sl 1 eI p.avoid,.i p.most]),(66,.rp [.sl 2 Q4 p.trips,.i p.tick,.sl 1 eI p.avoid,.i p.most]),(67,.sl 2 Q4 p.trips),(68,.p 1 1),(69,.sl 1 eLeI x50.plan),(70,.tup [.agg (Xf x56.1),.b x56.2]),(71,.agg (Xf x56.1)),(72,.b x56.2)]) (fun x56=>[(1,.box [.rm Qf veB x50.bans,.sl 1 eLeI x50.plan]),(2,.val (.os 2 Kj (sub s36.1 1 (s36.1.length:Int)))),(3,.box [.i 0,.i 0,.i 0,.i 0])]) 4 2 #[true,true,true,true,true,true,true,true,true,true,true,true,true,true,true,false,false] (fun x56 g=>?_) fun hd55_3=>?_
 refine D.all 15 [] (by kernel_rfl) ⟨?_,trivial⟩
 refine D.ef1 rfl (.none rfl) (by exact Eff1.st T rfl rfl rfl rfl rfl rfl rfl rfl rfl rfl) rfl rfl ?_
 refine D.pq 1 [(16,[])] T ?_
 exact D.to [some 0,some 1,some 2,some 3] (hd55_4 x56 g) (by kernel_rfl) rfl rfl (.eqs rfl) ⟨bX,vL,bX,trivial⟩ rfl rfl rfl
 refine D.hav1 g false (fun x56=>[(0,.rp [.i p.s.Floor.W,.i p.s.Floor.H,.i p.s.Floor.D,.sl 1 eI p.s.Floor.Kind,.sl 1 eI p.s.Floor.Out,.sl 5 Q3 p.s.Zones,.sl 2 Q0 p.s.Aparts,.sl 2 Q1 p.s.Shelves,.sl 2 Q2 p.s.Robots,.sl 2 Q4 p.trips,.i p.tick,.sl 1 eI p.avoid,.i p.most]),(8,.o 2),(9,.p 1 0),(49,.i s36.2),(50,.b (decide (s36.2<500))),(51,.o 0),(52,.i (s36.1.length:Int)),(53,.b ((s36.1.length:Int) == 0)),(54,.o 0),(55,.ep 0 2 (Int.toNat 0) 0),(56,.agg [.rm Qf veB x50.bans,.sl 1 eLeI x50.plan]),(57,.o 0),(58,.o 2),(59,.tup [.agg (Xf x56.1),.b x56.2]),(60,.rp [.i p.s.Floor.W,.i p.s.Floor.H,.i p.s.Floor.D,.sl 1 eI p.s.Floor.Kind,.sl 1 eI p.s.Floor.Out,.sl 5 Q3 p.s.Zones,.sl 2 Q0 p.s.Aparts,.sl 2 Q1 p.s.Shelves,.sl 2 Q2 p.s.Robots,.sl 2 Q4 p.trips,.i p.tick,.sl 1 eI p.avoid,.i p.most]),(61,.rp [.i p.s.Floor.W,.i p.s.Floor.H,.i p.s.Floor.D,.sl 1 eI p.s.Floor.Kind,.sl 1 eI p.s.Floor.Out,.sl 5 Q3 p.s.Zones,.sl 2 Q0 p.s.Aparts,.sl 2 Q1 p.s.Shelves,.sl 2 Q2 p.s.Robots,.sl 2 Q4 p.trips,.i p.tick,.sl 1 eI p.avoid,.i p.most]),(62,.rp [.i p.s.Floor.W,.i p.s.Floor.H,.i p.s.Floor.D,.sl 1 eI p.s.Floor.Kind,.sl 1 eI p.s.Floor.Out,.sl 5 Q3 p.s.Zones,.sl 2 Q0 p.s.Aparts,.sl 2 Q1 p.s.Shelves,.sl 2 Q2 p.s.Robots,.sl 2 Q4 p.trips,.i p.tick,.sl 1 eI p.avoid,.i p.most]),(63,.agg (Q9 p.s)),(64,.rp [.i p.s.Floor.W,.i p.s.Floor.H,.i p.s.Floor.D,.sl 1 eI p.s.Floor.Kind,.sl 1 eI p.s.Floor.Out,.sl 5 Q3 p.s.Zones,.sl 2 Q0 p.s.Aparts,.sl 2 Q1 p.s.Shelves,.sl 2 Q2 p.s.Robots,.sl 2 Q4 p.trips,.i p.tick,.sl 1 eI p.avoid,.i p.most]),(65,.rp [.i p.s.Floor.W,.i p.s.Floor.H,.i p.s.Floor.D,.sl 1 eI p.s.Floor.Kind,.sl 1 eI p.s.Floor.Out,.sl 5 Q3 p.s.Zones,.sl 2 Q0 p.s.Aparts,.sl 2 Q1 p.s.Shelves,.sl 2 Q2 p.s.Robots,.sl 2 Q4 p.trips,.i p.tick,.sl 1 eI p.avoid,.i p.most]),(66,.rp [.sl 2 Q4 p.trips,.i p.tick,.sl 1 eI p.avoid,.i p.most]),(67,.sl 2 Q4 p.trips),(68,.p 1 1),(69,.sl 1 eLeI x50.plan),(70,.tup [.agg (Xf x56.1),.b x56.2]),(71,.agg (Xf x56.1)),(72,.b x56.2)]) (fun x56=>[(1,.box [.rm Qf veB x50.bans,.sl 1 eLeI x50.plan]),(2,.val (.os 2 Kj (sub s36.1 1 (s36.1.length:Int))))]) 3 3 #[true,true,true,true,true,true,true,true,true,true,true,true,true,true,false,false,false] (fun x56 g=>?_) fun hd55_2=>?_
 refine D.all 14 [] (by kernel_rfl) ⟨?_,trivial⟩
 refine D.ef1 rfl (.none rfl) (by exact Eff1.al T rfl rfl rfl rfl) rfl rfl ?_
 exact D.to [some 0,some 1,some 2,some 3] (hd55_3 x56 g) (by kernel_rfl) rfl rfl (.eqs rfl) ⟨bX,vL,bX,trivial⟩ rfl rfl rfl
 refine D.have false [(0,.rp [.i p.s.Floor.W,.i p.s.Floor.H,.i p.s.Floor.D,.sl 1 eI p.s.Floor.Kind,.sl 1 eI p.s.Floor.Out,.sl 5 Q3 p.s.Zones,.sl 2 Q0 p.s.Aparts,.sl 2 Q1 p.s.Shelves,.sl 2 Q2 p.s.Robots,.sl 2 Q4 p.trips,.i p.tick,.sl 1 eI p.avoid,.i p.most]),(8,.o 2),(9,.p 1 0),(10,.p 3 0),(49,.i s36.2),(50,.b (decide (s36.2<500))),(51,.o 0),(52,.i (s36.1.length:Int)),(53,.b ((s36.1.length:Int) == 0)),(54,.o 0),(55,.ep 0 2 (Int.toNat 0) 0),(56,.agg [.rm Qf veB x50.bans,.sl 1 eLeI x50.plan]),(57,.o 0),(58,.o 2),(60,.rp [.i p.s.Floor.W,.i p.s.Floor.H,.i p.s.Floor.D,.sl 1 eI p.s.Floor.Kind,.sl 1 eI p.s.Floor.Out,.sl 5 Q3 p.s.Zones,.sl 2 Q0 p.s.Aparts,.sl 2 Q1 p.s.Shelves,.sl 2 Q2 p.s.Robots,.sl 2 Q4 p.trips,.i p.tick,.sl 1 eI p.avoid,.i p.most]),(61,.rp [.i p.s.Floor.W,.i p.s.Floor.H,.i p.s.Floor.D,.sl 1 eI p.s.Floor.Kind,.sl 1 eI p.s.Floor.Out,.sl 5 Q3 p.s.Zones,.sl 2 Q0 p.s.Aparts,.sl 2 Q1 p.s.Shelves,.sl 2 Q2 p.s.Robots,.sl 2 Q4 p.trips,.i p.tick,.sl 1 eI p.avoid,.i p.most]),(62,.rp [.i p.s.Floor.W,.i p.s.Floor.H,.i p.s.Floor.D,.sl 1 eI p.s.Floor.Kind,.sl 1 eI p.s.Floor.Out,.sl 5 Q3 p.s.Zones,.sl 2 Q0 p.s.Aparts,.sl 2 Q1 p.s.Shelves,.sl 2 Q2 p.s.Robots,.sl 2 Q4 p.trips,.i p.tick,.sl 1 eI p.avoid,.i p.most]),(63,.agg (Q9 p.s)),(64,.rp [.i p.s.Floor.W,.i p.s.Floor.H,.i p.s.Floor.D,.sl 1 eI p.s.Floor.Kind,.sl 1 eI p.s.Floor.Out,.sl 5 Q3 p.s.Zones,.sl 2 Q0 p.s.Aparts,.sl 2 Q1 p.s.Shelves,.sl 2 Q2 p.s.Robots,.sl 2 Q4 p.trips,.i p.tick,.sl 1 eI p.avoid,.i p.most]),(65,.rp [.i p.s.Floor.W,.i p.s.Floor.H,.i p.s.Floor.D,.sl 1 eI p.s.Floor.Kind,.sl 1 eI p.s.Floor.Out,.sl 5 Q3 p.s.Zones,.sl 2 Q0 p.s.Aparts,.sl 2 Q1 p.s.Shelves,.sl 2 Q2 p.s.Robots,.sl 2 Q4 p.trips,.i p.tick,.sl 1 eI p.avoid,.i p.most]),(66,.rp [.sl 2 Q4 p.trips,.i p.tick,.sl 1 eI p.avoid,.i p.most]),(67,.sl 2 Q4 p.trips),(68,.p 1 1),(69,.sl 1 eLeI x50.plan)] [(1,.box [.rm Qf veB x50.bans,.sl 1 eLeI x50.plan]),(2,.val (.os 2 Kj (sub s36.1 1 (s36.1.length:Int)))),(3,.box [.i 0,.i 0,.i 0,.i 0])] 4 6 #[true,true,true,true,true,true,true,true,true,true,false,false,false,false,true,false,false] ?_ fun hd55_1=>?_
 refine D.all 10 [] (by kernel_rfl) ⟨?_,trivial⟩
 refine D.ef rfl (.none rfl) (by exact Eff.k (YT p.s p.trips x50.plan _ g) en25 rfl rfl rfl (.eq rfl) (fun _ _=>⟨(.tup (.cons (.agg (.cons (.v _) (.cons (.v _) (.cons (.v _) (.cons (.v _) .nil))))) (.cons (.v _) .nil))),trivial⟩)) rfl rfl (fun x56' g=>?_)
 obtain⟨x56⟩:=x56'
 refine D.pq 3 (zl [11,12,13]) T ?_
 exact D.to [some 0,some 1,some 2,some 3] (hd55_3 x56 g) (by kernel_rfl) rfl rfl (.eqs rfl) ⟨bX,vL,bX,trivial⟩ rfl rfl rfl
 refine D.all 10 [14] (by kernel_rfl) ⟨?_,?_,trivial⟩
 refine D.ef rfl (.none rfl) (by exact Eff.k (YT p.s p.trips x50.plan _ g) en25 rfl rfl rfl (.eq rfl) (fun _ _=>⟨(.tup (.cons (.agg (.cons (.v _) (.cons (.v _) (.cons (.v _) (.cons (.v _) .nil))))) (.cons (.v _) .nil))),trivial⟩)) rfl rfl (fun x56' g=>?_)
 obtain⟨x56⟩:=x56'
 refine D.pq 3 (zl [11,12,13]) T ?_
 exact D.to [some 0,some 1,some 2] (hd55_2 x56 g) (by kernel_rfl) rfl rfl (.eqs rfl) ⟨bX,vL,trivial⟩ rfl rfl rfl
 refine D.ef1 rfl (.none rfl) (by exact Eff1.al T rfl rfl rfl rfl) rfl rfl ?_
 exact D.tq [0,1,2,3] hd55_1
 refine C.exit (C.ex (C.ex (C.bex ?_)))
 exact St.wk (j35 _ g) (Wk.mk' [] rfl rfl trivial trivial rfl)
 refine C.block ?_
 refine St.wk (C.loop (fun (s10:List (List Int)×Int)=>[(0,.rp [.i p.s.Floor.W,.i p.s.Floor.H,.i p.s.Floor.D,.sl 1 eI p.s.Floor.Kind,.sl 1 eI p.s.Floor.Out,.sl 5 Q3 p.s.Zones,.sl 2 Q0 p.s.Aparts,.sl 2 Q1 p.s.Shelves,.sl 2 Q2 p.s.Robots,.sl 2 Q4 p.trips,.i p.tick,.sl 1 eI p.avoid,.i p.most]),(4,.p 0 0),(29,.i (p.trips.length:Int)),(30,.i s10.2)]) (fun s10=>[(0,.box [.v (.map none),.o 1]),(1,.val (.os 1 eOeI s10.1))]) g (fun s10 Y11 g=>?_)) (Wk.a [some 1,some 0])
 refine C.ss (U.pd 1 T (C.xs ?_))
 refine C.ite rfl g (fun b14 g=>?_) fun b14 g=>?_
 refine C.skip (C.xs (C.block (C.ss (U.pd 2 T (C.xt ?_)))))
 refine U.ps 2 T rfl (U.k (Wh p s10.2 [] _ g) en51 (fun x19 g=>?_))
 refine U.pd 5 T (C.xs (C.ss ?_))
 refine U.pd 2 T (C.nx ?_)
 refine C.ite rfl g (fun b22 g=>?_) fun b22 g=>?_
 refine C.ss (U.pd 2 T (C.nx (C.ret (C.rt (C.brt (C.rt (C.rt (C.brt (C.rt ?_)))))))))
 exact C.fg [] T o ⟨([],14),g,rfl,rfl,rfl⟩
 refine C.skip (C.nx (U.start (U.ps 4 T rfl ?_)))
 obtain⟨x27,y27,g⟩:=g
 refine U.r rfl (.none rfl) rfl rfl (by exact Rd.io T rfl rfl rfl rfl rfl rfl rfl y27) ?_
 refine U.e1 rfl (.none rfl) (by exact Eff1.sl0 T rfl rfl rfl (Qi y27).2.2 (fun _=>rfl) rfl rfl rfl rfl) ?_
 refine U.done (St.putb (l:=1) (l':=2) (y:=x19.1) rfl rfl rfl (fun _ h=>nomatch h) rfl _ rfl ?_)
 refine C.bnx (C.nx (U.start (U.pd 2 T (C.nx ?_))))
 exact St.wk (C.next g) (Wk.a (idR 2))
 refine C.exit (C.ex (C.ex (C.bex ?_)))
 exact St.wa (idR 2) (j9 _ g)
theorem Ym (s_1:ApiSite) (trips:List ApiTrip) (tick:Int) (avoid:List Int) (most:Int) (post:(List (List Int)×Int)→Prop) (g:KR s_1 trips tick avoid most post):
  Tr Tryz.prog 7 [.agg (Q9 s_1),.sl 2 Q4 trips,.i tick,.sl 1 eI avoid,.i most] [] 0 (fun A H' k=>∃y,post y∧A=(.tup [.sl 1 eLeI y.1,.i y.2])∧H'=[]∧k=0):=by
 refine Tr.go Tryz.func7 Tryz.ntmps7 fun _ _ _ _ o=>?_
 unfold KR at g
 refine C.ss (U.bx ?_)
 refine U.pd 2 T (C.xt ?_)
 refine U.ps 6 T rfl (U.bx ?_)
 refine U.pd 1 T (C.xs (C.block (C.seq ?_)))
 refine C.jn (fun (x5:Bool)=>[(4,.i most),(12,.p 0 0),(20,.b x5)]) (fun x5=>[(0,.box [.i s_1.Floor.W,.i s_1.Floor.H,.i s_1.Floor.D,.sl 1 eI s_1.Floor.Kind,.sl 1 eI s_1.Floor.Out,.sl 5 Q3 s_1.Zones,.sl 2 Q0 s_1.Aparts,.sl 2 Q1 s_1.Shelves,.sl 2 Q2 s_1.Robots,.sl 2 Q4 trips,.i tick,.sl 1 eI avoid,.i most])]) 1 g (fun x5 g=>?_) fun J6 g j6=>?_
 refine C.nx ?_
 refine C.ite rfl g (fun b11 g=>?_) fun b11 g=>?_
 refine C.ss (U.pd 2 T (C.nx (C.ret (C.brt (C.rt ?_)))))
 exact C.fg [] T o ⟨([],1),g,rfl,rfl,rfl⟩
 refine C.ss (U.pd 3 T (C.nx ?_))
 refine C.ite rfl g (fun b16 g=>?_) fun b16 g=>?_
 refine C.ss (U.pd 2 T (C.nx (C.ret (C.brt (C.rt ?_)))))
 exact C.fg [] T o ⟨([],27),g,rfl,rfl,rfl⟩
 refine C.ss (U.ps 1 T rfl (U.k (Yd ({s:=s_1,trips:=trips,tick:=tick,avoid:=avoid,most:=most:CbsProblem}) _ g) en20 (fun x21 g=>?_)))
 refine U.pd 1 T (C.nx ?_)
 refine C.ite rfl g (fun b22 g=>?_) fun b22 g=>?_
 refine C.ss (U.ps 1 T rfl (U.k (YU ({s:=s_1,trips:=trips,tick:=tick,avoid:=avoid,most:=most:CbsProblem}) _ g) en21 (fun x25 g=>?_)))
 refine U.pd 4 T (C.nx (C.ret (C.brt (C.rt ?_))))
 exact C.fg [] T o ⟨(x25.1,x25.2),g,rfl,rfl,rfl⟩
 refine C.skip (C.bnx (C.xt (U.ps 1 T rfl ?_)))
 refine St.wk (Γ':=[(4,.i most),(12,.rp [.i s_1.Floor.W,.i s_1.Floor.H,.i s_1.Floor.D,.sl 1 eI s_1.Floor.Kind,.sl 1 eI s_1.Floor.Out,.sl 5 Q3 s_1.Zones,.sl 2 Q0 s_1.Aparts,.sl 2 Q1 s_1.Shelves,.sl 2 Q2 s_1.Robots,.sl 2 Q4 trips,.i tick,.sl 1 eI avoid,.i most]),(20,.b x5),(37,.b (decide (most>60))),(38,.i most),(39,.b (decide (most>60))),(40,.b x21),(41,.rp [.i s_1.Floor.W,.i s_1.Floor.H,.i s_1.Floor.D,.sl 1 eI s_1.Floor.Kind,.sl 1 eI s_1.Floor.Out,.sl 5 Q3 s_1.Zones,.sl 2 Q0 s_1.Aparts,.sl 2 Q1 s_1.Shelves,.sl 2 Q2 s_1.Robots,.sl 2 Q4 trips,.i tick,.sl 1 eI avoid,.i most]),(42,.b x21),(47,.rp [.i s_1.Floor.W,.i s_1.Floor.H,.i s_1.Floor.D,.sl 1 eI s_1.Floor.Kind,.sl 1 eI s_1.Floor.Out,.sl 5 Q3 s_1.Zones,.sl 2 Q0 s_1.Aparts,.sl 2 Q1 s_1.Shelves,.sl 2 Q2 s_1.Robots,.sl 2 Q4 trips,.i tick,.sl 1 eI avoid,.i most])]) (H':=[]) (nl':=0) ?_ (Wk.mk' [] rfl rfl ⟨⟨_,rfl,(.eq rfl)⟩,⟨_,rfl,(.fzp rfl rfl rfl rfl (.eq rfl) rfl)⟩,⟨_,rfl,(.eq rfl)⟩,⟨_,rfl,(.eq rfl)⟩,⟨_,rfl,(.eq rfl)⟩,⟨_,rfl,(.eq rfl)⟩,⟨_,rfl,(.eq rfl)⟩,⟨_,rfl,(.fzp rfl rfl rfl rfl (.eq rfl) rfl)⟩,⟨_,rfl,(.eq rfl)⟩,⟨_,rfl,(.fzp rfl rfl rfl rfl (.eq rfl) rfl)⟩,trivial⟩ trivial rfl)
 refine U.e rfl (.none rfl) (by exact Eff.c [] (v:=false) (Yo ({s:=s_1,trips:=trips,tick:=tick,avoid:=avoid,most:=most:CbsProblem}) _ g) en22 rfl rfl rfl (.eq rfl) trivial rfl rfl rfl rfl rfl rfl (fun h=>by cases h) (.inr ⟨rfl,rfl⟩) (fun _=>rfl) (fun _=>rfl) rfl) (fun x29' g=>?_)
 obtain⟨x29⟩:=x29'
 refine U.pd 4 T (C.nx (C.ret ?_))
 exact C.f9 T o ⟨(x29.1,x29.2),g,rfl,rfl,rfl⟩
 refine U.start (U.ps 2 T rfl (U.k (YP s_1 trips _ g) en8 (fun x7 g=>?_)))
 refine U.ps 2 T rfl ?_
 refine g.cs (fun b8 g=>?_) fun b8 g=>?_
 refine U.pq 2 4 false 25 (ntF b8) T ?_
 refine U.pk' (ntF b8) ?_
 refine U.ps 1 T rfl ?_
 refine g.cs (fun b9 g=>?_) fun b9 g=>?_
 refine U.sk' 2 8 false 29 b9 ?_
 refine U.pk b9 ?_
 refine U.ps 1 T rfl (U.sk' 2 12 false 33 rfl ?_)
 refine U.pk rfl ?_
 refine U.pd 1 T ?_
 exact St.wa [some 1] (j6 _ g)
 refine U.pq 2 8 false 29 b9 T ?_
 refine U.pk' b9 ?_
 refine U.ps 1 T rfl ?_
 refine g.cs (fun b10 g=>?_) fun b10 g=>?_
 refine U.sk' 2 12 false 33 b10 ?_
 refine U.pk b10 ?_
 refine U.pd 1 T ?_
 exact St.wa [some 1] (j6 _ g)
 refine U.pq 2 12 false 33 b10 T ?_
 refine U.pk' b10 ?_
 refine U.pd 1 T ?_
 exact St.wa [some 1] (j6 _ g)
 refine U.sk' 2 4 false 25 (ntT b8) ?_
 refine U.pk (ntT b8) ?_
 refine U.ps 1 T rfl (U.sk' 2 8 false 29 rfl ?_)
 refine U.pk rfl ?_
 refine U.ps 1 T rfl (U.sk' 2 12 false 33 rfl ?_)
 refine U.pk rfl ?_
 refine U.pd 1 T ?_
 exact St.wa [some 1] (j6 _ g)
theorem Wi (a:List Int) (b:List Int) (post:Bool→Prop) (g:Km a b post):
  Tr Tryz.prog 14 [.sl 1 eI a,.sl 1 eI b] [] 0 (pB post):=by
 refine Tr.go Tryz.func14 Tryz.ntmps14 fun _ _ _ _ o=>?_
 unfold Km at g
 refine C.ss (U.pd 1 T (C.xs (C.ss ?_)))
 refine U.pd 5 T (C.nx ?_)
 refine C.ite rfl g (fun b5 g=>?_) fun b5 g=>?_
 refine C.ss (U.pd 1 T (C.nx (C.ret (C.rt ?_))))
 exact C.f1 T o (pBi g)
 refine C.skip (C.xs (C.ss (U.pd 1 T (C.nx ?_))))
 refine C.jn (fun (x10:Unit)=>[]) (fun x10=>[]) 0 g (fun x10 g=>?_) fun J11 g j11=>?_
 refine C.xt (U.pd 1 T (C.nx (C.ret ?_)))
 exact C.f1 T o (pBi g)
 refine C.block (St.wk (C.loop (fun (s12:Int)=>[(0,.sl 1 eI a),(1,.sl 1 eI b),(5,.i s12)]) (fun s12=>[]) g (fun s12 Y13 g=>?_)) (Wk.e))
 refine C.seq (C.ss (U.pd 4 T (C.nx ?_)))
 refine C.ite rfl g (fun b16 g=>?_) fun b16 g=>?_
 refine C.skip (C.xs (C.block (C.seq (D.bq mix 9999 [] [] (fun hQ hS ws M'=>?_)))))
 refine D.pq 2 (zl [0,1]) T ?_
 obtain⟨x19,y19,g⟩:=g
 refine D.ix 2 [] T y19 ?_
 refine D.pq 3 (zl [3,4,5]) T ?_
 obtain⟨x20,y20,g⟩:=g
 refine D.ix 6 [] T y20 ?_
 refine D.pq 2 (zl [7,8]) T ?_
 refine D.done (by kernel_rfl) ?_
 refine C.nx ?_
 refine C.ite rfl g (fun b21 g=>?_) fun b21 g=>?_
 refine C.ss (U.pd 1 T (C.nx (C.ret (C.brt (C.rt (C.rt (C.brt (C.rt ?_))))))))
 exact C.f1 T o (pBi g)
 refine C.skip (C.bnx (C.nx (U.start (U.pd 3 T (C.nx ?_)))))
 exact St.wk (C.next g) (Wk.e)
 refine C.exit (C.ex (C.ex (C.bex ?_)))
 exact St.wk (j11 _ g) (Wk.mk' [] rfl rfl trivial trivial rfl)
theorem YM (post:Bool→Prop) (g:V_taquinlaw24_small post):
  Tr Tryz.prog 5 [] [] 0 (pB post):=by
 refine Tr.go Tryz.func5 Tryz.ntmps5 fun _ _ _ _ o=>?_
 unfold V_taquinlaw24_small at g
 refine C.ss (U.pd 1 T (C.xt ?_))
 refine U.e rfl (.none rfl) (by exact Eff.c [] (v:=false) (Yp _ g) en13 rfl rfl rfl (.eq rfl) trivial rfl rfl rfl rfl rfl rfl (fun h=>by cases h) (.inr ⟨rfl,rfl⟩) (fun _=>rfl) (fun _=>rfl) rfl) (fun x5' g=>?_)
 obtain⟨x5⟩:=x5'
 refine U.al T ?_
 refine U.st T ?_
 refine U.done (C.xt (U.ps 2 T rfl (U.bs T Q4 ([({From:=0,To:=2:ApiTrip})]:List ApiTrip) ?_)))
 refine St.wk (Γ':=[(0,.b false),(1,.p 0 0),(10,.agg (Q9 x5)),(12,.agg (Q9 x5)),(13,.agg [.i 0,.i 2]),(14,.sl 2 Q4 ([({From:=0,To:=2:ApiTrip})]:List ApiTrip))]) (H':=[(0,.box (Q9 x5))]) (nl':=1) ?_ (Wk.mk' [some 6] rfl rfl ⟨⟨_,rfl,(.eq rfl)⟩,⟨_,rfl,(.eq rfl)⟩,⟨_,rfl,(.agg (.cons (.eq rfl) (.cons (.eq rfl) (.cons (.eq rfl) (.cons (.fz rfl rfl rfl (.os fun _=>.cons (.ro rfl) .nil)) (.cons (.fz rfl rfl rfl (.os fun _=>.cons (.ro rfl) .nil)) (.cons (.fz rfl rfl rfl (.os fun _=>.cons (.ro rfl) (.cons (.ro rfl) (.cons (.ro rfl) (.cons (.ro rfl) (.cons (.ro rfl) .nil)))))) (.cons (.fz rfl rfl rfl (.os fun _=>.cons (.ro rfl) (.cons (.ro rfl) .nil))) (.cons (.fz rfl rfl rfl (.os fun _=>.cons (.ro rfl) (.cons (.ro rfl) .nil))) (.cons (.fz rfl rfl rfl (.os fun _=>.cons (.ro rfl) (.cons (.ro rfl) .nil))) .nil))))))))))⟩,⟨_,rfl,(.agg (.cons (.eq rfl) (.cons (.eq rfl) (.cons (.eq rfl) (.cons (.fz rfl rfl rfl (.os fun _=>.cons (.ro rfl) .nil)) (.cons (.fz rfl rfl rfl (.os fun _=>.cons (.ro rfl) .nil)) (.cons (.fz rfl rfl rfl (.os fun _=>.cons (.ro rfl) (.cons (.ro rfl) (.cons (.ro rfl) (.cons (.ro rfl) (.cons (.ro rfl) .nil)))))) (.cons (.fz rfl rfl rfl (.os fun _=>.cons (.ro rfl) (.cons (.ro rfl) .nil))) (.cons (.fz rfl rfl rfl (.os fun _=>.cons (.ro rfl) (.cons (.ro rfl) .nil))) (.cons (.fz rfl rfl rfl (.os fun _=>.cons (.ro rfl) (.cons (.ro rfl) .nil))) .nil))))))))))⟩,⟨_,rfl,(.eq rfl)⟩,⟨_,rfl,(.fz rfl rfl rfl (.os fun _=>.cons (.ro rfl) (.cons (.ro rfl) .nil)))⟩,trivial⟩ ⟨⟨_,rfl,.box rfl (.cons (.eq rfl) (.cons (.eq rfl) (.cons (.eq rfl) (.cons (.fz rfl rfl rfl (.os fun _=>.cons (.ro rfl) .nil)) (.cons (.fz rfl rfl rfl (.os fun _=>.cons (.ro rfl) .nil)) (.cons (.fz rfl rfl rfl (.os fun _=>.cons (.ro rfl) (.cons (.ro rfl) (.cons (.ro rfl) (.cons (.ro rfl) (.cons (.ro rfl) .nil)))))) (.cons (.fz rfl rfl rfl (.os fun _=>.cons (.ro rfl) (.cons (.ro rfl) .nil))) (.cons (.fz rfl rfl rfl (.os fun _=>.cons (.ro rfl) (.cons (.ro rfl) .nil))) (.cons (.fz rfl rfl rfl (.os fun _=>.cons (.ro rfl) (.cons (.ro rfl) .nil))) .nil)))))))))⟩,trivial⟩ rfl)
 refine U.e rfl (.none rfl) (by exact Eff.c [] (v:=false) (Ym x5 ([({From:=0,To:=2:ApiTrip})]:List ApiTrip) 0 [] 20 _ g) en7 rfl rfl rfl (.cons (.eq rfl) (.cons (.eq rfl) (.cons (.eq rfl) (.cons (.nil _ _ _ _ ⟨rfl,rfl⟩) (.eq rfl))))) trivial rfl rfl rfl rfl rfl rfl (fun h=>by cases h) (.inr ⟨rfl,rfl⟩) (fun _=>rfl) (fun _=>rfl) rfl) (fun x9' g=>?_)
 obtain⟨x9⟩:=x9'
 refine U.pd 5 T (C.xt ?_)
 refine U.ps 2 T rfl (U.bs T Q4 ([({From:=0,To:=1:ApiTrip}),({From:=1,To:=0:ApiTrip})]:List ApiTrip) ?_)
 refine U.pd 1 T (C.xt ?_)
 refine U.ps 2 T rfl ?_
 refine St.wk (Γ':=[(0,.b false),(1,.p 0 0),(2,.sl 1 eLeI x9.1),(3,.i x9.2),(4,.sl 2 Q4 ([({From:=0,To:=1:ApiTrip}),({From:=1,To:=0:ApiTrip})]:List ApiTrip)),(10,.agg (Q9 x5)),(11,.tup [.sl 1 eLeI x9.1,.i x9.2]),(12,.agg (Q9 x5)),(13,.agg [.i 0,.i 2]),(14,.sl 2 Q4 ([({From:=0,To:=2:ApiTrip})]:List ApiTrip)),(15,.tup [.sl 1 eLeI x9.1,.i x9.2]),(16,.sl 1 eLeI x9.1),(17,.i x9.2),(18,.agg [.i 0,.i 1]),(19,.agg [.i 1,.i 0]),(20,.sl 2 Q4 ([({From:=0,To:=1:ApiTrip}),({From:=1,To:=0:ApiTrip})]:List ApiTrip)),(22,.agg (Q9 x5)),(23,.sl 2 Q4 ([({From:=0,To:=1:ApiTrip}),({From:=1,To:=0:ApiTrip})]:List ApiTrip))]) (H':=[(0,.box (Q9 x5))]) (nl':=1) ?_ (Wk.mk' [some 0] rfl rfl ⟨⟨_,rfl,(.eq rfl)⟩,⟨_,rfl,(.eq rfl)⟩,⟨_,rfl,(.eq rfl)⟩,⟨_,rfl,(.eq rfl)⟩,⟨_,rfl,(.fz rfl rfl rfl (.os fun _=>.cons (.ro rfl) (.cons (.ro rfl) .nil)))⟩,⟨_,rfl,(.eq rfl)⟩,⟨_,rfl,(.eq rfl)⟩,⟨_,rfl,(.eq rfl)⟩,⟨_,rfl,(.eq rfl)⟩,⟨_,rfl,(.eq rfl)⟩,⟨_,rfl,(.eq rfl)⟩,⟨_,rfl,(.eq rfl)⟩,⟨_,rfl,(.eq rfl)⟩,⟨_,rfl,(.eq rfl)⟩,⟨_,rfl,(.eq rfl)⟩,⟨_,rfl,(.fz rfl rfl rfl (.os fun _=>.cons (.ro rfl) (.cons (.ro rfl) .nil)))⟩,⟨_,rfl,(.eq rfl)⟩,⟨_,rfl,(.fz rfl rfl rfl (.os fun _=>.cons (.ro rfl) (.cons (.ro rfl) .nil)))⟩,trivial⟩ ⟨bX,trivial⟩ rfl)
 refine U.e rfl (.none rfl) (by exact Eff.c [] (v:=false) (Ym x5 ([({From:=0,To:=1:ApiTrip}),({From:=1,To:=0:ApiTrip})]:List ApiTrip) 0 [] 20 _ g) en7 rfl rfl rfl (.cons (.eq rfl) (.cons (.eq rfl) (.cons (.eq rfl) (.cons (.nil _ _ _ _ ⟨rfl,rfl⟩) (.eq rfl))))) trivial rfl rfl rfl rfl rfl rfl (fun h=>by cases h) (.inr ⟨rfl,rfl⟩) (fun _=>rfl) (fun _=>rfl) rfl) (fun x15' g=>?_)
 obtain⟨x15⟩:=x15'
 refine U.pd 5 T (C.xt ?_)
 refine U.ps 2 T rfl ?_
 refine U.e rfl (.none rfl) (by exact Eff.c [] (v:=false) (Ym x5 ([({From:=0,To:=1:ApiTrip}),({From:=1,To:=0:ApiTrip})]:List ApiTrip) 0 [] 2 _ g) en7 rfl rfl rfl (.cons (.eq rfl) (.cons (.eq rfl) (.cons (.eq rfl) (.cons (.nil _ _ _ _ ⟨rfl,rfl⟩) (.eq rfl))))) trivial rfl rfl rfl rfl rfl rfl (fun h=>by cases h) (.inr ⟨rfl,rfl⟩) (fun _=>rfl) (fun _=>rfl) rfl) (fun x18' g=>?_)
 obtain⟨x18⟩:=x18'
 refine U.pd 5 T (C.xs ?_)
 refine C.jn (fun (x19:Bool)=>[(2,.sl 1 eLeI x9.1),(3,.i x9.2),(5,.sl 1 eLeI x15.1),(6,.i x15.2),(8,.i x18.2),(9,.b x19)]) (fun x19=>[]) 0 g (fun x19 g=>?_) fun J20 g j20=>?_
 refine C.xs ?_
 refine C.jn (fun (x26:Bool)=>[(0,.b x26)]) (fun x26=>[]) 0 g (fun x26 g=>?_) fun J27 g j27=>?_
 refine C.nx (C.ret ?_)
 exact C.f1 T o (pBi g)
 refine U.start (U.ps 3 T rfl ?_)
 refine g.cs (fun b28 g=>?_) fun b28 g=>?_
 refine U.pq 1 2 true 47 b28 T ?_
 refine U.k (WI x9.1 _ g) en16 (fun x29 g=>?_) (hw:=.take 2 true 47 _ b28 rfl rfl rfl)
 refine U.pq 1 2 true 47 b28 T ?_
 refine U.pk b28 ?_
 refine U.ps 1 T rfl ?_
 refine g.cs (fun b30 g=>?_) fun b30 g=>?_
 refine U.pq 2 7 true 52 b30 T ?_
 refine U.pk b30 ?_
 refine U.ps 1 T rfl ?_
 refine g.cs (fun b31 g=>?_) fun b31 g=>?_
 refine U.pq 1 11 true 56 b31 T ?_
 refine U.k (WI x15.1 _ g) en16 (fun x32 g=>?_) (hw:=.take 11 true 56 _ b31 rfl rfl rfl)
 refine U.pq 1 11 true 56 b31 T ?_
 refine U.pk b31 ?_
 refine U.ps 1 T rfl ?_
 refine g.cs (fun b33 g=>?_) fun b33 g=>?_
 refine U.pq 2 16 true 61 b33 T ?_
 refine U.pk b33 ?_
 refine U.ps 1 T rfl ?_
 refine g.cs (fun b34 g=>?_) fun b34 g=>?_
 refine U.pq 1 20 true 65 b34 T ?_
 refine U.pk b34 ?_
 refine U.pd 1 T ?_
 exact St.wn (j27 _ g)
 refine U.sk' 1 20 true 65 b34 ?_
 refine U.pk' b34 ?_
 refine U.pd 1 T ?_
 exact St.wn (j27 _ g)
 refine U.sk' 2 16 true 61 b33 ?_
 refine U.pk' b33 ?_
 refine U.ps 1 T rfl (U.sk' 1 20 true 65 rfl ?_)
 refine U.pk' rfl ?_
 refine U.pd 1 T ?_
 exact St.wn (j27 _ g)
 refine U.sk' 3 11 true 56 b31 ?_
 refine U.pk' b31 ?_
 refine U.ps 1 T rfl (U.sk' 2 16 true 61 rfl ?_)
 refine U.pk' rfl ?_
 refine U.ps 1 T rfl (U.sk' 1 20 true 65 rfl ?_)
 refine U.pk' rfl ?_
 refine U.pd 1 T ?_
 exact St.wn (j27 _ g)
 refine U.sk' 2 7 true 52 b30 ?_
 refine U.pk' b30 ?_
 refine U.ps 1 T rfl (U.sk' 3 11 true 56 rfl ?_)
 refine U.pk' rfl ?_
 refine U.ps 1 T rfl (U.sk' 2 16 true 61 rfl ?_)
 refine U.pk' rfl ?_
 refine U.ps 1 T rfl (U.sk' 1 20 true 65 rfl ?_)
 refine U.pk' rfl ?_
 refine U.pd 1 T ?_
 exact St.wn (j27 _ g)
 refine U.sk' 3 2 true 47 b28 ?_
 refine U.pk' b28 ?_
 refine U.ps 1 T rfl (U.sk' 2 7 true 52 rfl ?_)
 refine U.pk' rfl ?_
 refine U.ps 1 T rfl (U.sk' 3 11 true 56 rfl ?_)
 refine U.pk' rfl ?_
 refine U.ps 1 T rfl (U.sk' 2 16 true 61 rfl ?_)
 refine U.pk' rfl ?_
 refine U.ps 1 T rfl (U.sk' 1 20 true 65 rfl ?_)
 refine U.pk' rfl ?_
 refine U.pd 1 T ?_
 exact St.wn (j27 _ g)
 refine U.start (U.ps 1 T rfl (U.bs T eI ([1]:List Int) ?_))
 refine U.k (Yj x5 0 ([1]:List Int) 0 _ g) en15 fun x21 g=>?_
 refine U.bs T eI ([0,1]:List Int) ?_
 refine U.k (Wi x21 ([0,1]:List Int) _ g) en14 fun x22 g=>?_
 refine U.ps 1 T rfl ?_
 refine g.cs (fun b23 g=>?_) fun b23 g=>?_
 refine U.pq 1 5 true 38 b23 T ?_
 refine U.e1 rfl (.tk 5 true 38 b23) (by exact Eff1.bs T (enc:=eI) (xs:=([1]:List Int)) rfl rfl rfl rfl rfl rfl rfl rfl rfl rfl (fun _ _=>rfl) rfl rfl) ?_
 refine U.k (Yj x5 0 ([1]:List Int) 1 _ g) en15 (fun x24 g=>?_) (hw:=.take 5 true 38 _ b23 rfl rfl rfl)
 refine U.e1 rfl (.tk 5 true 38 b23) (by exact Eff1.bs T (enc:=eI) (xs:=([1]:List Int)) rfl rfl rfl rfl rfl rfl rfl rfl rfl rfl (fun _ _=>rfl) rfl rfl) ?_
 refine U.k (Wi x24 ([1]:List Int) _ g) en14 (fun x25 g=>?_) (hw:=.take 5 true 38 _ b23 rfl rfl rfl)
 refine U.pk b23 ?_
 refine U.pd 1 T ?_
 exact St.wn (j20 _ g)
 refine U.sk' 5 5 true 38 b23 ?_
 refine U.pk' b23 ?_
 refine U.pd 1 T ?_
 exact St.wn (j20 _ g)
theorem Zc (f:ApiFloor) (n:Int) (post:Bool→Prop) (g:Xl f n post):
  Tr Tryz.prog 31 [.agg (K5 f),.i n] [] 0 (pB post):=by
 refine Tr.go Tryz.func31 Tryz.ntmps31 fun _ _ _ _ o=>?_
 unfold Xl at g
 refine C.ss (U.bx ?_)
 refine U.pd 1 T (C.xs ?_)
 refine C.jn (fun (x3:Bool)=>[(4,.b x3)]) (fun x3=>[]) 0 g (fun x3 g=>?_) fun J4 g j4=>?_
 refine C.nx (C.ret ?_)
 exact C.f1 T o (pBi g)
 refine U.start (U.ps 6 T rfl ?_)
 refine g.cs (fun b5 g=>?_) fun b5 g=>?_
 refine U.pq 5 5 true 10 b5 T ?_
 refine U.pk b5 ?_
 refine U.pd 1 T ?_
 exact St.wn (j4 _ g)
 refine U.sk' 5 5 true 10 b5 ?_
 refine U.pk' b5 ?_
 refine U.pd 1 T ?_
 exact St.wn (j4 _ g)
theorem Zl (s_1:ApiSite) (cells:Int) (most:Int) (post:Bool→Prop) (g:Xp s_1 cells most post):
  Tr Tryz.prog 17 [.agg (Q9 s_1),.i cells,.i most] [] 0 (pB post):=by
 refine Tr.go Tryz.func17 Tryz.ntmps17 fun _ _ _ _ o=>?_
 unfold Xp at g
 refine C.ss (U.bx ?_)
 refine U.pd 1 T (C.xs (C.ss ?_))
 refine U.pd 1 T (C.nx ?_)
 refine C.jn (fun (x5:Unit)=>[(1,.i cells),(2,.i most),(3,.p 0 0)]) (fun x5=>[(0,.box (Q9 s_1))]) 1 g (fun x5 g=>?_) fun J6 g j6=>?_
 refine C.xs (C.ss (U.pd 1 T (C.nx ?_)))
 refine C.jn (fun (x25:Unit)=>[(1,.i cells),(2,.i most),(3,.p 0 0)]) (fun x25=>[(0,.box (Q9 s_1))]) 1 g (fun x25 g=>?_) fun J26 g j26=>?_
 refine C.xs (C.ss (U.pd 1 T (C.nx ?_)))
 refine C.jn (fun (x44:Unit)=>[(1,.i cells),(2,.i most),(3,.p 0 0)]) (fun x44=>[(0,.box (Q9 s_1))]) 1 g (fun x44 g=>?_) fun J45 g j45=>?_
 refine C.xs ?_
 refine C.jn (fun (x60:Bool)=>[(6,.b x60)]) (fun x60=>[]) 0 g (fun x60 g=>?_) fun J61 g j61=>?_
 refine C.nx (C.ret ?_)
 exact C.f1 T o (pBi g)
 refine U.start (U.ps 3 T rfl (U.k (Zc s_1.Floor cells _ g) en31 (fun x62 g=>?_)))
 refine U.ps 1 T rfl ?_
 refine g.cs (fun b63 g=>?_) fun b63 g=>?_
 refine U.pq 5 4 true 105 b63 T ?_
 refine U.pk b63 ?_
 refine U.ps 1 T rfl ?_
 refine g.cs (fun b64 g=>?_) fun b64 g=>?_
 refine U.pq 5 11 true 112 b64 T ?_
 refine U.pk b64 ?_
 refine U.ps 1 T rfl ?_
 refine g.cs (fun b65 g=>?_) fun b65 g=>?_
 refine U.pq 5 18 true 119 b65 T ?_
 refine U.pk b65 ?_
 refine U.ps 1 T rfl ?_
 refine g.cs (fun b66 g=>?_) fun b66 g=>?_
 refine U.pq 5 25 true 126 b66 T ?_
 refine U.pk b66 ?_
 refine U.pd 1 T ?_
 exact St.wn (j61 _ g)
 refine U.sk' 5 25 true 126 b66 ?_
 refine U.pk' b66 ?_
 refine U.pd 1 T ?_
 exact St.wn (j61 _ g)
 refine U.sk' 5 18 true 119 b65 ?_
 refine U.pk' b65 ?_
 refine U.ps 1 T rfl (U.sk' 5 25 true 126 rfl ?_)
 refine U.pk' rfl ?_
 refine U.pd 1 T ?_
 exact St.wn (j61 _ g)
 refine U.sk' 5 11 true 112 b64 ?_
 refine U.pk' b64 ?_
 refine U.ps 1 T rfl (U.sk' 5 18 true 119 rfl ?_)
 refine U.pk' rfl ?_
 refine U.ps 1 T rfl (U.sk' 5 25 true 126 rfl ?_)
 refine U.pk' rfl ?_
 refine U.pd 1 T ?_
 exact St.wn (j61 _ g)
 refine U.sk' 5 4 true 105 b63 ?_
 refine U.pk' b63 ?_
 refine U.ps 1 T rfl (U.sk' 5 11 true 112 rfl ?_)
 refine U.pk' rfl ?_
 refine U.ps 1 T rfl (U.sk' 5 18 true 119 rfl ?_)
 refine U.pk' rfl ?_
 refine U.ps 1 T rfl (U.sk' 5 25 true 126 rfl ?_)
 refine U.pk' rfl ?_
 refine U.pd 1 T ?_
 exact St.wn (j61 _ g)
 refine C.block (St.wk (C.loop (fun (s46:Int)=>[(1,.i cells),(2,.i most),(3,.p 0 0),(9,.i s46)]) (fun s46=>[(0,.box (Q9 s_1))]) g (fun s46 Y47 g=>?_)) (Wk.a [some 0]))
 refine C.seq (C.seq ?_)
 refine C.jn (fun (x48:Bool)=>[(1,.i cells),(2,.i most),(3,.p 0 0),(9,.i s46),(90,.b x48)]) (fun x48=>[(0,.box (Q9 s_1))]) 1 g (fun x48 g=>?_) fun J49 g j49=>?_
 refine C.nx ?_
 refine C.ite rfl g (fun b51 g=>?_) fun b51 g=>?_
 refine C.skip (C.xs (C.block (C.ss (U.ps 3 T rfl ?_))))
 obtain⟨x54,y54,g⟩:=g
 refine U.ix T y54 ?_
 refine U.pd 4 T (C.nx ?_)
 refine C.ite rfl g (fun b55 g=>?_) fun b55 g=>?_
 refine C.ss (U.pd 1 T (C.nx (C.ret (C.brt (C.rt (C.rt (C.brt (C.rt ?_))))))))
 exact C.f1 T o (pBi g)
 refine C.skip (C.bnx (C.nx (U.start (U.pd 3 T (C.nx ?_)))))
 exact St.wk (C.next g) (Wk.a [some 0])
 refine C.exit (C.ex (C.ex (C.bex ?_)))
 exact St.wa [some 0] (j45 _ g)
 refine U.start (U.ps 6 T rfl ?_)
 refine g.cs (fun b50 g=>?_) fun b50 g=>?_
 refine U.pq 3 5 true 86 b50 T ?_
 refine U.pk b50 ?_
 refine U.done ?_
 exact St.wa [some 0] (j49 _ g)
 refine U.sk' 3 5 true 86 b50 ?_
 refine U.pk' b50 ?_
 refine U.done ?_
 exact St.wa [some 0] (j49 _ g)
 refine C.block (St.wk (C.loop (fun (s27:Int)=>[(1,.i cells),(2,.i most),(3,.p 0 0),(8,.i s27)]) (fun s27=>[(0,.box (Q9 s_1))]) g (fun s27 Y28 g=>?_)) (Wk.a [some 0]))
 refine C.seq (C.seq ?_)
 refine C.jn (fun (x29:Bool)=>[(1,.i cells),(2,.i most),(3,.p 0 0),(8,.i s27),(60,.b x29)]) (fun x29=>[(0,.box (Q9 s_1))]) 1 g (fun x29 g=>?_) fun J30 g j30=>?_
 refine C.nx ?_
 refine C.ite rfl g (fun b32 g=>?_) fun b32 g=>?_
 refine C.skip (C.xs (C.block (C.seq ?_)))
 refine C.jn (fun (x33:Bool)=>[(1,.i cells),(2,.i most),(3,.p 0 0),(8,.i s27),(80,.b x33)]) (fun x33=>[(0,.box (Q9 s_1))]) 1 g (fun x33 g=>?_) fun J34 g j34=>?_
 refine C.nx ?_
 refine C.ite rfl g (fun b37 g=>?_) fun b37 g=>?_
 refine C.ss (U.pd 1 T (C.nx (C.ret (C.brt (C.rt (C.rt (C.brt (C.rt ?_))))))))
 exact C.f1 T o (pBi g)
 refine C.skip (C.bnx (C.nx (U.start (U.pd 3 T (C.nx ?_)))))
 exact St.wk (C.next g) (Wk.a [some 0])
 refine U.start (U.ps 3 T rfl ?_)
 obtain⟨x35,y35,g⟩:=g
 refine U.ix T y35 ?_
 refine U.ps 5 T rfl ?_
 refine g.cs (fun b36 g=>?_) fun b36 g=>?_
 refine U.sk' 8 8 false 71 b36 ?_
 refine U.pk b36 ?_
 refine U.done ?_
 exact St.wa [some 0] (j34 _ g)
 refine U.pq 3 8 false 71 b36 T ?_
 refine U.r rfl (.tk 8 false 71 b36) rfl rfl (by exact Rd.ix T rfl rfl rfl rfl rfl rfl y35) ?_
 refine U.pq 4 8 false 71 b36 T ?_
 refine U.pk' b36 ?_
 refine U.done ?_
 exact St.wa [some 0] (j34 _ g)
 refine C.exit (C.ex (C.ex (C.bex ?_)))
 exact St.wa [some 0] (j26 _ g)
 refine U.start (U.ps 6 T rfl ?_)
 refine g.cs (fun b31 g=>?_) fun b31 g=>?_
 refine U.pq 3 5 true 56 b31 T ?_
 refine U.pk b31 ?_
 refine U.done ?_
 exact St.wa [some 0] (j30 _ g)
 refine U.sk' 3 5 true 56 b31 ?_
 refine U.pk' b31 ?_
 refine U.done ?_
 exact St.wa [some 0] (j30 _ g)
 refine C.block (St.wk (C.loop (fun (s7:Int)=>[(1,.i cells),(2,.i most),(3,.p 0 0),(7,.i s7)]) (fun s7=>[(0,.box (Q9 s_1))]) g (fun s7 Y8 g=>?_)) (Wk.a [some 0]))
 refine C.seq (C.seq ?_)
 refine C.jn (fun (x9:Bool)=>[(1,.i cells),(2,.i most),(3,.p 0 0),(7,.i s7),(19,.b x9)]) (fun x9=>[(0,.box (Q9 s_1))]) 1 g (fun x9 g=>?_) fun J10 g j10=>?_
 refine C.nx ?_
 refine C.ite rfl g (fun b12 g=>?_) fun b12 g=>?_
 refine C.skip (C.xs (C.block (C.seq ?_)))
 refine C.jn (fun (x13:Bool)=>[(1,.i cells),(2,.i most),(3,.p 0 0),(7,.i s7),(50,.b x13)]) (fun x13=>[(0,.box (Q9 s_1))]) 1 g (fun x13 g=>?_) fun J14 g j14=>?_
 refine C.nx ?_
 refine C.ite rfl g (fun b18 g=>?_) fun b18 g=>?_
 refine C.ss (U.pd 1 T (C.nx (C.ret (C.brt (C.rt (C.rt (C.brt (C.rt ?_))))))))
 exact C.f1 T o (pBi g)
 refine C.skip (C.bnx (C.nx (U.start (U.pd 3 T (C.nx ?_)))))
 exact St.wk (C.next g) (Wk.a [some 0])
 refine U.start (U.ps 3 T rfl ?_)
 obtain⟨x15,y15,g⟩:=g
 refine U.ix T y15 ?_
 refine U.ps 6 T rfl ?_
 refine g.cs (fun b16 g=>?_) fun b16 g=>?_
 refine U.sk' 8 9 false 31 b16 ?_
 refine U.pk b16 ?_
 refine U.ps 1 T rfl (U.sk' 8 19 false 41 rfl ?_)
 refine U.pk rfl ?_
 refine U.done ?_
 exact St.wa [some 0] (j14 _ g)
 refine U.pq 3 9 false 31 b16 T ?_
 refine U.r rfl (.tk 9 false 31 b16) rfl rfl (by exact Rd.ix T rfl rfl rfl rfl rfl rfl y15) ?_
 refine U.pq 4 9 false 31 b16 T ?_
 refine U.pk' b16 ?_
 refine U.ps 1 T rfl ?_
 refine g.cs (fun b17 g=>?_) fun b17 g=>?_
 refine U.sk' 8 19 false 41 b17 ?_
 refine U.pk b17 ?_
 refine U.done ?_
 exact St.wa [some 0] (j14 _ g)
 refine U.pq 3 19 false 41 b17 T ?_
 refine U.r rfl (.tk 19 false 41 b17) rfl rfl (by exact Rd.ix T rfl rfl rfl rfl rfl rfl y15) ?_
 refine U.pq 4 19 false 41 b17 T ?_
 refine U.pk' b17 ?_
 refine U.done ?_
 exact St.wa [some 0] (j14 _ g)
 refine C.exit (C.ex (C.ex (C.bex ?_)))
 exact St.wa [some 0] (j6 _ g)
 refine U.start (U.ps 6 T rfl ?_)
 refine g.cs (fun b11 g=>?_) fun b11 g=>?_
 refine U.pq 3 5 true 15 b11 T ?_
 refine U.pk b11 ?_
 refine U.done ?_
 exact St.wa [some 0] (j10 _ g)
 refine U.sk' 3 5 true 15 b11 ?_
 refine U.pk' b11 ?_
 refine U.done ?_
 exact St.wa [some 0] (j10 _ g)
theorem Q1h (f:ApiFloor) (post:Bool→Prop) (g:Gp f post):
  Tr Tryz.prog 32 [.agg (K5 f)] [] 0 (pB post):=by
 refine Tr.go Tryz.func32 Tryz.ntmps32 fun _ _ _ _ o=>?_
 unfold Gp at g
 refine C.ss (U.bx ?_)
 refine U.pd 1 T (C.xs (C.seq ?_))
 refine C.jn (fun (x3:Bool)=>[(1,.p 0 0),(26,.b x3)]) (fun x3=>[(0,.box (K5 f))]) 1 g (fun x3 g=>?_) fun J4 g j4=>?_
 refine C.nx ?_
 refine C.ite rfl g (fun b7 g=>?_) fun b7 g=>?_
 refine C.ss (U.pd 1 T (C.nx (C.ret (C.rt ?_))))
 exact C.f1 T o (pBi g)
 refine C.skip (C.xt (U.ps 1 T rfl (U.k (ZK f _ g) en84 (fun x12 g=>?_))))
 refine U.pd 1 T (C.xs (C.seq ?_))
 refine C.jn (fun (x13:Bool)=>[(1,.p 0 0),(44,.b x13)]) (fun x13=>[(0,.box (K5 f))]) 1 g (fun x13 g=>?_) fun J14 g j14=>?_
 refine C.nx ?_
 refine C.ite rfl g (fun b17 g=>?_) fun b17 g=>?_
 refine C.ss (U.pd 1 T (C.nx (C.ret (C.rt ?_))))
 exact C.f1 T o (pBi g)
 refine C.skip (C.xs (C.ss (U.pd 4 T (C.nx ?_))))
 refine C.jn (fun (x22:Unit)=>[]) (fun x22=>[]) 0 g (fun x22 g=>?_) fun J23 g j23=>?_
 refine C.xt (U.pd 1 T (C.nx (C.ret ?_)))
 exact C.f1 T o (pBi g)
 refine C.block (St.wk (C.loop (fun (s24:Int)=>[(1,.p 0 0),(46,.sl 1 eI f.Kind),(47,.i (f.Kind.length:Int)),(48,.i s24)]) (fun s24=>[(0,.box (K5 f))]) g (fun s24 Y25 g=>?_)) (Wk.a [some 0]))
 refine C.ss (U.pd 1 T (C.xs ?_))
 refine C.ite rfl g (fun b28 g=>?_) fun b28 g=>?_
 refine C.skip (C.xs (C.block (C.ss (U.ps 1 T rfl ?_))))
 obtain⟨x31,y31,g⟩:=g
 refine U.ix T y31 ?_
 refine U.pd 3 T (C.xs ?_)
 refine C.jn (fun (x32:Bool)=>[(1,.p 0 0),(46,.sl 1 eI f.Kind),(47,.i (f.Kind.length:Int)),(48,.i s24),(74,.b x32)]) (fun x32=>[(0,.box (K5 f))]) 1 g (fun x32 g=>?_) fun J33 g j33=>?_
 refine C.nx ?_
 refine C.ite rfl g (fun b38 g=>?_) fun b38 g=>?_
 refine C.ss (U.pd 1 T (C.nx (C.ret (C.brt (C.rt (C.rt (C.brt (C.rt ?_))))))))
 exact C.f1 T o (pBi g)
 refine C.skip (C.bnx (C.nx (U.start (U.pd 2 T (C.nx ?_)))))
 exact St.wk (C.next g) (Wk.a [some 0])
 refine U.start (U.ps 3 T rfl ?_)
 refine g.cs (fun b34 g=>?_) fun b34 g=>?_
 refine U.sk' 2 2 false 55 b34 ?_
 refine U.pk b34 ?_
 refine U.ps 1 T rfl (U.sk' 6 6 false 59 rfl ?_)
 refine U.pk rfl ?_
 refine U.ps 1 T rfl (U.sk' 6 14 false 67 rfl ?_)
 refine U.pk rfl ?_
 refine U.done ?_
 exact St.wa [some 0] (j33 _ g)
 refine U.pq 2 2 false 55 b34 T ?_
 refine U.pk' b34 ?_
 refine U.ps 1 T rfl ?_
 refine g.cs (fun b35 g=>?_) fun b35 g=>?_
 refine U.sk' 6 6 false 59 b35 ?_
 refine U.pk b35 ?_
 refine U.ps 1 T rfl (U.sk' 6 14 false 67 rfl ?_)
 refine U.pk rfl ?_
 refine U.done ?_
 exact St.wa [some 0] (j33 _ g)
 refine U.pq 3 6 false 59 b35 T ?_
 obtain⟨x36,y36,g⟩:=g
 refine U.r rfl (.tk 6 false 59 b35) rfl rfl (by exact Rd.ix T rfl rfl rfl rfl rfl rfl y36) ?_
 refine U.pq 2 6 false 59 b35 T ?_
 refine U.pk' b35 ?_
 refine U.ps 1 T rfl ?_
 refine g.cs (fun b37 g=>?_) fun b37 g=>?_
 refine U.sk' 6 14 false 67 b37 ?_
 refine U.pk b37 ?_
 refine U.done ?_
 exact St.wa [some 0] (j33 _ g)
 refine U.pq 3 14 false 67 b37 T ?_
 refine U.r rfl (.tk 14 false 67 b37) rfl rfl (by exact Rd.ix T rfl rfl rfl rfl rfl rfl y36) ?_
 refine U.pq 2 14 false 67 b37 T ?_
 refine U.pk' b37 ?_
 refine U.done ?_
 exact St.wa [some 0] (j33 _ g)
 refine C.exit (C.ex (C.ex (C.bex ?_)))
 exact St.wk (j23 _ g) (Wk.mk' [] rfl rfl trivial trivial rfl)
 refine U.start (U.ps 3 T rfl ?_)
 refine g.cs (fun b15 g=>?_) fun b15 g=>?_
 refine U.sk' 5 2 false 31 b15 ?_
 refine U.pk b15 ?_
 refine U.ps 1 T rfl (U.sk' 5 9 false 38 rfl ?_)
 refine U.pk rfl ?_
 refine U.done ?_
 exact St.wa [some 0] (j14 _ g)
 refine U.pq 5 2 false 31 b15 T ?_
 refine U.pk' b15 ?_
 refine U.ps 1 T rfl ?_
 refine g.cs (fun b16 g=>?_) fun b16 g=>?_
 refine U.sk' 5 9 false 38 b16 ?_
 refine U.pk b16 ?_
 refine U.done ?_
 exact St.wa [some 0] (j14 _ g)
 refine U.pq 5 9 false 38 b16 T ?_
 refine U.pk' b16 ?_
 refine U.done ?_
 exact St.wa [some 0] (j14 _ g)
 refine U.start (U.ps 9 T rfl ?_)
 refine g.cs (fun b5 g=>?_) fun b5 g=>?_
 refine U.sk' 3 8 false 14 b5 ?_
 refine U.pk b5 ?_
 refine U.ps 1 T rfl (U.sk' 6 13 false 19 rfl ?_)
 refine U.pk rfl ?_
 refine U.done ?_
 exact St.wa [some 0] (j4 _ g)
 refine U.pq 3 8 false 14 b5 T ?_
 refine U.pk' b5 ?_
 refine U.ps 1 T rfl ?_
 refine g.cs (fun b6 g=>?_) fun b6 g=>?_
 refine U.sk' 6 13 false 19 b6 ?_
 refine U.pk b6 ?_
 refine U.done ?_
 exact St.wa [some 0] (j4 _ g)
 refine U.pq 6 13 false 19 b6 T ?_
 refine U.pk' b6 ?_
 refine U.done ?_
 exact St.wa [some 0] (j4 _ g)
theorem Zu (f:ApiFloor) (post:SurveyMaker→Prop) (g:XV f post):
  Tr Tryz.prog 33 [.agg (K5 f)] [] 0 (fun A H' k=>∃y,post y∧A=(.p 11 0)∧H'=[(0,.val (.os 5 Q3 y.site.Zones)),(1,.val (.os 2 Q0 y.site.Aparts)),(2,.val (.os 2 Q1 y.site.Shelves)),(3,.val (.os 2 Q2 y.site.Robots)),(4,.val (.om kI veI y.shelf)),(5,.val (.om kI veB y.robot)),(6,.val (.om kI veB y.zoned)),(7,.val (.om kS veI y.names)),(8,.val (.om kI veB y.oneways)),(9,.val (.os 1 eI y.shelves)),(10,.val (.os 1 eI y.zones)),(11,.box [.i y.site.Floor.W,.i y.site.Floor.H,.i y.site.Floor.D,.sl 1 eI y.site.Floor.Kind,.sl 1 eI y.site.Floor.Out,.o 0,.o 1,.o 2,.o 3,.o 4,.o 5,.o 6,.o 7,.o 8,.o 9,.o 10])]∧k=12):=by
 refine Tr.go Tryz.func33 Tryz.ntmps33 fun _ _ _ _ o=>?_
 unfold XV at g
 refine C.ss (U.bx ?_)
 refine U.pd 1 T (C.xt ?_)
 refine U.ps 2 T rfl (U.e1 rfl (.none rfl) (by exact Eff1.mm kI veI rfl rfl rfl) ?_)
 refine U.e1 rfl (.none rfl) (by exact Eff1.mm kI veB rfl rfl rfl) ?_
 refine U.e1 rfl (.none rfl) (by exact Eff1.mm kI veB rfl rfl rfl) ?_
 refine U.e1 rfl (.none rfl) (by exact Eff1.mm kS veI rfl rfl rfl) ?_
 refine U.e1 rfl (.none rfl) (by exact Eff1.mm kI veB rfl rfl rfl) ?_
 refine U.ps 1 T rfl (U.bx ?_)
 refine U.pd 1 T (C.nx (C.ret ?_))
 exact C.g1 [none,none,none,none,some 1,some 2,some 3,some 4,some 5,none,none,some 6] T o ⟨({site:=({Floor:=f,Zones:=[],Aparts:=[],Shelves:=[],Robots:=[]:ApiSite}),shelf:=([]:List (Int×Int)),robot:=([]:List (Int×Bool)),zoned:=([]:List (Int×Bool)),names:=([]:List (ByteArray×Int)),oneways:=([]:List (Int×Bool)),shelves:=[],zones:=[]:SurveyMaker}),g,rfl,rfl,rfl⟩
def Q6v:Go.Shelf.Ren:=⟨fun | 137=>85 | 217=>140 | 266=>185 | n=>n,fun | 3=>3 | 5=>5 | 9=>9 | n=>n,fun n=>n⟩
theorem Q6D:Go.Proofs.Lays.n137 Tryz.prog Q6v where
 mixed:=by kernel_rfl
 f137:=Tryz.func85.trans (congrArg some (by kernel_rfl))
 f217:=Tryz.func140.trans (congrArg some (by kernel_rfl))
 f266:=Tryz.func185.trans (congrArg some (by kernel_rfl))
 t3:=Tryz.underlying3
 a3:=Tryz.isAgg3
 z3:=Tryz.sizeOf3
 v3:=Tryz.zeroValue3
 t5:=Tryz.underlying5
 a5:=Tryz.isAgg5
 z5:=Tryz.sizeOf5
 v5:=Tryz.zeroValue5
 t9:=Tryz.underlying9
 a9:=Tryz.isAgg9
 z9:=Tryz.sizeOf9
 v9:=Tryz.zeroValue9
theorem YK (s_1:ByteArray) (c:Int) (post:Int→Prop) (g:W5 s_1 c post):
  Tr Tryz.prog 85 [.v (.string s_1),.v (.int .u8 c)] [] 0 (pI post):=Tr.indexByte Q6D s_1 c g
theorem GM (s_1:ByteArray) (post:Bool→Prop) (g:KP s_1 post):
  Tr Tryz.prog 34 [.v (.string s_1)] [] 0 (pB post):=by
 refine Tr.go Tryz.func34 Tryz.ntmps34 fun _ _ _ _ o=>?_
 unfold KP at g
 refine C.ss (U.pd 1 T (C.xs (C.seq ?_)))
 refine C.jn (fun (x3:Bool)=>[(0,.v (.string s_1)),(21,.b x3)]) (fun x3=>[]) 0 g (fun x3 g=>?_) fun J4 g j4=>?_
 refine C.nx ?_
 refine C.ite rfl g (fun b9 g=>?_) fun b9 g=>?_
 refine C.ss (U.pd 1 T (C.nx (C.ret (C.rt ?_))))
 exact C.f1 T o (pBi g)
 refine C.skip (C.xs (C.ss (U.pd 3 T (C.nx ?_))))
 refine C.jn (fun (x14:Unit)=>[]) (fun x14=>[]) 0 g (fun x14 g=>?_) fun J15 g j15=>?_
 refine C.xt (U.pd 1 T (C.nx (C.ret ?_)))
 exact C.f1 T o (pBi g)
 refine C.block (St.wk (C.loop (fun (s16:Int)=>[(0,.v (.string s_1)),(23,.i (s_1.size:Int)),(24,.i s16)]) (fun s16=>[]) g (fun s16 Y17 g=>?_)) (Wk.e))
 refine C.ss (U.pd 1 T (C.xs ?_))
 refine C.ite rfl g (fun b20 g=>?_) fun b20 g=>?_
 refine C.skip (C.xs (C.block (C.ss (U.pd 2 T (C.xt ?_)))))
 refine U.ps 2 T rfl ?_
 obtain⟨x25,y25,g⟩:=g
 refine U.r rfl (.none rfl) rfl rfl (by exact Rd.ib T rfl rfl rfl rfl y25) ?_
 refine U.k (YK (ByteArray.mk #[97,98,99,100,101,102,103,104,105,106,107,108,109,110,111,112,113,114,115,116,117,118,119,120,121,122,65,66,67,68,69,70,71,72,73,74,75,76,77,78,79,80,81,82,83,84,85,86,87,88,89,90,48,49,50,51,52,53,54,55,56,57,95,45]) (x25.toNat:Int) _ g) en85 fun x26 g=>?_
 refine U.pd 1 T (C.nx ?_)
 refine C.ite rfl g (fun b27 g=>?_) fun b27 g=>?_
 refine C.ss (U.pd 1 T (C.nx (C.ret (C.brt (C.rt (C.rt (C.brt (C.rt ?_))))))))
 exact C.f1 T o (pBi g)
 refine C.skip (C.bnx (C.nx (U.start (U.pd 2 T (C.nx ?_)))))
 exact St.wk (C.next g) (Wk.e)
 refine C.exit (C.ex (C.ex (C.bex ?_)))
 exact St.wk (j15 _ g) (Wk.mk' [] rfl rfl trivial trivial rfl)
 refine U.start (U.ps 4 T rfl ?_)
 refine g.cs (fun b5 g=>?_) fun b5 g=>?_
 refine U.sk' 3 3 false 7 b5 ?_
 refine U.pk b5 ?_
 refine U.ps 1 T rfl (U.sk' 4 8 false 12 rfl ?_)
 refine U.sku 3 12 true 16 rfl rfl rfl ?_
 refine U.sk' 1 8 false 12 rfl ?_
 refine U.pk rfl ?_
 refine U.done ?_
 exact St.wn (j4 _ g)
 refine U.pq 3 3 false 7 b5 T ?_
 refine U.pk' b5 ?_
 refine U.ps 1 T rfl ?_
 refine g.cs (fun b6 g=>?_) fun b6 g=>?_
 refine U.sk' 4 8 false 12 b6 ?_
 refine U.sku 3 12 true 16 rfl rfl rfl ?_
 refine U.sk' 1 8 false 12 b6 ?_
 refine U.pk b6 ?_
 refine U.done ?_
 exact St.wn (j4 _ g)
 refine U.pq 1 8 false 12 b6 T ?_
 obtain⟨x7,y7,g⟩:=g
 refine U.r rfl (.tk 8 false 12 b6) rfl rfl (by exact Rd.ib T rfl rfl rfl rfl y7) ?_
 refine U.pq 2 8 false 12 b6 T ?_
 refine g.cs (fun b8 g=>?_) fun b8 g=>?_
 refine U.pq 1 12 true 16 b8 T ?_
 refine U.r rfl (.tk 12 true 16 b8) rfl rfl (by exact Rd.ib T rfl rfl rfl rfl y7) ?_
 refine U.pq 1 12 true 16 b8 T ?_
 refine U.r rfl (.tk 8 false 12 b6) rfl rfl (by exact Rd.pk rfl rfl b8 rfl) ?_
 refine U.pk' b6 ?_
 refine U.done ?_
 exact St.wn (j4 _ g)
 refine U.sk' 3 12 true 16 b8 ?_
 refine U.r rfl (.tk 8 false 12 b6) rfl rfl (by exact Rd.pk' rfl rfl b8 rfl) ?_
 refine U.pk' b6 ?_
 refine U.done ?_
 exact St.wn (j4 _ g)
theorem Yb (n:Int) (from_1:Int) (to_1:Int) (post:Bool→Prop) (g:Xn n from_1 to_1 post):
  Tr Tryz.prog 35 [.i n,.i from_1,.i to_1] [] 0 (pB post):=by
 refine Tr.go Tryz.func35 Tryz.ntmps35 fun _ _ _ _ o=>?_
 unfold Xn at g
 refine C.ss (U.pd 1 T (C.xs ?_))
 refine C.jn (fun (x3:Bool)=>[(6,.b x3)]) (fun x3=>[]) 0 g (fun x3 g=>?_) fun J4 g j4=>?_
 refine C.nx (C.ret ?_)
 exact C.f1 T o (pBi g)
 refine U.start (U.ps 4 T rfl ?_)
 refine g.cs (fun b5 g=>?_) fun b5 g=>?_
 refine U.pq 3 3 true 10 b5 T ?_
 refine U.pk b5 ?_
 refine U.pd 1 T ?_
 exact St.wn (j4 _ g)
 refine U.sk' 3 3 true 10 b5 ?_
 refine U.pk' b5 ?_
 refine U.pd 1 T ?_
 exact St.wn (j4 _ g)
theorem Q1f (l:List QF) (post:Bool→Prop) (g:Gj l post):
  Tr Tryz.prog 36 [.sl 2 X7 l] [] 0 (pB post):=by
 refine Tr.go Tryz.func36 Tryz.ntmps36 fun _ _ _ _ o=>?_
 unfold Gj at g
 refine C.ss (U.pd 1 T (C.xt ?_))
 refine U.pd 1 T (C.xs (C.ss ?_))
 refine U.pd 3 T (C.nx ?_)
 refine C.jn (fun (x7:Unit)=>[]) (fun x7=>[]) 0 g (fun x7 g=>?_) fun J8 g j8=>?_
 refine C.xt (U.pd 1 T (C.nx (C.ret ?_)))
 exact C.f1 T o (pBi g)
 refine C.block (St.wk (C.loop (fun (s9:Int×Int)=>[(3,.i s9.1),(6,.sl 2 X7 l),(7,.i (l.length:Int)),(8,.i s9.2)]) (fun s9=>[]) g (fun s9 Y10 g=>?_)) (Wk.e))
 refine C.ss (U.pd 1 T (C.xs ?_))
 refine C.ite rfl g (fun b13 g=>?_) fun b13 g=>?_
 refine C.skip (C.xs (C.block (C.ss ?_)))
 obtain⟨x16,y16,g⟩:=g
 refine U.ix T y16 ?_
 refine U.ps 1 T rfl (U.al T ?_)
 refine U.st T ?_
 refine U.done (C.xs (C.seq ?_))
 refine C.jn (fun (x17:Bool)=>[(5,.p 0 0),(6,.sl 2 X7 l),(7,.i (l.length:Int)),(8,.i s9.2),(27,.b x17)]) (fun x17=>[(0,.box [.i x16.From,.i x16.To])]) 1 g (fun x17 g=>?_) fun J18 g j18=>?_
 refine C.nx ?_
 refine C.ite rfl g (fun b21 g=>?_) fun b21 g=>?_
 refine C.ss (U.pd 1 T (C.nx (C.ret (C.rt (C.brt (C.rt (C.rt (C.brt (C.rt ?_)))))))))
 exact C.f1 T o (pBi g)
 refine C.skip (C.nx (U.start (U.pd 3 T (C.bnx (C.nx (U.start ?_))))))
 refine U.pd 2 T (C.nx ?_)
 exact St.wk (C.next g) (Wk.e)
 refine U.start (U.ps 5 T rfl ?_)
 refine g.cs (fun b19 g=>?_) fun b19 g=>?_
 refine U.sk' 5 4 false 16 b19 ?_
 refine U.pk b19 ?_
 refine U.ps 1 T rfl (U.sk' 3 11 false 23 rfl ?_)
 refine U.pk rfl ?_
 refine U.done ?_
 exact St.wa [some 0] (j18 _ g)
 refine U.pq 5 4 false 16 b19 T ?_
 refine U.pk' b19 ?_
 refine U.ps 1 T rfl ?_
 refine g.cs (fun b20 g=>?_) fun b20 g=>?_
 refine U.sk' 3 11 false 23 b20 ?_
 refine U.pk b20 ?_
 refine U.done ?_
 exact St.wa [some 0] (j18 _ g)
 refine U.pq 3 11 false 23 b20 T ?_
 refine U.pk' b20 ?_
 refine U.done ?_
 exact St.wa [some 0] (j18 _ g)
 refine C.exit (C.ex (C.ex (C.bex ?_)))
 exact St.wk (j8 _ g) (Wk.mk' [] rfl rfl trivial trivial rfl)
theorem X8 (m:SurveyMaker) (c:Int) (post:(Int×Bool)→Prop) (g:QO m c post):
  Tr Tryz.prog 86 [.rp [.i m.site.Floor.W,.i m.site.Floor.H,.i m.site.Floor.D,.sl 1 eI m.site.Floor.Kind,.sl 1 eI m.site.Floor.Out,.sl 5 Q3 m.site.Zones,.sl 2 Q0 m.site.Aparts,.sl 2 Q1 m.site.Shelves,.sl 2 Q2 m.site.Robots,.rm kI veI m.shelf,.rm kI veB m.robot,.rm kI veB m.zoned,.rm kS veI m.names,.rm kI veB m.oneways,.sl 1 eI m.shelves,.sl 1 eI m.zones],.i c] [] 0 (fun A H' k=>∃y,post y∧A=(.tup [.i y.1,.b y.2])∧H'=[]∧k=0):=by
 refine Tr.go Tryz.func86 Tryz.ntmps86 fun _ _ _ _ o=>?_
 unfold QO at g
 refine C.ss (U.pd 2 T (C.xs (C.seq ?_)))
 refine C.jn (fun (x3:Bool)=>[(0,.rp [.i m.site.Floor.W,.i m.site.Floor.H,.i m.site.Floor.D,.sl 1 eI m.site.Floor.Kind,.sl 1 eI m.site.Floor.Out,.sl 5 Q3 m.site.Zones,.sl 2 Q0 m.site.Aparts,.sl 2 Q1 m.site.Shelves,.sl 2 Q2 m.site.Robots,.rm kI veI m.shelf,.rm kI veB m.robot,.rm kI veB m.zoned,.rm kS veI m.names,.rm kI veB m.oneways,.sl 1 eI m.shelves,.sl 1 eI m.zones]),(1,.i c),(18,.b x3)]) (fun x3=>[]) 0 g (fun x3 g=>?_) fun J4 g j4=>?_
 refine C.nx ?_
 refine C.ite rfl g (fun b6 g=>?_) fun b6 g=>?_
 refine C.ss (U.pd 2 T (C.nx (C.ret (C.rt ?_))))
 exact C.f9 T o ⟨(0,false),g,rfl,rfl,rfl⟩
 refine C.skip (C.xt (U.ps 7 T rfl ?_))
 obtain⟨x11,y11,g⟩:=g
 refine U.ix T y11 ?_
 refine U.pd 3 T (C.nx (C.ret ?_))
 exact C.f9 T o ⟨(x11,true),g,rfl,rfl,rfl⟩
 refine U.start (U.ps 3 T rfl ?_)
 refine g.cs (fun b5 g=>?_) fun b5 g=>?_
 refine U.sk' 9 2 false 8 b5 ?_
 refine U.pk b5 ?_
 refine U.done ?_
 exact St.wn (j4 _ g)
 refine U.pq 9 2 false 8 b5 T ?_
 refine U.pk' b5 ?_
 refine U.done ?_
 exact St.wn (j4 _ g)
theorem Yq (m:SurveyMaker) (l:List Int) (post:Bool→Prop) (g:KM m l post):
  Tr Tryz.prog 37 [.rp [.i m.site.Floor.W,.i m.site.Floor.H,.i m.site.Floor.D,.sl 1 eI m.site.Floor.Kind,.sl 1 eI m.site.Floor.Out,.sl 5 Q3 m.site.Zones,.sl 2 Q0 m.site.Aparts,.sl 2 Q1 m.site.Shelves,.sl 2 Q2 m.site.Robots,.rm kI veI m.shelf,.rm kI veB m.robot,.rm kI veB m.zoned,.rm kS veI m.names,.rm kI veB m.oneways,.sl 1 eI m.shelves,.sl 1 eI m.zones],.sl 1 eI l] [] 0 (pB post):=by
 refine Tr.go Tryz.func37 Tryz.ntmps37 fun _ _ _ _ o=>?_
 unfold KM at g
 refine C.ss (U.pd 1 T (C.xs (C.ss ?_)))
 refine U.pd 3 T (C.nx ?_)
 refine C.jn (fun (x5:Unit)=>[(1,.sl 1 eI l)]) (fun x5=>[]) 0 g (fun x5 g=>?_) fun J6 g j6=>?_
 refine C.xt (U.pd 4 T (C.nx (C.ret ?_)))
 exact C.f1 T o (pBi g)
 refine C.block ?_
 refine St.wk (C.loop (fun (s7:Int)=>[(0,.rp [.i m.site.Floor.W,.i m.site.Floor.H,.i m.site.Floor.D,.sl 1 eI m.site.Floor.Kind,.sl 1 eI m.site.Floor.Out,.sl 5 Q3 m.site.Zones,.sl 2 Q0 m.site.Aparts,.sl 2 Q1 m.site.Shelves,.sl 2 Q2 m.site.Robots,.rm kI veI m.shelf,.rm kI veB m.robot,.rm kI veB m.zoned,.rm kS veI m.names,.rm kI veB m.oneways,.sl 1 eI m.shelves,.sl 1 eI m.zones]),(1,.sl 1 eI l),(9,.sl 1 eI l),(10,.i (l.length:Int)),(11,.i s7)]) (fun s7=>[]) g (fun s7 Y8 g=>?_)) (Wk.e)
 refine C.ss (U.pd 1 T (C.xs ?_))
 refine C.ite rfl g (fun b11 g=>?_) fun b11 g=>?_
 refine C.skip (C.xs (C.block (C.ss (U.ps 1 T rfl ?_))))
 obtain⟨x14,y14,g⟩:=g
 refine U.ix T y14 ?_
 refine U.pd 3 T (C.xt ?_)
 refine U.ps 2 T rfl (U.k (X8 m x14 _ g) en86 (fun x17 g=>?_))
 refine U.pd 5 T (C.xs ?_)
 refine C.jn (fun (x18:Bool)=>[(0,.rp [.i m.site.Floor.W,.i m.site.Floor.H,.i m.site.Floor.D,.sl 1 eI m.site.Floor.Kind,.sl 1 eI m.site.Floor.Out,.sl 5 Q3 m.site.Zones,.sl 2 Q0 m.site.Aparts,.sl 2 Q1 m.site.Shelves,.sl 2 Q2 m.site.Robots,.rm kI veI m.shelf,.rm kI veB m.robot,.rm kI veB m.zoned,.rm kS veI m.names,.rm kI veB m.oneways,.sl 1 eI m.shelves,.sl 1 eI m.zones]),(1,.sl 1 eI l),(9,.sl 1 eI l),(10,.i (l.length:Int)),(11,.i s7),(36,.b x18)]) (fun x18=>[]) 0 g (fun x18 g=>?_) fun J19 g j19=>?_
 refine C.nx ?_
 refine C.ite rfl g (fun b23 g=>?_) fun b23 g=>?_
 refine C.ss (U.pd 1 T (C.nx (C.ret (C.brt (C.rt (C.rt (C.brt (C.rt ?_))))))))
 exact C.f1 T o (pBi g)
 refine C.skip (C.bnx (C.nx (U.start (U.pd 2 T (C.nx ?_)))))
 exact St.wk (C.next g) (Wk.e)
 refine U.start (U.ps 3 T rfl ?_)
 refine g.cs (fun b20 g=>?_) fun b20 g=>?_
 refine U.pq 3 2 false 24 (ntF b20) T ?_
 refine g.cs (fun b21 g=>?_) fun b21 g=>?_
 refine U.pq 3 5 true 27 b21 T ?_
 obtain⟨x22,y22,g⟩:=g
 refine U.r rfl (.tk 5 true 27 b21) rfl rfl (by exact Rd.ix T rfl rfl rfl rfl rfl rfl y22) ?_
 refine U.pq 3 5 true 27 b21 T ?_
 refine U.r rfl (.tk 2 false 24 (ntF b20)) rfl rfl (by exact Rd.pk rfl rfl b21 rfl) ?_
 refine U.pk' (ntF b20) ?_
 refine U.done ?_
 exact St.wn (j19 _ g)
 refine U.sk' 7 5 true 27 b21 ?_
 refine U.r rfl (.tk 2 false 24 (ntF b20)) rfl rfl (by exact Rd.pk' rfl rfl b21 rfl) ?_
 refine U.pk' (ntF b20) ?_
 refine U.done ?_
 exact St.wn (j19 _ g)
 refine U.sk' 3 2 false 24 (ntT b20) ?_
 refine U.sku 7 5 true 27 rfl rfl rfl ?_
 refine U.sk' 1 2 false 24 (ntT b20) ?_
 refine U.pk (ntT b20) ?_
 refine U.done ?_
 exact St.wn (j19 _ g)
 refine C.exit (C.ex (C.ex (C.bex ?_)))
 exact St.wn (j6 _ g)
theorem Q0Q (kind:Int) (post:Bool→Prop) (g:G7 kind post):
  Tr Tryz.prog 87 [.i kind] [] 0 (pB post):=by
 refine Tr.go Tryz.func87 Tryz.ntmps87 fun _ _ _ _ o=>?_
 unfold G7 at g
 refine C.ss (U.pd 1 T (C.xs ?_))
 refine C.jn (fun (x3:Bool)=>[(2,.b x3)]) (fun x3=>[]) 0 g (fun x3 g=>?_) fun J4 g j4=>?_
 refine C.nx (C.ret ?_)
 exact C.f1 T o (pBi g)
 refine U.start (U.ps 3 T rfl ?_)
 refine g.cs (fun b5 g=>?_) fun b5 g=>?_
 refine U.pq 2 2 true 5 b5 T ?_
 refine U.pk b5 ?_
 refine U.ps 1 T rfl ?_
 refine g.cs (fun b6 g=>?_) fun b6 g=>?_
 refine U.pq 2 6 true 9 b6 T ?_
 refine U.pk b6 ?_
 refine U.pd 1 T ?_
 exact St.wn (j4 _ g)
 refine U.sk' 2 6 true 9 b6 ?_
 refine U.pk' b6 ?_
 refine U.pd 1 T ?_
 exact St.wn (j4 _ g)
 refine U.sk' 2 2 true 5 b5 ?_
 refine U.pk' b5 ?_
 refine U.ps 1 T rfl (U.sk' 2 6 true 9 rfl ?_)
 refine U.pk' rfl ?_
 refine U.pd 1 T ?_
 exact St.wn (j4 _ g)
theorem Wa (z:Qx) (m:SurveyMaker) (post:(Int×SurveyMaker)→Prop) (g:K7 z m post):
  Tr Tryz.prog 38 [.p 0 0,.agg (Q3 z)] [(0,.box [.i m.site.Floor.W,.i m.site.Floor.H,.i m.site.Floor.D,.sl 1 eI m.site.Floor.Kind,.sl 1 eI m.site.Floor.Out,.o 1,.o 2,.o 3,.o 4,.o 5,.o 6,.o 7,.o 8,.o 9,.o 10,.o 11]),(1,.val (.os 5 Q3 m.site.Zones)),(2,.val (.os 2 Q0 m.site.Aparts)),(3,.val (.os 2 Q1 m.site.Shelves)),(4,.val (.os 2 Q2 m.site.Robots)),(5,.val (.om kI veI m.shelf)),(6,.val (.om kI veB m.robot)),(7,.val (.om kI veB m.zoned)),(8,.val (.om kS veI m.names)),(9,.val (.om kI veB m.oneways)),(10,.val (.os 1 eI m.shelves)),(11,.val (.os 1 eI m.zones))] 12 (fun A H' k=>∃y,post y∧A=(.i y.1)∧H'=[(0,.box [.i y.2.site.Floor.W,.i y.2.site.Floor.H,.i y.2.site.Floor.D,.sl 1 eI y.2.site.Floor.Kind,.sl 1 eI y.2.site.Floor.Out,.o 12,.o 13,.o 14,.o 15,.o 16,.o 17,.o 18,.o 19,.o 20,.o 21,.o 22]),(12,.val (.os 5 Q3 y.2.site.Zones)),(13,.val (.os 2 Q0 y.2.site.Aparts)),(14,.val (.os 2 Q1 y.2.site.Shelves)),(15,.val (.os 2 Q2 y.2.site.Robots)),(16,.val (.om kI veI y.2.shelf)),(17,.val (.om kI veB y.2.robot)),(18,.val (.om kI veB y.2.zoned)),(19,.val (.om kS veI y.2.names)),(20,.val (.om kI veB y.2.oneways)),(21,.val (.os 1 eI y.2.shelves)),(22,.val (.os 1 eI y.2.zones))]∧k=23):=by
 refine Tr.go Tryz.func38 Tryz.ntmps38 fun _ _ _ _ o=>?_
 unfold K7 at g
 refine C.ss (U.bx ?_)
 refine U.pd 1 T (C.xs (C.seq ?_))
 refine D.bq mix 9999 [0,8,12] [] (fun hQ hS ws M'=>?_)
 refine D.pq 6 (zl [0,1,2,3,4,5]) T ?_
 refine D.q 6 [] hQ hS rfl (.none rfl) rfl rfl (by exact Rd.lk2 T (ke:=kS) (ve:=veI) (xs:=m.names) (z0:=0) (x:=z.Name) rfl rfl kt9 zt3 (fun _=>rfl) rfl (.o rfl) rfl rfl rfl) rfl (by kernel_rfl) ?_
 refine D.pq 5 (zl [7,8,9,10,11]) T ?_
 refine D.done (by kernel_rfl) ?_
 refine C.xt (U.pd 1 T (C.nx ?_))
 refine C.ite rfl g (fun b7 g=>?_) fun b7 g=>?_
 refine C.ss (U.pd 1 T (C.nx (C.ret (C.rt ?_))))
 exact C.g1 [some 0,some 1,some 2,some 3,some 4,some 5,some 6,some 7,some 8,some 9,some 10,some 11,some 1,some 2,some 3,some 4,some 5,some 6,some 7,some 8,some 9,some 10,some 11] T o ⟨(5,m),g,rfl,rfl,rfl⟩
 refine C.skip (C.xs (C.ss (U.pd 7 T (C.nx ?_))))
 refine C.ite rfl g (fun b12 g=>?_) fun b12 g=>?_
 refine C.ss (U.pd 1 T (C.nx (C.ret (C.rt ?_))))
 exact C.g1 [some 0,some 1,some 2,some 3,some 4,some 5,some 6,some 7,some 8,some 9,some 10,some 11,some 1,some 2,some 3,some 4,some 5,some 6,some 7,some 8,some 9,some 10,some 11] T o ⟨(6,m),g,rfl,rfl,rfl⟩
 refine C.skip (C.xs (C.ss (U.pd 4 T (C.nx ?_))))
 refine C.jn (fun (x17:Unit)=>[(0,.p 0 0),(3,.p 12 0)]) (fun x17=>[(0,.box [.i m.site.Floor.W,.i m.site.Floor.H,.i m.site.Floor.D,.sl 1 eI m.site.Floor.Kind,.sl 1 eI m.site.Floor.Out,.o 1,.o 2,.o 3,.o 4,.o 5,.o 6,.o 7,.o 8,.o 9,.o 10,.o 11]),(1,.val (.os 5 Q3 m.site.Zones)),(2,.val (.os 2 Q0 m.site.Aparts)),(3,.val (.os 2 Q1 m.site.Shelves)),(4,.val (.os 2 Q2 m.site.Robots)),(5,.val (.om kI veI m.shelf)),(6,.val (.om kI veB m.robot)),(7,.val (.om kI veB m.zoned)),(8,.val (.om kS veI m.names)),(9,.val (.om kI veB m.oneways)),(10,.val (.os 1 eI m.shelves)),(11,.val (.os 1 eI m.zones)),(12,.box (Q3 z))]) 13 g (fun x17 g=>?_) fun J18 g j18=>?_
 refine C.xs (C.ss (U.pd 4 T (C.nx ?_)))
 refine C.jn (fun (x41:List (Int×Bool))=>[(0,.p 0 0),(3,.p 12 0)]) (fun x41=>[(0,.box [.i m.site.Floor.W,.i m.site.Floor.H,.i m.site.Floor.D,.sl 1 eI m.site.Floor.Kind,.sl 1 eI m.site.Floor.Out,.o 1,.o 2,.o 3,.o 4,.o 5,.o 6,.o 7,.o 8,.o 9,.o 10,.o 11]),(1,.val (.os 5 Q3 m.site.Zones)),(2,.val (.os 2 Q0 m.site.Aparts)),(3,.val (.os 2 Q1 m.site.Shelves)),(4,.val (.os 2 Q2 m.site.Robots)),(5,.val (.om kI veI m.shelf)),(6,.val (.om kI veB m.robot)),(7,.val (.om kI veB x41)),(8,.val (.om kS veI m.names)),(9,.val (.om kI veB m.oneways)),(10,.val (.os 1 eI m.shelves)),(11,.val (.os 1 eI m.zones)),(12,.box (Q3 z))]) 13 g (fun x41 g=>?_) fun J42 g j42=>?_
 refine C.xs (D.bq mix 12 [0,12] [] (fun hQ hS ws M'=>?_))
 refine D.pq 12 (zl [0,1,2,3,4,5,6,7,8,9,10,11]) T ?_
 refine D.ze1 rfl (.none rfl) (by exact Eff1.mu T (x:=z.Name) (y:=(m.site.Zones.length:Int)) (.inl rfl) rfl kt9 (fun _=>rfl) rfl rfl rfl rfl rfl (.inl rfl) rfl) (by kernel_rfl) (by kernel_rfl) ?_
 refine C.xs (D.bq mix 12 [0,12] [1] (fun hQ hS ws M'=>?_))
 refine D.pq 7 (zl [0,1,2,3,4,5,6]) T ?_
 refine D.e1 7 rfl (.none rfl) (by exact Eff1.bs T (enc:=Q3) (xs:=([z]:List Qx)) rfl rfl rfl rfl rfl rfl rfl rfl rfl rfl (fun _ _=>rfl) rfl rfl) (by kernel_rfl) rfl rfl ?_
 obtain⟨y59,g⟩:=g
 refine D.e1 8 rfl (.none rfl) (by exact Eff1.ap T rfl rfl rfl rfl rfl rfl (.inr ⟨_,rfl,rfl⟩) rfl rfl rfl (fun _=>rfl) rfl y59) (by kernel_rfl) rfl rfl ?_
 refine D.pq 3 [(9,[11,10]),(10,[11]),(11,[])] T ?_
 refine D.ze1 rfl (.none rfl) (by exact Eff1.st T rfl rfl rfl rfl rfl rfl rfl rfl rfl rfl) (by kernel_rfl) (by kernel_rfl) ?_
 refine C.xt (U.pd 1 T (C.nx (C.ret ?_)))
 exact C.g1 [some 0,some 1,some 2,some 3,some 4,some 5,some 6,some 7,some 8,some 9,some 10,some 11,some 14,some 2,some 3,some 4,some 5,some 6,some 7,some 8,some 9,some 10,some 11] T o ⟨(0,({site:=({Floor:=m.site.Floor,Zones:=(m.site.Zones++([z]:List Qx)),Aparts:=m.site.Aparts,Shelves:=m.site.Shelves,Robots:=m.site.Robots:ApiSite}),shelf:=m.shelf,robot:=m.robot,zoned:=x41,names:=(upd m.names z.Name (m.site.Zones.length:Int)),oneways:=m.oneways,shelves:=m.shelves,zones:=m.zones:SurveyMaker})),g,rfl,rfl,rfl⟩
 refine C.block ?_
 refine St.wk (C.loop (fun (s43:List (Int×Bool)×Int)=>[(0,.p 0 0),(3,.p 12 0),(57,.sl 1 eI z.Cells),(58,.i (z.Cells.length:Int)),(59,.i s43.2)]) (fun s43=>[(0,.box [.i m.site.Floor.W,.i m.site.Floor.H,.i m.site.Floor.D,.sl 1 eI m.site.Floor.Kind,.sl 1 eI m.site.Floor.Out,.o 1,.o 2,.o 3,.o 4,.o 5,.o 6,.o 7,.o 8,.o 9,.o 10,.o 11]),(1,.val (.os 5 Q3 m.site.Zones)),(2,.val (.os 2 Q0 m.site.Aparts)),(3,.val (.os 2 Q1 m.site.Shelves)),(4,.val (.os 2 Q2 m.site.Robots)),(5,.val (.om kI veI m.shelf)),(6,.val (.om kI veB m.robot)),(7,.val (.om kI veB s43.1)),(8,.val (.om kS veI m.names)),(9,.val (.om kI veB m.oneways)),(10,.val (.os 1 eI m.shelves)),(11,.val (.os 1 eI m.zones)),(12,.box (Q3 z))]) g (fun s43 Y44 g=>?_)) (Wk.a (idR 13))
 refine C.ss (U.pd 1 T (C.xs ?_))
 refine C.ite rfl g (fun b47 g=>?_) fun b47 g=>?_
 refine C.skip (C.xs (C.block (C.ss ?_)))
 obtain⟨x50,y50,g⟩:=g
 refine U.ix T y50 ?_
 refine U.pd 2 T (C.nx (U.start ?_))
 refine U.ps 5 T rfl (U.e1 rfl (.none rfl) (by exact Eff1.mu T (x:=x50) (y:=true) (.inl rfl) rfl kt3 (fun _=>rfl) rfl rfl rfl rfl rfl (.inl rfl) rfl) ?_)
 refine U.done (C.bnx (C.nx (U.start (U.pd 2 T (C.nx ?_)))))
 exact St.wk (C.next g) (Wk.a (idR 13))
 refine C.exit (C.ex (C.ex (C.bex ?_)))
 exact St.wa (idR 13) (j42 _ g)
 refine C.block ?_
 refine St.wk (C.loop (fun (s19:Int)=>[(0,.p 0 0),(3,.p 12 0),(32,.sl 1 eI z.Cells),(33,.i (z.Cells.length:Int)),(34,.i s19)]) (fun s19=>[(0,.box [.i m.site.Floor.W,.i m.site.Floor.H,.i m.site.Floor.D,.sl 1 eI m.site.Floor.Kind,.sl 1 eI m.site.Floor.Out,.o 1,.o 2,.o 3,.o 4,.o 5,.o 6,.o 7,.o 8,.o 9,.o 10,.o 11]),(1,.val (.os 5 Q3 m.site.Zones)),(2,.val (.os 2 Q0 m.site.Aparts)),(3,.val (.os 2 Q1 m.site.Shelves)),(4,.val (.os 2 Q2 m.site.Robots)),(5,.val (.om kI veI m.shelf)),(6,.val (.om kI veB m.robot)),(7,.val (.om kI veB m.zoned)),(8,.val (.om kS veI m.names)),(9,.val (.om kI veB m.oneways)),(10,.val (.os 1 eI m.shelves)),(11,.val (.os 1 eI m.zones)),(12,.box (Q3 z))]) g (fun s19 Y20 g=>?_)) (Wk.a (idR 13))
 refine C.ss (U.pd 1 T (C.xs ?_))
 refine C.ite rfl g (fun b23 g=>?_) fun b23 g=>?_
 refine C.skip (C.xs (C.block (C.ss ?_)))
 obtain⟨x26,y26,g⟩:=g
 refine U.ix T y26 ?_
 refine U.pd 2 T (C.xt ?_)
 refine U.ps 2 T rfl (U.k (X8 m x26 _ g) en86 (fun x29 g=>?_))
 refine U.pd 5 T (C.xs ?_)
 refine C.jn (fun (x30:Bool)=>[(0,.p 0 0),(3,.p 12 0),(32,.sl 1 eI z.Cells),(33,.i (z.Cells.length:Int)),(34,.i s19),(54,.b x30)]) (fun x30=>[(0,.box [.i m.site.Floor.W,.i m.site.Floor.H,.i m.site.Floor.D,.sl 1 eI m.site.Floor.Kind,.sl 1 eI m.site.Floor.Out,.o 1,.o 2,.o 3,.o 4,.o 5,.o 6,.o 7,.o 8,.o 9,.o 10,.o 11]),(1,.val (.os 5 Q3 m.site.Zones)),(2,.val (.os 2 Q0 m.site.Aparts)),(3,.val (.os 2 Q1 m.site.Shelves)),(4,.val (.os 2 Q2 m.site.Robots)),(5,.val (.om kI veI m.shelf)),(6,.val (.om kI veB m.robot)),(7,.val (.om kI veB m.zoned)),(8,.val (.om kS veI m.names)),(9,.val (.om kI veB m.oneways)),(10,.val (.os 1 eI m.shelves)),(11,.val (.os 1 eI m.zones)),(12,.box (Q3 z))]) 13 g (fun x30 g=>?_) fun J31 g j31=>?_
 refine C.nx ?_
 refine C.ite rfl g (fun b34 g=>?_) fun b34 g=>?_
 refine C.ss (U.pd 1 T (C.nx (C.ret (C.brt (C.rt (C.rt (C.brt (C.rt ?_))))))))
 exact C.g1 [some 0,some 1,some 2,some 3,some 4,some 5,some 6,some 7,some 8,some 9,some 10,some 11,some 1,some 2,some 3,some 4,some 5,some 6,some 7,some 8,some 9,some 10,some 11] T o ⟨(13,m),g,rfl,rfl,rfl⟩
 refine C.skip (C.bnx (C.nx (U.start (U.pd 2 T (C.nx ?_)))))
 exact St.wk (C.next g) (Wk.a (idR 13))
 refine U.start (U.ps 1 T rfl (U.k (Q0Q x29.1 _ g) en87 (fun x32 g=>?_)))
 refine U.ps 2 T rfl ?_
 refine g.cs (fun b33 g=>?_) fun b33 g=>?_
 refine U.pq 5 3 false 47 (ntF b33) T ?_
 refine U.r rfl (.tk 3 false 47 (ntF b33)) rfl rfl (by exact Rd.lk T (ke:=kI) (ve:=veB) (xs:=m.zoned) (z0:=false) (x:=x26) rfl rfl kt3 zt4 (fun _=>rfl) rfl (.o rfl) rfl rfl rfl) ?_
 refine U.pk' (ntF b33) ?_
 refine U.done ?_
 exact St.wa (idR 13) (j31 _ g)
 refine U.sk' 6 3 false 47 (ntT b33) ?_
 refine U.pk (ntT b33) ?_
 refine U.done ?_
 exact St.wa (idR 13) (j31 _ g)
 refine C.exit (C.ex (C.ex (C.bex ?_)))
 exact St.wa (idR 13) (j18 _ g)
theorem Gi (s_1:List Qk) (v:Qk) (post:Int→Prop) (g:QT s_1 v post):
  Tr Tryz.prog 186 [.sl 2 Q0 s_1,.agg [.v (.string v.A),.v (.string v.B)]] [] 0 (pI post):=by
 refine Tr.go Tryz.func186 Tryz.ntmps186 fun _ _ _ _ o=>?_
 unfold QT at g
 refine C.ss (U.bx ?_)
 refine U.pd 1 T (C.xs (C.ss ?_))
 refine U.pd 3 T (C.nx ?_)
 refine C.jn (fun (x5:Unit)=>[]) (fun x5=>[]) 0 g (fun x5 g=>?_) fun J6 g j6=>?_
 refine C.xt (U.pd 1 T (C.nx (C.ret ?_)))
 exact C.f1 T o (pIi g)
 refine C.block (St.wk (C.loop (fun (s7:Int)=>[(0,.sl 2 Q0 s_1),(3,.p 0 0),(7,.i (s_1.length:Int)),(8,.i s7)]) (fun s7=>[(0,.box [.v (.string v.A),.v (.string v.B)])]) g (fun s7 Y8 g=>?_)) (Wk.a [some 0]))
 refine C.ss (U.pd 1 T (C.xs ?_))
 refine C.ite rfl g (fun b11 g=>?_) fun b11 g=>?_
 refine C.skip (C.xs (C.block (C.ss (U.pd 2 T (C.xs ?_)))))
 refine D.bq mix 9999 [0] [] (fun hQ hS ws M'=>?_)
 refine D.pq 3 (zl [0,1,2]) T ?_
 obtain⟨x16,y16,g⟩:=g
 refine D.ix 3 [] T y16 ?_
 refine D.pq 1 [(4,[])] T ?_
 refine D.q 5 [] hQ hS rfl (.none rfl) rfl rfl (by exact Rd.eqs T rfl rfl Q6G rfl rfl rfl) rfl (by kernel_rfl) ?_
 refine D.done (by kernel_rfl) ?_
 refine C.nx ?_
 refine C.ite rfl g (fun b17 g=>?_) fun b17 g=>?_
 refine C.ss (U.pd 2 T (C.nx (C.ret (C.brt (C.rt (C.rt (C.brt (C.rt ?_))))))))
 exact C.f1 T o (pIi g)
 refine C.skip (C.bnx (C.nx (U.start (U.pd 2 T (C.nx ?_)))))
 exact St.wk (C.next g) (Wk.a [some 0])
 refine C.exit (C.ex (C.ex (C.bex ?_)))
 exact St.wk (j6 _ g) (Wk.mk' [] rfl rfl trivial trivial rfl)
theorem KK (s_1:List Qk) (v:Qk) (post:Bool→Prop) (g:Qt s_1 v post):
  Tr Tryz.prog 141 [.sl 2 Q0 s_1,.agg [.v (.string v.A),.v (.string v.B)]] [] 0 (pB post):=by
 refine Tr.go Tryz.func141 Tryz.ntmps141 fun _ _ _ _ o=>?_
 unfold Qt at g
 refine C.ss (U.bx ?_)
 refine U.pd 1 T (C.xt ?_)
 refine U.ps 2 T rfl (U.k (Gi s_1 v _ g) Q6E (fun x5 g=>?_))
 refine U.pd 2 T (C.nx (C.ret ?_))
 exact C.f1 T o (pBi g)
theorem YC (l:List Qk) (a:ByteArray) (b:ByteArray) (post:Bool→Prop) (g:XD l a b post):
  Tr Tryz.prog 88 [.sl 2 Q0 l,.v (.string a),.v (.string b)] [] 0 (pB post):=by
 refine Tr.go Tryz.func88 Tryz.ntmps88 fun _ _ _ _ o=>?_
 unfold XD at g
 refine C.ss (U.pd 1 T (C.xs (C.seq ?_)))
 refine C.jn (fun (x3:Bool)=>[(0,.sl 2 Q0 l),(1,.v (.string a)),(2,.v (.string b)),(12,.b x3)]) (fun x3=>[]) 0 g (fun x3 g=>?_) fun J4 g j4=>?_
 refine C.nx ?_
 refine C.ite rfl g (fun b6 g=>?_) fun b6 g=>?_
 refine C.ss (U.pd 1 T (C.nx (C.ret (C.rt ?_))))
 exact C.f1 T o (pBi g)
 refine C.skip (C.xs ?_)
 refine C.jn (fun (x9:Bool)=>[(6,.b x9)]) (fun x9=>[]) 0 g (fun x9 g=>?_) fun J10 g j10=>?_
 refine C.nx (C.ret ?_)
 exact C.f1 T o (pBi g)
 refine U.start (U.ps 4 T rfl (U.k (KK l ({A:=a,B:=b:Qk}) _ g) Q5Q (fun x11 g=>?_)))
 refine U.ps 1 T rfl ?_
 refine g.cs (fun b12 g=>?_) fun b12 g=>?_
 refine U.sk' 5 5 false 18 b12 ?_
 refine U.pk b12 ?_
 refine U.pd 1 T ?_
 exact St.wn (j10 _ g)
 refine U.pq 4 5 false 18 b12 T ?_
 refine U.k (KK l ({A:=b,B:=a:Qk}) _ g) Q5Q (fun x13 g=>?_) (hw:=.take 5 false 18 _ b12 rfl rfl rfl)
 refine U.pk' b12 ?_
 refine U.pd 1 T ?_
 exact St.wn (j10 _ g)
 refine U.start (U.ps 3 T rfl ?_)
 refine g.cs (fun b5 g=>?_) fun b5 g=>?_
 refine U.sk' 2 2 false 9 b5 ?_
 refine U.pk b5 ?_
 refine U.done ?_
 exact St.wn (j4 _ g)
 refine U.pq 2 2 false 9 b5 T ?_
 refine U.pk' b5 ?_
 refine U.done ?_
 exact St.wn (j4 _ g)
theorem W6 (x_1:Qk) (m:SurveyMaker) (post:(Int×SurveyMaker)→Prop) (g:K4 x_1 m post):
  Tr Tryz.prog 39 [.p 0 0,.agg [.v (.string x_1.A),.v (.string x_1.B)]] [(0,.box [.i m.site.Floor.W,.i m.site.Floor.H,.i m.site.Floor.D,.sl 1 eI m.site.Floor.Kind,.sl 1 eI m.site.Floor.Out,.o 1,.o 2,.o 3,.o 4,.o 5,.o 6,.o 7,.o 8,.o 9,.o 10,.o 11]),(1,.val (.os 5 Q3 m.site.Zones)),(2,.val (.os 2 Q0 m.site.Aparts)),(3,.val (.os 2 Q1 m.site.Shelves)),(4,.val (.os 2 Q2 m.site.Robots)),(5,.val (.om kI veI m.shelf)),(6,.val (.om kI veB m.robot)),(7,.val (.om kI veB m.zoned)),(8,.val (.om kS veI m.names)),(9,.val (.om kI veB m.oneways)),(10,.val (.os 1 eI m.shelves)),(11,.val (.os 1 eI m.zones))] 12 (fun A H' k=>∃y,post y∧A=(.i y.1)∧H'=[(0,.box [.i y.2.site.Floor.W,.i y.2.site.Floor.H,.i y.2.site.Floor.D,.sl 1 eI y.2.site.Floor.Kind,.sl 1 eI y.2.site.Floor.Out,.o 12,.o 13,.o 14,.o 15,.o 16,.o 17,.o 18,.o 19,.o 20,.o 21,.o 22]),(12,.val (.os 5 Q3 y.2.site.Zones)),(13,.val (.os 2 Q0 y.2.site.Aparts)),(14,.val (.os 2 Q1 y.2.site.Shelves)),(15,.val (.os 2 Q2 y.2.site.Robots)),(16,.val (.om kI veI y.2.shelf)),(17,.val (.om kI veB y.2.robot)),(18,.val (.om kI veB y.2.zoned)),(19,.val (.om kS veI y.2.names)),(20,.val (.om kI veB y.2.oneways)),(21,.val (.os 1 eI y.2.shelves)),(22,.val (.os 1 eI y.2.zones))]∧k=23):=by
 refine Tr.go Tryz.func39 Tryz.ntmps39 fun _ _ _ _ o=>?_
 unfold K4 at g
 refine C.ss (U.bx ?_)
 refine U.pd 1 T (C.xs (C.seq ?_))
 refine C.jn (fun (x3:Bool)=>[(0,.p 0 0),(3,.p 12 0),(14,.b x3)]) (fun x3=>[(0,.box [.i m.site.Floor.W,.i m.site.Floor.H,.i m.site.Floor.D,.sl 1 eI m.site.Floor.Kind,.sl 1 eI m.site.Floor.Out,.o 1,.o 2,.o 3,.o 4,.o 5,.o 6,.o 7,.o 8,.o 9,.o 10,.o 11]),(1,.val (.os 5 Q3 m.site.Zones)),(2,.val (.os 2 Q0 m.site.Aparts)),(3,.val (.os 2 Q1 m.site.Shelves)),(4,.val (.os 2 Q2 m.site.Robots)),(5,.val (.om kI veI m.shelf)),(6,.val (.om kI veB m.robot)),(7,.val (.om kI veB m.zoned)),(8,.val (.om kS veI m.names)),(9,.val (.om kI veB m.oneways)),(10,.val (.os 1 eI m.shelves)),(11,.val (.os 1 eI m.zones)),(12,.box [.v (.string x_1.A),.v (.string x_1.B)])]) 13 g (fun x3 g=>?_) fun J4 g j4=>?_
 refine C.nx ?_
 refine C.ite rfl g (fun b8 g=>?_) fun b8 g=>?_
 refine C.ss (U.pd 1 T (C.nx (C.ret (C.rt ?_))))
 exact C.g1 [some 0,some 1,some 2,some 3,some 4,some 5,some 6,some 7,some 8,some 9,some 10,some 11,some 1,some 2,some 3,some 4,some 5,some 6,some 7,some 8,some 9,some 10,some 11] T o ⟨(12,m),g,rfl,rfl,rfl⟩
 refine C.skip (C.xs (C.seq (D.bq mix 9 [0,12] [] (fun hQ hS ws M'=>?_))))
 refine D.pq 9 [(0,[4,3,2,1]),(1,[4,3,2]),(2,[4,3]),(3,[4]),(4,[]),(5,[6]),(6,[]),(7,[8]),(8,[])] T ?_
 refine D.ze rfl (.none rfl) (by exact Eff.k (YC m.site.Aparts x_1.A x_1.B _ g) en88 rfl rfl rfl (.cons (.fz rfl rfl rfl (.os fun _=>.cons (.ro rfl) (.cons (.ro rfl) .nil))) (.eq rfl)) (fun _ _=>⟨(.v _),trivial⟩)) (by kernel_rfl) (by kernel_rfl) (fun x13' g=>?_)
 obtain⟨x13⟩:=x13'
 refine C.nx ?_
 refine C.ite rfl g (fun b14 g=>?_) fun b14 g=>?_
 refine C.ss (U.pd 1 T (C.nx (C.ret (C.rt ?_))))
 exact C.g1 [some 0,some 1,some 2,some 3,some 4,some 5,some 6,some 7,some 8,some 9,some 10,some 11,some 1,some 2,some 3,some 4,some 5,some 6,some 7,some 8,some 9,some 10,some 11] T o ⟨(5,m),g,rfl,rfl,rfl⟩
 refine C.skip (C.xs (D.bq mix 12 [0,12] [2] (fun hQ hS ws M'=>?_)))
 refine D.pq 7 (zl [0,1,2,3,4,5,6]) T ?_
 refine D.e1 7 rfl (.none rfl) (by exact Eff1.bs T (enc:=Q0) (xs:=([x_1]:List Qk)) rfl rfl rfl rfl rfl rfl rfl rfl rfl rfl (fun _ _=>rfl) rfl rfl) (by kernel_rfl) rfl rfl ?_
 obtain⟨y19,g⟩:=g
 refine D.e1 8 rfl (.none rfl) (by exact Eff1.ap T rfl rfl rfl rfl rfl rfl (.inr ⟨_,rfl,rfl⟩) rfl rfl rfl (fun _=>rfl) rfl y19) (by kernel_rfl) rfl rfl ?_
 refine D.pq 3 [(9,[11,10]),(10,[11]),(11,[])] T ?_
 refine D.ze1 rfl (.none rfl) (by exact Eff1.st T rfl rfl rfl rfl rfl rfl rfl rfl rfl rfl) (by kernel_rfl) (by kernel_rfl) ?_
 refine C.xt (U.pd 1 T (C.nx (C.ret ?_)))
 exact C.g1 [some 0,some 1,some 2,some 3,some 4,some 5,some 6,some 7,some 8,some 9,some 10,some 11,some 1,some 14,some 3,some 4,some 5,some 6,some 7,some 8,some 9,some 10,some 11] T o ⟨(0,({site:=({Floor:=m.site.Floor,Zones:=m.site.Zones,Aparts:=(m.site.Aparts++([x_1]:List Qk)),Shelves:=m.site.Shelves,Robots:=m.site.Robots:ApiSite}),shelf:=m.shelf,robot:=m.robot,zoned:=m.zoned,names:=m.names,oneways:=m.oneways,shelves:=m.shelves,zones:=m.zones:SurveyMaker})),g,rfl,rfl,rfl⟩
 refine U.start (U.ps 2 T rfl (U.k (GM x_1.A _ g) en34 (fun x5 g=>?_)))
 refine U.ps 2 T rfl ?_
 refine g.cs (fun b6 g=>?_) fun b6 g=>?_
 refine U.pq 2 4 false 9 (ntF b6) T ?_
 refine U.k (GM x_1.B _ g) en34 (fun x7 g=>?_) (hw:=.take 4 false 9 _ (ntF b6) rfl rfl rfl)
 refine U.pq 1 4 false 9 (ntF b6) T ?_
 refine U.pk' (ntF b6) ?_
 refine U.done ?_
 exact St.wa (idR 13) (j4 _ g)
 refine U.sk' 4 4 false 9 (ntT b6) ?_
 refine U.pk (ntT b6) ?_
 refine U.done ?_
 exact St.wa (idR 13) (j4 _ g)
theorem Y5 (kind:Int) (post:Bool→Prop) (g:Xj kind post):
  Tr Tryz.prog 89 [.i kind] [] 0 (pB post):=by
 refine Tr.go Tryz.func89 Tryz.ntmps89 fun _ _ _ _ o=>?_
 unfold Xj at g
 refine C.ss (U.pd 1 T (C.xs ?_))
 refine C.jn (fun (x3:Bool)=>[(2,.b x3)]) (fun x3=>[]) 0 g (fun x3 g=>?_) fun J4 g j4=>?_
 refine C.nx (C.ret ?_)
 exact C.f1 T o (pBi g)
 refine U.start (U.ps 3 T rfl ?_)
 refine g.cs (fun b5 g=>?_) fun b5 g=>?_
 refine U.sk' 2 2 false 5 b5 ?_
 refine U.pk b5 ?_
 refine U.pd 1 T ?_
 exact St.wn (j4 _ g)
 refine U.pq 2 2 false 5 b5 T ?_
 refine U.pk' b5 ?_
 refine U.pd 1 T ?_
 exact St.wn (j4 _ g)
end Go.Proofs.YtpckofngkabgbaaGreat
