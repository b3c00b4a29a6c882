/- The walks: each Go function does what its verification condition says (written by a program of the prover). -/
import Derived.Test.YtpckofngkabgbaaGreatW1
import Derived.KernelRfl
set_option maxRecDepth 100000
set_option maxHeartbeats 8000000
set_option linter.unusedVariables false
set_option linter.unusedSimpArgs false
namespace Go.Proofs.YtpckofngkabgbaaGreat
open Go Go.Taq
theorem W7 (x_1:QB) (m:SurveyMaker) (post:(Int×SurveyMaker)→Prop) (g:K3 x_1 m post):
  Tr Tryz.prog 40 [.p 0 0,.agg [.i x_1.Cell,.v (.string x_1.Class)]] [(0,.box [.i m.site.Floor.W,.i m.site.Floor.H,.i m.site.Floor.D,.sl 1 eI m.site.Floor.Kind,.sl 1 eI m.site.Floor.Out,.o 1,.o 2,.o 3,.o 4,.o 5,.o 6,.o 7,.o 8,.o 9,.o 10,.o 11]),(1,.val (.os 5 Q3 m.site.Zones)),(2,.val (.os 2 Q0 m.site.Aparts)),(3,.val (.os 2 Q1 m.site.Shelves)),(4,.val (.os 2 Q2 m.site.Robots)),(5,.val (.om kI veI m.shelf)),(6,.val (.om kI veB m.robot)),(7,.val (.om kI veB m.zoned)),(8,.val (.om kS veI m.names)),(9,.val (.om kI veB m.oneways)),(10,.val (.os 1 eI m.shelves)),(11,.val (.os 1 eI m.zones))] 12 (fun A H' k=>∃y,post y∧A=(.i y.1)∧H'=[(0,.box [.i y.2.site.Floor.W,.i y.2.site.Floor.H,.i y.2.site.Floor.D,.sl 1 eI y.2.site.Floor.Kind,.sl 1 eI y.2.site.Floor.Out,.o 12,.o 13,.o 14,.o 15,.o 16,.o 17,.o 18,.o 19,.o 20,.o 21,.o 22]),(12,.val (.os 5 Q3 y.2.site.Zones)),(13,.val (.os 2 Q0 y.2.site.Aparts)),(14,.val (.os 2 Q1 y.2.site.Shelves)),(15,.val (.os 2 Q2 y.2.site.Robots)),(16,.val (.om kI veI y.2.shelf)),(17,.val (.om kI veB y.2.robot)),(18,.val (.om kI veB y.2.zoned)),(19,.val (.om kS veI y.2.names)),(20,.val (.om kI veB y.2.oneways)),(21,.val (.os 1 eI y.2.shelves)),(22,.val (.os 1 eI y.2.zones))]∧k=23):=by
 refine Tr.go Tryz.func40 Tryz.ntmps40 fun _ _ _ _ o=>?_
 unfold K3 at g
 refine C.ss (U.bx ?_)
 refine U.pd 1 T (C.xs (C.seq ?_))
 refine C.jn (fun (x3:Bool)=>[(0,.p 0 0),(3,.p 12 0),(17,.b x3)]) (fun x3=>[(0,.box [.i m.site.Floor.W,.i m.site.Floor.H,.i m.site.Floor.D,.sl 1 eI m.site.Floor.Kind,.sl 1 eI m.site.Floor.Out,.o 1,.o 2,.o 3,.o 4,.o 5,.o 6,.o 7,.o 8,.o 9,.o 10,.o 11]),(1,.val (.os 5 Q3 m.site.Zones)),(2,.val (.os 2 Q0 m.site.Aparts)),(3,.val (.os 2 Q1 m.site.Shelves)),(4,.val (.os 2 Q2 m.site.Robots)),(5,.val (.om kI veI m.shelf)),(6,.val (.om kI veB m.robot)),(7,.val (.om kI veB m.zoned)),(8,.val (.om kS veI m.names)),(9,.val (.om kI veB m.oneways)),(10,.val (.os 1 eI m.shelves)),(11,.val (.os 1 eI m.zones)),(12,.box [.i x_1.Cell,.v (.string x_1.Class)])]) 13 g (fun x3 g=>?_) fun J4 g j4=>?_
 refine C.nx ?_
 refine C.ite rfl g (fun b7 g=>?_) fun b7 g=>?_
 refine C.ss (U.pd 1 T (C.nx (C.ret (C.rt ?_))))
 exact C.g1 [some 0,some 1,some 2,some 3,some 4,some 5,some 6,some 7,some 8,some 9,some 10,some 11,some 1,some 2,some 3,some 4,some 5,some 6,some 7,some 8,some 9,some 10,some 11] T o ⟨(12,m),g,rfl,rfl,rfl⟩
 refine C.skip (C.xt (U.ps 3 T rfl (U.k (X8 m x_1.Cell _ g) en86 (fun x12 g=>?_))))
 refine U.pd 5 T (C.xs (C.ss ?_))
 refine U.pd 2 T (C.nx ?_)
 refine C.ite rfl g (fun b15 g=>?_) fun b15 g=>?_
 refine C.ss (U.pd 1 T (C.nx (C.ret (C.rt ?_))))
 exact C.g1 [some 0,some 1,some 2,some 3,some 4,some 5,some 6,some 7,some 8,some 9,some 10,some 11,some 1,some 2,some 3,some 4,some 5,some 6,some 7,some 8,some 9,some 10,some 11] T o ⟨(3,m),g,rfl,rfl,rfl⟩
 refine C.skip (C.xs (C.ss (U.ps 1 T rfl (U.k (Y5 x12.1 _ g) en89 (fun x20 g=>?_)))))
 refine U.pd 1 T (C.nx ?_)
 refine C.ite rfl g (fun b21 g=>?_) fun b21 g=>?_
 refine C.ss (U.pd 1 T (C.nx (C.ret (C.rt ?_))))
 exact C.g1 [some 0,some 1,some 2,some 3,some 4,some 5,some 6,some 7,some 8,some 9,some 10,some 11,some 1,some 2,some 3,some 4,some 5,some 6,some 7,some 8,some 9,some 10,some 11] T o ⟨(13,m),g,rfl,rfl,rfl⟩
 refine C.skip (C.xs (C.seq (D.bq mix 9999 [0,5,12] [] (fun hQ hS ws M'=>?_))))
 refine D.pq 6 (zl [0,1,2,3,4,5]) T ?_
 refine D.q 6 [] hQ hS rfl (.none rfl) rfl rfl (by exact Rd.lk2 T (ke:=kI) (ve:=veI) (xs:=m.shelf) (z0:=0) (x:=x_1.Cell) rfl rfl kt3 zt3 (fun _=>rfl) rfl (.o rfl) rfl rfl rfl) rfl (by kernel_rfl) ?_
 refine D.pq 5 (zl [7,8,9,10,11]) T ?_
 refine D.done (by kernel_rfl) ?_
 refine C.xt (U.pd 1 T (C.nx ?_))
 refine C.ite rfl g (fun b28 g=>?_) fun b28 g=>?_
 refine C.ss (U.pd 1 T (C.nx (C.ret (C.rt ?_))))
 exact C.g1 [some 0,some 1,some 2,some 3,some 4,some 5,some 6,some 7,some 8,some 9,some 10,some 11,some 1,some 2,some 3,some 4,some 5,some 6,some 7,some 8,some 9,some 10,some 11] T o ⟨(5,m),g,rfl,rfl,rfl⟩
 refine C.skip (C.xs (C.ss (U.pd 7 T (C.nx ?_))))
 refine C.ite rfl g (fun b33 g=>?_) fun b33 g=>?_
 refine C.ss (U.pd 1 T (C.nx (C.ret (C.rt ?_))))
 exact C.g1 [some 0,some 1,some 2,some 3,some 4,some 5,some 6,some 7,some 8,some 9,some 10,some 11,some 1,some 2,some 3,some 4,some 5,some 6,some 7,some 8,some 9,some 10,some 11] T o ⟨(6,m),g,rfl,rfl,rfl⟩
 refine C.skip (C.xs (D.bq mix 12 [0,12] [] (fun hQ hS ws M'=>?_)))
 refine D.pq 12 (zl [0,1,2,3,4,5,6,7,8,9,10,11]) T ?_
 refine D.ze1 rfl (.none rfl) (by exact Eff1.mu T (x:=x_1.Cell) (y:=(m.site.Shelves.length:Int)) (.inl rfl) rfl kt3 (fun _=>rfl) rfl rfl rfl rfl rfl (.inl rfl) rfl) (by kernel_rfl) (by kernel_rfl) ?_
 refine C.xs (D.bq mix 12 [0,12] [3] (fun hQ hS ws M'=>?_))
 refine D.pq 7 (zl [0,1,2,3,4,5,6]) T ?_
 refine D.e1 7 rfl (.none rfl) (by exact Eff1.bs T (enc:=Q1) (xs:=([x_1]:List QB)) rfl rfl rfl rfl rfl rfl rfl rfl rfl rfl (fun _ _=>rfl) rfl rfl) (by kernel_rfl) rfl rfl ?_
 obtain⟨y40,g⟩:=g
 refine D.e1 8 rfl (.none rfl) (by exact Eff1.ap T rfl rfl rfl rfl rfl rfl (.inr ⟨_,rfl,rfl⟩) rfl rfl rfl (fun _=>rfl) rfl y40) (by kernel_rfl) rfl rfl ?_
 refine D.pq 3 [(9,[11,10]),(10,[11]),(11,[])] T ?_
 refine D.ze1 rfl (.none rfl) (by exact Eff1.st T rfl rfl rfl rfl rfl rfl rfl rfl rfl rfl) (by kernel_rfl) (by kernel_rfl) ?_
 refine C.xt (U.pd 1 T (C.nx (C.ret ?_)))
 exact C.g1 [some 0,some 1,some 2,some 3,some 4,some 5,some 6,some 7,some 8,some 9,some 10,some 11,some 1,some 2,some 14,some 4,some 5,some 6,some 7,some 8,some 9,some 10,some 11] T o ⟨(0,({site:=({Floor:=m.site.Floor,Zones:=m.site.Zones,Aparts:=m.site.Aparts,Shelves:=(m.site.Shelves++([x_1]:List QB)),Robots:=m.site.Robots:ApiSite}),shelf:=(upd m.shelf x_1.Cell (m.site.Shelves.length:Int)),robot:=m.robot,zoned:=m.zoned,names:=m.names,oneways:=m.oneways,shelves:=m.shelves,zones:=m.zones:SurveyMaker})),g,rfl,rfl,rfl⟩
 refine U.start (U.ps 4 T rfl ?_)
 refine g.cs (fun b5 g=>?_) fun b5 g=>?_
 refine U.sk' 4 3 true 12 (ntF b5) ?_
 refine U.pk' (ntF b5) ?_
 refine U.done ?_
 exact St.wa (idR 13) (j4 _ g)
 refine U.pq 2 3 true 12 (ntT b5) T ?_
 refine U.k (GM x_1.Class _ g) en34 (fun x6 g=>?_) (hw:=.take 3 true 12 _ (ntT b5) rfl rfl rfl)
 refine U.pq 1 3 true 12 (ntT b5) T ?_
 refine U.pk (ntT b5) ?_
 refine U.done ?_
 exact St.wa (idR 13) (j4 _ g)
theorem GV (x_1:QK) (m:SurveyMaker) (post:(Int×SurveyMaker)→Prop) (g:K2 x_1 m post):
  Tr Tryz.prog 41 [.p 0 0,.agg [.i x_1.Cell,.i x_1.Charge]] [(0,.box [.i m.site.Floor.W,.i m.site.Floor.H,.i m.site.Floor.D,.sl 1 eI m.site.Floor.Kind,.sl 1 eI m.site.Floor.Out,.o 1,.o 2,.o 3,.o 4,.o 5,.o 6,.o 7,.o 8,.o 9,.o 10,.o 11]),(1,.val (.os 5 Q3 m.site.Zones)),(2,.val (.os 2 Q0 m.site.Aparts)),(3,.val (.os 2 Q1 m.site.Shelves)),(4,.val (.os 2 Q2 m.site.Robots)),(5,.val (.om kI veI m.shelf)),(6,.val (.om kI veB m.robot)),(7,.val (.om kI veB m.zoned)),(8,.val (.om kS veI m.names)),(9,.val (.om kI veB m.oneways)),(10,.val (.os 1 eI m.shelves)),(11,.val (.os 1 eI m.zones))] 12 (fun A H' k=>∃y,post y∧A=(.i y.1)∧H'=[(0,.box [.i y.2.site.Floor.W,.i y.2.site.Floor.H,.i y.2.site.Floor.D,.sl 1 eI y.2.site.Floor.Kind,.sl 1 eI y.2.site.Floor.Out,.o 12,.o 13,.o 14,.o 15,.o 16,.o 17,.o 18,.o 19,.o 20,.o 21,.o 22]),(12,.val (.os 5 Q3 y.2.site.Zones)),(13,.val (.os 2 Q0 y.2.site.Aparts)),(14,.val (.os 2 Q1 y.2.site.Shelves)),(15,.val (.os 2 Q2 y.2.site.Robots)),(16,.val (.om kI veI y.2.shelf)),(17,.val (.om kI veB y.2.robot)),(18,.val (.om kI veB y.2.zoned)),(19,.val (.om kS veI y.2.names)),(20,.val (.om kI veB y.2.oneways)),(21,.val (.os 1 eI y.2.shelves)),(22,.val (.os 1 eI y.2.zones))]∧k=23):=by
 refine Tr.go Tryz.func41 Tryz.ntmps41 fun _ _ _ _ o=>?_
 unfold K2 at g
 refine C.ss (U.bx ?_)
 refine U.pd 1 T (C.xt ?_)
 refine U.ps 3 T rfl (U.k (X8 m x_1.Cell _ g) en86 (fun x5 g=>?_))
 refine U.pd 5 T (C.xs (C.seq ?_))
 refine C.jn (fun (x6:Bool)=>[(0,.p 0 0),(3,.p 12 0),(5,.i x5.1),(21,.b x6)]) (fun x6=>[(0,.box [.i m.site.Floor.W,.i m.site.Floor.H,.i m.site.Floor.D,.sl 1 eI m.site.Floor.Kind,.sl 1 eI m.site.Floor.Out,.o 1,.o 2,.o 3,.o 4,.o 5,.o 6,.o 7,.o 8,.o 9,.o 10,.o 11]),(1,.val (.os 5 Q3 m.site.Zones)),(2,.val (.os 2 Q0 m.site.Aparts)),(3,.val (.os 2 Q1 m.site.Shelves)),(4,.val (.os 2 Q2 m.site.Robots)),(5,.val (.om kI veI m.shelf)),(6,.val (.om kI veB m.robot)),(7,.val (.om kI veB m.zoned)),(8,.val (.om kS veI m.names)),(9,.val (.om kI veB m.oneways)),(10,.val (.os 1 eI m.shelves)),(11,.val (.os 1 eI m.zones)),(12,.box [.i x_1.Cell,.i x_1.Charge])]) 13 g (fun x6 g=>?_) fun J7 g j7=>?_
 refine C.nx ?_
 refine C.ite rfl g (fun b10 g=>?_) fun b10 g=>?_
 refine C.ss (U.pd 1 T (C.nx (C.ret (C.rt ?_))))
 exact C.g1 [some 0,some 1,some 2,some 3,some 4,some 5,some 6,some 7,some 8,some 9,some 10,some 11,some 1,some 2,some 3,some 4,some 5,some 6,some 7,some 8,some 9,some 10,some 11] T o ⟨(3,m),g,rfl,rfl,rfl⟩
 refine C.skip (C.xs (C.ss (U.pd 2 T (C.nx ?_))))
 refine C.ite rfl g (fun b15 g=>?_) fun b15 g=>?_
 refine C.ss (U.pd 1 T (C.nx (C.ret (C.rt ?_))))
 exact C.g1 [some 0,some 1,some 2,some 3,some 4,some 5,some 6,some 7,some 8,some 9,some 10,some 11,some 1,some 2,some 3,some 4,some 5,some 6,some 7,some 8,some 9,some 10,some 11] T o ⟨(13,m),g,rfl,rfl,rfl⟩
 refine C.skip (C.xs (C.seq (D.bq mix 9999 [0,6,12] [] (fun hQ hS ws M'=>?_))))
 refine D.pq 6 (zl [0,1,2,3,4,5]) T ?_
 refine D.q 6 [] hQ hS rfl (.none rfl) rfl rfl (by exact Rd.lk T (ke:=kI) (ve:=veB) (xs:=m.robot) (z0:=false) (x:=x_1.Cell) rfl rfl kt3 zt4 (fun _=>rfl) rfl (.o rfl) rfl rfl rfl) rfl (by kernel_rfl) ?_
 refine D.done (by kernel_rfl) ?_
 refine C.nx ?_
 refine C.ite rfl g (fun b20 g=>?_) fun b20 g=>?_
 refine C.ss (U.pd 1 T (C.nx (C.ret (C.rt ?_))))
 exact C.g1 [some 0,some 1,some 2,some 3,some 4,some 5,some 6,some 7,some 8,some 9,some 10,some 11,some 1,some 2,some 3,some 4,some 5,some 6,some 7,some 8,some 9,some 10,some 11] T o ⟨(5,m),g,rfl,rfl,rfl⟩
 refine C.skip (C.xs (C.ss (U.pd 7 T (C.nx ?_))))
 refine C.ite rfl g (fun b25 g=>?_) fun b25 g=>?_
 refine C.ss (U.pd 1 T (C.nx (C.ret (C.rt ?_))))
 exact C.g1 [some 0,some 1,some 2,some 3,some 4,some 5,some 6,some 7,some 8,some 9,some 10,some 11,some 1,some 2,some 3,some 4,some 5,some 6,some 7,some 8,some 9,some 10,some 11] T o ⟨(6,m),g,rfl,rfl,rfl⟩
 refine C.skip (C.xs (D.bq mix 6 [0,12] [] (fun hQ hS ws M'=>?_)))
 refine D.pq 6 (zl [0,1,2,3,4,5]) T ?_
 refine D.ze1 rfl (.none rfl) (by exact Eff1.mu T (x:=x_1.Cell) (y:=true) (.inl rfl) rfl kt3 (fun _=>rfl) rfl rfl rfl rfl rfl (.inl rfl) rfl) (by kernel_rfl) (by kernel_rfl) ?_
 refine C.xs (D.bq mix 12 [0,12] [4] (fun hQ hS ws M'=>?_))
 refine D.pq 7 (zl [0,1,2,3,4,5,6]) T ?_
 refine D.e1 7 rfl (.none rfl) (by exact Eff1.bs T (enc:=Q2) (xs:=([x_1]:List QK)) rfl rfl rfl rfl rfl rfl rfl rfl rfl rfl (fun _ _=>rfl) rfl rfl) (by kernel_rfl) rfl rfl ?_
 obtain⟨y32,g⟩:=g
 refine D.e1 8 rfl (.none rfl) (by exact Eff1.ap T rfl rfl rfl rfl rfl rfl (.inr ⟨_,rfl,rfl⟩) rfl rfl rfl (fun _=>rfl) rfl y32) (by kernel_rfl) rfl rfl ?_
 refine D.pq 3 [(9,[11,10]),(10,[11]),(11,[])] T ?_
 refine D.ze1 rfl (.none rfl) (by exact Eff1.st T rfl rfl rfl rfl rfl rfl rfl rfl rfl rfl) (by kernel_rfl) (by kernel_rfl) ?_
 refine C.xt (U.pd 1 T (C.nx (C.ret ?_)))
 exact C.g1 [some 0,some 1,some 2,some 3,some 4,some 5,some 6,some 7,some 8,some 9,some 10,some 11,some 1,some 2,some 3,some 14,some 5,some 6,some 7,some 8,some 9,some 10,some 11] T o ⟨(0,({site:=({Floor:=m.site.Floor,Zones:=m.site.Zones,Aparts:=m.site.Aparts,Shelves:=m.site.Shelves,Robots:=(m.site.Robots++([x_1]:List QK)):ApiSite}),shelf:=m.shelf,robot:=(upd m.robot x_1.Cell true),zoned:=m.zoned,names:=m.names,oneways:=m.oneways,shelves:=m.shelves,zones:=m.zones:SurveyMaker})),g,rfl,rfl,rfl⟩
 refine U.start (U.ps 3 T rfl ?_)
 refine g.cs (fun b8 g=>?_) fun b8 g=>?_
 refine U.pq 2 2 false 16 (ntF b8) T ?_
 refine U.k (Yb x_1.Charge 0 1000000 _ g) en35 (fun x9 g=>?_) (hw:=.take 2 false 16 _ (ntF b8) rfl rfl rfl)
 refine U.pq 1 2 false 16 (ntF b8) T ?_
 refine U.pk' (ntF b8) ?_
 refine U.done ?_
 exact St.wa (idR 13) (j7 _ g)
 refine U.sk' 4 2 false 16 (ntT b8) ?_
 refine U.pk (ntT b8) ?_
 refine U.done ?_
 exact St.wa (idR 13) (j7 _ g)
theorem WY (m:SurveyMaker) (post:Int→Prop) (g:KA m post):
  Tr Tryz.prog 42 [.rp [.i m.site.Floor.W,.i m.site.Floor.H,.i m.site.Floor.D,.sl 1 eI m.site.Floor.Kind,.sl 1 eI m.site.Floor.Out,.sl 5 Q3 m.site.Zones,.sl 2 Q0 m.site.Aparts,.sl 2 Q1 m.site.Shelves,.sl 2 Q2 m.site.Robots,.rm kI veI m.shelf,.rm kI veB m.robot,.rm kI veB m.zoned,.rm kS veI m.names,.rm kI veB m.oneways,.sl 1 eI m.shelves,.sl 1 eI m.zones]] [] 0 (pI post):=by
 refine Tr.go Tryz.func42 Tryz.ntmps42 fun _ _ _ _ o=>?_
 unfold KA at g
 refine C.ss (U.pd 1 T (C.xt ?_))
 refine U.ps 5 T rfl (U.al T ?_)
 refine U.st T ?_
 refine U.done (C.xs (C.ss (U.pd 7 T (C.nx ?_))))
 refine C.jn (fun (x7:Unit)=>[]) (fun x7=>[]) 0 g (fun x7 g=>?_) fun J8 g j8=>?_
 refine C.xt (U.pd 1 T (C.nx (C.ret ?_)))
 exact C.f1 T o (pIi g)
 refine C.block ?_
 refine St.wk (C.loop (fun (s9:Int)=>[(0,.rp [.i m.site.Floor.W,.i m.site.Floor.H,.i m.site.Floor.D,.sl 1 eI m.site.Floor.Kind,.sl 1 eI m.site.Floor.Out,.sl 5 Q3 m.site.Zones,.sl 2 Q0 m.site.Aparts,.sl 2 Q1 m.site.Shelves,.sl 2 Q2 m.site.Robots,.rm kI veI m.shelf,.rm kI veB m.robot,.rm kI veB m.zoned,.rm kS veI m.names,.rm kI veB m.oneways,.sl 1 eI m.shelves,.sl 1 eI m.zones]),(3,.p 0 0),(22,.sl 2 Q1 m.site.Shelves),(23,.i (m.site.Shelves.length:Int)),(24,.i s9)]) (fun s9=>[(0,.box (K5 m.site.Floor))]) g (fun s9 Y10 g=>?_)) (Wk.a [some 0])
 refine C.ss (U.pd 1 T (C.xs ?_))
 refine C.ite rfl g (fun b13 g=>?_) fun b13 g=>?_
 refine C.skip (C.xs ?_)
 refine C.jn (fun (x14:Unit)=>[(0,.rp [.i m.site.Floor.W,.i m.site.Floor.H,.i m.site.Floor.D,.sl 1 eI m.site.Floor.Kind,.sl 1 eI m.site.Floor.Out,.sl 5 Q3 m.site.Zones,.sl 2 Q0 m.site.Aparts,.sl 2 Q1 m.site.Shelves,.sl 2 Q2 m.site.Robots,.rm kI veI m.shelf,.rm kI veB m.robot,.rm kI veB m.zoned,.rm kS veI m.names,.rm kI veB m.oneways,.sl 1 eI m.shelves,.sl 1 eI m.zones]),(3,.p 0 0),(22,.sl 2 Q1 m.site.Shelves),(23,.i (m.site.Shelves.length:Int)),(24,.i s9)]) (fun x14=>[(0,.box (K5 m.site.Floor))]) 1 g (fun x14 g=>?_) fun J15 g j15=>?_
 refine C.nx (U.start (U.pd 2 T (C.nx ?_)))
 exact St.wk (C.next g) (Wk.a [some 0])
 refine C.block (C.ss (U.ps 1 T rfl ?_))
 obtain⟨x18,y18,g⟩:=g
 refine U.ix T y18 ?_
 refine U.ps 1 T rfl (U.al T ?_)
 refine U.ps 1 T rfl (U.st T ?_)
 refine U.done (C.xt (U.ps 3 T rfl (U.k (Q18 m.site.Floor x18.Cell _ g) en90 (fun x21 g=>?_))))
 refine U.pd 7 T (C.xs ?_)
 refine D.bq mix 9999 [0] [] (fun hQ hS ws M'=>?_)
 refine D.pq 21 (zl [0,1,2,3,4,6,7,8,9,10,12,13,14,15,16,18,19,20,21,22,26]) T ?_
 refine D.k 5 (GD m.site.Floor (w64 (x21.1+1)) x21.2.1 x21.2.2 _ g) en91 fun x24 g=>?_
 refine D.k 11 (GD m.site.Floor x21.1 (w64 (x21.2.1+1)) x21.2.2 _ g) en91 fun x25 g=>?_
 refine D.k 17 (GD m.site.Floor (w64 (x21.1-1)) x21.2.1 x21.2.2 _ g) en91 fun x26 g=>?_
 refine D.k 23 (GD m.site.Floor x21.1 (w64 (x21.2.1-1)) x21.2.2 _ g) en91 fun x27 g=>?_
 refine D.e1 24 rfl (.none rfl) (by exact Eff1.bs T (enc:=eI) (xs:=([x24,x25,x26,x27]:List Int)) rfl rfl rfl rfl rfl rfl rfl rfl rfl rfl (fun _ _=>rfl) rfl rfl) (by kernel_rfl) rfl rfl ?_
 refine D.pq 1 [(25,[])] T ?_
 refine D.done (by kernel_rfl) ?_
 refine C.nx ?_
 refine C.jn (fun (x28:Unit)=>[(0,.rp [.i m.site.Floor.W,.i m.site.Floor.H,.i m.site.Floor.D,.sl 1 eI m.site.Floor.Kind,.sl 1 eI m.site.Floor.Out,.sl 5 Q3 m.site.Zones,.sl 2 Q0 m.site.Aparts,.sl 2 Q1 m.site.Shelves,.sl 2 Q2 m.site.Robots,.rm kI veI m.shelf,.rm kI veB m.robot,.rm kI veB m.zoned,.rm kS veI m.names,.rm kI veB m.oneways,.sl 1 eI m.shelves,.sl 1 eI m.zones]),(3,.p 0 0),(22,.sl 2 Q1 m.site.Shelves),(23,.i (m.site.Shelves.length:Int)),(24,.i s9)]) (fun x28=>[(0,.box (K5 m.site.Floor))]) 1 g (fun x28 g=>?_) fun J29 g j29=>?_
 refine C.bnx ?_
 exact St.wa [some 0] (j15 _ g)
 refine C.block ?_
 refine St.wk (C.loop (fun (s30:Int)=>[(0,.rp [.i m.site.Floor.W,.i m.site.Floor.H,.i m.site.Floor.D,.sl 1 eI m.site.Floor.Kind,.sl 1 eI m.site.Floor.Out,.sl 5 Q3 m.site.Zones,.sl 2 Q0 m.site.Aparts,.sl 2 Q1 m.site.Shelves,.sl 2 Q2 m.site.Robots,.rm kI veI m.shelf,.rm kI veB m.robot,.rm kI veB m.zoned,.rm kS veI m.names,.rm kI veB m.oneways,.sl 1 eI m.shelves,.sl 1 eI m.zones]),(3,.p 0 0),(4,.i s9),(5,.p 1 0),(22,.sl 2 Q1 m.site.Shelves),(23,.i (m.site.Shelves.length:Int)),(24,.i s9),(61,.o 2),(62,.i (([x24,x25,x26,x27]:List Int).length:Int)),(63,.i s30)]) (fun s30=>[(0,.box (K5 m.site.Floor)),(1,.box [.i x18.Cell,.v (.string x18.Class)]),(2,.val (.os 1 eI ([x24,x25,x26,x27]:List Int)))]) g (fun s30 Y31 g=>?_)) (Wk.a (idR 3))
 refine C.ss (U.pd 1 T (C.xs ?_))
 refine C.ite rfl g (fun b34 g=>?_) fun b34 g=>?_
 refine C.skip (C.xs (C.block (C.ss ?_)))
 obtain⟨x37,y37,g⟩:=g
 refine U.r rfl (.none rfl) rfl rfl (by exact Rd.io T rfl rfl rfl rfl rfl rfl rfl y37) ?_
 refine U.r rfl (.none rfl) rfl rfl (by exact Rd.le T rfl rfl rfl (Qi y37).2.2 rfl rfl rfl) ?_
 refine U.pd 1 T (C.xt ?_)
 refine U.ps 5 T rfl (U.r rfl (.none rfl) rfl rfl (by exact Rd.lk2 T (ke:=kI) (ve:=veI) (xs:=m.shelf) (z0:=0) (x:=x37) rfl rfl kt3 zt3 (fun _=>rfl) rfl .rm rfl rfl rfl) ?_)
 refine U.pd 5 T (C.xs ?_)
 refine C.jn (fun (x40:Bool)=>[(0,.rp [.i m.site.Floor.W,.i m.site.Floor.H,.i m.site.Floor.D,.sl 1 eI m.site.Floor.Kind,.sl 1 eI m.site.Floor.Out,.sl 5 Q3 m.site.Zones,.sl 2 Q0 m.site.Aparts,.sl 2 Q1 m.site.Shelves,.sl 2 Q2 m.site.Robots,.rm kI veI m.shelf,.rm kI veB m.robot,.rm kI veB m.zoned,.rm kS veI m.names,.rm kI veB m.oneways,.sl 1 eI m.shelves,.sl 1 eI m.zones]),(3,.p 0 0),(4,.i s9),(5,.p 1 0),(22,.sl 2 Q1 m.site.Shelves),(23,.i (m.site.Shelves.length:Int)),(24,.i s9),(61,.o 2),(62,.i (([x24,x25,x26,x27]:List Int).length:Int)),(63,.i s30),(100,.b x40)]) (fun x40=>[(0,.box (K5 m.site.Floor)),(1,.box [.i x18.Cell,.v (.string x18.Class)]),(2,.val (.os 1 eI ([x24,x25,x26,x27]:List Int)))]) 3 g (fun x40 g=>?_) fun J41 g j41=>?_
 refine C.nx ?_
 refine C.ite rfl g (fun b46 g=>?_) fun b46 g=>?_
 refine C.ss (U.pd 2 T (C.nx (C.ret (C.brt (C.rt (C.rt (C.brt (C.brt (C.rt (C.rt (C.brt (C.rt ?_))))))))))))
 exact C.f1 T o (pIi g)
 refine C.skip (C.bnx (C.nx (U.start (U.pd 2 T (C.nx ?_)))))
 exact St.wk (C.next g) (Wk.a (idR 3))
 refine D.bq mix 9999 [1] [] (fun hQ hS ws M'=>?_)
 refine D.pq 2 (zl [0,1]) T ?_
 refine g.cs (fun b42 g=>?_) fun b42 g=>?_
 refine D.pt 2 [] 1 true 77 b42 T ?_
 refine D.pt 3 [] 1 true 77 b42 T ?_
 refine D.pt 4 [] 1 true 77 b42 T ?_
 refine D.kt 5 [] b42 ?_
 refine D.pq 1 [(6,[])] T ?_
 refine g.cs (fun b43 g=>?_) fun b43 g=>?_
 refine D.pt 7 [] 6 true 82 b43 T ?_
 refine D.pt 8 [] 6 true 82 b43 T ?_
 refine D.pt 9 [] 6 true 82 b43 T ?_
 refine D.pt 10 [] 6 true 82 b43 T ?_
 refine D.q 11 [] hQ hS rfl (.tk 6 true 82 b43) rfl rfl (by exact Rd.l T rfl rfl rfl) rfl (by kernel_rfl) ?_
 refine D.pt 12 [] 6 true 82 b43 T ?_
 refine D.q 13 [] hQ hS rfl (.tk 6 true 82 b43) rfl rfl (by exact Rd.l T rfl rfl rfl) rfl (by kernel_rfl) ?_
 refine D.pt 14 [] 6 true 82 b43 T ?_
 refine D.pt 15 [] 6 true 82 b43 T ?_
 refine D.pt 16 [] 6 true 82 b43 T ?_
 refine D.pt 17 [] 6 true 82 b43 T ?_
 refine D.q 18 [] hQ hS rfl (.tk 6 true 82 b43) rfl rfl (by exact Rd.l T rfl rfl rfl) rfl (by kernel_rfl) ?_
 refine D.pt 19 [] 6 true 82 b43 T ?_
 obtain⟨x44,y44,g⟩:=g
 refine D.q 20 [] hQ hS rfl (.tk 6 true 82 b43) rfl rfl (by exact Rd.ix T rfl rfl rfl rfl rfl rfl y44) rfl (by kernel_rfl) ?_
 refine D.pt 21 [] 6 true 82 b43 T ?_
 refine D.q 22 [] hQ hS rfl (.tk 6 true 82 b43) rfl rfl (by exact Rd.l T rfl rfl rfl) rfl (by kernel_rfl) ?_
 refine D.k 23 (YC m.site.Aparts x18.Class x44.Class _ g) en88 (fun x45 g=>?_) (hw:=.take 6 true 82 _ b43 rfl rfl rfl)
 refine D.kt 24 [] b43 ?_
 refine D.done (by kernel_rfl) ?_
 exact St.wa (idR 3) (j41 _ g)
 refine D.sz 7 [] 6 true 82 b43 ?_
 refine D.sz 8 [] 6 true 82 b43 ?_
 refine D.sz 9 [] 6 true 82 b43 ?_
 refine D.sz 10 [] 6 true 82 b43 ?_
 refine D.sz 11 [] 6 true 82 b43 ?_
 refine D.sz 12 [] 6 true 82 b43 ?_
 refine D.sz 13 [] 6 true 82 b43 ?_
 refine D.sz 14 [] 6 true 82 b43 ?_
 refine D.sz 15 [] 6 true 82 b43 ?_
 refine D.sz 16 [] 6 true 82 b43 ?_
 refine D.sz 17 [] 6 true 82 b43 ?_
 refine D.sz 18 [] 6 true 82 b43 ?_
 refine D.sz 19 [] 6 true 82 b43 ?_
 refine D.sz 20 [] 6 true 82 b43 ?_
 refine D.sz 21 [] 6 true 82 b43 ?_
 refine D.sz 22 [] 6 true 82 b43 ?_
 refine D.sz 23 [] 6 true 82 b43 ?_
 refine D.kf 24 [] b43 ?_
 refine D.done (by kernel_rfl) ?_
 exact St.wa (idR 3) (j41 _ g)
 refine D.sz 2 [] 1 true 77 b42 ?_
 refine D.sz 3 [] 1 true 77 b42 ?_
 refine D.sz 4 [] 1 true 77 b42 ?_
 refine D.kf 5 [] b42 ?_
 refine D.pq 1 [(6,[])] T ?_
 refine D.sz 7 [] 6 true 82 rfl ?_
 refine D.sz 8 [] 6 true 82 rfl ?_
 refine D.sz 9 [] 6 true 82 rfl ?_
 refine D.sz 10 [] 6 true 82 rfl ?_
 refine D.sz 11 [] 6 true 82 rfl ?_
 refine D.sz 12 [] 6 true 82 rfl ?_
 refine D.sz 13 [] 6 true 82 rfl ?_
 refine D.sz 14 [] 6 true 82 rfl ?_
 refine D.sz 15 [] 6 true 82 rfl ?_
 refine D.sz 16 [] 6 true 82 rfl ?_
 refine D.sz 17 [] 6 true 82 rfl ?_
 refine D.sz 18 [] 6 true 82 rfl ?_
 refine D.sz 19 [] 6 true 82 rfl ?_
 refine D.sz 20 [] 6 true 82 rfl ?_
 refine D.sz 21 [] 6 true 82 rfl ?_
 refine D.sz 22 [] 6 true 82 rfl ?_
 refine D.sz 23 [] 6 true 82 rfl ?_
 refine D.kf 24 [] rfl ?_
 refine D.done (by kernel_rfl) ?_
 exact St.wa (idR 3) (j41 _ g)
 refine C.exit (C.ex (C.ex (C.bex ?_)))
 exact St.wa [some 0] (j29 _ g)
 refine C.exit (C.ex (C.ex (C.bex ?_)))
 exact St.wk (j8 _ g) (Wk.mk' [] rfl rfl trivial trivial rfl)
theorem Wv (z:Qx) (c0:SurveyMaker) (post:Bool→Prop) (g:K0 z c0 post):
  Tr Tryz.prog 93 [.agg (Q3 z),.rp [.rp [.i c0.site.Floor.W,.i c0.site.Floor.H,.i c0.site.Floor.D,.sl 1 eI c0.site.Floor.Kind,.sl 1 eI c0.site.Floor.Out,.sl 5 Q3 c0.site.Zones,.sl 2 Q0 c0.site.Aparts,.sl 2 Q1 c0.site.Shelves,.sl 2 Q2 c0.site.Robots,.rm kI veI c0.shelf,.rm kI veB c0.robot,.rm kI veB c0.zoned,.rm kS veI c0.names,.rm kI veB c0.oneways,.sl 1 eI c0.shelves,.sl 1 eI c0.zones]]] [] 0 (pB post):=by
 refine Tr.go Tryz.func93 Tryz.ntmps93 fun _ _ _ _ o=>?_
 unfold K0 at g
 refine C.ss (U.bx ?_)
 refine U.pd 1 T (C.xt ?_)
 refine U.pd 1 T (C.xs (C.ss ?_))
 refine U.pd 4 T (C.nx ?_)
 refine C.jn (fun (x7:Int)=>[(2,.p 0 0),(4,.i x7)]) (fun x7=>[(0,.box (Q3 z))]) 1 g (fun x7 g=>?_) fun J8 g j8=>?_
 refine C.xt (U.pd 5 T (C.nx (C.ret ?_)))
 exact C.f1 T o (pBi g)
 refine C.block ?_
 refine St.wk (C.loop (fun (s9:Int×Int)=>[(1,.rp [.rp [.i c0.site.Floor.W,.i c0.site.Floor.H,.i c0.site.Floor.D,.sl 1 eI c0.site.Floor.Kind,.sl 1 eI c0.site.Floor.Out,.sl 5 Q3 c0.site.Zones,.sl 2 Q0 c0.site.Aparts,.sl 2 Q1 c0.site.Shelves,.sl 2 Q2 c0.site.Robots,.rm kI veI c0.shelf,.rm kI veB c0.robot,.rm kI veB c0.zoned,.rm kS veI c0.names,.rm kI veB c0.oneways,.sl 1 eI c0.shelves,.sl 1 eI c0.zones]]),(2,.p 0 0),(4,.i s9.1),(10,.sl 1 eI z.Cells),(11,.i (z.Cells.length:Int)),(12,.i s9.2)]) (fun s9=>[(0,.box (Q3 z))]) g (fun s9 Y10 g=>?_)) (Wk.a [some 0])
 refine C.ss (U.pd 1 T (C.xs ?_))
 refine C.ite rfl g (fun b13 g=>?_) fun b13 g=>?_
 refine C.skip (C.xs (C.block (C.ss ?_)))
 obtain⟨x16,y16,g⟩:=g
 refine U.ix T y16 ?_
 refine U.pd 2 T (C.xt ?_)
 refine U.ps 5 T rfl (U.r rfl (.none rfl) rfl rfl (by exact Rd.lk2 T (ke:=kI) (ve:=veI) (xs:=c0.shelf) (z0:=0) (x:=x16) rfl rfl kt3 zt3 (fun _=>rfl) rfl .rm rfl rfl rfl) ?_)
 refine U.pd 5 T (C.xs ?_)
 refine C.jn (fun (x19:Bool)=>[(1,.rp [.rp [.i c0.site.Floor.W,.i c0.site.Floor.H,.i c0.site.Floor.D,.sl 1 eI c0.site.Floor.Kind,.sl 1 eI c0.site.Floor.Out,.sl 5 Q3 c0.site.Zones,.sl 2 Q0 c0.site.Aparts,.sl 2 Q1 c0.site.Shelves,.sl 2 Q2 c0.site.Robots,.rm kI veI c0.shelf,.rm kI veB c0.robot,.rm kI veB c0.zoned,.rm kS veI c0.names,.rm kI veB c0.oneways,.sl 1 eI c0.shelves,.sl 1 eI c0.zones]]),(2,.p 0 0),(4,.i s9.1),(10,.sl 1 eI z.Cells),(11,.i (z.Cells.length:Int)),(12,.i s9.2),(38,.b x19)]) (fun x19=>[(0,.box (Q3 z))]) 1 g (fun x19 g=>?_) fun J20 g j20=>?_
 refine C.nx ?_
 refine C.jn (fun (x24:Int)=>[(1,.rp [.rp [.i c0.site.Floor.W,.i c0.site.Floor.H,.i c0.site.Floor.D,.sl 1 eI c0.site.Floor.Kind,.sl 1 eI c0.site.Floor.Out,.sl 5 Q3 c0.site.Zones,.sl 2 Q0 c0.site.Aparts,.sl 2 Q1 c0.site.Shelves,.sl 2 Q2 c0.site.Robots,.rm kI veI c0.shelf,.rm kI veB c0.robot,.rm kI veB c0.zoned,.rm kS veI c0.names,.rm kI veB c0.oneways,.sl 1 eI c0.shelves,.sl 1 eI c0.zones]]),(2,.p 0 0),(4,.i x24),(10,.sl 1 eI z.Cells),(11,.i (z.Cells.length:Int)),(12,.i s9.2)]) (fun x24=>[(0,.box (Q3 z))]) 1 g (fun x24 g=>?_) fun J25 g j25=>?_
 refine C.bnx (C.nx (U.start (U.pd 2 T (C.nx ?_))))
 exact St.wk (C.next g) (Wk.a [some 0])
 refine C.ite rfl g (fun b26 g=>?_) fun b26 g=>?_
 refine U.start (U.pd 3 T ?_)
 exact St.wa [some 0] (j25 _ g)
 refine C.skip ?_
 exact St.wa [some 0] (j25 _ g)
 refine U.start (U.ps 3 T rfl ?_)
 refine g.cs (fun b21 g=>?_) fun b21 g=>?_
 refine U.sk' 10 2 true 27 (ntF b21) ?_
 refine U.pk' (ntF b21) ?_
 refine U.done ?_
 exact St.wa [some 0] (j20 _ g)
 refine U.pq 7 2 true 27 (ntT b21) T ?_
 obtain⟨x22,y22,g⟩:=g
 refine U.r rfl (.tk 2 true 27 (ntT b21)) rfl rfl (by exact Rd.ix T rfl rfl rfl rfl rfl rfl y22) ?_
 refine U.pq 1 2 true 27 (ntT b21) T ?_
 refine U.k (Y5 x22 _ g) en89 (fun x23 g=>?_) (hw:=.take 2 true 27 _ (ntT b21) rfl rfl rfl)
 refine U.pk (ntT b21) ?_
 refine U.done ?_
 exact St.wa [some 0] (j20 _ g)
 refine C.exit (C.ex (C.ex (C.bex ?_)))
 exact St.wa [some 0] (j8 _ g)
theorem Ks (s_1:List Qx) (f_c0:SurveyMaker) (post:Int→Prop) (g:Qd s_1 f_c0 post):
  Tr Tryz.prog 92 [.sl 5 Q3 s_1,.fn (.func 93) [] [.rp [.rp [.i f_c0.site.Floor.W,.i f_c0.site.Floor.H,.i f_c0.site.Floor.D,.sl 1 eI f_c0.site.Floor.Kind,.sl 1 eI f_c0.site.Floor.Out,.sl 5 Q3 f_c0.site.Zones,.sl 2 Q0 f_c0.site.Aparts,.sl 2 Q1 f_c0.site.Shelves,.sl 2 Q2 f_c0.site.Robots,.rm kI veI f_c0.shelf,.rm kI veB f_c0.robot,.rm kI veB f_c0.zoned,.rm kS veI f_c0.names,.rm kI veB f_c0.oneways,.sl 1 eI f_c0.shelves,.sl 1 eI f_c0.zones]]]] [] 0 (pI post):=by
 refine Tr.go Tryz.func92 Tryz.ntmps92 fun _ _ _ _ o=>?_
 unfold Qd at g
 refine C.ss (U.pd 1 T (C.xs (C.ss ?_)))
 refine U.pd 3 T (C.nx ?_)
 refine C.jn (fun (x5:Unit)=>[]) (fun x5=>[]) 0 g (fun x5 g=>?_) fun J6 g j6=>?_
 refine C.xt (U.pd 1 T (C.nx (C.ret ?_)))
 exact C.f1 T o (pIi g)
 refine C.block ?_
 refine St.wk (C.loop (fun (s7:Int)=>[(0,.sl 5 Q3 s_1),(1,.fn (.func 93) [] [.rp [.rp [.i f_c0.site.Floor.W,.i f_c0.site.Floor.H,.i f_c0.site.Floor.D,.sl 1 eI f_c0.site.Floor.Kind,.sl 1 eI f_c0.site.Floor.Out,.sl 5 Q3 f_c0.site.Zones,.sl 2 Q0 f_c0.site.Aparts,.sl 2 Q1 f_c0.site.Shelves,.sl 2 Q2 f_c0.site.Robots,.rm kI veI f_c0.shelf,.rm kI veB f_c0.robot,.rm kI veB f_c0.zoned,.rm kS veI f_c0.names,.rm kI veB f_c0.oneways,.sl 1 eI f_c0.shelves,.sl 1 eI f_c0.zones]]]),(7,.i (s_1.length:Int)),(8,.i s7)]) (fun s7=>[]) g (fun s7 Y8 g=>?_)) (Wk.e)
 refine C.ss (U.pd 1 T (C.xs ?_))
 refine C.ite rfl g (fun b11 g=>?_) fun b11 g=>?_
 refine C.skip (C.xs (C.block (C.ss (U.pd 2 T (C.xt ?_)))))
 refine U.ps 3 T rfl ?_
 obtain⟨x16,y16,g⟩:=g
 refine U.ix T y16 ?_
 refine U.ps 1 T rfl (U.k (Wv x16 f_c0 _ g) en93 (fun x17 g=>?_))
 refine U.done (C.nx ?_)
 refine C.ite rfl g (fun b18 g=>?_) fun b18 g=>?_
 refine C.ss (U.pd 2 T (C.nx (C.ret (C.brt (C.rt (C.rt (C.brt (C.rt ?_))))))))
 exact C.f1 T o (pIi g)
 refine C.skip (C.bnx (C.nx (U.start (U.pd 2 T (C.nx ?_)))))
 exact St.wk (C.next g) (Wk.e)
 refine C.exit (C.ex (C.ex (C.bex ?_)))
 exact St.wk (j6 _ g) (Wk.mk' [] rfl rfl trivial trivial rfl)
theorem WV (m:SurveyMaker) (post:Int→Prop) (g:X0 m post):
  Tr Tryz.prog 43 [.rp [.i m.site.Floor.W,.i m.site.Floor.H,.i m.site.Floor.D,.sl 1 eI m.site.Floor.Kind,.sl 1 eI m.site.Floor.Out,.sl 5 Q3 m.site.Zones,.sl 2 Q0 m.site.Aparts,.sl 2 Q1 m.site.Shelves,.sl 2 Q2 m.site.Robots,.rm kI veI m.shelf,.rm kI veB m.robot,.rm kI veB m.zoned,.rm kS veI m.names,.rm kI veB m.oneways,.sl 1 eI m.shelves,.sl 1 eI m.zones]] [] 0 (pI post):=by
 refine Tr.go Tryz.func43 Tryz.ntmps43 fun _ _ _ _ o=>?_
 unfold X0 at g
 refine C.ss (U.bx ?_)
 refine U.pd 1 T (C.xt ?_)
 refine U.ps 6 T rfl (U.k (Ks m.site.Zones m _ g) en92 (fun x5 g=>?_))
 refine U.pd 1 T (C.nx (C.ret ?_))
 exact C.f1 T o (pIi g)
theorem WT (m:SurveyMaker) (post:Bool→Prop) (g:X3 m post):
  Tr Tryz.prog 44 [.rp [.i m.site.Floor.W,.i m.site.Floor.H,.i m.site.Floor.D,.sl 1 eI m.site.Floor.Kind,.sl 1 eI m.site.Floor.Out,.sl 5 Q3 m.site.Zones,.sl 2 Q0 m.site.Aparts,.sl 2 Q1 m.site.Shelves,.sl 2 Q2 m.site.Robots,.rm kI veI m.shelf,.rm kI veB m.robot,.rm kI veB m.zoned,.rm kS veI m.names,.rm kI veB m.oneways,.sl 1 eI m.shelves,.sl 1 eI m.zones]] [] 0 (pB post):=by
 refine Tr.go Tryz.func44 Tryz.ntmps44 fun _ _ _ _ o=>?_
 unfold X3 at g
 refine C.ss (U.pd 1 T (C.xt ?_))
 refine U.ps 6 T rfl (U.k (Kw m.site.Floor.Kind 3 _ g) en94 (fun x5 g=>?_))
 refine U.pd 1 T (C.nx (C.ret ?_))
 exact C.f1 T o (pBi g)
theorem Q0B (s_1:ApiSite) (post:Bool→Prop) (g:G9 s_1 post):
  Tr Tryz.prog 18 [.agg (Q9 s_1)] [] 0 (pB post):=by
 refine Tr.go Tryz.func18 Tryz.ntmps18 fun _ _ _ _ o=>?_
 unfold G9 at g
 refine C.ss (U.bx ?_)
 refine U.pd 1 T (C.xs (C.ss ?_))
 refine U.ps 2 T rfl (U.k (Q1h s_1.Floor _ g) en32 (fun x5 g=>?_))
 refine U.pd 1 T (C.nx ?_)
 refine C.ite rfl g (fun b6 g=>?_) fun b6 g=>?_
 refine C.ss (U.pd 1 T (C.nx (C.ret (C.rt ?_))))
 exact C.f1 T o (pBi g)
 refine C.skip (C.xt (U.ps 2 T rfl (U.e rfl (.none rfl) (by exact Eff.c [] (v:=false) (Zu s_1.Floor _ g) en33 rfl rfl rfl (.eq rfl) trivial rfl rfl rfl rfl rfl rfl (fun h=>by cases h) (.inr ⟨rfl,rfl⟩) (fun _=>rfl) (fun _=>rfl) rfl) (fun x11' g=>?_))))
 obtain⟨x11⟩:=x11'
 refine U.pd 1 T (C.xs (C.ss ?_))
 refine U.pd 4 T (C.nx ?_)
 refine C.jn (fun (x14:Int×Int×Int×List Int×List Int×List Qx×List Qk×List QB×List QK×List (Int×Int)×List (Int×Bool)×List (Int×Bool)×List (ByteArray×Int)×List (Int×Bool)×List Int×List Int)=>[(1,.p 0 0),(3,.p 1 0)]) (fun x14=>[(0,.box (Q9 s_1)),(1,.box [.i x14.1,.i x14.2.1,.i x14.2.2.1,.sl 1 eI x14.2.2.2.1,.sl 1 eI x14.2.2.2.2.1,.o 2,.o 3,.o 4,.o 5,.o 6,.o 7,.o 8,.o 9,.o 10,.o 11,.o 12]),(2,.val (.os 5 Q3 x14.2.2.2.2.2.1)),(3,.val (.os 2 Q0 x14.2.2.2.2.2.2.1)),(4,.val (.os 2 Q1 x14.2.2.2.2.2.2.2.1)),(5,.val (.os 2 Q2 x14.2.2.2.2.2.2.2.2.1)),(6,.val (.om kI veI x14.2.2.2.2.2.2.2.2.2.1)),(7,.val (.om kI veB x14.2.2.2.2.2.2.2.2.2.2.1)),(8,.val (.om kI veB x14.2.2.2.2.2.2.2.2.2.2.2.1)),(9,.val (.om kS veI x14.2.2.2.2.2.2.2.2.2.2.2.2.1)),(10,.val (.om kI veB x14.2.2.2.2.2.2.2.2.2.2.2.2.2.1)),(11,.val (.os 1 eI x14.2.2.2.2.2.2.2.2.2.2.2.2.2.2.1)),(12,.val (.os 1 eI x14.2.2.2.2.2.2.2.2.2.2.2.2.2.2.2))]) 13 g (fun x14 g=>?_) fun J15 g j15=>?_
 refine C.xs (C.ss (U.pd 4 T (C.nx ?_)))
 refine C.jn (fun (x43:Int×Int×Int×List Int×List Int×List Qx×List Qk×List QB×List QK×List (Int×Int)×List (Int×Bool)×List (Int×Bool)×List (ByteArray×Int)×List (Int×Bool)×List Int×List Int)=>[(1,.p 0 0),(3,.p 1 0)]) (fun x43=>[(0,.box (Q9 s_1)),(1,.box [.i x43.1,.i x43.2.1,.i x43.2.2.1,.sl 1 eI x43.2.2.2.1,.sl 1 eI x43.2.2.2.2.1,.o 2,.o 3,.o 4,.o 5,.o 6,.o 7,.o 8,.o 9,.o 10,.o 11,.o 12]),(2,.val (.os 5 Q3 x43.2.2.2.2.2.1)),(3,.val (.os 2 Q0 x43.2.2.2.2.2.2.1)),(4,.val (.os 2 Q1 x43.2.2.2.2.2.2.2.1)),(5,.val (.os 2 Q2 x43.2.2.2.2.2.2.2.2.1)),(6,.val (.om kI veI x43.2.2.2.2.2.2.2.2.2.1)),(7,.val (.om kI veB x43.2.2.2.2.2.2.2.2.2.2.1)),(8,.val (.om kI veB x43.2.2.2.2.2.2.2.2.2.2.2.1)),(9,.val (.om kS veI x43.2.2.2.2.2.2.2.2.2.2.2.2.1)),(10,.val (.om kI veB x43.2.2.2.2.2.2.2.2.2.2.2.2.2.1)),(11,.val (.os 1 eI x43.2.2.2.2.2.2.2.2.2.2.2.2.2.2.1)),(12,.val (.os 1 eI x43.2.2.2.2.2.2.2.2.2.2.2.2.2.2.2))]) 13 g (fun x43 g=>?_) fun J44 g j44=>?_
 refine C.xs (C.ss (U.pd 4 T (C.nx ?_)))
 refine C.jn (fun (x63:Int×Int×Int×List Int×List Int×List Qx×List Qk×List QB×List QK×List (Int×Int)×List (Int×Bool)×List (Int×Bool)×List (ByteArray×Int)×List (Int×Bool)×List Int×List Int)=>[(1,.p 0 0),(3,.p 1 0)]) (fun x63=>[(0,.box (Q9 s_1)),(1,.box [.i x63.1,.i x63.2.1,.i x63.2.2.1,.sl 1 eI x63.2.2.2.1,.sl 1 eI x63.2.2.2.2.1,.o 2,.o 3,.o 4,.o 5,.o 6,.o 7,.o 8,.o 9,.o 10,.o 11,.o 12]),(2,.val (.os 5 Q3 x63.2.2.2.2.2.1)),(3,.val (.os 2 Q0 x63.2.2.2.2.2.2.1)),(4,.val (.os 2 Q1 x63.2.2.2.2.2.2.2.1)),(5,.val (.os 2 Q2 x63.2.2.2.2.2.2.2.2.1)),(6,.val (.om kI veI x63.2.2.2.2.2.2.2.2.2.1)),(7,.val (.om kI veB x63.2.2.2.2.2.2.2.2.2.2.1)),(8,.val (.om kI veB x63.2.2.2.2.2.2.2.2.2.2.2.1)),(9,.val (.om kS veI x63.2.2.2.2.2.2.2.2.2.2.2.2.1)),(10,.val (.om kI veB x63.2.2.2.2.2.2.2.2.2.2.2.2.2.1)),(11,.val (.os 1 eI x63.2.2.2.2.2.2.2.2.2.2.2.2.2.2.1)),(12,.val (.os 1 eI x63.2.2.2.2.2.2.2.2.2.2.2.2.2.2.2))]) 13 g (fun x63 g=>?_) fun J64 g j64=>?_
 refine C.xs (C.ss (U.pd 4 T (C.nx ?_)))
 refine C.jn (fun (x83:Int×Int×Int×List Int×List Int×List Qx×List Qk×List QB×List QK×List (Int×Int)×List (Int×Bool)×List (Int×Bool)×List (ByteArray×Int)×List (Int×Bool)×List Int×List Int)=>[(3,.p 0 0)]) (fun x83=>[(0,.box [.i x83.1,.i x83.2.1,.i x83.2.2.1,.sl 1 eI x83.2.2.2.1,.sl 1 eI x83.2.2.2.2.1,.o 1,.o 2,.o 3,.o 4,.o 5,.o 6,.o 7,.o 8,.o 9,.o 10,.o 11]),(1,.val (.os 5 Q3 x83.2.2.2.2.2.1)),(2,.val (.os 2 Q0 x83.2.2.2.2.2.2.1)),(3,.val (.os 2 Q1 x83.2.2.2.2.2.2.2.1)),(4,.val (.os 2 Q2 x83.2.2.2.2.2.2.2.2.1)),(5,.val (.om kI veI x83.2.2.2.2.2.2.2.2.2.1)),(6,.val (.om kI veB x83.2.2.2.2.2.2.2.2.2.2.1)),(7,.val (.om kI veB x83.2.2.2.2.2.2.2.2.2.2.2.1)),(8,.val (.om kS veI x83.2.2.2.2.2.2.2.2.2.2.2.2.1)),(9,.val (.om kI veB x83.2.2.2.2.2.2.2.2.2.2.2.2.2.1)),(10,.val (.os 1 eI x83.2.2.2.2.2.2.2.2.2.2.2.2.2.2.1)),(11,.val (.os 1 eI x83.2.2.2.2.2.2.2.2.2.2.2.2.2.2.2))]) 12 g (fun x83 g=>?_) fun J84 g j84=>?_
 refine C.xs ?_
 refine C.jn (fun (x101:Bool)=>[(2,.b x101)]) (fun x101=>[]) 0 g (fun x101 g=>?_) fun J102 g j102=>?_
 refine C.nx (C.ret ?_)
 exact C.f1 T o (pBi g)
 refine U.start (U.ps 1 T rfl ?_)
 refine U.k (WY ({site:=({Floor:=({W:=x83.1,H:=x83.2.1,D:=x83.2.2.1,Kind:=x83.2.2.2.1,Out:=x83.2.2.2.2.1:ApiFloor}),Zones:=x83.2.2.2.2.2.1,Aparts:=x83.2.2.2.2.2.2.1,Shelves:=x83.2.2.2.2.2.2.2.1,Robots:=x83.2.2.2.2.2.2.2.2.1:ApiSite}),shelf:=x83.2.2.2.2.2.2.2.2.2.1,robot:=x83.2.2.2.2.2.2.2.2.2.2.1,zoned:=x83.2.2.2.2.2.2.2.2.2.2.2.1,names:=x83.2.2.2.2.2.2.2.2.2.2.2.2.1,oneways:=x83.2.2.2.2.2.2.2.2.2.2.2.2.2.1,shelves:=x83.2.2.2.2.2.2.2.2.2.2.2.2.2.2.1,zones:=x83.2.2.2.2.2.2.2.2.2.2.2.2.2.2.2:SurveyMaker}) _ g) en42 fun x103 g=>?_
 refine U.ps 2 T rfl ?_
 refine g.cs (fun b104 g=>?_) fun b104 g=>?_
 refine U.pq 1 3 true 100 b104 T ?_
 refine U.k (WV ({site:=({Floor:=({W:=x83.1,H:=x83.2.1,D:=x83.2.2.1,Kind:=x83.2.2.2.1,Out:=x83.2.2.2.2.1:ApiFloor}),Zones:=x83.2.2.2.2.2.1,Aparts:=x83.2.2.2.2.2.2.1,Shelves:=x83.2.2.2.2.2.2.2.1,Robots:=x83.2.2.2.2.2.2.2.2.1:ApiSite}),shelf:=x83.2.2.2.2.2.2.2.2.2.1,robot:=x83.2.2.2.2.2.2.2.2.2.2.1,zoned:=x83.2.2.2.2.2.2.2.2.2.2.2.1,names:=x83.2.2.2.2.2.2.2.2.2.2.2.2.1,oneways:=x83.2.2.2.2.2.2.2.2.2.2.2.2.2.1,shelves:=x83.2.2.2.2.2.2.2.2.2.2.2.2.2.2.1,zones:=x83.2.2.2.2.2.2.2.2.2.2.2.2.2.2.2:SurveyMaker}) _ g) en43 (fun x105 g=>?_) (hw:=.take 3 true 100 _ b104 rfl rfl rfl)
 refine U.pq 1 3 true 100 b104 T ?_
 refine U.pk b104 ?_
 refine U.ps 1 T rfl ?_
 refine g.cs (fun b106 g=>?_) fun b106 g=>?_
 refine U.pq 1 8 true 105 b106 T ?_
 refine U.k (WT ({site:=({Floor:=({W:=x83.1,H:=x83.2.1,D:=x83.2.2.1,Kind:=x83.2.2.2.1,Out:=x83.2.2.2.2.1:ApiFloor}),Zones:=x83.2.2.2.2.2.1,Aparts:=x83.2.2.2.2.2.2.1,Shelves:=x83.2.2.2.2.2.2.2.1,Robots:=x83.2.2.2.2.2.2.2.2.1:ApiSite}),shelf:=x83.2.2.2.2.2.2.2.2.2.1,robot:=x83.2.2.2.2.2.2.2.2.2.2.1,zoned:=x83.2.2.2.2.2.2.2.2.2.2.2.1,names:=x83.2.2.2.2.2.2.2.2.2.2.2.2.1,oneways:=x83.2.2.2.2.2.2.2.2.2.2.2.2.2.1,shelves:=x83.2.2.2.2.2.2.2.2.2.2.2.2.2.2.1,zones:=x83.2.2.2.2.2.2.2.2.2.2.2.2.2.2.2:SurveyMaker}) _ g) en44 (fun x107 g=>?_) (hw:=.take 8 true 105 _ b106 rfl rfl rfl)
 refine U.pk b106 ?_
 refine U.pd 1 T ?_
 exact St.wn (j102 _ g)
 refine U.sk' 2 8 true 105 b106 ?_
 refine U.pk' b106 ?_
 refine U.pd 1 T ?_
 exact St.wn (j102 _ g)
 refine U.sk' 3 3 true 100 b104 ?_
 refine U.pk' b104 ?_
 refine U.ps 1 T rfl (U.sk' 2 8 true 105 rfl ?_)
 refine U.pk' rfl ?_
 refine U.pd 1 T ?_
 exact St.wn (j102 _ g)
 refine C.block ?_
 refine St.wk (C.loop (fun (s85:Int×Int×Int×List Int×List Int×List Qx×List Qk×List QB×List QK×List (Int×Int)×List (Int×Bool)×List (Int×Bool)×List (ByteArray×Int)×List (Int×Bool)×List Int×List Int×Int)=>[(3,.p 0 0),(86,.sl 2 Q2 s_1.Robots),(87,.i (s_1.Robots.length:Int)),(88,.i s85.2.2.2.2.2.2.2.2.2.2.2.2.2.2.2.2)]) (fun s85=>[(0,.box [.i s85.1,.i s85.2.1,.i s85.2.2.1,.sl 1 eI s85.2.2.2.1,.sl 1 eI s85.2.2.2.2.1,.o 1,.o 2,.o 3,.o 4,.o 5,.o 6,.o 7,.o 8,.o 9,.o 10,.o 11]),(1,.val (.os 5 Q3 s85.2.2.2.2.2.1)),(2,.val (.os 2 Q0 s85.2.2.2.2.2.2.1)),(3,.val (.os 2 Q1 s85.2.2.2.2.2.2.2.1)),(4,.val (.os 2 Q2 s85.2.2.2.2.2.2.2.2.1)),(5,.val (.om kI veI s85.2.2.2.2.2.2.2.2.2.1)),(6,.val (.om kI veB s85.2.2.2.2.2.2.2.2.2.2.1)),(7,.val (.om kI veB s85.2.2.2.2.2.2.2.2.2.2.2.1)),(8,.val (.om kS veI s85.2.2.2.2.2.2.2.2.2.2.2.2.1)),(9,.val (.om kI veB s85.2.2.2.2.2.2.2.2.2.2.2.2.2.1)),(10,.val (.os 1 eI s85.2.2.2.2.2.2.2.2.2.2.2.2.2.2.1)),(11,.val (.os 1 eI s85.2.2.2.2.2.2.2.2.2.2.2.2.2.2.2.1))]) g (fun s85 Y86 g=>?_)) (Wk.a (sqR 1 12))
 refine C.ss (U.pd 1 T (C.xs ?_))
 refine C.ite rfl g (fun b89 g=>?_) fun b89 g=>?_
 refine C.skip (C.xs (C.block (C.ss ?_)))
 obtain⟨x92,y92,g⟩:=g
 refine U.ix T y92 ?_
 refine U.ps 1 T rfl (U.al T ?_)
 refine U.st T ?_
 refine U.done (C.xt (U.ps 2 T rfl ?_))
 refine U.c (idR 12) (GV x92 ({site:=({Floor:=({W:=s85.1,H:=s85.2.1,D:=s85.2.2.1,Kind:=s85.2.2.2.1,Out:=s85.2.2.2.2.1:ApiFloor}),Zones:=s85.2.2.2.2.2.1,Aparts:=s85.2.2.2.2.2.2.1,Shelves:=s85.2.2.2.2.2.2.2.1,Robots:=s85.2.2.2.2.2.2.2.2.1:ApiSite}),shelf:=s85.2.2.2.2.2.2.2.2.2.1,robot:=s85.2.2.2.2.2.2.2.2.2.2.1,zoned:=s85.2.2.2.2.2.2.2.2.2.2.2.1,names:=s85.2.2.2.2.2.2.2.2.2.2.2.2.1,oneways:=s85.2.2.2.2.2.2.2.2.2.2.2.2.2.1,shelves:=s85.2.2.2.2.2.2.2.2.2.2.2.2.2.2.1,zones:=s85.2.2.2.2.2.2.2.2.2.2.2.2.2.2.2.1:SurveyMaker}) _ g) en41 fun x95 g=>?_
 refine U.pd 1 T (C.nx ?_)
 refine C.ite rfl g (fun b96 g=>?_) fun b96 g=>?_
 refine C.ss (U.pd 1 T (C.nx (C.ret (C.brt (C.rt (C.rt (C.brt (C.rt ?_))))))))
 exact C.f1 T o (pBi g)
 refine C.skip (C.bnx (C.nx (U.start (U.pd 2 T (C.nx ?_)))))
 exact St.wk (C.next g) (Wk.a [some 0,some 25,some 26,some 27,some 28,some 29,some 30,some 31,some 32,some 33,some 34,some 35])
 refine C.exit (C.ex (C.ex (C.bex ?_)))
 exact St.wa (idR 12) (j84 _ g)
 refine C.block ?_
 refine St.wk (C.loop (fun (s65:Int×Int×Int×List Int×List Int×List Qx×List Qk×List QB×List QK×List (Int×Int)×List (Int×Bool)×List (Int×Bool)×List (ByteArray×Int)×List (Int×Bool)×List Int×List Int×Int)=>[(1,.p 0 0),(3,.p 1 0),(74,.sl 2 Q1 s_1.Shelves),(75,.i (s_1.Shelves.length:Int)),(76,.i s65.2.2.2.2.2.2.2.2.2.2.2.2.2.2.2.2)]) (fun s65=>[(0,.box (Q9 s_1)),(1,.box [.i s65.1,.i s65.2.1,.i s65.2.2.1,.sl 1 eI s65.2.2.2.1,.sl 1 eI s65.2.2.2.2.1,.o 2,.o 3,.o 4,.o 5,.o 6,.o 7,.o 8,.o 9,.o 10,.o 11,.o 12]),(2,.val (.os 5 Q3 s65.2.2.2.2.2.1)),(3,.val (.os 2 Q0 s65.2.2.2.2.2.2.1)),(4,.val (.os 2 Q1 s65.2.2.2.2.2.2.2.1)),(5,.val (.os 2 Q2 s65.2.2.2.2.2.2.2.2.1)),(6,.val (.om kI veI s65.2.2.2.2.2.2.2.2.2.1)),(7,.val (.om kI veB s65.2.2.2.2.2.2.2.2.2.2.1)),(8,.val (.om kI veB s65.2.2.2.2.2.2.2.2.2.2.2.1)),(9,.val (.om kS veI s65.2.2.2.2.2.2.2.2.2.2.2.2.1)),(10,.val (.om kI veB s65.2.2.2.2.2.2.2.2.2.2.2.2.2.1)),(11,.val (.os 1 eI s65.2.2.2.2.2.2.2.2.2.2.2.2.2.2.1)),(12,.val (.os 1 eI s65.2.2.2.2.2.2.2.2.2.2.2.2.2.2.2.1))]) g (fun s65 Y66 g=>?_)) (Wk.a (idR 13))
 refine C.ss (U.pd 1 T (C.xs ?_))
 refine C.ite rfl g (fun b69 g=>?_) fun b69 g=>?_
 refine C.skip (C.xs (C.block (C.ss ?_)))
 obtain⟨x72,y72,g⟩:=g
 refine U.ix T y72 ?_
 refine U.ps 1 T rfl (U.al T ?_)
 refine U.st T ?_
 refine U.done (C.xt (U.ps 2 T rfl ?_))
 refine U.c (sqR 1 12) (W7 x72 ({site:=({Floor:=({W:=s65.1,H:=s65.2.1,D:=s65.2.2.1,Kind:=s65.2.2.2.1,Out:=s65.2.2.2.2.1:ApiFloor}),Zones:=s65.2.2.2.2.2.1,Aparts:=s65.2.2.2.2.2.2.1,Shelves:=s65.2.2.2.2.2.2.2.1,Robots:=s65.2.2.2.2.2.2.2.2.1:ApiSite}),shelf:=s65.2.2.2.2.2.2.2.2.2.1,robot:=s65.2.2.2.2.2.2.2.2.2.2.1,zoned:=s65.2.2.2.2.2.2.2.2.2.2.2.1,names:=s65.2.2.2.2.2.2.2.2.2.2.2.2.1,oneways:=s65.2.2.2.2.2.2.2.2.2.2.2.2.2.1,shelves:=s65.2.2.2.2.2.2.2.2.2.2.2.2.2.2.1,zones:=s65.2.2.2.2.2.2.2.2.2.2.2.2.2.2.2.1:SurveyMaker}) _ g) en40 fun x75 g=>?_
 refine U.pd 1 T (C.nx ?_)
 refine C.ite rfl g (fun b76 g=>?_) fun b76 g=>?_
 refine C.ss (U.pd 1 T (C.nx (C.ret (C.brt (C.rt (C.rt (C.brt (C.rt ?_))))))))
 exact C.f1 T o (pBi g)
 refine C.skip (C.bnx (C.nx (U.start (U.pd 2 T (C.nx ?_)))))
 exact St.wk (C.next g) (Wk.a [some 0,some 1,some 26,some 27,some 28,some 29,some 30,some 31,some 32,some 33,some 34,some 35,some 36])
 refine C.exit (C.ex (C.ex (C.bex ?_)))
 exact St.wa (idR 13) (j64 _ g)
 refine C.block ?_
 refine St.wk (C.loop (fun (s45:Int×Int×Int×List Int×List Int×List Qx×List Qk×List QB×List QK×List (Int×Int)×List (Int×Bool)×List (Int×Bool)×List (ByteArray×Int)×List (Int×Bool)×List Int×List Int×Int)=>[(1,.p 0 0),(3,.p 1 0),(62,.sl 2 Q0 s_1.Aparts),(63,.i (s_1.Aparts.length:Int)),(64,.i s45.2.2.2.2.2.2.2.2.2.2.2.2.2.2.2.2)]) (fun s45=>[(0,.box (Q9 s_1)),(1,.box [.i s45.1,.i s45.2.1,.i s45.2.2.1,.sl 1 eI s45.2.2.2.1,.sl 1 eI s45.2.2.2.2.1,.o 2,.o 3,.o 4,.o 5,.o 6,.o 7,.o 8,.o 9,.o 10,.o 11,.o 12]),(2,.val (.os 5 Q3 s45.2.2.2.2.2.1)),(3,.val (.os 2 Q0 s45.2.2.2.2.2.2.1)),(4,.val (.os 2 Q1 s45.2.2.2.2.2.2.2.1)),(5,.val (.os 2 Q2 s45.2.2.2.2.2.2.2.2.1)),(6,.val (.om kI veI s45.2.2.2.2.2.2.2.2.2.1)),(7,.val (.om kI veB s45.2.2.2.2.2.2.2.2.2.2.1)),(8,.val (.om kI veB s45.2.2.2.2.2.2.2.2.2.2.2.1)),(9,.val (.om kS veI s45.2.2.2.2.2.2.2.2.2.2.2.2.1)),(10,.val (.om kI veB s45.2.2.2.2.2.2.2.2.2.2.2.2.2.1)),(11,.val (.os 1 eI s45.2.2.2.2.2.2.2.2.2.2.2.2.2.2.1)),(12,.val (.os 1 eI s45.2.2.2.2.2.2.2.2.2.2.2.2.2.2.2.1))]) g (fun s45 Y46 g=>?_)) (Wk.a (idR 13))
 refine C.ss (U.pd 1 T (C.xs ?_))
 refine C.ite rfl g (fun b49 g=>?_) fun b49 g=>?_
 refine C.skip (C.xs (C.block (C.ss ?_)))
 obtain⟨x52,y52,g⟩:=g
 refine U.ix T y52 ?_
 refine U.ps 1 T rfl (U.al T ?_)
 refine U.st T ?_
 refine U.done (C.xt (U.ps 2 T rfl ?_))
 refine U.c (sqR 1 12) (W6 x52 ({site:=({Floor:=({W:=s45.1,H:=s45.2.1,D:=s45.2.2.1,Kind:=s45.2.2.2.1,Out:=s45.2.2.2.2.1:ApiFloor}),Zones:=s45.2.2.2.2.2.1,Aparts:=s45.2.2.2.2.2.2.1,Shelves:=s45.2.2.2.2.2.2.2.1,Robots:=s45.2.2.2.2.2.2.2.2.1:ApiSite}),shelf:=s45.2.2.2.2.2.2.2.2.2.1,robot:=s45.2.2.2.2.2.2.2.2.2.2.1,zoned:=s45.2.2.2.2.2.2.2.2.2.2.2.1,names:=s45.2.2.2.2.2.2.2.2.2.2.2.2.1,oneways:=s45.2.2.2.2.2.2.2.2.2.2.2.2.2.1,shelves:=s45.2.2.2.2.2.2.2.2.2.2.2.2.2.2.1,zones:=s45.2.2.2.2.2.2.2.2.2.2.2.2.2.2.2.1:SurveyMaker}) _ g) en39 fun x55 g=>?_
 refine U.pd 1 T (C.nx ?_)
 refine C.ite rfl g (fun b56 g=>?_) fun b56 g=>?_
 refine C.ss (U.pd 1 T (C.nx (C.ret (C.brt (C.rt (C.rt (C.brt (C.rt ?_))))))))
 exact C.f1 T o (pBi g)
 refine C.skip (C.bnx (C.nx (U.start (U.pd 2 T (C.nx ?_)))))
 exact St.wk (C.next g) (Wk.a [some 0,some 1,some 26,some 27,some 28,some 29,some 30,some 31,some 32,some 33,some 34,some 35,some 36])
 refine C.exit (C.ex (C.ex (C.bex ?_)))
 exact St.wa (idR 13) (j44 _ g)
 refine C.block ?_
 refine St.wk (C.loop (fun (s16:Int×Int×Int×List Int×List Int×List Qx×List Qk×List QB×List QK×List (Int×Int)×List (Int×Bool)×List (Int×Bool)×List (ByteArray×Int)×List (Int×Bool)×List Int×List Int×Int)=>[(1,.p 0 0),(3,.p 1 0),(20,.sl 5 Q3 s_1.Zones),(21,.i (s_1.Zones.length:Int)),(22,.i s16.2.2.2.2.2.2.2.2.2.2.2.2.2.2.2.2)]) (fun s16=>[(0,.box (Q9 s_1)),(1,.box [.i s16.1,.i s16.2.1,.i s16.2.2.1,.sl 1 eI s16.2.2.2.1,.sl 1 eI s16.2.2.2.2.1,.o 2,.o 3,.o 4,.o 5,.o 6,.o 7,.o 8,.o 9,.o 10,.o 11,.o 12]),(2,.val (.os 5 Q3 s16.2.2.2.2.2.1)),(3,.val (.os 2 Q0 s16.2.2.2.2.2.2.1)),(4,.val (.os 2 Q1 s16.2.2.2.2.2.2.2.1)),(5,.val (.os 2 Q2 s16.2.2.2.2.2.2.2.2.1)),(6,.val (.om kI veI s16.2.2.2.2.2.2.2.2.2.1)),(7,.val (.om kI veB s16.2.2.2.2.2.2.2.2.2.2.1)),(8,.val (.om kI veB s16.2.2.2.2.2.2.2.2.2.2.2.1)),(9,.val (.om kS veI s16.2.2.2.2.2.2.2.2.2.2.2.2.1)),(10,.val (.om kI veB s16.2.2.2.2.2.2.2.2.2.2.2.2.2.1)),(11,.val (.os 1 eI s16.2.2.2.2.2.2.2.2.2.2.2.2.2.2.1)),(12,.val (.os 1 eI s16.2.2.2.2.2.2.2.2.2.2.2.2.2.2.2.1))]) g (fun s16 Y17 g=>?_)) (Wk.a [some 0,some 12,some 1,some 2,some 3,some 4,some 5,some 6,some 7,some 8,some 9,some 10,some 11])
 refine C.ss (U.pd 1 T (C.xs ?_))
 refine C.ite rfl g (fun b20 g=>?_) fun b20 g=>?_
 refine C.skip (C.xs (C.block (C.ss ?_)))
 obtain⟨x23,y23,g⟩:=g
 refine U.ix T y23 ?_
 refine U.ps 1 T rfl (U.al T ?_)
 refine U.st T ?_
 refine U.done (C.xs ?_)
 refine C.jn (fun (x24:Int×Int×Int×List Int×List Int×List Qx×List Qk×List QB×List QK×List (Int×Int)×List (Int×Bool)×List (Int×Bool)×List (ByteArray×Int)×List (Int×Bool)×List Int×List Int×Bool)=>[(1,.p 0 0),(3,.p 1 0),(20,.sl 5 Q3 s_1.Zones),(21,.i (s_1.Zones.length:Int)),(22,.i s16.2.2.2.2.2.2.2.2.2.2.2.2.2.2.2.2),(59,.b x24.2.2.2.2.2.2.2.2.2.2.2.2.2.2.2.2)]) (fun x24=>[(0,.box (Q9 s_1)),(1,.box [.i x24.1,.i x24.2.1,.i x24.2.2.1,.sl 1 eI x24.2.2.2.1,.sl 1 eI x24.2.2.2.2.1,.o 2,.o 3,.o 4,.o 5,.o 6,.o 7,.o 8,.o 9,.o 10,.o 11,.o 12]),(2,.val (.os 5 Q3 x24.2.2.2.2.2.1)),(3,.val (.os 2 Q0 x24.2.2.2.2.2.2.1)),(4,.val (.os 2 Q1 x24.2.2.2.2.2.2.2.1)),(5,.val (.os 2 Q2 x24.2.2.2.2.2.2.2.2.1)),(6,.val (.om kI veI x24.2.2.2.2.2.2.2.2.2.1)),(7,.val (.om kI veB x24.2.2.2.2.2.2.2.2.2.2.1)),(8,.val (.om kI veB x24.2.2.2.2.2.2.2.2.2.2.2.1)),(9,.val (.om kS veI x24.2.2.2.2.2.2.2.2.2.2.2.2.1)),(10,.val (.om kI veB x24.2.2.2.2.2.2.2.2.2.2.2.2.2.1)),(11,.val (.os 1 eI x24.2.2.2.2.2.2.2.2.2.2.2.2.2.2.1)),(12,.val (.os 1 eI x24.2.2.2.2.2.2.2.2.2.2.2.2.2.2.2.1))]) 13 g (fun x24 g=>?_) fun J25 g j25=>?_
 refine C.nx ?_
 refine C.ite rfl g (fun b36 g=>?_) fun b36 g=>?_
 refine C.ss (U.pd 1 T (C.nx (C.ret (C.brt (C.rt (C.rt (C.brt (C.rt ?_))))))))
 exact C.f1 T o (pBi g)
 refine C.skip (C.bnx (C.nx (U.start (U.pd 2 T (C.nx ?_)))))
 exact St.wk (C.next g) (Wk.a (idR 13))
 refine U.start (U.ps 2 T rfl (U.k (GM x23.Name _ g) en34 (fun x26 g=>?_)))
 refine U.ps 2 T rfl ?_
 refine g.cs (fun b27 g=>?_) fun b27 g=>?_
 refine U.pq 2 4 false 30 (ntF b27) T ?_
 refine U.k (Yb x23.Speed 1 100 _ g) en35 (fun x28 g=>?_) (hw:=.take 4 false 30 _ (ntF b27) rfl rfl rfl)
 refine U.pq 1 4 false 30 (ntF b27) T ?_
 refine U.pk' (ntF b27) ?_
 refine U.ps 1 T rfl ?_
 refine g.cs (fun b29 g=>?_) fun b29 g=>?_
 refine U.pq 3 10 false 36 (ntF b29) T ?_
 refine U.pk' (ntF b29) ?_
 refine U.ps 1 T rfl ?_
 refine g.cs (fun b30 g=>?_) fun b30 g=>?_
 refine U.sk' 4 15 false 41 b30 ?_
 refine U.pk b30 ?_
 refine U.ps 1 T rfl (U.sk' 5 21 false 47 rfl ?_)
 refine U.pk rfl ?_
 refine U.ps 1 T rfl (U.sk' 4 28 false 54 rfl ?_)
 refine U.pk rfl ?_
 refine U.done ?_
 exact St.wa (idR 13) (j25 _ g)
 refine U.pq 2 15 false 41 b30 T ?_
 refine U.k (Q1f x23.Shut _ g) en36 (fun x31 g=>?_) (hw:=.take 15 false 41 _ b30 rfl rfl rfl)
 refine U.pq 1 15 false 41 b30 T ?_
 refine U.pk' b30 ?_
 refine U.ps 1 T rfl ?_
 refine g.cs (fun b32 g=>?_) fun b32 g=>?_
 refine U.pq 3 21 false 47 (ntF b32) T ?_
 refine U.k (Yq ({site:=({Floor:=({W:=s16.1,H:=s16.2.1,D:=s16.2.2.1,Kind:=s16.2.2.2.1,Out:=s16.2.2.2.2.1:ApiFloor}),Zones:=s16.2.2.2.2.2.1,Aparts:=s16.2.2.2.2.2.2.1,Shelves:=s16.2.2.2.2.2.2.2.1,Robots:=s16.2.2.2.2.2.2.2.2.1:ApiSite}),shelf:=s16.2.2.2.2.2.2.2.2.2.1,robot:=s16.2.2.2.2.2.2.2.2.2.2.1,zoned:=s16.2.2.2.2.2.2.2.2.2.2.2.1,names:=s16.2.2.2.2.2.2.2.2.2.2.2.2.1,oneways:=s16.2.2.2.2.2.2.2.2.2.2.2.2.2.1,shelves:=s16.2.2.2.2.2.2.2.2.2.2.2.2.2.2.1,zones:=s16.2.2.2.2.2.2.2.2.2.2.2.2.2.2.2.1:SurveyMaker}) x23.Cells _ g) en37 (fun x33 g=>?_) (hw:=.take 21 false 47 _ (ntF b32) rfl rfl rfl)
 refine U.pq 1 21 false 47 (ntF b32) T ?_
 refine U.pk' (ntF b32) ?_
 refine U.ps 1 T rfl ?_
 refine g.cs (fun b34 g=>?_) fun b34 g=>?_
 refine U.pq 2 28 false 54 (ntF b34) T ?_
 refine U.c (sqR 1 12) (Wa x23 ({site:=({Floor:=({W:=s16.1,H:=s16.2.1,D:=s16.2.2.1,Kind:=s16.2.2.2.1,Out:=s16.2.2.2.2.1:ApiFloor}),Zones:=s16.2.2.2.2.2.1,Aparts:=s16.2.2.2.2.2.2.1,Shelves:=s16.2.2.2.2.2.2.2.1,Robots:=s16.2.2.2.2.2.2.2.2.1:ApiSite}),shelf:=s16.2.2.2.2.2.2.2.2.2.1,robot:=s16.2.2.2.2.2.2.2.2.2.2.1,zoned:=s16.2.2.2.2.2.2.2.2.2.2.2.1,names:=s16.2.2.2.2.2.2.2.2.2.2.2.2.1,oneways:=s16.2.2.2.2.2.2.2.2.2.2.2.2.2.1,shelves:=s16.2.2.2.2.2.2.2.2.2.2.2.2.2.2.1,zones:=s16.2.2.2.2.2.2.2.2.2.2.2.2.2.2.2.1:SurveyMaker}) _ g) en38 (fun x35 g=>?_) (hw:=.take 28 false 54 _ (ntF b34) rfl rfl rfl)
 refine U.pq 1 28 false 54 (ntF b34) T ?_
 refine U.pk' (ntF b34) ?_
 refine U.done ?_
 exact St.wa [some 0,some 1,some 26,some 27,some 28,some 29,some 30,some 31,some 32,some 33,some 34,some 35,some 36] (j25 _ g)
 refine U.sk' 4 28 false 54 (ntT b34) ?_
 refine U.pk (ntT b34) ?_
 refine U.done ?_
 exact St.wa (idR 13) (j25 _ g)
 refine U.sk' 5 21 false 47 (ntT b32) ?_
 refine U.pk (ntT b32) ?_
 refine U.ps 1 T rfl (U.sk' 4 28 false 54 rfl ?_)
 refine U.pk rfl ?_
 refine U.done ?_
 exact St.wa (idR 13) (j25 _ g)
 refine U.sk' 3 10 false 36 (ntT b29) ?_
 refine U.pk (ntT b29) ?_
 refine U.ps 1 T rfl (U.sk' 4 15 false 41 rfl ?_)
 refine U.pk rfl ?_
 refine U.ps 1 T rfl (U.sk' 5 21 false 47 rfl ?_)
 refine U.pk rfl ?_
 refine U.ps 1 T rfl (U.sk' 4 28 false 54 rfl ?_)
 refine U.pk rfl ?_
 refine U.done ?_
 exact St.wa (idR 13) (j25 _ g)
 refine U.sk' 4 4 false 30 (ntT b27) ?_
 refine U.pk (ntT b27) ?_
 refine U.ps 1 T rfl (U.sk' 3 10 false 36 rfl ?_)
 refine U.pk rfl ?_
 refine U.ps 1 T rfl (U.sk' 4 15 false 41 rfl ?_)
 refine U.pk rfl ?_
 refine U.ps 1 T rfl (U.sk' 5 21 false 47 rfl ?_)
 refine U.pk rfl ?_
 refine U.ps 1 T rfl (U.sk' 4 28 false 54 rfl ?_)
 refine U.pk rfl ?_
 refine U.done ?_
 exact St.wa (idR 13) (j25 _ g)
 refine C.exit (C.ex (C.ex (C.bex ?_)))
 exact St.wa (idR 13) (j15 _ g)
theorem Zd (r:List Int) (c:Int) (post:Bool→Prop) (g:KU r c post):
  Tr Tryz.prog 143 [.sl 1 eI r,.i c] [] 0 (pB post):=by
 refine Tr.go Tryz.func143 Tryz.ntmps143 fun _ _ _ _ o=>?_
 unfold KU at g
 refine C.ss (U.pd 1 T (C.xt ?_))
 refine U.pd 1 T (C.xt ?_)
 refine U.pd 3 T (C.xs ?_)
 refine C.jn (fun (x7:Int)=>[(0,.sl 1 eI r),(1,.i c),(5,.i x7)]) (fun x7=>[]) 0 g (fun x7 g=>?_) fun J8 g j8=>?_
 refine C.xs (C.ss (U.pd 4 T (C.nx ?_)))
 refine C.ite rfl g (fun b29 g=>?_) fun b29 g=>?_
 refine C.ss (U.pd 1 T (C.nx (C.ret (C.rt ?_))))
 exact C.f1 T o (pBi g)
 refine C.skip (C.xt (U.ps 2 T rfl ?_))
 obtain⟨x34,y34,g⟩:=g
 refine U.ix T y34 ?_
 refine U.pd 4 T (C.nx (C.ret ?_))
 exact C.f1 T o (pBi g)
 refine C.block (St.wk (C.loop (fun (s9:Int×Int)=>[(0,.sl 1 eI r),(1,.i c),(5,.i s9.1),(6,.i s9.2)]) (fun s9=>[]) g (fun s9 Y10 g=>?_)) (Wk.e))
 refine C.seq (C.ss (U.pd 3 T (C.nx ?_)))
 refine C.ite rfl g (fun b13 g=>?_) fun b13 g=>?_
 refine C.skip (C.nx (C.block (C.ss (U.ps 3 T rfl (U.r rfl (.none rfl) rfl rfl (by exact Rd.dv rfl rfl rfl rfl (by decide)) ?_)))))
 refine U.pd 1 T (C.xt ?_)
 refine U.ps 2 T rfl ?_
 obtain⟨x19,y19,g⟩:=g
 refine U.ix T y19 ?_
 refine U.pd 3 T (C.nx ?_)
 refine C.jn (fun (x20:Int×Int)=>[(0,.sl 1 eI r),(1,.i c),(5,.i x20.1),(6,.i x20.2)]) (fun x20=>[]) 0 g (fun x20 g=>?_) fun J21 g j21=>?_
 refine C.bnx (C.nx ?_)
 exact St.wk (C.next g) (Wk.e)
 refine C.ite rfl g (fun b22 g=>?_) fun b22 g=>?_
 refine U.start (U.pd 3 T ?_)
 exact St.wn (j21 _ g)
 refine U.start (U.pd 2 T ?_)
 exact St.wn (j21 _ g)
 refine C.exit (C.ex (C.ex (C.bex ?_)))
 exact St.wn (j8 _ g)
theorem Ys (s_1:ApiSite) (c:Int) (post:Int→Prop) (g:KL s_1 c post):
  Tr Tryz.prog 95 [.agg (Q9 s_1),.i c] [] 0 (pI post):=by
 refine Tr.go Tryz.func95 Tryz.ntmps95 fun _ _ _ _ o=>?_
 unfold KL at g
 refine C.ss (U.bx ?_)
 refine U.pd 1 T (C.xs (C.ss ?_))
 refine U.pd 1 T (C.nx ?_)
 refine C.jn (fun (x5:Unit)=>[]) (fun x5=>[]) 0 g (fun x5 g=>?_) fun J6 g j6=>?_
 refine C.xt (U.pd 1 T (C.nx (C.ret ?_)))
 exact C.f1 T o (pIi g)
 refine C.block (St.wk (C.loop (fun (s7:Int)=>[(1,.i c),(2,.p 0 0),(5,.i s7)]) (fun s7=>[(0,.box (Q9 s_1))]) g (fun s7 Y8 g=>?_)) (Wk.a [some 0]))
 refine C.seq (C.ss (U.pd 5 T (C.nx ?_)))
 refine C.ite rfl g (fun b11 g=>?_) fun b11 g=>?_
 refine C.skip (C.xs (C.block (C.ss (U.ps 3 T rfl ?_))))
 obtain⟨x14,y14,g⟩:=g
 refine U.ix T y14 ?_
 refine U.ps 3 T rfl (U.k (Zd x14.Cells c _ g) Q6R (fun x15 g=>?_))
 refine U.done (C.nx ?_)
 refine C.ite rfl g (fun b16 g=>?_) fun b16 g=>?_
 refine C.ss (U.pd 2 T (C.nx (C.ret (C.brt (C.rt (C.rt (C.brt (C.rt ?_))))))))
 exact C.f1 T o (pIi g)
 refine C.skip (C.bnx (C.nx (U.start (U.pd 3 T (C.nx ?_)))))
 exact St.wk (C.next g) (Wk.a [some 0])
 refine C.exit (C.ex (C.ex (C.bex ?_)))
 exact St.wk (j6 _ g) (Wk.mk' [] rfl rfl trivial trivial rfl)
theorem YF (s_1:ApiSite) (c:Int) (post:Int→Prop) (g:KZ s_1 c post):
  Tr Tryz.prog 45 [.agg (Q9 s_1),.i c] [] 0 (pI post):=by
 refine Tr.go Tryz.func45 Tryz.ntmps45 fun _ _ _ _ o=>?_
 unfold KZ at g
 refine C.ss (U.bx ?_)
 refine U.pd 1 T (C.xt ?_)
 refine U.ps 2 T rfl (U.k (Ys s_1 c _ g) en95 (fun x5 g=>?_))
 refine U.pd 1 T (C.xs (C.ss ?_))
 refine U.pd 2 T (C.nx ?_)
 refine C.ite rfl g (fun b8 g=>?_) fun b8 g=>?_
 refine C.ss (U.pd 1 T (C.nx (C.ret (C.rt ?_))))
 exact C.f1 T o (pIi g)
 refine C.skip (C.xt (U.ps 3 T rfl ?_))
 obtain⟨x13,y13,g⟩:=g
 refine U.ix T y13 ?_
 refine U.pd 3 T (C.nx (C.ret ?_))
 exact C.f1 T o (pIi g)
theorem GE (s_1:ApiSite) (post:Int→Prop) (g:Kg s_1 post):
  Tr Tryz.prog 19 [.agg (Q9 s_1)] [] 0 (pI post):=by
 refine Tr.go Tryz.func19 Tryz.ntmps19 fun _ _ _ _ o=>?_
 unfold Kg at g
 refine C.ss (U.bx ?_)
 refine U.pd 1 T (C.xt ?_)
 refine U.pd 1 T (C.xs (C.ss ?_))
 refine U.pd 1 T (C.nx ?_)
 refine C.jn (fun (x7:Int)=>[(3,.i x7)]) (fun x7=>[]) 0 g (fun x7 g=>?_) fun J8 g j8=>?_
 refine C.xt (U.pd 2 T (C.nx (C.ret ?_)))
 exact C.f1 T o (pIi g)
 refine C.block (St.wk (C.loop (fun (s9:Int×Int)=>[(1,.p 0 0),(3,.i s9.1),(4,.i s9.2)]) (fun s9=>[(0,.box (Q9 s_1))]) g (fun s9 Y10 g=>?_)) (Wk.a [some 0]))
 refine C.seq (C.ss (U.pd 6 T (C.nx ?_)))
 refine C.ite rfl g (fun b13 g=>?_) fun b13 g=>?_
 refine C.skip (C.xs (C.block (U.start (U.ps 3 T rfl (U.k (YF s_1 s9.2 _ g) en45 (fun x16 g=>?_))))))
 refine U.pd 2 T (C.bnx (C.nx (U.start ?_)))
 refine U.pd 3 T (C.nx ?_)
 exact St.wk (C.next g) (Wk.a [some 0])
 refine C.exit (C.ex (C.ex (C.bex ?_)))
 exact St.wn (j8 _ g)
theorem Z2 (s_1:ApiSite) (avoid:List Int) (n:Int) (post:Bool→Prop) (g:Xe s_1 avoid n post):
  Tr Tryz.prog 6 [.agg (Q9 s_1),.sl 1 eI avoid,.i n] [] 0 (pB post):=by
 refine Tr.go Tryz.func6 Tryz.ntmps6 fun _ _ _ _ o=>?_
 unfold Xe at g
 refine C.ss (U.bx ?_)
 refine U.pd 1 T (C.xs (C.seq ?_))
 refine C.jn (fun (x3:Bool)=>[(3,.p 0 0),(20,.b x3)]) (fun x3=>[(0,.box (Q9 s_1))]) 1 g (fun x3 g=>?_) fun J4 g j4=>?_
 refine C.nx ?_
 refine C.ite rfl g (fun b9 g=>?_) fun b9 g=>?_
 refine C.ss (U.pd 1 T (C.nx (C.ret (C.rt ?_))))
 exact C.f1 T o (pBi g)
 refine C.skip (C.xt (U.ps 1 T rfl (U.k (GE s_1 _ g) en19 (fun x14 g=>?_))))
 refine U.pd 2 T (C.nx (C.ret ?_))
 exact C.f1 T o (pBi g)
 refine U.start (U.ps 2 T rfl (U.k (Zl s_1 n 20 _ g) en17 (fun x5 g=>?_)))
 refine U.ps 2 T rfl ?_
 refine g.cs (fun b6 g=>?_) fun b6 g=>?_
 refine U.pq 3 4 false 11 (ntF b6) T ?_
 refine U.pk' (ntF b6) ?_
 refine U.ps 1 T rfl ?_
 refine g.cs (fun b7 g=>?_) fun b7 g=>?_
 refine U.sk' 3 9 false 16 b7 ?_
 refine U.pk b7 ?_
 refine U.done ?_
 exact St.wa [some 0] (j4 _ g)
 refine U.pq 1 9 false 16 b7 T ?_
 refine U.k (Q0B s_1 _ g) en18 (fun x8 g=>?_) (hw:=.take 9 false 16 _ b7 rfl rfl rfl)
 refine U.pq 1 9 false 16 b7 T ?_
 refine U.pk' b7 ?_
 refine U.done ?_
 exact St.wa [some 0] (j4 _ g)
 refine U.sk' 3 4 false 11 (ntT b6) ?_
 refine U.pk (ntT b6) ?_
 refine U.ps 1 T rfl (U.sk' 3 9 false 16 rfl ?_)
 refine U.pk rfl ?_
 refine U.done ?_
 exact St.wa [some 0] (j4 _ g)
theorem YL (s_1:ApiSite) (trips:List ApiTrip) (most:Int) (post:Bool→Prop) (g:KW s_1 trips most post):
  Tr Tryz.prog 9 [.agg (Q9 s_1),.sl 2 Q4 trips,.i most] [] 0 (pB post):=by
 refine Tr.go Tryz.func9 Tryz.ntmps9 fun _ _ _ _ o=>?_
 unfold KW at g
 refine C.ss (U.bx ?_)
 refine U.pd 1 T (C.xt ?_)
 refine U.pd 1 T (C.xs (C.ss ?_))
 refine U.pd 1 T (C.nx ?_)
 refine C.jn (fun (x7:Int)=>[(1,.sl 2 Q4 trips),(2,.i most),(3,.p 0 0),(7,.i x7)]) (fun x7=>[(0,.box (Q9 s_1))]) 1 g (fun x7 g=>?_) fun J8 g j8=>?_
 refine C.xt (U.ps 2 T rfl (U.k (GE s_1 _ g) en19 (fun x26 g=>?_)))
 refine U.pd 2 T (C.xt ?_)
 refine U.pd 1 T (C.xs (C.ss ?_))
 refine U.pd 1 T (C.nx ?_)
 refine C.jn (fun (x31:Int)=>[(2,.i most),(9,.i x31)]) (fun x31=>[]) 0 g (fun x31 g=>?_) fun J32 g j32=>?_
 refine C.xs ?_
 refine C.jn (fun (x43:Bool)=>[(6,.b x43)]) (fun x43=>[]) 0 g (fun x43 g=>?_) fun J44 g j44=>?_
 refine C.nx (C.ret ?_)
 exact C.f1 T o (pBi g)
 refine U.start (U.ps 3 T rfl ?_)
 refine g.cs (fun b45 g=>?_) fun b45 g=>?_
 refine U.pq 2 2 true 47 b45 T ?_
 refine U.pk b45 ?_
 refine U.pd 1 T ?_
 exact St.wn (j44 _ g)
 refine U.sk' 2 2 true 47 b45 ?_
 refine U.pk' b45 ?_
 refine U.pd 1 T ?_
 exact St.wn (j44 _ g)
 refine C.block (St.wk (C.loop (fun (s33:Int×Int)=>[(1,.sl 2 Q4 trips),(2,.i most),(7,.i (w64 (x7*x26))),(9,.i s33.1),(10,.i s33.2)]) (fun s33=>[]) g (fun s33 Y34 g=>?_)) (Wk.e))
 refine C.seq (C.seq ?_)
 refine C.jn (fun (x35:Bool)=>[(1,.sl 2 Q4 trips),(2,.i most),(7,.i (w64 (x7*x26))),(9,.i s33.1),(10,.i s33.2),(39,.b x35)]) (fun x35=>[]) 0 g (fun x35 g=>?_) fun J36 g j36=>?_
 refine C.nx ?_
 refine C.ite rfl g (fun b38 g=>?_) fun b38 g=>?_
 refine C.skip (C.xs (C.block (U.start (U.pd 4 T (C.bnx (C.nx (U.start ?_)))))))
 refine U.pd 3 T (C.nx ?_)
 exact St.wk (C.next g) (Wk.e)
 refine C.exit (C.ex (C.ex (C.bex ?_)))
 exact St.wn (j32 _ g)
 refine U.start (U.ps 5 T rfl ?_)
 refine g.cs (fun b37 g=>?_) fun b37 g=>?_
 refine U.pq 2 4 true 36 b37 T ?_
 refine U.pk b37 ?_
 refine U.done ?_
 exact St.wn (j36 _ g)
 refine U.sk' 2 4 true 36 b37 ?_
 refine U.pk' b37 ?_
 refine U.done ?_
 exact St.wn (j36 _ g)
 refine C.block (St.wk (C.loop (fun (s9:Int×Int)=>[(1,.sl 2 Q4 trips),(2,.i most),(3,.p 0 0),(7,.i s9.1),(8,.i s9.2)]) (fun s9=>[(0,.box (Q9 s_1))]) g (fun s9 Y10 g=>?_)) (Wk.a [some 0]))
 refine C.seq (C.ss (U.pd 6 T (C.nx ?_)))
 refine C.ite rfl g (fun b13 g=>?_) fun b13 g=>?_
 refine C.skip (C.xs (C.block (C.ss (U.ps 4 T rfl ?_))))
 obtain⟨x16,y16,g⟩:=g
 refine U.ix T y16 ?_
 refine U.pd 2 T (C.nx ?_)
 refine C.jn (fun (x17:Int)=>[(1,.sl 2 Q4 trips),(2,.i most),(3,.p 0 0),(7,.i x17),(8,.i s9.2)]) (fun x17=>[(0,.box (Q9 s_1))]) 1 g (fun x17 g=>?_) fun J18 g j18=>?_
 refine C.bnx (C.nx (U.start (U.pd 3 T (C.nx ?_))))
 exact St.wk (C.next g) (Wk.a [some 0])
 refine C.ite rfl g (fun b19 g=>?_) fun b19 g=>?_
 refine U.start (U.pd 3 T ?_)
 exact St.wa [some 0] (j18 _ g)
 refine C.skip ?_
 exact St.wa [some 0] (j18 _ g)
 refine C.exit (C.ex (C.ex (C.bex ?_)))
 exact St.wa [some 0] (j8 _ g)
theorem Q1E (s_1:ApiSite) (from_1:Int) (to_1:Int) (tick:Int) (post:Bool→Prop) (g:Gs s_1 from_1 to_1 tick post):
  Tr Tryz.prog 57 [.agg (Q9 s_1),.i from_1,.i to_1,.i tick] [] 0 (pB post):=by
 refine Tr.go Tryz.func57 Tryz.ntmps57 fun _ _ _ _ o=>?_
 unfold Gs at g
 refine C.ss (U.bx ?_)
 refine U.pd 1 T (C.xs (C.ss ?_))
 refine U.ps 2 T rfl (U.bs T eI ([from_1,to_1]:List Int) ?_)
 refine U.pd 2 T (C.nx ?_)
 refine C.jn (fun (x5:Unit)=>[(3,.i tick)]) (fun x5=>[]) 0 g (fun x5 g=>?_) fun J6 g j6=>?_
 refine C.xs ?_
 refine C.jn (fun (x25:Bool)=>[(8,.b x25)]) (fun x25=>[]) 0 g (fun x25 g=>?_) fun J26 g j26=>?_
 refine C.nx (C.ret ?_)
 exact C.f1 T o (pBi g)
 refine U.start (U.ps 3 T rfl ?_)
 refine g.cs (fun b27 g=>?_) fun b27 g=>?_
 refine U.pq 2 2 true 41 b27 T ?_
 refine U.pk b27 ?_
 refine U.pd 1 T ?_
 exact St.wn (j26 _ g)
 refine U.sk' 2 2 true 41 b27 ?_
 refine U.pk' b27 ?_
 refine U.pd 1 T ?_
 exact St.wn (j26 _ g)
 refine C.block (St.wk (C.loop (fun (s7:Int)=>[(3,.i tick),(4,.p 0 0),(13,.o 1),(14,.i (([from_1,to_1]:List Int).length:Int)),(15,.i s7)]) (fun s7=>[(0,.box (Q9 s_1)),(1,.val (.os 1 eI ([from_1,to_1]:List Int)))]) g (fun s7 Y8 g=>?_)) (Wk.a (idR 2)))
 refine C.ss (U.pd 1 T (C.xs ?_))
 refine C.ite rfl g (fun b11 g=>?_) fun b11 g=>?_
 refine C.skip (C.xs (C.block (C.ss ?_)))
 obtain⟨x14,y14,g⟩:=g
 refine U.r rfl (.none rfl) rfl rfl (by exact Rd.io T rfl rfl rfl rfl rfl rfl rfl y14) ?_
 refine U.r rfl (.none rfl) rfl rfl (by exact Rd.le T rfl rfl rfl (Qi y14).2.2 rfl rfl rfl) ?_
 refine U.pd 1 T (C.xs ?_)
 refine C.jn (fun (x15:Bool)=>[(3,.i tick),(4,.p 0 0),(13,.o 1),(14,.i (([from_1,to_1]:List Int).length:Int)),(15,.i s7),(37,.b x15)]) (fun x15=>[(0,.box (Q9 s_1)),(1,.val (.os 1 eI ([from_1,to_1]:List Int)))]) 2 g (fun x15 g=>?_) fun J16 g j16=>?_
 refine C.nx ?_
 refine C.ite rfl g (fun b20 g=>?_) fun b20 g=>?_
 refine C.ss (U.pd 1 T (C.nx (C.ret (C.brt (C.rt (C.rt (C.brt (C.rt ?_))))))))
 exact C.f1 T o (pBi g)
 refine C.skip (C.bnx (C.nx (U.start (U.pd 2 T (C.nx ?_)))))
 exact St.wk (C.next g) (Wk.a (idR 2))
 refine U.start (U.ps 3 T rfl ?_)
 refine g.cs (fun b17 g=>?_) fun b17 g=>?_
 refine U.sk' 6 2 false 21 b17 ?_
 refine U.pk b17 ?_
 refine U.ps 1 T rfl (U.sk' 7 10 false 29 rfl ?_)
 refine U.pk rfl ?_
 refine U.done ?_
 exact St.wa (idR 2) (j16 _ g)
 refine U.pq 6 2 false 21 b17 T ?_
 refine U.pk' b17 ?_
 refine U.ps 1 T rfl ?_
 refine g.cs (fun b18 g=>?_) fun b18 g=>?_
 refine U.sk' 7 10 false 29 b18 ?_
 refine U.pk b18 ?_
 refine U.done ?_
 exact St.wa (idR 2) (j16 _ g)
 refine U.pq 4 10 false 29 b18 T ?_
 obtain⟨x19,y19,g⟩:=g
 refine U.r rfl (.tk 10 false 29 b18) rfl rfl (by exact Rd.ix T rfl rfl rfl rfl rfl rfl y19) ?_
 refine U.pq 2 10 false 29 b18 T ?_
 refine U.pk' b18 ?_
 refine U.done ?_
 exact St.wa (idR 2) (j16 _ g)
 refine C.exit (C.ex (C.ex (C.bex ?_)))
 exact St.wn (j6 _ g)
theorem Q03 (a:Int) (post:Bool→Prop) (g:XJ a post):
  Tr Tryz.prog 56 [.i a] [] 0 (pB post):=by
 refine Tr.go Tryz.func56 Tryz.ntmps56 fun _ _ _ _ o=>?_
 unfold XJ at g
 refine C.ss (U.pd 1 T (C.xs ?_))
 refine C.jn (fun (x3:Bool)=>[(2,.b x3)]) (fun x3=>[]) 0 g (fun x3 g=>?_) fun J4 g j4=>?_
 refine C.nx (C.ret ?_)
 exact C.f1 T o (pBi g)
 refine U.start (U.ps 3 T rfl ?_)
 refine g.cs (fun b5 g=>?_) fun b5 g=>?_
 refine U.sk' 2 2 false 5 b5 ?_
 refine U.pk b5 ?_
 refine U.pd 1 T ?_
 exact St.wn (j4 _ g)
 refine U.pq 2 2 false 5 b5 T ?_
 refine U.pk' b5 ?_
 refine U.pd 1 T ?_
 exact St.wn (j4 _ g)
theorem XE (s_1:List Int) (post:Int→Prop) (g:QG s_1 post):
  Tr Tryz.prog 109 [.sl 1 eI s_1,.fn (.func 56) [] []] [] 0 (pI post):=by
 refine Tr.go Tryz.func109 Tryz.ntmps109 fun _ _ _ _ o=>?_
 unfold QG at g
 refine C.ss (U.pd 1 T (C.xs (C.ss ?_)))
 refine U.pd 3 T (C.nx ?_)
 refine C.jn (fun (x5:Unit)=>[]) (fun x5=>[]) 0 g (fun x5 g=>?_) fun J6 g j6=>?_
 refine C.xt (U.pd 1 T (C.nx (C.ret ?_)))
 exact C.f1 T o (pIi g)
 refine C.block (St.wk (C.loop (fun (s7:Int)=>[(0,.sl 1 eI s_1),(1,.fn (.func 56) [] []),(7,.i (s_1.length:Int)),(8,.i s7)]) (fun s7=>[]) g (fun s7 Y8 g=>?_)) (Wk.e))
 refine C.ss (U.pd 1 T (C.xs ?_))
 refine C.ite rfl g (fun b11 g=>?_) fun b11 g=>?_
 refine C.skip (C.xs (C.block (C.ss (U.pd 2 T (C.xt ?_)))))
 refine U.ps 3 T rfl ?_
 obtain⟨x16,y16,g⟩:=g
 refine U.ix T y16 ?_
 refine U.ps 1 T rfl (U.k (Q03 x16 _ g) en56 (fun x17 g=>?_))
 refine U.done (C.nx ?_)
 refine C.ite rfl g (fun b18 g=>?_) fun b18 g=>?_
 refine C.ss (U.pd 2 T (C.nx (C.ret (C.brt (C.rt (C.rt (C.brt (C.rt ?_))))))))
 exact C.f1 T o (pIi g)
 refine C.skip (C.bnx (C.nx (U.start (U.pd 2 T (C.nx ?_)))))
 exact St.wk (C.next g) (Wk.e)
 refine C.exit (C.ex (C.ex (C.bex ?_)))
 exact St.wk (j6 _ g) (Wk.mk' [] rfl rfl trivial trivial rfl)
theorem Xq (s_1:List Int) (post:Bool→Prop) (g:Qr s_1 post):
  Tr Tryz.prog 58 [.sl 1 eI s_1,.fn (.func 56) [] []] [] 0 (pB post):=by
 refine Tr.go Tryz.func58 Tryz.ntmps58 fun _ _ _ _ o=>?_
 unfold Qr at g
 refine C.ss (U.pd 1 T (C.xt ?_))
 refine U.ps 2 T rfl (U.k (XE s_1 _ g) Q5e (fun x5 g=>?_))
 refine U.pd 2 T (C.nx (C.ret ?_))
 exact C.f1 T o (pBi g)
theorem Q0n (s_1:ApiSite) (tick:Int) (taken:List ApiTaken) (avoid:List Int) (post:RouteWalk→Prop) (g:XO s_1 tick taken avoid post):
  Tr Tryz.prog 59 [.agg (Q9 s_1),.i tick,.sl 3 Y2 taken,.sl 1 eI avoid] [] 0 (fun A H' k=>∃y,post y∧A=(.agg [.i y.site.Floor.W,.i y.site.Floor.H,.i y.site.Floor.D,.sl 1 eI y.site.Floor.Kind,.sl 1 eI y.site.Floor.Out,.sl 5 Q3 y.site.Zones,.sl 2 Q0 y.site.Aparts,.sl 2 Q1 y.site.Shelves,.sl 2 Q2 y.site.Robots,.i y.tick,.sl 1 eI y.avoid,.o 0])∧H'=[(0,.val (.om kI Gd y.taken))]∧k=1):=by
 refine Tr.go Tryz.func59 Tryz.ntmps59 fun _ _ _ _ o=>?_
 unfold XO at g
 refine C.ss (U.bx ?_)
 refine U.al T ?_
 refine U.done (C.xt (U.ps 3 T rfl (U.e1 rfl (.none rfl) (by exact Eff1.mm kI Gd rfl rfl rfl) ?_)))
 refine U.ps 1 T rfl (U.al T ?_)
 refine U.st T ?_
 refine U.done (C.xs (C.ss (U.pd 3 T (C.nx ?_))))
 refine C.jn (fun (x7:List (Int×List QF))=>[(8,.p 0 0),(9,.p 1 0)]) (fun x7=>[(0,.box [.i 0,.i 0,.i 0,vN,vN,vN,vN,vN,vN,.i 0,vN,.v (.map none)]),(1,.box [.i s_1.Floor.W,.i s_1.Floor.H,.i s_1.Floor.D,.sl 1 eI s_1.Floor.Kind,.sl 1 eI s_1.Floor.Out,.sl 5 Q3 s_1.Zones,.sl 2 Q0 s_1.Aparts,.sl 2 Q1 s_1.Shelves,.sl 2 Q2 s_1.Robots,.i tick,.sl 1 eI avoid,.o 2]),(2,.val (.om kI Gd x7))]) 3 g (fun x7 g=>?_) fun J8 g j8=>?_
 refine C.xt (U.ps 1 T rfl (U.st T ?_))
 refine U.done (C.nx (C.ret ?_))
 exact C.g1 [some 2] T o ⟨({site:=s_1,tick:=tick,avoid:=avoid,taken:=x7:RouteWalk}),g,rfl,rfl,rfl⟩
 refine C.block ?_
 refine St.wk (C.loop (fun (s9:List (Int×List QF)×Int)=>[(8,.p 0 0),(9,.p 1 0),(17,.sl 3 Y2 taken),(18,.i (taken.length:Int)),(19,.i s9.2)]) (fun s9=>[(0,.box [.i 0,.i 0,.i 0,vN,vN,vN,vN,vN,vN,.i 0,vN,.v (.map none)]),(1,.box [.i s_1.Floor.W,.i s_1.Floor.H,.i s_1.Floor.D,.sl 1 eI s_1.Floor.Kind,.sl 1 eI s_1.Floor.Out,.sl 5 Q3 s_1.Zones,.sl 2 Q0 s_1.Aparts,.sl 2 Q1 s_1.Shelves,.sl 2 Q2 s_1.Robots,.i tick,.sl 1 eI avoid,.o 2]),(2,.val (.om kI Gd s9.1))]) g (fun s9 Y10 g=>?_)) (Wk.a [some 1,some 3,some 2])
 refine C.ss (U.pd 1 T (C.xs ?_))
 refine C.ite rfl g (fun b13 g=>?_) fun b13 g=>?_
 refine C.skip (C.xs (C.block (C.ss ?_)))
 obtain⟨x16,y16,g⟩:=g
 refine U.ix T y16 ?_
 refine U.ps 1 T rfl (U.al T ?_)
 refine U.st T ?_
 refine U.done (C.nx ?_)
 refine C.jn (fun (x17:List (Int×List QF))=>[(8,.p 0 0),(9,.p 1 0),(17,.sl 3 Y2 taken),(18,.i (taken.length:Int)),(19,.i s9.2)]) (fun x17=>[(0,.box [.i 0,.i 0,.i 0,vN,vN,vN,vN,vN,vN,.i 0,vN,.v (.map none)]),(1,.box [.i s_1.Floor.W,.i s_1.Floor.H,.i s_1.Floor.D,.sl 1 eI s_1.Floor.Kind,.sl 1 eI s_1.Floor.Out,.sl 5 Q3 s_1.Zones,.sl 2 Q0 s_1.Aparts,.sl 2 Q1 s_1.Shelves,.sl 2 Q2 s_1.Robots,.i tick,.sl 1 eI avoid,.o 2]),(2,.val (.om kI Gd x17))]) 3 g (fun x17 g=>?_) fun J18 g j18=>?_
 refine C.bnx (C.nx (U.start (U.pd 2 T (C.nx ?_))))
 exact St.wk (C.next g) (Wk.a (idR 3))
 rcases Q3R s9.1 x16.Cell with ⟨x19,y20⟩ | y20
 replace g:=g.1 x19 y20
 refine St.lendm (l:=2) rfl y20 rfl ?_
 refine D.bq mix 13 [1,2,3] [4] (fun hQ hS ws M'=>?_)
 refine D.pq 8 (zl [0,1,2,3,4,5,6,7]) T ?_
 refine D.q 8 [] hQ hS rfl (.none rfl) rfl rfl (by exact Rd.lkl T rfl rfl kt3 rfl rfl (.head _) rfl rfl rfl rfl) rfl (by kernel_rfl) ?_
 refine D.pq 2 (zl [9,10]) T ?_
 refine D.e1 11 rfl (.none rfl) (by exact Eff1.bs T (enc:=X7) (xs:=([x16.Span]:List QF)) rfl rfl rfl rfl rfl rfl rfl rfl rfl rfl (fun _ _=>rfl) rfl rfl) (by kernel_rfl) rfl rfl ?_
 obtain⟨y21,g⟩:=g
 refine D.e1 12 rfl (.none rfl) (by exact Eff1.ap T rfl rfl rfl rfl rfl rfl (.inr ⟨_,rfl,rfl⟩) rfl rfl rfl (fun _=>rfl) rfl y21) (by kernel_rfl) rfl rfl ?_
 refine D.ze1 rfl (.none rfl) (by exact Eff1.mul T (x:=x16.Cell) rfl rfl kt3 rfl rfl (fun _ h=>nomatch h) rfl rfl rfl rfl) (by kernel_rfl) (by kernel_rfl) ?_
 refine St.putm (l:=2) (l':=6) (y:=(x19++([x16.Span]:List QF))) rfl rfl rfl rfl ?_
 exact St.wa (idR 3) (j18 _ g)
 replace g:=g.2 y20
 refine D.bq mix 13 [1,2,3] [] (fun hQ hS ws M'=>?_)
 refine D.pq 8 (zl [0,1,2,3,4,5,6,7]) T ?_
 refine D.q 8 [] hQ hS rfl (.none rfl) rfl rfl (by exact Rd.lkn (z:=.slice none 0 0) T rfl rfl kt3 (fun w=>by kernel_rfl) rfl rfl y20 rfl rfl) rfl (by kernel_rfl) ?_
 refine D.pq 2 (zl [9,10]) T ?_
 refine D.e1 11 rfl (.none rfl) (by exact Eff1.bs T (enc:=X7) (xs:=([x16.Span]:List QF)) rfl rfl rfl rfl rfl rfl rfl rfl rfl rfl (fun _ _=>rfl) rfl rfl) (by kernel_rfl) rfl rfl ?_
 obtain⟨y22,g⟩:=g
 refine D.e1 12 rfl (.none rfl) (by exact Eff1.apn T rfl rfl rfl rfl rfl (.inr ⟨_,rfl,rfl⟩) rfl rfl rfl (fun _=>rfl) rfl (fun _=>rfl) y22) (by kernel_rfl) rfl rfl ?_
 refine D.ze1 rfl (.none rfl) (by exact Eff1.mun T (x:=x16.Cell) [] rfl rfl kt3 rfl rfl y20 rfl rfl rfl rfl) (by kernel_rfl) (by kernel_rfl) ?_
 refine St.putm (l:=2) (l':=5) (y:=([x16.Span]:List QF)) rfl rfl rfl rfl ?_
 exact St.wa (idR 3) (j18 _ g)
 refine C.exit (C.ex (C.ex (C.bex ?_)))
 exact St.wa (idR 3) (j8 _ g)
theorem YQ (x_1:QF) (c0:Int) (post:Bool→Prop) (g:KY x_1 c0 post):
  Tr Tryz.prog 112 [.agg [.i x_1.From,.i x_1.To],.rp [.i c0]] [] 0 (pB post):=by
 refine Tr.go Tryz.func112 Tryz.ntmps112 fun _ _ _ _ o=>?_
 unfold KY at g
 refine C.ss (U.bx ?_)
 refine U.pd 1 T (C.xs ?_)
 refine C.jn (fun (x3:Bool)=>[(3,.b x3)]) (fun x3=>[]) 0 g (fun x3 g=>?_) fun J4 g j4=>?_
 refine C.nx (C.ret ?_)
 exact C.f1 T o (pBi g)
 refine U.start (U.ps 5 T rfl ?_)
 refine g.cs (fun b5 g=>?_) fun b5 g=>?_
 refine U.pq 4 4 true 8 b5 T ?_
 refine U.pk b5 ?_
 refine U.pd 1 T ?_
 exact St.wn (j4 _ g)
 refine U.sk' 4 4 true 8 b5 ?_
 refine U.pk' b5 ?_
 refine U.pd 1 T ?_
 exact St.wn (j4 _ g)
theorem KG (s_1:List QF) (f_c0:Int) (post:Int→Prop) (g:Ql s_1 f_c0 post):
  Tr Tryz.prog 152 [.sl 2 X7 s_1,.fn (.func 112) [] [.rp [.i f_c0]]] [] 0 (pI post):=by
 refine Tr.go Tryz.func152 Tryz.ntmps152 fun _ _ _ _ o=>?_
 unfold Ql at g
 refine C.ss (U.pd 1 T (C.xs (C.ss ?_)))
 refine U.pd 3 T (C.nx ?_)
 refine C.jn (fun (x5:Unit)=>[]) (fun x5=>[]) 0 g (fun x5 g=>?_) fun J6 g j6=>?_
 refine C.xt (U.pd 1 T (C.nx (C.ret ?_)))
 exact C.f1 T o (pIi g)
 refine C.block (St.wk (C.loop (fun (s7:Int)=>[(0,.sl 2 X7 s_1),(1,.fn (.func 112) [] [.rp [.i f_c0]]),(7,.i (s_1.length:Int)),(8,.i s7)]) (fun s7=>[]) g (fun s7 Y8 g=>?_)) (Wk.e))
 refine C.ss (U.pd 1 T (C.xs ?_))
 refine C.ite rfl g (fun b11 g=>?_) fun b11 g=>?_
 refine C.skip (C.xs (C.block (C.ss (U.pd 2 T (C.xt ?_)))))
 refine U.ps 3 T rfl ?_
 obtain⟨x16,y16,g⟩:=g
 refine U.ix T y16 ?_
 refine U.ps 1 T rfl (U.k (YQ x16 f_c0 _ g) Q6m (fun x17 g=>?_))
 refine U.done (C.nx ?_)
 refine C.ite rfl g (fun b18 g=>?_) fun b18 g=>?_
 refine C.ss (U.pd 2 T (C.nx (C.ret (C.brt (C.rt (C.rt (C.brt (C.rt ?_))))))))
 exact C.f1 T o (pIi g)
 refine C.skip (C.bnx (C.nx (U.start (U.pd 2 T (C.nx ?_)))))
 exact St.wk (C.next g) (Wk.e)
 refine C.exit (C.ex (C.ex (C.bex ?_)))
 exact St.wk (j6 _ g) (Wk.mk' [] rfl rfl trivial trivial rfl)
theorem Ky (s_1:List QF) (f_c0:Int) (post:Bool→Prop) (g:Qg s_1 f_c0 post):
  Tr Tryz.prog 111 [.sl 2 X7 s_1,.fn (.func 112) [] [.rp [.i f_c0]]] [] 0 (pB post):=by
 refine Tr.go Tryz.func111 Tryz.ntmps111 fun _ _ _ _ o=>?_
 unfold Qg at g
 refine C.ss (U.pd 1 T (C.xt ?_))
 refine U.ps 2 T rfl (U.k (KG s_1 f_c0 _ g) Q5D (fun x5 g=>?_))
 refine U.pd 2 T (C.nx (C.ret ?_))
 exact C.f1 T o (pBi g)
theorem XW (w:RouteWalk) (c:Int) (k:Int) (post:Bool→Prop) (g:Ki w c k post):
  Tr Tryz.prog 61 [.agg [.i w.site.Floor.W,.i w.site.Floor.H,.i w.site.Floor.D,.sl 1 eI w.site.Floor.Kind,.sl 1 eI w.site.Floor.Out,.sl 5 Q3 w.site.Zones,.sl 2 Q0 w.site.Aparts,.sl 2 Q1 w.site.Shelves,.sl 2 Q2 w.site.Robots,.i w.tick,.sl 1 eI w.avoid,.rm kI GB w.taken],.i c,.i k] [] 0 (pB post):=by
 refine Tr.go Tryz.func61 Tryz.ntmps61 fun _ _ _ _ o=>?_
 unfold Ki at g
 refine C.ss (U.bx ?_)
 refine U.pd 1 T (C.xt ?_)
 refine U.ps 4 T rfl (U.al T ?_)
 refine U.st T ?_
 refine U.done (C.xt (U.ps 3 T rfl (U.r rfl (.none rfl) rfl rfl (by exact Rd.lk T (ke:=kI) (ve:=GB) (xs:=w.taken) (z0:=[]) (x:=c) rfl rfl kt3 zt83 (fun _=>rfl) rfl .rm rfl rfl rfl) ?_)))
 refine U.ps 1 T rfl (U.k (Ky ((lk w.taken c).getD []) (w64 (w.tick+k)) _ g) Q6b (fun x7 g=>?_))
 refine U.pd 1 T (C.nx (C.ret ?_))
 exact C.f1 T o (pBi g)
theorem Zj (w:RouteWalk) (at_1:QP) (k:Int) (act:Int) (post:(QP×Int)→Prop) (g:Xm w at_1 k act post):
  Tr Tryz.prog 60 [.agg [.i w.site.Floor.W,.i w.site.Floor.H,.i w.site.Floor.D,.sl 1 eI w.site.Floor.Kind,.sl 1 eI w.site.Floor.Out,.sl 5 Q3 w.site.Zones,.sl 2 Q0 w.site.Aparts,.sl 2 Q1 w.site.Shelves,.sl 2 Q2 w.site.Robots,.i w.tick,.sl 1 eI w.avoid,.rm kI GB w.taken],.agg [.i at_1.cell,.i at_1.rest],.i k,.i act] [] 0 (fun A H' k=>∃y,post y∧A=(.tup [.agg [.i y.1.cell,.i y.1.rest],.i y.2])∧H'=[]∧k=0):=by
 refine Tr.go Tryz.func60 Tryz.ntmps60 fun _ _ _ _ o=>?_
 unfold Xm at g
 refine C.ss (U.bx ?_)
 refine U.bx ?_
 refine U.al T ?_
 refine U.pd 1 T (C.xs (C.ss ?_))
 refine U.pd 2 T (C.nx ?_)
 refine C.ite rfl g (fun b5 g=>?_) fun b5 g=>?_
 refine C.seq (C.ss (U.ps 4 T rfl (U.k (XW w at_1.cell k _ g) en61 (fun x8 g=>?_))))
 refine U.done (C.nx ?_)
 refine C.ite rfl g (fun b9 g=>?_) fun b9 g=>?_
 refine C.ss (U.ps 1 T rfl (U.st T ?_))
 refine U.pd 1 T (C.nx (C.ret (C.rt (C.rt ?_))))
 exact C.f9 T o ⟨(({cell:=0,rest:=0:QP}),15),g,rfl,rfl,rfl⟩
 refine C.skip (C.xt (U.ps 7 T rfl (U.st T ?_)))
 refine U.pd 1 T (C.nx (C.ret (C.rt ?_)))
 exact C.f9 T o ⟨(({cell:=at_1.cell,rest:=imax (w64 (at_1.rest-1)) 0:QP}),0),g,rfl,rfl,rfl⟩
 refine C.skip (C.xt (U.ps 7 T rfl (U.k (Wb w.site.Floor at_1.cell (w64 (act-1)) _ g) en29 (fun x16 g=>?_))))
 refine U.pd 5 T (C.xs (C.block (C.ss ?_)))
 refine U.pd 4 T (C.nx ?_)
 refine C.ite rfl g (fun b19 g=>?_) fun b19 g=>?_
 refine C.ss (U.ps 1 T rfl (U.st T ?_))
 refine U.pd 1 T (C.nx (C.ret (C.brt (C.rt ?_))))
 exact C.f9 T o ⟨(({cell:=0,rest:=0:QP}),8),g,rfl,rfl,rfl⟩
 refine C.seq ?_
 refine C.jn (fun (x22:Bool)=>[(2,.i k),(4,.p 0 0),(5,.p 1 0),(8,.p 2 0),(10,.i x16.1),(43,.b x22)]) (fun x22=>[(0,.box [.i w.site.Floor.W,.i w.site.Floor.H,.i w.site.Floor.D,.sl 1 eI w.site.Floor.Kind,.sl 1 eI w.site.Floor.Out,.sl 5 Q3 w.site.Zones,.sl 2 Q0 w.site.Aparts,.sl 2 Q1 w.site.Shelves,.sl 2 Q2 w.site.Robots,.i w.tick,.sl 1 eI w.avoid,.rm kI GB w.taken]),(1,.box [.i at_1.cell,.i at_1.rest]),(2,.box [.i 0,.i 0])]) 3 g (fun x22 g=>?_) fun J23 g j23=>?_
 refine C.nx ?_
 refine C.ite rfl g (fun b26 g=>?_) fun b26 g=>?_
 refine C.ss (U.ps 1 T rfl (U.st T ?_))
 refine U.pd 1 T (C.nx (C.ret (C.brt (C.rt ?_))))
 exact C.f9 T o ⟨(({cell:=0,rest:=0:QP}),14),g,rfl,rfl,rfl⟩
 refine C.ss (U.ps 7 T rfl (U.k (Zz w.site x16.1 (w64 (w.tick+k)) _ g) Q5z (fun x31 g=>?_)))
 refine U.pd 2 T (C.nx ?_)
 refine C.ite rfl g (fun b32 g=>?_) fun b32 g=>?_
 refine C.ss (U.ps 1 T rfl (U.st T ?_))
 refine U.pd 1 T (C.nx (C.ret (C.brt (C.rt ?_))))
 exact C.f9 T o ⟨(({cell:=0,rest:=0:QP}),18),g,rfl,rfl,rfl⟩
 refine C.seq ?_
 refine C.jn (fun (x35:Bool)=>[(4,.p 0 0),(8,.p 1 0),(10,.i x16.1),(64,.b x35)]) (fun x35=>[(0,.box [.i w.site.Floor.W,.i w.site.Floor.H,.i w.site.Floor.D,.sl 1 eI w.site.Floor.Kind,.sl 1 eI w.site.Floor.Out,.sl 5 Q3 w.site.Zones,.sl 2 Q0 w.site.Aparts,.sl 2 Q1 w.site.Shelves,.sl 2 Q2 w.site.Robots,.i w.tick,.sl 1 eI w.avoid,.rm kI GB w.taken]),(1,.box [.i 0,.i 0])]) 2 g (fun x35 g=>?_) fun J36 g j36=>?_
 refine C.nx ?_
 refine C.ite rfl g (fun b40 g=>?_) fun b40 g=>?_
 refine C.ss (U.ps 1 T rfl (U.st T ?_))
 refine U.pd 1 T (C.nx (C.ret (C.brt (C.rt ?_))))
 exact C.f9 T o ⟨(({cell:=0,rest:=0:QP}),15),g,rfl,rfl,rfl⟩
 refine C.skip (C.bnx (C.xt (U.ps 4 T rfl (U.k (WF w.site x16.1 _ g) en46 (fun x45 g=>?_)))))
 refine U.ps 2 T rfl (U.st T ?_)
 refine U.pd 1 T (C.nx (C.ret ?_))
 exact C.f9 T o ⟨(({cell:=x16.1,rest:=w64 (x45-1):QP}),0),g,rfl,rfl,rfl⟩
 refine U.start (U.ps 4 T rfl (U.k (XW w at_1.cell k _ g) en61 (fun x37 g=>?_)))
 refine U.ps 1 T rfl ?_
 refine g.cs (fun b38 g=>?_) fun b38 g=>?_
 refine U.sk' 4 5 false 70 b38 ?_
 refine U.pk b38 ?_
 refine U.pd 1 T ?_
 exact St.wa [some 0,some 2] (j36 _ g)
 refine U.pq 3 5 false 70 b38 T ?_
 refine U.k (XW w x16.1 k _ g) en61 (fun x39 g=>?_) (hw:=.take 5 false 70 _ b38 rfl rfl rfl)
 refine U.pk' b38 ?_
 refine U.pd 1 T ?_
 exact St.wa [some 0,some 2] (j36 _ g)
 refine U.start (U.ps 3 T rfl ?_)
 refine g.cs (fun b24 g=>?_) fun b24 g=>?_
 refine U.pq 3 2 false 46 (ntF b24) T ?_
 refine U.k (Kw w.avoid x16.1 _ g) en94 (fun x25 g=>?_) (hw:=.take 2 false 46 _ (ntF b24) rfl rfl rfl)
 refine U.pk' (ntF b24) ?_
 refine U.pd 1 T ?_
 exact St.wa (idR 3) (j23 _ g)
 refine U.sk' 4 2 false 46 (ntT b24) ?_
 refine U.pk (ntT b24) ?_
 refine U.pd 1 T ?_
 exact St.wa (idR 3) (j23 _ g)
theorem Q1j (s_1:ApiSite) (from_1:Int) (to_1:Int) (tick:Int) (taken:List ApiTaken) (avoid:List Int) (acts:List Int) (post:Int→Prop) (g:Gr s_1 from_1 to_1 tick taken avoid acts post):
  Tr Tryz.prog 24 [.agg (Q9 s_1),.i from_1,.i to_1,.i tick,.sl 3 Y2 taken,.sl 1 eI avoid,.sl 1 eI acts] [] 0 (pI post):=by
 refine Tr.go Tryz.func24 Tryz.ntmps24 fun _ _ _ _ o=>?_
 unfold Gr at g
 refine C.ss (U.bx ?_)
 refine U.pd 1 T (C.xt ?_)
 refine U.pd 1 T (C.xs (C.seq ?_))
 refine C.jn (fun (x5:Bool)=>[(1,.i from_1),(2,.i to_1),(3,.i tick),(4,.sl 3 Y2 taken),(5,.sl 1 eI avoid),(6,.sl 1 eI acts),(7,.p 0 0),(32,.b x5)]) (fun x5=>[(0,.box (Q9 s_1))]) 1 g (fun x5 g=>?_) fun J6 g j6=>?_
 refine C.nx ?_
 refine C.ite rfl g (fun b10 g=>?_) fun b10 g=>?_
 refine C.ss (U.pd 1 T (C.nx (C.ret (C.rt ?_))))
 exact C.f1 T o (pIi g)
 refine C.skip (C.xt (U.ps 4 T rfl (U.e rfl (.none rfl) (by exact Eff.c [] (v:=false) (Q0n s_1 tick taken avoid _ g) en59 rfl rfl rfl (.eq rfl) trivial rfl rfl rfl rfl rfl rfl (fun h=>by cases h) (.inr ⟨rfl,rfl⟩) (fun _=>rfl) (fun _=>rfl) rfl) (fun x15' g=>?_))))
 obtain⟨x15⟩:=x15'
 refine U.al T ?_
 refine U.st T ?_
 refine U.done (C.xt (U.ps 2 T rfl (U.al T ?_)))
 refine U.st T ?_
 refine U.done (C.xs (C.ss (U.pd 3 T (C.nx ?_))))
 refine C.jn (fun (x20:Int×Int)=>[(2,.i to_1),(6,.sl 1 eI acts),(16,.p 0 0),(17,.p 2 0)]) (fun x20=>[(0,.box [.i x15.site.Floor.W,.i x15.site.Floor.H,.i x15.site.Floor.D,.sl 1 eI x15.site.Floor.Kind,.sl 1 eI x15.site.Floor.Out,.sl 5 Q3 x15.site.Zones,.sl 2 Q0 x15.site.Aparts,.sl 2 Q1 x15.site.Shelves,.sl 2 Q2 x15.site.Robots,.i x15.tick,.sl 1 eI x15.avoid,.o 1]),(1,.val (.om kI Gd x15.taken)),(2,.box [.i x20.1,.i x20.2])]) 3 g (fun x20 g=>?_) fun J21 g j21=>?_
 refine C.xs (C.block (C.ss (U.ps 5 T rfl (U.k (XW x15 x20.1 (acts.length:Int) _ g) en61 (fun x44 g=>?_)))))
 refine U.pd 1 T (C.nx ?_)
 refine C.ite rfl g (fun b45 g=>?_) fun b45 g=>?_
 refine C.ss (U.pd 1 T (C.nx (C.ret (C.brt (C.rt ?_)))))
 exact C.f1 T o (pIi g)
 refine C.ss (U.pd 5 T (C.nx ?_))
 refine C.ite rfl g (fun b50 g=>?_) fun b50 g=>?_
 refine C.ss (U.pd 1 T (C.nx (C.ret (C.brt (C.rt ?_)))))
 exact C.f1 T o (pIi g)
 refine C.skip (C.bnx (C.xt (U.pd 1 T (C.nx (C.ret ?_)))))
 exact C.f1 T o (pIi g)
 refine C.block ?_
 refine St.wk (C.loop (fun (s22:Int×Int×Int)=>[(2,.i to_1),(6,.sl 1 eI acts),(16,.p 0 0),(17,.p 2 0),(40,.sl 1 eI acts),(41,.i (acts.length:Int)),(42,.i s22.2.2)]) (fun s22=>[(0,.box [.i x15.site.Floor.W,.i x15.site.Floor.H,.i x15.site.Floor.D,.sl 1 eI x15.site.Floor.Kind,.sl 1 eI x15.site.Floor.Out,.sl 5 Q3 x15.site.Zones,.sl 2 Q0 x15.site.Aparts,.sl 2 Q1 x15.site.Shelves,.sl 2 Q2 x15.site.Robots,.i x15.tick,.sl 1 eI x15.avoid,.o 1]),(1,.val (.om kI Gd x15.taken)),(2,.box [.i s22.1,.i s22.2.1])]) g (fun s22 Y23 g=>?_)) (Wk.a [some 2,some 1,some 3])
 refine C.ss (U.pd 1 T (C.xs ?_))
 refine C.ite rfl g (fun b26 g=>?_) fun b26 g=>?_
 refine C.skip (C.xs (C.block (C.ss (U.ps 1 T rfl ?_))))
 obtain⟨x29,y29,g⟩:=g
 refine U.ix T y29 ?_
 refine U.pd 3 T (C.xt ?_)
 refine U.ps 4 T rfl (U.k (Zj x15 ({cell:=s22.1,rest:=s22.2.1:QP}) s22.2.2 x29 _ g) en60 (fun x32 g=>?_))
 refine U.ps 3 T rfl (U.al T ?_)
 refine U.st T ?_
 refine U.pd 1 T (C.xs (C.ss ?_))
 refine U.pd 2 T (C.nx ?_)
 refine C.ite rfl g (fun b35 g=>?_) fun b35 g=>?_
 refine C.ss (U.pd 2 T (C.nx (C.ret (C.rt (C.brt (C.rt (C.rt (C.brt (C.rt ?_)))))))))
 exact C.f1 T o (pIi g)
 refine C.skip (C.nx (U.start (U.ps 1 T rfl (U.st T ?_))))
 refine U.done (C.bnx (C.nx (U.start (U.pd 2 T (C.nx ?_)))))
 exact St.wk (C.next g) (Wk.a (idR 3))
 refine C.exit (C.ex (C.ex (C.bex ?_)))
 exact St.wa (idR 3) (j21 _ g)
 refine U.start (U.ps 4 T rfl (U.k (Q1E s_1 from_1 to_1 tick _ g) en57 (fun x7 g=>?_)))
 refine U.ps 2 T rfl ?_
 refine g.cs (fun b8 g=>?_) fun b8 g=>?_
 refine U.pq 2 6 false 28 (ntF b8) T ?_
 refine U.k (Xq acts _ g) en58 (fun x9 g=>?_) (hw:=.take 6 false 28 _ (ntF b8) rfl rfl rfl)
 refine U.pk' (ntF b8) ?_
 refine U.done ?_
 exact St.wa [some 0] (j6 _ g)
 refine U.sk' 3 6 false 28 (ntT b8) ?_
 refine U.pk (ntT b8) ?_
 refine U.done ?_
 exact St.wa [some 0] (j6 _ g)
theorem Q2a (s_1:ApiSite) (trips:List ApiTrip) (tick:Int) (avoid:List Int) (most:Int) (plan:List (List Int)) (post:(Int×Int)→Prop) (g:GY s_1 trips tick avoid most plan post):
  Tr Tryz.prog 10 [.agg (Q9 s_1),.sl 2 Q4 trips,.i tick,.sl 1 eI avoid,.i most,.sl 1 eLeI plan] [] 0 (fun A H' k=>∃y,post y∧A=(.tup [.i y.1,.i y.2])∧H'=[]∧k=0):=by
 refine Tr.go Tryz.func10 Tryz.ntmps10 fun _ _ _ _ o=>?_
 unfold GY at g
 refine C.ss (U.bx ?_)
 refine U.pd 2 T (C.xs (C.seq ?_))
 refine C.jn (fun (x3:Bool)=>[(1,.sl 2 Q4 trips),(2,.i tick),(3,.sl 1 eI avoid),(4,.i most),(5,.sl 1 eLeI plan),(6,.p 0 0),(41,.b x3)]) (fun x3=>[(0,.box (Q9 s_1))]) 1 g (fun x3 g=>?_) fun J4 g j4=>?_
 refine C.nx ?_
 refine C.ite rfl g (fun b10 g=>?_) fun b10 g=>?_
 refine C.ss (U.pd 2 T (C.nx (C.ret (C.rt ?_))))
 exact C.f9 T o ⟨((-1),1),g,rfl,rfl,rfl⟩
 refine C.skip (C.xs (C.ss (U.pd 3 T (C.nx ?_))))
 refine C.jn (fun (x15:Unit)=>[(1,.sl 2 Q4 trips),(5,.sl 1 eLeI plan),(6,.p 0 0)]) (fun x15=>[(0,.box (Q9 s_1))]) 1 g (fun x15 g=>?_) fun J16 g j16=>?_
 refine C.xs (C.ss (U.ps 3 T rfl (U.k (YT s_1 trips plan _ g) en25 (fun x43 g=>?_))))
 refine U.ps 3 T rfl (U.al T ?_)
 refine U.st T ?_
 refine U.pd 1 T (C.xt ?_)
 refine U.pd 1 T (C.nx ?_)
 refine C.ite rfl g (fun b46 g=>?_) fun b46 g=>?_
 refine C.ss (U.pd 4 T (C.nx (C.ret (C.rt ?_))))
 exact C.f9 T o ⟨(x43.1.a,15),g,rfl,rfl,rfl⟩
 refine C.skip (C.xt (U.pd 2 T (C.nx (C.ret ?_))))
 exact C.f9 T o ⟨((-1),0),g,rfl,rfl,rfl⟩
 refine C.block (St.wk (C.loop (fun (s17:Int)=>[(1,.sl 2 Q4 trips),(2,.i tick),(3,.sl 1 eI avoid),(4,.i most),(5,.sl 1 eLeI plan),(6,.p 0 0),(42,.sl 1 eLeI plan),(43,.i (plan.length:Int)),(44,.i s17)]) (fun s17=>[(0,.box (Q9 s_1))]) g (fun s17 Y18 g=>?_)) (Wk.a [some 0]))
 refine C.ss (U.pd 1 T (C.xs ?_))
 refine C.ite rfl g (fun b21 g=>?_) fun b21 g=>?_
 refine C.skip (C.xs (C.block (C.ss (U.ps 1 T rfl ?_))))
 obtain⟨x24,y24,g⟩:=g
 refine U.ix T y24 ?_
 refine U.pd 3 T (C.xs (C.seq ?_))
 refine D.bq mix 9999 [0] [] (fun hQ hS ws M'=>?_)
 refine D.pq 3 (zl [0,1,2]) T ?_
 obtain⟨x27,y27,g⟩:=g
 refine D.ix 3 [] T y27 ?_
 refine D.pq 4 (zl [4,5,6,7]) T ?_
 refine D.ix 8 [] T y27 ?_
 refine D.pq 5 (zl [9,10,11,12,13]) T ?_
 refine D.k 14 (Q1j s_1 x27.From x27.To tick [] avoid x24 _ g) en24 fun x28 g=>?_
 refine D.pq 1 [(15,[])] T ?_
 refine D.done (by kernel_rfl) ?_
 refine C.xt (U.pd 2 T (C.nx ?_))
 refine C.ite rfl g (fun b31 g=>?_) fun b31 g=>?_
 refine C.ss (U.pd 4 T (C.nx (C.ret (C.rt (C.brt (C.rt (C.rt (C.brt (C.rt ?_)))))))))
 exact C.f9 T o ⟨(s17,x28),g,rfl,rfl,rfl⟩
 refine C.skip (C.xt (U.pd 4 T (C.nx ?_)))
 refine C.ite rfl g (fun b36 g=>?_) fun b36 g=>?_
 refine C.ss (U.pd 3 T (C.nx (C.ret (C.brt (C.rt (C.rt (C.brt (C.rt ?_))))))))
 exact C.f9 T o ⟨(s17,20),g,rfl,rfl,rfl⟩
 refine C.skip (C.bnx (C.nx (U.start (U.pd 2 T (C.nx ?_)))))
 exact St.wk (C.next g) (Wk.a [some 0])
 refine C.exit (C.ex (C.ex (C.bex ?_)))
 exact St.wa [some 0] (j16 _ g)
 refine U.start (U.ps 2 T rfl (U.k (YP s_1 trips _ g) en8 (fun x5 g=>?_)))
 refine U.ps 2 T rfl ?_
 refine g.cs (fun b6 g=>?_) fun b6 g=>?_
 refine U.pq 2 4 false 23 (ntF b6) T ?_
 refine U.pk' (ntF b6) ?_
 refine U.ps 1 T rfl ?_
 refine g.cs (fun b7 g=>?_) fun b7 g=>?_
 refine U.sk' 2 8 false 27 b7 ?_
 refine U.pk b7 ?_
 refine U.ps 1 T rfl (U.sk' 2 12 false 31 rfl ?_)
 refine U.pk rfl ?_
 refine U.ps 1 T rfl (U.sk' 5 16 false 35 rfl ?_)
 refine U.pk rfl ?_
 refine U.done ?_
 exact St.wa [some 0] (j4 _ g)
 refine U.pq 2 8 false 27 b7 T ?_
 refine U.pk' b7 ?_
 refine U.ps 1 T rfl ?_
 refine g.cs (fun b8 g=>?_) fun b8 g=>?_
 refine U.sk' 2 12 false 31 b8 ?_
 refine U.pk b8 ?_
 refine U.ps 1 T rfl (U.sk' 5 16 false 35 rfl ?_)
 refine U.pk rfl ?_
 refine U.done ?_
 exact St.wa [some 0] (j4 _ g)
 refine U.pq 2 12 false 31 b8 T ?_
 refine U.pk' b8 ?_
 refine U.ps 1 T rfl ?_
 refine g.cs (fun b9 g=>?_) fun b9 g=>?_
 refine U.sk' 5 16 false 35 b9 ?_
 refine U.pk b9 ?_
 refine U.done ?_
 exact St.wa [some 0] (j4 _ g)
 refine U.pq 5 16 false 35 b9 T ?_
 refine U.pk' b9 ?_
 refine U.done ?_
 exact St.wa [some 0] (j4 _ g)
 refine U.sk' 2 4 false 23 (ntT b6) ?_
 refine U.pk (ntT b6) ?_
 refine U.ps 1 T rfl (U.sk' 2 8 false 27 rfl ?_)
 refine U.pk rfl ?_
 refine U.ps 1 T rfl (U.sk' 2 12 false 31 rfl ?_)
 refine U.pk rfl ?_
 refine U.ps 1 T rfl (U.sk' 5 16 false 35 rfl ?_)
 refine U.pk rfl ?_
 refine U.done ?_
 exact St.wa [some 0] (j4 _ g)
theorem WU (s_1:ApiSite) (trips:List ApiTrip) (tick:Int) (avoid:List Int) (most:Int) (post:Bool→Prop) (g:V_taquinlaw24_CbsPlans s_1 trips tick avoid most post):
  Tr Tryz.prog 3 [.agg (Q9 s_1),.sl 2 Q4 trips,.i tick,.sl 1 eI avoid,.i most] [] 0 (pB post):=by
 refine Tr.go Tryz.func3 Tryz.ntmps3 fun _ _ _ _ o=>?_
 unfold V_taquinlaw24_CbsPlans at g
 refine C.ss (U.bx ?_)
 refine U.pd 1 T (C.xt ?_)
 refine U.k (YM _ g) en5 fun x5 g=>?_
 refine U.pd 1 T (C.xs (C.seq ?_))
 refine C.jn (fun (x6:Bool)=>[(1,.sl 2 Q4 trips),(2,.i tick),(3,.sl 1 eI avoid),(4,.i most),(5,.p 0 0),(11,.b x5),(34,.b x6)]) (fun x6=>[(0,.box (Q9 s_1))]) 1 g (fun x6 g=>?_) fun J7 g j7=>?_
 refine C.nx ?_
 refine C.ite rfl g (fun b12 g=>?_) fun b12 g=>?_
 refine C.ss (U.pd 2 T (C.nx (C.ret (C.rt ?_))))
 exact C.f1 T o (pBi g)
 refine C.skip (C.xt (U.ps 5 T rfl (U.e rfl (.none rfl) (by exact Eff.c [] (v:=false) (Ym s_1 trips tick avoid most _ g) en7 rfl rfl rfl (.eq rfl) trivial rfl rfl rfl rfl rfl rfl (fun h=>by cases h) (.inr ⟨rfl,rfl⟩) (fun _=>rfl) (fun _=>rfl) rfl) (fun x17' g=>?_))))
 obtain⟨x17⟩:=x17'
 refine U.pd 5 T (C.xs ?_)
 refine C.jn (fun (x18:Bool)=>[(1,.sl 2 Q4 trips),(2,.i tick),(3,.sl 1 eI avoid),(4,.i most),(5,.p 0 0),(11,.b x5),(12,.sl 1 eLeI x17.1),(13,.i x17.2),(14,.b x18)]) (fun x18=>[(0,.box (Q9 s_1))]) 1 g (fun x18 g=>?_) fun J19 g j19=>?_
 refine C.xs (C.seq ?_)
 refine C.jn (fun (x24:Bool)=>[(1,.sl 2 Q4 trips),(2,.i tick),(3,.sl 1 eI avoid),(4,.i most),(5,.p 0 0),(11,.b x5),(12,.sl 1 eLeI x17.1),(13,.i x17.2),(14,.b x18),(65,.b x24)]) (fun x24=>[(0,.box (Q9 s_1))]) 1 g (fun x24 g=>?_) fun J25 g j25=>?_
 refine C.nx ?_
 refine C.ite rfl g (fun b27 g=>?_) fun b27 g=>?_
 refine C.seq ?_
 refine C.jn (fun (x28:Bool)=>[(10,.b x28)]) (fun x28=>[]) 0 g (fun x28 g=>?_) fun J29 g j29=>?_
 refine C.nx (C.ret (C.rt ?_))
 exact C.f1 T o (pBi g)
 refine U.start (U.ps 2 T rfl ?_)
 refine g.cs (fun b30 g=>?_) fun b30 g=>?_
 refine U.pq 3 1 true 67 b30 T ?_
 refine U.pk b30 ?_
 refine U.ps 1 T rfl ?_
 refine g.cs (fun b31 g=>?_) fun b31 g=>?_
 refine U.pq 4 6 true 72 b31 T ?_
 refine U.pk b31 ?_
 refine U.ps 1 T rfl ?_
 refine g.cs (fun b32 g=>?_) fun b32 g=>?_
 refine U.pq 2 12 true 78 b32 T ?_
 refine g.cs (fun b33 g=>?_) fun b33 g=>?_
 refine U.sk' 2 14 false 80 b33 ?_
 refine U.r rfl (.tk 12 true 78 b32) rfl rfl (by exact Rd.pk rfl rfl b33 rfl) ?_
 refine U.pk b32 ?_
 refine U.pd 1 T ?_
 exact St.wn (j29 _ g)
 refine U.pq 2 14 false 80 b33 T ?_
 refine U.r rfl (.tk 12 true 78 b32) rfl rfl (by exact Rd.pk' rfl rfl b33 rfl) ?_
 refine U.pk b32 ?_
 refine U.pd 1 T ?_
 exact St.wn (j29 _ g)
 refine U.sk' 2 12 true 78 b32 ?_
 refine U.sku 2 14 false 80 rfl rfl rfl ?_
 refine U.sk' 1 12 true 78 b32 ?_
 refine U.pk' b32 ?_
 refine U.pd 1 T ?_
 exact St.wn (j29 _ g)
 refine U.sk' 4 6 true 72 b31 ?_
 refine U.pk' b31 ?_
 refine U.ps 1 T rfl (U.sk' 2 12 true 78 rfl ?_)
 refine U.sku 2 14 false 80 rfl rfl rfl ?_
 refine U.sk' 1 12 true 78 rfl ?_
 refine U.pk' rfl ?_
 refine U.pd 1 T ?_
 exact St.wn (j29 _ g)
 refine U.sk' 3 1 true 67 b30 ?_
 refine U.pk' b30 ?_
 refine U.ps 1 T rfl (U.sk' 4 6 true 72 rfl ?_)
 refine U.pk' rfl ?_
 refine U.ps 1 T rfl (U.sk' 2 12 true 78 rfl ?_)
 refine U.sku 2 14 false 80 rfl rfl rfl ?_
 refine U.sk' 1 12 true 78 rfl ?_
 refine U.pk' rfl ?_
 refine U.pd 1 T ?_
 exact St.wn (j29 _ g)
 refine C.skip (C.xs (C.ss (U.pd 2 T (C.nx ?_))))
 refine C.ite rfl g (fun b36 g=>?_) fun b36 g=>?_
 refine C.seq ?_
 refine C.jn (fun (x37:Bool)=>[(10,.b x37)]) (fun x37=>[]) 0 g (fun x37 g=>?_) fun J38 g j38=>?_
 refine C.nx (C.ret (C.rt ?_))
 exact C.f1 T o (pBi g)
 refine U.start (U.ps 2 T rfl ?_)
 refine g.cs (fun b39 g=>?_) fun b39 g=>?_
 refine U.pq 3 1 true 88 b39 T ?_
 refine U.pk b39 ?_
 refine U.ps 1 T rfl ?_
 refine g.cs (fun b40 g=>?_) fun b40 g=>?_
 refine U.pq 3 6 true 93 b40 T ?_
 refine g.cs (fun b41 g=>?_) fun b41 g=>?_
 refine U.sk' 3 9 false 96 b41 ?_
 refine U.sku 5 12 true 99 rfl rfl rfl ?_
 refine U.sk' 1 9 false 96 b41 ?_
 refine U.r rfl (.tk 6 true 93 b40) rfl rfl (by exact Rd.pk rfl rfl b41 rfl) ?_
 refine U.pk b40 ?_
 refine U.pd 1 T ?_
 exact St.wn (j38 _ g)
 refine U.pq 3 9 false 96 b41 T ?_
 refine g.cs (fun b42 g=>?_) fun b42 g=>?_
 refine U.pq 3 12 true 99 b42 T ?_
 refine U.k (YL s_1 trips most _ g) en9 (fun x43 g=>?_) (hw:=.take 12 true 99 _ b42 rfl rfl rfl)
 refine U.pq 1 12 true 99 b42 T ?_
 refine U.r rfl (.tk 9 false 96 b41) rfl rfl (by exact Rd.pk rfl rfl b42 rfl) ?_
 refine U.r rfl (.tk 6 true 93 b40) rfl rfl (by exact Rd.pk' rfl rfl b41 rfl) ?_
 refine U.pk b40 ?_
 refine U.pd 1 T ?_
 exact St.wn (j38 _ g)
 refine U.sk' 5 12 true 99 b42 ?_
 refine U.r rfl (.tk 9 false 96 b41) rfl rfl (by exact Rd.pk' rfl rfl b42 rfl) ?_
 refine U.r rfl (.tk 6 true 93 b40) rfl rfl (by exact Rd.pk' rfl rfl b41 rfl) ?_
 refine U.pk b40 ?_
 refine U.pd 1 T ?_
 exact St.wn (j38 _ g)
 refine U.sk' 3 6 true 93 b40 ?_
 refine U.sku 3 9 false 96 rfl rfl rfl ?_
 refine U.sku 5 12 true 99 rfl rfl rfl ?_
 refine U.sku 1 9 false 96 rfl rfl rfl ?_
 refine U.sk' 1 6 true 93 b40 ?_
 refine U.pk' b40 ?_
 refine U.pd 1 T ?_
 exact St.wn (j38 _ g)
 refine U.sk' 3 1 true 88 b39 ?_
 refine U.pk' b39 ?_
 refine U.ps 1 T rfl (U.sk' 3 6 true 93 rfl ?_)
 refine U.sku 3 9 false 96 rfl rfl rfl ?_
 refine U.sku 5 12 true 99 rfl rfl rfl ?_
 refine U.sku 1 9 false 96 rfl rfl rfl ?_
 refine U.sk' 1 6 true 93 rfl ?_
 refine U.pk' rfl ?_
 refine U.pd 1 T ?_
 exact St.wn (j38 _ g)
 refine C.skip (C.xt (U.ps 6 T rfl (U.k (Q2a s_1 trips tick avoid most x17.1 _ g) en10 (fun x46 g=>?_))))
 refine U.pd 5 T (C.xs ?_)
 refine C.jn (fun (x47:Bool)=>[(10,.b x47)]) (fun x47=>[]) 0 g (fun x47 g=>?_) fun J48 g j48=>?_
 refine C.nx (C.ret ?_)
 exact C.f1 T o (pBi g)
 refine U.start (U.ps 2 T rfl ?_)
 refine g.cs (fun b49 g=>?_) fun b49 g=>?_
 refine U.pq 2 1 true 119 b49 T ?_
 refine U.pk b49 ?_
 refine U.ps 1 T rfl ?_
 refine g.cs (fun b50 g=>?_) fun b50 g=>?_
 refine U.pq 2 5 true 123 b50 T ?_
 refine U.pk b50 ?_
 refine U.pd 1 T ?_
 exact St.wn (j48 _ g)
 refine U.sk' 2 5 true 123 b50 ?_
 refine U.pk' b50 ?_
 refine U.pd 1 T ?_
 exact St.wn (j48 _ g)
 refine U.sk' 2 1 true 119 b49 ?_
 refine U.pk' b49 ?_
 refine U.ps 1 T rfl (U.sk' 2 5 true 123 rfl ?_)
 refine U.pk' rfl ?_
 refine U.pd 1 T ?_
 exact St.wn (j48 _ g)
 refine U.start (U.ps 2 T rfl ?_)
 refine g.cs (fun b26 g=>?_) fun b26 g=>?_
 refine U.sk' 2 1 false 62 b26 ?_
 refine U.pk b26 ?_
 refine U.done ?_
 exact St.wa [some 0] (j25 _ g)
 refine U.pq 2 1 false 62 b26 T ?_
 refine U.pk' b26 ?_
 refine U.done ?_
 exact St.wa [some 0] (j25 _ g)
 refine U.start (U.ps 2 T rfl (U.k (YP s_1 trips _ g) en8 (fun x20 g=>?_)))
 refine U.ps 2 T rfl ?_
 refine g.cs (fun b21 g=>?_) fun b21 g=>?_
 refine U.pq 2 4 false 49 (ntF b21) T ?_
 refine U.pk' (ntF b21) ?_
 refine U.ps 1 T rfl ?_
 refine g.cs (fun b22 g=>?_) fun b22 g=>?_
 refine U.sk' 2 8 false 53 b22 ?_
 refine U.pk b22 ?_
 refine U.ps 1 T rfl (U.sk' 2 12 false 57 rfl ?_)
 refine U.pk rfl ?_
 refine U.pd 1 T ?_
 exact St.wa [some 0] (j19 _ g)
 refine U.pq 2 8 false 53 b22 T ?_
 refine U.pk' b22 ?_
 refine U.ps 1 T rfl ?_
 refine g.cs (fun b23 g=>?_) fun b23 g=>?_
 refine U.sk' 2 12 false 57 b23 ?_
 refine U.pk b23 ?_
 refine U.pd 1 T ?_
 exact St.wa [some 0] (j19 _ g)
 refine U.pq 2 12 false 57 b23 T ?_
 refine U.pk' b23 ?_
 refine U.pd 1 T ?_
 exact St.wa [some 0] (j19 _ g)
 refine U.sk' 2 4 false 49 (ntT b21) ?_
 refine U.pk (ntT b21) ?_
 refine U.ps 1 T rfl (U.sk' 2 8 false 53 rfl ?_)
 refine U.pk rfl ?_
 refine U.ps 1 T rfl (U.sk' 2 12 false 57 rfl ?_)
 refine U.pk rfl ?_
 refine U.pd 1 T ?_
 exact St.wa [some 0] (j19 _ g)
 refine U.start (U.ps 2 T rfl (U.k (Z2 s_1 avoid 16 _ g) en6 (fun x8 g=>?_)))
 refine U.ps 2 T rfl ?_
 refine g.cs (fun b9 g=>?_) fun b9 g=>?_
 refine U.pq 3 4 false 22 (ntF b9) T ?_
 refine U.pk' (ntF b9) ?_
 refine U.ps 1 T rfl ?_
 refine g.cs (fun b10 g=>?_) fun b10 g=>?_
 refine U.sk' 3 9 false 27 b10 ?_
 refine U.sku 2 12 true 30 rfl rfl rfl ?_
 refine U.sk' 1 9 false 27 b10 ?_
 refine U.pk b10 ?_
 refine U.done ?_
 exact St.wa [some 0] (j7 _ g)
 refine U.pq 3 9 false 27 b10 T ?_
 refine g.cs (fun b11 g=>?_) fun b11 g=>?_
 refine U.pq 2 12 true 30 b11 T ?_
 refine U.r rfl (.tk 9 false 27 b10) rfl rfl (by exact Rd.pk rfl rfl b11 rfl) ?_
 refine U.pk' b10 ?_
 refine U.done ?_
 exact St.wa [some 0] (j7 _ g)
 refine U.sk' 2 12 true 30 b11 ?_
 refine U.r rfl (.tk 9 false 27 b10) rfl rfl (by exact Rd.pk' rfl rfl b11 rfl) ?_
 refine U.pk' b10 ?_
 refine U.done ?_
 exact St.wa [some 0] (j7 _ g)
 refine U.sk' 3 4 false 22 (ntT b9) ?_
 refine U.pk (ntT b9) ?_
 refine U.ps 1 T rfl (U.sk' 3 9 false 27 rfl ?_)
 refine U.sku 2 12 true 30 rfl rfl rfl ?_
 refine U.sk' 1 9 false 27 rfl ?_
 refine U.pk rfl ?_
 refine U.done ?_
 exact St.wa [some 0] (j7 _ g)
end Go.Proofs.YtpckofngkabgbaaGreat
