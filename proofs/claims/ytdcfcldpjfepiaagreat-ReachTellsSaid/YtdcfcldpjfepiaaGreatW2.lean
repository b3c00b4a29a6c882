/- The walks: each Go function does what its verification condition says (written by a program of the prover). -/
import Derived.Test.YtdcfcldpjfepiaaGreatW1
import Derived.KernelRfl
set_option maxRecDepth 100000
set_option maxHeartbeats 8000000
set_option linter.unusedVariables false
set_option linter.unusedSimpArgs false
namespace Go.Proofs.YtdcfcldpjfepiaaGreat
open Go Go.Taq
theorem Q1Z (s_1:ApiSite) (post:(List (Q8×Bool))→Prop) (g:Ge s_1 post):
  Tr Tryz.prog 154 [.agg (Q1 s_1)] [] 0 (fun A H' k=>∃y,post y∧A=(.o 0)∧H'=[(0,.val (.om Yz veB y))]∧k=1):=by
 refine Tr.go Tryz.func154 Tryz.ntmps154 fun _ _ _ _ o=>?_
 unfold Ge at g
 refine C.ss (U.bx ?_)
 refine U.pd 1 T (C.xt ?_)
 refine U.e1 rfl (.none rfl) (by exact Eff1.mm Yz veB rfl rfl rfl) ?_
 refine U.pd 1 T (C.xs (C.ss ?_))
 refine U.pd 4 T (C.nx ?_)
 refine C.jn (fun (x7:List (Q8×Bool))=>[(3,.o 0)]) (fun x7=>[(0,.val (.om Yz veB x7))]) 1 g (fun x7 g=>?_) fun J8 g j8=>?_
 refine C.xt (U.pd 2 T (C.nx (C.ret ?_)))
 exact C.g1 [some 0] T o ⟨x7,g,rfl,rfl,rfl⟩
 refine C.block (St.wk (C.loop (fun (s9:List (Q8×Bool)×Int)=>[(3,.o 0),(8,.sl 2 Q9 s_1.Aparts),(9,.i (s_1.Aparts.length:Int)),(10,.i s9.2)]) (fun s9=>[(0,.val (.om Yz veB s9.1))]) g (fun s9 Y10 g=>?_)) (Wk.a [some 1]))
 refine C.ss (U.pd 1 T (C.xs ?_))
 refine C.ite rfl g (fun b13 g=>?_) fun b13 g=>?_
 refine C.skip (C.xs (C.block (C.ss ?_)))
 obtain⟨x16,y16,g⟩:=g
 refine U.ix T y16 ?_
 refine U.ps 1 T rfl (U.al T ?_)
 refine U.st T ?_
 refine U.done (C.nx (D.bq mix 9 [1] [0] (fun hQ hS ws M'=>?_)))
 refine D.pq 8 (zl [0,1,2,3,4,5,6,7]) T ?_
 refine D.e1 8 rfl (.none rfl) (by exact Eff1.mu T (x:=x16) (y:=true) (.inl rfl) rfl Q6S (fun _=>rfl) rfl rfl rfl rfl rfl (.inl rfl) rfl) (by kernel_rfl) rfl rfl ?_
 refine D.ze1 rfl (.none rfl) (by exact Eff1.mu T (x:=({A:=x16.B,B:=x16.A:Q8})) (y:=true) (.inl rfl) rfl Q6S (fun _=>rfl) rfl rfl rfl rfl rfl (.inl rfl) rfl) (by kernel_rfl) (by kernel_rfl) ?_
 refine C.bnx (C.nx (U.start (U.pd 2 T (C.nx ?_))))
 exact St.wk (C.next g) (Wk.a [some 0])
 refine C.exit (C.ex (C.ex (C.bex ?_)))
 exact St.wa [some 0] (j8 _ g)
theorem Q3g (s_1:ApiSite) (a:ByteArray) (b:ByteArray) (post:Bool→Prop) (g:GW s_1 a b post):
  Tr Tryz.prog 106 [.agg (Q1 s_1),.v (.string a),.v (.string b)] [] 0 (pB post):=by
 refine Tr.go Tryz.func106 Tryz.ntmps106 fun _ _ _ _ o=>?_
 unfold GW at g
 refine C.ss (U.bx ?_)
 refine U.pd 1 T (C.xs ?_)
 refine C.jn (fun (x3:Bool)=>[(6,.b x3)]) (fun x3=>[]) 0 g (fun x3 g=>?_) fun J4 g j4=>?_
 refine C.nx (C.ret ?_)
 exact C.f1 T o (pBi g)
 refine U.start (U.ps 3 T rfl ?_)
 refine g.cs (fun b5 g=>?_) fun b5 g=>?_
 refine U.sk' 2 2 true 9 (ntF b5) ?_
 refine U.pk' (ntF b5) ?_
 refine U.ps 1 T rfl (U.sk' 6 6 true 13 rfl ?_)
 refine U.pk' rfl ?_
 refine U.pd 1 T ?_
 exact St.wn (j4 _ g)
 refine U.pq 2 2 true 9 (ntT b5) T ?_
 refine U.pk (ntT b5) ?_
 refine U.ps 1 T rfl ?_
 refine g.cs (fun b6 g=>?_) fun b6 g=>?_
 refine U.sk' 6 6 true 13 (ntF b6) ?_
 refine U.pk' (ntF b6) ?_
 refine U.pd 1 T ?_
 exact St.wn (j4 _ g)
 refine U.pq 1 6 true 13 (ntT b6) T ?_
 refine U.k (Q1Z s_1 _ g) Q97 (fun x7 g=>?_) (hw:=.take 6 true 13 _ (ntT b6) rfl rfl rfl)
 refine U.pq 3 6 true 13 (ntT b6) T ?_
 refine U.r rfl (.tk 6 true 13 (ntT b6)) rfl rfl (by exact Rd.lk T (ke:=Yz) (ve:=veB) (xs:=x7) (z0:=false) (x:=({A:=a,B:=b:Q8})) rfl rfl Q6S zt4 (fun _=>rfl) rfl (.o rfl) rfl rfl rfl) ?_
 refine U.pk (ntT b6) ?_
 refine U.pd 1 T ?_
 exact St.wn (j4 _ g)
theorem Q41 (s_1:ApiSite) (st:ApiState) (shelf:Int) (c:Int) (post:Int→Prop) (g:Wt s_1 st shelf c post):
  Tr Tryz.prog 50 [.agg (Q1 s_1),.agg (Q2 st),.i shelf,.i c] [] 0 (pI post):=by
 refine Tr.go Tryz.func50 Tryz.ntmps50 fun _ _ _ _ o=>?_
 unfold Wt at g
 refine C.ss (U.bx ?_)
 refine U.bx ?_
 refine U.pd 1 T (C.xs (C.block (C.seq ?_)))
 refine C.jn (fun (x3:Bool)=>[(2,.i shelf),(3,.i c),(4,.p 0 0),(5,.p 1 0),(12,.b x3)]) (fun x3=>[(0,.box (Q1 s_1)),(1,.box (Q2 st))]) 2 g (fun x3 g=>?_) fun J4 g j4=>?_
 refine C.nx ?_
 refine C.ite rfl g (fun b6 g=>?_) fun b6 g=>?_
 refine C.ss (U.pd 1 T (C.nx (C.ret (C.brt (C.rt ?_)))))
 exact C.f1 T o (pIi g)
 refine C.ss (U.ps 2 T rfl (U.k (Q2i s_1 c _ g) Q9w (fun x11 g=>?_)))
 refine U.pd 2 T (C.nx ?_)
 refine C.ite rfl g (fun b12 g=>?_) fun b12 g=>?_
 refine C.ss (U.pd 1 T (C.nx (C.ret (C.brt (C.rt ?_)))))
 exact C.f1 T o (pIi g)
 refine C.skip (C.bnx (C.xt (U.pd 1 T (C.xs (C.ss ?_)))))
 refine U.pd 4 T (C.nx ?_)
 refine C.jn (fun (x19:Int)=>[(9,.i x19)]) (fun x19=>[]) 0 g (fun x19 g=>?_) fun J20 g j20=>?_
 refine C.xt (U.pd 2 T (C.nx (C.ret ?_)))
 exact C.f1 T o (pIi g)
 refine C.block (St.wk (C.loop (fun (s21:Int×Int)=>[(2,.i shelf),(3,.i c),(4,.p 0 0),(5,.p 1 0),(9,.i s21.1),(28,.sl 1 eI st.Shelves),(29,.i (st.Shelves.length:Int)),(30,.i s21.2)]) (fun s21=>[(0,.box (Q1 s_1)),(1,.box (Q2 st))]) g (fun s21 Y22 g=>?_)) (Wk.a (idR 2)))
 refine C.ss (U.pd 1 T (C.xs ?_))
 refine C.ite rfl g (fun b25 g=>?_) fun b25 g=>?_
 refine C.skip (C.xs ?_)
 refine C.jn (fun (x26:Int)=>[(2,.i shelf),(3,.i c),(4,.p 0 0),(5,.p 1 0),(9,.i x26),(28,.sl 1 eI st.Shelves),(29,.i (st.Shelves.length:Int)),(30,.i s21.2)]) (fun x26=>[(0,.box (Q1 s_1)),(1,.box (Q2 st))]) 2 g (fun x26 g=>?_) fun J27 g j27=>?_
 refine C.nx (U.start (U.pd 2 T (C.nx ?_)))
 exact St.wk (C.next g) (Wk.a (idR 2))
 refine C.block (C.ss (U.ps 1 T rfl ?_))
 obtain⟨x30,y30,g⟩:=g
 refine U.ix T y30 ?_
 refine U.pd 3 T (C.xs (C.seq ?_))
 refine C.jn (fun (x31:Bool)=>[(2,.i shelf),(3,.i c),(4,.p 0 0),(5,.p 1 0),(9,.i s21.1),(10,.i s21.2),(11,.i x30),(28,.sl 1 eI st.Shelves),(29,.i (st.Shelves.length:Int)),(30,.i s21.2),(56,.b x31)]) (fun x31=>[(0,.box (Q1 s_1)),(1,.box (Q2 st))]) 2 g (fun x31 g=>?_) fun J32 g j32=>?_
 refine C.nx ?_
 refine C.ite rfl g (fun b39 g=>?_) fun b39 g=>?_
 refine C.exit (C.ex (C.bex ?_))
 exact St.wa (idR 2) (j27 _ g)
 refine C.skip (C.xs (C.ss (U.pd 3 T (C.nx ?_))))
 refine C.ite rfl g (fun b42 g=>?_) fun b42 g=>?_
 refine C.ss (U.pd 1 T (C.nx (C.ret (C.rt (C.brt (C.rt (C.rt (C.brt (C.rt ?_)))))))))
 exact C.f1 T o (pIi g)
 refine C.skip (C.xs (D.bq mix 7 [0] [] (fun hQ hS ws M'=>?_)))
 refine D.pq 5 [(0,[]),(1,[3]),(2,[3]),(4,[6]),(5,[6])] T ?_
 refine D.k 3 (Q0R s_1 shelf _ g) Q7w fun x47 g=>?_
 refine D.k 6 (Q0R s_1 s21.2 _ g) Q7w fun x48 g=>?_
 refine D.ze rfl (.none rfl) (by exact Eff.k (Q3g s_1 x47 x48 _ g) Q98 rfl rfl rfl (.eq rfl) (fun _ _=>⟨(.v _),trivial⟩)) (by kernel_rfl) (by kernel_rfl) (fun x49' g=>?_)
 obtain⟨x49⟩:=x49'
 refine C.nx ?_
 refine C.jn (fun (x50:Int)=>[(2,.i shelf),(3,.i c),(4,.p 0 0),(5,.p 1 0),(9,.i x50),(28,.sl 1 eI st.Shelves),(29,.i (st.Shelves.length:Int)),(30,.i s21.2)]) (fun x50=>[(0,.box (Q1 s_1)),(1,.box (Q2 st))]) 2 g (fun x50 g=>?_) fun J51 g j51=>?_
 refine C.bnx ?_
 exact St.wa (idR 2) (j27 _ g)
 refine C.ite rfl g (fun b52 g=>?_) fun b52 g=>?_
 refine U.start (U.pd 1 T ?_)
 exact St.wa (idR 2) (j51 _ g)
 refine C.skip ?_
 exact St.wa (idR 2) (j51 _ g)
 refine U.start (U.ps 4 T rfl ?_)
 refine g.cs (fun b33 g=>?_) fun b33 g=>?_
 refine U.sk' 4 3 false 38 b33 ?_
 refine U.sku 6 7 true 42 rfl rfl rfl ?_
 refine U.sk' 1 3 false 38 b33 ?_
 refine U.pk b33 ?_
 refine U.ps 1 T rfl (U.sk' 4 16 false 51 rfl ?_)
 refine U.pk rfl ?_
 refine U.done ?_
 exact St.wa (idR 2) (j32 _ g)
 refine U.pq 4 3 false 38 b33 T ?_
 refine g.cs (fun b34 g=>?_) fun b34 g=>?_
 refine U.pq 4 7 true 42 b34 T ?_
 refine U.k (Q3F s_1.Floor x30 c _ g) Q8Y (fun x35 g=>?_) (hw:=.take 7 true 42 _ b34 rfl rfl rfl)
 refine U.pq 1 7 true 42 b34 T ?_
 refine U.r rfl (.tk 3 false 38 b33) rfl rfl (by exact Rd.pk rfl rfl b34 rfl) ?_
 refine U.pk' b33 ?_
 refine U.ps 1 T rfl ?_
 refine g.cs (fun b36 g=>?_) fun b36 g=>?_
 refine U.pq 2 16 false 51 (ntF b36) T ?_
 refine U.k (Zd st s21.2 _ g) Q7Y (fun x37 g=>?_) (hw:=.take 16 false 51 _ (ntF b36) rfl rfl rfl)
 refine U.pq 1 16 false 51 (ntF b36) T ?_
 refine U.pk' (ntF b36) ?_
 refine U.done ?_
 exact St.wa (idR 2) (j32 _ g)
 refine U.sk' 4 16 false 51 (ntT b36) ?_
 refine U.pk (ntT b36) ?_
 refine U.done ?_
 exact St.wa (idR 2) (j32 _ g)
 refine U.sk' 6 7 true 42 b34 ?_
 refine U.r rfl (.tk 3 false 38 b33) rfl rfl (by exact Rd.pk' rfl rfl b34 rfl) ?_
 refine U.pk' b33 ?_
 refine U.ps 1 T rfl (U.pq 2 16 false 51 rfl T ?_)
 refine U.k (Zd st s21.2 _ g) Q7Y (fun x38 g=>?_) (hw:=.take 16 false 51 _ rfl rfl rfl rfl)
 refine U.pq 1 16 false 51 rfl T ?_
 refine U.pk' rfl ?_
 refine U.done ?_
 exact St.wa (idR 2) (j32 _ g)
 refine C.exit (C.ex (C.ex (C.bex ?_)))
 exact St.wn (j20 _ g)
 refine U.start (U.ps 3 T rfl ?_)
 refine g.cs (fun b5 g=>?_) fun b5 g=>?_
 refine U.sk' 5 2 false 15 b5 ?_
 refine U.pk b5 ?_
 refine U.pd 1 T ?_
 exact St.wa (idR 2) (j4 _ g)
 refine U.pq 5 2 false 15 b5 T ?_
 refine U.pk' b5 ?_
 refine U.pd 1 T ?_
 exact St.wa (idR 2) (j4 _ g)
theorem Q4M (s_1:ApiSite) (st:ApiState) (robot:Int) (act:Int) (post:Int→Prop) (g:WX s_1 st robot act post):
  Tr Tryz.prog 12 [.agg (Q1 s_1),.agg (Q2 st),.i robot,.i act] [] 0 (pI post):=by
 refine Tr.go Tryz.func12 Tryz.ntmps12 fun _ _ _ _ o=>?_
 unfold WX at g
 refine C.ss (U.bx ?_)
 refine U.bx ?_
 refine U.pd 1 T (C.xs (C.seq ?_))
 refine C.jn (fun (x3:Bool)=>[(2,.i robot),(3,.i act),(4,.p 0 0),(5,.p 1 0),(22,.b x3)]) (fun x3=>[(0,.box (Q1 s_1)),(1,.box (Q2 st))]) 2 g (fun x3 g=>?_) fun J4 g j4=>?_
 refine C.nx ?_
 refine C.ite rfl g (fun b6 g=>?_) fun b6 g=>?_
 refine C.ss (U.pd 1 T (C.nx (C.ret (C.rt ?_))))
 exact C.f1 T o (pIi g)
 refine C.skip (C.xs (C.seq ?_))
 refine C.jn (fun (x9:Bool)=>[(2,.i robot),(3,.i act),(4,.p 0 0),(5,.p 1 0),(28,.b x9)]) (fun x9=>[(0,.box (Q1 s_1)),(1,.box (Q2 st))]) 2 g (fun x9 g=>?_) fun J10 g j10=>?_
 refine C.nx ?_
 refine C.ite rfl g (fun b12 g=>?_) fun b12 g=>?_
 refine C.ss (U.pd 1 T (C.nx (C.ret (C.rt ?_))))
 exact C.f1 T o (pIi g)
 refine C.skip (C.xs (C.ss (U.pd 2 T (C.nx ?_))))
 refine C.ite rfl g (fun b17 g=>?_) fun b17 g=>?_
 refine C.ss (U.pd 1 T (C.nx (C.ret (C.rt ?_))))
 exact C.f1 T o (pIi g)
 refine C.skip (C.xt (U.ps 3 T rfl ?_))
 obtain⟨x22,y22,g⟩:=g
 refine U.ix T y22 ?_
 refine U.ps 1 T rfl (U.al T ?_)
 refine U.st T ?_
 refine U.done (C.xt (U.ps 1 T rfl (U.k (Zi act _ g) en46 (fun x25 g=>?_))))
 refine U.pd 5 T (C.xs (C.seq ?_))
 refine C.jn (fun (x26:Bool)=>[(3,.i act),(4,.p 0 0),(5,.p 1 0),(9,.p 2 0),(10,.i x25.1),(11,.b x25.2),(47,.b x26)]) (fun x26=>[(0,.box (Q1 s_1)),(1,.box (Q2 st)),(2,.box (Q4 x22))]) 3 g (fun x26 g=>?_) fun J27 g j27=>?_
 refine C.nx ?_
 refine C.ite rfl g (fun b29 g=>?_) fun b29 g=>?_
 refine C.ss (U.pd 1 T (C.nx (C.ret (C.rt ?_))))
 exact C.f1 T o (pIi g)
 refine C.skip (C.xs (C.seq ?_))
 refine C.jn (fun (x32:Bool)=>[(3,.i act),(4,.p 0 0),(5,.p 1 0),(9,.p 2 0),(10,.i x25.1),(11,.b x25.2),(53,.b x32)]) (fun x32=>[(0,.box (Q1 s_1)),(1,.box (Q2 st)),(2,.box (Q4 x22))]) 3 g (fun x32 g=>?_) fun J33 g j33=>?_
 refine C.nx ?_
 refine C.ite rfl g (fun b35 g=>?_) fun b35 g=>?_
 refine C.ss (U.pd 1 T (C.nx (C.ret (C.rt ?_))))
 exact C.f1 T o (pIi g)
 refine C.skip (C.xs (C.ss (U.ps 8 T rfl (U.k (Ze st.Tick x22.Charge act (decide (x22.Load≥0)) _ g) en47 (fun x40 g=>?_)))))
 refine U.pd 5 T (C.xt ?_)
 refine U.pd 2 T (C.nx ?_)
 refine C.ite rfl g (fun b43 g=>?_) fun b43 g=>?_
 refine C.ss (U.pd 2 T (C.nx (C.ret (C.rt ?_))))
 exact C.f1 T o (pIi g)
 refine C.skip (C.xs (C.block (C.ss (U.pd 2 T (C.nx ?_)))))
 refine C.ite rfl g (fun b48 g=>?_) fun b48 g=>?_
 refine C.ss (U.ps 4 T rfl (U.k (Q5d s_1 st x22 x25.1 _ g) en48 (fun x51 g=>?_)))
 refine U.pd 1 T (C.nx (C.ret (C.brt (C.rt ?_))))
 exact C.f1 T o (pIi g)
 refine C.ss (U.pd 3 T (C.nx ?_))
 refine C.ite rfl g (fun b54 g=>?_) fun b54 g=>?_
 refine C.ss (U.ps 3 T rfl (U.k (Q5f s_1 st x22 _ g) en49 (fun x57 g=>?_)))
 refine U.pd 1 T (C.nx (C.ret (C.brt (C.rt ?_))))
 exact C.f1 T o (pIi g)
 refine C.seq ?_
 refine C.jn (fun (x58:Bool)=>[(3,.i act),(4,.p 0 0),(5,.p 1 0),(9,.p 2 0),(83,.b x58)]) (fun x58=>[(0,.box (Q1 s_1)),(1,.box (Q2 st)),(2,.box (Q4 x22))]) 3 g (fun x58 g=>?_) fun J59 g j59=>?_
 refine C.nx ?_
 refine C.ite rfl g (fun b61 g=>?_) fun b61 g=>?_
 refine C.ss (U.pd 1 T (C.nx (C.ret (C.brt (C.rt ?_)))))
 exact C.f1 T o (pIi g)
 refine C.ss (U.pd 3 T (C.nx ?_))
 refine C.ite rfl g (fun b66 g=>?_) fun b66 g=>?_
 refine C.ss (U.ps 6 T rfl (U.k (Q41 s_1 st x22.Load x22.Cell _ g) en50 (fun x69 g=>?_)))
 refine U.pd 1 T (C.nx (C.ret (C.brt (C.rt ?_))))
 exact C.f1 T o (pIi g)
 refine C.ss (U.ps 5 T rfl ?_)
 obtain⟨x72,y72,g⟩:=g
 refine U.ix T y72 ?_
 refine U.pd 3 T (C.nx ?_)
 refine C.ite rfl g (fun b73 g=>?_) fun b73 g=>?_
 refine C.ss (U.pd 1 T (C.nx (C.ret (C.brt (C.rt ?_)))))
 exact C.f1 T o (pIi g)
 refine C.skip (C.bnx (C.xt (U.pd 1 T (C.nx (C.ret ?_)))))
 exact C.f1 T o (pIi g)
 refine U.start (U.ps 3 T rfl ?_)
 refine g.cs (fun b60 g=>?_) fun b60 g=>?_
 refine U.pq 3 2 true 86 b60 T ?_
 refine U.pk b60 ?_
 refine U.pd 1 T ?_
 exact St.wa (idR 3) (j59 _ g)
 refine U.sk' 3 2 true 86 b60 ?_
 refine U.pk' b60 ?_
 refine U.pd 1 T ?_
 exact St.wa (idR 3) (j59 _ g)
 refine U.start (U.ps 2 T rfl ?_)
 refine g.cs (fun b34 g=>?_) fun b34 g=>?_
 refine U.pq 3 1 true 49 b34 T ?_
 refine U.pk b34 ?_
 refine U.done ?_
 exact St.wa (idR 3) (j33 _ g)
 refine U.sk' 3 1 true 49 b34 ?_
 refine U.pk' b34 ?_
 refine U.done ?_
 exact St.wa (idR 3) (j33 _ g)
 refine U.start (U.ps 3 T rfl ?_)
 refine g.cs (fun b28 g=>?_) fun b28 g=>?_
 refine U.sk' 3 2 false 43 b28 ?_
 refine U.pk b28 ?_
 refine U.done ?_
 exact St.wa (idR 3) (j27 _ g)
 refine U.pq 3 2 false 43 b28 T ?_
 refine U.pk' b28 ?_
 refine U.done ?_
 exact St.wa (idR 3) (j27 _ g)
 refine U.start (U.ps 3 T rfl ?_)
 refine g.cs (fun b11 g=>?_) fun b11 g=>?_
 refine U.sk' 2 2 false 25 b11 ?_
 refine U.pk b11 ?_
 refine U.done ?_
 exact St.wa (idR 2) (j10 _ g)
 refine U.pq 2 2 false 25 b11 T ?_
 refine U.pk' b11 ?_
 refine U.done ?_
 exact St.wa (idR 2) (j10 _ g)
 refine U.start (U.ps 3 T rfl ?_)
 refine g.cs (fun b5 g=>?_) fun b5 g=>?_
 refine U.sk' 5 2 false 16 b5 ?_
 refine U.pk b5 ?_
 refine U.done ?_
 exact St.wa (idR 2) (j4 _ g)
 refine U.pq 5 2 false 16 b5 T ?_
 refine U.pk' b5 ?_
 refine U.done ?_
 exact St.wa (idR 2) (j4 _ g)
theorem GR (s_1:List Q0) (post:(List Q0)→Prop) (g:QJ s_1 post):
  Tr Tryz.prog 108 [.sl 6 Q4 s_1] [] 0 (fun A H' k=>∃y,post y∧A=(.o 0)∧H'=[(0,.val (.os 6 Q4 y))]∧k=1):=by
 refine Tr.go Tryz.func108 Tryz.ntmps108 fun _ _ _ _ o=>?_
 unfold QJ at g
 refine C.ss (U.pd 1 T (C.xs (C.ss ?_)))
 refine U.ps 1 T rfl (U.e rfl (.none rfl) (by exact Eff.isnil T true rfl rfl rfl rfl rfl rfl (.inl ⟨.sl,rfl⟩) rfl) (fun b5' hhb5=>?_))
 obtain⟨b5⟩:=b5'
 replace g:=g b5 hhb5
 refine U.done (C.nx ?_)
 refine C.ite rfl g (fun b6 g=>?_) fun b6 g=>?_
 refine C.ss (U.pd 1 T (C.nx (C.ret (C.rt ?_))))
 exact C.g1 [none] T o ⟨[],g,rfl,rfl,rfl⟩
 refine C.skip (C.xt (U.bs T Q4 ([]:List Q0) ?_))
 refine U.ps 1 T rfl ?_
 obtain⟨y11,g⟩:=g
 refine U.ap T y11 ?_
 refine U.pd 1 T (C.nx (C.ret ?_))
 exact C.g1 [some 1] T o ⟨(([]:List Q0)++s_1),g,rfl,rfl,rfl⟩
theorem GQ (s_1:List Qd) (post:(List Qd)→Prop) (g:QK s_1 post):
  Tr Tryz.prog 109 [.sl 2 Q7 s_1] [] 0 (fun A H' k=>∃y,post y∧A=(.o 0)∧H'=[(0,.val (.os 2 Q7 y))]∧k=1):=by
 refine Tr.go Tryz.func109 Tryz.ntmps109 fun _ _ _ _ o=>?_
 unfold QK at g
 refine C.ss (U.pd 1 T (C.xs (C.ss ?_)))
 refine U.ps 1 T rfl (U.e rfl (.none rfl) (by exact Eff.isnil T true rfl rfl rfl rfl rfl rfl (.inl ⟨.sl,rfl⟩) rfl) (fun b5' hhb5=>?_))
 obtain⟨b5⟩:=b5'
 replace g:=g b5 hhb5
 refine U.done (C.nx ?_)
 refine C.ite rfl g (fun b6 g=>?_) fun b6 g=>?_
 refine C.ss (U.pd 1 T (C.nx (C.ret (C.rt ?_))))
 exact C.g1 [none] T o ⟨[],g,rfl,rfl,rfl⟩
 refine C.skip (C.xt (U.bs T Q7 ([]:List Qd) ?_))
 refine U.ps 1 T rfl ?_
 obtain⟨y11,g⟩:=g
 refine U.ap T y11 ?_
 refine U.pd 1 T (C.nx (C.ret ?_))
 exact C.g1 [some 1] T o ⟨(([]:List Qd)++s_1),g,rfl,rfl,rfl⟩
theorem Q4d (st:ApiState) (post:ApiState→Prop) (g:WA st post):
  Tr Tryz.prog 51 [.agg (Q2 st)] [] 0 (fun A H' k=>∃y,post y∧A=(.agg [.i y.Tick,.o 0,.o 1,.o 2,.o 3,.o 4])∧H'=[(0,.val (.os 1 eI y.Shelves)),(1,.val (.os 6 Q4 y.Robots)),(2,.val (.os 1 eI y.People)),(3,.val (.os 1 eI y.Dead)),(4,.val (.os 2 Q7 y.Stuck))]∧k=5):=by
 refine Tr.go Tryz.func51 Tryz.ntmps51 fun _ _ _ _ o=>?_
 unfold WA at g
 refine C.ss (U.bx ?_)
 refine U.al T ?_
 refine U.done (C.xs (D.bq mix 18 [0] [] (fun hQ hS ws M'=>?_)))
 refine D.pq 12 (zl [0,1,2,3,5,6,8,9,11,12,14,15]) T ?_
 refine D.k 4 (QV st.Shelves _ g) en63 fun x5 g=>?_
 refine D.k 7 (GR st.Robots _ g) Q8W fun x6 g=>?_
 refine D.k 10 (QV st.People _ g) en63 fun x7 g=>?_
 refine D.k 13 (QV st.Dead _ g) en63 fun x8 g=>?_
 refine D.k 16 (GQ st.Stuck _ g) Q8T fun x9 g=>?_
 refine D.pq 1 [(17,[])] T ?_
 refine D.ze1 rfl (.none rfl) (by exact Eff1.st T rfl rfl rfl rfl rfl rfl rfl rfl rfl rfl) (by kernel_rfl) (by kernel_rfl) ?_
 refine C.nx (C.ret ?_)
 exact C.g1 (sqR 2 5) T o ⟨({Tick:=st.Tick,Shelves:=x5,Robots:=x6,People:=x7,Dead:=x8,Stuck:=x9:ApiState}),g,rfl,rfl,rfl⟩
theorem Q6y (s_1:ApiSite) (st:ApiState) (robot:Int) (act:Int) (post:ApiState→Prop) (g:Q0n s_1 st robot act post):
  Tr Tryz.prog 13 [.agg (Q1 s_1),.agg (Q2 st),.i robot,.i act] [] 0 (fun A H' k=>∃y,post y∧A=(.agg [.i y.Tick,.o 0,.o 1,.o 2,.o 3,.o 4])∧H'=[(0,.val (.os 1 eI y.Shelves)),(1,.val (.os 6 Q4 y.Robots)),(2,.val (.os 1 eI y.People)),(3,.val (.os 1 eI y.Dead)),(4,.val (.os 2 Q7 y.Stuck))]∧k=5):=by
 refine Tr.go Tryz.func13 Tryz.ntmps13 fun _ _ _ _ o=>?_
 unfold Q0n at g
 refine C.ss (U.bx ?_)
 refine U.bx ?_
 refine U.al T ?_
 refine U.done (C.xt (U.ps 1 T rfl (U.k (Q4d st _ g) en51 (fun x5 g=>?_))))
 refine U.al T ?_
 refine U.st T ?_
 refine U.done (C.xs (C.seq ?_))
 refine C.jn (fun (x6:Bool)=>[(2,.i robot),(3,.i act),(4,.p 0 0),(5,.p 1 0),(8,.p 2 0),(9,.p 3 0),(35,.b x6)]) (fun x6=>[(0,.box (Q1 s_1)),(1,.box (Q2 st)),(2,.box [.i 0,vN,vN,vN,vN,vN]),(3,.box [.i x5.Tick,.o 4,.o 5,.o 6,.o 7,.o 8]),(4,.val (.os 1 eI x5.Shelves)),(5,.val (.os 6 Q4 x5.Robots)),(6,.val (.os 1 eI x5.People)),(7,.val (.os 1 eI x5.Dead)),(8,.val (.os 2 Q7 x5.Stuck))]) 9 g (fun x6 g=>?_) fun J7 g j7=>?_
 refine C.nx ?_
 refine C.ite rfl g (fun b11 g=>?_) fun b11 g=>?_
 refine C.ss (U.ps 1 T rfl (U.st T ?_))
 refine U.done (C.nx (C.ret (C.rt ?_)))
 exact C.g1 (sqR 4 5) T o ⟨x5,g,rfl,rfl,rfl⟩
 refine C.skip (C.xt (U.ps 3 T rfl ?_))
 obtain⟨x16,y16,g⟩:=g
 refine U.r rfl (.none rfl) rfl rfl (by exact Rd.io T rfl rfl rfl rfl rfl rfl rfl y16) ?_
 refine U.pd 1 T (C.xs ?_)
 refine D.bq mix 9999 [1,5] [] (fun hQ hS ws M'=>?_)
 refine D.pq 5 (zl [0,1,2,3,4]) T ?_
 refine D.q 5 [] hQ hS rfl (.none rfl) rfl rfl (by exact Rd.le T rfl rfl rfl (Q6 y16).2.2 rfl rfl rfl) rfl (by kernel_rfl) ?_
 refine D.pq 4 (zl [6,7,8,9]) T ?_
 refine D.q 10 [] hQ hS rfl (.none rfl) rfl rfl (by exact Rd.le T rfl rfl rfl (Q6 y16).2.2 rfl rfl rfl) rfl (by kernel_rfl) ?_
 refine D.pq 1 [(11,[])] T ?_
 refine D.k 12 (Ze st.Tick x16.Charge act (decide (x16.Load≥0)) _ g) en47 fun x19 g=>?_
 refine D.pq 5 (zl [13,14,15,16,17]) T ?_
 refine D.done (by kernel_rfl) ?_
 refine C.xs (C.ss (U.pd 2 T (C.nx ?_)))
 refine C.jn (fun (x22:Int)=>[(3,.i act),(4,.p 0 0),(5,.p 1 0),(8,.p 2 0),(9,.p 3 0),(10,.ep 5 6 (Int.toNat robot) 0),(11,.i x22)]) (fun x22=>[(0,.box (Q1 s_1)),(1,.box (Q2 st)),(2,.box [.i 0,vN,vN,vN,vN,vN]),(3,.box [.i x5.Tick,.o 4,.o 5,.o 6,.o 7,.o 8]),(4,.val (.os 1 eI x5.Shelves)),(5,.val (.os 6 Q4 x5.Robots)),(6,.val (.os 1 eI x5.People)),(7,.val (.os 1 eI x5.Dead)),(8,.val (.os 2 Q7 x5.Stuck))]) 9 g (fun x22 g=>?_) fun J23 g j23=>?_
 refine C.xt (U.ps 4 T rfl (U.e1 rfl (.none rfl) (by exact Eff1.se T (z':=({Cell:=x16.Cell,Load:=x16.Load,Charge:=x22,Rest:=x16.Rest,Mute:=x16.Mute,Dead:=x16.Dead:Q0})) rfl rfl rfl (Q6 y16).2.2 rfl rfl rfl rfl rfl rfl rfl rfl (fun _=>rfl) rfl) ?_))
 refine U.done (C.xs (C.ss (U.pd 1 T (C.nx (C.block (C.ss ?_))))))
 refine U.pd 2 T (C.nx ?_)
 refine C.jn (fun (x33:List Q0)=>[(3,.i act),(4,.p 0 0),(8,.p 1 0),(9,.p 2 0),(10,.ep 4 6 (Int.toNat robot) 0)]) (fun x33=>[(0,.box (Q1 s_1)),(1,.box [.i 0,vN,vN,vN,vN,vN]),(2,.box [.i x5.Tick,.o 3,.o 4,.o 5,.o 6,.o 7]),(3,.val (.os 1 eI x5.Shelves)),(4,.val (.os 6 Q4 x33)),(5,.val (.os 1 eI x5.People)),(6,.val (.os 1 eI x5.Dead)),(7,.val (.os 2 Q7 x5.Stuck))]) 8 g (fun x33 g=>?_) fun J34 g j34=>?_
 refine C.bnx (C.xt (U.ps 1 T rfl (U.k (Zi act _ g) en46 (fun x48 g=>?_))))
 refine U.pd 5 T (C.xs (C.ss ?_))
 refine U.pd 2 T (C.nx ?_)
 refine C.ite rfl g (fun b51 g=>?_) fun b51 g=>?_
 refine C.ss (U.ps 1 T rfl (U.st T ?_))
 refine U.done (C.nx (C.ret (C.rt ?_)))
 exact C.g1 (sqR 3 5) T o ⟨({Tick:=x5.Tick,Shelves:=x5.Shelves,Robots:=x33,People:=x5.People,Dead:=x5.Dead,Stuck:=x5.Stuck:ApiState}),g,rfl,rfl,rfl⟩
 refine C.skip (C.xs (C.seq (D.bq mix 9999 [0,4] [] (fun hQ hS ws M'=>?_))))
 refine D.pq 5 (zl [0,1,2,3,4]) T ?_
 obtain⟨x56,y56,g⟩:=g
 refine D.q 5 [] hQ hS rfl (.none rfl) rfl rfl (by exact Rd.le T rfl rfl rfl (Q6 y56).2.2 rfl rfl rfl) rfl (by kernel_rfl) ?_
 refine D.pq 1 [(6,[])] T ?_
 refine D.k 7 (Zz s_1.Floor x56.Cell x48.1 _ g) en53 fun x57 g=>?_
 refine D.pq 5 (zl [8,9,10,11,12]) T ?_
 refine D.done (by kernel_rfl) ?_
 refine C.xt (U.pd 1 T (C.nx ?_))
 refine C.jn (fun (x60:List Int×List Q0)=>[(8,.p 0 0),(9,.p 1 0)]) (fun x60=>[(0,.box [.i 0,vN,vN,vN,vN,vN]),(1,.box [.i x5.Tick,.o 2,.o 3,.o 4,.o 5,.o 6]),(2,.val (.os 1 eI x60.1)),(3,.val (.os 6 Q4 x60.2)),(4,.val (.os 1 eI x5.People)),(5,.val (.os 1 eI x5.Dead)),(6,.val (.os 2 Q7 x5.Stuck))]) 7 g (fun x60 g=>?_) fun J61 g j61=>?_
 refine C.xt (U.ps 1 T rfl (U.st T ?_))
 refine U.done (C.nx (C.ret ?_))
 exact C.g1 (sqR 2 5) T o ⟨({Tick:=x5.Tick,Shelves:=x60.1,Robots:=x60.2,People:=x5.People,Dead:=x5.Dead,Stuck:=x5.Stuck:ApiState}),g,rfl,rfl,rfl⟩
 refine C.ite rfl g (fun b62 g=>?_) fun b62 g=>?_
 refine C.ss (U.ps 5 T rfl (U.k (Q0Q s_1 x57.1 _ g) en54 (fun x65 g=>?_)))
 refine U.ps 3 T rfl (U.e1 rfl (.none rfl) (by exact Eff1.se T (z':=({Cell:=x57.1,Load:=x56.Load,Charge:=x56.Charge,Rest:=x56.Rest,Mute:=x56.Mute,Dead:=x56.Dead:Q0})) rfl rfl rfl (Q6 y56).2.2 rfl rfl rfl rfl rfl rfl rfl rfl (fun _=>rfl) rfl) ?_)
 refine U.ps 2 T rfl ?_
 refine U.e1 rfl (.none rfl) (by exact Eff1.se T (z':=({Cell:=({Cell:=x57.1,Load:=x56.Load,Charge:=x56.Charge,Rest:=x56.Rest,Mute:=x56.Mute,Dead:=x56.Dead:Q0}).Cell,Load:=({Cell:=x57.1,Load:=x56.Load,Charge:=x56.Charge,Rest:=x56.Rest,Mute:=x56.Mute,Dead:=x56.Dead:Q0}).Load,Charge:=({Cell:=x57.1,Load:=x56.Load,Charge:=x56.Charge,Rest:=x56.Rest,Mute:=x56.Mute,Dead:=x56.Dead:Q0}).Charge,Rest:=w64 (x65-1),Mute:=({Cell:=x57.1,Load:=x56.Load,Charge:=x56.Charge,Rest:=x56.Rest,Mute:=x56.Mute,Dead:=x56.Dead:Q0}).Mute,Dead:=({Cell:=x57.1,Load:=x56.Load,Charge:=x56.Charge,Rest:=x56.Rest,Mute:=x56.Mute,Dead:=x56.Dead:Q0}).Dead:Q0})) rfl rfl rfl (Wb (Q6 y56).2.2) rfl rfl rfl rfl rfl rfl rfl rfl (fun _=>rfl) rfl) ?_
 refine U.done (C.xt (U.ps 3 T rfl (U.r rfl (.none rfl) rfl rfl (by exact Rd.le T rfl rfl rfl (Wb (Wb (Q6 y56).2.2)) rfl rfl rfl) ?_)))
 refine U.pd 1 T (C.nx ?_)
 refine C.jn (fun (x68:List Int)=>[(8,.p 0 0),(9,.p 1 0)]) (fun x68=>[(0,.box [.i 0,vN,vN,vN,vN,vN]),(1,.box [.i x5.Tick,.o 2,.o 3,.o 4,.o 5,.o 6]),(2,.val (.os 1 eI x68)),(3,.val (.os 6 Q4 ((x33.set (Int.toNat robot) ({Cell:=x57.1,Load:=x56.Load,Charge:=x56.Charge,Rest:=x56.Rest,Mute:=x56.Mute,Dead:=x56.Dead:Q0})).set (Int.toNat robot) ({Cell:=({Cell:=x57.1,Load:=x56.Load,Charge:=x56.Charge,Rest:=x56.Rest,Mute:=x56.Mute,Dead:=x56.Dead:Q0}).Cell,Load:=({Cell:=x57.1,Load:=x56.Load,Charge:=x56.Charge,Rest:=x56.Rest,Mute:=x56.Mute,Dead:=x56.Dead:Q0}).Load,Charge:=({Cell:=x57.1,Load:=x56.Load,Charge:=x56.Charge,Rest:=x56.Rest,Mute:=x56.Mute,Dead:=x56.Dead:Q0}).Charge,Rest:=w64 (x65-1),Mute:=({Cell:=x57.1,Load:=x56.Load,Charge:=x56.Charge,Rest:=x56.Rest,Mute:=x56.Mute,Dead:=x56.Dead:Q0}).Mute,Dead:=({Cell:=x57.1,Load:=x56.Load,Charge:=x56.Charge,Rest:=x56.Rest,Mute:=x56.Mute,Dead:=x56.Dead:Q0}).Dead:Q0})))),(4,.val (.os 1 eI x5.People)),(5,.val (.os 1 eI x5.Dead)),(6,.val (.os 2 Q7 x5.Stuck))]) 7 g (fun x68 g=>?_) fun J69 g j69=>?_
 exact St.wa (idR 7) (j61 _ g)
 refine C.ite rfl g (fun b70 g=>?_) fun b70 g=>?_
 refine D.bq mix 8 [2,4] [] (fun hQ hS ws M'=>?_)
 refine D.pq 5 (zl [0,1,2,3,4]) T ?_
 refine D.q 5 [] hQ hS rfl (.none rfl) rfl rfl (by exact Rd.le T rfl rfl rfl (Wb (Wb (Q6 y56).2.2)) rfl rfl rfl) rfl (by kernel_rfl) ?_
 refine D.pq 1 [(6,[])] T ?_
 obtain⟨x73,y73,g⟩:=g
 refine D.q 7 [] hQ hS rfl (.none rfl) rfl rfl (by exact Rd.io T rfl rfl rfl rfl rfl rfl rfl y73) rfl (by kernel_rfl) ?_
 refine D.ze1 rfl (.none rfl) (by exact Eff1.se T (z':=x57.1) rfl rfl rfl (Q6 y73).2.2 rfl rfl rfl rfl rfl rfl rfl rfl (fun _=>rfl) rfl) (by kernel_rfl) (by kernel_rfl) ?_
 exact St.wa (sqR 1 7) (j69 _ g)
 refine C.skip ?_
 exact St.wa (sqR 1 7) (j69 _ g)
 refine C.skip ?_
 exact St.wa (sqR 1 7) (j61 _ g)
 refine C.ite rfl g (fun b35 g=>?_) fun b35 g=>?_
 refine D.bq mix 10 [0,1,5] [] (fun hQ hS ws M'=>?_)
 refine D.pq 6 (zl [0,1,2,3,4,5]) T ?_
 refine D.q 6 [] hQ hS rfl (.none rfl) rfl rfl (by exact Rd.le T rfl rfl rfl (Wb (Q6 y16).2.2) rfl rfl rfl) rfl (by kernel_rfl) ?_
 refine D.k 7 (Q2L s_1 st (({Cell:=x16.Cell,Load:=x16.Load,Charge:=x22,Rest:=x16.Rest,Mute:=x16.Mute,Dead:=x16.Dead:Q0}).Cell) _ g) en52 fun x38 g=>?_
 refine D.pq 2 [(8,[9]),(9,[])] T ?_
 refine D.ze1 rfl (.none rfl) (by exact Eff1.se T (z':=({Cell:=({Cell:=x16.Cell,Load:=x16.Load,Charge:=x22,Rest:=x16.Rest,Mute:=x16.Mute,Dead:=x16.Dead:Q0}).Cell,Load:=x38,Charge:=({Cell:=x16.Cell,Load:=x16.Load,Charge:=x22,Rest:=x16.Rest,Mute:=x16.Mute,Dead:=x16.Dead:Q0}).Charge,Rest:=({Cell:=x16.Cell,Load:=x16.Load,Charge:=x22,Rest:=x16.Rest,Mute:=x16.Mute,Dead:=x16.Dead:Q0}).Rest,Mute:=({Cell:=x16.Cell,Load:=x16.Load,Charge:=x22,Rest:=x16.Rest,Mute:=x16.Mute,Dead:=x16.Dead:Q0}).Mute,Dead:=({Cell:=x16.Cell,Load:=x16.Load,Charge:=x22,Rest:=x16.Rest,Mute:=x16.Mute,Dead:=x16.Dead:Q0}).Dead:Q0})) rfl rfl rfl (Wb (Q6 y16).2.2) rfl rfl rfl rfl rfl rfl rfl rfl (fun _=>rfl) rfl) (by kernel_rfl) (by kernel_rfl) ?_
 exact St.wa [some 0,some 2,some 3,some 4,some 5,some 6,some 7,some 8] (j34 _ g)
 refine C.ss (U.pd 2 T (C.nx ?_))
 refine C.jn (fun (x41:List Q0)=>[(3,.i act),(4,.p 0 0),(8,.p 1 0),(9,.p 2 0),(10,.ep 4 6 (Int.toNat robot) 0)]) (fun x41=>[(0,.box (Q1 s_1)),(1,.box [.i 0,vN,vN,vN,vN,vN]),(2,.box [.i x5.Tick,.o 3,.o 4,.o 5,.o 6,.o 7]),(3,.val (.os 1 eI x5.Shelves)),(4,.val (.os 6 Q4 x41)),(5,.val (.os 1 eI x5.People)),(6,.val (.os 1 eI x5.Dead)),(7,.val (.os 2 Q7 x5.Stuck))]) 8 g (fun x41 g=>?_) fun J42 g j42=>?_
 exact St.wa (idR 8) (j34 _ g)
 refine C.ite rfl g (fun b43 g=>?_) fun b43 g=>?_
 refine U.start (U.ps 3 T rfl ?_)
 refine U.e1 rfl (.none rfl) (by exact Eff1.se T (z':=({Cell:=({Cell:=x16.Cell,Load:=x16.Load,Charge:=x22,Rest:=x16.Rest,Mute:=x16.Mute,Dead:=x16.Dead:Q0}).Cell,Load:=(-1),Charge:=({Cell:=x16.Cell,Load:=x16.Load,Charge:=x22,Rest:=x16.Rest,Mute:=x16.Mute,Dead:=x16.Dead:Q0}).Charge,Rest:=({Cell:=x16.Cell,Load:=x16.Load,Charge:=x22,Rest:=x16.Rest,Mute:=x16.Mute,Dead:=x16.Dead:Q0}).Rest,Mute:=({Cell:=x16.Cell,Load:=x16.Load,Charge:=x22,Rest:=x16.Rest,Mute:=x16.Mute,Dead:=x16.Dead:Q0}).Mute,Dead:=({Cell:=x16.Cell,Load:=x16.Load,Charge:=x22,Rest:=x16.Rest,Mute:=x16.Mute,Dead:=x16.Dead:Q0}).Dead:Q0})) rfl rfl rfl (Wb (Q6 y16).2.2) rfl rfl rfl rfl rfl rfl rfl rfl (fun _=>rfl) rfl) ?_
 refine U.done ?_
 exact St.wa [some 0,some 2,some 3,some 4,some 5,some 6,some 7,some 8] (j42 _ g)
 refine C.skip ?_
 exact St.wa [some 0,some 2,some 3,some 4,some 5,some 6,some 7,some 8] (j42 _ g)
 refine C.ite rfl g (fun b24 g=>?_) fun b24 g=>?_
 refine U.start (U.pd 1 T ?_)
 exact St.wa (idR 9) (j23 _ g)
 refine C.skip ?_
 exact St.wa (idR 9) (j23 _ g)
 refine U.start (U.ps 3 T rfl ?_)
 refine g.cs (fun b8 g=>?_) fun b8 g=>?_
 refine U.sk' 5 2 false 21 b8 ?_
 refine U.pk b8 ?_
 refine U.ps 1 T rfl (U.sk' 6 9 false 28 rfl ?_)
 refine U.pk rfl ?_
 refine U.done ?_
 exact St.wa [some 0,some 1,some 2,some 8,some 3,some 4,some 5,some 6,some 7] (j7 _ g)
 refine U.pq 5 2 false 21 b8 T ?_
 refine U.pk' b8 ?_
 refine U.ps 1 T rfl ?_
 refine g.cs (fun b9 g=>?_) fun b9 g=>?_
 refine U.sk' 6 9 false 28 b9 ?_
 refine U.pk b9 ?_
 refine U.done ?_
 exact St.wa [some 0,some 1,some 2,some 8,some 3,some 4,some 5,some 6,some 7] (j7 _ g)
 refine U.pq 3 9 false 28 b9 T ?_
 obtain⟨x10,y10,g⟩:=g
 refine U.r rfl (.tk 9 false 28 b9) rfl rfl (by exact Rd.io T rfl rfl rfl rfl rfl rfl rfl y10) ?_
 refine U.pq 1 9 false 28 b9 T ?_
 refine U.r rfl (.tk 9 false 28 b9) rfl rfl (by exact Rd.le T rfl rfl rfl (Q6 y10).2.2 rfl rfl rfl) ?_
 refine U.pk' b9 ?_
 refine U.done ?_
 exact St.wa [some 0,some 1,some 2,some 8,some 3,some 4,some 5,some 6,some 7] (j7 _ g)
theorem Q2v (s_1:ApiSite) (st:ApiState) (robot:Int) (a:Int) (delay:Int) (post:Int→Prop) (g:Gs s_1 st robot a delay post):
  Tr Tryz.prog 11 [.agg (Q1 s_1),.agg (Q2 st),.i robot,.i a,.i delay] [] 0 (pI post):=by
 refine Tr.go Tryz.func11 Tryz.ntmps11 fun _ _ _ _ o=>?_
 unfold Gs at g
 refine C.ss (U.bx ?_)
 refine U.bx ?_
 refine U.pd 1 T (C.xs (C.ss ?_))
 refine U.ps 4 T rfl (U.k (Q4M s_1 st robot a _ g) en12 (fun x5 g=>?_))
 refine U.pd 1 T (C.xt ?_)
 refine U.pd 2 T (C.nx ?_)
 refine C.ite rfl g (fun b8 g=>?_) fun b8 g=>?_
 refine C.ss (U.pd 2 T (C.nx (C.ret (C.rt ?_))))
 exact C.f1 T o (pIi g)
 refine C.skip (C.xs (D.bq mix 9999 [0,1] [] (fun hQ hS ws M'=>?_)))
 refine D.pq 3 (zl [0,1,3]) T ?_
 refine D.k 2 (GX st _ g) en26 fun x13 g=>?_
 refine D.k 4 (GT s_1 x13 delay _ g) en23 fun x14 g=>?_
 refine D.pq 1 [(5,[])] T ?_
 refine D.done (by kernel_rfl) ?_
 refine C.xt (U.ps 3 T rfl (U.k (Wm st robot x14 _ g) en45 (fun x17 g=>?_)))
 refine U.pd 5 T (C.xt ?_)
 refine U.ps 4 T rfl (U.k (Q6y s_1 st robot a _ g) en13 (fun x20 g=>?_))
 refine U.ps 2 T rfl (U.k (Wm x20 robot x14 _ g) en45 (fun x21 g=>?_))
 refine U.pd 5 T (C.xs (C.block (C.ss ?_)))
 refine U.pd 3 T (C.nx ?_)
 refine C.ite rfl g (fun b24 g=>?_) fun b24 g=>?_
 refine C.ss (U.pd 1 T (C.nx (C.ret (C.brt (C.rt ?_)))))
 exact C.f1 T o (pIi g)
 refine C.seq ?_
 refine C.jn (fun (x27:Bool)=>[(51,.b x27)]) (fun x27=>[]) 0 g (fun x27 g=>?_) fun J28 g j28=>?_
 refine C.nx ?_
 refine C.ite rfl g (fun b31 g=>?_) fun b31 g=>?_
 refine C.ss (U.pd 1 T (C.nx (C.ret (C.brt (C.rt ?_)))))
 exact C.f1 T o (pIi g)
 refine C.skip (C.bnx (C.xt (U.pd 1 T (C.nx (C.ret ?_)))))
 exact C.f1 T o (pIi g)
 refine U.start (U.ps 3 T rfl ?_)
 refine g.cs (fun b29 g=>?_) fun b29 g=>?_
 refine U.pq 3 2 true 54 b29 T ?_
 refine g.cs (fun b30 g=>?_) fun b30 g=>?_
 refine U.pq 3 5 false 57 (ntF b30) T ?_
 refine U.r rfl (.tk 2 true 54 b29) rfl rfl (by exact Rd.pk' rfl rfl (ntF b30) rfl) ?_
 refine U.pk b29 ?_
 refine U.pd 1 T ?_
 exact St.wn (j28 _ g)
 refine U.sk' 3 5 false 57 (ntT b30) ?_
 refine U.r rfl (.tk 2 true 54 b29) rfl rfl (by exact Rd.pk rfl rfl (ntT b30) rfl) ?_
 refine U.pk b29 ?_
 refine U.pd 1 T ?_
 exact St.wn (j28 _ g)
 refine U.sk' 3 2 true 54 b29 ?_
 refine U.sku 3 5 false 57 rfl rfl rfl ?_
 refine U.sk' 1 2 true 54 b29 ?_
 refine U.pk' b29 ?_
 refine U.pd 1 T ?_
 exact St.wn (j28 _ g)
theorem Yo (act:Int) (post:Bool→Prop) (g:Kd act post):
  Tr Tryz.prog 123 [.i act] [] 0 (pB post):=by
 refine Tr.go Tryz.func123 Tryz.ntmps123 fun _ _ _ _ o=>?_
 unfold Kd at g
 refine C.ss (U.pd 1 T (C.xs ?_))
 refine C.jn (fun (x3:Bool)=>[(2,.b x3)]) (fun x3=>[]) 0 g (fun x3 g=>?_) fun J4 g j4=>?_
 refine C.nx (C.ret ?_)
 exact C.f1 T o (pBi g)
 refine U.start (U.ps 3 T rfl ?_)
 refine g.cs (fun b5 g=>?_) fun b5 g=>?_
 refine U.pq 2 2 true 5 b5 T ?_
 refine U.pk b5 ?_
 refine U.pd 1 T ?_
 exact St.wn (j4 _ g)
 refine U.sk' 2 2 true 5 b5 ?_
 refine U.pk' b5 ?_
 refine U.pd 1 T ?_
 exact St.wn (j4 _ g)
theorem Q13 (act:Int) (post:Bool→Prop) (g:Gm act post):
  Tr Tryz.prog 173 [.i act] [] 0 (pB post):=by
 refine Tr.go Tryz.func173 Tryz.ntmps173 fun _ _ _ _ o=>?_
 unfold Gm at g
 refine C.ss (U.pd 1 T (C.xs ?_))
 refine C.jn (fun (x3:Bool)=>[(2,.b x3)]) (fun x3=>[]) 0 g (fun x3 g=>?_) fun J4 g j4=>?_
 refine C.nx (C.ret ?_)
 exact C.f1 T o (pBi g)
 refine U.start (U.ps 3 T rfl ?_)
 refine g.cs (fun b5 g=>?_) fun b5 g=>?_
 refine U.pq 2 2 true 5 b5 T ?_
 refine U.pk b5 ?_
 refine U.pd 1 T ?_
 exact St.wn (j4 _ g)
 refine U.sk' 2 2 true 5 b5 ?_
 refine U.pk' b5 ?_
 refine U.pd 1 T ?_
 exact St.wn (j4 _ g)
theorem Q0j (charge:Int) (cost:Int) (post:(Int×Int)→Prop) (g:XO charge cost post):
  Tr Tryz.prog 174 [.i charge,.i cost] [] 0 (fun A H' k=>∃y,post y∧A=(.tup [.i y.1,.i y.2])∧H'=[]∧k=0):=by
 refine Tr.go Tryz.func174 Tryz.ntmps174 fun _ _ _ _ o=>?_
 unfold XO at g
 refine C.ss (U.pd 2 T (C.xs (C.seq ?_)))
 refine C.jn (fun (x3:Bool)=>[(0,.i charge),(1,.i cost),(15,.b x3)]) (fun x3=>[]) 0 g (fun x3 g=>?_) fun J4 g j4=>?_
 refine C.nx ?_
 refine C.ite rfl g (fun b7 g=>?_) fun b7 g=>?_
 refine C.ss (U.pd 3 T (C.nx (C.ret (C.rt ?_))))
 exact C.f9 T o ⟨(charge,1),g,rfl,rfl,rfl⟩
 refine C.skip (C.xs (C.ss (U.pd 3 T (C.nx ?_))))
 refine C.ite rfl g (fun b12 g=>?_) fun b12 g=>?_
 refine C.ss (U.pd 3 T (C.nx (C.ret (C.rt ?_))))
 exact C.f9 T o ⟨(charge,16),g,rfl,rfl,rfl⟩
 refine C.skip (C.xt (U.pd 5 T (C.nx (C.ret ?_))))
 exact C.f9 T o ⟨(w64 (charge-cost),0),g,rfl,rfl,rfl⟩
 refine U.start (U.ps 3 T rfl ?_)
 refine g.cs (fun b5 g=>?_) fun b5 g=>?_
 refine U.sk' 2 2 false 8 b5 ?_
 refine U.pk b5 ?_
 refine U.ps 1 T rfl (U.sk' 2 6 false 12 rfl ?_)
 refine U.pk rfl ?_
 refine U.done ?_
 exact St.wn (j4 _ g)
 refine U.pq 2 2 false 8 b5 T ?_
 refine U.pk' b5 ?_
 refine U.ps 1 T rfl ?_
 refine g.cs (fun b6 g=>?_) fun b6 g=>?_
 refine U.sk' 2 6 false 12 b6 ?_
 refine U.pk b6 ?_
 refine U.done ?_
 exact St.wn (j4 _ g)
 refine U.pq 2 6 false 12 b6 T ?_
 refine U.pk' b6 ?_
 refine U.done ?_
 exact St.wn (j4 _ g)
theorem Y9 (tick:Int) (charge:Int) (act:Int) (laden:Bool) (post:(Int×Int)→Prop) (g:Ks tick charge act laden post):
  Tr Tryz.prog 124 [.i tick,.i charge,.i act,.b laden] [] 0 (fun A H' k=>∃y,post y∧A=(.tup [.i y.1,.i y.2])∧H'=[]∧k=0):=by
 refine Tr.go Tryz.func124 Tryz.ntmps124 fun _ _ _ _ o=>?_
 unfold Ks at g
 refine C.ss (U.pd 2 T (C.xs (C.seq ?_)))
 refine C.jn (fun (x3:Bool)=>[(0,.i tick),(1,.i charge),(2,.i act),(3,.b laden),(20,.b x3)]) (fun x3=>[]) 0 g (fun x3 g=>?_) fun J4 g j4=>?_
 refine C.nx ?_
 refine C.ite rfl g (fun b8 g=>?_) fun b8 g=>?_
 refine C.ss (U.pd 3 T (C.nx (C.ret (C.rt ?_))))
 exact C.f9 T o ⟨(charge,1),g,rfl,rfl,rfl⟩
 refine C.skip (C.xs (C.ss (U.pd 2 T (C.nx ?_))))
 refine C.ite rfl g (fun b13 g=>?_) fun b13 g=>?_
 refine C.seq (C.ss (U.pd 2 T (C.nx ?_)))
 refine C.ite rfl g (fun b16 g=>?_) fun b16 g=>?_
 refine C.ss (U.pd 2 T (C.nx (C.ret (C.rt (C.rt ?_)))))
 exact C.f9 T o ⟨(1000000,0),g,rfl,rfl,rfl⟩
 refine C.skip (C.xt (U.pd 4 T (C.nx (C.ret (C.rt ?_)))))
 exact C.f9 T o ⟨(w64 (charge+20),0),g,rfl,rfl,rfl⟩
 refine C.skip (C.xt (U.ps 4 T rfl (U.k (W9 tick act laden _ g) en56 (fun x23 g=>?_))))
 refine U.k (Q0j charge x23 _ g) Q92 fun x24 g=>?_
 refine U.pd 4 T (C.nx (C.ret ?_))
 exact C.f9 T o ⟨(x24.1,x24.2),g,rfl,rfl,rfl⟩
 refine U.start (U.ps 3 T rfl ?_)
 refine g.cs (fun b5 g=>?_) fun b5 g=>?_
 refine U.sk' 2 2 false 12 b5 ?_
 refine U.pk b5 ?_
 refine U.ps 1 T rfl (U.sk' 3 6 false 16 rfl ?_)
 refine U.pk rfl ?_
 refine U.done ?_
 exact St.wn (j4 _ g)
 refine U.pq 2 2 false 12 b5 T ?_
 refine U.pk' b5 ?_
 refine U.ps 1 T rfl ?_
 refine g.cs (fun b6 g=>?_) fun b6 g=>?_
 refine U.sk' 3 6 false 16 b6 ?_
 refine U.pk b6 ?_
 refine U.done ?_
 exact St.wn (j4 _ g)
 refine U.pq 1 6 false 16 b6 T ?_
 refine U.k (Q13 act _ g) Q8X (fun x7 g=>?_) (hw:=.take 6 false 16 _ b6 rfl rfl rfl)
 refine U.pq 1 6 false 16 b6 T ?_
 refine U.pk' b6 ?_
 refine U.done ?_
 exact St.wn (j4 _ g)
theorem Z4 (s_1:ApiSite) (st:ApiState) (post:(List Int)→Prop) (g:K6 s_1 st post):
  Tr Tryz.prog 175 [.agg (Q1 s_1),.agg (Q2 st)] [] 0 (fun A H' k=>∃y,post y∧A=(.o 0)∧H'=[(0,.val (.os 1 eI y))]∧k=1):=by
 refine Tr.go Tryz.func175 Tryz.ntmps175 fun _ _ _ _ o=>?_
 unfold K6 at g
 refine C.ss (U.bx ?_)
 refine U.bx ?_
 refine U.pd 1 T (C.xt ?_)
 refine U.ps 4 T rfl ?_
 obtain⟨y5,g⟩:=g
 refine U.e1 rfl (.none rfl) (by exact Eff1.mk T (enc:=eI) (z0:=0) rfl rfl rfl rfl rfl rfl rfl rfl rfl rfl y5) ?_
 refine U.pd 1 T (C.xs (C.ss ?_))
 refine U.pd 1 T (C.nx ?_)
 refine C.jn (fun (x8:List Int)=>[(2,.p 0 0),(3,.p 1 0),(5,.o 2)]) (fun x8=>[(0,.box (Q1 s_1)),(1,.box (Q2 st)),(2,.val (.os 1 eI x8))]) 3 g (fun x8 g=>?_) fun J9 g j9=>?_
 refine C.xt (U.ps 3 T rfl ?_)
 obtain⟨y22,g⟩:=g
 refine U.e1 rfl (.none rfl) (by exact Eff1.mk T (enc:=eB) (z0:=false) rfl rfl rfl rfl rfl rfl rfl rfl rfl rfl y22) ?_
 refine U.pd 1 T (C.xs (C.ss ?_))
 refine U.pd 1 T (C.nx ?_)
 refine C.jn (fun (x25:List Bool)=>[(2,.p 0 0),(3,.p 1 0),(5,.o 2),(7,.o 3)]) (fun x25=>[(0,.box (Q1 s_1)),(1,.box (Q2 st)),(2,.val (.os 1 eI x8)),(3,.val (.os 1 eB x25))]) 4 g (fun x25 g=>?_) fun J26 g j26=>?_
 refine C.xs (C.ss (U.pd 5 T (C.nx ?_)))
 refine C.jn (fun (x48:List Int)=>[(5,.o 0)]) (fun x48=>[(0,.val (.os 1 eI x48))]) 1 g (fun x48 g=>?_) fun J49 g j49=>?_
 refine C.xt (U.pd 2 T (C.nx (C.ret ?_)))
 exact C.g1 [some 0] T o ⟨x48,g,rfl,rfl,rfl⟩
 refine C.block (St.wk (C.loop (fun (s50:List Int×Int)=>[(2,.p 0 0),(3,.p 1 0),(5,.o 2),(7,.o 3),(10,.i s50.2)]) (fun s50=>[(0,.box (Q1 s_1)),(1,.box (Q2 st)),(2,.val (.os 1 eI s50.1)),(3,.val (.os 1 eB x25))]) g (fun s50 Y51 g=>?_)) (Wk.a (idR 4)))
 refine C.seq (C.ss (U.pd 2 T (C.nx ?_)))
 refine C.ite rfl g (fun b54 g=>?_) fun b54 g=>?_
 refine C.skip (C.xs (C.block (C.seq ?_)))
 refine C.jn (fun (x55:Bool)=>[(2,.p 0 0),(3,.p 1 0),(5,.o 2),(7,.o 3),(10,.i s50.2),(75,.b x55)]) (fun x55=>[(0,.box (Q1 s_1)),(1,.box (Q2 st)),(2,.val (.os 1 eI s50.1)),(3,.val (.os 1 eB x25))]) 4 g (fun x55 g=>?_) fun J56 g j56=>?_
 refine C.nx ?_
 refine C.jn (fun (x61:List Int)=>[(2,.p 0 0),(3,.p 1 0),(5,.o 2),(7,.o 3),(10,.i s50.2)]) (fun x61=>[(0,.box (Q1 s_1)),(1,.box (Q2 st)),(2,.val (.os 1 eI x61)),(3,.val (.os 1 eB x25))]) 4 g (fun x61 g=>?_) fun J62 g j62=>?_
 refine C.bnx (C.nx (U.start (U.pd 3 T (C.nx ?_))))
 exact St.wk (C.next g) (Wk.a (idR 4))
 refine C.ite rfl g (fun b63 g=>?_) fun b63 g=>?_
 refine U.start (U.ps 4 T rfl ?_)
 obtain⟨x66,y66,g⟩:=g
 refine U.ix T y66 ?_
 refine U.ps 2 T rfl ?_
 obtain⟨x67,y67,g⟩:=g
 refine U.r rfl (.none rfl) rfl rfl (by exact Rd.io T rfl rfl rfl rfl rfl rfl rfl y67) ?_
 refine U.e1 rfl (.none rfl) (by exact Eff1.se T (z':=s50.2) rfl rfl rfl (Q6 y67).2.2 rfl rfl rfl rfl rfl rfl rfl rfl (fun _=>rfl) rfl) ?_
 refine U.done ?_
 exact St.wa (idR 4) (j62 _ g)
 refine C.skip ?_
 exact St.wa (idR 4) (j62 _ g)
 refine D.bq mix 9999 [0,1,3] [] (fun hQ hS ws M'=>?_)
 refine D.pq 2 (zl [0,1]) T ?_
 obtain⟨x57,y57,g⟩:=g
 refine D.q 2 [] hQ hS rfl (.none rfl) rfl rfl (by exact Rd.io T rfl rfl rfl rfl rfl rfl rfl y57) rfl (by kernel_rfl) ?_
 refine D.q 3 [] hQ hS rfl (.none rfl) rfl rfl (by exact Rd.le T rfl rfl rfl (Q6 y57).2.2 rfl rfl rfl) rfl (by kernel_rfl) ?_
 refine D.pq 2 (zl [4,5]) T ?_
 refine g.cs (fun b58 g=>?_) fun b58 g=>?_
 refine D.sz 6 [] 5 true 66 (ntF b58) ?_
 refine D.sz 7 [] 5 true 66 (ntF b58) ?_
 refine D.sz 8 [] 5 true 66 (ntF b58) ?_
 refine D.sz 9 [] 5 true 66 (ntF b58) ?_
 refine D.sz 10 [] 5 true 66 (ntF b58) ?_
 refine D.sz 11 [] 5 true 66 (ntF b58) ?_
 refine D.sz 12 [] 5 true 66 (ntF b58) ?_
 refine D.sz 13 [] 5 true 66 (ntF b58) ?_
 refine D.kf 14 [] (ntF b58) ?_
 refine D.done (by kernel_rfl) ?_
 exact St.wa (idR 4) (j56 _ g)
 refine D.pt 6 [] 5 true 66 (ntT b58) T ?_
 refine D.q 7 [] hQ hS rfl (.tk 5 true 66 (ntT b58)) rfl rfl (by exact Rd.l T rfl rfl rfl) rfl (by kernel_rfl) ?_
 refine D.pt 8 [] 5 true 66 (ntT b58) T ?_
 refine D.q 9 [] hQ hS rfl (.tk 5 true 66 (ntT b58)) rfl rfl (by exact Rd.l T rfl rfl rfl) rfl (by kernel_rfl) ?_
 refine D.pt 10 [] 5 true 66 (ntT b58) T ?_
 obtain⟨x59,y59,g⟩:=g
 refine D.q 11 [] hQ hS rfl (.tk 5 true 66 (ntT b58)) rfl rfl (by exact Rd.ix T rfl rfl rfl rfl rfl rfl y59) rfl (by kernel_rfl) ?_
 refine D.q 12 [] hQ hS rfl (.tk 5 true 66 (ntT b58)) rfl rfl (by exact Rd.l T rfl rfl rfl) rfl (by kernel_rfl) ?_
 refine D.k 13 (K1 s_1.Floor x59 _ g) en33 (fun x60 g=>?_) (hw:=.take 5 true 66 _ (ntT b58) rfl rfl rfl)
 refine D.kt 14 [] (ntT b58) ?_
 refine D.done (by kernel_rfl) ?_
 exact St.wa (idR 4) (j56 _ g)
 refine C.exit (C.ex (C.ex (C.bex ?_)))
 exact St.wa [some 2] (j49 _ g)
 refine C.block (St.wk (C.loop (fun (s27:List Bool×Int)=>[(2,.p 0 0),(3,.p 1 0),(5,.o 2),(7,.o 3),(8,.i s27.2)]) (fun s27=>[(0,.box (Q1 s_1)),(1,.box (Q2 st)),(2,.val (.os 1 eI x8)),(3,.val (.os 1 eB s27.1))]) g (fun s27 Y28 g=>?_)) (Wk.a (idR 4)))
 refine C.seq (C.ss (U.pd 5 T (C.nx ?_)))
 refine C.ite rfl g (fun b31 g=>?_) fun b31 g=>?_
 refine C.skip (C.xs (C.block (C.ss (U.ps 3 T rfl ?_))))
 obtain⟨x34,y34,g⟩:=g
 refine U.ix T y34 ?_
 refine U.pd 3 T (C.xs ?_)
 refine C.jn (fun (x35:Bool)=>[(2,.p 0 0),(3,.p 1 0),(5,.o 2),(7,.o 3),(8,.i s27.2),(9,.i x34.Load),(49,.b x35)]) (fun x35=>[(0,.box (Q1 s_1)),(1,.box (Q2 st)),(2,.val (.os 1 eI x8)),(3,.val (.os 1 eB s27.1))]) 4 g (fun x35 g=>?_) fun J36 g j36=>?_
 refine C.nx ?_
 refine C.jn (fun (x38:List Bool)=>[(2,.p 0 0),(3,.p 1 0),(5,.o 2),(7,.o 3),(8,.i s27.2)]) (fun x38=>[(0,.box (Q1 s_1)),(1,.box (Q2 st)),(2,.val (.os 1 eI x8)),(3,.val (.os 1 eB x38))]) 4 g (fun x38 g=>?_) fun J39 g j39=>?_
 refine C.bnx (C.nx (U.start (U.pd 3 T (C.nx ?_))))
 exact St.wk (C.next g) (Wk.a (idR 4))
 refine C.ite rfl g (fun b40 g=>?_) fun b40 g=>?_
 refine U.start (U.ps 2 T rfl ?_)
 obtain⟨x43,y43,g⟩:=g
 refine U.r rfl (.none rfl) rfl rfl (by exact Rd.io T rfl rfl rfl rfl rfl rfl rfl y43) ?_
 refine U.e1 rfl (.none rfl) (by exact Eff1.se T (z':=true) rfl rfl rfl (Q6 y43).2.2 rfl rfl rfl rfl rfl rfl rfl rfl (fun _=>rfl) rfl) ?_
 refine U.done ?_
 exact St.wa (idR 4) (j39 _ g)
 refine C.skip ?_
 exact St.wa (idR 4) (j39 _ g)
 refine U.start (U.ps 3 T rfl ?_)
 refine g.cs (fun b37 g=>?_) fun b37 g=>?_
 refine U.pq 4 2 true 44 b37 T ?_
 refine U.pk b37 ?_
 refine U.done ?_
 exact St.wa (idR 4) (j36 _ g)
 refine U.sk' 4 2 true 44 b37 ?_
 refine U.pk' b37 ?_
 refine U.done ?_
 exact St.wa (idR 4) (j36 _ g)
 refine C.exit (C.ex (C.ex (C.bex ?_)))
 exact St.wa (idR 4) (j26 _ g)
 refine C.block (St.wk (C.loop (fun (s10:List Int×Int)=>[(2,.p 0 0),(3,.p 1 0),(5,.o 2),(6,.i s10.2)]) (fun s10=>[(0,.box (Q1 s_1)),(1,.box (Q2 st)),(2,.val (.os 1 eI s10.1))]) g (fun s10 Y11 g=>?_)) (Wk.a (idR 3)))
 refine C.seq (C.ss (U.pd 4 T (C.nx ?_)))
 refine C.ite rfl g (fun b14 g=>?_) fun b14 g=>?_
 refine C.skip (C.xs (C.block (U.start (U.ps 2 T rfl ?_))))
 obtain⟨x17,y17,g⟩:=g
 refine U.r rfl (.none rfl) rfl rfl (by exact Rd.io T rfl rfl rfl rfl rfl rfl rfl y17) ?_
 refine U.e1 rfl (.none rfl) (by exact Eff1.se T (z':=(-1)) rfl rfl rfl (Q6 y17).2.2 rfl rfl rfl rfl rfl rfl rfl rfl (fun _=>rfl) rfl) ?_
 refine U.done (C.bnx (C.nx (U.start (U.pd 3 T (C.nx ?_)))))
 exact St.wk (C.next g) (Wk.a (idR 3))
 refine C.exit (C.ex (C.ex (C.bex ?_)))
 exact St.wa (idR 3) (j9 _ g)
theorem YX (s_1:ApiSite) (st:ApiState) (c:Int) (post:Int→Prop) (g:X8 s_1 st c post):
  Tr Tryz.prog 125 [.agg (Q1 s_1),.agg (Q2 st),.i c] [] 0 (pI post):=by
 refine Tr.go Tryz.func125 Tryz.ntmps125 fun _ _ _ _ o=>?_
 unfold X8 at g
 refine C.ss (U.bx ?_)
 refine U.bx ?_
 refine U.pd 1 T (C.xs (C.ss ?_))
 refine U.ps 3 T rfl (U.k (K1 s_1.Floor c _ g) en33 (fun x5 g=>?_))
 refine U.pd 1 T (C.nx ?_)
 refine C.ite rfl g (fun b6 g=>?_) fun b6 g=>?_
 refine C.ss (U.pd 1 T (C.nx (C.ret (C.rt ?_))))
 exact C.f1 T o (pIi g)
 refine C.skip (C.xt (U.ps 2 T rfl (U.k (Z4 s_1 st _ g) Q8L (fun x11 g=>?_))))
 refine U.ps 1 T rfl ?_
 obtain⟨x12,y12,g⟩:=g
 refine U.r rfl (.none rfl) rfl rfl (by exact Rd.io T rfl rfl rfl rfl rfl rfl rfl y12) ?_
 refine U.r rfl (.none rfl) rfl rfl (by exact Rd.le T rfl rfl rfl (Q6 y12).2.2 rfl rfl rfl) ?_
 refine U.pd 1 T (C.nx (C.ret ?_))
 exact C.f1 T o (pIi g)
theorem ZI (s_1:ApiSite) (c:Int) (post:Bool→Prop) (g:KI s_1 c post):
  Tr Tryz.prog 176 [.agg (Q1 s_1),.i c] [] 0 (pB post):=by
 refine Tr.go Tryz.func176 Tryz.ntmps176 fun _ _ _ _ o=>?_
 unfold KI at g
 refine C.ss (U.bx ?_)
 refine U.pd 1 T (C.xs (C.ss ?_))
 refine U.ps 3 T rfl (U.k (K1 s_1.Floor c _ g) en33 (fun x5 g=>?_))
 refine U.pd 1 T (C.nx ?_)
 refine C.ite rfl g (fun b6 g=>?_) fun b6 g=>?_
 refine C.ss (U.pd 1 T (C.nx (C.ret (C.rt ?_))))
 exact C.f1 T o (pBi g)
 refine C.skip (C.xs ?_)
 refine C.jn (fun (x9:Bool)=>[(4,.b x9)]) (fun x9=>[]) 0 g (fun x9 g=>?_) fun J10 g j10=>?_
 refine C.nx (C.ret ?_)
 exact C.f1 T o (pBi g)
 refine U.start (U.ps 4 T rfl ?_)
 obtain⟨x11,y11,g⟩:=g
 refine U.ix T y11 ?_
 refine U.ps 3 T rfl ?_
 refine g.cs (fun b12 g=>?_) fun b12 g=>?_
 refine U.sk' 7 7 false 17 b12 ?_
 refine U.pk b12 ?_
 refine U.pd 1 T ?_
 exact St.wn (j10 _ g)
 refine U.pq 4 7 false 17 b12 T ?_
 refine U.r rfl (.tk 7 false 17 b12) rfl rfl (by exact Rd.ix T rfl rfl rfl rfl rfl rfl y11) ?_
 refine U.pq 2 7 false 17 b12 T ?_
 refine U.pk' b12 ?_
 refine U.pd 1 T ?_
 exact St.wn (j10 _ g)
theorem Z7 (st:ApiState) (shelf:Int) (post:Int→Prop) (g:Kx st shelf post):
  Tr Tryz.prog 177 [.agg (Q2 st),.i shelf] [] 0 (pI post):=by
 refine Tr.go Tryz.func177 Tryz.ntmps177 fun _ _ _ _ o=>?_
 unfold Kx at g
 refine C.ss (U.bx ?_)
 refine U.pd 1 T (C.xs (C.ss ?_))
 refine U.pd 1 T (C.nx ?_)
 refine C.jn (fun (x5:Unit)=>[]) (fun x5=>[]) 0 g (fun x5 g=>?_) fun J6 g j6=>?_
 refine C.xt (U.pd 1 T (C.nx (C.ret ?_)))
 exact C.f1 T o (pIi g)
 refine C.block (St.wk (C.loop (fun (s7:Int)=>[(1,.i shelf),(2,.p 0 0),(5,.i s7)]) (fun s7=>[(0,.box (Q2 st))]) g (fun s7 Y8 g=>?_)) (Wk.a [some 0]))
 refine C.seq (C.seq ?_)
 refine C.jn (fun (x9:Bool)=>[(1,.i shelf),(2,.p 0 0),(5,.i s7),(14,.b x9)]) (fun x9=>[(0,.box (Q2 st))]) 1 g (fun x9 g=>?_) fun J10 g j10=>?_
 refine C.nx ?_
 refine C.ite rfl g (fun b12 g=>?_) fun b12 g=>?_
 refine C.skip (C.xs (C.block (C.ss (U.ps 3 T rfl ?_))))
 obtain⟨x15,y15,g⟩:=g
 refine U.ix T y15 ?_
 refine U.pd 4 T (C.nx ?_)
 refine C.ite rfl g (fun b16 g=>?_) fun b16 g=>?_
 refine C.ss (U.pd 2 T (C.nx (C.ret (C.brt (C.rt (C.rt (C.brt (C.rt ?_))))))))
 exact C.f1 T o (pIi g)
 refine C.skip (C.bnx (C.nx (U.start (U.pd 3 T (C.nx ?_)))))
 exact St.wk (C.next g) (Wk.a [some 0])
 refine C.exit (C.ex (C.ex (C.bex ?_)))
 exact St.wk (j6 _ g) (Wk.mk' [] rfl rfl trivial trivial rfl)
 refine U.start (U.ps 6 T rfl ?_)
 refine g.cs (fun b11 g=>?_) fun b11 g=>?_
 refine U.pq 2 5 true 11 b11 T ?_
 refine U.pk b11 ?_
 refine U.done ?_
 exact St.wa [some 0] (j10 _ g)
 refine U.sk' 2 5 true 11 b11 ?_
 refine U.pk' b11 ?_
 refine U.done ?_
 exact St.wa [some 0] (j10 _ g)
theorem Q0x (f:ApiFloor) (a:Int) (b:Int) (post:Bool→Prop) (g:Xc f a b post):
  Tr Tryz.prog 178 [.agg (Qk f),.i a,.i b] [] 0 (pB post):=by
 refine Tr.go Tryz.func178 Tryz.ntmps178 fun _ _ _ _ o=>?_
 unfold Xc at g
 refine C.ss (U.bx ?_)
 refine U.pd 1 T (C.xs (C.ss ?_))
 refine U.pd 1 T (C.nx ?_)
 refine C.jn (fun (x5:Unit)=>[]) (fun x5=>[]) 0 g (fun x5 g=>?_) fun J6 g j6=>?_
 refine C.xt (U.pd 1 T (C.nx (C.ret ?_)))
 exact C.f1 T o (pBi g)
 refine C.block (St.wk (C.loop (fun (s7:Int)=>[(1,.i a),(2,.i b),(3,.p 0 0),(7,.i s7)]) (fun s7=>[(0,.box (Qk f))]) g (fun s7 Y8 g=>?_)) (Wk.a [some 0]))
 refine C.seq (C.ss (U.pd 2 T (C.nx ?_)))
 refine C.ite rfl g (fun b11 g=>?_) fun b11 g=>?_
 refine C.skip (C.xs (C.block (C.seq ?_)))
 refine C.jn (fun (x12:Bool)=>[(1,.i a),(2,.i b),(3,.p 0 0),(7,.i s7),(22,.b x12)]) (fun x12=>[(0,.box (Qk f))]) 1 g (fun x12 g=>?_) fun J13 g j13=>?_
 refine C.nx ?_
 refine C.ite rfl g (fun b17 g=>?_) fun b17 g=>?_
 refine C.ss (U.pd 1 T (C.nx (C.ret (C.brt (C.rt (C.rt (C.brt (C.rt ?_))))))))
 exact C.f1 T o (pBi g)
 refine C.skip (C.bnx (C.nx (U.start (U.pd 3 T (C.nx ?_)))))
 exact St.wk (C.next g) (Wk.a [some 0])
 refine U.start (U.ps 2 T rfl (U.k (K1 f b _ g) en33 (fun x14 g=>?_)))
 refine U.ps 1 T rfl ?_
 refine g.cs (fun b15 g=>?_) fun b15 g=>?_
 refine U.pq 3 3 true 15 b15 T ?_
 refine U.k (WG f a s7 _ g) Q89 (fun x16 g=>?_) (hw:=.take 3 true 15 _ b15 rfl rfl rfl)
 refine U.pq 2 3 true 15 b15 T ?_
 refine U.pk b15 ?_
 refine U.done ?_
 exact St.wa [some 0] (j13 _ g)
 refine U.sk' 6 3 true 15 b15 ?_
 refine U.pk' b15 ?_
 refine U.done ?_
 exact St.wa [some 0] (j13 _ g)
 refine C.exit (C.ex (C.ex (C.bex ?_)))
 exact St.wk (j6 _ g) (Wk.mk' [] rfl rfl trivial trivial rfl)
theorem Ye (s_1:ApiSite) (shelf:Int) (post:ByteArray→Prop) (g:Kr s_1 shelf post):
  Tr Tryz.prog 180 [.agg (Q1 s_1),.i shelf] [] 0 (fun A H' k=>∃y,post y∧A=(.v (.string y))∧H'=[]∧k=0):=by
 refine Tr.go Tryz.func180 Tryz.ntmps180 fun _ _ _ _ o=>?_
 unfold Kr at g
 refine C.ss (U.bx ?_)
 refine U.pd 1 T (C.xs (C.seq ?_))
 refine C.jn (fun (x3:Bool)=>[(1,.i shelf),(2,.p 0 0),(13,.b x3)]) (fun x3=>[(0,.box (Q1 s_1))]) 1 g (fun x3 g=>?_) fun J4 g j4=>?_
 refine C.nx ?_
 refine C.ite rfl g (fun b6 g=>?_) fun b6 g=>?_
 refine C.ss (U.pd 1 T (C.nx (C.ret (C.rt ?_))))
 exact C.f1 T o ⟨ByteArray.empty,g,rfl,rfl,rfl⟩
 refine C.skip (C.xt (U.ps 3 T rfl ?_))
 obtain⟨x11,y11,g⟩:=g
 refine U.ix T y11 ?_
 refine U.pd 3 T (C.nx (C.ret ?_))
 exact C.f1 T o ⟨x11.Class,g,rfl,rfl,rfl⟩
 refine U.start (U.ps 3 T rfl ?_)
 refine g.cs (fun b5 g=>?_) fun b5 g=>?_
 refine U.sk' 5 2 false 7 b5 ?_
 refine U.pk b5 ?_
 refine U.done ?_
 exact St.wa [some 0] (j4 _ g)
 refine U.pq 5 2 false 7 b5 T ?_
 refine U.pk' b5 ?_
 refine U.done ?_
 exact St.wa [some 0] (j4 _ g)
theorem Q07 (s_1:ApiSite) (a:ByteArray) (b:ByteArray) (post:Bool→Prop) (g:X2 s_1 a b post):
  Tr Tryz.prog 179 [.agg (Q1 s_1),.v (.string a),.v (.string b)] [] 0 (pB post):=by
 refine Tr.go Tryz.func179 Tryz.ntmps179 fun _ _ _ _ o=>?_
 unfold X2 at g
 refine C.ss (U.bx ?_)
 refine U.pd 1 T (C.xs (C.ss ?_))
 refine U.pd 1 T (C.nx ?_)
 refine C.jn (fun (x5:Unit)=>[]) (fun x5=>[]) 0 g (fun x5 g=>?_) fun J6 g j6=>?_
 refine C.xt (U.pd 1 T (C.nx (C.ret ?_)))
 exact C.f1 T o (pBi g)
 refine C.block (St.wk (C.loop (fun (s7:Int)=>[(1,.v (.string a)),(2,.v (.string b)),(3,.p 0 0),(7,.i s7)]) (fun s7=>[(0,.box (Q1 s_1))]) g (fun s7 Y8 g=>?_)) (Wk.a [some 0]))
 refine C.seq (C.seq ?_)
 refine C.jn (fun (x9:Bool)=>[(1,.v (.string a)),(2,.v (.string b)),(3,.p 0 0),(7,.i s7),(21,.b x9)]) (fun x9=>[(0,.box (Q1 s_1))]) 1 g (fun x9 g=>?_) fun J10 g j10=>?_
 refine C.nx ?_
 refine C.ite rfl g (fun b13 g=>?_) fun b13 g=>?_
 refine C.skip (C.xs (C.block (C.ss (U.ps 3 T rfl ?_))))
 obtain⟨x16,y16,g⟩:=g
 refine U.ix T y16 ?_
 refine U.ps 1 T rfl (U.al T ?_)
 refine U.st T ?_
 refine U.done (C.xs ?_)
 refine C.jn (fun (x17:Bool)=>[(1,.v (.string a)),(2,.v (.string b)),(3,.p 0 0),(7,.i s7),(50,.b x17)]) (fun x17=>[(0,.box (Q1 s_1))]) 1 g (fun x17 g=>?_) fun J18 g j18=>?_
 refine C.nx ?_
 refine C.ite rfl g (fun b23 g=>?_) fun b23 g=>?_
 refine C.ss (U.pd 1 T (C.nx (C.ret (C.brt (C.rt (C.rt (C.brt (C.rt ?_))))))))
 exact C.f1 T o (pBi g)
 refine C.skip (C.bnx (C.nx (U.start (U.pd 3 T (C.nx ?_)))))
 exact St.wk (C.next g) (Wk.a [some 0])
 refine U.start (U.ps 5 T rfl ?_)
 refine g.cs (fun b19 g=>?_) fun b19 g=>?_
 refine U.pq 4 4 true 33 b19 T ?_
 refine U.pk b19 ?_
 refine U.ps 1 T rfl ?_
 refine g.cs (fun b20 g=>?_) fun b20 g=>?_
 refine U.sk' 5 10 false 39 b20 ?_
 refine U.sku 4 15 true 44 rfl rfl rfl ?_
 refine U.sk' 1 10 false 39 b20 ?_
 refine U.pk b20 ?_
 refine U.done ?_
 exact St.wa [some 0] (j18 _ g)
 refine U.pq 5 10 false 39 b20 T ?_
 refine g.cs (fun b21 g=>?_) fun b21 g=>?_
 refine U.pq 4 15 true 44 b21 T ?_
 refine U.r rfl (.tk 10 false 39 b20) rfl rfl (by exact Rd.pk rfl rfl b21 rfl) ?_
 refine U.pk' b20 ?_
 refine U.done ?_
 exact St.wa [some 0] (j18 _ g)
 refine U.sk' 4 15 true 44 b21 ?_
 refine U.r rfl (.tk 10 false 39 b20) rfl rfl (by exact Rd.pk' rfl rfl b21 rfl) ?_
 refine U.pk' b20 ?_
 refine U.done ?_
 exact St.wa [some 0] (j18 _ g)
 refine U.sk' 4 4 true 33 b19 ?_
 refine U.pk' b19 ?_
 refine U.ps 1 T rfl (U.pq 5 10 false 39 rfl T ?_)
 refine g.cs (fun b22 g=>?_) fun b22 g=>?_
 refine U.pq 4 15 true 44 b22 T ?_
 refine U.r rfl (.tk 10 false 39 rfl) rfl rfl (by exact Rd.pk rfl rfl b22 rfl) ?_
 refine U.pk' rfl ?_
 refine U.done ?_
 exact St.wa [some 0] (j18 _ g)
 refine U.sk' 4 15 true 44 b22 ?_
 refine U.r rfl (.tk 10 false 39 rfl) rfl rfl (by exact Rd.pk' rfl rfl b22 rfl) ?_
 refine U.pk' rfl ?_
 refine U.done ?_
 exact St.wa [some 0] (j18 _ g)
 refine C.exit (C.ex (C.ex (C.bex ?_)))
 exact St.wk (j6 _ g) (Wk.mk' [] rfl rfl trivial trivial rfl)
 refine U.start (U.ps 6 T rfl ?_)
 refine g.cs (fun b11 g=>?_) fun b11 g=>?_
 refine U.pq 2 5 true 14 b11 T ?_
 refine U.pk b11 ?_
 refine U.ps 1 T rfl ?_
 refine g.cs (fun b12 g=>?_) fun b12 g=>?_
 refine U.sk' 2 9 true 18 (ntF b12) ?_
 refine U.pk' (ntF b12) ?_
 refine U.done ?_
 exact St.wa [some 0] (j10 _ g)
 refine U.pq 2 9 true 18 (ntT b12) T ?_
 refine U.pk (ntT b12) ?_
 refine U.done ?_
 exact St.wa [some 0] (j10 _ g)
 refine U.sk' 2 5 true 14 b11 ?_
 refine U.pk' b11 ?_
 refine U.ps 1 T rfl (U.sk' 2 9 true 18 rfl ?_)
 refine U.pk' rfl ?_
 refine U.done ?_
 exact St.wa [some 0] (j10 _ g)
theorem Q0D (s_1:ApiSite) (st:ApiState) (shelf:Int) (c:Int) (post:Int→Prop) (g:Xj s_1 st shelf c post):
  Tr Tryz.prog 126 [.agg (Q1 s_1),.agg (Q2 st),.i shelf,.i c] [] 0 (pI post):=by
 refine Tr.go Tryz.func126 Tryz.ntmps126 fun _ _ _ _ o=>?_
 unfold Xj at g
 refine C.ss (U.bx ?_)
 refine U.bx ?_
 refine U.pd 1 T (C.xs (C.seq ?_))
 refine C.jn (fun (x3:Bool)=>[(2,.i shelf),(3,.i c),(4,.p 0 0),(5,.p 1 0),(19,.b x3)]) (fun x3=>[(0,.box (Q1 s_1)),(1,.box (Q2 st))]) 2 g (fun x3 g=>?_) fun J4 g j4=>?_
 refine C.nx ?_
 refine C.ite rfl g (fun b6 g=>?_) fun b6 g=>?_
 refine C.ss (U.pd 1 T (C.nx (C.ret (C.rt ?_))))
 exact C.f1 T o (pIi g)
 refine C.skip (C.xs (C.ss (U.ps 2 T rfl (U.k (ZI s_1 c _ g) Q9E (fun x11 g=>?_)))))
 refine U.pd 1 T (C.nx ?_)
 refine C.ite rfl g (fun b12 g=>?_) fun b12 g=>?_
 refine C.ss (U.pd 1 T (C.nx (C.ret (C.rt ?_))))
 exact C.f1 T o (pIi g)
 refine C.skip (C.xt (U.pd 1 T (C.xs (C.ss ?_))))
 refine U.pd 1 T (C.nx ?_)
 refine C.jn (fun (x19:Int)=>[(9,.i x19)]) (fun x19=>[]) 0 g (fun x19 g=>?_) fun J20 g j20=>?_
 refine C.xt (U.pd 2 T (C.nx (C.ret ?_)))
 exact C.f1 T o (pIi g)
 refine C.block (St.wk (C.loop (fun (s21:Int×Int)=>[(2,.i shelf),(3,.i c),(4,.p 0 0),(5,.p 1 0),(9,.i s21.1),(10,.i s21.2)]) (fun s21=>[(0,.box (Q1 s_1)),(1,.box (Q2 st))]) g (fun s21 Y22 g=>?_)) (Wk.a (idR 2)))
 refine C.seq (C.ss (U.pd 5 T (C.nx ?_)))
 refine C.ite rfl g (fun b25 g=>?_) fun b25 g=>?_
 refine C.skip (C.xs ?_)
 refine C.jn (fun (x26:Int)=>[(2,.i shelf),(3,.i c),(4,.p 0 0),(5,.p 1 0),(9,.i x26),(10,.i s21.2)]) (fun x26=>[(0,.box (Q1 s_1)),(1,.box (Q2 st))]) 2 g (fun x26 g=>?_) fun J27 g j27=>?_
 refine C.nx (U.start (U.pd 3 T (C.nx ?_)))
 exact St.wk (C.next g) (Wk.a (idR 2))
 refine C.block (C.seq (C.seq ?_))
 refine C.jn (fun (x28:Bool)=>[(2,.i shelf),(3,.i c),(4,.p 0 0),(5,.p 1 0),(9,.i s21.1),(10,.i s21.2),(39,.b x28)]) (fun x28=>[(0,.box (Q1 s_1)),(1,.box (Q2 st))]) 2 g (fun x28 g=>?_) fun J29 g j29=>?_
 refine C.nx ?_
 refine C.ite rfl g (fun b32 g=>?_) fun b32 g=>?_
 refine C.exit (C.ex (C.bex ?_))
 exact St.wa (idR 2) (j27 _ g)
 refine C.skip (C.xs (C.ss (U.ps 3 T rfl ?_)))
 obtain⟨x35,y35,g⟩:=g
 refine U.ix T y35 ?_
 refine U.pd 3 T (C.nx ?_)
 refine C.ite rfl g (fun b36 g=>?_) fun b36 g=>?_
 refine C.ss (U.pd 1 T (C.nx (C.ret (C.rt (C.brt (C.rt (C.rt (C.brt (C.rt ?_)))))))))
 exact C.f1 T o (pIi g)
 refine C.skip (C.xs ?_)
 refine C.jn (fun (x39:Bool)=>[(2,.i shelf),(3,.i c),(4,.p 0 0),(5,.p 1 0),(9,.i s21.1),(10,.i s21.2),(65,.b x39)]) (fun x39=>[(0,.box (Q1 s_1)),(1,.box (Q2 st))]) 2 g (fun x39 g=>?_) fun J40 g j40=>?_
 refine C.nx ?_
 refine C.jn (fun (x46:Int)=>[(2,.i shelf),(3,.i c),(4,.p 0 0),(5,.p 1 0),(9,.i x46),(10,.i s21.2)]) (fun x46=>[(0,.box (Q1 s_1)),(1,.box (Q2 st))]) 2 g (fun x46 g=>?_) fun J47 g j47=>?_
 refine C.bnx ?_
 exact St.wa (idR 2) (j27 _ g)
 refine C.ite rfl g (fun b48 g=>?_) fun b48 g=>?_
 refine U.start (U.pd 1 T ?_)
 exact St.wa (idR 2) (j47 _ g)
 refine C.skip ?_
 exact St.wa (idR 2) (j47 _ g)
 refine D.bq mix 9999 [0,1] [] (fun hQ hS ws M'=>?_)
 refine D.pq 5 (zl [0,1,2,3,4]) T ?_
 refine D.ix 5 [] T y35 ?_
 refine D.pq 2 (zl [6,7]) T ?_
 refine D.k 8 (Q0x s_1.Floor x35 c _ g) Q9x fun x41 g=>?_
 refine D.pq 1 [(9,[])] T ?_
 refine g.cs (fun b42 g=>?_) fun b42 g=>?_
 refine D.q 10 [] hQ hS rfl (.tk 9 true 56 b42) rfl rfl (by exact Rd.l T rfl rfl rfl) rfl (by kernel_rfl) ?_
 refine D.q 11 [] hQ hS rfl (.tk 9 true 56 b42) rfl rfl (by exact Rd.l T rfl rfl rfl) rfl (by kernel_rfl) ?_
 refine D.pt 12 [] 9 true 56 b42 T ?_
 refine D.q 14 [] hQ hS rfl (.tk 9 true 56 b42) rfl rfl (by exact Rd.l T rfl rfl rfl) rfl (by kernel_rfl) ?_
 refine D.pt 15 [] 9 true 56 b42 T ?_
 refine D.k 13 (Ye s_1 shelf _ g) Q7W (fun x43 g=>?_) (hw:=.take 9 true 56 _ b42 rfl rfl rfl)
 refine D.k 16 (Ye s_1 s21.2 _ g) Q7W (fun x44 g=>?_) (hw:=.take 9 true 56 _ b42 rfl rfl rfl)
 refine D.k 17 (Q07 s_1 x43 x44 _ g) Q9C (fun x45 g=>?_) (hw:=.take 9 true 56 _ b42 rfl rfl rfl)
 refine D.kt 18 [] b42 ?_
 refine D.done (by kernel_rfl) ?_
 exact St.wa (idR 2) (j40 _ g)
 refine D.sz 10 [] 9 true 56 b42 ?_
 refine D.sz 11 [] 9 true 56 b42 ?_
 refine D.sz 12 [] 9 true 56 b42 ?_
 refine D.sz 13 [] 9 true 56 b42 ?_
 refine D.sz 14 [] 9 true 56 b42 ?_
 refine D.sz 15 [] 9 true 56 b42 ?_
 refine D.sz 16 [] 9 true 56 b42 ?_
 refine D.sz 17 [] 9 true 56 b42 ?_
 refine D.kf 18 [] b42 ?_
 refine D.done (by kernel_rfl) ?_
 exact St.wa (idR 2) (j40 _ g)
 refine U.start (U.ps 4 T rfl ?_)
 refine g.cs (fun b30 g=>?_) fun b30 g=>?_
 refine U.sk' 4 3 false 34 b30 ?_
 refine U.pk b30 ?_
 refine U.done ?_
 exact St.wa (idR 2) (j29 _ g)
 refine U.pq 2 3 false 34 b30 T ?_
 refine U.k (Z7 st s21.2 _ g) Q8S (fun x31 g=>?_) (hw:=.take 3 false 34 _ b30 rfl rfl rfl)
 refine U.pq 1 3 false 34 b30 T ?_
 refine U.pk' b30 ?_
 refine U.done ?_
 exact St.wa (idR 2) (j29 _ g)
 refine C.exit (C.ex (C.ex (C.bex ?_)))
 exact St.wn (j20 _ g)
 refine U.start (U.ps 3 T rfl ?_)
 refine g.cs (fun b5 g=>?_) fun b5 g=>?_
 refine U.sk' 5 2 false 13 b5 ?_
 refine U.pk b5 ?_
 refine U.done ?_
 exact St.wa (idR 2) (j4 _ g)
 refine U.pq 5 2 false 13 b5 T ?_
 refine U.pk' b5 ?_
 refine U.done ?_
 exact St.wa (idR 2) (j4 _ g)
theorem WE (s_1:ApiSite) (st:ApiState) (robot:Int) (act:Int) (post:(Int×Bool)→Prop) (g:K4 s_1 st robot act post):
  Tr Tryz.prog 129 [.agg (Q1 s_1),.agg (Q2 st),.i robot,.i act] [] 0 (fun A H' k=>∃y,post y∧A=(.tup [.i y.1,.b y.2])∧H'=[]∧k=0):=by
 refine Tr.go Tryz.func129 Tryz.ntmps129 fun _ _ _ _ o=>?_
 unfold K4 at g
 refine C.ss (U.bx ?_)
 refine U.bx ?_
 refine U.pd 2 T (C.xs (C.seq ?_))
 refine C.jn (fun (x3:Bool)=>[(2,.i robot),(3,.i act),(4,.p 0 0),(5,.p 1 0),(23,.b x3)]) (fun x3=>[(0,.box (Q1 s_1)),(1,.box (Q2 st))]) 2 g (fun x3 g=>?_) fun J4 g j4=>?_
 refine C.nx ?_
 refine C.ite rfl g (fun b8 g=>?_) fun b8 g=>?_
 refine C.ss (U.pd 2 T (C.nx (C.ret (C.rt ?_))))
 exact C.f9 T o ⟨(0,false),g,rfl,rfl,rfl⟩
 refine C.skip (C.xs (D.bq mix 9999 [0,1] [] (fun hQ hS ws M'=>?_)))
 refine D.pq 5 (zl [0,1,2,3,4]) T ?_
 obtain⟨x13,y13,g⟩:=g
 refine D.ix 5 [] T y13 ?_
 refine D.pq 4 (zl [6,7,8,9]) T ?_
 refine D.k 10 (Yk s_1.Floor x13.Cell (w64 (act-1)) _ g) en62 fun x14 g=>?_
 refine D.pq 4 (zl [11,12,13,14]) T ?_
 refine D.done (by kernel_rfl) ?_
 refine C.nx (C.ret ?_)
 exact C.f9 T o ⟨(x14.1,x14.2),g,rfl,rfl,rfl⟩
 refine U.start (U.ps 3 T rfl ?_)
 refine g.cs (fun b5 g=>?_) fun b5 g=>?_
 refine U.sk' 5 2 false 12 b5 ?_
 refine U.pk b5 ?_
 refine U.ps 1 T rfl (U.sk' 3 9 false 19 rfl ?_)
 refine U.pk rfl ?_
 refine U.done ?_
 exact St.wa (idR 2) (j4 _ g)
 refine U.pq 5 2 false 12 b5 T ?_
 refine U.pk' b5 ?_
 refine U.ps 1 T rfl ?_
 refine g.cs (fun b6 g=>?_) fun b6 g=>?_
 refine U.sk' 3 9 false 19 b6 ?_
 refine U.pk b6 ?_
 refine U.done ?_
 exact St.wa (idR 2) (j4 _ g)
 refine U.pq 1 9 false 19 b6 T ?_
 refine U.k (Yo act _ g) Q80 (fun x7 g=>?_) (hw:=.take 9 false 19 _ b6 rfl rfl rfl)
 refine U.pq 1 9 false 19 b6 T ?_
 refine U.pk' b6 ?_
 refine U.done ?_
 exact St.wa (idR 2) (j4 _ g)
theorem Yc (st:ApiState) (c:Int) (post:Bool→Prop) (g:Kk st c post):
  Tr Tryz.prog 181 [.agg (Q2 st),.i c] [] 0 (pB post):=by
 refine Tr.go Tryz.func181 Tryz.ntmps181 fun _ _ _ _ o=>?_
 unfold Kk at g
 refine C.ss (U.bx ?_)
 refine U.pd 1 T (C.xs (C.ss ?_))
 refine U.pd 1 T (C.nx ?_)
 refine C.jn (fun (x5:Unit)=>[]) (fun x5=>[]) 0 g (fun x5 g=>?_) fun J6 g j6=>?_
 refine C.xt (U.pd 1 T (C.nx (C.ret ?_)))
 exact C.f1 T o (pBi g)
 refine C.block (St.wk (C.loop (fun (s7:Int)=>[(1,.i c),(2,.p 0 0),(5,.i s7)]) (fun s7=>[(0,.box (Q2 st))]) g (fun s7 Y8 g=>?_)) (Wk.a [some 0]))
 refine C.seq (C.ss (U.pd 5 T (C.nx ?_)))
 refine C.ite rfl g (fun b11 g=>?_) fun b11 g=>?_
 refine C.skip (C.xs (C.block (C.ss (U.ps 3 T rfl ?_))))
 obtain⟨x14,y14,g⟩:=g
 refine U.ix T y14 ?_
 refine U.pd 4 T (C.nx ?_)
 refine C.ite rfl g (fun b15 g=>?_) fun b15 g=>?_
 refine C.ss (U.pd 1 T (C.nx (C.ret (C.brt (C.rt (C.rt (C.brt (C.rt ?_))))))))
 exact C.f1 T o (pBi g)
 refine C.skip (C.bnx (C.nx (U.start (U.pd 3 T (C.nx ?_)))))
 exact St.wk (C.next g) (Wk.a [some 0])
 refine C.exit (C.ex (C.ex (C.bex ?_)))
 exact St.wk (j6 _ g) (Wk.mk' [] rfl rfl trivial trivial rfl)
theorem Q0K (s_1:ApiSite) (c:Int) (tick:Int) (post:Bool→Prop) (g:Xn s_1 c tick post):
  Tr Tryz.prog 182 [.agg (Q1 s_1),.i c,.i tick] [] 0 (pB post):=by
 refine Tr.go Tryz.func182 Tryz.ntmps182 fun _ _ _ _ o=>?_
 unfold Xn at g
 refine C.ss (U.bx ?_)
 refine U.pd 1 T (C.xs (C.ss ?_))
 refine U.ps 3 T rfl (U.k (K1 s_1.Floor c _ g) en33 (fun x5 g=>?_))
 refine U.pd 1 T (C.nx ?_)
 refine C.ite rfl g (fun b6 g=>?_) fun b6 g=>?_
 refine C.ss (U.pd 1 T (C.nx (C.ret (C.rt ?_))))
 exact C.f1 T o (pBi g)
 refine C.skip (C.xt (U.ps 2 T rfl (U.k (WH s_1 c _ g) Q8l (fun x11 g=>?_))))
 refine U.pd 1 T (C.xs (C.ss ?_))
 refine U.pd 2 T (C.nx ?_)
 refine C.ite rfl g (fun b14 g=>?_) fun b14 g=>?_
 refine C.ss (U.pd 1 T (C.nx (C.ret (C.rt ?_))))
 exact C.f1 T o (pBi g)
 refine C.skip (C.xt (U.ps 3 T rfl ?_))
 obtain⟨x19,y19,g⟩:=g
 refine U.ix T y19 ?_
 refine U.pd 3 T (C.xs (C.ss ?_))
 refine U.pd 1 T (C.nx ?_)
 refine C.jn (fun (x22:Unit)=>[]) (fun x22=>[]) 0 g (fun x22 g=>?_) fun J23 g j23=>?_
 refine C.xt (U.pd 1 T (C.nx (C.ret ?_)))
 exact C.f1 T o (pBi g)
 refine C.block (St.wk (C.loop (fun (s24:Int)=>[(2,.i tick),(8,.sl 2 GM x19.Shut),(9,.i s24)]) (fun s24=>[]) g (fun s24 Y25 g=>?_)) (Wk.e))
 refine C.seq (C.ss (U.pd 4 T (C.nx ?_)))
 refine C.ite rfl g (fun b28 g=>?_) fun b28 g=>?_
 refine C.skip (C.xs (C.block (C.seq ?_)))
 refine C.jn (fun (x29:Bool)=>[(2,.i tick),(8,.sl 2 GM x19.Shut),(9,.i s24),(47,.b x29)]) (fun x29=>[]) 0 g (fun x29 g=>?_) fun J30 g j30=>?_
 refine C.nx ?_
 refine C.ite rfl g (fun b33 g=>?_) fun b33 g=>?_
 refine C.ss (U.pd 1 T (C.nx (C.ret (C.brt (C.rt (C.rt (C.brt (C.rt ?_))))))))
 exact C.f1 T o (pBi g)
 refine C.skip (C.bnx (C.nx (U.start (U.pd 3 T (C.nx ?_)))))
 exact St.wk (C.next g) (Wk.e)
 refine U.start (U.ps 3 T rfl ?_)
 obtain⟨x31,y31,g⟩:=g
 refine U.ix T y31 ?_
 refine U.ps 4 T rfl ?_
 refine g.cs (fun b32 g=>?_) fun b32 g=>?_
 refine U.pq 3 7 true 39 b32 T ?_
 refine U.r rfl (.tk 7 true 39 b32) rfl rfl (by exact Rd.ix T rfl rfl rfl rfl rfl rfl y31) ?_
 refine U.pq 3 7 true 39 b32 T ?_
 refine U.pk b32 ?_
 refine U.done ?_
 exact St.wn (j30 _ g)
 refine U.sk' 7 7 true 39 b32 ?_
 refine U.pk' b32 ?_
 refine U.done ?_
 exact St.wn (j30 _ g)
 refine C.exit (C.ex (C.ex (C.bex ?_)))
 exact St.wk (j23 _ g) (Wk.mk' [] rfl rfl trivial trivial rfl)
theorem Q1B (r:Q0) (c:Int) (post:(List Int)→Prop) (g:XT r c post):
  Tr Tryz.prog 212 [.agg (Q4 r),.i c] [] 0 (fun A H' k=>∃y,post y∧A=(.o 0)∧H'=[(0,.val (.os 1 eI y))]∧k=1):=by
 refine Tr.go Tryz.func212 Tryz.ntmps212 fun _ _ _ _ o=>?_
 unfold XT at g
 refine C.ss (U.bx ?_)
 refine U.pd 1 T (C.xs (C.ss ?_))
 refine U.pd 3 T (C.nx ?_)
 refine C.ite rfl g (fun b5 g=>?_) fun b5 g=>?_
 refine C.ss (U.ps 2 T rfl (U.bs T eI ([w64 (2*c)]:List Int) ?_))
 refine U.pd 1 T (C.nx (C.ret (C.rt ?_)))
 exact C.g1 [some 1] T o ⟨([w64 (2*c)]:List Int),g,rfl,rfl,rfl⟩
 refine C.skip (C.xt (U.ps 5 T rfl (U.bs T eI ([w64 (2*c),w64 ((w64 (2*c))+1)]:List Int) ?_)))
 refine U.pd 1 T (C.nx (C.ret ?_))
 exact C.g1 [some 1] T o ⟨([w64 (2*c),w64 ((w64 (2*c))+1)]:List Int),g,rfl,rfl,rfl⟩
theorem Q0k (st:ApiState) (i:Int) (post:(List Int)→Prop) (g:Kl st i post):
  Tr Tryz.prog 203 [.agg (Q2 st),.i i] [] 0 (fun A H' k=>∃y,post y∧A=(.o 0)∧H'=[(0,.val (.os 1 eI y))]∧k=1):=by
 refine Tr.go Tryz.func203 Tryz.ntmps203 fun _ _ _ _ o=>?_
 unfold Kl at g
 refine C.ss (U.bx ?_)
 refine U.pd 1 T (C.xs (C.seq ?_))
 refine C.jn (fun (x3:Bool)=>[(1,.i i),(2,.p 0 0),(13,.b x3)]) (fun x3=>[(0,.box (Q2 st))]) 1 g (fun x3 g=>?_) fun J4 g j4=>?_
 refine C.nx ?_
 refine C.ite rfl g (fun b6 g=>?_) fun b6 g=>?_
 refine C.ss (U.pd 1 T (C.nx (C.ret (C.rt ?_))))
 exact C.g1 [none] T o ⟨[],g,rfl,rfl,rfl⟩
 refine C.skip (C.xs (D.bq mix 9999 [0] [] (fun hQ hS ws M'=>?_)))
 refine D.pq 3 (zl [0,1,2]) T ?_
 obtain⟨x11,y11,g⟩:=g
 refine D.ix 3 [] T y11 ?_
 refine D.pq 4 (zl [4,5,6,7]) T ?_
 refine D.ix 8 [] T y11 ?_
 refine D.pq 2 (zl [9,10]) T ?_
 refine D.k 11 (Q1B x11 x11.Cell _ g) Q9u fun x12 g=>?_
 refine D.pq 1 [(12,[])] T ?_
 refine D.done (by kernel_rfl) ?_
 refine C.nx (C.ret ?_)
 exact C.g1 [some 1] T o ⟨x12,g,rfl,rfl,rfl⟩
 refine U.start (U.ps 3 T rfl ?_)
 refine g.cs (fun b5 g=>?_) fun b5 g=>?_
 refine U.sk' 5 2 false 7 b5 ?_
 refine U.pk b5 ?_
 refine U.done ?_
 exact St.wa [some 0] (j4 _ g)
 refine U.pq 5 2 false 7 b5 T ?_
 refine U.pk' b5 ?_
 refine U.done ?_
 exact St.wa [some 0] (j4 _ g)
theorem ZB (st:ApiState) (shelf:Int) (post:Int→Prop) (g:Ky st shelf post):
  Tr Tryz.prog 213 [.agg (Q2 st),.i shelf] [] 0 (pI post):=by
 refine Tr.go Tryz.func213 Tryz.ntmps213 fun _ _ _ _ o=>?_
 unfold Ky at g
 refine C.ss (U.bx ?_)
 refine U.pd 1 T (C.xs (C.ss ?_))
 refine U.pd 1 T (C.nx ?_)
 refine C.jn (fun (x5:Unit)=>[]) (fun x5=>[]) 0 g (fun x5 g=>?_) fun J6 g j6=>?_
 refine C.xt (U.pd 1 T (C.nx (C.ret ?_)))
 exact C.f1 T o (pIi g)
 refine C.block (St.wk (C.loop (fun (s7:Int)=>[(1,.i shelf),(2,.p 0 0),(5,.i s7)]) (fun s7=>[(0,.box (Q2 st))]) g (fun s7 Y8 g=>?_)) (Wk.a [some 0]))
 refine C.seq (C.seq ?_)
 refine C.jn (fun (x9:Bool)=>[(1,.i shelf),(2,.p 0 0),(5,.i s7),(14,.b x9)]) (fun x9=>[(0,.box (Q2 st))]) 1 g (fun x9 g=>?_) fun J10 g j10=>?_
 refine C.nx ?_
 refine C.ite rfl g (fun b12 g=>?_) fun b12 g=>?_
 refine C.skip (C.xs (C.block (C.ss (U.ps 3 T rfl ?_))))
 obtain⟨x15,y15,g⟩:=g
 refine U.ix T y15 ?_
 refine U.pd 4 T (C.nx ?_)
 refine C.ite rfl g (fun b16 g=>?_) fun b16 g=>?_
 refine C.ss (U.pd 2 T (C.nx (C.ret (C.brt (C.rt (C.rt (C.brt (C.rt ?_))))))))
 exact C.f1 T o (pIi g)
 refine C.skip (C.bnx (C.nx (U.start (U.pd 3 T (C.nx ?_)))))
 exact St.wk (C.next g) (Wk.a [some 0])
 refine C.exit (C.ex (C.ex (C.bex ?_)))
 exact St.wk (j6 _ g) (Wk.mk' [] rfl rfl trivial trivial rfl)
 refine U.start (U.ps 6 T rfl ?_)
 refine g.cs (fun b11 g=>?_) fun b11 g=>?_
 refine U.pq 2 5 true 11 b11 T ?_
 refine U.pk b11 ?_
 refine U.done ?_
 exact St.wa [some 0] (j10 _ g)
 refine U.sk' 2 5 true 11 b11 ?_
 refine U.pk' b11 ?_
 refine U.done ?_
 exact St.wa [some 0] (j10 _ g)
theorem Q0i (st:ApiState) (s_1:Int) (post:(List Int)→Prop) (g:Kn st s_1 post):
  Tr Tryz.prog 204 [.agg (Q2 st),.i s_1] [] 0 (fun A H' k=>∃y,post y∧A=(.o 0)∧H'=[(0,.val (.os 1 eI y))]∧k=1):=by
 refine Tr.go Tryz.func204 Tryz.ntmps204 fun _ _ _ _ o=>?_
 unfold Kn at g
 refine C.ss (U.bx ?_)
 refine U.pd 1 T (C.xs (C.seq ?_))
 refine C.jn (fun (x3:Bool)=>[(1,.i s_1),(2,.p 0 0),(19,.b x3)]) (fun x3=>[(0,.box (Q2 st))]) 1 g (fun x3 g=>?_) fun J4 g j4=>?_
 refine C.nx ?_
 refine C.ite rfl g (fun b8 g=>?_) fun b8 g=>?_
 refine C.ss (U.pd 1 T (C.nx (C.ret (C.rt ?_))))
 exact C.g1 [none] T o ⟨[],g,rfl,rfl,rfl⟩
 refine C.skip (C.xt (U.ps 3 T rfl ?_))
 obtain⟨x13,y13,g⟩:=g
 refine U.ix T y13 ?_
 refine U.ps 3 T rfl (U.bs T eI ([w64 ((w64 (2*x13))+1)]:List Int) ?_)
 refine U.pd 1 T (C.nx (C.ret ?_))
 exact C.g1 [some 1] T o ⟨([w64 ((w64 (2*x13))+1)]:List Int),g,rfl,rfl,rfl⟩
 refine U.start (U.ps 3 T rfl ?_)
 refine g.cs (fun b5 g=>?_) fun b5 g=>?_
 refine U.sk' 5 2 false 7 b5 ?_
 refine U.pk b5 ?_
 refine U.ps 1 T rfl (U.sk' 4 9 false 14 rfl ?_)
 refine U.pk rfl ?_
 refine U.done ?_
 exact St.wa [some 0] (j4 _ g)
 refine U.pq 5 2 false 7 b5 T ?_
 refine U.pk' b5 ?_
 refine U.ps 1 T rfl ?_
 refine g.cs (fun b6 g=>?_) fun b6 g=>?_
 refine U.sk' 4 9 false 14 b6 ?_
 refine U.pk b6 ?_
 refine U.done ?_
 exact St.wa [some 0] (j4 _ g)
 refine U.pq 2 9 false 14 b6 T ?_
 refine U.k (ZB st s_1 _ g) Q9F (fun x7 g=>?_) (hw:=.take 9 false 14 _ b6 rfl rfl rfl)
 refine U.pq 1 9 false 14 b6 T ?_
 refine U.pk' b6 ?_
 refine U.done ?_
 exact St.wa [some 0] (j4 _ g)
theorem ZP (st:ApiState) (p:Int) (post:(List Int)→Prop) (g:Ke st p post):
  Tr Tryz.prog 205 [.agg (Q2 st),.i p] [] 0 (fun A H' k=>∃y,post y∧A=(.o 0)∧H'=[(0,.val (.os 1 eI y))]∧k=1):=by
 refine Tr.go Tryz.func205 Tryz.ntmps205 fun _ _ _ _ o=>?_
 unfold Ke at g
 refine C.ss (U.bx ?_)
 refine U.pd 1 T (C.xs (C.seq ?_))
 refine C.jn (fun (x3:Bool)=>[(1,.i p),(2,.p 0 0),(13,.b x3)]) (fun x3=>[(0,.box (Q2 st))]) 1 g (fun x3 g=>?_) fun J4 g j4=>?_
 refine C.nx ?_
 refine C.ite rfl g (fun b6 g=>?_) fun b6 g=>?_
 refine C.ss (U.pd 1 T (C.nx (C.ret (C.rt ?_))))
 exact C.g1 [none] T o ⟨[],g,rfl,rfl,rfl⟩
 refine C.skip (C.xs (D.bq mix 9999 [0] [] (fun hQ hS ws M'=>?_)))
 refine D.pq 3 (zl [0,1,2]) T ?_
 obtain⟨x11,y11,g⟩:=g
 refine D.ix 3 [] T y11 ?_
 refine D.pq 5 (zl [4,5,6,7,8]) T ?_
 refine D.ix 9 [] T y11 ?_
 refine D.pq 3 (zl [10,11,12]) T ?_
 refine D.e1 13 rfl (.none rfl) (by exact Eff1.bs T (enc:=eI) (xs:=([w64 (2*x11),w64 ((w64 (2*x11))+1)]:List Int)) rfl rfl rfl rfl rfl rfl rfl rfl rfl rfl (fun _ _=>rfl) rfl rfl) (by kernel_rfl) rfl rfl ?_
 refine D.pq 1 [(14,[])] T ?_
 refine D.done (by kernel_rfl) ?_
 refine C.nx (C.ret ?_)
 exact C.g1 [some 1] T o ⟨([w64 (2*x11),w64 ((w64 (2*x11))+1)]:List Int),g,rfl,rfl,rfl⟩
 refine U.start (U.ps 3 T rfl ?_)
 refine g.cs (fun b5 g=>?_) fun b5 g=>?_
 refine U.sk' 5 2 false 7 b5 ?_
 refine U.pk b5 ?_
 refine U.done ?_
 exact St.wa [some 0] (j4 _ g)
 refine U.pq 5 2 false 7 b5 T ?_
 refine U.pk' b5 ?_
 refine U.done ?_
 exact St.wa [some 0] (j4 _ g)
theorem Q0L (l:List Int) (n:Int) (post:(List Int)→Prop) (g:Xk l n post):
  Tr Tryz.prog 214 [.sl 1 eI l,.i n] [] 0 (fun A H' k=>∃y,post y∧A=(.o 0)∧H'=[(0,.val (.os 1 eI y))]∧k=1):=by
 refine Tr.go Tryz.func214 Tryz.ntmps214 fun _ _ _ _ o=>?_
 unfold Xk at g
 refine C.ss (U.pd 1 T (C.xt ?_))
 refine U.pd 1 T (C.xt ?_)
 refine U.pd 1 T (C.xs (C.ss ?_))
 refine U.pd 1 T (C.nx ?_)
 refine C.jn (fun (x9:List Int×Bool)=>[(1,.i n),(5,.o 0),(6,.b x9.2)]) (fun x9=>[(0,.val (.os 1 eI x9.1))]) 1 g (fun x9 g=>?_) fun J10 g j10=>?_
 refine C.xs (C.ss (U.pd 2 T (C.nx ?_)))
 refine C.jn (fun (x36:List Int)=>[(5,.o 0)]) (fun x36=>[(0,.val (.os 1 eI x36))]) 1 g (fun x36 g=>?_) fun J37 g j37=>?_
 refine C.xt (U.pd 2 T (C.nx (C.ret ?_)))
 exact C.g1 [some 0] T o ⟨x36,g,rfl,rfl,rfl⟩
 refine C.ite rfl g (fun b38 g=>?_) fun b38 g=>?_
 refine U.start (U.ps 2 T rfl (U.bs T eI ([n]:List Int) ?_))
 obtain⟨y41,g⟩:=g
 refine U.ap T y41 ?_
 refine U.pd 1 T ?_
 exact St.wa [some 2] (j37 _ g)
 refine C.skip ?_
 exact St.wa [some 0] (j37 _ g)
 refine C.block (St.wk (C.loop (fun (s11:List Int×Bool×Int)=>[(0,.sl 1 eI l),(1,.i n),(5,.o 0),(6,.b s11.2.1),(7,.i s11.2.2)]) (fun s11=>[(0,.val (.os 1 eI s11.1))]) g (fun s11 Y12 g=>?_)) (Wk.mk' [none] rfl rfl ⟨⟨_,rfl,(.eq rfl)⟩,⟨_,rfl,(.eq rfl)⟩,⟨_,rfl,(.nilO _ _ ⟨rfl,rfl⟩ rfl)⟩,ChkG.eqs rfl⟩ ⟨⟨_,rfl,.nil _ _⟩,trivial⟩ rfl))
 refine C.seq (C.ss (U.pd 4 T (C.nx ?_)))
 refine C.ite rfl g (fun b15 g=>?_) fun b15 g=>?_
 refine C.skip (C.xs (C.block (C.seq (C.seq ?_))))
 refine C.jn (fun (x16:Bool)=>[(0,.sl 1 eI l),(1,.i n),(5,.o 0),(6,.b s11.2.1),(7,.i s11.2.2),(23,.b x16)]) (fun x16=>[(0,.val (.os 1 eI s11.1))]) 1 g (fun x16 g=>?_) fun J17 g j17=>?_
 refine C.nx ?_
 refine C.jn (fun (x20:List Int×Bool)=>[(0,.sl 1 eI l),(1,.i n),(5,.o 0),(6,.b x20.2),(7,.i s11.2.2)]) (fun x20=>[(0,.val (.os 1 eI x20.1))]) 1 g (fun x20 g=>?_) fun J21 g j21=>?_
 refine C.nx (U.start (U.ps 3 T rfl ?_))
 obtain⟨x30,y30,g⟩:=g
 refine U.ix T y30 ?_
 refine U.ps 1 T rfl (U.bs T eI ([x30]:List Int) ?_)
 obtain⟨y31,g⟩:=g
 refine U.ap T y31 ?_
 refine U.pd 1 T (C.bnx (C.nx (U.start ?_)))
 refine U.pd 3 T (C.nx ?_)
 exact St.wk (C.next g) (Wk.a [some 2])
 refine C.ite rfl g (fun b22 g=>?_) fun b22 g=>?_
 refine C.ss (U.ps 2 T rfl (U.bs T eI ([n]:List Int) ?_))
 obtain⟨y25,g⟩:=g
 refine U.ap T y25 ?_
 refine U.pd 1 T (C.nx (U.start ?_))
 refine U.pd 1 T ?_
 exact St.wa [some 2] (j21 _ g)
 refine C.skip ?_
 exact St.wa [some 0] (j21 _ g)
 refine U.start (U.ps 3 T rfl ?_)
 refine g.cs (fun b18 g=>?_) fun b18 g=>?_
 refine U.sk' 6 2 true 16 (ntF b18) ?_
 refine U.pk' (ntF b18) ?_
 refine U.done ?_
 exact St.wa [some 0] (j17 _ g)
 refine U.pq 2 2 true 16 (ntT b18) T ?_
 obtain⟨x19,y19,g⟩:=g
 refine U.r rfl (.tk 2 true 16 (ntT b18)) rfl rfl (by exact Rd.ix T rfl rfl rfl rfl rfl rfl y19) ?_
 refine U.pq 3 2 true 16 (ntT b18) T ?_
 refine U.pk (ntT b18) ?_
 refine U.done ?_
 exact St.wa [some 0] (j17 _ g)
 refine C.exit (C.ex (C.ex (C.bex ?_)))
 exact St.wa [some 0] (j10 _ g)
theorem ZM (l:List Int) (post:(List Int)→Prop) (g:KJ l post):
  Tr Tryz.prog 206 [.sl 1 eI l] [] 0 (fun A H' k=>∃y,post y∧A=(.o 0)∧H'=[(0,.val (.os 1 eI y))]∧k=1):=by
 refine Tr.go Tryz.func206 Tryz.ntmps206 fun _ _ _ _ o=>?_
 unfold KJ at g
 refine C.ss (U.pd 1 T (C.xt ?_))
 refine U.pd 1 T (C.xs (C.ss ?_))
 refine U.pd 1 T (C.nx ?_)
 refine C.jn (fun (x7:List Int)=>[(3,.o 0)]) (fun x7=>[(0,.val (.os 1 eI x7))]) 1 g (fun x7 g=>?_) fun J8 g j8=>?_
 refine C.xt (U.pd 2 T (C.nx (C.ret ?_)))
 exact C.g1 [some 0] T o ⟨x7,g,rfl,rfl,rfl⟩
 refine C.block (St.wk (C.loop (fun (s9:List Int×Int)=>[(0,.sl 1 eI l),(3,.o 0),(4,.i s9.2)]) (fun s9=>[(0,.val (.os 1 eI s9.1))]) g (fun s9 Y10 g=>?_)) (Wk.mk' [none] rfl rfl ⟨⟨_,rfl,(.eq rfl)⟩,⟨_,rfl,(.nilO _ _ ⟨rfl,rfl⟩ rfl)⟩,ChkG.eqs rfl⟩ ⟨⟨_,rfl,.nil _ _⟩,trivial⟩ rfl))
 refine C.seq (C.ss (U.pd 4 T (C.nx ?_)))
 refine C.ite rfl g (fun b13 g=>?_) fun b13 g=>?_
 refine C.skip (C.xs (C.block (U.start (U.ps 3 T rfl ?_))))
 obtain⟨x16,y16,g⟩:=g
 refine U.ix T y16 ?_
 refine U.ps 1 T rfl (U.k (Q0L s9.1 x16 _ g) Q8Q (fun x17 g=>?_))
 refine U.pd 1 T (C.bnx (C.nx (U.start ?_)))
 refine U.pd 3 T (C.nx ?_)
 exact St.wk (C.next g) (Wk.a [some 1])
 refine C.exit (C.ex (C.ex (C.bex ?_)))
 exact St.wa [some 0] (j8 _ g)
theorem Q0W (st:ApiState) (post:(List Int)→Prop) (g:XK st post):
  Tr Tryz.prog 183 [.agg (Q2 st)] [] 0 (fun A H' k=>∃y,post y∧A=(.o 0)∧H'=[(0,.val (.os 1 eI y))]∧k=1):=by
 refine Tr.go Tryz.func183 Tryz.ntmps183 fun _ _ _ _ o=>?_
 unfold XK at g
 refine C.ss (U.bx ?_)
 refine U.pd 1 T (C.xt ?_)
 refine U.pd 1 T (C.xs (C.ss ?_))
 refine U.pd 1 T (C.nx ?_)
 refine C.jn (fun (x7:List Int)=>[(1,.p 0 0),(3,.o 1)]) (fun x7=>[(0,.box (Q2 st)),(1,.val (.os 1 eI x7))]) 2 g (fun x7 g=>?_) fun J8 g j8=>?_
 refine C.xs (C.ss (U.pd 1 T (C.nx ?_)))
 refine C.jn (fun (x22:List Int)=>[(1,.p 0 0),(3,.o 1)]) (fun x22=>[(0,.box (Q2 st)),(1,.val (.os 1 eI x22))]) 2 g (fun x22 g=>?_) fun J23 g j23=>?_
 refine C.xs (C.ss (U.pd 1 T (C.nx ?_)))
 refine C.jn (fun (x37:List Int)=>[(3,.o 0)]) (fun x37=>[(0,.val (.os 1 eI x37))]) 1 g (fun x37 g=>?_) fun J38 g j38=>?_
 refine C.xt (U.ps 1 T rfl (U.k (ZM x37 _ g) Q9y (fun x52 g=>?_)))
 refine U.pd 1 T (C.nx (C.ret ?_))
 exact C.g1 [some 1] T o ⟨x52,g,rfl,rfl,rfl⟩
 refine C.block (St.wk (C.loop (fun (s39:List Int×Int)=>[(1,.p 0 0),(3,.o 1),(6,.i s39.2)]) (fun s39=>[(0,.box (Q2 st)),(1,.val (.os 1 eI s39.1))]) g (fun s39 Y40 g=>?_)) (Wk.a (idR 2)))
 refine C.seq (C.ss (U.pd 5 T (C.nx ?_)))
 refine C.ite rfl g (fun b43 g=>?_) fun b43 g=>?_
 refine C.skip (C.xs (C.block (U.start (U.ps 3 T rfl (U.k (ZP st s39.2 _ g) Q96 (fun x46 g=>?_))))))
 obtain⟨y47,g⟩:=g
 refine U.ap T y47 ?_
 refine U.pd 1 T (C.bnx (C.nx (U.start ?_)))
 refine U.pd 3 T (C.nx ?_)
 exact St.wk (C.next g) (Wk.a [some 0,some 3])
 refine C.exit (C.ex (C.ex (C.bex ?_)))
 exact St.wa [some 1] (j38 _ g)
 refine C.block (St.wk (C.loop (fun (s24:List Int×Int)=>[(1,.p 0 0),(3,.o 1),(5,.i s24.2)]) (fun s24=>[(0,.box (Q2 st)),(1,.val (.os 1 eI s24.1))]) g (fun s24 Y25 g=>?_)) (Wk.a (idR 2)))
 refine C.seq (C.ss (U.pd 5 T (C.nx ?_)))
 refine C.ite rfl g (fun b28 g=>?_) fun b28 g=>?_
 refine C.skip (C.xs (C.block (U.start (U.ps 3 T rfl (U.k (Q0i st s24.2 _ g) Q9j (fun x31 g=>?_))))))
 obtain⟨y32,g⟩:=g
 refine U.ap T y32 ?_
 refine U.pd 1 T (C.bnx (C.nx (U.start ?_)))
 refine U.pd 3 T (C.nx ?_)
 exact St.wk (C.next g) (Wk.a [some 0,some 3])
 refine C.exit (C.ex (C.ex (C.bex ?_)))
 exact St.wa (idR 2) (j23 _ g)
 refine C.block (St.wk (C.loop (fun (s9:List Int×Int)=>[(1,.p 0 0),(3,.o 1),(4,.i s9.2)]) (fun s9=>[(0,.box (Q2 st)),(1,.val (.os 1 eI s9.1))]) g (fun s9 Y10 g=>?_)) (Wk.mk' [some 0,none] rfl rfl ⟨⟨_,rfl,(.eq rfl)⟩,⟨_,rfl,(.nilO _ _ ⟨rfl,rfl⟩ rfl)⟩,ChkG.eqs rfl⟩ ⟨bX,⟨_,rfl,.nil _ _⟩,trivial⟩ rfl))
 refine C.seq (C.ss (U.pd 5 T (C.nx ?_)))
 refine C.ite rfl g (fun b13 g=>?_) fun b13 g=>?_
 refine C.skip (C.xs (C.block (U.start (U.ps 3 T rfl (U.k (Q0k st s9.2 _ g) Q8H (fun x16 g=>?_))))))
 obtain⟨y17,g⟩:=g
 refine U.ap T y17 ?_
 refine U.pd 1 T (C.bnx (C.nx (U.start ?_)))
 refine U.pd 3 T (C.nx ?_)
 exact St.wk (C.next g) (Wk.a [some 0,some 3])
 refine C.exit (C.ex (C.ex (C.bex ?_)))
 exact St.wa (idR 2) (j8 _ g)
theorem Q0l (s_1:ApiSite) (st:ApiState) (robot:Int) (act:Int) (post:Int→Prop) (g:Xf s_1 st robot act post):
  Tr Tryz.prog 127 [.agg (Q1 s_1),.agg (Q2 st),.i robot,.i act] [] 0 (pI post):=by
 refine Tr.go Tryz.func127 Tryz.ntmps127 fun _ _ _ _ o=>?_
 unfold Xf at g
 refine C.ss (U.bx ?_)
 refine U.bx ?_
 refine U.pd 1 T (C.xt ?_)
 refine U.ps 3 T rfl ?_
 obtain⟨x5,y5,g⟩:=g
 refine U.ix T y5 ?_
 refine U.ps 1 T rfl (U.al T ?_)
 refine U.st T ?_
 refine U.done (C.xt (U.ps 4 T rfl (U.k (WE s_1 st robot act _ g) Q8z (fun x8 g=>?_))))
 refine U.pd 5 T (C.xs (C.seq ?_))
 refine C.jn (fun (x9:Bool)=>[(3,.i act),(4,.p 0 0),(5,.p 1 0),(9,.p 2 0),(10,.i x8.1),(33,.b x9)]) (fun x9=>[(0,.box (Q1 s_1)),(1,.box (Q2 st)),(2,.box (Q4 x5))]) 3 g (fun x9 g=>?_) fun J10 g j10=>?_
 refine C.nx ?_
 refine C.ite rfl g (fun b13 g=>?_) fun b13 g=>?_
 refine C.ss (U.pd 1 T (C.nx (C.ret (C.rt ?_))))
 exact C.f1 T o (pIi g)
 refine C.skip (C.xs (C.seq ?_))
 refine C.jn (fun (x16:Bool)=>[(4,.p 0 0),(5,.p 1 0),(9,.p 2 0),(10,.i x8.1),(46,.b x16)]) (fun x16=>[(0,.box (Q1 s_1)),(1,.box (Q2 st)),(2,.box (Q4 x5))]) 3 g (fun x16 g=>?_) fun J17 g j17=>?_
 refine C.nx ?_
 refine C.ite rfl g (fun b22 g=>?_) fun b22 g=>?_
 refine C.ss (U.pd 1 T (C.nx (C.ret (C.rt ?_))))
 exact C.f1 T o (pIi g)
 refine C.skip (C.xs (C.ss (U.ps 4 T rfl (U.k (Q0K s_1 x8.1 st.Tick _ g) Q9I (fun x27 g=>?_)))))
 refine U.pd 1 T (C.nx ?_)
 refine C.ite rfl g (fun b28 g=>?_) fun b28 g=>?_
 refine C.ss (U.pd 1 T (C.nx (C.ret (C.rt ?_))))
 exact C.f1 T o (pIi g)
 refine C.skip (C.xt (U.ps 1 T rfl (U.k (Q0W st _ g) Q8V (fun x33 g=>?_))))
 refine U.pd 1 T (C.xs (C.seq ?_))
 refine C.jn (fun (x34:Bool)=>[(70,.b x34)]) (fun x34=>[]) 0 g (fun x34 g=>?_) fun J35 g j35=>?_
 refine C.nx ?_
 refine C.ite rfl g (fun b40 g=>?_) fun b40 g=>?_
 refine C.ss (U.pd 1 T (C.nx (C.ret (C.rt ?_))))
 exact C.f1 T o (pIi g)
 refine C.skip (C.xt (U.pd 1 T (C.nx (C.ret ?_))))
 exact C.f1 T o (pIi g)
 refine U.start (U.ps 3 T rfl (U.k (Gk x33 (w64 (2*x8.1)) _ g) en66 (fun x36 g=>?_)))
 refine U.ps 1 T rfl ?_
 refine g.cs (fun b37 g=>?_) fun b37 g=>?_
 refine U.sk' 4 4 false 59 b37 ?_
 refine U.sku 5 8 true 63 rfl rfl rfl ?_
 refine U.sk' 1 4 false 59 b37 ?_
 refine U.pk b37 ?_
 refine U.done ?_
 exact St.wn (j35 _ g)
 refine U.pq 4 4 false 59 b37 T ?_
 refine g.cs (fun b38 g=>?_) fun b38 g=>?_
 refine U.pq 4 8 true 63 b38 T ?_
 refine U.k (Gk x33 (w64 ((w64 (2*x8.1))+1)) _ g) en66 (fun x39 g=>?_) (hw:=.take 8 true 63 _ b38 rfl rfl rfl)
 refine U.r rfl (.tk 4 false 59 b37) rfl rfl (by exact Rd.pk rfl rfl b38 rfl) ?_
 refine U.pk' b37 ?_
 refine U.done ?_
 exact St.wn (j35 _ g)
 refine U.sk' 5 8 true 63 b38 ?_
 refine U.r rfl (.tk 4 false 59 b37) rfl rfl (by exact Rd.pk' rfl rfl b38 rfl) ?_
 refine U.pk' b37 ?_
 refine U.done ?_
 exact St.wn (j35 _ g)
 refine U.start (U.ps 3 T rfl ?_)
 refine g.cs (fun b18 g=>?_) fun b18 g=>?_
 refine U.pq 3 2 true 36 b18 T ?_
 refine U.k (Yc st x5.Cell _ g) Q8h (fun x19 g=>?_) (hw:=.take 2 true 36 _ b18 rfl rfl rfl)
 refine U.pq 1 2 true 36 b18 T ?_
 refine g.cs (fun b20 g=>?_) fun b20 g=>?_
 refine U.sk' 3 7 false 41 b20 ?_
 refine U.r rfl (.tk 2 true 36 b18) rfl rfl (by exact Rd.pk rfl rfl b20 rfl) ?_
 refine U.pk b18 ?_
 refine U.done ?_
 exact St.wa (idR 3) (j17 _ g)
 refine U.pq 2 7 false 41 b20 T ?_
 refine U.k (Yc st x8.1 _ g) Q8h (fun x21 g=>?_) (hw:=.take 7 false 41 _ b20 rfl rfl rfl)
 refine U.r rfl (.tk 2 true 36 b18) rfl rfl (by exact Rd.pk' rfl rfl b20 rfl) ?_
 refine U.pk b18 ?_
 refine U.done ?_
 exact St.wa (idR 3) (j17 _ g)
 refine U.sk' 5 2 true 36 b18 ?_
 refine U.sku 3 7 false 41 rfl rfl rfl ?_
 refine U.sk' 1 2 true 36 b18 ?_
 refine U.pk' b18 ?_
 refine U.done ?_
 exact St.wa (idR 3) (j17 _ g)
 refine U.start (U.ps 3 T rfl ?_)
 refine g.cs (fun b11 g=>?_) fun b11 g=>?_
 refine U.pq 3 2 false 28 (ntF b11) T ?_
 refine U.k (Gk st.Dead x8.1 _ g) en66 (fun x12 g=>?_) (hw:=.take 2 false 28 _ (ntF b11) rfl rfl rfl)
 refine U.pk' (ntF b11) ?_
 refine U.done ?_
 exact St.wa (idR 3) (j10 _ g)
 refine U.sk' 4 2 false 28 (ntT b11) ?_
 refine U.pk (ntT b11) ?_
 refine U.done ?_
 exact St.wa (idR 3) (j10 _ g)
theorem Q06 (s_1:ApiSite) (st:ApiState) (robot:Int) (act:Int) (post:Int→Prop) (g:KZ s_1 st robot act post):
  Tr Tryz.prog 69 [.agg (Q1 s_1),.agg (Q2 st),.i robot,.i act] [] 0 (pI post):=by
 refine Tr.go Tryz.func69 Tryz.ntmps69 fun _ _ _ _ o=>?_
 unfold KZ at g
 refine C.ss (U.bx ?_)
 refine U.bx ?_
 refine U.pd 1 T (C.xs (C.seq ?_))
 refine C.jn (fun (x3:Bool)=>[(2,.i robot),(3,.i act),(4,.p 0 0),(5,.p 1 0),(20,.b x3)]) (fun x3=>[(0,.box (Q1 s_1)),(1,.box (Q2 st))]) 2 g (fun x3 g=>?_) fun J4 g j4=>?_
 refine C.nx ?_
 refine C.ite rfl g (fun b6 g=>?_) fun b6 g=>?_
 refine C.ss (U.pd 1 T (C.nx (C.ret (C.rt ?_))))
 exact C.f1 T o (pIi g)
 refine C.skip (C.xs (C.seq ?_))
 refine C.jn (fun (x9:Bool)=>[(2,.i robot),(3,.i act),(4,.p 0 0),(5,.p 1 0),(26,.b x9)]) (fun x9=>[(0,.box (Q1 s_1)),(1,.box (Q2 st))]) 2 g (fun x9 g=>?_) fun J10 g j10=>?_
 refine C.nx ?_
 refine C.ite rfl g (fun b12 g=>?_) fun b12 g=>?_
 refine C.ss (U.pd 1 T (C.nx (C.ret (C.rt ?_))))
 exact C.f1 T o (pIi g)
 refine C.skip (C.xs (C.ss (U.pd 2 T (C.nx ?_))))
 refine C.ite rfl g (fun b17 g=>?_) fun b17 g=>?_
 refine C.ss (U.pd 1 T (C.nx (C.ret (C.rt ?_))))
 exact C.f1 T o (pIi g)
 refine C.skip (C.xt (U.ps 3 T rfl ?_))
 obtain⟨x22,y22,g⟩:=g
 refine U.ix T y22 ?_
 refine U.ps 1 T rfl (U.al T ?_)
 refine U.st T ?_
 refine U.done (C.xs (C.seq ?_))
 refine C.jn (fun (x23:Bool)=>[(2,.i robot),(3,.i act),(4,.p 0 0),(5,.p 1 0),(9,.p 2 0),(40,.b x23)]) (fun x23=>[(0,.box (Q1 s_1)),(1,.box (Q2 st)),(2,.box (Q4 x22))]) 3 g (fun x23 g=>?_) fun J24 g j24=>?_
 refine C.nx ?_
 refine C.ite rfl g (fun b26 g=>?_) fun b26 g=>?_
 refine C.ss (U.pd 1 T (C.nx (C.ret (C.rt ?_))))
 exact C.f1 T o (pIi g)
 refine C.skip (C.xs (C.seq ?_))
 refine C.jn (fun (x29:Bool)=>[(2,.i robot),(3,.i act),(4,.p 0 0),(5,.p 1 0),(9,.p 2 0),(47,.b x29)]) (fun x29=>[(0,.box (Q1 s_1)),(1,.box (Q2 st)),(2,.box (Q4 x22))]) 3 g (fun x29 g=>?_) fun J30 g j30=>?_
 refine C.nx ?_
 refine C.ite rfl g (fun b33 g=>?_) fun b33 g=>?_
 refine C.ss (U.pd 1 T (C.nx (C.ret (C.rt ?_))))
 exact C.f1 T o (pIi g)
 refine C.skip (C.xt (U.ps 8 T rfl (U.k (Y9 st.Tick x22.Charge act (decide (x22.Load≥0)) _ g) Q7S (fun x38 g=>?_))))
 refine U.pd 5 T (C.xs (C.ss ?_))
 refine U.pd 2 T (C.nx ?_)
 refine C.ite rfl g (fun b41 g=>?_) fun b41 g=>?_
 refine C.ss (U.pd 1 T (C.nx (C.ret (C.rt ?_))))
 exact C.f1 T o (pIi g)
 refine C.skip (C.xs (C.ss (U.pd 1 T (C.nx (C.block (C.ss ?_))))))
 refine U.pd 2 T (C.nx ?_)
 refine C.ite rfl g (fun b48 g=>?_) fun b48 g=>?_
 refine C.seq (C.ss (U.pd 3 T (C.nx ?_)))
 refine C.ite rfl g (fun b51 g=>?_) fun b51 g=>?_
 refine C.ss (U.pd 1 T (C.nx (C.ret (C.rt (C.brt (C.rt ?_))))))
 exact C.f1 T o (pIi g)
 refine C.skip (C.xs (C.ss (U.ps 4 T rfl (U.k (YX s_1 st x22.Cell _ g) Q8m (fun x56 g=>?_)))))
 refine U.pd 1 T (C.nx ?_)
 refine C.ite rfl g (fun b57 g=>?_) fun b57 g=>?_
 refine C.ss (U.pd 1 T (C.nx (C.ret (C.rt (C.brt (C.rt ?_))))))
 exact C.f1 T o (pIi g)
 refine C.skip (C.xt (U.pd 1 T (C.nx (C.ret (C.brt (C.rt ?_))))))
 exact C.f1 T o (pIi g)
 refine C.ss (U.pd 2 T (C.nx ?_))
 refine C.ite rfl g (fun b64 g=>?_) fun b64 g=>?_
 refine C.seq (C.ss (U.pd 3 T (C.nx ?_)))
 refine C.ite rfl g (fun b67 g=>?_) fun b67 g=>?_
 refine C.ss (U.pd 1 T (C.nx (C.ret (C.rt (C.brt (C.rt ?_))))))
 exact C.f1 T o (pIi g)
 refine C.skip (C.xt (U.ps 6 T rfl (U.k (Q0D s_1 st x22.Load x22.Cell _ g) Q9B (fun x72 g=>?_))))
 refine U.pd 1 T (C.nx (C.ret (C.brt (C.rt ?_))))
 exact C.f1 T o (pIi g)
 refine C.ss (U.pd 2 T (C.nx ?_))
 refine C.ite rfl g (fun b75 g=>?_) fun b75 g=>?_
 refine C.seq (C.ss (U.ps 5 T rfl ?_))
 obtain⟨x78,y78,g⟩:=g
 refine U.ix T y78 ?_
 refine U.pd 2 T (C.nx ?_)
 refine C.ite rfl g (fun b79 g=>?_) fun b79 g=>?_
 refine C.ss (U.pd 1 T (C.nx (C.ret (C.rt (C.brt (C.rt ?_))))))
 exact C.f1 T o (pIi g)
 refine C.skip (C.xt (U.pd 1 T (C.nx (C.ret (C.brt (C.rt ?_))))))
 exact C.f1 T o (pIi g)
 refine C.skip (C.bnx (C.xt (U.ps 4 T rfl (U.k (Q0l s_1 st robot act _ g) Q9c (fun x86 g=>?_)))))
 refine U.pd 1 T (C.nx (C.ret ?_))
 exact C.f1 T o (pIi g)
 refine U.start (U.ps 1 T rfl (U.k (Yo act _ g) Q80 (fun x31 g=>?_)))
 refine U.ps 1 T rfl ?_
 refine g.cs (fun b32 g=>?_) fun b32 g=>?_
 refine U.pq 3 2 true 43 b32 T ?_
 refine U.pk b32 ?_
 refine U.done ?_
 exact St.wa (idR 3) (j30 _ g)
 refine U.sk' 3 2 true 43 b32 ?_
 refine U.pk' b32 ?_
 refine U.done ?_
 exact St.wa (idR 3) (j30 _ g)
 refine U.start (U.ps 3 T rfl ?_)
 refine g.cs (fun b25 g=>?_) fun b25 g=>?_
 refine U.sk' 3 2 false 36 b25 ?_
 refine U.pk b25 ?_
 refine U.done ?_
 exact St.wa (idR 3) (j24 _ g)
 refine U.pq 3 2 false 36 b25 T ?_
 refine U.pk' b25 ?_
 refine U.done ?_
 exact St.wa (idR 3) (j24 _ g)
 refine U.start (U.ps 3 T rfl ?_)
 refine g.cs (fun b11 g=>?_) fun b11 g=>?_
 refine U.sk' 2 2 false 23 b11 ?_
 refine U.pk b11 ?_
 refine U.done ?_
 exact St.wa (idR 2) (j10 _ g)
 refine U.pq 2 2 false 23 b11 T ?_
 refine U.pk' b11 ?_
 refine U.done ?_
 exact St.wa (idR 2) (j10 _ g)
 refine U.start (U.ps 3 T rfl ?_)
 refine g.cs (fun b5 g=>?_) fun b5 g=>?_
 refine U.sk' 5 2 false 14 b5 ?_
 refine U.pk b5 ?_
 refine U.done ?_
 exact St.wa (idR 2) (j4 _ g)
 refine U.pq 5 2 false 14 b5 T ?_
 refine U.pk' b5 ?_
 refine U.done ?_
 exact St.wa (idR 2) (j4 _ g)
abbrev cE12 (st:ApiState):Nat×AVal:=(0,.agg (Q2 st))
abbrev cE13 (st:ApiState):Nat×AVal:=(4,.i st.Tick)
abbrev cE14 (st:ApiState):Nat×AVal:=(7,.sl 1 eI st.Shelves)
abbrev cE15:Nat×AVal:=(10,.p 0 2)
abbrev cE16 (st:ApiState):Nat×AVal:=(11,.sl 6 Q4 st.Robots)
abbrev cE17:Nat×AVal:=(14,.p 0 3)
abbrev cE18 (st:ApiState):Nat×AVal:=(15,.sl 1 eI st.People)
abbrev cE19:Nat×AVal:=(18,.p 0 4)
abbrev cE20 (st:ApiState):Nat×AVal:=(19,.sl 1 eI st.Dead)
abbrev cE21:Nat×AVal:=(22,.p 0 5)
abbrev cE22 (st:ApiState):Nat×AVal:=(23,.sl 2 Q7 st.Stuck)
abbrev cE23 (st:ApiState):Nat×Res:=(0,.box (Q2 st))
abbrev cE24:Nat×Res:=(1,.box [.i 0,vN,vN,vN,vN,vN])
abbrev cE25 (st:ApiState):Nat×Res:=(3,.val (.os 1 eI (([]:List Int)++st.Shelves)))
abbrev cE26 (st:ApiState):Nat×Res:=(5,.val (.os 6 Q4 (([]:List Q0)++st.Robots)))
abbrev cE27 (st:ApiState):Nat×Res:=(7,.val (.os 1 eI (([]:List Int)++st.People)))
abbrev cE28:Nat×Res:=(6,.val (.os 1 eI ([]:List Int)))
abbrev cE29:Nat×Res:=(7,.val (.os 2 Q7 ([]:List Qd)))
abbrev cE30:Nat×Res:=(4,.val (.os 6 Q4 ([]:List Q0)))
abbrev cE31:Nat×Res:=(5,.val (.os 1 eI ([]:List Int)))
abbrev cE32:Nat×Res:=(6,.val (.os 2 Q7 ([]:List Qd)))
abbrev cE33:Nat×Res:=(4,.val (.os 1 eI ([]:List Int)))
abbrev cE34:Nat×Res:=(2,.val (.os 1 eI ([]:List Int)))
abbrev cE35:Nat×Res:=(3,.val (.os 6 Q4 ([]:List Q0)))
abbrev cE36:Nat×Res:=(5,.val (.os 2 Q7 ([]:List Qd)))
abbrev cE37:Nat×Res:=(3,.val (.os 1 eI ([]:List Int)))
abbrev cE38:Nat×Res:=(2,.val (.os 6 Q4 ([]:List Q0)))
abbrev cE39:Nat×Res:=(4,.val (.os 2 Q7 ([]:List Qd)))
abbrev cE40:Nat×Res:=(3,.val (.os 2 Q7 ([]:List Qd)))
theorem Q0h (st:ApiState) (post:ApiState→Prop) (g:X1 st post):
  Tr Tryz.prog 128 [.agg (Q2 st)] [] 0 (fun A H' k=>∃y,post y∧A=(.agg [.i y.Tick,.o 0,.o 1,.o 2,.o 3,.o 4])∧H'=[(0,.val (.os 1 eI y.Shelves)),(1,.val (.os 6 Q4 y.Robots)),(2,.val (.os 1 eI y.People)),(3,.val (.os 1 eI y.Dead)),(4,.val (.os 2 Q7 y.Stuck))]∧k=5):=by
 refine Tr.go Tryz.func128 Tryz.ntmps128 fun _ _ _ _ o=>?_
 unfold X1 at g
 refine C.ss (U.bx ?_)
 refine U.al T ?_
 refine U.done (C.xs (D.bq mix 23 [0] [2,3,4,5,6,7,8,9,10] (fun hQ hS ws M'=>?_)))
 refine D.pq 12 (zl [0,1,3,4,7,8,11,12,15,16,19,20]) T ?_
 obtain⟨y5,g⟩:=g
 obtain⟨y6,g⟩:=g
 obtain⟨y7,g⟩:=g
 obtain⟨y8,g⟩:=g
 refine D.have false [cE12 st,(1,.p 0 0),(2,.p 1 0),(3,.p 0 0),cE13 st,(5,.o 2),(6,.p 0 1),cE14 st,(8,.o 3),(9,.o 4),cE15,cE16 st,(12,.o 5),(13,.o 6),cE17,cE18 st,(16,.o 7),(17,.o 8),cE19,cE20 st,(20,.o 9),(21,.o 10),cE21,cE22 st] [cE23 st,cE24,cE25 st,cE26 st,cE27 st,(9,.val (.os 1 eI (([]:List Int)++st.Dead))),(10,.val (.os 2 Q7 ([]:List Qd)))] 11 3 (bvA 24 [21,22,23]) ?_ fun hd4_61=>?_
 obtain⟨y9,g⟩:=g
 refine D.e1 21 rfl (.none rfl) (by exact Eff1.ap T rfl rfl rfl rfl rfl rfl (.inl rfl) rfl rfl rfl (fun _=>rfl) rfl y9) (by kernel_rfl) rfl rfl ?_
 refine D.pq 1 [(22,[])] T ?_
 refine D.ze1 rfl (.none rfl) (by exact Eff1.st T rfl rfl rfl rfl rfl rfl rfl rfl rfl rfl) (by kernel_rfl) (by kernel_rfl) ?_
 refine C.nx (C.ret ?_)
 exact C.g1 [some 3,some 5,some 7,some 9,some 11] T o ⟨({Tick:=st.Tick,Shelves:=(([]:List Int)++st.Shelves),Robots:=(([]:List Q0)++st.Robots),People:=(([]:List Int)++st.People),Dead:=(([]:List Int)++st.Dead),Stuck:=(([]:List Qd)++st.Stuck):ApiState}),g,rfl,rfl,rfl⟩
 refine D.have false [cE12 st,(1,.p 0 0),(2,.p 1 0),(3,.p 0 0),cE13 st,(5,.o 2),(6,.p 0 1),cE14 st,(8,.o 3),(9,.o 4),cE15,cE16 st,(12,.o 5),(13,.o 6),cE17,cE18 st,(16,.o 7),(17,.o 8),cE19,cE20 st,(20,.o 9),cE21,cE22 st] [cE23 st,cE24,cE25 st,cE26 st,cE27 st,(9,.val (.os 1 eI (([]:List Int)++st.Dead)))] 10 4 (bvA 24 [18,21,22,23]) ?_ fun hd4_59=>?_
 refine D.all 18 [] (by kernel_rfl) ⟨?_,trivial⟩
 refine D.bs T Q7 ([]:List Qd) ?_
 exact D.tq [0,1,2,3,4,5,6,7,8,9,10] hd4_61
 refine D.have false [cE12 st,(1,.p 0 0),(2,.p 1 0),(3,.p 0 0),cE13 st,(5,.o 2),(6,.p 0 1),cE14 st,(8,.o 3),(9,.o 4),cE15,cE16 st,(12,.o 5),(13,.o 6),cE17,cE18 st,(16,.o 7),(17,.o 8),cE19,cE20 st,(21,.o 9),cE21,cE22 st] [cE23 st,cE24,cE25 st,cE26 st,cE27 st,(8,.val (.os 1 eI ([]:List Int))),(9,.val (.os 2 Q7 ([]:List Qd)))] 10 4 (bvA 24 [17,21,22,23]) ?_ fun hd4_60=>?_
 refine D.all 17 [] (by kernel_rfl) ⟨?_,trivial⟩
 refine D.ef1 rfl (.none rfl) (by exact Eff1.ap T rfl rfl rfl rfl rfl rfl (.inl rfl) rfl rfl rfl (fun _=>rfl) rfl y8) rfl rfl ?_
 exact D.tq [0,1,2,3,4,5,6,7,8,10,9] hd4_61
 refine D.have false [cE12 st,(1,.p 0 0),(2,.p 1 0),(3,.p 0 0),cE13 st,(5,.o 2),(6,.p 0 1),cE14 st,(8,.o 3),(9,.o 4),cE15,cE16 st,(12,.o 5),(13,.o 6),cE17,cE18 st,(16,.o 7),(17,.o 8),cE19,cE20 st,cE21,cE22 st] [cE23 st,cE24,cE25 st,cE26 st,cE27 st,(8,.val (.os 1 eI ([]:List Int)))] 9 5 (bvA 24 [17,18,21,22,23]) ?_ fun hd4_56=>?_
 refine D.all 17 [18] (by kernel_rfl) ⟨?_,?_,trivial⟩
 refine D.ef1 rfl (.none rfl) (by exact Eff1.ap T rfl rfl rfl rfl rfl rfl (.inl rfl) rfl rfl rfl (fun _=>rfl) rfl y8) rfl rfl ?_
 exact D.tq [0,1,2,3,4,5,6,7,8,9] hd4_59
 refine D.bs T Q7 ([]:List Qd) ?_
 exact D.tq [0,1,2,3,4,5,6,7,8,9] hd4_60
 refine D.have false [cE12 st,(1,.p 0 0),(2,.p 1 0),(3,.p 0 0),cE13 st,(5,.o 2),(6,.p 0 1),cE14 st,(8,.o 3),(9,.o 4),cE15,cE16 st,(12,.o 5),(13,.o 6),cE17,cE18 st,(16,.o 7),cE19,cE20 st,(21,.o 8),cE21,cE22 st] [cE23 st,cE24,cE25 st,cE26 st,cE27 st,(8,.val (.os 2 Q7 ([]:List Qd)))] 9 5 (bvA 24 [14,17,21,22,23]) ?_ fun hd4_57=>?_
 refine D.all 14 [] (by kernel_rfl) ⟨?_,trivial⟩
 refine D.bs T eI ([]:List Int) ?_
 exact D.tq [0,1,2,3,4,5,6,7,9,8] hd4_60
 refine D.have false [cE12 st,(1,.p 0 0),(2,.p 1 0),(3,.p 0 0),cE13 st,(5,.o 2),(6,.p 0 1),cE14 st,(8,.o 3),(9,.o 4),cE15,cE16 st,(12,.o 5),(13,.o 6),cE17,cE18 st,(17,.o 7),cE19,cE20 st,(21,.o 8),cE21,cE22 st] [cE23 st,cE24,cE25 st,cE26 st,cE28,(7,.val (.os 1 eI ([]:List Int))),(8,.val (.os 2 Q7 ([]:List Qd)))] 9 5 (bvA 24 [13,17,21,22,23]) ?_ fun hd4_58=>?_
 refine D.all 13 [] (by kernel_rfl) ⟨?_,trivial⟩
 refine D.ef1 rfl (.none rfl) (by exact Eff1.ap T rfl rfl rfl rfl rfl rfl (.inl rfl) rfl rfl rfl (fun _=>rfl) rfl y7) rfl rfl ?_
 exact D.tq [0,1,2,3,4,5,6,9,7,8] hd4_60
 refine D.have false [cE12 st,(1,.p 0 0),(2,.p 1 0),(3,.p 0 0),cE13 st,(5,.o 2),(6,.p 0 1),cE14 st,(8,.o 3),(9,.o 4),cE15,cE16 st,(12,.o 5),(13,.o 6),cE17,cE18 st,(16,.o 7),cE19,cE20 st,cE21,cE22 st] [cE23 st,cE24,cE25 st,cE26 st,cE27 st] 8 6 (bvA 24 [14,17,18,21,22,23]) ?_ fun hd4_51=>?_
 refine D.all 14 [18] (by kernel_rfl) ⟨?_,?_,trivial⟩
 refine D.bs T eI ([]:List Int) ?_
 exact D.tq [0,1,2,3,4,5,6,7,8] hd4_56
 refine D.bs T Q7 ([]:List Qd) ?_
 exact D.tq [0,1,2,3,4,5,6,7,8] hd4_57
 refine D.have false [cE12 st,(1,.p 0 0),(2,.p 1 0),(3,.p 0 0),cE13 st,(5,.o 2),(6,.p 0 1),cE14 st,(8,.o 3),(9,.o 4),cE15,cE16 st,(12,.o 5),(13,.o 6),cE17,cE18 st,(17,.o 7),cE19,cE20 st,cE21,cE22 st] [cE23 st,cE24,cE25 st,cE26 st,cE28,(7,.val (.os 1 eI ([]:List Int)))] 8 6 (bvA 24 [13,17,18,21,22,23]) ?_ fun hd4_52=>?_
 refine D.all 13 [18] (by kernel_rfl) ⟨?_,?_,trivial⟩
 refine D.ef1 rfl (.none rfl) (by exact Eff1.ap T rfl rfl rfl rfl rfl rfl (.inl rfl) rfl rfl rfl (fun _=>rfl) rfl y7) rfl rfl ?_
 exact D.tq [0,1,2,3,4,5,6,8,7] hd4_56
 refine D.bs T Q7 ([]:List Qd) ?_
 exact D.tq [0,1,2,3,4,5,6,7,8] hd4_58
 refine D.have false [cE12 st,(1,.p 0 0),(2,.p 1 0),(3,.p 0 0),cE13 st,(5,.o 2),(6,.p 0 1),cE14 st,(8,.o 3),(9,.o 4),cE15,cE16 st,(12,.o 5),(13,.o 6),cE17,cE18 st,cE19,cE20 st,(21,.o 7),cE21,cE22 st] [cE23 st,cE24,cE25 st,cE26 st,cE28,cE29] 8 6 (bvA 24 [13,14,17,21,22,23]) ?_ fun hd4_53=>?_
 refine D.all 13 [14] (by kernel_rfl) ⟨?_,?_,trivial⟩
 refine D.ef1 rfl (.none rfl) (by exact Eff1.ap T rfl rfl rfl rfl rfl rfl (.inl rfl) rfl rfl rfl (fun _=>rfl) rfl y7) rfl rfl ?_
 exact D.tq [0,1,2,3,4,5,6,8,7] hd4_57
 refine D.bs T eI ([]:List Int) ?_
 exact D.tq [0,1,2,3,4,5,6,8,7] hd4_58
 refine D.have false [cE12 st,(1,.p 0 0),(2,.p 1 0),(3,.p 0 0),cE13 st,(5,.o 2),(6,.p 0 1),cE14 st,(8,.o 3),(9,.o 4),cE15,cE16 st,(12,.o 5),cE17,cE18 st,(17,.o 6),cE19,cE20 st,(21,.o 7),cE21,cE22 st] [cE23 st,cE24,cE25 st,cE26 st,cE28,cE29] 8 6 (bvA 24 [10,13,17,21,22,23]) ?_ fun hd4_54=>?_
 refine D.all 10 [] (by kernel_rfl) ⟨?_,trivial⟩
 refine D.bs T eI ([]:List Int) ?_
 exact D.tq [0,1,2,3,4,5,8,6,7] hd4_58
 refine D.have false [cE12 st,(1,.p 0 0),(2,.p 1 0),(3,.p 0 0),cE13 st,(5,.o 2),(6,.p 0 1),cE14 st,(8,.o 3),(9,.o 4),cE15,cE16 st,(13,.o 5),cE17,cE18 st,(17,.o 6),cE19,cE20 st,(21,.o 7),cE21,cE22 st] [cE23 st,cE24,cE25 st,cE30,cE31,cE28,cE29] 8 6 (bvA 24 [9,13,17,21,22,23]) ?_ fun hd4_55=>?_
 refine D.all 9 [] (by kernel_rfl) ⟨?_,trivial⟩
 refine D.ef1 rfl (.none rfl) (by exact Eff1.ap T rfl rfl rfl rfl rfl rfl (.inl rfl) rfl rfl rfl (fun _=>rfl) rfl y6) rfl rfl ?_
 exact D.tq [0,1,2,3,4,8,5,6,7] hd4_58
 refine D.have false [cE12 st,(1,.p 0 0),(2,.p 1 0),(3,.p 0 0),cE13 st,(5,.o 2),(6,.p 0 1),cE14 st,(8,.o 3),(9,.o 4),cE15,cE16 st,(12,.o 5),(13,.o 6),cE17,cE18 st,cE19,cE20 st,cE21,cE22 st] [cE23 st,cE24,cE25 st,cE26 st,cE28] 7 7 (bvA 24 [13,14,17,18,21,22,23]) ?_ fun hd4_43=>?_
 refine D.all 13 [14,18] (by kernel_rfl) ⟨?_,?_,?_,trivial⟩
 refine D.ef1 rfl (.none rfl) (by exact Eff1.ap T rfl rfl rfl rfl rfl rfl (.inl rfl) rfl rfl rfl (fun _=>rfl) rfl y7) rfl rfl ?_
 exact D.tq [0,1,2,3,4,5,6,7] hd4_51
 refine D.bs T eI ([]:List Int) ?_
 exact D.tq [0,1,2,3,4,5,6,7] hd4_52
 refine D.bs T Q7 ([]:List Qd) ?_
 exact D.tq [0,1,2,3,4,5,6,7] hd4_53
 refine D.have false [cE12 st,(1,.p 0 0),(2,.p 1 0),(3,.p 0 0),cE13 st,(5,.o 2),(6,.p 0 1),cE14 st,(8,.o 3),(9,.o 4),cE15,cE16 st,(12,.o 5),cE17,cE18 st,(17,.o 6),cE19,cE20 st,cE21,cE22 st] [cE23 st,cE24,cE25 st,cE26 st,cE28] 7 7 (bvA 24 [10,13,17,18,21,22,23]) ?_ fun hd4_44=>?_
 refine D.all 10 [18] (by kernel_rfl) ⟨?_,?_,trivial⟩
 refine D.bs T eI ([]:List Int) ?_
 exact D.tq [0,1,2,3,4,5,7,6] hd4_52
 refine D.bs T Q7 ([]:List Qd) ?_
 exact D.tq [0,1,2,3,4,5,6,7] hd4_54
 refine D.have false [cE12 st,(1,.p 0 0),(2,.p 1 0),(3,.p 0 0),cE13 st,(5,.o 2),(6,.p 0 1),cE14 st,(8,.o 3),(9,.o 4),cE15,cE16 st,(12,.o 5),cE17,cE18 st,cE19,cE20 st,(21,.o 6),cE21,cE22 st] [cE23 st,cE24,cE25 st,cE26 st,cE32] 7 7 (bvA 24 [10,13,14,17,21,22,23]) ?_ fun hd4_45=>?_
 refine D.all 10 [14] (by kernel_rfl) ⟨?_,?_,trivial⟩
 refine D.bs T eI ([]:List Int) ?_
 exact D.tq [0,1,2,3,4,5,7,6] hd4_53
 refine D.bs T eI ([]:List Int) ?_
 exact D.tq [0,1,2,3,4,5,7,6] hd4_54
 refine D.have false [cE12 st,(1,.p 0 0),(2,.p 1 0),(3,.p 0 0),cE13 st,(5,.o 2),(6,.p 0 1),cE14 st,(8,.o 3),(9,.o 4),cE15,cE16 st,(13,.o 5),cE17,cE18 st,(17,.o 6),cE19,cE20 st,cE21,cE22 st] [cE23 st,cE24,cE25 st,cE30,cE31,cE28] 7 7 (bvA 24 [9,13,17,18,21,22,23]) ?_ fun hd4_46=>?_
 refine D.all 9 [18] (by kernel_rfl) ⟨?_,?_,trivial⟩
 refine D.ef1 rfl (.none rfl) (by exact Eff1.ap T rfl rfl rfl rfl rfl rfl (.inl rfl) rfl rfl rfl (fun _=>rfl) rfl y6) rfl rfl ?_
 exact D.tq [0,1,2,3,4,7,5,6] hd4_52
 refine D.bs T Q7 ([]:List Qd) ?_
 exact D.tq [0,1,2,3,4,5,6,7] hd4_55
 refine D.have false [cE12 st,(1,.p 0 0),(2,.p 1 0),(3,.p 0 0),cE13 st,(5,.o 2),(6,.p 0 1),cE14 st,(8,.o 3),(9,.o 4),cE15,cE16 st,(13,.o 5),cE17,cE18 st,cE19,cE20 st,(21,.o 6),cE21,cE22 st] [cE23 st,cE24,cE25 st,cE30,cE31,cE32] 7 7 (bvA 24 [9,13,14,17,21,22,23]) ?_ fun hd4_47=>?_
 refine D.all 9 [14] (by kernel_rfl) ⟨?_,?_,trivial⟩
 refine D.ef1 rfl (.none rfl) (by exact Eff1.ap T rfl rfl rfl rfl rfl rfl (.inl rfl) rfl rfl rfl (fun _=>rfl) rfl y6) rfl rfl ?_
 exact D.tq [0,1,2,3,4,7,5,6] hd4_53
 refine D.bs T eI ([]:List Int) ?_
 exact D.tq [0,1,2,3,4,5,7,6] hd4_55
 refine D.have false [cE12 st,(1,.p 0 0),(2,.p 1 0),(3,.p 0 0),cE13 st,(5,.o 2),(6,.p 0 1),cE14 st,(8,.o 3),(9,.o 4),cE15,cE16 st,cE17,cE18 st,(17,.o 5),cE19,cE20 st,(21,.o 6),cE21,cE22 st] [cE23 st,cE24,cE25 st,cE30,cE31,cE32] 7 7 (bvA 24 [9,10,13,17,21,22,23]) ?_ fun hd4_48=>?_
 refine D.all 9 [10] (by kernel_rfl) ⟨?_,?_,trivial⟩
 refine D.ef1 rfl (.none rfl) (by exact Eff1.ap T rfl rfl rfl rfl rfl rfl (.inl rfl) rfl rfl rfl (fun _=>rfl) rfl y6) rfl rfl ?_
 exact D.tq [0,1,2,3,4,7,5,6] hd4_54
 refine D.bs T eI ([]:List Int) ?_
 exact D.tq [0,1,2,3,4,7,5,6] hd4_55
 refine D.have false [cE12 st,(1,.p 0 0),(2,.p 1 0),(3,.p 0 0),cE13 st,(5,.o 2),(6,.p 0 1),cE14 st,(8,.o 3),cE15,cE16 st,(13,.o 4),cE17,cE18 st,(17,.o 5),cE19,cE20 st,(21,.o 6),cE21,cE22 st] [cE23 st,cE24,cE25 st,cE33,cE31,cE32] 7 7 (bvA 24 [6,9,13,17,21,22,23]) ?_ fun hd4_49=>?_
 refine D.all 6 [] (by kernel_rfl) ⟨?_,trivial⟩
 refine D.bs T Q4 ([]:List Q0) ?_
 exact D.tq [0,1,2,3,7,4,5,6] hd4_55
 refine D.have false [cE12 st,(1,.p 0 0),(2,.p 1 0),(3,.p 0 0),cE13 st,(5,.o 2),(6,.p 0 1),cE14 st,(9,.o 3),cE15,cE16 st,(13,.o 4),cE17,cE18 st,(17,.o 5),cE19,cE20 st,(21,.o 6),cE21,cE22 st] [cE23 st,cE24,cE34,cE35,cE33,cE31,cE32] 7 7 (bvA 24 [5,9,13,17,21,22,23]) ?_ fun hd4_50=>?_
 refine D.all 5 [] (by kernel_rfl) ⟨?_,trivial⟩
 refine D.ef1 rfl (.none rfl) (by exact Eff1.ap T rfl rfl rfl rfl rfl rfl (.inl rfl) rfl rfl rfl (fun _=>rfl) rfl y5) rfl rfl ?_
 exact D.tq [0,1,2,7,3,4,5,6] hd4_55
 refine D.have false [cE12 st,(1,.p 0 0),(2,.p 1 0),(3,.p 0 0),cE13 st,(5,.o 2),(6,.p 0 1),cE14 st,(8,.o 3),(9,.o 4),cE15,cE16 st,(12,.o 5),cE17,cE18 st,cE19,cE20 st,cE21,cE22 st] [cE23 st,cE24,cE25 st,cE26 st] 6 8 (bvA 24 [10,13,14,17,18,21,22,23]) ?_ fun hd4_31=>?_
 refine D.all 10 [14,18] (by kernel_rfl) ⟨?_,?_,?_,trivial⟩
 refine D.bs T eI ([]:List Int) ?_
 exact D.tq [0,1,2,3,4,5,6] hd4_43
 refine D.bs T eI ([]:List Int) ?_
 exact D.tq [0,1,2,3,4,5,6] hd4_44
 refine D.bs T Q7 ([]:List Qd) ?_
 exact D.tq [0,1,2,3,4,5,6] hd4_45
 refine D.have false [cE12 st,(1,.p 0 0),(2,.p 1 0),(3,.p 0 0),cE13 st,(5,.o 2),(6,.p 0 1),cE14 st,(8,.o 3),(9,.o 4),cE15,cE16 st,(13,.o 5),cE17,cE18 st,cE19,cE20 st,cE21,cE22 st] [cE23 st,cE24,cE25 st,cE30,cE31] 6 8 (bvA 24 [9,13,14,17,18,21,22,23]) ?_ fun hd4_32=>?_
 refine D.all 9 [14,18] (by kernel_rfl) ⟨?_,?_,?_,trivial⟩
 refine D.ef1 rfl (.none rfl) (by exact Eff1.ap T rfl rfl rfl rfl rfl rfl (.inl rfl) rfl rfl rfl (fun _=>rfl) rfl y6) rfl rfl ?_
 exact D.tq [0,1,2,3,4,6,5] hd4_43
 refine D.bs T eI ([]:List Int) ?_
 exact D.tq [0,1,2,3,4,5,6] hd4_46
 refine D.bs T Q7 ([]:List Qd) ?_
 exact D.tq [0,1,2,3,4,5,6] hd4_47
 refine D.have false [cE12 st,(1,.p 0 0),(2,.p 1 0),(3,.p 0 0),cE13 st,(5,.o 2),(6,.p 0 1),cE14 st,(8,.o 3),(9,.o 4),cE15,cE16 st,cE17,cE18 st,(17,.o 5),cE19,cE20 st,cE21,cE22 st] [cE23 st,cE24,cE25 st,cE30,cE31] 6 8 (bvA 24 [9,10,13,17,18,21,22,23]) ?_ fun hd4_33=>?_
 refine D.all 9 [10,18] (by kernel_rfl) ⟨?_,?_,?_,trivial⟩
 refine D.ef1 rfl (.none rfl) (by exact Eff1.ap T rfl rfl rfl rfl rfl rfl (.inl rfl) rfl rfl rfl (fun _=>rfl) rfl y6) rfl rfl ?_
 exact D.tq [0,1,2,3,4,6,5] hd4_44
 refine D.bs T eI ([]:List Int) ?_
 exact D.tq [0,1,2,3,4,6,5] hd4_46
 refine D.bs T Q7 ([]:List Qd) ?_
 exact D.tq [0,1,2,3,4,5,6] hd4_48
 refine D.have false [cE12 st,(1,.p 0 0),(2,.p 1 0),(3,.p 0 0),cE13 st,(5,.o 2),(6,.p 0 1),cE14 st,(8,.o 3),(9,.o 4),cE15,cE16 st,cE17,cE18 st,cE19,cE20 st,(21,.o 5),cE21,cE22 st] [cE23 st,cE24,cE25 st,cE30,cE36] 6 8 (bvA 24 [9,10,13,14,17,21,22,23]) ?_ fun hd4_34=>?_
 refine D.all 9 [10,14] (by kernel_rfl) ⟨?_,?_,?_,trivial⟩
 refine D.ef1 rfl (.none rfl) (by exact Eff1.ap T rfl rfl rfl rfl rfl rfl (.inl rfl) rfl rfl rfl (fun _=>rfl) rfl y6) rfl rfl ?_
 exact D.tq [0,1,2,3,4,6,5] hd4_45
 refine D.bs T eI ([]:List Int) ?_
 exact D.tq [0,1,2,3,4,6,5] hd4_47
 refine D.bs T eI ([]:List Int) ?_
 exact D.tq [0,1,2,3,4,6,5] hd4_48
 refine D.have false [cE12 st,(1,.p 0 0),(2,.p 1 0),(3,.p 0 0),cE13 st,(5,.o 2),(6,.p 0 1),cE14 st,(8,.o 3),cE15,cE16 st,(13,.o 4),cE17,cE18 st,(17,.o 5),cE19,cE20 st,cE21,cE22 st] [cE23 st,cE24,cE25 st,cE33,cE31] 6 8 (bvA 24 [6,9,13,17,18,21,22,23]) ?_ fun hd4_35=>?_
 refine D.all 6 [18] (by kernel_rfl) ⟨?_,?_,trivial⟩
 refine D.bs T Q4 ([]:List Q0) ?_
 exact D.tq [0,1,2,3,6,4,5] hd4_46
 refine D.bs T Q7 ([]:List Qd) ?_
 exact D.tq [0,1,2,3,4,5,6] hd4_49
 refine D.have false [cE12 st,(1,.p 0 0),(2,.p 1 0),(3,.p 0 0),cE13 st,(5,.o 2),(6,.p 0 1),cE14 st,(8,.o 3),cE15,cE16 st,(13,.o 4),cE17,cE18 st,cE19,cE20 st,(21,.o 5),cE21,cE22 st] [cE23 st,cE24,cE25 st,cE33,cE36] 6 8 (bvA 24 [6,9,13,14,17,21,22,23]) ?_ fun hd4_36=>?_
 refine D.all 6 [14] (by kernel_rfl) ⟨?_,?_,trivial⟩
 refine D.bs T Q4 ([]:List Q0) ?_
 exact D.tq [0,1,2,3,6,4,5] hd4_47
 refine D.bs T eI ([]:List Int) ?_
 exact D.tq [0,1,2,3,4,6,5] hd4_49
 refine D.have false [cE12 st,(1,.p 0 0),(2,.p 1 0),(3,.p 0 0),cE13 st,(5,.o 2),(6,.p 0 1),cE14 st,(8,.o 3),cE15,cE16 st,cE17,cE18 st,(17,.o 4),cE19,cE20 st,(21,.o 5),cE21,cE22 st] [cE23 st,cE24,cE25 st,cE33,cE36] 6 8 (bvA 24 [6,9,10,13,17,21,22,23]) ?_ fun hd4_37=>?_
 refine D.all 6 [10] (by kernel_rfl) ⟨?_,?_,trivial⟩
 refine D.bs T Q4 ([]:List Q0) ?_
 exact D.tq [0,1,2,3,6,4,5] hd4_48
 refine D.bs T eI ([]:List Int) ?_
 exact D.tq [0,1,2,3,6,4,5] hd4_49
 refine D.have false [cE12 st,(1,.p 0 0),(2,.p 1 0),(3,.p 0 0),cE13 st,(5,.o 2),(6,.p 0 1),cE14 st,(9,.o 3),cE15,cE16 st,(13,.o 4),cE17,cE18 st,(17,.o 5),cE19,cE20 st,cE21,cE22 st] [cE23 st,cE24,cE34,cE35,cE33,cE31] 6 8 (bvA 24 [5,9,13,17,18,21,22,23]) ?_ fun hd4_38=>?_
 refine D.all 5 [18] (by kernel_rfl) ⟨?_,?_,trivial⟩
 refine D.ef1 rfl (.none rfl) (by exact Eff1.ap T rfl rfl rfl rfl rfl rfl (.inl rfl) rfl rfl rfl (fun _=>rfl) rfl y5) rfl rfl ?_
 exact D.tq [0,1,2,6,3,4,5] hd4_46
 refine D.bs T Q7 ([]:List Qd) ?_
 exact D.tq [0,1,2,3,4,5,6] hd4_50
 refine D.have false [cE12 st,(1,.p 0 0),(2,.p 1 0),(3,.p 0 0),cE13 st,(5,.o 2),(6,.p 0 1),cE14 st,(9,.o 3),cE15,cE16 st,(13,.o 4),cE17,cE18 st,cE19,cE20 st,(21,.o 5),cE21,cE22 st] [cE23 st,cE24,cE34,cE35,cE33,cE36] 6 8 (bvA 24 [5,9,13,14,17,21,22,23]) ?_ fun hd4_39=>?_
 refine D.all 5 [14] (by kernel_rfl) ⟨?_,?_,trivial⟩
 refine D.ef1 rfl (.none rfl) (by exact Eff1.ap T rfl rfl rfl rfl rfl rfl (.inl rfl) rfl rfl rfl (fun _=>rfl) rfl y5) rfl rfl ?_
 exact D.tq [0,1,2,6,3,4,5] hd4_47
 refine D.bs T eI ([]:List Int) ?_
 exact D.tq [0,1,2,3,4,6,5] hd4_50
 refine D.have false [cE12 st,(1,.p 0 0),(2,.p 1 0),(3,.p 0 0),cE13 st,(5,.o 2),(6,.p 0 1),cE14 st,(9,.o 3),cE15,cE16 st,cE17,cE18 st,(17,.o 4),cE19,cE20 st,(21,.o 5),cE21,cE22 st] [cE23 st,cE24,cE34,cE35,cE33,cE36] 6 8 (bvA 24 [5,9,10,13,17,21,22,23]) ?_ fun hd4_40=>?_
 refine D.all 5 [10] (by kernel_rfl) ⟨?_,?_,trivial⟩
 refine D.ef1 rfl (.none rfl) (by exact Eff1.ap T rfl rfl rfl rfl rfl rfl (.inl rfl) rfl rfl rfl (fun _=>rfl) rfl y5) rfl rfl ?_
 exact D.tq [0,1,2,6,3,4,5] hd4_48
 refine D.bs T eI ([]:List Int) ?_
 exact D.tq [0,1,2,3,6,4,5] hd4_50
 refine D.have false [cE12 st,(1,.p 0 0),(2,.p 1 0),(3,.p 0 0),cE13 st,(5,.o 2),(6,.p 0 1),cE14 st,cE15,cE16 st,(13,.o 3),cE17,cE18 st,(17,.o 4),cE19,cE20 st,(21,.o 5),cE21,cE22 st] [cE23 st,cE24,cE34,cE37,cE33,cE36] 6 8 (bvA 24 [5,6,9,13,17,21,22,23]) ?_ fun hd4_41=>?_
 refine D.all 5 [6] (by kernel_rfl) ⟨?_,?_,trivial⟩
 refine D.ef1 rfl (.none rfl) (by exact Eff1.ap T rfl rfl rfl rfl rfl rfl (.inl rfl) rfl rfl rfl (fun _=>rfl) rfl y5) rfl rfl ?_
 exact D.tq [0,1,2,6,3,4,5] hd4_49
 refine D.bs T Q4 ([]:List Q0) ?_
 exact D.tq [0,1,2,6,3,4,5] hd4_50
 refine D.have false [cE12 st,(1,.p 0 0),(2,.p 1 0),(3,.p 0 0),cE13 st,(6,.p 0 1),cE14 st,(9,.o 2),cE15,cE16 st,(13,.o 3),cE17,cE18 st,(17,.o 4),cE19,cE20 st,(21,.o 5),cE21,cE22 st] [cE23 st,cE24,cE38,cE37,cE33,cE36] 6 8 (bvA 24 [2,5,9,13,17,21,22,23]) ?_ fun hd4_42=>?_
 refine D.all 2 [] (by kernel_rfl) ⟨?_,trivial⟩
 refine D.bs T eI ([]:List Int) ?_
 exact D.tq [0,1,6,2,3,4,5] hd4_50
 refine D.have false [cE12 st,(1,.p 0 0),(2,.p 1 0),(3,.p 0 0),cE13 st,(5,.o 2),(6,.p 0 1),cE14 st,(8,.o 3),(9,.o 4),cE15,cE16 st,cE17,cE18 st,cE19,cE20 st,cE21,cE22 st] [cE23 st,cE24,cE25 st,cE30] 5 9 (bvA 24 [9,10,13,14,17,18,21,22,23]) ?_ fun hd4_17=>?_
 refine D.all 9 [10,14,18] (by kernel_rfl) ⟨?_,?_,?_,?_,trivial⟩
 refine D.ef1 rfl (.none rfl) (by exact Eff1.ap T rfl rfl rfl rfl rfl rfl (.inl rfl) rfl rfl rfl (fun _=>rfl) rfl y6) rfl rfl ?_
 exact D.tq [0,1,2,3,4,5] hd4_31
 refine D.bs T eI ([]:List Int) ?_
 exact D.tq [0,1,2,3,4,5] hd4_32
 refine D.bs T eI ([]:List Int) ?_
 exact D.tq [0,1,2,3,4,5] hd4_33
 refine D.bs T Q7 ([]:List Qd) ?_
 exact D.tq [0,1,2,3,4,5] hd4_34
 refine D.have false [cE12 st,(1,.p 0 0),(2,.p 1 0),(3,.p 0 0),cE13 st,(5,.o 2),(6,.p 0 1),cE14 st,(8,.o 3),cE15,cE16 st,(13,.o 4),cE17,cE18 st,cE19,cE20 st,cE21,cE22 st] [cE23 st,cE24,cE25 st,cE33] 5 9 (bvA 24 [6,9,13,14,17,18,21,22,23]) ?_ fun hd4_18=>?_
 refine D.all 6 [14,18] (by kernel_rfl) ⟨?_,?_,?_,trivial⟩
 refine D.bs T Q4 ([]:List Q0) ?_
 exact D.tq [0,1,2,3,5,4] hd4_32
 refine D.bs T eI ([]:List Int) ?_
 exact D.tq [0,1,2,3,4,5] hd4_35
 refine D.bs T Q7 ([]:List Qd) ?_
 exact D.tq [0,1,2,3,4,5] hd4_36
 refine D.have false [cE12 st,(1,.p 0 0),(2,.p 1 0),(3,.p 0 0),cE13 st,(5,.o 2),(6,.p 0 1),cE14 st,(8,.o 3),cE15,cE16 st,cE17,cE18 st,(17,.o 4),cE19,cE20 st,cE21,cE22 st] [cE23 st,cE24,cE25 st,cE33] 5 9 (bvA 24 [6,9,10,13,17,18,21,22,23]) ?_ fun hd4_19=>?_
 refine D.all 6 [10,18] (by kernel_rfl) ⟨?_,?_,?_,trivial⟩
 refine D.bs T Q4 ([]:List Q0) ?_
 exact D.tq [0,1,2,3,5,4] hd4_33
 refine D.bs T eI ([]:List Int) ?_
 exact D.tq [0,1,2,3,5,4] hd4_35
 refine D.bs T Q7 ([]:List Qd) ?_
 exact D.tq [0,1,2,3,4,5] hd4_37
 refine D.have false [cE12 st,(1,.p 0 0),(2,.p 1 0),(3,.p 0 0),cE13 st,(5,.o 2),(6,.p 0 1),cE14 st,(8,.o 3),cE15,cE16 st,cE17,cE18 st,cE19,cE20 st,(21,.o 4),cE21,cE22 st] [cE23 st,cE24,cE25 st,cE39] 5 9 (bvA 24 [6,9,10,13,14,17,21,22,23]) ?_ fun hd4_20=>?_
 refine D.all 6 [10,14] (by kernel_rfl) ⟨?_,?_,?_,trivial⟩
 refine D.bs T Q4 ([]:List Q0) ?_
 exact D.tq [0,1,2,3,5,4] hd4_34
 refine D.bs T eI ([]:List Int) ?_
 exact D.tq [0,1,2,3,5,4] hd4_36
 refine D.bs T eI ([]:List Int) ?_
 exact D.tq [0,1,2,3,5,4] hd4_37
 refine D.have false [cE12 st,(1,.p 0 0),(2,.p 1 0),(3,.p 0 0),cE13 st,(5,.o 2),(6,.p 0 1),cE14 st,(9,.o 3),cE15,cE16 st,(13,.o 4),cE17,cE18 st,cE19,cE20 st,cE21,cE22 st] [cE23 st,cE24,cE34,cE35,cE33] 5 9 (bvA 24 [5,9,13,14,17,18,21,22,23]) ?_ fun hd4_21=>?_
 refine D.all 5 [14,18] (by kernel_rfl) ⟨?_,?_,?_,trivial⟩
 refine D.ef1 rfl (.none rfl) (by exact Eff1.ap T rfl rfl rfl rfl rfl rfl (.inl rfl) rfl rfl rfl (fun _=>rfl) rfl y5) rfl rfl ?_
 exact D.tq [0,1,2,5,3,4] hd4_32
 refine D.bs T eI ([]:List Int) ?_
 exact D.tq [0,1,2,3,4,5] hd4_38
 refine D.bs T Q7 ([]:List Qd) ?_
 exact D.tq [0,1,2,3,4,5] hd4_39
 refine D.have false [cE12 st,(1,.p 0 0),(2,.p 1 0),(3,.p 0 0),cE13 st,(5,.o 2),(6,.p 0 1),cE14 st,(9,.o 3),cE15,cE16 st,cE17,cE18 st,(17,.o 4),cE19,cE20 st,cE21,cE22 st] [cE23 st,cE24,cE34,cE35,cE33] 5 9 (bvA 24 [5,9,10,13,17,18,21,22,23]) ?_ fun hd4_22=>?_
 refine D.all 5 [10,18] (by kernel_rfl) ⟨?_,?_,?_,trivial⟩
 refine D.ef1 rfl (.none rfl) (by exact Eff1.ap T rfl rfl rfl rfl rfl rfl (.inl rfl) rfl rfl rfl (fun _=>rfl) rfl y5) rfl rfl ?_
 exact D.tq [0,1,2,5,3,4] hd4_33
 refine D.bs T eI ([]:List Int) ?_
 exact D.tq [0,1,2,3,5,4] hd4_38
 refine D.bs T Q7 ([]:List Qd) ?_
 exact D.tq [0,1,2,3,4,5] hd4_40
 refine D.have false [cE12 st,(1,.p 0 0),(2,.p 1 0),(3,.p 0 0),cE13 st,(5,.o 2),(6,.p 0 1),cE14 st,(9,.o 3),cE15,cE16 st,cE17,cE18 st,cE19,cE20 st,(21,.o 4),cE21,cE22 st] [cE23 st,cE24,cE34,cE35,cE39] 5 9 (bvA 24 [5,9,10,13,14,17,21,22,23]) ?_ fun hd4_23=>?_
 refine D.all 5 [10,14] (by kernel_rfl) ⟨?_,?_,?_,trivial⟩
 refine D.ef1 rfl (.none rfl) (by exact Eff1.ap T rfl rfl rfl rfl rfl rfl (.inl rfl) rfl rfl rfl (fun _=>rfl) rfl y5) rfl rfl ?_
 exact D.tq [0,1,2,5,3,4] hd4_34
 refine D.bs T eI ([]:List Int) ?_
 exact D.tq [0,1,2,3,5,4] hd4_39
 refine D.bs T eI ([]:List Int) ?_
 exact D.tq [0,1,2,3,5,4] hd4_40
 refine D.have false [cE12 st,(1,.p 0 0),(2,.p 1 0),(3,.p 0 0),cE13 st,(5,.o 2),(6,.p 0 1),cE14 st,cE15,cE16 st,(13,.o 3),cE17,cE18 st,(17,.o 4),cE19,cE20 st,cE21,cE22 st] [cE23 st,cE24,cE34,cE37,cE33] 5 9 (bvA 24 [5,6,9,13,17,18,21,22,23]) ?_ fun hd4_24=>?_
 refine D.all 5 [6,18] (by kernel_rfl) ⟨?_,?_,?_,trivial⟩
 refine D.ef1 rfl (.none rfl) (by exact Eff1.ap T rfl rfl rfl rfl rfl rfl (.inl rfl) rfl rfl rfl (fun _=>rfl) rfl y5) rfl rfl ?_
 exact D.tq [0,1,2,5,3,4] hd4_35
 refine D.bs T Q4 ([]:List Q0) ?_
 exact D.tq [0,1,2,5,3,4] hd4_38
 refine D.bs T Q7 ([]:List Qd) ?_
 exact D.tq [0,1,2,3,4,5] hd4_41
 refine D.have false [cE12 st,(1,.p 0 0),(2,.p 1 0),(3,.p 0 0),cE13 st,(5,.o 2),(6,.p 0 1),cE14 st,cE15,cE16 st,(13,.o 3),cE17,cE18 st,cE19,cE20 st,(21,.o 4),cE21,cE22 st] [cE23 st,cE24,cE34,cE37,cE39] 5 9 (bvA 24 [5,6,9,13,14,17,21,22,23]) ?_ fun hd4_25=>?_
 refine D.all 5 [6,14] (by kernel_rfl) ⟨?_,?_,?_,trivial⟩
 refine D.ef1 rfl (.none rfl) (by exact Eff1.ap T rfl rfl rfl rfl rfl rfl (.inl rfl) rfl rfl rfl (fun _=>rfl) rfl y5) rfl rfl ?_
 exact D.tq [0,1,2,5,3,4] hd4_36
 refine D.bs T Q4 ([]:List Q0) ?_
 exact D.tq [0,1,2,5,3,4] hd4_39
 refine D.bs T eI ([]:List Int) ?_
 exact D.tq [0,1,2,3,5,4] hd4_41
 refine D.have false [cE12 st,(1,.p 0 0),(2,.p 1 0),(3,.p 0 0),cE13 st,(5,.o 2),(6,.p 0 1),cE14 st,cE15,cE16 st,cE17,cE18 st,(17,.o 3),cE19,cE20 st,(21,.o 4),cE21,cE22 st] [cE23 st,cE24,cE34,cE37,cE39] 5 9 (bvA 24 [5,6,9,10,13,17,21,22,23]) ?_ fun hd4_26=>?_
 refine D.all 5 [6,10] (by kernel_rfl) ⟨?_,?_,?_,trivial⟩
 refine D.ef1 rfl (.none rfl) (by exact Eff1.ap T rfl rfl rfl rfl rfl rfl (.inl rfl) rfl rfl rfl (fun _=>rfl) rfl y5) rfl rfl ?_
 exact D.tq [0,1,2,5,3,4] hd4_37
 refine D.bs T Q4 ([]:List Q0) ?_
 exact D.tq [0,1,2,5,3,4] hd4_40
 refine D.bs T eI ([]:List Int) ?_
 exact D.tq [0,1,2,5,3,4] hd4_41
 refine D.have false [cE12 st,(1,.p 0 0),(2,.p 1 0),(3,.p 0 0),cE13 st,(6,.p 0 1),cE14 st,(9,.o 2),cE15,cE16 st,(13,.o 3),cE17,cE18 st,(17,.o 4),cE19,cE20 st,cE21,cE22 st] [cE23 st,cE24,cE38,cE37,cE33] 5 9 (bvA 24 [2,5,9,13,17,18,21,22,23]) ?_ fun hd4_27=>?_
 refine D.all 2 [18] (by kernel_rfl) ⟨?_,?_,trivial⟩
 refine D.bs T eI ([]:List Int) ?_
 exact D.tq [0,1,5,2,3,4] hd4_38
 refine D.bs T Q7 ([]:List Qd) ?_
 exact D.tq [0,1,2,3,4,5] hd4_42
 refine D.have false [cE12 st,(1,.p 0 0),(2,.p 1 0),(3,.p 0 0),cE13 st,(6,.p 0 1),cE14 st,(9,.o 2),cE15,cE16 st,(13,.o 3),cE17,cE18 st,cE19,cE20 st,(21,.o 4),cE21,cE22 st] [cE23 st,cE24,cE38,cE37,cE39] 5 9 (bvA 24 [2,5,9,13,14,17,21,22,23]) ?_ fun hd4_28=>?_
 refine D.all 2 [14] (by kernel_rfl) ⟨?_,?_,trivial⟩
 refine D.bs T eI ([]:List Int) ?_
 exact D.tq [0,1,5,2,3,4] hd4_39
 refine D.bs T eI ([]:List Int) ?_
 exact D.tq [0,1,2,3,5,4] hd4_42
 refine D.have false [cE12 st,(1,.p 0 0),(2,.p 1 0),(3,.p 0 0),cE13 st,(6,.p 0 1),cE14 st,(9,.o 2),cE15,cE16 st,cE17,cE18 st,(17,.o 3),cE19,cE20 st,(21,.o 4),cE21,cE22 st] [cE23 st,cE24,cE38,cE37,cE39] 5 9 (bvA 24 [2,5,9,10,13,17,21,22,23]) ?_ fun hd4_29=>?_
 refine D.all 2 [10] (by kernel_rfl) ⟨?_,?_,trivial⟩
 refine D.bs T eI ([]:List Int) ?_
 exact D.tq [0,1,5,2,3,4] hd4_40
 refine D.bs T eI ([]:List Int) ?_
 exact D.tq [0,1,2,5,3,4] hd4_42
 refine D.have false [cE12 st,(1,.p 0 0),(2,.p 1 0),(3,.p 0 0),cE13 st,(6,.p 0 1),cE14 st,cE15,cE16 st,(13,.o 2),cE17,cE18 st,(17,.o 3),cE19,cE20 st,(21,.o 4),cE21,cE22 st] [cE23 st,cE24,cE34,cE37,cE39] 5 9 (bvA 24 [2,5,6,9,13,17,21,22,23]) ?_ fun hd4_30=>?_
 refine D.all 2 [6] (by kernel_rfl) ⟨?_,?_,trivial⟩
 refine D.bs T eI ([]:List Int) ?_
 exact D.tq [0,1,5,2,3,4] hd4_41
 refine D.bs T Q4 ([]:List Q0) ?_
 exact D.tq [0,1,5,2,3,4] hd4_42
 refine D.have false [cE12 st,(1,.p 0 0),(2,.p 1 0),(3,.p 0 0),cE13 st,(5,.o 2),(6,.p 0 1),cE14 st,(8,.o 3),cE15,cE16 st,cE17,cE18 st,cE19,cE20 st,cE21,cE22 st] [cE23 st,cE24,cE25 st] 4 10 (bvA 24 [6,9,10,13,14,17,18,21,22,23]) ?_ fun hd4_6=>?_
 refine D.all 6 [10,14,18] (by kernel_rfl) ⟨?_,?_,?_,?_,trivial⟩
 refine D.bs T Q4 ([]:List Q0) ?_
 exact D.tq [0,1,2,3,4] hd4_17
 refine D.bs T eI ([]:List Int) ?_
 exact D.tq [0,1,2,3,4] hd4_18
 refine D.bs T eI ([]:List Int) ?_
 exact D.tq [0,1,2,3,4] hd4_19
 refine D.bs T Q7 ([]:List Qd) ?_
 exact D.tq [0,1,2,3,4] hd4_20
 refine D.have false [cE12 st,(1,.p 0 0),(2,.p 1 0),(3,.p 0 0),cE13 st,(5,.o 2),(6,.p 0 1),cE14 st,(9,.o 3),cE15,cE16 st,cE17,cE18 st,cE19,cE20 st,cE21,cE22 st] [cE23 st,cE24,cE34,cE35] 4 10 (bvA 24 [5,9,10,13,14,17,18,21,22,23]) ?_ fun hd4_7=>?_
 refine D.all 5 [10,14,18] (by kernel_rfl) ⟨?_,?_,?_,?_,trivial⟩
 refine D.ef1 rfl (.none rfl) (by exact Eff1.ap T rfl rfl rfl rfl rfl rfl (.inl rfl) rfl rfl rfl (fun _=>rfl) rfl y5) rfl rfl ?_
 exact D.tq [0,1,2,4,3] hd4_17
 refine D.bs T eI ([]:List Int) ?_
 exact D.tq [0,1,2,3,4] hd4_21
 refine D.bs T eI ([]:List Int) ?_
 exact D.tq [0,1,2,3,4] hd4_22
 refine D.bs T Q7 ([]:List Qd) ?_
 exact D.tq [0,1,2,3,4] hd4_23
 refine D.have false [cE12 st,(1,.p 0 0),(2,.p 1 0),(3,.p 0 0),cE13 st,(5,.o 2),(6,.p 0 1),cE14 st,cE15,cE16 st,(13,.o 3),cE17,cE18 st,cE19,cE20 st,cE21,cE22 st] [cE23 st,cE24,cE34,cE37] 4 10 (bvA 24 [5,6,9,13,14,17,18,21,22,23]) ?_ fun hd4_8=>?_
 refine D.all 5 [6,14,18] (by kernel_rfl) ⟨?_,?_,?_,?_,trivial⟩
 refine D.ef1 rfl (.none rfl) (by exact Eff1.ap T rfl rfl rfl rfl rfl rfl (.inl rfl) rfl rfl rfl (fun _=>rfl) rfl y5) rfl rfl ?_
 exact D.tq [0,1,2,4,3] hd4_18
 refine D.bs T Q4 ([]:List Q0) ?_
 exact D.tq [0,1,2,4,3] hd4_21
 refine D.bs T eI ([]:List Int) ?_
 exact D.tq [0,1,2,3,4] hd4_24
 refine D.bs T Q7 ([]:List Qd) ?_
 exact D.tq [0,1,2,3,4] hd4_25
 refine D.have false [cE12 st,(1,.p 0 0),(2,.p 1 0),(3,.p 0 0),cE13 st,(5,.o 2),(6,.p 0 1),cE14 st,cE15,cE16 st,cE17,cE18 st,(17,.o 3),cE19,cE20 st,cE21,cE22 st] [cE23 st,cE24,cE34,cE37] 4 10 (bvA 24 [5,6,9,10,13,17,18,21,22,23]) ?_ fun hd4_9=>?_
 refine D.all 5 [6,10,18] (by kernel_rfl) ⟨?_,?_,?_,?_,trivial⟩
 refine D.ef1 rfl (.none rfl) (by exact Eff1.ap T rfl rfl rfl rfl rfl rfl (.inl rfl) rfl rfl rfl (fun _=>rfl) rfl y5) rfl rfl ?_
 exact D.tq [0,1,2,4,3] hd4_19
 refine D.bs T Q4 ([]:List Q0) ?_
 exact D.tq [0,1,2,4,3] hd4_22
 refine D.bs T eI ([]:List Int) ?_
 exact D.tq [0,1,2,4,3] hd4_24
 refine D.bs T Q7 ([]:List Qd) ?_
 exact D.tq [0,1,2,3,4] hd4_26
 refine D.have false [cE12 st,(1,.p 0 0),(2,.p 1 0),(3,.p 0 0),cE13 st,(5,.o 2),(6,.p 0 1),cE14 st,cE15,cE16 st,cE17,cE18 st,cE19,cE20 st,(21,.o 3),cE21,cE22 st] [cE23 st,cE24,cE34,cE40] 4 10 (bvA 24 [5,6,9,10,13,14,17,21,22,23]) ?_ fun hd4_10=>?_
 refine D.all 5 [6,10,14] (by kernel_rfl) ⟨?_,?_,?_,?_,trivial⟩
 refine D.ef1 rfl (.none rfl) (by exact Eff1.ap T rfl rfl rfl rfl rfl rfl (.inl rfl) rfl rfl rfl (fun _=>rfl) rfl y5) rfl rfl ?_
 exact D.tq [0,1,2,4,3] hd4_20
 refine D.bs T Q4 ([]:List Q0) ?_
 exact D.tq [0,1,2,4,3] hd4_23
 refine D.bs T eI ([]:List Int) ?_
 exact D.tq [0,1,2,4,3] hd4_25
 refine D.bs T eI ([]:List Int) ?_
 exact D.tq [0,1,2,4,3] hd4_26
 refine D.have false [cE12 st,(1,.p 0 0),(2,.p 1 0),(3,.p 0 0),cE13 st,(6,.p 0 1),cE14 st,(9,.o 2),cE15,cE16 st,(13,.o 3),cE17,cE18 st,cE19,cE20 st,cE21,cE22 st] [cE23 st,cE24,cE38,cE37] 4 10 (bvA 24 [2,5,9,13,14,17,18,21,22,23]) ?_ fun hd4_11=>?_
 refine D.all 2 [14,18] (by kernel_rfl) ⟨?_,?_,?_,trivial⟩
 refine D.bs T eI ([]:List Int) ?_
 exact D.tq [0,1,4,2,3] hd4_21
 refine D.bs T eI ([]:List Int) ?_
 exact D.tq [0,1,2,3,4] hd4_27
 refine D.bs T Q7 ([]:List Qd) ?_
 exact D.tq [0,1,2,3,4] hd4_28
 refine D.have false [cE12 st,(1,.p 0 0),(2,.p 1 0),(3,.p 0 0),cE13 st,(6,.p 0 1),cE14 st,(9,.o 2),cE15,cE16 st,cE17,cE18 st,(17,.o 3),cE19,cE20 st,cE21,cE22 st] [cE23 st,cE24,cE38,cE37] 4 10 (bvA 24 [2,5,9,10,13,17,18,21,22,23]) ?_ fun hd4_12=>?_
 refine D.all 2 [10,18] (by kernel_rfl) ⟨?_,?_,?_,trivial⟩
 refine D.bs T eI ([]:List Int) ?_
 exact D.tq [0,1,4,2,3] hd4_22
 refine D.bs T eI ([]:List Int) ?_
 exact D.tq [0,1,2,4,3] hd4_27
 refine D.bs T Q7 ([]:List Qd) ?_
 exact D.tq [0,1,2,3,4] hd4_29
 refine D.have false [cE12 st,(1,.p 0 0),(2,.p 1 0),(3,.p 0 0),cE13 st,(6,.p 0 1),cE14 st,(9,.o 2),cE15,cE16 st,cE17,cE18 st,cE19,cE20 st,(21,.o 3),cE21,cE22 st] [cE23 st,cE24,cE38,cE40] 4 10 (bvA 24 [2,5,9,10,13,14,17,21,22,23]) ?_ fun hd4_13=>?_
 refine D.all 2 [10,14] (by kernel_rfl) ⟨?_,?_,?_,trivial⟩
 refine D.bs T eI ([]:List Int) ?_
 exact D.tq [0,1,4,2,3] hd4_23
 refine D.bs T eI ([]:List Int) ?_
 exact D.tq [0,1,2,4,3] hd4_28
 refine D.bs T eI ([]:List Int) ?_
 exact D.tq [0,1,2,4,3] hd4_29
 refine D.have false [cE12 st,(1,.p 0 0),(2,.p 1 0),(3,.p 0 0),cE13 st,(6,.p 0 1),cE14 st,cE15,cE16 st,(13,.o 2),cE17,cE18 st,(17,.o 3),cE19,cE20 st,cE21,cE22 st] [cE23 st,cE24,cE34,cE37] 4 10 (bvA 24 [2,5,6,9,13,17,18,21,22,23]) ?_ fun hd4_14=>?_
 refine D.all 2 [6,18] (by kernel_rfl) ⟨?_,?_,?_,trivial⟩
 refine D.bs T eI ([]:List Int) ?_
 exact D.tq [0,1,4,2,3] hd4_24
 refine D.bs T Q4 ([]:List Q0) ?_
 exact D.tq [0,1,4,2,3] hd4_27
 refine D.bs T Q7 ([]:List Qd) ?_
 exact D.tq [0,1,2,3,4] hd4_30
 refine D.have false [cE12 st,(1,.p 0 0),(2,.p 1 0),(3,.p 0 0),cE13 st,(6,.p 0 1),cE14 st,cE15,cE16 st,(13,.o 2),cE17,cE18 st,cE19,cE20 st,(21,.o 3),cE21,cE22 st] [cE23 st,cE24,cE34,cE40] 4 10 (bvA 24 [2,5,6,9,13,14,17,21,22,23]) ?_ fun hd4_15=>?_
 refine D.all 2 [6,14] (by kernel_rfl) ⟨?_,?_,?_,trivial⟩
 refine D.bs T eI ([]:List Int) ?_
 exact D.tq [0,1,4,2,3] hd4_25
 refine D.bs T Q4 ([]:List Q0) ?_
 exact D.tq [0,1,4,2,3] hd4_28
 refine D.bs T eI ([]:List Int) ?_
 exact D.tq [0,1,2,4,3] hd4_30
 refine D.have false [cE12 st,(1,.p 0 0),(2,.p 1 0),(3,.p 0 0),cE13 st,(6,.p 0 1),cE14 st,cE15,cE16 st,cE17,cE18 st,(17,.o 2),cE19,cE20 st,(21,.o 3),cE21,cE22 st] [cE23 st,cE24,cE34,cE40] 4 10 (bvA 24 [2,5,6,9,10,13,17,21,22,23]) ?_ fun hd4_16=>?_
 refine D.all 2 [6,10] (by kernel_rfl) ⟨?_,?_,?_,trivial⟩
 refine D.bs T eI ([]:List Int) ?_
 exact D.tq [0,1,4,2,3] hd4_26
 refine D.bs T Q4 ([]:List Q0) ?_
 exact D.tq [0,1,4,2,3] hd4_29
 refine D.bs T eI ([]:List Int) ?_
 exact D.tq [0,1,4,2,3] hd4_30
 refine D.have false [cE12 st,(1,.p 0 0),(2,.p 1 0),(3,.p 0 0),cE13 st,(5,.o 2),(6,.p 0 1),cE14 st,cE15,cE16 st,cE17,cE18 st,cE19,cE20 st,cE21,cE22 st] [cE23 st,cE24,cE34] 3 11 (bvA 24 [5,6,9,10,13,14,17,18,21,22,23]) ?_ fun hd4_1=>?_
 refine D.all 5 [6,10,14,18] (by kernel_rfl) ⟨?_,?_,?_,?_,?_,trivial⟩
 refine D.ef1 rfl (.none rfl) (by exact Eff1.ap T rfl rfl rfl rfl rfl rfl (.inl rfl) rfl rfl rfl (fun _=>rfl) rfl y5) rfl rfl ?_
 exact D.tq [0,1,2,3] hd4_6
 refine D.bs T Q4 ([]:List Q0) ?_
 exact D.tq [0,1,2,3] hd4_7
 refine D.bs T eI ([]:List Int) ?_
 exact D.tq [0,1,2,3] hd4_8
 refine D.bs T eI ([]:List Int) ?_
 exact D.tq [0,1,2,3] hd4_9
 refine D.bs T Q7 ([]:List Qd) ?_
 exact D.tq [0,1,2,3] hd4_10
 refine D.have false [cE12 st,(1,.p 0 0),(2,.p 1 0),(3,.p 0 0),cE13 st,(6,.p 0 1),cE14 st,(9,.o 2),cE15,cE16 st,cE17,cE18 st,cE19,cE20 st,cE21,cE22 st] [cE23 st,cE24,cE38] 3 11 (bvA 24 [2,5,9,10,13,14,17,18,21,22,23]) ?_ fun hd4_2=>?_
 refine D.all 2 [10,14,18] (by kernel_rfl) ⟨?_,?_,?_,?_,trivial⟩
 refine D.bs T eI ([]:List Int) ?_
 exact D.tq [0,1,3,2] hd4_7
 refine D.bs T eI ([]:List Int) ?_
 exact D.tq [0,1,2,3] hd4_11
 refine D.bs T eI ([]:List Int) ?_
 exact D.tq [0,1,2,3] hd4_12
 refine D.bs T Q7 ([]:List Qd) ?_
 exact D.tq [0,1,2,3] hd4_13
 refine D.have false [cE12 st,(1,.p 0 0),(2,.p 1 0),(3,.p 0 0),cE13 st,(6,.p 0 1),cE14 st,cE15,cE16 st,(13,.o 2),cE17,cE18 st,cE19,cE20 st,cE21,cE22 st] [cE23 st,cE24,cE34] 3 11 (bvA 24 [2,5,6,9,13,14,17,18,21,22,23]) ?_ fun hd4_3=>?_
 refine D.all 2 [6,14,18] (by kernel_rfl) ⟨?_,?_,?_,?_,trivial⟩
 refine D.bs T eI ([]:List Int) ?_
 exact D.tq [0,1,3,2] hd4_8
 refine D.bs T Q4 ([]:List Q0) ?_
 exact D.tq [0,1,3,2] hd4_11
 refine D.bs T eI ([]:List Int) ?_
 exact D.tq [0,1,2,3] hd4_14
 refine D.bs T Q7 ([]:List Qd) ?_
 exact D.tq [0,1,2,3] hd4_15
 refine D.have false [cE12 st,(1,.p 0 0),(2,.p 1 0),(3,.p 0 0),cE13 st,(6,.p 0 1),cE14 st,cE15,cE16 st,cE17,cE18 st,(17,.o 2),cE19,cE20 st,cE21,cE22 st] [cE23 st,cE24,cE34] 3 11 (bvA 24 [2,5,6,9,10,13,17,18,21,22,23]) ?_ fun hd4_4=>?_
 refine D.all 2 [6,10,18] (by kernel_rfl) ⟨?_,?_,?_,?_,trivial⟩
 refine D.bs T eI ([]:List Int) ?_
 exact D.tq [0,1,3,2] hd4_9
 refine D.bs T Q4 ([]:List Q0) ?_
 exact D.tq [0,1,3,2] hd4_12
 refine D.bs T eI ([]:List Int) ?_
 exact D.tq [0,1,3,2] hd4_14
 refine D.bs T Q7 ([]:List Qd) ?_
 exact D.tq [0,1,2,3] hd4_16
 refine D.have false [cE12 st,(1,.p 0 0),(2,.p 1 0),(3,.p 0 0),cE13 st,(6,.p 0 1),cE14 st,cE15,cE16 st,cE17,cE18 st,cE19,cE20 st,(21,.o 2),cE21,cE22 st] [cE23 st,cE24,(2,.val (.os 2 Q7 ([]:List Qd)))] 3 11 (bvA 24 [2,5,6,9,10,13,14,17,21,22,23]) ?_ fun hd4_5=>?_
 refine D.all 2 [6,10,14] (by kernel_rfl) ⟨?_,?_,?_,?_,trivial⟩
 refine D.bs T eI ([]:List Int) ?_
 exact D.tq [0,1,3,2] hd4_10
 refine D.bs T Q4 ([]:List Q0) ?_
 exact D.tq [0,1,3,2] hd4_13
 refine D.bs T eI ([]:List Int) ?_
 exact D.tq [0,1,3,2] hd4_15
 refine D.bs T eI ([]:List Int) ?_
 exact D.tq [0,1,3,2] hd4_16
 refine D.all 2 [6,10,14,18] (by kernel_rfl) ⟨?_,?_,?_,?_,?_,trivial⟩
 refine D.bs T eI ([]:List Int) ?_
 exact D.tq [0,1,2] hd4_1
 refine D.bs T Q4 ([]:List Q0) ?_
 exact D.tq [0,1,2] hd4_2
 refine D.bs T eI ([]:List Int) ?_
 exact D.tq [0,1,2] hd4_3
 refine D.bs T eI ([]:List Int) ?_
 exact D.tq [0,1,2] hd4_4
 refine D.bs T Q7 ([]:List Qd) ?_
 exact D.tq [0,1,2] hd4_5
end Go.Proofs.YtdcfcldpjfepiaaGreat
