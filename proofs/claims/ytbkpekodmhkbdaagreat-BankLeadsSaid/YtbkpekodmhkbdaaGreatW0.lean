/- The walks: each Go function does what its verification condition says (written by a program of the prover). -/
import Derived.Test.YtbkpekodmhkbdaaGreatEnc
import Derived.KernelRfl
set_option maxRecDepth 100000
set_option maxHeartbeats 8000000
set_option linter.unusedVariables false
set_option linter.unusedSimpArgs false
namespace Go.Proofs.YtbkpekodmhkbdaaGreat
open Go Go.Taq
theorem Ze (post:(ApiSite×ApiState)→Prop) (g:Xi post):
  Tr Tryz.prog 28 [] [] 0 (fun A H' k=>∃y,post y∧A=(.tup [.agg [.i y.1.Floor.W,.i y.1.Floor.H,.i y.1.Floor.D,.o 0,.o 1,.o 2,.o 3,.o 4,.o 5],.agg [.i y.2.Tick,.o 6,.o 7,.o 8,.o 9,.o 10]])∧H'=[(0,.val (.os 1 eI y.1.Floor.Kind)),(1,.val (.os 1 eI y.1.Floor.Out)),(2,.val (.os 5 Q8 y.1.Zones)),(3,.val (.os 2 Q3 y.1.Aparts)),(4,.val (.os 2 Q4 y.1.Shelves)),(5,.val (.os 2 Q5 y.1.Robots)),(6,.val (.os 1 eI y.2.Shelves)),(7,.val (.os 6 Q0 y.2.Robots)),(8,.val (.os 1 eI y.2.People)),(9,.val (.os 1 eI y.2.Dead)),(10,.val (.os 2 Q7 y.2.Stuck))]∧k=11):=by
 refine Tr.go Tryz.func28 Tryz.ntmps28 fun _ _ _ _ o=>?_
 unfold Xi at g
 refine C.ss (U.al T ?_)
 refine U.al T ?_
 refine U.done (C.xt (U.bs T eI ([3,1,1,1,1]:List Int) ?_))
 refine U.bs T eI ([5,5,5,5,5]:List Int) ?_
 refine U.ps 1 T rfl (U.al T ?_)
 refine U.st T ?_
 refine U.done (C.xt (U.ps 3 T rfl (U.bs T Q5 ([({Cell:=1,Charge:=9:QC}),({Cell:=2,Charge:=9:QC})]:List QC) ?_)))
 refine U.ps 1 T rfl (U.al T ?_)
 refine U.st T ?_
 refine U.done (C.xt (U.ps 3 T rfl (U.bs T Q0 ([({Cell:=1,Load:=(-1),Charge:=9,Rest:=0,Mute:=0,Dead:=false:ApiRobot}),({Cell:=2,Load:=(-1),Charge:=9,Rest:=0,Mute:=0,Dead:=false:ApiRobot})]:List ApiRobot) ?_)))
 refine U.ps 1 T rfl (U.st T ?_)
 refine U.st T ?_
 refine U.done (C.nx (C.ret ?_))
 exact C.fg [some 2,some 3,none,none,none,some 5,none,some 7,none,none,none] T o ⟨(({Floor:=({W:=5,H:=1,D:=1,Kind:=([3,1,1,1,1]:List Int),Out:=([5,5,5,5,5]:List Int):ApiFloor}),Zones:=[],Aparts:=[],Shelves:=[],Robots:=([({Cell:=1,Charge:=9:QC}),({Cell:=2,Charge:=9:QC})]:List QC):ApiSite}),({Tick:=0,Shelves:=[],Robots:=([({Cell:=1,Load:=(-1),Charge:=9,Rest:=0,Mute:=0,Dead:=false:ApiRobot}),({Cell:=2,Load:=(-1),Charge:=9,Rest:=0,Mute:=0,Dead:=false:ApiRobot})]:List ApiRobot),People:=[],Dead:=[],Stuck:=[]:ApiState})),g,rfl,rfl,rfl⟩
theorem X1 (x_1:Qd) (robot:Int) (post:Bool→Prop) (g:K0 x_1 robot post):
  Tr Tryz.prog 60 [.rp [.i x_1.s.Floor.W,.i x_1.s.Floor.H,.i x_1.s.Floor.D,.sl 1 eI x_1.s.Floor.Kind,.sl 1 eI x_1.s.Floor.Out,.sl 5 Q8 x_1.s.Zones,.sl 2 Q3 x_1.s.Aparts,.sl 2 Q4 x_1.s.Shelves,.sl 2 Q5 x_1.s.Robots,.i x_1.st.Tick,.sl 1 eI x_1.st.Shelves,.sl 6 Q0 x_1.st.Robots,.sl 1 eI x_1.st.People,.sl 1 eI x_1.st.Dead,.sl 2 Q7 x_1.st.Stuck,.sl 1 eI x_1.homes,.rm kI veB x_1.home],.i robot] [] 0 (pB post):=by
 refine Tr.go Tryz.func60 Tryz.ntmps60 fun _ _ _ _ o=>?_
 unfold K0 at g
 refine C.ss (U.pd 1 T (C.xs ?_))
 refine C.jn (fun (x3:Bool)=>[(4,.b x3)]) (fun x3=>[]) 0 g (fun x3 g=>?_) fun J4 g j4=>?_
 refine C.nx (C.ret ?_)
 exact C.f1 T o (pBi g)
 refine U.start (U.ps 3 T rfl ?_)
 refine g.cs (fun b5 g=>?_) fun b5 g=>?_
 refine U.pq 8 2 true 7 b5 T ?_
 refine U.pk b5 ?_
 refine U.ps 1 T rfl ?_
 refine g.cs (fun b6 g=>?_) fun b6 g=>?_
 refine U.pq 6 12 true 17 b6 T ?_
 obtain⟨x7,y7,g⟩:=g
 refine U.r rfl (.tk 12 true 17 b6) rfl rfl (by exact Rd.ix T rfl rfl rfl rfl rfl rfl y7) ?_
 refine U.pq 3 12 true 17 b6 T ?_
 refine U.pk b6 ?_
 refine U.pd 1 T ?_
 exact St.wn (j4 _ g)
 refine U.sk' 10 12 true 17 b6 ?_
 refine U.pk' b6 ?_
 refine U.pd 1 T ?_
 exact St.wn (j4 _ g)
 refine U.sk' 8 2 true 7 b5 ?_
 refine U.pk' b5 ?_
 refine U.ps 1 T rfl (U.sk' 10 12 true 17 rfl ?_)
 refine U.pk' rfl ?_
 refine U.pd 1 T ?_
 exact St.wn (j4 _ g)
theorem Gp (s_1:ApiSite) (st:ApiState) (homes:List Int) (gone:List Int) (post:Qd→Prop) (g:Kf s_1 st homes gone post):
  Tr Tryz.prog 56 [.agg (Q6 s_1),.agg (Q1 st),.sl 1 eI homes,.sl 1 eI gone] [] 0 (fun A H' k=>∃y,post y∧A=(.p 1 0)∧H'=[(0,.val (.om kI veB y.home)),(1,.box [.i y.s.Floor.W,.i y.s.Floor.H,.i y.s.Floor.D,.sl 1 eI y.s.Floor.Kind,.sl 1 eI y.s.Floor.Out,.sl 5 Q8 y.s.Zones,.sl 2 Q3 y.s.Aparts,.sl 2 Q4 y.s.Shelves,.sl 2 Q5 y.s.Robots,.i y.st.Tick,.sl 1 eI y.st.Shelves,.sl 6 Q0 y.st.Robots,.sl 1 eI y.st.People,.sl 1 eI y.st.Dead,.sl 2 Q7 y.st.Stuck,.sl 1 eI y.homes,.o 0])]∧k=2):=by
 refine Tr.go Tryz.func56 Tryz.ntmps56 fun _ _ _ _ o=>?_
 unfold Kf at g
 refine C.ss (U.bx ?_)
 refine U.bx ?_
 refine U.pd 1 T (C.xt ?_)
 refine U.ps 3 T rfl (U.e1 rfl (.none rfl) (by exact Eff1.mm kI veB rfl rfl rfl) ?_)
 refine U.ps 1 T rfl (U.bx ?_)
 refine U.pd 1 T (C.xs (C.ss ?_))
 refine U.pd 3 T (C.nx ?_)
 refine C.jn (fun (x7:List (Int×Bool))=>[(9,.p 0 0)]) (fun x7=>[(0,.box [.i s_1.Floor.W,.i s_1.Floor.H,.i s_1.Floor.D,.sl 1 eI s_1.Floor.Kind,.sl 1 eI s_1.Floor.Out,.sl 5 Q8 s_1.Zones,.sl 2 Q3 s_1.Aparts,.sl 2 Q4 s_1.Shelves,.sl 2 Q5 s_1.Robots,.i st.Tick,.sl 1 eI st.Shelves,.sl 6 Q0 st.Robots,.sl 1 eI st.People,.sl 1 eI st.Dead,.sl 2 Q7 st.Stuck,.sl 1 eI homes,.o 1]),(1,.val (.om kI veB x7))]) 2 g (fun x7 g=>?_) fun J8 g j8=>?_
 refine C.xt (U.pd 2 T (C.nx (C.ret ?_)))
 exact C.g1 [some 1,some 0] T o ⟨({s:=s_1,st:=st,homes:=homes,home:=x7:Qd}),g,rfl,rfl,rfl⟩
 refine C.block ?_
 refine St.wk (C.loop (fun (s9:List (Int×Bool)×Int)=>[(9,.p 0 0),(18,.sl 1 eI gone),(19,.i (gone.length:Int)),(20,.i s9.2)]) (fun s9=>[(0,.box [.i s_1.Floor.W,.i s_1.Floor.H,.i s_1.Floor.D,.sl 1 eI s_1.Floor.Kind,.sl 1 eI s_1.Floor.Out,.sl 5 Q8 s_1.Zones,.sl 2 Q3 s_1.Aparts,.sl 2 Q4 s_1.Shelves,.sl 2 Q5 s_1.Robots,.i st.Tick,.sl 1 eI st.Shelves,.sl 6 Q0 st.Robots,.sl 1 eI st.People,.sl 1 eI st.Dead,.sl 2 Q7 st.Stuck,.sl 1 eI homes,.o 1]),(1,.val (.om kI veB s9.1))]) g (fun s9 Y10 g=>?_)) (Wk.a [some 3,some 2])
 refine C.ss (U.pd 1 T (C.xs ?_))
 refine C.ite rfl g (fun b13 g=>?_) fun b13 g=>?_
 refine C.skip (C.xs (C.block (C.ss ?_)))
 obtain⟨x16,y16,g⟩:=g
 refine U.ix T y16 ?_
 refine U.pd 2 T (C.xt ?_)
 refine U.ps 2 T rfl (U.k (X1 ({s:=s_1,st:=st,homes:=homes,home:=s9.1:Qd}) x16 _ g) en60 (fun x19 g=>?_))
 refine U.done (C.nx ?_)
 refine C.jn (fun (x20:List (Int×Bool))=>[(9,.p 0 0),(18,.sl 1 eI gone),(19,.i (gone.length:Int)),(20,.i s9.2)]) (fun x20=>[(0,.box [.i s_1.Floor.W,.i s_1.Floor.H,.i s_1.Floor.D,.sl 1 eI s_1.Floor.Kind,.sl 1 eI s_1.Floor.Out,.sl 5 Q8 s_1.Zones,.sl 2 Q3 s_1.Aparts,.sl 2 Q4 s_1.Shelves,.sl 2 Q5 s_1.Robots,.i st.Tick,.sl 1 eI st.Shelves,.sl 6 Q0 st.Robots,.sl 1 eI st.People,.sl 1 eI st.Dead,.sl 2 Q7 st.Stuck,.sl 1 eI homes,.o 1]),(1,.val (.om kI veB x20))]) 2 g (fun x20 g=>?_) fun J21 g j21=>?_
 refine C.bnx (C.nx (U.start (U.pd 2 T (C.nx ?_))))
 exact St.wk (C.next g) (Wk.a (idR 2))
 refine C.ite rfl g (fun b22 g=>?_) fun b22 g=>?_
 refine U.start (U.ps 5 T rfl (U.e1 rfl (.none rfl) (by exact Eff1.mu T (x:=x16) (y:=true) (.inl rfl) rfl kt3 (fun _=>rfl) rfl rfl rfl rfl rfl (.inl rfl) rfl) ?_))
 refine U.done ?_
 exact St.wa (idR 2) (j21 _ g)
 refine C.skip ?_
 exact St.wa (idR 2) (j21 _ g)
 refine C.exit (C.ex (C.ex (C.bex ?_)))
 exact St.wa (idR 2) (j8 _ g)
set_option maxHeartbeats 4000000 in
theorem Q9R:Q6z Tryz.prog 130 1:=fun w n hn=>by
 have u0:=run_underlying Tryz.underlying0;have u3:=run_underlying Tryz.underlying3;have u4:=run_underlying Tryz.underlying4;have uS:=run_underlying Tryz.underlying22
 have zE:=Tryz.sizeOf3
 obtain⟨_,inf,z,hinf,hsz,hby,hz0,hzc,_,hzl,_⟩:=teok3
 have hzs:z.cells.size=1:=by rw [←Array.length_toList,hzc];exact hzl
 have hby2:inf.bytes≤128:=by rw [hby];decide
 have hsz2:inf.size=1:=hsz
 have hw0:IntKind.i64.wrap ((0:Int)-0)=0:=IntWalk.i64_in _ (by omega)
 have hw1:IntKind.i64.wrap ((n:Int)-0)=(n:Int):=(IntWalk.i64_in _ (by omega)).trans (by omega)
 have hneg:¬((n:Int)<0):=by omega
 rcases Nat.eq_zero_or_pos n with h0 | h0
 ·subst h0
  go_enter Tryz.func130,Tryz.ntmps130
  go_wp2
  go_ret
  exact Or.inl ⟨rfl,rfl⟩
 ·have hpos:(0:Int)<(n:Int):=by omega
  obtain⟨G,hG⟩:∃G,G=grownCap w (0+n) 0 3:=⟨_,rfl⟩
  have hGn:n≤G:=by rw [hG];have:=grownCap_ge w (0+n) 0 3;omega
  obtain⟨row,hrow⟩:∃row:Array Value,row=([]:List Value).toArray++Builtin.zeroCells z.cells n++Builtin.zeroCells z.cells (G-(0+n)):=⟨_,rfl⟩
  have hold:(Builtin.firstCells inf.size 0 (.slice none 0 0)).run Tryz.prog w.drew=.ok ([]:List Value).toArray w.drew:=by simp [Builtin.firstCells]
  have hN:n*inf.bytes≤1099511627776*128:=Nat.mul_le_mul hn hby2
  have hrz:∀ty,(Builtin.append_ #[22,3] ty #[.slice none 0 0,.int .i64 (n:Int)]).run Tryz.prog w=.ok (.slice (some ⟨w.heap.size,0,none⟩) (0+n) G) (w.drew.alloc (.cells row 3)):=fun ty=>by
   have h:=Lib.run_append_grow_zeros w 22 3 ty 3 inf z .i64 .i64 Tryz.underlying22 Tryz.underlying3 hinf hz0 none 0 0 [] hold n h0 (by rw [hsz2];decide) (by omega) (by omega) (by omega) (growslice_fits (by omega) (by rw [Nat.zero_add];omega))
   rw [hrow,hG]
   exact h
  have hrs:row.size=G*1:=by
   have:(G-(0+n))*1=G*1-n*1:=by rw [Nat.zero_add,Nat.sub_mul]
   have:n*1≤G*1:=Nat.mul_le_mul_right _ hGn
   rw [hrow];simp only [Array.size_append,size_zeroCells,hzs,List.size_toArray,List.length_nil];omega
  clear hrow hG hold
  go_enter Tryz.func130,Tryz.ntmps130
  go_wp2_with (first
   | (at_builtin;refine Lib.wpList_append_run _ rfl _ _ _ _ rfl _ _ rfl rfl _ _ (hrz _) ?_))
  go_ret
  exact Or.inr ⟨G,row,3,rfl,hrs,rfl,rfl,rfl,rfl,Nat.le_succ _⟩
theorem YH (n:Int) (post:List Int→Prop) (g:X6 n post):
  Tr Tryz.prog 130 [vN,.i n] [] 0 (fun A H' k=>∃y,post y∧A=(.o 0)∧H'=[(0,.val (.os 1 eI y))]∧k=1):=by
 unfold X6 at g
 obtain⟨h0,h1,hp⟩:=g
 obtain⟨n,rfl⟩:=Int.eq_ofNat_of_zero_le h0
 exact Tr.grow Q9R n h1 hp
theorem Ys (slices:List (List Int)) (post:(List Int)→Prop) (g:Kk slices post):
  Tr Tryz.prog 97 [.sl 1 eLeI slices] [] 0 (fun A H' k=>∃y,post y∧A=(.o 0)∧H'=[(0,.val (.os 1 eI y))]∧k=1):=by
 refine Tr.go Tryz.func97 Tryz.ntmps97 fun _ _ _ _ o=>?_
 unfold Kk at g
 refine C.ss (U.pd 1 T (C.xt ?_))
 refine U.pd 1 T (C.xs (C.ss ?_))
 refine U.pd 3 T (C.nx ?_)
 refine C.jn (fun (x7:Int)=>[(0,.sl 1 eLeI slices),(3,.i x7)]) (fun x7=>[]) 0 g (fun x7 g=>?_) fun J8 g j8=>?_
 refine C.xt (U.ps 1 T rfl (U.k (YH x7 _ g) Qan (fun x30 g=>?_)))
 refine U.pd 1 T (C.xs (C.ss ?_))
 refine U.pd 3 T (C.nx ?_)
 refine C.jn (fun (x33:List Int)=>[(6,.o 0)]) (fun x33=>[(0,.val (.os 1 eI x33))]) 1 g (fun x33 g=>?_) fun J34 g j34=>?_
 refine C.xt (U.pd 2 T (C.nx (C.ret ?_)))
 exact C.g1 [some 0] T o ⟨x33,g,rfl,rfl,rfl⟩
 refine C.block (St.wk (C.loop (fun (s35:List Int×Int)=>[(6,.o 0),(25,.sl 1 eLeI slices),(26,.i (slices.length:Int)),(27,.i s35.2)]) (fun s35=>[(0,.val (.os 1 eI s35.1))]) g (fun s35 Y36 g=>?_)) (Wk.a [some 0]))
 refine C.ss (U.pd 1 T (C.xs ?_))
 refine C.ite rfl g (fun b39 g=>?_) fun b39 g=>?_
 refine C.skip (C.xs (C.block (C.ss ?_)))
 obtain⟨x42,y42,g⟩:=g
 refine U.ix T y42 ?_
 refine U.pd 2 T (C.nx (U.start ?_))
 refine U.ps 2 T rfl ?_
 obtain⟨y45,g⟩:=g
 refine U.ap T y45 ?_
 refine U.pd 1 T (C.bnx (C.nx (U.start ?_)))
 refine U.pd 2 T (C.nx ?_)
 exact St.wk (C.next g) (Wk.a [some 1])
 refine C.exit (C.ex (C.ex (C.bex ?_)))
 exact St.wa [some 0] (j34 _ g)
 refine C.block (St.wk (C.loop (fun (s9:Int×Int)=>[(0,.sl 1 eLeI slices),(3,.i s9.1),(9,.sl 1 eLeI slices),(10,.i (slices.length:Int)),(11,.i s9.2)]) (fun s9=>[]) g (fun s9 Y10 g=>?_)) (Wk.e))
 refine C.ss (U.pd 1 T (C.xs ?_))
 refine C.ite rfl g (fun b13 g=>?_) fun b13 g=>?_
 refine C.skip (C.xs (C.block (C.ss ?_)))
 obtain⟨x16,y16,g⟩:=g
 refine U.ix T y16 ?_
 refine U.pd 2 T (C.xt ?_)
 refine U.pd 5 T (C.xt ?_)
 refine U.pd 2 T (C.nx ?_)
 refine C.ite rfl g (fun b23 g=>?_) fun b23 g=>?_
 refine U.start ?_
 exact g.elim
 refine C.skip (C.bnx (C.nx (U.start (U.pd 2 T (C.nx ?_)))))
 exact St.wk (C.next g) (Wk.e)
 refine C.exit (C.ex (C.ex (C.bex ?_)))
 exact St.wn (j8 _ g)
theorem Q0b (r:ApiRobot) (c0:Int) (post:Bool→Prop) (g:Xj r c0 post):
  Tr Tryz.prog 131 [.agg (Q0 r),.rp [.i c0]] [] 0 (pB post):=by
 refine Tr.go Tryz.func131 Tryz.ntmps131 fun _ _ _ _ o=>?_
 unfold Xj at g
 refine C.ss (U.bx ?_)
 refine U.pd 1 T (C.xt ?_)
 refine U.pd 5 T (C.nx (C.ret ?_))
 exact C.f1 T o (pBi g)
theorem KC (s_1:List ApiRobot) (f_c0:Int) (post:Int→Prop) (g:Qo s_1 f_c0 post):
  Tr Tryz.prog 82 [.sl 6 Q0 s_1,.fn (.func 131) [] [.rp [.i f_c0]]] [] 0 (pI post):=by
 refine Tr.go Tryz.func82 Tryz.ntmps82 fun _ _ _ _ o=>?_
 unfold Qo at g
 refine C.ss (U.pd 1 T (C.xs (C.ss ?_)))
 refine U.pd 3 T (C.nx ?_)
 refine C.jn (fun (x5:Unit)=>[]) (fun x5=>[]) 0 g (fun x5 g=>?_) fun J6 g j6=>?_
 refine C.xt (U.pd 1 T (C.nx (C.ret ?_)))
 exact C.f1 T o (pIi g)
 refine C.block (St.wk (C.loop (fun (s7:Int)=>[(0,.sl 6 Q0 s_1),(1,.fn (.func 131) [] [.rp [.i f_c0]]),(7,.i (s_1.length:Int)),(8,.i s7)]) (fun s7=>[]) g (fun s7 Y8 g=>?_)) (Wk.e))
 refine C.ss (U.pd 1 T (C.xs ?_))
 refine C.ite rfl g (fun b11 g=>?_) fun b11 g=>?_
 refine C.skip (C.xs (C.block (C.ss (U.pd 2 T (C.xt ?_)))))
 refine U.ps 3 T rfl ?_
 obtain⟨x16,y16,g⟩:=g
 refine U.ix T y16 ?_
 refine U.ps 1 T rfl (U.k (Q0b x16 f_c0 _ g) Qa5 (fun x17 g=>?_))
 refine U.done (C.nx ?_)
 refine C.ite rfl g (fun b18 g=>?_) fun b18 g=>?_
 refine C.ss (U.pd 2 T (C.nx (C.ret (C.brt (C.rt (C.rt (C.brt (C.rt ?_))))))))
 exact C.f1 T o (pIi g)
 refine C.skip (C.bnx (C.nx (U.start (U.pd 2 T (C.nx ?_)))))
 exact St.wk (C.next g) (Wk.e)
 refine C.exit (C.ex (C.ex (C.bex ?_)))
 exact St.wk (j6 _ g) (Wk.mk' [] rfl rfl trivial trivial rfl)
theorem Wq (st:ApiState) (shelf:Int) (post:Int→Prop) (g:KX st shelf post):
  Tr Tryz.prog 98 [.agg (Q1 st),.i shelf] [] 0 (pI post):=by
 refine Tr.go Tryz.func98 Tryz.ntmps98 fun _ _ _ _ o=>?_
 unfold KX at g
 refine C.ss (U.bx ?_)
 refine U.bx ?_
 refine U.pd 1 T (C.xs (C.ss ?_))
 refine U.pd 2 T (C.nx ?_)
 refine C.ite rfl g (fun b5 g=>?_) fun b5 g=>?_
 refine C.ss (U.pd 1 T (C.nx (C.ret (C.rt ?_))))
 exact C.f1 T o (pIi g)
 refine C.skip (C.xt (U.ps 3 T rfl (U.k (KC st.Robots shelf _ g) en82 (fun x10 g=>?_))))
 refine U.pd 1 T (C.nx (C.ret ?_))
 exact C.f1 T o (pIi g)
theorem GK (c:Int) (c0:ApiRobot) (post:Bool→Prop) (g:QZ c c0 post):
  Tr Tryz.prog 99 [.i c,.rp [.i c0.Cell,.i c0.Load,.i c0.Charge,.i c0.Rest,.i c0.Mute,.b c0.Dead]] [] 0 (pB post):=by
 refine Tr.go Tryz.func99 Tryz.ntmps99 fun _ _ _ _ o=>?_
 unfold QZ at g
 refine C.ss (U.pd 1 T (C.xt ?_))
 refine U.pd 5 T (C.nx (C.ret ?_))
 exact C.f1 T o (pBi g)
theorem X7 (s_1:List Int) (f_c0:ApiRobot) (post:Int→Prop) (g:QB s_1 f_c0 post):
  Tr Tryz.prog 94 [.sl 1 eI s_1,.fn (.func 99) [] [.rp [.i f_c0.Cell,.i f_c0.Load,.i f_c0.Charge,.i f_c0.Rest,.i f_c0.Mute,.b f_c0.Dead]]] [] 0 (pI post):=by
 refine Tr.go Tryz.func94 Tryz.ntmps94 fun _ _ _ _ o=>?_
 unfold QB at g
 refine C.ss (U.pd 1 T (C.xs (C.ss ?_)))
 refine U.pd 3 T (C.nx ?_)
 refine C.jn (fun (x5:Unit)=>[]) (fun x5=>[]) 0 g (fun x5 g=>?_) fun J6 g j6=>?_
 refine C.xt (U.pd 1 T (C.nx (C.ret ?_)))
 exact C.f1 T o (pIi g)
 refine C.block (St.wk (C.loop (fun (s7:Int)=>[(0,.sl 1 eI s_1),(1,.fn (.func 99) [] [.rp [.i f_c0.Cell,.i f_c0.Load,.i f_c0.Charge,.i f_c0.Rest,.i f_c0.Mute,.b f_c0.Dead]]),(7,.i (s_1.length:Int)),(8,.i s7)]) (fun s7=>[]) g (fun s7 Y8 g=>?_)) (Wk.e))
 refine C.ss (U.pd 1 T (C.xs ?_))
 refine C.ite rfl g (fun b11 g=>?_) fun b11 g=>?_
 refine C.skip (C.xs (C.block (C.ss (U.pd 2 T (C.xt ?_)))))
 refine U.ps 3 T rfl ?_
 obtain⟨x16,y16,g⟩:=g
 refine U.ix T y16 ?_
 refine U.ps 1 T rfl (U.k (GK x16 f_c0 _ g) en99 (fun x17 g=>?_))
 refine U.done (C.nx ?_)
 refine C.ite rfl g (fun b18 g=>?_) fun b18 g=>?_
 refine C.ss (U.pd 2 T (C.nx (C.ret (C.brt (C.rt (C.rt (C.brt (C.rt ?_))))))))
 exact C.f1 T o (pIi g)
 refine C.skip (C.bnx (C.nx (U.start (U.pd 2 T (C.nx ?_)))))
 exact St.wk (C.next g) (Wk.e)
 refine C.exit (C.ex (C.ex (C.bex ?_)))
 exact St.wk (j6 _ g) (Wk.mk' [] rfl rfl trivial trivial rfl)
theorem KW (del_c0:ApiRobot) (s_1:List Int) (post:(List Int)→Prop) (g:Qk del_c0 s_1 post):
  Tr Tryz.prog 89 [.o 0,.fn (.func 99) [] [.rp [.i del_c0.Cell,.i del_c0.Load,.i del_c0.Charge,.i del_c0.Rest,.i del_c0.Mute,.b del_c0.Dead]]] [(0,.val (.os 1 eI s_1))] 1 (fun A H' k=>∃y,post y∧A=(.o 1)∧H'=[(1,.val (.os 1 eI y))]∧k=2):=by
 refine Tr.go Tryz.func89 Tryz.ntmps89 fun _ _ _ _ o=>?_
 unfold Qk at g
 refine C.ss (U.pd 1 T (C.xt ?_))
 refine U.ps 2 T rfl (U.k (X7 s_1 del_c0 _ g) en94 (fun x5 g=>?_))
 refine U.pd 1 T (C.xs (C.ss ?_))
 refine U.pd 2 T (C.nx ?_)
 refine C.ite rfl g (fun b8 g=>?_) fun b8 g=>?_
 refine C.ss (U.pd 2 T (C.nx (C.ret (C.rt ?_))))
 exact C.g1 [some 0,some 0] T o ⟨s_1,g,rfl,rfl,rfl⟩
 refine C.skip (C.xs (C.ss (U.pd 3 T (C.nx ?_))))
 refine C.jn (fun (x13:List Int×Int)=>[(0,.o 0),(5,.i x13.2)]) (fun x13=>[(0,.val (.os 1 eI x13.1))]) 1 g (fun x13 g=>?_) fun J14 g j14=>?_
 refine C.xt (U.ps 2 T rfl ?_)
 obtain⟨y38,g⟩:=g
 refine U.r rfl (.none rfl) rfl rfl (by exact Rd.vw T rfl rfl rfl rfl rfl rfl (.some _ rfl) (.none _) y38) ?_
 obtain⟨y39,g⟩:=g
 refine U.e1 rfl (.none rfl) (by exact Eff1.clv T (z0:=0) rfl rfl rfl rfl rfl rfl rfl (fun _=>rfl) rfl y39) ?_
 refine U.done (C.xt (U.ps 2 T rfl ?_))
 obtain⟨y42,g⟩:=g
 refine U.e1 rfl (.none rfl) (by exact Eff1.sw T rfl rfl rfl rfl rfl rfl rfl rfl (.none _) (.some _ rfl) y42) ?_
 refine U.pd 1 T (C.nx (C.ret ?_))
 exact C.g1 (idR 2) T o ⟨(sub (x13.1.take (Int.toNat x13.2)++(List.replicate (Int.toNat ((x13.1.length:Int)-x13.2)) 0++x13.1.drop ((Int.toNat x13.2)+(Int.toNat ((x13.1.length:Int)-x13.2))))) 0 x13.2),g,rfl,rfl,rfl⟩
 refine C.block (St.wk (C.loop (fun (s15:List Int×Int×Int)=>[(0,.o 0),(1,.fn (.func 99) [] [.rp [.i del_c0.Cell,.i del_c0.Load,.i del_c0.Charge,.i del_c0.Rest,.i del_c0.Mute,.b del_c0.Dead]]),(5,.i s15.2.1),(6,.i s15.2.2)]) (fun s15=>[(0,.val (.os 1 eI s15.1))]) g (fun s15 Y16 g=>?_)) (Wk.a [some 0]))
 refine C.seq (C.ss (U.pd 4 T (C.nx ?_)))
 refine C.ite rfl g (fun b19 g=>?_) fun b19 g=>?_
 refine C.skip (C.xs (C.block (C.ss (U.ps 2 T rfl ?_))))
 obtain⟨x22,y22,g⟩:=g
 refine U.r rfl (.none rfl) rfl rfl (by exact Rd.io T rfl rfl rfl rfl rfl rfl rfl y22) ?_
 refine U.r rfl (.none rfl) rfl rfl (by exact Rd.le T rfl rfl rfl (Qe y22).2.2 rfl rfl rfl) ?_
 refine U.pd 1 T (C.xt ?_)
 refine U.ps 2 T rfl (U.k (GK x22 del_c0 _ g) en99 (fun x25 g=>?_))
 refine U.pd 1 T (C.nx ?_)
 refine C.jn (fun (x26:List Int×Int)=>[(0,.o 0),(1,.fn (.func 99) [] [.rp [.i del_c0.Cell,.i del_c0.Load,.i del_c0.Charge,.i del_c0.Rest,.i del_c0.Mute,.b del_c0.Dead]]),(5,.i x26.2),(6,.i s15.2.2)]) (fun x26=>[(0,.val (.os 1 eI x26.1))]) 1 g (fun x26 g=>?_) fun J27 g j27=>?_
 refine C.bnx (C.nx (U.start (U.pd 3 T (C.nx ?_))))
 exact St.wk (C.next g) (Wk.a [some 0])
 refine C.ite rfl g (fun b28 g=>?_) fun b28 g=>?_
 refine C.ss (U.ps 3 T rfl ?_)
 obtain⟨x31,y31,g⟩:=g
 refine U.r rfl (.none rfl) rfl rfl (by exact Rd.io T rfl rfl rfl rfl rfl rfl rfl y31) ?_
 refine U.e1 rfl (.none rfl) (by exact Eff1.se T (z':=x22) rfl rfl rfl (Qe y31).2.2 rfl rfl rfl rfl rfl rfl rfl rfl (fun _=>rfl) rfl) ?_
 refine U.done (C.nx (U.start (U.pd 3 T ?_)))
 exact St.wa [some 0] (j27 _ g)
 refine C.skip ?_
 exact St.wa [some 0] (j27 _ g)
 refine C.exit (C.ex (C.ex (C.bex ?_)))
 exact St.wa [some 0] (j14 _ g)
theorem WO (f:ApiFloor) (post:Int→Prop) (g:Kn f post):
  Tr Tryz.prog 72 [.agg (Qc f)] [] 0 (pI post):=by
 refine Tr.go Tryz.func72 Tryz.ntmps72 fun _ _ _ _ o=>?_
 unfold Kn at g
 refine C.ss (U.bx ?_)
 refine U.pd 1 T (C.xt ?_)
 refine U.pd 9 T (C.nx (C.ret ?_))
 exact C.f1 T o (pIi g)
theorem GN (f:ApiFloor) (c:Int) (post:Bool→Prop) (g:KT f c post):
  Tr Tryz.prog 103 [.agg (Qc f),.i c] [] 0 (pB post):=by
 refine Tr.go Tryz.func103 Tryz.ntmps103 fun _ _ _ _ o=>?_
 unfold KT at g
 refine C.ss (U.bx ?_)
 refine U.pd 1 T (C.xs ?_)
 refine C.jn (fun (x3:Bool)=>[(4,.b x3)]) (fun x3=>[]) 0 g (fun x3 g=>?_) fun J4 g j4=>?_
 refine C.nx (C.ret ?_)
 exact C.f1 T o (pBi g)
 refine U.start (U.ps 3 T rfl ?_)
 refine g.cs (fun b5 g=>?_) fun b5 g=>?_
 refine U.pq 2 2 true 7 b5 T ?_
 refine U.k (WO f _ g) en72 (fun x6 g=>?_) (hw:=.take 2 true 7 _ b5 rfl rfl rfl)
 refine U.pq 1 2 true 7 b5 T ?_
 refine U.pk b5 ?_
 refine U.pd 1 T ?_
 exact St.wn (j4 _ g)
 refine U.sk' 4 2 true 7 b5 ?_
 refine U.pk' b5 ?_
 refine U.pd 1 T ?_
 exact St.wn (j4 _ g)
theorem Gb (c:Int) (n:Int) (c0:List Bool) (c1:List Int) (c2:List Int) (post:(List Bool×List Int×List Int)→Prop) (g:QG c n c0 c1 c2 post):
  Tr Tryz.prog 166 [.i c,.i n,.p 0 0,.p 2 0,.p 4 0] [(0,.box [.o 1]),(1,.val (.os 1 eB c0)),(2,.box [.o 3]),(3,.val (.os 1 eI c1)),(4,.box [.o 5]),(5,.val (.os 1 eI c2))] 6 (fun A H' k=>∃y,post y∧A=(.tup [])∧H'=[(0,.box [.o 6]),(2,.box [.o 7]),(4,.box [.o 8]),(6,.val (.os 1 eB y.1)),(7,.val (.os 1 eI y.2.1)),(8,.val (.os 1 eI y.2.2))]∧k=9):=by
 refine Tr.go Tryz.func166 Tryz.ntmps166 fun _ _ _ _ o=>?_
 unfold QG at g
 refine C.ss (U.ps 2 T rfl ?_)
 obtain⟨x3,y3,g⟩:=g
 refine U.r rfl (.none rfl) rfl rfl (by exact Rd.io T rfl rfl rfl rfl rfl rfl rfl y3) ?_
 refine U.r rfl (.none rfl) rfl rfl (by exact Rd.le T rfl rfl rfl (Qe y3).2.2 rfl rfl rfl) ?_
 refine U.done (C.nx ?_)
 refine C.jn (fun (x4:List Bool×List Int×List Int)=>[]) (fun x4=>[(0,.box [.o 1]),(1,.val (.os 1 eB x4.1)),(2,.box [.o 3]),(3,.val (.os 1 eI x4.2.1)),(4,.box [.o 6]),(6,.val (.os 1 eI x4.2.2))]) 7 g (fun x4 g=>?_) fun J5 g j5=>?_
 exact C.fg [some 0,some 1,some 2,some 3,some 4,some 5,some 1,some 3,some 6] T o ⟨(x4.1,x4.2.1,x4.2.2),g,rfl,rfl,rfl⟩
 refine C.ite rfl g (fun b6 g=>?_) fun b6 g=>?_
 refine C.seq (D.bq mix 8 [0,2] [1] (fun hQ hS ws M'=>?_))
 refine D.pq 5 (zl [0,1,2,3,4]) T ?_
 refine D.q 5 [] hQ hS rfl (.none rfl) rfl rfl (by exact Rd.io T rfl rfl rfl rfl rfl rfl rfl y3) rfl (by kernel_rfl) ?_
 refine D.e1 6 rfl (.none rfl) (by exact Eff1.se T (z':=false) rfl rfl rfl (Qe y3).2.2 rfl rfl rfl rfl rfl rfl rfl rfl (fun _=>rfl) rfl) (by kernel_rfl) rfl rfl ?_
 obtain⟨x9,y9,g⟩:=g
 refine D.q 7 [] hQ hS rfl (.none rfl) rfl rfl (by exact Rd.io T rfl rfl rfl rfl rfl rfl rfl y9) rfl (by kernel_rfl) ?_
 refine D.ze1 rfl (.none rfl) (by exact Eff1.se T (z':=n) rfl rfl rfl (Qe y9).2.2 rfl rfl rfl rfl rfl rfl rfl rfl (fun _=>rfl) rfl) (by kernel_rfl) (by kernel_rfl) ?_
 refine C.nx (U.start (U.ps 2 T rfl (U.bs T eI ([c]:List Int) ?_)))
 obtain⟨y12,g⟩:=g
 refine U.ap T y12 ?_
 refine U.st T ?_
 refine U.done ?_
 exact St.wk (j5 _ g) (Wk.mk' [some 0,some 1,some 2,some 3,some 4,some 5,some 7] rfl rfl trivial ⟨bX,vL,bX,vL,bX,vL,trivial⟩ rfl)
 refine C.skip ?_
 exact St.wk (j5 _ g) (Wk.mk' [some 0,some 1,some 2,some 3,some 4,some 5,some 5] rfl rfl trivial ⟨bX,vL,bX,vL,bX,vL,trivial⟩ rfl)
theorem Q0T (d:Int) (post:Int→Prop) (g:XE d post):
  Tr Tryz.prog 167 [.i d] [] 0 (pI post):=by
 refine Tr.go Tryz.func167 Tryz.ntmps167 fun _ _ _ _ o=>?_
 unfold XE at g
 refine C.ss (U.pd 1 T (C.xs (C.seq ?_)))
 refine C.jn (fun (x3:Bool)=>[(0,.i d),(8,.b x3)]) (fun x3=>[]) 0 g (fun x3 g=>?_) fun J4 g j4=>?_
 refine C.nx ?_
 refine C.ite rfl g (fun b6 g=>?_) fun b6 g=>?_
 refine C.ss (U.pd 1 T (C.nx (C.ret (C.rt ?_))))
 exact C.f1 T o (pIi g)
 refine C.skip (C.xt (U.ps 2 T rfl ?_))
 obtain⟨x11,y11,g⟩:=g
 refine U.r rfl (.none rfl) rfl rfl (by exact Rd.ia1 T (enc:=eI) rfl rfl rfl rfl rfl rfl rfl rfl rfl (fun _=>rfl) rfl y11) ?_
 refine U.pd 1 T (C.nx (C.ret ?_))
 exact C.f1 T o (pIi g)
 refine U.start (U.ps 3 T rfl ?_)
 refine g.cs (fun b5 g=>?_) fun b5 g=>?_
 refine U.sk' 2 2 false 5 b5 ?_
 refine U.pk b5 ?_
 refine U.done ?_
 exact St.wn (j4 _ g)
 refine U.pq 2 2 false 5 b5 T ?_
 refine U.pk' b5 ?_
 refine U.done ?_
 exact St.wn (j4 _ g)
theorem Q1W (f:ApiFloor) (c:Int) (post:(Int×Int×Int)→Prop) (g:Wn f c post):
  Tr Tryz.prog 78 [.agg (Qc f),.i c] [] 0 (fun A H' k=>∃y,post y∧A=(.tup [.i y.1,.i y.2.1,.i y.2.2])∧H'=[]∧k=0):=by
 refine Tr.go Tryz.func78 Tryz.ntmps78 fun _ _ _ _ o=>?_
 unfold Wn at g
 refine C.ss (U.bx ?_)
 refine U.pd 3 T (C.xs (C.ss ?_))
 refine U.ps 2 T rfl (U.k (GN f c _ g) Q4c (fun x5 g=>?_))
 refine U.pd 1 T (C.nx ?_)
 refine C.ite rfl g (fun b6 g=>?_) fun b6 g=>?_
 refine C.ss (U.pd 3 T (C.nx (C.ret (C.rt ?_))))
 exact C.f9 T o ⟨(0,0,0),g,rfl,rfl,rfl⟩
 refine C.skip (C.xs (D.bq mix 9999 [0] [] (fun hQ hS ws M'=>?_)))
 refine D.pq 3 (zl [0,1,2]) T ?_
 obtain⟨y11,g⟩:=g
 refine D.q 3 [] hQ hS rfl (.none rfl) rfl rfl (by exact Rd.rm rfl rfl rfl rfl y11) rfl (by kernel_rfl) ?_
 refine D.pq 3 (zl [4,5,6]) T ?_
 obtain⟨y12,g⟩:=g
 refine D.q 7 [] hQ hS rfl (.none rfl) rfl rfl (by exact Rd.dv rfl rfl rfl rfl y12) rfl (by kernel_rfl) ?_
 refine D.pq 2 (zl [8,9]) T ?_
 obtain⟨y13,g⟩:=g
 refine D.q 10 [] hQ hS rfl (.none rfl) rfl rfl (by exact Rd.rm rfl rfl rfl rfl y13) rfl (by kernel_rfl) ?_
 refine D.pq 6 (zl [11,12,13,14,15,16]) T ?_
 obtain⟨y14,g⟩:=g
 refine D.q 17 [] hQ hS rfl (.none rfl) rfl rfl (by exact Rd.dv rfl rfl rfl rfl y14) rfl (by kernel_rfl) ?_
 refine D.pq 3 (zl [18,19,20]) T ?_
 refine D.done (by kernel_rfl) ?_
 refine C.nx (C.ret ?_)
 exact C.f9 T o ⟨(c.tmod f.W,(w64 (c.tdiv f.W)).tmod f.H,w64 (c.tdiv (w64 (f.W*f.H)))),g,rfl,rfl,rfl⟩
theorem Q2y (post:Wg→Prop) (g:Wf post):
  Tr Tryz.prog 104 [] [] 0 (fun A H' k=>∃y,post y∧A=(.agg [.i y.e0.x,.i y.e0.y,.i y.e0.z,.i y.e1.x,.i y.e1.y,.i y.e1.z,.i y.e2.x,.i y.e2.y,.i y.e2.z,.i y.e3.x,.i y.e3.y,.i y.e3.z,.i y.e4.x,.i y.e4.y,.i y.e4.z,.i y.e5.x,.i y.e5.y,.i y.e5.z])∧H'=[]∧k=0):=by
 refine Tr.go Tryz.func104 Tryz.ntmps104 fun _ _ _ _ o=>?_
 unfold Wf at g
 refine C.ss (U.al T ?_)
 refine U.done (C.xt (U.ps 7 T rfl (U.st T ?_)))
 refine U.done (C.nx (C.ret ?_))
 exact C.f1 T o ⟨({e0:=({x:=1,y:=0,z:=0:Kh}),e1:=({x:=0,y:=1,z:=0:Kh}),e2:=({x:=(-1),y:=0,z:=0:Kh}),e3:=({x:=0,y:=(-1),z:=0:Kh}),e4:=({x:=0,y:=0,z:=1:Kh}),e5:=({x:=0,y:=0,z:=(-1):Kh}):Wg}),g,rfl,rfl,rfl⟩
theorem GV (f:ApiFloor) (x_1:Int) (y_1:Int) (z:Int) (post:Int→Prop) (g:X9 f x_1 y_1 z post):
  Tr Tryz.prog 79 [.agg (Qc f),.i x_1,.i y_1,.i z] [] 0 (pI post):=by
 refine Tr.go Tryz.func79 Tryz.ntmps79 fun _ _ _ _ o=>?_
 unfold X9 at g
 refine C.ss (U.bx ?_)
 refine U.pd 1 T (C.xs (C.seq ?_))
 refine C.jn (fun (x3:Bool)=>[(1,.i x_1),(2,.i y_1),(3,.i z),(4,.p 0 0),(31,.b x3)]) (fun x3=>[(0,.box (Qc f))]) 1 g (fun x3 g=>?_) fun J4 g j4=>?_
 refine C.nx ?_
 refine C.ite rfl g (fun b8 g=>?_) fun b8 g=>?_
 refine C.ss (U.pd 1 T (C.nx (C.ret (C.rt ?_))))
 exact C.f1 T o (pIi g)
 refine C.skip (C.xt (U.pd 12 T (C.nx (C.ret ?_))))
 exact C.f1 T o (pIi g)
 refine U.start (U.ps 6 T rfl ?_)
 refine g.cs (fun b5 g=>?_) fun b5 g=>?_
 refine U.sk' 4 5 false 14 b5 ?_
 refine U.pk b5 ?_
 refine U.ps 1 T rfl (U.sk' 4 11 false 20 rfl ?_)
 refine U.pk rfl ?_
 refine U.ps 1 T rfl (U.sk' 4 17 false 26 rfl ?_)
 refine U.pk rfl ?_
 refine U.done ?_
 exact St.wa [some 0] (j4 _ g)
 refine U.pq 4 5 false 14 b5 T ?_
 refine U.pk' b5 ?_
 refine U.ps 1 T rfl ?_
 refine g.cs (fun b6 g=>?_) fun b6 g=>?_
 refine U.sk' 4 11 false 20 b6 ?_
 refine U.pk b6 ?_
 refine U.ps 1 T rfl (U.sk' 4 17 false 26 rfl ?_)
 refine U.pk rfl ?_
 refine U.done ?_
 exact St.wa [some 0] (j4 _ g)
 refine U.pq 4 11 false 20 b6 T ?_
 refine U.pk' b6 ?_
 refine U.ps 1 T rfl ?_
 refine g.cs (fun b7 g=>?_) fun b7 g=>?_
 refine U.sk' 4 17 false 26 b7 ?_
 refine U.pk b7 ?_
 refine U.done ?_
 exact St.wa [some 0] (j4 _ g)
 refine U.pq 4 17 false 26 b7 T ?_
 refine U.pk' b7 ?_
 refine U.done ?_
 exact St.wa [some 0] (j4 _ g)
theorem WV (f:ApiFloor) (c:Int) (d:Int) (post:Int→Prop) (g:KP f c d post):
  Tr Tryz.prog 64 [.agg (Qc f),.i c,.i d] [] 0 (pI post):=by
 refine Tr.go Tryz.func64 Tryz.ntmps64 fun _ _ _ _ o=>?_
 unfold KP at g
 refine C.ss (U.bx ?_)
 refine U.pd 1 T (C.xs (C.seq ?_))
 refine C.jn (fun (x3:Bool)=>[(1,.i c),(2,.i d),(3,.p 0 0),(22,.b x3)]) (fun x3=>[(0,.box (Qc f))]) 1 g (fun x3 g=>?_) fun J4 g j4=>?_
 refine C.nx ?_
 refine C.ite rfl g (fun b8 g=>?_) fun b8 g=>?_
 refine C.ss (U.pd 1 T (C.nx (C.ret (C.rt ?_))))
 exact C.f1 T o (pIi g)
 refine C.skip (C.xt (U.ps 2 T rfl (U.k (Q1W f c _ g) en78 (fun x13 g=>?_))))
 refine U.pd 7 T (C.xt ?_)
 refine U.k (Q2y _ g) Qau fun x16 g=>?_
 refine U.ps 1 T rfl ?_
 obtain⟨x17,y17,g⟩:=g
 refine U.r rfl (.none rfl) rfl rfl (by exact Rd.ia T (enc:=Q5j) rfl rfl rfl rfl rfl rfl rfl rfl rfl (fun _ _=>rfl) y17) ?_
 refine U.al T ?_
 refine U.st T ?_
 refine U.done (C.xt (U.ps 13 T rfl (U.k (GV f (w64 (x13.1+x17.x)) (w64 (x13.2.1+x17.y)) (w64 (x13.2.2+x17.z)) _ g) en79 (fun x20 g=>?_))))
 refine U.pd 1 T (C.nx (C.ret ?_))
 exact C.f1 T o (pIi g)
 refine U.start (U.ps 2 T rfl (U.k (GN f c _ g) Q4c (fun x5 g=>?_)))
 refine U.ps 2 T rfl ?_
 refine g.cs (fun b6 g=>?_) fun b6 g=>?_
 refine U.pq 2 4 false 15 (ntF b6) T ?_
 refine U.pk' (ntF b6) ?_
 refine U.ps 1 T rfl ?_
 refine g.cs (fun b7 g=>?_) fun b7 g=>?_
 refine U.sk' 2 8 false 19 b7 ?_
 refine U.pk b7 ?_
 refine U.done ?_
 exact St.wa [some 0] (j4 _ g)
 refine U.pq 2 8 false 19 b7 T ?_
 refine U.pk' b7 ?_
 refine U.done ?_
 exact St.wa [some 0] (j4 _ g)
 refine U.sk' 2 4 false 15 (ntT b6) ?_
 refine U.pk (ntT b6) ?_
 refine U.ps 1 T rfl (U.sk' 2 8 false 19 rfl ?_)
 refine U.pk rfl ?_
 refine U.done ?_
 exact St.wa [some 0] (j4 _ g)
theorem Gx (f:ApiFloor) (c:Int) (d:Int) (post:(Int×Bool)→Prop) (g:Kx f c d post):
  Tr Tryz.prog 24 [.agg (Qc f),.i c,.i d] [] 0 (fun A H' k=>∃y,post y∧A=(.tup [.i y.1,.b y.2])∧H'=[]∧k=0):=by
 refine Tr.go Tryz.func24 Tryz.ntmps24 fun _ _ _ _ o=>?_
 unfold Kx at g
 refine C.ss (U.bx ?_)
 refine U.pd 2 T (C.xt ?_)
 refine U.ps 3 T rfl (U.k (WV f c d _ g) en64 (fun x5 g=>?_))
 refine U.pd 1 T (C.xs (C.seq ?_))
 refine C.jn (fun (x6:Bool)=>[(1,.i c),(2,.i d),(3,.p 0 0),(8,.i x5),(41,.b x6)]) (fun x6=>[(0,.box (Qc f))]) 1 g (fun x6 g=>?_) fun J7 g j7=>?_
 refine C.nx ?_
 refine C.ite rfl g (fun b15 g=>?_) fun b15 g=>?_
 refine C.ss (U.pd 2 T (C.nx (C.ret (C.rt ?_))))
 exact C.f9 T o ⟨(0,false),g,rfl,rfl,rfl⟩
 refine C.skip (C.xs (C.seq ?_))
 refine C.jn (fun (x18:Bool)=>[(8,.i x5),(63,.b x18)]) (fun x18=>[]) 0 g (fun x18 g=>?_) fun J19 g j19=>?_
 refine C.nx ?_
 refine C.ite rfl g (fun b28 g=>?_) fun b28 g=>?_
 refine C.ss (U.pd 2 T (C.nx (C.ret (C.rt ?_))))
 exact C.f9 T o ⟨(0,false),g,rfl,rfl,rfl⟩
 refine C.skip (C.xt (U.pd 3 T (C.nx (C.ret ?_))))
 exact C.f9 T o ⟨(x5,true),g,rfl,rfl,rfl⟩
 refine U.start (U.ps 3 T rfl ?_)
 refine g.cs (fun b20 g=>?_) fun b20 g=>?_
 refine U.sk' 2 2 false 44 b20 ?_
 refine U.pk b20 ?_
 refine U.ps 1 T rfl (U.pq 3 6 true 48 rfl T ?_)
 obtain⟨x21,y21,g⟩:=g
 refine U.r rfl (.tk 6 true 48 rfl) rfl rfl (by exact Rd.ix T rfl rfl rfl rfl rfl rfl y21) ?_
 refine U.pq 3 6 true 48 rfl T ?_
 refine g.cs (fun b22 g=>?_) fun b22 g=>?_
 refine U.sk' 6 13 false 55 b22 ?_
 refine U.r rfl (.tk 6 true 48 rfl) rfl rfl (by exact Rd.pk rfl rfl b22 rfl) ?_
 refine U.pk rfl ?_
 refine U.done ?_
 exact St.wn (j19 _ g)
 refine U.pq 3 13 false 55 b22 T ?_
 obtain⟨x23,y23,g⟩:=g
 refine U.r rfl (.tk 13 false 55 b22) rfl rfl (by exact Rd.ix T rfl rfl rfl rfl rfl rfl y23) ?_
 refine U.pq 2 13 false 55 b22 T ?_
 refine U.r rfl (.tk 6 true 48 rfl) rfl rfl (by exact Rd.pk' rfl rfl b22 rfl) ?_
 refine U.pk rfl ?_
 refine U.done ?_
 exact St.wn (j19 _ g)
 refine U.pq 2 2 false 44 b20 T ?_
 refine U.pk' b20 ?_
 refine U.ps 1 T rfl ?_
 refine g.cs (fun b24 g=>?_) fun b24 g=>?_
 refine U.pq 3 6 true 48 b24 T ?_
 obtain⟨x25,y25,g⟩:=g
 refine U.r rfl (.tk 6 true 48 b24) rfl rfl (by exact Rd.ix T rfl rfl rfl rfl rfl rfl y25) ?_
 refine U.pq 3 6 true 48 b24 T ?_
 refine g.cs (fun b26 g=>?_) fun b26 g=>?_
 refine U.sk' 6 13 false 55 b26 ?_
 refine U.r rfl (.tk 6 true 48 b24) rfl rfl (by exact Rd.pk rfl rfl b26 rfl) ?_
 refine U.pk b24 ?_
 refine U.done ?_
 exact St.wn (j19 _ g)
 refine U.pq 3 13 false 55 b26 T ?_
 obtain⟨x27,y27,g⟩:=g
 refine U.r rfl (.tk 13 false 55 b26) rfl rfl (by exact Rd.ix T rfl rfl rfl rfl rfl rfl y27) ?_
 refine U.pq 2 13 false 55 b26 T ?_
 refine U.r rfl (.tk 6 true 48 b24) rfl rfl (by exact Rd.pk' rfl rfl b26 rfl) ?_
 refine U.pk b24 ?_
 refine U.done ?_
 exact St.wn (j19 _ g)
 refine U.sk' 7 6 true 48 b24 ?_
 refine U.sku 6 13 false 55 rfl rfl rfl ?_
 refine U.sk' 1 6 true 48 b24 ?_
 refine U.pk' b24 ?_
 refine U.done ?_
 exact St.wn (j19 _ g)
 refine U.start (U.ps 3 T rfl ?_)
 refine g.cs (fun b8 g=>?_) fun b8 g=>?_
 refine U.sk' 6 2 false 15 b8 ?_
 refine U.pk b8 ?_
 refine U.ps 1 T rfl (U.sk' 6 10 false 23 rfl ?_)
 refine U.pk rfl ?_
 refine U.ps 1 T rfl (U.sk' 9 18 false 31 rfl ?_)
 refine U.pk rfl ?_
 refine U.done ?_
 exact St.wa [some 0] (j7 _ g)
 refine U.pq 3 2 false 15 b8 T ?_
 obtain⟨x9,y9,g⟩:=g
 refine U.r rfl (.tk 2 false 15 b8) rfl rfl (by exact Rd.ix T rfl rfl rfl rfl rfl rfl y9) ?_
 refine U.pq 2 2 false 15 b8 T ?_
 refine U.pk' b8 ?_
 refine U.ps 1 T rfl ?_
 refine g.cs (fun b10 g=>?_) fun b10 g=>?_
 refine U.sk' 6 10 false 23 b10 ?_
 refine U.pk b10 ?_
 refine U.ps 1 T rfl (U.sk' 9 18 false 31 rfl ?_)
 refine U.pk rfl ?_
 refine U.done ?_
 exact St.wa [some 0] (j7 _ g)
 refine U.pq 3 10 false 23 b10 T ?_
 obtain⟨x11,y11,g⟩:=g
 refine U.r rfl (.tk 10 false 23 b10) rfl rfl (by exact Rd.ix T rfl rfl rfl rfl rfl rfl y11) ?_
 refine U.pq 2 10 false 23 b10 T ?_
 refine U.pk' b10 ?_
 refine U.ps 1 T rfl ?_
 refine g.cs (fun b12 g=>?_) fun b12 g=>?_
 refine U.sk' 9 18 false 31 b12 ?_
 refine U.pk b12 ?_
 refine U.done ?_
 exact St.wa [some 0] (j7 _ g)
 refine U.pq 3 18 false 31 b12 T ?_
 obtain⟨x13,y13,g⟩:=g
 refine U.r rfl (.tk 18 false 31 b12) rfl rfl (by exact Rd.ix T rfl rfl rfl rfl rfl rfl y13) ?_
 refine U.pq 2 18 false 31 b12 T ?_
 obtain⟨y14,g⟩:=g
 refine U.r rfl (.tk 18 false 31 b12) rfl rfl (by exact Rd.sh rfl rfl rfl rfl y14) ?_
 refine U.pq 2 18 false 31 b12 T ?_
 refine U.pk' b12 ?_
 refine U.done ?_
 exact St.wa [some 0] (j7 _ g)
theorem Q3w (f:ApiFloor) (c:Int) (d:Int) (post:(Int×Bool)→Prop) (g:Gs f c d post):
  Tr Tryz.prog 133 [.agg (Qc f),.i c,.i d] [] 0 (fun A H' k=>∃y,post y∧A=(.tup [.i y.1,.b y.2])∧H'=[]∧k=0):=by
 refine Tr.go Tryz.func133 Tryz.ntmps133 fun _ _ _ _ o=>?_
 unfold Gs at g
 refine C.ss (U.bx ?_)
 refine U.pd 2 T (C.xs ?_)
 refine D.bq mix 9999 [0] [] (fun hQ hS ws M'=>?_)
 refine D.pq 3 (zl [0,1,2]) T ?_
 refine D.k 3 (Q0T d _ g) Qad fun x5 g=>?_
 refine D.k 4 (WV f c x5 _ g) en64 fun x6 g=>?_
 refine D.pq 1 [(5,[])] T ?_
 refine D.done (by kernel_rfl) ?_
 refine C.xs (C.ss (U.pd 2 T (C.nx ?_)))
 refine C.ite rfl g (fun b9 g=>?_) fun b9 g=>?_
 refine C.ss (U.pd 2 T (C.nx (C.ret (C.rt ?_))))
 exact C.f9 T o ⟨(0,false),g,rfl,rfl,rfl⟩
 refine C.skip (C.xs (C.ss (U.ps 3 T rfl (U.k (Gx f x6 d _ g) en24 (fun x14 g=>?_)))))
 refine U.pd 5 T (C.xt ?_)
 refine U.pd 2 T (C.nx ?_)
 refine C.ite rfl g (fun b17 g=>?_) fun b17 g=>?_
 refine C.ss (U.pd 2 T (C.nx (C.ret (C.rt ?_))))
 exact C.f9 T o ⟨(0,false),g,rfl,rfl,rfl⟩
 refine C.skip (C.xt (U.pd 3 T (C.nx (C.ret ?_))))
 exact C.f9 T o ⟨(x6,true),g,rfl,rfl,rfl⟩
theorem WI (f:ApiFloor) (from_1:List Int) (avoid:List Int) (post:(List Int)→Prop) (g:Ko f from_1 avoid post):
  Tr Tryz.prog 132 [.agg (Qc f),.sl 1 eI from_1,.sl 1 eI avoid,.fn (.func 133) [] []] [] 0 (fun A H' k=>∃y,post y∧A=(.o 0)∧H'=[(0,.val (.os 1 eI y))]∧k=1):=by
 refine Tr.go Tryz.func132 Tryz.ntmps132 fun _ _ _ _ o=>?_
 unfold Ko at g
 refine C.ss (U.bx ?_)
 refine U.pd 1 T (C.xt ?_)
 refine U.ps 1 T rfl (U.k (WO f _ g) en72 (fun x5 g=>?_))
 obtain⟨y6,g⟩:=g
 refine U.e1 rfl (.none rfl) (by exact Eff1.mk T (enc:=eI) (z0:=0) rfl rfl rfl rfl rfl rfl rfl rfl rfl rfl y6) ?_
 refine U.al T ?_
 refine U.st T ?_
 refine U.done (C.xt (U.ps 1 T rfl (U.k (WO f _ g) en72 (fun x9 g=>?_))))
 obtain⟨y10,g⟩:=g
 refine U.e1 rfl (.none rfl) (by exact Eff1.mk T (enc:=eB) (z0:=false) rfl rfl rfl rfl rfl rfl rfl rfl rfl rfl y10) ?_
 refine U.al T ?_
 refine U.st T ?_
 refine U.done (C.xs (C.ss (U.pd 4 T (C.nx ?_))))
 refine C.jn (fun (x13:List Int×List Bool)=>[(1,.sl 1 eI from_1),(2,.sl 1 eI avoid),(3,.fn (.func 133) [] []),(4,.p 0 0),(9,.p 1 0),(10,.p 3 0)]) (fun x13=>[(0,.box (Qc f)),(1,.box [.o 2]),(2,.val (.os 1 eI x13.1)),(3,.box [.o 4]),(4,.val (.os 1 eB x13.2))]) 5 g (fun x13 g=>?_) fun J14 g j14=>?_
 refine C.xs (C.ss (U.pd 3 T (C.nx ?_)))
 refine C.jn (fun (x31:List Bool)=>[(1,.sl 1 eI from_1),(3,.fn (.func 133) [] []),(4,.p 0 0),(9,.p 1 0),(10,.p 3 0)]) (fun x31=>[(0,.box (Qc f)),(1,.box [.o 2]),(2,.val (.os 1 eI x13.1)),(3,.box [.o 4]),(4,.val (.os 1 eB x31))]) 5 g (fun x31 g=>?_) fun J32 g j32=>?_
 refine C.xt (U.al T ?_)
 refine U.done (C.xt (U.pd 2 T (C.xs (C.ss ?_))))
 refine U.pd 3 T (C.nx ?_)
 refine C.jn (fun (x58:List Int×List Int×List Bool)=>[(3,.fn (.func 133) [] []),(4,.p 0 0),(9,.p 1 0),(15,.p 3 0),(16,.fn (.func 166) [] [.p 5 0,.p 1 0,.p 3 0])]) (fun x58=>[(0,.box (Qc f)),(1,.box [.o 2]),(2,.val (.os 1 eI x58.1)),(3,.box [.o 4]),(4,.val (.os 1 eI x58.2.1)),(5,.box [.o 6]),(6,.val (.os 1 eB x58.2.2))]) 7 g (fun x58 g=>?_) fun J59 g j59=>?_
 refine C.xs ?_
 refine C.jn (fun (x79:List Int)=>[(9,.p 0 0)]) (fun x79=>[(0,.box [.o 1]),(1,.val (.os 1 eI x79))]) 2 g (fun x79 g=>?_) fun J80 g j80=>?_
 refine C.xt (U.pd 2 T (C.nx (C.ret ?_)))
 exact C.g1 [some 1] T o ⟨x79,g,rfl,rfl,rfl⟩
 refine C.block ?_
 refine St.wk (C.loop (fun (s81:List Int×List Int×List Bool)=>[(3,.fn (.func 133) [] []),(4,.p 0 0),(9,.p 1 0),(15,.p 3 0),(16,.fn (.func 166) [] [.p 5 0,.p 1 0,.p 3 0])]) (fun s81=>[(0,.box (Qc f)),(1,.box [.o 2]),(2,.val (.os 1 eI s81.1)),(3,.box [.o 4]),(4,.val (.os 1 eI s81.2.1)),(5,.box [.o 6]),(6,.val (.os 1 eB s81.2.2))]) g (fun s81 Y82 g=>?_)) (Wk.a (idR 7))
 refine C.seq (C.ss (U.pd 3 T (C.nx ?_)))
 refine C.ite rfl g (fun b85 g=>?_) fun b85 g=>?_
 refine C.skip (C.nx ?_)
 refine C.jn (fun (x86:List Int×List Int×List Bool)=>[(3,.fn (.func 133) [] []),(4,.p 0 0),(9,.p 1 0),(15,.p 3 0),(16,.fn (.func 166) [] [.p 5 0,.p 1 0,.p 3 0])]) (fun x86=>[(0,.box (Qc f)),(1,.box [.o 2]),(2,.val (.os 1 eI x86.1)),(3,.box [.o 4]),(4,.val (.os 1 eI x86.2.1)),(5,.box [.o 6]),(6,.val (.os 1 eB x86.2.2))]) 7 g (fun x86 g=>?_) fun J87 g j87=>?_
 refine C.nx ?_
 exact St.wk (C.next g) (Wk.a (idR 7))
 refine C.block (C.ss (U.ps 1 T rfl ?_))
 obtain⟨x90,y90,g⟩:=g
 refine U.r rfl (.none rfl) rfl rfl (by exact Rd.io T rfl rfl rfl rfl rfl rfl rfl y90) ?_
 refine U.r rfl (.none rfl) rfl rfl (by exact Rd.le T rfl rfl rfl (Qe y90).2.2 rfl rfl rfl) ?_
 refine U.pd 1 T (C.xt ?_)
 refine U.ps 1 T rfl ?_
 obtain⟨y93,g⟩:=g
 refine U.e1 rfl (.none rfl) (by exact Eff1.sw T rfl rfl rfl rfl rfl rfl rfl rfl (.some _ rfl) (.none _) y93) ?_
 refine U.st T ?_
 refine U.done (C.xt (U.pd 1 T (C.nx ?_)))
 refine C.jn (fun (x96:List Int×List Int×List Bool)=>[(3,.fn (.func 133) [] []),(4,.p 0 0),(9,.p 1 0),(15,.p 3 0),(16,.fn (.func 166) [] [.p 5 0,.p 1 0,.p 3 0])]) (fun x96=>[(0,.box (Qc f)),(1,.box [.o 2]),(2,.val (.os 1 eI x96.1)),(3,.box [.o 4]),(4,.val (.os 1 eI x96.2.1)),(5,.box [.o 6]),(6,.val (.os 1 eB x96.2.2))]) 7 g (fun x96 g=>?_) fun J97 g j97=>?_
 refine C.bnx ?_
 exact St.wa (idR 7) (j87 _ g)
 refine C.block ?_
 refine St.wk (C.loop (fun (s98:List Int×List Int×List Bool×Int)=>[(3,.fn (.func 133) [] []),(4,.p 0 0),(9,.p 1 0),(15,.p 3 0),(16,.fn (.func 166) [] [.p 5 0,.p 1 0,.p 3 0]),(19,.i x90),(81,.i s98.2.2.2)]) (fun s98=>[(0,.box (Qc f)),(1,.box [.o 2]),(2,.val (.os 1 eI s98.1)),(3,.box [.o 4]),(4,.val (.os 1 eI s98.2.1)),(5,.box [.o 6]),(6,.val (.os 1 eB s98.2.2.1))]) g (fun s98 Y99 g=>?_)) (Wk.a [some 0,some 1,some 2,some 3,some 7,some 5,some 6])
 refine C.ss (U.pd 1 T (C.xs ?_))
 refine C.ite rfl g (fun b102 g=>?_) fun b102 g=>?_
 refine C.skip (C.xs (C.block (C.ss (U.pd 2 T (C.xt ?_)))))
 refine U.ps 4 T rfl (U.k (Q3w f x90 s98.2.2.2 _ g) Qa1 (fun x107 g=>?_))
 refine U.pd 5 T (C.xt ?_)
 refine U.pd 1 T (C.nx ?_)
 refine C.jn (fun (x110:List Int×List Int×List Bool)=>[(3,.fn (.func 133) [] []),(4,.p 0 0),(9,.p 1 0),(15,.p 3 0),(16,.fn (.func 166) [] [.p 5 0,.p 1 0,.p 3 0]),(19,.i x90),(81,.i s98.2.2.2)]) (fun x110=>[(0,.box (Qc f)),(1,.box [.o 2]),(2,.val (.os 1 eI x110.1)),(3,.box [.o 4]),(4,.val (.os 1 eI x110.2.1)),(5,.box [.o 6]),(6,.val (.os 1 eB x110.2.2))]) 7 g (fun x110 g=>?_) fun J111 g j111=>?_
 refine C.bnx (C.nx (U.start (U.pd 2 T (C.nx ?_))))
 exact St.wk (C.next g) (Wk.a (idR 7))
 refine C.ite rfl g (fun b112 g=>?_) fun b112 g=>?_
 refine U.start (U.ps 4 T rfl ?_)
 obtain⟨x115,y115,g⟩:=g
 refine U.r rfl (.none rfl) rfl rfl (by exact Rd.io T rfl rfl rfl rfl rfl rfl rfl y115) ?_
 refine U.r rfl (.none rfl) rfl rfl (by exact Rd.le T rfl rfl rfl (Qe y115).2.2 rfl rfl rfl) ?_
 refine U.ps 1 T rfl (U.c [some 5,some 6,some 1,some 2,some 3,some 4] (Gb x107.1 (w64 (x115+1)) s98.2.2.1 s98.1 s98.2.1 _ g) Q95 (fun x116 g=>?_))
 refine U.done ?_
 exact St.wa [some 0,some 1,some 14,some 3,some 15,some 5,some 13] (j111 _ g)
 refine C.skip ?_
 exact St.wa (idR 7) (j111 _ g)
 refine C.exit (C.ex (C.ex (C.bex ?_)))
 exact St.wa (idR 7) (j97 _ g)
 refine C.exit (C.ex (C.ex (C.bex ?_)))
 exact St.wa (sqR 1 2) (j80 _ g)
 refine C.block ?_
 refine St.wk (C.loop (fun (s60:List Int×List Int×List Bool×Int)=>[(3,.fn (.func 133) [] []),(4,.p 0 0),(9,.p 1 0),(15,.p 3 0),(16,.fn (.func 166) [] [.p 5 0,.p 1 0,.p 3 0]),(60,.sl 1 eI from_1),(61,.i (from_1.length:Int)),(62,.i s60.2.2.2)]) (fun s60=>[(0,.box (Qc f)),(1,.box [.o 2]),(2,.val (.os 1 eI s60.1)),(3,.box [.o 4]),(4,.val (.os 1 eI s60.2.1)),(5,.box [.o 6]),(6,.val (.os 1 eB s60.2.2.1))]) g (fun s60 Y61 g=>?_)) (Wk.mk' [some 0,some 1,some 2,some 5,none,some 3,some 4] rfl rfl (.eqs rfl) ⟨bX,bX,vL,⟨_,rfl,.box rfl (.cons (.nilO _ _ ⟨rfl,rfl⟩ rfl) .nil)⟩,⟨_,rfl,.nil _ _⟩,bX,vL,trivial⟩ rfl)
 refine C.ss (U.pd 1 T (C.xs ?_))
 refine C.ite rfl g (fun b64 g=>?_) fun b64 g=>?_
 refine C.skip (C.xs (C.block (C.ss ?_)))
 obtain⟨x67,y67,g⟩:=g
 refine U.ix T y67 ?_
 refine U.pd 2 T (C.xt ?_)
 refine U.ps 2 T rfl (U.k (GN f x67 _ g) Q4c (fun x70 g=>?_))
 refine U.done (C.nx ?_)
 refine C.jn (fun (x71:List Int×List Int×List Bool)=>[(3,.fn (.func 133) [] []),(4,.p 0 0),(9,.p 1 0),(15,.p 3 0),(16,.fn (.func 166) [] [.p 5 0,.p 1 0,.p 3 0]),(60,.sl 1 eI from_1),(61,.i (from_1.length:Int)),(62,.i s60.2.2.2)]) (fun x71=>[(0,.box (Qc f)),(1,.box [.o 2]),(2,.val (.os 1 eI x71.1)),(3,.box [.o 4]),(4,.val (.os 1 eI x71.2.1)),(5,.box [.o 6]),(6,.val (.os 1 eB x71.2.2))]) 7 g (fun x71 g=>?_) fun J72 g j72=>?_
 refine C.bnx (C.nx (U.start (U.pd 2 T (C.nx ?_))))
 exact St.wk (C.next g) (Wk.a (idR 7))
 refine C.ite rfl g (fun b73 g=>?_) fun b73 g=>?_
 refine U.start (U.ps 2 T rfl (U.c [some 5,some 6,some 1,some 2,some 3,some 4] (Gb x67 0 s60.2.2.1 s60.1 s60.2.1 _ g) Q95 (fun x76 g=>?_)))
 refine U.done ?_
 exact St.wa [some 0,some 1,some 14,some 3,some 15,some 5,some 13] (j72 _ g)
 refine C.skip ?_
 exact St.wa (idR 7) (j72 _ g)
 refine C.exit (C.ex (C.ex (C.bex ?_)))
 exact St.wa (idR 7) (j59 _ g)
 refine C.block ?_
 refine St.wk (C.loop (fun (s33:List Bool×Int)=>[(1,.sl 1 eI from_1),(3,.fn (.func 133) [] []),(4,.p 0 0),(9,.p 1 0),(10,.p 3 0),(46,.sl 1 eI avoid),(47,.i (avoid.length:Int)),(48,.i s33.2)]) (fun s33=>[(0,.box (Qc f)),(1,.box [.o 2]),(2,.val (.os 1 eI x13.1)),(3,.box [.o 4]),(4,.val (.os 1 eB s33.1))]) g (fun s33 Y34 g=>?_)) (Wk.a (idR 5))
 refine C.ss (U.pd 1 T (C.xs ?_))
 refine C.ite rfl g (fun b37 g=>?_) fun b37 g=>?_
 refine C.skip (C.xs (C.block (C.ss ?_)))
 obtain⟨x40,y40,g⟩:=g
 refine U.ix T y40 ?_
 refine U.pd 2 T (C.xt ?_)
 refine U.ps 2 T rfl (U.k (GN f x40 _ g) Q4c (fun x43 g=>?_))
 refine U.done (C.nx ?_)
 refine C.jn (fun (x44:List Bool)=>[(1,.sl 1 eI from_1),(3,.fn (.func 133) [] []),(4,.p 0 0),(9,.p 1 0),(10,.p 3 0),(46,.sl 1 eI avoid),(47,.i (avoid.length:Int)),(48,.i s33.2)]) (fun x44=>[(0,.box (Qc f)),(1,.box [.o 2]),(2,.val (.os 1 eI x13.1)),(3,.box [.o 4]),(4,.val (.os 1 eB x44))]) 5 g (fun x44 g=>?_) fun J45 g j45=>?_
 refine C.bnx (C.nx (U.start (U.pd 2 T (C.nx ?_))))
 exact St.wk (C.next g) (Wk.a (idR 5))
 refine C.ite rfl g (fun b46 g=>?_) fun b46 g=>?_
 refine U.start (U.ps 2 T rfl ?_)
 obtain⟨x49,y49,g⟩:=g
 refine U.r rfl (.none rfl) rfl rfl (by exact Rd.io T rfl rfl rfl rfl rfl rfl rfl y49) ?_
 refine U.e1 rfl (.none rfl) (by exact Eff1.se T (z':=false) rfl rfl rfl (Qe y49).2.2 rfl rfl rfl rfl rfl rfl rfl rfl (fun _=>rfl) rfl) ?_
 refine U.done ?_
 exact St.wa (idR 5) (j45 _ g)
 refine C.skip ?_
 exact St.wa (idR 5) (j45 _ g)
 refine C.exit (C.ex (C.ex (C.bex ?_)))
 exact St.wa (idR 5) (j32 _ g)
 refine C.block ?_
 refine St.wk (C.loop (fun (s15:List Int×List Bool×Int)=>[(1,.sl 1 eI from_1),(2,.sl 1 eI avoid),(3,.fn (.func 133) [] []),(4,.p 0 0),(9,.p 1 0),(10,.p 3 0),(30,.sl 1 eI f.Kind),(31,.i (f.Kind.length:Int)),(32,.i s15.2.2)]) (fun s15=>[(0,.box (Qc f)),(1,.box [.o 2]),(2,.val (.os 1 eI s15.1)),(3,.box [.o 4]),(4,.val (.os 1 eB s15.2.1))]) g (fun s15 Y16 g=>?_)) (Wk.a [some 0,some 2,some 1,some 4,some 3])
 refine C.ss (U.pd 1 T (C.xs ?_))
 refine C.ite rfl g (fun b19 g=>?_) fun b19 g=>?_
 refine C.skip (C.xs (C.block (C.ss (U.ps 1 T rfl ?_))))
 obtain⟨x22,y22,g⟩:=g
 refine U.ix T y22 ?_
 refine U.pd 3 T (C.nx ?_)
 refine D.bq mix 9 [1,3] [2] (fun hQ hS ws M'=>?_)
 refine D.pq 6 (zl [0,1,2,3,4,5]) T ?_
 obtain⟨x25,y25,g⟩:=g
 refine D.q 6 [] hQ hS rfl (.none rfl) rfl rfl (by exact Rd.io T rfl rfl rfl rfl rfl rfl rfl y25) rfl (by kernel_rfl) ?_
 refine D.e1 7 rfl (.none rfl) (by exact Eff1.se T (z':=(-1)) rfl rfl rfl (Qe y25).2.2 rfl rfl rfl rfl rfl rfl rfl rfl (fun _=>rfl) rfl) (by kernel_rfl) rfl rfl ?_
 obtain⟨x26,y26,g⟩:=g
 refine D.q 8 [] hQ hS rfl (.none rfl) rfl rfl (by exact Rd.io T rfl rfl rfl rfl rfl rfl rfl y26) rfl (by kernel_rfl) ?_
 refine D.ze1 rfl (.none rfl) (by exact Eff1.se T (z':=(x22 != 0)) rfl rfl rfl (Qe y26).2.2 rfl rfl rfl rfl rfl rfl rfl rfl (fun _=>rfl) rfl) (by kernel_rfl) (by kernel_rfl) ?_
 refine C.bnx (C.nx (U.start (U.pd 2 T (C.nx ?_))))
 exact St.wk (C.next g) (Wk.a (idR 5))
 refine C.exit (C.ex (C.ex (C.bex ?_)))
 exact St.wa (idR 5) (j14 _ g)
theorem Q3K (f:ApiFloor) (a:Int) (b:Int) (avoid:List Int) (post:(List Int)→Prop) (g:W5 f a b avoid post):
  Tr Tryz.prog 100 [.agg (Qc f),.i a,.i b,.sl 1 eI avoid] [] 0 (fun A H' k=>∃y,post y∧A=(.o 0)∧H'=[(0,.val (.os 1 eI y))]∧k=1):=by
 refine Tr.go Tryz.func100 Tryz.ntmps100 fun _ _ _ _ o=>?_
 unfold W5 at g
 refine C.ss (U.bx ?_)
 refine U.pd 1 T (C.xs (C.seq ?_))
 refine C.jn (fun (x3:Bool)=>[(1,.i a),(2,.i b),(3,.sl 1 eI avoid),(4,.p 0 0),(24,.b x3)]) (fun x3=>[(0,.box (Qc f))]) 1 g (fun x3 g=>?_) fun J4 g j4=>?_
 refine C.nx ?_
 refine C.ite rfl g (fun b8 g=>?_) fun b8 g=>?_
 refine C.ss (U.pd 1 T (C.nx (C.ret (C.rt ?_))))
 exact C.g1 [none] T o ⟨[],g,rfl,rfl,rfl⟩
 refine C.skip (C.xt (U.ps 2 T rfl (U.bs T eI ([b]:List Int) ?_)))
 refine U.ps 1 T rfl (U.k (WI f ([b]:List Int) avoid _ g) Q9M (fun x13 g=>?_))
 refine U.pd 1 T (C.xs (C.ss ?_))
 refine U.ps 2 T rfl ?_
 obtain⟨x16,y16,g⟩:=g
 refine U.r rfl (.none rfl) rfl rfl (by exact Rd.io T rfl rfl rfl rfl rfl rfl rfl y16) ?_
 refine U.r rfl (.none rfl) rfl rfl (by exact Rd.le T rfl rfl rfl (Qe y16).2.2 rfl rfl rfl) ?_
 refine U.pd 1 T (C.nx ?_)
 refine C.ite rfl g (fun b17 g=>?_) fun b17 g=>?_
 refine C.ss (U.pd 1 T (C.nx (C.ret (C.rt ?_))))
 exact C.g1 [none] T o ⟨[],g,rfl,rfl,rfl⟩
 refine C.skip (C.xt (U.ps 1 T rfl (U.bs T eI ([a]:List Int) ?_)))
 refine U.pd 1 T (C.xs (C.ss ?_))
 refine U.pd 2 T (C.nx ?_)
 refine C.jn (fun (x24:List Int)=>[(10,.o 0)]) (fun x24=>[(0,.val (.os 1 eI x24))]) 1 g (fun x24 g=>?_) fun J25 g j25=>?_
 refine C.xt (U.pd 2 T (C.nx (C.ret ?_)))
 exact C.g1 [some 0] T o ⟨x24,g,rfl,rfl,rfl⟩
 refine C.block (St.wk (C.loop (fun (s26:List Int×Int)=>[(4,.p 0 0),(9,.o 1),(10,.o 2),(11,.i s26.2)]) (fun s26=>[(0,.box (Qc f)),(1,.val (.os 1 eI x13)),(2,.val (.os 1 eI s26.1))]) g (fun s26 Y27 g=>?_)) (Wk.a [some 0,some 2,some 3]))
 refine C.seq (C.ss (U.ps 2 T rfl ?_))
 obtain⟨x30,y30,g⟩:=g
 refine U.r rfl (.none rfl) rfl rfl (by exact Rd.io T rfl rfl rfl rfl rfl rfl rfl y30) ?_
 refine U.r rfl (.none rfl) rfl rfl (by exact Rd.le T rfl rfl rfl (Qe y30).2.2 rfl rfl rfl) ?_
 refine U.pd 1 T (C.nx ?_)
 refine C.ite rfl g (fun b31 g=>?_) fun b31 g=>?_
 refine C.skip (C.nx ?_)
 refine C.jn (fun (x32:List Int×Int)=>[(4,.p 0 0),(9,.o 1),(10,.o 2),(11,.i x32.2)]) (fun x32=>[(0,.box (Qc f)),(1,.val (.os 1 eI x13)),(2,.val (.os 1 eI x32.1))]) 3 g (fun x32 g=>?_) fun J33 g j33=>?_
 refine C.nx ?_
 exact St.wk (C.next g) (Wk.a (idR 3))
 refine C.block (C.seq (C.ss (U.pd 1 T (C.nx ?_))))
 refine C.jn (fun (x36:Int)=>[(4,.p 0 0),(9,.o 1),(10,.o 2),(11,.i x36)]) (fun x36=>[(0,.box (Qc f)),(1,.val (.os 1 eI x13)),(2,.val (.os 1 eI s26.1))]) 3 g (fun x36 g=>?_) fun J37 g j37=>?_
 refine C.nx (U.start (U.ps 2 T rfl (U.bs T eI ([x36]:List Int) ?_)))
 obtain⟨y60,g⟩:=g
 refine U.ap T y60 ?_
 refine U.pd 1 T (C.bnx ?_)
 exact St.wa [some 0,some 1,some 4] (j33 _ g)
 refine C.block (St.wk (C.loop (fun (s38:Int)=>[(4,.p 0 0),(9,.o 1),(10,.o 2),(11,.i s26.2),(43,.i s38)]) (fun s38=>[(0,.box (Qc f)),(1,.val (.os 1 eI x13)),(2,.val (.os 1 eI s26.1))]) g (fun s38 Y39 g=>?_)) (Wk.a (idR 3)))
 refine C.ss (U.pd 1 T (C.xs ?_))
 refine C.ite rfl g (fun b42 g=>?_) fun b42 g=>?_
 refine C.skip (C.xs (C.block (C.ss (U.pd 2 T (C.xt ?_)))))
 refine U.ps 3 T rfl (U.k (Gx f s26.2 s38 _ g) en24 (fun x47 g=>?_))
 refine U.pd 5 T (C.xs ?_)
 refine C.jn (fun (x48:Bool)=>[(4,.p 0 0),(9,.o 1),(10,.o 2),(11,.i s26.2),(13,.i x47.1),(43,.i s38),(65,.b x48)]) (fun x48=>[(0,.box (Qc f)),(1,.val (.os 1 eI x13)),(2,.val (.os 1 eI s26.1))]) 3 g (fun x48 g=>?_) fun J49 g j49=>?_
 refine C.nx ?_
 refine C.ite rfl g (fun b53 g=>?_) fun b53 g=>?_
 refine C.ss (U.pd 2 T (C.nx (C.exit ?_)))
 refine C.bex' rfl ?_
 refine C.ex (C.ex (C.bex ?_))
 exact St.wa (idR 3) (j37 _ g)
 refine C.skip (C.bnx (C.nx (U.start (U.pd 2 T (C.nx ?_)))))
 exact St.wk (C.next g) (Wk.a (idR 3))
 refine D.bq mix 9999 [1] [] (fun hQ hS ws M'=>?_)
 refine D.pq 2 (zl [0,1]) T ?_
 refine g.cs (fun b50 g=>?_) fun b50 g=>?_
 refine D.pt 2 [] 1 true 54 b50 T ?_
 refine D.pt 3 [] 1 true 54 b50 T ?_
 obtain⟨x51,y51,g⟩:=g
 refine D.q 4 [] hQ hS rfl (.tk 1 true 54 b50) rfl rfl (by exact Rd.io T rfl rfl rfl rfl rfl rfl rfl y51) rfl (by kernel_rfl) ?_
 refine D.q 5 [] hQ hS rfl (.tk 1 true 54 b50) rfl rfl (by exact Rd.le T rfl rfl rfl (Qe y51).2.2 rfl rfl rfl) rfl (by kernel_rfl) ?_
 refine D.pt 6 [] 1 true 54 b50 T ?_
 refine D.pt 7 [] 1 true 54 b50 T ?_
 obtain⟨x52,y52,g⟩:=g
 refine D.q 8 [] hQ hS rfl (.tk 1 true 54 b50) rfl rfl (by exact Rd.io T rfl rfl rfl rfl rfl rfl rfl y52) rfl (by kernel_rfl) ?_
 refine D.q 9 [] hQ hS rfl (.tk 1 true 54 b50) rfl rfl (by exact Rd.le T rfl rfl rfl (Qe y52).2.2 rfl rfl rfl) rfl (by kernel_rfl) ?_
 refine D.pt 10 [] 1 true 54 b50 T ?_
 refine D.pt 11 [] 1 true 54 b50 T ?_
 refine D.kt 12 [] b50 ?_
 refine D.done (by kernel_rfl) ?_
 exact St.wa (idR 3) (j49 _ g)
 refine D.sz 2 [] 1 true 54 b50 ?_
 refine D.sz 3 [] 1 true 54 b50 ?_
 refine D.sz 4 [] 1 true 54 b50 ?_
 refine D.sz 5 [] 1 true 54 b50 ?_
 refine D.sz 6 [] 1 true 54 b50 ?_
 refine D.sz 7 [] 1 true 54 b50 ?_
 refine D.sz 8 [] 1 true 54 b50 ?_
 refine D.sz 9 [] 1 true 54 b50 ?_
 refine D.sz 10 [] 1 true 54 b50 ?_
 refine D.sz 11 [] 1 true 54 b50 ?_
 refine D.kf 12 [] b50 ?_
 refine D.done (by kernel_rfl) ?_
 exact St.wa (idR 3) (j49 _ g)
 refine C.exit (C.ex (C.ex (C.bex ?_)))
 exact St.wa (idR 3) (j37 _ g)
 refine C.exit (C.ex (C.ex (C.bex ?_)))
 exact St.wa [some 2] (j25 _ g)
 refine U.start (U.ps 2 T rfl (U.k (GN f a _ g) Q4c (fun x5 g=>?_)))
 refine U.ps 2 T rfl ?_
 refine g.cs (fun b6 g=>?_) fun b6 g=>?_
 refine U.pq 2 4 false 19 (ntF b6) T ?_
 refine U.k (GN f b _ g) Q4c (fun x7 g=>?_) (hw:=.take 4 false 19 _ (ntF b6) rfl rfl rfl)
 refine U.pq 1 4 false 19 (ntF b6) T ?_
 refine U.pk' (ntF b6) ?_
 refine U.done ?_
 exact St.wa [some 0] (j4 _ g)
 refine U.sk' 4 4 false 19 (ntT b6) ?_
 refine U.pk (ntT b6) ?_
 refine U.done ?_
 exact St.wa [some 0] (j4 _ g)
theorem Gc (x_1:Qd) (robot:Int) (post:(List Int)→Prop) (g:K1 x_1 robot post):
  Tr Tryz.prog 57 [.rp [.i x_1.s.Floor.W,.i x_1.s.Floor.H,.i x_1.s.Floor.D,.sl 1 eI x_1.s.Floor.Kind,.sl 1 eI x_1.s.Floor.Out,.sl 5 Q8 x_1.s.Zones,.sl 2 Q3 x_1.s.Aparts,.sl 2 Q4 x_1.s.Shelves,.sl 2 Q5 x_1.s.Robots,.i x_1.st.Tick,.sl 1 eI x_1.st.Shelves,.sl 6 Q0 x_1.st.Robots,.sl 1 eI x_1.st.People,.sl 1 eI x_1.st.Dead,.sl 2 Q7 x_1.st.Stuck,.sl 1 eI x_1.homes,.rm kI veB x_1.home],.i robot] [] 0 (fun A H' k=>∃y,post y∧A=(.o 0)∧H'=[(0,.val (.os 1 eI y))]∧k=1):=by
 refine Tr.go Tryz.func57 Tryz.ntmps57 fun _ _ _ _ o=>?_
 unfold K1 at g
 refine C.ss (U.pd 1 T (C.xs (C.seq ?_)))
 refine C.jn (fun (x3:Bool)=>[(0,.rp [.i x_1.s.Floor.W,.i x_1.s.Floor.H,.i x_1.s.Floor.D,.sl 1 eI x_1.s.Floor.Kind,.sl 1 eI x_1.s.Floor.Out,.sl 5 Q8 x_1.s.Zones,.sl 2 Q3 x_1.s.Aparts,.sl 2 Q4 x_1.s.Shelves,.sl 2 Q5 x_1.s.Robots,.i x_1.st.Tick,.sl 1 eI x_1.st.Shelves,.sl 6 Q0 x_1.st.Robots,.sl 1 eI x_1.st.People,.sl 1 eI x_1.st.Dead,.sl 2 Q7 x_1.st.Stuck,.sl 1 eI x_1.homes,.rm kI veB x_1.home]),(1,.i robot),(22,.b x3)]) (fun x3=>[]) 0 g (fun x3 g=>?_) fun J4 g j4=>?_
 refine C.nx ?_
 refine C.ite rfl g (fun b7 g=>?_) fun b7 g=>?_
 refine C.ss (U.pd 1 T (C.nx (C.ret (C.rt ?_))))
 exact C.g1 [none] T o ⟨[],g,rfl,rfl,rfl⟩
 refine C.skip (C.xt (U.ps 6 T rfl ?_))
 obtain⟨x12,y12,g⟩:=g
 refine U.ix T y12 ?_
 refine U.ps 1 T rfl (U.al T ?_)
 refine U.st T ?_
 refine U.done (C.xs (D.bq mix 9999 [] [] (fun hQ hS ws M'=>?_)))
 refine D.pq 10 (zl [0,1,2,3,4,5,6,7,8,9]) T ?_
 refine D.e1 10 rfl (.none rfl) (by exact Eff1.bs T (enc:=eLeI) (xs:=([x_1.st.Dead,x_1.st.People]:List (List Int))) rfl rfl rfl rfl rfl rfl rfl rfl rfl rfl (fun _ _=>rfl) rfl rfl) (by kernel_rfl) rfl rfl ?_
 refine D.k 11 (Ys ([x_1.st.Dead,x_1.st.People]:List (List Int)) _ g) en97 fun x15 g=>?_
 refine D.pq 1 [(12,[])] T ?_
 refine D.done (by kernel_rfl) ?_
 refine C.xs (C.ss (U.pd 7 T (C.nx ?_)))
 refine C.jn (fun (x18:List Int)=>[(0,.rp [.i x_1.s.Floor.W,.i x_1.s.Floor.H,.i x_1.s.Floor.D,.sl 1 eI x_1.s.Floor.Kind,.sl 1 eI x_1.s.Floor.Out,.sl 5 Q8 x_1.s.Zones,.sl 2 Q3 x_1.s.Aparts,.sl 2 Q4 x_1.s.Shelves,.sl 2 Q5 x_1.s.Robots,.i x_1.st.Tick,.sl 1 eI x_1.st.Shelves,.sl 6 Q0 x_1.st.Robots,.sl 1 eI x_1.st.People,.sl 1 eI x_1.st.Dead,.sl 2 Q7 x_1.st.Stuck,.sl 1 eI x_1.homes,.rm kI veB x_1.home]),(1,.i robot),(5,.p 0 0),(6,.o 1)]) (fun x18=>[(0,.box (Q0 x12)),(1,.val (.os 1 eI x18))]) 2 g (fun x18 g=>?_) fun J19 g j19=>?_
 refine C.xs (C.ss (U.pd 3 T (C.nx ?_)))
 refine C.jn (fun (x49:List Int)=>[(0,.rp [.i x_1.s.Floor.W,.i x_1.s.Floor.H,.i x_1.s.Floor.D,.sl 1 eI x_1.s.Floor.Kind,.sl 1 eI x_1.s.Floor.Out,.sl 5 Q8 x_1.s.Zones,.sl 2 Q3 x_1.s.Aparts,.sl 2 Q4 x_1.s.Shelves,.sl 2 Q5 x_1.s.Robots,.i x_1.st.Tick,.sl 1 eI x_1.st.Shelves,.sl 6 Q0 x_1.st.Robots,.sl 1 eI x_1.st.People,.sl 1 eI x_1.st.Dead,.sl 2 Q7 x_1.st.Stuck,.sl 1 eI x_1.homes,.rm kI veB x_1.home]),(1,.i robot),(5,.p 0 0),(6,.o 1)]) (fun x49=>[(0,.box (Q0 x12)),(1,.val (.os 1 eI x49))]) 2 g (fun x49 g=>?_) fun J50 g j50=>?_
 refine C.xt (U.ps 2 T rfl ?_)
 refine U.e rfl (.none rfl) (by exact Eff.c [some 1] (v:=true) (KW x12 x49 _ g) en89 rfl rfl rfl (.cons (.eq rfl) (.cons (.fn (.eq rfl) (.cons (.fzp rfl rfl rfl rfl (.eq rfl) rfl) .nil)) .nil)) ⟨vL,trivial⟩ rfl rfl rfl rfl rfl rfl (fun _ _=>⟨(.o _),⟨.val (.os _ _ _ fun _=>(.cons (.v _) .nil)),trivial⟩⟩) (.inl rfl) (fun _=>rfl) (fun _=>rfl) rfl) (fun x77' g=>?_)
 obtain⟨x77⟩:=x77'
 refine U.pd 1 T (C.xs ?_)
 refine D.bq mix 9999 [0] [] (fun hQ hS ws M'=>?_)
 refine D.pq 12 (zl [0,1,2,3,4,5,6,7,8,9,10,11]) T ?_
 obtain⟨x80,y80,g⟩:=g
 refine D.ix 12 [] T y80 ?_
 refine D.pq 2 (zl [13,14]) T ?_
 refine D.k 15 (Q3K x_1.s.Floor x12.Cell x80 x77 _ g) Qag fun x81 g=>?_
 refine D.pq 1 [(16,[])] T ?_
 refine D.done (by kernel_rfl) ?_
 refine C.nx (C.ret ?_)
 exact C.g1 [some 4] T o ⟨x81,g,rfl,rfl,rfl⟩
 refine C.ite rfl g (fun b51 g=>?_) fun b51 g=>?_
 refine C.ss (U.pd 7 T (C.nx ?_))
 refine C.jn (fun (x54:List Int)=>[(0,.rp [.i x_1.s.Floor.W,.i x_1.s.Floor.H,.i x_1.s.Floor.D,.sl 1 eI x_1.s.Floor.Kind,.sl 1 eI x_1.s.Floor.Out,.sl 5 Q8 x_1.s.Zones,.sl 2 Q3 x_1.s.Aparts,.sl 2 Q4 x_1.s.Shelves,.sl 2 Q5 x_1.s.Robots,.i x_1.st.Tick,.sl 1 eI x_1.st.Shelves,.sl 6 Q0 x_1.st.Robots,.sl 1 eI x_1.st.People,.sl 1 eI x_1.st.Dead,.sl 2 Q7 x_1.st.Stuck,.sl 1 eI x_1.homes,.rm kI veB x_1.home]),(1,.i robot),(5,.p 0 0),(6,.o 1)]) (fun x54=>[(0,.box (Q0 x12)),(1,.val (.os 1 eI x54))]) 2 g (fun x54 g=>?_) fun J55 g j55=>?_
 exact St.wa (idR 2) (j50 _ g)
 refine C.block ?_
 refine St.wk (C.loop (fun (s56:List Int×Int)=>[(0,.rp [.i x_1.s.Floor.W,.i x_1.s.Floor.H,.i x_1.s.Floor.D,.sl 1 eI x_1.s.Floor.Kind,.sl 1 eI x_1.s.Floor.Out,.sl 5 Q8 x_1.s.Zones,.sl 2 Q3 x_1.s.Aparts,.sl 2 Q4 x_1.s.Shelves,.sl 2 Q5 x_1.s.Robots,.i x_1.st.Tick,.sl 1 eI x_1.st.Shelves,.sl 6 Q0 x_1.st.Robots,.sl 1 eI x_1.st.People,.sl 1 eI x_1.st.Dead,.sl 2 Q7 x_1.st.Stuck,.sl 1 eI x_1.homes,.rm kI veB x_1.home]),(1,.i robot),(5,.p 0 0),(6,.o 1),(87,.sl 1 eI x_1.st.Shelves),(88,.i (x_1.st.Shelves.length:Int)),(89,.i s56.2)]) (fun s56=>[(0,.box (Q0 x12)),(1,.val (.os 1 eI s56.1))]) g (fun s56 Y57 g=>?_)) (Wk.a (idR 2))
 refine C.ss (U.pd 1 T (C.xs ?_))
 refine C.ite rfl g (fun b60 g=>?_) fun b60 g=>?_
 refine C.skip (C.xs (C.block (C.ss (U.ps 1 T rfl ?_))))
 obtain⟨x63,y63,g⟩:=g
 refine U.ix T y63 ?_
 refine U.pd 3 T (C.xt ?_)
 refine U.ps 5 T rfl (U.k (Wq x_1.st s56.2 _ g) en98 (fun x66 g=>?_))
 refine U.pd 1 T (C.nx ?_)
 refine C.jn (fun (x67:List Int)=>[(0,.rp [.i x_1.s.Floor.W,.i x_1.s.Floor.H,.i x_1.s.Floor.D,.sl 1 eI x_1.s.Floor.Kind,.sl 1 eI x_1.s.Floor.Out,.sl 5 Q8 x_1.s.Zones,.sl 2 Q3 x_1.s.Aparts,.sl 2 Q4 x_1.s.Shelves,.sl 2 Q5 x_1.s.Robots,.i x_1.st.Tick,.sl 1 eI x_1.st.Shelves,.sl 6 Q0 x_1.st.Robots,.sl 1 eI x_1.st.People,.sl 1 eI x_1.st.Dead,.sl 2 Q7 x_1.st.Stuck,.sl 1 eI x_1.homes,.rm kI veB x_1.home]),(1,.i robot),(5,.p 0 0),(6,.o 1),(87,.sl 1 eI x_1.st.Shelves),(88,.i (x_1.st.Shelves.length:Int)),(89,.i s56.2)]) (fun x67=>[(0,.box (Q0 x12)),(1,.val (.os 1 eI x67))]) 2 g (fun x67 g=>?_) fun J68 g j68=>?_
 refine C.bnx (C.nx (U.start (U.pd 2 T (C.nx ?_))))
 exact St.wk (C.next g) (Wk.a (idR 2))
 refine C.ite rfl g (fun b69 g=>?_) fun b69 g=>?_
 refine U.start (U.ps 2 T rfl (U.bs T eI ([x63]:List Int) ?_))
 obtain⟨y72,g⟩:=g
 refine U.ap T y72 ?_
 refine U.pd 1 T ?_
 exact St.wa [some 0,some 3] (j68 _ g)
 refine C.skip ?_
 exact St.wa (idR 2) (j68 _ g)
 refine C.exit (C.ex (C.ex (C.bex ?_)))
 exact St.wa (idR 2) (j55 _ g)
 refine C.skip ?_
 exact St.wa (idR 2) (j50 _ g)
 refine C.block ?_
 refine St.wk (C.loop (fun (s20:List Int×Int)=>[(0,.rp [.i x_1.s.Floor.W,.i x_1.s.Floor.H,.i x_1.s.Floor.D,.sl 1 eI x_1.s.Floor.Kind,.sl 1 eI x_1.s.Floor.Out,.sl 5 Q8 x_1.s.Zones,.sl 2 Q3 x_1.s.Aparts,.sl 2 Q4 x_1.s.Shelves,.sl 2 Q5 x_1.s.Robots,.i x_1.st.Tick,.sl 1 eI x_1.st.Shelves,.sl 6 Q0 x_1.st.Robots,.sl 1 eI x_1.st.People,.sl 1 eI x_1.st.Dead,.sl 2 Q7 x_1.st.Stuck,.sl 1 eI x_1.homes,.rm kI veB x_1.home]),(1,.i robot),(5,.p 0 0),(6,.o 1),(47,.sl 6 Q0 x_1.st.Robots),(48,.i (x_1.st.Robots.length:Int)),(49,.i s20.2)]) (fun s20=>[(0,.box (Q0 x12)),(1,.val (.os 1 eI s20.1))]) g (fun s20 Y21 g=>?_)) (Wk.a [some 0,some 2])
 refine C.ss (U.pd 1 T (C.xs ?_))
 refine C.ite rfl g (fun b24 g=>?_) fun b24 g=>?_
 refine C.skip (C.xs ?_)
 refine C.jn (fun (x25:List Int)=>[(0,.rp [.i x_1.s.Floor.W,.i x_1.s.Floor.H,.i x_1.s.Floor.D,.sl 1 eI x_1.s.Floor.Kind,.sl 1 eI x_1.s.Floor.Out,.sl 5 Q8 x_1.s.Zones,.sl 2 Q3 x_1.s.Aparts,.sl 2 Q4 x_1.s.Shelves,.sl 2 Q5 x_1.s.Robots,.i x_1.st.Tick,.sl 1 eI x_1.st.Shelves,.sl 6 Q0 x_1.st.Robots,.sl 1 eI x_1.st.People,.sl 1 eI x_1.st.Dead,.sl 2 Q7 x_1.st.Stuck,.sl 1 eI x_1.homes,.rm kI veB x_1.home]),(1,.i robot),(5,.p 0 0),(6,.o 1),(47,.sl 6 Q0 x_1.st.Robots),(48,.i (x_1.st.Robots.length:Int)),(49,.i s20.2)]) (fun x25=>[(0,.box (Q0 x12)),(1,.val (.os 1 eI x25))]) 2 g (fun x25 g=>?_) fun J26 g j26=>?_
 refine C.nx (U.start (U.pd 2 T (C.nx ?_)))
 exact St.wk (C.next g) (Wk.a (idR 2))
 refine C.block (C.ss (U.ps 1 T rfl ?_))
 obtain⟨x29,y29,g⟩:=g
 refine U.ix T y29 ?_
 refine U.ps 1 T rfl (U.al T ?_)
 refine U.ps 1 T rfl (U.st T ?_)
 refine U.done (C.xs (C.ss (U.pd 3 T (C.nx ?_))))
 refine C.ite rfl g (fun b32 g=>?_) fun b32 g=>?_
 refine C.exit (C.ex (C.bex ?_))
 exact St.wa (idR 2) (j26 _ g)
 refine C.skip (C.xt (U.ps 6 T rfl ?_))
 obtain⟨x35,y35,g⟩:=g
 refine U.ix T y35 ?_
 refine U.ps 1 T rfl (U.bs T eI ([x35]:List Int) ?_)
 obtain⟨y36,g⟩:=g
 refine U.ap T y36 ?_
 refine U.pd 1 T (C.xt ?_)
 refine U.ps 5 T rfl (U.r rfl (.none rfl) rfl rfl (by exact Rd.lk T (ke:=kI) (ve:=veB) (xs:=x_1.home) (z0:=false) (x:=s20.2) rfl rfl kt3 zt4 (fun _=>rfl) rfl .rm rfl rfl rfl) ?_)
 refine U.pd 1 T (C.nx ?_)
 refine C.jn (fun (x39:List Int)=>[(0,.rp [.i x_1.s.Floor.W,.i x_1.s.Floor.H,.i x_1.s.Floor.D,.sl 1 eI x_1.s.Floor.Kind,.sl 1 eI x_1.s.Floor.Out,.sl 5 Q8 x_1.s.Zones,.sl 2 Q3 x_1.s.Aparts,.sl 2 Q4 x_1.s.Shelves,.sl 2 Q5 x_1.s.Robots,.i x_1.st.Tick,.sl 1 eI x_1.st.Shelves,.sl 6 Q0 x_1.st.Robots,.sl 1 eI x_1.st.People,.sl 1 eI x_1.st.Dead,.sl 2 Q7 x_1.st.Stuck,.sl 1 eI x_1.homes,.rm kI veB x_1.home]),(1,.i robot),(5,.p 0 0),(6,.o 1),(47,.sl 6 Q0 x_1.st.Robots),(48,.i (x_1.st.Robots.length:Int)),(49,.i s20.2)]) (fun x39=>[(0,.box (Q0 x12)),(1,.val (.os 1 eI x39))]) 2 g (fun x39 g=>?_) fun J40 g j40=>?_
 refine C.bnx ?_
 exact St.wa (idR 2) (j26 _ g)
 refine C.ite rfl g (fun b41 g=>?_) fun b41 g=>?_
 refine U.start (U.ps 3 T rfl (U.bs T eI ([x29.Cell]:List Int) ?_))
 obtain⟨y44,g⟩:=g
 refine U.ap T y44 ?_
 refine U.pd 1 T ?_
 exact St.wa [some 0,some 6] (j40 _ g)
 refine C.skip ?_
 exact St.wa [some 0,some 4] (j40 _ g)
 refine C.exit (C.ex (C.ex (C.bex ?_)))
 exact St.wa (idR 2) (j19 _ g)
 refine U.start (U.ps 2 T rfl (U.k (X1 x_1 robot _ g) en60 (fun x5 g=>?_)))
 refine U.ps 2 T rfl ?_
 refine g.cs (fun b6 g=>?_) fun b6 g=>?_
 refine U.pq 5 4 false 15 (ntF b6) T ?_
 refine U.r rfl (.tk 4 false 15 (ntF b6)) rfl rfl (by exact Rd.lk T (ke:=kI) (ve:=veB) (xs:=x_1.home) (z0:=false) (x:=robot) rfl rfl kt3 zt4 (fun _=>rfl) rfl .rm rfl rfl rfl) ?_
 refine U.pk' (ntF b6) ?_
 refine U.done ?_
 exact St.wn (j4 _ g)
 refine U.sk' 6 4 false 15 (ntT b6) ?_
 refine U.pk (ntT b6) ?_
 refine U.done ?_
 exact St.wn (j4 _ g)
theorem Wc (x_1:Qd) (post:Bool→Prop) (g:Km x_1 post):
  Tr Tryz.prog 58 [.rp [.i x_1.s.Floor.W,.i x_1.s.Floor.H,.i x_1.s.Floor.D,.sl 1 eI x_1.s.Floor.Kind,.sl 1 eI x_1.s.Floor.Out,.sl 5 Q8 x_1.s.Zones,.sl 2 Q3 x_1.s.Aparts,.sl 2 Q4 x_1.s.Shelves,.sl 2 Q5 x_1.s.Robots,.i x_1.st.Tick,.sl 1 eI x_1.st.Shelves,.sl 6 Q0 x_1.st.Robots,.sl 1 eI x_1.st.People,.sl 1 eI x_1.st.Dead,.sl 2 Q7 x_1.st.Stuck,.sl 1 eI x_1.homes,.rm kI veB x_1.home]] [] 0 (pB post):=by
 refine Tr.go Tryz.func58 Tryz.ntmps58 fun _ _ _ _ o=>?_
 unfold Km at g
 refine C.ss (U.pd 1 T (C.xs (C.ss ?_)))
 refine U.pd 7 T (C.nx ?_)
 refine C.jn (fun (x5:Unit)=>[]) (fun x5=>[]) 0 g (fun x5 g=>?_) fun J6 g j6=>?_
 refine C.xt (U.pd 1 T (C.nx (C.ret ?_)))
 exact C.f1 T o (pBi g)
 refine C.block ?_
 refine St.wk (C.loop (fun (s7:Int)=>[(0,.rp [.i x_1.s.Floor.W,.i x_1.s.Floor.H,.i x_1.s.Floor.D,.sl 1 eI x_1.s.Floor.Kind,.sl 1 eI x_1.s.Floor.Out,.sl 5 Q8 x_1.s.Zones,.sl 2 Q3 x_1.s.Aparts,.sl 2 Q4 x_1.s.Shelves,.sl 2 Q5 x_1.s.Robots,.i x_1.st.Tick,.sl 1 eI x_1.st.Shelves,.sl 6 Q0 x_1.st.Robots,.sl 1 eI x_1.st.People,.sl 1 eI x_1.st.Dead,.sl 2 Q7 x_1.st.Stuck,.sl 1 eI x_1.homes,.rm kI veB x_1.home]),(9,.i (x_1.st.Robots.length:Int)),(10,.i s7)]) (fun s7=>[]) g (fun s7 Y8 g=>?_)) (Wk.e)
 refine C.ss (U.pd 1 T (C.xs ?_))
 refine C.ite rfl g (fun b11 g=>?_) fun b11 g=>?_
 refine C.skip (C.xs (C.block (C.ss (U.pd 2 T (C.xs ?_)))))
 refine C.jn (fun (x14:Bool)=>[(0,.rp [.i x_1.s.Floor.W,.i x_1.s.Floor.H,.i x_1.s.Floor.D,.sl 1 eI x_1.s.Floor.Kind,.sl 1 eI x_1.s.Floor.Out,.sl 5 Q8 x_1.s.Zones,.sl 2 Q3 x_1.s.Aparts,.sl 2 Q4 x_1.s.Shelves,.sl 2 Q5 x_1.s.Robots,.i x_1.st.Tick,.sl 1 eI x_1.st.Shelves,.sl 6 Q0 x_1.st.Robots,.sl 1 eI x_1.st.People,.sl 1 eI x_1.st.Dead,.sl 2 Q7 x_1.st.Stuck,.sl 1 eI x_1.homes,.rm kI veB x_1.home]),(9,.i (x_1.st.Robots.length:Int)),(10,.i s7),(24,.b x14)]) (fun x14=>[]) 0 g (fun x14 g=>?_) fun J15 g j15=>?_
 refine C.nx ?_
 refine C.ite rfl g (fun b18 g=>?_) fun b18 g=>?_
 refine C.ss (U.pd 1 T (C.nx (C.ret (C.brt (C.rt (C.rt (C.brt (C.rt ?_))))))))
 exact C.f1 T o (pBi g)
 refine C.skip (C.bnx (C.nx (U.start (U.pd 2 T (C.nx ?_)))))
 exact St.wk (C.next g) (Wk.e)
 refine U.start (U.ps 2 T rfl (U.k (X1 x_1 s7 _ g) en60 (fun x16 g=>?_)))
 refine U.ps 1 T rfl ?_
 refine g.cs (fun b17 g=>?_) fun b17 g=>?_
 refine U.pq 5 3 true 16 b17 T ?_
 refine U.r rfl (.tk 3 true 16 b17) rfl rfl (by exact Rd.lk T (ke:=kI) (ve:=veB) (xs:=x_1.home) (z0:=false) (x:=s7) rfl rfl kt3 zt4 (fun _=>rfl) rfl .rm rfl rfl rfl) ?_
 refine U.pq 1 3 true 16 b17 T ?_
 refine U.pk b17 ?_
 refine U.done ?_
 exact St.wn (j15 _ g)
 refine U.sk' 7 3 true 16 b17 ?_
 refine U.pk' b17 ?_
 refine U.done ?_
 exact St.wn (j15 _ g)
 refine C.exit (C.ex (C.ex (C.bex ?_)))
 exact St.wk (j6 _ g) (Wk.mk' [] rfl rfl trivial trivial rfl)
theorem ZF (s_1:ApiSite) (st:ApiState) (homes:List Int) (post:(List Int×Bool)→Prop) (g:G0 s_1 st homes post):
  Tr Tryz.prog 15 [.agg (Q6 s_1),.agg (Q1 st),.sl 1 eI homes] [] 0 (fun A H' k=>∃y,post y∧A=(.tup [.o 0,.b y.2])∧H'=[(0,.val (.os 1 eI y.1))]∧k=1):=by
 refine Tr.go Tryz.func15 Tryz.ntmps15 fun _ _ _ _ o=>?_
 unfold G0 at g
 refine C.ss (U.bx ?_)
 refine U.bx ?_
 refine U.pd 2 T (C.xt ?_)
 refine U.ps 3 T rfl (U.e rfl (.none rfl) (by exact Eff.c [] (v:=false) (Gp s_1 st homes [] _ g) en56 rfl rfl rfl (.cons (.eq rfl) (.cons (.eq rfl) (.cons (.eq rfl) (.cons (.nil _ _ _ _ ⟨rfl,rfl⟩) .nil)))) trivial rfl rfl rfl rfl rfl rfl (fun h=>by cases h) (.inr ⟨rfl,rfl⟩) (fun _=>rfl) (fun _=>rfl) rfl) (fun x5' g=>?_))
 obtain⟨x5⟩:=x5'
 refine U.pd 1 T (C.xt ?_)
 refine U.pd 1 T (C.xs (C.ss ?_))
 refine U.pd 1 T (C.nx ?_)
 refine C.jn (fun (x10:List (Int×Bool)×List Int)=>[(8,.p 0 0),(9,.o 2)]) (fun x10=>[(0,.box [.i x5.s.Floor.W,.i x5.s.Floor.H,.i x5.s.Floor.D,.sl 1 eI x5.s.Floor.Kind,.sl 1 eI x5.s.Floor.Out,.sl 5 Q8 x5.s.Zones,.sl 2 Q3 x5.s.Aparts,.sl 2 Q4 x5.s.Shelves,.sl 2 Q5 x5.s.Robots,.i x5.st.Tick,.sl 1 eI x5.st.Shelves,.sl 6 Q0 x5.st.Robots,.sl 1 eI x5.st.People,.sl 1 eI x5.st.Dead,.sl 2 Q7 x5.st.Stuck,.sl 1 eI x5.homes,.o 1]),(1,.val (.om kI veB x10.1)),(2,.val (.os 1 eI x10.2))]) 3 g (fun x10 g=>?_) fun J11 g j11=>?_
 refine C.xt (U.ps 2 T rfl (U.k (Wc ({s:=x5.s,st:=x5.st,homes:=x5.homes,home:=x10.1:Qd}) _ g) en58 (fun x34 g=>?_)))
 refine U.pd 2 T (C.nx (C.ret ?_))
 exact C.fg [some 2] T o ⟨(x10.2,x34),g,rfl,rfl,rfl⟩
 refine C.block ?_
 refine St.wk (C.loop (fun (s12:List (Int×Bool)×List Int×Int)=>[(4,.p 0 0),(8,.p 1 0),(9,.o 3),(10,.i s12.2.2)]) (fun s12=>[(0,.box (Q1 st)),(1,.box [.i x5.s.Floor.W,.i x5.s.Floor.H,.i x5.s.Floor.D,.sl 1 eI x5.s.Floor.Kind,.sl 1 eI x5.s.Floor.Out,.sl 5 Q8 x5.s.Zones,.sl 2 Q3 x5.s.Aparts,.sl 2 Q4 x5.s.Shelves,.sl 2 Q5 x5.s.Robots,.i x5.st.Tick,.sl 1 eI x5.st.Shelves,.sl 6 Q0 x5.st.Robots,.sl 1 eI x5.st.People,.sl 1 eI x5.st.Dead,.sl 2 Q7 x5.st.Stuck,.sl 1 eI x5.homes,.o 2]),(2,.val (.om kI veB s12.1)),(3,.val (.os 1 eI s12.2.1))]) g (fun s12 Y13 g=>?_)) (Wk.mk' [some 1,some 3,some 2,none] rfl rfl ⟨⟨_,rfl,(.eq rfl)⟩,⟨_,rfl,(.eq rfl)⟩,⟨_,rfl,(.nilO _ _ ⟨rfl,rfl⟩ rfl)⟩,ChkG.eqs rfl⟩ ⟨bX,bX,vL,⟨_,rfl,.nil _ _⟩,trivial⟩ rfl)
 refine C.seq (C.ss (U.pd 5 T (C.nx ?_)))
 refine C.ite rfl g (fun b16 g=>?_) fun b16 g=>?_
 refine C.skip (C.xs (C.block (C.ss (U.ps 2 T rfl (U.k (Gc ({s:=x5.s,st:=x5.st,homes:=x5.homes,home:=s12.1:Qd}) s12.2.2 _ g) en57 (fun x19 g=>?_))))))
 refine U.pd 2 T (C.nx ?_)
 refine C.jn (fun (x20:List (Int×Bool)×List Int×Int)=>[(4,.p 0 0),(8,.p 1 0),(9,.o 3),(10,.i x20.2.2)]) (fun x20=>[(0,.box (Q1 st)),(1,.box [.i x5.s.Floor.W,.i x5.s.Floor.H,.i x5.s.Floor.D,.sl 1 eI x5.s.Floor.Kind,.sl 1 eI x5.s.Floor.Out,.sl 5 Q8 x5.s.Zones,.sl 2 Q3 x5.s.Aparts,.sl 2 Q4 x5.s.Shelves,.sl 2 Q5 x5.s.Robots,.i x5.st.Tick,.sl 1 eI x5.st.Shelves,.sl 6 Q0 x5.st.Robots,.sl 1 eI x5.st.People,.sl 1 eI x5.st.Dead,.sl 2 Q7 x5.st.Stuck,.sl 1 eI x5.homes,.o 2]),(2,.val (.om kI veB x20.1)),(3,.val (.os 1 eI x20.2.1))]) 4 g (fun x20 g=>?_) fun J21 g j21=>?_
 refine C.bnx (C.nx (U.start (U.pd 3 T (C.nx ?_))))
 exact St.wk (C.next g) (Wk.a (idR 4))
 refine C.ite rfl g (fun b22 g=>?_) fun b22 g=>?_
 refine C.ss (U.ps 5 T rfl (U.e1 rfl (.none rfl) (by exact Eff1.mu T (x:=s12.2.2) (y:=true) (.inl rfl) rfl kt3 (fun _=>rfl) rfl rfl rfl rfl rfl (.inl rfl) rfl) ?_))
 refine U.done (C.xt (U.ps 2 T rfl (U.bs T eI ([s12.2.2]:List Int) ?_)))
 obtain⟨y27,g⟩:=g
 refine U.ap T y27 ?_
 refine U.pd 1 T (C.nx (U.start ?_))
 refine U.pd 1 T ?_
 exact St.wa [some 0,some 1,some 2,some 6] (j21 _ g)
 refine C.skip ?_
 exact St.wa (idR 4) (j21 _ g)
 refine C.exit (C.ex (C.ex (C.bex ?_)))
 exact St.wa (sqR 1 3) (j11 _ g)
theorem YB (s_1:List Int) (v:Int) (post:Int→Prop) (g:Kt s_1 v post):
  Tr Tryz.prog 95 [.sl 1 eI s_1,.i v] [] 0 (pI post):=by
 refine Tr.go Tryz.func95 Tryz.ntmps95 fun _ _ _ _ o=>?_
 unfold Kt at g
 refine C.ss (U.pd 1 T (C.xs (C.ss ?_)))
 refine U.pd 3 T (C.nx ?_)
 refine C.jn (fun (x5:Unit)=>[]) (fun x5=>[]) 0 g (fun x5 g=>?_) fun J6 g j6=>?_
 refine C.xt (U.pd 1 T (C.nx (C.ret ?_)))
 exact C.f1 T o (pIi g)
 refine C.block (St.wk (C.loop (fun (s7:Int)=>[(0,.sl 1 eI s_1),(1,.i v),(7,.i (s_1.length:Int)),(8,.i s7)]) (fun s7=>[]) g (fun s7 Y8 g=>?_)) (Wk.e))
 refine C.ss (U.pd 1 T (C.xs ?_))
 refine C.ite rfl g (fun b11 g=>?_) fun b11 g=>?_
 refine C.skip (C.xs (C.block (C.ss (U.pd 2 T (C.xt ?_)))))
 refine U.ps 3 T rfl ?_
 obtain⟨x16,y16,g⟩:=g
 refine U.ix T y16 ?_
 refine U.pd 2 T (C.nx ?_)
 refine C.ite rfl g (fun b17 g=>?_) fun b17 g=>?_
 refine C.ss (U.pd 2 T (C.nx (C.ret (C.brt (C.rt (C.rt (C.brt (C.rt ?_))))))))
 exact C.f1 T o (pIi g)
 refine C.skip (C.bnx (C.nx (U.start (U.pd 2 T (C.nx ?_)))))
 exact St.wk (C.next g) (Wk.e)
 refine C.exit (C.ex (C.ex (C.bex ?_)))
 exact St.wk (j6 _ g) (Wk.mk' [] rfl rfl trivial trivial rfl)
theorem QL (s_1:List Int) (v:Int) (post:Bool→Prop) (g:Qf s_1 v post):
  Tr Tryz.prog 54 [.sl 1 eI s_1,.i v] [] 0 (pB post):=by
 refine Tr.go Tryz.func54 Tryz.ntmps54 fun _ _ _ _ o=>?_
 unfold Qf at g
 refine C.ss (U.pd 1 T (C.xt ?_))
 refine U.ps 2 T rfl (U.k (YB s_1 v _ g) en95 (fun x5 g=>?_))
 refine U.pd 2 T (C.nx (C.ret ?_))
 exact C.f1 T o (pBi g)
theorem Q3D (s_1:ApiSite) (st:ApiState) (homes:List Int) (order:List Int) (post:(Int×Int)→Prop) (g:GX s_1 st homes order post):
  Tr Tryz.prog 17 [.agg (Q6 s_1),.agg (Q1 st),.sl 1 eI homes,.sl 1 eI order] [] 0 (fun A H' k=>∃y,post y∧A=(.tup [.i y.1,.i y.2])∧H'=[]∧k=0):=by
 refine Tr.go Tryz.func17 Tryz.ntmps17 fun _ _ _ _ o=>?_
 unfold GX at g
 refine C.ss (U.bx ?_)
 refine U.bx ?_
 refine U.pd 2 T (C.xt ?_)
 refine U.ps 3 T rfl (U.e rfl (.none rfl) (by exact Eff.c [] (v:=false) (Gp s_1 st homes [] _ g) en56 rfl rfl rfl (.cons (.eq rfl) (.cons (.eq rfl) (.cons (.eq rfl) (.cons (.nil _ _ _ _ ⟨rfl,rfl⟩) .nil)))) trivial rfl rfl rfl rfl rfl rfl (fun h=>by cases h) (.inr ⟨rfl,rfl⟩) (fun _=>rfl) (fun _=>rfl) rfl) (fun x5' g=>?_))
 obtain⟨x5⟩:=x5'
 refine U.pd 1 T (C.xs (C.ss ?_))
 refine U.pd 3 T (C.nx ?_)
 refine C.jn (fun (x8:Unit)=>[(3,.sl 1 eI order),(10,.p 0 0)]) (fun x8=>[(0,.box [.i x5.s.Floor.W,.i x5.s.Floor.H,.i x5.s.Floor.D,.sl 1 eI x5.s.Floor.Kind,.sl 1 eI x5.s.Floor.Out,.sl 5 Q8 x5.s.Zones,.sl 2 Q3 x5.s.Aparts,.sl 2 Q4 x5.s.Shelves,.sl 2 Q5 x5.s.Robots,.i x5.st.Tick,.sl 1 eI x5.st.Shelves,.sl 6 Q0 x5.st.Robots,.sl 1 eI x5.st.People,.sl 1 eI x5.st.Dead,.sl 2 Q7 x5.st.Stuck,.sl 1 eI x5.homes,.o 1]),(1,.val (.om kI veB x5.home))]) 2 g (fun x8 g=>?_) fun J9 g j9=>?_
 refine C.xs (C.ss (U.pd 3 T (C.nx ?_)))
 refine C.jn (fun (x31:List (Int×Bool))=>[(3,.sl 1 eI order),(10,.p 0 0)]) (fun x31=>[(0,.box [.i x5.s.Floor.W,.i x5.s.Floor.H,.i x5.s.Floor.D,.sl 1 eI x5.s.Floor.Kind,.sl 1 eI x5.s.Floor.Out,.sl 5 Q8 x5.s.Zones,.sl 2 Q3 x5.s.Aparts,.sl 2 Q4 x5.s.Shelves,.sl 2 Q5 x5.s.Robots,.i x5.st.Tick,.sl 1 eI x5.st.Shelves,.sl 6 Q0 x5.st.Robots,.sl 1 eI x5.st.People,.sl 1 eI x5.st.Dead,.sl 2 Q7 x5.st.Stuck,.sl 1 eI x5.homes,.o 1]),(1,.val (.om kI veB x31))]) 2 g (fun x31 g=>?_) fun J32 g j32=>?_
 refine C.xs (C.ss (U.ps 1 T rfl (U.k (Wc ({s:=x5.s,st:=x5.st,homes:=x5.homes,home:=x31:Qd}) _ g) en58 (fun x53 g=>?_))))
 refine U.pd 1 T (C.nx ?_)
 refine C.ite rfl g (fun b54 g=>?_) fun b54 g=>?_
 refine C.ss (U.pd 4 T (C.nx (C.ret (C.rt ?_))))
 exact C.f9 T o ⟨((order.length:Int),19),g,rfl,rfl,rfl⟩
 refine C.skip (C.xt (U.pd 2 T (C.nx (C.ret ?_))))
 exact C.f9 T o ⟨((-1),0),g,rfl,rfl,rfl⟩
 refine C.block ?_
 refine St.wk (C.loop (fun (s33:List (Int×Bool)×Int)=>[(3,.sl 1 eI order),(10,.p 0 0),(39,.sl 1 eI order),(40,.i (order.length:Int)),(41,.i s33.2)]) (fun s33=>[(0,.box [.i x5.s.Floor.W,.i x5.s.Floor.H,.i x5.s.Floor.D,.sl 1 eI x5.s.Floor.Kind,.sl 1 eI x5.s.Floor.Out,.sl 5 Q8 x5.s.Zones,.sl 2 Q3 x5.s.Aparts,.sl 2 Q4 x5.s.Shelves,.sl 2 Q5 x5.s.Robots,.i x5.st.Tick,.sl 1 eI x5.st.Shelves,.sl 6 Q0 x5.st.Robots,.sl 1 eI x5.st.People,.sl 1 eI x5.st.Dead,.sl 2 Q7 x5.st.Stuck,.sl 1 eI x5.homes,.o 1]),(1,.val (.om kI veB s33.1))]) g (fun s33 Y34 g=>?_)) (Wk.a (idR 2))
 refine C.ss (U.pd 1 T (C.xs ?_))
 refine C.ite rfl g (fun b37 g=>?_) fun b37 g=>?_
 refine C.skip (C.xs (C.block (C.ss (U.ps 1 T rfl ?_))))
 obtain⟨x40,y40,g⟩:=g
 refine U.ix T y40 ?_
 refine U.pd 3 T (C.xs (C.ss ?_))
 refine U.ps 2 T rfl (U.k (Gc ({s:=x5.s,st:=x5.st,homes:=x5.homes,home:=s33.1:Qd}) x40 _ g) en57 (fun x43 g=>?_))
 refine U.pd 2 T (C.nx ?_)
 refine C.ite rfl g (fun b44 g=>?_) fun b44 g=>?_
 refine C.ss (U.pd 3 T (C.nx (C.ret (C.rt (C.brt (C.rt (C.rt (C.brt (C.rt ?_)))))))))
 exact C.f9 T o ⟨(s33.2,14),g,rfl,rfl,rfl⟩
 refine C.skip (C.nx (U.start (U.ps 5 T rfl (U.e1 rfl (.none rfl) (by exact Eff1.mu T (x:=x40) (y:=true) (.inl rfl) rfl kt3 (fun _=>rfl) rfl rfl rfl rfl rfl (.inl rfl) rfl) ?_))))
 refine U.done (C.bnx (C.nx (U.start (U.pd 2 T (C.nx ?_)))))
 exact St.wk (C.next g) (Wk.a (idR 2))
 refine C.exit (C.ex (C.ex (C.bex ?_)))
 exact St.wa (idR 2) (j32 _ g)
 refine C.block ?_
 refine St.wk (C.loop (fun (s10:Int)=>[(3,.sl 1 eI order),(10,.p 0 0),(19,.sl 1 eI order),(20,.i (order.length:Int)),(21,.i s10)]) (fun s10=>[(0,.box [.i x5.s.Floor.W,.i x5.s.Floor.H,.i x5.s.Floor.D,.sl 1 eI x5.s.Floor.Kind,.sl 1 eI x5.s.Floor.Out,.sl 5 Q8 x5.s.Zones,.sl 2 Q3 x5.s.Aparts,.sl 2 Q4 x5.s.Shelves,.sl 2 Q5 x5.s.Robots,.i x5.st.Tick,.sl 1 eI x5.st.Shelves,.sl 6 Q0 x5.st.Robots,.sl 1 eI x5.st.People,.sl 1 eI x5.st.Dead,.sl 2 Q7 x5.st.Stuck,.sl 1 eI x5.homes,.o 1]),(1,.val (.om kI veB x5.home))]) g (fun s10 Y11 g=>?_)) (Wk.a [some 3,some 2])
 refine C.ss (U.pd 1 T (C.xs ?_))
 refine C.ite rfl g (fun b14 g=>?_) fun b14 g=>?_
 refine C.skip (C.xs (C.block (C.ss (U.ps 1 T rfl ?_))))
 obtain⟨x17,y17,g⟩:=g
 refine U.ix T y17 ?_
 refine U.pd 3 T (C.xs ?_)
 refine C.jn (fun (x18:Bool)=>[(3,.sl 1 eI order),(10,.p 0 0),(11,.i s10),(19,.sl 1 eI order),(20,.i (order.length:Int)),(21,.i s10),(36,.b x18)]) (fun x18=>[(0,.box [.i x5.s.Floor.W,.i x5.s.Floor.H,.i x5.s.Floor.D,.sl 1 eI x5.s.Floor.Kind,.sl 1 eI x5.s.Floor.Out,.sl 5 Q8 x5.s.Zones,.sl 2 Q3 x5.s.Aparts,.sl 2 Q4 x5.s.Shelves,.sl 2 Q5 x5.s.Robots,.i x5.st.Tick,.sl 1 eI x5.st.Shelves,.sl 6 Q0 x5.st.Robots,.sl 1 eI x5.st.People,.sl 1 eI x5.st.Dead,.sl 2 Q7 x5.st.Stuck,.sl 1 eI x5.homes,.o 1]),(1,.val (.om kI veB x5.home))]) 2 g (fun x18 g=>?_) fun J19 g j19=>?_
 refine C.nx ?_
 refine C.ite rfl g (fun b24 g=>?_) fun b24 g=>?_
 refine C.ss (U.pd 3 T (C.nx (C.ret (C.brt (C.rt (C.rt (C.brt (C.rt ?_))))))))
 exact C.f9 T o ⟨(s10,1),g,rfl,rfl,rfl⟩
 refine C.skip (C.bnx (C.nx (U.start (U.pd 2 T (C.nx ?_)))))
 exact St.wk (C.next g) (Wk.a (idR 2))
 refine U.start (U.ps 2 T rfl (U.k (X1 x5 x17 _ g) en60 (fun x20 g=>?_)))
 refine U.ps 2 T rfl ?_
 refine g.cs (fun b21 g=>?_) fun b21 g=>?_
 refine U.pq 2 4 false 30 (ntF b21) T ?_
 obtain⟨y22,g⟩:=g
 refine U.r rfl (.tk 4 false 30 (ntF b21)) rfl rfl (by exact Rd.so T rfl rfl rfl rfl rfl (.none _) (.some _ rfl) y22) ?_
 refine U.pq 1 4 false 30 (ntF b21) T ?_
 refine U.k (QL (sub order 0 s10) x17 _ g) en54 (fun x23 g=>?_) (hw:=.take 4 false 30 _ (ntF b21) rfl rfl rfl)
 refine U.pk' (ntF b21) ?_
 refine U.done ?_
 exact St.wa (idR 2) (j19 _ g)
 refine U.sk' 5 4 false 30 (ntT b21) ?_
 refine U.pk (ntT b21) ?_
 refine U.done ?_
 exact St.wa (idR 2) (j19 _ g)
 refine C.exit (C.ex (C.ex (C.bex ?_)))
 exact St.wa (idR 2) (j9 _ g)
theorem GH (a:List Int) (b:List Int) (post:Bool→Prop) (g:Kc a b post):
  Tr Tryz.prog 19 [.sl 1 eI a,.sl 1 eI b] [] 0 (pB post):=by
 refine Tr.go Tryz.func19 Tryz.ntmps19 fun _ _ _ _ o=>?_
 unfold Kc at g
 refine C.ss (U.pd 1 T (C.xs (C.ss ?_)))
 refine U.pd 5 T (C.nx ?_)
 refine C.ite rfl g (fun b5 g=>?_) fun b5 g=>?_
 refine C.ss (U.pd 1 T (C.nx (C.ret (C.rt ?_))))
 exact C.f1 T o (pBi g)
 refine C.skip (C.xs (C.ss (U.pd 1 T (C.nx ?_))))
 refine C.jn (fun (x10:Unit)=>[]) (fun x10=>[]) 0 g (fun x10 g=>?_) fun J11 g j11=>?_
 refine C.xt (U.pd 1 T (C.nx (C.ret ?_)))
 exact C.f1 T o (pBi g)
 refine C.block (St.wk (C.loop (fun (s12:Int)=>[(0,.sl 1 eI a),(1,.sl 1 eI b),(5,.i s12)]) (fun s12=>[]) g (fun s12 Y13 g=>?_)) (Wk.e))
 refine C.seq (C.ss (U.pd 4 T (C.nx ?_)))
 refine C.ite rfl g (fun b16 g=>?_) fun b16 g=>?_
 refine C.skip (C.xs (C.block (C.seq (D.bq mix 9999 [] [] (fun hQ hS ws M'=>?_)))))
 refine D.pq 2 (zl [0,1]) T ?_
 obtain⟨x19,y19,g⟩:=g
 refine D.ix 2 [] T y19 ?_
 refine D.pq 3 (zl [3,4,5]) T ?_
 obtain⟨x20,y20,g⟩:=g
 refine D.ix 6 [] T y20 ?_
 refine D.pq 2 (zl [7,8]) T ?_
 refine D.done (by kernel_rfl) ?_
 refine C.nx ?_
 refine C.ite rfl g (fun b21 g=>?_) fun b21 g=>?_
 refine C.ss (U.pd 1 T (C.nx (C.ret (C.brt (C.rt (C.rt (C.brt (C.rt ?_))))))))
 exact C.f1 T o (pBi g)
 refine C.skip (C.bnx (C.nx (U.start (U.pd 3 T (C.nx ?_)))))
 exact St.wk (C.next g) (Wk.e)
 refine C.exit (C.ex (C.ex (C.bex ?_)))
 exact St.wk (j11 _ g) (Wk.mk' [] rfl rfl trivial trivial rfl)
theorem Q2k (s_1:ApiSite) (st:ApiState) (homes:List Int) (gone:List Int) (robot:Int) (post:(List Int)→Prop) (g:Wl s_1 st homes gone robot post):
  Tr Tryz.prog 20 [.agg (Q6 s_1),.agg (Q1 st),.sl 1 eI homes,.sl 1 eI gone,.i robot] [] 0 (fun A H' k=>∃y,post y∧A=(.o 0)∧H'=[(0,.val (.os 1 eI y))]∧k=1):=by
 refine Tr.go Tryz.func20 Tryz.ntmps20 fun _ _ _ _ o=>?_
 unfold Wl at g
 refine C.ss (U.bx ?_)
 refine U.bx ?_
 refine U.pd 1 T (C.xt ?_)
 refine U.ps 4 T rfl (U.e rfl (.none rfl) (by exact Eff.c [] (v:=false) (Gp s_1 st homes gone _ g) en56 rfl rfl rfl (.eq rfl) trivial rfl rfl rfl rfl rfl rfl (fun h=>by cases h) (.inr ⟨rfl,rfl⟩) (fun _=>rfl) (fun _=>rfl) rfl) (fun x5' g=>?_))
 obtain⟨x5⟩:=x5'
 refine U.ps 1 T rfl (U.k (Gc x5 robot _ g) en57 (fun x6 g=>?_))
 refine U.pd 1 T (C.nx (C.ret ?_))
 exact C.g1 [some 4] T o ⟨x6,g,rfl,rfl,rfl⟩
theorem ZD (post:Bool→Prop) (g:KY post):
  Tr Tryz.prog 8 [] [] 0 (pB post):=by
 refine Tr.go Tryz.func8 Tryz.ntmps8 fun _ _ _ _ o=>?_
 unfold KY at g
 refine C.ss (U.pd 1 T (C.xt ?_))
 refine U.e rfl (.none rfl) (by exact Eff.c [] (v:=false) (Ze _ g) en28 rfl rfl rfl (.eq rfl) trivial rfl rfl rfl rfl rfl rfl (fun h=>by cases h) (.inr ⟨rfl,rfl⟩) (fun _=>rfl) (fun _=>rfl) rfl) (fun x5' g=>?_)
 obtain⟨x5⟩:=x5'
 refine U.ps 3 T rfl (U.al T ?_)
 refine U.al T ?_
 refine U.st T ?_
 refine U.st T ?_
 refine U.done (C.xt (U.ps 2 T rfl (U.bs T eI ([0,4]:List Int) ?_)))
 refine U.k (ZF x5.1 x5.2 ([0,4]:List Int) _ g) en15 fun x8 g=>?_
 refine U.pd 5 T (C.xt ?_)
 refine U.ps 2 T rfl (U.bs T eI ([4,3]:List Int) ?_)
 refine U.k (ZF x5.1 x5.2 ([4,3]:List Int) _ g) en15 fun x11 g=>?_
 refine U.pd 5 T (C.xt ?_)
 refine U.ps 2 T rfl (U.bs T eI ([4,3]:List Int) ?_)
 refine U.bs T eI ([1,0]:List Int) ?_
 refine U.k (Q3D x5.1 x5.2 ([4,3]:List Int) ([1,0]:List Int) _ g) en17 fun x14 g=>?_
 refine U.pd 5 T (C.xs ?_)
 refine C.jn (fun (x15:Bool)=>[(0,.b x15)]) (fun x15=>[]) 0 g (fun x15 g=>?_) fun J16 g j16=>?_
 refine C.nx (C.ret ?_)
 exact C.f1 T o (pBi g)
 refine U.start (U.ps 2 T rfl ?_)
 refine g.cs (fun b17 g=>?_) fun b17 g=>?_
 refine U.pq 1 1 true 36 b17 T ?_
 refine U.e1 rfl (.tk 1 true 36 b17) (by exact Eff1.bs T (enc:=eI) (xs:=([0,1]:List Int)) rfl rfl rfl rfl rfl rfl rfl rfl rfl rfl (fun _ _=>rfl) rfl rfl) ?_
 refine U.k (GH x8.1 ([0,1]:List Int) _ g) en19 (fun x18 g=>?_) (hw:=.take 1 true 36 _ b17 rfl rfl rfl)
 refine U.pk b17 ?_
 refine U.ps 1 T rfl ?_
 refine g.cs (fun b19 g=>?_) fun b19 g=>?_
 refine U.pq 2 6 true 41 b19 T ?_
 refine U.pk b19 ?_
 refine U.ps 1 T rfl ?_
 refine g.cs (fun b20 g=>?_) fun b20 g=>?_
 refine U.sk' 3 10 true 45 (ntF b20) ?_
 refine U.pk' (ntF b20) ?_
 refine U.ps 1 T rfl (U.sk' 2 15 true 50 rfl ?_)
 refine U.pk' rfl ?_
 refine U.ps 1 T rfl (U.sk' 2 19 true 54 rfl ?_)
 refine U.pk' rfl ?_
 refine U.ps 1 T rfl (U.sk' 6 23 true 58 rfl ?_)
 refine U.pk' rfl ?_
 refine U.pd 1 T ?_
 exact St.wn (j16 _ g)
 refine U.pq 1 10 true 45 (ntT b20) T ?_
 refine U.e1 rfl (.tk 10 true 45 (ntT b20)) (by exact Eff1.bs T (enc:=eI) (xs:=([1]:List Int)) rfl rfl rfl rfl rfl rfl rfl rfl rfl rfl (fun _ _=>rfl) rfl rfl) ?_
 refine U.k (GH x11.1 ([1]:List Int) _ g) en19 (fun x21 g=>?_) (hw:=.take 10 true 45 _ (ntT b20) rfl rfl rfl)
 refine U.pk (ntT b20) ?_
 refine U.ps 1 T rfl ?_
 refine g.cs (fun b22 g=>?_) fun b22 g=>?_
 refine U.pq 2 15 true 50 b22 T ?_
 refine U.pk b22 ?_
 refine U.ps 1 T rfl ?_
 refine g.cs (fun b23 g=>?_) fun b23 g=>?_
 refine U.pq 2 19 true 54 b23 T ?_
 refine U.pk b23 ?_
 refine U.ps 1 T rfl ?_
 refine g.cs (fun b24 g=>?_) fun b24 g=>?_
 refine U.pq 2 23 true 58 b24 T ?_
 refine U.e1 rfl (.tk 23 true 58 b24) (by exact Eff1.bs T (enc:=eI) (xs:=([0,1]:List Int)) rfl rfl rfl rfl rfl rfl rfl rfl rfl rfl (fun _ _=>rfl) rfl rfl) ?_
 refine U.k (Q2k x5.1 x5.2 ([0,1]:List Int) [] 0 _ g) en20 (fun x25 g=>?_) (hw:=.take 23 true 58 _ b24 rfl rfl rfl)
 refine U.e1 rfl (.tk 23 true 58 b24) (by exact Eff1.bs T (enc:=eI) (xs:=([1,0]:List Int)) rfl rfl rfl rfl rfl rfl rfl rfl rfl rfl (fun _ _=>rfl) rfl rfl) ?_
 refine U.k (GH x25 ([1,0]:List Int) _ g) en19 (fun x26 g=>?_) (hw:=.take 23 true 58 _ b24 rfl rfl rfl)
 refine U.pk b24 ?_
 refine U.pd 1 T ?_
 exact St.wn (j16 _ g)
 refine U.sk' 6 23 true 58 b24 ?_
 refine U.pk' b24 ?_
 refine U.pd 1 T ?_
 exact St.wn (j16 _ g)
 refine U.sk' 2 19 true 54 b23 ?_
 refine U.pk' b23 ?_
 refine U.ps 1 T rfl (U.sk' 6 23 true 58 rfl ?_)
 refine U.pk' rfl ?_
 refine U.pd 1 T ?_
 exact St.wn (j16 _ g)
 refine U.sk' 2 15 true 50 b22 ?_
 refine U.pk' b22 ?_
 refine U.ps 1 T rfl (U.sk' 2 19 true 54 rfl ?_)
 refine U.pk' rfl ?_
 refine U.ps 1 T rfl (U.sk' 6 23 true 58 rfl ?_)
 refine U.pk' rfl ?_
 refine U.pd 1 T ?_
 exact St.wn (j16 _ g)
 refine U.sk' 2 6 true 41 b19 ?_
 refine U.pk' b19 ?_
 refine U.ps 1 T rfl (U.sk' 3 10 true 45 rfl ?_)
 refine U.pk' rfl ?_
 refine U.ps 1 T rfl (U.sk' 2 15 true 50 rfl ?_)
 refine U.pk' rfl ?_
 refine U.ps 1 T rfl (U.sk' 2 19 true 54 rfl ?_)
 refine U.pk' rfl ?_
 refine U.ps 1 T rfl (U.sk' 6 23 true 58 rfl ?_)
 refine U.pk' rfl ?_
 refine U.pd 1 T ?_
 exact St.wn (j16 _ g)
 refine U.sk' 3 1 true 36 b17 ?_
 refine U.pk' b17 ?_
 refine U.ps 1 T rfl (U.sk' 2 6 true 41 rfl ?_)
 refine U.pk' rfl ?_
 refine U.ps 1 T rfl (U.sk' 3 10 true 45 rfl ?_)
 refine U.pk' rfl ?_
 refine U.ps 1 T rfl (U.sk' 2 15 true 50 rfl ?_)
 refine U.pk' rfl ?_
 refine U.ps 1 T rfl (U.sk' 2 19 true 54 rfl ?_)
 refine U.pk' rfl ?_
 refine U.ps 1 T rfl (U.sk' 6 23 true 58 rfl ?_)
 refine U.pk' rfl ?_
 refine U.pd 1 T ?_
 exact St.wn (j16 _ g)
theorem Q0A (f:ApiFloor) (n:Int) (post:Bool→Prop) (g:Xq f n post):
  Tr Tryz.prog 29 [.agg (Qc f),.i n] [] 0 (pB post):=by
 refine Tr.go Tryz.func29 Tryz.ntmps29 fun _ _ _ _ o=>?_
 unfold Xq at g
 refine C.ss (U.bx ?_)
 refine U.pd 1 T (C.xs ?_)
 refine C.jn (fun (x3:Bool)=>[(4,.b x3)]) (fun x3=>[]) 0 g (fun x3 g=>?_) fun J4 g j4=>?_
 refine C.nx (C.ret ?_)
 exact C.f1 T o (pBi g)
 refine U.start (U.ps 6 T rfl ?_)
 refine g.cs (fun b5 g=>?_) fun b5 g=>?_
 refine U.pq 5 5 true 10 b5 T ?_
 refine U.pk b5 ?_
 refine U.pd 1 T ?_
 exact St.wn (j4 _ g)
 refine U.sk' 5 5 true 10 b5 ?_
 refine U.pk' b5 ?_
 refine U.pd 1 T ?_
 exact St.wn (j4 _ g)
theorem Q0e (s_1:ApiSite) (cells:Int) (most:Int) (post:Bool→Prop) (g:Xk s_1 cells most post):
  Tr Tryz.prog 9 [.agg (Q6 s_1),.i cells,.i most] [] 0 (pB post):=by
 refine Tr.go Tryz.func9 Tryz.ntmps9 fun _ _ _ _ o=>?_
 unfold Xk at g
 refine C.ss (U.bx ?_)
 refine U.pd 1 T (C.xs (C.ss ?_))
 refine U.pd 1 T (C.nx ?_)
 refine C.jn (fun (x5:Unit)=>[(1,.i cells),(2,.i most),(3,.p 0 0)]) (fun x5=>[(0,.box (Q6 s_1))]) 1 g (fun x5 g=>?_) fun J6 g j6=>?_
 refine C.xs (C.ss (U.pd 1 T (C.nx ?_)))
 refine C.jn (fun (x25:Unit)=>[(1,.i cells),(2,.i most),(3,.p 0 0)]) (fun x25=>[(0,.box (Q6 s_1))]) 1 g (fun x25 g=>?_) fun J26 g j26=>?_
 refine C.xs (C.ss (U.pd 1 T (C.nx ?_)))
 refine C.jn (fun (x44:Unit)=>[(1,.i cells),(2,.i most),(3,.p 0 0)]) (fun x44=>[(0,.box (Q6 s_1))]) 1 g (fun x44 g=>?_) fun J45 g j45=>?_
 refine C.xs ?_
 refine C.jn (fun (x60:Bool)=>[(6,.b x60)]) (fun x60=>[]) 0 g (fun x60 g=>?_) fun J61 g j61=>?_
 refine C.nx (C.ret ?_)
 exact C.f1 T o (pBi g)
 refine U.start (U.ps 3 T rfl (U.k (Q0A s_1.Floor cells _ g) en29 (fun x62 g=>?_)))
 refine U.ps 1 T rfl ?_
 refine g.cs (fun b63 g=>?_) fun b63 g=>?_
 refine U.pq 5 4 true 105 b63 T ?_
 refine U.pk b63 ?_
 refine U.ps 1 T rfl ?_
 refine g.cs (fun b64 g=>?_) fun b64 g=>?_
 refine U.pq 5 11 true 112 b64 T ?_
 refine U.pk b64 ?_
 refine U.ps 1 T rfl ?_
 refine g.cs (fun b65 g=>?_) fun b65 g=>?_
 refine U.pq 5 18 true 119 b65 T ?_
 refine U.pk b65 ?_
 refine U.ps 1 T rfl ?_
 refine g.cs (fun b66 g=>?_) fun b66 g=>?_
 refine U.pq 5 25 true 126 b66 T ?_
 refine U.pk b66 ?_
 refine U.pd 1 T ?_
 exact St.wn (j61 _ g)
 refine U.sk' 5 25 true 126 b66 ?_
 refine U.pk' b66 ?_
 refine U.pd 1 T ?_
 exact St.wn (j61 _ g)
 refine U.sk' 5 18 true 119 b65 ?_
 refine U.pk' b65 ?_
 refine U.ps 1 T rfl (U.sk' 5 25 true 126 rfl ?_)
 refine U.pk' rfl ?_
 refine U.pd 1 T ?_
 exact St.wn (j61 _ g)
 refine U.sk' 5 11 true 112 b64 ?_
 refine U.pk' b64 ?_
 refine U.ps 1 T rfl (U.sk' 5 18 true 119 rfl ?_)
 refine U.pk' rfl ?_
 refine U.ps 1 T rfl (U.sk' 5 25 true 126 rfl ?_)
 refine U.pk' rfl ?_
 refine U.pd 1 T ?_
 exact St.wn (j61 _ g)
 refine U.sk' 5 4 true 105 b63 ?_
 refine U.pk' b63 ?_
 refine U.ps 1 T rfl (U.sk' 5 11 true 112 rfl ?_)
 refine U.pk' rfl ?_
 refine U.ps 1 T rfl (U.sk' 5 18 true 119 rfl ?_)
 refine U.pk' rfl ?_
 refine U.ps 1 T rfl (U.sk' 5 25 true 126 rfl ?_)
 refine U.pk' rfl ?_
 refine U.pd 1 T ?_
 exact St.wn (j61 _ g)
 refine C.block (St.wk (C.loop (fun (s46:Int)=>[(1,.i cells),(2,.i most),(3,.p 0 0),(9,.i s46)]) (fun s46=>[(0,.box (Q6 s_1))]) g (fun s46 Y47 g=>?_)) (Wk.a [some 0]))
 refine C.seq (C.seq ?_)
 refine C.jn (fun (x48:Bool)=>[(1,.i cells),(2,.i most),(3,.p 0 0),(9,.i s46),(90,.b x48)]) (fun x48=>[(0,.box (Q6 s_1))]) 1 g (fun x48 g=>?_) fun J49 g j49=>?_
 refine C.nx ?_
 refine C.ite rfl g (fun b51 g=>?_) fun b51 g=>?_
 refine C.skip (C.xs (C.block (C.ss (U.ps 3 T rfl ?_))))
 obtain⟨x54,y54,g⟩:=g
 refine U.ix T y54 ?_
 refine U.pd 4 T (C.nx ?_)
 refine C.ite rfl g (fun b55 g=>?_) fun b55 g=>?_
 refine C.ss (U.pd 1 T (C.nx (C.ret (C.brt (C.rt (C.rt (C.brt (C.rt ?_))))))))
 exact C.f1 T o (pBi g)
 refine C.skip (C.bnx (C.nx (U.start (U.pd 3 T (C.nx ?_)))))
 exact St.wk (C.next g) (Wk.a [some 0])
 refine C.exit (C.ex (C.ex (C.bex ?_)))
 exact St.wa [some 0] (j45 _ g)
 refine U.start (U.ps 6 T rfl ?_)
 refine g.cs (fun b50 g=>?_) fun b50 g=>?_
 refine U.pq 3 5 true 86 b50 T ?_
 refine U.pk b50 ?_
 refine U.done ?_
 exact St.wa [some 0] (j49 _ g)
 refine U.sk' 3 5 true 86 b50 ?_
 refine U.pk' b50 ?_
 refine U.done ?_
 exact St.wa [some 0] (j49 _ g)
 refine C.block (St.wk (C.loop (fun (s27:Int)=>[(1,.i cells),(2,.i most),(3,.p 0 0),(8,.i s27)]) (fun s27=>[(0,.box (Q6 s_1))]) g (fun s27 Y28 g=>?_)) (Wk.a [some 0]))
 refine C.seq (C.seq ?_)
 refine C.jn (fun (x29:Bool)=>[(1,.i cells),(2,.i most),(3,.p 0 0),(8,.i s27),(60,.b x29)]) (fun x29=>[(0,.box (Q6 s_1))]) 1 g (fun x29 g=>?_) fun J30 g j30=>?_
 refine C.nx ?_
 refine C.ite rfl g (fun b32 g=>?_) fun b32 g=>?_
 refine C.skip (C.xs (C.block (C.seq ?_)))
 refine C.jn (fun (x33:Bool)=>[(1,.i cells),(2,.i most),(3,.p 0 0),(8,.i s27),(80,.b x33)]) (fun x33=>[(0,.box (Q6 s_1))]) 1 g (fun x33 g=>?_) fun J34 g j34=>?_
 refine C.nx ?_
 refine C.ite rfl g (fun b37 g=>?_) fun b37 g=>?_
 refine C.ss (U.pd 1 T (C.nx (C.ret (C.brt (C.rt (C.rt (C.brt (C.rt ?_))))))))
 exact C.f1 T o (pBi g)
 refine C.skip (C.bnx (C.nx (U.start (U.pd 3 T (C.nx ?_)))))
 exact St.wk (C.next g) (Wk.a [some 0])
 refine U.start (U.ps 3 T rfl ?_)
 obtain⟨x35,y35,g⟩:=g
 refine U.ix T y35 ?_
 refine U.ps 5 T rfl ?_
 refine g.cs (fun b36 g=>?_) fun b36 g=>?_
 refine U.sk' 8 8 false 71 b36 ?_
 refine U.pk b36 ?_
 refine U.done ?_
 exact St.wa [some 0] (j34 _ g)
 refine U.pq 3 8 false 71 b36 T ?_
 refine U.r rfl (.tk 8 false 71 b36) rfl rfl (by exact Rd.ix T rfl rfl rfl rfl rfl rfl y35) ?_
 refine U.pq 4 8 false 71 b36 T ?_
 refine U.pk' b36 ?_
 refine U.done ?_
 exact St.wa [some 0] (j34 _ g)
 refine C.exit (C.ex (C.ex (C.bex ?_)))
 exact St.wa [some 0] (j26 _ g)
 refine U.start (U.ps 6 T rfl ?_)
 refine g.cs (fun b31 g=>?_) fun b31 g=>?_
 refine U.pq 3 5 true 56 b31 T ?_
 refine U.pk b31 ?_
 refine U.done ?_
 exact St.wa [some 0] (j30 _ g)
 refine U.sk' 3 5 true 56 b31 ?_
 refine U.pk' b31 ?_
 refine U.done ?_
 exact St.wa [some 0] (j30 _ g)
 refine C.block (St.wk (C.loop (fun (s7:Int)=>[(1,.i cells),(2,.i most),(3,.p 0 0),(7,.i s7)]) (fun s7=>[(0,.box (Q6 s_1))]) g (fun s7 Y8 g=>?_)) (Wk.a [some 0]))
 refine C.seq (C.seq ?_)
 refine C.jn (fun (x9:Bool)=>[(1,.i cells),(2,.i most),(3,.p 0 0),(7,.i s7),(19,.b x9)]) (fun x9=>[(0,.box (Q6 s_1))]) 1 g (fun x9 g=>?_) fun J10 g j10=>?_
 refine C.nx ?_
 refine C.ite rfl g (fun b12 g=>?_) fun b12 g=>?_
 refine C.skip (C.xs (C.block (C.seq ?_)))
 refine C.jn (fun (x13:Bool)=>[(1,.i cells),(2,.i most),(3,.p 0 0),(7,.i s7),(50,.b x13)]) (fun x13=>[(0,.box (Q6 s_1))]) 1 g (fun x13 g=>?_) fun J14 g j14=>?_
 refine C.nx ?_
 refine C.ite rfl g (fun b18 g=>?_) fun b18 g=>?_
 refine C.ss (U.pd 1 T (C.nx (C.ret (C.brt (C.rt (C.rt (C.brt (C.rt ?_))))))))
 exact C.f1 T o (pBi g)
 refine C.skip (C.bnx (C.nx (U.start (U.pd 3 T (C.nx ?_)))))
 exact St.wk (C.next g) (Wk.a [some 0])
 refine U.start (U.ps 3 T rfl ?_)
 obtain⟨x15,y15,g⟩:=g
 refine U.ix T y15 ?_
 refine U.ps 6 T rfl ?_
 refine g.cs (fun b16 g=>?_) fun b16 g=>?_
 refine U.sk' 8 9 false 31 b16 ?_
 refine U.pk b16 ?_
 refine U.ps 1 T rfl (U.sk' 8 19 false 41 rfl ?_)
 refine U.pk rfl ?_
 refine U.done ?_
 exact St.wa [some 0] (j14 _ g)
 refine U.pq 3 9 false 31 b16 T ?_
 refine U.r rfl (.tk 9 false 31 b16) rfl rfl (by exact Rd.ix T rfl rfl rfl rfl rfl rfl y15) ?_
 refine U.pq 4 9 false 31 b16 T ?_
 refine U.pk' b16 ?_
 refine U.ps 1 T rfl ?_
 refine g.cs (fun b17 g=>?_) fun b17 g=>?_
 refine U.sk' 8 19 false 41 b17 ?_
 refine U.pk b17 ?_
 refine U.done ?_
 exact St.wa [some 0] (j14 _ g)
 refine U.pq 3 19 false 41 b17 T ?_
 refine U.r rfl (.tk 19 false 41 b17) rfl rfl (by exact Rd.ix T rfl rfl rfl rfl rfl rfl y15) ?_
 refine U.pq 4 19 false 41 b17 T ?_
 refine U.pk' b17 ?_
 refine U.done ?_
 exact St.wa [some 0] (j14 _ g)
 refine C.exit (C.ex (C.ex (C.bex ?_)))
 exact St.wa [some 0] (j6 _ g)
 refine U.start (U.ps 6 T rfl ?_)
 refine g.cs (fun b11 g=>?_) fun b11 g=>?_
 refine U.pq 3 5 true 15 b11 T ?_
 refine U.pk b11 ?_
 refine U.done ?_
 exact St.wa [some 0] (j10 _ g)
 refine U.sk' 3 5 true 15 b11 ?_
 refine U.pk' b11 ?_
 refine U.done ?_
 exact St.wa [some 0] (j10 _ g)
theorem Q0p (st:ApiState) (post:Bool→Prop) (g:Xs st post):
  Tr Tryz.prog 10 [.agg (Q1 st)] [] 0 (pB post):=by
 refine Tr.go Tryz.func10 Tryz.ntmps10 fun _ _ _ _ o=>?_
 unfold Xs at g
 refine C.ss (U.bx ?_)
 refine U.pd 1 T (C.xs (C.seq ?_))
 refine C.jn (fun (x3:Bool)=>[(1,.p 0 0),(33,.b x3)]) (fun x3=>[(0,.box (Q1 st))]) 1 g (fun x3 g=>?_) fun J4 g j4=>?_
 refine C.nx ?_
 refine C.ite rfl g (fun b9 g=>?_) fun b9 g=>?_
 refine C.ss (U.pd 1 T (C.nx (C.ret (C.rt ?_))))
 exact C.f1 T o (pBi g)
 refine C.skip (C.xs (D.bq mix 9999 [0] [1,2,3] (fun hQ hS ws M'=>?_)))
 refine D.pq 6 (zl [1,2,4,5,7,8]) T ?_
 refine D.e1 0 rfl (.none rfl) (by exact Eff1.bs T (enc:=eI) (xs:=([]:List Int)) rfl rfl rfl rfl rfl rfl rfl rfl rfl rfl (fun _ _=>rfl) rfl rfl) (by kernel_rfl) rfl rfl ?_
 obtain⟨y14,g⟩:=g
 refine D.e1 3 rfl (.none rfl) (by exact Eff1.ap T rfl rfl rfl rfl rfl rfl (.inl rfl) rfl rfl rfl (fun _=>rfl) rfl y14) (by kernel_rfl) rfl rfl ?_
 obtain⟨y15,g⟩:=g
 refine D.e1 6 rfl (.none rfl) (by exact Eff1.ap T rfl rfl rfl rfl rfl rfl (.inl rfl) rfl rfl rfl (fun _=>rfl) rfl y15) (by kernel_rfl) rfl rfl ?_
 obtain⟨y16,g⟩:=g
 refine D.e1 9 rfl (.none rfl) (by exact Eff1.ap T rfl rfl rfl rfl rfl rfl (.inl rfl) rfl rfl rfl (fun _=>rfl) rfl y16) (by kernel_rfl) rfl rfl ?_
 refine D.pq 1 [(10,[])] T ?_
 refine D.done (by kernel_rfl) ?_
 refine C.xs (C.ss (U.pd 1 T (C.nx ?_)))
 refine C.jn (fun (x19:List Int)=>[(3,.o 0)]) (fun x19=>[(0,.val (.os 1 eI x19))]) 1 g (fun x19 g=>?_) fun J20 g j20=>?_
 refine C.xs (C.ss (U.pd 1 T (C.nx ?_)))
 refine C.jn (fun (x34:Unit)=>[]) (fun x34=>[]) 0 g (fun x34 g=>?_) fun J35 g j35=>?_
 refine C.xt (U.pd 1 T (C.nx (C.ret ?_)))
 exact C.f1 T o (pBi g)
 refine C.block (St.wk (C.loop (fun (s36:Int)=>[(3,.o 0),(5,.i s36)]) (fun s36=>[(0,.val (.os 1 eI x19))]) g (fun s36 Y37 g=>?_)) (Wk.a [some 0]))
 refine C.seq (C.ss (U.pd 4 T (C.nx ?_)))
 refine C.ite rfl g (fun b40 g=>?_) fun b40 g=>?_
 refine C.skip (C.xs (C.block (C.seq ?_)))
 refine C.jn (fun (x41:Bool)=>[(3,.o 0),(5,.i s36),(77,.b x41)]) (fun x41=>[(0,.val (.os 1 eI x19))]) 1 g (fun x41 g=>?_) fun J42 g j42=>?_
 refine C.nx ?_
 refine C.ite rfl g (fun b45 g=>?_) fun b45 g=>?_
 refine C.ss (U.pd 1 T (C.nx (C.ret (C.brt (C.rt (C.rt (C.brt (C.rt ?_))))))))
 exact C.f1 T o (pBi g)
 refine C.skip (C.bnx (C.nx (U.start (U.pd 3 T (C.nx ?_)))))
 exact St.wk (C.next g) (Wk.a [some 0])
 refine U.start (U.ps 2 T rfl ?_)
 obtain⟨x43,y43,g⟩:=g
 refine U.r rfl (.none rfl) rfl rfl (by exact Rd.io T rfl rfl rfl rfl rfl rfl rfl y43) ?_
 refine U.r rfl (.none rfl) rfl rfl (by exact Rd.le T rfl rfl rfl (Qe y43).2.2 rfl rfl rfl) ?_
 refine U.ps 2 T rfl ?_
 refine g.cs (fun b44 g=>?_) fun b44 g=>?_
 refine U.sk' 5 5 false 71 b44 ?_
 refine U.pk b44 ?_
 refine U.done ?_
 exact St.wa [some 0] (j42 _ g)
 refine U.pq 2 5 false 71 b44 T ?_
 refine U.r rfl (.tk 5 false 71 b44) rfl rfl (by exact Rd.io T rfl rfl rfl rfl rfl rfl rfl y43) ?_
 refine U.r rfl (.tk 5 false 71 b44) rfl rfl (by exact Rd.le T rfl rfl rfl (Qe y43).2.2 rfl rfl rfl) ?_
 refine U.pq 1 5 false 71 b44 T ?_
 refine U.pk' b44 ?_
 refine U.done ?_
 exact St.wa [some 0] (j42 _ g)
 refine C.exit (C.ex (C.ex (C.bex ?_)))
 exact St.wk (j35 _ g) (Wk.mk' [] rfl rfl trivial trivial rfl)
 refine C.block (St.wk (C.loop (fun (s21:List Int×Int)=>[(1,.p 0 0),(3,.o 1),(4,.i s21.2)]) (fun s21=>[(0,.box (Q1 st)),(1,.val (.os 1 eI s21.1))]) g (fun s21 Y22 g=>?_)) (Wk.a [some 0,some 4]))
 refine C.seq (C.ss (U.pd 5 T (C.nx ?_)))
 refine C.ite rfl g (fun b25 g=>?_) fun b25 g=>?_
 refine C.skip (C.xs (C.block (U.start (U.ps 4 T rfl ?_))))
 obtain⟨x28,y28,g⟩:=g
 refine U.ix T y28 ?_
 refine U.ps 2 T rfl (U.bs T eI ([x28.Cell]:List Int) ?_)
 obtain⟨y29,g⟩:=g
 refine U.ap T y29 ?_
 refine U.pd 1 T (C.bnx (C.nx (U.start ?_)))
 refine U.pd 3 T (C.nx ?_)
 exact St.wk (C.next g) (Wk.a [some 0,some 3])
 refine C.exit (C.ex (C.ex (C.bex ?_)))
 exact St.wa [some 1] (j20 _ g)
 refine U.start (U.ps 5 T rfl ?_)
 refine g.cs (fun b5 g=>?_) fun b5 g=>?_
 refine U.sk' 4 4 false 10 b5 ?_
 refine U.pk b5 ?_
 refine U.ps 1 T rfl (U.sk' 4 10 false 16 rfl ?_)
 refine U.pk rfl ?_
 refine U.ps 1 T rfl (U.sk' 4 16 false 22 rfl ?_)
 refine U.pk rfl ?_
 refine U.ps 1 T rfl (U.sk' 4 22 false 28 rfl ?_)
 refine U.pk rfl ?_
 refine U.done ?_
 exact St.wa [some 0] (j4 _ g)
 refine U.pq 4 4 false 10 b5 T ?_
 refine U.pk' b5 ?_
 refine U.ps 1 T rfl ?_
 refine g.cs (fun b6 g=>?_) fun b6 g=>?_
 refine U.sk' 4 10 false 16 b6 ?_
 refine U.pk b6 ?_
 refine U.ps 1 T rfl (U.sk' 4 16 false 22 rfl ?_)
 refine U.pk rfl ?_
 refine U.ps 1 T rfl (U.sk' 4 22 false 28 rfl ?_)
 refine U.pk rfl ?_
 refine U.done ?_
 exact St.wa [some 0] (j4 _ g)
 refine U.pq 4 10 false 16 b6 T ?_
 refine U.pk' b6 ?_
 refine U.ps 1 T rfl ?_
 refine g.cs (fun b7 g=>?_) fun b7 g=>?_
 refine U.sk' 4 16 false 22 b7 ?_
 refine U.pk b7 ?_
 refine U.ps 1 T rfl (U.sk' 4 22 false 28 rfl ?_)
 refine U.pk rfl ?_
 refine U.done ?_
 exact St.wa [some 0] (j4 _ g)
 refine U.pq 4 16 false 22 b7 T ?_
 refine U.pk' b7 ?_
 refine U.ps 1 T rfl ?_
 refine g.cs (fun b8 g=>?_) fun b8 g=>?_
 refine U.sk' 4 22 false 28 b8 ?_
 refine U.pk b8 ?_
 refine U.done ?_
 exact St.wa [some 0] (j4 _ g)
 refine U.pq 4 22 false 28 b8 T ?_
 refine U.pk' b8 ?_
 refine U.done ?_
 exact St.wa [some 0] (j4 _ g)
theorem Q2v (f:ApiFloor) (post:Bool→Prop) (g:Xw f post):
  Tr Tryz.prog 30 [.agg (Qc f)] [] 0 (pB post):=by
 refine Tr.go Tryz.func30 Tryz.ntmps30 fun _ _ _ _ o=>?_
 unfold Xw at g
 refine C.ss (U.bx ?_)
 refine U.pd 1 T (C.xs (C.seq ?_))
 refine C.jn (fun (x3:Bool)=>[(1,.p 0 0),(26,.b x3)]) (fun x3=>[(0,.box (Qc f))]) 1 g (fun x3 g=>?_) fun J4 g j4=>?_
 refine C.nx ?_
 refine C.ite rfl g (fun b7 g=>?_) fun b7 g=>?_
 refine C.ss (U.pd 1 T (C.nx (C.ret (C.rt ?_))))
 exact C.f1 T o (pBi g)
 refine C.skip (C.xt (U.ps 1 T rfl (U.k (WO f _ g) en72 (fun x12 g=>?_))))
 refine U.pd 1 T (C.xs (C.seq ?_))
 refine C.jn (fun (x13:Bool)=>[(1,.p 0 0),(44,.b x13)]) (fun x13=>[(0,.box (Qc f))]) 1 g (fun x13 g=>?_) fun J14 g j14=>?_
 refine C.nx ?_
 refine C.ite rfl g (fun b17 g=>?_) fun b17 g=>?_
 refine C.ss (U.pd 1 T (C.nx (C.ret (C.rt ?_))))
 exact C.f1 T o (pBi g)
 refine C.skip (C.xs (C.ss (U.pd 4 T (C.nx ?_))))
 refine C.jn (fun (x22:Unit)=>[]) (fun x22=>[]) 0 g (fun x22 g=>?_) fun J23 g j23=>?_
 refine C.xt (U.pd 1 T (C.nx (C.ret ?_)))
 exact C.f1 T o (pBi g)
 refine C.block (St.wk (C.loop (fun (s24:Int)=>[(1,.p 0 0),(46,.sl 1 eI f.Kind),(47,.i (f.Kind.length:Int)),(48,.i s24)]) (fun s24=>[(0,.box (Qc f))]) g (fun s24 Y25 g=>?_)) (Wk.a [some 0]))
 refine C.ss (U.pd 1 T (C.xs ?_))
 refine C.ite rfl g (fun b28 g=>?_) fun b28 g=>?_
 refine C.skip (C.xs (C.block (C.ss (U.ps 1 T rfl ?_))))
 obtain⟨x31,y31,g⟩:=g
 refine U.ix T y31 ?_
 refine U.pd 3 T (C.xs ?_)
 refine C.jn (fun (x32:Bool)=>[(1,.p 0 0),(46,.sl 1 eI f.Kind),(47,.i (f.Kind.length:Int)),(48,.i s24),(74,.b x32)]) (fun x32=>[(0,.box (Qc f))]) 1 g (fun x32 g=>?_) fun J33 g j33=>?_
 refine C.nx ?_
 refine C.ite rfl g (fun b38 g=>?_) fun b38 g=>?_
 refine C.ss (U.pd 1 T (C.nx (C.ret (C.brt (C.rt (C.rt (C.brt (C.rt ?_))))))))
 exact C.f1 T o (pBi g)
 refine C.skip (C.bnx (C.nx (U.start (U.pd 2 T (C.nx ?_)))))
 exact St.wk (C.next g) (Wk.a [some 0])
 refine U.start (U.ps 3 T rfl ?_)
 refine g.cs (fun b34 g=>?_) fun b34 g=>?_
 refine U.sk' 2 2 false 55 b34 ?_
 refine U.pk b34 ?_
 refine U.ps 1 T rfl (U.sk' 6 6 false 59 rfl ?_)
 refine U.pk rfl ?_
 refine U.ps 1 T rfl (U.sk' 6 14 false 67 rfl ?_)
 refine U.pk rfl ?_
 refine U.done ?_
 exact St.wa [some 0] (j33 _ g)
 refine U.pq 2 2 false 55 b34 T ?_
 refine U.pk' b34 ?_
 refine U.ps 1 T rfl ?_
 refine g.cs (fun b35 g=>?_) fun b35 g=>?_
 refine U.sk' 6 6 false 59 b35 ?_
 refine U.pk b35 ?_
 refine U.ps 1 T rfl (U.sk' 6 14 false 67 rfl ?_)
 refine U.pk rfl ?_
 refine U.done ?_
 exact St.wa [some 0] (j33 _ g)
 refine U.pq 3 6 false 59 b35 T ?_
 obtain⟨x36,y36,g⟩:=g
 refine U.r rfl (.tk 6 false 59 b35) rfl rfl (by exact Rd.ix T rfl rfl rfl rfl rfl rfl y36) ?_
 refine U.pq 2 6 false 59 b35 T ?_
 refine U.pk' b35 ?_
 refine U.ps 1 T rfl ?_
 refine g.cs (fun b37 g=>?_) fun b37 g=>?_
 refine U.sk' 6 14 false 67 b37 ?_
 refine U.pk b37 ?_
 refine U.done ?_
 exact St.wa [some 0] (j33 _ g)
 refine U.pq 3 14 false 67 b37 T ?_
 refine U.r rfl (.tk 14 false 67 b37) rfl rfl (by exact Rd.ix T rfl rfl rfl rfl rfl rfl y36) ?_
 refine U.pq 2 14 false 67 b37 T ?_
 refine U.pk' b37 ?_
 refine U.done ?_
 exact St.wa [some 0] (j33 _ g)
 refine C.exit (C.ex (C.ex (C.bex ?_)))
 exact St.wk (j23 _ g) (Wk.mk' [] rfl rfl trivial trivial rfl)
 refine U.start (U.ps 3 T rfl ?_)
 refine g.cs (fun b15 g=>?_) fun b15 g=>?_
 refine U.sk' 5 2 false 31 b15 ?_
 refine U.pk b15 ?_
 refine U.ps 1 T rfl (U.sk' 5 9 false 38 rfl ?_)
 refine U.pk rfl ?_
 refine U.done ?_
 exact St.wa [some 0] (j14 _ g)
 refine U.pq 5 2 false 31 b15 T ?_
 refine U.pk' b15 ?_
 refine U.ps 1 T rfl ?_
 refine g.cs (fun b16 g=>?_) fun b16 g=>?_
 refine U.sk' 5 9 false 38 b16 ?_
 refine U.pk b16 ?_
 refine U.done ?_
 exact St.wa [some 0] (j14 _ g)
 refine U.pq 5 9 false 38 b16 T ?_
 refine U.pk' b16 ?_
 refine U.done ?_
 exact St.wa [some 0] (j14 _ g)
 refine U.start (U.ps 9 T rfl ?_)
 refine g.cs (fun b5 g=>?_) fun b5 g=>?_
 refine U.sk' 3 8 false 14 b5 ?_
 refine U.pk b5 ?_
 refine U.ps 1 T rfl (U.sk' 6 13 false 19 rfl ?_)
 refine U.pk rfl ?_
 refine U.done ?_
 exact St.wa [some 0] (j4 _ g)
 refine U.pq 3 8 false 14 b5 T ?_
 refine U.pk' b5 ?_
 refine U.ps 1 T rfl ?_
 refine g.cs (fun b6 g=>?_) fun b6 g=>?_
 refine U.sk' 6 13 false 19 b6 ?_
 refine U.pk b6 ?_
 refine U.done ?_
 exact St.wa [some 0] (j4 _ g)
 refine U.pq 6 13 false 19 b6 T ?_
 refine U.pk' b6 ?_
 refine U.done ?_
 exact St.wa [some 0] (j4 _ g)
theorem Q0l (f:ApiFloor) (post:SurveyMaker→Prop) (g:Xp f post):
  Tr Tryz.prog 31 [.agg (Qc f)] [] 0 (fun A H' k=>∃y,post y∧A=(.p 11 0)∧H'=[(0,.val (.os 5 Q8 y.site.Zones)),(1,.val (.os 2 Q3 y.site.Aparts)),(2,.val (.os 2 Q4 y.site.Shelves)),(3,.val (.os 2 Q5 y.site.Robots)),(4,.val (.om kI veI y.shelf)),(5,.val (.om kI veB y.robot)),(6,.val (.om kI veB y.zoned)),(7,.val (.om kS veI y.names)),(8,.val (.om kI veB y.oneways)),(9,.val (.os 1 eI y.shelves)),(10,.val (.os 1 eI y.zones)),(11,.box [.i y.site.Floor.W,.i y.site.Floor.H,.i y.site.Floor.D,.sl 1 eI y.site.Floor.Kind,.sl 1 eI y.site.Floor.Out,.o 0,.o 1,.o 2,.o 3,.o 4,.o 5,.o 6,.o 7,.o 8,.o 9,.o 10])]∧k=12):=by
 refine Tr.go Tryz.func31 Tryz.ntmps31 fun _ _ _ _ o=>?_
 unfold Xp at g
 refine C.ss (U.bx ?_)
 refine U.pd 1 T (C.xt ?_)
 refine U.ps 2 T rfl (U.e1 rfl (.none rfl) (by exact Eff1.mm kI veI rfl rfl rfl) ?_)
 refine U.e1 rfl (.none rfl) (by exact Eff1.mm kI veB rfl rfl rfl) ?_
 refine U.e1 rfl (.none rfl) (by exact Eff1.mm kI veB rfl rfl rfl) ?_
 refine U.e1 rfl (.none rfl) (by exact Eff1.mm kS veI rfl rfl rfl) ?_
 refine U.e1 rfl (.none rfl) (by exact Eff1.mm kI veB rfl rfl rfl) ?_
 refine U.ps 1 T rfl (U.bx ?_)
 refine U.pd 1 T (C.nx (C.ret ?_))
 exact C.g1 [none,none,none,none,some 1,some 2,some 3,some 4,some 5,none,none,some 6] T o ⟨({site:=({Floor:=f,Zones:=[],Aparts:=[],Shelves:=[],Robots:=[]:ApiSite}),shelf:=([]:List (Int×Int)),robot:=([]:List (Int×Bool)),zoned:=([]:List (Int×Bool)),names:=([]:List (ByteArray×Int)),oneways:=([]:List (Int×Bool)),shelves:=[],zones:=[]:SurveyMaker}),g,rfl,rfl,rfl⟩
def Qa0:Go.Shelf.Ren:=⟨fun | 137=>73 | 217=>121 | 266=>152 | n=>n,fun | 3=>3 | 5=>5 | 9=>9 | n=>n,fun n=>n⟩
theorem Q9H:Go.Proofs.Lays.n137 Tryz.prog Qa0 where
 mixed:=by kernel_rfl
 f137:=Tryz.func73.trans (congrArg some (by kernel_rfl))
 f217:=Tryz.func121.trans (congrArg some (by kernel_rfl))
 f266:=Tryz.func152.trans (congrArg some (by kernel_rfl))
 t3:=Tryz.underlying3
 a3:=Tryz.isAgg3
 z3:=Tryz.sizeOf3
 v3:=Tryz.zeroValue3
 t5:=Tryz.underlying5
 a5:=Tryz.isAgg5
 z5:=Tryz.sizeOf5
 v5:=Tryz.zeroValue5
 t9:=Tryz.underlying9
 a9:=Tryz.isAgg9
 z9:=Tryz.sizeOf9
 v9:=Tryz.zeroValue9
theorem ZH (s_1:ByteArray) (c:Int) (post:Int→Prop) (g:WA s_1 c post):
  Tr Tryz.prog 73 [.v (.string s_1),.v (.int .u8 c)] [] 0 (pI post):=Tr.indexByte Q9H s_1 c g
theorem We (s_1:ByteArray) (post:Bool→Prop) (g:KK s_1 post):
  Tr Tryz.prog 32 [.v (.string s_1)] [] 0 (pB post):=by
 refine Tr.go Tryz.func32 Tryz.ntmps32 fun _ _ _ _ o=>?_
 unfold KK at g
 refine C.ss (U.pd 1 T (C.xs (C.seq ?_)))
 refine C.jn (fun (x3:Bool)=>[(0,.v (.string s_1)),(21,.b x3)]) (fun x3=>[]) 0 g (fun x3 g=>?_) fun J4 g j4=>?_
 refine C.nx ?_
 refine C.ite rfl g (fun b9 g=>?_) fun b9 g=>?_
 refine C.ss (U.pd 1 T (C.nx (C.ret (C.rt ?_))))
 exact C.f1 T o (pBi g)
 refine C.skip (C.xs (C.ss (U.pd 3 T (C.nx ?_))))
 refine C.jn (fun (x14:Unit)=>[]) (fun x14=>[]) 0 g (fun x14 g=>?_) fun J15 g j15=>?_
 refine C.xt (U.pd 1 T (C.nx (C.ret ?_)))
 exact C.f1 T o (pBi g)
 refine C.block (St.wk (C.loop (fun (s16:Int)=>[(0,.v (.string s_1)),(23,.i (s_1.size:Int)),(24,.i s16)]) (fun s16=>[]) g (fun s16 Y17 g=>?_)) (Wk.e))
 refine C.ss (U.pd 1 T (C.xs ?_))
 refine C.ite rfl g (fun b20 g=>?_) fun b20 g=>?_
 refine C.skip (C.xs (C.block (C.ss (U.pd 2 T (C.xt ?_)))))
 refine U.ps 2 T rfl ?_
 obtain⟨x25,y25,g⟩:=g
 refine U.r rfl (.none rfl) rfl rfl (by exact Rd.ib T rfl rfl rfl rfl y25) ?_
 refine U.k (ZH (ByteArray.mk #[97,98,99,100,101,102,103,104,105,106,107,108,109,110,111,112,113,114,115,116,117,118,119,120,121,122,65,66,67,68,69,70,71,72,73,74,75,76,77,78,79,80,81,82,83,84,85,86,87,88,89,90,48,49,50,51,52,53,54,55,56,57,95,45]) (x25.toNat:Int) _ g) en73 fun x26 g=>?_
 refine U.pd 1 T (C.nx ?_)
 refine C.ite rfl g (fun b27 g=>?_) fun b27 g=>?_
 refine C.ss (U.pd 1 T (C.nx (C.ret (C.brt (C.rt (C.rt (C.brt (C.rt ?_))))))))
 exact C.f1 T o (pBi g)
 refine C.skip (C.bnx (C.nx (U.start (U.pd 2 T (C.nx ?_)))))
 exact St.wk (C.next g) (Wk.e)
 refine C.exit (C.ex (C.ex (C.bex ?_)))
 exact St.wk (j15 _ g) (Wk.mk' [] rfl rfl trivial trivial rfl)
 refine U.start (U.ps 4 T rfl ?_)
 refine g.cs (fun b5 g=>?_) fun b5 g=>?_
 refine U.sk' 3 3 false 7 b5 ?_
 refine U.pk b5 ?_
 refine U.ps 1 T rfl (U.sk' 4 8 false 12 rfl ?_)
 refine U.sku 3 12 true 16 rfl rfl rfl ?_
 refine U.sk' 1 8 false 12 rfl ?_
 refine U.pk rfl ?_
 refine U.done ?_
 exact St.wn (j4 _ g)
 refine U.pq 3 3 false 7 b5 T ?_
 refine U.pk' b5 ?_
 refine U.ps 1 T rfl ?_
 refine g.cs (fun b6 g=>?_) fun b6 g=>?_
 refine U.sk' 4 8 false 12 b6 ?_
 refine U.sku 3 12 true 16 rfl rfl rfl ?_
 refine U.sk' 1 8 false 12 b6 ?_
 refine U.pk b6 ?_
 refine U.done ?_
 exact St.wn (j4 _ g)
 refine U.pq 1 8 false 12 b6 T ?_
 obtain⟨x7,y7,g⟩:=g
 refine U.r rfl (.tk 8 false 12 b6) rfl rfl (by exact Rd.ib T rfl rfl rfl rfl y7) ?_
 refine U.pq 2 8 false 12 b6 T ?_
 refine g.cs (fun b8 g=>?_) fun b8 g=>?_
 refine U.pq 1 12 true 16 b8 T ?_
 refine U.r rfl (.tk 12 true 16 b8) rfl rfl (by exact Rd.ib T rfl rfl rfl rfl y7) ?_
 refine U.pq 1 12 true 16 b8 T ?_
 refine U.r rfl (.tk 8 false 12 b6) rfl rfl (by exact Rd.pk rfl rfl b8 rfl) ?_
 refine U.pk' b6 ?_
 refine U.done ?_
 exact St.wn (j4 _ g)
 refine U.sk' 3 12 true 16 b8 ?_
 refine U.r rfl (.tk 8 false 12 b6) rfl rfl (by exact Rd.pk' rfl rfl b8 rfl) ?_
 refine U.pk' b6 ?_
 refine U.done ?_
 exact St.wn (j4 _ g)
theorem YG (n:Int) (from_1:Int) (to_1:Int) (post:Bool→Prop) (g:KZ n from_1 to_1 post):
  Tr Tryz.prog 33 [.i n,.i from_1,.i to_1] [] 0 (pB post):=by
 refine Tr.go Tryz.func33 Tryz.ntmps33 fun _ _ _ _ o=>?_
 unfold KZ at g
 refine C.ss (U.pd 1 T (C.xs ?_))
 refine C.jn (fun (x3:Bool)=>[(6,.b x3)]) (fun x3=>[]) 0 g (fun x3 g=>?_) fun J4 g j4=>?_
 refine C.nx (C.ret ?_)
 exact C.f1 T o (pBi g)
 refine U.start (U.ps 4 T rfl ?_)
 refine g.cs (fun b5 g=>?_) fun b5 g=>?_
 refine U.pq 3 3 true 10 b5 T ?_
 refine U.pk b5 ?_
 refine U.pd 1 T ?_
 exact St.wn (j4 _ g)
 refine U.sk' 3 3 true 10 b5 ?_
 refine U.pk' b5 ?_
 refine U.pd 1 T ?_
 exact St.wn (j4 _ g)
theorem Q2S (l:List XP) (post:Bool→Prop) (g:XB l post):
  Tr Tryz.prog 34 [.sl 2 GS l] [] 0 (pB post):=by
 refine Tr.go Tryz.func34 Tryz.ntmps34 fun _ _ _ _ o=>?_
 unfold XB at g
 refine C.ss (U.pd 1 T (C.xt ?_))
 refine U.pd 1 T (C.xs (C.ss ?_))
 refine U.pd 3 T (C.nx ?_)
 refine C.jn (fun (x7:Unit)=>[]) (fun x7=>[]) 0 g (fun x7 g=>?_) fun J8 g j8=>?_
 refine C.xt (U.pd 1 T (C.nx (C.ret ?_)))
 exact C.f1 T o (pBi g)
 refine C.block (St.wk (C.loop (fun (s9:Int×Int)=>[(3,.i s9.1),(6,.sl 2 GS l),(7,.i (l.length:Int)),(8,.i s9.2)]) (fun s9=>[]) g (fun s9 Y10 g=>?_)) (Wk.e))
 refine C.ss (U.pd 1 T (C.xs ?_))
 refine C.ite rfl g (fun b13 g=>?_) fun b13 g=>?_
 refine C.skip (C.xs (C.block (C.ss ?_)))
 obtain⟨x16,y16,g⟩:=g
 refine U.ix T y16 ?_
 refine U.ps 1 T rfl (U.al T ?_)
 refine U.st T ?_
 refine U.done (C.xs (C.seq ?_))
 refine C.jn (fun (x17:Bool)=>[(5,.p 0 0),(6,.sl 2 GS l),(7,.i (l.length:Int)),(8,.i s9.2),(27,.b x17)]) (fun x17=>[(0,.box [.i x16.From,.i x16.To])]) 1 g (fun x17 g=>?_) fun J18 g j18=>?_
 refine C.nx ?_
 refine C.ite rfl g (fun b21 g=>?_) fun b21 g=>?_
 refine C.ss (U.pd 1 T (C.nx (C.ret (C.rt (C.brt (C.rt (C.rt (C.brt (C.rt ?_)))))))))
 exact C.f1 T o (pBi g)
 refine C.skip (C.nx (U.start (U.pd 3 T (C.bnx (C.nx (U.start ?_))))))
 refine U.pd 2 T (C.nx ?_)
 exact St.wk (C.next g) (Wk.e)
 refine U.start (U.ps 5 T rfl ?_)
 refine g.cs (fun b19 g=>?_) fun b19 g=>?_
 refine U.sk' 5 4 false 16 b19 ?_
 refine U.pk b19 ?_
 refine U.ps 1 T rfl (U.sk' 3 11 false 23 rfl ?_)
 refine U.pk rfl ?_
 refine U.done ?_
 exact St.wa [some 0] (j18 _ g)
 refine U.pq 5 4 false 16 b19 T ?_
 refine U.pk' b19 ?_
 refine U.ps 1 T rfl ?_
 refine g.cs (fun b20 g=>?_) fun b20 g=>?_
 refine U.sk' 3 11 false 23 b20 ?_
 refine U.pk b20 ?_
 refine U.done ?_
 exact St.wa [some 0] (j18 _ g)
 refine U.pq 3 11 false 23 b20 T ?_
 refine U.pk' b20 ?_
 refine U.done ?_
 exact St.wa [some 0] (j18 _ g)
 refine C.exit (C.ex (C.ex (C.bex ?_)))
 exact St.wk (j8 _ g) (Wk.mk' [] rfl rfl trivial trivial rfl)
theorem Xc (m:SurveyMaker) (c:Int) (post:(Int×Bool)→Prop) (g:K3 m c post):
  Tr Tryz.prog 74 [.rp [.i m.site.Floor.W,.i m.site.Floor.H,.i m.site.Floor.D,.sl 1 eI m.site.Floor.Kind,.sl 1 eI m.site.Floor.Out,.sl 5 Q8 m.site.Zones,.sl 2 Q3 m.site.Aparts,.sl 2 Q4 m.site.Shelves,.sl 2 Q5 m.site.Robots,.rm kI veI m.shelf,.rm kI veB m.robot,.rm kI veB m.zoned,.rm kS veI m.names,.rm kI veB m.oneways,.sl 1 eI m.shelves,.sl 1 eI m.zones],.i c] [] 0 (fun A H' k=>∃y,post y∧A=(.tup [.i y.1,.b y.2])∧H'=[]∧k=0):=by
 refine Tr.go Tryz.func74 Tryz.ntmps74 fun _ _ _ _ o=>?_
 unfold K3 at g
 refine C.ss (U.pd 2 T (C.xs (C.seq ?_)))
 refine C.jn (fun (x3:Bool)=>[(0,.rp [.i m.site.Floor.W,.i m.site.Floor.H,.i m.site.Floor.D,.sl 1 eI m.site.Floor.Kind,.sl 1 eI m.site.Floor.Out,.sl 5 Q8 m.site.Zones,.sl 2 Q3 m.site.Aparts,.sl 2 Q4 m.site.Shelves,.sl 2 Q5 m.site.Robots,.rm kI veI m.shelf,.rm kI veB m.robot,.rm kI veB m.zoned,.rm kS veI m.names,.rm kI veB m.oneways,.sl 1 eI m.shelves,.sl 1 eI m.zones]),(1,.i c),(18,.b x3)]) (fun x3=>[]) 0 g (fun x3 g=>?_) fun J4 g j4=>?_
 refine C.nx ?_
 refine C.ite rfl g (fun b6 g=>?_) fun b6 g=>?_
 refine C.ss (U.pd 2 T (C.nx (C.ret (C.rt ?_))))
 exact C.f9 T o ⟨(0,false),g,rfl,rfl,rfl⟩
 refine C.skip (C.xt (U.ps 7 T rfl ?_))
 obtain⟨x11,y11,g⟩:=g
 refine U.ix T y11 ?_
 refine U.pd 3 T (C.nx (C.ret ?_))
 exact C.f9 T o ⟨(x11,true),g,rfl,rfl,rfl⟩
 refine U.start (U.ps 3 T rfl ?_)
 refine g.cs (fun b5 g=>?_) fun b5 g=>?_
 refine U.sk' 9 2 false 8 b5 ?_
 refine U.pk b5 ?_
 refine U.done ?_
 exact St.wn (j4 _ g)
 refine U.pq 9 2 false 8 b5 T ?_
 refine U.pk' b5 ?_
 refine U.done ?_
 exact St.wn (j4 _ g)
theorem Zg (m:SurveyMaker) (l:List Int) (post:Bool→Prop) (g:Kb m l post):
  Tr Tryz.prog 35 [.rp [.i m.site.Floor.W,.i m.site.Floor.H,.i m.site.Floor.D,.sl 1 eI m.site.Floor.Kind,.sl 1 eI m.site.Floor.Out,.sl 5 Q8 m.site.Zones,.sl 2 Q3 m.site.Aparts,.sl 2 Q4 m.site.Shelves,.sl 2 Q5 m.site.Robots,.rm kI veI m.shelf,.rm kI veB m.robot,.rm kI veB m.zoned,.rm kS veI m.names,.rm kI veB m.oneways,.sl 1 eI m.shelves,.sl 1 eI m.zones],.sl 1 eI l] [] 0 (pB post):=by
 refine Tr.go Tryz.func35 Tryz.ntmps35 fun _ _ _ _ o=>?_
 unfold Kb at g
 refine C.ss (U.pd 1 T (C.xs (C.ss ?_)))
 refine U.pd 3 T (C.nx ?_)
 refine C.jn (fun (x5:Unit)=>[(1,.sl 1 eI l)]) (fun x5=>[]) 0 g (fun x5 g=>?_) fun J6 g j6=>?_
 refine C.xt (U.pd 4 T (C.nx (C.ret ?_)))
 exact C.f1 T o (pBi g)
 refine C.block ?_
 refine St.wk (C.loop (fun (s7:Int)=>[(0,.rp [.i m.site.Floor.W,.i m.site.Floor.H,.i m.site.Floor.D,.sl 1 eI m.site.Floor.Kind,.sl 1 eI m.site.Floor.Out,.sl 5 Q8 m.site.Zones,.sl 2 Q3 m.site.Aparts,.sl 2 Q4 m.site.Shelves,.sl 2 Q5 m.site.Robots,.rm kI veI m.shelf,.rm kI veB m.robot,.rm kI veB m.zoned,.rm kS veI m.names,.rm kI veB m.oneways,.sl 1 eI m.shelves,.sl 1 eI m.zones]),(1,.sl 1 eI l),(9,.sl 1 eI l),(10,.i (l.length:Int)),(11,.i s7)]) (fun s7=>[]) g (fun s7 Y8 g=>?_)) (Wk.e)
 refine C.ss (U.pd 1 T (C.xs ?_))
 refine C.ite rfl g (fun b11 g=>?_) fun b11 g=>?_
 refine C.skip (C.xs (C.block (C.ss (U.ps 1 T rfl ?_))))
 obtain⟨x14,y14,g⟩:=g
 refine U.ix T y14 ?_
 refine U.pd 3 T (C.xt ?_)
 refine U.ps 2 T rfl (U.k (Xc m x14 _ g) en74 (fun x17 g=>?_))
 refine U.pd 5 T (C.xs ?_)
 refine C.jn (fun (x18:Bool)=>[(0,.rp [.i m.site.Floor.W,.i m.site.Floor.H,.i m.site.Floor.D,.sl 1 eI m.site.Floor.Kind,.sl 1 eI m.site.Floor.Out,.sl 5 Q8 m.site.Zones,.sl 2 Q3 m.site.Aparts,.sl 2 Q4 m.site.Shelves,.sl 2 Q5 m.site.Robots,.rm kI veI m.shelf,.rm kI veB m.robot,.rm kI veB m.zoned,.rm kS veI m.names,.rm kI veB m.oneways,.sl 1 eI m.shelves,.sl 1 eI m.zones]),(1,.sl 1 eI l),(9,.sl 1 eI l),(10,.i (l.length:Int)),(11,.i s7),(36,.b x18)]) (fun x18=>[]) 0 g (fun x18 g=>?_) fun J19 g j19=>?_
 refine C.nx ?_
 refine C.ite rfl g (fun b23 g=>?_) fun b23 g=>?_
 refine C.ss (U.pd 1 T (C.nx (C.ret (C.brt (C.rt (C.rt (C.brt (C.rt ?_))))))))
 exact C.f1 T o (pBi g)
 refine C.skip (C.bnx (C.nx (U.start (U.pd 2 T (C.nx ?_)))))
 exact St.wk (C.next g) (Wk.e)
 refine U.start (U.ps 3 T rfl ?_)
 refine g.cs (fun b20 g=>?_) fun b20 g=>?_
 refine U.pq 3 2 false 24 (ntF b20) T ?_
 refine g.cs (fun b21 g=>?_) fun b21 g=>?_
 refine U.pq 3 5 true 27 b21 T ?_
 obtain⟨x22,y22,g⟩:=g
 refine U.r rfl (.tk 5 true 27 b21) rfl rfl (by exact Rd.ix T rfl rfl rfl rfl rfl rfl y22) ?_
 refine U.pq 3 5 true 27 b21 T ?_
 refine U.r rfl (.tk 2 false 24 (ntF b20)) rfl rfl (by exact Rd.pk rfl rfl b21 rfl) ?_
 refine U.pk' (ntF b20) ?_
 refine U.done ?_
 exact St.wn (j19 _ g)
 refine U.sk' 7 5 true 27 b21 ?_
 refine U.r rfl (.tk 2 false 24 (ntF b20)) rfl rfl (by exact Rd.pk' rfl rfl b21 rfl) ?_
 refine U.pk' (ntF b20) ?_
 refine U.done ?_
 exact St.wn (j19 _ g)
 refine U.sk' 3 2 false 24 (ntT b20) ?_
 refine U.sku 7 5 true 27 rfl rfl rfl ?_
 refine U.sk' 1 2 false 24 (ntT b20) ?_
 refine U.pk (ntT b20) ?_
 refine U.done ?_
 exact St.wn (j19 _ g)
 refine C.exit (C.ex (C.ex (C.bex ?_)))
 exact St.wn (j6 _ g)
theorem Q1R (kind:Int) (post:Bool→Prop) (g:Gj kind post):
  Tr Tryz.prog 75 [.i kind] [] 0 (pB post):=by
 refine Tr.go Tryz.func75 Tryz.ntmps75 fun _ _ _ _ o=>?_
 unfold Gj at g
 refine C.ss (U.pd 1 T (C.xs ?_))
 refine C.jn (fun (x3:Bool)=>[(2,.b x3)]) (fun x3=>[]) 0 g (fun x3 g=>?_) fun J4 g j4=>?_
 refine C.nx (C.ret ?_)
 exact C.f1 T o (pBi g)
 refine U.start (U.ps 3 T rfl ?_)
 refine g.cs (fun b5 g=>?_) fun b5 g=>?_
 refine U.pq 2 2 true 5 b5 T ?_
 refine U.pk b5 ?_
 refine U.ps 1 T rfl ?_
 refine g.cs (fun b6 g=>?_) fun b6 g=>?_
 refine U.pq 2 6 true 9 b6 T ?_
 refine U.pk b6 ?_
 refine U.pd 1 T ?_
 exact St.wn (j4 _ g)
 refine U.sk' 2 6 true 9 b6 ?_
 refine U.pk' b6 ?_
 refine U.pd 1 T ?_
 exact St.wn (j4 _ g)
 refine U.sk' 2 2 true 5 b5 ?_
 refine U.pk' b5 ?_
 refine U.ps 1 T rfl (U.sk' 2 6 true 9 rfl ?_)
 refine U.pk' rfl ?_
 refine U.pd 1 T ?_
 exact St.wn (j4 _ g)
theorem WG (z:Ql) (m:SurveyMaker) (post:(Int×SurveyMaker)→Prop) (g:QW z m post):
  Tr Tryz.prog 36 [.p 0 0,.agg (Q8 z)] [(0,.box [.i m.site.Floor.W,.i m.site.Floor.H,.i m.site.Floor.D,.sl 1 eI m.site.Floor.Kind,.sl 1 eI m.site.Floor.Out,.o 1,.o 2,.o 3,.o 4,.o 5,.o 6,.o 7,.o 8,.o 9,.o 10,.o 11]),(1,.val (.os 5 Q8 m.site.Zones)),(2,.val (.os 2 Q3 m.site.Aparts)),(3,.val (.os 2 Q4 m.site.Shelves)),(4,.val (.os 2 Q5 m.site.Robots)),(5,.val (.om kI veI m.shelf)),(6,.val (.om kI veB m.robot)),(7,.val (.om kI veB m.zoned)),(8,.val (.om kS veI m.names)),(9,.val (.om kI veB m.oneways)),(10,.val (.os 1 eI m.shelves)),(11,.val (.os 1 eI m.zones))] 12 (fun A H' k=>∃y,post y∧A=(.i y.1)∧H'=[(0,.box [.i y.2.site.Floor.W,.i y.2.site.Floor.H,.i y.2.site.Floor.D,.sl 1 eI y.2.site.Floor.Kind,.sl 1 eI y.2.site.Floor.Out,.o 12,.o 13,.o 14,.o 15,.o 16,.o 17,.o 18,.o 19,.o 20,.o 21,.o 22]),(12,.val (.os 5 Q8 y.2.site.Zones)),(13,.val (.os 2 Q3 y.2.site.Aparts)),(14,.val (.os 2 Q4 y.2.site.Shelves)),(15,.val (.os 2 Q5 y.2.site.Robots)),(16,.val (.om kI veI y.2.shelf)),(17,.val (.om kI veB y.2.robot)),(18,.val (.om kI veB y.2.zoned)),(19,.val (.om kS veI y.2.names)),(20,.val (.om kI veB y.2.oneways)),(21,.val (.os 1 eI y.2.shelves)),(22,.val (.os 1 eI y.2.zones))]∧k=23):=by
 refine Tr.go Tryz.func36 Tryz.ntmps36 fun _ _ _ _ o=>?_
 unfold QW at g
 refine C.ss (U.bx ?_)
 refine U.pd 1 T (C.xs (C.seq ?_))
 refine D.bq mix 9999 [0,8,12] [] (fun hQ hS ws M'=>?_)
 refine D.pq 6 (zl [0,1,2,3,4,5]) T ?_
 refine D.q 6 [] hQ hS rfl (.none rfl) rfl rfl (by exact Rd.lk2 T (ke:=kS) (ve:=veI) (xs:=m.names) (z0:=0) (x:=z.Name) rfl rfl kt9 zt3 (fun _=>rfl) rfl (.o rfl) rfl rfl rfl) rfl (by kernel_rfl) ?_
 refine D.pq 5 (zl [7,8,9,10,11]) T ?_
 refine D.done (by kernel_rfl) ?_
 refine C.xt (U.pd 1 T (C.nx ?_))
 refine C.ite rfl g (fun b7 g=>?_) fun b7 g=>?_
 refine C.ss (U.pd 1 T (C.nx (C.ret (C.rt ?_))))
 exact C.g1 [some 0,some 1,some 2,some 3,some 4,some 5,some 6,some 7,some 8,some 9,some 10,some 11,some 1,some 2,some 3,some 4,some 5,some 6,some 7,some 8,some 9,some 10,some 11] T o ⟨(5,m),g,rfl,rfl,rfl⟩
 refine C.skip (C.xs (C.ss (U.pd 7 T (C.nx ?_))))
 refine C.ite rfl g (fun b12 g=>?_) fun b12 g=>?_
 refine C.ss (U.pd 1 T (C.nx (C.ret (C.rt ?_))))
 exact C.g1 [some 0,some 1,some 2,some 3,some 4,some 5,some 6,some 7,some 8,some 9,some 10,some 11,some 1,some 2,some 3,some 4,some 5,some 6,some 7,some 8,some 9,some 10,some 11] T o ⟨(6,m),g,rfl,rfl,rfl⟩
 refine C.skip (C.xs (C.ss (U.pd 4 T (C.nx ?_))))
 refine C.jn (fun (x17:Unit)=>[(0,.p 0 0),(3,.p 12 0)]) (fun x17=>[(0,.box [.i m.site.Floor.W,.i m.site.Floor.H,.i m.site.Floor.D,.sl 1 eI m.site.Floor.Kind,.sl 1 eI m.site.Floor.Out,.o 1,.o 2,.o 3,.o 4,.o 5,.o 6,.o 7,.o 8,.o 9,.o 10,.o 11]),(1,.val (.os 5 Q8 m.site.Zones)),(2,.val (.os 2 Q3 m.site.Aparts)),(3,.val (.os 2 Q4 m.site.Shelves)),(4,.val (.os 2 Q5 m.site.Robots)),(5,.val (.om kI veI m.shelf)),(6,.val (.om kI veB m.robot)),(7,.val (.om kI veB m.zoned)),(8,.val (.om kS veI m.names)),(9,.val (.om kI veB m.oneways)),(10,.val (.os 1 eI m.shelves)),(11,.val (.os 1 eI m.zones)),(12,.box (Q8 z))]) 13 g (fun x17 g=>?_) fun J18 g j18=>?_
 refine C.xs (C.ss (U.pd 4 T (C.nx ?_)))
 refine C.jn (fun (x41:List (Int×Bool))=>[(0,.p 0 0),(3,.p 12 0)]) (fun x41=>[(0,.box [.i m.site.Floor.W,.i m.site.Floor.H,.i m.site.Floor.D,.sl 1 eI m.site.Floor.Kind,.sl 1 eI m.site.Floor.Out,.o 1,.o 2,.o 3,.o 4,.o 5,.o 6,.o 7,.o 8,.o 9,.o 10,.o 11]),(1,.val (.os 5 Q8 m.site.Zones)),(2,.val (.os 2 Q3 m.site.Aparts)),(3,.val (.os 2 Q4 m.site.Shelves)),(4,.val (.os 2 Q5 m.site.Robots)),(5,.val (.om kI veI m.shelf)),(6,.val (.om kI veB m.robot)),(7,.val (.om kI veB x41)),(8,.val (.om kS veI m.names)),(9,.val (.om kI veB m.oneways)),(10,.val (.os 1 eI m.shelves)),(11,.val (.os 1 eI m.zones)),(12,.box (Q8 z))]) 13 g (fun x41 g=>?_) fun J42 g j42=>?_
 refine C.xs (D.bq mix 12 [0,12] [] (fun hQ hS ws M'=>?_))
 refine D.pq 12 (zl [0,1,2,3,4,5,6,7,8,9,10,11]) T ?_
 refine D.ze1 rfl (.none rfl) (by exact Eff1.mu T (x:=z.Name) (y:=(m.site.Zones.length:Int)) (.inl rfl) rfl kt9 (fun _=>rfl) rfl rfl rfl rfl rfl (.inl rfl) rfl) (by kernel_rfl) (by kernel_rfl) ?_
 refine C.xs (D.bq mix 12 [0,12] [1] (fun hQ hS ws M'=>?_))
 refine D.pq 7 (zl [0,1,2,3,4,5,6]) T ?_
 refine D.e1 7 rfl (.none rfl) (by exact Eff1.bs T (enc:=Q8) (xs:=([z]:List Ql)) rfl rfl rfl rfl rfl rfl rfl rfl rfl rfl (fun _ _=>rfl) rfl rfl) (by kernel_rfl) rfl rfl ?_
 obtain⟨y59,g⟩:=g
 refine D.e1 8 rfl (.none rfl) (by exact Eff1.ap T rfl rfl rfl rfl rfl rfl (.inr ⟨_,rfl,rfl⟩) rfl rfl rfl (fun _=>rfl) rfl y59) (by kernel_rfl) rfl rfl ?_
 refine D.pq 3 [(9,[11,10]),(10,[11]),(11,[])] T ?_
 refine D.ze1 rfl (.none rfl) (by exact Eff1.st T rfl rfl rfl rfl rfl rfl rfl rfl rfl rfl) (by kernel_rfl) (by kernel_rfl) ?_
 refine C.xt (U.pd 1 T (C.nx (C.ret ?_)))
 exact C.g1 [some 0,some 1,some 2,some 3,some 4,some 5,some 6,some 7,some 8,some 9,some 10,some 11,some 14,some 2,some 3,some 4,some 5,some 6,some 7,some 8,some 9,some 10,some 11] T o ⟨(0,({site:=({Floor:=m.site.Floor,Zones:=(m.site.Zones++([z]:List Ql)),Aparts:=m.site.Aparts,Shelves:=m.site.Shelves,Robots:=m.site.Robots:ApiSite}),shelf:=m.shelf,robot:=m.robot,zoned:=x41,names:=(upd m.names z.Name (m.site.Zones.length:Int)),oneways:=m.oneways,shelves:=m.shelves,zones:=m.zones:SurveyMaker})),g,rfl,rfl,rfl⟩
 refine C.block ?_
 refine St.wk (C.loop (fun (s43:List (Int×Bool)×Int)=>[(0,.p 0 0),(3,.p 12 0),(57,.sl 1 eI z.Cells),(58,.i (z.Cells.length:Int)),(59,.i s43.2)]) (fun s43=>[(0,.box [.i m.site.Floor.W,.i m.site.Floor.H,.i m.site.Floor.D,.sl 1 eI m.site.Floor.Kind,.sl 1 eI m.site.Floor.Out,.o 1,.o 2,.o 3,.o 4,.o 5,.o 6,.o 7,.o 8,.o 9,.o 10,.o 11]),(1,.val (.os 5 Q8 m.site.Zones)),(2,.val (.os 2 Q3 m.site.Aparts)),(3,.val (.os 2 Q4 m.site.Shelves)),(4,.val (.os 2 Q5 m.site.Robots)),(5,.val (.om kI veI m.shelf)),(6,.val (.om kI veB m.robot)),(7,.val (.om kI veB s43.1)),(8,.val (.om kS veI m.names)),(9,.val (.om kI veB m.oneways)),(10,.val (.os 1 eI m.shelves)),(11,.val (.os 1 eI m.zones)),(12,.box (Q8 z))]) g (fun s43 Y44 g=>?_)) (Wk.a (idR 13))
 refine C.ss (U.pd 1 T (C.xs ?_))
 refine C.ite rfl g (fun b47 g=>?_) fun b47 g=>?_
 refine C.skip (C.xs (C.block (C.ss ?_)))
 obtain⟨x50,y50,g⟩:=g
 refine U.ix T y50 ?_
 refine U.pd 2 T (C.nx (U.start ?_))
 refine U.ps 5 T rfl (U.e1 rfl (.none rfl) (by exact Eff1.mu T (x:=x50) (y:=true) (.inl rfl) rfl kt3 (fun _=>rfl) rfl rfl rfl rfl rfl (.inl rfl) rfl) ?_)
 refine U.done (C.bnx (C.nx (U.start (U.pd 2 T (C.nx ?_)))))
 exact St.wk (C.next g) (Wk.a (idR 13))
 refine C.exit (C.ex (C.ex (C.bex ?_)))
 exact St.wa (idR 13) (j42 _ g)
 refine C.block ?_
 refine St.wk (C.loop (fun (s19:Int)=>[(0,.p 0 0),(3,.p 12 0),(32,.sl 1 eI z.Cells),(33,.i (z.Cells.length:Int)),(34,.i s19)]) (fun s19=>[(0,.box [.i m.site.Floor.W,.i m.site.Floor.H,.i m.site.Floor.D,.sl 1 eI m.site.Floor.Kind,.sl 1 eI m.site.Floor.Out,.o 1,.o 2,.o 3,.o 4,.o 5,.o 6,.o 7,.o 8,.o 9,.o 10,.o 11]),(1,.val (.os 5 Q8 m.site.Zones)),(2,.val (.os 2 Q3 m.site.Aparts)),(3,.val (.os 2 Q4 m.site.Shelves)),(4,.val (.os 2 Q5 m.site.Robots)),(5,.val (.om kI veI m.shelf)),(6,.val (.om kI veB m.robot)),(7,.val (.om kI veB m.zoned)),(8,.val (.om kS veI m.names)),(9,.val (.om kI veB m.oneways)),(10,.val (.os 1 eI m.shelves)),(11,.val (.os 1 eI m.zones)),(12,.box (Q8 z))]) g (fun s19 Y20 g=>?_)) (Wk.a (idR 13))
 refine C.ss (U.pd 1 T (C.xs ?_))
 refine C.ite rfl g (fun b23 g=>?_) fun b23 g=>?_
 refine C.skip (C.xs (C.block (C.ss ?_)))
 obtain⟨x26,y26,g⟩:=g
 refine U.ix T y26 ?_
 refine U.pd 2 T (C.xt ?_)
 refine U.ps 2 T rfl (U.k (Xc m x26 _ g) en74 (fun x29 g=>?_))
 refine U.pd 5 T (C.xs ?_)
 refine C.jn (fun (x30:Bool)=>[(0,.p 0 0),(3,.p 12 0),(32,.sl 1 eI z.Cells),(33,.i (z.Cells.length:Int)),(34,.i s19),(54,.b x30)]) (fun x30=>[(0,.box [.i m.site.Floor.W,.i m.site.Floor.H,.i m.site.Floor.D,.sl 1 eI m.site.Floor.Kind,.sl 1 eI m.site.Floor.Out,.o 1,.o 2,.o 3,.o 4,.o 5,.o 6,.o 7,.o 8,.o 9,.o 10,.o 11]),(1,.val (.os 5 Q8 m.site.Zones)),(2,.val (.os 2 Q3 m.site.Aparts)),(3,.val (.os 2 Q4 m.site.Shelves)),(4,.val (.os 2 Q5 m.site.Robots)),(5,.val (.om kI veI m.shelf)),(6,.val (.om kI veB m.robot)),(7,.val (.om kI veB m.zoned)),(8,.val (.om kS veI m.names)),(9,.val (.om kI veB m.oneways)),(10,.val (.os 1 eI m.shelves)),(11,.val (.os 1 eI m.zones)),(12,.box (Q8 z))]) 13 g (fun x30 g=>?_) fun J31 g j31=>?_
 refine C.nx ?_
 refine C.ite rfl g (fun b34 g=>?_) fun b34 g=>?_
 refine C.ss (U.pd 1 T (C.nx (C.ret (C.brt (C.rt (C.rt (C.brt (C.rt ?_))))))))
 exact C.g1 [some 0,some 1,some 2,some 3,some 4,some 5,some 6,some 7,some 8,some 9,some 10,some 11,some 1,some 2,some 3,some 4,some 5,some 6,some 7,some 8,some 9,some 10,some 11] T o ⟨(13,m),g,rfl,rfl,rfl⟩
 refine C.skip (C.bnx (C.nx (U.start (U.pd 2 T (C.nx ?_)))))
 exact St.wk (C.next g) (Wk.a (idR 13))
 refine U.start (U.ps 1 T rfl (U.k (Q1R x29.1 _ g) en75 (fun x32 g=>?_)))
 refine U.ps 2 T rfl ?_
 refine g.cs (fun b33 g=>?_) fun b33 g=>?_
 refine U.pq 5 3 false 47 (ntF b33) T ?_
 refine U.r rfl (.tk 3 false 47 (ntF b33)) rfl rfl (by exact Rd.lk T (ke:=kI) (ve:=veB) (xs:=m.zoned) (z0:=false) (x:=x26) rfl rfl kt3 zt4 (fun _=>rfl) rfl (.o rfl) rfl rfl rfl) ?_
 refine U.pk' (ntF b33) ?_
 refine U.done ?_
 exact St.wa (idR 13) (j31 _ g)
 refine U.sk' 6 3 false 47 (ntT b33) ?_
 refine U.pk (ntT b33) ?_
 refine U.done ?_
 exact St.wa (idR 13) (j31 _ g)
 refine C.exit (C.ex (C.ex (C.bex ?_)))
 exact St.wa (idR 13) (j18 _ g)
theorem GA (s_1:List Qb) (v:Qb) (post:Int→Prop) (g:K6 s_1 v post):
  Tr Tryz.prog 153 [.sl 2 Q3 s_1,.agg [.v (.string v.A),.v (.string v.B)]] [] 0 (pI post):=by
 refine Tr.go Tryz.func153 Tryz.ntmps153 fun _ _ _ _ o=>?_
 unfold K6 at g
 refine C.ss (U.bx ?_)
 refine U.pd 1 T (C.xs (C.ss ?_))
 refine U.pd 3 T (C.nx ?_)
 refine C.jn (fun (x5:Unit)=>[]) (fun x5=>[]) 0 g (fun x5 g=>?_) fun J6 g j6=>?_
 refine C.xt (U.pd 1 T (C.nx (C.ret ?_)))
 exact C.f1 T o (pIi g)
 refine C.block (St.wk (C.loop (fun (s7:Int)=>[(0,.sl 2 Q3 s_1),(3,.p 0 0),(7,.i (s_1.length:Int)),(8,.i s7)]) (fun s7=>[(0,.box [.v (.string v.A),.v (.string v.B)])]) g (fun s7 Y8 g=>?_)) (Wk.a [some 0]))
 refine C.ss (U.pd 1 T (C.xs ?_))
 refine C.ite rfl g (fun b11 g=>?_) fun b11 g=>?_
 refine C.skip (C.xs (C.block (C.ss (U.pd 2 T (C.xs ?_)))))
 refine D.bq mix 9999 [0] [] (fun hQ hS ws M'=>?_)
 refine D.pq 3 (zl [0,1,2]) T ?_
 obtain⟨x16,y16,g⟩:=g
 refine D.ix 3 [] T y16 ?_
 refine D.pq 1 [(4,[])] T ?_
 refine D.q 5 [] hQ hS rfl (.none rfl) rfl rfl (by exact Rd.eqs T rfl rfl Q94 rfl rfl rfl) rfl (by kernel_rfl) ?_
 refine D.done (by kernel_rfl) ?_
 refine C.nx ?_
 refine C.ite rfl g (fun b17 g=>?_) fun b17 g=>?_
 refine C.ss (U.pd 2 T (C.nx (C.ret (C.brt (C.rt (C.rt (C.brt (C.rt ?_))))))))
 exact C.f1 T o (pIi g)
 refine C.skip (C.bnx (C.nx (U.start (U.pd 2 T (C.nx ?_)))))
 exact St.wk (C.next g) (Wk.a [some 0])
 refine C.exit (C.ex (C.ex (C.bex ?_)))
 exact St.wk (j6 _ g) (Wk.mk' [] rfl rfl trivial trivial rfl)
theorem KF (s_1:List Qb) (v:Qb) (post:Bool→Prop) (g:Qw s_1 v post):
  Tr Tryz.prog 122 [.sl 2 Q3 s_1,.agg [.v (.string v.A),.v (.string v.B)]] [] 0 (pB post):=by
 refine Tr.go Tryz.func122 Tryz.ntmps122 fun _ _ _ _ o=>?_
 unfold Qw at g
 refine C.ss (U.bx ?_)
 refine U.pd 1 T (C.xt ?_)
 refine U.ps 2 T rfl (U.k (GA s_1 v _ g) Qao (fun x5 g=>?_))
 refine U.pd 2 T (C.nx (C.ret ?_))
 exact C.f1 T o (pBi g)
theorem Zn (l:List Qb) (a:ByteArray) (b:ByteArray) (post:Bool→Prop) (g:XM l a b post):
  Tr Tryz.prog 76 [.sl 2 Q3 l,.v (.string a),.v (.string b)] [] 0 (pB post):=by
 refine Tr.go Tryz.func76 Tryz.ntmps76 fun _ _ _ _ o=>?_
 unfold XM at g
 refine C.ss (U.pd 1 T (C.xs (C.seq ?_)))
 refine C.jn (fun (x3:Bool)=>[(0,.sl 2 Q3 l),(1,.v (.string a)),(2,.v (.string b)),(12,.b x3)]) (fun x3=>[]) 0 g (fun x3 g=>?_) fun J4 g j4=>?_
 refine C.nx ?_
 refine C.ite rfl g (fun b6 g=>?_) fun b6 g=>?_
 refine C.ss (U.pd 1 T (C.nx (C.ret (C.rt ?_))))
 exact C.f1 T o (pBi g)
 refine C.skip (C.xs ?_)
 refine C.jn (fun (x9:Bool)=>[(6,.b x9)]) (fun x9=>[]) 0 g (fun x9 g=>?_) fun J10 g j10=>?_
 refine C.nx (C.ret ?_)
 exact C.f1 T o (pBi g)
 refine U.start (U.ps 4 T rfl (U.k (KF l ({A:=a,B:=b:Qb}) _ g) Q8D (fun x11 g=>?_)))
 refine U.ps 1 T rfl ?_
 refine g.cs (fun b12 g=>?_) fun b12 g=>?_
 refine U.sk' 5 5 false 18 b12 ?_
 refine U.pk b12 ?_
 refine U.pd 1 T ?_
 exact St.wn (j10 _ g)
 refine U.pq 4 5 false 18 b12 T ?_
 refine U.k (KF l ({A:=b,B:=a:Qb}) _ g) Q8D (fun x13 g=>?_) (hw:=.take 5 false 18 _ b12 rfl rfl rfl)
 refine U.pk' b12 ?_
 refine U.pd 1 T ?_
 exact St.wn (j10 _ g)
 refine U.start (U.ps 3 T rfl ?_)
 refine g.cs (fun b5 g=>?_) fun b5 g=>?_
 refine U.sk' 2 2 false 9 b5 ?_
 refine U.pk b5 ?_
 refine U.done ?_
 exact St.wn (j4 _ g)
 refine U.pq 2 2 false 9 b5 T ?_
 refine U.pk' b5 ?_
 refine U.done ?_
 exact St.wn (j4 _ g)
theorem Wt (x_1:Qb) (m:SurveyMaker) (post:(Int×SurveyMaker)→Prop) (g:QQ x_1 m post):
  Tr Tryz.prog 37 [.p 0 0,.agg [.v (.string x_1.A),.v (.string x_1.B)]] [(0,.box [.i m.site.Floor.W,.i m.site.Floor.H,.i m.site.Floor.D,.sl 1 eI m.site.Floor.Kind,.sl 1 eI m.site.Floor.Out,.o 1,.o 2,.o 3,.o 4,.o 5,.o 6,.o 7,.o 8,.o 9,.o 10,.o 11]),(1,.val (.os 5 Q8 m.site.Zones)),(2,.val (.os 2 Q3 m.site.Aparts)),(3,.val (.os 2 Q4 m.site.Shelves)),(4,.val (.os 2 Q5 m.site.Robots)),(5,.val (.om kI veI m.shelf)),(6,.val (.om kI veB m.robot)),(7,.val (.om kI veB m.zoned)),(8,.val (.om kS veI m.names)),(9,.val (.om kI veB m.oneways)),(10,.val (.os 1 eI m.shelves)),(11,.val (.os 1 eI m.zones))] 12 (fun A H' k=>∃y,post y∧A=(.i y.1)∧H'=[(0,.box [.i y.2.site.Floor.W,.i y.2.site.Floor.H,.i y.2.site.Floor.D,.sl 1 eI y.2.site.Floor.Kind,.sl 1 eI y.2.site.Floor.Out,.o 12,.o 13,.o 14,.o 15,.o 16,.o 17,.o 18,.o 19,.o 20,.o 21,.o 22]),(12,.val (.os 5 Q8 y.2.site.Zones)),(13,.val (.os 2 Q3 y.2.site.Aparts)),(14,.val (.os 2 Q4 y.2.site.Shelves)),(15,.val (.os 2 Q5 y.2.site.Robots)),(16,.val (.om kI veI y.2.shelf)),(17,.val (.om kI veB y.2.robot)),(18,.val (.om kI veB y.2.zoned)),(19,.val (.om kS veI y.2.names)),(20,.val (.om kI veB y.2.oneways)),(21,.val (.os 1 eI y.2.shelves)),(22,.val (.os 1 eI y.2.zones))]∧k=23):=by
 refine Tr.go Tryz.func37 Tryz.ntmps37 fun _ _ _ _ o=>?_
 unfold QQ at g
 refine C.ss (U.bx ?_)
 refine U.pd 1 T (C.xs (C.seq ?_))
 refine C.jn (fun (x3:Bool)=>[(0,.p 0 0),(3,.p 12 0),(14,.b x3)]) (fun x3=>[(0,.box [.i m.site.Floor.W,.i m.site.Floor.H,.i m.site.Floor.D,.sl 1 eI m.site.Floor.Kind,.sl 1 eI m.site.Floor.Out,.o 1,.o 2,.o 3,.o 4,.o 5,.o 6,.o 7,.o 8,.o 9,.o 10,.o 11]),(1,.val (.os 5 Q8 m.site.Zones)),(2,.val (.os 2 Q3 m.site.Aparts)),(3,.val (.os 2 Q4 m.site.Shelves)),(4,.val (.os 2 Q5 m.site.Robots)),(5,.val (.om kI veI m.shelf)),(6,.val (.om kI veB m.robot)),(7,.val (.om kI veB m.zoned)),(8,.val (.om kS veI m.names)),(9,.val (.om kI veB m.oneways)),(10,.val (.os 1 eI m.shelves)),(11,.val (.os 1 eI m.zones)),(12,.box [.v (.string x_1.A),.v (.string x_1.B)])]) 13 g (fun x3 g=>?_) fun J4 g j4=>?_
 refine C.nx ?_
 refine C.ite rfl g (fun b8 g=>?_) fun b8 g=>?_
 refine C.ss (U.pd 1 T (C.nx (C.ret (C.rt ?_))))
 exact C.g1 [some 0,some 1,some 2,some 3,some 4,some 5,some 6,some 7,some 8,some 9,some 10,some 11,some 1,some 2,some 3,some 4,some 5,some 6,some 7,some 8,some 9,some 10,some 11] T o ⟨(12,m),g,rfl,rfl,rfl⟩
 refine C.skip (C.xs (C.seq (D.bq mix 9 [0,12] [] (fun hQ hS ws M'=>?_))))
 refine D.pq 9 [(0,[4,3,2,1]),(1,[4,3,2]),(2,[4,3]),(3,[4]),(4,[]),(5,[6]),(6,[]),(7,[8]),(8,[])] T ?_
 refine D.ze rfl (.none rfl) (by exact Eff.k (Zn m.site.Aparts x_1.A x_1.B _ g) en76 rfl rfl rfl (.cons (.fz rfl rfl rfl (.os fun _=>.cons (.ro rfl) (.cons (.ro rfl) .nil))) (.eq rfl)) (fun _ _=>⟨(.v _),trivial⟩)) (by kernel_rfl) (by kernel_rfl) (fun x13' g=>?_)
 obtain⟨x13⟩:=x13'
 refine C.nx ?_
 refine C.ite rfl g (fun b14 g=>?_) fun b14 g=>?_
 refine C.ss (U.pd 1 T (C.nx (C.ret (C.rt ?_))))
 exact C.g1 [some 0,some 1,some 2,some 3,some 4,some 5,some 6,some 7,some 8,some 9,some 10,some 11,some 1,some 2,some 3,some 4,some 5,some 6,some 7,some 8,some 9,some 10,some 11] T o ⟨(5,m),g,rfl,rfl,rfl⟩
 refine C.skip (C.xs (D.bq mix 12 [0,12] [2] (fun hQ hS ws M'=>?_)))
 refine D.pq 7 (zl [0,1,2,3,4,5,6]) T ?_
 refine D.e1 7 rfl (.none rfl) (by exact Eff1.bs T (enc:=Q3) (xs:=([x_1]:List Qb)) rfl rfl rfl rfl rfl rfl rfl rfl rfl rfl (fun _ _=>rfl) rfl rfl) (by kernel_rfl) rfl rfl ?_
 obtain⟨y19,g⟩:=g
 refine D.e1 8 rfl (.none rfl) (by exact Eff1.ap T rfl rfl rfl rfl rfl rfl (.inr ⟨_,rfl,rfl⟩) rfl rfl rfl (fun _=>rfl) rfl y19) (by kernel_rfl) rfl rfl ?_
 refine D.pq 3 [(9,[11,10]),(10,[11]),(11,[])] T ?_
 refine D.ze1 rfl (.none rfl) (by exact Eff1.st T rfl rfl rfl rfl rfl rfl rfl rfl rfl rfl) (by kernel_rfl) (by kernel_rfl) ?_
 refine C.xt (U.pd 1 T (C.nx (C.ret ?_)))
 exact C.g1 [some 0,some 1,some 2,some 3,some 4,some 5,some 6,some 7,some 8,some 9,some 10,some 11,some 1,some 14,some 3,some 4,some 5,some 6,some 7,some 8,some 9,some 10,some 11] T o ⟨(0,({site:=({Floor:=m.site.Floor,Zones:=m.site.Zones,Aparts:=(m.site.Aparts++([x_1]:List Qb)),Shelves:=m.site.Shelves,Robots:=m.site.Robots:ApiSite}),shelf:=m.shelf,robot:=m.robot,zoned:=m.zoned,names:=m.names,oneways:=m.oneways,shelves:=m.shelves,zones:=m.zones:SurveyMaker})),g,rfl,rfl,rfl⟩
 refine U.start (U.ps 2 T rfl (U.k (We x_1.A _ g) en32 (fun x5 g=>?_)))
 refine U.ps 2 T rfl ?_
 refine g.cs (fun b6 g=>?_) fun b6 g=>?_
 refine U.pq 2 4 false 9 (ntF b6) T ?_
 refine U.k (We x_1.B _ g) en32 (fun x7 g=>?_) (hw:=.take 4 false 9 _ (ntF b6) rfl rfl rfl)
 refine U.pq 1 4 false 9 (ntF b6) T ?_
 refine U.pk' (ntF b6) ?_
 refine U.done ?_
 exact St.wa (idR 13) (j4 _ g)
 refine U.sk' 4 4 false 9 (ntT b6) ?_
 refine U.pk (ntT b6) ?_
 refine U.done ?_
 exact St.wa (idR 13) (j4 _ g)
theorem YZ (kind:Int) (post:Bool→Prop) (g:Xo kind post):
  Tr Tryz.prog 77 [.i kind] [] 0 (pB post):=by
 refine Tr.go Tryz.func77 Tryz.ntmps77 fun _ _ _ _ o=>?_
 unfold Xo at g
 refine C.ss (U.pd 1 T (C.xs ?_))
 refine C.jn (fun (x3:Bool)=>[(2,.b x3)]) (fun x3=>[]) 0 g (fun x3 g=>?_) fun J4 g j4=>?_
 refine C.nx (C.ret ?_)
 exact C.f1 T o (pBi g)
 refine U.start (U.ps 3 T rfl ?_)
 refine g.cs (fun b5 g=>?_) fun b5 g=>?_
 refine U.sk' 2 2 false 5 b5 ?_
 refine U.pk b5 ?_
 refine U.pd 1 T ?_
 exact St.wn (j4 _ g)
 refine U.pq 2 2 false 5 b5 T ?_
 refine U.pk' b5 ?_
 refine U.pd 1 T ?_
 exact St.wn (j4 _ g)
theorem Wv (x_1:QE) (m:SurveyMaker) (post:(Int×SurveyMaker)→Prop) (g:QO x_1 m post):
  Tr Tryz.prog 38 [.p 0 0,.agg [.i x_1.Cell,.v (.string x_1.Class)]] [(0,.box [.i m.site.Floor.W,.i m.site.Floor.H,.i m.site.Floor.D,.sl 1 eI m.site.Floor.Kind,.sl 1 eI m.site.Floor.Out,.o 1,.o 2,.o 3,.o 4,.o 5,.o 6,.o 7,.o 8,.o 9,.o 10,.o 11]),(1,.val (.os 5 Q8 m.site.Zones)),(2,.val (.os 2 Q3 m.site.Aparts)),(3,.val (.os 2 Q4 m.site.Shelves)),(4,.val (.os 2 Q5 m.site.Robots)),(5,.val (.om kI veI m.shelf)),(6,.val (.om kI veB m.robot)),(7,.val (.om kI veB m.zoned)),(8,.val (.om kS veI m.names)),(9,.val (.om kI veB m.oneways)),(10,.val (.os 1 eI m.shelves)),(11,.val (.os 1 eI m.zones))] 12 (fun A H' k=>∃y,post y∧A=(.i y.1)∧H'=[(0,.box [.i y.2.site.Floor.W,.i y.2.site.Floor.H,.i y.2.site.Floor.D,.sl 1 eI y.2.site.Floor.Kind,.sl 1 eI y.2.site.Floor.Out,.o 12,.o 13,.o 14,.o 15,.o 16,.o 17,.o 18,.o 19,.o 20,.o 21,.o 22]),(12,.val (.os 5 Q8 y.2.site.Zones)),(13,.val (.os 2 Q3 y.2.site.Aparts)),(14,.val (.os 2 Q4 y.2.site.Shelves)),(15,.val (.os 2 Q5 y.2.site.Robots)),(16,.val (.om kI veI y.2.shelf)),(17,.val (.om kI veB y.2.robot)),(18,.val (.om kI veB y.2.zoned)),(19,.val (.om kS veI y.2.names)),(20,.val (.om kI veB y.2.oneways)),(21,.val (.os 1 eI y.2.shelves)),(22,.val (.os 1 eI y.2.zones))]∧k=23):=by
 refine Tr.go Tryz.func38 Tryz.ntmps38 fun _ _ _ _ o=>?_
 unfold QO at g
 refine C.ss (U.bx ?_)
 refine U.pd 1 T (C.xs (C.seq ?_))
 refine C.jn (fun (x3:Bool)=>[(0,.p 0 0),(3,.p 12 0),(17,.b x3)]) (fun x3=>[(0,.box [.i m.site.Floor.W,.i m.site.Floor.H,.i m.site.Floor.D,.sl 1 eI m.site.Floor.Kind,.sl 1 eI m.site.Floor.Out,.o 1,.o 2,.o 3,.o 4,.o 5,.o 6,.o 7,.o 8,.o 9,.o 10,.o 11]),(1,.val (.os 5 Q8 m.site.Zones)),(2,.val (.os 2 Q3 m.site.Aparts)),(3,.val (.os 2 Q4 m.site.Shelves)),(4,.val (.os 2 Q5 m.site.Robots)),(5,.val (.om kI veI m.shelf)),(6,.val (.om kI veB m.robot)),(7,.val (.om kI veB m.zoned)),(8,.val (.om kS veI m.names)),(9,.val (.om kI veB m.oneways)),(10,.val (.os 1 eI m.shelves)),(11,.val (.os 1 eI m.zones)),(12,.box [.i x_1.Cell,.v (.string x_1.Class)])]) 13 g (fun x3 g=>?_) fun J4 g j4=>?_
 refine C.nx ?_
 refine C.ite rfl g (fun b7 g=>?_) fun b7 g=>?_
 refine C.ss (U.pd 1 T (C.nx (C.ret (C.rt ?_))))
 exact C.g1 [some 0,some 1,some 2,some 3,some 4,some 5,some 6,some 7,some 8,some 9,some 10,some 11,some 1,some 2,some 3,some 4,some 5,some 6,some 7,some 8,some 9,some 10,some 11] T o ⟨(12,m),g,rfl,rfl,rfl⟩
 refine C.skip (C.xt (U.ps 3 T rfl (U.k (Xc m x_1.Cell _ g) en74 (fun x12 g=>?_))))
 refine U.pd 5 T (C.xs (C.ss ?_))
 refine U.pd 2 T (C.nx ?_)
 refine C.ite rfl g (fun b15 g=>?_) fun b15 g=>?_
 refine C.ss (U.pd 1 T (C.nx (C.ret (C.rt ?_))))
 exact C.g1 [some 0,some 1,some 2,some 3,some 4,some 5,some 6,some 7,some 8,some 9,some 10,some 11,some 1,some 2,some 3,some 4,some 5,some 6,some 7,some 8,some 9,some 10,some 11] T o ⟨(3,m),g,rfl,rfl,rfl⟩
 refine C.skip (C.xs (C.ss (U.ps 1 T rfl (U.k (YZ x12.1 _ g) en77 (fun x20 g=>?_)))))
 refine U.pd 1 T (C.nx ?_)
 refine C.ite rfl g (fun b21 g=>?_) fun b21 g=>?_
 refine C.ss (U.pd 1 T (C.nx (C.ret (C.rt ?_))))
 exact C.g1 [some 0,some 1,some 2,some 3,some 4,some 5,some 6,some 7,some 8,some 9,some 10,some 11,some 1,some 2,some 3,some 4,some 5,some 6,some 7,some 8,some 9,some 10,some 11] T o ⟨(13,m),g,rfl,rfl,rfl⟩
 refine C.skip (C.xs (C.seq (D.bq mix 9999 [0,5,12] [] (fun hQ hS ws M'=>?_))))
 refine D.pq 6 (zl [0,1,2,3,4,5]) T ?_
 refine D.q 6 [] hQ hS rfl (.none rfl) rfl rfl (by exact Rd.lk2 T (ke:=kI) (ve:=veI) (xs:=m.shelf) (z0:=0) (x:=x_1.Cell) rfl rfl kt3 zt3 (fun _=>rfl) rfl (.o rfl) rfl rfl rfl) rfl (by kernel_rfl) ?_
 refine D.pq 5 (zl [7,8,9,10,11]) T ?_
 refine D.done (by kernel_rfl) ?_
 refine C.xt (U.pd 1 T (C.nx ?_))
 refine C.ite rfl g (fun b28 g=>?_) fun b28 g=>?_
 refine C.ss (U.pd 1 T (C.nx (C.ret (C.rt ?_))))
 exact C.g1 [some 0,some 1,some 2,some 3,some 4,some 5,some 6,some 7,some 8,some 9,some 10,some 11,some 1,some 2,some 3,some 4,some 5,some 6,some 7,some 8,some 9,some 10,some 11] T o ⟨(5,m),g,rfl,rfl,rfl⟩
 refine C.skip (C.xs (C.ss (U.pd 7 T (C.nx ?_))))
 refine C.ite rfl g (fun b33 g=>?_) fun b33 g=>?_
 refine C.ss (U.pd 1 T (C.nx (C.ret (C.rt ?_))))
 exact C.g1 [some 0,some 1,some 2,some 3,some 4,some 5,some 6,some 7,some 8,some 9,some 10,some 11,some 1,some 2,some 3,some 4,some 5,some 6,some 7,some 8,some 9,some 10,some 11] T o ⟨(6,m),g,rfl,rfl,rfl⟩
 refine C.skip (C.xs (D.bq mix 12 [0,12] [] (fun hQ hS ws M'=>?_)))
 refine D.pq 12 (zl [0,1,2,3,4,5,6,7,8,9,10,11]) T ?_
 refine D.ze1 rfl (.none rfl) (by exact Eff1.mu T (x:=x_1.Cell) (y:=(m.site.Shelves.length:Int)) (.inl rfl) rfl kt3 (fun _=>rfl) rfl rfl rfl rfl rfl (.inl rfl) rfl) (by kernel_rfl) (by kernel_rfl) ?_
 refine C.xs (D.bq mix 12 [0,12] [3] (fun hQ hS ws M'=>?_))
 refine D.pq 7 (zl [0,1,2,3,4,5,6]) T ?_
 refine D.e1 7 rfl (.none rfl) (by exact Eff1.bs T (enc:=Q4) (xs:=([x_1]:List QE)) rfl rfl rfl rfl rfl rfl rfl rfl rfl rfl (fun _ _=>rfl) rfl rfl) (by kernel_rfl) rfl rfl ?_
 obtain⟨y40,g⟩:=g
 refine D.e1 8 rfl (.none rfl) (by exact Eff1.ap T rfl rfl rfl rfl rfl rfl (.inr ⟨_,rfl,rfl⟩) rfl rfl rfl (fun _=>rfl) rfl y40) (by kernel_rfl) rfl rfl ?_
 refine D.pq 3 [(9,[11,10]),(10,[11]),(11,[])] T ?_
 refine D.ze1 rfl (.none rfl) (by exact Eff1.st T rfl rfl rfl rfl rfl rfl rfl rfl rfl rfl) (by kernel_rfl) (by kernel_rfl) ?_
 refine C.xt (U.pd 1 T (C.nx (C.ret ?_)))
 exact C.g1 [some 0,some 1,some 2,some 3,some 4,some 5,some 6,some 7,some 8,some 9,some 10,some 11,some 1,some 2,some 14,some 4,some 5,some 6,some 7,some 8,some 9,some 10,some 11] T o ⟨(0,({site:=({Floor:=m.site.Floor,Zones:=m.site.Zones,Aparts:=m.site.Aparts,Shelves:=(m.site.Shelves++([x_1]:List QE)),Robots:=m.site.Robots:ApiSite}),shelf:=(upd m.shelf x_1.Cell (m.site.Shelves.length:Int)),robot:=m.robot,zoned:=m.zoned,names:=m.names,oneways:=m.oneways,shelves:=m.shelves,zones:=m.zones:SurveyMaker})),g,rfl,rfl,rfl⟩
 refine U.start (U.ps 4 T rfl ?_)
 refine g.cs (fun b5 g=>?_) fun b5 g=>?_
 refine U.sk' 4 3 true 12 (ntF b5) ?_
 refine U.pk' (ntF b5) ?_
 refine U.done ?_
 exact St.wa (idR 13) (j4 _ g)
 refine U.pq 2 3 true 12 (ntT b5) T ?_
 refine U.k (We x_1.Class _ g) en32 (fun x6 g=>?_) (hw:=.take 3 true 12 _ (ntT b5) rfl rfl rfl)
 refine U.pq 1 3 true 12 (ntT b5) T ?_
 refine U.pk (ntT b5) ?_
 refine U.done ?_
 exact St.wa (idR 13) (j4 _ g)
theorem WF (x_1:QC) (m:SurveyMaker) (post:(Int×SurveyMaker)→Prop) (g:QP x_1 m post):
  Tr Tryz.prog 39 [.p 0 0,.agg [.i x_1.Cell,.i x_1.Charge]] [(0,.box [.i m.site.Floor.W,.i m.site.Floor.H,.i m.site.Floor.D,.sl 1 eI m.site.Floor.Kind,.sl 1 eI m.site.Floor.Out,.o 1,.o 2,.o 3,.o 4,.o 5,.o 6,.o 7,.o 8,.o 9,.o 10,.o 11]),(1,.val (.os 5 Q8 m.site.Zones)),(2,.val (.os 2 Q3 m.site.Aparts)),(3,.val (.os 2 Q4 m.site.Shelves)),(4,.val (.os 2 Q5 m.site.Robots)),(5,.val (.om kI veI m.shelf)),(6,.val (.om kI veB m.robot)),(7,.val (.om kI veB m.zoned)),(8,.val (.om kS veI m.names)),(9,.val (.om kI veB m.oneways)),(10,.val (.os 1 eI m.shelves)),(11,.val (.os 1 eI m.zones))] 12 (fun A H' k=>∃y,post y∧A=(.i y.1)∧H'=[(0,.box [.i y.2.site.Floor.W,.i y.2.site.Floor.H,.i y.2.site.Floor.D,.sl 1 eI y.2.site.Floor.Kind,.sl 1 eI y.2.site.Floor.Out,.o 12,.o 13,.o 14,.o 15,.o 16,.o 17,.o 18,.o 19,.o 20,.o 21,.o 22]),(12,.val (.os 5 Q8 y.2.site.Zones)),(13,.val (.os 2 Q3 y.2.site.Aparts)),(14,.val (.os 2 Q4 y.2.site.Shelves)),(15,.val (.os 2 Q5 y.2.site.Robots)),(16,.val (.om kI veI y.2.shelf)),(17,.val (.om kI veB y.2.robot)),(18,.val (.om kI veB y.2.zoned)),(19,.val (.om kS veI y.2.names)),(20,.val (.om kI veB y.2.oneways)),(21,.val (.os 1 eI y.2.shelves)),(22,.val (.os 1 eI y.2.zones))]∧k=23):=by
 refine Tr.go Tryz.func39 Tryz.ntmps39 fun _ _ _ _ o=>?_
 unfold QP at g
 refine C.ss (U.bx ?_)
 refine U.pd 1 T (C.xt ?_)
 refine U.ps 3 T rfl (U.k (Xc m x_1.Cell _ g) en74 (fun x5 g=>?_))
 refine U.pd 5 T (C.xs (C.seq ?_))
 refine C.jn (fun (x6:Bool)=>[(0,.p 0 0),(3,.p 12 0),(5,.i x5.1),(21,.b x6)]) (fun x6=>[(0,.box [.i m.site.Floor.W,.i m.site.Floor.H,.i m.site.Floor.D,.sl 1 eI m.site.Floor.Kind,.sl 1 eI m.site.Floor.Out,.o 1,.o 2,.o 3,.o 4,.o 5,.o 6,.o 7,.o 8,.o 9,.o 10,.o 11]),(1,.val (.os 5 Q8 m.site.Zones)),(2,.val (.os 2 Q3 m.site.Aparts)),(3,.val (.os 2 Q4 m.site.Shelves)),(4,.val (.os 2 Q5 m.site.Robots)),(5,.val (.om kI veI m.shelf)),(6,.val (.om kI veB m.robot)),(7,.val (.om kI veB m.zoned)),(8,.val (.om kS veI m.names)),(9,.val (.om kI veB m.oneways)),(10,.val (.os 1 eI m.shelves)),(11,.val (.os 1 eI m.zones)),(12,.box [.i x_1.Cell,.i x_1.Charge])]) 13 g (fun x6 g=>?_) fun J7 g j7=>?_
 refine C.nx ?_
 refine C.ite rfl g (fun b10 g=>?_) fun b10 g=>?_
 refine C.ss (U.pd 1 T (C.nx (C.ret (C.rt ?_))))
 exact C.g1 [some 0,some 1,some 2,some 3,some 4,some 5,some 6,some 7,some 8,some 9,some 10,some 11,some 1,some 2,some 3,some 4,some 5,some 6,some 7,some 8,some 9,some 10,some 11] T o ⟨(3,m),g,rfl,rfl,rfl⟩
 refine C.skip (C.xs (C.ss (U.pd 2 T (C.nx ?_))))
 refine C.ite rfl g (fun b15 g=>?_) fun b15 g=>?_
 refine C.ss (U.pd 1 T (C.nx (C.ret (C.rt ?_))))
 exact C.g1 [some 0,some 1,some 2,some 3,some 4,some 5,some 6,some 7,some 8,some 9,some 10,some 11,some 1,some 2,some 3,some 4,some 5,some 6,some 7,some 8,some 9,some 10,some 11] T o ⟨(13,m),g,rfl,rfl,rfl⟩
 refine C.skip (C.xs (C.seq (D.bq mix 9999 [0,6,12] [] (fun hQ hS ws M'=>?_))))
 refine D.pq 6 (zl [0,1,2,3,4,5]) T ?_
 refine D.q 6 [] hQ hS rfl (.none rfl) rfl rfl (by exact Rd.lk T (ke:=kI) (ve:=veB) (xs:=m.robot) (z0:=false) (x:=x_1.Cell) rfl rfl kt3 zt4 (fun _=>rfl) rfl (.o rfl) rfl rfl rfl) rfl (by kernel_rfl) ?_
 refine D.done (by kernel_rfl) ?_
 refine C.nx ?_
 refine C.ite rfl g (fun b20 g=>?_) fun b20 g=>?_
 refine C.ss (U.pd 1 T (C.nx (C.ret (C.rt ?_))))
 exact C.g1 [some 0,some 1,some 2,some 3,some 4,some 5,some 6,some 7,some 8,some 9,some 10,some 11,some 1,some 2,some 3,some 4,some 5,some 6,some 7,some 8,some 9,some 10,some 11] T o ⟨(5,m),g,rfl,rfl,rfl⟩
 refine C.skip (C.xs (C.ss (U.pd 7 T (C.nx ?_))))
 refine C.ite rfl g (fun b25 g=>?_) fun b25 g=>?_
 refine C.ss (U.pd 1 T (C.nx (C.ret (C.rt ?_))))
 exact C.g1 [some 0,some 1,some 2,some 3,some 4,some 5,some 6,some 7,some 8,some 9,some 10,some 11,some 1,some 2,some 3,some 4,some 5,some 6,some 7,some 8,some 9,some 10,some 11] T o ⟨(6,m),g,rfl,rfl,rfl⟩
 refine C.skip (C.xs (D.bq mix 6 [0,12] [] (fun hQ hS ws M'=>?_)))
 refine D.pq 6 (zl [0,1,2,3,4,5]) T ?_
 refine D.ze1 rfl (.none rfl) (by exact Eff1.mu T (x:=x_1.Cell) (y:=true) (.inl rfl) rfl kt3 (fun _=>rfl) rfl rfl rfl rfl rfl (.inl rfl) rfl) (by kernel_rfl) (by kernel_rfl) ?_
 refine C.xs (D.bq mix 12 [0,12] [4] (fun hQ hS ws M'=>?_))
 refine D.pq 7 (zl [0,1,2,3,4,5,6]) T ?_
 refine D.e1 7 rfl (.none rfl) (by exact Eff1.bs T (enc:=Q5) (xs:=([x_1]:List QC)) rfl rfl rfl rfl rfl rfl rfl rfl rfl rfl (fun _ _=>rfl) rfl rfl) (by kernel_rfl) rfl rfl ?_
 obtain⟨y32,g⟩:=g
 refine D.e1 8 rfl (.none rfl) (by exact Eff1.ap T rfl rfl rfl rfl rfl rfl (.inr ⟨_,rfl,rfl⟩) rfl rfl rfl (fun _=>rfl) rfl y32) (by kernel_rfl) rfl rfl ?_
 refine D.pq 3 [(9,[11,10]),(10,[11]),(11,[])] T ?_
 refine D.ze1 rfl (.none rfl) (by exact Eff1.st T rfl rfl rfl rfl rfl rfl rfl rfl rfl rfl) (by kernel_rfl) (by kernel_rfl) ?_
 refine C.xt (U.pd 1 T (C.nx (C.ret ?_)))
 exact C.g1 [some 0,some 1,some 2,some 3,some 4,some 5,some 6,some 7,some 8,some 9,some 10,some 11,some 1,some 2,some 3,some 14,some 5,some 6,some 7,some 8,some 9,some 10,some 11] T o ⟨(0,({site:=({Floor:=m.site.Floor,Zones:=m.site.Zones,Aparts:=m.site.Aparts,Shelves:=m.site.Shelves,Robots:=(m.site.Robots++([x_1]:List QC)):ApiSite}),shelf:=m.shelf,robot:=(upd m.robot x_1.Cell true),zoned:=m.zoned,names:=m.names,oneways:=m.oneways,shelves:=m.shelves,zones:=m.zones:SurveyMaker})),g,rfl,rfl,rfl⟩
 refine U.start (U.ps 3 T rfl ?_)
 refine g.cs (fun b8 g=>?_) fun b8 g=>?_
 refine U.pq 2 2 false 16 (ntF b8) T ?_
 refine U.k (YG x_1.Charge 0 1000000 _ g) en33 (fun x9 g=>?_) (hw:=.take 2 false 16 _ (ntF b8) rfl rfl rfl)
 refine U.pq 1 2 false 16 (ntF b8) T ?_
 refine U.pk' (ntF b8) ?_
 refine U.done ?_
 exact St.wa (idR 13) (j7 _ g)
 refine U.sk' 4 2 false 16 (ntT b8) ?_
 refine U.pk (ntT b8) ?_
 refine U.done ?_
 exact St.wa (idR 13) (j7 _ g)
theorem Z0 (m:SurveyMaker) (post:Int→Prop) (g:Kw m post):
  Tr Tryz.prog 40 [.rp [.i m.site.Floor.W,.i m.site.Floor.H,.i m.site.Floor.D,.sl 1 eI m.site.Floor.Kind,.sl 1 eI m.site.Floor.Out,.sl 5 Q8 m.site.Zones,.sl 2 Q3 m.site.Aparts,.sl 2 Q4 m.site.Shelves,.sl 2 Q5 m.site.Robots,.rm kI veI m.shelf,.rm kI veB m.robot,.rm kI veB m.zoned,.rm kS veI m.names,.rm kI veB m.oneways,.sl 1 eI m.shelves,.sl 1 eI m.zones]] [] 0 (pI post):=by
 refine Tr.go Tryz.func40 Tryz.ntmps40 fun _ _ _ _ o=>?_
 unfold Kw at g
 refine C.ss (U.pd 1 T (C.xt ?_))
 refine U.ps 5 T rfl (U.al T ?_)
 refine U.st T ?_
 refine U.done (C.xs (C.ss (U.pd 7 T (C.nx ?_))))
 refine C.jn (fun (x7:Unit)=>[]) (fun x7=>[]) 0 g (fun x7 g=>?_) fun J8 g j8=>?_
 refine C.xt (U.pd 1 T (C.nx (C.ret ?_)))
 exact C.f1 T o (pIi g)
 refine C.block ?_
 refine St.wk (C.loop (fun (s9:Int)=>[(0,.rp [.i m.site.Floor.W,.i m.site.Floor.H,.i m.site.Floor.D,.sl 1 eI m.site.Floor.Kind,.sl 1 eI m.site.Floor.Out,.sl 5 Q8 m.site.Zones,.sl 2 Q3 m.site.Aparts,.sl 2 Q4 m.site.Shelves,.sl 2 Q5 m.site.Robots,.rm kI veI m.shelf,.rm kI veB m.robot,.rm kI veB m.zoned,.rm kS veI m.names,.rm kI veB m.oneways,.sl 1 eI m.shelves,.sl 1 eI m.zones]),(3,.p 0 0),(22,.sl 2 Q4 m.site.Shelves),(23,.i (m.site.Shelves.length:Int)),(24,.i s9)]) (fun s9=>[(0,.box (Qc m.site.Floor))]) g (fun s9 Y10 g=>?_)) (Wk.a [some 0])
 refine C.ss (U.pd 1 T (C.xs ?_))
 refine C.ite rfl g (fun b13 g=>?_) fun b13 g=>?_
 refine C.skip (C.xs ?_)
 refine C.jn (fun (x14:Unit)=>[(0,.rp [.i m.site.Floor.W,.i m.site.Floor.H,.i m.site.Floor.D,.sl 1 eI m.site.Floor.Kind,.sl 1 eI m.site.Floor.Out,.sl 5 Q8 m.site.Zones,.sl 2 Q3 m.site.Aparts,.sl 2 Q4 m.site.Shelves,.sl 2 Q5 m.site.Robots,.rm kI veI m.shelf,.rm kI veB m.robot,.rm kI veB m.zoned,.rm kS veI m.names,.rm kI veB m.oneways,.sl 1 eI m.shelves,.sl 1 eI m.zones]),(3,.p 0 0),(22,.sl 2 Q4 m.site.Shelves),(23,.i (m.site.Shelves.length:Int)),(24,.i s9)]) (fun x14=>[(0,.box (Qc m.site.Floor))]) 1 g (fun x14 g=>?_) fun J15 g j15=>?_
 refine C.nx (U.start (U.pd 2 T (C.nx ?_)))
 exact St.wk (C.next g) (Wk.a [some 0])
 refine C.block (C.ss (U.ps 1 T rfl ?_))
 obtain⟨x18,y18,g⟩:=g
 refine U.ix T y18 ?_
 refine U.ps 1 T rfl (U.al T ?_)
 refine U.ps 1 T rfl (U.st T ?_)
 refine U.done (C.xt (U.ps 3 T rfl (U.k (Q1W m.site.Floor x18.Cell _ g) en78 (fun x21 g=>?_))))
 refine U.pd 7 T (C.xs ?_)
 refine D.bq mix 9999 [0] [] (fun hQ hS ws M'=>?_)
 refine D.pq 21 (zl [0,1,2,3,4,6,7,8,9,10,12,13,14,15,16,18,19,20,21,22,26]) T ?_
 refine D.k 5 (GV m.site.Floor (w64 (x21.1+1)) x21.2.1 x21.2.2 _ g) en79 fun x24 g=>?_
 refine D.k 11 (GV m.site.Floor x21.1 (w64 (x21.2.1+1)) x21.2.2 _ g) en79 fun x25 g=>?_
 refine D.k 17 (GV m.site.Floor (w64 (x21.1-1)) x21.2.1 x21.2.2 _ g) en79 fun x26 g=>?_
 refine D.k 23 (GV m.site.Floor x21.1 (w64 (x21.2.1-1)) x21.2.2 _ g) en79 fun x27 g=>?_
 refine D.e1 24 rfl (.none rfl) (by exact Eff1.bs T (enc:=eI) (xs:=([x24,x25,x26,x27]:List Int)) rfl rfl rfl rfl rfl rfl rfl rfl rfl rfl (fun _ _=>rfl) rfl rfl) (by kernel_rfl) rfl rfl ?_
 refine D.pq 1 [(25,[])] T ?_
 refine D.done (by kernel_rfl) ?_
 refine C.nx ?_
 refine C.jn (fun (x28:Unit)=>[(0,.rp [.i m.site.Floor.W,.i m.site.Floor.H,.i m.site.Floor.D,.sl 1 eI m.site.Floor.Kind,.sl 1 eI m.site.Floor.Out,.sl 5 Q8 m.site.Zones,.sl 2 Q3 m.site.Aparts,.sl 2 Q4 m.site.Shelves,.sl 2 Q5 m.site.Robots,.rm kI veI m.shelf,.rm kI veB m.robot,.rm kI veB m.zoned,.rm kS veI m.names,.rm kI veB m.oneways,.sl 1 eI m.shelves,.sl 1 eI m.zones]),(3,.p 0 0),(22,.sl 2 Q4 m.site.Shelves),(23,.i (m.site.Shelves.length:Int)),(24,.i s9)]) (fun x28=>[(0,.box (Qc m.site.Floor))]) 1 g (fun x28 g=>?_) fun J29 g j29=>?_
 refine C.bnx ?_
 exact St.wa [some 0] (j15 _ g)
 refine C.block ?_
 refine St.wk (C.loop (fun (s30:Int)=>[(0,.rp [.i m.site.Floor.W,.i m.site.Floor.H,.i m.site.Floor.D,.sl 1 eI m.site.Floor.Kind,.sl 1 eI m.site.Floor.Out,.sl 5 Q8 m.site.Zones,.sl 2 Q3 m.site.Aparts,.sl 2 Q4 m.site.Shelves,.sl 2 Q5 m.site.Robots,.rm kI veI m.shelf,.rm kI veB m.robot,.rm kI veB m.zoned,.rm kS veI m.names,.rm kI veB m.oneways,.sl 1 eI m.shelves,.sl 1 eI m.zones]),(3,.p 0 0),(4,.i s9),(5,.p 1 0),(22,.sl 2 Q4 m.site.Shelves),(23,.i (m.site.Shelves.length:Int)),(24,.i s9),(61,.o 2),(62,.i (([x24,x25,x26,x27]:List Int).length:Int)),(63,.i s30)]) (fun s30=>[(0,.box (Qc m.site.Floor)),(1,.box [.i x18.Cell,.v (.string x18.Class)]),(2,.val (.os 1 eI ([x24,x25,x26,x27]:List Int)))]) g (fun s30 Y31 g=>?_)) (Wk.a (idR 3))
 refine C.ss (U.pd 1 T (C.xs ?_))
 refine C.ite rfl g (fun b34 g=>?_) fun b34 g=>?_
 refine C.skip (C.xs (C.block (C.ss ?_)))
 obtain⟨x37,y37,g⟩:=g
 refine U.r rfl (.none rfl) rfl rfl (by exact Rd.io T rfl rfl rfl rfl rfl rfl rfl y37) ?_
 refine U.r rfl (.none rfl) rfl rfl (by exact Rd.le T rfl rfl rfl (Qe y37).2.2 rfl rfl rfl) ?_
 refine U.pd 1 T (C.xt ?_)
 refine U.ps 5 T rfl (U.r rfl (.none rfl) rfl rfl (by exact Rd.lk2 T (ke:=kI) (ve:=veI) (xs:=m.shelf) (z0:=0) (x:=x37) rfl rfl kt3 zt3 (fun _=>rfl) rfl .rm rfl rfl rfl) ?_)
 refine U.pd 5 T (C.xs ?_)
 refine C.jn (fun (x40:Bool)=>[(0,.rp [.i m.site.Floor.W,.i m.site.Floor.H,.i m.site.Floor.D,.sl 1 eI m.site.Floor.Kind,.sl 1 eI m.site.Floor.Out,.sl 5 Q8 m.site.Zones,.sl 2 Q3 m.site.Aparts,.sl 2 Q4 m.site.Shelves,.sl 2 Q5 m.site.Robots,.rm kI veI m.shelf,.rm kI veB m.robot,.rm kI veB m.zoned,.rm kS veI m.names,.rm kI veB m.oneways,.sl 1 eI m.shelves,.sl 1 eI m.zones]),(3,.p 0 0),(4,.i s9),(5,.p 1 0),(22,.sl 2 Q4 m.site.Shelves),(23,.i (m.site.Shelves.length:Int)),(24,.i s9),(61,.o 2),(62,.i (([x24,x25,x26,x27]:List Int).length:Int)),(63,.i s30),(100,.b x40)]) (fun x40=>[(0,.box (Qc m.site.Floor)),(1,.box [.i x18.Cell,.v (.string x18.Class)]),(2,.val (.os 1 eI ([x24,x25,x26,x27]:List Int)))]) 3 g (fun x40 g=>?_) fun J41 g j41=>?_
 refine C.nx ?_
 refine C.ite rfl g (fun b46 g=>?_) fun b46 g=>?_
 refine C.ss (U.pd 2 T (C.nx (C.ret (C.brt (C.rt (C.rt (C.brt (C.brt (C.rt (C.rt (C.brt (C.rt ?_))))))))))))
 exact C.f1 T o (pIi g)
 refine C.skip (C.bnx (C.nx (U.start (U.pd 2 T (C.nx ?_)))))
 exact St.wk (C.next g) (Wk.a (idR 3))
 refine D.bq mix 9999 [1] [] (fun hQ hS ws M'=>?_)
 refine D.pq 2 (zl [0,1]) T ?_
 refine g.cs (fun b42 g=>?_) fun b42 g=>?_
 refine D.pt 2 [] 1 true 77 b42 T ?_
 refine D.pt 3 [] 1 true 77 b42 T ?_
 refine D.pt 4 [] 1 true 77 b42 T ?_
 refine D.kt 5 [] b42 ?_
 refine D.pq 1 [(6,[])] T ?_
 refine g.cs (fun b43 g=>?_) fun b43 g=>?_
 refine D.pt 7 [] 6 true 82 b43 T ?_
 refine D.pt 8 [] 6 true 82 b43 T ?_
 refine D.pt 9 [] 6 true 82 b43 T ?_
 refine D.pt 10 [] 6 true 82 b43 T ?_
 refine D.q 11 [] hQ hS rfl (.tk 6 true 82 b43) rfl rfl (by exact Rd.l T rfl rfl rfl) rfl (by kernel_rfl) ?_
 refine D.pt 12 [] 6 true 82 b43 T ?_
 refine D.q 13 [] hQ hS rfl (.tk 6 true 82 b43) rfl rfl (by exact Rd.l T rfl rfl rfl) rfl (by kernel_rfl) ?_
 refine D.pt 14 [] 6 true 82 b43 T ?_
 refine D.pt 15 [] 6 true 82 b43 T ?_
 refine D.pt 16 [] 6 true 82 b43 T ?_
 refine D.pt 17 [] 6 true 82 b43 T ?_
 refine D.q 18 [] hQ hS rfl (.tk 6 true 82 b43) rfl rfl (by exact Rd.l T rfl rfl rfl) rfl (by kernel_rfl) ?_
 refine D.pt 19 [] 6 true 82 b43 T ?_
 obtain⟨x44,y44,g⟩:=g
 refine D.q 20 [] hQ hS rfl (.tk 6 true 82 b43) rfl rfl (by exact Rd.ix T rfl rfl rfl rfl rfl rfl y44) rfl (by kernel_rfl) ?_
 refine D.pt 21 [] 6 true 82 b43 T ?_
 refine D.q 22 [] hQ hS rfl (.tk 6 true 82 b43) rfl rfl (by exact Rd.l T rfl rfl rfl) rfl (by kernel_rfl) ?_
 refine D.k 23 (Zn m.site.Aparts x18.Class x44.Class _ g) en76 (fun x45 g=>?_) (hw:=.take 6 true 82 _ b43 rfl rfl rfl)
 refine D.kt 24 [] b43 ?_
 refine D.done (by kernel_rfl) ?_
 exact St.wa (idR 3) (j41 _ g)
 refine D.sz 7 [] 6 true 82 b43 ?_
 refine D.sz 8 [] 6 true 82 b43 ?_
 refine D.sz 9 [] 6 true 82 b43 ?_
 refine D.sz 10 [] 6 true 82 b43 ?_
 refine D.sz 11 [] 6 true 82 b43 ?_
 refine D.sz 12 [] 6 true 82 b43 ?_
 refine D.sz 13 [] 6 true 82 b43 ?_
 refine D.sz 14 [] 6 true 82 b43 ?_
 refine D.sz 15 [] 6 true 82 b43 ?_
 refine D.sz 16 [] 6 true 82 b43 ?_
 refine D.sz 17 [] 6 true 82 b43 ?_
 refine D.sz 18 [] 6 true 82 b43 ?_
 refine D.sz 19 [] 6 true 82 b43 ?_
 refine D.sz 20 [] 6 true 82 b43 ?_
 refine D.sz 21 [] 6 true 82 b43 ?_
 refine D.sz 22 [] 6 true 82 b43 ?_
 refine D.sz 23 [] 6 true 82 b43 ?_
 refine D.kf 24 [] b43 ?_
 refine D.done (by kernel_rfl) ?_
 exact St.wa (idR 3) (j41 _ g)
 refine D.sz 2 [] 1 true 77 b42 ?_
 refine D.sz 3 [] 1 true 77 b42 ?_
 refine D.sz 4 [] 1 true 77 b42 ?_
 refine D.kf 5 [] b42 ?_
 refine D.pq 1 [(6,[])] T ?_
 refine D.sz 7 [] 6 true 82 rfl ?_
 refine D.sz 8 [] 6 true 82 rfl ?_
 refine D.sz 9 [] 6 true 82 rfl ?_
 refine D.sz 10 [] 6 true 82 rfl ?_
 refine D.sz 11 [] 6 true 82 rfl ?_
 refine D.sz 12 [] 6 true 82 rfl ?_
 refine D.sz 13 [] 6 true 82 rfl ?_
 refine D.sz 14 [] 6 true 82 rfl ?_
 refine D.sz 15 [] 6 true 82 rfl ?_
 refine D.sz 16 [] 6 true 82 rfl ?_
 refine D.sz 17 [] 6 true 82 rfl ?_
 refine D.sz 18 [] 6 true 82 rfl ?_
 refine D.sz 19 [] 6 true 82 rfl ?_
 refine D.sz 20 [] 6 true 82 rfl ?_
 refine D.sz 21 [] 6 true 82 rfl ?_
 refine D.sz 22 [] 6 true 82 rfl ?_
 refine D.sz 23 [] 6 true 82 rfl ?_
 refine D.kf 24 [] rfl ?_
 refine D.done (by kernel_rfl) ?_
 exact St.wa (idR 3) (j41 _ g)
 refine C.exit (C.ex (C.ex (C.bex ?_)))
 exact St.wa [some 0] (j29 _ g)
 refine C.exit (C.ex (C.ex (C.bex ?_)))
 exact St.wk (j8 _ g) (Wk.mk' [] rfl rfl trivial trivial rfl)
theorem Ye (z:Ql) (c0:SurveyMaker) (post:Bool→Prop) (g:K2 z c0 post):
  Tr Tryz.prog 81 [.agg (Q8 z),.rp [.rp [.i c0.site.Floor.W,.i c0.site.Floor.H,.i c0.site.Floor.D,.sl 1 eI c0.site.Floor.Kind,.sl 1 eI c0.site.Floor.Out,.sl 5 Q8 c0.site.Zones,.sl 2 Q3 c0.site.Aparts,.sl 2 Q4 c0.site.Shelves,.sl 2 Q5 c0.site.Robots,.rm kI veI c0.shelf,.rm kI veB c0.robot,.rm kI veB c0.zoned,.rm kS veI c0.names,.rm kI veB c0.oneways,.sl 1 eI c0.shelves,.sl 1 eI c0.zones]]] [] 0 (pB post):=by
 refine Tr.go Tryz.func81 Tryz.ntmps81 fun _ _ _ _ o=>?_
 unfold K2 at g
 refine C.ss (U.bx ?_)
 refine U.pd 1 T (C.xt ?_)
 refine U.pd 1 T (C.xs (C.ss ?_))
 refine U.pd 4 T (C.nx ?_)
 refine C.jn (fun (x7:Int)=>[(2,.p 0 0),(4,.i x7)]) (fun x7=>[(0,.box (Q8 z))]) 1 g (fun x7 g=>?_) fun J8 g j8=>?_
 refine C.xt (U.pd 5 T (C.nx (C.ret ?_)))
 exact C.f1 T o (pBi g)
 refine C.block ?_
 refine St.wk (C.loop (fun (s9:Int×Int)=>[(1,.rp [.rp [.i c0.site.Floor.W,.i c0.site.Floor.H,.i c0.site.Floor.D,.sl 1 eI c0.site.Floor.Kind,.sl 1 eI c0.site.Floor.Out,.sl 5 Q8 c0.site.Zones,.sl 2 Q3 c0.site.Aparts,.sl 2 Q4 c0.site.Shelves,.sl 2 Q5 c0.site.Robots,.rm kI veI c0.shelf,.rm kI veB c0.robot,.rm kI veB c0.zoned,.rm kS veI c0.names,.rm kI veB c0.oneways,.sl 1 eI c0.shelves,.sl 1 eI c0.zones]]),(2,.p 0 0),(4,.i s9.1),(10,.sl 1 eI z.Cells),(11,.i (z.Cells.length:Int)),(12,.i s9.2)]) (fun s9=>[(0,.box (Q8 z))]) g (fun s9 Y10 g=>?_)) (Wk.a [some 0])
 refine C.ss (U.pd 1 T (C.xs ?_))
 refine C.ite rfl g (fun b13 g=>?_) fun b13 g=>?_
 refine C.skip (C.xs (C.block (C.ss ?_)))
 obtain⟨x16,y16,g⟩:=g
 refine U.ix T y16 ?_
 refine U.pd 2 T (C.xt ?_)
 refine U.ps 5 T rfl (U.r rfl (.none rfl) rfl rfl (by exact Rd.lk2 T (ke:=kI) (ve:=veI) (xs:=c0.shelf) (z0:=0) (x:=x16) rfl rfl kt3 zt3 (fun _=>rfl) rfl .rm rfl rfl rfl) ?_)
 refine U.pd 5 T (C.xs ?_)
 refine C.jn (fun (x19:Bool)=>[(1,.rp [.rp [.i c0.site.Floor.W,.i c0.site.Floor.H,.i c0.site.Floor.D,.sl 1 eI c0.site.Floor.Kind,.sl 1 eI c0.site.Floor.Out,.sl 5 Q8 c0.site.Zones,.sl 2 Q3 c0.site.Aparts,.sl 2 Q4 c0.site.Shelves,.sl 2 Q5 c0.site.Robots,.rm kI veI c0.shelf,.rm kI veB c0.robot,.rm kI veB c0.zoned,.rm kS veI c0.names,.rm kI veB c0.oneways,.sl 1 eI c0.shelves,.sl 1 eI c0.zones]]),(2,.p 0 0),(4,.i s9.1),(10,.sl 1 eI z.Cells),(11,.i (z.Cells.length:Int)),(12,.i s9.2),(38,.b x19)]) (fun x19=>[(0,.box (Q8 z))]) 1 g (fun x19 g=>?_) fun J20 g j20=>?_
 refine C.nx ?_
 refine C.jn (fun (x24:Int)=>[(1,.rp [.rp [.i c0.site.Floor.W,.i c0.site.Floor.H,.i c0.site.Floor.D,.sl 1 eI c0.site.Floor.Kind,.sl 1 eI c0.site.Floor.Out,.sl 5 Q8 c0.site.Zones,.sl 2 Q3 c0.site.Aparts,.sl 2 Q4 c0.site.Shelves,.sl 2 Q5 c0.site.Robots,.rm kI veI c0.shelf,.rm kI veB c0.robot,.rm kI veB c0.zoned,.rm kS veI c0.names,.rm kI veB c0.oneways,.sl 1 eI c0.shelves,.sl 1 eI c0.zones]]),(2,.p 0 0),(4,.i x24),(10,.sl 1 eI z.Cells),(11,.i (z.Cells.length:Int)),(12,.i s9.2)]) (fun x24=>[(0,.box (Q8 z))]) 1 g (fun x24 g=>?_) fun J25 g j25=>?_
 refine C.bnx (C.nx (U.start (U.pd 2 T (C.nx ?_))))
 exact St.wk (C.next g) (Wk.a [some 0])
 refine C.ite rfl g (fun b26 g=>?_) fun b26 g=>?_
 refine U.start (U.pd 3 T ?_)
 exact St.wa [some 0] (j25 _ g)
 refine C.skip ?_
 exact St.wa [some 0] (j25 _ g)
 refine U.start (U.ps 3 T rfl ?_)
 refine g.cs (fun b21 g=>?_) fun b21 g=>?_
 refine U.sk' 10 2 true 27 (ntF b21) ?_
 refine U.pk' (ntF b21) ?_
 refine U.done ?_
 exact St.wa [some 0] (j20 _ g)
 refine U.pq 7 2 true 27 (ntT b21) T ?_
 obtain⟨x22,y22,g⟩:=g
 refine U.r rfl (.tk 2 true 27 (ntT b21)) rfl rfl (by exact Rd.ix T rfl rfl rfl rfl rfl rfl y22) ?_
 refine U.pq 1 2 true 27 (ntT b21) T ?_
 refine U.k (YZ x22 _ g) en77 (fun x23 g=>?_) (hw:=.take 2 true 27 _ (ntT b21) rfl rfl rfl)
 refine U.pk (ntT b21) ?_
 refine U.done ?_
 exact St.wa [some 0] (j20 _ g)
 refine C.exit (C.ex (C.ex (C.bex ?_)))
 exact St.wa [some 0] (j8 _ g)
theorem Ks (s_1:List Ql) (f_c0:SurveyMaker) (post:Int→Prop) (g:Q9 s_1 f_c0 post):
  Tr Tryz.prog 80 [.sl 5 Q8 s_1,.fn (.func 81) [] [.rp [.rp [.i f_c0.site.Floor.W,.i f_c0.site.Floor.H,.i f_c0.site.Floor.D,.sl 1 eI f_c0.site.Floor.Kind,.sl 1 eI f_c0.site.Floor.Out,.sl 5 Q8 f_c0.site.Zones,.sl 2 Q3 f_c0.site.Aparts,.sl 2 Q4 f_c0.site.Shelves,.sl 2 Q5 f_c0.site.Robots,.rm kI veI f_c0.shelf,.rm kI veB f_c0.robot,.rm kI veB f_c0.zoned,.rm kS veI f_c0.names,.rm kI veB f_c0.oneways,.sl 1 eI f_c0.shelves,.sl 1 eI f_c0.zones]]]] [] 0 (pI post):=by
 refine Tr.go Tryz.func80 Tryz.ntmps80 fun _ _ _ _ o=>?_
 unfold Q9 at g
 refine C.ss (U.pd 1 T (C.xs (C.ss ?_)))
 refine U.pd 3 T (C.nx ?_)
 refine C.jn (fun (x5:Unit)=>[]) (fun x5=>[]) 0 g (fun x5 g=>?_) fun J6 g j6=>?_
 refine C.xt (U.pd 1 T (C.nx (C.ret ?_)))
 exact C.f1 T o (pIi g)
 refine C.block ?_
 refine St.wk (C.loop (fun (s7:Int)=>[(0,.sl 5 Q8 s_1),(1,.fn (.func 81) [] [.rp [.rp [.i f_c0.site.Floor.W,.i f_c0.site.Floor.H,.i f_c0.site.Floor.D,.sl 1 eI f_c0.site.Floor.Kind,.sl 1 eI f_c0.site.Floor.Out,.sl 5 Q8 f_c0.site.Zones,.sl 2 Q3 f_c0.site.Aparts,.sl 2 Q4 f_c0.site.Shelves,.sl 2 Q5 f_c0.site.Robots,.rm kI veI f_c0.shelf,.rm kI veB f_c0.robot,.rm kI veB f_c0.zoned,.rm kS veI f_c0.names,.rm kI veB f_c0.oneways,.sl 1 eI f_c0.shelves,.sl 1 eI f_c0.zones]]]),(7,.i (s_1.length:Int)),(8,.i s7)]) (fun s7=>[]) g (fun s7 Y8 g=>?_)) (Wk.e)
 refine C.ss (U.pd 1 T (C.xs ?_))
 refine C.ite rfl g (fun b11 g=>?_) fun b11 g=>?_
 refine C.skip (C.xs (C.block (C.ss (U.pd 2 T (C.xt ?_)))))
 refine U.ps 3 T rfl ?_
 obtain⟨x16,y16,g⟩:=g
 refine U.ix T y16 ?_
 refine U.ps 1 T rfl (U.k (Ye x16 f_c0 _ g) en81 (fun x17 g=>?_))
 refine U.done (C.nx ?_)
 refine C.ite rfl g (fun b18 g=>?_) fun b18 g=>?_
 refine C.ss (U.pd 2 T (C.nx (C.ret (C.brt (C.rt (C.rt (C.brt (C.rt ?_))))))))
 exact C.f1 T o (pIi g)
 refine C.skip (C.bnx (C.nx (U.start (U.pd 2 T (C.nx ?_)))))
 exact St.wk (C.next g) (Wk.e)
 refine C.exit (C.ex (C.ex (C.bex ?_)))
 exact St.wk (j6 _ g) (Wk.mk' [] rfl rfl trivial trivial rfl)
theorem Yz (m:SurveyMaker) (post:Int→Prop) (g:Kr m post):
  Tr Tryz.prog 41 [.rp [.i m.site.Floor.W,.i m.site.Floor.H,.i m.site.Floor.D,.sl 1 eI m.site.Floor.Kind,.sl 1 eI m.site.Floor.Out,.sl 5 Q8 m.site.Zones,.sl 2 Q3 m.site.Aparts,.sl 2 Q4 m.site.Shelves,.sl 2 Q5 m.site.Robots,.rm kI veI m.shelf,.rm kI veB m.robot,.rm kI veB m.zoned,.rm kS veI m.names,.rm kI veB m.oneways,.sl 1 eI m.shelves,.sl 1 eI m.zones]] [] 0 (pI post):=by
 refine Tr.go Tryz.func41 Tryz.ntmps41 fun _ _ _ _ o=>?_
 unfold Kr at g
 refine C.ss (U.bx ?_)
 refine U.pd 1 T (C.xt ?_)
 refine U.ps 6 T rfl (U.k (Ks m.site.Zones m _ g) en80 (fun x5 g=>?_))
 refine U.pd 1 T (C.nx (C.ret ?_))
 exact C.f1 T o (pIi g)
theorem YA (m:SurveyMaker) (post:Bool→Prop) (g:Kq m post):
  Tr Tryz.prog 42 [.rp [.i m.site.Floor.W,.i m.site.Floor.H,.i m.site.Floor.D,.sl 1 eI m.site.Floor.Kind,.sl 1 eI m.site.Floor.Out,.sl 5 Q8 m.site.Zones,.sl 2 Q3 m.site.Aparts,.sl 2 Q4 m.site.Shelves,.sl 2 Q5 m.site.Robots,.rm kI veI m.shelf,.rm kI veB m.robot,.rm kI veB m.zoned,.rm kS veI m.names,.rm kI veB m.oneways,.sl 1 eI m.shelves,.sl 1 eI m.zones]] [] 0 (pB post):=by
 refine Tr.go Tryz.func42 Tryz.ntmps42 fun _ _ _ _ o=>?_
 unfold Kq at g
 refine C.ss (U.pd 1 T (C.xt ?_))
 refine U.ps 6 T rfl (U.k (QL m.site.Floor.Kind 3 _ g) en54 (fun x5 g=>?_))
 refine U.pd 1 T (C.nx (C.ret ?_))
 exact C.f1 T o (pBi g)
end Go.Proofs.YtbkpekodmhkbdaaGreat
