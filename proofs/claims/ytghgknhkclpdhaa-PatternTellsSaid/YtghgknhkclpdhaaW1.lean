/- The walks: each Go function does what its verification condition says (written by a program of the prover). -/
import Derived.Test.YtghgknhkclpdhaaW0
import Derived.KernelRfl
set_option maxRecDepth 100000
set_option maxHeartbeats 8000000
set_option linter.unusedVariables false
set_option linter.unusedSimpArgs false
namespace Go.Proofs.Ytghgknhkclpdhaa
open Go Go.Taq
theorem T_taquinref27_Choice (l : ApiLayout) (bits : Int) (post : ApiLayout → Prop) (g : V_taquinref27_Choice l bits post) :
    Tr Try.prog 12 [.agg [.sl 1 eB l.Full, .i l.Target], .i bits] [] 0 (fun A H' k => ∃ y, post y ∧ A = (.agg [.o 0, .i y.Target]) ∧ H' = [(0, .val (.os 1 eB y.Full))] ∧ k = 1) := by
 refine Tr.go Try.func12 Try.ntmps12 fun _ _ _ _ o => ?_
 unfold V_taquinref27_Choice at g
 refine C.ss (U.bx ?_)
 refine U.al T ?_
 refine U.done (C.xs (D.bq mix 8 [0] [2, 3] (fun hQ hS ws M' => ?_)))
 refine D.pq 5 (zl [0, 1, 2, 4, 5]) T ?_
 obtain ⟨y5, g⟩ := g
 refine D.have false [(0, .agg [.sl 1 eB l.Full, .i l.Target]), (1, .i bits), (2, .p 0 0), (4, .p 1 0), (5, .p 2 0), (7, .p 0 0), (8, .sl 1 eB l.Full), (9, .i (l.Full.length : Int)), (10, .o 3), (11, .p 0 1), (12, .i l.Target), (13, .agg [.o 3, .i l.Target])] [(0, .box [.sl 1 eB l.Full, .i l.Target]), (1, .box [vN, .i 0]), (2, .box [vN, .i 0]), (3, .val (.os 1 eB (List.replicate (Int.toNat (l.Full.length : Int)) false)))] 4 1 #[true, true, true, true, true, true, true, true, false] ?_ fun hd4_3 => ?_
 refine D.ze1 rfl (.none rfl) (by exact Eff1.st T rfl rfl rfl rfl rfl rfl rfl rfl rfl rfl) (by kernel_rfl) (by kernel_rfl) ?_
 refine C.xs (C.ss (U.pd 1 T (C.nx ?_)))
 refine C.jn (fun (x8 : List Bool) => [(4, .p 0 0), (5, .p 1 0)]) (fun x8 => [(0, .box [vN, .i 0]), (1, .box [.o 2, .i l.Target]), (2, .val (.os 1 eB x8))]) 3 g (fun x8 g => ?_) fun J9 g j9 => ?_
 refine C.xt (U.ps 1 T rfl (U.st T ?_))
 refine U.done (C.nx (C.ret ?_))
 exact C.g1 [some 2] T o ⟨({ Full := x8, Target := l.Target : ApiLayout }), g, rfl, rfl, rfl⟩
 refine C.block (St.wk (C.loop (fun (s10 : List Bool × Int) => [(1, .i bits), (2, .p 0 0), (4, .p 1 0), (5, .p 2 0), (6, .i s10.2)]) (fun s10 => [(0, .box [.sl 1 eB l.Full, .i l.Target]), (1, .box [vN, .i 0]), (2, .box [.o 3, .i l.Target]), (3, .val (.os 1 eB s10.1))]) g (fun s10 Y11 g => ?_)) (Wk.a (idR 4)))
 refine C.seq (C.ss (U.pd 5 T (C.nx ?_)))
 refine C.ite rfl g (fun b14 g => ?_) fun b14 g => ?_
 refine C.skip (C.xs (C.block ?_))
 refine C.jn (fun (x15 : List Bool) => [(1, .i bits), (2, .p 0 0), (4, .p 1 0), (5, .p 2 0), (6, .i s10.2)]) (fun x15 => [(0, .box [.sl 1 eB l.Full, .i l.Target]), (1, .box [vN, .i 0]), (2, .box [.o 3, .i l.Target]), (3, .val (.os 1 eB x15))]) 4 g (fun x15 g => ?_) fun J16 g j16 => ?_
 refine C.bnx (C.nx (U.start (U.pd 3 T (C.nx ?_))))
 exact St.wk (C.next g) (Wk.a (idR 4))
 refine D.bq mix 22 [0, 2] [] (fun hQ hS ws M' => ?_)
 refine D.pq 8 (zl [0, 1, 2, 3, 4, 5, 6, 7]) T ?_
 refine g.cs (fun b17 g => ?_) fun b17 g => ?_
 refine D.sz 8 [] 7 false 28 b17 ?_
 refine D.sz 9 [] 7 false 28 b17 ?_
 refine D.sz 10 [] 7 false 28 b17 ?_
 refine D.sz 11 [] 7 false 28 b17 ?_
 refine D.sz 12 [] 7 false 28 b17 ?_
 refine D.sz 13 [] 7 false 28 b17 ?_
 refine D.sx 14 [] hQ hS (.und 13 true 34 rfl rfl rfl) ?_
 refine D.sx 15 [] hQ hS (.und 13 true 34 rfl rfl rfl) ?_
 refine D.sx 16 [] hQ hS (.und 13 true 34 rfl rfl rfl) ?_
 refine D.sx 17 [] hQ hS (.und 13 true 34 rfl rfl rfl) ?_
 refine D.sx 18 [] hQ hS (.und 13 true 34 rfl rfl rfl) ?_
 refine D.sz 19 [] 7 false 28 b17 ?_
 refine D.kt 20 [] b17 ?_
 obtain ⟨x18, y18, g⟩ := g
 refine D.q 21 [] hQ hS rfl (.none rfl) rfl rfl (by exact Rd.io T rfl rfl rfl rfl rfl rfl rfl y18) rfl (by kernel_rfl) ?_
 refine D.ze1 rfl (.none rfl) (by exact Eff1.se T (z' := true) rfl rfl rfl (idx_some y18).2.2 rfl rfl rfl rfl rfl rfl rfl rfl (fun _ => rfl) rfl) (by kernel_rfl) (by kernel_rfl) ?_
 exact St.wa (idR 4) (j16 _ g)
 refine D.pt 8 [] 7 false 28 b17 T ?_
 refine D.q 9 [] hQ hS rfl (.tk 7 false 28 b17) rfl rfl (by exact Rd.l T rfl rfl rfl) rfl (by kernel_rfl) ?_
 refine D.pt 10 [] 7 false 28 b17 T ?_
 obtain ⟨x19, y19, g⟩ := g
 refine D.q 11 [] hQ hS rfl (.tk 7 false 28 b17) rfl rfl (by exact Rd.ix T rfl rfl rfl rfl rfl rfl y19) rfl (by kernel_rfl) ?_
 refine D.q 12 [] hQ hS rfl (.tk 7 false 28 b17) rfl rfl (by exact Rd.l T rfl rfl rfl) rfl (by kernel_rfl) ?_
 refine D.pt 13 [] 7 false 28 b17 T ?_
 refine g.cs (fun b20 g => ?_) fun b20 g => ?_
 refine D.pt 14 [] 13 true 34 b20 T ?_
 refine D.pt 15 [] 13 true 34 b20 T ?_
 obtain ⟨y21, g⟩ := g
 refine D.q 16 [] hQ hS rfl (.tk 13 true 34 b20) rfl rfl (by exact Rd.sh rfl rfl rfl rfl y21) rfl (by kernel_rfl) ?_
 refine D.pt 17 [] 13 true 34 b20 T ?_
 refine D.pt 18 [] 13 true 34 b20 T ?_
 refine D.q 19 [] hQ hS rfl (.tk 7 false 28 b17) rfl rfl (by exact Rd.pk rfl rfl b20 rfl) rfl (by kernel_rfl) ?_
 refine D.kf 20 [] b17 ?_
 obtain ⟨x22, y22, g⟩ := g
 refine D.q 21 [] hQ hS rfl (.none rfl) rfl rfl (by exact Rd.io T rfl rfl rfl rfl rfl rfl rfl y22) rfl (by kernel_rfl) ?_
 refine D.ze1 rfl (.none rfl) (by exact Eff1.se T (z' := ((band .i64 (shrI .i64 bits s10.2) 1) == 1)) rfl rfl rfl (idx_some y22).2.2 rfl rfl rfl rfl rfl rfl rfl rfl (fun _ => rfl) rfl) (by kernel_rfl) (by kernel_rfl) ?_
 exact St.wa (idR 4) (j16 _ g)
 refine D.sz 14 [] 13 true 34 b20 ?_
 refine D.sz 15 [] 13 true 34 b20 ?_
 refine D.sz 16 [] 13 true 34 b20 ?_
 refine D.sz 17 [] 13 true 34 b20 ?_
 refine D.sz 18 [] 13 true 34 b20 ?_
 refine D.q 19 [] hQ hS rfl (.tk 7 false 28 b17) rfl rfl (by exact Rd.pk' rfl rfl b20 rfl) rfl (by kernel_rfl) ?_
 refine D.kf 20 [] b17 ?_
 obtain ⟨x23, y23, g⟩ := g
 refine D.q 21 [] hQ hS rfl (.none rfl) rfl rfl (by exact Rd.io T rfl rfl rfl rfl rfl rfl rfl y23) rfl (by kernel_rfl) ?_
 refine D.ze1 rfl (.none rfl) (by exact Eff1.se T (z' := false) rfl rfl rfl (idx_some y23).2.2 rfl rfl rfl rfl rfl rfl rfl rfl (fun _ => rfl) rfl) (by kernel_rfl) (by kernel_rfl) ?_
 exact St.wa (idR 4) (j16 _ g)
 refine C.exit (C.ex (C.ex (C.bex ?_)))
 exact St.wa (sqR 1 3) (j9 _ g)
 refine D.have false [(0, .agg [.sl 1 eB l.Full, .i l.Target]), (1, .i bits), (2, .p 0 0), (4, .p 1 0), (7, .p 0 0), (8, .sl 1 eB l.Full), (9, .i (l.Full.length : Int)), (10, .o 2), (11, .p 0 1), (12, .i l.Target), (13, .agg [.o 2, .i l.Target])] [(0, .box [.sl 1 eB l.Full, .i l.Target]), (1, .box [vN, .i 0]), (2, .val (.os 1 eB (List.replicate (Int.toNat (l.Full.length : Int)) false)))] 3 2 #[true, true, true, true, true, true, true, false, false] ?_ fun hd4_2 => ?_
 refine D.all 7 [] (by kernel_rfl) ⟨?_, trivial⟩
 refine D.ef1 rfl (.none rfl) (by exact Eff1.al T rfl rfl rfl rfl) rfl rfl ?_
 exact D.tq [0, 1, 3, 2] hd4_3
 refine D.have false [(0, .agg [.sl 1 eB l.Full, .i l.Target]), (1, .i bits), (2, .p 0 0), (4, .p 1 0), (5, .p 2 0), (7, .p 0 0), (8, .sl 1 eB l.Full), (9, .i (l.Full.length : Int)), (11, .p 0 1), (12, .i l.Target)] [(0, .box [.sl 1 eB l.Full, .i l.Target]), (1, .box [vN, .i 0]), (2, .box [vN, .i 0])] 3 3 #[true, true, true, false, true, true, false, true, false] ?_ fun hd4_1 => ?_
 refine D.all 3 [] (by kernel_rfl) ⟨?_, trivial⟩
 refine D.ef1 rfl (.none rfl) (by exact Eff1.mk T (enc := eB) (z0 := false) rfl rfl rfl rfl rfl rfl rfl rfl rfl rfl y5) rfl rfl ?_
 refine D.pq 1 [(6, [])] T ?_
 exact D.tq [0, 1, 2, 3] hd4_3
 refine D.all 3 [7] (by kernel_rfl) ⟨?_, ?_, trivial⟩
 refine D.ef1 rfl (.none rfl) (by exact Eff1.mk T (enc := eB) (z0 := false) rfl rfl rfl rfl rfl rfl rfl rfl rfl rfl y5) rfl rfl ?_
 refine D.pq 1 [(6, [])] T ?_
 exact D.tq [0, 1, 2] hd4_2
 refine D.ef1 rfl (.none rfl) (by exact Eff1.al T rfl rfl rfl rfl) rfl rfl ?_
 exact D.tq [0, 1, 2] hd4_1
theorem T_taquinref27_DB_Bound (d : Taquinref27DB) (l : ApiLayout) (post : Int → Prop) (g : V_taquinref27_DB_Bound d l post) :
    Tr Try.prog 18 [.rp [.i d.N, .i d.K, .i d.Goal, .sl 1 eLeI d.T], .agg [.sl 1 eB l.Full, .i l.Target]] [] 0 (pI post) := by
 refine Tr.go Try.func18 Try.ntmps18 fun _ _ _ _ o => ?_
 unfold V_taquinref27_DB_Bound at g
 refine C.ss (U.bx ?_)
 refine U.pd 1 T (C.xs ?_)
 refine D.bq mix 9999 [0] [] (fun hQ hS ws M' => ?_)
 refine D.pq 5 (zl [0, 1, 2, 3, 4]) T ?_
 refine D.k 5 (T_taquinref25_Shelves l _ g) en40 fun x5 g => ?_
 refine D.pq 3 (zl [6, 7, 8]) T ?_
 refine D.done (by kernel_rfl) ?_
 refine C.xt (U.pd 1 T (C.xs (C.ss ?_)))
 refine U.pd 1 T (C.nx ?_)
 refine C.jn (fun (x10 : Int) => [(6, .i x10)]) (fun x10 => []) 0 g (fun x10 g => ?_) fun J11 g j11 => ?_
 refine C.xt (U.pd 2 T (C.nx (C.ret ?_)))
 exact C.f1 T o (pIi g)
 refine C.block (St.wk (C.loop (fun (s12 : Int × Int) => [(0, .rp [.i d.N, .i d.K, .i d.Goal, .sl 1 eLeI d.T]), (3, .p 0 0), (5, .i (imin d.K (w64 (x5 - 1)))), (6, .i s12.1), (7, .i s12.2)]) (fun s12 => [(0, .box [.sl 1 eB l.Full, .i l.Target])]) g (fun s12 Y13 g => ?_)) (Wk.a [some 0]))
 refine C.seq (C.ss (U.ps 4 T rfl ?_))
 obtain ⟨y16, g⟩ := g
 refine U.r rfl (.none rfl) rfl rfl (by exact Rd.sl' rfl rfl rfl rfl y16) ?_
 refine U.pd 1 T (C.nx ?_)
 refine C.ite rfl g (fun b17 g => ?_) fun b17 g => ?_
 refine C.skip (C.xs ?_)
 refine C.jn (fun (x18 : Int) => [(0, .rp [.i d.N, .i d.K, .i d.Goal, .sl 1 eLeI d.T]), (3, .p 0 0), (5, .i (imin d.K (w64 (x5 - 1)))), (6, .i x18), (7, .i s12.2)]) (fun x18 => [(0, .box [.sl 1 eB l.Full, .i l.Target])]) 1 g (fun x18 g => ?_) fun J19 g j19 => ?_
 refine C.nx (U.start (U.pd 3 T (C.nx ?_)))
 exact St.wk (C.next g) (Wk.a [some 0])
 refine C.block (C.ss (U.ps 2 T rfl (U.k (T_taquinref27_Choice l s12.2 _ g) en12 (fun x22 g => ?_))))
 refine U.al T ?_
 refine U.st T ?_
 refine U.done (C.xs (C.ss (U.ps 1 T rfl (U.k (T_taquinref25_Shelves x22 _ g) en40 (fun x25 g => ?_)))))
 refine U.pd 3 T (C.nx ?_)
 refine C.ite rfl g (fun b26 g => ?_) fun b26 g => ?_
 refine C.exit (C.ex (C.bex ?_))
 exact St.wa [some 0] (j19 _ g)
 refine C.skip (C.xt (U.ps 2 T rfl (U.k (T_taquinref27_DB_Dist d x22 _ g) en17 (fun x29 g => ?_))))
 refine U.pd 5 T (C.xs (C.ss ?_))
 refine U.pd 2 T (C.nx ?_)
 refine C.ite rfl g (fun b32 g => ?_) fun b32 g => ?_
 refine C.ss (U.pd 1 T (C.nx (C.ret (C.rt (C.brt (C.rt (C.rt (C.brt (C.rt ?_)))))))))
 exact C.f1 T o (pIi g)
 refine C.skip (C.nx (U.start (U.pd 4 T (C.bnx ?_))))
 exact St.wa [some 0] (j19 _ g)
 refine C.exit (C.ex (C.ex (C.bex ?_)))
 exact St.wn (j11 _ g)
theorem T_pattern_DB_Cells (d : PatternDB) (post : Int → Prop) (g : V_pattern_DB_Cells d post) :
    Tr Try.prog 19 [.rp [.i d.cells, .i d.goal, .sl 1 eLeI d.tables]] [] 0 (pI post) := by
 refine Tr.go Try.func19 Try.ntmps19 fun _ _ _ _ o => ?_
 unfold V_pattern_DB_Cells at g
 refine C.ss (U.pd 1 T (C.xt ?_))
 refine U.pd 5 T (C.nx (C.ret ?_))
 exact C.f1 T o (pIi g)
theorem T_pattern_DB_Others (d : PatternDB) (post : Int → Prop) (g : V_pattern_DB_Others d post) :
    Tr Try.prog 20 [.rp [.i d.cells, .i d.goal, .sl 1 eLeI d.tables]] [] 0 (pI post) := by
 refine Tr.go Try.func20 Try.ntmps20 fun _ _ _ _ o => ?_
 unfold V_pattern_DB_Others at g
 refine C.ss (U.pd 1 T (C.xt ?_))
 refine U.pd 7 T (C.nx (C.ret ?_))
 exact C.f1 T o (pIi g)
theorem T_pattern_DB_Goal (d : PatternDB) (post : Int → Prop) (g : V_pattern_DB_Goal d post) :
    Tr Try.prog 21 [.rp [.i d.cells, .i d.goal, .sl 1 eLeI d.tables]] [] 0 (pI post) := by
 refine Tr.go Try.func21 Try.ntmps21 fun _ _ _ _ o => ?_
 unfold V_pattern_DB_Goal at g
 refine C.ss (U.pd 1 T (C.xt ?_))
 refine U.pd 5 T (C.nx (C.ret ?_))
 exact C.f1 T o (pIi g)
theorem T_taquinlaw27_PatternTells (f : ApiFloor) (r : List Int) (k : Int) (goal : Int) (l : ApiLayout) (post : Bool → Prop) (g : V_taquinlaw27_PatternTells f r k goal l post) :
    Tr Try.prog 5 [.agg (eApiFloor f), .sl 1 eI r, .i k, .i goal, .agg [.sl 1 eB l.Full, .i l.Target]] [] 0 (pB post) := by
 refine Tr.go Try.func5 Try.ntmps5 fun _ _ _ _ o => ?_
 unfold V_taquinlaw27_PatternTells at g
 refine C.ss (U.bx ?_)
 refine U.bx ?_
 refine U.pd 1 T (C.xt ?_)
 refine U.k (T_taquinlaw27_small _ g) en8 fun x5 g => ?_
 refine U.pd 1 T (C.xs (C.seq ?_))
 refine C.jn (fun (x6 : Bool) => [(1, .sl 1 eI r), (2, .i k), (3, .i goal), (5, .p 0 0), (9, .p 1 0), (11, .b x5), (35, .b x6)]) (fun x6 => [(0, .box (eApiFloor f)), (1, .box [.sl 1 eB l.Full, .i l.Target])]) 2 g (fun x6 g => ?_) fun J7 g j7 => ?_
 refine C.nx ?_
 refine C.ite rfl g (fun b11 g => ?_) fun b11 g => ?_
 refine C.ss (U.pd 2 T (C.nx (C.ret (C.rt ?_))))
 exact C.f1 T o (pBi g)
 refine C.skip (C.xt (U.ps 4 T rfl ?_))
 refine U.e rfl (.none rfl) (by exact Eff.cS (nl' := fun y => match y with | .inl _ => 2 | .inr _ => 4) [] (v := true) (T_pattern_Build f r k goal _ g) en10 rfl rfl rfl (.eq rfl) trivial rfl rfl rfl rfl rfl rfl (fun _ y => match y with | .inl _ => ⟨(.tup (.cons (.v _) (.cons (.v _) .nil))), trivial⟩ | .inr _ => ⟨(.tup (.cons (.p _ _) (.cons (.v _) .nil))), ⟨.val (.os _ _ _ fun _ => .cons (.os _ _ _ fun _ => (.cons (.v _) .nil)) .nil), .box (.cons (.v _) (.cons (.v _) (.cons (.o _) .nil))), trivial⟩⟩) (.inr ⟨rfl, rfl⟩) (fun _ => rfl) (fun _ => rfl) (fun y => by cases y <;> rfl)) (fun x14' g => ?_)
 obtain ⟨x14 | x14⟩ := x14'
 replace g := sumL g
 refine U.pd 5 T (C.xt ?_)
 refine U.ps 4 T rfl ?_
 refine U.e rfl (.none rfl) (by exact Eff.cS (nl' := fun y => match y with | .inl _ => 2 | .inr _ => 4) [] (v := true) (T_taquinref27_Build f r k goal _ g) en15 rfl rfl rfl (.eq rfl) trivial rfl rfl rfl rfl rfl rfl (fun _ y => match y with | .inl _ => ⟨(.tup (.cons (.v _) (.cons (.v _) .nil))), trivial⟩ | .inr _ => ⟨(.tup (.cons (.p _ _) (.cons (.v _) .nil))), ⟨.val (.os _ _ _ fun _ => .cons (.os _ _ _ fun _ => (.cons (.v _) .nil)) .nil), .box (.cons (.v _) (.cons (.v _) (.cons (.v _) (.cons (.o _) .nil)))), trivial⟩⟩) (.inr ⟨rfl, rfl⟩) (fun _ => rfl) (fun _ => rfl) (fun y => by cases y <;> rfl)) (fun x15' g => ?_)
 obtain ⟨x15 | x15⟩ := x15'
 replace g := sumL g
 refine U.pd 5 T (C.xs (C.seq ?_))
 refine C.jn (fun (x16 : Bool) => [(9, .p 0 0), (11, .b x5), (12, .v (.pointer none)), (14, .v (.pointer none)), (62, .b x16)]) (fun x16 => [(0, .box [.sl 1 eB l.Full, .i l.Target])]) 1 g (fun x16 g => ?_) fun J17 g j17 => ?_
 refine C.nx ?_
 refine C.ite rfl g (fun b19 g => ?_) fun b19 g => ?_
 refine C.ss (U.pd 1 T (C.nx (C.ret (C.rt ?_))))
 exact C.f1 T o (pBi g)
 refine C.skip (C.xs (C.ss (U.ps 1 T rfl (U.r rfl (.none rfl) rfl rfl (by exact Rd.pn T true rfl rfl rfl rfl rfl .nil) ?_))))
 refine U.ps 1 T rfl (U.sk' 2 2 false 65 rfl ?_)
 refine U.pk rfl ?_
 refine U.done (C.nx (C.condT rfl rfl ?_))
 refine C.ss (U.pd 2 T (C.nx (C.ret (C.rt ?_))))
 exact C.f1 T o (pBi g)
 refine U.start (U.ps 4 T rfl ?_)
 refine g.cs (fun b18 g => ?_) fun b18 g => ?_
 refine U.sk' 5 3 false 56 b18 ?_
 refine U.pk b18 ?_
 refine U.done ?_
 exact St.wa [some 1] (j17 _ g)
 refine U.pq 1 3 false 56 b18 T ?_
 refine U.r rfl (.tk 3 false 56 b18) rfl rfl (by exact Rd.pn T true rfl rfl rfl rfl rfl .nil) ?_
 refine U.pq 1 3 false 56 b18 T ?_
 refine U.r rfl (.tk 3 false 56 b18) rfl rfl (by exact Rd.pn T true rfl rfl rfl rfl rfl .nil) ?_
 refine U.pq 1 3 false 56 b18 T ?_
 refine U.pk' b18 ?_
 refine U.done ?_
 exact St.wa [some 1] (j17 _ g)
 replace g := sumR g
 refine U.pd 5 T (C.xs (C.seq ?_))
 refine C.jn (fun (x26 : Bool) => [(9, .p 0 0), (11, .b x5), (12, .v (.pointer none)), (14, .p 1 0), (62, .b x26)]) (fun x26 => [(0, .box [.sl 1 eB l.Full, .i l.Target]), (1, .box [.i x15.1.N, .i x15.1.K, .i x15.1.Goal, .o 2]), (2, .val (.os 1 eOeI x15.1.T))]) 3 g (fun x26 g => ?_) fun J27 g j27 => ?_
 refine C.nx ?_
 refine C.ite rfl g (fun b29 g => ?_) fun b29 g => ?_
 refine C.ss (U.pd 1 T (C.nx (C.ret (C.rt ?_))))
 exact C.f1 T o (pBi g)
 refine C.skip (C.xs (C.ss (U.ps 1 T rfl (U.r rfl (.none rfl) rfl rfl (by exact Rd.pn T true rfl rfl rfl rfl rfl .nil) ?_))))
 refine U.ps 1 T rfl (U.sk' 2 2 false 65 rfl ?_)
 refine U.pk rfl ?_
 refine U.done (C.nx (C.condT rfl rfl ?_))
 refine C.ss (U.pd 2 T (C.nx (C.ret (C.rt ?_))))
 exact C.f1 T o (pBi g)
 refine U.start (U.ps 4 T rfl ?_)
 refine g.cs (fun b28 g => ?_) fun b28 g => ?_
 refine U.sk' 5 3 false 56 b28 ?_
 refine U.pk b28 ?_
 refine U.done ?_
 exact St.wa [some 1, some 3, some 2] (j27 _ g)
 refine U.pq 1 3 false 56 b28 T ?_
 refine U.r rfl (.tk 3 false 56 b28) rfl rfl (by exact Rd.pn T true rfl rfl rfl rfl rfl .nil) ?_
 refine U.pq 1 3 false 56 b28 T ?_
 refine U.r rfl (.tk 3 false 56 b28) rfl rfl (by exact Rd.pn T true rfl rfl rfl rfl rfl (.p _ _)) ?_
 refine U.pq 1 3 false 56 b28 T ?_
 refine U.pk' b28 ?_
 refine U.done ?_
 exact St.wa [some 1, some 3, some 2] (j27 _ g)
 replace g := sumR g
 refine U.pd 5 T (C.xt ?_)
 refine U.ps 4 T rfl ?_
 refine U.e rfl (.none rfl) (by exact Eff.cS (nl' := fun y => match y with | .inl _ => 4 | .inr _ => 6) [] (v := true) (T_taquinref27_Build f r k goal _ g) en15 rfl rfl rfl (.eq rfl) trivial rfl rfl rfl rfl rfl rfl (fun _ y => match y with | .inl _ => ⟨(.tup (.cons (.v _) (.cons (.v _) .nil))), trivial⟩ | .inr _ => ⟨(.tup (.cons (.p _ _) (.cons (.v _) .nil))), ⟨.val (.os _ _ _ fun _ => .cons (.os _ _ _ fun _ => (.cons (.v _) .nil)) .nil), .box (.cons (.v _) (.cons (.v _) (.cons (.v _) (.cons (.o _) .nil)))), trivial⟩⟩) (.inr ⟨rfl, rfl⟩) (fun _ => rfl) (fun _ => rfl) (fun y => by cases y <;> rfl)) (fun x36' g => ?_)
 obtain ⟨x36 | x36⟩ := x36'
 replace g := sumL g
 refine U.pd 5 T (C.xs (C.seq ?_))
 refine C.jn (fun (x37 : Bool) => [(9, .p 0 0), (11, .b x5), (12, .p 1 0), (14, .v (.pointer none)), (62, .b x37)]) (fun x37 => [(0, .box [.sl 1 eB l.Full, .i l.Target]), (1, .box [.i x14.1.cells, .i x14.1.goal, .o 2]), (2, .val (.os 1 eOeI x14.1.tables))]) 3 g (fun x37 g => ?_) fun J38 g j38 => ?_
 refine C.nx ?_
 refine C.ite rfl g (fun b40 g => ?_) fun b40 g => ?_
 refine C.ss (U.pd 1 T (C.nx (C.ret (C.rt ?_))))
 exact C.f1 T o (pBi g)
 refine C.skip (C.xs (C.ss (U.ps 1 T rfl (U.r rfl (.none rfl) rfl rfl (by exact Rd.pn T true rfl rfl rfl rfl rfl (.p _ _)) ?_))))
 refine U.ps 1 T rfl (U.pq 1 2 false 65 rfl T ?_)
 refine U.r rfl (.tk 2 false 65 rfl) rfl rfl (by exact Rd.pn T true rfl rfl rfl rfl rfl .nil) ?_
 refine U.pk' rfl ?_
 refine U.done (C.nx (C.condT rfl rfl ?_))
 refine C.ss (U.pd 2 T (C.nx (C.ret (C.rt ?_))))
 exact C.f1 T o (pBi g)
 refine U.start (U.ps 4 T rfl ?_)
 refine g.cs (fun b39 g => ?_) fun b39 g => ?_
 refine U.sk' 5 3 false 56 b39 ?_
 refine U.pk b39 ?_
 refine U.done ?_
 exact St.wa [some 1, some 3, some 2] (j38 _ g)
 refine U.pq 1 3 false 56 b39 T ?_
 refine U.r rfl (.tk 3 false 56 b39) rfl rfl (by exact Rd.pn T true rfl rfl rfl rfl rfl (.p _ _)) ?_
 refine U.pq 1 3 false 56 b39 T ?_
 refine U.r rfl (.tk 3 false 56 b39) rfl rfl (by exact Rd.pn T true rfl rfl rfl rfl rfl .nil) ?_
 refine U.pq 1 3 false 56 b39 T ?_
 refine U.pk' b39 ?_
 refine U.done ?_
 exact St.wa [some 1, some 3, some 2] (j38 _ g)
 replace g := sumR g
 refine U.pd 5 T (C.xs (C.seq ?_))
 refine C.jn (fun (x47 : Bool) => [(9, .p 0 0), (11, .b x5), (12, .p 1 0), (14, .p 3 0), (62, .b x47)]) (fun x47 => [(0, .box [.sl 1 eB l.Full, .i l.Target]), (1, .box [.i x14.1.cells, .i x14.1.goal, .o 2]), (2, .val (.os 1 eOeI x14.1.tables)), (3, .box [.i x36.1.N, .i x36.1.K, .i x36.1.Goal, .o 4]), (4, .val (.os 1 eOeI x36.1.T))]) 5 g (fun x47 g => ?_) fun J48 g j48 => ?_
 refine C.nx ?_
 refine C.ite rfl g (fun b50 g => ?_) fun b50 g => ?_
 refine C.ss (U.pd 1 T (C.nx (C.ret (C.rt ?_))))
 exact C.f1 T o (pBi g)
 refine C.skip (C.xs (C.ss (U.ps 1 T rfl (U.r rfl (.none rfl) rfl rfl (by exact Rd.pn T true rfl rfl rfl rfl rfl (.p _ _)) ?_))))
 refine U.ps 1 T rfl (U.pq 1 2 false 65 rfl T ?_)
 refine U.r rfl (.tk 2 false 65 rfl) rfl rfl (by exact Rd.pn T true rfl rfl rfl rfl rfl (.p _ _)) ?_
 refine U.pk' rfl ?_
 refine U.done (C.nx (C.condF rfl rfl ?_))
 refine C.skip (C.xt (U.ps 2 T rfl (U.k (T_pattern_DB_Dist x14.1 l _ g) en16 (fun x57 g => ?_))))
 refine U.pd 5 T (C.xt ?_)
 refine U.ps 2 T rfl (U.k (T_taquinref27_DB_Dist x36.1 l _ g) en17 (fun x60 g => ?_))
 refine U.pd 5 T (C.xs ?_)
 refine C.jn (fun (x61 : Bool) => [(10, .b x61)]) (fun x61 => []) 0 g (fun x61 g => ?_) fun J62 g j62 => ?_
 refine C.nx (C.ret ?_)
 exact C.f1 T o (pBi g)
 refine D.bq mix 9999 [0, 3] [] (fun hQ hS ws M' => ?_)
 refine D.pq 2 (zl [0, 1]) T ?_
 refine g.cs (fun b63 g => ?_) fun b63 g => ?_
 refine D.pt 2 [] 1 true 83 b63 T ?_
 refine D.pt 3 [] 1 true 83 b63 T ?_
 refine D.pt 4 [] 1 true 83 b63 T ?_
 refine D.kt 5 [] b63 ?_
 refine D.pq 1 [(6, [])] T ?_
 refine g.cs (fun b64 g => ?_) fun b64 g => ?_
 refine D.pt 7 [] 6 true 88 b64 T ?_
 refine D.pt 8 [] 6 true 88 b64 T ?_
 refine D.pt 9 [] 6 true 88 b64 T ?_
 refine D.kt 10 [] b64 ?_
 refine D.pq 1 [(11, [])] T ?_
 refine g.cs (fun b65 g => ?_) fun b65 g => ?_
 refine D.pt 12 [] 11 true 93 b65 T ?_
 refine D.q 13 [] hQ hS rfl (.tk 11 true 93 b65) rfl rfl (by exact Rd.l T rfl rfl rfl) rfl (by kernel_rfl) ?_
 refine D.pt 15 [] 11 true 93 b65 T ?_
 refine D.q 16 [] hQ hS rfl (.tk 11 true 93 b65) rfl rfl (by exact Rd.l T rfl rfl rfl) rfl (by kernel_rfl) ?_
 refine D.k 14 (T_pattern_DB_Bound x14.1 l _ g) en11 (fun x66 g => ?_) (hw := .take 11 true 93 _ b65 rfl rfl rfl)
 refine D.k 17 (T_taquinref27_DB_Bound x36.1 l _ g) en18 (fun x67 g => ?_) (hw := .take 11 true 93 _ b65 rfl rfl rfl)
 refine D.pt 18 [] 11 true 93 b65 T ?_
 refine D.kt 19 [] b65 ?_
 refine D.pq 1 [(20, [])] T ?_
 refine g.cs (fun b68 g => ?_) fun b68 g => ?_
 refine D.pt 21 [] 20 true 102 b68 T ?_
 refine D.pt 23 [] 20 true 102 b68 T ?_
 refine D.pt 24 [] 20 true 102 b68 T ?_
 refine D.pt 25 [] 20 true 102 b68 T ?_
 refine D.q 26 [] hQ hS rfl (.tk 20 true 102 b68) rfl rfl (by exact Rd.l T rfl rfl rfl) rfl (by kernel_rfl) ?_
 refine D.k 22 (T_pattern_DB_Cells x14.1 _ g) en19 (fun x69 g => ?_) (hw := .take 20 true 102 _ b68 rfl rfl rfl)
 refine D.pt 27 [] 20 true 102 b68 T ?_
 refine D.kt 28 [] b68 ?_
 refine D.pq 1 [(29, [])] T ?_
 refine g.cs (fun b70 g => ?_) fun b70 g => ?_
 refine D.pt 30 [] 29 true 111 b70 T ?_
 refine D.pt 32 [] 29 true 111 b70 T ?_
 refine D.pt 33 [] 29 true 111 b70 T ?_
 refine D.pt 34 [] 29 true 111 b70 T ?_
 refine D.q 35 [] hQ hS rfl (.tk 29 true 111 b70) rfl rfl (by exact Rd.l T rfl rfl rfl) rfl (by kernel_rfl) ?_
 refine D.k 31 (T_pattern_DB_Others x14.1 _ g) en20 (fun x71 g => ?_) (hw := .take 29 true 111 _ b70 rfl rfl rfl)
 refine D.pt 36 [] 29 true 111 b70 T ?_
 refine D.kt 37 [] b70 ?_
 refine D.pq 1 [(38, [])] T ?_
 refine g.cs (fun b72 g => ?_) fun b72 g => ?_
 refine D.pt 39 [] 38 true 120 b72 T ?_
 refine D.pt 41 [] 38 true 120 b72 T ?_
 refine D.pt 42 [] 38 true 120 b72 T ?_
 refine D.pt 43 [] 38 true 120 b72 T ?_
 refine D.q 44 [] hQ hS rfl (.tk 38 true 120 b72) rfl rfl (by exact Rd.l T rfl rfl rfl) rfl (by kernel_rfl) ?_
 refine D.k 40 (T_pattern_DB_Goal x14.1 _ g) en21 (fun x73 g => ?_) (hw := .take 38 true 120 _ b72 rfl rfl rfl)
 refine D.pt 45 [] 38 true 120 b72 T ?_
 refine D.kt 46 [] b72 ?_
 refine D.pq 1 [(47, [])] T ?_
 refine D.done (by kernel_rfl) ?_
 exact St.wn (j62 _ g)
 refine D.sz 39 [] 38 true 120 b72 ?_
 refine D.sz 40 [] 38 true 120 b72 ?_
 refine D.sz 41 [] 38 true 120 b72 ?_
 refine D.sz 42 [] 38 true 120 b72 ?_
 refine D.sz 43 [] 38 true 120 b72 ?_
 refine D.sz 44 [] 38 true 120 b72 ?_
 refine D.sz 45 [] 38 true 120 b72 ?_
 refine D.kf 46 [] b72 ?_
 refine D.pq 1 [(47, [])] T ?_
 refine D.done (by kernel_rfl) ?_
 exact St.wn (j62 _ g)
 refine D.sz 30 [] 29 true 111 b70 ?_
 refine D.sz 31 [] 29 true 111 b70 ?_
 refine D.sz 32 [] 29 true 111 b70 ?_
 refine D.sz 33 [] 29 true 111 b70 ?_
 refine D.sz 34 [] 29 true 111 b70 ?_
 refine D.sz 35 [] 29 true 111 b70 ?_
 refine D.sz 36 [] 29 true 111 b70 ?_
 refine D.kf 37 [] b70 ?_
 refine D.pq 1 [(38, [])] T ?_
 refine D.sz 39 [] 38 true 120 rfl ?_
 refine D.sz 40 [] 38 true 120 rfl ?_
 refine D.sz 41 [] 38 true 120 rfl ?_
 refine D.sz 42 [] 38 true 120 rfl ?_
 refine D.sz 43 [] 38 true 120 rfl ?_
 refine D.sz 44 [] 38 true 120 rfl ?_
 refine D.sz 45 [] 38 true 120 rfl ?_
 refine D.kf 46 [] rfl ?_
 refine D.pq 1 [(47, [])] T ?_
 refine D.done (by kernel_rfl) ?_
 exact St.wn (j62 _ g)
 refine D.sz 21 [] 20 true 102 b68 ?_
 refine D.sz 22 [] 20 true 102 b68 ?_
 refine D.sz 23 [] 20 true 102 b68 ?_
 refine D.sz 24 [] 20 true 102 b68 ?_
 refine D.sz 25 [] 20 true 102 b68 ?_
 refine D.sz 26 [] 20 true 102 b68 ?_
 refine D.sz 27 [] 20 true 102 b68 ?_
 refine D.kf 28 [] b68 ?_
 refine D.pq 1 [(29, [])] T ?_
 refine D.sz 30 [] 29 true 111 rfl ?_
 refine D.sz 31 [] 29 true 111 rfl ?_
 refine D.sz 32 [] 29 true 111 rfl ?_
 refine D.sz 33 [] 29 true 111 rfl ?_
 refine D.sz 34 [] 29 true 111 rfl ?_
 refine D.sz 35 [] 29 true 111 rfl ?_
 refine D.sz 36 [] 29 true 111 rfl ?_
 refine D.kf 37 [] rfl ?_
 refine D.pq 1 [(38, [])] T ?_
 refine D.sz 39 [] 38 true 120 rfl ?_
 refine D.sz 40 [] 38 true 120 rfl ?_
 refine D.sz 41 [] 38 true 120 rfl ?_
 refine D.sz 42 [] 38 true 120 rfl ?_
 refine D.sz 43 [] 38 true 120 rfl ?_
 refine D.sz 44 [] 38 true 120 rfl ?_
 refine D.sz 45 [] 38 true 120 rfl ?_
 refine D.kf 46 [] rfl ?_
 refine D.pq 1 [(47, [])] T ?_
 refine D.done (by kernel_rfl) ?_
 exact St.wn (j62 _ g)
 refine D.sz 12 [] 11 true 93 b65 ?_
 refine D.sz 13 [] 11 true 93 b65 ?_
 refine D.sz 14 [] 11 true 93 b65 ?_
 refine D.sz 15 [] 11 true 93 b65 ?_
 refine D.sz 16 [] 11 true 93 b65 ?_
 refine D.sz 17 [] 11 true 93 b65 ?_
 refine D.sz 18 [] 11 true 93 b65 ?_
 refine D.kf 19 [] b65 ?_
 refine D.pq 1 [(20, [])] T ?_
 refine D.sz 21 [] 20 true 102 rfl ?_
 refine D.sz 22 [] 20 true 102 rfl ?_
 refine D.sz 23 [] 20 true 102 rfl ?_
 refine D.sz 24 [] 20 true 102 rfl ?_
 refine D.sz 25 [] 20 true 102 rfl ?_
 refine D.sz 26 [] 20 true 102 rfl ?_
 refine D.sz 27 [] 20 true 102 rfl ?_
 refine D.kf 28 [] rfl ?_
 refine D.pq 1 [(29, [])] T ?_
 refine D.sz 30 [] 29 true 111 rfl ?_
 refine D.sz 31 [] 29 true 111 rfl ?_
 refine D.sz 32 [] 29 true 111 rfl ?_
 refine D.sz 33 [] 29 true 111 rfl ?_
 refine D.sz 34 [] 29 true 111 rfl ?_
 refine D.sz 35 [] 29 true 111 rfl ?_
 refine D.sz 36 [] 29 true 111 rfl ?_
 refine D.kf 37 [] rfl ?_
 refine D.pq 1 [(38, [])] T ?_
 refine D.sz 39 [] 38 true 120 rfl ?_
 refine D.sz 40 [] 38 true 120 rfl ?_
 refine D.sz 41 [] 38 true 120 rfl ?_
 refine D.sz 42 [] 38 true 120 rfl ?_
 refine D.sz 43 [] 38 true 120 rfl ?_
 refine D.sz 44 [] 38 true 120 rfl ?_
 refine D.sz 45 [] 38 true 120 rfl ?_
 refine D.kf 46 [] rfl ?_
 refine D.pq 1 [(47, [])] T ?_
 refine D.done (by kernel_rfl) ?_
 exact St.wn (j62 _ g)
 refine D.sz 7 [] 6 true 88 b64 ?_
 refine D.sz 8 [] 6 true 88 b64 ?_
 refine D.sz 9 [] 6 true 88 b64 ?_
 refine D.kf 10 [] b64 ?_
 refine D.pq 1 [(11, [])] T ?_
 refine D.sz 12 [] 11 true 93 rfl ?_
 refine D.sz 13 [] 11 true 93 rfl ?_
 refine D.sz 14 [] 11 true 93 rfl ?_
 refine D.sz 15 [] 11 true 93 rfl ?_
 refine D.sz 16 [] 11 true 93 rfl ?_
 refine D.sz 17 [] 11 true 93 rfl ?_
 refine D.sz 18 [] 11 true 93 rfl ?_
 refine D.kf 19 [] rfl ?_
 refine D.pq 1 [(20, [])] T ?_
 refine D.sz 21 [] 20 true 102 rfl ?_
 refine D.sz 22 [] 20 true 102 rfl ?_
 refine D.sz 23 [] 20 true 102 rfl ?_
 refine D.sz 24 [] 20 true 102 rfl ?_
 refine D.sz 25 [] 20 true 102 rfl ?_
 refine D.sz 26 [] 20 true 102 rfl ?_
 refine D.sz 27 [] 20 true 102 rfl ?_
 refine D.kf 28 [] rfl ?_
 refine D.pq 1 [(29, [])] T ?_
 refine D.sz 30 [] 29 true 111 rfl ?_
 refine D.sz 31 [] 29 true 111 rfl ?_
 refine D.sz 32 [] 29 true 111 rfl ?_
 refine D.sz 33 [] 29 true 111 rfl ?_
 refine D.sz 34 [] 29 true 111 rfl ?_
 refine D.sz 35 [] 29 true 111 rfl ?_
 refine D.sz 36 [] 29 true 111 rfl ?_
 refine D.kf 37 [] rfl ?_
 refine D.pq 1 [(38, [])] T ?_
 refine D.sz 39 [] 38 true 120 rfl ?_
 refine D.sz 40 [] 38 true 120 rfl ?_
 refine D.sz 41 [] 38 true 120 rfl ?_
 refine D.sz 42 [] 38 true 120 rfl ?_
 refine D.sz 43 [] 38 true 120 rfl ?_
 refine D.sz 44 [] 38 true 120 rfl ?_
 refine D.sz 45 [] 38 true 120 rfl ?_
 refine D.kf 46 [] rfl ?_
 refine D.pq 1 [(47, [])] T ?_
 refine D.done (by kernel_rfl) ?_
 exact St.wn (j62 _ g)
 refine D.sz 2 [] 1 true 83 b63 ?_
 refine D.sz 3 [] 1 true 83 b63 ?_
 refine D.sz 4 [] 1 true 83 b63 ?_
 refine D.kf 5 [] b63 ?_
 refine D.pq 1 [(6, [])] T ?_
 refine D.sz 7 [] 6 true 88 rfl ?_
 refine D.sz 8 [] 6 true 88 rfl ?_
 refine D.sz 9 [] 6 true 88 rfl ?_
 refine D.kf 10 [] rfl ?_
 refine D.pq 1 [(11, [])] T ?_
 refine D.sz 12 [] 11 true 93 rfl ?_
 refine D.sz 13 [] 11 true 93 rfl ?_
 refine D.sz 14 [] 11 true 93 rfl ?_
 refine D.sz 15 [] 11 true 93 rfl ?_
 refine D.sz 16 [] 11 true 93 rfl ?_
 refine D.sz 17 [] 11 true 93 rfl ?_
 refine D.sz 18 [] 11 true 93 rfl ?_
 refine D.kf 19 [] rfl ?_
 refine D.pq 1 [(20, [])] T ?_
 refine D.sz 21 [] 20 true 102 rfl ?_
 refine D.sz 22 [] 20 true 102 rfl ?_
 refine D.sz 23 [] 20 true 102 rfl ?_
 refine D.sz 24 [] 20 true 102 rfl ?_
 refine D.sz 25 [] 20 true 102 rfl ?_
 refine D.sz 26 [] 20 true 102 rfl ?_
 refine D.sz 27 [] 20 true 102 rfl ?_
 refine D.kf 28 [] rfl ?_
 refine D.pq 1 [(29, [])] T ?_
 refine D.sz 30 [] 29 true 111 rfl ?_
 refine D.sz 31 [] 29 true 111 rfl ?_
 refine D.sz 32 [] 29 true 111 rfl ?_
 refine D.sz 33 [] 29 true 111 rfl ?_
 refine D.sz 34 [] 29 true 111 rfl ?_
 refine D.sz 35 [] 29 true 111 rfl ?_
 refine D.sz 36 [] 29 true 111 rfl ?_
 refine D.kf 37 [] rfl ?_
 refine D.pq 1 [(38, [])] T ?_
 refine D.sz 39 [] 38 true 120 rfl ?_
 refine D.sz 40 [] 38 true 120 rfl ?_
 refine D.sz 41 [] 38 true 120 rfl ?_
 refine D.sz 42 [] 38 true 120 rfl ?_
 refine D.sz 43 [] 38 true 120 rfl ?_
 refine D.sz 44 [] 38 true 120 rfl ?_
 refine D.sz 45 [] 38 true 120 rfl ?_
 refine D.kf 46 [] rfl ?_
 refine D.pq 1 [(47, [])] T ?_
 refine D.done (by kernel_rfl) ?_
 exact St.wn (j62 _ g)
 refine U.start (U.ps 4 T rfl ?_)
 refine g.cs (fun b49 g => ?_) fun b49 g => ?_
 refine U.sk' 5 3 false 56 b49 ?_
 refine U.pk b49 ?_
 refine U.done ?_
 exact St.wa [some 1, some 3, some 2, some 5, some 4] (j48 _ g)
 refine U.pq 1 3 false 56 b49 T ?_
 refine U.r rfl (.tk 3 false 56 b49) rfl rfl (by exact Rd.pn T true rfl rfl rfl rfl rfl (.p _ _)) ?_
 refine U.pq 1 3 false 56 b49 T ?_
 refine U.r rfl (.tk 3 false 56 b49) rfl rfl (by exact Rd.pn T true rfl rfl rfl rfl rfl (.p _ _)) ?_
 refine U.pq 1 3 false 56 b49 T ?_
 refine U.pk' b49 ?_
 refine U.done ?_
 exact St.wa [some 1, some 3, some 2, some 5, some 4] (j48 _ g)
 refine U.start (U.ps 3 T rfl (U.k (T_taquinlaw27_given f r l 9 _ g) en9 (fun x8 g => ?_)))
 refine U.ps 2 T rfl ?_
 refine g.cs (fun b9 g => ?_) fun b9 g => ?_
 refine U.pq 3 5 false 26 (ntF b9) T ?_
 refine g.cs (fun b10 g => ?_) fun b10 g => ?_
 refine U.pq 4 8 true 29 b10 T ?_
 refine U.r rfl (.tk 5 false 26 (ntF b9)) rfl rfl (by exact Rd.pk rfl rfl b10 rfl) ?_
 refine U.pk' (ntF b9) ?_
 refine U.done ?_
 exact St.wa (idR 2) (j7 _ g)
 refine U.sk' 4 8 true 29 b10 ?_
 refine U.r rfl (.tk 5 false 26 (ntF b9)) rfl rfl (by exact Rd.pk' rfl rfl b10 rfl) ?_
 refine U.pk' (ntF b9) ?_
 refine U.done ?_
 exact St.wa (idR 2) (j7 _ g)
 refine U.sk' 3 5 false 26 (ntT b9) ?_
 refine U.sku 4 8 true 29 rfl rfl rfl ?_
 refine U.sk' 1 5 false 26 (ntT b9) ?_
 refine U.pk (ntT b9) ?_
 refine U.done ?_
 exact St.wa (idR 2) (j7 _ g)
end Go.Proofs.Ytghgknhkclpdhaa
