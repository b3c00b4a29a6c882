/- The walks: each Go function does what its verification condition says (written by a program of the prover). -/
import Derived.Test.YtghoacejnmgldaaEnc
import Derived.KernelRfl
set_option maxRecDepth 100000
set_option maxHeartbeats 8000000
set_option linter.unusedVariables false
set_option linter.unusedSimpArgs false
namespace Go.Proofs.Ytghoacejnmgldaa
open Go Go.Taq
theorem T_cmp_isNaN_int (x_1 : Int) (post : Bool → Prop) (g : V_cmp_isNaN_int x_1 post) :
    Tr Try.prog 47 [.i x_1] [] 0 (pB post) := by
 refine Tr.go Try.func47 Try.ntmps47 fun _ _ _ _ o => ?_
 unfold V_cmp_isNaN_int at g
 refine C.ss (U.pd 1 T (C.xt ?_))
 refine U.pd 4 T (C.nx (C.ret ?_))
 exact C.f1 T o (pBi g)
theorem T_cmp_Compare_int (x_1 : Int) (y_1 : Int) (post : Int → Prop) (g : V_cmp_Compare_int x_1 y_1 post) :
    Tr Try.prog 30 [.i x_1, .i y_1] [] 0 (pI post) := by
 refine Tr.go Try.func30 Try.ntmps30 fun _ _ _ _ o => ?_
 unfold V_cmp_Compare_int at g
 refine C.ss (U.pd 1 T (C.xt ?_))
 refine U.ps 1 T rfl (U.k (T_cmp_isNaN_int x_1 _ g) en47 (fun x5 g => ?_))
 refine U.pd 1 T (C.xt ?_)
 refine U.ps 1 T rfl (U.k (T_cmp_isNaN_int y_1 _ g) en47 (fun x8 g => ?_))
 refine U.pd 1 T (C.xs (C.ss ?_))
 refine U.pd 1 T (C.nx ?_)
 refine C.ite rfl g (fun b11 g => ?_) fun b11 g => ?_
 refine C.seq (C.ss (U.pd 1 T (C.nx ?_)))
 refine C.ite rfl g (fun b14 g => ?_) fun b14 g => ?_
 refine C.ss (U.pd 1 T (C.nx (C.ret (C.rt (C.rt ?_)))))
 exact C.f1 T o (pIi g)
 refine C.skip (C.xt (U.pd 1 T (C.nx (C.ret (C.rt ?_)))))
 exact C.f1 T o (pIi g)
 refine C.skip (C.xs (C.ss (U.pd 1 T (C.nx ?_))))
 refine C.ite rfl g (fun b21 g => ?_) fun b21 g => ?_
 refine C.ss (U.pd 1 T (C.nx (C.ret (C.rt ?_))))
 exact C.f1 T o (pIi g)
 refine C.skip (C.xs (C.ss (U.pd 3 T (C.nx ?_))))
 refine C.ite rfl g (fun b26 g => ?_) fun b26 g => ?_
 refine C.ss (U.pd 1 T (C.nx (C.ret (C.rt ?_))))
 exact C.f1 T o (pIi g)
 refine C.skip (C.xs (C.ss (U.pd 3 T (C.nx ?_))))
 refine C.ite rfl g (fun b31 g => ?_) fun b31 g => ?_
 refine C.ss (U.pd 1 T (C.nx (C.ret (C.rt ?_))))
 exact C.f1 T o (pIi g)
 refine C.skip (C.xt (U.pd 1 T (C.nx (C.ret ?_))))
 exact C.f1 T o (pIi g)
theorem T_batch_Due_1 (a : Int) (b : Int) (c0 : List ApiJob) (post : Int → Prop) (g : V_batch_Due_1 a b c0 post) :
    Tr Try.prog 29 [.i a, .i b, .rp [.sl 3 eApiJob c0]] [] 0 (pI post) := by
 refine Tr.go Try.func29 Try.ntmps29 fun _ _ _ _ o => ?_
 unfold V_batch_Due_1 at g
 refine C.ss (U.pd 1 T (C.xs ?_))
 refine D.bg mix 9999 [] [] (fun hQ hS ws M' => ?_)
 refine D.pq 2 (zl [0, 1]) T ?_
 obtain ⟨x5, y5, g⟩ := g
 refine D.ix 2 [] T y5 ?_
 refine D.pq 4 (zl [3, 4, 5, 6]) T ?_
 obtain ⟨x6, y6, g⟩ := g
 refine D.ix 7 [] T y6 ?_
 refine D.pq 2 (zl [8, 9]) T ?_
 refine D.k 10 (T_cmp_Compare_int x5.Due x6.Due _ g) en30 fun x7 g => ?_
 refine D.pq 1 [(11, [])] T ?_
 refine D.done (by kernel_rfl) ?_
 refine C.nx (C.ret ?_)
 exact C.f1 T o (pIi g)
theorem T_slices_insertionSortCmpFunc_int__o0_batch_Due_1 (a : Int) (b : Int) (cmp_c0 : List ApiJob) (data : List Int) (post : (List Int) → Prop) (g : V_slices_insertionSortCmpFunc_int__o0_batch_Due_1 a b cmp_c0 data post) :
    Tr Try.prog 56 [.o 0, .i a, .i b, .fn (.func 29) [] [.rp [.sl 3 eApiJob cmp_c0]]] [(0, .val (.os 1 eI data))] 1 (fun A H' k => ∃ y, post y ∧ A = (.tup []) ∧ H' = [(0, .val (.os 1 eI y))] ∧ k = 1) := by
 refine Tr.go Try.func56 Try.ntmps56 fun _ _ _ _ o => ?_
 unfold V_slices_insertionSortCmpFunc_int__o0_batch_Due_1 at g
 refine C.ss (U.pd 3 T (C.nx ?_))
 refine C.jn (fun (x3 : List Int) => []) (fun x3 => [(0, .val (.os 1 eI x3))]) 1 g (fun x3 g => ?_) fun J4 g j4 => ?_
 exact C.fg [some 0] T o ⟨x3, g, rfl, rfl, rfl⟩
 refine C.block (St.wk (C.loop (fun (s5 : List Int × Int) => [(0, .o 0), (1, .i a), (2, .i b), (3, .fn (.func 29) [] [.rp [.sl 3 eApiJob cmp_c0]]), (8, .i s5.2)]) (fun s5 => [(0, .val (.os 1 eI s5.1))]) g (fun s5 Y6 g => ?_)) (Wk.a [some 0]))
 refine C.seq (C.ss (U.pd 3 T (C.nx ?_)))
 refine C.ite rfl g (fun b9 g => ?_) fun b9 g => ?_
 refine C.skip (C.xs ?_)
 refine C.jn (fun (x10 : List Int) => [(0, .o 0), (1, .i a), (2, .i b), (3, .fn (.func 29) [] [.rp [.sl 3 eApiJob cmp_c0]]), (8, .i s5.2)]) (fun x10 => [(0, .val (.os 1 eI x10))]) 1 g (fun x10 g => ?_) fun J11 g j11 => ?_
 refine C.nx (U.start (U.pd 3 T (C.nx ?_)))
 exact St.wk (C.next g) (Wk.a [some 0])
 refine C.block (C.ss (U.pd 2 T (C.nx ?_)))
 refine C.jn (fun (x14 : List Int) => [(0, .o 0), (1, .i a), (2, .i b), (3, .fn (.func 29) [] [.rp [.sl 3 eApiJob cmp_c0]]), (8, .i s5.2)]) (fun x14 => [(0, .val (.os 1 eI x14))]) 1 g (fun x14 g => ?_) fun J15 g j15 => ?_
 refine C.bnx ?_
 exact St.wa [some 0] (j11 _ g)
 refine C.block (St.wk (C.loop (fun (s16 : List Int × Int) => [(0, .o 0), (1, .i a), (2, .i b), (3, .fn (.func 29) [] [.rp [.sl 3 eApiJob cmp_c0]]), (8, .i s5.2), (9, .i s16.2)]) (fun s16 => [(0, .val (.os 1 eI s16.1))]) g (fun s16 Y17 g => ?_)) (Wk.a [some 0]))
 refine C.seq (C.seq ?_)
 refine C.jn (fun (x18 : Bool) => [(0, .o 0), (1, .i a), (2, .i b), (3, .fn (.func 29) [] [.rp [.sl 3 eApiJob cmp_c0]]), (8, .i s5.2), (9, .i s16.2), (34, .b x18)]) (fun x18 => [(0, .val (.os 1 eI s16.1))]) 1 g (fun x18 g => ?_) fun J19 g j19 => ?_
 refine C.nx ?_
 refine C.ite rfl g (fun b24 g => ?_) fun b24 g => ?_
 refine C.skip (C.xs (C.block (D.bg mix 17 [] [0] (fun hQ hS ws M' => ?_))))
 refine D.pq 8 (zl [0, 1, 2, 3, 4, 5, 6, 7]) T ?_
 obtain ⟨x27, y27, g⟩ := g
 refine D.q 8 [] hQ hS rfl (.none rfl) rfl rfl (by exact Rd.io T rfl rfl rfl rfl rfl rfl rfl y27) rfl (by kernel_rfl) ?_
 refine D.pq 2 (zl [10, 11]) T ?_
 obtain ⟨x28, y28, g⟩ := g
 refine D.q 12 [] hQ hS rfl (.none rfl) rfl rfl (by exact Rd.io T rfl rfl rfl rfl rfl rfl rfl y28) rfl (by kernel_rfl) ?_
 refine D.have false [(0, .o 0), (1, .i a), (2, .i b), (3, .fn (.func 29) [] [.rp [.sl 3 eApiJob cmp_c0]]), (8, .i s5.2), (9, .i s16.2), (34, .b x18), (37, .o 0), (38, .i s16.2), (39, .o 0), (40, .i s16.2), (41, .i (w64 (s16.2 - 1))), (42, .o 0), (43, .i s16.2), (44, .i (w64 (s16.2 - 1))), (45, .ep 0 1 (Int.toNat (w64 (s16.2 - 1))) 0), (46, .i x27), (47, .o 0), (48, .i s16.2), (49, .ep 0 1 (Int.toNat s16.2) 0), (50, .i x28), (51, .ep 0 1 (Int.toNat s16.2) 0)] [(0, .val (.os 1 eI s16.1))] 1 3 #[true, true, true, true, true, true, true, true, true, true, true, true, true, true, true, false, false, false] ?_ fun hd28_3 => ?_
 refine D.e1 15 rfl (.none rfl) (by exact Eff1.se T (z' := x27) rfl rfl rfl (idx_some y28).2.2 rfl rfl rfl rfl rfl rfl rfl rfl (fun _ => rfl) rfl) (by kernel_rfl) rfl rfl ?_
 obtain ⟨x29, y29, g⟩ := g
 refine D.q 16 [] hQ hS rfl (.none rfl) rfl rfl (by exact Rd.io T rfl rfl rfl rfl rfl rfl rfl y29) rfl (by kernel_rfl) ?_
 refine D.ze1 rfl (.none rfl) (by exact Eff1.se T (z' := x28) rfl rfl rfl (idx_some y29).2.2 rfl rfl rfl rfl rfl rfl rfl rfl (fun _ => rfl) rfl) (by kernel_rfl) (by kernel_rfl) ?_
 refine C.bnx (C.nx (U.start (U.pd 3 T (C.nx ?_))))
 exact St.wk (C.next g) (Wk.a [some 0])
 refine D.have false [(0, .o 0), (1, .i a), (2, .i b), (3, .fn (.func 29) [] [.rp [.sl 3 eApiJob cmp_c0]]), (8, .i s5.2), (9, .i s16.2), (34, .b x18), (37, .o 0), (38, .i s16.2), (39, .o 0), (40, .i s16.2), (41, .i (w64 (s16.2 - 1))), (42, .o 0), (43, .i s16.2), (44, .i (w64 (s16.2 - 1))), (45, .ep 0 1 (Int.toNat (w64 (s16.2 - 1))) 0), (46, .i x27), (47, .o 0), (48, .i s16.2), (49, .ep 0 1 (Int.toNat s16.2) 0)] [(0, .val (.os 1 eI s16.1))] 1 5 #[true, true, true, true, true, true, true, true, true, true, true, true, true, false, false, false, false, false] ?_ fun hd28_1 => ?_
 refine D.all 13 [] (by kernel_rfl) ⟨?_, trivial⟩
 refine D.ef1 rfl (.none rfl) (by exact Eff1.rd rfl rfl (Rd.le T rfl rfl rfl (idx_some y28).2.2 rfl rfl rfl)) rfl rfl ?_
 refine D.q 14 [] hQ hS rfl (.none rfl) rfl rfl (by exact Rd.io T rfl rfl rfl rfl rfl rfl rfl y28) rfl (by kernel_rfl) ?_
 exact D.tq [0] hd28_3
 refine D.have false [(0, .o 0), (1, .i a), (2, .i b), (3, .fn (.func 29) [] [.rp [.sl 3 eApiJob cmp_c0]]), (8, .i s5.2), (9, .i s16.2), (34, .b x18), (37, .o 0), (38, .i s16.2), (39, .o 0), (40, .i s16.2), (41, .i (w64 (s16.2 - 1))), (42, .o 0), (43, .i s16.2), (44, .i (w64 (s16.2 - 1))), (45, .ep 0 1 (Int.toNat (w64 (s16.2 - 1))) 0), (47, .o 0), (48, .i s16.2), (49, .ep 0 1 (Int.toNat s16.2) 0), (50, .i x28)] [(0, .val (.os 1 eI s16.1))] 1 5 #[true, true, true, true, true, true, true, true, true, false, true, true, true, true, false, false, false, false] ?_ fun hd28_2 => ?_
 refine D.all 9 [] (by kernel_rfl) ⟨?_, trivial⟩
 refine D.ef1 rfl (.none rfl) (by exact Eff1.rd rfl rfl (Rd.le T rfl rfl rfl (idx_some y27).2.2 rfl rfl rfl)) rfl rfl ?_
 refine D.q 14 [] hQ hS rfl (.none rfl) rfl rfl (by exact Rd.io T rfl rfl rfl rfl rfl rfl rfl y28) rfl (by kernel_rfl) ?_
 exact D.tq [0] hd28_3
 refine D.all 9 [13] (by kernel_rfl) ⟨?_, ?_, trivial⟩
 refine D.ef1 rfl (.none rfl) (by exact Eff1.rd rfl rfl (Rd.le T rfl rfl rfl (idx_some y27).2.2 rfl rfl rfl)) rfl rfl ?_
 exact D.tq [0] hd28_1
 refine D.ef1 rfl (.none rfl) (by exact Eff1.rd rfl rfl (Rd.le T rfl rfl rfl (idx_some y28).2.2 rfl rfl rfl)) rfl rfl ?_
 exact D.tq [0] hd28_2
 refine C.exit (C.ex (C.ex (C.bex ?_)))
 exact St.wa [some 0] (j15 _ g)
 refine D.bg mix 9999 [0] [] (fun hQ hS ws M' => ?_)
 refine D.pq 4 (zl [0, 1, 2, 3]) T ?_
 refine g.cs (fun b20 g => ?_) fun b20 g => ?_
 refine D.pt 4 [] 3 true 21 b20 T ?_
 refine D.pt 5 [] 3 true 21 b20 T ?_
 refine D.pt 6 [] 3 true 21 b20 T ?_
 obtain ⟨x21, y21, g⟩ := g
 refine D.q 7 [] hQ hS rfl (.tk 3 true 21 b20) rfl rfl (by exact Rd.io T rfl rfl rfl rfl rfl rfl rfl y21) rfl (by kernel_rfl) ?_
 refine D.q 8 [] hQ hS rfl (.tk 3 true 21 b20) rfl rfl (by exact Rd.le T rfl rfl rfl (idx_some y21).2.2 rfl rfl rfl) rfl (by kernel_rfl) ?_
 refine D.pt 9 [] 3 true 21 b20 T ?_
 refine D.pt 10 [] 3 true 21 b20 T ?_
 refine D.pt 11 [] 3 true 21 b20 T ?_
 obtain ⟨x22, y22, g⟩ := g
 refine D.q 12 [] hQ hS rfl (.tk 3 true 21 b20) rfl rfl (by exact Rd.io T rfl rfl rfl rfl rfl rfl rfl y22) rfl (by kernel_rfl) ?_
 refine D.q 13 [] hQ hS rfl (.tk 3 true 21 b20) rfl rfl (by exact Rd.le T rfl rfl rfl (idx_some y22).2.2 rfl rfl rfl) rfl (by kernel_rfl) ?_
 refine D.k 14 (T_batch_Due_1 x21 x22 cmp_c0 _ g) en29 (fun x23 g => ?_) (hw := .take 3 true 21 _ b20 rfl rfl rfl)
 refine D.pt 15 [] 3 true 21 b20 T ?_
 refine D.kt 16 [] b20 ?_
 refine D.done (by kernel_rfl) ?_
 exact St.wa [some 0] (j19 _ g)
 refine D.sz 4 [] 3 true 21 b20 ?_
 refine D.sz 5 [] 3 true 21 b20 ?_
 refine D.sz 6 [] 3 true 21 b20 ?_
 refine D.sz 7 [] 3 true 21 b20 ?_
 refine D.sz 8 [] 3 true 21 b20 ?_
 refine D.sz 9 [] 3 true 21 b20 ?_
 refine D.sz 10 [] 3 true 21 b20 ?_
 refine D.sz 11 [] 3 true 21 b20 ?_
 refine D.sz 12 [] 3 true 21 b20 ?_
 refine D.sz 13 [] 3 true 21 b20 ?_
 refine D.sz 14 [] 3 true 21 b20 ?_
 refine D.sz 15 [] 3 true 21 b20 ?_
 refine D.kf 16 [] b20 ?_
 refine D.done (by kernel_rfl) ?_
 exact St.wa [some 0] (j19 _ g)
 refine C.exit (C.ex (C.ex (C.bex ?_)))
 exact St.wk (j4 _ g) (Wk.mk' [some 0] rfl rfl trivial ⟨vL, trivial⟩ rfl)
theorem T_slices_swapRangeCmpFunc_int__o0_batch_Due_1 (a : Int) (b : Int) (n : Int) (cmp_c0 : List ApiJob) (data : List Int) (post : (List Int) → Prop) (g : V_slices_swapRangeCmpFunc_int__o0_batch_Due_1 a b n cmp_c0 data post) :
    Tr Try.prog 89 [.o 0, .i a, .i b, .i n, .fn (.func 29) [] [.rp [.sl 3 eApiJob cmp_c0]]] [(0, .val (.os 1 eI data))] 1 (fun A H' k => ∃ y, post y ∧ A = (.tup []) ∧ H' = [(0, .val (.os 1 eI y))] ∧ k = 1) := by
 refine Tr.go Try.func89 Try.ntmps89 fun _ _ _ _ o => ?_
 unfold V_slices_swapRangeCmpFunc_int__o0_batch_Due_1 at g
 refine C.ss (U.pd 1 T (C.nx ?_))
 refine C.jn (fun (x3 : List Int) => []) (fun x3 => [(0, .val (.os 1 eI x3))]) 1 g (fun x3 g => ?_) fun J4 g j4 => ?_
 exact C.fg [some 0] T o ⟨x3, g, rfl, rfl, rfl⟩
 refine C.block (St.wk (C.loop (fun (s5 : List Int × Int) => [(0, .o 0), (1, .i a), (2, .i b), (3, .i n), (10, .i s5.2)]) (fun s5 => [(0, .val (.os 1 eI s5.1))]) g (fun s5 Y6 g => ?_)) (Wk.a [some 0]))
 refine C.seq (C.ss (U.pd 3 T (C.nx ?_)))
 refine C.ite rfl g (fun b9 g => ?_) fun b9 g => ?_
 refine C.skip (C.xs (C.block (D.bg mix 23 [] [0] (fun hQ hS ws M' => ?_))))
 refine D.pq 12 (zl [0, 1, 2, 3, 4, 5, 6, 7, 8, 9, 10, 11]) T ?_
 obtain ⟨x12, y12, g⟩ := g
 refine D.q 12 [] hQ hS rfl (.none rfl) rfl rfl (by exact Rd.io T rfl rfl rfl rfl rfl rfl rfl y12) rfl (by kernel_rfl) ?_
 refine D.pq 4 (zl [14, 15, 16, 17]) T ?_
 obtain ⟨x13, y13, g⟩ := g
 refine D.q 18 [] hQ hS rfl (.none rfl) rfl rfl (by exact Rd.io T rfl rfl rfl rfl rfl rfl rfl y13) rfl (by kernel_rfl) ?_
 refine D.have false [(0, .o 0), (1, .i a), (2, .i b), (3, .i n), (10, .i s5.2), (11, .i s5.2), (12, .i n), (13, .b (decide (s5.2 < n))), (16, .o 0), (17, .i a), (18, .i s5.2), (19, .i (w64 (a + s5.2))), (20, .o 0), (21, .i b), (22, .i s5.2), (23, .i (w64 (b + s5.2))), (24, .o 0), (25, .i b), (26, .i s5.2), (27, .i (w64 (b + s5.2))), (28, .ep 0 1 (Int.toNat (w64 (b + s5.2))) 0), (29, .i x12), (30, .o 0), (31, .i a), (32, .i s5.2), (33, .i (w64 (a + s5.2))), (34, .ep 0 1 (Int.toNat (w64 (a + s5.2))) 0), (35, .i x13), (36, .ep 0 1 (Int.toNat (w64 (a + s5.2))) 0)] [(0, .val (.os 1 eI s5.1))] 1 3 #[true, true, true, true, true, true, true, true, true, true, true, true, true, true, true, true, true, true, true, true, true, false, false, false] ?_ fun hd13_3 => ?_
 refine D.e1 21 rfl (.none rfl) (by exact Eff1.se T (z' := x12) rfl rfl rfl (idx_some y13).2.2 rfl rfl rfl rfl rfl rfl rfl rfl (fun _ => rfl) rfl) (by kernel_rfl) rfl rfl ?_
 obtain ⟨x14, y14, g⟩ := g
 refine D.q 22 [] hQ hS rfl (.none rfl) rfl rfl (by exact Rd.io T rfl rfl rfl rfl rfl rfl rfl y14) rfl (by kernel_rfl) ?_
 refine D.ze1 rfl (.none rfl) (by exact Eff1.se T (z' := x13) rfl rfl rfl (idx_some y14).2.2 rfl rfl rfl rfl rfl rfl rfl rfl (fun _ => rfl) rfl) (by kernel_rfl) (by kernel_rfl) ?_
 refine C.bnx (C.nx (U.start (U.pd 3 T (C.nx ?_))))
 exact St.wk (C.next g) (Wk.a [some 0])
 refine D.have false [(0, .o 0), (1, .i a), (2, .i b), (3, .i n), (10, .i s5.2), (11, .i s5.2), (12, .i n), (13, .b (decide (s5.2 < n))), (16, .o 0), (17, .i a), (18, .i s5.2), (19, .i (w64 (a + s5.2))), (20, .o 0), (21, .i b), (22, .i s5.2), (23, .i (w64 (b + s5.2))), (24, .o 0), (25, .i b), (26, .i s5.2), (27, .i (w64 (b + s5.2))), (28, .ep 0 1 (Int.toNat (w64 (b + s5.2))) 0), (29, .i x12), (30, .o 0), (31, .i a), (32, .i s5.2), (33, .i (w64 (a + s5.2))), (34, .ep 0 1 (Int.toNat (w64 (a + s5.2))) 0)] [(0, .val (.os 1 eI s5.1))] 1 5 #[true, true, true, true, true, true, true, true, true, true, true, true, true, true, true, true, true, true, true, false, false, false, false, false] ?_ fun hd13_1 => ?_
 refine D.all 19 [] (by kernel_rfl) ⟨?_, trivial⟩
 refine D.ef1 rfl (.none rfl) (by exact Eff1.rd rfl rfl (Rd.le T rfl rfl rfl (idx_some y13).2.2 rfl rfl rfl)) rfl rfl ?_
 refine D.q 20 [] hQ hS rfl (.none rfl) rfl rfl (by exact Rd.io T rfl rfl rfl rfl rfl rfl rfl y13) rfl (by kernel_rfl) ?_
 exact D.tq [0] hd13_3
 refine D.have false [(0, .o 0), (1, .i a), (2, .i b), (3, .i n), (10, .i s5.2), (11, .i s5.2), (12, .i n), (13, .b (decide (s5.2 < n))), (16, .o 0), (17, .i a), (18, .i s5.2), (19, .i (w64 (a + s5.2))), (20, .o 0), (21, .i b), (22, .i s5.2), (23, .i (w64 (b + s5.2))), (24, .o 0), (25, .i b), (26, .i s5.2), (27, .i (w64 (b + s5.2))), (28, .ep 0 1 (Int.toNat (w64 (b + s5.2))) 0), (30, .o 0), (31, .i a), (32, .i s5.2), (33, .i (w64 (a + s5.2))), (34, .ep 0 1 (Int.toNat (w64 (a + s5.2))) 0), (35, .i x13)] [(0, .val (.os 1 eI s5.1))] 1 5 #[true, true, true, true, true, true, true, true, true, true, true, true, true, false, true, true, true, true, true, true, false, false, false, false] ?_ fun hd13_2 => ?_
 refine D.all 13 [] (by kernel_rfl) ⟨?_, trivial⟩
 refine D.ef1 rfl (.none rfl) (by exact Eff1.rd rfl rfl (Rd.le T rfl rfl rfl (idx_some y12).2.2 rfl rfl rfl)) rfl rfl ?_
 refine D.q 20 [] hQ hS rfl (.none rfl) rfl rfl (by exact Rd.io T rfl rfl rfl rfl rfl rfl rfl y13) rfl (by kernel_rfl) ?_
 exact D.tq [0] hd13_3
 refine D.all 13 [19] (by kernel_rfl) ⟨?_, ?_, trivial⟩
 refine D.ef1 rfl (.none rfl) (by exact Eff1.rd rfl rfl (Rd.le T rfl rfl rfl (idx_some y12).2.2 rfl rfl rfl)) rfl rfl ?_
 exact D.tq [0] hd13_1
 refine D.ef1 rfl (.none rfl) (by exact Eff1.rd rfl rfl (Rd.le T rfl rfl rfl (idx_some y13).2.2 rfl rfl rfl)) rfl rfl ?_
 exact D.tq [0] hd13_2
 refine C.exit (C.ex (C.ex (C.bex ?_)))
 exact St.wk (j4 _ g) (Wk.mk' [some 0] rfl rfl trivial ⟨vL, trivial⟩ rfl)
theorem T_slices_rotateCmpFunc_int__o0_batch_Due_1 (a : Int) (m : Int) (b : Int) (cmp_c0 : List ApiJob) (data : List Int) (post : (List Int) → Prop) (g : V_slices_rotateCmpFunc_int__o0_batch_Due_1 a m b cmp_c0 data post) :
    Tr Try.prog 79 [.o 0, .i a, .i m, .i b, .fn (.func 29) [] [.rp [.sl 3 eApiJob cmp_c0]]] [(0, .val (.os 1 eI data))] 1 (fun A H' k => ∃ y, post y ∧ A = (.tup []) ∧ H' = [(0, .val (.os 1 eI y))] ∧ k = 1) := by
 refine Tr.go Try.func79 Try.ntmps79 fun _ _ _ _ o => ?_
 unfold V_slices_rotateCmpFunc_int__o0_batch_Due_1 at g
 refine C.ss (U.pd 4 T (C.xt ?_))
 refine U.pd 4 T (C.xs ?_)
 refine C.jn (fun (x5 : List Int × Int) => [(0, .o 0), (2, .i m), (4, .fn (.func 29) [] [.rp [.sl 3 eApiJob cmp_c0]]), (10, .i x5.2)]) (fun x5 => [(0, .val (.os 1 eI x5.1))]) 1 g (fun x5 g => ?_) fun J6 g j6 => ?_
 refine C.nx (U.start (U.ps 7 T rfl (U.c [some 0] (T_slices_swapRangeCmpFunc_int__o0_batch_Due_1 (w64 (m - x5.2)) m x5.2 cmp_c0 x5.1 _ g) en89 (fun x29 g => ?_))))
 refine U.done ?_
 exact C.fg [some 0] T o ⟨x29, g, rfl, rfl, rfl⟩
 refine C.block (St.wk (C.loop (fun (s7 : List Int × Int × Int) => [(0, .o 0), (2, .i m), (4, .fn (.func 29) [] [.rp [.sl 3 eApiJob cmp_c0]]), (10, .i s7.2.1), (11, .i s7.2.2)]) (fun s7 => [(0, .val (.os 1 eI s7.1))]) g (fun s7 Y8 g => ?_)) (Wk.a [some 0]))
 refine C.seq (C.ss (U.pd 3 T (C.nx ?_)))
 refine C.ite rfl g (fun b11 g => ?_) fun b11 g => ?_
 refine C.skip (C.nx (C.block (C.ss (U.pd 3 T (C.nx ?_)))))
 refine C.jn (fun (x14 : List Int × Int × Int) => [(0, .o 0), (2, .i m), (4, .fn (.func 29) [] [.rp [.sl 3 eApiJob cmp_c0]]), (10, .i x14.2.1), (11, .i x14.2.2)]) (fun x14 => [(0, .val (.os 1 eI x14.1))]) 1 g (fun x14 g => ?_) fun J15 g j15 => ?_
 refine C.bnx (C.nx ?_)
 exact St.wk (C.next g) (Wk.a [some 0])
 refine C.ite rfl g (fun b16 g => ?_) fun b16 g => ?_
 refine C.ss (U.ps 7 T rfl (U.c [some 0] (T_slices_swapRangeCmpFunc_int__o0_batch_Due_1 (w64 (m - s7.2.1)) m s7.2.2 cmp_c0 s7.1 _ g) en89 (fun x19 g => ?_)))
 refine U.done (C.nx (U.start (U.pd 4 T ?_)))
 exact St.wa [some 0] (j15 _ g)
 refine C.ss (U.ps 11 T rfl (U.c [some 0] (T_slices_swapRangeCmpFunc_int__o0_batch_Due_1 (w64 (m - s7.2.1)) (w64 ((w64 (m + s7.2.2)) - s7.2.1)) s7.2.1 cmp_c0 s7.1 _ g) en89 (fun x24 g => ?_)))
 refine U.done (C.nx (U.start (U.pd 4 T ?_)))
 exact St.wa [some 0] (j15 _ g)
 refine C.exit (C.ex (C.ex (C.bex ?_)))
 exact St.wa [some 0] (j6 _ g)
def X_slices_symMergeCmpFunc_int__o0_batch_Due_1 : (Int × Int × Int × List ApiJob × List Int) → ((List Int) → Prop) → Prop | (a, m, b, cmp_c0, data), post => Tr Try.prog 57 [.o 0, .i a, .i m, .i b, .fn (.func 29) [] [.rp [.sl 3 eApiJob cmp_c0]]] [(0, .val (.os 1 eI data))] 1 (fun A H' k => ∃ y, post y ∧ A = (.tup []) ∧ H' = [(0, .val (.os 1 eI y))] ∧ k = 1)
theorem U_slices_symMergeCmpFunc_int__o0_batch_Due_1 (a : Int) (m : Int) (b : Int) (cmp_c0 : List ApiJob) (data : List Int) (post : (List Int) → Prop) (h : X_slices_symMergeCmpFunc_int__o0_batch_Due_1 (a, m, b, cmp_c0, data) post) : Tr Try.prog 57 [.o 0, .i a, .i m, .i b, .fn (.func 29) [] [.rp [.sl 3 eApiJob cmp_c0]]] [(0, .val (.os 1 eI data))] 1 (fun A H' k => ∃ y, post y ∧ A = (.tup []) ∧ H' = [(0, .val (.os 1 eI y))] ∧ k = 1) := h
theorem T_slices_symMergeCmpFunc_int__o0_batch_Due_1 (a : Int) (m : Int) (b : Int) (cmp_c0 : List ApiJob) (data : List Int) (post : (List Int) → Prop) (g : V_slices_symMergeCmpFunc_int__o0_batch_Due_1 a m b cmp_c0 data post) :
    Tr Try.prog 57 [.o 0, .i a, .i m, .i b, .fn (.func 29) [] [.rp [.sl 3 eApiJob cmp_c0]]] [(0, .val (.os 1 eI data))] 1 (fun A H' k => ∃ y, post y ∧ A = (.tup []) ∧ H' = [(0, .val (.os 1 eI y))] ∧ k = 1) := by
 refine U_slices_symMergeCmpFunc_int__o0_batch_Due_1 a m b cmp_c0 data _ (g X_slices_symMergeCmpFunc_int__o0_batch_Due_1 (fun a post g => ?_))
 obtain ⟨a, m, b, cmp_c0, data⟩ := a
 replace g : B_slices_symMergeCmpFunc_int__o0_batch_Due_1 X_slices_symMergeCmpFunc_int__o0_batch_Due_1 a m b cmp_c0 data post := g
 show Tr Try.prog 57 [.o 0, .i a, .i m, .i b, .fn (.func 29) [] [.rp [.sl 3 eApiJob cmp_c0]]] [(0, .val (.os 1 eI data))] 1 (fun A H' k => ∃ y, post y ∧ A = (.tup []) ∧ H' = [(0, .val (.os 1 eI y))] ∧ k = 1)
 refine Tr.go Try.func57 Try.ntmps57 fun _ _ _ _ o => ?_
 unfold B_slices_symMergeCmpFunc_int__o0_batch_Due_1 at g
 refine C.seq (C.ss (U.pd 4 T (C.nx ?_)))
 refine C.ite rfl g (fun b3 g => ?_) fun b3 g => ?_
 ·refine C.ss ?_
  refine U.pd 2 T (C.xt ?_)
  refine U.pd 2 T (C.xs ?_)
  refine C.jn (fun (x8 : Int) => [(0, .o 0), (1, .i a), (10, .i x8)]) (fun x8 => [(0, .val (.os 1 eI data))]) 1 g (fun x8 g => ?_) fun J9 g j9 => ?_
  ·refine C.xs (C.ss ?_)
   refine U.pd 2 T (C.nx ?_)
   refine C.jn (fun (x32 : List Int) => []) (fun x32 => [(0, .val (.os 1 eI x32))]) 1 g (fun x32 g => ?_) fun J33 g j33 => ?_
   ·refine C.nx (C.ret (C.rt ?_))
    exact C.fg [some 0] T o ⟨x32, g, rfl, rfl, rfl⟩
   ·refine C.block ?_
    refine St.wk (C.loop (fun (s34 : List Int × Int) => [(0, .o 0), (10, .i x8), (13, .i s34.2)]) (fun s34 => [(0, .val (.os 1 eI s34.1))]) g (fun s34 Y35 g => ?_)) (Wk.a [some 0])
    refine C.seq (C.ss (U.pd 4 T (C.nx ?_)))
    refine C.ite rfl g (fun b38 g => ?_) fun b38 g => ?_
    ·refine C.skip (C.xs (C.block ?_))
     refine D.bg mix 17 [] [0] (fun hQ hS ws M' => ?_)
     refine D.pq 8 (zl [0, 1, 2, 3, 4, 5, 6, 7]) T ?_
     obtain ⟨x41, y41, g⟩ := g
     refine D.q 8 [] hQ hS rfl (.none rfl) rfl rfl (by exact Rd.io T rfl rfl rfl rfl rfl rfl rfl y41) rfl (by kernel_rfl) ?_
     refine D.pq 2 (zl [10, 11]) T ?_
     obtain ⟨x42, y42, g⟩ := g
     refine D.q 12 [] hQ hS rfl (.none rfl) rfl rfl (by exact Rd.io T rfl rfl rfl rfl rfl rfl rfl y42) rfl (by kernel_rfl) ?_
     refine D.have false [(0, .o 0), (10, .i x8), (13, .i s34.2), (55, .i s34.2), (56, .i x8), (57, .i (w64 (x8 - 1))), (58, .b (decide (s34.2 < (w64 (x8 - 1))))), (61, .o 0), (62, .i s34.2), (63, .o 0), (64, .i s34.2), (65, .i (w64 (s34.2 + 1))), (66, .o 0), (67, .i s34.2), (68, .i (w64 (s34.2 + 1))), (69, .ep 0 1 (Int.toNat (w64 (s34.2 + 1))) 0), (70, .i x41), (71, .o 0), (72, .i s34.2), (73, .ep 0 1 (Int.toNat s34.2) 0), (74, .i x42), (75, .ep 0 1 (Int.toNat s34.2) 0)] [(0, .val (.os 1 eI s34.1))] 1 3 (bvA 18 [15, 16, 17]) ?_ fun hd42_3 => ?_
     ·refine D.e1 15 rfl (.none rfl) (by exact Eff1.se T (z' := x41) rfl rfl rfl (idx_some y42).2.2 rfl rfl rfl rfl rfl rfl rfl rfl (fun _ => rfl) rfl) (by kernel_rfl) rfl rfl ?_
      obtain ⟨x43, y43, g⟩ := g
      refine D.q 16 [] hQ hS rfl (.none rfl) rfl rfl (by exact Rd.io T rfl rfl rfl rfl rfl rfl rfl y43) rfl (by kernel_rfl) ?_
      refine D.ze1 rfl (.none rfl) (by exact Eff1.se T (z' := x42) rfl rfl rfl (idx_some y43).2.2 rfl rfl rfl rfl rfl rfl rfl rfl (fun _ => rfl) rfl) (by kernel_rfl) (by kernel_rfl) ?_
      refine C.bnx (C.nx (U.start (U.pd 3 T (C.nx ?_))))
      exact St.wk (C.next g) (Wk.a [some 0])
     refine D.have false [(0, .o 0), (10, .i x8), (13, .i s34.2), (55, .i s34.2), (56, .i x8), (57, .i (w64 (x8 - 1))), (58, .b (decide (s34.2 < (w64 (x8 - 1))))), (61, .o 0), (62, .i s34.2), (63, .o 0), (64, .i s34.2), (65, .i (w64 (s34.2 + 1))), (66, .o 0), (67, .i s34.2), (68, .i (w64 (s34.2 + 1))), (69, .ep 0 1 (Int.toNat (w64 (s34.2 + 1))) 0), (70, .i x41), (71, .o 0), (72, .i s34.2), (73, .ep 0 1 (Int.toNat s34.2) 0)] [(0, .val (.os 1 eI s34.1))] 1 5 (bvA 18 [13, 14, 15, 16, 17]) ?_ fun hd42_1 => ?_
     ·refine D.all 13 [] (by kernel_rfl) ⟨?_, trivial⟩
      ·refine D.ef1 rfl (.none rfl) (by exact Eff1.rd rfl rfl (Rd.le T rfl rfl rfl (idx_some y42).2.2 rfl rfl rfl)) rfl rfl ?_
       refine D.q 14 [] hQ hS rfl (.none rfl) rfl rfl (by exact Rd.io T rfl rfl rfl rfl rfl rfl rfl y42) rfl (by kernel_rfl) ?_
       exact D.tq [0] hd42_3
     refine D.have false [(0, .o 0), (10, .i x8), (13, .i s34.2), (55, .i s34.2), (56, .i x8), (57, .i (w64 (x8 - 1))), (58, .b (decide (s34.2 < (w64 (x8 - 1))))), (61, .o 0), (62, .i s34.2), (63, .o 0), (64, .i s34.2), (65, .i (w64 (s34.2 + 1))), (66, .o 0), (67, .i s34.2), (68, .i (w64 (s34.2 + 1))), (69, .ep 0 1 (Int.toNat (w64 (s34.2 + 1))) 0), (71, .o 0), (72, .i s34.2), (73, .ep 0 1 (Int.toNat s34.2) 0), (74, .i x42)] [(0, .val (.os 1 eI s34.1))] 1 5 (bvA 18 [9, 14, 15, 16, 17]) ?_ fun hd42_2 => ?_
     ·refine D.all 9 [] (by kernel_rfl) ⟨?_, trivial⟩
      ·refine D.ef1 rfl (.none rfl) (by exact Eff1.rd rfl rfl (Rd.le T rfl rfl rfl (idx_some y41).2.2 rfl rfl rfl)) rfl rfl ?_
       refine D.q 14 [] hQ hS rfl (.none rfl) rfl rfl (by exact Rd.io T rfl rfl rfl rfl rfl rfl rfl y42) rfl (by kernel_rfl) ?_
       exact D.tq [0] hd42_3
     refine D.all 9 [13] (by kernel_rfl) ⟨?_, ?_, trivial⟩
     ·refine D.ef1 rfl (.none rfl) (by exact Eff1.rd rfl rfl (Rd.le T rfl rfl rfl (idx_some y41).2.2 rfl rfl rfl)) rfl rfl ?_
      exact D.tq [0] hd42_1
     ·refine D.ef1 rfl (.none rfl) (by exact Eff1.rd rfl rfl (Rd.le T rfl rfl rfl (idx_some y42).2.2 rfl rfl rfl)) rfl rfl ?_
      exact D.tq [0] hd42_2
    ·refine C.exit (C.ex (C.ex (C.bex ?_)))
     exact St.wk (j33 _ g) (Wk.mk' [some 0] rfl rfl trivial ⟨vL, trivial⟩ rfl)
  ·refine C.block ?_
   refine St.wk (C.loop (fun (s10 : Int × Int) => [(0, .o 0), (1, .i a), (4, .fn (.func 29) [] [.rp [.sl 3 eApiJob cmp_c0]]), (10, .i s10.1), (11, .i s10.2)]) (fun s10 => [(0, .val (.os 1 eI data))]) g (fun s10 Y11 g => ?_)) (Wk.a [some 0])
   refine C.seq (C.ss (U.pd 3 T (C.nx ?_)))
   refine C.ite rfl g (fun b14 g => ?_) fun b14 g => ?_
   ·refine C.skip (C.nx (C.block (C.ss ?_)))
    refine U.ps 4 T rfl (U.r rfl (.none rfl) rfl rfl (by exact Rd.sh rfl rfl rfl rfl (by decide)) ?_)
    refine U.pd 2 T (C.xs ?_)
    refine D.bg mix 9999 [0] [] (fun hQ hS ws M' => ?_)
    refine D.pq 3 (zl [0, 1, 2]) T ?_
    obtain ⟨x20, y20, g⟩ := g
    refine D.q 3 [] hQ hS rfl (.none rfl) rfl rfl (by exact Rd.io T rfl rfl rfl rfl rfl rfl rfl y20) rfl (by kernel_rfl) ?_
    refine D.q 4 [] hQ hS rfl (.none rfl) rfl rfl (by exact Rd.le T rfl rfl rfl (idx_some y20).2.2 rfl rfl rfl) rfl (by kernel_rfl) ?_
    refine D.pq 2 (zl [5, 6]) T ?_
    obtain ⟨x21, y21, g⟩ := g
    refine D.q 7 [] hQ hS rfl (.none rfl) rfl rfl (by exact Rd.io T rfl rfl rfl rfl rfl rfl rfl y21) rfl (by kernel_rfl) ?_
    refine D.q 8 [] hQ hS rfl (.none rfl) rfl rfl (by exact Rd.le T rfl rfl rfl (idx_some y21).2.2 rfl rfl rfl) rfl (by kernel_rfl) ?_
    refine D.k 9 (T_batch_Due_1 x20 x21 cmp_c0 _ g) en29 fun x22 g => ?_
    refine D.pq 1 [(10, [])] T ?_
    refine D.done (by kernel_rfl) ?_
    refine C.nx ?_
    refine C.jn (fun (x23 : Int × Int) => [(0, .o 0), (1, .i a), (4, .fn (.func 29) [] [.rp [.sl 3 eApiJob cmp_c0]]), (10, .i x23.1), (11, .i x23.2)]) (fun x23 => [(0, .val (.os 1 eI data))]) 1 g (fun x23 g => ?_) fun J24 g j24 => ?_
    ·refine C.bnx (C.nx ?_)
     exact St.wk (C.next g) (Wk.a [some 0])
    ·refine C.ite rfl g (fun b25 g => ?_) (fun b25 g => ?_)
     ·refine U.start ?_
      refine U.pd 3 T ?_
      exact St.wa [some 0] (j24 _ g)
     ·refine U.start ?_
      refine U.pd 2 T ?_
      exact St.wa [some 0] (j24 _ g)
   ·refine C.exit (C.ex (C.ex (C.bex ?_)))
    exact St.wa [some 0] (j9 _ g)
 ·refine C.skip (C.xs (C.ss ?_))
  refine U.pd 4 T (C.nx ?_)
  refine C.ite rfl g (fun b48 g => ?_) fun b48 g => ?_
  ·refine C.ss ?_
   refine U.pd 2 T (C.xt ?_)
   refine U.pd 2 T (C.xs ?_)
   refine C.jn (fun (x53 : Int) => [(0, .o 0), (2, .i m), (14, .i x53)]) (fun x53 => [(0, .val (.os 1 eI data))]) 1 g (fun x53 g => ?_) fun J54 g j54 => ?_
   ·refine C.xs (C.ss ?_)
    refine U.pd 2 T (C.nx ?_)
    refine C.jn (fun (x77 : List Int) => []) (fun x77 => [(0, .val (.os 1 eI x77))]) 1 g (fun x77 g => ?_) fun J78 g j78 => ?_
    ·refine C.nx (C.ret (C.rt ?_))
     exact C.fg [some 0] T o ⟨x77, g, rfl, rfl, rfl⟩
    ·refine C.block ?_
     refine St.wk (C.loop (fun (s79 : List Int × Int) => [(0, .o 0), (14, .i x53), (17, .i s79.2)]) (fun s79 => [(0, .val (.os 1 eI s79.1))]) g (fun s79 Y80 g => ?_)) (Wk.a [some 0])
     refine C.seq (C.ss (U.pd 3 T (C.nx ?_)))
     refine C.ite rfl g (fun b83 g => ?_) fun b83 g => ?_
     ·refine C.skip (C.xs (C.block ?_))
      refine D.bg mix 17 [] [0] (fun hQ hS ws M' => ?_)
      refine D.pq 8 (zl [0, 1, 2, 3, 4, 5, 6, 7]) T ?_
      obtain ⟨x86, y86, g⟩ := g
      refine D.q 8 [] hQ hS rfl (.none rfl) rfl rfl (by exact Rd.io T rfl rfl rfl rfl rfl rfl rfl y86) rfl (by kernel_rfl) ?_
      refine D.pq 2 (zl [10, 11]) T ?_
      obtain ⟨x87, y87, g⟩ := g
      refine D.q 12 [] hQ hS rfl (.none rfl) rfl rfl (by exact Rd.io T rfl rfl rfl rfl rfl rfl rfl y87) rfl (by kernel_rfl) ?_
      refine D.have false [(0, .o 0), (14, .i x53), (17, .i s79.2), (108, .i s79.2), (109, .i x53), (110, .b (decide (s79.2 > x53))), (113, .o 0), (114, .i s79.2), (115, .o 0), (116, .i s79.2), (117, .i (w64 (s79.2 - 1))), (118, .o 0), (119, .i s79.2), (120, .i (w64 (s79.2 - 1))), (121, .ep 0 1 (Int.toNat (w64 (s79.2 - 1))) 0), (122, .i x86), (123, .o 0), (124, .i s79.2), (125, .ep 0 1 (Int.toNat s79.2) 0), (126, .i x87), (127, .ep 0 1 (Int.toNat s79.2) 0)] [(0, .val (.os 1 eI s79.1))] 1 3 (bvA 18 [15, 16, 17]) ?_ fun hd87_3 => ?_
      ·refine D.e1 15 rfl (.none rfl) (by exact Eff1.se T (z' := x86) rfl rfl rfl (idx_some y87).2.2 rfl rfl rfl rfl rfl rfl rfl rfl (fun _ => rfl) rfl) (by kernel_rfl) rfl rfl ?_
       obtain ⟨x88, y88, g⟩ := g
       refine D.q 16 [] hQ hS rfl (.none rfl) rfl rfl (by exact Rd.io T rfl rfl rfl rfl rfl rfl rfl y88) rfl (by kernel_rfl) ?_
       refine D.ze1 rfl (.none rfl) (by exact Eff1.se T (z' := x87) rfl rfl rfl (idx_some y88).2.2 rfl rfl rfl rfl rfl rfl rfl rfl (fun _ => rfl) rfl) (by kernel_rfl) (by kernel_rfl) ?_
       refine C.bnx (C.nx (U.start (U.pd 3 T (C.nx ?_))))
       exact St.wk (C.next g) (Wk.a [some 0])
      refine D.have false [(0, .o 0), (14, .i x53), (17, .i s79.2), (108, .i s79.2), (109, .i x53), (110, .b (decide (s79.2 > x53))), (113, .o 0), (114, .i s79.2), (115, .o 0), (116, .i s79.2), (117, .i (w64 (s79.2 - 1))), (118, .o 0), (119, .i s79.2), (120, .i (w64 (s79.2 - 1))), (121, .ep 0 1 (Int.toNat (w64 (s79.2 - 1))) 0), (122, .i x86), (123, .o 0), (124, .i s79.2), (125, .ep 0 1 (Int.toNat s79.2) 0)] [(0, .val (.os 1 eI s79.1))] 1 5 (bvA 18 [13, 14, 15, 16, 17]) ?_ fun hd87_1 => ?_
      ·refine D.all 13 [] (by kernel_rfl) ⟨?_, trivial⟩
       ·refine D.ef1 rfl (.none rfl) (by exact Eff1.rd rfl rfl (Rd.le T rfl rfl rfl (idx_some y87).2.2 rfl rfl rfl)) rfl rfl ?_
        refine D.q 14 [] hQ hS rfl (.none rfl) rfl rfl (by exact Rd.io T rfl rfl rfl rfl rfl rfl rfl y87) rfl (by kernel_rfl) ?_
        exact D.tq [0] hd87_3
      refine D.have false [(0, .o 0), (14, .i x53), (17, .i s79.2), (108, .i s79.2), (109, .i x53), (110, .b (decide (s79.2 > x53))), (113, .o 0), (114, .i s79.2), (115, .o 0), (116, .i s79.2), (117, .i (w64 (s79.2 - 1))), (118, .o 0), (119, .i s79.2), (120, .i (w64 (s79.2 - 1))), (121, .ep 0 1 (Int.toNat (w64 (s79.2 - 1))) 0), (123, .o 0), (124, .i s79.2), (125, .ep 0 1 (Int.toNat s79.2) 0), (126, .i x87)] [(0, .val (.os 1 eI s79.1))] 1 5 (bvA 18 [9, 14, 15, 16, 17]) ?_ fun hd87_2 => ?_
      ·refine D.all 9 [] (by kernel_rfl) ⟨?_, trivial⟩
       ·refine D.ef1 rfl (.none rfl) (by exact Eff1.rd rfl rfl (Rd.le T rfl rfl rfl (idx_some y86).2.2 rfl rfl rfl)) rfl rfl ?_
        refine D.q 14 [] hQ hS rfl (.none rfl) rfl rfl (by exact Rd.io T rfl rfl rfl rfl rfl rfl rfl y87) rfl (by kernel_rfl) ?_
        exact D.tq [0] hd87_3
      refine D.all 9 [13] (by kernel_rfl) ⟨?_, ?_, trivial⟩
      ·refine D.ef1 rfl (.none rfl) (by exact Eff1.rd rfl rfl (Rd.le T rfl rfl rfl (idx_some y86).2.2 rfl rfl rfl)) rfl rfl ?_
       exact D.tq [0] hd87_1
      ·refine D.ef1 rfl (.none rfl) (by exact Eff1.rd rfl rfl (Rd.le T rfl rfl rfl (idx_some y87).2.2 rfl rfl rfl)) rfl rfl ?_
       exact D.tq [0] hd87_2
     ·refine C.exit (C.ex (C.ex (C.bex ?_)))
      exact St.wk (j78 _ g) (Wk.mk' [some 0] rfl rfl trivial ⟨vL, trivial⟩ rfl)
   ·refine C.block ?_
    refine St.wk (C.loop (fun (s55 : Int × Int) => [(0, .o 0), (2, .i m), (4, .fn (.func 29) [] [.rp [.sl 3 eApiJob cmp_c0]]), (14, .i s55.1), (15, .i s55.2)]) (fun s55 => [(0, .val (.os 1 eI data))]) g (fun s55 Y56 g => ?_)) (Wk.a [some 0])
    refine C.seq (C.ss (U.pd 3 T (C.nx ?_)))
    refine C.ite rfl g (fun b59 g => ?_) fun b59 g => ?_
    ·refine C.skip (C.nx (C.block (C.ss ?_)))
     refine U.ps 4 T rfl (U.r rfl (.none rfl) rfl rfl (by exact Rd.sh rfl rfl rfl rfl (by decide)) ?_)
     refine U.pd 2 T (C.xs ?_)
     refine D.bg mix 9999 [0] [] (fun hQ hS ws M' => ?_)
     refine D.pq 3 (zl [0, 1, 2]) T ?_
     obtain ⟨x65, y65, g⟩ := g
     refine D.q 3 [] hQ hS rfl (.none rfl) rfl rfl (by exact Rd.io T rfl rfl rfl rfl rfl rfl rfl y65) rfl (by kernel_rfl) ?_
     refine D.q 4 [] hQ hS rfl (.none rfl) rfl rfl (by exact Rd.le T rfl rfl rfl (idx_some y65).2.2 rfl rfl rfl) rfl (by kernel_rfl) ?_
     refine D.pq 2 (zl [5, 6]) T ?_
     obtain ⟨x66, y66, g⟩ := g
     refine D.q 7 [] hQ hS rfl (.none rfl) rfl rfl (by exact Rd.io T rfl rfl rfl rfl rfl rfl rfl y66) rfl (by kernel_rfl) ?_
     refine D.q 8 [] hQ hS rfl (.none rfl) rfl rfl (by exact Rd.le T rfl rfl rfl (idx_some y66).2.2 rfl rfl rfl) rfl (by kernel_rfl) ?_
     refine D.k 9 (T_batch_Due_1 x65 x66 cmp_c0 _ g) en29 fun x67 g => ?_
     refine D.pq 2 (zl [10, 11]) T ?_
     refine D.done (by kernel_rfl) ?_
     refine C.nx ?_
     refine C.jn (fun (x68 : Int × Int) => [(0, .o 0), (2, .i m), (4, .fn (.func 29) [] [.rp [.sl 3 eApiJob cmp_c0]]), (14, .i x68.1), (15, .i x68.2)]) (fun x68 => [(0, .val (.os 1 eI data))]) 1 g (fun x68 g => ?_) fun J69 g j69 => ?_
     ·refine C.bnx (C.nx ?_)
      exact St.wk (C.next g) (Wk.a [some 0])
     ·refine C.ite rfl g (fun b70 g => ?_) (fun b70 g => ?_)
      ·refine U.start ?_
       refine U.pd 3 T ?_
       exact St.wa [some 0] (j69 _ g)
      ·refine U.start ?_
       refine U.pd 2 T ?_
       exact St.wa [some 0] (j69 _ g)
    ·refine C.exit (C.ex (C.ex (C.bex ?_)))
     exact St.wa [some 0] (j54 _ g)
  ·refine C.skip (C.xt ?_)
   refine U.ps 4 T rfl (U.r rfl (.none rfl) rfl rfl (by exact Rd.sh rfl rfl rfl rfl (by decide)) ?_)
   refine U.pd 2 T (C.xt ?_)
   refine U.pd 4 T (C.xt ?_)
   refine U.pd 2 T (C.xs (C.ss ?_))
   refine U.pd 3 T (C.nx ?_)
   refine C.jn (fun (x100 : Int × Int) => [(0, .o 0), (1, .i a), (2, .i m), (3, .i b), (4, .fn (.func 29) [] [.rp [.sl 3 eApiJob cmp_c0]]), (18, .i (IntKind.wrap .i64 (shrI .u64 (IntKind.wrap .u64 (w64 (a + b))) 1))), (19, .i (w64 ((IntKind.wrap .i64 (shrI .u64 (IntKind.wrap .u64 (w64 (a + b))) 1)) + m))), (20, .i x100.1), (21, .i x100.2)]) (fun x100 => [(0, .val (.os 1 eI data))]) 1 g (fun x100 g => ?_) fun J101 g j101 => ?_
   ·refine C.xt ?_
    refine U.pd 3 T (C.xs ?_)
    refine C.jn (fun (x113 : Int) => [(0, .o 0), (1, .i a), (2, .i m), (3, .i b), (4, .fn (.func 29) [] [.rp [.sl 3 eApiJob cmp_c0]]), (18, .i (IntKind.wrap .i64 (shrI .u64 (IntKind.wrap .u64 (w64 (a + b))) 1))), (19, .i (w64 ((IntKind.wrap .i64 (shrI .u64 (IntKind.wrap .u64 (w64 (a + b))) 1)) + m))), (20, .i x113)]) (fun x113 => [(0, .val (.os 1 eI data))]) 1 g (fun x113 g => ?_) fun J114 g j114 => ?_
    ·refine C.xt ?_
     refine U.pd 4 T (C.xs (C.seq ?_))
     refine C.jn (fun (x137 : Bool) => [(0, .o 0), (1, .i a), (2, .i m), (3, .i b), (4, .fn (.func 29) [] [.rp [.sl 3 eApiJob cmp_c0]]), (18, .i (IntKind.wrap .i64 (shrI .u64 (IntKind.wrap .u64 (w64 (a + b))) 1))), (20, .i x113), (24, .i (w64 ((w64 ((IntKind.wrap .i64 (shrI .u64 (IntKind.wrap .u64 (w64 (a + b))) 1)) + m)) - x113))), (185, .b x137)]) (fun x137 => [(0, .val (.os 1 eI data))]) 1 g (fun x137 g => ?_) fun J138 g j138 => ?_
     ·refine C.nx ?_
      refine C.jn (fun (x140 : List Int) => [(0, .o 0), (1, .i a), (3, .i b), (4, .fn (.func 29) [] [.rp [.sl 3 eApiJob cmp_c0]]), (18, .i (IntKind.wrap .i64 (shrI .u64 (IntKind.wrap .u64 (w64 (a + b))) 1))), (20, .i x113), (24, .i (w64 ((w64 ((IntKind.wrap .i64 (shrI .u64 (IntKind.wrap .u64 (w64 (a + b))) 1)) + m)) - x113)))]) (fun x140 => [(0, .val (.os 1 eI x140))]) 1 g (fun x140 g => ?_) fun J141 g j141 => ?_
      ·refine C.xs (C.seq ?_)
       refine C.jn (fun (x146 : Bool) => [(0, .o 0), (1, .i a), (3, .i b), (4, .fn (.func 29) [] [.rp [.sl 3 eApiJob cmp_c0]]), (18, .i (IntKind.wrap .i64 (shrI .u64 (IntKind.wrap .u64 (w64 (a + b))) 1))), (20, .i x113), (24, .i (w64 ((w64 ((IntKind.wrap .i64 (shrI .u64 (IntKind.wrap .u64 (w64 (a + b))) 1)) + m)) - x113))), (199, .b x146)]) (fun x146 => [(0, .val (.os 1 eI x140))]) 1 g (fun x146 g => ?_) fun J147 g j147 => ?_
       ·refine C.nx ?_
        refine C.jn (fun (x149 : List Int) => [(0, .o 0), (3, .i b), (4, .fn (.func 29) [] [.rp [.sl 3 eApiJob cmp_c0]]), (18, .i (IntKind.wrap .i64 (shrI .u64 (IntKind.wrap .u64 (w64 (a + b))) 1))), (24, .i (w64 ((w64 ((IntKind.wrap .i64 (shrI .u64 (IntKind.wrap .u64 (w64 (a + b))) 1)) + m)) - x113)))]) (fun x149 => [(0, .val (.os 1 eI x149))]) 1 g (fun x149 g => ?_) fun J150 g j150 => ?_
        ·refine C.xs ?_
         refine C.jn (fun (x155 : Bool) => [(0, .o 0), (3, .i b), (4, .fn (.func 29) [] [.rp [.sl 3 eApiJob cmp_c0]]), (18, .i (IntKind.wrap .i64 (shrI .u64 (IntKind.wrap .u64 (w64 (a + b))) 1))), (24, .i (w64 ((w64 ((IntKind.wrap .i64 (shrI .u64 (IntKind.wrap .u64 (w64 (a + b))) 1)) + m)) - x113))), (213, .b x155)]) (fun x155 => [(0, .val (.os 1 eI x149))]) 1 g (fun x155 g => ?_) fun J156 g j156 => ?_
         ·refine C.nx ?_
          refine C.jn (fun (x158 : List Int) => []) (fun x158 => [(0, .val (.os 1 eI x158))]) 1 g (fun x158 g => ?_) fun J159 g j159 => ?_
          ·exact C.fg [some 0] T o ⟨x158, g, rfl, rfl, rfl⟩
          ·refine C.ite rfl g (fun b160 g => ?_) (fun b160 g => ?_)
           ·refine U.start ?_
            refine U.ps 5 T rfl (U.c [some 0] (U_slices_symMergeCmpFunc_int__o0_batch_Due_1 (IntKind.wrap .i64 (shrI .u64 (IntKind.wrap .u64 (w64 (a + b))) 1)) (w64 ((w64 ((IntKind.wrap .i64 (shrI .u64 (IntKind.wrap .u64 (w64 (a + b))) 1)) + m)) - x113)) b cmp_c0 x149 _ g) en57 (fun x163 g => ?_))
            refine U.done ?_
            exact St.wk (j159 _ g) (Wk.mk' [some 0] rfl rfl trivial ⟨vL, trivial⟩ rfl)
           ·refine C.skip ?_
            exact St.wk (j159 _ g) (Wk.mk' [some 0] rfl rfl trivial ⟨vL, trivial⟩ rfl)
         ·refine U.start ?_
          refine U.ps 4 T rfl ?_
          refine g.cs (fun b157 g => ?_) fun b157 g => ?_
          ·refine U.pq 3 3 true 209 b157 T ?_
           refine U.pk b157 ?_
           refine U.done ?_
           exact St.wa [some 0] (j156 _ g)
          ·refine U.sk' 3 3 true 209 b157 ?_
           refine U.pk' b157 ?_
           refine U.done ?_
           exact St.wa [some 0] (j156 _ g)
        ·refine C.ite rfl g (fun b151 g => ?_) (fun b151 g => ?_)
         ·refine U.start ?_
          refine U.ps 5 T rfl (U.c [some 0] (U_slices_symMergeCmpFunc_int__o0_batch_Due_1 a x113 (IntKind.wrap .i64 (shrI .u64 (IntKind.wrap .u64 (w64 (a + b))) 1)) cmp_c0 x140 _ g) en57 (fun x154 g => ?_))
          refine U.done ?_
          exact St.wa [some 0] (j150 _ g)
         ·refine C.skip ?_
          exact St.wa [some 0] (j150 _ g)
       ·refine U.start ?_
        refine U.ps 4 T rfl ?_
        refine g.cs (fun b148 g => ?_) fun b148 g => ?_
        ·refine U.pq 3 3 true 195 b148 T ?_
         refine U.pk b148 ?_
         refine U.done ?_
         exact St.wa [some 0] (j147 _ g)
        ·refine U.sk' 3 3 true 195 b148 ?_
         refine U.pk' b148 ?_
         refine U.done ?_
         exact St.wa [some 0] (j147 _ g)
      ·refine C.ite rfl g (fun b142 g => ?_) (fun b142 g => ?_)
       ·refine U.start ?_
        refine U.ps 5 T rfl (U.c [some 0] (T_slices_rotateCmpFunc_int__o0_batch_Due_1 x113 m (w64 ((w64 ((IntKind.wrap .i64 (shrI .u64 (IntKind.wrap .u64 (w64 (a + b))) 1)) + m)) - x113)) cmp_c0 data _ g) en79 (fun x145 g => ?_))
        refine U.done ?_
        exact St.wa [some 0] (j141 _ g)
       ·refine C.skip ?_
        exact St.wa [some 0] (j141 _ g)
     ·refine U.start ?_
      refine U.ps 4 T rfl ?_
      refine g.cs (fun b139 g => ?_) fun b139 g => ?_
      ·refine U.pq 3 3 true 181 b139 T ?_
       refine U.pk b139 ?_
       refine U.done ?_
       exact St.wa [some 0] (j138 _ g)
      ·refine U.sk' 3 3 true 181 b139 ?_
       refine U.pk' b139 ?_
       refine U.done ?_
       exact St.wa [some 0] (j138 _ g)
    ·refine C.block ?_
     refine St.wk (C.loop (fun (s115 : Int × Int) => [(0, .o 0), (1, .i a), (2, .i m), (3, .i b), (4, .fn (.func 29) [] [.rp [.sl 3 eApiJob cmp_c0]]), (18, .i (IntKind.wrap .i64 (shrI .u64 (IntKind.wrap .u64 (w64 (a + b))) 1))), (19, .i (w64 ((IntKind.wrap .i64 (shrI .u64 (IntKind.wrap .u64 (w64 (a + b))) 1)) + m))), (20, .i s115.1), (21, .i s115.2), (22, .i (w64 ((w64 ((IntKind.wrap .i64 (shrI .u64 (IntKind.wrap .u64 (w64 (a + b))) 1)) + m)) - 1)))]) (fun s115 => [(0, .val (.os 1 eI data))]) g (fun s115 Y116 g => ?_)) (Wk.a [some 0])
     refine C.seq (C.ss (U.pd 3 T (C.nx ?_)))
     refine C.ite rfl g (fun b119 g => ?_) fun b119 g => ?_
     ·refine C.skip (C.nx (C.block (C.ss ?_)))
      refine U.ps 4 T rfl (U.r rfl (.none rfl) rfl rfl (by exact Rd.sh rfl rfl rfl rfl (by decide)) ?_)
      refine U.pd 2 T (C.xs ?_)
      refine D.bg mix 9999 [0] [] (fun hQ hS ws M' => ?_)
      refine D.pq 5 (zl [0, 1, 2, 3, 4]) T ?_
      obtain ⟨x125, y125, g⟩ := g
      refine D.q 5 [] hQ hS rfl (.none rfl) rfl rfl (by exact Rd.io T rfl rfl rfl rfl rfl rfl rfl y125) rfl (by kernel_rfl) ?_
      refine D.q 6 [] hQ hS rfl (.none rfl) rfl rfl (by exact Rd.le T rfl rfl rfl (idx_some y125).2.2 rfl rfl rfl) rfl (by kernel_rfl) ?_
      refine D.pq 2 (zl [7, 8]) T ?_
      obtain ⟨x126, y126, g⟩ := g
      refine D.q 9 [] hQ hS rfl (.none rfl) rfl rfl (by exact Rd.io T rfl rfl rfl rfl rfl rfl rfl y126) rfl (by kernel_rfl) ?_
      refine D.q 10 [] hQ hS rfl (.none rfl) rfl rfl (by exact Rd.le T rfl rfl rfl (idx_some y126).2.2 rfl rfl rfl) rfl (by kernel_rfl) ?_
      refine D.k 11 (T_batch_Due_1 x125 x126 cmp_c0 _ g) en29 fun x127 g => ?_
      refine D.pq 2 (zl [12, 13]) T ?_
      refine D.done (by kernel_rfl) ?_
      refine C.nx ?_
      refine C.jn (fun (x128 : Int × Int) => [(0, .o 0), (1, .i a), (2, .i m), (3, .i b), (4, .fn (.func 29) [] [.rp [.sl 3 eApiJob cmp_c0]]), (18, .i (IntKind.wrap .i64 (shrI .u64 (IntKind.wrap .u64 (w64 (a + b))) 1))), (19, .i (w64 ((IntKind.wrap .i64 (shrI .u64 (IntKind.wrap .u64 (w64 (a + b))) 1)) + m))), (20, .i x128.1), (21, .i x128.2), (22, .i (w64 ((w64 ((IntKind.wrap .i64 (shrI .u64 (IntKind.wrap .u64 (w64 (a + b))) 1)) + m)) - 1)))]) (fun x128 => [(0, .val (.os 1 eI data))]) 1 g (fun x128 g => ?_) fun J129 g j129 => ?_
      ·refine C.bnx (C.nx ?_)
       exact St.wk (C.next g) (Wk.a [some 0])
      ·refine C.ite rfl g (fun b130 g => ?_) (fun b130 g => ?_)
       ·refine U.start ?_
        refine U.pd 3 T ?_
        exact St.wa [some 0] (j129 _ g)
       ·refine U.start ?_
        refine U.pd 2 T ?_
        exact St.wa [some 0] (j129 _ g)
     ·refine C.exit (C.ex (C.ex (C.bex ?_)))
      exact St.wa [some 0] (j114 _ g)
   ·refine C.ite rfl g (fun b102 g => ?_) (fun b102 g => ?_)
    ·refine C.ss ?_
     refine U.pd 4 T (C.nx (U.start ?_))
     refine U.pd 2 T ?_
     exact St.wa [some 0] (j101 _ g)
    ·refine C.ss ?_
     refine U.pd 2 T (C.nx (U.start ?_))
     refine U.pd 2 T ?_
     exact St.wa [some 0] (j101 _ g)
theorem T_slices_stableCmpFunc_int__o0_batch_Due_1 (n : Int) (cmp_c0 : List ApiJob) (data : List Int) (post : (List Int) → Prop) (g : V_slices_stableCmpFunc_int__o0_batch_Due_1 n cmp_c0 data post) :
    Tr Try.prog 46 [.o 0, .i n, .fn (.func 29) [] [.rp [.sl 3 eApiJob cmp_c0]]] [(0, .val (.os 1 eI data))] 1 (fun A H' k => ∃ y, post y ∧ A = (.tup []) ∧ H' = [(0, .val (.os 1 eI y))] ∧ k = 1) := by
 refine Tr.go Try.func46 Try.ntmps46 fun _ _ _ _ o => ?_
 unfold V_slices_stableCmpFunc_int__o0_batch_Due_1 at g
 refine C.ss (U.pd 1 T (C.xt ?_))
 refine U.pd 3 T (C.xs ?_)
 refine C.jn (fun (x5 : List Int × Int) => [(0, .o 0), (1, .i n), (2, .fn (.func 29) [] [.rp [.sl 3 eApiJob cmp_c0]]), (6, .i 20), (7, .i x5.2)]) (fun x5 => [(0, .val (.os 1 eI x5.1))]) 1 g (fun x5 g => ?_) fun J6 g j6 => ?_
 refine C.xt (U.ps 4 T rfl (U.c [some 0] (T_slices_insertionSortCmpFunc_int__o0_batch_Due_1 x5.2 n cmp_c0 x5.1 _ g) en56 (fun x21 g => ?_)))
 refine U.done (C.nx ?_)
 refine C.jn (fun (x22 : List Int) => []) (fun x22 => [(0, .val (.os 1 eI x22))]) 1 g (fun x22 g => ?_) fun J23 g j23 => ?_
 exact C.fg [some 0] T o ⟨x22, g, rfl, rfl, rfl⟩
 refine C.block (St.wk (C.loop (fun (s24 : List Int × Int) => [(0, .o 0), (1, .i n), (2, .fn (.func 29) [] [.rp [.sl 3 eApiJob cmp_c0]]), (6, .i s24.2)]) (fun s24 => [(0, .val (.os 1 eI s24.1))]) g (fun s24 Y25 g => ?_)) (Wk.a [some 0]))
 refine C.seq (C.ss (U.pd 3 T (C.nx ?_)))
 refine C.ite rfl g (fun b28 g => ?_) fun b28 g => ?_
 refine C.skip (C.nx ?_)
 refine C.jn (fun (x29 : List Int) => [(0, .o 0), (1, .i n), (2, .fn (.func 29) [] [.rp [.sl 3 eApiJob cmp_c0]]), (6, .i (w64 (s24.2 * 2)))]) (fun x29 => [(0, .val (.os 1 eI x29))]) 1 g (fun x29 g => ?_) fun J30 g j30 => ?_
 refine C.nx ?_
 exact St.wk (C.next g) (Wk.a [some 0])
 refine C.block (C.ss (U.pd 4 T (C.xs ?_)))
 refine C.jn (fun (x33 : List Int × Int) => [(0, .o 0), (1, .i n), (2, .fn (.func 29) [] [.rp [.sl 3 eApiJob cmp_c0]]), (6, .i s24.2), (7, .i x33.2)]) (fun x33 => [(0, .val (.os 1 eI x33.1))]) 1 g (fun x33 g => ?_) fun J34 g j34 => ?_
 refine C.xs (C.ss (U.pd 4 T (C.xt ?_)))
 refine U.pd 3 T (C.nx ?_)
 refine C.jn (fun (x51 : List Int) => [(0, .o 0), (1, .i n), (2, .fn (.func 29) [] [.rp [.sl 3 eApiJob cmp_c0]]), (6, .i s24.2)]) (fun x51 => [(0, .val (.os 1 eI x51))]) 1 g (fun x51 g => ?_) fun J52 g j52 => ?_
 refine C.nx (U.start (U.pd 3 T (C.bnx ?_)))
 exact St.wa [some 0] (j30 _ g)
 refine C.ite rfl g (fun b53 g => ?_) fun b53 g => ?_
 refine U.start (U.ps 5 T rfl (U.c [some 0] (T_slices_symMergeCmpFunc_int__o0_batch_Due_1 x33.2 (w64 (x33.2 + s24.2)) n cmp_c0 x33.1 _ g) en57 (fun x56 g => ?_)))
 refine U.done ?_
 exact St.wa [some 0] (j52 _ g)
 refine C.skip ?_
 exact St.wa [some 0] (j52 _ g)
 refine C.block (St.wk (C.loop (fun (s35 : List Int × Int × Int) => [(0, .o 0), (1, .i n), (2, .fn (.func 29) [] [.rp [.sl 3 eApiJob cmp_c0]]), (6, .i s24.2), (7, .i s35.2.1), (8, .i s35.2.2)]) (fun s35 => [(0, .val (.os 1 eI s35.1))]) g (fun s35 Y36 g => ?_)) (Wk.a [some 0]))
 refine C.seq (C.ss (U.pd 3 T (C.nx ?_)))
 refine C.ite rfl g (fun b39 g => ?_) fun b39 g => ?_
 refine C.skip (C.nx (C.block (C.ss (U.ps 7 T rfl (U.c [some 0] (T_slices_symMergeCmpFunc_int__o0_batch_Due_1 s35.2.1 (w64 (s35.2.1 + s24.2)) s35.2.2 cmp_c0 s35.1 _ g) en57 (fun x42 g => ?_))))))
 refine U.done (C.xt (U.pd 2 T (C.nx (U.start ?_))))
 refine U.pd 5 T (C.bnx (C.nx ?_))
 exact St.wk (C.next g) (Wk.a [some 0])
 refine C.exit (C.ex (C.ex (C.bex ?_)))
 exact St.wa [some 0] (j34 _ g)
 refine C.exit (C.ex (C.ex (C.bex ?_)))
 exact St.wk (j23 _ g) (Wk.mk' [some 0] rfl rfl trivial ⟨vL, trivial⟩ rfl)
 refine C.block (St.wk (C.loop (fun (s7 : List Int × Int × Int) => [(0, .o 0), (1, .i n), (2, .fn (.func 29) [] [.rp [.sl 3 eApiJob cmp_c0]]), (6, .i 20), (7, .i s7.2.1), (8, .i s7.2.2)]) (fun s7 => [(0, .val (.os 1 eI s7.1))]) g (fun s7 Y8 g => ?_)) (Wk.a [some 0]))
 refine C.seq (C.ss (U.pd 3 T (C.nx ?_)))
 refine C.ite rfl g (fun b11 g => ?_) fun b11 g => ?_
 refine C.skip (C.nx (C.block (C.ss (U.ps 4 T rfl (U.c [some 0] (T_slices_insertionSortCmpFunc_int__o0_batch_Due_1 s7.2.1 s7.2.2 cmp_c0 s7.1 _ g) en56 (fun x14 g => ?_))))))
 refine U.done (C.xt (U.pd 2 T (C.nx (U.start ?_))))
 refine U.pd 4 T (C.bnx (C.nx ?_))
 exact St.wk (C.next g) (Wk.a [some 0])
 refine C.exit (C.ex (C.ex (C.bex ?_)))
 exact St.wa [some 0] (j6 _ g)
theorem T_slices_SortStableFunc_int_int__o0_batch_Due_1 (cmp_c0 : List ApiJob) (x_1 : List Int) (post : (List Int) → Prop) (g : V_slices_SortStableFunc_int_int__o0_batch_Due_1 cmp_c0 x_1 post) :
    Tr Try.prog 28 [.o 0, .fn (.func 29) [] [.rp [.sl 3 eApiJob cmp_c0]]] [(0, .val (.os 1 eI x_1))] 1 (fun A H' k => ∃ y, post y ∧ A = (.tup []) ∧ H' = [(0, .val (.os 1 eI y))] ∧ k = 1) := by
 refine Tr.go Try.func28 Try.ntmps28 fun _ _ _ _ o => ?_
 unfold V_slices_SortStableFunc_int_int__o0_batch_Due_1 at g
 refine U.start (U.ps 4 T rfl (U.c [some 0] (T_slices_stableCmpFunc_int__o0_batch_Due_1 (x_1.length : Int) cmp_c0 x_1 _ g) en46 (fun x3 g => ?_)))
 refine U.done ?_
 exact C.fg [some 0] T o ⟨x3, g, rfl, rfl, rfl⟩
theorem T_batch_Due (l : List ApiJob) (post : (List Int) → Prop) (g : V_batch_Due l post) :
    Tr Try.prog 10 [.sl 3 eApiJob l] [] 0 (fun A H' k => ∃ y, post y ∧ A = (.o 0) ∧ H' = [(0, .val (.os 1 eI y))] ∧ k = 1) := by
 refine Tr.go Try.func10 Try.ntmps10 fun _ _ _ _ o => ?_
 unfold V_batch_Due at g
 refine C.ss (U.bx ?_)
 refine U.pd 1 T (C.xt ?_)
 refine U.pd 1 T (C.xs (C.ss ?_))
 refine U.pd 3 T (C.nx ?_)
 refine C.jn (fun (x7 : List Int) => [(1, .p 0 0), (3, .o 1)]) (fun x7 => [(0, .box [.sl 3 eApiJob l]), (1, .val (.os 1 eI x7))]) 2 g (fun x7 g => ?_) fun J8 g j8 => ?_
 refine C.xt (U.ps 2 T rfl ?_)
 refine U.e rfl (.none rfl) (by exact Eff.c [some 1] (v := true) (T_slices_SortStableFunc_int_int__o0_batch_Due_1 l x7 _ g) en28 rfl rfl rfl (.cons (.eq rfl) (.cons (.fn (.eq rfl) (.cons (.fzp rfl rfl rfl rfl (.eq rfl) rfl) .nil)) .nil)) ⟨vL, trivial⟩ rfl rfl rfl rfl rfl rfl (fun _ _ => ⟨(.tup .nil), ⟨.val (.os _ _ _ fun _ => (.cons (.v _) .nil)), trivial⟩⟩) (.inl rfl) (fun _ => rfl) (fun _ => rfl) rfl) (fun x23' g => ?_)
 obtain ⟨x23⟩ := x23'
 refine U.done (C.xt (U.pd 2 T (C.nx (C.ret ?_))))
 exact C.g1 [some 1] T o ⟨x23, g, rfl, rfl, rfl⟩
 refine C.block (St.wk (C.loop (fun (s9 : List Int × Int) => [(1, .p 0 0), (3, .o 1), (6, .i (l.length : Int)), (7, .i s9.2)]) (fun s9 => [(0, .box [.sl 3 eApiJob l]), (1, .val (.os 1 eI s9.1))]) g (fun s9 Y10 g => ?_)) (Wk.mk' [some 0, none] rfl rfl ⟨⟨_, rfl, (.eq rfl)⟩, ⟨_, rfl, (.nilO _ _ ⟨rfl, rfl⟩ rfl)⟩, ChkG.eqs rfl⟩ ⟨bX, ⟨_, rfl, .nil _ _⟩, trivial⟩ rfl))
 refine C.ss (U.pd 1 T (C.xs ?_))
 refine C.ite rfl g (fun b13 g => ?_) fun b13 g => ?_
 refine C.skip (C.xs (C.block (C.ss (U.pd 2 T (C.nx (U.start ?_))))))
 refine U.ps 2 T rfl (U.bs T eI ([s9.2] : List Int) ?_)
 obtain ⟨y18, g⟩ := g
 refine U.ap T y18 ?_
 refine U.pd 1 T (C.bnx (C.nx (U.start ?_)))
 refine U.pd 2 T (C.nx ?_)
 exact St.wk (C.next g) (Wk.a [some 0, some 3])
 refine C.exit (C.ex (C.ex (C.bex ?_)))
 exact St.wa (idR 2) (j8 _ g)
theorem T_cmp_Or_int (vals : List Int) (post : Int → Prop) (g : V_cmp_Or_int vals post) :
    Tr Try.prog 35 [.sl 1 eI vals] [] 0 (pI post) := by
 refine Tr.go Try.func35 Try.ntmps35 fun _ _ _ _ o => ?_
 unfold V_cmp_Or_int at g
 refine C.ss (U.pd 1 T (C.xt ?_))
 refine U.pd 1 T (C.xs (C.ss ?_))
 refine U.pd 3 T (C.nx ?_)
 refine C.jn (fun (x7 : Unit) => [(3, .i 0)]) (fun x7 => []) 0 g (fun x7 g => ?_) fun J8 g j8 => ?_
 refine C.xt (U.pd 2 T (C.nx (C.ret ?_)))
 exact C.f1 T o (pIi g)
 refine C.block (St.wk (C.loop (fun (s9 : Int) => [(3, .i 0), (6, .sl 1 eI vals), (7, .i (vals.length : Int)), (8, .i s9)]) (fun s9 => []) g (fun s9 Y10 g => ?_)) (Wk.e))
 refine C.ss (U.pd 1 T (C.xs ?_))
 refine C.ite rfl g (fun b13 g => ?_) fun b13 g => ?_
 refine C.skip (C.xs (C.block (C.ss ?_)))
 obtain ⟨x16, y16, g⟩ := g
 refine U.ix T y16 ?_
 refine U.pd 2 T (C.xt ?_)
 refine U.pd 3 T (C.nx ?_)
 refine C.ite rfl g (fun b19 g => ?_) fun b19 g => ?_
 refine C.ss (U.pd 2 T (C.nx (C.ret (C.brt (C.rt (C.rt (C.brt (C.rt ?_))))))))
 exact C.f1 T o (pIi g)
 refine C.skip (C.bnx (C.nx (U.start (U.pd 2 T (C.nx ?_)))))
 exact St.wk (C.next g) (Wk.e)
 refine C.exit (C.ex (C.ex (C.bex ?_)))
 exact St.wn (j8 _ g)
theorem T_batch_Batches_1 (a : List Int) (b : List Int) (c0 : List ApiJob) (post : Int → Prop) (g : V_batch_Batches_1 a b c0 post) :
    Tr Try.prog 41 [.sl 1 eI a, .sl 1 eI b, .rp [.sl 3 eApiJob c0]] [] 0 (pI post) := by
 refine Tr.go Try.func41 Try.ntmps41 fun _ _ _ _ o => ?_
 unfold V_batch_Batches_1 at g
 refine C.ss (U.pd 1 T (C.xs ?_))
 refine D.bg mix 9999 [] [] (fun hQ hS ws M' => ?_)
 refine D.pq 2 (zl [0, 1]) T ?_
 obtain ⟨x5, y5, g⟩ := g
 refine D.ix 2 [] T y5 ?_
 refine D.pq 1 [(3, [])] T ?_
 obtain ⟨x6, y6, g⟩ := g
 refine D.ix 4 [] T y6 ?_
 refine D.pq 4 (zl [5, 6, 7, 8]) T ?_
 obtain ⟨x7, y7, g⟩ := g
 refine D.ix 9 [] T y7 ?_
 refine D.pq 1 [(10, [])] T ?_
 obtain ⟨x8, y8, g⟩ := g
 refine D.ix 11 [] T y8 ?_
 refine D.pq 4 (zl [12, 13, 15, 16]) T ?_
 refine D.ix 17 [] T y5 ?_
 refine D.pq 1 [(18, [])] T ?_
 refine D.ix 19 [] T y6 ?_
 refine D.pq 4 (zl [20, 21, 22, 23]) T ?_
 refine D.ix 24 [] T y7 ?_
 refine D.pq 1 [(25, [])] T ?_
 refine D.ix 26 [] T y8 ?_
 refine D.pq 2 (zl [27, 28]) T ?_
 refine D.k 14 (T_cmp_Compare_int x6.Due x8.Due _ g) en30 fun x9 g => ?_
 refine D.k 29 (T_cmp_Compare_int x6.Shelf x8.Shelf _ g) en30 fun x10 g => ?_
 refine D.e1 30 rfl (.none rfl) (by exact Eff1.bs T (enc := eI) (xs := ([x9, x10] : List Int)) rfl rfl rfl rfl rfl rfl rfl rfl rfl rfl (fun _ _ => rfl) rfl rfl) (by kernel_rfl) rfl rfl ?_
 refine D.k 31 (T_cmp_Or_int ([x9, x10] : List Int) _ g) en35 fun x11 g => ?_
 refine D.pq 1 [(32, [])] T ?_
 refine D.done (by kernel_rfl) ?_
 refine C.nx (C.ret ?_)
 exact C.f1 T o (pIi g)
def slR40 : Go.Shelf.Ren := ⟨fun | 6 => 40 | 14 => 54 | 15 => 53 | 20 => 71 | 21 => 72 | 22 => 73 | 23 => 74 | 24 => 75 | 25 => 76 | 26 => 77 | 27 => 78 | 28 => 69 | 29 => 70 | 46 => 86 | 47 => 82 | 48 => 83 | 49 => 87 | 50 => 88 | 57 => 91 | n => n, fun | 0 => 0 | 3 => 3 | 4 => 4 | 5 => 5 | 9 => 9 | 22 => 35 | 24 => 23 | 25 => 56 | 39 => 63 | 45 => 73 | 46 => 74 | 50 => 48 | 53 => 81 | 55 => 83 | 66 => 89 | 70 => 93 | 76 => 97 | 77 => 98 | n => n, fun n => n⟩
theorem slL40 : SlLaysF.n6 Try.prog slR40 where
  mixed := by kernel_rfl
  f6 := ⟨Try.f40.name, by decide, Try.func40.trans (congrArg some (by kernel_rfl))⟩
  f14 := ⟨Try.f54.name, by decide, Try.func54.trans (congrArg some (by kernel_rfl))⟩
  f15 := Try.func53.trans (congrArg some (by kernel_rfl))
  f20 := ⟨Try.f71.name, by decide, Try.func71.trans (congrArg some (by kernel_rfl))⟩
  f21 := ⟨Try.f72.name, by decide, Try.func72.trans (congrArg some (by kernel_rfl))⟩
  f22 := ⟨Try.f73.name, by decide, Try.func73.trans (congrArg some (by kernel_rfl))⟩
  f23 := ⟨Try.f74.name, by decide, Try.func74.trans (congrArg some (by kernel_rfl))⟩
  f24 := ⟨Try.f75.name, by decide, Try.func75.trans (congrArg some (by kernel_rfl))⟩
  f25 := ⟨Try.f76.name, by decide, Try.func76.trans (congrArg some (by kernel_rfl))⟩
  f26 := ⟨Try.f77.name, by decide, Try.func77.trans (congrArg some (by kernel_rfl))⟩
  f27 := ⟨Try.f78.name, by decide, Try.func78.trans (congrArg some (by kernel_rfl))⟩
  f28 := Try.func69.trans (congrArg some (by kernel_rfl))
  f29 := Try.func70.trans (congrArg some (by kernel_rfl))
  f46 := ⟨Try.f86.name, by decide, Try.func86.trans (congrArg some (by kernel_rfl))⟩
  f47 := Try.func82.trans (congrArg some (by kernel_rfl))
  f48 := Try.func83.trans (congrArg some (by kernel_rfl))
  f49 := ⟨Try.f87.name, by decide, Try.func87.trans (congrArg some (by kernel_rfl))⟩
  f50 := ⟨Try.f88.name, by decide, Try.func88.trans (congrArg some (by kernel_rfl))⟩
  f57 := ⟨Try.f91.name, by decide, Try.func91.trans (congrArg some (by kernel_rfl))⟩
  a24 := Try.isAgg23
  z24 := Try.sizeOf23
  t0 := Try.underlying0
  a0 := Try.isAgg0
  z0 := Try.sizeOf0
  v0 := Try.zeroValue0
  t3 := Try.underlying3
  a3 := Try.isAgg3
  z3 := Try.sizeOf3
  v3 := Try.zeroValue3
  t4 := Try.underlying4
  a4 := Try.isAgg4
  z4 := Try.sizeOf4
  v4 := Try.zeroValue4
  t5 := Try.underlying5
  a5 := Try.isAgg5
  z5 := Try.sizeOf5
  v5 := Try.zeroValue5
  t9 := Try.underlying9
  a9 := Try.isAgg9
  z9 := Try.sizeOf9
  v9 := Try.zeroValue9
  t22 := Try.underlying35
  a22 := Try.isAgg35
  z22 := Try.sizeOf35
  v22 := Try.zeroValue35
  t25 := Try.underlying56
  a25 := Try.isAgg56
  z25 := Try.sizeOf56
  v25 := Try.zeroValue56
  t39 := Try.underlying63
  a39 := Try.isAgg63
  z39 := Try.sizeOf63
  v39 := Try.zeroValue63
  t45 := Try.underlying73
  a45 := Try.isAgg73
  z45 := Try.sizeOf73
  v45 := Try.zeroValue73
  t46 := Try.underlying74
  a46 := Try.isAgg74
  z46 := Try.sizeOf74
  v46 := Try.zeroValue74
  t50 := Try.underlying48
  a50 := Try.isAgg48
  z50 := Try.sizeOf48
  v50 := Try.zeroValue48
  t53 := Try.underlying81
  a53 := Try.isAgg81
  z53 := Try.sizeOf81
  v53 := Try.zeroValue81
  t55 := Try.underlying83
  a55 := Try.isAgg83
  z55 := Try.sizeOf83
  v55 := Try.zeroValue83
  t66 := Try.underlying89
  a66 := Try.isAgg89
  z66 := Try.sizeOf89
  v66 := Try.zeroValue89
  t70 := Try.underlying93
  a70 := Try.isAgg93
  z70 := Try.sizeOf93
  v70 := Try.zeroValue93
  t76 := Try.underlying97
  a76 := Try.isAgg97
  z76 := Try.sizeOf97
  v76 := Try.zeroValue97
  t77 := Try.underlying98
  a77 := Try.isAgg98
  z77 := Try.sizeOf98
  v77 := Try.zeroValue98
theorem T_slices_SortFunc_int_int__o0_batch_Batches_1 (p1_c0 : List ApiJob) (p0 : List (List Int)) (post : List (List Int) → Prop) (g : V_slices_SortFunc_int_int__o0_batch_Batches_1 p1_c0 p0 post) :
    Tr Try.prog 40 [.o 0, .fn (.func 41) [] [.rp [.sl 3 eApiJob p1_c0]]] [(0, .val (.os 1 eOeI p0))] 1 (fun A H' k => ∃ y, post y ∧ A = (.tup []) ∧ H' = [(0, .val (.os 1 eOeI y))] ∧ k = 1) := by
 unfold V_slices_SortFunc_int_int__o0_batch_Batches_1 at g
 obtain ⟨p, cf, hO, hp, hcmp, hsz, hpost⟩ := g
 exact Tr.sortRows slL40 (enc' := eLeI) (rd := fun x => .sl 1 eI x) (fun _ => rfl) (fun _ => rfl) (fun _ => .cons (.os fun _ => .cons (.ro rfl) .nil) .nil) (fun _ _ _ _ _ A _ hA h => by simp only [eOeI, List.mem_singleton] at hA; subst hA; exact h.os_one) en41 (caps := [.rp [.sl 3 eApiJob p1_c0]]) (fun A hA => by simp only [List.mem_cons, List.not_mem_nil, or_false] at hA; rcases hA with rfl; rfl) hO p0 hp (fun x y hx hy => T_batch_Batches_1 x y p1_c0 _ (hcmp x y hx hy)) hsz hpost
theorem T_batch_Batches (l : List ApiJob) (post : (List (List Int)) → Prop) (g : V_batch_Batches l post) :
    Tr Try.prog 15 [.sl 3 eApiJob l] [] 0 (fun A H' k => ∃ y, post y ∧ A = (.o 0) ∧ H' = [(0, .val (.os 1 eOeI y))] ∧ k = 1) := by
 refine Tr.go Try.func15 Try.ntmps15 fun _ _ _ _ o => ?_
 unfold V_batch_Batches at g
 refine C.ss (U.bx ?_)
 refine U.pd 1 T (C.xt ?_)
 refine U.e1 rfl (.none rfl) (by exact Eff1.mm kI veI rfl rfl rfl) ?_
 refine U.pd 1 T (C.xt ?_)
 refine U.pd 1 T (C.xs (C.ss ?_))
 refine U.ps 1 T rfl (U.k (T_batch_Due l _ g) en10 (fun x9 g => ?_))
 refine U.pd 2 T (C.nx ?_)
 refine C.jn (fun (x10 : List (List Int)) => [(1, .p 0 0), (4, .o 1)]) (fun x10 => [(0, .box [.sl 3 eApiJob l]), (1, .val (.os 1 eOeI x10))]) 2 g (fun x10 g => ?_) fun J11 g j11 => ?_
 refine C.xt (U.ps 2 T rfl ?_)
 refine U.e rfl (.none rfl) (by exact Eff.c [some 1] (v := true) (T_slices_SortFunc_int_int__o0_batch_Batches_1 l x10 _ g) en40 rfl rfl rfl (.cons (.eq rfl) (.cons (.fn (.eq rfl) (.cons (.fzp rfl rfl rfl rfl (.eq rfl) rfl) .nil)) .nil)) ⟨vL, trivial⟩ rfl rfl rfl rfl rfl rfl (fun _ _ => ⟨(.tup .nil), ⟨.val (.os _ _ _ fun _ => .cons (.os _ _ _ fun _ => (.cons (.v _) .nil)) .nil), trivial⟩⟩) (.inl rfl) (fun _ => rfl) (fun _ => rfl) rfl) (fun x43' g => ?_)
 obtain ⟨x43⟩ := x43'
 refine U.done (C.xt (U.pd 2 T (C.nx (C.ret ?_))))
 exact C.g1 [some 1] T o ⟨x43, g, rfl, rfl, rfl⟩
 refine C.block ?_
 refine St.wk (C.loop (fun (s12 : List (Int × Int) × List (List Int) × Int) => [(1, .p 0 0), (3, .o 1), (4, .o 2), (11, .o 3), (12, .i (x9.length : Int)), (13, .i s12.2.2)]) (fun s12 => [(0, .box [.sl 3 eApiJob l]), (1, .val (.om kI veI s12.1)), (2, .val (.os 1 eOeI s12.2.1)), (3, .val (.os 1 eI x9))]) g (fun s12 Y13 g => ?_)) (Wk.mk' [some 0, some 1, none, some 2] rfl rfl ⟨⟨_, rfl, (.eq rfl)⟩, ⟨_, rfl, (.eq rfl)⟩, ⟨_, rfl, (.nilO _ _ ⟨rfl, rfl⟩ rfl)⟩, ChkG.eqs rfl⟩ ⟨bX, vL, ⟨_, rfl, .nil _ _⟩, vL, trivial⟩ rfl)
 refine C.ss (U.pd 1 T (C.xs ?_))
 refine C.ite rfl g (fun b16 g => ?_) fun b16 g => ?_
 refine C.skip (C.xs (C.block (C.ss ?_)))
 obtain ⟨x19, y19, g⟩ := g
 refine U.r rfl (.none rfl) rfl rfl (by exact Rd.io T rfl rfl rfl rfl rfl rfl rfl y19) ?_
 refine U.r rfl (.none rfl) rfl rfl (by exact Rd.le T rfl rfl rfl (idx_some y19).2.2 rfl rfl rfl) ?_
 refine U.pd 1 T (C.xt ?_)
 refine U.ps 3 T rfl ?_
 obtain ⟨x22, y22, g⟩ := g
 refine U.ix T y22 ?_
 refine U.ps 2 T rfl (U.r rfl (.none rfl) rfl rfl (by exact Rd.lk2 T (ke := kI) (ve := veI) (xs := s12.1) (z0 := 0) (x := x22.Shelf) rfl rfl kt3 zt3 (fun _ => rfl) rfl (.o rfl) rfl rfl rfl) ?_)
 refine U.pd 5 T (C.xs (C.ss ?_))
 refine U.pd 2 T (C.nx ?_)
 refine C.jn (fun (x25 : List (Int × Int) × List (List Int) × Int) => [(1, .p 0 0), (3, .o 1), (4, .o 2), (6, .i x19), (7, .i x25.2.2), (11, .o 3), (12, .i (x9.length : Int)), (13, .i s12.2.2)]) (fun x25 => [(0, .box [.sl 3 eApiJob l]), (1, .val (.om kI veI x25.1)), (2, .val (.os 1 eOeI x25.2.1)), (3, .val (.os 1 eI x9))]) 4 g (fun x25 g => ?_) fun J26 g j26 => ?_
 refine C.nx (U.start (U.ps 4 T rfl ?_))
 obtain ⟨x37, y37, g⟩ := g
 refine U.r rfl (.none rfl) rfl rfl (by exact Rd.io T rfl rfl rfl rfl rfl rfl rfl y37) ?_
 refine St.lend (l := 2) (i := (Int.toNat x25.2.2)) rfl (idx_some y37).2.2 rfl (fun _ => rfl) ?_
 refine U.r rfl (.none rfl) rfl rfl (by exact Rd.ll T rfl rfl rfl (.head _) rfl rfl rfl rfl) ?_
 refine U.ps 1 T rfl (U.bs T eI ([x19] : List Int) ?_)
 obtain ⟨y38, g⟩ := g
 refine U.ap T y38 ?_
 refine U.r rfl (.none rfl) rfl rfl (by exact Rd.il T rfl rfl rfl rfl rfl rfl rfl y37) ?_
 refine U.e1 rfl (.none rfl) (by exact Eff1.sl T rfl rfl rfl (fun _ h => nomatch h) rfl rfl rfl rfl) ?_
 refine U.done (St.putb (l := 2) (l' := 6) (y := (x37 ++ ([x19] : List Int))) rfl rfl rfl (fun _ h => nomatch h) rfl _ rfl ?_)
 refine C.bnx (C.nx (U.start (U.pd 2 T (C.nx ?_))))
 exact St.wk (C.next g) (Wk.a (idR 4))
 refine C.ite rfl g (fun b27 g => ?_) fun b27 g => ?_
 refine C.ss (U.pd 3 T (C.xt ?_))
 refine U.ps 3 T rfl (U.ix T y22 ?_)
 refine U.ps 3 T rfl (U.e1 rfl (.none rfl) (by exact Eff1.mu T (x := x22.Shelf) (y := (s12.2.1.length : Int)) (.inl rfl) rfl kt3 (fun _ => rfl) rfl rfl rfl rfl rfl (.inl rfl) rfl) ?_)
 refine U.done (C.nx (U.start (U.ps 1 T rfl (U.e1 rfl (.none rfl) (by exact Eff1.bslN T (enc := eOeI) [] 1 eI rfl rfl rfl rfl rfl rfl rfl rfl rfl) ?_))))
 obtain ⟨y34, g⟩ := g
 refine U.e1 rfl (.none rfl) (by exact Eff1.apl T rfl rfl rfl rfl rfl rfl rfl (fun _ => rfl) rfl rfl rfl rfl ⟨_, rfl, rfl⟩ y34) ?_
 refine U.pd 1 T ?_
 refine St.putb (l := 6) (l' := 4) (y := []) rfl rfl rfl (fun _ h => nomatch h) rfl _ rfl ?_
 exact St.wa [some 0, some 1, some 6, some 3] (j26 _ g)
 refine C.skip ?_
 exact St.wa (idR 4) (j26 _ g)
 refine C.exit (C.ex (C.ex (C.bex ?_)))
 exact St.wa [some 0, some 2] (j11 _ g)
theorem T_taquinref07_Same (a : List Int) (b : List Int) (post : Bool → Prop) (g : V_taquinref07_Same a b post) :
    Tr Try.prog 17 [.sl 1 eI a, .sl 1 eI b] [] 0 (pB post) := by
 refine Tr.go Try.func17 Try.ntmps17 fun _ _ _ _ o => ?_
 unfold V_taquinref07_Same at g
 refine C.ss (U.pd 1 T (C.xs (C.ss ?_)))
 refine U.pd 5 T (C.nx ?_)
 refine C.ite rfl g (fun b5 g => ?_) fun b5 g => ?_
 refine C.ss (U.pd 1 T (C.nx (C.ret (C.rt ?_))))
 exact C.f1 T o (pBi g)
 refine C.skip (C.xs (C.ss (U.pd 1 T (C.nx ?_))))
 refine C.jn (fun (x10 : Unit) => []) (fun x10 => []) 0 g (fun x10 g => ?_) fun J11 g j11 => ?_
 refine C.xt (U.pd 1 T (C.nx (C.ret ?_)))
 exact C.f1 T o (pBi g)
 refine C.block (St.wk (C.loop (fun (s12 : Int) => [(0, .sl 1 eI a), (1, .sl 1 eI b), (5, .i s12)]) (fun s12 => []) g (fun s12 Y13 g => ?_)) (Wk.e))
 refine C.seq (C.ss (U.pd 4 T (C.nx ?_)))
 refine C.ite rfl g (fun b16 g => ?_) fun b16 g => ?_
 refine C.skip (C.xs (C.block (C.seq (D.bg mix 9999 [] [] (fun hQ hS ws M' => ?_)))))
 refine D.pq 2 (zl [0, 1]) T ?_
 obtain ⟨x19, y19, g⟩ := g
 refine D.ix 2 [] T y19 ?_
 refine D.pq 3 (zl [3, 4, 5]) T ?_
 obtain ⟨x20, y20, g⟩ := g
 refine D.ix 6 [] T y20 ?_
 refine D.pq 2 (zl [7, 8]) T ?_
 refine D.done (by kernel_rfl) ?_
 refine C.nx ?_
 refine C.ite rfl g (fun b21 g => ?_) fun b21 g => ?_
 refine C.ss (U.pd 1 T (C.nx (C.ret (C.brt (C.rt (C.rt (C.brt (C.rt ?_))))))))
 exact C.f1 T o (pBi g)
 refine C.skip (C.bnx (C.nx (U.start (U.pd 3 T (C.nx ?_)))))
 exact St.wk (C.next g) (Wk.e)
 refine C.exit (C.ex (C.ex (C.bex ?_)))
 exact St.wk (j11 _ g) (Wk.mk' [] rfl rfl trivial trivial rfl)
theorem T_slices_Clone_int_int (s_1 : List Int) (post : (List Int) → Prop) (g : V_slices_Clone_int_int s_1 post) :
    Tr Try.prog 38 [.sl 1 eI s_1] [] 0 (fun A H' k => ∃ y, post y ∧ A = (.o 0) ∧ H' = [(0, .val (.os 1 eI y))] ∧ k = 1) := by
 refine Tr.go Try.func38 Try.ntmps38 fun _ _ _ _ o => ?_
 unfold V_slices_Clone_int_int at g
 refine C.ss (U.pd 1 T (C.xs (C.ss ?_)))
 refine U.ps 1 T rfl (U.e rfl (.none rfl) (by exact Eff.isnil T true rfl rfl rfl rfl rfl rfl (.inl ⟨.sl, rfl⟩) rfl) (fun b5' hhb5 => ?_))
 obtain ⟨b5⟩ := b5'
 replace g := g b5 hhb5
 refine U.done (C.nx ?_)
 refine C.ite rfl g (fun b6 g => ?_) fun b6 g => ?_
 refine C.ss (U.pd 1 T (C.nx (C.ret (C.rt ?_))))
 exact C.g1 [none] T o ⟨[], g, rfl, rfl, rfl⟩
 refine C.skip (C.xt (U.bs T eI ([] : List Int) ?_))
 refine U.ps 1 T rfl ?_
 obtain ⟨y11, g⟩ := g
 refine U.ap T y11 ?_
 refine U.pd 1 T (C.nx (C.ret ?_))
 exact C.g1 [some 1] T o ⟨(([] : List Int) ++ s_1), g, rfl, rfl, rfl⟩
theorem T_batch_known_1 (i : Int) (c0 : List ApiJob) (post : Bool → Prop) (g : V_batch_known_1 i c0 post) :
    Tr Try.prog 49 [.i i, .rp [.sl 3 eApiJob c0]] [] 0 (pB post) := by
 refine Tr.go Try.func49 Try.ntmps49 fun _ _ _ _ o => ?_
 unfold V_batch_known_1 at g
 refine C.ss (U.pd 1 T (C.xs ?_))
 refine C.jn (fun (x3 : Bool) => [(3, .b x3)]) (fun x3 => []) 0 g (fun x3 g => ?_) fun J4 g j4 => ?_
 refine C.nx (C.ret ?_)
 exact C.f1 T o (pBi g)
 refine U.start (U.ps 3 T rfl ?_)
 refine g.cs (fun b5 g => ?_) fun b5 g => ?_
 refine U.sk' 4 2 false 6 b5 ?_
 refine U.pk b5 ?_
 refine U.pd 1 T ?_
 exact St.wn (j4 _ g)
 refine U.pq 4 2 false 6 b5 T ?_
 refine U.pk' b5 ?_
 refine U.pd 1 T ?_
 exact St.wn (j4 _ g)
theorem T_slices_IndexFunc_int_int__batch_known_1 (s_1 : List Int) (f_c0 : List ApiJob) (post : Int → Prop) (g : V_slices_IndexFunc_int_int__batch_known_1 s_1 f_c0 post) :
    Tr Try.prog 58 [.sl 1 eI s_1, .fn (.func 49) [] [.rp [.sl 3 eApiJob f_c0]]] [] 0 (pI post) := by
 refine Tr.go Try.func58 Try.ntmps58 fun _ _ _ _ o => ?_
 unfold V_slices_IndexFunc_int_int__batch_known_1 at g
 refine C.ss (U.pd 1 T (C.xs (C.ss ?_)))
 refine U.pd 3 T (C.nx ?_)
 refine C.jn (fun (x5 : Unit) => []) (fun x5 => []) 0 g (fun x5 g => ?_) fun J6 g j6 => ?_
 refine C.xt (U.pd 1 T (C.nx (C.ret ?_)))
 exact C.f1 T o (pIi g)
 refine C.block (St.wk (C.loop (fun (s7 : Int) => [(0, .sl 1 eI s_1), (1, .fn (.func 49) [] [.rp [.sl 3 eApiJob f_c0]]), (7, .i (s_1.length : Int)), (8, .i s7)]) (fun s7 => []) g (fun s7 Y8 g => ?_)) (Wk.e))
 refine C.ss (U.pd 1 T (C.xs ?_))
 refine C.ite rfl g (fun b11 g => ?_) fun b11 g => ?_
 refine C.skip (C.xs (C.block (C.ss (U.pd 2 T (C.xt ?_)))))
 refine U.ps 3 T rfl ?_
 obtain ⟨x16, y16, g⟩ := g
 refine U.ix T y16 ?_
 refine U.ps 1 T rfl (U.k (T_batch_known_1 x16 f_c0 _ g) en49 (fun x17 g => ?_))
 refine U.done (C.nx ?_)
 refine C.ite rfl g (fun b18 g => ?_) fun b18 g => ?_
 refine C.ss (U.pd 2 T (C.nx (C.ret (C.brt (C.rt (C.rt (C.brt (C.rt ?_))))))))
 exact C.f1 T o (pIi g)
 refine C.skip (C.bnx (C.nx (U.start (U.pd 2 T (C.nx ?_)))))
 exact St.wk (C.next g) (Wk.e)
 refine C.exit (C.ex (C.ex (C.bex ?_)))
 exact St.wk (j6 _ g) (Wk.mk' [] rfl rfl trivial trivial rfl)
theorem T_slices_DeleteFunc_int_int__o0_batch_known_1 (del_c0 : List ApiJob) (s_1 : List Int) (post : (List Int) → Prop) (g : V_slices_DeleteFunc_int_int__o0_batch_known_1 del_c0 s_1 post) :
    Tr Try.prog 48 [.o 0, .fn (.func 49) [] [.rp [.sl 3 eApiJob del_c0]]] [(0, .val (.os 1 eI s_1))] 1 (fun A H' k => ∃ y, post y ∧ A = (.o 1) ∧ H' = [(1, .val (.os 1 eI y))] ∧ k = 2) := by
 refine Tr.go Try.func48 Try.ntmps48 fun _ _ _ _ o => ?_
 unfold V_slices_DeleteFunc_int_int__o0_batch_known_1 at g
 refine C.ss (U.pd 1 T (C.xt ?_))
 refine U.ps 2 T rfl (U.k (T_slices_IndexFunc_int_int__batch_known_1 s_1 del_c0 _ g) en58 (fun x5 g => ?_))
 refine U.pd 1 T (C.xs (C.ss ?_))
 refine U.pd 2 T (C.nx ?_)
 refine C.ite rfl g (fun b8 g => ?_) fun b8 g => ?_
 refine C.ss (U.pd 2 T (C.nx (C.ret (C.rt ?_))))
 exact C.g1 [some 0, some 0] T o ⟨s_1, g, rfl, rfl, rfl⟩
 refine C.skip (C.xs (C.ss (U.pd 3 T (C.nx ?_))))
 refine C.jn (fun (x13 : List Int × Int) => [(0, .o 0), (5, .i x13.2)]) (fun x13 => [(0, .val (.os 1 eI x13.1))]) 1 g (fun x13 g => ?_) fun J14 g j14 => ?_
 refine C.xt (U.ps 2 T rfl ?_)
 obtain ⟨y38, g⟩ := g
 refine U.r rfl (.none rfl) rfl rfl (by exact Rd.vw T rfl rfl rfl rfl rfl rfl (.some _ rfl) (.none _) y38) ?_
 obtain ⟨y39, g⟩ := g
 refine U.e1 rfl (.none rfl) (by exact Eff1.clv T (z0 := 0) rfl rfl rfl rfl rfl rfl rfl (fun _ => rfl) rfl y39) ?_
 refine U.done (C.xt (U.ps 2 T rfl ?_))
 obtain ⟨y42, g⟩ := g
 refine U.e1 rfl (.none rfl) (by exact Eff1.sw T rfl rfl rfl rfl rfl rfl rfl rfl (.none _) (.some _ rfl) y42) ?_
 refine U.pd 1 T (C.nx (C.ret ?_))
 exact C.g1 (idR 2) T o ⟨(sub (x13.1.take (Int.toNat x13.2) ++ (List.replicate (Int.toNat ((x13.1.length : Int) - x13.2)) 0 ++ x13.1.drop ((Int.toNat x13.2) + (Int.toNat ((x13.1.length : Int) - x13.2))))) 0 x13.2), g, rfl, rfl, rfl⟩
 refine C.block (St.wk (C.loop (fun (s15 : List Int × Int × Int) => [(0, .o 0), (1, .fn (.func 49) [] [.rp [.sl 3 eApiJob del_c0]]), (5, .i s15.2.1), (6, .i s15.2.2)]) (fun s15 => [(0, .val (.os 1 eI s15.1))]) g (fun s15 Y16 g => ?_)) (Wk.a [some 0]))
 refine C.seq (C.ss (U.pd 4 T (C.nx ?_)))
 refine C.ite rfl g (fun b19 g => ?_) fun b19 g => ?_
 refine C.skip (C.xs (C.block (C.ss (U.ps 2 T rfl ?_))))
 obtain ⟨x22, y22, g⟩ := g
 refine U.r rfl (.none rfl) rfl rfl (by exact Rd.io T rfl rfl rfl rfl rfl rfl rfl y22) ?_
 refine U.r rfl (.none rfl) rfl rfl (by exact Rd.le T rfl rfl rfl (idx_some y22).2.2 rfl rfl rfl) ?_
 refine U.pd 1 T (C.xt ?_)
 refine U.ps 2 T rfl (U.k (T_batch_known_1 x22 del_c0 _ g) en49 (fun x25 g => ?_))
 refine U.pd 1 T (C.nx ?_)
 refine C.jn (fun (x26 : List Int × Int) => [(0, .o 0), (1, .fn (.func 49) [] [.rp [.sl 3 eApiJob del_c0]]), (5, .i x26.2), (6, .i s15.2.2)]) (fun x26 => [(0, .val (.os 1 eI x26.1))]) 1 g (fun x26 g => ?_) fun J27 g j27 => ?_
 refine C.bnx (C.nx (U.start (U.pd 3 T (C.nx ?_))))
 exact St.wk (C.next g) (Wk.a [some 0])
 refine C.ite rfl g (fun b28 g => ?_) fun b28 g => ?_
 refine C.ss (U.ps 3 T rfl ?_)
 obtain ⟨x31, y31, g⟩ := g
 refine U.r rfl (.none rfl) rfl rfl (by exact Rd.io T rfl rfl rfl rfl rfl rfl rfl y31) ?_
 refine U.e1 rfl (.none rfl) (by exact Eff1.se T (z' := x22) rfl rfl rfl (idx_some y31).2.2 rfl rfl rfl rfl rfl rfl rfl rfl (fun _ => rfl) rfl) ?_
 refine U.done (C.nx (U.start (U.pd 3 T ?_)))
 exact St.wa [some 0] (j27 _ g)
 refine C.skip ?_
 exact St.wa [some 0] (j27 _ g)
 refine C.exit (C.ex (C.ex (C.bex ?_)))
 exact St.wa [some 0] (j14 _ g)
theorem T_batch_known (l : List ApiJob) (order : List Int) (post : (List Int) → Prop) (g : V_batch_known l order post) :
    Tr Try.prog 31 [.sl 3 eApiJob l, .sl 1 eI order] [] 0 (fun A H' k => ∃ y, post y ∧ A = (.o 0) ∧ H' = [(0, .val (.os 1 eI y))] ∧ k = 1) := by
 refine Tr.go Try.func31 Try.ntmps31 fun _ _ _ _ o => ?_
 unfold V_batch_known at g
 refine C.ss (U.bx ?_)
 refine U.pd 1 T (C.xt ?_)
 refine U.ps 1 T rfl (U.k (T_slices_Clone_int_int order _ g) en38 (fun x5 g => ?_))
 refine U.ps 1 T rfl ?_
 refine U.e rfl (.none rfl) (by exact Eff.c [some 1] (v := true) (T_slices_DeleteFunc_int_int__o0_batch_known_1 l x5 _ g) en48 rfl rfl rfl (.cons (.eq rfl) (.cons (.fn (.eq rfl) (.cons (.fzp rfl rfl rfl rfl (.eq rfl) rfl) .nil)) .nil)) ⟨vL, trivial⟩ rfl rfl rfl rfl rfl rfl (fun _ _ => ⟨(.o _), ⟨.val (.os _ _ _ fun _ => (.cons (.v _) .nil)), trivial⟩⟩) (.inl rfl) (fun _ => rfl) (fun _ => rfl) rfl) (fun x6' g => ?_)
 obtain ⟨x6⟩ := x6'
 refine U.pd 1 T (C.nx (C.ret ?_))
 exact C.g1 [some 3] T o ⟨x6, g, rfl, rfl, rfl⟩
theorem T_batch_Ends (l : List ApiJob) (order : List Int) (start : Int) (post : (List Int) → Prop) (g : V_batch_Ends l order start post) :
    Tr Try.prog 22 [.sl 3 eApiJob l, .sl 1 eI order, .i start] [] 0 (fun A H' k => ∃ y, post y ∧ A = (.o 0) ∧ H' = [(0, .val (.os 1 eI y))] ∧ k = 1) := by
 refine Tr.go Try.func22 Try.ntmps22 fun _ _ _ _ o => ?_
 unfold V_batch_Ends at g
 refine C.ss (U.pd 1 T (C.xt ?_))
 refine U.pd 1 T (C.xs (C.ss ?_))
 refine U.ps 2 T rfl (U.k (T_batch_known l order _ g) en31 (fun x7 g => ?_))
 refine U.pd 2 T (C.nx ?_)
 refine C.jn (fun (x8 : List Int) => [(7, .o 0)]) (fun x8 => [(0, .val (.os 1 eI x8))]) 1 g (fun x8 g => ?_) fun J9 g j9 => ?_
 refine C.xt (U.pd 2 T (C.nx (C.ret ?_)))
 exact C.g1 [some 0] T o ⟨x8, g, rfl, rfl, rfl⟩
 refine C.block ?_
 refine St.wk (C.loop (fun (s10 : Int × List Int × Int) => [(0, .sl 3 eApiJob l), (2, .i s10.1), (7, .o 0), (12, .o 1), (13, .i (x7.length : Int)), (14, .i s10.2.2)]) (fun s10 => [(0, .val (.os 1 eI s10.2.1)), (1, .val (.os 1 eI x7))]) g (fun s10 Y11 g => ?_)) (Wk.mk' [none, some 0] rfl rfl ⟨⟨_, rfl, (.eq rfl)⟩, ⟨_, rfl, (.eq rfl)⟩, ⟨_, rfl, (.nilO _ _ ⟨rfl, rfl⟩ rfl)⟩, ChkG.eqs rfl⟩ ⟨⟨_, rfl, .nil _ _⟩, vL, trivial⟩ rfl)
 refine C.ss (U.pd 1 T (C.xs ?_))
 refine C.ite rfl g (fun b14 g => ?_) fun b14 g => ?_
 refine C.skip (C.xs (C.block (C.ss ?_)))
 obtain ⟨x17, y17, g⟩ := g
 refine U.r rfl (.none rfl) rfl rfl (by exact Rd.io T rfl rfl rfl rfl rfl rfl rfl y17) ?_
 refine U.r rfl (.none rfl) rfl rfl (by exact Rd.le T rfl rfl rfl (idx_some y17).2.2 rfl rfl rfl) ?_
 refine U.pd 1 T (C.xt ?_)
 refine U.ps 3 T rfl ?_
 obtain ⟨x20, y20, g⟩ := g
 refine U.ix T y20 ?_
 refine U.pd 4 T (C.nx (U.start ?_))
 refine U.ps 2 T rfl (U.bs T eI ([w64 (s10.1 + x20.Work)] : List Int) ?_)
 obtain ⟨y23, g⟩ := g
 refine U.ap T y23 ?_
 refine U.pd 1 T (C.bnx (C.nx (U.start ?_)))
 refine U.pd 2 T (C.nx ?_)
 exact St.wk (C.next g) (Wk.a [some 3, some 1])
 refine C.exit (C.ex (C.ex (C.bex ?_)))
 exact St.wa [some 0] (j9 _ g)
theorem T_slices_Max_int_int (x_1 : List Int) (post : Int → Prop) (g : V_slices_Max_int_int x_1 post) :
    Tr Try.prog 32 [.sl 1 eI x_1] [] 0 (pI post) := by
 refine Tr.go Try.func32 Try.ntmps32 fun _ _ _ _ o => ?_
 unfold V_slices_Max_int_int at g
 refine C.ss (U.pd 1 T (C.xs (C.ss ?_)))
 refine U.pd 3 T (C.nx ?_)
 refine C.ite rfl g (fun b7 g => ?_) fun b7 g => ?_
 refine U.start ?_
 exact g.elim
 refine C.skip (C.xt (U.ps 1 T rfl ?_))
 obtain ⟨x12, y12, g⟩ := g
 refine U.ix T y12 ?_
 refine U.pd 2 T (C.xs (C.ss ?_))
 refine U.pd 1 T (C.nx ?_)
 refine C.jn (fun (x15 : Int) => [(3, .i x15)]) (fun x15 => []) 0 g (fun x15 g => ?_) fun J16 g j16 => ?_
 refine C.xt (U.pd 2 T (C.nx (C.ret ?_)))
 exact C.f1 T o (pIi g)
 refine C.block (St.wk (C.loop (fun (s17 : Int × Int) => [(0, .sl 1 eI x_1), (3, .i s17.1), (4, .i s17.2)]) (fun s17 => []) g (fun s17 Y18 g => ?_)) (Wk.e))
 refine C.seq (C.ss (U.pd 4 T (C.nx ?_)))
 refine C.ite rfl g (fun b21 g => ?_) fun b21 g => ?_
 refine C.skip (C.xs (C.block (U.start (U.ps 3 T rfl ?_))))
 obtain ⟨x24, y24, g⟩ := g
 refine U.ix T y24 ?_
 refine U.pd 3 T (C.bnx (C.nx (U.start ?_)))
 refine U.pd 3 T (C.nx ?_)
 exact St.wk (C.next g) (Wk.e)
 refine C.exit (C.ex (C.ex (C.bex ?_)))
 exact St.wn (j16 _ g)
theorem T_batch_Worst (l : List ApiJob) (order : List Int) (start : Int) (post : Int → Prop) (g : V_batch_Worst l order start post) :
    Tr Try.prog 12 [.sl 3 eApiJob l, .sl 1 eI order, .i start] [] 0 (pI post) := by
 refine Tr.go Try.func12 Try.ntmps12 fun _ _ _ _ o => ?_
 unfold V_batch_Worst at g
 refine C.ss (U.pd 1 T (C.xt ?_))
 refine U.pd 1 T (C.xt ?_)
 refine U.ps 3 T rfl (U.k (T_batch_Ends l order start _ g) en22 (fun x7 g => ?_))
 refine U.pd 1 T (C.xs (C.ss ?_))
 refine U.ps 2 T rfl (U.k (T_batch_known l order _ g) en31 (fun x10 g => ?_))
 refine U.pd 2 T (C.nx ?_)
 refine C.jn (fun (x11 : List Int) => [(7, .o 0)]) (fun x11 => [(0, .val (.os 1 eI x11))]) 1 g (fun x11 g => ?_) fun J12 g j12 => ?_
 refine C.xs (C.ss (U.pd 3 T (C.nx ?_)))
 refine C.ite rfl g (fun b30 g => ?_) fun b30 g => ?_
 refine C.ss (U.pd 1 T (C.nx (C.ret (C.rt ?_))))
 exact C.f1 T o (pIi g)
 refine C.skip (C.xt (U.ps 1 T rfl (U.k (T_slices_Max_int_int x11 _ g) en32 (fun x35 g => ?_))))
 refine U.pd 1 T (C.nx (C.ret ?_))
 exact C.f1 T o (pIi g)
 refine C.block ?_
 refine St.wk (C.loop (fun (s13 : List Int × Int) => [(0, .sl 3 eApiJob l), (7, .o 0), (8, .o 1), (17, .o 2), (18, .i (x10.length : Int)), (19, .i s13.2)]) (fun s13 => [(0, .val (.os 1 eI s13.1)), (1, .val (.os 1 eI x7)), (2, .val (.os 1 eI x10))]) g (fun s13 Y14 g => ?_)) (Wk.mk' [none, some 0, some 1] rfl rfl ⟨⟨_, rfl, (.eq rfl)⟩, ⟨_, rfl, (.nilO _ _ ⟨rfl, rfl⟩ rfl)⟩, ChkG.eqs rfl⟩ ⟨⟨_, rfl, .nil _ _⟩, vL, vL, trivial⟩ rfl)
 refine C.ss (U.pd 1 T (C.xs ?_))
 refine C.ite rfl g (fun b17 g => ?_) fun b17 g => ?_
 refine C.skip (C.xs (C.block (C.ss (U.ps 1 T rfl ?_))))
 obtain ⟨x20, y20, g⟩ := g
 refine U.r rfl (.none rfl) rfl rfl (by exact Rd.io T rfl rfl rfl rfl rfl rfl rfl y20) ?_
 refine U.r rfl (.none rfl) rfl rfl (by exact Rd.le T rfl rfl rfl (idx_some y20).2.2 rfl rfl rfl) ?_
 refine U.pd 2 T (C.nx ?_)
 refine D.bg mix 9999 [1] [0] (fun hQ hS ws M' => ?_)
 refine D.pq 3 (zl [0, 1, 2]) T ?_
 obtain ⟨x23, y23, g⟩ := g
 refine D.q 3 [] hQ hS rfl (.none rfl) rfl rfl (by exact Rd.io T rfl rfl rfl rfl rfl rfl rfl y23) rfl (by kernel_rfl) ?_
 refine D.q 4 [] hQ hS rfl (.none rfl) rfl rfl (by exact Rd.le T rfl rfl rfl (idx_some y23).2.2 rfl rfl rfl) rfl (by kernel_rfl) ?_
 refine D.pq 2 (zl [5, 6]) T ?_
 obtain ⟨x24, y24, g⟩ := g
 refine D.ix 7 [] T y24 ?_
 refine D.pq 3 (zl [8, 9, 10]) T ?_
 refine D.e1 11 rfl (.none rfl) (by exact Eff1.bs T (enc := eI) (xs := ([w64 (x23 - x24.Due)] : List Int)) rfl rfl rfl rfl rfl rfl rfl rfl rfl rfl (fun _ _ => rfl) rfl rfl) (by kernel_rfl) rfl rfl ?_
 obtain ⟨y25, g⟩ := g
 refine D.e1 12 rfl (.none rfl) (by exact Eff1.ap T rfl rfl rfl rfl rfl rfl (.inr ⟨_, rfl, rfl⟩) rfl rfl rfl (fun _ => rfl) rfl y25) (by kernel_rfl) rfl rfl ?_
 refine D.pq 1 [(13, [])] T ?_
 refine D.done (by kernel_rfl) ?_
 refine C.bnx (C.nx (U.start (U.pd 2 T (C.nx ?_))))
 exact St.wk (C.next g) (Wk.a [some 4, some 1, some 2])
 refine C.exit (C.ex (C.ex (C.bex ?_)))
 exact St.wa [some 0] (j12 _ g)
theorem T_batch_InTime_1 (a : Int) (b : Int) (c0 : List ApiJob) (post : Int → Prop) (g : V_batch_InTime_1 a b c0 post) :
    Tr Try.prog 34 [.i a, .i b, .rp [.sl 3 eApiJob c0]] [] 0 (pI post) := by
 refine Tr.go Try.func34 Try.ntmps34 fun _ _ _ _ o => ?_
 unfold V_batch_InTime_1 at g
 refine C.ss (U.pd 1 T (C.xs ?_))
 refine D.bg mix 9999 [] [] (fun hQ hS ws M' => ?_)
 refine D.pq 2 (zl [0, 1]) T ?_
 obtain ⟨x5, y5, g⟩ := g
 refine D.ix 2 [] T y5 ?_
 refine D.pq 4 (zl [3, 4, 5, 6]) T ?_
 obtain ⟨x6, y6, g⟩ := g
 refine D.ix 7 [] T y6 ?_
 refine D.pq 4 (zl [8, 9, 11, 12]) T ?_
 refine D.k 10 (T_cmp_Compare_int x5.Work x6.Work _ g) en30 fun x7 g => ?_
 refine D.k 13 (T_cmp_Compare_int b a _ g) en30 fun x8 g => ?_
 refine D.e1 14 rfl (.none rfl) (by exact Eff1.bs T (enc := eI) (xs := ([x7, x8] : List Int)) rfl rfl rfl rfl rfl rfl rfl rfl rfl rfl (fun _ _ => rfl) rfl rfl) (by kernel_rfl) rfl rfl ?_
 refine D.k 15 (T_cmp_Or_int ([x7, x8] : List Int) _ g) en35 fun x9 g => ?_
 refine D.pq 1 [(16, [])] T ?_
 refine D.done (by kernel_rfl) ?_
 refine C.nx (C.ret ?_)
 exact C.f1 T o (pIi g)
theorem T_slices_BinarySearchFunc_int_int_int__batch_InTime_1 (x_1 : List Int) (target : Int) (cmp_c0 : List ApiJob) (post : (Int × Bool) → Prop) (g : V_slices_BinarySearchFunc_int_int_int__batch_InTime_1 x_1 target cmp_c0 post) :
    Tr Try.prog 33 [.sl 1 eI x_1, .i target, .fn (.func 34) [] [.rp [.sl 3 eApiJob cmp_c0]]] [] 0 (fun A H' k => ∃ y, post y ∧ A = (.tup [.i y.1, .b y.2]) ∧ H' = [] ∧ k = 0) := by
 refine Tr.go Try.func33 Try.ntmps33 fun _ _ _ _ o => ?_
 unfold V_slices_BinarySearchFunc_int_int_int__batch_InTime_1 at g
 refine C.ss (U.pd 2 T (C.xt ?_))
 refine U.pd 3 T (C.xt ?_)
 refine U.pd 3 T (C.xs ?_)
 refine C.jn (fun (x7 : Int) => [(0, .sl 1 eI x_1), (1, .i target), (2, .fn (.func 34) [] [.rp [.sl 3 eApiJob cmp_c0]]), (8, .i (x_1.length : Int)), (9, .i x7)]) (fun x7 => []) 0 g (fun x7 g => ?_) fun J8 g j8 => ?_
 refine C.xs ?_
 refine C.jn (fun (x28 : Bool) => [(6, .i x7), (7, .b x28)]) (fun x28 => []) 0 g (fun x28 g => ?_) fun J29 g j29 => ?_
 refine C.nx (C.ret ?_)
 exact C.f9 T o ⟨(x7, x28), g, rfl, rfl, rfl⟩
 refine U.start (U.ps 5 T rfl ?_)
 refine g.cs (fun b30 g => ?_) fun b30 g => ?_
 refine U.pq 3 4 true 39 b30 T ?_
 obtain ⟨x31, y31, g⟩ := g
 refine U.r rfl (.tk 4 true 39 b30) rfl rfl (by exact Rd.ix T rfl rfl rfl rfl rfl rfl y31) ?_
 refine U.pq 2 4 true 39 b30 T ?_
 refine U.k (T_batch_InTime_1 x31 target cmp_c0 _ g) en34 (fun x32 g => ?_) (hw := .take 4 true 39 _ b30 rfl rfl rfl)
 refine U.pq 1 4 true 39 b30 T ?_
 refine U.pk b30 ?_
 refine U.pd 2 T ?_
 exact St.wn (j29 _ g)
 refine U.sk' 8 4 true 39 b30 ?_
 refine U.pk' b30 ?_
 refine U.pd 2 T ?_
 exact St.wn (j29 _ g)
 refine C.block (St.wk (C.loop (fun (s9 : Int × Int) => [(0, .sl 1 eI x_1), (1, .i target), (2, .fn (.func 34) [] [.rp [.sl 3 eApiJob cmp_c0]]), (8, .i (x_1.length : Int)), (9, .i s9.1), (10, .i s9.2)]) (fun s9 => []) g (fun s9 Y10 g => ?_)) (Wk.e))
 refine C.seq (C.ss (U.pd 3 T (C.nx ?_)))
 refine C.ite rfl g (fun b13 g => ?_) fun b13 g => ?_
 refine C.skip (C.nx (C.block (C.ss (U.ps 4 T rfl (U.r rfl (.none rfl) rfl rfl (by exact Rd.sh rfl rfl rfl rfl (by decide)) ?_)))))
 refine U.pd 2 T (C.xt ?_)
 refine U.ps 3 T rfl ?_
 obtain ⟨x19, y19, g⟩ := g
 refine U.ix T y19 ?_
 refine U.ps 2 T rfl (U.k (T_batch_InTime_1 x19 target cmp_c0 _ g) en34 (fun x20 g => ?_))
 refine U.pd 1 T (C.nx ?_)
 refine C.jn (fun (x21 : Int × Int) => [(0, .sl 1 eI x_1), (1, .i target), (2, .fn (.func 34) [] [.rp [.sl 3 eApiJob cmp_c0]]), (8, .i (x_1.length : Int)), (9, .i x21.1), (10, .i x21.2)]) (fun x21 => []) 0 g (fun x21 g => ?_) fun J22 g j22 => ?_
 refine C.bnx (C.nx ?_)
 exact St.wk (C.next g) (Wk.e)
 refine C.ite rfl g (fun b23 g => ?_) fun b23 g => ?_
 refine U.start (U.pd 3 T ?_)
 exact St.wn (j22 _ g)
 refine U.start (U.pd 2 T ?_)
 exact St.wn (j22 _ g)
 refine C.exit (C.ex (C.ex (C.bex ?_)))
 exact St.wn (j8 _ g)
theorem T_slices_Insert_int_int__o0_o1_end (i : Int) (s_1 : List Int) (v : List Int) (post : (List Int × List Int) → Prop) (g : V_slices_Insert_int_int__o0_o1_end i s_1 v post) :
    Tr Try.prog 36 [.o 0, .i i, .o 1] [(0, .val (.os 1 eI s_1)), (1, .val (.os 1 eI v))] 2 (fun A H' k => ∃ y, post y ∧ A = (.o 2) ∧ H' = [(1, .val (.os 1 eI y.2)), (2, .val (.os 1 eI y.1))] ∧ k = 3) := by
 refine Tr.go Try.func36 Try.ntmps36 fun _ _ _ _ o => ?_
 unfold V_slices_Insert_int_int__o0_o1_end at g
 refine C.ss (U.pd 1 T (C.xt ?_))
 refine U.ps 2 T rfl ?_
 obtain ⟨y5, g⟩ := g
 refine U.r rfl (.none rfl) rfl rfl (by exact Rd.vw T rfl rfl rfl rfl rfl rfl (.some _ rfl) (.none _) y5) ?_
 refine U.done (C.xt (U.pd 3 T (C.xs (C.ss ?_))))
 refine U.pd 2 T (C.nx ?_)
 refine C.ite rfl g (fun b10 g => ?_) fun b10 g => ?_
 refine C.ss (U.pd 2 T (C.nx (C.ret (C.rt ?_))))
 exact C.g1 [some 0, some 1, some 0] T o ⟨(s_1, v), g, rfl, rfl, rfl⟩
 refine C.skip (C.xt (U.pd 3 T (C.xs (C.ss ?_))))
 refine U.pd 3 T (C.nx ?_)
 refine C.ite rfl g (fun b17 g => ?_) fun b17 g => ?_
 refine C.ss (U.ps 2 T rfl ?_)
 obtain ⟨y20, g⟩ := g
 refine U.ap T y20 ?_
 refine U.pd 1 T (C.nx (C.ret (C.rt ?_)))
 exact C.g1 (idR 3) T o ⟨((s_1 ++ v), v), g, rfl, rfl, rfl⟩
 exact g.elim
theorem ov36 (w : World) {b off lb cb vb voff m vc : Nat} {cc cv : Array Value} {Tb Tv : TypeId} (hwb : w.heap[b]? = some (.cells cc Tb (0, 0))) (hwv : w.heap[vb]? = some (.cells cv Tv (0, 0))) (hne : vb ≠ b) (b0 : cc.size ≠ 0) :
    (callFunc 50 #[.slice (some ⟨vb, voff, none⟩) m vc, .slice (some ⟨b, off, none⟩) lb cb]).run Try.prog w = .ok (.value (.bool false)) w := by
  rw [run_callFunc_extern Try.func50 (by kernel_rfl) (by kernel_rfl) (by kernel_rfl) (e := Extern.SlicesOverlaps.overlaps #[23, 23] #[4]) (by kernel_rfl),
    Lib.run_overlaps_apart w 23 4 3 Try.underlying23 1 Try.sizeOf3 ⟨vb, voff, none⟩ ⟨b, off, none⟩ m vc lb cb hne Tv Tb cv.size cc.size (by simp [World.shape?, hwv]) (by simp [World.shape?, hwb]) b0 (by simp [World.frozen?, hwv]) (by simp [World.frozen?, hwv])]
  rfl
set_option maxHeartbeats 4000000 in
theorem inR36 (w : World) (b off n c i vb voff m vc : Nat) (cb cv : Array Value) (Tb Tv : TypeId) (hwb : w.heap[b]? = some (.cells cb Tb (0, 0))) (hwv : w.heap[vb]? = some (.cells cv Tv (0, 0))) (hne : vb ≠ b) (hi : i < n) (g : 0 < m) (hmv : m ≤ vc) (hcb : off + c * 1 ≤ cb.size) (hcv : voff + vc * 1 ≤ cv.size)
    (ho1 : ∀ q, q < n * 1 → (cb.getD (off + q) undef).oneCell' = true) (ho2 : ∀ q, q < m * 1 → (cv.getD (voff + q) undef).oneCell' = true) (hroom : n + m ≤ c) (hnm : n + m ≤ 1099511627776) :
    Calls Try.prog 36 #[.slice (some ⟨b, off, none⟩) n c, .int .i64 i, .slice (some ⟨vb, voff, none⟩) m vc] w fun e w' => e = .returned (.slice (some ⟨b, off, none⟩) (n + m) c) ∧
      w' = (w.drew.setRow b (spl cb (off + (i + m) * 1) cb (off + i * 1) ((n - i) * 1))).setRow b (spl (spl cb (off + (i + m) * 1) cb (off + i * 1) ((n - i) * 1)) (off + i * 1) cv voff (m * 1)) := by
  have u0 := run_underlying Try.underlying0; have u3 := run_underlying Try.underlying3; have u4 := run_underlying Try.underlying4; have uS := run_underlying Try.underlying23
  have zE := Try.sizeOf3
  have hz1 : ¬ ((m : Int) = 0) := by omega
  have hz2 : ¬ ((i : Int) = (n : Int)) := by omega
  have hz3 : ¬ ((c : Int) < (n : Int) + (m : Int)) := by omega
  have hw1 : IntKind.i64.wrap ((i : Int) + (m : Int)) = (i : Int) + (m : Int) := IntWalk.i64_in _ (by omega)
  have hw2 : IntKind.i64.wrap ((n : Int) + (m : Int)) = (n : Int) + (m : Int) := IntWalk.i64_in _ (by omega)
  have b1 : (0 : Int) ≤ (i : Int) + (m : Int) := by omega
  have hin : i ≤ n := by omega
  have htn : ((i : Int) + (m : Int)).toNat = i + m := by omega
  have b2 : ¬ (c = i + m) := by omega
  have b3 : (i : Int) ≤ (n : Int) + (m : Int) := by omega
  have b4 : ¬ (c = i) := by omega
  have hN1 : (i + m) * 1 + (n - i) * 1 = (n + m) * 1 := by rw [← Nat.add_mul]; congr 1; omega
  have hN2 : i * 1 + (n - i) * 1 = n * 1 := by rw [← Nat.add_mul]; congr 1; omega
  have hN3 : (n + m) * 1 ≤ c * 1 := Nat.mul_le_mul_right _ hroom
  have hN4 : n * 1 ≤ c * 1 := Nat.mul_le_mul_right _ (by omega)
  have hN5 : i * 1 + m * 1 = (i + m) * 1 := (Nat.add_mul _ _ _).symm
  have hN6 : (i + m) * 1 ≤ c * 1 := Nat.mul_le_mul_right _ (by omega)
  have hN7 : m * 1 ≤ vc * 1 := Nat.mul_le_mul_right _ hmv
  have hsz0 : cb.size ≠ 0 := by
    have : 1 * 1 ≤ c * 1 := Nat.mul_le_mul_right _ (by omega)
    omega
  have hov : ∀ lb cb2, (callFunc 50 #[.slice (some ⟨vb, voff, none⟩) m vc, .slice (some ⟨b, off + (i + m) * 1, none⟩) lb cb2]).run Try.prog w = .ok (.value (.bool false)) w := fun lb cb2 => ov36 w hwb hwv hne hsz0
  have hcp1 : ∀ ty dc sc, (Builtin.copy_ #[23, 23] ty #[.slice (some ⟨b, off + (i + m) * 1, none⟩) (n + m - (i + m)) dc, .slice (some ⟨b, off + i * 1, none⟩) (n + m - i) sc]).run Try.prog w.drew = .ok (goInt (n - i : Nat)) (w.drew.setRow b (spl cb (off + (i + m) * 1) cb (off + i * 1) ((n - i) * 1))) := fun ty dc sc =>
    run_copyRaw (K := 1) Try.underlying23 zE w.drew (k := n - i) hwb hwb (by simp only [Nat.min_def]; split <;> omega) (by omega) (by omega) (fun q hq => by rw [Nat.add_assoc]; exact ho1 _ (by omega)) ty
  have hW1 : (w.drew.setRow b (spl cb (off + (i + m) * 1) cb (off + i * 1) ((n - i) * 1))).heap[b]? = some (.cells (spl cb (off + (i + m) * 1) cb (off + i * 1) ((n - i) * 1)) Tb (0, 0)) := setRow_heap w.drew b cb _ Tb (0, 0) hwb
  have hW2 : (w.drew.setRow b (spl cb (off + (i + m) * 1) cb (off + i * 1) ((n - i) * 1))).heap[vb]? = some (.cells cv Tv (0, 0)) := by rw [setRow_other w.drew b vb _ hne]; exact hwv
  generalize hc1 : spl cb (off + (i + m) * 1) cb (off + i * 1) ((n - i) * 1) = c1 at *
  have hc1s : c1.size = cb.size := by rw [← hc1]; exact spl_size (by omega) (by omega)
  have hcp2 : ∀ ty dc, (Builtin.copy_ #[23, 23] ty #[.slice (some ⟨b, off + i * 1, none⟩) (n + m - i) dc, .slice (some ⟨vb, voff, none⟩) m vc]).run Try.prog (w.drew.setRow b c1) = .ok (goInt m) ((w.drew.setRow b c1).setRow b (spl c1 (off + i * 1) cv voff (m * 1))) := fun ty dc =>
    run_copyRaw (K := 1) Try.underlying23 zE (w.drew.setRow b c1) (k := m) hW1 hW2 (by simp only [Nat.min_def]; split <;> omega) (by omega) (by omega) ho2 ty
  clear hc1 hN1 hN2 hN3 hN4 hN5 hN6 hN7 ho1 ho2 hW1 hW2
  simp only [Nat.mul_one] at *
  go_enter Try.func36, Try.ntmps36
  go_wp2_with (simp only [hov])
  go_region_law (refine step_cpI rfl _ _ 23 23 rfl _ _ (by simp [Act.eval, Act.put]) (by simp [Act.eval, Act.put]) (hcp1 _ _ _) ?_)
  go_wp2_with (at_builtin; refine wpList_cpI _ rfl _ _ 23 23 rfl _ _ rfl rfl (hcp2 _ _) ?_)
  go_ret
  exact ⟨rfl, rfl⟩
set_option maxHeartbeats 4000000 in
theorem inG36 (w : World) (b off n c i vb voff m vc : Nat) (cb cv : Array Value) (Tb Tv : TypeId) (hwb : w.heap[b]? = some (.cells cb Tb (0, 0))) (hwv : w.heap[vb]? = some (.cells cv Tv (0, 0))) (hi : i < n) (hnc : n ≤ c) (g : 0 < m) (hmv : m ≤ vc) (hcb : off + c * 1 ≤ cb.size) (hcv : voff + vc * 1 ≤ cv.size)
    (ho1 : ∀ q, q < n * 1 → (cb.getD (off + q) undef).oneCell' = true) (ho2 : ∀ q, q < m * 1 → (cv.getD (voff + q) undef).oneCell' = true) (hroom : c < n + m) (hnm : n + m ≤ 1099511627776) :
    ∃ (G : Nat) (row : Array Value), n + m ≤ G ∧ row.size = G * 1 ∧ (∀ q, q < i * 1 → row.getD q undef = cb.getD (off + q) undef) ∧
    Calls Try.prog 36 #[.slice (some ⟨b, off, none⟩) n c, .int .i64 i, .slice (some ⟨vb, voff, none⟩) m vc] w fun e w' => e = .returned (.slice (some ⟨w.heap.size, 0, none⟩) (n + m) G) ∧
      w'.heap = (((w.alloc (.cells row 3)).setRow w.heap.size (spl row (i * 1) cv voff (m * 1))).setRow w.heap.size (spl (spl row (i * 1) cv voff (m * 1)) ((i + m) * 1) cb (off + i * 1) ((n - i) * 1))).heap ∧ w'.os = w.os ∧ w'.tape = w.tape ∧ w'.output = w.output ∧ w.drawn ≤ w'.drawn := by
  have u0 := run_underlying Try.underlying0; have u3 := run_underlying Try.underlying3; have u4 := run_underlying Try.underlying4; have uS := run_underlying Try.underlying23
  have zE := Try.sizeOf3
  obtain ⟨_, inf, z, hinf, hsz, hby, hz0, hzc, _, hzl, _⟩ := teok3
  have hzs : z.cells.size = 1 := by rw [← Array.length_toList, hzc]; exact hzl
  have hby2 : inf.bytes ≤ 128 := by rw [hby]; decide
  have hsz2 : inf.size = 1 := hsz
  have hkk : (n : Int) + (m : Int) - (i : Int) = ((n + m - i : Nat) : Int) := by omega
  have hik : i + (n + m - i) = n + m := by omega
  have hN3 : (n + m - i) * 1 = (n + m) * 1 - i * 1 := Nat.sub_mul _ _ _
  have hN4 : n * 1 ≤ c * 1 := Nat.mul_le_mul_right _ hnc
  have hN2 : i * 1 + (n - i) * 1 = n * 1 := by rw [← Nat.add_mul]; congr 1; omega
  have hN1 : (i + m) * 1 + (n - i) * 1 = (n + m) * 1 := by rw [← Nat.add_mul]; congr 1; omega
  have hN5 : i * 1 + m * 1 = (i + m) * 1 := (Nat.add_mul _ _ _).symm
  have hN7 : m * 1 ≤ vc * 1 := Nat.mul_le_mul_right _ hmv
  have hN8 : (n + m) * inf.bytes ≤ 1099511627776 * 128 := Nat.mul_le_mul hnm hby2
  have hN9 : (n + m - i) * inf.bytes ≤ (n + m) * inf.bytes := Nat.mul_le_mul_right _ (by omega)
  have hol : ((cb.toList.drop off).take (i * 1)).length = i * inf.size := by rw [hsz2]; simp; omega
  have hold : (Builtin.firstCells inf.size i (.slice (some ⟨b, off, none⟩) i c)).run Try.prog w.drew = .ok ((cb.toList.drop off).take (i * 1)).toArray w.drew :=
    run_firstCells_some w.drew inf.size i ⟨b, off, none⟩ i c _ hol (cells_at (w := w.drew) hwb (by omega))
  obtain ⟨G, hG⟩ : ∃ G, G = grownCap w (n + m) c 3 := ⟨_, rfl⟩
  have hGn : n + m ≤ G := by rw [hG]; exact grownCap_ge w _ _ _
  obtain ⟨row, hrow⟩ : ∃ row : Array Value, row = ((cb.toList.drop off).take (i * 1)).toArray ++ Builtin.zeroCells z.cells (n + m - i) ++ Builtin.zeroCells z.cells (G - (n + m)) := ⟨_, rfl⟩
  have hrz : ∀ ty, (Builtin.append_ #[23, 3] ty #[.slice (some ⟨b, off, none⟩) i c, .int .i64 ((n : Int) + (m : Int) - (i : Int))]).run Try.prog w = .ok (.slice (some ⟨w.heap.size, 0, none⟩) (n + m) G) (w.drew.alloc (.cells row 3)) := fun ty => by
    have h := Lib.run_append_grow_zeros w 23 3 ty 3 inf z .i64 .i64 Try.underlying23 Try.underlying3 hinf hz0 (some ⟨b, off, none⟩) i c _ hold (n + m - i) (by omega) (by rw [hsz2]; decide) (by omega) (by omega) (by omega) (by rw [hik]; exact growslice_fits hroom (by omega))
    rw [hik] at h
    rw [hkk, hrow, hG]
    exact h
  have hrs : row.size = G * 1 := by
    have : (G - (n + m)) * 1 = G * 1 - (n + m) * 1 := Nat.sub_mul _ _ _
    have : (n + m) * 1 ≤ G * 1 := Nat.mul_le_mul_right _ hGn
    have hl2 : ((cb.toList.drop off).take (i * 1)).length = i * 1 := by rw [hol, hsz2]
    rw [hrow]; simp only [Array.size_append, size_zeroCells, hzs, List.size_toArray]; omega
  refine ⟨G, row, hGn, hrs, fun q hq => ?_, ?_⟩
  · have h1 : q < ((cb.toList.drop off).take (i * 1)).toArray.size := by simp only [List.size_toArray]; rw [hol, hsz2]; exact hq
    rw [hrow, Array.getD_eq_getD_getElem?, Array.append_assoc, Array.getElem?_append_left h1, List.getElem?_toArray, List.getElem?_take, if_pos hq, List.getElem?_drop, Array.getD_eq_getD_getElem?]; simp
  have hw1 : IntKind.i64.wrap ((i : Int) + (m : Int)) = (i : Int) + (m : Int) := IntWalk.i64_in _ (by omega)
  have hw2 : IntKind.i64.wrap ((n : Int) + (m : Int)) = (n : Int) + (m : Int) := IntWalk.i64_in _ (by omega)
  have hw3 : IntKind.i64.wrap ((n : Int) + (m : Int) - (i : Int)) = (n : Int) + (m : Int) - (i : Int) := IntWalk.i64_in _ (by omega)
  have hGK : (n + m) * 1 ≤ G * 1 := Nat.mul_le_mul_right _ hGn
  have hbw : b < w.heap.size := heap_lt hwb
  have hvw : vb < w.heap.size := heap_lt hwv
  have hA0 : (w.alloc (.cells row 3)).heap[w.heap.size]? = some (.cells row 3 (0, 0)) := heap_alloc_new w _
  have hAb : (w.alloc (.cells row 3)).heap[b]? = some (.cells cb Tb (0, 0)) := (RowKit.Below.heap_alloc w _ b hbw).trans hwb
  have hAv : (w.alloc (.cells row 3)).heap[vb]? = some (.cells cv Tv (0, 0)) := (RowKit.Below.heap_alloc w _ vb hvw).trans hwv
  have hcpA : ∀ (W : World), W.heap = (w.alloc (.cells row 3)).heap → ∀ ty dc, (Builtin.copy_ #[23, 23] ty #[.slice (some ⟨w.heap.size, i * 1, none⟩) (n + m - i) dc, .slice (some ⟨vb, voff, none⟩) m vc]).run Try.prog W = .ok (goInt m) (W.setRow w.heap.size (spl row (i * 1) cv voff (m * 1))) := fun W hW ty dc => by
    exact run_copyRaw (K := 1) Try.underlying23 zE W (k := m) (by rw [hW]; exact hA0) (by rw [hW]; exact hAv) (by simp only [Nat.min_def]; split <;> omega) (by omega) (by omega) ho2 ty
  have hr1 : (spl row (i * 1) cv voff (m * 1)).size = row.size := spl_size (by omega) (by omega)
  have hcpB : ∀ (W : World), W.heap = ((w.alloc (.cells row 3)).setRow w.heap.size (spl row (i * 1) cv voff (m * 1))).heap → ∀ ty dc sc, (Builtin.copy_ #[23, 23] ty #[.slice (some ⟨w.heap.size, (i + m) * 1, none⟩) (n + m - (i + m)) dc, .slice (some ⟨b, off + i * 1, none⟩) (n - i) sc]).run Try.prog W = .ok (goInt (n - i : Nat)) (W.setRow w.heap.size (spl (spl row (i * 1) cv voff (m * 1)) ((i + m) * 1) cb (off + i * 1) ((n - i) * 1))) := fun W hW ty dc sc => by
    exact run_copyRaw (K := 1) Try.underlying23 zE W (k := n - i) (by rw [hW]; exact setRow_heap _ _ _ _ _ _ hA0) (by rw [hW, setRow_other _ _ _ _ (by omega : b ≠ w.heap.size)]; exact hAb) (by simp only [Nat.min_def]; split <;> omega) (by omega) (by omega) (fun q hq => by rw [Nat.add_assoc]; exact ho1 _ (by omega)) ty
  have hz1 : ¬ ((m : Int) = 0) := by omega
  have hz2 : ¬ ((i : Int) = (n : Int)) := by omega
  have hz3 : (c : Int) < (n : Int) + (m : Int) := by omega
  have hGi : ¬ (G = i) := by omega
  have hGim : ¬ (G = i + m) := by omega
  have hci : ¬ (c = i) := by omega
  have b1 : (0 : Int) ≤ (i : Int) + (m : Int) := by omega
  have hin : i ≤ n := by omega
  have htn : ((i : Int) + (m : Int)).toNat = i + m := by omega
  have b3 : (i : Int) ≤ (n : Int) := by omega
  have hic : i ≤ c := by omega
  have b5 : (i : Int) ≤ (n : Int) + (m : Int) := by omega
  clear hold hol hrow hG hN1 hN2 hN3 hN4 hN5 hN7 hN8 hN9 ho1 ho2 hkk hik hr1 hGK
  simp only [Nat.mul_one] at *
  go_enter Try.func36, Try.ntmps36
  go_wp2_with (first
    | (at_builtin; refine Lib.wpList_append_run _ rfl _ _ _ _ rfl _ _ rfl rfl _ _ (hrz _) ?_))
  rw [hcpA (w.alloc (.cells row 3)).drew rfl 3 (G - i)]
  go_wp2
  go_region_law (refine step_cpI rfl _ _ 23 23 rfl (.slice (some ⟨w.heap.size, (i + m), none⟩) (n + m - (i + m)) (G - (i + m))) (.slice (some ⟨b, off + i, none⟩) (n - i) (c - i)) (by simp [Act.eval, Act.put]) (by simp [Act.eval, Act.put]) (hcpB ((w.alloc (.cells row 3)).drew.setRow w.heap.size (spl row (i) cv voff (m))).drew rfl 3 (G - (i + m)) (c - i)) ?_)
  go_wp2
  go_ret
  exact ⟨rfl, rfl, rfl, rfl, rfl, Nat.le_trans (Nat.le_succ _) (Nat.le_succ _)⟩
theorem ins36 : InsRaw Try.prog 36 1 := insRaw_of (E := 3) inR36 inG36
theorem T_slices_Insert_int_int__o0_o1 (i : Int) (xs : List Int) (ys : List Int) (post : List Int → Prop) (g : V_slices_Insert_int_int__o0_o1 i xs ys post) :
    Tr Try.prog 36 [.o 0, .i i, .o 1] [(0, .val (.os 1 eI xs)), (1, .val (.os 1 eI ys))] 2 (fun A H' k => ∃ y, post y ∧ A = (.o 2) ∧ H' = [(2, .val (.os 1 eI y))] ∧ k = 3) := by
 unfold V_slices_Insert_int_int__o0_o1 at g
 rcases g with g | g
 refine (Tr.drop1 (T_slices_Insert_int_int__o0_o1_end i xs ys _ g)).mono fun A H' k h => ?_
 obtain ⟨y, hy, hA, hH, hk⟩ := h
 exact ⟨y.1, hy, hA, hH, hk⟩
 obtain ⟨⟨h0, h1⟩, h2, h3, hp⟩ := g
 obtain ⟨n, rfl⟩ := Int.eq_ofNat_of_zero_le h0
 exact Tr.insert ins36 (enc := eI) (fun _ => rfl) xs ys n (by omega) h2 h3 hp
def siR37 : Go.Shelf.Ren := ⟨fun | 125 => 53 | 128 => 69 | 129 => 70 | 189 => 37 | 215 => 47 | 216 => 66 | 257 => 52 | 294 => 60 | 295 => 61 | 296 => 62 | 297 => 63 | 298 => 64 | 299 => 65 | 300 => 67 | 301 => 68 | 328 => 81 | 329 => 82 | 330 => 83 | 331 => 84 | 332 => 85 | 343 => 90 | n => n, fun | 0 => 0 | 3 => 3 | 4 => 4 | 5 => 5 | 9 => 9 | 28 => 23 | 46 => 63 | 51 => 81 | 53 => 83 | 131 => 48 | 182 => 73 | 183 => 74 | 218 => 89 | 222 => 93 | 228 => 97 | 229 => 98 | n => n, fun n => n⟩
theorem siL37 : Go.Proofs.Lays.n189 Try.prog siR37 where
  mixed := by kernel_rfl
  f125 := Try.func53.trans (congrArg some (by kernel_rfl))
  f128 := Try.func69.trans (congrArg some (by kernel_rfl))
  f129 := Try.func70.trans (congrArg some (by kernel_rfl))
  f189 := Try.func37.trans (congrArg some (by kernel_rfl))
  f215 := Try.func47.trans (congrArg some (by kernel_rfl))
  f216 := Try.func66.trans (congrArg some (by kernel_rfl))
  f257 := Try.func52.trans (congrArg some (by kernel_rfl))
  f294 := Try.func60.trans (congrArg some (by kernel_rfl))
  f295 := Try.func61.trans (congrArg some (by kernel_rfl))
  f296 := Try.func62.trans (congrArg some (by kernel_rfl))
  f297 := Try.func63.trans (congrArg some (by kernel_rfl))
  f298 := Try.func64.trans (congrArg some (by kernel_rfl))
  f299 := Try.func65.trans (congrArg some (by kernel_rfl))
  f300 := Try.func67.trans (congrArg some (by kernel_rfl))
  f301 := Try.func68.trans (congrArg some (by kernel_rfl))
  f328 := Try.func81.trans (congrArg some (by kernel_rfl))
  f329 := Try.func82.trans (congrArg some (by kernel_rfl))
  f330 := Try.func83.trans (congrArg some (by kernel_rfl))
  f331 := Try.func84.trans (congrArg some (by kernel_rfl))
  f332 := Try.func85.trans (congrArg some (by kernel_rfl))
  f343 := Try.func90.trans (congrArg some (by kernel_rfl))
  t0 := Try.underlying0
  a0 := Try.isAgg0
  z0 := Try.sizeOf0
  v0 := Try.zeroValue0
  t3 := Try.underlying3
  a3 := Try.isAgg3
  z3 := Try.sizeOf3
  v3 := Try.zeroValue3
  t4 := Try.underlying4
  a4 := Try.isAgg4
  z4 := Try.sizeOf4
  v4 := Try.zeroValue4
  t5 := Try.underlying5
  a5 := Try.isAgg5
  z5 := Try.sizeOf5
  v5 := Try.zeroValue5
  t9 := Try.underlying9
  a9 := Try.isAgg9
  z9 := Try.sizeOf9
  v9 := Try.zeroValue9
  t28 := Try.underlying23
  a28 := Try.isAgg23
  z28 := Try.sizeOf23
  v28 := Try.zeroValue23
  t46 := Try.underlying63
  a46 := Try.isAgg63
  z46 := Try.sizeOf63
  v46 := Try.zeroValue63
  t51 := Try.underlying81
  a51 := Try.isAgg81
  z51 := Try.sizeOf81
  v51 := Try.zeroValue81
  t53 := Try.underlying83
  a53 := Try.isAgg83
  z53 := Try.sizeOf83
  v53 := Try.zeroValue83
  t131 := Try.underlying48
  a131 := Try.isAgg48
  z131 := Try.sizeOf48
  v131 := Try.zeroValue48
  t182 := Try.underlying73
  a182 := Try.isAgg73
  z182 := Try.sizeOf73
  v182 := Try.zeroValue73
  t183 := Try.underlying74
  a183 := Try.isAgg74
  z183 := Try.sizeOf74
  v183 := Try.zeroValue74
  t218 := Try.underlying89
  a218 := Try.isAgg89
  z218 := Try.sizeOf89
  v218 := Try.zeroValue89
  t222 := Try.underlying93
  a222 := Try.isAgg93
  z222 := Try.sizeOf93
  v222 := Try.zeroValue93
  t228 := Try.underlying97
  a228 := Try.isAgg97
  z228 := Try.sizeOf97
  v228 := Try.zeroValue97
  t229 := Try.underlying98
  a229 := Try.isAgg98
  z229 := Try.sizeOf98
  v229 := Try.zeroValue98
theorem T_slices_Sort_int_int__o0 (p0 : List Int) (post : List Int → Prop) (g : V_slices_Sort_int_int__o0 p0 post) :
    Tr Try.prog 37 [.o 0] [(0, .val (.os 1 eI p0))] 1 (fun A H' k => ∃ y, post y ∧ A = (.tup []) ∧ H' = [(0, .val (.os 1 eI y))] ∧ k = 1) := by
 unfold V_slices_Sort_int_int__o0 at g
 exact Tr.sortInt siL37 p0 g.1 g.2
theorem T_batch_InTime (l : List ApiJob) (start : Int) (post : (List Int) → Prop) (g : V_batch_InTime l start post) :
    Tr Try.prog 13 [.sl 3 eApiJob l, .i start] [] 0 (fun A H' k => ∃ y, post y ∧ A = (.o 0) ∧ H' = [(0, .val (.os 1 eI y))] ∧ k = 1) := by
 refine Tr.go Try.func13 Try.ntmps13 fun _ _ _ _ o => ?_
 unfold V_batch_InTime at g
 refine C.ss (U.bx ?_)
 refine U.pd 1 T (C.xt ?_)
 refine U.pd 1 T (C.xt ?_)
 refine U.pd 2 T (C.xs (C.ss ?_))
 refine U.ps 1 T rfl (U.k (T_batch_Due l _ g) en10 (fun x9 g => ?_))
 refine U.pd 2 T (C.nx ?_)
 refine C.jn (fun (x10 : List Int) => [(5, .o 0)]) (fun x10 => [(0, .val (.os 1 eI x10))]) 1 g (fun x10 g => ?_) fun J11 g j11 => ?_
 refine C.xt (U.ps 1 T rfl (U.c [some 0] (T_slices_Sort_int_int__o0 x10 _ g) en37 (fun x45 g => ?_)))
 refine U.done (C.xt (U.ps 1 T rfl (U.k (T_slices_Clone_int_int x45 _ g) en38 (fun x48 g => ?_))))
 refine U.pd 1 T (C.nx (C.ret ?_))
 exact C.g1 [some 2] T o ⟨x48, g, rfl, rfl, rfl⟩
 refine C.block ?_
 refine St.wk (C.loop (fun (s12 : List Int × Int × Int) => [(2, .p 0 0), (5, .o 1), (6, .i s12.2.1), (13, .o 2), (14, .i (x9.length : Int)), (15, .i s12.2.2)]) (fun s12 => [(0, .box [.sl 3 eApiJob l]), (1, .val (.os 1 eI s12.1)), (2, .val (.os 1 eI x9))]) g (fun s12 Y13 g => ?_)) (Wk.mk' [some 0, none, some 1] rfl rfl ⟨⟨_, rfl, (.eq rfl)⟩, ⟨_, rfl, (.nilO _ _ ⟨rfl, rfl⟩ rfl)⟩, ChkG.eqs rfl⟩ ⟨bX, ⟨_, rfl, .nil _ _⟩, vL, trivial⟩ rfl)
 refine C.ss (U.pd 1 T (C.xs ?_))
 refine C.ite rfl g (fun b16 g => ?_) fun b16 g => ?_
 refine C.skip (C.xs (C.block (C.ss ?_)))
 obtain ⟨x19, y19, g⟩ := g
 refine U.r rfl (.none rfl) rfl rfl (by exact Rd.io T rfl rfl rfl rfl rfl rfl rfl y19) ?_
 refine U.r rfl (.none rfl) rfl rfl (by exact Rd.le T rfl rfl rfl (idx_some y19).2.2 rfl rfl rfl) ?_
 refine U.pd 1 T (C.xt ?_)
 refine U.ps 3 T rfl (U.k (T_slices_BinarySearchFunc_int_int_int__batch_InTime_1 s12.1 x19 l _ g) en33 (fun x22 g => ?_))
 refine U.pd 5 T (C.xt ?_)
 refine U.ps 3 T rfl (U.bs T eI ([x19] : List Int) ?_)
 refine U.c [some 1, some 3] (T_slices_Insert_int_int__o0_o1 x22.1 s12.1 ([x19] : List Int) _ g) en36 fun x25 g => ?_
 refine U.pd 1 T (C.xt ?_)
 refine U.ps 3 T rfl ?_
 obtain ⟨x28, y28, g⟩ := g
 refine U.ix T y28 ?_
 refine U.pd 4 T (C.xt ?_)
 refine U.ps 3 T rfl (U.ix T y28 ?_)
 refine U.pd 3 T (C.nx ?_)
 refine C.jn (fun (x31 : List Int × Int) => [(2, .p 0 0), (5, .o 1), (6, .i x31.2), (13, .o 2), (14, .i (x9.length : Int)), (15, .i s12.2.2)]) (fun x31 => [(0, .box [.sl 3 eApiJob l]), (1, .val (.os 1 eI x31.1)), (2, .val (.os 1 eI x9))]) 3 g (fun x31 g => ?_) fun J32 g j32 => ?_
 refine C.bnx (C.nx (U.start (U.pd 2 T (C.nx ?_))))
 exact St.wk (C.next g) (Wk.a (idR 3))
 refine C.ite rfl g (fun b33 g => ?_) fun b33 g => ?_
 refine C.seq (D.bg mix 9999 [0, 6] [] (fun hQ hS ws M' => ?_))
 refine D.pq 3 (zl [0, 1, 2]) T ?_
 obtain ⟨x36, y36, g⟩ := g
 refine D.q 3 [] hQ hS rfl (.none rfl) rfl rfl (by exact Rd.io T rfl rfl rfl rfl rfl rfl rfl y36) rfl (by kernel_rfl) ?_
 refine D.q 4 [] hQ hS rfl (.none rfl) rfl rfl (by exact Rd.le T rfl rfl rfl (idx_some y36).2.2 rfl rfl rfl) rfl (by kernel_rfl) ?_
 obtain ⟨x37, y37, g⟩ := g
 refine D.ix 5 [] T y37 ?_
 refine D.pq 4 (zl [6, 7, 8, 9]) T ?_
 refine D.done (by kernel_rfl) ?_
 refine C.nx (U.start (U.ps 1 T rfl ?_))
 obtain ⟨y40, g⟩ := g
 refine U.e1 rfl (.none rfl) (by exact Eff1.sw T rfl rfl rfl rfl rfl rfl rfl rfl (.some _ rfl) (.none _) y40) ?_
 refine U.pd 1 T ?_
 exact St.wa [some 0, some 7, some 2] (j32 _ g)
 refine C.skip ?_
 exact St.wa [some 0, some 6, some 2] (j32 _ g)
 refine C.exit (C.ex (C.ex (C.bex ?_)))
 exact St.wa [some 1] (j11 _ g)
theorem T_batch_Merge (l : List ApiJob) (setup : Int) (post : (List ApiJob) → Prop) (g : V_batch_Merge l setup post) :
    Tr Try.prog 16 [.sl 3 eApiJob l, .i setup] [] 0 (fun A H' k => ∃ y, post y ∧ A = (.o 0) ∧ H' = [(0, .val (.os 3 eApiJob y))] ∧ k = 1) := by
 refine Tr.go Try.func16 Try.ntmps16 fun _ _ _ _ o => ?_
 unfold V_batch_Merge at g
 refine C.ss (U.pd 1 T (C.xt ?_))
 refine U.pd 1 T (C.xs (C.ss ?_))
 refine U.ps 1 T rfl (U.k (T_batch_Batches l _ g) en15 (fun x7 g => ?_))
 refine U.pd 2 T (C.nx ?_)
 refine C.jn (fun (x8 : List ApiJob) => [(5, .o 0)]) (fun x8 => [(0, .val (.os 3 eApiJob x8))]) 1 g (fun x8 g => ?_) fun J9 g j9 => ?_
 refine C.xt (U.pd 2 T (C.nx (C.ret ?_)))
 exact C.g1 [some 0] T o ⟨x8, g, rfl, rfl, rfl⟩
 refine C.block ?_
 refine St.wk (C.loop (fun (s10 : List ApiJob × List (List Int) × Int) => [(0, .sl 3 eApiJob l), (1, .i setup), (5, .o 0), (12, .o 1), (13, .i (x7.length : Int)), (14, .i s10.2.2)]) (fun s10 => [(0, .val (.os 3 eApiJob s10.1)), (1, .val (.os 1 eOeI s10.2.1))]) g (fun s10 Y11 g => ?_)) (Wk.mk' [none, some 0] rfl rfl ⟨⟨_, rfl, (.eq rfl)⟩, ⟨_, rfl, (.eq rfl)⟩, ⟨_, rfl, (.nilO _ _ ⟨rfl, rfl⟩ rfl)⟩, ChkG.eqs rfl⟩ ⟨⟨_, rfl, .nil _ _⟩, vL, trivial⟩ rfl)
 refine C.ss (U.pd 1 T (C.xs ?_))
 refine C.ite rfl g (fun b14 g => ?_) fun b14 g => ?_
 refine C.skip (C.xs ?_)
 refine C.jn (fun (x15 : List ApiJob × List (List Int)) => [(0, .sl 3 eApiJob l), (1, .i setup), (5, .o 0), (12, .o 1), (13, .i (x7.length : Int)), (14, .i s10.2.2)]) (fun x15 => [(0, .val (.os 3 eApiJob x15.1)), (1, .val (.os 1 eOeI x15.2))]) 2 g (fun x15 g => ?_) fun J16 g j16 => ?_
 refine C.nx (U.start (U.pd 2 T (C.nx ?_)))
 exact St.wk (C.next g) (Wk.a (idR 2))
 refine C.block (C.ss ?_)
 obtain ⟨x19, y19, g⟩ := g
 refine U.r rfl (.none rfl) rfl rfl (by exact Rd.io T rfl rfl rfl rfl rfl rfl rfl y19) ?_
 refine St.lend (l := 1) (i := (Int.toNat s10.2.2)) rfl (idx_some y19).2.2 rfl (fun _ => rfl) ?_
 refine U.r rfl (.none rfl) rfl rfl (by exact Rd.ll T rfl rfl rfl (.head _) rfl rfl rfl rfl) ?_
 refine U.pd 1 T (C.xs ?_)
 refine D.bg mix 17 [2] [] (fun hQ hS ws M' => ?_)
 refine D.pq 2 (zl [0, 1]) T ?_
 obtain ⟨x22, y22, g⟩ := g
 refine D.q 2 [] hQ hS rfl (.none rfl) rfl rfl (by exact Rd.io T rfl rfl rfl rfl rfl rfl rfl y22) rfl (by kernel_rfl) ?_
 refine D.q 3 [] hQ hS rfl (.none rfl) rfl rfl (by exact Rd.le T rfl rfl rfl (idx_some y22).2.2 rfl rfl rfl) rfl (by kernel_rfl) ?_
 obtain ⟨x23, y23, g⟩ := g
 refine D.ix 4 [] T y23 ?_
 refine D.pq 5 (zl [5, 6, 7, 8, 9]) T ?_
 refine D.q 10 [] hQ hS rfl (.none rfl) rfl rfl (by exact Rd.io T rfl rfl rfl rfl rfl rfl rfl y22) rfl (by kernel_rfl) ?_
 refine D.q 11 [] hQ hS rfl (.none rfl) rfl rfl (by exact Rd.le T rfl rfl rfl (idx_some y22).2.2 rfl rfl rfl) rfl (by kernel_rfl) ?_
 refine D.ix 12 [] T y23 ?_
 refine D.pq 3 (zl [13, 14, 15]) T ?_
 refine D.e1 16 rfl (.none rfl) (by exact Eff1.al T rfl rfl rfl rfl) (by kernel_rfl) rfl rfl ?_
 refine D.ze1 rfl (.none rfl) (by exact Eff1.st T rfl rfl rfl rfl rfl rfl rfl rfl rfl rfl) (by kernel_rfl) (by kernel_rfl) ?_
 refine C.xs (C.ss (U.pd 3 T (C.nx ?_)))
 refine C.jn (fun (x26 : Int) => [(0, .sl 3 eApiJob l), (1, .i setup), (5, .o 0), (8, .p 1 0), (12, .o 2), (13, .i (x7.length : Int)), (14, .i s10.2.2)]) (fun x26 => [(0, .val (.os 3 eApiJob s10.1)), (1, .box [.i x23.Shelf, .i x26, .i x23.Due]), (2, .lent eOeI s10.2.1 [((Int.toNat s10.2.2), 3)]), (3, .val (.os 1 eI x19))]) 4 g (fun x26 g => ?_) fun J27 g j27 => ?_
 refine C.nx (U.start (U.ps 2 T rfl (U.bs T eApiJob ([({ Shelf := x23.Shelf, Work := x26, Due := x23.Due : ApiJob })] : List ApiJob) ?_)))
 obtain ⟨y43, g⟩ := g
 refine U.ap T y43 ?_
 refine U.pd 1 T ?_
 refine St.putb (l := 2) (l' := 3) (y := x19) rfl rfl rfl (fun _ h => nomatch h) rfl _ rfl ?_
 refine C.bnx ?_
 exact St.wa [some 5, some 2] (j16 _ g)
 refine C.block ?_
 refine St.wk (C.loop (fun (s28 : Int × Int) => [(0, .sl 3 eApiJob l), (1, .i setup), (5, .o 0), (8, .p 1 0), (12, .o 2), (13, .i (x7.length : Int)), (14, .i s10.2.2), (34, .o 3), (35, .i (x19.length : Int)), (36, .i s28.2)]) (fun s28 => [(0, .val (.os 3 eApiJob s10.1)), (1, .box [.i x23.Shelf, .i s28.1, .i x23.Due]), (2, .lent eOeI s10.2.1 [((Int.toNat s10.2.2), 3)]), (3, .val (.os 1 eI x19))]) g (fun s28 Y29 g => ?_)) (Wk.f [some 0, some 3, some 1, some 2] ⟨vL, bX, ⟨_, rfl, .lent rfl rfl⟩, vL, trivial⟩)
 refine C.ss (U.pd 1 T (C.xs ?_))
 refine C.ite rfl g (fun b32 g => ?_) fun b32 g => ?_
 refine C.skip (C.xs (C.block (C.ss ?_)))
 obtain ⟨x35, y35, g⟩ := g
 refine U.r rfl (.none rfl) rfl rfl (by exact Rd.io T rfl rfl rfl rfl rfl rfl rfl y35) ?_
 refine U.r rfl (.none rfl) rfl rfl (by exact Rd.le T rfl rfl rfl (idx_some y35).2.2 rfl rfl rfl) ?_
 refine U.pd 1 T (C.nx ?_)
 refine D.bg mix 9 [1] [] (fun hQ hS ws M' => ?_)
 refine D.pq 4 (zl [0, 1, 2, 3]) T ?_
 obtain ⟨x38, y38, g⟩ := g
 refine D.ix 4 [] T y38 ?_
 refine D.pq 4 (zl [5, 6, 7, 8]) T ?_
 refine D.ze1 rfl (.none rfl) (by exact Eff1.st T rfl rfl rfl rfl rfl rfl rfl rfl rfl rfl) (by kernel_rfl) (by kernel_rfl) ?_
 refine C.bnx (C.nx (U.start (U.pd 2 T (C.nx ?_))))
 exact St.wk (C.next g) (Wk.f [some 0, some 1, some 2, some 3] ⟨vL, bX, ⟨_, rfl, .lent rfl rfl⟩, vL, trivial⟩)
 refine C.exit (C.ex (C.ex (C.bex ?_)))
 exact St.wk (j27 _ g) (Wk.f [some 0, some 1, some 2, some 3] ⟨vL, bX, ⟨_, rfl, .lent rfl rfl⟩, vL, trivial⟩)
 refine C.exit (C.ex (C.ex (C.bex ?_)))
 exact St.wa [some 0] (j9 _ g)
theorem T_taquinref43_Same (a : List ApiJob) (b : List ApiJob) (post : Bool → Prop) (g : V_taquinref43_Same a b post) :
    Tr Try.prog 26 [.sl 3 eApiJob a, .sl 3 eApiJob b] [] 0 (pB post) := by
 refine Tr.go Try.func26 Try.ntmps26 fun _ _ _ _ o => ?_
 unfold V_taquinref43_Same at g
 refine C.ss (U.pd 1 T (C.xs (C.ss ?_)))
 refine U.pd 5 T (C.nx ?_)
 refine C.ite rfl g (fun b5 g => ?_) fun b5 g => ?_
 refine C.ss (U.pd 1 T (C.nx (C.ret (C.rt ?_))))
 exact C.f1 T o (pBi g)
 refine C.skip (C.xs (C.ss (U.pd 1 T (C.nx ?_))))
 refine C.jn (fun (x10 : Unit) => []) (fun x10 => []) 0 g (fun x10 g => ?_) fun J11 g j11 => ?_
 refine C.xt (U.pd 1 T (C.nx (C.ret ?_)))
 exact C.f1 T o (pBi g)
 refine C.block (St.wk (C.loop (fun (s12 : Int) => [(0, .sl 3 eApiJob a), (1, .sl 3 eApiJob b), (5, .i s12)]) (fun s12 => []) g (fun s12 Y13 g => ?_)) (Wk.e))
 refine C.seq (C.ss (U.pd 4 T (C.nx ?_)))
 refine C.ite rfl g (fun b16 g => ?_) fun b16 g => ?_
 refine C.skip (C.xs (C.block (C.seq (D.bg mix 9999 [] [] (fun hQ hS ws M' => ?_)))))
 refine D.pq 2 (zl [0, 1]) T ?_
 obtain ⟨x19, y19, g⟩ := g
 refine D.ix 2 [] T y19 ?_
 refine D.pq 3 (zl [3, 4, 5]) T ?_
 obtain ⟨x20, y20, g⟩ := g
 refine D.ix 6 [] T y20 ?_
 refine D.pq 1 [(7, [])] T ?_
 refine D.q 8 [] hQ hS rfl (.none rfl) rfl rfl (by exact Rd.nes T rfl rfl eqt29 rfl rfl rfl) rfl (by kernel_rfl) ?_
 refine D.done (by kernel_rfl) ?_
 refine C.nx ?_
 refine C.ite rfl g (fun b21 g => ?_) fun b21 g => ?_
 refine C.ss (U.pd 1 T (C.nx (C.ret (C.brt (C.rt (C.rt (C.brt (C.rt ?_))))))))
 exact C.f1 T o (pBi g)
 refine C.skip (C.bnx (C.nx (U.start (U.pd 3 T (C.nx ?_)))))
 exact St.wk (C.next g) (Wk.e)
 refine C.exit (C.ex (C.ex (C.bex ?_)))
 exact St.wk (j11 _ g) (Wk.mk' [] rfl rfl trivial trivial rfl)
theorem T_taquinlaw43_small (post : Bool → Prop) (g : V_taquinlaw43_small post) :
    Tr Try.prog 8 [] [] 0 (pB post) := by
 refine Tr.go Try.func8 Try.ntmps8 fun _ _ _ _ o => ?_
 unfold V_taquinlaw43_small at g
 refine C.ss (U.pd 1 T (C.xt ?_))
 refine U.ps 3 T rfl (U.bs T eApiJob ([({ Shelf := 7, Work := 4, Due := 5 : ApiJob }), ({ Shelf := 8, Work := 3, Due := 4 : ApiJob }), ({ Shelf := 7, Work := 2, Due := 9 : ApiJob })] : List ApiJob) ?_)
 refine U.pd 1 T (C.xt ?_)
 refine U.ps 1 T rfl (U.k (T_batch_Batches ([({ Shelf := 7, Work := 4, Due := 5 : ApiJob }), ({ Shelf := 8, Work := 3, Due := 4 : ApiJob }), ({ Shelf := 7, Work := 2, Due := 9 : ApiJob })] : List ApiJob) _ g) en15 (fun x7 g => ?_))
 refine U.pd 1 T (C.xs (C.ss ?_))
 refine U.pd 3 T (C.nx ?_)
 refine C.ite rfl g (fun b10 g => ?_) fun b10 g => ?_
 refine C.ss (U.pd 1 T (C.nx (C.ret (C.rt ?_))))
 exact C.f1 T o (pBi g)
 refine C.skip (C.xs ?_)
 refine C.jn (fun (x13 : Bool) => [(1, .o 0), (2, .o 1), (3, .b x13)]) (fun x13 => [(0, .val (.os 3 eApiJob ([({ Shelf := 7, Work := 4, Due := 5 : ApiJob }), ({ Shelf := 8, Work := 3, Due := 4 : ApiJob }), ({ Shelf := 7, Work := 2, Due := 9 : ApiJob })] : List ApiJob))), (1, .val (.os 1 eOeI x7))]) 2 g (fun x13 g => ?_) fun J14 g j14 => ?_
 refine C.xs ?_
 refine C.jn (fun (x22 : Bool) => [(0, .b x22)]) (fun x22 => []) 0 g (fun x22 g => ?_) fun J23 g j23 => ?_
 refine C.nx (C.ret ?_)
 exact C.f1 T o (pBi g)
 refine U.start (U.ps 2 T rfl ?_)
 refine g.cs (fun b24 g => ?_) fun b24 g => ?_
 refine U.pq 1 1 true 31 b24 T ?_
 refine U.k (T_batch_InTime ([({ Shelf := 7, Work := 4, Due := 5 : ApiJob }), ({ Shelf := 8, Work := 3, Due := 4 : ApiJob }), ({ Shelf := 7, Work := 2, Due := 9 : ApiJob })] : List ApiJob) 0 _ g) en13 (fun x25 g => ?_) (hw := .take 1 true 31 _ b24 rfl rfl rfl)
 refine U.e1 rfl (.tk 1 true 31 b24) (by exact Eff1.bs T (enc := eI) (xs := ([1, 2] : List Int)) rfl rfl rfl rfl rfl rfl rfl rfl rfl rfl (fun _ _ => rfl) rfl rfl) ?_
 refine U.k (T_taquinref07_Same x25 ([1, 2] : List Int) _ g) en17 (fun x26 g => ?_) (hw := .take 1 true 31 _ b24 rfl rfl rfl)
 refine U.pk b24 ?_
 refine U.ps 1 T rfl ?_
 refine g.cs (fun b27 g => ?_) fun b27 g => ?_
 refine U.pq 1 7 true 37 b27 T ?_
 obtain ⟨x28, y28, g⟩ := g
 refine U.r rfl (.tk 7 true 37 b27) rfl rfl (by exact Rd.io T rfl rfl rfl rfl rfl rfl rfl y28) ?_
 refine St.lend (l := 1) (i := (Int.toNat 0)) rfl (idx_some y28).2.2 rfl (fun _ => rfl) ?_
 refine U.r rfl (.tk 7 true 37 b27) rfl rfl (by exact Rd.ll T rfl rfl rfl (.head _) rfl rfl rfl rfl) ?_
 refine U.e1 rfl (.tk 7 true 37 b27) (by exact Eff1.bs T (enc := eI) (xs := ([1] : List Int)) rfl rfl rfl rfl rfl rfl rfl rfl rfl rfl (fun _ _ => rfl) rfl rfl) ?_
 refine U.k (T_taquinref07_Same x28 ([1] : List Int) _ g) en17 (fun x29 g => ?_) (hw := .take 7 true 37 _ b27 rfl rfl rfl)
 refine U.pk b27 ?_
 refine U.ps 1 T rfl ?_
 refine g.cs (fun b30 g => ?_) fun b30 g => ?_
 refine U.pq 1 14 true 44 b30 T ?_
 obtain ⟨x31, y31, g⟩ := g
 refine U.r rfl (.tk 14 true 44 b30) rfl rfl (by exact Rd.il T rfl rfl rfl rfl rfl rfl rfl y31) ?_
 obtain ⟨y32, g⟩ := g
 refine St.lend2 (l := 1) (i := (Int.toNat 1)) rfl (fun p hp => by simp only [List.mem_singleton] at hp; subst hp; exact y32) (idx_some y31).2.2 rfl ?_
 refine U.r rfl (.tk 14 true 44 b30) rfl rfl (by exact Rd.ll T rfl rfl rfl (.head _) rfl rfl rfl rfl) ?_
 refine U.e1 rfl (.tk 14 true 44 b30) (by exact Eff1.bs T (enc := eI) (xs := ([0, 2] : List Int)) rfl rfl rfl rfl rfl rfl rfl rfl rfl rfl (fun _ _ => rfl) rfl rfl) ?_
 refine U.k (T_taquinref07_Same x31 ([0, 2] : List Int) _ g) en17 (fun x33 g => ?_) (hw := .take 14 true 44 _ b30 rfl rfl rfl)
 refine U.pk b30 ?_
 refine U.ps 1 T rfl ?_
 refine g.cs (fun b34 g => ?_) fun b34 g => ?_
 refine U.pq 1 21 true 51 b34 T ?_
 refine U.k (T_batch_Merge ([({ Shelf := 7, Work := 4, Due := 5 : ApiJob }), ({ Shelf := 8, Work := 3, Due := 4 : ApiJob }), ({ Shelf := 7, Work := 2, Due := 9 : ApiJob })] : List ApiJob) 1 _ g) en16 (fun x35 g => ?_) (hw := .take 21 true 51 _ b34 rfl rfl rfl)
 refine U.pq 2 21 true 51 b34 T ?_
 refine U.e1 rfl (.tk 21 true 51 b34) (by exact Eff1.bs T (enc := eApiJob) (xs := ([({ Shelf := 8, Work := 4, Due := 4 : ApiJob }), ({ Shelf := 7, Work := 7, Due := 5 : ApiJob })] : List ApiJob)) rfl rfl rfl rfl rfl rfl rfl rfl rfl rfl (fun _ _ => rfl) rfl rfl) ?_
 refine U.k (T_taquinref43_Same x35 ([({ Shelf := 8, Work := 4, Due := 4 : ApiJob }), ({ Shelf := 7, Work := 7, Due := 5 : ApiJob })] : List ApiJob) _ g) en26 (fun x36 g => ?_) (hw := .take 21 true 51 _ b34 rfl rfl rfl)
 refine U.pk b34 ?_
 refine U.pd 1 T ?_
 refine St.putb (l := 1) (l' := 6) (y := x31) rfl rfl rfl (fun p hp => by simp only [List.mem_singleton] at hp; subst hp; exact y32) rfl _ rfl ?_
 refine St.putb (l := 1) (l' := 4) (y := x28) rfl rfl rfl (fun _ h => nomatch h) rfl _ rfl ?_
 exact St.wn (j23 _ g)
 refine U.sk' 6 21 true 51 b34 ?_
 refine U.pk' b34 ?_
 refine U.pd 1 T ?_
 refine St.putb (l := 1) (l' := 6) (y := x31) rfl rfl rfl (fun p hp => by simp only [List.mem_singleton] at hp; subst hp; exact y32) rfl _ rfl ?_
 refine St.putb (l := 1) (l' := 4) (y := x28) rfl rfl rfl (fun _ h => nomatch h) rfl _ rfl ?_
 exact St.wn (j23 _ g)
 refine U.sk' 5 14 true 44 b30 ?_
 refine U.pk' b30 ?_
 refine U.ps 1 T rfl (U.sk' 6 21 true 51 rfl ?_)
 refine U.pk' rfl ?_
 refine U.pd 1 T ?_
 refine St.putb (l := 1) (l' := 4) (y := x28) rfl rfl rfl (fun _ h => nomatch h) rfl _ rfl ?_
 exact St.wn (j23 _ g)
 refine U.sk' 5 7 true 37 b27 ?_
 refine U.pk' b27 ?_
 refine U.ps 1 T rfl (U.sk' 5 14 true 44 rfl ?_)
 refine U.pk' rfl ?_
 refine U.ps 1 T rfl (U.sk' 6 21 true 51 rfl ?_)
 refine U.pk' rfl ?_
 refine U.pd 1 T ?_
 exact St.wn (j23 _ g)
 refine U.sk' 4 1 true 31 b24 ?_
 refine U.pk' b24 ?_
 refine U.ps 1 T rfl (U.sk' 5 7 true 37 rfl ?_)
 refine U.pk' rfl ?_
 refine U.ps 1 T rfl (U.sk' 5 14 true 44 rfl ?_)
 refine U.pk' rfl ?_
 refine U.ps 1 T rfl (U.sk' 6 21 true 51 rfl ?_)
 refine U.pk' rfl ?_
 refine U.pd 1 T ?_
 exact St.wn (j23 _ g)
 refine U.start (U.ps 1 T rfl (U.k (T_batch_Due ([({ Shelf := 7, Work := 4, Due := 5 : ApiJob }), ({ Shelf := 8, Work := 3, Due := 4 : ApiJob }), ({ Shelf := 7, Work := 2, Due := 9 : ApiJob })] : List ApiJob) _ g) en10 (fun x15 g => ?_)))
 refine U.bs T eI ([1, 0, 2] : List Int) ?_
 refine U.k (T_taquinref07_Same x15 ([1, 0, 2] : List Int) _ g) en17 fun x16 g => ?_
 refine U.ps 1 T rfl ?_
 refine g.cs (fun b17 g => ?_) fun b17 g => ?_
 refine U.pq 1 4 true 17 b17 T ?_
 refine U.e1 rfl (.tk 4 true 17 b17) (by exact Eff1.bs T (enc := eI) (xs := ([1, 0, 2] : List Int)) rfl rfl rfl rfl rfl rfl rfl rfl rfl rfl (fun _ _ => rfl) rfl rfl) ?_
 refine U.k (T_batch_Ends ([({ Shelf := 7, Work := 4, Due := 5 : ApiJob }), ({ Shelf := 8, Work := 3, Due := 4 : ApiJob }), ({ Shelf := 7, Work := 2, Due := 9 : ApiJob })] : List ApiJob) ([1, 0, 2] : List Int) 0 _ g) en22 (fun x18 g => ?_) (hw := .take 4 true 17 _ b17 rfl rfl rfl)
 refine U.e1 rfl (.tk 4 true 17 b17) (by exact Eff1.bs T (enc := eI) (xs := ([3, 7, 9] : List Int)) rfl rfl rfl rfl rfl rfl rfl rfl rfl rfl (fun _ _ => rfl) rfl rfl) ?_
 refine U.k (T_taquinref07_Same x18 ([3, 7, 9] : List Int) _ g) en17 (fun x19 g => ?_) (hw := .take 4 true 17 _ b17 rfl rfl rfl)
 refine U.pk b17 ?_
 refine U.ps 1 T rfl ?_
 refine g.cs (fun b20 g => ?_) fun b20 g => ?_
 refine U.pq 1 11 true 24 b20 T ?_
 refine U.e1 rfl (.tk 11 true 24 b20) (by exact Eff1.bs T (enc := eI) (xs := ([1, 0, 2] : List Int)) rfl rfl rfl rfl rfl rfl rfl rfl rfl rfl (fun _ _ => rfl) rfl rfl) ?_
 refine U.k (T_batch_Worst ([({ Shelf := 7, Work := 4, Due := 5 : ApiJob }), ({ Shelf := 8, Work := 3, Due := 4 : ApiJob }), ({ Shelf := 7, Work := 2, Due := 9 : ApiJob })] : List ApiJob) ([1, 0, 2] : List Int) 0 _ g) en12 (fun x21 g => ?_) (hw := .take 11 true 24 _ b20 rfl rfl rfl)
 refine U.pq 1 11 true 24 b20 T ?_
 refine U.pk b20 ?_
 refine U.pd 1 T ?_
 exact St.wa (idR 2) (j14 _ g)
 refine U.sk' 4 11 true 24 b20 ?_
 refine U.pk' b20 ?_
 refine U.pd 1 T ?_
 exact St.wa (idR 2) (j14 _ g)
 refine U.sk' 5 4 true 17 b17 ?_
 refine U.pk' b17 ?_
 refine U.ps 1 T rfl (U.sk' 4 11 true 24 rfl ?_)
 refine U.pk' rfl ?_
 refine U.pd 1 T ?_
 exact St.wa (idR 2) (j14 _ g)
theorem T_batch_Right_1 (x_1 : ApiJob) (post : Bool → Prop) (g : V_batch_Right_1 x_1 post) :
    Tr Try.prog 42 [.agg (eApiJob x_1)] [] 0 (pB post) := by
 refine Tr.go Try.func42 Try.ntmps42 fun _ _ _ _ o => ?_
 unfold V_batch_Right_1 at g
 refine C.ss (U.bx ?_)
 refine U.pd 1 T (C.xs ?_)
 refine C.jn (fun (x3 : Bool) => [(2, .b x3)]) (fun x3 => []) 0 g (fun x3 g => ?_) fun J4 g j4 => ?_
 refine C.nx (C.ret ?_)
 exact C.f1 T o (pBi g)
 refine U.start (U.ps 4 T rfl ?_)
 refine g.cs (fun b5 g => ?_) fun b5 g => ?_
 refine U.sk' 3 3 false 6 b5 ?_
 refine U.pk b5 ?_
 refine U.ps 1 T rfl (U.sk' 3 8 false 11 rfl ?_)
 refine U.pk rfl ?_
 refine U.ps 1 T rfl (U.sk' 3 13 false 16 rfl ?_)
 refine U.pk rfl ?_
 refine U.ps 1 T rfl (U.sk' 3 18 false 21 rfl ?_)
 refine U.pk rfl ?_
 refine U.ps 1 T rfl (U.sk' 3 23 false 26 rfl ?_)
 refine U.pk rfl ?_
 refine U.pd 1 T ?_
 exact St.wn (j4 _ g)
 refine U.pq 3 3 false 6 b5 T ?_
 refine U.pk' b5 ?_
 refine U.ps 1 T rfl ?_
 refine g.cs (fun b6 g => ?_) fun b6 g => ?_
 refine U.sk' 3 8 false 11 b6 ?_
 refine U.pk b6 ?_
 refine U.ps 1 T rfl (U.sk' 3 13 false 16 rfl ?_)
 refine U.pk rfl ?_
 refine U.ps 1 T rfl (U.sk' 3 18 false 21 rfl ?_)
 refine U.pk rfl ?_
 refine U.ps 1 T rfl (U.sk' 3 23 false 26 rfl ?_)
 refine U.pk rfl ?_
 refine U.pd 1 T ?_
 exact St.wn (j4 _ g)
 refine U.pq 3 8 false 11 b6 T ?_
 refine U.pk' b6 ?_
 refine U.ps 1 T rfl ?_
 refine g.cs (fun b7 g => ?_) fun b7 g => ?_
 refine U.sk' 3 13 false 16 b7 ?_
 refine U.pk b7 ?_
 refine U.ps 1 T rfl (U.sk' 3 18 false 21 rfl ?_)
 refine U.pk rfl ?_
 refine U.ps 1 T rfl (U.sk' 3 23 false 26 rfl ?_)
 refine U.pk rfl ?_
 refine U.pd 1 T ?_
 exact St.wn (j4 _ g)
 refine U.pq 3 13 false 16 b7 T ?_
 refine U.pk' b7 ?_
 refine U.ps 1 T rfl ?_
 refine g.cs (fun b8 g => ?_) fun b8 g => ?_
 refine U.sk' 3 18 false 21 b8 ?_
 refine U.pk b8 ?_
 refine U.ps 1 T rfl (U.sk' 3 23 false 26 rfl ?_)
 refine U.pk rfl ?_
 refine U.pd 1 T ?_
 exact St.wn (j4 _ g)
 refine U.pq 3 18 false 21 b8 T ?_
 refine U.pk' b8 ?_
 refine U.ps 1 T rfl ?_
 refine g.cs (fun b9 g => ?_) fun b9 g => ?_
 refine U.sk' 3 23 false 26 b9 ?_
 refine U.pk b9 ?_
 refine U.pd 1 T ?_
 exact St.wn (j4 _ g)
 refine U.pq 3 23 false 26 b9 T ?_
 refine U.pk' b9 ?_
 refine U.pd 1 T ?_
 exact St.wn (j4 _ g)
theorem T_slices_IndexFunc_api_Job_api_Job__batch_Right_1 (s_1 : List ApiJob) (post : Int → Prop) (g : V_slices_IndexFunc_api_Job_api_Job__batch_Right_1 s_1 post) :
    Tr Try.prog 55 [.sl 3 eApiJob s_1, .fn (.func 42) [] []] [] 0 (pI post) := by
 refine Tr.go Try.func55 Try.ntmps55 fun _ _ _ _ o => ?_
 unfold V_slices_IndexFunc_api_Job_api_Job__batch_Right_1 at g
 refine C.ss (U.pd 1 T (C.xs (C.ss ?_)))
 refine U.pd 3 T (C.nx ?_)
 refine C.jn (fun (x5 : Unit) => []) (fun x5 => []) 0 g (fun x5 g => ?_) fun J6 g j6 => ?_
 refine C.xt (U.pd 1 T (C.nx (C.ret ?_)))
 exact C.f1 T o (pIi g)
 refine C.block (St.wk (C.loop (fun (s7 : Int) => [(0, .sl 3 eApiJob s_1), (1, .fn (.func 42) [] []), (7, .i (s_1.length : Int)), (8, .i s7)]) (fun s7 => []) g (fun s7 Y8 g => ?_)) (Wk.e))
 refine C.ss (U.pd 1 T (C.xs ?_))
 refine C.ite rfl g (fun b11 g => ?_) fun b11 g => ?_
 refine C.skip (C.xs (C.block (C.ss (U.pd 2 T (C.xt ?_)))))
 refine U.ps 3 T rfl ?_
 obtain ⟨x16, y16, g⟩ := g
 refine U.ix T y16 ?_
 refine U.ps 1 T rfl (U.k (T_batch_Right_1 x16 _ g) en42 (fun x17 g => ?_))
 refine U.done (C.nx ?_)
 refine C.ite rfl g (fun b18 g => ?_) fun b18 g => ?_
 refine C.ss (U.pd 2 T (C.nx (C.ret (C.brt (C.rt (C.rt (C.brt (C.rt ?_))))))))
 exact C.f1 T o (pIi g)
 refine C.skip (C.bnx (C.nx (U.start (U.pd 2 T (C.nx ?_)))))
 exact St.wk (C.next g) (Wk.e)
 refine C.exit (C.ex (C.ex (C.bex ?_)))
 exact St.wk (j6 _ g) (Wk.mk' [] rfl rfl trivial trivial rfl)
theorem T_slices_ContainsFunc_api_Job_api_Job__batch_Right_1 (s_1 : List ApiJob) (post : Bool → Prop) (g : V_slices_ContainsFunc_api_Job_api_Job__batch_Right_1 s_1 post) :
    Tr Try.prog 43 [.sl 3 eApiJob s_1, .fn (.func 42) [] []] [] 0 (pB post) := by
 refine Tr.go Try.func43 Try.ntmps43 fun _ _ _ _ o => ?_
 unfold V_slices_ContainsFunc_api_Job_api_Job__batch_Right_1 at g
 refine C.ss (U.pd 1 T (C.xt ?_))
 refine U.ps 2 T rfl (U.k (T_slices_IndexFunc_api_Job_api_Job__batch_Right_1 s_1 _ g) en55 (fun x5 g => ?_))
 refine U.pd 2 T (C.nx (C.ret ?_))
 exact C.f1 T o (pBi g)
theorem T_batch_Right (l : List ApiJob) (post : Bool → Prop) (g : V_batch_Right l post) :
    Tr Try.prog 19 [.sl 3 eApiJob l] [] 0 (pB post) := by
 refine Tr.go Try.func19 Try.ntmps19 fun _ _ _ _ o => ?_
 unfold V_batch_Right at g
 refine C.ss (U.pd 1 T (C.xt ?_))
 refine U.pd 1 T (C.xs ?_)
 refine C.jn (fun (x5 : Bool) => [(2, .b x5)]) (fun x5 => []) 0 g (fun x5 g => ?_) fun J6 g j6 => ?_
 refine C.nx (C.ret ?_)
 exact C.f1 T o (pBi g)
 refine U.start (U.ps 4 T rfl ?_)
 refine g.cs (fun b7 g => ?_) fun b7 g => ?_
 refine U.pq 2 3 true 7 b7 T ?_
 refine U.k (T_slices_ContainsFunc_api_Job_api_Job__batch_Right_1 l _ g) en43 (fun x8 g => ?_) (hw := .take 3 true 7 _ b7 rfl rfl rfl)
 refine U.pq 1 3 true 7 b7 T ?_
 refine U.pk b7 ?_
 refine U.pd 1 T ?_
 exact St.wn (j6 _ g)
 refine U.sk' 4 3 true 7 b7 ?_
 refine U.pk' b7 ?_
 refine U.pd 1 T ?_
 exact St.wn (j6 _ g)
theorem T_taquinref43_Right (l : List ApiJob) (post : Bool → Prop) (g : V_taquinref43_Right l post) :
    Tr Try.prog 18 [.sl 3 eApiJob l] [] 0 (pB post) := by
 refine Tr.go Try.func18 Try.ntmps18 fun _ _ _ _ o => ?_
 unfold V_taquinref43_Right at g
 refine C.ss (U.pd 1 T (C.xs (C.ss ?_)))
 refine U.pd 1 T (C.nx ?_)
 refine C.jn (fun (x5 : Unit) => [(0, .sl 3 eApiJob l)]) (fun x5 => []) 0 g (fun x5 g => ?_) fun J6 g j6 => ?_
 refine C.xt (U.pd 4 T (C.nx (C.ret ?_)))
 exact C.f1 T o (pBi g)
 refine C.block (St.wk (C.loop (fun (s7 : Int) => [(0, .sl 3 eApiJob l), (3, .i s7)]) (fun s7 => []) g (fun s7 Y8 g => ?_)) (Wk.e))
 refine C.seq (C.seq ?_)
 refine C.jn (fun (x9 : Bool) => [(0, .sl 3 eApiJob l), (3, .i s7), (12, .b x9)]) (fun x9 => []) 0 g (fun x9 g => ?_) fun J10 g j10 => ?_
 refine C.nx ?_
 refine C.ite rfl g (fun b12 g => ?_) fun b12 g => ?_
 refine C.skip (C.xs (C.block (C.ss (U.ps 2 T rfl ?_))))
 obtain ⟨x15, y15, g⟩ := g
 refine U.ix T y15 ?_
 refine U.ps 1 T rfl (U.al T ?_)
 refine U.st T ?_
 refine U.done (C.xs ?_)
 refine C.jn (fun (x16 : Bool) => [(0, .sl 3 eApiJob l), (3, .i s7), (46, .b x16)]) (fun x16 => []) 0 g (fun x16 g => ?_) fun J17 g j17 => ?_
 refine C.nx ?_
 refine C.ite rfl g (fun b23 g => ?_) fun b23 g => ?_
 refine C.ss (U.pd 1 T (C.nx (C.ret (C.brt (C.rt (C.rt (C.brt (C.rt ?_))))))))
 exact C.f1 T o (pBi g)
 refine C.skip (C.bnx (C.nx (U.start (U.pd 3 T (C.nx ?_)))))
 exact St.wk (C.next g) (Wk.e)
 refine U.start (U.ps 4 T rfl ?_)
 refine g.cs (fun b18 g => ?_) fun b18 g => ?_
 refine U.sk' 3 3 false 22 b18 ?_
 refine U.pk b18 ?_
 refine U.ps 1 T rfl (U.sk' 3 8 false 27 rfl ?_)
 refine U.pk rfl ?_
 refine U.ps 1 T rfl (U.sk' 3 13 false 32 rfl ?_)
 refine U.pk rfl ?_
 refine U.ps 1 T rfl (U.sk' 3 18 false 37 rfl ?_)
 refine U.pk rfl ?_
 refine U.ps 1 T rfl (U.sk' 3 23 false 42 rfl ?_)
 refine U.pk rfl ?_
 refine U.done ?_
 exact St.wn (j17 _ g)
 refine U.pq 3 3 false 22 b18 T ?_
 refine U.pk' b18 ?_
 refine U.ps 1 T rfl ?_
 refine g.cs (fun b19 g => ?_) fun b19 g => ?_
 refine U.sk' 3 8 false 27 b19 ?_
 refine U.pk b19 ?_
 refine U.ps 1 T rfl (U.sk' 3 13 false 32 rfl ?_)
 refine U.pk rfl ?_
 refine U.ps 1 T rfl (U.sk' 3 18 false 37 rfl ?_)
 refine U.pk rfl ?_
 refine U.ps 1 T rfl (U.sk' 3 23 false 42 rfl ?_)
 refine U.pk rfl ?_
 refine U.done ?_
 exact St.wn (j17 _ g)
 refine U.pq 3 8 false 27 b19 T ?_
 refine U.pk' b19 ?_
 refine U.ps 1 T rfl ?_
 refine g.cs (fun b20 g => ?_) fun b20 g => ?_
 refine U.sk' 3 13 false 32 b20 ?_
 refine U.pk b20 ?_
 refine U.ps 1 T rfl (U.sk' 3 18 false 37 rfl ?_)
 refine U.pk rfl ?_
 refine U.ps 1 T rfl (U.sk' 3 23 false 42 rfl ?_)
 refine U.pk rfl ?_
 refine U.done ?_
 exact St.wn (j17 _ g)
 refine U.pq 3 13 false 32 b20 T ?_
 refine U.pk' b20 ?_
 refine U.ps 1 T rfl ?_
 refine g.cs (fun b21 g => ?_) fun b21 g => ?_
 refine U.sk' 3 18 false 37 b21 ?_
 refine U.pk b21 ?_
 refine U.ps 1 T rfl (U.sk' 3 23 false 42 rfl ?_)
 refine U.pk rfl ?_
 refine U.done ?_
 exact St.wn (j17 _ g)
 refine U.pq 3 18 false 37 b21 T ?_
 refine U.pk' b21 ?_
 refine U.ps 1 T rfl ?_
 refine g.cs (fun b22 g => ?_) fun b22 g => ?_
 refine U.sk' 3 23 false 42 b22 ?_
 refine U.pk b22 ?_
 refine U.done ?_
 exact St.wn (j17 _ g)
 refine U.pq 3 23 false 42 b22 T ?_
 refine U.pk' b22 ?_
 refine U.done ?_
 exact St.wn (j17 _ g)
 refine C.exit (C.ex (C.ex (C.bex ?_)))
 exact St.wn (j6 _ g)
 refine U.start (U.ps 5 T rfl ?_)
 refine g.cs (fun b11 g => ?_) fun b11 g => ?_
 refine U.pq 2 4 true 9 b11 T ?_
 refine U.pk b11 ?_
 refine U.done ?_
 exact St.wn (j10 _ g)
 refine U.sk' 2 4 true 9 b11 ?_
 refine U.pk' b11 ?_
 refine U.done ?_
 exact St.wn (j10 _ g)
theorem T_taquinlaw43_fair (l : List ApiJob) (start : Int) (post : Bool → Prop) (g : V_taquinlaw43_fair l start post) :
    Tr Try.prog 9 [.sl 3 eApiJob l, .i start] [] 0 (pB post) := by
 refine Tr.go Try.func9 Try.ntmps9 fun _ _ _ _ o => ?_
 unfold V_taquinlaw43_fair at g
 refine C.ss (U.pd 1 T (C.xs ?_))
 refine C.jn (fun (x3 : Bool) => [(4, .b x3)]) (fun x3 => []) 0 g (fun x3 g => ?_) fun J4 g j4 => ?_
 refine C.nx (C.ret ?_)
 exact C.f1 T o (pBi g)
 refine U.start (U.ps 4 T rfl ?_)
 refine g.cs (fun b5 g => ?_) fun b5 g => ?_
 refine U.pq 1 3 true 8 b5 T ?_
 refine U.k (T_taquinref43_Right l _ g) en18 (fun x6 g => ?_) (hw := .take 3 true 8 _ b5 rfl rfl rfl)
 refine U.pk b5 ?_
 refine U.ps 1 T rfl ?_
 refine g.cs (fun b7 g => ?_) fun b7 g => ?_
 refine U.pq 2 7 true 12 b7 T ?_
 refine U.pk b7 ?_
 refine U.ps 1 T rfl ?_
 refine g.cs (fun b8 g => ?_) fun b8 g => ?_
 refine U.pq 2 11 true 16 b8 T ?_
 refine U.pk b8 ?_
 refine U.pd 1 T ?_
 exact St.wn (j4 _ g)
 refine U.sk' 2 11 true 16 b8 ?_
 refine U.pk' b8 ?_
 refine U.pd 1 T ?_
 exact St.wn (j4 _ g)
 refine U.sk' 2 7 true 12 b7 ?_
 refine U.pk' b7 ?_
 refine U.ps 1 T rfl (U.sk' 2 11 true 16 rfl ?_)
 refine U.pk' rfl ?_
 refine U.pd 1 T ?_
 exact St.wn (j4 _ g)
 refine U.sk' 2 3 true 8 b5 ?_
 refine U.pk' b5 ?_
 refine U.ps 1 T rfl (U.sk' 2 7 true 12 rfl ?_)
 refine U.pk' rfl ?_
 refine U.ps 1 T rfl (U.sk' 2 11 true 16 rfl ?_)
 refine U.pk' rfl ?_
 refine U.pd 1 T ?_
 exact St.wn (j4 _ g)
theorem T_taquinref43_before (l : List ApiJob) (a : Int) (b : Int) (post : Bool → Prop) (g : V_taquinref43_before l a b post) :
    Tr Try.prog 44 [.sl 3 eApiJob l, .i a, .i b] [] 0 (pB post) := by
 refine Tr.go Try.func44 Try.ntmps44 fun _ _ _ _ o => ?_
 unfold V_taquinref43_before at g
 refine C.ss (U.pd 1 T (C.xs ?_))
 refine C.jn (fun (x3 : Bool) => [(6, .b x3)]) (fun x3 => []) 0 g (fun x3 g => ?_) fun J4 g j4 => ?_
 refine C.nx (C.ret ?_)
 exact C.f1 T o (pBi g)
 refine D.bg mix 9999 [] [] (fun hQ hS ws M' => ?_)
 refine D.pq 2 (zl [0, 1]) T ?_
 obtain ⟨x5, y5, g⟩ := g
 refine D.ix 2 [] T y5 ?_
 refine D.pq 4 (zl [3, 4, 5, 6]) T ?_
 obtain ⟨x6, y6, g⟩ := g
 refine D.ix 7 [] T y6 ?_
 refine D.pq 4 (zl [8, 9, 10, 11]) T ?_
 refine g.cs (fun b7 g => ?_) fun b7 g => ?_
 refine D.sz 12 [] 11 false 18 b7 ?_
 refine D.sz 13 [] 11 false 18 b7 ?_
 refine D.sz 14 [] 11 false 18 b7 ?_
 refine D.sz 15 [] 11 false 18 b7 ?_
 refine D.sz 16 [] 11 false 18 b7 ?_
 refine D.sz 17 [] 11 false 18 b7 ?_
 refine D.sz 18 [] 11 false 18 b7 ?_
 refine D.sz 19 [] 11 false 18 b7 ?_
 refine D.sz 20 [] 11 false 18 b7 ?_
 refine D.sz 21 [] 11 false 18 b7 ?_
 refine D.sz 22 [] 11 false 18 b7 ?_
 refine D.sz 23 [] 11 false 18 b7 ?_
 refine D.sx 24 [] hQ hS (.und 23 true 30 rfl rfl rfl) ?_
 refine D.sx 25 [] hQ hS (.und 23 true 30 rfl rfl rfl) ?_
 refine D.sx 26 [] hQ hS (.und 23 true 30 rfl rfl rfl) ?_
 refine D.sz 27 [] 11 false 18 b7 ?_
 refine D.kt 28 [] b7 ?_
 refine D.pq 1 [(29, [])] T ?_
 refine D.done (by kernel_rfl) ?_
 exact St.wn (j4 _ g)
 refine D.pt 12 [] 11 false 18 b7 T ?_
 refine D.pt 13 [] 11 false 18 b7 T ?_
 refine D.q 14 [] hQ hS rfl (.tk 11 false 18 b7) rfl rfl (by exact Rd.ix T rfl rfl rfl rfl rfl rfl y5) rfl (by kernel_rfl) ?_
 refine D.pt 15 [] 11 false 18 b7 T ?_
 refine D.q 16 [] hQ hS rfl (.tk 11 false 18 b7) rfl rfl (by exact Rd.l T rfl rfl rfl) rfl (by kernel_rfl) ?_
 refine D.pt 17 [] 11 false 18 b7 T ?_
 refine D.pt 18 [] 11 false 18 b7 T ?_
 refine D.q 19 [] hQ hS rfl (.tk 11 false 18 b7) rfl rfl (by exact Rd.ix T rfl rfl rfl rfl rfl rfl y6) rfl (by kernel_rfl) ?_
 refine D.pt 20 [] 11 false 18 b7 T ?_
 refine D.q 21 [] hQ hS rfl (.tk 11 false 18 b7) rfl rfl (by exact Rd.l T rfl rfl rfl) rfl (by kernel_rfl) ?_
 refine D.pt 22 [] 11 false 18 b7 T ?_
 refine D.pt 23 [] 11 false 18 b7 T ?_
 refine g.cs (fun b8 g => ?_) fun b8 g => ?_
 refine D.pt 24 [] 23 true 30 b8 T ?_
 refine D.pt 25 [] 23 true 30 b8 T ?_
 refine D.pt 26 [] 23 true 30 b8 T ?_
 refine D.q 27 [] hQ hS rfl (.tk 11 false 18 b7) rfl rfl (by exact Rd.pk rfl rfl b8 rfl) rfl (by kernel_rfl) ?_
 refine D.kf 28 [] b7 ?_
 refine D.pq 1 [(29, [])] T ?_
 refine D.done (by kernel_rfl) ?_
 exact St.wn (j4 _ g)
 refine D.sz 24 [] 23 true 30 b8 ?_
 refine D.sz 25 [] 23 true 30 b8 ?_
 refine D.sz 26 [] 23 true 30 b8 ?_
 refine D.q 27 [] hQ hS rfl (.tk 11 false 18 b7) rfl rfl (by exact Rd.pk' rfl rfl b8 rfl) rfl (by kernel_rfl) ?_
 refine D.kf 28 [] b7 ?_
 refine D.pq 1 [(29, [])] T ?_
 refine D.done (by kernel_rfl) ?_
 exact St.wn (j4 _ g)
theorem T_taquinref43_Due (l : List ApiJob) (post : (List Int) → Prop) (g : V_taquinref43_Due l post) :
    Tr Try.prog 21 [.sl 3 eApiJob l] [] 0 (fun A H' k => ∃ y, post y ∧ A = (.o 0) ∧ H' = [(0, .val (.os 1 eI y))] ∧ k = 1) := by
 refine Tr.go Try.func21 Try.ntmps21 fun _ _ _ _ o => ?_
 unfold V_taquinref43_Due at g
 refine C.ss (U.pd 1 T (C.xt ?_))
 refine U.pd 1 T (C.xs (C.ss ?_))
 refine U.pd 1 T (C.nx ?_)
 refine C.jn (fun (x7 : List Int) => [(3, .o 0)]) (fun x7 => [(0, .val (.os 1 eI x7))]) 1 g (fun x7 g => ?_) fun J8 g j8 => ?_
 refine C.xt (U.pd 2 T (C.nx (C.ret ?_)))
 exact C.g1 [some 0] T o ⟨x7, g, rfl, rfl, rfl⟩
 refine C.block (St.wk (C.loop (fun (s9 : List Int × Int) => [(0, .sl 3 eApiJob l), (3, .o 0), (4, .i s9.2)]) (fun s9 => [(0, .val (.os 1 eI s9.1))]) g (fun s9 Y10 g => ?_)) (Wk.mk' [none] rfl rfl ⟨⟨_, rfl, (.eq rfl)⟩, ⟨_, rfl, (.nilO _ _ ⟨rfl, rfl⟩ rfl)⟩, ChkG.eqs rfl⟩ ⟨⟨_, rfl, .nil _ _⟩, trivial⟩ rfl))
 refine C.seq (C.ss (U.pd 4 T (C.nx ?_)))
 refine C.ite rfl g (fun b13 g => ?_) fun b13 g => ?_
 refine C.skip (C.xs ?_)
 refine C.jn (fun (x14 : List Int) => [(0, .sl 3 eApiJob l), (3, .o 0), (4, .i s9.2)]) (fun x14 => [(0, .val (.os 1 eI x14))]) 1 g (fun x14 g => ?_) fun J15 g j15 => ?_
 refine C.nx (U.start (U.pd 3 T (C.nx ?_)))
 exact St.wk (C.next g) (Wk.a [some 0])
 refine C.block (C.ss (U.ps 2 T rfl (U.bs T eI ([s9.2] : List Int) ?_)))
 obtain ⟨y18, g⟩ := g
 refine U.ap T y18 ?_
 refine U.pd 1 T (C.xt ?_)
 refine U.pd 4 T (C.nx ?_)
 refine C.jn (fun (x21 : List Int) => [(0, .sl 3 eApiJob l), (3, .o 0), (4, .i s9.2)]) (fun x21 => [(0, .val (.os 1 eI x21))]) 1 g (fun x21 g => ?_) fun J22 g j22 => ?_
 refine C.bnx ?_
 exact St.wa [some 0] (j15 _ g)
 refine C.block (St.wk (C.loop (fun (s23 : List Int × Int) => [(0, .sl 3 eApiJob l), (3, .o 0), (4, .i s9.2), (5, .i s23.2)]) (fun s23 => [(0, .val (.os 1 eI s23.1))]) g (fun s23 Y24 g => ?_)) (Wk.a [some 2]))
 refine C.seq (C.seq ?_)
 refine C.jn (fun (x25 : Bool) => [(0, .sl 3 eApiJob l), (3, .o 0), (4, .i s9.2), (5, .i s23.2), (33, .b x25)]) (fun x25 => [(0, .val (.os 1 eI s23.1))]) 1 g (fun x25 g => ?_) fun J26 g j26 => ?_
 refine C.nx ?_
 refine C.ite rfl g (fun b31 g => ?_) fun b31 g => ?_
 refine C.skip (C.xs (C.block (D.bg mix 17 [] [0] (fun hQ hS ws M' => ?_))))
 refine D.pq 8 (zl [0, 1, 2, 3, 4, 5, 6, 7]) T ?_
 obtain ⟨x34, y34, g⟩ := g
 refine D.q 8 [] hQ hS rfl (.none rfl) rfl rfl (by exact Rd.io T rfl rfl rfl rfl rfl rfl rfl y34) rfl (by kernel_rfl) ?_
 refine D.pq 2 (zl [10, 11]) T ?_
 obtain ⟨x35, y35, g⟩ := g
 refine D.q 12 [] hQ hS rfl (.none rfl) rfl rfl (by exact Rd.io T rfl rfl rfl rfl rfl rfl rfl y35) rfl (by kernel_rfl) ?_
 refine D.have false [(0, .sl 3 eApiJob l), (3, .o 0), (4, .i s9.2), (5, .i s23.2), (33, .b x25), (36, .o 0), (37, .i s23.2), (38, .o 0), (39, .i s23.2), (40, .i (w64 (s23.2 - 1))), (41, .o 0), (42, .i s23.2), (43, .i (w64 (s23.2 - 1))), (44, .ep 0 1 (Int.toNat (w64 (s23.2 - 1))) 0), (45, .i x34), (46, .o 0), (47, .i s23.2), (48, .ep 0 1 (Int.toNat s23.2) 0), (49, .i x35), (50, .ep 0 1 (Int.toNat s23.2) 0)] [(0, .val (.os 1 eI s23.1))] 1 3 #[true, true, true, true, true, true, true, true, true, true, true, true, true, true, true, false, false, false] ?_ fun hd35_3 => ?_
 refine D.e1 15 rfl (.none rfl) (by exact Eff1.se T (z' := x34) rfl rfl rfl (idx_some y35).2.2 rfl rfl rfl rfl rfl rfl rfl rfl (fun _ => rfl) rfl) (by kernel_rfl) rfl rfl ?_
 obtain ⟨x36, y36, g⟩ := g
 refine D.q 16 [] hQ hS rfl (.none rfl) rfl rfl (by exact Rd.io T rfl rfl rfl rfl rfl rfl rfl y36) rfl (by kernel_rfl) ?_
 refine D.ze1 rfl (.none rfl) (by exact Eff1.se T (z' := x35) rfl rfl rfl (idx_some y36).2.2 rfl rfl rfl rfl rfl rfl rfl rfl (fun _ => rfl) rfl) (by kernel_rfl) (by kernel_rfl) ?_
 refine C.bnx (C.nx (U.start (U.pd 3 T (C.nx ?_))))
 exact St.wk (C.next g) (Wk.a [some 0])
 refine D.have false [(0, .sl 3 eApiJob l), (3, .o 0), (4, .i s9.2), (5, .i s23.2), (33, .b x25), (36, .o 0), (37, .i s23.2), (38, .o 0), (39, .i s23.2), (40, .i (w64 (s23.2 - 1))), (41, .o 0), (42, .i s23.2), (43, .i (w64 (s23.2 - 1))), (44, .ep 0 1 (Int.toNat (w64 (s23.2 - 1))) 0), (45, .i x34), (46, .o 0), (47, .i s23.2), (48, .ep 0 1 (Int.toNat s23.2) 0)] [(0, .val (.os 1 eI s23.1))] 1 5 #[true, true, true, true, true, true, true, true, true, true, true, true, true, false, false, false, false, false] ?_ fun hd35_1 => ?_
 refine D.all 13 [] (by kernel_rfl) ⟨?_, trivial⟩
 refine D.ef1 rfl (.none rfl) (by exact Eff1.rd rfl rfl (Rd.le T rfl rfl rfl (idx_some y35).2.2 rfl rfl rfl)) rfl rfl ?_
 refine D.q 14 [] hQ hS rfl (.none rfl) rfl rfl (by exact Rd.io T rfl rfl rfl rfl rfl rfl rfl y35) rfl (by kernel_rfl) ?_
 exact D.tq [0] hd35_3
 refine D.have false [(0, .sl 3 eApiJob l), (3, .o 0), (4, .i s9.2), (5, .i s23.2), (33, .b x25), (36, .o 0), (37, .i s23.2), (38, .o 0), (39, .i s23.2), (40, .i (w64 (s23.2 - 1))), (41, .o 0), (42, .i s23.2), (43, .i (w64 (s23.2 - 1))), (44, .ep 0 1 (Int.toNat (w64 (s23.2 - 1))) 0), (46, .o 0), (47, .i s23.2), (48, .ep 0 1 (Int.toNat s23.2) 0), (49, .i x35)] [(0, .val (.os 1 eI s23.1))] 1 5 #[true, true, true, true, true, true, true, true, true, false, true, true, true, true, false, false, false, false] ?_ fun hd35_2 => ?_
 refine D.all 9 [] (by kernel_rfl) ⟨?_, trivial⟩
 refine D.ef1 rfl (.none rfl) (by exact Eff1.rd rfl rfl (Rd.le T rfl rfl rfl (idx_some y34).2.2 rfl rfl rfl)) rfl rfl ?_
 refine D.q 14 [] hQ hS rfl (.none rfl) rfl rfl (by exact Rd.io T rfl rfl rfl rfl rfl rfl rfl y35) rfl (by kernel_rfl) ?_
 exact D.tq [0] hd35_3
 refine D.all 9 [13] (by kernel_rfl) ⟨?_, ?_, trivial⟩
 refine D.ef1 rfl (.none rfl) (by exact Eff1.rd rfl rfl (Rd.le T rfl rfl rfl (idx_some y34).2.2 rfl rfl rfl)) rfl rfl ?_
 exact D.tq [0] hd35_1
 refine D.ef1 rfl (.none rfl) (by exact Eff1.rd rfl rfl (Rd.le T rfl rfl rfl (idx_some y35).2.2 rfl rfl rfl)) rfl rfl ?_
 exact D.tq [0] hd35_2
 refine C.exit (C.ex (C.ex (C.bex ?_)))
 exact St.wa [some 0] (j22 _ g)
 refine D.bg mix 9999 [0] [] (fun hQ hS ws M' => ?_)
 refine D.pq 3 (zl [0, 1, 2]) T ?_
 refine g.cs (fun b27 g => ?_) fun b27 g => ?_
 refine D.pt 3 [] 2 true 21 b27 T ?_
 refine D.pt 4 [] 2 true 21 b27 T ?_
 refine D.pt 5 [] 2 true 21 b27 T ?_
 obtain ⟨x28, y28, g⟩ := g
 refine D.q 6 [] hQ hS rfl (.tk 2 true 21 b27) rfl rfl (by exact Rd.io T rfl rfl rfl rfl rfl rfl rfl y28) rfl (by kernel_rfl) ?_
 refine D.q 7 [] hQ hS rfl (.tk 2 true 21 b27) rfl rfl (by exact Rd.le T rfl rfl rfl (idx_some y28).2.2 rfl rfl rfl) rfl (by kernel_rfl) ?_
 refine D.pt 8 [] 2 true 21 b27 T ?_
 refine D.pt 9 [] 2 true 21 b27 T ?_
 refine D.pt 10 [] 2 true 21 b27 T ?_
 obtain ⟨x29, y29, g⟩ := g
 refine D.q 11 [] hQ hS rfl (.tk 2 true 21 b27) rfl rfl (by exact Rd.io T rfl rfl rfl rfl rfl rfl rfl y29) rfl (by kernel_rfl) ?_
 refine D.q 12 [] hQ hS rfl (.tk 2 true 21 b27) rfl rfl (by exact Rd.le T rfl rfl rfl (idx_some y29).2.2 rfl rfl rfl) rfl (by kernel_rfl) ?_
 refine D.k 13 (T_taquinref43_before l x28 x29 _ g) en44 (fun x30 g => ?_) (hw := .take 2 true 21 _ b27 rfl rfl rfl)
 refine D.kt 14 [] b27 ?_
 refine D.done (by kernel_rfl) ?_
 exact St.wa [some 0] (j26 _ g)
 refine D.sz 3 [] 2 true 21 b27 ?_
 refine D.sz 4 [] 2 true 21 b27 ?_
 refine D.sz 5 [] 2 true 21 b27 ?_
 refine D.sz 6 [] 2 true 21 b27 ?_
 refine D.sz 7 [] 2 true 21 b27 ?_
 refine D.sz 8 [] 2 true 21 b27 ?_
 refine D.sz 9 [] 2 true 21 b27 ?_
 refine D.sz 10 [] 2 true 21 b27 ?_
 refine D.sz 11 [] 2 true 21 b27 ?_
 refine D.sz 12 [] 2 true 21 b27 ?_
 refine D.sz 13 [] 2 true 21 b27 ?_
 refine D.kf 14 [] b27 ?_
 refine D.done (by kernel_rfl) ?_
 exact St.wa [some 0] (j26 _ g)
 refine C.exit (C.ex (C.ex (C.bex ?_)))
 exact St.wa [some 0] (j8 _ g)
theorem T_taquinref43_Batches (l : List ApiJob) (post : (List (List Int)) → Prop) (g : V_taquinref43_Batches l post) :
    Tr Try.prog 20 [.sl 3 eApiJob l] [] 0 (fun A H' k => ∃ y, post y ∧ A = (.o 0) ∧ H' = [(0, .val (.os 1 eOeI y))] ∧ k = 1) := by
 refine Tr.go Try.func20 Try.ntmps20 fun _ _ _ _ o => ?_
 unfold V_taquinref43_Batches at g
 refine C.ss (U.pd 1 T (C.xt ?_))
 refine U.ps 1 T rfl (U.k (T_taquinref43_Due l _ g) en21 (fun x5 g => ?_))
 refine U.pd 1 T (C.xt ?_)
 refine U.pd 1 T (C.xs (C.ss ?_))
 refine U.pd 1 T (C.nx ?_)
 refine C.jn (fun (x10 : List (List Int)) => [(4, .o 0)]) (fun x10 => [(0, .val (.os 1 eOeI x10))]) 1 g (fun x10 g => ?_) fun J11 g j11 => ?_
 refine C.xt (U.pd 2 T (C.nx (C.ret ?_)))
 exact C.g1 [some 0] T o ⟨x10, g, rfl, rfl, rfl⟩
 refine C.block ?_
 refine St.wk (C.loop (fun (s12 : List (List Int) × Int) => [(0, .sl 3 eApiJob l), (3, .o 0), (4, .o 1), (5, .i s12.2)]) (fun s12 => [(0, .val (.os 1 eI x5)), (1, .val (.os 1 eOeI s12.1))]) g (fun s12 Y13 g => ?_)) (Wk.mk' [some 0, none] rfl rfl ⟨⟨_, rfl, (.eq rfl)⟩, ⟨_, rfl, (.eq rfl)⟩, ⟨_, rfl, (.nilO _ _ ⟨rfl, rfl⟩ rfl)⟩, ChkG.eqs rfl⟩ ⟨vL, ⟨_, rfl, .nil _ _⟩, trivial⟩ rfl)
 refine C.seq (C.ss (U.pd 4 T (C.nx ?_)))
 refine C.ite rfl g (fun b16 g => ?_) fun b16 g => ?_
 refine C.skip (C.xs ?_)
 refine C.jn (fun (x17 : List (List Int)) => [(0, .sl 3 eApiJob l), (3, .o 0), (4, .o 1), (5, .i s12.2)]) (fun x17 => [(0, .val (.os 1 eI x5)), (1, .val (.os 1 eOeI x17))]) 2 g (fun x17 g => ?_) fun J18 g j18 => ?_
 refine C.nx (U.start (U.pd 3 T (C.nx ?_)))
 exact St.wk (C.next g) (Wk.a (idR 2))
 refine C.block (C.ss (U.pd 1 T (C.xs (C.ss ?_))))
 refine U.pd 1 T (C.nx ?_)
 refine C.jn (fun (x23 : List (List Int) × Bool) => [(0, .sl 3 eApiJob l), (3, .o 0), (4, .o 1), (5, .i s12.2), (6, .b x23.2)]) (fun x23 => [(0, .val (.os 1 eI x5)), (1, .val (.os 1 eOeI x23.1))]) 2 g (fun x23 g => ?_) fun J24 g j24 => ?_
 refine C.xt (U.pd 2 T (C.nx ?_))
 refine C.jn (fun (x49 : List (List Int)) => [(0, .sl 3 eApiJob l), (3, .o 0), (4, .o 1), (5, .i s12.2)]) (fun x49 => [(0, .val (.os 1 eI x5)), (1, .val (.os 1 eOeI x49))]) 2 g (fun x49 g => ?_) fun J50 g j50 => ?_
 refine C.bnx ?_
 exact St.wa (idR 2) (j18 _ g)
 refine C.ite rfl g (fun b51 g => ?_) fun b51 g => ?_
 refine C.ss (U.ps 3 T rfl ?_)
 obtain ⟨x54, y54, g⟩ := g
 refine U.r rfl (.none rfl) rfl rfl (by exact Rd.io T rfl rfl rfl rfl rfl rfl rfl y54) ?_
 refine U.r rfl (.none rfl) rfl rfl (by exact Rd.le T rfl rfl rfl (idx_some y54).2.2 rfl rfl rfl) ?_
 refine U.bs T eI ([x54] : List Int) ?_
 refine U.e1 rfl (.none rfl) (by exact Eff1.bsl T (enc := eOeI) ([x54] : List Int) rfl rfl rfl rfl rfl rfl rfl rfl rfl) ?_
 obtain ⟨y55, g⟩ := g
 refine U.e1 rfl (.none rfl) (by exact Eff1.apl T rfl rfl rfl rfl rfl rfl rfl (fun _ => rfl) rfl rfl rfl rfl ⟨_, rfl, rfl⟩ y55) ?_
 refine U.pd 1 T ?_
 refine St.putb (l := 4) (l' := 2) (y := ([x54] : List Int)) rfl rfl rfl (fun _ h => nomatch h) rfl _ rfl ?_
 refine C.xt (U.pd 4 T (C.nx ?_))
 refine C.jn (fun (x58 : List (List Int)) => [(0, .sl 3 eApiJob l), (3, .o 0), (4, .o 1), (5, .i s12.2)]) (fun x58 => [(0, .val (.os 1 eI x5)), (1, .val (.os 1 eOeI x58))]) 2 g (fun x58 g => ?_) fun J59 g j59 => ?_
 exact St.wa (idR 2) (j50 _ g)
 refine C.block (St.wk (C.loop (fun (s60 : List (List Int) × Int) => [(0, .sl 3 eApiJob l), (3, .o 0), (4, .o 1), (5, .i s12.2), (8, .i s60.2)]) (fun s60 => [(0, .val (.os 1 eI x5)), (1, .val (.os 1 eOeI s60.1))]) g (fun s60 Y61 g => ?_)) (Wk.a [some 0, some 4]))
 refine C.seq (C.ss (U.pd 2 T (C.nx ?_)))
 refine C.ite rfl g (fun b64 g => ?_) fun b64 g => ?_
 refine C.skip (C.xs (C.block (C.ss (U.ps 3 T rfl ?_))))
 obtain ⟨x67, y67, g⟩ := g
 refine U.r rfl (.none rfl) rfl rfl (by exact Rd.io T rfl rfl rfl rfl rfl rfl rfl y67) ?_
 refine St.lend (l := 1) (i := (Int.toNat s60.2)) rfl (idx_some y67).2.2 rfl (fun _ => rfl) ?_
 refine U.r rfl (.none rfl) rfl rfl (by exact Rd.ll T rfl rfl rfl (.head _) rfl rfl rfl rfl) ?_
 obtain ⟨x68, y68, g⟩ := g
 refine U.r rfl (.none rfl) rfl rfl (by exact Rd.io T rfl rfl rfl rfl rfl rfl rfl y68) ?_
 refine U.r rfl (.none rfl) rfl rfl (by exact Rd.le T rfl rfl rfl (idx_some y68).2.2 rfl rfl rfl) ?_
 obtain ⟨x69, y69, g⟩ := g
 refine U.ix T y69 ?_
 refine U.ps 1 T rfl (U.al T ?_)
 refine U.st T ?_
 refine U.done (St.putb (l := 1) (l' := 2) (y := x67) rfl rfl rfl (fun _ h => nomatch h) rfl _ rfl ?_)
 refine C.xt (U.ps 4 T rfl ?_)
 obtain ⟨x72, y72, g⟩ := g
 refine U.r rfl (.none rfl) rfl rfl (by exact Rd.io T rfl rfl rfl rfl rfl rfl rfl y72) ?_
 refine St.lend (l := 1) (i := (Int.toNat (w64 (s60.2 - 1)))) rfl (idx_some y72).2.2 rfl (fun _ => rfl) ?_
 refine U.r rfl (.none rfl) rfl rfl (by exact Rd.ll T rfl rfl rfl (.head _) rfl rfl rfl rfl) ?_
 obtain ⟨x73, y73, g⟩ := g
 refine U.r rfl (.none rfl) rfl rfl (by exact Rd.io T rfl rfl rfl rfl rfl rfl rfl y73) ?_
 refine U.r rfl (.none rfl) rfl rfl (by exact Rd.le T rfl rfl rfl (idx_some y73).2.2 rfl rfl rfl) ?_
 obtain ⟨x74, y74, g⟩ := g
 refine U.ix T y74 ?_
 refine U.ps 1 T rfl (U.al T ?_)
 refine U.st T ?_
 refine U.done (St.putb (l := 1) (l' := 4) (y := x72) rfl rfl rfl (fun _ h => nomatch h) rfl _ rfl ?_)
 refine C.xs ?_
 refine C.jn (fun (x75 : Bool) => [(0, .sl 3 eApiJob l), (3, .o 0), (4, .o 1), (5, .i s12.2), (8, .i s60.2), (104, .b x75)]) (fun x75 => [(0, .val (.os 1 eI x5)), (1, .val (.os 1 eOeI ((s60.1.set (Int.toNat s60.2) x67).set (Int.toNat (w64 (s60.2 - 1))) x72)))]) 2 g (fun x75 g => ?_) fun J76 g j76 => ?_
 refine C.nx ?_
 refine C.jn (fun (x78 : List (List Int)) => [(0, .sl 3 eApiJob l), (3, .o 0), (4, .o 1), (5, .i s12.2), (8, .i s60.2)]) (fun x78 => [(0, .val (.os 1 eI x5)), (1, .val (.os 1 eOeI x78))]) 2 g (fun x78 g => ?_) fun J79 g j79 => ?_
 refine C.bnx (C.nx (U.start (U.pd 3 T (C.nx ?_))))
 exact St.wk (C.next g) (Wk.a (idR 2))
 refine C.ite rfl g (fun b80 g => ?_) fun b80 g => ?_
 refine St.lend (l := 1) (i := (Int.toNat (w64 (s60.2 - 1)))) rfl (set_get (idx_some y72).2.2) rfl (fun _ => rfl) ?_
 obtain ⟨x83, y83, g⟩ := g
 obtain ⟨y84, g⟩ := g
 refine St.lend2 (l := 1) (i := (Int.toNat s60.2)) rfl (fun p hp => by simp only [List.mem_singleton] at hp; subst hp; exact y84) (idx_some y83).2.2 rfl ?_
 refine D.bg mix 17 [] [1] (fun hQ hS ws M' => ?_)
 refine D.pq 8 (zl [0, 1, 2, 3, 4, 5, 6, 7]) T ?_
 refine D.q 8 [] hQ hS rfl (.none rfl) rfl rfl (by exact Rd.il T rfl rfl rfl rfl rfl rfl rfl (idx_set y72)) rfl (by kernel_rfl) ?_
 refine D.pq 2 (zl [10, 11]) T ?_
 refine D.q 12 [] hQ hS rfl (.none rfl) rfl rfl (by exact Rd.il T rfl rfl rfl rfl rfl rfl rfl y83) rfl (by kernel_rfl) ?_
 refine D.have false [(0, .sl 3 eApiJob l), (3, .o 0), (4, .o 1), (5, .i s12.2), (8, .i s60.2), (104, .b x75), (105, .o 1), (106, .i s60.2), (107, .o 1), (108, .i s60.2), (109, .i (w64 (s60.2 - 1))), (110, .o 1), (111, .i s60.2), (112, .i (w64 (s60.2 - 1))), (113, .ep 1 1 (Int.toNat (w64 (s60.2 - 1))) 0), (114, .o 2), (115, .o 1), (116, .i s60.2), (117, .ep 1 1 (Int.toNat s60.2) 0), (118, .o 3), (119, .ep 1 1 (Int.toNat s60.2) 0)] [(0, .val (.os 1 eI x5)), (1, .lent eOeI ((s60.1.set (Int.toNat s60.2) x67).set (Int.toNat (w64 (s60.2 - 1))) x72) [((Int.toNat s60.2), 3), ((Int.toNat (w64 (s60.2 - 1))), 2)]), (2, .val (.os 1 eI x72)), (3, .val (.os 1 eI x83))] 4 3 #[true, true, true, true, true, true, true, true, true, true, true, true, true, true, true, false, false, false] ?_ fun hd84_3 => ?_
 refine D.e1 15 rfl (.none rfl) (by exact Eff1.sl T rfl rfl rfl (fun p hp => by simp only [List.mem_singleton] at hp; subst hp; exact y84) rfl rfl rfl rfl) (by kernel_rfl) rfl rfl ?_
 refine D.q 16 [] hQ hS rfl (.none rfl) rfl rfl (by exact Rd.il T rfl rfl rfl rfl rfl rfl rfl (idx_set y72)) rfl (by kernel_rfl) ?_
 refine D.ze1 rfl (.none rfl) (by exact Eff1.sl2 T rfl rfl rfl (Ne.symm y84) rfl rfl rfl rfl) (by kernel_rfl) (by kernel_rfl) ?_
 refine St.putb (l := 1) (l' := 2) (y := x72) rfl rfl rfl (fun p hp => by simp only [List.mem_singleton] at hp; subst hp; exact y84) rfl _ rfl ?_
 refine St.putb (l := 1) (l' := 3) (y := x83) rfl rfl rfl (fun _ h => nomatch h) rfl _ rfl ?_
 exact St.wa (idR 2) (j79 _ g)
 refine D.have false [(0, .sl 3 eApiJob l), (3, .o 0), (4, .o 1), (5, .i s12.2), (8, .i s60.2), (104, .b x75), (105, .o 1), (106, .i s60.2), (107, .o 1), (108, .i s60.2), (109, .i (w64 (s60.2 - 1))), (110, .o 1), (111, .i s60.2), (112, .i (w64 (s60.2 - 1))), (113, .ep 1 1 (Int.toNat (w64 (s60.2 - 1))) 0), (114, .o 2), (115, .o 1), (116, .i s60.2), (117, .ep 1 1 (Int.toNat s60.2) 0)] [(0, .val (.os 1 eI x5)), (1, .lent eOeI ((s60.1.set (Int.toNat s60.2) x67).set (Int.toNat (w64 (s60.2 - 1))) x72) [((Int.toNat s60.2), 3), ((Int.toNat (w64 (s60.2 - 1))), 2)]), (2, .val (.os 1 eI x72)), (3, .val (.os 1 eI x83))] 4 5 #[true, true, true, true, true, true, true, true, true, true, true, true, true, false, false, false, false, false] ?_ fun hd84_1 => ?_
 refine D.all 13 [] (by kernel_rfl) ⟨?_, trivial⟩
 refine D.ef1 rfl (.none rfl) (by exact Eff1.rd rfl rfl (Rd.ll T rfl rfl rfl (.head _) rfl rfl rfl rfl)) rfl rfl ?_
 refine D.q 14 [] hQ hS rfl (.none rfl) rfl rfl (by exact Rd.il T rfl rfl rfl rfl rfl rfl rfl y83) rfl (by kernel_rfl) ?_
 exact D.to [some 0, some 1, some 2, some 3] hd84_3 (by kernel_rfl) rfl rfl (.eqs rfl) ⟨vL, ⟨_, rfl, .lent rfl rfl⟩, vL, vL, trivial⟩ rfl rfl rfl
 refine D.have false [(0, .sl 3 eApiJob l), (3, .o 0), (4, .o 1), (5, .i s12.2), (8, .i s60.2), (104, .b x75), (105, .o 1), (106, .i s60.2), (107, .o 1), (108, .i s60.2), (109, .i (w64 (s60.2 - 1))), (110, .o 1), (111, .i s60.2), (112, .i (w64 (s60.2 - 1))), (113, .ep 1 1 (Int.toNat (w64 (s60.2 - 1))) 0), (115, .o 1), (116, .i s60.2), (117, .ep 1 1 (Int.toNat s60.2) 0), (118, .o 3)] [(0, .val (.os 1 eI x5)), (1, .lent eOeI ((s60.1.set (Int.toNat s60.2) x67).set (Int.toNat (w64 (s60.2 - 1))) x72) [((Int.toNat s60.2), 3), ((Int.toNat (w64 (s60.2 - 1))), 2)]), (2, .val (.os 1 eI x72)), (3, .val (.os 1 eI x83))] 4 5 #[true, true, true, true, true, true, true, true, true, false, true, true, true, true, false, false, false, false] ?_ fun hd84_2 => ?_
 refine D.all 9 [] (by kernel_rfl) ⟨?_, trivial⟩
 refine D.ef1 rfl (.none rfl) (by exact Eff1.rd rfl rfl (Rd.ll T rfl rfl rfl (.tail _ (.head _)) rfl rfl rfl rfl)) rfl rfl ?_
 refine D.q 14 [] hQ hS rfl (.none rfl) rfl rfl (by exact Rd.il T rfl rfl rfl rfl rfl rfl rfl y83) rfl (by kernel_rfl) ?_
 exact D.to [some 0, some 1, some 2, some 3] hd84_3 (by kernel_rfl) rfl rfl (.eqs rfl) ⟨vL, ⟨_, rfl, .lent rfl rfl⟩, vL, vL, trivial⟩ rfl rfl rfl
 refine D.all 9 [13] (by kernel_rfl) ⟨?_, ?_, trivial⟩
 refine D.ef1 rfl (.none rfl) (by exact Eff1.rd rfl rfl (Rd.ll T rfl rfl rfl (.tail _ (.head _)) rfl rfl rfl rfl)) rfl rfl ?_
 exact D.to [some 0, some 1, some 2, some 3] hd84_1 (by kernel_rfl) rfl rfl (.eqs rfl) ⟨vL, ⟨_, rfl, .lent rfl rfl⟩, vL, vL, trivial⟩ rfl rfl rfl
 refine D.ef1 rfl (.none rfl) (by exact Eff1.rd rfl rfl (Rd.ll T rfl rfl rfl (.head _) rfl rfl rfl rfl)) rfl rfl ?_
 exact D.to [some 0, some 1, some 2, some 3] hd84_2 (by kernel_rfl) rfl rfl (.eqs rfl) ⟨vL, ⟨_, rfl, .lent rfl rfl⟩, vL, vL, trivial⟩ rfl rfl rfl
 refine C.skip ?_
 exact St.wa (idR 2) (j79 _ g)
 refine U.start (U.ps 6 T rfl ?_)
 refine g.cs (fun b77 g => ?_) fun b77 g => ?_
 refine U.pq 5 5 true 98 b77 T ?_
 refine U.pk b77 ?_
 refine U.done ?_
 exact St.wa (idR 2) (j76 _ g)
 refine U.sk' 5 5 true 98 b77 ?_
 refine U.pk' b77 ?_
 refine U.done ?_
 exact St.wa (idR 2) (j76 _ g)
 refine C.exit (C.ex (C.ex (C.bex ?_)))
 exact St.wa (idR 2) (j59 _ g)
 refine C.skip ?_
 exact St.wa (idR 2) (j50 _ g)
 refine C.block (St.wk (C.loop (fun (s25 : List (List Int) × Bool × Int) => [(0, .sl 3 eApiJob l), (3, .o 0), (4, .o 1), (5, .i s12.2), (6, .b s25.2.1), (7, .i s25.2.2)]) (fun s25 => [(0, .val (.os 1 eI x5)), (1, .val (.os 1 eOeI s25.1))]) g (fun s25 Y26 g => ?_)) (Wk.a (idR 2)))
 refine C.seq (C.ss (U.pd 4 T (C.nx ?_)))
 refine C.ite rfl g (fun b29 g => ?_) fun b29 g => ?_
 refine C.skip (C.xs (C.block (C.seq ?_)))
 obtain ⟨x32, y32, g⟩ := g
 refine St.lend (l := 1) (i := (Int.toNat s25.2.2)) rfl (idx_some y32).2.2 rfl (fun _ => rfl) ?_
 refine D.bg mix 9999 [0, 1, 2] [] (fun hQ hS ws M' => ?_)
 refine D.pq 3 (zl [0, 1, 2]) T ?_
 refine D.q 3 [] hQ hS rfl (.none rfl) rfl rfl (by exact Rd.il T rfl rfl rfl rfl rfl rfl rfl y32) rfl (by kernel_rfl) ?_
 refine D.q 4 [] hQ hS rfl (.none rfl) rfl rfl (by exact Rd.ll T rfl rfl rfl (.head _) rfl rfl rfl rfl) rfl (by kernel_rfl) ?_
 obtain ⟨x33, y33, g⟩ := g
 refine D.q 5 [] hQ hS rfl (.none rfl) rfl rfl (by exact Rd.io T rfl rfl rfl rfl rfl rfl rfl y33) rfl (by kernel_rfl) ?_
 refine D.q 6 [] hQ hS rfl (.none rfl) rfl rfl (by exact Rd.le T rfl rfl rfl (idx_some y33).2.2 rfl rfl rfl) rfl (by kernel_rfl) ?_
 obtain ⟨x34, y34, g⟩ := g
 refine D.ix 7 [] T y34 ?_
 refine D.pq 5 (zl [8, 9, 10, 11, 12]) T ?_
 obtain ⟨x35, y35, g⟩ := g
 refine D.q 13 [] hQ hS rfl (.none rfl) rfl rfl (by exact Rd.io T rfl rfl rfl rfl rfl rfl rfl y35) rfl (by kernel_rfl) ?_
 refine D.q 14 [] hQ hS rfl (.none rfl) rfl rfl (by exact Rd.le T rfl rfl rfl (idx_some y35).2.2 rfl rfl rfl) rfl (by kernel_rfl) ?_
 obtain ⟨x36, y36, g⟩ := g
 refine D.ix 15 [] T y36 ?_
 refine D.pq 3 (zl [16, 17, 18]) T ?_
 refine D.done (by kernel_rfl) ?_
 refine St.putb (l := 1) (l' := 2) (y := x32) rfl rfl rfl (fun _ h => nomatch h) rfl _ rfl ?_
 refine C.nx ?_
 refine C.jn (fun (x37 : List (List Int) × Bool) => [(0, .sl 3 eApiJob l), (3, .o 0), (4, .o 1), (5, .i s12.2), (6, .b x37.2), (7, .i s25.2.2)]) (fun x37 => [(0, .val (.os 1 eI x5)), (1, .val (.os 1 eOeI x37.1))]) 2 g (fun x37 g => ?_) fun J38 g j38 => ?_
 refine C.bnx (C.nx (U.start (U.pd 3 T (C.nx ?_))))
 exact St.wk (C.next g) (Wk.a (idR 2))
 refine C.ite rfl g (fun b39 g => ?_) fun b39 g => ?_
 refine C.seq (St.lend (l := 1) (i := (Int.toNat s25.2.2)) rfl (set_get (idx_some y32).2.2) rfl (fun _ => rfl) ?_)
 refine D.bg mix 13 [0, 1] [3] (fun hQ hS ws M' => ?_)
 refine D.pq 4 (zl [0, 1, 2, 3]) T ?_
 refine D.q 4 [] hQ hS rfl (.none rfl) rfl rfl (by exact Rd.il T rfl rfl rfl rfl rfl rfl rfl (idx_set y32)) rfl (by kernel_rfl) ?_
 refine D.q 5 [] hQ hS rfl (.none rfl) rfl rfl (by exact Rd.ll T rfl rfl rfl (.head _) rfl rfl rfl rfl) rfl (by kernel_rfl) ?_
 refine D.pq 2 (zl [6, 7]) T ?_
 refine D.q 8 [] hQ hS rfl (.none rfl) rfl rfl (by exact Rd.io T rfl rfl rfl rfl rfl rfl rfl y35) rfl (by kernel_rfl) ?_
 refine D.q 9 [] hQ hS rfl (.none rfl) rfl rfl (by exact Rd.le T rfl rfl rfl (idx_some y35).2.2 rfl rfl rfl) rfl (by kernel_rfl) ?_
 refine D.e1 10 rfl (.none rfl) (by exact Eff1.bs T (enc := eI) (xs := ([x35] : List Int)) rfl rfl rfl rfl rfl rfl rfl rfl rfl rfl (fun _ _ => rfl) rfl rfl) (by kernel_rfl) rfl rfl ?_
 obtain ⟨y42, g⟩ := g
 refine D.e1 11 rfl (.none rfl) (by exact Eff1.ap T rfl rfl rfl rfl rfl rfl (.inr ⟨_, rfl, rfl⟩) rfl rfl rfl (fun _ => rfl) rfl y42) (by kernel_rfl) rfl rfl ?_
 refine D.q 12 [] hQ hS rfl (.none rfl) rfl rfl (by exact Rd.il T rfl rfl rfl rfl rfl rfl rfl (idx_set y32)) rfl (by kernel_rfl) ?_
 refine D.ze1 rfl (.none rfl) (by exact Eff1.sl T rfl rfl rfl (fun _ h => nomatch h) rfl rfl rfl rfl) (by kernel_rfl) (by kernel_rfl) ?_
 refine St.putb (l := 1) (l' := 5) (y := (x32 ++ ([x35] : List Int))) rfl rfl rfl (fun _ h => nomatch h) rfl _ rfl ?_
 refine C.nx (U.start (U.pd 1 T ?_))
 exact St.wa (idR 2) (j38 _ g)
 refine C.skip ?_
 exact St.wa (idR 2) (j38 _ g)
 refine C.exit (C.ex (C.ex (C.bex ?_)))
 exact St.wa (idR 2) (j24 _ g)
 refine C.exit (C.ex (C.ex (C.bex ?_)))
 exact St.wa [some 1] (j11 _ g)
theorem T_taquinref43_known (l : List ApiJob) (order : List Int) (post : (List Int) → Prop) (g : V_taquinref43_known l order post) :
    Tr Try.prog 45 [.sl 3 eApiJob l, .sl 1 eI order] [] 0 (fun A H' k => ∃ y, post y ∧ A = (.o 0) ∧ H' = [(0, .val (.os 1 eI y))] ∧ k = 1) := by
 refine Tr.go Try.func45 Try.ntmps45 fun _ _ _ _ o => ?_
 unfold V_taquinref43_known at g
 refine C.ss (U.pd 1 T (C.xt ?_))
 refine U.pd 1 T (C.xs (C.ss ?_))
 refine U.pd 1 T (C.nx ?_)
 refine C.jn (fun (x7 : List Int) => [(5, .o 0)]) (fun x7 => [(0, .val (.os 1 eI x7))]) 1 g (fun x7 g => ?_) fun J8 g j8 => ?_
 refine C.xt (U.pd 2 T (C.nx (C.ret ?_)))
 exact C.g1 [some 0] T o ⟨x7, g, rfl, rfl, rfl⟩
 refine C.block (St.wk (C.loop (fun (s9 : List Int × Int) => [(0, .sl 3 eApiJob l), (1, .sl 1 eI order), (5, .o 0), (6, .i s9.2)]) (fun s9 => [(0, .val (.os 1 eI s9.1))]) g (fun s9 Y10 g => ?_)) (Wk.mk' [none] rfl rfl ⟨⟨_, rfl, (.eq rfl)⟩, ⟨_, rfl, (.eq rfl)⟩, ⟨_, rfl, (.nilO _ _ ⟨rfl, rfl⟩ rfl)⟩, ChkG.eqs rfl⟩ ⟨⟨_, rfl, .nil _ _⟩, trivial⟩ rfl))
 refine C.seq (C.ss (U.pd 4 T (C.nx ?_)))
 refine C.ite rfl g (fun b13 g => ?_) fun b13 g => ?_
 refine C.skip (C.xs (C.block (C.seq ?_)))
 refine C.jn (fun (x14 : Bool) => [(0, .sl 3 eApiJob l), (1, .sl 1 eI order), (5, .o 0), (6, .i s9.2), (26, .b x14)]) (fun x14 => [(0, .val (.os 1 eI s9.1))]) 1 g (fun x14 g => ?_) fun J15 g j15 => ?_
 refine C.nx ?_
 refine C.jn (fun (x18 : List Int) => [(0, .sl 3 eApiJob l), (1, .sl 1 eI order), (5, .o 0), (6, .i s9.2)]) (fun x18 => [(0, .val (.os 1 eI x18))]) 1 g (fun x18 g => ?_) fun J19 g j19 => ?_
 refine C.bnx (C.nx (U.start (U.pd 3 T (C.nx ?_))))
 exact St.wk (C.next g) (Wk.a [some 0])
 refine C.ite rfl g (fun b20 g => ?_) fun b20 g => ?_
 refine U.start (U.ps 3 T rfl ?_)
 obtain ⟨x23, y23, g⟩ := g
 refine U.ix T y23 ?_
 refine U.ps 1 T rfl (U.bs T eI ([x23] : List Int) ?_)
 obtain ⟨y24, g⟩ := g
 refine U.ap T y24 ?_
 refine U.pd 1 T ?_
 exact St.wa [some 2] (j19 _ g)
 refine C.skip ?_
 exact St.wa [some 0] (j19 _ g)
 refine U.start (U.ps 2 T rfl ?_)
 obtain ⟨x16, y16, g⟩ := g
 refine U.ix T y16 ?_
 refine U.ps 3 T rfl ?_
 refine g.cs (fun b17 g => ?_) fun b17 g => ?_
 refine U.pq 2 5 true 18 b17 T ?_
 refine U.r rfl (.tk 5 true 18 b17) rfl rfl (by exact Rd.ix T rfl rfl rfl rfl rfl rfl y16) ?_
 refine U.pq 4 5 true 18 b17 T ?_
 refine U.pk b17 ?_
 refine U.done ?_
 exact St.wa [some 0] (j15 _ g)
 refine U.sk' 7 5 true 18 b17 ?_
 refine U.pk' b17 ?_
 refine U.done ?_
 exact St.wa [some 0] (j15 _ g)
 refine C.exit (C.ex (C.ex (C.bex ?_)))
 exact St.wa [some 0] (j8 _ g)
theorem T_taquinref43_Ends (l : List ApiJob) (order : List Int) (start : Int) (post : (List Int) → Prop) (g : V_taquinref43_Ends l order start post) :
    Tr Try.prog 23 [.sl 3 eApiJob l, .sl 1 eI order, .i start] [] 0 (fun A H' k => ∃ y, post y ∧ A = (.o 0) ∧ H' = [(0, .val (.os 1 eI y))] ∧ k = 1) := by
 refine Tr.go Try.func23 Try.ntmps23 fun _ _ _ _ o => ?_
 unfold V_taquinref43_Ends at g
 refine C.ss (U.pd 1 T (C.xt ?_))
 refine U.pd 1 T (C.xt ?_)
 refine U.ps 2 T rfl (U.k (T_taquinref43_known l order _ g) en45 (fun x7 g => ?_))
 refine U.pd 1 T (C.xs (C.ss ?_))
 refine U.pd 1 T (C.nx ?_)
 refine C.jn (fun (x10 : List Int) => [(7, .o 0)]) (fun x10 => [(0, .val (.os 1 eI x10))]) 1 g (fun x10 g => ?_) fun J11 g j11 => ?_
 refine C.xt (U.pd 2 T (C.nx (C.ret ?_)))
 exact C.g1 [some 0] T o ⟨x10, g, rfl, rfl, rfl⟩
 refine C.block ?_
 refine St.wk (C.loop (fun (s12 : Int × List Int × Int) => [(0, .sl 3 eApiJob l), (2, .i s12.1), (7, .o 0), (8, .o 1), (9, .i s12.2.2)]) (fun s12 => [(0, .val (.os 1 eI s12.2.1)), (1, .val (.os 1 eI x7))]) g (fun s12 Y13 g => ?_)) (Wk.mk' [none, some 0] rfl rfl ⟨⟨_, rfl, (.eq rfl)⟩, ⟨_, rfl, (.eq rfl)⟩, ⟨_, rfl, (.nilO _ _ ⟨rfl, rfl⟩ rfl)⟩, ChkG.eqs rfl⟩ ⟨⟨_, rfl, .nil _ _⟩, vL, trivial⟩ rfl)
 refine C.seq (C.ss (U.pd 4 T (C.nx ?_)))
 refine C.ite rfl g (fun b16 g => ?_) fun b16 g => ?_
 refine C.skip (C.xs (C.block (C.ss (U.ps 4 T rfl ?_))))
 obtain ⟨x19, y19, g⟩ := g
 refine U.r rfl (.none rfl) rfl rfl (by exact Rd.io T rfl rfl rfl rfl rfl rfl rfl y19) ?_
 refine U.r rfl (.none rfl) rfl rfl (by exact Rd.le T rfl rfl rfl (idx_some y19).2.2 rfl rfl rfl) ?_
 obtain ⟨x20, y20, g⟩ := g
 refine U.ix T y20 ?_
 refine U.pd 4 T (C.nx (U.start ?_))
 refine U.ps 2 T rfl (U.bs T eI ([w64 (s12.1 + x20.Work)] : List Int) ?_)
 obtain ⟨y23, g⟩ := g
 refine U.ap T y23 ?_
 refine U.pd 1 T (C.bnx (C.nx (U.start ?_)))
 refine U.pd 3 T (C.nx ?_)
 exact St.wk (C.next g) (Wk.a [some 3, some 1])
 refine C.exit (C.ex (C.ex (C.bex ?_)))
 exact St.wa [some 0] (j11 _ g)
theorem T_taquinref43_Worst (l : List ApiJob) (order : List Int) (start : Int) (post : Int → Prop) (g : V_taquinref43_Worst l order start post) :
    Tr Try.prog 24 [.sl 3 eApiJob l, .sl 1 eI order, .i start] [] 0 (pI post) := by
 refine Tr.go Try.func24 Try.ntmps24 fun _ _ _ _ o => ?_
 unfold V_taquinref43_Worst at g
 refine C.ss (U.pd 1 T (C.xt ?_))
 refine U.ps 2 T rfl (U.k (T_taquinref43_known l order _ g) en45 (fun x5 g => ?_))
 refine U.pd 1 T (C.xt ?_)
 refine U.ps 3 T rfl (U.k (T_taquinref43_Ends l x5 start _ g) en23 (fun x8 g => ?_))
 refine U.pd 1 T (C.xt ?_)
 refine U.pd 1 T (C.xs (C.ss ?_))
 refine U.pd 1 T (C.nx ?_)
 refine C.jn (fun (x13 : Int) => [(9, .i x13)]) (fun x13 => []) 0 g (fun x13 g => ?_) fun J14 g j14 => ?_
 refine C.xt (U.pd 2 T (C.nx (C.ret ?_)))
 exact C.f1 T o (pIi g)
 refine C.block (St.wk (C.loop (fun (s15 : Int × Int) => [(0, .sl 3 eApiJob l), (7, .o 0), (8, .o 1), (9, .i s15.1), (10, .i s15.2)]) (fun s15 => [(0, .val (.os 1 eI x5)), (1, .val (.os 1 eI x8))]) g (fun s15 Y16 g => ?_)) (Wk.a (idR 2)))
 refine C.seq (C.ss (U.pd 4 T (C.nx ?_)))
 refine C.ite rfl g (fun b19 g => ?_) fun b19 g => ?_
 refine C.skip (C.xs (C.block (C.seq (D.bg mix 9999 [0, 1] [] (fun hQ hS ws M' => ?_)))))
 refine D.pq 2 (zl [0, 1]) T ?_
 obtain ⟨x22, y22, g⟩ := g
 refine D.q 2 [] hQ hS rfl (.none rfl) rfl rfl (by exact Rd.io T rfl rfl rfl rfl rfl rfl rfl y22) rfl (by kernel_rfl) ?_
 refine D.q 3 [] hQ hS rfl (.none rfl) rfl rfl (by exact Rd.le T rfl rfl rfl (idx_some y22).2.2 rfl rfl rfl) rfl (by kernel_rfl) ?_
 refine D.pq 3 (zl [4, 5, 6]) T ?_
 obtain ⟨x23, y23, g⟩ := g
 refine D.q 7 [] hQ hS rfl (.none rfl) rfl rfl (by exact Rd.io T rfl rfl rfl rfl rfl rfl rfl y23) rfl (by kernel_rfl) ?_
 refine D.q 8 [] hQ hS rfl (.none rfl) rfl rfl (by exact Rd.le T rfl rfl rfl (idx_some y23).2.2 rfl rfl rfl) rfl (by kernel_rfl) ?_
 obtain ⟨x24, y24, g⟩ := g
 refine D.ix 9 [] T y24 ?_
 refine D.pq 4 (zl [10, 11, 12, 13]) T ?_
 refine D.done (by kernel_rfl) ?_
 refine C.xs ?_
 refine C.jn (fun (x25 : Bool) => [(0, .sl 3 eApiJob l), (7, .o 0), (8, .o 1), (9, .i s15.1), (10, .i s15.2), (11, .i (w64 (x22 - x24.Due))), (44, .b x25)]) (fun x25 => [(0, .val (.os 1 eI x5)), (1, .val (.os 1 eI x8))]) 2 g (fun x25 g => ?_) fun J26 g j26 => ?_
 refine C.nx ?_
 refine C.jn (fun (x28 : Int) => [(0, .sl 3 eApiJob l), (7, .o 0), (8, .o 1), (9, .i x28), (10, .i s15.2)]) (fun x28 => [(0, .val (.os 1 eI x5)), (1, .val (.os 1 eI x8))]) 2 g (fun x28 g => ?_) fun J29 g j29 => ?_
 refine C.bnx (C.nx (U.start (U.pd 3 T (C.nx ?_))))
 exact St.wk (C.next g) (Wk.a (idR 2))
 refine C.ite rfl g (fun b30 g => ?_) fun b30 g => ?_
 refine U.start (U.pd 2 T ?_)
 exact St.wa (idR 2) (j29 _ g)
 refine C.skip ?_
 exact St.wa (idR 2) (j29 _ g)
 refine U.start (U.ps 3 T rfl ?_)
 refine g.cs (fun b27 g => ?_) fun b27 g => ?_
 refine U.sk' 3 2 false 40 b27 ?_
 refine U.pk b27 ?_
 refine U.done ?_
 exact St.wa (idR 2) (j26 _ g)
 refine U.pq 3 2 false 40 b27 T ?_
 refine U.pk' b27 ?_
 refine U.done ?_
 exact St.wa (idR 2) (j26 _ g)
 refine C.exit (C.ex (C.ex (C.bex ?_)))
 exact St.wn (j14 _ g)
theorem T_taquinref43_InTime (l : List ApiJob) (start : Int) (post : (List Int) → Prop) (g : V_taquinref43_InTime l start post) :
    Tr Try.prog 25 [.sl 3 eApiJob l, .i start] [] 0 (fun A H' k => ∃ y, post y ∧ A = (.o 0) ∧ H' = [(0, .val (.os 1 eI y))] ∧ k = 1) := by
 refine Tr.go Try.func25 Try.ntmps25 fun _ _ _ _ o => ?_
 unfold V_taquinref43_InTime at g
 refine C.ss (U.pd 1 T (C.xt ?_))
 refine U.ps 1 T rfl (U.k (T_taquinref43_Due l _ g) en21 (fun x5 g => ?_))
 refine U.pd 1 T (C.xt ?_)
 refine U.ps 2 T rfl ?_
 obtain ⟨y8, g⟩ := g
 refine U.e1 rfl (.none rfl) (by exact Eff1.mk T (enc := eB) (z0 := false) rfl rfl rfl rfl rfl rfl rfl rfl rfl rfl y8) ?_
 refine U.pd 1 T (C.xt ?_)
 refine U.pd 2 T (C.xs (C.ss ?_))
 refine U.pd 1 T (C.nx ?_)
 refine C.jn (fun (x13 : List Bool) => [(0, .sl 3 eApiJob l), (6, .o 0)]) (fun x13 => [(0, .val (.os 1 eB x13))]) 1 g (fun x13 g => ?_) fun J14 g j14 => ?_
 refine C.xt (U.pd 1 T (C.xs (C.ss ?_)))
 refine U.pd 1 T (C.nx ?_)
 refine C.jn (fun (x71 : List Int) => [(11, .o 0)]) (fun x71 => [(0, .val (.os 1 eI x71))]) 1 g (fun x71 g => ?_) fun J72 g j72 => ?_
 refine C.xt (U.pd 2 T (C.nx (C.ret ?_)))
 exact C.g1 [some 0] T o ⟨x71, g, rfl, rfl, rfl⟩
 refine C.block ?_
 refine St.wk (C.loop (fun (s73 : List Int × Int) => [(0, .sl 3 eApiJob l), (6, .o 0), (11, .o 1), (12, .i s73.2)]) (fun s73 => [(0, .val (.os 1 eB x13)), (1, .val (.os 1 eI s73.1))]) g (fun s73 Y74 g => ?_)) (Wk.mk' [some 0, none] rfl rfl ⟨⟨_, rfl, (.eq rfl)⟩, ⟨_, rfl, (.eq rfl)⟩, ⟨_, rfl, (.nilO _ _ ⟨rfl, rfl⟩ rfl)⟩, ChkG.eqs rfl⟩ ⟨vL, ⟨_, rfl, .nil _ _⟩, trivial⟩ rfl)
 refine C.seq (C.ss (U.pd 4 T (C.nx ?_)))
 refine C.ite rfl g (fun b77 g => ?_) fun b77 g => ?_
 refine C.skip (C.xs (C.block (C.ss (U.ps 2 T rfl ?_))))
 obtain ⟨x80, y80, g⟩ := g
 refine U.r rfl (.none rfl) rfl rfl (by exact Rd.io T rfl rfl rfl rfl rfl rfl rfl y80) ?_
 refine U.r rfl (.none rfl) rfl rfl (by exact Rd.le T rfl rfl rfl (idx_some y80).2.2 rfl rfl rfl) ?_
 refine U.done (C.nx ?_)
 refine C.jn (fun (x81 : List Int) => [(0, .sl 3 eApiJob l), (6, .o 0), (11, .o 1), (12, .i s73.2)]) (fun x81 => [(0, .val (.os 1 eB x13)), (1, .val (.os 1 eI x81))]) 2 g (fun x81 g => ?_) fun J82 g j82 => ?_
 refine C.bnx (C.nx (U.start (U.pd 3 T (C.nx ?_))))
 exact St.wk (C.next g) (Wk.a (idR 2))
 refine C.ite rfl g (fun b83 g => ?_) fun b83 g => ?_
 refine U.start (U.ps 2 T rfl (U.bs T eI ([s73.2] : List Int) ?_))
 obtain ⟨y86, g⟩ := g
 refine U.ap T y86 ?_
 refine U.pd 1 T ?_
 exact St.wa [some 0, some 3] (j82 _ g)
 refine C.skip ?_
 exact St.wa (idR 2) (j82 _ g)
 refine C.exit (C.ex (C.ex (C.bex ?_)))
 exact St.wa [some 1] (j72 _ g)
 refine C.block (St.wk (C.loop (fun (s15 : List Bool × Int × Int) => [(0, .sl 3 eApiJob l), (5, .o 0), (6, .o 1), (7, .i s15.2.1), (8, .i s15.2.2)]) (fun s15 => [(0, .val (.os 1 eI x5)), (1, .val (.os 1 eB s15.1))]) g (fun s15 Y16 g => ?_)) (Wk.a (idR 2)))
 refine C.seq (C.ss (U.pd 4 T (C.nx ?_)))
 refine C.ite rfl g (fun b19 g => ?_) fun b19 g => ?_
 refine C.skip (C.xs ?_)
 refine C.jn (fun (x20 : List Bool × Int) => [(0, .sl 3 eApiJob l), (5, .o 0), (6, .o 1), (7, .i x20.2), (8, .i s15.2.2)]) (fun x20 => [(0, .val (.os 1 eI x5)), (1, .val (.os 1 eB x20.1))]) 2 g (fun x20 g => ?_) fun J21 g j21 => ?_
 refine C.nx (U.start (U.pd 3 T (C.nx ?_)))
 exact St.wk (C.next g) (Wk.a (idR 2))
 refine C.block (C.ss (U.ps 3 T rfl ?_))
 obtain ⟨x24, y24, g⟩ := g
 refine U.r rfl (.none rfl) rfl rfl (by exact Rd.io T rfl rfl rfl rfl rfl rfl rfl y24) ?_
 refine U.r rfl (.none rfl) rfl rfl (by exact Rd.le T rfl rfl rfl (idx_some y24).2.2 rfl rfl rfl) ?_
 obtain ⟨x25, y25, g⟩ := g
 refine U.r rfl (.none rfl) rfl rfl (by exact Rd.io T rfl rfl rfl rfl rfl rfl rfl y25) ?_
 refine U.e1 rfl (.none rfl) (by exact Eff1.se T (z' := true) rfl rfl rfl (idx_some y25).2.2 rfl rfl rfl rfl rfl rfl rfl rfl (fun _ => rfl) rfl) ?_
 refine U.done (C.xt (U.ps 4 T rfl (U.r rfl (.none rfl) rfl rfl (by exact Rd.io T rfl rfl rfl rfl rfl rfl rfl y24) ?_)))
 refine U.r rfl (.none rfl) rfl rfl (by exact Rd.le T rfl rfl rfl (idx_some y24).2.2 rfl rfl rfl) ?_
 obtain ⟨x28, y28, g⟩ := g
 refine U.ix T y28 ?_
 refine U.pd 4 T (C.xt ?_)
 refine U.ps 4 T rfl (U.r rfl (.none rfl) rfl rfl (by exact Rd.io T rfl rfl rfl rfl rfl rfl rfl y24) ?_)
 refine U.r rfl (.none rfl) rfl rfl (by exact Rd.le T rfl rfl rfl (idx_some y24).2.2 rfl rfl rfl) ?_
 refine U.ix T y28 ?_
 refine U.pd 3 T (C.nx ?_)
 refine C.jn (fun (x31 : List Bool × Int) => [(0, .sl 3 eApiJob l), (5, .o 0), (6, .o 1), (7, .i x31.2), (8, .i s15.2.2)]) (fun x31 => [(0, .val (.os 1 eI x5)), (1, .val (.os 1 eB x31.1))]) 2 g (fun x31 g => ?_) fun J32 g j32 => ?_
 refine C.bnx ?_
 exact St.wa (idR 2) (j21 _ g)
 refine C.ite rfl g (fun b33 g => ?_) fun b33 g => ?_
 refine C.ss (U.pd 1 T (C.xs (C.ss ?_)))
 refine U.pd 1 T (C.nx ?_)
 refine C.jn (fun (x38 : Int) => [(0, .sl 3 eApiJob l), (5, .o 0), (6, .o 1), (7, .i (w64 (s15.2.1 + x28.Work))), (8, .i s15.2.2), (9, .i x38)]) (fun x38 => [(0, .val (.os 1 eI x5)), (1, .val (.os 1 eB (s15.1.set (Int.toNat x24) true)))]) 2 g (fun x38 g => ?_) fun J39 g j39 => ?_
 refine C.xt (U.ps 2 T rfl ?_)
 obtain ⟨x61, y61, g⟩ := g
 refine U.r rfl (.none rfl) rfl rfl (by exact Rd.io T rfl rfl rfl rfl rfl rfl rfl y61) ?_
 refine U.e1 rfl (.none rfl) (by exact Eff1.se T (z' := false) rfl rfl rfl (idx_some y61).2.2 rfl rfl rfl rfl rfl rfl rfl rfl (fun _ => rfl) rfl) ?_
 refine U.done (C.nx (U.start (U.ps 3 T rfl ?_)))
 obtain ⟨x64, y64, g⟩ := g
 refine U.ix T y64 ?_
 refine U.pd 4 T ?_
 exact St.wa (idR 2) (j32 _ g)
 refine C.block (St.wk (C.loop (fun (s40 : Int × Int) => [(0, .sl 3 eApiJob l), (5, .o 0), (6, .o 1), (7, .i (w64 (s15.2.1 + x28.Work))), (8, .i s15.2.2), (9, .i s40.1), (10, .i s40.2)]) (fun s40 => [(0, .val (.os 1 eI x5)), (1, .val (.os 1 eB (s15.1.set (Int.toNat x24) true)))]) g (fun s40 Y41 g => ?_)) (Wk.a (idR 2)))
 refine C.seq (C.ss (U.pd 4 T (C.nx ?_)))
 refine C.ite rfl g (fun b44 g => ?_) fun b44 g => ?_
 refine C.skip (C.xs (C.block (C.seq ?_)))
 refine C.jn (fun (x45 : Bool) => [(0, .sl 3 eApiJob l), (5, .o 0), (6, .o 1), (7, .i (w64 (s15.2.1 + x28.Work))), (8, .i s15.2.2), (9, .i s40.1), (10, .i s40.2), (78, .b x45)]) (fun x45 => [(0, .val (.os 1 eI x5)), (1, .val (.os 1 eB (s15.1.set (Int.toNat x24) true)))]) 2 g (fun x45 g => ?_) fun J46 g j46 => ?_
 refine C.nx ?_
 refine C.jn (fun (x52 : Int) => [(0, .sl 3 eApiJob l), (5, .o 0), (6, .o 1), (7, .i (w64 (s15.2.1 + x28.Work))), (8, .i s15.2.2), (9, .i x52), (10, .i s40.2)]) (fun x52 => [(0, .val (.os 1 eI x5)), (1, .val (.os 1 eB (s15.1.set (Int.toNat x24) true)))]) 2 g (fun x52 g => ?_) fun J53 g j53 => ?_
 refine C.bnx (C.nx (U.start (U.pd 3 T (C.nx ?_))))
 exact St.wk (C.next g) (Wk.a (idR 2))
 refine C.ite rfl g (fun b54 g => ?_) fun b54 g => ?_
 refine U.start (U.pd 2 T ?_)
 exact St.wa (idR 2) (j53 _ g)
 refine C.skip ?_
 exact St.wa (idR 2) (j53 _ g)
 refine D.bg mix 9999 [1] [] (fun hQ hS ws M' => ?_)
 refine D.pq 2 (zl [0, 1]) T ?_
 obtain ⟨x47, y47, g⟩ := g
 refine D.q 2 [] hQ hS rfl (.none rfl) rfl rfl (by exact Rd.io T rfl rfl rfl rfl rfl rfl rfl y47) rfl (by kernel_rfl) ?_
 refine D.q 3 [] hQ hS rfl (.none rfl) rfl rfl (by exact Rd.le T rfl rfl rfl (idx_some y47).2.2 rfl rfl rfl) rfl (by kernel_rfl) ?_
 refine D.pq 1 [(4, [])] T ?_
 refine g.cs (fun b48 g => ?_) fun b48 g => ?_
 refine D.pt 5 [] 4 true 61 b48 T ?_
 refine D.pt 6 [] 4 true 61 b48 T ?_
 refine D.pt 7 [] 4 true 61 b48 T ?_
 refine g.cs (fun b49 g => ?_) fun b49 g => ?_
 refine D.sz 8 [] 7 false 64 b49 ?_
 refine D.sz 9 [] 7 false 64 b49 ?_
 refine D.sz 10 [] 7 false 64 b49 ?_
 refine D.sz 11 [] 7 false 64 b49 ?_
 refine D.sz 12 [] 7 false 64 b49 ?_
 refine D.sz 13 [] 7 false 64 b49 ?_
 refine D.sz 14 [] 7 false 64 b49 ?_
 refine D.sz 15 [] 7 false 64 b49 ?_
 refine D.sz 16 [] 7 false 64 b49 ?_
 refine D.sz 17 [] 7 false 64 b49 ?_
 refine D.sz 18 [] 7 false 64 b49 ?_
 refine D.sz 19 [] 7 false 64 b49 ?_
 refine D.q 20 [] hQ hS rfl (.tk 4 true 61 b48) rfl rfl (by exact Rd.pk rfl rfl b49 rfl) rfl (by kernel_rfl) ?_
 refine D.kt 21 [] b48 ?_
 refine D.done (by kernel_rfl) ?_
 exact St.wa (idR 2) (j46 _ g)
 refine D.pt 8 [] 7 false 64 b49 T ?_
 refine D.pt 9 [] 7 false 64 b49 T ?_
 obtain ⟨x50, y50, g⟩ := g
 refine D.q 10 [] hQ hS rfl (.tk 7 false 64 b49) rfl rfl (by exact Rd.ix T rfl rfl rfl rfl rfl rfl y50) rfl (by kernel_rfl) ?_
 refine D.pt 11 [] 7 false 64 b49 T ?_
 refine D.q 12 [] hQ hS rfl (.tk 7 false 64 b49) rfl rfl (by exact Rd.l T rfl rfl rfl) rfl (by kernel_rfl) ?_
 refine D.pt 13 [] 7 false 64 b49 T ?_
 refine D.pt 14 [] 7 false 64 b49 T ?_
 refine D.pt 15 [] 7 false 64 b49 T ?_
 obtain ⟨x51, y51, g⟩ := g
 refine D.q 16 [] hQ hS rfl (.tk 7 false 64 b49) rfl rfl (by exact Rd.ix T rfl rfl rfl rfl rfl rfl y51) rfl (by kernel_rfl) ?_
 refine D.pt 17 [] 7 false 64 b49 T ?_
 refine D.q 18 [] hQ hS rfl (.tk 7 false 64 b49) rfl rfl (by exact Rd.l T rfl rfl rfl) rfl (by kernel_rfl) ?_
 refine D.pt 19 [] 7 false 64 b49 T ?_
 refine D.q 20 [] hQ hS rfl (.tk 4 true 61 b48) rfl rfl (by exact Rd.pk' rfl rfl b49 rfl) rfl (by kernel_rfl) ?_
 refine D.kt 21 [] b48 ?_
 refine D.done (by kernel_rfl) ?_
 exact St.wa (idR 2) (j46 _ g)
 refine D.sz 5 [] 4 true 61 b48 ?_
 refine D.sz 6 [] 4 true 61 b48 ?_
 refine D.sz 7 [] 4 true 61 b48 ?_
 refine D.sx 8 [] hQ hS (.und 7 false 64 rfl rfl rfl) ?_
 refine D.sx 9 [] hQ hS (.und 7 false 64 rfl rfl rfl) ?_
 refine D.sx 10 [] hQ hS (.und 7 false 64 rfl rfl rfl) ?_
 refine D.sx 11 [] hQ hS (.und 7 false 64 rfl rfl rfl) ?_
 refine D.sx 12 [] hQ hS (.und 7 false 64 rfl rfl rfl) ?_
 refine D.sx 13 [] hQ hS (.und 7 false 64 rfl rfl rfl) ?_
 refine D.sx 14 [] hQ hS (.und 7 false 64 rfl rfl rfl) ?_
 refine D.sx 15 [] hQ hS (.und 7 false 64 rfl rfl rfl) ?_
 refine D.sx 16 [] hQ hS (.und 7 false 64 rfl rfl rfl) ?_
 refine D.sx 17 [] hQ hS (.und 7 false 64 rfl rfl rfl) ?_
 refine D.sx 18 [] hQ hS (.und 7 false 64 rfl rfl rfl) ?_
 refine D.sx 19 [] hQ hS (.und 7 false 64 rfl rfl rfl) ?_
 refine D.sz 20 [] 4 true 61 b48 ?_
 refine D.kf 21 [] b48 ?_
 refine D.done (by kernel_rfl) ?_
 exact St.wa (idR 2) (j46 _ g)
 refine C.exit (C.ex (C.ex (C.bex ?_)))
 exact St.wa (idR 2) (j39 _ g)
 refine C.skip ?_
 exact St.wa (idR 2) (j32 _ g)
 refine C.exit (C.ex (C.ex (C.bex ?_)))
 exact St.wa [some 1] (j14 _ g)
theorem T_taquinref43_Merge (l : List ApiJob) (setup : Int) (post : (List ApiJob) → Prop) (g : V_taquinref43_Merge l setup post) :
    Tr Try.prog 27 [.sl 3 eApiJob l, .i setup] [] 0 (fun A H' k => ∃ y, post y ∧ A = (.o 0) ∧ H' = [(0, .val (.os 3 eApiJob y))] ∧ k = 1) := by
 refine Tr.go Try.func27 Try.ntmps27 fun _ _ _ _ o => ?_
 unfold V_taquinref43_Merge at g
 refine C.ss (U.pd 1 T (C.xt ?_))
 refine U.pd 1 T (C.xt ?_)
 refine U.ps 1 T rfl (U.k (T_taquinref43_Batches l _ g) en20 (fun x7 g => ?_))
 refine U.pd 1 T (C.xs (C.ss ?_))
 refine U.pd 1 T (C.nx ?_)
 refine C.jn (fun (x10 : List ApiJob) => [(5, .o 0)]) (fun x10 => [(0, .val (.os 3 eApiJob x10))]) 1 g (fun x10 g => ?_) fun J11 g j11 => ?_
 refine C.xt (U.pd 2 T (C.nx (C.ret ?_)))
 exact C.g1 [some 0] T o ⟨x10, g, rfl, rfl, rfl⟩
 refine C.block ?_
 refine St.wk (C.loop (fun (s12 : List ApiJob × List (List Int) × Int) => [(0, .sl 3 eApiJob l), (1, .i setup), (5, .o 0), (6, .o 1), (7, .i s12.2.2)]) (fun s12 => [(0, .val (.os 3 eApiJob s12.1)), (1, .val (.os 1 eOeI s12.2.1))]) g (fun s12 Y13 g => ?_)) (Wk.mk' [none, some 0] rfl rfl ⟨⟨_, rfl, (.eq rfl)⟩, ⟨_, rfl, (.eq rfl)⟩, ⟨_, rfl, (.nilO _ _ ⟨rfl, rfl⟩ rfl)⟩, ChkG.eqs rfl⟩ ⟨⟨_, rfl, .nil _ _⟩, vL, trivial⟩ rfl)
 refine C.seq (C.ss (U.pd 4 T (C.nx ?_)))
 refine C.ite rfl g (fun b16 g => ?_) fun b16 g => ?_
 refine C.skip (C.xs ?_)
 refine C.jn (fun (x17 : List ApiJob × List (List Int)) => [(0, .sl 3 eApiJob l), (1, .i setup), (5, .o 0), (6, .o 1), (7, .i s12.2.2)]) (fun x17 => [(0, .val (.os 3 eApiJob x17.1)), (1, .val (.os 1 eOeI x17.2))]) 2 g (fun x17 g => ?_) fun J18 g j18 => ?_
 refine C.nx (U.start (U.pd 3 T (C.nx ?_)))
 exact St.wk (C.next g) (Wk.a (idR 2))
 refine C.block (C.seq ?_)
 obtain ⟨x21, y21, g⟩ := g
 refine St.lend (l := 1) (i := (Int.toNat s12.2.2)) rfl (idx_some y21).2.2 rfl (fun _ => rfl) ?_
 refine D.bg mix 23 [1, 2] [] (fun hQ hS ws M' => ?_)
 refine D.pq 3 (zl [0, 1, 2]) T ?_
 refine D.q 3 [] hQ hS rfl (.none rfl) rfl rfl (by exact Rd.il T rfl rfl rfl rfl rfl rfl rfl y21) rfl (by kernel_rfl) ?_
 refine D.q 4 [] hQ hS rfl (.none rfl) rfl rfl (by exact Rd.ll T rfl rfl rfl (.head _) rfl rfl rfl rfl) rfl (by kernel_rfl) ?_
 obtain ⟨x22, y22, g⟩ := g
 refine D.q 5 [] hQ hS rfl (.none rfl) rfl rfl (by exact Rd.io T rfl rfl rfl rfl rfl rfl rfl y22) rfl (by kernel_rfl) ?_
 refine D.q 6 [] hQ hS rfl (.none rfl) rfl rfl (by exact Rd.le T rfl rfl rfl (idx_some y22).2.2 rfl rfl rfl) rfl (by kernel_rfl) ?_
 obtain ⟨x23, y23, g⟩ := g
 refine D.ix 7 [] T y23 ?_
 refine D.pq 6 (zl [8, 9, 10, 11, 12, 13]) T ?_
 refine D.q 14 [] hQ hS rfl (.none rfl) rfl rfl (by exact Rd.il T rfl rfl rfl rfl rfl rfl rfl y21) rfl (by kernel_rfl) ?_
 refine D.q 15 [] hQ hS rfl (.none rfl) rfl rfl (by exact Rd.ll T rfl rfl rfl (.head _) rfl rfl rfl rfl) rfl (by kernel_rfl) ?_
 refine D.q 16 [] hQ hS rfl (.none rfl) rfl rfl (by exact Rd.io T rfl rfl rfl rfl rfl rfl rfl y22) rfl (by kernel_rfl) ?_
 refine D.q 17 [] hQ hS rfl (.none rfl) rfl rfl (by exact Rd.le T rfl rfl rfl (idx_some y22).2.2 rfl rfl rfl) rfl (by kernel_rfl) ?_
 refine D.ix 18 [] T y23 ?_
 refine D.pq 3 (zl [19, 20, 21]) T ?_
 refine D.e1 22 rfl (.none rfl) (by exact Eff1.al T rfl rfl rfl rfl) (by kernel_rfl) rfl rfl ?_
 refine D.ze1 rfl (.none rfl) (by exact Eff1.st T rfl rfl rfl rfl rfl rfl rfl rfl rfl rfl) (by kernel_rfl) (by kernel_rfl) ?_
 refine St.putb (l := 1) (l' := 2) (y := x21) rfl rfl rfl (fun _ h => nomatch h) rfl _ rfl ?_
 refine C.xs (C.ss (U.pd 1 T (C.nx ?_)))
 refine C.jn (fun (x26 : List (List Int) × Int) => [(0, .sl 3 eApiJob l), (1, .i setup), (5, .o 0), (6, .o 1), (7, .i s12.2.2), (8, .p 2 0)]) (fun x26 => [(0, .val (.os 3 eApiJob s12.1)), (1, .val (.os 1 eOeI x26.1)), (2, .box [.i x23.Shelf, .i x26.2, .i x23.Due])]) 3 g (fun x26 g => ?_) fun J27 g j27 => ?_
 refine C.nx (U.start (U.ps 2 T rfl (U.bs T eApiJob ([({ Shelf := x23.Shelf, Work := x26.2, Due := x23.Due : ApiJob })] : List ApiJob) ?_)))
 obtain ⟨y42, g⟩ := g
 refine U.ap T y42 ?_
 refine U.pd 1 T (C.bnx ?_)
 exact St.wa [some 4, some 1] (j18 _ g)
 refine C.block ?_
 refine St.wk (C.loop (fun (s28 : List (List Int) × Int × Int) => [(0, .sl 3 eApiJob l), (1, .i setup), (5, .o 0), (6, .o 1), (7, .i s12.2.2), (8, .p 2 0), (9, .i s28.2.2)]) (fun s28 => [(0, .val (.os 3 eApiJob s12.1)), (1, .val (.os 1 eOeI s28.1)), (2, .box [.i x23.Shelf, .i s28.2.1, .i x23.Due])]) g (fun s28 Y29 g => ?_)) (Wk.a [some 0, some 1, some 3])
 refine C.seq (C.ss (U.ps 3 T rfl ?_))
 obtain ⟨x32, y32, g⟩ := g
 refine U.r rfl (.none rfl) rfl rfl (by exact Rd.io T rfl rfl rfl rfl rfl rfl rfl y32) ?_
 refine St.lend (l := 1) (i := (Int.toNat s12.2.2)) rfl (idx_some y32).2.2 rfl (fun _ => rfl) ?_
 refine U.r rfl (.none rfl) rfl rfl (by exact Rd.ll T rfl rfl rfl (.head _) rfl rfl rfl rfl) ?_
 refine U.pd 2 T ?_
 refine St.putb (l := 1) (l' := 3) (y := x32) rfl rfl rfl (fun _ h => nomatch h) rfl _ rfl ?_
 refine C.nx ?_
 refine C.ite rfl g (fun b33 g => ?_) fun b33 g => ?_
 refine C.skip (C.xs (C.block (St.lend (l := 1) (i := (Int.toNat s12.2.2)) rfl (set_get (idx_some y32).2.2) rfl (fun _ => rfl) ?_)))
 refine D.bg mix 15 [1, 2, 4] [] (fun hQ hS ws M' => ?_)
 refine D.pq 5 (zl [0, 1, 2, 3, 4]) T ?_
 refine D.q 5 [] hQ hS rfl (.none rfl) rfl rfl (by exact Rd.il T rfl rfl rfl rfl rfl rfl rfl (idx_set y32)) rfl (by kernel_rfl) ?_
 refine D.q 6 [] hQ hS rfl (.none rfl) rfl rfl (by exact Rd.ll T rfl rfl rfl (.head _) rfl rfl rfl rfl) rfl (by kernel_rfl) ?_
 refine D.pq 1 [(7, [])] T ?_
 obtain ⟨x36, y36, g⟩ := g
 refine D.q 8 [] hQ hS rfl (.none rfl) rfl rfl (by exact Rd.io T rfl rfl rfl rfl rfl rfl rfl y36) rfl (by kernel_rfl) ?_
 refine D.q 9 [] hQ hS rfl (.none rfl) rfl rfl (by exact Rd.le T rfl rfl rfl (idx_some y36).2.2 rfl rfl rfl) rfl (by kernel_rfl) ?_
 obtain ⟨x37, y37, g⟩ := g
 refine D.ix 10 [] T y37 ?_
 refine D.pq 4 (zl [11, 12, 13, 14]) T ?_
 refine D.ze1 rfl (.none rfl) (by exact Eff1.st T rfl rfl rfl rfl rfl rfl rfl rfl rfl rfl) (by kernel_rfl) (by kernel_rfl) ?_
 refine St.putb (l := 1) (l' := 4) (y := x32) rfl rfl rfl (fun _ h => nomatch h) rfl _ rfl ?_
 refine C.bnx (C.nx (U.start (U.pd 3 T (C.nx ?_))))
 exact St.wk (C.next g) (Wk.a (idR 3))
 refine C.exit (C.ex (C.ex (C.bex ?_)))
 exact St.wa (idR 3) (j27 _ g)
 refine C.exit (C.ex (C.ex (C.bex ?_)))
 exact St.wa [some 0] (j11 _ g)
theorem T_taquinlaw43_BatchTells (l : List ApiJob) (order : List Int) (start : Int) (setup : Int) (post : Bool → Prop) (g : V_taquinlaw43_BatchTells l order start setup post) :
    Tr Try.prog 7 [.sl 3 eApiJob l, .sl 1 eI order, .i start, .i setup] [] 0 (pB post) := by
 refine Tr.go Try.func7 Try.ntmps7 fun _ _ _ _ o => ?_
 unfold V_taquinlaw43_BatchTells at g
 refine C.ss (U.pd 1 T (C.xt ?_))
 refine U.k (T_taquinlaw43_small _ g) en8 fun x5 g => ?_
 refine U.pd 1 T (C.xs (C.seq ?_))
 refine C.jn (fun (x6 : Bool) => [(0, .sl 3 eApiJob l), (1, .sl 1 eI order), (2, .i start), (3, .i setup), (9, .b x5), (23, .b x6)]) (fun x6 => []) 0 g (fun x6 g => ?_) fun J7 g j7 => ?_
 refine C.nx ?_
 refine C.ite rfl g (fun b11 g => ?_) fun b11 g => ?_
 refine C.seq ?_
 refine C.jn (fun (x12 : Bool) => [(8, .b x12)]) (fun x12 => []) 0 g (fun x12 g => ?_) fun J13 g j13 => ?_
 refine C.nx (C.ret (C.rt ?_))
 exact C.f1 T o (pBi g)
 refine U.start (U.ps 2 T rfl ?_)
 refine g.cs (fun b14 g => ?_) fun b14 g => ?_
 refine U.pq 3 1 true 25 b14 T ?_
 refine U.pk b14 ?_
 refine U.pd 1 T ?_
 exact St.wn (j13 _ g)
 refine U.sk' 3 1 true 25 b14 ?_
 refine U.pk' b14 ?_
 refine U.pd 1 T ?_
 exact St.wn (j13 _ g)
 refine C.skip (C.xs (C.seq ?_))
 refine C.jn (fun (x15 : Bool) => [(0, .sl 3 eApiJob l), (1, .sl 1 eI order), (2, .i start), (3, .i setup), (9, .b x5), (46, .b x15)]) (fun x15 => []) 0 g (fun x15 g => ?_) fun J16 g j16 => ?_
 refine C.nx ?_
 refine C.ite rfl g (fun b21 g => ?_) fun b21 g => ?_
 refine C.ss (U.pd 2 T (C.nx (C.ret (C.rt ?_))))
 exact C.f1 T o (pBi g)
 refine C.skip (C.xt (U.ps 1 T rfl (U.k (T_batch_Batches l _ g) en15 (fun x26 g => ?_))))
 refine U.pd 1 T (C.xt ?_)
 refine U.ps 1 T rfl (U.k (T_taquinref43_Batches l _ g) en20 (fun x29 g => ?_))
 refine U.pd 1 T (C.xs (C.ss ?_))
 refine U.pd 5 T (C.nx ?_)
 refine C.ite rfl g (fun b32 g => ?_) fun b32 g => ?_
 refine C.ss (U.pd 1 T (C.nx (C.ret (C.rt ?_))))
 exact C.f1 T o (pBi g)
 refine C.skip (C.xs (C.ss (U.pd 1 T (C.nx ?_))))
 refine C.jn (fun (x37 : Unit) => [(0, .sl 3 eApiJob l), (1, .sl 1 eI order), (2, .i start), (3, .i setup), (9, .b x5)]) (fun x37 => []) 0 g (fun x37 g => ?_) fun J38 g j38 => ?_
 refine C.xs (C.seq ?_)
 refine C.jn (fun (x54 : Bool) => [(0, .sl 3 eApiJob l), (2, .i start), (3, .i setup), (9, .b x5), (101, .b x54)]) (fun x54 => []) 0 g (fun x54 g => ?_) fun J55 g j55 => ?_
 refine C.nx ?_
 refine C.ite rfl g (fun b66 g => ?_) fun b66 g => ?_
 refine C.ss (U.pd 1 T (C.nx (C.ret (C.rt ?_))))
 exact C.f1 T o (pBi g)
 refine C.skip (C.xs ?_)
 refine C.jn (fun (x69 : Bool) => [(8, .b x69)]) (fun x69 => []) 0 g (fun x69 g => ?_) fun J70 g j70 => ?_
 refine C.nx (C.ret ?_)
 exact C.f1 T o (pBi g)
 refine U.start (U.ps 2 T rfl ?_)
 refine g.cs (fun b71 g => ?_) fun b71 g => ?_
 refine U.pq 2 1 true 103 b71 T ?_
 refine U.k (T_batch_InTime l start _ g) en13 (fun x72 g => ?_) (hw := .take 1 true 103 _ b71 rfl rfl rfl)
 refine U.pq 2 1 true 103 b71 T ?_
 refine U.k (T_taquinref43_InTime l start _ g) en25 (fun x73 g => ?_) (hw := .take 1 true 103 _ b71 rfl rfl rfl)
 refine U.k (T_taquinref07_Same x72 x73 _ g) en17 (fun x74 g => ?_) (hw := .take 1 true 103 _ b71 rfl rfl rfl)
 refine U.pk b71 ?_
 refine U.ps 1 T rfl ?_
 refine g.cs (fun b75 g => ?_) fun b75 g => ?_
 refine U.pq 2 10 true 112 b75 T ?_
 refine U.k (T_batch_Merge l setup _ g) en16 (fun x76 g => ?_) (hw := .take 10 true 112 _ b75 rfl rfl rfl)
 refine U.pq 2 10 true 112 b75 T ?_
 refine U.k (T_taquinref43_Merge l setup _ g) en27 (fun x77 g => ?_) (hw := .take 10 true 112 _ b75 rfl rfl rfl)
 refine U.k (T_taquinref43_Same x76 x77 _ g) en26 (fun x78 g => ?_) (hw := .take 10 true 112 _ b75 rfl rfl rfl)
 refine U.pk b75 ?_
 refine U.pd 1 T ?_
 exact St.wn (j70 _ g)
 refine U.sk' 7 10 true 112 b75 ?_
 refine U.pk' b75 ?_
 refine U.pd 1 T ?_
 exact St.wn (j70 _ g)
 refine U.sk' 7 1 true 103 b71 ?_
 refine U.pk' b71 ?_
 refine U.ps 1 T rfl (U.sk' 7 10 true 112 rfl ?_)
 refine U.pk' rfl ?_
 refine U.pd 1 T ?_
 exact St.wn (j70 _ g)
 refine U.start (U.ps 1 T rfl (U.k (T_batch_Due l _ g) en10 (fun x56 g => ?_)))
 refine U.ps 1 T rfl (U.k (T_taquinref43_Due l _ g) en21 (fun x57 g => ?_))
 refine U.k (T_taquinref07_Same x56 x57 _ g) en17 fun x58 g => ?_
 refine U.ps 2 T rfl ?_
 refine g.cs (fun b59 g => ?_) fun b59 g => ?_
 refine U.pq 3 6 false 79 (ntF b59) T ?_
 refine U.k (T_batch_Ends l order start _ g) en22 (fun x60 g => ?_) (hw := .take 6 false 79 _ (ntF b59) rfl rfl rfl)
 refine U.pq 3 6 false 79 (ntF b59) T ?_
 refine U.k (T_taquinref43_Ends l order start _ g) en23 (fun x61 g => ?_) (hw := .take 6 false 79 _ (ntF b59) rfl rfl rfl)
 refine U.k (T_taquinref07_Same x60 x61 _ g) en17 (fun x62 g => ?_) (hw := .take 6 false 79 _ (ntF b59) rfl rfl rfl)
 refine U.pq 1 6 false 79 (ntF b59) T ?_
 refine U.pk' (ntF b59) ?_
 refine U.ps 1 T rfl ?_
 refine g.cs (fun b63 g => ?_) fun b63 g => ?_
 refine U.pq 3 18 false 91 (ntF b63) T ?_
 refine U.k (T_batch_Worst l order start _ g) en12 (fun x64 g => ?_) (hw := .take 18 false 91 _ (ntF b63) rfl rfl rfl)
 refine U.pq 3 18 false 91 (ntF b63) T ?_
 refine U.k (T_taquinref43_Worst l order start _ g) en24 (fun x65 g => ?_) (hw := .take 18 false 91 _ (ntF b63) rfl rfl rfl)
 refine U.pq 1 18 false 91 (ntF b63) T ?_
 refine U.pk' (ntF b63) ?_
 refine U.done ?_
 exact St.wn (j55 _ g)
 refine U.sk' 9 18 false 91 (ntT b63) ?_
 refine U.pk (ntT b63) ?_
 refine U.done ?_
 exact St.wn (j55 _ g)
 refine U.sk' 10 6 false 79 (ntT b59) ?_
 refine U.pk (ntT b59) ?_
 refine U.ps 1 T rfl (U.sk' 9 18 false 91 rfl ?_)
 refine U.pk rfl ?_
 refine U.done ?_
 exact St.wn (j55 _ g)
 refine C.block (St.wk (C.loop (fun (s39 : List (List Int) × List (List Int) × Int) => [(0, .sl 3 eApiJob l), (1, .sl 1 eI order), (2, .i start), (3, .i setup), (9, .b x5), (10, .o 0), (11, .o 1), (12, .i s39.2.2)]) (fun s39 => [(0, .val (.os 1 eOeI s39.1)), (1, .val (.os 1 eOeI s39.2.1))]) g (fun s39 Y40 g => ?_)) (Wk.a (idR 2)))
 refine C.seq (C.ss (U.pd 4 T (C.nx ?_)))
 refine C.ite rfl g (fun b43 g => ?_) fun b43 g => ?_
 refine C.skip (C.xs (C.block (C.seq ?_)))
 obtain ⟨x46, y46, g⟩ := g
 refine St.lend (l := 0) (i := (Int.toNat s39.2.2)) rfl (idx_some y46).2.2 rfl (fun _ => rfl) ?_
 obtain ⟨x47, y47, g⟩ := g
 refine St.lend (l := 1) (i := (Int.toNat s39.2.2)) rfl (idx_some y47).2.2 rfl (fun _ => rfl) ?_
 refine D.bg mix 9999 [0, 1] [] (fun hQ hS ws M' => ?_)
 refine D.pq 2 (zl [0, 1]) T ?_
 refine D.q 2 [] hQ hS rfl (.none rfl) rfl rfl (by exact Rd.il T rfl rfl rfl rfl rfl rfl rfl y46) rfl (by kernel_rfl) ?_
 refine D.q 3 [] hQ hS rfl (.none rfl) rfl rfl (by exact Rd.ll T rfl rfl rfl (.head _) rfl rfl rfl rfl) rfl (by kernel_rfl) ?_
 refine D.pq 2 (zl [4, 5]) T ?_
 refine D.q 6 [] hQ hS rfl (.none rfl) rfl rfl (by exact Rd.il T rfl rfl rfl rfl rfl rfl rfl y47) rfl (by kernel_rfl) ?_
 refine D.q 7 [] hQ hS rfl (.none rfl) rfl rfl (by exact Rd.ll T rfl rfl rfl (.head _) rfl rfl rfl rfl) rfl (by kernel_rfl) ?_
 refine D.k 8 (T_taquinref07_Same x46 x47 _ g) en17 fun x48 g => ?_
 refine D.pq 1 [(9, [])] T ?_
 refine D.done (by kernel_rfl) ?_
 refine St.putb (l := 0) (l' := 2) (y := x46) rfl rfl rfl (fun _ h => nomatch h) rfl _ rfl ?_
 refine St.putb (l := 1) (l' := 3) (y := x47) rfl rfl rfl (fun _ h => nomatch h) rfl _ rfl ?_
 refine C.nx ?_
 refine C.ite rfl g (fun b49 g => ?_) fun b49 g => ?_
 refine C.ss (U.pd 1 T (C.nx (C.ret (C.brt (C.rt (C.rt (C.brt (C.rt ?_))))))))
 exact C.f1 T o (pBi g)
 refine C.skip (C.bnx (C.nx (U.start (U.pd 3 T (C.nx ?_)))))
 exact St.wk (C.next g) (Wk.a (idR 2))
 refine C.exit (C.ex (C.ex (C.bex ?_)))
 exact St.wn (j38 _ g)
 refine U.start (U.ps 2 T rfl (U.k (T_taquinlaw43_fair l start _ g) en9 (fun x17 g => ?_)))
 refine U.ps 2 T rfl ?_
 refine g.cs (fun b18 g => ?_) fun b18 g => ?_
 refine U.pq 3 4 false 34 (ntF b18) T ?_
 refine U.pk' (ntF b18) ?_
 refine U.ps 1 T rfl ?_
 refine g.cs (fun b19 g => ?_) fun b19 g => ?_
 refine U.sk' 2 9 false 39 b19 ?_
 refine U.pk b19 ?_
 refine U.ps 1 T rfl (U.sk' 2 13 false 43 rfl ?_)
 refine U.pk rfl ?_
 refine U.done ?_
 exact St.wn (j16 _ g)
 refine U.pq 2 9 false 39 b19 T ?_
 refine U.pk' b19 ?_
 refine U.ps 1 T rfl ?_
 refine g.cs (fun b20 g => ?_) fun b20 g => ?_
 refine U.sk' 2 13 false 43 b20 ?_
 refine U.pk b20 ?_
 refine U.done ?_
 exact St.wn (j16 _ g)
 refine U.pq 2 13 false 43 b20 T ?_
 refine U.pk' b20 ?_
 refine U.done ?_
 exact St.wn (j16 _ g)
 refine U.sk' 3 4 false 34 (ntT b18) ?_
 refine U.pk (ntT b18) ?_
 refine U.ps 1 T rfl (U.sk' 2 9 false 39 rfl ?_)
 refine U.pk rfl ?_
 refine U.ps 1 T rfl (U.sk' 2 13 false 43 rfl ?_)
 refine U.pk rfl ?_
 refine U.done ?_
 exact St.wn (j16 _ g)
 refine U.start (U.ps 4 T rfl ?_)
 refine g.cs (fun b8 g => ?_) fun b8 g => ?_
 refine U.sk' 5 3 false 17 b8 ?_
 refine U.pk b8 ?_
 refine U.done ?_
 exact St.wn (j7 _ g)
 refine U.pq 1 3 false 17 b8 T ?_
 refine U.k (T_batch_Right l _ g) en19 (fun x9 g => ?_) (hw := .take 3 false 17 _ b8 rfl rfl rfl)
 refine U.pq 1 3 false 17 b8 T ?_
 refine U.k (T_taquinref43_Right l _ g) en18 (fun x10 g => ?_) (hw := .take 3 false 17 _ b8 rfl rfl rfl)
 refine U.pq 1 3 false 17 b8 T ?_
 refine U.pk' b8 ?_
 refine U.done ?_
 exact St.wn (j7 _ g)
end Go.Proofs.Ytghoacejnmgldaa
