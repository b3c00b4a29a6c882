/- The walks: each Go function does what its verification condition says (written by a program of the prover). -/
import Derived.Test.YthbeknnkokooiaaW0
import Derived.KernelRfl
set_option maxRecDepth 100000
set_option maxHeartbeats 8000000
set_option linter.unusedVariables false
set_option linter.unusedSimpArgs false
namespace Go.Proofs.Ythbeknnkokooiaa
open Go Go.Taq
theorem T_taquinlaw28_small (post : Bool → Prop) (g : V_taquinlaw28_small post) :
    Tr Try.prog 4 [] [] 0 (pB post) := by
 refine Tr.go Try.func4 Try.ntmps4 fun _ _ _ _ o => ?_
 unfold V_taquinlaw28_small at g
 refine C.ss (U.pd 1 T (C.xt ?_))
 refine U.k (T_taquinlaw28_row _ g) en6 fun x5 g => ?_
 refine U.al T ?_
 refine U.st T ?_
 refine U.done (C.xt (U.bs T eB ([true, true, false, false] : List Bool) ?_))
 refine U.ps 1 T rfl (U.al T ?_)
 refine U.st T ?_
 refine U.done (C.xt (U.ps 1 T rfl (U.bs T eI ([0, 1, 2, 3] : List Int) ?_)))
 refine U.ps 1 T rfl ?_
 refine U.e rfl (.none rfl) (by exact Eff.c [some 5] (v := true) (T_relocate_Solve__o0 x5 ({ Full := ([true, true, false, false] : List Bool), Target := 0 : ApiLayout }) 3 1 ([0, 1, 2, 3] : List Int) _ g) en7 rfl rfl rfl (.cons (.agg (.cons (.eq rfl) (.cons (.eq rfl) (.cons (.eq rfl) (.cons (.fz rfl rfl rfl (.os fun _ => .cons (.ro rfl) .nil)) (.cons (.fz rfl rfl rfl (.os fun _ => .cons (.ro rfl) .nil)) .nil)))))) (.cons (.eq rfl) (.cons (.agg (.cons (.fz rfl rfl rfl (.os fun _ => .cons (.ro rfl) .nil)) (.eq rfl))) (.eq rfl)))) ⟨vL, trivial⟩ rfl rfl rfl rfl rfl rfl (fun _ _ => ⟨(.tup (.cons (.o _) (.cons (.v _) .nil))), ⟨.val (.os _ _ _ fun _ => (.cons (.v _) (.cons (.v _) .nil))), trivial⟩⟩) (.inl rfl) (fun _ => rfl) (fun _ => rfl) rfl) (fun x10' g => ?_)
 obtain ⟨x10⟩ := x10'
 refine U.pd 5 T (C.xt ?_)
 refine U.ps 1 T rfl (U.bs T eI ([0, 1, 2, 3] : List Int) ?_)
 refine U.ps 1 T rfl ?_
 refine U.e rfl (.none rfl) (by exact Eff.c [some 8] (v := true) (T_relocate_Solve__o0 x5 ({ Full := ([true, true, false, false] : List Bool), Target := 0 : ApiLayout }) 2 1 ([0, 1, 2, 3] : List Int) _ g) en7 rfl rfl rfl (.cons (.agg (.cons (.eq rfl) (.cons (.eq rfl) (.cons (.eq rfl) (.cons (.fz rfl rfl rfl (.os fun _ => .cons (.ro rfl) .nil)) (.cons (.fz rfl rfl rfl (.os fun _ => .cons (.ro rfl) .nil)) .nil)))))) (.cons (.eq rfl) (.cons (.agg (.cons (.fz rfl rfl rfl (.os fun _ => .cons (.ro rfl) .nil)) (.eq rfl))) (.eq rfl)))) ⟨vL, trivial⟩ rfl rfl rfl rfl rfl rfl (fun _ _ => ⟨(.tup (.cons (.o _) (.cons (.v _) .nil))), ⟨.val (.os _ _ _ fun _ => (.cons (.v _) (.cons (.v _) .nil))), trivial⟩⟩) (.inl rfl) (fun _ => rfl) (fun _ => rfl) rfl) (fun x13' g => ?_)
 obtain ⟨x13⟩ := x13'
 refine U.pd 5 T (C.xt ?_)
 refine U.ps 1 T rfl (U.bs T eI ([0, 1, 2, 3] : List Int) ?_)
 refine U.ps 5 T rfl (U.bs T eApiShift ([({ From := 1, To := 2 : ApiShift }), ({ From := 2, To := 3 : ApiShift }), ({ From := 0, To := 1 : ApiShift }), ({ From := 1, To := 2 : ApiShift })] : List ApiShift) ?_)
 refine U.k (T_relocate_Check x5 ([0, 1, 2, 3] : List Int) ({ Full := ([true, true, false, false] : List Bool), Target := 0 : ApiLayout }) 2 ([({ From := 1, To := 2 : ApiShift }), ({ From := 2, To := 3 : ApiShift }), ({ From := 0, To := 1 : ApiShift }), ({ From := 1, To := 2 : ApiShift })] : List ApiShift) _ g) en8 fun x16 g => ?_
 refine U.pd 5 T (C.xt ?_)
 refine U.ps 4 T rfl (U.bs T eApiShift ([({ From := 1, To := 2 : ApiShift }), ({ From := 2, To := 3 : ApiShift }), ({ From := 0, To := 1 : ApiShift }), ({ From := 1, To := 2 : ApiShift })] : List ApiShift) ?_)
 refine U.k (T_relocate_Trips ([({ From := 1, To := 2 : ApiShift }), ({ From := 2, To := 3 : ApiShift }), ({ From := 0, To := 1 : ApiShift }), ({ From := 1, To := 2 : ApiShift })] : List ApiShift) _ g) en5 fun x19 g => ?_
 refine U.pd 1 T (C.xs ?_)
 refine C.jn (fun (x20 : Bool) => [(0, .b x20)]) (fun x20 => []) 0 g (fun x20 g => ?_) fun J21 g j21 => ?_
 refine C.nx (C.ret ?_)
 exact C.f1 T o (pBi g)
 refine U.start (U.ps 3 T rfl ?_)
 refine g.cs (fun b22 g => ?_) fun b22 g => ?_
 refine U.pq 2 2 true 47 b22 T ?_
 refine U.pk b22 ?_
 refine U.ps 1 T rfl ?_
 refine g.cs (fun b23 g => ?_) fun b23 g => ?_
 refine U.pq 3 6 true 51 b23 T ?_
 refine U.pk b23 ?_
 refine U.ps 1 T rfl ?_
 refine g.cs (fun b24 g => ?_) fun b24 g => ?_
 refine U.pq 2 11 true 56 b24 T ?_
 refine U.pk b24 ?_
 refine U.ps 1 T rfl ?_
 refine g.cs (fun b25 g => ?_) fun b25 g => ?_
 refine U.pq 2 15 true 60 b25 T ?_
 refine U.pk b25 ?_
 refine U.ps 1 T rfl ?_
 refine g.cs (fun b26 g => ?_) fun b26 g => ?_
 refine U.pq 1 19 true 64 b26 T ?_
 refine U.e1 rfl (.tk 19 true 64 b26) (by exact Eff1.bs T (enc := eI) (xs := ([1, 2, 3] : List Int)) rfl rfl rfl rfl rfl rfl rfl rfl rfl rfl (fun _ _ => rfl) rfl rfl) ?_
 refine U.e1 rfl (.tk 19 true 64 b26) (by exact Eff1.bs T (enc := eI) (xs := ([0, 1, 2] : List Int)) rfl rfl rfl rfl rfl rfl rfl rfl rfl rfl (fun _ _ => rfl) rfl rfl) ?_
 refine St.wk (Γ' := [(0, .b false), (1, .p 0 0), (2, .p 3 0), (3, .o 5), (4, .i x10.2), (5, .o 6), (6, .i x13.2), (7, .i x16.1), (8, .i x16.2), (9, .o 7), (10, .agg [.i x5.W, .i x5.H, .i x5.D, .o 1, .o 2]), (11, .o 4), (12, .agg [.o 4, .i 0]), (13, .tup [.o 5, .i x10.2]), (14, .agg [.i x5.W, .i x5.H, .i x5.D, .o 1, .o 2]), (16, .agg [.o 4, .i 0]), (17, .tup [.o 5, .i x10.2]), (18, .o 5), (19, .i x10.2), (20, .tup [.o 6, .i x13.2]), (21, .agg [.i x5.W, .i x5.H, .i x5.D, .o 1, .o 2]), (23, .agg [.o 4, .i 0]), (24, .tup [.o 6, .i x13.2]), (25, .o 6), (26, .i x13.2), (27, .tup [.i x16.1, .i x16.2]), (28, .agg [.i x5.W, .i x5.H, .i x5.D, .o 1, .o 2]), (29, .o 10), (30, .agg [.o 4, .i 0]), (31, .agg [.i 1, .i 2]), (32, .agg [.i 2, .i 3]), (33, .agg [.i 0, .i 1]), (34, .agg [.i 1, .i 2]), (35, .o 11), (36, .tup [.i x16.1, .i x16.2]), (37, .i x16.1), (38, .i x16.2), (39, .agg [.i 1, .i 2]), (40, .agg [.i 2, .i 3]), (41, .agg [.i 0, .i 1]), (42, .agg [.i 1, .i 2]), (43, .o 12), (44, .o 7), (45, .i x10.2), (46, .b (x10.2 == 14)), (47, .b (x10.2 == 14)), (48, .i x13.2), (49, .b (x13.2 == 0)), (50, .b (x13.2 == 0)), (51, .b (x13.2 == 0)), (52, .o 6), (53, .i (x13.1.length : Int)), (54, .b ((x13.1.length : Int) == 4)), (55, .b ((x13.1.length : Int) == 4)), (56, .b ((x13.1.length : Int) == 4)), (57, .i x16.1), (58, .b (x16.1 == (-1))), (59, .b (x16.1 == (-1))), (60, .b (x16.1 == (-1))), (61, .i x16.2), (62, .b (x16.2 == 0)), (63, .b (x16.2 == 0)), (64, .b (x16.2 == 0)), (65, .o 7), (66, .sl 1 eI ([1, 2, 3] : List Int)), (67, .sl 1 eI ([0, 1, 2] : List Int))]) (H' := [(0, .box [.i x5.W, .i x5.H, .i x5.D, .o 1, .o 2]), (1, .val (.os 1 eI x5.Kind)), (2, .val (.os 1 eI x5.Out)), (3, .box [.o 4, .i 0]), (4, .val (.os 1 eB ([true, true, false, false] : List Bool))), (5, .val (.os 2 eApiShift x10.1)), (6, .val (.os 2 eApiShift x13.1)), (7, .val (.os 1 eOeI x19)), (10, .val (.os 1 eI ([0, 1, 2, 3] : List Int))), (11, .val (.os 2 eApiShift ([({ From := 1, To := 2 : ApiShift }), ({ From := 2, To := 3 : ApiShift }), ({ From := 0, To := 1 : ApiShift }), ({ From := 1, To := 2 : ApiShift })] : List ApiShift))), (12, .val (.os 2 eApiShift ([({ From := 1, To := 2 : ApiShift }), ({ From := 2, To := 3 : ApiShift }), ({ From := 0, To := 1 : ApiShift }), ({ From := 1, To := 2 : ApiShift })] : List ApiShift)))]) (nl' := 13) ?_ (Wk.mk' [some 2, some 0, some 1, some 4, some 3, some 7, some 10, some 14, some 5, some 8, some 11, some 12, some 13] rfl rfl ⟨⟨_, rfl, (.eq rfl)⟩, ⟨_, rfl, (.eq rfl)⟩, ⟨_, rfl, (.eq rfl)⟩, ⟨_, rfl, (.eq rfl)⟩, ⟨_, rfl, (.eq rfl)⟩, ⟨_, rfl, (.eq rfl)⟩, ⟨_, rfl, (.eq rfl)⟩, ⟨_, rfl, (.eq rfl)⟩, ⟨_, rfl, (.eq rfl)⟩, ⟨_, rfl, (.eq rfl)⟩, ⟨_, rfl, (.eq rfl)⟩, ⟨_, rfl, (.eq rfl)⟩, ⟨_, rfl, (.eq rfl)⟩, ⟨_, rfl, (.eq rfl)⟩, ⟨_, rfl, (.eq rfl)⟩, ⟨_, rfl, (.eq rfl)⟩, ⟨_, rfl, (.eq rfl)⟩, ⟨_, rfl, (.eq rfl)⟩, ⟨_, rfl, (.eq rfl)⟩, ⟨_, rfl, (.eq rfl)⟩, ⟨_, rfl, (.eq rfl)⟩, ⟨_, rfl, (.eq rfl)⟩, ⟨_, rfl, (.eq rfl)⟩, ⟨_, rfl, (.eq rfl)⟩, ⟨_, rfl, (.eq rfl)⟩, ⟨_, rfl, (.eq rfl)⟩, ⟨_, rfl, (.eq rfl)⟩, ⟨_, rfl, (.eq rfl)⟩, ⟨_, rfl, (.eq rfl)⟩, ⟨_, rfl, (.eq rfl)⟩, ⟨_, rfl, (.eq rfl)⟩, ⟨_, rfl, (.eq rfl)⟩, ⟨_, rfl, (.eq rfl)⟩, ⟨_, rfl, (.eq rfl)⟩, ⟨_, rfl, (.eq rfl)⟩, ⟨_, rfl, (.eq rfl)⟩, ⟨_, rfl, (.eq rfl)⟩, ⟨_, rfl, (.eq rfl)⟩, ⟨_, rfl, (.eq rfl)⟩, ⟨_, rfl, (.eq rfl)⟩, ⟨_, rfl, (.eq rfl)⟩, ⟨_, rfl, (.eq rfl)⟩, ⟨_, rfl, (.eq rfl)⟩, ⟨_, rfl, (.eq rfl)⟩, ⟨_, rfl, (.eq rfl)⟩, ⟨_, rfl, (.eq rfl)⟩, ⟨_, rfl, (.eq rfl)⟩, ⟨_, rfl, (.eq rfl)⟩, ⟨_, rfl, (.eq rfl)⟩, ⟨_, rfl, (.eq rfl)⟩, ⟨_, rfl, (.eq rfl)⟩, ⟨_, rfl, (.eq rfl)⟩, ⟨_, rfl, (.eq rfl)⟩, ⟨_, rfl, (.eq rfl)⟩, ⟨_, rfl, (.eq rfl)⟩, ⟨_, rfl, (.eq rfl)⟩, ⟨_, rfl, (.eq rfl)⟩, ⟨_, rfl, (.eq rfl)⟩, ⟨_, rfl, (.eq rfl)⟩, ⟨_, rfl, (.eq rfl)⟩, ⟨_, rfl, (.eq rfl)⟩, ⟨_, rfl, (.eq rfl)⟩, ⟨_, rfl, (.eq rfl)⟩, ⟨_, rfl, (.eq rfl)⟩, ⟨_, rfl, (.fz rfl rfl rfl (.os fun _ => .cons (.ro rfl) .nil))⟩, ⟨_, rfl, (.fz rfl rfl rfl (.os fun _ => .cons (.ro rfl) .nil))⟩, trivial⟩ ⟨bX, vL, vL, bX, vL, vL, vL, vL, vL, vL, vL, trivial⟩ rfl)
 refine U.e1 rfl (.tk 19 true 64 b26) (by exact Eff1.bs T (enc := eLeI) (xs := ([([1, 2, 3] : List Int), ([0, 1, 2] : List Int)] : List (List Int))) rfl rfl rfl rfl rfl rfl rfl rfl rfl rfl (fun _ _ => rfl) rfl rfl) ?_
 refine U.k (T_taquinref28_SameTrips x19 ([([1, 2, 3] : List Int), ([0, 1, 2] : List Int)] : List (List Int)) _ g) en9 (fun x27 g => ?_) (hw := .take 19 true 64 _ b26 rfl rfl rfl)
 refine U.pk b26 ?_
 refine U.pd 1 T ?_
 exact St.wn (j21 _ g)
 refine U.sk' 5 19 true 64 b26 ?_
 refine U.pk' b26 ?_
 refine U.pd 1 T ?_
 exact St.wn (j21 _ g)
 refine U.sk' 2 15 true 60 b25 ?_
 refine U.pk' b25 ?_
 refine U.ps 1 T rfl (U.sk' 5 19 true 64 rfl ?_)
 refine U.pk' rfl ?_
 refine U.pd 1 T ?_
 exact St.wn (j21 _ g)
 refine U.sk' 2 11 true 56 b24 ?_
 refine U.pk' b24 ?_
 refine U.ps 1 T rfl (U.sk' 2 15 true 60 rfl ?_)
 refine U.pk' rfl ?_
 refine U.ps 1 T rfl (U.sk' 5 19 true 64 rfl ?_)
 refine U.pk' rfl ?_
 refine U.pd 1 T ?_
 exact St.wn (j21 _ g)
 refine U.sk' 3 6 true 51 b23 ?_
 refine U.pk' b23 ?_
 refine U.ps 1 T rfl (U.sk' 2 11 true 56 rfl ?_)
 refine U.pk' rfl ?_
 refine U.ps 1 T rfl (U.sk' 2 15 true 60 rfl ?_)
 refine U.pk' rfl ?_
 refine U.ps 1 T rfl (U.sk' 5 19 true 64 rfl ?_)
 refine U.pk' rfl ?_
 refine U.pd 1 T ?_
 exact St.wn (j21 _ g)
 refine U.sk' 2 2 true 47 b22 ?_
 refine U.pk' b22 ?_
 refine U.ps 1 T rfl (U.sk' 3 6 true 51 rfl ?_)
 refine U.pk' rfl ?_
 refine U.ps 1 T rfl (U.sk' 2 11 true 56 rfl ?_)
 refine U.pk' rfl ?_
 refine U.ps 1 T rfl (U.sk' 2 15 true 60 rfl ?_)
 refine U.pk' rfl ?_
 refine U.ps 1 T rfl (U.sk' 5 19 true 64 rfl ?_)
 refine U.pk' rfl ?_
 refine U.pd 1 T ?_
 exact St.wn (j21 _ g)
theorem T_taquinlaw28_RelocateTrips (shifts : List ApiShift) (post : Bool → Prop) (g : V_taquinlaw28_RelocateTrips shifts post) :
    Tr Try.prog 3 [.sl 2 eApiShift shifts] [] 0 (pB post) := by
 refine Tr.go Try.func3 Try.ntmps3 fun _ _ _ _ o => ?_
 unfold V_taquinlaw28_RelocateTrips at g
 refine C.ss (U.pd 1 T (C.xt ?_))
 refine U.k (T_taquinlaw28_small _ g) en4 fun x5 g => ?_
 refine U.pd 1 T (C.xs (C.ss ?_))
 refine U.pd 3 T (C.nx ?_)
 refine C.ite rfl g (fun b8 g => ?_) fun b8 g => ?_
 refine C.ss (U.pd 2 T (C.nx (C.ret (C.rt ?_))))
 exact C.f1 T o (pBi g)
 refine C.skip (C.xt (U.ps 1 T rfl (U.k (T_relocate_Trips shifts _ g) en5 (fun x13 g => ?_))))
 refine St.wk (Γ' := [(0, .sl 2 eApiShift shifts), (2, .b false), (3, .b x5), (8, .b x5), (9, .sl 2 eApiShift shifts), (10, .i (shifts.length : Int)), (11, .b (decide ((shifts.length : Int) > 60))), (13, .sl 2 eApiShift shifts), (14, .sl 1 eLeI x13)]) (H' := []) (nl' := 0) ?_ (Wk.mk' [] rfl rfl ⟨⟨_, rfl, (.eq rfl)⟩, ⟨_, rfl, (.eq rfl)⟩, ⟨_, rfl, (.eq rfl)⟩, ⟨_, rfl, (.eq rfl)⟩, ⟨_, rfl, (.eq rfl)⟩, ⟨_, rfl, (.eq rfl)⟩, ⟨_, rfl, (.eq rfl)⟩, ⟨_, rfl, (.eq rfl)⟩, ⟨_, rfl, (.fz rfl rfl rfl (.os fun _ => .cons (.os fun _ => .cons (.ro rfl) .nil) .nil))⟩, trivial⟩ trivial rfl)
 refine U.pd 1 T (C.xt ?_)
 refine U.pd 1 T (C.xs (C.ss ?_))
 refine U.pd 1 T (C.nx ?_)
 refine C.jn (fun (x18 : Int) => [(0, .sl 2 eApiShift shifts), (3, .b x5), (5, .i x18)]) (fun x18 => []) 0 g (fun x18 g => ?_) fun J19 g j19 => ?_
 refine C.xs ?_
 refine C.jn (fun (x72 : Bool) => [(2, .b x72)]) (fun x72 => []) 0 g (fun x72 g => ?_) fun J73 g j73 => ?_
 refine C.nx (C.ret ?_)
 exact C.f1 T o (pBi g)
 refine U.start (U.ps 2 T rfl ?_)
 refine g.cs (fun b74 g => ?_) fun b74 g => ?_
 refine U.pq 4 1 true 99 b74 T ?_
 refine U.pk b74 ?_
 refine U.pd 1 T ?_
 exact St.wn (j73 _ g)
 refine U.sk' 4 1 true 99 b74 ?_
 refine U.pk' b74 ?_
 refine U.pd 1 T ?_
 exact St.wn (j73 _ g)
 refine C.block (St.wk (C.loop (fun (s20 : Int × Int) => [(0, .sl 2 eApiShift shifts), (3, .b x5), (4, .sl 1 eLeI x13), (5, .i s20.1), (6, .i s20.2)]) (fun s20 => []) g (fun s20 Y21 g => ?_)) (Wk.e))
 refine C.seq (C.ss (U.pd 4 T (C.nx ?_)))
 refine C.ite rfl g (fun b24 g => ?_) fun b24 g => ?_
 refine C.skip (C.xs ?_)
 refine C.jn (fun (x25 : Int) => [(0, .sl 2 eApiShift shifts), (3, .b x5), (4, .sl 1 eLeI x13), (5, .i x25), (6, .i s20.2)]) (fun x25 => []) 0 g (fun x25 g => ?_) fun J26 g j26 => ?_
 refine C.nx (U.start (U.pd 3 T (C.nx ?_)))
 exact St.wk (C.next g) (Wk.e)
 refine C.block (C.seq (C.ss (U.ps 2 T rfl ?_)))
 obtain ⟨x29, y29, g⟩ := g
 refine U.ix T y29 ?_
 refine U.pd 3 T (C.nx ?_)
 refine C.ite rfl g (fun b30 g => ?_) fun b30 g => ?_
 refine C.ss (U.pd 1 T (C.nx (C.ret (C.rt (C.brt (C.rt (C.rt (C.brt (C.rt ?_)))))))))
 exact C.f1 T o (pBi g)
 refine C.skip (C.xs (C.ss (U.pd 1 T (C.nx ?_))))
 refine C.jn (fun (x35 : Int) => [(0, .sl 2 eApiShift shifts), (3, .b x5), (4, .sl 1 eLeI x13), (5, .i x35), (6, .i s20.2)]) (fun x35 => []) 0 g (fun x35 g => ?_) fun J36 g j36 => ?_
 refine C.xs ?_
 refine C.jn (fun (x61 : Bool) => [(0, .sl 2 eApiShift shifts), (3, .b x5), (4, .sl 1 eLeI x13), (5, .i x35), (6, .i s20.2), (97, .b x61)]) (fun x61 => []) 0 g (fun x61 g => ?_) fun J62 g j62 => ?_
 refine C.nx ?_
 refine C.ite rfl g (fun b67 g => ?_) fun b67 g => ?_
 refine C.ss (U.pd 1 T (C.nx (C.ret (C.brt (C.rt (C.rt (C.brt (C.rt ?_))))))))
 exact C.f1 T o (pBi g)
 refine C.skip (C.bnx ?_)
 exact St.wn (j26 _ g)
 refine D.bq mix 9999 [] [] (fun hQ hS ws M' => ?_)
 refine D.pq 3 (zl [0, 1, 2]) T ?_
 refine g.cs (fun b63 g => ?_) fun b63 g => ?_
 refine D.pt 3 [] 2 true 73 b63 T ?_
 refine D.pt 4 [] 2 true 73 b63 T ?_
 refine D.q 5 [] hQ hS rfl (.tk 2 true 73 b63) rfl rfl (by exact Rd.ix T rfl rfl rfl rfl rfl rfl y29) rfl (by kernel_rfl) ?_
 refine D.q 6 [] hQ hS rfl (.tk 2 true 73 b63) rfl rfl (by exact Rd.l T rfl rfl rfl) rfl (by kernel_rfl) ?_
 obtain ⟨x64, y64, g⟩ := g
 refine D.q 7 [] hQ hS rfl (.tk 2 true 73 b63) rfl rfl (by exact Rd.ix T rfl rfl rfl rfl rfl rfl y64) rfl (by kernel_rfl) ?_
 refine D.q 8 [] hQ hS rfl (.tk 2 true 73 b63) rfl rfl (by exact Rd.l T rfl rfl rfl) rfl (by kernel_rfl) ?_
 refine D.pt 9 [] 2 true 73 b63 T ?_
 refine D.pt 10 [] 2 true 73 b63 T ?_
 refine D.pt 11 [] 2 true 73 b63 T ?_
 refine D.pt 12 [] 2 true 73 b63 T ?_
 obtain ⟨x65, y65, g⟩ := g
 refine D.q 13 [] hQ hS rfl (.tk 2 true 73 b63) rfl rfl (by exact Rd.ix T rfl rfl rfl rfl rfl rfl y65) rfl (by kernel_rfl) ?_
 refine D.q 14 [] hQ hS rfl (.tk 2 true 73 b63) rfl rfl (by exact Rd.l T rfl rfl rfl) rfl (by kernel_rfl) ?_
 refine D.pt 15 [] 2 true 73 b63 T ?_
 refine D.pt 16 [] 2 true 73 b63 T ?_
 refine D.pt 17 [] 2 true 73 b63 T ?_
 refine D.pt 18 [] 2 true 73 b63 T ?_
 refine D.q 19 [] hQ hS rfl (.tk 2 true 73 b63) rfl rfl (by exact Rd.ix T rfl rfl rfl rfl rfl rfl y65) rfl (by kernel_rfl) ?_
 refine D.q 20 [] hQ hS rfl (.tk 2 true 73 b63) rfl rfl (by exact Rd.l T rfl rfl rfl) rfl (by kernel_rfl) ?_
 refine D.pt 21 [] 2 true 73 b63 T ?_
 refine D.pt 22 [] 2 true 73 b63 T ?_
 obtain ⟨x66, y66, g⟩ := g
 refine D.q 23 [] hQ hS rfl (.tk 2 true 73 b63) rfl rfl (by exact Rd.ix T rfl rfl rfl rfl rfl rfl y66) rfl (by kernel_rfl) ?_
 refine D.q 24 [] hQ hS rfl (.tk 2 true 73 b63) rfl rfl (by exact Rd.l T rfl rfl rfl) rfl (by kernel_rfl) ?_
 refine D.pt 25 [] 2 true 73 b63 T ?_
 refine D.kt 26 [] b63 ?_
 refine D.done (by kernel_rfl) ?_
 exact St.wn (j62 _ g)
 refine D.sz 3 [] 2 true 73 b63 ?_
 refine D.sz 4 [] 2 true 73 b63 ?_
 refine D.sz 5 [] 2 true 73 b63 ?_
 refine D.sz 6 [] 2 true 73 b63 ?_
 refine D.sz 7 [] 2 true 73 b63 ?_
 refine D.sz 8 [] 2 true 73 b63 ?_
 refine D.sz 9 [] 2 true 73 b63 ?_
 refine D.sz 10 [] 2 true 73 b63 ?_
 refine D.sz 11 [] 2 true 73 b63 ?_
 refine D.sz 12 [] 2 true 73 b63 ?_
 refine D.sz 13 [] 2 true 73 b63 ?_
 refine D.sz 14 [] 2 true 73 b63 ?_
 refine D.sz 15 [] 2 true 73 b63 ?_
 refine D.sz 16 [] 2 true 73 b63 ?_
 refine D.sz 17 [] 2 true 73 b63 ?_
 refine D.sz 18 [] 2 true 73 b63 ?_
 refine D.sz 19 [] 2 true 73 b63 ?_
 refine D.sz 20 [] 2 true 73 b63 ?_
 refine D.sz 21 [] 2 true 73 b63 ?_
 refine D.sz 22 [] 2 true 73 b63 ?_
 refine D.sz 23 [] 2 true 73 b63 ?_
 refine D.sz 24 [] 2 true 73 b63 ?_
 refine D.sz 25 [] 2 true 73 b63 ?_
 refine D.kf 26 [] b63 ?_
 refine D.done (by kernel_rfl) ?_
 exact St.wn (j62 _ g)
 refine C.block (St.wk (C.loop (fun (s37 : Int × Int) => [(0, .sl 2 eApiShift shifts), (3, .b x5), (4, .sl 1 eLeI x13), (5, .i s37.1), (6, .i s20.2), (7, .i s37.2)]) (fun s37 => []) g (fun s37 Y38 g => ?_)) (Wk.e))
 refine C.seq (C.ss (U.ps 3 T rfl ?_))
 obtain ⟨x41, y41, g⟩ := g
 refine U.ix T y41 ?_
 refine U.pd 3 T (C.nx ?_)
 refine C.ite rfl g (fun b42 g => ?_) fun b42 g => ?_
 refine C.skip (C.xs (C.block (C.seq (C.ss (U.pd 4 T (C.nx ?_))))))
 refine C.ite rfl g (fun b45 g => ?_) fun b45 g => ?_
 refine C.ss (U.pd 1 T (C.nx (C.ret (C.rt (C.brt (C.rt (C.rt (C.brt (C.rt (C.brt (C.rt (C.rt (C.brt (C.rt ?_))))))))))))))
 exact C.f1 T o (pBi g)
 refine C.skip (C.xs (C.seq ?_))
 refine C.jn (fun (x48 : Bool) => [(0, .sl 2 eApiShift shifts), (3, .b x5), (4, .sl 1 eLeI x13), (5, .i s37.1), (6, .i s20.2), (7, .i s37.2), (68, .b x48)]) (fun x48 => []) 0 g (fun x48 g => ?_) fun J49 g j49 => ?_
 refine C.nx ?_
 refine C.ite rfl g (fun b54 g => ?_) fun b54 g => ?_
 refine C.ss (U.pd 1 T (C.nx (C.ret (C.rt (C.brt (C.rt (C.rt (C.brt (C.rt (C.brt (C.rt (C.rt (C.brt (C.rt ?_))))))))))))))
 exact C.f1 T o (pBi g)
 refine C.skip (C.nx (U.start (U.pd 3 T (C.bnx (C.nx (U.start ?_))))))
 refine U.pd 3 T (C.nx ?_)
 exact St.wk (C.next g) (Wk.e)
 refine D.bq mix 9999 [] [] (fun hQ hS ws M' => ?_)
 refine D.pq 2 (zl [0, 1]) T ?_
 obtain ⟨x50, y50, g⟩ := g
 refine D.ix 2 [] T y50 ?_
 refine D.pq 4 (zl [3, 4, 5, 6]) T ?_
 refine D.ix 7 [] T y41 ?_
 refine D.pq 3 (zl [8, 9, 10]) T ?_
 obtain ⟨x51, y51, g⟩ := g
 refine D.ix 11 [] T y51 ?_
 refine D.pq 3 (zl [12, 13, 14]) T ?_
 refine g.cs (fun b52 g => ?_) fun b52 g => ?_
 refine D.sz 15 [] 14 false 54 b52 ?_
 refine D.sz 16 [] 14 false 54 b52 ?_
 refine D.sz 17 [] 14 false 54 b52 ?_
 refine D.sz 18 [] 14 false 54 b52 ?_
 refine D.sz 19 [] 14 false 54 b52 ?_
 refine D.sz 20 [] 14 false 54 b52 ?_
 refine D.sz 21 [] 14 false 54 b52 ?_
 refine D.sz 22 [] 14 false 54 b52 ?_
 refine D.sz 23 [] 14 false 54 b52 ?_
 refine D.sz 24 [] 14 false 54 b52 ?_
 refine D.sz 25 [] 14 false 54 b52 ?_
 refine D.sz 26 [] 14 false 54 b52 ?_
 refine D.sz 27 [] 14 false 54 b52 ?_
 refine D.kt 28 [] b52 ?_
 refine D.done (by kernel_rfl) ?_
 exact St.wn (j49 _ g)
 refine D.pt 15 [] 14 false 54 b52 T ?_
 refine D.pt 16 [] 14 false 54 b52 T ?_
 refine D.q 17 [] hQ hS rfl (.tk 14 false 54 b52) rfl rfl (by exact Rd.ix T rfl rfl rfl rfl rfl rfl y50) rfl (by kernel_rfl) ?_
 refine D.pt 18 [] 14 false 54 b52 T ?_
 refine D.q 19 [] hQ hS rfl (.tk 14 false 54 b52) rfl rfl (by exact Rd.l T rfl rfl rfl) rfl (by kernel_rfl) ?_
 refine D.pt 20 [] 14 false 54 b52 T ?_
 refine D.pt 21 [] 14 false 54 b52 T ?_
 refine D.q 22 [] hQ hS rfl (.tk 14 false 54 b52) rfl rfl (by exact Rd.ix T rfl rfl rfl rfl rfl rfl y41) rfl (by kernel_rfl) ?_
 refine D.q 23 [] hQ hS rfl (.tk 14 false 54 b52) rfl rfl (by exact Rd.l T rfl rfl rfl) rfl (by kernel_rfl) ?_
 refine D.pt 24 [] 14 false 54 b52 T ?_
 obtain ⟨x53, y53, g⟩ := g
 refine D.q 25 [] hQ hS rfl (.tk 14 false 54 b52) rfl rfl (by exact Rd.ix T rfl rfl rfl rfl rfl rfl y53) rfl (by kernel_rfl) ?_
 refine D.q 26 [] hQ hS rfl (.tk 14 false 54 b52) rfl rfl (by exact Rd.l T rfl rfl rfl) rfl (by kernel_rfl) ?_
 refine D.pt 27 [] 14 false 54 b52 T ?_
 refine D.kf 28 [] b52 ?_
 refine D.done (by kernel_rfl) ?_
 exact St.wn (j49 _ g)
 refine C.exit (C.ex (C.ex (C.bex ?_)))
 exact St.wn (j36 _ g)
 refine C.exit (C.ex (C.ex (C.bex ?_)))
 exact St.wn (j19 _ g)
end Go.Proofs.Ythbeknnkokooiaa
