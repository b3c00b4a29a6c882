/- The walks: each Go function does what its verification condition says (written by a program of the prover). -/
import Derived.Test.YtenbhocpjlmimaaGreatW1
import Derived.KernelRfl
set_option maxRecDepth 100000
set_option maxHeartbeats 8000000
set_option linter.unusedVariables false
set_option linter.unusedSimpArgs false
namespace Go.Proofs.YtenbhocpjlmimaaGreat
open Go Go.Taq
theorem T_body_Same (a : ApiState) (b : ApiState) (post : Bool → Prop) (hm : V_body_Same a b post) :
    Tr Tryz.prog 27 [.agg (eApiState a), .agg (eApiState b)] [] 0 (fun A H' k => ∃ y, post y ∧ A = (.b y) ∧ H' = [] ∧ k = 0) := by
 refine Tr.intro (n := 67) Tryz.func27 rfl Tryz.ntmps27 rfl (fun w0 ok F β hβ => ?_)
 unfold V_body_Same at hm
 refine C.seq (U.start ?_)
 refine U.e1 rfl (.none rfl) (by exact Eff1.box rfl rfl rfl rfl rfl) ?_
 refine U.e1 rfl (.none rfl) (by exact Eff1.box rfl rfl rfl rfl rfl) ?_
 refine U.ps 1 T rfl ?_
 refine U.done (C.nx (C.seq ?_))
 refine C.jn (fun (x3 : Bool) => [(2, .p 0 0), (3, .p 1 0), (5, .b x3)]) (fun (x3 : Bool) => [(0, .box (eApiState a)), (1, .box (eApiState b))]) 2 hm (fun x3 hm => ?_) (fun J4 hm hJ4 => ?_)
 refine C.nx (C.seq (C.seq ?_))
 refine C.jn (fun (x9 : Bool) => [(2, .p 0 0), (3, .p 1 0), (36, .b x9)]) (fun (x9 : Bool) => [(0, .box (eApiState a)), (1, .box (eApiState b))]) 2 hm (fun x9 hm => ?_) (fun J10 hm hJ10 => ?_)
 refine C.nx ?_
 refine C.ite rfl hm (fun hb12 hm => ?_) (fun hb12 hm => ?_)
 refine C.seq (U.start ?_)
 refine U.ps 1 T rfl ?_
 refine U.done (C.nx (C.ret (C.rt ?_)))
 exact C.f0 T (rs' := [.b false]) hβ ⟨false, hm, rfl, rfl, rfl⟩
 refine C.skip (C.nx (C.seq (C.seq (U.start ?_))))
 refine U.ps 4 T rfl ?_
 refine U.done (C.nx ?_)
 refine C.jn (fun (x17 : Unit) => [(2, .p 0 0), (3, .p 1 0)]) (fun (x17 : Unit) => [(0, .box (eApiState a)), (1, .box (eApiState b))]) 2 hm (fun x17 hm => ?_) (fun J18 hm hJ18 => ?_)
 refine C.nx (C.seq ?_)
 refine C.jn (fun (x35 : Bool) => [(4, .b x35)]) (fun (x35 : Bool) => []) 0 hm (fun x35 hm => ?_) (fun J36 hm hJ36 => ?_)
 refine C.nx (C.ret ?_)
 exact C.f0 T (rs' := [.b x35]) hβ ⟨x35, hm, rfl, rfl, rfl⟩
 refine U.start ?_
 refine U.ps 4 T rfl ?_
 refine U.e rfl (.none rfl) (by exact Eff.k (T_slices_Equal_int_int a.Dead b.Dead _ hm) en62 rfl rfl rfl (.eq rfl) (fun _ _ => ⟨(.v _), trivial⟩)) (fun x37' hm => ?_)
 obtain ⟨x37⟩ := x37'
 refine U.ps 1 T rfl ?_
 refine hm.cs (fun hb38 hm => ?_) (fun hb38 hm => ?_)
 refine U.pg 4 5 true 60 hb38 T rfl rfl rfl rfl ?_
 refine U.e rfl (.take 5 true 60 _ hb38 rfl rfl rfl) (by exact Eff.k (T_slices_Equal_api_Stuck_api_Stuck a.Stuck b.Stuck _ hm) en63 rfl rfl rfl (.eq rfl) (fun _ _ => ⟨(.v _), trivial⟩)) (fun x39' hm => ?_)
 obtain ⟨x39⟩ := x39'
 refine U.r rfl (.none rfl) rfl rfl (by exact Rd.pk rfl rfl hb38 rfl) ?_
 refine U.ps 1 T rfl ?_
 refine U.done ?_
 exact St.wk (hJ36 _ hm) (Wk.e)
 refine U.sks 5 5 true 60 hb38 rfl rfl rfl ?_
 refine U.r rfl (.none rfl) rfl rfl (by exact Rd.pk' rfl rfl hb38 rfl) ?_
 refine U.ps 1 T rfl ?_
 refine U.done ?_
 exact St.wk (hJ36 _ hm) (Wk.e)
 refine C.block ?_
 refine St.wk (C.loop (fun (s19 : Int) => [(2, .p 0 0), (3, .p 1 0), (39, .i (a.Robots.length : Int)), (40, .i s19)]) (fun (s19 : Int) => [(0, .box (eApiState a)), (1, .box (eApiState b))]) hm (fun s19 Y20 hm => ?_)) (Wk.f [some 0, some 1] ⟨bX, bX, trivial⟩)
 refine C.seq (U.start ?_)
 refine U.ps 1 T rfl ?_
 refine U.done (C.nx (C.seq ?_))
 refine C.ite rfl hm (fun hb23 hm => ?_) (fun hb23 hm => ?_)
 refine C.skip (C.nx (C.seq (C.block (C.seq (U.start ?_)))))
 refine U.ps 2 T rfl ?_
 refine U.done (C.nx (C.seq ?_))
 refine D.beg 9999 [0, 1] [] mix rfl rfl (by kernel_rfl) (by repeat (first | exact NoPanicQ.body | exact NoPanicQ.rnd | refine NoPanicQ.th ?_ | refine NoPanicQ.blk ?_)) (fun hQ hS ws M' => ?_)
 refine D.ps 3 [(0, []), (1, []), (2, [])] rfl hQ hS T rfl rfl (by kernel_rfl) ?_
 obtain ⟨x28, hx28, hm⟩ := hm
 refine D.q 3 [] hQ hS rfl (.none rfl) rfl rfl (by exact Rd.ix T rfl rfl rfl rfl rfl rfl hx28) rfl (by kernel_rfl) ?_
 refine D.ps 4 [(4, []), (5, []), (6, []), (7, [])] rfl hQ hS T rfl rfl (by kernel_rfl) ?_
 obtain ⟨x29, hx29, hm⟩ := hm
 refine D.q 8 [] hQ hS rfl (.none rfl) rfl rfl (by exact Rd.ix T rfl rfl rfl rfl rfl rfl hx29) rfl (by kernel_rfl) ?_
 refine D.ps 1 [(9, [])] rfl hQ hS T rfl rfl (by kernel_rfl) ?_
 refine D.q 10 [] hQ hS rfl (.none rfl) rfl rfl (by exact Rd.nes T rfl rfl eqt45 rfl rfl rfl) rfl (by kernel_rfl) ?_
 refine D.done (by kernel_rfl) ?_
 refine C.nx ?_
 refine C.ite rfl hm (fun hb30 hm => ?_) (fun hb30 hm => ?_)
 refine C.seq (U.start ?_)
 refine U.ps 1 T rfl ?_
 refine U.done (C.nx (C.ret (C.brt (C.rt (C.rt (C.brt (C.rt ?_)))))))
 exact C.f0 T (rs' := [.b false]) hβ ⟨false, hm, rfl, rfl, rfl⟩
 refine C.skip (C.bnx (C.nx (U.start ?_)))
 refine U.ps 2 T rfl ?_
 refine U.done (C.nx ?_)
 exact St.wk (C.next hm) (Wk.f [some 0, some 1] ⟨bX, bX, trivial⟩)
 refine C.exit (C.ex (C.ex (C.bex ?_)))
 exact St.wk (hJ18 _ hm) (Wk.f [some 0, some 1] ⟨bX, bX, trivial⟩)
 refine U.start ?_
 refine U.ps 3 T rfl ?_
 refine hm.cs (fun hb11 hm => ?_) (fun hb11 hm => ?_)
 refine U.pg 7 2 false 28 (ntF hb11) T rfl rfl rfl rfl ?_
 refine U.r rfl (.none rfl) rfl rfl (by exact Rd.pk' rfl rfl (ntF hb11) rfl) ?_
 refine U.done ?_
 exact St.wk (hJ10 _ hm) (Wk.f [some 0, some 1] ⟨bX, bX, trivial⟩)
 refine U.sks 7 2 false 28 (ntT hb11) rfl rfl rfl ?_
 refine U.r rfl (.none rfl) rfl rfl (by exact Rd.pk rfl rfl (ntT hb11) rfl) ?_
 refine U.done ?_
 exact St.wk (hJ10 _ hm) (Wk.f [some 0, some 1] ⟨bX, bX, trivial⟩)
 refine U.start ?_
 refine U.ps 6 T rfl ?_
 refine hm.cs (fun hb5 hm => ?_) (fun hb5 hm => ?_)
 refine U.pg 4 5 true 12 hb5 T rfl rfl rfl rfl ?_
 refine U.e rfl (.take 5 true 12 _ hb5 rfl rfl rfl) (by exact Eff.k (T_slices_Equal_int_int a.Shelves b.Shelves _ hm) en62 rfl rfl rfl (.eq rfl) (fun _ _ => ⟨(.v _), trivial⟩)) (fun x6' hm => ?_)
 obtain ⟨x6⟩ := x6'
 refine U.r rfl (.none rfl) rfl rfl (by exact Rd.pk rfl rfl hb5 rfl) ?_
 refine U.ps 1 T rfl ?_
 refine hm.cs (fun hb7 hm => ?_) (fun hb7 hm => ?_)
 refine U.pg 4 12 true 19 hb7 T rfl rfl rfl rfl ?_
 refine U.e rfl (.take 12 true 19 _ hb7 rfl rfl rfl) (by exact Eff.k (T_slices_Equal_int_int a.People b.People _ hm) en62 rfl rfl rfl (.eq rfl) (fun _ _ => ⟨(.v _), trivial⟩)) (fun x8' hm => ?_)
 obtain ⟨x8⟩ := x8'
 refine U.r rfl (.none rfl) rfl rfl (by exact Rd.pk rfl rfl hb7 rfl) ?_
 refine U.ps 1 T rfl ?_
 refine U.done ?_
 exact St.wk (hJ4 _ hm) (Wk.f [some 0, some 1] ⟨bX, bX, trivial⟩)
 refine U.sks 5 12 true 19 hb7 rfl rfl rfl ?_
 refine U.r rfl (.none rfl) rfl rfl (by exact Rd.pk' rfl rfl hb7 rfl) ?_
 refine U.ps 1 T rfl ?_
 refine U.done ?_
 exact St.wk (hJ4 _ hm) (Wk.f [some 0, some 1] ⟨bX, bX, trivial⟩)
 refine U.sks 5 5 true 12 hb5 rfl rfl rfl ?_
 refine U.r rfl (.none rfl) rfl rfl (by exact Rd.pk' rfl rfl hb5 rfl) ?_
 refine U.ps 1 T rfl ?_
 refine U.sks 5 12 true 19 rfl rfl rfl rfl ?_
 refine U.r rfl (.none rfl) rfl rfl (by exact Rd.pk' rfl rfl rfl rfl) ?_
 refine U.ps 1 T rfl ?_
 refine U.done ?_
 exact St.wk (hJ4 _ hm) (Wk.f [some 0, some 1] ⟨bX, bX, trivial⟩)
theorem T_taquinlaw15_ActAlone (s_1 : ApiSite) (st : ApiState) (robot : Int) (a : Int) (post : Bool → Prop) (hm : V_taquinlaw15_ActAlone s_1 st robot a post) :
    Tr Tryz.prog 5 [.agg (eApiSite s_1), .agg (eApiState st), .i robot, .i a] [] 0 (fun A H' k => ∃ y, post y ∧ A = (.b y) ∧ H' = [] ∧ k = 0) := by
 refine Tr.intro (n := 240) Tryz.func5 rfl Tryz.ntmps5 rfl (fun w0 ok F β hβ => ?_)
 unfold V_taquinlaw15_ActAlone at hm
 refine C.seq (U.start ?_)
 refine U.e1 rfl (.none rfl) (by exact Eff1.box rfl rfl rfl rfl rfl) ?_
 refine U.e1 rfl (.none rfl) (by exact Eff1.box rfl rfl rfl rfl rfl) ?_
 refine U.ps 1 T rfl ?_
 refine U.done (C.nx (C.seq (U.start ?_)))
 refine U.e rfl (.none rfl) (by exact Eff.k (T_taquinlaw15_small _ hm) en8 rfl rfl rfl (.eq rfl) (fun _ _ => ⟨(.v _), trivial⟩)) (fun x5' hm => ?_)
 obtain ⟨x5⟩ := x5'
 refine U.ps 1 T rfl ?_
 refine U.done (C.nx (C.seq (C.seq ?_)))
 refine C.jn (fun (x6 : Bool) => [(2, .i robot), (3, .i a), (4, .p 0 0), (5, .p 1 0), (9, .b x5), (31, .b x6)]) (fun (x6 : Bool) => [(0, .box (eApiSite s_1)), (1, .box (eApiState st))]) 2 hm (fun x6 hm => ?_) (fun J7 hm hJ7 => ?_)
 refine C.nx ?_
 refine C.ite rfl hm (fun hb11 hm => ?_) (fun hb11 hm => ?_)
 refine C.seq (U.start ?_)
 refine U.ps 2 T rfl ?_
 refine U.done (C.nx (C.ret (C.rt ?_)))
 exact C.f0 T (rs' := [.b x5]) hβ ⟨x5, hm, rfl, rfl, rfl⟩
 refine C.skip (C.nx (C.seq (U.start ?_)))
 refine U.ps 4 T rfl ?_
 refine U.e rfl (.none rfl) (by exact Eff.c [] (v := true) (T_act_Do s_1 st robot a _ hm) en16 rfl rfl rfl (.eq rfl) trivial rfl rfl rfl rfl rfl rfl (fun _ _ => ⟨(.agg (.cons (.v _) (.cons (.o _) (.cons (.o _) (.cons (.o _) (.cons (.o _) (.cons (.o _) .nil))))))), ⟨.val (.os _ _ _ fun _ => (.cons (.v _) .nil)), .val (.os _ _ _ fun _ => (.cons (.v _) (.cons (.v _) (.cons (.v _) (.cons (.v _) (.cons (.v _) (.cons (.v _) .nil))))))), .val (.os _ _ _ fun _ => (.cons (.v _) .nil)), .val (.os _ _ _ fun _ => (.cons (.v _) .nil)), .val (.os _ _ _ fun _ => (.cons (.v _) (.cons (.v _) .nil))), trivial⟩⟩) (.inr ⟨rfl, rfl⟩) (fun _ => rfl) (fun _ => rfl) rfl) (fun x16' hm => ?_)
 obtain ⟨x16⟩ := x16'
 refine U.e1 rfl (.none rfl) (by exact Eff1.al T rfl rfl rfl rfl) ?_
 refine U.e1 rfl (.none rfl) (by exact Eff1.st T rfl rfl rfl rfl rfl rfl rfl rfl rfl rfl) ?_
 refine U.done (C.nx (C.seq (C.seq ?_)))
 refine C.jn (fun (x17 : Bool) => [(2, .i robot), (3, .i a), (4, .p 0 0), (5, .p 1 0), (9, .b x5), (10, .p 2 0), (64, .b x17)]) (fun (x17 : Bool) => [(0, .box (eApiSite s_1)), (1, .box (eApiState st)), (2, .box [.i x16.Tick, .o 3, .o 4, .o 5, .o 6, .o 7]), (3, .val (.os 1 eI x16.Shelves)), (4, .val (.os 6 eApiRobot x16.Robots)), (5, .val (.os 1 eI x16.People)), (6, .val (.os 1 eI x16.Dead)), (7, .val (.os 2 eApiStuck x16.Stuck))]) 8 hm (fun x17 hm => ?_) (fun J18 hm hJ18 => ?_)
 refine C.nx ?_
 refine C.ite rfl hm (fun hb22 hm => ?_) (fun hb22 hm => ?_)
 refine C.seq (U.start ?_)
 refine U.ps 1 T rfl ?_
 refine U.done (C.nx (C.ret (C.rt ?_)))
 exact C.f0 T (rs' := [.b false]) hβ ⟨false, hm, rfl, rfl, rfl⟩
 refine C.skip (C.nx (C.seq (U.start ?_)))
 refine U.ps 3 T rfl ?_
 obtain ⟨x27, hx27, hm⟩ := hm
 refine U.r rfl (.none rfl) rfl rfl (by exact Rd.ix T rfl rfl rfl rfl rfl rfl hx27) ?_
 refine U.ps 1 T rfl ?_
 refine U.e1 rfl (.none rfl) (by exact Eff1.al T rfl rfl rfl rfl) ?_
 refine U.e1 rfl (.none rfl) (by exact Eff1.st T rfl rfl rfl rfl rfl rfl rfl rfl rfl rfl) ?_
 refine U.done (C.nx (C.seq (U.start ?_)))
 refine U.ps 3 T rfl ?_
 obtain ⟨x30, hx30, hm⟩ := hm
 refine U.r rfl (.none rfl) rfl rfl (by exact Rd.io T rfl rfl rfl rfl rfl rfl rfl hx30) ?_
 refine U.r rfl (.none rfl) rfl rfl (by exact Rd.le T rfl rfl rfl (idx_some hx30).2.2 rfl rfl rfl) ?_
 refine U.e1 rfl (.none rfl) (by exact Eff1.al T rfl rfl rfl rfl) ?_
 refine U.e1 rfl (.none rfl) (by exact Eff1.st T rfl rfl rfl rfl rfl rfl rfl rfl rfl rfl) ?_
 refine U.done (C.nx (C.seq (U.start ?_)))
 refine U.ps 1 T rfl ?_
 refine U.e rfl (.none rfl) (by exact Eff.c [] (v := true) (T_body_Clone x16 _ hm) en26 rfl rfl rfl (.cons (.agg (.cons (.eq rfl) (.cons (.fz rfl rfl rfl (.os fun _ => .cons (.ro rfl) .nil)) (.cons (.fz rfl rfl rfl (.os fun _ => .cons (.ro rfl) (.cons (.ro rfl) (.cons (.ro rfl) (.cons (.ro rfl) (.cons (.ro rfl) (.cons (.ro rfl) .nil))))))) (.cons (.fz rfl rfl rfl (.os fun _ => .cons (.ro rfl) .nil)) (.cons (.fz rfl rfl rfl (.os fun _ => .cons (.ro rfl) .nil)) (.cons (.fz rfl rfl rfl (.os fun _ => .cons (.ro rfl) (.cons (.ro rfl) .nil))) .nil))))))) .nil) trivial rfl rfl rfl rfl rfl rfl (fun _ _ => ⟨(.agg (.cons (.v _) (.cons (.o _) (.cons (.o _) (.cons (.o _) (.cons (.o _) (.cons (.o _) .nil))))))), ⟨.val (.os _ _ _ fun _ => (.cons (.v _) .nil)), .val (.os _ _ _ fun _ => (.cons (.v _) (.cons (.v _) (.cons (.v _) (.cons (.v _) (.cons (.v _) (.cons (.v _) .nil))))))), .val (.os _ _ _ fun _ => (.cons (.v _) .nil)), .val (.os _ _ _ fun _ => (.cons (.v _) .nil)), .val (.os _ _ _ fun _ => (.cons (.v _) (.cons (.v _) .nil))), trivial⟩⟩) (.inr ⟨rfl, rfl⟩) (fun _ => rfl) (fun _ => rfl) rfl) (fun x33' hm => ?_)
 obtain ⟨x33⟩ := x33'
 refine U.e1 rfl (.none rfl) (by exact Eff1.al T rfl rfl rfl rfl) ?_
 refine U.e1 rfl (.none rfl) (by exact Eff1.st T rfl rfl rfl rfl rfl rfl rfl rfl rfl rfl) ?_
 refine U.done (C.nx (C.seq (U.start ?_)))
 refine U.ps 4 T rfl ?_
 obtain ⟨x36, hx36, hm⟩ := hm
 refine U.r rfl (.none rfl) rfl rfl (by exact Rd.io T rfl rfl rfl rfl rfl rfl rfl hx36) ?_
 refine U.e1 rfl (.none rfl) (by exact Eff1.se T (z' := x27) rfl rfl rfl (idx_some hx36).2.2 rfl rfl rfl rfl rfl rfl rfl rfl (fun _ => rfl) rfl) ?_
 refine U.done (C.nx (C.seq (C.seq (U.start ?_))))
 refine U.ps 3 T rfl ?_
 refine U.done (C.nx ?_)
 refine C.jn (fun (x39 : List Int) => [(3, .i a), (4, .p 0 0), (5, .p 1 0), (9, .b x5), (10, .p 2 0), (11, .p 8 0), (12, .p 9 0), (13, .p 10 0)]) (fun (x39 : List Int) => [(0, .box (eApiSite s_1)), (1, .box (eApiState st)), (2, .box [.i x16.Tick, .o 3, .o 4, .o 5, .o 6, .o 7]), (3, .val (.os 1 eI x16.Shelves)), (4, .val (.os 6 eApiRobot x16.Robots)), (5, .val (.os 1 eI x16.People)), (6, .val (.os 1 eI x16.Dead)), (7, .val (.os 2 eApiStuck x16.Stuck)), (8, .box (eApiRobot x27)), (9, .box (eApiRobot x30)), (10, .box [.i x33.Tick, .o 11, .o 12, .o 13, .o 14, .o 15]), (11, .val (.os 1 eI x39)), (12, .val (.os 6 eApiRobot (x33.Robots.set (Int.toNat robot) x27))), (13, .val (.os 1 eI x33.People)), (14, .val (.os 1 eI x33.Dead)), (15, .val (.os 2 eApiStuck x33.Stuck))]) 16 hm (fun x39 hm => ?_) (fun J40 hm hJ40 => ?_)
 refine C.nx (C.seq (C.seq ?_))
 refine C.jn (fun (x46 : Bool) => [(3, .i a), (4, .p 0 0), (5, .p 1 0), (9, .b x5), (10, .p 2 0), (11, .p 8 0), (12, .p 9 0), (113, .b x46)]) (fun (x46 : Bool) => [(0, .box (eApiSite s_1)), (1, .box (eApiState st)), (2, .box [.i x16.Tick, .o 3, .o 4, .o 5, .o 6, .o 7]), (3, .val (.os 1 eI x16.Shelves)), (4, .val (.os 6 eApiRobot x16.Robots)), (5, .val (.os 1 eI x16.People)), (6, .val (.os 1 eI x16.Dead)), (7, .val (.os 2 eApiStuck x16.Stuck)), (8, .box (eApiRobot x27)), (9, .box (eApiRobot x30))]) 10 hm (fun x46 hm => ?_) (fun J47 hm hJ47 => ?_)
 refine C.nx ?_
 refine C.ite rfl hm (fun hb51 hm => ?_) (fun hb51 hm => ?_)
 refine C.seq (U.start ?_)
 refine U.ps 1 T rfl ?_
 refine U.done (C.nx (C.ret (C.rt ?_)))
 exact C.f0 T (rs' := [.b false]) hβ ⟨false, hm, rfl, rfl, rfl⟩
 refine C.skip (C.nx (C.seq (C.seq (U.start ?_))))
 refine U.ps 2 T rfl ?_
 refine U.done (C.nx ?_)
 refine C.ite rfl hm (fun hb56 hm => ?_) (fun hb56 hm => ?_)
 refine C.seq ?_
 refine C.jn (fun (x57 : Bool) => [(8, .b x57)]) (fun (x57 : Bool) => []) 0 hm (fun x57 hm => ?_) (fun J58 hm hJ58 => ?_)
 refine C.nx (C.ret (C.rt ?_))
 exact C.f0 T (rs' := [.b x57]) hβ ⟨x57, hm, rfl, rfl, rfl⟩
 refine U.start ?_
 refine U.ps 2 T rfl ?_
 refine hm.cs (fun hb59 hm => ?_) (fun hb59 hm => ?_)
 refine U.pg 2 1 true 117 hb59 T rfl rfl rfl rfl ?_
 refine U.r rfl (.take 1 true 117 _ hb59 rfl rfl rfl) rfl rfl (by exact Rd.eqs T rfl rfl eqt45 rfl rfl rfl) ?_
 refine U.r rfl (.none rfl) rfl rfl (by exact Rd.pk rfl rfl hb59 rfl) ?_
 refine U.ps 1 T rfl ?_
 refine U.done ?_
 exact St.wk (hJ58 _ hm) (Wk.e)
 refine U.sks 3 1 true 117 hb59 rfl rfl rfl ?_
 refine U.r rfl (.none rfl) rfl rfl (by exact Rd.pk' rfl rfl hb59 rfl) ?_
 refine U.ps 1 T rfl ?_
 refine U.done ?_
 exact St.wk (hJ58 _ hm) (Wk.e)
 refine C.skip (C.nx (C.seq (U.start ?_)))
 refine U.ps 8 T rfl ?_
 refine U.e rfl (.none rfl) (by exact Eff.k (T_battery_After st.Tick x27.Charge a (decide (x27.Load ≥ 0)) _ hm) en28 rfl rfl rfl (.eq rfl) (fun _ _ => ⟨(.tup (.cons (.v _) (.cons (.v _) .nil))), trivial⟩)) (fun x62' hm => ?_)
 obtain ⟨x62⟩ := x62'
 refine U.ps 5 T rfl ?_
 refine U.done (C.nx (C.seq (C.seq ?_)))
 refine C.jn (fun (x63 : Bool) => [(3, .i a), (4, .p 0 0), (5, .p 1 0), (9, .b x5), (10, .p 2 0), (11, .p 8 0), (12, .p 9 0), (150, .b x63)]) (fun (x63 : Bool) => [(0, .box (eApiSite s_1)), (1, .box (eApiState st)), (2, .box [.i x16.Tick, .o 3, .o 4, .o 5, .o 6, .o 7]), (3, .val (.os 1 eI x16.Shelves)), (4, .val (.os 6 eApiRobot x16.Robots)), (5, .val (.os 1 eI x16.People)), (6, .val (.os 1 eI x16.Dead)), (7, .val (.os 2 eApiStuck x16.Stuck)), (8, .box (eApiRobot x27)), (9, .box (eApiRobot x30))]) 10 hm (fun x63 hm => ?_) (fun J64 hm hJ64 => ?_)
 refine C.nx ?_
 refine C.ite rfl hm (fun hb69 hm => ?_) (fun hb69 hm => ?_)
 refine C.seq (U.start ?_)
 refine U.ps 1 T rfl ?_
 refine U.done (C.nx (C.ret (C.rt ?_)))
 exact C.f0 T (rs' := [.b false]) hβ ⟨false, hm, rfl, rfl, rfl⟩
 refine C.skip (C.nx (C.seq (C.seq ?_)))
 refine C.jn (fun (x72 : Bool) => [(3, .i a), (4, .p 0 0), (5, .p 1 0), (9, .b x5), (10, .p 2 0), (11, .p 8 0), (12, .p 9 0), (156, .b x72)]) (fun (x72 : Bool) => [(0, .box (eApiSite s_1)), (1, .box (eApiState st)), (2, .box [.i x16.Tick, .o 3, .o 4, .o 5, .o 6, .o 7]), (3, .val (.os 1 eI x16.Shelves)), (4, .val (.os 6 eApiRobot x16.Robots)), (5, .val (.os 1 eI x16.People)), (6, .val (.os 1 eI x16.Dead)), (7, .val (.os 2 eApiStuck x16.Stuck)), (8, .box (eApiRobot x27)), (9, .box (eApiRobot x30))]) 10 hm (fun x72 hm => ?_) (fun J73 hm hJ73 => ?_)
 refine C.nx ?_
 refine C.ite rfl hm (fun hb75 hm => ?_) (fun hb75 hm => ?_)
 refine C.seq (U.start ?_)
 refine U.ps 3 T rfl ?_
 refine U.done (C.nx (C.seq (C.seq (U.start ?_))))
 refine U.ps 2 T rfl ?_
 refine U.done (C.nx ?_)
 refine C.jn (fun (x80 : Int) => [(3, .i a), (9, .b x5), (11, .p 0 0), (12, .p 1 0), (16, .i x80)]) (fun (x80 : Int) => [(0, .box (eApiRobot x27)), (1, .box (eApiRobot x30))]) 2 hm (fun x80 hm => ?_) (fun J81 hm hJ81 => ?_)
 refine C.nx (C.seq (C.seq (U.start ?_)))
 refine U.ps 2 T rfl ?_
 refine U.done (C.nx ?_)
 refine C.jn (fun (x88 : Int) => [(9, .b x5), (11, .p 0 0), (12, .p 1 0), (16, .i x88)]) (fun (x88 : Int) => [(0, .box (eApiRobot x27)), (1, .box (eApiRobot x30))]) 2 hm (fun x88 hm => ?_) (fun J89 hm hJ89 => ?_)
 refine C.nx (C.seq ?_)
 refine C.jn (fun (x93 : Bool) => [(8, .b x93)]) (fun (x93 : Bool) => []) 0 hm (fun x93 hm => ?_) (fun J94 hm hJ94 => ?_)
 refine C.nx (C.ret (C.rt ?_))
 exact C.f0 T (rs' := [.b x93]) hβ ⟨x93, hm, rfl, rfl, rfl⟩
 refine U.start ?_
 refine U.ps 2 T rfl ?_
 refine hm.cs (fun hb95 hm => ?_) (fun hb95 hm => ?_)
 refine U.pg 5 1 true 169 hb95 T rfl rfl rfl rfl ?_
 refine U.r rfl (.none rfl) rfl rfl (by exact Rd.pk rfl rfl hb95 rfl) ?_
 refine U.ps 1 T rfl ?_
 refine hm.cs (fun hb96 hm => ?_) (fun hb96 hm => ?_)
 refine U.pg 5 8 true 176 hb96 T rfl rfl rfl rfl ?_
 refine U.r rfl (.none rfl) rfl rfl (by exact Rd.pk rfl rfl hb96 rfl) ?_
 refine U.ps 1 T rfl ?_
 refine hm.cs (fun hb97 hm => ?_) (fun hb97 hm => ?_)
 refine U.pg 4 15 true 183 hb97 T rfl rfl rfl rfl ?_
 refine U.r rfl (.none rfl) rfl rfl (by exact Rd.pk rfl rfl hb97 rfl) ?_
 refine U.ps 1 T rfl ?_
 refine U.done ?_
 exact St.wk (hJ94 _ hm) (Wk.e)
 refine U.sks 4 15 true 183 hb97 rfl rfl rfl ?_
 refine U.r rfl (.none rfl) rfl rfl (by exact Rd.pk' rfl rfl hb97 rfl) ?_
 refine U.ps 1 T rfl ?_
 refine U.done ?_
 exact St.wk (hJ94 _ hm) (Wk.e)
 refine U.sks 5 8 true 176 hb96 rfl rfl rfl ?_
 refine U.r rfl (.none rfl) rfl rfl (by exact Rd.pk' rfl rfl hb96 rfl) ?_
 refine U.ps 1 T rfl ?_
 refine U.sks 4 15 true 183 rfl rfl rfl rfl ?_
 refine U.r rfl (.none rfl) rfl rfl (by exact Rd.pk' rfl rfl rfl rfl) ?_
 refine U.ps 1 T rfl ?_
 refine U.done ?_
 exact St.wk (hJ94 _ hm) (Wk.e)
 refine U.sks 5 1 true 169 hb95 rfl rfl rfl ?_
 refine U.r rfl (.none rfl) rfl rfl (by exact Rd.pk' rfl rfl hb95 rfl) ?_
 refine U.ps 1 T rfl ?_
 refine U.sks 5 8 true 176 rfl rfl rfl rfl ?_
 refine U.r rfl (.none rfl) rfl rfl (by exact Rd.pk' rfl rfl rfl rfl) ?_
 refine U.ps 1 T rfl ?_
 refine U.sks 4 15 true 183 rfl rfl rfl rfl ?_
 refine U.r rfl (.none rfl) rfl rfl (by exact Rd.pk' rfl rfl rfl rfl) ?_
 refine U.ps 1 T rfl ?_
 refine U.done ?_
 exact St.wk (hJ94 _ hm) (Wk.e)
 refine C.ite rfl hm (fun hb90 hm => ?_) (fun hb90 hm => ?_)
 refine U.start ?_
 refine U.ps 1 T rfl ?_
 refine U.done ?_
 exact St.wk (hJ89 _ hm) (Wk.f [some 0, some 1] ⟨bX, bX, trivial⟩)
 refine C.skip ?_
 exact St.wk (hJ89 _ hm) (Wk.f [some 0, some 1] ⟨bX, bX, trivial⟩)
 refine C.ite rfl hm (fun hb82 hm => ?_) (fun hb82 hm => ?_)
 refine U.start ?_
 refine U.ps 4 T rfl ?_
 refine U.e rfl (.none rfl) (by exact Eff.k (T_rules_At s_1 st x27.Cell _ hm) en20 rfl rfl rfl (.eq rfl) (fun _ _ => ⟨(.v _), trivial⟩)) (fun x85' hm => ?_)
 obtain ⟨x85⟩ := x85'
 refine U.ps 1 T rfl ?_
 refine U.done ?_
 exact St.wk (hJ81 _ hm) (Wk.f [some 8, some 9] ⟨bX, bX, trivial⟩)
 refine C.skip ?_
 exact St.wk (hJ81 _ hm) (Wk.f [some 8, some 9] ⟨bX, bX, trivial⟩)
 refine C.skip (C.nx (C.seq (U.start ?_)))
 refine U.ps 6 T rfl ?_
 refine U.e rfl (.none rfl) (by exact Eff.k (T_floor_Next s_1.Floor x27.Cell (w64 (a - 1)) _ hm) en19 rfl rfl rfl (.eq rfl) (fun _ _ => ⟨(.tup (.cons (.v _) (.cons (.v _) .nil))), trivial⟩)) (fun x100' hm => ?_)
 obtain ⟨x100⟩ := x100'
 refine U.ps 5 T rfl ?_
 refine U.done (C.nx (C.seq ?_))
 refine C.jn (fun (x101 : Bool) => [(8, .b x101)]) (fun (x101 : Bool) => []) 0 hm (fun x101 hm => ?_) (fun J102 hm hJ102 => ?_)
 refine C.nx (C.ret ?_)
 exact C.f0 T (rs' := [.b x101]) hβ ⟨x101, hm, rfl, rfl, rfl⟩
 refine D.beg 9999 [0, 2, 3, 8, 9] [] mix rfl rfl (by kernel_rfl) (by repeat (first | exact NoPanicQ.body | exact NoPanicQ.rnd | refine NoPanicQ.th ?_ | refine NoPanicQ.blk ?_)) (fun hQ hS ws M' => ?_)
 refine D.ps 2 [(0, []), (1, [])] rfl hQ hS T rfl rfl (by kernel_rfl) ?_
 refine hm.cs (fun hb103 hm => ?_) (fun hb103 hm => ?_)
 refine D.q 2 [] hQ hS rfl (.take 1 true 200 _ hb103 rfl rfl rfl) rfl rfl (by exact Rd.p T rfl) rfl (by kernel_rfl) ?_
 refine D.q 3 [] hQ hS rfl (.none rfl) rfl rfl (by exact Rd.pk rfl rfl hb103 rfl) rfl (by kernel_rfl) ?_
 refine D.ps 1 [(4, [])] rfl hQ hS T rfl rfl (by kernel_rfl) ?_
 refine hm.cs (fun hb104 hm => ?_) (fun hb104 hm => ?_)
 refine D.q 5 [] hQ hS rfl (.take 4 true 203 _ hb104 rfl rfl rfl) rfl rfl (by exact Rd.p T rfl) rfl (by kernel_rfl) ?_
 refine D.q 6 [] hQ hS rfl (.take 4 true 203 _ hb104 rfl rfl rfl) rfl rfl (by exact Rd.l T rfl rfl rfl) rfl (by kernel_rfl) ?_
 refine D.q 7 [] hQ hS rfl (.take 4 true 203 _ hb104 rfl rfl rfl) rfl rfl (by exact Rd.p T rfl) rfl (by kernel_rfl) ?_
 refine D.q 8 [] hQ hS rfl (.take 4 true 203 _ hb104 rfl rfl rfl) rfl rfl (by exact Rd.p T rfl) rfl (by kernel_rfl) ?_
 refine D.q 9 [] hQ hS rfl (.none rfl) rfl rfl (by exact Rd.pk rfl rfl hb104 rfl) rfl (by kernel_rfl) ?_
 refine D.ps 1 [(10, [])] rfl hQ hS T rfl rfl (by kernel_rfl) ?_
 refine hm.cs (fun hb105 hm => ?_) (fun hb105 hm => ?_)
 refine D.q 11 [] hQ hS rfl (.take 10 true 209 _ hb105 rfl rfl rfl) rfl rfl (by exact Rd.p T rfl) rfl (by kernel_rfl) ?_
 refine D.q 12 [] hQ hS rfl (.take 10 true 209 _ hb105 rfl rfl rfl) rfl rfl (by exact Rd.l T rfl rfl rfl) rfl (by kernel_rfl) ?_
 refine D.q 13 [] hQ hS rfl (.take 10 true 209 _ hb105 rfl rfl rfl) rfl rfl (by exact Rd.p T rfl) rfl (by kernel_rfl) ?_
 refine D.q 14 [] hQ hS rfl (.take 10 true 209 _ hb105 rfl rfl rfl) rfl rfl (by exact Rd.l T rfl rfl rfl) rfl (by kernel_rfl) ?_
 refine D.q 15 [] hQ hS rfl (.take 10 true 209 _ hb105 rfl rfl rfl) rfl rfl (by exact Rd.p T rfl) rfl (by kernel_rfl) ?_
 refine D.q 16 [] hQ hS rfl (.none rfl) rfl rfl (by exact Rd.pk rfl rfl hb105 rfl) rfl (by kernel_rfl) ?_
 refine D.ps 1 [(17, [])] rfl hQ hS T rfl rfl (by kernel_rfl) ?_
 refine hm.cs (fun hb106 hm => ?_) (fun hb106 hm => ?_)
 refine D.q 18 [] hQ hS rfl (.take 17 true 216 _ hb106 rfl rfl rfl) rfl rfl (by exact Rd.p T rfl) rfl (by kernel_rfl) ?_
 refine D.q 19 [] hQ hS rfl (.take 17 true 216 _ hb106 rfl rfl rfl) rfl rfl (by exact Rd.l T rfl rfl rfl) rfl (by kernel_rfl) ?_
 refine D.q 20 [] hQ hS rfl (.take 17 true 216 _ hb106 rfl rfl rfl) rfl rfl (by exact Rd.l T rfl rfl rfl) rfl (by kernel_rfl) ?_
 refine D.q 21 [] hQ hS rfl (.take 17 true 216 _ hb106 rfl rfl rfl) rfl rfl (by exact Rd.p T rfl) rfl (by kernel_rfl) ?_
 refine D.e 22 rfl (.take 17 true 216 _ hb106 rfl rfl rfl) (by exact Eff.k (T_rules_Speed s_1 x100.1 _ hm) en29 rfl rfl rfl (.eq rfl) (fun _ _ => ⟨(.v _), trivial⟩)) (by kernel_rfl) rfl rfl (fun x107' hm => ?_)
 obtain ⟨x107⟩ := x107'
 refine D.q 23 [] hQ hS rfl (.take 17 true 216 _ hb106 rfl rfl rfl) rfl rfl (by exact Rd.p T rfl) rfl (by kernel_rfl) ?_
 refine D.q 24 [] hQ hS rfl (.take 17 true 216 _ hb106 rfl rfl rfl) rfl rfl (by exact Rd.p T rfl) rfl (by kernel_rfl) ?_
 refine D.q 25 [] hQ hS rfl (.none rfl) rfl rfl (by exact Rd.pk rfl rfl hb106 rfl) rfl (by kernel_rfl) ?_
 refine D.ps 1 [(26, [])] rfl hQ hS T rfl rfl (by kernel_rfl) ?_
 refine hm.cs (fun hb108 hm => ?_) (fun hb108 hm => ?_)
 refine D.q 27 [] hQ hS rfl (.take 26 true 225 _ hb108 rfl rfl rfl) rfl rfl (by exact Rd.p T rfl) rfl (by kernel_rfl) ?_
 refine D.q 28 [] hQ hS rfl (.take 26 true 225 _ hb108 rfl rfl rfl) rfl rfl (by exact Rd.l T rfl rfl rfl) rfl (by kernel_rfl) ?_
 refine D.q 29 [] hQ hS rfl (.take 26 true 225 _ hb108 rfl rfl rfl) rfl rfl (by exact Rd.p T rfl) rfl (by kernel_rfl) ?_
 refine D.q 30 [] hQ hS rfl (.take 26 true 225 _ hb108 rfl rfl rfl) rfl rfl (by exact Rd.p T rfl) rfl (by kernel_rfl) ?_
 refine hm.cs (fun hb109 hm => ?_) (fun hb109 hm => ?_)
 refine D.sq 31 [] hQ hS rfl (.skip 30 false 229 _ hb109 rfl rfl rfl) rfl rfl (by kernel_rfl) ?_
 refine D.sq 32 [] hQ hS rfl (.skip 30 false 229 _ hb109 rfl rfl rfl) rfl rfl (by kernel_rfl) ?_
 refine D.sq 33 [] hQ hS rfl (.skip 30 false 229 _ hb109 rfl rfl rfl) rfl rfl (by kernel_rfl) ?_
 refine D.sq 34 [] hQ hS rfl (.skip 30 false 229 _ hb109 rfl rfl rfl) rfl rfl (by kernel_rfl) ?_
 refine D.sq 35 [] hQ hS rfl (.skip 30 false 229 _ hb109 rfl rfl rfl) rfl rfl (by kernel_rfl) ?_
 refine D.sq 36 [] hQ hS rfl (.skip 30 false 229 _ hb109 rfl rfl rfl) rfl rfl (by kernel_rfl) ?_
 refine D.sq 37 [] hQ hS rfl (.skip 30 false 229 _ hb109 rfl rfl rfl) rfl rfl (by kernel_rfl) ?_
 refine D.sq 38 [] hQ hS rfl (.skip 30 false 229 _ hb109 rfl rfl rfl) rfl rfl (by kernel_rfl) ?_
 refine D.q 39 [] hQ hS rfl (.take 26 true 225 _ hb108 rfl rfl rfl) rfl rfl (by exact Rd.pk rfl rfl hb109 rfl) rfl (by kernel_rfl) ?_
 refine D.q 40 [] hQ hS rfl (.none rfl) rfl rfl (by exact Rd.pk rfl rfl hb108 rfl) rfl (by kernel_rfl) ?_
 refine D.ps 1 [(41, [])] rfl hQ hS T rfl rfl (by kernel_rfl) ?_
 refine D.done (by kernel_rfl) ?_
 exact St.wk (hJ102 _ hm) (Wk.e)
 refine D.q 31 [] hQ hS rfl (.take 30 false 229 _ hb109 rfl rfl rfl) rfl rfl (by exact Rd.p T rfl) rfl (by kernel_rfl) ?_
 refine D.q 32 [] hQ hS rfl (.take 30 false 229 _ hb109 rfl rfl rfl) rfl rfl (by exact Rd.l T rfl rfl rfl) rfl (by kernel_rfl) ?_
 refine D.q 33 [] hQ hS rfl (.take 30 false 229 _ hb109 rfl rfl rfl) rfl rfl (by exact Rd.p T rfl) rfl (by kernel_rfl) ?_
 refine D.q 34 [] hQ hS rfl (.take 30 false 229 _ hb109 rfl rfl rfl) rfl rfl (by exact Rd.l T rfl rfl rfl) rfl (by kernel_rfl) ?_
 obtain ⟨x110, hx110, hm⟩ := hm
 refine D.q 35 [] hQ hS rfl (.take 30 false 229 _ hb109 rfl rfl rfl) rfl rfl (by exact Rd.io T rfl rfl rfl rfl rfl rfl rfl hx110) rfl (by kernel_rfl) ?_
 refine D.q 36 [] hQ hS rfl (.take 30 false 229 _ hb109 rfl rfl rfl) rfl rfl (by exact Rd.le T rfl rfl rfl (idx_some hx110).2.2 rfl rfl rfl) rfl (by kernel_rfl) ?_
 refine D.q 37 [] hQ hS rfl (.take 30 false 229 _ hb109 rfl rfl rfl) rfl rfl (by exact Rd.p T rfl) rfl (by kernel_rfl) ?_
 refine D.q 38 [] hQ hS rfl (.take 30 false 229 _ hb109 rfl rfl rfl) rfl rfl (by exact Rd.p T rfl) rfl (by kernel_rfl) ?_
 refine D.q 39 [] hQ hS rfl (.take 26 true 225 _ hb108 rfl rfl rfl) rfl rfl (by exact Rd.pk' rfl rfl hb109 rfl) rfl (by kernel_rfl) ?_
 refine D.q 40 [] hQ hS rfl (.none rfl) rfl rfl (by exact Rd.pk rfl rfl hb108 rfl) rfl (by kernel_rfl) ?_
 refine D.ps 1 [(41, [])] rfl hQ hS T rfl rfl (by kernel_rfl) ?_
 refine D.done (by kernel_rfl) ?_
 exact St.wk (hJ102 _ hm) (Wk.e)
 refine D.sq 27 [] hQ hS rfl (.skip 26 true 225 _ hb108 rfl rfl rfl) rfl rfl (by kernel_rfl) ?_
 refine D.sq 28 [] hQ hS rfl (.skip 26 true 225 _ hb108 rfl rfl rfl) rfl rfl (by kernel_rfl) ?_
 refine D.sq 29 [] hQ hS rfl (.skip 26 true 225 _ hb108 rfl rfl rfl) rfl rfl (by kernel_rfl) ?_
 refine D.sq 30 [] hQ hS rfl (.skip 26 true 225 _ hb108 rfl rfl rfl) rfl rfl (by kernel_rfl) ?_
 refine D.sq 31 [] hQ hS rfl (.und 30 false 229 rfl rfl rfl) rfl rfl (by kernel_rfl) ?_
 refine D.sq 32 [] hQ hS rfl (.und 30 false 229 rfl rfl rfl) rfl rfl (by kernel_rfl) ?_
 refine D.sq 33 [] hQ hS rfl (.und 30 false 229 rfl rfl rfl) rfl rfl (by kernel_rfl) ?_
 refine D.sq 34 [] hQ hS rfl (.und 30 false 229 rfl rfl rfl) rfl rfl (by kernel_rfl) ?_
 refine D.sq 35 [] hQ hS rfl (.und 30 false 229 rfl rfl rfl) rfl rfl (by kernel_rfl) ?_
 refine D.sq 36 [] hQ hS rfl (.und 30 false 229 rfl rfl rfl) rfl rfl (by kernel_rfl) ?_
 refine D.sq 37 [] hQ hS rfl (.und 30 false 229 rfl rfl rfl) rfl rfl (by kernel_rfl) ?_
 refine D.sq 38 [] hQ hS rfl (.und 30 false 229 rfl rfl rfl) rfl rfl (by kernel_rfl) ?_
 refine D.sq 39 [] hQ hS rfl (.skip 26 true 225 _ hb108 rfl rfl rfl) rfl rfl (by kernel_rfl) ?_
 refine D.q 40 [] hQ hS rfl (.none rfl) rfl rfl (by exact Rd.pk' rfl rfl hb108 rfl) rfl (by kernel_rfl) ?_
 refine D.ps 1 [(41, [])] rfl hQ hS T rfl rfl (by kernel_rfl) ?_
 refine D.done (by kernel_rfl) ?_
 exact St.wk (hJ102 _ hm) (Wk.e)
 refine D.sq 18 [] hQ hS rfl (.skip 17 true 216 _ hb106 rfl rfl rfl) rfl rfl (by kernel_rfl) ?_
 refine D.sq 19 [] hQ hS rfl (.skip 17 true 216 _ hb106 rfl rfl rfl) rfl rfl (by kernel_rfl) ?_
 refine D.sq 20 [] hQ hS rfl (.skip 17 true 216 _ hb106 rfl rfl rfl) rfl rfl (by kernel_rfl) ?_
 refine D.sq 21 [] hQ hS rfl (.skip 17 true 216 _ hb106 rfl rfl rfl) rfl rfl (by kernel_rfl) ?_
 refine D.sq 22 [] hQ hS rfl (.skip 17 true 216 _ hb106 rfl rfl rfl) rfl rfl (by kernel_rfl) ?_
 refine D.sq 23 [] hQ hS rfl (.skip 17 true 216 _ hb106 rfl rfl rfl) rfl rfl (by kernel_rfl) ?_
 refine D.sq 24 [] hQ hS rfl (.skip 17 true 216 _ hb106 rfl rfl rfl) rfl rfl (by kernel_rfl) ?_
 refine D.q 25 [] hQ hS rfl (.none rfl) rfl rfl (by exact Rd.pk' rfl rfl hb106 rfl) rfl (by kernel_rfl) ?_
 refine D.ps 1 [(26, [])] rfl hQ hS T rfl rfl (by kernel_rfl) ?_
 refine D.sq 27 [] hQ hS rfl (.skip 26 true 225 _ rfl rfl rfl rfl) rfl rfl (by kernel_rfl) ?_
 refine D.sq 28 [] hQ hS rfl (.skip 26 true 225 _ rfl rfl rfl rfl) rfl rfl (by kernel_rfl) ?_
 refine D.sq 29 [] hQ hS rfl (.skip 26 true 225 _ rfl rfl rfl rfl) rfl rfl (by kernel_rfl) ?_
 refine D.sq 30 [] hQ hS rfl (.skip 26 true 225 _ rfl rfl rfl rfl) rfl rfl (by kernel_rfl) ?_
 refine D.sq 31 [] hQ hS rfl (.und 30 false 229 rfl rfl rfl) rfl rfl (by kernel_rfl) ?_
 refine D.sq 32 [] hQ hS rfl (.und 30 false 229 rfl rfl rfl) rfl rfl (by kernel_rfl) ?_
 refine D.sq 33 [] hQ hS rfl (.und 30 false 229 rfl rfl rfl) rfl rfl (by kernel_rfl) ?_
 refine D.sq 34 [] hQ hS rfl (.und 30 false 229 rfl rfl rfl) rfl rfl (by kernel_rfl) ?_
 refine D.sq 35 [] hQ hS rfl (.und 30 false 229 rfl rfl rfl) rfl rfl (by kernel_rfl) ?_
 refine D.sq 36 [] hQ hS rfl (.und 30 false 229 rfl rfl rfl) rfl rfl (by kernel_rfl) ?_
 refine D.sq 37 [] hQ hS rfl (.und 30 false 229 rfl rfl rfl) rfl rfl (by kernel_rfl) ?_
 refine D.sq 38 [] hQ hS rfl (.und 30 false 229 rfl rfl rfl) rfl rfl (by kernel_rfl) ?_
 refine D.sq 39 [] hQ hS rfl (.skip 26 true 225 _ rfl rfl rfl rfl) rfl rfl (by kernel_rfl) ?_
 refine D.q 40 [] hQ hS rfl (.none rfl) rfl rfl (by exact Rd.pk' rfl rfl rfl rfl) rfl (by kernel_rfl) ?_
 refine D.ps 1 [(41, [])] rfl hQ hS T rfl rfl (by kernel_rfl) ?_
 refine D.done (by kernel_rfl) ?_
 exact St.wk (hJ102 _ hm) (Wk.e)
 refine D.sq 11 [] hQ hS rfl (.skip 10 true 209 _ hb105 rfl rfl rfl) rfl rfl (by kernel_rfl) ?_
 refine D.sq 12 [] hQ hS rfl (.skip 10 true 209 _ hb105 rfl rfl rfl) rfl rfl (by kernel_rfl) ?_
 refine D.sq 13 [] hQ hS rfl (.skip 10 true 209 _ hb105 rfl rfl rfl) rfl rfl (by kernel_rfl) ?_
 refine D.sq 14 [] hQ hS rfl (.skip 10 true 209 _ hb105 rfl rfl rfl) rfl rfl (by kernel_rfl) ?_
 refine D.sq 15 [] hQ hS rfl (.skip 10 true 209 _ hb105 rfl rfl rfl) rfl rfl (by kernel_rfl) ?_
 refine D.q 16 [] hQ hS rfl (.none rfl) rfl rfl (by exact Rd.pk' rfl rfl hb105 rfl) rfl (by kernel_rfl) ?_
 refine D.ps 1 [(17, [])] rfl hQ hS T rfl rfl (by kernel_rfl) ?_
 refine D.sq 18 [] hQ hS rfl (.skip 17 true 216 _ rfl rfl rfl rfl) rfl rfl (by kernel_rfl) ?_
 refine D.sq 19 [] hQ hS rfl (.skip 17 true 216 _ rfl rfl rfl rfl) rfl rfl (by kernel_rfl) ?_
 refine D.sq 20 [] hQ hS rfl (.skip 17 true 216 _ rfl rfl rfl rfl) rfl rfl (by kernel_rfl) ?_
 refine D.sq 21 [] hQ hS rfl (.skip 17 true 216 _ rfl rfl rfl rfl) rfl rfl (by kernel_rfl) ?_
 refine D.sq 22 [] hQ hS rfl (.skip 17 true 216 _ rfl rfl rfl rfl) rfl rfl (by kernel_rfl) ?_
 refine D.sq 23 [] hQ hS rfl (.skip 17 true 216 _ rfl rfl rfl rfl) rfl rfl (by kernel_rfl) ?_
 refine D.sq 24 [] hQ hS rfl (.skip 17 true 216 _ rfl rfl rfl rfl) rfl rfl (by kernel_rfl) ?_
 refine D.q 25 [] hQ hS rfl (.none rfl) rfl rfl (by exact Rd.pk' rfl rfl rfl rfl) rfl (by kernel_rfl) ?_
 refine D.ps 1 [(26, [])] rfl hQ hS T rfl rfl (by kernel_rfl) ?_
 refine D.sq 27 [] hQ hS rfl (.skip 26 true 225 _ rfl rfl rfl rfl) rfl rfl (by kernel_rfl) ?_
 refine D.sq 28 [] hQ hS rfl (.skip 26 true 225 _ rfl rfl rfl rfl) rfl rfl (by kernel_rfl) ?_
 refine D.sq 29 [] hQ hS rfl (.skip 26 true 225 _ rfl rfl rfl rfl) rfl rfl (by kernel_rfl) ?_
 refine D.sq 30 [] hQ hS rfl (.skip 26 true 225 _ rfl rfl rfl rfl) rfl rfl (by kernel_rfl) ?_
 refine D.sq 31 [] hQ hS rfl (.und 30 false 229 rfl rfl rfl) rfl rfl (by kernel_rfl) ?_
 refine D.sq 32 [] hQ hS rfl (.und 30 false 229 rfl rfl rfl) rfl rfl (by kernel_rfl) ?_
 refine D.sq 33 [] hQ hS rfl (.und 30 false 229 rfl rfl rfl) rfl rfl (by kernel_rfl) ?_
 refine D.sq 34 [] hQ hS rfl (.und 30 false 229 rfl rfl rfl) rfl rfl (by kernel_rfl) ?_
 refine D.sq 35 [] hQ hS rfl (.und 30 false 229 rfl rfl rfl) rfl rfl (by kernel_rfl) ?_
 refine D.sq 36 [] hQ hS rfl (.und 30 false 229 rfl rfl rfl) rfl rfl (by kernel_rfl) ?_
 refine D.sq 37 [] hQ hS rfl (.und 30 false 229 rfl rfl rfl) rfl rfl (by kernel_rfl) ?_
 refine D.sq 38 [] hQ hS rfl (.und 30 false 229 rfl rfl rfl) rfl rfl (by kernel_rfl) ?_
 refine D.sq 39 [] hQ hS rfl (.skip 26 true 225 _ rfl rfl rfl rfl) rfl rfl (by kernel_rfl) ?_
 refine D.q 40 [] hQ hS rfl (.none rfl) rfl rfl (by exact Rd.pk' rfl rfl rfl rfl) rfl (by kernel_rfl) ?_
 refine D.ps 1 [(41, [])] rfl hQ hS T rfl rfl (by kernel_rfl) ?_
 refine D.done (by kernel_rfl) ?_
 exact St.wk (hJ102 _ hm) (Wk.e)
 refine D.sq 5 [] hQ hS rfl (.skip 4 true 203 _ hb104 rfl rfl rfl) rfl rfl (by kernel_rfl) ?_
 refine D.sq 6 [] hQ hS rfl (.skip 4 true 203 _ hb104 rfl rfl rfl) rfl rfl (by kernel_rfl) ?_
 refine D.sq 7 [] hQ hS rfl (.skip 4 true 203 _ hb104 rfl rfl rfl) rfl rfl (by kernel_rfl) ?_
 refine D.sq 8 [] hQ hS rfl (.skip 4 true 203 _ hb104 rfl rfl rfl) rfl rfl (by kernel_rfl) ?_
 refine D.q 9 [] hQ hS rfl (.none rfl) rfl rfl (by exact Rd.pk' rfl rfl hb104 rfl) rfl (by kernel_rfl) ?_
 refine D.ps 1 [(10, [])] rfl hQ hS T rfl rfl (by kernel_rfl) ?_
 refine D.sq 11 [] hQ hS rfl (.skip 10 true 209 _ rfl rfl rfl rfl) rfl rfl (by kernel_rfl) ?_
 refine D.sq 12 [] hQ hS rfl (.skip 10 true 209 _ rfl rfl rfl rfl) rfl rfl (by kernel_rfl) ?_
 refine D.sq 13 [] hQ hS rfl (.skip 10 true 209 _ rfl rfl rfl rfl) rfl rfl (by kernel_rfl) ?_
 refine D.sq 14 [] hQ hS rfl (.skip 10 true 209 _ rfl rfl rfl rfl) rfl rfl (by kernel_rfl) ?_
 refine D.sq 15 [] hQ hS rfl (.skip 10 true 209 _ rfl rfl rfl rfl) rfl rfl (by kernel_rfl) ?_
 refine D.q 16 [] hQ hS rfl (.none rfl) rfl rfl (by exact Rd.pk' rfl rfl rfl rfl) rfl (by kernel_rfl) ?_
 refine D.ps 1 [(17, [])] rfl hQ hS T rfl rfl (by kernel_rfl) ?_
 refine D.sq 18 [] hQ hS rfl (.skip 17 true 216 _ rfl rfl rfl rfl) rfl rfl (by kernel_rfl) ?_
 refine D.sq 19 [] hQ hS rfl (.skip 17 true 216 _ rfl rfl rfl rfl) rfl rfl (by kernel_rfl) ?_
 refine D.sq 20 [] hQ hS rfl (.skip 17 true 216 _ rfl rfl rfl rfl) rfl rfl (by kernel_rfl) ?_
 refine D.sq 21 [] hQ hS rfl (.skip 17 true 216 _ rfl rfl rfl rfl) rfl rfl (by kernel_rfl) ?_
 refine D.sq 22 [] hQ hS rfl (.skip 17 true 216 _ rfl rfl rfl rfl) rfl rfl (by kernel_rfl) ?_
 refine D.sq 23 [] hQ hS rfl (.skip 17 true 216 _ rfl rfl rfl rfl) rfl rfl (by kernel_rfl) ?_
 refine D.sq 24 [] hQ hS rfl (.skip 17 true 216 _ rfl rfl rfl rfl) rfl rfl (by kernel_rfl) ?_
 refine D.q 25 [] hQ hS rfl (.none rfl) rfl rfl (by exact Rd.pk' rfl rfl rfl rfl) rfl (by kernel_rfl) ?_
 refine D.ps 1 [(26, [])] rfl hQ hS T rfl rfl (by kernel_rfl) ?_
 refine D.sq 27 [] hQ hS rfl (.skip 26 true 225 _ rfl rfl rfl rfl) rfl rfl (by kernel_rfl) ?_
 refine D.sq 28 [] hQ hS rfl (.skip 26 true 225 _ rfl rfl rfl rfl) rfl rfl (by kernel_rfl) ?_
 refine D.sq 29 [] hQ hS rfl (.skip 26 true 225 _ rfl rfl rfl rfl) rfl rfl (by kernel_rfl) ?_
 refine D.sq 30 [] hQ hS rfl (.skip 26 true 225 _ rfl rfl rfl rfl) rfl rfl (by kernel_rfl) ?_
 refine D.sq 31 [] hQ hS rfl (.und 30 false 229 rfl rfl rfl) rfl rfl (by kernel_rfl) ?_
 refine D.sq 32 [] hQ hS rfl (.und 30 false 229 rfl rfl rfl) rfl rfl (by kernel_rfl) ?_
 refine D.sq 33 [] hQ hS rfl (.und 30 false 229 rfl rfl rfl) rfl rfl (by kernel_rfl) ?_
 refine D.sq 34 [] hQ hS rfl (.und 30 false 229 rfl rfl rfl) rfl rfl (by kernel_rfl) ?_
 refine D.sq 35 [] hQ hS rfl (.und 30 false 229 rfl rfl rfl) rfl rfl (by kernel_rfl) ?_
 refine D.sq 36 [] hQ hS rfl (.und 30 false 229 rfl rfl rfl) rfl rfl (by kernel_rfl) ?_
 refine D.sq 37 [] hQ hS rfl (.und 30 false 229 rfl rfl rfl) rfl rfl (by kernel_rfl) ?_
 refine D.sq 38 [] hQ hS rfl (.und 30 false 229 rfl rfl rfl) rfl rfl (by kernel_rfl) ?_
 refine D.sq 39 [] hQ hS rfl (.skip 26 true 225 _ rfl rfl rfl rfl) rfl rfl (by kernel_rfl) ?_
 refine D.q 40 [] hQ hS rfl (.none rfl) rfl rfl (by exact Rd.pk' rfl rfl rfl rfl) rfl (by kernel_rfl) ?_
 refine D.ps 1 [(41, [])] rfl hQ hS T rfl rfl (by kernel_rfl) ?_
 refine D.done (by kernel_rfl) ?_
 exact St.wk (hJ102 _ hm) (Wk.e)
 refine D.sq 2 [] hQ hS rfl (.skip 1 true 200 _ hb103 rfl rfl rfl) rfl rfl (by kernel_rfl) ?_
 refine D.q 3 [] hQ hS rfl (.none rfl) rfl rfl (by exact Rd.pk' rfl rfl hb103 rfl) rfl (by kernel_rfl) ?_
 refine D.ps 1 [(4, [])] rfl hQ hS T rfl rfl (by kernel_rfl) ?_
 refine D.sq 5 [] hQ hS rfl (.skip 4 true 203 _ rfl rfl rfl rfl) rfl rfl (by kernel_rfl) ?_
 refine D.sq 6 [] hQ hS rfl (.skip 4 true 203 _ rfl rfl rfl rfl) rfl rfl (by kernel_rfl) ?_
 refine D.sq 7 [] hQ hS rfl (.skip 4 true 203 _ rfl rfl rfl rfl) rfl rfl (by kernel_rfl) ?_
 refine D.sq 8 [] hQ hS rfl (.skip 4 true 203 _ rfl rfl rfl rfl) rfl rfl (by kernel_rfl) ?_
 refine D.q 9 [] hQ hS rfl (.none rfl) rfl rfl (by exact Rd.pk' rfl rfl rfl rfl) rfl (by kernel_rfl) ?_
 refine D.ps 1 [(10, [])] rfl hQ hS T rfl rfl (by kernel_rfl) ?_
 refine D.sq 11 [] hQ hS rfl (.skip 10 true 209 _ rfl rfl rfl rfl) rfl rfl (by kernel_rfl) ?_
 refine D.sq 12 [] hQ hS rfl (.skip 10 true 209 _ rfl rfl rfl rfl) rfl rfl (by kernel_rfl) ?_
 refine D.sq 13 [] hQ hS rfl (.skip 10 true 209 _ rfl rfl rfl rfl) rfl rfl (by kernel_rfl) ?_
 refine D.sq 14 [] hQ hS rfl (.skip 10 true 209 _ rfl rfl rfl rfl) rfl rfl (by kernel_rfl) ?_
 refine D.sq 15 [] hQ hS rfl (.skip 10 true 209 _ rfl rfl rfl rfl) rfl rfl (by kernel_rfl) ?_
 refine D.q 16 [] hQ hS rfl (.none rfl) rfl rfl (by exact Rd.pk' rfl rfl rfl rfl) rfl (by kernel_rfl) ?_
 refine D.ps 1 [(17, [])] rfl hQ hS T rfl rfl (by kernel_rfl) ?_
 refine D.sq 18 [] hQ hS rfl (.skip 17 true 216 _ rfl rfl rfl rfl) rfl rfl (by kernel_rfl) ?_
 refine D.sq 19 [] hQ hS rfl (.skip 17 true 216 _ rfl rfl rfl rfl) rfl rfl (by kernel_rfl) ?_
 refine D.sq 20 [] hQ hS rfl (.skip 17 true 216 _ rfl rfl rfl rfl) rfl rfl (by kernel_rfl) ?_
 refine D.sq 21 [] hQ hS rfl (.skip 17 true 216 _ rfl rfl rfl rfl) rfl rfl (by kernel_rfl) ?_
 refine D.sq 22 [] hQ hS rfl (.skip 17 true 216 _ rfl rfl rfl rfl) rfl rfl (by kernel_rfl) ?_
 refine D.sq 23 [] hQ hS rfl (.skip 17 true 216 _ rfl rfl rfl rfl) rfl rfl (by kernel_rfl) ?_
 refine D.sq 24 [] hQ hS rfl (.skip 17 true 216 _ rfl rfl rfl rfl) rfl rfl (by kernel_rfl) ?_
 refine D.q 25 [] hQ hS rfl (.none rfl) rfl rfl (by exact Rd.pk' rfl rfl rfl rfl) rfl (by kernel_rfl) ?_
 refine D.ps 1 [(26, [])] rfl hQ hS T rfl rfl (by kernel_rfl) ?_
 refine D.sq 27 [] hQ hS rfl (.skip 26 true 225 _ rfl rfl rfl rfl) rfl rfl (by kernel_rfl) ?_
 refine D.sq 28 [] hQ hS rfl (.skip 26 true 225 _ rfl rfl rfl rfl) rfl rfl (by kernel_rfl) ?_
 refine D.sq 29 [] hQ hS rfl (.skip 26 true 225 _ rfl rfl rfl rfl) rfl rfl (by kernel_rfl) ?_
 refine D.sq 30 [] hQ hS rfl (.skip 26 true 225 _ rfl rfl rfl rfl) rfl rfl (by kernel_rfl) ?_
 refine D.sq 31 [] hQ hS rfl (.und 30 false 229 rfl rfl rfl) rfl rfl (by kernel_rfl) ?_
 refine D.sq 32 [] hQ hS rfl (.und 30 false 229 rfl rfl rfl) rfl rfl (by kernel_rfl) ?_
 refine D.sq 33 [] hQ hS rfl (.und 30 false 229 rfl rfl rfl) rfl rfl (by kernel_rfl) ?_
 refine D.sq 34 [] hQ hS rfl (.und 30 false 229 rfl rfl rfl) rfl rfl (by kernel_rfl) ?_
 refine D.sq 35 [] hQ hS rfl (.und 30 false 229 rfl rfl rfl) rfl rfl (by kernel_rfl) ?_
 refine D.sq 36 [] hQ hS rfl (.und 30 false 229 rfl rfl rfl) rfl rfl (by kernel_rfl) ?_
 refine D.sq 37 [] hQ hS rfl (.und 30 false 229 rfl rfl rfl) rfl rfl (by kernel_rfl) ?_
 refine D.sq 38 [] hQ hS rfl (.und 30 false 229 rfl rfl rfl) rfl rfl (by kernel_rfl) ?_
 refine D.sq 39 [] hQ hS rfl (.skip 26 true 225 _ rfl rfl rfl rfl) rfl rfl (by kernel_rfl) ?_
 refine D.q 40 [] hQ hS rfl (.none rfl) rfl rfl (by exact Rd.pk' rfl rfl rfl rfl) rfl (by kernel_rfl) ?_
 refine D.ps 1 [(41, [])] rfl hQ hS T rfl rfl (by kernel_rfl) ?_
 refine D.done (by kernel_rfl) ?_
 exact St.wk (hJ102 _ hm) (Wk.e)
 refine U.start ?_
 refine U.ps 3 T rfl ?_
 refine hm.cs (fun hb74 hm => ?_) (fun hb74 hm => ?_)
 refine U.sks 2 2 false 153 hb74 rfl rfl rfl ?_
 refine U.r rfl (.none rfl) rfl rfl (by exact Rd.pk rfl rfl hb74 rfl) ?_
 refine U.done ?_
 exact St.wk (hJ73 _ hm) (Wk.f [some 0, some 1, some 2, some 3, some 4, some 5, some 6, some 7, some 8, some 9] ⟨bX, bX, bX, vL, vL, vL, vL, vL, bX, bX, trivial⟩)
 refine U.pg 2 2 false 153 hb74 T rfl rfl rfl rfl ?_
 refine U.r rfl (.none rfl) rfl rfl (by exact Rd.pk' rfl rfl hb74 rfl) ?_
 refine U.done ?_
 exact St.wk (hJ73 _ hm) (Wk.f [some 0, some 1, some 2, some 3, some 4, some 5, some 6, some 7, some 8, some 9] ⟨bX, bX, bX, vL, vL, vL, vL, vL, bX, bX, trivial⟩)
 refine U.start ?_
 refine U.ps 3 T rfl ?_
 refine hm.cs (fun hb65 hm => ?_) (fun hb65 hm => ?_)
 refine U.pg 4 2 true 136 hb65 T rfl rfl rfl rfl ?_
 refine U.r rfl (.none rfl) rfl rfl (by exact Rd.pk rfl rfl hb65 rfl) ?_
 refine U.ps 1 T rfl ?_
 refine hm.cs (fun hb66 hm => ?_) (fun hb66 hm => ?_)
 refine U.sks 3 8 false 142 hb66 rfl rfl rfl ?_
 refine U.sku 3 11 true 145 rfl rfl rfl ?_
 refine U.sks 1 8 false 142 hb66 rfl rfl rfl ?_
 refine U.r rfl (.none rfl) rfl rfl (by exact Rd.pk rfl rfl hb66 rfl) ?_
 refine U.done ?_
 exact St.wk (hJ64 _ hm) (Wk.f [some 0, some 1, some 2, some 3, some 4, some 5, some 6, some 7, some 8, some 9] ⟨bX, bX, bX, vL, vL, vL, vL, vL, bX, bX, trivial⟩)
 refine U.pg 3 8 false 142 hb66 T rfl rfl rfl rfl ?_
 refine hm.cs (fun hb67 hm => ?_) (fun hb67 hm => ?_)
 refine U.pg 3 11 true 145 hb67 T rfl rfl rfl rfl ?_
 refine U.r rfl (.take 8 false 142 _ hb66 rfl rfl rfl) rfl rfl (by exact Rd.pk rfl rfl hb67 rfl) ?_
 refine U.r rfl (.none rfl) rfl rfl (by exact Rd.pk' rfl rfl hb66 rfl) ?_
 refine U.done ?_
 exact St.wk (hJ64 _ hm) (Wk.f [some 0, some 1, some 2, some 3, some 4, some 5, some 6, some 7, some 8, some 9] ⟨bX, bX, bX, vL, vL, vL, vL, vL, bX, bX, trivial⟩)
 refine U.sks 3 11 true 145 hb67 rfl rfl rfl ?_
 refine U.r rfl (.take 8 false 142 _ hb66 rfl rfl rfl) rfl rfl (by exact Rd.pk' rfl rfl hb67 rfl) ?_
 refine U.r rfl (.none rfl) rfl rfl (by exact Rd.pk' rfl rfl hb66 rfl) ?_
 refine U.done ?_
 exact St.wk (hJ64 _ hm) (Wk.f [some 0, some 1, some 2, some 3, some 4, some 5, some 6, some 7, some 8, some 9] ⟨bX, bX, bX, vL, vL, vL, vL, vL, bX, bX, trivial⟩)
 refine U.sks 4 2 true 136 hb65 rfl rfl rfl ?_
 refine U.r rfl (.none rfl) rfl rfl (by exact Rd.pk' rfl rfl hb65 rfl) ?_
 refine U.ps 1 T rfl ?_
 refine U.pg 3 8 false 142 rfl T rfl rfl rfl rfl ?_
 refine hm.cs (fun hb68 hm => ?_) (fun hb68 hm => ?_)
 refine U.pg 3 11 true 145 hb68 T rfl rfl rfl rfl ?_
 refine U.r rfl (.take 8 false 142 _ rfl rfl rfl rfl) rfl rfl (by exact Rd.pk rfl rfl hb68 rfl) ?_
 refine U.r rfl (.none rfl) rfl rfl (by exact Rd.pk' rfl rfl rfl rfl) ?_
 refine U.done ?_
 exact St.wk (hJ64 _ hm) (Wk.f [some 0, some 1, some 2, some 3, some 4, some 5, some 6, some 7, some 8, some 9] ⟨bX, bX, bX, vL, vL, vL, vL, vL, bX, bX, trivial⟩)
 refine U.sks 3 11 true 145 hb68 rfl rfl rfl ?_
 refine U.r rfl (.take 8 false 142 _ rfl rfl rfl rfl) rfl rfl (by exact Rd.pk' rfl rfl hb68 rfl) ?_
 refine U.r rfl (.none rfl) rfl rfl (by exact Rd.pk' rfl rfl rfl rfl) ?_
 refine U.done ?_
 exact St.wk (hJ64 _ hm) (Wk.f [some 0, some 1, some 2, some 3, some 4, some 5, some 6, some 7, some 8, some 9] ⟨bX, bX, bX, vL, vL, vL, vL, vL, bX, bX, trivial⟩)
 refine U.start ?_
 refine U.ps 2 T rfl ?_
 refine U.e rfl (.none rfl) (by exact Eff.k (T_body_Same ({ Tick := x33.Tick, Shelves := x39, Robots := (x33.Robots.set (Int.toNat robot) x27), People := x33.People, Dead := x33.Dead, Stuck := x33.Stuck : ApiState }) st _ hm) en27 rfl rfl rfl (.cons (.agg (.cons (.eq rfl) (.cons (.fz rfl rfl rfl (.os fun _ => .cons (.ro rfl) .nil)) (.cons (.fz rfl rfl rfl (.os fun _ => .cons (.ro rfl) (.cons (.ro rfl) (.cons (.ro rfl) (.cons (.ro rfl) (.cons (.ro rfl) (.cons (.ro rfl) .nil))))))) (.cons (.fz rfl rfl rfl (.os fun _ => .cons (.ro rfl) .nil)) (.cons (.fz rfl rfl rfl (.os fun _ => .cons (.ro rfl) .nil)) (.cons (.fz rfl rfl rfl (.os fun _ => .cons (.ro rfl) (.cons (.ro rfl) .nil))) .nil))))))) (.eq rfl)) (fun _ _ => ⟨(.v _), trivial⟩)) (fun x48' hm => ?_)
 obtain ⟨x48⟩ := x48'
 refine U.ps 2 T rfl ?_
 refine hm.cs (fun hb49 hm => ?_) (fun hb49 hm => ?_)
 refine U.pg 5 4 false 100 (ntF hb49) T rfl rfl rfl rfl ?_
 refine U.r rfl (.none rfl) rfl rfl (by exact Rd.pk' rfl rfl (ntF hb49) rfl) ?_
 refine U.ps 1 T rfl ?_
 refine hm.cs (fun hb50 hm => ?_) (fun hb50 hm => ?_)
 refine U.pg 5 11 false 107 (ntF hb50) T rfl rfl rfl rfl ?_
 refine U.r rfl (.none rfl) rfl rfl (by exact Rd.pk' rfl rfl (ntF hb50) rfl) ?_
 refine U.done ?_
 exact St.wk (hJ47 _ hm) (Wk.f [some 0, some 1, some 2, some 3, some 4, some 5, some 6, some 7, some 8, some 9] ⟨bX, bX, bX, vL, vL, vL, vL, vL, bX, bX, trivial⟩)
 refine U.sks 5 11 false 107 (ntT hb50) rfl rfl rfl ?_
 refine U.r rfl (.none rfl) rfl rfl (by exact Rd.pk rfl rfl (ntT hb50) rfl) ?_
 refine U.done ?_
 exact St.wk (hJ47 _ hm) (Wk.f [some 0, some 1, some 2, some 3, some 4, some 5, some 6, some 7, some 8, some 9] ⟨bX, bX, bX, vL, vL, vL, vL, vL, bX, bX, trivial⟩)
 refine U.sks 5 4 false 100 (ntT hb49) rfl rfl rfl ?_
 refine U.r rfl (.none rfl) rfl rfl (by exact Rd.pk rfl rfl (ntT hb49) rfl) ?_
 refine U.ps 1 T rfl ?_
 refine U.sks 5 11 false 107 rfl rfl rfl rfl ?_
 refine U.r rfl (.none rfl) rfl rfl (by exact Rd.pk rfl rfl rfl rfl) ?_
 refine U.done ?_
 exact St.wk (hJ47 _ hm) (Wk.f [some 0, some 1, some 2, some 3, some 4, some 5, some 6, some 7, some 8, some 9] ⟨bX, bX, bX, vL, vL, vL, vL, vL, bX, bX, trivial⟩)
 refine C.ite rfl hm (fun hb41 hm => ?_) (fun hb41 hm => ?_)
 refine D.beg 11 [1, 8, 15] [] mix rfl rfl (by kernel_rfl) (by repeat (first | exact NoPanicQ.body | exact NoPanicQ.rnd | refine NoPanicQ.th ?_ | refine NoPanicQ.blk ?_)) (fun hQ hS ws M' => ?_)
 refine D.ps 8 [(0, []), (1, []), (2, []), (3, []), (4, []), (5, []), (6, []), (7, [])] rfl hQ hS T rfl rfl (by kernel_rfl) ?_
 obtain ⟨x44, hx44, hm⟩ := hm
 refine D.q 8 [] hQ hS rfl (.none rfl) rfl rfl (by exact Rd.ix T rfl rfl rfl rfl rfl rfl hx44) rfl (by kernel_rfl) ?_
 refine D.ps 1 [(9, [])] rfl hQ hS T rfl rfl (by kernel_rfl) ?_
 obtain ⟨x45, hx45, hm⟩ := hm
 refine D.q 10 [] hQ hS rfl (.none rfl) rfl rfl (by exact Rd.io T rfl rfl rfl rfl rfl rfl rfl hx45) rfl (by kernel_rfl) ?_
 refine D.ze1 rfl (.none rfl) (by exact Eff1.se T (z' := x44) rfl rfl rfl (idx_some hx45).2.2 rfl rfl rfl rfl rfl rfl rfl rfl (fun _ => rfl) rfl) (by kernel_rfl) (by kernel_rfl) ?_
 exact St.wk (hJ40 _ hm) (Wk.f [some 0, some 1, some 2, some 3, some 4, some 5, some 6, some 7, some 8, some 9, some 15, some 10, some 11, some 12, some 13, some 14] ⟨bX, bX, bX, vL, vL, vL, vL, vL, bX, bX, bX, vL, vL, vL, vL, vL, trivial⟩)
 refine C.skip ?_
 exact St.wk (hJ40 _ hm) (Wk.f [some 0, some 1, some 2, some 3, some 4, some 5, some 6, some 7, some 8, some 9, some 15, some 10, some 11, some 12, some 13, some 14] ⟨bX, bX, bX, vL, vL, vL, vL, vL, bX, bX, bX, vL, vL, vL, vL, vL, trivial⟩)
 refine U.start ?_
 refine U.ps 8 T rfl ?_
 refine hm.cs (fun hb19 hm => ?_) (fun hb19 hm => ?_)
 refine U.sks 7 7 false 45 hb19 rfl rfl rfl ?_
 refine U.r rfl (.none rfl) rfl rfl (by exact Rd.pk rfl rfl hb19 rfl) ?_
 refine U.ps 1 T rfl ?_
 refine U.sks 2 16 false 54 rfl rfl rfl rfl ?_
 refine U.r rfl (.none rfl) rfl rfl (by exact Rd.pk rfl rfl rfl rfl) ?_
 refine U.ps 1 T rfl ?_
 refine U.sks 5 20 false 58 rfl rfl rfl rfl ?_
 refine U.r rfl (.none rfl) rfl rfl (by exact Rd.pk rfl rfl rfl rfl) ?_
 refine U.done ?_
 exact St.wk (hJ18 _ hm) (Wk.f [some 0, some 1, some 7, some 2, some 3, some 4, some 5, some 6] ⟨bX, bX, bX, vL, vL, vL, vL, vL, trivial⟩)
 refine U.pg 7 7 false 45 hb19 T rfl rfl rfl rfl ?_
 refine U.r rfl (.none rfl) rfl rfl (by exact Rd.pk' rfl rfl hb19 rfl) ?_
 refine U.ps 1 T rfl ?_
 refine hm.cs (fun hb20 hm => ?_) (fun hb20 hm => ?_)
 refine U.sks 2 16 false 54 hb20 rfl rfl rfl ?_
 refine U.r rfl (.none rfl) rfl rfl (by exact Rd.pk rfl rfl hb20 rfl) ?_
 refine U.ps 1 T rfl ?_
 refine U.sks 5 20 false 58 rfl rfl rfl rfl ?_
 refine U.r rfl (.none rfl) rfl rfl (by exact Rd.pk rfl rfl rfl rfl) ?_
 refine U.done ?_
 exact St.wk (hJ18 _ hm) (Wk.f [some 0, some 1, some 7, some 2, some 3, some 4, some 5, some 6] ⟨bX, bX, bX, vL, vL, vL, vL, vL, trivial⟩)
 refine U.pg 2 16 false 54 hb20 T rfl rfl rfl rfl ?_
 refine U.r rfl (.none rfl) rfl rfl (by exact Rd.pk' rfl rfl hb20 rfl) ?_
 refine U.ps 1 T rfl ?_
 refine hm.cs (fun hb21 hm => ?_) (fun hb21 hm => ?_)
 refine U.sks 5 20 false 58 hb21 rfl rfl rfl ?_
 refine U.r rfl (.none rfl) rfl rfl (by exact Rd.pk rfl rfl hb21 rfl) ?_
 refine U.done ?_
 exact St.wk (hJ18 _ hm) (Wk.f [some 0, some 1, some 7, some 2, some 3, some 4, some 5, some 6] ⟨bX, bX, bX, vL, vL, vL, vL, vL, trivial⟩)
 refine U.pg 5 20 false 58 hb21 T rfl rfl rfl rfl ?_
 refine U.r rfl (.none rfl) rfl rfl (by exact Rd.pk' rfl rfl hb21 rfl) ?_
 refine U.done ?_
 exact St.wk (hJ18 _ hm) (Wk.f [some 0, some 1, some 7, some 2, some 3, some 4, some 5, some 6] ⟨bX, bX, bX, vL, vL, vL, vL, vL, trivial⟩)
 refine U.start ?_
 refine U.ps 2 T rfl ?_
 refine U.e rfl (.none rfl) (by exact Eff.k (T_taquinlaw15_fair s_1 st _ hm) en9 rfl rfl rfl (.eq rfl) (fun _ _ => ⟨(.v _), trivial⟩)) (fun x8' hm => ?_)
 obtain ⟨x8⟩ := x8'
 refine U.ps 2 T rfl ?_
 refine hm.cs (fun hb9 hm => ?_) (fun hb9 hm => ?_)
 refine U.pg 4 4 false 24 (ntF hb9) T rfl rfl rfl rfl ?_
 refine U.e rfl (.take 4 false 24 _ (ntF hb9) rfl rfl rfl) (by exact Eff.k (T_act_Legal s_1 st robot a _ hm) en10 rfl rfl rfl (.eq rfl) (fun _ _ => ⟨(.v _), trivial⟩)) (fun x10' hm => ?_)
 obtain ⟨x10⟩ := x10'
 refine U.pg 1 4 false 24 (ntF hb9) T rfl rfl rfl rfl ?_
 refine U.r rfl (.none rfl) rfl rfl (by exact Rd.pk' rfl rfl (ntF hb9) rfl) ?_
 refine U.done ?_
 exact St.wk (hJ7 _ hm) (Wk.f [some 0, some 1] ⟨bX, bX, trivial⟩)
 refine U.sks 6 4 false 24 (ntT hb9) rfl rfl rfl ?_
 refine U.r rfl (.none rfl) rfl rfl (by exact Rd.pk rfl rfl (ntT hb9) rfl) ?_
 refine U.done ?_
 exact St.wk (hJ7 _ hm) (Wk.f [some 0, some 1] ⟨bX, bX, trivial⟩)
end Go.Proofs.YtenbhocpjlmimaaGreat
