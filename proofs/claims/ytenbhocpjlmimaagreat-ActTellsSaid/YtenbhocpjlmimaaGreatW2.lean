/- The walks: each Go function does what its verification condition says (written by a program of the prover). -/
import Derived.Test.YtenbhocpjlmimaaGreatW1
import Derived.KernelRfl
set_option maxRecDepth 100000
set_option maxHeartbeats 8000000
set_option linter.unusedVariables false
set_option linter.unusedSimpArgs false
namespace Go.Proofs.YtenbhocpjlmimaaGreat
open Go Go.Taq
theorem T_taquinref13_Spend (charge : Int) (cost : Int) (post : (Int × Int) → Prop) (hm : V_taquinref13_Spend charge cost post) :
    Tr Tryz.prog 100 [.i charge, .i cost] [] 0 (fun A H' k => ∃ y, post y ∧ A = (.tup [.i y.1, .i y.2]) ∧ H' = [] ∧ k = 0) := by
 refine Tr.intro (n := 24) Tryz.func100 rfl Tryz.ntmps100 rfl (fun w0 ok F β hβ => ?_)
 unfold V_taquinref13_Spend at hm
 refine C.seq (U.start ?_)
 refine U.ps 2 T rfl ?_
 refine U.done (C.nx (C.seq (C.seq ?_)))
 refine C.jn (fun (x3 : Bool) => [(0, .i charge), (1, .i cost), (15, .b x3)]) (fun (x3 : Bool) => []) 0 hm (fun x3 hm => ?_) (fun J4 hm hJ4 => ?_)
 refine C.nx ?_
 refine C.ite rfl hm (fun hb7 hm => ?_) (fun hb7 hm => ?_)
 refine C.seq (U.start ?_)
 refine U.ps 3 T rfl ?_
 refine U.done (C.nx (C.ret (C.rt ?_)))
 exact C.f0 T (rs' := [.i ((charge, 1).1), .i ((charge, 1).2)]) hβ ⟨(charge, 1), hm, rfl, rfl, rfl⟩
 refine C.skip (C.nx (C.seq (C.seq (U.start ?_))))
 refine U.ps 3 T rfl ?_
 refine U.done (C.nx ?_)
 refine C.ite rfl hm (fun hb12 hm => ?_) (fun hb12 hm => ?_)
 refine C.seq (U.start ?_)
 refine U.ps 3 T rfl ?_
 refine U.done (C.nx (C.ret (C.rt ?_)))
 exact C.f0 T (rs' := [.i ((charge, 16).1), .i ((charge, 16).2)]) hβ ⟨(charge, 16), hm, rfl, rfl, rfl⟩
 refine C.skip (C.nx (C.seq (U.start ?_)))
 refine U.ps 5 T rfl ?_
 refine U.done (C.nx (C.ret ?_))
 exact C.f0 T (rs' := [.i ((w64 (charge - cost), 0).1), .i ((w64 (charge - cost), 0).2)]) hβ ⟨(w64 (charge - cost), 0), hm, rfl, rfl, rfl⟩
 refine U.start ?_
 refine U.ps 3 T rfl ?_
 refine hm.cs (fun hb5 hm => ?_) (fun hb5 hm => ?_)
 refine U.sks 2 2 false 8 hb5 rfl rfl rfl ?_
 refine U.r rfl (.none rfl) rfl rfl (by exact Rd.pk rfl rfl hb5 rfl) ?_
 refine U.ps 1 T rfl ?_
 refine U.sks 2 6 false 12 rfl rfl rfl rfl ?_
 refine U.r rfl (.none rfl) rfl rfl (by exact Rd.pk rfl rfl rfl rfl) ?_
 refine U.done ?_
 exact St.wk (hJ4 _ hm) (Wk.e)
 refine U.pg 2 2 false 8 hb5 T rfl rfl rfl rfl ?_
 refine U.r rfl (.none rfl) rfl rfl (by exact Rd.pk' rfl rfl hb5 rfl) ?_
 refine U.ps 1 T rfl ?_
 refine hm.cs (fun hb6 hm => ?_) (fun hb6 hm => ?_)
 refine U.sks 2 6 false 12 hb6 rfl rfl rfl ?_
 refine U.r rfl (.none rfl) rfl rfl (by exact Rd.pk rfl rfl hb6 rfl) ?_
 refine U.done ?_
 exact St.wk (hJ4 _ hm) (Wk.e)
 refine U.pg 2 6 false 12 hb6 T rfl rfl rfl rfl ?_
 refine U.r rfl (.none rfl) rfl rfl (by exact Rd.pk' rfl rfl hb6 rfl) ?_
 refine U.done ?_
 exact St.wk (hJ4 _ hm) (Wk.e)
theorem T_taquinref13_After (tick : Int) (charge : Int) (act : Int) (laden : Bool) (post : (Int × Int) → Prop) (hm : V_taquinref13_After tick charge act laden post) :
    Tr Tryz.prog 43 [.i tick, .i charge, .i act, .b laden] [] 0 (fun A H' k => ∃ y, post y ∧ A = (.tup [.i y.1, .i y.2]) ∧ H' = [] ∧ k = 0) := by
 refine Tr.intro (n := 36) Tryz.func43 rfl Tryz.ntmps43 rfl (fun w0 ok F β hβ => ?_)
 unfold V_taquinref13_After at hm
 refine C.seq (U.start ?_)
 refine U.ps 2 T rfl ?_
 refine U.done (C.nx (C.seq (C.seq ?_)))
 refine C.jn (fun (x3 : Bool) => [(0, .i tick), (1, .i charge), (2, .i act), (3, .b laden), (20, .b x3)]) (fun (x3 : Bool) => []) 0 hm (fun x3 hm => ?_) (fun J4 hm hJ4 => ?_)
 refine C.nx ?_
 refine C.ite rfl hm (fun hb8 hm => ?_) (fun hb8 hm => ?_)
 refine C.seq (U.start ?_)
 refine U.ps 3 T rfl ?_
 refine U.done (C.nx (C.ret (C.rt ?_)))
 exact C.f0 T (rs' := [.i ((charge, 1).1), .i ((charge, 1).2)]) hβ ⟨(charge, 1), hm, rfl, rfl, rfl⟩
 refine C.skip (C.nx (C.seq (C.seq (U.start ?_))))
 refine U.ps 2 T rfl ?_
 refine U.done (C.nx ?_)
 refine C.ite rfl hm (fun hb13 hm => ?_) (fun hb13 hm => ?_)
 refine C.seq (C.seq (U.start ?_))
 refine U.ps 2 T rfl ?_
 refine U.done (C.nx ?_)
 refine C.ite rfl hm (fun hb16 hm => ?_) (fun hb16 hm => ?_)
 refine C.seq (U.start ?_)
 refine U.ps 2 T rfl ?_
 refine U.done (C.nx (C.ret (C.rt (C.rt ?_))))
 exact C.f0 T (rs' := [.i ((1000000, 0).1), .i ((1000000, 0).2)]) hβ ⟨(1000000, 0), hm, rfl, rfl, rfl⟩
 refine C.skip (C.nx (C.seq (U.start ?_)))
 refine U.ps 4 T rfl ?_
 refine U.done (C.nx (C.ret (C.rt ?_)))
 exact C.f0 T (rs' := [.i ((w64 (charge + 20), 0).1), .i ((w64 (charge + 20), 0).2)]) hβ ⟨(w64 (charge + 20), 0), hm, rfl, rfl, rfl⟩
 refine C.skip (C.nx (C.seq (U.start ?_)))
 refine U.ps 4 T rfl ?_
 refine U.e rfl (.none rfl) (by exact Eff.k (T_taquinref13_Cost tick act laden _ hm) en101 rfl rfl rfl (.eq rfl) (fun _ _ => ⟨(.v _), trivial⟩)) (fun x23' hm => ?_)
 obtain ⟨x23⟩ := x23'
 refine U.e rfl (.none rfl) (by exact Eff.k (T_taquinref13_Spend charge x23 _ hm) en100 rfl rfl rfl (.eq rfl) (fun _ _ => ⟨(.tup (.cons (.v _) (.cons (.v _) .nil))), trivial⟩)) (fun x24' hm => ?_)
 obtain ⟨x24⟩ := x24'
 refine U.ps 4 T rfl ?_
 refine U.done (C.nx (C.ret ?_))
 exact C.f0 T (rs' := [.i ((x24.1, x24.2).1), .i ((x24.1, x24.2).2)]) hβ ⟨(x24.1, x24.2), hm, rfl, rfl, rfl⟩
 refine U.start ?_
 refine U.ps 3 T rfl ?_
 refine hm.cs (fun hb5 hm => ?_) (fun hb5 hm => ?_)
 refine U.sks 2 2 false 12 hb5 rfl rfl rfl ?_
 refine U.r rfl (.none rfl) rfl rfl (by exact Rd.pk rfl rfl hb5 rfl) ?_
 refine U.ps 1 T rfl ?_
 refine U.sks 3 6 false 16 rfl rfl rfl rfl ?_
 refine U.r rfl (.none rfl) rfl rfl (by exact Rd.pk rfl rfl rfl rfl) ?_
 refine U.done ?_
 exact St.wk (hJ4 _ hm) (Wk.e)
 refine U.pg 2 2 false 12 hb5 T rfl rfl rfl rfl ?_
 refine U.r rfl (.none rfl) rfl rfl (by exact Rd.pk' rfl rfl hb5 rfl) ?_
 refine U.ps 1 T rfl ?_
 refine hm.cs (fun hb6 hm => ?_) (fun hb6 hm => ?_)
 refine U.sks 3 6 false 16 hb6 rfl rfl rfl ?_
 refine U.r rfl (.none rfl) rfl rfl (by exact Rd.pk rfl rfl hb6 rfl) ?_
 refine U.done ?_
 exact St.wk (hJ4 _ hm) (Wk.e)
 refine U.pg 1 6 false 16 hb6 T rfl rfl rfl rfl ?_
 refine U.e rfl (.take 6 false 16 _ hb6 rfl rfl rfl) (by exact Eff.k (T_taquinref13_Act act _ hm) en99 rfl rfl rfl (.eq rfl) (fun _ _ => ⟨(.v _), trivial⟩)) (fun x7' hm => ?_)
 obtain ⟨x7⟩ := x7'
 refine U.pg 1 6 false 16 hb6 T rfl rfl rfl rfl ?_
 refine U.r rfl (.none rfl) rfl rfl (by exact Rd.pk' rfl rfl hb6 rfl) ?_
 refine U.done ?_
 exact St.wk (hJ4 _ hm) (Wk.e)
theorem T_taquinref12_Standing (s_1 : ApiSite) (st : ApiState) (post : (List Int) → Prop) (hm : V_taquinref12_Standing s_1 st post) :
    Tr Tryz.prog 102 [.agg (eApiSite s_1), .agg (eApiState st)] [] 0 (fun A H' k => ∃ y, post y ∧ A = (.o 0) ∧ H' = [(0, .val (.os 1 eI y))] ∧ k = 1) := by
 refine Tr.intro (n := 85) Tryz.func102 rfl Tryz.ntmps102 rfl (fun w0 ok F β hβ => ?_)
 unfold V_taquinref12_Standing at hm
 refine C.seq (U.start ?_)
 refine U.e1 rfl (.none rfl) (by exact Eff1.box rfl rfl rfl rfl rfl) ?_
 refine U.e1 rfl (.none rfl) (by exact Eff1.box rfl rfl rfl rfl rfl) ?_
 refine U.ps 1 T rfl ?_
 refine U.done (C.nx (C.seq (U.start ?_)))
 refine U.ps 4 T rfl ?_
 obtain ⟨hx5, hm⟩ := hm
 refine U.e1 rfl (.none rfl) (by exact Eff1.mk T (enc := eI) (z0 := 0) rfl rfl rfl rfl rfl rfl rfl rfl rfl rfl hx5) ?_
 refine U.ps 1 T rfl ?_
 refine U.done (C.nx (C.seq (C.seq (U.start ?_))))
 refine U.ps 1 T rfl ?_
 refine U.done (C.nx ?_)
 refine C.jn (fun (x8 : List Int) => [(2, .p 0 0), (3, .p 1 0), (5, .o 2)]) (fun (x8 : List Int) => [(0, .box (eApiSite s_1)), (1, .box (eApiState st)), (2, .val (.os 1 eI x8))]) 3 hm (fun x8 hm => ?_) (fun J9 hm hJ9 => ?_)
 refine C.nx (C.seq (U.start ?_))
 refine U.ps 3 T rfl ?_
 obtain ⟨hx22, hm⟩ := hm
 refine U.e1 rfl (.none rfl) (by exact Eff1.mk T (enc := eB) (z0 := false) rfl rfl rfl rfl rfl rfl rfl rfl rfl rfl hx22) ?_
 refine U.ps 1 T rfl ?_
 refine U.done (C.nx (C.seq (C.seq (U.start ?_))))
 refine U.ps 1 T rfl ?_
 refine U.done (C.nx ?_)
 refine C.jn (fun (x25 : List Bool) => [(2, .p 0 0), (3, .p 1 0), (5, .o 2), (7, .o 3)]) (fun (x25 : List Bool) => [(0, .box (eApiSite s_1)), (1, .box (eApiState st)), (2, .val (.os 1 eI x8)), (3, .val (.os 1 eB x25))]) 4 hm (fun x25 hm => ?_) (fun J26 hm hJ26 => ?_)
 refine C.nx (C.seq (C.seq (U.start ?_)))
 refine U.ps 5 T rfl ?_
 refine U.done (C.nx ?_)
 refine C.jn (fun (x48 : List Int) => [(5, .o 0)]) (fun (x48 : List Int) => [(0, .val (.os 1 eI x48))]) 1 hm (fun x48 hm => ?_) (fun J49 hm hJ49 => ?_)
 refine C.nx (C.seq (U.start ?_))
 refine U.ps 2 T rfl ?_
 refine U.done (C.nx (C.ret ?_))
 exact C.fin T (rs' := [.o 0]) (H' := [(0, .val (.os 1 eI x48))]) (nl' := 1) [some 0] rfl rfl (.eq rfl) ⟨vL, trivial⟩ rfl rfl rfl rfl hβ ⟨x48, hm, rfl, rfl, rfl⟩
 refine C.block ?_
 refine St.wk (C.loop (fun (s50 : List Int × Int) => [(2, .p 0 0), (3, .p 1 0), (5, .o 2), (7, .o 3), (10, .i s50.2)]) (fun (s50 : List Int × Int) => [(0, .box (eApiSite s_1)), (1, .box (eApiState st)), (2, .val (.os 1 eI s50.1)), (3, .val (.os 1 eB x25))]) hm (fun s50 Y51 hm => ?_)) (Wk.f [some 0, some 1, some 2, some 3] ⟨bX, bX, vL, vL, trivial⟩)
 refine C.seq (C.seq (U.start ?_))
 refine U.ps 2 T rfl ?_
 refine U.done (C.nx ?_)
 refine C.ite rfl hm (fun hb54 hm => ?_) (fun hb54 hm => ?_)
 refine C.skip (C.nx (C.seq (C.block (C.seq ?_))))
 refine C.jn (fun (x55 : Bool) => [(2, .p 0 0), (3, .p 1 0), (5, .o 2), (7, .o 3), (10, .i s50.2), (75, .b x55)]) (fun (x55 : Bool) => [(0, .box (eApiSite s_1)), (1, .box (eApiState st)), (2, .val (.os 1 eI s50.1)), (3, .val (.os 1 eB x25))]) 4 hm (fun x55 hm => ?_) (fun J56 hm hJ56 => ?_)
 refine C.nx ?_
 refine C.jn (fun (x61 : List Int) => [(2, .p 0 0), (3, .p 1 0), (5, .o 2), (7, .o 3), (10, .i s50.2)]) (fun (x61 : List Int) => [(0, .box (eApiSite s_1)), (1, .box (eApiState st)), (2, .val (.os 1 eI x61)), (3, .val (.os 1 eB x25))]) 4 hm (fun x61 hm => ?_) (fun J62 hm hJ62 => ?_)
 refine C.bnx (C.nx (U.start ?_))
 refine U.ps 3 T rfl ?_
 refine U.done (C.nx ?_)
 exact St.wk (C.next hm) (Wk.f [some 0, some 1, some 2, some 3] ⟨bX, bX, vL, vL, trivial⟩)
 refine C.ite rfl hm (fun hb63 hm => ?_) (fun hb63 hm => ?_)
 refine U.start ?_
 refine U.ps 4 T rfl ?_
 obtain ⟨x66, hx66, hm⟩ := hm
 refine U.r rfl (.none rfl) rfl rfl (by exact Rd.ix T rfl rfl rfl rfl rfl rfl hx66) ?_
 refine U.ps 2 T rfl ?_
 obtain ⟨x67, hx67, hm⟩ := hm
 refine U.r rfl (.none rfl) rfl rfl (by exact Rd.io T rfl rfl rfl rfl rfl rfl rfl hx67) ?_
 refine U.e1 rfl (.none rfl) (by exact Eff1.se T (z' := s50.2) rfl rfl rfl (idx_some hx67).2.2 rfl rfl rfl rfl rfl rfl rfl rfl (fun _ => rfl) rfl) ?_
 refine U.done ?_
 exact St.wk (hJ62 _ hm) (Wk.f [some 0, some 1, some 2, some 3] ⟨bX, bX, vL, vL, trivial⟩)
 refine C.skip ?_
 exact St.wk (hJ62 _ hm) (Wk.f [some 0, some 1, some 2, some 3] ⟨bX, bX, vL, vL, trivial⟩)
 refine D.beg 9999 [0, 1, 3] [] mix rfl rfl (by kernel_rfl) (by repeat (first | exact NoPanicQ.body | exact NoPanicQ.rnd | refine NoPanicQ.th ?_ | refine NoPanicQ.blk ?_)) (fun hQ hS ws M' => ?_)
 refine D.ps 2 [(0, []), (1, [])] rfl hQ hS T rfl rfl (by kernel_rfl) ?_
 obtain ⟨x57, hx57, hm⟩ := hm
 refine D.q 2 [] hQ hS rfl (.none rfl) rfl rfl (by exact Rd.io T rfl rfl rfl rfl rfl rfl rfl hx57) rfl (by kernel_rfl) ?_
 refine D.q 3 [] hQ hS rfl (.none rfl) rfl rfl (by exact Rd.le T rfl rfl rfl (idx_some hx57).2.2 rfl rfl rfl) rfl (by kernel_rfl) ?_
 refine D.ps 2 [(4, []), (5, [])] rfl hQ hS T rfl rfl (by kernel_rfl) ?_
 refine hm.cs (fun hb58 hm => ?_) (fun hb58 hm => ?_)
 refine D.sq 6 [] hQ hS rfl (.skip 5 true 66 _ (ntF hb58) rfl rfl rfl) rfl rfl (by kernel_rfl) ?_
 refine D.sq 7 [] hQ hS rfl (.skip 5 true 66 _ (ntF hb58) rfl rfl rfl) rfl rfl (by kernel_rfl) ?_
 refine D.sq 8 [] hQ hS rfl (.skip 5 true 66 _ (ntF hb58) rfl rfl rfl) rfl rfl (by kernel_rfl) ?_
 refine D.sq 9 [] hQ hS rfl (.skip 5 true 66 _ (ntF hb58) rfl rfl rfl) rfl rfl (by kernel_rfl) ?_
 refine D.sq 10 [] hQ hS rfl (.skip 5 true 66 _ (ntF hb58) rfl rfl rfl) rfl rfl (by kernel_rfl) ?_
 refine D.sq 11 [] hQ hS rfl (.skip 5 true 66 _ (ntF hb58) rfl rfl rfl) rfl rfl (by kernel_rfl) ?_
 refine D.sq 12 [] hQ hS rfl (.skip 5 true 66 _ (ntF hb58) rfl rfl rfl) rfl rfl (by kernel_rfl) ?_
 refine D.sq 13 [] hQ hS rfl (.skip 5 true 66 _ (ntF hb58) rfl rfl rfl) rfl rfl (by kernel_rfl) ?_
 refine D.q 14 [] hQ hS rfl (.none rfl) rfl rfl (by exact Rd.pk' rfl rfl (ntF hb58) rfl) rfl (by kernel_rfl) ?_
 refine D.done (by kernel_rfl) ?_
 exact St.wk (hJ56 _ hm) (Wk.f [some 0, some 1, some 2, some 3] ⟨bX, bX, vL, vL, trivial⟩)
 refine D.q 6 [] hQ hS rfl (.take 5 true 66 _ (ntT hb58) rfl rfl rfl) rfl rfl (by exact Rd.p T rfl) rfl (by kernel_rfl) ?_
 refine D.q 7 [] hQ hS rfl (.take 5 true 66 _ (ntT hb58) rfl rfl rfl) rfl rfl (by exact Rd.l T rfl rfl rfl) rfl (by kernel_rfl) ?_
 refine D.q 8 [] hQ hS rfl (.take 5 true 66 _ (ntT hb58) rfl rfl rfl) rfl rfl (by exact Rd.p T rfl) rfl (by kernel_rfl) ?_
 refine D.q 9 [] hQ hS rfl (.take 5 true 66 _ (ntT hb58) rfl rfl rfl) rfl rfl (by exact Rd.l T rfl rfl rfl) rfl (by kernel_rfl) ?_
 refine D.q 10 [] hQ hS rfl (.take 5 true 66 _ (ntT hb58) rfl rfl rfl) rfl rfl (by exact Rd.p T rfl) rfl (by kernel_rfl) ?_
 obtain ⟨x59, hx59, hm⟩ := hm
 refine D.q 11 [] hQ hS rfl (.take 5 true 66 _ (ntT hb58) rfl rfl rfl) rfl rfl (by exact Rd.ix T rfl rfl rfl rfl rfl rfl hx59) rfl (by kernel_rfl) ?_
 refine D.q 12 [] hQ hS rfl (.take 5 true 66 _ (ntT hb58) rfl rfl rfl) rfl rfl (by exact Rd.l T rfl rfl rfl) rfl (by kernel_rfl) ?_
 refine D.e 13 rfl (.take 5 true 66 _ (ntT hb58) rfl rfl rfl) (by exact Eff.k (T_taquinref07_Is s_1.Floor x59 _ hm) en82 rfl rfl rfl (.eq rfl) (fun _ _ => ⟨(.v _), trivial⟩)) (by kernel_rfl) rfl rfl (fun x60' hm => ?_)
 obtain ⟨x60⟩ := x60'
 refine D.q 14 [] hQ hS rfl (.none rfl) rfl rfl (by exact Rd.pk rfl rfl (ntT hb58) rfl) rfl (by kernel_rfl) ?_
 refine D.done (by kernel_rfl) ?_
 exact St.wk (hJ56 _ hm) (Wk.f [some 0, some 1, some 2, some 3] ⟨bX, bX, vL, vL, trivial⟩)
 refine C.exit (C.ex (C.ex (C.bex ?_)))
 exact St.wk (hJ49 _ hm) (Wk.f [some 2] ⟨vL, trivial⟩)
 refine C.block ?_
 refine St.wk (C.loop (fun (s27 : List Bool × Int) => [(2, .p 0 0), (3, .p 1 0), (5, .o 2), (7, .o 3), (8, .i s27.2)]) (fun (s27 : List Bool × Int) => [(0, .box (eApiSite s_1)), (1, .box (eApiState st)), (2, .val (.os 1 eI x8)), (3, .val (.os 1 eB s27.1))]) hm (fun s27 Y28 hm => ?_)) (Wk.f [some 0, some 1, some 2, some 3] ⟨bX, bX, vL, vL, trivial⟩)
 refine C.seq (C.seq (U.start ?_))
 refine U.ps 5 T rfl ?_
 refine U.done (C.nx ?_)
 refine C.ite rfl hm (fun hb31 hm => ?_) (fun hb31 hm => ?_)
 refine C.skip (C.nx (C.seq (C.block (C.seq (U.start ?_)))))
 refine U.ps 3 T rfl ?_
 obtain ⟨x34, hx34, hm⟩ := hm
 refine U.r rfl (.none rfl) rfl rfl (by exact Rd.ix T rfl rfl rfl rfl rfl rfl hx34) ?_
 refine U.ps 3 T rfl ?_
 refine U.done (C.nx (C.seq ?_))
 refine C.jn (fun (x35 : Bool) => [(2, .p 0 0), (3, .p 1 0), (5, .o 2), (7, .o 3), (8, .i s27.2), (9, .i x34.Load), (49, .b x35)]) (fun (x35 : Bool) => [(0, .box (eApiSite s_1)), (1, .box (eApiState st)), (2, .val (.os 1 eI x8)), (3, .val (.os 1 eB s27.1))]) 4 hm (fun x35 hm => ?_) (fun J36 hm hJ36 => ?_)
 refine C.nx ?_
 refine C.jn (fun (x38 : List Bool) => [(2, .p 0 0), (3, .p 1 0), (5, .o 2), (7, .o 3), (8, .i s27.2)]) (fun (x38 : List Bool) => [(0, .box (eApiSite s_1)), (1, .box (eApiState st)), (2, .val (.os 1 eI x8)), (3, .val (.os 1 eB x38))]) 4 hm (fun x38 hm => ?_) (fun J39 hm hJ39 => ?_)
 refine C.bnx (C.nx (U.start ?_))
 refine U.ps 3 T rfl ?_
 refine U.done (C.nx ?_)
 exact St.wk (C.next hm) (Wk.f [some 0, some 1, some 2, some 3] ⟨bX, bX, vL, vL, trivial⟩)
 refine C.ite rfl hm (fun hb40 hm => ?_) (fun hb40 hm => ?_)
 refine U.start ?_
 refine U.ps 2 T rfl ?_
 obtain ⟨x43, hx43, hm⟩ := hm
 refine U.r rfl (.none rfl) rfl rfl (by exact Rd.io T rfl rfl rfl rfl rfl rfl rfl hx43) ?_
 refine U.e1 rfl (.none rfl) (by exact Eff1.se T (z' := true) rfl rfl rfl (idx_some hx43).2.2 rfl rfl rfl rfl rfl rfl rfl rfl (fun _ => rfl) rfl) ?_
 refine U.done ?_
 exact St.wk (hJ39 _ hm) (Wk.f [some 0, some 1, some 2, some 3] ⟨bX, bX, vL, vL, trivial⟩)
 refine C.skip ?_
 exact St.wk (hJ39 _ hm) (Wk.f [some 0, some 1, some 2, some 3] ⟨bX, bX, vL, vL, trivial⟩)
 refine U.start ?_
 refine U.ps 3 T rfl ?_
 refine hm.cs (fun hb37 hm => ?_) (fun hb37 hm => ?_)
 refine U.pg 4 2 true 44 hb37 T rfl rfl rfl rfl ?_
 refine U.r rfl (.none rfl) rfl rfl (by exact Rd.pk rfl rfl hb37 rfl) ?_
 refine U.done ?_
 exact St.wk (hJ36 _ hm) (Wk.f [some 0, some 1, some 2, some 3] ⟨bX, bX, vL, vL, trivial⟩)
 refine U.sks 4 2 true 44 hb37 rfl rfl rfl ?_
 refine U.r rfl (.none rfl) rfl rfl (by exact Rd.pk' rfl rfl hb37 rfl) ?_
 refine U.done ?_
 exact St.wk (hJ36 _ hm) (Wk.f [some 0, some 1, some 2, some 3] ⟨bX, bX, vL, vL, trivial⟩)
 refine C.exit (C.ex (C.ex (C.bex ?_)))
 exact St.wk (hJ26 _ hm) (Wk.f [some 0, some 1, some 2, some 3] ⟨bX, bX, vL, vL, trivial⟩)
 refine C.block ?_
 refine St.wk (C.loop (fun (s10 : List Int × Int) => [(2, .p 0 0), (3, .p 1 0), (5, .o 2), (6, .i s10.2)]) (fun (s10 : List Int × Int) => [(0, .box (eApiSite s_1)), (1, .box (eApiState st)), (2, .val (.os 1 eI s10.1))]) hm (fun s10 Y11 hm => ?_)) (Wk.f [some 0, some 1, some 2] ⟨bX, bX, vL, trivial⟩)
 refine C.seq (C.seq (U.start ?_))
 refine U.ps 4 T rfl ?_
 refine U.done (C.nx ?_)
 refine C.ite rfl hm (fun hb14 hm => ?_) (fun hb14 hm => ?_)
 refine C.skip (C.nx (C.seq (C.block (U.start ?_))))
 refine U.ps 2 T rfl ?_
 obtain ⟨x17, hx17, hm⟩ := hm
 refine U.r rfl (.none rfl) rfl rfl (by exact Rd.io T rfl rfl rfl rfl rfl rfl rfl hx17) ?_
 refine U.e1 rfl (.none rfl) (by exact Eff1.se T (z' := (-1)) rfl rfl rfl (idx_some hx17).2.2 rfl rfl rfl rfl rfl rfl rfl rfl (fun _ => rfl) rfl) ?_
 refine U.done (C.bnx (C.nx (U.start ?_)))
 refine U.ps 3 T rfl ?_
 refine U.done (C.nx ?_)
 exact St.wk (C.next hm) (Wk.f [some 0, some 1, some 2] ⟨bX, bX, vL, trivial⟩)
 refine C.exit (C.ex (C.ex (C.bex ?_)))
 exact St.wk (hJ9 _ hm) (Wk.f [some 0, some 1, some 2] ⟨bX, bX, vL, trivial⟩)
theorem T_taquinref12_At (s_1 : ApiSite) (st : ApiState) (c : Int) (post : Int → Prop) (hm : V_taquinref12_At s_1 st c post) :
    Tr Tryz.prog 44 [.agg (eApiSite s_1), .agg (eApiState st), .i c] [] 0 (fun A H' k => ∃ y, post y ∧ A = (.i y) ∧ H' = [] ∧ k = 0) := by
 refine Tr.intro (n := 18) Tryz.func44 rfl Tryz.ntmps44 rfl (fun w0 ok F β hβ => ?_)
 unfold V_taquinref12_At at hm
 refine C.seq (U.start ?_)
 refine U.e1 rfl (.none rfl) (by exact Eff1.box rfl rfl rfl rfl rfl) ?_
 refine U.e1 rfl (.none rfl) (by exact Eff1.box rfl rfl rfl rfl rfl) ?_
 refine U.ps 1 T rfl ?_
 refine U.done (C.nx (C.seq (C.seq (U.start ?_))))
 refine U.ps 3 T rfl ?_
 refine U.e rfl (.none rfl) (by exact Eff.k (T_taquinref07_Is s_1.Floor c _ hm) en82 rfl rfl rfl (.eq rfl) (fun _ _ => ⟨(.v _), trivial⟩)) (fun x5' hm => ?_)
 obtain ⟨x5⟩ := x5'
 refine U.ps 1 T rfl ?_
 refine U.done (C.nx ?_)
 refine C.ite rfl hm (fun hb6 hm => ?_) (fun hb6 hm => ?_)
 refine C.seq (U.start ?_)
 refine U.ps 1 T rfl ?_
 refine U.done (C.nx (C.ret (C.rt ?_)))
 exact C.f0 T (rs' := [.i (-1)]) hβ ⟨(-1), hm, rfl, rfl, rfl⟩
 refine C.skip (C.nx (C.seq (U.start ?_)))
 refine U.ps 2 T rfl ?_
 refine U.e rfl (.none rfl) (by exact Eff.c [] (v := true) (T_taquinref12_Standing s_1 st _ hm) en102 rfl rfl rfl (.eq rfl) trivial rfl rfl rfl rfl rfl rfl (fun _ _ => ⟨(.o _), ⟨.val (.os _ _ _ fun _ => (.cons (.v _) .nil)), trivial⟩⟩) (.inr ⟨rfl, rfl⟩) (fun _ => rfl) (fun _ => rfl) rfl) (fun x11' hm => ?_)
 obtain ⟨x11⟩ := x11'
 refine U.ps 1 T rfl ?_
 obtain ⟨x12, hx12, hm⟩ := hm
 refine U.r rfl (.none rfl) rfl rfl (by exact Rd.io T rfl rfl rfl rfl rfl rfl rfl hx12) ?_
 refine U.r rfl (.none rfl) rfl rfl (by exact Rd.le T rfl rfl rfl (idx_some hx12).2.2 rfl rfl rfl) ?_
 refine U.ps 1 T rfl ?_
 refine U.done (C.nx (C.ret ?_))
 exact C.f0 T (rs' := [.i x12]) hβ ⟨x12, hm, rfl, rfl, rfl⟩
theorem T_taquinref12_Stands (s_1 : ApiSite) (c : Int) (post : Bool → Prop) (hm : V_taquinref12_Stands s_1 c post) :
    Tr Tryz.prog 103 [.agg (eApiSite s_1), .i c] [] 0 (fun A H' k => ∃ y, post y ∧ A = (.b y) ∧ H' = [] ∧ k = 0) := by
 refine Tr.intro (n := 26) Tryz.func103 rfl Tryz.ntmps103 rfl (fun w0 ok F β hβ => ?_)
 unfold V_taquinref12_Stands at hm
 refine C.seq (U.start ?_)
 refine U.e1 rfl (.none rfl) (by exact Eff1.box rfl rfl rfl rfl rfl) ?_
 refine U.ps 1 T rfl ?_
 refine U.done (C.nx (C.seq (C.seq (U.start ?_))))
 refine U.ps 3 T rfl ?_
 refine U.e rfl (.none rfl) (by exact Eff.k (T_taquinref07_Is s_1.Floor c _ hm) en82 rfl rfl rfl (.eq rfl) (fun _ _ => ⟨(.v _), trivial⟩)) (fun x5' hm => ?_)
 obtain ⟨x5⟩ := x5'
 refine U.ps 1 T rfl ?_
 refine U.done (C.nx ?_)
 refine C.ite rfl hm (fun hb6 hm => ?_) (fun hb6 hm => ?_)
 refine C.seq (U.start ?_)
 refine U.ps 1 T rfl ?_
 refine U.done (C.nx (C.ret (C.rt ?_)))
 exact C.f0 T (rs' := [.b false]) hβ ⟨false, hm, rfl, rfl, rfl⟩
 refine C.skip (C.nx (C.seq ?_))
 refine C.jn (fun (x9 : Bool) => [(4, .b x9)]) (fun (x9 : Bool) => []) 0 hm (fun x9 hm => ?_) (fun J10 hm hJ10 => ?_)
 refine C.nx (C.ret ?_)
 exact C.f0 T (rs' := [.b x9]) hβ ⟨x9, hm, rfl, rfl, rfl⟩
 refine U.start ?_
 refine U.ps 4 T rfl ?_
 obtain ⟨x11, hx11, hm⟩ := hm
 refine U.r rfl (.none rfl) rfl rfl (by exact Rd.ix T rfl rfl rfl rfl rfl rfl hx11) ?_
 refine U.ps 3 T rfl ?_
 refine hm.cs (fun hb12 hm => ?_) (fun hb12 hm => ?_)
 refine U.sks 7 7 false 17 hb12 rfl rfl rfl ?_
 refine U.r rfl (.none rfl) rfl rfl (by exact Rd.pk rfl rfl hb12 rfl) ?_
 refine U.ps 1 T rfl ?_
 refine U.done ?_
 exact St.wk (hJ10 _ hm) (Wk.e)
 refine U.pg 4 7 false 17 hb12 T rfl rfl rfl rfl ?_
 refine U.r rfl (.take 7 false 17 _ hb12 rfl rfl rfl) rfl rfl (by exact Rd.ix T rfl rfl rfl rfl rfl rfl hx11) ?_
 refine U.pg 2 7 false 17 hb12 T rfl rfl rfl rfl ?_
 refine U.r rfl (.none rfl) rfl rfl (by exact Rd.pk' rfl rfl hb12 rfl) ?_
 refine U.ps 1 T rfl ?_
 refine U.done ?_
 exact St.wk (hJ10 _ hm) (Wk.e)
theorem T_taquinref12_Carried (st : ApiState) (shelf : Int) (post : Int → Prop) (hm : V_taquinref12_Carried st shelf post) :
    Tr Tryz.prog 104 [.agg (eApiState st), .i shelf] [] 0 (fun A H' k => ∃ y, post y ∧ A = (.i y) ∧ H' = [] ∧ k = 0) := by
 refine Tr.intro (n := 26) Tryz.func104 rfl Tryz.ntmps104 rfl (fun w0 ok F β hβ => ?_)
 unfold V_taquinref12_Carried at hm
 refine C.seq (U.start ?_)
 refine U.e1 rfl (.none rfl) (by exact Eff1.box rfl rfl rfl rfl rfl) ?_
 refine U.ps 1 T rfl ?_
 refine U.done (C.nx (C.seq (C.seq (U.start ?_))))
 refine U.ps 1 T rfl ?_
 refine U.done (C.nx ?_)
 refine C.jn (fun (x5 : Unit) => []) (fun (x5 : Unit) => []) 0 hm (fun x5 hm => ?_) (fun J6 hm hJ6 => ?_)
 refine C.nx (C.seq (U.start ?_))
 refine U.ps 1 T rfl ?_
 refine U.done (C.nx (C.ret ?_))
 exact C.f0 T (rs' := [.i (-1)]) hβ ⟨(-1), hm, rfl, rfl, rfl⟩
 refine C.block ?_
 refine St.wk (C.loop (fun (s7 : Int) => [(1, .i shelf), (2, .p 0 0), (5, .i s7)]) (fun (s7 : Int) => [(0, .box (eApiState st))]) hm (fun s7 Y8 hm => ?_)) (Wk.f [some 0] ⟨bX, trivial⟩)
 refine C.seq (C.seq ?_)
 refine C.jn (fun (x9 : Bool) => [(1, .i shelf), (2, .p 0 0), (5, .i s7), (14, .b x9)]) (fun (x9 : Bool) => [(0, .box (eApiState st))]) 1 hm (fun x9 hm => ?_) (fun J10 hm hJ10 => ?_)
 refine C.nx ?_
 refine C.ite rfl hm (fun hb12 hm => ?_) (fun hb12 hm => ?_)
 refine C.skip (C.nx (C.seq (C.block (C.seq (U.start ?_)))))
 refine U.ps 3 T rfl ?_
 obtain ⟨x15, hx15, hm⟩ := hm
 refine U.r rfl (.none rfl) rfl rfl (by exact Rd.ix T rfl rfl rfl rfl rfl rfl hx15) ?_
 refine U.ps 4 T rfl ?_
 refine U.done (C.nx ?_)
 refine C.ite rfl hm (fun hb16 hm => ?_) (fun hb16 hm => ?_)
 refine C.seq (U.start ?_)
 refine U.ps 2 T rfl ?_
 refine U.done (C.nx (C.ret (C.brt (C.rt (C.rt (C.brt (C.rt ?_)))))))
 exact C.f0 T (rs' := [.i s7]) hβ ⟨s7, hm, rfl, rfl, rfl⟩
 refine C.skip (C.bnx (C.nx (U.start ?_)))
 refine U.ps 3 T rfl ?_
 refine U.done (C.nx ?_)
 exact St.wk (C.next hm) (Wk.f [some 0] ⟨bX, trivial⟩)
 refine C.exit (C.ex (C.ex (C.bex ?_)))
 exact St.wk (hJ6 _ hm) (Wk.mk' [] rfl rfl trivial trivial rfl)
 refine U.start ?_
 refine U.ps 6 T rfl ?_
 refine hm.cs (fun hb11 hm => ?_) (fun hb11 hm => ?_)
 refine U.pg 2 5 true 11 hb11 T rfl rfl rfl rfl ?_
 refine U.r rfl (.none rfl) rfl rfl (by exact Rd.pk rfl rfl hb11 rfl) ?_
 refine U.done ?_
 exact St.wk (hJ10 _ hm) (Wk.f [some 0] ⟨bX, trivial⟩)
 refine U.sks 2 5 true 11 hb11 rfl rfl rfl ?_
 refine U.r rfl (.none rfl) rfl rfl (by exact Rd.pk' rfl rfl hb11 rfl) ?_
 refine U.done ?_
 exact St.wk (hJ10 _ hm) (Wk.f [some 0] ⟨bX, trivial⟩)
theorem T_taquinref07_Near (f : ApiFloor) (a : Int) (b : Int) (post : Bool → Prop) (hm : V_taquinref07_Near f a b post) :
    Tr Tryz.prog 105 [.agg (eApiFloor f), .i a, .i b] [] 0 (fun A H' k => ∃ y, post y ∧ A = (.b y) ∧ H' = [] ∧ k = 0) := by
 refine Tr.intro (n := 23) Tryz.func105 rfl Tryz.ntmps105 rfl (fun w0 ok F β hβ => ?_)
 unfold V_taquinref07_Near at hm
 refine C.seq (U.start ?_)
 refine U.e1 rfl (.none rfl) (by exact Eff1.box rfl rfl rfl rfl rfl) ?_
 refine U.ps 1 T rfl ?_
 refine U.done (C.nx (C.seq (C.seq (U.start ?_))))
 refine U.ps 1 T rfl ?_
 refine U.done (C.nx ?_)
 refine C.jn (fun (x5 : Unit) => []) (fun (x5 : Unit) => []) 0 hm (fun x5 hm => ?_) (fun J6 hm hJ6 => ?_)
 refine C.nx (C.seq (U.start ?_))
 refine U.ps 1 T rfl ?_
 refine U.done (C.nx (C.ret ?_))
 exact C.f0 T (rs' := [.b false]) hβ ⟨false, hm, rfl, rfl, rfl⟩
 refine C.block ?_
 refine St.wk (C.loop (fun (s7 : Int) => [(1, .i a), (2, .i b), (3, .p 0 0), (7, .i s7)]) (fun (s7 : Int) => [(0, .box (eApiFloor f))]) hm (fun s7 Y8 hm => ?_)) (Wk.f [some 0] ⟨bX, trivial⟩)
 refine C.seq (C.seq (U.start ?_))
 refine U.ps 2 T rfl ?_
 refine U.done (C.nx ?_)
 refine C.ite rfl hm (fun hb11 hm => ?_) (fun hb11 hm => ?_)
 refine C.skip (C.nx (C.seq (C.block (C.seq ?_))))
 refine C.jn (fun (x12 : Bool) => [(1, .i a), (2, .i b), (3, .p 0 0), (7, .i s7), (22, .b x12)]) (fun (x12 : Bool) => [(0, .box (eApiFloor f))]) 1 hm (fun x12 hm => ?_) (fun J13 hm hJ13 => ?_)
 refine C.nx ?_
 refine C.ite rfl hm (fun hb17 hm => ?_) (fun hb17 hm => ?_)
 refine C.seq (U.start ?_)
 refine U.ps 1 T rfl ?_
 refine U.done (C.nx (C.ret (C.brt (C.rt (C.rt (C.brt (C.rt ?_)))))))
 exact C.f0 T (rs' := [.b true]) hβ ⟨true, hm, rfl, rfl, rfl⟩
 refine C.skip (C.bnx (C.nx (U.start ?_)))
 refine U.ps 3 T rfl ?_
 refine U.done (C.nx ?_)
 exact St.wk (C.next hm) (Wk.f [some 0] ⟨bX, trivial⟩)
 refine U.start ?_
 refine U.ps 2 T rfl ?_
 refine U.e rfl (.none rfl) (by exact Eff.k (T_taquinref07_Is f b _ hm) en82 rfl rfl rfl (.eq rfl) (fun _ _ => ⟨(.v _), trivial⟩)) (fun x14' hm => ?_)
 obtain ⟨x14⟩ := x14'
 refine U.ps 1 T rfl ?_
 refine hm.cs (fun hb15 hm => ?_) (fun hb15 hm => ?_)
 refine U.pg 3 3 true 15 hb15 T rfl rfl rfl rfl ?_
 refine U.e rfl (.take 3 true 15 _ hb15 rfl rfl rfl) (by exact Eff.k (T_taquinref07_Beside f a s7 _ hm) en138 rfl rfl rfl (.eq rfl) (fun _ _ => ⟨(.v _), trivial⟩)) (fun x16' hm => ?_)
 obtain ⟨x16⟩ := x16'
 refine U.pg 2 3 true 15 hb15 T rfl rfl rfl rfl ?_
 refine U.r rfl (.none rfl) rfl rfl (by exact Rd.pk rfl rfl hb15 rfl) ?_
 refine U.done ?_
 exact St.wk (hJ13 _ hm) (Wk.f [some 0] ⟨bX, trivial⟩)
 refine U.sks 6 3 true 15 hb15 rfl rfl rfl ?_
 refine U.r rfl (.none rfl) rfl rfl (by exact Rd.pk' rfl rfl hb15 rfl) ?_
 refine U.done ?_
 exact St.wk (hJ13 _ hm) (Wk.f [some 0] ⟨bX, trivial⟩)
 refine C.exit (C.ex (C.ex (C.bex ?_)))
 exact St.wk (hJ6 _ hm) (Wk.mk' [] rfl rfl trivial trivial rfl)
theorem T_taquinref12_Class (s_1 : ApiSite) (shelf : Int) (post : ByteArray → Prop) (hm : V_taquinref12_Class s_1 shelf post) :
    Tr Tryz.prog 107 [.agg (eApiSite s_1), .i shelf] [] 0 (fun A H' k => ∃ y, post y ∧ A = (.v (.string y)) ∧ H' = [] ∧ k = 0) := by
 refine Tr.intro (n := 20) Tryz.func107 rfl Tryz.ntmps107 rfl (fun w0 ok F β hβ => ?_)
 unfold V_taquinref12_Class at hm
 refine C.seq (U.start ?_)
 refine U.e1 rfl (.none rfl) (by exact Eff1.box rfl rfl rfl rfl rfl) ?_
 refine U.ps 1 T rfl ?_
 refine U.done (C.nx (C.seq (C.seq ?_)))
 refine C.jn (fun (x3 : Bool) => [(1, .i shelf), (2, .p 0 0), (13, .b x3)]) (fun (x3 : Bool) => [(0, .box (eApiSite s_1))]) 1 hm (fun x3 hm => ?_) (fun J4 hm hJ4 => ?_)
 refine C.nx ?_
 refine C.ite rfl hm (fun hb6 hm => ?_) (fun hb6 hm => ?_)
 refine C.seq (U.start ?_)
 refine U.ps 1 T rfl ?_
 refine U.done (C.nx (C.ret (C.rt ?_)))
 exact C.f0 T (rs' := [.v (.string ByteArray.empty)]) hβ ⟨ByteArray.empty, hm, rfl, rfl, rfl⟩
 refine C.skip (C.nx (C.seq (U.start ?_)))
 refine U.ps 3 T rfl ?_
 obtain ⟨x11, hx11, hm⟩ := hm
 refine U.r rfl (.none rfl) rfl rfl (by exact Rd.ix T rfl rfl rfl rfl rfl rfl hx11) ?_
 refine U.ps 3 T rfl ?_
 refine U.done (C.nx (C.ret ?_))
 exact C.f0 T (rs' := [.v (.string x11.Class)]) hβ ⟨x11.Class, hm, rfl, rfl, rfl⟩
 refine U.start ?_
 refine U.ps 3 T rfl ?_
 refine hm.cs (fun hb5 hm => ?_) (fun hb5 hm => ?_)
 refine U.sks 5 2 false 7 hb5 rfl rfl rfl ?_
 refine U.r rfl (.none rfl) rfl rfl (by exact Rd.pk rfl rfl hb5 rfl) ?_
 refine U.done ?_
 exact St.wk (hJ4 _ hm) (Wk.f [some 0] ⟨bX, trivial⟩)
 refine U.pg 5 2 false 7 hb5 T rfl rfl rfl rfl ?_
 refine U.r rfl (.none rfl) rfl rfl (by exact Rd.pk' rfl rfl hb5 rfl) ?_
 refine U.done ?_
 exact St.wk (hJ4 _ hm) (Wk.f [some 0] ⟨bX, trivial⟩)
theorem T_taquinref12_Never (s_1 : ApiSite) (a : ByteArray) (b : ByteArray) (post : Bool → Prop) (hm : V_taquinref12_Never s_1 a b post) :
    Tr Tryz.prog 106 [.agg (eApiSite s_1), .v (.string a), .v (.string b)] [] 0 (fun A H' k => ∃ y, post y ∧ A = (.b y) ∧ H' = [] ∧ k = 0) := by
 refine Tr.intro (n := 51) Tryz.func106 rfl Tryz.ntmps106 rfl (fun w0 ok F β hβ => ?_)
 unfold V_taquinref12_Never at hm
 refine C.seq (U.start ?_)
 refine U.e1 rfl (.none rfl) (by exact Eff1.box rfl rfl rfl rfl rfl) ?_
 refine U.ps 1 T rfl ?_
 refine U.done (C.nx (C.seq (C.seq (U.start ?_))))
 refine U.ps 1 T rfl ?_
 refine U.done (C.nx ?_)
 refine C.jn (fun (x5 : Unit) => []) (fun (x5 : Unit) => []) 0 hm (fun x5 hm => ?_) (fun J6 hm hJ6 => ?_)
 refine C.nx (C.seq (U.start ?_))
 refine U.ps 1 T rfl ?_
 refine U.done (C.nx (C.ret ?_))
 exact C.f0 T (rs' := [.b false]) hβ ⟨false, hm, rfl, rfl, rfl⟩
 refine C.block ?_
 refine St.wk (C.loop (fun (s7 : Int) => [(1, .v (.string a)), (2, .v (.string b)), (3, .p 0 0), (7, .i s7)]) (fun (s7 : Int) => [(0, .box (eApiSite s_1))]) hm (fun s7 Y8 hm => ?_)) (Wk.f [some 0] ⟨bX, trivial⟩)
 refine C.seq (C.seq ?_)
 refine C.jn (fun (x9 : Bool) => [(1, .v (.string a)), (2, .v (.string b)), (3, .p 0 0), (7, .i s7), (21, .b x9)]) (fun (x9 : Bool) => [(0, .box (eApiSite s_1))]) 1 hm (fun x9 hm => ?_) (fun J10 hm hJ10 => ?_)
 refine C.nx ?_
 refine C.ite rfl hm (fun hb13 hm => ?_) (fun hb13 hm => ?_)
 refine C.skip (C.nx (C.seq (C.block (C.seq (U.start ?_)))))
 refine U.ps 3 T rfl ?_
 obtain ⟨x16, hx16, hm⟩ := hm
 refine U.r rfl (.none rfl) rfl rfl (by exact Rd.ix T rfl rfl rfl rfl rfl rfl hx16) ?_
 refine U.ps 1 T rfl ?_
 refine U.e1 rfl (.none rfl) (by exact Eff1.al T rfl rfl rfl rfl) ?_
 refine U.e1 rfl (.none rfl) (by exact Eff1.st T rfl rfl rfl rfl rfl rfl rfl rfl rfl rfl) ?_
 refine U.done (C.nx (C.seq ?_))
 refine C.jn (fun (x17 : Bool) => [(1, .v (.string a)), (2, .v (.string b)), (3, .p 0 0), (7, .i s7), (50, .b x17)]) (fun (x17 : Bool) => [(0, .box (eApiSite s_1))]) 1 hm (fun x17 hm => ?_) (fun J18 hm hJ18 => ?_)
 refine C.nx ?_
 refine C.ite rfl hm (fun hb23 hm => ?_) (fun hb23 hm => ?_)
 refine C.seq (U.start ?_)
 refine U.ps 1 T rfl ?_
 refine U.done (C.nx (C.ret (C.brt (C.rt (C.rt (C.brt (C.rt ?_)))))))
 exact C.f0 T (rs' := [.b true]) hβ ⟨true, hm, rfl, rfl, rfl⟩
 refine C.skip (C.bnx (C.nx (U.start ?_)))
 refine U.ps 3 T rfl ?_
 refine U.done (C.nx ?_)
 exact St.wk (C.next hm) (Wk.f [some 0] ⟨bX, trivial⟩)
 refine U.start ?_
 refine U.ps 5 T rfl ?_
 refine hm.cs (fun hb19 hm => ?_) (fun hb19 hm => ?_)
 refine U.pg 4 4 true 33 hb19 T rfl rfl rfl rfl ?_
 refine U.r rfl (.none rfl) rfl rfl (by exact Rd.pk rfl rfl hb19 rfl) ?_
 refine U.ps 1 T rfl ?_
 refine hm.cs (fun hb20 hm => ?_) (fun hb20 hm => ?_)
 refine U.sks 5 10 false 39 hb20 rfl rfl rfl ?_
 refine U.sku 4 15 true 44 rfl rfl rfl ?_
 refine U.sks 1 10 false 39 hb20 rfl rfl rfl ?_
 refine U.r rfl (.none rfl) rfl rfl (by exact Rd.pk rfl rfl hb20 rfl) ?_
 refine U.done ?_
 exact St.wk (hJ18 _ hm) (Wk.f [some 0] ⟨bX, trivial⟩)
 refine U.pg 5 10 false 39 hb20 T rfl rfl rfl rfl ?_
 refine hm.cs (fun hb21 hm => ?_) (fun hb21 hm => ?_)
 refine U.pg 4 15 true 44 hb21 T rfl rfl rfl rfl ?_
 refine U.r rfl (.take 10 false 39 _ hb20 rfl rfl rfl) rfl rfl (by exact Rd.pk rfl rfl hb21 rfl) ?_
 refine U.r rfl (.none rfl) rfl rfl (by exact Rd.pk' rfl rfl hb20 rfl) ?_
 refine U.done ?_
 exact St.wk (hJ18 _ hm) (Wk.f [some 0] ⟨bX, trivial⟩)
 refine U.sks 4 15 true 44 hb21 rfl rfl rfl ?_
 refine U.r rfl (.take 10 false 39 _ hb20 rfl rfl rfl) rfl rfl (by exact Rd.pk' rfl rfl hb21 rfl) ?_
 refine U.r rfl (.none rfl) rfl rfl (by exact Rd.pk' rfl rfl hb20 rfl) ?_
 refine U.done ?_
 exact St.wk (hJ18 _ hm) (Wk.f [some 0] ⟨bX, trivial⟩)
 refine U.sks 4 4 true 33 hb19 rfl rfl rfl ?_
 refine U.r rfl (.none rfl) rfl rfl (by exact Rd.pk' rfl rfl hb19 rfl) ?_
 refine U.ps 1 T rfl ?_
 refine U.pg 5 10 false 39 rfl T rfl rfl rfl rfl ?_
 refine hm.cs (fun hb22 hm => ?_) (fun hb22 hm => ?_)
 refine U.pg 4 15 true 44 hb22 T rfl rfl rfl rfl ?_
 refine U.r rfl (.take 10 false 39 _ rfl rfl rfl rfl) rfl rfl (by exact Rd.pk rfl rfl hb22 rfl) ?_
 refine U.r rfl (.none rfl) rfl rfl (by exact Rd.pk' rfl rfl rfl rfl) ?_
 refine U.done ?_
 exact St.wk (hJ18 _ hm) (Wk.f [some 0] ⟨bX, trivial⟩)
 refine U.sks 4 15 true 44 hb22 rfl rfl rfl ?_
 refine U.r rfl (.take 10 false 39 _ rfl rfl rfl rfl) rfl rfl (by exact Rd.pk' rfl rfl hb22 rfl) ?_
 refine U.r rfl (.none rfl) rfl rfl (by exact Rd.pk' rfl rfl rfl rfl) ?_
 refine U.done ?_
 exact St.wk (hJ18 _ hm) (Wk.f [some 0] ⟨bX, trivial⟩)
 refine C.exit (C.ex (C.ex (C.bex ?_)))
 exact St.wk (hJ6 _ hm) (Wk.mk' [] rfl rfl trivial trivial rfl)
 refine U.start ?_
 refine U.ps 6 T rfl ?_
 refine hm.cs (fun hb11 hm => ?_) (fun hb11 hm => ?_)
 refine U.pg 2 5 true 14 hb11 T rfl rfl rfl rfl ?_
 refine U.r rfl (.none rfl) rfl rfl (by exact Rd.pk rfl rfl hb11 rfl) ?_
 refine U.ps 1 T rfl ?_
 refine hm.cs (fun hb12 hm => ?_) (fun hb12 hm => ?_)
 refine U.sks 2 9 true 18 (ntF hb12) rfl rfl rfl ?_
 refine U.r rfl (.none rfl) rfl rfl (by exact Rd.pk' rfl rfl (ntF hb12) rfl) ?_
 refine U.done ?_
 exact St.wk (hJ10 _ hm) (Wk.f [some 0] ⟨bX, trivial⟩)
 refine U.pg 2 9 true 18 (ntT hb12) T rfl rfl rfl rfl ?_
 refine U.r rfl (.none rfl) rfl rfl (by exact Rd.pk rfl rfl (ntT hb12) rfl) ?_
 refine U.done ?_
 exact St.wk (hJ10 _ hm) (Wk.f [some 0] ⟨bX, trivial⟩)
 refine U.sks 2 5 true 14 hb11 rfl rfl rfl ?_
 refine U.r rfl (.none rfl) rfl rfl (by exact Rd.pk' rfl rfl hb11 rfl) ?_
 refine U.ps 1 T rfl ?_
 refine U.sks 2 9 true 18 rfl rfl rfl rfl ?_
 refine U.r rfl (.none rfl) rfl rfl (by exact Rd.pk' rfl rfl rfl rfl) ?_
 refine U.done ?_
 exact St.wk (hJ10 _ hm) (Wk.f [some 0] ⟨bX, trivial⟩)
theorem T_taquinref12_Drop (s_1 : ApiSite) (st : ApiState) (shelf : Int) (c : Int) (post : Int → Prop) (hm : V_taquinref12_Drop s_1 st shelf c post) :
    Tr Tryz.prog 45 [.agg (eApiSite s_1), .agg (eApiState st), .i shelf, .i c] [] 0 (fun A H' k => ∃ y, post y ∧ A = (.i y) ∧ H' = [] ∧ k = 0) := by
 refine Tr.intro (n := 67) Tryz.func45 rfl Tryz.ntmps45 rfl (fun w0 ok F β hβ => ?_)
 unfold V_taquinref12_Drop at hm
 refine C.seq (U.start ?_)
 refine U.e1 rfl (.none rfl) (by exact Eff1.box rfl rfl rfl rfl rfl) ?_
 refine U.e1 rfl (.none rfl) (by exact Eff1.box rfl rfl rfl rfl rfl) ?_
 refine U.ps 1 T rfl ?_
 refine U.done (C.nx (C.seq (C.seq ?_)))
 refine C.jn (fun (x3 : Bool) => [(2, .i shelf), (3, .i c), (4, .p 0 0), (5, .p 1 0), (19, .b x3)]) (fun (x3 : Bool) => [(0, .box (eApiSite s_1)), (1, .box (eApiState st))]) 2 hm (fun x3 hm => ?_) (fun J4 hm hJ4 => ?_)
 refine C.nx ?_
 refine C.ite rfl hm (fun hb6 hm => ?_) (fun hb6 hm => ?_)
 refine C.seq (U.start ?_)
 refine U.ps 1 T rfl ?_
 refine U.done (C.nx (C.ret (C.rt ?_)))
 exact C.f0 T (rs' := [.i 4]) hβ ⟨4, hm, rfl, rfl, rfl⟩
 refine C.skip (C.nx (C.seq (C.seq (U.start ?_))))
 refine U.ps 2 T rfl ?_
 refine U.e rfl (.none rfl) (by exact Eff.k (T_taquinref12_Stands s_1 c _ hm) en103 rfl rfl rfl (.eq rfl) (fun _ _ => ⟨(.v _), trivial⟩)) (fun x11' hm => ?_)
 obtain ⟨x11⟩ := x11'
 refine U.ps 1 T rfl ?_
 refine U.done (C.nx ?_)
 refine C.ite rfl hm (fun hb12 hm => ?_) (fun hb12 hm => ?_)
 refine C.seq (U.start ?_)
 refine U.ps 1 T rfl ?_
 refine U.done (C.nx (C.ret (C.rt ?_)))
 exact C.f0 T (rs' := [.i 13]) hβ ⟨13, hm, rfl, rfl, rfl⟩
 refine C.skip (C.nx (C.seq (U.start ?_)))
 refine U.ps 1 T rfl ?_
 refine U.done (C.nx (C.seq (C.seq (U.start ?_))))
 refine U.ps 1 T rfl ?_
 refine U.done (C.nx ?_)
 refine C.jn (fun (x19 : Int) => [(9, .i x19)]) (fun (x19 : Int) => []) 0 hm (fun x19 hm => ?_) (fun J20 hm hJ20 => ?_)
 refine C.nx (C.seq (U.start ?_))
 refine U.ps 2 T rfl ?_
 refine U.done (C.nx (C.ret ?_))
 exact C.f0 T (rs' := [.i x19]) hβ ⟨x19, hm, rfl, rfl, rfl⟩
 refine C.block ?_
 refine St.wk (C.loop (fun (s21 : Int × Int) => [(2, .i shelf), (3, .i c), (4, .p 0 0), (5, .p 1 0), (9, .i s21.1), (10, .i s21.2)]) (fun (s21 : Int × Int) => [(0, .box (eApiSite s_1)), (1, .box (eApiState st))]) hm (fun s21 Y22 hm => ?_)) (Wk.f [some 0, some 1] ⟨bX, bX, trivial⟩)
 refine C.seq (C.seq (U.start ?_))
 refine U.ps 5 T rfl ?_
 refine U.done (C.nx ?_)
 refine C.ite rfl hm (fun hb25 hm => ?_) (fun hb25 hm => ?_)
 refine C.skip (C.nx (C.seq ?_))
 refine C.jn (fun (x26 : Int) => [(2, .i shelf), (3, .i c), (4, .p 0 0), (5, .p 1 0), (9, .i x26), (10, .i s21.2)]) (fun (x26 : Int) => [(0, .box (eApiSite s_1)), (1, .box (eApiState st))]) 2 hm (fun x26 hm => ?_) (fun J27 hm hJ27 => ?_)
 refine C.nx (U.start ?_)
 refine U.ps 3 T rfl ?_
 refine U.done (C.nx ?_)
 exact St.wk (C.next hm) (Wk.f [some 0, some 1] ⟨bX, bX, trivial⟩)
 refine C.block (C.seq (C.seq ?_))
 refine C.jn (fun (x28 : Bool) => [(2, .i shelf), (3, .i c), (4, .p 0 0), (5, .p 1 0), (9, .i s21.1), (10, .i s21.2), (39, .b x28)]) (fun (x28 : Bool) => [(0, .box (eApiSite s_1)), (1, .box (eApiState st))]) 2 hm (fun x28 hm => ?_) (fun J29 hm hJ29 => ?_)
 refine C.nx ?_
 refine C.ite rfl hm (fun hb32 hm => ?_) (fun hb32 hm => ?_)
 refine C.exit (C.ex (C.bex ?_))
 exact St.wk (hJ27 _ hm) (Wk.f [some 0, some 1] ⟨bX, bX, trivial⟩)
 refine C.skip (C.nx (C.seq (C.seq (U.start ?_))))
 refine U.ps 3 T rfl ?_
 obtain ⟨x35, hx35, hm⟩ := hm
 refine U.r rfl (.none rfl) rfl rfl (by exact Rd.ix T rfl rfl rfl rfl rfl rfl hx35) ?_
 refine U.ps 3 T rfl ?_
 refine U.done (C.nx ?_)
 refine C.ite rfl hm (fun hb36 hm => ?_) (fun hb36 hm => ?_)
 refine C.seq (U.start ?_)
 refine U.ps 1 T rfl ?_
 refine U.done (C.nx (C.ret (C.rt (C.brt (C.rt (C.rt (C.brt (C.rt ?_))))))))
 exact C.f0 T (rs' := [.i 13]) hβ ⟨13, hm, rfl, rfl, rfl⟩
 refine C.skip (C.nx (C.seq ?_))
 refine C.jn (fun (x39 : Bool) => [(2, .i shelf), (3, .i c), (4, .p 0 0), (5, .p 1 0), (9, .i s21.1), (10, .i s21.2), (65, .b x39)]) (fun (x39 : Bool) => [(0, .box (eApiSite s_1)), (1, .box (eApiState st))]) 2 hm (fun x39 hm => ?_) (fun J40 hm hJ40 => ?_)
 refine C.nx ?_
 refine C.jn (fun (x46 : Int) => [(2, .i shelf), (3, .i c), (4, .p 0 0), (5, .p 1 0), (9, .i x46), (10, .i s21.2)]) (fun (x46 : Int) => [(0, .box (eApiSite s_1)), (1, .box (eApiState st))]) 2 hm (fun x46 hm => ?_) (fun J47 hm hJ47 => ?_)
 refine C.bnx ?_
 exact St.wk (hJ27 _ hm) (Wk.f [some 0, some 1] ⟨bX, bX, trivial⟩)
 refine C.ite rfl hm (fun hb48 hm => ?_) (fun hb48 hm => ?_)
 refine U.start ?_
 refine U.ps 1 T rfl ?_
 refine U.done ?_
 exact St.wk (hJ47 _ hm) (Wk.f [some 0, some 1] ⟨bX, bX, trivial⟩)
 refine C.skip ?_
 exact St.wk (hJ47 _ hm) (Wk.f [some 0, some 1] ⟨bX, bX, trivial⟩)
 refine D.beg 9999 [0, 1] [] mix rfl rfl (by kernel_rfl) (by repeat (first | exact NoPanicQ.body | exact NoPanicQ.rnd | refine NoPanicQ.th ?_ | refine NoPanicQ.blk ?_)) (fun hQ hS ws M' => ?_)
 refine D.ps 5 [(0, []), (1, []), (2, []), (3, []), (4, [])] rfl hQ hS T rfl rfl (by kernel_rfl) ?_
 refine D.q 5 [] hQ hS rfl (.none rfl) rfl rfl (by exact Rd.ix T rfl rfl rfl rfl rfl rfl hx35) rfl (by kernel_rfl) ?_
 refine D.ps 2 [(6, []), (7, [])] rfl hQ hS T rfl rfl (by kernel_rfl) ?_
 refine D.e 8 rfl (.none rfl) (by exact Eff.k (T_taquinref07_Near s_1.Floor x35 c _ hm) en105 rfl rfl rfl (.eq rfl) (fun _ _ => ⟨(.v _), trivial⟩)) (by kernel_rfl) rfl rfl (fun x41' hm => ?_)
 obtain ⟨x41⟩ := x41'
 refine D.ps 1 [(9, [])] rfl hQ hS T rfl rfl (by kernel_rfl) ?_
 refine hm.cs (fun hb42 hm => ?_) (fun hb42 hm => ?_)
 refine D.q 10 [] hQ hS rfl (.take 9 true 56 _ hb42 rfl rfl rfl) rfl rfl (by exact Rd.l T rfl rfl rfl) rfl (by kernel_rfl) ?_
 refine D.q 11 [] hQ hS rfl (.take 9 true 56 _ hb42 rfl rfl rfl) rfl rfl (by exact Rd.l T rfl rfl rfl) rfl (by kernel_rfl) ?_
 refine D.q 12 [] hQ hS rfl (.take 9 true 56 _ hb42 rfl rfl rfl) rfl rfl (by exact Rd.p T rfl) rfl (by kernel_rfl) ?_
 refine D.q 14 [] hQ hS rfl (.take 9 true 56 _ hb42 rfl rfl rfl) rfl rfl (by exact Rd.l T rfl rfl rfl) rfl (by kernel_rfl) ?_
 refine D.q 15 [] hQ hS rfl (.take 9 true 56 _ hb42 rfl rfl rfl) rfl rfl (by exact Rd.p T rfl) rfl (by kernel_rfl) ?_
 refine D.e 13 rfl (.take 9 true 56 _ hb42 rfl rfl rfl) (by exact Eff.k (T_taquinref12_Class s_1 shelf _ hm) en107 rfl rfl rfl (.eq rfl) (fun _ _ => ⟨(.v _), trivial⟩)) (by kernel_rfl) rfl rfl (fun x43' hm => ?_)
 obtain ⟨x43⟩ := x43'
 refine D.e 16 rfl (.take 9 true 56 _ hb42 rfl rfl rfl) (by exact Eff.k (T_taquinref12_Class s_1 s21.2 _ hm) en107 rfl rfl rfl (.eq rfl) (fun _ _ => ⟨(.v _), trivial⟩)) (by kernel_rfl) rfl rfl (fun x44' hm => ?_)
 obtain ⟨x44⟩ := x44'
 refine D.e 17 rfl (.take 9 true 56 _ hb42 rfl rfl rfl) (by exact Eff.k (T_taquinref12_Never s_1 x43 x44 _ hm) en106 rfl rfl rfl (.eq rfl) (fun _ _ => ⟨(.v _), trivial⟩)) (by kernel_rfl) rfl rfl (fun x45' hm => ?_)
 obtain ⟨x45⟩ := x45'
 refine D.q 18 [] hQ hS rfl (.none rfl) rfl rfl (by exact Rd.pk rfl rfl hb42 rfl) rfl (by kernel_rfl) ?_
 refine D.done (by kernel_rfl) ?_
 exact St.wk (hJ40 _ hm) (Wk.f [some 0, some 1] ⟨bX, bX, trivial⟩)
 refine D.sq 10 [] hQ hS rfl (.skip 9 true 56 _ hb42 rfl rfl rfl) rfl rfl (by kernel_rfl) ?_
 refine D.sq 11 [] hQ hS rfl (.skip 9 true 56 _ hb42 rfl rfl rfl) rfl rfl (by kernel_rfl) ?_
 refine D.sq 12 [] hQ hS rfl (.skip 9 true 56 _ hb42 rfl rfl rfl) rfl rfl (by kernel_rfl) ?_
 refine D.sq 13 [] hQ hS rfl (.skip 9 true 56 _ hb42 rfl rfl rfl) rfl rfl (by kernel_rfl) ?_
 refine D.sq 14 [] hQ hS rfl (.skip 9 true 56 _ hb42 rfl rfl rfl) rfl rfl (by kernel_rfl) ?_
 refine D.sq 15 [] hQ hS rfl (.skip 9 true 56 _ hb42 rfl rfl rfl) rfl rfl (by kernel_rfl) ?_
 refine D.sq 16 [] hQ hS rfl (.skip 9 true 56 _ hb42 rfl rfl rfl) rfl rfl (by kernel_rfl) ?_
 refine D.sq 17 [] hQ hS rfl (.skip 9 true 56 _ hb42 rfl rfl rfl) rfl rfl (by kernel_rfl) ?_
 refine D.q 18 [] hQ hS rfl (.none rfl) rfl rfl (by exact Rd.pk' rfl rfl hb42 rfl) rfl (by kernel_rfl) ?_
 refine D.done (by kernel_rfl) ?_
 exact St.wk (hJ40 _ hm) (Wk.f [some 0, some 1] ⟨bX, bX, trivial⟩)
 refine U.start ?_
 refine U.ps 4 T rfl ?_
 refine hm.cs (fun hb30 hm => ?_) (fun hb30 hm => ?_)
 refine U.sks 4 3 false 34 hb30 rfl rfl rfl ?_
 refine U.r rfl (.none rfl) rfl rfl (by exact Rd.pk rfl rfl hb30 rfl) ?_
 refine U.done ?_
 exact St.wk (hJ29 _ hm) (Wk.f [some 0, some 1] ⟨bX, bX, trivial⟩)
 refine U.pg 2 3 false 34 hb30 T rfl rfl rfl rfl ?_
 refine U.e rfl (.take 3 false 34 _ hb30 rfl rfl rfl) (by exact Eff.k (T_taquinref12_Carried st s21.2 _ hm) en104 rfl rfl rfl (.eq rfl) (fun _ _ => ⟨(.v _), trivial⟩)) (fun x31' hm => ?_)
 obtain ⟨x31⟩ := x31'
 refine U.pg 1 3 false 34 hb30 T rfl rfl rfl rfl ?_
 refine U.r rfl (.none rfl) rfl rfl (by exact Rd.pk' rfl rfl hb30 rfl) ?_
 refine U.done ?_
 exact St.wk (hJ29 _ hm) (Wk.f [some 0, some 1] ⟨bX, bX, trivial⟩)
 refine C.exit (C.ex (C.ex (C.bex ?_)))
 exact St.wk (hJ20 _ hm) (Wk.e)
 refine U.start ?_
 refine U.ps 3 T rfl ?_
 refine hm.cs (fun hb5 hm => ?_) (fun hb5 hm => ?_)
 refine U.sks 5 2 false 13 hb5 rfl rfl rfl ?_
 refine U.r rfl (.none rfl) rfl rfl (by exact Rd.pk rfl rfl hb5 rfl) ?_
 refine U.done ?_
 exact St.wk (hJ4 _ hm) (Wk.f [some 0, some 1] ⟨bX, bX, trivial⟩)
 refine U.pg 5 2 false 13 hb5 T rfl rfl rfl rfl ?_
 refine U.r rfl (.none rfl) rfl rfl (by exact Rd.pk' rfl rfl hb5 rfl) ?_
 refine U.done ?_
 exact St.wk (hJ4 _ hm) (Wk.f [some 0, some 1] ⟨bX, bX, trivial⟩)
theorem T_taquinref07_Next (f : ApiFloor) (c : Int) (d : Int) (post : (Int × Bool) → Prop) (hm : V_taquinref07_Next f c d post) :
    Tr Tryz.prog 110 [.agg (eApiFloor f), .i c, .i d] [] 0 (fun A H' k => ∃ y, post y ∧ A = (.tup [.i y.1, .b y.2]) ∧ H' = [] ∧ k = 0) := by
 refine Tr.intro (n := 60) Tryz.func110 rfl Tryz.ntmps110 rfl (fun w0 ok F β hβ => ?_)
 unfold V_taquinref07_Next at hm
 refine C.seq (U.start ?_)
 refine U.e1 rfl (.none rfl) (by exact Eff1.box rfl rfl rfl rfl rfl) ?_
 refine U.ps 2 T rfl ?_
 refine U.done (C.nx (C.seq (U.start ?_)))
 refine U.ps 3 T rfl ?_
 refine U.e rfl (.none rfl) (by exact Eff.k (T_taquinref07_Beside f c d _ hm) en138 rfl rfl rfl (.eq rfl) (fun _ _ => ⟨(.v _), trivial⟩)) (fun x5' hm => ?_)
 obtain ⟨x5⟩ := x5'
 refine U.ps 1 T rfl ?_
 refine U.done (C.nx (C.seq (C.seq (U.start ?_))))
 refine U.ps 2 T rfl ?_
 refine U.done (C.nx ?_)
 refine C.ite rfl hm (fun hb8 hm => ?_) (fun hb8 hm => ?_)
 refine C.seq (U.start ?_)
 refine U.ps 2 T rfl ?_
 refine U.done (C.nx (C.ret (C.rt ?_)))
 exact C.f0 T (rs' := [.i ((0, false).1), .b ((0, false).2)]) hβ ⟨(0, false), hm, rfl, rfl, rfl⟩
 refine C.skip (C.nx (C.seq (C.seq ?_)))
 refine C.jn (fun (x11 : Bool) => [(1, .i c), (2, .i d), (3, .p 0 0), (8, .i x5), (40, .b x11)]) (fun (x11 : Bool) => [(0, .box (eApiFloor f))]) 1 hm (fun x11 hm => ?_) (fun J12 hm hJ12 => ?_)
 refine C.nx ?_
 refine C.ite rfl hm (fun hb19 hm => ?_) (fun hb19 hm => ?_)
 refine C.seq (U.start ?_)
 refine U.ps 2 T rfl ?_
 refine U.done (C.nx (C.ret (C.rt ?_)))
 exact C.f0 T (rs' := [.i ((0, false).1), .b ((0, false).2)]) hβ ⟨(0, false), hm, rfl, rfl, rfl⟩
 refine C.skip (C.nx (C.seq (C.seq ?_)))
 refine C.jn (fun (x22 : Bool) => [(8, .i x5), (58, .b x22)]) (fun (x22 : Bool) => []) 0 hm (fun x22 hm => ?_) (fun J23 hm hJ23 => ?_)
 refine C.nx ?_
 refine C.ite rfl hm (fun hb28 hm => ?_) (fun hb28 hm => ?_)
 refine C.seq (U.start ?_)
 refine U.ps 2 T rfl ?_
 refine U.done (C.nx (C.ret (C.rt ?_)))
 exact C.f0 T (rs' := [.i ((0, false).1), .b ((0, false).2)]) hβ ⟨(0, false), hm, rfl, rfl, rfl⟩
 refine C.skip (C.nx (C.seq (U.start ?_)))
 refine U.ps 3 T rfl ?_
 refine U.done (C.nx (C.ret ?_))
 exact C.f0 T (rs' := [.i ((x5, true).1), .b ((x5, true).2)]) hβ ⟨(x5, true), hm, rfl, rfl, rfl⟩
 refine U.start ?_
 refine U.ps 3 T rfl ?_
 refine hm.cs (fun hb24 hm => ?_) (fun hb24 hm => ?_)
 refine U.pg 3 2 true 43 hb24 T rfl rfl rfl rfl ?_
 obtain ⟨x25, hx25, hm⟩ := hm
 refine U.r rfl (.take 2 true 43 _ hb24 rfl rfl rfl) rfl rfl (by exact Rd.ix T rfl rfl rfl rfl rfl rfl hx25) ?_
 refine U.pg 3 2 true 43 hb24 T rfl rfl rfl rfl ?_
 refine hm.cs (fun hb26 hm => ?_) (fun hb26 hm => ?_)
 refine U.sks 6 9 false 50 hb26 rfl rfl rfl ?_
 refine U.r rfl (.take 2 true 43 _ hb24 rfl rfl rfl) rfl rfl (by exact Rd.pk rfl rfl hb26 rfl) ?_
 refine U.r rfl (.none rfl) rfl rfl (by exact Rd.pk rfl rfl hb24 rfl) ?_
 refine U.done ?_
 exact St.wk (hJ23 _ hm) (Wk.e)
 refine U.pg 3 9 false 50 hb26 T rfl rfl rfl rfl ?_
 obtain ⟨x27, hx27, hm⟩ := hm
 refine U.r rfl (.take 9 false 50 _ hb26 rfl rfl rfl) rfl rfl (by exact Rd.ix T rfl rfl rfl rfl rfl rfl hx27) ?_
 refine U.pg 2 9 false 50 hb26 T rfl rfl rfl rfl ?_
 refine U.r rfl (.take 2 true 43 _ hb24 rfl rfl rfl) rfl rfl (by exact Rd.pk' rfl rfl hb26 rfl) ?_
 refine U.r rfl (.none rfl) rfl rfl (by exact Rd.pk rfl rfl hb24 rfl) ?_
 refine U.done ?_
 exact St.wk (hJ23 _ hm) (Wk.e)
 refine U.sks 7 2 true 43 hb24 rfl rfl rfl ?_
 refine U.sku 6 9 false 50 rfl rfl rfl ?_
 refine U.sks 1 2 true 43 hb24 rfl rfl rfl ?_
 refine U.r rfl (.none rfl) rfl rfl (by exact Rd.pk' rfl rfl hb24 rfl) ?_
 refine U.done ?_
 exact St.wk (hJ23 _ hm) (Wk.e)
 refine U.start ?_
 refine U.ps 3 T rfl ?_
 obtain ⟨x13, hx13, hm⟩ := hm
 refine U.r rfl (.none rfl) rfl rfl (by exact Rd.ix T rfl rfl rfl rfl rfl rfl hx13) ?_
 refine U.ps 3 T rfl ?_
 refine hm.cs (fun hb14 hm => ?_) (fun hb14 hm => ?_)
 refine U.sks 6 6 false 21 hb14 rfl rfl rfl ?_
 refine U.r rfl (.none rfl) rfl rfl (by exact Rd.pk rfl rfl hb14 rfl) ?_
 refine U.ps 1 T rfl ?_
 refine U.sks 10 14 false 29 rfl rfl rfl rfl ?_
 refine U.r rfl (.none rfl) rfl rfl (by exact Rd.pk rfl rfl rfl rfl) ?_
 refine U.done ?_
 exact St.wk (hJ12 _ hm) (Wk.f [some 0] ⟨bX, trivial⟩)
 refine U.pg 3 6 false 21 hb14 T rfl rfl rfl rfl ?_
 obtain ⟨x15, hx15, hm⟩ := hm
 refine U.r rfl (.take 6 false 21 _ hb14 rfl rfl rfl) rfl rfl (by exact Rd.ix T rfl rfl rfl rfl rfl rfl hx15) ?_
 refine U.pg 2 6 false 21 hb14 T rfl rfl rfl rfl ?_
 refine U.r rfl (.none rfl) rfl rfl (by exact Rd.pk' rfl rfl hb14 rfl) ?_
 refine U.ps 1 T rfl ?_
 refine hm.cs (fun hb16 hm => ?_) (fun hb16 hm => ?_)
 refine U.sks 10 14 false 29 hb16 rfl rfl rfl ?_
 refine U.r rfl (.none rfl) rfl rfl (by exact Rd.pk rfl rfl hb16 rfl) ?_
 refine U.done ?_
 exact St.wk (hJ12 _ hm) (Wk.f [some 0] ⟨bX, trivial⟩)
 refine U.pg 3 14 false 29 hb16 T rfl rfl rfl rfl ?_
 obtain ⟨x17, hx17, hm⟩ := hm
 refine U.r rfl (.take 14 false 29 _ hb16 rfl rfl rfl) rfl rfl (by exact Rd.ix T rfl rfl rfl rfl rfl rfl hx17) ?_
 refine U.pg 3 14 false 29 hb16 T rfl rfl rfl rfl ?_
 obtain ⟨hx18, hm⟩ := hm
 refine U.r rfl (.take 14 false 29 _ hb16 rfl rfl rfl) rfl rfl (by exact Rd.sh rfl rfl rfl rfl hx18) ?_
 refine U.pg 2 14 false 29 hb16 T rfl rfl rfl rfl ?_
 refine U.r rfl (.none rfl) rfl rfl (by exact Rd.pk' rfl rfl hb16 rfl) ?_
 refine U.done ?_
 exact St.wk (hJ12 _ hm) (Wk.f [some 0] ⟨bX, trivial⟩)
theorem T_taquinref15_Target (s_1 : ApiSite) (st : ApiState) (robot : Int) (act : Int) (post : (Int × Bool) → Prop) (hm : V_taquinref15_Target s_1 st robot act post) :
    Tr Tryz.prog 49 [.agg (eApiSite s_1), .agg (eApiState st), .i robot, .i act] [] 0 (fun A H' k => ∃ y, post y ∧ A = (.tup [.i y.1, .b y.2]) ∧ H' = [] ∧ k = 0) := by
 refine Tr.intro (n := 37) Tryz.func49 rfl Tryz.ntmps49 rfl (fun w0 ok F β hβ => ?_)
 unfold V_taquinref15_Target at hm
 refine C.seq (U.start ?_)
 refine U.e1 rfl (.none rfl) (by exact Eff1.box rfl rfl rfl rfl rfl) ?_
 refine U.e1 rfl (.none rfl) (by exact Eff1.box rfl rfl rfl rfl rfl) ?_
 refine U.ps 2 T rfl ?_
 refine U.done (C.nx (C.seq (C.seq ?_)))
 refine C.jn (fun (x3 : Bool) => [(2, .i robot), (3, .i act), (4, .p 0 0), (5, .p 1 0), (23, .b x3)]) (fun (x3 : Bool) => [(0, .box (eApiSite s_1)), (1, .box (eApiState st))]) 2 hm (fun x3 hm => ?_) (fun J4 hm hJ4 => ?_)
 refine C.nx ?_
 refine C.ite rfl hm (fun hb8 hm => ?_) (fun hb8 hm => ?_)
 refine C.seq (U.start ?_)
 refine U.ps 2 T rfl ?_
 refine U.done (C.nx (C.ret (C.rt ?_)))
 exact C.f0 T (rs' := [.i ((0, false).1), .b ((0, false).2)]) hβ ⟨(0, false), hm, rfl, rfl, rfl⟩
 refine C.skip (C.nx (C.seq ?_))
 refine D.beg 9999 [0, 1] [] mix rfl rfl (by kernel_rfl) (by repeat (first | exact NoPanicQ.body | exact NoPanicQ.rnd | refine NoPanicQ.th ?_ | refine NoPanicQ.blk ?_)) (fun hQ hS ws M' => ?_)
 refine D.ps 5 [(0, []), (1, []), (2, []), (3, []), (4, [])] rfl hQ hS T rfl rfl (by kernel_rfl) ?_
 obtain ⟨x13, hx13, hm⟩ := hm
 refine D.q 5 [] hQ hS rfl (.none rfl) rfl rfl (by exact Rd.ix T rfl rfl rfl rfl rfl rfl hx13) rfl (by kernel_rfl) ?_
 refine D.ps 4 [(6, []), (7, []), (8, []), (9, [])] rfl hQ hS T rfl rfl (by kernel_rfl) ?_
 refine D.e 10 rfl (.none rfl) (by exact Eff.k (T_taquinref07_Next s_1.Floor x13.Cell (w64 (act - 1)) _ hm) en110 rfl rfl rfl (.eq rfl) (fun _ _ => ⟨(.tup (.cons (.v _) (.cons (.v _) .nil))), trivial⟩)) (by kernel_rfl) rfl rfl (fun x14' hm => ?_)
 obtain ⟨x14⟩ := x14'
 refine D.ps 4 [(11, []), (12, []), (13, []), (14, [])] rfl hQ hS T rfl rfl (by kernel_rfl) ?_
 refine D.done (by kernel_rfl) ?_
 refine C.nx (C.ret ?_)
 exact C.f0 T (rs' := [.i ((x14.1, x14.2).1), .b ((x14.1, x14.2).2)]) hβ ⟨(x14.1, x14.2), hm, rfl, rfl, rfl⟩
 refine U.start ?_
 refine U.ps 3 T rfl ?_
 refine hm.cs (fun hb5 hm => ?_) (fun hb5 hm => ?_)
 refine U.sks 5 2 false 12 hb5 rfl rfl rfl ?_
 refine U.r rfl (.none rfl) rfl rfl (by exact Rd.pk rfl rfl hb5 rfl) ?_
 refine U.ps 1 T rfl ?_
 refine U.sks 3 9 false 19 rfl rfl rfl rfl ?_
 refine U.r rfl (.none rfl) rfl rfl (by exact Rd.pk rfl rfl rfl rfl) ?_
 refine U.done ?_
 exact St.wk (hJ4 _ hm) (Wk.f [some 0, some 1] ⟨bX, bX, trivial⟩)
 refine U.pg 5 2 false 12 hb5 T rfl rfl rfl rfl ?_
 refine U.r rfl (.none rfl) rfl rfl (by exact Rd.pk' rfl rfl hb5 rfl) ?_
 refine U.ps 1 T rfl ?_
 refine hm.cs (fun hb6 hm => ?_) (fun hb6 hm => ?_)
 refine U.sks 3 9 false 19 hb6 rfl rfl rfl ?_
 refine U.r rfl (.none rfl) rfl rfl (by exact Rd.pk rfl rfl hb6 rfl) ?_
 refine U.done ?_
 exact St.wk (hJ4 _ hm) (Wk.f [some 0, some 1] ⟨bX, bX, trivial⟩)
 refine U.pg 1 9 false 19 hb6 T rfl rfl rfl rfl ?_
 refine U.e rfl (.take 9 false 19 _ hb6 rfl rfl rfl) (by exact Eff.k (T_taquinref15_Move act _ hm) en42 rfl rfl rfl (.eq rfl) (fun _ _ => ⟨(.v _), trivial⟩)) (fun x7' hm => ?_)
 obtain ⟨x7⟩ := x7'
 refine U.pg 1 9 false 19 hb6 T rfl rfl rfl rfl ?_
 refine U.r rfl (.none rfl) rfl rfl (by exact Rd.pk' rfl rfl hb6 rfl) ?_
 refine U.done ?_
 exact St.wk (hJ4 _ hm) (Wk.f [some 0, some 1] ⟨bX, bX, trivial⟩)
theorem T_taquinref15_stuck (st : ApiState) (c : Int) (post : Bool → Prop) (hm : V_taquinref15_stuck st c post) :
    Tr Tryz.prog 108 [.agg (eApiState st), .i c] [] 0 (fun A H' k => ∃ y, post y ∧ A = (.b y) ∧ H' = [] ∧ k = 0) := by
 refine Tr.intro (n := 21) Tryz.func108 rfl Tryz.ntmps108 rfl (fun w0 ok F β hβ => ?_)
 unfold V_taquinref15_stuck at hm
 refine C.seq (U.start ?_)
 refine U.e1 rfl (.none rfl) (by exact Eff1.box rfl rfl rfl rfl rfl) ?_
 refine U.ps 1 T rfl ?_
 refine U.done (C.nx (C.seq (C.seq (U.start ?_))))
 refine U.ps 1 T rfl ?_
 refine U.done (C.nx ?_)
 refine C.jn (fun (x5 : Unit) => []) (fun (x5 : Unit) => []) 0 hm (fun x5 hm => ?_) (fun J6 hm hJ6 => ?_)
 refine C.nx (C.seq (U.start ?_))
 refine U.ps 1 T rfl ?_
 refine U.done (C.nx (C.ret ?_))
 exact C.f0 T (rs' := [.b false]) hβ ⟨false, hm, rfl, rfl, rfl⟩
 refine C.block ?_
 refine St.wk (C.loop (fun (s7 : Int) => [(1, .i c), (2, .p 0 0), (5, .i s7)]) (fun (s7 : Int) => [(0, .box (eApiState st))]) hm (fun s7 Y8 hm => ?_)) (Wk.f [some 0] ⟨bX, trivial⟩)
 refine C.seq (C.seq (U.start ?_))
 refine U.ps 5 T rfl ?_
 refine U.done (C.nx ?_)
 refine C.ite rfl hm (fun hb11 hm => ?_) (fun hb11 hm => ?_)
 refine C.skip (C.nx (C.seq (C.block (C.seq (U.start ?_)))))
 refine U.ps 3 T rfl ?_
 obtain ⟨x14, hx14, hm⟩ := hm
 refine U.r rfl (.none rfl) rfl rfl (by exact Rd.ix T rfl rfl rfl rfl rfl rfl hx14) ?_
 refine U.ps 4 T rfl ?_
 refine U.done (C.nx ?_)
 refine C.ite rfl hm (fun hb15 hm => ?_) (fun hb15 hm => ?_)
 refine C.seq (U.start ?_)
 refine U.ps 1 T rfl ?_
 refine U.done (C.nx (C.ret (C.brt (C.rt (C.rt (C.brt (C.rt ?_)))))))
 exact C.f0 T (rs' := [.b true]) hβ ⟨true, hm, rfl, rfl, rfl⟩
 refine C.skip (C.bnx (C.nx (U.start ?_)))
 refine U.ps 3 T rfl ?_
 refine U.done (C.nx ?_)
 exact St.wk (C.next hm) (Wk.f [some 0] ⟨bX, trivial⟩)
 refine C.exit (C.ex (C.ex (C.bex ?_)))
 exact St.wk (hJ6 _ hm) (Wk.mk' [] rfl rfl trivial trivial rfl)
theorem T_taquinref08_Has (r : List Int) (c : Int) (post : Bool → Prop) (hm : V_taquinref08_Has r c post) :
    Tr Tryz.prog 147 [.sl 1 eI r, .i c] [] 0 (fun A H' k => ∃ y, post y ∧ A = (.b y) ∧ H' = [] ∧ k = 0) := by
 refine Tr.intro (n := 36) Tryz.func147 rfl Tryz.ntmps147 rfl (fun w0 ok F β hβ => ?_)
 unfold V_taquinref08_Has at hm
 refine C.seq (U.start ?_)
 refine U.ps 1 T rfl ?_
 refine U.done (C.nx (C.seq (U.start ?_)))
 refine U.ps 1 T rfl ?_
 refine U.done (C.nx (C.seq (U.start ?_)))
 refine U.ps 3 T rfl ?_
 refine U.done (C.nx (C.seq ?_))
 refine C.jn (fun (x7 : Int) => [(0, .sl 1 eI r), (1, .i c), (5, .i x7)]) (fun (x7 : Int) => []) 0 hm (fun x7 hm => ?_) (fun J8 hm hJ8 => ?_)
 refine C.nx (C.seq (C.seq (U.start ?_)))
 refine U.ps 4 T rfl ?_
 refine U.done (C.nx ?_)
 refine C.ite rfl hm (fun hb29 hm => ?_) (fun hb29 hm => ?_)
 refine C.seq (U.start ?_)
 refine U.ps 1 T rfl ?_
 refine U.done (C.nx (C.ret (C.rt ?_)))
 exact C.f0 T (rs' := [.b false]) hβ ⟨false, hm, rfl, rfl, rfl⟩
 refine C.skip (C.nx (C.seq (U.start ?_)))
 refine U.ps 2 T rfl ?_
 obtain ⟨x34, hx34, hm⟩ := hm
 refine U.r rfl (.none rfl) rfl rfl (by exact Rd.ix T rfl rfl rfl rfl rfl rfl hx34) ?_
 refine U.ps 4 T rfl ?_
 refine U.done (C.nx (C.ret ?_))
 exact C.f0 T (rs' := [.b (x34 == c)]) hβ ⟨(x34 == c), hm, rfl, rfl, rfl⟩
 refine C.block ?_
 refine St.wk (C.loop (fun (s9 : Int × Int) => [(0, .sl 1 eI r), (1, .i c), (5, .i s9.1), (6, .i s9.2)]) (fun (s9 : Int × Int) => []) hm (fun s9 Y10 hm => ?_)) (Wk.e)
 refine C.seq (C.seq (U.start ?_))
 refine U.ps 3 T rfl ?_
 refine U.done (C.nx ?_)
 refine C.ite rfl hm (fun hb13 hm => ?_) (fun hb13 hm => ?_)
 refine C.skip (C.nx (C.block (C.seq (U.start ?_))))
 refine U.ps 3 T rfl ?_
 refine U.r rfl (.none rfl) rfl rfl (by exact Rd.dv rfl rfl rfl rfl (by decide)) ?_
 refine U.ps 1 T rfl ?_
 refine U.done (C.nx (C.seq (U.start ?_)))
 refine U.ps 2 T rfl ?_
 obtain ⟨x19, hx19, hm⟩ := hm
 refine U.r rfl (.none rfl) rfl rfl (by exact Rd.ix T rfl rfl rfl rfl rfl rfl hx19) ?_
 refine U.ps 3 T rfl ?_
 refine U.done (C.nx ?_)
 refine C.jn (fun (x20 : Int × Int) => [(0, .sl 1 eI r), (1, .i c), (5, .i x20.1), (6, .i x20.2)]) (fun (x20 : Int × Int) => []) 0 hm (fun x20 hm => ?_) (fun J21 hm hJ21 => ?_)
 refine C.bnx (C.nx ?_)
 exact St.wk (C.next hm) (Wk.e)
 refine C.ite rfl hm (fun hb22 hm => ?_) (fun hb22 hm => ?_)
 refine U.start ?_
 refine U.ps 3 T rfl ?_
 refine U.done ?_
 exact St.wk (hJ21 _ hm) (Wk.e)
 refine U.start ?_
 refine U.ps 2 T rfl ?_
 refine U.done ?_
 exact St.wk (hJ21 _ hm) (Wk.e)
 refine C.exit (C.ex (C.ex (C.bex ?_)))
 exact St.wk (hJ8 _ hm) (Wk.e)
theorem T_taquinref12_ZoneOf (s_1 : ApiSite) (c : Int) (post : Int → Prop) (hm : V_taquinref12_ZoneOf s_1 c post) :
    Tr Tryz.prog 111 [.agg (eApiSite s_1), .i c] [] 0 (fun A H' k => ∃ y, post y ∧ A = (.i y) ∧ H' = [] ∧ k = 0) := by
 refine Tr.intro (n := 22) Tryz.func111 rfl Tryz.ntmps111 rfl (fun w0 ok F β hβ => ?_)
 unfold V_taquinref12_ZoneOf at hm
 refine C.seq (U.start ?_)
 refine U.e1 rfl (.none rfl) (by exact Eff1.box rfl rfl rfl rfl rfl) ?_
 refine U.ps 1 T rfl ?_
 refine U.done (C.nx (C.seq (C.seq (U.start ?_))))
 refine U.ps 1 T rfl ?_
 refine U.done (C.nx ?_)
 refine C.jn (fun (x5 : Unit) => []) (fun (x5 : Unit) => []) 0 hm (fun x5 hm => ?_) (fun J6 hm hJ6 => ?_)
 refine C.nx (C.seq (U.start ?_))
 refine U.ps 1 T rfl ?_
 refine U.done (C.nx (C.ret ?_))
 exact C.f0 T (rs' := [.i (-1)]) hβ ⟨(-1), hm, rfl, rfl, rfl⟩
 refine C.block ?_
 refine St.wk (C.loop (fun (s7 : Int) => [(1, .i c), (2, .p 0 0), (5, .i s7)]) (fun (s7 : Int) => [(0, .box (eApiSite s_1))]) hm (fun s7 Y8 hm => ?_)) (Wk.f [some 0] ⟨bX, trivial⟩)
 refine C.seq (C.seq (U.start ?_))
 refine U.ps 5 T rfl ?_
 refine U.done (C.nx ?_)
 refine C.ite rfl hm (fun hb11 hm => ?_) (fun hb11 hm => ?_)
 refine C.skip (C.nx (C.seq (C.block (C.seq (U.start ?_)))))
 refine U.ps 3 T rfl ?_
 obtain ⟨x14, hx14, hm⟩ := hm
 refine U.r rfl (.none rfl) rfl rfl (by exact Rd.ix T rfl rfl rfl rfl rfl rfl hx14) ?_
 refine U.ps 3 T rfl ?_
 refine U.e rfl (.none rfl) (by exact Eff.k (T_taquinref08_Has x14.Cells c _ hm) en147 rfl rfl rfl (.eq rfl) (fun _ _ => ⟨(.v _), trivial⟩)) (fun x15' hm => ?_)
 obtain ⟨x15⟩ := x15'
 refine U.done (C.nx ?_)
 refine C.ite rfl hm (fun hb16 hm => ?_) (fun hb16 hm => ?_)
 refine C.seq (U.start ?_)
 refine U.ps 2 T rfl ?_
 refine U.done (C.nx (C.ret (C.brt (C.rt (C.rt (C.brt (C.rt ?_)))))))
 exact C.f0 T (rs' := [.i s7]) hβ ⟨s7, hm, rfl, rfl, rfl⟩
 refine C.skip (C.bnx (C.nx (U.start ?_)))
 refine U.ps 3 T rfl ?_
 refine U.done (C.nx ?_)
 exact St.wk (C.next hm) (Wk.f [some 0] ⟨bX, trivial⟩)
 refine C.exit (C.ex (C.ex (C.bex ?_)))
 exact St.wk (hJ6 _ hm) (Wk.mk' [] rfl rfl trivial trivial rfl)
theorem T_taquinref12_Open (s_1 : ApiSite) (c : Int) (tick : Int) (post : Bool → Prop) (hm : V_taquinref12_Open s_1 c tick post) :
    Tr Tryz.prog 109 [.agg (eApiSite s_1), .i c, .i tick] [] 0 (fun A H' k => ∃ y, post y ∧ A = (.b y) ∧ H' = [] ∧ k = 0) := by
 refine Tr.intro (n := 48) Tryz.func109 rfl Tryz.ntmps109 rfl (fun w0 ok F β hβ => ?_)
 unfold V_taquinref12_Open at hm
 refine C.seq (U.start ?_)
 refine U.e1 rfl (.none rfl) (by exact Eff1.box rfl rfl rfl rfl rfl) ?_
 refine U.ps 1 T rfl ?_
 refine U.done (C.nx (C.seq (C.seq (U.start ?_))))
 refine U.ps 3 T rfl ?_
 refine U.e rfl (.none rfl) (by exact Eff.k (T_taquinref07_Is s_1.Floor c _ hm) en82 rfl rfl rfl (.eq rfl) (fun _ _ => ⟨(.v _), trivial⟩)) (fun x5' hm => ?_)
 obtain ⟨x5⟩ := x5'
 refine U.ps 1 T rfl ?_
 refine U.done (C.nx ?_)
 refine C.ite rfl hm (fun hb6 hm => ?_) (fun hb6 hm => ?_)
 refine C.seq (U.start ?_)
 refine U.ps 1 T rfl ?_
 refine U.done (C.nx (C.ret (C.rt ?_)))
 exact C.f0 T (rs' := [.b false]) hβ ⟨false, hm, rfl, rfl, rfl⟩
 refine C.skip (C.nx (C.seq (U.start ?_)))
 refine U.ps 2 T rfl ?_
 refine U.e rfl (.none rfl) (by exact Eff.k (T_taquinref12_ZoneOf s_1 c _ hm) en111 rfl rfl rfl (.eq rfl) (fun _ _ => ⟨(.v _), trivial⟩)) (fun x11' hm => ?_)
 obtain ⟨x11⟩ := x11'
 refine U.ps 1 T rfl ?_
 refine U.done (C.nx (C.seq (C.seq (U.start ?_))))
 refine U.ps 2 T rfl ?_
 refine U.done (C.nx ?_)
 refine C.ite rfl hm (fun hb14 hm => ?_) (fun hb14 hm => ?_)
 refine C.seq (U.start ?_)
 refine U.ps 1 T rfl ?_
 refine U.done (C.nx (C.ret (C.rt ?_)))
 exact C.f0 T (rs' := [.b true]) hβ ⟨true, hm, rfl, rfl, rfl⟩
 refine C.skip (C.nx (C.seq (U.start ?_)))
 refine U.ps 3 T rfl ?_
 obtain ⟨x19, hx19, hm⟩ := hm
 refine U.r rfl (.none rfl) rfl rfl (by exact Rd.ix T rfl rfl rfl rfl rfl rfl hx19) ?_
 refine U.ps 3 T rfl ?_
 refine U.done (C.nx (C.seq (C.seq (U.start ?_))))
 refine U.ps 1 T rfl ?_
 refine U.done (C.nx ?_)
 refine C.jn (fun (x22 : Unit) => []) (fun (x22 : Unit) => []) 0 hm (fun x22 hm => ?_) (fun J23 hm hJ23 => ?_)
 refine C.nx (C.seq (U.start ?_))
 refine U.ps 1 T rfl ?_
 refine U.done (C.nx (C.ret ?_))
 exact C.f0 T (rs' := [.b true]) hβ ⟨true, hm, rfl, rfl, rfl⟩
 refine C.block ?_
 refine St.wk (C.loop (fun (s24 : Int) => [(2, .i tick), (8, .sl 2 eApiSpan x19.Shut), (9, .i s24)]) (fun (s24 : Int) => []) hm (fun s24 Y25 hm => ?_)) (Wk.e)
 refine C.seq (C.seq (U.start ?_))
 refine U.ps 4 T rfl ?_
 refine U.done (C.nx ?_)
 refine C.ite rfl hm (fun hb28 hm => ?_) (fun hb28 hm => ?_)
 refine C.skip (C.nx (C.seq (C.block (C.seq ?_))))
 refine C.jn (fun (x29 : Bool) => [(2, .i tick), (8, .sl 2 eApiSpan x19.Shut), (9, .i s24), (47, .b x29)]) (fun (x29 : Bool) => []) 0 hm (fun x29 hm => ?_) (fun J30 hm hJ30 => ?_)
 refine C.nx ?_
 refine C.ite rfl hm (fun hb33 hm => ?_) (fun hb33 hm => ?_)
 refine C.seq (U.start ?_)
 refine U.ps 1 T rfl ?_
 refine U.done (C.nx (C.ret (C.brt (C.rt (C.rt (C.brt (C.rt ?_)))))))
 exact C.f0 T (rs' := [.b false]) hβ ⟨false, hm, rfl, rfl, rfl⟩
 refine C.skip (C.bnx (C.nx (U.start ?_)))
 refine U.ps 3 T rfl ?_
 refine U.done (C.nx ?_)
 exact St.wk (C.next hm) (Wk.e)
 refine U.start ?_
 refine U.ps 3 T rfl ?_
 obtain ⟨x31, hx31, hm⟩ := hm
 refine U.r rfl (.none rfl) rfl rfl (by exact Rd.ix T rfl rfl rfl rfl rfl rfl hx31) ?_
 refine U.ps 4 T rfl ?_
 refine hm.cs (fun hb32 hm => ?_) (fun hb32 hm => ?_)
 refine U.pg 3 7 true 39 hb32 T rfl rfl rfl rfl ?_
 refine U.r rfl (.take 7 true 39 _ hb32 rfl rfl rfl) rfl rfl (by exact Rd.ix T rfl rfl rfl rfl rfl rfl hx31) ?_
 refine U.pg 3 7 true 39 hb32 T rfl rfl rfl rfl ?_
 refine U.r rfl (.none rfl) rfl rfl (by exact Rd.pk rfl rfl hb32 rfl) ?_
 refine U.done ?_
 exact St.wk (hJ30 _ hm) (Wk.e)
 refine U.sks 7 7 true 39 hb32 rfl rfl rfl ?_
 refine U.r rfl (.none rfl) rfl rfl (by exact Rd.pk' rfl rfl hb32 rfl) ?_
 refine U.done ?_
 exact St.wk (hJ30 _ hm) (Wk.e)
 refine C.exit (C.ex (C.ex (C.bex ?_)))
 exact St.wk (hJ23 _ hm) (Wk.mk' [] rfl rfl trivial trivial rfl)
theorem T_taquinref15_move (s_1 : ApiSite) (st : ApiState) (robot : Int) (act : Int) (post : Int → Prop) (hm : V_taquinref15_move s_1 st robot act post) :
    Tr Tryz.prog 46 [.agg (eApiSite s_1), .agg (eApiState st), .i robot, .i act] [] 0 (fun A H' k => ∃ y, post y ∧ A = (.i y) ∧ H' = [] ∧ k = 0) := by
 refine Tr.intro (n := 71) Tryz.func46 rfl Tryz.ntmps46 rfl (fun w0 ok F β hβ => ?_)
 unfold V_taquinref15_move at hm
 refine C.seq (U.start ?_)
 refine U.e1 rfl (.none rfl) (by exact Eff1.box rfl rfl rfl rfl rfl) ?_
 refine U.e1 rfl (.none rfl) (by exact Eff1.box rfl rfl rfl rfl rfl) ?_
 refine U.ps 1 T rfl ?_
 refine U.done (C.nx (C.seq (U.start ?_)))
 refine U.ps 3 T rfl ?_
 obtain ⟨x5, hx5, hm⟩ := hm
 refine U.r rfl (.none rfl) rfl rfl (by exact Rd.ix T rfl rfl rfl rfl rfl rfl hx5) ?_
 refine U.ps 1 T rfl ?_
 refine U.e1 rfl (.none rfl) (by exact Eff1.al T rfl rfl rfl rfl) ?_
 refine U.e1 rfl (.none rfl) (by exact Eff1.st T rfl rfl rfl rfl rfl rfl rfl rfl rfl rfl) ?_
 refine U.done (C.nx (C.seq (U.start ?_)))
 refine U.ps 4 T rfl ?_
 refine U.e rfl (.none rfl) (by exact Eff.k (T_taquinref15_Target s_1 st robot act _ hm) en49 rfl rfl rfl (.eq rfl) (fun _ _ => ⟨(.tup (.cons (.v _) (.cons (.v _) .nil))), trivial⟩)) (fun x8' hm => ?_)
 obtain ⟨x8⟩ := x8'
 refine U.ps 5 T rfl ?_
 refine U.done (C.nx (C.seq (C.seq ?_)))
 refine C.jn (fun (x9 : Bool) => [(3, .i act), (4, .p 0 0), (5, .p 1 0), (9, .p 2 0), (10, .i x8.1), (33, .b x9)]) (fun (x9 : Bool) => [(0, .box (eApiSite s_1)), (1, .box (eApiState st)), (2, .box (eApiRobot x5))]) 3 hm (fun x9 hm => ?_) (fun J10 hm hJ10 => ?_)
 refine C.nx ?_
 refine C.ite rfl hm (fun hb13 hm => ?_) (fun hb13 hm => ?_)
 refine C.seq (U.start ?_)
 refine U.ps 1 T rfl ?_
 refine U.done (C.nx (C.ret (C.rt ?_)))
 exact C.f0 T (rs' := [.i 14]) hβ ⟨14, hm, rfl, rfl, rfl⟩
 refine C.skip (C.nx (C.seq (C.seq ?_)))
 refine C.jn (fun (x16 : Bool) => [(4, .p 0 0), (5, .p 1 0), (9, .p 2 0), (10, .i x8.1), (46, .b x16)]) (fun (x16 : Bool) => [(0, .box (eApiSite s_1)), (1, .box (eApiState st)), (2, .box (eApiRobot x5))]) 3 hm (fun x16 hm => ?_) (fun J17 hm hJ17 => ?_)
 refine C.nx ?_
 refine C.ite rfl hm (fun hb22 hm => ?_) (fun hb22 hm => ?_)
 refine C.seq (U.start ?_)
 refine U.ps 1 T rfl ?_
 refine U.done (C.nx (C.ret (C.rt ?_)))
 exact C.f0 T (rs' := [.i 14]) hβ ⟨14, hm, rfl, rfl, rfl⟩
 refine C.skip (C.nx (C.seq (C.seq (U.start ?_))))
 refine U.ps 4 T rfl ?_
 refine U.e rfl (.none rfl) (by exact Eff.k (T_taquinref12_Open s_1 x8.1 st.Tick _ hm) en109 rfl rfl rfl (.eq rfl) (fun _ _ => ⟨(.v _), trivial⟩)) (fun x27' hm => ?_)
 obtain ⟨x27⟩ := x27'
 refine U.ps 1 T rfl ?_
 refine U.done (C.nx ?_)
 refine C.ite rfl hm (fun hb28 hm => ?_) (fun hb28 hm => ?_)
 refine C.seq (U.start ?_)
 refine U.ps 1 T rfl ?_
 refine U.done (C.nx (C.ret (C.rt ?_)))
 exact C.f0 T (rs' := [.i 18]) hβ ⟨18, hm, rfl, rfl, rfl⟩
 refine C.skip (C.nx (C.seq (U.start ?_)))
 refine U.ps 1 T rfl ?_
 refine U.e rfl (.none rfl) (by exact Eff.c [] (v := true) (T_taquinref14_All st _ hm) en93 rfl rfl rfl (.eq rfl) trivial rfl rfl rfl rfl rfl rfl (fun _ _ => ⟨(.o _), ⟨.val (.os _ _ _ fun _ => (.cons (.v _) .nil)), trivial⟩⟩) (.inr ⟨rfl, rfl⟩) (fun _ => rfl) (fun _ => rfl) rfl) (fun x33' hm => ?_)
 obtain ⟨x33⟩ := x33'
 refine U.ps 1 T rfl ?_
 refine U.done (C.nx (C.seq (C.seq ?_)))
 refine C.jn (fun (x34 : Bool) => [(70, .b x34)]) (fun (x34 : Bool) => []) 0 hm (fun x34 hm => ?_) (fun J35 hm hJ35 => ?_)
 refine C.nx ?_
 refine C.ite rfl hm (fun hb40 hm => ?_) (fun hb40 hm => ?_)
 refine C.seq (U.start ?_)
 refine U.ps 1 T rfl ?_
 refine U.done (C.nx (C.ret (C.rt ?_)))
 exact C.f0 T (rs' := [.i 15]) hβ ⟨15, hm, rfl, rfl, rfl⟩
 refine C.skip (C.nx (C.seq (U.start ?_)))
 refine U.ps 1 T rfl ?_
 refine U.done (C.nx (C.ret ?_))
 exact C.f0 T (rs' := [.i 0]) hβ ⟨0, hm, rfl, rfl, rfl⟩
 refine U.start ?_
 refine U.ps 3 T rfl ?_
 refine U.e rfl (.none rfl) (by exact Eff.k (T_taquinref07_Has x33 (w64 (2 * x8.1)) _ hm) en22 rfl rfl rfl (.cons (.fz rfl rfl rfl (.os fun _ => .cons (.ro rfl) .nil)) (.eq rfl)) (fun _ _ => ⟨(.v _), trivial⟩)) (fun x36' hm => ?_)
 obtain ⟨x36⟩ := x36'
 refine U.ps 1 T rfl ?_
 refine hm.cs (fun hb37 hm => ?_) (fun hb37 hm => ?_)
 refine U.sks 4 4 false 59 hb37 rfl rfl rfl ?_
 refine U.sku 5 8 true 63 rfl rfl rfl ?_
 refine U.sks 1 4 false 59 hb37 rfl rfl rfl ?_
 refine U.r rfl (.none rfl) rfl rfl (by exact Rd.pk rfl rfl hb37 rfl) ?_
 refine U.done ?_
 exact St.wk (hJ35 _ hm) (Wk.e)
 refine U.pg 4 4 false 59 hb37 T rfl rfl rfl rfl ?_
 refine hm.cs (fun hb38 hm => ?_) (fun hb38 hm => ?_)
 refine U.pg 4 8 true 63 hb38 T rfl rfl rfl rfl ?_
 refine U.e rfl (.take 8 true 63 _ hb38 rfl rfl rfl) (by exact Eff.k (T_taquinref07_Has x33 (w64 ((w64 (2 * x8.1)) + 1)) _ hm) en22 rfl rfl rfl (.cons (.fz rfl rfl rfl (.os fun _ => .cons (.ro rfl) .nil)) (.eq rfl)) (fun _ _ => ⟨(.v _), trivial⟩)) (fun x39' hm => ?_)
 obtain ⟨x39⟩ := x39'
 refine U.r rfl (.take 4 false 59 _ hb37 rfl rfl rfl) rfl rfl (by exact Rd.pk rfl rfl hb38 rfl) ?_
 refine U.r rfl (.none rfl) rfl rfl (by exact Rd.pk' rfl rfl hb37 rfl) ?_
 refine U.done ?_
 exact St.wk (hJ35 _ hm) (Wk.e)
 refine U.sks 5 8 true 63 hb38 rfl rfl rfl ?_
 refine U.r rfl (.take 4 false 59 _ hb37 rfl rfl rfl) rfl rfl (by exact Rd.pk' rfl rfl hb38 rfl) ?_
 refine U.r rfl (.none rfl) rfl rfl (by exact Rd.pk' rfl rfl hb37 rfl) ?_
 refine U.done ?_
 exact St.wk (hJ35 _ hm) (Wk.e)
 refine U.start ?_
 refine U.ps 3 T rfl ?_
 refine hm.cs (fun hb18 hm => ?_) (fun hb18 hm => ?_)
 refine U.pg 3 2 true 36 hb18 T rfl rfl rfl rfl ?_
 refine U.e rfl (.take 2 true 36 _ hb18 rfl rfl rfl) (by exact Eff.k (T_taquinref15_stuck st x5.Cell _ hm) en108 rfl rfl rfl (.eq rfl) (fun _ _ => ⟨(.v _), trivial⟩)) (fun x19' hm => ?_)
 obtain ⟨x19⟩ := x19'
 refine U.pg 1 2 true 36 hb18 T rfl rfl rfl rfl ?_
 refine hm.cs (fun hb20 hm => ?_) (fun hb20 hm => ?_)
 refine U.sks 3 7 false 41 hb20 rfl rfl rfl ?_
 refine U.r rfl (.take 2 true 36 _ hb18 rfl rfl rfl) rfl rfl (by exact Rd.pk rfl rfl hb20 rfl) ?_
 refine U.r rfl (.none rfl) rfl rfl (by exact Rd.pk rfl rfl hb18 rfl) ?_
 refine U.done ?_
 exact St.wk (hJ17 _ hm) (Wk.f [some 0, some 1, some 2] ⟨bX, bX, bX, trivial⟩)
 refine U.pg 2 7 false 41 hb20 T rfl rfl rfl rfl ?_
 refine U.e rfl (.take 7 false 41 _ hb20 rfl rfl rfl) (by exact Eff.k (T_taquinref15_stuck st x8.1 _ hm) en108 rfl rfl rfl (.eq rfl) (fun _ _ => ⟨(.v _), trivial⟩)) (fun x21' hm => ?_)
 obtain ⟨x21⟩ := x21'
 refine U.r rfl (.take 2 true 36 _ hb18 rfl rfl rfl) rfl rfl (by exact Rd.pk' rfl rfl hb20 rfl) ?_
 refine U.r rfl (.none rfl) rfl rfl (by exact Rd.pk rfl rfl hb18 rfl) ?_
 refine U.done ?_
 exact St.wk (hJ17 _ hm) (Wk.f [some 0, some 1, some 2] ⟨bX, bX, bX, trivial⟩)
 refine U.sks 5 2 true 36 hb18 rfl rfl rfl ?_
 refine U.sku 3 7 false 41 rfl rfl rfl ?_
 refine U.sks 1 2 true 36 hb18 rfl rfl rfl ?_
 refine U.r rfl (.none rfl) rfl rfl (by exact Rd.pk' rfl rfl hb18 rfl) ?_
 refine U.done ?_
 exact St.wk (hJ17 _ hm) (Wk.f [some 0, some 1, some 2] ⟨bX, bX, bX, trivial⟩)
 refine U.start ?_
 refine U.ps 3 T rfl ?_
 refine hm.cs (fun hb11 hm => ?_) (fun hb11 hm => ?_)
 refine U.pg 3 2 false 28 (ntF hb11) T rfl rfl rfl rfl ?_
 refine U.e rfl (.take 2 false 28 _ (ntF hb11) rfl rfl rfl) (by exact Eff.k (T_taquinref07_Has st.Dead x8.1 _ hm) en22 rfl rfl rfl (.eq rfl) (fun _ _ => ⟨(.v _), trivial⟩)) (fun x12' hm => ?_)
 obtain ⟨x12⟩ := x12'
 refine U.r rfl (.none rfl) rfl rfl (by exact Rd.pk' rfl rfl (ntF hb11) rfl) ?_
 refine U.done ?_
 exact St.wk (hJ10 _ hm) (Wk.f [some 0, some 1, some 2] ⟨bX, bX, bX, trivial⟩)
 refine U.sks 4 2 false 28 (ntT hb11) rfl rfl rfl ?_
 refine U.r rfl (.none rfl) rfl rfl (by exact Rd.pk rfl rfl (ntT hb11) rfl) ?_
 refine U.done ?_
 exact St.wk (hJ10 _ hm) (Wk.f [some 0, some 1, some 2] ⟨bX, bX, bX, trivial⟩)
theorem T_taquinref15_Legal (s_1 : ApiSite) (st : ApiState) (robot : Int) (act : Int) (post : Int → Prop) (hm : V_taquinref15_Legal s_1 st robot act post) :
    Tr Tryz.prog 11 [.agg (eApiSite s_1), .agg (eApiState st), .i robot, .i act] [] 0 (fun A H' k => ∃ y, post y ∧ A = (.i y) ∧ H' = [] ∧ k = 0) := by
 refine Tr.intro (n := 101) Tryz.func11 rfl Tryz.ntmps11 rfl (fun w0 ok F β hβ => ?_)
 unfold V_taquinref15_Legal at hm
 refine C.seq (U.start ?_)
 refine U.e1 rfl (.none rfl) (by exact Eff1.box rfl rfl rfl rfl rfl) ?_
 refine U.e1 rfl (.none rfl) (by exact Eff1.box rfl rfl rfl rfl rfl) ?_
 refine U.ps 1 T rfl ?_
 refine U.done (C.nx (C.seq (C.seq ?_)))
 refine C.jn (fun (x3 : Bool) => [(2, .i robot), (3, .i act), (4, .p 0 0), (5, .p 1 0), (20, .b x3)]) (fun (x3 : Bool) => [(0, .box (eApiSite s_1)), (1, .box (eApiState st))]) 2 hm (fun x3 hm => ?_) (fun J4 hm hJ4 => ?_)
 refine C.nx ?_
 refine C.ite rfl hm (fun hb6 hm => ?_) (fun hb6 hm => ?_)
 refine C.seq (U.start ?_)
 refine U.ps 1 T rfl ?_
 refine U.done (C.nx (C.ret (C.rt ?_)))
 exact C.f0 T (rs' := [.i 4]) hβ ⟨4, hm, rfl, rfl, rfl⟩
 refine C.skip (C.nx (C.seq (C.seq ?_)))
 refine C.jn (fun (x9 : Bool) => [(2, .i robot), (3, .i act), (4, .p 0 0), (5, .p 1 0), (26, .b x9)]) (fun (x9 : Bool) => [(0, .box (eApiSite s_1)), (1, .box (eApiState st))]) 2 hm (fun x9 hm => ?_) (fun J10 hm hJ10 => ?_)
 refine C.nx ?_
 refine C.ite rfl hm (fun hb12 hm => ?_) (fun hb12 hm => ?_)
 refine C.seq (U.start ?_)
 refine U.ps 1 T rfl ?_
 refine U.done (C.nx (C.ret (C.rt ?_)))
 exact C.f0 T (rs' := [.i 1]) hβ ⟨1, hm, rfl, rfl, rfl⟩
 refine C.skip (C.nx (C.seq (C.seq (U.start ?_))))
 refine U.ps 2 T rfl ?_
 refine U.done (C.nx ?_)
 refine C.ite rfl hm (fun hb17 hm => ?_) (fun hb17 hm => ?_)
 refine C.seq (U.start ?_)
 refine U.ps 1 T rfl ?_
 refine U.done (C.nx (C.ret (C.rt ?_)))
 exact C.f0 T (rs' := [.i 0]) hβ ⟨0, hm, rfl, rfl, rfl⟩
 refine C.skip (C.nx (C.seq (U.start ?_)))
 refine U.ps 3 T rfl ?_
 obtain ⟨x22, hx22, hm⟩ := hm
 refine U.r rfl (.none rfl) rfl rfl (by exact Rd.ix T rfl rfl rfl rfl rfl rfl hx22) ?_
 refine U.ps 1 T rfl ?_
 refine U.e1 rfl (.none rfl) (by exact Eff1.al T rfl rfl rfl rfl) ?_
 refine U.e1 rfl (.none rfl) (by exact Eff1.st T rfl rfl rfl rfl rfl rfl rfl rfl rfl rfl) ?_
 refine U.done (C.nx (C.seq (C.seq ?_)))
 refine C.jn (fun (x23 : Bool) => [(2, .i robot), (3, .i act), (4, .p 0 0), (5, .p 1 0), (9, .p 2 0), (40, .b x23)]) (fun (x23 : Bool) => [(0, .box (eApiSite s_1)), (1, .box (eApiState st)), (2, .box (eApiRobot x22))]) 3 hm (fun x23 hm => ?_) (fun J24 hm hJ24 => ?_)
 refine C.nx ?_
 refine C.ite rfl hm (fun hb26 hm => ?_) (fun hb26 hm => ?_)
 refine C.seq (U.start ?_)
 refine U.ps 1 T rfl ?_
 refine U.done (C.nx (C.ret (C.rt ?_)))
 exact C.f0 T (rs' := [.i 9]) hβ ⟨9, hm, rfl, rfl, rfl⟩
 refine C.skip (C.nx (C.seq (C.seq ?_)))
 refine C.jn (fun (x29 : Bool) => [(2, .i robot), (3, .i act), (4, .p 0 0), (5, .p 1 0), (9, .p 2 0), (47, .b x29)]) (fun (x29 : Bool) => [(0, .box (eApiSite s_1)), (1, .box (eApiState st)), (2, .box (eApiRobot x22))]) 3 hm (fun x29 hm => ?_) (fun J30 hm hJ30 => ?_)
 refine C.nx ?_
 refine C.ite rfl hm (fun hb33 hm => ?_) (fun hb33 hm => ?_)
 refine C.seq (U.start ?_)
 refine U.ps 1 T rfl ?_
 refine U.done (C.nx (C.ret (C.rt ?_)))
 exact C.f0 T (rs' := [.i 8]) hβ ⟨8, hm, rfl, rfl, rfl⟩
 refine C.skip (C.nx (C.seq (U.start ?_)))
 refine U.ps 8 T rfl ?_
 refine U.e rfl (.none rfl) (by exact Eff.k (T_taquinref13_After st.Tick x22.Charge act (decide (x22.Load ≥ 0)) _ hm) en43 rfl rfl rfl (.eq rfl) (fun _ _ => ⟨(.tup (.cons (.v _) (.cons (.v _) .nil))), trivial⟩)) (fun x38' hm => ?_)
 obtain ⟨x38⟩ := x38'
 refine U.ps 5 T rfl ?_
 refine U.done (C.nx (C.seq (C.seq (U.start ?_))))
 refine U.ps 2 T rfl ?_
 refine U.done (C.nx ?_)
 refine C.ite rfl hm (fun hb41 hm => ?_) (fun hb41 hm => ?_)
 refine C.seq (U.start ?_)
 refine U.ps 1 T rfl ?_
 refine U.done (C.nx (C.ret (C.rt ?_)))
 exact C.f0 T (rs' := [.i 16]) hβ ⟨16, hm, rfl, rfl, rfl⟩
 refine C.skip (C.nx (C.seq (C.seq (U.start ?_))))
 refine U.ps 1 T rfl ?_
 refine U.done (C.nx (C.block (C.seq (U.start ?_))))
 refine U.ps 2 T rfl ?_
 refine U.done (C.nx ?_)
 refine C.ite rfl hm (fun hb48 hm => ?_) (fun hb48 hm => ?_)
 refine C.seq (C.seq (U.start ?_))
 refine U.ps 3 T rfl ?_
 refine U.done (C.nx ?_)
 refine C.ite rfl hm (fun hb51 hm => ?_) (fun hb51 hm => ?_)
 refine C.seq (U.start ?_)
 refine U.ps 1 T rfl ?_
 refine U.done (C.nx (C.ret (C.rt (C.brt (C.rt ?_)))))
 exact C.f0 T (rs' := [.i 7]) hβ ⟨7, hm, rfl, rfl, rfl⟩
 refine C.skip (C.nx (C.seq (C.seq (U.start ?_))))
 refine U.ps 4 T rfl ?_
 refine U.e rfl (.none rfl) (by exact Eff.k (T_taquinref12_At s_1 st x22.Cell _ hm) en44 rfl rfl rfl (.eq rfl) (fun _ _ => ⟨(.v _), trivial⟩)) (fun x56' hm => ?_)
 obtain ⟨x56⟩ := x56'
 refine U.ps 1 T rfl ?_
 refine U.done (C.nx ?_)
 refine C.ite rfl hm (fun hb57 hm => ?_) (fun hb57 hm => ?_)
 refine C.seq (U.start ?_)
 refine U.ps 1 T rfl ?_
 refine U.done (C.nx (C.ret (C.rt (C.brt (C.rt ?_)))))
 exact C.f0 T (rs' := [.i 4]) hβ ⟨4, hm, rfl, rfl, rfl⟩
 refine C.skip (C.nx (C.seq (U.start ?_)))
 refine U.ps 1 T rfl ?_
 refine U.done (C.nx (C.ret (C.brt (C.rt ?_))))
 exact C.f0 T (rs' := [.i 0]) hβ ⟨0, hm, rfl, rfl, rfl⟩
 refine C.seq (U.start ?_)
 refine U.ps 2 T rfl ?_
 refine U.done (C.nx ?_)
 refine C.ite rfl hm (fun hb64 hm => ?_) (fun hb64 hm => ?_)
 refine C.seq (C.seq (U.start ?_))
 refine U.ps 3 T rfl ?_
 refine U.done (C.nx ?_)
 refine C.ite rfl hm (fun hb67 hm => ?_) (fun hb67 hm => ?_)
 refine C.seq (U.start ?_)
 refine U.ps 1 T rfl ?_
 refine U.done (C.nx (C.ret (C.rt (C.brt (C.rt ?_)))))
 exact C.f0 T (rs' := [.i 7]) hβ ⟨7, hm, rfl, rfl, rfl⟩
 refine C.skip (C.nx (C.seq (U.start ?_)))
 refine U.ps 6 T rfl ?_
 refine U.e rfl (.none rfl) (by exact Eff.k (T_taquinref12_Drop s_1 st x22.Load x22.Cell _ hm) en45 rfl rfl rfl (.eq rfl) (fun _ _ => ⟨(.v _), trivial⟩)) (fun x72' hm => ?_)
 obtain ⟨x72⟩ := x72'
 refine U.ps 1 T rfl ?_
 refine U.done (C.nx (C.ret (C.brt (C.rt ?_))))
 exact C.f0 T (rs' := [.i x72]) hβ ⟨x72, hm, rfl, rfl, rfl⟩
 refine C.seq (U.start ?_)
 refine U.ps 2 T rfl ?_
 refine U.done (C.nx ?_)
 refine C.ite rfl hm (fun hb75 hm => ?_) (fun hb75 hm => ?_)
 refine C.seq (C.seq (U.start ?_))
 refine U.ps 5 T rfl ?_
 obtain ⟨x78, hx78, hm⟩ := hm
 refine U.r rfl (.none rfl) rfl rfl (by exact Rd.ix T rfl rfl rfl rfl rfl rfl hx78) ?_
 refine U.ps 2 T rfl ?_
 refine U.done (C.nx ?_)
 refine C.ite rfl hm (fun hb79 hm => ?_) (fun hb79 hm => ?_)
 refine C.seq (U.start ?_)
 refine U.ps 1 T rfl ?_
 refine U.done (C.nx (C.ret (C.rt (C.brt (C.rt ?_)))))
 exact C.f0 T (rs' := [.i 13]) hβ ⟨13, hm, rfl, rfl, rfl⟩
 refine C.skip (C.nx (C.seq (U.start ?_)))
 refine U.ps 1 T rfl ?_
 refine U.done (C.nx (C.ret (C.brt (C.rt ?_))))
 exact C.f0 T (rs' := [.i 0]) hβ ⟨0, hm, rfl, rfl, rfl⟩
 refine C.skip (C.bnx (C.nx (C.seq (U.start ?_))))
 refine U.ps 4 T rfl ?_
 refine U.e rfl (.none rfl) (by exact Eff.k (T_taquinref15_move s_1 st robot act _ hm) en46 rfl rfl rfl (.eq rfl) (fun _ _ => ⟨(.v _), trivial⟩)) (fun x86' hm => ?_)
 obtain ⟨x86⟩ := x86'
 refine U.ps 1 T rfl ?_
 refine U.done (C.nx (C.ret ?_))
 exact C.f0 T (rs' := [.i x86]) hβ ⟨x86, hm, rfl, rfl, rfl⟩
 refine U.start ?_
 refine U.ps 1 T rfl ?_
 refine U.e rfl (.none rfl) (by exact Eff.k (T_taquinref15_Move act _ hm) en42 rfl rfl rfl (.eq rfl) (fun _ _ => ⟨(.v _), trivial⟩)) (fun x31' hm => ?_)
 obtain ⟨x31⟩ := x31'
 refine U.ps 1 T rfl ?_
 refine hm.cs (fun hb32 hm => ?_) (fun hb32 hm => ?_)
 refine U.pg 3 2 true 43 hb32 T rfl rfl rfl rfl ?_
 refine U.r rfl (.none rfl) rfl rfl (by exact Rd.pk rfl rfl hb32 rfl) ?_
 refine U.done ?_
 exact St.wk (hJ30 _ hm) (Wk.f [some 0, some 1, some 2] ⟨bX, bX, bX, trivial⟩)
 refine U.sks 3 2 true 43 hb32 rfl rfl rfl ?_
 refine U.r rfl (.none rfl) rfl rfl (by exact Rd.pk' rfl rfl hb32 rfl) ?_
 refine U.done ?_
 exact St.wk (hJ30 _ hm) (Wk.f [some 0, some 1, some 2] ⟨bX, bX, bX, trivial⟩)
 refine U.start ?_
 refine U.ps 3 T rfl ?_
 refine hm.cs (fun hb25 hm => ?_) (fun hb25 hm => ?_)
 refine U.sks 3 2 false 36 hb25 rfl rfl rfl ?_
 refine U.r rfl (.none rfl) rfl rfl (by exact Rd.pk rfl rfl hb25 rfl) ?_
 refine U.done ?_
 exact St.wk (hJ24 _ hm) (Wk.f [some 0, some 1, some 2] ⟨bX, bX, bX, trivial⟩)
 refine U.pg 3 2 false 36 hb25 T rfl rfl rfl rfl ?_
 refine U.r rfl (.none rfl) rfl rfl (by exact Rd.pk' rfl rfl hb25 rfl) ?_
 refine U.done ?_
 exact St.wk (hJ24 _ hm) (Wk.f [some 0, some 1, some 2] ⟨bX, bX, bX, trivial⟩)
 refine U.start ?_
 refine U.ps 3 T rfl ?_
 refine hm.cs (fun hb11 hm => ?_) (fun hb11 hm => ?_)
 refine U.sks 2 2 false 23 hb11 rfl rfl rfl ?_
 refine U.r rfl (.none rfl) rfl rfl (by exact Rd.pk rfl rfl hb11 rfl) ?_
 refine U.done ?_
 exact St.wk (hJ10 _ hm) (Wk.f [some 0, some 1] ⟨bX, bX, trivial⟩)
 refine U.pg 2 2 false 23 hb11 T rfl rfl rfl rfl ?_
 refine U.r rfl (.none rfl) rfl rfl (by exact Rd.pk' rfl rfl hb11 rfl) ?_
 refine U.done ?_
 exact St.wk (hJ10 _ hm) (Wk.f [some 0, some 1] ⟨bX, bX, trivial⟩)
 refine U.start ?_
 refine U.ps 3 T rfl ?_
 refine hm.cs (fun hb5 hm => ?_) (fun hb5 hm => ?_)
 refine U.sks 5 2 false 14 hb5 rfl rfl rfl ?_
 refine U.r rfl (.none rfl) rfl rfl (by exact Rd.pk rfl rfl hb5 rfl) ?_
 refine U.done ?_
 exact St.wk (hJ4 _ hm) (Wk.f [some 0, some 1] ⟨bX, bX, trivial⟩)
 refine U.pg 5 2 false 14 hb5 T rfl rfl rfl rfl ?_
 refine U.r rfl (.none rfl) rfl rfl (by exact Rd.pk' rfl rfl hb5 rfl) ?_
 refine U.done ?_
 exact St.wk (hJ4 _ hm) (Wk.f [some 0, some 1] ⟨bX, bX, trivial⟩)
theorem T_act_Acts (s_1 : ApiSite) (st : ApiState) (robot : Int) (post : (List Int) → Prop) (hm : V_act_Acts s_1 st robot post) :
    Tr Tryz.prog 13 [.agg (eApiSite s_1), .agg (eApiState st), .i robot] [] 0 (fun A H' k => ∃ y, post y ∧ A = (.o 0) ∧ H' = [(0, .val (.os 1 eI y))] ∧ k = 1) := by
 refine Tr.intro (n := 24) Tryz.func13 rfl Tryz.ntmps13 rfl (fun w0 ok F β hβ => ?_)
 unfold V_act_Acts at hm
 refine C.seq (U.start ?_)
 refine U.e1 rfl (.none rfl) (by exact Eff1.box rfl rfl rfl rfl rfl) ?_
 refine U.e1 rfl (.none rfl) (by exact Eff1.box rfl rfl rfl rfl rfl) ?_
 refine U.ps 1 T rfl ?_
 refine U.done (C.nx (C.seq (U.start ?_)))
 refine U.ps 1 T rfl ?_
 refine U.done (C.nx (C.seq (C.seq (U.start ?_))))
 refine U.ps 1 T rfl ?_
 refine U.done (C.nx ?_)
 refine C.jn (fun (x7 : List Int) => [(7, .o 0)]) (fun (x7 : List Int) => [(0, .val (.os 1 eI x7))]) 1 hm (fun x7 hm => ?_) (fun J8 hm hJ8 => ?_)
 refine C.nx (C.seq (U.start ?_))
 refine U.ps 2 T rfl ?_
 refine U.done (C.nx (C.ret ?_))
 exact C.fin T (rs' := [.o 0]) (H' := [(0, .val (.os 1 eI x7))]) (nl' := 1) [some 0] rfl rfl (.eq rfl) ⟨vL, trivial⟩ rfl rfl rfl rfl hβ ⟨x7, hm, rfl, rfl, rfl⟩
 refine C.block ?_
 refine St.wk (C.loop (fun (s9 : List Int × Int) => [(2, .i robot), (3, .p 0 0), (4, .p 1 0), (7, .o 2), (9, .i s9.2)]) (fun (s9 : List Int × Int) => [(0, .box (eApiSite s_1)), (1, .box (eApiState st)), (2, .val (.os 1 eI s9.1))]) hm (fun s9 Y10 hm => ?_)) (Wk.mk' [some 0, some 1, none] rfl rfl ⟨⟨_, rfl, (.eq rfl)⟩, ⟨_, rfl, (.eq rfl)⟩, ⟨_, rfl, (.eq rfl)⟩, ⟨_, rfl, (.nilO _ _ ⟨rfl, rfl⟩ rfl)⟩, ChkG.eqs rfl⟩ ⟨bX, bX, ⟨_, rfl, .nil _ _⟩, trivial⟩ rfl)
 refine C.seq (U.start ?_)
 refine U.ps 1 T rfl ?_
 refine U.done (C.nx (C.seq ?_))
 refine C.ite rfl hm (fun hb13 hm => ?_) (fun hb13 hm => ?_)
 refine C.skip (C.nx (C.seq (C.block (C.seq (U.start ?_)))))
 refine U.ps 2 T rfl ?_
 refine U.done (C.nx (C.seq (U.start ?_)))
 refine U.ps 4 T rfl ?_
 refine U.e rfl (.none rfl) (by exact Eff.k (T_act_Legal s_1 st robot s9.2 _ hm) en10 rfl rfl rfl (.eq rfl) (fun _ _ => ⟨(.v _), trivial⟩)) (fun x18' hm => ?_)
 obtain ⟨x18⟩ := x18'
 refine U.ps 1 T rfl ?_
 refine U.done (C.nx ?_)
 refine C.jn (fun (x19 : List Int) => [(2, .i robot), (3, .p 0 0), (4, .p 1 0), (7, .o 2), (9, .i s9.2)]) (fun (x19 : List Int) => [(0, .box (eApiSite s_1)), (1, .box (eApiState st)), (2, .val (.os 1 eI x19))]) 3 hm (fun x19 hm => ?_) (fun J20 hm hJ20 => ?_)
 refine C.bnx (C.nx (U.start ?_))
 refine U.ps 2 T rfl ?_
 refine U.done (C.nx ?_)
 exact St.wk (C.next hm) (Wk.f [some 0, some 1, some 2] ⟨bX, bX, vL, trivial⟩)
 refine C.ite rfl hm (fun hb21 hm => ?_) (fun hb21 hm => ?_)
 refine U.start ?_
 refine U.ps 2 T rfl ?_
 refine U.e1 rfl (.none rfl) (by exact Eff1.bs T (enc := eI) (xs := ([s9.2] : List Int)) rfl rfl rfl rfl rfl rfl rfl rfl rfl rfl (fun _ _ => rfl) rfl rfl) ?_
 obtain ⟨hx24, hm⟩ := hm
 refine U.e1 rfl (.none rfl) (by exact Eff1.ap T rfl rfl rfl rfl rfl rfl (.inr ⟨_, rfl, rfl⟩) rfl rfl rfl (fun _ => rfl) rfl hx24) ?_
 refine U.ps 1 T rfl ?_
 refine U.done ?_
 exact St.wk (hJ20 _ hm) (Wk.f [some 0, some 1, some 4] ⟨bX, bX, vL, trivial⟩)
 refine C.skip ?_
 exact St.wk (hJ20 _ hm) (Wk.f [some 0, some 1, some 2] ⟨bX, bX, vL, trivial⟩)
 refine C.exit (C.ex (C.ex (C.bex ?_)))
 exact St.wk (hJ8 _ hm) (Wk.f [some 2] ⟨vL, trivial⟩)
theorem T_taquinref15_Acts (s_1 : ApiSite) (st : ApiState) (robot : Int) (post : (List Int) → Prop) (hm : V_taquinref15_Acts s_1 st robot post) :
    Tr Tryz.prog 14 [.agg (eApiSite s_1), .agg (eApiState st), .i robot] [] 0 (fun A H' k => ∃ y, post y ∧ A = (.o 0) ∧ H' = [(0, .val (.os 1 eI y))] ∧ k = 1) := by
 refine Tr.intro (n := 24) Tryz.func14 rfl Tryz.ntmps14 rfl (fun w0 ok F β hβ => ?_)
 unfold V_taquinref15_Acts at hm
 refine C.seq (U.start ?_)
 refine U.e1 rfl (.none rfl) (by exact Eff1.box rfl rfl rfl rfl rfl) ?_
 refine U.e1 rfl (.none rfl) (by exact Eff1.box rfl rfl rfl rfl rfl) ?_
 refine U.ps 1 T rfl ?_
 refine U.done (C.nx (C.seq (U.start ?_)))
 refine U.ps 1 T rfl ?_
 refine U.done (C.nx (C.seq (C.seq (U.start ?_))))
 refine U.ps 1 T rfl ?_
 refine U.done (C.nx ?_)
 refine C.jn (fun (x7 : List Int) => [(7, .o 0)]) (fun (x7 : List Int) => [(0, .val (.os 1 eI x7))]) 1 hm (fun x7 hm => ?_) (fun J8 hm hJ8 => ?_)
 refine C.nx (C.seq (U.start ?_))
 refine U.ps 2 T rfl ?_
 refine U.done (C.nx (C.ret ?_))
 exact C.fin T (rs' := [.o 0]) (H' := [(0, .val (.os 1 eI x7))]) (nl' := 1) [some 0] rfl rfl (.eq rfl) ⟨vL, trivial⟩ rfl rfl rfl rfl hβ ⟨x7, hm, rfl, rfl, rfl⟩
 refine C.block ?_
 refine St.wk (C.loop (fun (s9 : List Int × Int) => [(2, .i robot), (3, .p 0 0), (4, .p 1 0), (7, .o 2), (8, .i s9.2)]) (fun (s9 : List Int × Int) => [(0, .box (eApiSite s_1)), (1, .box (eApiState st)), (2, .val (.os 1 eI s9.1))]) hm (fun s9 Y10 hm => ?_)) (Wk.mk' [some 0, some 1, none] rfl rfl ⟨⟨_, rfl, (.eq rfl)⟩, ⟨_, rfl, (.eq rfl)⟩, ⟨_, rfl, (.eq rfl)⟩, ⟨_, rfl, (.nilO _ _ ⟨rfl, rfl⟩ rfl)⟩, ChkG.eqs rfl⟩ ⟨bX, bX, ⟨_, rfl, .nil _ _⟩, trivial⟩ rfl)
 refine C.seq (C.seq (U.start ?_))
 refine U.ps 2 T rfl ?_
 refine U.done (C.nx ?_)
 refine C.ite rfl hm (fun hb13 hm => ?_) (fun hb13 hm => ?_)
 refine C.skip (C.nx (C.seq (C.block (C.seq (U.start ?_)))))
 refine U.ps 4 T rfl ?_
 refine U.e rfl (.none rfl) (by exact Eff.k (T_taquinref15_Legal s_1 st robot s9.2 _ hm) en11 rfl rfl rfl (.eq rfl) (fun _ _ => ⟨(.v _), trivial⟩)) (fun x16' hm => ?_)
 obtain ⟨x16⟩ := x16'
 refine U.ps 1 T rfl ?_
 refine U.done (C.nx ?_)
 refine C.jn (fun (x17 : List Int) => [(2, .i robot), (3, .p 0 0), (4, .p 1 0), (7, .o 2), (8, .i s9.2)]) (fun (x17 : List Int) => [(0, .box (eApiSite s_1)), (1, .box (eApiState st)), (2, .val (.os 1 eI x17))]) 3 hm (fun x17 hm => ?_) (fun J18 hm hJ18 => ?_)
 refine C.bnx (C.nx (U.start ?_))
 refine U.ps 3 T rfl ?_
 refine U.done (C.nx ?_)
 exact St.wk (C.next hm) (Wk.f [some 0, some 1, some 2] ⟨bX, bX, vL, trivial⟩)
 refine C.ite rfl hm (fun hb19 hm => ?_) (fun hb19 hm => ?_)
 refine U.start ?_
 refine U.ps 2 T rfl ?_
 refine U.e1 rfl (.none rfl) (by exact Eff1.bs T (enc := eI) (xs := ([s9.2] : List Int)) rfl rfl rfl rfl rfl rfl rfl rfl rfl rfl (fun _ _ => rfl) rfl rfl) ?_
 obtain ⟨hx22, hm⟩ := hm
 refine U.e1 rfl (.none rfl) (by exact Eff1.ap T rfl rfl rfl rfl rfl rfl (.inr ⟨_, rfl, rfl⟩) rfl rfl rfl (fun _ => rfl) rfl hx22) ?_
 refine U.ps 1 T rfl ?_
 refine U.done ?_
 exact St.wk (hJ18 _ hm) (Wk.f [some 0, some 1, some 4] ⟨bX, bX, vL, trivial⟩)
 refine C.skip ?_
 exact St.wk (hJ18 _ hm) (Wk.f [some 0, some 1, some 2] ⟨bX, bX, vL, trivial⟩)
 refine C.exit (C.ex (C.ex (C.bex ?_)))
 exact St.wk (hJ8 _ hm) (Wk.f [some 2] ⟨vL, trivial⟩)
theorem T_taquinref07_Same (a : List Int) (b : List Int) (post : Bool → Prop) (hm : V_taquinref07_Same a b post) :
    Tr Tryz.prog 12 [.sl 1 eI a, .sl 1 eI b] [] 0 (fun A H' k => ∃ y, post y ∧ A = (.b y) ∧ H' = [] ∧ k = 0) := by
 refine Tr.intro (n := 26) Tryz.func12 rfl Tryz.ntmps12 rfl (fun w0 ok F β hβ => ?_)
 unfold V_taquinref07_Same at hm
 refine C.seq (U.start ?_)
 refine U.ps 1 T rfl ?_
 refine U.done (C.nx (C.seq (C.seq (U.start ?_))))
 refine U.ps 5 T rfl ?_
 refine U.done (C.nx ?_)
 refine C.ite rfl hm (fun hb5 hm => ?_) (fun hb5 hm => ?_)
 refine C.seq (U.start ?_)
 refine U.ps 1 T rfl ?_
 refine U.done (C.nx (C.ret (C.rt ?_)))
 exact C.f0 T (rs' := [.b false]) hβ ⟨false, hm, rfl, rfl, rfl⟩
 refine C.skip (C.nx (C.seq (C.seq (U.start ?_))))
 refine U.ps 1 T rfl ?_
 refine U.done (C.nx ?_)
 refine C.jn (fun (x10 : Unit) => []) (fun (x10 : Unit) => []) 0 hm (fun x10 hm => ?_) (fun J11 hm hJ11 => ?_)
 refine C.nx (C.seq (U.start ?_))
 refine U.ps 1 T rfl ?_
 refine U.done (C.nx (C.ret ?_))
 exact C.f0 T (rs' := [.b true]) hβ ⟨true, hm, rfl, rfl, rfl⟩
 refine C.block ?_
 refine St.wk (C.loop (fun (s12 : Int) => [(0, .sl 1 eI a), (1, .sl 1 eI b), (5, .i s12)]) (fun (s12 : Int) => []) hm (fun s12 Y13 hm => ?_)) (Wk.e)
 refine C.seq (C.seq (U.start ?_))
 refine U.ps 4 T rfl ?_
 refine U.done (C.nx ?_)
 refine C.ite rfl hm (fun hb16 hm => ?_) (fun hb16 hm => ?_)
 refine C.skip (C.nx (C.seq (C.block (C.seq ?_))))
 refine D.beg 9999 [] [] mix rfl rfl (by kernel_rfl) (by repeat (first | exact NoPanicQ.body | exact NoPanicQ.rnd | refine NoPanicQ.th ?_ | refine NoPanicQ.blk ?_)) (fun hQ hS ws M' => ?_)
 refine D.ps 2 [(0, []), (1, [])] rfl hQ hS T rfl rfl (by kernel_rfl) ?_
 obtain ⟨x19, hx19, hm⟩ := hm
 refine D.q 2 [] hQ hS rfl (.none rfl) rfl rfl (by exact Rd.ix T rfl rfl rfl rfl rfl rfl hx19) rfl (by kernel_rfl) ?_
 refine D.ps 3 [(3, []), (4, []), (5, [])] rfl hQ hS T rfl rfl (by kernel_rfl) ?_
 obtain ⟨x20, hx20, hm⟩ := hm
 refine D.q 6 [] hQ hS rfl (.none rfl) rfl rfl (by exact Rd.ix T rfl rfl rfl rfl rfl rfl hx20) rfl (by kernel_rfl) ?_
 refine D.ps 2 [(7, []), (8, [])] rfl hQ hS T rfl rfl (by kernel_rfl) ?_
 refine D.done (by kernel_rfl) ?_
 refine C.nx ?_
 refine C.ite rfl hm (fun hb21 hm => ?_) (fun hb21 hm => ?_)
 refine C.seq (U.start ?_)
 refine U.ps 1 T rfl ?_
 refine U.done (C.nx (C.ret (C.brt (C.rt (C.rt (C.brt (C.rt ?_)))))))
 exact C.f0 T (rs' := [.b false]) hβ ⟨false, hm, rfl, rfl, rfl⟩
 refine C.skip (C.bnx (C.nx (U.start ?_)))
 refine U.ps 3 T rfl ?_
 refine U.done (C.nx ?_)
 exact St.wk (C.next hm) (Wk.e)
 refine C.exit (C.ex (C.ex (C.bex ?_)))
 exact St.wk (hJ11 _ hm) (Wk.mk' [] rfl rfl trivial trivial rfl)
theorem T_taquinref14_Clone (st : ApiState) (post : ApiState → Prop) (hm : V_taquinref14_Clone st post) :
    Tr Tryz.prog 48 [.agg (eApiState st)] [] 0 (fun A H' k => ∃ y, post y ∧ A = (.agg [.i y.Tick, .o 0, .o 1, .o 2, .o 3, .o 4]) ∧ H' = [(0, .val (.os 1 eI y.Shelves)), (1, .val (.os 6 eApiRobot y.Robots)), (2, .val (.os 1 eI y.People)), (3, .val (.os 1 eI y.Dead)), (4, .val (.os 2 eApiStuck y.Stuck))] ∧ k = 5) := by
 refine Tr.intro (n := 26) Tryz.func48 rfl Tryz.ntmps48 rfl (fun w0 ok F β hβ => ?_)
 unfold V_taquinref14_Clone at hm
 refine C.seq (U.start ?_)
 refine U.e1 rfl (.none rfl) (by exact Eff1.box rfl rfl rfl rfl rfl) ?_
 refine U.e1 rfl (.none rfl) (by exact Eff1.al T rfl rfl rfl rfl) ?_
 refine U.done (C.nx (C.seq ?_))
 refine D.beg 23 [0] [2, 3, 4, 5, 6, 7, 8, 9, 10] mix rfl rfl (by kernel_rfl) (by repeat (first | exact NoPanicQ.body | exact NoPanicQ.rnd | refine NoPanicQ.th ?_ | refine NoPanicQ.blk ?_)) (fun hQ hS ws M' => ?_)
 refine D.ps 12 [(0, []), (1, []), (3, []), (4, []), (7, []), (8, []), (11, []), (12, []), (15, []), (16, []), (19, []), (20, [])] rfl hQ hS T rfl rfl (by kernel_rfl) ?_
 obtain ⟨hx5, hm⟩ := hm
 obtain ⟨hx6, hm⟩ := hm
 obtain ⟨hx7, hm⟩ := hm
 obtain ⟨hx8, hm⟩ := hm
 refine D.have false [(0, .agg (eApiState st)), (1, .p 0 0), (2, .p 1 0), (3, .p 0 0), (4, .i st.Tick), (5, .o 2), (6, .p 0 1), (7, .sl 1 eI st.Shelves), (8, .o 3), (9, .o 4), (10, .p 0 2), (11, .sl 6 eApiRobot st.Robots), (12, .o 5), (13, .o 6), (14, .p 0 3), (15, .sl 1 eI st.People), (16, .o 7), (17, .o 8), (18, .p 0 4), (19, .sl 1 eI st.Dead), (20, .o 9), (21, .o 10), (22, .p 0 5), (23, .sl 2 eApiStuck st.Stuck)] [(0, .box (eApiState st)), (1, .box [.i 0, .v (.slice none 0 0), .v (.slice none 0 0), .v (.slice none 0 0), .v (.slice none 0 0), .v (.slice none 0 0)]), (3, .val (.os 1 eI (([] : List Int) ++ st.Shelves))), (5, .val (.os 6 eApiRobot (([] : List ApiRobot) ++ st.Robots))), (7, .val (.os 1 eI (([] : List Int) ++ st.People))), (9, .val (.os 1 eI (([] : List Int) ++ st.Dead))), (10, .val (.os 2 eApiStuck ([] : List ApiStuck)))] 11 3 #[true, true, true, true, true, true, true, true, true, true, true, true, true, true, true, true, true, true, true, true, true, false, false, false] ?_ (fun hd4_61 => ?_)
 obtain ⟨hx9, hm⟩ := hm
 refine D.e1 21 rfl (.none rfl) (by exact Eff1.ap T rfl rfl rfl rfl rfl rfl (.inl rfl) rfl rfl rfl (fun _ => rfl) rfl hx9) (by kernel_rfl) rfl rfl ?_
 refine D.ps 1 [(22, [])] rfl hQ hS T rfl rfl (by kernel_rfl) ?_
 refine D.ze1 rfl (.none rfl) (by exact Eff1.st T rfl rfl rfl rfl rfl rfl rfl rfl rfl rfl) (by kernel_rfl) (by kernel_rfl) ?_
 refine C.nx (C.ret ?_)
 exact C.fin T (rs' := [.agg [.i (({ Tick := st.Tick, Shelves := (([] : List Int) ++ st.Shelves), Robots := (([] : List ApiRobot) ++ st.Robots), People := (([] : List Int) ++ st.People), Dead := (([] : List Int) ++ st.Dead), Stuck := (([] : List ApiStuck) ++ st.Stuck) : ApiState }).Tick), .o 0, .o 1, .o 2, .o 3, .o 4]]) (H' := [(0, .val (.os 1 eI (({ Tick := st.Tick, Shelves := (([] : List Int) ++ st.Shelves), Robots := (([] : List ApiRobot) ++ st.Robots), People := (([] : List Int) ++ st.People), Dead := (([] : List Int) ++ st.Dead), Stuck := (([] : List ApiStuck) ++ st.Stuck) : ApiState }).Shelves))), (1, .val (.os 6 eApiRobot (({ Tick := st.Tick, Shelves := (([] : List Int) ++ st.Shelves), Robots := (([] : List ApiRobot) ++ st.Robots), People := (([] : List Int) ++ st.People), Dead := (([] : List Int) ++ st.Dead), Stuck := (([] : List ApiStuck) ++ st.Stuck) : ApiState }).Robots))), (2, .val (.os 1 eI (({ Tick := st.Tick, Shelves := (([] : List Int) ++ st.Shelves), Robots := (([] : List ApiRobot) ++ st.Robots), People := (([] : List Int) ++ st.People), Dead := (([] : List Int) ++ st.Dead), Stuck := (([] : List ApiStuck) ++ st.Stuck) : ApiState }).People))), (3, .val (.os 1 eI (({ Tick := st.Tick, Shelves := (([] : List Int) ++ st.Shelves), Robots := (([] : List ApiRobot) ++ st.Robots), People := (([] : List Int) ++ st.People), Dead := (([] : List Int) ++ st.Dead), Stuck := (([] : List ApiStuck) ++ st.Stuck) : ApiState }).Dead))), (4, .val (.os 2 eApiStuck (({ Tick := st.Tick, Shelves := (([] : List Int) ++ st.Shelves), Robots := (([] : List ApiRobot) ++ st.Robots), People := (([] : List Int) ++ st.People), Dead := (([] : List Int) ++ st.Dead), Stuck := (([] : List ApiStuck) ++ st.Stuck) : ApiState }).Stuck)))]) (nl' := 5) [some 3, some 5, some 7, some 9, some 11] rfl rfl (.eq rfl) ⟨vL, vL, vL, vL, vL, trivial⟩ rfl rfl rfl rfl hβ ⟨({ Tick := st.Tick, Shelves := (([] : List Int) ++ st.Shelves), Robots := (([] : List ApiRobot) ++ st.Robots), People := (([] : List Int) ++ st.People), Dead := (([] : List Int) ++ st.Dead), Stuck := (([] : List ApiStuck) ++ st.Stuck) : ApiState }), hm, rfl, rfl, rfl⟩
 refine D.have false [(0, .agg (eApiState st)), (1, .p 0 0), (2, .p 1 0), (3, .p 0 0), (4, .i st.Tick), (5, .o 2), (6, .p 0 1), (7, .sl 1 eI st.Shelves), (8, .o 3), (9, .o 4), (10, .p 0 2), (11, .sl 6 eApiRobot st.Robots), (12, .o 5), (13, .o 6), (14, .p 0 3), (15, .sl 1 eI st.People), (16, .o 7), (17, .o 8), (18, .p 0 4), (19, .sl 1 eI st.Dead), (20, .o 9), (22, .p 0 5), (23, .sl 2 eApiStuck st.Stuck)] [(0, .box (eApiState st)), (1, .box [.i 0, .v (.slice none 0 0), .v (.slice none 0 0), .v (.slice none 0 0), .v (.slice none 0 0), .v (.slice none 0 0)]), (3, .val (.os 1 eI (([] : List Int) ++ st.Shelves))), (5, .val (.os 6 eApiRobot (([] : List ApiRobot) ++ st.Robots))), (7, .val (.os 1 eI (([] : List Int) ++ st.People))), (9, .val (.os 1 eI (([] : List Int) ++ st.Dead)))] 10 4 #[true, true, true, true, true, true, true, true, true, true, true, true, true, true, true, true, true, true, false, true, true, false, false, false] ?_ (fun hd4_59 => ?_)
 refine D.all 18 [] (by kernel_rfl) ⟨?_, trivial⟩
 refine D.ef1 rfl (.none rfl) (by exact Eff1.bs T (enc := eApiStuck) (xs := ([] : List ApiStuck)) rfl rfl rfl rfl rfl rfl rfl rfl rfl rfl (fun _ _ => rfl) rfl rfl) rfl rfl ?_
 exact D.to [some 0, some 1, some 2, some 3, some 4, some 5, some 6, some 7, some 8, some 9, some 10] hd4_61 (by kernel_rfl) rfl rfl (.eqs rfl) ⟨bX, bX, vL, vL, vL, vL, vL, trivial⟩ rfl rfl rfl
 refine D.have false [(0, .agg (eApiState st)), (1, .p 0 0), (2, .p 1 0), (3, .p 0 0), (4, .i st.Tick), (5, .o 2), (6, .p 0 1), (7, .sl 1 eI st.Shelves), (8, .o 3), (9, .o 4), (10, .p 0 2), (11, .sl 6 eApiRobot st.Robots), (12, .o 5), (13, .o 6), (14, .p 0 3), (15, .sl 1 eI st.People), (16, .o 7), (17, .o 8), (18, .p 0 4), (19, .sl 1 eI st.Dead), (21, .o 9), (22, .p 0 5), (23, .sl 2 eApiStuck st.Stuck)] [(0, .box (eApiState st)), (1, .box [.i 0, .v (.slice none 0 0), .v (.slice none 0 0), .v (.slice none 0 0), .v (.slice none 0 0), .v (.slice none 0 0)]), (3, .val (.os 1 eI (([] : List Int) ++ st.Shelves))), (5, .val (.os 6 eApiRobot (([] : List ApiRobot) ++ st.Robots))), (7, .val (.os 1 eI (([] : List Int) ++ st.People))), (8, .val (.os 1 eI ([] : List Int))), (9, .val (.os 2 eApiStuck ([] : List ApiStuck)))] 10 4 #[true, true, true, true, true, true, true, true, true, true, true, true, true, true, true, true, true, false, true, true, true, false, false, false] ?_ (fun hd4_60 => ?_)
 refine D.all 17 [] (by kernel_rfl) ⟨?_, trivial⟩
 refine D.ef1 rfl (.none rfl) (by exact Eff1.ap T rfl rfl rfl rfl rfl rfl (.inl rfl) rfl rfl rfl (fun _ => rfl) rfl hx8) rfl rfl ?_
 exact D.to [some 0, some 1, some 2, some 3, some 4, some 5, some 6, some 7, some 8, some 10, some 9] hd4_61 (by kernel_rfl) rfl rfl (.eqs rfl) ⟨bX, bX, vL, vL, vL, vL, vL, trivial⟩ rfl rfl rfl
 refine D.have false [(0, .agg (eApiState st)), (1, .p 0 0), (2, .p 1 0), (3, .p 0 0), (4, .i st.Tick), (5, .o 2), (6, .p 0 1), (7, .sl 1 eI st.Shelves), (8, .o 3), (9, .o 4), (10, .p 0 2), (11, .sl 6 eApiRobot st.Robots), (12, .o 5), (13, .o 6), (14, .p 0 3), (15, .sl 1 eI st.People), (16, .o 7), (17, .o 8), (18, .p 0 4), (19, .sl 1 eI st.Dead), (22, .p 0 5), (23, .sl 2 eApiStuck st.Stuck)] [(0, .box (eApiState st)), (1, .box [.i 0, .v (.slice none 0 0), .v (.slice none 0 0), .v (.slice none 0 0), .v (.slice none 0 0), .v (.slice none 0 0)]), (3, .val (.os 1 eI (([] : List Int) ++ st.Shelves))), (5, .val (.os 6 eApiRobot (([] : List ApiRobot) ++ st.Robots))), (7, .val (.os 1 eI (([] : List Int) ++ st.People))), (8, .val (.os 1 eI ([] : List Int)))] 9 5 #[true, true, true, true, true, true, true, true, true, true, true, true, true, true, true, true, true, false, false, true, true, false, false, false] ?_ (fun hd4_56 => ?_)
 refine D.all 17 [18] (by kernel_rfl) ⟨?_, ?_, trivial⟩
 refine D.ef1 rfl (.none rfl) (by exact Eff1.ap T rfl rfl rfl rfl rfl rfl (.inl rfl) rfl rfl rfl (fun _ => rfl) rfl hx8) rfl rfl ?_
 exact D.to [some 0, some 1, some 2, some 3, some 4, some 5, some 6, some 7, some 8, some 9] hd4_59 (by kernel_rfl) rfl rfl (.eqs rfl) ⟨bX, bX, vL, vL, vL, vL, trivial⟩ rfl rfl rfl
 refine D.ef1 rfl (.none rfl) (by exact Eff1.bs T (enc := eApiStuck) (xs := ([] : List ApiStuck)) rfl rfl rfl rfl rfl rfl rfl rfl rfl rfl (fun _ _ => rfl) rfl rfl) rfl rfl ?_
 exact D.to [some 0, some 1, some 2, some 3, some 4, some 5, some 6, some 7, some 8, some 9] hd4_60 (by kernel_rfl) rfl rfl (.eqs rfl) ⟨bX, bX, vL, vL, vL, vL, vL, trivial⟩ rfl rfl rfl
 refine D.have false [(0, .agg (eApiState st)), (1, .p 0 0), (2, .p 1 0), (3, .p 0 0), (4, .i st.Tick), (5, .o 2), (6, .p 0 1), (7, .sl 1 eI st.Shelves), (8, .o 3), (9, .o 4), (10, .p 0 2), (11, .sl 6 eApiRobot st.Robots), (12, .o 5), (13, .o 6), (14, .p 0 3), (15, .sl 1 eI st.People), (16, .o 7), (18, .p 0 4), (19, .sl 1 eI st.Dead), (21, .o 8), (22, .p 0 5), (23, .sl 2 eApiStuck st.Stuck)] [(0, .box (eApiState st)), (1, .box [.i 0, .v (.slice none 0 0), .v (.slice none 0 0), .v (.slice none 0 0), .v (.slice none 0 0), .v (.slice none 0 0)]), (3, .val (.os 1 eI (([] : List Int) ++ st.Shelves))), (5, .val (.os 6 eApiRobot (([] : List ApiRobot) ++ st.Robots))), (7, .val (.os 1 eI (([] : List Int) ++ st.People))), (8, .val (.os 2 eApiStuck ([] : List ApiStuck)))] 9 5 #[true, true, true, true, true, true, true, true, true, true, true, true, true, true, false, true, true, false, true, true, true, false, false, false] ?_ (fun hd4_57 => ?_)
 refine D.all 14 [] (by kernel_rfl) ⟨?_, trivial⟩
 refine D.ef1 rfl (.none rfl) (by exact Eff1.bs T (enc := eI) (xs := ([] : List Int)) rfl rfl rfl rfl rfl rfl rfl rfl rfl rfl (fun _ _ => rfl) rfl rfl) rfl rfl ?_
 exact D.to [some 0, some 1, some 2, some 3, some 4, some 5, some 6, some 7, some 9, some 8] hd4_60 (by kernel_rfl) rfl rfl (.eqs rfl) ⟨bX, bX, vL, vL, vL, vL, vL, trivial⟩ rfl rfl rfl
 refine D.have false [(0, .agg (eApiState st)), (1, .p 0 0), (2, .p 1 0), (3, .p 0 0), (4, .i st.Tick), (5, .o 2), (6, .p 0 1), (7, .sl 1 eI st.Shelves), (8, .o 3), (9, .o 4), (10, .p 0 2), (11, .sl 6 eApiRobot st.Robots), (12, .o 5), (13, .o 6), (14, .p 0 3), (15, .sl 1 eI st.People), (17, .o 7), (18, .p 0 4), (19, .sl 1 eI st.Dead), (21, .o 8), (22, .p 0 5), (23, .sl 2 eApiStuck st.Stuck)] [(0, .box (eApiState st)), (1, .box [.i 0, .v (.slice none 0 0), .v (.slice none 0 0), .v (.slice none 0 0), .v (.slice none 0 0), .v (.slice none 0 0)]), (3, .val (.os 1 eI (([] : List Int) ++ st.Shelves))), (5, .val (.os 6 eApiRobot (([] : List ApiRobot) ++ st.Robots))), (6, .val (.os 1 eI ([] : List Int))), (7, .val (.os 1 eI ([] : List Int))), (8, .val (.os 2 eApiStuck ([] : List ApiStuck)))] 9 5 #[true, true, true, true, true, true, true, true, true, true, true, true, true, false, true, true, true, false, true, true, true, false, false, false] ?_ (fun hd4_58 => ?_)
 refine D.all 13 [] (by kernel_rfl) ⟨?_, trivial⟩
 refine D.ef1 rfl (.none rfl) (by exact Eff1.ap T rfl rfl rfl rfl rfl rfl (.inl rfl) rfl rfl rfl (fun _ => rfl) rfl hx7) rfl rfl ?_
 exact D.to [some 0, some 1, some 2, some 3, some 4, some 5, some 6, some 9, some 7, some 8] hd4_60 (by kernel_rfl) rfl rfl (.eqs rfl) ⟨bX, bX, vL, vL, vL, vL, vL, trivial⟩ rfl rfl rfl
 refine D.have false [(0, .agg (eApiState st)), (1, .p 0 0), (2, .p 1 0), (3, .p 0 0), (4, .i st.Tick), (5, .o 2), (6, .p 0 1), (7, .sl 1 eI st.Shelves), (8, .o 3), (9, .o 4), (10, .p 0 2), (11, .sl 6 eApiRobot st.Robots), (12, .o 5), (13, .o 6), (14, .p 0 3), (15, .sl 1 eI st.People), (16, .o 7), (18, .p 0 4), (19, .sl 1 eI st.Dead), (22, .p 0 5), (23, .sl 2 eApiStuck st.Stuck)] [(0, .box (eApiState st)), (1, .box [.i 0, .v (.slice none 0 0), .v (.slice none 0 0), .v (.slice none 0 0), .v (.slice none 0 0), .v (.slice none 0 0)]), (3, .val (.os 1 eI (([] : List Int) ++ st.Shelves))), (5, .val (.os 6 eApiRobot (([] : List ApiRobot) ++ st.Robots))), (7, .val (.os 1 eI (([] : List Int) ++ st.People)))] 8 6 #[true, true, true, true, true, true, true, true, true, true, true, true, true, true, false, true, true, false, false, true, true, false, false, false] ?_ (fun hd4_51 => ?_)
 refine D.all 14 [18] (by kernel_rfl) ⟨?_, ?_, trivial⟩
 refine D.ef1 rfl (.none rfl) (by exact Eff1.bs T (enc := eI) (xs := ([] : List Int)) rfl rfl rfl rfl rfl rfl rfl rfl rfl rfl (fun _ _ => rfl) rfl rfl) rfl rfl ?_
 exact D.to [some 0, some 1, some 2, some 3, some 4, some 5, some 6, some 7, some 8] hd4_56 (by kernel_rfl) rfl rfl (.eqs rfl) ⟨bX, bX, vL, vL, vL, vL, trivial⟩ rfl rfl rfl
 refine D.ef1 rfl (.none rfl) (by exact Eff1.bs T (enc := eApiStuck) (xs := ([] : List ApiStuck)) rfl rfl rfl rfl rfl rfl rfl rfl rfl rfl (fun _ _ => rfl) rfl rfl) rfl rfl ?_
 exact D.to [some 0, some 1, some 2, some 3, some 4, some 5, some 6, some 7, some 8] hd4_57 (by kernel_rfl) rfl rfl (.eqs rfl) ⟨bX, bX, vL, vL, vL, vL, trivial⟩ rfl rfl rfl
 refine D.have false [(0, .agg (eApiState st)), (1, .p 0 0), (2, .p 1 0), (3, .p 0 0), (4, .i st.Tick), (5, .o 2), (6, .p 0 1), (7, .sl 1 eI st.Shelves), (8, .o 3), (9, .o 4), (10, .p 0 2), (11, .sl 6 eApiRobot st.Robots), (12, .o 5), (13, .o 6), (14, .p 0 3), (15, .sl 1 eI st.People), (17, .o 7), (18, .p 0 4), (19, .sl 1 eI st.Dead), (22, .p 0 5), (23, .sl 2 eApiStuck st.Stuck)] [(0, .box (eApiState st)), (1, .box [.i 0, .v (.slice none 0 0), .v (.slice none 0 0), .v (.slice none 0 0), .v (.slice none 0 0), .v (.slice none 0 0)]), (3, .val (.os 1 eI (([] : List Int) ++ st.Shelves))), (5, .val (.os 6 eApiRobot (([] : List ApiRobot) ++ st.Robots))), (6, .val (.os 1 eI ([] : List Int))), (7, .val (.os 1 eI ([] : List Int)))] 8 6 #[true, true, true, true, true, true, true, true, true, true, true, true, true, false, true, true, true, false, false, true, true, false, false, false] ?_ (fun hd4_52 => ?_)
 refine D.all 13 [18] (by kernel_rfl) ⟨?_, ?_, trivial⟩
 refine D.ef1 rfl (.none rfl) (by exact Eff1.ap T rfl rfl rfl rfl rfl rfl (.inl rfl) rfl rfl rfl (fun _ => rfl) rfl hx7) rfl rfl ?_
 exact D.to [some 0, some 1, some 2, some 3, some 4, some 5, some 6, some 8, some 7] hd4_56 (by kernel_rfl) rfl rfl (.eqs rfl) ⟨bX, bX, vL, vL, vL, vL, trivial⟩ rfl rfl rfl
 refine D.ef1 rfl (.none rfl) (by exact Eff1.bs T (enc := eApiStuck) (xs := ([] : List ApiStuck)) rfl rfl rfl rfl rfl rfl rfl rfl rfl rfl (fun _ _ => rfl) rfl rfl) rfl rfl ?_
 exact D.to [some 0, some 1, some 2, some 3, some 4, some 5, some 6, some 7, some 8] hd4_58 (by kernel_rfl) rfl rfl (.eqs rfl) ⟨bX, bX, vL, vL, vL, vL, vL, trivial⟩ rfl rfl rfl
 refine D.have false [(0, .agg (eApiState st)), (1, .p 0 0), (2, .p 1 0), (3, .p 0 0), (4, .i st.Tick), (5, .o 2), (6, .p 0 1), (7, .sl 1 eI st.Shelves), (8, .o 3), (9, .o 4), (10, .p 0 2), (11, .sl 6 eApiRobot st.Robots), (12, .o 5), (13, .o 6), (14, .p 0 3), (15, .sl 1 eI st.People), (18, .p 0 4), (19, .sl 1 eI st.Dead), (21, .o 7), (22, .p 0 5), (23, .sl 2 eApiStuck st.Stuck)] [(0, .box (eApiState st)), (1, .box [.i 0, .v (.slice none 0 0), .v (.slice none 0 0), .v (.slice none 0 0), .v (.slice none 0 0), .v (.slice none 0 0)]), (3, .val (.os 1 eI (([] : List Int) ++ st.Shelves))), (5, .val (.os 6 eApiRobot (([] : List ApiRobot) ++ st.Robots))), (6, .val (.os 1 eI ([] : List Int))), (7, .val (.os 2 eApiStuck ([] : List ApiStuck)))] 8 6 #[true, true, true, true, true, true, true, true, true, true, true, true, true, false, false, true, true, false, true, true, true, false, false, false] ?_ (fun hd4_53 => ?_)
 refine D.all 13 [14] (by kernel_rfl) ⟨?_, ?_, trivial⟩
 refine D.ef1 rfl (.none rfl) (by exact Eff1.ap T rfl rfl rfl rfl rfl rfl (.inl rfl) rfl rfl rfl (fun _ => rfl) rfl hx7) rfl rfl ?_
 exact D.to [some 0, some 1, some 2, some 3, some 4, some 5, some 6, some 8, some 7] hd4_57 (by kernel_rfl) rfl rfl (.eqs rfl) ⟨bX, bX, vL, vL, vL, vL, trivial⟩ rfl rfl rfl
 refine D.ef1 rfl (.none rfl) (by exact Eff1.bs T (enc := eI) (xs := ([] : List Int)) rfl rfl rfl rfl rfl rfl rfl rfl rfl rfl (fun _ _ => rfl) rfl rfl) rfl rfl ?_
 exact D.to [some 0, some 1, some 2, some 3, some 4, some 5, some 6, some 8, some 7] hd4_58 (by kernel_rfl) rfl rfl (.eqs rfl) ⟨bX, bX, vL, vL, vL, vL, vL, trivial⟩ rfl rfl rfl
 refine D.have false [(0, .agg (eApiState st)), (1, .p 0 0), (2, .p 1 0), (3, .p 0 0), (4, .i st.Tick), (5, .o 2), (6, .p 0 1), (7, .sl 1 eI st.Shelves), (8, .o 3), (9, .o 4), (10, .p 0 2), (11, .sl 6 eApiRobot st.Robots), (12, .o 5), (14, .p 0 3), (15, .sl 1 eI st.People), (17, .o 6), (18, .p 0 4), (19, .sl 1 eI st.Dead), (21, .o 7), (22, .p 0 5), (23, .sl 2 eApiStuck st.Stuck)] [(0, .box (eApiState st)), (1, .box [.i 0, .v (.slice none 0 0), .v (.slice none 0 0), .v (.slice none 0 0), .v (.slice none 0 0), .v (.slice none 0 0)]), (3, .val (.os 1 eI (([] : List Int) ++ st.Shelves))), (5, .val (.os 6 eApiRobot (([] : List ApiRobot) ++ st.Robots))), (6, .val (.os 1 eI ([] : List Int))), (7, .val (.os 2 eApiStuck ([] : List ApiStuck)))] 8 6 #[true, true, true, true, true, true, true, true, true, true, false, true, true, false, true, true, true, false, true, true, true, false, false, false] ?_ (fun hd4_54 => ?_)
 refine D.all 10 [] (by kernel_rfl) ⟨?_, trivial⟩
 refine D.ef1 rfl (.none rfl) (by exact Eff1.bs T (enc := eI) (xs := ([] : List Int)) rfl rfl rfl rfl rfl rfl rfl rfl rfl rfl (fun _ _ => rfl) rfl rfl) rfl rfl ?_
 exact D.to [some 0, some 1, some 2, some 3, some 4, some 5, some 8, some 6, some 7] hd4_58 (by kernel_rfl) rfl rfl (.eqs rfl) ⟨bX, bX, vL, vL, vL, vL, vL, trivial⟩ rfl rfl rfl
 refine D.have false [(0, .agg (eApiState st)), (1, .p 0 0), (2, .p 1 0), (3, .p 0 0), (4, .i st.Tick), (5, .o 2), (6, .p 0 1), (7, .sl 1 eI st.Shelves), (8, .o 3), (9, .o 4), (10, .p 0 2), (11, .sl 6 eApiRobot st.Robots), (13, .o 5), (14, .p 0 3), (15, .sl 1 eI st.People), (17, .o 6), (18, .p 0 4), (19, .sl 1 eI st.Dead), (21, .o 7), (22, .p 0 5), (23, .sl 2 eApiStuck st.Stuck)] [(0, .box (eApiState st)), (1, .box [.i 0, .v (.slice none 0 0), .v (.slice none 0 0), .v (.slice none 0 0), .v (.slice none 0 0), .v (.slice none 0 0)]), (3, .val (.os 1 eI (([] : List Int) ++ st.Shelves))), (4, .val (.os 6 eApiRobot ([] : List ApiRobot))), (5, .val (.os 1 eI ([] : List Int))), (6, .val (.os 1 eI ([] : List Int))), (7, .val (.os 2 eApiStuck ([] : List ApiStuck)))] 8 6 #[true, true, true, true, true, true, true, true, true, false, true, true, true, false, true, true, true, false, true, true, true, false, false, false] ?_ (fun hd4_55 => ?_)
 refine D.all 9 [] (by kernel_rfl) ⟨?_, trivial⟩
 refine D.ef1 rfl (.none rfl) (by exact Eff1.ap T rfl rfl rfl rfl rfl rfl (.inl rfl) rfl rfl rfl (fun _ => rfl) rfl hx6) rfl rfl ?_
 exact D.to [some 0, some 1, some 2, some 3, some 4, some 8, some 5, some 6, some 7] hd4_58 (by kernel_rfl) rfl rfl (.eqs rfl) ⟨bX, bX, vL, vL, vL, vL, vL, trivial⟩ rfl rfl rfl
 refine D.have false [(0, .agg (eApiState st)), (1, .p 0 0), (2, .p 1 0), (3, .p 0 0), (4, .i st.Tick), (5, .o 2), (6, .p 0 1), (7, .sl 1 eI st.Shelves), (8, .o 3), (9, .o 4), (10, .p 0 2), (11, .sl 6 eApiRobot st.Robots), (12, .o 5), (13, .o 6), (14, .p 0 3), (15, .sl 1 eI st.People), (18, .p 0 4), (19, .sl 1 eI st.Dead), (22, .p 0 5), (23, .sl 2 eApiStuck st.Stuck)] [(0, .box (eApiState st)), (1, .box [.i 0, .v (.slice none 0 0), .v (.slice none 0 0), .v (.slice none 0 0), .v (.slice none 0 0), .v (.slice none 0 0)]), (3, .val (.os 1 eI (([] : List Int) ++ st.Shelves))), (5, .val (.os 6 eApiRobot (([] : List ApiRobot) ++ st.Robots))), (6, .val (.os 1 eI ([] : List Int)))] 7 7 #[true, true, true, true, true, true, true, true, true, true, true, true, true, false, false, true, true, false, false, true, true, false, false, false] ?_ (fun hd4_43 => ?_)
 refine D.all 13 [14, 18] (by kernel_rfl) ⟨?_, ?_, ?_, trivial⟩
 refine D.ef1 rfl (.none rfl) (by exact Eff1.ap T rfl rfl rfl rfl rfl rfl (.inl rfl) rfl rfl rfl (fun _ => rfl) rfl hx7) rfl rfl ?_
 exact D.to [some 0, some 1, some 2, some 3, some 4, some 5, some 6, some 7] hd4_51 (by kernel_rfl) rfl rfl (.eqs rfl) ⟨bX, bX, vL, vL, vL, trivial⟩ rfl rfl rfl
 refine D.ef1 rfl (.none rfl) (by exact Eff1.bs T (enc := eI) (xs := ([] : List Int)) rfl rfl rfl rfl rfl rfl rfl rfl rfl rfl (fun _ _ => rfl) rfl rfl) rfl rfl ?_
 exact D.to [some 0, some 1, some 2, some 3, some 4, some 5, some 6, some 7] hd4_52 (by kernel_rfl) rfl rfl (.eqs rfl) ⟨bX, bX, vL, vL, vL, vL, trivial⟩ rfl rfl rfl
 refine D.ef1 rfl (.none rfl) (by exact Eff1.bs T (enc := eApiStuck) (xs := ([] : List ApiStuck)) rfl rfl rfl rfl rfl rfl rfl rfl rfl rfl (fun _ _ => rfl) rfl rfl) rfl rfl ?_
 exact D.to [some 0, some 1, some 2, some 3, some 4, some 5, some 6, some 7] hd4_53 (by kernel_rfl) rfl rfl (.eqs rfl) ⟨bX, bX, vL, vL, vL, vL, trivial⟩ rfl rfl rfl
 refine D.have false [(0, .agg (eApiState st)), (1, .p 0 0), (2, .p 1 0), (3, .p 0 0), (4, .i st.Tick), (5, .o 2), (6, .p 0 1), (7, .sl 1 eI st.Shelves), (8, .o 3), (9, .o 4), (10, .p 0 2), (11, .sl 6 eApiRobot st.Robots), (12, .o 5), (14, .p 0 3), (15, .sl 1 eI st.People), (17, .o 6), (18, .p 0 4), (19, .sl 1 eI st.Dead), (22, .p 0 5), (23, .sl 2 eApiStuck st.Stuck)] [(0, .box (eApiState st)), (1, .box [.i 0, .v (.slice none 0 0), .v (.slice none 0 0), .v (.slice none 0 0), .v (.slice none 0 0), .v (.slice none 0 0)]), (3, .val (.os 1 eI (([] : List Int) ++ st.Shelves))), (5, .val (.os 6 eApiRobot (([] : List ApiRobot) ++ st.Robots))), (6, .val (.os 1 eI ([] : List Int)))] 7 7 #[true, true, true, true, true, true, true, true, true, true, false, true, true, false, true, true, true, false, false, true, true, false, false, false] ?_ (fun hd4_44 => ?_)
 refine D.all 10 [18] (by kernel_rfl) ⟨?_, ?_, trivial⟩
 refine D.ef1 rfl (.none rfl) (by exact Eff1.bs T (enc := eI) (xs := ([] : List Int)) rfl rfl rfl rfl rfl rfl rfl rfl rfl rfl (fun _ _ => rfl) rfl rfl) rfl rfl ?_
 exact D.to [some 0, some 1, some 2, some 3, some 4, some 5, some 7, some 6] hd4_52 (by kernel_rfl) rfl rfl (.eqs rfl) ⟨bX, bX, vL, vL, vL, vL, trivial⟩ rfl rfl rfl
 refine D.ef1 rfl (.none rfl) (by exact Eff1.bs T (enc := eApiStuck) (xs := ([] : List ApiStuck)) rfl rfl rfl rfl rfl rfl rfl rfl rfl rfl (fun _ _ => rfl) rfl rfl) rfl rfl ?_
 exact D.to [some 0, some 1, some 2, some 3, some 4, some 5, some 6, some 7] hd4_54 (by kernel_rfl) rfl rfl (.eqs rfl) ⟨bX, bX, vL, vL, vL, vL, trivial⟩ rfl rfl rfl
 refine D.have false [(0, .agg (eApiState st)), (1, .p 0 0), (2, .p 1 0), (3, .p 0 0), (4, .i st.Tick), (5, .o 2), (6, .p 0 1), (7, .sl 1 eI st.Shelves), (8, .o 3), (9, .o 4), (10, .p 0 2), (11, .sl 6 eApiRobot st.Robots), (12, .o 5), (14, .p 0 3), (15, .sl 1 eI st.People), (18, .p 0 4), (19, .sl 1 eI st.Dead), (21, .o 6), (22, .p 0 5), (23, .sl 2 eApiStuck st.Stuck)] [(0, .box (eApiState st)), (1, .box [.i 0, .v (.slice none 0 0), .v (.slice none 0 0), .v (.slice none 0 0), .v (.slice none 0 0), .v (.slice none 0 0)]), (3, .val (.os 1 eI (([] : List Int) ++ st.Shelves))), (5, .val (.os 6 eApiRobot (([] : List ApiRobot) ++ st.Robots))), (6, .val (.os 2 eApiStuck ([] : List ApiStuck)))] 7 7 #[true, true, true, true, true, true, true, true, true, true, false, true, true, false, false, true, true, false, true, true, true, false, false, false] ?_ (fun hd4_45 => ?_)
 refine D.all 10 [14] (by kernel_rfl) ⟨?_, ?_, trivial⟩
 refine D.ef1 rfl (.none rfl) (by exact Eff1.bs T (enc := eI) (xs := ([] : List Int)) rfl rfl rfl rfl rfl rfl rfl rfl rfl rfl (fun _ _ => rfl) rfl rfl) rfl rfl ?_
 exact D.to [some 0, some 1, some 2, some 3, some 4, some 5, some 7, some 6] hd4_53 (by kernel_rfl) rfl rfl (.eqs rfl) ⟨bX, bX, vL, vL, vL, vL, trivial⟩ rfl rfl rfl
 refine D.ef1 rfl (.none rfl) (by exact Eff1.bs T (enc := eI) (xs := ([] : List Int)) rfl rfl rfl rfl rfl rfl rfl rfl rfl rfl (fun _ _ => rfl) rfl rfl) rfl rfl ?_
 exact D.to [some 0, some 1, some 2, some 3, some 4, some 5, some 7, some 6] hd4_54 (by kernel_rfl) rfl rfl (.eqs rfl) ⟨bX, bX, vL, vL, vL, vL, trivial⟩ rfl rfl rfl
 refine D.have false [(0, .agg (eApiState st)), (1, .p 0 0), (2, .p 1 0), (3, .p 0 0), (4, .i st.Tick), (5, .o 2), (6, .p 0 1), (7, .sl 1 eI st.Shelves), (8, .o 3), (9, .o 4), (10, .p 0 2), (11, .sl 6 eApiRobot st.Robots), (13, .o 5), (14, .p 0 3), (15, .sl 1 eI st.People), (17, .o 6), (18, .p 0 4), (19, .sl 1 eI st.Dead), (22, .p 0 5), (23, .sl 2 eApiStuck st.Stuck)] [(0, .box (eApiState st)), (1, .box [.i 0, .v (.slice none 0 0), .v (.slice none 0 0), .v (.slice none 0 0), .v (.slice none 0 0), .v (.slice none 0 0)]), (3, .val (.os 1 eI (([] : List Int) ++ st.Shelves))), (4, .val (.os 6 eApiRobot ([] : List ApiRobot))), (5, .val (.os 1 eI ([] : List Int))), (6, .val (.os 1 eI ([] : List Int)))] 7 7 #[true, true, true, true, true, true, true, true, true, false, true, true, true, false, true, true, true, false, false, true, true, false, false, false] ?_ (fun hd4_46 => ?_)
 refine D.all 9 [18] (by kernel_rfl) ⟨?_, ?_, trivial⟩
 refine D.ef1 rfl (.none rfl) (by exact Eff1.ap T rfl rfl rfl rfl rfl rfl (.inl rfl) rfl rfl rfl (fun _ => rfl) rfl hx6) rfl rfl ?_
 exact D.to [some 0, some 1, some 2, some 3, some 4, some 7, some 5, some 6] hd4_52 (by kernel_rfl) rfl rfl (.eqs rfl) ⟨bX, bX, vL, vL, vL, vL, trivial⟩ rfl rfl rfl
 refine D.ef1 rfl (.none rfl) (by exact Eff1.bs T (enc := eApiStuck) (xs := ([] : List ApiStuck)) rfl rfl rfl rfl rfl rfl rfl rfl rfl rfl (fun _ _ => rfl) rfl rfl) rfl rfl ?_
 exact D.to [some 0, some 1, some 2, some 3, some 4, some 5, some 6, some 7] hd4_55 (by kernel_rfl) rfl rfl (.eqs rfl) ⟨bX, bX, vL, vL, vL, vL, vL, trivial⟩ rfl rfl rfl
 refine D.have false [(0, .agg (eApiState st)), (1, .p 0 0), (2, .p 1 0), (3, .p 0 0), (4, .i st.Tick), (5, .o 2), (6, .p 0 1), (7, .sl 1 eI st.Shelves), (8, .o 3), (9, .o 4), (10, .p 0 2), (11, .sl 6 eApiRobot st.Robots), (13, .o 5), (14, .p 0 3), (15, .sl 1 eI st.People), (18, .p 0 4), (19, .sl 1 eI st.Dead), (21, .o 6), (22, .p 0 5), (23, .sl 2 eApiStuck st.Stuck)] [(0, .box (eApiState st)), (1, .box [.i 0, .v (.slice none 0 0), .v (.slice none 0 0), .v (.slice none 0 0), .v (.slice none 0 0), .v (.slice none 0 0)]), (3, .val (.os 1 eI (([] : List Int) ++ st.Shelves))), (4, .val (.os 6 eApiRobot ([] : List ApiRobot))), (5, .val (.os 1 eI ([] : List Int))), (6, .val (.os 2 eApiStuck ([] : List ApiStuck)))] 7 7 #[true, true, true, true, true, true, true, true, true, false, true, true, true, false, false, true, true, false, true, true, true, false, false, false] ?_ (fun hd4_47 => ?_)
 refine D.all 9 [14] (by kernel_rfl) ⟨?_, ?_, trivial⟩
 refine D.ef1 rfl (.none rfl) (by exact Eff1.ap T rfl rfl rfl rfl rfl rfl (.inl rfl) rfl rfl rfl (fun _ => rfl) rfl hx6) rfl rfl ?_
 exact D.to [some 0, some 1, some 2, some 3, some 4, some 7, some 5, some 6] hd4_53 (by kernel_rfl) rfl rfl (.eqs rfl) ⟨bX, bX, vL, vL, vL, vL, trivial⟩ rfl rfl rfl
 refine D.ef1 rfl (.none rfl) (by exact Eff1.bs T (enc := eI) (xs := ([] : List Int)) rfl rfl rfl rfl rfl rfl rfl rfl rfl rfl (fun _ _ => rfl) rfl rfl) rfl rfl ?_
 exact D.to [some 0, some 1, some 2, some 3, some 4, some 5, some 7, some 6] hd4_55 (by kernel_rfl) rfl rfl (.eqs rfl) ⟨bX, bX, vL, vL, vL, vL, vL, trivial⟩ rfl rfl rfl
 refine D.have false [(0, .agg (eApiState st)), (1, .p 0 0), (2, .p 1 0), (3, .p 0 0), (4, .i st.Tick), (5, .o 2), (6, .p 0 1), (7, .sl 1 eI st.Shelves), (8, .o 3), (9, .o 4), (10, .p 0 2), (11, .sl 6 eApiRobot st.Robots), (14, .p 0 3), (15, .sl 1 eI st.People), (17, .o 5), (18, .p 0 4), (19, .sl 1 eI st.Dead), (21, .o 6), (22, .p 0 5), (23, .sl 2 eApiStuck st.Stuck)] [(0, .box (eApiState st)), (1, .box [.i 0, .v (.slice none 0 0), .v (.slice none 0 0), .v (.slice none 0 0), .v (.slice none 0 0), .v (.slice none 0 0)]), (3, .val (.os 1 eI (([] : List Int) ++ st.Shelves))), (4, .val (.os 6 eApiRobot ([] : List ApiRobot))), (5, .val (.os 1 eI ([] : List Int))), (6, .val (.os 2 eApiStuck ([] : List ApiStuck)))] 7 7 #[true, true, true, true, true, true, true, true, true, false, false, true, true, false, true, true, true, false, true, true, true, false, false, false] ?_ (fun hd4_48 => ?_)
 refine D.all 9 [10] (by kernel_rfl) ⟨?_, ?_, trivial⟩
 refine D.ef1 rfl (.none rfl) (by exact Eff1.ap T rfl rfl rfl rfl rfl rfl (.inl rfl) rfl rfl rfl (fun _ => rfl) rfl hx6) rfl rfl ?_
 exact D.to [some 0, some 1, some 2, some 3, some 4, some 7, some 5, some 6] hd4_54 (by kernel_rfl) rfl rfl (.eqs rfl) ⟨bX, bX, vL, vL, vL, vL, trivial⟩ rfl rfl rfl
 refine D.ef1 rfl (.none rfl) (by exact Eff1.bs T (enc := eI) (xs := ([] : List Int)) rfl rfl rfl rfl rfl rfl rfl rfl rfl rfl (fun _ _ => rfl) rfl rfl) rfl rfl ?_
 exact D.to [some 0, some 1, some 2, some 3, some 4, some 7, some 5, some 6] hd4_55 (by kernel_rfl) rfl rfl (.eqs rfl) ⟨bX, bX, vL, vL, vL, vL, vL, trivial⟩ rfl rfl rfl
 refine D.have false [(0, .agg (eApiState st)), (1, .p 0 0), (2, .p 1 0), (3, .p 0 0), (4, .i st.Tick), (5, .o 2), (6, .p 0 1), (7, .sl 1 eI st.Shelves), (8, .o 3), (10, .p 0 2), (11, .sl 6 eApiRobot st.Robots), (13, .o 4), (14, .p 0 3), (15, .sl 1 eI st.People), (17, .o 5), (18, .p 0 4), (19, .sl 1 eI st.Dead), (21, .o 6), (22, .p 0 5), (23, .sl 2 eApiStuck st.Stuck)] [(0, .box (eApiState st)), (1, .box [.i 0, .v (.slice none 0 0), .v (.slice none 0 0), .v (.slice none 0 0), .v (.slice none 0 0), .v (.slice none 0 0)]), (3, .val (.os 1 eI (([] : List Int) ++ st.Shelves))), (4, .val (.os 1 eI ([] : List Int))), (5, .val (.os 1 eI ([] : List Int))), (6, .val (.os 2 eApiStuck ([] : List ApiStuck)))] 7 7 #[true, true, true, true, true, true, false, true, true, false, true, true, true, false, true, true, true, false, true, true, true, false, false, false] ?_ (fun hd4_49 => ?_)
 refine D.all 6 [] (by kernel_rfl) ⟨?_, trivial⟩
 refine D.ef1 rfl (.none rfl) (by exact Eff1.bs T (enc := eApiRobot) (xs := ([] : List ApiRobot)) rfl rfl rfl rfl rfl rfl rfl rfl rfl rfl (fun _ _ => rfl) rfl rfl) rfl rfl ?_
 exact D.to [some 0, some 1, some 2, some 3, some 7, some 4, some 5, some 6] hd4_55 (by kernel_rfl) rfl rfl (.eqs rfl) ⟨bX, bX, vL, vL, vL, vL, vL, trivial⟩ rfl rfl rfl
 refine D.have false [(0, .agg (eApiState st)), (1, .p 0 0), (2, .p 1 0), (3, .p 0 0), (4, .i st.Tick), (5, .o 2), (6, .p 0 1), (7, .sl 1 eI st.Shelves), (9, .o 3), (10, .p 0 2), (11, .sl 6 eApiRobot st.Robots), (13, .o 4), (14, .p 0 3), (15, .sl 1 eI st.People), (17, .o 5), (18, .p 0 4), (19, .sl 1 eI st.Dead), (21, .o 6), (22, .p 0 5), (23, .sl 2 eApiStuck st.Stuck)] [(0, .box (eApiState st)), (1, .box [.i 0, .v (.slice none 0 0), .v (.slice none 0 0), .v (.slice none 0 0), .v (.slice none 0 0), .v (.slice none 0 0)]), (2, .val (.os 1 eI ([] : List Int))), (3, .val (.os 6 eApiRobot ([] : List ApiRobot))), (4, .val (.os 1 eI ([] : List Int))), (5, .val (.os 1 eI ([] : List Int))), (6, .val (.os 2 eApiStuck ([] : List ApiStuck)))] 7 7 #[true, true, true, true, true, false, true, true, true, false, true, true, true, false, true, true, true, false, true, true, true, false, false, false] ?_ (fun hd4_50 => ?_)
 refine D.all 5 [] (by kernel_rfl) ⟨?_, trivial⟩
 refine D.ef1 rfl (.none rfl) (by exact Eff1.ap T rfl rfl rfl rfl rfl rfl (.inl rfl) rfl rfl rfl (fun _ => rfl) rfl hx5) rfl rfl ?_
 exact D.to [some 0, some 1, some 2, some 7, some 3, some 4, some 5, some 6] hd4_55 (by kernel_rfl) rfl rfl (.eqs rfl) ⟨bX, bX, vL, vL, vL, vL, vL, trivial⟩ rfl rfl rfl
 refine D.have false [(0, .agg (eApiState st)), (1, .p 0 0), (2, .p 1 0), (3, .p 0 0), (4, .i st.Tick), (5, .o 2), (6, .p 0 1), (7, .sl 1 eI st.Shelves), (8, .o 3), (9, .o 4), (10, .p 0 2), (11, .sl 6 eApiRobot st.Robots), (12, .o 5), (14, .p 0 3), (15, .sl 1 eI st.People), (18, .p 0 4), (19, .sl 1 eI st.Dead), (22, .p 0 5), (23, .sl 2 eApiStuck st.Stuck)] [(0, .box (eApiState st)), (1, .box [.i 0, .v (.slice none 0 0), .v (.slice none 0 0), .v (.slice none 0 0), .v (.slice none 0 0), .v (.slice none 0 0)]), (3, .val (.os 1 eI (([] : List Int) ++ st.Shelves))), (5, .val (.os 6 eApiRobot (([] : List ApiRobot) ++ st.Robots)))] 6 8 #[true, true, true, true, true, true, true, true, true, true, false, true, true, false, false, true, true, false, false, true, true, false, false, false] ?_ (fun hd4_31 => ?_)
 refine D.all 10 [14, 18] (by kernel_rfl) ⟨?_, ?_, ?_, trivial⟩
 refine D.ef1 rfl (.none rfl) (by exact Eff1.bs T (enc := eI) (xs := ([] : List Int)) rfl rfl rfl rfl rfl rfl rfl rfl rfl rfl (fun _ _ => rfl) rfl rfl) rfl rfl ?_
 exact D.to [some 0, some 1, some 2, some 3, some 4, some 5, some 6] hd4_43 (by kernel_rfl) rfl rfl (.eqs rfl) ⟨bX, bX, vL, vL, vL, trivial⟩ rfl rfl rfl
 refine D.ef1 rfl (.none rfl) (by exact Eff1.bs T (enc := eI) (xs := ([] : List Int)) rfl rfl rfl rfl rfl rfl rfl rfl rfl rfl (fun _ _ => rfl) rfl rfl) rfl rfl ?_
 exact D.to [some 0, some 1, some 2, some 3, some 4, some 5, some 6] hd4_44 (by kernel_rfl) rfl rfl (.eqs rfl) ⟨bX, bX, vL, vL, vL, trivial⟩ rfl rfl rfl
 refine D.ef1 rfl (.none rfl) (by exact Eff1.bs T (enc := eApiStuck) (xs := ([] : List ApiStuck)) rfl rfl rfl rfl rfl rfl rfl rfl rfl rfl (fun _ _ => rfl) rfl rfl) rfl rfl ?_
 exact D.to [some 0, some 1, some 2, some 3, some 4, some 5, some 6] hd4_45 (by kernel_rfl) rfl rfl (.eqs rfl) ⟨bX, bX, vL, vL, vL, trivial⟩ rfl rfl rfl
 refine D.have false [(0, .agg (eApiState st)), (1, .p 0 0), (2, .p 1 0), (3, .p 0 0), (4, .i st.Tick), (5, .o 2), (6, .p 0 1), (7, .sl 1 eI st.Shelves), (8, .o 3), (9, .o 4), (10, .p 0 2), (11, .sl 6 eApiRobot st.Robots), (13, .o 5), (14, .p 0 3), (15, .sl 1 eI st.People), (18, .p 0 4), (19, .sl 1 eI st.Dead), (22, .p 0 5), (23, .sl 2 eApiStuck st.Stuck)] [(0, .box (eApiState st)), (1, .box [.i 0, .v (.slice none 0 0), .v (.slice none 0 0), .v (.slice none 0 0), .v (.slice none 0 0), .v (.slice none 0 0)]), (3, .val (.os 1 eI (([] : List Int) ++ st.Shelves))), (4, .val (.os 6 eApiRobot ([] : List ApiRobot))), (5, .val (.os 1 eI ([] : List Int)))] 6 8 #[true, true, true, true, true, true, true, true, true, false, true, true, true, false, false, true, true, false, false, true, true, false, false, false] ?_ (fun hd4_32 => ?_)
 refine D.all 9 [14, 18] (by kernel_rfl) ⟨?_, ?_, ?_, trivial⟩
 refine D.ef1 rfl (.none rfl) (by exact Eff1.ap T rfl rfl rfl rfl rfl rfl (.inl rfl) rfl rfl rfl (fun _ => rfl) rfl hx6) rfl rfl ?_
 exact D.to [some 0, some 1, some 2, some 3, some 4, some 6, some 5] hd4_43 (by kernel_rfl) rfl rfl (.eqs rfl) ⟨bX, bX, vL, vL, vL, trivial⟩ rfl rfl rfl
 refine D.ef1 rfl (.none rfl) (by exact Eff1.bs T (enc := eI) (xs := ([] : List Int)) rfl rfl rfl rfl rfl rfl rfl rfl rfl rfl (fun _ _ => rfl) rfl rfl) rfl rfl ?_
 exact D.to [some 0, some 1, some 2, some 3, some 4, some 5, some 6] hd4_46 (by kernel_rfl) rfl rfl (.eqs rfl) ⟨bX, bX, vL, vL, vL, vL, trivial⟩ rfl rfl rfl
 refine D.ef1 rfl (.none rfl) (by exact Eff1.bs T (enc := eApiStuck) (xs := ([] : List ApiStuck)) rfl rfl rfl rfl rfl rfl rfl rfl rfl rfl (fun _ _ => rfl) rfl rfl) rfl rfl ?_
 exact D.to [some 0, some 1, some 2, some 3, some 4, some 5, some 6] hd4_47 (by kernel_rfl) rfl rfl (.eqs rfl) ⟨bX, bX, vL, vL, vL, vL, trivial⟩ rfl rfl rfl
 refine D.have false [(0, .agg (eApiState st)), (1, .p 0 0), (2, .p 1 0), (3, .p 0 0), (4, .i st.Tick), (5, .o 2), (6, .p 0 1), (7, .sl 1 eI st.Shelves), (8, .o 3), (9, .o 4), (10, .p 0 2), (11, .sl 6 eApiRobot st.Robots), (14, .p 0 3), (15, .sl 1 eI st.People), (17, .o 5), (18, .p 0 4), (19, .sl 1 eI st.Dead), (22, .p 0 5), (23, .sl 2 eApiStuck st.Stuck)] [(0, .box (eApiState st)), (1, .box [.i 0, .v (.slice none 0 0), .v (.slice none 0 0), .v (.slice none 0 0), .v (.slice none 0 0), .v (.slice none 0 0)]), (3, .val (.os 1 eI (([] : List Int) ++ st.Shelves))), (4, .val (.os 6 eApiRobot ([] : List ApiRobot))), (5, .val (.os 1 eI ([] : List Int)))] 6 8 #[true, true, true, true, true, true, true, true, true, false, false, true, true, false, true, true, true, false, false, true, true, false, false, false] ?_ (fun hd4_33 => ?_)
 refine D.all 9 [10, 18] (by kernel_rfl) ⟨?_, ?_, ?_, trivial⟩
 refine D.ef1 rfl (.none rfl) (by exact Eff1.ap T rfl rfl rfl rfl rfl rfl (.inl rfl) rfl rfl rfl (fun _ => rfl) rfl hx6) rfl rfl ?_
 exact D.to [some 0, some 1, some 2, some 3, some 4, some 6, some 5] hd4_44 (by kernel_rfl) rfl rfl (.eqs rfl) ⟨bX, bX, vL, vL, vL, trivial⟩ rfl rfl rfl
 refine D.ef1 rfl (.none rfl) (by exact Eff1.bs T (enc := eI) (xs := ([] : List Int)) rfl rfl rfl rfl rfl rfl rfl rfl rfl rfl (fun _ _ => rfl) rfl rfl) rfl rfl ?_
 exact D.to [some 0, some 1, some 2, some 3, some 4, some 6, some 5] hd4_46 (by kernel_rfl) rfl rfl (.eqs rfl) ⟨bX, bX, vL, vL, vL, vL, trivial⟩ rfl rfl rfl
 refine D.ef1 rfl (.none rfl) (by exact Eff1.bs T (enc := eApiStuck) (xs := ([] : List ApiStuck)) rfl rfl rfl rfl rfl rfl rfl rfl rfl rfl (fun _ _ => rfl) rfl rfl) rfl rfl ?_
 exact D.to [some 0, some 1, some 2, some 3, some 4, some 5, some 6] hd4_48 (by kernel_rfl) rfl rfl (.eqs rfl) ⟨bX, bX, vL, vL, vL, vL, trivial⟩ rfl rfl rfl
 refine D.have false [(0, .agg (eApiState st)), (1, .p 0 0), (2, .p 1 0), (3, .p 0 0), (4, .i st.Tick), (5, .o 2), (6, .p 0 1), (7, .sl 1 eI st.Shelves), (8, .o 3), (9, .o 4), (10, .p 0 2), (11, .sl 6 eApiRobot st.Robots), (14, .p 0 3), (15, .sl 1 eI st.People), (18, .p 0 4), (19, .sl 1 eI st.Dead), (21, .o 5), (22, .p 0 5), (23, .sl 2 eApiStuck st.Stuck)] [(0, .box (eApiState st)), (1, .box [.i 0, .v (.slice none 0 0), .v (.slice none 0 0), .v (.slice none 0 0), .v (.slice none 0 0), .v (.slice none 0 0)]), (3, .val (.os 1 eI (([] : List Int) ++ st.Shelves))), (4, .val (.os 6 eApiRobot ([] : List ApiRobot))), (5, .val (.os 2 eApiStuck ([] : List ApiStuck)))] 6 8 #[true, true, true, true, true, true, true, true, true, false, false, true, true, false, false, true, true, false, true, true, true, false, false, false] ?_ (fun hd4_34 => ?_)
 refine D.all 9 [10, 14] (by kernel_rfl) ⟨?_, ?_, ?_, trivial⟩
 refine D.ef1 rfl (.none rfl) (by exact Eff1.ap T rfl rfl rfl rfl rfl rfl (.inl rfl) rfl rfl rfl (fun _ => rfl) rfl hx6) rfl rfl ?_
 exact D.to [some 0, some 1, some 2, some 3, some 4, some 6, some 5] hd4_45 (by kernel_rfl) rfl rfl (.eqs rfl) ⟨bX, bX, vL, vL, vL, trivial⟩ rfl rfl rfl
 refine D.ef1 rfl (.none rfl) (by exact Eff1.bs T (enc := eI) (xs := ([] : List Int)) rfl rfl rfl rfl rfl rfl rfl rfl rfl rfl (fun _ _ => rfl) rfl rfl) rfl rfl ?_
 exact D.to [some 0, some 1, some 2, some 3, some 4, some 6, some 5] hd4_47 (by kernel_rfl) rfl rfl (.eqs rfl) ⟨bX, bX, vL, vL, vL, vL, trivial⟩ rfl rfl rfl
 refine D.ef1 rfl (.none rfl) (by exact Eff1.bs T (enc := eI) (xs := ([] : List Int)) rfl rfl rfl rfl rfl rfl rfl rfl rfl rfl (fun _ _ => rfl) rfl rfl) rfl rfl ?_
 exact D.to [some 0, some 1, some 2, some 3, some 4, some 6, some 5] hd4_48 (by kernel_rfl) rfl rfl (.eqs rfl) ⟨bX, bX, vL, vL, vL, vL, trivial⟩ rfl rfl rfl
 refine D.have false [(0, .agg (eApiState st)), (1, .p 0 0), (2, .p 1 0), (3, .p 0 0), (4, .i st.Tick), (5, .o 2), (6, .p 0 1), (7, .sl 1 eI st.Shelves), (8, .o 3), (10, .p 0 2), (11, .sl 6 eApiRobot st.Robots), (13, .o 4), (14, .p 0 3), (15, .sl 1 eI st.People), (17, .o 5), (18, .p 0 4), (19, .sl 1 eI st.Dead), (22, .p 0 5), (23, .sl 2 eApiStuck st.Stuck)] [(0, .box (eApiState st)), (1, .box [.i 0, .v (.slice none 0 0), .v (.slice none 0 0), .v (.slice none 0 0), .v (.slice none 0 0), .v (.slice none 0 0)]), (3, .val (.os 1 eI (([] : List Int) ++ st.Shelves))), (4, .val (.os 1 eI ([] : List Int))), (5, .val (.os 1 eI ([] : List Int)))] 6 8 #[true, true, true, true, true, true, false, true, true, false, true, true, true, false, true, true, true, false, false, true, true, false, false, false] ?_ (fun hd4_35 => ?_)
 refine D.all 6 [18] (by kernel_rfl) ⟨?_, ?_, trivial⟩
 refine D.ef1 rfl (.none rfl) (by exact Eff1.bs T (enc := eApiRobot) (xs := ([] : List ApiRobot)) rfl rfl rfl rfl rfl rfl rfl rfl rfl rfl (fun _ _ => rfl) rfl rfl) rfl rfl ?_
 exact D.to [some 0, some 1, some 2, some 3, some 6, some 4, some 5] hd4_46 (by kernel_rfl) rfl rfl (.eqs rfl) ⟨bX, bX, vL, vL, vL, vL, trivial⟩ rfl rfl rfl
 refine D.ef1 rfl (.none rfl) (by exact Eff1.bs T (enc := eApiStuck) (xs := ([] : List ApiStuck)) rfl rfl rfl rfl rfl rfl rfl rfl rfl rfl (fun _ _ => rfl) rfl rfl) rfl rfl ?_
 exact D.to [some 0, some 1, some 2, some 3, some 4, some 5, some 6] hd4_49 (by kernel_rfl) rfl rfl (.eqs rfl) ⟨bX, bX, vL, vL, vL, vL, trivial⟩ rfl rfl rfl
 refine D.have false [(0, .agg (eApiState st)), (1, .p 0 0), (2, .p 1 0), (3, .p 0 0), (4, .i st.Tick), (5, .o 2), (6, .p 0 1), (7, .sl 1 eI st.Shelves), (8, .o 3), (10, .p 0 2), (11, .sl 6 eApiRobot st.Robots), (13, .o 4), (14, .p 0 3), (15, .sl 1 eI st.People), (18, .p 0 4), (19, .sl 1 eI st.Dead), (21, .o 5), (22, .p 0 5), (23, .sl 2 eApiStuck st.Stuck)] [(0, .box (eApiState st)), (1, .box [.i 0, .v (.slice none 0 0), .v (.slice none 0 0), .v (.slice none 0 0), .v (.slice none 0 0), .v (.slice none 0 0)]), (3, .val (.os 1 eI (([] : List Int) ++ st.Shelves))), (4, .val (.os 1 eI ([] : List Int))), (5, .val (.os 2 eApiStuck ([] : List ApiStuck)))] 6 8 #[true, true, true, true, true, true, false, true, true, false, true, true, true, false, false, true, true, false, true, true, true, false, false, false] ?_ (fun hd4_36 => ?_)
 refine D.all 6 [14] (by kernel_rfl) ⟨?_, ?_, trivial⟩
 refine D.ef1 rfl (.none rfl) (by exact Eff1.bs T (enc := eApiRobot) (xs := ([] : List ApiRobot)) rfl rfl rfl rfl rfl rfl rfl rfl rfl rfl (fun _ _ => rfl) rfl rfl) rfl rfl ?_
 exact D.to [some 0, some 1, some 2, some 3, some 6, some 4, some 5] hd4_47 (by kernel_rfl) rfl rfl (.eqs rfl) ⟨bX, bX, vL, vL, vL, vL, trivial⟩ rfl rfl rfl
 refine D.ef1 rfl (.none rfl) (by exact Eff1.bs T (enc := eI) (xs := ([] : List Int)) rfl rfl rfl rfl rfl rfl rfl rfl rfl rfl (fun _ _ => rfl) rfl rfl) rfl rfl ?_
 exact D.to [some 0, some 1, some 2, some 3, some 4, some 6, some 5] hd4_49 (by kernel_rfl) rfl rfl (.eqs rfl) ⟨bX, bX, vL, vL, vL, vL, trivial⟩ rfl rfl rfl
 refine D.have false [(0, .agg (eApiState st)), (1, .p 0 0), (2, .p 1 0), (3, .p 0 0), (4, .i st.Tick), (5, .o 2), (6, .p 0 1), (7, .sl 1 eI st.Shelves), (8, .o 3), (10, .p 0 2), (11, .sl 6 eApiRobot st.Robots), (14, .p 0 3), (15, .sl 1 eI st.People), (17, .o 4), (18, .p 0 4), (19, .sl 1 eI st.Dead), (21, .o 5), (22, .p 0 5), (23, .sl 2 eApiStuck st.Stuck)] [(0, .box (eApiState st)), (1, .box [.i 0, .v (.slice none 0 0), .v (.slice none 0 0), .v (.slice none 0 0), .v (.slice none 0 0), .v (.slice none 0 0)]), (3, .val (.os 1 eI (([] : List Int) ++ st.Shelves))), (4, .val (.os 1 eI ([] : List Int))), (5, .val (.os 2 eApiStuck ([] : List ApiStuck)))] 6 8 #[true, true, true, true, true, true, false, true, true, false, false, true, true, false, true, true, true, false, true, true, true, false, false, false] ?_ (fun hd4_37 => ?_)
 refine D.all 6 [10] (by kernel_rfl) ⟨?_, ?_, trivial⟩
 refine D.ef1 rfl (.none rfl) (by exact Eff1.bs T (enc := eApiRobot) (xs := ([] : List ApiRobot)) rfl rfl rfl rfl rfl rfl rfl rfl rfl rfl (fun _ _ => rfl) rfl rfl) rfl rfl ?_
 exact D.to [some 0, some 1, some 2, some 3, some 6, some 4, some 5] hd4_48 (by kernel_rfl) rfl rfl (.eqs rfl) ⟨bX, bX, vL, vL, vL, vL, trivial⟩ rfl rfl rfl
 refine D.ef1 rfl (.none rfl) (by exact Eff1.bs T (enc := eI) (xs := ([] : List Int)) rfl rfl rfl rfl rfl rfl rfl rfl rfl rfl (fun _ _ => rfl) rfl rfl) rfl rfl ?_
 exact D.to [some 0, some 1, some 2, some 3, some 6, some 4, some 5] hd4_49 (by kernel_rfl) rfl rfl (.eqs rfl) ⟨bX, bX, vL, vL, vL, vL, trivial⟩ rfl rfl rfl
 refine D.have false [(0, .agg (eApiState st)), (1, .p 0 0), (2, .p 1 0), (3, .p 0 0), (4, .i st.Tick), (5, .o 2), (6, .p 0 1), (7, .sl 1 eI st.Shelves), (9, .o 3), (10, .p 0 2), (11, .sl 6 eApiRobot st.Robots), (13, .o 4), (14, .p 0 3), (15, .sl 1 eI st.People), (17, .o 5), (18, .p 0 4), (19, .sl 1 eI st.Dead), (22, .p 0 5), (23, .sl 2 eApiStuck st.Stuck)] [(0, .box (eApiState st)), (1, .box [.i 0, .v (.slice none 0 0), .v (.slice none 0 0), .v (.slice none 0 0), .v (.slice none 0 0), .v (.slice none 0 0)]), (2, .val (.os 1 eI ([] : List Int))), (3, .val (.os 6 eApiRobot ([] : List ApiRobot))), (4, .val (.os 1 eI ([] : List Int))), (5, .val (.os 1 eI ([] : List Int)))] 6 8 #[true, true, true, true, true, false, true, true, true, false, true, true, true, false, true, true, true, false, false, true, true, false, false, false] ?_ (fun hd4_38 => ?_)
 refine D.all 5 [18] (by kernel_rfl) ⟨?_, ?_, trivial⟩
 refine D.ef1 rfl (.none rfl) (by exact Eff1.ap T rfl rfl rfl rfl rfl rfl (.inl rfl) rfl rfl rfl (fun _ => rfl) rfl hx5) rfl rfl ?_
 exact D.to [some 0, some 1, some 2, some 6, some 3, some 4, some 5] hd4_46 (by kernel_rfl) rfl rfl (.eqs rfl) ⟨bX, bX, vL, vL, vL, vL, trivial⟩ rfl rfl rfl
 refine D.ef1 rfl (.none rfl) (by exact Eff1.bs T (enc := eApiStuck) (xs := ([] : List ApiStuck)) rfl rfl rfl rfl rfl rfl rfl rfl rfl rfl (fun _ _ => rfl) rfl rfl) rfl rfl ?_
 exact D.to [some 0, some 1, some 2, some 3, some 4, some 5, some 6] hd4_50 (by kernel_rfl) rfl rfl (.eqs rfl) ⟨bX, bX, vL, vL, vL, vL, vL, trivial⟩ rfl rfl rfl
 refine D.have false [(0, .agg (eApiState st)), (1, .p 0 0), (2, .p 1 0), (3, .p 0 0), (4, .i st.Tick), (5, .o 2), (6, .p 0 1), (7, .sl 1 eI st.Shelves), (9, .o 3), (10, .p 0 2), (11, .sl 6 eApiRobot st.Robots), (13, .o 4), (14, .p 0 3), (15, .sl 1 eI st.People), (18, .p 0 4), (19, .sl 1 eI st.Dead), (21, .o 5), (22, .p 0 5), (23, .sl 2 eApiStuck st.Stuck)] [(0, .box (eApiState st)), (1, .box [.i 0, .v (.slice none 0 0), .v (.slice none 0 0), .v (.slice none 0 0), .v (.slice none 0 0), .v (.slice none 0 0)]), (2, .val (.os 1 eI ([] : List Int))), (3, .val (.os 6 eApiRobot ([] : List ApiRobot))), (4, .val (.os 1 eI ([] : List Int))), (5, .val (.os 2 eApiStuck ([] : List ApiStuck)))] 6 8 #[true, true, true, true, true, false, true, true, true, false, true, true, true, false, false, true, true, false, true, true, true, false, false, false] ?_ (fun hd4_39 => ?_)
 refine D.all 5 [14] (by kernel_rfl) ⟨?_, ?_, trivial⟩
 refine D.ef1 rfl (.none rfl) (by exact Eff1.ap T rfl rfl rfl rfl rfl rfl (.inl rfl) rfl rfl rfl (fun _ => rfl) rfl hx5) rfl rfl ?_
 exact D.to [some 0, some 1, some 2, some 6, some 3, some 4, some 5] hd4_47 (by kernel_rfl) rfl rfl (.eqs rfl) ⟨bX, bX, vL, vL, vL, vL, trivial⟩ rfl rfl rfl
 refine D.ef1 rfl (.none rfl) (by exact Eff1.bs T (enc := eI) (xs := ([] : List Int)) rfl rfl rfl rfl rfl rfl rfl rfl rfl rfl (fun _ _ => rfl) rfl rfl) rfl rfl ?_
 exact D.to [some 0, some 1, some 2, some 3, some 4, some 6, some 5] hd4_50 (by kernel_rfl) rfl rfl (.eqs rfl) ⟨bX, bX, vL, vL, vL, vL, vL, trivial⟩ rfl rfl rfl
 refine D.have false [(0, .agg (eApiState st)), (1, .p 0 0), (2, .p 1 0), (3, .p 0 0), (4, .i st.Tick), (5, .o 2), (6, .p 0 1), (7, .sl 1 eI st.Shelves), (9, .o 3), (10, .p 0 2), (11, .sl 6 eApiRobot st.Robots), (14, .p 0 3), (15, .sl 1 eI st.People), (17, .o 4), (18, .p 0 4), (19, .sl 1 eI st.Dead), (21, .o 5), (22, .p 0 5), (23, .sl 2 eApiStuck st.Stuck)] [(0, .box (eApiState st)), (1, .box [.i 0, .v (.slice none 0 0), .v (.slice none 0 0), .v (.slice none 0 0), .v (.slice none 0 0), .v (.slice none 0 0)]), (2, .val (.os 1 eI ([] : List Int))), (3, .val (.os 6 eApiRobot ([] : List ApiRobot))), (4, .val (.os 1 eI ([] : List Int))), (5, .val (.os 2 eApiStuck ([] : List ApiStuck)))] 6 8 #[true, true, true, true, true, false, true, true, true, false, false, true, true, false, true, true, true, false, true, true, true, false, false, false] ?_ (fun hd4_40 => ?_)
 refine D.all 5 [10] (by kernel_rfl) ⟨?_, ?_, trivial⟩
 refine D.ef1 rfl (.none rfl) (by exact Eff1.ap T rfl rfl rfl rfl rfl rfl (.inl rfl) rfl rfl rfl (fun _ => rfl) rfl hx5) rfl rfl ?_
 exact D.to [some 0, some 1, some 2, some 6, some 3, some 4, some 5] hd4_48 (by kernel_rfl) rfl rfl (.eqs rfl) ⟨bX, bX, vL, vL, vL, vL, trivial⟩ rfl rfl rfl
 refine D.ef1 rfl (.none rfl) (by exact Eff1.bs T (enc := eI) (xs := ([] : List Int)) rfl rfl rfl rfl rfl rfl rfl rfl rfl rfl (fun _ _ => rfl) rfl rfl) rfl rfl ?_
 exact D.to [some 0, some 1, some 2, some 3, some 6, some 4, some 5] hd4_50 (by kernel_rfl) rfl rfl (.eqs rfl) ⟨bX, bX, vL, vL, vL, vL, vL, trivial⟩ rfl rfl rfl
 refine D.have false [(0, .agg (eApiState st)), (1, .p 0 0), (2, .p 1 0), (3, .p 0 0), (4, .i st.Tick), (5, .o 2), (6, .p 0 1), (7, .sl 1 eI st.Shelves), (10, .p 0 2), (11, .sl 6 eApiRobot st.Robots), (13, .o 3), (14, .p 0 3), (15, .sl 1 eI st.People), (17, .o 4), (18, .p 0 4), (19, .sl 1 eI st.Dead), (21, .o 5), (22, .p 0 5), (23, .sl 2 eApiStuck st.Stuck)] [(0, .box (eApiState st)), (1, .box [.i 0, .v (.slice none 0 0), .v (.slice none 0 0), .v (.slice none 0 0), .v (.slice none 0 0), .v (.slice none 0 0)]), (2, .val (.os 1 eI ([] : List Int))), (3, .val (.os 1 eI ([] : List Int))), (4, .val (.os 1 eI ([] : List Int))), (5, .val (.os 2 eApiStuck ([] : List ApiStuck)))] 6 8 #[true, true, true, true, true, false, false, true, true, false, true, true, true, false, true, true, true, false, true, true, true, false, false, false] ?_ (fun hd4_41 => ?_)
 refine D.all 5 [6] (by kernel_rfl) ⟨?_, ?_, trivial⟩
 refine D.ef1 rfl (.none rfl) (by exact Eff1.ap T rfl rfl rfl rfl rfl rfl (.inl rfl) rfl rfl rfl (fun _ => rfl) rfl hx5) rfl rfl ?_
 exact D.to [some 0, some 1, some 2, some 6, some 3, some 4, some 5] hd4_49 (by kernel_rfl) rfl rfl (.eqs rfl) ⟨bX, bX, vL, vL, vL, vL, trivial⟩ rfl rfl rfl
 refine D.ef1 rfl (.none rfl) (by exact Eff1.bs T (enc := eApiRobot) (xs := ([] : List ApiRobot)) rfl rfl rfl rfl rfl rfl rfl rfl rfl rfl (fun _ _ => rfl) rfl rfl) rfl rfl ?_
 exact D.to [some 0, some 1, some 2, some 6, some 3, some 4, some 5] hd4_50 (by kernel_rfl) rfl rfl (.eqs rfl) ⟨bX, bX, vL, vL, vL, vL, vL, trivial⟩ rfl rfl rfl
 refine D.have false [(0, .agg (eApiState st)), (1, .p 0 0), (2, .p 1 0), (3, .p 0 0), (4, .i st.Tick), (6, .p 0 1), (7, .sl 1 eI st.Shelves), (9, .o 2), (10, .p 0 2), (11, .sl 6 eApiRobot st.Robots), (13, .o 3), (14, .p 0 3), (15, .sl 1 eI st.People), (17, .o 4), (18, .p 0 4), (19, .sl 1 eI st.Dead), (21, .o 5), (22, .p 0 5), (23, .sl 2 eApiStuck st.Stuck)] [(0, .box (eApiState st)), (1, .box [.i 0, .v (.slice none 0 0), .v (.slice none 0 0), .v (.slice none 0 0), .v (.slice none 0 0), .v (.slice none 0 0)]), (2, .val (.os 6 eApiRobot ([] : List ApiRobot))), (3, .val (.os 1 eI ([] : List Int))), (4, .val (.os 1 eI ([] : List Int))), (5, .val (.os 2 eApiStuck ([] : List ApiStuck)))] 6 8 #[true, true, false, true, true, false, true, true, true, false, true, true, true, false, true, true, true, false, true, true, true, false, false, false] ?_ (fun hd4_42 => ?_)
 refine D.all 2 [] (by kernel_rfl) ⟨?_, trivial⟩
 refine D.ef1 rfl (.none rfl) (by exact Eff1.bs T (enc := eI) (xs := ([] : List Int)) rfl rfl rfl rfl rfl rfl rfl rfl rfl rfl (fun _ _ => rfl) rfl rfl) rfl rfl ?_
 exact D.to [some 0, some 1, some 6, some 2, some 3, some 4, some 5] hd4_50 (by kernel_rfl) rfl rfl (.eqs rfl) ⟨bX, bX, vL, vL, vL, vL, vL, trivial⟩ rfl rfl rfl
 refine D.have false [(0, .agg (eApiState st)), (1, .p 0 0), (2, .p 1 0), (3, .p 0 0), (4, .i st.Tick), (5, .o 2), (6, .p 0 1), (7, .sl 1 eI st.Shelves), (8, .o 3), (9, .o 4), (10, .p 0 2), (11, .sl 6 eApiRobot st.Robots), (14, .p 0 3), (15, .sl 1 eI st.People), (18, .p 0 4), (19, .sl 1 eI st.Dead), (22, .p 0 5), (23, .sl 2 eApiStuck st.Stuck)] [(0, .box (eApiState st)), (1, .box [.i 0, .v (.slice none 0 0), .v (.slice none 0 0), .v (.slice none 0 0), .v (.slice none 0 0), .v (.slice none 0 0)]), (3, .val (.os 1 eI (([] : List Int) ++ st.Shelves))), (4, .val (.os 6 eApiRobot ([] : List ApiRobot)))] 5 9 #[true, true, true, true, true, true, true, true, true, false, false, true, true, false, false, true, true, false, false, true, true, false, false, false] ?_ (fun hd4_17 => ?_)
 refine D.all 9 [10, 14, 18] (by kernel_rfl) ⟨?_, ?_, ?_, ?_, trivial⟩
 refine D.ef1 rfl (.none rfl) (by exact Eff1.ap T rfl rfl rfl rfl rfl rfl (.inl rfl) rfl rfl rfl (fun _ => rfl) rfl hx6) rfl rfl ?_
 exact D.to [some 0, some 1, some 2, some 3, some 4, some 5] hd4_31 (by kernel_rfl) rfl rfl (.eqs rfl) ⟨bX, bX, vL, vL, trivial⟩ rfl rfl rfl
 refine D.ef1 rfl (.none rfl) (by exact Eff1.bs T (enc := eI) (xs := ([] : List Int)) rfl rfl rfl rfl rfl rfl rfl rfl rfl rfl (fun _ _ => rfl) rfl rfl) rfl rfl ?_
 exact D.to [some 0, some 1, some 2, some 3, some 4, some 5] hd4_32 (by kernel_rfl) rfl rfl (.eqs rfl) ⟨bX, bX, vL, vL, vL, trivial⟩ rfl rfl rfl
 refine D.ef1 rfl (.none rfl) (by exact Eff1.bs T (enc := eI) (xs := ([] : List Int)) rfl rfl rfl rfl rfl rfl rfl rfl rfl rfl (fun _ _ => rfl) rfl rfl) rfl rfl ?_
 exact D.to [some 0, some 1, some 2, some 3, some 4, some 5] hd4_33 (by kernel_rfl) rfl rfl (.eqs rfl) ⟨bX, bX, vL, vL, vL, trivial⟩ rfl rfl rfl
 refine D.ef1 rfl (.none rfl) (by exact Eff1.bs T (enc := eApiStuck) (xs := ([] : List ApiStuck)) rfl rfl rfl rfl rfl rfl rfl rfl rfl rfl (fun _ _ => rfl) rfl rfl) rfl rfl ?_
 exact D.to [some 0, some 1, some 2, some 3, some 4, some 5] hd4_34 (by kernel_rfl) rfl rfl (.eqs rfl) ⟨bX, bX, vL, vL, vL, trivial⟩ rfl rfl rfl
 refine D.have false [(0, .agg (eApiState st)), (1, .p 0 0), (2, .p 1 0), (3, .p 0 0), (4, .i st.Tick), (5, .o 2), (6, .p 0 1), (7, .sl 1 eI st.Shelves), (8, .o 3), (10, .p 0 2), (11, .sl 6 eApiRobot st.Robots), (13, .o 4), (14, .p 0 3), (15, .sl 1 eI st.People), (18, .p 0 4), (19, .sl 1 eI st.Dead), (22, .p 0 5), (23, .sl 2 eApiStuck st.Stuck)] [(0, .box (eApiState st)), (1, .box [.i 0, .v (.slice none 0 0), .v (.slice none 0 0), .v (.slice none 0 0), .v (.slice none 0 0), .v (.slice none 0 0)]), (3, .val (.os 1 eI (([] : List Int) ++ st.Shelves))), (4, .val (.os 1 eI ([] : List Int)))] 5 9 #[true, true, true, true, true, true, false, true, true, false, true, true, true, false, false, true, true, false, false, true, true, false, false, false] ?_ (fun hd4_18 => ?_)
 refine D.all 6 [14, 18] (by kernel_rfl) ⟨?_, ?_, ?_, trivial⟩
 refine D.ef1 rfl (.none rfl) (by exact Eff1.bs T (enc := eApiRobot) (xs := ([] : List ApiRobot)) rfl rfl rfl rfl rfl rfl rfl rfl rfl rfl (fun _ _ => rfl) rfl rfl) rfl rfl ?_
 exact D.to [some 0, some 1, some 2, some 3, some 5, some 4] hd4_32 (by kernel_rfl) rfl rfl (.eqs rfl) ⟨bX, bX, vL, vL, vL, trivial⟩ rfl rfl rfl
 refine D.ef1 rfl (.none rfl) (by exact Eff1.bs T (enc := eI) (xs := ([] : List Int)) rfl rfl rfl rfl rfl rfl rfl rfl rfl rfl (fun _ _ => rfl) rfl rfl) rfl rfl ?_
 exact D.to [some 0, some 1, some 2, some 3, some 4, some 5] hd4_35 (by kernel_rfl) rfl rfl (.eqs rfl) ⟨bX, bX, vL, vL, vL, trivial⟩ rfl rfl rfl
 refine D.ef1 rfl (.none rfl) (by exact Eff1.bs T (enc := eApiStuck) (xs := ([] : List ApiStuck)) rfl rfl rfl rfl rfl rfl rfl rfl rfl rfl (fun _ _ => rfl) rfl rfl) rfl rfl ?_
 exact D.to [some 0, some 1, some 2, some 3, some 4, some 5] hd4_36 (by kernel_rfl) rfl rfl (.eqs rfl) ⟨bX, bX, vL, vL, vL, trivial⟩ rfl rfl rfl
 refine D.have false [(0, .agg (eApiState st)), (1, .p 0 0), (2, .p 1 0), (3, .p 0 0), (4, .i st.Tick), (5, .o 2), (6, .p 0 1), (7, .sl 1 eI st.Shelves), (8, .o 3), (10, .p 0 2), (11, .sl 6 eApiRobot st.Robots), (14, .p 0 3), (15, .sl 1 eI st.People), (17, .o 4), (18, .p 0 4), (19, .sl 1 eI st.Dead), (22, .p 0 5), (23, .sl 2 eApiStuck st.Stuck)] [(0, .box (eApiState st)), (1, .box [.i 0, .v (.slice none 0 0), .v (.slice none 0 0), .v (.slice none 0 0), .v (.slice none 0 0), .v (.slice none 0 0)]), (3, .val (.os 1 eI (([] : List Int) ++ st.Shelves))), (4, .val (.os 1 eI ([] : List Int)))] 5 9 #[true, true, true, true, true, true, false, true, true, false, false, true, true, false, true, true, true, false, false, true, true, false, false, false] ?_ (fun hd4_19 => ?_)
 refine D.all 6 [10, 18] (by kernel_rfl) ⟨?_, ?_, ?_, trivial⟩
 refine D.ef1 rfl (.none rfl) (by exact Eff1.bs T (enc := eApiRobot) (xs := ([] : List ApiRobot)) rfl rfl rfl rfl rfl rfl rfl rfl rfl rfl (fun _ _ => rfl) rfl rfl) rfl rfl ?_
 exact D.to [some 0, some 1, some 2, some 3, some 5, some 4] hd4_33 (by kernel_rfl) rfl rfl (.eqs rfl) ⟨bX, bX, vL, vL, vL, trivial⟩ rfl rfl rfl
 refine D.ef1 rfl (.none rfl) (by exact Eff1.bs T (enc := eI) (xs := ([] : List Int)) rfl rfl rfl rfl rfl rfl rfl rfl rfl rfl (fun _ _ => rfl) rfl rfl) rfl rfl ?_
 exact D.to [some 0, some 1, some 2, some 3, some 5, some 4] hd4_35 (by kernel_rfl) rfl rfl (.eqs rfl) ⟨bX, bX, vL, vL, vL, trivial⟩ rfl rfl rfl
 refine D.ef1 rfl (.none rfl) (by exact Eff1.bs T (enc := eApiStuck) (xs := ([] : List ApiStuck)) rfl rfl rfl rfl rfl rfl rfl rfl rfl rfl (fun _ _ => rfl) rfl rfl) rfl rfl ?_
 exact D.to [some 0, some 1, some 2, some 3, some 4, some 5] hd4_37 (by kernel_rfl) rfl rfl (.eqs rfl) ⟨bX, bX, vL, vL, vL, trivial⟩ rfl rfl rfl
 refine D.have false [(0, .agg (eApiState st)), (1, .p 0 0), (2, .p 1 0), (3, .p 0 0), (4, .i st.Tick), (5, .o 2), (6, .p 0 1), (7, .sl 1 eI st.Shelves), (8, .o 3), (10, .p 0 2), (11, .sl 6 eApiRobot st.Robots), (14, .p 0 3), (15, .sl 1 eI st.People), (18, .p 0 4), (19, .sl 1 eI st.Dead), (21, .o 4), (22, .p 0 5), (23, .sl 2 eApiStuck st.Stuck)] [(0, .box (eApiState st)), (1, .box [.i 0, .v (.slice none 0 0), .v (.slice none 0 0), .v (.slice none 0 0), .v (.slice none 0 0), .v (.slice none 0 0)]), (3, .val (.os 1 eI (([] : List Int) ++ st.Shelves))), (4, .val (.os 2 eApiStuck ([] : List ApiStuck)))] 5 9 #[true, true, true, true, true, true, false, true, true, false, false, true, true, false, false, true, true, false, true, true, true, false, false, false] ?_ (fun hd4_20 => ?_)
 refine D.all 6 [10, 14] (by kernel_rfl) ⟨?_, ?_, ?_, trivial⟩
 refine D.ef1 rfl (.none rfl) (by exact Eff1.bs T (enc := eApiRobot) (xs := ([] : List ApiRobot)) rfl rfl rfl rfl rfl rfl rfl rfl rfl rfl (fun _ _ => rfl) rfl rfl) rfl rfl ?_
 exact D.to [some 0, some 1, some 2, some 3, some 5, some 4] hd4_34 (by kernel_rfl) rfl rfl (.eqs rfl) ⟨bX, bX, vL, vL, vL, trivial⟩ rfl rfl rfl
 refine D.ef1 rfl (.none rfl) (by exact Eff1.bs T (enc := eI) (xs := ([] : List Int)) rfl rfl rfl rfl rfl rfl rfl rfl rfl rfl (fun _ _ => rfl) rfl rfl) rfl rfl ?_
 exact D.to [some 0, some 1, some 2, some 3, some 5, some 4] hd4_36 (by kernel_rfl) rfl rfl (.eqs rfl) ⟨bX, bX, vL, vL, vL, trivial⟩ rfl rfl rfl
 refine D.ef1 rfl (.none rfl) (by exact Eff1.bs T (enc := eI) (xs := ([] : List Int)) rfl rfl rfl rfl rfl rfl rfl rfl rfl rfl (fun _ _ => rfl) rfl rfl) rfl rfl ?_
 exact D.to [some 0, some 1, some 2, some 3, some 5, some 4] hd4_37 (by kernel_rfl) rfl rfl (.eqs rfl) ⟨bX, bX, vL, vL, vL, trivial⟩ rfl rfl rfl
 refine D.have false [(0, .agg (eApiState st)), (1, .p 0 0), (2, .p 1 0), (3, .p 0 0), (4, .i st.Tick), (5, .o 2), (6, .p 0 1), (7, .sl 1 eI st.Shelves), (9, .o 3), (10, .p 0 2), (11, .sl 6 eApiRobot st.Robots), (13, .o 4), (14, .p 0 3), (15, .sl 1 eI st.People), (18, .p 0 4), (19, .sl 1 eI st.Dead), (22, .p 0 5), (23, .sl 2 eApiStuck st.Stuck)] [(0, .box (eApiState st)), (1, .box [.i 0, .v (.slice none 0 0), .v (.slice none 0 0), .v (.slice none 0 0), .v (.slice none 0 0), .v (.slice none 0 0)]), (2, .val (.os 1 eI ([] : List Int))), (3, .val (.os 6 eApiRobot ([] : List ApiRobot))), (4, .val (.os 1 eI ([] : List Int)))] 5 9 #[true, true, true, true, true, false, true, true, true, false, true, true, true, false, false, true, true, false, false, true, true, false, false, false] ?_ (fun hd4_21 => ?_)
 refine D.all 5 [14, 18] (by kernel_rfl) ⟨?_, ?_, ?_, trivial⟩
 refine D.ef1 rfl (.none rfl) (by exact Eff1.ap T rfl rfl rfl rfl rfl rfl (.inl rfl) rfl rfl rfl (fun _ => rfl) rfl hx5) rfl rfl ?_
 exact D.to [some 0, some 1, some 2, some 5, some 3, some 4] hd4_32 (by kernel_rfl) rfl rfl (.eqs rfl) ⟨bX, bX, vL, vL, vL, trivial⟩ rfl rfl rfl
 refine D.ef1 rfl (.none rfl) (by exact Eff1.bs T (enc := eI) (xs := ([] : List Int)) rfl rfl rfl rfl rfl rfl rfl rfl rfl rfl (fun _ _ => rfl) rfl rfl) rfl rfl ?_
 exact D.to [some 0, some 1, some 2, some 3, some 4, some 5] hd4_38 (by kernel_rfl) rfl rfl (.eqs rfl) ⟨bX, bX, vL, vL, vL, vL, trivial⟩ rfl rfl rfl
 refine D.ef1 rfl (.none rfl) (by exact Eff1.bs T (enc := eApiStuck) (xs := ([] : List ApiStuck)) rfl rfl rfl rfl rfl rfl rfl rfl rfl rfl (fun _ _ => rfl) rfl rfl) rfl rfl ?_
 exact D.to [some 0, some 1, some 2, some 3, some 4, some 5] hd4_39 (by kernel_rfl) rfl rfl (.eqs rfl) ⟨bX, bX, vL, vL, vL, vL, trivial⟩ rfl rfl rfl
 refine D.have false [(0, .agg (eApiState st)), (1, .p 0 0), (2, .p 1 0), (3, .p 0 0), (4, .i st.Tick), (5, .o 2), (6, .p 0 1), (7, .sl 1 eI st.Shelves), (9, .o 3), (10, .p 0 2), (11, .sl 6 eApiRobot st.Robots), (14, .p 0 3), (15, .sl 1 eI st.People), (17, .o 4), (18, .p 0 4), (19, .sl 1 eI st.Dead), (22, .p 0 5), (23, .sl 2 eApiStuck st.Stuck)] [(0, .box (eApiState st)), (1, .box [.i 0, .v (.slice none 0 0), .v (.slice none 0 0), .v (.slice none 0 0), .v (.slice none 0 0), .v (.slice none 0 0)]), (2, .val (.os 1 eI ([] : List Int))), (3, .val (.os 6 eApiRobot ([] : List ApiRobot))), (4, .val (.os 1 eI ([] : List Int)))] 5 9 #[true, true, true, true, true, false, true, true, true, false, false, true, true, false, true, true, true, false, false, true, true, false, false, false] ?_ (fun hd4_22 => ?_)
 refine D.all 5 [10, 18] (by kernel_rfl) ⟨?_, ?_, ?_, trivial⟩
 refine D.ef1 rfl (.none rfl) (by exact Eff1.ap T rfl rfl rfl rfl rfl rfl (.inl rfl) rfl rfl rfl (fun _ => rfl) rfl hx5) rfl rfl ?_
 exact D.to [some 0, some 1, some 2, some 5, some 3, some 4] hd4_33 (by kernel_rfl) rfl rfl (.eqs rfl) ⟨bX, bX, vL, vL, vL, trivial⟩ rfl rfl rfl
 refine D.ef1 rfl (.none rfl) (by exact Eff1.bs T (enc := eI) (xs := ([] : List Int)) rfl rfl rfl rfl rfl rfl rfl rfl rfl rfl (fun _ _ => rfl) rfl rfl) rfl rfl ?_
 exact D.to [some 0, some 1, some 2, some 3, some 5, some 4] hd4_38 (by kernel_rfl) rfl rfl (.eqs rfl) ⟨bX, bX, vL, vL, vL, vL, trivial⟩ rfl rfl rfl
 refine D.ef1 rfl (.none rfl) (by exact Eff1.bs T (enc := eApiStuck) (xs := ([] : List ApiStuck)) rfl rfl rfl rfl rfl rfl rfl rfl rfl rfl (fun _ _ => rfl) rfl rfl) rfl rfl ?_
 exact D.to [some 0, some 1, some 2, some 3, some 4, some 5] hd4_40 (by kernel_rfl) rfl rfl (.eqs rfl) ⟨bX, bX, vL, vL, vL, vL, trivial⟩ rfl rfl rfl
 refine D.have false [(0, .agg (eApiState st)), (1, .p 0 0), (2, .p 1 0), (3, .p 0 0), (4, .i st.Tick), (5, .o 2), (6, .p 0 1), (7, .sl 1 eI st.Shelves), (9, .o 3), (10, .p 0 2), (11, .sl 6 eApiRobot st.Robots), (14, .p 0 3), (15, .sl 1 eI st.People), (18, .p 0 4), (19, .sl 1 eI st.Dead), (21, .o 4), (22, .p 0 5), (23, .sl 2 eApiStuck st.Stuck)] [(0, .box (eApiState st)), (1, .box [.i 0, .v (.slice none 0 0), .v (.slice none 0 0), .v (.slice none 0 0), .v (.slice none 0 0), .v (.slice none 0 0)]), (2, .val (.os 1 eI ([] : List Int))), (3, .val (.os 6 eApiRobot ([] : List ApiRobot))), (4, .val (.os 2 eApiStuck ([] : List ApiStuck)))] 5 9 #[true, true, true, true, true, false, true, true, true, false, false, true, true, false, false, true, true, false, true, true, true, false, false, false] ?_ (fun hd4_23 => ?_)
 refine D.all 5 [10, 14] (by kernel_rfl) ⟨?_, ?_, ?_, trivial⟩
 refine D.ef1 rfl (.none rfl) (by exact Eff1.ap T rfl rfl rfl rfl rfl rfl (.inl rfl) rfl rfl rfl (fun _ => rfl) rfl hx5) rfl rfl ?_
 exact D.to [some 0, some 1, some 2, some 5, some 3, some 4] hd4_34 (by kernel_rfl) rfl rfl (.eqs rfl) ⟨bX, bX, vL, vL, vL, trivial⟩ rfl rfl rfl
 refine D.ef1 rfl (.none rfl) (by exact Eff1.bs T (enc := eI) (xs := ([] : List Int)) rfl rfl rfl rfl rfl rfl rfl rfl rfl rfl (fun _ _ => rfl) rfl rfl) rfl rfl ?_
 exact D.to [some 0, some 1, some 2, some 3, some 5, some 4] hd4_39 (by kernel_rfl) rfl rfl (.eqs rfl) ⟨bX, bX, vL, vL, vL, vL, trivial⟩ rfl rfl rfl
 refine D.ef1 rfl (.none rfl) (by exact Eff1.bs T (enc := eI) (xs := ([] : List Int)) rfl rfl rfl rfl rfl rfl rfl rfl rfl rfl (fun _ _ => rfl) rfl rfl) rfl rfl ?_
 exact D.to [some 0, some 1, some 2, some 3, some 5, some 4] hd4_40 (by kernel_rfl) rfl rfl (.eqs rfl) ⟨bX, bX, vL, vL, vL, vL, trivial⟩ rfl rfl rfl
 refine D.have false [(0, .agg (eApiState st)), (1, .p 0 0), (2, .p 1 0), (3, .p 0 0), (4, .i st.Tick), (5, .o 2), (6, .p 0 1), (7, .sl 1 eI st.Shelves), (10, .p 0 2), (11, .sl 6 eApiRobot st.Robots), (13, .o 3), (14, .p 0 3), (15, .sl 1 eI st.People), (17, .o 4), (18, .p 0 4), (19, .sl 1 eI st.Dead), (22, .p 0 5), (23, .sl 2 eApiStuck st.Stuck)] [(0, .box (eApiState st)), (1, .box [.i 0, .v (.slice none 0 0), .v (.slice none 0 0), .v (.slice none 0 0), .v (.slice none 0 0), .v (.slice none 0 0)]), (2, .val (.os 1 eI ([] : List Int))), (3, .val (.os 1 eI ([] : List Int))), (4, .val (.os 1 eI ([] : List Int)))] 5 9 #[true, true, true, true, true, false, false, true, true, false, true, true, true, false, true, true, true, false, false, true, true, false, false, false] ?_ (fun hd4_24 => ?_)
 refine D.all 5 [6, 18] (by kernel_rfl) ⟨?_, ?_, ?_, trivial⟩
 refine D.ef1 rfl (.none rfl) (by exact Eff1.ap T rfl rfl rfl rfl rfl rfl (.inl rfl) rfl rfl rfl (fun _ => rfl) rfl hx5) rfl rfl ?_
 exact D.to [some 0, some 1, some 2, some 5, some 3, some 4] hd4_35 (by kernel_rfl) rfl rfl (.eqs rfl) ⟨bX, bX, vL, vL, vL, trivial⟩ rfl rfl rfl
 refine D.ef1 rfl (.none rfl) (by exact Eff1.bs T (enc := eApiRobot) (xs := ([] : List ApiRobot)) rfl rfl rfl rfl rfl rfl rfl rfl rfl rfl (fun _ _ => rfl) rfl rfl) rfl rfl ?_
 exact D.to [some 0, some 1, some 2, some 5, some 3, some 4] hd4_38 (by kernel_rfl) rfl rfl (.eqs rfl) ⟨bX, bX, vL, vL, vL, vL, trivial⟩ rfl rfl rfl
 refine D.ef1 rfl (.none rfl) (by exact Eff1.bs T (enc := eApiStuck) (xs := ([] : List ApiStuck)) rfl rfl rfl rfl rfl rfl rfl rfl rfl rfl (fun _ _ => rfl) rfl rfl) rfl rfl ?_
 exact D.to [some 0, some 1, some 2, some 3, some 4, some 5] hd4_41 (by kernel_rfl) rfl rfl (.eqs rfl) ⟨bX, bX, vL, vL, vL, vL, trivial⟩ rfl rfl rfl
 refine D.have false [(0, .agg (eApiState st)), (1, .p 0 0), (2, .p 1 0), (3, .p 0 0), (4, .i st.Tick), (5, .o 2), (6, .p 0 1), (7, .sl 1 eI st.Shelves), (10, .p 0 2), (11, .sl 6 eApiRobot st.Robots), (13, .o 3), (14, .p 0 3), (15, .sl 1 eI st.People), (18, .p 0 4), (19, .sl 1 eI st.Dead), (21, .o 4), (22, .p 0 5), (23, .sl 2 eApiStuck st.Stuck)] [(0, .box (eApiState st)), (1, .box [.i 0, .v (.slice none 0 0), .v (.slice none 0 0), .v (.slice none 0 0), .v (.slice none 0 0), .v (.slice none 0 0)]), (2, .val (.os 1 eI ([] : List Int))), (3, .val (.os 1 eI ([] : List Int))), (4, .val (.os 2 eApiStuck ([] : List ApiStuck)))] 5 9 #[true, true, true, true, true, false, false, true, true, false, true, true, true, false, false, true, true, false, true, true, true, false, false, false] ?_ (fun hd4_25 => ?_)
 refine D.all 5 [6, 14] (by kernel_rfl) ⟨?_, ?_, ?_, trivial⟩
 refine D.ef1 rfl (.none rfl) (by exact Eff1.ap T rfl rfl rfl rfl rfl rfl (.inl rfl) rfl rfl rfl (fun _ => rfl) rfl hx5) rfl rfl ?_
 exact D.to [some 0, some 1, some 2, some 5, some 3, some 4] hd4_36 (by kernel_rfl) rfl rfl (.eqs rfl) ⟨bX, bX, vL, vL, vL, trivial⟩ rfl rfl rfl
 refine D.ef1 rfl (.none rfl) (by exact Eff1.bs T (enc := eApiRobot) (xs := ([] : List ApiRobot)) rfl rfl rfl rfl rfl rfl rfl rfl rfl rfl (fun _ _ => rfl) rfl rfl) rfl rfl ?_
 exact D.to [some 0, some 1, some 2, some 5, some 3, some 4] hd4_39 (by kernel_rfl) rfl rfl (.eqs rfl) ⟨bX, bX, vL, vL, vL, vL, trivial⟩ rfl rfl rfl
 refine D.ef1 rfl (.none rfl) (by exact Eff1.bs T (enc := eI) (xs := ([] : List Int)) rfl rfl rfl rfl rfl rfl rfl rfl rfl rfl (fun _ _ => rfl) rfl rfl) rfl rfl ?_
 exact D.to [some 0, some 1, some 2, some 3, some 5, some 4] hd4_41 (by kernel_rfl) rfl rfl (.eqs rfl) ⟨bX, bX, vL, vL, vL, vL, trivial⟩ rfl rfl rfl
 refine D.have false [(0, .agg (eApiState st)), (1, .p 0 0), (2, .p 1 0), (3, .p 0 0), (4, .i st.Tick), (5, .o 2), (6, .p 0 1), (7, .sl 1 eI st.Shelves), (10, .p 0 2), (11, .sl 6 eApiRobot st.Robots), (14, .p 0 3), (15, .sl 1 eI st.People), (17, .o 3), (18, .p 0 4), (19, .sl 1 eI st.Dead), (21, .o 4), (22, .p 0 5), (23, .sl 2 eApiStuck st.Stuck)] [(0, .box (eApiState st)), (1, .box [.i 0, .v (.slice none 0 0), .v (.slice none 0 0), .v (.slice none 0 0), .v (.slice none 0 0), .v (.slice none 0 0)]), (2, .val (.os 1 eI ([] : List Int))), (3, .val (.os 1 eI ([] : List Int))), (4, .val (.os 2 eApiStuck ([] : List ApiStuck)))] 5 9 #[true, true, true, true, true, false, false, true, true, false, false, true, true, false, true, true, true, false, true, true, true, false, false, false] ?_ (fun hd4_26 => ?_)
 refine D.all 5 [6, 10] (by kernel_rfl) ⟨?_, ?_, ?_, trivial⟩
 refine D.ef1 rfl (.none rfl) (by exact Eff1.ap T rfl rfl rfl rfl rfl rfl (.inl rfl) rfl rfl rfl (fun _ => rfl) rfl hx5) rfl rfl ?_
 exact D.to [some 0, some 1, some 2, some 5, some 3, some 4] hd4_37 (by kernel_rfl) rfl rfl (.eqs rfl) ⟨bX, bX, vL, vL, vL, trivial⟩ rfl rfl rfl
 refine D.ef1 rfl (.none rfl) (by exact Eff1.bs T (enc := eApiRobot) (xs := ([] : List ApiRobot)) rfl rfl rfl rfl rfl rfl rfl rfl rfl rfl (fun _ _ => rfl) rfl rfl) rfl rfl ?_
 exact D.to [some 0, some 1, some 2, some 5, some 3, some 4] hd4_40 (by kernel_rfl) rfl rfl (.eqs rfl) ⟨bX, bX, vL, vL, vL, vL, trivial⟩ rfl rfl rfl
 refine D.ef1 rfl (.none rfl) (by exact Eff1.bs T (enc := eI) (xs := ([] : List Int)) rfl rfl rfl rfl rfl rfl rfl rfl rfl rfl (fun _ _ => rfl) rfl rfl) rfl rfl ?_
 exact D.to [some 0, some 1, some 2, some 5, some 3, some 4] hd4_41 (by kernel_rfl) rfl rfl (.eqs rfl) ⟨bX, bX, vL, vL, vL, vL, trivial⟩ rfl rfl rfl
 refine D.have false [(0, .agg (eApiState st)), (1, .p 0 0), (2, .p 1 0), (3, .p 0 0), (4, .i st.Tick), (6, .p 0 1), (7, .sl 1 eI st.Shelves), (9, .o 2), (10, .p 0 2), (11, .sl 6 eApiRobot st.Robots), (13, .o 3), (14, .p 0 3), (15, .sl 1 eI st.People), (17, .o 4), (18, .p 0 4), (19, .sl 1 eI st.Dead), (22, .p 0 5), (23, .sl 2 eApiStuck st.Stuck)] [(0, .box (eApiState st)), (1, .box [.i 0, .v (.slice none 0 0), .v (.slice none 0 0), .v (.slice none 0 0), .v (.slice none 0 0), .v (.slice none 0 0)]), (2, .val (.os 6 eApiRobot ([] : List ApiRobot))), (3, .val (.os 1 eI ([] : List Int))), (4, .val (.os 1 eI ([] : List Int)))] 5 9 #[true, true, false, true, true, false, true, true, true, false, true, true, true, false, true, true, true, false, false, true, true, false, false, false] ?_ (fun hd4_27 => ?_)
 refine D.all 2 [18] (by kernel_rfl) ⟨?_, ?_, trivial⟩
 refine D.ef1 rfl (.none rfl) (by exact Eff1.bs T (enc := eI) (xs := ([] : List Int)) rfl rfl rfl rfl rfl rfl rfl rfl rfl rfl (fun _ _ => rfl) rfl rfl) rfl rfl ?_
 exact D.to [some 0, some 1, some 5, some 2, some 3, some 4] hd4_38 (by kernel_rfl) rfl rfl (.eqs rfl) ⟨bX, bX, vL, vL, vL, vL, trivial⟩ rfl rfl rfl
 refine D.ef1 rfl (.none rfl) (by exact Eff1.bs T (enc := eApiStuck) (xs := ([] : List ApiStuck)) rfl rfl rfl rfl rfl rfl rfl rfl rfl rfl (fun _ _ => rfl) rfl rfl) rfl rfl ?_
 exact D.to [some 0, some 1, some 2, some 3, some 4, some 5] hd4_42 (by kernel_rfl) rfl rfl (.eqs rfl) ⟨bX, bX, vL, vL, vL, vL, trivial⟩ rfl rfl rfl
 refine D.have false [(0, .agg (eApiState st)), (1, .p 0 0), (2, .p 1 0), (3, .p 0 0), (4, .i st.Tick), (6, .p 0 1), (7, .sl 1 eI st.Shelves), (9, .o 2), (10, .p 0 2), (11, .sl 6 eApiRobot st.Robots), (13, .o 3), (14, .p 0 3), (15, .sl 1 eI st.People), (18, .p 0 4), (19, .sl 1 eI st.Dead), (21, .o 4), (22, .p 0 5), (23, .sl 2 eApiStuck st.Stuck)] [(0, .box (eApiState st)), (1, .box [.i 0, .v (.slice none 0 0), .v (.slice none 0 0), .v (.slice none 0 0), .v (.slice none 0 0), .v (.slice none 0 0)]), (2, .val (.os 6 eApiRobot ([] : List ApiRobot))), (3, .val (.os 1 eI ([] : List Int))), (4, .val (.os 2 eApiStuck ([] : List ApiStuck)))] 5 9 #[true, true, false, true, true, false, true, true, true, false, true, true, true, false, false, true, true, false, true, true, true, false, false, false] ?_ (fun hd4_28 => ?_)
 refine D.all 2 [14] (by kernel_rfl) ⟨?_, ?_, trivial⟩
 refine D.ef1 rfl (.none rfl) (by exact Eff1.bs T (enc := eI) (xs := ([] : List Int)) rfl rfl rfl rfl rfl rfl rfl rfl rfl rfl (fun _ _ => rfl) rfl rfl) rfl rfl ?_
 exact D.to [some 0, some 1, some 5, some 2, some 3, some 4] hd4_39 (by kernel_rfl) rfl rfl (.eqs rfl) ⟨bX, bX, vL, vL, vL, vL, trivial⟩ rfl rfl rfl
 refine D.ef1 rfl (.none rfl) (by exact Eff1.bs T (enc := eI) (xs := ([] : List Int)) rfl rfl rfl rfl rfl rfl rfl rfl rfl rfl (fun _ _ => rfl) rfl rfl) rfl rfl ?_
 exact D.to [some 0, some 1, some 2, some 3, some 5, some 4] hd4_42 (by kernel_rfl) rfl rfl (.eqs rfl) ⟨bX, bX, vL, vL, vL, vL, trivial⟩ rfl rfl rfl
 refine D.have false [(0, .agg (eApiState st)), (1, .p 0 0), (2, .p 1 0), (3, .p 0 0), (4, .i st.Tick), (6, .p 0 1), (7, .sl 1 eI st.Shelves), (9, .o 2), (10, .p 0 2), (11, .sl 6 eApiRobot st.Robots), (14, .p 0 3), (15, .sl 1 eI st.People), (17, .o 3), (18, .p 0 4), (19, .sl 1 eI st.Dead), (21, .o 4), (22, .p 0 5), (23, .sl 2 eApiStuck st.Stuck)] [(0, .box (eApiState st)), (1, .box [.i 0, .v (.slice none 0 0), .v (.slice none 0 0), .v (.slice none 0 0), .v (.slice none 0 0), .v (.slice none 0 0)]), (2, .val (.os 6 eApiRobot ([] : List ApiRobot))), (3, .val (.os 1 eI ([] : List Int))), (4, .val (.os 2 eApiStuck ([] : List ApiStuck)))] 5 9 #[true, true, false, true, true, false, true, true, true, false, false, true, true, false, true, true, true, false, true, true, true, false, false, false] ?_ (fun hd4_29 => ?_)
 refine D.all 2 [10] (by kernel_rfl) ⟨?_, ?_, trivial⟩
 refine D.ef1 rfl (.none rfl) (by exact Eff1.bs T (enc := eI) (xs := ([] : List Int)) rfl rfl rfl rfl rfl rfl rfl rfl rfl rfl (fun _ _ => rfl) rfl rfl) rfl rfl ?_
 exact D.to [some 0, some 1, some 5, some 2, some 3, some 4] hd4_40 (by kernel_rfl) rfl rfl (.eqs rfl) ⟨bX, bX, vL, vL, vL, vL, trivial⟩ rfl rfl rfl
 refine D.ef1 rfl (.none rfl) (by exact Eff1.bs T (enc := eI) (xs := ([] : List Int)) rfl rfl rfl rfl rfl rfl rfl rfl rfl rfl (fun _ _ => rfl) rfl rfl) rfl rfl ?_
 exact D.to [some 0, some 1, some 2, some 5, some 3, some 4] hd4_42 (by kernel_rfl) rfl rfl (.eqs rfl) ⟨bX, bX, vL, vL, vL, vL, trivial⟩ rfl rfl rfl
 refine D.have false [(0, .agg (eApiState st)), (1, .p 0 0), (2, .p 1 0), (3, .p 0 0), (4, .i st.Tick), (6, .p 0 1), (7, .sl 1 eI st.Shelves), (10, .p 0 2), (11, .sl 6 eApiRobot st.Robots), (13, .o 2), (14, .p 0 3), (15, .sl 1 eI st.People), (17, .o 3), (18, .p 0 4), (19, .sl 1 eI st.Dead), (21, .o 4), (22, .p 0 5), (23, .sl 2 eApiStuck st.Stuck)] [(0, .box (eApiState st)), (1, .box [.i 0, .v (.slice none 0 0), .v (.slice none 0 0), .v (.slice none 0 0), .v (.slice none 0 0), .v (.slice none 0 0)]), (2, .val (.os 1 eI ([] : List Int))), (3, .val (.os 1 eI ([] : List Int))), (4, .val (.os 2 eApiStuck ([] : List ApiStuck)))] 5 9 #[true, true, false, true, true, false, false, true, true, false, true, true, true, false, true, true, true, false, true, true, true, false, false, false] ?_ (fun hd4_30 => ?_)
 refine D.all 2 [6] (by kernel_rfl) ⟨?_, ?_, trivial⟩
 refine D.ef1 rfl (.none rfl) (by exact Eff1.bs T (enc := eI) (xs := ([] : List Int)) rfl rfl rfl rfl rfl rfl rfl rfl rfl rfl (fun _ _ => rfl) rfl rfl) rfl rfl ?_
 exact D.to [some 0, some 1, some 5, some 2, some 3, some 4] hd4_41 (by kernel_rfl) rfl rfl (.eqs rfl) ⟨bX, bX, vL, vL, vL, vL, trivial⟩ rfl rfl rfl
 refine D.ef1 rfl (.none rfl) (by exact Eff1.bs T (enc := eApiRobot) (xs := ([] : List ApiRobot)) rfl rfl rfl rfl rfl rfl rfl rfl rfl rfl (fun _ _ => rfl) rfl rfl) rfl rfl ?_
 exact D.to [some 0, some 1, some 5, some 2, some 3, some 4] hd4_42 (by kernel_rfl) rfl rfl (.eqs rfl) ⟨bX, bX, vL, vL, vL, vL, trivial⟩ rfl rfl rfl
 refine D.have false [(0, .agg (eApiState st)), (1, .p 0 0), (2, .p 1 0), (3, .p 0 0), (4, .i st.Tick), (5, .o 2), (6, .p 0 1), (7, .sl 1 eI st.Shelves), (8, .o 3), (10, .p 0 2), (11, .sl 6 eApiRobot st.Robots), (14, .p 0 3), (15, .sl 1 eI st.People), (18, .p 0 4), (19, .sl 1 eI st.Dead), (22, .p 0 5), (23, .sl 2 eApiStuck st.Stuck)] [(0, .box (eApiState st)), (1, .box [.i 0, .v (.slice none 0 0), .v (.slice none 0 0), .v (.slice none 0 0), .v (.slice none 0 0), .v (.slice none 0 0)]), (3, .val (.os 1 eI (([] : List Int) ++ st.Shelves)))] 4 10 #[true, true, true, true, true, true, false, true, true, false, false, true, true, false, false, true, true, false, false, true, true, false, false, false] ?_ (fun hd4_6 => ?_)
 refine D.all 6 [10, 14, 18] (by kernel_rfl) ⟨?_, ?_, ?_, ?_, trivial⟩
 refine D.ef1 rfl (.none rfl) (by exact Eff1.bs T (enc := eApiRobot) (xs := ([] : List ApiRobot)) rfl rfl rfl rfl rfl rfl rfl rfl rfl rfl (fun _ _ => rfl) rfl rfl) rfl rfl ?_
 exact D.to [some 0, some 1, some 2, some 3, some 4] hd4_17 (by kernel_rfl) rfl rfl (.eqs rfl) ⟨bX, bX, vL, vL, trivial⟩ rfl rfl rfl
 refine D.ef1 rfl (.none rfl) (by exact Eff1.bs T (enc := eI) (xs := ([] : List Int)) rfl rfl rfl rfl rfl rfl rfl rfl rfl rfl (fun _ _ => rfl) rfl rfl) rfl rfl ?_
 exact D.to [some 0, some 1, some 2, some 3, some 4] hd4_18 (by kernel_rfl) rfl rfl (.eqs rfl) ⟨bX, bX, vL, vL, trivial⟩ rfl rfl rfl
 refine D.ef1 rfl (.none rfl) (by exact Eff1.bs T (enc := eI) (xs := ([] : List Int)) rfl rfl rfl rfl rfl rfl rfl rfl rfl rfl (fun _ _ => rfl) rfl rfl) rfl rfl ?_
 exact D.to [some 0, some 1, some 2, some 3, some 4] hd4_19 (by kernel_rfl) rfl rfl (.eqs rfl) ⟨bX, bX, vL, vL, trivial⟩ rfl rfl rfl
 refine D.ef1 rfl (.none rfl) (by exact Eff1.bs T (enc := eApiStuck) (xs := ([] : List ApiStuck)) rfl rfl rfl rfl rfl rfl rfl rfl rfl rfl (fun _ _ => rfl) rfl rfl) rfl rfl ?_
 exact D.to [some 0, some 1, some 2, some 3, some 4] hd4_20 (by kernel_rfl) rfl rfl (.eqs rfl) ⟨bX, bX, vL, vL, trivial⟩ rfl rfl rfl
 refine D.have false [(0, .agg (eApiState st)), (1, .p 0 0), (2, .p 1 0), (3, .p 0 0), (4, .i st.Tick), (5, .o 2), (6, .p 0 1), (7, .sl 1 eI st.Shelves), (9, .o 3), (10, .p 0 2), (11, .sl 6 eApiRobot st.Robots), (14, .p 0 3), (15, .sl 1 eI st.People), (18, .p 0 4), (19, .sl 1 eI st.Dead), (22, .p 0 5), (23, .sl 2 eApiStuck st.Stuck)] [(0, .box (eApiState st)), (1, .box [.i 0, .v (.slice none 0 0), .v (.slice none 0 0), .v (.slice none 0 0), .v (.slice none 0 0), .v (.slice none 0 0)]), (2, .val (.os 1 eI ([] : List Int))), (3, .val (.os 6 eApiRobot ([] : List ApiRobot)))] 4 10 #[true, true, true, true, true, false, true, true, true, false, false, true, true, false, false, true, true, false, false, true, true, false, false, false] ?_ (fun hd4_7 => ?_)
 refine D.all 5 [10, 14, 18] (by kernel_rfl) ⟨?_, ?_, ?_, ?_, trivial⟩
 refine D.ef1 rfl (.none rfl) (by exact Eff1.ap T rfl rfl rfl rfl rfl rfl (.inl rfl) rfl rfl rfl (fun _ => rfl) rfl hx5) rfl rfl ?_
 exact D.to [some 0, some 1, some 2, some 4, some 3] hd4_17 (by kernel_rfl) rfl rfl (.eqs rfl) ⟨bX, bX, vL, vL, trivial⟩ rfl rfl rfl
 refine D.ef1 rfl (.none rfl) (by exact Eff1.bs T (enc := eI) (xs := ([] : List Int)) rfl rfl rfl rfl rfl rfl rfl rfl rfl rfl (fun _ _ => rfl) rfl rfl) rfl rfl ?_
 exact D.to [some 0, some 1, some 2, some 3, some 4] hd4_21 (by kernel_rfl) rfl rfl (.eqs rfl) ⟨bX, bX, vL, vL, vL, trivial⟩ rfl rfl rfl
 refine D.ef1 rfl (.none rfl) (by exact Eff1.bs T (enc := eI) (xs := ([] : List Int)) rfl rfl rfl rfl rfl rfl rfl rfl rfl rfl (fun _ _ => rfl) rfl rfl) rfl rfl ?_
 exact D.to [some 0, some 1, some 2, some 3, some 4] hd4_22 (by kernel_rfl) rfl rfl (.eqs rfl) ⟨bX, bX, vL, vL, vL, trivial⟩ rfl rfl rfl
 refine D.ef1 rfl (.none rfl) (by exact Eff1.bs T (enc := eApiStuck) (xs := ([] : List ApiStuck)) rfl rfl rfl rfl rfl rfl rfl rfl rfl rfl (fun _ _ => rfl) rfl rfl) rfl rfl ?_
 exact D.to [some 0, some 1, some 2, some 3, some 4] hd4_23 (by kernel_rfl) rfl rfl (.eqs rfl) ⟨bX, bX, vL, vL, vL, trivial⟩ rfl rfl rfl
 refine D.have false [(0, .agg (eApiState st)), (1, .p 0 0), (2, .p 1 0), (3, .p 0 0), (4, .i st.Tick), (5, .o 2), (6, .p 0 1), (7, .sl 1 eI st.Shelves), (10, .p 0 2), (11, .sl 6 eApiRobot st.Robots), (13, .o 3), (14, .p 0 3), (15, .sl 1 eI st.People), (18, .p 0 4), (19, .sl 1 eI st.Dead), (22, .p 0 5), (23, .sl 2 eApiStuck st.Stuck)] [(0, .box (eApiState st)), (1, .box [.i 0, .v (.slice none 0 0), .v (.slice none 0 0), .v (.slice none 0 0), .v (.slice none 0 0), .v (.slice none 0 0)]), (2, .val (.os 1 eI ([] : List Int))), (3, .val (.os 1 eI ([] : List Int)))] 4 10 #[true, true, true, true, true, false, false, true, true, false, true, true, true, false, false, true, true, false, false, true, true, false, false, false] ?_ (fun hd4_8 => ?_)
 refine D.all 5 [6, 14, 18] (by kernel_rfl) ⟨?_, ?_, ?_, ?_, trivial⟩
 refine D.ef1 rfl (.none rfl) (by exact Eff1.ap T rfl rfl rfl rfl rfl rfl (.inl rfl) rfl rfl rfl (fun _ => rfl) rfl hx5) rfl rfl ?_
 exact D.to [some 0, some 1, some 2, some 4, some 3] hd4_18 (by kernel_rfl) rfl rfl (.eqs rfl) ⟨bX, bX, vL, vL, trivial⟩ rfl rfl rfl
 refine D.ef1 rfl (.none rfl) (by exact Eff1.bs T (enc := eApiRobot) (xs := ([] : List ApiRobot)) rfl rfl rfl rfl rfl rfl rfl rfl rfl rfl (fun _ _ => rfl) rfl rfl) rfl rfl ?_
 exact D.to [some 0, some 1, some 2, some 4, some 3] hd4_21 (by kernel_rfl) rfl rfl (.eqs rfl) ⟨bX, bX, vL, vL, vL, trivial⟩ rfl rfl rfl
 refine D.ef1 rfl (.none rfl) (by exact Eff1.bs T (enc := eI) (xs := ([] : List Int)) rfl rfl rfl rfl rfl rfl rfl rfl rfl rfl (fun _ _ => rfl) rfl rfl) rfl rfl ?_
 exact D.to [some 0, some 1, some 2, some 3, some 4] hd4_24 (by kernel_rfl) rfl rfl (.eqs rfl) ⟨bX, bX, vL, vL, vL, trivial⟩ rfl rfl rfl
 refine D.ef1 rfl (.none rfl) (by exact Eff1.bs T (enc := eApiStuck) (xs := ([] : List ApiStuck)) rfl rfl rfl rfl rfl rfl rfl rfl rfl rfl (fun _ _ => rfl) rfl rfl) rfl rfl ?_
 exact D.to [some 0, some 1, some 2, some 3, some 4] hd4_25 (by kernel_rfl) rfl rfl (.eqs rfl) ⟨bX, bX, vL, vL, vL, trivial⟩ rfl rfl rfl
 refine D.have false [(0, .agg (eApiState st)), (1, .p 0 0), (2, .p 1 0), (3, .p 0 0), (4, .i st.Tick), (5, .o 2), (6, .p 0 1), (7, .sl 1 eI st.Shelves), (10, .p 0 2), (11, .sl 6 eApiRobot st.Robots), (14, .p 0 3), (15, .sl 1 eI st.People), (17, .o 3), (18, .p 0 4), (19, .sl 1 eI st.Dead), (22, .p 0 5), (23, .sl 2 eApiStuck st.Stuck)] [(0, .box (eApiState st)), (1, .box [.i 0, .v (.slice none 0 0), .v (.slice none 0 0), .v (.slice none 0 0), .v (.slice none 0 0), .v (.slice none 0 0)]), (2, .val (.os 1 eI ([] : List Int))), (3, .val (.os 1 eI ([] : List Int)))] 4 10 #[true, true, true, true, true, false, false, true, true, false, false, true, true, false, true, true, true, false, false, true, true, false, false, false] ?_ (fun hd4_9 => ?_)
 refine D.all 5 [6, 10, 18] (by kernel_rfl) ⟨?_, ?_, ?_, ?_, trivial⟩
 refine D.ef1 rfl (.none rfl) (by exact Eff1.ap T rfl rfl rfl rfl rfl rfl (.inl rfl) rfl rfl rfl (fun _ => rfl) rfl hx5) rfl rfl ?_
 exact D.to [some 0, some 1, some 2, some 4, some 3] hd4_19 (by kernel_rfl) rfl rfl (.eqs rfl) ⟨bX, bX, vL, vL, trivial⟩ rfl rfl rfl
 refine D.ef1 rfl (.none rfl) (by exact Eff1.bs T (enc := eApiRobot) (xs := ([] : List ApiRobot)) rfl rfl rfl rfl rfl rfl rfl rfl rfl rfl (fun _ _ => rfl) rfl rfl) rfl rfl ?_
 exact D.to [some 0, some 1, some 2, some 4, some 3] hd4_22 (by kernel_rfl) rfl rfl (.eqs rfl) ⟨bX, bX, vL, vL, vL, trivial⟩ rfl rfl rfl
 refine D.ef1 rfl (.none rfl) (by exact Eff1.bs T (enc := eI) (xs := ([] : List Int)) rfl rfl rfl rfl rfl rfl rfl rfl rfl rfl (fun _ _ => rfl) rfl rfl) rfl rfl ?_
 exact D.to [some 0, some 1, some 2, some 4, some 3] hd4_24 (by kernel_rfl) rfl rfl (.eqs rfl) ⟨bX, bX, vL, vL, vL, trivial⟩ rfl rfl rfl
 refine D.ef1 rfl (.none rfl) (by exact Eff1.bs T (enc := eApiStuck) (xs := ([] : List ApiStuck)) rfl rfl rfl rfl rfl rfl rfl rfl rfl rfl (fun _ _ => rfl) rfl rfl) rfl rfl ?_
 exact D.to [some 0, some 1, some 2, some 3, some 4] hd4_26 (by kernel_rfl) rfl rfl (.eqs rfl) ⟨bX, bX, vL, vL, vL, trivial⟩ rfl rfl rfl
 refine D.have false [(0, .agg (eApiState st)), (1, .p 0 0), (2, .p 1 0), (3, .p 0 0), (4, .i st.Tick), (5, .o 2), (6, .p 0 1), (7, .sl 1 eI st.Shelves), (10, .p 0 2), (11, .sl 6 eApiRobot st.Robots), (14, .p 0 3), (15, .sl 1 eI st.People), (18, .p 0 4), (19, .sl 1 eI st.Dead), (21, .o 3), (22, .p 0 5), (23, .sl 2 eApiStuck st.Stuck)] [(0, .box (eApiState st)), (1, .box [.i 0, .v (.slice none 0 0), .v (.slice none 0 0), .v (.slice none 0 0), .v (.slice none 0 0), .v (.slice none 0 0)]), (2, .val (.os 1 eI ([] : List Int))), (3, .val (.os 2 eApiStuck ([] : List ApiStuck)))] 4 10 #[true, true, true, true, true, false, false, true, true, false, false, true, true, false, false, true, true, false, true, true, true, false, false, false] ?_ (fun hd4_10 => ?_)
 refine D.all 5 [6, 10, 14] (by kernel_rfl) ⟨?_, ?_, ?_, ?_, trivial⟩
 refine D.ef1 rfl (.none rfl) (by exact Eff1.ap T rfl rfl rfl rfl rfl rfl (.inl rfl) rfl rfl rfl (fun _ => rfl) rfl hx5) rfl rfl ?_
 exact D.to [some 0, some 1, some 2, some 4, some 3] hd4_20 (by kernel_rfl) rfl rfl (.eqs rfl) ⟨bX, bX, vL, vL, trivial⟩ rfl rfl rfl
 refine D.ef1 rfl (.none rfl) (by exact Eff1.bs T (enc := eApiRobot) (xs := ([] : List ApiRobot)) rfl rfl rfl rfl rfl rfl rfl rfl rfl rfl (fun _ _ => rfl) rfl rfl) rfl rfl ?_
 exact D.to [some 0, some 1, some 2, some 4, some 3] hd4_23 (by kernel_rfl) rfl rfl (.eqs rfl) ⟨bX, bX, vL, vL, vL, trivial⟩ rfl rfl rfl
 refine D.ef1 rfl (.none rfl) (by exact Eff1.bs T (enc := eI) (xs := ([] : List Int)) rfl rfl rfl rfl rfl rfl rfl rfl rfl rfl (fun _ _ => rfl) rfl rfl) rfl rfl ?_
 exact D.to [some 0, some 1, some 2, some 4, some 3] hd4_25 (by kernel_rfl) rfl rfl (.eqs rfl) ⟨bX, bX, vL, vL, vL, trivial⟩ rfl rfl rfl
 refine D.ef1 rfl (.none rfl) (by exact Eff1.bs T (enc := eI) (xs := ([] : List Int)) rfl rfl rfl rfl rfl rfl rfl rfl rfl rfl (fun _ _ => rfl) rfl rfl) rfl rfl ?_
 exact D.to [some 0, some 1, some 2, some 4, some 3] hd4_26 (by kernel_rfl) rfl rfl (.eqs rfl) ⟨bX, bX, vL, vL, vL, trivial⟩ rfl rfl rfl
 refine D.have false [(0, .agg (eApiState st)), (1, .p 0 0), (2, .p 1 0), (3, .p 0 0), (4, .i st.Tick), (6, .p 0 1), (7, .sl 1 eI st.Shelves), (9, .o 2), (10, .p 0 2), (11, .sl 6 eApiRobot st.Robots), (13, .o 3), (14, .p 0 3), (15, .sl 1 eI st.People), (18, .p 0 4), (19, .sl 1 eI st.Dead), (22, .p 0 5), (23, .sl 2 eApiStuck st.Stuck)] [(0, .box (eApiState st)), (1, .box [.i 0, .v (.slice none 0 0), .v (.slice none 0 0), .v (.slice none 0 0), .v (.slice none 0 0), .v (.slice none 0 0)]), (2, .val (.os 6 eApiRobot ([] : List ApiRobot))), (3, .val (.os 1 eI ([] : List Int)))] 4 10 #[true, true, false, true, true, false, true, true, true, false, true, true, true, false, false, true, true, false, false, true, true, false, false, false] ?_ (fun hd4_11 => ?_)
 refine D.all 2 [14, 18] (by kernel_rfl) ⟨?_, ?_, ?_, trivial⟩
 refine D.ef1 rfl (.none rfl) (by exact Eff1.bs T (enc := eI) (xs := ([] : List Int)) rfl rfl rfl rfl rfl rfl rfl rfl rfl rfl (fun _ _ => rfl) rfl rfl) rfl rfl ?_
 exact D.to [some 0, some 1, some 4, some 2, some 3] hd4_21 (by kernel_rfl) rfl rfl (.eqs rfl) ⟨bX, bX, vL, vL, vL, trivial⟩ rfl rfl rfl
 refine D.ef1 rfl (.none rfl) (by exact Eff1.bs T (enc := eI) (xs := ([] : List Int)) rfl rfl rfl rfl rfl rfl rfl rfl rfl rfl (fun _ _ => rfl) rfl rfl) rfl rfl ?_
 exact D.to [some 0, some 1, some 2, some 3, some 4] hd4_27 (by kernel_rfl) rfl rfl (.eqs rfl) ⟨bX, bX, vL, vL, vL, trivial⟩ rfl rfl rfl
 refine D.ef1 rfl (.none rfl) (by exact Eff1.bs T (enc := eApiStuck) (xs := ([] : List ApiStuck)) rfl rfl rfl rfl rfl rfl rfl rfl rfl rfl (fun _ _ => rfl) rfl rfl) rfl rfl ?_
 exact D.to [some 0, some 1, some 2, some 3, some 4] hd4_28 (by kernel_rfl) rfl rfl (.eqs rfl) ⟨bX, bX, vL, vL, vL, trivial⟩ rfl rfl rfl
 refine D.have false [(0, .agg (eApiState st)), (1, .p 0 0), (2, .p 1 0), (3, .p 0 0), (4, .i st.Tick), (6, .p 0 1), (7, .sl 1 eI st.Shelves), (9, .o 2), (10, .p 0 2), (11, .sl 6 eApiRobot st.Robots), (14, .p 0 3), (15, .sl 1 eI st.People), (17, .o 3), (18, .p 0 4), (19, .sl 1 eI st.Dead), (22, .p 0 5), (23, .sl 2 eApiStuck st.Stuck)] [(0, .box (eApiState st)), (1, .box [.i 0, .v (.slice none 0 0), .v (.slice none 0 0), .v (.slice none 0 0), .v (.slice none 0 0), .v (.slice none 0 0)]), (2, .val (.os 6 eApiRobot ([] : List ApiRobot))), (3, .val (.os 1 eI ([] : List Int)))] 4 10 #[true, true, false, true, true, false, true, true, true, false, false, true, true, false, true, true, true, false, false, true, true, false, false, false] ?_ (fun hd4_12 => ?_)
 refine D.all 2 [10, 18] (by kernel_rfl) ⟨?_, ?_, ?_, trivial⟩
 refine D.ef1 rfl (.none rfl) (by exact Eff1.bs T (enc := eI) (xs := ([] : List Int)) rfl rfl rfl rfl rfl rfl rfl rfl rfl rfl (fun _ _ => rfl) rfl rfl) rfl rfl ?_
 exact D.to [some 0, some 1, some 4, some 2, some 3] hd4_22 (by kernel_rfl) rfl rfl (.eqs rfl) ⟨bX, bX, vL, vL, vL, trivial⟩ rfl rfl rfl
 refine D.ef1 rfl (.none rfl) (by exact Eff1.bs T (enc := eI) (xs := ([] : List Int)) rfl rfl rfl rfl rfl rfl rfl rfl rfl rfl (fun _ _ => rfl) rfl rfl) rfl rfl ?_
 exact D.to [some 0, some 1, some 2, some 4, some 3] hd4_27 (by kernel_rfl) rfl rfl (.eqs rfl) ⟨bX, bX, vL, vL, vL, trivial⟩ rfl rfl rfl
 refine D.ef1 rfl (.none rfl) (by exact Eff1.bs T (enc := eApiStuck) (xs := ([] : List ApiStuck)) rfl rfl rfl rfl rfl rfl rfl rfl rfl rfl (fun _ _ => rfl) rfl rfl) rfl rfl ?_
 exact D.to [some 0, some 1, some 2, some 3, some 4] hd4_29 (by kernel_rfl) rfl rfl (.eqs rfl) ⟨bX, bX, vL, vL, vL, trivial⟩ rfl rfl rfl
 refine D.have false [(0, .agg (eApiState st)), (1, .p 0 0), (2, .p 1 0), (3, .p 0 0), (4, .i st.Tick), (6, .p 0 1), (7, .sl 1 eI st.Shelves), (9, .o 2), (10, .p 0 2), (11, .sl 6 eApiRobot st.Robots), (14, .p 0 3), (15, .sl 1 eI st.People), (18, .p 0 4), (19, .sl 1 eI st.Dead), (21, .o 3), (22, .p 0 5), (23, .sl 2 eApiStuck st.Stuck)] [(0, .box (eApiState st)), (1, .box [.i 0, .v (.slice none 0 0), .v (.slice none 0 0), .v (.slice none 0 0), .v (.slice none 0 0), .v (.slice none 0 0)]), (2, .val (.os 6 eApiRobot ([] : List ApiRobot))), (3, .val (.os 2 eApiStuck ([] : List ApiStuck)))] 4 10 #[true, true, false, true, true, false, true, true, true, false, false, true, true, false, false, true, true, false, true, true, true, false, false, false] ?_ (fun hd4_13 => ?_)
 refine D.all 2 [10, 14] (by kernel_rfl) ⟨?_, ?_, ?_, trivial⟩
 refine D.ef1 rfl (.none rfl) (by exact Eff1.bs T (enc := eI) (xs := ([] : List Int)) rfl rfl rfl rfl rfl rfl rfl rfl rfl rfl (fun _ _ => rfl) rfl rfl) rfl rfl ?_
 exact D.to [some 0, some 1, some 4, some 2, some 3] hd4_23 (by kernel_rfl) rfl rfl (.eqs rfl) ⟨bX, bX, vL, vL, vL, trivial⟩ rfl rfl rfl
 refine D.ef1 rfl (.none rfl) (by exact Eff1.bs T (enc := eI) (xs := ([] : List Int)) rfl rfl rfl rfl rfl rfl rfl rfl rfl rfl (fun _ _ => rfl) rfl rfl) rfl rfl ?_
 exact D.to [some 0, some 1, some 2, some 4, some 3] hd4_28 (by kernel_rfl) rfl rfl (.eqs rfl) ⟨bX, bX, vL, vL, vL, trivial⟩ rfl rfl rfl
 refine D.ef1 rfl (.none rfl) (by exact Eff1.bs T (enc := eI) (xs := ([] : List Int)) rfl rfl rfl rfl rfl rfl rfl rfl rfl rfl (fun _ _ => rfl) rfl rfl) rfl rfl ?_
 exact D.to [some 0, some 1, some 2, some 4, some 3] hd4_29 (by kernel_rfl) rfl rfl (.eqs rfl) ⟨bX, bX, vL, vL, vL, trivial⟩ rfl rfl rfl
 refine D.have false [(0, .agg (eApiState st)), (1, .p 0 0), (2, .p 1 0), (3, .p 0 0), (4, .i st.Tick), (6, .p 0 1), (7, .sl 1 eI st.Shelves), (10, .p 0 2), (11, .sl 6 eApiRobot st.Robots), (13, .o 2), (14, .p 0 3), (15, .sl 1 eI st.People), (17, .o 3), (18, .p 0 4), (19, .sl 1 eI st.Dead), (22, .p 0 5), (23, .sl 2 eApiStuck st.Stuck)] [(0, .box (eApiState st)), (1, .box [.i 0, .v (.slice none 0 0), .v (.slice none 0 0), .v (.slice none 0 0), .v (.slice none 0 0), .v (.slice none 0 0)]), (2, .val (.os 1 eI ([] : List Int))), (3, .val (.os 1 eI ([] : List Int)))] 4 10 #[true, true, false, true, true, false, false, true, true, false, true, true, true, false, true, true, true, false, false, true, true, false, false, false] ?_ (fun hd4_14 => ?_)
 refine D.all 2 [6, 18] (by kernel_rfl) ⟨?_, ?_, ?_, trivial⟩
 refine D.ef1 rfl (.none rfl) (by exact Eff1.bs T (enc := eI) (xs := ([] : List Int)) rfl rfl rfl rfl rfl rfl rfl rfl rfl rfl (fun _ _ => rfl) rfl rfl) rfl rfl ?_
 exact D.to [some 0, some 1, some 4, some 2, some 3] hd4_24 (by kernel_rfl) rfl rfl (.eqs rfl) ⟨bX, bX, vL, vL, vL, trivial⟩ rfl rfl rfl
 refine D.ef1 rfl (.none rfl) (by exact Eff1.bs T (enc := eApiRobot) (xs := ([] : List ApiRobot)) rfl rfl rfl rfl rfl rfl rfl rfl rfl rfl (fun _ _ => rfl) rfl rfl) rfl rfl ?_
 exact D.to [some 0, some 1, some 4, some 2, some 3] hd4_27 (by kernel_rfl) rfl rfl (.eqs rfl) ⟨bX, bX, vL, vL, vL, trivial⟩ rfl rfl rfl
 refine D.ef1 rfl (.none rfl) (by exact Eff1.bs T (enc := eApiStuck) (xs := ([] : List ApiStuck)) rfl rfl rfl rfl rfl rfl rfl rfl rfl rfl (fun _ _ => rfl) rfl rfl) rfl rfl ?_
 exact D.to [some 0, some 1, some 2, some 3, some 4] hd4_30 (by kernel_rfl) rfl rfl (.eqs rfl) ⟨bX, bX, vL, vL, vL, trivial⟩ rfl rfl rfl
 refine D.have false [(0, .agg (eApiState st)), (1, .p 0 0), (2, .p 1 0), (3, .p 0 0), (4, .i st.Tick), (6, .p 0 1), (7, .sl 1 eI st.Shelves), (10, .p 0 2), (11, .sl 6 eApiRobot st.Robots), (13, .o 2), (14, .p 0 3), (15, .sl 1 eI st.People), (18, .p 0 4), (19, .sl 1 eI st.Dead), (21, .o 3), (22, .p 0 5), (23, .sl 2 eApiStuck st.Stuck)] [(0, .box (eApiState st)), (1, .box [.i 0, .v (.slice none 0 0), .v (.slice none 0 0), .v (.slice none 0 0), .v (.slice none 0 0), .v (.slice none 0 0)]), (2, .val (.os 1 eI ([] : List Int))), (3, .val (.os 2 eApiStuck ([] : List ApiStuck)))] 4 10 #[true, true, false, true, true, false, false, true, true, false, true, true, true, false, false, true, true, false, true, true, true, false, false, false] ?_ (fun hd4_15 => ?_)
 refine D.all 2 [6, 14] (by kernel_rfl) ⟨?_, ?_, ?_, trivial⟩
 refine D.ef1 rfl (.none rfl) (by exact Eff1.bs T (enc := eI) (xs := ([] : List Int)) rfl rfl rfl rfl rfl rfl rfl rfl rfl rfl (fun _ _ => rfl) rfl rfl) rfl rfl ?_
 exact D.to [some 0, some 1, some 4, some 2, some 3] hd4_25 (by kernel_rfl) rfl rfl (.eqs rfl) ⟨bX, bX, vL, vL, vL, trivial⟩ rfl rfl rfl
 refine D.ef1 rfl (.none rfl) (by exact Eff1.bs T (enc := eApiRobot) (xs := ([] : List ApiRobot)) rfl rfl rfl rfl rfl rfl rfl rfl rfl rfl (fun _ _ => rfl) rfl rfl) rfl rfl ?_
 exact D.to [some 0, some 1, some 4, some 2, some 3] hd4_28 (by kernel_rfl) rfl rfl (.eqs rfl) ⟨bX, bX, vL, vL, vL, trivial⟩ rfl rfl rfl
 refine D.ef1 rfl (.none rfl) (by exact Eff1.bs T (enc := eI) (xs := ([] : List Int)) rfl rfl rfl rfl rfl rfl rfl rfl rfl rfl (fun _ _ => rfl) rfl rfl) rfl rfl ?_
 exact D.to [some 0, some 1, some 2, some 4, some 3] hd4_30 (by kernel_rfl) rfl rfl (.eqs rfl) ⟨bX, bX, vL, vL, vL, trivial⟩ rfl rfl rfl
 refine D.have false [(0, .agg (eApiState st)), (1, .p 0 0), (2, .p 1 0), (3, .p 0 0), (4, .i st.Tick), (6, .p 0 1), (7, .sl 1 eI st.Shelves), (10, .p 0 2), (11, .sl 6 eApiRobot st.Robots), (14, .p 0 3), (15, .sl 1 eI st.People), (17, .o 2), (18, .p 0 4), (19, .sl 1 eI st.Dead), (21, .o 3), (22, .p 0 5), (23, .sl 2 eApiStuck st.Stuck)] [(0, .box (eApiState st)), (1, .box [.i 0, .v (.slice none 0 0), .v (.slice none 0 0), .v (.slice none 0 0), .v (.slice none 0 0), .v (.slice none 0 0)]), (2, .val (.os 1 eI ([] : List Int))), (3, .val (.os 2 eApiStuck ([] : List ApiStuck)))] 4 10 #[true, true, false, true, true, false, false, true, true, false, false, true, true, false, true, true, true, false, true, true, true, false, false, false] ?_ (fun hd4_16 => ?_)
 refine D.all 2 [6, 10] (by kernel_rfl) ⟨?_, ?_, ?_, trivial⟩
 refine D.ef1 rfl (.none rfl) (by exact Eff1.bs T (enc := eI) (xs := ([] : List Int)) rfl rfl rfl rfl rfl rfl rfl rfl rfl rfl (fun _ _ => rfl) rfl rfl) rfl rfl ?_
 exact D.to [some 0, some 1, some 4, some 2, some 3] hd4_26 (by kernel_rfl) rfl rfl (.eqs rfl) ⟨bX, bX, vL, vL, vL, trivial⟩ rfl rfl rfl
 refine D.ef1 rfl (.none rfl) (by exact Eff1.bs T (enc := eApiRobot) (xs := ([] : List ApiRobot)) rfl rfl rfl rfl rfl rfl rfl rfl rfl rfl (fun _ _ => rfl) rfl rfl) rfl rfl ?_
 exact D.to [some 0, some 1, some 4, some 2, some 3] hd4_29 (by kernel_rfl) rfl rfl (.eqs rfl) ⟨bX, bX, vL, vL, vL, trivial⟩ rfl rfl rfl
 refine D.ef1 rfl (.none rfl) (by exact Eff1.bs T (enc := eI) (xs := ([] : List Int)) rfl rfl rfl rfl rfl rfl rfl rfl rfl rfl (fun _ _ => rfl) rfl rfl) rfl rfl ?_
 exact D.to [some 0, some 1, some 4, some 2, some 3] hd4_30 (by kernel_rfl) rfl rfl (.eqs rfl) ⟨bX, bX, vL, vL, vL, trivial⟩ rfl rfl rfl
 refine D.have false [(0, .agg (eApiState st)), (1, .p 0 0), (2, .p 1 0), (3, .p 0 0), (4, .i st.Tick), (5, .o 2), (6, .p 0 1), (7, .sl 1 eI st.Shelves), (10, .p 0 2), (11, .sl 6 eApiRobot st.Robots), (14, .p 0 3), (15, .sl 1 eI st.People), (18, .p 0 4), (19, .sl 1 eI st.Dead), (22, .p 0 5), (23, .sl 2 eApiStuck st.Stuck)] [(0, .box (eApiState st)), (1, .box [.i 0, .v (.slice none 0 0), .v (.slice none 0 0), .v (.slice none 0 0), .v (.slice none 0 0), .v (.slice none 0 0)]), (2, .val (.os 1 eI ([] : List Int)))] 3 11 #[true, true, true, true, true, false, false, true, true, false, false, true, true, false, false, true, true, false, false, true, true, false, false, false] ?_ (fun hd4_1 => ?_)
 refine D.all 5 [6, 10, 14, 18] (by kernel_rfl) ⟨?_, ?_, ?_, ?_, ?_, trivial⟩
 refine D.ef1 rfl (.none rfl) (by exact Eff1.ap T rfl rfl rfl rfl rfl rfl (.inl rfl) rfl rfl rfl (fun _ => rfl) rfl hx5) rfl rfl ?_
 exact D.to [some 0, some 1, some 2, some 3] hd4_6 (by kernel_rfl) rfl rfl (.eqs rfl) ⟨bX, bX, vL, trivial⟩ rfl rfl rfl
 refine D.ef1 rfl (.none rfl) (by exact Eff1.bs T (enc := eApiRobot) (xs := ([] : List ApiRobot)) rfl rfl rfl rfl rfl rfl rfl rfl rfl rfl (fun _ _ => rfl) rfl rfl) rfl rfl ?_
 exact D.to [some 0, some 1, some 2, some 3] hd4_7 (by kernel_rfl) rfl rfl (.eqs rfl) ⟨bX, bX, vL, vL, trivial⟩ rfl rfl rfl
 refine D.ef1 rfl (.none rfl) (by exact Eff1.bs T (enc := eI) (xs := ([] : List Int)) rfl rfl rfl rfl rfl rfl rfl rfl rfl rfl (fun _ _ => rfl) rfl rfl) rfl rfl ?_
 exact D.to [some 0, some 1, some 2, some 3] hd4_8 (by kernel_rfl) rfl rfl (.eqs rfl) ⟨bX, bX, vL, vL, trivial⟩ rfl rfl rfl
 refine D.ef1 rfl (.none rfl) (by exact Eff1.bs T (enc := eI) (xs := ([] : List Int)) rfl rfl rfl rfl rfl rfl rfl rfl rfl rfl (fun _ _ => rfl) rfl rfl) rfl rfl ?_
 exact D.to [some 0, some 1, some 2, some 3] hd4_9 (by kernel_rfl) rfl rfl (.eqs rfl) ⟨bX, bX, vL, vL, trivial⟩ rfl rfl rfl
 refine D.ef1 rfl (.none rfl) (by exact Eff1.bs T (enc := eApiStuck) (xs := ([] : List ApiStuck)) rfl rfl rfl rfl rfl rfl rfl rfl rfl rfl (fun _ _ => rfl) rfl rfl) rfl rfl ?_
 exact D.to [some 0, some 1, some 2, some 3] hd4_10 (by kernel_rfl) rfl rfl (.eqs rfl) ⟨bX, bX, vL, vL, trivial⟩ rfl rfl rfl
 refine D.have false [(0, .agg (eApiState st)), (1, .p 0 0), (2, .p 1 0), (3, .p 0 0), (4, .i st.Tick), (6, .p 0 1), (7, .sl 1 eI st.Shelves), (9, .o 2), (10, .p 0 2), (11, .sl 6 eApiRobot st.Robots), (14, .p 0 3), (15, .sl 1 eI st.People), (18, .p 0 4), (19, .sl 1 eI st.Dead), (22, .p 0 5), (23, .sl 2 eApiStuck st.Stuck)] [(0, .box (eApiState st)), (1, .box [.i 0, .v (.slice none 0 0), .v (.slice none 0 0), .v (.slice none 0 0), .v (.slice none 0 0), .v (.slice none 0 0)]), (2, .val (.os 6 eApiRobot ([] : List ApiRobot)))] 3 11 #[true, true, false, true, true, false, true, true, true, false, false, true, true, false, false, true, true, false, false, true, true, false, false, false] ?_ (fun hd4_2 => ?_)
 refine D.all 2 [10, 14, 18] (by kernel_rfl) ⟨?_, ?_, ?_, ?_, trivial⟩
 refine D.ef1 rfl (.none rfl) (by exact Eff1.bs T (enc := eI) (xs := ([] : List Int)) rfl rfl rfl rfl rfl rfl rfl rfl rfl rfl (fun _ _ => rfl) rfl rfl) rfl rfl ?_
 exact D.to [some 0, some 1, some 3, some 2] hd4_7 (by kernel_rfl) rfl rfl (.eqs rfl) ⟨bX, bX, vL, vL, trivial⟩ rfl rfl rfl
 refine D.ef1 rfl (.none rfl) (by exact Eff1.bs T (enc := eI) (xs := ([] : List Int)) rfl rfl rfl rfl rfl rfl rfl rfl rfl rfl (fun _ _ => rfl) rfl rfl) rfl rfl ?_
 exact D.to [some 0, some 1, some 2, some 3] hd4_11 (by kernel_rfl) rfl rfl (.eqs rfl) ⟨bX, bX, vL, vL, trivial⟩ rfl rfl rfl
 refine D.ef1 rfl (.none rfl) (by exact Eff1.bs T (enc := eI) (xs := ([] : List Int)) rfl rfl rfl rfl rfl rfl rfl rfl rfl rfl (fun _ _ => rfl) rfl rfl) rfl rfl ?_
 exact D.to [some 0, some 1, some 2, some 3] hd4_12 (by kernel_rfl) rfl rfl (.eqs rfl) ⟨bX, bX, vL, vL, trivial⟩ rfl rfl rfl
 refine D.ef1 rfl (.none rfl) (by exact Eff1.bs T (enc := eApiStuck) (xs := ([] : List ApiStuck)) rfl rfl rfl rfl rfl rfl rfl rfl rfl rfl (fun _ _ => rfl) rfl rfl) rfl rfl ?_
 exact D.to [some 0, some 1, some 2, some 3] hd4_13 (by kernel_rfl) rfl rfl (.eqs rfl) ⟨bX, bX, vL, vL, trivial⟩ rfl rfl rfl
 refine D.have false [(0, .agg (eApiState st)), (1, .p 0 0), (2, .p 1 0), (3, .p 0 0), (4, .i st.Tick), (6, .p 0 1), (7, .sl 1 eI st.Shelves), (10, .p 0 2), (11, .sl 6 eApiRobot st.Robots), (13, .o 2), (14, .p 0 3), (15, .sl 1 eI st.People), (18, .p 0 4), (19, .sl 1 eI st.Dead), (22, .p 0 5), (23, .sl 2 eApiStuck st.Stuck)] [(0, .box (eApiState st)), (1, .box [.i 0, .v (.slice none 0 0), .v (.slice none 0 0), .v (.slice none 0 0), .v (.slice none 0 0), .v (.slice none 0 0)]), (2, .val (.os 1 eI ([] : List Int)))] 3 11 #[true, true, false, true, true, false, false, true, true, false, true, true, true, false, false, true, true, false, false, true, true, false, false, false] ?_ (fun hd4_3 => ?_)
 refine D.all 2 [6, 14, 18] (by kernel_rfl) ⟨?_, ?_, ?_, ?_, trivial⟩
 refine D.ef1 rfl (.none rfl) (by exact Eff1.bs T (enc := eI) (xs := ([] : List Int)) rfl rfl rfl rfl rfl rfl rfl rfl rfl rfl (fun _ _ => rfl) rfl rfl) rfl rfl ?_
 exact D.to [some 0, some 1, some 3, some 2] hd4_8 (by kernel_rfl) rfl rfl (.eqs rfl) ⟨bX, bX, vL, vL, trivial⟩ rfl rfl rfl
 refine D.ef1 rfl (.none rfl) (by exact Eff1.bs T (enc := eApiRobot) (xs := ([] : List ApiRobot)) rfl rfl rfl rfl rfl rfl rfl rfl rfl rfl (fun _ _ => rfl) rfl rfl) rfl rfl ?_
 exact D.to [some 0, some 1, some 3, some 2] hd4_11 (by kernel_rfl) rfl rfl (.eqs rfl) ⟨bX, bX, vL, vL, trivial⟩ rfl rfl rfl
 refine D.ef1 rfl (.none rfl) (by exact Eff1.bs T (enc := eI) (xs := ([] : List Int)) rfl rfl rfl rfl rfl rfl rfl rfl rfl rfl (fun _ _ => rfl) rfl rfl) rfl rfl ?_
 exact D.to [some 0, some 1, some 2, some 3] hd4_14 (by kernel_rfl) rfl rfl (.eqs rfl) ⟨bX, bX, vL, vL, trivial⟩ rfl rfl rfl
 refine D.ef1 rfl (.none rfl) (by exact Eff1.bs T (enc := eApiStuck) (xs := ([] : List ApiStuck)) rfl rfl rfl rfl rfl rfl rfl rfl rfl rfl (fun _ _ => rfl) rfl rfl) rfl rfl ?_
 exact D.to [some 0, some 1, some 2, some 3] hd4_15 (by kernel_rfl) rfl rfl (.eqs rfl) ⟨bX, bX, vL, vL, trivial⟩ rfl rfl rfl
 refine D.have false [(0, .agg (eApiState st)), (1, .p 0 0), (2, .p 1 0), (3, .p 0 0), (4, .i st.Tick), (6, .p 0 1), (7, .sl 1 eI st.Shelves), (10, .p 0 2), (11, .sl 6 eApiRobot st.Robots), (14, .p 0 3), (15, .sl 1 eI st.People), (17, .o 2), (18, .p 0 4), (19, .sl 1 eI st.Dead), (22, .p 0 5), (23, .sl 2 eApiStuck st.Stuck)] [(0, .box (eApiState st)), (1, .box [.i 0, .v (.slice none 0 0), .v (.slice none 0 0), .v (.slice none 0 0), .v (.slice none 0 0), .v (.slice none 0 0)]), (2, .val (.os 1 eI ([] : List Int)))] 3 11 #[true, true, false, true, true, false, false, true, true, false, false, true, true, false, true, true, true, false, false, true, true, false, false, false] ?_ (fun hd4_4 => ?_)
 refine D.all 2 [6, 10, 18] (by kernel_rfl) ⟨?_, ?_, ?_, ?_, trivial⟩
 refine D.ef1 rfl (.none rfl) (by exact Eff1.bs T (enc := eI) (xs := ([] : List Int)) rfl rfl rfl rfl rfl rfl rfl rfl rfl rfl (fun _ _ => rfl) rfl rfl) rfl rfl ?_
 exact D.to [some 0, some 1, some 3, some 2] hd4_9 (by kernel_rfl) rfl rfl (.eqs rfl) ⟨bX, bX, vL, vL, trivial⟩ rfl rfl rfl
 refine D.ef1 rfl (.none rfl) (by exact Eff1.bs T (enc := eApiRobot) (xs := ([] : List ApiRobot)) rfl rfl rfl rfl rfl rfl rfl rfl rfl rfl (fun _ _ => rfl) rfl rfl) rfl rfl ?_
 exact D.to [some 0, some 1, some 3, some 2] hd4_12 (by kernel_rfl) rfl rfl (.eqs rfl) ⟨bX, bX, vL, vL, trivial⟩ rfl rfl rfl
 refine D.ef1 rfl (.none rfl) (by exact Eff1.bs T (enc := eI) (xs := ([] : List Int)) rfl rfl rfl rfl rfl rfl rfl rfl rfl rfl (fun _ _ => rfl) rfl rfl) rfl rfl ?_
 exact D.to [some 0, some 1, some 3, some 2] hd4_14 (by kernel_rfl) rfl rfl (.eqs rfl) ⟨bX, bX, vL, vL, trivial⟩ rfl rfl rfl
 refine D.ef1 rfl (.none rfl) (by exact Eff1.bs T (enc := eApiStuck) (xs := ([] : List ApiStuck)) rfl rfl rfl rfl rfl rfl rfl rfl rfl rfl (fun _ _ => rfl) rfl rfl) rfl rfl ?_
 exact D.to [some 0, some 1, some 2, some 3] hd4_16 (by kernel_rfl) rfl rfl (.eqs rfl) ⟨bX, bX, vL, vL, trivial⟩ rfl rfl rfl
 refine D.have false [(0, .agg (eApiState st)), (1, .p 0 0), (2, .p 1 0), (3, .p 0 0), (4, .i st.Tick), (6, .p 0 1), (7, .sl 1 eI st.Shelves), (10, .p 0 2), (11, .sl 6 eApiRobot st.Robots), (14, .p 0 3), (15, .sl 1 eI st.People), (18, .p 0 4), (19, .sl 1 eI st.Dead), (21, .o 2), (22, .p 0 5), (23, .sl 2 eApiStuck st.Stuck)] [(0, .box (eApiState st)), (1, .box [.i 0, .v (.slice none 0 0), .v (.slice none 0 0), .v (.slice none 0 0), .v (.slice none 0 0), .v (.slice none 0 0)]), (2, .val (.os 2 eApiStuck ([] : List ApiStuck)))] 3 11 #[true, true, false, true, true, false, false, true, true, false, false, true, true, false, false, true, true, false, true, true, true, false, false, false] ?_ (fun hd4_5 => ?_)
 refine D.all 2 [6, 10, 14] (by kernel_rfl) ⟨?_, ?_, ?_, ?_, trivial⟩
 refine D.ef1 rfl (.none rfl) (by exact Eff1.bs T (enc := eI) (xs := ([] : List Int)) rfl rfl rfl rfl rfl rfl rfl rfl rfl rfl (fun _ _ => rfl) rfl rfl) rfl rfl ?_
 exact D.to [some 0, some 1, some 3, some 2] hd4_10 (by kernel_rfl) rfl rfl (.eqs rfl) ⟨bX, bX, vL, vL, trivial⟩ rfl rfl rfl
 refine D.ef1 rfl (.none rfl) (by exact Eff1.bs T (enc := eApiRobot) (xs := ([] : List ApiRobot)) rfl rfl rfl rfl rfl rfl rfl rfl rfl rfl (fun _ _ => rfl) rfl rfl) rfl rfl ?_
 exact D.to [some 0, some 1, some 3, some 2] hd4_13 (by kernel_rfl) rfl rfl (.eqs rfl) ⟨bX, bX, vL, vL, trivial⟩ rfl rfl rfl
 refine D.ef1 rfl (.none rfl) (by exact Eff1.bs T (enc := eI) (xs := ([] : List Int)) rfl rfl rfl rfl rfl rfl rfl rfl rfl rfl (fun _ _ => rfl) rfl rfl) rfl rfl ?_
 exact D.to [some 0, some 1, some 3, some 2] hd4_15 (by kernel_rfl) rfl rfl (.eqs rfl) ⟨bX, bX, vL, vL, trivial⟩ rfl rfl rfl
 refine D.ef1 rfl (.none rfl) (by exact Eff1.bs T (enc := eI) (xs := ([] : List Int)) rfl rfl rfl rfl rfl rfl rfl rfl rfl rfl (fun _ _ => rfl) rfl rfl) rfl rfl ?_
 exact D.to [some 0, some 1, some 3, some 2] hd4_16 (by kernel_rfl) rfl rfl (.eqs rfl) ⟨bX, bX, vL, vL, trivial⟩ rfl rfl rfl
 refine D.all 2 [6, 10, 14, 18] (by kernel_rfl) ⟨?_, ?_, ?_, ?_, ?_, trivial⟩
 refine D.ef1 rfl (.none rfl) (by exact Eff1.bs T (enc := eI) (xs := ([] : List Int)) rfl rfl rfl rfl rfl rfl rfl rfl rfl rfl (fun _ _ => rfl) rfl rfl) rfl rfl ?_
 exact D.to [some 0, some 1, some 2] hd4_1 (by kernel_rfl) rfl rfl (.eqs rfl) ⟨bX, bX, vL, trivial⟩ rfl rfl rfl
 refine D.ef1 rfl (.none rfl) (by exact Eff1.bs T (enc := eApiRobot) (xs := ([] : List ApiRobot)) rfl rfl rfl rfl rfl rfl rfl rfl rfl rfl (fun _ _ => rfl) rfl rfl) rfl rfl ?_
 exact D.to [some 0, some 1, some 2] hd4_2 (by kernel_rfl) rfl rfl (.eqs rfl) ⟨bX, bX, vL, trivial⟩ rfl rfl rfl
 refine D.ef1 rfl (.none rfl) (by exact Eff1.bs T (enc := eI) (xs := ([] : List Int)) rfl rfl rfl rfl rfl rfl rfl rfl rfl rfl (fun _ _ => rfl) rfl rfl) rfl rfl ?_
 exact D.to [some 0, some 1, some 2] hd4_3 (by kernel_rfl) rfl rfl (.eqs rfl) ⟨bX, bX, vL, trivial⟩ rfl rfl rfl
 refine D.ef1 rfl (.none rfl) (by exact Eff1.bs T (enc := eI) (xs := ([] : List Int)) rfl rfl rfl rfl rfl rfl rfl rfl rfl rfl (fun _ _ => rfl) rfl rfl) rfl rfl ?_
 exact D.to [some 0, some 1, some 2] hd4_4 (by kernel_rfl) rfl rfl (.eqs rfl) ⟨bX, bX, vL, trivial⟩ rfl rfl rfl
 refine D.ef1 rfl (.none rfl) (by exact Eff1.bs T (enc := eApiStuck) (xs := ([] : List ApiStuck)) rfl rfl rfl rfl rfl rfl rfl rfl rfl rfl (fun _ _ => rfl) rfl rfl) rfl rfl ?_
 exact D.to [some 0, some 1, some 2] hd4_5 (by kernel_rfl) rfl rfl (.eqs rfl) ⟨bX, bX, vL, trivial⟩ rfl rfl rfl
theorem T_taquinref12_Speed (s_1 : ApiSite) (c : Int) (post : Int → Prop) (hm : V_taquinref12_Speed s_1 c post) :
    Tr Tryz.prog 50 [.agg (eApiSite s_1), .i c] [] 0 (fun A H' k => ∃ y, post y ∧ A = (.i y) ∧ H' = [] ∧ k = 0) := by
 refine Tr.intro (n := 17) Tryz.func50 rfl Tryz.ntmps50 rfl (fun w0 ok F β hβ => ?_)
 unfold V_taquinref12_Speed at hm
 refine C.seq (U.start ?_)
 refine U.e1 rfl (.none rfl) (by exact Eff1.box rfl rfl rfl rfl rfl) ?_
 refine U.ps 1 T rfl ?_
 refine U.done (C.nx (C.seq (U.start ?_)))
 refine U.ps 2 T rfl ?_
 refine U.e rfl (.none rfl) (by exact Eff.k (T_taquinref12_ZoneOf s_1 c _ hm) en111 rfl rfl rfl (.eq rfl) (fun _ _ => ⟨(.v _), trivial⟩)) (fun x5' hm => ?_)
 obtain ⟨x5⟩ := x5'
 refine U.ps 1 T rfl ?_
 refine U.done (C.nx (C.seq (C.seq (U.start ?_))))
 refine U.ps 2 T rfl ?_
 refine U.done (C.nx ?_)
 refine C.ite rfl hm (fun hb8 hm => ?_) (fun hb8 hm => ?_)
 refine C.seq (U.start ?_)
 refine U.ps 1 T rfl ?_
 refine U.done (C.nx (C.ret (C.rt ?_)))
 exact C.f0 T (rs' := [.i 1]) hβ ⟨1, hm, rfl, rfl, rfl⟩
 refine C.skip (C.nx (C.seq (U.start ?_)))
 refine U.ps 3 T rfl ?_
 obtain ⟨x13, hx13, hm⟩ := hm
 refine U.r rfl (.none rfl) rfl rfl (by exact Rd.ix T rfl rfl rfl rfl rfl rfl hx13) ?_
 refine U.ps 3 T rfl ?_
 refine U.done (C.nx (C.ret ?_))
 exact C.f0 T (rs' := [.i x13.Speed]) hβ ⟨x13.Speed, hm, rfl, rfl, rfl⟩
theorem T_taquinref15_Do (s_1 : ApiSite) (st : ApiState) (robot : Int) (act : Int) (post : ApiState → Prop) (hm : V_taquinref15_Do s_1 st robot act post) :
    Tr Tryz.prog 17 [.agg (eApiSite s_1), .agg (eApiState st), .i robot, .i act] [] 0 (fun A H' k => ∃ y, post y ∧ A = (.agg [.i y.Tick, .o 0, .o 1, .o 2, .o 3, .o 4]) ∧ H' = [(0, .val (.os 1 eI y.Shelves)), (1, .val (.os 6 eApiRobot y.Robots)), (2, .val (.os 1 eI y.People)), (3, .val (.os 1 eI y.Dead)), (4, .val (.os 2 eApiStuck y.Stuck))] ∧ k = 5) := by
 refine Tr.intro (n := 102) Tryz.func17 rfl Tryz.ntmps17 rfl (fun w0 ok F β hβ => ?_)
 unfold V_taquinref15_Do at hm
 refine C.seq (U.start ?_)
 refine U.e1 rfl (.none rfl) (by exact Eff1.box rfl rfl rfl rfl rfl) ?_
 refine U.e1 rfl (.none rfl) (by exact Eff1.box rfl rfl rfl rfl rfl) ?_
 refine U.e1 rfl (.none rfl) (by exact Eff1.al T rfl rfl rfl rfl) ?_
 refine U.done (C.nx (C.seq (U.start ?_)))
 refine U.ps 1 T rfl ?_
 refine U.e rfl (.none rfl) (by exact Eff.c [] (v := true) (T_taquinref14_Clone st _ hm) en48 rfl rfl rfl (.eq rfl) trivial rfl rfl rfl rfl rfl rfl (fun _ _ => ⟨(.agg (.cons (.v _) (.cons (.o _) (.cons (.o _) (.cons (.o _) (.cons (.o _) (.cons (.o _) .nil))))))), ⟨.val (.os _ _ _ fun _ => (.cons (.v _) .nil)), .val (.os _ _ _ fun _ => (.cons (.v _) (.cons (.v _) (.cons (.v _) (.cons (.v _) (.cons (.v _) (.cons (.v _) .nil))))))), .val (.os _ _ _ fun _ => (.cons (.v _) .nil)), .val (.os _ _ _ fun _ => (.cons (.v _) .nil)), .val (.os _ _ _ fun _ => (.cons (.v _) (.cons (.v _) .nil))), trivial⟩⟩) (.inr ⟨rfl, rfl⟩) (fun _ => rfl) (fun _ => rfl) rfl) (fun x5' hm => ?_)
 obtain ⟨x5⟩ := x5'
 refine U.e1 rfl (.none rfl) (by exact Eff1.al T rfl rfl rfl rfl) ?_
 refine U.e1 rfl (.none rfl) (by exact Eff1.st T rfl rfl rfl rfl rfl rfl rfl rfl rfl rfl) ?_
 refine U.done (C.nx (C.seq (C.seq ?_)))
 refine C.jn (fun (x6 : Bool) => [(2, .i robot), (3, .i act), (4, .p 0 0), (5, .p 1 0), (8, .p 2 0), (9, .p 3 0), (25, .b x6)]) (fun (x6 : Bool) => [(0, .box (eApiSite s_1)), (1, .box (eApiState st)), (2, .box [.i 0, .v (.slice none 0 0), .v (.slice none 0 0), .v (.slice none 0 0), .v (.slice none 0 0), .v (.slice none 0 0)]), (3, .box [.i x5.Tick, .o 4, .o 5, .o 6, .o 7, .o 8]), (4, .val (.os 1 eI x5.Shelves)), (5, .val (.os 6 eApiRobot x5.Robots)), (6, .val (.os 1 eI x5.People)), (7, .val (.os 1 eI x5.Dead)), (8, .val (.os 2 eApiStuck x5.Stuck))]) 9 hm (fun x6 hm => ?_) (fun J7 hm hJ7 => ?_)
 refine C.nx ?_
 refine C.ite rfl hm (fun hb9 hm => ?_) (fun hb9 hm => ?_)
 refine C.seq (U.start ?_)
 refine U.ps 1 T rfl ?_
 refine U.e1 rfl (.none rfl) (by exact Eff1.st T rfl rfl rfl rfl rfl rfl rfl rfl rfl rfl) ?_
 refine U.done (C.nx (C.ret (C.rt ?_)))
 exact C.fin T (rs' := [.agg [.i x5.Tick, .o 0, .o 1, .o 2, .o 3, .o 4]]) (H' := [(0, .val (.os 1 eI x5.Shelves)), (1, .val (.os 6 eApiRobot x5.Robots)), (2, .val (.os 1 eI x5.People)), (3, .val (.os 1 eI x5.Dead)), (4, .val (.os 2 eApiStuck x5.Stuck))]) (nl' := 5) [some 4, some 5, some 6, some 7, some 8] rfl rfl (.eq rfl) ⟨vL, vL, vL, vL, vL, trivial⟩ rfl rfl rfl rfl hβ ⟨x5, hm, rfl, rfl, rfl⟩
 refine C.skip (C.nx (C.seq (U.start ?_)))
 refine U.ps 3 T rfl ?_
 obtain ⟨x14, hx14, hm⟩ := hm
 refine U.r rfl (.none rfl) rfl rfl (by exact Rd.io T rfl rfl rfl rfl rfl rfl rfl hx14) ?_
 refine U.r rfl (.none rfl) rfl rfl (by exact Rd.le T rfl rfl rfl (idx_some hx14).2.2 rfl rfl rfl) ?_
 refine U.e1 rfl (.none rfl) (by exact Eff1.al T rfl rfl rfl rfl) ?_
 refine U.e1 rfl (.none rfl) (by exact Eff1.st T rfl rfl rfl rfl rfl rfl rfl rfl rfl rfl) ?_
 refine U.done (C.nx (C.seq (C.seq (U.start ?_))))
 refine U.ps 2 T rfl ?_
 refine U.done (C.nx ?_)
 refine C.ite rfl hm (fun hb17 hm => ?_) (fun hb17 hm => ?_)
 refine C.seq (U.start ?_)
 refine U.ps 1 T rfl ?_
 refine U.e1 rfl (.none rfl) (by exact Eff1.st T rfl rfl rfl rfl rfl rfl rfl rfl rfl rfl) ?_
 refine U.done (C.nx (C.ret (C.rt ?_)))
 exact C.fin T (rs' := [.agg [.i x5.Tick, .o 0, .o 1, .o 2, .o 3, .o 4]]) (H' := [(0, .val (.os 1 eI x5.Shelves)), (1, .val (.os 6 eApiRobot x5.Robots)), (2, .val (.os 1 eI x5.People)), (3, .val (.os 1 eI x5.Dead)), (4, .val (.os 2 eApiStuck x5.Stuck))]) (nl' := 5) [some 4, some 5, some 6, some 7, some 8] rfl rfl (.eq rfl) ⟨vL, vL, vL, vL, vL, trivial⟩ rfl rfl rfl rfl hβ ⟨x5, hm, rfl, rfl, rfl⟩
 refine C.skip (C.nx (C.seq (U.start ?_)))
 refine U.ps 8 T rfl ?_
 refine U.e rfl (.none rfl) (by exact Eff.k (T_taquinref13_After st.Tick x14.Charge act (decide (x14.Load ≥ 0)) _ hm) en43 rfl rfl rfl (.eq rfl) (fun _ _ => ⟨(.tup (.cons (.v _) (.cons (.v _) .nil))), trivial⟩)) (fun x22' hm => ?_)
 obtain ⟨x22⟩ := x22'
 refine U.ps 5 T rfl ?_
 refine U.done (C.nx (C.seq (C.seq (U.start ?_))))
 refine U.ps 2 T rfl ?_
 refine U.done (C.nx ?_)
 refine C.jn (fun (x25 : Int) => [(2, .i robot), (3, .i act), (4, .p 0 0), (5, .p 1 0), (8, .p 2 0), (9, .p 3 0), (10, .p 9 0), (11, .i x25)]) (fun (x25 : Int) => [(0, .box (eApiSite s_1)), (1, .box (eApiState st)), (2, .box [.i 0, .v (.slice none 0 0), .v (.slice none 0 0), .v (.slice none 0 0), .v (.slice none 0 0), .v (.slice none 0 0)]), (3, .box [.i x5.Tick, .o 4, .o 5, .o 6, .o 7, .o 8]), (4, .val (.os 1 eI x5.Shelves)), (5, .val (.os 6 eApiRobot x5.Robots)), (6, .val (.os 1 eI x5.People)), (7, .val (.os 1 eI x5.Dead)), (8, .val (.os 2 eApiStuck x5.Stuck)), (9, .box (eApiRobot x14))]) 10 hm (fun x25 hm => ?_) (fun J26 hm hJ26 => ?_)
 refine C.nx (C.seq (U.start ?_))
 refine U.ps 2 T rfl ?_
 refine U.e1 rfl (.none rfl) (by exact Eff1.st T rfl rfl rfl rfl rfl rfl rfl rfl rfl rfl) ?_
 refine U.done (C.nx (C.seq (C.seq (U.start ?_))))
 refine U.ps 1 T rfl ?_
 refine U.done (C.nx (C.block (C.seq (U.start ?_))))
 refine U.ps 2 T rfl ?_
 refine U.done (C.nx ?_)
 refine C.jn (fun (x36 : Int) => [(2, .i robot), (3, .i act), (4, .p 0 0), (5, .p 1 0), (8, .p 2 0), (9, .p 3 0), (10, .p 9 0)]) (fun (x36 : Int) => [(0, .box (eApiSite s_1)), (1, .box (eApiState st)), (2, .box [.i 0, .v (.slice none 0 0), .v (.slice none 0 0), .v (.slice none 0 0), .v (.slice none 0 0), .v (.slice none 0 0)]), (3, .box [.i x5.Tick, .o 4, .o 5, .o 6, .o 7, .o 8]), (4, .val (.os 1 eI x5.Shelves)), (5, .val (.os 6 eApiRobot x5.Robots)), (6, .val (.os 1 eI x5.People)), (7, .val (.os 1 eI x5.Dead)), (8, .val (.os 2 eApiStuck x5.Stuck)), (9, .box [.i x14.Cell, .i x36, .i x25, .i x14.Rest, .i x14.Mute, .b x14.Dead])]) 10 hm (fun x36 hm => ?_) (fun J37 hm hJ37 => ?_)
 refine C.bnx (C.nx (C.seq (U.start ?_)))
 refine U.ps 4 T rfl ?_
 refine U.e rfl (.none rfl) (by exact Eff.k (T_taquinref15_Target s_1 st robot act _ hm) en49 rfl rfl rfl (.eq rfl) (fun _ _ => ⟨(.tup (.cons (.v _) (.cons (.v _) .nil))), trivial⟩)) (fun x51' hm => ?_)
 obtain ⟨x51⟩ := x51'
 refine U.ps 5 T rfl ?_
 refine U.done (C.nx (C.seq (C.seq (U.start ?_))))
 refine U.ps 1 T rfl ?_
 refine U.done (C.nx ?_)
 refine C.jn (fun (x54 : List Int × Int × Int) => [(2, .i robot), (8, .p 0 0), (9, .p 1 0), (10, .p 7 0)]) (fun (x54 : List Int × Int × Int) => [(0, .box [.i 0, .v (.slice none 0 0), .v (.slice none 0 0), .v (.slice none 0 0), .v (.slice none 0 0), .v (.slice none 0 0)]), (1, .box [.i x5.Tick, .o 2, .o 3, .o 4, .o 5, .o 6]), (2, .val (.os 1 eI x54.1)), (3, .val (.os 6 eApiRobot x5.Robots)), (4, .val (.os 1 eI x5.People)), (5, .val (.os 1 eI x5.Dead)), (6, .val (.os 2 eApiStuck x5.Stuck)), (7, .box [.i x54.2.1, .i x36, .i x25, .i x54.2.2, .i x14.Mute, .b x14.Dead])]) 8 hm (fun x54 hm => ?_) (fun J55 hm hJ55 => ?_)
 refine C.nx (C.seq (U.start ?_))
 refine U.ps 4 T rfl ?_
 refine U.r rfl (.none rfl) rfl rfl (by exact Rd.io T rfl rfl rfl rfl rfl rfl rfl hx14) ?_
 refine U.e1 rfl (.none rfl) (by exact Eff1.se T (z' := ({ Cell := x54.2.1, Load := x36, Charge := x25, Rest := x54.2.2, Mute := x14.Mute, Dead := x14.Dead : ApiRobot })) rfl rfl rfl (idx_some hx14).2.2 rfl rfl rfl rfl rfl rfl rfl rfl (fun _ => rfl) rfl) ?_
 refine U.done (C.nx (C.seq (U.start ?_)))
 refine U.ps 1 T rfl ?_
 refine U.e1 rfl (.none rfl) (by exact Eff1.st T rfl rfl rfl rfl rfl rfl rfl rfl rfl rfl) ?_
 refine U.done (C.nx (C.ret ?_))
 exact C.fin T (rs' := [.agg [.i (({ Tick := x5.Tick, Shelves := x54.1, Robots := (x5.Robots.set (Int.toNat robot) ({ Cell := x54.2.1, Load := x36, Charge := x25, Rest := x54.2.2, Mute := x14.Mute, Dead := x14.Dead : ApiRobot })), People := x5.People, Dead := x5.Dead, Stuck := x5.Stuck : ApiState }).Tick), .o 0, .o 1, .o 2, .o 3, .o 4]]) (H' := [(0, .val (.os 1 eI (({ Tick := x5.Tick, Shelves := x54.1, Robots := (x5.Robots.set (Int.toNat robot) ({ Cell := x54.2.1, Load := x36, Charge := x25, Rest := x54.2.2, Mute := x14.Mute, Dead := x14.Dead : ApiRobot })), People := x5.People, Dead := x5.Dead, Stuck := x5.Stuck : ApiState }).Shelves))), (1, .val (.os 6 eApiRobot (({ Tick := x5.Tick, Shelves := x54.1, Robots := (x5.Robots.set (Int.toNat robot) ({ Cell := x54.2.1, Load := x36, Charge := x25, Rest := x54.2.2, Mute := x14.Mute, Dead := x14.Dead : ApiRobot })), People := x5.People, Dead := x5.Dead, Stuck := x5.Stuck : ApiState }).Robots))), (2, .val (.os 1 eI (({ Tick := x5.Tick, Shelves := x54.1, Robots := (x5.Robots.set (Int.toNat robot) ({ Cell := x54.2.1, Load := x36, Charge := x25, Rest := x54.2.2, Mute := x14.Mute, Dead := x14.Dead : ApiRobot })), People := x5.People, Dead := x5.Dead, Stuck := x5.Stuck : ApiState }).People))), (3, .val (.os 1 eI (({ Tick := x5.Tick, Shelves := x54.1, Robots := (x5.Robots.set (Int.toNat robot) ({ Cell := x54.2.1, Load := x36, Charge := x25, Rest := x54.2.2, Mute := x14.Mute, Dead := x14.Dead : ApiRobot })), People := x5.People, Dead := x5.Dead, Stuck := x5.Stuck : ApiState }).Dead))), (4, .val (.os 2 eApiStuck (({ Tick := x5.Tick, Shelves := x54.1, Robots := (x5.Robots.set (Int.toNat robot) ({ Cell := x54.2.1, Load := x36, Charge := x25, Rest := x54.2.2, Mute := x14.Mute, Dead := x14.Dead : ApiRobot })), People := x5.People, Dead := x5.Dead, Stuck := x5.Stuck : ApiState }).Stuck)))]) (nl' := 5) [some 2, some 3, some 4, some 5, some 6] rfl rfl (.eq rfl) ⟨vL, vL, vL, vL, vL, trivial⟩ rfl rfl rfl rfl hβ ⟨({ Tick := x5.Tick, Shelves := x54.1, Robots := (x5.Robots.set (Int.toNat robot) ({ Cell := x54.2.1, Load := x36, Charge := x25, Rest := x54.2.2, Mute := x14.Mute, Dead := x14.Dead : ApiRobot })), People := x5.People, Dead := x5.Dead, Stuck := x5.Stuck : ApiState }), hm, rfl, rfl, rfl⟩
 refine C.ite rfl hm (fun hb56 hm => ?_) (fun hb56 hm => ?_)
 refine C.seq (U.start ?_)
 refine U.ps 2 T rfl ?_
 refine U.e1 rfl (.none rfl) (by exact Eff1.st T rfl rfl rfl rfl rfl rfl rfl rfl rfl rfl) ?_
 refine U.done (C.nx (C.seq (U.start ?_)))
 refine U.ps 2 T rfl ?_
 refine U.e rfl (.none rfl) (by exact Eff.k (T_taquinref12_Speed s_1 x51.1 _ hm) en50 rfl rfl rfl (.eq rfl) (fun _ _ => ⟨(.v _), trivial⟩)) (fun x61' hm => ?_)
 obtain ⟨x61⟩ := x61'
 refine U.ps 2 T rfl ?_
 refine U.e1 rfl (.none rfl) (by exact Eff1.st T rfl rfl rfl rfl rfl rfl rfl rfl rfl rfl) ?_
 refine U.done (C.nx (C.seq ?_))
 refine C.jn (fun (x62 : Bool) => [(2, .i robot), (8, .p 0 0), (9, .p 1 0), (10, .p 7 0), (13, .i x51.1), (89, .b x62)]) (fun (x62 : Bool) => [(0, .box [.i 0, .v (.slice none 0 0), .v (.slice none 0 0), .v (.slice none 0 0), .v (.slice none 0 0), .v (.slice none 0 0)]), (1, .box [.i x5.Tick, .o 2, .o 3, .o 4, .o 5, .o 6]), (2, .val (.os 1 eI x5.Shelves)), (3, .val (.os 6 eApiRobot x5.Robots)), (4, .val (.os 1 eI x5.People)), (5, .val (.os 1 eI x5.Dead)), (6, .val (.os 2 eApiStuck x5.Stuck)), (7, .box [.i x51.1, .i x36, .i x25, .i (w64 (x61 - 1)), .i x14.Mute, .b x14.Dead])]) 8 hm (fun x62 hm => ?_) (fun J63 hm hJ63 => ?_)
 refine C.nx ?_
 refine C.jn (fun (x65 : List Int) => [(2, .i robot), (8, .p 0 0), (9, .p 1 0), (10, .p 7 0)]) (fun (x65 : List Int) => [(0, .box [.i 0, .v (.slice none 0 0), .v (.slice none 0 0), .v (.slice none 0 0), .v (.slice none 0 0), .v (.slice none 0 0)]), (1, .box [.i x5.Tick, .o 2, .o 3, .o 4, .o 5, .o 6]), (2, .val (.os 1 eI x65)), (3, .val (.os 6 eApiRobot x5.Robots)), (4, .val (.os 1 eI x5.People)), (5, .val (.os 1 eI x5.Dead)), (6, .val (.os 2 eApiStuck x5.Stuck)), (7, .box [.i x51.1, .i x36, .i x25, .i (w64 (x61 - 1)), .i x14.Mute, .b x14.Dead])]) 8 hm (fun x65 hm => ?_) (fun J66 hm hJ66 => ?_)
 exact St.wk (hJ55 _ hm) (Wk.f [some 0, some 1, some 2, some 3, some 4, some 5, some 6, some 7] ⟨bX, bX, vL, vL, vL, vL, vL, bX, trivial⟩)
 refine C.ite rfl hm (fun hb67 hm => ?_) (fun hb67 hm => ?_)
 refine U.start ?_
 refine U.ps 5 T rfl ?_
 obtain ⟨x70, hx70, hm⟩ := hm
 refine U.r rfl (.none rfl) rfl rfl (by exact Rd.io T rfl rfl rfl rfl rfl rfl rfl hx70) ?_
 refine U.e1 rfl (.none rfl) (by exact Eff1.se T (z' := x51.1) rfl rfl rfl (idx_some hx70).2.2 rfl rfl rfl rfl rfl rfl rfl rfl (fun _ => rfl) rfl) ?_
 refine U.done ?_
 exact St.wk (hJ66 _ hm) (Wk.f [some 0, some 1, some 2, some 3, some 4, some 5, some 6, some 7] ⟨bX, bX, vL, vL, vL, vL, vL, bX, trivial⟩)
 refine C.skip ?_
 exact St.wk (hJ66 _ hm) (Wk.f [some 0, some 1, some 2, some 3, some 4, some 5, some 6, some 7] ⟨bX, bX, vL, vL, vL, vL, vL, bX, trivial⟩)
 refine U.start ?_
 refine U.ps 4 T rfl ?_
 refine hm.cs (fun hb64 hm => ?_) (fun hb64 hm => ?_)
 refine U.pg 6 3 true 82 hb64 T rfl rfl rfl rfl ?_
 refine U.r rfl (.none rfl) rfl rfl (by exact Rd.pk rfl rfl hb64 rfl) ?_
 refine U.done ?_
 exact St.wk (hJ63 _ hm) (Wk.f [some 2, some 3, some 4, some 5, some 6, some 7, some 8, some 9] ⟨bX, bX, vL, vL, vL, vL, vL, bX, trivial⟩)
 refine U.sks 6 3 true 82 hb64 rfl rfl rfl ?_
 refine U.r rfl (.none rfl) rfl rfl (by exact Rd.pk' rfl rfl hb64 rfl) ?_
 refine U.done ?_
 exact St.wk (hJ63 _ hm) (Wk.f [some 2, some 3, some 4, some 5, some 6, some 7, some 8, some 9] ⟨bX, bX, vL, vL, vL, vL, vL, bX, trivial⟩)
 refine C.skip ?_
 exact St.wk (hJ55 _ hm) (Wk.f [some 2, some 3, some 4, some 5, some 6, some 7, some 8, some 9] ⟨bX, bX, vL, vL, vL, vL, vL, bX, trivial⟩)
 refine C.ite rfl hm (fun hb38 hm => ?_) (fun hb38 hm => ?_)
 refine U.start ?_
 refine U.ps 4 T rfl ?_
 refine U.e rfl (.none rfl) (by exact Eff.k (T_taquinref12_At s_1 st x14.Cell _ hm) en44 rfl rfl rfl (.eq rfl) (fun _ _ => ⟨(.v _), trivial⟩)) (fun x41' hm => ?_)
 obtain ⟨x41⟩ := x41'
 refine U.ps 1 T rfl ?_
 refine U.e1 rfl (.none rfl) (by exact Eff1.st T rfl rfl rfl rfl rfl rfl rfl rfl rfl rfl) ?_
 refine U.done ?_
 exact St.wk (hJ37 _ hm) (Wk.f [some 0, some 1, some 2, some 3, some 4, some 5, some 6, some 7, some 8, some 9] ⟨bX, bX, bX, bX, vL, vL, vL, vL, vL, bX, trivial⟩)
 refine C.seq (U.start ?_)
 refine U.ps 2 T rfl ?_
 refine U.done (C.nx ?_)
 refine C.jn (fun (x44 : Int) => [(2, .i robot), (3, .i act), (4, .p 0 0), (5, .p 1 0), (8, .p 2 0), (9, .p 3 0), (10, .p 9 0)]) (fun (x44 : Int) => [(0, .box (eApiSite s_1)), (1, .box (eApiState st)), (2, .box [.i 0, .v (.slice none 0 0), .v (.slice none 0 0), .v (.slice none 0 0), .v (.slice none 0 0), .v (.slice none 0 0)]), (3, .box [.i x5.Tick, .o 4, .o 5, .o 6, .o 7, .o 8]), (4, .val (.os 1 eI x5.Shelves)), (5, .val (.os 6 eApiRobot x5.Robots)), (6, .val (.os 1 eI x5.People)), (7, .val (.os 1 eI x5.Dead)), (8, .val (.os 2 eApiStuck x5.Stuck)), (9, .box [.i x14.Cell, .i x44, .i x25, .i x14.Rest, .i x14.Mute, .b x14.Dead])]) 10 hm (fun x44 hm => ?_) (fun J45 hm hJ45 => ?_)
 exact St.wk (hJ37 _ hm) (Wk.f [some 0, some 1, some 2, some 3, some 4, some 5, some 6, some 7, some 8, some 9] ⟨bX, bX, bX, bX, vL, vL, vL, vL, vL, bX, trivial⟩)
 refine C.ite rfl hm (fun hb46 hm => ?_) (fun hb46 hm => ?_)
 refine U.start ?_
 refine U.ps 1 T rfl ?_
 refine U.e1 rfl (.none rfl) (by exact Eff1.st T rfl rfl rfl rfl rfl rfl rfl rfl rfl rfl) ?_
 refine U.done ?_
 exact St.wk (hJ45 _ hm) (Wk.f [some 0, some 1, some 2, some 3, some 4, some 5, some 6, some 7, some 8, some 9] ⟨bX, bX, bX, bX, vL, vL, vL, vL, vL, bX, trivial⟩)
 refine C.skip ?_
 exact St.wk (hJ45 _ hm) (Wk.f [some 0, some 1, some 2, some 3, some 4, some 5, some 6, some 7, some 8, some 9] ⟨bX, bX, bX, bX, vL, vL, vL, vL, vL, bX, trivial⟩)
 refine C.ite rfl hm (fun hb27 hm => ?_) (fun hb27 hm => ?_)
 refine U.start ?_
 refine U.ps 1 T rfl ?_
 refine U.done ?_
 exact St.wk (hJ26 _ hm) (Wk.f [some 0, some 1, some 2, some 3, some 4, some 5, some 6, some 7, some 8, some 9] ⟨bX, bX, bX, bX, vL, vL, vL, vL, vL, bX, trivial⟩)
 refine C.skip ?_
 exact St.wk (hJ26 _ hm) (Wk.f [some 0, some 1, some 2, some 3, some 4, some 5, some 6, some 7, some 8, some 9] ⟨bX, bX, bX, bX, vL, vL, vL, vL, vL, bX, trivial⟩)
 refine U.start ?_
 refine U.ps 3 T rfl ?_
 refine hm.cs (fun hb8 hm => ?_) (fun hb8 hm => ?_)
 refine U.sks 5 2 false 19 hb8 rfl rfl rfl ?_
 refine U.r rfl (.none rfl) rfl rfl (by exact Rd.pk rfl rfl hb8 rfl) ?_
 refine U.done ?_
 exact St.wk (hJ7 _ hm) (Wk.f [some 0, some 1, some 2, some 8, some 3, some 4, some 5, some 6, some 7] ⟨bX, bX, bX, bX, vL, vL, vL, vL, vL, trivial⟩)
 refine U.pg 5 2 false 19 hb8 T rfl rfl rfl rfl ?_
 refine U.r rfl (.none rfl) rfl rfl (by exact Rd.pk' rfl rfl hb8 rfl) ?_
 refine U.done ?_
 exact St.wk (hJ7 _ hm) (Wk.f [some 0, some 1, some 2, some 8, some 3, some 4, some 5, some 6, some 7] ⟨bX, bX, bX, bX, vL, vL, vL, vL, vL, trivial⟩)
theorem T_taquinref14_SameInts (a : List Int) (b : List Int) (post : Bool → Prop) (hm : V_taquinref14_SameInts a b post) :
    Tr Tryz.prog 47 [.sl 1 eI a, .sl 1 eI b] [] 0 (fun A H' k => ∃ y, post y ∧ A = (.b y) ∧ H' = [] ∧ k = 0) := by
 refine Tr.intro (n := 26) Tryz.func47 rfl Tryz.ntmps47 rfl (fun w0 ok F β hβ => ?_)
 unfold V_taquinref14_SameInts at hm
 refine C.seq (U.start ?_)
 refine U.ps 1 T rfl ?_
 refine U.done (C.nx (C.seq (C.seq (U.start ?_))))
 refine U.ps 5 T rfl ?_
 refine U.done (C.nx ?_)
 refine C.ite rfl hm (fun hb5 hm => ?_) (fun hb5 hm => ?_)
 refine C.seq (U.start ?_)
 refine U.ps 1 T rfl ?_
 refine U.done (C.nx (C.ret (C.rt ?_)))
 exact C.f0 T (rs' := [.b false]) hβ ⟨false, hm, rfl, rfl, rfl⟩
 refine C.skip (C.nx (C.seq (C.seq (U.start ?_))))
 refine U.ps 1 T rfl ?_
 refine U.done (C.nx ?_)
 refine C.jn (fun (x10 : Unit) => []) (fun (x10 : Unit) => []) 0 hm (fun x10 hm => ?_) (fun J11 hm hJ11 => ?_)
 refine C.nx (C.seq (U.start ?_))
 refine U.ps 1 T rfl ?_
 refine U.done (C.nx (C.ret ?_))
 exact C.f0 T (rs' := [.b true]) hβ ⟨true, hm, rfl, rfl, rfl⟩
 refine C.block ?_
 refine St.wk (C.loop (fun (s12 : Int) => [(0, .sl 1 eI a), (1, .sl 1 eI b), (5, .i s12)]) (fun (s12 : Int) => []) hm (fun s12 Y13 hm => ?_)) (Wk.e)
 refine C.seq (C.seq (U.start ?_))
 refine U.ps 4 T rfl ?_
 refine U.done (C.nx ?_)
 refine C.ite rfl hm (fun hb16 hm => ?_) (fun hb16 hm => ?_)
 refine C.skip (C.nx (C.seq (C.block (C.seq ?_))))
 refine D.beg 9999 [] [] mix rfl rfl (by kernel_rfl) (by repeat (first | exact NoPanicQ.body | exact NoPanicQ.rnd | refine NoPanicQ.th ?_ | refine NoPanicQ.blk ?_)) (fun hQ hS ws M' => ?_)
 refine D.ps 2 [(0, []), (1, [])] rfl hQ hS T rfl rfl (by kernel_rfl) ?_
 obtain ⟨x19, hx19, hm⟩ := hm
 refine D.q 2 [] hQ hS rfl (.none rfl) rfl rfl (by exact Rd.ix T rfl rfl rfl rfl rfl rfl hx19) rfl (by kernel_rfl) ?_
 refine D.ps 3 [(3, []), (4, []), (5, [])] rfl hQ hS T rfl rfl (by kernel_rfl) ?_
 obtain ⟨x20, hx20, hm⟩ := hm
 refine D.q 6 [] hQ hS rfl (.none rfl) rfl rfl (by exact Rd.ix T rfl rfl rfl rfl rfl rfl hx20) rfl (by kernel_rfl) ?_
 refine D.ps 2 [(7, []), (8, [])] rfl hQ hS T rfl rfl (by kernel_rfl) ?_
 refine D.done (by kernel_rfl) ?_
 refine C.nx ?_
 refine C.ite rfl hm (fun hb21 hm => ?_) (fun hb21 hm => ?_)
 refine C.seq (U.start ?_)
 refine U.ps 1 T rfl ?_
 refine U.done (C.nx (C.ret (C.brt (C.rt (C.rt (C.brt (C.rt ?_)))))))
 exact C.f0 T (rs' := [.b false]) hβ ⟨false, hm, rfl, rfl, rfl⟩
 refine C.skip (C.bnx (C.nx (U.start ?_)))
 refine U.ps 3 T rfl ?_
 refine U.done (C.nx ?_)
 exact St.wk (C.next hm) (Wk.e)
 refine C.exit (C.ex (C.ex (C.bex ?_)))
 exact St.wk (hJ11 _ hm) (Wk.mk' [] rfl rfl trivial trivial rfl)
theorem T_taquinref14_Same (a : ApiState) (b : ApiState) (post : Bool → Prop) (hm : V_taquinref14_Same a b post) :
    Tr Tryz.prog 15 [.agg (eApiState a), .agg (eApiState b)] [] 0 (fun A H' k => ∃ y, post y ∧ A = (.b y) ∧ H' = [] ∧ k = 0) := by
 refine Tr.intro (n := 85) Tryz.func15 rfl Tryz.ntmps15 rfl (fun w0 ok F β hβ => ?_)
 unfold V_taquinref14_Same at hm
 refine C.seq (U.start ?_)
 refine U.e1 rfl (.none rfl) (by exact Eff1.box rfl rfl rfl rfl rfl) ?_
 refine U.e1 rfl (.none rfl) (by exact Eff1.box rfl rfl rfl rfl rfl) ?_
 refine U.ps 1 T rfl ?_
 refine U.done (C.nx (C.seq (C.seq ?_)))
 refine C.jn (fun (x3 : Bool) => [(2, .p 0 0), (3, .p 1 0), (29, .b x3)]) (fun (x3 : Bool) => [(0, .box (eApiState a)), (1, .box (eApiState b))]) 2 hm (fun x3 hm => ?_) (fun J4 hm hJ4 => ?_)
 refine C.nx ?_
 refine C.ite rfl hm (fun hb7 hm => ?_) (fun hb7 hm => ?_)
 refine C.seq (U.start ?_)
 refine U.ps 1 T rfl ?_
 refine U.done (C.nx (C.ret (C.rt ?_)))
 exact C.f0 T (rs' := [.b false]) hβ ⟨false, hm, rfl, rfl, rfl⟩
 refine C.skip (C.nx (C.seq (C.seq (U.start ?_))))
 refine U.ps 1 T rfl ?_
 refine U.done (C.nx ?_)
 refine C.jn (fun (x12 : Unit) => [(2, .p 0 0), (3, .p 1 0)]) (fun (x12 : Unit) => [(0, .box (eApiState a)), (1, .box (eApiState b))]) 2 hm (fun x12 hm => ?_) (fun J13 hm hJ13 => ?_)
 refine C.nx (C.seq (C.seq (U.start ?_)))
 refine U.ps 1 T rfl ?_
 refine U.done (C.nx ?_)
 refine C.jn (fun (x30 : Unit) => [(2, .p 0 0), (3, .p 1 0)]) (fun (x30 : Unit) => [(0, .box (eApiState a)), (1, .box (eApiState b))]) 2 hm (fun x30 hm => ?_) (fun J31 hm hJ31 => ?_)
 refine C.nx (C.seq ?_)
 refine C.jn (fun (x46 : Bool) => [(4, .b x46)]) (fun (x46 : Bool) => []) 0 hm (fun x46 hm => ?_) (fun J47 hm hJ47 => ?_)
 refine C.nx (C.ret ?_)
 exact C.f0 T (rs' := [.b x46]) hβ ⟨x46, hm, rfl, rfl, rfl⟩
 refine U.start ?_
 refine U.ps 4 T rfl ?_
 refine U.e rfl (.none rfl) (by exact Eff.k (T_taquinref14_SameInts a.Shelves b.Shelves _ hm) en47 rfl rfl rfl (.eq rfl) (fun _ _ => ⟨(.v _), trivial⟩)) (fun x48' hm => ?_)
 obtain ⟨x48⟩ := x48'
 refine U.ps 1 T rfl ?_
 refine hm.cs (fun hb49 hm => ?_) (fun hb49 hm => ?_)
 refine U.pg 4 5 true 71 hb49 T rfl rfl rfl rfl ?_
 refine U.e rfl (.take 5 true 71 _ hb49 rfl rfl rfl) (by exact Eff.k (T_taquinref14_SameInts a.People b.People _ hm) en47 rfl rfl rfl (.eq rfl) (fun _ _ => ⟨(.v _), trivial⟩)) (fun x50' hm => ?_)
 obtain ⟨x50⟩ := x50'
 refine U.r rfl (.none rfl) rfl rfl (by exact Rd.pk rfl rfl hb49 rfl) ?_
 refine U.ps 1 T rfl ?_
 refine hm.cs (fun hb51 hm => ?_) (fun hb51 hm => ?_)
 refine U.pg 4 12 true 78 hb51 T rfl rfl rfl rfl ?_
 refine U.e rfl (.take 12 true 78 _ hb51 rfl rfl rfl) (by exact Eff.k (T_taquinref14_SameInts a.Dead b.Dead _ hm) en47 rfl rfl rfl (.eq rfl) (fun _ _ => ⟨(.v _), trivial⟩)) (fun x52' hm => ?_)
 obtain ⟨x52⟩ := x52'
 refine U.r rfl (.none rfl) rfl rfl (by exact Rd.pk rfl rfl hb51 rfl) ?_
 refine U.ps 1 T rfl ?_
 refine U.done ?_
 exact St.wk (hJ47 _ hm) (Wk.e)
 refine U.sks 5 12 true 78 hb51 rfl rfl rfl ?_
 refine U.r rfl (.none rfl) rfl rfl (by exact Rd.pk' rfl rfl hb51 rfl) ?_
 refine U.ps 1 T rfl ?_
 refine U.done ?_
 exact St.wk (hJ47 _ hm) (Wk.e)
 refine U.sks 5 5 true 71 hb49 rfl rfl rfl ?_
 refine U.r rfl (.none rfl) rfl rfl (by exact Rd.pk' rfl rfl hb49 rfl) ?_
 refine U.ps 1 T rfl ?_
 refine U.sks 5 12 true 78 rfl rfl rfl rfl ?_
 refine U.r rfl (.none rfl) rfl rfl (by exact Rd.pk' rfl rfl rfl rfl) ?_
 refine U.ps 1 T rfl ?_
 refine U.done ?_
 exact St.wk (hJ47 _ hm) (Wk.e)
 refine C.block ?_
 refine St.wk (C.loop (fun (s32 : Int) => [(2, .p 0 0), (3, .p 1 0), (6, .i s32)]) (fun (s32 : Int) => [(0, .box (eApiState a)), (1, .box (eApiState b))]) hm (fun s32 Y33 hm => ?_)) (Wk.f [some 0, some 1] ⟨bX, bX, trivial⟩)
 refine C.seq (C.seq (U.start ?_))
 refine U.ps 5 T rfl ?_
 refine U.done (C.nx ?_)
 refine C.ite rfl hm (fun hb36 hm => ?_) (fun hb36 hm => ?_)
 refine C.skip (C.nx (C.seq (C.block (C.seq ?_))))
 refine D.beg 9999 [0, 1] [] mix rfl rfl (by kernel_rfl) (by repeat (first | exact NoPanicQ.body | exact NoPanicQ.rnd | refine NoPanicQ.th ?_ | refine NoPanicQ.blk ?_)) (fun hQ hS ws M' => ?_)
 refine D.ps 3 [(0, []), (1, []), (2, [])] rfl hQ hS T rfl rfl (by kernel_rfl) ?_
 obtain ⟨x39, hx39, hm⟩ := hm
 refine D.q 3 [] hQ hS rfl (.none rfl) rfl rfl (by exact Rd.ix T rfl rfl rfl rfl rfl rfl hx39) rfl (by kernel_rfl) ?_
 refine D.ps 4 [(4, []), (5, []), (6, []), (7, [])] rfl hQ hS T rfl rfl (by kernel_rfl) ?_
 obtain ⟨x40, hx40, hm⟩ := hm
 refine D.q 8 [] hQ hS rfl (.none rfl) rfl rfl (by exact Rd.ix T rfl rfl rfl rfl rfl rfl hx40) rfl (by kernel_rfl) ?_
 refine D.ps 1 [(9, [])] rfl hQ hS T rfl rfl (by kernel_rfl) ?_
 refine D.q 10 [] hQ hS rfl (.none rfl) rfl rfl (by exact Rd.nes T rfl rfl eqt72 rfl rfl rfl) rfl (by kernel_rfl) ?_
 refine D.done (by kernel_rfl) ?_
 refine C.nx ?_
 refine C.ite rfl hm (fun hb41 hm => ?_) (fun hb41 hm => ?_)
 refine C.seq (U.start ?_)
 refine U.ps 1 T rfl ?_
 refine U.done (C.nx (C.ret (C.brt (C.rt (C.rt (C.brt (C.rt ?_)))))))
 exact C.f0 T (rs' := [.b false]) hβ ⟨false, hm, rfl, rfl, rfl⟩
 refine C.skip (C.bnx (C.nx (U.start ?_)))
 refine U.ps 3 T rfl ?_
 refine U.done (C.nx ?_)
 exact St.wk (C.next hm) (Wk.f [some 0, some 1] ⟨bX, bX, trivial⟩)
 refine C.exit (C.ex (C.ex (C.bex ?_)))
 exact St.wk (hJ31 _ hm) (Wk.f [some 0, some 1] ⟨bX, bX, trivial⟩)
 refine C.block ?_
 refine St.wk (C.loop (fun (s14 : Int) => [(2, .p 0 0), (3, .p 1 0), (5, .i s14)]) (fun (s14 : Int) => [(0, .box (eApiState a)), (1, .box (eApiState b))]) hm (fun s14 Y15 hm => ?_)) (Wk.f [some 0, some 1] ⟨bX, bX, trivial⟩)
 refine C.seq (C.seq (U.start ?_))
 refine U.ps 5 T rfl ?_
 refine U.done (C.nx ?_)
 refine C.ite rfl hm (fun hb18 hm => ?_) (fun hb18 hm => ?_)
 refine C.skip (C.nx (C.seq (C.block (C.seq ?_))))
 refine D.beg 9999 [0, 1] [] mix rfl rfl (by kernel_rfl) (by repeat (first | exact NoPanicQ.body | exact NoPanicQ.rnd | refine NoPanicQ.th ?_ | refine NoPanicQ.blk ?_)) (fun hQ hS ws M' => ?_)
 refine D.ps 3 [(0, []), (1, []), (2, [])] rfl hQ hS T rfl rfl (by kernel_rfl) ?_
 obtain ⟨x21, hx21, hm⟩ := hm
 refine D.q 3 [] hQ hS rfl (.none rfl) rfl rfl (by exact Rd.ix T rfl rfl rfl rfl rfl rfl hx21) rfl (by kernel_rfl) ?_
 refine D.ps 4 [(4, []), (5, []), (6, []), (7, [])] rfl hQ hS T rfl rfl (by kernel_rfl) ?_
 obtain ⟨x22, hx22, hm⟩ := hm
 refine D.q 8 [] hQ hS rfl (.none rfl) rfl rfl (by exact Rd.ix T rfl rfl rfl rfl rfl rfl hx22) rfl (by kernel_rfl) ?_
 refine D.ps 1 [(9, [])] rfl hQ hS T rfl rfl (by kernel_rfl) ?_
 refine D.q 10 [] hQ hS rfl (.none rfl) rfl rfl (by exact Rd.nes T rfl rfl eqt45 rfl rfl rfl) rfl (by kernel_rfl) ?_
 refine D.done (by kernel_rfl) ?_
 refine C.nx ?_
 refine C.ite rfl hm (fun hb23 hm => ?_) (fun hb23 hm => ?_)
 refine C.seq (U.start ?_)
 refine U.ps 1 T rfl ?_
 refine U.done (C.nx (C.ret (C.brt (C.rt (C.rt (C.brt (C.rt ?_)))))))
 exact C.f0 T (rs' := [.b false]) hβ ⟨false, hm, rfl, rfl, rfl⟩
 refine C.skip (C.bnx (C.nx (U.start ?_)))
 refine U.ps 3 T rfl ?_
 refine U.done (C.nx ?_)
 exact St.wk (C.next hm) (Wk.f [some 0, some 1] ⟨bX, bX, trivial⟩)
 refine C.exit (C.ex (C.ex (C.bex ?_)))
 exact St.wk (hJ13 _ hm) (Wk.f [some 0, some 1] ⟨bX, bX, trivial⟩)
 refine U.start ?_
 refine U.ps 6 T rfl ?_
 refine hm.cs (fun hb5 hm => ?_) (fun hb5 hm => ?_)
 refine U.sks 7 5 false 12 hb5 rfl rfl rfl ?_
 refine U.r rfl (.none rfl) rfl rfl (by exact Rd.pk rfl rfl hb5 rfl) ?_
 refine U.ps 1 T rfl ?_
 refine U.sks 7 14 false 21 rfl rfl rfl rfl ?_
 refine U.r rfl (.none rfl) rfl rfl (by exact Rd.pk rfl rfl rfl rfl) ?_
 refine U.done ?_
 exact St.wk (hJ4 _ hm) (Wk.f [some 0, some 1] ⟨bX, bX, trivial⟩)
 refine U.pg 7 5 false 12 hb5 T rfl rfl rfl rfl ?_
 refine U.r rfl (.none rfl) rfl rfl (by exact Rd.pk' rfl rfl hb5 rfl) ?_
 refine U.ps 1 T rfl ?_
 refine hm.cs (fun hb6 hm => ?_) (fun hb6 hm => ?_)
 refine U.sks 7 14 false 21 hb6 rfl rfl rfl ?_
 refine U.r rfl (.none rfl) rfl rfl (by exact Rd.pk rfl rfl hb6 rfl) ?_
 refine U.done ?_
 exact St.wk (hJ4 _ hm) (Wk.f [some 0, some 1] ⟨bX, bX, trivial⟩)
 refine U.pg 7 14 false 21 hb6 T rfl rfl rfl rfl ?_
 refine U.r rfl (.none rfl) rfl rfl (by exact Rd.pk' rfl rfl hb6 rfl) ?_
 refine U.done ?_
 exact St.wk (hJ4 _ hm) (Wk.f [some 0, some 1] ⟨bX, bX, trivial⟩)
end Go.Proofs.YtenbhocpjlmimaaGreat
