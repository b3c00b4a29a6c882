/- The walks: each Go function does what its verification condition says (written by a program of the prover). -/
import Derived.Test.YtenbhocpjlmimaaGreatW1
import Derived.KernelRfl
set_option maxRecDepth 100000
set_option maxHeartbeats 8000000
set_option linter.unusedVariables false
set_option linter.unusedSimpArgs false
namespace Go.Proofs.YtenbhocpjlmimaaGreat
open Go Go.Taq
theorem T_taquinlaw15_ActRefuses (s_1 : ApiSite) (st : ApiState) (robot : Int) (post : Bool → Prop) (hm : V_taquinlaw15_ActRefuses s_1 st robot post) :
    Tr Tryz.prog 4 [.agg (eApiSite s_1), .agg (eApiState st), .i robot] [] 0 (fun A H' k => ∃ y, post y ∧ A = (.b y) ∧ H' = [] ∧ k = 0) := by
 refine Tr.intro (n := 202) Tryz.func4 rfl Tryz.ntmps4 rfl (fun w0 ok F β hβ => ?_)
 unfold V_taquinlaw15_ActRefuses at hm
 refine C.seq (U.start ?_)
 refine U.e1 rfl (.none rfl) (by exact Eff1.box rfl rfl rfl rfl rfl) ?_
 refine U.e1 rfl (.none rfl) (by exact Eff1.box rfl rfl rfl rfl rfl) ?_
 refine U.ps 1 T rfl ?_
 refine U.done (C.nx (C.seq (U.start ?_)))
 refine U.e rfl (.none rfl) (by exact Eff.k (T_taquinlaw15_small _ hm) en8 rfl rfl rfl (.eq rfl) (fun _ _ => ⟨(.v _), trivial⟩)) (fun x5' hm => ?_)
 obtain ⟨x5⟩ := x5'
 refine U.ps 1 T rfl ?_
 refine U.done (C.nx (C.seq (C.seq (U.start ?_))))
 refine U.ps 2 T rfl ?_
 refine U.e rfl (.none rfl) (by exact Eff.k (T_taquinlaw15_fair s_1 st _ hm) en9 rfl rfl rfl (.eq rfl) (fun _ _ => ⟨(.v _), trivial⟩)) (fun x8' hm => ?_)
 obtain ⟨x8⟩ := x8'
 refine U.ps 1 T rfl ?_
 refine U.done (C.nx ?_)
 refine C.ite rfl hm (fun hb9 hm => ?_) (fun hb9 hm => ?_)
 refine C.seq (U.start ?_)
 refine U.ps 2 T rfl ?_
 refine U.done (C.nx (C.ret (C.rt ?_)))
 exact C.f0 T (rs' := [.b x5]) hβ ⟨x5, hm, rfl, rfl, rfl⟩
 refine C.skip (C.nx (C.seq (U.start ?_)))
 refine U.ps 3 T rfl ?_
 refine U.e rfl (.none rfl) (by exact Eff.c [] (v := true) (T_act_Acts s_1 st robot _ hm) en13 rfl rfl rfl (.eq rfl) trivial rfl rfl rfl rfl rfl rfl (fun _ _ => ⟨(.o _), ⟨.val (.os _ _ _ fun _ => (.cons (.v _) .nil)), trivial⟩⟩) (.inr ⟨rfl, rfl⟩) (fun _ => rfl) (fun _ => rfl) rfl) (fun x14' hm => ?_)
 obtain ⟨x14⟩ := x14'
 refine U.ps 1 T rfl ?_
 refine U.done (C.nx (C.seq (C.seq ?_)))
 refine C.jn (fun (x15 : Bool) => [(2, .i robot), (3, .p 0 0), (4, .p 1 0), (7, .b x5), (8, .o 2), (33, .b x15)]) (fun (x15 : Bool) => [(0, .box (eApiSite s_1)), (1, .box (eApiState st)), (2, .val (.os 1 eI x14))]) 3 hm (fun x15 hm => ?_) (fun J16 hm hJ16 => ?_)
 refine C.nx ?_
 refine C.ite rfl hm (fun hb18 hm => ?_) (fun hb18 hm => ?_)
 refine C.seq ?_
 refine C.jn (fun (x19 : Bool) => [(6, .b x19)]) (fun (x19 : Bool) => []) 0 hm (fun x19 hm => ?_) (fun J20 hm hJ20 => ?_)
 refine C.nx (C.ret (C.rt ?_))
 exact C.f0 T (rs' := [.b x19]) hβ ⟨x19, hm, rfl, rfl, rfl⟩
 refine U.start ?_
 refine U.ps 2 T rfl ?_
 refine hm.cs (fun hb21 hm => ?_) (fun hb21 hm => ?_)
 refine U.pg 3 1 true 35 hb21 T rfl rfl rfl rfl ?_
 refine U.r rfl (.none rfl) rfl rfl (by exact Rd.pk rfl rfl hb21 rfl) ?_
 refine U.ps 1 T rfl ?_
 refine hm.cs (fun hb22 hm => ?_) (fun hb22 hm => ?_)
 refine U.pg 3 6 true 40 hb22 T rfl rfl rfl rfl ?_
 refine U.e rfl (.take 6 true 40 _ hb22 rfl rfl rfl) (by exact Eff.k (T_act_Legal s_1 st robot 0 _ hm) en10 rfl rfl rfl (.eq rfl) (fun _ _ => ⟨(.v _), trivial⟩)) (fun x23' hm => ?_)
 obtain ⟨x23⟩ := x23'
 refine U.pg 1 6 true 40 hb22 T rfl rfl rfl rfl ?_
 refine U.r rfl (.none rfl) rfl rfl (by exact Rd.pk rfl rfl hb22 rfl) ?_
 refine U.ps 1 T rfl ?_
 refine U.done ?_
 exact St.wk (hJ20 _ hm) (Wk.e)
 refine U.sks 5 6 true 40 hb22 rfl rfl rfl ?_
 refine U.r rfl (.none rfl) rfl rfl (by exact Rd.pk' rfl rfl hb22 rfl) ?_
 refine U.ps 1 T rfl ?_
 refine U.done ?_
 exact St.wk (hJ20 _ hm) (Wk.e)
 refine U.sks 3 1 true 35 hb21 rfl rfl rfl ?_
 refine U.r rfl (.none rfl) rfl rfl (by exact Rd.pk' rfl rfl hb21 rfl) ?_
 refine U.ps 1 T rfl ?_
 refine U.sks 5 6 true 40 rfl rfl rfl rfl ?_
 refine U.r rfl (.none rfl) rfl rfl (by exact Rd.pk' rfl rfl rfl rfl) ?_
 refine U.ps 1 T rfl ?_
 refine U.done ?_
 exact St.wk (hJ20 _ hm) (Wk.e)
 refine C.skip (C.nx (C.seq (U.start ?_)))
 refine U.ps 3 T rfl ?_
 obtain ⟨x26, hx26, hm⟩ := hm
 refine U.r rfl (.none rfl) rfl rfl (by exact Rd.ix T rfl rfl rfl rfl rfl rfl hx26) ?_
 refine U.ps 1 T rfl ?_
 refine U.e1 rfl (.none rfl) (by exact Eff1.al T rfl rfl rfl rfl) ?_
 refine U.e1 rfl (.none rfl) (by exact Eff1.st T rfl rfl rfl rfl rfl rfl rfl rfl rfl rfl) ?_
 refine U.done (C.nx (C.seq (U.start ?_)))
 refine U.ps 1 T rfl ?_
 refine U.e rfl (.none rfl) (by exact Eff.c [] (v := true) (T_body_All st _ hm) en18 rfl rfl rfl (.eq rfl) trivial rfl rfl rfl rfl rfl rfl (fun _ _ => ⟨(.o _), ⟨.val (.os _ _ _ fun _ => (.cons (.v _) .nil)), trivial⟩⟩) (.inr ⟨rfl, rfl⟩) (fun _ => rfl) (fun _ => rfl) rfl) (fun x29' hm => ?_)
 obtain ⟨x29⟩ := x29'
 refine U.ps 1 T rfl ?_
 refine U.done (C.nx (C.seq (C.seq (U.start ?_))))
 refine U.ps 3 T rfl ?_
 refine U.done (C.nx ?_)
 refine C.ite rfl hm (fun hb32 hm => ?_) (fun hb32 hm => ?_)
 refine C.seq (U.start ?_)
 refine U.ps 1 T rfl ?_
 refine U.done (C.nx (C.ret (C.rt ?_)))
 exact C.f0 T (rs' := [.b false]) hβ ⟨false, hm, rfl, rfl, rfl⟩
 refine C.skip (C.nx (C.seq (C.seq ?_)))
 refine C.jn (fun (x35 : Bool) => [(2, .i robot), (3, .p 0 0), (4, .p 1 0), (7, .b x5), (8, .o 2), (9, .p 3 0), (10, .o 4), (74, .b x35)]) (fun (x35 : Bool) => [(0, .box (eApiSite s_1)), (1, .box (eApiState st)), (2, .val (.os 1 eI x14)), (3, .box (eApiRobot x26)), (4, .val (.os 1 eI x29))]) 5 hm (fun x35 hm => ?_) (fun J36 hm hJ36 => ?_)
 refine C.nx ?_
 refine C.ite rfl hm (fun hb41 hm => ?_) (fun hb41 hm => ?_)
 refine C.seq (U.start ?_)
 refine U.ps 1 T rfl ?_
 refine U.done (C.nx (C.ret (C.rt ?_)))
 exact C.f0 T (rs' := [.b false]) hβ ⟨false, hm, rfl, rfl, rfl⟩
 refine C.skip (C.nx (C.seq (C.seq (U.start ?_))))
 refine U.ps 1 T rfl ?_
 refine U.done (C.nx ?_)
 refine C.jn (fun (x46 : Unit) => [(2, .i robot), (3, .p 0 0), (4, .p 1 0), (7, .b x5)]) (fun (x46 : Unit) => [(0, .box (eApiSite s_1)), (1, .box (eApiState st))]) 2 hm (fun x46 hm => ?_) (fun J47 hm hJ47 => ?_)
 refine C.nx (C.seq ?_)
 refine C.jn (fun (x126 : Bool) => [(6, .b x126)]) (fun (x126 : Bool) => []) 0 hm (fun x126 hm => ?_) (fun J127 hm hJ127 => ?_)
 refine C.nx (C.ret ?_)
 exact C.f0 T (rs' := [.b x126]) hβ ⟨x126, hm, rfl, rfl, rfl⟩
 refine U.start ?_
 refine U.ps 2 T rfl ?_
 refine hm.cs (fun hb128 hm => ?_) (fun hb128 hm => ?_)
 refine U.pg 3 1 true 188 hb128 T rfl rfl rfl rfl ?_
 refine U.e rfl (.take 1 true 188 _ hb128 rfl rfl rfl) (by exact Eff.k (T_act_Legal s_1 st robot (-1) _ hm) en10 rfl rfl rfl (.eq rfl) (fun _ _ => ⟨(.v _), trivial⟩)) (fun x129' hm => ?_)
 obtain ⟨x129⟩ := x129'
 refine U.pg 1 1 true 188 hb128 T rfl rfl rfl rfl ?_
 refine U.r rfl (.none rfl) rfl rfl (by exact Rd.pk rfl rfl hb128 rfl) ?_
 refine U.ps 1 T rfl ?_
 refine hm.cs (fun hb130 hm => ?_) (fun hb130 hm => ?_)
 refine U.pg 3 8 true 195 hb130 T rfl rfl rfl rfl ?_
 refine U.e rfl (.take 8 true 195 _ hb130 rfl rfl rfl) (by exact Eff.k (T_act_Legal s_1 st robot 10 _ hm) en10 rfl rfl rfl (.eq rfl) (fun _ _ => ⟨(.v _), trivial⟩)) (fun x131' hm => ?_)
 obtain ⟨x131⟩ := x131'
 refine U.pg 1 8 true 195 hb130 T rfl rfl rfl rfl ?_
 refine U.r rfl (.none rfl) rfl rfl (by exact Rd.pk rfl rfl hb130 rfl) ?_
 refine U.ps 1 T rfl ?_
 refine U.done ?_
 exact St.wk (hJ127 _ hm) (Wk.e)
 refine U.sks 5 8 true 195 hb130 rfl rfl rfl ?_
 refine U.r rfl (.none rfl) rfl rfl (by exact Rd.pk' rfl rfl hb130 rfl) ?_
 refine U.ps 1 T rfl ?_
 refine U.done ?_
 exact St.wk (hJ127 _ hm) (Wk.e)
 refine U.sks 5 1 true 188 hb128 rfl rfl rfl ?_
 refine U.r rfl (.none rfl) rfl rfl (by exact Rd.pk' rfl rfl hb128 rfl) ?_
 refine U.ps 1 T rfl ?_
 refine U.sks 5 8 true 195 rfl rfl rfl rfl ?_
 refine U.r rfl (.none rfl) rfl rfl (by exact Rd.pk' rfl rfl rfl rfl) ?_
 refine U.ps 1 T rfl ?_
 refine U.done ?_
 exact St.wk (hJ127 _ hm) (Wk.e)
 refine C.block ?_
 refine St.wk (C.loop (fun (s48 : Int) => [(2, .i robot), (3, .p 0 0), (4, .p 1 0), (7, .b x5), (8, .o 2), (9, .p 3 0), (10, .o 4), (11, .i s48)]) (fun (s48 : Int) => [(0, .box (eApiSite s_1)), (1, .box (eApiState st)), (2, .val (.os 1 eI x14)), (3, .box (eApiRobot x26)), (4, .val (.os 1 eI x29))]) hm (fun s48 Y49 hm => ?_)) (Wk.f [some 0, some 1, some 2, some 3, some 4] ⟨bX, bX, vL, bX, vL, trivial⟩)
 refine C.seq (C.seq (U.start ?_))
 refine U.ps 4 T rfl ?_
 refine U.done (C.nx ?_)
 refine C.ite rfl hm (fun hb52 hm => ?_) (fun hb52 hm => ?_)
 refine C.skip (C.nx (C.seq (C.block (C.seq (U.start ?_)))))
 refine U.ps 2 T rfl ?_
 obtain ⟨x55, hx55, hm⟩ := hm
 refine U.r rfl (.none rfl) rfl rfl (by exact Rd.io T rfl rfl rfl rfl rfl rfl rfl hx55) ?_
 refine U.r rfl (.none rfl) rfl rfl (by exact Rd.le T rfl rfl rfl (idx_some hx55).2.2 rfl rfl rfl) ?_
 refine U.ps 1 T rfl ?_
 refine U.done (C.nx (C.seq (U.start ?_)))
 refine U.ps 6 T rfl ?_
 refine U.e rfl (.none rfl) (by exact Eff.k (T_floor_Next s_1.Floor x26.Cell (w64 (x55 - 1)) _ hm) en19 rfl rfl rfl (.eq rfl) (fun _ _ => ⟨(.tup (.cons (.v _) (.cons (.v _) .nil))), trivial⟩)) (fun x58' hm => ?_)
 obtain ⟨x58⟩ := x58'
 refine U.ps 5 T rfl ?_
 refine U.done (C.nx (C.seq (C.seq (U.start ?_))))
 refine U.ps 1 T rfl ?_
 refine U.done (C.nx (C.block (C.seq (U.start ?_))))
 refine U.ps 2 T rfl ?_
 refine U.done (C.nx ?_)
 refine C.jn (fun (x63 : Unit) => [(2, .i robot), (3, .p 0 0), (4, .p 1 0), (7, .b x5), (8, .o 2), (9, .p 3 0), (10, .o 4), (11, .i s48), (12, .i x55)]) (fun (x63 : Unit) => [(0, .box (eApiSite s_1)), (1, .box (eApiState st)), (2, .val (.os 1 eI x14)), (3, .box (eApiRobot x26)), (4, .val (.os 1 eI x29))]) 5 hm (fun x63 hm => ?_) (fun J64 hm hJ64 => ?_)
 refine C.bnx (C.nx (C.seq ?_))
 refine C.jn (fun (x116 : Bool) => [(2, .i robot), (3, .p 0 0), (4, .p 1 0), (7, .b x5), (8, .o 2), (9, .p 3 0), (10, .o 4), (11, .i s48), (186, .b x116)]) (fun (x116 : Bool) => [(0, .box (eApiSite s_1)), (1, .box (eApiState st)), (2, .val (.os 1 eI x14)), (3, .box (eApiRobot x26)), (4, .val (.os 1 eI x29))]) 5 hm (fun x116 hm => ?_) (fun J117 hm hJ117 => ?_)
 refine C.nx ?_
 refine C.ite rfl hm (fun hb121 hm => ?_) (fun hb121 hm => ?_)
 refine C.seq (U.start ?_)
 refine U.ps 1 T rfl ?_
 refine U.done (C.nx (C.ret (C.brt (C.rt (C.rt (C.brt (C.rt ?_)))))))
 exact C.f0 T (rs' := [.b false]) hβ ⟨false, hm, rfl, rfl, rfl⟩
 refine C.skip (C.bnx (C.nx (U.start ?_)))
 refine U.ps 3 T rfl ?_
 refine U.done (C.nx ?_)
 exact St.wk (C.next hm) (Wk.f [some 0, some 1, some 2, some 3, some 4] ⟨bX, bX, vL, bX, vL, trivial⟩)
 refine D.beg 9999 [0, 1, 2] [] mix rfl rfl (by kernel_rfl) (by repeat (first | exact NoPanicQ.body | exact NoPanicQ.rnd | refine NoPanicQ.th ?_ | refine NoPanicQ.blk ?_)) (fun hQ hS ws M' => ?_)
 refine D.ps 2 [(0, []), (1, [])] rfl hQ hS T rfl rfl (by kernel_rfl) ?_
 refine D.q 2 [] hQ hS rfl (.none rfl) rfl rfl (by exact Rd.io T rfl rfl rfl rfl rfl rfl rfl hx55) rfl (by kernel_rfl) ?_
 refine D.q 3 [] hQ hS rfl (.none rfl) rfl rfl (by exact Rd.le T rfl rfl rfl (idx_some hx55).2.2 rfl rfl rfl) rfl (by kernel_rfl) ?_
 refine D.ps 3 [(4, []), (5, []), (6, [])] rfl hQ hS T rfl rfl (by kernel_rfl) ?_
 obtain ⟨x118, hx118, hm⟩ := hm
 refine D.q 7 [] hQ hS rfl (.none rfl) rfl rfl (by exact Rd.io T rfl rfl rfl rfl rfl rfl rfl hx118) rfl (by kernel_rfl) ?_
 refine D.q 8 [] hQ hS rfl (.none rfl) rfl rfl (by exact Rd.le T rfl rfl rfl (idx_some hx118).2.2 rfl rfl rfl) rfl (by kernel_rfl) ?_
 refine D.ps 2 [(9, []), (10, [])] rfl hQ hS T rfl rfl (by kernel_rfl) ?_
 refine hm.cs (fun hb119 hm => ?_) (fun hb119 hm => ?_)
 refine D.sq 11 [] hQ hS rfl (.skip 10 false 179 _ hb119 rfl rfl rfl) rfl rfl (by kernel_rfl) ?_
 refine D.sq 12 [] hQ hS rfl (.skip 10 false 179 _ hb119 rfl rfl rfl) rfl rfl (by kernel_rfl) ?_
 refine D.sq 13 [] hQ hS rfl (.skip 10 false 179 _ hb119 rfl rfl rfl) rfl rfl (by kernel_rfl) ?_
 refine D.sq 14 [] hQ hS rfl (.skip 10 false 179 _ hb119 rfl rfl rfl) rfl rfl (by kernel_rfl) ?_
 refine D.sq 15 [] hQ hS rfl (.skip 10 false 179 _ hb119 rfl rfl rfl) rfl rfl (by kernel_rfl) ?_
 refine D.sq 16 [] hQ hS rfl (.skip 10 false 179 _ hb119 rfl rfl rfl) rfl rfl (by kernel_rfl) ?_
 refine D.q 17 [] hQ hS rfl (.none rfl) rfl rfl (by exact Rd.pk rfl rfl hb119 rfl) rfl (by kernel_rfl) ?_
 refine D.done (by kernel_rfl) ?_
 exact St.wk (hJ117 _ hm) (Wk.f [some 0, some 1, some 2, some 3, some 4] ⟨bX, bX, vL, bX, vL, trivial⟩)
 refine D.q 11 [] hQ hS rfl (.take 10 false 179 _ hb119 rfl rfl rfl) rfl rfl (by exact Rd.l T rfl rfl rfl) rfl (by kernel_rfl) ?_
 refine D.q 12 [] hQ hS rfl (.take 10 false 179 _ hb119 rfl rfl rfl) rfl rfl (by exact Rd.l T rfl rfl rfl) rfl (by kernel_rfl) ?_
 refine D.q 13 [] hQ hS rfl (.take 10 false 179 _ hb119 rfl rfl rfl) rfl rfl (by exact Rd.p T rfl) rfl (by kernel_rfl) ?_
 refine D.q 14 [] hQ hS rfl (.take 10 false 179 _ hb119 rfl rfl rfl) rfl rfl (by exact Rd.p T rfl) rfl (by kernel_rfl) ?_
 refine D.e 15 rfl (.take 10 false 179 _ hb119 rfl rfl rfl) (by exact Eff.k (T_act_Legal s_1 st robot x55 _ hm) en10 rfl rfl rfl (.eq rfl) (fun _ _ => ⟨(.v _), trivial⟩)) (by kernel_rfl) rfl rfl (fun x120' hm => ?_)
 obtain ⟨x120⟩ := x120'
 refine D.q 16 [] hQ hS rfl (.take 10 false 179 _ hb119 rfl rfl rfl) rfl rfl (by exact Rd.p T rfl) rfl (by kernel_rfl) ?_
 refine D.q 17 [] hQ hS rfl (.none rfl) rfl rfl (by exact Rd.pk' rfl rfl hb119 rfl) rfl (by kernel_rfl) ?_
 refine D.done (by kernel_rfl) ?_
 exact St.wk (hJ117 _ hm) (Wk.f [some 0, some 1, some 2, some 3, some 4] ⟨bX, bX, vL, bX, vL, trivial⟩)
 refine C.ite rfl hm (fun hb65 hm => ?_) (fun hb65 hm => ?_)
 refine C.seq ?_
 refine C.jn (fun (x66 : Bool) => [(2, .i robot), (3, .p 0 0), (4, .p 1 0), (7, .b x5), (8, .o 2), (9, .p 3 0), (10, .o 4), (11, .i s48), (12, .i x55), (146, .b x66)]) (fun (x66 : Bool) => [(0, .box (eApiSite s_1)), (1, .box (eApiState st)), (2, .val (.os 1 eI x14)), (3, .box (eApiRobot x26)), (4, .val (.os 1 eI x29))]) 5 hm (fun x66 hm => ?_) (fun J67 hm hJ67 => ?_)
 refine C.nx ?_
 refine C.ite rfl hm (fun hb70 hm => ?_) (fun hb70 hm => ?_)
 refine C.seq (U.start ?_)
 refine U.ps 1 T rfl ?_
 refine U.done (C.nx (C.ret (C.brt (C.rt (C.brt (C.rt (C.rt (C.brt (C.rt ?_)))))))))
 exact C.f0 T (rs' := [.b false]) hβ ⟨false, hm, rfl, rfl, rfl⟩
 refine C.skip ?_
 exact St.wk (hJ64 _ hm) (Wk.f [some 0, some 1, some 2, some 3, some 4] ⟨bX, bX, vL, bX, vL, trivial⟩)
 refine U.start ?_
 refine U.ps 4 T rfl ?_
 refine hm.cs (fun hb68 hm => ?_) (fun hb68 hm => ?_)
 refine U.sks 6 3 false 139 hb68 rfl rfl rfl ?_
 refine U.r rfl (.none rfl) rfl rfl (by exact Rd.pk rfl rfl hb68 rfl) ?_
 refine U.done ?_
 exact St.wk (hJ67 _ hm) (Wk.f [some 0, some 1, some 2, some 3, some 4] ⟨bX, bX, vL, bX, vL, trivial⟩)
 refine U.pg 4 3 false 139 hb68 T rfl rfl rfl rfl ?_
 refine U.e rfl (.take 3 false 139 _ hb68 rfl rfl rfl) (by exact Eff.k (T_rules_At s_1 st x26.Cell _ hm) en20 rfl rfl rfl (.eq rfl) (fun _ _ => ⟨(.v _), trivial⟩)) (fun x69' hm => ?_)
 obtain ⟨x69⟩ := x69'
 refine U.pg 1 3 false 139 hb68 T rfl rfl rfl rfl ?_
 refine U.r rfl (.none rfl) rfl rfl (by exact Rd.pk' rfl rfl hb68 rfl) ?_
 refine U.done ?_
 exact St.wk (hJ67 _ hm) (Wk.f [some 0, some 1, some 2, some 3, some 4] ⟨bX, bX, vL, bX, vL, trivial⟩)
 refine C.seq (U.start ?_)
 refine U.ps 2 T rfl ?_
 refine U.done (C.nx ?_)
 refine C.jn (fun (x75 : Unit) => [(2, .i robot), (3, .p 0 0), (4, .p 1 0), (7, .b x5), (8, .o 2), (9, .p 3 0), (10, .o 4), (11, .i s48), (12, .i x55)]) (fun (x75 : Unit) => [(0, .box (eApiSite s_1)), (1, .box (eApiState st)), (2, .val (.os 1 eI x14)), (3, .box (eApiRobot x26)), (4, .val (.os 1 eI x29))]) 5 hm (fun x75 hm => ?_) (fun J76 hm hJ76 => ?_)
 exact St.wk (hJ64 _ hm) (Wk.f [some 0, some 1, some 2, some 3, some 4] ⟨bX, bX, vL, bX, vL, trivial⟩)
 refine C.ite rfl hm (fun hb77 hm => ?_) (fun hb77 hm => ?_)
 refine C.seq ?_
 refine C.jn (fun (x78 : Bool) => [(2, .i robot), (3, .p 0 0), (4, .p 1 0), (7, .b x5), (8, .o 2), (9, .p 3 0), (10, .o 4), (11, .i s48), (12, .i x55), (158, .b x78)]) (fun (x78 : Bool) => [(0, .box (eApiSite s_1)), (1, .box (eApiState st)), (2, .val (.os 1 eI x14)), (3, .box (eApiRobot x26)), (4, .val (.os 1 eI x29))]) 5 hm (fun x78 hm => ?_) (fun J79 hm hJ79 => ?_)
 refine C.nx ?_
 refine C.ite rfl hm (fun hb82 hm => ?_) (fun hb82 hm => ?_)
 refine C.seq (U.start ?_)
 refine U.ps 1 T rfl ?_
 refine U.done (C.nx (C.ret (C.brt (C.rt (C.brt (C.rt (C.rt (C.brt (C.rt ?_)))))))))
 exact C.f0 T (rs' := [.b false]) hβ ⟨false, hm, rfl, rfl, rfl⟩
 refine C.skip ?_
 exact St.wk (hJ76 _ hm) (Wk.f [some 0, some 1, some 2, some 3, some 4] ⟨bX, bX, vL, bX, vL, trivial⟩)
 refine U.start ?_
 refine U.ps 4 T rfl ?_
 refine hm.cs (fun hb80 hm => ?_) (fun hb80 hm => ?_)
 refine U.sks 5 3 false 152 hb80 rfl rfl rfl ?_
 refine U.r rfl (.none rfl) rfl rfl (by exact Rd.pk rfl rfl hb80 rfl) ?_
 refine U.done ?_
 exact St.wk (hJ79 _ hm) (Wk.f [some 0, some 1, some 2, some 3, some 4] ⟨bX, bX, vL, bX, vL, trivial⟩)
 refine U.pg 3 3 false 152 hb80 T rfl rfl rfl rfl ?_
 refine U.e rfl (.take 3 false 152 _ hb80 rfl rfl rfl) (by exact Eff.k (T_rules_Stands s_1 x26.Cell _ hm) en21 rfl rfl rfl (.eq rfl) (fun _ _ => ⟨(.v _), trivial⟩)) (fun x81' hm => ?_)
 obtain ⟨x81⟩ := x81'
 refine U.pg 1 3 false 152 hb80 T rfl rfl rfl rfl ?_
 refine U.r rfl (.none rfl) rfl rfl (by exact Rd.pk' rfl rfl hb80 rfl) ?_
 refine U.done ?_
 exact St.wk (hJ79 _ hm) (Wk.f [some 0, some 1, some 2, some 3, some 4] ⟨bX, bX, vL, bX, vL, trivial⟩)
 refine C.seq (U.start ?_)
 refine U.ps 2 T rfl ?_
 refine U.done (C.nx ?_)
 refine C.jn (fun (x87 : Unit) => [(2, .i robot), (3, .p 0 0), (4, .p 1 0), (7, .b x5), (8, .o 2), (9, .p 3 0), (10, .o 4), (11, .i s48), (12, .i x55)]) (fun (x87 : Unit) => [(0, .box (eApiSite s_1)), (1, .box (eApiState st)), (2, .val (.os 1 eI x14)), (3, .box (eApiRobot x26)), (4, .val (.os 1 eI x29))]) 5 hm (fun x87 hm => ?_) (fun J88 hm hJ88 => ?_)
 exact St.wk (hJ76 _ hm) (Wk.f [some 0, some 1, some 2, some 3, some 4] ⟨bX, bX, vL, bX, vL, trivial⟩)
 refine C.ite rfl hm (fun hb89 hm => ?_) (fun hb89 hm => ?_)
 refine C.seq (U.start ?_)
 refine U.ps 5 T rfl ?_
 obtain ⟨x92, hx92, hm⟩ := hm
 refine U.r rfl (.none rfl) rfl rfl (by exact Rd.ix T rfl rfl rfl rfl rfl rfl hx92) ?_
 refine U.ps 2 T rfl ?_
 refine U.done (C.nx ?_)
 refine C.ite rfl hm (fun hb93 hm => ?_) (fun hb93 hm => ?_)
 refine C.seq (U.start ?_)
 refine U.ps 1 T rfl ?_
 refine U.done (C.nx (C.ret (C.brt (C.rt (C.brt (C.rt (C.rt (C.brt (C.rt ?_)))))))))
 exact C.f0 T (rs' := [.b false]) hβ ⟨false, hm, rfl, rfl, rfl⟩
 refine C.skip ?_
 exact St.wk (hJ88 _ hm) (Wk.f [some 0, some 1, some 2, some 3, some 4] ⟨bX, bX, vL, bX, vL, trivial⟩)
 refine C.seq ?_
 refine C.jn (fun (x96 : Bool) => [(2, .i robot), (3, .p 0 0), (4, .p 1 0), (7, .b x5), (8, .o 2), (9, .p 3 0), (10, .o 4), (11, .i s48), (12, .i x55), (133, .b x96)]) (fun (x96 : Bool) => [(0, .box (eApiSite s_1)), (1, .box (eApiState st)), (2, .val (.os 1 eI x14)), (3, .box (eApiRobot x26)), (4, .val (.os 1 eI x29))]) 5 hm (fun x96 hm => ?_) (fun J97 hm hJ97 => ?_)
 refine C.nx ?_
 refine C.ite rfl hm (fun hb113 hm => ?_) (fun hb113 hm => ?_)
 refine C.seq (U.start ?_)
 refine U.ps 1 T rfl ?_
 refine U.done (C.nx (C.ret (C.brt (C.rt (C.brt (C.rt (C.rt (C.brt (C.rt ?_)))))))))
 exact C.f0 T (rs' := [.b false]) hβ ⟨false, hm, rfl, rfl, rfl⟩
 refine C.skip ?_
 exact St.wk (hJ88 _ hm) (Wk.f [some 0, some 1, some 2, some 3, some 4] ⟨bX, bX, vL, bX, vL, trivial⟩)
 refine U.start ?_
 refine U.ps 3 T rfl ?_
 refine hm.cs (fun hb98 hm => ?_) (fun hb98 hm => ?_)
 refine U.pg 3 2 false 98 (ntF hb98) T rfl rfl rfl rfl ?_
 refine U.r rfl (.none rfl) rfl rfl (by exact Rd.pk' rfl rfl (ntF hb98) rfl) ?_
 refine U.ps 1 T rfl ?_
 refine hm.cs (fun hb99 hm => ?_) (fun hb99 hm => ?_)
 refine U.sks 4 7 false 103 hb99 rfl rfl rfl ?_
 refine U.r rfl (.none rfl) rfl rfl (by exact Rd.pk rfl rfl hb99 rfl) ?_
 refine U.ps 1 T rfl ?_
 refine U.sks 4 13 false 109 rfl rfl rfl rfl ?_
 refine U.sku 4 17 true 113 rfl rfl rfl ?_
 refine U.sks 1 13 false 109 rfl rfl rfl rfl ?_
 refine U.r rfl (.none rfl) rfl rfl (by exact Rd.pk rfl rfl rfl rfl) ?_
 refine U.ps 1 T rfl ?_
 refine U.sks 4 24 false 120 rfl rfl rfl rfl ?_
 refine U.r rfl (.none rfl) rfl rfl (by exact Rd.pk rfl rfl rfl rfl) ?_
 refine U.ps 1 T rfl ?_
 refine U.sks 6 30 false 126 rfl rfl rfl rfl ?_
 refine U.r rfl (.none rfl) rfl rfl (by exact Rd.pk rfl rfl rfl rfl) ?_
 refine U.done ?_
 exact St.wk (hJ97 _ hm) (Wk.f [some 0, some 1, some 2, some 3, some 4] ⟨bX, bX, vL, bX, vL, trivial⟩)
 refine U.pg 2 7 false 103 hb99 T rfl rfl rfl rfl ?_
 refine U.e rfl (.take 7 false 103 _ hb99 rfl rfl rfl) (by exact Eff.k (T_body_Low x58.1 _ hm) en23 rfl rfl rfl (.eq rfl) (fun _ _ => ⟨(.v _), trivial⟩)) (fun x100' hm => ?_)
 obtain ⟨x100⟩ := x100'
 refine U.e rfl (.take 7 false 103 _ hb99 rfl rfl rfl) (by exact Eff.k (T_taquinref07_Has x29 x100 _ hm) en22 rfl rfl rfl (.cons (.fz rfl rfl rfl (.os fun _ => .cons (.ro rfl) .nil)) (.eq rfl)) (fun _ _ => ⟨(.v _), trivial⟩)) (fun x101' hm => ?_)
 obtain ⟨x101⟩ := x101'
 refine U.r rfl (.none rfl) rfl rfl (by exact Rd.pk' rfl rfl hb99 rfl) ?_
 refine U.ps 1 T rfl ?_
 refine hm.cs (fun hb102 hm => ?_) (fun hb102 hm => ?_)
 refine U.sks 4 13 false 109 hb102 rfl rfl rfl ?_
 refine U.sku 4 17 true 113 rfl rfl rfl ?_
 refine U.sks 1 13 false 109 hb102 rfl rfl rfl ?_
 refine U.r rfl (.none rfl) rfl rfl (by exact Rd.pk rfl rfl hb102 rfl) ?_
 refine U.ps 1 T rfl ?_
 refine U.sks 4 24 false 120 rfl rfl rfl rfl ?_
 refine U.r rfl (.none rfl) rfl rfl (by exact Rd.pk rfl rfl rfl rfl) ?_
 refine U.ps 1 T rfl ?_
 refine U.sks 6 30 false 126 rfl rfl rfl rfl ?_
 refine U.r rfl (.none rfl) rfl rfl (by exact Rd.pk rfl rfl rfl rfl) ?_
 refine U.done ?_
 exact St.wk (hJ97 _ hm) (Wk.f [some 0, some 1, some 2, some 3, some 4] ⟨bX, bX, vL, bX, vL, trivial⟩)
 refine U.pg 4 13 false 109 hb102 T rfl rfl rfl rfl ?_
 refine hm.cs (fun hb103 hm => ?_) (fun hb103 hm => ?_)
 refine U.pg 2 17 true 113 hb103 T rfl rfl rfl rfl ?_
 refine U.e rfl (.take 17 true 113 _ hb103 rfl rfl rfl) (by exact Eff.k (T_body_High x58.1 _ hm) en24 rfl rfl rfl (.eq rfl) (fun _ _ => ⟨(.v _), trivial⟩)) (fun x104' hm => ?_)
 obtain ⟨x104⟩ := x104'
 refine U.e rfl (.take 17 true 113 _ hb103 rfl rfl rfl) (by exact Eff.k (T_taquinref07_Has x29 x104 _ hm) en22 rfl rfl rfl (.cons (.fz rfl rfl rfl (.os fun _ => .cons (.ro rfl) .nil)) (.eq rfl)) (fun _ _ => ⟨(.v _), trivial⟩)) (fun x105' hm => ?_)
 obtain ⟨x105⟩ := x105'
 refine U.r rfl (.take 13 false 109 _ hb102 rfl rfl rfl) rfl rfl (by exact Rd.pk rfl rfl hb103 rfl) ?_
 refine U.r rfl (.none rfl) rfl rfl (by exact Rd.pk' rfl rfl hb102 rfl) ?_
 refine U.ps 1 T rfl ?_
 refine hm.cs (fun hb106 hm => ?_) (fun hb106 hm => ?_)
 refine U.sks 4 24 false 120 hb106 rfl rfl rfl ?_
 refine U.r rfl (.none rfl) rfl rfl (by exact Rd.pk rfl rfl hb106 rfl) ?_
 refine U.ps 1 T rfl ?_
 refine U.sks 6 30 false 126 rfl rfl rfl rfl ?_
 refine U.r rfl (.none rfl) rfl rfl (by exact Rd.pk rfl rfl rfl rfl) ?_
 refine U.done ?_
 exact St.wk (hJ97 _ hm) (Wk.f [some 0, some 1, some 2, some 3, some 4] ⟨bX, bX, vL, bX, vL, trivial⟩)
 refine U.pg 3 24 false 120 hb106 T rfl rfl rfl rfl ?_
 refine U.e rfl (.take 24 false 120 _ hb106 rfl rfl rfl) (by exact Eff.k (T_taquinref07_Has st.Dead x58.1 _ hm) en22 rfl rfl rfl (.eq rfl) (fun _ _ => ⟨(.v _), trivial⟩)) (fun x107' hm => ?_)
 obtain ⟨x107⟩ := x107'
 refine U.r rfl (.none rfl) rfl rfl (by exact Rd.pk' rfl rfl hb106 rfl) ?_
 refine U.ps 1 T rfl ?_
 refine hm.cs (fun hb108 hm => ?_) (fun hb108 hm => ?_)
 refine U.sks 6 30 false 126 hb108 rfl rfl rfl ?_
 refine U.r rfl (.none rfl) rfl rfl (by exact Rd.pk rfl rfl hb108 rfl) ?_
 refine U.done ?_
 exact St.wk (hJ97 _ hm) (Wk.f [some 0, some 1, some 2, some 3, some 4] ⟨bX, bX, vL, bX, vL, trivial⟩)
 refine U.pg 4 30 false 126 hb108 T rfl rfl rfl rfl ?_
 refine U.e rfl (.take 30 false 126 _ hb108 rfl rfl rfl) (by exact Eff.k (T_rules_Open s_1 x58.1 st.Tick _ hm) en25 rfl rfl rfl (.eq rfl) (fun _ _ => ⟨(.v _), trivial⟩)) (fun x109' hm => ?_)
 obtain ⟨x109⟩ := x109'
 refine U.pg 1 30 false 126 hb108 T rfl rfl rfl rfl ?_
 refine U.r rfl (.none rfl) rfl rfl (by exact Rd.pk' rfl rfl hb108 rfl) ?_
 refine U.done ?_
 exact St.wk (hJ97 _ hm) (Wk.f [some 0, some 1, some 2, some 3, some 4] ⟨bX, bX, vL, bX, vL, trivial⟩)
 refine U.sks 4 17 true 113 hb103 rfl rfl rfl ?_
 refine U.r rfl (.take 13 false 109 _ hb102 rfl rfl rfl) rfl rfl (by exact Rd.pk' rfl rfl hb103 rfl) ?_
 refine U.r rfl (.none rfl) rfl rfl (by exact Rd.pk' rfl rfl hb102 rfl) ?_
 refine U.ps 1 T rfl ?_
 refine U.pg 3 24 false 120 rfl T rfl rfl rfl rfl ?_
 refine U.e rfl (.take 24 false 120 _ rfl rfl rfl rfl) (by exact Eff.k (T_taquinref07_Has st.Dead x58.1 _ hm) en22 rfl rfl rfl (.eq rfl) (fun _ _ => ⟨(.v _), trivial⟩)) (fun x110' hm => ?_)
 obtain ⟨x110⟩ := x110'
 refine U.r rfl (.none rfl) rfl rfl (by exact Rd.pk' rfl rfl rfl rfl) ?_
 refine U.ps 1 T rfl ?_
 refine hm.cs (fun hb111 hm => ?_) (fun hb111 hm => ?_)
 refine U.sks 6 30 false 126 hb111 rfl rfl rfl ?_
 refine U.r rfl (.none rfl) rfl rfl (by exact Rd.pk rfl rfl hb111 rfl) ?_
 refine U.done ?_
 exact St.wk (hJ97 _ hm) (Wk.f [some 0, some 1, some 2, some 3, some 4] ⟨bX, bX, vL, bX, vL, trivial⟩)
 refine U.pg 4 30 false 126 hb111 T rfl rfl rfl rfl ?_
 refine U.e rfl (.take 30 false 126 _ hb111 rfl rfl rfl) (by exact Eff.k (T_rules_Open s_1 x58.1 st.Tick _ hm) en25 rfl rfl rfl (.eq rfl) (fun _ _ => ⟨(.v _), trivial⟩)) (fun x112' hm => ?_)
 obtain ⟨x112⟩ := x112'
 refine U.pg 1 30 false 126 hb111 T rfl rfl rfl rfl ?_
 refine U.r rfl (.none rfl) rfl rfl (by exact Rd.pk' rfl rfl hb111 rfl) ?_
 refine U.done ?_
 exact St.wk (hJ97 _ hm) (Wk.f [some 0, some 1, some 2, some 3, some 4] ⟨bX, bX, vL, bX, vL, trivial⟩)
 refine U.sks 3 2 false 98 (ntT hb98) rfl rfl rfl ?_
 refine U.r rfl (.none rfl) rfl rfl (by exact Rd.pk rfl rfl (ntT hb98) rfl) ?_
 refine U.ps 1 T rfl ?_
 refine U.sks 4 7 false 103 rfl rfl rfl rfl ?_
 refine U.r rfl (.none rfl) rfl rfl (by exact Rd.pk rfl rfl rfl rfl) ?_
 refine U.ps 1 T rfl ?_
 refine U.sks 4 13 false 109 rfl rfl rfl rfl ?_
 refine U.sku 4 17 true 113 rfl rfl rfl ?_
 refine U.sks 1 13 false 109 rfl rfl rfl rfl ?_
 refine U.r rfl (.none rfl) rfl rfl (by exact Rd.pk rfl rfl rfl rfl) ?_
 refine U.ps 1 T rfl ?_
 refine U.sks 4 24 false 120 rfl rfl rfl rfl ?_
 refine U.r rfl (.none rfl) rfl rfl (by exact Rd.pk rfl rfl rfl rfl) ?_
 refine U.ps 1 T rfl ?_
 refine U.sks 6 30 false 126 rfl rfl rfl rfl ?_
 refine U.r rfl (.none rfl) rfl rfl (by exact Rd.pk rfl rfl rfl rfl) ?_
 refine U.done ?_
 exact St.wk (hJ97 _ hm) (Wk.f [some 0, some 1, some 2, some 3, some 4] ⟨bX, bX, vL, bX, vL, trivial⟩)
 refine C.exit (C.ex (C.ex (C.bex ?_)))
 exact St.wk (hJ47 _ hm) (Wk.f [some 0, some 1] ⟨bX, bX, trivial⟩)
 refine U.start ?_
 refine U.ps 1 T rfl ?_
 obtain ⟨x37, hx37, hm⟩ := hm
 refine U.r rfl (.none rfl) rfl rfl (by exact Rd.io T rfl rfl rfl rfl rfl rfl rfl hx37) ?_
 refine U.r rfl (.none rfl) rfl rfl (by exact Rd.le T rfl rfl rfl (idx_some hx37).2.2 rfl rfl rfl) ?_
 refine U.ps 2 T rfl ?_
 refine hm.cs (fun hb38 hm => ?_) (fun hb38 hm => ?_)
 refine U.sks 3 4 false 61 hb38 rfl rfl rfl ?_
 refine U.sku 3 7 false 64 rfl rfl rfl ?_
 refine U.sks 2 4 false 61 hb38 rfl rfl rfl ?_
 refine U.sku 3 12 true 69 rfl rfl rfl ?_
 refine U.sks 1 4 false 61 hb38 rfl rfl rfl ?_
 refine U.r rfl (.none rfl) rfl rfl (by exact Rd.pk rfl rfl hb38 rfl) ?_
 refine U.done ?_
 exact St.wk (hJ36 _ hm) (Wk.f [some 0, some 1, some 2, some 3, some 4] ⟨bX, bX, vL, bX, vL, trivial⟩)
 refine U.pg 3 4 false 61 hb38 T rfl rfl rfl rfl ?_
 refine hm.cs (fun hb39 hm => ?_) (fun hb39 hm => ?_)
 refine U.sks 3 7 false 64 hb39 rfl rfl rfl ?_
 refine U.r rfl (.take 4 false 61 _ hb38 rfl rfl rfl) rfl rfl (by exact Rd.pk rfl rfl hb39 rfl) ?_
 refine U.pg 1 4 false 61 hb38 T rfl rfl rfl rfl ?_
 refine U.pg 3 12 true 69 rfl T rfl rfl rfl rfl ?_
 refine U.r rfl (.take 4 false 61 _ hb38 rfl rfl rfl) rfl rfl (by exact Rd.pk rfl rfl rfl rfl) ?_
 refine U.r rfl (.none rfl) rfl rfl (by exact Rd.pk' rfl rfl hb38 rfl) ?_
 refine U.done ?_
 exact St.wk (hJ36 _ hm) (Wk.f [some 0, some 1, some 2, some 3, some 4] ⟨bX, bX, vL, bX, vL, trivial⟩)
 refine U.pg 3 7 false 64 hb39 T rfl rfl rfl rfl ?_
 refine U.r rfl (.take 4 false 61 _ hb38 rfl rfl rfl) rfl rfl (by exact Rd.pk' rfl rfl hb39 rfl) ?_
 refine U.pg 1 4 false 61 hb38 T rfl rfl rfl rfl ?_
 refine hm.cs (fun hb40 hm => ?_) (fun hb40 hm => ?_)
 refine U.pg 3 12 true 69 hb40 T rfl rfl rfl rfl ?_
 refine U.r rfl (.take 4 false 61 _ hb38 rfl rfl rfl) rfl rfl (by exact Rd.pk rfl rfl hb40 rfl) ?_
 refine U.r rfl (.none rfl) rfl rfl (by exact Rd.pk' rfl rfl hb38 rfl) ?_
 refine U.done ?_
 exact St.wk (hJ36 _ hm) (Wk.f [some 0, some 1, some 2, some 3, some 4] ⟨bX, bX, vL, bX, vL, trivial⟩)
 refine U.sks 3 12 true 69 hb40 rfl rfl rfl ?_
 refine U.r rfl (.take 4 false 61 _ hb38 rfl rfl rfl) rfl rfl (by exact Rd.pk' rfl rfl hb40 rfl) ?_
 refine U.r rfl (.none rfl) rfl rfl (by exact Rd.pk' rfl rfl hb38 rfl) ?_
 refine U.done ?_
 exact St.wk (hJ36 _ hm) (Wk.f [some 0, some 1, some 2, some 3, some 4] ⟨bX, bX, vL, bX, vL, trivial⟩)
 refine U.start ?_
 refine U.ps 3 T rfl ?_
 refine hm.cs (fun hb17 hm => ?_) (fun hb17 hm => ?_)
 refine U.sks 5 2 false 27 hb17 rfl rfl rfl ?_
 refine U.r rfl (.none rfl) rfl rfl (by exact Rd.pk rfl rfl hb17 rfl) ?_
 refine U.done ?_
 exact St.wk (hJ16 _ hm) (Wk.f [some 0, some 1, some 2] ⟨bX, bX, vL, trivial⟩)
 refine U.pg 5 2 false 27 hb17 T rfl rfl rfl rfl ?_
 refine U.r rfl (.none rfl) rfl rfl (by exact Rd.pk' rfl rfl hb17 rfl) ?_
 refine U.done ?_
 exact St.wk (hJ16 _ hm) (Wk.f [some 0, some 1, some 2] ⟨bX, bX, vL, trivial⟩)
end Go.Proofs.YtenbhocpjlmimaaGreat
