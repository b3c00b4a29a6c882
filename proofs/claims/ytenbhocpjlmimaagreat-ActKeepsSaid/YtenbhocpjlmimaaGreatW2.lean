/- The walks: each Go function does what its verification condition says (written by a program of the prover). -/
import Derived.Test.YtenbhocpjlmimaaGreatW1
import Derived.KernelRfl
set_option maxRecDepth 100000
set_option maxHeartbeats 8000000
set_option linter.unusedVariables false
set_option linter.unusedSimpArgs false
namespace Go.Proofs.YtenbhocpjlmimaaGreat
open Go Go.Taq
theorem T_rules_beside (s_1 : ApiSite) (c : Int) (post : (List Int) → Prop) (hm : V_rules_beside s_1 c post) :
    Tr Tryz.prog 69 [.agg (eApiSite s_1), .i c] [] 0 (fun A H' k => ∃ y, post y ∧ A = (.o 0) ∧ H' = [(0, .val (.os 1 eI y))] ∧ k = 1) := by
 refine Tr.intro (n := 48) Tryz.func69 rfl Tryz.ntmps69 rfl (fun w0 ok F β hβ => ?_)
 unfold V_rules_beside at hm
 refine C.seq (U.start ?_)
 refine U.e1 rfl (.none rfl) (by exact Eff1.box rfl rfl rfl rfl rfl) ?_
 refine U.ps 1 T rfl ?_
 refine U.done (C.nx (C.seq (U.start ?_)))
 refine U.ps 3 T rfl ?_
 refine U.e rfl (.none rfl) (by exact Eff.k (T_floor_At s_1.Floor c _ hm) en118 rfl rfl rfl (.eq rfl) (fun _ _ => ⟨(.tup (.cons (.v _) (.cons (.v _) (.cons (.v _) .nil)))), trivial⟩)) (fun x5' hm => ?_)
 obtain ⟨x5⟩ := x5'
 refine U.ps 7 T rfl ?_
 refine U.done (C.nx (C.seq ?_))
 refine D.beg 9999 [0] [] mix rfl rfl (by kernel_rfl) (by repeat (first | exact NoPanicQ.body | exact NoPanicQ.rnd | refine NoPanicQ.th ?_ | refine NoPanicQ.blk ?_)) (fun hQ hS ws M' => ?_)
 refine D.ps 24 [(0, []), (1, []), (2, []), (3, []), (4, []), (5, []), (7, []), (8, []), (9, []), (10, []), (11, []), (12, []), (14, []), (15, []), (16, []), (17, []), (18, []), (19, []), (21, []), (22, []), (23, []), (24, []), (25, []), (26, [])] rfl hQ hS T rfl rfl (by kernel_rfl) ?_
 refine D.e 6 rfl (.none rfl) (by exact Eff.k (T_floor_Cell s_1.Floor (w64 (x5.1 + 1)) x5.2.1 x5.2.2 _ hm) en120 rfl rfl rfl (.eq rfl) (fun _ _ => ⟨(.v _), trivial⟩)) (by kernel_rfl) rfl rfl (fun x8' hm => ?_)
 obtain ⟨x8⟩ := x8'
 refine D.e 13 rfl (.none rfl) (by exact Eff.k (T_floor_Cell s_1.Floor x5.1 (w64 (x5.2.1 + 1)) x5.2.2 _ hm) en120 rfl rfl rfl (.eq rfl) (fun _ _ => ⟨(.v _), trivial⟩)) (by kernel_rfl) rfl rfl (fun x9' hm => ?_)
 obtain ⟨x9⟩ := x9'
 refine D.e 20 rfl (.none rfl) (by exact Eff.k (T_floor_Cell s_1.Floor (w64 (x5.1 - 1)) x5.2.1 x5.2.2 _ hm) en120 rfl rfl rfl (.eq rfl) (fun _ _ => ⟨(.v _), trivial⟩)) (by kernel_rfl) rfl rfl (fun x10' hm => ?_)
 obtain ⟨x10⟩ := x10'
 refine D.e 27 rfl (.none rfl) (by exact Eff.k (T_floor_Cell s_1.Floor x5.1 (w64 (x5.2.1 - 1)) x5.2.2 _ hm) en120 rfl rfl rfl (.eq rfl) (fun _ _ => ⟨(.v _), trivial⟩)) (by kernel_rfl) rfl rfl (fun x11' hm => ?_)
 obtain ⟨x11⟩ := x11'
 refine D.e1 28 rfl (.none rfl) (by exact Eff1.bs T (enc := eI) (xs := ([x8, x9, x10, x11] : List Int)) rfl rfl rfl rfl rfl rfl rfl rfl rfl rfl (fun _ _ => rfl) rfl rfl) (by kernel_rfl) rfl rfl ?_
 refine D.ps 1 [(29, [])] rfl hQ hS T rfl rfl (by kernel_rfl) ?_
 refine D.done (by kernel_rfl) ?_
 refine C.nx (C.seq (U.start ?_))
 refine U.ps 1 T rfl ?_
 refine U.e rfl (.none rfl) (by exact Eff.c [some 1] (v := false) (T_slices_DeleteFunc_int_int__o0_rules_beside_1 ([x8, x9, x10, x11] : List Int) _ hm) en128 rfl rfl rfl (.eq rfl) ⟨vL, trivial⟩ rfl rfl rfl rfl rfl rfl (fun h => by cases h) (.inl rfl) (fun _ => rfl) (fun _ => rfl) rfl) (fun x14' hm => ?_)
 obtain ⟨x14⟩ := x14'
 refine U.ps 1 T rfl ?_
 refine U.done (C.nx (C.ret ?_))
 exact C.fin T (rs' := [.o 0]) (H' := [(0, .val (.os 1 eI x14))]) (nl' := 1) [some 3] rfl rfl (.eq rfl) ⟨vL, trivial⟩ rfl rfl rfl rfl hβ ⟨x14, hm, rfl, rfl, rfl⟩
theorem T_rules_Apart (s_1 : ApiSite) (st : ApiState) (post : (Int × Int × Bool) → Prop) (hm : V_rules_Apart s_1 st post) :
    Tr Tryz.prog 30 [.agg (eApiSite s_1), .agg (eApiState st)] [] 0 (fun A H' k => ∃ y, post y ∧ A = (.tup [.i y.1, .i y.2.1, .b y.2.2]) ∧ H' = [] ∧ k = 0) := by
 refine Tr.intro (n := 113) Tryz.func30 rfl Tryz.ntmps30 rfl (fun w0 ok F β hβ => ?_)
 unfold V_rules_Apart at hm
 refine C.seq (U.start ?_)
 refine U.e1 rfl (.none rfl) (by exact Eff1.box rfl rfl rfl rfl rfl) ?_
 refine U.e1 rfl (.none rfl) (by exact Eff1.box rfl rfl rfl rfl rfl) ?_
 refine U.ps 3 T rfl ?_
 refine U.done (C.nx (C.seq (U.start ?_)))
 refine U.ps 1 T rfl ?_
 refine U.e rfl (.none rfl) (by exact Eff.c [] (v := true) (T_rules_classes s_1 _ hm) en66 rfl rfl rfl (.eq rfl) trivial rfl rfl rfl rfl rfl rfl (fun _ _ => ⟨(.o _), ⟨.val (.om _ _ _ fun _ => (.v _)), trivial⟩⟩) (.inr ⟨rfl, rfl⟩) (fun _ => rfl) (fun _ => rfl) rfl) (fun x5' hm => ?_)
 obtain ⟨x5⟩ := x5'
 refine U.ps 1 T rfl ?_
 refine U.done (C.nx (C.seq (U.start ?_)))
 refine U.e1 rfl (.none rfl) (by exact Eff1.mm kI veOeI rfl rfl rfl) ?_
 refine U.ps 1 T rfl ?_
 refine U.done (C.nx (C.seq (C.seq (U.start ?_))))
 refine U.ps 4 T rfl ?_
 refine U.done (C.nx ?_)
 refine C.jn (fun (x10 : List (Int × List Int)) => [(2, .p 0 0), (3, .p 1 0), (7, .o 2), (8, .o 3)]) (fun (x10 : List (Int × List Int)) => [(0, .box (eApiSite s_1)), (1, .box (eApiState st)), (2, .val (.om kApiApart veB x5)), (3, .val (.om kI veOeI x10))]) 4 hm (fun x10 hm => ?_) (fun J11 hm hJ11 => ?_)
 refine C.nx (C.seq (C.seq (U.start ?_)))
 refine U.ps 4 T rfl ?_
 refine U.done (C.nx ?_)
 refine C.jn (fun (x38 : Unit) => []) (fun (x38 : Unit) => []) 0 hm (fun x38 hm => ?_) (fun J39 hm hJ39 => ?_)
 refine C.nx (C.seq (U.start ?_))
 refine U.ps 3 T rfl ?_
 refine U.done (C.nx (C.ret ?_))
 exact C.f0 T (rs' := [.i ((0, 0, false).1), .i ((0, 0, false).2.1), .b ((0, 0, false).2.2)]) hβ ⟨(0, 0, false), hm, rfl, rfl, rfl⟩
 refine C.block ?_
 refine St.wk (C.loop (fun (s40 : Int) => [(2, .p 0 0), (3, .p 1 0), (7, .o 2), (8, .rm kI veLeI x10), (49, .sl 1 eI st.Shelves), (50, .i (st.Shelves.length : Int)), (51, .i s40)]) (fun (s40 : Int) => [(0, .box (eApiSite s_1)), (1, .box (eApiState st)), (2, .val (.om kApiApart veB x5))]) hm (fun s40 Y41 hm => ?_)) (Wk.mk' [some 0, some 1, some 2] rfl rfl ⟨⟨_, rfl, (.eq rfl)⟩, ⟨_, rfl, (.eq rfl)⟩, ⟨_, rfl, (.eq rfl)⟩, ⟨_, rfl, (.fz rfl rfl rfl (.om fun _ => .os fun _ => .cons (.ro rfl) .nil))⟩, ChkG.eqs rfl⟩ ⟨bX, bX, vL, trivial⟩ rfl)
 refine C.seq (U.start ?_)
 refine U.ps 1 T rfl ?_
 refine U.done (C.nx (C.seq ?_))
 refine C.ite rfl hm (fun hb44 hm => ?_) (fun hb44 hm => ?_)
 refine C.skip (C.nx (C.seq ?_))
 refine C.jn (fun (x45 : Unit) => [(2, .p 0 0), (3, .p 1 0), (7, .o 2), (8, .rm kI veLeI x10), (49, .sl 1 eI st.Shelves), (50, .i (st.Shelves.length : Int)), (51, .i s40)]) (fun (x45 : Unit) => [(0, .box (eApiSite s_1)), (1, .box (eApiState st)), (2, .val (.om kApiApart veB x5))]) 3 hm (fun x45 hm => ?_) (fun J46 hm hJ46 => ?_)
 refine C.nx (U.start ?_)
 refine U.ps 2 T rfl ?_
 refine U.done (C.nx ?_)
 exact St.wk (C.next hm) (Wk.f [some 0, some 1, some 2] ⟨bX, bX, vL, trivial⟩)
 refine C.block (C.seq (U.start ?_))
 refine U.ps 1 T rfl ?_
 obtain ⟨x49, hx49, hm⟩ := hm
 refine U.r rfl (.none rfl) rfl rfl (by exact Rd.ix T rfl rfl rfl rfl rfl rfl hx49) ?_
 refine U.ps 3 T rfl ?_
 refine U.done (C.nx (C.seq (U.start ?_)))
 refine U.ps 1 T rfl ?_
 refine U.done (C.nx (C.seq (C.seq ?_)))
 refine C.jn (fun (x52 : Bool) => [(2, .p 0 0), (3, .p 1 0), (7, .o 2), (8, .rm kI veLeI x10), (11, .i s40), (12, .i x49), (13, .i (-1)), (49, .sl 1 eI st.Shelves), (50, .i (st.Shelves.length : Int)), (51, .i s40), (65, .b x52)]) (fun (x52 : Bool) => [(0, .box (eApiSite s_1)), (1, .box (eApiState st)), (2, .val (.om kApiApart veB x5))]) 3 hm (fun x52 hm => ?_) (fun J53 hm hJ53 => ?_)
 refine C.nx ?_
 refine C.ite rfl hm (fun hb57 hm => ?_) (fun hb57 hm => ?_)
 refine C.exit (C.ex (C.bex ?_))
 exact St.wk (hJ46 _ hm) (Wk.f [some 0, some 1, some 2] ⟨bX, bX, vL, trivial⟩)
 refine C.skip (C.nx (C.seq (C.seq (U.start ?_))))
 refine U.ps 2 T rfl ?_
 refine U.e rfl (.none rfl) (by exact Eff.c [] (v := true) (T_rules_beside s_1 x49 _ hm) en69 rfl rfl rfl (.eq rfl) trivial rfl rfl rfl rfl rfl rfl (fun _ _ => ⟨(.o _), ⟨.val (.os _ _ _ fun _ => (.cons (.v _) .nil)), trivial⟩⟩) (.inr ⟨rfl, rfl⟩) (fun _ => rfl) (fun _ => rfl) rfl) (fun x60' hm => ?_)
 obtain ⟨x60⟩ := x60'
 refine U.ps 2 T rfl ?_
 refine U.done (C.nx ?_)
 refine C.jn (fun (x61 : Int) => [(2, .p 0 0), (3, .p 1 0), (7, .o 2), (8, .rm kI veLeI x10), (11, .i s40), (13, .i x61), (49, .sl 1 eI st.Shelves), (50, .i (st.Shelves.length : Int)), (51, .i s40)]) (fun (x61 : Int) => [(0, .box (eApiSite s_1)), (1, .box (eApiState st)), (2, .val (.om kApiApart veB x5))]) 3 hm (fun x61 hm => ?_) (fun J62 hm hJ62 => ?_)
 refine C.nx (C.seq (U.start ?_))
 refine U.ps 2 T rfl ?_
 refine U.done (C.nx ?_)
 refine C.ite rfl hm (fun hb105 hm => ?_) (fun hb105 hm => ?_)
 refine C.seq (U.start ?_)
 refine U.ps 5 T rfl ?_
 refine U.done (C.nx (C.ret (C.brt (C.rt (C.rt (C.brt (C.rt ?_)))))))
 exact C.f0 T (rs' := [.i ((s40, x61, true).1), .i ((s40, x61, true).2.1), .b ((s40, x61, true).2.2)]) hβ ⟨(s40, x61, true), hm, rfl, rfl, rfl⟩
 refine C.skip (C.bnx ?_)
 exact St.wk (hJ46 _ hm) (Wk.f [some 0, some 1, some 2] ⟨bX, bX, vL, trivial⟩)
 refine C.block ?_
 refine St.wk (C.loop (fun (s63 : Int × Int) => [(2, .p 0 0), (3, .p 1 0), (7, .o 2), (8, .rm kI veLeI x10), (11, .i s40), (13, .i s63.1), (49, .sl 1 eI st.Shelves), (50, .i (st.Shelves.length : Int)), (51, .i s40), (68, .sl 1 eI x60), (69, .i (x60.length : Int)), (70, .i s63.2)]) (fun (s63 : Int × Int) => [(0, .box (eApiSite s_1)), (1, .box (eApiState st)), (2, .val (.om kApiApart veB x5))]) hm (fun s63 Y64 hm => ?_)) (Wk.mk' [some 0, some 1, some 2] rfl rfl ⟨⟨_, rfl, (.eq rfl)⟩, ⟨_, rfl, (.eq rfl)⟩, ⟨_, rfl, (.eq rfl)⟩, ⟨_, rfl, (.eq rfl)⟩, ⟨_, rfl, (.eq rfl)⟩, ⟨_, rfl, (.eq rfl)⟩, ⟨_, rfl, (.eq rfl)⟩, ⟨_, rfl, (.eq rfl)⟩, ⟨_, rfl, (.eq rfl)⟩, ⟨_, rfl, (.fz rfl rfl rfl (.os fun _ => .cons (.ro rfl) .nil))⟩, ChkG.eqs rfl⟩ ⟨bX, bX, vL, trivial⟩ rfl)
 refine C.seq (U.start ?_)
 refine U.ps 1 T rfl ?_
 refine U.done (C.nx (C.seq ?_))
 refine C.ite rfl hm (fun hb67 hm => ?_) (fun hb67 hm => ?_)
 refine C.skip (C.nx (C.seq ?_))
 refine C.jn (fun (x68 : Int) => [(2, .p 0 0), (3, .p 1 0), (7, .o 2), (8, .rm kI veLeI x10), (11, .i s40), (13, .i x68), (49, .sl 1 eI st.Shelves), (50, .i (st.Shelves.length : Int)), (51, .i s40), (68, .sl 1 eI x60), (69, .i (x60.length : Int)), (70, .i s63.2)]) (fun (x68 : Int) => [(0, .box (eApiSite s_1)), (1, .box (eApiState st)), (2, .val (.om kApiApart veB x5))]) 3 hm (fun x68 hm => ?_) (fun J69 hm hJ69 => ?_)
 refine C.nx (U.start ?_)
 refine U.ps 2 T rfl ?_
 refine U.done (C.nx ?_)
 exact St.wk (C.next hm) (Wk.f [some 0, some 1, some 2] ⟨bX, bX, vL, trivial⟩)
 refine C.block (C.seq (U.start ?_))
 obtain ⟨x72, hx72, hm⟩ := hm
 refine U.r rfl (.none rfl) rfl rfl (by exact Rd.ix T rfl rfl rfl rfl rfl rfl hx72) ?_
 refine U.ps 2 T rfl ?_
 refine U.done (C.nx (C.seq (U.start ?_)))
 refine U.ps 2 T rfl ?_
 refine U.r rfl (.none rfl) rfl rfl (by exact Rd.lk T (ke := kI) (ve := veLeI) (xs := x10) (z0 := []) (x := x72) rfl rfl kt3 zt22 (fun _ => rfl) rfl .rm rfl rfl rfl) ?_
 refine U.ps 2 T rfl ?_
 refine U.done (C.nx ?_)
 refine C.jn (fun (x75 : Int) => [(2, .p 0 0), (3, .p 1 0), (7, .o 2), (8, .rm kI veLeI x10), (11, .i s40), (13, .i x75), (49, .sl 1 eI st.Shelves), (50, .i (st.Shelves.length : Int)), (51, .i s40), (68, .sl 1 eI x60), (69, .i (x60.length : Int)), (70, .i s63.2)]) (fun (x75 : Int) => [(0, .box (eApiSite s_1)), (1, .box (eApiState st)), (2, .val (.om kApiApart veB x5))]) 3 hm (fun x75 hm => ?_) (fun J76 hm hJ76 => ?_)
 refine C.bnx ?_
 exact St.wk (hJ69 _ hm) (Wk.f [some 0, some 1, some 2] ⟨bX, bX, vL, trivial⟩)
 refine C.block ?_
 refine St.wk (C.loop (fun (s77 : Int × Int) => [(2, .p 0 0), (3, .p 1 0), (7, .o 2), (8, .rm kI veLeI x10), (11, .i s40), (13, .i s77.1), (49, .sl 1 eI st.Shelves), (50, .i (st.Shelves.length : Int)), (51, .i s40), (68, .sl 1 eI x60), (69, .i (x60.length : Int)), (70, .i s63.2), (76, .sl 1 eI ((lk x10 x72).getD [])), (77, .i (((lk x10 x72).getD []).length : Int)), (78, .i s77.2)]) (fun (s77 : Int × Int) => [(0, .box (eApiSite s_1)), (1, .box (eApiState st)), (2, .val (.om kApiApart veB x5))]) hm (fun s77 Y78 hm => ?_)) (Wk.f [some 0, some 1, some 2] ⟨bX, bX, vL, trivial⟩)
 refine C.seq (U.start ?_)
 refine U.ps 1 T rfl ?_
 refine U.done (C.nx (C.seq ?_))
 refine C.ite rfl hm (fun hb81 hm => ?_) (fun hb81 hm => ?_)
 refine C.skip (C.nx (C.seq (C.block (C.seq (U.start ?_)))))
 obtain ⟨x84, hx84, hm⟩ := hm
 refine U.r rfl (.none rfl) rfl rfl (by exact Rd.ix T rfl rfl rfl rfl rfl rfl hx84) ?_
 refine U.ps 2 T rfl ?_
 refine U.done (C.nx (C.seq ?_))
 refine C.jn (fun (x85 : Bool) => [(2, .p 0 0), (3, .p 1 0), (7, .o 2), (8, .rm kI veLeI x10), (11, .i s40), (13, .i s77.1), (17, .i x84), (49, .sl 1 eI st.Shelves), (50, .i (st.Shelves.length : Int)), (51, .i s40), (68, .sl 1 eI x60), (69, .i (x60.length : Int)), (70, .i s63.2), (76, .sl 1 eI ((lk x10 x72).getD [])), (77, .i (((lk x10 x72).getD []).length : Int)), (78, .i s77.2), (104, .b x85)]) (fun (x85 : Bool) => [(0, .box (eApiSite s_1)), (1, .box (eApiState st)), (2, .val (.om kApiApart veB x5))]) 3 hm (fun x85 hm => ?_) (fun J86 hm hJ86 => ?_)
 refine C.nx ?_
 refine C.jn (fun (x94 : Int) => [(2, .p 0 0), (3, .p 1 0), (7, .o 2), (8, .rm kI veLeI x10), (11, .i s40), (13, .i x94), (49, .sl 1 eI st.Shelves), (50, .i (st.Shelves.length : Int)), (51, .i s40), (68, .sl 1 eI x60), (69, .i (x60.length : Int)), (70, .i s63.2), (76, .sl 1 eI ((lk x10 x72).getD [])), (77, .i (((lk x10 x72).getD []).length : Int)), (78, .i s77.2)]) (fun (x94 : Int) => [(0, .box (eApiSite s_1)), (1, .box (eApiState st)), (2, .val (.om kApiApart veB x5))]) 3 hm (fun x94 hm => ?_) (fun J95 hm hJ95 => ?_)
 refine C.bnx (C.nx (U.start ?_))
 refine U.ps 2 T rfl ?_
 refine U.done (C.nx ?_)
 exact St.wk (C.next hm) (Wk.f [some 0, some 1, some 2] ⟨bX, bX, vL, trivial⟩)
 refine C.ite rfl hm (fun hb96 hm => ?_) (fun hb96 hm => ?_)
 refine U.start ?_
 refine U.ps 2 T rfl ?_
 refine U.done ?_
 exact St.wk (hJ95 _ hm) (Wk.f [some 0, some 1, some 2] ⟨bX, bX, vL, trivial⟩)
 refine C.skip ?_
 exact St.wk (hJ95 _ hm) (Wk.f [some 0, some 1, some 2] ⟨bX, bX, vL, trivial⟩)
 refine D.beg 9999 [0, 2] [] mix rfl rfl (by kernel_rfl) (by repeat (first | exact NoPanicQ.body | exact NoPanicQ.rnd | refine NoPanicQ.th ?_ | refine NoPanicQ.blk ?_)) (fun hQ hS ws M' => ?_)
 refine D.ps 4 [(0, []), (1, []), (2, []), (3, [])] rfl hQ hS T rfl rfl (by kernel_rfl) ?_
 refine hm.cs (fun hb87 hm => ?_) (fun hb87 hm => ?_)
 refine D.q 4 [] hQ hS rfl (.take 3 true 85 _ hb87 rfl rfl rfl) rfl rfl (by exact Rd.p T rfl) rfl (by kernel_rfl) ?_
 refine D.q 5 [] hQ hS rfl (.take 3 true 85 _ hb87 rfl rfl rfl) rfl rfl (by exact Rd.p T rfl) rfl (by kernel_rfl) ?_
 refine D.q 6 [] hQ hS rfl (.take 3 true 85 _ hb87 rfl rfl rfl) rfl rfl (by exact Rd.p T rfl) rfl (by kernel_rfl) ?_
 refine hm.cs (fun hb88 hm => ?_) (fun hb88 hm => ?_)
 refine D.sq 7 [] hQ hS rfl (.skip 6 false 88 _ hb88 rfl rfl rfl) rfl rfl (by kernel_rfl) ?_
 refine D.sq 8 [] hQ hS rfl (.skip 6 false 88 _ hb88 rfl rfl rfl) rfl rfl (by kernel_rfl) ?_
 refine D.sq 9 [] hQ hS rfl (.skip 6 false 88 _ hb88 rfl rfl rfl) rfl rfl (by kernel_rfl) ?_
 refine D.q 10 [] hQ hS rfl (.take 3 true 85 _ hb87 rfl rfl rfl) rfl rfl (by exact Rd.pk rfl rfl hb88 rfl) rfl (by kernel_rfl) ?_
 refine D.q 11 [] hQ hS rfl (.none rfl) rfl rfl (by exact Rd.pk rfl rfl hb87 rfl) rfl (by kernel_rfl) ?_
 refine D.ps 1 [(12, [])] rfl hQ hS T rfl rfl (by kernel_rfl) ?_
 refine D.q 13 [] hQ hS rfl (.take 12 true 94 _ rfl rfl rfl rfl) rfl rfl (by exact Rd.p T rfl) rfl (by kernel_rfl) ?_
 refine D.q 14 [] hQ hS rfl (.take 12 true 94 _ rfl rfl rfl rfl) rfl rfl (by exact Rd.l T rfl rfl rfl) rfl (by kernel_rfl) ?_
 refine D.q 15 [] hQ hS rfl (.take 12 true 94 _ rfl rfl rfl rfl) rfl rfl (by exact Rd.p T rfl) rfl (by kernel_rfl) ?_
 refine D.q 17 [] hQ hS rfl (.take 12 true 94 _ rfl rfl rfl rfl) rfl rfl (by exact Rd.l T rfl rfl rfl) rfl (by kernel_rfl) ?_
 refine D.q 18 [] hQ hS rfl (.take 12 true 94 _ rfl rfl rfl rfl) rfl rfl (by exact Rd.p T rfl) rfl (by kernel_rfl) ?_
 refine D.e 16 rfl (.take 12 true 94 _ rfl rfl rfl rfl) (by exact Eff.k (T_rules_Class s_1 s40 _ hm) en67 rfl rfl rfl (.eq rfl) (fun _ _ => ⟨(.v _), trivial⟩)) (by kernel_rfl) rfl rfl (fun x89' hm => ?_)
 obtain ⟨x89⟩ := x89'
 refine D.e 19 rfl (.take 12 true 94 _ rfl rfl rfl rfl) (by exact Eff.k (T_rules_Class s_1 x84 _ hm) en67 rfl rfl rfl (.eq rfl) (fun _ _ => ⟨(.v _), trivial⟩)) (by kernel_rfl) rfl rfl (fun x90' hm => ?_)
 obtain ⟨x90⟩ := x90'
 refine D.q 20 [] hQ hS rfl (.take 12 true 94 _ rfl rfl rfl rfl) rfl rfl (by exact Rd.p T rfl) rfl (by kernel_rfl) ?_
 refine D.q 21 [] hQ hS rfl (.take 12 true 94 _ rfl rfl rfl rfl) rfl rfl (by exact Rd.lk T (ke := kApiApart) (ve := veB) (xs := x5) (z0 := false) (x := ({ A := x89, B := x90 : ApiApart })) rfl rfl kt98 zt4 (fun _ => rfl) rfl (.o rfl) rfl rfl rfl) rfl (by kernel_rfl) ?_
 refine D.q 22 [] hQ hS rfl (.none rfl) rfl rfl (by exact Rd.pk rfl rfl rfl rfl) rfl (by kernel_rfl) ?_
 refine D.done (by kernel_rfl) ?_
 exact St.wk (hJ86 _ hm) (Wk.f [some 0, some 1, some 2] ⟨bX, bX, vL, trivial⟩)
 refine D.q 7 [] hQ hS rfl (.take 6 false 88 _ hb88 rfl rfl rfl) rfl rfl (by exact Rd.p T rfl) rfl (by kernel_rfl) ?_
 refine D.q 8 [] hQ hS rfl (.take 6 false 88 _ hb88 rfl rfl rfl) rfl rfl (by exact Rd.p T rfl) rfl (by kernel_rfl) ?_
 refine D.q 9 [] hQ hS rfl (.take 6 false 88 _ hb88 rfl rfl rfl) rfl rfl (by exact Rd.p T rfl) rfl (by kernel_rfl) ?_
 refine D.q 10 [] hQ hS rfl (.take 3 true 85 _ hb87 rfl rfl rfl) rfl rfl (by exact Rd.pk' rfl rfl hb88 rfl) rfl (by kernel_rfl) ?_
 refine D.q 11 [] hQ hS rfl (.none rfl) rfl rfl (by exact Rd.pk rfl rfl hb87 rfl) rfl (by kernel_rfl) ?_
 refine D.ps 1 [(12, [])] rfl hQ hS T rfl rfl (by kernel_rfl) ?_
 refine hm.cs (fun hb91 hm => ?_) (fun hb91 hm => ?_)
 refine D.q 13 [] hQ hS rfl (.take 12 true 94 _ hb91 rfl rfl rfl) rfl rfl (by exact Rd.p T rfl) rfl (by kernel_rfl) ?_
 refine D.q 14 [] hQ hS rfl (.take 12 true 94 _ hb91 rfl rfl rfl) rfl rfl (by exact Rd.l T rfl rfl rfl) rfl (by kernel_rfl) ?_
 refine D.q 15 [] hQ hS rfl (.take 12 true 94 _ hb91 rfl rfl rfl) rfl rfl (by exact Rd.p T rfl) rfl (by kernel_rfl) ?_
 refine D.q 17 [] hQ hS rfl (.take 12 true 94 _ hb91 rfl rfl rfl) rfl rfl (by exact Rd.l T rfl rfl rfl) rfl (by kernel_rfl) ?_
 refine D.q 18 [] hQ hS rfl (.take 12 true 94 _ hb91 rfl rfl rfl) rfl rfl (by exact Rd.p T rfl) rfl (by kernel_rfl) ?_
 refine D.e 16 rfl (.take 12 true 94 _ hb91 rfl rfl rfl) (by exact Eff.k (T_rules_Class s_1 s40 _ hm) en67 rfl rfl rfl (.eq rfl) (fun _ _ => ⟨(.v _), trivial⟩)) (by kernel_rfl) rfl rfl (fun x92' hm => ?_)
 obtain ⟨x92⟩ := x92'
 refine D.e 19 rfl (.take 12 true 94 _ hb91 rfl rfl rfl) (by exact Eff.k (T_rules_Class s_1 x84 _ hm) en67 rfl rfl rfl (.eq rfl) (fun _ _ => ⟨(.v _), trivial⟩)) (by kernel_rfl) rfl rfl (fun x93' hm => ?_)
 obtain ⟨x93⟩ := x93'
 refine D.q 20 [] hQ hS rfl (.take 12 true 94 _ hb91 rfl rfl rfl) rfl rfl (by exact Rd.p T rfl) rfl (by kernel_rfl) ?_
 refine D.q 21 [] hQ hS rfl (.take 12 true 94 _ hb91 rfl rfl rfl) rfl rfl (by exact Rd.lk T (ke := kApiApart) (ve := veB) (xs := x5) (z0 := false) (x := ({ A := x92, B := x93 : ApiApart })) rfl rfl kt98 zt4 (fun _ => rfl) rfl (.o rfl) rfl rfl rfl) rfl (by kernel_rfl) ?_
 refine D.q 22 [] hQ hS rfl (.none rfl) rfl rfl (by exact Rd.pk rfl rfl hb91 rfl) rfl (by kernel_rfl) ?_
 refine D.done (by kernel_rfl) ?_
 exact St.wk (hJ86 _ hm) (Wk.f [some 0, some 1, some 2] ⟨bX, bX, vL, trivial⟩)
 refine D.sq 13 [] hQ hS rfl (.skip 12 true 94 _ hb91 rfl rfl rfl) rfl rfl (by kernel_rfl) ?_
 refine D.sq 14 [] hQ hS rfl (.skip 12 true 94 _ hb91 rfl rfl rfl) rfl rfl (by kernel_rfl) ?_
 refine D.sq 15 [] hQ hS rfl (.skip 12 true 94 _ hb91 rfl rfl rfl) rfl rfl (by kernel_rfl) ?_
 refine D.sq 16 [] hQ hS rfl (.skip 12 true 94 _ hb91 rfl rfl rfl) rfl rfl (by kernel_rfl) ?_
 refine D.sq 17 [] hQ hS rfl (.skip 12 true 94 _ hb91 rfl rfl rfl) rfl rfl (by kernel_rfl) ?_
 refine D.sq 18 [] hQ hS rfl (.skip 12 true 94 _ hb91 rfl rfl rfl) rfl rfl (by kernel_rfl) ?_
 refine D.sq 19 [] hQ hS rfl (.skip 12 true 94 _ hb91 rfl rfl rfl) rfl rfl (by kernel_rfl) ?_
 refine D.sq 20 [] hQ hS rfl (.skip 12 true 94 _ hb91 rfl rfl rfl) rfl rfl (by kernel_rfl) ?_
 refine D.sq 21 [] hQ hS rfl (.skip 12 true 94 _ hb91 rfl rfl rfl) rfl rfl (by kernel_rfl) ?_
 refine D.q 22 [] hQ hS rfl (.none rfl) rfl rfl (by exact Rd.pk' rfl rfl hb91 rfl) rfl (by kernel_rfl) ?_
 refine D.done (by kernel_rfl) ?_
 exact St.wk (hJ86 _ hm) (Wk.f [some 0, some 1, some 2] ⟨bX, bX, vL, trivial⟩)
 refine D.sq 4 [] hQ hS rfl (.skip 3 true 85 _ hb87 rfl rfl rfl) rfl rfl (by kernel_rfl) ?_
 refine D.sq 5 [] hQ hS rfl (.skip 3 true 85 _ hb87 rfl rfl rfl) rfl rfl (by kernel_rfl) ?_
 refine D.sq 6 [] hQ hS rfl (.skip 3 true 85 _ hb87 rfl rfl rfl) rfl rfl (by kernel_rfl) ?_
 refine D.sq 7 [] hQ hS rfl (.und 6 false 88 rfl rfl rfl) rfl rfl (by kernel_rfl) ?_
 refine D.sq 8 [] hQ hS rfl (.und 6 false 88 rfl rfl rfl) rfl rfl (by kernel_rfl) ?_
 refine D.sq 9 [] hQ hS rfl (.und 6 false 88 rfl rfl rfl) rfl rfl (by kernel_rfl) ?_
 refine D.sq 10 [] hQ hS rfl (.skip 3 true 85 _ hb87 rfl rfl rfl) rfl rfl (by kernel_rfl) ?_
 refine D.q 11 [] hQ hS rfl (.none rfl) rfl rfl (by exact Rd.pk' rfl rfl hb87 rfl) rfl (by kernel_rfl) ?_
 refine D.ps 1 [(12, [])] rfl hQ hS T rfl rfl (by kernel_rfl) ?_
 refine D.sq 13 [] hQ hS rfl (.skip 12 true 94 _ rfl rfl rfl rfl) rfl rfl (by kernel_rfl) ?_
 refine D.sq 14 [] hQ hS rfl (.skip 12 true 94 _ rfl rfl rfl rfl) rfl rfl (by kernel_rfl) ?_
 refine D.sq 15 [] hQ hS rfl (.skip 12 true 94 _ rfl rfl rfl rfl) rfl rfl (by kernel_rfl) ?_
 refine D.sq 16 [] hQ hS rfl (.skip 12 true 94 _ rfl rfl rfl rfl) rfl rfl (by kernel_rfl) ?_
 refine D.sq 17 [] hQ hS rfl (.skip 12 true 94 _ rfl rfl rfl rfl) rfl rfl (by kernel_rfl) ?_
 refine D.sq 18 [] hQ hS rfl (.skip 12 true 94 _ rfl rfl rfl rfl) rfl rfl (by kernel_rfl) ?_
 refine D.sq 19 [] hQ hS rfl (.skip 12 true 94 _ rfl rfl rfl rfl) rfl rfl (by kernel_rfl) ?_
 refine D.sq 20 [] hQ hS rfl (.skip 12 true 94 _ rfl rfl rfl rfl) rfl rfl (by kernel_rfl) ?_
 refine D.sq 21 [] hQ hS rfl (.skip 12 true 94 _ rfl rfl rfl rfl) rfl rfl (by kernel_rfl) ?_
 refine D.q 22 [] hQ hS rfl (.none rfl) rfl rfl (by exact Rd.pk' rfl rfl rfl rfl) rfl (by kernel_rfl) ?_
 refine D.done (by kernel_rfl) ?_
 exact St.wk (hJ86 _ hm) (Wk.f [some 0, some 1, some 2] ⟨bX, bX, vL, trivial⟩)
 refine C.exit (C.ex (C.ex (C.bex ?_)))
 exact St.wk (hJ76 _ hm) (Wk.f [some 0, some 1, some 2] ⟨bX, bX, vL, trivial⟩)
 refine C.exit (C.ex (C.ex (C.bex ?_)))
 exact St.wk (hJ62 _ hm) (Wk.f [some 0, some 1, some 2] ⟨bX, bX, vL, trivial⟩)
 refine U.start ?_
 refine U.ps 2 T rfl ?_
 refine U.e rfl (.none rfl) (by exact Eff.k (T_rules_Class s_1 s40 _ hm) en67 rfl rfl rfl (.eq rfl) (fun _ _ => ⟨(.v _), trivial⟩)) (fun x54' hm => ?_)
 obtain ⟨x54⟩ := x54'
 refine U.ps 2 T rfl ?_
 refine hm.cs (fun hb55 hm => ?_) (fun hb55 hm => ?_)
 refine U.sks 4 4 false 60 hb55 rfl rfl rfl ?_
 refine U.r rfl (.none rfl) rfl rfl (by exact Rd.pk rfl rfl hb55 rfl) ?_
 refine U.done ?_
 exact St.wk (hJ53 _ hm) (Wk.f [some 0, some 1, some 2] ⟨bX, bX, vL, trivial⟩)
 refine U.pg 2 4 false 60 hb55 T rfl rfl rfl rfl ?_
 refine U.e rfl (.take 4 false 60 _ hb55 rfl rfl rfl) (by exact Eff.k (T_rules_Carried st s40 _ hm) en68 rfl rfl rfl (.eq rfl) (fun _ _ => ⟨(.v _), trivial⟩)) (fun x56' hm => ?_)
 obtain ⟨x56⟩ := x56'
 refine U.pg 1 4 false 60 hb55 T rfl rfl rfl rfl ?_
 refine U.r rfl (.none rfl) rfl rfl (by exact Rd.pk' rfl rfl hb55 rfl) ?_
 refine U.done ?_
 exact St.wk (hJ53 _ hm) (Wk.f [some 0, some 1, some 2] ⟨bX, bX, vL, trivial⟩)
 refine C.exit (C.ex (C.ex (C.bex ?_)))
 exact St.wk (hJ39 _ hm) (Wk.mk' [] rfl rfl trivial trivial rfl)
 refine C.block ?_
 refine St.wk (C.loop (fun (s12 : List (Int × List Int) × Int) => [(2, .p 0 0), (3, .p 1 0), (7, .o 2), (8, .o 3), (22, .sl 1 eI st.Shelves), (23, .i (st.Shelves.length : Int)), (24, .i s12.2)]) (fun (s12 : List (Int × List Int) × Int) => [(0, .box (eApiSite s_1)), (1, .box (eApiState st)), (2, .val (.om kApiApart veB x5)), (3, .val (.om kI veOeI s12.1))]) hm (fun s12 Y13 hm => ?_)) (Wk.f [some 0, some 1, some 2, some 3] ⟨bX, bX, vL, vL, trivial⟩)
 refine C.seq (U.start ?_)
 refine U.ps 1 T rfl ?_
 refine U.done (C.nx (C.seq ?_))
 refine C.ite rfl hm (fun hb16 hm => ?_) (fun hb16 hm => ?_)
 refine C.skip (C.nx (C.seq (C.block (C.seq (U.start ?_)))))
 refine U.ps 1 T rfl ?_
 obtain ⟨x19, hx19, hm⟩ := hm
 refine U.r rfl (.none rfl) rfl rfl (by exact Rd.ix T rfl rfl rfl rfl rfl rfl hx19) ?_
 refine U.ps 3 T rfl ?_
 refine U.done (C.nx (C.seq ?_))
 refine C.jn (fun (x20 : Bool) => [(2, .p 0 0), (3, .p 1 0), (7, .o 2), (8, .o 3), (9, .i s12.2), (10, .i x19), (22, .sl 1 eI st.Shelves), (23, .i (st.Shelves.length : Int)), (24, .i s12.2), (38, .b x20)]) (fun (x20 : Bool) => [(0, .box (eApiSite s_1)), (1, .box (eApiState st)), (2, .val (.om kApiApart veB x5)), (3, .val (.om kI veOeI s12.1))]) 4 hm (fun x20 hm => ?_) (fun J21 hm hJ21 => ?_)
 refine C.nx ?_
 refine C.jn (fun (x25 : List (Int × List Int)) => [(2, .p 0 0), (3, .p 1 0), (7, .o 2), (8, .o 3), (22, .sl 1 eI st.Shelves), (23, .i (st.Shelves.length : Int)), (24, .i s12.2)]) (fun (x25 : List (Int × List Int)) => [(0, .box (eApiSite s_1)), (1, .box (eApiState st)), (2, .val (.om kApiApart veB x5)), (3, .val (.om kI veOeI x25))]) 4 hm (fun x25 hm => ?_) (fun J26 hm hJ26 => ?_)
 refine C.bnx (C.nx (U.start ?_))
 refine U.ps 2 T rfl ?_
 refine U.done (C.nx ?_)
 exact St.wk (C.next hm) (Wk.f [some 0, some 1, some 2, some 3] ⟨bX, bX, vL, vL, trivial⟩)
 refine C.ite rfl hm (fun hb27 hm => ?_) (fun hb27 hm => ?_)
 refine C.jn (fun (x28 : List (Int × List Int)) => [(2, .p 0 0), (3, .p 1 0), (7, .o 2), (8, .o 3), (22, .sl 1 eI st.Shelves), (23, .i (st.Shelves.length : Int)), (24, .i s12.2)]) (fun (x28 : List (Int × List Int)) => [(0, .box (eApiSite s_1)), (1, .box (eApiState st)), (2, .val (.om kApiApart veB x5)), (3, .val (.om kI veOeI x28))]) 4 hm (fun x28 hm => ?_) (fun J29 hm hJ29 => ?_)
 exact St.wk (hJ26 _ hm) (Wk.f [some 0, some 1, some 2, some 3] ⟨bX, bX, vL, vL, trivial⟩)
 refine U.start ?_
 refine U.ps 4 T rfl ?_
 rcases lk_cases s12.1 x19 with ⟨x30, hx31⟩ | hx31
 replace hm := hm.1 x30 hx31
 refine St.lendm (l := 3) rfl hx31 rfl ?_
 refine U.r rfl (.none rfl) rfl rfl (by exact Rd.lkl T rfl rfl kt3 rfl rfl (.head _) rfl rfl rfl rfl) ?_
 refine U.ps 1 T rfl ?_
 refine U.e1 rfl (.none rfl) (by exact Eff1.bs T (enc := eI) (xs := ([s12.2] : List Int)) rfl rfl rfl rfl rfl rfl rfl rfl rfl rfl (fun _ _ => rfl) rfl rfl) ?_
 obtain ⟨hx32, hm⟩ := hm
 refine U.e1 rfl (.none rfl) (by exact Eff1.ap T rfl rfl rfl rfl rfl rfl (.inr ⟨_, rfl, rfl⟩) rfl rfl rfl (fun _ => rfl) rfl hx32) ?_
 refine U.e1 rfl (.none rfl) (by exact Eff1.mul T (x := x19) rfl rfl kt3 rfl rfl (fun _ h => nomatch h) rfl rfl rfl rfl) ?_
 refine U.done ?_
 refine St.putm (l := 3) (l' := 6) (y := (x30 ++ ([s12.2] : List Int))) rfl rfl rfl rfl ?_
 exact St.wk (hJ29 _ hm) (Wk.f [some 0, some 1, some 2, some 3] ⟨bX, bX, vL, vL, trivial⟩)
 replace hm := hm.2 hx31
 refine U.r rfl (.none rfl) rfl rfl (by exact Rd.lkn (z := .slice none 0 0) T rfl rfl kt3 (fun w => by kernel_rfl) rfl rfl hx31 rfl rfl) ?_
 refine U.ps 1 T rfl ?_
 refine U.e1 rfl (.none rfl) (by exact Eff1.bs T (enc := eI) (xs := ([s12.2] : List Int)) rfl rfl rfl rfl rfl rfl rfl rfl rfl rfl (fun _ _ => rfl) rfl rfl) ?_
 obtain ⟨hx33, hm⟩ := hm
 refine U.e1 rfl (.none rfl) (by exact Eff1.apn T rfl rfl rfl rfl rfl (.inr ⟨_, rfl, rfl⟩) rfl rfl rfl (fun _ => rfl) rfl (fun _ => rfl) hx33) ?_
 refine U.e1 rfl (.none rfl) (by exact Eff1.mun T (x := x19) [] rfl rfl kt3 rfl rfl hx31 rfl rfl rfl rfl) ?_
 refine U.done ?_
 refine St.putm (l := 3) (l' := 5) (y := ([s12.2] : List Int)) rfl rfl rfl rfl ?_
 exact St.wk (hJ29 _ hm) (Wk.f [some 0, some 1, some 2, some 3] ⟨bX, bX, vL, vL, trivial⟩)
 refine C.skip ?_
 exact St.wk (hJ26 _ hm) (Wk.f [some 0, some 1, some 2, some 3] ⟨bX, bX, vL, vL, trivial⟩)
 refine U.start ?_
 refine U.ps 2 T rfl ?_
 refine U.e rfl (.none rfl) (by exact Eff.k (T_rules_Class s_1 s12.2 _ hm) en67 rfl rfl rfl (.eq rfl) (fun _ _ => ⟨(.v _), trivial⟩)) (fun x22' hm => ?_)
 obtain ⟨x22⟩ := x22'
 refine U.ps 2 T rfl ?_
 refine hm.cs (fun hb23 hm => ?_) (fun hb23 hm => ?_)
 refine U.sks 4 4 true 33 (ntF hb23) rfl rfl rfl ?_
 refine U.r rfl (.none rfl) rfl rfl (by exact Rd.pk' rfl rfl (ntF hb23) rfl) ?_
 refine U.done ?_
 exact St.wk (hJ21 _ hm) (Wk.f [some 0, some 1, some 2, some 3] ⟨bX, bX, vL, vL, trivial⟩)
 refine U.pg 2 4 true 33 (ntT hb23) T rfl rfl rfl rfl ?_
 refine U.e rfl (.take 4 true 33 _ (ntT hb23) rfl rfl rfl) (by exact Eff.k (T_rules_Carried st s12.2 _ hm) en68 rfl rfl rfl (.eq rfl) (fun _ _ => ⟨(.v _), trivial⟩)) (fun x24' hm => ?_)
 obtain ⟨x24⟩ := x24'
 refine U.pg 1 4 true 33 (ntT hb23) T rfl rfl rfl rfl ?_
 refine U.r rfl (.none rfl) rfl rfl (by exact Rd.pk rfl rfl (ntT hb23) rfl) ?_
 refine U.done ?_
 exact St.wk (hJ21 _ hm) (Wk.f [some 0, some 1, some 2, some 3] ⟨bX, bX, vL, vL, trivial⟩)
 refine C.exit (C.ex (C.ex (C.bex ?_)))
 exact St.wk (hJ11 _ hm) (Wk.f [some 0, some 1, some 2, some 3] ⟨bX, bX, vL, vL, trivial⟩)
theorem T_act_Acts (s_1 : ApiSite) (st : ApiState) (robot : Int) (post : (List Int) → Prop) (hm : V_act_Acts s_1 st robot post) :
    Tr Tryz.prog 13 [.agg (eApiSite s_1), .agg (eApiState st), .i robot] [] 0 (fun A H' k => ∃ y, post y ∧ A = (.o 0) ∧ H' = [(0, .val (.os 1 eI y))] ∧ k = 1) := by
 refine Tr.intro (n := 24) Tryz.func13 rfl Tryz.ntmps13 rfl (fun w0 ok F β hβ => ?_)
 unfold V_act_Acts at hm
 refine C.seq (U.start ?_)
 refine U.e1 rfl (.none rfl) (by exact Eff1.box rfl rfl rfl rfl rfl) ?_
 refine U.e1 rfl (.none rfl) (by exact Eff1.box rfl rfl rfl rfl rfl) ?_
 refine U.ps 1 T rfl ?_
 refine U.done (C.nx (C.seq (U.start ?_)))
 refine U.ps 1 T rfl ?_
 refine U.done (C.nx (C.seq (C.seq (U.start ?_))))
 refine U.ps 1 T rfl ?_
 refine U.done (C.nx ?_)
 refine C.jn (fun (x7 : List Int) => [(7, .o 0)]) (fun (x7 : List Int) => [(0, .val (.os 1 eI x7))]) 1 hm (fun x7 hm => ?_) (fun J8 hm hJ8 => ?_)
 refine C.nx (C.seq (U.start ?_))
 refine U.ps 2 T rfl ?_
 refine U.done (C.nx (C.ret ?_))
 exact C.fin T (rs' := [.o 0]) (H' := [(0, .val (.os 1 eI x7))]) (nl' := 1) [some 0] rfl rfl (.eq rfl) ⟨vL, trivial⟩ rfl rfl rfl rfl hβ ⟨x7, hm, rfl, rfl, rfl⟩
 refine C.block ?_
 refine St.wk (C.loop (fun (s9 : List Int × Int) => [(2, .i robot), (3, .p 0 0), (4, .p 1 0), (7, .o 2), (9, .i s9.2)]) (fun (s9 : List Int × Int) => [(0, .box (eApiSite s_1)), (1, .box (eApiState st)), (2, .val (.os 1 eI s9.1))]) hm (fun s9 Y10 hm => ?_)) (Wk.mk' [some 0, some 1, none] rfl rfl ⟨⟨_, rfl, (.eq rfl)⟩, ⟨_, rfl, (.eq rfl)⟩, ⟨_, rfl, (.eq rfl)⟩, ⟨_, rfl, (.nilO _ _ ⟨rfl, rfl⟩ rfl)⟩, ChkG.eqs rfl⟩ ⟨bX, bX, ⟨_, rfl, .nil _ _⟩, trivial⟩ rfl)
 refine C.seq (U.start ?_)
 refine U.ps 1 T rfl ?_
 refine U.done (C.nx (C.seq ?_))
 refine C.ite rfl hm (fun hb13 hm => ?_) (fun hb13 hm => ?_)
 refine C.skip (C.nx (C.seq (C.block (C.seq (U.start ?_)))))
 refine U.ps 2 T rfl ?_
 refine U.done (C.nx (C.seq (U.start ?_)))
 refine U.ps 4 T rfl ?_
 refine U.e rfl (.none rfl) (by exact Eff.k (T_act_Legal s_1 st robot s9.2 _ hm) en10 rfl rfl rfl (.eq rfl) (fun _ _ => ⟨(.v _), trivial⟩)) (fun x18' hm => ?_)
 obtain ⟨x18⟩ := x18'
 refine U.ps 1 T rfl ?_
 refine U.done (C.nx ?_)
 refine C.jn (fun (x19 : List Int) => [(2, .i robot), (3, .p 0 0), (4, .p 1 0), (7, .o 2), (9, .i s9.2)]) (fun (x19 : List Int) => [(0, .box (eApiSite s_1)), (1, .box (eApiState st)), (2, .val (.os 1 eI x19))]) 3 hm (fun x19 hm => ?_) (fun J20 hm hJ20 => ?_)
 refine C.bnx (C.nx (U.start ?_))
 refine U.ps 2 T rfl ?_
 refine U.done (C.nx ?_)
 exact St.wk (C.next hm) (Wk.f [some 0, some 1, some 2] ⟨bX, bX, vL, trivial⟩)
 refine C.ite rfl hm (fun hb21 hm => ?_) (fun hb21 hm => ?_)
 refine U.start ?_
 refine U.ps 2 T rfl ?_
 refine U.e1 rfl (.none rfl) (by exact Eff1.bs T (enc := eI) (xs := ([s9.2] : List Int)) rfl rfl rfl rfl rfl rfl rfl rfl rfl rfl (fun _ _ => rfl) rfl rfl) ?_
 obtain ⟨hx24, hm⟩ := hm
 refine U.e1 rfl (.none rfl) (by exact Eff1.ap T rfl rfl rfl rfl rfl rfl (.inr ⟨_, rfl, rfl⟩) rfl rfl rfl (fun _ => rfl) rfl hx24) ?_
 refine U.ps 1 T rfl ?_
 refine U.done ?_
 exact St.wk (hJ20 _ hm) (Wk.f [some 0, some 1, some 4] ⟨bX, bX, vL, trivial⟩)
 refine C.skip ?_
 exact St.wk (hJ20 _ hm) (Wk.f [some 0, some 1, some 2] ⟨bX, bX, vL, trivial⟩)
 refine C.exit (C.ex (C.ex (C.bex ?_)))
 exact St.wk (hJ8 _ hm) (Wk.f [some 2] ⟨vL, trivial⟩)
theorem T_body_within (n : Int) (from_1 : Int) (to_1 : Int) (post : Bool → Prop) (hm : V_body_within n from_1 to_1 post) :
    Tr Tryz.prog 71 [.i n, .i from_1, .i to_1] [] 0 (fun A H' k => ∃ y, post y ∧ A = (.b y) ∧ H' = [] ∧ k = 0) := by
 refine Tr.intro (n := 15) Tryz.func71 rfl Tryz.ntmps71 rfl (fun w0 ok F β hβ => ?_)
 unfold V_body_within at hm
 refine C.seq (U.start ?_)
 refine U.ps 1 T rfl ?_
 refine U.done (C.nx (C.seq ?_))
 refine C.jn (fun (x3 : Bool) => [(6, .b x3)]) (fun (x3 : Bool) => []) 0 hm (fun x3 hm => ?_) (fun J4 hm hJ4 => ?_)
 refine C.nx (C.ret ?_)
 exact C.f0 T (rs' := [.b x3]) hβ ⟨x3, hm, rfl, rfl, rfl⟩
 refine U.start ?_
 refine U.ps 4 T rfl ?_
 refine hm.cs (fun hb5 hm => ?_) (fun hb5 hm => ?_)
 refine U.pg 3 3 true 10 hb5 T rfl rfl rfl rfl ?_
 refine U.r rfl (.none rfl) rfl rfl (by exact Rd.pk rfl rfl hb5 rfl) ?_
 refine U.ps 1 T rfl ?_
 refine U.done ?_
 exact St.wk (hJ4 _ hm) (Wk.e)
 refine U.sks 3 3 true 10 hb5 rfl rfl rfl ?_
 refine U.r rfl (.none rfl) rfl rfl (by exact Rd.pk' rfl rfl hb5 rfl) ?_
 refine U.ps 1 T rfl ?_
 refine U.done ?_
 exact St.wk (hJ4 _ hm) (Wk.e)
theorem T_body_robots (s_1 : ApiSite) (st : ApiState) (post : Bool → Prop) (hm : V_body_robots s_1 st post) :
    Tr Tryz.prog 72 [.agg (eApiSite s_1), .agg (eApiState st)] [] 0 (fun A H' k => ∃ y, post y ∧ A = (.b y) ∧ H' = [] ∧ k = 0) := by
 refine Tr.intro (n := 88) Tryz.func72 rfl Tryz.ntmps72 rfl (fun w0 ok F β hβ => ?_)
 unfold V_body_robots at hm
 refine C.seq (U.start ?_)
 refine U.e1 rfl (.none rfl) (by exact Eff1.box rfl rfl rfl rfl rfl) ?_
 refine U.e1 rfl (.none rfl) (by exact Eff1.box rfl rfl rfl rfl rfl) ?_
 refine U.ps 1 T rfl ?_
 refine U.done (C.nx (C.seq (U.start ?_)))
 refine U.e1 rfl (.none rfl) (by exact Eff1.mm kI veB rfl rfl rfl) ?_
 refine U.ps 1 T rfl ?_
 refine U.done (C.nx (C.seq (C.seq (U.start ?_))))
 refine U.ps 4 T rfl ?_
 refine U.done (C.nx ?_)
 refine C.jn (fun (x7 : Unit) => []) (fun (x7 : Unit) => []) 0 hm (fun x7 hm => ?_) (fun J8 hm hJ8 => ?_)
 refine C.nx (C.seq (U.start ?_))
 refine U.ps 1 T rfl ?_
 refine U.done (C.nx (C.ret ?_))
 exact C.f0 T (rs' := [.b true]) hβ ⟨true, hm, rfl, rfl, rfl⟩
 refine C.block ?_
 refine St.wk (C.loop (fun (s9 : List (Int × Bool) × Int) => [(2, .p 0 0), (3, .p 1 0), (5, .o 2), (10, .sl 6 eApiRobot st.Robots), (11, .i (st.Robots.length : Int)), (12, .i s9.2)]) (fun (s9 : List (Int × Bool) × Int) => [(0, .box (eApiSite s_1)), (1, .box (eApiState st)), (2, .val (.om kI veB s9.1))]) hm (fun s9 Y10 hm => ?_)) (Wk.f [some 0, some 1, some 2] ⟨bX, bX, vL, trivial⟩)
 refine C.seq (U.start ?_)
 refine U.ps 1 T rfl ?_
 refine U.done (C.nx (C.seq ?_))
 refine C.ite rfl hm (fun hb13 hm => ?_) (fun hb13 hm => ?_)
 refine C.skip (C.nx (C.seq (C.block (C.seq (U.start ?_)))))
 obtain ⟨x16, hx16, hm⟩ := hm
 refine U.r rfl (.none rfl) rfl rfl (by exact Rd.ix T rfl rfl rfl rfl rfl rfl hx16) ?_
 refine U.ps 1 T rfl ?_
 refine U.e1 rfl (.none rfl) (by exact Eff1.al T rfl rfl rfl rfl) ?_
 refine U.e1 rfl (.none rfl) (by exact Eff1.st T rfl rfl rfl rfl rfl rfl rfl rfl rfl rfl) ?_
 refine U.done (C.nx (C.seq (C.seq ?_)))
 refine C.jn (fun (x17 : Bool) => [(2, .p 0 0), (3, .p 1 0), (5, .o 2), (7, .p 3 0), (10, .sl 6 eApiRobot st.Robots), (11, .i (st.Robots.length : Int)), (12, .i s9.2), (47, .b x17)]) (fun (x17 : Bool) => [(0, .box (eApiSite s_1)), (1, .box (eApiState st)), (2, .val (.om kI veB s9.1)), (3, .box (eApiRobot x16))]) 4 hm (fun x17 hm => ?_) (fun J18 hm hJ18 => ?_)
 refine C.nx ?_
 refine C.ite rfl hm (fun hb24 hm => ?_) (fun hb24 hm => ?_)
 refine C.seq (U.start ?_)
 refine U.ps 1 T rfl ?_
 refine U.done (C.nx (C.ret (C.rt (C.brt (C.rt (C.rt (C.brt (C.rt ?_))))))))
 exact C.f0 T (rs' := [.b false]) hβ ⟨false, hm, rfl, rfl, rfl⟩
 refine C.skip (C.nx (C.seq (C.seq ?_)))
 refine C.jn (fun (x27 : Bool) => [(2, .p 0 0), (3, .p 1 0), (5, .o 2), (7, .p 3 0), (10, .sl 6 eApiRobot st.Robots), (11, .i (st.Robots.length : Int)), (12, .i s9.2), (63, .b x27)]) (fun (x27 : Bool) => [(0, .box (eApiSite s_1)), (1, .box (eApiState st)), (2, .val (.om kI veB s9.1)), (3, .box (eApiRobot x16))]) 4 hm (fun x27 hm => ?_) (fun J28 hm hJ28 => ?_)
 refine C.nx ?_
 refine C.ite rfl hm (fun hb34 hm => ?_) (fun hb34 hm => ?_)
 refine C.seq (U.start ?_)
 refine U.ps 1 T rfl ?_
 refine U.done (C.nx (C.ret (C.rt (C.brt (C.rt (C.rt (C.brt (C.rt ?_))))))))
 exact C.f0 T (rs' := [.b false]) hβ ⟨false, hm, rfl, rfl, rfl⟩
 refine C.skip (C.nx (C.seq (C.seq ?_)))
 refine C.jn (fun (x37 : Bool) => [(2, .p 0 0), (3, .p 1 0), (5, .o 2), (7, .p 3 0), (10, .sl 6 eApiRobot st.Robots), (11, .i (st.Robots.length : Int)), (12, .i s9.2), (83, .b x37)]) (fun (x37 : Bool) => [(0, .box (eApiSite s_1)), (1, .box (eApiState st)), (2, .val (.om kI veB s9.1)), (3, .box (eApiRobot x16))]) 4 hm (fun x37 hm => ?_) (fun J38 hm hJ38 => ?_)
 refine C.nx ?_
 refine C.ite rfl hm (fun hb42 hm => ?_) (fun hb42 hm => ?_)
 refine C.seq (U.start ?_)
 refine U.ps 1 T rfl ?_
 refine U.done (C.nx (C.ret (C.rt (C.brt (C.rt (C.rt (C.brt (C.rt ?_))))))))
 exact C.f0 T (rs' := [.b false]) hβ ⟨false, hm, rfl, rfl, rfl⟩
 refine C.skip (C.nx (U.start ?_))
 refine U.ps 3 T rfl ?_
 refine U.e1 rfl (.none rfl) (by exact Eff1.mu T (x := x16.Load) (y := true) (.inl rfl) rfl kt3 (fun _ => rfl) rfl rfl rfl rfl rfl (.inl rfl) rfl) ?_
 refine U.done (C.bnx (C.nx (U.start ?_)))
 refine U.ps 2 T rfl ?_
 refine U.done (C.nx ?_)
 exact St.wk (C.next hm) (Wk.f [some 0, some 1, some 2] ⟨bX, bX, vL, trivial⟩)
 refine D.beg 9999 [1, 2, 3] [] mix rfl rfl (by kernel_rfl) (by repeat (first | exact NoPanicQ.body | exact NoPanicQ.rnd | refine NoPanicQ.th ?_ | refine NoPanicQ.blk ?_)) (fun hQ hS ws M' => ?_)
 refine D.ps 4 [(0, []), (1, []), (2, []), (3, [])] rfl hQ hS T rfl rfl (by kernel_rfl) ?_
 refine hm.cs (fun hb39 hm => ?_) (fun hb39 hm => ?_)
 refine D.q 4 [] hQ hS rfl (.take 3 true 67 _ hb39 rfl rfl rfl) rfl rfl (by exact Rd.p T rfl) rfl (by kernel_rfl) ?_
 refine D.q 5 [] hQ hS rfl (.take 3 true 67 _ hb39 rfl rfl rfl) rfl rfl (by exact Rd.p T rfl) rfl (by kernel_rfl) ?_
 refine D.q 6 [] hQ hS rfl (.take 3 true 67 _ hb39 rfl rfl rfl) rfl rfl (by exact Rd.l T rfl rfl rfl) rfl (by kernel_rfl) ?_
 refine D.q 7 [] hQ hS rfl (.take 3 true 67 _ hb39 rfl rfl rfl) rfl rfl (by exact Rd.lk T (ke := kI) (ve := veB) (xs := s9.1) (z0 := false) (x := x16.Load) rfl rfl kt3 zt4 (fun _ => rfl) rfl (.o rfl) rfl rfl rfl) rfl (by kernel_rfl) ?_
 refine D.q 8 [] hQ hS rfl (.take 3 true 67 _ hb39 rfl rfl rfl) rfl rfl (by exact Rd.p T rfl) rfl (by kernel_rfl) ?_
 refine hm.cs (fun hb40 hm => ?_) (fun hb40 hm => ?_)
 refine D.sq 9 [] hQ hS rfl (.skip 8 false 72 _ hb40 rfl rfl rfl) rfl rfl (by kernel_rfl) ?_
 refine D.sq 10 [] hQ hS rfl (.skip 8 false 72 _ hb40 rfl rfl rfl) rfl rfl (by kernel_rfl) ?_
 refine D.sq 11 [] hQ hS rfl (.skip 8 false 72 _ hb40 rfl rfl rfl) rfl rfl (by kernel_rfl) ?_
 refine D.sq 12 [] hQ hS rfl (.skip 8 false 72 _ hb40 rfl rfl rfl) rfl rfl (by kernel_rfl) ?_
 refine D.sq 13 [] hQ hS rfl (.skip 8 false 72 _ hb40 rfl rfl rfl) rfl rfl (by kernel_rfl) ?_
 refine D.sq 14 [] hQ hS rfl (.skip 8 false 72 _ hb40 rfl rfl rfl) rfl rfl (by kernel_rfl) ?_
 refine D.sq 15 [] hQ hS rfl (.skip 8 false 72 _ hb40 rfl rfl rfl) rfl rfl (by kernel_rfl) ?_
 refine D.sq 16 [] hQ hS rfl (.skip 8 false 72 _ hb40 rfl rfl rfl) rfl rfl (by kernel_rfl) ?_
 refine D.sq 17 [] hQ hS rfl (.skip 8 false 72 _ hb40 rfl rfl rfl) rfl rfl (by kernel_rfl) ?_
 refine D.q 18 [] hQ hS rfl (.take 3 true 67 _ hb39 rfl rfl rfl) rfl rfl (by exact Rd.pk rfl rfl hb40 rfl) rfl (by kernel_rfl) ?_
 refine D.q 19 [] hQ hS rfl (.none rfl) rfl rfl (by exact Rd.pk rfl rfl hb39 rfl) rfl (by kernel_rfl) ?_
 refine D.done (by kernel_rfl) ?_
 exact St.wk (hJ38 _ hm) (Wk.f [some 0, some 1, some 2, some 3] ⟨bX, bX, vL, bX, trivial⟩)
 refine D.q 9 [] hQ hS rfl (.take 8 false 72 _ hb40 rfl rfl rfl) rfl rfl (by exact Rd.p T rfl) rfl (by kernel_rfl) ?_
 refine D.q 10 [] hQ hS rfl (.take 8 false 72 _ hb40 rfl rfl rfl) rfl rfl (by exact Rd.l T rfl rfl rfl) rfl (by kernel_rfl) ?_
 refine D.q 11 [] hQ hS rfl (.take 8 false 72 _ hb40 rfl rfl rfl) rfl rfl (by exact Rd.p T rfl) rfl (by kernel_rfl) ?_
 refine D.q 12 [] hQ hS rfl (.take 8 false 72 _ hb40 rfl rfl rfl) rfl rfl (by exact Rd.l T rfl rfl rfl) rfl (by kernel_rfl) ?_
 obtain ⟨x41, hx41, hm⟩ := hm
 refine D.q 13 [] hQ hS rfl (.take 8 false 72 _ hb40 rfl rfl rfl) rfl rfl (by exact Rd.ix T rfl rfl rfl rfl rfl rfl hx41) rfl (by kernel_rfl) ?_
 refine D.q 14 [] hQ hS rfl (.take 8 false 72 _ hb40 rfl rfl rfl) rfl rfl (by exact Rd.l T rfl rfl rfl) rfl (by kernel_rfl) ?_
 refine D.q 15 [] hQ hS rfl (.take 8 false 72 _ hb40 rfl rfl rfl) rfl rfl (by exact Rd.p T rfl) rfl (by kernel_rfl) ?_
 refine D.q 16 [] hQ hS rfl (.take 8 false 72 _ hb40 rfl rfl rfl) rfl rfl (by exact Rd.l T rfl rfl rfl) rfl (by kernel_rfl) ?_
 refine D.q 17 [] hQ hS rfl (.take 8 false 72 _ hb40 rfl rfl rfl) rfl rfl (by exact Rd.p T rfl) rfl (by kernel_rfl) ?_
 refine D.q 18 [] hQ hS rfl (.take 3 true 67 _ hb39 rfl rfl rfl) rfl rfl (by exact Rd.pk' rfl rfl hb40 rfl) rfl (by kernel_rfl) ?_
 refine D.q 19 [] hQ hS rfl (.none rfl) rfl rfl (by exact Rd.pk rfl rfl hb39 rfl) rfl (by kernel_rfl) ?_
 refine D.done (by kernel_rfl) ?_
 exact St.wk (hJ38 _ hm) (Wk.f [some 0, some 1, some 2, some 3] ⟨bX, bX, vL, bX, trivial⟩)
 refine D.sq 4 [] hQ hS rfl (.skip 3 true 67 _ hb39 rfl rfl rfl) rfl rfl (by kernel_rfl) ?_
 refine D.sq 5 [] hQ hS rfl (.skip 3 true 67 _ hb39 rfl rfl rfl) rfl rfl (by kernel_rfl) ?_
 refine D.sq 6 [] hQ hS rfl (.skip 3 true 67 _ hb39 rfl rfl rfl) rfl rfl (by kernel_rfl) ?_
 refine D.sq 7 [] hQ hS rfl (.skip 3 true 67 _ hb39 rfl rfl rfl) rfl rfl (by kernel_rfl) ?_
 refine D.sq 8 [] hQ hS rfl (.skip 3 true 67 _ hb39 rfl rfl rfl) rfl rfl (by kernel_rfl) ?_
 refine D.sq 9 [] hQ hS rfl (.und 8 false 72 rfl rfl rfl) rfl rfl (by kernel_rfl) ?_
 refine D.sq 10 [] hQ hS rfl (.und 8 false 72 rfl rfl rfl) rfl rfl (by kernel_rfl) ?_
 refine D.sq 11 [] hQ hS rfl (.und 8 false 72 rfl rfl rfl) rfl rfl (by kernel_rfl) ?_
 refine D.sq 12 [] hQ hS rfl (.und 8 false 72 rfl rfl rfl) rfl rfl (by kernel_rfl) ?_
 refine D.sq 13 [] hQ hS rfl (.und 8 false 72 rfl rfl rfl) rfl rfl (by kernel_rfl) ?_
 refine D.sq 14 [] hQ hS rfl (.und 8 false 72 rfl rfl rfl) rfl rfl (by kernel_rfl) ?_
 refine D.sq 15 [] hQ hS rfl (.und 8 false 72 rfl rfl rfl) rfl rfl (by kernel_rfl) ?_
 refine D.sq 16 [] hQ hS rfl (.und 8 false 72 rfl rfl rfl) rfl rfl (by kernel_rfl) ?_
 refine D.sq 17 [] hQ hS rfl (.und 8 false 72 rfl rfl rfl) rfl rfl (by kernel_rfl) ?_
 refine D.sq 18 [] hQ hS rfl (.skip 3 true 67 _ hb39 rfl rfl rfl) rfl rfl (by kernel_rfl) ?_
 refine D.q 19 [] hQ hS rfl (.none rfl) rfl rfl (by exact Rd.pk' rfl rfl hb39 rfl) rfl (by kernel_rfl) ?_
 refine D.done (by kernel_rfl) ?_
 exact St.wk (hJ38 _ hm) (Wk.f [some 0, some 1, some 2, some 3] ⟨bX, bX, vL, bX, trivial⟩)
 refine U.start ?_
 refine U.ps 2 T rfl ?_
 refine U.e rfl (.none rfl) (by exact Eff.k (T_body_within x16.Charge 0 1000000 _ hm) en71 rfl rfl rfl (.eq rfl) (fun _ _ => ⟨(.v _), trivial⟩)) (fun x29' hm => ?_)
 obtain ⟨x29⟩ := x29'
 refine U.ps 2 T rfl ?_
 refine hm.cs (fun hb30 hm => ?_) (fun hb30 hm => ?_)
 refine U.pg 2 4 false 52 (ntF hb30) T rfl rfl rfl rfl ?_
 refine U.e rfl (.take 4 false 52 _ (ntF hb30) rfl rfl rfl) (by exact Eff.k (T_body_within x16.Rest 0 20000 _ hm) en71 rfl rfl rfl (.eq rfl) (fun _ _ => ⟨(.v _), trivial⟩)) (fun x31' hm => ?_)
 obtain ⟨x31⟩ := x31'
 refine U.pg 1 4 false 52 (ntF hb30) T rfl rfl rfl rfl ?_
 refine U.r rfl (.none rfl) rfl rfl (by exact Rd.pk' rfl rfl (ntF hb30) rfl) ?_
 refine U.ps 1 T rfl ?_
 refine hm.cs (fun hb32 hm => ?_) (fun hb32 hm => ?_)
 refine U.pg 2 10 false 58 (ntF hb32) T rfl rfl rfl rfl ?_
 refine U.e rfl (.take 10 false 58 _ (ntF hb32) rfl rfl rfl) (by exact Eff.k (T_body_within x16.Mute 0 20000 _ hm) en71 rfl rfl rfl (.eq rfl) (fun _ _ => ⟨(.v _), trivial⟩)) (fun x33' hm => ?_)
 obtain ⟨x33⟩ := x33'
 refine U.pg 1 10 false 58 (ntF hb32) T rfl rfl rfl rfl ?_
 refine U.r rfl (.none rfl) rfl rfl (by exact Rd.pk' rfl rfl (ntF hb32) rfl) ?_
 refine U.done ?_
 exact St.wk (hJ28 _ hm) (Wk.f [some 0, some 1, some 2, some 3] ⟨bX, bX, vL, bX, trivial⟩)
 refine U.sks 4 10 false 58 (ntT hb32) rfl rfl rfl ?_
 refine U.r rfl (.none rfl) rfl rfl (by exact Rd.pk rfl rfl (ntT hb32) rfl) ?_
 refine U.done ?_
 exact St.wk (hJ28 _ hm) (Wk.f [some 0, some 1, some 2, some 3] ⟨bX, bX, vL, bX, trivial⟩)
 refine U.sks 4 4 false 52 (ntT hb30) rfl rfl rfl ?_
 refine U.r rfl (.none rfl) rfl rfl (by exact Rd.pk rfl rfl (ntT hb30) rfl) ?_
 refine U.ps 1 T rfl ?_
 refine U.sks 4 10 false 58 rfl rfl rfl rfl ?_
 refine U.r rfl (.none rfl) rfl rfl (by exact Rd.pk rfl rfl rfl rfl) ?_
 refine U.done ?_
 exact St.wk (hJ28 _ hm) (Wk.f [some 0, some 1, some 2, some 3] ⟨bX, bX, vL, bX, trivial⟩)
 refine U.start ?_
 refine U.ps 4 T rfl ?_
 refine hm.cs (fun hb19 hm => ?_) (fun hb19 hm => ?_)
 refine U.sks 7 3 false 19 hb19 rfl rfl rfl ?_
 refine U.r rfl (.none rfl) rfl rfl (by exact Rd.pk rfl rfl hb19 rfl) ?_
 refine U.ps 1 T rfl ?_
 refine U.sks 8 12 false 28 rfl rfl rfl rfl ?_
 refine U.r rfl (.none rfl) rfl rfl (by exact Rd.pk rfl rfl rfl rfl) ?_
 refine U.ps 1 T rfl ?_
 refine U.sks 8 22 false 38 rfl rfl rfl rfl ?_
 refine U.r rfl (.none rfl) rfl rfl (by exact Rd.pk rfl rfl rfl rfl) ?_
 refine U.done ?_
 exact St.wk (hJ18 _ hm) (Wk.f [some 0, some 1, some 2, some 3] ⟨bX, bX, vL, bX, trivial⟩)
 refine U.pg 7 3 false 19 hb19 T rfl rfl rfl rfl ?_
 refine U.r rfl (.none rfl) rfl rfl (by exact Rd.pk' rfl rfl hb19 rfl) ?_
 refine U.ps 1 T rfl ?_
 refine hm.cs (fun hb20 hm => ?_) (fun hb20 hm => ?_)
 refine U.sks 8 12 false 28 hb20 rfl rfl rfl ?_
 refine U.r rfl (.none rfl) rfl rfl (by exact Rd.pk rfl rfl hb20 rfl) ?_
 refine U.ps 1 T rfl ?_
 refine U.sks 8 22 false 38 rfl rfl rfl rfl ?_
 refine U.r rfl (.none rfl) rfl rfl (by exact Rd.pk rfl rfl rfl rfl) ?_
 refine U.done ?_
 exact St.wk (hJ18 _ hm) (Wk.f [some 0, some 1, some 2, some 3] ⟨bX, bX, vL, bX, trivial⟩)
 refine U.pg 5 12 false 28 hb20 T rfl rfl rfl rfl ?_
 obtain ⟨x21, hx21, hm⟩ := hm
 refine U.r rfl (.take 12 false 28 _ hb20 rfl rfl rfl) rfl rfl (by exact Rd.ix T rfl rfl rfl rfl rfl rfl hx21) ?_
 refine U.pg 2 12 false 28 hb20 T rfl rfl rfl rfl ?_
 refine U.r rfl (.none rfl) rfl rfl (by exact Rd.pk' rfl rfl hb20 rfl) ?_
 refine U.ps 1 T rfl ?_
 refine hm.cs (fun hb22 hm => ?_) (fun hb22 hm => ?_)
 refine U.sks 8 22 false 38 hb22 rfl rfl rfl ?_
 refine U.r rfl (.none rfl) rfl rfl (by exact Rd.pk rfl rfl hb22 rfl) ?_
 refine U.done ?_
 exact St.wk (hJ18 _ hm) (Wk.f [some 0, some 1, some 2, some 3] ⟨bX, bX, vL, bX, trivial⟩)
 refine U.pg 6 22 false 38 hb22 T rfl rfl rfl rfl ?_
 refine U.e rfl (.take 22 false 38 _ hb22 rfl rfl rfl) (by exact Eff.k (T_body_within x16.Load (-1) (w64 ((st.Shelves.length : Int) - 1)) _ hm) en71 rfl rfl rfl (.eq rfl) (fun _ _ => ⟨(.v _), trivial⟩)) (fun x23' hm => ?_)
 obtain ⟨x23⟩ := x23'
 refine U.pg 1 22 false 38 hb22 T rfl rfl rfl rfl ?_
 refine U.r rfl (.none rfl) rfl rfl (by exact Rd.pk' rfl rfl hb22 rfl) ?_
 refine U.done ?_
 exact St.wk (hJ18 _ hm) (Wk.f [some 0, some 1, some 2, some 3] ⟨bX, bX, vL, bX, trivial⟩)
 refine C.exit (C.ex (C.ex (C.bex ?_)))
 exact St.wk (hJ8 _ hm) (Wk.mk' [] rfl rfl trivial trivial rfl)
theorem T_body_on (f : ApiFloor) (c : Int) (kinds : List Int) (post : Bool → Prop) (hm : V_body_on f c kinds post) :
    Tr Tryz.prog 75 [.agg (eApiFloor f), .i c, .sl 1 eI kinds] [] 0 (fun A H' k => ∃ y, post y ∧ A = (.b y) ∧ H' = [] ∧ k = 0) := by
 refine Tr.intro (n := 25) Tryz.func75 rfl Tryz.ntmps75 rfl (fun w0 ok F β hβ => ?_)
 unfold V_body_on at hm
 refine C.seq (U.start ?_)
 refine U.e1 rfl (.none rfl) (by exact Eff1.box rfl rfl rfl rfl rfl) ?_
 refine U.ps 1 T rfl ?_
 refine U.done (C.nx (C.seq ?_))
 refine C.jn (fun (x3 : Bool) => [(6, .b x3)]) (fun (x3 : Bool) => []) 0 hm (fun x3 hm => ?_) (fun J4 hm hJ4 => ?_)
 refine C.nx (C.ret ?_)
 exact C.f0 T (rs' := [.b x3]) hβ ⟨x3, hm, rfl, rfl, rfl⟩
 refine U.start ?_
 refine U.ps 3 T rfl ?_
 refine hm.cs (fun hb5 hm => ?_) (fun hb5 hm => ?_)
 refine U.pg 5 2 true 9 hb5 T rfl rfl rfl rfl ?_
 refine U.r rfl (.none rfl) rfl rfl (by exact Rd.pk rfl rfl hb5 rfl) ?_
 refine U.ps 1 T rfl ?_
 refine hm.cs (fun hb6 hm => ?_) (fun hb6 hm => ?_)
 refine U.pg 4 9 true 16 hb6 T rfl rfl rfl rfl ?_
 obtain ⟨x7, hx7, hm⟩ := hm
 refine U.r rfl (.take 9 true 16 _ hb6 rfl rfl rfl) rfl rfl (by exact Rd.ix T rfl rfl rfl rfl rfl rfl hx7) ?_
 refine U.pg 1 9 true 16 hb6 T rfl rfl rfl rfl ?_
 refine U.e rfl (.take 9 true 16 _ hb6 rfl rfl rfl) (by exact Eff.k (T_slices_Contains_int_int kinds x7 _ hm) en94 rfl rfl rfl (.eq rfl) (fun _ _ => ⟨(.v _), trivial⟩)) (fun x8' hm => ?_)
 obtain ⟨x8⟩ := x8'
 refine U.r rfl (.none rfl) rfl rfl (by exact Rd.pk rfl rfl hb6 rfl) ?_
 refine U.ps 1 T rfl ?_
 refine U.done ?_
 exact St.wk (hJ4 _ hm) (Wk.e)
 refine U.sks 7 9 true 16 hb6 rfl rfl rfl ?_
 refine U.r rfl (.none rfl) rfl rfl (by exact Rd.pk' rfl rfl hb6 rfl) ?_
 refine U.ps 1 T rfl ?_
 refine U.done ?_
 exact St.wk (hJ4 _ hm) (Wk.e)
 refine U.sks 5 2 true 9 hb5 rfl rfl rfl ?_
 refine U.r rfl (.none rfl) rfl rfl (by exact Rd.pk' rfl rfl hb5 rfl) ?_
 refine U.ps 1 T rfl ?_
 refine U.sks 7 9 true 16 rfl rfl rfl rfl ?_
 refine U.r rfl (.none rfl) rfl rfl (by exact Rd.pk' rfl rfl rfl rfl) ?_
 refine U.ps 1 T rfl ?_
 refine U.done ?_
 exact St.wk (hJ4 _ hm) (Wk.e)
theorem T_body_rest (f : ApiFloor) (st : ApiState) (post : Bool → Prop) (hm : V_body_rest f st post) :
    Tr Tryz.prog 73 [.agg (eApiFloor f), .agg (eApiState st)] [] 0 (fun A H' k => ∃ y, post y ∧ A = (.b y) ∧ H' = [] ∧ k = 0) := by
 refine Tr.intro (n := 78) Tryz.func73 rfl Tryz.ntmps73 rfl (fun w0 ok F β hβ => ?_)
 unfold V_body_rest at hm
 refine C.seq (U.start ?_)
 refine U.e1 rfl (.none rfl) (by exact Eff1.box rfl rfl rfl rfl rfl) ?_
 refine U.e1 rfl (.none rfl) (by exact Eff1.box rfl rfl rfl rfl rfl) ?_
 refine U.ps 1 T rfl ?_
 refine U.done (C.nx (C.seq (C.seq (U.start ?_))))
 refine U.ps 4 T rfl ?_
 refine U.done (C.nx ?_)
 refine C.jn (fun (x5 : Unit) => [(2, .p 0 0), (3, .p 1 0)]) (fun (x5 : Unit) => [(0, .box (eApiFloor f)), (1, .box (eApiState st))]) 2 hm (fun x5 hm => ?_) (fun J6 hm hJ6 => ?_)
 refine C.nx (C.seq (C.seq (U.start ?_)))
 refine U.ps 4 T rfl ?_
 refine U.done (C.nx ?_)
 refine C.jn (fun (x28 : Unit) => []) (fun (x28 : Unit) => []) 0 hm (fun x28 hm => ?_) (fun J29 hm hJ29 => ?_)
 refine C.nx (C.seq (U.start ?_))
 refine U.ps 1 T rfl ?_
 refine U.done (C.nx (C.ret ?_))
 exact C.f0 T (rs' := [.b true]) hβ ⟨true, hm, rfl, rfl, rfl⟩
 refine C.block ?_
 refine St.wk (C.loop (fun (s30 : Int) => [(2, .p 0 0), (3, .p 1 0), (42, .sl 2 eApiStuck st.Stuck), (43, .i (st.Stuck.length : Int)), (44, .i s30)]) (fun (s30 : Int) => [(0, .box (eApiFloor f)), (1, .box (eApiState st))]) hm (fun s30 Y31 hm => ?_)) (Wk.f [some 0, some 1] ⟨bX, bX, trivial⟩)
 refine C.seq (U.start ?_)
 refine U.ps 1 T rfl ?_
 refine U.done (C.nx (C.seq ?_))
 refine C.ite rfl hm (fun hb34 hm => ?_) (fun hb34 hm => ?_)
 refine C.skip (C.nx (C.seq (C.block (C.seq (U.start ?_)))))
 refine U.ps 1 T rfl ?_
 obtain ⟨x37, hx37, hm⟩ := hm
 refine U.r rfl (.none rfl) rfl rfl (by exact Rd.ix T rfl rfl rfl rfl rfl rfl hx37) ?_
 refine U.ps 1 T rfl ?_
 refine U.e1 rfl (.none rfl) (by exact Eff1.al T rfl rfl rfl rfl) ?_
 refine U.ps 1 T rfl ?_
 refine U.e1 rfl (.none rfl) (by exact Eff1.st T rfl rfl rfl rfl rfl rfl rfl rfl rfl rfl) ?_
 refine U.done (C.nx (C.seq ?_))
 refine C.jn (fun (x38 : Bool) => [(2, .p 0 0), (3, .p 1 0), (42, .sl 2 eApiStuck st.Stuck), (43, .i (st.Stuck.length : Int)), (44, .i s30), (76, .b x38)]) (fun (x38 : Bool) => [(0, .box (eApiFloor f)), (1, .box (eApiState st))]) 2 hm (fun x38 hm => ?_) (fun J39 hm hJ39 => ?_)
 refine C.nx ?_
 refine C.ite rfl hm (fun hb46 hm => ?_) (fun hb46 hm => ?_)
 refine C.seq (U.start ?_)
 refine U.ps 1 T rfl ?_
 refine U.done (C.nx (C.ret (C.brt (C.rt (C.rt (C.brt (C.rt ?_)))))))
 exact C.f0 T (rs' := [.b false]) hβ ⟨false, hm, rfl, rfl, rfl⟩
 refine C.skip (C.bnx (C.nx (U.start ?_)))
 refine U.ps 2 T rfl ?_
 refine U.done (C.nx ?_)
 exact St.wk (C.next hm) (Wk.f [some 0, some 1] ⟨bX, bX, trivial⟩)
 refine D.beg 9999 [0, 1, 2] [] mix rfl rfl (by kernel_rfl) (by repeat (first | exact NoPanicQ.body | exact NoPanicQ.rnd | refine NoPanicQ.th ?_ | refine NoPanicQ.blk ?_)) (fun hQ hS ws M' => ?_)
 refine D.ps 3 [(0, []), (1, []), (2, [])] rfl hQ hS T rfl rfl (by kernel_rfl) ?_
 refine D.e1 3 rfl (.none rfl) (by exact Eff1.bs T (enc := eI) (xs := ([6] : List Int)) rfl rfl rfl rfl rfl rfl rfl rfl rfl rfl (fun _ _ => rfl) rfl rfl) (by kernel_rfl) rfl rfl ?_
 refine D.e 4 rfl (.none rfl) (by exact Eff.k (T_body_on f x37.Cell ([6] : List Int) _ hm) en75 rfl rfl rfl (.cons (.eq rfl) (.cons (.eq rfl) (.cons (.fz rfl rfl rfl (.os fun _ => .cons (.ro rfl) .nil)) .nil))) (fun _ _ => ⟨(.v _), trivial⟩)) (by kernel_rfl) rfl rfl (fun x40' hm => ?_)
 obtain ⟨x40⟩ := x40'
 refine D.ps 2 [(5, []), (6, [])] rfl hQ hS T rfl rfl (by kernel_rfl) ?_
 refine hm.cs (fun hb41 hm => ?_) (fun hb41 hm => ?_)
 refine D.q 7 [] hQ hS rfl (.take 6 false 55 _ (ntF hb41) rfl rfl rfl) rfl rfl (by exact Rd.p T rfl) rfl (by kernel_rfl) ?_
 refine D.q 8 [] hQ hS rfl (.take 6 false 55 _ (ntF hb41) rfl rfl rfl) rfl rfl (by exact Rd.l T rfl rfl rfl) rfl (by kernel_rfl) ?_
 refine D.e 9 rfl (.take 6 false 55 _ (ntF hb41) rfl rfl rfl) (by exact Eff.k (T_body_within x37.Left 1 20000 _ hm) en71 rfl rfl rfl (.eq rfl) (fun _ _ => ⟨(.v _), trivial⟩)) (by kernel_rfl) rfl rfl (fun x42' hm => ?_)
 obtain ⟨x42⟩ := x42'
 refine D.q 10 [] hQ hS rfl (.take 6 false 55 _ (ntF hb41) rfl rfl rfl) rfl rfl (by exact Rd.p T rfl) rfl (by kernel_rfl) ?_
 refine D.q 11 [] hQ hS rfl (.none rfl) rfl rfl (by exact Rd.pk' rfl rfl (ntF hb41) rfl) rfl (by kernel_rfl) ?_
 refine D.ps 1 [(12, [])] rfl hQ hS T rfl rfl (by kernel_rfl) ?_
 refine hm.cs (fun hb43 hm => ?_) (fun hb43 hm => ?_)
 refine D.q 13 [] hQ hS rfl (.take 12 false 61 _ (ntF hb43) rfl rfl rfl) rfl rfl (by exact Rd.p T rfl) rfl (by kernel_rfl) ?_
 refine D.q 14 [] hQ hS rfl (.take 12 false 61 _ (ntF hb43) rfl rfl rfl) rfl rfl (by exact Rd.p T rfl) rfl (by kernel_rfl) ?_
 refine D.q 15 [] hQ hS rfl (.take 12 false 61 _ (ntF hb43) rfl rfl rfl) rfl rfl (by exact Rd.p T rfl) rfl (by kernel_rfl) ?_
 refine hm.cs (fun hb44 hm => ?_) (fun hb44 hm => ?_)
 refine D.q 16 [] hQ hS rfl (.take 15 true 64 _ hb44 rfl rfl rfl) rfl rfl (by exact Rd.p T rfl) rfl (by kernel_rfl) ?_
 refine D.q 17 [] hQ hS rfl (.take 15 true 64 _ hb44 rfl rfl rfl) rfl rfl (by exact Rd.l T rfl rfl rfl) rfl (by kernel_rfl) ?_
 refine D.q 18 [] hQ hS rfl (.take 15 true 64 _ hb44 rfl rfl rfl) rfl rfl (by exact Rd.p T rfl) rfl (by kernel_rfl) ?_
 refine D.q 19 [] hQ hS rfl (.take 15 true 64 _ hb44 rfl rfl rfl) rfl rfl (by exact Rd.l T rfl rfl rfl) rfl (by kernel_rfl) ?_
 refine D.q 20 [] hQ hS rfl (.take 15 true 64 _ hb44 rfl rfl rfl) rfl rfl (by exact Rd.p T rfl) rfl (by kernel_rfl) ?_
 refine D.q 21 [] hQ hS rfl (.take 15 true 64 _ hb44 rfl rfl rfl) rfl rfl (by exact Rd.p T rfl) rfl (by kernel_rfl) ?_
 obtain ⟨x45, hx45, hm⟩ := hm
 refine D.q 22 [] hQ hS rfl (.take 15 true 64 _ hb44 rfl rfl rfl) rfl rfl (by exact Rd.ix T rfl rfl rfl rfl rfl rfl hx45) rfl (by kernel_rfl) ?_
 refine D.q 23 [] hQ hS rfl (.take 15 true 64 _ hb44 rfl rfl rfl) rfl rfl (by exact Rd.p T rfl) rfl (by kernel_rfl) ?_
 refine D.q 24 [] hQ hS rfl (.take 15 true 64 _ hb44 rfl rfl rfl) rfl rfl (by exact Rd.l T rfl rfl rfl) rfl (by kernel_rfl) ?_
 refine D.q 25 [] hQ hS rfl (.take 15 true 64 _ hb44 rfl rfl rfl) rfl rfl (by exact Rd.p T rfl) rfl (by kernel_rfl) ?_
 refine D.q 26 [] hQ hS rfl (.take 12 false 61 _ (ntF hb43) rfl rfl rfl) rfl rfl (by exact Rd.pk rfl rfl hb44 rfl) rfl (by kernel_rfl) ?_
 refine D.q 27 [] hQ hS rfl (.none rfl) rfl rfl (by exact Rd.pk' rfl rfl (ntF hb43) rfl) rfl (by kernel_rfl) ?_
 refine D.done (by kernel_rfl) ?_
 exact St.wk (hJ39 _ hm) (Wk.f [some 0, some 1] ⟨bX, bX, trivial⟩)
 refine D.sq 16 [] hQ hS rfl (.skip 15 true 64 _ hb44 rfl rfl rfl) rfl rfl (by kernel_rfl) ?_
 refine D.sq 17 [] hQ hS rfl (.skip 15 true 64 _ hb44 rfl rfl rfl) rfl rfl (by kernel_rfl) ?_
 refine D.sq 18 [] hQ hS rfl (.skip 15 true 64 _ hb44 rfl rfl rfl) rfl rfl (by kernel_rfl) ?_
 refine D.sq 19 [] hQ hS rfl (.skip 15 true 64 _ hb44 rfl rfl rfl) rfl rfl (by kernel_rfl) ?_
 refine D.sq 20 [] hQ hS rfl (.skip 15 true 64 _ hb44 rfl rfl rfl) rfl rfl (by kernel_rfl) ?_
 refine D.sq 21 [] hQ hS rfl (.skip 15 true 64 _ hb44 rfl rfl rfl) rfl rfl (by kernel_rfl) ?_
 refine D.sq 22 [] hQ hS rfl (.skip 15 true 64 _ hb44 rfl rfl rfl) rfl rfl (by kernel_rfl) ?_
 refine D.sq 23 [] hQ hS rfl (.skip 15 true 64 _ hb44 rfl rfl rfl) rfl rfl (by kernel_rfl) ?_
 refine D.sq 24 [] hQ hS rfl (.skip 15 true 64 _ hb44 rfl rfl rfl) rfl rfl (by kernel_rfl) ?_
 refine D.sq 25 [] hQ hS rfl (.skip 15 true 64 _ hb44 rfl rfl rfl) rfl rfl (by kernel_rfl) ?_
 refine D.q 26 [] hQ hS rfl (.take 12 false 61 _ (ntF hb43) rfl rfl rfl) rfl rfl (by exact Rd.pk' rfl rfl hb44 rfl) rfl (by kernel_rfl) ?_
 refine D.q 27 [] hQ hS rfl (.none rfl) rfl rfl (by exact Rd.pk' rfl rfl (ntF hb43) rfl) rfl (by kernel_rfl) ?_
 refine D.done (by kernel_rfl) ?_
 exact St.wk (hJ39 _ hm) (Wk.f [some 0, some 1] ⟨bX, bX, trivial⟩)
 refine D.sq 13 [] hQ hS rfl (.skip 12 false 61 _ (ntT hb43) rfl rfl rfl) rfl rfl (by kernel_rfl) ?_
 refine D.sq 14 [] hQ hS rfl (.skip 12 false 61 _ (ntT hb43) rfl rfl rfl) rfl rfl (by kernel_rfl) ?_
 refine D.sq 15 [] hQ hS rfl (.skip 12 false 61 _ (ntT hb43) rfl rfl rfl) rfl rfl (by kernel_rfl) ?_
 refine D.sq 16 [] hQ hS rfl (.und 15 true 64 rfl rfl rfl) rfl rfl (by kernel_rfl) ?_
 refine D.sq 17 [] hQ hS rfl (.und 15 true 64 rfl rfl rfl) rfl rfl (by kernel_rfl) ?_
 refine D.sq 18 [] hQ hS rfl (.und 15 true 64 rfl rfl rfl) rfl rfl (by kernel_rfl) ?_
 refine D.sq 19 [] hQ hS rfl (.und 15 true 64 rfl rfl rfl) rfl rfl (by kernel_rfl) ?_
 refine D.sq 20 [] hQ hS rfl (.und 15 true 64 rfl rfl rfl) rfl rfl (by kernel_rfl) ?_
 refine D.sq 21 [] hQ hS rfl (.und 15 true 64 rfl rfl rfl) rfl rfl (by kernel_rfl) ?_
 refine D.sq 22 [] hQ hS rfl (.und 15 true 64 rfl rfl rfl) rfl rfl (by kernel_rfl) ?_
 refine D.sq 23 [] hQ hS rfl (.und 15 true 64 rfl rfl rfl) rfl rfl (by kernel_rfl) ?_
 refine D.sq 24 [] hQ hS rfl (.und 15 true 64 rfl rfl rfl) rfl rfl (by kernel_rfl) ?_
 refine D.sq 25 [] hQ hS rfl (.und 15 true 64 rfl rfl rfl) rfl rfl (by kernel_rfl) ?_
 refine D.sq 26 [] hQ hS rfl (.skip 12 false 61 _ (ntT hb43) rfl rfl rfl) rfl rfl (by kernel_rfl) ?_
 refine D.q 27 [] hQ hS rfl (.none rfl) rfl rfl (by exact Rd.pk rfl rfl (ntT hb43) rfl) rfl (by kernel_rfl) ?_
 refine D.done (by kernel_rfl) ?_
 exact St.wk (hJ39 _ hm) (Wk.f [some 0, some 1] ⟨bX, bX, trivial⟩)
 refine D.sq 7 [] hQ hS rfl (.skip 6 false 55 _ (ntT hb41) rfl rfl rfl) rfl rfl (by kernel_rfl) ?_
 refine D.sq 8 [] hQ hS rfl (.skip 6 false 55 _ (ntT hb41) rfl rfl rfl) rfl rfl (by kernel_rfl) ?_
 refine D.sq 9 [] hQ hS rfl (.skip 6 false 55 _ (ntT hb41) rfl rfl rfl) rfl rfl (by kernel_rfl) ?_
 refine D.sq 10 [] hQ hS rfl (.skip 6 false 55 _ (ntT hb41) rfl rfl rfl) rfl rfl (by kernel_rfl) ?_
 refine D.q 11 [] hQ hS rfl (.none rfl) rfl rfl (by exact Rd.pk rfl rfl (ntT hb41) rfl) rfl (by kernel_rfl) ?_
 refine D.ps 1 [(12, [])] rfl hQ hS T rfl rfl (by kernel_rfl) ?_
 refine D.sq 13 [] hQ hS rfl (.skip 12 false 61 _ rfl rfl rfl rfl) rfl rfl (by kernel_rfl) ?_
 refine D.sq 14 [] hQ hS rfl (.skip 12 false 61 _ rfl rfl rfl rfl) rfl rfl (by kernel_rfl) ?_
 refine D.sq 15 [] hQ hS rfl (.skip 12 false 61 _ rfl rfl rfl rfl) rfl rfl (by kernel_rfl) ?_
 refine D.sq 16 [] hQ hS rfl (.und 15 true 64 rfl rfl rfl) rfl rfl (by kernel_rfl) ?_
 refine D.sq 17 [] hQ hS rfl (.und 15 true 64 rfl rfl rfl) rfl rfl (by kernel_rfl) ?_
 refine D.sq 18 [] hQ hS rfl (.und 15 true 64 rfl rfl rfl) rfl rfl (by kernel_rfl) ?_
 refine D.sq 19 [] hQ hS rfl (.und 15 true 64 rfl rfl rfl) rfl rfl (by kernel_rfl) ?_
 refine D.sq 20 [] hQ hS rfl (.und 15 true 64 rfl rfl rfl) rfl rfl (by kernel_rfl) ?_
 refine D.sq 21 [] hQ hS rfl (.und 15 true 64 rfl rfl rfl) rfl rfl (by kernel_rfl) ?_
 refine D.sq 22 [] hQ hS rfl (.und 15 true 64 rfl rfl rfl) rfl rfl (by kernel_rfl) ?_
 refine D.sq 23 [] hQ hS rfl (.und 15 true 64 rfl rfl rfl) rfl rfl (by kernel_rfl) ?_
 refine D.sq 24 [] hQ hS rfl (.und 15 true 64 rfl rfl rfl) rfl rfl (by kernel_rfl) ?_
 refine D.sq 25 [] hQ hS rfl (.und 15 true 64 rfl rfl rfl) rfl rfl (by kernel_rfl) ?_
 refine D.sq 26 [] hQ hS rfl (.skip 12 false 61 _ rfl rfl rfl rfl) rfl rfl (by kernel_rfl) ?_
 refine D.q 27 [] hQ hS rfl (.none rfl) rfl rfl (by exact Rd.pk rfl rfl rfl rfl) rfl (by kernel_rfl) ?_
 refine D.done (by kernel_rfl) ?_
 exact St.wk (hJ39 _ hm) (Wk.f [some 0, some 1] ⟨bX, bX, trivial⟩)
 refine C.exit (C.ex (C.ex (C.bex ?_)))
 exact St.wk (hJ29 _ hm) (Wk.mk' [] rfl rfl trivial trivial rfl)
 refine C.block ?_
 refine St.wk (C.loop (fun (s7 : Int) => [(2, .p 0 0), (3, .p 1 0), (10, .sl 1 eI st.Dead), (11, .i (st.Dead.length : Int)), (12, .i s7)]) (fun (s7 : Int) => [(0, .box (eApiFloor f)), (1, .box (eApiState st))]) hm (fun s7 Y8 hm => ?_)) (Wk.f [some 0, some 1] ⟨bX, bX, trivial⟩)
 refine C.seq (U.start ?_)
 refine U.ps 1 T rfl ?_
 refine U.done (C.nx (C.seq ?_))
 refine C.ite rfl hm (fun hb11 hm => ?_) (fun hb11 hm => ?_)
 refine C.skip (C.nx (C.seq (C.block (C.seq (U.start ?_)))))
 refine U.ps 1 T rfl ?_
 obtain ⟨x14, hx14, hm⟩ := hm
 refine U.r rfl (.none rfl) rfl rfl (by exact Rd.ix T rfl rfl rfl rfl rfl rfl hx14) ?_
 refine U.ps 3 T rfl ?_
 refine U.done (C.nx (C.seq ?_))
 refine C.jn (fun (x15 : Bool) => [(2, .p 0 0), (3, .p 1 0), (10, .sl 1 eI st.Dead), (11, .i (st.Dead.length : Int)), (12, .i s7), (39, .b x15)]) (fun (x15 : Bool) => [(0, .box (eApiFloor f)), (1, .box (eApiState st))]) 2 hm (fun x15 hm => ?_) (fun J16 hm hJ16 => ?_)
 refine C.nx ?_
 refine C.ite rfl hm (fun hb21 hm => ?_) (fun hb21 hm => ?_)
 refine C.seq (U.start ?_)
 refine U.ps 1 T rfl ?_
 refine U.done (C.nx (C.ret (C.brt (C.rt (C.rt (C.brt (C.rt ?_)))))))
 exact C.f0 T (rs' := [.b false]) hβ ⟨false, hm, rfl, rfl, rfl⟩
 refine C.skip (C.bnx (C.nx (U.start ?_)))
 refine U.ps 2 T rfl ?_
 refine U.done (C.nx ?_)
 exact St.wk (C.next hm) (Wk.f [some 0, some 1] ⟨bX, bX, trivial⟩)
 refine U.start ?_
 refine U.ps 3 T rfl ?_
 refine hm.cs (fun hb17 hm => ?_) (fun hb17 hm => ?_)
 refine U.sks 5 2 false 19 hb17 rfl rfl rfl ?_
 refine U.r rfl (.none rfl) rfl rfl (by exact Rd.pk rfl rfl hb17 rfl) ?_
 refine U.ps 1 T rfl ?_
 refine U.sks 3 9 false 26 rfl rfl rfl rfl ?_
 refine U.sku 8 12 true 29 rfl rfl rfl ?_
 refine U.sks 1 9 false 26 rfl rfl rfl rfl ?_
 refine U.r rfl (.none rfl) rfl rfl (by exact Rd.pk rfl rfl rfl rfl) ?_
 refine U.done ?_
 exact St.wk (hJ16 _ hm) (Wk.f [some 0, some 1] ⟨bX, bX, trivial⟩)
 refine U.pg 5 2 false 19 hb17 T rfl rfl rfl rfl ?_
 refine U.r rfl (.none rfl) rfl rfl (by exact Rd.pk' rfl rfl hb17 rfl) ?_
 refine U.ps 1 T rfl ?_
 refine hm.cs (fun hb18 hm => ?_) (fun hb18 hm => ?_)
 refine U.sks 3 9 false 26 hb18 rfl rfl rfl ?_
 refine U.sku 8 12 true 29 rfl rfl rfl ?_
 refine U.sks 1 9 false 26 hb18 rfl rfl rfl ?_
 refine U.r rfl (.none rfl) rfl rfl (by exact Rd.pk rfl rfl hb18 rfl) ?_
 refine U.done ?_
 exact St.wk (hJ16 _ hm) (Wk.f [some 0, some 1] ⟨bX, bX, trivial⟩)
 refine U.pg 3 9 false 26 hb18 T rfl rfl rfl rfl ?_
 refine hm.cs (fun hb19 hm => ?_) (fun hb19 hm => ?_)
 refine U.pg 5 12 true 29 hb19 T rfl rfl rfl rfl ?_
 obtain ⟨x20, hx20, hm⟩ := hm
 refine U.r rfl (.take 12 true 29 _ hb19 rfl rfl rfl) rfl rfl (by exact Rd.ix T rfl rfl rfl rfl rfl rfl hx20) ?_
 refine U.pg 2 12 true 29 hb19 T rfl rfl rfl rfl ?_
 refine U.r rfl (.take 9 false 26 _ hb18 rfl rfl rfl) rfl rfl (by exact Rd.pk rfl rfl hb19 rfl) ?_
 refine U.r rfl (.none rfl) rfl rfl (by exact Rd.pk' rfl rfl hb18 rfl) ?_
 refine U.done ?_
 exact St.wk (hJ16 _ hm) (Wk.f [some 0, some 1] ⟨bX, bX, trivial⟩)
 refine U.sks 8 12 true 29 hb19 rfl rfl rfl ?_
 refine U.r rfl (.take 9 false 26 _ hb18 rfl rfl rfl) rfl rfl (by exact Rd.pk' rfl rfl hb19 rfl) ?_
 refine U.r rfl (.none rfl) rfl rfl (by exact Rd.pk' rfl rfl hb18 rfl) ?_
 refine U.done ?_
 exact St.wk (hJ16 _ hm) (Wk.f [some 0, some 1] ⟨bX, bX, trivial⟩)
 refine C.exit (C.ex (C.ex (C.bex ?_)))
 exact St.wk (hJ6 _ hm) (Wk.f [some 0, some 1] ⟨bX, bX, trivial⟩)
theorem T_slices_Values_int_int (s_1 : List Int) (post : (List Int) → Prop) (hm : V_slices_Values_int_int s_1 post) :
    Tr Tryz.prog 132 [.sl 1 eI s_1] [] 0 (fun A H' k => ∃ y, post y ∧ A = (.fn (.func 165) [] [.p 0 0]) ∧ H' = [(0, .box [.sl 1 eI y])] ∧ k = 1) := by
 refine Tr.intro (n := 4) Tryz.func132 rfl Tryz.ntmps132 rfl (fun w0 ok F β hβ => ?_)
 unfold V_slices_Values_int_int at hm
 refine C.seq (U.start ?_)
 refine U.e1 rfl (.none rfl) (by exact Eff1.box rfl rfl rfl rfl rfl) ?_
 refine U.ps 1 T rfl ?_
 refine U.done (C.nx (C.seq (U.start ?_)))
 refine U.ps 2 T rfl ?_
 refine U.done (C.nx (C.ret ?_))
 exact C.fin T (rs' := [.fn (.func 165) [] [.p 0 0]]) (H' := [(0, .box [.sl 1 eI (s_1)])]) (nl' := 1) [some 0] rfl rfl (.eq rfl) ⟨bX, trivial⟩ rfl rfl rfl rfl hβ ⟨(s_1), hm, rfl, rfl, rfl⟩
theorem T_slices_AppendSeq_int_int__o0_slices_Values_int_int_1 (seq_c0 : List Int) (s_1 : List Int) (post : (List Int) → Prop) (hm : V_slices_AppendSeq_int_int__o0_slices_Values_int_int_1 seq_c0 s_1 post) :
    Tr Tryz.prog 176 [.o 0, .fn (.func 165) [] [.rp [.sl 1 eI seq_c0]]] [(0, .val (.os 1 eI s_1))] 1 (fun A H' k => ∃ y, post y ∧ A = (.o 1) ∧ H' = [(1, .val (.os 1 eI y))] ∧ k = 2) := by
 refine Tr.intro (n := 13) Tryz.func176 rfl Tryz.ntmps176 rfl (fun w0 ok F β hβ => ?_)
 unfold V_slices_AppendSeq_int_int__o0_slices_Values_int_int_1 at hm
 refine C.seq (U.start ?_)
 refine U.e1 rfl (.none rfl) (by exact Eff1.box rfl rfl rfl rfl rfl) ?_
 refine U.ps 1 T rfl ?_
 refine U.done (C.nx (C.seq (C.seq (U.start ?_))))
 refine U.ps 1 T rfl ?_
 refine U.done (C.nx (C.block ?_))
 obtain ⟨hx8, hm⟩ := hm
 refine St.wk (C.range (Γ0 := [(2, .p 1 0), (6, .fn (.func 165) [] [.rp [.sl 1 eI seq_c0]])]) (Γ1 := fun (x5 : Int) => [(5, .i x5), (7, .i x5), (2, .p 1 0), (6, .fn (.func 165) [] [.rp [.sl 1 eI seq_c0]])]) (Hf := fun (s6 : List Int) => [(1, .box [.o 2]), (2, .val (.os 1 eI s6))]) 2 hm (it165 seq_c0 hx8) en165 rfl rfl rfl rfl rfl (fun _ => rfl) rfl rfl (fun _ => rfl) (fun x5 s6 Y7 hm w0 ok M β l => ?_) (fun s12 hm => ?_)) (Wk.f [some 0, some 1, some 0] ⟨bX, vL, trivial⟩)
 refine CI.block ?_
 refine UI.start (by kernel_rfl) (by repeat (first | exact NoOut.rnd | refine NoOut.th ?_ | refine NoOut.blk ?_)) ?_
 refine U.ps 2 T rfl ?_
 refine U.e1 rfl (.none rfl) (by exact Eff1.bs T (enc := eI) (xs := ([x5] : List Int)) rfl rfl rfl rfl rfl rfl rfl rfl rfl rfl (fun _ _ => rfl) rfl rfl) ?_
 obtain ⟨hx11, hm⟩ := hm
 refine U.e1 rfl (.none rfl) (by exact Eff1.ap T rfl rfl rfl rfl rfl rfl (.inr ⟨_, rfl, rfl⟩) rfl rfl rfl (fun _ => rfl) rfl hx11) ?_
 refine U.e1 rfl (.none rfl) (by exact Eff1.st T rfl rfl rfl rfl rfl rfl rfl rfl rfl rfl) ?_
 refine U.done (C.bnx ?_)
 exact St.wk (CI.next hm) (Wk.mk' [some 0, some 1, some 4] rfl rfl trivial ⟨bX, vL, trivial⟩ rfl)
 refine C.bnx (C.nx (C.seq (U.start ?_)))
 refine U.ps 2 T rfl ?_
 refine U.done (C.nx (C.ret ?_))
 exact C.fin T (rs' := [.o 1]) (H' := [(1, .val (.os 1 eI s12))]) (nl' := 2) [some 0, some 2] rfl rfl (.eq rfl) ⟨vL, trivial⟩ rfl rfl rfl rfl hβ ⟨s12, hm, rfl, rfl, rfl⟩
theorem T_slices_Collect_int__slices_Values_int_int_1 (seq_c0 : List Int) (post : (List Int) → Prop) (hm : V_slices_Collect_int__slices_Values_int_int_1 seq_c0 post) :
    Tr Tryz.prog 164 [.fn (.func 165) [] [.rp [.sl 1 eI seq_c0]]] [] 0 (fun A H' k => ∃ y, post y ∧ A = (.o 0) ∧ H' = [(0, .val (.os 1 eI y))] ∧ k = 1) := by
 refine Tr.intro (n := 5) Tryz.func164 rfl Tryz.ntmps164 rfl (fun w0 ok F β hβ => ?_)
 unfold V_slices_Collect_int__slices_Values_int_int_1 at hm
 refine C.seq (U.start ?_)
 refine U.ps 1 T rfl ?_
 refine U.done (C.nx (C.seq (U.start ?_)))
 refine U.ps 1 T rfl ?_
 refine U.e rfl (.none rfl) (by exact Eff.c [none] (v := false) (T_slices_AppendSeq_int_int__o0_slices_Values_int_int_1 seq_c0 [] _ hm) en176 rfl rfl rfl (.cons (.nilO _ _ ⟨rfl, rfl⟩ rfl) (.eq rfl)) ⟨⟨_, rfl, .nil _ _⟩, trivial⟩ rfl rfl rfl rfl rfl rfl (fun h => by cases h) (.inl rfl) (fun _ => rfl) (fun _ => rfl) rfl) (fun x5' hm => ?_)
 obtain ⟨x5⟩ := x5'
 refine U.ps 1 T rfl ?_
 refine U.done (C.nx (C.ret ?_))
 exact C.fin T (rs' := [.o 0]) (H' := [(0, .val (.os 1 eI x5))]) (nl' := 1) [some 1] rfl rfl (.eq rfl) ⟨vL, trivial⟩ rfl rfl rfl rfl hβ ⟨x5, hm, rfl, rfl, rfl⟩
theorem T_slices_Sorted_int__slices_Values_int_int_1 (seq_c0 : List Int) (post : (List Int) → Prop) (hm : V_slices_Sorted_int__slices_Values_int_int_1 seq_c0 post) :
    Tr Tryz.prog 131 [.fn (.func 165) [] [.rp [.sl 1 eI seq_c0]]] [] 0 (fun A H' k => ∃ y, post y ∧ A = (.o 0) ∧ H' = [(0, .val (.os 1 eI y))] ∧ k = 1) := by
 refine Tr.intro (n := 9) Tryz.func131 rfl Tryz.ntmps131 rfl (fun w0 ok F β hβ => ?_)
 unfold V_slices_Sorted_int__slices_Values_int_int_1 at hm
 refine C.seq (U.start ?_)
 refine U.ps 1 T rfl ?_
 refine U.done (C.nx (C.seq (U.start ?_)))
 refine U.ps 1 T rfl ?_
 refine U.e rfl (.none rfl) (by exact Eff.c [] (v := true) (T_slices_Collect_int__slices_Values_int_int_1 seq_c0 _ hm) en164 rfl rfl rfl (.eq rfl) trivial rfl rfl rfl rfl rfl rfl (fun _ _ => ⟨(.o _), ⟨.val (.os _ _ _ fun _ => (.cons (.v _) .nil)), trivial⟩⟩) (.inr ⟨rfl, rfl⟩) (fun _ => rfl) (fun _ => rfl) rfl) (fun x5' hm => ?_)
 obtain ⟨x5⟩ := x5'
 refine U.ps 1 T rfl ?_
 refine U.done (C.nx (C.seq (U.start ?_)))
 refine U.ps 1 T rfl ?_
 refine U.e rfl (.none rfl) (by exact Eff.c [some 0] (v := false) (T_slices_Sort_int_int__o0 x5 _ hm) en52 rfl rfl rfl (.eq rfl) ⟨vL, trivial⟩ rfl rfl rfl rfl rfl rfl (fun h => by cases h) (.inl rfl) (fun _ => rfl) (fun _ => rfl) rfl) (fun x8' hm => ?_)
 obtain ⟨x8⟩ := x8'
 refine U.done (C.nx (C.seq (U.start ?_)))
 refine U.ps 2 T rfl ?_
 refine U.done (C.nx (C.ret ?_))
 exact C.fin T (rs' := [.o 0]) (H' := [(0, .val (.os 1 eI x8))]) (nl' := 1) [some 0] rfl rfl (.eq rfl) ⟨vL, trivial⟩ rfl rfl rfl rfl hβ ⟨x8, hm, rfl, rfl, rfl⟩
theorem T_body_Clash (slots : List Int) (post : (Int × Bool) → Prop) (hm : V_body_Clash slots post) :
    Tr Tryz.prog 76 [.sl 1 eI slots] [] 0 (fun A H' k => ∃ y, post y ∧ A = (.tup [.i y.1, .b y.2]) ∧ H' = [] ∧ k = 0) := by
 refine Tr.intro (n := 29) Tryz.func76 rfl Tryz.ntmps76 rfl (fun w0 ok F β hβ => ?_)
 unfold V_body_Clash at hm
 refine C.seq (U.start ?_)
 refine U.ps 2 T rfl ?_
 refine U.done (C.nx (C.seq (U.start ?_)))
 refine U.ps 1 T rfl ?_
 refine U.e rfl (.none rfl) (by exact Eff.c [] (v := false) (T_slices_Values_int_int slots _ hm) en132 rfl rfl rfl (.eq rfl) trivial rfl rfl rfl rfl rfl rfl (fun h => by cases h) (.inr ⟨rfl, rfl⟩) (fun _ => rfl) (fun _ => rfl) rfl) (fun x5' hm => ?_)
 obtain ⟨x5⟩ := x5'
 refine U.e rfl (.none rfl) (by exact Eff.c [] (v := true) (T_slices_Sorted_int__slices_Values_int_int_1 x5 _ hm) en131 rfl rfl rfl (.cons (.fn (.eq rfl) (.cons (.fzp rfl rfl rfl rfl (.eq rfl) rfl) .nil)) .nil) trivial rfl rfl rfl rfl rfl rfl (fun _ _ => ⟨(.o _), ⟨.val (.os _ _ _ fun _ => (.cons (.v _) .nil)), trivial⟩⟩) (.inr ⟨rfl, rfl⟩) (fun _ => rfl) (fun _ => rfl) rfl) (fun x6' hm => ?_)
 obtain ⟨x6⟩ := x6'
 refine U.ps 1 T rfl ?_
 refine U.done (C.nx (C.seq (C.seq (U.start ?_))))
 refine U.ps 1 T rfl ?_
 refine U.done (C.nx ?_)
 refine C.jn (fun (x9 : Unit) => []) (fun (x9 : Unit) => []) 0 hm (fun x9 hm => ?_) (fun J10 hm hJ10 => ?_)
 refine C.nx (C.seq (U.start ?_))
 refine U.ps 2 T rfl ?_
 refine U.done (C.nx (C.ret ?_))
 exact C.f0 T (rs' := [.i ((0, false).1), .b ((0, false).2)]) hβ ⟨(0, false), hm, rfl, rfl, rfl⟩
 refine C.block ?_
 refine St.wk (C.loop (fun (s11 : Int) => [(4, .o 0), (5, .i s11)]) (fun (s11 : Int) => [(0, .val (.os 1 eI x6))]) hm (fun s11 Y12 hm => ?_)) (Wk.f [some 1] ⟨vL, trivial⟩)
 refine C.seq (C.seq (U.start ?_))
 refine U.ps 4 T rfl ?_
 refine U.done (C.nx ?_)
 refine C.ite rfl hm (fun hb15 hm => ?_) (fun hb15 hm => ?_)
 refine C.skip (C.nx (C.seq (C.block (C.seq ?_))))
 refine D.beg 9999 [0] [] mix rfl rfl (by kernel_rfl) (by repeat (first | exact NoPanicQ.body | exact NoPanicQ.rnd | refine NoPanicQ.th ?_ | refine NoPanicQ.blk ?_)) (fun hQ hS ws M' => ?_)
 refine D.ps 2 [(0, []), (1, [])] rfl hQ hS T rfl rfl (by kernel_rfl) ?_
 obtain ⟨x18, hx18, hm⟩ := hm
 refine D.q 2 [] hQ hS rfl (.none rfl) rfl rfl (by exact Rd.io T rfl rfl rfl rfl rfl rfl rfl hx18) rfl (by kernel_rfl) ?_
 refine D.q 3 [] hQ hS rfl (.none rfl) rfl rfl (by exact Rd.le T rfl rfl rfl (idx_some hx18).2.2 rfl rfl rfl) rfl (by kernel_rfl) ?_
 refine D.ps 3 [(4, []), (5, []), (6, [])] rfl hQ hS T rfl rfl (by kernel_rfl) ?_
 obtain ⟨x19, hx19, hm⟩ := hm
 refine D.q 7 [] hQ hS rfl (.none rfl) rfl rfl (by exact Rd.io T rfl rfl rfl rfl rfl rfl rfl hx19) rfl (by kernel_rfl) ?_
 refine D.q 8 [] hQ hS rfl (.none rfl) rfl rfl (by exact Rd.le T rfl rfl rfl (idx_some hx19).2.2 rfl rfl rfl) rfl (by kernel_rfl) ?_
 refine D.ps 1 [(9, [])] rfl hQ hS T rfl rfl (by kernel_rfl) ?_
 refine D.done (by kernel_rfl) ?_
 refine C.nx ?_
 refine C.ite rfl hm (fun hb20 hm => ?_) (fun hb20 hm => ?_)
 refine C.seq (U.start ?_)
 refine U.ps 2 T rfl ?_
 refine U.r rfl (.none rfl) rfl rfl (by exact Rd.io T rfl rfl rfl rfl rfl rfl rfl hx18) ?_
 refine U.r rfl (.none rfl) rfl rfl (by exact Rd.le T rfl rfl rfl (idx_some hx18).2.2 rfl rfl rfl) ?_
 refine U.ps 2 T rfl ?_
 refine U.done (C.nx (C.ret (C.brt (C.rt (C.rt (C.brt (C.rt ?_)))))))
 exact C.f0 T (rs' := [.i ((x18, true).1), .b ((x18, true).2)]) hβ ⟨(x18, true), hm, rfl, rfl, rfl⟩
 refine C.skip (C.bnx (C.nx (U.start ?_)))
 refine U.ps 3 T rfl ?_
 refine U.done (C.nx ?_)
 exact St.wk (C.next hm) (Wk.f [some 0] ⟨vL, trivial⟩)
 refine C.exit (C.ex (C.ex (C.bex ?_)))
 exact St.wk (hJ10 _ hm) (Wk.mk' [] rfl rfl trivial trivial rfl)
theorem T_body_Right (s_1 : ApiSite) (st : ApiState) (post : Bool → Prop) (hm : V_body_Right s_1 st post) :
    Tr Tryz.prog 32 [.agg (eApiSite s_1), .agg (eApiState st)] [] 0 (fun A H' k => ∃ y, post y ∧ A = (.b y) ∧ H' = [] ∧ k = 0) := by
 refine Tr.intro (n := 95) Tryz.func32 rfl Tryz.ntmps32 rfl (fun w0 ok F β hβ => ?_)
 unfold V_body_Right at hm
 refine C.seq (U.start ?_)
 refine U.e1 rfl (.none rfl) (by exact Eff1.box rfl rfl rfl rfl rfl) ?_
 refine U.e1 rfl (.none rfl) (by exact Eff1.box rfl rfl rfl rfl rfl) ?_
 refine U.ps 1 T rfl ?_
 refine U.done (C.nx (C.seq (C.seq ?_)))
 refine C.jn (fun (x3 : Bool) => [(2, .p 0 0), (3, .p 1 0), (51, .b x3)]) (fun (x3 : Bool) => [(0, .box (eApiSite s_1)), (1, .box (eApiState st))]) 2 hm (fun x3 hm => ?_) (fun J4 hm hJ4 => ?_)
 refine C.nx ?_
 refine C.ite rfl hm (fun hb13 hm => ?_) (fun hb13 hm => ?_)
 refine C.seq (U.start ?_)
 refine U.ps 1 T rfl ?_
 refine U.done (C.nx (C.ret (C.rt ?_)))
 exact C.f0 T (rs' := [.b false]) hβ ⟨false, hm, rfl, rfl, rfl⟩
 refine C.skip (C.nx (C.seq (C.seq (U.start ?_))))
 refine U.ps 4 T rfl ?_
 refine U.done (C.nx ?_)
 refine C.jn (fun (x18 : Unit) => [(2, .p 0 0), (3, .p 1 0)]) (fun (x18 : Unit) => [(0, .box (eApiSite s_1)), (1, .box (eApiState st))]) 2 hm (fun x18 hm => ?_) (fun J19 hm hJ19 => ?_)
 refine C.nx (C.seq (C.seq (U.start ?_)))
 refine U.ps 4 T rfl ?_
 refine U.done (C.nx ?_)
 refine C.jn (fun (x40 : Unit) => [(3, .p 0 0)]) (fun (x40 : Unit) => [(0, .box (eApiState st))]) 1 hm (fun x40 hm => ?_) (fun J41 hm hJ41 => ?_)
 refine C.nx (C.seq (U.start ?_))
 refine U.ps 1 T rfl ?_
 refine U.e rfl (.none rfl) (by exact Eff.c [] (v := true) (T_body_all st _ hm) en51 rfl rfl rfl (.eq rfl) trivial rfl rfl rfl rfl rfl rfl (fun _ _ => ⟨(.o _), ⟨.val (.os _ _ _ fun _ => (.cons (.v _) .nil)), trivial⟩⟩) (.inr ⟨rfl, rfl⟩) (fun _ => rfl) (fun _ => rfl) rfl) (fun x60' hm => ?_)
 obtain ⟨x60⟩ := x60'
 refine U.e rfl (.none rfl) (by exact Eff.k (T_body_Clash x60 _ hm) en76 rfl rfl rfl (.cons (.fz rfl rfl rfl (.os fun _ => .cons (.ro rfl) .nil)) .nil) (fun _ _ => ⟨(.tup (.cons (.v _) (.cons (.v _) .nil))), trivial⟩)) (fun x61' hm => ?_)
 obtain ⟨x61⟩ := x61'
 refine U.ps 5 T rfl ?_
 refine U.done (C.nx (C.seq (U.start ?_)))
 refine U.ps 3 T rfl ?_
 refine U.done (C.nx (C.ret ?_))
 exact C.f0 T (rs' := [.b (!x61.2)]) hβ ⟨!x61.2, hm, rfl, rfl, rfl⟩
 refine C.block ?_
 refine St.wk (C.loop (fun (s42 : Int) => [(2, .p 0 0), (3, .p 1 0), (74, .sl 1 eI st.People), (75, .i (st.People.length : Int)), (76, .i s42)]) (fun (s42 : Int) => [(0, .box (eApiSite s_1)), (1, .box (eApiState st))]) hm (fun s42 Y43 hm => ?_)) (Wk.f [some 0, some 1] ⟨bX, bX, trivial⟩)
 refine C.seq (U.start ?_)
 refine U.ps 1 T rfl ?_
 refine U.done (C.nx (C.seq ?_))
 refine C.ite rfl hm (fun hb46 hm => ?_) (fun hb46 hm => ?_)
 refine C.skip (C.nx (C.seq (C.block (C.seq (U.start ?_)))))
 obtain ⟨x49, hx49, hm⟩ := hm
 refine U.r rfl (.none rfl) rfl rfl (by exact Rd.ix T rfl rfl rfl rfl rfl rfl hx49) ?_
 refine U.ps 2 T rfl ?_
 refine U.done (C.nx (C.seq (U.start ?_)))
 refine U.ps 3 T rfl ?_
 refine U.e1 rfl (.none rfl) (by exact Eff1.bs T (enc := eI) (xs := ([4, 5] : List Int)) rfl rfl rfl rfl rfl rfl rfl rfl rfl rfl (fun _ _ => rfl) rfl rfl) ?_
 refine U.e rfl (.none rfl) (by exact Eff.k (T_body_on s_1.Floor x49 ([4, 5] : List Int) _ hm) en75 rfl rfl rfl (.cons (.eq rfl) (.cons (.eq rfl) (.cons (.fz rfl rfl rfl (.os fun _ => .cons (.ro rfl) .nil)) .nil))) (fun _ _ => ⟨(.v _), trivial⟩)) (fun x52' hm => ?_)
 obtain ⟨x52⟩ := x52'
 refine U.ps 1 T rfl ?_
 refine U.done (C.nx ?_)
 refine C.ite rfl hm (fun hb53 hm => ?_) (fun hb53 hm => ?_)
 refine C.seq (U.start ?_)
 refine U.ps 1 T rfl ?_
 refine U.done (C.nx (C.ret (C.brt (C.rt (C.rt (C.brt (C.rt ?_)))))))
 exact C.f0 T (rs' := [.b false]) hβ ⟨false, hm, rfl, rfl, rfl⟩
 refine C.skip (C.bnx (C.nx (U.start ?_)))
 refine U.ps 2 T rfl ?_
 refine U.done (C.nx ?_)
 exact St.wk (C.next hm) (Wk.f [some 0, some 1] ⟨bX, bX, trivial⟩)
 refine C.exit (C.ex (C.ex (C.bex ?_)))
 exact St.wk (hJ41 _ hm) (Wk.f [some 1] ⟨bX, trivial⟩)
 refine C.block ?_
 refine St.wk (C.loop (fun (s20 : Int) => [(2, .p 0 0), (3, .p 1 0), (53, .sl 1 eI st.Shelves), (54, .i (st.Shelves.length : Int)), (55, .i s20)]) (fun (s20 : Int) => [(0, .box (eApiSite s_1)), (1, .box (eApiState st))]) hm (fun s20 Y21 hm => ?_)) (Wk.f [some 0, some 1] ⟨bX, bX, trivial⟩)
 refine C.seq (U.start ?_)
 refine U.ps 1 T rfl ?_
 refine U.done (C.nx (C.seq ?_))
 refine C.ite rfl hm (fun hb24 hm => ?_) (fun hb24 hm => ?_)
 refine C.skip (C.nx (C.seq (C.block (C.seq (U.start ?_)))))
 refine U.ps 1 T rfl ?_
 obtain ⟨x27, hx27, hm⟩ := hm
 refine U.r rfl (.none rfl) rfl rfl (by exact Rd.ix T rfl rfl rfl rfl rfl rfl hx27) ?_
 refine U.ps 3 T rfl ?_
 refine U.done (C.nx (C.seq ?_))
 refine C.jn (fun (x28 : Bool) => [(2, .p 0 0), (3, .p 1 0), (53, .sl 1 eI st.Shelves), (54, .i (st.Shelves.length : Int)), (55, .i s20), (71, .b x28)]) (fun (x28 : Bool) => [(0, .box (eApiSite s_1)), (1, .box (eApiState st))]) 2 hm (fun x28 hm => ?_) (fun J29 hm hJ29 => ?_)
 refine C.nx ?_
 refine C.ite rfl hm (fun hb33 hm => ?_) (fun hb33 hm => ?_)
 refine C.seq (U.start ?_)
 refine U.ps 1 T rfl ?_
 refine U.done (C.nx (C.ret (C.brt (C.rt (C.rt (C.brt (C.rt ?_)))))))
 exact C.f0 T (rs' := [.b false]) hβ ⟨false, hm, rfl, rfl, rfl⟩
 refine C.skip (C.bnx (C.nx (U.start ?_)))
 refine U.ps 2 T rfl ?_
 refine U.done (C.nx ?_)
 exact St.wk (C.next hm) (Wk.f [some 0, some 1] ⟨bX, bX, trivial⟩)
 refine U.start ?_
 refine U.ps 2 T rfl ?_
 refine U.e rfl (.none rfl) (by exact Eff.k (T_body_Carrier st s20 _ hm) en74 rfl rfl rfl (.eq rfl) (fun _ _ => ⟨(.v _), trivial⟩)) (fun x30' hm => ?_)
 obtain ⟨x30⟩ := x30'
 refine U.ps 2 T rfl ?_
 refine hm.cs (fun hb31 hm => ?_) (fun hb31 hm => ?_)
 refine U.pg 3 4 true 64 hb31 T rfl rfl rfl rfl ?_
 refine U.e1 rfl (.take 4 true 64 _ hb31 rfl rfl rfl) (by exact Eff1.bs T (enc := eI) (xs := ([1, 2] : List Int)) rfl rfl rfl rfl rfl rfl rfl rfl rfl rfl (fun _ _ => rfl) rfl rfl) ?_
 refine U.e rfl (.take 4 true 64 _ hb31 rfl rfl rfl) (by exact Eff.k (T_body_on s_1.Floor x27 ([1, 2] : List Int) _ hm) en75 rfl rfl rfl (.cons (.eq rfl) (.cons (.eq rfl) (.cons (.fz rfl rfl rfl (.os fun _ => .cons (.ro rfl) .nil)) .nil))) (fun _ _ => ⟨(.v _), trivial⟩)) (fun x32' hm => ?_)
 obtain ⟨x32⟩ := x32'
 refine U.pg 1 4 true 64 hb31 T rfl rfl rfl rfl ?_
 refine U.r rfl (.none rfl) rfl rfl (by exact Rd.pk rfl rfl hb31 rfl) ?_
 refine U.done ?_
 exact St.wk (hJ29 _ hm) (Wk.f [some 0, some 1] ⟨bX, bX, trivial⟩)
 refine U.sks 6 4 true 64 hb31 rfl rfl rfl ?_
 refine U.r rfl (.none rfl) rfl rfl (by exact Rd.pk' rfl rfl hb31 rfl) ?_
 refine U.done ?_
 exact St.wk (hJ29 _ hm) (Wk.f [some 0, some 1] ⟨bX, bX, trivial⟩)
 refine C.exit (C.ex (C.ex (C.bex ?_)))
 exact St.wk (hJ19 _ hm) (Wk.f [some 0, some 1] ⟨bX, bX, trivial⟩)
 refine U.start ?_
 refine U.ps 2 T rfl ?_
 refine U.e rfl (.none rfl) (by exact Eff.k (T_body_within st.Tick 0 20000 _ hm) en71 rfl rfl rfl (.eq rfl) (fun _ _ => ⟨(.v _), trivial⟩)) (fun x5' hm => ?_)
 obtain ⟨x5⟩ := x5'
 refine U.ps 2 T rfl ?_
 refine hm.cs (fun hb6 hm => ?_) (fun hb6 hm => ?_)
 refine U.pg 7 4 false 15 (ntF hb6) T rfl rfl rfl rfl ?_
 refine U.r rfl (.none rfl) rfl rfl (by exact Rd.pk' rfl rfl (ntF hb6) rfl) ?_
 refine U.ps 1 T rfl ?_
 refine hm.cs (fun hb7 hm => ?_) (fun hb7 hm => ?_)
 refine U.sks 7 13 false 24 hb7 rfl rfl rfl ?_
 refine U.r rfl (.none rfl) rfl rfl (by exact Rd.pk rfl rfl hb7 rfl) ?_
 refine U.ps 1 T rfl ?_
 refine U.sks 4 22 false 33 rfl rfl rfl rfl ?_
 refine U.r rfl (.none rfl) rfl rfl (by exact Rd.pk rfl rfl rfl rfl) ?_
 refine U.ps 1 T rfl ?_
 refine U.sks 4 28 false 39 rfl rfl rfl rfl ?_
 refine U.r rfl (.none rfl) rfl rfl (by exact Rd.pk rfl rfl rfl rfl) ?_
 refine U.ps 1 T rfl ?_
 refine U.sks 5 34 false 45 rfl rfl rfl rfl ?_
 refine U.r rfl (.none rfl) rfl rfl (by exact Rd.pk rfl rfl rfl rfl) ?_
 refine U.done ?_
 exact St.wk (hJ4 _ hm) (Wk.f [some 0, some 1] ⟨bX, bX, trivial⟩)
 refine U.pg 7 13 false 24 hb7 T rfl rfl rfl rfl ?_
 refine U.r rfl (.none rfl) rfl rfl (by exact Rd.pk' rfl rfl hb7 rfl) ?_
 refine U.ps 1 T rfl ?_
 refine hm.cs (fun hb8 hm => ?_) (fun hb8 hm => ?_)
 refine U.sks 4 22 false 33 hb8 rfl rfl rfl ?_
 refine U.r rfl (.none rfl) rfl rfl (by exact Rd.pk rfl rfl hb8 rfl) ?_
 refine U.ps 1 T rfl ?_
 refine U.sks 4 28 false 39 rfl rfl rfl rfl ?_
 refine U.r rfl (.none rfl) rfl rfl (by exact Rd.pk rfl rfl rfl rfl) ?_
 refine U.ps 1 T rfl ?_
 refine U.sks 5 34 false 45 rfl rfl rfl rfl ?_
 refine U.r rfl (.none rfl) rfl rfl (by exact Rd.pk rfl rfl rfl rfl) ?_
 refine U.done ?_
 exact St.wk (hJ4 _ hm) (Wk.f [some 0, some 1] ⟨bX, bX, trivial⟩)
 refine U.pg 4 22 false 33 hb8 T rfl rfl rfl rfl ?_
 refine U.r rfl (.none rfl) rfl rfl (by exact Rd.pk' rfl rfl hb8 rfl) ?_
 refine U.ps 1 T rfl ?_
 refine hm.cs (fun hb9 hm => ?_) (fun hb9 hm => ?_)
 refine U.sks 4 28 false 39 hb9 rfl rfl rfl ?_
 refine U.r rfl (.none rfl) rfl rfl (by exact Rd.pk rfl rfl hb9 rfl) ?_
 refine U.ps 1 T rfl ?_
 refine U.sks 5 34 false 45 rfl rfl rfl rfl ?_
 refine U.r rfl (.none rfl) rfl rfl (by exact Rd.pk rfl rfl rfl rfl) ?_
 refine U.done ?_
 exact St.wk (hJ4 _ hm) (Wk.f [some 0, some 1] ⟨bX, bX, trivial⟩)
 refine U.pg 2 28 false 39 hb9 T rfl rfl rfl rfl ?_
 refine U.e rfl (.take 28 false 39 _ hb9 rfl rfl rfl) (by exact Eff.k (T_body_robots s_1 st _ hm) en72 rfl rfl rfl (.eq rfl) (fun _ _ => ⟨(.v _), trivial⟩)) (fun x10' hm => ?_)
 obtain ⟨x10⟩ := x10'
 refine U.pg 1 28 false 39 hb9 T rfl rfl rfl rfl ?_
 refine U.r rfl (.none rfl) rfl rfl (by exact Rd.pk' rfl rfl hb9 rfl) ?_
 refine U.ps 1 T rfl ?_
 refine hm.cs (fun hb11 hm => ?_) (fun hb11 hm => ?_)
 refine U.pg 3 34 false 45 (ntF hb11) T rfl rfl rfl rfl ?_
 refine U.e rfl (.take 34 false 45 _ (ntF hb11) rfl rfl rfl) (by exact Eff.k (T_body_rest s_1.Floor st _ hm) en73 rfl rfl rfl (.eq rfl) (fun _ _ => ⟨(.v _), trivial⟩)) (fun x12' hm => ?_)
 obtain ⟨x12⟩ := x12'
 refine U.pg 1 34 false 45 (ntF hb11) T rfl rfl rfl rfl ?_
 refine U.r rfl (.none rfl) rfl rfl (by exact Rd.pk' rfl rfl (ntF hb11) rfl) ?_
 refine U.done ?_
 exact St.wk (hJ4 _ hm) (Wk.f [some 0, some 1] ⟨bX, bX, trivial⟩)
 refine U.sks 5 34 false 45 (ntT hb11) rfl rfl rfl ?_
 refine U.r rfl (.none rfl) rfl rfl (by exact Rd.pk rfl rfl (ntT hb11) rfl) ?_
 refine U.done ?_
 exact St.wk (hJ4 _ hm) (Wk.f [some 0, some 1] ⟨bX, bX, trivial⟩)
 refine U.sks 7 4 false 15 (ntT hb6) rfl rfl rfl ?_
 refine U.r rfl (.none rfl) rfl rfl (by exact Rd.pk rfl rfl (ntT hb6) rfl) ?_
 refine U.ps 1 T rfl ?_
 refine U.sks 7 13 false 24 rfl rfl rfl rfl ?_
 refine U.r rfl (.none rfl) rfl rfl (by exact Rd.pk rfl rfl rfl rfl) ?_
 refine U.ps 1 T rfl ?_
 refine U.sks 4 22 false 33 rfl rfl rfl rfl ?_
 refine U.r rfl (.none rfl) rfl rfl (by exact Rd.pk rfl rfl rfl rfl) ?_
 refine U.ps 1 T rfl ?_
 refine U.sks 4 28 false 39 rfl rfl rfl rfl ?_
 refine U.r rfl (.none rfl) rfl rfl (by exact Rd.pk rfl rfl rfl rfl) ?_
 refine U.ps 1 T rfl ?_
 refine U.sks 5 34 false 45 rfl rfl rfl rfl ?_
 refine U.r rfl (.none rfl) rfl rfl (by exact Rd.pk rfl rfl rfl rfl) ?_
 refine U.done ?_
 exact St.wk (hJ4 _ hm) (Wk.f [some 0, some 1] ⟨bX, bX, trivial⟩)
theorem T_taquinlaw15_ActKeeps (s_1 : ApiSite) (st : ApiState) (picks : List Int) (post : Bool → Prop) (hm : V_taquinlaw15_ActKeeps s_1 st picks post) :
    Tr Tryz.prog 7 [.agg (eApiSite s_1), .agg (eApiState st), .sl 1 eI picks] [] 0 (fun A H' k => ∃ y, post y ∧ A = (.b y) ∧ H' = [] ∧ k = 0) := by
 refine Tr.intro (n := 112) Tryz.func7 rfl Tryz.ntmps7 rfl (fun w0 ok F β hβ => ?_)
 unfold V_taquinlaw15_ActKeeps at hm
 refine C.seq (U.start ?_)
 refine U.e1 rfl (.none rfl) (by exact Eff1.box rfl rfl rfl rfl rfl) ?_
 refine U.e1 rfl (.none rfl) (by exact Eff1.box rfl rfl rfl rfl rfl) ?_
 refine U.ps 1 T rfl ?_
 refine U.done (C.nx (C.seq (U.start ?_)))
 refine U.e rfl (.none rfl) (by exact Eff.k (T_taquinlaw15_small _ hm) en8 rfl rfl rfl (.eq rfl) (fun _ _ => ⟨(.v _), trivial⟩)) (fun x5' hm => ?_)
 obtain ⟨x5⟩ := x5'
 refine U.ps 1 T rfl ?_
 refine U.done (C.nx (C.seq (C.seq ?_)))
 refine C.jn (fun (x6 : Bool) => [(2, .sl 1 eI picks), (3, .p 0 0), (4, .p 1 0), (7, .b x5), (28, .b x6)]) (fun (x6 : Bool) => [(0, .box (eApiSite s_1)), (1, .box (eApiState st))]) 2 hm (fun x6 hm => ?_) (fun J7 hm hJ7 => ?_)
 refine C.nx ?_
 refine C.ite rfl hm (fun hb10 hm => ?_) (fun hb10 hm => ?_)
 refine C.seq (U.start ?_)
 refine U.ps 2 T rfl ?_
 refine U.done (C.nx (C.ret (C.rt ?_)))
 exact C.f0 T (rs' := [.b x5]) hβ ⟨x5, hm, rfl, rfl, rfl⟩
 refine C.skip (C.nx (C.seq (U.start ?_)))
 refine U.ps 2 T rfl ?_
 refine U.e rfl (.none rfl) (by exact Eff.k (T_rules_Apart s_1 st _ hm) en30 rfl rfl rfl (.eq rfl) (fun _ _ => ⟨(.tup (.cons (.v _) (.cons (.v _) (.cons (.v _) .nil)))), trivial⟩)) (fun x15' hm => ?_)
 obtain ⟨x15⟩ := x15'
 refine U.ps 7 T rfl ?_
 refine U.done (C.nx (C.seq (U.start ?_)))
 refine U.ps 1 T rfl ?_
 refine U.e1 rfl (.none rfl) (by exact Eff1.al T rfl rfl rfl rfl) ?_
 refine U.e1 rfl (.none rfl) (by exact Eff1.st T rfl rfl rfl rfl rfl rfl rfl rfl rfl rfl) ?_
 refine U.done (C.nx (C.seq (C.seq (U.start ?_))))
 refine U.ps 1 T rfl ?_
 refine U.done (C.nx ?_)
 refine C.jn (fun (x20 : Unit) => [(7, .b x5)]) (fun (x20 : Unit) => []) 0 hm (fun x20 hm => ?_) (fun J21 hm hJ21 => ?_)
 refine C.nx (C.seq (U.start ?_))
 refine U.ps 2 T rfl ?_
 refine U.done (C.nx (C.ret ?_))
 exact C.f0 T (rs' := [.b x5]) hβ ⟨x5, hm, rfl, rfl, rfl⟩
 refine C.block ?_
 refine St.wk (C.loop (fun (s22 : Int × List Int × List ApiRobot × List Int × List Int × List ApiStuck × Int) => [(2, .sl 1 eI picks), (3, .p 0 0), (7, .b x5), (10, .b x15.2.2), (11, .p 1 0), (12, .i s22.2.2.2.2.2.2)]) (fun (s22 : Int × List Int × List ApiRobot × List Int × List Int × List ApiStuck × Int) => [(0, .box (eApiSite s_1)), (1, .box [.i s22.1, .sl 1 eI s22.2.1, .sl 6 eApiRobot s22.2.2.1, .sl 1 eI s22.2.2.2.1, .sl 1 eI s22.2.2.2.2.1, .sl 2 eApiStuck s22.2.2.2.2.2.1])]) hm (fun s22 Y23 hm => ?_)) (Wk.f [some 0, some 2] ⟨bX, bX, trivial⟩)
 refine C.seq (C.seq ?_)
 refine C.jn (fun (x24 : Bool) => [(2, .sl 1 eI picks), (3, .p 0 0), (7, .b x5), (10, .b x15.2.2), (11, .p 1 0), (12, .i s22.2.2.2.2.2.2), (47, .b x24)]) (fun (x24 : Bool) => [(0, .box (eApiSite s_1)), (1, .box [.i s22.1, .sl 1 eI s22.2.1, .sl 6 eApiRobot s22.2.2.1, .sl 1 eI s22.2.2.2.1, .sl 1 eI s22.2.2.2.2.1, .sl 2 eApiStuck s22.2.2.2.2.2.1])]) 2 hm (fun x24 hm => ?_) (fun J25 hm hJ25 => ?_)
 refine C.nx ?_
 refine C.ite rfl hm (fun hb27 hm => ?_) (fun hb27 hm => ?_)
 refine C.skip (C.nx (C.seq (C.block (C.seq (U.start ?_)))))
 refine U.ps 2 T rfl ?_
 obtain ⟨x30, hx30, hm⟩ := hm
 refine U.r rfl (.none rfl) rfl rfl (by exact Rd.ix T rfl rfl rfl rfl rfl rfl hx30) ?_
 refine U.ps 3 T rfl ?_
 refine U.done (C.nx (C.seq (U.start ?_)))
 refine U.ps 4 T rfl ?_
 obtain ⟨hx33, hm⟩ := hm
 refine U.r rfl (.none rfl) rfl rfl (by exact Rd.rm rfl rfl rfl rfl hx33) ?_
 refine U.ps 1 T rfl ?_
 refine U.done (C.nx (C.seq (U.start ?_)))
 refine U.ps 3 T rfl ?_
 refine U.e rfl (.none rfl) (by exact Eff.c [] (v := true) (T_act_Acts s_1 ({ Tick := s22.1, Shelves := s22.2.1, Robots := s22.2.2.1, People := s22.2.2.2.1, Dead := s22.2.2.2.2.1, Stuck := s22.2.2.2.2.2.1 : ApiState }) ((imax x30 0).tmod (s22.2.2.1.length : Int)) _ hm) en13 rfl rfl rfl (.eq rfl) trivial rfl rfl rfl rfl rfl rfl (fun _ _ => ⟨(.o _), ⟨.val (.os _ _ _ fun _ => (.cons (.v _) .nil)), trivial⟩⟩) (.inr ⟨rfl, rfl⟩) (fun _ => rfl) (fun _ => rfl) rfl) (fun x36' hm => ?_)
 obtain ⟨x36⟩ := x36'
 refine U.ps 1 T rfl ?_
 refine U.done (C.nx (C.seq (C.seq ?_)))
 refine C.jn (fun (x37 : Bool) => [(2, .sl 1 eI picks), (3, .p 0 0), (7, .b x5), (10, .b x15.2.2), (11, .p 1 0), (12, .i s22.2.2.2.2.2.2), (13, .i (imax x30 0)), (14, .i ((imax x30 0).tmod (s22.2.2.1.length : Int))), (15, .o 2), (77, .b x37)]) (fun (x37 : Bool) => [(0, .box (eApiSite s_1)), (1, .box [.i s22.1, .sl 1 eI s22.2.1, .sl 6 eApiRobot s22.2.2.1, .sl 1 eI s22.2.2.2.1, .sl 1 eI s22.2.2.2.2.1, .sl 2 eApiStuck s22.2.2.2.2.2.1]), (2, .val (.os 1 eI x36))]) 3 hm (fun x37 hm => ?_) (fun J38 hm hJ38 => ?_)
 refine C.nx ?_
 refine C.ite rfl hm (fun hb42 hm => ?_) (fun hb42 hm => ?_)
 refine C.seq (U.start ?_)
 refine U.ps 1 T rfl ?_
 refine U.done (C.nx (C.ret (C.rt (C.brt (C.rt (C.rt (C.brt (C.rt ?_))))))))
 exact C.f0 T (rs' := [.b false]) hβ ⟨false, hm, rfl, rfl, rfl⟩
 refine C.skip (C.nx (C.seq ?_))
 refine D.beg 15 [0, 1, 2] [] mix rfl rfl (by kernel_rfl) (by repeat (first | exact NoPanicQ.body | exact NoPanicQ.rnd | refine NoPanicQ.th ?_ | refine NoPanicQ.blk ?_)) (fun hQ hS ws M' => ?_)
 refine D.ps 8 [(0, []), (1, []), (2, []), (3, []), (4, []), (5, []), (6, []), (7, [])] rfl hQ hS T rfl rfl (by kernel_rfl) ?_
 obtain ⟨hx47, hm⟩ := hm
 refine D.q 8 [] hQ hS rfl (.none rfl) rfl rfl (by exact Rd.dv rfl rfl rfl rfl hx47) rfl (by kernel_rfl) ?_
 refine D.ps 2 [(9, []), (10, [])] rfl hQ hS T rfl rfl (by kernel_rfl) ?_
 obtain ⟨hx48, hm⟩ := hm
 refine D.q 11 [] hQ hS rfl (.none rfl) rfl rfl (by exact Rd.rm rfl rfl rfl rfl hx48) rfl (by kernel_rfl) ?_
 obtain ⟨x49, hx49, hm⟩ := hm
 refine D.q 12 [] hQ hS rfl (.none rfl) rfl rfl (by exact Rd.io T rfl rfl rfl rfl rfl rfl rfl hx49) rfl (by kernel_rfl) ?_
 refine D.q 13 [] hQ hS rfl (.none rfl) rfl rfl (by exact Rd.le T rfl rfl rfl (idx_some hx49).2.2 rfl rfl rfl) rfl (by kernel_rfl) ?_
 refine D.e 14 rfl (.none rfl) (by exact Eff.c [] (v := true) (T_act_Do s_1 ({ Tick := s22.1, Shelves := s22.2.1, Robots := s22.2.2.1, People := s22.2.2.2.1, Dead := s22.2.2.2.2.1, Stuck := s22.2.2.2.2.2.1 : ApiState }) ((imax x30 0).tmod (s22.2.2.1.length : Int)) x49 _ hm) en16 rfl rfl rfl (.eq rfl) trivial rfl rfl rfl rfl rfl rfl (fun _ _ => ⟨(.agg (.cons (.v _) (.cons (.o _) (.cons (.o _) (.cons (.o _) (.cons (.o _) (.cons (.o _) .nil))))))), ⟨.val (.os _ _ _ fun _ => (.cons (.v _) .nil)), .val (.os _ _ _ fun _ => (.cons (.v _) (.cons (.v _) (.cons (.v _) (.cons (.v _) (.cons (.v _) (.cons (.v _) .nil))))))), .val (.os _ _ _ fun _ => (.cons (.v _) .nil)), .val (.os _ _ _ fun _ => (.cons (.v _) .nil)), .val (.os _ _ _ fun _ => (.cons (.v _) (.cons (.v _) .nil))), trivial⟩⟩) (.inr ⟨rfl, rfl⟩) (fun _ => rfl) (fun _ => rfl) rfl) (by kernel_rfl) rfl rfl (fun x50' hm => ?_)
 obtain ⟨x50⟩ := x50'
 refine D.ze1 rfl (.none rfl) (by exact Eff1.st T rfl rfl rfl rfl rfl rfl rfl rfl rfl rfl) (by kernel_rfl) (by kernel_rfl) ?_
 refine C.nx (C.seq (U.start ?_))
 refine U.ps 2 T rfl ?_
 refine U.e rfl (.none rfl) (by exact Eff.k (T_rules_Apart s_1 x50 _ hm) en30 rfl rfl rfl (.cons (.eq rfl) (.cons (.agg (.cons (.eq rfl) (.cons (.fz rfl rfl rfl (.os fun _ => .cons (.ro rfl) .nil)) (.cons (.fz rfl rfl rfl (.os fun _ => .cons (.ro rfl) (.cons (.ro rfl) (.cons (.ro rfl) (.cons (.ro rfl) (.cons (.ro rfl) (.cons (.ro rfl) .nil))))))) (.cons (.fz rfl rfl rfl (.os fun _ => .cons (.ro rfl) .nil)) (.cons (.fz rfl rfl rfl (.os fun _ => .cons (.ro rfl) .nil)) (.cons (.fz rfl rfl rfl (.os fun _ => .cons (.ro rfl) (.cons (.ro rfl) .nil))) .nil))))))) .nil)) (fun _ _ => ⟨(.tup (.cons (.v _) (.cons (.v _) (.cons (.v _) .nil)))), trivial⟩)) (fun x53' hm => ?_)
 obtain ⟨x53⟩ := x53'
 refine U.ps 7 T rfl ?_
 refine U.done (C.nx (C.seq ?_))
 refine C.jn (fun (x54 : Bool) => [(2, .sl 1 eI picks), (3, .p 0 0), (7, .b x5), (10, .b x15.2.2), (11, .p 1 0), (12, .i s22.2.2.2.2.2.2), (110, .b x54)]) (fun (x54 : Bool) => [(0, .box (eApiSite s_1)), (1, .box [.i x50.Tick, .o 2, .o 3, .o 4, .o 5, .o 6]), (2, .val (.os 1 eI x50.Shelves)), (3, .val (.os 6 eApiRobot x50.Robots)), (4, .val (.os 1 eI x50.People)), (5, .val (.os 1 eI x50.Dead)), (6, .val (.os 2 eApiStuck x50.Stuck))]) 7 hm (fun x54 hm => ?_) (fun J55 hm hJ55 => ?_)
 refine C.nx ?_
 refine C.ite rfl hm (fun hb59 hm => ?_) (fun hb59 hm => ?_)
 refine C.seq (U.start ?_)
 refine U.ps 1 T rfl ?_
 refine U.done (C.nx (C.ret (C.brt (C.rt (C.rt (C.brt (C.rt ?_)))))))
 exact C.f0 T (rs' := [.b false]) hβ ⟨false, hm, rfl, rfl, rfl⟩
 refine C.skip (C.bnx (C.nx (U.start ?_)))
 refine U.ps 3 T rfl ?_
 refine U.done (C.nx ?_)
 exact St.wk (C.next hm) (Wk.mk' [some 0, some 1] rfl rfl (.eqs rfl) ⟨bX, ⟨_, rfl, .box rfl (.cons (.eq rfl) (.cons (.fz rfl rfl rfl (.os fun _ => .cons (.ro rfl) .nil)) (.cons (.fz rfl rfl rfl (.os fun _ => .cons (.ro rfl) (.cons (.ro rfl) (.cons (.ro rfl) (.cons (.ro rfl) (.cons (.ro rfl) (.cons (.ro rfl) .nil))))))) (.cons (.fz rfl rfl rfl (.os fun _ => .cons (.ro rfl) .nil)) (.cons (.fz rfl rfl rfl (.os fun _ => .cons (.ro rfl) .nil)) (.cons (.fz rfl rfl rfl (.os fun _ => .cons (.ro rfl) (.cons (.ro rfl) .nil))) .nil))))))⟩, trivial⟩ rfl)
 refine U.start ?_
 refine U.ps 2 T rfl ?_
 refine U.e rfl (.none rfl) (by exact Eff.k (T_body_Right s_1 x50 _ hm) en32 rfl rfl rfl (.cons (.eq rfl) (.cons (.agg (.cons (.eq rfl) (.cons (.fz rfl rfl rfl (.os fun _ => .cons (.ro rfl) .nil)) (.cons (.fz rfl rfl rfl (.os fun _ => .cons (.ro rfl) (.cons (.ro rfl) (.cons (.ro rfl) (.cons (.ro rfl) (.cons (.ro rfl) (.cons (.ro rfl) .nil))))))) (.cons (.fz rfl rfl rfl (.os fun _ => .cons (.ro rfl) .nil)) (.cons (.fz rfl rfl rfl (.os fun _ => .cons (.ro rfl) .nil)) (.cons (.fz rfl rfl rfl (.os fun _ => .cons (.ro rfl) (.cons (.ro rfl) .nil))) .nil))))))) .nil)) (fun _ _ => ⟨(.v _), trivial⟩)) (fun x56' hm => ?_)
 obtain ⟨x56⟩ := x56'
 refine U.ps 2 T rfl ?_
 refine hm.cs (fun hb57 hm => ?_) (fun hb57 hm => ?_)
 refine U.pg 2 4 false 104 (ntF hb57) T rfl rfl rfl rfl ?_
 refine hm.cs (fun hb58 hm => ?_) (fun hb58 hm => ?_)
 refine U.pg 2 6 true 106 hb58 T rfl rfl rfl rfl ?_
 refine U.r rfl (.take 4 false 104 _ (ntF hb57) rfl rfl rfl) rfl rfl (by exact Rd.pk rfl rfl hb58 rfl) ?_
 refine U.r rfl (.none rfl) rfl rfl (by exact Rd.pk' rfl rfl (ntF hb57) rfl) ?_
 refine U.done ?_
 exact St.wk (hJ55 _ hm) (Wk.f [some 0, some 1, some 3, some 4, some 5, some 6, some 7] ⟨bX, bX, vL, vL, vL, vL, vL, trivial⟩)
 refine U.sks 2 6 true 106 hb58 rfl rfl rfl ?_
 refine U.r rfl (.take 4 false 104 _ (ntF hb57) rfl rfl rfl) rfl rfl (by exact Rd.pk' rfl rfl hb58 rfl) ?_
 refine U.r rfl (.none rfl) rfl rfl (by exact Rd.pk' rfl rfl (ntF hb57) rfl) ?_
 refine U.done ?_
 exact St.wk (hJ55 _ hm) (Wk.f [some 0, some 1, some 3, some 4, some 5, some 6, some 7] ⟨bX, bX, vL, vL, vL, vL, vL, trivial⟩)
 refine U.sks 2 4 false 104 (ntT hb57) rfl rfl rfl ?_
 refine U.sku 2 6 true 106 rfl rfl rfl ?_
 refine U.sks 1 4 false 104 (ntT hb57) rfl rfl rfl ?_
 refine U.r rfl (.none rfl) rfl rfl (by exact Rd.pk rfl rfl (ntT hb57) rfl) ?_
 refine U.done ?_
 exact St.wk (hJ55 _ hm) (Wk.f [some 0, some 1, some 3, some 4, some 5, some 6, some 7] ⟨bX, bX, vL, vL, vL, vL, vL, trivial⟩)
 refine U.start ?_
 refine U.ps 4 T rfl ?_
 refine hm.cs (fun hb39 hm => ?_) (fun hb39 hm => ?_)
 refine U.sks 4 3 false 67 hb39 rfl rfl rfl ?_
 refine U.sku 4 7 true 71 rfl rfl rfl ?_
 refine U.sks 1 3 false 67 hb39 rfl rfl rfl ?_
 refine U.r rfl (.none rfl) rfl rfl (by exact Rd.pk rfl rfl hb39 rfl) ?_
 refine U.done ?_
 exact St.wk (hJ38 _ hm) (Wk.f [some 0, some 1, some 2] ⟨bX, bX, vL, trivial⟩)
 refine U.pg 4 3 false 67 hb39 T rfl rfl rfl rfl ?_
 refine hm.cs (fun hb40 hm => ?_) (fun hb40 hm => ?_)
 refine U.pg 1 7 true 71 hb40 T rfl rfl rfl rfl ?_
 obtain ⟨x41, hx41, hm⟩ := hm
 refine U.r rfl (.take 7 true 71 _ hb40 rfl rfl rfl) rfl rfl (by exact Rd.io T rfl rfl rfl rfl rfl rfl rfl hx41) ?_
 refine U.r rfl (.take 7 true 71 _ hb40 rfl rfl rfl) rfl rfl (by exact Rd.le T rfl rfl rfl (idx_some hx41).2.2 rfl rfl rfl) ?_
 refine U.pg 1 7 true 71 hb40 T rfl rfl rfl rfl ?_
 refine U.r rfl (.take 3 false 67 _ hb39 rfl rfl rfl) rfl rfl (by exact Rd.pk rfl rfl hb40 rfl) ?_
 refine U.r rfl (.none rfl) rfl rfl (by exact Rd.pk' rfl rfl hb39 rfl) ?_
 refine U.done ?_
 exact St.wk (hJ38 _ hm) (Wk.f [some 0, some 1, some 2] ⟨bX, bX, vL, trivial⟩)
 refine U.sks 4 7 true 71 hb40 rfl rfl rfl ?_
 refine U.r rfl (.take 3 false 67 _ hb39 rfl rfl rfl) rfl rfl (by exact Rd.pk' rfl rfl hb40 rfl) ?_
 refine U.r rfl (.none rfl) rfl rfl (by exact Rd.pk' rfl rfl hb39 rfl) ?_
 refine U.done ?_
 exact St.wk (hJ38 _ hm) (Wk.f [some 0, some 1, some 2] ⟨bX, bX, vL, trivial⟩)
 refine C.exit (C.ex (C.ex (C.bex ?_)))
 exact St.wk (hJ21 _ hm) (Wk.e)
 refine U.start ?_
 refine U.ps 5 T rfl ?_
 refine hm.cs (fun hb26 hm => ?_) (fun hb26 hm => ?_)
 refine U.pg 4 4 true 42 hb26 T rfl rfl rfl rfl ?_
 refine U.r rfl (.none rfl) rfl rfl (by exact Rd.pk rfl rfl hb26 rfl) ?_
 refine U.done ?_
 exact St.wk (hJ25 _ hm) (Wk.f [some 0, some 1] ⟨bX, bX, trivial⟩)
 refine U.sks 4 4 true 42 hb26 rfl rfl rfl ?_
 refine U.r rfl (.none rfl) rfl rfl (by exact Rd.pk' rfl rfl hb26 rfl) ?_
 refine U.done ?_
 exact St.wk (hJ25 _ hm) (Wk.f [some 0, some 1] ⟨bX, bX, trivial⟩)
 refine U.start ?_
 refine U.ps 2 T rfl ?_
 refine U.e rfl (.none rfl) (by exact Eff.k (T_taquinlaw15_fair s_1 st _ hm) en9 rfl rfl rfl (.eq rfl) (fun _ _ => ⟨(.v _), trivial⟩)) (fun x8' hm => ?_)
 obtain ⟨x8⟩ := x8'
 refine U.ps 2 T rfl ?_
 refine hm.cs (fun hb9 hm => ?_) (fun hb9 hm => ?_)
 refine U.pg 3 4 false 24 (ntF hb9) T rfl rfl rfl rfl ?_
 refine U.r rfl (.none rfl) rfl rfl (by exact Rd.pk' rfl rfl (ntF hb9) rfl) ?_
 refine U.done ?_
 exact St.wk (hJ7 _ hm) (Wk.f [some 0, some 1] ⟨bX, bX, trivial⟩)
 refine U.sks 3 4 false 24 (ntT hb9) rfl rfl rfl ?_
 refine U.r rfl (.none rfl) rfl rfl (by exact Rd.pk rfl rfl (ntT hb9) rfl) ?_
 refine U.done ?_
 exact St.wk (hJ7 _ hm) (Wk.f [some 0, some 1] ⟨bX, bX, trivial⟩)
end Go.Proofs.YtenbhocpjlmimaaGreat
