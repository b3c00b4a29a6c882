/- The walks: each Go function does what its verification condition says (written by a program of the prover). -/
import Derived.Test.YtenbhocpjlmimaaGreatW1
import Derived.KernelRfl
set_option maxRecDepth 100000
set_option maxHeartbeats 8000000
set_option linter.unusedVariables false
set_option linter.unusedSimpArgs false
namespace Go.Proofs.YtenbhocpjlmimaaGreat
open Go Go.Taq
theorem T_rules_beside (s_1 : ApiSite) (c : Int) (post : (List Int) → Prop) (hm : V_rules_beside s_1 c post) :
    Tr Tryz.prog 69 [.agg (eApiSite s_1), .i c] [] 0 (fun A H' k => ∃ y, post y ∧ A = (.o 0) ∧ H' = [(0, .val (.os 1 eI y))] ∧ k = 1) := by
 refine Tr.intro (n := 48) Tryz.func69 rfl Tryz.ntmps69 rfl (fun w0 ok F β hβ => ?_)
 unfold V_rules_beside at hm
 refine C.seq (U.start ?_)
 refine U.e1 rfl (.none rfl) (by exact Eff1.box rfl rfl rfl rfl rfl) ?_
 refine U.ps 1 T rfl ?_
 refine U.done (C.nx (C.seq (U.start ?_)))
 refine U.ps 3 T rfl ?_
 refine U.e rfl (.none rfl) (by exact Eff.k (T_floor_At s_1.Floor c _ hm) en118 rfl rfl rfl (.eq rfl) (fun _ _ => ⟨(.tup (.cons (.v _) (.cons (.v _) (.cons (.v _) .nil)))), trivial⟩)) (fun x5' hm => ?_)
 obtain ⟨x5⟩ := x5'
 refine U.ps 7 T rfl ?_
 refine U.done (C.nx (C.seq ?_))
 refine D.beg 9999 [0] [] mix rfl rfl (by kernel_rfl) (by repeat (first | exact NoPanicQ.body | exact NoPanicQ.rnd | refine NoPanicQ.th ?_ | refine NoPanicQ.blk ?_)) (fun hQ hS ws M' => ?_)
 refine D.ps 24 [(0, []), (1, []), (2, []), (3, []), (4, []), (5, []), (7, []), (8, []), (9, []), (10, []), (11, []), (12, []), (14, []), (15, []), (16, []), (17, []), (18, []), (19, []), (21, []), (22, []), (23, []), (24, []), (25, []), (26, [])] rfl hQ hS T rfl rfl (by kernel_rfl) ?_
 refine D.e 6 rfl (.none rfl) (by exact Eff.k (T_floor_Cell s_1.Floor (w64 (x5.1 + 1)) x5.2.1 x5.2.2 _ hm) en120 rfl rfl rfl (.eq rfl) (fun _ _ => ⟨(.v _), trivial⟩)) (by kernel_rfl) rfl rfl (fun x8' hm => ?_)
 obtain ⟨x8⟩ := x8'
 refine D.e 13 rfl (.none rfl) (by exact Eff.k (T_floor_Cell s_1.Floor x5.1 (w64 (x5.2.1 + 1)) x5.2.2 _ hm) en120 rfl rfl rfl (.eq rfl) (fun _ _ => ⟨(.v _), trivial⟩)) (by kernel_rfl) rfl rfl (fun x9' hm => ?_)
 obtain ⟨x9⟩ := x9'
 refine D.e 20 rfl (.none rfl) (by exact Eff.k (T_floor_Cell s_1.Floor (w64 (x5.1 - 1)) x5.2.1 x5.2.2 _ hm) en120 rfl rfl rfl (.eq rfl) (fun _ _ => ⟨(.v _), trivial⟩)) (by kernel_rfl) rfl rfl (fun x10' hm => ?_)
 obtain ⟨x10⟩ := x10'
 refine D.e 27 rfl (.none rfl) (by exact Eff.k (T_floor_Cell s_1.Floor x5.1 (w64 (x5.2.1 - 1)) x5.2.2 _ hm) en120 rfl rfl rfl (.eq rfl) (fun _ _ => ⟨(.v _), trivial⟩)) (by kernel_rfl) rfl rfl (fun x11' hm => ?_)
 obtain ⟨x11⟩ := x11'
 refine D.e1 28 rfl (.none rfl) (by exact Eff1.bs T (enc := eI) (xs := ([x8, x9, x10, x11] : List Int)) rfl rfl rfl rfl rfl rfl rfl rfl rfl rfl (fun _ _ => rfl) rfl rfl) (by kernel_rfl) rfl rfl ?_
 refine D.ps 1 [(29, [])] rfl hQ hS T rfl rfl (by kernel_rfl) ?_
 refine D.done (by kernel_rfl) ?_
 refine C.nx (C.seq (U.start ?_))
 refine U.ps 1 T rfl ?_
 refine U.e rfl (.none rfl) (by exact Eff.c [some 1] (v := false) (T_slices_DeleteFunc_int_int__o0_rules_beside_1 ([x8, x9, x10, x11] : List Int) _ hm) en128 rfl rfl rfl (.eq rfl) ⟨vL, trivial⟩ rfl rfl rfl rfl rfl rfl (fun h => by cases h) (.inl rfl) (fun _ => rfl) (fun _ => rfl) rfl) (fun x14' hm => ?_)
 obtain ⟨x14⟩ := x14'
 refine U.ps 1 T rfl ?_
 refine U.done (C.nx (C.ret ?_))
 exact C.fin T (rs' := [.o 0]) (H' := [(0, .val (.os 1 eI x14))]) (nl' := 1) [some 3] rfl rfl (.eq rfl) ⟨vL, trivial⟩ rfl rfl rfl rfl hβ ⟨x14, hm, rfl, rfl, rfl⟩
theorem T_rules_Apart (s_1 : ApiSite) (st : ApiState) (post : (Int × Int × Bool) → Prop) (hm : V_rules_Apart s_1 st post) :
    Tr Tryz.prog 30 [.agg (eApiSite s_1), .agg (eApiState st)] [] 0 (fun A H' k => ∃ y, post y ∧ A = (.tup [.i y.1, .i y.2.1, .b y.2.2]) ∧ H' = [] ∧ k = 0) := by
 refine Tr.intro (n := 113) Tryz.func30 rfl Tryz.ntmps30 rfl (fun w0 ok F β hβ => ?_)
 unfold V_rules_Apart at hm
 refine C.seq (U.start ?_)
 refine U.e1 rfl (.none rfl) (by exact Eff1.box rfl rfl rfl rfl rfl) ?_
 refine U.e1 rfl (.none rfl) (by exact Eff1.box rfl rfl rfl rfl rfl) ?_
 refine U.ps 3 T rfl ?_
 refine U.done (C.nx (C.seq (U.start ?_)))
 refine U.ps 1 T rfl ?_
 refine U.e rfl (.none rfl) (by exact Eff.c [] (v := true) (T_rules_classes s_1 _ hm) en66 rfl rfl rfl (.eq rfl) trivial rfl rfl rfl rfl rfl rfl (fun _ _ => ⟨(.o _), ⟨.val (.om _ _ _ fun _ => (.v _)), trivial⟩⟩) (.inr ⟨rfl, rfl⟩) (fun _ => rfl) (fun _ => rfl) rfl) (fun x5' hm => ?_)
 obtain ⟨x5⟩ := x5'
 refine U.ps 1 T rfl ?_
 refine U.done (C.nx (C.seq (U.start ?_)))
 refine U.e1 rfl (.none rfl) (by exact Eff1.mm kI veOeI rfl rfl rfl) ?_
 refine U.ps 1 T rfl ?_
 refine U.done (C.nx (C.seq (C.seq (U.start ?_))))
 refine U.ps 4 T rfl ?_
 refine U.done (C.nx ?_)
 refine C.jn (fun (x10 : List (Int × List Int)) => [(2, .p 0 0), (3, .p 1 0), (7, .o 2), (8, .o 3)]) (fun (x10 : List (Int × List Int)) => [(0, .box (eApiSite s_1)), (1, .box (eApiState st)), (2, .val (.om kApiApart veB x5)), (3, .val (.om kI veOeI x10))]) 4 hm (fun x10 hm => ?_) (fun J11 hm hJ11 => ?_)
 refine C.nx (C.seq (C.seq (U.start ?_)))
 refine U.ps 4 T rfl ?_
 refine U.done (C.nx ?_)
 refine C.jn (fun (x38 : Unit) => []) (fun (x38 : Unit) => []) 0 hm (fun x38 hm => ?_) (fun J39 hm hJ39 => ?_)
 refine C.nx (C.seq (U.start ?_))
 refine U.ps 3 T rfl ?_
 refine U.done (C.nx (C.ret ?_))
 exact C.f0 T (rs' := [.i ((0, 0, false).1), .i ((0, 0, false).2.1), .b ((0, 0, false).2.2)]) hβ ⟨(0, 0, false), hm, rfl, rfl, rfl⟩
 refine C.block ?_
 refine St.wk (C.loop (fun (s40 : Int) => [(2, .p 0 0), (3, .p 1 0), (7, .o 2), (8, .rm kI veLeI x10), (49, .sl 1 eI st.Shelves), (50, .i (st.Shelves.length : Int)), (51, .i s40)]) (fun (s40 : Int) => [(0, .box (eApiSite s_1)), (1, .box (eApiState st)), (2, .val (.om kApiApart veB x5))]) hm (fun s40 Y41 hm => ?_)) (Wk.mk' [some 0, some 1, some 2] rfl rfl ⟨⟨_, rfl, (.eq rfl)⟩, ⟨_, rfl, (.eq rfl)⟩, ⟨_, rfl, (.eq rfl)⟩, ⟨_, rfl, (.fz rfl rfl rfl (.om fun _ => .os fun _ => .cons (.ro rfl) .nil))⟩, ChkG.eqs rfl⟩ ⟨bX, bX, vL, trivial⟩ rfl)
 refine C.seq (U.start ?_)
 refine U.ps 1 T rfl ?_
 refine U.done (C.nx (C.seq ?_))
 refine C.ite rfl hm (fun hb44 hm => ?_) (fun hb44 hm => ?_)
 refine C.skip (C.nx (C.seq ?_))
 refine C.jn (fun (x45 : Unit) => [(2, .p 0 0), (3, .p 1 0), (7, .o 2), (8, .rm kI veLeI x10), (49, .sl 1 eI st.Shelves), (50, .i (st.Shelves.length : Int)), (51, .i s40)]) (fun (x45 : Unit) => [(0, .box (eApiSite s_1)), (1, .box (eApiState st)), (2, .val (.om kApiApart veB x5))]) 3 hm (fun x45 hm => ?_) (fun J46 hm hJ46 => ?_)
 refine C.nx (U.start ?_)
 refine U.ps 2 T rfl ?_
 refine U.done (C.nx ?_)
 exact St.wk (C.next hm) (Wk.f [some 0, some 1, some 2] ⟨bX, bX, vL, trivial⟩)
 refine C.block (C.seq (U.start ?_))
 refine U.ps 1 T rfl ?_
 obtain ⟨x49, hx49, hm⟩ := hm
 refine U.r rfl (.none rfl) rfl rfl (by exact Rd.ix T rfl rfl rfl rfl rfl rfl hx49) ?_
 refine U.ps 3 T rfl ?_
 refine U.done (C.nx (C.seq (U.start ?_)))
 refine U.ps 1 T rfl ?_
 refine U.done (C.nx (C.seq (C.seq ?_)))
 refine C.jn (fun (x52 : Bool) => [(2, .p 0 0), (3, .p 1 0), (7, .o 2), (8, .rm kI veLeI x10), (11, .i s40), (12, .i x49), (13, .i (-1)), (49, .sl 1 eI st.Shelves), (50, .i (st.Shelves.length : Int)), (51, .i s40), (65, .b x52)]) (fun (x52 : Bool) => [(0, .box (eApiSite s_1)), (1, .box (eApiState st)), (2, .val (.om kApiApart veB x5))]) 3 hm (fun x52 hm => ?_) (fun J53 hm hJ53 => ?_)
 refine C.nx ?_
 refine C.ite rfl hm (fun hb57 hm => ?_) (fun hb57 hm => ?_)
 refine C.exit (C.ex (C.bex ?_))
 exact St.wk (hJ46 _ hm) (Wk.f [some 0, some 1, some 2] ⟨bX, bX, vL, trivial⟩)
 refine C.skip (C.nx (C.seq (C.seq (U.start ?_))))
 refine U.ps 2 T rfl ?_
 refine U.e rfl (.none rfl) (by exact Eff.c [] (v := true) (T_rules_beside s_1 x49 _ hm) en69 rfl rfl rfl (.eq rfl) trivial rfl rfl rfl rfl rfl rfl (fun _ _ => ⟨(.o _), ⟨.val (.os _ _ _ fun _ => (.cons (.v _) .nil)), trivial⟩⟩) (.inr ⟨rfl, rfl⟩) (fun _ => rfl) (fun _ => rfl) rfl) (fun x60' hm => ?_)
 obtain ⟨x60⟩ := x60'
 refine U.ps 2 T rfl ?_
 refine U.done (C.nx ?_)
 refine C.jn (fun (x61 : Int) => [(2, .p 0 0), (3, .p 1 0), (7, .o 2), (8, .rm kI veLeI x10), (11, .i s40), (13, .i x61), (49, .sl 1 eI st.Shelves), (50, .i (st.Shelves.length : Int)), (51, .i s40)]) (fun (x61 : Int) => [(0, .box (eApiSite s_1)), (1, .box (eApiState st)), (2, .val (.om kApiApart veB x5))]) 3 hm (fun x61 hm => ?_) (fun J62 hm hJ62 => ?_)
 refine C.nx (C.seq (U.start ?_))
 refine U.ps 2 T rfl ?_
 refine U.done (C.nx ?_)
 refine C.ite rfl hm (fun hb105 hm => ?_) (fun hb105 hm => ?_)
 refine C.seq (U.start ?_)
 refine U.ps 5 T rfl ?_
 refine U.done (C.nx (C.ret (C.brt (C.rt (C.rt (C.brt (C.rt ?_)))))))
 exact C.f0 T (rs' := [.i ((s40, x61, true).1), .i ((s40, x61, true).2.1), .b ((s40, x61, true).2.2)]) hβ ⟨(s40, x61, true), hm, rfl, rfl, rfl⟩
 refine C.skip (C.bnx ?_)
 exact St.wk (hJ46 _ hm) (Wk.f [some 0, some 1, some 2] ⟨bX, bX, vL, trivial⟩)
 refine C.block ?_
 refine St.wk (C.loop (fun (s63 : Int × Int) => [(2, .p 0 0), (3, .p 1 0), (7, .o 2), (8, .rm kI veLeI x10), (11, .i s40), (13, .i s63.1), (49, .sl 1 eI st.Shelves), (50, .i (st.Shelves.length : Int)), (51, .i s40), (68, .sl 1 eI x60), (69, .i (x60.length : Int)), (70, .i s63.2)]) (fun (s63 : Int × Int) => [(0, .box (eApiSite s_1)), (1, .box (eApiState st)), (2, .val (.om kApiApart veB x5))]) hm (fun s63 Y64 hm => ?_)) (Wk.mk' [some 0, some 1, some 2] rfl rfl ⟨⟨_, rfl, (.eq rfl)⟩, ⟨_, rfl, (.eq rfl)⟩, ⟨_, rfl, (.eq rfl)⟩, ⟨_, rfl, (.eq rfl)⟩, ⟨_, rfl, (.eq rfl)⟩, ⟨_, rfl, (.eq rfl)⟩, ⟨_, rfl, (.eq rfl)⟩, ⟨_, rfl, (.eq rfl)⟩, ⟨_, rfl, (.eq rfl)⟩, ⟨_, rfl, (.fz rfl rfl rfl (.os fun _ => .cons (.ro rfl) .nil))⟩, ChkG.eqs rfl⟩ ⟨bX, bX, vL, trivial⟩ rfl)
 refine C.seq (U.start ?_)
 refine U.ps 1 T rfl ?_
 refine U.done (C.nx (C.seq ?_))
 refine C.ite rfl hm (fun hb67 hm => ?_) (fun hb67 hm => ?_)
 refine C.skip (C.nx (C.seq ?_))
 refine C.jn (fun (x68 : Int) => [(2, .p 0 0), (3, .p 1 0), (7, .o 2), (8, .rm kI veLeI x10), (11, .i s40), (13, .i x68), (49, .sl 1 eI st.Shelves), (50, .i (st.Shelves.length : Int)), (51, .i s40), (68, .sl 1 eI x60), (69, .i (x60.length : Int)), (70, .i s63.2)]) (fun (x68 : Int) => [(0, .box (eApiSite s_1)), (1, .box (eApiState st)), (2, .val (.om kApiApart veB x5))]) 3 hm (fun x68 hm => ?_) (fun J69 hm hJ69 => ?_)
 refine C.nx (U.start ?_)
 refine U.ps 2 T rfl ?_
 refine U.done (C.nx ?_)
 exact St.wk (C.next hm) (Wk.f [some 0, some 1, some 2] ⟨bX, bX, vL, trivial⟩)
 refine C.block (C.seq (U.start ?_))
 obtain ⟨x72, hx72, hm⟩ := hm
 refine U.r rfl (.none rfl) rfl rfl (by exact Rd.ix T rfl rfl rfl rfl rfl rfl hx72) ?_
 refine U.ps 2 T rfl ?_
 refine U.done (C.nx (C.seq (U.start ?_)))
 refine U.ps 2 T rfl ?_
 refine U.r rfl (.none rfl) rfl rfl (by exact Rd.lk T (ke := kI) (ve := veLeI) (xs := x10) (z0 := []) (x := x72) rfl rfl kt3 zt22 (fun _ => rfl) rfl .rm rfl rfl rfl) ?_
 refine U.ps 2 T rfl ?_
 refine U.done (C.nx ?_)
 refine C.jn (fun (x75 : Int) => [(2, .p 0 0), (3, .p 1 0), (7, .o 2), (8, .rm kI veLeI x10), (11, .i s40), (13, .i x75), (49, .sl 1 eI st.Shelves), (50, .i (st.Shelves.length : Int)), (51, .i s40), (68, .sl 1 eI x60), (69, .i (x60.length : Int)), (70, .i s63.2)]) (fun (x75 : Int) => [(0, .box (eApiSite s_1)), (1, .box (eApiState st)), (2, .val (.om kApiApart veB x5))]) 3 hm (fun x75 hm => ?_) (fun J76 hm hJ76 => ?_)
 refine C.bnx ?_
 exact St.wk (hJ69 _ hm) (Wk.f [some 0, some 1, some 2] ⟨bX, bX, vL, trivial⟩)
 refine C.block ?_
 refine St.wk (C.loop (fun (s77 : Int × Int) => [(2, .p 0 0), (3, .p 1 0), (7, .o 2), (8, .rm kI veLeI x10), (11, .i s40), (13, .i s77.1), (49, .sl 1 eI st.Shelves), (50, .i (st.Shelves.length : Int)), (51, .i s40), (68, .sl 1 eI x60), (69, .i (x60.length : Int)), (70, .i s63.2), (76, .sl 1 eI ((lk x10 x72).getD [])), (77, .i (((lk x10 x72).getD []).length : Int)), (78, .i s77.2)]) (fun (s77 : Int × Int) => [(0, .box (eApiSite s_1)), (1, .box (eApiState st)), (2, .val (.om kApiApart veB x5))]) hm (fun s77 Y78 hm => ?_)) (Wk.f [some 0, some 1, some 2] ⟨bX, bX, vL, trivial⟩)
 refine C.seq (U.start ?_)
 refine U.ps 1 T rfl ?_
 refine U.done (C.nx (C.seq ?_))
 refine C.ite rfl hm (fun hb81 hm => ?_) (fun hb81 hm => ?_)
 refine C.skip (C.nx (C.seq (C.block (C.seq (U.start ?_)))))
 obtain ⟨x84, hx84, hm⟩ := hm
 refine U.r rfl (.none rfl) rfl rfl (by exact Rd.ix T rfl rfl rfl rfl rfl rfl hx84) ?_
 refine U.ps 2 T rfl ?_
 refine U.done (C.nx (C.seq ?_))
 refine C.jn (fun (x85 : Bool) => [(2, .p 0 0), (3, .p 1 0), (7, .o 2), (8, .rm kI veLeI x10), (11, .i s40), (13, .i s77.1), (17, .i x84), (49, .sl 1 eI st.Shelves), (50, .i (st.Shelves.length : Int)), (51, .i s40), (68, .sl 1 eI x60), (69, .i (x60.length : Int)), (70, .i s63.2), (76, .sl 1 eI ((lk x10 x72).getD [])), (77, .i (((lk x10 x72).getD []).length : Int)), (78, .i s77.2), (104, .b x85)]) (fun (x85 : Bool) => [(0, .box (eApiSite s_1)), (1, .box (eApiState st)), (2, .val (.om kApiApart veB x5))]) 3 hm (fun x85 hm => ?_) (fun J86 hm hJ86 => ?_)
 refine C.nx ?_
 refine C.jn (fun (x94 : Int) => [(2, .p 0 0), (3, .p 1 0), (7, .o 2), (8, .rm kI veLeI x10), (11, .i s40), (13, .i x94), (49, .sl 1 eI st.Shelves), (50, .i (st.Shelves.length : Int)), (51, .i s40), (68, .sl 1 eI x60), (69, .i (x60.length : Int)), (70, .i s63.2), (76, .sl 1 eI ((lk x10 x72).getD [])), (77, .i (((lk x10 x72).getD []).length : Int)), (78, .i s77.2)]) (fun (x94 : Int) => [(0, .box (eApiSite s_1)), (1, .box (eApiState st)), (2, .val (.om kApiApart veB x5))]) 3 hm (fun x94 hm => ?_) (fun J95 hm hJ95 => ?_)
 refine C.bnx (C.nx (U.start ?_))
 refine U.ps 2 T rfl ?_
 refine U.done (C.nx ?_)
 exact St.wk (C.next hm) (Wk.f [some 0, some 1, some 2] ⟨bX, bX, vL, trivial⟩)
 refine C.ite rfl hm (fun hb96 hm => ?_) (fun hb96 hm => ?_)
 refine U.start ?_
 refine U.ps 2 T rfl ?_
 refine U.done ?_
 exact St.wk (hJ95 _ hm) (Wk.f [some 0, some 1, some 2] ⟨bX, bX, vL, trivial⟩)
 refine C.skip ?_
 exact St.wk (hJ95 _ hm) (Wk.f [some 0, some 1, some 2] ⟨bX, bX, vL, trivial⟩)
 refine D.beg 9999 [0, 2] [] mix rfl rfl (by kernel_rfl) (by repeat (first | exact NoPanicQ.body | exact NoPanicQ.rnd | refine NoPanicQ.th ?_ | refine NoPanicQ.blk ?_)) (fun hQ hS ws M' => ?_)
 refine D.ps 4 [(0, []), (1, []), (2, []), (3, [])] rfl hQ hS T rfl rfl (by kernel_rfl) ?_
 refine hm.cs (fun hb87 hm => ?_) (fun hb87 hm => ?_)
 refine D.q 4 [] hQ hS rfl (.take 3 true 85 _ hb87 rfl rfl rfl) rfl rfl (by exact Rd.p T rfl) rfl (by kernel_rfl) ?_
 refine D.q 5 [] hQ hS rfl (.take 3 true 85 _ hb87 rfl rfl rfl) rfl rfl (by exact Rd.p T rfl) rfl (by kernel_rfl) ?_
 refine D.q 6 [] hQ hS rfl (.take 3 true 85 _ hb87 rfl rfl rfl) rfl rfl (by exact Rd.p T rfl) rfl (by kernel_rfl) ?_
 refine hm.cs (fun hb88 hm => ?_) (fun hb88 hm => ?_)
 refine D.sq 7 [] hQ hS rfl (.skip 6 false 88 _ hb88 rfl rfl rfl) rfl rfl (by kernel_rfl) ?_
 refine D.sq 8 [] hQ hS rfl (.skip 6 false 88 _ hb88 rfl rfl rfl) rfl rfl (by kernel_rfl) ?_
 refine D.sq 9 [] hQ hS rfl (.skip 6 false 88 _ hb88 rfl rfl rfl) rfl rfl (by kernel_rfl) ?_
 refine D.q 10 [] hQ hS rfl (.take 3 true 85 _ hb87 rfl rfl rfl) rfl rfl (by exact Rd.pk rfl rfl hb88 rfl) rfl (by kernel_rfl) ?_
 refine D.q 11 [] hQ hS rfl (.none rfl) rfl rfl (by exact Rd.pk rfl rfl hb87 rfl) rfl (by kernel_rfl) ?_
 refine D.ps 1 [(12, [])] rfl hQ hS T rfl rfl (by kernel_rfl) ?_
 refine D.q 13 [] hQ hS rfl (.take 12 true 94 _ rfl rfl rfl rfl) rfl rfl (by exact Rd.p T rfl) rfl (by kernel_rfl) ?_
 refine D.q 14 [] hQ hS rfl (.take 12 true 94 _ rfl rfl rfl rfl) rfl rfl (by exact Rd.l T rfl rfl rfl) rfl (by kernel_rfl) ?_
 refine D.q 15 [] hQ hS rfl (.take 12 true 94 _ rfl rfl rfl rfl) rfl rfl (by exact Rd.p T rfl) rfl (by kernel_rfl) ?_
 refine D.q 17 [] hQ hS rfl (.take 12 true 94 _ rfl rfl rfl rfl) rfl rfl (by exact Rd.l T rfl rfl rfl) rfl (by kernel_rfl) ?_
 refine D.q 18 [] hQ hS rfl (.take 12 true 94 _ rfl rfl rfl rfl) rfl rfl (by exact Rd.p T rfl) rfl (by kernel_rfl) ?_
 refine D.e 16 rfl (.take 12 true 94 _ rfl rfl rfl rfl) (by exact Eff.k (T_rules_Class s_1 s40 _ hm) en67 rfl rfl rfl (.eq rfl) (fun _ _ => ⟨(.v _), trivial⟩)) (by kernel_rfl) rfl rfl (fun x89' hm => ?_)
 obtain ⟨x89⟩ := x89'
 refine D.e 19 rfl (.take 12 true 94 _ rfl rfl rfl rfl) (by exact Eff.k (T_rules_Class s_1 x84 _ hm) en67 rfl rfl rfl (.eq rfl) (fun _ _ => ⟨(.v _), trivial⟩)) (by kernel_rfl) rfl rfl (fun x90' hm => ?_)
 obtain ⟨x90⟩ := x90'
 refine D.q 20 [] hQ hS rfl (.take 12 true 94 _ rfl rfl rfl rfl) rfl rfl (by exact Rd.p T rfl) rfl (by kernel_rfl) ?_
 refine D.q 21 [] hQ hS rfl (.take 12 true 94 _ rfl rfl rfl rfl) rfl rfl (by exact Rd.lk T (ke := kApiApart) (ve := veB) (xs := x5) (z0 := false) (x := ({ A := x89, B := x90 : ApiApart })) rfl rfl kt98 zt4 (fun _ => rfl) rfl (.o rfl) rfl rfl rfl) rfl (by kernel_rfl) ?_
 refine D.q 22 [] hQ hS rfl (.none rfl) rfl rfl (by exact Rd.pk rfl rfl rfl rfl) rfl (by kernel_rfl) ?_
 refine D.done (by kernel_rfl) ?_
 exact St.wk (hJ86 _ hm) (Wk.f [some 0, some 1, some 2] ⟨bX, bX, vL, trivial⟩)
 refine D.q 7 [] hQ hS rfl (.take 6 false 88 _ hb88 rfl rfl rfl) rfl rfl (by exact Rd.p T rfl) rfl (by kernel_rfl) ?_
 refine D.q 8 [] hQ hS rfl (.take 6 false 88 _ hb88 rfl rfl rfl) rfl rfl (by exact Rd.p T rfl) rfl (by kernel_rfl) ?_
 refine D.q 9 [] hQ hS rfl (.take 6 false 88 _ hb88 rfl rfl rfl) rfl rfl (by exact Rd.p T rfl) rfl (by kernel_rfl) ?_
 refine D.q 10 [] hQ hS rfl (.take 3 true 85 _ hb87 rfl rfl rfl) rfl rfl (by exact Rd.pk' rfl rfl hb88 rfl) rfl (by kernel_rfl) ?_
 refine D.q 11 [] hQ hS rfl (.none rfl) rfl rfl (by exact Rd.pk rfl rfl hb87 rfl) rfl (by kernel_rfl) ?_
 refine D.ps 1 [(12, [])] rfl hQ hS T rfl rfl (by kernel_rfl) ?_
 refine hm.cs (fun hb91 hm => ?_) (fun hb91 hm => ?_)
 refine D.q 13 [] hQ hS rfl (.take 12 true 94 _ hb91 rfl rfl rfl) rfl rfl (by exact Rd.p T rfl) rfl (by kernel_rfl) ?_
 refine D.q 14 [] hQ hS rfl (.take 12 true 94 _ hb91 rfl rfl rfl) rfl rfl (by exact Rd.l T rfl rfl rfl) rfl (by kernel_rfl) ?_
 refine D.q 15 [] hQ hS rfl (.take 12 true 94 _ hb91 rfl rfl rfl) rfl rfl (by exact Rd.p T rfl) rfl (by kernel_rfl) ?_
 refine D.q 17 [] hQ hS rfl (.take 12 true 94 _ hb91 rfl rfl rfl) rfl rfl (by exact Rd.l T rfl rfl rfl) rfl (by kernel_rfl) ?_
 refine D.q 18 [] hQ hS rfl (.take 12 true 94 _ hb91 rfl rfl rfl) rfl rfl (by exact Rd.p T rfl) rfl (by kernel_rfl) ?_
 refine D.e 16 rfl (.take 12 true 94 _ hb91 rfl rfl rfl) (by exact Eff.k (T_rules_Class s_1 s40 _ hm) en67 rfl rfl rfl (.eq rfl) (fun _ _ => ⟨(.v _), trivial⟩)) (by kernel_rfl) rfl rfl (fun x92' hm => ?_)
 obtain ⟨x92⟩ := x92'
 refine D.e 19 rfl (.take 12 true 94 _ hb91 rfl rfl rfl) (by exact Eff.k (T_rules_Class s_1 x84 _ hm) en67 rfl rfl rfl (.eq rfl) (fun _ _ => ⟨(.v _), trivial⟩)) (by kernel_rfl) rfl rfl (fun x93' hm => ?_)
 obtain ⟨x93⟩ := x93'
 refine D.q 20 [] hQ hS rfl (.take 12 true 94 _ hb91 rfl rfl rfl) rfl rfl (by exact Rd.p T rfl) rfl (by kernel_rfl) ?_
 refine D.q 21 [] hQ hS rfl (.take 12 true 94 _ hb91 rfl rfl rfl) rfl rfl (by exact Rd.lk T (ke := kApiApart) (ve := veB) (xs := x5) (z0 := false) (x := ({ A := x92, B := x93 : ApiApart })) rfl rfl kt98 zt4 (fun _ => rfl) rfl (.o rfl) rfl rfl rfl) rfl (by kernel_rfl) ?_
 refine D.q 22 [] hQ hS rfl (.none rfl) rfl rfl (by exact Rd.pk rfl rfl hb91 rfl) rfl (by kernel_rfl) ?_
 refine D.done (by kernel_rfl) ?_
 exact St.wk (hJ86 _ hm) (Wk.f [some 0, some 1, some 2] ⟨bX, bX, vL, trivial⟩)
 refine D.sq 13 [] hQ hS rfl (.skip 12 true 94 _ hb91 rfl rfl rfl) rfl rfl (by kernel_rfl) ?_
 refine D.sq 14 [] hQ hS rfl (.skip 12 true 94 _ hb91 rfl rfl rfl) rfl rfl (by kernel_rfl) ?_
 refine D.sq 15 [] hQ hS rfl (.skip 12 true 94 _ hb91 rfl rfl rfl) rfl rfl (by kernel_rfl) ?_
 refine D.sq 16 [] hQ hS rfl (.skip 12 true 94 _ hb91 rfl rfl rfl) rfl rfl (by kernel_rfl) ?_
 refine D.sq 17 [] hQ hS rfl (.skip 12 true 94 _ hb91 rfl rfl rfl) rfl rfl (by kernel_rfl) ?_
 refine D.sq 18 [] hQ hS rfl (.skip 12 true 94 _ hb91 rfl rfl rfl) rfl rfl (by kernel_rfl) ?_
 refine D.sq 19 [] hQ hS rfl (.skip 12 true 94 _ hb91 rfl rfl rfl) rfl rfl (by kernel_rfl) ?_
 refine D.sq 20 [] hQ hS rfl (.skip 12 true 94 _ hb91 rfl rfl rfl) rfl rfl (by kernel_rfl) ?_
 refine D.sq 21 [] hQ hS rfl (.skip 12 true 94 _ hb91 rfl rfl rfl) rfl rfl (by kernel_rfl) ?_
 refine D.q 22 [] hQ hS rfl (.none rfl) rfl rfl (by exact Rd.pk' rfl rfl hb91 rfl) rfl (by kernel_rfl) ?_
 refine D.done (by kernel_rfl) ?_
 exact St.wk (hJ86 _ hm) (Wk.f [some 0, some 1, some 2] ⟨bX, bX, vL, trivial⟩)
 refine D.sq 4 [] hQ hS rfl (.skip 3 true 85 _ hb87 rfl rfl rfl) rfl rfl (by kernel_rfl) ?_
 refine D.sq 5 [] hQ hS rfl (.skip 3 true 85 _ hb87 rfl rfl rfl) rfl rfl (by kernel_rfl) ?_
 refine D.sq 6 [] hQ hS rfl (.skip 3 true 85 _ hb87 rfl rfl rfl) rfl rfl (by kernel_rfl) ?_
 refine D.sq 7 [] hQ hS rfl (.und 6 false 88 rfl rfl rfl) rfl rfl (by kernel_rfl) ?_
 refine D.sq 8 [] hQ hS rfl (.und 6 false 88 rfl rfl rfl) rfl rfl (by kernel_rfl) ?_
 refine D.sq 9 [] hQ hS rfl (.und 6 false 88 rfl rfl rfl) rfl rfl (by kernel_rfl) ?_
 refine D.sq 10 [] hQ hS rfl (.skip 3 true 85 _ hb87 rfl rfl rfl) rfl rfl (by kernel_rfl) ?_
 refine D.q 11 [] hQ hS rfl (.none rfl) rfl rfl (by exact Rd.pk' rfl rfl hb87 rfl) rfl (by kernel_rfl) ?_
 refine D.ps 1 [(12, [])] rfl hQ hS T rfl rfl (by kernel_rfl) ?_
 refine D.sq 13 [] hQ hS rfl (.skip 12 true 94 _ rfl rfl rfl rfl) rfl rfl (by kernel_rfl) ?_
 refine D.sq 14 [] hQ hS rfl (.skip 12 true 94 _ rfl rfl rfl rfl) rfl rfl (by kernel_rfl) ?_
 refine D.sq 15 [] hQ hS rfl (.skip 12 true 94 _ rfl rfl rfl rfl) rfl rfl (by kernel_rfl) ?_
 refine D.sq 16 [] hQ hS rfl (.skip 12 true 94 _ rfl rfl rfl rfl) rfl rfl (by kernel_rfl) ?_
 refine D.sq 17 [] hQ hS rfl (.skip 12 true 94 _ rfl rfl rfl rfl) rfl rfl (by kernel_rfl) ?_
 refine D.sq 18 [] hQ hS rfl (.skip 12 true 94 _ rfl rfl rfl rfl) rfl rfl (by kernel_rfl) ?_
 refine D.sq 19 [] hQ hS rfl (.skip 12 true 94 _ rfl rfl rfl rfl) rfl rfl (by kernel_rfl) ?_
 refine D.sq 20 [] hQ hS rfl (.skip 12 true 94 _ rfl rfl rfl rfl) rfl rfl (by kernel_rfl) ?_
 refine D.sq 21 [] hQ hS rfl (.skip 12 true 94 _ rfl rfl rfl rfl) rfl rfl (by kernel_rfl) ?_
 refine D.q 22 [] hQ hS rfl (.none rfl) rfl rfl (by exact Rd.pk' rfl rfl rfl rfl) rfl (by kernel_rfl) ?_
 refine D.done (by kernel_rfl) ?_
 exact St.wk (hJ86 _ hm) (Wk.f [some 0, some 1, some 2] ⟨bX, bX, vL, trivial⟩)
 refine C.exit (C.ex (C.ex (C.bex ?_)))
 exact St.wk (hJ76 _ hm) (Wk.f [some 0, some 1, some 2] ⟨bX, bX, vL, trivial⟩)
 refine C.exit (C.ex (C.ex (C.bex ?_)))
 exact St.wk (hJ62 _ hm) (Wk.f [some 0, some 1, some 2] ⟨bX, bX, vL, trivial⟩)
 refine U.start ?_
 refine U.ps 2 T rfl ?_
 refine U.e rfl (.none rfl) (by exact Eff.k (T_rules_Class s_1 s40 _ hm) en67 rfl rfl rfl (.eq rfl) (fun _ _ => ⟨(.v _), trivial⟩)) (fun x54' hm => ?_)
 obtain ⟨x54⟩ := x54'
 refine U.ps 2 T rfl ?_
 refine hm.cs (fun hb55 hm => ?_) (fun hb55 hm => ?_)
 refine U.sks 4 4 false 60 hb55 rfl rfl rfl ?_
 refine U.r rfl (.none rfl) rfl rfl (by exact Rd.pk rfl rfl hb55 rfl) ?_
 refine U.done ?_
 exact St.wk (hJ53 _ hm) (Wk.f [some 0, some 1, some 2] ⟨bX, bX, vL, trivial⟩)
 refine U.pg 2 4 false 60 hb55 T rfl rfl rfl rfl ?_
 refine U.e rfl (.take 4 false 60 _ hb55 rfl rfl rfl) (by exact Eff.k (T_rules_Carried st s40 _ hm) en68 rfl rfl rfl (.eq rfl) (fun _ _ => ⟨(.v _), trivial⟩)) (fun x56' hm => ?_)
 obtain ⟨x56⟩ := x56'
 refine U.pg 1 4 false 60 hb55 T rfl rfl rfl rfl ?_
 refine U.r rfl (.none rfl) rfl rfl (by exact Rd.pk' rfl rfl hb55 rfl) ?_
 refine U.done ?_
 exact St.wk (hJ53 _ hm) (Wk.f [some 0, some 1, some 2] ⟨bX, bX, vL, trivial⟩)
 refine C.exit (C.ex (C.ex (C.bex ?_)))
 exact St.wk (hJ39 _ hm) (Wk.mk' [] rfl rfl trivial trivial rfl)
 refine C.block ?_
 refine St.wk (C.loop (fun (s12 : List (Int × List Int) × Int) => [(2, .p 0 0), (3, .p 1 0), (7, .o 2), (8, .o 3), (22, .sl 1 eI st.Shelves), (23, .i (st.Shelves.length : Int)), (24, .i s12.2)]) (fun (s12 : List (Int × List Int) × Int) => [(0, .box (eApiSite s_1)), (1, .box (eApiState st)), (2, .val (.om kApiApart veB x5)), (3, .val (.om kI veOeI s12.1))]) hm (fun s12 Y13 hm => ?_)) (Wk.f [some 0, some 1, some 2, some 3] ⟨bX, bX, vL, vL, trivial⟩)
 refine C.seq (U.start ?_)
 refine U.ps 1 T rfl ?_
 refine U.done (C.nx (C.seq ?_))
 refine C.ite rfl hm (fun hb16 hm => ?_) (fun hb16 hm => ?_)
 refine C.skip (C.nx (C.seq (C.block (C.seq (U.start ?_)))))
 refine U.ps 1 T rfl ?_
 obtain ⟨x19, hx19, hm⟩ := hm
 refine U.r rfl (.none rfl) rfl rfl (by exact Rd.ix T rfl rfl rfl rfl rfl rfl hx19) ?_
 refine U.ps 3 T rfl ?_
 refine U.done (C.nx (C.seq ?_))
 refine C.jn (fun (x20 : Bool) => [(2, .p 0 0), (3, .p 1 0), (7, .o 2), (8, .o 3), (9, .i s12.2), (10, .i x19), (22, .sl 1 eI st.Shelves), (23, .i (st.Shelves.length : Int)), (24, .i s12.2), (38, .b x20)]) (fun (x20 : Bool) => [(0, .box (eApiSite s_1)), (1, .box (eApiState st)), (2, .val (.om kApiApart veB x5)), (3, .val (.om kI veOeI s12.1))]) 4 hm (fun x20 hm => ?_) (fun J21 hm hJ21 => ?_)
 refine C.nx ?_
 refine C.jn (fun (x25 : List (Int × List Int)) => [(2, .p 0 0), (3, .p 1 0), (7, .o 2), (8, .o 3), (22, .sl 1 eI st.Shelves), (23, .i (st.Shelves.length : Int)), (24, .i s12.2)]) (fun (x25 : List (Int × List Int)) => [(0, .box (eApiSite s_1)), (1, .box (eApiState st)), (2, .val (.om kApiApart veB x5)), (3, .val (.om kI veOeI x25))]) 4 hm (fun x25 hm => ?_) (fun J26 hm hJ26 => ?_)
 refine C.bnx (C.nx (U.start ?_))
 refine U.ps 2 T rfl ?_
 refine U.done (C.nx ?_)
 exact St.wk (C.next hm) (Wk.f [some 0, some 1, some 2, some 3] ⟨bX, bX, vL, vL, trivial⟩)
 refine C.ite rfl hm (fun hb27 hm => ?_) (fun hb27 hm => ?_)
 refine C.jn (fun (x28 : List (Int × List Int)) => [(2, .p 0 0), (3, .p 1 0), (7, .o 2), (8, .o 3), (22, .sl 1 eI st.Shelves), (23, .i (st.Shelves.length : Int)), (24, .i s12.2)]) (fun (x28 : List (Int × List Int)) => [(0, .box (eApiSite s_1)), (1, .box (eApiState st)), (2, .val (.om kApiApart veB x5)), (3, .val (.om kI veOeI x28))]) 4 hm (fun x28 hm => ?_) (fun J29 hm hJ29 => ?_)
 exact St.wk (hJ26 _ hm) (Wk.f [some 0, some 1, some 2, some 3] ⟨bX, bX, vL, vL, trivial⟩)
 refine U.start ?_
 refine U.ps 4 T rfl ?_
 rcases lk_cases s12.1 x19 with ⟨x30, hx31⟩ | hx31
 replace hm := hm.1 x30 hx31
 refine St.lendm (l := 3) rfl hx31 rfl ?_
 refine U.r rfl (.none rfl) rfl rfl (by exact Rd.lkl T rfl rfl kt3 rfl rfl (.head _) rfl rfl rfl rfl) ?_
 refine U.ps 1 T rfl ?_
 refine U.e1 rfl (.none rfl) (by exact Eff1.bs T (enc := eI) (xs := ([s12.2] : List Int)) rfl rfl rfl rfl rfl rfl rfl rfl rfl rfl (fun _ _ => rfl) rfl rfl) ?_
 obtain ⟨hx32, hm⟩ := hm
 refine U.e1 rfl (.none rfl) (by exact Eff1.ap T rfl rfl rfl rfl rfl rfl (.inr ⟨_, rfl, rfl⟩) rfl rfl rfl (fun _ => rfl) rfl hx32) ?_
 refine U.e1 rfl (.none rfl) (by exact Eff1.mul T (x := x19) rfl rfl kt3 rfl rfl (fun _ h => nomatch h) rfl rfl rfl rfl) ?_
 refine U.done ?_
 refine St.putm (l := 3) (l' := 6) (y := (x30 ++ ([s12.2] : List Int))) rfl rfl rfl rfl ?_
 exact St.wk (hJ29 _ hm) (Wk.f [some 0, some 1, some 2, some 3] ⟨bX, bX, vL, vL, trivial⟩)
 replace hm := hm.2 hx31
 refine U.r rfl (.none rfl) rfl rfl (by exact Rd.lkn (z := .slice none 0 0) T rfl rfl kt3 (fun w => by kernel_rfl) rfl rfl hx31 rfl rfl) ?_
 refine U.ps 1 T rfl ?_
 refine U.e1 rfl (.none rfl) (by exact Eff1.bs T (enc := eI) (xs := ([s12.2] : List Int)) rfl rfl rfl rfl rfl rfl rfl rfl rfl rfl (fun _ _ => rfl) rfl rfl) ?_
 obtain ⟨hx33, hm⟩ := hm
 refine U.e1 rfl (.none rfl) (by exact Eff1.apn T rfl rfl rfl rfl rfl (.inr ⟨_, rfl, rfl⟩) rfl rfl rfl (fun _ => rfl) rfl (fun _ => rfl) hx33) ?_
 refine U.e1 rfl (.none rfl) (by exact Eff1.mun T (x := x19) [] rfl rfl kt3 rfl rfl hx31 rfl rfl rfl rfl) ?_
 refine U.done ?_
 refine St.putm (l := 3) (l' := 5) (y := ([s12.2] : List Int)) rfl rfl rfl rfl ?_
 exact St.wk (hJ29 _ hm) (Wk.f [some 0, some 1, some 2, some 3] ⟨bX, bX, vL, vL, trivial⟩)
 refine C.skip ?_
 exact St.wk (hJ26 _ hm) (Wk.f [some 0, some 1, some 2, some 3] ⟨bX, bX, vL, vL, trivial⟩)
 refine U.start ?_
 refine U.ps 2 T rfl ?_
 refine U.e rfl (.none rfl) (by exact Eff.k (T_rules_Class s_1 s12.2 _ hm) en67 rfl rfl rfl (.eq rfl) (fun _ _ => ⟨(.v _), trivial⟩)) (fun x22' hm => ?_)
 obtain ⟨x22⟩ := x22'
 refine U.ps 2 T rfl ?_
 refine hm.cs (fun hb23 hm => ?_) (fun hb23 hm => ?_)
 refine U.sks 4 4 true 33 (ntF hb23) rfl rfl rfl ?_
 refine U.r rfl (.none rfl) rfl rfl (by exact Rd.pk' rfl rfl (ntF hb23) rfl) ?_
 refine U.done ?_
 exact St.wk (hJ21 _ hm) (Wk.f [some 0, some 1, some 2, some 3] ⟨bX, bX, vL, vL, trivial⟩)
 refine U.pg 2 4 true 33 (ntT hb23) T rfl rfl rfl rfl ?_
 refine U.e rfl (.take 4 true 33 _ (ntT hb23) rfl rfl rfl) (by exact Eff.k (T_rules_Carried st s12.2 _ hm) en68 rfl rfl rfl (.eq rfl) (fun _ _ => ⟨(.v _), trivial⟩)) (fun x24' hm => ?_)
 obtain ⟨x24⟩ := x24'
 refine U.pg 1 4 true 33 (ntT hb23) T rfl rfl rfl rfl ?_
 refine U.r rfl (.none rfl) rfl rfl (by exact Rd.pk rfl rfl (ntT hb23) rfl) ?_
 refine U.done ?_
 exact St.wk (hJ21 _ hm) (Wk.f [some 0, some 1, some 2, some 3] ⟨bX, bX, vL, vL, trivial⟩)
 refine C.exit (C.ex (C.ex (C.bex ?_)))
 exact St.wk (hJ11 _ hm) (Wk.f [some 0, some 1, some 2, some 3] ⟨bX, bX, vL, vL, trivial⟩)
theorem T_slices_Equal_int_int (s1_1 : List Int) (s2_1 : List Int) (post : Bool → Prop) (hm : V_slices_Equal_int_int s1_1 s2_1 post) :
    Tr Tryz.prog 62 [.sl 1 eI s1_1, .sl 1 eI s2_1] [] 0 (fun A H' k => ∃ y, post y ∧ A = (.b y) ∧ H' = [] ∧ k = 0) := by
 refine Tr.intro (n := 26) Tryz.func62 rfl Tryz.ntmps62 rfl (fun w0 ok F β hβ => ?_)
 unfold V_slices_Equal_int_int at hm
 refine C.seq (U.start ?_)
 refine U.ps 1 T rfl ?_
 refine U.done (C.nx (C.seq (C.seq (U.start ?_))))
 refine U.ps 5 T rfl ?_
 refine U.done (C.nx ?_)
 refine C.ite rfl hm (fun hb5 hm => ?_) (fun hb5 hm => ?_)
 refine C.seq (U.start ?_)
 refine U.ps 1 T rfl ?_
 refine U.done (C.nx (C.ret (C.rt ?_)))
 exact C.f0 T (rs' := [.b false]) hβ ⟨false, hm, rfl, rfl, rfl⟩
 refine C.skip (C.nx (C.seq (C.seq (U.start ?_))))
 refine U.ps 3 T rfl ?_
 refine U.done (C.nx ?_)
 refine C.jn (fun (x10 : Unit) => []) (fun (x10 : Unit) => []) 0 hm (fun x10 hm => ?_) (fun J11 hm hJ11 => ?_)
 refine C.nx (C.seq (U.start ?_))
 refine U.ps 1 T rfl ?_
 refine U.done (C.nx (C.ret ?_))
 exact C.f0 T (rs' := [.b true]) hβ ⟨true, hm, rfl, rfl, rfl⟩
 refine C.block ?_
 refine St.wk (C.loop (fun (s12 : Int) => [(0, .sl 1 eI s1_1), (1, .sl 1 eI s2_1), (12, .i (s1_1.length : Int)), (13, .i s12)]) (fun (s12 : Int) => []) hm (fun s12 Y13 hm => ?_)) (Wk.e)
 refine C.seq (U.start ?_)
 refine U.ps 1 T rfl ?_
 refine U.done (C.nx (C.seq ?_))
 refine C.ite rfl hm (fun hb16 hm => ?_) (fun hb16 hm => ?_)
 refine C.skip (C.nx (C.seq (C.block (C.seq (U.start ?_)))))
 refine U.ps 2 T rfl ?_
 refine U.done (C.nx (C.seq ?_))
 refine D.beg 9999 [] [] mix rfl rfl (by kernel_rfl) (by repeat (first | exact NoPanicQ.body | exact NoPanicQ.rnd | refine NoPanicQ.th ?_ | refine NoPanicQ.blk ?_)) (fun hQ hS ws M' => ?_)
 refine D.ps 2 [(0, []), (1, [])] rfl hQ hS T rfl rfl (by kernel_rfl) ?_
 obtain ⟨x21, hx21, hm⟩ := hm
 refine D.q 2 [] hQ hS rfl (.none rfl) rfl rfl (by exact Rd.ix T rfl rfl rfl rfl rfl rfl hx21) rfl (by kernel_rfl) ?_
 refine D.ps 3 [(3, []), (4, []), (5, [])] rfl hQ hS T rfl rfl (by kernel_rfl) ?_
 obtain ⟨x22, hx22, hm⟩ := hm
 refine D.q 6 [] hQ hS rfl (.none rfl) rfl rfl (by exact Rd.ix T rfl rfl rfl rfl rfl rfl hx22) rfl (by kernel_rfl) ?_
 refine D.ps 2 [(7, []), (8, [])] rfl hQ hS T rfl rfl (by kernel_rfl) ?_
 refine D.done (by kernel_rfl) ?_
 refine C.nx ?_
 refine C.ite rfl hm (fun hb23 hm => ?_) (fun hb23 hm => ?_)
 refine C.seq (U.start ?_)
 refine U.ps 1 T rfl ?_
 refine U.done (C.nx (C.ret (C.brt (C.rt (C.rt (C.brt (C.rt ?_)))))))
 exact C.f0 T (rs' := [.b false]) hβ ⟨false, hm, rfl, rfl, rfl⟩
 refine C.skip (C.bnx (C.nx (U.start ?_)))
 refine U.ps 2 T rfl ?_
 refine U.done (C.nx ?_)
 exact St.wk (C.next hm) (Wk.e)
 refine C.exit (C.ex (C.ex (C.bex ?_)))
 exact St.wk (hJ11 _ hm) (Wk.mk' [] rfl rfl trivial trivial rfl)
theorem T_slices_Equal_api_Stuck_api_Stuck (s1_1 : List ApiStuck) (s2_1 : List ApiStuck) (post : Bool → Prop) (hm : V_slices_Equal_api_Stuck_api_Stuck s1_1 s2_1 post) :
    Tr Tryz.prog 63 [.sl 2 eApiStuck s1_1, .sl 2 eApiStuck s2_1] [] 0 (fun A H' k => ∃ y, post y ∧ A = (.b y) ∧ H' = [] ∧ k = 0) := by
 refine Tr.intro (n := 26) Tryz.func63 rfl Tryz.ntmps63 rfl (fun w0 ok F β hβ => ?_)
 unfold V_slices_Equal_api_Stuck_api_Stuck at hm
 refine C.seq (U.start ?_)
 refine U.ps 1 T rfl ?_
 refine U.done (C.nx (C.seq (C.seq (U.start ?_))))
 refine U.ps 5 T rfl ?_
 refine U.done (C.nx ?_)
 refine C.ite rfl hm (fun hb5 hm => ?_) (fun hb5 hm => ?_)
 refine C.seq (U.start ?_)
 refine U.ps 1 T rfl ?_
 refine U.done (C.nx (C.ret (C.rt ?_)))
 exact C.f0 T (rs' := [.b false]) hβ ⟨false, hm, rfl, rfl, rfl⟩
 refine C.skip (C.nx (C.seq (C.seq (U.start ?_))))
 refine U.ps 3 T rfl ?_
 refine U.done (C.nx ?_)
 refine C.jn (fun (x10 : Unit) => []) (fun (x10 : Unit) => []) 0 hm (fun x10 hm => ?_) (fun J11 hm hJ11 => ?_)
 refine C.nx (C.seq (U.start ?_))
 refine U.ps 1 T rfl ?_
 refine U.done (C.nx (C.ret ?_))
 exact C.f0 T (rs' := [.b true]) hβ ⟨true, hm, rfl, rfl, rfl⟩
 refine C.block ?_
 refine St.wk (C.loop (fun (s12 : Int) => [(0, .sl 2 eApiStuck s1_1), (1, .sl 2 eApiStuck s2_1), (12, .i (s1_1.length : Int)), (13, .i s12)]) (fun (s12 : Int) => []) hm (fun s12 Y13 hm => ?_)) (Wk.e)
 refine C.seq (U.start ?_)
 refine U.ps 1 T rfl ?_
 refine U.done (C.nx (C.seq ?_))
 refine C.ite rfl hm (fun hb16 hm => ?_) (fun hb16 hm => ?_)
 refine C.skip (C.nx (C.seq (C.block (C.seq (U.start ?_)))))
 refine U.ps 2 T rfl ?_
 refine U.done (C.nx (C.seq ?_))
 refine D.beg 9999 [] [] mix rfl rfl (by kernel_rfl) (by repeat (first | exact NoPanicQ.body | exact NoPanicQ.rnd | refine NoPanicQ.th ?_ | refine NoPanicQ.blk ?_)) (fun hQ hS ws M' => ?_)
 refine D.ps 2 [(0, []), (1, [])] rfl hQ hS T rfl rfl (by kernel_rfl) ?_
 obtain ⟨x21, hx21, hm⟩ := hm
 refine D.q 2 [] hQ hS rfl (.none rfl) rfl rfl (by exact Rd.ix T rfl rfl rfl rfl rfl rfl hx21) rfl (by kernel_rfl) ?_
 refine D.ps 3 [(3, []), (4, []), (5, [])] rfl hQ hS T rfl rfl (by kernel_rfl) ?_
 obtain ⟨x22, hx22, hm⟩ := hm
 refine D.q 6 [] hQ hS rfl (.none rfl) rfl rfl (by exact Rd.ix T rfl rfl rfl rfl rfl rfl hx22) rfl (by kernel_rfl) ?_
 refine D.ps 1 [(7, [])] rfl hQ hS T rfl rfl (by kernel_rfl) ?_
 refine D.q 8 [] hQ hS rfl (.none rfl) rfl rfl (by exact Rd.nes T rfl rfl eqt72 rfl rfl rfl) rfl (by kernel_rfl) ?_
 refine D.done (by kernel_rfl) ?_
 refine C.nx ?_
 refine C.ite rfl hm (fun hb23 hm => ?_) (fun hb23 hm => ?_)
 refine C.seq (U.start ?_)
 refine U.ps 1 T rfl ?_
 refine U.done (C.nx (C.ret (C.brt (C.rt (C.rt (C.brt (C.rt ?_)))))))
 exact C.f0 T (rs' := [.b false]) hβ ⟨false, hm, rfl, rfl, rfl⟩
 refine C.skip (C.bnx (C.nx (U.start ?_)))
 refine U.ps 2 T rfl ?_
 refine U.done (C.nx ?_)
 exact St.wk (C.next hm) (Wk.e)
 refine C.exit (C.ex (C.ex (C.bex ?_)))
 exact St.wk (hJ11 _ hm) (Wk.mk' [] rfl rfl trivial trivial rfl)
theorem T_body_Same (a : ApiState) (b : ApiState) (post : Bool → Prop) (hm : V_body_Same a b post) :
    Tr Tryz.prog 27 [.agg (eApiState a), .agg (eApiState b)] [] 0 (fun A H' k => ∃ y, post y ∧ A = (.b y) ∧ H' = [] ∧ k = 0) := by
 refine Tr.intro (n := 67) Tryz.func27 rfl Tryz.ntmps27 rfl (fun w0 ok F β hβ => ?_)
 unfold V_body_Same at hm
 refine C.seq (U.start ?_)
 refine U.e1 rfl (.none rfl) (by exact Eff1.box rfl rfl rfl rfl rfl) ?_
 refine U.e1 rfl (.none rfl) (by exact Eff1.box rfl rfl rfl rfl rfl) ?_
 refine U.ps 1 T rfl ?_
 refine U.done (C.nx (C.seq ?_))
 refine C.jn (fun (x3 : Bool) => [(2, .p 0 0), (3, .p 1 0), (5, .b x3)]) (fun (x3 : Bool) => [(0, .box (eApiState a)), (1, .box (eApiState b))]) 2 hm (fun x3 hm => ?_) (fun J4 hm hJ4 => ?_)
 refine C.nx (C.seq (C.seq ?_))
 refine C.jn (fun (x9 : Bool) => [(2, .p 0 0), (3, .p 1 0), (36, .b x9)]) (fun (x9 : Bool) => [(0, .box (eApiState a)), (1, .box (eApiState b))]) 2 hm (fun x9 hm => ?_) (fun J10 hm hJ10 => ?_)
 refine C.nx ?_
 refine C.ite rfl hm (fun hb12 hm => ?_) (fun hb12 hm => ?_)
 refine C.seq (U.start ?_)
 refine U.ps 1 T rfl ?_
 refine U.done (C.nx (C.ret (C.rt ?_)))
 exact C.f0 T (rs' := [.b false]) hβ ⟨false, hm, rfl, rfl, rfl⟩
 refine C.skip (C.nx (C.seq (C.seq (U.start ?_))))
 refine U.ps 4 T rfl ?_
 refine U.done (C.nx ?_)
 refine C.jn (fun (x17 : Unit) => [(2, .p 0 0), (3, .p 1 0)]) (fun (x17 : Unit) => [(0, .box (eApiState a)), (1, .box (eApiState b))]) 2 hm (fun x17 hm => ?_) (fun J18 hm hJ18 => ?_)
 refine C.nx (C.seq ?_)
 refine C.jn (fun (x35 : Bool) => [(4, .b x35)]) (fun (x35 : Bool) => []) 0 hm (fun x35 hm => ?_) (fun J36 hm hJ36 => ?_)
 refine C.nx (C.ret ?_)
 exact C.f0 T (rs' := [.b x35]) hβ ⟨x35, hm, rfl, rfl, rfl⟩
 refine U.start ?_
 refine U.ps 4 T rfl ?_
 refine U.e rfl (.none rfl) (by exact Eff.k (T_slices_Equal_int_int a.Dead b.Dead _ hm) en62 rfl rfl rfl (.eq rfl) (fun _ _ => ⟨(.v _), trivial⟩)) (fun x37' hm => ?_)
 obtain ⟨x37⟩ := x37'
 refine U.ps 1 T rfl ?_
 refine hm.cs (fun hb38 hm => ?_) (fun hb38 hm => ?_)
 refine U.pg 4 5 true 60 hb38 T rfl rfl rfl rfl ?_
 refine U.e rfl (.take 5 true 60 _ hb38 rfl rfl rfl) (by exact Eff.k (T_slices_Equal_api_Stuck_api_Stuck a.Stuck b.Stuck _ hm) en63 rfl rfl rfl (.eq rfl) (fun _ _ => ⟨(.v _), trivial⟩)) (fun x39' hm => ?_)
 obtain ⟨x39⟩ := x39'
 refine U.r rfl (.none rfl) rfl rfl (by exact Rd.pk rfl rfl hb38 rfl) ?_
 refine U.ps 1 T rfl ?_
 refine U.done ?_
 exact St.wk (hJ36 _ hm) (Wk.e)
 refine U.sks 5 5 true 60 hb38 rfl rfl rfl ?_
 refine U.r rfl (.none rfl) rfl rfl (by exact Rd.pk' rfl rfl hb38 rfl) ?_
 refine U.ps 1 T rfl ?_
 refine U.done ?_
 exact St.wk (hJ36 _ hm) (Wk.e)
 refine C.block ?_
 refine St.wk (C.loop (fun (s19 : Int) => [(2, .p 0 0), (3, .p 1 0), (39, .i (a.Robots.length : Int)), (40, .i s19)]) (fun (s19 : Int) => [(0, .box (eApiState a)), (1, .box (eApiState b))]) hm (fun s19 Y20 hm => ?_)) (Wk.f [some 0, some 1] ⟨bX, bX, trivial⟩)
 refine C.seq (U.start ?_)
 refine U.ps 1 T rfl ?_
 refine U.done (C.nx (C.seq ?_))
 refine C.ite rfl hm (fun hb23 hm => ?_) (fun hb23 hm => ?_)
 refine C.skip (C.nx (C.seq (C.block (C.seq (U.start ?_)))))
 refine U.ps 2 T rfl ?_
 refine U.done (C.nx (C.seq ?_))
 refine D.beg 9999 [0, 1] [] mix rfl rfl (by kernel_rfl) (by repeat (first | exact NoPanicQ.body | exact NoPanicQ.rnd | refine NoPanicQ.th ?_ | refine NoPanicQ.blk ?_)) (fun hQ hS ws M' => ?_)
 refine D.ps 3 [(0, []), (1, []), (2, [])] rfl hQ hS T rfl rfl (by kernel_rfl) ?_
 obtain ⟨x28, hx28, hm⟩ := hm
 refine D.q 3 [] hQ hS rfl (.none rfl) rfl rfl (by exact Rd.ix T rfl rfl rfl rfl rfl rfl hx28) rfl (by kernel_rfl) ?_
 refine D.ps 4 [(4, []), (5, []), (6, []), (7, [])] rfl hQ hS T rfl rfl (by kernel_rfl) ?_
 obtain ⟨x29, hx29, hm⟩ := hm
 refine D.q 8 [] hQ hS rfl (.none rfl) rfl rfl (by exact Rd.ix T rfl rfl rfl rfl rfl rfl hx29) rfl (by kernel_rfl) ?_
 refine D.ps 1 [(9, [])] rfl hQ hS T rfl rfl (by kernel_rfl) ?_
 refine D.q 10 [] hQ hS rfl (.none rfl) rfl rfl (by exact Rd.nes T rfl rfl eqt45 rfl rfl rfl) rfl (by kernel_rfl) ?_
 refine D.done (by kernel_rfl) ?_
 refine C.nx ?_
 refine C.ite rfl hm (fun hb30 hm => ?_) (fun hb30 hm => ?_)
 refine C.seq (U.start ?_)
 refine U.ps 1 T rfl ?_
 refine U.done (C.nx (C.ret (C.brt (C.rt (C.rt (C.brt (C.rt ?_)))))))
 exact C.f0 T (rs' := [.b false]) hβ ⟨false, hm, rfl, rfl, rfl⟩
 refine C.skip (C.bnx (C.nx (U.start ?_)))
 refine U.ps 2 T rfl ?_
 refine U.done (C.nx ?_)
 exact St.wk (C.next hm) (Wk.f [some 0, some 1] ⟨bX, bX, trivial⟩)
 refine C.exit (C.ex (C.ex (C.bex ?_)))
 exact St.wk (hJ18 _ hm) (Wk.f [some 0, some 1] ⟨bX, bX, trivial⟩)
 refine U.start ?_
 refine U.ps 3 T rfl ?_
 refine hm.cs (fun hb11 hm => ?_) (fun hb11 hm => ?_)
 refine U.pg 7 2 false 28 (ntF hb11) T rfl rfl rfl rfl ?_
 refine U.r rfl (.none rfl) rfl rfl (by exact Rd.pk' rfl rfl (ntF hb11) rfl) ?_
 refine U.done ?_
 exact St.wk (hJ10 _ hm) (Wk.f [some 0, some 1] ⟨bX, bX, trivial⟩)
 refine U.sks 7 2 false 28 (ntT hb11) rfl rfl rfl ?_
 refine U.r rfl (.none rfl) rfl rfl (by exact Rd.pk rfl rfl (ntT hb11) rfl) ?_
 refine U.done ?_
 exact St.wk (hJ10 _ hm) (Wk.f [some 0, some 1] ⟨bX, bX, trivial⟩)
 refine U.start ?_
 refine U.ps 6 T rfl ?_
 refine hm.cs (fun hb5 hm => ?_) (fun hb5 hm => ?_)
 refine U.pg 4 5 true 12 hb5 T rfl rfl rfl rfl ?_
 refine U.e rfl (.take 5 true 12 _ hb5 rfl rfl rfl) (by exact Eff.k (T_slices_Equal_int_int a.Shelves b.Shelves _ hm) en62 rfl rfl rfl (.eq rfl) (fun _ _ => ⟨(.v _), trivial⟩)) (fun x6' hm => ?_)
 obtain ⟨x6⟩ := x6'
 refine U.r rfl (.none rfl) rfl rfl (by exact Rd.pk rfl rfl hb5 rfl) ?_
 refine U.ps 1 T rfl ?_
 refine hm.cs (fun hb7 hm => ?_) (fun hb7 hm => ?_)
 refine U.pg 4 12 true 19 hb7 T rfl rfl rfl rfl ?_
 refine U.e rfl (.take 12 true 19 _ hb7 rfl rfl rfl) (by exact Eff.k (T_slices_Equal_int_int a.People b.People _ hm) en62 rfl rfl rfl (.eq rfl) (fun _ _ => ⟨(.v _), trivial⟩)) (fun x8' hm => ?_)
 obtain ⟨x8⟩ := x8'
 refine U.r rfl (.none rfl) rfl rfl (by exact Rd.pk rfl rfl hb7 rfl) ?_
 refine U.ps 1 T rfl ?_
 refine U.done ?_
 exact St.wk (hJ4 _ hm) (Wk.f [some 0, some 1] ⟨bX, bX, trivial⟩)
 refine U.sks 5 12 true 19 hb7 rfl rfl rfl ?_
 refine U.r rfl (.none rfl) rfl rfl (by exact Rd.pk' rfl rfl hb7 rfl) ?_
 refine U.ps 1 T rfl ?_
 refine U.done ?_
 exact St.wk (hJ4 _ hm) (Wk.f [some 0, some 1] ⟨bX, bX, trivial⟩)
 refine U.sks 5 5 true 12 hb5 rfl rfl rfl ?_
 refine U.r rfl (.none rfl) rfl rfl (by exact Rd.pk' rfl rfl hb5 rfl) ?_
 refine U.ps 1 T rfl ?_
 refine U.sks 5 12 true 19 rfl rfl rfl rfl ?_
 refine U.r rfl (.none rfl) rfl rfl (by exact Rd.pk' rfl rfl rfl rfl) ?_
 refine U.ps 1 T rfl ?_
 refine U.done ?_
 exact St.wk (hJ4 _ hm) (Wk.f [some 0, some 1] ⟨bX, bX, trivial⟩)
theorem T_taquinlaw15_ActLifts (s_1 : ApiSite) (st : ApiState) (robot : Int) (post : Bool → Prop) (hm : V_taquinlaw15_ActLifts s_1 st robot post) :
    Tr Tryz.prog 6 [.agg (eApiSite s_1), .agg (eApiState st), .i robot] [] 0 (fun A H' k => ∃ y, post y ∧ A = (.b y) ∧ H' = [] ∧ k = 0) := by
 refine Tr.intro (n := 114) Tryz.func6 rfl Tryz.ntmps6 rfl (fun w0 ok F β hβ => ?_)
 unfold V_taquinlaw15_ActLifts at hm
 refine C.seq (U.start ?_)
 refine U.e1 rfl (.none rfl) (by exact Eff1.box rfl rfl rfl rfl rfl) ?_
 refine U.e1 rfl (.none rfl) (by exact Eff1.box rfl rfl rfl rfl rfl) ?_
 refine U.ps 1 T rfl ?_
 refine U.done (C.nx (C.seq (U.start ?_)))
 refine U.e rfl (.none rfl) (by exact Eff.k (T_taquinlaw15_small _ hm) en8 rfl rfl rfl (.eq rfl) (fun _ _ => ⟨(.v _), trivial⟩)) (fun x5' hm => ?_)
 obtain ⟨x5⟩ := x5'
 refine U.ps 1 T rfl ?_
 refine U.done (C.nx (C.seq (C.seq ?_)))
 refine C.jn (fun (x6 : Bool) => [(2, .i robot), (3, .p 0 0), (4, .p 1 0), (7, .b x5), (26, .b x6)]) (fun (x6 : Bool) => [(0, .box (eApiSite s_1)), (1, .box (eApiState st))]) 2 hm (fun x6 hm => ?_) (fun J7 hm hJ7 => ?_)
 refine C.nx ?_
 refine C.ite rfl hm (fun hb11 hm => ?_) (fun hb11 hm => ?_)
 refine C.seq (U.start ?_)
 refine U.ps 2 T rfl ?_
 refine U.done (C.nx (C.ret (C.rt ?_)))
 exact C.f0 T (rs' := [.b x5]) hβ ⟨x5, hm, rfl, rfl, rfl⟩
 refine C.skip (C.nx (C.seq (U.start ?_)))
 refine U.ps 2 T rfl ?_
 refine U.e rfl (.none rfl) (by exact Eff.k (T_rules_Apart s_1 st _ hm) en30 rfl rfl rfl (.eq rfl) (fun _ _ => ⟨(.tup (.cons (.v _) (.cons (.v _) (.cons (.v _) .nil)))), trivial⟩)) (fun x16' hm => ?_)
 obtain ⟨x16⟩ := x16'
 refine U.ps 7 T rfl ?_
 refine U.done (C.nx (C.seq (C.seq (U.start ?_))))
 refine U.ps 1 T rfl ?_
 refine U.done (C.nx ?_)
 refine C.ite rfl hm (fun hb19 hm => ?_) (fun hb19 hm => ?_)
 refine C.seq (U.start ?_)
 refine U.ps 2 T rfl ?_
 refine U.done (C.nx (C.ret (C.rt ?_)))
 exact C.f0 T (rs' := [.b x5]) hβ ⟨x5, hm, rfl, rfl, rfl⟩
 refine C.skip (C.nx (C.seq (U.start ?_)))
 refine U.ps 3 T rfl ?_
 refine U.e rfl (.none rfl) (by exact Eff.c [] (v := true) (T_act_Do s_1 st robot 7 _ hm) en16 rfl rfl rfl (.eq rfl) trivial rfl rfl rfl rfl rfl rfl (fun _ _ => ⟨(.agg (.cons (.v _) (.cons (.o _) (.cons (.o _) (.cons (.o _) (.cons (.o _) (.cons (.o _) .nil))))))), ⟨.val (.os _ _ _ fun _ => (.cons (.v _) .nil)), .val (.os _ _ _ fun _ => (.cons (.v _) (.cons (.v _) (.cons (.v _) (.cons (.v _) (.cons (.v _) (.cons (.v _) .nil))))))), .val (.os _ _ _ fun _ => (.cons (.v _) .nil)), .val (.os _ _ _ fun _ => (.cons (.v _) .nil)), .val (.os _ _ _ fun _ => (.cons (.v _) (.cons (.v _) .nil))), trivial⟩⟩) (.inr ⟨rfl, rfl⟩) (fun _ => rfl) (fun _ => rfl) rfl) (fun x24' hm => ?_)
 obtain ⟨x24⟩ := x24'
 refine U.e1 rfl (.none rfl) (by exact Eff1.al T rfl rfl rfl rfl) ?_
 refine U.e1 rfl (.none rfl) (by exact Eff1.st T rfl rfl rfl rfl rfl rfl rfl rfl rfl rfl) ?_
 refine U.done (C.nx (C.seq (C.seq ?_)))
 refine C.jn (fun (x25 : Bool) => [(2, .i robot), (3, .p 0 0), (4, .p 1 0), (7, .b x5), (11, .p 2 0), (49, .b x25)]) (fun (x25 : Bool) => [(0, .box (eApiSite s_1)), (1, .box (eApiState st)), (2, .box [.i x24.Tick, .o 3, .o 4, .o 5, .o 6, .o 7]), (3, .val (.os 1 eI x24.Shelves)), (4, .val (.os 6 eApiRobot x24.Robots)), (5, .val (.os 1 eI x24.People)), (6, .val (.os 1 eI x24.Dead)), (7, .val (.os 2 eApiStuck x24.Stuck))]) 8 hm (fun x25 hm => ?_) (fun J26 hm hJ26 => ?_)
 refine C.nx ?_
 refine C.ite rfl hm (fun hb28 hm => ?_) (fun hb28 hm => ?_)
 refine C.seq (U.start ?_)
 refine U.ps 1 T rfl ?_
 refine U.done (C.nx (C.ret (C.rt ?_)))
 exact C.f0 T (rs' := [.b false]) hβ ⟨false, hm, rfl, rfl, rfl⟩
 refine C.skip (C.nx (C.seq (U.start ?_)))
 refine U.ps 3 T rfl ?_
 refine U.e rfl (.none rfl) (by exact Eff.k (T_act_Legal s_1 x24 robot 8 _ hm) en10 rfl rfl rfl (.cons (.eq rfl) (.cons (.agg (.cons (.eq rfl) (.cons (.fz rfl rfl rfl (.os fun _ => .cons (.ro rfl) .nil)) (.cons (.fz rfl rfl rfl (.os fun _ => .cons (.ro rfl) (.cons (.ro rfl) (.cons (.ro rfl) (.cons (.ro rfl) (.cons (.ro rfl) (.cons (.ro rfl) .nil))))))) (.cons (.fz rfl rfl rfl (.os fun _ => .cons (.ro rfl) .nil)) (.cons (.fz rfl rfl rfl (.os fun _ => .cons (.ro rfl) .nil)) (.cons (.fz rfl rfl rfl (.os fun _ => .cons (.ro rfl) (.cons (.ro rfl) .nil))) .nil))))))) (.eq rfl))) (fun _ _ => ⟨(.v _), trivial⟩)) (fun x33' hm => ?_)
 obtain ⟨x33⟩ := x33'
 refine U.ps 1 T rfl ?_
 refine U.done (C.nx (C.seq (C.seq ?_)))
 refine D.beg 9999 [2, 4] [] mix rfl rfl (by kernel_rfl) (by repeat (first | exact NoPanicQ.body | exact NoPanicQ.rnd | refine NoPanicQ.th ?_ | refine NoPanicQ.blk ?_)) (fun hQ hS ws M' => ?_)
 refine D.ps 3 [(0, []), (1, []), (2, [])] rfl hQ hS T rfl rfl (by kernel_rfl) ?_
 obtain ⟨x36, hx36, hm⟩ := hm
 refine D.q 3 [] hQ hS rfl (.none rfl) rfl rfl (by exact Rd.io T rfl rfl rfl rfl rfl rfl rfl hx36) rfl (by kernel_rfl) ?_
 refine D.ps 1 [(4, [])] rfl hQ hS T rfl rfl (by kernel_rfl) ?_
 refine D.q 5 [] hQ hS rfl (.none rfl) rfl rfl (by exact Rd.le T rfl rfl rfl (idx_some hx36).2.2 rfl rfl rfl) rfl (by kernel_rfl) ?_
 refine D.ps 2 [(6, []), (7, [])] rfl hQ hS T rfl rfl (by kernel_rfl) ?_
 refine D.e 8 rfl (.none rfl) (by exact Eff.k (T_battery_Cost x24.Tick 8 true _ hm) en31 rfl rfl rfl (.eq rfl) (fun _ _ => ⟨(.v _), trivial⟩)) (by kernel_rfl) rfl rfl (fun x37' hm => ?_)
 obtain ⟨x37⟩ := x37'
 refine D.ps 1 [(9, [])] rfl hQ hS T rfl rfl (by kernel_rfl) ?_
 refine D.done (by kernel_rfl) ?_
 refine C.nx ?_
 refine C.ite rfl hm (fun hb38 hm => ?_) (fun hb38 hm => ?_)
 refine C.seq ?_
 refine C.jn (fun (x39 : Bool) => [(6, .b x39)]) (fun (x39 : Bool) => []) 0 hm (fun x39 hm => ?_) (fun J40 hm hJ40 => ?_)
 refine C.nx (C.ret (C.rt ?_))
 exact C.f0 T (rs' := [.b x39]) hβ ⟨x39, hm, rfl, rfl, rfl⟩
 refine U.start ?_
 refine U.ps 2 T rfl ?_
 refine hm.cs (fun hb41 hm => ?_) (fun hb41 hm => ?_)
 refine U.pg 2 1 true 65 hb41 T rfl rfl rfl rfl ?_
 refine U.r rfl (.none rfl) rfl rfl (by exact Rd.pk rfl rfl hb41 rfl) ?_
 refine U.ps 1 T rfl ?_
 refine U.done ?_
 exact St.wk (hJ40 _ hm) (Wk.e)
 refine U.sks 2 1 true 65 hb41 rfl rfl rfl ?_
 refine U.r rfl (.none rfl) rfl rfl (by exact Rd.pk' rfl rfl hb41 rfl) ?_
 refine U.ps 1 T rfl ?_
 refine U.done ?_
 exact St.wk (hJ40 _ hm) (Wk.e)
 refine C.skip (C.nx (C.seq (C.seq (U.start ?_))))
 refine U.ps 2 T rfl ?_
 refine U.done (C.nx ?_)
 refine C.ite rfl hm (fun hb44 hm => ?_) (fun hb44 hm => ?_)
 refine C.seq (U.start ?_)
 refine U.ps 1 T rfl ?_
 refine U.done (C.nx (C.ret (C.rt ?_)))
 exact C.f0 T (rs' := [.b false]) hβ ⟨false, hm, rfl, rfl, rfl⟩
 refine C.skip (C.nx (C.seq (U.start ?_)))
 refine U.ps 3 T rfl ?_
 refine U.e rfl (.none rfl) (by exact Eff.c [] (v := true) (T_act_Do s_1 x24 robot 8 _ hm) en16 rfl rfl rfl (.cons (.eq rfl) (.cons (.agg (.cons (.eq rfl) (.cons (.fz rfl rfl rfl (.os fun _ => .cons (.ro rfl) .nil)) (.cons (.fz rfl rfl rfl (.os fun _ => .cons (.ro rfl) (.cons (.ro rfl) (.cons (.ro rfl) (.cons (.ro rfl) (.cons (.ro rfl) (.cons (.ro rfl) .nil))))))) (.cons (.fz rfl rfl rfl (.os fun _ => .cons (.ro rfl) .nil)) (.cons (.fz rfl rfl rfl (.os fun _ => .cons (.ro rfl) .nil)) (.cons (.fz rfl rfl rfl (.os fun _ => .cons (.ro rfl) (.cons (.ro rfl) .nil))) .nil))))))) (.eq rfl))) trivial rfl rfl rfl rfl rfl rfl (fun _ _ => ⟨(.agg (.cons (.v _) (.cons (.o _) (.cons (.o _) (.cons (.o _) (.cons (.o _) (.cons (.o _) .nil))))))), ⟨.val (.os _ _ _ fun _ => (.cons (.v _) .nil)), .val (.os _ _ _ fun _ => (.cons (.v _) (.cons (.v _) (.cons (.v _) (.cons (.v _) (.cons (.v _) (.cons (.v _) .nil))))))), .val (.os _ _ _ fun _ => (.cons (.v _) .nil)), .val (.os _ _ _ fun _ => (.cons (.v _) .nil)), .val (.os _ _ _ fun _ => (.cons (.v _) (.cons (.v _) .nil))), trivial⟩⟩) (.inr ⟨rfl, rfl⟩) (fun _ => rfl) (fun _ => rfl) rfl) (fun x49' hm => ?_)
 obtain ⟨x49⟩ := x49'
 refine U.e1 rfl (.none rfl) (by exact Eff1.al T rfl rfl rfl rfl) ?_
 refine U.e1 rfl (.none rfl) (by exact Eff1.st T rfl rfl rfl rfl rfl rfl rfl rfl rfl rfl) ?_
 refine U.done (C.nx (C.seq (C.seq (U.start ?_))))
 refine U.ps 5 T rfl ?_
 refine U.done (C.nx ?_)
 refine C.ite rfl hm (fun hb52 hm => ?_) (fun hb52 hm => ?_)
 refine C.seq (U.start ?_)
 refine U.ps 1 T rfl ?_
 refine U.done (C.nx (C.ret (C.rt ?_)))
 exact C.f0 T (rs' := [.b false]) hβ ⟨false, hm, rfl, rfl, rfl⟩
 refine C.skip (C.nx (C.seq (U.start ?_)))
 refine U.ps 1 T rfl ?_
 refine U.e rfl (.none rfl) (by exact Eff.c [] (v := true) (T_body_Clone x49 _ hm) en26 rfl rfl rfl (.cons (.agg (.cons (.eq rfl) (.cons (.fz rfl rfl rfl (.os fun _ => .cons (.ro rfl) .nil)) (.cons (.fz rfl rfl rfl (.os fun _ => .cons (.ro rfl) (.cons (.ro rfl) (.cons (.ro rfl) (.cons (.ro rfl) (.cons (.ro rfl) (.cons (.ro rfl) .nil))))))) (.cons (.fz rfl rfl rfl (.os fun _ => .cons (.ro rfl) .nil)) (.cons (.fz rfl rfl rfl (.os fun _ => .cons (.ro rfl) .nil)) (.cons (.fz rfl rfl rfl (.os fun _ => .cons (.ro rfl) (.cons (.ro rfl) .nil))) .nil))))))) .nil) trivial rfl rfl rfl rfl rfl rfl (fun _ _ => ⟨(.agg (.cons (.v _) (.cons (.o _) (.cons (.o _) (.cons (.o _) (.cons (.o _) (.cons (.o _) .nil))))))), ⟨.val (.os _ _ _ fun _ => (.cons (.v _) .nil)), .val (.os _ _ _ fun _ => (.cons (.v _) (.cons (.v _) (.cons (.v _) (.cons (.v _) (.cons (.v _) (.cons (.v _) .nil))))))), .val (.os _ _ _ fun _ => (.cons (.v _) .nil)), .val (.os _ _ _ fun _ => (.cons (.v _) .nil)), .val (.os _ _ _ fun _ => (.cons (.v _) (.cons (.v _) .nil))), trivial⟩⟩) (.inr ⟨rfl, rfl⟩) (fun _ => rfl) (fun _ => rfl) rfl) (fun x57' hm => ?_)
 obtain ⟨x57⟩ := x57'
 refine U.e1 rfl (.none rfl) (by exact Eff1.al T rfl rfl rfl rfl) ?_
 refine U.e1 rfl (.none rfl) (by exact Eff1.st T rfl rfl rfl rfl rfl rfl rfl rfl rfl rfl) ?_
 refine U.done (C.nx (C.seq ?_))
 refine D.beg 11 [1, 19] [] mix rfl rfl (by kernel_rfl) (by repeat (first | exact NoPanicQ.body | exact NoPanicQ.rnd | refine NoPanicQ.th ?_ | refine NoPanicQ.blk ?_)) (fun hQ hS ws M' => ?_)
 refine D.ps 6 [(0, []), (1, []), (2, []), (3, []), (4, []), (5, [])] rfl hQ hS T rfl rfl (by kernel_rfl) ?_
 obtain ⟨x60, hx60, hm⟩ := hm
 refine D.q 6 [] hQ hS rfl (.none rfl) rfl rfl (by exact Rd.ix T rfl rfl rfl rfl rfl rfl hx60) rfl (by kernel_rfl) ?_
 refine D.ps 2 [(7, []), (8, [])] rfl hQ hS T rfl rfl (by kernel_rfl) ?_
 obtain ⟨x61, hx61, hm⟩ := hm
 refine D.q 9 [10] hQ hS rfl (.none rfl) rfl rfl (by exact Rd.io T rfl rfl rfl rfl rfl rfl rfl hx61) rfl (by kernel_rfl) ?_
 refine D.ps 1 [(10, [])] rfl hQ hS T rfl rfl (by kernel_rfl) ?_
 refine D.ze1 rfl (.none rfl) (by exact Eff1.se T (z' := ({ Cell := x61.Cell, Load := x61.Load, Charge := x60.Charge, Rest := x61.Rest, Mute := x61.Mute, Dead := x61.Dead : ApiRobot })) rfl rfl rfl (idx_some hx61).2.2 rfl rfl rfl rfl rfl rfl rfl rfl (fun _ => rfl) rfl) (by kernel_rfl) (by kernel_rfl) ?_
 refine C.nx (C.seq ?_)
 refine C.jn (fun (x62 : Bool) => [(6, .b x62)]) (fun (x62 : Bool) => []) 0 hm (fun x62 hm => ?_) (fun J63 hm hJ63 => ?_)
 refine C.nx (C.ret ?_)
 exact C.f0 T (rs' := [.b x62]) hβ ⟨x62, hm, rfl, rfl, rfl⟩
 refine D.beg 9999 [1, 9, 13, 19] [] mix rfl rfl (by kernel_rfl) (by repeat (first | exact NoPanicQ.body | exact NoPanicQ.rnd | refine NoPanicQ.th ?_ | refine NoPanicQ.blk ?_)) (fun hQ hS ws M' => ?_)
 refine D.ps 2 [(0, []), (1, [])] rfl hQ hS T rfl rfl (by kernel_rfl) ?_
 refine hm.cs (fun hb64 hm => ?_) (fun hb64 hm => ?_)
 refine D.q 2 [] hQ hS rfl (.take 1 true 94 _ hb64 rfl rfl rfl) rfl rfl (by exact Rd.l T rfl rfl rfl) rfl (by kernel_rfl) ?_
 refine D.q 3 [] hQ hS rfl (.take 1 true 94 _ hb64 rfl rfl rfl) rfl rfl (by exact Rd.l T rfl rfl rfl) rfl (by kernel_rfl) ?_
 refine D.e 4 rfl (.take 1 true 94 _ hb64 rfl rfl rfl) (by exact Eff.k (T_body_Same ({ Tick := x57.Tick, Shelves := x57.Shelves, Robots := (x57.Robots.set (Int.toNat robot) ({ Cell := x61.Cell, Load := x61.Load, Charge := x60.Charge, Rest := x61.Rest, Mute := x61.Mute, Dead := x61.Dead : ApiRobot })), People := x57.People, Dead := x57.Dead, Stuck := x57.Stuck : ApiState }) st _ hm) en27 rfl rfl rfl (.cons (.agg (.cons (.eq rfl) (.cons (.fz rfl rfl rfl (.os fun _ => .cons (.ro rfl) .nil)) (.cons (.fz rfl rfl rfl (.os fun _ => .cons (.ro rfl) (.cons (.ro rfl) (.cons (.ro rfl) (.cons (.ro rfl) (.cons (.ro rfl) (.cons (.ro rfl) .nil))))))) (.cons (.fz rfl rfl rfl (.os fun _ => .cons (.ro rfl) .nil)) (.cons (.fz rfl rfl rfl (.os fun _ => .cons (.ro rfl) .nil)) (.cons (.fz rfl rfl rfl (.os fun _ => .cons (.ro rfl) (.cons (.ro rfl) .nil))) .nil))))))) (.eq rfl)) (fun _ _ => ⟨(.v _), trivial⟩)) (by kernel_rfl) rfl rfl (fun x65' hm => ?_)
 obtain ⟨x65⟩ := x65'
 refine D.q 5 [] hQ hS rfl (.none rfl) rfl rfl (by exact Rd.pk rfl rfl hb64 rfl) rfl (by kernel_rfl) ?_
 refine D.ps 1 [(6, [])] rfl hQ hS T rfl rfl (by kernel_rfl) ?_
 refine hm.cs (fun hb66 hm => ?_) (fun hb66 hm => ?_)
 refine D.q 7 [] hQ hS rfl (.take 6 true 99 _ hb66 rfl rfl rfl) rfl rfl (by exact Rd.p T rfl) rfl (by kernel_rfl) ?_
 refine D.q 8 [] hQ hS rfl (.take 6 true 99 _ hb66 rfl rfl rfl) rfl rfl (by exact Rd.l T rfl rfl rfl) rfl (by kernel_rfl) ?_
 refine D.q 9 [] hQ hS rfl (.take 6 true 99 _ hb66 rfl rfl rfl) rfl rfl (by exact Rd.p T rfl) rfl (by kernel_rfl) ?_
 obtain ⟨x67, hx67, hm⟩ := hm
 refine D.q 10 [] hQ hS rfl (.take 6 true 99 _ hb66 rfl rfl rfl) rfl rfl (by exact Rd.io T rfl rfl rfl rfl rfl rfl rfl hx67) rfl (by kernel_rfl) ?_
 refine D.q 11 [] hQ hS rfl (.take 6 true 99 _ hb66 rfl rfl rfl) rfl rfl (by exact Rd.p T rfl) rfl (by kernel_rfl) ?_
 refine D.q 12 [] hQ hS rfl (.take 6 true 99 _ hb66 rfl rfl rfl) rfl rfl (by exact Rd.le T rfl rfl rfl (idx_some hx67).2.2 rfl rfl rfl) rfl (by kernel_rfl) ?_
 refine D.q 13 [] hQ hS rfl (.take 6 true 99 _ hb66 rfl rfl rfl) rfl rfl (by exact Rd.p T rfl) rfl (by kernel_rfl) ?_
 refine D.q 14 [] hQ hS rfl (.take 6 true 99 _ hb66 rfl rfl rfl) rfl rfl (by exact Rd.l T rfl rfl rfl) rfl (by kernel_rfl) ?_
 refine D.q 15 [] hQ hS rfl (.take 6 true 99 _ hb66 rfl rfl rfl) rfl rfl (by exact Rd.p T rfl) rfl (by kernel_rfl) ?_
 refine D.q 16 [] hQ hS rfl (.take 6 true 99 _ hb66 rfl rfl rfl) rfl rfl (by exact Rd.ix T rfl rfl rfl rfl rfl rfl hx60) rfl (by kernel_rfl) ?_
 refine D.q 17 [] hQ hS rfl (.take 6 true 99 _ hb66 rfl rfl rfl) rfl rfl (by exact Rd.p T rfl) rfl (by kernel_rfl) ?_
 refine D.q 18 [] hQ hS rfl (.take 6 true 99 _ hb66 rfl rfl rfl) rfl rfl (by exact Rd.l T rfl rfl rfl) rfl (by kernel_rfl) ?_
 refine D.q 19 [] hQ hS rfl (.take 6 true 99 _ hb66 rfl rfl rfl) rfl rfl (by exact Rd.p T rfl) rfl (by kernel_rfl) ?_
 refine D.q 20 [] hQ hS rfl (.none rfl) rfl rfl (by exact Rd.pk rfl rfl hb66 rfl) rfl (by kernel_rfl) ?_
 refine D.ps 1 [(21, [])] rfl hQ hS T rfl rfl (by kernel_rfl) ?_
 refine D.done (by kernel_rfl) ?_
 exact St.wk (hJ63 _ hm) (Wk.e)
 refine D.sq 7 [] hQ hS rfl (.skip 6 true 99 _ hb66 rfl rfl rfl) rfl rfl (by kernel_rfl) ?_
 refine D.sq 8 [] hQ hS rfl (.skip 6 true 99 _ hb66 rfl rfl rfl) rfl rfl (by kernel_rfl) ?_
 refine D.sq 9 [] hQ hS rfl (.skip 6 true 99 _ hb66 rfl rfl rfl) rfl rfl (by kernel_rfl) ?_
 refine D.sq 10 [] hQ hS rfl (.skip 6 true 99 _ hb66 rfl rfl rfl) rfl rfl (by kernel_rfl) ?_
 refine D.sq 11 [] hQ hS rfl (.skip 6 true 99 _ hb66 rfl rfl rfl) rfl rfl (by kernel_rfl) ?_
 refine D.sq 12 [] hQ hS rfl (.skip 6 true 99 _ hb66 rfl rfl rfl) rfl rfl (by kernel_rfl) ?_
 refine D.sq 13 [] hQ hS rfl (.skip 6 true 99 _ hb66 rfl rfl rfl) rfl rfl (by kernel_rfl) ?_
 refine D.sq 14 [] hQ hS rfl (.skip 6 true 99 _ hb66 rfl rfl rfl) rfl rfl (by kernel_rfl) ?_
 refine D.sq 15 [] hQ hS rfl (.skip 6 true 99 _ hb66 rfl rfl rfl) rfl rfl (by kernel_rfl) ?_
 refine D.sq 16 [] hQ hS rfl (.skip 6 true 99 _ hb66 rfl rfl rfl) rfl rfl (by kernel_rfl) ?_
 refine D.sq 17 [] hQ hS rfl (.skip 6 true 99 _ hb66 rfl rfl rfl) rfl rfl (by kernel_rfl) ?_
 refine D.sq 18 [] hQ hS rfl (.skip 6 true 99 _ hb66 rfl rfl rfl) rfl rfl (by kernel_rfl) ?_
 refine D.sq 19 [] hQ hS rfl (.skip 6 true 99 _ hb66 rfl rfl rfl) rfl rfl (by kernel_rfl) ?_
 refine D.q 20 [] hQ hS rfl (.none rfl) rfl rfl (by exact Rd.pk' rfl rfl hb66 rfl) rfl (by kernel_rfl) ?_
 refine D.ps 1 [(21, [])] rfl hQ hS T rfl rfl (by kernel_rfl) ?_
 refine D.done (by kernel_rfl) ?_
 exact St.wk (hJ63 _ hm) (Wk.e)
 refine D.sq 2 [] hQ hS rfl (.skip 1 true 94 _ hb64 rfl rfl rfl) rfl rfl (by kernel_rfl) ?_
 refine D.sq 3 [] hQ hS rfl (.skip 1 true 94 _ hb64 rfl rfl rfl) rfl rfl (by kernel_rfl) ?_
 refine D.sq 4 [] hQ hS rfl (.skip 1 true 94 _ hb64 rfl rfl rfl) rfl rfl (by kernel_rfl) ?_
 refine D.q 5 [] hQ hS rfl (.none rfl) rfl rfl (by exact Rd.pk' rfl rfl hb64 rfl) rfl (by kernel_rfl) ?_
 refine D.ps 1 [(6, [])] rfl hQ hS T rfl rfl (by kernel_rfl) ?_
 refine D.sq 7 [] hQ hS rfl (.skip 6 true 99 _ rfl rfl rfl rfl) rfl rfl (by kernel_rfl) ?_
 refine D.sq 8 [] hQ hS rfl (.skip 6 true 99 _ rfl rfl rfl rfl) rfl rfl (by kernel_rfl) ?_
 refine D.sq 9 [] hQ hS rfl (.skip 6 true 99 _ rfl rfl rfl rfl) rfl rfl (by kernel_rfl) ?_
 refine D.sq 10 [] hQ hS rfl (.skip 6 true 99 _ rfl rfl rfl rfl) rfl rfl (by kernel_rfl) ?_
 refine D.sq 11 [] hQ hS rfl (.skip 6 true 99 _ rfl rfl rfl rfl) rfl rfl (by kernel_rfl) ?_
 refine D.sq 12 [] hQ hS rfl (.skip 6 true 99 _ rfl rfl rfl rfl) rfl rfl (by kernel_rfl) ?_
 refine D.sq 13 [] hQ hS rfl (.skip 6 true 99 _ rfl rfl rfl rfl) rfl rfl (by kernel_rfl) ?_
 refine D.sq 14 [] hQ hS rfl (.skip 6 true 99 _ rfl rfl rfl rfl) rfl rfl (by kernel_rfl) ?_
 refine D.sq 15 [] hQ hS rfl (.skip 6 true 99 _ rfl rfl rfl rfl) rfl rfl (by kernel_rfl) ?_
 refine D.sq 16 [] hQ hS rfl (.skip 6 true 99 _ rfl rfl rfl rfl) rfl rfl (by kernel_rfl) ?_
 refine D.sq 17 [] hQ hS rfl (.skip 6 true 99 _ rfl rfl rfl rfl) rfl rfl (by kernel_rfl) ?_
 refine D.sq 18 [] hQ hS rfl (.skip 6 true 99 _ rfl rfl rfl rfl) rfl rfl (by kernel_rfl) ?_
 refine D.sq 19 [] hQ hS rfl (.skip 6 true 99 _ rfl rfl rfl rfl) rfl rfl (by kernel_rfl) ?_
 refine D.q 20 [] hQ hS rfl (.none rfl) rfl rfl (by exact Rd.pk' rfl rfl rfl rfl) rfl (by kernel_rfl) ?_
 refine D.ps 1 [(21, [])] rfl hQ hS T rfl rfl (by kernel_rfl) ?_
 refine D.done (by kernel_rfl) ?_
 exact St.wk (hJ63 _ hm) (Wk.e)
 refine U.start ?_
 refine U.ps 3 T rfl ?_
 refine hm.cs (fun hb27 hm => ?_) (fun hb27 hm => ?_)
 refine U.sks 5 2 false 43 hb27 rfl rfl rfl ?_
 refine U.r rfl (.none rfl) rfl rfl (by exact Rd.pk rfl rfl hb27 rfl) ?_
 refine U.done ?_
 exact St.wk (hJ26 _ hm) (Wk.f [some 0, some 1, some 7, some 2, some 3, some 4, some 5, some 6] ⟨bX, bX, bX, vL, vL, vL, vL, vL, trivial⟩)
 refine U.pg 5 2 false 43 hb27 T rfl rfl rfl rfl ?_
 refine U.r rfl (.none rfl) rfl rfl (by exact Rd.pk' rfl rfl hb27 rfl) ?_
 refine U.done ?_
 exact St.wk (hJ26 _ hm) (Wk.f [some 0, some 1, some 7, some 2, some 3, some 4, some 5, some 6] ⟨bX, bX, bX, vL, vL, vL, vL, vL, trivial⟩)
 refine U.start ?_
 refine U.ps 2 T rfl ?_
 refine U.e rfl (.none rfl) (by exact Eff.k (T_taquinlaw15_fair s_1 st _ hm) en9 rfl rfl rfl (.eq rfl) (fun _ _ => ⟨(.v _), trivial⟩)) (fun x8' hm => ?_)
 obtain ⟨x8⟩ := x8'
 refine U.ps 2 T rfl ?_
 refine hm.cs (fun hb9 hm => ?_) (fun hb9 hm => ?_)
 refine U.pg 3 4 false 20 (ntF hb9) T rfl rfl rfl rfl ?_
 refine U.e rfl (.take 4 false 20 _ (ntF hb9) rfl rfl rfl) (by exact Eff.k (T_act_Legal s_1 st robot 7 _ hm) en10 rfl rfl rfl (.eq rfl) (fun _ _ => ⟨(.v _), trivial⟩)) (fun x10' hm => ?_)
 obtain ⟨x10⟩ := x10'
 refine U.pg 1 4 false 20 (ntF hb9) T rfl rfl rfl rfl ?_
 refine U.r rfl (.none rfl) rfl rfl (by exact Rd.pk' rfl rfl (ntF hb9) rfl) ?_
 refine U.done ?_
 exact St.wk (hJ7 _ hm) (Wk.f [some 0, some 1] ⟨bX, bX, trivial⟩)
 refine U.sks 5 4 false 20 (ntT hb9) rfl rfl rfl ?_
 refine U.r rfl (.none rfl) rfl rfl (by exact Rd.pk rfl rfl (ntT hb9) rfl) ?_
 refine U.done ?_
 exact St.wk (hJ7 _ hm) (Wk.f [some 0, some 1] ⟨bX, bX, trivial⟩)
end Go.Proofs.YtenbhocpjlmimaaGreat
