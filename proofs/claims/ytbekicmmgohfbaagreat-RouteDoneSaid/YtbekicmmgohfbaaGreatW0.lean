/- The walks: each Go function does what its verification condition says (written by a program of the prover). -/
import Derived.Test.YtbekicmmgohfbaaGreatEnc
import Derived.KernelRfl
set_option maxRecDepth 100000
set_option maxHeartbeats 8000000
set_option linter.unusedVariables false
set_option linter.unusedSimpArgs false
namespace Go.Proofs.YtbekicmmgohfbaaGreat
open Go Go.Taq
theorem T_taquinlaw23_example (post : ApiSite → Prop) (hm : V_taquinlaw23_example post) :
    Tr Tryz.prog 9 [] [] 0 (fun A H' k => ∃ y, post y ∧ A = (.agg [.i y.Floor.W, .i y.Floor.H, .i y.Floor.D, .o 0, .o 1, .o 2, .o 3, .o 4, .o 5]) ∧ H' = [(0, .val (.os 1 eI y.Floor.Kind)), (1, .val (.os 1 eI y.Floor.Out)), (2, .val (.os 5 eApiZone y.Zones)), (3, .val (.os 2 eApiApart y.Aparts)), (4, .val (.os 2 eApiShelf y.Shelves)), (5, .val (.os 2 eApiStart y.Robots))] ∧ k = 6) := by
 refine Tr.intro (n := 5) Tryz.func9 rfl Tryz.ntmps9 rfl (fun w0 ok F β hβ => ?_)
 unfold V_taquinlaw23_example at hm
 refine C.seq (U.start ?_)
 refine U.e1 rfl (.none rfl) (by exact Eff1.al T rfl rfl rfl rfl) ?_
 refine U.done (C.nx (C.seq (U.start ?_)))
 refine U.e1 rfl (.none rfl) (by exact Eff1.bs T (enc := eI) (xs := ([3, 1, 1, 1] : List Int)) rfl rfl rfl rfl rfl rfl rfl rfl rfl rfl (fun _ _ => rfl) rfl rfl) ?_
 refine U.e1 rfl (.none rfl) (by exact Eff1.bs T (enc := eI) (xs := ([1, 5, 5, 4] : List Int)) rfl rfl rfl rfl rfl rfl rfl rfl rfl rfl (fun _ _ => rfl) rfl rfl) ?_
 refine U.ps 2 T rfl ?_
 refine U.e1 rfl (.none rfl) (by exact Eff1.st T rfl rfl rfl rfl rfl rfl rfl rfl rfl rfl) ?_
 refine U.done (C.nx (C.ret ?_))
 exact C.fin T (rs' := [.agg [.i (({ Floor := ({ W := 4, H := 1, D := 1, Kind := ([3, 1, 1, 1] : List Int), Out := ([1, 5, 5, 4] : List Int) : ApiFloor }), Zones := [], Aparts := [], Shelves := [], Robots := [] : ApiSite }).Floor.W), .i (({ Floor := ({ W := 4, H := 1, D := 1, Kind := ([3, 1, 1, 1] : List Int), Out := ([1, 5, 5, 4] : List Int) : ApiFloor }), Zones := [], Aparts := [], Shelves := [], Robots := [] : ApiSite }).Floor.H), .i (({ Floor := ({ W := 4, H := 1, D := 1, Kind := ([3, 1, 1, 1] : List Int), Out := ([1, 5, 5, 4] : List Int) : ApiFloor }), Zones := [], Aparts := [], Shelves := [], Robots := [] : ApiSite }).Floor.D), .o 0, .o 1, .o 2, .o 3, .o 4, .o 5]]) (H' := [(0, .val (.os 1 eI (({ Floor := ({ W := 4, H := 1, D := 1, Kind := ([3, 1, 1, 1] : List Int), Out := ([1, 5, 5, 4] : List Int) : ApiFloor }), Zones := [], Aparts := [], Shelves := [], Robots := [] : ApiSite }).Floor.Kind))), (1, .val (.os 1 eI (({ Floor := ({ W := 4, H := 1, D := 1, Kind := ([3, 1, 1, 1] : List Int), Out := ([1, 5, 5, 4] : List Int) : ApiFloor }), Zones := [], Aparts := [], Shelves := [], Robots := [] : ApiSite }).Floor.Out))), (2, .val (.os 5 eApiZone (({ Floor := ({ W := 4, H := 1, D := 1, Kind := ([3, 1, 1, 1] : List Int), Out := ([1, 5, 5, 4] : List Int) : ApiFloor }), Zones := [], Aparts := [], Shelves := [], Robots := [] : ApiSite }).Zones))), (3, .val (.os 2 eApiApart (({ Floor := ({ W := 4, H := 1, D := 1, Kind := ([3, 1, 1, 1] : List Int), Out := ([1, 5, 5, 4] : List Int) : ApiFloor }), Zones := [], Aparts := [], Shelves := [], Robots := [] : ApiSite }).Aparts))), (4, .val (.os 2 eApiShelf (({ Floor := ({ W := 4, H := 1, D := 1, Kind := ([3, 1, 1, 1] : List Int), Out := ([1, 5, 5, 4] : List Int) : ApiFloor }), Zones := [], Aparts := [], Shelves := [], Robots := [] : ApiSite }).Shelves))), (5, .val (.os 2 eApiStart (({ Floor := ({ W := 4, H := 1, D := 1, Kind := ([3, 1, 1, 1] : List Int), Out := ([1, 5, 5, 4] : List Int) : ApiFloor }), Zones := [], Aparts := [], Shelves := [], Robots := [] : ApiSite }).Robots)))]) (nl' := 6) [some 1, some 2, none, none, none, none] rfl rfl (.cons (.agg (.cons (.eq rfl) (.cons (.eq rfl) (.cons (.eq rfl) (.cons (.eq rfl) (.cons (.eq rfl) (.cons (.nilO _ _ ⟨rfl, rfl⟩ rfl) (.cons (.nilO _ _ ⟨rfl, rfl⟩ rfl) (.cons (.nilO _ _ ⟨rfl, rfl⟩ rfl) (.cons (.nilO _ _ ⟨rfl, rfl⟩ rfl) .nil)))))))))) .nil) ⟨vL, vL, ⟨_, rfl, .nil _ _⟩, ⟨_, rfl, .nil _ _⟩, ⟨_, rfl, .nil _ _⟩, ⟨_, rfl, .nil _ _⟩, trivial⟩ rfl rfl rfl rfl hβ ⟨({ Floor := ({ W := 4, H := 1, D := 1, Kind := ([3, 1, 1, 1] : List Int), Out := ([1, 5, 5, 4] : List Int) : ApiFloor }), Zones := [], Aparts := [], Shelves := [], Robots := [] : ApiSite }), hm, rfl, rfl, rfl⟩
theorem T_route_right (s_1 : ApiSite) (from_1 : Int) (to_1 : Int) (tick : Int) (post : Bool → Prop) (hm : V_route_right s_1 from_1 to_1 tick post) :
    Tr Tryz.prog 14 [.agg (eApiSite s_1), .i from_1, .i to_1, .i tick] [] 0 (fun A H' k => ∃ y, post y ∧ A = (.b y) ∧ H' = [] ∧ k = 0) := by
 refine Tr.intro (n := 45) Tryz.func14 rfl Tryz.ntmps14 rfl (fun w0 ok F β hβ => ?_)
 unfold V_route_right at hm
 refine C.seq (U.start ?_)
 refine U.e1 rfl (.none rfl) (by exact Eff1.box rfl rfl rfl rfl rfl) ?_
 refine U.ps 1 T rfl ?_
 refine U.done (C.nx (C.seq (C.seq (U.start ?_))))
 refine U.ps 2 T rfl ?_
 refine U.e1 rfl (.none rfl) (by exact Eff1.bs T (enc := eI) (xs := ([from_1, to_1] : List Int)) rfl rfl rfl rfl rfl rfl rfl rfl rfl rfl (fun _ _ => rfl) rfl rfl) ?_
 refine U.ps 2 T rfl ?_
 refine U.done (C.nx ?_)
 refine C.jn (fun (x5 : Unit) => [(3, .i tick)]) (fun (x5 : Unit) => []) 0 hm (fun x5 hm => ?_) (fun J6 hm hJ6 => ?_)
 refine C.nx (C.seq ?_)
 refine C.jn (fun (x25 : Bool) => [(8, .b x25)]) (fun (x25 : Bool) => []) 0 hm (fun x25 hm => ?_) (fun J26 hm hJ26 => ?_)
 refine C.nx (C.ret ?_)
 exact C.f0 T (rs' := [.b x25]) hβ ⟨x25, hm, rfl, rfl, rfl⟩
 refine U.start ?_
 refine U.ps 3 T rfl ?_
 refine hm.cs (fun hb27 hm => ?_) (fun hb27 hm => ?_)
 refine U.pg 2 2 true 41 hb27 T rfl rfl rfl rfl ?_
 refine U.r rfl (.none rfl) rfl rfl (by exact Rd.pk rfl rfl hb27 rfl) ?_
 refine U.ps 1 T rfl ?_
 refine U.done ?_
 exact St.wk (hJ26 _ hm) (Wk.e)
 refine U.sks 2 2 true 41 hb27 rfl rfl rfl ?_
 refine U.r rfl (.none rfl) rfl rfl (by exact Rd.pk' rfl rfl hb27 rfl) ?_
 refine U.ps 1 T rfl ?_
 refine U.done ?_
 exact St.wk (hJ26 _ hm) (Wk.e)
 refine C.block ?_
 refine St.wk (C.loop (fun (s7 : Int) => [(3, .i tick), (4, .p 0 0), (13, .o 1), (14, .i (([from_1, to_1] : List Int).length : Int)), (15, .i s7)]) (fun (s7 : Int) => [(0, .box (eApiSite s_1)), (1, .val (.os 1 eI ([from_1, to_1] : List Int)))]) hm (fun s7 Y8 hm => ?_)) (Wk.f [some 0, some 1] ⟨bX, vL, trivial⟩)
 refine C.seq (U.start ?_)
 refine U.ps 1 T rfl ?_
 refine U.done (C.nx (C.seq ?_))
 refine C.ite rfl hm (fun hb11 hm => ?_) (fun hb11 hm => ?_)
 refine C.skip (C.nx (C.seq (C.block (C.seq (U.start ?_)))))
 obtain ⟨x14, hx14, hm⟩ := hm
 refine U.r rfl (.none rfl) rfl rfl (by exact Rd.io T rfl rfl rfl rfl rfl rfl rfl hx14) ?_
 refine U.r rfl (.none rfl) rfl rfl (by exact Rd.le T rfl rfl rfl (idx_some hx14).2.2 rfl rfl rfl) ?_
 refine U.ps 1 T rfl ?_
 refine U.done (C.nx (C.seq ?_))
 refine C.jn (fun (x15 : Bool) => [(3, .i tick), (4, .p 0 0), (13, .o 1), (14, .i (([from_1, to_1] : List Int).length : Int)), (15, .i s7), (37, .b x15)]) (fun (x15 : Bool) => [(0, .box (eApiSite s_1)), (1, .val (.os 1 eI ([from_1, to_1] : List Int)))]) 2 hm (fun x15 hm => ?_) (fun J16 hm hJ16 => ?_)
 refine C.nx ?_
 refine C.ite rfl hm (fun hb20 hm => ?_) (fun hb20 hm => ?_)
 refine C.seq (U.start ?_)
 refine U.ps 1 T rfl ?_
 refine U.done (C.nx (C.ret (C.brt (C.rt (C.rt (C.brt (C.rt ?_)))))))
 exact C.f0 T (rs' := [.b false]) hβ ⟨false, hm, rfl, rfl, rfl⟩
 refine C.skip (C.bnx (C.nx (U.start ?_)))
 refine U.ps 2 T rfl ?_
 refine U.done (C.nx ?_)
 exact St.wk (C.next hm) (Wk.f [some 0, some 1] ⟨bX, vL, trivial⟩)
 refine U.start ?_
 refine U.ps 3 T rfl ?_
 refine hm.cs (fun hb17 hm => ?_) (fun hb17 hm => ?_)
 refine U.sks 6 2 false 21 hb17 rfl rfl rfl ?_
 refine U.r rfl (.none rfl) rfl rfl (by exact Rd.pk rfl rfl hb17 rfl) ?_
 refine U.ps 1 T rfl ?_
 refine U.sks 7 10 false 29 rfl rfl rfl rfl ?_
 refine U.r rfl (.none rfl) rfl rfl (by exact Rd.pk rfl rfl rfl rfl) ?_
 refine U.done ?_
 exact St.wk (hJ16 _ hm) (Wk.f [some 0, some 1] ⟨bX, vL, trivial⟩)
 refine U.pg 6 2 false 21 hb17 T rfl rfl rfl rfl ?_
 refine U.r rfl (.none rfl) rfl rfl (by exact Rd.pk' rfl rfl hb17 rfl) ?_
 refine U.ps 1 T rfl ?_
 refine hm.cs (fun hb18 hm => ?_) (fun hb18 hm => ?_)
 refine U.sks 7 10 false 29 hb18 rfl rfl rfl ?_
 refine U.r rfl (.none rfl) rfl rfl (by exact Rd.pk rfl rfl hb18 rfl) ?_
 refine U.done ?_
 exact St.wk (hJ16 _ hm) (Wk.f [some 0, some 1] ⟨bX, vL, trivial⟩)
 refine U.pg 4 10 false 29 hb18 T rfl rfl rfl rfl ?_
 obtain ⟨x19, hx19, hm⟩ := hm
 refine U.r rfl (.take 10 false 29 _ hb18 rfl rfl rfl) rfl rfl (by exact Rd.ix T rfl rfl rfl rfl rfl rfl hx19) ?_
 refine U.pg 2 10 false 29 hb18 T rfl rfl rfl rfl ?_
 refine U.r rfl (.none rfl) rfl rfl (by exact Rd.pk' rfl rfl hb18 rfl) ?_
 refine U.done ?_
 exact St.wk (hJ16 _ hm) (Wk.f [some 0, some 1] ⟨bX, vL, trivial⟩)
 refine C.exit (C.ex (C.ex (C.bex ?_)))
 exact St.wk (hJ6 _ hm) (Wk.e)
theorem T_route_newWalk (s_1 : ApiSite) (tick : Int) (taken : List ApiTaken) (avoid : List Int) (post : RouteWalk → Prop) (hm : V_route_newWalk s_1 tick taken avoid post) :
    Tr Tryz.prog 15 [.agg (eApiSite s_1), .i tick, .sl 3 eApiTaken taken, .sl 1 eI avoid] [] 0 (fun A H' k => ∃ y, post y ∧ A = (.agg [.i y.site.Floor.W, .i y.site.Floor.H, .i y.site.Floor.D, .sl 1 eI y.site.Floor.Kind, .sl 1 eI y.site.Floor.Out, .sl 5 eApiZone y.site.Zones, .sl 2 eApiApart y.site.Aparts, .sl 2 eApiShelf y.site.Shelves, .sl 2 eApiStart y.site.Robots, .i y.tick, .sl 1 eI y.avoid, .o 0]) ∧ H' = [(0, .val (.om kI veOeApiSpan y.taken))] ∧ k = 1) := by
 refine Tr.intro (n := 38) Tryz.func15 rfl Tryz.ntmps15 rfl (fun w0 ok F β hβ => ?_)
 unfold V_route_newWalk at hm
 refine C.seq (U.start ?_)
 refine U.e1 rfl (.none rfl) (by exact Eff1.box rfl rfl rfl rfl rfl) ?_
 refine U.e1 rfl (.none rfl) (by exact Eff1.al T rfl rfl rfl rfl) ?_
 refine U.done (C.nx (C.seq (U.start ?_)))
 refine U.ps 3 T rfl ?_
 refine U.e1 rfl (.none rfl) (by exact Eff1.mm kI veOeApiSpan rfl rfl rfl) ?_
 refine U.ps 1 T rfl ?_
 refine U.e1 rfl (.none rfl) (by exact Eff1.al T rfl rfl rfl rfl) ?_
 refine U.e1 rfl (.none rfl) (by exact Eff1.st T rfl rfl rfl rfl rfl rfl rfl rfl rfl rfl) ?_
 refine U.done (C.nx (C.seq (C.seq (U.start ?_))))
 refine U.ps 3 T rfl ?_
 refine U.done (C.nx ?_)
 refine C.jn (fun (x7 : List (Int × List ApiSpan)) => [(8, .p 0 0), (9, .p 1 0)]) (fun (x7 : List (Int × List ApiSpan)) => [(0, .box [.i 0, .i 0, .i 0, .v (.slice none 0 0), .v (.slice none 0 0), .v (.slice none 0 0), .v (.slice none 0 0), .v (.slice none 0 0), .v (.slice none 0 0), .i 0, .v (.slice none 0 0), .v (.map none)]), (1, .box [.i s_1.Floor.W, .i s_1.Floor.H, .i s_1.Floor.D, .sl 1 eI s_1.Floor.Kind, .sl 1 eI s_1.Floor.Out, .sl 5 eApiZone s_1.Zones, .sl 2 eApiApart s_1.Aparts, .sl 2 eApiShelf s_1.Shelves, .sl 2 eApiStart s_1.Robots, .i tick, .sl 1 eI avoid, .o 2]), (2, .val (.om kI veOeApiSpan x7))]) 3 hm (fun x7 hm => ?_) (fun J8 hm hJ8 => ?_)
 refine C.nx (C.seq (U.start ?_))
 refine U.ps 1 T rfl ?_
 refine U.e1 rfl (.none rfl) (by exact Eff1.st T rfl rfl rfl rfl rfl rfl rfl rfl rfl rfl) ?_
 refine U.done (C.nx (C.ret ?_))
 exact C.fin T (rs' := [.agg [.i (({ site := s_1, tick := tick, avoid := avoid, taken := x7 : RouteWalk }).site.Floor.W), .i (({ site := s_1, tick := tick, avoid := avoid, taken := x7 : RouteWalk }).site.Floor.H), .i (({ site := s_1, tick := tick, avoid := avoid, taken := x7 : RouteWalk }).site.Floor.D), .sl 1 eI (({ site := s_1, tick := tick, avoid := avoid, taken := x7 : RouteWalk }).site.Floor.Kind), .sl 1 eI (({ site := s_1, tick := tick, avoid := avoid, taken := x7 : RouteWalk }).site.Floor.Out), .sl 5 eApiZone (({ site := s_1, tick := tick, avoid := avoid, taken := x7 : RouteWalk }).site.Zones), .sl 2 eApiApart (({ site := s_1, tick := tick, avoid := avoid, taken := x7 : RouteWalk }).site.Aparts), .sl 2 eApiShelf (({ site := s_1, tick := tick, avoid := avoid, taken := x7 : RouteWalk }).site.Shelves), .sl 2 eApiStart (({ site := s_1, tick := tick, avoid := avoid, taken := x7 : RouteWalk }).site.Robots), .i (({ site := s_1, tick := tick, avoid := avoid, taken := x7 : RouteWalk }).tick), .sl 1 eI (({ site := s_1, tick := tick, avoid := avoid, taken := x7 : RouteWalk }).avoid), .o 0]]) (H' := [(0, .val (.om kI veOeApiSpan (({ site := s_1, tick := tick, avoid := avoid, taken := x7 : RouteWalk }).taken)))]) (nl' := 1) [some 2] rfl rfl (.eq rfl) ⟨vL, trivial⟩ rfl rfl rfl rfl hβ ⟨({ site := s_1, tick := tick, avoid := avoid, taken := x7 : RouteWalk }), hm, rfl, rfl, rfl⟩
 refine C.block ?_
 refine St.wk (C.loop (fun (s9 : List (Int × List ApiSpan) × Int) => [(8, .p 0 0), (9, .p 1 0), (17, .sl 3 eApiTaken taken), (18, .i (taken.length : Int)), (19, .i s9.2)]) (fun (s9 : List (Int × List ApiSpan) × Int) => [(0, .box [.i 0, .i 0, .i 0, .v (.slice none 0 0), .v (.slice none 0 0), .v (.slice none 0 0), .v (.slice none 0 0), .v (.slice none 0 0), .v (.slice none 0 0), .i 0, .v (.slice none 0 0), .v (.map none)]), (1, .box [.i s_1.Floor.W, .i s_1.Floor.H, .i s_1.Floor.D, .sl 1 eI s_1.Floor.Kind, .sl 1 eI s_1.Floor.Out, .sl 5 eApiZone s_1.Zones, .sl 2 eApiApart s_1.Aparts, .sl 2 eApiShelf s_1.Shelves, .sl 2 eApiStart s_1.Robots, .i tick, .sl 1 eI avoid, .o 2]), (2, .val (.om kI veOeApiSpan s9.1))]) hm (fun s9 Y10 hm => ?_)) (Wk.f [some 1, some 3, some 2] ⟨bX, bX, vL, trivial⟩)
 refine C.seq (U.start ?_)
 refine U.ps 1 T rfl ?_
 refine U.done (C.nx (C.seq ?_))
 refine C.ite rfl hm (fun hb13 hm => ?_) (fun hb13 hm => ?_)
 refine C.skip (C.nx (C.seq (C.block (C.seq (U.start ?_)))))
 obtain ⟨x16, hx16, hm⟩ := hm
 refine U.r rfl (.none rfl) rfl rfl (by exact Rd.ix T rfl rfl rfl rfl rfl rfl hx16) ?_
 refine U.ps 1 T rfl ?_
 refine U.e1 rfl (.none rfl) (by exact Eff1.al T rfl rfl rfl rfl) ?_
 refine U.e1 rfl (.none rfl) (by exact Eff1.st T rfl rfl rfl rfl rfl rfl rfl rfl rfl rfl) ?_
 refine U.done (C.nx ?_)
 refine C.jn (fun (x17 : List (Int × List ApiSpan)) => [(8, .p 0 0), (9, .p 1 0), (17, .sl 3 eApiTaken taken), (18, .i (taken.length : Int)), (19, .i s9.2)]) (fun (x17 : List (Int × List ApiSpan)) => [(0, .box [.i 0, .i 0, .i 0, .v (.slice none 0 0), .v (.slice none 0 0), .v (.slice none 0 0), .v (.slice none 0 0), .v (.slice none 0 0), .v (.slice none 0 0), .i 0, .v (.slice none 0 0), .v (.map none)]), (1, .box [.i s_1.Floor.W, .i s_1.Floor.H, .i s_1.Floor.D, .sl 1 eI s_1.Floor.Kind, .sl 1 eI s_1.Floor.Out, .sl 5 eApiZone s_1.Zones, .sl 2 eApiApart s_1.Aparts, .sl 2 eApiShelf s_1.Shelves, .sl 2 eApiStart s_1.Robots, .i tick, .sl 1 eI avoid, .o 2]), (2, .val (.om kI veOeApiSpan x17))]) 3 hm (fun x17 hm => ?_) (fun J18 hm hJ18 => ?_)
 refine C.bnx (C.nx (U.start ?_))
 refine U.ps 2 T rfl ?_
 refine U.done (C.nx ?_)
 exact St.wk (C.next hm) (Wk.f [some 0, some 1, some 2] ⟨bX, bX, vL, trivial⟩)
 rcases lk_cases s9.1 x16.Cell with ⟨x19, hx20⟩ | hx20
 replace hm := hm.1 x19 hx20
 refine St.lendm (l := 2) rfl hx20 rfl ?_
 refine D.beg 13 [1, 2, 3] [4] mix rfl rfl (by kernel_rfl) (by repeat (first | exact NoPanicQ.body | exact NoPanicQ.rnd | refine NoPanicQ.th ?_ | refine NoPanicQ.blk ?_)) (fun hQ hS ws M' => ?_)
 refine D.ps 8 [(0, []), (1, []), (2, []), (3, []), (4, []), (5, []), (6, []), (7, [])] rfl hQ hS T rfl rfl (by kernel_rfl) ?_
 refine D.q 8 [] hQ hS rfl (.none rfl) rfl rfl (by exact Rd.lkl T rfl rfl kt3 rfl rfl (.head _) rfl rfl rfl rfl) rfl (by kernel_rfl) ?_
 refine D.ps 2 [(9, []), (10, [])] rfl hQ hS T rfl rfl (by kernel_rfl) ?_
 refine D.e1 11 rfl (.none rfl) (by exact Eff1.bs T (enc := eApiSpan) (xs := ([x16.Span] : List ApiSpan)) rfl rfl rfl rfl rfl rfl rfl rfl rfl rfl (fun _ _ => rfl) rfl rfl) (by kernel_rfl) rfl rfl ?_
 obtain ⟨hx21, hm⟩ := hm
 refine D.e1 12 rfl (.none rfl) (by exact Eff1.ap T rfl rfl rfl rfl rfl rfl (.inr ⟨_, rfl, rfl⟩) rfl rfl rfl (fun _ => rfl) rfl hx21) (by kernel_rfl) rfl rfl ?_
 refine D.ze1 rfl (.none rfl) (by exact Eff1.mul T (x := x16.Cell) rfl rfl kt3 rfl rfl (fun _ h => nomatch h) rfl rfl rfl rfl) (by kernel_rfl) (by kernel_rfl) ?_
 refine St.putm (l := 2) (l' := 6) (y := (x19 ++ ([x16.Span] : List ApiSpan))) rfl rfl rfl rfl ?_
 exact St.wk (hJ18 _ hm) (Wk.f [some 0, some 1, some 2] ⟨bX, bX, vL, trivial⟩)
 replace hm := hm.2 hx20
 refine D.beg 13 [1, 2, 3] [] mix rfl rfl (by kernel_rfl) (by repeat (first | exact NoPanicQ.body | exact NoPanicQ.rnd | refine NoPanicQ.th ?_ | refine NoPanicQ.blk ?_)) (fun hQ hS ws M' => ?_)
 refine D.ps 8 [(0, []), (1, []), (2, []), (3, []), (4, []), (5, []), (6, []), (7, [])] rfl hQ hS T rfl rfl (by kernel_rfl) ?_
 refine D.q 8 [] hQ hS rfl (.none rfl) rfl rfl (by exact Rd.lkn (z := .slice none 0 0) T rfl rfl kt3 (fun w => by kernel_rfl) rfl rfl hx20 rfl rfl) rfl (by kernel_rfl) ?_
 refine D.ps 2 [(9, []), (10, [])] rfl hQ hS T rfl rfl (by kernel_rfl) ?_
 refine D.e1 11 rfl (.none rfl) (by exact Eff1.bs T (enc := eApiSpan) (xs := ([x16.Span] : List ApiSpan)) rfl rfl rfl rfl rfl rfl rfl rfl rfl rfl (fun _ _ => rfl) rfl rfl) (by kernel_rfl) rfl rfl ?_
 obtain ⟨hx22, hm⟩ := hm
 refine D.e1 12 rfl (.none rfl) (by exact Eff1.apn T rfl rfl rfl rfl rfl (.inr ⟨_, rfl, rfl⟩) rfl rfl rfl (fun _ => rfl) rfl (fun _ => rfl) hx22) (by kernel_rfl) rfl rfl ?_
 refine D.ze1 rfl (.none rfl) (by exact Eff1.mun T (x := x16.Cell) [] rfl rfl kt3 rfl rfl hx20 rfl rfl rfl rfl) (by kernel_rfl) (by kernel_rfl) ?_
 refine St.putm (l := 2) (l' := 5) (y := ([x16.Span] : List ApiSpan)) rfl rfl rfl rfl ?_
 exact St.wk (hJ18 _ hm) (Wk.f [some 0, some 1, some 2] ⟨bX, bX, vL, trivial⟩)
 refine C.exit (C.ex (C.ex (C.bex ?_)))
 exact St.wk (hJ8 _ hm) (Wk.f [some 0, some 1, some 2] ⟨bX, bX, vL, trivial⟩)
theorem T_route_walk_held_1 (x_1 : ApiSpan) (c0 : Int) (post : Bool → Prop) (hm : V_route_walk_held_1 x_1 c0 post) :
    Tr Tryz.prog 66 [.agg [.i x_1.From, .i x_1.To], .rp [.i c0]] [] 0 (fun A H' k => ∃ y, post y ∧ A = (.b y) ∧ H' = [] ∧ k = 0) := by
 refine Tr.intro (n := 14) Tryz.func66 rfl Tryz.ntmps66 rfl (fun w0 ok F β hβ => ?_)
 unfold V_route_walk_held_1 at hm
 refine C.seq (U.start ?_)
 refine U.e1 rfl (.none rfl) (by exact Eff1.box rfl rfl rfl rfl rfl) ?_
 refine U.ps 1 T rfl ?_
 refine U.done (C.nx (C.seq ?_))
 refine C.jn (fun (x3 : Bool) => [(3, .b x3)]) (fun (x3 : Bool) => []) 0 hm (fun x3 hm => ?_) (fun J4 hm hJ4 => ?_)
 refine C.nx (C.ret ?_)
 exact C.f0 T (rs' := [.b x3]) hβ ⟨x3, hm, rfl, rfl, rfl⟩
 refine U.start ?_
 refine U.ps 5 T rfl ?_
 refine hm.cs (fun hb5 hm => ?_) (fun hb5 hm => ?_)
 refine U.pg 4 4 true 8 hb5 T rfl rfl rfl rfl ?_
 refine U.r rfl (.none rfl) rfl rfl (by exact Rd.pk rfl rfl hb5 rfl) ?_
 refine U.ps 1 T rfl ?_
 refine U.done ?_
 exact St.wk (hJ4 _ hm) (Wk.e)
 refine U.sks 4 4 true 8 hb5 rfl rfl rfl ?_
 refine U.r rfl (.none rfl) rfl rfl (by exact Rd.pk' rfl rfl hb5 rfl) ?_
 refine U.ps 1 T rfl ?_
 refine U.done ?_
 exact St.wk (hJ4 _ hm) (Wk.e)
theorem T_slices_IndexFunc_api_Span_api_Span__route_walk_held_1 (s_1 : List ApiSpan) (f_c0 : Int) (post : Int → Prop) (hm : V_slices_IndexFunc_api_Span_api_Span__route_walk_held_1 s_1 f_c0 post) :
    Tr Tryz.prog 92 [.sl 2 eApiSpan s_1, .fn (.func 66) [] [.rp [.i f_c0]]] [] 0 (fun A H' k => ∃ y, post y ∧ A = (.i y) ∧ H' = [] ∧ k = 0) := by
 refine Tr.intro (n := 19) Tryz.func92 rfl Tryz.ntmps92 rfl (fun w0 ok F β hβ => ?_)
 unfold V_slices_IndexFunc_api_Span_api_Span__route_walk_held_1 at hm
 refine C.seq (U.start ?_)
 refine U.ps 1 T rfl ?_
 refine U.done (C.nx (C.seq (C.seq (U.start ?_))))
 refine U.ps 3 T rfl ?_
 refine U.done (C.nx ?_)
 refine C.jn (fun (x5 : Unit) => []) (fun (x5 : Unit) => []) 0 hm (fun x5 hm => ?_) (fun J6 hm hJ6 => ?_)
 refine C.nx (C.seq (U.start ?_))
 refine U.ps 1 T rfl ?_
 refine U.done (C.nx (C.ret ?_))
 exact C.f0 T (rs' := [.i (-1)]) hβ ⟨(-1), hm, rfl, rfl, rfl⟩
 refine C.block ?_
 refine St.wk (C.loop (fun (s7 : Int) => [(0, .sl 2 eApiSpan s_1), (1, .fn (.func 66) [] [.rp [.i f_c0]]), (7, .i (s_1.length : Int)), (8, .i s7)]) (fun (s7 : Int) => []) hm (fun s7 Y8 hm => ?_)) (Wk.e)
 refine C.seq (U.start ?_)
 refine U.ps 1 T rfl ?_
 refine U.done (C.nx (C.seq ?_))
 refine C.ite rfl hm (fun hb11 hm => ?_) (fun hb11 hm => ?_)
 refine C.skip (C.nx (C.seq (C.block (C.seq (U.start ?_)))))
 refine U.ps 2 T rfl ?_
 refine U.done (C.nx (C.seq (U.start ?_)))
 refine U.ps 3 T rfl ?_
 obtain ⟨x16, hx16, hm⟩ := hm
 refine U.r rfl (.none rfl) rfl rfl (by exact Rd.ix T rfl rfl rfl rfl rfl rfl hx16) ?_
 refine U.ps 1 T rfl ?_
 refine U.e rfl (.none rfl) (by exact Eff.k (T_route_walk_held_1 x16 f_c0 _ hm) en66 rfl rfl rfl (.eq rfl) (fun _ _ => ⟨(.v _), trivial⟩)) (fun x17' hm => ?_)
 obtain ⟨x17⟩ := x17'
 refine U.done (C.nx ?_)
 refine C.ite rfl hm (fun hb18 hm => ?_) (fun hb18 hm => ?_)
 refine C.seq (U.start ?_)
 refine U.ps 2 T rfl ?_
 refine U.done (C.nx (C.ret (C.brt (C.rt (C.rt (C.brt (C.rt ?_)))))))
 exact C.f0 T (rs' := [.i s7]) hβ ⟨s7, hm, rfl, rfl, rfl⟩
 refine C.skip (C.bnx (C.nx (U.start ?_)))
 refine U.ps 2 T rfl ?_
 refine U.done (C.nx ?_)
 exact St.wk (C.next hm) (Wk.e)
 refine C.exit (C.ex (C.ex (C.bex ?_)))
 exact St.wk (hJ6 _ hm) (Wk.mk' [] rfl rfl trivial trivial rfl)
theorem T_slices_ContainsFunc_api_Span_api_Span__route_walk_held_1 (s_1 : List ApiSpan) (f_c0 : Int) (post : Bool → Prop) (hm : V_slices_ContainsFunc_api_Span_api_Span__route_walk_held_1 s_1 f_c0 post) :
    Tr Tryz.prog 65 [.sl 2 eApiSpan s_1, .fn (.func 66) [] [.rp [.i f_c0]]] [] 0 (fun A H' k => ∃ y, post y ∧ A = (.b y) ∧ H' = [] ∧ k = 0) := by
 refine Tr.intro (n := 9) Tryz.func65 rfl Tryz.ntmps65 rfl (fun w0 ok F β hβ => ?_)
 unfold V_slices_ContainsFunc_api_Span_api_Span__route_walk_held_1 at hm
 refine C.seq (U.start ?_)
 refine U.ps 1 T rfl ?_
 refine U.done (C.nx (C.seq (U.start ?_)))
 refine U.ps 2 T rfl ?_
 refine U.e rfl (.none rfl) (by exact Eff.k (T_slices_IndexFunc_api_Span_api_Span__route_walk_held_1 s_1 f_c0 _ hm) en92 rfl rfl rfl (.eq rfl) (fun _ _ => ⟨(.v _), trivial⟩)) (fun x5' hm => ?_)
 obtain ⟨x5⟩ := x5'
 refine U.ps 2 T rfl ?_
 refine U.done (C.nx (C.ret ?_))
 exact C.f0 T (rs' := [.b (decide (x5 ≥ 0))]) hβ ⟨decide (x5 ≥ 0), hm, rfl, rfl, rfl⟩
theorem T_route_walk_held (w : RouteWalk) (c : Int) (k : Int) (post : Bool → Prop) (hm : V_route_walk_held w c k post) :
    Tr Tryz.prog 30 [.agg [.i w.site.Floor.W, .i w.site.Floor.H, .i w.site.Floor.D, .sl 1 eI w.site.Floor.Kind, .sl 1 eI w.site.Floor.Out, .sl 5 eApiZone w.site.Zones, .sl 2 eApiApart w.site.Aparts, .sl 2 eApiShelf w.site.Shelves, .sl 2 eApiStart w.site.Robots, .i w.tick, .sl 1 eI w.avoid, .rm kI veLeApiSpan w.taken], .i c, .i k] [] 0 (fun A H' k => ∃ y, post y ∧ A = (.b y) ∧ H' = [] ∧ k = 0) := by
 refine Tr.intro (n := 18) Tryz.func30 rfl Tryz.ntmps30 rfl (fun w0 ok F β hβ => ?_)
 unfold V_route_walk_held at hm
 refine C.seq (U.start ?_)
 refine U.e1 rfl (.none rfl) (by exact Eff1.box rfl rfl rfl rfl rfl) ?_
 refine U.ps 1 T rfl ?_
 refine U.done (C.nx (C.seq (U.start ?_)))
 refine U.ps 4 T rfl ?_
 refine U.e1 rfl (.none rfl) (by exact Eff1.al T rfl rfl rfl rfl) ?_
 refine U.e1 rfl (.none rfl) (by exact Eff1.st T rfl rfl rfl rfl rfl rfl rfl rfl rfl rfl) ?_
 refine U.done (C.nx (C.seq (U.start ?_)))
 refine U.ps 3 T rfl ?_
 refine U.r rfl (.none rfl) rfl rfl (by exact Rd.lk T (ke := kI) (ve := veLeApiSpan) (xs := w.taken) (z0 := []) (x := c) rfl rfl kt3 zt55 (fun _ => rfl) rfl .rm rfl rfl rfl) ?_
 refine U.ps 1 T rfl ?_
 refine U.e rfl (.none rfl) (by exact Eff.k (T_slices_ContainsFunc_api_Span_api_Span__route_walk_held_1 ((lk w.taken c).getD []) (w64 (w.tick + k)) _ hm) en65 rfl rfl rfl (.cons (.eq rfl) (.cons (.fn (.eq rfl) (.cons (.fzp rfl rfl rfl rfl (.eq rfl) rfl) .nil)) .nil)) (fun _ _ => ⟨(.v _), trivial⟩)) (fun x7' hm => ?_)
 obtain ⟨x7⟩ := x7'
 refine U.ps 1 T rfl ?_
 refine U.done (C.nx (C.ret ?_))
 exact C.f0 T (rs' := [.b x7]) hβ ⟨x7, hm, rfl, rfl, rfl⟩
theorem T_floor_size (f : ApiFloor) (post : Int → Prop) (hm : V_floor_size f post) :
    Tr Tryz.prog 100 [.agg (eApiFloor f)] [] 0 (fun A H' k => ∃ y, post y ∧ A = (.i y) ∧ H' = [] ∧ k = 0) := by
 refine Tr.intro (n := 11) Tryz.func100 rfl Tryz.ntmps100 rfl (fun w0 ok F β hβ => ?_)
 unfold V_floor_size at hm
 refine C.seq (U.start ?_)
 refine U.e1 rfl (.none rfl) (by exact Eff1.box rfl rfl rfl rfl rfl) ?_
 refine U.ps 1 T rfl ?_
 refine U.done (C.nx (C.seq (U.start ?_)))
 refine U.ps 9 T rfl ?_
 refine U.done (C.nx (C.ret ?_))
 exact C.f0 T (rs' := [.i (w64 ((w64 (f.W * f.H)) * f.D))]) hβ ⟨w64 ((w64 (f.W * f.H)) * f.D), hm, rfl, rfl, rfl⟩
theorem T_floor_is (f : ApiFloor) (c : Int) (post : Bool → Prop) (hm : V_floor_is f c post) :
    Tr Tryz.prog 81 [.agg (eApiFloor f), .i c] [] 0 (fun A H' k => ∃ y, post y ∧ A = (.b y) ∧ H' = [] ∧ k = 0) := by
 refine Tr.intro (n := 13) Tryz.func81 rfl Tryz.ntmps81 rfl (fun w0 ok F β hβ => ?_)
 unfold V_floor_is at hm
 refine C.seq (U.start ?_)
 refine U.e1 rfl (.none rfl) (by exact Eff1.box rfl rfl rfl rfl rfl) ?_
 refine U.ps 1 T rfl ?_
 refine U.done (C.nx (C.seq ?_))
 refine C.jn (fun (x3 : Bool) => [(4, .b x3)]) (fun (x3 : Bool) => []) 0 hm (fun x3 hm => ?_) (fun J4 hm hJ4 => ?_)
 refine C.nx (C.ret ?_)
 exact C.f0 T (rs' := [.b x3]) hβ ⟨x3, hm, rfl, rfl, rfl⟩
 refine U.start ?_
 refine U.ps 3 T rfl ?_
 refine hm.cs (fun hb5 hm => ?_) (fun hb5 hm => ?_)
 refine U.pg 2 2 true 7 hb5 T rfl rfl rfl rfl ?_
 refine U.e rfl (.take 2 true 7 _ hb5 rfl rfl rfl) (by exact Eff.k (T_floor_size f _ hm) en100 rfl rfl rfl (.eq rfl) (fun _ _ => ⟨(.v _), trivial⟩)) (fun x6' hm => ?_)
 obtain ⟨x6⟩ := x6'
 refine U.pg 1 2 true 7 hb5 T rfl rfl rfl rfl ?_
 refine U.r rfl (.none rfl) rfl rfl (by exact Rd.pk rfl rfl hb5 rfl) ?_
 refine U.ps 1 T rfl ?_
 refine U.done ?_
 exact St.wk (hJ4 _ hm) (Wk.e)
 refine U.sks 4 2 true 7 hb5 rfl rfl rfl ?_
 refine U.r rfl (.none rfl) rfl rfl (by exact Rd.pk' rfl rfl hb5 rfl) ?_
 refine U.ps 1 T rfl ?_
 refine U.done ?_
 exact St.wk (hJ4 _ hm) (Wk.e)
theorem T_floor_At (f : ApiFloor) (c : Int) (post : (Int × Int × Int) → Prop) (hm : V_floor_At f c post) :
    Tr Tryz.prog 86 [.agg (eApiFloor f), .i c] [] 0 (fun A H' k => ∃ y, post y ∧ A = (.tup [.i y.1, .i y.2.1, .i y.2.2]) ∧ H' = [] ∧ k = 0) := by
 refine Tr.intro (n := 29) Tryz.func86 rfl Tryz.ntmps86 rfl (fun w0 ok F β hβ => ?_)
 unfold V_floor_At at hm
 refine C.seq (U.start ?_)
 refine U.e1 rfl (.none rfl) (by exact Eff1.box rfl rfl rfl rfl rfl) ?_
 refine U.ps 3 T rfl ?_
 refine U.done (C.nx (C.seq (C.seq (U.start ?_))))
 refine U.ps 2 T rfl ?_
 refine U.e rfl (.none rfl) (by exact Eff.k (T_floor_is f c _ hm) en81 rfl rfl rfl (.eq rfl) (fun _ _ => ⟨(.v _), trivial⟩)) (fun x5' hm => ?_)
 obtain ⟨x5⟩ := x5'
 refine U.ps 1 T rfl ?_
 refine U.done (C.nx ?_)
 refine C.ite rfl hm (fun hb6 hm => ?_) (fun hb6 hm => ?_)
 refine C.seq (U.start ?_)
 refine U.ps 3 T rfl ?_
 refine U.done (C.nx (C.ret (C.rt ?_)))
 exact C.f0 T (rs' := [.i ((0, 0, 0).1), .i ((0, 0, 0).2.1), .i ((0, 0, 0).2.2)]) hβ ⟨(0, 0, 0), hm, rfl, rfl, rfl⟩
 refine C.skip (C.nx (C.seq ?_))
 refine D.beg 9999 [0] [] mix rfl rfl (by kernel_rfl) (by repeat (first | exact NoPanicQ.body | exact NoPanicQ.rnd | refine NoPanicQ.th ?_ | refine NoPanicQ.blk ?_)) (fun hQ hS ws M' => ?_)
 refine D.ps 3 [(0, []), (1, []), (2, [])] rfl hQ hS T rfl rfl (by kernel_rfl) ?_
 obtain ⟨hx11, hm⟩ := hm
 refine D.q 3 [] hQ hS rfl (.none rfl) rfl rfl (by exact Rd.rm rfl rfl rfl rfl hx11) rfl (by kernel_rfl) ?_
 refine D.ps 3 [(4, []), (5, []), (6, [])] rfl hQ hS T rfl rfl (by kernel_rfl) ?_
 obtain ⟨hx12, hm⟩ := hm
 refine D.q 7 [] hQ hS rfl (.none rfl) rfl rfl (by exact Rd.dv rfl rfl rfl rfl hx12) rfl (by kernel_rfl) ?_
 refine D.ps 2 [(8, []), (9, [])] rfl hQ hS T rfl rfl (by kernel_rfl) ?_
 obtain ⟨hx13, hm⟩ := hm
 refine D.q 10 [] hQ hS rfl (.none rfl) rfl rfl (by exact Rd.rm rfl rfl rfl rfl hx13) rfl (by kernel_rfl) ?_
 refine D.ps 6 [(11, []), (12, []), (13, []), (14, []), (15, []), (16, [])] rfl hQ hS T rfl rfl (by kernel_rfl) ?_
 obtain ⟨hx14, hm⟩ := hm
 refine D.q 17 [] hQ hS rfl (.none rfl) rfl rfl (by exact Rd.dv rfl rfl rfl rfl hx14) rfl (by kernel_rfl) ?_
 refine D.ps 3 [(18, []), (19, []), (20, [])] rfl hQ hS T rfl rfl (by kernel_rfl) ?_
 refine D.done (by kernel_rfl) ?_
 refine C.nx (C.ret ?_)
 exact C.f0 T (rs' := [.i ((c.tmod f.W, (w64 (c.tdiv f.W)).tmod f.H, w64 (c.tdiv (w64 (f.W * f.H)))).1), .i ((c.tmod f.W, (w64 (c.tdiv f.W)).tmod f.H, w64 (c.tdiv (w64 (f.W * f.H)))).2.1), .i ((c.tmod f.W, (w64 (c.tdiv f.W)).tmod f.H, w64 (c.tdiv (w64 (f.W * f.H)))).2.2)]) hβ ⟨(c.tmod f.W, (w64 (c.tdiv f.W)).tmod f.H, w64 (c.tdiv (w64 (f.W * f.H)))), hm, rfl, rfl, rfl⟩
theorem T_floor_steps (post : Arr6FloorStep → Prop) (hm : V_floor_steps post) :
    Tr Tryz.prog 87 [] [] 0 (fun A H' k => ∃ y, post y ∧ A = (.agg [.i y.e0.x, .i y.e0.y, .i y.e0.z, .i y.e1.x, .i y.e1.y, .i y.e1.z, .i y.e2.x, .i y.e2.y, .i y.e2.z, .i y.e3.x, .i y.e3.y, .i y.e3.z, .i y.e4.x, .i y.e4.y, .i y.e4.z, .i y.e5.x, .i y.e5.y, .i y.e5.z]) ∧ H' = [] ∧ k = 0) := by
 refine Tr.intro (n := 8) Tryz.func87 rfl Tryz.ntmps87 rfl (fun w0 ok F β hβ => ?_)
 unfold V_floor_steps at hm
 refine C.seq (U.start ?_)
 refine U.e1 rfl (.none rfl) (by exact Eff1.al T rfl rfl rfl rfl) ?_
 refine U.done (C.nx (C.seq (U.start ?_)))
 refine U.ps 7 T rfl ?_
 refine U.e1 rfl (.none rfl) (by exact Eff1.st T rfl rfl rfl rfl rfl rfl rfl rfl rfl rfl) ?_
 refine U.done (C.nx (C.ret ?_))
 exact C.f0 T (rs' := [.agg [.i (({ e0 := ({ x := 1, y := 0, z := 0 : FloorStep }), e1 := ({ x := 0, y := 1, z := 0 : FloorStep }), e2 := ({ x := (-1), y := 0, z := 0 : FloorStep }), e3 := ({ x := 0, y := (-1), z := 0 : FloorStep }), e4 := ({ x := 0, y := 0, z := 1 : FloorStep }), e5 := ({ x := 0, y := 0, z := (-1) : FloorStep }) : Arr6FloorStep }).e0.x), .i (({ e0 := ({ x := 1, y := 0, z := 0 : FloorStep }), e1 := ({ x := 0, y := 1, z := 0 : FloorStep }), e2 := ({ x := (-1), y := 0, z := 0 : FloorStep }), e3 := ({ x := 0, y := (-1), z := 0 : FloorStep }), e4 := ({ x := 0, y := 0, z := 1 : FloorStep }), e5 := ({ x := 0, y := 0, z := (-1) : FloorStep }) : Arr6FloorStep }).e0.y), .i (({ e0 := ({ x := 1, y := 0, z := 0 : FloorStep }), e1 := ({ x := 0, y := 1, z := 0 : FloorStep }), e2 := ({ x := (-1), y := 0, z := 0 : FloorStep }), e3 := ({ x := 0, y := (-1), z := 0 : FloorStep }), e4 := ({ x := 0, y := 0, z := 1 : FloorStep }), e5 := ({ x := 0, y := 0, z := (-1) : FloorStep }) : Arr6FloorStep }).e0.z), .i (({ e0 := ({ x := 1, y := 0, z := 0 : FloorStep }), e1 := ({ x := 0, y := 1, z := 0 : FloorStep }), e2 := ({ x := (-1), y := 0, z := 0 : FloorStep }), e3 := ({ x := 0, y := (-1), z := 0 : FloorStep }), e4 := ({ x := 0, y := 0, z := 1 : FloorStep }), e5 := ({ x := 0, y := 0, z := (-1) : FloorStep }) : Arr6FloorStep }).e1.x), .i (({ e0 := ({ x := 1, y := 0, z := 0 : FloorStep }), e1 := ({ x := 0, y := 1, z := 0 : FloorStep }), e2 := ({ x := (-1), y := 0, z := 0 : FloorStep }), e3 := ({ x := 0, y := (-1), z := 0 : FloorStep }), e4 := ({ x := 0, y := 0, z := 1 : FloorStep }), e5 := ({ x := 0, y := 0, z := (-1) : FloorStep }) : Arr6FloorStep }).e1.y), .i (({ e0 := ({ x := 1, y := 0, z := 0 : FloorStep }), e1 := ({ x := 0, y := 1, z := 0 : FloorStep }), e2 := ({ x := (-1), y := 0, z := 0 : FloorStep }), e3 := ({ x := 0, y := (-1), z := 0 : FloorStep }), e4 := ({ x := 0, y := 0, z := 1 : FloorStep }), e5 := ({ x := 0, y := 0, z := (-1) : FloorStep }) : Arr6FloorStep }).e1.z), .i (({ e0 := ({ x := 1, y := 0, z := 0 : FloorStep }), e1 := ({ x := 0, y := 1, z := 0 : FloorStep }), e2 := ({ x := (-1), y := 0, z := 0 : FloorStep }), e3 := ({ x := 0, y := (-1), z := 0 : FloorStep }), e4 := ({ x := 0, y := 0, z := 1 : FloorStep }), e5 := ({ x := 0, y := 0, z := (-1) : FloorStep }) : Arr6FloorStep }).e2.x), .i (({ e0 := ({ x := 1, y := 0, z := 0 : FloorStep }), e1 := ({ x := 0, y := 1, z := 0 : FloorStep }), e2 := ({ x := (-1), y := 0, z := 0 : FloorStep }), e3 := ({ x := 0, y := (-1), z := 0 : FloorStep }), e4 := ({ x := 0, y := 0, z := 1 : FloorStep }), e5 := ({ x := 0, y := 0, z := (-1) : FloorStep }) : Arr6FloorStep }).e2.y), .i (({ e0 := ({ x := 1, y := 0, z := 0 : FloorStep }), e1 := ({ x := 0, y := 1, z := 0 : FloorStep }), e2 := ({ x := (-1), y := 0, z := 0 : FloorStep }), e3 := ({ x := 0, y := (-1), z := 0 : FloorStep }), e4 := ({ x := 0, y := 0, z := 1 : FloorStep }), e5 := ({ x := 0, y := 0, z := (-1) : FloorStep }) : Arr6FloorStep }).e2.z), .i (({ e0 := ({ x := 1, y := 0, z := 0 : FloorStep }), e1 := ({ x := 0, y := 1, z := 0 : FloorStep }), e2 := ({ x := (-1), y := 0, z := 0 : FloorStep }), e3 := ({ x := 0, y := (-1), z := 0 : FloorStep }), e4 := ({ x := 0, y := 0, z := 1 : FloorStep }), e5 := ({ x := 0, y := 0, z := (-1) : FloorStep }) : Arr6FloorStep }).e3.x), .i (({ e0 := ({ x := 1, y := 0, z := 0 : FloorStep }), e1 := ({ x := 0, y := 1, z := 0 : FloorStep }), e2 := ({ x := (-1), y := 0, z := 0 : FloorStep }), e3 := ({ x := 0, y := (-1), z := 0 : FloorStep }), e4 := ({ x := 0, y := 0, z := 1 : FloorStep }), e5 := ({ x := 0, y := 0, z := (-1) : FloorStep }) : Arr6FloorStep }).e3.y), .i (({ e0 := ({ x := 1, y := 0, z := 0 : FloorStep }), e1 := ({ x := 0, y := 1, z := 0 : FloorStep }), e2 := ({ x := (-1), y := 0, z := 0 : FloorStep }), e3 := ({ x := 0, y := (-1), z := 0 : FloorStep }), e4 := ({ x := 0, y := 0, z := 1 : FloorStep }), e5 := ({ x := 0, y := 0, z := (-1) : FloorStep }) : Arr6FloorStep }).e3.z), .i (({ e0 := ({ x := 1, y := 0, z := 0 : FloorStep }), e1 := ({ x := 0, y := 1, z := 0 : FloorStep }), e2 := ({ x := (-1), y := 0, z := 0 : FloorStep }), e3 := ({ x := 0, y := (-1), z := 0 : FloorStep }), e4 := ({ x := 0, y := 0, z := 1 : FloorStep }), e5 := ({ x := 0, y := 0, z := (-1) : FloorStep }) : Arr6FloorStep }).e4.x), .i (({ e0 := ({ x := 1, y := 0, z := 0 : FloorStep }), e1 := ({ x := 0, y := 1, z := 0 : FloorStep }), e2 := ({ x := (-1), y := 0, z := 0 : FloorStep }), e3 := ({ x := 0, y := (-1), z := 0 : FloorStep }), e4 := ({ x := 0, y := 0, z := 1 : FloorStep }), e5 := ({ x := 0, y := 0, z := (-1) : FloorStep }) : Arr6FloorStep }).e4.y), .i (({ e0 := ({ x := 1, y := 0, z := 0 : FloorStep }), e1 := ({ x := 0, y := 1, z := 0 : FloorStep }), e2 := ({ x := (-1), y := 0, z := 0 : FloorStep }), e3 := ({ x := 0, y := (-1), z := 0 : FloorStep }), e4 := ({ x := 0, y := 0, z := 1 : FloorStep }), e5 := ({ x := 0, y := 0, z := (-1) : FloorStep }) : Arr6FloorStep }).e4.z), .i (({ e0 := ({ x := 1, y := 0, z := 0 : FloorStep }), e1 := ({ x := 0, y := 1, z := 0 : FloorStep }), e2 := ({ x := (-1), y := 0, z := 0 : FloorStep }), e3 := ({ x := 0, y := (-1), z := 0 : FloorStep }), e4 := ({ x := 0, y := 0, z := 1 : FloorStep }), e5 := ({ x := 0, y := 0, z := (-1) : FloorStep }) : Arr6FloorStep }).e5.x), .i (({ e0 := ({ x := 1, y := 0, z := 0 : FloorStep }), e1 := ({ x := 0, y := 1, z := 0 : FloorStep }), e2 := ({ x := (-1), y := 0, z := 0 : FloorStep }), e3 := ({ x := 0, y := (-1), z := 0 : FloorStep }), e4 := ({ x := 0, y := 0, z := 1 : FloorStep }), e5 := ({ x := 0, y := 0, z := (-1) : FloorStep }) : Arr6FloorStep }).e5.y), .i (({ e0 := ({ x := 1, y := 0, z := 0 : FloorStep }), e1 := ({ x := 0, y := 1, z := 0 : FloorStep }), e2 := ({ x := (-1), y := 0, z := 0 : FloorStep }), e3 := ({ x := 0, y := (-1), z := 0 : FloorStep }), e4 := ({ x := 0, y := 0, z := 1 : FloorStep }), e5 := ({ x := 0, y := 0, z := (-1) : FloorStep }) : Arr6FloorStep }).e5.z)]]) hβ ⟨({ e0 := ({ x := 1, y := 0, z := 0 : FloorStep }), e1 := ({ x := 0, y := 1, z := 0 : FloorStep }), e2 := ({ x := (-1), y := 0, z := 0 : FloorStep }), e3 := ({ x := 0, y := (-1), z := 0 : FloorStep }), e4 := ({ x := 0, y := 0, z := 1 : FloorStep }), e5 := ({ x := 0, y := 0, z := (-1) : FloorStep }) : Arr6FloorStep }), hm, rfl, rfl, rfl⟩
theorem T_floor_Cell (f : ApiFloor) (x_1 : Int) (y_1 : Int) (z : Int) (post : Int → Prop) (hm : V_floor_Cell f x_1 y_1 z post) :
    Tr Tryz.prog 88 [.agg (eApiFloor f), .i x_1, .i y_1, .i z] [] 0 (fun A H' k => ∃ y, post y ∧ A = (.i y) ∧ H' = [] ∧ k = 0) := by
 refine Tr.intro (n := 43) Tryz.func88 rfl Tryz.ntmps88 rfl (fun w0 ok F β hβ => ?_)
 unfold V_floor_Cell at hm
 refine C.seq (U.start ?_)
 refine U.e1 rfl (.none rfl) (by exact Eff1.box rfl rfl rfl rfl rfl) ?_
 refine U.ps 1 T rfl ?_
 refine U.done (C.nx (C.seq (C.seq ?_)))
 refine C.jn (fun (x3 : Bool) => [(1, .i x_1), (2, .i y_1), (3, .i z), (4, .p 0 0), (31, .b x3)]) (fun (x3 : Bool) => [(0, .box (eApiFloor f))]) 1 hm (fun x3 hm => ?_) (fun J4 hm hJ4 => ?_)
 refine C.nx ?_
 refine C.ite rfl hm (fun hb8 hm => ?_) (fun hb8 hm => ?_)
 refine C.seq (U.start ?_)
 refine U.ps 1 T rfl ?_
 refine U.done (C.nx (C.ret (C.rt ?_)))
 exact C.f0 T (rs' := [.i (-1)]) hβ ⟨(-1), hm, rfl, rfl, rfl⟩
 refine C.skip (C.nx (C.seq (U.start ?_)))
 refine U.ps 12 T rfl ?_
 refine U.done (C.nx (C.ret ?_))
 exact C.f0 T (rs' := [.i (w64 ((w64 ((w64 ((w64 (z * f.H)) + y_1)) * f.W)) + x_1))]) hβ ⟨w64 ((w64 ((w64 ((w64 (z * f.H)) + y_1)) * f.W)) + x_1), hm, rfl, rfl, rfl⟩
 refine U.start ?_
 refine U.ps 6 T rfl ?_
 refine hm.cs (fun hb5 hm => ?_) (fun hb5 hm => ?_)
 refine U.sks 4 5 false 14 hb5 rfl rfl rfl ?_
 refine U.r rfl (.none rfl) rfl rfl (by exact Rd.pk rfl rfl hb5 rfl) ?_
 refine U.ps 1 T rfl ?_
 refine U.sks 4 11 false 20 rfl rfl rfl rfl ?_
 refine U.r rfl (.none rfl) rfl rfl (by exact Rd.pk rfl rfl rfl rfl) ?_
 refine U.ps 1 T rfl ?_
 refine U.sks 4 17 false 26 rfl rfl rfl rfl ?_
 refine U.r rfl (.none rfl) rfl rfl (by exact Rd.pk rfl rfl rfl rfl) ?_
 refine U.done ?_
 exact St.wk (hJ4 _ hm) (Wk.f [some 0] ⟨bX, trivial⟩)
 refine U.pg 4 5 false 14 hb5 T rfl rfl rfl rfl ?_
 refine U.r rfl (.none rfl) rfl rfl (by exact Rd.pk' rfl rfl hb5 rfl) ?_
 refine U.ps 1 T rfl ?_
 refine hm.cs (fun hb6 hm => ?_) (fun hb6 hm => ?_)
 refine U.sks 4 11 false 20 hb6 rfl rfl rfl ?_
 refine U.r rfl (.none rfl) rfl rfl (by exact Rd.pk rfl rfl hb6 rfl) ?_
 refine U.ps 1 T rfl ?_
 refine U.sks 4 17 false 26 rfl rfl rfl rfl ?_
 refine U.r rfl (.none rfl) rfl rfl (by exact Rd.pk rfl rfl rfl rfl) ?_
 refine U.done ?_
 exact St.wk (hJ4 _ hm) (Wk.f [some 0] ⟨bX, trivial⟩)
 refine U.pg 4 11 false 20 hb6 T rfl rfl rfl rfl ?_
 refine U.r rfl (.none rfl) rfl rfl (by exact Rd.pk' rfl rfl hb6 rfl) ?_
 refine U.ps 1 T rfl ?_
 refine hm.cs (fun hb7 hm => ?_) (fun hb7 hm => ?_)
 refine U.sks 4 17 false 26 hb7 rfl rfl rfl ?_
 refine U.r rfl (.none rfl) rfl rfl (by exact Rd.pk rfl rfl hb7 rfl) ?_
 refine U.done ?_
 exact St.wk (hJ4 _ hm) (Wk.f [some 0] ⟨bX, trivial⟩)
 refine U.pg 4 17 false 26 hb7 T rfl rfl rfl rfl ?_
 refine U.r rfl (.none rfl) rfl rfl (by exact Rd.pk' rfl rfl hb7 rfl) ?_
 refine U.done ?_
 exact St.wk (hJ4 _ hm) (Wk.f [some 0] ⟨bX, trivial⟩)
theorem T_floor_beside (f : ApiFloor) (c : Int) (d : Int) (post : Int → Prop) (hm : V_floor_beside f c d post) :
    Tr Tryz.prog 62 [.agg (eApiFloor f), .i c, .i d] [] 0 (fun A H' k => ∃ y, post y ∧ A = (.i y) ∧ H' = [] ∧ k = 0) := by
 refine Tr.intro (n := 47) Tryz.func62 rfl Tryz.ntmps62 rfl (fun w0 ok F β hβ => ?_)
 unfold V_floor_beside at hm
 refine C.seq (U.start ?_)
 refine U.e1 rfl (.none rfl) (by exact Eff1.box rfl rfl rfl rfl rfl) ?_
 refine U.ps 1 T rfl ?_
 refine U.done (C.nx (C.seq (C.seq ?_)))
 refine C.jn (fun (x3 : Bool) => [(1, .i c), (2, .i d), (3, .p 0 0), (22, .b x3)]) (fun (x3 : Bool) => [(0, .box (eApiFloor f))]) 1 hm (fun x3 hm => ?_) (fun J4 hm hJ4 => ?_)
 refine C.nx ?_
 refine C.ite rfl hm (fun hb8 hm => ?_) (fun hb8 hm => ?_)
 refine C.seq (U.start ?_)
 refine U.ps 1 T rfl ?_
 refine U.done (C.nx (C.ret (C.rt ?_)))
 exact C.f0 T (rs' := [.i (-1)]) hβ ⟨(-1), hm, rfl, rfl, rfl⟩
 refine C.skip (C.nx (C.seq (U.start ?_)))
 refine U.ps 2 T rfl ?_
 refine U.e rfl (.none rfl) (by exact Eff.k (T_floor_At f c _ hm) en86 rfl rfl rfl (.eq rfl) (fun _ _ => ⟨(.tup (.cons (.v _) (.cons (.v _) (.cons (.v _) .nil)))), trivial⟩)) (fun x13' hm => ?_)
 obtain ⟨x13⟩ := x13'
 refine U.ps 7 T rfl ?_
 refine U.done (C.nx (C.seq (U.start ?_)))
 refine U.e rfl (.none rfl) (by exact Eff.k (T_floor_steps _ hm) en87 rfl rfl rfl (.eq rfl) (fun _ _ => ⟨(.agg (.cons (.v _) (.cons (.v _) (.cons (.v _) (.cons (.v _) (.cons (.v _) (.cons (.v _) (.cons (.v _) (.cons (.v _) (.cons (.v _) (.cons (.v _) (.cons (.v _) (.cons (.v _) (.cons (.v _) (.cons (.v _) (.cons (.v _) (.cons (.v _) (.cons (.v _) (.cons (.v _) .nil))))))))))))))))))), trivial⟩)) (fun x16' hm => ?_)
 obtain ⟨x16⟩ := x16'
 refine U.ps 1 T rfl ?_
 obtain ⟨x17, hx17, hm⟩ := hm
 refine U.r rfl (.none rfl) rfl rfl (by exact Rd.ia T (enc := eFloorStep) rfl rfl rfl rfl rfl rfl rfl rfl rfl (fun _ _ => rfl) hx17) ?_
 refine U.e1 rfl (.none rfl) (by exact Eff1.al T rfl rfl rfl rfl) ?_
 refine U.e1 rfl (.none rfl) (by exact Eff1.st T rfl rfl rfl rfl rfl rfl rfl rfl rfl rfl) ?_
 refine U.done (C.nx (C.seq (U.start ?_)))
 refine U.ps 13 T rfl ?_
 refine U.e rfl (.none rfl) (by exact Eff.k (T_floor_Cell f (w64 (x13.1 + x17.x)) (w64 (x13.2.1 + x17.y)) (w64 (x13.2.2 + x17.z)) _ hm) en88 rfl rfl rfl (.eq rfl) (fun _ _ => ⟨(.v _), trivial⟩)) (fun x20' hm => ?_)
 obtain ⟨x20⟩ := x20'
 refine U.ps 1 T rfl ?_
 refine U.done (C.nx (C.ret ?_))
 exact C.f0 T (rs' := [.i x20]) hβ ⟨x20, hm, rfl, rfl, rfl⟩
 refine U.start ?_
 refine U.ps 2 T rfl ?_
 refine U.e rfl (.none rfl) (by exact Eff.k (T_floor_is f c _ hm) en81 rfl rfl rfl (.eq rfl) (fun _ _ => ⟨(.v _), trivial⟩)) (fun x5' hm => ?_)
 obtain ⟨x5⟩ := x5'
 refine U.ps 2 T rfl ?_
 refine hm.cs (fun hb6 hm => ?_) (fun hb6 hm => ?_)
 refine U.pg 2 4 false 15 (ntF hb6) T rfl rfl rfl rfl ?_
 refine U.r rfl (.none rfl) rfl rfl (by exact Rd.pk' rfl rfl (ntF hb6) rfl) ?_
 refine U.ps 1 T rfl ?_
 refine hm.cs (fun hb7 hm => ?_) (fun hb7 hm => ?_)
 refine U.sks 2 8 false 19 hb7 rfl rfl rfl ?_
 refine U.r rfl (.none rfl) rfl rfl (by exact Rd.pk rfl rfl hb7 rfl) ?_
 refine U.done ?_
 exact St.wk (hJ4 _ hm) (Wk.f [some 0] ⟨bX, trivial⟩)
 refine U.pg 2 8 false 19 hb7 T rfl rfl rfl rfl ?_
 refine U.r rfl (.none rfl) rfl rfl (by exact Rd.pk' rfl rfl hb7 rfl) ?_
 refine U.done ?_
 exact St.wk (hJ4 _ hm) (Wk.f [some 0] ⟨bX, trivial⟩)
 refine U.sks 2 4 false 15 (ntT hb6) rfl rfl rfl ?_
 refine U.r rfl (.none rfl) rfl rfl (by exact Rd.pk rfl rfl (ntT hb6) rfl) ?_
 refine U.ps 1 T rfl ?_
 refine U.sks 2 8 false 19 rfl rfl rfl rfl ?_
 refine U.r rfl (.none rfl) rfl rfl (by exact Rd.pk rfl rfl rfl rfl) ?_
 refine U.done ?_
 exact St.wk (hJ4 _ hm) (Wk.f [some 0] ⟨bX, trivial⟩)
theorem T_floor_Next (f : ApiFloor) (c : Int) (d : Int) (post : (Int × Bool) → Prop) (hm : V_floor_Next f c d post) :
    Tr Tryz.prog 25 [.agg (eApiFloor f), .i c, .i d] [] 0 (fun A H' k => ∃ y, post y ∧ A = (.tup [.i y.1, .b y.2]) ∧ H' = [] ∧ k = 0) := by
 refine Tr.intro (n := 65) Tryz.func25 rfl Tryz.ntmps25 rfl (fun w0 ok F β hβ => ?_)
 unfold V_floor_Next at hm
 refine C.seq (U.start ?_)
 refine U.e1 rfl (.none rfl) (by exact Eff1.box rfl rfl rfl rfl rfl) ?_
 refine U.ps 2 T rfl ?_
 refine U.done (C.nx (C.seq (U.start ?_)))
 refine U.ps 3 T rfl ?_
 refine U.e rfl (.none rfl) (by exact Eff.k (T_floor_beside f c d _ hm) en62 rfl rfl rfl (.eq rfl) (fun _ _ => ⟨(.v _), trivial⟩)) (fun x5' hm => ?_)
 obtain ⟨x5⟩ := x5'
 refine U.ps 1 T rfl ?_
 refine U.done (C.nx (C.seq (C.seq ?_)))
 refine C.jn (fun (x6 : Bool) => [(1, .i c), (2, .i d), (3, .p 0 0), (8, .i x5), (41, .b x6)]) (fun (x6 : Bool) => [(0, .box (eApiFloor f))]) 1 hm (fun x6 hm => ?_) (fun J7 hm hJ7 => ?_)
 refine C.nx ?_
 refine C.ite rfl hm (fun hb15 hm => ?_) (fun hb15 hm => ?_)
 refine C.seq (U.start ?_)
 refine U.ps 2 T rfl ?_
 refine U.done (C.nx (C.ret (C.rt ?_)))
 exact C.f0 T (rs' := [.i ((0, false).1), .b ((0, false).2)]) hβ ⟨(0, false), hm, rfl, rfl, rfl⟩
 refine C.skip (C.nx (C.seq (C.seq ?_)))
 refine C.jn (fun (x18 : Bool) => [(8, .i x5), (63, .b x18)]) (fun (x18 : Bool) => []) 0 hm (fun x18 hm => ?_) (fun J19 hm hJ19 => ?_)
 refine C.nx ?_
 refine C.ite rfl hm (fun hb28 hm => ?_) (fun hb28 hm => ?_)
 refine C.seq (U.start ?_)
 refine U.ps 2 T rfl ?_
 refine U.done (C.nx (C.ret (C.rt ?_)))
 exact C.f0 T (rs' := [.i ((0, false).1), .b ((0, false).2)]) hβ ⟨(0, false), hm, rfl, rfl, rfl⟩
 refine C.skip (C.nx (C.seq (U.start ?_)))
 refine U.ps 3 T rfl ?_
 refine U.done (C.nx (C.ret ?_))
 exact C.f0 T (rs' := [.i ((x5, true).1), .b ((x5, true).2)]) hβ ⟨(x5, true), hm, rfl, rfl, rfl⟩
 refine U.start ?_
 refine U.ps 3 T rfl ?_
 refine hm.cs (fun hb20 hm => ?_) (fun hb20 hm => ?_)
 refine U.sks 2 2 false 44 hb20 rfl rfl rfl ?_
 refine U.r rfl (.none rfl) rfl rfl (by exact Rd.pk rfl rfl hb20 rfl) ?_
 refine U.ps 1 T rfl ?_
 refine U.pg 3 6 true 48 rfl T rfl rfl rfl rfl ?_
 obtain ⟨x21, hx21, hm⟩ := hm
 refine U.r rfl (.take 6 true 48 _ rfl rfl rfl rfl) rfl rfl (by exact Rd.ix T rfl rfl rfl rfl rfl rfl hx21) ?_
 refine U.pg 3 6 true 48 rfl T rfl rfl rfl rfl ?_
 refine hm.cs (fun hb22 hm => ?_) (fun hb22 hm => ?_)
 refine U.sks 6 13 false 55 hb22 rfl rfl rfl ?_
 refine U.r rfl (.take 6 true 48 _ rfl rfl rfl rfl) rfl rfl (by exact Rd.pk rfl rfl hb22 rfl) ?_
 refine U.r rfl (.none rfl) rfl rfl (by exact Rd.pk rfl rfl rfl rfl) ?_
 refine U.done ?_
 exact St.wk (hJ19 _ hm) (Wk.e)
 refine U.pg 3 13 false 55 hb22 T rfl rfl rfl rfl ?_
 obtain ⟨x23, hx23, hm⟩ := hm
 refine U.r rfl (.take 13 false 55 _ hb22 rfl rfl rfl) rfl rfl (by exact Rd.ix T rfl rfl rfl rfl rfl rfl hx23) ?_
 refine U.pg 2 13 false 55 hb22 T rfl rfl rfl rfl ?_
 refine U.r rfl (.take 6 true 48 _ rfl rfl rfl rfl) rfl rfl (by exact Rd.pk' rfl rfl hb22 rfl) ?_
 refine U.r rfl (.none rfl) rfl rfl (by exact Rd.pk rfl rfl rfl rfl) ?_
 refine U.done ?_
 exact St.wk (hJ19 _ hm) (Wk.e)
 refine U.pg 2 2 false 44 hb20 T rfl rfl rfl rfl ?_
 refine U.r rfl (.none rfl) rfl rfl (by exact Rd.pk' rfl rfl hb20 rfl) ?_
 refine U.ps 1 T rfl ?_
 refine hm.cs (fun hb24 hm => ?_) (fun hb24 hm => ?_)
 refine U.pg 3 6 true 48 hb24 T rfl rfl rfl rfl ?_
 obtain ⟨x25, hx25, hm⟩ := hm
 refine U.r rfl (.take 6 true 48 _ hb24 rfl rfl rfl) rfl rfl (by exact Rd.ix T rfl rfl rfl rfl rfl rfl hx25) ?_
 refine U.pg 3 6 true 48 hb24 T rfl rfl rfl rfl ?_
 refine hm.cs (fun hb26 hm => ?_) (fun hb26 hm => ?_)
 refine U.sks 6 13 false 55 hb26 rfl rfl rfl ?_
 refine U.r rfl (.take 6 true 48 _ hb24 rfl rfl rfl) rfl rfl (by exact Rd.pk rfl rfl hb26 rfl) ?_
 refine U.r rfl (.none rfl) rfl rfl (by exact Rd.pk rfl rfl hb24 rfl) ?_
 refine U.done ?_
 exact St.wk (hJ19 _ hm) (Wk.e)
 refine U.pg 3 13 false 55 hb26 T rfl rfl rfl rfl ?_
 obtain ⟨x27, hx27, hm⟩ := hm
 refine U.r rfl (.take 13 false 55 _ hb26 rfl rfl rfl) rfl rfl (by exact Rd.ix T rfl rfl rfl rfl rfl rfl hx27) ?_
 refine U.pg 2 13 false 55 hb26 T rfl rfl rfl rfl ?_
 refine U.r rfl (.take 6 true 48 _ hb24 rfl rfl rfl) rfl rfl (by exact Rd.pk' rfl rfl hb26 rfl) ?_
 refine U.r rfl (.none rfl) rfl rfl (by exact Rd.pk rfl rfl hb24 rfl) ?_
 refine U.done ?_
 exact St.wk (hJ19 _ hm) (Wk.e)
 refine U.sks 7 6 true 48 hb24 rfl rfl rfl ?_
 refine U.sku 6 13 false 55 rfl rfl rfl ?_
 refine U.sks 1 6 true 48 hb24 rfl rfl rfl ?_
 refine U.r rfl (.none rfl) rfl rfl (by exact Rd.pk' rfl rfl hb24 rfl) ?_
 refine U.done ?_
 exact St.wk (hJ19 _ hm) (Wk.e)
 refine U.start ?_
 refine U.ps 3 T rfl ?_
 refine hm.cs (fun hb8 hm => ?_) (fun hb8 hm => ?_)
 refine U.sks 6 2 false 15 hb8 rfl rfl rfl ?_
 refine U.r rfl (.none rfl) rfl rfl (by exact Rd.pk rfl rfl hb8 rfl) ?_
 refine U.ps 1 T rfl ?_
 refine U.sks 6 10 false 23 rfl rfl rfl rfl ?_
 refine U.r rfl (.none rfl) rfl rfl (by exact Rd.pk rfl rfl rfl rfl) ?_
 refine U.ps 1 T rfl ?_
 refine U.sks 9 18 false 31 rfl rfl rfl rfl ?_
 refine U.r rfl (.none rfl) rfl rfl (by exact Rd.pk rfl rfl rfl rfl) ?_
 refine U.done ?_
 exact St.wk (hJ7 _ hm) (Wk.f [some 0] ⟨bX, trivial⟩)
 refine U.pg 3 2 false 15 hb8 T rfl rfl rfl rfl ?_
 obtain ⟨x9, hx9, hm⟩ := hm
 refine U.r rfl (.take 2 false 15 _ hb8 rfl rfl rfl) rfl rfl (by exact Rd.ix T rfl rfl rfl rfl rfl rfl hx9) ?_
 refine U.pg 2 2 false 15 hb8 T rfl rfl rfl rfl ?_
 refine U.r rfl (.none rfl) rfl rfl (by exact Rd.pk' rfl rfl hb8 rfl) ?_
 refine U.ps 1 T rfl ?_
 refine hm.cs (fun hb10 hm => ?_) (fun hb10 hm => ?_)
 refine U.sks 6 10 false 23 hb10 rfl rfl rfl ?_
 refine U.r rfl (.none rfl) rfl rfl (by exact Rd.pk rfl rfl hb10 rfl) ?_
 refine U.ps 1 T rfl ?_
 refine U.sks 9 18 false 31 rfl rfl rfl rfl ?_
 refine U.r rfl (.none rfl) rfl rfl (by exact Rd.pk rfl rfl rfl rfl) ?_
 refine U.done ?_
 exact St.wk (hJ7 _ hm) (Wk.f [some 0] ⟨bX, trivial⟩)
 refine U.pg 3 10 false 23 hb10 T rfl rfl rfl rfl ?_
 obtain ⟨x11, hx11, hm⟩ := hm
 refine U.r rfl (.take 10 false 23 _ hb10 rfl rfl rfl) rfl rfl (by exact Rd.ix T rfl rfl rfl rfl rfl rfl hx11) ?_
 refine U.pg 2 10 false 23 hb10 T rfl rfl rfl rfl ?_
 refine U.r rfl (.none rfl) rfl rfl (by exact Rd.pk' rfl rfl hb10 rfl) ?_
 refine U.ps 1 T rfl ?_
 refine hm.cs (fun hb12 hm => ?_) (fun hb12 hm => ?_)
 refine U.sks 9 18 false 31 hb12 rfl rfl rfl ?_
 refine U.r rfl (.none rfl) rfl rfl (by exact Rd.pk rfl rfl hb12 rfl) ?_
 refine U.done ?_
 exact St.wk (hJ7 _ hm) (Wk.f [some 0] ⟨bX, trivial⟩)
 refine U.pg 3 18 false 31 hb12 T rfl rfl rfl rfl ?_
 obtain ⟨x13, hx13, hm⟩ := hm
 refine U.r rfl (.take 18 false 31 _ hb12 rfl rfl rfl) rfl rfl (by exact Rd.ix T rfl rfl rfl rfl rfl rfl hx13) ?_
 refine U.pg 2 18 false 31 hb12 T rfl rfl rfl rfl ?_
 obtain ⟨hx14, hm⟩ := hm
 refine U.r rfl (.take 18 false 31 _ hb12 rfl rfl rfl) rfl rfl (by exact Rd.sh rfl rfl rfl rfl hx14) ?_
 refine U.pg 2 18 false 31 hb12 T rfl rfl rfl rfl ?_
 refine U.r rfl (.none rfl) rfl rfl (by exact Rd.pk' rfl rfl hb12 rfl) ?_
 refine U.done ?_
 exact St.wk (hJ7 _ hm) (Wk.f [some 0] ⟨bX, trivial⟩)
theorem T_slices_Index_int_int (s_1 : List Int) (v : Int) (post : Int → Prop) (hm : V_slices_Index_int_int s_1 v post) :
    Tr Tryz.prog 75 [.sl 1 eI s_1, .i v] [] 0 (fun A H' k => ∃ y, post y ∧ A = (.i y) ∧ H' = [] ∧ k = 0) := by
 refine Tr.intro (n := 19) Tryz.func75 rfl Tryz.ntmps75 rfl (fun w0 ok F β hβ => ?_)
 unfold V_slices_Index_int_int at hm
 refine C.seq (U.start ?_)
 refine U.ps 1 T rfl ?_
 refine U.done (C.nx (C.seq (C.seq (U.start ?_))))
 refine U.ps 3 T rfl ?_
 refine U.done (C.nx ?_)
 refine C.jn (fun (x5 : Unit) => []) (fun (x5 : Unit) => []) 0 hm (fun x5 hm => ?_) (fun J6 hm hJ6 => ?_)
 refine C.nx (C.seq (U.start ?_))
 refine U.ps 1 T rfl ?_
 refine U.done (C.nx (C.ret ?_))
 exact C.f0 T (rs' := [.i (-1)]) hβ ⟨(-1), hm, rfl, rfl, rfl⟩
 refine C.block ?_
 refine St.wk (C.loop (fun (s7 : Int) => [(0, .sl 1 eI s_1), (1, .i v), (7, .i (s_1.length : Int)), (8, .i s7)]) (fun (s7 : Int) => []) hm (fun s7 Y8 hm => ?_)) (Wk.e)
 refine C.seq (U.start ?_)
 refine U.ps 1 T rfl ?_
 refine U.done (C.nx (C.seq ?_))
 refine C.ite rfl hm (fun hb11 hm => ?_) (fun hb11 hm => ?_)
 refine C.skip (C.nx (C.seq (C.block (C.seq (U.start ?_)))))
 refine U.ps 2 T rfl ?_
 refine U.done (C.nx (C.seq (U.start ?_)))
 refine U.ps 3 T rfl ?_
 obtain ⟨x16, hx16, hm⟩ := hm
 refine U.r rfl (.none rfl) rfl rfl (by exact Rd.ix T rfl rfl rfl rfl rfl rfl hx16) ?_
 refine U.ps 2 T rfl ?_
 refine U.done (C.nx ?_)
 refine C.ite rfl hm (fun hb17 hm => ?_) (fun hb17 hm => ?_)
 refine C.seq (U.start ?_)
 refine U.ps 2 T rfl ?_
 refine U.done (C.nx (C.ret (C.brt (C.rt (C.rt (C.brt (C.rt ?_)))))))
 exact C.f0 T (rs' := [.i s7]) hβ ⟨s7, hm, rfl, rfl, rfl⟩
 refine C.skip (C.bnx (C.nx (U.start ?_)))
 refine U.ps 2 T rfl ?_
 refine U.done (C.nx ?_)
 exact St.wk (C.next hm) (Wk.e)
 refine C.exit (C.ex (C.ex (C.bex ?_)))
 exact St.wk (hJ6 _ hm) (Wk.mk' [] rfl rfl trivial trivial rfl)
theorem T_slices_Contains_int_int (s_1 : List Int) (v : Int) (post : Bool → Prop) (hm : V_slices_Contains_int_int s_1 v post) :
    Tr Tryz.prog 46 [.sl 1 eI s_1, .i v] [] 0 (fun A H' k => ∃ y, post y ∧ A = (.b y) ∧ H' = [] ∧ k = 0) := by
 refine Tr.intro (n := 9) Tryz.func46 rfl Tryz.ntmps46 rfl (fun w0 ok F β hβ => ?_)
 unfold V_slices_Contains_int_int at hm
 refine C.seq (U.start ?_)
 refine U.ps 1 T rfl ?_
 refine U.done (C.nx (C.seq (U.start ?_)))
 refine U.ps 2 T rfl ?_
 refine U.e rfl (.none rfl) (by exact Eff.k (T_slices_Index_int_int s_1 v _ hm) en75 rfl rfl rfl (.eq rfl) (fun _ _ => ⟨(.v _), trivial⟩)) (fun x5' hm => ?_)
 obtain ⟨x5⟩ := x5'
 refine U.ps 2 T rfl ?_
 refine U.done (C.nx (C.ret ?_))
 exact C.f0 T (rs' := [.b (decide (x5 ≥ 0))]) hβ ⟨decide (x5 ≥ 0), hm, rfl, rfl, rfl⟩
theorem T_cmp_isNaN_int (x_1 : Int) (post : Bool → Prop) (hm : V_cmp_isNaN_int x_1 post) :
    Tr Tryz.prog 116 [.i x_1] [] 0 (fun A H' k => ∃ y, post y ∧ A = (.b y) ∧ H' = [] ∧ k = 0) := by
 refine Tr.intro (n := 6) Tryz.func116 rfl Tryz.ntmps116 rfl (fun w0 ok F β hβ => ?_)
 unfold V_cmp_isNaN_int at hm
 refine C.seq (U.start ?_)
 refine U.ps 1 T rfl ?_
 refine U.done (C.nx (C.seq (U.start ?_)))
 refine U.ps 4 T rfl ?_
 refine U.done (C.nx (C.ret ?_))
 exact C.f0 T (rs' := [.b (x_1 != x_1)]) hβ ⟨(x_1 != x_1), hm, rfl, rfl, rfl⟩
theorem T_cmp_Less_int (x_1 : Int) (y_1 : Int) (post : Bool → Prop) (hm : V_cmp_Less_int x_1 y_1 post) :
    Tr Tryz.prog 102 [.i x_1, .i y_1] [] 0 (fun A H' k => ∃ y, post y ∧ A = (.b y) ∧ H' = [] ∧ k = 0) := by
 refine Tr.intro (n := 17) Tryz.func102 rfl Tryz.ntmps102 rfl (fun w0 ok F β hβ => ?_)
 unfold V_cmp_Less_int at hm
 refine C.seq (U.start ?_)
 refine U.ps 1 T rfl ?_
 refine U.done (C.nx (C.seq ?_))
 refine C.jn (fun (x3 : Bool) => [(4, .b x3)]) (fun (x3 : Bool) => []) 0 hm (fun x3 hm => ?_) (fun J4 hm hJ4 => ?_)
 refine C.nx (C.ret ?_)
 exact C.f0 T (rs' := [.b x3]) hβ ⟨x3, hm, rfl, rfl, rfl⟩
 refine U.start ?_
 refine U.ps 1 T rfl ?_
 refine U.e rfl (.none rfl) (by exact Eff.k (T_cmp_isNaN_int x_1 _ hm) en116 rfl rfl rfl (.eq rfl) (fun _ _ => ⟨(.v _), trivial⟩)) (fun x5' hm => ?_)
 obtain ⟨x5⟩ := x5'
 refine U.ps 1 T rfl ?_
 refine hm.cs (fun hb6 hm => ?_) (fun hb6 hm => ?_)
 refine U.pg 1 2 true 7 hb6 T rfl rfl rfl rfl ?_
 refine U.e rfl (.take 2 true 7 _ hb6 rfl rfl rfl) (by exact Eff.k (T_cmp_isNaN_int y_1 _ hm) en116 rfl rfl rfl (.eq rfl) (fun _ _ => ⟨(.v _), trivial⟩)) (fun x7' hm => ?_)
 obtain ⟨x7⟩ := x7'
 refine U.pg 1 2 true 7 hb6 T rfl rfl rfl rfl ?_
 refine U.r rfl (.none rfl) rfl rfl (by exact Rd.pk rfl rfl hb6 rfl) ?_
 refine U.ps 1 T rfl ?_
 refine hm.cs (fun hb8 hm => ?_) (fun hb8 hm => ?_)
 refine U.pg 3 7 false 12 (ntF hb8) T rfl rfl rfl rfl ?_
 refine U.r rfl (.none rfl) rfl rfl (by exact Rd.pk' rfl rfl (ntF hb8) rfl) ?_
 refine U.ps 1 T rfl ?_
 refine U.done ?_
 exact St.wk (hJ4 _ hm) (Wk.e)
 refine U.sks 3 7 false 12 (ntT hb8) rfl rfl rfl ?_
 refine U.r rfl (.none rfl) rfl rfl (by exact Rd.pk rfl rfl (ntT hb8) rfl) ?_
 refine U.ps 1 T rfl ?_
 refine U.done ?_
 exact St.wk (hJ4 _ hm) (Wk.e)
 refine U.sks 3 2 true 7 hb6 rfl rfl rfl ?_
 refine U.r rfl (.none rfl) rfl rfl (by exact Rd.pk' rfl rfl hb6 rfl) ?_
 refine U.ps 1 T rfl ?_
 refine U.pg 3 7 false 12 rfl T rfl rfl rfl rfl ?_
 refine U.r rfl (.none rfl) rfl rfl (by exact Rd.pk' rfl rfl rfl rfl) ?_
 refine U.ps 1 T rfl ?_
 refine U.done ?_
 exact St.wk (hJ4 _ hm) (Wk.e)
theorem T_slices_isNaN_int (x_1 : Int) (post : Bool → Prop) (hm : V_slices_isNaN_int x_1 post) :
    Tr Tryz.prog 103 [.i x_1] [] 0 (fun A H' k => ∃ y, post y ∧ A = (.b y) ∧ H' = [] ∧ k = 0) := by
 refine Tr.intro (n := 6) Tryz.func103 rfl Tryz.ntmps103 rfl (fun w0 ok F β hβ => ?_)
 unfold V_slices_isNaN_int at hm
 refine C.seq (U.start ?_)
 refine U.ps 1 T rfl ?_
 refine U.done (C.nx (C.seq (U.start ?_)))
 refine U.ps 4 T rfl ?_
 refine U.done (C.nx (C.ret ?_))
 exact C.f0 T (rs' := [.b (x_1 != x_1)]) hβ ⟨(x_1 != x_1), hm, rfl, rfl, rfl⟩
theorem T_slices_BinarySearch_int_int (x_1 : List Int) (target : Int) (post : (Int × Bool) → Prop) (hm : V_slices_BinarySearch_int_int x_1 target post) :
    Tr Tryz.prog 91 [.sl 1 eI x_1, .i target] [] 0 (fun A H' k => ∃ y, post y ∧ A = (.tup [.i y.1, .b y.2]) ∧ H' = [] ∧ k = 0) := by
 refine Tr.intro (n := 54) Tryz.func91 rfl Tryz.ntmps91 rfl (fun w0 ok F β hβ => ?_)
 unfold V_slices_BinarySearch_int_int at hm
 refine C.seq (U.start ?_)
 refine U.ps 2 T rfl ?_
 refine U.done (C.nx (C.seq (U.start ?_)))
 refine U.ps 3 T rfl ?_
 refine U.done (C.nx (C.seq (U.start ?_)))
 refine U.ps 3 T rfl ?_
 refine U.done (C.nx (C.seq ?_))
 refine C.jn (fun (x7 : Int) => [(0, .sl 1 eI x_1), (1, .i target), (6, .i (x_1.length : Int)), (7, .i x7)]) (fun (x7 : Int) => []) 0 hm (fun x7 hm => ?_) (fun J8 hm hJ8 => ?_)
 refine C.nx (C.seq ?_)
 refine C.jn (fun (x28 : Bool) => [(4, .i x7), (5, .b x28)]) (fun (x28 : Bool) => []) 0 hm (fun x28 hm => ?_) (fun J29 hm hJ29 => ?_)
 refine C.nx (C.ret ?_)
 exact C.f0 T (rs' := [.i ((x7, x28).1), .b ((x7, x28).2)]) hβ ⟨(x7, x28), hm, rfl, rfl, rfl⟩
 refine U.start ?_
 refine U.ps 5 T rfl ?_
 refine hm.cs (fun hb30 hm => ?_) (fun hb30 hm => ?_)
 refine U.pg 2 4 true 35 hb30 T rfl rfl rfl rfl ?_
 obtain ⟨x31, hx31, hm⟩ := hm
 refine U.r rfl (.take 4 true 35 _ hb30 rfl rfl rfl) rfl rfl (by exact Rd.ix T rfl rfl rfl rfl rfl rfl hx31) ?_
 refine U.pg 4 4 true 35 hb30 T rfl rfl rfl rfl ?_
 refine hm.cs (fun hb32 hm => ?_) (fun hb32 hm => ?_)
 refine U.sks 6 11 false 42 hb32 rfl rfl rfl ?_
 refine U.sku 2 17 true 48 rfl rfl rfl ?_
 refine U.sks 1 11 false 42 hb32 rfl rfl rfl ?_
 refine U.r rfl (.take 4 true 35 _ hb30 rfl rfl rfl) rfl rfl (by exact Rd.pk rfl rfl hb32 rfl) ?_
 refine U.r rfl (.none rfl) rfl rfl (by exact Rd.pk rfl rfl hb30 rfl) ?_
 refine U.ps 2 T rfl ?_
 refine U.done ?_
 exact St.wk (hJ29 _ hm) (Wk.e)
 refine U.pg 2 11 false 42 hb32 T rfl rfl rfl rfl ?_
 refine U.r rfl (.take 11 false 42 _ hb32 rfl rfl rfl) rfl rfl (by exact Rd.ix T rfl rfl rfl rfl rfl rfl hx31) ?_
 refine U.pg 1 11 false 42 hb32 T rfl rfl rfl rfl ?_
 refine U.e rfl (.take 11 false 42 _ hb32 rfl rfl rfl) (by exact Eff.k (T_slices_isNaN_int x31 _ hm) en103 rfl rfl rfl (.eq rfl) (fun _ _ => ⟨(.v _), trivial⟩)) (fun x33' hm => ?_)
 obtain ⟨x33⟩ := x33'
 refine U.pg 1 11 false 42 hb32 T rfl rfl rfl rfl ?_
 refine hm.cs (fun hb34 hm => ?_) (fun hb34 hm => ?_)
 refine U.pg 1 17 true 48 hb34 T rfl rfl rfl rfl ?_
 refine U.e rfl (.take 17 true 48 _ hb34 rfl rfl rfl) (by exact Eff.k (T_slices_isNaN_int target _ hm) en103 rfl rfl rfl (.eq rfl) (fun _ _ => ⟨(.v _), trivial⟩)) (fun x35' hm => ?_)
 obtain ⟨x35⟩ := x35'
 refine U.r rfl (.take 11 false 42 _ hb32 rfl rfl rfl) rfl rfl (by exact Rd.pk rfl rfl hb34 rfl) ?_
 refine U.r rfl (.take 4 true 35 _ hb30 rfl rfl rfl) rfl rfl (by exact Rd.pk' rfl rfl hb32 rfl) ?_
 refine U.r rfl (.none rfl) rfl rfl (by exact Rd.pk rfl rfl hb30 rfl) ?_
 refine U.ps 2 T rfl ?_
 refine U.done ?_
 exact St.wk (hJ29 _ hm) (Wk.e)
 refine U.sks 2 17 true 48 hb34 rfl rfl rfl ?_
 refine U.r rfl (.take 11 false 42 _ hb32 rfl rfl rfl) rfl rfl (by exact Rd.pk' rfl rfl hb34 rfl) ?_
 refine U.r rfl (.take 4 true 35 _ hb30 rfl rfl rfl) rfl rfl (by exact Rd.pk' rfl rfl hb32 rfl) ?_
 refine U.r rfl (.none rfl) rfl rfl (by exact Rd.pk rfl rfl hb30 rfl) ?_
 refine U.ps 2 T rfl ?_
 refine U.done ?_
 exact St.wk (hJ29 _ hm) (Wk.e)
 refine U.sks 7 4 true 35 hb30 rfl rfl rfl ?_
 refine U.sku 6 11 false 42 rfl rfl rfl ?_
 refine U.sku 2 17 true 48 rfl rfl rfl ?_
 refine U.sku 1 11 false 42 rfl rfl rfl ?_
 refine U.sks 1 4 true 35 hb30 rfl rfl rfl ?_
 refine U.r rfl (.none rfl) rfl rfl (by exact Rd.pk' rfl rfl hb30 rfl) ?_
 refine U.ps 2 T rfl ?_
 refine U.done ?_
 exact St.wk (hJ29 _ hm) (Wk.e)
 refine C.block ?_
 refine St.wk (C.loop (fun (s9 : Int × Int) => [(0, .sl 1 eI x_1), (1, .i target), (6, .i (x_1.length : Int)), (7, .i s9.1), (8, .i s9.2)]) (fun (s9 : Int × Int) => []) hm (fun s9 Y10 hm => ?_)) (Wk.e)
 refine C.seq (C.seq (U.start ?_))
 refine U.ps 3 T rfl ?_
 refine U.done (C.nx ?_)
 refine C.ite rfl hm (fun hb13 hm => ?_) (fun hb13 hm => ?_)
 refine C.skip (C.nx (C.block (C.seq (U.start ?_))))
 refine U.ps 4 T rfl ?_
 refine U.r rfl (.none rfl) rfl rfl (by exact Rd.sh rfl rfl rfl rfl (by decide)) ?_
 refine U.ps 2 T rfl ?_
 refine U.done (C.nx (C.seq (U.start ?_)))
 refine U.ps 2 T rfl ?_
 obtain ⟨x19, hx19, hm⟩ := hm
 refine U.r rfl (.none rfl) rfl rfl (by exact Rd.ix T rfl rfl rfl rfl rfl rfl hx19) ?_
 refine U.ps 2 T rfl ?_
 refine U.e rfl (.none rfl) (by exact Eff.k (T_cmp_Less_int x19 target _ hm) en102 rfl rfl rfl (.eq rfl) (fun _ _ => ⟨(.v _), trivial⟩)) (fun x20' hm => ?_)
 obtain ⟨x20⟩ := x20'
 refine U.done (C.nx ?_)
 refine C.jn (fun (x21 : Int × Int) => [(0, .sl 1 eI x_1), (1, .i target), (6, .i (x_1.length : Int)), (7, .i x21.1), (8, .i x21.2)]) (fun (x21 : Int × Int) => []) 0 hm (fun x21 hm => ?_) (fun J22 hm hJ22 => ?_)
 refine C.bnx (C.nx ?_)
 exact St.wk (C.next hm) (Wk.e)
 refine C.ite rfl hm (fun hb23 hm => ?_) (fun hb23 hm => ?_)
 refine U.start ?_
 refine U.ps 3 T rfl ?_
 refine U.done ?_
 exact St.wk (hJ22 _ hm) (Wk.e)
 refine U.start ?_
 refine U.ps 2 T rfl ?_
 refine U.done ?_
 exact St.wk (hJ22 _ hm) (Wk.e)
 refine C.exit (C.ex (C.ex (C.bex ?_)))
 exact St.wk (hJ8 _ hm) (Wk.e)
theorem T_rules_ZoneOf_1 (z : ApiZone) (c0 : Int) (post : Bool → Prop) (hm : V_rules_ZoneOf_1 z c0 post) :
    Tr Tryz.prog 90 [.agg (eApiZone z), .rp [.i c0]] [] 0 (fun A H' k => ∃ y, post y ∧ A = (.b y) ∧ H' = [] ∧ k = 0) := by
 refine Tr.intro (n := 14) Tryz.func90 rfl Tryz.ntmps90 rfl (fun w0 ok F β hβ => ?_)
 unfold V_rules_ZoneOf_1 at hm
 refine C.seq (U.start ?_)
 refine U.e1 rfl (.none rfl) (by exact Eff1.box rfl rfl rfl rfl rfl) ?_
 refine U.ps 1 T rfl ?_
 refine U.done (C.nx (C.seq (U.start ?_)))
 refine U.ps 3 T rfl ?_
 refine U.e rfl (.none rfl) (by exact Eff.k (T_slices_BinarySearch_int_int z.Cells c0 _ hm) en91 rfl rfl rfl (.eq rfl) (fun _ _ => ⟨(.tup (.cons (.v _) (.cons (.v _) .nil))), trivial⟩)) (fun x5' hm => ?_)
 obtain ⟨x5⟩ := x5'
 refine U.ps 5 T rfl ?_
 refine U.done (C.nx (C.seq (U.start ?_)))
 refine U.ps 2 T rfl ?_
 refine U.done (C.nx (C.ret ?_))
 exact C.f0 T (rs' := [.b x5.2]) hβ ⟨x5.2, hm, rfl, rfl, rfl⟩
theorem T_slices_IndexFunc_api_Zone_api_Zone__rules_ZoneOf_1 (s_1 : List ApiZone) (f_c0 : Int) (post : Int → Prop) (hm : V_slices_IndexFunc_api_Zone_api_Zone__rules_ZoneOf_1 s_1 f_c0 post) :
    Tr Tryz.prog 89 [.sl 5 eApiZone s_1, .fn (.func 90) [] [.rp [.i f_c0]]] [] 0 (fun A H' k => ∃ y, post y ∧ A = (.i y) ∧ H' = [] ∧ k = 0) := by
 refine Tr.intro (n := 19) Tryz.func89 rfl Tryz.ntmps89 rfl (fun w0 ok F β hβ => ?_)
 unfold V_slices_IndexFunc_api_Zone_api_Zone__rules_ZoneOf_1 at hm
 refine C.seq (U.start ?_)
 refine U.ps 1 T rfl ?_
 refine U.done (C.nx (C.seq (C.seq (U.start ?_))))
 refine U.ps 3 T rfl ?_
 refine U.done (C.nx ?_)
 refine C.jn (fun (x5 : Unit) => []) (fun (x5 : Unit) => []) 0 hm (fun x5 hm => ?_) (fun J6 hm hJ6 => ?_)
 refine C.nx (C.seq (U.start ?_))
 refine U.ps 1 T rfl ?_
 refine U.done (C.nx (C.ret ?_))
 exact C.f0 T (rs' := [.i (-1)]) hβ ⟨(-1), hm, rfl, rfl, rfl⟩
 refine C.block ?_
 refine St.wk (C.loop (fun (s7 : Int) => [(0, .sl 5 eApiZone s_1), (1, .fn (.func 90) [] [.rp [.i f_c0]]), (7, .i (s_1.length : Int)), (8, .i s7)]) (fun (s7 : Int) => []) hm (fun s7 Y8 hm => ?_)) (Wk.e)
 refine C.seq (U.start ?_)
 refine U.ps 1 T rfl ?_
 refine U.done (C.nx (C.seq ?_))
 refine C.ite rfl hm (fun hb11 hm => ?_) (fun hb11 hm => ?_)
 refine C.skip (C.nx (C.seq (C.block (C.seq (U.start ?_)))))
 refine U.ps 2 T rfl ?_
 refine U.done (C.nx (C.seq (U.start ?_)))
 refine U.ps 3 T rfl ?_
 obtain ⟨x16, hx16, hm⟩ := hm
 refine U.r rfl (.none rfl) rfl rfl (by exact Rd.ix T rfl rfl rfl rfl rfl rfl hx16) ?_
 refine U.ps 1 T rfl ?_
 refine U.e rfl (.none rfl) (by exact Eff.k (T_rules_ZoneOf_1 x16 f_c0 _ hm) en90 rfl rfl rfl (.eq rfl) (fun _ _ => ⟨(.v _), trivial⟩)) (fun x17' hm => ?_)
 obtain ⟨x17⟩ := x17'
 refine U.done (C.nx ?_)
 refine C.ite rfl hm (fun hb18 hm => ?_) (fun hb18 hm => ?_)
 refine C.seq (U.start ?_)
 refine U.ps 2 T rfl ?_
 refine U.done (C.nx (C.ret (C.brt (C.rt (C.rt (C.brt (C.rt ?_)))))))
 exact C.f0 T (rs' := [.i s7]) hβ ⟨s7, hm, rfl, rfl, rfl⟩
 refine C.skip (C.bnx (C.nx (U.start ?_)))
 refine U.ps 2 T rfl ?_
 refine U.done (C.nx ?_)
 exact St.wk (C.next hm) (Wk.e)
 refine C.exit (C.ex (C.ex (C.bex ?_)))
 exact St.wk (hJ6 _ hm) (Wk.mk' [] rfl rfl trivial trivial rfl)
theorem T_rules_ZoneOf (s_1 : ApiSite) (c : Int) (post : Int → Prop) (hm : V_rules_ZoneOf s_1 c post) :
    Tr Tryz.prog 63 [.agg (eApiSite s_1), .i c] [] 0 (fun A H' k => ∃ y, post y ∧ A = (.i y) ∧ H' = [] ∧ k = 0) := by
 refine Tr.intro (n := 9) Tryz.func63 rfl Tryz.ntmps63 rfl (fun w0 ok F β hβ => ?_)
 unfold V_rules_ZoneOf at hm
 refine C.seq (U.start ?_)
 refine U.e1 rfl (.none rfl) (by exact Eff1.box rfl rfl rfl rfl rfl) ?_
 refine U.e1 rfl (.none rfl) (by exact Eff1.box rfl rfl rfl rfl rfl) ?_
 refine U.ps 1 T rfl ?_
 refine U.done (C.nx (C.seq (U.start ?_)))
 refine U.ps 3 T rfl ?_
 refine U.e rfl (.none rfl) (by exact Eff.k (T_slices_IndexFunc_api_Zone_api_Zone__rules_ZoneOf_1 s_1.Zones c _ hm) en89 rfl rfl rfl (.cons (.eq rfl) (.cons (.fn (.eq rfl) (.cons (.fzp rfl rfl rfl rfl (.eq rfl) rfl) .nil)) .nil)) (fun _ _ => ⟨(.v _), trivial⟩)) (fun x5' hm => ?_)
 obtain ⟨x5⟩ := x5'
 refine U.ps 1 T rfl ?_
 refine U.done (C.nx (C.ret ?_))
 exact C.f0 T (rs' := [.i x5]) hβ ⟨x5, hm, rfl, rfl, rfl⟩
theorem T_rules_isCell (s_1 : ApiSite) (c : Int) (post : Bool → Prop) (hm : V_rules_isCell s_1 c post) :
    Tr Tryz.prog 77 [.agg (eApiSite s_1), .i c] [] 0 (fun A H' k => ∃ y, post y ∧ A = (.b y) ∧ H' = [] ∧ k = 0) := by
 refine Tr.intro (n := 15) Tryz.func77 rfl Tryz.ntmps77 rfl (fun w0 ok F β hβ => ?_)
 unfold V_rules_isCell at hm
 refine C.seq (U.start ?_)
 refine U.e1 rfl (.none rfl) (by exact Eff1.box rfl rfl rfl rfl rfl) ?_
 refine U.ps 1 T rfl ?_
 refine U.done (C.nx (C.seq ?_))
 refine C.jn (fun (x3 : Bool) => [(4, .b x3)]) (fun (x3 : Bool) => []) 0 hm (fun x3 hm => ?_) (fun J4 hm hJ4 => ?_)
 refine C.nx (C.ret ?_)
 exact C.f0 T (rs' := [.b x3]) hβ ⟨x3, hm, rfl, rfl, rfl⟩
 refine U.start ?_
 refine U.ps 3 T rfl ?_
 refine hm.cs (fun hb5 hm => ?_) (fun hb5 hm => ?_)
 refine U.pg 6 2 true 7 hb5 T rfl rfl rfl rfl ?_
 refine U.r rfl (.none rfl) rfl rfl (by exact Rd.pk rfl rfl hb5 rfl) ?_
 refine U.ps 1 T rfl ?_
 refine U.done ?_
 exact St.wk (hJ4 _ hm) (Wk.e)
 refine U.sks 6 2 true 7 hb5 rfl rfl rfl ?_
 refine U.r rfl (.none rfl) rfl rfl (by exact Rd.pk' rfl rfl hb5 rfl) ?_
 refine U.ps 1 T rfl ?_
 refine U.done ?_
 exact St.wk (hJ4 _ hm) (Wk.e)
theorem T_rules_Open_1 (x_1 : ApiSpan) (c0 : Int) (post : Bool → Prop) (hm : V_rules_Open_1 x_1 c0 post) :
    Tr Tryz.prog 78 [.agg [.i x_1.From, .i x_1.To], .rp [.i c0]] [] 0 (fun A H' k => ∃ y, post y ∧ A = (.b y) ∧ H' = [] ∧ k = 0) := by
 refine Tr.intro (n := 14) Tryz.func78 rfl Tryz.ntmps78 rfl (fun w0 ok F β hβ => ?_)
 unfold V_rules_Open_1 at hm
 refine C.seq (U.start ?_)
 refine U.e1 rfl (.none rfl) (by exact Eff1.box rfl rfl rfl rfl rfl) ?_
 refine U.ps 1 T rfl ?_
 refine U.done (C.nx (C.seq ?_))
 refine C.jn (fun (x3 : Bool) => [(3, .b x3)]) (fun (x3 : Bool) => []) 0 hm (fun x3 hm => ?_) (fun J4 hm hJ4 => ?_)
 refine C.nx (C.ret ?_)
 exact C.f0 T (rs' := [.b x3]) hβ ⟨x3, hm, rfl, rfl, rfl⟩
 refine U.start ?_
 refine U.ps 5 T rfl ?_
 refine hm.cs (fun hb5 hm => ?_) (fun hb5 hm => ?_)
 refine U.pg 4 4 true 8 hb5 T rfl rfl rfl rfl ?_
 refine U.r rfl (.none rfl) rfl rfl (by exact Rd.pk rfl rfl hb5 rfl) ?_
 refine U.ps 1 T rfl ?_
 refine U.done ?_
 exact St.wk (hJ4 _ hm) (Wk.e)
 refine U.sks 4 4 true 8 hb5 rfl rfl rfl ?_
 refine U.r rfl (.none rfl) rfl rfl (by exact Rd.pk' rfl rfl hb5 rfl) ?_
 refine U.ps 1 T rfl ?_
 refine U.done ?_
 exact St.wk (hJ4 _ hm) (Wk.e)
theorem T_slices_IndexFunc_api_Span_api_Span__rules_Open_1 (s_1 : List ApiSpan) (f_c0 : Int) (post : Int → Prop) (hm : V_slices_IndexFunc_api_Span_api_Span__rules_Open_1 s_1 f_c0 post) :
    Tr Tryz.prog 92 [.sl 2 eApiSpan s_1, .fn (.func 78) [] [.rp [.i f_c0]]] [] 0 (fun A H' k => ∃ y, post y ∧ A = (.i y) ∧ H' = [] ∧ k = 0) := by
 refine Tr.intro (n := 19) Tryz.func92 rfl Tryz.ntmps92 rfl (fun w0 ok F β hβ => ?_)
 unfold V_slices_IndexFunc_api_Span_api_Span__rules_Open_1 at hm
 refine C.seq (U.start ?_)
 refine U.ps 1 T rfl ?_
 refine U.done (C.nx (C.seq (C.seq (U.start ?_))))
 refine U.ps 3 T rfl ?_
 refine U.done (C.nx ?_)
 refine C.jn (fun (x5 : Unit) => []) (fun (x5 : Unit) => []) 0 hm (fun x5 hm => ?_) (fun J6 hm hJ6 => ?_)
 refine C.nx (C.seq (U.start ?_))
 refine U.ps 1 T rfl ?_
 refine U.done (C.nx (C.ret ?_))
 exact C.f0 T (rs' := [.i (-1)]) hβ ⟨(-1), hm, rfl, rfl, rfl⟩
 refine C.block ?_
 refine St.wk (C.loop (fun (s7 : Int) => [(0, .sl 2 eApiSpan s_1), (1, .fn (.func 78) [] [.rp [.i f_c0]]), (7, .i (s_1.length : Int)), (8, .i s7)]) (fun (s7 : Int) => []) hm (fun s7 Y8 hm => ?_)) (Wk.e)
 refine C.seq (U.start ?_)
 refine U.ps 1 T rfl ?_
 refine U.done (C.nx (C.seq ?_))
 refine C.ite rfl hm (fun hb11 hm => ?_) (fun hb11 hm => ?_)
 refine C.skip (C.nx (C.seq (C.block (C.seq (U.start ?_)))))
 refine U.ps 2 T rfl ?_
 refine U.done (C.nx (C.seq (U.start ?_)))
 refine U.ps 3 T rfl ?_
 obtain ⟨x16, hx16, hm⟩ := hm
 refine U.r rfl (.none rfl) rfl rfl (by exact Rd.ix T rfl rfl rfl rfl rfl rfl hx16) ?_
 refine U.ps 1 T rfl ?_
 refine U.e rfl (.none rfl) (by exact Eff.k (T_rules_Open_1 x16 f_c0 _ hm) en78 rfl rfl rfl (.eq rfl) (fun _ _ => ⟨(.v _), trivial⟩)) (fun x17' hm => ?_)
 obtain ⟨x17⟩ := x17'
 refine U.done (C.nx ?_)
 refine C.ite rfl hm (fun hb18 hm => ?_) (fun hb18 hm => ?_)
 refine C.seq (U.start ?_)
 refine U.ps 2 T rfl ?_
 refine U.done (C.nx (C.ret (C.brt (C.rt (C.rt (C.brt (C.rt ?_)))))))
 exact C.f0 T (rs' := [.i s7]) hβ ⟨s7, hm, rfl, rfl, rfl⟩
 refine C.skip (C.bnx (C.nx (U.start ?_)))
 refine U.ps 2 T rfl ?_
 refine U.done (C.nx ?_)
 exact St.wk (C.next hm) (Wk.e)
 refine C.exit (C.ex (C.ex (C.bex ?_)))
 exact St.wk (hJ6 _ hm) (Wk.mk' [] rfl rfl trivial trivial rfl)
theorem T_slices_ContainsFunc_api_Span_api_Span__rules_Open_1 (s_1 : List ApiSpan) (f_c0 : Int) (post : Bool → Prop) (hm : V_slices_ContainsFunc_api_Span_api_Span__rules_Open_1 s_1 f_c0 post) :
    Tr Tryz.prog 65 [.sl 2 eApiSpan s_1, .fn (.func 78) [] [.rp [.i f_c0]]] [] 0 (fun A H' k => ∃ y, post y ∧ A = (.b y) ∧ H' = [] ∧ k = 0) := by
 refine Tr.intro (n := 9) Tryz.func65 rfl Tryz.ntmps65 rfl (fun w0 ok F β hβ => ?_)
 unfold V_slices_ContainsFunc_api_Span_api_Span__rules_Open_1 at hm
 refine C.seq (U.start ?_)
 refine U.ps 1 T rfl ?_
 refine U.done (C.nx (C.seq (U.start ?_)))
 refine U.ps 2 T rfl ?_
 refine U.e rfl (.none rfl) (by exact Eff.k (T_slices_IndexFunc_api_Span_api_Span__rules_Open_1 s_1 f_c0 _ hm) en92 rfl rfl rfl (.eq rfl) (fun _ _ => ⟨(.v _), trivial⟩)) (fun x5' hm => ?_)
 obtain ⟨x5⟩ := x5'
 refine U.ps 2 T rfl ?_
 refine U.done (C.nx (C.ret ?_))
 exact C.f0 T (rs' := [.b (decide (x5 ≥ 0))]) hβ ⟨decide (x5 ≥ 0), hm, rfl, rfl, rfl⟩
theorem T_rules_Open (s_1 : ApiSite) (c : Int) (tick : Int) (post : Bool → Prop) (hm : V_rules_Open s_1 c tick post) :
    Tr Tryz.prog 49 [.agg (eApiSite s_1), .i c, .i tick] [] 0 (fun A H' k => ∃ y, post y ∧ A = (.b y) ∧ H' = [] ∧ k = 0) := by
 refine Tr.intro (n := 31) Tryz.func49 rfl Tryz.ntmps49 rfl (fun w0 ok F β hβ => ?_)
 unfold V_rules_Open at hm
 refine C.seq (U.start ?_)
 refine U.e1 rfl (.none rfl) (by exact Eff1.box rfl rfl rfl rfl rfl) ?_
 refine U.e1 rfl (.none rfl) (by exact Eff1.box rfl rfl rfl rfl rfl) ?_
 refine U.ps 1 T rfl ?_
 refine U.done (C.nx (C.seq (U.start ?_)))
 refine U.ps 2 T rfl ?_
 refine U.e rfl (.none rfl) (by exact Eff.k (T_rules_ZoneOf s_1 c _ hm) en63 rfl rfl rfl (.eq rfl) (fun _ _ => ⟨(.v _), trivial⟩)) (fun x5' hm => ?_)
 obtain ⟨x5⟩ := x5'
 refine U.ps 1 T rfl ?_
 refine U.done (C.nx (C.seq (C.seq ?_)))
 refine C.jn (fun (x6 : Bool) => [(1, .i c), (3, .p 0 0), (5, .p 1 0), (7, .i x5), (18, .b x6)]) (fun (x6 : Bool) => [(0, .box (eApiSite s_1)), (1, .box [.i tick])]) 2 hm (fun x6 hm => ?_) (fun J7 hm hJ7 => ?_)
 refine C.nx ?_
 refine C.ite rfl hm (fun hb10 hm => ?_) (fun hb10 hm => ?_)
 refine C.seq (U.start ?_)
 refine U.ps 2 T rfl ?_
 refine U.e rfl (.none rfl) (by exact Eff.k (T_rules_isCell s_1 c _ hm) en77 rfl rfl rfl (.eq rfl) (fun _ _ => ⟨(.v _), trivial⟩)) (fun x13' hm => ?_)
 obtain ⟨x13⟩ := x13'
 refine U.ps 1 T rfl ?_
 refine U.done (C.nx (C.ret (C.rt ?_)))
 exact C.f0 T (rs' := [.b x13]) hβ ⟨x13, hm, rfl, rfl, rfl⟩
 refine C.skip (C.nx (C.seq (U.start ?_)))
 refine U.ps 3 T rfl ?_
 obtain ⟨x16, hx16, hm⟩ := hm
 refine U.r rfl (.none rfl) rfl rfl (by exact Rd.ix T rfl rfl rfl rfl rfl rfl hx16) ?_
 refine U.ps 3 T rfl ?_
 refine U.e rfl (.none rfl) (by exact Eff.k (T_slices_ContainsFunc_api_Span_api_Span__rules_Open_1 x16.Shut tick _ hm) en65 rfl rfl rfl (.cons (.eq rfl) (.cons (.fn (.eq rfl) (.cons (.fzp rfl rfl rfl rfl (.eq rfl) rfl) .nil)) .nil)) (fun _ _ => ⟨(.v _), trivial⟩)) (fun x17' hm => ?_)
 obtain ⟨x17⟩ := x17'
 refine U.ps 2 T rfl ?_
 refine U.done (C.nx (C.ret ?_))
 exact C.f0 T (rs' := [.b (!x17)]) hβ ⟨!x17, hm, rfl, rfl, rfl⟩
 refine U.start ?_
 refine U.ps 2 T rfl ?_
 refine U.e rfl (.none rfl) (by exact Eff.k (T_rules_isCell s_1 c _ hm) en77 rfl rfl rfl (.eq rfl) (fun _ _ => ⟨(.v _), trivial⟩)) (fun x8' hm => ?_)
 obtain ⟨x8⟩ := x8'
 refine U.ps 2 T rfl ?_
 refine hm.cs (fun hb9 hm => ?_) (fun hb9 hm => ?_)
 refine U.pg 2 4 false 15 (ntF hb9) T rfl rfl rfl rfl ?_
 refine U.r rfl (.none rfl) rfl rfl (by exact Rd.pk' rfl rfl (ntF hb9) rfl) ?_
 refine U.done ?_
 exact St.wk (hJ7 _ hm) (Wk.f [some 0, some 1] ⟨bX, bX, trivial⟩)
 refine U.sks 2 4 false 15 (ntT hb9) rfl rfl rfl ?_
 refine U.r rfl (.none rfl) rfl rfl (by exact Rd.pk rfl rfl (ntT hb9) rfl) ?_
 refine U.done ?_
 exact St.wk (hJ7 _ hm) (Wk.f [some 0, some 1] ⟨bX, bX, trivial⟩)
theorem T_rules_Speed (s_1 : ApiSite) (c : Int) (post : Int → Prop) (hm : V_rules_Speed s_1 c post) :
    Tr Tryz.prog 26 [.agg (eApiSite s_1), .i c] [] 0 (fun A H' k => ∃ y, post y ∧ A = (.i y) ∧ H' = [] ∧ k = 0) := by
 refine Tr.intro (n := 17) Tryz.func26 rfl Tryz.ntmps26 rfl (fun w0 ok F β hβ => ?_)
 unfold V_rules_Speed at hm
 refine C.seq (U.start ?_)
 refine U.e1 rfl (.none rfl) (by exact Eff1.box rfl rfl rfl rfl rfl) ?_
 refine U.ps 1 T rfl ?_
 refine U.done (C.nx (C.seq (C.seq (U.start ?_))))
 refine U.ps 2 T rfl ?_
 refine U.e rfl (.none rfl) (by exact Eff.k (T_rules_ZoneOf s_1 c _ hm) en63 rfl rfl rfl (.eq rfl) (fun _ _ => ⟨(.v _), trivial⟩)) (fun x5' hm => ?_)
 obtain ⟨x5⟩ := x5'
 refine U.ps 1 T rfl ?_
 refine U.done (C.nx (C.seq (U.start ?_)))
 refine U.ps 2 T rfl ?_
 refine U.done (C.nx ?_)
 refine C.ite rfl hm (fun hb8 hm => ?_) (fun hb8 hm => ?_)
 refine C.seq (U.start ?_)
 refine U.ps 3 T rfl ?_
 obtain ⟨x11, hx11, hm⟩ := hm
 refine U.r rfl (.none rfl) rfl rfl (by exact Rd.ix T rfl rfl rfl rfl rfl rfl hx11) ?_
 refine U.ps 3 T rfl ?_
 refine U.done (C.nx (C.ret (C.rt ?_)))
 exact C.f0 T (rs' := [.i x11.Speed]) hβ ⟨x11.Speed, hm, rfl, rfl, rfl⟩
 refine C.skip (C.nx (C.seq (U.start ?_)))
 refine U.ps 1 T rfl ?_
 refine U.done (C.nx (C.ret ?_))
 exact C.f0 T (rs' := [.i 1]) hβ ⟨1, hm, rfl, rfl, rfl⟩
theorem T_route_walk_step (w : RouteWalk) (at_1 : RouteStand) (k : Int) (act : Int) (post : (RouteStand × Int) → Prop) (hm : V_route_walk_step w at_1 k act post) :
    Tr Tryz.prog 29 [.agg [.i w.site.Floor.W, .i w.site.Floor.H, .i w.site.Floor.D, .sl 1 eI w.site.Floor.Kind, .sl 1 eI w.site.Floor.Out, .sl 5 eApiZone w.site.Zones, .sl 2 eApiApart w.site.Aparts, .sl 2 eApiShelf w.site.Shelves, .sl 2 eApiStart w.site.Robots, .i w.tick, .sl 1 eI w.avoid, .rm kI veLeApiSpan w.taken], .agg [.i at_1.cell, .i at_1.rest], .i k, .i act] [] 0 (fun A H' k => ∃ y, post y ∧ A = (.tup [.agg [.i y.1.cell, .i y.1.rest], .i y.2]) ∧ H' = [] ∧ k = 0) := by
 refine Tr.intro (n := 84) Tryz.func29 rfl Tryz.ntmps29 rfl (fun w0 ok F β hβ => ?_)
 unfold V_route_walk_step at hm
 refine C.seq (U.start ?_)
 refine U.e1 rfl (.none rfl) (by exact Eff1.box rfl rfl rfl rfl rfl) ?_
 refine U.e1 rfl (.none rfl) (by exact Eff1.box rfl rfl rfl rfl rfl) ?_
 refine U.e1 rfl (.none rfl) (by exact Eff1.al T rfl rfl rfl rfl) ?_
 refine U.ps 1 T rfl ?_
 refine U.done (C.nx (C.seq (C.seq (U.start ?_))))
 refine U.ps 2 T rfl ?_
 refine U.done (C.nx ?_)
 refine C.ite rfl hm (fun hb5 hm => ?_) (fun hb5 hm => ?_)
 refine C.seq (C.seq (U.start ?_))
 refine U.ps 4 T rfl ?_
 refine U.e rfl (.none rfl) (by exact Eff.k (T_route_walk_held w at_1.cell k _ hm) en30 rfl rfl rfl (.eq rfl) (fun _ _ => ⟨(.v _), trivial⟩)) (fun x8' hm => ?_)
 obtain ⟨x8⟩ := x8'
 refine U.done (C.nx ?_)
 refine C.ite rfl hm (fun hb9 hm => ?_) (fun hb9 hm => ?_)
 refine C.seq (U.start ?_)
 refine U.ps 1 T rfl ?_
 refine U.e1 rfl (.none rfl) (by exact Eff1.st T rfl rfl rfl rfl rfl rfl rfl rfl rfl rfl) ?_
 refine U.ps 1 T rfl ?_
 refine U.done (C.nx (C.ret (C.rt (C.rt ?_))))
 exact C.f0 T (rs' := [.agg [.i (((({ cell := 0, rest := 0 : RouteStand }), 15).1).cell), .i (((({ cell := 0, rest := 0 : RouteStand }), 15).1).rest)], .i ((({ cell := 0, rest := 0 : RouteStand }), 15).2)]) hβ ⟨(({ cell := 0, rest := 0 : RouteStand }), 15), hm, rfl, rfl, rfl⟩
 refine C.skip (C.nx (C.seq (U.start ?_)))
 refine U.ps 7 T rfl ?_
 refine U.e1 rfl (.none rfl) (by exact Eff1.st T rfl rfl rfl rfl rfl rfl rfl rfl rfl rfl) ?_
 refine U.ps 1 T rfl ?_
 refine U.done (C.nx (C.ret (C.rt ?_)))
 exact C.f0 T (rs' := [.agg [.i (((({ cell := at_1.cell, rest := imax (w64 (at_1.rest - 1)) 0 : RouteStand }), 0).1).cell), .i (((({ cell := at_1.cell, rest := imax (w64 (at_1.rest - 1)) 0 : RouteStand }), 0).1).rest)], .i ((({ cell := at_1.cell, rest := imax (w64 (at_1.rest - 1)) 0 : RouteStand }), 0).2)]) hβ ⟨(({ cell := at_1.cell, rest := imax (w64 (at_1.rest - 1)) 0 : RouteStand }), 0), hm, rfl, rfl, rfl⟩
 refine C.skip (C.nx (C.seq (U.start ?_)))
 refine U.ps 7 T rfl ?_
 refine U.e rfl (.none rfl) (by exact Eff.k (T_floor_Next w.site.Floor at_1.cell (w64 (act - 1)) _ hm) en25 rfl rfl rfl (.eq rfl) (fun _ _ => ⟨(.tup (.cons (.v _) (.cons (.v _) .nil))), trivial⟩)) (fun x16' hm => ?_)
 obtain ⟨x16⟩ := x16'
 refine U.ps 5 T rfl ?_
 refine U.done (C.nx (C.seq (C.block (C.seq (U.start ?_)))))
 refine U.ps 4 T rfl ?_
 refine U.done (C.nx ?_)
 refine C.ite rfl hm (fun hb19 hm => ?_) (fun hb19 hm => ?_)
 refine C.seq (U.start ?_)
 refine U.ps 1 T rfl ?_
 refine U.e1 rfl (.none rfl) (by exact Eff1.st T rfl rfl rfl rfl rfl rfl rfl rfl rfl rfl) ?_
 refine U.ps 1 T rfl ?_
 refine U.done (C.nx (C.ret (C.brt (C.rt ?_))))
 exact C.f0 T (rs' := [.agg [.i (((({ cell := 0, rest := 0 : RouteStand }), 8).1).cell), .i (((({ cell := 0, rest := 0 : RouteStand }), 8).1).rest)], .i ((({ cell := 0, rest := 0 : RouteStand }), 8).2)]) hβ ⟨(({ cell := 0, rest := 0 : RouteStand }), 8), hm, rfl, rfl, rfl⟩
 refine C.seq ?_
 refine C.jn (fun (x22 : Bool) => [(2, .i k), (4, .p 0 0), (5, .p 1 0), (8, .p 2 0), (10, .i x16.1), (43, .b x22)]) (fun (x22 : Bool) => [(0, .box [.i w.site.Floor.W, .i w.site.Floor.H, .i w.site.Floor.D, .sl 1 eI w.site.Floor.Kind, .sl 1 eI w.site.Floor.Out, .sl 5 eApiZone w.site.Zones, .sl 2 eApiApart w.site.Aparts, .sl 2 eApiShelf w.site.Shelves, .sl 2 eApiStart w.site.Robots, .i w.tick, .sl 1 eI w.avoid, .rm kI veLeApiSpan w.taken]), (1, .box [.i at_1.cell, .i at_1.rest]), (2, .box [.i 0, .i 0])]) 3 hm (fun x22 hm => ?_) (fun J23 hm hJ23 => ?_)
 refine C.nx ?_
 refine C.ite rfl hm (fun hb26 hm => ?_) (fun hb26 hm => ?_)
 refine C.seq (U.start ?_)
 refine U.ps 1 T rfl ?_
 refine U.e1 rfl (.none rfl) (by exact Eff1.st T rfl rfl rfl rfl rfl rfl rfl rfl rfl rfl) ?_
 refine U.ps 1 T rfl ?_
 refine U.done (C.nx (C.ret (C.brt (C.rt ?_))))
 exact C.f0 T (rs' := [.agg [.i (((({ cell := 0, rest := 0 : RouteStand }), 14).1).cell), .i (((({ cell := 0, rest := 0 : RouteStand }), 14).1).rest)], .i ((({ cell := 0, rest := 0 : RouteStand }), 14).2)]) hβ ⟨(({ cell := 0, rest := 0 : RouteStand }), 14), hm, rfl, rfl, rfl⟩
 refine C.seq (U.start ?_)
 refine U.ps 7 T rfl ?_
 refine U.e rfl (.none rfl) (by exact Eff.k (T_rules_Open w.site x16.1 (w64 (w.tick + k)) _ hm) en49 rfl rfl rfl (.eq rfl) (fun _ _ => ⟨(.v _), trivial⟩)) (fun x31' hm => ?_)
 obtain ⟨x31⟩ := x31'
 refine U.ps 2 T rfl ?_
 refine U.done (C.nx ?_)
 refine C.ite rfl hm (fun hb32 hm => ?_) (fun hb32 hm => ?_)
 refine C.seq (U.start ?_)
 refine U.ps 1 T rfl ?_
 refine U.e1 rfl (.none rfl) (by exact Eff1.st T rfl rfl rfl rfl rfl rfl rfl rfl rfl rfl) ?_
 refine U.ps 1 T rfl ?_
 refine U.done (C.nx (C.ret (C.brt (C.rt ?_))))
 exact C.f0 T (rs' := [.agg [.i (((({ cell := 0, rest := 0 : RouteStand }), 18).1).cell), .i (((({ cell := 0, rest := 0 : RouteStand }), 18).1).rest)], .i ((({ cell := 0, rest := 0 : RouteStand }), 18).2)]) hβ ⟨(({ cell := 0, rest := 0 : RouteStand }), 18), hm, rfl, rfl, rfl⟩
 refine C.seq ?_
 refine C.jn (fun (x35 : Bool) => [(4, .p 0 0), (8, .p 1 0), (10, .i x16.1), (64, .b x35)]) (fun (x35 : Bool) => [(0, .box [.i w.site.Floor.W, .i w.site.Floor.H, .i w.site.Floor.D, .sl 1 eI w.site.Floor.Kind, .sl 1 eI w.site.Floor.Out, .sl 5 eApiZone w.site.Zones, .sl 2 eApiApart w.site.Aparts, .sl 2 eApiShelf w.site.Shelves, .sl 2 eApiStart w.site.Robots, .i w.tick, .sl 1 eI w.avoid, .rm kI veLeApiSpan w.taken]), (1, .box [.i 0, .i 0])]) 2 hm (fun x35 hm => ?_) (fun J36 hm hJ36 => ?_)
 refine C.nx ?_
 refine C.ite rfl hm (fun hb40 hm => ?_) (fun hb40 hm => ?_)
 refine C.seq (U.start ?_)
 refine U.ps 1 T rfl ?_
 refine U.e1 rfl (.none rfl) (by exact Eff1.st T rfl rfl rfl rfl rfl rfl rfl rfl rfl rfl) ?_
 refine U.ps 1 T rfl ?_
 refine U.done (C.nx (C.ret (C.brt (C.rt ?_))))
 exact C.f0 T (rs' := [.agg [.i (((({ cell := 0, rest := 0 : RouteStand }), 15).1).cell), .i (((({ cell := 0, rest := 0 : RouteStand }), 15).1).rest)], .i ((({ cell := 0, rest := 0 : RouteStand }), 15).2)]) hβ ⟨(({ cell := 0, rest := 0 : RouteStand }), 15), hm, rfl, rfl, rfl⟩
 refine C.skip (C.bnx (C.nx (C.seq (U.start ?_))))
 refine U.ps 4 T rfl ?_
 refine U.e rfl (.none rfl) (by exact Eff.k (T_rules_Speed w.site x16.1 _ hm) en26 rfl rfl rfl (.eq rfl) (fun _ _ => ⟨(.v _), trivial⟩)) (fun x45' hm => ?_)
 obtain ⟨x45⟩ := x45'
 refine U.ps 2 T rfl ?_
 refine U.e1 rfl (.none rfl) (by exact Eff1.st T rfl rfl rfl rfl rfl rfl rfl rfl rfl rfl) ?_
 refine U.ps 1 T rfl ?_
 refine U.done (C.nx (C.ret ?_))
 exact C.f0 T (rs' := [.agg [.i (((({ cell := x16.1, rest := w64 (x45 - 1) : RouteStand }), 0).1).cell), .i (((({ cell := x16.1, rest := w64 (x45 - 1) : RouteStand }), 0).1).rest)], .i ((({ cell := x16.1, rest := w64 (x45 - 1) : RouteStand }), 0).2)]) hβ ⟨(({ cell := x16.1, rest := w64 (x45 - 1) : RouteStand }), 0), hm, rfl, rfl, rfl⟩
 refine U.start ?_
 refine U.ps 4 T rfl ?_
 refine U.e rfl (.none rfl) (by exact Eff.k (T_route_walk_held w at_1.cell k _ hm) en30 rfl rfl rfl (.eq rfl) (fun _ _ => ⟨(.v _), trivial⟩)) (fun x37' hm => ?_)
 obtain ⟨x37⟩ := x37'
 refine U.ps 1 T rfl ?_
 refine hm.cs (fun hb38 hm => ?_) (fun hb38 hm => ?_)
 refine U.sks 4 5 false 70 hb38 rfl rfl rfl ?_
 refine U.r rfl (.none rfl) rfl rfl (by exact Rd.pk rfl rfl hb38 rfl) ?_
 refine U.ps 1 T rfl ?_
 refine U.done ?_
 exact St.wk (hJ36 _ hm) (Wk.f [some 0, some 2] ⟨bX, bX, trivial⟩)
 refine U.pg 3 5 false 70 hb38 T rfl rfl rfl rfl ?_
 refine U.e rfl (.take 5 false 70 _ hb38 rfl rfl rfl) (by exact Eff.k (T_route_walk_held w x16.1 k _ hm) en30 rfl rfl rfl (.eq rfl) (fun _ _ => ⟨(.v _), trivial⟩)) (fun x39' hm => ?_)
 obtain ⟨x39⟩ := x39'
 refine U.r rfl (.none rfl) rfl rfl (by exact Rd.pk' rfl rfl hb38 rfl) ?_
 refine U.ps 1 T rfl ?_
 refine U.done ?_
 exact St.wk (hJ36 _ hm) (Wk.f [some 0, some 2] ⟨bX, bX, trivial⟩)
 refine U.start ?_
 refine U.ps 3 T rfl ?_
 refine hm.cs (fun hb24 hm => ?_) (fun hb24 hm => ?_)
 refine U.pg 3 2 false 46 (ntF hb24) T rfl rfl rfl rfl ?_
 refine U.e rfl (.take 2 false 46 _ (ntF hb24) rfl rfl rfl) (by exact Eff.k (T_slices_Contains_int_int w.avoid x16.1 _ hm) en46 rfl rfl rfl (.eq rfl) (fun _ _ => ⟨(.v _), trivial⟩)) (fun x25' hm => ?_)
 obtain ⟨x25⟩ := x25'
 refine U.r rfl (.none rfl) rfl rfl (by exact Rd.pk' rfl rfl (ntF hb24) rfl) ?_
 refine U.ps 1 T rfl ?_
 refine U.done ?_
 exact St.wk (hJ23 _ hm) (Wk.f [some 0, some 1, some 2] ⟨bX, bX, bX, trivial⟩)
 refine U.sks 4 2 false 46 (ntT hb24) rfl rfl rfl ?_
 refine U.r rfl (.none rfl) rfl rfl (by exact Rd.pk rfl rfl (ntT hb24) rfl) ?_
 refine U.ps 1 T rfl ?_
 refine U.done ?_
 exact St.wk (hJ23 _ hm) (Wk.f [some 0, some 1, some 2] ⟨bX, bX, bX, trivial⟩)
theorem T_route_walk_layers (w : RouteWalk) (from_1 : Int) (to_1 : Int) (most : Int) (post : (List (List (RouteStand × Bool)) × Bool) → Prop) (hm : V_route_walk_layers w from_1 to_1 most post) :
    Tr Tryz.prog 16 [.agg [.i w.site.Floor.W, .i w.site.Floor.H, .i w.site.Floor.D, .sl 1 eI w.site.Floor.Kind, .sl 1 eI w.site.Floor.Out, .sl 5 eApiZone w.site.Zones, .sl 2 eApiApart w.site.Aparts, .sl 2 eApiShelf w.site.Shelves, .sl 2 eApiStart w.site.Robots, .i w.tick, .sl 1 eI w.avoid, .rm kI veLeApiSpan w.taken], .i from_1, .i to_1, .i most] [] 0 (fun A H' k => ∃ y, post y ∧ A = (.tup [.o 0, .b y.2]) ∧ H' = [(0, .val (.os 1 eOMkRouteStandveB y.1))] ∧ k = 1) := by
 refine Tr.intro (n := 69) Tryz.func16 rfl Tryz.ntmps16 rfl (fun w0 ok F β hβ => ?_)
 unfold V_route_walk_layers at hm
 refine C.seq (U.start ?_)
 refine U.e1 rfl (.none rfl) (by exact Eff1.box rfl rfl rfl rfl rfl) ?_
 refine U.ps 2 T rfl ?_
 refine U.done (C.nx (C.seq (U.start ?_)))
 refine U.e1 rfl (.none rfl) (by exact Eff1.mm kRouteStand veB rfl rfl rfl) ?_
 refine U.ps 2 T rfl ?_
 refine U.e1 rfl (.none rfl) (by exact Eff1.mu T (x := ({ cell := from_1, rest := 0 : RouteStand })) (y := true) (.inr rfl) rfl kt70 (fun _ => rfl) rfl rfl rfl rfl rfl (.inl rfl) rfl) ?_
 refine U.ps 1 T rfl ?_
 refine U.e1 rfl (.none rfl) (by exact Eff1.bsl T (enc := eOMkRouteStandveB) (upd ([] : List (RouteStand × Bool)) ({ cell := from_1, rest := 0 : RouteStand }) true) rfl rfl rfl rfl rfl rfl rfl rfl rfl) ?_
 refine U.ps 1 T rfl ?_
 refine U.done ?_
 refine St.putb (l := 2) (l' := 1) (y := (upd ([] : List (RouteStand × Bool)) ({ cell := from_1, rest := 0 : RouteStand }) true)) rfl rfl rfl (fun _ h => nomatch h) rfl _ rfl ?_
 refine C.nx (C.seq (U.start ?_))
 refine U.ps 1 T rfl ?_
 refine U.done (C.nx (C.block ?_))
 refine St.wk (C.loop (fun (s9 : List (List (RouteStand × Bool)) × Int) => [(2, .i to_1), (3, .i most), (4, .p 0 0), (10, .o 1), (11, .i s9.2)]) (fun (s9 : List (List (RouteStand × Bool)) × Int) => [(0, .box [.i w.site.Floor.W, .i w.site.Floor.H, .i w.site.Floor.D, .sl 1 eI w.site.Floor.Kind, .sl 1 eI w.site.Floor.Out, .sl 5 eApiZone w.site.Zones, .sl 2 eApiApart w.site.Aparts, .sl 2 eApiShelf w.site.Shelves, .sl 2 eApiStart w.site.Robots, .i w.tick, .sl 1 eI w.avoid, .rm kI veLeApiSpan w.taken]), (1, .val (.os 1 eOMkRouteStandveB s9.1))]) hm (fun s9 Y10 hm => ?_)) (Wk.f [some 0, some 2] ⟨bX, vL, trivial⟩)
 refine C.seq ?_
 refine C.jn (fun (x11 : List (List (RouteStand × Bool))) => [(2, .i to_1), (3, .i most), (4, .p 0 0), (10, .o 1), (11, .i s9.2)]) (fun (x11 : List (List (RouteStand × Bool))) => [(0, .box [.i w.site.Floor.W, .i w.site.Floor.H, .i w.site.Floor.D, .sl 1 eI w.site.Floor.Kind, .sl 1 eI w.site.Floor.Out, .sl 5 eApiZone w.site.Zones, .sl 2 eApiApart w.site.Aparts, .sl 2 eApiShelf w.site.Shelves, .sl 2 eApiStart w.site.Robots, .i w.tick, .sl 1 eI w.avoid, .rm kI veLeApiSpan w.taken]), (1, .val (.os 1 eOMkRouteStandveB x11))]) 2 hm (fun x11 hm => ?_) (fun J12 hm hJ12 => ?_)
 refine C.nx (U.start ?_)
 refine U.ps 3 T rfl ?_
 refine U.done (C.nx ?_)
 exact St.wk (C.next hm) (Wk.f [some 0, some 1] ⟨bX, vL, trivial⟩)
 refine C.block (C.seq (U.start ?_))
 refine U.e1 rfl (.none rfl) (by exact Eff1.mm kRouteStand veB rfl rfl rfl) ?_
 refine U.ps 1 T rfl ?_
 refine U.done (C.nx (C.seq (C.seq (U.start ?_))))
 refine U.ps 2 T rfl ?_
 obtain ⟨x17, hx17, hm⟩ := hm
 refine U.r rfl (.none rfl) rfl rfl (by exact Rd.io T rfl rfl rfl rfl rfl rfl rfl hx17) ?_
 refine St.lend (l := 1) (i := (Int.toNat s9.2)) rfl (idx_some hx17).2.2 rfl (fun _ => rfl) ?_
 refine U.r rfl (.none rfl) rfl rfl (by exact Rd.ll T rfl rfl rfl (.head _) rfl rfl rfl rfl) ?_
 refine U.e1 rfl (.none rfl) (by exact Eff1.rg T rfl rfl rfl rfl rfl rfl) ?_
 refine U.done (C.nx ?_)
 refine C.jn (fun (x18 : List (RouteStand × Bool)) => [(2, .i to_1), (3, .i most), (4, .p 0 0), (10, .o 1), (11, .i s9.2), (12, .o 3)]) (fun (x18 : List (RouteStand × Bool)) => [(0, .box [.i w.site.Floor.W, .i w.site.Floor.H, .i w.site.Floor.D, .sl 1 eI w.site.Floor.Kind, .sl 1 eI w.site.Floor.Out, .sl 5 eApiZone w.site.Zones, .sl 2 eApiApart w.site.Aparts, .sl 2 eApiShelf w.site.Shelves, .sl 2 eApiStart w.site.Robots, .i w.tick, .sl 1 eI w.avoid, .rm kI veLeApiSpan w.taken]), (1, .lent eOMkRouteStandveB s9.1 [((Int.toNat s9.2), 2)]), (2, .val (.om kRouteStand veB x17)), (3, .val (.om kRouteStand veB x18))]) 4 hm (fun x18 hm => ?_) (fun J19 hm hJ19 => ?_)
 refine C.nx (C.seq (C.seq (U.start ?_)))
 refine U.ps 3 T rfl ?_
 refine U.done ?_
 refine St.putb (l := 1) (l' := 2) (y := x17) rfl rfl rfl (fun _ h => nomatch h) rfl _ rfl ?_
 refine C.nx ?_
 refine C.ite rfl hm (fun hb60 hm => ?_) (fun hb60 hm => ?_)
 refine C.seq (U.start ?_)
 refine U.ps 2 T rfl ?_
 refine U.done (C.nx (C.ret (C.rt (C.brt (C.rt (C.rt (C.brt ?_)))))))
 exact C.fin T (rs' := [.o 0, .b (([], false).2)]) (H' := [(0, .val (.os 1 eOMkRouteStandveB (([], false).1)))]) (nl' := 1) [none] rfl rfl (.cons (.nilO _ _ ⟨rfl, rfl⟩ rfl) (.eq rfl)) ⟨⟨_, rfl, .nil _ _⟩, trivial⟩ rfl rfl rfl rfl hβ ⟨([], false), hm, rfl, rfl, rfl⟩
 refine C.skip (C.nx (U.start ?_))
 refine U.ps 2 T rfl ?_
 refine U.e1 rfl (.none rfl) (by exact Eff1.bsl T (enc := eOMkRouteStandveB) x18 rfl rfl rfl rfl rfl rfl rfl rfl rfl) ?_
 obtain ⟨hx65, hm⟩ := hm
 refine U.e1 rfl (.none rfl) (by exact Eff1.apl T rfl rfl rfl rfl rfl rfl rfl (fun _ => rfl) rfl rfl rfl rfl ⟨_, rfl, rfl⟩ hx65) ?_
 refine U.ps 1 T rfl ?_
 refine U.done ?_
 refine St.putb (l := 5) (l' := 3) (y := x18) rfl rfl rfl (fun _ h => nomatch h) rfl _ rfl ?_
 refine C.bnx ?_
 exact St.wk (hJ12 _ hm) (Wk.f [some 0, some 5] ⟨bX, vL, trivial⟩)
 refine C.block ?_
 refine St.wk (C.loop (fun (s20 : List RouteStand × List (RouteStand × Bool)) => [(2, .i to_1), (3, .i most), (4, .p 0 0), (10, .o 1), (11, .i s9.2), (12, .o 4), (29, .o 3)]) (fun (s20 : List RouteStand × List (RouteStand × Bool)) => [(0, .box [.i w.site.Floor.W, .i w.site.Floor.H, .i w.site.Floor.D, .sl 1 eI w.site.Floor.Kind, .sl 1 eI w.site.Floor.Out, .sl 5 eApiZone w.site.Zones, .sl 2 eApiApart w.site.Aparts, .sl 2 eApiShelf w.site.Shelves, .sl 2 eApiStart w.site.Robots, .i w.tick, .sl 1 eI w.avoid, .rm kI veLeApiSpan w.taken]), (1, .lent eOMkRouteStandveB s9.1 [((Int.toNat s9.2), 2)]), (2, .rng kRouteStand veB x17 s20.1 3), (4, .val (.om kRouteStand veB s20.2))]) hm (fun s20 Y21 hm => ?_)) (Wk.f [some 0, some 1, some 3, some 4, some 2] ⟨bX, ⟨_, rfl, .lent rfl rfl⟩, ⟨_, rfl, .rng rfl rfl⟩, vL, trivial⟩)
 refine C.seq (U.start ?_)
 refine U.e rfl (.none rfl) (by exact Eff.nx (ke := kRouteStand) (ve := veB) (l := 2) rfl rfl rfl (fun _ => rfl) rfl rfl) (fun y' h' => ?_)
 obtain ⟨_ | ⟨x22, x23⟩⟩ := y'
 replace hm := hm.2 h'
 refine U.ps 1 T rfl ?_
 refine U.done (C.nx (C.seq ?_))
 refine C.condF rfl rfl ?_
 refine C.exit (C.ex (C.ex (C.bex ?_)))
 exact St.wk (hJ19 _ hm) (Wk.f [some 0, some 1, some 2, some 4] ⟨bX, ⟨_, rfl, .lent rfl rfl⟩, ⟨_, rfl, .endR rfl⟩, vL, trivial⟩)
 have hx22 := h'
 replace hm := hm.1 x22 x23 h'
 refine U.ps 1 T rfl ?_
 refine U.done (C.nx (C.seq ?_))
 refine C.condT rfl rfl ?_
 refine C.skip (C.nx ?_)
 refine C.jn (fun (x24 : List (RouteStand × Bool)) => [(2, .i to_1), (3, .i most), (4, .p 0 0), (10, .o 1), (11, .i s9.2), (12, .o 4), (29, .o 3)]) (fun (x24 : List (RouteStand × Bool)) => [(0, .box [.i w.site.Floor.W, .i w.site.Floor.H, .i w.site.Floor.D, .sl 1 eI w.site.Floor.Kind, .sl 1 eI w.site.Floor.Out, .sl 5 eApiZone w.site.Zones, .sl 2 eApiApart w.site.Aparts, .sl 2 eApiShelf w.site.Shelves, .sl 2 eApiStart w.site.Robots, .i w.tick, .sl 1 eI w.avoid, .rm kI veLeApiSpan w.taken]), (1, .lent eOMkRouteStandveB s9.1 [((Int.toNat s9.2), 2)]), (2, .rng kRouteStand veB x17 (x22 :: s20.1) 3), (4, .val (.om kRouteStand veB x24))]) 5 hm (fun x24 hm => ?_) (fun J25 hm hJ25 => ?_)
 refine C.nx ?_
 exact St.wk (C.next hm) (Wk.f [some 0, some 1, some 2, some 3, some 4] ⟨bX, ⟨_, rfl, .lent rfl rfl⟩, ⟨_, rfl, .rng rfl rfl⟩, vL, trivial⟩)
 refine C.block (C.seq (U.start ?_))
 refine U.r rfl (.none rfl) rfl rfl (by exact Rd.en (ke := kRouteStand) (ve := veB) rfl (fun _ => rfl) rfl (l := 2) rfl rfl hx22.1) ?_
 refine U.ps 1 T rfl ?_
 refine U.e1 rfl (.none rfl) (by exact Eff1.al T rfl rfl rfl rfl) ?_
 refine U.e1 rfl (.none rfl) (by exact Eff1.st T rfl rfl rfl rfl rfl rfl rfl rfl rfl rfl) ?_
 refine U.done (C.nx (C.seq (C.seq ?_)))
 refine C.jn (fun (x28 : Bool) => [(2, .i to_1), (3, .i most), (4, .p 0 0), (10, .o 1), (11, .i s9.2), (12, .o 4), (13, .p 5 0), (29, .o 3), (44, .b x28)]) (fun (x28 : Bool) => [(0, .box [.i w.site.Floor.W, .i w.site.Floor.H, .i w.site.Floor.D, .sl 1 eI w.site.Floor.Kind, .sl 1 eI w.site.Floor.Out, .sl 5 eApiZone w.site.Zones, .sl 2 eApiApart w.site.Aparts, .sl 2 eApiShelf w.site.Shelves, .sl 2 eApiStart w.site.Robots, .i w.tick, .sl 1 eI w.avoid, .rm kI veLeApiSpan w.taken]), (1, .lent eOMkRouteStandveB s9.1 [((Int.toNat s9.2), 2)]), (2, .rng kRouteStand veB x17 (x22 :: s20.1) 3), (4, .val (.om kRouteStand veB s20.2)), (5, .box [.i x22.cell, .i x22.rest])]) 6 hm (fun x28 hm => ?_) (fun J29 hm hJ29 => ?_)
 refine C.nx ?_
 refine C.ite rfl hm (fun hb32 hm => ?_) (fun hb32 hm => ?_)
 refine C.seq (U.start ?_)
 refine U.ps 3 T rfl ?_
 refine U.done ?_
 refine St.endr (l := 2) rfl ?_
 refine St.putb (l := 1) (l' := 2) (y := x17) rfl rfl rfl (fun _ h => nomatch h) rfl _ rfl ?_
 refine C.nx (C.ret (C.rt (C.brt (C.rt (C.brt (C.rt (C.brt (C.rt (C.rt (C.brt ?_))))))))))
 exact C.fin T (rs' := [.o 0, .b (((s9.1.set (Int.toNat s9.2) x17), true).2)]) (H' := [(0, .val (.os 1 eOMkRouteStandveB (((s9.1.set (Int.toNat s9.2) x17), true).1)))]) (nl' := 1) [some 1] rfl rfl (.eq rfl) ⟨vL, trivial⟩ rfl rfl rfl rfl hβ ⟨((s9.1.set (Int.toNat s9.2) x17), true), hm, rfl, rfl, rfl⟩
 refine C.skip (C.nx (C.seq (U.start ?_)))
 refine U.ps 1 T rfl ?_
 refine U.done (C.nx ?_)
 refine C.jn (fun (x37 : List (RouteStand × Bool)) => [(2, .i to_1), (3, .i most), (4, .p 0 0), (10, .o 1), (11, .i s9.2), (12, .o 4), (29, .o 3)]) (fun (x37 : List (RouteStand × Bool)) => [(0, .box [.i w.site.Floor.W, .i w.site.Floor.H, .i w.site.Floor.D, .sl 1 eI w.site.Floor.Kind, .sl 1 eI w.site.Floor.Out, .sl 5 eApiZone w.site.Zones, .sl 2 eApiApart w.site.Aparts, .sl 2 eApiShelf w.site.Shelves, .sl 2 eApiStart w.site.Robots, .i w.tick, .sl 1 eI w.avoid, .rm kI veLeApiSpan w.taken]), (1, .lent eOMkRouteStandveB s9.1 [((Int.toNat s9.2), 2)]), (2, .rng kRouteStand veB x17 (x22 :: s20.1) 3), (4, .val (.om kRouteStand veB x37))]) 5 hm (fun x37 hm => ?_) (fun J38 hm hJ38 => ?_)
 refine C.bnx ?_
 exact St.wk (hJ25 _ hm) (Wk.f [some 0, some 1, some 2, some 3, some 4] ⟨bX, ⟨_, rfl, .lent rfl rfl⟩, ⟨_, rfl, .rng rfl rfl⟩, vL, trivial⟩)
 refine C.block ?_
 refine St.wk (C.loop (fun (s39 : List (RouteStand × Bool) × Int) => [(2, .i to_1), (3, .i most), (4, .p 0 0), (10, .o 1), (11, .i s9.2), (12, .o 4), (13, .p 5 0), (29, .o 3), (46, .i s39.2)]) (fun (s39 : List (RouteStand × Bool) × Int) => [(0, .box [.i w.site.Floor.W, .i w.site.Floor.H, .i w.site.Floor.D, .sl 1 eI w.site.Floor.Kind, .sl 1 eI w.site.Floor.Out, .sl 5 eApiZone w.site.Zones, .sl 2 eApiApart w.site.Aparts, .sl 2 eApiShelf w.site.Shelves, .sl 2 eApiStart w.site.Robots, .i w.tick, .sl 1 eI w.avoid, .rm kI veLeApiSpan w.taken]), (1, .lent eOMkRouteStandveB s9.1 [((Int.toNat s9.2), 2)]), (2, .rng kRouteStand veB x17 (x22 :: s20.1) 3), (4, .val (.om kRouteStand veB s39.1)), (5, .box [.i x22.cell, .i x22.rest])]) hm (fun s39 Y40 hm => ?_)) (Wk.f [some 0, some 1, some 2, some 3, some 4, some 5] ⟨bX, ⟨_, rfl, .lent rfl rfl⟩, ⟨_, rfl, .rng rfl rfl⟩, vL, bX, trivial⟩)
 refine C.seq (U.start ?_)
 refine U.ps 1 T rfl ?_
 refine U.done (C.nx (C.seq ?_))
 refine C.ite rfl hm (fun hb43 hm => ?_) (fun hb43 hm => ?_)
 refine C.skip (C.nx (C.seq (C.block (C.seq (U.start ?_)))))
 refine U.ps 2 T rfl ?_
 refine U.done (C.nx (C.seq (U.start ?_)))
 refine U.ps 4 T rfl ?_
 refine U.e rfl (.none rfl) (by exact Eff.k (T_route_walk_step w x22 s9.2 s39.2 _ hm) en29 rfl rfl rfl (.eq rfl) (fun _ _ => ⟨(.tup (.cons (.agg (.cons (.v _) (.cons (.v _) .nil))) (.cons (.v _) .nil))), trivial⟩)) (fun x48' hm => ?_)
 obtain ⟨x48⟩ := x48'
 refine U.ps 3 T rfl ?_
 refine U.e1 rfl (.none rfl) (by exact Eff1.al T rfl rfl rfl rfl) ?_
 refine U.e1 rfl (.none rfl) (by exact Eff1.st T rfl rfl rfl rfl rfl rfl rfl rfl rfl rfl) ?_
 refine U.ps 1 T rfl ?_
 refine U.done (C.nx (C.seq (U.start ?_)))
 refine U.ps 2 T rfl ?_
 refine U.done (C.nx ?_)
 refine C.jn (fun (x51 : List (RouteStand × Bool)) => [(2, .i to_1), (3, .i most), (4, .p 0 0), (10, .o 1), (11, .i s9.2), (12, .o 4), (13, .p 5 0), (29, .o 3), (46, .i s39.2)]) (fun (x51 : List (RouteStand × Bool)) => [(0, .box [.i w.site.Floor.W, .i w.site.Floor.H, .i w.site.Floor.D, .sl 1 eI w.site.Floor.Kind, .sl 1 eI w.site.Floor.Out, .sl 5 eApiZone w.site.Zones, .sl 2 eApiApart w.site.Aparts, .sl 2 eApiShelf w.site.Shelves, .sl 2 eApiStart w.site.Robots, .i w.tick, .sl 1 eI w.avoid, .rm kI veLeApiSpan w.taken]), (1, .lent eOMkRouteStandveB s9.1 [((Int.toNat s9.2), 2)]), (2, .rng kRouteStand veB x17 (x22 :: s20.1) 3), (4, .val (.om kRouteStand veB x51)), (5, .box [.i x22.cell, .i x22.rest])]) 6 hm (fun x51 hm => ?_) (fun J52 hm hJ52 => ?_)
 refine C.bnx (C.nx (U.start ?_))
 refine U.ps 2 T rfl ?_
 refine U.done (C.nx ?_)
 exact St.wk (C.next hm) (Wk.f [some 0, some 1, some 2, some 3, some 4, some 5] ⟨bX, ⟨_, rfl, .lent rfl rfl⟩, ⟨_, rfl, .rng rfl rfl⟩, vL, bX, trivial⟩)
 refine C.ite rfl hm (fun hb53 hm => ?_) (fun hb53 hm => ?_)
 refine U.start ?_
 refine U.ps 2 T rfl ?_
 refine U.e1 rfl (.none rfl) (by exact Eff1.mu T (x := x48.1) (y := true) (.inl rfl) rfl kt70 (fun _ => rfl) rfl rfl rfl rfl rfl (.inl rfl) rfl) ?_
 refine U.done ?_
 exact St.wk (hJ52 _ hm) (Wk.f [some 0, some 1, some 2, some 3, some 4, some 5] ⟨bX, ⟨_, rfl, .lent rfl rfl⟩, ⟨_, rfl, .rng rfl rfl⟩, vL, bX, trivial⟩)
 refine C.skip ?_
 exact St.wk (hJ52 _ hm) (Wk.f [some 0, some 1, some 2, some 3, some 4, some 5] ⟨bX, ⟨_, rfl, .lent rfl rfl⟩, ⟨_, rfl, .rng rfl rfl⟩, vL, bX, trivial⟩)
 refine C.exit (C.ex (C.ex (C.bex ?_)))
 exact St.wk (hJ38 _ hm) (Wk.f [some 0, some 1, some 2, some 3, some 4] ⟨bX, ⟨_, rfl, .lent rfl rfl⟩, ⟨_, rfl, .rng rfl rfl⟩, vL, trivial⟩)
 refine U.start ?_
 refine U.ps 5 T rfl ?_
 refine hm.cs (fun hb30 hm => ?_) (fun hb30 hm => ?_)
 refine U.pg 3 4 true 38 hb30 T rfl rfl rfl rfl ?_
 refine U.e rfl (.take 4 true 38 _ hb30 rfl rfl rfl) (by exact Eff.k (T_route_walk_held w to_1 s9.2 _ hm) en30 rfl rfl rfl (.eq rfl) (fun _ _ => ⟨(.v _), trivial⟩)) (fun x31' hm => ?_)
 obtain ⟨x31⟩ := x31'
 refine U.pg 1 4 true 38 hb30 T rfl rfl rfl rfl ?_
 refine U.r rfl (.none rfl) rfl rfl (by exact Rd.pk rfl rfl hb30 rfl) ?_
 refine U.done ?_
 exact St.wk (hJ29 _ hm) (Wk.f [some 0, some 1, some 2, some 3, some 4, some 5] ⟨bX, ⟨_, rfl, .lent rfl rfl⟩, ⟨_, rfl, .rng rfl rfl⟩, vL, bX, trivial⟩)
 refine U.sks 5 4 true 38 hb30 rfl rfl rfl ?_
 refine U.r rfl (.none rfl) rfl rfl (by exact Rd.pk' rfl rfl hb30 rfl) ?_
 refine U.done ?_
 exact St.wk (hJ29 _ hm) (Wk.f [some 0, some 1, some 2, some 3, some 4, some 5] ⟨bX, ⟨_, rfl, .lent rfl rfl⟩, ⟨_, rfl, .rng rfl rfl⟩, vL, bX, trivial⟩)
theorem T_route_walk_on (w : RouteWalk) (at_1 : RouteStand) (k : Int) (into : List (RouteStand × Bool)) (post : (Int × RouteStand × Bool) → Prop) (hm : V_route_walk_on w at_1 k into post) :
    Tr Tryz.prog 17 [.agg [.i w.site.Floor.W, .i w.site.Floor.H, .i w.site.Floor.D, .sl 1 eI w.site.Floor.Kind, .sl 1 eI w.site.Floor.Out, .sl 5 eApiZone w.site.Zones, .sl 2 eApiApart w.site.Aparts, .sl 2 eApiShelf w.site.Shelves, .sl 2 eApiStart w.site.Robots, .i w.tick, .sl 1 eI w.avoid, .rm kI veLeApiSpan w.taken], .agg [.i at_1.cell, .i at_1.rest], .i k, .rm kRouteStand veB into] [] 0 (fun A H' k => ∃ y, post y ∧ A = (.tup [.i y.1, .agg [.i y.2.1.cell, .i y.2.1.rest], .b y.2.2]) ∧ H' = [] ∧ k = 0) := by
 refine Tr.intro (n := 36) Tryz.func17 rfl Tryz.ntmps17 rfl (fun w0 ok F β hβ => ?_)
 unfold V_route_walk_on at hm
 refine C.seq (U.start ?_)
 refine U.e1 rfl (.none rfl) (by exact Eff1.box rfl rfl rfl rfl rfl) ?_
 refine U.e1 rfl (.none rfl) (by exact Eff1.box rfl rfl rfl rfl rfl) ?_
 refine U.ps 1 T rfl ?_
 refine U.e1 rfl (.none rfl) (by exact Eff1.al T rfl rfl rfl rfl) ?_
 refine U.ps 1 T rfl ?_
 refine U.done (C.nx (C.seq (C.seq (U.start ?_))))
 refine U.ps 1 T rfl ?_
 refine U.done (C.nx ?_)
 refine C.jn (fun (x5 : Unit) => [(9, .p 0 0)]) (fun (x5 : Unit) => [(0, .box [.i 0, .i 0])]) 1 hm (fun x5 hm => ?_) (fun J6 hm hJ6 => ?_)
 refine C.nx (C.seq (U.start ?_))
 refine U.ps 2 T rfl ?_
 refine U.e1 rfl (.none rfl) (by exact Eff1.st T rfl rfl rfl rfl rfl rfl rfl rfl rfl rfl) ?_
 refine U.ps 1 T rfl ?_
 refine U.done (C.nx (C.ret ?_))
 exact C.f0 T (rs' := [.i ((0, ({ cell := 0, rest := 0 : RouteStand }), false).1), .agg [.i (((0, ({ cell := 0, rest := 0 : RouteStand }), false).2.1).cell), .i (((0, ({ cell := 0, rest := 0 : RouteStand }), false).2.1).rest)], .b ((0, ({ cell := 0, rest := 0 : RouteStand }), false).2.2)]) hβ ⟨(0, ({ cell := 0, rest := 0 : RouteStand }), false), hm, rfl, rfl, rfl⟩
 refine C.block ?_
 refine St.wk (C.loop (fun (s7 : Int) => [(2, .i k), (3, .rm kRouteStand veB into), (4, .p 0 0), (5, .p 1 0), (9, .p 2 0), (14, .i s7)]) (fun (s7 : Int) => [(0, .box [.i w.site.Floor.W, .i w.site.Floor.H, .i w.site.Floor.D, .sl 1 eI w.site.Floor.Kind, .sl 1 eI w.site.Floor.Out, .sl 5 eApiZone w.site.Zones, .sl 2 eApiApart w.site.Aparts, .sl 2 eApiShelf w.site.Shelves, .sl 2 eApiStart w.site.Robots, .i w.tick, .sl 1 eI w.avoid, .rm kI veLeApiSpan w.taken]), (1, .box [.i at_1.cell, .i at_1.rest]), (2, .box [.i 0, .i 0])]) hm (fun s7 Y8 hm => ?_)) (Wk.f [some 0, some 1, some 2] ⟨bX, bX, bX, trivial⟩)
 refine C.seq (U.start ?_)
 refine U.ps 1 T rfl ?_
 refine U.done (C.nx (C.seq ?_))
 refine C.ite rfl hm (fun hb11 hm => ?_) (fun hb11 hm => ?_)
 refine C.skip (C.nx (C.seq (C.block (C.seq (U.start ?_)))))
 refine U.ps 2 T rfl ?_
 refine U.done (C.nx (C.seq (U.start ?_)))
 refine U.ps 4 T rfl ?_
 refine U.e rfl (.none rfl) (by exact Eff.k (T_route_walk_step w at_1 k s7 _ hm) en29 rfl rfl rfl (.eq rfl) (fun _ _ => ⟨(.tup (.cons (.agg (.cons (.v _) (.cons (.v _) .nil))) (.cons (.v _) .nil))), trivial⟩)) (fun x16' hm => ?_)
 obtain ⟨x16⟩ := x16'
 refine U.ps 3 T rfl ?_
 refine U.e1 rfl (.none rfl) (by exact Eff1.al T rfl rfl rfl rfl) ?_
 refine U.e1 rfl (.none rfl) (by exact Eff1.st T rfl rfl rfl rfl rfl rfl rfl rfl rfl rfl) ?_
 refine U.ps 1 T rfl ?_
 refine U.done (C.nx (C.seq ?_))
 refine C.jn (fun (x17 : Bool) => [(2, .i k), (3, .rm kRouteStand veB into), (4, .p 0 0), (5, .p 1 0), (9, .p 2 0), (11, .i s7), (12, .p 3 0), (14, .i s7), (31, .b x17)]) (fun (x17 : Bool) => [(0, .box [.i w.site.Floor.W, .i w.site.Floor.H, .i w.site.Floor.D, .sl 1 eI w.site.Floor.Kind, .sl 1 eI w.site.Floor.Out, .sl 5 eApiZone w.site.Zones, .sl 2 eApiApart w.site.Aparts, .sl 2 eApiShelf w.site.Shelves, .sl 2 eApiStart w.site.Robots, .i w.tick, .sl 1 eI w.avoid, .rm kI veLeApiSpan w.taken]), (1, .box [.i at_1.cell, .i at_1.rest]), (2, .box [.i 0, .i 0]), (3, .box [.i x16.1.cell, .i x16.1.rest])]) 4 hm (fun x17 hm => ?_) (fun J18 hm hJ18 => ?_)
 refine C.nx ?_
 refine C.ite rfl hm (fun hb20 hm => ?_) (fun hb20 hm => ?_)
 refine C.seq ?_
 refine D.beg 9999 [3] [2] mix rfl rfl (by kernel_rfl) (by repeat (first | exact NoPanicQ.body | exact NoPanicQ.rnd | refine NoPanicQ.th ?_ | refine NoPanicQ.blk ?_)) (fun hQ hS ws M' => ?_)
 refine D.ps 3 [(0, []), (1, []), (2, [])] rfl hQ hS T rfl rfl (by kernel_rfl) ?_
 refine D.e1 3 rfl (.none rfl) (by exact Eff1.st T rfl rfl rfl rfl rfl rfl rfl rfl rfl rfl) (by kernel_rfl) rfl rfl ?_
 refine D.ps 1 [(4, [])] rfl hQ hS T rfl rfl (by kernel_rfl) ?_
 refine D.done (by kernel_rfl) ?_
 refine C.nx (C.ret (C.brt (C.rt (C.rt (C.brt (C.rt ?_))))))
 exact C.f0 T (rs' := [.i ((s7, x16.1, true).1), .agg [.i (((s7, x16.1, true).2.1).cell), .i (((s7, x16.1, true).2.1).rest)], .b ((s7, x16.1, true).2.2)]) hβ ⟨(s7, x16.1, true), hm, rfl, rfl, rfl⟩
 refine C.skip (C.bnx (C.nx (U.start ?_)))
 refine U.ps 2 T rfl ?_
 refine U.done (C.nx ?_)
 exact St.wk (C.next hm) (Wk.f [some 0, some 1, some 2] ⟨bX, bX, bX, trivial⟩)
 refine U.start ?_
 refine U.ps 3 T rfl ?_
 refine hm.cs (fun hb19 hm => ?_) (fun hb19 hm => ?_)
 refine U.pg 2 2 true 27 hb19 T rfl rfl rfl rfl ?_
 refine U.r rfl (.take 2 true 27 _ hb19 rfl rfl rfl) rfl rfl (by exact Rd.lk T (ke := kRouteStand) (ve := veB) (xs := into) (z0 := false) (x := x16.1) rfl rfl kt70 zt4 (fun _ => rfl) rfl .rm rfl rfl rfl) ?_
 refine U.r rfl (.none rfl) rfl rfl (by exact Rd.pk rfl rfl hb19 rfl) ?_
 refine U.done ?_
 exact St.wk (hJ18 _ hm) (Wk.f [some 0, some 1, some 2, some 3] ⟨bX, bX, bX, bX, trivial⟩)
 refine U.sks 3 2 true 27 hb19 rfl rfl rfl ?_
 refine U.r rfl (.none rfl) rfl rfl (by exact Rd.pk' rfl rfl hb19 rfl) ?_
 refine U.done ?_
 exact St.wk (hJ18 _ hm) (Wk.f [some 0, some 1, some 2, some 3] ⟨bX, bX, bX, bX, trivial⟩)
 refine C.exit (C.ex (C.ex (C.bex ?_)))
 exact St.wk (hJ6 _ hm) (Wk.f [some 2] ⟨bX, trivial⟩)
theorem T_route_Find (s_1 : ApiSite) (from_1 : Int) (to_1 : Int) (tick : Int) (taken : List ApiTaken) (avoid : List Int) (most : Int) (post : (List Int × Int) → Prop) (hm : V_route_Find s_1 from_1 to_1 tick taken avoid most post) :
    Tr Tryz.prog 6 [.agg (eApiSite s_1), .i from_1, .i to_1, .i tick, .sl 3 eApiTaken taken, .sl 1 eI avoid, .i most] [] 0 (fun A H' k => ∃ y, post y ∧ A = (.tup [.o 0, .i y.2]) ∧ H' = [(0, .val (.os 1 eI y.1))] ∧ k = 1) := by
 refine Tr.intro (n := 141) Tryz.func6 rfl Tryz.ntmps6 rfl (fun w0 ok F β hβ => ?_)
 unfold V_route_Find at hm
 refine C.seq (U.start ?_)
 refine U.e1 rfl (.none rfl) (by exact Eff1.box rfl rfl rfl rfl rfl) ?_
 refine U.ps 2 T rfl ?_
 refine U.done (C.nx (C.seq (C.seq ?_)))
 refine C.jn (fun (x3 : Bool) => [(1, .i from_1), (2, .i to_1), (3, .i tick), (4, .sl 3 eApiTaken taken), (5, .sl 1 eI avoid), (6, .i most), (7, .p 0 0), (41, .b x3)]) (fun (x3 : Bool) => [(0, .box (eApiSite s_1))]) 1 hm (fun x3 hm => ?_) (fun J4 hm hJ4 => ?_)
 refine C.nx ?_
 refine C.ite rfl hm (fun hb7 hm => ?_) (fun hb7 hm => ?_)
 refine C.seq (U.start ?_)
 refine U.ps 2 T rfl ?_
 refine U.done (C.nx (C.ret (C.rt ?_)))
 exact C.fin T (rs' := [.o 0, .i (([], 1).2)]) (H' := [(0, .val (.os 1 eI (([], 1).1)))]) (nl' := 1) [none] rfl rfl (.cons (.nilO _ _ ⟨rfl, rfl⟩ rfl) (.eq rfl)) ⟨⟨_, rfl, .nil _ _⟩, trivial⟩ rfl rfl rfl rfl hβ ⟨([], 1), hm, rfl, rfl, rfl⟩
 refine C.skip (C.nx (C.seq (C.seq (U.start ?_))))
 refine U.ps 2 T rfl ?_
 refine U.done (C.nx ?_)
 refine C.ite rfl hm (fun hb12 hm => ?_) (fun hb12 hm => ?_)
 refine C.seq (U.start ?_)
 refine U.ps 2 T rfl ?_
 refine U.done (C.nx (C.ret (C.rt ?_)))
 exact C.fin T (rs' := [.o 0, .i (([], 27).2)]) (H' := [(0, .val (.os 1 eI (([], 27).1)))]) (nl' := 1) [none] rfl rfl (.cons (.nilO _ _ ⟨rfl, rfl⟩ rfl) (.eq rfl)) ⟨⟨_, rfl, .nil _ _⟩, trivial⟩ rfl rfl rfl rfl hβ ⟨([], 27), hm, rfl, rfl, rfl⟩
 refine C.skip (C.nx (C.seq (U.start ?_)))
 refine U.ps 4 T rfl ?_
 refine U.e rfl (.none rfl) (by exact Eff.c [] (v := false) (T_route_newWalk s_1 tick taken avoid _ hm) en15 rfl rfl rfl (.eq rfl) trivial rfl rfl rfl rfl rfl rfl (fun h => by cases h) (.inr ⟨rfl, rfl⟩) (fun _ => rfl) (fun _ => rfl) rfl) (fun x17' hm => ?_)
 obtain ⟨x17⟩ := x17'
 refine U.e1 rfl (.none rfl) (by exact Eff1.al T rfl rfl rfl rfl) ?_
 refine U.e1 rfl (.none rfl) (by exact Eff1.st T rfl rfl rfl rfl rfl rfl rfl rfl rfl rfl) ?_
 refine U.done (C.nx (C.seq (U.start ?_)))
 refine U.ps 4 T rfl ?_
 refine U.e rfl (.none rfl) (by exact Eff.c [] (v := true) (T_route_walk_layers x17 from_1 to_1 most _ hm) en16 rfl rfl rfl (.cons (.agg (.cons (.eq rfl) (.cons (.eq rfl) (.cons (.eq rfl) (.cons (.eq rfl) (.cons (.eq rfl) (.cons (.eq rfl) (.cons (.eq rfl) (.cons (.eq rfl) (.cons (.eq rfl) (.cons (.eq rfl) (.cons (.eq rfl) (.cons (.fz rfl rfl rfl (.om fun _ => .os fun _ => .cons (.ro rfl) (.cons (.ro rfl) .nil))) .nil))))))))))))) (.eq rfl)) trivial rfl rfl rfl rfl rfl rfl (fun _ _ => ⟨(.tup (.cons (.o _) (.cons (.v _) .nil))), ⟨.val (.os _ _ _ fun _ => .cons (.om _ _ _ fun _ => (.v _)) .nil), trivial⟩⟩) (.inr ⟨rfl, rfl⟩) (fun _ => rfl) (fun _ => rfl) rfl) (fun x20' hm => ?_)
 obtain ⟨x20⟩ := x20'
 refine U.ps 5 T rfl ?_
 refine U.done (C.nx (C.seq (C.seq (U.start ?_))))
 refine U.ps 2 T rfl ?_
 refine U.done (C.nx ?_)
 refine C.ite rfl hm (fun hb23 hm => ?_) (fun hb23 hm => ?_)
 refine C.seq (U.start ?_)
 refine U.ps 2 T rfl ?_
 refine U.done (C.nx (C.ret (C.rt ?_)))
 exact C.fin T (rs' := [.o 0, .i (([], 14).2)]) (H' := [(0, .val (.os 1 eI (([], 14).1)))]) (nl' := 1) [none] rfl rfl (.cons (.nilO _ _ ⟨rfl, rfl⟩ rfl) (.eq rfl)) ⟨⟨_, rfl, .nil _ _⟩, trivial⟩ rfl rfl rfl rfl hβ ⟨([], 14), hm, rfl, rfl, rfl⟩
 refine C.skip (C.nx (C.seq (U.start ?_)))
 refine U.ps 4 T rfl ?_
 refine U.done (C.nx (C.seq (C.seq (U.start ?_))))
 refine U.ps 2 T rfl ?_
 obtain ⟨x30, hx30, hm⟩ := hm
 refine U.r rfl (.none rfl) rfl rfl (by exact Rd.io T rfl rfl rfl rfl rfl rfl rfl hx30) ?_
 refine St.lend (l := 3) (i := (Int.toNat (w64 ((x20.1.length : Int) - 1)))) rfl (idx_some hx30).2.2 rfl (fun _ => rfl) ?_
 refine U.r rfl (.none rfl) rfl rfl (by exact Rd.ll T rfl rfl rfl (.head _) rfl rfl rfl rfl) ?_
 refine U.e1 rfl (.none rfl) (by exact Eff1.rg T rfl rfl rfl rfl rfl rfl) ?_
 refine U.done (C.nx ?_)
 refine C.jn (fun (x31 : List (RouteStand × Bool)) => [(1, .i from_1), (16, .p 0 0), (17, .o 2), (19, .i (w64 ((x20.1.length : Int) - 1)))]) (fun (x31 : List (RouteStand × Bool)) => [(0, .box [.i x17.site.Floor.W, .i x17.site.Floor.H, .i x17.site.Floor.D, .sl 1 eI x17.site.Floor.Kind, .sl 1 eI x17.site.Floor.Out, .sl 5 eApiZone x17.site.Zones, .sl 2 eApiApart x17.site.Aparts, .sl 2 eApiShelf x17.site.Shelves, .sl 2 eApiStart x17.site.Robots, .i x17.tick, .sl 1 eI x17.avoid, .o 1]), (1, .val (.om kI veOeApiSpan x17.taken)), (2, .lent eOMkRouteStandveB x20.1 [((Int.toNat (w64 ((x20.1.length : Int) - 1))), 3)]), (3, .val (.om kRouteStand veB x31))]) 4 hm (fun x31 hm => ?_) (fun J32 hm hJ32 => ?_)
 refine C.nx (C.seq (C.seq (U.start ?_)))
 refine U.ps 3 T rfl ?_
 refine U.done ?_
 refine St.putb (l := 2) (l' := 3) (y := x31) rfl rfl rfl (fun _ h => nomatch h) rfl _ rfl ?_
 refine C.nx ?_
 refine C.jn (fun (x49 : List (List (RouteStand × Bool))) => [(1, .i from_1), (16, .p 0 0), (17, .o 2), (19, .i (w64 ((x20.1.length : Int) - 1)))]) (fun (x49 : List (List (RouteStand × Bool))) => [(0, .box [.i x17.site.Floor.W, .i x17.site.Floor.H, .i x17.site.Floor.D, .sl 1 eI x17.site.Floor.Kind, .sl 1 eI x17.site.Floor.Out, .sl 5 eApiZone x17.site.Zones, .sl 2 eApiApart x17.site.Aparts, .sl 2 eApiShelf x17.site.Shelves, .sl 2 eApiStart x17.site.Robots, .i x17.tick, .sl 1 eI x17.avoid, .o 1]), (1, .val (.om kI veOeApiSpan x17.taken)), (2, .val (.os 1 eOMkRouteStandveB x49))]) 3 hm (fun x49 hm => ?_) (fun J50 hm hJ50 => ?_)
 refine C.nx (C.seq (U.start ?_))
 refine U.ps 1 T rfl ?_
 refine U.done (C.nx (C.seq (U.start ?_)))
 refine U.ps 2 T rfl ?_
 refine U.e1 rfl (.none rfl) (by exact Eff1.al T rfl rfl rfl rfl) ?_
 refine U.e1 rfl (.none rfl) (by exact Eff1.st T rfl rfl rfl rfl rfl rfl rfl rfl rfl rfl) ?_
 refine U.done (C.nx (C.seq (C.seq (U.start ?_))))
 refine U.ps 2 T rfl ?_
 refine U.done (C.nx ?_)
 refine C.jn (fun (x90 : List Int) => [(26, .o 0)]) (fun (x90 : List Int) => [(0, .val (.os 1 eI x90))]) 1 hm (fun x90 hm => ?_) (fun J91 hm hJ91 => ?_)
 refine C.nx (C.seq (U.start ?_))
 refine U.ps 3 T rfl ?_
 refine U.done (C.nx (C.ret ?_))
 exact C.fin T (rs' := [.o 0, .i ((x90, 0).2)]) (H' := [(0, .val (.os 1 eI ((x90, 0).1)))]) (nl' := 1) [some 0] rfl rfl (.eq rfl) ⟨vL, trivial⟩ rfl rfl rfl rfl hβ ⟨(x90, 0), hm, rfl, rfl, rfl⟩
 refine C.block ?_
 refine St.wk (C.loop (fun (s92 : List (List (RouteStand × Bool)) × List Int × Int × Int × Int) => [(16, .p 0 0), (17, .o 2), (26, .o 3), (27, .p 4 0), (117, .i (w64 ((x20.1.length : Int) - 1))), (118, .i s92.2.2.2.2)]) (fun (s92 : List (List (RouteStand × Bool)) × List Int × Int × Int × Int) => [(0, .box [.i x17.site.Floor.W, .i x17.site.Floor.H, .i x17.site.Floor.D, .sl 1 eI x17.site.Floor.Kind, .sl 1 eI x17.site.Floor.Out, .sl 5 eApiZone x17.site.Zones, .sl 2 eApiApart x17.site.Aparts, .sl 2 eApiShelf x17.site.Shelves, .sl 2 eApiStart x17.site.Robots, .i x17.tick, .sl 1 eI x17.avoid, .o 1]), (1, .val (.om kI veOeApiSpan x17.taken)), (2, .val (.os 1 eOMkRouteStandveB s92.1)), (3, .val (.os 1 eI s92.2.1)), (4, .box [.i s92.2.2.1, .i s92.2.2.2.1])]) hm (fun s92 Y93 hm => ?_)) (Wk.mk' [some 0, some 1, some 2, none, some 3] rfl rfl ⟨⟨_, rfl, (.eq rfl)⟩, ⟨_, rfl, (.eq rfl)⟩, ⟨_, rfl, (.nilO _ _ ⟨rfl, rfl⟩ rfl)⟩, ChkG.eqs rfl⟩ ⟨bX, vL, vL, ⟨_, rfl, .nil _ _⟩, bX, trivial⟩ rfl)
 refine C.seq (U.start ?_)
 refine U.ps 1 T rfl ?_
 refine U.done (C.nx (C.seq ?_))
 refine C.ite rfl hm (fun hb96 hm => ?_) (fun hb96 hm => ?_)
 refine C.skip (C.nx (C.seq (C.block (C.seq (U.start ?_)))))
 refine U.ps 2 T rfl ?_
 refine U.done (C.nx (C.seq ?_))
 refine C.jn (fun (x99 : List (List (RouteStand × Bool)) × Int × Int × Int) => [(16, .p 0 0), (17, .o 2), (26, .o 3), (27, .p 4 0), (29, .i x99.2.1), (30, .p 5 0), (117, .i (w64 ((x20.1.length : Int) - 1))), (118, .i s92.2.2.2.2)]) (fun (x99 : List (List (RouteStand × Bool)) × Int × Int × Int) => [(0, .box [.i x17.site.Floor.W, .i x17.site.Floor.H, .i x17.site.Floor.D, .sl 1 eI x17.site.Floor.Kind, .sl 1 eI x17.site.Floor.Out, .sl 5 eApiZone x17.site.Zones, .sl 2 eApiApart x17.site.Aparts, .sl 2 eApiShelf x17.site.Shelves, .sl 2 eApiStart x17.site.Robots, .i x17.tick, .sl 1 eI x17.avoid, .o 1]), (1, .val (.om kI veOeApiSpan x17.taken)), (2, .val (.os 1 eOMkRouteStandveB x99.1)), (3, .val (.os 1 eI s92.2.1)), (4, .box [.i s92.2.2.1, .i s92.2.2.2.1]), (5, .box [.i x99.2.2.1, .i x99.2.2.2])]) 6 hm (fun x99 hm => ?_) (fun J100 hm hJ100 => ?_)
 refine C.nx ?_
 refine D.beg 6 [5] [3] mix rfl rfl (by kernel_rfl) (by repeat (first | exact NoPanicQ.body | exact NoPanicQ.rnd | refine NoPanicQ.th ?_ | refine NoPanicQ.blk ?_)) (fun hQ hS ws M' => ?_)
 refine D.ps 3 [(0, []), (1, []), (4, [])] rfl hQ hS T rfl rfl (by kernel_rfl) ?_
 refine D.e1 2 rfl (.none rfl) (by exact Eff1.bs T (enc := eI) (xs := ([x99.2.1] : List Int)) rfl rfl rfl rfl rfl rfl rfl rfl rfl rfl (fun _ _ => rfl) rfl rfl) (by kernel_rfl) rfl rfl ?_
 obtain ⟨hx105, hm⟩ := hm
 refine D.e1 3 rfl (.none rfl) (by exact Eff1.ap T rfl rfl rfl rfl rfl rfl (.inr ⟨_, rfl, rfl⟩) rfl rfl rfl (fun _ => rfl) rfl hx105) (by kernel_rfl) rfl rfl ?_
 refine D.ps 1 [(5, [])] rfl hQ hS T rfl rfl (by kernel_rfl) ?_
 refine D.ze1 rfl (.none rfl) (by exact Eff1.st T rfl rfl rfl rfl rfl rfl rfl rfl rfl rfl) (by kernel_rfl) (by kernel_rfl) ?_
 refine C.bnx (C.nx (U.start ?_))
 refine U.ps 2 T rfl ?_
 refine U.done (C.nx ?_)
 exact St.wk (C.next hm) (Wk.f [some 0, some 1, some 2, some 7, some 4] ⟨bX, vL, vL, vL, bX, trivial⟩)
 obtain ⟨x101, hx101, hm⟩ := hm
 refine St.lend (l := 2) (i := (Int.toNat (w64 (s92.2.2.2.2 + 1)))) rfl (idx_some hx101).2.2 rfl (fun _ => rfl) ?_
 refine D.beg 9999 [0, 2, 4] [6] mix rfl rfl (by kernel_rfl) (by repeat (first | exact NoPanicQ.body | exact NoPanicQ.rnd | refine NoPanicQ.th ?_ | refine NoPanicQ.blk ?_)) (fun hQ hS ws M' => ?_)
 refine D.ps 6 [(0, []), (1, []), (2, []), (3, []), (4, []), (5, [])] rfl hQ hS T rfl rfl (by kernel_rfl) ?_
 refine D.q 6 [] hQ hS rfl (.none rfl) rfl rfl (by exact Rd.il T rfl rfl rfl rfl rfl rfl rfl hx101) rfl (by kernel_rfl) ?_
 refine D.q 7 [] hQ hS rfl (.none rfl) rfl rfl (by exact Rd.ll T rfl rfl rfl (.head _) rfl rfl rfl rfl) rfl (by kernel_rfl) ?_
 refine D.two 8 13 (by kernel_rfl) ?_ ?_
 refine D.ef rfl (.none rfl) (by exact Eff.k (T_route_walk_on x17 ({ cell := s92.2.2.1, rest := s92.2.2.2.1 : RouteStand }) s92.2.2.2.2 x101 _ hm) en17 rfl rfl rfl (.cons (.agg (.cons (.eq rfl) (.cons (.eq rfl) (.cons (.eq rfl) (.cons (.eq rfl) (.cons (.eq rfl) (.cons (.eq rfl) (.cons (.eq rfl) (.cons (.eq rfl) (.cons (.eq rfl) (.cons (.eq rfl) (.cons (.eq rfl) (.cons (.fz rfl rfl rfl (.om fun _ => .os fun _ => .cons (.ro rfl) (.cons (.ro rfl) .nil))) .nil))))))))))))) (.cons (.eq rfl) (.cons (.eq rfl) (.cons (.fz rfl rfl rfl (.om fun _ => .ro rfl)) .nil)))) (fun _ _ => ⟨(.tup (.cons (.v _) (.cons (.agg (.cons (.v _) (.cons (.v _) .nil))) (.cons (.v _) .nil)))), trivial⟩)) rfl rfl (fun x102' hm => ?_)
 obtain ⟨x102⟩ := x102'
 refine D.ps 4 [(9, []), (10, []), (11, []), (12, [])] rfl hQ hS T rfl rfl (by kernel_rfl) ?_
 refine D.e1 13 rfl (.none rfl) (by exact Eff1.al T rfl rfl rfl rfl) (by kernel_rfl) rfl rfl ?_
 refine D.ps 1 [(14, [])] rfl hQ hS T rfl rfl (by kernel_rfl) ?_
 refine D.e1 15 rfl (.none rfl) (by exact Eff1.st T rfl rfl rfl rfl rfl rfl rfl rfl rfl rfl) (by kernel_rfl) rfl rfl ?_
 refine D.ps 1 [(16, [])] rfl hQ hS T rfl rfl (by kernel_rfl) ?_
 refine D.done (by kernel_rfl) ?_
 refine St.putb (l := 2) (l' := 5) (y := x101) rfl rfl rfl (fun _ h => nomatch h) rfl _ rfl ?_
 exact St.wk (hJ100 _ hm) (Wk.f [some 0, some 1, some 2, some 3, some 4, some 6] ⟨bX, vL, vL, vL, bX, bX, trivial⟩)
 refine D.ef1 rfl (.none rfl) (by exact Eff1.al T rfl rfl rfl rfl) rfl rfl ?_
 refine D.e 8 rfl (.none rfl) (by exact Eff.k (T_route_walk_on x17 ({ cell := s92.2.2.1, rest := s92.2.2.2.1 : RouteStand }) s92.2.2.2.2 x101 _ hm) en17 rfl rfl rfl (.cons (.agg (.cons (.eq rfl) (.cons (.eq rfl) (.cons (.eq rfl) (.cons (.eq rfl) (.cons (.eq rfl) (.cons (.eq rfl) (.cons (.eq rfl) (.cons (.eq rfl) (.cons (.eq rfl) (.cons (.eq rfl) (.cons (.eq rfl) (.cons (.fz rfl rfl rfl (.om fun _ => .os fun _ => .cons (.ro rfl) (.cons (.ro rfl) .nil))) .nil))))))))))))) (.cons (.eq rfl) (.cons (.eq rfl) (.cons (.fz rfl rfl rfl (.om fun _ => .ro rfl)) .nil)))) (fun _ _ => ⟨(.tup (.cons (.v _) (.cons (.agg (.cons (.v _) (.cons (.v _) .nil))) (.cons (.v _) .nil)))), trivial⟩)) (by kernel_rfl) rfl rfl (fun x102' hm => ?_)
 obtain ⟨x102⟩ := x102'
 refine D.ps 5 [(9, []), (10, []), (11, []), (12, []), (14, [])] rfl hQ hS T rfl rfl (by kernel_rfl) ?_
 refine D.e1 15 rfl (.none rfl) (by exact Eff1.st T rfl rfl rfl rfl rfl rfl rfl rfl rfl rfl) (by kernel_rfl) rfl rfl ?_
 refine D.ps 1 [(16, [])] rfl hQ hS T rfl rfl (by kernel_rfl) ?_
 refine D.done (by kernel_rfl) ?_
 refine St.putb (l := 2) (l' := 5) (y := x101) rfl rfl rfl (fun _ h => nomatch h) rfl _ rfl ?_
 exact St.wk (hJ100 _ hm) (Wk.f [some 0, some 1, some 2, some 3, some 4, some 6] ⟨bX, vL, vL, vL, bX, bX, trivial⟩)
 refine C.exit (C.ex (C.ex (C.bex ?_)))
 exact St.wk (hJ91 _ hm) (Wk.f [some 3] ⟨vL, trivial⟩)
 refine C.block ?_
 refine St.wk (C.loop (fun (s51 : List (List (RouteStand × Bool)) × Int) => [(1, .i from_1), (16, .p 0 0), (17, .o 2), (19, .i (w64 ((x20.1.length : Int) - 1))), (21, .i s51.2)]) (fun (s51 : List (List (RouteStand × Bool)) × Int) => [(0, .box [.i x17.site.Floor.W, .i x17.site.Floor.H, .i x17.site.Floor.D, .sl 1 eI x17.site.Floor.Kind, .sl 1 eI x17.site.Floor.Out, .sl 5 eApiZone x17.site.Zones, .sl 2 eApiApart x17.site.Aparts, .sl 2 eApiShelf x17.site.Shelves, .sl 2 eApiStart x17.site.Robots, .i x17.tick, .sl 1 eI x17.avoid, .o 1]), (1, .val (.om kI veOeApiSpan x17.taken)), (2, .val (.os 1 eOMkRouteStandveB s51.1))]) hm (fun s51 Y52 hm => ?_)) (Wk.f [some 0, some 1, some 2] ⟨bX, vL, vL, trivial⟩)
 refine C.seq (C.seq (U.start ?_))
 refine U.ps 2 T rfl ?_
 refine U.done (C.nx ?_)
 refine C.ite rfl hm (fun hb55 hm => ?_) (fun hb55 hm => ?_)
 refine C.skip (C.nx (C.seq ?_))
 refine C.jn (fun (x56 : List (RouteStand × Bool) × List (List (RouteStand × Bool))) => [(1, .i from_1), (16, .p 0 0), (17, .o 2), (19, .i (w64 ((x20.1.length : Int) - 1))), (21, .i s51.2)]) (fun (x56 : List (RouteStand × Bool) × List (List (RouteStand × Bool))) => [(0, .box [.i x17.site.Floor.W, .i x17.site.Floor.H, .i x17.site.Floor.D, .sl 1 eI x17.site.Floor.Kind, .sl 1 eI x17.site.Floor.Out, .sl 5 eApiZone x17.site.Zones, .sl 2 eApiApart x17.site.Aparts, .sl 2 eApiShelf x17.site.Shelves, .sl 2 eApiStart x17.site.Robots, .i x17.tick, .sl 1 eI x17.avoid, .o 1]), (1, .val (.om kI veOeApiSpan x17.taken)), (2, .lent eOMkRouteStandveB x56.2 [((Int.toNat s51.2), 3)]), (3, .val (.om kRouteStand veB x56.1))]) 4 hm (fun x56 hm => ?_) (fun J57 hm hJ57 => ?_)
 refine C.nx (U.start ?_)
 refine U.ps 3 T rfl ?_
 refine U.done ?_
 refine St.putb (l := 2) (l' := 3) (y := x56.1) rfl rfl rfl (fun _ h => nomatch h) rfl _ rfl ?_
 refine C.nx ?_
 exact St.wk (C.next hm) (Wk.f [some 0, some 1, some 2] ⟨bX, vL, vL, trivial⟩)
 refine C.block (C.seq (U.start ?_))
 refine U.ps 2 T rfl ?_
 obtain ⟨x60, hx60, hm⟩ := hm
 refine U.r rfl (.none rfl) rfl rfl (by exact Rd.io T rfl rfl rfl rfl rfl rfl rfl hx60) ?_
 refine St.lend (l := 2) (i := (Int.toNat s51.2)) rfl (idx_some hx60).2.2 rfl (fun _ => rfl) ?_
 refine U.r rfl (.none rfl) rfl rfl (by exact Rd.ll T rfl rfl rfl (.head _) rfl rfl rfl rfl) ?_
 refine U.e1 rfl (.none rfl) (by exact Eff1.rg T rfl rfl rfl rfl rfl rfl) ?_
 refine U.done (C.nx ?_)
 refine C.jn (fun (x61 : List (RouteStand × Bool) × List (List (RouteStand × Bool))) => [(1, .i from_1), (16, .p 0 0), (17, .o 2), (19, .i (w64 ((x20.1.length : Int) - 1))), (21, .i s51.2)]) (fun (x61 : List (RouteStand × Bool) × List (List (RouteStand × Bool))) => [(0, .box [.i x17.site.Floor.W, .i x17.site.Floor.H, .i x17.site.Floor.D, .sl 1 eI x17.site.Floor.Kind, .sl 1 eI x17.site.Floor.Out, .sl 5 eApiZone x17.site.Zones, .sl 2 eApiApart x17.site.Aparts, .sl 2 eApiShelf x17.site.Shelves, .sl 2 eApiStart x17.site.Robots, .i x17.tick, .sl 1 eI x17.avoid, .o 1]), (1, .val (.om kI veOeApiSpan x17.taken)), (2, .lent eOMkRouteStandveB x61.2 [((Int.toNat s51.2), 3)]), (3, .val (.om kRouteStand veB x61.1))]) 4 hm (fun x61 hm => ?_) (fun J62 hm hJ62 => ?_)
 refine C.bnx ?_
 exact St.wk (hJ57 _ hm) (Wk.f [some 0, some 1, some 2, some 3] ⟨bX, vL, ⟨_, rfl, .lent rfl rfl⟩, vL, trivial⟩)
 refine C.block ?_
 refine St.wk (C.loop (fun (s63 : List (RouteStand × Bool) × List RouteStand × List (List (RouteStand × Bool))) => [(1, .i from_1), (16, .p 0 0), (17, .o 2), (19, .i (w64 ((x20.1.length : Int) - 1))), (21, .i s51.2), (90, .o 4)]) (fun (s63 : List (RouteStand × Bool) × List RouteStand × List (List (RouteStand × Bool))) => [(0, .box [.i x17.site.Floor.W, .i x17.site.Floor.H, .i x17.site.Floor.D, .sl 1 eI x17.site.Floor.Kind, .sl 1 eI x17.site.Floor.Out, .sl 5 eApiZone x17.site.Zones, .sl 2 eApiApart x17.site.Aparts, .sl 2 eApiShelf x17.site.Shelves, .sl 2 eApiStart x17.site.Robots, .i x17.tick, .sl 1 eI x17.avoid, .o 1]), (1, .val (.om kI veOeApiSpan x17.taken)), (2, .lent eOMkRouteStandveB s63.2.2 [((Int.toNat s51.2), 3)]), (3, .rng kRouteStand veB s63.1 s63.2.1 4)]) hm (fun s63 Y64 hm => ?_)) (Wk.f [some 0, some 1, some 2, some 3, some 4] ⟨bX, vL, ⟨_, rfl, .lent rfl rfl⟩, ⟨_, rfl, .rng rfl rfl⟩, trivial⟩)
 refine C.seq (U.start ?_)
 refine U.e rfl (.none rfl) (by exact Eff.nx (ke := kRouteStand) (ve := veB) (l := 3) rfl rfl rfl (fun _ => rfl) rfl rfl) (fun y' h' => ?_)
 obtain ⟨_ | ⟨x65, x66⟩⟩ := y'
 replace hm := hm.2 h'
 refine U.ps 1 T rfl ?_
 refine U.done (C.nx (C.seq ?_))
 refine C.condF rfl rfl ?_
 refine C.exit (C.ex (C.ex (C.bex ?_)))
 exact St.wk (hJ62 _ hm) (Wk.f [some 0, some 1, some 2, some 3] ⟨bX, vL, ⟨_, rfl, .lent rfl rfl⟩, ⟨_, rfl, .endR rfl⟩, trivial⟩)
 have hx65 := h'
 replace hm := hm.1 x65 x66 h'
 refine U.ps 1 T rfl ?_
 refine U.done (C.nx (C.seq ?_))
 refine C.condT rfl rfl ?_
 refine C.skip (C.nx (C.block (C.seq (U.start ?_))))
 refine U.r rfl (.none rfl) rfl rfl (by exact Rd.en (ke := kRouteStand) (ve := veB) rfl (fun _ => rfl) rfl (l := 3) rfl rfl hx65.1) ?_
 refine U.ps 1 T rfl ?_
 refine U.e1 rfl (.none rfl) (by exact Eff1.al T rfl rfl rfl rfl) ?_
 refine U.e1 rfl (.none rfl) (by exact Eff1.st T rfl rfl rfl rfl rfl rfl rfl rfl rfl rfl) ?_
 refine U.done (C.nx (C.seq ?_))
 refine C.jn (fun (x69 : List (List (RouteStand × Bool)) × Bool) => [(1, .i from_1), (16, .p 0 0), (17, .o 2), (19, .i (w64 ((x20.1.length : Int) - 1))), (21, .i s51.2), (22, .p 5 0), (25, .b x69.2), (90, .o 4)]) (fun (x69 : List (List (RouteStand × Bool)) × Bool) => [(0, .box [.i x17.site.Floor.W, .i x17.site.Floor.H, .i x17.site.Floor.D, .sl 1 eI x17.site.Floor.Kind, .sl 1 eI x17.site.Floor.Out, .sl 5 eApiZone x17.site.Zones, .sl 2 eApiApart x17.site.Aparts, .sl 2 eApiShelf x17.site.Shelves, .sl 2 eApiStart x17.site.Robots, .i x17.tick, .sl 1 eI x17.avoid, .o 1]), (1, .val (.om kI veOeApiSpan x17.taken)), (2, .lent eOMkRouteStandveB x69.1 [((Int.toNat s51.2), 3)]), (3, .rng kRouteStand veB s63.1 (x65 :: s63.2.1) 4), (5, .box [.i x65.cell, .i x65.rest])]) 6 hm (fun x69 hm => ?_) (fun J70 hm hJ70 => ?_)
 refine C.nx (C.seq (U.start ?_))
 refine U.ps 2 T rfl ?_
 refine U.done (C.nx ?_)
 refine C.jn (fun (x76 : List (RouteStand × Bool)) => [(1, .i from_1), (16, .p 0 0), (17, .o 2), (19, .i (w64 ((x20.1.length : Int) - 1))), (21, .i s51.2), (90, .o 4)]) (fun (x76 : List (RouteStand × Bool)) => [(0, .box [.i x17.site.Floor.W, .i x17.site.Floor.H, .i x17.site.Floor.D, .sl 1 eI x17.site.Floor.Kind, .sl 1 eI x17.site.Floor.Out, .sl 5 eApiZone x17.site.Zones, .sl 2 eApiApart x17.site.Aparts, .sl 2 eApiShelf x17.site.Shelves, .sl 2 eApiStart x17.site.Robots, .i x17.tick, .sl 1 eI x17.avoid, .o 1]), (1, .val (.om kI veOeApiSpan x17.taken)), (2, .lent eOMkRouteStandveB x69.1 [((Int.toNat s51.2), 3)]), (3, .rng kRouteStand veB x76 (x65 :: s63.2.1) 4)]) 5 hm (fun x76 hm => ?_) (fun J77 hm hJ77 => ?_)
 refine C.bnx (C.nx ?_)
 exact St.wk (C.next hm) (Wk.f [some 0, some 1, some 2, some 3, some 4] ⟨bX, vL, ⟨_, rfl, .lent rfl rfl⟩, ⟨_, rfl, .rng rfl rfl⟩, trivial⟩)
 refine C.ite rfl hm (fun hb78 hm => ?_) (fun hb78 hm => ?_)
 refine D.beg 5 [2, 5] [] mix rfl rfl (by kernel_rfl) (by repeat (first | exact NoPanicQ.body | exact NoPanicQ.rnd | refine NoPanicQ.th ?_ | refine NoPanicQ.blk ?_)) (fun hQ hS ws M' => ?_)
 refine D.ps 2 [(0, [3, 2]), (1, [3, 2])] rfl hQ hS T rfl rfl (by kernel_rfl) ?_
 obtain ⟨x81, hx81, hm⟩ := hm
 refine D.q 2 [3] hQ hS rfl (.none rfl) rfl rfl (by exact Rd.il T rfl rfl rfl rfl rfl rfl rfl hx81) rfl (by kernel_rfl) ?_
 refine D.q 3 [] hQ hS rfl (.none rfl) rfl rfl (by exact Rd.ll T rfl rfl rfl (.head _) rfl rfl rfl rfl) rfl (by kernel_rfl) ?_
 refine D.ps 1 [(4, [])] rfl hQ hS T rfl rfl (by kernel_rfl) ?_
 refine D.ze1 rfl (.none rfl) (by exact Eff1.dlr T (x := x65) rfl rfl kt70 rfl rfl rfl rfl rfl) (by kernel_rfl) (by kernel_rfl) ?_
 exact St.wk (hJ77 _ hm) (Wk.f [some 0, some 1, some 2, some 3, some 4] ⟨bX, vL, ⟨_, rfl, .lent rfl rfl⟩, ⟨_, rfl, .rng rfl rfl⟩, trivial⟩)
 refine C.skip ?_
 exact St.wk (hJ77 _ hm) (Wk.f [some 0, some 1, some 2, some 3, some 4] ⟨bX, vL, ⟨_, rfl, .lent rfl rfl⟩, ⟨_, rfl, .rng rfl rfl⟩, trivial⟩)
 obtain ⟨x71, hx71, hm⟩ := hm
 obtain ⟨hx72, hm⟩ := hm
 refine St.lend2 (l := 2) (i := (Int.toNat (w64 (s51.2 + 1)))) rfl (fun p hp => by simp only [List.mem_singleton] at hp; subst hp; exact hx72) (idx_some hx71).2.2 rfl ?_
 refine D.beg 9999 [0, 2, 5] [7] mix rfl rfl (by kernel_rfl) (by repeat (first | exact NoPanicQ.body | exact NoPanicQ.rnd | refine NoPanicQ.th ?_ | refine NoPanicQ.blk ?_)) (fun hQ hS ws M' => ?_)
 refine D.ps 6 [(0, []), (1, []), (2, []), (3, []), (4, []), (5, [])] rfl hQ hS T rfl rfl (by kernel_rfl) ?_
 refine D.q 6 [] hQ hS rfl (.none rfl) rfl rfl (by exact Rd.il T rfl rfl rfl rfl rfl rfl rfl hx71) rfl (by kernel_rfl) ?_
 refine D.q 7 [] hQ hS rfl (.none rfl) rfl rfl (by exact Rd.ll T rfl rfl rfl (.head _) rfl rfl rfl rfl) rfl (by kernel_rfl) ?_
 refine D.two 8 13 (by kernel_rfl) ?_ ?_
 refine D.ef rfl (.none rfl) (by exact Eff.k (T_route_walk_on x17 x65 s51.2 x71 _ hm) en17 rfl rfl rfl (.cons (.agg (.cons (.eq rfl) (.cons (.eq rfl) (.cons (.eq rfl) (.cons (.eq rfl) (.cons (.eq rfl) (.cons (.eq rfl) (.cons (.eq rfl) (.cons (.eq rfl) (.cons (.eq rfl) (.cons (.eq rfl) (.cons (.eq rfl) (.cons (.fz rfl rfl rfl (.om fun _ => .os fun _ => .cons (.ro rfl) (.cons (.ro rfl) .nil))) .nil))))))))))))) (.cons (.eq rfl) (.cons (.eq rfl) (.cons (.fz rfl rfl rfl (.om fun _ => .ro rfl)) .nil)))) (fun _ _ => ⟨(.tup (.cons (.v _) (.cons (.agg (.cons (.v _) (.cons (.v _) .nil))) (.cons (.v _) .nil)))), trivial⟩)) rfl rfl (fun x73' hm => ?_)
 obtain ⟨x73⟩ := x73'
 refine D.ps 4 [(9, []), (10, []), (11, []), (12, [])] rfl hQ hS T rfl rfl (by kernel_rfl) ?_
 refine D.e1 13 rfl (.none rfl) (by exact Eff1.al T rfl rfl rfl rfl) (by kernel_rfl) rfl rfl ?_
 refine D.ps 1 [(14, [])] rfl hQ hS T rfl rfl (by kernel_rfl) ?_
 refine D.e1 15 rfl (.none rfl) (by exact Eff1.st T rfl rfl rfl rfl rfl rfl rfl rfl rfl rfl) (by kernel_rfl) rfl rfl ?_
 refine D.ps 1 [(16, [])] rfl hQ hS T rfl rfl (by kernel_rfl) ?_
 refine D.done (by kernel_rfl) ?_
 refine St.putb (l := 2) (l' := 6) (y := x71) rfl rfl rfl (fun p hp => by simp only [List.mem_singleton] at hp; subst hp; exact hx72) rfl _ rfl ?_
 exact St.wk (hJ70 _ hm) (Wk.f [some 0, some 1, some 2, some 3, some 4, some 5] ⟨bX, vL, ⟨_, rfl, .lent rfl rfl⟩, ⟨_, rfl, .rng rfl rfl⟩, bX, trivial⟩)
 refine D.ef1 rfl (.none rfl) (by exact Eff1.al T rfl rfl rfl rfl) rfl rfl ?_
 refine D.e 8 rfl (.none rfl) (by exact Eff.k (T_route_walk_on x17 x65 s51.2 x71 _ hm) en17 rfl rfl rfl (.cons (.agg (.cons (.eq rfl) (.cons (.eq rfl) (.cons (.eq rfl) (.cons (.eq rfl) (.cons (.eq rfl) (.cons (.eq rfl) (.cons (.eq rfl) (.cons (.eq rfl) (.cons (.eq rfl) (.cons (.eq rfl) (.cons (.eq rfl) (.cons (.fz rfl rfl rfl (.om fun _ => .os fun _ => .cons (.ro rfl) (.cons (.ro rfl) .nil))) .nil))))))))))))) (.cons (.eq rfl) (.cons (.eq rfl) (.cons (.fz rfl rfl rfl (.om fun _ => .ro rfl)) .nil)))) (fun _ _ => ⟨(.tup (.cons (.v _) (.cons (.agg (.cons (.v _) (.cons (.v _) .nil))) (.cons (.v _) .nil)))), trivial⟩)) (by kernel_rfl) rfl rfl (fun x73' hm => ?_)
 obtain ⟨x73⟩ := x73'
 refine D.ps 5 [(9, []), (10, []), (11, []), (12, []), (14, [])] rfl hQ hS T rfl rfl (by kernel_rfl) ?_
 refine D.e1 15 rfl (.none rfl) (by exact Eff1.st T rfl rfl rfl rfl rfl rfl rfl rfl rfl rfl) (by kernel_rfl) rfl rfl ?_
 refine D.ps 1 [(16, [])] rfl hQ hS T rfl rfl (by kernel_rfl) ?_
 refine D.done (by kernel_rfl) ?_
 refine St.putb (l := 2) (l' := 6) (y := x71) rfl rfl rfl (fun p hp => by simp only [List.mem_singleton] at hp; subst hp; exact hx72) rfl _ rfl ?_
 exact St.wk (hJ70 _ hm) (Wk.f [some 0, some 1, some 2, some 3, some 4, some 5] ⟨bX, vL, ⟨_, rfl, .lent rfl rfl⟩, ⟨_, rfl, .rng rfl rfl⟩, bX, trivial⟩)
 refine C.exit (C.ex (C.ex (C.bex ?_)))
 exact St.wk (hJ50 _ hm) (Wk.f [some 0, some 1, some 2] ⟨bX, vL, vL, trivial⟩)
 refine C.block ?_
 refine St.wk (C.loop (fun (s33 : List (RouteStand × Bool) × List RouteStand) => [(1, .i from_1), (2, .i to_1), (16, .p 0 0), (17, .o 2), (19, .i (w64 ((x20.1.length : Int) - 1))), (66, .o 4)]) (fun (s33 : List (RouteStand × Bool) × List RouteStand) => [(0, .box [.i x17.site.Floor.W, .i x17.site.Floor.H, .i x17.site.Floor.D, .sl 1 eI x17.site.Floor.Kind, .sl 1 eI x17.site.Floor.Out, .sl 5 eApiZone x17.site.Zones, .sl 2 eApiApart x17.site.Aparts, .sl 2 eApiShelf x17.site.Shelves, .sl 2 eApiStart x17.site.Robots, .i x17.tick, .sl 1 eI x17.avoid, .o 1]), (1, .val (.om kI veOeApiSpan x17.taken)), (2, .lent eOMkRouteStandveB x20.1 [((Int.toNat (w64 ((x20.1.length : Int) - 1))), 3)]), (3, .rng kRouteStand veB s33.1 s33.2 4)]) hm (fun s33 Y34 hm => ?_)) (Wk.f [some 2, some 1, some 3, some 4, some 5] ⟨bX, vL, ⟨_, rfl, .lent rfl rfl⟩, ⟨_, rfl, .rng rfl rfl⟩, trivial⟩)
 refine C.seq (U.start ?_)
 refine U.e rfl (.none rfl) (by exact Eff.nx (ke := kRouteStand) (ve := veB) (l := 3) rfl rfl rfl (fun _ => rfl) rfl rfl) (fun y' h' => ?_)
 obtain ⟨_ | ⟨x35, x36⟩⟩ := y'
 replace hm := hm.2 h'
 refine U.ps 1 T rfl ?_
 refine U.done (C.nx (C.seq ?_))
 refine C.condF rfl rfl ?_
 refine C.exit (C.ex (C.ex (C.bex ?_)))
 exact St.wk (hJ32 _ hm) (Wk.f [some 0, some 1, some 2, some 3] ⟨bX, vL, ⟨_, rfl, .lent rfl rfl⟩, ⟨_, rfl, .endR rfl⟩, trivial⟩)
 have hx35 := h'
 replace hm := hm.1 x35 x36 h'
 refine U.ps 1 T rfl ?_
 refine U.done (C.nx (C.seq ?_))
 refine C.condT rfl rfl ?_
 refine C.skip (C.nx (C.block (C.seq (U.start ?_))))
 refine U.r rfl (.none rfl) rfl rfl (by exact Rd.en (ke := kRouteStand) (ve := veB) rfl (fun _ => rfl) rfl (l := 3) rfl rfl hx35.1) ?_
 refine U.ps 1 T rfl ?_
 refine U.e1 rfl (.none rfl) (by exact Eff1.al T rfl rfl rfl rfl) ?_
 refine U.e1 rfl (.none rfl) (by exact Eff1.st T rfl rfl rfl rfl rfl rfl rfl rfl rfl rfl) ?_
 refine U.done (C.nx (C.seq (U.start ?_)))
 refine U.ps 4 T rfl ?_
 refine U.done (C.nx ?_)
 refine C.jn (fun (x41 : List (RouteStand × Bool)) => [(1, .i from_1), (2, .i to_1), (16, .p 0 0), (17, .o 2), (19, .i (w64 ((x20.1.length : Int) - 1))), (66, .o 4)]) (fun (x41 : List (RouteStand × Bool)) => [(0, .box [.i x17.site.Floor.W, .i x17.site.Floor.H, .i x17.site.Floor.D, .sl 1 eI x17.site.Floor.Kind, .sl 1 eI x17.site.Floor.Out, .sl 5 eApiZone x17.site.Zones, .sl 2 eApiApart x17.site.Aparts, .sl 2 eApiShelf x17.site.Shelves, .sl 2 eApiStart x17.site.Robots, .i x17.tick, .sl 1 eI x17.avoid, .o 1]), (1, .val (.om kI veOeApiSpan x17.taken)), (2, .lent eOMkRouteStandveB x20.1 [((Int.toNat (w64 ((x20.1.length : Int) - 1))), 3)]), (3, .rng kRouteStand veB x41 (x35 :: s33.2) 4)]) 5 hm (fun x41 hm => ?_) (fun J42 hm hJ42 => ?_)
 refine C.bnx (C.nx ?_)
 exact St.wk (C.next hm) (Wk.f [some 0, some 1, some 2, some 3, some 4] ⟨bX, vL, ⟨_, rfl, .lent rfl rfl⟩, ⟨_, rfl, .rng rfl rfl⟩, trivial⟩)
 refine C.ite rfl hm (fun hb43 hm => ?_) (fun hb43 hm => ?_)
 refine D.beg 5 [2, 5] [] mix rfl rfl (by kernel_rfl) (by repeat (first | exact NoPanicQ.body | exact NoPanicQ.rnd | refine NoPanicQ.th ?_ | refine NoPanicQ.blk ?_)) (fun hQ hS ws M' => ?_)
 refine D.ps 2 [(0, [3, 2]), (1, [3, 2])] rfl hQ hS T rfl rfl (by kernel_rfl) ?_
 obtain ⟨x46, hx46, hm⟩ := hm
 refine D.q 2 [3] hQ hS rfl (.none rfl) rfl rfl (by exact Rd.il T rfl rfl rfl rfl rfl rfl rfl hx46) rfl (by kernel_rfl) ?_
 refine D.q 3 [] hQ hS rfl (.none rfl) rfl rfl (by exact Rd.ll T rfl rfl rfl (.head _) rfl rfl rfl rfl) rfl (by kernel_rfl) ?_
 refine D.ps 1 [(4, [])] rfl hQ hS T rfl rfl (by kernel_rfl) ?_
 refine D.ze1 rfl (.none rfl) (by exact Eff1.dlr T (x := x35) rfl rfl kt70 rfl rfl rfl rfl rfl) (by kernel_rfl) (by kernel_rfl) ?_
 exact St.wk (hJ42 _ hm) (Wk.f [some 0, some 1, some 2, some 3, some 4] ⟨bX, vL, ⟨_, rfl, .lent rfl rfl⟩, ⟨_, rfl, .rng rfl rfl⟩, trivial⟩)
 refine C.skip ?_
 exact St.wk (hJ42 _ hm) (Wk.f [some 0, some 1, some 2, some 3, some 4] ⟨bX, vL, ⟨_, rfl, .lent rfl rfl⟩, ⟨_, rfl, .rng rfl rfl⟩, trivial⟩)
 refine U.start ?_
 refine U.ps 4 T rfl ?_
 refine U.e rfl (.none rfl) (by exact Eff.k (T_route_right s_1 from_1 to_1 tick _ hm) en14 rfl rfl rfl (.eq rfl) (fun _ _ => ⟨(.v _), trivial⟩)) (fun x5' hm => ?_)
 obtain ⟨x5⟩ := x5'
 refine U.ps 2 T rfl ?_
 refine hm.cs (fun hb6 hm => ?_) (fun hb6 hm => ?_)
 refine U.pg 2 6 false 38 (ntF hb6) T rfl rfl rfl rfl ?_
 refine U.r rfl (.none rfl) rfl rfl (by exact Rd.pk' rfl rfl (ntF hb6) rfl) ?_
 refine U.done ?_
 exact St.wk (hJ4 _ hm) (Wk.f [some 0] ⟨bX, trivial⟩)
 refine U.sks 2 6 false 38 (ntT hb6) rfl rfl rfl ?_
 refine U.r rfl (.none rfl) rfl rfl (by exact Rd.pk rfl rfl (ntT hb6) rfl) ?_
 refine U.done ?_
 exact St.wk (hJ4 _ hm) (Wk.f [some 0] ⟨bX, trivial⟩)
theorem T_route_Check_1 (a : Int) (post : Bool → Prop) (hm : V_route_Check_1 a post) :
    Tr Tryz.prog 27 [.i a] [] 0 (fun A H' k => ∃ y, post y ∧ A = (.b y) ∧ H' = [] ∧ k = 0) := by
 refine Tr.intro (n := 9) Tryz.func27 rfl Tryz.ntmps27 rfl (fun w0 ok F β hβ => ?_)
 unfold V_route_Check_1 at hm
 refine C.seq (U.start ?_)
 refine U.ps 1 T rfl ?_
 refine U.done (C.nx (C.seq ?_))
 refine C.jn (fun (x3 : Bool) => [(2, .b x3)]) (fun (x3 : Bool) => []) 0 hm (fun x3 hm => ?_) (fun J4 hm hJ4 => ?_)
 refine C.nx (C.ret ?_)
 exact C.f0 T (rs' := [.b x3]) hβ ⟨x3, hm, rfl, rfl, rfl⟩
 refine U.start ?_
 refine U.ps 3 T rfl ?_
 refine hm.cs (fun hb5 hm => ?_) (fun hb5 hm => ?_)
 refine U.sks 2 2 false 5 hb5 rfl rfl rfl ?_
 refine U.r rfl (.none rfl) rfl rfl (by exact Rd.pk rfl rfl hb5 rfl) ?_
 refine U.ps 1 T rfl ?_
 refine U.done ?_
 exact St.wk (hJ4 _ hm) (Wk.e)
 refine U.pg 2 2 false 5 hb5 T rfl rfl rfl rfl ?_
 refine U.r rfl (.none rfl) rfl rfl (by exact Rd.pk' rfl rfl hb5 rfl) ?_
 refine U.ps 1 T rfl ?_
 refine U.done ?_
 exact St.wk (hJ4 _ hm) (Wk.e)
theorem T_slices_IndexFunc_int_int__route_Check_1 (s_1 : List Int) (post : Int → Prop) (hm : V_slices_IndexFunc_int_int__route_Check_1 s_1 post) :
    Tr Tryz.prog 64 [.sl 1 eI s_1, .fn (.func 27) [] []] [] 0 (fun A H' k => ∃ y, post y ∧ A = (.i y) ∧ H' = [] ∧ k = 0) := by
 refine Tr.intro (n := 19) Tryz.func64 rfl Tryz.ntmps64 rfl (fun w0 ok F β hβ => ?_)
 unfold V_slices_IndexFunc_int_int__route_Check_1 at hm
 refine C.seq (U.start ?_)
 refine U.ps 1 T rfl ?_
 refine U.done (C.nx (C.seq (C.seq (U.start ?_))))
 refine U.ps 3 T rfl ?_
 refine U.done (C.nx ?_)
 refine C.jn (fun (x5 : Unit) => []) (fun (x5 : Unit) => []) 0 hm (fun x5 hm => ?_) (fun J6 hm hJ6 => ?_)
 refine C.nx (C.seq (U.start ?_))
 refine U.ps 1 T rfl ?_
 refine U.done (C.nx (C.ret ?_))
 exact C.f0 T (rs' := [.i (-1)]) hβ ⟨(-1), hm, rfl, rfl, rfl⟩
 refine C.block ?_
 refine St.wk (C.loop (fun (s7 : Int) => [(0, .sl 1 eI s_1), (1, .fn (.func 27) [] []), (7, .i (s_1.length : Int)), (8, .i s7)]) (fun (s7 : Int) => []) hm (fun s7 Y8 hm => ?_)) (Wk.e)
 refine C.seq (U.start ?_)
 refine U.ps 1 T rfl ?_
 refine U.done (C.nx (C.seq ?_))
 refine C.ite rfl hm (fun hb11 hm => ?_) (fun hb11 hm => ?_)
 refine C.skip (C.nx (C.seq (C.block (C.seq (U.start ?_)))))
 refine U.ps 2 T rfl ?_
 refine U.done (C.nx (C.seq (U.start ?_)))
 refine U.ps 3 T rfl ?_
 obtain ⟨x16, hx16, hm⟩ := hm
 refine U.r rfl (.none rfl) rfl rfl (by exact Rd.ix T rfl rfl rfl rfl rfl rfl hx16) ?_
 refine U.ps 1 T rfl ?_
 refine U.e rfl (.none rfl) (by exact Eff.k (T_route_Check_1 x16 _ hm) en27 rfl rfl rfl (.eq rfl) (fun _ _ => ⟨(.v _), trivial⟩)) (fun x17' hm => ?_)
 obtain ⟨x17⟩ := x17'
 refine U.done (C.nx ?_)
 refine C.ite rfl hm (fun hb18 hm => ?_) (fun hb18 hm => ?_)
 refine C.seq (U.start ?_)
 refine U.ps 2 T rfl ?_
 refine U.done (C.nx (C.ret (C.brt (C.rt (C.rt (C.brt (C.rt ?_)))))))
 exact C.f0 T (rs' := [.i s7]) hβ ⟨s7, hm, rfl, rfl, rfl⟩
 refine C.skip (C.bnx (C.nx (U.start ?_)))
 refine U.ps 2 T rfl ?_
 refine U.done (C.nx ?_)
 exact St.wk (C.next hm) (Wk.e)
 refine C.exit (C.ex (C.ex (C.bex ?_)))
 exact St.wk (hJ6 _ hm) (Wk.mk' [] rfl rfl trivial trivial rfl)
theorem T_slices_ContainsFunc_int_int__route_Check_1 (s_1 : List Int) (post : Bool → Prop) (hm : V_slices_ContainsFunc_int_int__route_Check_1 s_1 post) :
    Tr Tryz.prog 28 [.sl 1 eI s_1, .fn (.func 27) [] []] [] 0 (fun A H' k => ∃ y, post y ∧ A = (.b y) ∧ H' = [] ∧ k = 0) := by
 refine Tr.intro (n := 9) Tryz.func28 rfl Tryz.ntmps28 rfl (fun w0 ok F β hβ => ?_)
 unfold V_slices_ContainsFunc_int_int__route_Check_1 at hm
 refine C.seq (U.start ?_)
 refine U.ps 1 T rfl ?_
 refine U.done (C.nx (C.seq (U.start ?_)))
 refine U.ps 2 T rfl ?_
 refine U.e rfl (.none rfl) (by exact Eff.k (T_slices_IndexFunc_int_int__route_Check_1 s_1 _ hm) en64 rfl rfl rfl (.eq rfl) (fun _ _ => ⟨(.v _), trivial⟩)) (fun x5' hm => ?_)
 obtain ⟨x5⟩ := x5'
 refine U.ps 2 T rfl ?_
 refine U.done (C.nx (C.ret ?_))
 exact C.f0 T (rs' := [.b (decide (x5 ≥ 0))]) hβ ⟨decide (x5 ≥ 0), hm, rfl, rfl, rfl⟩
theorem T_route_Check (s_1 : ApiSite) (from_1 : Int) (to_1 : Int) (tick : Int) (taken : List ApiTaken) (avoid : List Int) (acts : List Int) (post : Int → Prop) (hm : V_route_Check s_1 from_1 to_1 tick taken avoid acts post) :
    Tr Tryz.prog 10 [.agg (eApiSite s_1), .i from_1, .i to_1, .i tick, .sl 3 eApiTaken taken, .sl 1 eI avoid, .sl 1 eI acts] [] 0 (fun A H' k => ∃ y, post y ∧ A = (.i y) ∧ H' = [] ∧ k = 0) := by
 refine Tr.intro (n := 72) Tryz.func10 rfl Tryz.ntmps10 rfl (fun w0 ok F β hβ => ?_)
 unfold V_route_Check at hm
 refine C.seq (U.start ?_)
 refine U.e1 rfl (.none rfl) (by exact Eff1.box rfl rfl rfl rfl rfl) ?_
 refine U.ps 1 T rfl ?_
 refine U.done (C.nx (C.seq (U.start ?_)))
 refine U.ps 1 T rfl ?_
 refine U.done (C.nx (C.seq (C.seq ?_)))
 refine C.jn (fun (x5 : Bool) => [(1, .i from_1), (2, .i to_1), (3, .i tick), (4, .sl 3 eApiTaken taken), (5, .sl 1 eI avoid), (6, .sl 1 eI acts), (7, .p 0 0), (32, .b x5)]) (fun (x5 : Bool) => [(0, .box (eApiSite s_1))]) 1 hm (fun x5 hm => ?_) (fun J6 hm hJ6 => ?_)
 refine C.nx ?_
 refine C.ite rfl hm (fun hb10 hm => ?_) (fun hb10 hm => ?_)
 refine C.seq (U.start ?_)
 refine U.ps 1 T rfl ?_
 refine U.done (C.nx (C.ret (C.rt ?_)))
 exact C.f0 T (rs' := [.i 1]) hβ ⟨1, hm, rfl, rfl, rfl⟩
 refine C.skip (C.nx (C.seq (U.start ?_)))
 refine U.ps 4 T rfl ?_
 refine U.e rfl (.none rfl) (by exact Eff.c [] (v := false) (T_route_newWalk s_1 tick taken avoid _ hm) en15 rfl rfl rfl (.eq rfl) trivial rfl rfl rfl rfl rfl rfl (fun h => by cases h) (.inr ⟨rfl, rfl⟩) (fun _ => rfl) (fun _ => rfl) rfl) (fun x15' hm => ?_)
 obtain ⟨x15⟩ := x15'
 refine U.e1 rfl (.none rfl) (by exact Eff1.al T rfl rfl rfl rfl) ?_
 refine U.e1 rfl (.none rfl) (by exact Eff1.st T rfl rfl rfl rfl rfl rfl rfl rfl rfl rfl) ?_
 refine U.done (C.nx (C.seq (U.start ?_)))
 refine U.ps 2 T rfl ?_
 refine U.e1 rfl (.none rfl) (by exact Eff1.al T rfl rfl rfl rfl) ?_
 refine U.e1 rfl (.none rfl) (by exact Eff1.st T rfl rfl rfl rfl rfl rfl rfl rfl rfl rfl) ?_
 refine U.done (C.nx (C.seq (C.seq (U.start ?_))))
 refine U.ps 3 T rfl ?_
 refine U.done (C.nx ?_)
 refine C.jn (fun (x20 : Int × Int) => [(2, .i to_1), (6, .sl 1 eI acts), (16, .p 0 0), (17, .p 2 0)]) (fun (x20 : Int × Int) => [(0, .box [.i x15.site.Floor.W, .i x15.site.Floor.H, .i x15.site.Floor.D, .sl 1 eI x15.site.Floor.Kind, .sl 1 eI x15.site.Floor.Out, .sl 5 eApiZone x15.site.Zones, .sl 2 eApiApart x15.site.Aparts, .sl 2 eApiShelf x15.site.Shelves, .sl 2 eApiStart x15.site.Robots, .i x15.tick, .sl 1 eI x15.avoid, .o 1]), (1, .val (.om kI veOeApiSpan x15.taken)), (2, .box [.i x20.1, .i x20.2])]) 3 hm (fun x20 hm => ?_) (fun J21 hm hJ21 => ?_)
 refine C.nx (C.seq (C.block (C.seq (U.start ?_))))
 refine U.ps 5 T rfl ?_
 refine U.e rfl (.none rfl) (by exact Eff.k (T_route_walk_held x15 x20.1 (acts.length : Int) _ hm) en30 rfl rfl rfl (.cons (.agg (.cons (.eq rfl) (.cons (.eq rfl) (.cons (.eq rfl) (.cons (.eq rfl) (.cons (.eq rfl) (.cons (.eq rfl) (.cons (.eq rfl) (.cons (.eq rfl) (.cons (.eq rfl) (.cons (.eq rfl) (.cons (.eq rfl) (.cons (.fz rfl rfl rfl (.om fun _ => .os fun _ => .cons (.ro rfl) (.cons (.ro rfl) .nil))) .nil))))))))))))) (.eq rfl)) (fun _ _ => ⟨(.v _), trivial⟩)) (fun x44' hm => ?_)
 obtain ⟨x44⟩ := x44'
 refine U.ps 1 T rfl ?_
 refine U.done (C.nx ?_)
 refine C.ite rfl hm (fun hb45 hm => ?_) (fun hb45 hm => ?_)
 refine C.seq (U.start ?_)
 refine U.ps 1 T rfl ?_
 refine U.done (C.nx (C.ret (C.brt (C.rt ?_))))
 exact C.f0 T (rs' := [.i 15]) hβ ⟨15, hm, rfl, rfl, rfl⟩
 refine C.seq (U.start ?_)
 refine U.ps 5 T rfl ?_
 refine U.done (C.nx ?_)
 refine C.ite rfl hm (fun hb50 hm => ?_) (fun hb50 hm => ?_)
 refine C.seq (U.start ?_)
 refine U.ps 1 T rfl ?_
 refine U.done (C.nx (C.ret (C.brt (C.rt ?_))))
 exact C.f0 T (rs' := [.i 13]) hβ ⟨13, hm, rfl, rfl, rfl⟩
 refine C.skip (C.bnx (C.nx (C.seq (U.start ?_))))
 refine U.ps 1 T rfl ?_
 refine U.done (C.nx (C.ret ?_))
 exact C.f0 T (rs' := [.i 0]) hβ ⟨0, hm, rfl, rfl, rfl⟩
 refine C.block ?_
 refine St.wk (C.loop (fun (s22 : Int × Int × Int) => [(2, .i to_1), (6, .sl 1 eI acts), (16, .p 0 0), (17, .p 2 0), (40, .sl 1 eI acts), (41, .i (acts.length : Int)), (42, .i s22.2.2)]) (fun (s22 : Int × Int × Int) => [(0, .box [.i x15.site.Floor.W, .i x15.site.Floor.H, .i x15.site.Floor.D, .sl 1 eI x15.site.Floor.Kind, .sl 1 eI x15.site.Floor.Out, .sl 5 eApiZone x15.site.Zones, .sl 2 eApiApart x15.site.Aparts, .sl 2 eApiShelf x15.site.Shelves, .sl 2 eApiStart x15.site.Robots, .i x15.tick, .sl 1 eI x15.avoid, .o 1]), (1, .val (.om kI veOeApiSpan x15.taken)), (2, .box [.i s22.1, .i s22.2.1])]) hm (fun s22 Y23 hm => ?_)) (Wk.f [some 2, some 1, some 3] ⟨bX, vL, bX, trivial⟩)
 refine C.seq (U.start ?_)
 refine U.ps 1 T rfl ?_
 refine U.done (C.nx (C.seq ?_))
 refine C.ite rfl hm (fun hb26 hm => ?_) (fun hb26 hm => ?_)
 refine C.skip (C.nx (C.seq (C.block (C.seq (U.start ?_)))))
 refine U.ps 1 T rfl ?_
 obtain ⟨x29, hx29, hm⟩ := hm
 refine U.r rfl (.none rfl) rfl rfl (by exact Rd.ix T rfl rfl rfl rfl rfl rfl hx29) ?_
 refine U.ps 3 T rfl ?_
 refine U.done (C.nx (C.seq (U.start ?_)))
 refine U.ps 4 T rfl ?_
 refine U.e rfl (.none rfl) (by exact Eff.k (T_route_walk_step x15 ({ cell := s22.1, rest := s22.2.1 : RouteStand }) s22.2.2 x29 _ hm) en29 rfl rfl rfl (.cons (.agg (.cons (.eq rfl) (.cons (.eq rfl) (.cons (.eq rfl) (.cons (.eq rfl) (.cons (.eq rfl) (.cons (.eq rfl) (.cons (.eq rfl) (.cons (.eq rfl) (.cons (.eq rfl) (.cons (.eq rfl) (.cons (.eq rfl) (.cons (.fz rfl rfl rfl (.om fun _ => .os fun _ => .cons (.ro rfl) (.cons (.ro rfl) .nil))) .nil))))))))))))) (.eq rfl)) (fun _ _ => ⟨(.tup (.cons (.agg (.cons (.v _) (.cons (.v _) .nil))) (.cons (.v _) .nil))), trivial⟩)) (fun x32' hm => ?_)
 obtain ⟨x32⟩ := x32'
 refine U.ps 3 T rfl ?_
 refine U.e1 rfl (.none rfl) (by exact Eff1.al T rfl rfl rfl rfl) ?_
 refine U.e1 rfl (.none rfl) (by exact Eff1.st T rfl rfl rfl rfl rfl rfl rfl rfl rfl rfl) ?_
 refine U.ps 1 T rfl ?_
 refine U.done (C.nx (C.seq (C.seq (U.start ?_))))
 refine U.ps 2 T rfl ?_
 refine U.done (C.nx ?_)
 refine C.ite rfl hm (fun hb35 hm => ?_) (fun hb35 hm => ?_)
 refine C.seq (U.start ?_)
 refine U.ps 2 T rfl ?_
 refine U.done (C.nx (C.ret (C.rt (C.brt (C.rt (C.rt (C.brt (C.rt ?_))))))))
 exact C.f0 T (rs' := [.i x32.2]) hβ ⟨x32.2, hm, rfl, rfl, rfl⟩
 refine C.skip (C.nx (U.start ?_))
 refine U.ps 1 T rfl ?_
 refine U.e1 rfl (.none rfl) (by exact Eff1.st T rfl rfl rfl rfl rfl rfl rfl rfl rfl rfl) ?_
 refine U.done (C.bnx (C.nx (U.start ?_)))
 refine U.ps 2 T rfl ?_
 refine U.done (C.nx ?_)
 exact St.wk (C.next hm) (Wk.f [some 0, some 1, some 2] ⟨bX, vL, bX, trivial⟩)
 refine C.exit (C.ex (C.ex (C.bex ?_)))
 exact St.wk (hJ21 _ hm) (Wk.f [some 0, some 1, some 2] ⟨bX, vL, bX, trivial⟩)
 refine U.start ?_
 refine U.ps 4 T rfl ?_
 refine U.e rfl (.none rfl) (by exact Eff.k (T_route_right s_1 from_1 to_1 tick _ hm) en14 rfl rfl rfl (.eq rfl) (fun _ _ => ⟨(.v _), trivial⟩)) (fun x7' hm => ?_)
 obtain ⟨x7⟩ := x7'
 refine U.ps 2 T rfl ?_
 refine hm.cs (fun hb8 hm => ?_) (fun hb8 hm => ?_)
 refine U.pg 2 6 false 28 (ntF hb8) T rfl rfl rfl rfl ?_
 refine U.e rfl (.take 6 false 28 _ (ntF hb8) rfl rfl rfl) (by exact Eff.k (T_slices_ContainsFunc_int_int__route_Check_1 acts _ hm) en28 rfl rfl rfl (.eq rfl) (fun _ _ => ⟨(.v _), trivial⟩)) (fun x9' hm => ?_)
 obtain ⟨x9⟩ := x9'
 refine U.r rfl (.none rfl) rfl rfl (by exact Rd.pk' rfl rfl (ntF hb8) rfl) ?_
 refine U.done ?_
 exact St.wk (hJ6 _ hm) (Wk.f [some 0] ⟨bX, trivial⟩)
 refine U.sks 3 6 false 28 (ntT hb8) rfl rfl rfl ?_
 refine U.r rfl (.none rfl) rfl rfl (by exact Rd.pk rfl rfl (ntT hb8) rfl) ?_
 refine U.done ?_
 exact St.wk (hJ6 _ hm) (Wk.f [some 0] ⟨bX, trivial⟩)
theorem T_taquinref07_Same (a : List Int) (b : List Int) (post : Bool → Prop) (hm : V_taquinref07_Same a b post) :
    Tr Tryz.prog 11 [.sl 1 eI a, .sl 1 eI b] [] 0 (fun A H' k => ∃ y, post y ∧ A = (.b y) ∧ H' = [] ∧ k = 0) := by
 refine Tr.intro (n := 26) Tryz.func11 rfl Tryz.ntmps11 rfl (fun w0 ok F β hβ => ?_)
 unfold V_taquinref07_Same at hm
 refine C.seq (U.start ?_)
 refine U.ps 1 T rfl ?_
 refine U.done (C.nx (C.seq (C.seq (U.start ?_))))
 refine U.ps 5 T rfl ?_
 refine U.done (C.nx ?_)
 refine C.ite rfl hm (fun hb5 hm => ?_) (fun hb5 hm => ?_)
 refine C.seq (U.start ?_)
 refine U.ps 1 T rfl ?_
 refine U.done (C.nx (C.ret (C.rt ?_)))
 exact C.f0 T (rs' := [.b false]) hβ ⟨false, hm, rfl, rfl, rfl⟩
 refine C.skip (C.nx (C.seq (C.seq (U.start ?_))))
 refine U.ps 1 T rfl ?_
 refine U.done (C.nx ?_)
 refine C.jn (fun (x10 : Unit) => []) (fun (x10 : Unit) => []) 0 hm (fun x10 hm => ?_) (fun J11 hm hJ11 => ?_)
 refine C.nx (C.seq (U.start ?_))
 refine U.ps 1 T rfl ?_
 refine U.done (C.nx (C.ret ?_))
 exact C.f0 T (rs' := [.b true]) hβ ⟨true, hm, rfl, rfl, rfl⟩
 refine C.block ?_
 refine St.wk (C.loop (fun (s12 : Int) => [(0, .sl 1 eI a), (1, .sl 1 eI b), (5, .i s12)]) (fun (s12 : Int) => []) hm (fun s12 Y13 hm => ?_)) (Wk.e)
 refine C.seq (C.seq (U.start ?_))
 refine U.ps 4 T rfl ?_
 refine U.done (C.nx ?_)
 refine C.ite rfl hm (fun hb16 hm => ?_) (fun hb16 hm => ?_)
 refine C.skip (C.nx (C.seq (C.block (C.seq ?_))))
 refine D.beg 9999 [] [] mix rfl rfl (by kernel_rfl) (by repeat (first | exact NoPanicQ.body | exact NoPanicQ.rnd | refine NoPanicQ.th ?_ | refine NoPanicQ.blk ?_)) (fun hQ hS ws M' => ?_)
 refine D.ps 2 [(0, []), (1, [])] rfl hQ hS T rfl rfl (by kernel_rfl) ?_
 obtain ⟨x19, hx19, hm⟩ := hm
 refine D.q 2 [] hQ hS rfl (.none rfl) rfl rfl (by exact Rd.ix T rfl rfl rfl rfl rfl rfl hx19) rfl (by kernel_rfl) ?_
 refine D.ps 3 [(3, []), (4, []), (5, [])] rfl hQ hS T rfl rfl (by kernel_rfl) ?_
 obtain ⟨x20, hx20, hm⟩ := hm
 refine D.q 6 [] hQ hS rfl (.none rfl) rfl rfl (by exact Rd.ix T rfl rfl rfl rfl rfl rfl hx20) rfl (by kernel_rfl) ?_
 refine D.ps 2 [(7, []), (8, [])] rfl hQ hS T rfl rfl (by kernel_rfl) ?_
 refine D.done (by kernel_rfl) ?_
 refine C.nx ?_
 refine C.ite rfl hm (fun hb21 hm => ?_) (fun hb21 hm => ?_)
 refine C.seq (U.start ?_)
 refine U.ps 1 T rfl ?_
 refine U.done (C.nx (C.ret (C.brt (C.rt (C.rt (C.brt (C.rt ?_)))))))
 exact C.f0 T (rs' := [.b false]) hβ ⟨false, hm, rfl, rfl, rfl⟩
 refine C.skip (C.bnx (C.nx (U.start ?_)))
 refine U.ps 3 T rfl ?_
 refine U.done (C.nx ?_)
 exact St.wk (C.next hm) (Wk.e)
 refine C.exit (C.ex (C.ex (C.bex ?_)))
 exact St.wk (hJ11 _ hm) (Wk.mk' [] rfl rfl trivial trivial rfl)
theorem T_taquinlaw23_small (post : Bool → Prop) (hm : V_taquinlaw23_small post) :
    Tr Tryz.prog 4 [] [] 0 (fun A H' k => ∃ y, post y ∧ A = (.b y) ∧ H' = [] ∧ k = 0) := by
 refine Tr.intro (n := 65) Tryz.func4 rfl Tryz.ntmps4 rfl (fun w0 ok F β hβ => ?_)
 unfold V_taquinlaw23_small at hm
 refine C.seq (U.start ?_)
 refine U.ps 1 T rfl ?_
 refine U.done (C.nx (C.seq (U.start ?_)))
 refine U.e rfl (.none rfl) (by exact Eff.c [] (v := false) (T_taquinlaw23_example _ hm) en9 rfl rfl rfl (.eq rfl) trivial rfl rfl rfl rfl rfl rfl (fun h => by cases h) (.inr ⟨rfl, rfl⟩) (fun _ => rfl) (fun _ => rfl) rfl) (fun x5' hm => ?_)
 obtain ⟨x5⟩ := x5'
 refine U.e1 rfl (.none rfl) (by exact Eff1.al T rfl rfl rfl rfl) ?_
 refine U.e1 rfl (.none rfl) (by exact Eff1.st T rfl rfl rfl rfl rfl rfl rfl rfl rfl rfl) ?_
 refine U.done (C.nx (C.seq (U.start ?_)))
 refine U.ps 1 T rfl ?_
 refine U.done (C.nx (C.seq (U.start ?_)))
 refine U.ps 1 T rfl ?_
 refine U.e rfl (.none rfl) (by exact Eff.c [] (v := true) (T_route_Find x5 0 2 0 [] [] 20 _ hm) en6 rfl rfl rfl (.cons (.agg (.cons (.eq rfl) (.cons (.eq rfl) (.cons (.eq rfl) (.cons (.fz rfl rfl rfl (.os fun _ => .cons (.ro rfl) .nil)) (.cons (.fz rfl rfl rfl (.os fun _ => .cons (.ro rfl) .nil)) (.cons (.fz rfl rfl rfl (.os fun _ => .cons (.ro rfl) (.cons (.ro rfl) (.cons (.ro rfl) (.cons (.ro rfl) (.cons (.ro rfl) .nil)))))) (.cons (.fz rfl rfl rfl (.os fun _ => .cons (.ro rfl) (.cons (.ro rfl) .nil))) (.cons (.fz rfl rfl rfl (.os fun _ => .cons (.ro rfl) (.cons (.ro rfl) .nil))) (.cons (.fz rfl rfl rfl (.os fun _ => .cons (.ro rfl) (.cons (.ro rfl) .nil))) .nil)))))))))) (.cons (.eq rfl) (.cons (.eq rfl) (.cons (.eq rfl) (.cons (.nil _ _ _ _ ⟨rfl, rfl⟩) (.cons (.nil _ _ _ _ ⟨rfl, rfl⟩) (.eq rfl))))))) trivial rfl rfl rfl rfl rfl rfl (fun _ _ => ⟨(.tup (.cons (.o _) (.cons (.v _) .nil))), ⟨.val (.os _ _ _ fun _ => (.cons (.v _) .nil)), trivial⟩⟩) (.inr ⟨rfl, rfl⟩) (fun _ => rfl) (fun _ => rfl) rfl) (fun x10' hm => ?_)
 obtain ⟨x10⟩ := x10'
 refine U.ps 5 T rfl ?_
 refine U.done (C.nx (C.seq (U.start ?_)))
 refine U.ps 3 T rfl ?_
 refine U.e1 rfl (.none rfl) (by exact Eff1.bs T (enc := eApiTaken) (xs := ([({ Cell := 1, Span := ({ From := 0, To := 2 : ApiSpan }) : ApiTaken })] : List ApiTaken)) rfl rfl rfl rfl rfl rfl rfl rfl rfl rfl (fun _ _ => rfl) rfl rfl) ?_
 refine U.e rfl (.none rfl) (by exact Eff.c [] (v := true) (T_route_Find x5 0 2 0 ([({ Cell := 1, Span := ({ From := 0, To := 2 : ApiSpan }) : ApiTaken })] : List ApiTaken) [] 20 _ hm) en6 rfl rfl rfl (.cons (.agg (.cons (.eq rfl) (.cons (.eq rfl) (.cons (.eq rfl) (.cons (.fz rfl rfl rfl (.os fun _ => .cons (.ro rfl) .nil)) (.cons (.fz rfl rfl rfl (.os fun _ => .cons (.ro rfl) .nil)) (.cons (.fz rfl rfl rfl (.os fun _ => .cons (.ro rfl) (.cons (.ro rfl) (.cons (.ro rfl) (.cons (.ro rfl) (.cons (.ro rfl) .nil)))))) (.cons (.fz rfl rfl rfl (.os fun _ => .cons (.ro rfl) (.cons (.ro rfl) .nil))) (.cons (.fz rfl rfl rfl (.os fun _ => .cons (.ro rfl) (.cons (.ro rfl) .nil))) (.cons (.fz rfl rfl rfl (.os fun _ => .cons (.ro rfl) (.cons (.ro rfl) .nil))) .nil)))))))))) (.cons (.eq rfl) (.cons (.eq rfl) (.cons (.eq rfl) (.cons (.fz rfl rfl rfl (.os fun _ => .cons (.ro rfl) (.cons (.ro rfl) (.cons (.ro rfl) .nil)))) (.cons (.nil _ _ _ _ ⟨rfl, rfl⟩) (.eq rfl))))))) trivial rfl rfl rfl rfl rfl rfl (fun _ _ => ⟨(.tup (.cons (.o _) (.cons (.v _) .nil))), ⟨.val (.os _ _ _ fun _ => (.cons (.v _) .nil)), trivial⟩⟩) (.inr ⟨rfl, rfl⟩) (fun _ => rfl) (fun _ => rfl) rfl) (fun x13' hm => ?_)
 obtain ⟨x13⟩ := x13'
 refine U.ps 5 T rfl ?_
 refine U.done (C.nx (C.seq (U.start ?_)))
 refine U.ps 3 T rfl ?_
 refine U.e1 rfl (.none rfl) (by exact Eff1.bs T (enc := eApiTaken) (xs := ([({ Cell := 2, Span := ({ From := 0, To := 400 : ApiSpan }) : ApiTaken })] : List ApiTaken)) rfl rfl rfl rfl rfl rfl rfl rfl rfl rfl (fun _ _ => rfl) rfl rfl) ?_
 refine U.e rfl (.none rfl) (by exact Eff.c [] (v := true) (T_route_Find x5 0 2 0 ([({ Cell := 2, Span := ({ From := 0, To := 400 : ApiSpan }) : ApiTaken })] : List ApiTaken) [] 20 _ hm) en6 rfl rfl rfl (.cons (.agg (.cons (.eq rfl) (.cons (.eq rfl) (.cons (.eq rfl) (.cons (.fz rfl rfl rfl (.os fun _ => .cons (.ro rfl) .nil)) (.cons (.fz rfl rfl rfl (.os fun _ => .cons (.ro rfl) .nil)) (.cons (.fz rfl rfl rfl (.os fun _ => .cons (.ro rfl) (.cons (.ro rfl) (.cons (.ro rfl) (.cons (.ro rfl) (.cons (.ro rfl) .nil)))))) (.cons (.fz rfl rfl rfl (.os fun _ => .cons (.ro rfl) (.cons (.ro rfl) .nil))) (.cons (.fz rfl rfl rfl (.os fun _ => .cons (.ro rfl) (.cons (.ro rfl) .nil))) (.cons (.fz rfl rfl rfl (.os fun _ => .cons (.ro rfl) (.cons (.ro rfl) .nil))) .nil)))))))))) (.cons (.eq rfl) (.cons (.eq rfl) (.cons (.eq rfl) (.cons (.fz rfl rfl rfl (.os fun _ => .cons (.ro rfl) (.cons (.ro rfl) (.cons (.ro rfl) .nil)))) (.cons (.nil _ _ _ _ ⟨rfl, rfl⟩) (.eq rfl))))))) trivial rfl rfl rfl rfl rfl rfl (fun _ _ => ⟨(.tup (.cons (.o _) (.cons (.v _) .nil))), ⟨.val (.os _ _ _ fun _ => (.cons (.v _) .nil)), trivial⟩⟩) (.inr ⟨rfl, rfl⟩) (fun _ => rfl) (fun _ => rfl) rfl) (fun x16' hm => ?_)
 obtain ⟨x16⟩ := x16'
 refine U.ps 5 T rfl ?_
 refine U.done (C.nx (C.seq (U.start ?_)))
 refine U.ps 3 T rfl ?_
 refine U.e1 rfl (.none rfl) (by exact Eff1.bs T (enc := eI) (xs := ([1, 1] : List Int)) rfl rfl rfl rfl rfl rfl rfl rfl rfl rfl (fun _ _ => rfl) rfl rfl) ?_
 refine U.e rfl (.none rfl) (by exact Eff.k (T_route_Check x5 0 3 0 [] [] ([1, 1] : List Int) _ hm) en10 rfl rfl rfl (.cons (.agg (.cons (.eq rfl) (.cons (.eq rfl) (.cons (.eq rfl) (.cons (.fz rfl rfl rfl (.os fun _ => .cons (.ro rfl) .nil)) (.cons (.fz rfl rfl rfl (.os fun _ => .cons (.ro rfl) .nil)) (.cons (.fz rfl rfl rfl (.os fun _ => .cons (.ro rfl) (.cons (.ro rfl) (.cons (.ro rfl) (.cons (.ro rfl) (.cons (.ro rfl) .nil)))))) (.cons (.fz rfl rfl rfl (.os fun _ => .cons (.ro rfl) (.cons (.ro rfl) .nil))) (.cons (.fz rfl rfl rfl (.os fun _ => .cons (.ro rfl) (.cons (.ro rfl) .nil))) (.cons (.fz rfl rfl rfl (.os fun _ => .cons (.ro rfl) (.cons (.ro rfl) .nil))) .nil)))))))))) (.cons (.eq rfl) (.cons (.eq rfl) (.cons (.eq rfl) (.cons (.nil _ _ _ _ ⟨rfl, rfl⟩) (.cons (.nil _ _ _ _ ⟨rfl, rfl⟩) (.cons (.fz rfl rfl rfl (.os fun _ => .cons (.ro rfl) .nil)) .nil))))))) (fun _ _ => ⟨(.v _), trivial⟩)) (fun x19' hm => ?_)
 obtain ⟨x19⟩ := x19'
 refine U.ps 1 T rfl ?_
 refine U.done (C.nx (C.seq ?_))
 refine C.jn (fun (x20 : Bool) => [(0, .b x20)]) (fun (x20 : Bool) => []) 0 hm (fun x20 hm => ?_) (fun J21 hm hJ21 => ?_)
 refine C.nx (C.ret ?_)
 exact C.f0 T (rs' := [.b x20]) hβ ⟨x20, hm, rfl, rfl, rfl⟩
 refine U.start ?_
 refine U.ps 3 T rfl ?_
 refine U.e1 rfl (.none rfl) (by exact Eff1.bs T (enc := eI) (xs := ([1, 1] : List Int)) rfl rfl rfl rfl rfl rfl rfl rfl rfl rfl (fun _ _ => rfl) rfl rfl) ?_
 refine U.e rfl (.none rfl) (by exact Eff.k (T_taquinref07_Same x10.1 ([1, 1] : List Int) _ hm) en11 rfl rfl rfl (.cons (.fz rfl rfl rfl (.os fun _ => .cons (.ro rfl) .nil)) (.cons (.fz rfl rfl rfl (.os fun _ => .cons (.ro rfl) .nil)) .nil)) (fun _ _ => ⟨(.v _), trivial⟩)) (fun x22' hm => ?_)
 obtain ⟨x22⟩ := x22'
 refine U.ps 1 T rfl ?_
 refine hm.cs (fun hb23 hm => ?_) (fun hb23 hm => ?_)
 refine U.pg 2 5 true 42 hb23 T rfl rfl rfl rfl ?_
 refine U.r rfl (.none rfl) rfl rfl (by exact Rd.pk rfl rfl hb23 rfl) ?_
 refine U.ps 1 T rfl ?_
 refine hm.cs (fun hb24 hm => ?_) (fun hb24 hm => ?_)
 refine U.pg 3 9 true 46 hb24 T rfl rfl rfl rfl ?_
 refine U.e1 rfl (.take 9 true 46 _ hb24 rfl rfl rfl) (by exact Eff1.bs T (enc := eI) (xs := ([0, 0, 1, 1] : List Int)) rfl rfl rfl rfl rfl rfl rfl rfl rfl rfl (fun _ _ => rfl) rfl rfl) ?_
 refine U.e rfl (.take 9 true 46 _ hb24 rfl rfl rfl) (by exact Eff.k (T_taquinref07_Same x13.1 ([0, 0, 1, 1] : List Int) _ hm) en11 rfl rfl rfl (.cons (.fz rfl rfl rfl (.os fun _ => .cons (.ro rfl) .nil)) (.cons (.fz rfl rfl rfl (.os fun _ => .cons (.ro rfl) .nil)) .nil)) (fun _ _ => ⟨(.v _), trivial⟩)) (fun x25' hm => ?_)
 obtain ⟨x25⟩ := x25'
 refine U.r rfl (.none rfl) rfl rfl (by exact Rd.pk rfl rfl hb24 rfl) ?_
 refine U.ps 1 T rfl ?_
 refine hm.cs (fun hb26 hm => ?_) (fun hb26 hm => ?_)
 refine U.pg 2 16 true 53 hb26 T rfl rfl rfl rfl ?_
 refine U.r rfl (.none rfl) rfl rfl (by exact Rd.pk rfl rfl hb26 rfl) ?_
 refine U.ps 1 T rfl ?_
 refine hm.cs (fun hb27 hm => ?_) (fun hb27 hm => ?_)
 refine U.pg 2 20 true 57 hb27 T rfl rfl rfl rfl ?_
 refine U.r rfl (.none rfl) rfl rfl (by exact Rd.pk rfl rfl hb27 rfl) ?_
 refine U.ps 1 T rfl ?_
 refine hm.cs (fun hb28 hm => ?_) (fun hb28 hm => ?_)
 refine U.pg 2 24 true 61 hb28 T rfl rfl rfl rfl ?_
 refine U.r rfl (.none rfl) rfl rfl (by exact Rd.pk rfl rfl hb28 rfl) ?_
 refine U.ps 1 T rfl ?_
 refine U.done ?_
 exact St.wk (hJ21 _ hm) (Wk.e)
 refine U.sks 2 24 true 61 hb28 rfl rfl rfl ?_
 refine U.r rfl (.none rfl) rfl rfl (by exact Rd.pk' rfl rfl hb28 rfl) ?_
 refine U.ps 1 T rfl ?_
 refine U.done ?_
 exact St.wk (hJ21 _ hm) (Wk.e)
 refine U.sks 2 20 true 57 hb27 rfl rfl rfl ?_
 refine U.r rfl (.none rfl) rfl rfl (by exact Rd.pk' rfl rfl hb27 rfl) ?_
 refine U.ps 1 T rfl ?_
 refine U.sks 2 24 true 61 rfl rfl rfl rfl ?_
 refine U.r rfl (.none rfl) rfl rfl (by exact Rd.pk' rfl rfl rfl rfl) ?_
 refine U.ps 1 T rfl ?_
 refine U.done ?_
 exact St.wk (hJ21 _ hm) (Wk.e)
 refine U.sks 2 16 true 53 hb26 rfl rfl rfl ?_
 refine U.r rfl (.none rfl) rfl rfl (by exact Rd.pk' rfl rfl hb26 rfl) ?_
 refine U.ps 1 T rfl ?_
 refine U.sks 2 20 true 57 rfl rfl rfl rfl ?_
 refine U.r rfl (.none rfl) rfl rfl (by exact Rd.pk' rfl rfl rfl rfl) ?_
 refine U.ps 1 T rfl ?_
 refine U.sks 2 24 true 61 rfl rfl rfl rfl ?_
 refine U.r rfl (.none rfl) rfl rfl (by exact Rd.pk' rfl rfl rfl rfl) ?_
 refine U.ps 1 T rfl ?_
 refine U.done ?_
 exact St.wk (hJ21 _ hm) (Wk.e)
 refine U.sks 5 9 true 46 hb24 rfl rfl rfl ?_
 refine U.r rfl (.none rfl) rfl rfl (by exact Rd.pk' rfl rfl hb24 rfl) ?_
 refine U.ps 1 T rfl ?_
 refine U.sks 2 16 true 53 rfl rfl rfl rfl ?_
 refine U.r rfl (.none rfl) rfl rfl (by exact Rd.pk' rfl rfl rfl rfl) ?_
 refine U.ps 1 T rfl ?_
 refine U.sks 2 20 true 57 rfl rfl rfl rfl ?_
 refine U.r rfl (.none rfl) rfl rfl (by exact Rd.pk' rfl rfl rfl rfl) ?_
 refine U.ps 1 T rfl ?_
 refine U.sks 2 24 true 61 rfl rfl rfl rfl ?_
 refine U.r rfl (.none rfl) rfl rfl (by exact Rd.pk' rfl rfl rfl rfl) ?_
 refine U.ps 1 T rfl ?_
 refine U.done ?_
 exact St.wk (hJ21 _ hm) (Wk.e)
 refine U.sks 2 5 true 42 hb23 rfl rfl rfl ?_
 refine U.r rfl (.none rfl) rfl rfl (by exact Rd.pk' rfl rfl hb23 rfl) ?_
 refine U.ps 1 T rfl ?_
 refine U.sks 5 9 true 46 rfl rfl rfl rfl ?_
 refine U.r rfl (.none rfl) rfl rfl (by exact Rd.pk' rfl rfl rfl rfl) ?_
 refine U.ps 1 T rfl ?_
 refine U.sks 2 16 true 53 rfl rfl rfl rfl ?_
 refine U.r rfl (.none rfl) rfl rfl (by exact Rd.pk' rfl rfl rfl rfl) ?_
 refine U.ps 1 T rfl ?_
 refine U.sks 2 20 true 57 rfl rfl rfl rfl ?_
 refine U.r rfl (.none rfl) rfl rfl (by exact Rd.pk' rfl rfl rfl rfl) ?_
 refine U.ps 1 T rfl ?_
 refine U.sks 2 24 true 61 rfl rfl rfl rfl ?_
 refine U.r rfl (.none rfl) rfl rfl (by exact Rd.pk' rfl rfl rfl rfl) ?_
 refine U.ps 1 T rfl ?_
 refine U.done ?_
 exact St.wk (hJ21 _ hm) (Wk.e)
theorem T_taquinref07_Few (f : ApiFloor) (n : Int) (post : Bool → Prop) (hm : V_taquinref07_Few f n post) :
    Tr Tryz.prog 31 [.agg (eApiFloor f), .i n] [] 0 (fun A H' k => ∃ y, post y ∧ A = (.b y) ∧ H' = [] ∧ k = 0) := by
 refine Tr.intro (n := 17) Tryz.func31 rfl Tryz.ntmps31 rfl (fun w0 ok F β hβ => ?_)
 unfold V_taquinref07_Few at hm
 refine C.seq (U.start ?_)
 refine U.e1 rfl (.none rfl) (by exact Eff1.box rfl rfl rfl rfl rfl) ?_
 refine U.ps 1 T rfl ?_
 refine U.done (C.nx (C.seq ?_))
 refine C.jn (fun (x3 : Bool) => [(4, .b x3)]) (fun (x3 : Bool) => []) 0 hm (fun x3 hm => ?_) (fun J4 hm hJ4 => ?_)
 refine C.nx (C.ret ?_)
 exact C.f0 T (rs' := [.b x3]) hβ ⟨x3, hm, rfl, rfl, rfl⟩
 refine U.start ?_
 refine U.ps 6 T rfl ?_
 refine hm.cs (fun hb5 hm => ?_) (fun hb5 hm => ?_)
 refine U.pg 5 5 true 10 hb5 T rfl rfl rfl rfl ?_
 refine U.r rfl (.none rfl) rfl rfl (by exact Rd.pk rfl rfl hb5 rfl) ?_
 refine U.ps 1 T rfl ?_
 refine U.done ?_
 exact St.wk (hJ4 _ hm) (Wk.e)
 refine U.sks 5 5 true 10 hb5 rfl rfl rfl ?_
 refine U.r rfl (.none rfl) rfl rfl (by exact Rd.pk' rfl rfl hb5 rfl) ?_
 refine U.ps 1 T rfl ?_
 refine U.done ?_
 exact St.wk (hJ4 _ hm) (Wk.e)
theorem T_taquinref11_Few (s_1 : ApiSite) (cells : Int) (most : Int) (post : Bool → Prop) (hm : V_taquinref11_Few s_1 cells most post) :
    Tr Tryz.prog 12 [.agg (eApiSite s_1), .i cells, .i most] [] 0 (fun A H' k => ∃ y, post y ∧ A = (.b y) ∧ H' = [] ∧ k = 0) := by
 refine Tr.intro (n := 133) Tryz.func12 rfl Tryz.ntmps12 rfl (fun w0 ok F β hβ => ?_)
 unfold V_taquinref11_Few at hm
 refine C.seq (U.start ?_)
 refine U.e1 rfl (.none rfl) (by exact Eff1.box rfl rfl rfl rfl rfl) ?_
 refine U.ps 1 T rfl ?_
 refine U.done (C.nx (C.seq (C.seq (U.start ?_))))
 refine U.ps 1 T rfl ?_
 refine U.done (C.nx ?_)
 refine C.jn (fun (x5 : Unit) => [(1, .i cells), (2, .i most), (3, .p 0 0)]) (fun (x5 : Unit) => [(0, .box (eApiSite s_1))]) 1 hm (fun x5 hm => ?_) (fun J6 hm hJ6 => ?_)
 refine C.nx (C.seq (C.seq (U.start ?_)))
 refine U.ps 1 T rfl ?_
 refine U.done (C.nx ?_)
 refine C.jn (fun (x25 : Unit) => [(1, .i cells), (2, .i most), (3, .p 0 0)]) (fun (x25 : Unit) => [(0, .box (eApiSite s_1))]) 1 hm (fun x25 hm => ?_) (fun J26 hm hJ26 => ?_)
 refine C.nx (C.seq (C.seq (U.start ?_)))
 refine U.ps 1 T rfl ?_
 refine U.done (C.nx ?_)
 refine C.jn (fun (x44 : Unit) => [(1, .i cells), (2, .i most), (3, .p 0 0)]) (fun (x44 : Unit) => [(0, .box (eApiSite s_1))]) 1 hm (fun x44 hm => ?_) (fun J45 hm hJ45 => ?_)
 refine C.nx (C.seq ?_)
 refine C.jn (fun (x60 : Bool) => [(6, .b x60)]) (fun (x60 : Bool) => []) 0 hm (fun x60 hm => ?_) (fun J61 hm hJ61 => ?_)
 refine C.nx (C.ret ?_)
 exact C.f0 T (rs' := [.b x60]) hβ ⟨x60, hm, rfl, rfl, rfl⟩
 refine U.start ?_
 refine U.ps 3 T rfl ?_
 refine U.e rfl (.none rfl) (by exact Eff.k (T_taquinref07_Few s_1.Floor cells _ hm) en31 rfl rfl rfl (.eq rfl) (fun _ _ => ⟨(.v _), trivial⟩)) (fun x62' hm => ?_)
 obtain ⟨x62⟩ := x62'
 refine U.ps 1 T rfl ?_
 refine hm.cs (fun hb63 hm => ?_) (fun hb63 hm => ?_)
 refine U.pg 5 4 true 105 hb63 T rfl rfl rfl rfl ?_
 refine U.r rfl (.none rfl) rfl rfl (by exact Rd.pk rfl rfl hb63 rfl) ?_
 refine U.ps 1 T rfl ?_
 refine hm.cs (fun hb64 hm => ?_) (fun hb64 hm => ?_)
 refine U.pg 5 11 true 112 hb64 T rfl rfl rfl rfl ?_
 refine U.r rfl (.none rfl) rfl rfl (by exact Rd.pk rfl rfl hb64 rfl) ?_
 refine U.ps 1 T rfl ?_
 refine hm.cs (fun hb65 hm => ?_) (fun hb65 hm => ?_)
 refine U.pg 5 18 true 119 hb65 T rfl rfl rfl rfl ?_
 refine U.r rfl (.none rfl) rfl rfl (by exact Rd.pk rfl rfl hb65 rfl) ?_
 refine U.ps 1 T rfl ?_
 refine hm.cs (fun hb66 hm => ?_) (fun hb66 hm => ?_)
 refine U.pg 5 25 true 126 hb66 T rfl rfl rfl rfl ?_
 refine U.r rfl (.none rfl) rfl rfl (by exact Rd.pk rfl rfl hb66 rfl) ?_
 refine U.ps 1 T rfl ?_
 refine U.done ?_
 exact St.wk (hJ61 _ hm) (Wk.e)
 refine U.sks 5 25 true 126 hb66 rfl rfl rfl ?_
 refine U.r rfl (.none rfl) rfl rfl (by exact Rd.pk' rfl rfl hb66 rfl) ?_
 refine U.ps 1 T rfl ?_
 refine U.done ?_
 exact St.wk (hJ61 _ hm) (Wk.e)
 refine U.sks 5 18 true 119 hb65 rfl rfl rfl ?_
 refine U.r rfl (.none rfl) rfl rfl (by exact Rd.pk' rfl rfl hb65 rfl) ?_
 refine U.ps 1 T rfl ?_
 refine U.sks 5 25 true 126 rfl rfl rfl rfl ?_
 refine U.r rfl (.none rfl) rfl rfl (by exact Rd.pk' rfl rfl rfl rfl) ?_
 refine U.ps 1 T rfl ?_
 refine U.done ?_
 exact St.wk (hJ61 _ hm) (Wk.e)
 refine U.sks 5 11 true 112 hb64 rfl rfl rfl ?_
 refine U.r rfl (.none rfl) rfl rfl (by exact Rd.pk' rfl rfl hb64 rfl) ?_
 refine U.ps 1 T rfl ?_
 refine U.sks 5 18 true 119 rfl rfl rfl rfl ?_
 refine U.r rfl (.none rfl) rfl rfl (by exact Rd.pk' rfl rfl rfl rfl) ?_
 refine U.ps 1 T rfl ?_
 refine U.sks 5 25 true 126 rfl rfl rfl rfl ?_
 refine U.r rfl (.none rfl) rfl rfl (by exact Rd.pk' rfl rfl rfl rfl) ?_
 refine U.ps 1 T rfl ?_
 refine U.done ?_
 exact St.wk (hJ61 _ hm) (Wk.e)
 refine U.sks 5 4 true 105 hb63 rfl rfl rfl ?_
 refine U.r rfl (.none rfl) rfl rfl (by exact Rd.pk' rfl rfl hb63 rfl) ?_
 refine U.ps 1 T rfl ?_
 refine U.sks 5 11 true 112 rfl rfl rfl rfl ?_
 refine U.r rfl (.none rfl) rfl rfl (by exact Rd.pk' rfl rfl rfl rfl) ?_
 refine U.ps 1 T rfl ?_
 refine U.sks 5 18 true 119 rfl rfl rfl rfl ?_
 refine U.r rfl (.none rfl) rfl rfl (by exact Rd.pk' rfl rfl rfl rfl) ?_
 refine U.ps 1 T rfl ?_
 refine U.sks 5 25 true 126 rfl rfl rfl rfl ?_
 refine U.r rfl (.none rfl) rfl rfl (by exact Rd.pk' rfl rfl rfl rfl) ?_
 refine U.ps 1 T rfl ?_
 refine U.done ?_
 exact St.wk (hJ61 _ hm) (Wk.e)
 refine C.block ?_
 refine St.wk (C.loop (fun (s46 : Int) => [(1, .i cells), (2, .i most), (3, .p 0 0), (9, .i s46)]) (fun (s46 : Int) => [(0, .box (eApiSite s_1))]) hm (fun s46 Y47 hm => ?_)) (Wk.f [some 0] ⟨bX, trivial⟩)
 refine C.seq (C.seq ?_)
 refine C.jn (fun (x48 : Bool) => [(1, .i cells), (2, .i most), (3, .p 0 0), (9, .i s46), (90, .b x48)]) (fun (x48 : Bool) => [(0, .box (eApiSite s_1))]) 1 hm (fun x48 hm => ?_) (fun J49 hm hJ49 => ?_)
 refine C.nx ?_
 refine C.ite rfl hm (fun hb51 hm => ?_) (fun hb51 hm => ?_)
 refine C.skip (C.nx (C.seq (C.block (C.seq (U.start ?_)))))
 refine U.ps 3 T rfl ?_
 obtain ⟨x54, hx54, hm⟩ := hm
 refine U.r rfl (.none rfl) rfl rfl (by exact Rd.ix T rfl rfl rfl rfl rfl rfl hx54) ?_
 refine U.ps 4 T rfl ?_
 refine U.done (C.nx ?_)
 refine C.ite rfl hm (fun hb55 hm => ?_) (fun hb55 hm => ?_)
 refine C.seq (U.start ?_)
 refine U.ps 1 T rfl ?_
 refine U.done (C.nx (C.ret (C.brt (C.rt (C.rt (C.brt (C.rt ?_)))))))
 exact C.f0 T (rs' := [.b false]) hβ ⟨false, hm, rfl, rfl, rfl⟩
 refine C.skip (C.bnx (C.nx (U.start ?_)))
 refine U.ps 3 T rfl ?_
 refine U.done (C.nx ?_)
 exact St.wk (C.next hm) (Wk.f [some 0] ⟨bX, trivial⟩)
 refine C.exit (C.ex (C.ex (C.bex ?_)))
 exact St.wk (hJ45 _ hm) (Wk.f [some 0] ⟨bX, trivial⟩)
 refine U.start ?_
 refine U.ps 6 T rfl ?_
 refine hm.cs (fun hb50 hm => ?_) (fun hb50 hm => ?_)
 refine U.pg 3 5 true 86 hb50 T rfl rfl rfl rfl ?_
 refine U.r rfl (.none rfl) rfl rfl (by exact Rd.pk rfl rfl hb50 rfl) ?_
 refine U.done ?_
 exact St.wk (hJ49 _ hm) (Wk.f [some 0] ⟨bX, trivial⟩)
 refine U.sks 3 5 true 86 hb50 rfl rfl rfl ?_
 refine U.r rfl (.none rfl) rfl rfl (by exact Rd.pk' rfl rfl hb50 rfl) ?_
 refine U.done ?_
 exact St.wk (hJ49 _ hm) (Wk.f [some 0] ⟨bX, trivial⟩)
 refine C.block ?_
 refine St.wk (C.loop (fun (s27 : Int) => [(1, .i cells), (2, .i most), (3, .p 0 0), (8, .i s27)]) (fun (s27 : Int) => [(0, .box (eApiSite s_1))]) hm (fun s27 Y28 hm => ?_)) (Wk.f [some 0] ⟨bX, trivial⟩)
 refine C.seq (C.seq ?_)
 refine C.jn (fun (x29 : Bool) => [(1, .i cells), (2, .i most), (3, .p 0 0), (8, .i s27), (60, .b x29)]) (fun (x29 : Bool) => [(0, .box (eApiSite s_1))]) 1 hm (fun x29 hm => ?_) (fun J30 hm hJ30 => ?_)
 refine C.nx ?_
 refine C.ite rfl hm (fun hb32 hm => ?_) (fun hb32 hm => ?_)
 refine C.skip (C.nx (C.seq (C.block (C.seq ?_))))
 refine C.jn (fun (x33 : Bool) => [(1, .i cells), (2, .i most), (3, .p 0 0), (8, .i s27), (80, .b x33)]) (fun (x33 : Bool) => [(0, .box (eApiSite s_1))]) 1 hm (fun x33 hm => ?_) (fun J34 hm hJ34 => ?_)
 refine C.nx ?_
 refine C.ite rfl hm (fun hb37 hm => ?_) (fun hb37 hm => ?_)
 refine C.seq (U.start ?_)
 refine U.ps 1 T rfl ?_
 refine U.done (C.nx (C.ret (C.brt (C.rt (C.rt (C.brt (C.rt ?_)))))))
 exact C.f0 T (rs' := [.b false]) hβ ⟨false, hm, rfl, rfl, rfl⟩
 refine C.skip (C.bnx (C.nx (U.start ?_)))
 refine U.ps 3 T rfl ?_
 refine U.done (C.nx ?_)
 exact St.wk (C.next hm) (Wk.f [some 0] ⟨bX, trivial⟩)
 refine U.start ?_
 refine U.ps 3 T rfl ?_
 obtain ⟨x35, hx35, hm⟩ := hm
 refine U.r rfl (.none rfl) rfl rfl (by exact Rd.ix T rfl rfl rfl rfl rfl rfl hx35) ?_
 refine U.ps 5 T rfl ?_
 refine hm.cs (fun hb36 hm => ?_) (fun hb36 hm => ?_)
 refine U.sks 8 8 false 71 hb36 rfl rfl rfl ?_
 refine U.r rfl (.none rfl) rfl rfl (by exact Rd.pk rfl rfl hb36 rfl) ?_
 refine U.done ?_
 exact St.wk (hJ34 _ hm) (Wk.f [some 0] ⟨bX, trivial⟩)
 refine U.pg 3 8 false 71 hb36 T rfl rfl rfl rfl ?_
 refine U.r rfl (.take 8 false 71 _ hb36 rfl rfl rfl) rfl rfl (by exact Rd.ix T rfl rfl rfl rfl rfl rfl hx35) ?_
 refine U.pg 4 8 false 71 hb36 T rfl rfl rfl rfl ?_
 refine U.r rfl (.none rfl) rfl rfl (by exact Rd.pk' rfl rfl hb36 rfl) ?_
 refine U.done ?_
 exact St.wk (hJ34 _ hm) (Wk.f [some 0] ⟨bX, trivial⟩)
 refine C.exit (C.ex (C.ex (C.bex ?_)))
 exact St.wk (hJ26 _ hm) (Wk.f [some 0] ⟨bX, trivial⟩)
 refine U.start ?_
 refine U.ps 6 T rfl ?_
 refine hm.cs (fun hb31 hm => ?_) (fun hb31 hm => ?_)
 refine U.pg 3 5 true 56 hb31 T rfl rfl rfl rfl ?_
 refine U.r rfl (.none rfl) rfl rfl (by exact Rd.pk rfl rfl hb31 rfl) ?_
 refine U.done ?_
 exact St.wk (hJ30 _ hm) (Wk.f [some 0] ⟨bX, trivial⟩)
 refine U.sks 3 5 true 56 hb31 rfl rfl rfl ?_
 refine U.r rfl (.none rfl) rfl rfl (by exact Rd.pk' rfl rfl hb31 rfl) ?_
 refine U.done ?_
 exact St.wk (hJ30 _ hm) (Wk.f [some 0] ⟨bX, trivial⟩)
 refine C.block ?_
 refine St.wk (C.loop (fun (s7 : Int) => [(1, .i cells), (2, .i most), (3, .p 0 0), (7, .i s7)]) (fun (s7 : Int) => [(0, .box (eApiSite s_1))]) hm (fun s7 Y8 hm => ?_)) (Wk.f [some 0] ⟨bX, trivial⟩)
 refine C.seq (C.seq ?_)
 refine C.jn (fun (x9 : Bool) => [(1, .i cells), (2, .i most), (3, .p 0 0), (7, .i s7), (19, .b x9)]) (fun (x9 : Bool) => [(0, .box (eApiSite s_1))]) 1 hm (fun x9 hm => ?_) (fun J10 hm hJ10 => ?_)
 refine C.nx ?_
 refine C.ite rfl hm (fun hb12 hm => ?_) (fun hb12 hm => ?_)
 refine C.skip (C.nx (C.seq (C.block (C.seq ?_))))
 refine C.jn (fun (x13 : Bool) => [(1, .i cells), (2, .i most), (3, .p 0 0), (7, .i s7), (50, .b x13)]) (fun (x13 : Bool) => [(0, .box (eApiSite s_1))]) 1 hm (fun x13 hm => ?_) (fun J14 hm hJ14 => ?_)
 refine C.nx ?_
 refine C.ite rfl hm (fun hb18 hm => ?_) (fun hb18 hm => ?_)
 refine C.seq (U.start ?_)
 refine U.ps 1 T rfl ?_
 refine U.done (C.nx (C.ret (C.brt (C.rt (C.rt (C.brt (C.rt ?_)))))))
 exact C.f0 T (rs' := [.b false]) hβ ⟨false, hm, rfl, rfl, rfl⟩
 refine C.skip (C.bnx (C.nx (U.start ?_)))
 refine U.ps 3 T rfl ?_
 refine U.done (C.nx ?_)
 exact St.wk (C.next hm) (Wk.f [some 0] ⟨bX, trivial⟩)
 refine U.start ?_
 refine U.ps 3 T rfl ?_
 obtain ⟨x15, hx15, hm⟩ := hm
 refine U.r rfl (.none rfl) rfl rfl (by exact Rd.ix T rfl rfl rfl rfl rfl rfl hx15) ?_
 refine U.ps 6 T rfl ?_
 refine hm.cs (fun hb16 hm => ?_) (fun hb16 hm => ?_)
 refine U.sks 8 9 false 31 hb16 rfl rfl rfl ?_
 refine U.r rfl (.none rfl) rfl rfl (by exact Rd.pk rfl rfl hb16 rfl) ?_
 refine U.ps 1 T rfl ?_
 refine U.sks 8 19 false 41 rfl rfl rfl rfl ?_
 refine U.r rfl (.none rfl) rfl rfl (by exact Rd.pk rfl rfl rfl rfl) ?_
 refine U.done ?_
 exact St.wk (hJ14 _ hm) (Wk.f [some 0] ⟨bX, trivial⟩)
 refine U.pg 3 9 false 31 hb16 T rfl rfl rfl rfl ?_
 refine U.r rfl (.take 9 false 31 _ hb16 rfl rfl rfl) rfl rfl (by exact Rd.ix T rfl rfl rfl rfl rfl rfl hx15) ?_
 refine U.pg 4 9 false 31 hb16 T rfl rfl rfl rfl ?_
 refine U.r rfl (.none rfl) rfl rfl (by exact Rd.pk' rfl rfl hb16 rfl) ?_
 refine U.ps 1 T rfl ?_
 refine hm.cs (fun hb17 hm => ?_) (fun hb17 hm => ?_)
 refine U.sks 8 19 false 41 hb17 rfl rfl rfl ?_
 refine U.r rfl (.none rfl) rfl rfl (by exact Rd.pk rfl rfl hb17 rfl) ?_
 refine U.done ?_
 exact St.wk (hJ14 _ hm) (Wk.f [some 0] ⟨bX, trivial⟩)
 refine U.pg 3 19 false 41 hb17 T rfl rfl rfl rfl ?_
 refine U.r rfl (.take 19 false 41 _ hb17 rfl rfl rfl) rfl rfl (by exact Rd.ix T rfl rfl rfl rfl rfl rfl hx15) ?_
 refine U.pg 4 19 false 41 hb17 T rfl rfl rfl rfl ?_
 refine U.r rfl (.none rfl) rfl rfl (by exact Rd.pk' rfl rfl hb17 rfl) ?_
 refine U.done ?_
 exact St.wk (hJ14 _ hm) (Wk.f [some 0] ⟨bX, trivial⟩)
 refine C.exit (C.ex (C.ex (C.bex ?_)))
 exact St.wk (hJ6 _ hm) (Wk.f [some 0] ⟨bX, trivial⟩)
 refine U.start ?_
 refine U.ps 6 T rfl ?_
 refine hm.cs (fun hb11 hm => ?_) (fun hb11 hm => ?_)
 refine U.pg 3 5 true 15 hb11 T rfl rfl rfl rfl ?_
 refine U.r rfl (.none rfl) rfl rfl (by exact Rd.pk rfl rfl hb11 rfl) ?_
 refine U.done ?_
 exact St.wk (hJ10 _ hm) (Wk.f [some 0] ⟨bX, trivial⟩)
 refine U.sks 3 5 true 15 hb11 rfl rfl rfl ?_
 refine U.r rfl (.none rfl) rfl rfl (by exact Rd.pk' rfl rfl hb11 rfl) ?_
 refine U.done ?_
 exact St.wk (hJ10 _ hm) (Wk.f [some 0] ⟨bX, trivial⟩)
theorem T_taquinref07_Right (f : ApiFloor) (post : Bool → Prop) (hm : V_taquinref07_Right f post) :
    Tr Tryz.prog 32 [.agg (eApiFloor f)] [] 0 (fun A H' k => ∃ y, post y ∧ A = (.b y) ∧ H' = [] ∧ k = 0) := by
 refine Tr.intro (n := 92) Tryz.func32 rfl Tryz.ntmps32 rfl (fun w0 ok F β hβ => ?_)
 unfold V_taquinref07_Right at hm
 refine C.seq (U.start ?_)
 refine U.e1 rfl (.none rfl) (by exact Eff1.box rfl rfl rfl rfl rfl) ?_
 refine U.ps 1 T rfl ?_
 refine U.done (C.nx (C.seq (C.seq ?_)))
 refine C.jn (fun (x3 : Bool) => [(1, .p 0 0), (32, .b x3)]) (fun (x3 : Bool) => [(0, .box (eApiFloor f))]) 1 hm (fun x3 hm => ?_) (fun J4 hm hJ4 => ?_)
 refine C.nx ?_
 refine C.ite rfl hm (fun hb10 hm => ?_) (fun hb10 hm => ?_)
 refine C.seq (U.start ?_)
 refine U.ps 1 T rfl ?_
 refine U.done (C.nx (C.ret (C.rt ?_)))
 exact C.f0 T (rs' := [.b false]) hβ ⟨false, hm, rfl, rfl, rfl⟩
 refine C.skip (C.nx (C.seq (U.start ?_)))
 refine U.ps 9 T rfl ?_
 refine U.done (C.nx (C.seq (C.seq ?_)))
 refine C.jn (fun (x15 : Bool) => [(1, .p 0 0), (3, .i (w64 ((w64 (f.W * f.H)) * f.D))), (56, .b x15)]) (fun (x15 : Bool) => [(0, .box (eApiFloor f))]) 1 hm (fun x15 hm => ?_) (fun J16 hm hJ16 => ?_)
 refine C.nx ?_
 refine C.ite rfl hm (fun hb19 hm => ?_) (fun hb19 hm => ?_)
 refine C.seq (U.start ?_)
 refine U.ps 1 T rfl ?_
 refine U.done (C.nx (C.ret (C.rt ?_)))
 exact C.f0 T (rs' := [.b false]) hβ ⟨false, hm, rfl, rfl, rfl⟩
 refine C.skip (C.nx (C.seq (C.seq (U.start ?_))))
 refine U.ps 1 T rfl ?_
 refine U.done (C.nx ?_)
 refine C.jn (fun (x24 : Unit) => []) (fun (x24 : Unit) => []) 0 hm (fun x24 hm => ?_) (fun J25 hm hJ25 => ?_)
 refine C.nx (C.seq (U.start ?_))
 refine U.ps 1 T rfl ?_
 refine U.done (C.nx (C.ret ?_))
 exact C.f0 T (rs' := [.b true]) hβ ⟨true, hm, rfl, rfl, rfl⟩
 refine C.block ?_
 refine St.wk (C.loop (fun (s26 : Int) => [(1, .p 0 0), (3, .i (w64 ((w64 (f.W * f.H)) * f.D))), (4, .i s26)]) (fun (s26 : Int) => [(0, .box (eApiFloor f))]) hm (fun s26 Y27 hm => ?_)) (Wk.f [some 0] ⟨bX, trivial⟩)
 refine C.seq (C.seq (U.start ?_))
 refine U.ps 3 T rfl ?_
 refine U.done (C.nx ?_)
 refine C.ite rfl hm (fun hb30 hm => ?_) (fun hb30 hm => ?_)
 refine C.skip (C.nx (C.seq (C.block (C.seq ?_))))
 refine C.jn (fun (x31 : Bool) => [(1, .p 0 0), (3, .i (w64 ((w64 (f.W * f.H)) * f.D))), (4, .i s26), (91, .b x31)]) (fun (x31 : Bool) => [(0, .box (eApiFloor f))]) 1 hm (fun x31 hm => ?_) (fun J32 hm hJ32 => ?_)
 refine C.nx ?_
 refine C.ite rfl hm (fun hb38 hm => ?_) (fun hb38 hm => ?_)
 refine C.seq (U.start ?_)
 refine U.ps 1 T rfl ?_
 refine U.done (C.nx (C.ret (C.brt (C.rt (C.rt (C.brt (C.rt ?_)))))))
 exact C.f0 T (rs' := [.b false]) hβ ⟨false, hm, rfl, rfl, rfl⟩
 refine C.skip (C.bnx (C.nx (U.start ?_)))
 refine U.ps 3 T rfl ?_
 refine U.done (C.nx ?_)
 exact St.wk (C.next hm) (Wk.f [some 0] ⟨bX, trivial⟩)
 refine U.start ?_
 refine U.ps 3 T rfl ?_
 obtain ⟨x33, hx33, hm⟩ := hm
 refine U.r rfl (.none rfl) rfl rfl (by exact Rd.ix T rfl rfl rfl rfl rfl rfl hx33) ?_
 refine U.ps 3 T rfl ?_
 refine hm.cs (fun hb34 hm => ?_) (fun hb34 hm => ?_)
 refine U.sks 6 6 false 68 hb34 rfl rfl rfl ?_
 refine U.r rfl (.none rfl) rfl rfl (by exact Rd.pk rfl rfl hb34 rfl) ?_
 refine U.ps 1 T rfl ?_
 refine U.sks 6 14 false 76 rfl rfl rfl rfl ?_
 refine U.r rfl (.none rfl) rfl rfl (by exact Rd.pk rfl rfl rfl rfl) ?_
 refine U.ps 1 T rfl ?_
 refine U.sks 6 22 false 84 rfl rfl rfl rfl ?_
 refine U.r rfl (.none rfl) rfl rfl (by exact Rd.pk rfl rfl rfl rfl) ?_
 refine U.done ?_
 exact St.wk (hJ32 _ hm) (Wk.f [some 0] ⟨bX, trivial⟩)
 refine U.pg 3 6 false 68 hb34 T rfl rfl rfl rfl ?_
 refine U.r rfl (.take 6 false 68 _ hb34 rfl rfl rfl) rfl rfl (by exact Rd.ix T rfl rfl rfl rfl rfl rfl hx33) ?_
 refine U.pg 2 6 false 68 hb34 T rfl rfl rfl rfl ?_
 refine U.r rfl (.none rfl) rfl rfl (by exact Rd.pk' rfl rfl hb34 rfl) ?_
 refine U.ps 1 T rfl ?_
 refine hm.cs (fun hb35 hm => ?_) (fun hb35 hm => ?_)
 refine U.sks 6 14 false 76 hb35 rfl rfl rfl ?_
 refine U.r rfl (.none rfl) rfl rfl (by exact Rd.pk rfl rfl hb35 rfl) ?_
 refine U.ps 1 T rfl ?_
 refine U.sks 6 22 false 84 rfl rfl rfl rfl ?_
 refine U.r rfl (.none rfl) rfl rfl (by exact Rd.pk rfl rfl rfl rfl) ?_
 refine U.done ?_
 exact St.wk (hJ32 _ hm) (Wk.f [some 0] ⟨bX, trivial⟩)
 refine U.pg 3 14 false 76 hb35 T rfl rfl rfl rfl ?_
 obtain ⟨x36, hx36, hm⟩ := hm
 refine U.r rfl (.take 14 false 76 _ hb35 rfl rfl rfl) rfl rfl (by exact Rd.ix T rfl rfl rfl rfl rfl rfl hx36) ?_
 refine U.pg 2 14 false 76 hb35 T rfl rfl rfl rfl ?_
 refine U.r rfl (.none rfl) rfl rfl (by exact Rd.pk' rfl rfl hb35 rfl) ?_
 refine U.ps 1 T rfl ?_
 refine hm.cs (fun hb37 hm => ?_) (fun hb37 hm => ?_)
 refine U.sks 6 22 false 84 hb37 rfl rfl rfl ?_
 refine U.r rfl (.none rfl) rfl rfl (by exact Rd.pk rfl rfl hb37 rfl) ?_
 refine U.done ?_
 exact St.wk (hJ32 _ hm) (Wk.f [some 0] ⟨bX, trivial⟩)
 refine U.pg 3 22 false 84 hb37 T rfl rfl rfl rfl ?_
 refine U.r rfl (.take 22 false 84 _ hb37 rfl rfl rfl) rfl rfl (by exact Rd.ix T rfl rfl rfl rfl rfl rfl hx36) ?_
 refine U.pg 2 22 false 84 hb37 T rfl rfl rfl rfl ?_
 refine U.r rfl (.none rfl) rfl rfl (by exact Rd.pk' rfl rfl hb37 rfl) ?_
 refine U.done ?_
 exact St.wk (hJ32 _ hm) (Wk.f [some 0] ⟨bX, trivial⟩)
 refine C.exit (C.ex (C.ex (C.bex ?_)))
 exact St.wk (hJ25 _ hm) (Wk.mk' [] rfl rfl trivial trivial rfl)
 refine U.start ?_
 refine U.ps 3 T rfl ?_
 refine hm.cs (fun hb17 hm => ?_) (fun hb17 hm => ?_)
 refine U.sks 5 2 false 43 hb17 rfl rfl rfl ?_
 refine U.r rfl (.none rfl) rfl rfl (by exact Rd.pk rfl rfl hb17 rfl) ?_
 refine U.ps 1 T rfl ?_
 refine U.sks 5 9 false 50 rfl rfl rfl rfl ?_
 refine U.r rfl (.none rfl) rfl rfl (by exact Rd.pk rfl rfl rfl rfl) ?_
 refine U.done ?_
 exact St.wk (hJ16 _ hm) (Wk.f [some 0] ⟨bX, trivial⟩)
 refine U.pg 5 2 false 43 hb17 T rfl rfl rfl rfl ?_
 refine U.r rfl (.none rfl) rfl rfl (by exact Rd.pk' rfl rfl hb17 rfl) ?_
 refine U.ps 1 T rfl ?_
 refine hm.cs (fun hb18 hm => ?_) (fun hb18 hm => ?_)
 refine U.sks 5 9 false 50 hb18 rfl rfl rfl ?_
 refine U.r rfl (.none rfl) rfl rfl (by exact Rd.pk rfl rfl hb18 rfl) ?_
 refine U.done ?_
 exact St.wk (hJ16 _ hm) (Wk.f [some 0] ⟨bX, trivial⟩)
 refine U.pg 5 9 false 50 hb18 T rfl rfl rfl rfl ?_
 refine U.r rfl (.none rfl) rfl rfl (by exact Rd.pk' rfl rfl hb18 rfl) ?_
 refine U.done ?_
 exact St.wk (hJ16 _ hm) (Wk.f [some 0] ⟨bX, trivial⟩)
 refine U.start ?_
 refine U.ps 4 T rfl ?_
 refine hm.cs (fun hb5 hm => ?_) (fun hb5 hm => ?_)
 refine U.sks 3 3 false 8 hb5 rfl rfl rfl ?_
 refine U.r rfl (.none rfl) rfl rfl (by exact Rd.pk rfl rfl hb5 rfl) ?_
 refine U.ps 1 T rfl ?_
 refine U.sks 3 8 false 13 rfl rfl rfl rfl ?_
 refine U.r rfl (.none rfl) rfl rfl (by exact Rd.pk rfl rfl rfl rfl) ?_
 refine U.ps 1 T rfl ?_
 refine U.sks 3 13 false 18 rfl rfl rfl rfl ?_
 refine U.r rfl (.none rfl) rfl rfl (by exact Rd.pk rfl rfl rfl rfl) ?_
 refine U.ps 1 T rfl ?_
 refine U.sks 3 18 false 23 rfl rfl rfl rfl ?_
 refine U.r rfl (.none rfl) rfl rfl (by exact Rd.pk rfl rfl rfl rfl) ?_
 refine U.ps 1 T rfl ?_
 refine U.sks 3 23 false 28 rfl rfl rfl rfl ?_
 refine U.r rfl (.none rfl) rfl rfl (by exact Rd.pk rfl rfl rfl rfl) ?_
 refine U.done ?_
 exact St.wk (hJ4 _ hm) (Wk.f [some 0] ⟨bX, trivial⟩)
 refine U.pg 3 3 false 8 hb5 T rfl rfl rfl rfl ?_
 refine U.r rfl (.none rfl) rfl rfl (by exact Rd.pk' rfl rfl hb5 rfl) ?_
 refine U.ps 1 T rfl ?_
 refine hm.cs (fun hb6 hm => ?_) (fun hb6 hm => ?_)
 refine U.sks 3 8 false 13 hb6 rfl rfl rfl ?_
 refine U.r rfl (.none rfl) rfl rfl (by exact Rd.pk rfl rfl hb6 rfl) ?_
 refine U.ps 1 T rfl ?_
 refine U.sks 3 13 false 18 rfl rfl rfl rfl ?_
 refine U.r rfl (.none rfl) rfl rfl (by exact Rd.pk rfl rfl rfl rfl) ?_
 refine U.ps 1 T rfl ?_
 refine U.sks 3 18 false 23 rfl rfl rfl rfl ?_
 refine U.r rfl (.none rfl) rfl rfl (by exact Rd.pk rfl rfl rfl rfl) ?_
 refine U.ps 1 T rfl ?_
 refine U.sks 3 23 false 28 rfl rfl rfl rfl ?_
 refine U.r rfl (.none rfl) rfl rfl (by exact Rd.pk rfl rfl rfl rfl) ?_
 refine U.done ?_
 exact St.wk (hJ4 _ hm) (Wk.f [some 0] ⟨bX, trivial⟩)
 refine U.pg 3 8 false 13 hb6 T rfl rfl rfl rfl ?_
 refine U.r rfl (.none rfl) rfl rfl (by exact Rd.pk' rfl rfl hb6 rfl) ?_
 refine U.ps 1 T rfl ?_
 refine hm.cs (fun hb7 hm => ?_) (fun hb7 hm => ?_)
 refine U.sks 3 13 false 18 hb7 rfl rfl rfl ?_
 refine U.r rfl (.none rfl) rfl rfl (by exact Rd.pk rfl rfl hb7 rfl) ?_
 refine U.ps 1 T rfl ?_
 refine U.sks 3 18 false 23 rfl rfl rfl rfl ?_
 refine U.r rfl (.none rfl) rfl rfl (by exact Rd.pk rfl rfl rfl rfl) ?_
 refine U.ps 1 T rfl ?_
 refine U.sks 3 23 false 28 rfl rfl rfl rfl ?_
 refine U.r rfl (.none rfl) rfl rfl (by exact Rd.pk rfl rfl rfl rfl) ?_
 refine U.done ?_
 exact St.wk (hJ4 _ hm) (Wk.f [some 0] ⟨bX, trivial⟩)
 refine U.pg 3 13 false 18 hb7 T rfl rfl rfl rfl ?_
 refine U.r rfl (.none rfl) rfl rfl (by exact Rd.pk' rfl rfl hb7 rfl) ?_
 refine U.ps 1 T rfl ?_
 refine hm.cs (fun hb8 hm => ?_) (fun hb8 hm => ?_)
 refine U.sks 3 18 false 23 hb8 rfl rfl rfl ?_
 refine U.r rfl (.none rfl) rfl rfl (by exact Rd.pk rfl rfl hb8 rfl) ?_
 refine U.ps 1 T rfl ?_
 refine U.sks 3 23 false 28 rfl rfl rfl rfl ?_
 refine U.r rfl (.none rfl) rfl rfl (by exact Rd.pk rfl rfl rfl rfl) ?_
 refine U.done ?_
 exact St.wk (hJ4 _ hm) (Wk.f [some 0] ⟨bX, trivial⟩)
 refine U.pg 3 18 false 23 hb8 T rfl rfl rfl rfl ?_
 refine U.r rfl (.none rfl) rfl rfl (by exact Rd.pk' rfl rfl hb8 rfl) ?_
 refine U.ps 1 T rfl ?_
 refine hm.cs (fun hb9 hm => ?_) (fun hb9 hm => ?_)
 refine U.sks 3 23 false 28 hb9 rfl rfl rfl ?_
 refine U.r rfl (.none rfl) rfl rfl (by exact Rd.pk rfl rfl hb9 rfl) ?_
 refine U.done ?_
 exact St.wk (hJ4 _ hm) (Wk.f [some 0] ⟨bX, trivial⟩)
 refine U.pg 3 23 false 28 hb9 T rfl rfl rfl rfl ?_
 refine U.r rfl (.none rfl) rfl rfl (by exact Rd.pk' rfl rfl hb9 rfl) ?_
 refine U.done ?_
 exact St.wk (hJ4 _ hm) (Wk.f [some 0] ⟨bX, trivial⟩)
theorem T_taquinref11_Name (s_1 : ByteArray) (post : Bool → Prop) (hm : V_taquinref11_Name s_1 post) :
    Tr Tryz.prog 34 [.v (.string s_1)] [] 0 (fun A H' k => ∃ y, post y ∧ A = (.b y) ∧ H' = [] ∧ k = 0) := by
 refine Tr.intro (n := 62) Tryz.func34 rfl Tryz.ntmps34 rfl (fun w0 ok F β hβ => ?_)
 unfold V_taquinref11_Name at hm
 refine C.seq (U.start ?_)
 refine U.ps 1 T rfl ?_
 refine U.done (C.nx (C.seq (C.seq (U.start ?_))))
 refine U.ps 1 T rfl ?_
 refine U.done (C.nx ?_)
 refine C.jn (fun (x5 : Unit) => [(0, .v (.string s_1))]) (fun (x5 : Unit) => []) 0 hm (fun x5 hm => ?_) (fun J6 hm hJ6 => ?_)
 refine C.nx (C.seq ?_)
 refine C.jn (fun (x58 : Bool) => [(2, .b x58)]) (fun (x58 : Bool) => []) 0 hm (fun x58 hm => ?_) (fun J59 hm hJ59 => ?_)
 refine C.nx (C.ret ?_)
 exact C.f0 T (rs' := [.b x58]) hβ ⟨x58, hm, rfl, rfl, rfl⟩
 refine U.start ?_
 refine U.ps 4 T rfl ?_
 refine hm.cs (fun hb60 hm => ?_) (fun hb60 hm => ?_)
 refine U.pg 3 3 true 57 hb60 T rfl rfl rfl rfl ?_
 refine U.r rfl (.none rfl) rfl rfl (by exact Rd.pk rfl rfl hb60 rfl) ?_
 refine U.ps 1 T rfl ?_
 refine U.done ?_
 exact St.wk (hJ59 _ hm) (Wk.e)
 refine U.sks 3 3 true 57 hb60 rfl rfl rfl ?_
 refine U.r rfl (.none rfl) rfl rfl (by exact Rd.pk' rfl rfl hb60 rfl) ?_
 refine U.ps 1 T rfl ?_
 refine U.done ?_
 exact St.wk (hJ59 _ hm) (Wk.e)
 refine C.block ?_
 refine St.wk (C.loop (fun (s7 : Int) => [(0, .v (.string s_1)), (3, .i s7)]) (fun (s7 : Int) => []) hm (fun s7 Y8 hm => ?_)) (Wk.e)
 refine C.seq (C.seq (U.start ?_))
 refine U.ps 4 T rfl ?_
 refine U.done (C.nx ?_)
 refine C.ite rfl hm (fun hb11 hm => ?_) (fun hb11 hm => ?_)
 refine C.skip (C.nx (C.seq (C.block (C.seq (U.start ?_)))))
 refine U.ps 2 T rfl ?_
 obtain ⟨x14, hx14, hm⟩ := hm
 refine U.r rfl (.none rfl) rfl rfl (by exact Rd.ib T rfl rfl rfl rfl hx14) ?_
 refine U.ps 1 T rfl ?_
 refine U.done (C.nx (C.seq ?_))
 refine C.jn (fun (x15 : Bool) => [(0, .v (.string s_1)), (3, .i s7), (4, .v (.int .u8 (x14.toNat : Int))), (5, .b x15)]) (fun (x15 : Bool) => []) 0 hm (fun x15 hm => ?_) (fun J16 hm hJ16 => ?_)
 refine C.nx (C.seq ?_)
 refine C.jn (fun (x18 : Bool) => [(0, .v (.string s_1)), (3, .i s7), (53, .b x18)]) (fun (x18 : Bool) => []) 0 hm (fun x18 hm => ?_) (fun J19 hm hJ19 => ?_)
 refine C.nx ?_
 refine C.ite rfl hm (fun hb53 hm => ?_) (fun hb53 hm => ?_)
 refine C.seq (U.start ?_)
 refine U.ps 1 T rfl ?_
 refine U.done (C.nx (C.ret (C.brt (C.rt (C.rt (C.brt (C.rt ?_)))))))
 exact C.f0 T (rs' := [.b false]) hβ ⟨false, hm, rfl, rfl, rfl⟩
 refine C.skip (C.bnx (C.nx (U.start ?_)))
 refine U.ps 3 T rfl ?_
 refine U.done (C.nx ?_)
 exact St.wk (C.next hm) (Wk.e)
 refine U.start ?_
 refine U.ps 3 T rfl ?_
 refine hm.cs (fun hb20 hm => ?_) (fun hb20 hm => ?_)
 refine U.pg 2 2 true 23 hb20 T rfl rfl rfl rfl ?_
 refine U.r rfl (.none rfl) rfl rfl (by exact Rd.pk rfl rfl hb20 rfl) ?_
 refine U.ps 1 T rfl ?_
 refine hm.cs (fun hb21 hm => ?_) (fun hb21 hm => ?_)
 refine U.sks 3 6 false 27 hb21 rfl rfl rfl ?_
 refine U.sku 2 9 true 30 rfl rfl rfl ?_
 refine U.sks 1 6 false 27 hb21 rfl rfl rfl ?_
 refine U.r rfl (.none rfl) rfl rfl (by exact Rd.pk rfl rfl hb21 rfl) ?_
 refine U.ps 1 T rfl ?_
 refine U.sks 1 14 false 35 rfl rfl rfl rfl ?_
 refine U.r rfl (.none rfl) rfl rfl (by exact Rd.pk rfl rfl rfl rfl) ?_
 refine U.ps 1 T rfl ?_
 refine U.sks 2 17 false 38 rfl rfl rfl rfl ?_
 refine U.r rfl (.none rfl) rfl rfl (by exact Rd.pk rfl rfl rfl rfl) ?_
 refine U.ps 1 T rfl ?_
 refine U.sks 2 21 false 42 rfl rfl rfl rfl ?_
 refine U.r rfl (.none rfl) rfl rfl (by exact Rd.pk rfl rfl rfl rfl) ?_
 refine U.ps 2 T rfl ?_
 refine U.pg 3 26 false 47 rfl T rfl rfl rfl rfl ?_
 refine hm.cs (fun hb22 hm => ?_) (fun hb22 hm => ?_)
 refine U.pg 1 29 true 50 hb22 T rfl rfl rfl rfl ?_
 refine U.r rfl (.take 26 false 47 _ rfl rfl rfl rfl) rfl rfl (by exact Rd.pk rfl rfl hb22 rfl) ?_
 refine U.r rfl (.none rfl) rfl rfl (by exact Rd.pk' rfl rfl rfl rfl) ?_
 refine U.done ?_
 exact St.wk (hJ19 _ hm) (Wk.e)
 refine U.sks 1 29 true 50 hb22 rfl rfl rfl ?_
 refine U.r rfl (.take 26 false 47 _ rfl rfl rfl rfl) rfl rfl (by exact Rd.pk' rfl rfl hb22 rfl) ?_
 refine U.r rfl (.none rfl) rfl rfl (by exact Rd.pk' rfl rfl rfl rfl) ?_
 refine U.done ?_
 exact St.wk (hJ19 _ hm) (Wk.e)
 refine U.pg 3 6 false 27 hb21 T rfl rfl rfl rfl ?_
 refine hm.cs (fun hb23 hm => ?_) (fun hb23 hm => ?_)
 refine U.pg 2 9 true 30 hb23 T rfl rfl rfl rfl ?_
 refine U.r rfl (.take 6 false 27 _ hb21 rfl rfl rfl) rfl rfl (by exact Rd.pk rfl rfl hb23 rfl) ?_
 refine U.r rfl (.none rfl) rfl rfl (by exact Rd.pk' rfl rfl hb21 rfl) ?_
 refine U.ps 1 T rfl ?_
 refine hm.cs (fun hb24 hm => ?_) (fun hb24 hm => ?_)
 refine U.sks 1 14 false 35 hb24 rfl rfl rfl ?_
 refine U.r rfl (.none rfl) rfl rfl (by exact Rd.pk rfl rfl hb24 rfl) ?_
 refine U.ps 1 T rfl ?_
 refine U.sks 2 17 false 38 rfl rfl rfl rfl ?_
 refine U.r rfl (.none rfl) rfl rfl (by exact Rd.pk rfl rfl rfl rfl) ?_
 refine U.ps 1 T rfl ?_
 refine U.sks 2 21 false 42 rfl rfl rfl rfl ?_
 refine U.r rfl (.none rfl) rfl rfl (by exact Rd.pk rfl rfl rfl rfl) ?_
 refine U.ps 2 T rfl ?_
 refine U.pg 3 26 false 47 rfl T rfl rfl rfl rfl ?_
 refine hm.cs (fun hb25 hm => ?_) (fun hb25 hm => ?_)
 refine U.pg 1 29 true 50 hb25 T rfl rfl rfl rfl ?_
 refine U.r rfl (.take 26 false 47 _ rfl rfl rfl rfl) rfl rfl (by exact Rd.pk rfl rfl hb25 rfl) ?_
 refine U.r rfl (.none rfl) rfl rfl (by exact Rd.pk' rfl rfl rfl rfl) ?_
 refine U.done ?_
 exact St.wk (hJ19 _ hm) (Wk.e)
 refine U.sks 1 29 true 50 hb25 rfl rfl rfl ?_
 refine U.r rfl (.take 26 false 47 _ rfl rfl rfl rfl) rfl rfl (by exact Rd.pk' rfl rfl hb25 rfl) ?_
 refine U.r rfl (.none rfl) rfl rfl (by exact Rd.pk' rfl rfl rfl rfl) ?_
 refine U.done ?_
 exact St.wk (hJ19 _ hm) (Wk.e)
 refine U.pg 1 14 false 35 hb24 T rfl rfl rfl rfl ?_
 refine U.r rfl (.none rfl) rfl rfl (by exact Rd.pk' rfl rfl hb24 rfl) ?_
 refine U.ps 1 T rfl ?_
 refine hm.cs (fun hb26 hm => ?_) (fun hb26 hm => ?_)
 refine U.sks 2 17 false 38 hb26 rfl rfl rfl ?_
 refine U.r rfl (.none rfl) rfl rfl (by exact Rd.pk rfl rfl hb26 rfl) ?_
 refine U.ps 1 T rfl ?_
 refine U.sks 2 21 false 42 rfl rfl rfl rfl ?_
 refine U.r rfl (.none rfl) rfl rfl (by exact Rd.pk rfl rfl rfl rfl) ?_
 refine U.ps 2 T rfl ?_
 refine U.pg 3 26 false 47 rfl T rfl rfl rfl rfl ?_
 refine hm.cs (fun hb27 hm => ?_) (fun hb27 hm => ?_)
 refine U.pg 1 29 true 50 hb27 T rfl rfl rfl rfl ?_
 refine U.r rfl (.take 26 false 47 _ rfl rfl rfl rfl) rfl rfl (by exact Rd.pk rfl rfl hb27 rfl) ?_
 refine U.r rfl (.none rfl) rfl rfl (by exact Rd.pk' rfl rfl rfl rfl) ?_
 refine U.done ?_
 exact St.wk (hJ19 _ hm) (Wk.e)
 refine U.sks 1 29 true 50 hb27 rfl rfl rfl ?_
 refine U.r rfl (.take 26 false 47 _ rfl rfl rfl rfl) rfl rfl (by exact Rd.pk' rfl rfl hb27 rfl) ?_
 refine U.r rfl (.none rfl) rfl rfl (by exact Rd.pk' rfl rfl rfl rfl) ?_
 refine U.done ?_
 exact St.wk (hJ19 _ hm) (Wk.e)
 refine U.pg 2 17 false 38 hb26 T rfl rfl rfl rfl ?_
 refine U.r rfl (.none rfl) rfl rfl (by exact Rd.pk' rfl rfl hb26 rfl) ?_
 refine U.ps 1 T rfl ?_
 refine hm.cs (fun hb28 hm => ?_) (fun hb28 hm => ?_)
 refine U.sks 2 21 false 42 hb28 rfl rfl rfl ?_
 refine U.r rfl (.none rfl) rfl rfl (by exact Rd.pk rfl rfl hb28 rfl) ?_
 refine U.ps 2 T rfl ?_
 refine U.pg 3 26 false 47 rfl T rfl rfl rfl rfl ?_
 refine hm.cs (fun hb29 hm => ?_) (fun hb29 hm => ?_)
 refine U.pg 1 29 true 50 hb29 T rfl rfl rfl rfl ?_
 refine U.r rfl (.take 26 false 47 _ rfl rfl rfl rfl) rfl rfl (by exact Rd.pk rfl rfl hb29 rfl) ?_
 refine U.r rfl (.none rfl) rfl rfl (by exact Rd.pk' rfl rfl rfl rfl) ?_
 refine U.done ?_
 exact St.wk (hJ19 _ hm) (Wk.e)
 refine U.sks 1 29 true 50 hb29 rfl rfl rfl ?_
 refine U.r rfl (.take 26 false 47 _ rfl rfl rfl rfl) rfl rfl (by exact Rd.pk' rfl rfl hb29 rfl) ?_
 refine U.r rfl (.none rfl) rfl rfl (by exact Rd.pk' rfl rfl rfl rfl) ?_
 refine U.done ?_
 exact St.wk (hJ19 _ hm) (Wk.e)
 refine U.pg 2 21 false 42 hb28 T rfl rfl rfl rfl ?_
 refine U.r rfl (.none rfl) rfl rfl (by exact Rd.pk' rfl rfl hb28 rfl) ?_
 refine U.ps 2 T rfl ?_
 refine hm.cs (fun hb30 hm => ?_) (fun hb30 hm => ?_)
 refine U.pg 3 26 false 47 (ntF hb30) T rfl rfl rfl rfl ?_
 refine hm.cs (fun hb31 hm => ?_) (fun hb31 hm => ?_)
 refine U.pg 1 29 true 50 hb31 T rfl rfl rfl rfl ?_
 refine U.r rfl (.take 26 false 47 _ (ntF hb30) rfl rfl rfl) rfl rfl (by exact Rd.pk rfl rfl hb31 rfl) ?_
 refine U.r rfl (.none rfl) rfl rfl (by exact Rd.pk' rfl rfl (ntF hb30) rfl) ?_
 refine U.done ?_
 exact St.wk (hJ19 _ hm) (Wk.e)
 refine U.sks 1 29 true 50 hb31 rfl rfl rfl ?_
 refine U.r rfl (.take 26 false 47 _ (ntF hb30) rfl rfl rfl) rfl rfl (by exact Rd.pk' rfl rfl hb31 rfl) ?_
 refine U.r rfl (.none rfl) rfl rfl (by exact Rd.pk' rfl rfl (ntF hb30) rfl) ?_
 refine U.done ?_
 exact St.wk (hJ19 _ hm) (Wk.e)
 refine U.sks 3 26 false 47 (ntT hb30) rfl rfl rfl ?_
 refine U.sku 1 29 true 50 rfl rfl rfl ?_
 refine U.sks 1 26 false 47 (ntT hb30) rfl rfl rfl ?_
 refine U.r rfl (.none rfl) rfl rfl (by exact Rd.pk rfl rfl (ntT hb30) rfl) ?_
 refine U.done ?_
 exact St.wk (hJ19 _ hm) (Wk.e)
 refine U.sks 2 9 true 30 hb23 rfl rfl rfl ?_
 refine U.r rfl (.take 6 false 27 _ hb21 rfl rfl rfl) rfl rfl (by exact Rd.pk' rfl rfl hb23 rfl) ?_
 refine U.r rfl (.none rfl) rfl rfl (by exact Rd.pk' rfl rfl hb21 rfl) ?_
 refine U.ps 1 T rfl ?_
 refine U.pg 1 14 false 35 rfl T rfl rfl rfl rfl ?_
 refine U.r rfl (.none rfl) rfl rfl (by exact Rd.pk' rfl rfl rfl rfl) ?_
 refine U.ps 1 T rfl ?_
 refine hm.cs (fun hb32 hm => ?_) (fun hb32 hm => ?_)
 refine U.sks 2 17 false 38 hb32 rfl rfl rfl ?_
 refine U.r rfl (.none rfl) rfl rfl (by exact Rd.pk rfl rfl hb32 rfl) ?_
 refine U.ps 1 T rfl ?_
 refine U.sks 2 21 false 42 rfl rfl rfl rfl ?_
 refine U.r rfl (.none rfl) rfl rfl (by exact Rd.pk rfl rfl rfl rfl) ?_
 refine U.ps 2 T rfl ?_
 refine U.pg 3 26 false 47 rfl T rfl rfl rfl rfl ?_
 refine hm.cs (fun hb33 hm => ?_) (fun hb33 hm => ?_)
 refine U.pg 1 29 true 50 hb33 T rfl rfl rfl rfl ?_
 refine U.r rfl (.take 26 false 47 _ rfl rfl rfl rfl) rfl rfl (by exact Rd.pk rfl rfl hb33 rfl) ?_
 refine U.r rfl (.none rfl) rfl rfl (by exact Rd.pk' rfl rfl rfl rfl) ?_
 refine U.done ?_
 exact St.wk (hJ19 _ hm) (Wk.e)
 refine U.sks 1 29 true 50 hb33 rfl rfl rfl ?_
 refine U.r rfl (.take 26 false 47 _ rfl rfl rfl rfl) rfl rfl (by exact Rd.pk' rfl rfl hb33 rfl) ?_
 refine U.r rfl (.none rfl) rfl rfl (by exact Rd.pk' rfl rfl rfl rfl) ?_
 refine U.done ?_
 exact St.wk (hJ19 _ hm) (Wk.e)
 refine U.pg 2 17 false 38 hb32 T rfl rfl rfl rfl ?_
 refine U.r rfl (.none rfl) rfl rfl (by exact Rd.pk' rfl rfl hb32 rfl) ?_
 refine U.ps 1 T rfl ?_
 refine hm.cs (fun hb34 hm => ?_) (fun hb34 hm => ?_)
 refine U.sks 2 21 false 42 hb34 rfl rfl rfl ?_
 refine U.r rfl (.none rfl) rfl rfl (by exact Rd.pk rfl rfl hb34 rfl) ?_
 refine U.ps 2 T rfl ?_
 refine U.pg 3 26 false 47 rfl T rfl rfl rfl rfl ?_
 refine hm.cs (fun hb35 hm => ?_) (fun hb35 hm => ?_)
 refine U.pg 1 29 true 50 hb35 T rfl rfl rfl rfl ?_
 refine U.r rfl (.take 26 false 47 _ rfl rfl rfl rfl) rfl rfl (by exact Rd.pk rfl rfl hb35 rfl) ?_
 refine U.r rfl (.none rfl) rfl rfl (by exact Rd.pk' rfl rfl rfl rfl) ?_
 refine U.done ?_
 exact St.wk (hJ19 _ hm) (Wk.e)
 refine U.sks 1 29 true 50 hb35 rfl rfl rfl ?_
 refine U.r rfl (.take 26 false 47 _ rfl rfl rfl rfl) rfl rfl (by exact Rd.pk' rfl rfl hb35 rfl) ?_
 refine U.r rfl (.none rfl) rfl rfl (by exact Rd.pk' rfl rfl rfl rfl) ?_
 refine U.done ?_
 exact St.wk (hJ19 _ hm) (Wk.e)
 refine U.pg 2 21 false 42 hb34 T rfl rfl rfl rfl ?_
 refine U.r rfl (.none rfl) rfl rfl (by exact Rd.pk' rfl rfl hb34 rfl) ?_
 refine U.ps 2 T rfl ?_
 refine hm.cs (fun hb36 hm => ?_) (fun hb36 hm => ?_)
 refine U.pg 3 26 false 47 (ntF hb36) T rfl rfl rfl rfl ?_
 refine hm.cs (fun hb37 hm => ?_) (fun hb37 hm => ?_)
 refine U.pg 1 29 true 50 hb37 T rfl rfl rfl rfl ?_
 refine U.r rfl (.take 26 false 47 _ (ntF hb36) rfl rfl rfl) rfl rfl (by exact Rd.pk rfl rfl hb37 rfl) ?_
 refine U.r rfl (.none rfl) rfl rfl (by exact Rd.pk' rfl rfl (ntF hb36) rfl) ?_
 refine U.done ?_
 exact St.wk (hJ19 _ hm) (Wk.e)
 refine U.sks 1 29 true 50 hb37 rfl rfl rfl ?_
 refine U.r rfl (.take 26 false 47 _ (ntF hb36) rfl rfl rfl) rfl rfl (by exact Rd.pk' rfl rfl hb37 rfl) ?_
 refine U.r rfl (.none rfl) rfl rfl (by exact Rd.pk' rfl rfl (ntF hb36) rfl) ?_
 refine U.done ?_
 exact St.wk (hJ19 _ hm) (Wk.e)
 refine U.sks 3 26 false 47 (ntT hb36) rfl rfl rfl ?_
 refine U.sku 1 29 true 50 rfl rfl rfl ?_
 refine U.sks 1 26 false 47 (ntT hb36) rfl rfl rfl ?_
 refine U.r rfl (.none rfl) rfl rfl (by exact Rd.pk rfl rfl (ntT hb36) rfl) ?_
 refine U.done ?_
 exact St.wk (hJ19 _ hm) (Wk.e)
 refine U.sks 2 2 true 23 hb20 rfl rfl rfl ?_
 refine U.r rfl (.none rfl) rfl rfl (by exact Rd.pk' rfl rfl hb20 rfl) ?_
 refine U.ps 1 T rfl ?_
 refine U.pg 3 6 false 27 rfl T rfl rfl rfl rfl ?_
 refine hm.cs (fun hb38 hm => ?_) (fun hb38 hm => ?_)
 refine U.pg 2 9 true 30 hb38 T rfl rfl rfl rfl ?_
 refine U.r rfl (.take 6 false 27 _ rfl rfl rfl rfl) rfl rfl (by exact Rd.pk rfl rfl hb38 rfl) ?_
 refine U.r rfl (.none rfl) rfl rfl (by exact Rd.pk' rfl rfl rfl rfl) ?_
 refine U.ps 1 T rfl ?_
 refine hm.cs (fun hb39 hm => ?_) (fun hb39 hm => ?_)
 refine U.sks 1 14 false 35 hb39 rfl rfl rfl ?_
 refine U.r rfl (.none rfl) rfl rfl (by exact Rd.pk rfl rfl hb39 rfl) ?_
 refine U.ps 1 T rfl ?_
 refine U.sks 2 17 false 38 rfl rfl rfl rfl ?_
 refine U.r rfl (.none rfl) rfl rfl (by exact Rd.pk rfl rfl rfl rfl) ?_
 refine U.ps 1 T rfl ?_
 refine U.sks 2 21 false 42 rfl rfl rfl rfl ?_
 refine U.r rfl (.none rfl) rfl rfl (by exact Rd.pk rfl rfl rfl rfl) ?_
 refine U.ps 2 T rfl ?_
 refine U.pg 3 26 false 47 rfl T rfl rfl rfl rfl ?_
 refine hm.cs (fun hb40 hm => ?_) (fun hb40 hm => ?_)
 refine U.pg 1 29 true 50 hb40 T rfl rfl rfl rfl ?_
 refine U.r rfl (.take 26 false 47 _ rfl rfl rfl rfl) rfl rfl (by exact Rd.pk rfl rfl hb40 rfl) ?_
 refine U.r rfl (.none rfl) rfl rfl (by exact Rd.pk' rfl rfl rfl rfl) ?_
 refine U.done ?_
 exact St.wk (hJ19 _ hm) (Wk.e)
 refine U.sks 1 29 true 50 hb40 rfl rfl rfl ?_
 refine U.r rfl (.take 26 false 47 _ rfl rfl rfl rfl) rfl rfl (by exact Rd.pk' rfl rfl hb40 rfl) ?_
 refine U.r rfl (.none rfl) rfl rfl (by exact Rd.pk' rfl rfl rfl rfl) ?_
 refine U.done ?_
 exact St.wk (hJ19 _ hm) (Wk.e)
 refine U.pg 1 14 false 35 hb39 T rfl rfl rfl rfl ?_
 refine U.r rfl (.none rfl) rfl rfl (by exact Rd.pk' rfl rfl hb39 rfl) ?_
 refine U.ps 1 T rfl ?_
 refine hm.cs (fun hb41 hm => ?_) (fun hb41 hm => ?_)
 refine U.sks 2 17 false 38 hb41 rfl rfl rfl ?_
 refine U.r rfl (.none rfl) rfl rfl (by exact Rd.pk rfl rfl hb41 rfl) ?_
 refine U.ps 1 T rfl ?_
 refine U.sks 2 21 false 42 rfl rfl rfl rfl ?_
 refine U.r rfl (.none rfl) rfl rfl (by exact Rd.pk rfl rfl rfl rfl) ?_
 refine U.ps 2 T rfl ?_
 refine U.pg 3 26 false 47 rfl T rfl rfl rfl rfl ?_
 refine hm.cs (fun hb42 hm => ?_) (fun hb42 hm => ?_)
 refine U.pg 1 29 true 50 hb42 T rfl rfl rfl rfl ?_
 refine U.r rfl (.take 26 false 47 _ rfl rfl rfl rfl) rfl rfl (by exact Rd.pk rfl rfl hb42 rfl) ?_
 refine U.r rfl (.none rfl) rfl rfl (by exact Rd.pk' rfl rfl rfl rfl) ?_
 refine U.done ?_
 exact St.wk (hJ19 _ hm) (Wk.e)
 refine U.sks 1 29 true 50 hb42 rfl rfl rfl ?_
 refine U.r rfl (.take 26 false 47 _ rfl rfl rfl rfl) rfl rfl (by exact Rd.pk' rfl rfl hb42 rfl) ?_
 refine U.r rfl (.none rfl) rfl rfl (by exact Rd.pk' rfl rfl rfl rfl) ?_
 refine U.done ?_
 exact St.wk (hJ19 _ hm) (Wk.e)
 refine U.pg 2 17 false 38 hb41 T rfl rfl rfl rfl ?_
 refine U.r rfl (.none rfl) rfl rfl (by exact Rd.pk' rfl rfl hb41 rfl) ?_
 refine U.ps 1 T rfl ?_
 refine hm.cs (fun hb43 hm => ?_) (fun hb43 hm => ?_)
 refine U.sks 2 21 false 42 hb43 rfl rfl rfl ?_
 refine U.r rfl (.none rfl) rfl rfl (by exact Rd.pk rfl rfl hb43 rfl) ?_
 refine U.ps 2 T rfl ?_
 refine U.pg 3 26 false 47 rfl T rfl rfl rfl rfl ?_
 refine hm.cs (fun hb44 hm => ?_) (fun hb44 hm => ?_)
 refine U.pg 1 29 true 50 hb44 T rfl rfl rfl rfl ?_
 refine U.r rfl (.take 26 false 47 _ rfl rfl rfl rfl) rfl rfl (by exact Rd.pk rfl rfl hb44 rfl) ?_
 refine U.r rfl (.none rfl) rfl rfl (by exact Rd.pk' rfl rfl rfl rfl) ?_
 refine U.done ?_
 exact St.wk (hJ19 _ hm) (Wk.e)
 refine U.sks 1 29 true 50 hb44 rfl rfl rfl ?_
 refine U.r rfl (.take 26 false 47 _ rfl rfl rfl rfl) rfl rfl (by exact Rd.pk' rfl rfl hb44 rfl) ?_
 refine U.r rfl (.none rfl) rfl rfl (by exact Rd.pk' rfl rfl rfl rfl) ?_
 refine U.done ?_
 exact St.wk (hJ19 _ hm) (Wk.e)
 refine U.pg 2 21 false 42 hb43 T rfl rfl rfl rfl ?_
 refine U.r rfl (.none rfl) rfl rfl (by exact Rd.pk' rfl rfl hb43 rfl) ?_
 refine U.ps 2 T rfl ?_
 refine hm.cs (fun hb45 hm => ?_) (fun hb45 hm => ?_)
 refine U.pg 3 26 false 47 (ntF hb45) T rfl rfl rfl rfl ?_
 refine hm.cs (fun hb46 hm => ?_) (fun hb46 hm => ?_)
 refine U.pg 1 29 true 50 hb46 T rfl rfl rfl rfl ?_
 refine U.r rfl (.take 26 false 47 _ (ntF hb45) rfl rfl rfl) rfl rfl (by exact Rd.pk rfl rfl hb46 rfl) ?_
 refine U.r rfl (.none rfl) rfl rfl (by exact Rd.pk' rfl rfl (ntF hb45) rfl) ?_
 refine U.done ?_
 exact St.wk (hJ19 _ hm) (Wk.e)
 refine U.sks 1 29 true 50 hb46 rfl rfl rfl ?_
 refine U.r rfl (.take 26 false 47 _ (ntF hb45) rfl rfl rfl) rfl rfl (by exact Rd.pk' rfl rfl hb46 rfl) ?_
 refine U.r rfl (.none rfl) rfl rfl (by exact Rd.pk' rfl rfl (ntF hb45) rfl) ?_
 refine U.done ?_
 exact St.wk (hJ19 _ hm) (Wk.e)
 refine U.sks 3 26 false 47 (ntT hb45) rfl rfl rfl ?_
 refine U.sku 1 29 true 50 rfl rfl rfl ?_
 refine U.sks 1 26 false 47 (ntT hb45) rfl rfl rfl ?_
 refine U.r rfl (.none rfl) rfl rfl (by exact Rd.pk rfl rfl (ntT hb45) rfl) ?_
 refine U.done ?_
 exact St.wk (hJ19 _ hm) (Wk.e)
 refine U.sks 2 9 true 30 hb38 rfl rfl rfl ?_
 refine U.r rfl (.take 6 false 27 _ rfl rfl rfl rfl) rfl rfl (by exact Rd.pk' rfl rfl hb38 rfl) ?_
 refine U.r rfl (.none rfl) rfl rfl (by exact Rd.pk' rfl rfl rfl rfl) ?_
 refine U.ps 1 T rfl ?_
 refine U.pg 1 14 false 35 rfl T rfl rfl rfl rfl ?_
 refine U.r rfl (.none rfl) rfl rfl (by exact Rd.pk' rfl rfl rfl rfl) ?_
 refine U.ps 1 T rfl ?_
 refine hm.cs (fun hb47 hm => ?_) (fun hb47 hm => ?_)
 refine U.sks 2 17 false 38 hb47 rfl rfl rfl ?_
 refine U.r rfl (.none rfl) rfl rfl (by exact Rd.pk rfl rfl hb47 rfl) ?_
 refine U.ps 1 T rfl ?_
 refine U.sks 2 21 false 42 rfl rfl rfl rfl ?_
 refine U.r rfl (.none rfl) rfl rfl (by exact Rd.pk rfl rfl rfl rfl) ?_
 refine U.ps 2 T rfl ?_
 refine U.pg 3 26 false 47 rfl T rfl rfl rfl rfl ?_
 refine hm.cs (fun hb48 hm => ?_) (fun hb48 hm => ?_)
 refine U.pg 1 29 true 50 hb48 T rfl rfl rfl rfl ?_
 refine U.r rfl (.take 26 false 47 _ rfl rfl rfl rfl) rfl rfl (by exact Rd.pk rfl rfl hb48 rfl) ?_
 refine U.r rfl (.none rfl) rfl rfl (by exact Rd.pk' rfl rfl rfl rfl) ?_
 refine U.done ?_
 exact St.wk (hJ19 _ hm) (Wk.e)
 refine U.sks 1 29 true 50 hb48 rfl rfl rfl ?_
 refine U.r rfl (.take 26 false 47 _ rfl rfl rfl rfl) rfl rfl (by exact Rd.pk' rfl rfl hb48 rfl) ?_
 refine U.r rfl (.none rfl) rfl rfl (by exact Rd.pk' rfl rfl rfl rfl) ?_
 refine U.done ?_
 exact St.wk (hJ19 _ hm) (Wk.e)
 refine U.pg 2 17 false 38 hb47 T rfl rfl rfl rfl ?_
 refine U.r rfl (.none rfl) rfl rfl (by exact Rd.pk' rfl rfl hb47 rfl) ?_
 refine U.ps 1 T rfl ?_
 refine hm.cs (fun hb49 hm => ?_) (fun hb49 hm => ?_)
 refine U.sks 2 21 false 42 hb49 rfl rfl rfl ?_
 refine U.r rfl (.none rfl) rfl rfl (by exact Rd.pk rfl rfl hb49 rfl) ?_
 refine U.ps 2 T rfl ?_
 refine U.pg 3 26 false 47 rfl T rfl rfl rfl rfl ?_
 refine hm.cs (fun hb50 hm => ?_) (fun hb50 hm => ?_)
 refine U.pg 1 29 true 50 hb50 T rfl rfl rfl rfl ?_
 refine U.r rfl (.take 26 false 47 _ rfl rfl rfl rfl) rfl rfl (by exact Rd.pk rfl rfl hb50 rfl) ?_
 refine U.r rfl (.none rfl) rfl rfl (by exact Rd.pk' rfl rfl rfl rfl) ?_
 refine U.done ?_
 exact St.wk (hJ19 _ hm) (Wk.e)
 refine U.sks 1 29 true 50 hb50 rfl rfl rfl ?_
 refine U.r rfl (.take 26 false 47 _ rfl rfl rfl rfl) rfl rfl (by exact Rd.pk' rfl rfl hb50 rfl) ?_
 refine U.r rfl (.none rfl) rfl rfl (by exact Rd.pk' rfl rfl rfl rfl) ?_
 refine U.done ?_
 exact St.wk (hJ19 _ hm) (Wk.e)
 refine U.pg 2 21 false 42 hb49 T rfl rfl rfl rfl ?_
 refine U.r rfl (.none rfl) rfl rfl (by exact Rd.pk' rfl rfl hb49 rfl) ?_
 refine U.ps 2 T rfl ?_
 refine hm.cs (fun hb51 hm => ?_) (fun hb51 hm => ?_)
 refine U.pg 3 26 false 47 (ntF hb51) T rfl rfl rfl rfl ?_
 refine hm.cs (fun hb52 hm => ?_) (fun hb52 hm => ?_)
 refine U.pg 1 29 true 50 hb52 T rfl rfl rfl rfl ?_
 refine U.r rfl (.take 26 false 47 _ (ntF hb51) rfl rfl rfl) rfl rfl (by exact Rd.pk rfl rfl hb52 rfl) ?_
 refine U.r rfl (.none rfl) rfl rfl (by exact Rd.pk' rfl rfl (ntF hb51) rfl) ?_
 refine U.done ?_
 exact St.wk (hJ19 _ hm) (Wk.e)
 refine U.sks 1 29 true 50 hb52 rfl rfl rfl ?_
 refine U.r rfl (.take 26 false 47 _ (ntF hb51) rfl rfl rfl) rfl rfl (by exact Rd.pk' rfl rfl hb52 rfl) ?_
 refine U.r rfl (.none rfl) rfl rfl (by exact Rd.pk' rfl rfl (ntF hb51) rfl) ?_
 refine U.done ?_
 exact St.wk (hJ19 _ hm) (Wk.e)
 refine U.sks 3 26 false 47 (ntT hb51) rfl rfl rfl ?_
 refine U.sku 1 29 true 50 rfl rfl rfl ?_
 refine U.sks 1 26 false 47 (ntT hb51) rfl rfl rfl ?_
 refine U.r rfl (.none rfl) rfl rfl (by exact Rd.pk rfl rfl (ntT hb51) rfl) ?_
 refine U.done ?_
 exact St.wk (hJ19 _ hm) (Wk.e)
 refine U.start ?_
 refine U.ps 3 T rfl ?_
 refine hm.cs (fun hb17 hm => ?_) (fun hb17 hm => ?_)
 refine U.pg 2 2 true 17 hb17 T rfl rfl rfl rfl ?_
 refine U.r rfl (.none rfl) rfl rfl (by exact Rd.pk rfl rfl hb17 rfl) ?_
 refine U.ps 1 T rfl ?_
 refine U.done ?_
 exact St.wk (hJ16 _ hm) (Wk.e)
 refine U.sks 2 2 true 17 hb17 rfl rfl rfl ?_
 refine U.r rfl (.none rfl) rfl rfl (by exact Rd.pk' rfl rfl hb17 rfl) ?_
 refine U.ps 1 T rfl ?_
 refine U.done ?_
 exact St.wk (hJ16 _ hm) (Wk.e)
 refine C.exit (C.ex (C.ex (C.bex ?_)))
 exact St.wk (hJ6 _ hm) (Wk.e)
theorem T_taquinref11_named (l : List ApiZone) (name : ByteArray) (post : Int → Prop) (hm : V_taquinref11_named l name post) :
    Tr Tryz.prog 67 [.sl 5 eApiZone l, .v (.string name)] [] 0 (fun A H' k => ∃ y, post y ∧ A = (.i y) ∧ H' = [] ∧ k = 0) := by
 refine Tr.intro (n := 20) Tryz.func67 rfl Tryz.ntmps67 rfl (fun w0 ok F β hβ => ?_)
 unfold V_taquinref11_named at hm
 refine C.seq (U.start ?_)
 refine U.ps 1 T rfl ?_
 refine U.done (C.nx (C.seq (C.seq (U.start ?_))))
 refine U.ps 1 T rfl ?_
 refine U.done (C.nx ?_)
 refine C.jn (fun (x5 : Unit) => []) (fun (x5 : Unit) => []) 0 hm (fun x5 hm => ?_) (fun J6 hm hJ6 => ?_)
 refine C.nx (C.seq (U.start ?_))
 refine U.ps 1 T rfl ?_
 refine U.done (C.nx (C.ret ?_))
 exact C.f0 T (rs' := [.i (-1)]) hβ ⟨(-1), hm, rfl, rfl, rfl⟩
 refine C.block ?_
 refine St.wk (C.loop (fun (s7 : Int) => [(0, .sl 5 eApiZone l), (1, .v (.string name)), (5, .i s7)]) (fun (s7 : Int) => []) hm (fun s7 Y8 hm => ?_)) (Wk.e)
 refine C.seq (C.seq (U.start ?_))
 refine U.ps 4 T rfl ?_
 refine U.done (C.nx ?_)
 refine C.ite rfl hm (fun hb11 hm => ?_) (fun hb11 hm => ?_)
 refine C.skip (C.nx (C.seq (C.block (C.seq (U.start ?_)))))
 refine U.ps 2 T rfl ?_
 obtain ⟨x14, hx14, hm⟩ := hm
 refine U.r rfl (.none rfl) rfl rfl (by exact Rd.ix T rfl rfl rfl rfl rfl rfl hx14) ?_
 refine U.ps 4 T rfl ?_
 refine U.done (C.nx ?_)
 refine C.ite rfl hm (fun hb15 hm => ?_) (fun hb15 hm => ?_)
 refine C.seq (U.start ?_)
 refine U.ps 2 T rfl ?_
 refine U.done (C.nx (C.ret (C.brt (C.rt (C.rt (C.brt (C.rt ?_)))))))
 exact C.f0 T (rs' := [.i s7]) hβ ⟨s7, hm, rfl, rfl, rfl⟩
 refine C.skip (C.bnx (C.nx (U.start ?_)))
 refine U.ps 3 T rfl ?_
 refine U.done (C.nx ?_)
 exact St.wk (C.next hm) (Wk.e)
 refine C.exit (C.ex (C.ex (C.bex ?_)))
 exact St.wk (hJ6 _ hm) (Wk.mk' [] rfl rfl trivial trivial rfl)
theorem T_taquinref11_spans (l : List ApiSpan) (post : Bool → Prop) (hm : V_taquinref11_spans l post) :
    Tr Tryz.prog 68 [.sl 2 eApiSpan l] [] 0 (fun A H' k => ∃ y, post y ∧ A = (.b y) ∧ H' = [] ∧ k = 0) := by
 refine Tr.intro (n := 44) Tryz.func68 rfl Tryz.ntmps68 rfl (fun w0 ok F β hβ => ?_)
 unfold V_taquinref11_spans at hm
 refine C.seq (U.start ?_)
 refine U.ps 1 T rfl ?_
 refine U.done (C.nx (C.seq (U.start ?_)))
 refine U.ps 1 T rfl ?_
 refine U.done (C.nx (C.seq (C.seq (U.start ?_))))
 refine U.ps 1 T rfl ?_
 refine U.done (C.nx ?_)
 refine C.jn (fun (x7 : Unit) => []) (fun (x7 : Unit) => []) 0 hm (fun x7 hm => ?_) (fun J8 hm hJ8 => ?_)
 refine C.nx (C.seq (U.start ?_))
 refine U.ps 1 T rfl ?_
 refine U.done (C.nx (C.ret ?_))
 exact C.f0 T (rs' := [.b true]) hβ ⟨true, hm, rfl, rfl, rfl⟩
 refine C.block ?_
 refine St.wk (C.loop (fun (s9 : Int × Int) => [(0, .sl 2 eApiSpan l), (3, .i s9.1), (4, .i s9.2)]) (fun (s9 : Int × Int) => []) hm (fun s9 Y10 hm => ?_)) (Wk.e)
 refine C.seq (C.seq (U.start ?_))
 refine U.ps 4 T rfl ?_
 refine U.done (C.nx ?_)
 refine C.ite rfl hm (fun hb13 hm => ?_) (fun hb13 hm => ?_)
 refine C.skip (C.nx (C.seq (C.block (C.seq (C.seq ?_)))))
 refine C.jn (fun (x14 : Bool) => [(0, .sl 2 eApiSpan l), (4, .i s9.2), (38, .b x14)]) (fun (x14 : Bool) => []) 0 hm (fun x14 hm => ?_) (fun J15 hm hJ15 => ?_)
 refine C.nx ?_
 refine C.ite rfl hm (fun hb19 hm => ?_) (fun hb19 hm => ?_)
 refine C.seq (U.start ?_)
 refine U.ps 1 T rfl ?_
 refine U.done (C.nx (C.ret (C.rt (C.brt (C.rt (C.rt (C.brt (C.rt ?_))))))))
 exact C.f0 T (rs' := [.b false]) hβ ⟨false, hm, rfl, rfl, rfl⟩
 refine C.skip (C.nx (U.start ?_))
 refine U.ps 2 T rfl ?_
 obtain ⟨x24, hx24, hm⟩ := hm
 refine U.r rfl (.none rfl) rfl rfl (by exact Rd.ix T rfl rfl rfl rfl rfl rfl hx24) ?_
 refine U.ps 3 T rfl ?_
 refine U.done (C.bnx (C.nx (U.start ?_)))
 refine U.ps 3 T rfl ?_
 refine U.done (C.nx ?_)
 exact St.wk (C.next hm) (Wk.e)
 refine D.beg 9999 [] [] mix rfl rfl (by kernel_rfl) (by repeat (first | exact NoPanicQ.body | exact NoPanicQ.rnd | refine NoPanicQ.th ?_ | refine NoPanicQ.blk ?_)) (fun hQ hS ws M' => ?_)
 refine D.ps 2 [(0, []), (1, [])] rfl hQ hS T rfl rfl (by kernel_rfl) ?_
 obtain ⟨x16, hx16, hm⟩ := hm
 refine D.q 2 [] hQ hS rfl (.none rfl) rfl rfl (by exact Rd.ix T rfl rfl rfl rfl rfl rfl hx16) rfl (by kernel_rfl) ?_
 refine D.ps 5 [(3, []), (4, []), (5, []), (6, []), (7, [])] rfl hQ hS T rfl rfl (by kernel_rfl) ?_
 refine hm.cs (fun hb17 hm => ?_) (fun hb17 hm => ?_)
 refine D.sq 8 [] hQ hS rfl (.skip 7 false 18 _ hb17 rfl rfl rfl) rfl rfl (by kernel_rfl) ?_
 refine D.sq 9 [] hQ hS rfl (.skip 7 false 18 _ hb17 rfl rfl rfl) rfl rfl (by kernel_rfl) ?_
 refine D.sq 10 [] hQ hS rfl (.skip 7 false 18 _ hb17 rfl rfl rfl) rfl rfl (by kernel_rfl) ?_
 refine D.sq 11 [] hQ hS rfl (.skip 7 false 18 _ hb17 rfl rfl rfl) rfl rfl (by kernel_rfl) ?_
 refine D.sq 12 [] hQ hS rfl (.skip 7 false 18 _ hb17 rfl rfl rfl) rfl rfl (by kernel_rfl) ?_
 refine D.sq 13 [] hQ hS rfl (.skip 7 false 18 _ hb17 rfl rfl rfl) rfl rfl (by kernel_rfl) ?_
 refine D.sq 14 [] hQ hS rfl (.skip 7 false 18 _ hb17 rfl rfl rfl) rfl rfl (by kernel_rfl) ?_
 refine D.sq 15 [] hQ hS rfl (.skip 7 false 18 _ hb17 rfl rfl rfl) rfl rfl (by kernel_rfl) ?_
 refine D.sq 16 [] hQ hS rfl (.skip 7 false 18 _ hb17 rfl rfl rfl) rfl rfl (by kernel_rfl) ?_
 refine D.sq 17 [] hQ hS rfl (.skip 7 false 18 _ hb17 rfl rfl rfl) rfl rfl (by kernel_rfl) ?_
 refine D.sq 18 [] hQ hS rfl (.skip 7 false 18 _ hb17 rfl rfl rfl) rfl rfl (by kernel_rfl) ?_
 refine D.q 19 [] hQ hS rfl (.none rfl) rfl rfl (by exact Rd.pk rfl rfl hb17 rfl) rfl (by kernel_rfl) ?_
 refine D.ps 1 [(20, [])] rfl hQ hS T rfl rfl (by kernel_rfl) ?_
 refine D.sq 21 [] hQ hS rfl (.skip 20 false 31 _ rfl rfl rfl rfl) rfl rfl (by kernel_rfl) ?_
 refine D.sq 22 [] hQ hS rfl (.skip 20 false 31 _ rfl rfl rfl rfl) rfl rfl (by kernel_rfl) ?_
 refine D.sq 23 [] hQ hS rfl (.skip 20 false 31 _ rfl rfl rfl rfl) rfl rfl (by kernel_rfl) ?_
 refine D.sq 24 [] hQ hS rfl (.skip 20 false 31 _ rfl rfl rfl rfl) rfl rfl (by kernel_rfl) ?_
 refine D.sq 25 [] hQ hS rfl (.skip 20 false 31 _ rfl rfl rfl rfl) rfl rfl (by kernel_rfl) ?_
 refine D.sq 26 [] hQ hS rfl (.skip 20 false 31 _ rfl rfl rfl rfl) rfl rfl (by kernel_rfl) ?_
 refine D.q 27 [] hQ hS rfl (.none rfl) rfl rfl (by exact Rd.pk rfl rfl rfl rfl) rfl (by kernel_rfl) ?_
 refine D.done (by kernel_rfl) ?_
 exact St.wk (hJ15 _ hm) (Wk.e)
 refine D.q 8 [] hQ hS rfl (.take 7 false 18 _ hb17 rfl rfl rfl) rfl rfl (by exact Rd.p T rfl) rfl (by kernel_rfl) ?_
 refine D.q 9 [] hQ hS rfl (.take 7 false 18 _ hb17 rfl rfl rfl) rfl rfl (by exact Rd.p T rfl) rfl (by kernel_rfl) ?_
 refine D.q 10 [] hQ hS rfl (.take 7 false 18 _ hb17 rfl rfl rfl) rfl rfl (by exact Rd.ix T rfl rfl rfl rfl rfl rfl hx16) rfl (by kernel_rfl) ?_
 refine D.q 11 [] hQ hS rfl (.take 7 false 18 _ hb17 rfl rfl rfl) rfl rfl (by exact Rd.p T rfl) rfl (by kernel_rfl) ?_
 refine D.q 12 [] hQ hS rfl (.take 7 false 18 _ hb17 rfl rfl rfl) rfl rfl (by exact Rd.l T rfl rfl rfl) rfl (by kernel_rfl) ?_
 refine D.q 13 [] hQ hS rfl (.take 7 false 18 _ hb17 rfl rfl rfl) rfl rfl (by exact Rd.p T rfl) rfl (by kernel_rfl) ?_
 refine D.q 14 [] hQ hS rfl (.take 7 false 18 _ hb17 rfl rfl rfl) rfl rfl (by exact Rd.p T rfl) rfl (by kernel_rfl) ?_
 refine D.q 15 [] hQ hS rfl (.take 7 false 18 _ hb17 rfl rfl rfl) rfl rfl (by exact Rd.ix T rfl rfl rfl rfl rfl rfl hx16) rfl (by kernel_rfl) ?_
 refine D.q 16 [] hQ hS rfl (.take 7 false 18 _ hb17 rfl rfl rfl) rfl rfl (by exact Rd.p T rfl) rfl (by kernel_rfl) ?_
 refine D.q 17 [] hQ hS rfl (.take 7 false 18 _ hb17 rfl rfl rfl) rfl rfl (by exact Rd.l T rfl rfl rfl) rfl (by kernel_rfl) ?_
 refine D.q 18 [] hQ hS rfl (.take 7 false 18 _ hb17 rfl rfl rfl) rfl rfl (by exact Rd.p T rfl) rfl (by kernel_rfl) ?_
 refine D.q 19 [] hQ hS rfl (.none rfl) rfl rfl (by exact Rd.pk' rfl rfl hb17 rfl) rfl (by kernel_rfl) ?_
 refine D.ps 1 [(20, [])] rfl hQ hS T rfl rfl (by kernel_rfl) ?_
 refine hm.cs (fun hb18 hm => ?_) (fun hb18 hm => ?_)
 refine D.sq 21 [] hQ hS rfl (.skip 20 false 31 _ hb18 rfl rfl rfl) rfl rfl (by kernel_rfl) ?_
 refine D.sq 22 [] hQ hS rfl (.skip 20 false 31 _ hb18 rfl rfl rfl) rfl rfl (by kernel_rfl) ?_
 refine D.sq 23 [] hQ hS rfl (.skip 20 false 31 _ hb18 rfl rfl rfl) rfl rfl (by kernel_rfl) ?_
 refine D.sq 24 [] hQ hS rfl (.skip 20 false 31 _ hb18 rfl rfl rfl) rfl rfl (by kernel_rfl) ?_
 refine D.sq 25 [] hQ hS rfl (.skip 20 false 31 _ hb18 rfl rfl rfl) rfl rfl (by kernel_rfl) ?_
 refine D.sq 26 [] hQ hS rfl (.skip 20 false 31 _ hb18 rfl rfl rfl) rfl rfl (by kernel_rfl) ?_
 refine D.q 27 [] hQ hS rfl (.none rfl) rfl rfl (by exact Rd.pk rfl rfl hb18 rfl) rfl (by kernel_rfl) ?_
 refine D.done (by kernel_rfl) ?_
 exact St.wk (hJ15 _ hm) (Wk.e)
 refine D.q 21 [] hQ hS rfl (.take 20 false 31 _ hb18 rfl rfl rfl) rfl rfl (by exact Rd.p T rfl) rfl (by kernel_rfl) ?_
 refine D.q 22 [] hQ hS rfl (.take 20 false 31 _ hb18 rfl rfl rfl) rfl rfl (by exact Rd.p T rfl) rfl (by kernel_rfl) ?_
 refine D.q 23 [] hQ hS rfl (.take 20 false 31 _ hb18 rfl rfl rfl) rfl rfl (by exact Rd.ix T rfl rfl rfl rfl rfl rfl hx16) rfl (by kernel_rfl) ?_
 refine D.q 24 [] hQ hS rfl (.take 20 false 31 _ hb18 rfl rfl rfl) rfl rfl (by exact Rd.p T rfl) rfl (by kernel_rfl) ?_
 refine D.q 25 [] hQ hS rfl (.take 20 false 31 _ hb18 rfl rfl rfl) rfl rfl (by exact Rd.l T rfl rfl rfl) rfl (by kernel_rfl) ?_
 refine D.q 26 [] hQ hS rfl (.take 20 false 31 _ hb18 rfl rfl rfl) rfl rfl (by exact Rd.p T rfl) rfl (by kernel_rfl) ?_
 refine D.q 27 [] hQ hS rfl (.none rfl) rfl rfl (by exact Rd.pk' rfl rfl hb18 rfl) rfl (by kernel_rfl) ?_
 refine D.done (by kernel_rfl) ?_
 exact St.wk (hJ15 _ hm) (Wk.e)
 refine C.exit (C.ex (C.ex (C.bex ?_)))
 exact St.wk (hJ8 _ hm) (Wk.mk' [] rfl rfl trivial trivial rfl)
theorem T_taquinref07_Size (f : ApiFloor) (post : Int → Prop) (hm : V_taquinref07_Size f post) :
    Tr Tryz.prog 71 [.agg (eApiFloor f)] [] 0 (fun A H' k => ∃ y, post y ∧ A = (.i y) ∧ H' = [] ∧ k = 0) := by
 refine Tr.intro (n := 11) Tryz.func71 rfl Tryz.ntmps71 rfl (fun w0 ok F β hβ => ?_)
 unfold V_taquinref07_Size at hm
 refine C.seq (U.start ?_)
 refine U.e1 rfl (.none rfl) (by exact Eff1.box rfl rfl rfl rfl rfl) ?_
 refine U.ps 1 T rfl ?_
 refine U.done (C.nx (C.seq (U.start ?_)))
 refine U.ps 9 T rfl ?_
 refine U.done (C.nx (C.ret ?_))
 exact C.f0 T (rs' := [.i (w64 ((w64 (f.W * f.H)) * f.D))]) hβ ⟨w64 ((w64 (f.W * f.H)) * f.D), hm, rfl, rfl, rfl⟩
theorem T_taquinref07_Is (f : ApiFloor) (c : Int) (post : Bool → Prop) (hm : V_taquinref07_Is f c post) :
    Tr Tryz.prog 36 [.agg (eApiFloor f), .i c] [] 0 (fun A H' k => ∃ y, post y ∧ A = (.b y) ∧ H' = [] ∧ k = 0) := by
 refine Tr.intro (n := 13) Tryz.func36 rfl Tryz.ntmps36 rfl (fun w0 ok F β hβ => ?_)
 unfold V_taquinref07_Is at hm
 refine C.seq (U.start ?_)
 refine U.e1 rfl (.none rfl) (by exact Eff1.box rfl rfl rfl rfl rfl) ?_
 refine U.ps 1 T rfl ?_
 refine U.done (C.nx (C.seq ?_))
 refine C.jn (fun (x3 : Bool) => [(4, .b x3)]) (fun (x3 : Bool) => []) 0 hm (fun x3 hm => ?_) (fun J4 hm hJ4 => ?_)
 refine C.nx (C.ret ?_)
 exact C.f0 T (rs' := [.b x3]) hβ ⟨x3, hm, rfl, rfl, rfl⟩
 refine U.start ?_
 refine U.ps 3 T rfl ?_
 refine hm.cs (fun hb5 hm => ?_) (fun hb5 hm => ?_)
 refine U.pg 2 2 true 7 hb5 T rfl rfl rfl rfl ?_
 refine U.e rfl (.take 2 true 7 _ hb5 rfl rfl rfl) (by exact Eff.k (T_taquinref07_Size f _ hm) en71 rfl rfl rfl (.eq rfl) (fun _ _ => ⟨(.v _), trivial⟩)) (fun x6' hm => ?_)
 obtain ⟨x6⟩ := x6'
 refine U.pg 1 2 true 7 hb5 T rfl rfl rfl rfl ?_
 refine U.r rfl (.none rfl) rfl rfl (by exact Rd.pk rfl rfl hb5 rfl) ?_
 refine U.ps 1 T rfl ?_
 refine U.done ?_
 exact St.wk (hJ4 _ hm) (Wk.e)
 refine U.sks 4 2 true 7 hb5 rfl rfl rfl ?_
 refine U.r rfl (.none rfl) rfl rfl (by exact Rd.pk' rfl rfl hb5 rfl) ?_
 refine U.ps 1 T rfl ?_
 refine U.done ?_
 exact St.wk (hJ4 _ hm) (Wk.e)
theorem T_taquinref11_zoned (kind : Int) (post : Bool → Prop) (hm : V_taquinref11_zoned kind post) :
    Tr Tryz.prog 69 [.i kind] [] 0 (fun A H' k => ∃ y, post y ∧ A = (.b y) ∧ H' = [] ∧ k = 0) := by
 refine Tr.intro (n := 13) Tryz.func69 rfl Tryz.ntmps69 rfl (fun w0 ok F β hβ => ?_)
 unfold V_taquinref11_zoned at hm
 refine C.seq (U.start ?_)
 refine U.ps 1 T rfl ?_
 refine U.done (C.nx (C.seq ?_))
 refine C.jn (fun (x3 : Bool) => [(2, .b x3)]) (fun (x3 : Bool) => []) 0 hm (fun x3 hm => ?_) (fun J4 hm hJ4 => ?_)
 refine C.nx (C.ret ?_)
 exact C.f0 T (rs' := [.b x3]) hβ ⟨x3, hm, rfl, rfl, rfl⟩
 refine U.start ?_
 refine U.ps 3 T rfl ?_
 refine hm.cs (fun hb5 hm => ?_) (fun hb5 hm => ?_)
 refine U.pg 2 2 true 5 hb5 T rfl rfl rfl rfl ?_
 refine U.r rfl (.none rfl) rfl rfl (by exact Rd.pk rfl rfl hb5 rfl) ?_
 refine U.ps 1 T rfl ?_
 refine hm.cs (fun hb6 hm => ?_) (fun hb6 hm => ?_)
 refine U.pg 2 6 true 9 hb6 T rfl rfl rfl rfl ?_
 refine U.r rfl (.none rfl) rfl rfl (by exact Rd.pk rfl rfl hb6 rfl) ?_
 refine U.ps 1 T rfl ?_
 refine U.done ?_
 exact St.wk (hJ4 _ hm) (Wk.e)
 refine U.sks 2 6 true 9 hb6 rfl rfl rfl ?_
 refine U.r rfl (.none rfl) rfl rfl (by exact Rd.pk' rfl rfl hb6 rfl) ?_
 refine U.ps 1 T rfl ?_
 refine U.done ?_
 exact St.wk (hJ4 _ hm) (Wk.e)
 refine U.sks 2 2 true 5 hb5 rfl rfl rfl ?_
 refine U.r rfl (.none rfl) rfl rfl (by exact Rd.pk' rfl rfl hb5 rfl) ?_
 refine U.ps 1 T rfl ?_
 refine U.sks 2 6 true 9 rfl rfl rfl rfl ?_
 refine U.r rfl (.none rfl) rfl rfl (by exact Rd.pk' rfl rfl rfl rfl) ?_
 refine U.ps 1 T rfl ?_
 refine U.done ?_
 exact St.wk (hJ4 _ hm) (Wk.e)
theorem T_taquinref07_Has (l : List Int) (n : Int) (post : Bool → Prop) (hm : V_taquinref07_Has l n post) :
    Tr Tryz.prog 73 [.sl 1 eI l, .i n] [] 0 (fun A H' k => ∃ y, post y ∧ A = (.b y) ∧ H' = [] ∧ k = 0) := by
 refine Tr.intro (n := 18) Tryz.func73 rfl Tryz.ntmps73 rfl (fun w0 ok F β hβ => ?_)
 unfold V_taquinref07_Has at hm
 refine C.seq (U.start ?_)
 refine U.ps 1 T rfl ?_
 refine U.done (C.nx (C.seq (C.seq (U.start ?_))))
 refine U.ps 1 T rfl ?_
 refine U.done (C.nx ?_)
 refine C.jn (fun (x5 : Unit) => []) (fun (x5 : Unit) => []) 0 hm (fun x5 hm => ?_) (fun J6 hm hJ6 => ?_)
 refine C.nx (C.seq (U.start ?_))
 refine U.ps 1 T rfl ?_
 refine U.done (C.nx (C.ret ?_))
 exact C.f0 T (rs' := [.b false]) hβ ⟨false, hm, rfl, rfl, rfl⟩
 refine C.block ?_
 refine St.wk (C.loop (fun (s7 : Int) => [(0, .sl 1 eI l), (1, .i n), (5, .i s7)]) (fun (s7 : Int) => []) hm (fun s7 Y8 hm => ?_)) (Wk.e)
 refine C.seq (C.seq (U.start ?_))
 refine U.ps 4 T rfl ?_
 refine U.done (C.nx ?_)
 refine C.ite rfl hm (fun hb11 hm => ?_) (fun hb11 hm => ?_)
 refine C.skip (C.nx (C.seq (C.block (C.seq (U.start ?_)))))
 refine U.ps 2 T rfl ?_
 obtain ⟨x14, hx14, hm⟩ := hm
 refine U.r rfl (.none rfl) rfl rfl (by exact Rd.ix T rfl rfl rfl rfl rfl rfl hx14) ?_
 refine U.ps 3 T rfl ?_
 refine U.done (C.nx ?_)
 refine C.ite rfl hm (fun hb15 hm => ?_) (fun hb15 hm => ?_)
 refine C.seq (U.start ?_)
 refine U.ps 1 T rfl ?_
 refine U.done (C.nx (C.ret (C.brt (C.rt (C.rt (C.brt (C.rt ?_)))))))
 exact C.f0 T (rs' := [.b true]) hβ ⟨true, hm, rfl, rfl, rfl⟩
 refine C.skip (C.bnx (C.nx (U.start ?_)))
 refine U.ps 3 T rfl ?_
 refine U.done (C.nx ?_)
 exact St.wk (C.next hm) (Wk.e)
 refine C.exit (C.ex (C.ex (C.bex ?_)))
 exact St.wk (hJ6 _ hm) (Wk.mk' [] rfl rfl trivial trivial rfl)
theorem T_taquinref11_zoneAt (l : List ApiZone) (c : Int) (post : Bool → Prop) (hm : V_taquinref11_zoneAt l c post) :
    Tr Tryz.prog 70 [.sl 5 eApiZone l, .i c] [] 0 (fun A H' k => ∃ y, post y ∧ A = (.b y) ∧ H' = [] ∧ k = 0) := by
 refine Tr.intro (n := 19) Tryz.func70 rfl Tryz.ntmps70 rfl (fun w0 ok F β hβ => ?_)
 unfold V_taquinref11_zoneAt at hm
 refine C.seq (U.start ?_)
 refine U.ps 1 T rfl ?_
 refine U.done (C.nx (C.seq (C.seq (U.start ?_))))
 refine U.ps 1 T rfl ?_
 refine U.done (C.nx ?_)
 refine C.jn (fun (x5 : Unit) => []) (fun (x5 : Unit) => []) 0 hm (fun x5 hm => ?_) (fun J6 hm hJ6 => ?_)
 refine C.nx (C.seq (U.start ?_))
 refine U.ps 1 T rfl ?_
 refine U.done (C.nx (C.ret ?_))
 exact C.f0 T (rs' := [.b false]) hβ ⟨false, hm, rfl, rfl, rfl⟩
 refine C.block ?_
 refine St.wk (C.loop (fun (s7 : Int) => [(0, .sl 5 eApiZone l), (1, .i c), (5, .i s7)]) (fun (s7 : Int) => []) hm (fun s7 Y8 hm => ?_)) (Wk.e)
 refine C.seq (C.seq (U.start ?_))
 refine U.ps 4 T rfl ?_
 refine U.done (C.nx ?_)
 refine C.ite rfl hm (fun hb11 hm => ?_) (fun hb11 hm => ?_)
 refine C.skip (C.nx (C.seq (C.block (C.seq (U.start ?_)))))
 refine U.ps 2 T rfl ?_
 obtain ⟨x14, hx14, hm⟩ := hm
 refine U.r rfl (.none rfl) rfl rfl (by exact Rd.ix T rfl rfl rfl rfl rfl rfl hx14) ?_
 refine U.ps 3 T rfl ?_
 refine U.e rfl (.none rfl) (by exact Eff.k (T_taquinref07_Has x14.Cells c _ hm) en73 rfl rfl rfl (.eq rfl) (fun _ _ => ⟨(.v _), trivial⟩)) (fun x15' hm => ?_)
 obtain ⟨x15⟩ := x15'
 refine U.done (C.nx ?_)
 refine C.ite rfl hm (fun hb16 hm => ?_) (fun hb16 hm => ?_)
 refine C.seq (U.start ?_)
 refine U.ps 1 T rfl ?_
 refine U.done (C.nx (C.ret (C.brt (C.rt (C.rt (C.brt (C.rt ?_)))))))
 exact C.f0 T (rs' := [.b true]) hβ ⟨true, hm, rfl, rfl, rfl⟩
 refine C.skip (C.bnx (C.nx (U.start ?_)))
 refine U.ps 3 T rfl ?_
 refine U.done (C.nx ?_)
 exact St.wk (C.next hm) (Wk.e)
 refine C.exit (C.ex (C.ex (C.bex ?_)))
 exact St.wk (hJ6 _ hm) (Wk.mk' [] rfl rfl trivial trivial rfl)
end Go.Proofs.YtbekicmmgohfbaaGreat
