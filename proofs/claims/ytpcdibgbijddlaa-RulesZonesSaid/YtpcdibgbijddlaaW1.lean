/- The walks: each Go function does what its verification condition says (written by a program of the prover). -/
import Derived.Test.YtpcdibgbijddlaaW0
import Derived.KernelRfl
set_option maxRecDepth 100000
set_option maxHeartbeats 8000000
set_option linter.unusedVariables false
set_option linter.unusedSimpArgs false
namespace Go.Proofs.Ytpcdibgbijddlaa
open Go Go.Taq
theorem T_survey_maker_addApart__p0 (x_1 : ApiApart) (m : SurveyMaker) (post : (Int × SurveyMaker) → Prop) (hm : V_survey_maker_addApart__p0 x_1 m post) :
    Tr Try.prog 68 [.p 0 0, .agg [.v (.string x_1.A), .v (.string x_1.B)]] [(0, .box [.i m.site.Floor.W, .i m.site.Floor.H, .i m.site.Floor.D, .sl 1 eI m.site.Floor.Kind, .sl 1 eI m.site.Floor.Out, .o 1, .o 2, .o 3, .o 4, .o 5, .o 6, .o 7, .o 8, .o 9, .o 10, .o 11]), (1, .val (.os 5 eApiZone m.site.Zones)), (2, .val (.os 2 eApiApart m.site.Aparts)), (3, .val (.os 2 eApiShelf m.site.Shelves)), (4, .val (.os 2 eApiStart m.site.Robots)), (5, .val (.om kI veI m.shelf)), (6, .val (.om kI veB m.robot)), (7, .val (.om kI veB m.zoned)), (8, .val (.om kS veI m.names)), (9, .val (.om kI veB m.oneways)), (10, .val (.os 1 eI m.shelves)), (11, .val (.os 1 eI m.zones))] 12 (fun A H' k => ∃ y, post y ∧ A = (.i y.1) ∧ H' = [(0, .box [.i y.2.site.Floor.W, .i y.2.site.Floor.H, .i y.2.site.Floor.D, .sl 1 eI y.2.site.Floor.Kind, .sl 1 eI y.2.site.Floor.Out, .o 12, .o 13, .o 14, .o 15, .o 16, .o 17, .o 18, .o 19, .o 20, .o 21, .o 22]), (12, .val (.os 5 eApiZone y.2.site.Zones)), (13, .val (.os 2 eApiApart y.2.site.Aparts)), (14, .val (.os 2 eApiShelf y.2.site.Shelves)), (15, .val (.os 2 eApiStart y.2.site.Robots)), (16, .val (.om kI veI y.2.shelf)), (17, .val (.om kI veB y.2.robot)), (18, .val (.om kI veB y.2.zoned)), (19, .val (.om kS veI y.2.names)), (20, .val (.om kI veB y.2.oneways)), (21, .val (.os 1 eI y.2.shelves)), (22, .val (.os 1 eI y.2.zones))] ∧ k = 23) := by
 refine Tr.intro (n := 37) Try.func68 rfl Try.ntmps68 rfl (fun w0 ok F β hβ => ?_)
 unfold V_survey_maker_addApart__p0 at hm
 refine C.seq (U.start ?_)
 refine U.e1 rfl (.none rfl) (by exact Eff1.box rfl rfl rfl rfl rfl) ?_
 refine U.ps 1 T rfl ?_
 refine U.done (C.nx (C.seq (C.seq ?_)))
 refine C.jn (fun (x3 : Bool) => [(0, .p 0 0), (3, .p 12 0), (14, .b x3)]) (fun (x3 : Bool) => [(0, .box [.i m.site.Floor.W, .i m.site.Floor.H, .i m.site.Floor.D, .sl 1 eI m.site.Floor.Kind, .sl 1 eI m.site.Floor.Out, .o 1, .o 2, .o 3, .o 4, .o 5, .o 6, .o 7, .o 8, .o 9, .o 10, .o 11]), (1, .val (.os 5 eApiZone m.site.Zones)), (2, .val (.os 2 eApiApart m.site.Aparts)), (3, .val (.os 2 eApiShelf m.site.Shelves)), (4, .val (.os 2 eApiStart m.site.Robots)), (5, .val (.om kI veI m.shelf)), (6, .val (.om kI veB m.robot)), (7, .val (.om kI veB m.zoned)), (8, .val (.om kS veI m.names)), (9, .val (.om kI veB m.oneways)), (10, .val (.os 1 eI m.shelves)), (11, .val (.os 1 eI m.zones)), (12, .box [.v (.string x_1.A), .v (.string x_1.B)])]) 13 hm (fun x3 hm => ?_) (fun J4 hm hJ4 => ?_)
 refine C.nx ?_
 refine C.ite rfl hm (fun hb8 hm => ?_) (fun hb8 hm => ?_)
 refine C.seq (U.start ?_)
 refine U.ps 1 T rfl ?_
 refine U.done (C.nx (C.ret (C.rt ?_)))
 exact C.fin T (rs' := [.i ((12, m).1)]) (H' := [(0, .box [.i (((12, m).2).site.Floor.W), .i (((12, m).2).site.Floor.H), .i (((12, m).2).site.Floor.D), .sl 1 eI (((12, m).2).site.Floor.Kind), .sl 1 eI (((12, m).2).site.Floor.Out), .o 12, .o 13, .o 14, .o 15, .o 16, .o 17, .o 18, .o 19, .o 20, .o 21, .o 22]), (12, .val (.os 5 eApiZone (((12, m).2).site.Zones))), (13, .val (.os 2 eApiApart (((12, m).2).site.Aparts))), (14, .val (.os 2 eApiShelf (((12, m).2).site.Shelves))), (15, .val (.os 2 eApiStart (((12, m).2).site.Robots))), (16, .val (.om kI veI (((12, m).2).shelf))), (17, .val (.om kI veB (((12, m).2).robot))), (18, .val (.om kI veB (((12, m).2).zoned))), (19, .val (.om kS veI (((12, m).2).names))), (20, .val (.om kI veB (((12, m).2).oneways))), (21, .val (.os 1 eI (((12, m).2).shelves))), (22, .val (.os 1 eI (((12, m).2).zones)))]) (nl' := 23) [some 0, some 1, some 2, some 3, some 4, some 5, some 6, some 7, some 8, some 9, some 10, some 11, some 1, some 2, some 3, some 4, some 5, some 6, some 7, some 8, some 9, some 10, some 11] rfl rfl (.eq rfl) ⟨bX, vL, vL, vL, vL, vL, vL, vL, vL, vL, vL, vL, trivial⟩ rfl rfl rfl rfl hβ ⟨(12, m), hm, rfl, rfl, rfl⟩
 refine C.skip (C.nx (C.seq (C.seq ?_)))
 refine D.beg 9 [0, 12] [] mix rfl rfl (by kernel_rfl) (by repeat (first | exact NoPanicQ.body | exact NoPanicQ.rnd | refine NoPanicQ.th ?_ | refine NoPanicQ.blk ?_)) (fun hQ hS ws M' => ?_)
 refine D.ps 9 [(0, [4, 3, 2, 1]), (1, [4, 3, 2]), (2, [4, 3]), (3, [4]), (4, []), (5, [6]), (6, []), (7, [8]), (8, [])] rfl hQ hS T rfl rfl (by kernel_rfl) ?_
 refine D.ze rfl (.none rfl) (by exact Eff.k (T_survey_Apart m.site.Aparts x_1.A x_1.B _ hm) en90 rfl rfl rfl (.cons (.fz rfl rfl rfl (.os fun _ => .cons (.ro rfl) (.cons (.ro rfl) .nil))) (.eq rfl)) (fun _ _ => ⟨(.v _), trivial⟩)) (by kernel_rfl) (by kernel_rfl) (fun x13' hm => ?_)
 obtain ⟨x13⟩ := x13'
 refine C.nx ?_
 refine C.ite rfl hm (fun hb14 hm => ?_) (fun hb14 hm => ?_)
 refine C.seq (U.start ?_)
 refine U.ps 1 T rfl ?_
 refine U.done (C.nx (C.ret (C.rt ?_)))
 exact C.fin T (rs' := [.i ((5, m).1)]) (H' := [(0, .box [.i (((5, m).2).site.Floor.W), .i (((5, m).2).site.Floor.H), .i (((5, m).2).site.Floor.D), .sl 1 eI (((5, m).2).site.Floor.Kind), .sl 1 eI (((5, m).2).site.Floor.Out), .o 12, .o 13, .o 14, .o 15, .o 16, .o 17, .o 18, .o 19, .o 20, .o 21, .o 22]), (12, .val (.os 5 eApiZone (((5, m).2).site.Zones))), (13, .val (.os 2 eApiApart (((5, m).2).site.Aparts))), (14, .val (.os 2 eApiShelf (((5, m).2).site.Shelves))), (15, .val (.os 2 eApiStart (((5, m).2).site.Robots))), (16, .val (.om kI veI (((5, m).2).shelf))), (17, .val (.om kI veB (((5, m).2).robot))), (18, .val (.om kI veB (((5, m).2).zoned))), (19, .val (.om kS veI (((5, m).2).names))), (20, .val (.om kI veB (((5, m).2).oneways))), (21, .val (.os 1 eI (((5, m).2).shelves))), (22, .val (.os 1 eI (((5, m).2).zones)))]) (nl' := 23) [some 0, some 1, some 2, some 3, some 4, some 5, some 6, some 7, some 8, some 9, some 10, some 11, some 1, some 2, some 3, some 4, some 5, some 6, some 7, some 8, some 9, some 10, some 11] rfl rfl (.eq rfl) ⟨bX, vL, vL, vL, vL, vL, vL, vL, vL, vL, vL, vL, trivial⟩ rfl rfl rfl rfl hβ ⟨(5, m), hm, rfl, rfl, rfl⟩
 refine C.skip (C.nx (C.seq ?_))
 refine D.beg 12 [0, 12] [2] mix rfl rfl (by kernel_rfl) (by repeat (first | exact NoPanicQ.body | exact NoPanicQ.rnd | refine NoPanicQ.th ?_ | refine NoPanicQ.blk ?_)) (fun hQ hS ws M' => ?_)
 refine D.ps 7 [(0, []), (1, []), (2, []), (3, []), (4, []), (5, []), (6, [])] rfl hQ hS T rfl rfl (by kernel_rfl) ?_
 refine D.e1 7 rfl (.none rfl) (by exact Eff1.bs T (enc := eApiApart) (xs := ([x_1] : List ApiApart)) rfl rfl rfl rfl rfl rfl rfl rfl rfl rfl (fun _ _ => rfl) rfl rfl) (by kernel_rfl) rfl rfl ?_
 obtain ⟨hx19, hm⟩ := hm
 refine D.e1 8 rfl (.none rfl) (by exact Eff1.ap T rfl rfl rfl rfl rfl rfl (.inr ⟨_, rfl, rfl⟩) rfl rfl rfl (fun _ => rfl) rfl hx19) (by kernel_rfl) rfl rfl ?_
 refine D.ps 3 [(9, [11, 10]), (10, [11]), (11, [])] rfl hQ hS T rfl rfl (by kernel_rfl) ?_
 refine D.ze1 rfl (.none rfl) (by exact Eff1.st T rfl rfl rfl rfl rfl rfl rfl rfl rfl rfl) (by kernel_rfl) (by kernel_rfl) ?_
 refine C.nx (C.seq (U.start ?_))
 refine U.ps 1 T rfl ?_
 refine U.done (C.nx (C.ret ?_))
 exact C.fin T (rs' := [.i ((0, ({ site := ({ Floor := m.site.Floor, Zones := m.site.Zones, Aparts := (m.site.Aparts ++ ([x_1] : List ApiApart)), Shelves := m.site.Shelves, Robots := m.site.Robots : ApiSite }), shelf := m.shelf, robot := m.robot, zoned := m.zoned, names := m.names, oneways := m.oneways, shelves := m.shelves, zones := m.zones : SurveyMaker })).1)]) (H' := [(0, .box [.i (((0, ({ site := ({ Floor := m.site.Floor, Zones := m.site.Zones, Aparts := (m.site.Aparts ++ ([x_1] : List ApiApart)), Shelves := m.site.Shelves, Robots := m.site.Robots : ApiSite }), shelf := m.shelf, robot := m.robot, zoned := m.zoned, names := m.names, oneways := m.oneways, shelves := m.shelves, zones := m.zones : SurveyMaker })).2).site.Floor.W), .i (((0, ({ site := ({ Floor := m.site.Floor, Zones := m.site.Zones, Aparts := (m.site.Aparts ++ ([x_1] : List ApiApart)), Shelves := m.site.Shelves, Robots := m.site.Robots : ApiSite }), shelf := m.shelf, robot := m.robot, zoned := m.zoned, names := m.names, oneways := m.oneways, shelves := m.shelves, zones := m.zones : SurveyMaker })).2).site.Floor.H), .i (((0, ({ site := ({ Floor := m.site.Floor, Zones := m.site.Zones, Aparts := (m.site.Aparts ++ ([x_1] : List ApiApart)), Shelves := m.site.Shelves, Robots := m.site.Robots : ApiSite }), shelf := m.shelf, robot := m.robot, zoned := m.zoned, names := m.names, oneways := m.oneways, shelves := m.shelves, zones := m.zones : SurveyMaker })).2).site.Floor.D), .sl 1 eI (((0, ({ site := ({ Floor := m.site.Floor, Zones := m.site.Zones, Aparts := (m.site.Aparts ++ ([x_1] : List ApiApart)), Shelves := m.site.Shelves, Robots := m.site.Robots : ApiSite }), shelf := m.shelf, robot := m.robot, zoned := m.zoned, names := m.names, oneways := m.oneways, shelves := m.shelves, zones := m.zones : SurveyMaker })).2).site.Floor.Kind), .sl 1 eI (((0, ({ site := ({ Floor := m.site.Floor, Zones := m.site.Zones, Aparts := (m.site.Aparts ++ ([x_1] : List ApiApart)), Shelves := m.site.Shelves, Robots := m.site.Robots : ApiSite }), shelf := m.shelf, robot := m.robot, zoned := m.zoned, names := m.names, oneways := m.oneways, shelves := m.shelves, zones := m.zones : SurveyMaker })).2).site.Floor.Out), .o 12, .o 13, .o 14, .o 15, .o 16, .o 17, .o 18, .o 19, .o 20, .o 21, .o 22]), (12, .val (.os 5 eApiZone (((0, ({ site := ({ Floor := m.site.Floor, Zones := m.site.Zones, Aparts := (m.site.Aparts ++ ([x_1] : List ApiApart)), Shelves := m.site.Shelves, Robots := m.site.Robots : ApiSite }), shelf := m.shelf, robot := m.robot, zoned := m.zoned, names := m.names, oneways := m.oneways, shelves := m.shelves, zones := m.zones : SurveyMaker })).2).site.Zones))), (13, .val (.os 2 eApiApart (((0, ({ site := ({ Floor := m.site.Floor, Zones := m.site.Zones, Aparts := (m.site.Aparts ++ ([x_1] : List ApiApart)), Shelves := m.site.Shelves, Robots := m.site.Robots : ApiSite }), shelf := m.shelf, robot := m.robot, zoned := m.zoned, names := m.names, oneways := m.oneways, shelves := m.shelves, zones := m.zones : SurveyMaker })).2).site.Aparts))), (14, .val (.os 2 eApiShelf (((0, ({ site := ({ Floor := m.site.Floor, Zones := m.site.Zones, Aparts := (m.site.Aparts ++ ([x_1] : List ApiApart)), Shelves := m.site.Shelves, Robots := m.site.Robots : ApiSite }), shelf := m.shelf, robot := m.robot, zoned := m.zoned, names := m.names, oneways := m.oneways, shelves := m.shelves, zones := m.zones : SurveyMaker })).2).site.Shelves))), (15, .val (.os 2 eApiStart (((0, ({ site := ({ Floor := m.site.Floor, Zones := m.site.Zones, Aparts := (m.site.Aparts ++ ([x_1] : List ApiApart)), Shelves := m.site.Shelves, Robots := m.site.Robots : ApiSite }), shelf := m.shelf, robot := m.robot, zoned := m.zoned, names := m.names, oneways := m.oneways, shelves := m.shelves, zones := m.zones : SurveyMaker })).2).site.Robots))), (16, .val (.om kI veI (((0, ({ site := ({ Floor := m.site.Floor, Zones := m.site.Zones, Aparts := (m.site.Aparts ++ ([x_1] : List ApiApart)), Shelves := m.site.Shelves, Robots := m.site.Robots : ApiSite }), shelf := m.shelf, robot := m.robot, zoned := m.zoned, names := m.names, oneways := m.oneways, shelves := m.shelves, zones := m.zones : SurveyMaker })).2).shelf))), (17, .val (.om kI veB (((0, ({ site := ({ Floor := m.site.Floor, Zones := m.site.Zones, Aparts := (m.site.Aparts ++ ([x_1] : List ApiApart)), Shelves := m.site.Shelves, Robots := m.site.Robots : ApiSite }), shelf := m.shelf, robot := m.robot, zoned := m.zoned, names := m.names, oneways := m.oneways, shelves := m.shelves, zones := m.zones : SurveyMaker })).2).robot))), (18, .val (.om kI veB (((0, ({ site := ({ Floor := m.site.Floor, Zones := m.site.Zones, Aparts := (m.site.Aparts ++ ([x_1] : List ApiApart)), Shelves := m.site.Shelves, Robots := m.site.Robots : ApiSite }), shelf := m.shelf, robot := m.robot, zoned := m.zoned, names := m.names, oneways := m.oneways, shelves := m.shelves, zones := m.zones : SurveyMaker })).2).zoned))), (19, .val (.om kS veI (((0, ({ site := ({ Floor := m.site.Floor, Zones := m.site.Zones, Aparts := (m.site.Aparts ++ ([x_1] : List ApiApart)), Shelves := m.site.Shelves, Robots := m.site.Robots : ApiSite }), shelf := m.shelf, robot := m.robot, zoned := m.zoned, names := m.names, oneways := m.oneways, shelves := m.shelves, zones := m.zones : SurveyMaker })).2).names))), (20, .val (.om kI veB (((0, ({ site := ({ Floor := m.site.Floor, Zones := m.site.Zones, Aparts := (m.site.Aparts ++ ([x_1] : List ApiApart)), Shelves := m.site.Shelves, Robots := m.site.Robots : ApiSite }), shelf := m.shelf, robot := m.robot, zoned := m.zoned, names := m.names, oneways := m.oneways, shelves := m.shelves, zones := m.zones : SurveyMaker })).2).oneways))), (21, .val (.os 1 eI (((0, ({ site := ({ Floor := m.site.Floor, Zones := m.site.Zones, Aparts := (m.site.Aparts ++ ([x_1] : List ApiApart)), Shelves := m.site.Shelves, Robots := m.site.Robots : ApiSite }), shelf := m.shelf, robot := m.robot, zoned := m.zoned, names := m.names, oneways := m.oneways, shelves := m.shelves, zones := m.zones : SurveyMaker })).2).shelves))), (22, .val (.os 1 eI (((0, ({ site := ({ Floor := m.site.Floor, Zones := m.site.Zones, Aparts := (m.site.Aparts ++ ([x_1] : List ApiApart)), Shelves := m.site.Shelves, Robots := m.site.Robots : ApiSite }), shelf := m.shelf, robot := m.robot, zoned := m.zoned, names := m.names, oneways := m.oneways, shelves := m.shelves, zones := m.zones : SurveyMaker })).2).zones)))]) (nl' := 23) [some 0, some 1, some 2, some 3, some 4, some 5, some 6, some 7, some 8, some 9, some 10, some 11, some 1, some 14, some 3, some 4, some 5, some 6, some 7, some 8, some 9, some 10, some 11] rfl rfl (.eq rfl) ⟨bX, vL, vL, vL, vL, vL, vL, vL, vL, vL, vL, vL, trivial⟩ rfl rfl rfl rfl hβ ⟨(0, ({ site := ({ Floor := m.site.Floor, Zones := m.site.Zones, Aparts := (m.site.Aparts ++ ([x_1] : List ApiApart)), Shelves := m.site.Shelves, Robots := m.site.Robots : ApiSite }), shelf := m.shelf, robot := m.robot, zoned := m.zoned, names := m.names, oneways := m.oneways, shelves := m.shelves, zones := m.zones : SurveyMaker })), hm, rfl, rfl, rfl⟩
 refine U.start ?_
 refine U.ps 2 T rfl ?_
 refine U.e rfl (.none rfl) (by exact Eff.k (T_survey_Name x_1.A _ hm) en63 rfl rfl rfl (.eq rfl) (fun _ _ => ⟨(.v _), trivial⟩)) (fun x5' hm => ?_)
 obtain ⟨x5⟩ := x5'
 refine U.ps 2 T rfl ?_
 refine hm.cs (fun hb6 hm => ?_) (fun hb6 hm => ?_)
 refine U.pg 2 4 false 9 (ntF hb6) T rfl rfl rfl rfl ?_
 refine U.e rfl (.take 4 false 9 _ (ntF hb6) rfl rfl rfl) (by exact Eff.k (T_survey_Name x_1.B _ hm) en63 rfl rfl rfl (.eq rfl) (fun _ _ => ⟨(.v _), trivial⟩)) (fun x7' hm => ?_)
 obtain ⟨x7⟩ := x7'
 refine U.pg 1 4 false 9 (ntF hb6) T rfl rfl rfl rfl ?_
 refine U.r rfl (.none rfl) rfl rfl (by exact Rd.pk' rfl rfl (ntF hb6) rfl) ?_
 refine U.done ?_
 exact St.wk (hJ4 _ hm) (Wk.f [some 0, some 1, some 2, some 3, some 4, some 5, some 6, some 7, some 8, some 9, some 10, some 11, some 12] ⟨bX, vL, vL, vL, vL, vL, vL, vL, vL, vL, vL, vL, bX, trivial⟩)
 refine U.sks 4 4 false 9 (ntT hb6) rfl rfl rfl ?_
 refine U.r rfl (.none rfl) rfl rfl (by exact Rd.pk rfl rfl (ntT hb6) rfl) ?_
 refine U.done ?_
 exact St.wk (hJ4 _ hm) (Wk.f [some 0, some 1, some 2, some 3, some 4, some 5, some 6, some 7, some 8, some 9, some 10, some 11, some 12] ⟨bX, vL, vL, vL, vL, vL, vL, vL, vL, vL, vL, vL, bX, trivial⟩)
theorem T_survey_stands (kind : Int) (post : Bool → Prop) (hm : V_survey_stands kind post) :
    Tr Try.prog 91 [.i kind] [] 0 (fun A H' k => ∃ y, post y ∧ A = (.b y) ∧ H' = [] ∧ k = 0) := by
 refine Tr.intro (n := 9) Try.func91 rfl Try.ntmps91 rfl (fun w0 ok F β hβ => ?_)
 unfold V_survey_stands at hm
 refine C.seq (U.start ?_)
 refine U.ps 1 T rfl ?_
 refine U.done (C.nx (C.seq ?_))
 refine C.jn (fun (x3 : Bool) => [(2, .b x3)]) (fun (x3 : Bool) => []) 0 hm (fun x3 hm => ?_) (fun J4 hm hJ4 => ?_)
 refine C.nx (C.ret ?_)
 exact C.f0 T (rs' := [.b x3]) hβ ⟨x3, hm, rfl, rfl, rfl⟩
 refine U.start ?_
 refine U.ps 3 T rfl ?_
 refine hm.cs (fun hb5 hm => ?_) (fun hb5 hm => ?_)
 refine U.sks 2 2 false 5 hb5 rfl rfl rfl ?_
 refine U.r rfl (.none rfl) rfl rfl (by exact Rd.pk rfl rfl hb5 rfl) ?_
 refine U.ps 1 T rfl ?_
 refine U.done ?_
 exact St.wk (hJ4 _ hm) (Wk.e)
 refine U.pg 2 2 false 5 hb5 T rfl rfl rfl rfl ?_
 refine U.r rfl (.none rfl) rfl rfl (by exact Rd.pk' rfl rfl hb5 rfl) ?_
 refine U.ps 1 T rfl ?_
 refine U.done ?_
 exact St.wk (hJ4 _ hm) (Wk.e)
theorem T_survey_maker_addShelf__p0 (x_1 : ApiShelf) (m : SurveyMaker) (post : (Int × SurveyMaker) → Prop) (hm : V_survey_maker_addShelf__p0 x_1 m post) :
    Tr Try.prog 69 [.p 0 0, .agg [.i x_1.Cell, .v (.string x_1.Class)]] [(0, .box [.i m.site.Floor.W, .i m.site.Floor.H, .i m.site.Floor.D, .sl 1 eI m.site.Floor.Kind, .sl 1 eI m.site.Floor.Out, .o 1, .o 2, .o 3, .o 4, .o 5, .o 6, .o 7, .o 8, .o 9, .o 10, .o 11]), (1, .val (.os 5 eApiZone m.site.Zones)), (2, .val (.os 2 eApiApart m.site.Aparts)), (3, .val (.os 2 eApiShelf m.site.Shelves)), (4, .val (.os 2 eApiStart m.site.Robots)), (5, .val (.om kI veI m.shelf)), (6, .val (.om kI veB m.robot)), (7, .val (.om kI veB m.zoned)), (8, .val (.om kS veI m.names)), (9, .val (.om kI veB m.oneways)), (10, .val (.os 1 eI m.shelves)), (11, .val (.os 1 eI m.zones))] 12 (fun A H' k => ∃ y, post y ∧ A = (.i y.1) ∧ H' = [(0, .box [.i y.2.site.Floor.W, .i y.2.site.Floor.H, .i y.2.site.Floor.D, .sl 1 eI y.2.site.Floor.Kind, .sl 1 eI y.2.site.Floor.Out, .o 12, .o 13, .o 14, .o 15, .o 16, .o 17, .o 18, .o 19, .o 20, .o 21, .o 22]), (12, .val (.os 5 eApiZone y.2.site.Zones)), (13, .val (.os 2 eApiApart y.2.site.Aparts)), (14, .val (.os 2 eApiShelf y.2.site.Shelves)), (15, .val (.os 2 eApiStart y.2.site.Robots)), (16, .val (.om kI veI y.2.shelf)), (17, .val (.om kI veB y.2.robot)), (18, .val (.om kI veB y.2.zoned)), (19, .val (.om kS veI y.2.names)), (20, .val (.om kI veB y.2.oneways)), (21, .val (.os 1 eI y.2.shelves)), (22, .val (.os 1 eI y.2.zones))] ∧ k = 23) := by
 refine Tr.intro (n := 72) Try.func69 rfl Try.ntmps69 rfl (fun w0 ok F β hβ => ?_)
 unfold V_survey_maker_addShelf__p0 at hm
 refine C.seq (U.start ?_)
 refine U.e1 rfl (.none rfl) (by exact Eff1.box rfl rfl rfl rfl rfl) ?_
 refine U.ps 1 T rfl ?_
 refine U.done (C.nx (C.seq (C.seq ?_)))
 refine C.jn (fun (x3 : Bool) => [(0, .p 0 0), (3, .p 12 0), (17, .b x3)]) (fun (x3 : Bool) => [(0, .box [.i m.site.Floor.W, .i m.site.Floor.H, .i m.site.Floor.D, .sl 1 eI m.site.Floor.Kind, .sl 1 eI m.site.Floor.Out, .o 1, .o 2, .o 3, .o 4, .o 5, .o 6, .o 7, .o 8, .o 9, .o 10, .o 11]), (1, .val (.os 5 eApiZone m.site.Zones)), (2, .val (.os 2 eApiApart m.site.Aparts)), (3, .val (.os 2 eApiShelf m.site.Shelves)), (4, .val (.os 2 eApiStart m.site.Robots)), (5, .val (.om kI veI m.shelf)), (6, .val (.om kI veB m.robot)), (7, .val (.om kI veB m.zoned)), (8, .val (.om kS veI m.names)), (9, .val (.om kI veB m.oneways)), (10, .val (.os 1 eI m.shelves)), (11, .val (.os 1 eI m.zones)), (12, .box [.i x_1.Cell, .v (.string x_1.Class)])]) 13 hm (fun x3 hm => ?_) (fun J4 hm hJ4 => ?_)
 refine C.nx ?_
 refine C.ite rfl hm (fun hb7 hm => ?_) (fun hb7 hm => ?_)
 refine C.seq (U.start ?_)
 refine U.ps 1 T rfl ?_
 refine U.done (C.nx (C.ret (C.rt ?_)))
 exact C.fin T (rs' := [.i ((12, m).1)]) (H' := [(0, .box [.i (((12, m).2).site.Floor.W), .i (((12, m).2).site.Floor.H), .i (((12, m).2).site.Floor.D), .sl 1 eI (((12, m).2).site.Floor.Kind), .sl 1 eI (((12, m).2).site.Floor.Out), .o 12, .o 13, .o 14, .o 15, .o 16, .o 17, .o 18, .o 19, .o 20, .o 21, .o 22]), (12, .val (.os 5 eApiZone (((12, m).2).site.Zones))), (13, .val (.os 2 eApiApart (((12, m).2).site.Aparts))), (14, .val (.os 2 eApiShelf (((12, m).2).site.Shelves))), (15, .val (.os 2 eApiStart (((12, m).2).site.Robots))), (16, .val (.om kI veI (((12, m).2).shelf))), (17, .val (.om kI veB (((12, m).2).robot))), (18, .val (.om kI veB (((12, m).2).zoned))), (19, .val (.om kS veI (((12, m).2).names))), (20, .val (.om kI veB (((12, m).2).oneways))), (21, .val (.os 1 eI (((12, m).2).shelves))), (22, .val (.os 1 eI (((12, m).2).zones)))]) (nl' := 23) [some 0, some 1, some 2, some 3, some 4, some 5, some 6, some 7, some 8, some 9, some 10, some 11, some 1, some 2, some 3, some 4, some 5, some 6, some 7, some 8, some 9, some 10, some 11] rfl rfl (.eq rfl) ⟨bX, vL, vL, vL, vL, vL, vL, vL, vL, vL, vL, vL, trivial⟩ rfl rfl rfl rfl hβ ⟨(12, m), hm, rfl, rfl, rfl⟩
 refine C.skip (C.nx (C.seq (U.start ?_)))
 refine U.ps 3 T rfl ?_
 refine U.e rfl (.none rfl) (by exact Eff.k (T_survey_maker_kindAt m x_1.Cell _ hm) en88 rfl rfl rfl (.cons (.fzp rfl rfl rfl rfl (.cons (.eq rfl) (.cons (.eq rfl) (.cons (.eq rfl) (.cons (.eq rfl) (.cons (.eq rfl) (.cons (.fz rfl rfl rfl (.os fun _ => .cons (.ro rfl) (.cons (.ro rfl) (.cons (.ro rfl) (.cons (.ro rfl) (.cons (.ro rfl) .nil)))))) (.cons (.fz rfl rfl rfl (.os fun _ => .cons (.ro rfl) (.cons (.ro rfl) .nil))) (.cons (.fz rfl rfl rfl (.os fun _ => .cons (.ro rfl) (.cons (.ro rfl) .nil))) (.cons (.fz rfl rfl rfl (.os fun _ => .cons (.ro rfl) (.cons (.ro rfl) .nil))) (.cons (.fz rfl rfl rfl (.om fun _ => .ro rfl)) (.cons (.fz rfl rfl rfl (.om fun _ => .ro rfl)) (.cons (.fz rfl rfl rfl (.om fun _ => .ro rfl)) (.cons (.fz rfl rfl rfl (.om fun _ => .ro rfl)) (.cons (.fz rfl rfl rfl (.om fun _ => .ro rfl)) (.cons (.fz rfl rfl rfl (.os fun _ => .cons (.ro rfl) .nil)) (.cons (.fz rfl rfl rfl (.os fun _ => .cons (.ro rfl) .nil)) .nil)))))))))))))))) rfl) (.eq rfl)) (fun _ _ => ⟨(.tup (.cons (.v _) (.cons (.v _) .nil))), trivial⟩)) (fun x12' hm => ?_)
 obtain ⟨x12⟩ := x12'
 refine U.ps 5 T rfl ?_
 refine U.done (C.nx (C.seq (C.seq (U.start ?_))))
 refine U.ps 2 T rfl ?_
 refine U.done (C.nx ?_)
 refine C.ite rfl hm (fun hb15 hm => ?_) (fun hb15 hm => ?_)
 refine C.seq (U.start ?_)
 refine U.ps 1 T rfl ?_
 refine U.done (C.nx (C.ret (C.rt ?_)))
 exact C.fin T (rs' := [.i ((3, m).1)]) (H' := [(0, .box [.i (((3, m).2).site.Floor.W), .i (((3, m).2).site.Floor.H), .i (((3, m).2).site.Floor.D), .sl 1 eI (((3, m).2).site.Floor.Kind), .sl 1 eI (((3, m).2).site.Floor.Out), .o 12, .o 13, .o 14, .o 15, .o 16, .o 17, .o 18, .o 19, .o 20, .o 21, .o 22]), (12, .val (.os 5 eApiZone (((3, m).2).site.Zones))), (13, .val (.os 2 eApiApart (((3, m).2).site.Aparts))), (14, .val (.os 2 eApiShelf (((3, m).2).site.Shelves))), (15, .val (.os 2 eApiStart (((3, m).2).site.Robots))), (16, .val (.om kI veI (((3, m).2).shelf))), (17, .val (.om kI veB (((3, m).2).robot))), (18, .val (.om kI veB (((3, m).2).zoned))), (19, .val (.om kS veI (((3, m).2).names))), (20, .val (.om kI veB (((3, m).2).oneways))), (21, .val (.os 1 eI (((3, m).2).shelves))), (22, .val (.os 1 eI (((3, m).2).zones)))]) (nl' := 23) [some 0, some 1, some 2, some 3, some 4, some 5, some 6, some 7, some 8, some 9, some 10, some 11, some 1, some 2, some 3, some 4, some 5, some 6, some 7, some 8, some 9, some 10, some 11] rfl rfl (.eq rfl) ⟨bX, vL, vL, vL, vL, vL, vL, vL, vL, vL, vL, vL, trivial⟩ rfl rfl rfl rfl hβ ⟨(3, m), hm, rfl, rfl, rfl⟩
 refine C.skip (C.nx (C.seq (C.seq (U.start ?_))))
 refine U.ps 1 T rfl ?_
 refine U.e rfl (.none rfl) (by exact Eff.k (T_survey_stands x12.1 _ hm) en91 rfl rfl rfl (.eq rfl) (fun _ _ => ⟨(.v _), trivial⟩)) (fun x20' hm => ?_)
 obtain ⟨x20⟩ := x20'
 refine U.ps 1 T rfl ?_
 refine U.done (C.nx ?_)
 refine C.ite rfl hm (fun hb21 hm => ?_) (fun hb21 hm => ?_)
 refine C.seq (U.start ?_)
 refine U.ps 1 T rfl ?_
 refine U.done (C.nx (C.ret (C.rt ?_)))
 exact C.fin T (rs' := [.i ((13, m).1)]) (H' := [(0, .box [.i (((13, m).2).site.Floor.W), .i (((13, m).2).site.Floor.H), .i (((13, m).2).site.Floor.D), .sl 1 eI (((13, m).2).site.Floor.Kind), .sl 1 eI (((13, m).2).site.Floor.Out), .o 12, .o 13, .o 14, .o 15, .o 16, .o 17, .o 18, .o 19, .o 20, .o 21, .o 22]), (12, .val (.os 5 eApiZone (((13, m).2).site.Zones))), (13, .val (.os 2 eApiApart (((13, m).2).site.Aparts))), (14, .val (.os 2 eApiShelf (((13, m).2).site.Shelves))), (15, .val (.os 2 eApiStart (((13, m).2).site.Robots))), (16, .val (.om kI veI (((13, m).2).shelf))), (17, .val (.om kI veB (((13, m).2).robot))), (18, .val (.om kI veB (((13, m).2).zoned))), (19, .val (.om kS veI (((13, m).2).names))), (20, .val (.om kI veB (((13, m).2).oneways))), (21, .val (.os 1 eI (((13, m).2).shelves))), (22, .val (.os 1 eI (((13, m).2).zones)))]) (nl' := 23) [some 0, some 1, some 2, some 3, some 4, some 5, some 6, some 7, some 8, some 9, some 10, some 11, some 1, some 2, some 3, some 4, some 5, some 6, some 7, some 8, some 9, some 10, some 11] rfl rfl (.eq rfl) ⟨bX, vL, vL, vL, vL, vL, vL, vL, vL, vL, vL, vL, trivial⟩ rfl rfl rfl rfl hβ ⟨(13, m), hm, rfl, rfl, rfl⟩
 refine C.skip (C.nx (C.seq (C.seq ?_)))
 refine D.beg 9999 [0, 5, 12] [] mix rfl rfl (by kernel_rfl) (by repeat (first | exact NoPanicQ.body | exact NoPanicQ.rnd | refine NoPanicQ.th ?_ | refine NoPanicQ.blk ?_)) (fun hQ hS ws M' => ?_)
 refine D.ps 6 [(0, []), (1, []), (2, []), (3, []), (4, []), (5, [])] rfl hQ hS T rfl rfl (by kernel_rfl) ?_
 refine D.q 6 [] hQ hS rfl (.none rfl) rfl rfl (by exact Rd.lk2 T (ke := kI) (ve := veI) (xs := m.shelf) (z0 := 0) (x := x_1.Cell) rfl rfl kt3 zt3 (fun _ => rfl) rfl (.o rfl) rfl rfl rfl) rfl (by kernel_rfl) ?_
 refine D.ps 5 [(7, []), (8, []), (9, []), (10, []), (11, [])] rfl hQ hS T rfl rfl (by kernel_rfl) ?_
 refine D.done (by kernel_rfl) ?_
 refine C.nx (C.seq (U.start ?_))
 refine U.ps 1 T rfl ?_
 refine U.done (C.nx ?_)
 refine C.ite rfl hm (fun hb28 hm => ?_) (fun hb28 hm => ?_)
 refine C.seq (U.start ?_)
 refine U.ps 1 T rfl ?_
 refine U.done (C.nx (C.ret (C.rt ?_)))
 exact C.fin T (rs' := [.i ((5, m).1)]) (H' := [(0, .box [.i (((5, m).2).site.Floor.W), .i (((5, m).2).site.Floor.H), .i (((5, m).2).site.Floor.D), .sl 1 eI (((5, m).2).site.Floor.Kind), .sl 1 eI (((5, m).2).site.Floor.Out), .o 12, .o 13, .o 14, .o 15, .o 16, .o 17, .o 18, .o 19, .o 20, .o 21, .o 22]), (12, .val (.os 5 eApiZone (((5, m).2).site.Zones))), (13, .val (.os 2 eApiApart (((5, m).2).site.Aparts))), (14, .val (.os 2 eApiShelf (((5, m).2).site.Shelves))), (15, .val (.os 2 eApiStart (((5, m).2).site.Robots))), (16, .val (.om kI veI (((5, m).2).shelf))), (17, .val (.om kI veB (((5, m).2).robot))), (18, .val (.om kI veB (((5, m).2).zoned))), (19, .val (.om kS veI (((5, m).2).names))), (20, .val (.om kI veB (((5, m).2).oneways))), (21, .val (.os 1 eI (((5, m).2).shelves))), (22, .val (.os 1 eI (((5, m).2).zones)))]) (nl' := 23) [some 0, some 1, some 2, some 3, some 4, some 5, some 6, some 7, some 8, some 9, some 10, some 11, some 1, some 2, some 3, some 4, some 5, some 6, some 7, some 8, some 9, some 10, some 11] rfl rfl (.eq rfl) ⟨bX, vL, vL, vL, vL, vL, vL, vL, vL, vL, vL, vL, trivial⟩ rfl rfl rfl rfl hβ ⟨(5, m), hm, rfl, rfl, rfl⟩
 refine C.skip (C.nx (C.seq (C.seq (U.start ?_))))
 refine U.ps 7 T rfl ?_
 refine U.done (C.nx ?_)
 refine C.ite rfl hm (fun hb33 hm => ?_) (fun hb33 hm => ?_)
 refine C.seq (U.start ?_)
 refine U.ps 1 T rfl ?_
 refine U.done (C.nx (C.ret (C.rt ?_)))
 exact C.fin T (rs' := [.i ((6, m).1)]) (H' := [(0, .box [.i (((6, m).2).site.Floor.W), .i (((6, m).2).site.Floor.H), .i (((6, m).2).site.Floor.D), .sl 1 eI (((6, m).2).site.Floor.Kind), .sl 1 eI (((6, m).2).site.Floor.Out), .o 12, .o 13, .o 14, .o 15, .o 16, .o 17, .o 18, .o 19, .o 20, .o 21, .o 22]), (12, .val (.os 5 eApiZone (((6, m).2).site.Zones))), (13, .val (.os 2 eApiApart (((6, m).2).site.Aparts))), (14, .val (.os 2 eApiShelf (((6, m).2).site.Shelves))), (15, .val (.os 2 eApiStart (((6, m).2).site.Robots))), (16, .val (.om kI veI (((6, m).2).shelf))), (17, .val (.om kI veB (((6, m).2).robot))), (18, .val (.om kI veB (((6, m).2).zoned))), (19, .val (.om kS veI (((6, m).2).names))), (20, .val (.om kI veB (((6, m).2).oneways))), (21, .val (.os 1 eI (((6, m).2).shelves))), (22, .val (.os 1 eI (((6, m).2).zones)))]) (nl' := 23) [some 0, some 1, some 2, some 3, some 4, some 5, some 6, some 7, some 8, some 9, some 10, some 11, some 1, some 2, some 3, some 4, some 5, some 6, some 7, some 8, some 9, some 10, some 11] rfl rfl (.eq rfl) ⟨bX, vL, vL, vL, vL, vL, vL, vL, vL, vL, vL, vL, trivial⟩ rfl rfl rfl rfl hβ ⟨(6, m), hm, rfl, rfl, rfl⟩
 refine C.skip (C.nx (C.seq ?_))
 refine D.beg 12 [0, 12] [] mix rfl rfl (by kernel_rfl) (by repeat (first | exact NoPanicQ.body | exact NoPanicQ.rnd | refine NoPanicQ.th ?_ | refine NoPanicQ.blk ?_)) (fun hQ hS ws M' => ?_)
 refine D.ps 12 [(0, []), (1, []), (2, []), (3, []), (4, []), (5, []), (6, []), (7, []), (8, []), (9, []), (10, []), (11, [])] rfl hQ hS T rfl rfl (by kernel_rfl) ?_
 refine D.ze1 rfl (.none rfl) (by exact Eff1.mu T (x := x_1.Cell) (y := (m.site.Shelves.length : Int)) (.inl rfl) rfl kt3 (fun _ => rfl) rfl rfl rfl rfl rfl (.inl rfl) rfl) (by kernel_rfl) (by kernel_rfl) ?_
 refine C.nx (C.seq ?_)
 refine D.beg 12 [0, 12] [3] mix rfl rfl (by kernel_rfl) (by repeat (first | exact NoPanicQ.body | exact NoPanicQ.rnd | refine NoPanicQ.th ?_ | refine NoPanicQ.blk ?_)) (fun hQ hS ws M' => ?_)
 refine D.ps 7 [(0, []), (1, []), (2, []), (3, []), (4, []), (5, []), (6, [])] rfl hQ hS T rfl rfl (by kernel_rfl) ?_
 refine D.e1 7 rfl (.none rfl) (by exact Eff1.bs T (enc := eApiShelf) (xs := ([x_1] : List ApiShelf)) rfl rfl rfl rfl rfl rfl rfl rfl rfl rfl (fun _ _ => rfl) rfl rfl) (by kernel_rfl) rfl rfl ?_
 obtain ⟨hx40, hm⟩ := hm
 refine D.e1 8 rfl (.none rfl) (by exact Eff1.ap T rfl rfl rfl rfl rfl rfl (.inr ⟨_, rfl, rfl⟩) rfl rfl rfl (fun _ => rfl) rfl hx40) (by kernel_rfl) rfl rfl ?_
 refine D.ps 3 [(9, [11, 10]), (10, [11]), (11, [])] rfl hQ hS T rfl rfl (by kernel_rfl) ?_
 refine D.ze1 rfl (.none rfl) (by exact Eff1.st T rfl rfl rfl rfl rfl rfl rfl rfl rfl rfl) (by kernel_rfl) (by kernel_rfl) ?_
 refine C.nx (C.seq (U.start ?_))
 refine U.ps 1 T rfl ?_
 refine U.done (C.nx (C.ret ?_))
 exact C.fin T (rs' := [.i ((0, ({ site := ({ Floor := m.site.Floor, Zones := m.site.Zones, Aparts := m.site.Aparts, Shelves := (m.site.Shelves ++ ([x_1] : List ApiShelf)), Robots := m.site.Robots : ApiSite }), shelf := (upd m.shelf x_1.Cell (m.site.Shelves.length : Int)), robot := m.robot, zoned := m.zoned, names := m.names, oneways := m.oneways, shelves := m.shelves, zones := m.zones : SurveyMaker })).1)]) (H' := [(0, .box [.i (((0, ({ site := ({ Floor := m.site.Floor, Zones := m.site.Zones, Aparts := m.site.Aparts, Shelves := (m.site.Shelves ++ ([x_1] : List ApiShelf)), Robots := m.site.Robots : ApiSite }), shelf := (upd m.shelf x_1.Cell (m.site.Shelves.length : Int)), robot := m.robot, zoned := m.zoned, names := m.names, oneways := m.oneways, shelves := m.shelves, zones := m.zones : SurveyMaker })).2).site.Floor.W), .i (((0, ({ site := ({ Floor := m.site.Floor, Zones := m.site.Zones, Aparts := m.site.Aparts, Shelves := (m.site.Shelves ++ ([x_1] : List ApiShelf)), Robots := m.site.Robots : ApiSite }), shelf := (upd m.shelf x_1.Cell (m.site.Shelves.length : Int)), robot := m.robot, zoned := m.zoned, names := m.names, oneways := m.oneways, shelves := m.shelves, zones := m.zones : SurveyMaker })).2).site.Floor.H), .i (((0, ({ site := ({ Floor := m.site.Floor, Zones := m.site.Zones, Aparts := m.site.Aparts, Shelves := (m.site.Shelves ++ ([x_1] : List ApiShelf)), Robots := m.site.Robots : ApiSite }), shelf := (upd m.shelf x_1.Cell (m.site.Shelves.length : Int)), robot := m.robot, zoned := m.zoned, names := m.names, oneways := m.oneways, shelves := m.shelves, zones := m.zones : SurveyMaker })).2).site.Floor.D), .sl 1 eI (((0, ({ site := ({ Floor := m.site.Floor, Zones := m.site.Zones, Aparts := m.site.Aparts, Shelves := (m.site.Shelves ++ ([x_1] : List ApiShelf)), Robots := m.site.Robots : ApiSite }), shelf := (upd m.shelf x_1.Cell (m.site.Shelves.length : Int)), robot := m.robot, zoned := m.zoned, names := m.names, oneways := m.oneways, shelves := m.shelves, zones := m.zones : SurveyMaker })).2).site.Floor.Kind), .sl 1 eI (((0, ({ site := ({ Floor := m.site.Floor, Zones := m.site.Zones, Aparts := m.site.Aparts, Shelves := (m.site.Shelves ++ ([x_1] : List ApiShelf)), Robots := m.site.Robots : ApiSite }), shelf := (upd m.shelf x_1.Cell (m.site.Shelves.length : Int)), robot := m.robot, zoned := m.zoned, names := m.names, oneways := m.oneways, shelves := m.shelves, zones := m.zones : SurveyMaker })).2).site.Floor.Out), .o 12, .o 13, .o 14, .o 15, .o 16, .o 17, .o 18, .o 19, .o 20, .o 21, .o 22]), (12, .val (.os 5 eApiZone (((0, ({ site := ({ Floor := m.site.Floor, Zones := m.site.Zones, Aparts := m.site.Aparts, Shelves := (m.site.Shelves ++ ([x_1] : List ApiShelf)), Robots := m.site.Robots : ApiSite }), shelf := (upd m.shelf x_1.Cell (m.site.Shelves.length : Int)), robot := m.robot, zoned := m.zoned, names := m.names, oneways := m.oneways, shelves := m.shelves, zones := m.zones : SurveyMaker })).2).site.Zones))), (13, .val (.os 2 eApiApart (((0, ({ site := ({ Floor := m.site.Floor, Zones := m.site.Zones, Aparts := m.site.Aparts, Shelves := (m.site.Shelves ++ ([x_1] : List ApiShelf)), Robots := m.site.Robots : ApiSite }), shelf := (upd m.shelf x_1.Cell (m.site.Shelves.length : Int)), robot := m.robot, zoned := m.zoned, names := m.names, oneways := m.oneways, shelves := m.shelves, zones := m.zones : SurveyMaker })).2).site.Aparts))), (14, .val (.os 2 eApiShelf (((0, ({ site := ({ Floor := m.site.Floor, Zones := m.site.Zones, Aparts := m.site.Aparts, Shelves := (m.site.Shelves ++ ([x_1] : List ApiShelf)), Robots := m.site.Robots : ApiSite }), shelf := (upd m.shelf x_1.Cell (m.site.Shelves.length : Int)), robot := m.robot, zoned := m.zoned, names := m.names, oneways := m.oneways, shelves := m.shelves, zones := m.zones : SurveyMaker })).2).site.Shelves))), (15, .val (.os 2 eApiStart (((0, ({ site := ({ Floor := m.site.Floor, Zones := m.site.Zones, Aparts := m.site.Aparts, Shelves := (m.site.Shelves ++ ([x_1] : List ApiShelf)), Robots := m.site.Robots : ApiSite }), shelf := (upd m.shelf x_1.Cell (m.site.Shelves.length : Int)), robot := m.robot, zoned := m.zoned, names := m.names, oneways := m.oneways, shelves := m.shelves, zones := m.zones : SurveyMaker })).2).site.Robots))), (16, .val (.om kI veI (((0, ({ site := ({ Floor := m.site.Floor, Zones := m.site.Zones, Aparts := m.site.Aparts, Shelves := (m.site.Shelves ++ ([x_1] : List ApiShelf)), Robots := m.site.Robots : ApiSite }), shelf := (upd m.shelf x_1.Cell (m.site.Shelves.length : Int)), robot := m.robot, zoned := m.zoned, names := m.names, oneways := m.oneways, shelves := m.shelves, zones := m.zones : SurveyMaker })).2).shelf))), (17, .val (.om kI veB (((0, ({ site := ({ Floor := m.site.Floor, Zones := m.site.Zones, Aparts := m.site.Aparts, Shelves := (m.site.Shelves ++ ([x_1] : List ApiShelf)), Robots := m.site.Robots : ApiSite }), shelf := (upd m.shelf x_1.Cell (m.site.Shelves.length : Int)), robot := m.robot, zoned := m.zoned, names := m.names, oneways := m.oneways, shelves := m.shelves, zones := m.zones : SurveyMaker })).2).robot))), (18, .val (.om kI veB (((0, ({ site := ({ Floor := m.site.Floor, Zones := m.site.Zones, Aparts := m.site.Aparts, Shelves := (m.site.Shelves ++ ([x_1] : List ApiShelf)), Robots := m.site.Robots : ApiSite }), shelf := (upd m.shelf x_1.Cell (m.site.Shelves.length : Int)), robot := m.robot, zoned := m.zoned, names := m.names, oneways := m.oneways, shelves := m.shelves, zones := m.zones : SurveyMaker })).2).zoned))), (19, .val (.om kS veI (((0, ({ site := ({ Floor := m.site.Floor, Zones := m.site.Zones, Aparts := m.site.Aparts, Shelves := (m.site.Shelves ++ ([x_1] : List ApiShelf)), Robots := m.site.Robots : ApiSite }), shelf := (upd m.shelf x_1.Cell (m.site.Shelves.length : Int)), robot := m.robot, zoned := m.zoned, names := m.names, oneways := m.oneways, shelves := m.shelves, zones := m.zones : SurveyMaker })).2).names))), (20, .val (.om kI veB (((0, ({ site := ({ Floor := m.site.Floor, Zones := m.site.Zones, Aparts := m.site.Aparts, Shelves := (m.site.Shelves ++ ([x_1] : List ApiShelf)), Robots := m.site.Robots : ApiSite }), shelf := (upd m.shelf x_1.Cell (m.site.Shelves.length : Int)), robot := m.robot, zoned := m.zoned, names := m.names, oneways := m.oneways, shelves := m.shelves, zones := m.zones : SurveyMaker })).2).oneways))), (21, .val (.os 1 eI (((0, ({ site := ({ Floor := m.site.Floor, Zones := m.site.Zones, Aparts := m.site.Aparts, Shelves := (m.site.Shelves ++ ([x_1] : List ApiShelf)), Robots := m.site.Robots : ApiSite }), shelf := (upd m.shelf x_1.Cell (m.site.Shelves.length : Int)), robot := m.robot, zoned := m.zoned, names := m.names, oneways := m.oneways, shelves := m.shelves, zones := m.zones : SurveyMaker })).2).shelves))), (22, .val (.os 1 eI (((0, ({ site := ({ Floor := m.site.Floor, Zones := m.site.Zones, Aparts := m.site.Aparts, Shelves := (m.site.Shelves ++ ([x_1] : List ApiShelf)), Robots := m.site.Robots : ApiSite }), shelf := (upd m.shelf x_1.Cell (m.site.Shelves.length : Int)), robot := m.robot, zoned := m.zoned, names := m.names, oneways := m.oneways, shelves := m.shelves, zones := m.zones : SurveyMaker })).2).zones)))]) (nl' := 23) [some 0, some 1, some 2, some 3, some 4, some 5, some 6, some 7, some 8, some 9, some 10, some 11, some 1, some 2, some 14, some 4, some 5, some 6, some 7, some 8, some 9, some 10, some 11] rfl rfl (.eq rfl) ⟨bX, vL, vL, vL, vL, vL, vL, vL, vL, vL, vL, vL, trivial⟩ rfl rfl rfl rfl hβ ⟨(0, ({ site := ({ Floor := m.site.Floor, Zones := m.site.Zones, Aparts := m.site.Aparts, Shelves := (m.site.Shelves ++ ([x_1] : List ApiShelf)), Robots := m.site.Robots : ApiSite }), shelf := (upd m.shelf x_1.Cell (m.site.Shelves.length : Int)), robot := m.robot, zoned := m.zoned, names := m.names, oneways := m.oneways, shelves := m.shelves, zones := m.zones : SurveyMaker })), hm, rfl, rfl, rfl⟩
 refine U.start ?_
 refine U.ps 4 T rfl ?_
 refine hm.cs (fun hb5 hm => ?_) (fun hb5 hm => ?_)
 refine U.sks 4 3 true 12 (ntF hb5) rfl rfl rfl ?_
 refine U.r rfl (.none rfl) rfl rfl (by exact Rd.pk' rfl rfl (ntF hb5) rfl) ?_
 refine U.done ?_
 exact St.wk (hJ4 _ hm) (Wk.f [some 0, some 1, some 2, some 3, some 4, some 5, some 6, some 7, some 8, some 9, some 10, some 11, some 12] ⟨bX, vL, vL, vL, vL, vL, vL, vL, vL, vL, vL, vL, bX, trivial⟩)
 refine U.pg 2 3 true 12 (ntT hb5) T rfl rfl rfl rfl ?_
 refine U.e rfl (.take 3 true 12 _ (ntT hb5) rfl rfl rfl) (by exact Eff.k (T_survey_Name x_1.Class _ hm) en63 rfl rfl rfl (.eq rfl) (fun _ _ => ⟨(.v _), trivial⟩)) (fun x6' hm => ?_)
 obtain ⟨x6⟩ := x6'
 refine U.pg 1 3 true 12 (ntT hb5) T rfl rfl rfl rfl ?_
 refine U.r rfl (.none rfl) rfl rfl (by exact Rd.pk rfl rfl (ntT hb5) rfl) ?_
 refine U.done ?_
 exact St.wk (hJ4 _ hm) (Wk.f [some 0, some 1, some 2, some 3, some 4, some 5, some 6, some 7, some 8, some 9, some 10, some 11, some 12] ⟨bX, vL, vL, vL, vL, vL, vL, vL, vL, vL, vL, vL, bX, trivial⟩)
theorem T_survey_maker_addRobot__p0 (x_1 : ApiStart) (m : SurveyMaker) (post : (Int × SurveyMaker) → Prop) (hm : V_survey_maker_addRobot__p0 x_1 m post) :
    Tr Try.prog 70 [.p 0 0, .agg [.i x_1.Cell, .i x_1.Charge]] [(0, .box [.i m.site.Floor.W, .i m.site.Floor.H, .i m.site.Floor.D, .sl 1 eI m.site.Floor.Kind, .sl 1 eI m.site.Floor.Out, .o 1, .o 2, .o 3, .o 4, .o 5, .o 6, .o 7, .o 8, .o 9, .o 10, .o 11]), (1, .val (.os 5 eApiZone m.site.Zones)), (2, .val (.os 2 eApiApart m.site.Aparts)), (3, .val (.os 2 eApiShelf m.site.Shelves)), (4, .val (.os 2 eApiStart m.site.Robots)), (5, .val (.om kI veI m.shelf)), (6, .val (.om kI veB m.robot)), (7, .val (.om kI veB m.zoned)), (8, .val (.om kS veI m.names)), (9, .val (.om kI veB m.oneways)), (10, .val (.os 1 eI m.shelves)), (11, .val (.os 1 eI m.zones))] 12 (fun A H' k => ∃ y, post y ∧ A = (.i y.1) ∧ H' = [(0, .box [.i y.2.site.Floor.W, .i y.2.site.Floor.H, .i y.2.site.Floor.D, .sl 1 eI y.2.site.Floor.Kind, .sl 1 eI y.2.site.Floor.Out, .o 12, .o 13, .o 14, .o 15, .o 16, .o 17, .o 18, .o 19, .o 20, .o 21, .o 22]), (12, .val (.os 5 eApiZone y.2.site.Zones)), (13, .val (.os 2 eApiApart y.2.site.Aparts)), (14, .val (.os 2 eApiShelf y.2.site.Shelves)), (15, .val (.os 2 eApiStart y.2.site.Robots)), (16, .val (.om kI veI y.2.shelf)), (17, .val (.om kI veB y.2.robot)), (18, .val (.om kI veB y.2.zoned)), (19, .val (.om kS veI y.2.names)), (20, .val (.om kI veB y.2.oneways)), (21, .val (.os 1 eI y.2.shelves)), (22, .val (.os 1 eI y.2.zones))] ∧ k = 23) := by
 refine Tr.intro (n := 56) Try.func70 rfl Try.ntmps70 rfl (fun w0 ok F β hβ => ?_)
 unfold V_survey_maker_addRobot__p0 at hm
 refine C.seq (U.start ?_)
 refine U.e1 rfl (.none rfl) (by exact Eff1.box rfl rfl rfl rfl rfl) ?_
 refine U.ps 1 T rfl ?_
 refine U.done (C.nx (C.seq (U.start ?_)))
 refine U.ps 3 T rfl ?_
 refine U.e rfl (.none rfl) (by exact Eff.k (T_survey_maker_kindAt m x_1.Cell _ hm) en88 rfl rfl rfl (.cons (.fzp rfl rfl rfl rfl (.cons (.eq rfl) (.cons (.eq rfl) (.cons (.eq rfl) (.cons (.eq rfl) (.cons (.eq rfl) (.cons (.fz rfl rfl rfl (.os fun _ => .cons (.ro rfl) (.cons (.ro rfl) (.cons (.ro rfl) (.cons (.ro rfl) (.cons (.ro rfl) .nil)))))) (.cons (.fz rfl rfl rfl (.os fun _ => .cons (.ro rfl) (.cons (.ro rfl) .nil))) (.cons (.fz rfl rfl rfl (.os fun _ => .cons (.ro rfl) (.cons (.ro rfl) .nil))) (.cons (.fz rfl rfl rfl (.os fun _ => .cons (.ro rfl) (.cons (.ro rfl) .nil))) (.cons (.fz rfl rfl rfl (.om fun _ => .ro rfl)) (.cons (.fz rfl rfl rfl (.om fun _ => .ro rfl)) (.cons (.fz rfl rfl rfl (.om fun _ => .ro rfl)) (.cons (.fz rfl rfl rfl (.om fun _ => .ro rfl)) (.cons (.fz rfl rfl rfl (.om fun _ => .ro rfl)) (.cons (.fz rfl rfl rfl (.os fun _ => .cons (.ro rfl) .nil)) (.cons (.fz rfl rfl rfl (.os fun _ => .cons (.ro rfl) .nil)) .nil)))))))))))))))) rfl) (.eq rfl)) (fun _ _ => ⟨(.tup (.cons (.v _) (.cons (.v _) .nil))), trivial⟩)) (fun x5' hm => ?_)
 obtain ⟨x5⟩ := x5'
 refine U.ps 5 T rfl ?_
 refine U.done (C.nx (C.seq (C.seq ?_)))
 refine C.jn (fun (x6 : Bool) => [(0, .p 0 0), (3, .p 12 0), (5, .i x5.1), (21, .b x6)]) (fun (x6 : Bool) => [(0, .box [.i m.site.Floor.W, .i m.site.Floor.H, .i m.site.Floor.D, .sl 1 eI m.site.Floor.Kind, .sl 1 eI m.site.Floor.Out, .o 1, .o 2, .o 3, .o 4, .o 5, .o 6, .o 7, .o 8, .o 9, .o 10, .o 11]), (1, .val (.os 5 eApiZone m.site.Zones)), (2, .val (.os 2 eApiApart m.site.Aparts)), (3, .val (.os 2 eApiShelf m.site.Shelves)), (4, .val (.os 2 eApiStart m.site.Robots)), (5, .val (.om kI veI m.shelf)), (6, .val (.om kI veB m.robot)), (7, .val (.om kI veB m.zoned)), (8, .val (.om kS veI m.names)), (9, .val (.om kI veB m.oneways)), (10, .val (.os 1 eI m.shelves)), (11, .val (.os 1 eI m.zones)), (12, .box [.i x_1.Cell, .i x_1.Charge])]) 13 hm (fun x6 hm => ?_) (fun J7 hm hJ7 => ?_)
 refine C.nx ?_
 refine C.ite rfl hm (fun hb10 hm => ?_) (fun hb10 hm => ?_)
 refine C.seq (U.start ?_)
 refine U.ps 1 T rfl ?_
 refine U.done (C.nx (C.ret (C.rt ?_)))
 exact C.fin T (rs' := [.i ((3, m).1)]) (H' := [(0, .box [.i (((3, m).2).site.Floor.W), .i (((3, m).2).site.Floor.H), .i (((3, m).2).site.Floor.D), .sl 1 eI (((3, m).2).site.Floor.Kind), .sl 1 eI (((3, m).2).site.Floor.Out), .o 12, .o 13, .o 14, .o 15, .o 16, .o 17, .o 18, .o 19, .o 20, .o 21, .o 22]), (12, .val (.os 5 eApiZone (((3, m).2).site.Zones))), (13, .val (.os 2 eApiApart (((3, m).2).site.Aparts))), (14, .val (.os 2 eApiShelf (((3, m).2).site.Shelves))), (15, .val (.os 2 eApiStart (((3, m).2).site.Robots))), (16, .val (.om kI veI (((3, m).2).shelf))), (17, .val (.om kI veB (((3, m).2).robot))), (18, .val (.om kI veB (((3, m).2).zoned))), (19, .val (.om kS veI (((3, m).2).names))), (20, .val (.om kI veB (((3, m).2).oneways))), (21, .val (.os 1 eI (((3, m).2).shelves))), (22, .val (.os 1 eI (((3, m).2).zones)))]) (nl' := 23) [some 0, some 1, some 2, some 3, some 4, some 5, some 6, some 7, some 8, some 9, some 10, some 11, some 1, some 2, some 3, some 4, some 5, some 6, some 7, some 8, some 9, some 10, some 11] rfl rfl (.eq rfl) ⟨bX, vL, vL, vL, vL, vL, vL, vL, vL, vL, vL, vL, trivial⟩ rfl rfl rfl rfl hβ ⟨(3, m), hm, rfl, rfl, rfl⟩
 refine C.skip (C.nx (C.seq (C.seq (U.start ?_))))
 refine U.ps 2 T rfl ?_
 refine U.done (C.nx ?_)
 refine C.ite rfl hm (fun hb15 hm => ?_) (fun hb15 hm => ?_)
 refine C.seq (U.start ?_)
 refine U.ps 1 T rfl ?_
 refine U.done (C.nx (C.ret (C.rt ?_)))
 exact C.fin T (rs' := [.i ((13, m).1)]) (H' := [(0, .box [.i (((13, m).2).site.Floor.W), .i (((13, m).2).site.Floor.H), .i (((13, m).2).site.Floor.D), .sl 1 eI (((13, m).2).site.Floor.Kind), .sl 1 eI (((13, m).2).site.Floor.Out), .o 12, .o 13, .o 14, .o 15, .o 16, .o 17, .o 18, .o 19, .o 20, .o 21, .o 22]), (12, .val (.os 5 eApiZone (((13, m).2).site.Zones))), (13, .val (.os 2 eApiApart (((13, m).2).site.Aparts))), (14, .val (.os 2 eApiShelf (((13, m).2).site.Shelves))), (15, .val (.os 2 eApiStart (((13, m).2).site.Robots))), (16, .val (.om kI veI (((13, m).2).shelf))), (17, .val (.om kI veB (((13, m).2).robot))), (18, .val (.om kI veB (((13, m).2).zoned))), (19, .val (.om kS veI (((13, m).2).names))), (20, .val (.om kI veB (((13, m).2).oneways))), (21, .val (.os 1 eI (((13, m).2).shelves))), (22, .val (.os 1 eI (((13, m).2).zones)))]) (nl' := 23) [some 0, some 1, some 2, some 3, some 4, some 5, some 6, some 7, some 8, some 9, some 10, some 11, some 1, some 2, some 3, some 4, some 5, some 6, some 7, some 8, some 9, some 10, some 11] rfl rfl (.eq rfl) ⟨bX, vL, vL, vL, vL, vL, vL, vL, vL, vL, vL, vL, trivial⟩ rfl rfl rfl rfl hβ ⟨(13, m), hm, rfl, rfl, rfl⟩
 refine C.skip (C.nx (C.seq (C.seq ?_)))
 refine D.beg 9999 [0, 6, 12] [] mix rfl rfl (by kernel_rfl) (by repeat (first | exact NoPanicQ.body | exact NoPanicQ.rnd | refine NoPanicQ.th ?_ | refine NoPanicQ.blk ?_)) (fun hQ hS ws M' => ?_)
 refine D.ps 6 [(0, []), (1, []), (2, []), (3, []), (4, []), (5, [])] rfl hQ hS T rfl rfl (by kernel_rfl) ?_
 refine D.q 6 [] hQ hS rfl (.none rfl) rfl rfl (by exact Rd.lk T (ke := kI) (ve := veB) (xs := m.robot) (z0 := false) (x := x_1.Cell) rfl rfl kt3 zt4 (fun _ => rfl) rfl (.o rfl) rfl rfl rfl) rfl (by kernel_rfl) ?_
 refine D.done (by kernel_rfl) ?_
 refine C.nx ?_
 refine C.ite rfl hm (fun hb20 hm => ?_) (fun hb20 hm => ?_)
 refine C.seq (U.start ?_)
 refine U.ps 1 T rfl ?_
 refine U.done (C.nx (C.ret (C.rt ?_)))
 exact C.fin T (rs' := [.i ((5, m).1)]) (H' := [(0, .box [.i (((5, m).2).site.Floor.W), .i (((5, m).2).site.Floor.H), .i (((5, m).2).site.Floor.D), .sl 1 eI (((5, m).2).site.Floor.Kind), .sl 1 eI (((5, m).2).site.Floor.Out), .o 12, .o 13, .o 14, .o 15, .o 16, .o 17, .o 18, .o 19, .o 20, .o 21, .o 22]), (12, .val (.os 5 eApiZone (((5, m).2).site.Zones))), (13, .val (.os 2 eApiApart (((5, m).2).site.Aparts))), (14, .val (.os 2 eApiShelf (((5, m).2).site.Shelves))), (15, .val (.os 2 eApiStart (((5, m).2).site.Robots))), (16, .val (.om kI veI (((5, m).2).shelf))), (17, .val (.om kI veB (((5, m).2).robot))), (18, .val (.om kI veB (((5, m).2).zoned))), (19, .val (.om kS veI (((5, m).2).names))), (20, .val (.om kI veB (((5, m).2).oneways))), (21, .val (.os 1 eI (((5, m).2).shelves))), (22, .val (.os 1 eI (((5, m).2).zones)))]) (nl' := 23) [some 0, some 1, some 2, some 3, some 4, some 5, some 6, some 7, some 8, some 9, some 10, some 11, some 1, some 2, some 3, some 4, some 5, some 6, some 7, some 8, some 9, some 10, some 11] rfl rfl (.eq rfl) ⟨bX, vL, vL, vL, vL, vL, vL, vL, vL, vL, vL, vL, trivial⟩ rfl rfl rfl rfl hβ ⟨(5, m), hm, rfl, rfl, rfl⟩
 refine C.skip (C.nx (C.seq (C.seq (U.start ?_))))
 refine U.ps 7 T rfl ?_
 refine U.done (C.nx ?_)
 refine C.ite rfl hm (fun hb25 hm => ?_) (fun hb25 hm => ?_)
 refine C.seq (U.start ?_)
 refine U.ps 1 T rfl ?_
 refine U.done (C.nx (C.ret (C.rt ?_)))
 exact C.fin T (rs' := [.i ((6, m).1)]) (H' := [(0, .box [.i (((6, m).2).site.Floor.W), .i (((6, m).2).site.Floor.H), .i (((6, m).2).site.Floor.D), .sl 1 eI (((6, m).2).site.Floor.Kind), .sl 1 eI (((6, m).2).site.Floor.Out), .o 12, .o 13, .o 14, .o 15, .o 16, .o 17, .o 18, .o 19, .o 20, .o 21, .o 22]), (12, .val (.os 5 eApiZone (((6, m).2).site.Zones))), (13, .val (.os 2 eApiApart (((6, m).2).site.Aparts))), (14, .val (.os 2 eApiShelf (((6, m).2).site.Shelves))), (15, .val (.os 2 eApiStart (((6, m).2).site.Robots))), (16, .val (.om kI veI (((6, m).2).shelf))), (17, .val (.om kI veB (((6, m).2).robot))), (18, .val (.om kI veB (((6, m).2).zoned))), (19, .val (.om kS veI (((6, m).2).names))), (20, .val (.om kI veB (((6, m).2).oneways))), (21, .val (.os 1 eI (((6, m).2).shelves))), (22, .val (.os 1 eI (((6, m).2).zones)))]) (nl' := 23) [some 0, some 1, some 2, some 3, some 4, some 5, some 6, some 7, some 8, some 9, some 10, some 11, some 1, some 2, some 3, some 4, some 5, some 6, some 7, some 8, some 9, some 10, some 11] rfl rfl (.eq rfl) ⟨bX, vL, vL, vL, vL, vL, vL, vL, vL, vL, vL, vL, trivial⟩ rfl rfl rfl rfl hβ ⟨(6, m), hm, rfl, rfl, rfl⟩
 refine C.skip (C.nx (C.seq ?_))
 refine D.beg 6 [0, 12] [] mix rfl rfl (by kernel_rfl) (by repeat (first | exact NoPanicQ.body | exact NoPanicQ.rnd | refine NoPanicQ.th ?_ | refine NoPanicQ.blk ?_)) (fun hQ hS ws M' => ?_)
 refine D.ps 6 [(0, []), (1, []), (2, []), (3, []), (4, []), (5, [])] rfl hQ hS T rfl rfl (by kernel_rfl) ?_
 refine D.ze1 rfl (.none rfl) (by exact Eff1.mu T (x := x_1.Cell) (y := true) (.inl rfl) rfl kt3 (fun _ => rfl) rfl rfl rfl rfl rfl (.inl rfl) rfl) (by kernel_rfl) (by kernel_rfl) ?_
 refine C.nx (C.seq ?_)
 refine D.beg 12 [0, 12] [4] mix rfl rfl (by kernel_rfl) (by repeat (first | exact NoPanicQ.body | exact NoPanicQ.rnd | refine NoPanicQ.th ?_ | refine NoPanicQ.blk ?_)) (fun hQ hS ws M' => ?_)
 refine D.ps 7 [(0, []), (1, []), (2, []), (3, []), (4, []), (5, []), (6, [])] rfl hQ hS T rfl rfl (by kernel_rfl) ?_
 refine D.e1 7 rfl (.none rfl) (by exact Eff1.bs T (enc := eApiStart) (xs := ([x_1] : List ApiStart)) rfl rfl rfl rfl rfl rfl rfl rfl rfl rfl (fun _ _ => rfl) rfl rfl) (by kernel_rfl) rfl rfl ?_
 obtain ⟨hx32, hm⟩ := hm
 refine D.e1 8 rfl (.none rfl) (by exact Eff1.ap T rfl rfl rfl rfl rfl rfl (.inr ⟨_, rfl, rfl⟩) rfl rfl rfl (fun _ => rfl) rfl hx32) (by kernel_rfl) rfl rfl ?_
 refine D.ps 3 [(9, [11, 10]), (10, [11]), (11, [])] rfl hQ hS T rfl rfl (by kernel_rfl) ?_
 refine D.ze1 rfl (.none rfl) (by exact Eff1.st T rfl rfl rfl rfl rfl rfl rfl rfl rfl rfl) (by kernel_rfl) (by kernel_rfl) ?_
 refine C.nx (C.seq (U.start ?_))
 refine U.ps 1 T rfl ?_
 refine U.done (C.nx (C.ret ?_))
 exact C.fin T (rs' := [.i ((0, ({ site := ({ Floor := m.site.Floor, Zones := m.site.Zones, Aparts := m.site.Aparts, Shelves := m.site.Shelves, Robots := (m.site.Robots ++ ([x_1] : List ApiStart)) : ApiSite }), shelf := m.shelf, robot := (upd m.robot x_1.Cell true), zoned := m.zoned, names := m.names, oneways := m.oneways, shelves := m.shelves, zones := m.zones : SurveyMaker })).1)]) (H' := [(0, .box [.i (((0, ({ site := ({ Floor := m.site.Floor, Zones := m.site.Zones, Aparts := m.site.Aparts, Shelves := m.site.Shelves, Robots := (m.site.Robots ++ ([x_1] : List ApiStart)) : ApiSite }), shelf := m.shelf, robot := (upd m.robot x_1.Cell true), zoned := m.zoned, names := m.names, oneways := m.oneways, shelves := m.shelves, zones := m.zones : SurveyMaker })).2).site.Floor.W), .i (((0, ({ site := ({ Floor := m.site.Floor, Zones := m.site.Zones, Aparts := m.site.Aparts, Shelves := m.site.Shelves, Robots := (m.site.Robots ++ ([x_1] : List ApiStart)) : ApiSite }), shelf := m.shelf, robot := (upd m.robot x_1.Cell true), zoned := m.zoned, names := m.names, oneways := m.oneways, shelves := m.shelves, zones := m.zones : SurveyMaker })).2).site.Floor.H), .i (((0, ({ site := ({ Floor := m.site.Floor, Zones := m.site.Zones, Aparts := m.site.Aparts, Shelves := m.site.Shelves, Robots := (m.site.Robots ++ ([x_1] : List ApiStart)) : ApiSite }), shelf := m.shelf, robot := (upd m.robot x_1.Cell true), zoned := m.zoned, names := m.names, oneways := m.oneways, shelves := m.shelves, zones := m.zones : SurveyMaker })).2).site.Floor.D), .sl 1 eI (((0, ({ site := ({ Floor := m.site.Floor, Zones := m.site.Zones, Aparts := m.site.Aparts, Shelves := m.site.Shelves, Robots := (m.site.Robots ++ ([x_1] : List ApiStart)) : ApiSite }), shelf := m.shelf, robot := (upd m.robot x_1.Cell true), zoned := m.zoned, names := m.names, oneways := m.oneways, shelves := m.shelves, zones := m.zones : SurveyMaker })).2).site.Floor.Kind), .sl 1 eI (((0, ({ site := ({ Floor := m.site.Floor, Zones := m.site.Zones, Aparts := m.site.Aparts, Shelves := m.site.Shelves, Robots := (m.site.Robots ++ ([x_1] : List ApiStart)) : ApiSite }), shelf := m.shelf, robot := (upd m.robot x_1.Cell true), zoned := m.zoned, names := m.names, oneways := m.oneways, shelves := m.shelves, zones := m.zones : SurveyMaker })).2).site.Floor.Out), .o 12, .o 13, .o 14, .o 15, .o 16, .o 17, .o 18, .o 19, .o 20, .o 21, .o 22]), (12, .val (.os 5 eApiZone (((0, ({ site := ({ Floor := m.site.Floor, Zones := m.site.Zones, Aparts := m.site.Aparts, Shelves := m.site.Shelves, Robots := (m.site.Robots ++ ([x_1] : List ApiStart)) : ApiSite }), shelf := m.shelf, robot := (upd m.robot x_1.Cell true), zoned := m.zoned, names := m.names, oneways := m.oneways, shelves := m.shelves, zones := m.zones : SurveyMaker })).2).site.Zones))), (13, .val (.os 2 eApiApart (((0, ({ site := ({ Floor := m.site.Floor, Zones := m.site.Zones, Aparts := m.site.Aparts, Shelves := m.site.Shelves, Robots := (m.site.Robots ++ ([x_1] : List ApiStart)) : ApiSite }), shelf := m.shelf, robot := (upd m.robot x_1.Cell true), zoned := m.zoned, names := m.names, oneways := m.oneways, shelves := m.shelves, zones := m.zones : SurveyMaker })).2).site.Aparts))), (14, .val (.os 2 eApiShelf (((0, ({ site := ({ Floor := m.site.Floor, Zones := m.site.Zones, Aparts := m.site.Aparts, Shelves := m.site.Shelves, Robots := (m.site.Robots ++ ([x_1] : List ApiStart)) : ApiSite }), shelf := m.shelf, robot := (upd m.robot x_1.Cell true), zoned := m.zoned, names := m.names, oneways := m.oneways, shelves := m.shelves, zones := m.zones : SurveyMaker })).2).site.Shelves))), (15, .val (.os 2 eApiStart (((0, ({ site := ({ Floor := m.site.Floor, Zones := m.site.Zones, Aparts := m.site.Aparts, Shelves := m.site.Shelves, Robots := (m.site.Robots ++ ([x_1] : List ApiStart)) : ApiSite }), shelf := m.shelf, robot := (upd m.robot x_1.Cell true), zoned := m.zoned, names := m.names, oneways := m.oneways, shelves := m.shelves, zones := m.zones : SurveyMaker })).2).site.Robots))), (16, .val (.om kI veI (((0, ({ site := ({ Floor := m.site.Floor, Zones := m.site.Zones, Aparts := m.site.Aparts, Shelves := m.site.Shelves, Robots := (m.site.Robots ++ ([x_1] : List ApiStart)) : ApiSite }), shelf := m.shelf, robot := (upd m.robot x_1.Cell true), zoned := m.zoned, names := m.names, oneways := m.oneways, shelves := m.shelves, zones := m.zones : SurveyMaker })).2).shelf))), (17, .val (.om kI veB (((0, ({ site := ({ Floor := m.site.Floor, Zones := m.site.Zones, Aparts := m.site.Aparts, Shelves := m.site.Shelves, Robots := (m.site.Robots ++ ([x_1] : List ApiStart)) : ApiSite }), shelf := m.shelf, robot := (upd m.robot x_1.Cell true), zoned := m.zoned, names := m.names, oneways := m.oneways, shelves := m.shelves, zones := m.zones : SurveyMaker })).2).robot))), (18, .val (.om kI veB (((0, ({ site := ({ Floor := m.site.Floor, Zones := m.site.Zones, Aparts := m.site.Aparts, Shelves := m.site.Shelves, Robots := (m.site.Robots ++ ([x_1] : List ApiStart)) : ApiSite }), shelf := m.shelf, robot := (upd m.robot x_1.Cell true), zoned := m.zoned, names := m.names, oneways := m.oneways, shelves := m.shelves, zones := m.zones : SurveyMaker })).2).zoned))), (19, .val (.om kS veI (((0, ({ site := ({ Floor := m.site.Floor, Zones := m.site.Zones, Aparts := m.site.Aparts, Shelves := m.site.Shelves, Robots := (m.site.Robots ++ ([x_1] : List ApiStart)) : ApiSite }), shelf := m.shelf, robot := (upd m.robot x_1.Cell true), zoned := m.zoned, names := m.names, oneways := m.oneways, shelves := m.shelves, zones := m.zones : SurveyMaker })).2).names))), (20, .val (.om kI veB (((0, ({ site := ({ Floor := m.site.Floor, Zones := m.site.Zones, Aparts := m.site.Aparts, Shelves := m.site.Shelves, Robots := (m.site.Robots ++ ([x_1] : List ApiStart)) : ApiSite }), shelf := m.shelf, robot := (upd m.robot x_1.Cell true), zoned := m.zoned, names := m.names, oneways := m.oneways, shelves := m.shelves, zones := m.zones : SurveyMaker })).2).oneways))), (21, .val (.os 1 eI (((0, ({ site := ({ Floor := m.site.Floor, Zones := m.site.Zones, Aparts := m.site.Aparts, Shelves := m.site.Shelves, Robots := (m.site.Robots ++ ([x_1] : List ApiStart)) : ApiSite }), shelf := m.shelf, robot := (upd m.robot x_1.Cell true), zoned := m.zoned, names := m.names, oneways := m.oneways, shelves := m.shelves, zones := m.zones : SurveyMaker })).2).shelves))), (22, .val (.os 1 eI (((0, ({ site := ({ Floor := m.site.Floor, Zones := m.site.Zones, Aparts := m.site.Aparts, Shelves := m.site.Shelves, Robots := (m.site.Robots ++ ([x_1] : List ApiStart)) : ApiSite }), shelf := m.shelf, robot := (upd m.robot x_1.Cell true), zoned := m.zoned, names := m.names, oneways := m.oneways, shelves := m.shelves, zones := m.zones : SurveyMaker })).2).zones)))]) (nl' := 23) [some 0, some 1, some 2, some 3, some 4, some 5, some 6, some 7, some 8, some 9, some 10, some 11, some 1, some 2, some 3, some 14, some 5, some 6, some 7, some 8, some 9, some 10, some 11] rfl rfl (.eq rfl) ⟨bX, vL, vL, vL, vL, vL, vL, vL, vL, vL, vL, vL, trivial⟩ rfl rfl rfl rfl hβ ⟨(0, ({ site := ({ Floor := m.site.Floor, Zones := m.site.Zones, Aparts := m.site.Aparts, Shelves := m.site.Shelves, Robots := (m.site.Robots ++ ([x_1] : List ApiStart)) : ApiSite }), shelf := m.shelf, robot := (upd m.robot x_1.Cell true), zoned := m.zoned, names := m.names, oneways := m.oneways, shelves := m.shelves, zones := m.zones : SurveyMaker })), hm, rfl, rfl, rfl⟩
 refine U.start ?_
 refine U.ps 3 T rfl ?_
 refine hm.cs (fun hb8 hm => ?_) (fun hb8 hm => ?_)
 refine U.pg 2 2 false 16 (ntF hb8) T rfl rfl rfl rfl ?_
 refine U.e rfl (.take 2 false 16 _ (ntF hb8) rfl rfl rfl) (by exact Eff.k (T_survey_within x_1.Charge 0 1000000 _ hm) en64 rfl rfl rfl (.eq rfl) (fun _ _ => ⟨(.v _), trivial⟩)) (fun x9' hm => ?_)
 obtain ⟨x9⟩ := x9'
 refine U.pg 1 2 false 16 (ntF hb8) T rfl rfl rfl rfl ?_
 refine U.r rfl (.none rfl) rfl rfl (by exact Rd.pk' rfl rfl (ntF hb8) rfl) ?_
 refine U.done ?_
 exact St.wk (hJ7 _ hm) (Wk.f [some 0, some 1, some 2, some 3, some 4, some 5, some 6, some 7, some 8, some 9, some 10, some 11, some 12] ⟨bX, vL, vL, vL, vL, vL, vL, vL, vL, vL, vL, vL, bX, trivial⟩)
 refine U.sks 4 2 false 16 (ntT hb8) rfl rfl rfl ?_
 refine U.r rfl (.none rfl) rfl rfl (by exact Rd.pk rfl rfl (ntT hb8) rfl) ?_
 refine U.done ?_
 exact St.wk (hJ7 _ hm) (Wk.f [some 0, some 1, some 2, some 3, some 4, some 5, some 6, some 7, some 8, some 9, some 10, some 11, some 12] ⟨bX, vL, vL, vL, vL, vL, vL, vL, vL, vL, vL, vL, bX, trivial⟩)
theorem T_survey_maker_beside (m : SurveyMaker) (post : Int → Prop) (hm : V_survey_maker_beside m post) :
    Tr Try.prog 71 [.rp [.i m.site.Floor.W, .i m.site.Floor.H, .i m.site.Floor.D, .sl 1 eI m.site.Floor.Kind, .sl 1 eI m.site.Floor.Out, .sl 5 eApiZone m.site.Zones, .sl 2 eApiApart m.site.Aparts, .sl 2 eApiShelf m.site.Shelves, .sl 2 eApiStart m.site.Robots, .rm kI veI m.shelf, .rm kI veB m.robot, .rm kI veB m.zoned, .rm kS veI m.names, .rm kI veB m.oneways, .sl 1 eI m.shelves, .sl 1 eI m.zones]] [] 0 (fun A H' k => ∃ y, post y ∧ A = (.i y) ∧ H' = [] ∧ k = 0) := by
 refine Tr.intro (n := 104) Try.func71 rfl Try.ntmps71 rfl (fun w0 ok F β hβ => ?_)
 unfold V_survey_maker_beside at hm
 refine C.seq (U.start ?_)
 refine U.ps 1 T rfl ?_
 refine U.done (C.nx (C.seq (U.start ?_)))
 refine U.ps 5 T rfl ?_
 refine U.e1 rfl (.none rfl) (by exact Eff1.al T rfl rfl rfl rfl) ?_
 refine U.e1 rfl (.none rfl) (by exact Eff1.st T rfl rfl rfl rfl rfl rfl rfl rfl rfl rfl) ?_
 refine U.done (C.nx (C.seq (C.seq (U.start ?_))))
 refine U.ps 7 T rfl ?_
 refine U.done (C.nx ?_)
 refine C.jn (fun (x7 : Unit) => []) (fun (x7 : Unit) => []) 0 hm (fun x7 hm => ?_) (fun J8 hm hJ8 => ?_)
 refine C.nx (C.seq (U.start ?_))
 refine U.ps 1 T rfl ?_
 refine U.done (C.nx (C.ret ?_))
 exact C.f0 T (rs' := [.i (-1)]) hβ ⟨(-1), hm, rfl, rfl, rfl⟩
 refine C.block ?_
 refine St.wk (C.loop (fun (s9 : Int) => [(0, .rp [.i m.site.Floor.W, .i m.site.Floor.H, .i m.site.Floor.D, .sl 1 eI m.site.Floor.Kind, .sl 1 eI m.site.Floor.Out, .sl 5 eApiZone m.site.Zones, .sl 2 eApiApart m.site.Aparts, .sl 2 eApiShelf m.site.Shelves, .sl 2 eApiStart m.site.Robots, .rm kI veI m.shelf, .rm kI veB m.robot, .rm kI veB m.zoned, .rm kS veI m.names, .rm kI veB m.oneways, .sl 1 eI m.shelves, .sl 1 eI m.zones]), (3, .p 0 0), (22, .sl 2 eApiShelf m.site.Shelves), (23, .i (m.site.Shelves.length : Int)), (24, .i s9)]) (fun (s9 : Int) => [(0, .box (eApiFloor m.site.Floor))]) hm (fun s9 Y10 hm => ?_)) (Wk.f [some 0] ⟨bX, trivial⟩)
 refine C.seq (U.start ?_)
 refine U.ps 1 T rfl ?_
 refine U.done (C.nx (C.seq ?_))
 refine C.ite rfl hm (fun hb13 hm => ?_) (fun hb13 hm => ?_)
 refine C.skip (C.nx (C.seq ?_))
 refine C.jn (fun (x14 : Unit) => [(0, .rp [.i m.site.Floor.W, .i m.site.Floor.H, .i m.site.Floor.D, .sl 1 eI m.site.Floor.Kind, .sl 1 eI m.site.Floor.Out, .sl 5 eApiZone m.site.Zones, .sl 2 eApiApart m.site.Aparts, .sl 2 eApiShelf m.site.Shelves, .sl 2 eApiStart m.site.Robots, .rm kI veI m.shelf, .rm kI veB m.robot, .rm kI veB m.zoned, .rm kS veI m.names, .rm kI veB m.oneways, .sl 1 eI m.shelves, .sl 1 eI m.zones]), (3, .p 0 0), (22, .sl 2 eApiShelf m.site.Shelves), (23, .i (m.site.Shelves.length : Int)), (24, .i s9)]) (fun (x14 : Unit) => [(0, .box (eApiFloor m.site.Floor))]) 1 hm (fun x14 hm => ?_) (fun J15 hm hJ15 => ?_)
 refine C.nx (U.start ?_)
 refine U.ps 2 T rfl ?_
 refine U.done (C.nx ?_)
 exact St.wk (C.next hm) (Wk.f [some 0] ⟨bX, trivial⟩)
 refine C.block (C.seq (U.start ?_))
 refine U.ps 1 T rfl ?_
 obtain ⟨x18, hx18, hm⟩ := hm
 refine U.r rfl (.none rfl) rfl rfl (by exact Rd.ix T rfl rfl rfl rfl rfl rfl hx18) ?_
 refine U.ps 1 T rfl ?_
 refine U.e1 rfl (.none rfl) (by exact Eff1.al T rfl rfl rfl rfl) ?_
 refine U.ps 1 T rfl ?_
 refine U.e1 rfl (.none rfl) (by exact Eff1.st T rfl rfl rfl rfl rfl rfl rfl rfl rfl rfl) ?_
 refine U.done (C.nx (C.seq (U.start ?_)))
 refine U.ps 3 T rfl ?_
 refine U.e rfl (.none rfl) (by exact Eff.k (T_floor_At m.site.Floor x18.Cell _ hm) en74 rfl rfl rfl (.eq rfl) (fun _ _ => ⟨(.tup (.cons (.v _) (.cons (.v _) (.cons (.v _) .nil)))), trivial⟩)) (fun x21' hm => ?_)
 obtain ⟨x21⟩ := x21'
 refine U.ps 7 T rfl ?_
 refine U.done (C.nx (C.seq ?_))
 refine D.beg 9999 [0] [] mix rfl rfl (by kernel_rfl) (by repeat (first | exact NoPanicQ.body | exact NoPanicQ.rnd | refine NoPanicQ.th ?_ | refine NoPanicQ.blk ?_)) (fun hQ hS ws M' => ?_)
 refine D.ps 21 [(0, []), (1, []), (2, []), (3, []), (4, []), (6, []), (7, []), (8, []), (9, []), (10, []), (12, []), (13, []), (14, []), (15, []), (16, []), (18, []), (19, []), (20, []), (21, []), (22, []), (26, [])] rfl hQ hS T rfl rfl (by kernel_rfl) ?_
 refine D.e 5 rfl (.none rfl) (by exact Eff.k (T_floor_Cell m.site.Floor (w64 (x21.1 + 1)) x21.2.1 x21.2.2 _ hm) en75 rfl rfl rfl (.eq rfl) (fun _ _ => ⟨(.v _), trivial⟩)) (by kernel_rfl) rfl rfl (fun x24' hm => ?_)
 obtain ⟨x24⟩ := x24'
 refine D.e 11 rfl (.none rfl) (by exact Eff.k (T_floor_Cell m.site.Floor x21.1 (w64 (x21.2.1 + 1)) x21.2.2 _ hm) en75 rfl rfl rfl (.eq rfl) (fun _ _ => ⟨(.v _), trivial⟩)) (by kernel_rfl) rfl rfl (fun x25' hm => ?_)
 obtain ⟨x25⟩ := x25'
 refine D.e 17 rfl (.none rfl) (by exact Eff.k (T_floor_Cell m.site.Floor (w64 (x21.1 - 1)) x21.2.1 x21.2.2 _ hm) en75 rfl rfl rfl (.eq rfl) (fun _ _ => ⟨(.v _), trivial⟩)) (by kernel_rfl) rfl rfl (fun x26' hm => ?_)
 obtain ⟨x26⟩ := x26'
 refine D.e 23 rfl (.none rfl) (by exact Eff.k (T_floor_Cell m.site.Floor x21.1 (w64 (x21.2.1 - 1)) x21.2.2 _ hm) en75 rfl rfl rfl (.eq rfl) (fun _ _ => ⟨(.v _), trivial⟩)) (by kernel_rfl) rfl rfl (fun x27' hm => ?_)
 obtain ⟨x27⟩ := x27'
 refine D.e1 24 rfl (.none rfl) (by exact Eff1.bs T (enc := eI) (xs := ([x24, x25, x26, x27] : List Int)) rfl rfl rfl rfl rfl rfl rfl rfl rfl rfl (fun _ _ => rfl) rfl rfl) (by kernel_rfl) rfl rfl ?_
 refine D.ps 1 [(25, [])] rfl hQ hS T rfl rfl (by kernel_rfl) ?_
 refine D.done (by kernel_rfl) ?_
 refine C.nx ?_
 refine C.jn (fun (x28 : Unit) => [(0, .rp [.i m.site.Floor.W, .i m.site.Floor.H, .i m.site.Floor.D, .sl 1 eI m.site.Floor.Kind, .sl 1 eI m.site.Floor.Out, .sl 5 eApiZone m.site.Zones, .sl 2 eApiApart m.site.Aparts, .sl 2 eApiShelf m.site.Shelves, .sl 2 eApiStart m.site.Robots, .rm kI veI m.shelf, .rm kI veB m.robot, .rm kI veB m.zoned, .rm kS veI m.names, .rm kI veB m.oneways, .sl 1 eI m.shelves, .sl 1 eI m.zones]), (3, .p 0 0), (22, .sl 2 eApiShelf m.site.Shelves), (23, .i (m.site.Shelves.length : Int)), (24, .i s9)]) (fun (x28 : Unit) => [(0, .box (eApiFloor m.site.Floor))]) 1 hm (fun x28 hm => ?_) (fun J29 hm hJ29 => ?_)
 refine C.bnx ?_
 exact St.wk (hJ15 _ hm) (Wk.f [some 0] ⟨bX, trivial⟩)
 refine C.block ?_
 refine St.wk (C.loop (fun (s30 : Int) => [(0, .rp [.i m.site.Floor.W, .i m.site.Floor.H, .i m.site.Floor.D, .sl 1 eI m.site.Floor.Kind, .sl 1 eI m.site.Floor.Out, .sl 5 eApiZone m.site.Zones, .sl 2 eApiApart m.site.Aparts, .sl 2 eApiShelf m.site.Shelves, .sl 2 eApiStart m.site.Robots, .rm kI veI m.shelf, .rm kI veB m.robot, .rm kI veB m.zoned, .rm kS veI m.names, .rm kI veB m.oneways, .sl 1 eI m.shelves, .sl 1 eI m.zones]), (3, .p 0 0), (4, .i s9), (5, .p 1 0), (22, .sl 2 eApiShelf m.site.Shelves), (23, .i (m.site.Shelves.length : Int)), (24, .i s9), (61, .o 2), (62, .i (([x24, x25, x26, x27] : List Int).length : Int)), (63, .i s30)]) (fun (s30 : Int) => [(0, .box (eApiFloor m.site.Floor)), (1, .box [.i x18.Cell, .v (.string x18.Class)]), (2, .val (.os 1 eI ([x24, x25, x26, x27] : List Int)))]) hm (fun s30 Y31 hm => ?_)) (Wk.f [some 0, some 1, some 2] ⟨bX, bX, vL, trivial⟩)
 refine C.seq (U.start ?_)
 refine U.ps 1 T rfl ?_
 refine U.done (C.nx (C.seq ?_))
 refine C.ite rfl hm (fun hb34 hm => ?_) (fun hb34 hm => ?_)
 refine C.skip (C.nx (C.seq (C.block (C.seq (U.start ?_)))))
 obtain ⟨x37, hx37, hm⟩ := hm
 refine U.r rfl (.none rfl) rfl rfl (by exact Rd.io T rfl rfl rfl rfl rfl rfl rfl hx37) ?_
 refine U.r rfl (.none rfl) rfl rfl (by exact Rd.le T rfl rfl rfl (idx_some hx37).2.2 rfl rfl rfl) ?_
 refine U.ps 1 T rfl ?_
 refine U.done (C.nx (C.seq (U.start ?_)))
 refine U.ps 5 T rfl ?_
 refine U.r rfl (.none rfl) rfl rfl (by exact Rd.lk2 T (ke := kI) (ve := veI) (xs := m.shelf) (z0 := 0) (x := x37) rfl rfl kt3 zt3 (fun _ => rfl) rfl .rm rfl rfl rfl) ?_
 refine U.ps 5 T rfl ?_
 refine U.done (C.nx (C.seq ?_))
 refine C.jn (fun (x40 : Bool) => [(0, .rp [.i m.site.Floor.W, .i m.site.Floor.H, .i m.site.Floor.D, .sl 1 eI m.site.Floor.Kind, .sl 1 eI m.site.Floor.Out, .sl 5 eApiZone m.site.Zones, .sl 2 eApiApart m.site.Aparts, .sl 2 eApiShelf m.site.Shelves, .sl 2 eApiStart m.site.Robots, .rm kI veI m.shelf, .rm kI veB m.robot, .rm kI veB m.zoned, .rm kS veI m.names, .rm kI veB m.oneways, .sl 1 eI m.shelves, .sl 1 eI m.zones]), (3, .p 0 0), (4, .i s9), (5, .p 1 0), (22, .sl 2 eApiShelf m.site.Shelves), (23, .i (m.site.Shelves.length : Int)), (24, .i s9), (61, .o 2), (62, .i (([x24, x25, x26, x27] : List Int).length : Int)), (63, .i s30), (100, .b x40)]) (fun (x40 : Bool) => [(0, .box (eApiFloor m.site.Floor)), (1, .box [.i x18.Cell, .v (.string x18.Class)]), (2, .val (.os 1 eI ([x24, x25, x26, x27] : List Int)))]) 3 hm (fun x40 hm => ?_) (fun J41 hm hJ41 => ?_)
 refine C.nx ?_
 refine C.ite rfl hm (fun hb46 hm => ?_) (fun hb46 hm => ?_)
 refine C.seq (U.start ?_)
 refine U.ps 2 T rfl ?_
 refine U.done (C.nx (C.ret (C.brt (C.rt (C.rt (C.brt (C.brt (C.rt (C.rt (C.brt (C.rt ?_)))))))))))
 exact C.f0 T (rs' := [.i s9]) hβ ⟨s9, hm, rfl, rfl, rfl⟩
 refine C.skip (C.bnx (C.nx (U.start ?_)))
 refine U.ps 2 T rfl ?_
 refine U.done (C.nx ?_)
 exact St.wk (C.next hm) (Wk.f [some 0, some 1, some 2] ⟨bX, bX, vL, trivial⟩)
 refine D.beg 9999 [1] [] mix rfl rfl (by kernel_rfl) (by repeat (first | exact NoPanicQ.body | exact NoPanicQ.rnd | refine NoPanicQ.th ?_ | refine NoPanicQ.blk ?_)) (fun hQ hS ws M' => ?_)
 refine D.ps 2 [(0, []), (1, [])] rfl hQ hS T rfl rfl (by kernel_rfl) ?_
 refine hm.cs (fun hb42 hm => ?_) (fun hb42 hm => ?_)
 refine D.q 2 [] hQ hS rfl (.take 1 true 77 _ hb42 rfl rfl rfl) rfl rfl (by exact Rd.p T rfl) rfl (by kernel_rfl) ?_
 refine D.q 3 [] hQ hS rfl (.take 1 true 77 _ hb42 rfl rfl rfl) rfl rfl (by exact Rd.p T rfl) rfl (by kernel_rfl) ?_
 refine D.q 4 [] hQ hS rfl (.take 1 true 77 _ hb42 rfl rfl rfl) rfl rfl (by exact Rd.p T rfl) rfl (by kernel_rfl) ?_
 refine D.q 5 [] hQ hS rfl (.none rfl) rfl rfl (by exact Rd.pk rfl rfl hb42 rfl) rfl (by kernel_rfl) ?_
 refine D.ps 1 [(6, [])] rfl hQ hS T rfl rfl (by kernel_rfl) ?_
 refine hm.cs (fun hb43 hm => ?_) (fun hb43 hm => ?_)
 refine D.q 7 [] hQ hS rfl (.take 6 true 82 _ hb43 rfl rfl rfl) rfl rfl (by exact Rd.p T rfl) rfl (by kernel_rfl) ?_
 refine D.q 8 [] hQ hS rfl (.take 6 true 82 _ hb43 rfl rfl rfl) rfl rfl (by exact Rd.p T rfl) rfl (by kernel_rfl) ?_
 refine D.q 9 [] hQ hS rfl (.take 6 true 82 _ hb43 rfl rfl rfl) rfl rfl (by exact Rd.p T rfl) rfl (by kernel_rfl) ?_
 refine D.q 10 [] hQ hS rfl (.take 6 true 82 _ hb43 rfl rfl rfl) rfl rfl (by exact Rd.p T rfl) rfl (by kernel_rfl) ?_
 refine D.q 11 [] hQ hS rfl (.take 6 true 82 _ hb43 rfl rfl rfl) rfl rfl (by exact Rd.l T rfl rfl rfl) rfl (by kernel_rfl) ?_
 refine D.q 12 [] hQ hS rfl (.take 6 true 82 _ hb43 rfl rfl rfl) rfl rfl (by exact Rd.p T rfl) rfl (by kernel_rfl) ?_
 refine D.q 13 [] hQ hS rfl (.take 6 true 82 _ hb43 rfl rfl rfl) rfl rfl (by exact Rd.l T rfl rfl rfl) rfl (by kernel_rfl) ?_
 refine D.q 14 [] hQ hS rfl (.take 6 true 82 _ hb43 rfl rfl rfl) rfl rfl (by exact Rd.p T rfl) rfl (by kernel_rfl) ?_
 refine D.q 15 [] hQ hS rfl (.take 6 true 82 _ hb43 rfl rfl rfl) rfl rfl (by exact Rd.p T rfl) rfl (by kernel_rfl) ?_
 refine D.q 16 [] hQ hS rfl (.take 6 true 82 _ hb43 rfl rfl rfl) rfl rfl (by exact Rd.p T rfl) rfl (by kernel_rfl) ?_
 refine D.q 17 [] hQ hS rfl (.take 6 true 82 _ hb43 rfl rfl rfl) rfl rfl (by exact Rd.p T rfl) rfl (by kernel_rfl) ?_
 refine D.q 18 [] hQ hS rfl (.take 6 true 82 _ hb43 rfl rfl rfl) rfl rfl (by exact Rd.l T rfl rfl rfl) rfl (by kernel_rfl) ?_
 refine D.q 19 [] hQ hS rfl (.take 6 true 82 _ hb43 rfl rfl rfl) rfl rfl (by exact Rd.p T rfl) rfl (by kernel_rfl) ?_
 obtain ⟨x44, hx44, hm⟩ := hm
 refine D.q 20 [] hQ hS rfl (.take 6 true 82 _ hb43 rfl rfl rfl) rfl rfl (by exact Rd.ix T rfl rfl rfl rfl rfl rfl hx44) rfl (by kernel_rfl) ?_
 refine D.q 21 [] hQ hS rfl (.take 6 true 82 _ hb43 rfl rfl rfl) rfl rfl (by exact Rd.p T rfl) rfl (by kernel_rfl) ?_
 refine D.q 22 [] hQ hS rfl (.take 6 true 82 _ hb43 rfl rfl rfl) rfl rfl (by exact Rd.l T rfl rfl rfl) rfl (by kernel_rfl) ?_
 refine D.e 23 rfl (.take 6 true 82 _ hb43 rfl rfl rfl) (by exact Eff.k (T_survey_Apart m.site.Aparts x18.Class x44.Class _ hm) en90 rfl rfl rfl (.eq rfl) (fun _ _ => ⟨(.v _), trivial⟩)) (by kernel_rfl) rfl rfl (fun x45' hm => ?_)
 obtain ⟨x45⟩ := x45'
 refine D.q 24 [] hQ hS rfl (.none rfl) rfl rfl (by exact Rd.pk rfl rfl hb43 rfl) rfl (by kernel_rfl) ?_
 refine D.done (by kernel_rfl) ?_
 exact St.wk (hJ41 _ hm) (Wk.f [some 0, some 1, some 2] ⟨bX, bX, vL, trivial⟩)
 refine D.sq 7 [] hQ hS rfl (.skip 6 true 82 _ hb43 rfl rfl rfl) rfl rfl (by kernel_rfl) ?_
 refine D.sq 8 [] hQ hS rfl (.skip 6 true 82 _ hb43 rfl rfl rfl) rfl rfl (by kernel_rfl) ?_
 refine D.sq 9 [] hQ hS rfl (.skip 6 true 82 _ hb43 rfl rfl rfl) rfl rfl (by kernel_rfl) ?_
 refine D.sq 10 [] hQ hS rfl (.skip 6 true 82 _ hb43 rfl rfl rfl) rfl rfl (by kernel_rfl) ?_
 refine D.sq 11 [] hQ hS rfl (.skip 6 true 82 _ hb43 rfl rfl rfl) rfl rfl (by kernel_rfl) ?_
 refine D.sq 12 [] hQ hS rfl (.skip 6 true 82 _ hb43 rfl rfl rfl) rfl rfl (by kernel_rfl) ?_
 refine D.sq 13 [] hQ hS rfl (.skip 6 true 82 _ hb43 rfl rfl rfl) rfl rfl (by kernel_rfl) ?_
 refine D.sq 14 [] hQ hS rfl (.skip 6 true 82 _ hb43 rfl rfl rfl) rfl rfl (by kernel_rfl) ?_
 refine D.sq 15 [] hQ hS rfl (.skip 6 true 82 _ hb43 rfl rfl rfl) rfl rfl (by kernel_rfl) ?_
 refine D.sq 16 [] hQ hS rfl (.skip 6 true 82 _ hb43 rfl rfl rfl) rfl rfl (by kernel_rfl) ?_
 refine D.sq 17 [] hQ hS rfl (.skip 6 true 82 _ hb43 rfl rfl rfl) rfl rfl (by kernel_rfl) ?_
 refine D.sq 18 [] hQ hS rfl (.skip 6 true 82 _ hb43 rfl rfl rfl) rfl rfl (by kernel_rfl) ?_
 refine D.sq 19 [] hQ hS rfl (.skip 6 true 82 _ hb43 rfl rfl rfl) rfl rfl (by kernel_rfl) ?_
 refine D.sq 20 [] hQ hS rfl (.skip 6 true 82 _ hb43 rfl rfl rfl) rfl rfl (by kernel_rfl) ?_
 refine D.sq 21 [] hQ hS rfl (.skip 6 true 82 _ hb43 rfl rfl rfl) rfl rfl (by kernel_rfl) ?_
 refine D.sq 22 [] hQ hS rfl (.skip 6 true 82 _ hb43 rfl rfl rfl) rfl rfl (by kernel_rfl) ?_
 refine D.sq 23 [] hQ hS rfl (.skip 6 true 82 _ hb43 rfl rfl rfl) rfl rfl (by kernel_rfl) ?_
 refine D.q 24 [] hQ hS rfl (.none rfl) rfl rfl (by exact Rd.pk' rfl rfl hb43 rfl) rfl (by kernel_rfl) ?_
 refine D.done (by kernel_rfl) ?_
 exact St.wk (hJ41 _ hm) (Wk.f [some 0, some 1, some 2] ⟨bX, bX, vL, trivial⟩)
 refine D.sq 2 [] hQ hS rfl (.skip 1 true 77 _ hb42 rfl rfl rfl) rfl rfl (by kernel_rfl) ?_
 refine D.sq 3 [] hQ hS rfl (.skip 1 true 77 _ hb42 rfl rfl rfl) rfl rfl (by kernel_rfl) ?_
 refine D.sq 4 [] hQ hS rfl (.skip 1 true 77 _ hb42 rfl rfl rfl) rfl rfl (by kernel_rfl) ?_
 refine D.q 5 [] hQ hS rfl (.none rfl) rfl rfl (by exact Rd.pk' rfl rfl hb42 rfl) rfl (by kernel_rfl) ?_
 refine D.ps 1 [(6, [])] rfl hQ hS T rfl rfl (by kernel_rfl) ?_
 refine D.sq 7 [] hQ hS rfl (.skip 6 true 82 _ rfl rfl rfl rfl) rfl rfl (by kernel_rfl) ?_
 refine D.sq 8 [] hQ hS rfl (.skip 6 true 82 _ rfl rfl rfl rfl) rfl rfl (by kernel_rfl) ?_
 refine D.sq 9 [] hQ hS rfl (.skip 6 true 82 _ rfl rfl rfl rfl) rfl rfl (by kernel_rfl) ?_
 refine D.sq 10 [] hQ hS rfl (.skip 6 true 82 _ rfl rfl rfl rfl) rfl rfl (by kernel_rfl) ?_
 refine D.sq 11 [] hQ hS rfl (.skip 6 true 82 _ rfl rfl rfl rfl) rfl rfl (by kernel_rfl) ?_
 refine D.sq 12 [] hQ hS rfl (.skip 6 true 82 _ rfl rfl rfl rfl) rfl rfl (by kernel_rfl) ?_
 refine D.sq 13 [] hQ hS rfl (.skip 6 true 82 _ rfl rfl rfl rfl) rfl rfl (by kernel_rfl) ?_
 refine D.sq 14 [] hQ hS rfl (.skip 6 true 82 _ rfl rfl rfl rfl) rfl rfl (by kernel_rfl) ?_
 refine D.sq 15 [] hQ hS rfl (.skip 6 true 82 _ rfl rfl rfl rfl) rfl rfl (by kernel_rfl) ?_
 refine D.sq 16 [] hQ hS rfl (.skip 6 true 82 _ rfl rfl rfl rfl) rfl rfl (by kernel_rfl) ?_
 refine D.sq 17 [] hQ hS rfl (.skip 6 true 82 _ rfl rfl rfl rfl) rfl rfl (by kernel_rfl) ?_
 refine D.sq 18 [] hQ hS rfl (.skip 6 true 82 _ rfl rfl rfl rfl) rfl rfl (by kernel_rfl) ?_
 refine D.sq 19 [] hQ hS rfl (.skip 6 true 82 _ rfl rfl rfl rfl) rfl rfl (by kernel_rfl) ?_
 refine D.sq 20 [] hQ hS rfl (.skip 6 true 82 _ rfl rfl rfl rfl) rfl rfl (by kernel_rfl) ?_
 refine D.sq 21 [] hQ hS rfl (.skip 6 true 82 _ rfl rfl rfl rfl) rfl rfl (by kernel_rfl) ?_
 refine D.sq 22 [] hQ hS rfl (.skip 6 true 82 _ rfl rfl rfl rfl) rfl rfl (by kernel_rfl) ?_
 refine D.sq 23 [] hQ hS rfl (.skip 6 true 82 _ rfl rfl rfl rfl) rfl rfl (by kernel_rfl) ?_
 refine D.q 24 [] hQ hS rfl (.none rfl) rfl rfl (by exact Rd.pk' rfl rfl rfl rfl) rfl (by kernel_rfl) ?_
 refine D.done (by kernel_rfl) ?_
 exact St.wk (hJ41 _ hm) (Wk.f [some 0, some 1, some 2] ⟨bX, bX, vL, trivial⟩)
 refine C.exit (C.ex (C.ex (C.bex ?_)))
 exact St.wk (hJ29 _ hm) (Wk.f [some 0] ⟨bX, trivial⟩)
 refine C.exit (C.ex (C.ex (C.bex ?_)))
 exact St.wk (hJ8 _ hm) (Wk.mk' [] rfl rfl trivial trivial rfl)
theorem T_survey_maker_crowded_1 (z : ApiZone) (c0 : SurveyMaker) (post : Bool → Prop) (hm : V_survey_maker_crowded_1 z c0 post) :
    Tr Try.prog 92 [.agg (eApiZone z), .rp [.rp [.i c0.site.Floor.W, .i c0.site.Floor.H, .i c0.site.Floor.D, .sl 1 eI c0.site.Floor.Kind, .sl 1 eI c0.site.Floor.Out, .sl 5 eApiZone c0.site.Zones, .sl 2 eApiApart c0.site.Aparts, .sl 2 eApiShelf c0.site.Shelves, .sl 2 eApiStart c0.site.Robots, .rm kI veI c0.shelf, .rm kI veB c0.robot, .rm kI veB c0.zoned, .rm kS veI c0.names, .rm kI veB c0.oneways, .sl 1 eI c0.shelves, .sl 1 eI c0.zones]]] [] 0 (fun A H' k => ∃ y, post y ∧ A = (.b y) ∧ H' = [] ∧ k = 0) := by
 refine Tr.intro (n := 46) Try.func92 rfl Try.ntmps92 rfl (fun w0 ok F β hβ => ?_)
 unfold V_survey_maker_crowded_1 at hm
 refine C.seq (U.start ?_)
 refine U.e1 rfl (.none rfl) (by exact Eff1.box rfl rfl rfl rfl rfl) ?_
 refine U.ps 1 T rfl ?_
 refine U.done (C.nx (C.seq (U.start ?_)))
 refine U.ps 1 T rfl ?_
 refine U.done (C.nx (C.seq (C.seq (U.start ?_))))
 refine U.ps 4 T rfl ?_
 refine U.done (C.nx ?_)
 refine C.jn (fun (x7 : Int) => [(2, .p 0 0), (4, .i x7)]) (fun (x7 : Int) => [(0, .box (eApiZone z))]) 1 hm (fun x7 hm => ?_) (fun J8 hm hJ8 => ?_)
 refine C.nx (C.seq (U.start ?_))
 refine U.ps 5 T rfl ?_
 refine U.done (C.nx (C.ret ?_))
 exact C.f0 T (rs' := [.b (decide (x7 < z.Keep))]) hβ ⟨decide (x7 < z.Keep), hm, rfl, rfl, rfl⟩
 refine C.block ?_
 refine St.wk (C.loop (fun (s9 : Int × Int) => [(1, .rp [.rp [.i c0.site.Floor.W, .i c0.site.Floor.H, .i c0.site.Floor.D, .sl 1 eI c0.site.Floor.Kind, .sl 1 eI c0.site.Floor.Out, .sl 5 eApiZone c0.site.Zones, .sl 2 eApiApart c0.site.Aparts, .sl 2 eApiShelf c0.site.Shelves, .sl 2 eApiStart c0.site.Robots, .rm kI veI c0.shelf, .rm kI veB c0.robot, .rm kI veB c0.zoned, .rm kS veI c0.names, .rm kI veB c0.oneways, .sl 1 eI c0.shelves, .sl 1 eI c0.zones]]), (2, .p 0 0), (4, .i s9.1), (10, .sl 1 eI z.Cells), (11, .i (z.Cells.length : Int)), (12, .i s9.2)]) (fun (s9 : Int × Int) => [(0, .box (eApiZone z))]) hm (fun s9 Y10 hm => ?_)) (Wk.f [some 0] ⟨bX, trivial⟩)
 refine C.seq (U.start ?_)
 refine U.ps 1 T rfl ?_
 refine U.done (C.nx (C.seq ?_))
 refine C.ite rfl hm (fun hb13 hm => ?_) (fun hb13 hm => ?_)
 refine C.skip (C.nx (C.seq (C.block (C.seq (U.start ?_)))))
 obtain ⟨x16, hx16, hm⟩ := hm
 refine U.r rfl (.none rfl) rfl rfl (by exact Rd.ix T rfl rfl rfl rfl rfl rfl hx16) ?_
 refine U.ps 2 T rfl ?_
 refine U.done (C.nx (C.seq (U.start ?_)))
 refine U.ps 5 T rfl ?_
 refine U.r rfl (.none rfl) rfl rfl (by exact Rd.lk2 T (ke := kI) (ve := veI) (xs := c0.shelf) (z0 := 0) (x := x16) rfl rfl kt3 zt3 (fun _ => rfl) rfl .rm rfl rfl rfl) ?_
 refine U.ps 5 T rfl ?_
 refine U.done (C.nx (C.seq ?_))
 refine C.jn (fun (x19 : Bool) => [(1, .rp [.rp [.i c0.site.Floor.W, .i c0.site.Floor.H, .i c0.site.Floor.D, .sl 1 eI c0.site.Floor.Kind, .sl 1 eI c0.site.Floor.Out, .sl 5 eApiZone c0.site.Zones, .sl 2 eApiApart c0.site.Aparts, .sl 2 eApiShelf c0.site.Shelves, .sl 2 eApiStart c0.site.Robots, .rm kI veI c0.shelf, .rm kI veB c0.robot, .rm kI veB c0.zoned, .rm kS veI c0.names, .rm kI veB c0.oneways, .sl 1 eI c0.shelves, .sl 1 eI c0.zones]]), (2, .p 0 0), (4, .i s9.1), (10, .sl 1 eI z.Cells), (11, .i (z.Cells.length : Int)), (12, .i s9.2), (38, .b x19)]) (fun (x19 : Bool) => [(0, .box (eApiZone z))]) 1 hm (fun x19 hm => ?_) (fun J20 hm hJ20 => ?_)
 refine C.nx ?_
 refine C.jn (fun (x24 : Int) => [(1, .rp [.rp [.i c0.site.Floor.W, .i c0.site.Floor.H, .i c0.site.Floor.D, .sl 1 eI c0.site.Floor.Kind, .sl 1 eI c0.site.Floor.Out, .sl 5 eApiZone c0.site.Zones, .sl 2 eApiApart c0.site.Aparts, .sl 2 eApiShelf c0.site.Shelves, .sl 2 eApiStart c0.site.Robots, .rm kI veI c0.shelf, .rm kI veB c0.robot, .rm kI veB c0.zoned, .rm kS veI c0.names, .rm kI veB c0.oneways, .sl 1 eI c0.shelves, .sl 1 eI c0.zones]]), (2, .p 0 0), (4, .i x24), (10, .sl 1 eI z.Cells), (11, .i (z.Cells.length : Int)), (12, .i s9.2)]) (fun (x24 : Int) => [(0, .box (eApiZone z))]) 1 hm (fun x24 hm => ?_) (fun J25 hm hJ25 => ?_)
 refine C.bnx (C.nx (U.start ?_))
 refine U.ps 2 T rfl ?_
 refine U.done (C.nx ?_)
 exact St.wk (C.next hm) (Wk.f [some 0] ⟨bX, trivial⟩)
 refine C.ite rfl hm (fun hb26 hm => ?_) (fun hb26 hm => ?_)
 refine U.start ?_
 refine U.ps 3 T rfl ?_
 refine U.done ?_
 exact St.wk (hJ25 _ hm) (Wk.f [some 0] ⟨bX, trivial⟩)
 refine C.skip ?_
 exact St.wk (hJ25 _ hm) (Wk.f [some 0] ⟨bX, trivial⟩)
 refine U.start ?_
 refine U.ps 3 T rfl ?_
 refine hm.cs (fun hb21 hm => ?_) (fun hb21 hm => ?_)
 refine U.sks 10 2 true 27 (ntF hb21) rfl rfl rfl ?_
 refine U.r rfl (.none rfl) rfl rfl (by exact Rd.pk' rfl rfl (ntF hb21) rfl) ?_
 refine U.done ?_
 exact St.wk (hJ20 _ hm) (Wk.f [some 0] ⟨bX, trivial⟩)
 refine U.pg 7 2 true 27 (ntT hb21) T rfl rfl rfl rfl ?_
 obtain ⟨x22, hx22, hm⟩ := hm
 refine U.r rfl (.take 2 true 27 _ (ntT hb21) rfl rfl rfl) rfl rfl (by exact Rd.ix T rfl rfl rfl rfl rfl rfl hx22) ?_
 refine U.pg 1 2 true 27 (ntT hb21) T rfl rfl rfl rfl ?_
 refine U.e rfl (.take 2 true 27 _ (ntT hb21) rfl rfl rfl) (by exact Eff.k (T_survey_stands x22 _ hm) en91 rfl rfl rfl (.eq rfl) (fun _ _ => ⟨(.v _), trivial⟩)) (fun x23' hm => ?_)
 obtain ⟨x23⟩ := x23'
 refine U.r rfl (.none rfl) rfl rfl (by exact Rd.pk rfl rfl (ntT hb21) rfl) ?_
 refine U.done ?_
 exact St.wk (hJ20 _ hm) (Wk.f [some 0] ⟨bX, trivial⟩)
 refine C.exit (C.ex (C.ex (C.bex ?_)))
 exact St.wk (hJ8 _ hm) (Wk.f [some 0] ⟨bX, trivial⟩)
theorem T_slices_IndexFunc_api_Zone_api_Zone__survey_maker_crowded_1 (s_1 : List ApiZone) (f_c0 : SurveyMaker) (post : Int → Prop) (hm : V_slices_IndexFunc_api_Zone_api_Zone__survey_maker_crowded_1 s_1 f_c0 post) :
    Tr Try.prog 52 [.sl 5 eApiZone s_1, .fn (.func 92) [] [.rp [.rp [.i f_c0.site.Floor.W, .i f_c0.site.Floor.H, .i f_c0.site.Floor.D, .sl 1 eI f_c0.site.Floor.Kind, .sl 1 eI f_c0.site.Floor.Out, .sl 5 eApiZone f_c0.site.Zones, .sl 2 eApiApart f_c0.site.Aparts, .sl 2 eApiShelf f_c0.site.Shelves, .sl 2 eApiStart f_c0.site.Robots, .rm kI veI f_c0.shelf, .rm kI veB f_c0.robot, .rm kI veB f_c0.zoned, .rm kS veI f_c0.names, .rm kI veB f_c0.oneways, .sl 1 eI f_c0.shelves, .sl 1 eI f_c0.zones]]]] [] 0 (fun A H' k => ∃ y, post y ∧ A = (.i y) ∧ H' = [] ∧ k = 0) := by
 refine Tr.intro (n := 19) Try.func52 rfl Try.ntmps52 rfl (fun w0 ok F β hβ => ?_)
 unfold V_slices_IndexFunc_api_Zone_api_Zone__survey_maker_crowded_1 at hm
 refine C.seq (U.start ?_)
 refine U.ps 1 T rfl ?_
 refine U.done (C.nx (C.seq (C.seq (U.start ?_))))
 refine U.ps 3 T rfl ?_
 refine U.done (C.nx ?_)
 refine C.jn (fun (x5 : Unit) => []) (fun (x5 : Unit) => []) 0 hm (fun x5 hm => ?_) (fun J6 hm hJ6 => ?_)
 refine C.nx (C.seq (U.start ?_))
 refine U.ps 1 T rfl ?_
 refine U.done (C.nx (C.ret ?_))
 exact C.f0 T (rs' := [.i (-1)]) hβ ⟨(-1), hm, rfl, rfl, rfl⟩
 refine C.block ?_
 refine St.wk (C.loop (fun (s7 : Int) => [(0, .sl 5 eApiZone s_1), (1, .fn (.func 92) [] [.rp [.rp [.i f_c0.site.Floor.W, .i f_c0.site.Floor.H, .i f_c0.site.Floor.D, .sl 1 eI f_c0.site.Floor.Kind, .sl 1 eI f_c0.site.Floor.Out, .sl 5 eApiZone f_c0.site.Zones, .sl 2 eApiApart f_c0.site.Aparts, .sl 2 eApiShelf f_c0.site.Shelves, .sl 2 eApiStart f_c0.site.Robots, .rm kI veI f_c0.shelf, .rm kI veB f_c0.robot, .rm kI veB f_c0.zoned, .rm kS veI f_c0.names, .rm kI veB f_c0.oneways, .sl 1 eI f_c0.shelves, .sl 1 eI f_c0.zones]]]), (7, .i (s_1.length : Int)), (8, .i s7)]) (fun (s7 : Int) => []) hm (fun s7 Y8 hm => ?_)) (Wk.e)
 refine C.seq (U.start ?_)
 refine U.ps 1 T rfl ?_
 refine U.done (C.nx (C.seq ?_))
 refine C.ite rfl hm (fun hb11 hm => ?_) (fun hb11 hm => ?_)
 refine C.skip (C.nx (C.seq (C.block (C.seq (U.start ?_)))))
 refine U.ps 2 T rfl ?_
 refine U.done (C.nx (C.seq (U.start ?_)))
 refine U.ps 3 T rfl ?_
 obtain ⟨x16, hx16, hm⟩ := hm
 refine U.r rfl (.none rfl) rfl rfl (by exact Rd.ix T rfl rfl rfl rfl rfl rfl hx16) ?_
 refine U.ps 1 T rfl ?_
 refine U.e rfl (.none rfl) (by exact Eff.k (T_survey_maker_crowded_1 x16 f_c0 _ hm) en92 rfl rfl rfl (.eq rfl) (fun _ _ => ⟨(.v _), trivial⟩)) (fun x17' hm => ?_)
 obtain ⟨x17⟩ := x17'
 refine U.done (C.nx ?_)
 refine C.ite rfl hm (fun hb18 hm => ?_) (fun hb18 hm => ?_)
 refine C.seq (U.start ?_)
 refine U.ps 2 T rfl ?_
 refine U.done (C.nx (C.ret (C.brt (C.rt (C.rt (C.brt (C.rt ?_)))))))
 exact C.f0 T (rs' := [.i s7]) hβ ⟨s7, hm, rfl, rfl, rfl⟩
 refine C.skip (C.bnx (C.nx (U.start ?_)))
 refine U.ps 2 T rfl ?_
 refine U.done (C.nx ?_)
 exact St.wk (C.next hm) (Wk.e)
 refine C.exit (C.ex (C.ex (C.bex ?_)))
 exact St.wk (hJ6 _ hm) (Wk.mk' [] rfl rfl trivial trivial rfl)
theorem T_survey_maker_crowded (m : SurveyMaker) (post : Int → Prop) (hm : V_survey_maker_crowded m post) :
    Tr Try.prog 72 [.rp [.i m.site.Floor.W, .i m.site.Floor.H, .i m.site.Floor.D, .sl 1 eI m.site.Floor.Kind, .sl 1 eI m.site.Floor.Out, .sl 5 eApiZone m.site.Zones, .sl 2 eApiApart m.site.Aparts, .sl 2 eApiShelf m.site.Shelves, .sl 2 eApiStart m.site.Robots, .rm kI veI m.shelf, .rm kI veB m.robot, .rm kI veB m.zoned, .rm kS veI m.names, .rm kI veB m.oneways, .sl 1 eI m.shelves, .sl 1 eI m.zones]] [] 0 (fun A H' k => ∃ y, post y ∧ A = (.i y) ∧ H' = [] ∧ k = 0) := by
 refine Tr.intro (n := 10) Try.func72 rfl Try.ntmps72 rfl (fun w0 ok F β hβ => ?_)
 unfold V_survey_maker_crowded at hm
 refine C.seq (U.start ?_)
 refine U.e1 rfl (.none rfl) (by exact Eff1.box rfl rfl rfl rfl rfl) ?_
 refine U.ps 1 T rfl ?_
 refine U.done (C.nx (C.seq (U.start ?_)))
 refine U.ps 6 T rfl ?_
 refine U.e rfl (.none rfl) (by exact Eff.k (T_slices_IndexFunc_api_Zone_api_Zone__survey_maker_crowded_1 m.site.Zones m _ hm) en52 rfl rfl rfl (.cons (.eq rfl) (.cons (.fn (.eq rfl) (.cons (.fzp rfl rfl rfl rfl (.eq rfl) rfl) .nil)) .nil)) (fun _ _ => ⟨(.v _), trivial⟩)) (fun x5' hm => ?_)
 obtain ⟨x5⟩ := x5'
 refine U.ps 1 T rfl ?_
 refine U.done (C.nx (C.ret ?_))
 exact C.f0 T (rs' := [.i x5]) hβ ⟨x5, hm, rfl, rfl, rfl⟩
theorem T_slices_Index_int_int (s_1 : List Int) (v : Int) (post : Int → Prop) (hm : V_slices_Index_int_int s_1 v post) :
    Tr Try.prog 100 [.sl 1 eI s_1, .i v] [] 0 (fun A H' k => ∃ y, post y ∧ A = (.i y) ∧ H' = [] ∧ k = 0) := by
 refine Tr.intro (n := 19) Try.func100 rfl Try.ntmps100 rfl (fun w0 ok F β hβ => ?_)
 unfold V_slices_Index_int_int at hm
 refine C.seq (U.start ?_)
 refine U.ps 1 T rfl ?_
 refine U.done (C.nx (C.seq (C.seq (U.start ?_))))
 refine U.ps 3 T rfl ?_
 refine U.done (C.nx ?_)
 refine C.jn (fun (x5 : Unit) => []) (fun (x5 : Unit) => []) 0 hm (fun x5 hm => ?_) (fun J6 hm hJ6 => ?_)
 refine C.nx (C.seq (U.start ?_))
 refine U.ps 1 T rfl ?_
 refine U.done (C.nx (C.ret ?_))
 exact C.f0 T (rs' := [.i (-1)]) hβ ⟨(-1), hm, rfl, rfl, rfl⟩
 refine C.block ?_
 refine St.wk (C.loop (fun (s7 : Int) => [(0, .sl 1 eI s_1), (1, .i v), (7, .i (s_1.length : Int)), (8, .i s7)]) (fun (s7 : Int) => []) hm (fun s7 Y8 hm => ?_)) (Wk.e)
 refine C.seq (U.start ?_)
 refine U.ps 1 T rfl ?_
 refine U.done (C.nx (C.seq ?_))
 refine C.ite rfl hm (fun hb11 hm => ?_) (fun hb11 hm => ?_)
 refine C.skip (C.nx (C.seq (C.block (C.seq (U.start ?_)))))
 refine U.ps 2 T rfl ?_
 refine U.done (C.nx (C.seq (U.start ?_)))
 refine U.ps 3 T rfl ?_
 obtain ⟨x16, hx16, hm⟩ := hm
 refine U.r rfl (.none rfl) rfl rfl (by exact Rd.ix T rfl rfl rfl rfl rfl rfl hx16) ?_
 refine U.ps 2 T rfl ?_
 refine U.done (C.nx ?_)
 refine C.ite rfl hm (fun hb17 hm => ?_) (fun hb17 hm => ?_)
 refine C.seq (U.start ?_)
 refine U.ps 2 T rfl ?_
 refine U.done (C.nx (C.ret (C.brt (C.rt (C.rt (C.brt (C.rt ?_)))))))
 exact C.f0 T (rs' := [.i s7]) hβ ⟨s7, hm, rfl, rfl, rfl⟩
 refine C.skip (C.bnx (C.nx (U.start ?_)))
 refine U.ps 2 T rfl ?_
 refine U.done (C.nx ?_)
 exact St.wk (C.next hm) (Wk.e)
 refine C.exit (C.ex (C.ex (C.bex ?_)))
 exact St.wk (hJ6 _ hm) (Wk.mk' [] rfl rfl trivial trivial rfl)
theorem T_slices_Contains_int_int (s_1 : List Int) (v : Int) (post : Bool → Prop) (hm : V_slices_Contains_int_int s_1 v post) :
    Tr Try.prog 93 [.sl 1 eI s_1, .i v] [] 0 (fun A H' k => ∃ y, post y ∧ A = (.b y) ∧ H' = [] ∧ k = 0) := by
 refine Tr.intro (n := 9) Try.func93 rfl Try.ntmps93 rfl (fun w0 ok F β hβ => ?_)
 unfold V_slices_Contains_int_int at hm
 refine C.seq (U.start ?_)
 refine U.ps 1 T rfl ?_
 refine U.done (C.nx (C.seq (U.start ?_)))
 refine U.ps 2 T rfl ?_
 refine U.e rfl (.none rfl) (by exact Eff.k (T_slices_Index_int_int s_1 v _ hm) en100 rfl rfl rfl (.eq rfl) (fun _ _ => ⟨(.v _), trivial⟩)) (fun x5' hm => ?_)
 obtain ⟨x5⟩ := x5'
 refine U.ps 2 T rfl ?_
 refine U.done (C.nx (C.ret ?_))
 exact C.f0 T (rs' := [.b (decide (x5 ≥ 0))]) hβ ⟨decide (x5 ≥ 0), hm, rfl, rfl, rfl⟩
theorem T_survey_maker_charger (m : SurveyMaker) (post : Bool → Prop) (hm : V_survey_maker_charger m post) :
    Tr Try.prog 73 [.rp [.i m.site.Floor.W, .i m.site.Floor.H, .i m.site.Floor.D, .sl 1 eI m.site.Floor.Kind, .sl 1 eI m.site.Floor.Out, .sl 5 eApiZone m.site.Zones, .sl 2 eApiApart m.site.Aparts, .sl 2 eApiShelf m.site.Shelves, .sl 2 eApiStart m.site.Robots, .rm kI veI m.shelf, .rm kI veB m.robot, .rm kI veB m.zoned, .rm kS veI m.names, .rm kI veB m.oneways, .sl 1 eI m.shelves, .sl 1 eI m.zones]] [] 0 (fun A H' k => ∃ y, post y ∧ A = (.b y) ∧ H' = [] ∧ k = 0) := by
 refine Tr.intro (n := 10) Try.func73 rfl Try.ntmps73 rfl (fun w0 ok F β hβ => ?_)
 unfold V_survey_maker_charger at hm
 refine C.seq (U.start ?_)
 refine U.ps 1 T rfl ?_
 refine U.done (C.nx (C.seq (U.start ?_)))
 refine U.ps 6 T rfl ?_
 refine U.e rfl (.none rfl) (by exact Eff.k (T_slices_Contains_int_int m.site.Floor.Kind 3 _ hm) en93 rfl rfl rfl (.eq rfl) (fun _ _ => ⟨(.v _), trivial⟩)) (fun x5' hm => ?_)
 obtain ⟨x5⟩ := x5'
 refine U.ps 1 T rfl ?_
 refine U.done (C.nx (C.ret ?_))
 exact C.f0 T (rs' := [.b x5]) hβ ⟨x5, hm, rfl, rfl, rfl⟩
theorem T_survey_Right (s_1 : ApiSite) (post : Bool → Prop) (hm : V_survey_Right s_1 post) :
    Tr Try.prog 43 [.agg (eApiSite s_1)] [] 0 (fun A H' k => ∃ y, post y ∧ A = (.b y) ∧ H' = [] ∧ k = 0) := by
 refine Tr.intro (n := 109) Try.func43 rfl Try.ntmps43 rfl (fun w0 ok F β hβ => ?_)
 unfold V_survey_Right at hm
 refine C.seq (U.start ?_)
 refine U.e1 rfl (.none rfl) (by exact Eff1.box rfl rfl rfl rfl rfl) ?_
 refine U.ps 1 T rfl ?_
 refine U.done (C.nx (C.seq (C.seq (U.start ?_))))
 refine U.ps 2 T rfl ?_
 refine U.e rfl (.none rfl) (by exact Eff.k (T_floor_Right s_1.Floor _ hm) en61 rfl rfl rfl (.eq rfl) (fun _ _ => ⟨(.v _), trivial⟩)) (fun x5' hm => ?_)
 obtain ⟨x5⟩ := x5'
 refine U.ps 1 T rfl ?_
 refine U.done (C.nx ?_)
 refine C.ite rfl hm (fun hb6 hm => ?_) (fun hb6 hm => ?_)
 refine C.seq (U.start ?_)
 refine U.ps 1 T rfl ?_
 refine U.done (C.nx (C.ret (C.rt ?_)))
 exact C.f0 T (rs' := [.b false]) hβ ⟨false, hm, rfl, rfl, rfl⟩
 refine C.skip (C.nx (C.seq (U.start ?_)))
 refine U.ps 2 T rfl ?_
 refine U.e rfl (.none rfl) (by exact Eff.c [] (v := false) (T_survey_newMaker s_1.Floor _ hm) en62 rfl rfl rfl (.eq rfl) trivial rfl rfl rfl rfl rfl rfl (fun h => by cases h) (.inr ⟨rfl, rfl⟩) (fun _ => rfl) (fun _ => rfl) rfl) (fun x11' hm => ?_)
 obtain ⟨x11⟩ := x11'
 refine U.ps 1 T rfl ?_
 refine U.done (C.nx (C.seq (C.seq (U.start ?_))))
 refine U.ps 4 T rfl ?_
 refine U.done (C.nx ?_)
 refine C.jn (fun (x14 : Int × Int × Int × List Int × List Int × List ApiZone × List ApiApart × List ApiShelf × List ApiStart × List (Int × Int) × List (Int × Bool) × List (Int × Bool) × List (ByteArray × Int) × List (Int × Bool) × List Int × List Int) => [(1, .p 0 0), (3, .p 1 0)]) (fun (x14 : Int × Int × Int × List Int × List Int × List ApiZone × List ApiApart × List ApiShelf × List ApiStart × List (Int × Int) × List (Int × Bool) × List (Int × Bool) × List (ByteArray × Int) × List (Int × Bool) × List Int × List Int) => [(0, .box (eApiSite s_1)), (1, .box [.i x14.1, .i x14.2.1, .i x14.2.2.1, .sl 1 eI x14.2.2.2.1, .sl 1 eI x14.2.2.2.2.1, .o 2, .o 3, .o 4, .o 5, .o 6, .o 7, .o 8, .o 9, .o 10, .o 11, .o 12]), (2, .val (.os 5 eApiZone x14.2.2.2.2.2.1)), (3, .val (.os 2 eApiApart x14.2.2.2.2.2.2.1)), (4, .val (.os 2 eApiShelf x14.2.2.2.2.2.2.2.1)), (5, .val (.os 2 eApiStart x14.2.2.2.2.2.2.2.2.1)), (6, .val (.om kI veI x14.2.2.2.2.2.2.2.2.2.1)), (7, .val (.om kI veB x14.2.2.2.2.2.2.2.2.2.2.1)), (8, .val (.om kI veB x14.2.2.2.2.2.2.2.2.2.2.2.1)), (9, .val (.om kS veI x14.2.2.2.2.2.2.2.2.2.2.2.2.1)), (10, .val (.om kI veB x14.2.2.2.2.2.2.2.2.2.2.2.2.2.1)), (11, .val (.os 1 eI x14.2.2.2.2.2.2.2.2.2.2.2.2.2.2.1)), (12, .val (.os 1 eI x14.2.2.2.2.2.2.2.2.2.2.2.2.2.2.2))]) 13 hm (fun x14 hm => ?_) (fun J15 hm hJ15 => ?_)
 refine C.nx (C.seq (C.seq (U.start ?_)))
 refine U.ps 4 T rfl ?_
 refine U.done (C.nx ?_)
 refine C.jn (fun (x43 : Int × Int × Int × List Int × List Int × List ApiZone × List ApiApart × List ApiShelf × List ApiStart × List (Int × Int) × List (Int × Bool) × List (Int × Bool) × List (ByteArray × Int) × List (Int × Bool) × List Int × List Int) => [(1, .p 0 0), (3, .p 1 0)]) (fun (x43 : Int × Int × Int × List Int × List Int × List ApiZone × List ApiApart × List ApiShelf × List ApiStart × List (Int × Int) × List (Int × Bool) × List (Int × Bool) × List (ByteArray × Int) × List (Int × Bool) × List Int × List Int) => [(0, .box (eApiSite s_1)), (1, .box [.i x43.1, .i x43.2.1, .i x43.2.2.1, .sl 1 eI x43.2.2.2.1, .sl 1 eI x43.2.2.2.2.1, .o 2, .o 3, .o 4, .o 5, .o 6, .o 7, .o 8, .o 9, .o 10, .o 11, .o 12]), (2, .val (.os 5 eApiZone x43.2.2.2.2.2.1)), (3, .val (.os 2 eApiApart x43.2.2.2.2.2.2.1)), (4, .val (.os 2 eApiShelf x43.2.2.2.2.2.2.2.1)), (5, .val (.os 2 eApiStart x43.2.2.2.2.2.2.2.2.1)), (6, .val (.om kI veI x43.2.2.2.2.2.2.2.2.2.1)), (7, .val (.om kI veB x43.2.2.2.2.2.2.2.2.2.2.1)), (8, .val (.om kI veB x43.2.2.2.2.2.2.2.2.2.2.2.1)), (9, .val (.om kS veI x43.2.2.2.2.2.2.2.2.2.2.2.2.1)), (10, .val (.om kI veB x43.2.2.2.2.2.2.2.2.2.2.2.2.2.1)), (11, .val (.os 1 eI x43.2.2.2.2.2.2.2.2.2.2.2.2.2.2.1)), (12, .val (.os 1 eI x43.2.2.2.2.2.2.2.2.2.2.2.2.2.2.2))]) 13 hm (fun x43 hm => ?_) (fun J44 hm hJ44 => ?_)
 refine C.nx (C.seq (C.seq (U.start ?_)))
 refine U.ps 4 T rfl ?_
 refine U.done (C.nx ?_)
 refine C.jn (fun (x63 : Int × Int × Int × List Int × List Int × List ApiZone × List ApiApart × List ApiShelf × List ApiStart × List (Int × Int) × List (Int × Bool) × List (Int × Bool) × List (ByteArray × Int) × List (Int × Bool) × List Int × List Int) => [(1, .p 0 0), (3, .p 1 0)]) (fun (x63 : Int × Int × Int × List Int × List Int × List ApiZone × List ApiApart × List ApiShelf × List ApiStart × List (Int × Int) × List (Int × Bool) × List (Int × Bool) × List (ByteArray × Int) × List (Int × Bool) × List Int × List Int) => [(0, .box (eApiSite s_1)), (1, .box [.i x63.1, .i x63.2.1, .i x63.2.2.1, .sl 1 eI x63.2.2.2.1, .sl 1 eI x63.2.2.2.2.1, .o 2, .o 3, .o 4, .o 5, .o 6, .o 7, .o 8, .o 9, .o 10, .o 11, .o 12]), (2, .val (.os 5 eApiZone x63.2.2.2.2.2.1)), (3, .val (.os 2 eApiApart x63.2.2.2.2.2.2.1)), (4, .val (.os 2 eApiShelf x63.2.2.2.2.2.2.2.1)), (5, .val (.os 2 eApiStart x63.2.2.2.2.2.2.2.2.1)), (6, .val (.om kI veI x63.2.2.2.2.2.2.2.2.2.1)), (7, .val (.om kI veB x63.2.2.2.2.2.2.2.2.2.2.1)), (8, .val (.om kI veB x63.2.2.2.2.2.2.2.2.2.2.2.1)), (9, .val (.om kS veI x63.2.2.2.2.2.2.2.2.2.2.2.2.1)), (10, .val (.om kI veB x63.2.2.2.2.2.2.2.2.2.2.2.2.2.1)), (11, .val (.os 1 eI x63.2.2.2.2.2.2.2.2.2.2.2.2.2.2.1)), (12, .val (.os 1 eI x63.2.2.2.2.2.2.2.2.2.2.2.2.2.2.2))]) 13 hm (fun x63 hm => ?_) (fun J64 hm hJ64 => ?_)
 refine C.nx (C.seq (C.seq (U.start ?_)))
 refine U.ps 4 T rfl ?_
 refine U.done (C.nx ?_)
 refine C.jn (fun (x83 : Int × Int × Int × List Int × List Int × List ApiZone × List ApiApart × List ApiShelf × List ApiStart × List (Int × Int) × List (Int × Bool) × List (Int × Bool) × List (ByteArray × Int) × List (Int × Bool) × List Int × List Int) => [(3, .p 0 0)]) (fun (x83 : Int × Int × Int × List Int × List Int × List ApiZone × List ApiApart × List ApiShelf × List ApiStart × List (Int × Int) × List (Int × Bool) × List (Int × Bool) × List (ByteArray × Int) × List (Int × Bool) × List Int × List Int) => [(0, .box [.i x83.1, .i x83.2.1, .i x83.2.2.1, .sl 1 eI x83.2.2.2.1, .sl 1 eI x83.2.2.2.2.1, .o 1, .o 2, .o 3, .o 4, .o 5, .o 6, .o 7, .o 8, .o 9, .o 10, .o 11]), (1, .val (.os 5 eApiZone x83.2.2.2.2.2.1)), (2, .val (.os 2 eApiApart x83.2.2.2.2.2.2.1)), (3, .val (.os 2 eApiShelf x83.2.2.2.2.2.2.2.1)), (4, .val (.os 2 eApiStart x83.2.2.2.2.2.2.2.2.1)), (5, .val (.om kI veI x83.2.2.2.2.2.2.2.2.2.1)), (6, .val (.om kI veB x83.2.2.2.2.2.2.2.2.2.2.1)), (7, .val (.om kI veB x83.2.2.2.2.2.2.2.2.2.2.2.1)), (8, .val (.om kS veI x83.2.2.2.2.2.2.2.2.2.2.2.2.1)), (9, .val (.om kI veB x83.2.2.2.2.2.2.2.2.2.2.2.2.2.1)), (10, .val (.os 1 eI x83.2.2.2.2.2.2.2.2.2.2.2.2.2.2.1)), (11, .val (.os 1 eI x83.2.2.2.2.2.2.2.2.2.2.2.2.2.2.2))]) 12 hm (fun x83 hm => ?_) (fun J84 hm hJ84 => ?_)
 refine C.nx (C.seq ?_)
 refine C.jn (fun (x101 : Bool) => [(2, .b x101)]) (fun (x101 : Bool) => []) 0 hm (fun x101 hm => ?_) (fun J102 hm hJ102 => ?_)
 refine C.nx (C.ret ?_)
 exact C.f0 T (rs' := [.b x101]) hβ ⟨x101, hm, rfl, rfl, rfl⟩
 refine U.start ?_
 refine U.ps 1 T rfl ?_
 refine U.e rfl (.none rfl) (by exact Eff.k (T_survey_maker_beside ({ site := ({ Floor := ({ W := x83.1, H := x83.2.1, D := x83.2.2.1, Kind := x83.2.2.2.1, Out := x83.2.2.2.2.1 : ApiFloor }), Zones := x83.2.2.2.2.2.1, Aparts := x83.2.2.2.2.2.2.1, Shelves := x83.2.2.2.2.2.2.2.1, Robots := x83.2.2.2.2.2.2.2.2.1 : ApiSite }), shelf := x83.2.2.2.2.2.2.2.2.2.1, robot := x83.2.2.2.2.2.2.2.2.2.2.1, zoned := x83.2.2.2.2.2.2.2.2.2.2.2.1, names := x83.2.2.2.2.2.2.2.2.2.2.2.2.1, oneways := x83.2.2.2.2.2.2.2.2.2.2.2.2.2.1, shelves := x83.2.2.2.2.2.2.2.2.2.2.2.2.2.2.1, zones := x83.2.2.2.2.2.2.2.2.2.2.2.2.2.2.2 : SurveyMaker }) _ hm) en71 rfl rfl rfl (.cons (.fzp rfl rfl rfl rfl (.cons (.eq rfl) (.cons (.eq rfl) (.cons (.eq rfl) (.cons (.eq rfl) (.cons (.eq rfl) (.cons (.fz rfl rfl rfl (.os fun _ => .cons (.ro rfl) (.cons (.ro rfl) (.cons (.ro rfl) (.cons (.ro rfl) (.cons (.ro rfl) .nil)))))) (.cons (.fz rfl rfl rfl (.os fun _ => .cons (.ro rfl) (.cons (.ro rfl) .nil))) (.cons (.fz rfl rfl rfl (.os fun _ => .cons (.ro rfl) (.cons (.ro rfl) .nil))) (.cons (.fz rfl rfl rfl (.os fun _ => .cons (.ro rfl) (.cons (.ro rfl) .nil))) (.cons (.fz rfl rfl rfl (.om fun _ => .ro rfl)) (.cons (.fz rfl rfl rfl (.om fun _ => .ro rfl)) (.cons (.fz rfl rfl rfl (.om fun _ => .ro rfl)) (.cons (.fz rfl rfl rfl (.om fun _ => .ro rfl)) (.cons (.fz rfl rfl rfl (.om fun _ => .ro rfl)) (.cons (.fz rfl rfl rfl (.os fun _ => .cons (.ro rfl) .nil)) (.cons (.fz rfl rfl rfl (.os fun _ => .cons (.ro rfl) .nil)) .nil)))))))))))))))) rfl) .nil) (fun _ _ => ⟨(.v _), trivial⟩)) (fun x103' hm => ?_)
 obtain ⟨x103⟩ := x103'
 refine U.ps 2 T rfl ?_
 refine hm.cs (fun hb104 hm => ?_) (fun hb104 hm => ?_)
 refine U.pg 1 3 true 100 hb104 T rfl rfl rfl rfl ?_
 refine U.e rfl (.take 3 true 100 _ hb104 rfl rfl rfl) (by exact Eff.k (T_survey_maker_crowded ({ site := ({ Floor := ({ W := x83.1, H := x83.2.1, D := x83.2.2.1, Kind := x83.2.2.2.1, Out := x83.2.2.2.2.1 : ApiFloor }), Zones := x83.2.2.2.2.2.1, Aparts := x83.2.2.2.2.2.2.1, Shelves := x83.2.2.2.2.2.2.2.1, Robots := x83.2.2.2.2.2.2.2.2.1 : ApiSite }), shelf := x83.2.2.2.2.2.2.2.2.2.1, robot := x83.2.2.2.2.2.2.2.2.2.2.1, zoned := x83.2.2.2.2.2.2.2.2.2.2.2.1, names := x83.2.2.2.2.2.2.2.2.2.2.2.2.1, oneways := x83.2.2.2.2.2.2.2.2.2.2.2.2.2.1, shelves := x83.2.2.2.2.2.2.2.2.2.2.2.2.2.2.1, zones := x83.2.2.2.2.2.2.2.2.2.2.2.2.2.2.2 : SurveyMaker }) _ hm) en72 rfl rfl rfl (.cons (.fzp rfl rfl rfl rfl (.cons (.eq rfl) (.cons (.eq rfl) (.cons (.eq rfl) (.cons (.eq rfl) (.cons (.eq rfl) (.cons (.fz rfl rfl rfl (.os fun _ => .cons (.ro rfl) (.cons (.ro rfl) (.cons (.ro rfl) (.cons (.ro rfl) (.cons (.ro rfl) .nil)))))) (.cons (.fz rfl rfl rfl (.os fun _ => .cons (.ro rfl) (.cons (.ro rfl) .nil))) (.cons (.fz rfl rfl rfl (.os fun _ => .cons (.ro rfl) (.cons (.ro rfl) .nil))) (.cons (.fz rfl rfl rfl (.os fun _ => .cons (.ro rfl) (.cons (.ro rfl) .nil))) (.cons (.fz rfl rfl rfl (.om fun _ => .ro rfl)) (.cons (.fz rfl rfl rfl (.om fun _ => .ro rfl)) (.cons (.fz rfl rfl rfl (.om fun _ => .ro rfl)) (.cons (.fz rfl rfl rfl (.om fun _ => .ro rfl)) (.cons (.fz rfl rfl rfl (.om fun _ => .ro rfl)) (.cons (.fz rfl rfl rfl (.os fun _ => .cons (.ro rfl) .nil)) (.cons (.fz rfl rfl rfl (.os fun _ => .cons (.ro rfl) .nil)) .nil)))))))))))))))) rfl) .nil) (fun _ _ => ⟨(.v _), trivial⟩)) (fun x105' hm => ?_)
 obtain ⟨x105⟩ := x105'
 refine U.pg 1 3 true 100 hb104 T rfl rfl rfl rfl ?_
 refine U.r rfl (.none rfl) rfl rfl (by exact Rd.pk rfl rfl hb104 rfl) ?_
 refine U.ps 1 T rfl ?_
 refine hm.cs (fun hb106 hm => ?_) (fun hb106 hm => ?_)
 refine U.pg 1 8 true 105 hb106 T rfl rfl rfl rfl ?_
 refine U.e rfl (.take 8 true 105 _ hb106 rfl rfl rfl) (by exact Eff.k (T_survey_maker_charger ({ site := ({ Floor := ({ W := x83.1, H := x83.2.1, D := x83.2.2.1, Kind := x83.2.2.2.1, Out := x83.2.2.2.2.1 : ApiFloor }), Zones := x83.2.2.2.2.2.1, Aparts := x83.2.2.2.2.2.2.1, Shelves := x83.2.2.2.2.2.2.2.1, Robots := x83.2.2.2.2.2.2.2.2.1 : ApiSite }), shelf := x83.2.2.2.2.2.2.2.2.2.1, robot := x83.2.2.2.2.2.2.2.2.2.2.1, zoned := x83.2.2.2.2.2.2.2.2.2.2.2.1, names := x83.2.2.2.2.2.2.2.2.2.2.2.2.1, oneways := x83.2.2.2.2.2.2.2.2.2.2.2.2.2.1, shelves := x83.2.2.2.2.2.2.2.2.2.2.2.2.2.2.1, zones := x83.2.2.2.2.2.2.2.2.2.2.2.2.2.2.2 : SurveyMaker }) _ hm) en73 rfl rfl rfl (.cons (.fzp rfl rfl rfl rfl (.cons (.eq rfl) (.cons (.eq rfl) (.cons (.eq rfl) (.cons (.eq rfl) (.cons (.eq rfl) (.cons (.fz rfl rfl rfl (.os fun _ => .cons (.ro rfl) (.cons (.ro rfl) (.cons (.ro rfl) (.cons (.ro rfl) (.cons (.ro rfl) .nil)))))) (.cons (.fz rfl rfl rfl (.os fun _ => .cons (.ro rfl) (.cons (.ro rfl) .nil))) (.cons (.fz rfl rfl rfl (.os fun _ => .cons (.ro rfl) (.cons (.ro rfl) .nil))) (.cons (.fz rfl rfl rfl (.os fun _ => .cons (.ro rfl) (.cons (.ro rfl) .nil))) (.cons (.fz rfl rfl rfl (.om fun _ => .ro rfl)) (.cons (.fz rfl rfl rfl (.om fun _ => .ro rfl)) (.cons (.fz rfl rfl rfl (.om fun _ => .ro rfl)) (.cons (.fz rfl rfl rfl (.om fun _ => .ro rfl)) (.cons (.fz rfl rfl rfl (.om fun _ => .ro rfl)) (.cons (.fz rfl rfl rfl (.os fun _ => .cons (.ro rfl) .nil)) (.cons (.fz rfl rfl rfl (.os fun _ => .cons (.ro rfl) .nil)) .nil)))))))))))))))) rfl) .nil) (fun _ _ => ⟨(.v _), trivial⟩)) (fun x107' hm => ?_)
 obtain ⟨x107⟩ := x107'
 refine U.r rfl (.none rfl) rfl rfl (by exact Rd.pk rfl rfl hb106 rfl) ?_
 refine U.ps 1 T rfl ?_
 refine U.done ?_
 exact St.wk (hJ102 _ hm) (Wk.e)
 refine U.sks 2 8 true 105 hb106 rfl rfl rfl ?_
 refine U.r rfl (.none rfl) rfl rfl (by exact Rd.pk' rfl rfl hb106 rfl) ?_
 refine U.ps 1 T rfl ?_
 refine U.done ?_
 exact St.wk (hJ102 _ hm) (Wk.e)
 refine U.sks 3 3 true 100 hb104 rfl rfl rfl ?_
 refine U.r rfl (.none rfl) rfl rfl (by exact Rd.pk' rfl rfl hb104 rfl) ?_
 refine U.ps 1 T rfl ?_
 refine U.sks 2 8 true 105 rfl rfl rfl rfl ?_
 refine U.r rfl (.none rfl) rfl rfl (by exact Rd.pk' rfl rfl rfl rfl) ?_
 refine U.ps 1 T rfl ?_
 refine U.done ?_
 exact St.wk (hJ102 _ hm) (Wk.e)
 refine C.block ?_
 refine St.wk (C.loop (fun (s85 : Int × Int × Int × List Int × List Int × List ApiZone × List ApiApart × List ApiShelf × List ApiStart × List (Int × Int) × List (Int × Bool) × List (Int × Bool) × List (ByteArray × Int) × List (Int × Bool) × List Int × List Int × Int) => [(3, .p 0 0), (86, .sl 2 eApiStart s_1.Robots), (87, .i (s_1.Robots.length : Int)), (88, .i s85.2.2.2.2.2.2.2.2.2.2.2.2.2.2.2.2)]) (fun (s85 : Int × Int × Int × List Int × List Int × List ApiZone × List ApiApart × List ApiShelf × List ApiStart × List (Int × Int) × List (Int × Bool) × List (Int × Bool) × List (ByteArray × Int) × List (Int × Bool) × List Int × List Int × Int) => [(0, .box [.i s85.1, .i s85.2.1, .i s85.2.2.1, .sl 1 eI s85.2.2.2.1, .sl 1 eI s85.2.2.2.2.1, .o 1, .o 2, .o 3, .o 4, .o 5, .o 6, .o 7, .o 8, .o 9, .o 10, .o 11]), (1, .val (.os 5 eApiZone s85.2.2.2.2.2.1)), (2, .val (.os 2 eApiApart s85.2.2.2.2.2.2.1)), (3, .val (.os 2 eApiShelf s85.2.2.2.2.2.2.2.1)), (4, .val (.os 2 eApiStart s85.2.2.2.2.2.2.2.2.1)), (5, .val (.om kI veI s85.2.2.2.2.2.2.2.2.2.1)), (6, .val (.om kI veB s85.2.2.2.2.2.2.2.2.2.2.1)), (7, .val (.om kI veB s85.2.2.2.2.2.2.2.2.2.2.2.1)), (8, .val (.om kS veI s85.2.2.2.2.2.2.2.2.2.2.2.2.1)), (9, .val (.om kI veB s85.2.2.2.2.2.2.2.2.2.2.2.2.2.1)), (10, .val (.os 1 eI s85.2.2.2.2.2.2.2.2.2.2.2.2.2.2.1)), (11, .val (.os 1 eI s85.2.2.2.2.2.2.2.2.2.2.2.2.2.2.2.1))]) hm (fun s85 Y86 hm => ?_)) (Wk.f [some 1, some 2, some 3, some 4, some 5, some 6, some 7, some 8, some 9, some 10, some 11, some 12] ⟨bX, vL, vL, vL, vL, vL, vL, vL, vL, vL, vL, vL, trivial⟩)
 refine C.seq (U.start ?_)
 refine U.ps 1 T rfl ?_
 refine U.done (C.nx (C.seq ?_))
 refine C.ite rfl hm (fun hb89 hm => ?_) (fun hb89 hm => ?_)
 refine C.skip (C.nx (C.seq (C.block (C.seq (U.start ?_)))))
 obtain ⟨x92, hx92, hm⟩ := hm
 refine U.r rfl (.none rfl) rfl rfl (by exact Rd.ix T rfl rfl rfl rfl rfl rfl hx92) ?_
 refine U.ps 1 T rfl ?_
 refine U.e1 rfl (.none rfl) (by exact Eff1.al T rfl rfl rfl rfl) ?_
 refine U.e1 rfl (.none rfl) (by exact Eff1.st T rfl rfl rfl rfl rfl rfl rfl rfl rfl rfl) ?_
 refine U.done (C.nx (C.seq (U.start ?_)))
 refine U.ps 2 T rfl ?_
 refine U.e rfl (.none rfl) (by exact Eff.c [some 0, some 1, some 2, some 3, some 4, some 5, some 6, some 7, some 8, some 9, some 10, some 11] (v := false) (T_survey_maker_addRobot__p0 x92 ({ site := ({ Floor := ({ W := s85.1, H := s85.2.1, D := s85.2.2.1, Kind := s85.2.2.2.1, Out := s85.2.2.2.2.1 : ApiFloor }), Zones := s85.2.2.2.2.2.1, Aparts := s85.2.2.2.2.2.2.1, Shelves := s85.2.2.2.2.2.2.2.1, Robots := s85.2.2.2.2.2.2.2.2.1 : ApiSite }), shelf := s85.2.2.2.2.2.2.2.2.2.1, robot := s85.2.2.2.2.2.2.2.2.2.2.1, zoned := s85.2.2.2.2.2.2.2.2.2.2.2.1, names := s85.2.2.2.2.2.2.2.2.2.2.2.2.1, oneways := s85.2.2.2.2.2.2.2.2.2.2.2.2.2.1, shelves := s85.2.2.2.2.2.2.2.2.2.2.2.2.2.2.1, zones := s85.2.2.2.2.2.2.2.2.2.2.2.2.2.2.2.1 : SurveyMaker }) _ hm) en70 rfl rfl rfl (.eq rfl) ⟨bX, vL, vL, vL, vL, vL, vL, vL, vL, vL, vL, vL, trivial⟩ rfl rfl rfl rfl rfl rfl (fun h => by cases h) (.inl rfl) (fun _ => rfl) (fun _ => rfl) rfl) (fun x95' hm => ?_)
 obtain ⟨x95⟩ := x95'
 refine U.ps 1 T rfl ?_
 refine U.done (C.nx ?_)
 refine C.ite rfl hm (fun hb96 hm => ?_) (fun hb96 hm => ?_)
 refine C.seq (U.start ?_)
 refine U.ps 1 T rfl ?_
 refine U.done (C.nx (C.ret (C.brt (C.rt (C.rt (C.brt (C.rt ?_)))))))
 exact C.f0 T (rs' := [.b false]) hβ ⟨false, hm, rfl, rfl, rfl⟩
 refine C.skip (C.bnx (C.nx (U.start ?_)))
 refine U.ps 2 T rfl ?_
 refine U.done (C.nx ?_)
 exact St.wk (C.next hm) (Wk.f [some 0, some 25, some 26, some 27, some 28, some 29, some 30, some 31, some 32, some 33, some 34, some 35] ⟨bX, vL, vL, vL, vL, vL, vL, vL, vL, vL, vL, vL, trivial⟩)
 refine C.exit (C.ex (C.ex (C.bex ?_)))
 exact St.wk (hJ84 _ hm) (Wk.f [some 0, some 1, some 2, some 3, some 4, some 5, some 6, some 7, some 8, some 9, some 10, some 11] ⟨bX, vL, vL, vL, vL, vL, vL, vL, vL, vL, vL, vL, trivial⟩)
 refine C.block ?_
 refine St.wk (C.loop (fun (s65 : Int × Int × Int × List Int × List Int × List ApiZone × List ApiApart × List ApiShelf × List ApiStart × List (Int × Int) × List (Int × Bool) × List (Int × Bool) × List (ByteArray × Int) × List (Int × Bool) × List Int × List Int × Int) => [(1, .p 0 0), (3, .p 1 0), (74, .sl 2 eApiShelf s_1.Shelves), (75, .i (s_1.Shelves.length : Int)), (76, .i s65.2.2.2.2.2.2.2.2.2.2.2.2.2.2.2.2)]) (fun (s65 : Int × Int × Int × List Int × List Int × List ApiZone × List ApiApart × List ApiShelf × List ApiStart × List (Int × Int) × List (Int × Bool) × List (Int × Bool) × List (ByteArray × Int) × List (Int × Bool) × List Int × List Int × Int) => [(0, .box (eApiSite s_1)), (1, .box [.i s65.1, .i s65.2.1, .i s65.2.2.1, .sl 1 eI s65.2.2.2.1, .sl 1 eI s65.2.2.2.2.1, .o 2, .o 3, .o 4, .o 5, .o 6, .o 7, .o 8, .o 9, .o 10, .o 11, .o 12]), (2, .val (.os 5 eApiZone s65.2.2.2.2.2.1)), (3, .val (.os 2 eApiApart s65.2.2.2.2.2.2.1)), (4, .val (.os 2 eApiShelf s65.2.2.2.2.2.2.2.1)), (5, .val (.os 2 eApiStart s65.2.2.2.2.2.2.2.2.1)), (6, .val (.om kI veI s65.2.2.2.2.2.2.2.2.2.1)), (7, .val (.om kI veB s65.2.2.2.2.2.2.2.2.2.2.1)), (8, .val (.om kI veB s65.2.2.2.2.2.2.2.2.2.2.2.1)), (9, .val (.om kS veI s65.2.2.2.2.2.2.2.2.2.2.2.2.1)), (10, .val (.om kI veB s65.2.2.2.2.2.2.2.2.2.2.2.2.2.1)), (11, .val (.os 1 eI s65.2.2.2.2.2.2.2.2.2.2.2.2.2.2.1)), (12, .val (.os 1 eI s65.2.2.2.2.2.2.2.2.2.2.2.2.2.2.2.1))]) hm (fun s65 Y66 hm => ?_)) (Wk.f [some 0, some 1, some 2, some 3, some 4, some 5, some 6, some 7, some 8, some 9, some 10, some 11, some 12] ⟨bX, bX, vL, vL, vL, vL, vL, vL, vL, vL, vL, vL, vL, trivial⟩)
 refine C.seq (U.start ?_)
 refine U.ps 1 T rfl ?_
 refine U.done (C.nx (C.seq ?_))
 refine C.ite rfl hm (fun hb69 hm => ?_) (fun hb69 hm => ?_)
 refine C.skip (C.nx (C.seq (C.block (C.seq (U.start ?_)))))
 obtain ⟨x72, hx72, hm⟩ := hm
 refine U.r rfl (.none rfl) rfl rfl (by exact Rd.ix T rfl rfl rfl rfl rfl rfl hx72) ?_
 refine U.ps 1 T rfl ?_
 refine U.e1 rfl (.none rfl) (by exact Eff1.al T rfl rfl rfl rfl) ?_
 refine U.e1 rfl (.none rfl) (by exact Eff1.st T rfl rfl rfl rfl rfl rfl rfl rfl rfl rfl) ?_
 refine U.done (C.nx (C.seq (U.start ?_)))
 refine U.ps 2 T rfl ?_
 refine U.e rfl (.none rfl) (by exact Eff.c [some 1, some 2, some 3, some 4, some 5, some 6, some 7, some 8, some 9, some 10, some 11, some 12] (v := false) (T_survey_maker_addShelf__p0 x72 ({ site := ({ Floor := ({ W := s65.1, H := s65.2.1, D := s65.2.2.1, Kind := s65.2.2.2.1, Out := s65.2.2.2.2.1 : ApiFloor }), Zones := s65.2.2.2.2.2.1, Aparts := s65.2.2.2.2.2.2.1, Shelves := s65.2.2.2.2.2.2.2.1, Robots := s65.2.2.2.2.2.2.2.2.1 : ApiSite }), shelf := s65.2.2.2.2.2.2.2.2.2.1, robot := s65.2.2.2.2.2.2.2.2.2.2.1, zoned := s65.2.2.2.2.2.2.2.2.2.2.2.1, names := s65.2.2.2.2.2.2.2.2.2.2.2.2.1, oneways := s65.2.2.2.2.2.2.2.2.2.2.2.2.2.1, shelves := s65.2.2.2.2.2.2.2.2.2.2.2.2.2.2.1, zones := s65.2.2.2.2.2.2.2.2.2.2.2.2.2.2.2.1 : SurveyMaker }) _ hm) en69 rfl rfl rfl (.eq rfl) ⟨bX, vL, vL, vL, vL, vL, vL, vL, vL, vL, vL, vL, trivial⟩ rfl rfl rfl rfl rfl rfl (fun h => by cases h) (.inl rfl) (fun _ => rfl) (fun _ => rfl) rfl) (fun x75' hm => ?_)
 obtain ⟨x75⟩ := x75'
 refine U.ps 1 T rfl ?_
 refine U.done (C.nx ?_)
 refine C.ite rfl hm (fun hb76 hm => ?_) (fun hb76 hm => ?_)
 refine C.seq (U.start ?_)
 refine U.ps 1 T rfl ?_
 refine U.done (C.nx (C.ret (C.brt (C.rt (C.rt (C.brt (C.rt ?_)))))))
 exact C.f0 T (rs' := [.b false]) hβ ⟨false, hm, rfl, rfl, rfl⟩
 refine C.skip (C.bnx (C.nx (U.start ?_)))
 refine U.ps 2 T rfl ?_
 refine U.done (C.nx ?_)
 exact St.wk (C.next hm) (Wk.f [some 0, some 1, some 26, some 27, some 28, some 29, some 30, some 31, some 32, some 33, some 34, some 35, some 36] ⟨bX, bX, vL, vL, vL, vL, vL, vL, vL, vL, vL, vL, vL, trivial⟩)
 refine C.exit (C.ex (C.ex (C.bex ?_)))
 exact St.wk (hJ64 _ hm) (Wk.f [some 0, some 1, some 2, some 3, some 4, some 5, some 6, some 7, some 8, some 9, some 10, some 11, some 12] ⟨bX, bX, vL, vL, vL, vL, vL, vL, vL, vL, vL, vL, vL, trivial⟩)
 refine C.block ?_
 refine St.wk (C.loop (fun (s45 : Int × Int × Int × List Int × List Int × List ApiZone × List ApiApart × List ApiShelf × List ApiStart × List (Int × Int) × List (Int × Bool) × List (Int × Bool) × List (ByteArray × Int) × List (Int × Bool) × List Int × List Int × Int) => [(1, .p 0 0), (3, .p 1 0), (62, .sl 2 eApiApart s_1.Aparts), (63, .i (s_1.Aparts.length : Int)), (64, .i s45.2.2.2.2.2.2.2.2.2.2.2.2.2.2.2.2)]) (fun (s45 : Int × Int × Int × List Int × List Int × List ApiZone × List ApiApart × List ApiShelf × List ApiStart × List (Int × Int) × List (Int × Bool) × List (Int × Bool) × List (ByteArray × Int) × List (Int × Bool) × List Int × List Int × Int) => [(0, .box (eApiSite s_1)), (1, .box [.i s45.1, .i s45.2.1, .i s45.2.2.1, .sl 1 eI s45.2.2.2.1, .sl 1 eI s45.2.2.2.2.1, .o 2, .o 3, .o 4, .o 5, .o 6, .o 7, .o 8, .o 9, .o 10, .o 11, .o 12]), (2, .val (.os 5 eApiZone s45.2.2.2.2.2.1)), (3, .val (.os 2 eApiApart s45.2.2.2.2.2.2.1)), (4, .val (.os 2 eApiShelf s45.2.2.2.2.2.2.2.1)), (5, .val (.os 2 eApiStart s45.2.2.2.2.2.2.2.2.1)), (6, .val (.om kI veI s45.2.2.2.2.2.2.2.2.2.1)), (7, .val (.om kI veB s45.2.2.2.2.2.2.2.2.2.2.1)), (8, .val (.om kI veB s45.2.2.2.2.2.2.2.2.2.2.2.1)), (9, .val (.om kS veI s45.2.2.2.2.2.2.2.2.2.2.2.2.1)), (10, .val (.om kI veB s45.2.2.2.2.2.2.2.2.2.2.2.2.2.1)), (11, .val (.os 1 eI s45.2.2.2.2.2.2.2.2.2.2.2.2.2.2.1)), (12, .val (.os 1 eI s45.2.2.2.2.2.2.2.2.2.2.2.2.2.2.2.1))]) hm (fun s45 Y46 hm => ?_)) (Wk.f [some 0, some 1, some 2, some 3, some 4, some 5, some 6, some 7, some 8, some 9, some 10, some 11, some 12] ⟨bX, bX, vL, vL, vL, vL, vL, vL, vL, vL, vL, vL, vL, trivial⟩)
 refine C.seq (U.start ?_)
 refine U.ps 1 T rfl ?_
 refine U.done (C.nx (C.seq ?_))
 refine C.ite rfl hm (fun hb49 hm => ?_) (fun hb49 hm => ?_)
 refine C.skip (C.nx (C.seq (C.block (C.seq (U.start ?_)))))
 obtain ⟨x52, hx52, hm⟩ := hm
 refine U.r rfl (.none rfl) rfl rfl (by exact Rd.ix T rfl rfl rfl rfl rfl rfl hx52) ?_
 refine U.ps 1 T rfl ?_
 refine U.e1 rfl (.none rfl) (by exact Eff1.al T rfl rfl rfl rfl) ?_
 refine U.e1 rfl (.none rfl) (by exact Eff1.st T rfl rfl rfl rfl rfl rfl rfl rfl rfl rfl) ?_
 refine U.done (C.nx (C.seq (U.start ?_)))
 refine U.ps 2 T rfl ?_
 refine U.e rfl (.none rfl) (by exact Eff.c [some 1, some 2, some 3, some 4, some 5, some 6, some 7, some 8, some 9, some 10, some 11, some 12] (v := false) (T_survey_maker_addApart__p0 x52 ({ site := ({ Floor := ({ W := s45.1, H := s45.2.1, D := s45.2.2.1, Kind := s45.2.2.2.1, Out := s45.2.2.2.2.1 : ApiFloor }), Zones := s45.2.2.2.2.2.1, Aparts := s45.2.2.2.2.2.2.1, Shelves := s45.2.2.2.2.2.2.2.1, Robots := s45.2.2.2.2.2.2.2.2.1 : ApiSite }), shelf := s45.2.2.2.2.2.2.2.2.2.1, robot := s45.2.2.2.2.2.2.2.2.2.2.1, zoned := s45.2.2.2.2.2.2.2.2.2.2.2.1, names := s45.2.2.2.2.2.2.2.2.2.2.2.2.1, oneways := s45.2.2.2.2.2.2.2.2.2.2.2.2.2.1, shelves := s45.2.2.2.2.2.2.2.2.2.2.2.2.2.2.1, zones := s45.2.2.2.2.2.2.2.2.2.2.2.2.2.2.2.1 : SurveyMaker }) _ hm) en68 rfl rfl rfl (.eq rfl) ⟨bX, vL, vL, vL, vL, vL, vL, vL, vL, vL, vL, vL, trivial⟩ rfl rfl rfl rfl rfl rfl (fun h => by cases h) (.inl rfl) (fun _ => rfl) (fun _ => rfl) rfl) (fun x55' hm => ?_)
 obtain ⟨x55⟩ := x55'
 refine U.ps 1 T rfl ?_
 refine U.done (C.nx ?_)
 refine C.ite rfl hm (fun hb56 hm => ?_) (fun hb56 hm => ?_)
 refine C.seq (U.start ?_)
 refine U.ps 1 T rfl ?_
 refine U.done (C.nx (C.ret (C.brt (C.rt (C.rt (C.brt (C.rt ?_)))))))
 exact C.f0 T (rs' := [.b false]) hβ ⟨false, hm, rfl, rfl, rfl⟩
 refine C.skip (C.bnx (C.nx (U.start ?_)))
 refine U.ps 2 T rfl ?_
 refine U.done (C.nx ?_)
 exact St.wk (C.next hm) (Wk.f [some 0, some 1, some 26, some 27, some 28, some 29, some 30, some 31, some 32, some 33, some 34, some 35, some 36] ⟨bX, bX, vL, vL, vL, vL, vL, vL, vL, vL, vL, vL, vL, trivial⟩)
 refine C.exit (C.ex (C.ex (C.bex ?_)))
 exact St.wk (hJ44 _ hm) (Wk.f [some 0, some 1, some 2, some 3, some 4, some 5, some 6, some 7, some 8, some 9, some 10, some 11, some 12] ⟨bX, bX, vL, vL, vL, vL, vL, vL, vL, vL, vL, vL, vL, trivial⟩)
 refine C.block ?_
 refine St.wk (C.loop (fun (s16 : Int × Int × Int × List Int × List Int × List ApiZone × List ApiApart × List ApiShelf × List ApiStart × List (Int × Int) × List (Int × Bool) × List (Int × Bool) × List (ByteArray × Int) × List (Int × Bool) × List Int × List Int × Int) => [(1, .p 0 0), (3, .p 1 0), (20, .sl 5 eApiZone s_1.Zones), (21, .i (s_1.Zones.length : Int)), (22, .i s16.2.2.2.2.2.2.2.2.2.2.2.2.2.2.2.2)]) (fun (s16 : Int × Int × Int × List Int × List Int × List ApiZone × List ApiApart × List ApiShelf × List ApiStart × List (Int × Int) × List (Int × Bool) × List (Int × Bool) × List (ByteArray × Int) × List (Int × Bool) × List Int × List Int × Int) => [(0, .box (eApiSite s_1)), (1, .box [.i s16.1, .i s16.2.1, .i s16.2.2.1, .sl 1 eI s16.2.2.2.1, .sl 1 eI s16.2.2.2.2.1, .o 2, .o 3, .o 4, .o 5, .o 6, .o 7, .o 8, .o 9, .o 10, .o 11, .o 12]), (2, .val (.os 5 eApiZone s16.2.2.2.2.2.1)), (3, .val (.os 2 eApiApart s16.2.2.2.2.2.2.1)), (4, .val (.os 2 eApiShelf s16.2.2.2.2.2.2.2.1)), (5, .val (.os 2 eApiStart s16.2.2.2.2.2.2.2.2.1)), (6, .val (.om kI veI s16.2.2.2.2.2.2.2.2.2.1)), (7, .val (.om kI veB s16.2.2.2.2.2.2.2.2.2.2.1)), (8, .val (.om kI veB s16.2.2.2.2.2.2.2.2.2.2.2.1)), (9, .val (.om kS veI s16.2.2.2.2.2.2.2.2.2.2.2.2.1)), (10, .val (.om kI veB s16.2.2.2.2.2.2.2.2.2.2.2.2.2.1)), (11, .val (.os 1 eI s16.2.2.2.2.2.2.2.2.2.2.2.2.2.2.1)), (12, .val (.os 1 eI s16.2.2.2.2.2.2.2.2.2.2.2.2.2.2.2.1))]) hm (fun s16 Y17 hm => ?_)) (Wk.f [some 0, some 12, some 1, some 2, some 3, some 4, some 5, some 6, some 7, some 8, some 9, some 10, some 11] ⟨bX, bX, vL, vL, vL, vL, vL, vL, vL, vL, vL, vL, vL, trivial⟩)
 refine C.seq (U.start ?_)
 refine U.ps 1 T rfl ?_
 refine U.done (C.nx (C.seq ?_))
 refine C.ite rfl hm (fun hb20 hm => ?_) (fun hb20 hm => ?_)
 refine C.skip (C.nx (C.seq (C.block (C.seq (U.start ?_)))))
 obtain ⟨x23, hx23, hm⟩ := hm
 refine U.r rfl (.none rfl) rfl rfl (by exact Rd.ix T rfl rfl rfl rfl rfl rfl hx23) ?_
 refine U.ps 1 T rfl ?_
 refine U.e1 rfl (.none rfl) (by exact Eff1.al T rfl rfl rfl rfl) ?_
 refine U.e1 rfl (.none rfl) (by exact Eff1.st T rfl rfl rfl rfl rfl rfl rfl rfl rfl rfl) ?_
 refine U.done (C.nx (C.seq ?_))
 refine C.jn (fun (x24 : Int × Int × Int × List Int × List Int × List ApiZone × List ApiApart × List ApiShelf × List ApiStart × List (Int × Int) × List (Int × Bool) × List (Int × Bool) × List (ByteArray × Int) × List (Int × Bool) × List Int × List Int × Bool) => [(1, .p 0 0), (3, .p 1 0), (20, .sl 5 eApiZone s_1.Zones), (21, .i (s_1.Zones.length : Int)), (22, .i s16.2.2.2.2.2.2.2.2.2.2.2.2.2.2.2.2), (59, .b x24.2.2.2.2.2.2.2.2.2.2.2.2.2.2.2.2)]) (fun (x24 : Int × Int × Int × List Int × List Int × List ApiZone × List ApiApart × List ApiShelf × List ApiStart × List (Int × Int) × List (Int × Bool) × List (Int × Bool) × List (ByteArray × Int) × List (Int × Bool) × List Int × List Int × Bool) => [(0, .box (eApiSite s_1)), (1, .box [.i x24.1, .i x24.2.1, .i x24.2.2.1, .sl 1 eI x24.2.2.2.1, .sl 1 eI x24.2.2.2.2.1, .o 2, .o 3, .o 4, .o 5, .o 6, .o 7, .o 8, .o 9, .o 10, .o 11, .o 12]), (2, .val (.os 5 eApiZone x24.2.2.2.2.2.1)), (3, .val (.os 2 eApiApart x24.2.2.2.2.2.2.1)), (4, .val (.os 2 eApiShelf x24.2.2.2.2.2.2.2.1)), (5, .val (.os 2 eApiStart x24.2.2.2.2.2.2.2.2.1)), (6, .val (.om kI veI x24.2.2.2.2.2.2.2.2.2.1)), (7, .val (.om kI veB x24.2.2.2.2.2.2.2.2.2.2.1)), (8, .val (.om kI veB x24.2.2.2.2.2.2.2.2.2.2.2.1)), (9, .val (.om kS veI x24.2.2.2.2.2.2.2.2.2.2.2.2.1)), (10, .val (.om kI veB x24.2.2.2.2.2.2.2.2.2.2.2.2.2.1)), (11, .val (.os 1 eI x24.2.2.2.2.2.2.2.2.2.2.2.2.2.2.1)), (12, .val (.os 1 eI x24.2.2.2.2.2.2.2.2.2.2.2.2.2.2.2.1))]) 13 hm (fun x24 hm => ?_) (fun J25 hm hJ25 => ?_)
 refine C.nx ?_
 refine C.ite rfl hm (fun hb36 hm => ?_) (fun hb36 hm => ?_)
 refine C.seq (U.start ?_)
 refine U.ps 1 T rfl ?_
 refine U.done (C.nx (C.ret (C.brt (C.rt (C.rt (C.brt (C.rt ?_)))))))
 exact C.f0 T (rs' := [.b false]) hβ ⟨false, hm, rfl, rfl, rfl⟩
 refine C.skip (C.bnx (C.nx (U.start ?_)))
 refine U.ps 2 T rfl ?_
 refine U.done (C.nx ?_)
 exact St.wk (C.next hm) (Wk.f [some 0, some 1, some 2, some 3, some 4, some 5, some 6, some 7, some 8, some 9, some 10, some 11, some 12] ⟨bX, bX, vL, vL, vL, vL, vL, vL, vL, vL, vL, vL, vL, trivial⟩)
 refine U.start ?_
 refine U.ps 2 T rfl ?_
 refine U.e rfl (.none rfl) (by exact Eff.k (T_survey_Name x23.Name _ hm) en63 rfl rfl rfl (.eq rfl) (fun _ _ => ⟨(.v _), trivial⟩)) (fun x26' hm => ?_)
 obtain ⟨x26⟩ := x26'
 refine U.ps 2 T rfl ?_
 refine hm.cs (fun hb27 hm => ?_) (fun hb27 hm => ?_)
 refine U.pg 2 4 false 30 (ntF hb27) T rfl rfl rfl rfl ?_
 refine U.e rfl (.take 4 false 30 _ (ntF hb27) rfl rfl rfl) (by exact Eff.k (T_survey_within x23.Speed 1 100 _ hm) en64 rfl rfl rfl (.eq rfl) (fun _ _ => ⟨(.v _), trivial⟩)) (fun x28' hm => ?_)
 obtain ⟨x28⟩ := x28'
 refine U.pg 1 4 false 30 (ntF hb27) T rfl rfl rfl rfl ?_
 refine U.r rfl (.none rfl) rfl rfl (by exact Rd.pk' rfl rfl (ntF hb27) rfl) ?_
 refine U.ps 1 T rfl ?_
 refine hm.cs (fun hb29 hm => ?_) (fun hb29 hm => ?_)
 refine U.pg 3 10 false 36 (ntF hb29) T rfl rfl rfl rfl ?_
 refine U.r rfl (.none rfl) rfl rfl (by exact Rd.pk' rfl rfl (ntF hb29) rfl) ?_
 refine U.ps 1 T rfl ?_
 refine hm.cs (fun hb30 hm => ?_) (fun hb30 hm => ?_)
 refine U.sks 4 15 false 41 hb30 rfl rfl rfl ?_
 refine U.r rfl (.none rfl) rfl rfl (by exact Rd.pk rfl rfl hb30 rfl) ?_
 refine U.ps 1 T rfl ?_
 refine U.sks 5 21 false 47 rfl rfl rfl rfl ?_
 refine U.r rfl (.none rfl) rfl rfl (by exact Rd.pk rfl rfl rfl rfl) ?_
 refine U.ps 1 T rfl ?_
 refine U.sks 4 28 false 54 rfl rfl rfl rfl ?_
 refine U.r rfl (.none rfl) rfl rfl (by exact Rd.pk rfl rfl rfl rfl) ?_
 refine U.done ?_
 exact St.wk (hJ25 _ hm) (Wk.f [some 0, some 1, some 2, some 3, some 4, some 5, some 6, some 7, some 8, some 9, some 10, some 11, some 12] ⟨bX, bX, vL, vL, vL, vL, vL, vL, vL, vL, vL, vL, vL, trivial⟩)
 refine U.pg 2 15 false 41 hb30 T rfl rfl rfl rfl ?_
 refine U.e rfl (.take 15 false 41 _ hb30 rfl rfl rfl) (by exact Eff.k (T_survey_shut x23.Shut _ hm) en65 rfl rfl rfl (.eq rfl) (fun _ _ => ⟨(.v _), trivial⟩)) (fun x31' hm => ?_)
 obtain ⟨x31⟩ := x31'
 refine U.pg 1 15 false 41 hb30 T rfl rfl rfl rfl ?_
 refine U.r rfl (.none rfl) rfl rfl (by exact Rd.pk' rfl rfl hb30 rfl) ?_
 refine U.ps 1 T rfl ?_
 refine hm.cs (fun hb32 hm => ?_) (fun hb32 hm => ?_)
 refine U.pg 3 21 false 47 (ntF hb32) T rfl rfl rfl rfl ?_
 refine U.e rfl (.take 21 false 47 _ (ntF hb32) rfl rfl rfl) (by exact Eff.k (T_survey_maker_cells ({ site := ({ Floor := ({ W := s16.1, H := s16.2.1, D := s16.2.2.1, Kind := s16.2.2.2.1, Out := s16.2.2.2.2.1 : ApiFloor }), Zones := s16.2.2.2.2.2.1, Aparts := s16.2.2.2.2.2.2.1, Shelves := s16.2.2.2.2.2.2.2.1, Robots := s16.2.2.2.2.2.2.2.2.1 : ApiSite }), shelf := s16.2.2.2.2.2.2.2.2.2.1, robot := s16.2.2.2.2.2.2.2.2.2.2.1, zoned := s16.2.2.2.2.2.2.2.2.2.2.2.1, names := s16.2.2.2.2.2.2.2.2.2.2.2.2.1, oneways := s16.2.2.2.2.2.2.2.2.2.2.2.2.2.1, shelves := s16.2.2.2.2.2.2.2.2.2.2.2.2.2.2.1, zones := s16.2.2.2.2.2.2.2.2.2.2.2.2.2.2.2.1 : SurveyMaker }) x23.Cells _ hm) en66 rfl rfl rfl (.cons (.fzp rfl rfl rfl rfl (.cons (.eq rfl) (.cons (.eq rfl) (.cons (.eq rfl) (.cons (.eq rfl) (.cons (.eq rfl) (.cons (.fz rfl rfl rfl (.os fun _ => .cons (.ro rfl) (.cons (.ro rfl) (.cons (.ro rfl) (.cons (.ro rfl) (.cons (.ro rfl) .nil)))))) (.cons (.fz rfl rfl rfl (.os fun _ => .cons (.ro rfl) (.cons (.ro rfl) .nil))) (.cons (.fz rfl rfl rfl (.os fun _ => .cons (.ro rfl) (.cons (.ro rfl) .nil))) (.cons (.fz rfl rfl rfl (.os fun _ => .cons (.ro rfl) (.cons (.ro rfl) .nil))) (.cons (.fz rfl rfl rfl (.om fun _ => .ro rfl)) (.cons (.fz rfl rfl rfl (.om fun _ => .ro rfl)) (.cons (.fz rfl rfl rfl (.om fun _ => .ro rfl)) (.cons (.fz rfl rfl rfl (.om fun _ => .ro rfl)) (.cons (.fz rfl rfl rfl (.om fun _ => .ro rfl)) (.cons (.fz rfl rfl rfl (.os fun _ => .cons (.ro rfl) .nil)) (.cons (.fz rfl rfl rfl (.os fun _ => .cons (.ro rfl) .nil)) .nil)))))))))))))))) rfl) (.eq rfl)) (fun _ _ => ⟨(.v _), trivial⟩)) (fun x33' hm => ?_)
 obtain ⟨x33⟩ := x33'
 refine U.pg 1 21 false 47 (ntF hb32) T rfl rfl rfl rfl ?_
 refine U.r rfl (.none rfl) rfl rfl (by exact Rd.pk' rfl rfl (ntF hb32) rfl) ?_
 refine U.ps 1 T rfl ?_
 refine hm.cs (fun hb34 hm => ?_) (fun hb34 hm => ?_)
 refine U.pg 2 28 false 54 (ntF hb34) T rfl rfl rfl rfl ?_
 refine U.e rfl (.take 28 false 54 _ (ntF hb34) rfl rfl rfl) (by exact Eff.c [some 1, some 2, some 3, some 4, some 5, some 6, some 7, some 8, some 9, some 10, some 11, some 12] (v := false) (T_survey_maker_addZone__p0 x23 ({ site := ({ Floor := ({ W := s16.1, H := s16.2.1, D := s16.2.2.1, Kind := s16.2.2.2.1, Out := s16.2.2.2.2.1 : ApiFloor }), Zones := s16.2.2.2.2.2.1, Aparts := s16.2.2.2.2.2.2.1, Shelves := s16.2.2.2.2.2.2.2.1, Robots := s16.2.2.2.2.2.2.2.2.1 : ApiSite }), shelf := s16.2.2.2.2.2.2.2.2.2.1, robot := s16.2.2.2.2.2.2.2.2.2.2.1, zoned := s16.2.2.2.2.2.2.2.2.2.2.2.1, names := s16.2.2.2.2.2.2.2.2.2.2.2.2.1, oneways := s16.2.2.2.2.2.2.2.2.2.2.2.2.2.1, shelves := s16.2.2.2.2.2.2.2.2.2.2.2.2.2.2.1, zones := s16.2.2.2.2.2.2.2.2.2.2.2.2.2.2.2.1 : SurveyMaker }) _ hm) en67 rfl rfl rfl (.eq rfl) ⟨bX, vL, vL, vL, vL, vL, vL, vL, vL, vL, vL, vL, trivial⟩ rfl rfl rfl rfl rfl rfl (fun h => by cases h) (.inl rfl) (fun _ => rfl) (fun _ => rfl) rfl) (fun x35' hm => ?_)
 obtain ⟨x35⟩ := x35'
 refine U.pg 1 28 false 54 (ntF hb34) T rfl rfl rfl rfl ?_
 refine U.r rfl (.none rfl) rfl rfl (by exact Rd.pk' rfl rfl (ntF hb34) rfl) ?_
 refine U.done ?_
 exact St.wk (hJ25 _ hm) (Wk.f [some 0, some 1, some 26, some 27, some 28, some 29, some 30, some 31, some 32, some 33, some 34, some 35, some 36] ⟨bX, bX, vL, vL, vL, vL, vL, vL, vL, vL, vL, vL, vL, trivial⟩)
 refine U.sks 4 28 false 54 (ntT hb34) rfl rfl rfl ?_
 refine U.r rfl (.none rfl) rfl rfl (by exact Rd.pk rfl rfl (ntT hb34) rfl) ?_
 refine U.done ?_
 exact St.wk (hJ25 _ hm) (Wk.f [some 0, some 1, some 2, some 3, some 4, some 5, some 6, some 7, some 8, some 9, some 10, some 11, some 12] ⟨bX, bX, vL, vL, vL, vL, vL, vL, vL, vL, vL, vL, vL, trivial⟩)
 refine U.sks 5 21 false 47 (ntT hb32) rfl rfl rfl ?_
 refine U.r rfl (.none rfl) rfl rfl (by exact Rd.pk rfl rfl (ntT hb32) rfl) ?_
 refine U.ps 1 T rfl ?_
 refine U.sks 4 28 false 54 rfl rfl rfl rfl ?_
 refine U.r rfl (.none rfl) rfl rfl (by exact Rd.pk rfl rfl rfl rfl) ?_
 refine U.done ?_
 exact St.wk (hJ25 _ hm) (Wk.f [some 0, some 1, some 2, some 3, some 4, some 5, some 6, some 7, some 8, some 9, some 10, some 11, some 12] ⟨bX, bX, vL, vL, vL, vL, vL, vL, vL, vL, vL, vL, vL, trivial⟩)
 refine U.sks 3 10 false 36 (ntT hb29) rfl rfl rfl ?_
 refine U.r rfl (.none rfl) rfl rfl (by exact Rd.pk rfl rfl (ntT hb29) rfl) ?_
 refine U.ps 1 T rfl ?_
 refine U.sks 4 15 false 41 rfl rfl rfl rfl ?_
 refine U.r rfl (.none rfl) rfl rfl (by exact Rd.pk rfl rfl rfl rfl) ?_
 refine U.ps 1 T rfl ?_
 refine U.sks 5 21 false 47 rfl rfl rfl rfl ?_
 refine U.r rfl (.none rfl) rfl rfl (by exact Rd.pk rfl rfl rfl rfl) ?_
 refine U.ps 1 T rfl ?_
 refine U.sks 4 28 false 54 rfl rfl rfl rfl ?_
 refine U.r rfl (.none rfl) rfl rfl (by exact Rd.pk rfl rfl rfl rfl) ?_
 refine U.done ?_
 exact St.wk (hJ25 _ hm) (Wk.f [some 0, some 1, some 2, some 3, some 4, some 5, some 6, some 7, some 8, some 9, some 10, some 11, some 12] ⟨bX, bX, vL, vL, vL, vL, vL, vL, vL, vL, vL, vL, vL, trivial⟩)
 refine U.sks 4 4 false 30 (ntT hb27) rfl rfl rfl ?_
 refine U.r rfl (.none rfl) rfl rfl (by exact Rd.pk rfl rfl (ntT hb27) rfl) ?_
 refine U.ps 1 T rfl ?_
 refine U.sks 3 10 false 36 rfl rfl rfl rfl ?_
 refine U.r rfl (.none rfl) rfl rfl (by exact Rd.pk rfl rfl rfl rfl) ?_
 refine U.ps 1 T rfl ?_
 refine U.sks 4 15 false 41 rfl rfl rfl rfl ?_
 refine U.r rfl (.none rfl) rfl rfl (by exact Rd.pk rfl rfl rfl rfl) ?_
 refine U.ps 1 T rfl ?_
 refine U.sks 5 21 false 47 rfl rfl rfl rfl ?_
 refine U.r rfl (.none rfl) rfl rfl (by exact Rd.pk rfl rfl rfl rfl) ?_
 refine U.ps 1 T rfl ?_
 refine U.sks 4 28 false 54 rfl rfl rfl rfl ?_
 refine U.r rfl (.none rfl) rfl rfl (by exact Rd.pk rfl rfl rfl rfl) ?_
 refine U.done ?_
 exact St.wk (hJ25 _ hm) (Wk.f [some 0, some 1, some 2, some 3, some 4, some 5, some 6, some 7, some 8, some 9, some 10, some 11, some 12] ⟨bX, bX, vL, vL, vL, vL, vL, vL, vL, vL, vL, vL, vL, trivial⟩)
 refine C.exit (C.ex (C.ex (C.bex ?_)))
 exact St.wk (hJ15 _ hm) (Wk.f [some 0, some 1, some 2, some 3, some 4, some 5, some 6, some 7, some 8, some 9, some 10, some 11, some 12] ⟨bX, bX, vL, vL, vL, vL, vL, vL, vL, vL, vL, vL, vL, trivial⟩)
theorem T_taquinref07_Size (f : ApiFloor) (post : Int → Prop) (hm : V_taquinref07_Size f post) :
    Tr Try.prog 55 [.agg (eApiFloor f)] [] 0 (fun A H' k => ∃ y, post y ∧ A = (.i y) ∧ H' = [] ∧ k = 0) := by
 refine Tr.intro (n := 11) Try.func55 rfl Try.ntmps55 rfl (fun w0 ok F β hβ => ?_)
 unfold V_taquinref07_Size at hm
 refine C.seq (U.start ?_)
 refine U.e1 rfl (.none rfl) (by exact Eff1.box rfl rfl rfl rfl rfl) ?_
 refine U.ps 1 T rfl ?_
 refine U.done (C.nx (C.seq (U.start ?_)))
 refine U.ps 9 T rfl ?_
 refine U.done (C.nx (C.ret ?_))
 exact C.f0 T (rs' := [.i (w64 ((w64 (f.W * f.H)) * f.D))]) hβ ⟨w64 ((w64 (f.W * f.H)) * f.D), hm, rfl, rfl, rfl⟩
theorem T_taquinref07_Is (f : ApiFloor) (c : Int) (post : Bool → Prop) (hm : V_taquinref07_Is f c post) :
    Tr Try.prog 22 [.agg (eApiFloor f), .i c] [] 0 (fun A H' k => ∃ y, post y ∧ A = (.b y) ∧ H' = [] ∧ k = 0) := by
 refine Tr.intro (n := 13) Try.func22 rfl Try.ntmps22 rfl (fun w0 ok F β hβ => ?_)
 unfold V_taquinref07_Is at hm
 refine C.seq (U.start ?_)
 refine U.e1 rfl (.none rfl) (by exact Eff1.box rfl rfl rfl rfl rfl) ?_
 refine U.ps 1 T rfl ?_
 refine U.done (C.nx (C.seq ?_))
 refine C.jn (fun (x3 : Bool) => [(4, .b x3)]) (fun (x3 : Bool) => []) 0 hm (fun x3 hm => ?_) (fun J4 hm hJ4 => ?_)
 refine C.nx (C.ret ?_)
 exact C.f0 T (rs' := [.b x3]) hβ ⟨x3, hm, rfl, rfl, rfl⟩
 refine U.start ?_
 refine U.ps 3 T rfl ?_
 refine hm.cs (fun hb5 hm => ?_) (fun hb5 hm => ?_)
 refine U.pg 2 2 true 7 hb5 T rfl rfl rfl rfl ?_
 refine U.e rfl (.take 2 true 7 _ hb5 rfl rfl rfl) (by exact Eff.k (T_taquinref07_Size f _ hm) en55 rfl rfl rfl (.eq rfl) (fun _ _ => ⟨(.v _), trivial⟩)) (fun x6' hm => ?_)
 obtain ⟨x6⟩ := x6'
 refine U.pg 1 2 true 7 hb5 T rfl rfl rfl rfl ?_
 refine U.r rfl (.none rfl) rfl rfl (by exact Rd.pk rfl rfl hb5 rfl) ?_
 refine U.ps 1 T rfl ?_
 refine U.done ?_
 exact St.wk (hJ4 _ hm) (Wk.e)
 refine U.sks 4 2 true 7 hb5 rfl rfl rfl ?_
 refine U.r rfl (.none rfl) rfl rfl (by exact Rd.pk' rfl rfl hb5 rfl) ?_
 refine U.ps 1 T rfl ?_
 refine U.done ?_
 exact St.wk (hJ4 _ hm) (Wk.e)
theorem T_taquinlaw12_fits (s_1 : ApiSite) (st : ApiState) (post : Bool → Prop) (hm : V_taquinlaw12_fits s_1 st post) :
    Tr Try.prog 9 [.agg (eApiSite s_1), .agg (eApiState st)] [] 0 (fun A H' k => ∃ y, post y ∧ A = (.b y) ∧ H' = [] ∧ k = 0) := by
 refine Tr.intro (n := 45) Try.func9 rfl Try.ntmps9 rfl (fun w0 ok F β hβ => ?_)
 unfold V_taquinlaw12_fits at hm
 refine C.seq (U.start ?_)
 refine U.e1 rfl (.none rfl) (by exact Eff1.box rfl rfl rfl rfl rfl) ?_
 refine U.e1 rfl (.none rfl) (by exact Eff1.box rfl rfl rfl rfl rfl) ?_
 refine U.ps 1 T rfl ?_
 refine U.done (C.nx (C.seq (C.seq ?_)))
 refine C.jn (fun (x3 : Bool) => [(2, .p 0 0), (3, .p 1 0), (28, .b x3)]) (fun (x3 : Bool) => [(0, .box (eApiSite s_1)), (1, .box (eApiState st))]) 2 hm (fun x3 hm => ?_) (fun J4 hm hJ4 => ?_)
 refine C.nx ?_
 refine C.ite rfl hm (fun hb10 hm => ?_) (fun hb10 hm => ?_)
 refine C.seq (U.start ?_)
 refine U.ps 1 T rfl ?_
 refine U.done (C.nx (C.ret (C.rt ?_)))
 exact C.f0 T (rs' := [.b false]) hβ ⟨false, hm, rfl, rfl, rfl⟩
 refine C.skip (C.nx (C.seq (C.seq (U.start ?_))))
 refine U.ps 1 T rfl ?_
 refine U.done (C.nx ?_)
 refine C.jn (fun (x15 : Unit) => []) (fun (x15 : Unit) => []) 0 hm (fun x15 hm => ?_) (fun J16 hm hJ16 => ?_)
 refine C.nx (C.seq (U.start ?_))
 refine U.ps 1 T rfl ?_
 refine U.done (C.nx (C.ret ?_))
 exact C.f0 T (rs' := [.b true]) hβ ⟨true, hm, rfl, rfl, rfl⟩
 refine C.block ?_
 refine St.wk (C.loop (fun (s17 : Int) => [(2, .p 0 0), (3, .p 1 0), (5, .i s17)]) (fun (s17 : Int) => [(0, .box (eApiSite s_1)), (1, .box (eApiState st))]) hm (fun s17 Y18 hm => ?_)) (Wk.f [some 0, some 1] ⟨bX, bX, trivial⟩)
 refine C.seq (C.seq (U.start ?_))
 refine U.ps 5 T rfl ?_
 refine U.done (C.nx ?_)
 refine C.ite rfl hm (fun hb21 hm => ?_) (fun hb21 hm => ?_)
 refine C.skip (C.nx (C.seq (C.block (C.seq ?_))))
 refine D.beg 9999 [0, 1] [] mix rfl rfl (by kernel_rfl) (by repeat (first | exact NoPanicQ.body | exact NoPanicQ.rnd | refine NoPanicQ.th ?_ | refine NoPanicQ.blk ?_)) (fun hQ hS ws M' => ?_)
 refine D.ps 5 [(0, []), (1, []), (2, []), (3, []), (4, [])] rfl hQ hS T rfl rfl (by kernel_rfl) ?_
 obtain ⟨x24, hx24, hm⟩ := hm
 refine D.q 5 [] hQ hS rfl (.none rfl) rfl rfl (by exact Rd.ix T rfl rfl rfl rfl rfl rfl hx24) rfl (by kernel_rfl) ?_
 refine D.ps 1 [(6, [])] rfl hQ hS T rfl rfl (by kernel_rfl) ?_
 refine D.e 7 rfl (.none rfl) (by exact Eff.k (T_taquinref07_Is s_1.Floor x24 _ hm) en22 rfl rfl rfl (.eq rfl) (fun _ _ => ⟨(.v _), trivial⟩)) (by kernel_rfl) rfl rfl (fun x25' hm => ?_)
 obtain ⟨x25⟩ := x25'
 refine D.ps 1 [(8, [])] rfl hQ hS T rfl rfl (by kernel_rfl) ?_
 refine D.done (by kernel_rfl) ?_
 refine C.nx ?_
 refine C.ite rfl hm (fun hb26 hm => ?_) (fun hb26 hm => ?_)
 refine C.seq (U.start ?_)
 refine U.ps 1 T rfl ?_
 refine U.done (C.nx (C.ret (C.brt (C.rt (C.rt (C.brt (C.rt ?_)))))))
 exact C.f0 T (rs' := [.b false]) hβ ⟨false, hm, rfl, rfl, rfl⟩
 refine C.skip (C.bnx (C.nx (U.start ?_)))
 refine U.ps 3 T rfl ?_
 refine U.done (C.nx ?_)
 exact St.wk (C.next hm) (Wk.f [some 0, some 1] ⟨bX, bX, trivial⟩)
 refine C.exit (C.ex (C.ex (C.bex ?_)))
 exact St.wk (hJ16 _ hm) (Wk.mk' [] rfl rfl trivial trivial rfl)
 refine U.start ?_
 refine U.ps 1 T rfl ?_
 refine U.e rfl (.none rfl) (by exact Eff.k (T_taquinref11_Few s_1 60 20 _ hm) en42 rfl rfl rfl (.eq rfl) (fun _ _ => ⟨(.v _), trivial⟩)) (fun x5' hm => ?_)
 obtain ⟨x5⟩ := x5'
 refine U.ps 2 T rfl ?_
 refine hm.cs (fun hb6 hm => ?_) (fun hb6 hm => ?_)
 refine U.pg 4 3 false 9 (ntF hb6) T rfl rfl rfl rfl ?_
 refine U.r rfl (.none rfl) rfl rfl (by exact Rd.pk' rfl rfl (ntF hb6) rfl) ?_
 refine U.ps 1 T rfl ?_
 refine hm.cs (fun hb7 hm => ?_) (fun hb7 hm => ?_)
 refine U.sks 7 9 false 15 hb7 rfl rfl rfl ?_
 refine U.r rfl (.none rfl) rfl rfl (by exact Rd.pk rfl rfl hb7 rfl) ?_
 refine U.ps 1 T rfl ?_
 refine U.sks 3 18 false 24 rfl rfl rfl rfl ?_
 refine U.r rfl (.none rfl) rfl rfl (by exact Rd.pk rfl rfl rfl rfl) ?_
 refine U.done ?_
 exact St.wk (hJ4 _ hm) (Wk.f [some 0, some 1] ⟨bX, bX, trivial⟩)
 refine U.pg 7 9 false 15 hb7 T rfl rfl rfl rfl ?_
 refine U.r rfl (.none rfl) rfl rfl (by exact Rd.pk' rfl rfl hb7 rfl) ?_
 refine U.ps 1 T rfl ?_
 refine hm.cs (fun hb8 hm => ?_) (fun hb8 hm => ?_)
 refine U.sks 3 18 false 24 hb8 rfl rfl rfl ?_
 refine U.r rfl (.none rfl) rfl rfl (by exact Rd.pk rfl rfl hb8 rfl) ?_
 refine U.done ?_
 exact St.wk (hJ4 _ hm) (Wk.f [some 0, some 1] ⟨bX, bX, trivial⟩)
 refine U.pg 1 18 false 24 hb8 T rfl rfl rfl rfl ?_
 refine U.e rfl (.take 18 false 24 _ hb8 rfl rfl rfl) (by exact Eff.k (T_survey_Right s_1 _ hm) en43 rfl rfl rfl (.eq rfl) (fun _ _ => ⟨(.v _), trivial⟩)) (fun x9' hm => ?_)
 obtain ⟨x9⟩ := x9'
 refine U.pg 1 18 false 24 hb8 T rfl rfl rfl rfl ?_
 refine U.r rfl (.none rfl) rfl rfl (by exact Rd.pk' rfl rfl hb8 rfl) ?_
 refine U.done ?_
 exact St.wk (hJ4 _ hm) (Wk.f [some 0, some 1] ⟨bX, bX, trivial⟩)
 refine U.sks 4 3 false 9 (ntT hb6) rfl rfl rfl ?_
 refine U.r rfl (.none rfl) rfl rfl (by exact Rd.pk rfl rfl (ntT hb6) rfl) ?_
 refine U.ps 1 T rfl ?_
 refine U.sks 7 9 false 15 rfl rfl rfl rfl ?_
 refine U.r rfl (.none rfl) rfl rfl (by exact Rd.pk rfl rfl rfl rfl) ?_
 refine U.ps 1 T rfl ?_
 refine U.sks 3 18 false 24 rfl rfl rfl rfl ?_
 refine U.r rfl (.none rfl) rfl rfl (by exact Rd.pk rfl rfl rfl rfl) ?_
 refine U.done ?_
 exact St.wk (hJ4 _ hm) (Wk.f [some 0, some 1] ⟨bX, bX, trivial⟩)
theorem T_rules_OfKind (s_1 : ApiSite) (kind : Int) (post : (List Int) → Prop) (hm : V_rules_OfKind s_1 kind post) :
    Tr Try.prog 21 [.agg (eApiSite s_1), .i kind] [] 0 (fun A H' k => ∃ y, post y ∧ A = (.o 0) ∧ H' = [(0, .val (.os 1 eI y))] ∧ k = 1) := by
 refine Tr.intro (n := 26) Try.func21 rfl Try.ntmps21 rfl (fun w0 ok F β hβ => ?_)
 unfold V_rules_OfKind at hm
 refine C.seq (U.start ?_)
 refine U.e1 rfl (.none rfl) (by exact Eff1.box rfl rfl rfl rfl rfl) ?_
 refine U.ps 1 T rfl ?_
 refine U.done (C.nx (C.seq (U.start ?_)))
 refine U.ps 1 T rfl ?_
 refine U.done (C.nx (C.seq (C.seq (U.start ?_))))
 refine U.ps 5 T rfl ?_
 refine U.done (C.nx ?_)
 refine C.jn (fun (x7 : List Int) => [(5, .o 0)]) (fun (x7 : List Int) => [(0, .val (.os 1 eI x7))]) 1 hm (fun x7 hm => ?_) (fun J8 hm hJ8 => ?_)
 refine C.nx (C.seq (U.start ?_))
 refine U.ps 2 T rfl ?_
 refine U.done (C.nx (C.ret ?_))
 exact C.fin T (rs' := [.o 0]) (H' := [(0, .val (.os 1 eI x7))]) (nl' := 1) [some 0] rfl rfl (.eq rfl) ⟨vL, trivial⟩ rfl rfl rfl rfl hβ ⟨x7, hm, rfl, rfl, rfl⟩
 refine C.block ?_
 refine St.wk (C.loop (fun (s9 : List Int × Int) => [(1, .i kind), (5, .o 0), (10, .sl 1 eI s_1.Floor.Kind), (11, .i (s_1.Floor.Kind.length : Int)), (12, .i s9.2)]) (fun (s9 : List Int × Int) => [(0, .val (.os 1 eI s9.1))]) hm (fun s9 Y10 hm => ?_)) (Wk.mk' [none] rfl rfl ⟨⟨_, rfl, (.eq rfl)⟩, ⟨_, rfl, (.nilO _ _ ⟨rfl, rfl⟩ rfl)⟩, ChkG.eqs rfl⟩ ⟨⟨_, rfl, .nil _ _⟩, trivial⟩ rfl)
 refine C.seq (U.start ?_)
 refine U.ps 1 T rfl ?_
 refine U.done (C.nx (C.seq ?_))
 refine C.ite rfl hm (fun hb13 hm => ?_) (fun hb13 hm => ?_)
 refine C.skip (C.nx (C.seq (C.block (C.seq (U.start ?_)))))
 refine U.ps 1 T rfl ?_
 obtain ⟨x16, hx16, hm⟩ := hm
 refine U.r rfl (.none rfl) rfl rfl (by exact Rd.ix T rfl rfl rfl rfl rfl rfl hx16) ?_
 refine U.ps 3 T rfl ?_
 refine U.done (C.nx (C.seq (U.start ?_)))
 refine U.ps 3 T rfl ?_
 refine U.done (C.nx ?_)
 refine C.jn (fun (x19 : List Int) => [(1, .i kind), (5, .o 0), (10, .sl 1 eI s_1.Floor.Kind), (11, .i (s_1.Floor.Kind.length : Int)), (12, .i s9.2)]) (fun (x19 : List Int) => [(0, .val (.os 1 eI x19))]) 1 hm (fun x19 hm => ?_) (fun J20 hm hJ20 => ?_)
 refine C.bnx (C.nx (U.start ?_))
 refine U.ps 2 T rfl ?_
 refine U.done (C.nx ?_)
 exact St.wk (C.next hm) (Wk.f [some 0] ⟨vL, trivial⟩)
 refine C.ite rfl hm (fun hb21 hm => ?_) (fun hb21 hm => ?_)
 refine U.start ?_
 refine U.ps 2 T rfl ?_
 refine U.e1 rfl (.none rfl) (by exact Eff1.bs T (enc := eI) (xs := ([s9.2] : List Int)) rfl rfl rfl rfl rfl rfl rfl rfl rfl rfl (fun _ _ => rfl) rfl rfl) ?_
 obtain ⟨hx24, hm⟩ := hm
 refine U.e1 rfl (.none rfl) (by exact Eff1.ap T rfl rfl rfl rfl rfl rfl (.inr ⟨_, rfl, rfl⟩) rfl rfl rfl (fun _ => rfl) rfl hx24) ?_
 refine U.ps 1 T rfl ?_
 refine U.done ?_
 exact St.wk (hJ20 _ hm) (Wk.f [some 2] ⟨vL, trivial⟩)
 refine C.skip ?_
 exact St.wk (hJ20 _ hm) (Wk.f [some 0] ⟨vL, trivial⟩)
 refine C.exit (C.ex (C.ex (C.bex ?_)))
 exact St.wk (hJ8 _ hm) (Wk.f [some 0] ⟨vL, trivial⟩)
theorem T_taquinref07_Has (l : List Int) (n : Int) (post : Bool → Prop) (hm : V_taquinref07_Has l n post) :
    Tr Try.prog 23 [.sl 1 eI l, .i n] [] 0 (fun A H' k => ∃ y, post y ∧ A = (.b y) ∧ H' = [] ∧ k = 0) := by
 refine Tr.intro (n := 18) Try.func23 rfl Try.ntmps23 rfl (fun w0 ok F β hβ => ?_)
 unfold V_taquinref07_Has at hm
 refine C.seq (U.start ?_)
 refine U.ps 1 T rfl ?_
 refine U.done (C.nx (C.seq (C.seq (U.start ?_))))
 refine U.ps 1 T rfl ?_
 refine U.done (C.nx ?_)
 refine C.jn (fun (x5 : Unit) => []) (fun (x5 : Unit) => []) 0 hm (fun x5 hm => ?_) (fun J6 hm hJ6 => ?_)
 refine C.nx (C.seq (U.start ?_))
 refine U.ps 1 T rfl ?_
 refine U.done (C.nx (C.ret ?_))
 exact C.f0 T (rs' := [.b false]) hβ ⟨false, hm, rfl, rfl, rfl⟩
 refine C.block ?_
 refine St.wk (C.loop (fun (s7 : Int) => [(0, .sl 1 eI l), (1, .i n), (5, .i s7)]) (fun (s7 : Int) => []) hm (fun s7 Y8 hm => ?_)) (Wk.e)
 refine C.seq (C.seq (U.start ?_))
 refine U.ps 4 T rfl ?_
 refine U.done (C.nx ?_)
 refine C.ite rfl hm (fun hb11 hm => ?_) (fun hb11 hm => ?_)
 refine C.skip (C.nx (C.seq (C.block (C.seq (U.start ?_)))))
 refine U.ps 2 T rfl ?_
 obtain ⟨x14, hx14, hm⟩ := hm
 refine U.r rfl (.none rfl) rfl rfl (by exact Rd.ix T rfl rfl rfl rfl rfl rfl hx14) ?_
 refine U.ps 3 T rfl ?_
 refine U.done (C.nx ?_)
 refine C.ite rfl hm (fun hb15 hm => ?_) (fun hb15 hm => ?_)
 refine C.seq (U.start ?_)
 refine U.ps 1 T rfl ?_
 refine U.done (C.nx (C.ret (C.brt (C.rt (C.rt (C.brt (C.rt ?_)))))))
 exact C.f0 T (rs' := [.b true]) hβ ⟨true, hm, rfl, rfl, rfl⟩
 refine C.skip (C.bnx (C.nx (U.start ?_)))
 refine U.ps 3 T rfl ?_
 refine U.done (C.nx ?_)
 exact St.wk (C.next hm) (Wk.e)
 refine C.exit (C.ex (C.ex (C.bex ?_)))
 exact St.wk (hJ6 _ hm) (Wk.mk' [] rfl rfl trivial trivial rfl)
theorem T_taquinlaw12_RulesZones (s_1 : ApiSite) (tick : Int) (post : Bool → Prop) (hm : V_taquinlaw12_RulesZones s_1 tick post) :
    Tr Try.prog 5 [.agg (eApiSite s_1), .i tick] [] 0 (fun A H' k => ∃ y, post y ∧ A = (.b y) ∧ H' = [] ∧ k = 0) := by
 refine Tr.intro (n := 209) Try.func5 rfl Try.ntmps5 rfl (fun w0 ok F β hβ => ?_)
 unfold V_taquinlaw12_RulesZones at hm
 refine C.seq (U.start ?_)
 refine U.e1 rfl (.none rfl) (by exact Eff1.box rfl rfl rfl rfl rfl) ?_
 refine U.ps 1 T rfl ?_
 refine U.done (C.nx (C.seq (U.start ?_)))
 refine U.e rfl (.none rfl) (by exact Eff.k (T_taquinlaw12_small _ hm) en8 rfl rfl rfl (.eq rfl) (fun _ _ => ⟨(.v _), trivial⟩)) (fun x5' hm => ?_)
 obtain ⟨x5⟩ := x5'
 refine U.ps 1 T rfl ?_
 refine U.done (C.nx (C.seq (C.seq ?_)))
 refine D.beg 9999 [0] [] mix rfl rfl (by kernel_rfl) (by repeat (first | exact NoPanicQ.body | exact NoPanicQ.rnd | refine NoPanicQ.th ?_ | refine NoPanicQ.blk ?_)) (fun hQ hS ws M' => ?_)
 refine D.ps 4 [(0, []), (1, []), (2, []), (3, [])] rfl hQ hS T rfl rfl (by kernel_rfl) ?_
 obtain ⟨hx8, hm⟩ := hm
 refine D.e1 4 rfl (.none rfl) (by exact Eff1.mkb 8 T (enc := eI) (z0 := 0) rfl rfl rfl rfl rfl rfl rfl rfl rfl rfl ⟨hx8.1, by omega⟩ (by omega)) (by kernel_rfl) rfl rfl ?_
 refine D.ps 1 [(5, [])] rfl hQ hS T rfl rfl (by kernel_rfl) ?_
 refine D.e 6 rfl (.none rfl) (by exact Eff.k (T_taquinlaw12_fits s_1 ({ Tick := 0, Shelves := (List.replicate (Int.toNat (s_1.Shelves.length : Int)) (0 : Int)), Robots := [], People := [], Dead := [], Stuck := [] : ApiState }) _ hm) en9 rfl rfl rfl (.cons (.eq rfl) (.cons (.agg (.cons (.eq rfl) (.cons (.fz rfl rfl rfl (.os fun _ => .cons (.ro rfl) .nil)) (.cons (.nil _ _ _ _ ⟨rfl, rfl⟩) (.cons (.nil _ _ _ _ ⟨rfl, rfl⟩) (.cons (.nil _ _ _ _ ⟨rfl, rfl⟩) (.cons (.nil _ _ _ _ ⟨rfl, rfl⟩) .nil))))))) .nil)) (fun _ _ => ⟨(.v _), trivial⟩)) (by kernel_rfl) rfl rfl (fun x9' hm => ?_)
 obtain ⟨x9⟩ := x9'
 refine D.ps 1 [(7, [])] rfl hQ hS T rfl rfl (by kernel_rfl) ?_
 refine D.done (by kernel_rfl) ?_
 refine C.nx ?_
 refine C.ite rfl hm (fun hb10 hm => ?_) (fun hb10 hm => ?_)
 refine C.seq (U.start ?_)
 refine U.ps 2 T rfl ?_
 refine U.done (C.nx (C.ret (C.rt ?_)))
 exact C.f0 T (rs' := [.b x5]) hβ ⟨x5, hm, rfl, rfl, rfl⟩
 refine C.skip (C.nx (C.seq (U.start ?_)))
 refine U.ps 1 T rfl ?_
 refine U.done (C.nx (C.seq (C.seq (U.start ?_))))
 refine U.ps 1 T rfl ?_
 refine U.done (C.nx ?_)
 refine C.jn (fun (x17 : Int) => [(1, .i tick), (2, .p 0 0), (5, .b x5), (6, .i x17)]) (fun (x17 : Int) => [(0, .box (eApiSite s_1))]) 1 hm (fun x17 hm => ?_) (fun J18 hm hJ18 => ?_)
 refine C.nx (C.seq (C.seq (U.start ?_)))
 refine U.ps 6 T rfl ?_
 refine U.done (C.nx ?_)
 refine C.ite rfl hm (fun hb66 hm => ?_) (fun hb66 hm => ?_)
 refine C.seq (U.start ?_)
 refine U.ps 1 T rfl ?_
 refine U.done (C.nx (C.ret (C.rt ?_)))
 exact C.f0 T (rs' := [.b false]) hβ ⟨false, hm, rfl, rfl, rfl⟩
 refine C.skip (C.nx (C.seq (C.seq (U.start ?_))))
 refine U.ps 1 T rfl ?_
 refine U.done (C.nx ?_)
 refine C.jn (fun (x71 : Unit) => [(1, .i tick), (2, .p 0 0), (5, .b x5)]) (fun (x71 : Unit) => [(0, .box (eApiSite s_1))]) 1 hm (fun x71 hm => ?_) (fun J72 hm hJ72 => ?_)
 refine C.nx (C.seq ?_)
 refine C.jn (fun (x147 : Bool) => [(4, .b x147)]) (fun (x147 : Bool) => []) 0 hm (fun x147 hm => ?_) (fun J148 hm hJ148 => ?_)
 refine C.nx (C.ret ?_)
 exact C.f0 T (rs' := [.b x147]) hβ ⟨x147, hm, rfl, rfl, rfl⟩
 refine U.start ?_
 refine U.ps 2 T rfl ?_
 refine hm.cs (fun hb149 hm => ?_) (fun hb149 hm => ?_)
 refine U.pg 2 1 true 193 hb149 T rfl rfl rfl rfl ?_
 refine U.e rfl (.take 1 true 193 _ hb149 rfl rfl rfl) (by exact Eff.k (T_rules_Open s_1 (-1) tick _ hm) en25 rfl rfl rfl (.eq rfl) (fun _ _ => ⟨(.v _), trivial⟩)) (fun x150' hm => ?_)
 obtain ⟨x150⟩ := x150'
 refine U.pg 1 1 true 193 hb149 T rfl rfl rfl rfl ?_
 refine U.r rfl (.none rfl) rfl rfl (by exact Rd.pk rfl rfl hb149 rfl) ?_
 refine U.ps 1 T rfl ?_
 refine hm.cs (fun hb151 hm => ?_) (fun hb151 hm => ?_)
 refine U.sks 8 7 true 199 (ntF hb151) rfl rfl rfl ?_
 refine U.r rfl (.none rfl) rfl rfl (by exact Rd.pk' rfl rfl (ntF hb151) rfl) ?_
 refine U.ps 1 T rfl ?_
 refine U.done ?_
 exact St.wk (hJ148 _ hm) (Wk.e)
 refine U.pg 6 7 true 199 (ntT hb151) T rfl rfl rfl rfl ?_
 refine U.e rfl (.take 7 true 199 _ (ntT hb151) rfl rfl rfl) (by exact Eff.k (T_rules_Open s_1 (s_1.Floor.Kind.length : Int) tick _ hm) en25 rfl rfl rfl (.eq rfl) (fun _ _ => ⟨(.v _), trivial⟩)) (fun x152' hm => ?_)
 obtain ⟨x152⟩ := x152'
 refine U.pg 1 7 true 199 (ntT hb151) T rfl rfl rfl rfl ?_
 refine U.r rfl (.none rfl) rfl rfl (by exact Rd.pk rfl rfl (ntT hb151) rfl) ?_
 refine U.ps 1 T rfl ?_
 refine U.done ?_
 exact St.wk (hJ148 _ hm) (Wk.e)
 refine U.sks 4 1 true 193 hb149 rfl rfl rfl ?_
 refine U.r rfl (.none rfl) rfl rfl (by exact Rd.pk' rfl rfl hb149 rfl) ?_
 refine U.ps 1 T rfl ?_
 refine U.sks 8 7 true 199 rfl rfl rfl rfl ?_
 refine U.r rfl (.none rfl) rfl rfl (by exact Rd.pk' rfl rfl rfl rfl) ?_
 refine U.ps 1 T rfl ?_
 refine U.done ?_
 exact St.wk (hJ148 _ hm) (Wk.e)
 refine C.block ?_
 refine St.wk (C.loop (fun (s73 : Int) => [(1, .i tick), (2, .p 0 0), (5, .b x5), (10, .i s73)]) (fun (s73 : Int) => [(0, .box (eApiSite s_1))]) hm (fun s73 Y74 hm => ?_)) (Wk.f [some 0] ⟨bX, trivial⟩)
 refine C.seq (C.seq (U.start ?_))
 refine U.ps 6 T rfl ?_
 refine U.done (C.nx ?_)
 refine C.ite rfl hm (fun hb77 hm => ?_) (fun hb77 hm => ?_)
 refine C.skip (C.nx (C.seq ?_))
 refine C.jn (fun (x78 : Unit) => [(1, .i tick), (2, .p 0 0), (5, .b x5), (10, .i s73)]) (fun (x78 : Unit) => [(0, .box (eApiSite s_1))]) 1 hm (fun x78 hm => ?_) (fun J79 hm hJ79 => ?_)
 refine C.nx (U.start ?_)
 refine U.ps 3 T rfl ?_
 refine U.done (C.nx ?_)
 exact St.wk (C.next hm) (Wk.f [some 0] ⟨bX, trivial⟩)
 refine C.block (C.seq (U.start ?_))
 refine U.ps 1 T rfl ?_
 refine U.done (C.nx (C.seq (C.seq (U.start ?_))))
 refine U.ps 1 T rfl ?_
 refine U.done (C.nx ?_)
 refine C.jn (fun (x84 : Int) => [(1, .i tick), (2, .p 0 0), (5, .b x5), (10, .i s73), (11, .i x84)]) (fun (x84 : Int) => [(0, .box (eApiSite s_1))]) 1 hm (fun x84 hm => ?_) (fun J85 hm hJ85 => ?_)
 refine C.nx (C.seq (U.start ?_))
 refine U.ps 1 T rfl ?_
 refine U.done (C.nx (C.seq (U.start ?_)))
 refine U.ps 1 T rfl ?_
 refine U.done (C.nx (C.seq (C.seq (U.start ?_))))
 refine U.ps 2 T rfl ?_
 refine U.done (C.nx ?_)
 refine C.jn (fun (x108 : Bool × Int) => [(1, .i tick), (2, .p 0 0), (5, .b x5), (10, .i s73), (11, .i x84), (13, .b x108.1), (14, .i x108.2)]) (fun (x108 : Bool × Int) => [(0, .box (eApiSite s_1))]) 1 hm (fun x108 hm => ?_) (fun J109 hm hJ109 => ?_)
 refine C.nx (C.seq ?_)
 refine C.jn (fun (x133 : Bool) => [(1, .i tick), (2, .p 0 0), (5, .b x5), (10, .i s73), (191, .b x133)]) (fun (x133 : Bool) => [(0, .box (eApiSite s_1))]) 1 hm (fun x133 hm => ?_) (fun J134 hm hJ134 => ?_)
 refine C.nx ?_
 refine C.ite rfl hm (fun hb142 hm => ?_) (fun hb142 hm => ?_)
 refine C.seq (U.start ?_)
 refine U.ps 1 T rfl ?_
 refine U.done (C.nx (C.ret (C.brt (C.rt (C.rt (C.brt (C.rt ?_)))))))
 exact C.f0 T (rs' := [.b false]) hβ ⟨false, hm, rfl, rfl, rfl⟩
 refine C.skip (C.bnx ?_)
 exact St.wk (hJ79 _ hm) (Wk.f [some 0] ⟨bX, trivial⟩)
 refine U.start ?_
 refine U.ps 2 T rfl ?_
 refine U.e rfl (.none rfl) (by exact Eff.k (T_rules_ZoneOf s_1 s73 _ hm) en20 rfl rfl rfl (.eq rfl) (fun _ _ => ⟨(.v _), trivial⟩)) (fun x135' hm => ?_)
 obtain ⟨x135⟩ := x135'
 refine U.ps 3 T rfl ?_
 refine hm.cs (fun hb136 hm => ?_) (fun hb136 hm => ?_)
 refine U.sks 5 5 false 171 hb136 rfl rfl rfl ?_
 refine U.r rfl (.none rfl) rfl rfl (by exact Rd.pk rfl rfl hb136 rfl) ?_
 refine U.ps 1 T rfl ?_
 refine U.sks 6 12 false 178 rfl rfl rfl rfl ?_
 refine U.r rfl (.none rfl) rfl rfl (by exact Rd.pk rfl rfl rfl rfl) ?_
 refine U.ps 1 T rfl ?_
 refine U.sks 4 20 false 186 rfl rfl rfl rfl ?_
 refine U.r rfl (.none rfl) rfl rfl (by exact Rd.pk rfl rfl rfl rfl) ?_
 refine U.done ?_
 exact St.wk (hJ134 _ hm) (Wk.f [some 0] ⟨bX, trivial⟩)
 refine U.pg 2 5 false 171 hb136 T rfl rfl rfl rfl ?_
 refine U.e rfl (.take 5 false 171 _ hb136 rfl rfl rfl) (by exact Eff.k (T_rules_Speed s_1 s73 _ hm) en24 rfl rfl rfl (.eq rfl) (fun _ _ => ⟨(.v _), trivial⟩)) (fun x137' hm => ?_)
 obtain ⟨x137⟩ := x137'
 refine U.pg 2 5 false 171 hb136 T rfl rfl rfl rfl ?_
 refine U.r rfl (.none rfl) rfl rfl (by exact Rd.pk' rfl rfl hb136 rfl) ?_
 refine U.ps 1 T rfl ?_
 refine hm.cs (fun hb138 hm => ?_) (fun hb138 hm => ?_)
 refine U.sks 6 12 false 178 hb138 rfl rfl rfl ?_
 refine U.r rfl (.none rfl) rfl rfl (by exact Rd.pk rfl rfl hb138 rfl) ?_
 refine U.ps 1 T rfl ?_
 refine U.sks 4 20 false 186 rfl rfl rfl rfl ?_
 refine U.r rfl (.none rfl) rfl rfl (by exact Rd.pk rfl rfl rfl rfl) ?_
 refine U.done ?_
 exact St.wk (hJ134 _ hm) (Wk.f [some 0] ⟨bX, trivial⟩)
 refine U.pg 3 12 false 178 hb138 T rfl rfl rfl rfl ?_
 refine U.e rfl (.take 12 false 178 _ hb138 rfl rfl rfl) (by exact Eff.k (T_rules_Open s_1 s73 tick _ hm) en25 rfl rfl rfl (.eq rfl) (fun _ _ => ⟨(.v _), trivial⟩)) (fun x139' hm => ?_)
 obtain ⟨x139⟩ := x139'
 refine U.pg 2 12 false 178 hb138 T rfl rfl rfl rfl ?_
 refine U.r rfl (.none rfl) rfl rfl (by exact Rd.pk' rfl rfl hb138 rfl) ?_
 refine U.ps 1 T rfl ?_
 refine hm.cs (fun hb140 hm => ?_) (fun hb140 hm => ?_)
 refine U.pg 2 20 false 186 (ntF hb140) T rfl rfl rfl rfl ?_
 refine U.e rfl (.take 20 false 186 _ (ntF hb140) rfl rfl rfl) (by exact Eff.k (T_rules_Open s_1 s73 20000 _ hm) en25 rfl rfl rfl (.eq rfl) (fun _ _ => ⟨(.v _), trivial⟩)) (fun x141' hm => ?_)
 obtain ⟨x141⟩ := x141'
 refine U.pg 1 20 false 186 (ntF hb140) T rfl rfl rfl rfl ?_
 refine U.r rfl (.none rfl) rfl rfl (by exact Rd.pk' rfl rfl (ntF hb140) rfl) ?_
 refine U.done ?_
 exact St.wk (hJ134 _ hm) (Wk.f [some 0] ⟨bX, trivial⟩)
 refine U.sks 4 20 false 186 (ntT hb140) rfl rfl rfl ?_
 refine U.r rfl (.none rfl) rfl rfl (by exact Rd.pk rfl rfl (ntT hb140) rfl) ?_
 refine U.done ?_
 exact St.wk (hJ134 _ hm) (Wk.f [some 0] ⟨bX, trivial⟩)
 refine C.ite rfl hm (fun hb110 hm => ?_) (fun hb110 hm => ?_)
 refine C.seq (U.start ?_)
 refine U.ps 3 T rfl ?_
 obtain ⟨x113, hx113, hm⟩ := hm
 refine U.r rfl (.none rfl) rfl rfl (by exact Rd.ix T rfl rfl rfl rfl rfl rfl hx113) ?_
 refine U.ps 3 T rfl ?_
 refine U.done (C.nx (C.seq (U.start ?_)))
 refine U.ps 1 T rfl ?_
 refine U.done (C.nx ?_)
 refine C.jn (fun (x116 : Bool) => [(1, .i tick), (2, .p 0 0), (5, .b x5), (10, .i s73), (11, .i x84), (13, .b x116), (14, .i x113.Speed)]) (fun (x116 : Bool) => [(0, .box (eApiSite s_1))]) 1 hm (fun x116 hm => ?_) (fun J117 hm hJ117 => ?_)
 exact St.wk (hJ109 _ hm) (Wk.f [some 0] ⟨bX, trivial⟩)
 refine C.block ?_
 refine St.wk (C.loop (fun (s118 : Bool × Int) => [(1, .i tick), (2, .p 0 0), (5, .b x5), (10, .i s73), (11, .i x84), (13, .b s118.1), (14, .i x113.Speed), (15, .i s118.2)]) (fun (s118 : Bool × Int) => [(0, .box (eApiSite s_1))]) hm (fun s118 Y119 hm => ?_)) (Wk.f [some 0] ⟨bX, trivial⟩)
 refine C.seq (C.seq (U.start ?_))
 refine U.ps 4 T rfl ?_
 obtain ⟨x122, hx122, hm⟩ := hm
 refine U.r rfl (.none rfl) rfl rfl (by exact Rd.ix T rfl rfl rfl rfl rfl rfl hx122) ?_
 refine U.ps 4 T rfl ?_
 refine U.done (C.nx ?_)
 refine C.ite rfl hm (fun hb123 hm => ?_) (fun hb123 hm => ?_)
 refine C.skip (C.nx (C.seq (C.block (C.seq (U.start ?_)))))
 refine U.ps 3 T rfl ?_
 refine U.r rfl (.none rfl) rfl rfl (by exact Rd.ix T rfl rfl rfl rfl rfl rfl hx122) ?_
 refine U.ps 3 T rfl ?_
 obtain ⟨x126, hx126, hm⟩ := hm
 refine U.r rfl (.none rfl) rfl rfl (by exact Rd.ix T rfl rfl rfl rfl rfl rfl hx126) ?_
 refine U.ps 1 T rfl ?_
 refine U.e1 rfl (.none rfl) (by exact Eff1.al T rfl rfl rfl rfl) ?_
 refine U.e1 rfl (.none rfl) (by exact Eff1.st T rfl rfl rfl rfl rfl rfl rfl rfl rfl rfl) ?_
 refine U.done (C.nx ?_)
 refine C.jn (fun (x127 : Bool) => [(1, .i tick), (2, .p 0 0), (5, .b x5), (10, .i s73), (11, .i x84), (13, .b x127), (14, .i x113.Speed), (15, .i s118.2)]) (fun (x127 : Bool) => [(0, .box (eApiSite s_1))]) 1 hm (fun x127 hm => ?_) (fun J128 hm hJ128 => ?_)
 refine C.bnx (C.nx (U.start ?_))
 refine U.ps 3 T rfl ?_
 refine U.done (C.nx ?_)
 exact St.wk (C.next hm) (Wk.f [some 0] ⟨bX, trivial⟩)
 refine U.start ?_
 refine U.ps 2 T rfl ?_
 refine hm.cs (fun hb129 hm => ?_) (fun hb129 hm => ?_)
 refine U.pg 5 1 true 154 hb129 T rfl rfl rfl rfl ?_
 refine hm.cs (fun hb130 hm => ?_) (fun hb130 hm => ?_)
 refine U.sks 4 6 false 159 hb130 rfl rfl rfl ?_
 refine U.r rfl (.take 1 true 154 _ hb129 rfl rfl rfl) rfl rfl (by exact Rd.pk rfl rfl hb130 rfl) ?_
 refine U.r rfl (.none rfl) rfl rfl (by exact Rd.pk rfl rfl hb129 rfl) ?_
 refine U.ps 1 T rfl ?_
 refine U.done ?_
 exact St.wk (hJ128 _ hm) (Wk.f [some 0] ⟨bX, trivial⟩)
 refine U.pg 4 6 false 159 hb130 T rfl rfl rfl rfl ?_
 refine U.r rfl (.take 1 true 154 _ hb129 rfl rfl rfl) rfl rfl (by exact Rd.pk' rfl rfl hb130 rfl) ?_
 refine U.r rfl (.none rfl) rfl rfl (by exact Rd.pk rfl rfl hb129 rfl) ?_
 refine U.ps 1 T rfl ?_
 refine U.done ?_
 exact St.wk (hJ128 _ hm) (Wk.f [some 0] ⟨bX, trivial⟩)
 refine U.sks 5 1 true 154 hb129 rfl rfl rfl ?_
 refine U.sku 4 6 false 159 rfl rfl rfl ?_
 refine U.sks 1 1 true 154 hb129 rfl rfl rfl ?_
 refine U.r rfl (.none rfl) rfl rfl (by exact Rd.pk' rfl rfl hb129 rfl) ?_
 refine U.ps 1 T rfl ?_
 refine U.done ?_
 exact St.wk (hJ128 _ hm) (Wk.f [some 0] ⟨bX, trivial⟩)
 refine C.exit (C.ex (C.ex (C.bex ?_)))
 exact St.wk (hJ117 _ hm) (Wk.f [some 0] ⟨bX, trivial⟩)
 refine C.skip ?_
 exact St.wk (hJ109 _ hm) (Wk.f [some 0] ⟨bX, trivial⟩)
 refine C.block ?_
 refine St.wk (C.loop (fun (s86 : Int × Int) => [(1, .i tick), (2, .p 0 0), (5, .b x5), (10, .i s73), (11, .i s86.1), (12, .i s86.2)]) (fun (s86 : Int × Int) => [(0, .box (eApiSite s_1))]) hm (fun s86 Y87 hm => ?_)) (Wk.f [some 0] ⟨bX, trivial⟩)
 refine C.seq (C.seq (U.start ?_))
 refine U.ps 5 T rfl ?_
 refine U.done (C.nx ?_)
 refine C.ite rfl hm (fun hb90 hm => ?_) (fun hb90 hm => ?_)
 refine C.skip (C.nx (C.seq (C.block (C.seq (U.start ?_)))))
 refine U.ps 3 T rfl ?_
 obtain ⟨x93, hx93, hm⟩ := hm
 refine U.r rfl (.none rfl) rfl rfl (by exact Rd.ix T rfl rfl rfl rfl rfl rfl hx93) ?_
 refine U.ps 3 T rfl ?_
 refine U.e rfl (.none rfl) (by exact Eff.k (T_taquinref07_Has x93.Cells s73 _ hm) en23 rfl rfl rfl (.eq rfl) (fun _ _ => ⟨(.v _), trivial⟩)) (fun x94' hm => ?_)
 obtain ⟨x94⟩ := x94'
 refine U.done (C.nx ?_)
 refine C.jn (fun (x95 : Int) => [(1, .i tick), (2, .p 0 0), (5, .b x5), (10, .i s73), (11, .i x95), (12, .i s86.2)]) (fun (x95 : Int) => [(0, .box (eApiSite s_1))]) 1 hm (fun x95 hm => ?_) (fun J96 hm hJ96 => ?_)
 refine C.bnx (C.nx (U.start ?_))
 refine U.ps 3 T rfl ?_
 refine U.done (C.nx ?_)
 exact St.wk (C.next hm) (Wk.f [some 0] ⟨bX, trivial⟩)
 refine C.ite rfl hm (fun hb97 hm => ?_) (fun hb97 hm => ?_)
 refine U.start ?_
 refine U.ps 2 T rfl ?_
 refine U.done ?_
 exact St.wk (hJ96 _ hm) (Wk.f [some 0] ⟨bX, trivial⟩)
 refine C.skip ?_
 exact St.wk (hJ96 _ hm) (Wk.f [some 0] ⟨bX, trivial⟩)
 refine C.exit (C.ex (C.ex (C.bex ?_)))
 exact St.wk (hJ85 _ hm) (Wk.f [some 0] ⟨bX, trivial⟩)
 refine C.exit (C.ex (C.ex (C.bex ?_)))
 exact St.wk (hJ72 _ hm) (Wk.f [some 0] ⟨bX, trivial⟩)
 refine C.block ?_
 refine St.wk (C.loop (fun (s19 : Int × Int) => [(1, .i tick), (2, .p 0 0), (5, .b x5), (6, .i s19.1), (7, .i s19.2)]) (fun (s19 : Int × Int) => [(0, .box (eApiSite s_1))]) hm (fun s19 Y20 hm => ?_)) (Wk.f [some 0] ⟨bX, trivial⟩)
 refine C.seq (C.seq (U.start ?_))
 refine U.ps 2 T rfl ?_
 refine U.done (C.nx ?_)
 refine C.ite rfl hm (fun hb23 hm => ?_) (fun hb23 hm => ?_)
 refine C.skip (C.nx (C.seq ?_))
 refine C.jn (fun (x24 : Int) => [(1, .i tick), (2, .p 0 0), (5, .b x5), (6, .i x24), (7, .i s19.2)]) (fun (x24 : Int) => [(0, .box (eApiSite s_1))]) 1 hm (fun x24 hm => ?_) (fun J25 hm hJ25 => ?_)
 refine C.nx (U.start ?_)
 refine U.ps 3 T rfl ?_
 refine U.done (C.nx ?_)
 exact St.wk (C.next hm) (Wk.f [some 0] ⟨bX, trivial⟩)
 refine C.block (C.seq (U.start ?_))
 refine U.ps 2 T rfl ?_
 refine U.e rfl (.none rfl) (by exact Eff.c [] (v := true) (T_rules_OfKind s_1 s19.2 _ hm) en21 rfl rfl rfl (.eq rfl) trivial rfl rfl rfl rfl rfl rfl (fun _ _ => ⟨(.o _), ⟨.val (.os _ _ _ fun _ => (.cons (.v _) .nil)), trivial⟩⟩) (.inr ⟨rfl, rfl⟩) (fun _ => rfl) (fun _ => rfl) rfl) (fun x28' hm => ?_)
 obtain ⟨x28⟩ := x28'
 refine U.ps 1 T rfl ?_
 refine U.done (C.nx (C.seq (U.start ?_)))
 refine U.ps 5 T rfl ?_
 refine U.done (C.nx (C.seq (U.start ?_)))
 refine U.ps 1 T rfl ?_
 refine U.done (C.nx ?_)
 refine C.jn (fun (x33 : Unit) => [(1, .i tick), (2, .p 0 0), (5, .b x5), (6, .i (w64 (s19.1 + (x28.length : Int)))), (7, .i s19.2)]) (fun (x33 : Unit) => [(0, .box (eApiSite s_1))]) 1 hm (fun x33 hm => ?_) (fun J34 hm hJ34 => ?_)
 refine C.bnx ?_
 exact St.wk (hJ25 _ hm) (Wk.f [some 0] ⟨bX, trivial⟩)
 refine C.block ?_
 refine St.wk (C.loop (fun (s35 : Int) => [(1, .i tick), (2, .p 0 0), (5, .b x5), (6, .i (w64 (s19.1 + (x28.length : Int)))), (7, .i s19.2), (8, .o 1), (9, .i s35)]) (fun (s35 : Int) => [(0, .box (eApiSite s_1)), (1, .val (.os 1 eI x28))]) hm (fun s35 Y36 hm => ?_)) (Wk.f [some 0, some 1] ⟨bX, vL, trivial⟩)
 refine C.seq (C.seq (U.start ?_))
 refine U.ps 4 T rfl ?_
 refine U.done (C.nx ?_)
 refine C.ite rfl hm (fun hb39 hm => ?_) (fun hb39 hm => ?_)
 refine C.skip (C.nx (C.seq (C.block (C.seq (C.seq ?_)))))
 refine C.jn (fun (x40 : Bool) => [(1, .i tick), (2, .p 0 0), (5, .b x5), (6, .i (w64 (s19.1 + (x28.length : Int)))), (7, .i s19.2), (8, .o 1), (9, .i s35), (68, .b x40)]) (fun (x40 : Bool) => [(0, .box (eApiSite s_1)), (1, .val (.os 1 eI x28))]) 2 hm (fun x40 hm => ?_) (fun J41 hm hJ41 => ?_)
 refine C.nx ?_
 refine C.ite rfl hm (fun hb47 hm => ?_) (fun hb47 hm => ?_)
 refine C.seq (U.start ?_)
 refine U.ps 1 T rfl ?_
 refine U.done (C.nx (C.ret (C.rt (C.brt (C.rt (C.rt (C.brt (C.brt (C.rt (C.rt (C.brt (C.rt ?_))))))))))))
 exact C.f0 T (rs' := [.b false]) hβ ⟨false, hm, rfl, rfl, rfl⟩
 refine C.skip (C.nx (C.seq ?_))
 refine C.jn (fun (x50 : Bool) => [(1, .i tick), (2, .p 0 0), (5, .b x5), (6, .i (w64 (s19.1 + (x28.length : Int)))), (7, .i s19.2), (8, .o 1), (9, .i s35), (94, .b x50)]) (fun (x50 : Bool) => [(0, .box (eApiSite s_1)), (1, .val (.os 1 eI x28))]) 2 hm (fun x50 hm => ?_) (fun J51 hm hJ51 => ?_)
 refine C.nx ?_
 refine C.ite rfl hm (fun hb57 hm => ?_) (fun hb57 hm => ?_)
 refine C.seq (U.start ?_)
 refine U.ps 1 T rfl ?_
 refine U.done (C.nx (C.ret (C.brt (C.rt (C.rt (C.brt (C.brt (C.rt (C.rt (C.brt (C.rt ?_)))))))))))
 exact C.f0 T (rs' := [.b false]) hβ ⟨false, hm, rfl, rfl, rfl⟩
 refine C.skip (C.bnx (C.nx (U.start ?_)))
 refine U.ps 3 T rfl ?_
 refine U.done (C.nx ?_)
 exact St.wk (C.next hm) (Wk.f [some 0, some 1] ⟨bX, vL, trivial⟩)
 refine D.beg 9999 [0, 1] [] mix rfl rfl (by kernel_rfl) (by repeat (first | exact NoPanicQ.body | exact NoPanicQ.rnd | refine NoPanicQ.th ?_ | refine NoPanicQ.blk ?_)) (fun hQ hS ws M' => ?_)
 refine D.ps 5 [(0, []), (1, []), (2, []), (3, []), (4, [])] rfl hQ hS T rfl rfl (by kernel_rfl) ?_
 obtain ⟨x52, hx52, hm⟩ := hm
 refine D.q 5 [] hQ hS rfl (.none rfl) rfl rfl (by exact Rd.io T rfl rfl rfl rfl rfl rfl rfl hx52) rfl (by kernel_rfl) ?_
 refine D.q 6 [] hQ hS rfl (.none rfl) rfl rfl (by exact Rd.le T rfl rfl rfl (idx_some hx52).2.2 rfl rfl rfl) rfl (by kernel_rfl) ?_
 obtain ⟨x53, hx53, hm⟩ := hm
 refine D.q 7 [] hQ hS rfl (.none rfl) rfl rfl (by exact Rd.ix T rfl rfl rfl rfl rfl rfl hx53) rfl (by kernel_rfl) ?_
 refine D.ps 4 [(8, []), (9, []), (10, []), (11, [])] rfl hQ hS T rfl rfl (by kernel_rfl) ?_
 refine hm.cs (fun hb54 hm => ?_) (fun hb54 hm => ?_)
 refine D.sq 12 [] hQ hS rfl (.skip 11 false 80 _ hb54 rfl rfl rfl) rfl rfl (by kernel_rfl) ?_
 refine D.sq 13 [] hQ hS rfl (.skip 11 false 80 _ hb54 rfl rfl rfl) rfl rfl (by kernel_rfl) ?_
 refine D.sq 14 [] hQ hS rfl (.skip 11 false 80 _ hb54 rfl rfl rfl) rfl rfl (by kernel_rfl) ?_
 refine D.sq 15 [] hQ hS rfl (.skip 11 false 80 _ hb54 rfl rfl rfl) rfl rfl (by kernel_rfl) ?_
 refine D.sq 16 [] hQ hS rfl (.skip 11 false 80 _ hb54 rfl rfl rfl) rfl rfl (by kernel_rfl) ?_
 refine D.sq 17 [] hQ hS rfl (.skip 11 false 80 _ hb54 rfl rfl rfl) rfl rfl (by kernel_rfl) ?_
 refine D.sq 18 [] hQ hS rfl (.skip 11 false 80 _ hb54 rfl rfl rfl) rfl rfl (by kernel_rfl) ?_
 refine D.sq 19 [] hQ hS rfl (.skip 11 false 80 _ hb54 rfl rfl rfl) rfl rfl (by kernel_rfl) ?_
 refine D.sq 20 [] hQ hS rfl (.skip 11 false 80 _ hb54 rfl rfl rfl) rfl rfl (by kernel_rfl) ?_
 refine D.sq 21 [] hQ hS rfl (.und 20 false 89 rfl rfl rfl) rfl rfl (by kernel_rfl) ?_
 refine D.sq 22 [] hQ hS rfl (.und 20 false 89 rfl rfl rfl) rfl rfl (by kernel_rfl) ?_
 refine D.sq 23 [] hQ hS rfl (.skip 11 false 80 _ hb54 rfl rfl rfl) rfl rfl (by kernel_rfl) ?_
 refine D.sq 24 [] hQ hS rfl (.skip 11 false 80 _ hb54 rfl rfl rfl) rfl rfl (by kernel_rfl) ?_
 refine D.q 25 [] hQ hS rfl (.none rfl) rfl rfl (by exact Rd.pk rfl rfl hb54 rfl) rfl (by kernel_rfl) ?_
 refine D.done (by kernel_rfl) ?_
 exact St.wk (hJ51 _ hm) (Wk.f [some 0, some 1] ⟨bX, vL, trivial⟩)
 refine D.q 12 [] hQ hS rfl (.take 11 false 80 _ hb54 rfl rfl rfl) rfl rfl (by exact Rd.l T rfl rfl rfl) rfl (by kernel_rfl) ?_
 refine D.q 13 [] hQ hS rfl (.take 11 false 80 _ hb54 rfl rfl rfl) rfl rfl (by exact Rd.p T rfl) rfl (by kernel_rfl) ?_
 refine D.q 14 [] hQ hS rfl (.take 11 false 80 _ hb54 rfl rfl rfl) rfl rfl (by exact Rd.p T rfl) rfl (by kernel_rfl) ?_
 refine D.q 15 [] hQ hS rfl (.take 11 false 80 _ hb54 rfl rfl rfl) rfl rfl (by exact Rd.io T rfl rfl rfl rfl rfl rfl rfl hx52) rfl (by kernel_rfl) ?_
 refine D.q 16 [] hQ hS rfl (.take 11 false 80 _ hb54 rfl rfl rfl) rfl rfl (by exact Rd.le T rfl rfl rfl (idx_some hx52).2.2 rfl rfl rfl) rfl (by kernel_rfl) ?_
 refine D.q 18 [] hQ hS rfl (.take 11 false 80 _ hb54 rfl rfl rfl) rfl rfl (by exact Rd.p T rfl) rfl (by kernel_rfl) ?_
 refine D.q 19 [] hQ hS rfl (.take 11 false 80 _ hb54 rfl rfl rfl) rfl rfl (by exact Rd.p T rfl) rfl (by kernel_rfl) ?_
 refine D.e 17 rfl (.take 11 false 80 _ hb54 rfl rfl rfl) (by exact Eff.k (T_rules_Stands s_1 x52 _ hm) en16 rfl rfl rfl (.eq rfl) (fun _ _ => ⟨(.v _), trivial⟩)) (by kernel_rfl) rfl rfl (fun x55' hm => ?_)
 obtain ⟨x55⟩ := x55'
 refine D.q 20 [] hQ hS rfl (.take 11 false 80 _ hb54 rfl rfl rfl) rfl rfl (by exact Rd.p T rfl) rfl (by kernel_rfl) ?_
 refine hm.cs (fun hb56 hm => ?_) (fun hb56 hm => ?_)
 refine D.sq 21 [] hQ hS rfl (.skip 20 false 89 _ hb56 rfl rfl rfl) rfl rfl (by kernel_rfl) ?_
 refine D.sq 22 [] hQ hS rfl (.skip 20 false 89 _ hb56 rfl rfl rfl) rfl rfl (by kernel_rfl) ?_
 refine D.q 23 [] hQ hS rfl (.take 11 false 80 _ hb54 rfl rfl rfl) rfl rfl (by exact Rd.pk rfl rfl hb56 rfl) rfl (by kernel_rfl) ?_
 refine D.q 24 [] hQ hS rfl (.take 11 false 80 _ hb54 rfl rfl rfl) rfl rfl (by exact Rd.p T rfl) rfl (by kernel_rfl) ?_
 refine D.q 25 [] hQ hS rfl (.none rfl) rfl rfl (by exact Rd.pk' rfl rfl hb54 rfl) rfl (by kernel_rfl) ?_
 refine D.done (by kernel_rfl) ?_
 exact St.wk (hJ51 _ hm) (Wk.f [some 0, some 1] ⟨bX, vL, trivial⟩)
 refine D.q 21 [] hQ hS rfl (.take 20 false 89 _ hb56 rfl rfl rfl) rfl rfl (by exact Rd.p T rfl) rfl (by kernel_rfl) ?_
 refine D.q 22 [] hQ hS rfl (.take 20 false 89 _ hb56 rfl rfl rfl) rfl rfl (by exact Rd.p T rfl) rfl (by kernel_rfl) ?_
 refine D.q 23 [] hQ hS rfl (.take 11 false 80 _ hb54 rfl rfl rfl) rfl rfl (by exact Rd.pk' rfl rfl hb56 rfl) rfl (by kernel_rfl) ?_
 refine D.q 24 [] hQ hS rfl (.take 11 false 80 _ hb54 rfl rfl rfl) rfl rfl (by exact Rd.p T rfl) rfl (by kernel_rfl) ?_
 refine D.q 25 [] hQ hS rfl (.none rfl) rfl rfl (by exact Rd.pk' rfl rfl hb54 rfl) rfl (by kernel_rfl) ?_
 refine D.done (by kernel_rfl) ?_
 exact St.wk (hJ51 _ hm) (Wk.f [some 0, some 1] ⟨bX, vL, trivial⟩)
 refine D.beg 9999 [0, 1] [] mix rfl rfl (by kernel_rfl) (by repeat (first | exact NoPanicQ.body | exact NoPanicQ.rnd | refine NoPanicQ.th ?_ | refine NoPanicQ.blk ?_)) (fun hQ hS ws M' => ?_)
 refine D.ps 4 [(0, []), (1, []), (2, []), (3, [])] rfl hQ hS T rfl rfl (by kernel_rfl) ?_
 obtain ⟨x42, hx42, hm⟩ := hm
 refine D.q 4 [] hQ hS rfl (.none rfl) rfl rfl (by exact Rd.io T rfl rfl rfl rfl rfl rfl rfl hx42) rfl (by kernel_rfl) ?_
 refine D.q 5 [] hQ hS rfl (.none rfl) rfl rfl (by exact Rd.le T rfl rfl rfl (idx_some hx42).2.2 rfl rfl rfl) rfl (by kernel_rfl) ?_
 refine D.e 6 rfl (.none rfl) (by exact Eff.k (T_taquinref07_Is s_1.Floor x42 _ hm) en22 rfl rfl rfl (.eq rfl) (fun _ _ => ⟨(.v _), trivial⟩)) (by kernel_rfl) rfl rfl (fun x43' hm => ?_)
 obtain ⟨x43⟩ := x43'
 refine D.ps 2 [(7, []), (8, [])] rfl hQ hS T rfl rfl (by kernel_rfl) ?_
 refine hm.cs (fun hb44 hm => ?_) (fun hb44 hm => ?_)
 refine D.q 9 [] hQ hS rfl (.take 8 false 52 _ (ntF hb44) rfl rfl rfl) rfl rfl (by exact Rd.p T rfl) rfl (by kernel_rfl) ?_
 refine D.q 10 [] hQ hS rfl (.take 8 false 52 _ (ntF hb44) rfl rfl rfl) rfl rfl (by exact Rd.p T rfl) rfl (by kernel_rfl) ?_
 refine D.q 11 [] hQ hS rfl (.take 8 false 52 _ (ntF hb44) rfl rfl rfl) rfl rfl (by exact Rd.p T rfl) rfl (by kernel_rfl) ?_
 refine hm.cs (fun hb45 hm => ?_) (fun hb45 hm => ?_)
 refine D.q 12 [] hQ hS rfl (.take 11 true 55 _ hb45 rfl rfl rfl) rfl rfl (by exact Rd.p T rfl) rfl (by kernel_rfl) ?_
 refine D.q 13 [] hQ hS rfl (.take 11 true 55 _ hb45 rfl rfl rfl) rfl rfl (by exact Rd.p T rfl) rfl (by kernel_rfl) ?_
 refine D.q 14 [] hQ hS rfl (.take 11 true 55 _ hb45 rfl rfl rfl) rfl rfl (by exact Rd.p T rfl) rfl (by kernel_rfl) ?_
 refine D.q 15 [] hQ hS rfl (.take 11 true 55 _ hb45 rfl rfl rfl) rfl rfl (by exact Rd.p T rfl) rfl (by kernel_rfl) ?_
 obtain ⟨x46, hx46, hm⟩ := hm
 refine D.q 16 [] hQ hS rfl (.take 11 true 55 _ hb45 rfl rfl rfl) rfl rfl (by exact Rd.io T rfl rfl rfl rfl rfl rfl rfl hx46) rfl (by kernel_rfl) ?_
 refine D.q 17 [] hQ hS rfl (.take 11 true 55 _ hb45 rfl rfl rfl) rfl rfl (by exact Rd.le T rfl rfl rfl (idx_some hx46).2.2 rfl rfl rfl) rfl (by kernel_rfl) ?_
 refine D.q 18 [] hQ hS rfl (.take 11 true 55 _ hb45 rfl rfl rfl) rfl rfl (by exact Rd.p T rfl) rfl (by kernel_rfl) ?_
 refine D.q 19 [] hQ hS rfl (.take 11 true 55 _ hb45 rfl rfl rfl) rfl rfl (by exact Rd.p T rfl) rfl (by kernel_rfl) ?_
 refine D.q 20 [] hQ hS rfl (.take 11 true 55 _ hb45 rfl rfl rfl) rfl rfl (by exact Rd.io T rfl rfl rfl rfl rfl rfl rfl hx42) rfl (by kernel_rfl) ?_
 refine D.q 21 [] hQ hS rfl (.take 11 true 55 _ hb45 rfl rfl rfl) rfl rfl (by exact Rd.le T rfl rfl rfl (idx_some hx42).2.2 rfl rfl rfl) rfl (by kernel_rfl) ?_
 refine D.q 22 [] hQ hS rfl (.take 11 true 55 _ hb45 rfl rfl rfl) rfl rfl (by exact Rd.p T rfl) rfl (by kernel_rfl) ?_
 refine D.q 23 [] hQ hS rfl (.take 8 false 52 _ (ntF hb44) rfl rfl rfl) rfl rfl (by exact Rd.pk rfl rfl hb45 rfl) rfl (by kernel_rfl) ?_
 refine D.q 24 [] hQ hS rfl (.none rfl) rfl rfl (by exact Rd.pk' rfl rfl (ntF hb44) rfl) rfl (by kernel_rfl) ?_
 refine D.done (by kernel_rfl) ?_
 exact St.wk (hJ41 _ hm) (Wk.f [some 0, some 1] ⟨bX, vL, trivial⟩)
 refine D.sq 12 [] hQ hS rfl (.skip 11 true 55 _ hb45 rfl rfl rfl) rfl rfl (by kernel_rfl) ?_
 refine D.sq 13 [] hQ hS rfl (.skip 11 true 55 _ hb45 rfl rfl rfl) rfl rfl (by kernel_rfl) ?_
 refine D.sq 14 [] hQ hS rfl (.skip 11 true 55 _ hb45 rfl rfl rfl) rfl rfl (by kernel_rfl) ?_
 refine D.sq 15 [] hQ hS rfl (.skip 11 true 55 _ hb45 rfl rfl rfl) rfl rfl (by kernel_rfl) ?_
 refine D.sq 16 [] hQ hS rfl (.skip 11 true 55 _ hb45 rfl rfl rfl) rfl rfl (by kernel_rfl) ?_
 refine D.sq 17 [] hQ hS rfl (.skip 11 true 55 _ hb45 rfl rfl rfl) rfl rfl (by kernel_rfl) ?_
 refine D.sq 18 [] hQ hS rfl (.skip 11 true 55 _ hb45 rfl rfl rfl) rfl rfl (by kernel_rfl) ?_
 refine D.sq 19 [] hQ hS rfl (.skip 11 true 55 _ hb45 rfl rfl rfl) rfl rfl (by kernel_rfl) ?_
 refine D.sq 20 [] hQ hS rfl (.skip 11 true 55 _ hb45 rfl rfl rfl) rfl rfl (by kernel_rfl) ?_
 refine D.sq 21 [] hQ hS rfl (.skip 11 true 55 _ hb45 rfl rfl rfl) rfl rfl (by kernel_rfl) ?_
 refine D.sq 22 [] hQ hS rfl (.skip 11 true 55 _ hb45 rfl rfl rfl) rfl rfl (by kernel_rfl) ?_
 refine D.q 23 [] hQ hS rfl (.take 8 false 52 _ (ntF hb44) rfl rfl rfl) rfl rfl (by exact Rd.pk' rfl rfl hb45 rfl) rfl (by kernel_rfl) ?_
 refine D.q 24 [] hQ hS rfl (.none rfl) rfl rfl (by exact Rd.pk' rfl rfl (ntF hb44) rfl) rfl (by kernel_rfl) ?_
 refine D.done (by kernel_rfl) ?_
 exact St.wk (hJ41 _ hm) (Wk.f [some 0, some 1] ⟨bX, vL, trivial⟩)
 refine D.sq 9 [] hQ hS rfl (.skip 8 false 52 _ (ntT hb44) rfl rfl rfl) rfl rfl (by kernel_rfl) ?_
 refine D.sq 10 [] hQ hS rfl (.skip 8 false 52 _ (ntT hb44) rfl rfl rfl) rfl rfl (by kernel_rfl) ?_
 refine D.sq 11 [] hQ hS rfl (.skip 8 false 52 _ (ntT hb44) rfl rfl rfl) rfl rfl (by kernel_rfl) ?_
 refine D.sq 12 [] hQ hS rfl (.und 11 true 55 rfl rfl rfl) rfl rfl (by kernel_rfl) ?_
 refine D.sq 13 [] hQ hS rfl (.und 11 true 55 rfl rfl rfl) rfl rfl (by kernel_rfl) ?_
 refine D.sq 14 [] hQ hS rfl (.und 11 true 55 rfl rfl rfl) rfl rfl (by kernel_rfl) ?_
 refine D.sq 15 [] hQ hS rfl (.und 11 true 55 rfl rfl rfl) rfl rfl (by kernel_rfl) ?_
 refine D.sq 16 [] hQ hS rfl (.und 11 true 55 rfl rfl rfl) rfl rfl (by kernel_rfl) ?_
 refine D.sq 17 [] hQ hS rfl (.und 11 true 55 rfl rfl rfl) rfl rfl (by kernel_rfl) ?_
 refine D.sq 18 [] hQ hS rfl (.und 11 true 55 rfl rfl rfl) rfl rfl (by kernel_rfl) ?_
 refine D.sq 19 [] hQ hS rfl (.und 11 true 55 rfl rfl rfl) rfl rfl (by kernel_rfl) ?_
 refine D.sq 20 [] hQ hS rfl (.und 11 true 55 rfl rfl rfl) rfl rfl (by kernel_rfl) ?_
 refine D.sq 21 [] hQ hS rfl (.und 11 true 55 rfl rfl rfl) rfl rfl (by kernel_rfl) ?_
 refine D.sq 22 [] hQ hS rfl (.und 11 true 55 rfl rfl rfl) rfl rfl (by kernel_rfl) ?_
 refine D.sq 23 [] hQ hS rfl (.skip 8 false 52 _ (ntT hb44) rfl rfl rfl) rfl rfl (by kernel_rfl) ?_
 refine D.q 24 [] hQ hS rfl (.none rfl) rfl rfl (by exact Rd.pk rfl rfl (ntT hb44) rfl) rfl (by kernel_rfl) ?_
 refine D.done (by kernel_rfl) ?_
 exact St.wk (hJ41 _ hm) (Wk.f [some 0, some 1] ⟨bX, vL, trivial⟩)
 refine C.exit (C.ex (C.ex (C.bex ?_)))
 exact St.wk (hJ34 _ hm) (Wk.f [some 0] ⟨bX, trivial⟩)
 refine C.exit (C.ex (C.ex (C.bex ?_)))
 exact St.wk (hJ18 _ hm) (Wk.f [some 0] ⟨bX, trivial⟩)
end Go.Proofs.Ytpcdibgbijddlaa
