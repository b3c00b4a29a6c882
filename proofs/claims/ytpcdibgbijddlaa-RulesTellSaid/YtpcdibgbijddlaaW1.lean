/- The walks: each Go function does what its verification condition says (written by a program of the prover). -/
import Derived.Test.YtpcdibgbijddlaaW0
import Derived.KernelRfl
set_option maxRecDepth 100000
set_option maxHeartbeats 8000000
set_option linter.unusedVariables false
set_option linter.unusedSimpArgs false
namespace Go.Proofs.Ytpcdibgbijddlaa
open Go Go.Taq
theorem T_survey_maker_addZone__p0 (z : ApiZone) (m : SurveyMaker) (post : (Int × SurveyMaker) → Prop) (hm : V_survey_maker_addZone__p0 z m post) :
    Tr Try.prog 67 [.p 0 0, .agg (eApiZone z)] [(0, .box [.i m.site.Floor.W, .i m.site.Floor.H, .i m.site.Floor.D, .sl 1 eI m.site.Floor.Kind, .sl 1 eI m.site.Floor.Out, .o 1, .o 2, .o 3, .o 4, .o 5, .o 6, .o 7, .o 8, .o 9, .o 10, .o 11]), (1, .val (.os 5 eApiZone m.site.Zones)), (2, .val (.os 2 eApiApart m.site.Aparts)), (3, .val (.os 2 eApiShelf m.site.Shelves)), (4, .val (.os 2 eApiStart m.site.Robots)), (5, .val (.om kI veI m.shelf)), (6, .val (.om kI veB m.robot)), (7, .val (.om kI veB m.zoned)), (8, .val (.om kS veI m.names)), (9, .val (.om kI veB m.oneways)), (10, .val (.os 1 eI m.shelves)), (11, .val (.os 1 eI m.zones))] 12 (fun A H' k => ∃ y, post y ∧ A = (.i y.1) ∧ H' = [(0, .box [.i y.2.site.Floor.W, .i y.2.site.Floor.H, .i y.2.site.Floor.D, .sl 1 eI y.2.site.Floor.Kind, .sl 1 eI y.2.site.Floor.Out, .o 12, .o 13, .o 14, .o 15, .o 16, .o 17, .o 18, .o 19, .o 20, .o 21, .o 22]), (12, .val (.os 5 eApiZone y.2.site.Zones)), (13, .val (.os 2 eApiApart y.2.site.Aparts)), (14, .val (.os 2 eApiShelf y.2.site.Shelves)), (15, .val (.os 2 eApiStart y.2.site.Robots)), (16, .val (.om kI veI y.2.shelf)), (17, .val (.om kI veB y.2.robot)), (18, .val (.om kI veB y.2.zoned)), (19, .val (.om kS veI y.2.names)), (20, .val (.om kI veB y.2.oneways)), (21, .val (.os 1 eI y.2.shelves)), (22, .val (.os 1 eI y.2.zones))] ∧ k = 23) := by
 refine Tr.intro (n := 93) Try.func67 rfl Try.ntmps67 rfl (fun w0 ok F β hβ => ?_)
 unfold V_survey_maker_addZone__p0 at hm
 refine C.seq (U.start ?_)
 refine U.e1 (o := _) rfl (.none rfl) (by exact Eff1.box rfl rfl rfl rfl rfl) ?_
 refine U.ps 1 T rfl ?_
 refine U.done (C.nx (C.seq (C.seq ?_)))
 refine D.beg 9999 [0, 8, 12] [] mix rfl rfl (by kernel_rfl) (by repeat (first | exact NoPanicQ.body | exact NoPanicQ.rnd | refine NoPanicQ.th ?_ | refine NoPanicQ.blk ?_)) (fun hQ hS ws M' => ?_)
 refine D.ps 6 [(0, []), (1, []), (2, []), (3, []), (4, []), (5, [])] rfl hQ hS T rfl rfl (by kernel_rfl) ?_
 refine D.q (o := _) 6 [] hQ hS rfl (.none rfl) rfl rfl (by exact Rd.lk2 T (ke := kS) (ve := veI) (xs := m.names) (z0 := 0) (x := z.Name) rfl rfl kt9 zt3 (fun _ => rfl) rfl (.o rfl) rfl rfl rfl) rfl (by kernel_rfl) ?_
 refine D.ps 5 [(7, []), (8, []), (9, []), (10, []), (11, [])] rfl hQ hS T rfl rfl (by kernel_rfl) ?_
 refine D.done (by kernel_rfl) ?_
 refine C.nx (C.seq (U.start ?_))
 refine U.ps 1 T rfl ?_
 refine U.done (C.nx ?_)
 refine C.ite rfl hm (fun hb7 hm => ?_) (fun hb7 hm => ?_)
 ·refine C.seq (U.start ?_)
  refine U.ps 1 T rfl ?_
  refine U.done (C.nx (C.ret (C.rt ?_)))
  exact C.fin T (rs' := [.i ((5, m).1)]) (H' := [(0, .box [.i (((5, m).2).site.Floor.W), .i (((5, m).2).site.Floor.H), .i (((5, m).2).site.Floor.D), .sl 1 eI (((5, m).2).site.Floor.Kind), .sl 1 eI (((5, m).2).site.Floor.Out), .o 12, .o 13, .o 14, .o 15, .o 16, .o 17, .o 18, .o 19, .o 20, .o 21, .o 22]), (12, .val (.os 5 eApiZone (((5, m).2).site.Zones))), (13, .val (.os 2 eApiApart (((5, m).2).site.Aparts))), (14, .val (.os 2 eApiShelf (((5, m).2).site.Shelves))), (15, .val (.os 2 eApiStart (((5, m).2).site.Robots))), (16, .val (.om kI veI (((5, m).2).shelf))), (17, .val (.om kI veB (((5, m).2).robot))), (18, .val (.om kI veB (((5, m).2).zoned))), (19, .val (.om kS veI (((5, m).2).names))), (20, .val (.om kI veB (((5, m).2).oneways))), (21, .val (.os 1 eI (((5, m).2).shelves))), (22, .val (.os 1 eI (((5, m).2).zones)))]) (nl' := 23) [some 0, some 1, some 2, some 3, some 4, some 5, some 6, some 7, some 8, some 9, some 10, some 11, some 1, some 2, some 3, some 4, some 5, some 6, some 7, some 8, some 9, some 10, some 11] rfl rfl (.eq rfl) ⟨⟨_, rfl, .box rfl (.eq rfl)⟩, ⟨_, rfl, .val rfl⟩, ⟨_, rfl, .val rfl⟩, ⟨_, rfl, .val rfl⟩, ⟨_, rfl, .val rfl⟩, ⟨_, rfl, .val rfl⟩, ⟨_, rfl, .val rfl⟩, ⟨_, rfl, .val rfl⟩, ⟨_, rfl, .val rfl⟩, ⟨_, rfl, .val rfl⟩, ⟨_, rfl, .val rfl⟩, ⟨_, rfl, .val rfl⟩, trivial⟩ rfl rfl rfl rfl hβ ⟨(5, m), hm, rfl, rfl, rfl⟩
 ·refine C.skip (C.nx (C.seq (C.seq (U.start ?_))))
  refine U.ps 7 T rfl ?_
  refine U.done (C.nx ?_)
  refine C.ite rfl hm (fun hb12 hm => ?_) (fun hb12 hm => ?_)
  ·refine C.seq (U.start ?_)
   refine U.ps 1 T rfl ?_
   refine U.done (C.nx (C.ret (C.rt ?_)))
   exact C.fin T (rs' := [.i ((6, m).1)]) (H' := [(0, .box [.i (((6, m).2).site.Floor.W), .i (((6, m).2).site.Floor.H), .i (((6, m).2).site.Floor.D), .sl 1 eI (((6, m).2).site.Floor.Kind), .sl 1 eI (((6, m).2).site.Floor.Out), .o 12, .o 13, .o 14, .o 15, .o 16, .o 17, .o 18, .o 19, .o 20, .o 21, .o 22]), (12, .val (.os 5 eApiZone (((6, m).2).site.Zones))), (13, .val (.os 2 eApiApart (((6, m).2).site.Aparts))), (14, .val (.os 2 eApiShelf (((6, m).2).site.Shelves))), (15, .val (.os 2 eApiStart (((6, m).2).site.Robots))), (16, .val (.om kI veI (((6, m).2).shelf))), (17, .val (.om kI veB (((6, m).2).robot))), (18, .val (.om kI veB (((6, m).2).zoned))), (19, .val (.om kS veI (((6, m).2).names))), (20, .val (.om kI veB (((6, m).2).oneways))), (21, .val (.os 1 eI (((6, m).2).shelves))), (22, .val (.os 1 eI (((6, m).2).zones)))]) (nl' := 23) [some 0, some 1, some 2, some 3, some 4, some 5, some 6, some 7, some 8, some 9, some 10, some 11, some 1, some 2, some 3, some 4, some 5, some 6, some 7, some 8, some 9, some 10, some 11] rfl rfl (.eq rfl) ⟨⟨_, rfl, .box rfl (.eq rfl)⟩, ⟨_, rfl, .val rfl⟩, ⟨_, rfl, .val rfl⟩, ⟨_, rfl, .val rfl⟩, ⟨_, rfl, .val rfl⟩, ⟨_, rfl, .val rfl⟩, ⟨_, rfl, .val rfl⟩, ⟨_, rfl, .val rfl⟩, ⟨_, rfl, .val rfl⟩, ⟨_, rfl, .val rfl⟩, ⟨_, rfl, .val rfl⟩, ⟨_, rfl, .val rfl⟩, trivial⟩ rfl rfl rfl rfl hβ ⟨(6, m), hm, rfl, rfl, rfl⟩
  ·refine C.skip (C.nx (C.seq (C.seq (U.start ?_))))
   refine U.ps 4 T rfl ?_
   refine U.done (C.nx ?_)
   refine C.jn (fun (x17 : Unit) => [(0, .p 0 0), (3, .p 12 0)]) (fun (x17 : Unit) => [(0, .box [.i m.site.Floor.W, .i m.site.Floor.H, .i m.site.Floor.D, .sl 1 eI m.site.Floor.Kind, .sl 1 eI m.site.Floor.Out, .o 1, .o 2, .o 3, .o 4, .o 5, .o 6, .o 7, .o 8, .o 9, .o 10, .o 11]), (1, .val (.os 5 eApiZone m.site.Zones)), (2, .val (.os 2 eApiApart m.site.Aparts)), (3, .val (.os 2 eApiShelf m.site.Shelves)), (4, .val (.os 2 eApiStart m.site.Robots)), (5, .val (.om kI veI m.shelf)), (6, .val (.om kI veB m.robot)), (7, .val (.om kI veB m.zoned)), (8, .val (.om kS veI m.names)), (9, .val (.om kI veB m.oneways)), (10, .val (.os 1 eI m.shelves)), (11, .val (.os 1 eI m.zones)), (12, .box (eApiZone z))]) 13 hm (fun x17 hm => ?_) (fun J18 hm hJ18 => ?_)
   ·refine C.nx (C.seq (C.seq (U.start ?_)))
    refine U.ps 4 T rfl ?_
    refine U.done (C.nx ?_)
    refine C.jn (fun (x41 : List (Int × Bool)) => [(0, .p 0 0), (3, .p 12 0)]) (fun (x41 : List (Int × Bool)) => [(0, .box [.i m.site.Floor.W, .i m.site.Floor.H, .i m.site.Floor.D, .sl 1 eI m.site.Floor.Kind, .sl 1 eI m.site.Floor.Out, .o 1, .o 2, .o 3, .o 4, .o 5, .o 6, .o 7, .o 8, .o 9, .o 10, .o 11]), (1, .val (.os 5 eApiZone m.site.Zones)), (2, .val (.os 2 eApiApart m.site.Aparts)), (3, .val (.os 2 eApiShelf m.site.Shelves)), (4, .val (.os 2 eApiStart m.site.Robots)), (5, .val (.om kI veI m.shelf)), (6, .val (.om kI veB m.robot)), (7, .val (.om kI veB x41)), (8, .val (.om kS veI m.names)), (9, .val (.om kI veB m.oneways)), (10, .val (.os 1 eI m.shelves)), (11, .val (.os 1 eI m.zones)), (12, .box (eApiZone z))]) 13 hm (fun x41 hm => ?_) (fun J42 hm hJ42 => ?_)
    ·refine C.nx (C.seq ?_)
     refine D.beg 12 [0, 12] [] mix rfl rfl (by kernel_rfl) (by repeat (first | exact NoPanicQ.body | exact NoPanicQ.rnd | refine NoPanicQ.th ?_ | refine NoPanicQ.blk ?_)) (fun hQ hS ws M' => ?_)
     refine D.ps 12 [(0, []), (1, []), (2, []), (3, []), (4, []), (5, []), (6, []), (7, []), (8, []), (9, []), (10, []), (11, [])] rfl hQ hS T rfl rfl (by kernel_rfl) ?_
     refine D.ze1 (o := _) rfl (.none rfl) (by exact Eff1.mu T (x := z.Name) (y := (m.site.Zones.length : Int)) (.inl rfl) rfl kt9 (fun _ => rfl) rfl rfl rfl rfl rfl (.inl rfl) rfl) (by kernel_rfl) (by kernel_rfl) ?_
     refine C.nx (C.seq ?_)
     refine D.beg 12 [0, 12] [1] mix rfl rfl (by kernel_rfl) (by repeat (first | exact NoPanicQ.body | exact NoPanicQ.rnd | refine NoPanicQ.th ?_ | refine NoPanicQ.blk ?_)) (fun hQ hS ws M' => ?_)
     refine D.ps 7 [(0, []), (1, []), (2, []), (3, []), (4, []), (5, []), (6, [])] rfl hQ hS T rfl rfl (by kernel_rfl) ?_
     refine D.e1 (o := _) 7 rfl (.none rfl) (by exact Eff1.bs T (enc := eApiZone) (xs := ([z] : List ApiZone)) rfl rfl rfl rfl rfl rfl rfl rfl rfl rfl (fun _ _ => rfl) rfl rfl) (by kernel_rfl) rfl rfl ?_
     obtain ⟨hx59, hm⟩ := hm
     refine D.e1 (o := _) 8 rfl (.none rfl) (by exact Eff1.ap T rfl rfl rfl rfl rfl rfl (.inr ⟨_, rfl, rfl⟩) rfl rfl rfl (fun _ => rfl) rfl hx59) (by kernel_rfl) rfl rfl ?_
     refine D.ps 3 [(9, [11, 10]), (10, [11]), (11, [])] rfl hQ hS T rfl rfl (by kernel_rfl) ?_
     refine D.ze1 (o := _) rfl (.none rfl) (by exact Eff1.st T rfl rfl rfl rfl rfl rfl rfl rfl rfl rfl) (by kernel_rfl) (by kernel_rfl) ?_
     refine C.nx (C.seq (U.start ?_))
     refine U.ps 1 T rfl ?_
     refine U.done (C.nx (C.ret ?_))
     exact C.fin T (rs' := [.i ((0, ({ site := ({ Floor := m.site.Floor, Zones := (m.site.Zones ++ ([z] : List ApiZone)), Aparts := m.site.Aparts, Shelves := m.site.Shelves, Robots := m.site.Robots : ApiSite }), shelf := m.shelf, robot := m.robot, zoned := x41, names := (upd m.names z.Name (m.site.Zones.length : Int)), oneways := m.oneways, shelves := m.shelves, zones := m.zones : SurveyMaker })).1)]) (H' := [(0, .box [.i (((0, ({ site := ({ Floor := m.site.Floor, Zones := (m.site.Zones ++ ([z] : List ApiZone)), Aparts := m.site.Aparts, Shelves := m.site.Shelves, Robots := m.site.Robots : ApiSite }), shelf := m.shelf, robot := m.robot, zoned := x41, names := (upd m.names z.Name (m.site.Zones.length : Int)), oneways := m.oneways, shelves := m.shelves, zones := m.zones : SurveyMaker })).2).site.Floor.W), .i (((0, ({ site := ({ Floor := m.site.Floor, Zones := (m.site.Zones ++ ([z] : List ApiZone)), Aparts := m.site.Aparts, Shelves := m.site.Shelves, Robots := m.site.Robots : ApiSite }), shelf := m.shelf, robot := m.robot, zoned := x41, names := (upd m.names z.Name (m.site.Zones.length : Int)), oneways := m.oneways, shelves := m.shelves, zones := m.zones : SurveyMaker })).2).site.Floor.H), .i (((0, ({ site := ({ Floor := m.site.Floor, Zones := (m.site.Zones ++ ([z] : List ApiZone)), Aparts := m.site.Aparts, Shelves := m.site.Shelves, Robots := m.site.Robots : ApiSite }), shelf := m.shelf, robot := m.robot, zoned := x41, names := (upd m.names z.Name (m.site.Zones.length : Int)), oneways := m.oneways, shelves := m.shelves, zones := m.zones : SurveyMaker })).2).site.Floor.D), .sl 1 eI (((0, ({ site := ({ Floor := m.site.Floor, Zones := (m.site.Zones ++ ([z] : List ApiZone)), Aparts := m.site.Aparts, Shelves := m.site.Shelves, Robots := m.site.Robots : ApiSite }), shelf := m.shelf, robot := m.robot, zoned := x41, names := (upd m.names z.Name (m.site.Zones.length : Int)), oneways := m.oneways, shelves := m.shelves, zones := m.zones : SurveyMaker })).2).site.Floor.Kind), .sl 1 eI (((0, ({ site := ({ Floor := m.site.Floor, Zones := (m.site.Zones ++ ([z] : List ApiZone)), Aparts := m.site.Aparts, Shelves := m.site.Shelves, Robots := m.site.Robots : ApiSite }), shelf := m.shelf, robot := m.robot, zoned := x41, names := (upd m.names z.Name (m.site.Zones.length : Int)), oneways := m.oneways, shelves := m.shelves, zones := m.zones : SurveyMaker })).2).site.Floor.Out), .o 12, .o 13, .o 14, .o 15, .o 16, .o 17, .o 18, .o 19, .o 20, .o 21, .o 22]), (12, .val (.os 5 eApiZone (((0, ({ site := ({ Floor := m.site.Floor, Zones := (m.site.Zones ++ ([z] : List ApiZone)), Aparts := m.site.Aparts, Shelves := m.site.Shelves, Robots := m.site.Robots : ApiSite }), shelf := m.shelf, robot := m.robot, zoned := x41, names := (upd m.names z.Name (m.site.Zones.length : Int)), oneways := m.oneways, shelves := m.shelves, zones := m.zones : SurveyMaker })).2).site.Zones))), (13, .val (.os 2 eApiApart (((0, ({ site := ({ Floor := m.site.Floor, Zones := (m.site.Zones ++ ([z] : List ApiZone)), Aparts := m.site.Aparts, Shelves := m.site.Shelves, Robots := m.site.Robots : ApiSite }), shelf := m.shelf, robot := m.robot, zoned := x41, names := (upd m.names z.Name (m.site.Zones.length : Int)), oneways := m.oneways, shelves := m.shelves, zones := m.zones : SurveyMaker })).2).site.Aparts))), (14, .val (.os 2 eApiShelf (((0, ({ site := ({ Floor := m.site.Floor, Zones := (m.site.Zones ++ ([z] : List ApiZone)), Aparts := m.site.Aparts, Shelves := m.site.Shelves, Robots := m.site.Robots : ApiSite }), shelf := m.shelf, robot := m.robot, zoned := x41, names := (upd m.names z.Name (m.site.Zones.length : Int)), oneways := m.oneways, shelves := m.shelves, zones := m.zones : SurveyMaker })).2).site.Shelves))), (15, .val (.os 2 eApiStart (((0, ({ site := ({ Floor := m.site.Floor, Zones := (m.site.Zones ++ ([z] : List ApiZone)), Aparts := m.site.Aparts, Shelves := m.site.Shelves, Robots := m.site.Robots : ApiSite }), shelf := m.shelf, robot := m.robot, zoned := x41, names := (upd m.names z.Name (m.site.Zones.length : Int)), oneways := m.oneways, shelves := m.shelves, zones := m.zones : SurveyMaker })).2).site.Robots))), (16, .val (.om kI veI (((0, ({ site := ({ Floor := m.site.Floor, Zones := (m.site.Zones ++ ([z] : List ApiZone)), Aparts := m.site.Aparts, Shelves := m.site.Shelves, Robots := m.site.Robots : ApiSite }), shelf := m.shelf, robot := m.robot, zoned := x41, names := (upd m.names z.Name (m.site.Zones.length : Int)), oneways := m.oneways, shelves := m.shelves, zones := m.zones : SurveyMaker })).2).shelf))), (17, .val (.om kI veB (((0, ({ site := ({ Floor := m.site.Floor, Zones := (m.site.Zones ++ ([z] : List ApiZone)), Aparts := m.site.Aparts, Shelves := m.site.Shelves, Robots := m.site.Robots : ApiSite }), shelf := m.shelf, robot := m.robot, zoned := x41, names := (upd m.names z.Name (m.site.Zones.length : Int)), oneways := m.oneways, shelves := m.shelves, zones := m.zones : SurveyMaker })).2).robot))), (18, .val (.om kI veB (((0, ({ site := ({ Floor := m.site.Floor, Zones := (m.site.Zones ++ ([z] : List ApiZone)), Aparts := m.site.Aparts, Shelves := m.site.Shelves, Robots := m.site.Robots : ApiSite }), shelf := m.shelf, robot := m.robot, zoned := x41, names := (upd m.names z.Name (m.site.Zones.length : Int)), oneways := m.oneways, shelves := m.shelves, zones := m.zones : SurveyMaker })).2).zoned))), (19, .val (.om kS veI (((0, ({ site := ({ Floor := m.site.Floor, Zones := (m.site.Zones ++ ([z] : List ApiZone)), Aparts := m.site.Aparts, Shelves := m.site.Shelves, Robots := m.site.Robots : ApiSite }), shelf := m.shelf, robot := m.robot, zoned := x41, names := (upd m.names z.Name (m.site.Zones.length : Int)), oneways := m.oneways, shelves := m.shelves, zones := m.zones : SurveyMaker })).2).names))), (20, .val (.om kI veB (((0, ({ site := ({ Floor := m.site.Floor, Zones := (m.site.Zones ++ ([z] : List ApiZone)), Aparts := m.site.Aparts, Shelves := m.site.Shelves, Robots := m.site.Robots : ApiSite }), shelf := m.shelf, robot := m.robot, zoned := x41, names := (upd m.names z.Name (m.site.Zones.length : Int)), oneways := m.oneways, shelves := m.shelves, zones := m.zones : SurveyMaker })).2).oneways))), (21, .val (.os 1 eI (((0, ({ site := ({ Floor := m.site.Floor, Zones := (m.site.Zones ++ ([z] : List ApiZone)), Aparts := m.site.Aparts, Shelves := m.site.Shelves, Robots := m.site.Robots : ApiSite }), shelf := m.shelf, robot := m.robot, zoned := x41, names := (upd m.names z.Name (m.site.Zones.length : Int)), oneways := m.oneways, shelves := m.shelves, zones := m.zones : SurveyMaker })).2).shelves))), (22, .val (.os 1 eI (((0, ({ site := ({ Floor := m.site.Floor, Zones := (m.site.Zones ++ ([z] : List ApiZone)), Aparts := m.site.Aparts, Shelves := m.site.Shelves, Robots := m.site.Robots : ApiSite }), shelf := m.shelf, robot := m.robot, zoned := x41, names := (upd m.names z.Name (m.site.Zones.length : Int)), oneways := m.oneways, shelves := m.shelves, zones := m.zones : SurveyMaker })).2).zones)))]) (nl' := 23) [some 0, some 1, some 2, some 3, some 4, some 5, some 6, some 7, some 8, some 9, some 10, some 11, some 14, some 2, some 3, some 4, some 5, some 6, some 7, some 8, some 9, some 10, some 11] rfl rfl (.eq rfl) ⟨⟨_, rfl, .box rfl (.eq rfl)⟩, ⟨_, rfl, .val rfl⟩, ⟨_, rfl, .val rfl⟩, ⟨_, rfl, .val rfl⟩, ⟨_, rfl, .val rfl⟩, ⟨_, rfl, .val rfl⟩, ⟨_, rfl, .val rfl⟩, ⟨_, rfl, .val rfl⟩, ⟨_, rfl, .val rfl⟩, ⟨_, rfl, .val rfl⟩, ⟨_, rfl, .val rfl⟩, ⟨_, rfl, .val rfl⟩, trivial⟩ rfl rfl rfl rfl hβ ⟨(0, ({ site := ({ Floor := m.site.Floor, Zones := (m.site.Zones ++ ([z] : List ApiZone)), Aparts := m.site.Aparts, Shelves := m.site.Shelves, Robots := m.site.Robots : ApiSite }), shelf := m.shelf, robot := m.robot, zoned := x41, names := (upd m.names z.Name (m.site.Zones.length : Int)), oneways := m.oneways, shelves := m.shelves, zones := m.zones : SurveyMaker })), hm, rfl, rfl, rfl⟩
    ·refine C.block ?_
     refine St.wk (C.loop (fun (s43 : List (Int × Bool) × Int) => [(0, .p 0 0), (3, .p 12 0), (57, .sl 1 eI z.Cells), (58, .i (z.Cells.length : Int)), (59, .i s43.2)]) (fun (s43 : List (Int × Bool) × Int) => [(0, .box [.i m.site.Floor.W, .i m.site.Floor.H, .i m.site.Floor.D, .sl 1 eI m.site.Floor.Kind, .sl 1 eI m.site.Floor.Out, .o 1, .o 2, .o 3, .o 4, .o 5, .o 6, .o 7, .o 8, .o 9, .o 10, .o 11]), (1, .val (.os 5 eApiZone m.site.Zones)), (2, .val (.os 2 eApiApart m.site.Aparts)), (3, .val (.os 2 eApiShelf m.site.Shelves)), (4, .val (.os 2 eApiStart m.site.Robots)), (5, .val (.om kI veI m.shelf)), (6, .val (.om kI veB m.robot)), (7, .val (.om kI veB s43.1)), (8, .val (.om kS veI m.names)), (9, .val (.om kI veB m.oneways)), (10, .val (.os 1 eI m.shelves)), (11, .val (.os 1 eI m.zones)), (12, .box (eApiZone z))]) hm (fun s43 Y44 hm => ?_)) (Wk.mk' [some 0, some 1, some 2, some 3, some 4, some 5, some 6, some 7, some 8, some 9, some 10, some 11, some 12] rfl rfl (.eqs rfl) ⟨⟨_, rfl, .box rfl (.eq rfl)⟩, ⟨_, rfl, .val rfl⟩, ⟨_, rfl, .val rfl⟩, ⟨_, rfl, .val rfl⟩, ⟨_, rfl, .val rfl⟩, ⟨_, rfl, .val rfl⟩, ⟨_, rfl, .val rfl⟩, ⟨_, rfl, .val rfl⟩, ⟨_, rfl, .val rfl⟩, ⟨_, rfl, .val rfl⟩, ⟨_, rfl, .val rfl⟩, ⟨_, rfl, .val rfl⟩, ⟨_, rfl, .box rfl (.eq rfl)⟩, trivial⟩ rfl)
     refine C.seq (U.start ?_)
     refine U.ps 1 T rfl ?_
     refine U.done (C.nx (C.seq ?_))
     refine C.ite rfl hm (fun hb47 hm => ?_) (fun hb47 hm => ?_)
     ·refine C.skip (C.nx (C.seq (C.block (C.seq (U.start ?_)))))
      obtain ⟨x50, hx50, hm⟩ := hm
      refine U.r (o := _) rfl (.none rfl) rfl rfl (by exact Rd.ix T rfl rfl rfl rfl rfl rfl hx50) ?_
      refine U.ps 2 T rfl ?_
      refine U.done (C.nx (U.start ?_))
      refine U.ps 5 T rfl ?_
      refine U.e1 (o := _) rfl (.none rfl) (by exact Eff1.mu T (x := x50) (y := true) (.inl rfl) rfl kt3 (fun _ => rfl) rfl rfl rfl rfl rfl (.inl rfl) rfl) ?_
      refine U.done (C.bnx (C.nx (U.start ?_)))
      refine U.ps 2 T rfl ?_
      refine U.done (C.nx ?_)
      exact St.wk (C.next hm) (Wk.mk' [some 0, some 1, some 2, some 3, some 4, some 5, some 6, some 7, some 8, some 9, some 10, some 11, some 12] rfl rfl (.eqs rfl) ⟨⟨_, rfl, .box rfl (.eq rfl)⟩, ⟨_, rfl, .val rfl⟩, ⟨_, rfl, .val rfl⟩, ⟨_, rfl, .val rfl⟩, ⟨_, rfl, .val rfl⟩, ⟨_, rfl, .val rfl⟩, ⟨_, rfl, .val rfl⟩, ⟨_, rfl, .val rfl⟩, ⟨_, rfl, .val rfl⟩, ⟨_, rfl, .val rfl⟩, ⟨_, rfl, .val rfl⟩, ⟨_, rfl, .val rfl⟩, ⟨_, rfl, .box rfl (.eq rfl)⟩, trivial⟩ rfl)
     ·refine C.exit (C.ex (C.ex (C.bex ?_)))
      exact St.wk (hJ42 _ hm) (Wk.mk' [some 0, some 1, some 2, some 3, some 4, some 5, some 6, some 7, some 8, some 9, some 10, some 11, some 12] rfl rfl (.eqs rfl) ⟨⟨_, rfl, .box rfl (.eq rfl)⟩, ⟨_, rfl, .val rfl⟩, ⟨_, rfl, .val rfl⟩, ⟨_, rfl, .val rfl⟩, ⟨_, rfl, .val rfl⟩, ⟨_, rfl, .val rfl⟩, ⟨_, rfl, .val rfl⟩, ⟨_, rfl, .val rfl⟩, ⟨_, rfl, .val rfl⟩, ⟨_, rfl, .val rfl⟩, ⟨_, rfl, .val rfl⟩, ⟨_, rfl, .val rfl⟩, ⟨_, rfl, .box rfl (.eq rfl)⟩, trivial⟩ rfl)
   ·refine C.block ?_
    refine St.wk (C.loop (fun (s19 : Int) => [(0, .p 0 0), (3, .p 12 0), (32, .sl 1 eI z.Cells), (33, .i (z.Cells.length : Int)), (34, .i s19)]) (fun (s19 : Int) => [(0, .box [.i m.site.Floor.W, .i m.site.Floor.H, .i m.site.Floor.D, .sl 1 eI m.site.Floor.Kind, .sl 1 eI m.site.Floor.Out, .o 1, .o 2, .o 3, .o 4, .o 5, .o 6, .o 7, .o 8, .o 9, .o 10, .o 11]), (1, .val (.os 5 eApiZone m.site.Zones)), (2, .val (.os 2 eApiApart m.site.Aparts)), (3, .val (.os 2 eApiShelf m.site.Shelves)), (4, .val (.os 2 eApiStart m.site.Robots)), (5, .val (.om kI veI m.shelf)), (6, .val (.om kI veB m.robot)), (7, .val (.om kI veB m.zoned)), (8, .val (.om kS veI m.names)), (9, .val (.om kI veB m.oneways)), (10, .val (.os 1 eI m.shelves)), (11, .val (.os 1 eI m.zones)), (12, .box (eApiZone z))]) hm (fun s19 Y20 hm => ?_)) (Wk.mk' [some 0, some 1, some 2, some 3, some 4, some 5, some 6, some 7, some 8, some 9, some 10, some 11, some 12] rfl rfl (.eqs rfl) ⟨⟨_, rfl, .box rfl (.eq rfl)⟩, ⟨_, rfl, .val rfl⟩, ⟨_, rfl, .val rfl⟩, ⟨_, rfl, .val rfl⟩, ⟨_, rfl, .val rfl⟩, ⟨_, rfl, .val rfl⟩, ⟨_, rfl, .val rfl⟩, ⟨_, rfl, .val rfl⟩, ⟨_, rfl, .val rfl⟩, ⟨_, rfl, .val rfl⟩, ⟨_, rfl, .val rfl⟩, ⟨_, rfl, .val rfl⟩, ⟨_, rfl, .box rfl (.eq rfl)⟩, trivial⟩ rfl)
    refine C.seq (U.start ?_)
    refine U.ps 1 T rfl ?_
    refine U.done (C.nx (C.seq ?_))
    refine C.ite rfl hm (fun hb23 hm => ?_) (fun hb23 hm => ?_)
    ·refine C.skip (C.nx (C.seq (C.block (C.seq (U.start ?_)))))
     obtain ⟨x26, hx26, hm⟩ := hm
     refine U.r (o := _) rfl (.none rfl) rfl rfl (by exact Rd.ix T rfl rfl rfl rfl rfl rfl hx26) ?_
     refine U.ps 2 T rfl ?_
     refine U.done (C.nx (C.seq (U.start ?_)))
     refine U.ps 2 T rfl ?_
     refine U.e (o := _) rfl (.none rfl) (by exact Eff.c [] (v := true) (T_survey_maker_kindAt m x26 _ hm) en88 rfl rfl rfl (.cons (.fzp rfl rfl rfl rfl (.cons (.eq rfl) (.cons (.eq rfl) (.cons (.eq rfl) (.cons (.eq rfl) (.cons (.eq rfl) (.cons (.fz rfl rfl rfl (.os fun _ => .cons (.ro rfl) (.cons (.ro rfl) (.cons (.ro rfl) (.cons (.ro rfl) (.cons (.ro rfl) .nil)))))) (.cons (.fz rfl rfl rfl (.os fun _ => .cons (.ro rfl) (.cons (.ro rfl) .nil))) (.cons (.fz rfl rfl rfl (.os fun _ => .cons (.ro rfl) (.cons (.ro rfl) .nil))) (.cons (.fz rfl rfl rfl (.os fun _ => .cons (.ro rfl) (.cons (.ro rfl) .nil))) (.cons (.fz rfl rfl rfl (.om fun _ => .ro rfl)) (.cons (.fz rfl rfl rfl (.om fun _ => .ro rfl)) (.cons (.fz rfl rfl rfl (.om fun _ => .ro rfl)) (.cons (.fz rfl rfl rfl (.om fun _ => .ro rfl)) (.cons (.fz rfl rfl rfl (.om fun _ => .ro rfl)) (.cons (.fz rfl rfl rfl (.os fun _ => .cons (.ro rfl) .nil)) (.cons (.fz rfl rfl rfl (.os fun _ => .cons (.ro rfl) .nil)) .nil)))))))))))))))) rfl) (.eq rfl)) trivial rfl rfl rfl rfl rfl rfl (fun _ _ => ⟨(.tup (.cons (.v _) (.cons (.v _) .nil))), trivial⟩) (.inr ⟨rfl, rfl⟩) (fun _ => rfl) (fun _ => rfl) rfl) (fun x29' hm => ?_)
     obtain ⟨x29⟩ := x29'
     refine U.ps 5 T rfl ?_
     refine U.done (C.nx (C.seq ?_))
     refine C.jn (fun (x30 : Bool) => [(0, .p 0 0), (3, .p 12 0), (32, .sl 1 eI z.Cells), (33, .i (z.Cells.length : Int)), (34, .i s19), (54, .b x30)]) (fun (x30 : Bool) => [(0, .box [.i m.site.Floor.W, .i m.site.Floor.H, .i m.site.Floor.D, .sl 1 eI m.site.Floor.Kind, .sl 1 eI m.site.Floor.Out, .o 1, .o 2, .o 3, .o 4, .o 5, .o 6, .o 7, .o 8, .o 9, .o 10, .o 11]), (1, .val (.os 5 eApiZone m.site.Zones)), (2, .val (.os 2 eApiApart m.site.Aparts)), (3, .val (.os 2 eApiShelf m.site.Shelves)), (4, .val (.os 2 eApiStart m.site.Robots)), (5, .val (.om kI veI m.shelf)), (6, .val (.om kI veB m.robot)), (7, .val (.om kI veB m.zoned)), (8, .val (.om kS veI m.names)), (9, .val (.om kI veB m.oneways)), (10, .val (.os 1 eI m.shelves)), (11, .val (.os 1 eI m.zones)), (12, .box (eApiZone z))]) 13 hm (fun x30 hm => ?_) (fun J31 hm hJ31 => ?_)
     ·refine C.nx ?_
      refine C.ite rfl hm (fun hb34 hm => ?_) (fun hb34 hm => ?_)
      ·refine C.seq (U.start ?_)
       refine U.ps 1 T rfl ?_
       refine U.done (C.nx (C.ret (C.brt (C.rt (C.rt (C.brt (C.rt ?_)))))))
       exact C.fin T (rs' := [.i ((13, m).1)]) (H' := [(0, .box [.i (((13, m).2).site.Floor.W), .i (((13, m).2).site.Floor.H), .i (((13, m).2).site.Floor.D), .sl 1 eI (((13, m).2).site.Floor.Kind), .sl 1 eI (((13, m).2).site.Floor.Out), .o 12, .o 13, .o 14, .o 15, .o 16, .o 17, .o 18, .o 19, .o 20, .o 21, .o 22]), (12, .val (.os 5 eApiZone (((13, m).2).site.Zones))), (13, .val (.os 2 eApiApart (((13, m).2).site.Aparts))), (14, .val (.os 2 eApiShelf (((13, m).2).site.Shelves))), (15, .val (.os 2 eApiStart (((13, m).2).site.Robots))), (16, .val (.om kI veI (((13, m).2).shelf))), (17, .val (.om kI veB (((13, m).2).robot))), (18, .val (.om kI veB (((13, m).2).zoned))), (19, .val (.om kS veI (((13, m).2).names))), (20, .val (.om kI veB (((13, m).2).oneways))), (21, .val (.os 1 eI (((13, m).2).shelves))), (22, .val (.os 1 eI (((13, m).2).zones)))]) (nl' := 23) [some 0, some 1, some 2, some 3, some 4, some 5, some 6, some 7, some 8, some 9, some 10, some 11, some 1, some 2, some 3, some 4, some 5, some 6, some 7, some 8, some 9, some 10, some 11] rfl rfl (.eq rfl) ⟨⟨_, rfl, .box rfl (.eq rfl)⟩, ⟨_, rfl, .val rfl⟩, ⟨_, rfl, .val rfl⟩, ⟨_, rfl, .val rfl⟩, ⟨_, rfl, .val rfl⟩, ⟨_, rfl, .val rfl⟩, ⟨_, rfl, .val rfl⟩, ⟨_, rfl, .val rfl⟩, ⟨_, rfl, .val rfl⟩, ⟨_, rfl, .val rfl⟩, ⟨_, rfl, .val rfl⟩, ⟨_, rfl, .val rfl⟩, trivial⟩ rfl rfl rfl rfl hβ ⟨(13, m), hm, rfl, rfl, rfl⟩
      ·refine C.skip (C.bnx (C.nx (U.start ?_)))
       refine U.ps 2 T rfl ?_
       refine U.done (C.nx ?_)
       exact St.wk (C.next hm) (Wk.mk' [some 0, some 1, some 2, some 3, some 4, some 5, some 6, some 7, some 8, some 9, some 10, some 11, some 12] rfl rfl (.eqs rfl) ⟨⟨_, rfl, .box rfl (.eq rfl)⟩, ⟨_, rfl, .val rfl⟩, ⟨_, rfl, .val rfl⟩, ⟨_, rfl, .val rfl⟩, ⟨_, rfl, .val rfl⟩, ⟨_, rfl, .val rfl⟩, ⟨_, rfl, .val rfl⟩, ⟨_, rfl, .val rfl⟩, ⟨_, rfl, .val rfl⟩, ⟨_, rfl, .val rfl⟩, ⟨_, rfl, .val rfl⟩, ⟨_, rfl, .val rfl⟩, ⟨_, rfl, .box rfl (.eq rfl)⟩, trivial⟩ rfl)
     ·refine U.start ?_
      refine U.ps 1 T rfl ?_
      refine U.e (o := _) rfl (.none rfl) (by exact Eff.c [] (v := true) (T_survey_zoned x29.1 _ hm) en89 rfl rfl rfl (.eq rfl) trivial rfl rfl rfl rfl rfl rfl (fun _ _ => ⟨(.v _), trivial⟩) (.inr ⟨rfl, rfl⟩) (fun _ => rfl) (fun _ => rfl) rfl) (fun x32' hm => ?_)
      obtain ⟨x32⟩ := x32'
      refine U.ps 2 T rfl ?_
      refine hm.cs (fun hb33 hm => ?_) (fun hb33 hm => ?_)
      ·refine U.pg 5 3 false 47 (ntF hb33) T rfl rfl rfl rfl ?_
       refine U.r (o := _) rfl (.take 3 false 47 _ (ntF hb33) rfl rfl rfl) rfl rfl (by exact Rd.lk T (ke := kI) (ve := veB) (xs := m.zoned) (z0 := false) (x := x26) rfl rfl kt3 zt4 (fun _ => rfl) rfl (.o rfl) rfl rfl rfl) ?_
       refine U.r (o := _) rfl (.none rfl) rfl rfl (by exact Rd.pk' rfl rfl (ntF hb33) rfl) ?_
       refine U.done ?_
       exact St.wk (hJ31 _ hm) (Wk.mk' [some 0, some 1, some 2, some 3, some 4, some 5, some 6, some 7, some 8, some 9, some 10, some 11, some 12] rfl rfl (.eqs rfl) ⟨⟨_, rfl, .box rfl (.eq rfl)⟩, ⟨_, rfl, .val rfl⟩, ⟨_, rfl, .val rfl⟩, ⟨_, rfl, .val rfl⟩, ⟨_, rfl, .val rfl⟩, ⟨_, rfl, .val rfl⟩, ⟨_, rfl, .val rfl⟩, ⟨_, rfl, .val rfl⟩, ⟨_, rfl, .val rfl⟩, ⟨_, rfl, .val rfl⟩, ⟨_, rfl, .val rfl⟩, ⟨_, rfl, .val rfl⟩, ⟨_, rfl, .box rfl (.eq rfl)⟩, trivial⟩ rfl)
      ·refine U.sks 6 3 false 47 (ntT hb33) rfl rfl rfl ?_
       refine U.r (o := _) rfl (.none rfl) rfl rfl (by exact Rd.pk rfl rfl (ntT hb33) rfl) ?_
       refine U.done ?_
       exact St.wk (hJ31 _ hm) (Wk.mk' [some 0, some 1, some 2, some 3, some 4, some 5, some 6, some 7, some 8, some 9, some 10, some 11, some 12] rfl rfl (.eqs rfl) ⟨⟨_, rfl, .box rfl (.eq rfl)⟩, ⟨_, rfl, .val rfl⟩, ⟨_, rfl, .val rfl⟩, ⟨_, rfl, .val rfl⟩, ⟨_, rfl, .val rfl⟩, ⟨_, rfl, .val rfl⟩, ⟨_, rfl, .val rfl⟩, ⟨_, rfl, .val rfl⟩, ⟨_, rfl, .val rfl⟩, ⟨_, rfl, .val rfl⟩, ⟨_, rfl, .val rfl⟩, ⟨_, rfl, .val rfl⟩, ⟨_, rfl, .box rfl (.eq rfl)⟩, trivial⟩ rfl)
    ·refine C.exit (C.ex (C.ex (C.bex ?_)))
     exact St.wk (hJ18 _ hm) (Wk.mk' [some 0, some 1, some 2, some 3, some 4, some 5, some 6, some 7, some 8, some 9, some 10, some 11, some 12] rfl rfl (.eqs rfl) ⟨⟨_, rfl, .box rfl (.eq rfl)⟩, ⟨_, rfl, .val rfl⟩, ⟨_, rfl, .val rfl⟩, ⟨_, rfl, .val rfl⟩, ⟨_, rfl, .val rfl⟩, ⟨_, rfl, .val rfl⟩, ⟨_, rfl, .val rfl⟩, ⟨_, rfl, .val rfl⟩, ⟨_, rfl, .val rfl⟩, ⟨_, rfl, .val rfl⟩, ⟨_, rfl, .val rfl⟩, ⟨_, rfl, .val rfl⟩, ⟨_, rfl, .box rfl (.eq rfl)⟩, trivial⟩ rfl)
theorem T_slices_Index_api_Apart_api_Apart (s_1 : List ApiApart) (v : ApiApart) (post : Int → Prop) (hm : V_slices_Index_api_Apart_api_Apart s_1 v post) :
    Tr Try.prog 102 [.sl 2 eApiApart s_1, .agg [.v (.string v.A), .v (.string v.B)]] [] 0 (fun A H' k => ∃ y, post y ∧ A = (.i y) ∧ H' = [] ∧ k = 0) := by
 refine Tr.intro (n := 19) Try.func102 rfl Try.ntmps102 rfl (fun w0 ok F β hβ => ?_)
 unfold V_slices_Index_api_Apart_api_Apart at hm
 refine C.seq (U.start ?_)
 refine U.e1 (o := _) rfl (.none rfl) (by exact Eff1.box rfl rfl rfl rfl rfl) ?_
 refine U.ps 1 T rfl ?_
 refine U.done (C.nx (C.seq (C.seq (U.start ?_))))
 refine U.ps 3 T rfl ?_
 refine U.done (C.nx ?_)
 refine C.jn (fun (x5 : Unit) => []) (fun (x5 : Unit) => []) 0 hm (fun x5 hm => ?_) (fun J6 hm hJ6 => ?_)
 ·refine C.nx (C.seq (U.start ?_))
  refine U.ps 1 T rfl ?_
  refine U.done (C.nx (C.ret ?_))
  exact C.fin T (rs' := [.i (-1)]) (H' := []) (nl' := 0) [] rfl rfl (.eq rfl) trivial rfl rfl rfl rfl hβ ⟨(-1), hm, rfl, rfl, rfl⟩
 ·refine C.block ?_
  refine St.wk (C.loop (fun (s7 : Int) => [(0, .sl 2 eApiApart s_1), (3, .p 0 0), (7, .i (s_1.length : Int)), (8, .i s7)]) (fun (s7 : Int) => [(0, .box [.v (.string v.A), .v (.string v.B)])]) hm (fun s7 Y8 hm => ?_)) (Wk.mk' [some 0] rfl rfl (.eqs rfl) ⟨⟨_, rfl, .box rfl (.eq rfl)⟩, trivial⟩ rfl)
  refine C.seq (U.start ?_)
  refine U.ps 1 T rfl ?_
  refine U.done (C.nx (C.seq ?_))
  refine C.ite rfl hm (fun hb11 hm => ?_) (fun hb11 hm => ?_)
  ·refine C.skip (C.nx (C.seq (C.block (C.seq (U.start ?_)))))
   refine U.ps 2 T rfl ?_
   refine U.done (C.nx (C.seq ?_))
   refine D.beg 9999 [0] [] mix rfl rfl (by kernel_rfl) (by repeat (first | exact NoPanicQ.body | exact NoPanicQ.rnd | refine NoPanicQ.th ?_ | refine NoPanicQ.blk ?_)) (fun hQ hS ws M' => ?_)
   refine D.ps 3 [(0, []), (1, []), (2, [])] rfl hQ hS T rfl rfl (by kernel_rfl) ?_
   obtain ⟨x16, hx16, hm⟩ := hm
   refine D.q (o := _) 3 [] hQ hS rfl (.none rfl) rfl rfl (by exact Rd.ix T rfl rfl rfl rfl rfl rfl hx16) rfl (by kernel_rfl) ?_
   refine D.ps 1 [(4, [])] rfl hQ hS T rfl rfl (by kernel_rfl) ?_
   refine D.q (o := _) 5 [] hQ hS rfl (.none rfl) rfl rfl (by exact Rd.eqs T rfl rfl eqt73 rfl rfl rfl) rfl (by kernel_rfl) ?_
   refine D.done (by kernel_rfl) ?_
   refine C.nx ?_
   refine C.ite rfl hm (fun hb17 hm => ?_) (fun hb17 hm => ?_)
   ·refine C.seq (U.start ?_)
    refine U.ps 2 T rfl ?_
    refine U.done (C.nx (C.ret (C.brt (C.rt (C.rt (C.brt (C.rt ?_)))))))
    exact C.fin T (rs' := [.i s7]) (H' := []) (nl' := 0) [] rfl rfl (.eq rfl) trivial rfl rfl rfl rfl hβ ⟨s7, hm, rfl, rfl, rfl⟩
   ·refine C.skip (C.bnx (C.nx (U.start ?_)))
    refine U.ps 2 T rfl ?_
    refine U.done (C.nx ?_)
    exact St.wk (C.next hm) (Wk.mk' [some 0] rfl rfl (.eqs rfl) ⟨⟨_, rfl, .box rfl (.eq rfl)⟩, trivial⟩ rfl)
  ·refine C.exit (C.ex (C.ex (C.bex ?_)))
   exact St.wk (hJ6 _ hm) (Wk.mk' [] rfl rfl trivial trivial rfl)
theorem T_slices_Contains_api_Apart_api_Apart (s_1 : List ApiApart) (v : ApiApart) (post : Bool → Prop) (hm : V_slices_Contains_api_Apart_api_Apart s_1 v post) :
    Tr Try.prog 99 [.sl 2 eApiApart s_1, .agg [.v (.string v.A), .v (.string v.B)]] [] 0 (fun A H' k => ∃ y, post y ∧ A = (.b y) ∧ H' = [] ∧ k = 0) := by
 refine Tr.intro (n := 9) Try.func99 rfl Try.ntmps99 rfl (fun w0 ok F β hβ => ?_)
 unfold V_slices_Contains_api_Apart_api_Apart at hm
 refine C.seq (U.start ?_)
 refine U.e1 (o := _) rfl (.none rfl) (by exact Eff1.box rfl rfl rfl rfl rfl) ?_
 refine U.ps 1 T rfl ?_
 refine U.done (C.nx (C.seq (U.start ?_)))
 refine U.ps 2 T rfl ?_
 refine U.e (o := _) rfl (.none rfl) (by exact Eff.c [] (v := true) (T_slices_Index_api_Apart_api_Apart s_1 v _ hm) en102 rfl rfl rfl (.eq rfl) trivial rfl rfl rfl rfl rfl rfl (fun _ _ => ⟨(.v _), trivial⟩) (.inr ⟨rfl, rfl⟩) (fun _ => rfl) (fun _ => rfl) rfl) (fun x5' hm => ?_)
 obtain ⟨x5⟩ := x5'
 refine U.ps 2 T rfl ?_
 refine U.done (C.nx (C.ret ?_))
 exact C.fin T (rs' := [.b (decide (x5 ≥ 0))]) (H' := []) (nl' := 0) [] rfl rfl (.eq rfl) trivial rfl rfl rfl rfl hβ ⟨decide (x5 ≥ 0), hm, rfl, rfl, rfl⟩
theorem T_survey_Apart (l : List ApiApart) (a : ByteArray) (b : ByteArray) (post : Bool → Prop) (hm : V_survey_Apart l a b post) :
    Tr Try.prog 90 [.sl 2 eApiApart l, .v (.string a), .v (.string b)] [] 0 (fun A H' k => ∃ y, post y ∧ A = (.b y) ∧ H' = [] ∧ k = 0) := by
 refine Tr.intro (n := 25) Try.func90 rfl Try.ntmps90 rfl (fun w0 ok F β hβ => ?_)
 unfold V_survey_Apart at hm
 refine C.seq (U.start ?_)
 refine U.ps 1 T rfl ?_
 refine U.done (C.nx (C.seq (C.seq ?_)))
 refine C.jn (fun (x3 : Bool) => [(0, .sl 2 eApiApart l), (1, .v (.string a)), (2, .v (.string b)), (12, .b x3)]) (fun (x3 : Bool) => []) 0 hm (fun x3 hm => ?_) (fun J4 hm hJ4 => ?_)
 ·refine C.nx ?_
  refine C.ite rfl hm (fun hb6 hm => ?_) (fun hb6 hm => ?_)
  ·refine C.seq (U.start ?_)
   refine U.ps 1 T rfl ?_
   refine U.done (C.nx (C.ret (C.rt ?_)))
   exact C.fin T (rs' := [.b false]) (H' := []) (nl' := 0) [] rfl rfl (.eq rfl) trivial rfl rfl rfl rfl hβ ⟨false, hm, rfl, rfl, rfl⟩
  ·refine C.skip (C.nx (C.seq ?_))
   refine C.jn (fun (x9 : Bool) => [(6, .b x9)]) (fun (x9 : Bool) => []) 0 hm (fun x9 hm => ?_) (fun J10 hm hJ10 => ?_)
   ·refine C.nx (C.ret ?_)
    exact C.fin T (rs' := [.b x9]) (H' := []) (nl' := 0) [] rfl rfl (.eq rfl) trivial rfl rfl rfl rfl hβ ⟨x9, hm, rfl, rfl, rfl⟩
   ·refine U.start ?_
    refine U.ps 4 T rfl ?_
    refine U.e (o := _) rfl (.none rfl) (by exact Eff.c [] (v := true) (T_slices_Contains_api_Apart_api_Apart l ({ A := a, B := b : ApiApart }) _ hm) en99 rfl rfl rfl (.eq rfl) trivial rfl rfl rfl rfl rfl rfl (fun _ _ => ⟨(.v _), trivial⟩) (.inr ⟨rfl, rfl⟩) (fun _ => rfl) (fun _ => rfl) rfl) (fun x11' hm => ?_)
    obtain ⟨x11⟩ := x11'
    refine U.ps 1 T rfl ?_
    refine hm.cs (fun hb12 hm => ?_) (fun hb12 hm => ?_)
    ·refine U.sks 5 5 false 18 hb12 rfl rfl rfl ?_
     refine U.r (o := _) rfl (.none rfl) rfl rfl (by exact Rd.pk rfl rfl hb12 rfl) ?_
     refine U.ps 1 T rfl ?_
     refine U.done ?_
     exact St.wk (hJ10 _ hm) (Wk.mk' [] rfl rfl (.eqs rfl) trivial rfl)
    ·refine U.pg 4 5 false 18 hb12 T rfl rfl rfl rfl ?_
     refine U.e (o := _) rfl (.take 5 false 18 _ hb12 rfl rfl rfl) (by exact Eff.c [] (v := true) (T_slices_Contains_api_Apart_api_Apart l ({ A := b, B := a : ApiApart }) _ hm) en99 rfl rfl rfl (.eq rfl) trivial rfl rfl rfl rfl rfl rfl (fun _ _ => ⟨(.v _), trivial⟩) (.inr ⟨rfl, rfl⟩) (fun _ => rfl) (fun _ => rfl) rfl) (fun x13' hm => ?_)
     obtain ⟨x13⟩ := x13'
     refine U.r (o := _) rfl (.none rfl) rfl rfl (by exact Rd.pk' rfl rfl hb12 rfl) ?_
     refine U.ps 1 T rfl ?_
     refine U.done ?_
     exact St.wk (hJ10 _ hm) (Wk.mk' [] rfl rfl (.eqs rfl) trivial rfl)
 ·refine U.start ?_
  refine U.ps 3 T rfl ?_
  refine hm.cs (fun hb5 hm => ?_) (fun hb5 hm => ?_)
  ·refine U.sks 2 2 false 9 hb5 rfl rfl rfl ?_
   refine U.r (o := _) rfl (.none rfl) rfl rfl (by exact Rd.pk rfl rfl hb5 rfl) ?_
   refine U.done ?_
   exact St.wk (hJ4 _ hm) (Wk.mk' [] rfl rfl (.eqs rfl) trivial rfl)
  ·refine U.pg 2 2 false 9 hb5 T rfl rfl rfl rfl ?_
   refine U.r (o := _) rfl (.none rfl) rfl rfl (by exact Rd.pk' rfl rfl hb5 rfl) ?_
   refine U.done ?_
   exact St.wk (hJ4 _ hm) (Wk.mk' [] rfl rfl (.eqs rfl) trivial rfl)
theorem T_survey_maker_addApart__p0 (x_1 : ApiApart) (m : SurveyMaker) (post : (Int × SurveyMaker) → Prop) (hm : V_survey_maker_addApart__p0 x_1 m post) :
    Tr Try.prog 68 [.p 0 0, .agg [.v (.string x_1.A), .v (.string x_1.B)]] [(0, .box [.i m.site.Floor.W, .i m.site.Floor.H, .i m.site.Floor.D, .sl 1 eI m.site.Floor.Kind, .sl 1 eI m.site.Floor.Out, .o 1, .o 2, .o 3, .o 4, .o 5, .o 6, .o 7, .o 8, .o 9, .o 10, .o 11]), (1, .val (.os 5 eApiZone m.site.Zones)), (2, .val (.os 2 eApiApart m.site.Aparts)), (3, .val (.os 2 eApiShelf m.site.Shelves)), (4, .val (.os 2 eApiStart m.site.Robots)), (5, .val (.om kI veI m.shelf)), (6, .val (.om kI veB m.robot)), (7, .val (.om kI veB m.zoned)), (8, .val (.om kS veI m.names)), (9, .val (.om kI veB m.oneways)), (10, .val (.os 1 eI m.shelves)), (11, .val (.os 1 eI m.zones))] 12 (fun A H' k => ∃ y, post y ∧ A = (.i y.1) ∧ H' = [(0, .box [.i y.2.site.Floor.W, .i y.2.site.Floor.H, .i y.2.site.Floor.D, .sl 1 eI y.2.site.Floor.Kind, .sl 1 eI y.2.site.Floor.Out, .o 12, .o 13, .o 14, .o 15, .o 16, .o 17, .o 18, .o 19, .o 20, .o 21, .o 22]), (12, .val (.os 5 eApiZone y.2.site.Zones)), (13, .val (.os 2 eApiApart y.2.site.Aparts)), (14, .val (.os 2 eApiShelf y.2.site.Shelves)), (15, .val (.os 2 eApiStart y.2.site.Robots)), (16, .val (.om kI veI y.2.shelf)), (17, .val (.om kI veB y.2.robot)), (18, .val (.om kI veB y.2.zoned)), (19, .val (.om kS veI y.2.names)), (20, .val (.om kI veB y.2.oneways)), (21, .val (.os 1 eI y.2.shelves)), (22, .val (.os 1 eI y.2.zones))] ∧ k = 23) := by
 refine Tr.intro (n := 37) Try.func68 rfl Try.ntmps68 rfl (fun w0 ok F β hβ => ?_)
 unfold V_survey_maker_addApart__p0 at hm
 refine C.seq (U.start ?_)
 refine U.e1 (o := _) rfl (.none rfl) (by exact Eff1.box rfl rfl rfl rfl rfl) ?_
 refine U.ps 1 T rfl ?_
 refine U.done (C.nx (C.seq (C.seq ?_)))
 refine C.jn (fun (x3 : Bool) => [(0, .p 0 0), (3, .p 12 0), (14, .b x3)]) (fun (x3 : Bool) => [(0, .box [.i m.site.Floor.W, .i m.site.Floor.H, .i m.site.Floor.D, .sl 1 eI m.site.Floor.Kind, .sl 1 eI m.site.Floor.Out, .o 1, .o 2, .o 3, .o 4, .o 5, .o 6, .o 7, .o 8, .o 9, .o 10, .o 11]), (1, .val (.os 5 eApiZone m.site.Zones)), (2, .val (.os 2 eApiApart m.site.Aparts)), (3, .val (.os 2 eApiShelf m.site.Shelves)), (4, .val (.os 2 eApiStart m.site.Robots)), (5, .val (.om kI veI m.shelf)), (6, .val (.om kI veB m.robot)), (7, .val (.om kI veB m.zoned)), (8, .val (.om kS veI m.names)), (9, .val (.om kI veB m.oneways)), (10, .val (.os 1 eI m.shelves)), (11, .val (.os 1 eI m.zones)), (12, .box [.v (.string x_1.A), .v (.string x_1.B)])]) 13 hm (fun x3 hm => ?_) (fun J4 hm hJ4 => ?_)
 ·refine C.nx ?_
  refine C.ite rfl hm (fun hb8 hm => ?_) (fun hb8 hm => ?_)
  ·refine C.seq (U.start ?_)
   refine U.ps 1 T rfl ?_
   refine U.done (C.nx (C.ret (C.rt ?_)))
   exact C.fin T (rs' := [.i ((12, m).1)]) (H' := [(0, .box [.i (((12, m).2).site.Floor.W), .i (((12, m).2).site.Floor.H), .i (((12, m).2).site.Floor.D), .sl 1 eI (((12, m).2).site.Floor.Kind), .sl 1 eI (((12, m).2).site.Floor.Out), .o 12, .o 13, .o 14, .o 15, .o 16, .o 17, .o 18, .o 19, .o 20, .o 21, .o 22]), (12, .val (.os 5 eApiZone (((12, m).2).site.Zones))), (13, .val (.os 2 eApiApart (((12, m).2).site.Aparts))), (14, .val (.os 2 eApiShelf (((12, m).2).site.Shelves))), (15, .val (.os 2 eApiStart (((12, m).2).site.Robots))), (16, .val (.om kI veI (((12, m).2).shelf))), (17, .val (.om kI veB (((12, m).2).robot))), (18, .val (.om kI veB (((12, m).2).zoned))), (19, .val (.om kS veI (((12, m).2).names))), (20, .val (.om kI veB (((12, m).2).oneways))), (21, .val (.os 1 eI (((12, m).2).shelves))), (22, .val (.os 1 eI (((12, m).2).zones)))]) (nl' := 23) [some 0, some 1, some 2, some 3, some 4, some 5, some 6, some 7, some 8, some 9, some 10, some 11, some 1, some 2, some 3, some 4, some 5, some 6, some 7, some 8, some 9, some 10, some 11] rfl rfl (.eq rfl) ⟨⟨_, rfl, .box rfl (.eq rfl)⟩, ⟨_, rfl, .val rfl⟩, ⟨_, rfl, .val rfl⟩, ⟨_, rfl, .val rfl⟩, ⟨_, rfl, .val rfl⟩, ⟨_, rfl, .val rfl⟩, ⟨_, rfl, .val rfl⟩, ⟨_, rfl, .val rfl⟩, ⟨_, rfl, .val rfl⟩, ⟨_, rfl, .val rfl⟩, ⟨_, rfl, .val rfl⟩, ⟨_, rfl, .val rfl⟩, trivial⟩ rfl rfl rfl rfl hβ ⟨(12, m), hm, rfl, rfl, rfl⟩
  ·refine C.skip (C.nx (C.seq (C.seq ?_)))
   refine D.beg 9 [0, 12] [] mix rfl rfl (by kernel_rfl) (by repeat (first | exact NoPanicQ.body | exact NoPanicQ.rnd | refine NoPanicQ.th ?_ | refine NoPanicQ.blk ?_)) (fun hQ hS ws M' => ?_)
   refine D.ps 9 [(0, [4, 3, 2, 1]), (1, [4, 3, 2]), (2, [4, 3]), (3, [4]), (4, []), (5, [6]), (6, []), (7, [8]), (8, [])] rfl hQ hS T rfl rfl (by kernel_rfl) ?_
   refine D.ze (o := _) rfl (.none rfl) (by exact Eff.c [] (v := true) (T_survey_Apart m.site.Aparts x_1.A x_1.B _ hm) en90 rfl rfl rfl (.cons (.fz rfl rfl rfl (.os fun _ => .cons (.ro rfl) (.cons (.ro rfl) .nil))) (.eq rfl)) trivial rfl rfl rfl rfl rfl rfl (fun _ _ => ⟨(.v _), trivial⟩) (.inr ⟨rfl, rfl⟩) (fun _ => rfl) (fun _ => rfl) rfl) (by kernel_rfl) (by kernel_rfl) (fun x13' hm => ?_)
   obtain ⟨x13⟩ := x13'
   refine C.nx ?_
   refine C.ite rfl hm (fun hb14 hm => ?_) (fun hb14 hm => ?_)
   ·refine C.seq (U.start ?_)
    refine U.ps 1 T rfl ?_
    refine U.done (C.nx (C.ret (C.rt ?_)))
    exact C.fin T (rs' := [.i ((5, m).1)]) (H' := [(0, .box [.i (((5, m).2).site.Floor.W), .i (((5, m).2).site.Floor.H), .i (((5, m).2).site.Floor.D), .sl 1 eI (((5, m).2).site.Floor.Kind), .sl 1 eI (((5, m).2).site.Floor.Out), .o 12, .o 13, .o 14, .o 15, .o 16, .o 17, .o 18, .o 19, .o 20, .o 21, .o 22]), (12, .val (.os 5 eApiZone (((5, m).2).site.Zones))), (13, .val (.os 2 eApiApart (((5, m).2).site.Aparts))), (14, .val (.os 2 eApiShelf (((5, m).2).site.Shelves))), (15, .val (.os 2 eApiStart (((5, m).2).site.Robots))), (16, .val (.om kI veI (((5, m).2).shelf))), (17, .val (.om kI veB (((5, m).2).robot))), (18, .val (.om kI veB (((5, m).2).zoned))), (19, .val (.om kS veI (((5, m).2).names))), (20, .val (.om kI veB (((5, m).2).oneways))), (21, .val (.os 1 eI (((5, m).2).shelves))), (22, .val (.os 1 eI (((5, m).2).zones)))]) (nl' := 23) [some 0, some 1, some 2, some 3, some 4, some 5, some 6, some 7, some 8, some 9, some 10, some 11, some 1, some 2, some 3, some 4, some 5, some 6, some 7, some 8, some 9, some 10, some 11] rfl rfl (.eq rfl) ⟨⟨_, rfl, .box rfl (.eq rfl)⟩, ⟨_, rfl, .val rfl⟩, ⟨_, rfl, .val rfl⟩, ⟨_, rfl, .val rfl⟩, ⟨_, rfl, .val rfl⟩, ⟨_, rfl, .val rfl⟩, ⟨_, rfl, .val rfl⟩, ⟨_, rfl, .val rfl⟩, ⟨_, rfl, .val rfl⟩, ⟨_, rfl, .val rfl⟩, ⟨_, rfl, .val rfl⟩, ⟨_, rfl, .val rfl⟩, trivial⟩ rfl rfl rfl rfl hβ ⟨(5, m), hm, rfl, rfl, rfl⟩
   ·refine C.skip (C.nx (C.seq ?_))
    refine D.beg 12 [0, 12] [2] mix rfl rfl (by kernel_rfl) (by repeat (first | exact NoPanicQ.body | exact NoPanicQ.rnd | refine NoPanicQ.th ?_ | refine NoPanicQ.blk ?_)) (fun hQ hS ws M' => ?_)
    refine D.ps 7 [(0, []), (1, []), (2, []), (3, []), (4, []), (5, []), (6, [])] rfl hQ hS T rfl rfl (by kernel_rfl) ?_
    refine D.e1 (o := _) 7 rfl (.none rfl) (by exact Eff1.bs T (enc := eApiApart) (xs := ([x_1] : List ApiApart)) rfl rfl rfl rfl rfl rfl rfl rfl rfl rfl (fun _ _ => rfl) rfl rfl) (by kernel_rfl) rfl rfl ?_
    obtain ⟨hx19, hm⟩ := hm
    refine D.e1 (o := _) 8 rfl (.none rfl) (by exact Eff1.ap T rfl rfl rfl rfl rfl rfl (.inr ⟨_, rfl, rfl⟩) rfl rfl rfl (fun _ => rfl) rfl hx19) (by kernel_rfl) rfl rfl ?_
    refine D.ps 3 [(9, [11, 10]), (10, [11]), (11, [])] rfl hQ hS T rfl rfl (by kernel_rfl) ?_
    refine D.ze1 (o := _) rfl (.none rfl) (by exact Eff1.st T rfl rfl rfl rfl rfl rfl rfl rfl rfl rfl) (by kernel_rfl) (by kernel_rfl) ?_
    refine C.nx (C.seq (U.start ?_))
    refine U.ps 1 T rfl ?_
    refine U.done (C.nx (C.ret ?_))
    exact C.fin T (rs' := [.i ((0, ({ site := ({ Floor := m.site.Floor, Zones := m.site.Zones, Aparts := (m.site.Aparts ++ ([x_1] : List ApiApart)), Shelves := m.site.Shelves, Robots := m.site.Robots : ApiSite }), shelf := m.shelf, robot := m.robot, zoned := m.zoned, names := m.names, oneways := m.oneways, shelves := m.shelves, zones := m.zones : SurveyMaker })).1)]) (H' := [(0, .box [.i (((0, ({ site := ({ Floor := m.site.Floor, Zones := m.site.Zones, Aparts := (m.site.Aparts ++ ([x_1] : List ApiApart)), Shelves := m.site.Shelves, Robots := m.site.Robots : ApiSite }), shelf := m.shelf, robot := m.robot, zoned := m.zoned, names := m.names, oneways := m.oneways, shelves := m.shelves, zones := m.zones : SurveyMaker })).2).site.Floor.W), .i (((0, ({ site := ({ Floor := m.site.Floor, Zones := m.site.Zones, Aparts := (m.site.Aparts ++ ([x_1] : List ApiApart)), Shelves := m.site.Shelves, Robots := m.site.Robots : ApiSite }), shelf := m.shelf, robot := m.robot, zoned := m.zoned, names := m.names, oneways := m.oneways, shelves := m.shelves, zones := m.zones : SurveyMaker })).2).site.Floor.H), .i (((0, ({ site := ({ Floor := m.site.Floor, Zones := m.site.Zones, Aparts := (m.site.Aparts ++ ([x_1] : List ApiApart)), Shelves := m.site.Shelves, Robots := m.site.Robots : ApiSite }), shelf := m.shelf, robot := m.robot, zoned := m.zoned, names := m.names, oneways := m.oneways, shelves := m.shelves, zones := m.zones : SurveyMaker })).2).site.Floor.D), .sl 1 eI (((0, ({ site := ({ Floor := m.site.Floor, Zones := m.site.Zones, Aparts := (m.site.Aparts ++ ([x_1] : List ApiApart)), Shelves := m.site.Shelves, Robots := m.site.Robots : ApiSite }), shelf := m.shelf, robot := m.robot, zoned := m.zoned, names := m.names, oneways := m.oneways, shelves := m.shelves, zones := m.zones : SurveyMaker })).2).site.Floor.Kind), .sl 1 eI (((0, ({ site := ({ Floor := m.site.Floor, Zones := m.site.Zones, Aparts := (m.site.Aparts ++ ([x_1] : List ApiApart)), Shelves := m.site.Shelves, Robots := m.site.Robots : ApiSite }), shelf := m.shelf, robot := m.robot, zoned := m.zoned, names := m.names, oneways := m.oneways, shelves := m.shelves, zones := m.zones : SurveyMaker })).2).site.Floor.Out), .o 12, .o 13, .o 14, .o 15, .o 16, .o 17, .o 18, .o 19, .o 20, .o 21, .o 22]), (12, .val (.os 5 eApiZone (((0, ({ site := ({ Floor := m.site.Floor, Zones := m.site.Zones, Aparts := (m.site.Aparts ++ ([x_1] : List ApiApart)), Shelves := m.site.Shelves, Robots := m.site.Robots : ApiSite }), shelf := m.shelf, robot := m.robot, zoned := m.zoned, names := m.names, oneways := m.oneways, shelves := m.shelves, zones := m.zones : SurveyMaker })).2).site.Zones))), (13, .val (.os 2 eApiApart (((0, ({ site := ({ Floor := m.site.Floor, Zones := m.site.Zones, Aparts := (m.site.Aparts ++ ([x_1] : List ApiApart)), Shelves := m.site.Shelves, Robots := m.site.Robots : ApiSite }), shelf := m.shelf, robot := m.robot, zoned := m.zoned, names := m.names, oneways := m.oneways, shelves := m.shelves, zones := m.zones : SurveyMaker })).2).site.Aparts))), (14, .val (.os 2 eApiShelf (((0, ({ site := ({ Floor := m.site.Floor, Zones := m.site.Zones, Aparts := (m.site.Aparts ++ ([x_1] : List ApiApart)), Shelves := m.site.Shelves, Robots := m.site.Robots : ApiSite }), shelf := m.shelf, robot := m.robot, zoned := m.zoned, names := m.names, oneways := m.oneways, shelves := m.shelves, zones := m.zones : SurveyMaker })).2).site.Shelves))), (15, .val (.os 2 eApiStart (((0, ({ site := ({ Floor := m.site.Floor, Zones := m.site.Zones, Aparts := (m.site.Aparts ++ ([x_1] : List ApiApart)), Shelves := m.site.Shelves, Robots := m.site.Robots : ApiSite }), shelf := m.shelf, robot := m.robot, zoned := m.zoned, names := m.names, oneways := m.oneways, shelves := m.shelves, zones := m.zones : SurveyMaker })).2).site.Robots))), (16, .val (.om kI veI (((0, ({ site := ({ Floor := m.site.Floor, Zones := m.site.Zones, Aparts := (m.site.Aparts ++ ([x_1] : List ApiApart)), Shelves := m.site.Shelves, Robots := m.site.Robots : ApiSite }), shelf := m.shelf, robot := m.robot, zoned := m.zoned, names := m.names, oneways := m.oneways, shelves := m.shelves, zones := m.zones : SurveyMaker })).2).shelf))), (17, .val (.om kI veB (((0, ({ site := ({ Floor := m.site.Floor, Zones := m.site.Zones, Aparts := (m.site.Aparts ++ ([x_1] : List ApiApart)), Shelves := m.site.Shelves, Robots := m.site.Robots : ApiSite }), shelf := m.shelf, robot := m.robot, zoned := m.zoned, names := m.names, oneways := m.oneways, shelves := m.shelves, zones := m.zones : SurveyMaker })).2).robot))), (18, .val (.om kI veB (((0, ({ site := ({ Floor := m.site.Floor, Zones := m.site.Zones, Aparts := (m.site.Aparts ++ ([x_1] : List ApiApart)), Shelves := m.site.Shelves, Robots := m.site.Robots : ApiSite }), shelf := m.shelf, robot := m.robot, zoned := m.zoned, names := m.names, oneways := m.oneways, shelves := m.shelves, zones := m.zones : SurveyMaker })).2).zoned))), (19, .val (.om kS veI (((0, ({ site := ({ Floor := m.site.Floor, Zones := m.site.Zones, Aparts := (m.site.Aparts ++ ([x_1] : List ApiApart)), Shelves := m.site.Shelves, Robots := m.site.Robots : ApiSite }), shelf := m.shelf, robot := m.robot, zoned := m.zoned, names := m.names, oneways := m.oneways, shelves := m.shelves, zones := m.zones : SurveyMaker })).2).names))), (20, .val (.om kI veB (((0, ({ site := ({ Floor := m.site.Floor, Zones := m.site.Zones, Aparts := (m.site.Aparts ++ ([x_1] : List ApiApart)), Shelves := m.site.Shelves, Robots := m.site.Robots : ApiSite }), shelf := m.shelf, robot := m.robot, zoned := m.zoned, names := m.names, oneways := m.oneways, shelves := m.shelves, zones := m.zones : SurveyMaker })).2).oneways))), (21, .val (.os 1 eI (((0, ({ site := ({ Floor := m.site.Floor, Zones := m.site.Zones, Aparts := (m.site.Aparts ++ ([x_1] : List ApiApart)), Shelves := m.site.Shelves, Robots := m.site.Robots : ApiSite }), shelf := m.shelf, robot := m.robot, zoned := m.zoned, names := m.names, oneways := m.oneways, shelves := m.shelves, zones := m.zones : SurveyMaker })).2).shelves))), (22, .val (.os 1 eI (((0, ({ site := ({ Floor := m.site.Floor, Zones := m.site.Zones, Aparts := (m.site.Aparts ++ ([x_1] : List ApiApart)), Shelves := m.site.Shelves, Robots := m.site.Robots : ApiSite }), shelf := m.shelf, robot := m.robot, zoned := m.zoned, names := m.names, oneways := m.oneways, shelves := m.shelves, zones := m.zones : SurveyMaker })).2).zones)))]) (nl' := 23) [some 0, some 1, some 2, some 3, some 4, some 5, some 6, some 7, some 8, some 9, some 10, some 11, some 1, some 14, some 3, some 4, some 5, some 6, some 7, some 8, some 9, some 10, some 11] rfl rfl (.eq rfl) ⟨⟨_, rfl, .box rfl (.eq rfl)⟩, ⟨_, rfl, .val rfl⟩, ⟨_, rfl, .val rfl⟩, ⟨_, rfl, .val rfl⟩, ⟨_, rfl, .val rfl⟩, ⟨_, rfl, .val rfl⟩, ⟨_, rfl, .val rfl⟩, ⟨_, rfl, .val rfl⟩, ⟨_, rfl, .val rfl⟩, ⟨_, rfl, .val rfl⟩, ⟨_, rfl, .val rfl⟩, ⟨_, rfl, .val rfl⟩, trivial⟩ rfl rfl rfl rfl hβ ⟨(0, ({ site := ({ Floor := m.site.Floor, Zones := m.site.Zones, Aparts := (m.site.Aparts ++ ([x_1] : List ApiApart)), Shelves := m.site.Shelves, Robots := m.site.Robots : ApiSite }), shelf := m.shelf, robot := m.robot, zoned := m.zoned, names := m.names, oneways := m.oneways, shelves := m.shelves, zones := m.zones : SurveyMaker })), hm, rfl, rfl, rfl⟩
 ·refine U.start ?_
  refine U.ps 2 T rfl ?_
  refine U.e (o := _) rfl (.none rfl) (by exact Eff.c [] (v := true) (T_survey_Name x_1.A _ hm) en63 rfl rfl rfl (.eq rfl) trivial rfl rfl rfl rfl rfl rfl (fun _ _ => ⟨(.v _), trivial⟩) (.inr ⟨rfl, rfl⟩) (fun _ => rfl) (fun _ => rfl) rfl) (fun x5' hm => ?_)
  obtain ⟨x5⟩ := x5'
  refine U.ps 2 T rfl ?_
  refine hm.cs (fun hb6 hm => ?_) (fun hb6 hm => ?_)
  ·refine U.pg 2 4 false 9 (ntF hb6) T rfl rfl rfl rfl ?_
   refine U.e (o := _) rfl (.take 4 false 9 _ (ntF hb6) rfl rfl rfl) (by exact Eff.c [] (v := true) (T_survey_Name x_1.B _ hm) en63 rfl rfl rfl (.eq rfl) trivial rfl rfl rfl rfl rfl rfl (fun _ _ => ⟨(.v _), trivial⟩) (.inr ⟨rfl, rfl⟩) (fun _ => rfl) (fun _ => rfl) rfl) (fun x7' hm => ?_)
   obtain ⟨x7⟩ := x7'
   refine U.pg 1 4 false 9 (ntF hb6) T rfl rfl rfl rfl ?_
   refine U.r (o := _) rfl (.none rfl) rfl rfl (by exact Rd.pk' rfl rfl (ntF hb6) rfl) ?_
   refine U.done ?_
   exact St.wk (hJ4 _ hm) (Wk.mk' [some 0, some 1, some 2, some 3, some 4, some 5, some 6, some 7, some 8, some 9, some 10, some 11, some 12] rfl rfl (.eqs rfl) ⟨⟨_, rfl, .box rfl (.eq rfl)⟩, ⟨_, rfl, .val rfl⟩, ⟨_, rfl, .val rfl⟩, ⟨_, rfl, .val rfl⟩, ⟨_, rfl, .val rfl⟩, ⟨_, rfl, .val rfl⟩, ⟨_, rfl, .val rfl⟩, ⟨_, rfl, .val rfl⟩, ⟨_, rfl, .val rfl⟩, ⟨_, rfl, .val rfl⟩, ⟨_, rfl, .val rfl⟩, ⟨_, rfl, .val rfl⟩, ⟨_, rfl, .box rfl (.eq rfl)⟩, trivial⟩ rfl)
  ·refine U.sks 4 4 false 9 (ntT hb6) rfl rfl rfl ?_
   refine U.r (o := _) rfl (.none rfl) rfl rfl (by exact Rd.pk rfl rfl (ntT hb6) rfl) ?_
   refine U.done ?_
   exact St.wk (hJ4 _ hm) (Wk.mk' [some 0, some 1, some 2, some 3, some 4, some 5, some 6, some 7, some 8, some 9, some 10, some 11, some 12] rfl rfl (.eqs rfl) ⟨⟨_, rfl, .box rfl (.eq rfl)⟩, ⟨_, rfl, .val rfl⟩, ⟨_, rfl, .val rfl⟩, ⟨_, rfl, .val rfl⟩, ⟨_, rfl, .val rfl⟩, ⟨_, rfl, .val rfl⟩, ⟨_, rfl, .val rfl⟩, ⟨_, rfl, .val rfl⟩, ⟨_, rfl, .val rfl⟩, ⟨_, rfl, .val rfl⟩, ⟨_, rfl, .val rfl⟩, ⟨_, rfl, .val rfl⟩, ⟨_, rfl, .box rfl (.eq rfl)⟩, trivial⟩ rfl)
theorem T_survey_stands (kind : Int) (post : Bool → Prop) (hm : V_survey_stands kind post) :
    Tr Try.prog 91 [.i kind] [] 0 (fun A H' k => ∃ y, post y ∧ A = (.b y) ∧ H' = [] ∧ k = 0) := by
 refine Tr.intro (n := 9) Try.func91 rfl Try.ntmps91 rfl (fun w0 ok F β hβ => ?_)
 unfold V_survey_stands at hm
 refine C.seq (U.start ?_)
 refine U.ps 1 T rfl ?_
 refine U.done (C.nx (C.seq ?_))
 refine C.jn (fun (x3 : Bool) => [(2, .b x3)]) (fun (x3 : Bool) => []) 0 hm (fun x3 hm => ?_) (fun J4 hm hJ4 => ?_)
 ·refine C.nx (C.ret ?_)
  exact C.fin T (rs' := [.b x3]) (H' := []) (nl' := 0) [] rfl rfl (.eq rfl) trivial rfl rfl rfl rfl hβ ⟨x3, hm, rfl, rfl, rfl⟩
 ·refine U.start ?_
  refine U.ps 3 T rfl ?_
  refine hm.cs (fun hb5 hm => ?_) (fun hb5 hm => ?_)
  ·refine U.sks 2 2 false 5 hb5 rfl rfl rfl ?_
   refine U.r (o := _) rfl (.none rfl) rfl rfl (by exact Rd.pk rfl rfl hb5 rfl) ?_
   refine U.ps 1 T rfl ?_
   refine U.done ?_
   exact St.wk (hJ4 _ hm) (Wk.mk' [] rfl rfl (.eqs rfl) trivial rfl)
  ·refine U.pg 2 2 false 5 hb5 T rfl rfl rfl rfl ?_
   refine U.r (o := _) rfl (.none rfl) rfl rfl (by exact Rd.pk' rfl rfl hb5 rfl) ?_
   refine U.ps 1 T rfl ?_
   refine U.done ?_
   exact St.wk (hJ4 _ hm) (Wk.mk' [] rfl rfl (.eqs rfl) trivial rfl)
theorem T_survey_maker_addShelf__p0 (x_1 : ApiShelf) (m : SurveyMaker) (post : (Int × SurveyMaker) → Prop) (hm : V_survey_maker_addShelf__p0 x_1 m post) :
    Tr Try.prog 69 [.p 0 0, .agg [.i x_1.Cell, .v (.string x_1.Class)]] [(0, .box [.i m.site.Floor.W, .i m.site.Floor.H, .i m.site.Floor.D, .sl 1 eI m.site.Floor.Kind, .sl 1 eI m.site.Floor.Out, .o 1, .o 2, .o 3, .o 4, .o 5, .o 6, .o 7, .o 8, .o 9, .o 10, .o 11]), (1, .val (.os 5 eApiZone m.site.Zones)), (2, .val (.os 2 eApiApart m.site.Aparts)), (3, .val (.os 2 eApiShelf m.site.Shelves)), (4, .val (.os 2 eApiStart m.site.Robots)), (5, .val (.om kI veI m.shelf)), (6, .val (.om kI veB m.robot)), (7, .val (.om kI veB m.zoned)), (8, .val (.om kS veI m.names)), (9, .val (.om kI veB m.oneways)), (10, .val (.os 1 eI m.shelves)), (11, .val (.os 1 eI m.zones))] 12 (fun A H' k => ∃ y, post y ∧ A = (.i y.1) ∧ H' = [(0, .box [.i y.2.site.Floor.W, .i y.2.site.Floor.H, .i y.2.site.Floor.D, .sl 1 eI y.2.site.Floor.Kind, .sl 1 eI y.2.site.Floor.Out, .o 12, .o 13, .o 14, .o 15, .o 16, .o 17, .o 18, .o 19, .o 20, .o 21, .o 22]), (12, .val (.os 5 eApiZone y.2.site.Zones)), (13, .val (.os 2 eApiApart y.2.site.Aparts)), (14, .val (.os 2 eApiShelf y.2.site.Shelves)), (15, .val (.os 2 eApiStart y.2.site.Robots)), (16, .val (.om kI veI y.2.shelf)), (17, .val (.om kI veB y.2.robot)), (18, .val (.om kI veB y.2.zoned)), (19, .val (.om kS veI y.2.names)), (20, .val (.om kI veB y.2.oneways)), (21, .val (.os 1 eI y.2.shelves)), (22, .val (.os 1 eI y.2.zones))] ∧ k = 23) := by
 refine Tr.intro (n := 72) Try.func69 rfl Try.ntmps69 rfl (fun w0 ok F β hβ => ?_)
 unfold V_survey_maker_addShelf__p0 at hm
 refine C.seq (U.start ?_)
 refine U.e1 (o := _) rfl (.none rfl) (by exact Eff1.box rfl rfl rfl rfl rfl) ?_
 refine U.ps 1 T rfl ?_
 refine U.done (C.nx (C.seq (C.seq ?_)))
 refine C.jn (fun (x3 : Bool) => [(0, .p 0 0), (3, .p 12 0), (17, .b x3)]) (fun (x3 : Bool) => [(0, .box [.i m.site.Floor.W, .i m.site.Floor.H, .i m.site.Floor.D, .sl 1 eI m.site.Floor.Kind, .sl 1 eI m.site.Floor.Out, .o 1, .o 2, .o 3, .o 4, .o 5, .o 6, .o 7, .o 8, .o 9, .o 10, .o 11]), (1, .val (.os 5 eApiZone m.site.Zones)), (2, .val (.os 2 eApiApart m.site.Aparts)), (3, .val (.os 2 eApiShelf m.site.Shelves)), (4, .val (.os 2 eApiStart m.site.Robots)), (5, .val (.om kI veI m.shelf)), (6, .val (.om kI veB m.robot)), (7, .val (.om kI veB m.zoned)), (8, .val (.om kS veI m.names)), (9, .val (.om kI veB m.oneways)), (10, .val (.os 1 eI m.shelves)), (11, .val (.os 1 eI m.zones)), (12, .box [.i x_1.Cell, .v (.string x_1.Class)])]) 13 hm (fun x3 hm => ?_) (fun J4 hm hJ4 => ?_)
 ·refine C.nx ?_
  refine C.ite rfl hm (fun hb7 hm => ?_) (fun hb7 hm => ?_)
  ·refine C.seq (U.start ?_)
   refine U.ps 1 T rfl ?_
   refine U.done (C.nx (C.ret (C.rt ?_)))
   exact C.fin T (rs' := [.i ((12, m).1)]) (H' := [(0, .box [.i (((12, m).2).site.Floor.W), .i (((12, m).2).site.Floor.H), .i (((12, m).2).site.Floor.D), .sl 1 eI (((12, m).2).site.Floor.Kind), .sl 1 eI (((12, m).2).site.Floor.Out), .o 12, .o 13, .o 14, .o 15, .o 16, .o 17, .o 18, .o 19, .o 20, .o 21, .o 22]), (12, .val (.os 5 eApiZone (((12, m).2).site.Zones))), (13, .val (.os 2 eApiApart (((12, m).2).site.Aparts))), (14, .val (.os 2 eApiShelf (((12, m).2).site.Shelves))), (15, .val (.os 2 eApiStart (((12, m).2).site.Robots))), (16, .val (.om kI veI (((12, m).2).shelf))), (17, .val (.om kI veB (((12, m).2).robot))), (18, .val (.om kI veB (((12, m).2).zoned))), (19, .val (.om kS veI (((12, m).2).names))), (20, .val (.om kI veB (((12, m).2).oneways))), (21, .val (.os 1 eI (((12, m).2).shelves))), (22, .val (.os 1 eI (((12, m).2).zones)))]) (nl' := 23) [some 0, some 1, some 2, some 3, some 4, some 5, some 6, some 7, some 8, some 9, some 10, some 11, some 1, some 2, some 3, some 4, some 5, some 6, some 7, some 8, some 9, some 10, some 11] rfl rfl (.eq rfl) ⟨⟨_, rfl, .box rfl (.eq rfl)⟩, ⟨_, rfl, .val rfl⟩, ⟨_, rfl, .val rfl⟩, ⟨_, rfl, .val rfl⟩, ⟨_, rfl, .val rfl⟩, ⟨_, rfl, .val rfl⟩, ⟨_, rfl, .val rfl⟩, ⟨_, rfl, .val rfl⟩, ⟨_, rfl, .val rfl⟩, ⟨_, rfl, .val rfl⟩, ⟨_, rfl, .val rfl⟩, ⟨_, rfl, .val rfl⟩, trivial⟩ rfl rfl rfl rfl hβ ⟨(12, m), hm, rfl, rfl, rfl⟩
  ·refine C.skip (C.nx (C.seq (U.start ?_)))
   refine U.ps 3 T rfl ?_
   refine U.e (o := _) rfl (.none rfl) (by exact Eff.c [] (v := true) (T_survey_maker_kindAt m x_1.Cell _ hm) en88 rfl rfl rfl (.cons (.fzp rfl rfl rfl rfl (.cons (.eq rfl) (.cons (.eq rfl) (.cons (.eq rfl) (.cons (.eq rfl) (.cons (.eq rfl) (.cons (.fz rfl rfl rfl (.os fun _ => .cons (.ro rfl) (.cons (.ro rfl) (.cons (.ro rfl) (.cons (.ro rfl) (.cons (.ro rfl) .nil)))))) (.cons (.fz rfl rfl rfl (.os fun _ => .cons (.ro rfl) (.cons (.ro rfl) .nil))) (.cons (.fz rfl rfl rfl (.os fun _ => .cons (.ro rfl) (.cons (.ro rfl) .nil))) (.cons (.fz rfl rfl rfl (.os fun _ => .cons (.ro rfl) (.cons (.ro rfl) .nil))) (.cons (.fz rfl rfl rfl (.om fun _ => .ro rfl)) (.cons (.fz rfl rfl rfl (.om fun _ => .ro rfl)) (.cons (.fz rfl rfl rfl (.om fun _ => .ro rfl)) (.cons (.fz rfl rfl rfl (.om fun _ => .ro rfl)) (.cons (.fz rfl rfl rfl (.om fun _ => .ro rfl)) (.cons (.fz rfl rfl rfl (.os fun _ => .cons (.ro rfl) .nil)) (.cons (.fz rfl rfl rfl (.os fun _ => .cons (.ro rfl) .nil)) .nil)))))))))))))))) rfl) (.eq rfl)) trivial rfl rfl rfl rfl rfl rfl (fun _ _ => ⟨(.tup (.cons (.v _) (.cons (.v _) .nil))), trivial⟩) (.inr ⟨rfl, rfl⟩) (fun _ => rfl) (fun _ => rfl) rfl) (fun x12' hm => ?_)
   obtain ⟨x12⟩ := x12'
   refine U.ps 5 T rfl ?_
   refine U.done (C.nx (C.seq (C.seq (U.start ?_))))
   refine U.ps 2 T rfl ?_
   refine U.done (C.nx ?_)
   refine C.ite rfl hm (fun hb15 hm => ?_) (fun hb15 hm => ?_)
   ·refine C.seq (U.start ?_)
    refine U.ps 1 T rfl ?_
    refine U.done (C.nx (C.ret (C.rt ?_)))
    exact C.fin T (rs' := [.i ((3, m).1)]) (H' := [(0, .box [.i (((3, m).2).site.Floor.W), .i (((3, m).2).site.Floor.H), .i (((3, m).2).site.Floor.D), .sl 1 eI (((3, m).2).site.Floor.Kind), .sl 1 eI (((3, m).2).site.Floor.Out), .o 12, .o 13, .o 14, .o 15, .o 16, .o 17, .o 18, .o 19, .o 20, .o 21, .o 22]), (12, .val (.os 5 eApiZone (((3, m).2).site.Zones))), (13, .val (.os 2 eApiApart (((3, m).2).site.Aparts))), (14, .val (.os 2 eApiShelf (((3, m).2).site.Shelves))), (15, .val (.os 2 eApiStart (((3, m).2).site.Robots))), (16, .val (.om kI veI (((3, m).2).shelf))), (17, .val (.om kI veB (((3, m).2).robot))), (18, .val (.om kI veB (((3, m).2).zoned))), (19, .val (.om kS veI (((3, m).2).names))), (20, .val (.om kI veB (((3, m).2).oneways))), (21, .val (.os 1 eI (((3, m).2).shelves))), (22, .val (.os 1 eI (((3, m).2).zones)))]) (nl' := 23) [some 0, some 1, some 2, some 3, some 4, some 5, some 6, some 7, some 8, some 9, some 10, some 11, some 1, some 2, some 3, some 4, some 5, some 6, some 7, some 8, some 9, some 10, some 11] rfl rfl (.eq rfl) ⟨⟨_, rfl, .box rfl (.eq rfl)⟩, ⟨_, rfl, .val rfl⟩, ⟨_, rfl, .val rfl⟩, ⟨_, rfl, .val rfl⟩, ⟨_, rfl, .val rfl⟩, ⟨_, rfl, .val rfl⟩, ⟨_, rfl, .val rfl⟩, ⟨_, rfl, .val rfl⟩, ⟨_, rfl, .val rfl⟩, ⟨_, rfl, .val rfl⟩, ⟨_, rfl, .val rfl⟩, ⟨_, rfl, .val rfl⟩, trivial⟩ rfl rfl rfl rfl hβ ⟨(3, m), hm, rfl, rfl, rfl⟩
   ·refine C.skip (C.nx (C.seq (C.seq (U.start ?_))))
    refine U.ps 1 T rfl ?_
    refine U.e (o := _) rfl (.none rfl) (by exact Eff.c [] (v := true) (T_survey_stands x12.1 _ hm) en91 rfl rfl rfl (.eq rfl) trivial rfl rfl rfl rfl rfl rfl (fun _ _ => ⟨(.v _), trivial⟩) (.inr ⟨rfl, rfl⟩) (fun _ => rfl) (fun _ => rfl) rfl) (fun x20' hm => ?_)
    obtain ⟨x20⟩ := x20'
    refine U.ps 1 T rfl ?_
    refine U.done (C.nx ?_)
    refine C.ite rfl hm (fun hb21 hm => ?_) (fun hb21 hm => ?_)
    ·refine C.seq (U.start ?_)
     refine U.ps 1 T rfl ?_
     refine U.done (C.nx (C.ret (C.rt ?_)))
     exact C.fin T (rs' := [.i ((13, m).1)]) (H' := [(0, .box [.i (((13, m).2).site.Floor.W), .i (((13, m).2).site.Floor.H), .i (((13, m).2).site.Floor.D), .sl 1 eI (((13, m).2).site.Floor.Kind), .sl 1 eI (((13, m).2).site.Floor.Out), .o 12, .o 13, .o 14, .o 15, .o 16, .o 17, .o 18, .o 19, .o 20, .o 21, .o 22]), (12, .val (.os 5 eApiZone (((13, m).2).site.Zones))), (13, .val (.os 2 eApiApart (((13, m).2).site.Aparts))), (14, .val (.os 2 eApiShelf (((13, m).2).site.Shelves))), (15, .val (.os 2 eApiStart (((13, m).2).site.Robots))), (16, .val (.om kI veI (((13, m).2).shelf))), (17, .val (.om kI veB (((13, m).2).robot))), (18, .val (.om kI veB (((13, m).2).zoned))), (19, .val (.om kS veI (((13, m).2).names))), (20, .val (.om kI veB (((13, m).2).oneways))), (21, .val (.os 1 eI (((13, m).2).shelves))), (22, .val (.os 1 eI (((13, m).2).zones)))]) (nl' := 23) [some 0, some 1, some 2, some 3, some 4, some 5, some 6, some 7, some 8, some 9, some 10, some 11, some 1, some 2, some 3, some 4, some 5, some 6, some 7, some 8, some 9, some 10, some 11] rfl rfl (.eq rfl) ⟨⟨_, rfl, .box rfl (.eq rfl)⟩, ⟨_, rfl, .val rfl⟩, ⟨_, rfl, .val rfl⟩, ⟨_, rfl, .val rfl⟩, ⟨_, rfl, .val rfl⟩, ⟨_, rfl, .val rfl⟩, ⟨_, rfl, .val rfl⟩, ⟨_, rfl, .val rfl⟩, ⟨_, rfl, .val rfl⟩, ⟨_, rfl, .val rfl⟩, ⟨_, rfl, .val rfl⟩, ⟨_, rfl, .val rfl⟩, trivial⟩ rfl rfl rfl rfl hβ ⟨(13, m), hm, rfl, rfl, rfl⟩
    ·refine C.skip (C.nx (C.seq (C.seq ?_)))
     refine D.beg 9999 [0, 5, 12] [] mix rfl rfl (by kernel_rfl) (by repeat (first | exact NoPanicQ.body | exact NoPanicQ.rnd | refine NoPanicQ.th ?_ | refine NoPanicQ.blk ?_)) (fun hQ hS ws M' => ?_)
     refine D.ps 6 [(0, []), (1, []), (2, []), (3, []), (4, []), (5, [])] rfl hQ hS T rfl rfl (by kernel_rfl) ?_
     refine D.q (o := _) 6 [] hQ hS rfl (.none rfl) rfl rfl (by exact Rd.lk2 T (ke := kI) (ve := veI) (xs := m.shelf) (z0 := 0) (x := x_1.Cell) rfl rfl kt3 zt3 (fun _ => rfl) rfl (.o rfl) rfl rfl rfl) rfl (by kernel_rfl) ?_
     refine D.ps 5 [(7, []), (8, []), (9, []), (10, []), (11, [])] rfl hQ hS T rfl rfl (by kernel_rfl) ?_
     refine D.done (by kernel_rfl) ?_
     refine C.nx (C.seq (U.start ?_))
     refine U.ps 1 T rfl ?_
     refine U.done (C.nx ?_)
     refine C.ite rfl hm (fun hb28 hm => ?_) (fun hb28 hm => ?_)
     ·refine C.seq (U.start ?_)
      refine U.ps 1 T rfl ?_
      refine U.done (C.nx (C.ret (C.rt ?_)))
      exact C.fin T (rs' := [.i ((5, m).1)]) (H' := [(0, .box [.i (((5, m).2).site.Floor.W), .i (((5, m).2).site.Floor.H), .i (((5, m).2).site.Floor.D), .sl 1 eI (((5, m).2).site.Floor.Kind), .sl 1 eI (((5, m).2).site.Floor.Out), .o 12, .o 13, .o 14, .o 15, .o 16, .o 17, .o 18, .o 19, .o 20, .o 21, .o 22]), (12, .val (.os 5 eApiZone (((5, m).2).site.Zones))), (13, .val (.os 2 eApiApart (((5, m).2).site.Aparts))), (14, .val (.os 2 eApiShelf (((5, m).2).site.Shelves))), (15, .val (.os 2 eApiStart (((5, m).2).site.Robots))), (16, .val (.om kI veI (((5, m).2).shelf))), (17, .val (.om kI veB (((5, m).2).robot))), (18, .val (.om kI veB (((5, m).2).zoned))), (19, .val (.om kS veI (((5, m).2).names))), (20, .val (.om kI veB (((5, m).2).oneways))), (21, .val (.os 1 eI (((5, m).2).shelves))), (22, .val (.os 1 eI (((5, m).2).zones)))]) (nl' := 23) [some 0, some 1, some 2, some 3, some 4, some 5, some 6, some 7, some 8, some 9, some 10, some 11, some 1, some 2, some 3, some 4, some 5, some 6, some 7, some 8, some 9, some 10, some 11] rfl rfl (.eq rfl) ⟨⟨_, rfl, .box rfl (.eq rfl)⟩, ⟨_, rfl, .val rfl⟩, ⟨_, rfl, .val rfl⟩, ⟨_, rfl, .val rfl⟩, ⟨_, rfl, .val rfl⟩, ⟨_, rfl, .val rfl⟩, ⟨_, rfl, .val rfl⟩, ⟨_, rfl, .val rfl⟩, ⟨_, rfl, .val rfl⟩, ⟨_, rfl, .val rfl⟩, ⟨_, rfl, .val rfl⟩, ⟨_, rfl, .val rfl⟩, trivial⟩ rfl rfl rfl rfl hβ ⟨(5, m), hm, rfl, rfl, rfl⟩
     ·refine C.skip (C.nx (C.seq (C.seq (U.start ?_))))
      refine U.ps 7 T rfl ?_
      refine U.done (C.nx ?_)
      refine C.ite rfl hm (fun hb33 hm => ?_) (fun hb33 hm => ?_)
      ·refine C.seq (U.start ?_)
       refine U.ps 1 T rfl ?_
       refine U.done (C.nx (C.ret (C.rt ?_)))
       exact C.fin T (rs' := [.i ((6, m).1)]) (H' := [(0, .box [.i (((6, m).2).site.Floor.W), .i (((6, m).2).site.Floor.H), .i (((6, m).2).site.Floor.D), .sl 1 eI (((6, m).2).site.Floor.Kind), .sl 1 eI (((6, m).2).site.Floor.Out), .o 12, .o 13, .o 14, .o 15, .o 16, .o 17, .o 18, .o 19, .o 20, .o 21, .o 22]), (12, .val (.os 5 eApiZone (((6, m).2).site.Zones))), (13, .val (.os 2 eApiApart (((6, m).2).site.Aparts))), (14, .val (.os 2 eApiShelf (((6, m).2).site.Shelves))), (15, .val (.os 2 eApiStart (((6, m).2).site.Robots))), (16, .val (.om kI veI (((6, m).2).shelf))), (17, .val (.om kI veB (((6, m).2).robot))), (18, .val (.om kI veB (((6, m).2).zoned))), (19, .val (.om kS veI (((6, m).2).names))), (20, .val (.om kI veB (((6, m).2).oneways))), (21, .val (.os 1 eI (((6, m).2).shelves))), (22, .val (.os 1 eI (((6, m).2).zones)))]) (nl' := 23) [some 0, some 1, some 2, some 3, some 4, some 5, some 6, some 7, some 8, some 9, some 10, some 11, some 1, some 2, some 3, some 4, some 5, some 6, some 7, some 8, some 9, some 10, some 11] rfl rfl (.eq rfl) ⟨⟨_, rfl, .box rfl (.eq rfl)⟩, ⟨_, rfl, .val rfl⟩, ⟨_, rfl, .val rfl⟩, ⟨_, rfl, .val rfl⟩, ⟨_, rfl, .val rfl⟩, ⟨_, rfl, .val rfl⟩, ⟨_, rfl, .val rfl⟩, ⟨_, rfl, .val rfl⟩, ⟨_, rfl, .val rfl⟩, ⟨_, rfl, .val rfl⟩, ⟨_, rfl, .val rfl⟩, ⟨_, rfl, .val rfl⟩, trivial⟩ rfl rfl rfl rfl hβ ⟨(6, m), hm, rfl, rfl, rfl⟩
      ·refine C.skip (C.nx (C.seq ?_))
       refine D.beg 12 [0, 12] [] mix rfl rfl (by kernel_rfl) (by repeat (first | exact NoPanicQ.body | exact NoPanicQ.rnd | refine NoPanicQ.th ?_ | refine NoPanicQ.blk ?_)) (fun hQ hS ws M' => ?_)
       refine D.ps 12 [(0, []), (1, []), (2, []), (3, []), (4, []), (5, []), (6, []), (7, []), (8, []), (9, []), (10, []), (11, [])] rfl hQ hS T rfl rfl (by kernel_rfl) ?_
       refine D.ze1 (o := _) rfl (.none rfl) (by exact Eff1.mu T (x := x_1.Cell) (y := (m.site.Shelves.length : Int)) (.inl rfl) rfl kt3 (fun _ => rfl) rfl rfl rfl rfl rfl (.inl rfl) rfl) (by kernel_rfl) (by kernel_rfl) ?_
       refine C.nx (C.seq ?_)
       refine D.beg 12 [0, 12] [3] mix rfl rfl (by kernel_rfl) (by repeat (first | exact NoPanicQ.body | exact NoPanicQ.rnd | refine NoPanicQ.th ?_ | refine NoPanicQ.blk ?_)) (fun hQ hS ws M' => ?_)
       refine D.ps 7 [(0, []), (1, []), (2, []), (3, []), (4, []), (5, []), (6, [])] rfl hQ hS T rfl rfl (by kernel_rfl) ?_
       refine D.e1 (o := _) 7 rfl (.none rfl) (by exact Eff1.bs T (enc := eApiShelf) (xs := ([x_1] : List ApiShelf)) rfl rfl rfl rfl rfl rfl rfl rfl rfl rfl (fun _ _ => rfl) rfl rfl) (by kernel_rfl) rfl rfl ?_
       obtain ⟨hx40, hm⟩ := hm
       refine D.e1 (o := _) 8 rfl (.none rfl) (by exact Eff1.ap T rfl rfl rfl rfl rfl rfl (.inr ⟨_, rfl, rfl⟩) rfl rfl rfl (fun _ => rfl) rfl hx40) (by kernel_rfl) rfl rfl ?_
       refine D.ps 3 [(9, [11, 10]), (10, [11]), (11, [])] rfl hQ hS T rfl rfl (by kernel_rfl) ?_
       refine D.ze1 (o := _) rfl (.none rfl) (by exact Eff1.st T rfl rfl rfl rfl rfl rfl rfl rfl rfl rfl) (by kernel_rfl) (by kernel_rfl) ?_
       refine C.nx (C.seq (U.start ?_))
       refine U.ps 1 T rfl ?_
       refine U.done (C.nx (C.ret ?_))
       exact C.fin T (rs' := [.i ((0, ({ site := ({ Floor := m.site.Floor, Zones := m.site.Zones, Aparts := m.site.Aparts, Shelves := (m.site.Shelves ++ ([x_1] : List ApiShelf)), Robots := m.site.Robots : ApiSite }), shelf := (upd m.shelf x_1.Cell (m.site.Shelves.length : Int)), robot := m.robot, zoned := m.zoned, names := m.names, oneways := m.oneways, shelves := m.shelves, zones := m.zones : SurveyMaker })).1)]) (H' := [(0, .box [.i (((0, ({ site := ({ Floor := m.site.Floor, Zones := m.site.Zones, Aparts := m.site.Aparts, Shelves := (m.site.Shelves ++ ([x_1] : List ApiShelf)), Robots := m.site.Robots : ApiSite }), shelf := (upd m.shelf x_1.Cell (m.site.Shelves.length : Int)), robot := m.robot, zoned := m.zoned, names := m.names, oneways := m.oneways, shelves := m.shelves, zones := m.zones : SurveyMaker })).2).site.Floor.W), .i (((0, ({ site := ({ Floor := m.site.Floor, Zones := m.site.Zones, Aparts := m.site.Aparts, Shelves := (m.site.Shelves ++ ([x_1] : List ApiShelf)), Robots := m.site.Robots : ApiSite }), shelf := (upd m.shelf x_1.Cell (m.site.Shelves.length : Int)), robot := m.robot, zoned := m.zoned, names := m.names, oneways := m.oneways, shelves := m.shelves, zones := m.zones : SurveyMaker })).2).site.Floor.H), .i (((0, ({ site := ({ Floor := m.site.Floor, Zones := m.site.Zones, Aparts := m.site.Aparts, Shelves := (m.site.Shelves ++ ([x_1] : List ApiShelf)), Robots := m.site.Robots : ApiSite }), shelf := (upd m.shelf x_1.Cell (m.site.Shelves.length : Int)), robot := m.robot, zoned := m.zoned, names := m.names, oneways := m.oneways, shelves := m.shelves, zones := m.zones : SurveyMaker })).2).site.Floor.D), .sl 1 eI (((0, ({ site := ({ Floor := m.site.Floor, Zones := m.site.Zones, Aparts := m.site.Aparts, Shelves := (m.site.Shelves ++ ([x_1] : List ApiShelf)), Robots := m.site.Robots : ApiSite }), shelf := (upd m.shelf x_1.Cell (m.site.Shelves.length : Int)), robot := m.robot, zoned := m.zoned, names := m.names, oneways := m.oneways, shelves := m.shelves, zones := m.zones : SurveyMaker })).2).site.Floor.Kind), .sl 1 eI (((0, ({ site := ({ Floor := m.site.Floor, Zones := m.site.Zones, Aparts := m.site.Aparts, Shelves := (m.site.Shelves ++ ([x_1] : List ApiShelf)), Robots := m.site.Robots : ApiSite }), shelf := (upd m.shelf x_1.Cell (m.site.Shelves.length : Int)), robot := m.robot, zoned := m.zoned, names := m.names, oneways := m.oneways, shelves := m.shelves, zones := m.zones : SurveyMaker })).2).site.Floor.Out), .o 12, .o 13, .o 14, .o 15, .o 16, .o 17, .o 18, .o 19, .o 20, .o 21, .o 22]), (12, .val (.os 5 eApiZone (((0, ({ site := ({ Floor := m.site.Floor, Zones := m.site.Zones, Aparts := m.site.Aparts, Shelves := (m.site.Shelves ++ ([x_1] : List ApiShelf)), Robots := m.site.Robots : ApiSite }), shelf := (upd m.shelf x_1.Cell (m.site.Shelves.length : Int)), robot := m.robot, zoned := m.zoned, names := m.names, oneways := m.oneways, shelves := m.shelves, zones := m.zones : SurveyMaker })).2).site.Zones))), (13, .val (.os 2 eApiApart (((0, ({ site := ({ Floor := m.site.Floor, Zones := m.site.Zones, Aparts := m.site.Aparts, Shelves := (m.site.Shelves ++ ([x_1] : List ApiShelf)), Robots := m.site.Robots : ApiSite }), shelf := (upd m.shelf x_1.Cell (m.site.Shelves.length : Int)), robot := m.robot, zoned := m.zoned, names := m.names, oneways := m.oneways, shelves := m.shelves, zones := m.zones : SurveyMaker })).2).site.Aparts))), (14, .val (.os 2 eApiShelf (((0, ({ site := ({ Floor := m.site.Floor, Zones := m.site.Zones, Aparts := m.site.Aparts, Shelves := (m.site.Shelves ++ ([x_1] : List ApiShelf)), Robots := m.site.Robots : ApiSite }), shelf := (upd m.shelf x_1.Cell (m.site.Shelves.length : Int)), robot := m.robot, zoned := m.zoned, names := m.names, oneways := m.oneways, shelves := m.shelves, zones := m.zones : SurveyMaker })).2).site.Shelves))), (15, .val (.os 2 eApiStart (((0, ({ site := ({ Floor := m.site.Floor, Zones := m.site.Zones, Aparts := m.site.Aparts, Shelves := (m.site.Shelves ++ ([x_1] : List ApiShelf)), Robots := m.site.Robots : ApiSite }), shelf := (upd m.shelf x_1.Cell (m.site.Shelves.length : Int)), robot := m.robot, zoned := m.zoned, names := m.names, oneways := m.oneways, shelves := m.shelves, zones := m.zones : SurveyMaker })).2).site.Robots))), (16, .val (.om kI veI (((0, ({ site := ({ Floor := m.site.Floor, Zones := m.site.Zones, Aparts := m.site.Aparts, Shelves := (m.site.Shelves ++ ([x_1] : List ApiShelf)), Robots := m.site.Robots : ApiSite }), shelf := (upd m.shelf x_1.Cell (m.site.Shelves.length : Int)), robot := m.robot, zoned := m.zoned, names := m.names, oneways := m.oneways, shelves := m.shelves, zones := m.zones : SurveyMaker })).2).shelf))), (17, .val (.om kI veB (((0, ({ site := ({ Floor := m.site.Floor, Zones := m.site.Zones, Aparts := m.site.Aparts, Shelves := (m.site.Shelves ++ ([x_1] : List ApiShelf)), Robots := m.site.Robots : ApiSite }), shelf := (upd m.shelf x_1.Cell (m.site.Shelves.length : Int)), robot := m.robot, zoned := m.zoned, names := m.names, oneways := m.oneways, shelves := m.shelves, zones := m.zones : SurveyMaker })).2).robot))), (18, .val (.om kI veB (((0, ({ site := ({ Floor := m.site.Floor, Zones := m.site.Zones, Aparts := m.site.Aparts, Shelves := (m.site.Shelves ++ ([x_1] : List ApiShelf)), Robots := m.site.Robots : ApiSite }), shelf := (upd m.shelf x_1.Cell (m.site.Shelves.length : Int)), robot := m.robot, zoned := m.zoned, names := m.names, oneways := m.oneways, shelves := m.shelves, zones := m.zones : SurveyMaker })).2).zoned))), (19, .val (.om kS veI (((0, ({ site := ({ Floor := m.site.Floor, Zones := m.site.Zones, Aparts := m.site.Aparts, Shelves := (m.site.Shelves ++ ([x_1] : List ApiShelf)), Robots := m.site.Robots : ApiSite }), shelf := (upd m.shelf x_1.Cell (m.site.Shelves.length : Int)), robot := m.robot, zoned := m.zoned, names := m.names, oneways := m.oneways, shelves := m.shelves, zones := m.zones : SurveyMaker })).2).names))), (20, .val (.om kI veB (((0, ({ site := ({ Floor := m.site.Floor, Zones := m.site.Zones, Aparts := m.site.Aparts, Shelves := (m.site.Shelves ++ ([x_1] : List ApiShelf)), Robots := m.site.Robots : ApiSite }), shelf := (upd m.shelf x_1.Cell (m.site.Shelves.length : Int)), robot := m.robot, zoned := m.zoned, names := m.names, oneways := m.oneways, shelves := m.shelves, zones := m.zones : SurveyMaker })).2).oneways))), (21, .val (.os 1 eI (((0, ({ site := ({ Floor := m.site.Floor, Zones := m.site.Zones, Aparts := m.site.Aparts, Shelves := (m.site.Shelves ++ ([x_1] : List ApiShelf)), Robots := m.site.Robots : ApiSite }), shelf := (upd m.shelf x_1.Cell (m.site.Shelves.length : Int)), robot := m.robot, zoned := m.zoned, names := m.names, oneways := m.oneways, shelves := m.shelves, zones := m.zones : SurveyMaker })).2).shelves))), (22, .val (.os 1 eI (((0, ({ site := ({ Floor := m.site.Floor, Zones := m.site.Zones, Aparts := m.site.Aparts, Shelves := (m.site.Shelves ++ ([x_1] : List ApiShelf)), Robots := m.site.Robots : ApiSite }), shelf := (upd m.shelf x_1.Cell (m.site.Shelves.length : Int)), robot := m.robot, zoned := m.zoned, names := m.names, oneways := m.oneways, shelves := m.shelves, zones := m.zones : SurveyMaker })).2).zones)))]) (nl' := 23) [some 0, some 1, some 2, some 3, some 4, some 5, some 6, some 7, some 8, some 9, some 10, some 11, some 1, some 2, some 14, some 4, some 5, some 6, some 7, some 8, some 9, some 10, some 11] rfl rfl (.eq rfl) ⟨⟨_, rfl, .box rfl (.eq rfl)⟩, ⟨_, rfl, .val rfl⟩, ⟨_, rfl, .val rfl⟩, ⟨_, rfl, .val rfl⟩, ⟨_, rfl, .val rfl⟩, ⟨_, rfl, .val rfl⟩, ⟨_, rfl, .val rfl⟩, ⟨_, rfl, .val rfl⟩, ⟨_, rfl, .val rfl⟩, ⟨_, rfl, .val rfl⟩, ⟨_, rfl, .val rfl⟩, ⟨_, rfl, .val rfl⟩, trivial⟩ rfl rfl rfl rfl hβ ⟨(0, ({ site := ({ Floor := m.site.Floor, Zones := m.site.Zones, Aparts := m.site.Aparts, Shelves := (m.site.Shelves ++ ([x_1] : List ApiShelf)), Robots := m.site.Robots : ApiSite }), shelf := (upd m.shelf x_1.Cell (m.site.Shelves.length : Int)), robot := m.robot, zoned := m.zoned, names := m.names, oneways := m.oneways, shelves := m.shelves, zones := m.zones : SurveyMaker })), hm, rfl, rfl, rfl⟩
 ·refine U.start ?_
  refine U.ps 4 T rfl ?_
  refine hm.cs (fun hb5 hm => ?_) (fun hb5 hm => ?_)
  ·refine U.sks 4 3 true 12 (ntF hb5) rfl rfl rfl ?_
   refine U.r (o := _) rfl (.none rfl) rfl rfl (by exact Rd.pk' rfl rfl (ntF hb5) rfl) ?_
   refine U.done ?_
   exact St.wk (hJ4 _ hm) (Wk.mk' [some 0, some 1, some 2, some 3, some 4, some 5, some 6, some 7, some 8, some 9, some 10, some 11, some 12] rfl rfl (.eqs rfl) ⟨⟨_, rfl, .box rfl (.eq rfl)⟩, ⟨_, rfl, .val rfl⟩, ⟨_, rfl, .val rfl⟩, ⟨_, rfl, .val rfl⟩, ⟨_, rfl, .val rfl⟩, ⟨_, rfl, .val rfl⟩, ⟨_, rfl, .val rfl⟩, ⟨_, rfl, .val rfl⟩, ⟨_, rfl, .val rfl⟩, ⟨_, rfl, .val rfl⟩, ⟨_, rfl, .val rfl⟩, ⟨_, rfl, .val rfl⟩, ⟨_, rfl, .box rfl (.eq rfl)⟩, trivial⟩ rfl)
  ·refine U.pg 2 3 true 12 (ntT hb5) T rfl rfl rfl rfl ?_
   refine U.e (o := _) rfl (.take 3 true 12 _ (ntT hb5) rfl rfl rfl) (by exact Eff.c [] (v := true) (T_survey_Name x_1.Class _ hm) en63 rfl rfl rfl (.eq rfl) trivial rfl rfl rfl rfl rfl rfl (fun _ _ => ⟨(.v _), trivial⟩) (.inr ⟨rfl, rfl⟩) (fun _ => rfl) (fun _ => rfl) rfl) (fun x6' hm => ?_)
   obtain ⟨x6⟩ := x6'
   refine U.pg 1 3 true 12 (ntT hb5) T rfl rfl rfl rfl ?_
   refine U.r (o := _) rfl (.none rfl) rfl rfl (by exact Rd.pk rfl rfl (ntT hb5) rfl) ?_
   refine U.done ?_
   exact St.wk (hJ4 _ hm) (Wk.mk' [some 0, some 1, some 2, some 3, some 4, some 5, some 6, some 7, some 8, some 9, some 10, some 11, some 12] rfl rfl (.eqs rfl) ⟨⟨_, rfl, .box rfl (.eq rfl)⟩, ⟨_, rfl, .val rfl⟩, ⟨_, rfl, .val rfl⟩, ⟨_, rfl, .val rfl⟩, ⟨_, rfl, .val rfl⟩, ⟨_, rfl, .val rfl⟩, ⟨_, rfl, .val rfl⟩, ⟨_, rfl, .val rfl⟩, ⟨_, rfl, .val rfl⟩, ⟨_, rfl, .val rfl⟩, ⟨_, rfl, .val rfl⟩, ⟨_, rfl, .val rfl⟩, ⟨_, rfl, .box rfl (.eq rfl)⟩, trivial⟩ rfl)
theorem T_survey_maker_addRobot__p0 (x_1 : ApiStart) (m : SurveyMaker) (post : (Int × SurveyMaker) → Prop) (hm : V_survey_maker_addRobot__p0 x_1 m post) :
    Tr Try.prog 70 [.p 0 0, .agg [.i x_1.Cell, .i x_1.Charge]] [(0, .box [.i m.site.Floor.W, .i m.site.Floor.H, .i m.site.Floor.D, .sl 1 eI m.site.Floor.Kind, .sl 1 eI m.site.Floor.Out, .o 1, .o 2, .o 3, .o 4, .o 5, .o 6, .o 7, .o 8, .o 9, .o 10, .o 11]), (1, .val (.os 5 eApiZone m.site.Zones)), (2, .val (.os 2 eApiApart m.site.Aparts)), (3, .val (.os 2 eApiShelf m.site.Shelves)), (4, .val (.os 2 eApiStart m.site.Robots)), (5, .val (.om kI veI m.shelf)), (6, .val (.om kI veB m.robot)), (7, .val (.om kI veB m.zoned)), (8, .val (.om kS veI m.names)), (9, .val (.om kI veB m.oneways)), (10, .val (.os 1 eI m.shelves)), (11, .val (.os 1 eI m.zones))] 12 (fun A H' k => ∃ y, post y ∧ A = (.i y.1) ∧ H' = [(0, .box [.i y.2.site.Floor.W, .i y.2.site.Floor.H, .i y.2.site.Floor.D, .sl 1 eI y.2.site.Floor.Kind, .sl 1 eI y.2.site.Floor.Out, .o 12, .o 13, .o 14, .o 15, .o 16, .o 17, .o 18, .o 19, .o 20, .o 21, .o 22]), (12, .val (.os 5 eApiZone y.2.site.Zones)), (13, .val (.os 2 eApiApart y.2.site.Aparts)), (14, .val (.os 2 eApiShelf y.2.site.Shelves)), (15, .val (.os 2 eApiStart y.2.site.Robots)), (16, .val (.om kI veI y.2.shelf)), (17, .val (.om kI veB y.2.robot)), (18, .val (.om kI veB y.2.zoned)), (19, .val (.om kS veI y.2.names)), (20, .val (.om kI veB y.2.oneways)), (21, .val (.os 1 eI y.2.shelves)), (22, .val (.os 1 eI y.2.zones))] ∧ k = 23) := by
 refine Tr.intro (n := 56) Try.func70 rfl Try.ntmps70 rfl (fun w0 ok F β hβ => ?_)
 unfold V_survey_maker_addRobot__p0 at hm
 refine C.seq (U.start ?_)
 refine U.e1 (o := _) rfl (.none rfl) (by exact Eff1.box rfl rfl rfl rfl rfl) ?_
 refine U.ps 1 T rfl ?_
 refine U.done (C.nx (C.seq (U.start ?_)))
 refine U.ps 3 T rfl ?_
 refine U.e (o := _) rfl (.none rfl) (by exact Eff.c [] (v := true) (T_survey_maker_kindAt m x_1.Cell _ hm) en88 rfl rfl rfl (.cons (.fzp rfl rfl rfl rfl (.cons (.eq rfl) (.cons (.eq rfl) (.cons (.eq rfl) (.cons (.eq rfl) (.cons (.eq rfl) (.cons (.fz rfl rfl rfl (.os fun _ => .cons (.ro rfl) (.cons (.ro rfl) (.cons (.ro rfl) (.cons (.ro rfl) (.cons (.ro rfl) .nil)))))) (.cons (.fz rfl rfl rfl (.os fun _ => .cons (.ro rfl) (.cons (.ro rfl) .nil))) (.cons (.fz rfl rfl rfl (.os fun _ => .cons (.ro rfl) (.cons (.ro rfl) .nil))) (.cons (.fz rfl rfl rfl (.os fun _ => .cons (.ro rfl) (.cons (.ro rfl) .nil))) (.cons (.fz rfl rfl rfl (.om fun _ => .ro rfl)) (.cons (.fz rfl rfl rfl (.om fun _ => .ro rfl)) (.cons (.fz rfl rfl rfl (.om fun _ => .ro rfl)) (.cons (.fz rfl rfl rfl (.om fun _ => .ro rfl)) (.cons (.fz rfl rfl rfl (.om fun _ => .ro rfl)) (.cons (.fz rfl rfl rfl (.os fun _ => .cons (.ro rfl) .nil)) (.cons (.fz rfl rfl rfl (.os fun _ => .cons (.ro rfl) .nil)) .nil)))))))))))))))) rfl) (.eq rfl)) trivial rfl rfl rfl rfl rfl rfl (fun _ _ => ⟨(.tup (.cons (.v _) (.cons (.v _) .nil))), trivial⟩) (.inr ⟨rfl, rfl⟩) (fun _ => rfl) (fun _ => rfl) rfl) (fun x5' hm => ?_)
 obtain ⟨x5⟩ := x5'
 refine U.ps 5 T rfl ?_
 refine U.done (C.nx (C.seq (C.seq ?_)))
 refine C.jn (fun (x6 : Bool) => [(0, .p 0 0), (3, .p 12 0), (5, .i x5.1), (21, .b x6)]) (fun (x6 : Bool) => [(0, .box [.i m.site.Floor.W, .i m.site.Floor.H, .i m.site.Floor.D, .sl 1 eI m.site.Floor.Kind, .sl 1 eI m.site.Floor.Out, .o 1, .o 2, .o 3, .o 4, .o 5, .o 6, .o 7, .o 8, .o 9, .o 10, .o 11]), (1, .val (.os 5 eApiZone m.site.Zones)), (2, .val (.os 2 eApiApart m.site.Aparts)), (3, .val (.os 2 eApiShelf m.site.Shelves)), (4, .val (.os 2 eApiStart m.site.Robots)), (5, .val (.om kI veI m.shelf)), (6, .val (.om kI veB m.robot)), (7, .val (.om kI veB m.zoned)), (8, .val (.om kS veI m.names)), (9, .val (.om kI veB m.oneways)), (10, .val (.os 1 eI m.shelves)), (11, .val (.os 1 eI m.zones)), (12, .box [.i x_1.Cell, .i x_1.Charge])]) 13 hm (fun x6 hm => ?_) (fun J7 hm hJ7 => ?_)
 ·refine C.nx ?_
  refine C.ite rfl hm (fun hb10 hm => ?_) (fun hb10 hm => ?_)
  ·refine C.seq (U.start ?_)
   refine U.ps 1 T rfl ?_
   refine U.done (C.nx (C.ret (C.rt ?_)))
   exact C.fin T (rs' := [.i ((3, m).1)]) (H' := [(0, .box [.i (((3, m).2).site.Floor.W), .i (((3, m).2).site.Floor.H), .i (((3, m).2).site.Floor.D), .sl 1 eI (((3, m).2).site.Floor.Kind), .sl 1 eI (((3, m).2).site.Floor.Out), .o 12, .o 13, .o 14, .o 15, .o 16, .o 17, .o 18, .o 19, .o 20, .o 21, .o 22]), (12, .val (.os 5 eApiZone (((3, m).2).site.Zones))), (13, .val (.os 2 eApiApart (((3, m).2).site.Aparts))), (14, .val (.os 2 eApiShelf (((3, m).2).site.Shelves))), (15, .val (.os 2 eApiStart (((3, m).2).site.Robots))), (16, .val (.om kI veI (((3, m).2).shelf))), (17, .val (.om kI veB (((3, m).2).robot))), (18, .val (.om kI veB (((3, m).2).zoned))), (19, .val (.om kS veI (((3, m).2).names))), (20, .val (.om kI veB (((3, m).2).oneways))), (21, .val (.os 1 eI (((3, m).2).shelves))), (22, .val (.os 1 eI (((3, m).2).zones)))]) (nl' := 23) [some 0, some 1, some 2, some 3, some 4, some 5, some 6, some 7, some 8, some 9, some 10, some 11, some 1, some 2, some 3, some 4, some 5, some 6, some 7, some 8, some 9, some 10, some 11] rfl rfl (.eq rfl) ⟨⟨_, rfl, .box rfl (.eq rfl)⟩, ⟨_, rfl, .val rfl⟩, ⟨_, rfl, .val rfl⟩, ⟨_, rfl, .val rfl⟩, ⟨_, rfl, .val rfl⟩, ⟨_, rfl, .val rfl⟩, ⟨_, rfl, .val rfl⟩, ⟨_, rfl, .val rfl⟩, ⟨_, rfl, .val rfl⟩, ⟨_, rfl, .val rfl⟩, ⟨_, rfl, .val rfl⟩, ⟨_, rfl, .val rfl⟩, trivial⟩ rfl rfl rfl rfl hβ ⟨(3, m), hm, rfl, rfl, rfl⟩
  ·refine C.skip (C.nx (C.seq (C.seq (U.start ?_))))
   refine U.ps 2 T rfl ?_
   refine U.done (C.nx ?_)
   refine C.ite rfl hm (fun hb15 hm => ?_) (fun hb15 hm => ?_)
   ·refine C.seq (U.start ?_)
    refine U.ps 1 T rfl ?_
    refine U.done (C.nx (C.ret (C.rt ?_)))
    exact C.fin T (rs' := [.i ((13, m).1)]) (H' := [(0, .box [.i (((13, m).2).site.Floor.W), .i (((13, m).2).site.Floor.H), .i (((13, m).2).site.Floor.D), .sl 1 eI (((13, m).2).site.Floor.Kind), .sl 1 eI (((13, m).2).site.Floor.Out), .o 12, .o 13, .o 14, .o 15, .o 16, .o 17, .o 18, .o 19, .o 20, .o 21, .o 22]), (12, .val (.os 5 eApiZone (((13, m).2).site.Zones))), (13, .val (.os 2 eApiApart (((13, m).2).site.Aparts))), (14, .val (.os 2 eApiShelf (((13, m).2).site.Shelves))), (15, .val (.os 2 eApiStart (((13, m).2).site.Robots))), (16, .val (.om kI veI (((13, m).2).shelf))), (17, .val (.om kI veB (((13, m).2).robot))), (18, .val (.om kI veB (((13, m).2).zoned))), (19, .val (.om kS veI (((13, m).2).names))), (20, .val (.om kI veB (((13, m).2).oneways))), (21, .val (.os 1 eI (((13, m).2).shelves))), (22, .val (.os 1 eI (((13, m).2).zones)))]) (nl' := 23) [some 0, some 1, some 2, some 3, some 4, some 5, some 6, some 7, some 8, some 9, some 10, some 11, some 1, some 2, some 3, some 4, some 5, some 6, some 7, some 8, some 9, some 10, some 11] rfl rfl (.eq rfl) ⟨⟨_, rfl, .box rfl (.eq rfl)⟩, ⟨_, rfl, .val rfl⟩, ⟨_, rfl, .val rfl⟩, ⟨_, rfl, .val rfl⟩, ⟨_, rfl, .val rfl⟩, ⟨_, rfl, .val rfl⟩, ⟨_, rfl, .val rfl⟩, ⟨_, rfl, .val rfl⟩, ⟨_, rfl, .val rfl⟩, ⟨_, rfl, .val rfl⟩, ⟨_, rfl, .val rfl⟩, ⟨_, rfl, .val rfl⟩, trivial⟩ rfl rfl rfl rfl hβ ⟨(13, m), hm, rfl, rfl, rfl⟩
   ·refine C.skip (C.nx (C.seq (C.seq ?_)))
    refine D.beg 9999 [0, 6, 12] [] mix rfl rfl (by kernel_rfl) (by repeat (first | exact NoPanicQ.body | exact NoPanicQ.rnd | refine NoPanicQ.th ?_ | refine NoPanicQ.blk ?_)) (fun hQ hS ws M' => ?_)
    refine D.ps 6 [(0, []), (1, []), (2, []), (3, []), (4, []), (5, [])] rfl hQ hS T rfl rfl (by kernel_rfl) ?_
    refine D.q (o := _) 6 [] hQ hS rfl (.none rfl) rfl rfl (by exact Rd.lk T (ke := kI) (ve := veB) (xs := m.robot) (z0 := false) (x := x_1.Cell) rfl rfl kt3 zt4 (fun _ => rfl) rfl (.o rfl) rfl rfl rfl) rfl (by kernel_rfl) ?_
    refine D.done (by kernel_rfl) ?_
    refine C.nx ?_
    refine C.ite rfl hm (fun hb20 hm => ?_) (fun hb20 hm => ?_)
    ·refine C.seq (U.start ?_)
     refine U.ps 1 T rfl ?_
     refine U.done (C.nx (C.ret (C.rt ?_)))
     exact C.fin T (rs' := [.i ((5, m).1)]) (H' := [(0, .box [.i (((5, m).2).site.Floor.W), .i (((5, m).2).site.Floor.H), .i (((5, m).2).site.Floor.D), .sl 1 eI (((5, m).2).site.Floor.Kind), .sl 1 eI (((5, m).2).site.Floor.Out), .o 12, .o 13, .o 14, .o 15, .o 16, .o 17, .o 18, .o 19, .o 20, .o 21, .o 22]), (12, .val (.os 5 eApiZone (((5, m).2).site.Zones))), (13, .val (.os 2 eApiApart (((5, m).2).site.Aparts))), (14, .val (.os 2 eApiShelf (((5, m).2).site.Shelves))), (15, .val (.os 2 eApiStart (((5, m).2).site.Robots))), (16, .val (.om kI veI (((5, m).2).shelf))), (17, .val (.om kI veB (((5, m).2).robot))), (18, .val (.om kI veB (((5, m).2).zoned))), (19, .val (.om kS veI (((5, m).2).names))), (20, .val (.om kI veB (((5, m).2).oneways))), (21, .val (.os 1 eI (((5, m).2).shelves))), (22, .val (.os 1 eI (((5, m).2).zones)))]) (nl' := 23) [some 0, some 1, some 2, some 3, some 4, some 5, some 6, some 7, some 8, some 9, some 10, some 11, some 1, some 2, some 3, some 4, some 5, some 6, some 7, some 8, some 9, some 10, some 11] rfl rfl (.eq rfl) ⟨⟨_, rfl, .box rfl (.eq rfl)⟩, ⟨_, rfl, .val rfl⟩, ⟨_, rfl, .val rfl⟩, ⟨_, rfl, .val rfl⟩, ⟨_, rfl, .val rfl⟩, ⟨_, rfl, .val rfl⟩, ⟨_, rfl, .val rfl⟩, ⟨_, rfl, .val rfl⟩, ⟨_, rfl, .val rfl⟩, ⟨_, rfl, .val rfl⟩, ⟨_, rfl, .val rfl⟩, ⟨_, rfl, .val rfl⟩, trivial⟩ rfl rfl rfl rfl hβ ⟨(5, m), hm, rfl, rfl, rfl⟩
    ·refine C.skip (C.nx (C.seq (C.seq (U.start ?_))))
     refine U.ps 7 T rfl ?_
     refine U.done (C.nx ?_)
     refine C.ite rfl hm (fun hb25 hm => ?_) (fun hb25 hm => ?_)
     ·refine C.seq (U.start ?_)
      refine U.ps 1 T rfl ?_
      refine U.done (C.nx (C.ret (C.rt ?_)))
      exact C.fin T (rs' := [.i ((6, m).1)]) (H' := [(0, .box [.i (((6, m).2).site.Floor.W), .i (((6, m).2).site.Floor.H), .i (((6, m).2).site.Floor.D), .sl 1 eI (((6, m).2).site.Floor.Kind), .sl 1 eI (((6, m).2).site.Floor.Out), .o 12, .o 13, .o 14, .o 15, .o 16, .o 17, .o 18, .o 19, .o 20, .o 21, .o 22]), (12, .val (.os 5 eApiZone (((6, m).2).site.Zones))), (13, .val (.os 2 eApiApart (((6, m).2).site.Aparts))), (14, .val (.os 2 eApiShelf (((6, m).2).site.Shelves))), (15, .val (.os 2 eApiStart (((6, m).2).site.Robots))), (16, .val (.om kI veI (((6, m).2).shelf))), (17, .val (.om kI veB (((6, m).2).robot))), (18, .val (.om kI veB (((6, m).2).zoned))), (19, .val (.om kS veI (((6, m).2).names))), (20, .val (.om kI veB (((6, m).2).oneways))), (21, .val (.os 1 eI (((6, m).2).shelves))), (22, .val (.os 1 eI (((6, m).2).zones)))]) (nl' := 23) [some 0, some 1, some 2, some 3, some 4, some 5, some 6, some 7, some 8, some 9, some 10, some 11, some 1, some 2, some 3, some 4, some 5, some 6, some 7, some 8, some 9, some 10, some 11] rfl rfl (.eq rfl) ⟨⟨_, rfl, .box rfl (.eq rfl)⟩, ⟨_, rfl, .val rfl⟩, ⟨_, rfl, .val rfl⟩, ⟨_, rfl, .val rfl⟩, ⟨_, rfl, .val rfl⟩, ⟨_, rfl, .val rfl⟩, ⟨_, rfl, .val rfl⟩, ⟨_, rfl, .val rfl⟩, ⟨_, rfl, .val rfl⟩, ⟨_, rfl, .val rfl⟩, ⟨_, rfl, .val rfl⟩, ⟨_, rfl, .val rfl⟩, trivial⟩ rfl rfl rfl rfl hβ ⟨(6, m), hm, rfl, rfl, rfl⟩
     ·refine C.skip (C.nx (C.seq ?_))
      refine D.beg 6 [0, 12] [] mix rfl rfl (by kernel_rfl) (by repeat (first | exact NoPanicQ.body | exact NoPanicQ.rnd | refine NoPanicQ.th ?_ | refine NoPanicQ.blk ?_)) (fun hQ hS ws M' => ?_)
      refine D.ps 6 [(0, []), (1, []), (2, []), (3, []), (4, []), (5, [])] rfl hQ hS T rfl rfl (by kernel_rfl) ?_
      refine D.ze1 (o := _) rfl (.none rfl) (by exact Eff1.mu T (x := x_1.Cell) (y := true) (.inl rfl) rfl kt3 (fun _ => rfl) rfl rfl rfl rfl rfl (.inl rfl) rfl) (by kernel_rfl) (by kernel_rfl) ?_
      refine C.nx (C.seq ?_)
      refine D.beg 12 [0, 12] [4] mix rfl rfl (by kernel_rfl) (by repeat (first | exact NoPanicQ.body | exact NoPanicQ.rnd | refine NoPanicQ.th ?_ | refine NoPanicQ.blk ?_)) (fun hQ hS ws M' => ?_)
      refine D.ps 7 [(0, []), (1, []), (2, []), (3, []), (4, []), (5, []), (6, [])] rfl hQ hS T rfl rfl (by kernel_rfl) ?_
      refine D.e1 (o := _) 7 rfl (.none rfl) (by exact Eff1.bs T (enc := eApiStart) (xs := ([x_1] : List ApiStart)) rfl rfl rfl rfl rfl rfl rfl rfl rfl rfl (fun _ _ => rfl) rfl rfl) (by kernel_rfl) rfl rfl ?_
      obtain ⟨hx32, hm⟩ := hm
      refine D.e1 (o := _) 8 rfl (.none rfl) (by exact Eff1.ap T rfl rfl rfl rfl rfl rfl (.inr ⟨_, rfl, rfl⟩) rfl rfl rfl (fun _ => rfl) rfl hx32) (by kernel_rfl) rfl rfl ?_
      refine D.ps 3 [(9, [11, 10]), (10, [11]), (11, [])] rfl hQ hS T rfl rfl (by kernel_rfl) ?_
      refine D.ze1 (o := _) rfl (.none rfl) (by exact Eff1.st T rfl rfl rfl rfl rfl rfl rfl rfl rfl rfl) (by kernel_rfl) (by kernel_rfl) ?_
      refine C.nx (C.seq (U.start ?_))
      refine U.ps 1 T rfl ?_
      refine U.done (C.nx (C.ret ?_))
      exact C.fin T (rs' := [.i ((0, ({ site := ({ Floor := m.site.Floor, Zones := m.site.Zones, Aparts := m.site.Aparts, Shelves := m.site.Shelves, Robots := (m.site.Robots ++ ([x_1] : List ApiStart)) : ApiSite }), shelf := m.shelf, robot := (upd m.robot x_1.Cell true), zoned := m.zoned, names := m.names, oneways := m.oneways, shelves := m.shelves, zones := m.zones : SurveyMaker })).1)]) (H' := [(0, .box [.i (((0, ({ site := ({ Floor := m.site.Floor, Zones := m.site.Zones, Aparts := m.site.Aparts, Shelves := m.site.Shelves, Robots := (m.site.Robots ++ ([x_1] : List ApiStart)) : ApiSite }), shelf := m.shelf, robot := (upd m.robot x_1.Cell true), zoned := m.zoned, names := m.names, oneways := m.oneways, shelves := m.shelves, zones := m.zones : SurveyMaker })).2).site.Floor.W), .i (((0, ({ site := ({ Floor := m.site.Floor, Zones := m.site.Zones, Aparts := m.site.Aparts, Shelves := m.site.Shelves, Robots := (m.site.Robots ++ ([x_1] : List ApiStart)) : ApiSite }), shelf := m.shelf, robot := (upd m.robot x_1.Cell true), zoned := m.zoned, names := m.names, oneways := m.oneways, shelves := m.shelves, zones := m.zones : SurveyMaker })).2).site.Floor.H), .i (((0, ({ site := ({ Floor := m.site.Floor, Zones := m.site.Zones, Aparts := m.site.Aparts, Shelves := m.site.Shelves, Robots := (m.site.Robots ++ ([x_1] : List ApiStart)) : ApiSite }), shelf := m.shelf, robot := (upd m.robot x_1.Cell true), zoned := m.zoned, names := m.names, oneways := m.oneways, shelves := m.shelves, zones := m.zones : SurveyMaker })).2).site.Floor.D), .sl 1 eI (((0, ({ site := ({ Floor := m.site.Floor, Zones := m.site.Zones, Aparts := m.site.Aparts, Shelves := m.site.Shelves, Robots := (m.site.Robots ++ ([x_1] : List ApiStart)) : ApiSite }), shelf := m.shelf, robot := (upd m.robot x_1.Cell true), zoned := m.zoned, names := m.names, oneways := m.oneways, shelves := m.shelves, zones := m.zones : SurveyMaker })).2).site.Floor.Kind), .sl 1 eI (((0, ({ site := ({ Floor := m.site.Floor, Zones := m.site.Zones, Aparts := m.site.Aparts, Shelves := m.site.Shelves, Robots := (m.site.Robots ++ ([x_1] : List ApiStart)) : ApiSite }), shelf := m.shelf, robot := (upd m.robot x_1.Cell true), zoned := m.zoned, names := m.names, oneways := m.oneways, shelves := m.shelves, zones := m.zones : SurveyMaker })).2).site.Floor.Out), .o 12, .o 13, .o 14, .o 15, .o 16, .o 17, .o 18, .o 19, .o 20, .o 21, .o 22]), (12, .val (.os 5 eApiZone (((0, ({ site := ({ Floor := m.site.Floor, Zones := m.site.Zones, Aparts := m.site.Aparts, Shelves := m.site.Shelves, Robots := (m.site.Robots ++ ([x_1] : List ApiStart)) : ApiSite }), shelf := m.shelf, robot := (upd m.robot x_1.Cell true), zoned := m.zoned, names := m.names, oneways := m.oneways, shelves := m.shelves, zones := m.zones : SurveyMaker })).2).site.Zones))), (13, .val (.os 2 eApiApart (((0, ({ site := ({ Floor := m.site.Floor, Zones := m.site.Zones, Aparts := m.site.Aparts, Shelves := m.site.Shelves, Robots := (m.site.Robots ++ ([x_1] : List ApiStart)) : ApiSite }), shelf := m.shelf, robot := (upd m.robot x_1.Cell true), zoned := m.zoned, names := m.names, oneways := m.oneways, shelves := m.shelves, zones := m.zones : SurveyMaker })).2).site.Aparts))), (14, .val (.os 2 eApiShelf (((0, ({ site := ({ Floor := m.site.Floor, Zones := m.site.Zones, Aparts := m.site.Aparts, Shelves := m.site.Shelves, Robots := (m.site.Robots ++ ([x_1] : List ApiStart)) : ApiSite }), shelf := m.shelf, robot := (upd m.robot x_1.Cell true), zoned := m.zoned, names := m.names, oneways := m.oneways, shelves := m.shelves, zones := m.zones : SurveyMaker })).2).site.Shelves))), (15, .val (.os 2 eApiStart (((0, ({ site := ({ Floor := m.site.Floor, Zones := m.site.Zones, Aparts := m.site.Aparts, Shelves := m.site.Shelves, Robots := (m.site.Robots ++ ([x_1] : List ApiStart)) : ApiSite }), shelf := m.shelf, robot := (upd m.robot x_1.Cell true), zoned := m.zoned, names := m.names, oneways := m.oneways, shelves := m.shelves, zones := m.zones : SurveyMaker })).2).site.Robots))), (16, .val (.om kI veI (((0, ({ site := ({ Floor := m.site.Floor, Zones := m.site.Zones, Aparts := m.site.Aparts, Shelves := m.site.Shelves, Robots := (m.site.Robots ++ ([x_1] : List ApiStart)) : ApiSite }), shelf := m.shelf, robot := (upd m.robot x_1.Cell true), zoned := m.zoned, names := m.names, oneways := m.oneways, shelves := m.shelves, zones := m.zones : SurveyMaker })).2).shelf))), (17, .val (.om kI veB (((0, ({ site := ({ Floor := m.site.Floor, Zones := m.site.Zones, Aparts := m.site.Aparts, Shelves := m.site.Shelves, Robots := (m.site.Robots ++ ([x_1] : List ApiStart)) : ApiSite }), shelf := m.shelf, robot := (upd m.robot x_1.Cell true), zoned := m.zoned, names := m.names, oneways := m.oneways, shelves := m.shelves, zones := m.zones : SurveyMaker })).2).robot))), (18, .val (.om kI veB (((0, ({ site := ({ Floor := m.site.Floor, Zones := m.site.Zones, Aparts := m.site.Aparts, Shelves := m.site.Shelves, Robots := (m.site.Robots ++ ([x_1] : List ApiStart)) : ApiSite }), shelf := m.shelf, robot := (upd m.robot x_1.Cell true), zoned := m.zoned, names := m.names, oneways := m.oneways, shelves := m.shelves, zones := m.zones : SurveyMaker })).2).zoned))), (19, .val (.om kS veI (((0, ({ site := ({ Floor := m.site.Floor, Zones := m.site.Zones, Aparts := m.site.Aparts, Shelves := m.site.Shelves, Robots := (m.site.Robots ++ ([x_1] : List ApiStart)) : ApiSite }), shelf := m.shelf, robot := (upd m.robot x_1.Cell true), zoned := m.zoned, names := m.names, oneways := m.oneways, shelves := m.shelves, zones := m.zones : SurveyMaker })).2).names))), (20, .val (.om kI veB (((0, ({ site := ({ Floor := m.site.Floor, Zones := m.site.Zones, Aparts := m.site.Aparts, Shelves := m.site.Shelves, Robots := (m.site.Robots ++ ([x_1] : List ApiStart)) : ApiSite }), shelf := m.shelf, robot := (upd m.robot x_1.Cell true), zoned := m.zoned, names := m.names, oneways := m.oneways, shelves := m.shelves, zones := m.zones : SurveyMaker })).2).oneways))), (21, .val (.os 1 eI (((0, ({ site := ({ Floor := m.site.Floor, Zones := m.site.Zones, Aparts := m.site.Aparts, Shelves := m.site.Shelves, Robots := (m.site.Robots ++ ([x_1] : List ApiStart)) : ApiSite }), shelf := m.shelf, robot := (upd m.robot x_1.Cell true), zoned := m.zoned, names := m.names, oneways := m.oneways, shelves := m.shelves, zones := m.zones : SurveyMaker })).2).shelves))), (22, .val (.os 1 eI (((0, ({ site := ({ Floor := m.site.Floor, Zones := m.site.Zones, Aparts := m.site.Aparts, Shelves := m.site.Shelves, Robots := (m.site.Robots ++ ([x_1] : List ApiStart)) : ApiSite }), shelf := m.shelf, robot := (upd m.robot x_1.Cell true), zoned := m.zoned, names := m.names, oneways := m.oneways, shelves := m.shelves, zones := m.zones : SurveyMaker })).2).zones)))]) (nl' := 23) [some 0, some 1, some 2, some 3, some 4, some 5, some 6, some 7, some 8, some 9, some 10, some 11, some 1, some 2, some 3, some 14, some 5, some 6, some 7, some 8, some 9, some 10, some 11] rfl rfl (.eq rfl) ⟨⟨_, rfl, .box rfl (.eq rfl)⟩, ⟨_, rfl, .val rfl⟩, ⟨_, rfl, .val rfl⟩, ⟨_, rfl, .val rfl⟩, ⟨_, rfl, .val rfl⟩, ⟨_, rfl, .val rfl⟩, ⟨_, rfl, .val rfl⟩, ⟨_, rfl, .val rfl⟩, ⟨_, rfl, .val rfl⟩, ⟨_, rfl, .val rfl⟩, ⟨_, rfl, .val rfl⟩, ⟨_, rfl, .val rfl⟩, trivial⟩ rfl rfl rfl rfl hβ ⟨(0, ({ site := ({ Floor := m.site.Floor, Zones := m.site.Zones, Aparts := m.site.Aparts, Shelves := m.site.Shelves, Robots := (m.site.Robots ++ ([x_1] : List ApiStart)) : ApiSite }), shelf := m.shelf, robot := (upd m.robot x_1.Cell true), zoned := m.zoned, names := m.names, oneways := m.oneways, shelves := m.shelves, zones := m.zones : SurveyMaker })), hm, rfl, rfl, rfl⟩
 ·refine U.start ?_
  refine U.ps 3 T rfl ?_
  refine hm.cs (fun hb8 hm => ?_) (fun hb8 hm => ?_)
  ·refine U.pg 2 2 false 16 (ntF hb8) T rfl rfl rfl rfl ?_
   refine U.e (o := _) rfl (.take 2 false 16 _ (ntF hb8) rfl rfl rfl) (by exact Eff.c [] (v := true) (T_survey_within x_1.Charge 0 1000000 _ hm) en64 rfl rfl rfl (.eq rfl) trivial rfl rfl rfl rfl rfl rfl (fun _ _ => ⟨(.v _), trivial⟩) (.inr ⟨rfl, rfl⟩) (fun _ => rfl) (fun _ => rfl) rfl) (fun x9' hm => ?_)
   obtain ⟨x9⟩ := x9'
   refine U.pg 1 2 false 16 (ntF hb8) T rfl rfl rfl rfl ?_
   refine U.r (o := _) rfl (.none rfl) rfl rfl (by exact Rd.pk' rfl rfl (ntF hb8) rfl) ?_
   refine U.done ?_
   exact St.wk (hJ7 _ hm) (Wk.mk' [some 0, some 1, some 2, some 3, some 4, some 5, some 6, some 7, some 8, some 9, some 10, some 11, some 12] rfl rfl (.eqs rfl) ⟨⟨_, rfl, .box rfl (.eq rfl)⟩, ⟨_, rfl, .val rfl⟩, ⟨_, rfl, .val rfl⟩, ⟨_, rfl, .val rfl⟩, ⟨_, rfl, .val rfl⟩, ⟨_, rfl, .val rfl⟩, ⟨_, rfl, .val rfl⟩, ⟨_, rfl, .val rfl⟩, ⟨_, rfl, .val rfl⟩, ⟨_, rfl, .val rfl⟩, ⟨_, rfl, .val rfl⟩, ⟨_, rfl, .val rfl⟩, ⟨_, rfl, .box rfl (.eq rfl)⟩, trivial⟩ rfl)
  ·refine U.sks 4 2 false 16 (ntT hb8) rfl rfl rfl ?_
   refine U.r (o := _) rfl (.none rfl) rfl rfl (by exact Rd.pk rfl rfl (ntT hb8) rfl) ?_
   refine U.done ?_
   exact St.wk (hJ7 _ hm) (Wk.mk' [some 0, some 1, some 2, some 3, some 4, some 5, some 6, some 7, some 8, some 9, some 10, some 11, some 12] rfl rfl (.eqs rfl) ⟨⟨_, rfl, .box rfl (.eq rfl)⟩, ⟨_, rfl, .val rfl⟩, ⟨_, rfl, .val rfl⟩, ⟨_, rfl, .val rfl⟩, ⟨_, rfl, .val rfl⟩, ⟨_, rfl, .val rfl⟩, ⟨_, rfl, .val rfl⟩, ⟨_, rfl, .val rfl⟩, ⟨_, rfl, .val rfl⟩, ⟨_, rfl, .val rfl⟩, ⟨_, rfl, .val rfl⟩, ⟨_, rfl, .val rfl⟩, ⟨_, rfl, .box rfl (.eq rfl)⟩, trivial⟩ rfl)
theorem T_survey_maker_beside (m : SurveyMaker) (post : Int → Prop) (hm : V_survey_maker_beside m post) :
    Tr Try.prog 71 [.rp [.i m.site.Floor.W, .i m.site.Floor.H, .i m.site.Floor.D, .sl 1 eI m.site.Floor.Kind, .sl 1 eI m.site.Floor.Out, .sl 5 eApiZone m.site.Zones, .sl 2 eApiApart m.site.Aparts, .sl 2 eApiShelf m.site.Shelves, .sl 2 eApiStart m.site.Robots, .rm kI veI m.shelf, .rm kI veB m.robot, .rm kI veB m.zoned, .rm kS veI m.names, .rm kI veB m.oneways, .sl 1 eI m.shelves, .sl 1 eI m.zones]] [] 0 (fun A H' k => ∃ y, post y ∧ A = (.i y) ∧ H' = [] ∧ k = 0) := by
 refine Tr.intro (n := 104) Try.func71 rfl Try.ntmps71 rfl (fun w0 ok F β hβ => ?_)
 unfold V_survey_maker_beside at hm
 refine C.seq (U.start ?_)
 refine U.ps 1 T rfl ?_
 refine U.done (C.nx (C.seq (U.start ?_)))
 refine U.ps 5 T rfl ?_
 refine U.e1 (o := _) rfl (.none rfl) (by exact Eff1.al T rfl rfl rfl rfl) ?_
 refine U.e1 (o := _) rfl (.none rfl) (by exact Eff1.st T rfl rfl rfl rfl rfl rfl rfl rfl rfl rfl) ?_
 refine U.done (C.nx (C.seq (C.seq (U.start ?_))))
 refine U.ps 7 T rfl ?_
 refine U.done (C.nx ?_)
 refine C.jn (fun (x7 : Unit) => []) (fun (x7 : Unit) => []) 0 hm (fun x7 hm => ?_) (fun J8 hm hJ8 => ?_)
 ·refine C.nx (C.seq (U.start ?_))
  refine U.ps 1 T rfl ?_
  refine U.done (C.nx (C.ret ?_))
  exact C.fin T (rs' := [.i (-1)]) (H' := []) (nl' := 0) [] rfl rfl (.eq rfl) trivial rfl rfl rfl rfl hβ ⟨(-1), hm, rfl, rfl, rfl⟩
 ·refine C.block ?_
  refine St.wk (C.loop (fun (s9 : Int) => [(0, .rp [.i m.site.Floor.W, .i m.site.Floor.H, .i m.site.Floor.D, .sl 1 eI m.site.Floor.Kind, .sl 1 eI m.site.Floor.Out, .sl 5 eApiZone m.site.Zones, .sl 2 eApiApart m.site.Aparts, .sl 2 eApiShelf m.site.Shelves, .sl 2 eApiStart m.site.Robots, .rm kI veI m.shelf, .rm kI veB m.robot, .rm kI veB m.zoned, .rm kS veI m.names, .rm kI veB m.oneways, .sl 1 eI m.shelves, .sl 1 eI m.zones]), (3, .p 0 0), (22, .sl 2 eApiShelf m.site.Shelves), (23, .i (m.site.Shelves.length : Int)), (24, .i s9)]) (fun (s9 : Int) => [(0, .box (eApiFloor m.site.Floor))]) hm (fun s9 Y10 hm => ?_)) (Wk.mk' [some 0] rfl rfl (.eqs rfl) ⟨⟨_, rfl, .box rfl (.eq rfl)⟩, trivial⟩ rfl)
  refine C.seq (U.start ?_)
  refine U.ps 1 T rfl ?_
  refine U.done (C.nx (C.seq ?_))
  refine C.ite rfl hm (fun hb13 hm => ?_) (fun hb13 hm => ?_)
  ·refine C.skip (C.nx (C.seq ?_))
   refine C.jn (fun (x14 : Unit) => [(0, .rp [.i m.site.Floor.W, .i m.site.Floor.H, .i m.site.Floor.D, .sl 1 eI m.site.Floor.Kind, .sl 1 eI m.site.Floor.Out, .sl 5 eApiZone m.site.Zones, .sl 2 eApiApart m.site.Aparts, .sl 2 eApiShelf m.site.Shelves, .sl 2 eApiStart m.site.Robots, .rm kI veI m.shelf, .rm kI veB m.robot, .rm kI veB m.zoned, .rm kS veI m.names, .rm kI veB m.oneways, .sl 1 eI m.shelves, .sl 1 eI m.zones]), (3, .p 0 0), (22, .sl 2 eApiShelf m.site.Shelves), (23, .i (m.site.Shelves.length : Int)), (24, .i s9)]) (fun (x14 : Unit) => [(0, .box (eApiFloor m.site.Floor))]) 1 hm (fun x14 hm => ?_) (fun J15 hm hJ15 => ?_)
   ·refine C.nx (U.start ?_)
    refine U.ps 2 T rfl ?_
    refine U.done (C.nx ?_)
    exact St.wk (C.next hm) (Wk.mk' [some 0] rfl rfl (.eqs rfl) ⟨⟨_, rfl, .box rfl (.eq rfl)⟩, trivial⟩ rfl)
   ·refine C.block (C.seq (U.start ?_))
    refine U.ps 1 T rfl ?_
    obtain ⟨x18, hx18, hm⟩ := hm
    refine U.r (o := _) rfl (.none rfl) rfl rfl (by exact Rd.ix T rfl rfl rfl rfl rfl rfl hx18) ?_
    refine U.ps 1 T rfl ?_
    refine U.e1 (o := _) rfl (.none rfl) (by exact Eff1.al T rfl rfl rfl rfl) ?_
    refine U.ps 1 T rfl ?_
    refine U.e1 (o := _) rfl (.none rfl) (by exact Eff1.st T rfl rfl rfl rfl rfl rfl rfl rfl rfl rfl) ?_
    refine U.done (C.nx (C.seq (U.start ?_)))
    refine U.ps 3 T rfl ?_
    refine U.e (o := _) rfl (.none rfl) (by exact Eff.c [] (v := true) (T_floor_At m.site.Floor x18.Cell _ hm) en74 rfl rfl rfl (.eq rfl) trivial rfl rfl rfl rfl rfl rfl (fun _ _ => ⟨(.tup (.cons (.v _) (.cons (.v _) (.cons (.v _) .nil)))), trivial⟩) (.inr ⟨rfl, rfl⟩) (fun _ => rfl) (fun _ => rfl) rfl) (fun x21' hm => ?_)
    obtain ⟨x21⟩ := x21'
    refine U.ps 7 T rfl ?_
    refine U.done (C.nx (C.seq ?_))
    refine D.beg 9999 [0] [] mix rfl rfl (by kernel_rfl) (by repeat (first | exact NoPanicQ.body | exact NoPanicQ.rnd | refine NoPanicQ.th ?_ | refine NoPanicQ.blk ?_)) (fun hQ hS ws M' => ?_)
    refine D.ps 21 [(0, []), (1, []), (2, []), (3, []), (4, []), (6, []), (7, []), (8, []), (9, []), (10, []), (12, []), (13, []), (14, []), (15, []), (16, []), (18, []), (19, []), (20, []), (21, []), (22, []), (26, [])] rfl hQ hS T rfl rfl (by kernel_rfl) ?_
    refine D.e (o := _) 5 rfl (.none rfl) (by exact Eff.c [] (v := true) (T_floor_Cell m.site.Floor (w64 (x21.1 + 1)) x21.2.1 x21.2.2 _ hm) en75 rfl rfl rfl (.eq rfl) trivial rfl rfl rfl rfl rfl rfl (fun _ _ => ⟨(.v _), trivial⟩) (.inr ⟨rfl, rfl⟩) (fun _ => rfl) (fun _ => rfl) rfl) (by kernel_rfl) rfl rfl (fun x24' hm => ?_)
    obtain ⟨x24⟩ := x24'
    refine D.e (o := _) 11 rfl (.none rfl) (by exact Eff.c [] (v := true) (T_floor_Cell m.site.Floor x21.1 (w64 (x21.2.1 + 1)) x21.2.2 _ hm) en75 rfl rfl rfl (.eq rfl) trivial rfl rfl rfl rfl rfl rfl (fun _ _ => ⟨(.v _), trivial⟩) (.inr ⟨rfl, rfl⟩) (fun _ => rfl) (fun _ => rfl) rfl) (by kernel_rfl) rfl rfl (fun x25' hm => ?_)
    obtain ⟨x25⟩ := x25'
    refine D.e (o := _) 17 rfl (.none rfl) (by exact Eff.c [] (v := true) (T_floor_Cell m.site.Floor (w64 (x21.1 - 1)) x21.2.1 x21.2.2 _ hm) en75 rfl rfl rfl (.eq rfl) trivial rfl rfl rfl rfl rfl rfl (fun _ _ => ⟨(.v _), trivial⟩) (.inr ⟨rfl, rfl⟩) (fun _ => rfl) (fun _ => rfl) rfl) (by kernel_rfl) rfl rfl (fun x26' hm => ?_)
    obtain ⟨x26⟩ := x26'
    refine D.e (o := _) 23 rfl (.none rfl) (by exact Eff.c [] (v := true) (T_floor_Cell m.site.Floor x21.1 (w64 (x21.2.1 - 1)) x21.2.2 _ hm) en75 rfl rfl rfl (.eq rfl) trivial rfl rfl rfl rfl rfl rfl (fun _ _ => ⟨(.v _), trivial⟩) (.inr ⟨rfl, rfl⟩) (fun _ => rfl) (fun _ => rfl) rfl) (by kernel_rfl) rfl rfl (fun x27' hm => ?_)
    obtain ⟨x27⟩ := x27'
    refine D.e1 (o := _) 24 rfl (.none rfl) (by exact Eff1.bs T (enc := eI) (xs := ([x24, x25, x26, x27] : List Int)) rfl rfl rfl rfl rfl rfl rfl rfl rfl rfl (fun _ _ => rfl) rfl rfl) (by kernel_rfl) rfl rfl ?_
    refine D.ps 1 [(25, [])] rfl hQ hS T rfl rfl (by kernel_rfl) ?_
    refine D.done (by kernel_rfl) ?_
    refine C.nx ?_
    refine C.jn (fun (x28 : Unit) => [(0, .rp [.i m.site.Floor.W, .i m.site.Floor.H, .i m.site.Floor.D, .sl 1 eI m.site.Floor.Kind, .sl 1 eI m.site.Floor.Out, .sl 5 eApiZone m.site.Zones, .sl 2 eApiApart m.site.Aparts, .sl 2 eApiShelf m.site.Shelves, .sl 2 eApiStart m.site.Robots, .rm kI veI m.shelf, .rm kI veB m.robot, .rm kI veB m.zoned, .rm kS veI m.names, .rm kI veB m.oneways, .sl 1 eI m.shelves, .sl 1 eI m.zones]), (3, .p 0 0), (22, .sl 2 eApiShelf m.site.Shelves), (23, .i (m.site.Shelves.length : Int)), (24, .i s9)]) (fun (x28 : Unit) => [(0, .box (eApiFloor m.site.Floor))]) 1 hm (fun x28 hm => ?_) (fun J29 hm hJ29 => ?_)
    ·refine C.bnx ?_
     exact St.wk (hJ15 _ hm) (Wk.mk' [some 0] rfl rfl (.eqs rfl) ⟨⟨_, rfl, .box rfl (.eq rfl)⟩, trivial⟩ rfl)
    ·refine C.block ?_
     refine St.wk (C.loop (fun (s30 : Int) => [(0, .rp [.i m.site.Floor.W, .i m.site.Floor.H, .i m.site.Floor.D, .sl 1 eI m.site.Floor.Kind, .sl 1 eI m.site.Floor.Out, .sl 5 eApiZone m.site.Zones, .sl 2 eApiApart m.site.Aparts, .sl 2 eApiShelf m.site.Shelves, .sl 2 eApiStart m.site.Robots, .rm kI veI m.shelf, .rm kI veB m.robot, .rm kI veB m.zoned, .rm kS veI m.names, .rm kI veB m.oneways, .sl 1 eI m.shelves, .sl 1 eI m.zones]), (3, .p 0 0), (4, .i s9), (5, .p 1 0), (22, .sl 2 eApiShelf m.site.Shelves), (23, .i (m.site.Shelves.length : Int)), (24, .i s9), (61, .o 2), (62, .i (([x24, x25, x26, x27] : List Int).length : Int)), (63, .i s30)]) (fun (s30 : Int) => [(0, .box (eApiFloor m.site.Floor)), (1, .box [.i x18.Cell, .v (.string x18.Class)]), (2, .val (.os 1 eI ([x24, x25, x26, x27] : List Int)))]) hm (fun s30 Y31 hm => ?_)) (Wk.mk' [some 0, some 1, some 2] rfl rfl (.eqs rfl) ⟨⟨_, rfl, .box rfl (.eq rfl)⟩, ⟨_, rfl, .box rfl (.eq rfl)⟩, ⟨_, rfl, .val rfl⟩, trivial⟩ rfl)
     refine C.seq (U.start ?_)
     refine U.ps 1 T rfl ?_
     refine U.done (C.nx (C.seq ?_))
     refine C.ite rfl hm (fun hb34 hm => ?_) (fun hb34 hm => ?_)
     ·refine C.skip (C.nx (C.seq (C.block (C.seq (U.start ?_)))))
      obtain ⟨x37, hx37, hm⟩ := hm
      refine U.r (o := _) rfl (.none rfl) rfl rfl (by exact Rd.io T rfl rfl rfl rfl rfl rfl rfl hx37) ?_
      refine U.r (o := _) rfl (.none rfl) rfl rfl (by exact Rd.le T rfl rfl rfl (idx_some hx37).2.2 rfl rfl rfl) ?_
      refine U.ps 1 T rfl ?_
      refine U.done (C.nx (C.seq (U.start ?_)))
      refine U.ps 5 T rfl ?_
      refine U.r (o := _) rfl (.none rfl) rfl rfl (by exact Rd.lk2 T (ke := kI) (ve := veI) (xs := m.shelf) (z0 := 0) (x := x37) rfl rfl kt3 zt3 (fun _ => rfl) rfl .rm rfl rfl rfl) ?_
      refine U.ps 5 T rfl ?_
      refine U.done (C.nx (C.seq ?_))
      refine C.jn (fun (x40 : Bool) => [(0, .rp [.i m.site.Floor.W, .i m.site.Floor.H, .i m.site.Floor.D, .sl 1 eI m.site.Floor.Kind, .sl 1 eI m.site.Floor.Out, .sl 5 eApiZone m.site.Zones, .sl 2 eApiApart m.site.Aparts, .sl 2 eApiShelf m.site.Shelves, .sl 2 eApiStart m.site.Robots, .rm kI veI m.shelf, .rm kI veB m.robot, .rm kI veB m.zoned, .rm kS veI m.names, .rm kI veB m.oneways, .sl 1 eI m.shelves, .sl 1 eI m.zones]), (3, .p 0 0), (4, .i s9), (5, .p 1 0), (22, .sl 2 eApiShelf m.site.Shelves), (23, .i (m.site.Shelves.length : Int)), (24, .i s9), (61, .o 2), (62, .i (([x24, x25, x26, x27] : List Int).length : Int)), (63, .i s30), (100, .b x40)]) (fun (x40 : Bool) => [(0, .box (eApiFloor m.site.Floor)), (1, .box [.i x18.Cell, .v (.string x18.Class)]), (2, .val (.os 1 eI ([x24, x25, x26, x27] : List Int)))]) 3 hm (fun x40 hm => ?_) (fun J41 hm hJ41 => ?_)
      ·refine C.nx ?_
       refine C.ite rfl hm (fun hb46 hm => ?_) (fun hb46 hm => ?_)
       ·refine C.seq (U.start ?_)
        refine U.ps 2 T rfl ?_
        refine U.done (C.nx (C.ret (C.brt (C.rt (C.rt (C.brt (C.brt (C.rt (C.rt (C.brt (C.rt ?_)))))))))))
        exact C.fin T (rs' := [.i s9]) (H' := []) (nl' := 0) [] rfl rfl (.eq rfl) trivial rfl rfl rfl rfl hβ ⟨s9, hm, rfl, rfl, rfl⟩
       ·refine C.skip (C.bnx (C.nx (U.start ?_)))
        refine U.ps 2 T rfl ?_
        refine U.done (C.nx ?_)
        exact St.wk (C.next hm) (Wk.mk' [some 0, some 1, some 2] rfl rfl (.eqs rfl) ⟨⟨_, rfl, .box rfl (.eq rfl)⟩, ⟨_, rfl, .box rfl (.eq rfl)⟩, ⟨_, rfl, .val rfl⟩, trivial⟩ rfl)
      ·refine D.beg 9999 [1] [] mix rfl rfl (by kernel_rfl) (by repeat (first | exact NoPanicQ.body | exact NoPanicQ.rnd | refine NoPanicQ.th ?_ | refine NoPanicQ.blk ?_)) (fun hQ hS ws M' => ?_)
       refine D.ps 2 [(0, []), (1, [])] rfl hQ hS T rfl rfl (by kernel_rfl) ?_
       refine hm.cs (fun hb42 hm => ?_) (fun hb42 hm => ?_)
       ·refine D.q (o := _) 2 [] hQ hS rfl (.take 1 true 77 _ hb42 rfl rfl rfl) rfl rfl (by exact Rd.p T rfl) rfl (by kernel_rfl) ?_
        refine D.q (o := _) 3 [] hQ hS rfl (.take 1 true 77 _ hb42 rfl rfl rfl) rfl rfl (by exact Rd.p T rfl) rfl (by kernel_rfl) ?_
        refine D.q (o := _) 4 [] hQ hS rfl (.take 1 true 77 _ hb42 rfl rfl rfl) rfl rfl (by exact Rd.p T rfl) rfl (by kernel_rfl) ?_
        refine D.q (o := _) 5 [] hQ hS rfl (.none rfl) rfl rfl (by exact Rd.pk rfl rfl hb42 rfl) rfl (by kernel_rfl) ?_
        refine D.ps 1 [(6, [])] rfl hQ hS T rfl rfl (by kernel_rfl) ?_
        refine hm.cs (fun hb43 hm => ?_) (fun hb43 hm => ?_)
        ·refine D.q (o := _) 7 [] hQ hS rfl (.take 6 true 82 _ hb43 rfl rfl rfl) rfl rfl (by exact Rd.p T rfl) rfl (by kernel_rfl) ?_
         refine D.q (o := _) 8 [] hQ hS rfl (.take 6 true 82 _ hb43 rfl rfl rfl) rfl rfl (by exact Rd.p T rfl) rfl (by kernel_rfl) ?_
         refine D.q (o := _) 9 [] hQ hS rfl (.take 6 true 82 _ hb43 rfl rfl rfl) rfl rfl (by exact Rd.p T rfl) rfl (by kernel_rfl) ?_
         refine D.q (o := _) 10 [] hQ hS rfl (.take 6 true 82 _ hb43 rfl rfl rfl) rfl rfl (by exact Rd.p T rfl) rfl (by kernel_rfl) ?_
         refine D.q (o := _) 11 [] hQ hS rfl (.take 6 true 82 _ hb43 rfl rfl rfl) rfl rfl (by exact Rd.l T rfl rfl rfl) rfl (by kernel_rfl) ?_
         refine D.q (o := _) 12 [] hQ hS rfl (.take 6 true 82 _ hb43 rfl rfl rfl) rfl rfl (by exact Rd.p T rfl) rfl (by kernel_rfl) ?_
         refine D.q (o := _) 13 [] hQ hS rfl (.take 6 true 82 _ hb43 rfl rfl rfl) rfl rfl (by exact Rd.l T rfl rfl rfl) rfl (by kernel_rfl) ?_
         refine D.q (o := _) 14 [] hQ hS rfl (.take 6 true 82 _ hb43 rfl rfl rfl) rfl rfl (by exact Rd.p T rfl) rfl (by kernel_rfl) ?_
         refine D.q (o := _) 15 [] hQ hS rfl (.take 6 true 82 _ hb43 rfl rfl rfl) rfl rfl (by exact Rd.p T rfl) rfl (by kernel_rfl) ?_
         refine D.q (o := _) 16 [] hQ hS rfl (.take 6 true 82 _ hb43 rfl rfl rfl) rfl rfl (by exact Rd.p T rfl) rfl (by kernel_rfl) ?_
         refine D.q (o := _) 17 [] hQ hS rfl (.take 6 true 82 _ hb43 rfl rfl rfl) rfl rfl (by exact Rd.p T rfl) rfl (by kernel_rfl) ?_
         refine D.q (o := _) 18 [] hQ hS rfl (.take 6 true 82 _ hb43 rfl rfl rfl) rfl rfl (by exact Rd.l T rfl rfl rfl) rfl (by kernel_rfl) ?_
         refine D.q (o := _) 19 [] hQ hS rfl (.take 6 true 82 _ hb43 rfl rfl rfl) rfl rfl (by exact Rd.p T rfl) rfl (by kernel_rfl) ?_
         obtain ⟨x44, hx44, hm⟩ := hm
         refine D.q (o := _) 20 [] hQ hS rfl (.take 6 true 82 _ hb43 rfl rfl rfl) rfl rfl (by exact Rd.ix T rfl rfl rfl rfl rfl rfl hx44) rfl (by kernel_rfl) ?_
         refine D.q (o := _) 21 [] hQ hS rfl (.take 6 true 82 _ hb43 rfl rfl rfl) rfl rfl (by exact Rd.p T rfl) rfl (by kernel_rfl) ?_
         refine D.q (o := _) 22 [] hQ hS rfl (.take 6 true 82 _ hb43 rfl rfl rfl) rfl rfl (by exact Rd.l T rfl rfl rfl) rfl (by kernel_rfl) ?_
         refine D.e (o := _) 23 rfl (.take 6 true 82 _ hb43 rfl rfl rfl) (by exact Eff.c [] (v := true) (T_survey_Apart m.site.Aparts x18.Class x44.Class _ hm) en90 rfl rfl rfl (.eq rfl) trivial rfl rfl rfl rfl rfl rfl (fun _ _ => ⟨(.v _), trivial⟩) (.inr ⟨rfl, rfl⟩) (fun _ => rfl) (fun _ => rfl) rfl) (by kernel_rfl) rfl rfl (fun x45' hm => ?_)
         obtain ⟨x45⟩ := x45'
         refine D.q (o := _) 24 [] hQ hS rfl (.none rfl) rfl rfl (by exact Rd.pk rfl rfl hb43 rfl) rfl (by kernel_rfl) ?_
         refine D.done (by kernel_rfl) ?_
         exact St.wk (hJ41 _ hm) (Wk.mk' [some 0, some 1, some 2] rfl rfl (.eqs rfl) ⟨⟨_, rfl, .box rfl (.eq rfl)⟩, ⟨_, rfl, .box rfl (.eq rfl)⟩, ⟨_, rfl, .val rfl⟩, trivial⟩ rfl)
        ·refine D.sq (o := _) 7 [] hQ hS rfl (.skip 6 true 82 _ hb43 rfl rfl rfl) rfl rfl (by kernel_rfl) ?_
         refine D.sq (o := _) 8 [] hQ hS rfl (.skip 6 true 82 _ hb43 rfl rfl rfl) rfl rfl (by kernel_rfl) ?_
         refine D.sq (o := _) 9 [] hQ hS rfl (.skip 6 true 82 _ hb43 rfl rfl rfl) rfl rfl (by kernel_rfl) ?_
         refine D.sq (o := _) 10 [] hQ hS rfl (.skip 6 true 82 _ hb43 rfl rfl rfl) rfl rfl (by kernel_rfl) ?_
         refine D.sq (o := _) 11 [] hQ hS rfl (.skip 6 true 82 _ hb43 rfl rfl rfl) rfl rfl (by kernel_rfl) ?_
         refine D.sq (o := _) 12 [] hQ hS rfl (.skip 6 true 82 _ hb43 rfl rfl rfl) rfl rfl (by kernel_rfl) ?_
         refine D.sq (o := _) 13 [] hQ hS rfl (.skip 6 true 82 _ hb43 rfl rfl rfl) rfl rfl (by kernel_rfl) ?_
         refine D.sq (o := _) 14 [] hQ hS rfl (.skip 6 true 82 _ hb43 rfl rfl rfl) rfl rfl (by kernel_rfl) ?_
         refine D.sq (o := _) 15 [] hQ hS rfl (.skip 6 true 82 _ hb43 rfl rfl rfl) rfl rfl (by kernel_rfl) ?_
         refine D.sq (o := _) 16 [] hQ hS rfl (.skip 6 true 82 _ hb43 rfl rfl rfl) rfl rfl (by kernel_rfl) ?_
         refine D.sq (o := _) 17 [] hQ hS rfl (.skip 6 true 82 _ hb43 rfl rfl rfl) rfl rfl (by kernel_rfl) ?_
         refine D.sq (o := _) 18 [] hQ hS rfl (.skip 6 true 82 _ hb43 rfl rfl rfl) rfl rfl (by kernel_rfl) ?_
         refine D.sq (o := _) 19 [] hQ hS rfl (.skip 6 true 82 _ hb43 rfl rfl rfl) rfl rfl (by kernel_rfl) ?_
         refine D.sq (o := _) 20 [] hQ hS rfl (.skip 6 true 82 _ hb43 rfl rfl rfl) rfl rfl (by kernel_rfl) ?_
         refine D.sq (o := _) 21 [] hQ hS rfl (.skip 6 true 82 _ hb43 rfl rfl rfl) rfl rfl (by kernel_rfl) ?_
         refine D.sq (o := _) 22 [] hQ hS rfl (.skip 6 true 82 _ hb43 rfl rfl rfl) rfl rfl (by kernel_rfl) ?_
         refine D.sq (o := _) 23 [] hQ hS rfl (.skip 6 true 82 _ hb43 rfl rfl rfl) rfl rfl (by kernel_rfl) ?_
         refine D.q (o := _) 24 [] hQ hS rfl (.none rfl) rfl rfl (by exact Rd.pk' rfl rfl hb43 rfl) rfl (by kernel_rfl) ?_
         refine D.done (by kernel_rfl) ?_
         exact St.wk (hJ41 _ hm) (Wk.mk' [some 0, some 1, some 2] rfl rfl (.eqs rfl) ⟨⟨_, rfl, .box rfl (.eq rfl)⟩, ⟨_, rfl, .box rfl (.eq rfl)⟩, ⟨_, rfl, .val rfl⟩, trivial⟩ rfl)
       ·refine D.sq (o := _) 2 [] hQ hS rfl (.skip 1 true 77 _ hb42 rfl rfl rfl) rfl rfl (by kernel_rfl) ?_
        refine D.sq (o := _) 3 [] hQ hS rfl (.skip 1 true 77 _ hb42 rfl rfl rfl) rfl rfl (by kernel_rfl) ?_
        refine D.sq (o := _) 4 [] hQ hS rfl (.skip 1 true 77 _ hb42 rfl rfl rfl) rfl rfl (by kernel_rfl) ?_
        refine D.q (o := _) 5 [] hQ hS rfl (.none rfl) rfl rfl (by exact Rd.pk' rfl rfl hb42 rfl) rfl (by kernel_rfl) ?_
        refine D.ps 1 [(6, [])] rfl hQ hS T rfl rfl (by kernel_rfl) ?_
        refine D.sq (o := _) 7 [] hQ hS rfl (.skip 6 true 82 _ rfl rfl rfl rfl) rfl rfl (by kernel_rfl) ?_
        refine D.sq (o := _) 8 [] hQ hS rfl (.skip 6 true 82 _ rfl rfl rfl rfl) rfl rfl (by kernel_rfl) ?_
        refine D.sq (o := _) 9 [] hQ hS rfl (.skip 6 true 82 _ rfl rfl rfl rfl) rfl rfl (by kernel_rfl) ?_
        refine D.sq (o := _) 10 [] hQ hS rfl (.skip 6 true 82 _ rfl rfl rfl rfl) rfl rfl (by kernel_rfl) ?_
        refine D.sq (o := _) 11 [] hQ hS rfl (.skip 6 true 82 _ rfl rfl rfl rfl) rfl rfl (by kernel_rfl) ?_
        refine D.sq (o := _) 12 [] hQ hS rfl (.skip 6 true 82 _ rfl rfl rfl rfl) rfl rfl (by kernel_rfl) ?_
        refine D.sq (o := _) 13 [] hQ hS rfl (.skip 6 true 82 _ rfl rfl rfl rfl) rfl rfl (by kernel_rfl) ?_
        refine D.sq (o := _) 14 [] hQ hS rfl (.skip 6 true 82 _ rfl rfl rfl rfl) rfl rfl (by kernel_rfl) ?_
        refine D.sq (o := _) 15 [] hQ hS rfl (.skip 6 true 82 _ rfl rfl rfl rfl) rfl rfl (by kernel_rfl) ?_
        refine D.sq (o := _) 16 [] hQ hS rfl (.skip 6 true 82 _ rfl rfl rfl rfl) rfl rfl (by kernel_rfl) ?_
        refine D.sq (o := _) 17 [] hQ hS rfl (.skip 6 true 82 _ rfl rfl rfl rfl) rfl rfl (by kernel_rfl) ?_
        refine D.sq (o := _) 18 [] hQ hS rfl (.skip 6 true 82 _ rfl rfl rfl rfl) rfl rfl (by kernel_rfl) ?_
        refine D.sq (o := _) 19 [] hQ hS rfl (.skip 6 true 82 _ rfl rfl rfl rfl) rfl rfl (by kernel_rfl) ?_
        refine D.sq (o := _) 20 [] hQ hS rfl (.skip 6 true 82 _ rfl rfl rfl rfl) rfl rfl (by kernel_rfl) ?_
        refine D.sq (o := _) 21 [] hQ hS rfl (.skip 6 true 82 _ rfl rfl rfl rfl) rfl rfl (by kernel_rfl) ?_
        refine D.sq (o := _) 22 [] hQ hS rfl (.skip 6 true 82 _ rfl rfl rfl rfl) rfl rfl (by kernel_rfl) ?_
        refine D.sq (o := _) 23 [] hQ hS rfl (.skip 6 true 82 _ rfl rfl rfl rfl) rfl rfl (by kernel_rfl) ?_
        refine D.q (o := _) 24 [] hQ hS rfl (.none rfl) rfl rfl (by exact Rd.pk' rfl rfl rfl rfl) rfl (by kernel_rfl) ?_
        refine D.done (by kernel_rfl) ?_
        exact St.wk (hJ41 _ hm) (Wk.mk' [some 0, some 1, some 2] rfl rfl (.eqs rfl) ⟨⟨_, rfl, .box rfl (.eq rfl)⟩, ⟨_, rfl, .box rfl (.eq rfl)⟩, ⟨_, rfl, .val rfl⟩, trivial⟩ rfl)
     ·refine C.exit (C.ex (C.ex (C.bex ?_)))
      exact St.wk (hJ29 _ hm) (Wk.mk' [some 0] rfl rfl (.eqs rfl) ⟨⟨_, rfl, .box rfl (.eq rfl)⟩, trivial⟩ rfl)
  ·refine C.exit (C.ex (C.ex (C.bex ?_)))
   exact St.wk (hJ8 _ hm) (Wk.mk' [] rfl rfl trivial trivial rfl)
theorem T_survey_maker_crowded_1 (z : ApiZone) (c0 : SurveyMaker) (post : Bool → Prop) (hm : V_survey_maker_crowded_1 z c0 post) :
    Tr Try.prog 92 [.agg (eApiZone z), .rp [.rp [.i c0.site.Floor.W, .i c0.site.Floor.H, .i c0.site.Floor.D, .sl 1 eI c0.site.Floor.Kind, .sl 1 eI c0.site.Floor.Out, .sl 5 eApiZone c0.site.Zones, .sl 2 eApiApart c0.site.Aparts, .sl 2 eApiShelf c0.site.Shelves, .sl 2 eApiStart c0.site.Robots, .rm kI veI c0.shelf, .rm kI veB c0.robot, .rm kI veB c0.zoned, .rm kS veI c0.names, .rm kI veB c0.oneways, .sl 1 eI c0.shelves, .sl 1 eI c0.zones]]] [] 0 (fun A H' k => ∃ y, post y ∧ A = (.b y) ∧ H' = [] ∧ k = 0) := by
 refine Tr.intro (n := 46) Try.func92 rfl Try.ntmps92 rfl (fun w0 ok F β hβ => ?_)
 unfold V_survey_maker_crowded_1 at hm
 refine C.seq (U.start ?_)
 refine U.e1 (o := _) rfl (.none rfl) (by exact Eff1.box rfl rfl rfl rfl rfl) ?_
 refine U.ps 1 T rfl ?_
 refine U.done (C.nx (C.seq (U.start ?_)))
 refine U.ps 1 T rfl ?_
 refine U.done (C.nx (C.seq (C.seq (U.start ?_))))
 refine U.ps 4 T rfl ?_
 refine U.done (C.nx ?_)
 refine C.jn (fun (x7 : Int) => [(2, .p 0 0), (4, .i x7)]) (fun (x7 : Int) => [(0, .box (eApiZone z))]) 1 hm (fun x7 hm => ?_) (fun J8 hm hJ8 => ?_)
 ·refine C.nx (C.seq (U.start ?_))
  refine U.ps 5 T rfl ?_
  refine U.done (C.nx (C.ret ?_))
  exact C.fin T (rs' := [.b (decide (x7 < z.Keep))]) (H' := []) (nl' := 0) [] rfl rfl (.eq rfl) trivial rfl rfl rfl rfl hβ ⟨decide (x7 < z.Keep), hm, rfl, rfl, rfl⟩
 ·refine C.block ?_
  refine St.wk (C.loop (fun (s9 : Int × Int) => [(1, .rp [.rp [.i c0.site.Floor.W, .i c0.site.Floor.H, .i c0.site.Floor.D, .sl 1 eI c0.site.Floor.Kind, .sl 1 eI c0.site.Floor.Out, .sl 5 eApiZone c0.site.Zones, .sl 2 eApiApart c0.site.Aparts, .sl 2 eApiShelf c0.site.Shelves, .sl 2 eApiStart c0.site.Robots, .rm kI veI c0.shelf, .rm kI veB c0.robot, .rm kI veB c0.zoned, .rm kS veI c0.names, .rm kI veB c0.oneways, .sl 1 eI c0.shelves, .sl 1 eI c0.zones]]), (2, .p 0 0), (4, .i s9.1), (10, .sl 1 eI z.Cells), (11, .i (z.Cells.length : Int)), (12, .i s9.2)]) (fun (s9 : Int × Int) => [(0, .box (eApiZone z))]) hm (fun s9 Y10 hm => ?_)) (Wk.mk' [some 0] rfl rfl (.eqs rfl) ⟨⟨_, rfl, .box rfl (.eq rfl)⟩, trivial⟩ rfl)
  refine C.seq (U.start ?_)
  refine U.ps 1 T rfl ?_
  refine U.done (C.nx (C.seq ?_))
  refine C.ite rfl hm (fun hb13 hm => ?_) (fun hb13 hm => ?_)
  ·refine C.skip (C.nx (C.seq (C.block (C.seq (U.start ?_)))))
   obtain ⟨x16, hx16, hm⟩ := hm
   refine U.r (o := _) rfl (.none rfl) rfl rfl (by exact Rd.ix T rfl rfl rfl rfl rfl rfl hx16) ?_
   refine U.ps 2 T rfl ?_
   refine U.done (C.nx (C.seq (U.start ?_)))
   refine U.ps 5 T rfl ?_
   refine U.r (o := _) rfl (.none rfl) rfl rfl (by exact Rd.lk2 T (ke := kI) (ve := veI) (xs := c0.shelf) (z0 := 0) (x := x16) rfl rfl kt3 zt3 (fun _ => rfl) rfl .rm rfl rfl rfl) ?_
   refine U.ps 5 T rfl ?_
   refine U.done (C.nx (C.seq ?_))
   refine C.jn (fun (x19 : Bool) => [(1, .rp [.rp [.i c0.site.Floor.W, .i c0.site.Floor.H, .i c0.site.Floor.D, .sl 1 eI c0.site.Floor.Kind, .sl 1 eI c0.site.Floor.Out, .sl 5 eApiZone c0.site.Zones, .sl 2 eApiApart c0.site.Aparts, .sl 2 eApiShelf c0.site.Shelves, .sl 2 eApiStart c0.site.Robots, .rm kI veI c0.shelf, .rm kI veB c0.robot, .rm kI veB c0.zoned, .rm kS veI c0.names, .rm kI veB c0.oneways, .sl 1 eI c0.shelves, .sl 1 eI c0.zones]]), (2, .p 0 0), (4, .i s9.1), (10, .sl 1 eI z.Cells), (11, .i (z.Cells.length : Int)), (12, .i s9.2), (38, .b x19)]) (fun (x19 : Bool) => [(0, .box (eApiZone z))]) 1 hm (fun x19 hm => ?_) (fun J20 hm hJ20 => ?_)
   ·refine C.nx ?_
    refine C.jn (fun (x24 : Int) => [(1, .rp [.rp [.i c0.site.Floor.W, .i c0.site.Floor.H, .i c0.site.Floor.D, .sl 1 eI c0.site.Floor.Kind, .sl 1 eI c0.site.Floor.Out, .sl 5 eApiZone c0.site.Zones, .sl 2 eApiApart c0.site.Aparts, .sl 2 eApiShelf c0.site.Shelves, .sl 2 eApiStart c0.site.Robots, .rm kI veI c0.shelf, .rm kI veB c0.robot, .rm kI veB c0.zoned, .rm kS veI c0.names, .rm kI veB c0.oneways, .sl 1 eI c0.shelves, .sl 1 eI c0.zones]]), (2, .p 0 0), (4, .i x24), (10, .sl 1 eI z.Cells), (11, .i (z.Cells.length : Int)), (12, .i s9.2)]) (fun (x24 : Int) => [(0, .box (eApiZone z))]) 1 hm (fun x24 hm => ?_) (fun J25 hm hJ25 => ?_)
    ·refine C.bnx (C.nx (U.start ?_))
     refine U.ps 2 T rfl ?_
     refine U.done (C.nx ?_)
     exact St.wk (C.next hm) (Wk.mk' [some 0] rfl rfl (.eqs rfl) ⟨⟨_, rfl, .box rfl (.eq rfl)⟩, trivial⟩ rfl)
    ·refine C.ite rfl hm (fun hb26 hm => ?_) (fun hb26 hm => ?_)
     ·refine U.start ?_
      refine U.ps 3 T rfl ?_
      refine U.done ?_
      exact St.wk (hJ25 _ hm) (Wk.mk' [some 0] rfl rfl (.eqs rfl) ⟨⟨_, rfl, .box rfl (.eq rfl)⟩, trivial⟩ rfl)
     ·refine C.skip ?_
      exact St.wk (hJ25 _ hm) (Wk.mk' [some 0] rfl rfl (.eqs rfl) ⟨⟨_, rfl, .box rfl (.eq rfl)⟩, trivial⟩ rfl)
   ·refine U.start ?_
    refine U.ps 3 T rfl ?_
    refine hm.cs (fun hb21 hm => ?_) (fun hb21 hm => ?_)
    ·refine U.sks 10 2 true 27 (ntF hb21) rfl rfl rfl ?_
     refine U.r (o := _) rfl (.none rfl) rfl rfl (by exact Rd.pk' rfl rfl (ntF hb21) rfl) ?_
     refine U.done ?_
     exact St.wk (hJ20 _ hm) (Wk.mk' [some 0] rfl rfl (.eqs rfl) ⟨⟨_, rfl, .box rfl (.eq rfl)⟩, trivial⟩ rfl)
    ·refine U.pg 7 2 true 27 (ntT hb21) T rfl rfl rfl rfl ?_
     obtain ⟨x22, hx22, hm⟩ := hm
     refine U.r (o := _) rfl (.take 2 true 27 _ (ntT hb21) rfl rfl rfl) rfl rfl (by exact Rd.ix T rfl rfl rfl rfl rfl rfl hx22) ?_
     refine U.pg 1 2 true 27 (ntT hb21) T rfl rfl rfl rfl ?_
     refine U.e (o := _) rfl (.take 2 true 27 _ (ntT hb21) rfl rfl rfl) (by exact Eff.c [] (v := true) (T_survey_stands x22 _ hm) en91 rfl rfl rfl (.eq rfl) trivial rfl rfl rfl rfl rfl rfl (fun _ _ => ⟨(.v _), trivial⟩) (.inr ⟨rfl, rfl⟩) (fun _ => rfl) (fun _ => rfl) rfl) (fun x23' hm => ?_)
     obtain ⟨x23⟩ := x23'
     refine U.r (o := _) rfl (.none rfl) rfl rfl (by exact Rd.pk rfl rfl (ntT hb21) rfl) ?_
     refine U.done ?_
     exact St.wk (hJ20 _ hm) (Wk.mk' [some 0] rfl rfl (.eqs rfl) ⟨⟨_, rfl, .box rfl (.eq rfl)⟩, trivial⟩ rfl)
  ·refine C.exit (C.ex (C.ex (C.bex ?_)))
   exact St.wk (hJ8 _ hm) (Wk.mk' [some 0] rfl rfl (.eqs rfl) ⟨⟨_, rfl, .box rfl (.eq rfl)⟩, trivial⟩ rfl)
theorem T_slices_IndexFunc_api_Zone_api_Zone__survey_maker_crowded_1 (s_1 : List ApiZone) (f_c0 : SurveyMaker) (post : Int → Prop) (hm : V_slices_IndexFunc_api_Zone_api_Zone__survey_maker_crowded_1 s_1 f_c0 post) :
    Tr Try.prog 52 [.sl 5 eApiZone s_1, .fn (.func 92) [] [.rp [.rp [.i f_c0.site.Floor.W, .i f_c0.site.Floor.H, .i f_c0.site.Floor.D, .sl 1 eI f_c0.site.Floor.Kind, .sl 1 eI f_c0.site.Floor.Out, .sl 5 eApiZone f_c0.site.Zones, .sl 2 eApiApart f_c0.site.Aparts, .sl 2 eApiShelf f_c0.site.Shelves, .sl 2 eApiStart f_c0.site.Robots, .rm kI veI f_c0.shelf, .rm kI veB f_c0.robot, .rm kI veB f_c0.zoned, .rm kS veI f_c0.names, .rm kI veB f_c0.oneways, .sl 1 eI f_c0.shelves, .sl 1 eI f_c0.zones]]]] [] 0 (fun A H' k => ∃ y, post y ∧ A = (.i y) ∧ H' = [] ∧ k = 0) := by
 refine Tr.intro (n := 19) Try.func52 rfl Try.ntmps52 rfl (fun w0 ok F β hβ => ?_)
 unfold V_slices_IndexFunc_api_Zone_api_Zone__survey_maker_crowded_1 at hm
 refine C.seq (U.start ?_)
 refine U.ps 1 T rfl ?_
 refine U.done (C.nx (C.seq (C.seq (U.start ?_))))
 refine U.ps 3 T rfl ?_
 refine U.done (C.nx ?_)
 refine C.jn (fun (x5 : Unit) => []) (fun (x5 : Unit) => []) 0 hm (fun x5 hm => ?_) (fun J6 hm hJ6 => ?_)
 ·refine C.nx (C.seq (U.start ?_))
  refine U.ps 1 T rfl ?_
  refine U.done (C.nx (C.ret ?_))
  exact C.fin T (rs' := [.i (-1)]) (H' := []) (nl' := 0) [] rfl rfl (.eq rfl) trivial rfl rfl rfl rfl hβ ⟨(-1), hm, rfl, rfl, rfl⟩
 ·refine C.block ?_
  refine St.wk (C.loop (fun (s7 : Int) => [(0, .sl 5 eApiZone s_1), (1, .fn (.func 92) [] [.rp [.rp [.i f_c0.site.Floor.W, .i f_c0.site.Floor.H, .i f_c0.site.Floor.D, .sl 1 eI f_c0.site.Floor.Kind, .sl 1 eI f_c0.site.Floor.Out, .sl 5 eApiZone f_c0.site.Zones, .sl 2 eApiApart f_c0.site.Aparts, .sl 2 eApiShelf f_c0.site.Shelves, .sl 2 eApiStart f_c0.site.Robots, .rm kI veI f_c0.shelf, .rm kI veB f_c0.robot, .rm kI veB f_c0.zoned, .rm kS veI f_c0.names, .rm kI veB f_c0.oneways, .sl 1 eI f_c0.shelves, .sl 1 eI f_c0.zones]]]), (7, .i (s_1.length : Int)), (8, .i s7)]) (fun (s7 : Int) => []) hm (fun s7 Y8 hm => ?_)) (Wk.mk' [] rfl rfl (.eqs rfl) trivial rfl)
  refine C.seq (U.start ?_)
  refine U.ps 1 T rfl ?_
  refine U.done (C.nx (C.seq ?_))
  refine C.ite rfl hm (fun hb11 hm => ?_) (fun hb11 hm => ?_)
  ·refine C.skip (C.nx (C.seq (C.block (C.seq (U.start ?_)))))
   refine U.ps 2 T rfl ?_
   refine U.done (C.nx (C.seq (U.start ?_)))
   refine U.ps 3 T rfl ?_
   obtain ⟨x16, hx16, hm⟩ := hm
   refine U.r (o := _) rfl (.none rfl) rfl rfl (by exact Rd.ix T rfl rfl rfl rfl rfl rfl hx16) ?_
   refine U.ps 1 T rfl ?_
   refine U.e (o := _) rfl (.none rfl) (by exact Eff.c [] (v := true) (T_survey_maker_crowded_1 x16 f_c0 _ hm) en92 rfl rfl rfl (.eq rfl) trivial rfl rfl rfl rfl rfl rfl (fun _ _ => ⟨(.v _), trivial⟩) (.inr ⟨rfl, rfl⟩) (fun _ => rfl) (fun _ => rfl) rfl) (fun x17' hm => ?_)
   obtain ⟨x17⟩ := x17'
   refine U.done (C.nx ?_)
   refine C.ite rfl hm (fun hb18 hm => ?_) (fun hb18 hm => ?_)
   ·refine C.seq (U.start ?_)
    refine U.ps 2 T rfl ?_
    refine U.done (C.nx (C.ret (C.brt (C.rt (C.rt (C.brt (C.rt ?_)))))))
    exact C.fin T (rs' := [.i s7]) (H' := []) (nl' := 0) [] rfl rfl (.eq rfl) trivial rfl rfl rfl rfl hβ ⟨s7, hm, rfl, rfl, rfl⟩
   ·refine C.skip (C.bnx (C.nx (U.start ?_)))
    refine U.ps 2 T rfl ?_
    refine U.done (C.nx ?_)
    exact St.wk (C.next hm) (Wk.mk' [] rfl rfl (.eqs rfl) trivial rfl)
  ·refine C.exit (C.ex (C.ex (C.bex ?_)))
   exact St.wk (hJ6 _ hm) (Wk.mk' [] rfl rfl trivial trivial rfl)
theorem T_survey_maker_crowded (m : SurveyMaker) (post : Int → Prop) (hm : V_survey_maker_crowded m post) :
    Tr Try.prog 72 [.rp [.i m.site.Floor.W, .i m.site.Floor.H, .i m.site.Floor.D, .sl 1 eI m.site.Floor.Kind, .sl 1 eI m.site.Floor.Out, .sl 5 eApiZone m.site.Zones, .sl 2 eApiApart m.site.Aparts, .sl 2 eApiShelf m.site.Shelves, .sl 2 eApiStart m.site.Robots, .rm kI veI m.shelf, .rm kI veB m.robot, .rm kI veB m.zoned, .rm kS veI m.names, .rm kI veB m.oneways, .sl 1 eI m.shelves, .sl 1 eI m.zones]] [] 0 (fun A H' k => ∃ y, post y ∧ A = (.i y) ∧ H' = [] ∧ k = 0) := by
 refine Tr.intro (n := 10) Try.func72 rfl Try.ntmps72 rfl (fun w0 ok F β hβ => ?_)
 unfold V_survey_maker_crowded at hm
 refine C.seq (U.start ?_)
 refine U.e1 (o := _) rfl (.none rfl) (by exact Eff1.box rfl rfl rfl rfl rfl) ?_
 refine U.ps 1 T rfl ?_
 refine U.done (C.nx (C.seq (U.start ?_)))
 refine U.ps 6 T rfl ?_
 refine U.e (o := _) rfl (.none rfl) (by exact Eff.c [] (v := true) (T_slices_IndexFunc_api_Zone_api_Zone__survey_maker_crowded_1 m.site.Zones m _ hm) en52 rfl rfl rfl (.cons (.eq rfl) (.cons (.fn (.eq rfl) (.cons (.fzp rfl rfl rfl rfl (.eq rfl) rfl) .nil)) .nil)) trivial rfl rfl rfl rfl rfl rfl (fun _ _ => ⟨(.v _), trivial⟩) (.inr ⟨rfl, rfl⟩) (fun _ => rfl) (fun _ => rfl) rfl) (fun x5' hm => ?_)
 obtain ⟨x5⟩ := x5'
 refine U.ps 1 T rfl ?_
 refine U.done (C.nx (C.ret ?_))
 exact C.fin T (rs' := [.i x5]) (H' := []) (nl' := 0) [] rfl rfl (.eq rfl) trivial rfl rfl rfl rfl hβ ⟨x5, hm, rfl, rfl, rfl⟩
theorem T_slices_Index_int_int (s_1 : List Int) (v : Int) (post : Int → Prop) (hm : V_slices_Index_int_int s_1 v post) :
    Tr Try.prog 100 [.sl 1 eI s_1, .i v] [] 0 (fun A H' k => ∃ y, post y ∧ A = (.i y) ∧ H' = [] ∧ k = 0) := by
 refine Tr.intro (n := 19) Try.func100 rfl Try.ntmps100 rfl (fun w0 ok F β hβ => ?_)
 unfold V_slices_Index_int_int at hm
 refine C.seq (U.start ?_)
 refine U.ps 1 T rfl ?_
 refine U.done (C.nx (C.seq (C.seq (U.start ?_))))
 refine U.ps 3 T rfl ?_
 refine U.done (C.nx ?_)
 refine C.jn (fun (x5 : Unit) => []) (fun (x5 : Unit) => []) 0 hm (fun x5 hm => ?_) (fun J6 hm hJ6 => ?_)
 ·refine C.nx (C.seq (U.start ?_))
  refine U.ps 1 T rfl ?_
  refine U.done (C.nx (C.ret ?_))
  exact C.fin T (rs' := [.i (-1)]) (H' := []) (nl' := 0) [] rfl rfl (.eq rfl) trivial rfl rfl rfl rfl hβ ⟨(-1), hm, rfl, rfl, rfl⟩
 ·refine C.block ?_
  refine St.wk (C.loop (fun (s7 : Int) => [(0, .sl 1 eI s_1), (1, .i v), (7, .i (s_1.length : Int)), (8, .i s7)]) (fun (s7 : Int) => []) hm (fun s7 Y8 hm => ?_)) (Wk.mk' [] rfl rfl (.eqs rfl) trivial rfl)
  refine C.seq (U.start ?_)
  refine U.ps 1 T rfl ?_
  refine U.done (C.nx (C.seq ?_))
  refine C.ite rfl hm (fun hb11 hm => ?_) (fun hb11 hm => ?_)
  ·refine C.skip (C.nx (C.seq (C.block (C.seq (U.start ?_)))))
   refine U.ps 2 T rfl ?_
   refine U.done (C.nx (C.seq (U.start ?_)))
   refine U.ps 3 T rfl ?_
   obtain ⟨x16, hx16, hm⟩ := hm
   refine U.r (o := _) rfl (.none rfl) rfl rfl (by exact Rd.ix T rfl rfl rfl rfl rfl rfl hx16) ?_
   refine U.ps 2 T rfl ?_
   refine U.done (C.nx ?_)
   refine C.ite rfl hm (fun hb17 hm => ?_) (fun hb17 hm => ?_)
   ·refine C.seq (U.start ?_)
    refine U.ps 2 T rfl ?_
    refine U.done (C.nx (C.ret (C.brt (C.rt (C.rt (C.brt (C.rt ?_)))))))
    exact C.fin T (rs' := [.i s7]) (H' := []) (nl' := 0) [] rfl rfl (.eq rfl) trivial rfl rfl rfl rfl hβ ⟨s7, hm, rfl, rfl, rfl⟩
   ·refine C.skip (C.bnx (C.nx (U.start ?_)))
    refine U.ps 2 T rfl ?_
    refine U.done (C.nx ?_)
    exact St.wk (C.next hm) (Wk.mk' [] rfl rfl (.eqs rfl) trivial rfl)
  ·refine C.exit (C.ex (C.ex (C.bex ?_)))
   exact St.wk (hJ6 _ hm) (Wk.mk' [] rfl rfl trivial trivial rfl)
theorem T_slices_Contains_int_int (s_1 : List Int) (v : Int) (post : Bool → Prop) (hm : V_slices_Contains_int_int s_1 v post) :
    Tr Try.prog 93 [.sl 1 eI s_1, .i v] [] 0 (fun A H' k => ∃ y, post y ∧ A = (.b y) ∧ H' = [] ∧ k = 0) := by
 refine Tr.intro (n := 9) Try.func93 rfl Try.ntmps93 rfl (fun w0 ok F β hβ => ?_)
 unfold V_slices_Contains_int_int at hm
 refine C.seq (U.start ?_)
 refine U.ps 1 T rfl ?_
 refine U.done (C.nx (C.seq (U.start ?_)))
 refine U.ps 2 T rfl ?_
 refine U.e (o := _) rfl (.none rfl) (by exact Eff.c [] (v := true) (T_slices_Index_int_int s_1 v _ hm) en100 rfl rfl rfl (.eq rfl) trivial rfl rfl rfl rfl rfl rfl (fun _ _ => ⟨(.v _), trivial⟩) (.inr ⟨rfl, rfl⟩) (fun _ => rfl) (fun _ => rfl) rfl) (fun x5' hm => ?_)
 obtain ⟨x5⟩ := x5'
 refine U.ps 2 T rfl ?_
 refine U.done (C.nx (C.ret ?_))
 exact C.fin T (rs' := [.b (decide (x5 ≥ 0))]) (H' := []) (nl' := 0) [] rfl rfl (.eq rfl) trivial rfl rfl rfl rfl hβ ⟨decide (x5 ≥ 0), hm, rfl, rfl, rfl⟩
theorem T_survey_maker_charger (m : SurveyMaker) (post : Bool → Prop) (hm : V_survey_maker_charger m post) :
    Tr Try.prog 73 [.rp [.i m.site.Floor.W, .i m.site.Floor.H, .i m.site.Floor.D, .sl 1 eI m.site.Floor.Kind, .sl 1 eI m.site.Floor.Out, .sl 5 eApiZone m.site.Zones, .sl 2 eApiApart m.site.Aparts, .sl 2 eApiShelf m.site.Shelves, .sl 2 eApiStart m.site.Robots, .rm kI veI m.shelf, .rm kI veB m.robot, .rm kI veB m.zoned, .rm kS veI m.names, .rm kI veB m.oneways, .sl 1 eI m.shelves, .sl 1 eI m.zones]] [] 0 (fun A H' k => ∃ y, post y ∧ A = (.b y) ∧ H' = [] ∧ k = 0) := by
 refine Tr.intro (n := 10) Try.func73 rfl Try.ntmps73 rfl (fun w0 ok F β hβ => ?_)
 unfold V_survey_maker_charger at hm
 refine C.seq (U.start ?_)
 refine U.ps 1 T rfl ?_
 refine U.done (C.nx (C.seq (U.start ?_)))
 refine U.ps 6 T rfl ?_
 refine U.e (o := _) rfl (.none rfl) (by exact Eff.c [] (v := true) (T_slices_Contains_int_int m.site.Floor.Kind 3 _ hm) en93 rfl rfl rfl (.eq rfl) trivial rfl rfl rfl rfl rfl rfl (fun _ _ => ⟨(.v _), trivial⟩) (.inr ⟨rfl, rfl⟩) (fun _ => rfl) (fun _ => rfl) rfl) (fun x5' hm => ?_)
 obtain ⟨x5⟩ := x5'
 refine U.ps 1 T rfl ?_
 refine U.done (C.nx (C.ret ?_))
 exact C.fin T (rs' := [.b x5]) (H' := []) (nl' := 0) [] rfl rfl (.eq rfl) trivial rfl rfl rfl rfl hβ ⟨x5, hm, rfl, rfl, rfl⟩
theorem T_survey_Right (s_1 : ApiSite) (post : Bool → Prop) (hm : V_survey_Right s_1 post) :
    Tr Try.prog 43 [.agg (eApiSite s_1)] [] 0 (fun A H' k => ∃ y, post y ∧ A = (.b y) ∧ H' = [] ∧ k = 0) := by
 refine Tr.intro (n := 109) Try.func43 rfl Try.ntmps43 rfl (fun w0 ok F β hβ => ?_)
 unfold V_survey_Right at hm
 refine C.seq (U.start ?_)
 refine U.e1 (o := _) rfl (.none rfl) (by exact Eff1.box rfl rfl rfl rfl rfl) ?_
 refine U.ps 1 T rfl ?_
 refine U.done (C.nx (C.seq (C.seq (U.start ?_))))
 refine U.ps 2 T rfl ?_
 refine U.e (o := _) rfl (.none rfl) (by exact Eff.c [] (v := true) (T_floor_Right s_1.Floor _ hm) en61 rfl rfl rfl (.eq rfl) trivial rfl rfl rfl rfl rfl rfl (fun _ _ => ⟨(.v _), trivial⟩) (.inr ⟨rfl, rfl⟩) (fun _ => rfl) (fun _ => rfl) rfl) (fun x5' hm => ?_)
 obtain ⟨x5⟩ := x5'
 refine U.ps 1 T rfl ?_
 refine U.done (C.nx ?_)
 refine C.ite rfl hm (fun hb6 hm => ?_) (fun hb6 hm => ?_)
 ·refine C.seq (U.start ?_)
  refine U.ps 1 T rfl ?_
  refine U.done (C.nx (C.ret (C.rt ?_)))
  exact C.fin T (rs' := [.b false]) (H' := []) (nl' := 0) [] rfl rfl (.eq rfl) trivial rfl rfl rfl rfl hβ ⟨false, hm, rfl, rfl, rfl⟩
 ·refine C.skip (C.nx (C.seq (U.start ?_)))
  refine U.ps 2 T rfl ?_
  refine U.e (o := _) rfl (.none rfl) (by exact Eff.c [] (v := false) (T_survey_newMaker s_1.Floor _ hm) en62 rfl rfl rfl (.eq rfl) trivial rfl rfl rfl rfl rfl rfl (fun h => by cases h) (.inr ⟨rfl, rfl⟩) (fun _ => rfl) (fun _ => rfl) rfl) (fun x11' hm => ?_)
  obtain ⟨x11⟩ := x11'
  refine U.ps 1 T rfl ?_
  refine U.done (C.nx (C.seq (C.seq (U.start ?_))))
  refine U.ps 4 T rfl ?_
  refine U.done (C.nx ?_)
  refine C.jn (fun (x14 : Int × Int × Int × List Int × List Int × List ApiZone × List ApiApart × List ApiShelf × List ApiStart × List (Int × Int) × List (Int × Bool) × List (Int × Bool) × List (ByteArray × Int) × List (Int × Bool) × List Int × List Int) => [(1, .p 0 0), (3, .p 1 0)]) (fun (x14 : Int × Int × Int × List Int × List Int × List ApiZone × List ApiApart × List ApiShelf × List ApiStart × List (Int × Int) × List (Int × Bool) × List (Int × Bool) × List (ByteArray × Int) × List (Int × Bool) × List Int × List Int) => [(0, .box (eApiSite s_1)), (1, .box [.i x14.1, .i x14.2.1, .i x14.2.2.1, .sl 1 eI x14.2.2.2.1, .sl 1 eI x14.2.2.2.2.1, .o 2, .o 3, .o 4, .o 5, .o 6, .o 7, .o 8, .o 9, .o 10, .o 11, .o 12]), (2, .val (.os 5 eApiZone x14.2.2.2.2.2.1)), (3, .val (.os 2 eApiApart x14.2.2.2.2.2.2.1)), (4, .val (.os 2 eApiShelf x14.2.2.2.2.2.2.2.1)), (5, .val (.os 2 eApiStart x14.2.2.2.2.2.2.2.2.1)), (6, .val (.om kI veI x14.2.2.2.2.2.2.2.2.2.1)), (7, .val (.om kI veB x14.2.2.2.2.2.2.2.2.2.2.1)), (8, .val (.om kI veB x14.2.2.2.2.2.2.2.2.2.2.2.1)), (9, .val (.om kS veI x14.2.2.2.2.2.2.2.2.2.2.2.2.1)), (10, .val (.om kI veB x14.2.2.2.2.2.2.2.2.2.2.2.2.2.1)), (11, .val (.os 1 eI x14.2.2.2.2.2.2.2.2.2.2.2.2.2.2.1)), (12, .val (.os 1 eI x14.2.2.2.2.2.2.2.2.2.2.2.2.2.2.2))]) 13 hm (fun x14 hm => ?_) (fun J15 hm hJ15 => ?_)
  ·refine C.nx (C.seq (C.seq (U.start ?_)))
   refine U.ps 4 T rfl ?_
   refine U.done (C.nx ?_)
   refine C.jn (fun (x43 : Int × Int × Int × List Int × List Int × List ApiZone × List ApiApart × List ApiShelf × List ApiStart × List (Int × Int) × List (Int × Bool) × List (Int × Bool) × List (ByteArray × Int) × List (Int × Bool) × List Int × List Int) => [(1, .p 0 0), (3, .p 1 0)]) (fun (x43 : Int × Int × Int × List Int × List Int × List ApiZone × List ApiApart × List ApiShelf × List ApiStart × List (Int × Int) × List (Int × Bool) × List (Int × Bool) × List (ByteArray × Int) × List (Int × Bool) × List Int × List Int) => [(0, .box (eApiSite s_1)), (1, .box [.i x43.1, .i x43.2.1, .i x43.2.2.1, .sl 1 eI x43.2.2.2.1, .sl 1 eI x43.2.2.2.2.1, .o 2, .o 3, .o 4, .o 5, .o 6, .o 7, .o 8, .o 9, .o 10, .o 11, .o 12]), (2, .val (.os 5 eApiZone x43.2.2.2.2.2.1)), (3, .val (.os 2 eApiApart x43.2.2.2.2.2.2.1)), (4, .val (.os 2 eApiShelf x43.2.2.2.2.2.2.2.1)), (5, .val (.os 2 eApiStart x43.2.2.2.2.2.2.2.2.1)), (6, .val (.om kI veI x43.2.2.2.2.2.2.2.2.2.1)), (7, .val (.om kI veB x43.2.2.2.2.2.2.2.2.2.2.1)), (8, .val (.om kI veB x43.2.2.2.2.2.2.2.2.2.2.2.1)), (9, .val (.om kS veI x43.2.2.2.2.2.2.2.2.2.2.2.2.1)), (10, .val (.om kI veB x43.2.2.2.2.2.2.2.2.2.2.2.2.2.1)), (11, .val (.os 1 eI x43.2.2.2.2.2.2.2.2.2.2.2.2.2.2.1)), (12, .val (.os 1 eI x43.2.2.2.2.2.2.2.2.2.2.2.2.2.2.2))]) 13 hm (fun x43 hm => ?_) (fun J44 hm hJ44 => ?_)
   ·refine C.nx (C.seq (C.seq (U.start ?_)))
    refine U.ps 4 T rfl ?_
    refine U.done (C.nx ?_)
    refine C.jn (fun (x63 : Int × Int × Int × List Int × List Int × List ApiZone × List ApiApart × List ApiShelf × List ApiStart × List (Int × Int) × List (Int × Bool) × List (Int × Bool) × List (ByteArray × Int) × List (Int × Bool) × List Int × List Int) => [(1, .p 0 0), (3, .p 1 0)]) (fun (x63 : Int × Int × Int × List Int × List Int × List ApiZone × List ApiApart × List ApiShelf × List ApiStart × List (Int × Int) × List (Int × Bool) × List (Int × Bool) × List (ByteArray × Int) × List (Int × Bool) × List Int × List Int) => [(0, .box (eApiSite s_1)), (1, .box [.i x63.1, .i x63.2.1, .i x63.2.2.1, .sl 1 eI x63.2.2.2.1, .sl 1 eI x63.2.2.2.2.1, .o 2, .o 3, .o 4, .o 5, .o 6, .o 7, .o 8, .o 9, .o 10, .o 11, .o 12]), (2, .val (.os 5 eApiZone x63.2.2.2.2.2.1)), (3, .val (.os 2 eApiApart x63.2.2.2.2.2.2.1)), (4, .val (.os 2 eApiShelf x63.2.2.2.2.2.2.2.1)), (5, .val (.os 2 eApiStart x63.2.2.2.2.2.2.2.2.1)), (6, .val (.om kI veI x63.2.2.2.2.2.2.2.2.2.1)), (7, .val (.om kI veB x63.2.2.2.2.2.2.2.2.2.2.1)), (8, .val (.om kI veB x63.2.2.2.2.2.2.2.2.2.2.2.1)), (9, .val (.om kS veI x63.2.2.2.2.2.2.2.2.2.2.2.2.1)), (10, .val (.om kI veB x63.2.2.2.2.2.2.2.2.2.2.2.2.2.1)), (11, .val (.os 1 eI x63.2.2.2.2.2.2.2.2.2.2.2.2.2.2.1)), (12, .val (.os 1 eI x63.2.2.2.2.2.2.2.2.2.2.2.2.2.2.2))]) 13 hm (fun x63 hm => ?_) (fun J64 hm hJ64 => ?_)
    ·refine C.nx (C.seq (C.seq (U.start ?_)))
     refine U.ps 4 T rfl ?_
     refine U.done (C.nx ?_)
     refine C.jn (fun (x83 : Int × Int × Int × List Int × List Int × List ApiZone × List ApiApart × List ApiShelf × List ApiStart × List (Int × Int) × List (Int × Bool) × List (Int × Bool) × List (ByteArray × Int) × List (Int × Bool) × List Int × List Int) => [(3, .p 0 0)]) (fun (x83 : Int × Int × Int × List Int × List Int × List ApiZone × List ApiApart × List ApiShelf × List ApiStart × List (Int × Int) × List (Int × Bool) × List (Int × Bool) × List (ByteArray × Int) × List (Int × Bool) × List Int × List Int) => [(0, .box [.i x83.1, .i x83.2.1, .i x83.2.2.1, .sl 1 eI x83.2.2.2.1, .sl 1 eI x83.2.2.2.2.1, .o 1, .o 2, .o 3, .o 4, .o 5, .o 6, .o 7, .o 8, .o 9, .o 10, .o 11]), (1, .val (.os 5 eApiZone x83.2.2.2.2.2.1)), (2, .val (.os 2 eApiApart x83.2.2.2.2.2.2.1)), (3, .val (.os 2 eApiShelf x83.2.2.2.2.2.2.2.1)), (4, .val (.os 2 eApiStart x83.2.2.2.2.2.2.2.2.1)), (5, .val (.om kI veI x83.2.2.2.2.2.2.2.2.2.1)), (6, .val (.om kI veB x83.2.2.2.2.2.2.2.2.2.2.1)), (7, .val (.om kI veB x83.2.2.2.2.2.2.2.2.2.2.2.1)), (8, .val (.om kS veI x83.2.2.2.2.2.2.2.2.2.2.2.2.1)), (9, .val (.om kI veB x83.2.2.2.2.2.2.2.2.2.2.2.2.2.1)), (10, .val (.os 1 eI x83.2.2.2.2.2.2.2.2.2.2.2.2.2.2.1)), (11, .val (.os 1 eI x83.2.2.2.2.2.2.2.2.2.2.2.2.2.2.2))]) 12 hm (fun x83 hm => ?_) (fun J84 hm hJ84 => ?_)
     ·refine C.nx (C.seq ?_)
      refine C.jn (fun (x101 : Bool) => [(2, .b x101)]) (fun (x101 : Bool) => []) 0 hm (fun x101 hm => ?_) (fun J102 hm hJ102 => ?_)
      ·refine C.nx (C.ret ?_)
       exact C.fin T (rs' := [.b x101]) (H' := []) (nl' := 0) [] rfl rfl (.eq rfl) trivial rfl rfl rfl rfl hβ ⟨x101, hm, rfl, rfl, rfl⟩
      ·refine U.start ?_
       refine U.ps 1 T rfl ?_
       refine U.e (o := _) rfl (.none rfl) (by exact Eff.c [] (v := true) (T_survey_maker_beside ({ site := ({ Floor := ({ W := x83.1, H := x83.2.1, D := x83.2.2.1, Kind := x83.2.2.2.1, Out := x83.2.2.2.2.1 : ApiFloor }), Zones := x83.2.2.2.2.2.1, Aparts := x83.2.2.2.2.2.2.1, Shelves := x83.2.2.2.2.2.2.2.1, Robots := x83.2.2.2.2.2.2.2.2.1 : ApiSite }), shelf := x83.2.2.2.2.2.2.2.2.2.1, robot := x83.2.2.2.2.2.2.2.2.2.2.1, zoned := x83.2.2.2.2.2.2.2.2.2.2.2.1, names := x83.2.2.2.2.2.2.2.2.2.2.2.2.1, oneways := x83.2.2.2.2.2.2.2.2.2.2.2.2.2.1, shelves := x83.2.2.2.2.2.2.2.2.2.2.2.2.2.2.1, zones := x83.2.2.2.2.2.2.2.2.2.2.2.2.2.2.2 : SurveyMaker }) _ hm) en71 rfl rfl rfl (.cons (.fzp rfl rfl rfl rfl (.cons (.eq rfl) (.cons (.eq rfl) (.cons (.eq rfl) (.cons (.eq rfl) (.cons (.eq rfl) (.cons (.fz rfl rfl rfl (.os fun _ => .cons (.ro rfl) (.cons (.ro rfl) (.cons (.ro rfl) (.cons (.ro rfl) (.cons (.ro rfl) .nil)))))) (.cons (.fz rfl rfl rfl (.os fun _ => .cons (.ro rfl) (.cons (.ro rfl) .nil))) (.cons (.fz rfl rfl rfl (.os fun _ => .cons (.ro rfl) (.cons (.ro rfl) .nil))) (.cons (.fz rfl rfl rfl (.os fun _ => .cons (.ro rfl) (.cons (.ro rfl) .nil))) (.cons (.fz rfl rfl rfl (.om fun _ => .ro rfl)) (.cons (.fz rfl rfl rfl (.om fun _ => .ro rfl)) (.cons (.fz rfl rfl rfl (.om fun _ => .ro rfl)) (.cons (.fz rfl rfl rfl (.om fun _ => .ro rfl)) (.cons (.fz rfl rfl rfl (.om fun _ => .ro rfl)) (.cons (.fz rfl rfl rfl (.os fun _ => .cons (.ro rfl) .nil)) (.cons (.fz rfl rfl rfl (.os fun _ => .cons (.ro rfl) .nil)) .nil)))))))))))))))) rfl) .nil) trivial rfl rfl rfl rfl rfl rfl (fun _ _ => ⟨(.v _), trivial⟩) (.inr ⟨rfl, rfl⟩) (fun _ => rfl) (fun _ => rfl) rfl) (fun x103' hm => ?_)
       obtain ⟨x103⟩ := x103'
       refine U.ps 2 T rfl ?_
       refine hm.cs (fun hb104 hm => ?_) (fun hb104 hm => ?_)
       ·refine U.pg 1 3 true 100 hb104 T rfl rfl rfl rfl ?_
        refine U.e (o := _) rfl (.take 3 true 100 _ hb104 rfl rfl rfl) (by exact Eff.c [] (v := true) (T_survey_maker_crowded ({ site := ({ Floor := ({ W := x83.1, H := x83.2.1, D := x83.2.2.1, Kind := x83.2.2.2.1, Out := x83.2.2.2.2.1 : ApiFloor }), Zones := x83.2.2.2.2.2.1, Aparts := x83.2.2.2.2.2.2.1, Shelves := x83.2.2.2.2.2.2.2.1, Robots := x83.2.2.2.2.2.2.2.2.1 : ApiSite }), shelf := x83.2.2.2.2.2.2.2.2.2.1, robot := x83.2.2.2.2.2.2.2.2.2.2.1, zoned := x83.2.2.2.2.2.2.2.2.2.2.2.1, names := x83.2.2.2.2.2.2.2.2.2.2.2.2.1, oneways := x83.2.2.2.2.2.2.2.2.2.2.2.2.2.1, shelves := x83.2.2.2.2.2.2.2.2.2.2.2.2.2.2.1, zones := x83.2.2.2.2.2.2.2.2.2.2.2.2.2.2.2 : SurveyMaker }) _ hm) en72 rfl rfl rfl (.cons (.fzp rfl rfl rfl rfl (.cons (.eq rfl) (.cons (.eq rfl) (.cons (.eq rfl) (.cons (.eq rfl) (.cons (.eq rfl) (.cons (.fz rfl rfl rfl (.os fun _ => .cons (.ro rfl) (.cons (.ro rfl) (.cons (.ro rfl) (.cons (.ro rfl) (.cons (.ro rfl) .nil)))))) (.cons (.fz rfl rfl rfl (.os fun _ => .cons (.ro rfl) (.cons (.ro rfl) .nil))) (.cons (.fz rfl rfl rfl (.os fun _ => .cons (.ro rfl) (.cons (.ro rfl) .nil))) (.cons (.fz rfl rfl rfl (.os fun _ => .cons (.ro rfl) (.cons (.ro rfl) .nil))) (.cons (.fz rfl rfl rfl (.om fun _ => .ro rfl)) (.cons (.fz rfl rfl rfl (.om fun _ => .ro rfl)) (.cons (.fz rfl rfl rfl (.om fun _ => .ro rfl)) (.cons (.fz rfl rfl rfl (.om fun _ => .ro rfl)) (.cons (.fz rfl rfl rfl (.om fun _ => .ro rfl)) (.cons (.fz rfl rfl rfl (.os fun _ => .cons (.ro rfl) .nil)) (.cons (.fz rfl rfl rfl (.os fun _ => .cons (.ro rfl) .nil)) .nil)))))))))))))))) rfl) .nil) trivial rfl rfl rfl rfl rfl rfl (fun _ _ => ⟨(.v _), trivial⟩) (.inr ⟨rfl, rfl⟩) (fun _ => rfl) (fun _ => rfl) rfl) (fun x105' hm => ?_)
        obtain ⟨x105⟩ := x105'
        refine U.pg 1 3 true 100 hb104 T rfl rfl rfl rfl ?_
        refine U.r (o := _) rfl (.none rfl) rfl rfl (by exact Rd.pk rfl rfl hb104 rfl) ?_
        refine U.ps 1 T rfl ?_
        refine hm.cs (fun hb106 hm => ?_) (fun hb106 hm => ?_)
        ·refine U.pg 1 8 true 105 hb106 T rfl rfl rfl rfl ?_
         refine U.e (o := _) rfl (.take 8 true 105 _ hb106 rfl rfl rfl) (by exact Eff.c [] (v := true) (T_survey_maker_charger ({ site := ({ Floor := ({ W := x83.1, H := x83.2.1, D := x83.2.2.1, Kind := x83.2.2.2.1, Out := x83.2.2.2.2.1 : ApiFloor }), Zones := x83.2.2.2.2.2.1, Aparts := x83.2.2.2.2.2.2.1, Shelves := x83.2.2.2.2.2.2.2.1, Robots := x83.2.2.2.2.2.2.2.2.1 : ApiSite }), shelf := x83.2.2.2.2.2.2.2.2.2.1, robot := x83.2.2.2.2.2.2.2.2.2.2.1, zoned := x83.2.2.2.2.2.2.2.2.2.2.2.1, names := x83.2.2.2.2.2.2.2.2.2.2.2.2.1, oneways := x83.2.2.2.2.2.2.2.2.2.2.2.2.2.1, shelves := x83.2.2.2.2.2.2.2.2.2.2.2.2.2.2.1, zones := x83.2.2.2.2.2.2.2.2.2.2.2.2.2.2.2 : SurveyMaker }) _ hm) en73 rfl rfl rfl (.cons (.fzp rfl rfl rfl rfl (.cons (.eq rfl) (.cons (.eq rfl) (.cons (.eq rfl) (.cons (.eq rfl) (.cons (.eq rfl) (.cons (.fz rfl rfl rfl (.os fun _ => .cons (.ro rfl) (.cons (.ro rfl) (.cons (.ro rfl) (.cons (.ro rfl) (.cons (.ro rfl) .nil)))))) (.cons (.fz rfl rfl rfl (.os fun _ => .cons (.ro rfl) (.cons (.ro rfl) .nil))) (.cons (.fz rfl rfl rfl (.os fun _ => .cons (.ro rfl) (.cons (.ro rfl) .nil))) (.cons (.fz rfl rfl rfl (.os fun _ => .cons (.ro rfl) (.cons (.ro rfl) .nil))) (.cons (.fz rfl rfl rfl (.om fun _ => .ro rfl)) (.cons (.fz rfl rfl rfl (.om fun _ => .ro rfl)) (.cons (.fz rfl rfl rfl (.om fun _ => .ro rfl)) (.cons (.fz rfl rfl rfl (.om fun _ => .ro rfl)) (.cons (.fz rfl rfl rfl (.om fun _ => .ro rfl)) (.cons (.fz rfl rfl rfl (.os fun _ => .cons (.ro rfl) .nil)) (.cons (.fz rfl rfl rfl (.os fun _ => .cons (.ro rfl) .nil)) .nil)))))))))))))))) rfl) .nil) trivial rfl rfl rfl rfl rfl rfl (fun _ _ => ⟨(.v _), trivial⟩) (.inr ⟨rfl, rfl⟩) (fun _ => rfl) (fun _ => rfl) rfl) (fun x107' hm => ?_)
         obtain ⟨x107⟩ := x107'
         refine U.r (o := _) rfl (.none rfl) rfl rfl (by exact Rd.pk rfl rfl hb106 rfl) ?_
         refine U.ps 1 T rfl ?_
         refine U.done ?_
         exact St.wk (hJ102 _ hm) (Wk.mk' [] rfl rfl (.eqs rfl) trivial rfl)
        ·refine U.sks 2 8 true 105 hb106 rfl rfl rfl ?_
         refine U.r (o := _) rfl (.none rfl) rfl rfl (by exact Rd.pk' rfl rfl hb106 rfl) ?_
         refine U.ps 1 T rfl ?_
         refine U.done ?_
         exact St.wk (hJ102 _ hm) (Wk.mk' [] rfl rfl (.eqs rfl) trivial rfl)
       ·refine U.sks 3 3 true 100 hb104 rfl rfl rfl ?_
        refine U.r (o := _) rfl (.none rfl) rfl rfl (by exact Rd.pk' rfl rfl hb104 rfl) ?_
        refine U.ps 1 T rfl ?_
        refine U.sks 2 8 true 105 rfl rfl rfl rfl ?_
        refine U.r (o := _) rfl (.none rfl) rfl rfl (by exact Rd.pk' rfl rfl rfl rfl) ?_
        refine U.ps 1 T rfl ?_
        refine U.done ?_
        exact St.wk (hJ102 _ hm) (Wk.mk' [] rfl rfl (.eqs rfl) trivial rfl)
     ·refine C.block ?_
      refine St.wk (C.loop (fun (s85 : Int × Int × Int × List Int × List Int × List ApiZone × List ApiApart × List ApiShelf × List ApiStart × List (Int × Int) × List (Int × Bool) × List (Int × Bool) × List (ByteArray × Int) × List (Int × Bool) × List Int × List Int × Int) => [(3, .p 0 0), (86, .sl 2 eApiStart s_1.Robots), (87, .i (s_1.Robots.length : Int)), (88, .i s85.2.2.2.2.2.2.2.2.2.2.2.2.2.2.2.2)]) (fun (s85 : Int × Int × Int × List Int × List Int × List ApiZone × List ApiApart × List ApiShelf × List ApiStart × List (Int × Int) × List (Int × Bool) × List (Int × Bool) × List (ByteArray × Int) × List (Int × Bool) × List Int × List Int × Int) => [(0, .box [.i s85.1, .i s85.2.1, .i s85.2.2.1, .sl 1 eI s85.2.2.2.1, .sl 1 eI s85.2.2.2.2.1, .o 1, .o 2, .o 3, .o 4, .o 5, .o 6, .o 7, .o 8, .o 9, .o 10, .o 11]), (1, .val (.os 5 eApiZone s85.2.2.2.2.2.1)), (2, .val (.os 2 eApiApart s85.2.2.2.2.2.2.1)), (3, .val (.os 2 eApiShelf s85.2.2.2.2.2.2.2.1)), (4, .val (.os 2 eApiStart s85.2.2.2.2.2.2.2.2.1)), (5, .val (.om kI veI s85.2.2.2.2.2.2.2.2.2.1)), (6, .val (.om kI veB s85.2.2.2.2.2.2.2.2.2.2.1)), (7, .val (.om kI veB s85.2.2.2.2.2.2.2.2.2.2.2.1)), (8, .val (.om kS veI s85.2.2.2.2.2.2.2.2.2.2.2.2.1)), (9, .val (.om kI veB s85.2.2.2.2.2.2.2.2.2.2.2.2.2.1)), (10, .val (.os 1 eI s85.2.2.2.2.2.2.2.2.2.2.2.2.2.2.1)), (11, .val (.os 1 eI s85.2.2.2.2.2.2.2.2.2.2.2.2.2.2.2.1))]) hm (fun s85 Y86 hm => ?_)) (Wk.mk' [some 1, some 2, some 3, some 4, some 5, some 6, some 7, some 8, some 9, some 10, some 11, some 12] rfl rfl (.eqs rfl) ⟨⟨_, rfl, .box rfl (.eq rfl)⟩, ⟨_, rfl, .val rfl⟩, ⟨_, rfl, .val rfl⟩, ⟨_, rfl, .val rfl⟩, ⟨_, rfl, .val rfl⟩, ⟨_, rfl, .val rfl⟩, ⟨_, rfl, .val rfl⟩, ⟨_, rfl, .val rfl⟩, ⟨_, rfl, .val rfl⟩, ⟨_, rfl, .val rfl⟩, ⟨_, rfl, .val rfl⟩, ⟨_, rfl, .val rfl⟩, trivial⟩ rfl)
      refine C.seq (U.start ?_)
      refine U.ps 1 T rfl ?_
      refine U.done (C.nx (C.seq ?_))
      refine C.ite rfl hm (fun hb89 hm => ?_) (fun hb89 hm => ?_)
      ·refine C.skip (C.nx (C.seq (C.block (C.seq (U.start ?_)))))
       obtain ⟨x92, hx92, hm⟩ := hm
       refine U.r (o := _) rfl (.none rfl) rfl rfl (by exact Rd.ix T rfl rfl rfl rfl rfl rfl hx92) ?_
       refine U.ps 1 T rfl ?_
       refine U.e1 (o := _) rfl (.none rfl) (by exact Eff1.al T rfl rfl rfl rfl) ?_
       refine U.e1 (o := _) rfl (.none rfl) (by exact Eff1.st T rfl rfl rfl rfl rfl rfl rfl rfl rfl rfl) ?_
       refine U.done (C.nx (C.seq (U.start ?_)))
       refine U.ps 2 T rfl ?_
       refine U.e (o := _) rfl (.none rfl) (by exact Eff.c [some 0, some 1, some 2, some 3, some 4, some 5, some 6, some 7, some 8, some 9, some 10, some 11] (v := false) (T_survey_maker_addRobot__p0 x92 ({ site := ({ Floor := ({ W := s85.1, H := s85.2.1, D := s85.2.2.1, Kind := s85.2.2.2.1, Out := s85.2.2.2.2.1 : ApiFloor }), Zones := s85.2.2.2.2.2.1, Aparts := s85.2.2.2.2.2.2.1, Shelves := s85.2.2.2.2.2.2.2.1, Robots := s85.2.2.2.2.2.2.2.2.1 : ApiSite }), shelf := s85.2.2.2.2.2.2.2.2.2.1, robot := s85.2.2.2.2.2.2.2.2.2.2.1, zoned := s85.2.2.2.2.2.2.2.2.2.2.2.1, names := s85.2.2.2.2.2.2.2.2.2.2.2.2.1, oneways := s85.2.2.2.2.2.2.2.2.2.2.2.2.2.1, shelves := s85.2.2.2.2.2.2.2.2.2.2.2.2.2.2.1, zones := s85.2.2.2.2.2.2.2.2.2.2.2.2.2.2.2.1 : SurveyMaker }) _ hm) en70 rfl rfl rfl (.eq rfl) ⟨⟨_, rfl, .box rfl (.eq rfl)⟩, ⟨_, rfl, .val rfl⟩, ⟨_, rfl, .val rfl⟩, ⟨_, rfl, .val rfl⟩, ⟨_, rfl, .val rfl⟩, ⟨_, rfl, .val rfl⟩, ⟨_, rfl, .val rfl⟩, ⟨_, rfl, .val rfl⟩, ⟨_, rfl, .val rfl⟩, ⟨_, rfl, .val rfl⟩, ⟨_, rfl, .val rfl⟩, ⟨_, rfl, .val rfl⟩, trivial⟩ rfl rfl rfl rfl rfl rfl (fun h => by cases h) (.inl rfl) (fun _ => rfl) (fun _ => rfl) rfl) (fun x95' hm => ?_)
       obtain ⟨x95⟩ := x95'
       refine U.ps 1 T rfl ?_
       refine U.done (C.nx ?_)
       refine C.ite rfl hm (fun hb96 hm => ?_) (fun hb96 hm => ?_)
       ·refine C.seq (U.start ?_)
        refine U.ps 1 T rfl ?_
        refine U.done (C.nx (C.ret (C.brt (C.rt (C.rt (C.brt (C.rt ?_)))))))
        exact C.fin T (rs' := [.b false]) (H' := []) (nl' := 0) [] rfl rfl (.eq rfl) trivial rfl rfl rfl rfl hβ ⟨false, hm, rfl, rfl, rfl⟩
       ·refine C.skip (C.bnx (C.nx (U.start ?_)))
        refine U.ps 2 T rfl ?_
        refine U.done (C.nx ?_)
        exact St.wk (C.next hm) (Wk.mk' [some 0, some 25, some 26, some 27, some 28, some 29, some 30, some 31, some 32, some 33, some 34, some 35] rfl rfl (.eqs rfl) ⟨⟨_, rfl, .box rfl (.eq rfl)⟩, ⟨_, rfl, .val rfl⟩, ⟨_, rfl, .val rfl⟩, ⟨_, rfl, .val rfl⟩, ⟨_, rfl, .val rfl⟩, ⟨_, rfl, .val rfl⟩, ⟨_, rfl, .val rfl⟩, ⟨_, rfl, .val rfl⟩, ⟨_, rfl, .val rfl⟩, ⟨_, rfl, .val rfl⟩, ⟨_, rfl, .val rfl⟩, ⟨_, rfl, .val rfl⟩, trivial⟩ rfl)
      ·refine C.exit (C.ex (C.ex (C.bex ?_)))
       exact St.wk (hJ84 _ hm) (Wk.mk' [some 0, some 1, some 2, some 3, some 4, some 5, some 6, some 7, some 8, some 9, some 10, some 11] rfl rfl (.eqs rfl) ⟨⟨_, rfl, .box rfl (.eq rfl)⟩, ⟨_, rfl, .val rfl⟩, ⟨_, rfl, .val rfl⟩, ⟨_, rfl, .val rfl⟩, ⟨_, rfl, .val rfl⟩, ⟨_, rfl, .val rfl⟩, ⟨_, rfl, .val rfl⟩, ⟨_, rfl, .val rfl⟩, ⟨_, rfl, .val rfl⟩, ⟨_, rfl, .val rfl⟩, ⟨_, rfl, .val rfl⟩, ⟨_, rfl, .val rfl⟩, trivial⟩ rfl)
    ·refine C.block ?_
     refine St.wk (C.loop (fun (s65 : Int × Int × Int × List Int × List Int × List ApiZone × List ApiApart × List ApiShelf × List ApiStart × List (Int × Int) × List (Int × Bool) × List (Int × Bool) × List (ByteArray × Int) × List (Int × Bool) × List Int × List Int × Int) => [(1, .p 0 0), (3, .p 1 0), (74, .sl 2 eApiShelf s_1.Shelves), (75, .i (s_1.Shelves.length : Int)), (76, .i s65.2.2.2.2.2.2.2.2.2.2.2.2.2.2.2.2)]) (fun (s65 : Int × Int × Int × List Int × List Int × List ApiZone × List ApiApart × List ApiShelf × List ApiStart × List (Int × Int) × List (Int × Bool) × List (Int × Bool) × List (ByteArray × Int) × List (Int × Bool) × List Int × List Int × Int) => [(0, .box (eApiSite s_1)), (1, .box [.i s65.1, .i s65.2.1, .i s65.2.2.1, .sl 1 eI s65.2.2.2.1, .sl 1 eI s65.2.2.2.2.1, .o 2, .o 3, .o 4, .o 5, .o 6, .o 7, .o 8, .o 9, .o 10, .o 11, .o 12]), (2, .val (.os 5 eApiZone s65.2.2.2.2.2.1)), (3, .val (.os 2 eApiApart s65.2.2.2.2.2.2.1)), (4, .val (.os 2 eApiShelf s65.2.2.2.2.2.2.2.1)), (5, .val (.os 2 eApiStart s65.2.2.2.2.2.2.2.2.1)), (6, .val (.om kI veI s65.2.2.2.2.2.2.2.2.2.1)), (7, .val (.om kI veB s65.2.2.2.2.2.2.2.2.2.2.1)), (8, .val (.om kI veB s65.2.2.2.2.2.2.2.2.2.2.2.1)), (9, .val (.om kS veI s65.2.2.2.2.2.2.2.2.2.2.2.2.1)), (10, .val (.om kI veB s65.2.2.2.2.2.2.2.2.2.2.2.2.2.1)), (11, .val (.os 1 eI s65.2.2.2.2.2.2.2.2.2.2.2.2.2.2.1)), (12, .val (.os 1 eI s65.2.2.2.2.2.2.2.2.2.2.2.2.2.2.2.1))]) hm (fun s65 Y66 hm => ?_)) (Wk.mk' [some 0, some 1, some 2, some 3, some 4, some 5, some 6, some 7, some 8, some 9, some 10, some 11, some 12] rfl rfl (.eqs rfl) ⟨⟨_, rfl, .box rfl (.eq rfl)⟩, ⟨_, rfl, .box rfl (.eq rfl)⟩, ⟨_, rfl, .val rfl⟩, ⟨_, rfl, .val rfl⟩, ⟨_, rfl, .val rfl⟩, ⟨_, rfl, .val rfl⟩, ⟨_, rfl, .val rfl⟩, ⟨_, rfl, .val rfl⟩, ⟨_, rfl, .val rfl⟩, ⟨_, rfl, .val rfl⟩, ⟨_, rfl, .val rfl⟩, ⟨_, rfl, .val rfl⟩, ⟨_, rfl, .val rfl⟩, trivial⟩ rfl)
     refine C.seq (U.start ?_)
     refine U.ps 1 T rfl ?_
     refine U.done (C.nx (C.seq ?_))
     refine C.ite rfl hm (fun hb69 hm => ?_) (fun hb69 hm => ?_)
     ·refine C.skip (C.nx (C.seq (C.block (C.seq (U.start ?_)))))
      obtain ⟨x72, hx72, hm⟩ := hm
      refine U.r (o := _) rfl (.none rfl) rfl rfl (by exact Rd.ix T rfl rfl rfl rfl rfl rfl hx72) ?_
      refine U.ps 1 T rfl ?_
      refine U.e1 (o := _) rfl (.none rfl) (by exact Eff1.al T rfl rfl rfl rfl) ?_
      refine U.e1 (o := _) rfl (.none rfl) (by exact Eff1.st T rfl rfl rfl rfl rfl rfl rfl rfl rfl rfl) ?_
      refine U.done (C.nx (C.seq (U.start ?_)))
      refine U.ps 2 T rfl ?_
      refine U.e (o := _) rfl (.none rfl) (by exact Eff.c [some 1, some 2, some 3, some 4, some 5, some 6, some 7, some 8, some 9, some 10, some 11, some 12] (v := false) (T_survey_maker_addShelf__p0 x72 ({ site := ({ Floor := ({ W := s65.1, H := s65.2.1, D := s65.2.2.1, Kind := s65.2.2.2.1, Out := s65.2.2.2.2.1 : ApiFloor }), Zones := s65.2.2.2.2.2.1, Aparts := s65.2.2.2.2.2.2.1, Shelves := s65.2.2.2.2.2.2.2.1, Robots := s65.2.2.2.2.2.2.2.2.1 : ApiSite }), shelf := s65.2.2.2.2.2.2.2.2.2.1, robot := s65.2.2.2.2.2.2.2.2.2.2.1, zoned := s65.2.2.2.2.2.2.2.2.2.2.2.1, names := s65.2.2.2.2.2.2.2.2.2.2.2.2.1, oneways := s65.2.2.2.2.2.2.2.2.2.2.2.2.2.1, shelves := s65.2.2.2.2.2.2.2.2.2.2.2.2.2.2.1, zones := s65.2.2.2.2.2.2.2.2.2.2.2.2.2.2.2.1 : SurveyMaker }) _ hm) en69 rfl rfl rfl (.eq rfl) ⟨⟨_, rfl, .box rfl (.eq rfl)⟩, ⟨_, rfl, .val rfl⟩, ⟨_, rfl, .val rfl⟩, ⟨_, rfl, .val rfl⟩, ⟨_, rfl, .val rfl⟩, ⟨_, rfl, .val rfl⟩, ⟨_, rfl, .val rfl⟩, ⟨_, rfl, .val rfl⟩, ⟨_, rfl, .val rfl⟩, ⟨_, rfl, .val rfl⟩, ⟨_, rfl, .val rfl⟩, ⟨_, rfl, .val rfl⟩, trivial⟩ rfl rfl rfl rfl rfl rfl (fun h => by cases h) (.inl rfl) (fun _ => rfl) (fun _ => rfl) rfl) (fun x75' hm => ?_)
      obtain ⟨x75⟩ := x75'
      refine U.ps 1 T rfl ?_
      refine U.done (C.nx ?_)
      refine C.ite rfl hm (fun hb76 hm => ?_) (fun hb76 hm => ?_)
      ·refine C.seq (U.start ?_)
       refine U.ps 1 T rfl ?_
       refine U.done (C.nx (C.ret (C.brt (C.rt (C.rt (C.brt (C.rt ?_)))))))
       exact C.fin T (rs' := [.b false]) (H' := []) (nl' := 0) [] rfl rfl (.eq rfl) trivial rfl rfl rfl rfl hβ ⟨false, hm, rfl, rfl, rfl⟩
      ·refine C.skip (C.bnx (C.nx (U.start ?_)))
       refine U.ps 2 T rfl ?_
       refine U.done (C.nx ?_)
       exact St.wk (C.next hm) (Wk.mk' [some 0, some 1, some 26, some 27, some 28, some 29, some 30, some 31, some 32, some 33, some 34, some 35, some 36] rfl rfl (.eqs rfl) ⟨⟨_, rfl, .box rfl (.eq rfl)⟩, ⟨_, rfl, .box rfl (.eq rfl)⟩, ⟨_, rfl, .val rfl⟩, ⟨_, rfl, .val rfl⟩, ⟨_, rfl, .val rfl⟩, ⟨_, rfl, .val rfl⟩, ⟨_, rfl, .val rfl⟩, ⟨_, rfl, .val rfl⟩, ⟨_, rfl, .val rfl⟩, ⟨_, rfl, .val rfl⟩, ⟨_, rfl, .val rfl⟩, ⟨_, rfl, .val rfl⟩, ⟨_, rfl, .val rfl⟩, trivial⟩ rfl)
     ·refine C.exit (C.ex (C.ex (C.bex ?_)))
      exact St.wk (hJ64 _ hm) (Wk.mk' [some 0, some 1, some 2, some 3, some 4, some 5, some 6, some 7, some 8, some 9, some 10, some 11, some 12] rfl rfl (.eqs rfl) ⟨⟨_, rfl, .box rfl (.eq rfl)⟩, ⟨_, rfl, .box rfl (.eq rfl)⟩, ⟨_, rfl, .val rfl⟩, ⟨_, rfl, .val rfl⟩, ⟨_, rfl, .val rfl⟩, ⟨_, rfl, .val rfl⟩, ⟨_, rfl, .val rfl⟩, ⟨_, rfl, .val rfl⟩, ⟨_, rfl, .val rfl⟩, ⟨_, rfl, .val rfl⟩, ⟨_, rfl, .val rfl⟩, ⟨_, rfl, .val rfl⟩, ⟨_, rfl, .val rfl⟩, trivial⟩ rfl)
   ·refine C.block ?_
    refine St.wk (C.loop (fun (s45 : Int × Int × Int × List Int × List Int × List ApiZone × List ApiApart × List ApiShelf × List ApiStart × List (Int × Int) × List (Int × Bool) × List (Int × Bool) × List (ByteArray × Int) × List (Int × Bool) × List Int × List Int × Int) => [(1, .p 0 0), (3, .p 1 0), (62, .sl 2 eApiApart s_1.Aparts), (63, .i (s_1.Aparts.length : Int)), (64, .i s45.2.2.2.2.2.2.2.2.2.2.2.2.2.2.2.2)]) (fun (s45 : Int × Int × Int × List Int × List Int × List ApiZone × List ApiApart × List ApiShelf × List ApiStart × List (Int × Int) × List (Int × Bool) × List (Int × Bool) × List (ByteArray × Int) × List (Int × Bool) × List Int × List Int × Int) => [(0, .box (eApiSite s_1)), (1, .box [.i s45.1, .i s45.2.1, .i s45.2.2.1, .sl 1 eI s45.2.2.2.1, .sl 1 eI s45.2.2.2.2.1, .o 2, .o 3, .o 4, .o 5, .o 6, .o 7, .o 8, .o 9, .o 10, .o 11, .o 12]), (2, .val (.os 5 eApiZone s45.2.2.2.2.2.1)), (3, .val (.os 2 eApiApart s45.2.2.2.2.2.2.1)), (4, .val (.os 2 eApiShelf s45.2.2.2.2.2.2.2.1)), (5, .val (.os 2 eApiStart s45.2.2.2.2.2.2.2.2.1)), (6, .val (.om kI veI s45.2.2.2.2.2.2.2.2.2.1)), (7, .val (.om kI veB s45.2.2.2.2.2.2.2.2.2.2.1)), (8, .val (.om kI veB s45.2.2.2.2.2.2.2.2.2.2.2.1)), (9, .val (.om kS veI s45.2.2.2.2.2.2.2.2.2.2.2.2.1)), (10, .val (.om kI veB s45.2.2.2.2.2.2.2.2.2.2.2.2.2.1)), (11, .val (.os 1 eI s45.2.2.2.2.2.2.2.2.2.2.2.2.2.2.1)), (12, .val (.os 1 eI s45.2.2.2.2.2.2.2.2.2.2.2.2.2.2.2.1))]) hm (fun s45 Y46 hm => ?_)) (Wk.mk' [some 0, some 1, some 2, some 3, some 4, some 5, some 6, some 7, some 8, some 9, some 10, some 11, some 12] rfl rfl (.eqs rfl) ⟨⟨_, rfl, .box rfl (.eq rfl)⟩, ⟨_, rfl, .box rfl (.eq rfl)⟩, ⟨_, rfl, .val rfl⟩, ⟨_, rfl, .val rfl⟩, ⟨_, rfl, .val rfl⟩, ⟨_, rfl, .val rfl⟩, ⟨_, rfl, .val rfl⟩, ⟨_, rfl, .val rfl⟩, ⟨_, rfl, .val rfl⟩, ⟨_, rfl, .val rfl⟩, ⟨_, rfl, .val rfl⟩, ⟨_, rfl, .val rfl⟩, ⟨_, rfl, .val rfl⟩, trivial⟩ rfl)
    refine C.seq (U.start ?_)
    refine U.ps 1 T rfl ?_
    refine U.done (C.nx (C.seq ?_))
    refine C.ite rfl hm (fun hb49 hm => ?_) (fun hb49 hm => ?_)
    ·refine C.skip (C.nx (C.seq (C.block (C.seq (U.start ?_)))))
     obtain ⟨x52, hx52, hm⟩ := hm
     refine U.r (o := _) rfl (.none rfl) rfl rfl (by exact Rd.ix T rfl rfl rfl rfl rfl rfl hx52) ?_
     refine U.ps 1 T rfl ?_
     refine U.e1 (o := _) rfl (.none rfl) (by exact Eff1.al T rfl rfl rfl rfl) ?_
     refine U.e1 (o := _) rfl (.none rfl) (by exact Eff1.st T rfl rfl rfl rfl rfl rfl rfl rfl rfl rfl) ?_
     refine U.done (C.nx (C.seq (U.start ?_)))
     refine U.ps 2 T rfl ?_
     refine U.e (o := _) rfl (.none rfl) (by exact Eff.c [some 1, some 2, some 3, some 4, some 5, some 6, some 7, some 8, some 9, some 10, some 11, some 12] (v := false) (T_survey_maker_addApart__p0 x52 ({ site := ({ Floor := ({ W := s45.1, H := s45.2.1, D := s45.2.2.1, Kind := s45.2.2.2.1, Out := s45.2.2.2.2.1 : ApiFloor }), Zones := s45.2.2.2.2.2.1, Aparts := s45.2.2.2.2.2.2.1, Shelves := s45.2.2.2.2.2.2.2.1, Robots := s45.2.2.2.2.2.2.2.2.1 : ApiSite }), shelf := s45.2.2.2.2.2.2.2.2.2.1, robot := s45.2.2.2.2.2.2.2.2.2.2.1, zoned := s45.2.2.2.2.2.2.2.2.2.2.2.1, names := s45.2.2.2.2.2.2.2.2.2.2.2.2.1, oneways := s45.2.2.2.2.2.2.2.2.2.2.2.2.2.1, shelves := s45.2.2.2.2.2.2.2.2.2.2.2.2.2.2.1, zones := s45.2.2.2.2.2.2.2.2.2.2.2.2.2.2.2.1 : SurveyMaker }) _ hm) en68 rfl rfl rfl (.eq rfl) ⟨⟨_, rfl, .box rfl (.eq rfl)⟩, ⟨_, rfl, .val rfl⟩, ⟨_, rfl, .val rfl⟩, ⟨_, rfl, .val rfl⟩, ⟨_, rfl, .val rfl⟩, ⟨_, rfl, .val rfl⟩, ⟨_, rfl, .val rfl⟩, ⟨_, rfl, .val rfl⟩, ⟨_, rfl, .val rfl⟩, ⟨_, rfl, .val rfl⟩, ⟨_, rfl, .val rfl⟩, ⟨_, rfl, .val rfl⟩, trivial⟩ rfl rfl rfl rfl rfl rfl (fun h => by cases h) (.inl rfl) (fun _ => rfl) (fun _ => rfl) rfl) (fun x55' hm => ?_)
     obtain ⟨x55⟩ := x55'
     refine U.ps 1 T rfl ?_
     refine U.done (C.nx ?_)
     refine C.ite rfl hm (fun hb56 hm => ?_) (fun hb56 hm => ?_)
     ·refine C.seq (U.start ?_)
      refine U.ps 1 T rfl ?_
      refine U.done (C.nx (C.ret (C.brt (C.rt (C.rt (C.brt (C.rt ?_)))))))
      exact C.fin T (rs' := [.b false]) (H' := []) (nl' := 0) [] rfl rfl (.eq rfl) trivial rfl rfl rfl rfl hβ ⟨false, hm, rfl, rfl, rfl⟩
     ·refine C.skip (C.bnx (C.nx (U.start ?_)))
      refine U.ps 2 T rfl ?_
      refine U.done (C.nx ?_)
      exact St.wk (C.next hm) (Wk.mk' [some 0, some 1, some 26, some 27, some 28, some 29, some 30, some 31, some 32, some 33, some 34, some 35, some 36] rfl rfl (.eqs rfl) ⟨⟨_, rfl, .box rfl (.eq rfl)⟩, ⟨_, rfl, .box rfl (.eq rfl)⟩, ⟨_, rfl, .val rfl⟩, ⟨_, rfl, .val rfl⟩, ⟨_, rfl, .val rfl⟩, ⟨_, rfl, .val rfl⟩, ⟨_, rfl, .val rfl⟩, ⟨_, rfl, .val rfl⟩, ⟨_, rfl, .val rfl⟩, ⟨_, rfl, .val rfl⟩, ⟨_, rfl, .val rfl⟩, ⟨_, rfl, .val rfl⟩, ⟨_, rfl, .val rfl⟩, trivial⟩ rfl)
    ·refine C.exit (C.ex (C.ex (C.bex ?_)))
     exact St.wk (hJ44 _ hm) (Wk.mk' [some 0, some 1, some 2, some 3, some 4, some 5, some 6, some 7, some 8, some 9, some 10, some 11, some 12] rfl rfl (.eqs rfl) ⟨⟨_, rfl, .box rfl (.eq rfl)⟩, ⟨_, rfl, .box rfl (.eq rfl)⟩, ⟨_, rfl, .val rfl⟩, ⟨_, rfl, .val rfl⟩, ⟨_, rfl, .val rfl⟩, ⟨_, rfl, .val rfl⟩, ⟨_, rfl, .val rfl⟩, ⟨_, rfl, .val rfl⟩, ⟨_, rfl, .val rfl⟩, ⟨_, rfl, .val rfl⟩, ⟨_, rfl, .val rfl⟩, ⟨_, rfl, .val rfl⟩, ⟨_, rfl, .val rfl⟩, trivial⟩ rfl)
  ·refine C.block ?_
   refine St.wk (C.loop (fun (s16 : Int × Int × Int × List Int × List Int × List ApiZone × List ApiApart × List ApiShelf × List ApiStart × List (Int × Int) × List (Int × Bool) × List (Int × Bool) × List (ByteArray × Int) × List (Int × Bool) × List Int × List Int × Int) => [(1, .p 0 0), (3, .p 1 0), (20, .sl 5 eApiZone s_1.Zones), (21, .i (s_1.Zones.length : Int)), (22, .i s16.2.2.2.2.2.2.2.2.2.2.2.2.2.2.2.2)]) (fun (s16 : Int × Int × Int × List Int × List Int × List ApiZone × List ApiApart × List ApiShelf × List ApiStart × List (Int × Int) × List (Int × Bool) × List (Int × Bool) × List (ByteArray × Int) × List (Int × Bool) × List Int × List Int × Int) => [(0, .box (eApiSite s_1)), (1, .box [.i s16.1, .i s16.2.1, .i s16.2.2.1, .sl 1 eI s16.2.2.2.1, .sl 1 eI s16.2.2.2.2.1, .o 2, .o 3, .o 4, .o 5, .o 6, .o 7, .o 8, .o 9, .o 10, .o 11, .o 12]), (2, .val (.os 5 eApiZone s16.2.2.2.2.2.1)), (3, .val (.os 2 eApiApart s16.2.2.2.2.2.2.1)), (4, .val (.os 2 eApiShelf s16.2.2.2.2.2.2.2.1)), (5, .val (.os 2 eApiStart s16.2.2.2.2.2.2.2.2.1)), (6, .val (.om kI veI s16.2.2.2.2.2.2.2.2.2.1)), (7, .val (.om kI veB s16.2.2.2.2.2.2.2.2.2.2.1)), (8, .val (.om kI veB s16.2.2.2.2.2.2.2.2.2.2.2.1)), (9, .val (.om kS veI s16.2.2.2.2.2.2.2.2.2.2.2.2.1)), (10, .val (.om kI veB s16.2.2.2.2.2.2.2.2.2.2.2.2.2.1)), (11, .val (.os 1 eI s16.2.2.2.2.2.2.2.2.2.2.2.2.2.2.1)), (12, .val (.os 1 eI s16.2.2.2.2.2.2.2.2.2.2.2.2.2.2.2.1))]) hm (fun s16 Y17 hm => ?_)) (Wk.mk' [some 0, some 12, some 1, some 2, some 3, some 4, some 5, some 6, some 7, some 8, some 9, some 10, some 11] rfl rfl (.eqs rfl) ⟨⟨_, rfl, .box rfl (.eq rfl)⟩, ⟨_, rfl, .box rfl (.eq rfl)⟩, ⟨_, rfl, .val rfl⟩, ⟨_, rfl, .val rfl⟩, ⟨_, rfl, .val rfl⟩, ⟨_, rfl, .val rfl⟩, ⟨_, rfl, .val rfl⟩, ⟨_, rfl, .val rfl⟩, ⟨_, rfl, .val rfl⟩, ⟨_, rfl, .val rfl⟩, ⟨_, rfl, .val rfl⟩, ⟨_, rfl, .val rfl⟩, ⟨_, rfl, .val rfl⟩, trivial⟩ rfl)
   refine C.seq (U.start ?_)
   refine U.ps 1 T rfl ?_
   refine U.done (C.nx (C.seq ?_))
   refine C.ite rfl hm (fun hb20 hm => ?_) (fun hb20 hm => ?_)
   ·refine C.skip (C.nx (C.seq (C.block (C.seq (U.start ?_)))))
    obtain ⟨x23, hx23, hm⟩ := hm
    refine U.r (o := _) rfl (.none rfl) rfl rfl (by exact Rd.ix T rfl rfl rfl rfl rfl rfl hx23) ?_
    refine U.ps 1 T rfl ?_
    refine U.e1 (o := _) rfl (.none rfl) (by exact Eff1.al T rfl rfl rfl rfl) ?_
    refine U.e1 (o := _) rfl (.none rfl) (by exact Eff1.st T rfl rfl rfl rfl rfl rfl rfl rfl rfl rfl) ?_
    refine U.done (C.nx (C.seq ?_))
    refine C.jn (fun (x24 : Int × Int × Int × List Int × List Int × List ApiZone × List ApiApart × List ApiShelf × List ApiStart × List (Int × Int) × List (Int × Bool) × List (Int × Bool) × List (ByteArray × Int) × List (Int × Bool) × List Int × List Int × Bool) => [(1, .p 0 0), (3, .p 1 0), (20, .sl 5 eApiZone s_1.Zones), (21, .i (s_1.Zones.length : Int)), (22, .i s16.2.2.2.2.2.2.2.2.2.2.2.2.2.2.2.2), (59, .b x24.2.2.2.2.2.2.2.2.2.2.2.2.2.2.2.2)]) (fun (x24 : Int × Int × Int × List Int × List Int × List ApiZone × List ApiApart × List ApiShelf × List ApiStart × List (Int × Int) × List (Int × Bool) × List (Int × Bool) × List (ByteArray × Int) × List (Int × Bool) × List Int × List Int × Bool) => [(0, .box (eApiSite s_1)), (1, .box [.i x24.1, .i x24.2.1, .i x24.2.2.1, .sl 1 eI x24.2.2.2.1, .sl 1 eI x24.2.2.2.2.1, .o 2, .o 3, .o 4, .o 5, .o 6, .o 7, .o 8, .o 9, .o 10, .o 11, .o 12]), (2, .val (.os 5 eApiZone x24.2.2.2.2.2.1)), (3, .val (.os 2 eApiApart x24.2.2.2.2.2.2.1)), (4, .val (.os 2 eApiShelf x24.2.2.2.2.2.2.2.1)), (5, .val (.os 2 eApiStart x24.2.2.2.2.2.2.2.2.1)), (6, .val (.om kI veI x24.2.2.2.2.2.2.2.2.2.1)), (7, .val (.om kI veB x24.2.2.2.2.2.2.2.2.2.2.1)), (8, .val (.om kI veB x24.2.2.2.2.2.2.2.2.2.2.2.1)), (9, .val (.om kS veI x24.2.2.2.2.2.2.2.2.2.2.2.2.1)), (10, .val (.om kI veB x24.2.2.2.2.2.2.2.2.2.2.2.2.2.1)), (11, .val (.os 1 eI x24.2.2.2.2.2.2.2.2.2.2.2.2.2.2.1)), (12, .val (.os 1 eI x24.2.2.2.2.2.2.2.2.2.2.2.2.2.2.2.1))]) 13 hm (fun x24 hm => ?_) (fun J25 hm hJ25 => ?_)
    ·refine C.nx ?_
     refine C.ite rfl hm (fun hb36 hm => ?_) (fun hb36 hm => ?_)
     ·refine C.seq (U.start ?_)
      refine U.ps 1 T rfl ?_
      refine U.done (C.nx (C.ret (C.brt (C.rt (C.rt (C.brt (C.rt ?_)))))))
      exact C.fin T (rs' := [.b false]) (H' := []) (nl' := 0) [] rfl rfl (.eq rfl) trivial rfl rfl rfl rfl hβ ⟨false, hm, rfl, rfl, rfl⟩
     ·refine C.skip (C.bnx (C.nx (U.start ?_)))
      refine U.ps 2 T rfl ?_
      refine U.done (C.nx ?_)
      exact St.wk (C.next hm) (Wk.mk' [some 0, some 1, some 2, some 3, some 4, some 5, some 6, some 7, some 8, some 9, some 10, some 11, some 12] rfl rfl (.eqs rfl) ⟨⟨_, rfl, .box rfl (.eq rfl)⟩, ⟨_, rfl, .box rfl (.eq rfl)⟩, ⟨_, rfl, .val rfl⟩, ⟨_, rfl, .val rfl⟩, ⟨_, rfl, .val rfl⟩, ⟨_, rfl, .val rfl⟩, ⟨_, rfl, .val rfl⟩, ⟨_, rfl, .val rfl⟩, ⟨_, rfl, .val rfl⟩, ⟨_, rfl, .val rfl⟩, ⟨_, rfl, .val rfl⟩, ⟨_, rfl, .val rfl⟩, ⟨_, rfl, .val rfl⟩, trivial⟩ rfl)
    ·refine U.start ?_
     refine U.ps 2 T rfl ?_
     refine U.e (o := _) rfl (.none rfl) (by exact Eff.c [] (v := true) (T_survey_Name x23.Name _ hm) en63 rfl rfl rfl (.eq rfl) trivial rfl rfl rfl rfl rfl rfl (fun _ _ => ⟨(.v _), trivial⟩) (.inr ⟨rfl, rfl⟩) (fun _ => rfl) (fun _ => rfl) rfl) (fun x26' hm => ?_)
     obtain ⟨x26⟩ := x26'
     refine U.ps 2 T rfl ?_
     refine hm.cs (fun hb27 hm => ?_) (fun hb27 hm => ?_)
     ·refine U.pg 2 4 false 30 (ntF hb27) T rfl rfl rfl rfl ?_
      refine U.e (o := _) rfl (.take 4 false 30 _ (ntF hb27) rfl rfl rfl) (by exact Eff.c [] (v := true) (T_survey_within x23.Speed 1 100 _ hm) en64 rfl rfl rfl (.eq rfl) trivial rfl rfl rfl rfl rfl rfl (fun _ _ => ⟨(.v _), trivial⟩) (.inr ⟨rfl, rfl⟩) (fun _ => rfl) (fun _ => rfl) rfl) (fun x28' hm => ?_)
      obtain ⟨x28⟩ := x28'
      refine U.pg 1 4 false 30 (ntF hb27) T rfl rfl rfl rfl ?_
      refine U.r (o := _) rfl (.none rfl) rfl rfl (by exact Rd.pk' rfl rfl (ntF hb27) rfl) ?_
      refine U.ps 1 T rfl ?_
      refine hm.cs (fun hb29 hm => ?_) (fun hb29 hm => ?_)
      ·refine U.pg 3 10 false 36 (ntF hb29) T rfl rfl rfl rfl ?_
       refine U.r (o := _) rfl (.none rfl) rfl rfl (by exact Rd.pk' rfl rfl (ntF hb29) rfl) ?_
       refine U.ps 1 T rfl ?_
       refine hm.cs (fun hb30 hm => ?_) (fun hb30 hm => ?_)
       ·refine U.sks 4 15 false 41 hb30 rfl rfl rfl ?_
        refine U.r (o := _) rfl (.none rfl) rfl rfl (by exact Rd.pk rfl rfl hb30 rfl) ?_
        refine U.ps 1 T rfl ?_
        refine U.sks 5 21 false 47 rfl rfl rfl rfl ?_
        refine U.r (o := _) rfl (.none rfl) rfl rfl (by exact Rd.pk rfl rfl rfl rfl) ?_
        refine U.ps 1 T rfl ?_
        refine U.sks 4 28 false 54 rfl rfl rfl rfl ?_
        refine U.r (o := _) rfl (.none rfl) rfl rfl (by exact Rd.pk rfl rfl rfl rfl) ?_
        refine U.done ?_
        exact St.wk (hJ25 _ hm) (Wk.mk' [some 0, some 1, some 2, some 3, some 4, some 5, some 6, some 7, some 8, some 9, some 10, some 11, some 12] rfl rfl (.eqs rfl) ⟨⟨_, rfl, .box rfl (.eq rfl)⟩, ⟨_, rfl, .box rfl (.eq rfl)⟩, ⟨_, rfl, .val rfl⟩, ⟨_, rfl, .val rfl⟩, ⟨_, rfl, .val rfl⟩, ⟨_, rfl, .val rfl⟩, ⟨_, rfl, .val rfl⟩, ⟨_, rfl, .val rfl⟩, ⟨_, rfl, .val rfl⟩, ⟨_, rfl, .val rfl⟩, ⟨_, rfl, .val rfl⟩, ⟨_, rfl, .val rfl⟩, ⟨_, rfl, .val rfl⟩, trivial⟩ rfl)
       ·refine U.pg 2 15 false 41 hb30 T rfl rfl rfl rfl ?_
        refine U.e (o := _) rfl (.take 15 false 41 _ hb30 rfl rfl rfl) (by exact Eff.c [] (v := true) (T_survey_shut x23.Shut _ hm) en65 rfl rfl rfl (.eq rfl) trivial rfl rfl rfl rfl rfl rfl (fun _ _ => ⟨(.v _), trivial⟩) (.inr ⟨rfl, rfl⟩) (fun _ => rfl) (fun _ => rfl) rfl) (fun x31' hm => ?_)
        obtain ⟨x31⟩ := x31'
        refine U.pg 1 15 false 41 hb30 T rfl rfl rfl rfl ?_
        refine U.r (o := _) rfl (.none rfl) rfl rfl (by exact Rd.pk' rfl rfl hb30 rfl) ?_
        refine U.ps 1 T rfl ?_
        refine hm.cs (fun hb32 hm => ?_) (fun hb32 hm => ?_)
        ·refine U.pg 3 21 false 47 (ntF hb32) T rfl rfl rfl rfl ?_
         refine U.e (o := _) rfl (.take 21 false 47 _ (ntF hb32) rfl rfl rfl) (by exact Eff.c [] (v := true) (T_survey_maker_cells ({ site := ({ Floor := ({ W := s16.1, H := s16.2.1, D := s16.2.2.1, Kind := s16.2.2.2.1, Out := s16.2.2.2.2.1 : ApiFloor }), Zones := s16.2.2.2.2.2.1, Aparts := s16.2.2.2.2.2.2.1, Shelves := s16.2.2.2.2.2.2.2.1, Robots := s16.2.2.2.2.2.2.2.2.1 : ApiSite }), shelf := s16.2.2.2.2.2.2.2.2.2.1, robot := s16.2.2.2.2.2.2.2.2.2.2.1, zoned := s16.2.2.2.2.2.2.2.2.2.2.2.1, names := s16.2.2.2.2.2.2.2.2.2.2.2.2.1, oneways := s16.2.2.2.2.2.2.2.2.2.2.2.2.2.1, shelves := s16.2.2.2.2.2.2.2.2.2.2.2.2.2.2.1, zones := s16.2.2.2.2.2.2.2.2.2.2.2.2.2.2.2.1 : SurveyMaker }) x23.Cells _ hm) en66 rfl rfl rfl (.cons (.fzp rfl rfl rfl rfl (.cons (.eq rfl) (.cons (.eq rfl) (.cons (.eq rfl) (.cons (.eq rfl) (.cons (.eq rfl) (.cons (.fz rfl rfl rfl (.os fun _ => .cons (.ro rfl) (.cons (.ro rfl) (.cons (.ro rfl) (.cons (.ro rfl) (.cons (.ro rfl) .nil)))))) (.cons (.fz rfl rfl rfl (.os fun _ => .cons (.ro rfl) (.cons (.ro rfl) .nil))) (.cons (.fz rfl rfl rfl (.os fun _ => .cons (.ro rfl) (.cons (.ro rfl) .nil))) (.cons (.fz rfl rfl rfl (.os fun _ => .cons (.ro rfl) (.cons (.ro rfl) .nil))) (.cons (.fz rfl rfl rfl (.om fun _ => .ro rfl)) (.cons (.fz rfl rfl rfl (.om fun _ => .ro rfl)) (.cons (.fz rfl rfl rfl (.om fun _ => .ro rfl)) (.cons (.fz rfl rfl rfl (.om fun _ => .ro rfl)) (.cons (.fz rfl rfl rfl (.om fun _ => .ro rfl)) (.cons (.fz rfl rfl rfl (.os fun _ => .cons (.ro rfl) .nil)) (.cons (.fz rfl rfl rfl (.os fun _ => .cons (.ro rfl) .nil)) .nil)))))))))))))))) rfl) (.eq rfl)) trivial rfl rfl rfl rfl rfl rfl (fun _ _ => ⟨(.v _), trivial⟩) (.inr ⟨rfl, rfl⟩) (fun _ => rfl) (fun _ => rfl) rfl) (fun x33' hm => ?_)
         obtain ⟨x33⟩ := x33'
         refine U.pg 1 21 false 47 (ntF hb32) T rfl rfl rfl rfl ?_
         refine U.r (o := _) rfl (.none rfl) rfl rfl (by exact Rd.pk' rfl rfl (ntF hb32) rfl) ?_
         refine U.ps 1 T rfl ?_
         refine hm.cs (fun hb34 hm => ?_) (fun hb34 hm => ?_)
         ·refine U.pg 2 28 false 54 (ntF hb34) T rfl rfl rfl rfl ?_
          refine U.e (o := _) rfl (.take 28 false 54 _ (ntF hb34) rfl rfl rfl) (by exact Eff.c [some 1, some 2, some 3, some 4, some 5, some 6, some 7, some 8, some 9, some 10, some 11, some 12] (v := false) (T_survey_maker_addZone__p0 x23 ({ site := ({ Floor := ({ W := s16.1, H := s16.2.1, D := s16.2.2.1, Kind := s16.2.2.2.1, Out := s16.2.2.2.2.1 : ApiFloor }), Zones := s16.2.2.2.2.2.1, Aparts := s16.2.2.2.2.2.2.1, Shelves := s16.2.2.2.2.2.2.2.1, Robots := s16.2.2.2.2.2.2.2.2.1 : ApiSite }), shelf := s16.2.2.2.2.2.2.2.2.2.1, robot := s16.2.2.2.2.2.2.2.2.2.2.1, zoned := s16.2.2.2.2.2.2.2.2.2.2.2.1, names := s16.2.2.2.2.2.2.2.2.2.2.2.2.1, oneways := s16.2.2.2.2.2.2.2.2.2.2.2.2.2.1, shelves := s16.2.2.2.2.2.2.2.2.2.2.2.2.2.2.1, zones := s16.2.2.2.2.2.2.2.2.2.2.2.2.2.2.2.1 : SurveyMaker }) _ hm) en67 rfl rfl rfl (.eq rfl) ⟨⟨_, rfl, .box rfl (.eq rfl)⟩, ⟨_, rfl, .val rfl⟩, ⟨_, rfl, .val rfl⟩, ⟨_, rfl, .val rfl⟩, ⟨_, rfl, .val rfl⟩, ⟨_, rfl, .val rfl⟩, ⟨_, rfl, .val rfl⟩, ⟨_, rfl, .val rfl⟩, ⟨_, rfl, .val rfl⟩, ⟨_, rfl, .val rfl⟩, ⟨_, rfl, .val rfl⟩, ⟨_, rfl, .val rfl⟩, trivial⟩ rfl rfl rfl rfl rfl rfl (fun h => by cases h) (.inl rfl) (fun _ => rfl) (fun _ => rfl) rfl) (fun x35' hm => ?_)
          obtain ⟨x35⟩ := x35'
          refine U.pg 1 28 false 54 (ntF hb34) T rfl rfl rfl rfl ?_
          refine U.r (o := _) rfl (.none rfl) rfl rfl (by exact Rd.pk' rfl rfl (ntF hb34) rfl) ?_
          refine U.done ?_
          exact St.wk (hJ25 _ hm) (Wk.mk' [some 0, some 1, some 26, some 27, some 28, some 29, some 30, some 31, some 32, some 33, some 34, some 35, some 36] rfl rfl (.eqs rfl) ⟨⟨_, rfl, .box rfl (.eq rfl)⟩, ⟨_, rfl, .box rfl (.eq rfl)⟩, ⟨_, rfl, .val rfl⟩, ⟨_, rfl, .val rfl⟩, ⟨_, rfl, .val rfl⟩, ⟨_, rfl, .val rfl⟩, ⟨_, rfl, .val rfl⟩, ⟨_, rfl, .val rfl⟩, ⟨_, rfl, .val rfl⟩, ⟨_, rfl, .val rfl⟩, ⟨_, rfl, .val rfl⟩, ⟨_, rfl, .val rfl⟩, ⟨_, rfl, .val rfl⟩, trivial⟩ rfl)
         ·refine U.sks 4 28 false 54 (ntT hb34) rfl rfl rfl ?_
          refine U.r (o := _) rfl (.none rfl) rfl rfl (by exact Rd.pk rfl rfl (ntT hb34) rfl) ?_
          refine U.done ?_
          exact St.wk (hJ25 _ hm) (Wk.mk' [some 0, some 1, some 2, some 3, some 4, some 5, some 6, some 7, some 8, some 9, some 10, some 11, some 12] rfl rfl (.eqs rfl) ⟨⟨_, rfl, .box rfl (.eq rfl)⟩, ⟨_, rfl, .box rfl (.eq rfl)⟩, ⟨_, rfl, .val rfl⟩, ⟨_, rfl, .val rfl⟩, ⟨_, rfl, .val rfl⟩, ⟨_, rfl, .val rfl⟩, ⟨_, rfl, .val rfl⟩, ⟨_, rfl, .val rfl⟩, ⟨_, rfl, .val rfl⟩, ⟨_, rfl, .val rfl⟩, ⟨_, rfl, .val rfl⟩, ⟨_, rfl, .val rfl⟩, ⟨_, rfl, .val rfl⟩, trivial⟩ rfl)
        ·refine U.sks 5 21 false 47 (ntT hb32) rfl rfl rfl ?_
         refine U.r (o := _) rfl (.none rfl) rfl rfl (by exact Rd.pk rfl rfl (ntT hb32) rfl) ?_
         refine U.ps 1 T rfl ?_
         refine U.sks 4 28 false 54 rfl rfl rfl rfl ?_
         refine U.r (o := _) rfl (.none rfl) rfl rfl (by exact Rd.pk rfl rfl rfl rfl) ?_
         refine U.done ?_
         exact St.wk (hJ25 _ hm) (Wk.mk' [some 0, some 1, some 2, some 3, some 4, some 5, some 6, some 7, some 8, some 9, some 10, some 11, some 12] rfl rfl (.eqs rfl) ⟨⟨_, rfl, .box rfl (.eq rfl)⟩, ⟨_, rfl, .box rfl (.eq rfl)⟩, ⟨_, rfl, .val rfl⟩, ⟨_, rfl, .val rfl⟩, ⟨_, rfl, .val rfl⟩, ⟨_, rfl, .val rfl⟩, ⟨_, rfl, .val rfl⟩, ⟨_, rfl, .val rfl⟩, ⟨_, rfl, .val rfl⟩, ⟨_, rfl, .val rfl⟩, ⟨_, rfl, .val rfl⟩, ⟨_, rfl, .val rfl⟩, ⟨_, rfl, .val rfl⟩, trivial⟩ rfl)
      ·refine U.sks 3 10 false 36 (ntT hb29) rfl rfl rfl ?_
       refine U.r (o := _) rfl (.none rfl) rfl rfl (by exact Rd.pk rfl rfl (ntT hb29) rfl) ?_
       refine U.ps 1 T rfl ?_
       refine U.sks 4 15 false 41 rfl rfl rfl rfl ?_
       refine U.r (o := _) rfl (.none rfl) rfl rfl (by exact Rd.pk rfl rfl rfl rfl) ?_
       refine U.ps 1 T rfl ?_
       refine U.sks 5 21 false 47 rfl rfl rfl rfl ?_
       refine U.r (o := _) rfl (.none rfl) rfl rfl (by exact Rd.pk rfl rfl rfl rfl) ?_
       refine U.ps 1 T rfl ?_
       refine U.sks 4 28 false 54 rfl rfl rfl rfl ?_
       refine U.r (o := _) rfl (.none rfl) rfl rfl (by exact Rd.pk rfl rfl rfl rfl) ?_
       refine U.done ?_
       exact St.wk (hJ25 _ hm) (Wk.mk' [some 0, some 1, some 2, some 3, some 4, some 5, some 6, some 7, some 8, some 9, some 10, some 11, some 12] rfl rfl (.eqs rfl) ⟨⟨_, rfl, .box rfl (.eq rfl)⟩, ⟨_, rfl, .box rfl (.eq rfl)⟩, ⟨_, rfl, .val rfl⟩, ⟨_, rfl, .val rfl⟩, ⟨_, rfl, .val rfl⟩, ⟨_, rfl, .val rfl⟩, ⟨_, rfl, .val rfl⟩, ⟨_, rfl, .val rfl⟩, ⟨_, rfl, .val rfl⟩, ⟨_, rfl, .val rfl⟩, ⟨_, rfl, .val rfl⟩, ⟨_, rfl, .val rfl⟩, ⟨_, rfl, .val rfl⟩, trivial⟩ rfl)
     ·refine U.sks 4 4 false 30 (ntT hb27) rfl rfl rfl ?_
      refine U.r (o := _) rfl (.none rfl) rfl rfl (by exact Rd.pk rfl rfl (ntT hb27) rfl) ?_
      refine U.ps 1 T rfl ?_
      refine U.sks 3 10 false 36 rfl rfl rfl rfl ?_
      refine U.r (o := _) rfl (.none rfl) rfl rfl (by exact Rd.pk rfl rfl rfl rfl) ?_
      refine U.ps 1 T rfl ?_
      refine U.sks 4 15 false 41 rfl rfl rfl rfl ?_
      refine U.r (o := _) rfl (.none rfl) rfl rfl (by exact Rd.pk rfl rfl rfl rfl) ?_
      refine U.ps 1 T rfl ?_
      refine U.sks 5 21 false 47 rfl rfl rfl rfl ?_
      refine U.r (o := _) rfl (.none rfl) rfl rfl (by exact Rd.pk rfl rfl rfl rfl) ?_
      refine U.ps 1 T rfl ?_
      refine U.sks 4 28 false 54 rfl rfl rfl rfl ?_
      refine U.r (o := _) rfl (.none rfl) rfl rfl (by exact Rd.pk rfl rfl rfl rfl) ?_
      refine U.done ?_
      exact St.wk (hJ25 _ hm) (Wk.mk' [some 0, some 1, some 2, some 3, some 4, some 5, some 6, some 7, some 8, some 9, some 10, some 11, some 12] rfl rfl (.eqs rfl) ⟨⟨_, rfl, .box rfl (.eq rfl)⟩, ⟨_, rfl, .box rfl (.eq rfl)⟩, ⟨_, rfl, .val rfl⟩, ⟨_, rfl, .val rfl⟩, ⟨_, rfl, .val rfl⟩, ⟨_, rfl, .val rfl⟩, ⟨_, rfl, .val rfl⟩, ⟨_, rfl, .val rfl⟩, ⟨_, rfl, .val rfl⟩, ⟨_, rfl, .val rfl⟩, ⟨_, rfl, .val rfl⟩, ⟨_, rfl, .val rfl⟩, ⟨_, rfl, .val rfl⟩, trivial⟩ rfl)
   ·refine C.exit (C.ex (C.ex (C.bex ?_)))
    exact St.wk (hJ15 _ hm) (Wk.mk' [some 0, some 1, some 2, some 3, some 4, some 5, some 6, some 7, some 8, some 9, some 10, some 11, some 12] rfl rfl (.eqs rfl) ⟨⟨_, rfl, .box rfl (.eq rfl)⟩, ⟨_, rfl, .box rfl (.eq rfl)⟩, ⟨_, rfl, .val rfl⟩, ⟨_, rfl, .val rfl⟩, ⟨_, rfl, .val rfl⟩, ⟨_, rfl, .val rfl⟩, ⟨_, rfl, .val rfl⟩, ⟨_, rfl, .val rfl⟩, ⟨_, rfl, .val rfl⟩, ⟨_, rfl, .val rfl⟩, ⟨_, rfl, .val rfl⟩, ⟨_, rfl, .val rfl⟩, ⟨_, rfl, .val rfl⟩, trivial⟩ rfl)
theorem T_taquinref07_Size (f : ApiFloor) (post : Int → Prop) (hm : V_taquinref07_Size f post) :
    Tr Try.prog 55 [.agg (eApiFloor f)] [] 0 (fun A H' k => ∃ y, post y ∧ A = (.i y) ∧ H' = [] ∧ k = 0) := by
 refine Tr.intro (n := 11) Try.func55 rfl Try.ntmps55 rfl (fun w0 ok F β hβ => ?_)
 unfold V_taquinref07_Size at hm
 refine C.seq (U.start ?_)
 refine U.e1 (o := _) rfl (.none rfl) (by exact Eff1.box rfl rfl rfl rfl rfl) ?_
 refine U.ps 1 T rfl ?_
 refine U.done (C.nx (C.seq (U.start ?_)))
 refine U.ps 9 T rfl ?_
 refine U.done (C.nx (C.ret ?_))
 exact C.fin T (rs' := [.i (w64 ((w64 (f.W * f.H)) * f.D))]) (H' := []) (nl' := 0) [] rfl rfl (.eq rfl) trivial rfl rfl rfl rfl hβ ⟨w64 ((w64 (f.W * f.H)) * f.D), hm, rfl, rfl, rfl⟩
theorem T_taquinref07_Is (f : ApiFloor) (c : Int) (post : Bool → Prop) (hm : V_taquinref07_Is f c post) :
    Tr Try.prog 22 [.agg (eApiFloor f), .i c] [] 0 (fun A H' k => ∃ y, post y ∧ A = (.b y) ∧ H' = [] ∧ k = 0) := by
 refine Tr.intro (n := 13) Try.func22 rfl Try.ntmps22 rfl (fun w0 ok F β hβ => ?_)
 unfold V_taquinref07_Is at hm
 refine C.seq (U.start ?_)
 refine U.e1 (o := _) rfl (.none rfl) (by exact Eff1.box rfl rfl rfl rfl rfl) ?_
 refine U.ps 1 T rfl ?_
 refine U.done (C.nx (C.seq ?_))
 refine C.jn (fun (x3 : Bool) => [(4, .b x3)]) (fun (x3 : Bool) => []) 0 hm (fun x3 hm => ?_) (fun J4 hm hJ4 => ?_)
 ·refine C.nx (C.ret ?_)
  exact C.fin T (rs' := [.b x3]) (H' := []) (nl' := 0) [] rfl rfl (.eq rfl) trivial rfl rfl rfl rfl hβ ⟨x3, hm, rfl, rfl, rfl⟩
 ·refine U.start ?_
  refine U.ps 3 T rfl ?_
  refine hm.cs (fun hb5 hm => ?_) (fun hb5 hm => ?_)
  ·refine U.pg 2 2 true 7 hb5 T rfl rfl rfl rfl ?_
   refine U.e (o := _) rfl (.take 2 true 7 _ hb5 rfl rfl rfl) (by exact Eff.c [] (v := true) (T_taquinref07_Size f _ hm) en55 rfl rfl rfl (.eq rfl) trivial rfl rfl rfl rfl rfl rfl (fun _ _ => ⟨(.v _), trivial⟩) (.inr ⟨rfl, rfl⟩) (fun _ => rfl) (fun _ => rfl) rfl) (fun x6' hm => ?_)
   obtain ⟨x6⟩ := x6'
   refine U.pg 1 2 true 7 hb5 T rfl rfl rfl rfl ?_
   refine U.r (o := _) rfl (.none rfl) rfl rfl (by exact Rd.pk rfl rfl hb5 rfl) ?_
   refine U.ps 1 T rfl ?_
   refine U.done ?_
   exact St.wk (hJ4 _ hm) (Wk.mk' [] rfl rfl (.eqs rfl) trivial rfl)
  ·refine U.sks 4 2 true 7 hb5 rfl rfl rfl ?_
   refine U.r (o := _) rfl (.none rfl) rfl rfl (by exact Rd.pk' rfl rfl hb5 rfl) ?_
   refine U.ps 1 T rfl ?_
   refine U.done ?_
   exact St.wk (hJ4 _ hm) (Wk.mk' [] rfl rfl (.eqs rfl) trivial rfl)
theorem T_taquinlaw12_fits (s_1 : ApiSite) (st : ApiState) (post : Bool → Prop) (hm : V_taquinlaw12_fits s_1 st post) :
    Tr Try.prog 9 [.agg (eApiSite s_1), .agg (eApiState st)] [] 0 (fun A H' k => ∃ y, post y ∧ A = (.b y) ∧ H' = [] ∧ k = 0) := by
 refine Tr.intro (n := 45) Try.func9 rfl Try.ntmps9 rfl (fun w0 ok F β hβ => ?_)
 unfold V_taquinlaw12_fits at hm
 refine C.seq (U.start ?_)
 refine U.e1 (o := _) rfl (.none rfl) (by exact Eff1.box rfl rfl rfl rfl rfl) ?_
 refine U.e1 (o := _) rfl (.none rfl) (by exact Eff1.box rfl rfl rfl rfl rfl) ?_
 refine U.ps 1 T rfl ?_
 refine U.done (C.nx (C.seq (C.seq ?_)))
 refine C.jn (fun (x3 : Bool) => [(2, .p 0 0), (3, .p 1 0), (28, .b x3)]) (fun (x3 : Bool) => [(0, .box (eApiSite s_1)), (1, .box (eApiState st))]) 2 hm (fun x3 hm => ?_) (fun J4 hm hJ4 => ?_)
 ·refine C.nx ?_
  refine C.ite rfl hm (fun hb10 hm => ?_) (fun hb10 hm => ?_)
  ·refine C.seq (U.start ?_)
   refine U.ps 1 T rfl ?_
   refine U.done (C.nx (C.ret (C.rt ?_)))
   exact C.fin T (rs' := [.b false]) (H' := []) (nl' := 0) [] rfl rfl (.eq rfl) trivial rfl rfl rfl rfl hβ ⟨false, hm, rfl, rfl, rfl⟩
  ·refine C.skip (C.nx (C.seq (C.seq (U.start ?_))))
   refine U.ps 1 T rfl ?_
   refine U.done (C.nx ?_)
   refine C.jn (fun (x15 : Unit) => []) (fun (x15 : Unit) => []) 0 hm (fun x15 hm => ?_) (fun J16 hm hJ16 => ?_)
   ·refine C.nx (C.seq (U.start ?_))
    refine U.ps 1 T rfl ?_
    refine U.done (C.nx (C.ret ?_))
    exact C.fin T (rs' := [.b true]) (H' := []) (nl' := 0) [] rfl rfl (.eq rfl) trivial rfl rfl rfl rfl hβ ⟨true, hm, rfl, rfl, rfl⟩
   ·refine C.block ?_
    refine St.wk (C.loop (fun (s17 : Int) => [(2, .p 0 0), (3, .p 1 0), (5, .i s17)]) (fun (s17 : Int) => [(0, .box (eApiSite s_1)), (1, .box (eApiState st))]) hm (fun s17 Y18 hm => ?_)) (Wk.mk' [some 0, some 1] rfl rfl (.eqs rfl) ⟨⟨_, rfl, .box rfl (.eq rfl)⟩, ⟨_, rfl, .box rfl (.eq rfl)⟩, trivial⟩ rfl)
    refine C.seq (C.seq (U.start ?_))
    refine U.ps 5 T rfl ?_
    refine U.done (C.nx ?_)
    refine C.ite rfl hm (fun hb21 hm => ?_) (fun hb21 hm => ?_)
    ·refine C.skip (C.nx (C.seq (C.block (C.seq ?_))))
     refine D.beg 9999 [0, 1] [] mix rfl rfl (by kernel_rfl) (by repeat (first | exact NoPanicQ.body | exact NoPanicQ.rnd | refine NoPanicQ.th ?_ | refine NoPanicQ.blk ?_)) (fun hQ hS ws M' => ?_)
     refine D.ps 5 [(0, []), (1, []), (2, []), (3, []), (4, [])] rfl hQ hS T rfl rfl (by kernel_rfl) ?_
     obtain ⟨x24, hx24, hm⟩ := hm
     refine D.q (o := _) 5 [] hQ hS rfl (.none rfl) rfl rfl (by exact Rd.ix T rfl rfl rfl rfl rfl rfl hx24) rfl (by kernel_rfl) ?_
     refine D.ps 1 [(6, [])] rfl hQ hS T rfl rfl (by kernel_rfl) ?_
     refine D.e (o := _) 7 rfl (.none rfl) (by exact Eff.c [] (v := true) (T_taquinref07_Is s_1.Floor x24 _ hm) en22 rfl rfl rfl (.eq rfl) trivial rfl rfl rfl rfl rfl rfl (fun _ _ => ⟨(.v _), trivial⟩) (.inr ⟨rfl, rfl⟩) (fun _ => rfl) (fun _ => rfl) rfl) (by kernel_rfl) rfl rfl (fun x25' hm => ?_)
     obtain ⟨x25⟩ := x25'
     refine D.ps 1 [(8, [])] rfl hQ hS T rfl rfl (by kernel_rfl) ?_
     refine D.done (by kernel_rfl) ?_
     refine C.nx ?_
     refine C.ite rfl hm (fun hb26 hm => ?_) (fun hb26 hm => ?_)
     ·refine C.seq (U.start ?_)
      refine U.ps 1 T rfl ?_
      refine U.done (C.nx (C.ret (C.brt (C.rt (C.rt (C.brt (C.rt ?_)))))))
      exact C.fin T (rs' := [.b false]) (H' := []) (nl' := 0) [] rfl rfl (.eq rfl) trivial rfl rfl rfl rfl hβ ⟨false, hm, rfl, rfl, rfl⟩
     ·refine C.skip (C.bnx (C.nx (U.start ?_)))
      refine U.ps 3 T rfl ?_
      refine U.done (C.nx ?_)
      exact St.wk (C.next hm) (Wk.mk' [some 0, some 1] rfl rfl (.eqs rfl) ⟨⟨_, rfl, .box rfl (.eq rfl)⟩, ⟨_, rfl, .box rfl (.eq rfl)⟩, trivial⟩ rfl)
    ·refine C.exit (C.ex (C.ex (C.bex ?_)))
     exact St.wk (hJ16 _ hm) (Wk.mk' [] rfl rfl trivial trivial rfl)
 ·refine U.start ?_
  refine U.ps 1 T rfl ?_
  refine U.e (o := _) rfl (.none rfl) (by exact Eff.c [] (v := true) (T_taquinref11_Few s_1 60 20 _ hm) en42 rfl rfl rfl (.eq rfl) trivial rfl rfl rfl rfl rfl rfl (fun _ _ => ⟨(.v _), trivial⟩) (.inr ⟨rfl, rfl⟩) (fun _ => rfl) (fun _ => rfl) rfl) (fun x5' hm => ?_)
  obtain ⟨x5⟩ := x5'
  refine U.ps 2 T rfl ?_
  refine hm.cs (fun hb6 hm => ?_) (fun hb6 hm => ?_)
  ·refine U.pg 4 3 false 9 (ntF hb6) T rfl rfl rfl rfl ?_
   refine U.r (o := _) rfl (.none rfl) rfl rfl (by exact Rd.pk' rfl rfl (ntF hb6) rfl) ?_
   refine U.ps 1 T rfl ?_
   refine hm.cs (fun hb7 hm => ?_) (fun hb7 hm => ?_)
   ·refine U.sks 7 9 false 15 hb7 rfl rfl rfl ?_
    refine U.r (o := _) rfl (.none rfl) rfl rfl (by exact Rd.pk rfl rfl hb7 rfl) ?_
    refine U.ps 1 T rfl ?_
    refine U.sks 3 18 false 24 rfl rfl rfl rfl ?_
    refine U.r (o := _) rfl (.none rfl) rfl rfl (by exact Rd.pk rfl rfl rfl rfl) ?_
    refine U.done ?_
    exact St.wk (hJ4 _ hm) (Wk.mk' [some 0, some 1] rfl rfl (.eqs rfl) ⟨⟨_, rfl, .box rfl (.eq rfl)⟩, ⟨_, rfl, .box rfl (.eq rfl)⟩, trivial⟩ rfl)
   ·refine U.pg 7 9 false 15 hb7 T rfl rfl rfl rfl ?_
    refine U.r (o := _) rfl (.none rfl) rfl rfl (by exact Rd.pk' rfl rfl hb7 rfl) ?_
    refine U.ps 1 T rfl ?_
    refine hm.cs (fun hb8 hm => ?_) (fun hb8 hm => ?_)
    ·refine U.sks 3 18 false 24 hb8 rfl rfl rfl ?_
     refine U.r (o := _) rfl (.none rfl) rfl rfl (by exact Rd.pk rfl rfl hb8 rfl) ?_
     refine U.done ?_
     exact St.wk (hJ4 _ hm) (Wk.mk' [some 0, some 1] rfl rfl (.eqs rfl) ⟨⟨_, rfl, .box rfl (.eq rfl)⟩, ⟨_, rfl, .box rfl (.eq rfl)⟩, trivial⟩ rfl)
    ·refine U.pg 1 18 false 24 hb8 T rfl rfl rfl rfl ?_
     refine U.e (o := _) rfl (.take 18 false 24 _ hb8 rfl rfl rfl) (by exact Eff.c [] (v := true) (T_survey_Right s_1 _ hm) en43 rfl rfl rfl (.eq rfl) trivial rfl rfl rfl rfl rfl rfl (fun _ _ => ⟨(.v _), trivial⟩) (.inr ⟨rfl, rfl⟩) (fun _ => rfl) (fun _ => rfl) rfl) (fun x9' hm => ?_)
     obtain ⟨x9⟩ := x9'
     refine U.pg 1 18 false 24 hb8 T rfl rfl rfl rfl ?_
     refine U.r (o := _) rfl (.none rfl) rfl rfl (by exact Rd.pk' rfl rfl hb8 rfl) ?_
     refine U.done ?_
     exact St.wk (hJ4 _ hm) (Wk.mk' [some 0, some 1] rfl rfl (.eqs rfl) ⟨⟨_, rfl, .box rfl (.eq rfl)⟩, ⟨_, rfl, .box rfl (.eq rfl)⟩, trivial⟩ rfl)
  ·refine U.sks 4 3 false 9 (ntT hb6) rfl rfl rfl ?_
   refine U.r (o := _) rfl (.none rfl) rfl rfl (by exact Rd.pk rfl rfl (ntT hb6) rfl) ?_
   refine U.ps 1 T rfl ?_
   refine U.sks 7 9 false 15 rfl rfl rfl rfl ?_
   refine U.r (o := _) rfl (.none rfl) rfl rfl (by exact Rd.pk rfl rfl rfl rfl) ?_
   refine U.ps 1 T rfl ?_
   refine U.sks 3 18 false 24 rfl rfl rfl rfl ?_
   refine U.r (o := _) rfl (.none rfl) rfl rfl (by exact Rd.pk rfl rfl rfl rfl) ?_
   refine U.done ?_
   exact St.wk (hJ4 _ hm) (Wk.mk' [some 0, some 1] rfl rfl (.eqs rfl) ⟨⟨_, rfl, .box rfl (.eq rfl)⟩, ⟨_, rfl, .box rfl (.eq rfl)⟩, trivial⟩ rfl)
theorem T_taquinref08_Has (r : List Int) (c : Int) (post : Bool → Prop) (hm : V_taquinref08_Has r c post) :
    Tr Try.prog 58 [.sl 1 eI r, .i c] [] 0 (fun A H' k => ∃ y, post y ∧ A = (.b y) ∧ H' = [] ∧ k = 0) := by
 refine Tr.intro (n := 36) Try.func58 rfl Try.ntmps58 rfl (fun w0 ok F β hβ => ?_)
 unfold V_taquinref08_Has at hm
 refine C.seq (U.start ?_)
 refine U.ps 1 T rfl ?_
 refine U.done (C.nx (C.seq (U.start ?_)))
 refine U.ps 1 T rfl ?_
 refine U.done (C.nx (C.seq (U.start ?_)))
 refine U.ps 3 T rfl ?_
 refine U.done (C.nx (C.seq ?_))
 refine C.jn (fun (x7 : Int) => [(0, .sl 1 eI r), (1, .i c), (5, .i x7)]) (fun (x7 : Int) => []) 0 hm (fun x7 hm => ?_) (fun J8 hm hJ8 => ?_)
 ·refine C.nx (C.seq (C.seq (U.start ?_)))
  refine U.ps 4 T rfl ?_
  refine U.done (C.nx ?_)
  refine C.ite rfl hm (fun hb29 hm => ?_) (fun hb29 hm => ?_)
  ·refine C.seq (U.start ?_)
   refine U.ps 1 T rfl ?_
   refine U.done (C.nx (C.ret (C.rt ?_)))
   exact C.fin T (rs' := [.b false]) (H' := []) (nl' := 0) [] rfl rfl (.eq rfl) trivial rfl rfl rfl rfl hβ ⟨false, hm, rfl, rfl, rfl⟩
  ·refine C.skip (C.nx (C.seq (U.start ?_)))
   refine U.ps 2 T rfl ?_
   obtain ⟨x34, hx34, hm⟩ := hm
   refine U.r (o := _) rfl (.none rfl) rfl rfl (by exact Rd.ix T rfl rfl rfl rfl rfl rfl hx34) ?_
   refine U.ps 4 T rfl ?_
   refine U.done (C.nx (C.ret ?_))
   exact C.fin T (rs' := [.b (x34 == c)]) (H' := []) (nl' := 0) [] rfl rfl (.eq rfl) trivial rfl rfl rfl rfl hβ ⟨(x34 == c), hm, rfl, rfl, rfl⟩
 ·refine C.block ?_
  refine St.wk (C.loop (fun (s9 : Int × Int) => [(0, .sl 1 eI r), (1, .i c), (5, .i s9.1), (6, .i s9.2)]) (fun (s9 : Int × Int) => []) hm (fun s9 Y10 hm => ?_)) (Wk.mk' [] rfl rfl (.eqs rfl) trivial rfl)
  refine C.seq (C.seq (U.start ?_))
  refine U.ps 3 T rfl ?_
  refine U.done (C.nx ?_)
  refine C.ite rfl hm (fun hb13 hm => ?_) (fun hb13 hm => ?_)
  ·refine C.skip (C.nx (C.block (C.seq (U.start ?_))))
   refine U.ps 3 T rfl ?_
   refine U.r (o := _) rfl (.none rfl) rfl rfl (by exact Rd.dv rfl rfl rfl rfl (by decide)) ?_
   refine U.ps 1 T rfl ?_
   refine U.done (C.nx (C.seq (U.start ?_)))
   refine U.ps 2 T rfl ?_
   obtain ⟨x19, hx19, hm⟩ := hm
   refine U.r (o := _) rfl (.none rfl) rfl rfl (by exact Rd.ix T rfl rfl rfl rfl rfl rfl hx19) ?_
   refine U.ps 3 T rfl ?_
   refine U.done (C.nx ?_)
   refine C.jn (fun (x20 : Int × Int) => [(0, .sl 1 eI r), (1, .i c), (5, .i x20.1), (6, .i x20.2)]) (fun (x20 : Int × Int) => []) 0 hm (fun x20 hm => ?_) (fun J21 hm hJ21 => ?_)
   ·refine C.bnx (C.nx ?_)
    exact St.wk (C.next hm) (Wk.mk' [] rfl rfl (.eqs rfl) trivial rfl)
   ·refine C.ite rfl hm (fun hb22 hm => ?_) (fun hb22 hm => ?_)
    ·refine U.start ?_
     refine U.ps 3 T rfl ?_
     refine U.done ?_
     exact St.wk (hJ21 _ hm) (Wk.mk' [] rfl rfl (.eqs rfl) trivial rfl)
    ·refine U.start ?_
     refine U.ps 2 T rfl ?_
     refine U.done ?_
     exact St.wk (hJ21 _ hm) (Wk.mk' [] rfl rfl (.eqs rfl) trivial rfl)
  ·refine C.exit (C.ex (C.ex (C.bex ?_)))
   exact St.wk (hJ8 _ hm) (Wk.mk' [] rfl rfl (.eqs rfl) trivial rfl)
theorem T_taquinref12_ZoneOf (s_1 : ApiSite) (c : Int) (post : Int → Prop) (hm : V_taquinref12_ZoneOf s_1 c post) :
    Tr Try.prog 27 [.agg (eApiSite s_1), .i c] [] 0 (fun A H' k => ∃ y, post y ∧ A = (.i y) ∧ H' = [] ∧ k = 0) := by
 refine Tr.intro (n := 22) Try.func27 rfl Try.ntmps27 rfl (fun w0 ok F β hβ => ?_)
 unfold V_taquinref12_ZoneOf at hm
 refine C.seq (U.start ?_)
 refine U.e1 (o := _) rfl (.none rfl) (by exact Eff1.box rfl rfl rfl rfl rfl) ?_
 refine U.ps 1 T rfl ?_
 refine U.done (C.nx (C.seq (C.seq (U.start ?_))))
 refine U.ps 1 T rfl ?_
 refine U.done (C.nx ?_)
 refine C.jn (fun (x5 : Unit) => []) (fun (x5 : Unit) => []) 0 hm (fun x5 hm => ?_) (fun J6 hm hJ6 => ?_)
 ·refine C.nx (C.seq (U.start ?_))
  refine U.ps 1 T rfl ?_
  refine U.done (C.nx (C.ret ?_))
  exact C.fin T (rs' := [.i (-1)]) (H' := []) (nl' := 0) [] rfl rfl (.eq rfl) trivial rfl rfl rfl rfl hβ ⟨(-1), hm, rfl, rfl, rfl⟩
 ·refine C.block ?_
  refine St.wk (C.loop (fun (s7 : Int) => [(1, .i c), (2, .p 0 0), (5, .i s7)]) (fun (s7 : Int) => [(0, .box (eApiSite s_1))]) hm (fun s7 Y8 hm => ?_)) (Wk.mk' [some 0] rfl rfl (.eqs rfl) ⟨⟨_, rfl, .box rfl (.eq rfl)⟩, trivial⟩ rfl)
  refine C.seq (C.seq (U.start ?_))
  refine U.ps 5 T rfl ?_
  refine U.done (C.nx ?_)
  refine C.ite rfl hm (fun hb11 hm => ?_) (fun hb11 hm => ?_)
  ·refine C.skip (C.nx (C.seq (C.block (C.seq (U.start ?_)))))
   refine U.ps 3 T rfl ?_
   obtain ⟨x14, hx14, hm⟩ := hm
   refine U.r (o := _) rfl (.none rfl) rfl rfl (by exact Rd.ix T rfl rfl rfl rfl rfl rfl hx14) ?_
   refine U.ps 3 T rfl ?_
   refine U.e (o := _) rfl (.none rfl) (by exact Eff.c [] (v := true) (T_taquinref08_Has x14.Cells c _ hm) en58 rfl rfl rfl (.eq rfl) trivial rfl rfl rfl rfl rfl rfl (fun _ _ => ⟨(.v _), trivial⟩) (.inr ⟨rfl, rfl⟩) (fun _ => rfl) (fun _ => rfl) rfl) (fun x15' hm => ?_)
   obtain ⟨x15⟩ := x15'
   refine U.done (C.nx ?_)
   refine C.ite rfl hm (fun hb16 hm => ?_) (fun hb16 hm => ?_)
   ·refine C.seq (U.start ?_)
    refine U.ps 2 T rfl ?_
    refine U.done (C.nx (C.ret (C.brt (C.rt (C.rt (C.brt (C.rt ?_)))))))
    exact C.fin T (rs' := [.i s7]) (H' := []) (nl' := 0) [] rfl rfl (.eq rfl) trivial rfl rfl rfl rfl hβ ⟨s7, hm, rfl, rfl, rfl⟩
   ·refine C.skip (C.bnx (C.nx (U.start ?_)))
    refine U.ps 3 T rfl ?_
    refine U.done (C.nx ?_)
    exact St.wk (C.next hm) (Wk.mk' [some 0] rfl rfl (.eqs rfl) ⟨⟨_, rfl, .box rfl (.eq rfl)⟩, trivial⟩ rfl)
  ·refine C.exit (C.ex (C.ex (C.bex ?_)))
   exact St.wk (hJ6 _ hm) (Wk.mk' [] rfl rfl trivial trivial rfl)
theorem T_taquinref12_Speed (s_1 : ApiSite) (c : Int) (post : Int → Prop) (hm : V_taquinref12_Speed s_1 c post) :
    Tr Try.prog 28 [.agg (eApiSite s_1), .i c] [] 0 (fun A H' k => ∃ y, post y ∧ A = (.i y) ∧ H' = [] ∧ k = 0) := by
 refine Tr.intro (n := 17) Try.func28 rfl Try.ntmps28 rfl (fun w0 ok F β hβ => ?_)
 unfold V_taquinref12_Speed at hm
 refine C.seq (U.start ?_)
 refine U.e1 (o := _) rfl (.none rfl) (by exact Eff1.box rfl rfl rfl rfl rfl) ?_
 refine U.ps 1 T rfl ?_
 refine U.done (C.nx (C.seq (U.start ?_)))
 refine U.ps 2 T rfl ?_
 refine U.e (o := _) rfl (.none rfl) (by exact Eff.c [] (v := true) (T_taquinref12_ZoneOf s_1 c _ hm) en27 rfl rfl rfl (.eq rfl) trivial rfl rfl rfl rfl rfl rfl (fun _ _ => ⟨(.v _), trivial⟩) (.inr ⟨rfl, rfl⟩) (fun _ => rfl) (fun _ => rfl) rfl) (fun x5' hm => ?_)
 obtain ⟨x5⟩ := x5'
 refine U.ps 1 T rfl ?_
 refine U.done (C.nx (C.seq (C.seq (U.start ?_))))
 refine U.ps 2 T rfl ?_
 refine U.done (C.nx ?_)
 refine C.ite rfl hm (fun hb8 hm => ?_) (fun hb8 hm => ?_)
 ·refine C.seq (U.start ?_)
  refine U.ps 1 T rfl ?_
  refine U.done (C.nx (C.ret (C.rt ?_)))
  exact C.fin T (rs' := [.i 1]) (H' := []) (nl' := 0) [] rfl rfl (.eq rfl) trivial rfl rfl rfl rfl hβ ⟨1, hm, rfl, rfl, rfl⟩
 ·refine C.skip (C.nx (C.seq (U.start ?_)))
  refine U.ps 3 T rfl ?_
  obtain ⟨x13, hx13, hm⟩ := hm
  refine U.r (o := _) rfl (.none rfl) rfl rfl (by exact Rd.ix T rfl rfl rfl rfl rfl rfl hx13) ?_
  refine U.ps 3 T rfl ?_
  refine U.done (C.nx (C.ret ?_))
  exact C.fin T (rs' := [.i x13.Speed]) (H' := []) (nl' := 0) [] rfl rfl (.eq rfl) trivial rfl rfl rfl rfl hβ ⟨x13.Speed, hm, rfl, rfl, rfl⟩
theorem T_taquinref12_Open (s_1 : ApiSite) (c : Int) (tick : Int) (post : Bool → Prop) (hm : V_taquinref12_Open s_1 c tick post) :
    Tr Try.prog 29 [.agg (eApiSite s_1), .i c, .i tick] [] 0 (fun A H' k => ∃ y, post y ∧ A = (.b y) ∧ H' = [] ∧ k = 0) := by
 refine Tr.intro (n := 48) Try.func29 rfl Try.ntmps29 rfl (fun w0 ok F β hβ => ?_)
 unfold V_taquinref12_Open at hm
 refine C.seq (U.start ?_)
 refine U.e1 (o := _) rfl (.none rfl) (by exact Eff1.box rfl rfl rfl rfl rfl) ?_
 refine U.ps 1 T rfl ?_
 refine U.done (C.nx (C.seq (C.seq (U.start ?_))))
 refine U.ps 3 T rfl ?_
 refine U.e (o := _) rfl (.none rfl) (by exact Eff.c [] (v := true) (T_taquinref07_Is s_1.Floor c _ hm) en22 rfl rfl rfl (.eq rfl) trivial rfl rfl rfl rfl rfl rfl (fun _ _ => ⟨(.v _), trivial⟩) (.inr ⟨rfl, rfl⟩) (fun _ => rfl) (fun _ => rfl) rfl) (fun x5' hm => ?_)
 obtain ⟨x5⟩ := x5'
 refine U.ps 1 T rfl ?_
 refine U.done (C.nx ?_)
 refine C.ite rfl hm (fun hb6 hm => ?_) (fun hb6 hm => ?_)
 ·refine C.seq (U.start ?_)
  refine U.ps 1 T rfl ?_
  refine U.done (C.nx (C.ret (C.rt ?_)))
  exact C.fin T (rs' := [.b false]) (H' := []) (nl' := 0) [] rfl rfl (.eq rfl) trivial rfl rfl rfl rfl hβ ⟨false, hm, rfl, rfl, rfl⟩
 ·refine C.skip (C.nx (C.seq (U.start ?_)))
  refine U.ps 2 T rfl ?_
  refine U.e (o := _) rfl (.none rfl) (by exact Eff.c [] (v := true) (T_taquinref12_ZoneOf s_1 c _ hm) en27 rfl rfl rfl (.eq rfl) trivial rfl rfl rfl rfl rfl rfl (fun _ _ => ⟨(.v _), trivial⟩) (.inr ⟨rfl, rfl⟩) (fun _ => rfl) (fun _ => rfl) rfl) (fun x11' hm => ?_)
  obtain ⟨x11⟩ := x11'
  refine U.ps 1 T rfl ?_
  refine U.done (C.nx (C.seq (C.seq (U.start ?_))))
  refine U.ps 2 T rfl ?_
  refine U.done (C.nx ?_)
  refine C.ite rfl hm (fun hb14 hm => ?_) (fun hb14 hm => ?_)
  ·refine C.seq (U.start ?_)
   refine U.ps 1 T rfl ?_
   refine U.done (C.nx (C.ret (C.rt ?_)))
   exact C.fin T (rs' := [.b true]) (H' := []) (nl' := 0) [] rfl rfl (.eq rfl) trivial rfl rfl rfl rfl hβ ⟨true, hm, rfl, rfl, rfl⟩
  ·refine C.skip (C.nx (C.seq (U.start ?_)))
   refine U.ps 3 T rfl ?_
   obtain ⟨x19, hx19, hm⟩ := hm
   refine U.r (o := _) rfl (.none rfl) rfl rfl (by exact Rd.ix T rfl rfl rfl rfl rfl rfl hx19) ?_
   refine U.ps 3 T rfl ?_
   refine U.done (C.nx (C.seq (C.seq (U.start ?_))))
   refine U.ps 1 T rfl ?_
   refine U.done (C.nx ?_)
   refine C.jn (fun (x22 : Unit) => []) (fun (x22 : Unit) => []) 0 hm (fun x22 hm => ?_) (fun J23 hm hJ23 => ?_)
   ·refine C.nx (C.seq (U.start ?_))
    refine U.ps 1 T rfl ?_
    refine U.done (C.nx (C.ret ?_))
    exact C.fin T (rs' := [.b true]) (H' := []) (nl' := 0) [] rfl rfl (.eq rfl) trivial rfl rfl rfl rfl hβ ⟨true, hm, rfl, rfl, rfl⟩
   ·refine C.block ?_
    refine St.wk (C.loop (fun (s24 : Int) => [(2, .i tick), (8, .sl 2 eApiSpan x19.Shut), (9, .i s24)]) (fun (s24 : Int) => []) hm (fun s24 Y25 hm => ?_)) (Wk.mk' [] rfl rfl (.eqs rfl) trivial rfl)
    refine C.seq (C.seq (U.start ?_))
    refine U.ps 4 T rfl ?_
    refine U.done (C.nx ?_)
    refine C.ite rfl hm (fun hb28 hm => ?_) (fun hb28 hm => ?_)
    ·refine C.skip (C.nx (C.seq (C.block (C.seq ?_))))
     refine C.jn (fun (x29 : Bool) => [(2, .i tick), (8, .sl 2 eApiSpan x19.Shut), (9, .i s24), (47, .b x29)]) (fun (x29 : Bool) => []) 0 hm (fun x29 hm => ?_) (fun J30 hm hJ30 => ?_)
     ·refine C.nx ?_
      refine C.ite rfl hm (fun hb33 hm => ?_) (fun hb33 hm => ?_)
      ·refine C.seq (U.start ?_)
       refine U.ps 1 T rfl ?_
       refine U.done (C.nx (C.ret (C.brt (C.rt (C.rt (C.brt (C.rt ?_)))))))
       exact C.fin T (rs' := [.b false]) (H' := []) (nl' := 0) [] rfl rfl (.eq rfl) trivial rfl rfl rfl rfl hβ ⟨false, hm, rfl, rfl, rfl⟩
      ·refine C.skip (C.bnx (C.nx (U.start ?_)))
       refine U.ps 3 T rfl ?_
       refine U.done (C.nx ?_)
       exact St.wk (C.next hm) (Wk.mk' [] rfl rfl (.eqs rfl) trivial rfl)
     ·refine U.start ?_
      refine U.ps 3 T rfl ?_
      obtain ⟨x31, hx31, hm⟩ := hm
      refine U.r (o := _) rfl (.none rfl) rfl rfl (by exact Rd.ix T rfl rfl rfl rfl rfl rfl hx31) ?_
      refine U.ps 4 T rfl ?_
      refine hm.cs (fun hb32 hm => ?_) (fun hb32 hm => ?_)
      ·refine U.pg 3 7 true 39 hb32 T rfl rfl rfl rfl ?_
       refine U.r (o := _) rfl (.take 7 true 39 _ hb32 rfl rfl rfl) rfl rfl (by exact Rd.ix T rfl rfl rfl rfl rfl rfl hx31) ?_
       refine U.pg 3 7 true 39 hb32 T rfl rfl rfl rfl ?_
       refine U.r (o := _) rfl (.none rfl) rfl rfl (by exact Rd.pk rfl rfl hb32 rfl) ?_
       refine U.done ?_
       exact St.wk (hJ30 _ hm) (Wk.mk' [] rfl rfl (.eqs rfl) trivial rfl)
      ·refine U.sks 7 7 true 39 hb32 rfl rfl rfl ?_
       refine U.r (o := _) rfl (.none rfl) rfl rfl (by exact Rd.pk' rfl rfl hb32 rfl) ?_
       refine U.done ?_
       exact St.wk (hJ30 _ hm) (Wk.mk' [] rfl rfl (.eqs rfl) trivial rfl)
    ·refine C.exit (C.ex (C.ex (C.bex ?_)))
     exact St.wk (hJ23 _ hm) (Wk.mk' [] rfl rfl trivial trivial rfl)
theorem T_taquinref12_Stands (s_1 : ApiSite) (c : Int) (post : Bool → Prop) (hm : V_taquinref12_Stands s_1 c post) :
    Tr Try.prog 30 [.agg (eApiSite s_1), .i c] [] 0 (fun A H' k => ∃ y, post y ∧ A = (.b y) ∧ H' = [] ∧ k = 0) := by
 refine Tr.intro (n := 26) Try.func30 rfl Try.ntmps30 rfl (fun w0 ok F β hβ => ?_)
 unfold V_taquinref12_Stands at hm
 refine C.seq (U.start ?_)
 refine U.e1 (o := _) rfl (.none rfl) (by exact Eff1.box rfl rfl rfl rfl rfl) ?_
 refine U.ps 1 T rfl ?_
 refine U.done (C.nx (C.seq (C.seq (U.start ?_))))
 refine U.ps 3 T rfl ?_
 refine U.e (o := _) rfl (.none rfl) (by exact Eff.c [] (v := true) (T_taquinref07_Is s_1.Floor c _ hm) en22 rfl rfl rfl (.eq rfl) trivial rfl rfl rfl rfl rfl rfl (fun _ _ => ⟨(.v _), trivial⟩) (.inr ⟨rfl, rfl⟩) (fun _ => rfl) (fun _ => rfl) rfl) (fun x5' hm => ?_)
 obtain ⟨x5⟩ := x5'
 refine U.ps 1 T rfl ?_
 refine U.done (C.nx ?_)
 refine C.ite rfl hm (fun hb6 hm => ?_) (fun hb6 hm => ?_)
 ·refine C.seq (U.start ?_)
  refine U.ps 1 T rfl ?_
  refine U.done (C.nx (C.ret (C.rt ?_)))
  exact C.fin T (rs' := [.b false]) (H' := []) (nl' := 0) [] rfl rfl (.eq rfl) trivial rfl rfl rfl rfl hβ ⟨false, hm, rfl, rfl, rfl⟩
 ·refine C.skip (C.nx (C.seq ?_))
  refine C.jn (fun (x9 : Bool) => [(4, .b x9)]) (fun (x9 : Bool) => []) 0 hm (fun x9 hm => ?_) (fun J10 hm hJ10 => ?_)
  ·refine C.nx (C.ret ?_)
   exact C.fin T (rs' := [.b x9]) (H' := []) (nl' := 0) [] rfl rfl (.eq rfl) trivial rfl rfl rfl rfl hβ ⟨x9, hm, rfl, rfl, rfl⟩
  ·refine U.start ?_
   refine U.ps 4 T rfl ?_
   obtain ⟨x11, hx11, hm⟩ := hm
   refine U.r (o := _) rfl (.none rfl) rfl rfl (by exact Rd.ix T rfl rfl rfl rfl rfl rfl hx11) ?_
   refine U.ps 3 T rfl ?_
   refine hm.cs (fun hb12 hm => ?_) (fun hb12 hm => ?_)
   ·refine U.sks 7 7 false 17 hb12 rfl rfl rfl ?_
    refine U.r (o := _) rfl (.none rfl) rfl rfl (by exact Rd.pk rfl rfl hb12 rfl) ?_
    refine U.ps 1 T rfl ?_
    refine U.done ?_
    exact St.wk (hJ10 _ hm) (Wk.mk' [] rfl rfl (.eqs rfl) trivial rfl)
   ·refine U.pg 4 7 false 17 hb12 T rfl rfl rfl rfl ?_
    refine U.r (o := _) rfl (.take 7 false 17 _ hb12 rfl rfl rfl) rfl rfl (by exact Rd.ix T rfl rfl rfl rfl rfl rfl hx11) ?_
    refine U.pg 2 7 false 17 hb12 T rfl rfl rfl rfl ?_
    refine U.r (o := _) rfl (.none rfl) rfl rfl (by exact Rd.pk' rfl rfl hb12 rfl) ?_
    refine U.ps 1 T rfl ?_
    refine U.done ?_
    exact St.wk (hJ10 _ hm) (Wk.mk' [] rfl rfl (.eqs rfl) trivial rfl)
theorem T_rules_OfKind (s_1 : ApiSite) (kind : Int) (post : (List Int) → Prop) (hm : V_rules_OfKind s_1 kind post) :
    Tr Try.prog 21 [.agg (eApiSite s_1), .i kind] [] 0 (fun A H' k => ∃ y, post y ∧ A = (.o 0) ∧ H' = [(0, .val (.os 1 eI y))] ∧ k = 1) := by
 refine Tr.intro (n := 26) Try.func21 rfl Try.ntmps21 rfl (fun w0 ok F β hβ => ?_)
 unfold V_rules_OfKind at hm
 refine C.seq (U.start ?_)
 refine U.e1 (o := _) rfl (.none rfl) (by exact Eff1.box rfl rfl rfl rfl rfl) ?_
 refine U.ps 1 T rfl ?_
 refine U.done (C.nx (C.seq (U.start ?_)))
 refine U.ps 1 T rfl ?_
 refine U.done (C.nx (C.seq (C.seq (U.start ?_))))
 refine U.ps 5 T rfl ?_
 refine U.done (C.nx ?_)
 refine C.jn (fun (x7 : List Int) => [(5, .o 0)]) (fun (x7 : List Int) => [(0, .val (.os 1 eI x7))]) 1 hm (fun x7 hm => ?_) (fun J8 hm hJ8 => ?_)
 ·refine C.nx (C.seq (U.start ?_))
  refine U.ps 2 T rfl ?_
  refine U.done (C.nx (C.ret ?_))
  exact C.fin T (rs' := [.o 0]) (H' := [(0, .val (.os 1 eI x7))]) (nl' := 1) [some 0] rfl rfl (.eq rfl) ⟨⟨_, rfl, .val rfl⟩, trivial⟩ rfl rfl rfl rfl hβ ⟨x7, hm, rfl, rfl, rfl⟩
 ·refine C.block ?_
  refine St.wk (C.loop (fun (s9 : List Int × Int) => [(1, .i kind), (5, .o 0), (10, .sl 1 eI s_1.Floor.Kind), (11, .i (s_1.Floor.Kind.length : Int)), (12, .i s9.2)]) (fun (s9 : List Int × Int) => [(0, .val (.os 1 eI s9.1))]) hm (fun s9 Y10 hm => ?_)) (Wk.mk' [none] rfl rfl ⟨⟨_, rfl, (.eq rfl)⟩, ⟨_, rfl, (.nilO _ _ ⟨rfl, rfl⟩ rfl)⟩, ChkG.eqs rfl⟩ ⟨⟨_, rfl, .nil _ _⟩, trivial⟩ rfl)
  refine C.seq (U.start ?_)
  refine U.ps 1 T rfl ?_
  refine U.done (C.nx (C.seq ?_))
  refine C.ite rfl hm (fun hb13 hm => ?_) (fun hb13 hm => ?_)
  ·refine C.skip (C.nx (C.seq (C.block (C.seq (U.start ?_)))))
   refine U.ps 1 T rfl ?_
   obtain ⟨x16, hx16, hm⟩ := hm
   refine U.r (o := _) rfl (.none rfl) rfl rfl (by exact Rd.ix T rfl rfl rfl rfl rfl rfl hx16) ?_
   refine U.ps 3 T rfl ?_
   refine U.done (C.nx (C.seq (U.start ?_)))
   refine U.ps 3 T rfl ?_
   refine U.done (C.nx ?_)
   refine C.jn (fun (x19 : List Int) => [(1, .i kind), (5, .o 0), (10, .sl 1 eI s_1.Floor.Kind), (11, .i (s_1.Floor.Kind.length : Int)), (12, .i s9.2)]) (fun (x19 : List Int) => [(0, .val (.os 1 eI x19))]) 1 hm (fun x19 hm => ?_) (fun J20 hm hJ20 => ?_)
   ·refine C.bnx (C.nx (U.start ?_))
    refine U.ps 2 T rfl ?_
    refine U.done (C.nx ?_)
    exact St.wk (C.next hm) (Wk.mk' [some 0] rfl rfl (.eqs rfl) ⟨⟨_, rfl, .val rfl⟩, trivial⟩ rfl)
   ·refine C.ite rfl hm (fun hb21 hm => ?_) (fun hb21 hm => ?_)
    ·refine U.start ?_
     refine U.ps 2 T rfl ?_
     refine U.e1 (o := _) rfl (.none rfl) (by exact Eff1.bs T (enc := eI) (xs := ([s9.2] : List Int)) rfl rfl rfl rfl rfl rfl rfl rfl rfl rfl (fun _ _ => rfl) rfl rfl) ?_
     obtain ⟨hx24, hm⟩ := hm
     refine U.e1 (o := _) rfl (.none rfl) (by exact Eff1.ap T rfl rfl rfl rfl rfl rfl (.inr ⟨_, rfl, rfl⟩) rfl rfl rfl (fun _ => rfl) rfl hx24) ?_
     refine U.ps 1 T rfl ?_
     refine U.done ?_
     exact St.wk (hJ20 _ hm) (Wk.mk' [some 2] rfl rfl (.eqs rfl) ⟨⟨_, rfl, .val rfl⟩, trivial⟩ rfl)
    ·refine C.skip ?_
     exact St.wk (hJ20 _ hm) (Wk.mk' [some 0] rfl rfl (.eqs rfl) ⟨⟨_, rfl, .val rfl⟩, trivial⟩ rfl)
  ·refine C.exit (C.ex (C.ex (C.bex ?_)))
   exact St.wk (hJ8 _ hm) (Wk.mk' [some 0] rfl rfl (.eqs rfl) ⟨⟨_, rfl, .val rfl⟩, trivial⟩ rfl)
theorem T_taquinref12_OfKind (s_1 : ApiSite) (kind : Int) (post : (List Int) → Prop) (hm : V_taquinref12_OfKind s_1 kind post) :
    Tr Try.prog 32 [.agg (eApiSite s_1), .i kind] [] 0 (fun A H' k => ∃ y, post y ∧ A = (.o 0) ∧ H' = [(0, .val (.os 1 eI y))] ∧ k = 1) := by
 refine Tr.intro (n := 28) Try.func32 rfl Try.ntmps32 rfl (fun w0 ok F β hβ => ?_)
 unfold V_taquinref12_OfKind at hm
 refine C.seq (U.start ?_)
 refine U.e1 (o := _) rfl (.none rfl) (by exact Eff1.box rfl rfl rfl rfl rfl) ?_
 refine U.ps 1 T rfl ?_
 refine U.done (C.nx (C.seq (U.start ?_)))
 refine U.ps 1 T rfl ?_
 refine U.done (C.nx (C.seq (C.seq (U.start ?_))))
 refine U.ps 1 T rfl ?_
 refine U.done (C.nx ?_)
 refine C.jn (fun (x7 : List Int) => [(5, .o 0)]) (fun (x7 : List Int) => [(0, .val (.os 1 eI x7))]) 1 hm (fun x7 hm => ?_) (fun J8 hm hJ8 => ?_)
 ·refine C.nx (C.seq (U.start ?_))
  refine U.ps 2 T rfl ?_
  refine U.done (C.nx (C.ret ?_))
  exact C.fin T (rs' := [.o 0]) (H' := [(0, .val (.os 1 eI x7))]) (nl' := 1) [some 0] rfl rfl (.eq rfl) ⟨⟨_, rfl, .val rfl⟩, trivial⟩ rfl rfl rfl rfl hβ ⟨x7, hm, rfl, rfl, rfl⟩
 ·refine C.block ?_
  refine St.wk (C.loop (fun (s9 : List Int × Int) => [(1, .i kind), (2, .p 0 0), (5, .o 1), (6, .i s9.2)]) (fun (s9 : List Int × Int) => [(0, .box (eApiSite s_1)), (1, .val (.os 1 eI s9.1))]) hm (fun s9 Y10 hm => ?_)) (Wk.mk' [some 0, none] rfl rfl ⟨⟨_, rfl, (.eq rfl)⟩, ⟨_, rfl, (.eq rfl)⟩, ⟨_, rfl, (.nilO _ _ ⟨rfl, rfl⟩ rfl)⟩, ChkG.eqs rfl⟩ ⟨⟨_, rfl, .box rfl (.eq rfl)⟩, ⟨_, rfl, .nil _ _⟩, trivial⟩ rfl)
  refine C.seq (C.seq (U.start ?_))
  refine U.ps 6 T rfl ?_
  refine U.done (C.nx ?_)
  refine C.ite rfl hm (fun hb13 hm => ?_) (fun hb13 hm => ?_)
  ·refine C.skip (C.nx (C.seq (C.block (C.seq (U.start ?_)))))
   refine U.ps 4 T rfl ?_
   obtain ⟨x16, hx16, hm⟩ := hm
   refine U.r (o := _) rfl (.none rfl) rfl rfl (by exact Rd.ix T rfl rfl rfl rfl rfl rfl hx16) ?_
   refine U.ps 3 T rfl ?_
   refine U.done (C.nx ?_)
   refine C.jn (fun (x17 : List Int) => [(1, .i kind), (2, .p 0 0), (5, .o 1), (6, .i s9.2)]) (fun (x17 : List Int) => [(0, .box (eApiSite s_1)), (1, .val (.os 1 eI x17))]) 2 hm (fun x17 hm => ?_) (fun J18 hm hJ18 => ?_)
   ·refine C.bnx (C.nx (U.start ?_))
    refine U.ps 3 T rfl ?_
    refine U.done (C.nx ?_)
    exact St.wk (C.next hm) (Wk.mk' [some 0, some 1] rfl rfl (.eqs rfl) ⟨⟨_, rfl, .box rfl (.eq rfl)⟩, ⟨_, rfl, .val rfl⟩, trivial⟩ rfl)
   ·refine C.ite rfl hm (fun hb19 hm => ?_) (fun hb19 hm => ?_)
    ·refine U.start ?_
     refine U.ps 2 T rfl ?_
     refine U.e1 (o := _) rfl (.none rfl) (by exact Eff1.bs T (enc := eI) (xs := ([s9.2] : List Int)) rfl rfl rfl rfl rfl rfl rfl rfl rfl rfl (fun _ _ => rfl) rfl rfl) ?_
     obtain ⟨hx22, hm⟩ := hm
     refine U.e1 (o := _) rfl (.none rfl) (by exact Eff1.ap T rfl rfl rfl rfl rfl rfl (.inr ⟨_, rfl, rfl⟩) rfl rfl rfl (fun _ => rfl) rfl hx22) ?_
     refine U.ps 1 T rfl ?_
     refine U.done ?_
     exact St.wk (hJ18 _ hm) (Wk.mk' [some 0, some 3] rfl rfl (.eqs rfl) ⟨⟨_, rfl, .box rfl (.eq rfl)⟩, ⟨_, rfl, .val rfl⟩, trivial⟩ rfl)
    ·refine C.skip ?_
     exact St.wk (hJ18 _ hm) (Wk.mk' [some 0, some 1] rfl rfl (.eqs rfl) ⟨⟨_, rfl, .box rfl (.eq rfl)⟩, ⟨_, rfl, .val rfl⟩, trivial⟩ rfl)
  ·refine C.exit (C.ex (C.ex (C.bex ?_)))
   exact St.wk (hJ8 _ hm) (Wk.mk' [some 1] rfl rfl (.eqs rfl) ⟨⟨_, rfl, .val rfl⟩, trivial⟩ rfl)
theorem T_taquinref07_Same (a : List Int) (b : List Int) (post : Bool → Prop) (hm : V_taquinref07_Same a b post) :
    Tr Try.prog 31 [.sl 1 eI a, .sl 1 eI b] [] 0 (fun A H' k => ∃ y, post y ∧ A = (.b y) ∧ H' = [] ∧ k = 0) := by
 refine Tr.intro (n := 26) Try.func31 rfl Try.ntmps31 rfl (fun w0 ok F β hβ => ?_)
 unfold V_taquinref07_Same at hm
 refine C.seq (U.start ?_)
 refine U.ps 1 T rfl ?_
 refine U.done (C.nx (C.seq (C.seq (U.start ?_))))
 refine U.ps 5 T rfl ?_
 refine U.done (C.nx ?_)
 refine C.ite rfl hm (fun hb5 hm => ?_) (fun hb5 hm => ?_)
 ·refine C.seq (U.start ?_)
  refine U.ps 1 T rfl ?_
  refine U.done (C.nx (C.ret (C.rt ?_)))
  exact C.fin T (rs' := [.b false]) (H' := []) (nl' := 0) [] rfl rfl (.eq rfl) trivial rfl rfl rfl rfl hβ ⟨false, hm, rfl, rfl, rfl⟩
 ·refine C.skip (C.nx (C.seq (C.seq (U.start ?_))))
  refine U.ps 1 T rfl ?_
  refine U.done (C.nx ?_)
  refine C.jn (fun (x10 : Unit) => []) (fun (x10 : Unit) => []) 0 hm (fun x10 hm => ?_) (fun J11 hm hJ11 => ?_)
  ·refine C.nx (C.seq (U.start ?_))
   refine U.ps 1 T rfl ?_
   refine U.done (C.nx (C.ret ?_))
   exact C.fin T (rs' := [.b true]) (H' := []) (nl' := 0) [] rfl rfl (.eq rfl) trivial rfl rfl rfl rfl hβ ⟨true, hm, rfl, rfl, rfl⟩
  ·refine C.block ?_
   refine St.wk (C.loop (fun (s12 : Int) => [(0, .sl 1 eI a), (1, .sl 1 eI b), (5, .i s12)]) (fun (s12 : Int) => []) hm (fun s12 Y13 hm => ?_)) (Wk.mk' [] rfl rfl (.eqs rfl) trivial rfl)
   refine C.seq (C.seq (U.start ?_))
   refine U.ps 4 T rfl ?_
   refine U.done (C.nx ?_)
   refine C.ite rfl hm (fun hb16 hm => ?_) (fun hb16 hm => ?_)
   ·refine C.skip (C.nx (C.seq (C.block (C.seq ?_))))
    refine D.beg 9999 [] [] mix rfl rfl (by kernel_rfl) (by repeat (first | exact NoPanicQ.body | exact NoPanicQ.rnd | refine NoPanicQ.th ?_ | refine NoPanicQ.blk ?_)) (fun hQ hS ws M' => ?_)
    refine D.ps 2 [(0, []), (1, [])] rfl hQ hS T rfl rfl (by kernel_rfl) ?_
    obtain ⟨x19, hx19, hm⟩ := hm
    refine D.q (o := _) 2 [] hQ hS rfl (.none rfl) rfl rfl (by exact Rd.ix T rfl rfl rfl rfl rfl rfl hx19) rfl (by kernel_rfl) ?_
    refine D.ps 3 [(3, []), (4, []), (5, [])] rfl hQ hS T rfl rfl (by kernel_rfl) ?_
    obtain ⟨x20, hx20, hm⟩ := hm
    refine D.q (o := _) 6 [] hQ hS rfl (.none rfl) rfl rfl (by exact Rd.ix T rfl rfl rfl rfl rfl rfl hx20) rfl (by kernel_rfl) ?_
    refine D.ps 2 [(7, []), (8, [])] rfl hQ hS T rfl rfl (by kernel_rfl) ?_
    refine D.done (by kernel_rfl) ?_
    refine C.nx ?_
    refine C.ite rfl hm (fun hb21 hm => ?_) (fun hb21 hm => ?_)
    ·refine C.seq (U.start ?_)
     refine U.ps 1 T rfl ?_
     refine U.done (C.nx (C.ret (C.brt (C.rt (C.rt (C.brt (C.rt ?_)))))))
     exact C.fin T (rs' := [.b false]) (H' := []) (nl' := 0) [] rfl rfl (.eq rfl) trivial rfl rfl rfl rfl hβ ⟨false, hm, rfl, rfl, rfl⟩
    ·refine C.skip (C.bnx (C.nx (U.start ?_)))
     refine U.ps 3 T rfl ?_
     refine U.done (C.nx ?_)
     exact St.wk (C.next hm) (Wk.mk' [] rfl rfl (.eqs rfl) trivial rfl)
   ·refine C.exit (C.ex (C.ex (C.bex ?_)))
    exact St.wk (hJ11 _ hm) (Wk.mk' [] rfl rfl trivial trivial rfl)
theorem T_taquinref12_Class (s_1 : ApiSite) (shelf : Int) (post : ByteArray → Prop) (hm : V_taquinref12_Class s_1 shelf post) :
    Tr Try.prog 33 [.agg (eApiSite s_1), .i shelf] [] 0 (fun A H' k => ∃ y, post y ∧ A = (.v (.string y)) ∧ H' = [] ∧ k = 0) := by
 refine Tr.intro (n := 20) Try.func33 rfl Try.ntmps33 rfl (fun w0 ok F β hβ => ?_)
 unfold V_taquinref12_Class at hm
 refine C.seq (U.start ?_)
 refine U.e1 (o := _) rfl (.none rfl) (by exact Eff1.box rfl rfl rfl rfl rfl) ?_
 refine U.ps 1 T rfl ?_
 refine U.done (C.nx (C.seq (C.seq ?_)))
 refine C.jn (fun (x3 : Bool) => [(1, .i shelf), (2, .p 0 0), (13, .b x3)]) (fun (x3 : Bool) => [(0, .box (eApiSite s_1))]) 1 hm (fun x3 hm => ?_) (fun J4 hm hJ4 => ?_)
 ·refine C.nx ?_
  refine C.ite rfl hm (fun hb6 hm => ?_) (fun hb6 hm => ?_)
  ·refine C.seq (U.start ?_)
   refine U.ps 1 T rfl ?_
   refine U.done (C.nx (C.ret (C.rt ?_)))
   exact C.fin T (rs' := [.v (.string ByteArray.empty)]) (H' := []) (nl' := 0) [] rfl rfl (.eq rfl) trivial rfl rfl rfl rfl hβ ⟨ByteArray.empty, hm, rfl, rfl, rfl⟩
  ·refine C.skip (C.nx (C.seq (U.start ?_)))
   refine U.ps 3 T rfl ?_
   obtain ⟨x11, hx11, hm⟩ := hm
   refine U.r (o := _) rfl (.none rfl) rfl rfl (by exact Rd.ix T rfl rfl rfl rfl rfl rfl hx11) ?_
   refine U.ps 3 T rfl ?_
   refine U.done (C.nx (C.ret ?_))
   exact C.fin T (rs' := [.v (.string x11.Class)]) (H' := []) (nl' := 0) [] rfl rfl (.eq rfl) trivial rfl rfl rfl rfl hβ ⟨x11.Class, hm, rfl, rfl, rfl⟩
 ·refine U.start ?_
  refine U.ps 3 T rfl ?_
  refine hm.cs (fun hb5 hm => ?_) (fun hb5 hm => ?_)
  ·refine U.sks 5 2 false 7 hb5 rfl rfl rfl ?_
   refine U.r (o := _) rfl (.none rfl) rfl rfl (by exact Rd.pk rfl rfl hb5 rfl) ?_
   refine U.done ?_
   exact St.wk (hJ4 _ hm) (Wk.mk' [some 0] rfl rfl (.eqs rfl) ⟨⟨_, rfl, .box rfl (.eq rfl)⟩, trivial⟩ rfl)
  ·refine U.pg 5 2 false 7 hb5 T rfl rfl rfl rfl ?_
   refine U.r (o := _) rfl (.none rfl) rfl rfl (by exact Rd.pk' rfl rfl hb5 rfl) ?_
   refine U.done ?_
   exact St.wk (hJ4 _ hm) (Wk.mk' [some 0] rfl rfl (.eqs rfl) ⟨⟨_, rfl, .box rfl (.eq rfl)⟩, trivial⟩ rfl)
theorem T_taquinref12_Never (s_1 : ApiSite) (a : ByteArray) (b : ByteArray) (post : Bool → Prop) (hm : V_taquinref12_Never s_1 a b post) :
    Tr Try.prog 34 [.agg (eApiSite s_1), .v (.string a), .v (.string b)] [] 0 (fun A H' k => ∃ y, post y ∧ A = (.b y) ∧ H' = [] ∧ k = 0) := by
 refine Tr.intro (n := 51) Try.func34 rfl Try.ntmps34 rfl (fun w0 ok F β hβ => ?_)
 unfold V_taquinref12_Never at hm
 refine C.seq (U.start ?_)
 refine U.e1 (o := _) rfl (.none rfl) (by exact Eff1.box rfl rfl rfl rfl rfl) ?_
 refine U.ps 1 T rfl ?_
 refine U.done (C.nx (C.seq (C.seq (U.start ?_))))
 refine U.ps 1 T rfl ?_
 refine U.done (C.nx ?_)
 refine C.jn (fun (x5 : Unit) => []) (fun (x5 : Unit) => []) 0 hm (fun x5 hm => ?_) (fun J6 hm hJ6 => ?_)
 ·refine C.nx (C.seq (U.start ?_))
  refine U.ps 1 T rfl ?_
  refine U.done (C.nx (C.ret ?_))
  exact C.fin T (rs' := [.b false]) (H' := []) (nl' := 0) [] rfl rfl (.eq rfl) trivial rfl rfl rfl rfl hβ ⟨false, hm, rfl, rfl, rfl⟩
 ·refine C.block ?_
  refine St.wk (C.loop (fun (s7 : Int) => [(1, .v (.string a)), (2, .v (.string b)), (3, .p 0 0), (7, .i s7)]) (fun (s7 : Int) => [(0, .box (eApiSite s_1))]) hm (fun s7 Y8 hm => ?_)) (Wk.mk' [some 0] rfl rfl (.eqs rfl) ⟨⟨_, rfl, .box rfl (.eq rfl)⟩, trivial⟩ rfl)
  refine C.seq (C.seq ?_)
  refine C.jn (fun (x9 : Bool) => [(1, .v (.string a)), (2, .v (.string b)), (3, .p 0 0), (7, .i s7), (21, .b x9)]) (fun (x9 : Bool) => [(0, .box (eApiSite s_1))]) 1 hm (fun x9 hm => ?_) (fun J10 hm hJ10 => ?_)
  ·refine C.nx ?_
   refine C.ite rfl hm (fun hb13 hm => ?_) (fun hb13 hm => ?_)
   ·refine C.skip (C.nx (C.seq (C.block (C.seq (U.start ?_)))))
    refine U.ps 3 T rfl ?_
    obtain ⟨x16, hx16, hm⟩ := hm
    refine U.r (o := _) rfl (.none rfl) rfl rfl (by exact Rd.ix T rfl rfl rfl rfl rfl rfl hx16) ?_
    refine U.ps 1 T rfl ?_
    refine U.e1 (o := _) rfl (.none rfl) (by exact Eff1.al T rfl rfl rfl rfl) ?_
    refine U.e1 (o := _) rfl (.none rfl) (by exact Eff1.st T rfl rfl rfl rfl rfl rfl rfl rfl rfl rfl) ?_
    refine U.done (C.nx (C.seq ?_))
    refine C.jn (fun (x17 : Bool) => [(1, .v (.string a)), (2, .v (.string b)), (3, .p 0 0), (7, .i s7), (50, .b x17)]) (fun (x17 : Bool) => [(0, .box (eApiSite s_1))]) 1 hm (fun x17 hm => ?_) (fun J18 hm hJ18 => ?_)
    ·refine C.nx ?_
     refine C.ite rfl hm (fun hb23 hm => ?_) (fun hb23 hm => ?_)
     ·refine C.seq (U.start ?_)
      refine U.ps 1 T rfl ?_
      refine U.done (C.nx (C.ret (C.brt (C.rt (C.rt (C.brt (C.rt ?_)))))))
      exact C.fin T (rs' := [.b true]) (H' := []) (nl' := 0) [] rfl rfl (.eq rfl) trivial rfl rfl rfl rfl hβ ⟨true, hm, rfl, rfl, rfl⟩
     ·refine C.skip (C.bnx (C.nx (U.start ?_)))
      refine U.ps 3 T rfl ?_
      refine U.done (C.nx ?_)
      exact St.wk (C.next hm) (Wk.mk' [some 0] rfl rfl (.eqs rfl) ⟨⟨_, rfl, .box rfl (.eq rfl)⟩, trivial⟩ rfl)
    ·refine U.start ?_
     refine U.ps 5 T rfl ?_
     refine hm.cs (fun hb19 hm => ?_) (fun hb19 hm => ?_)
     ·refine U.pg 4 4 true 33 hb19 T rfl rfl rfl rfl ?_
      refine U.r (o := _) rfl (.none rfl) rfl rfl (by exact Rd.pk rfl rfl hb19 rfl) ?_
      refine U.ps 1 T rfl ?_
      refine hm.cs (fun hb20 hm => ?_) (fun hb20 hm => ?_)
      ·refine U.sks 5 10 false 39 hb20 rfl rfl rfl ?_
       refine U.sku 4 15 true 44 rfl rfl rfl ?_
       refine U.sks 1 10 false 39 hb20 rfl rfl rfl ?_
       refine U.r (o := _) rfl (.none rfl) rfl rfl (by exact Rd.pk rfl rfl hb20 rfl) ?_
       refine U.done ?_
       exact St.wk (hJ18 _ hm) (Wk.mk' [some 0] rfl rfl (.eqs rfl) ⟨⟨_, rfl, .box rfl (.eq rfl)⟩, trivial⟩ rfl)
      ·refine U.pg 5 10 false 39 hb20 T rfl rfl rfl rfl ?_
       refine hm.cs (fun hb21 hm => ?_) (fun hb21 hm => ?_)
       ·refine U.pg 4 15 true 44 hb21 T rfl rfl rfl rfl ?_
        refine U.r (o := _) rfl (.take 10 false 39 _ hb20 rfl rfl rfl) rfl rfl (by exact Rd.pk rfl rfl hb21 rfl) ?_
        refine U.r (o := _) rfl (.none rfl) rfl rfl (by exact Rd.pk' rfl rfl hb20 rfl) ?_
        refine U.done ?_
        exact St.wk (hJ18 _ hm) (Wk.mk' [some 0] rfl rfl (.eqs rfl) ⟨⟨_, rfl, .box rfl (.eq rfl)⟩, trivial⟩ rfl)
       ·refine U.sks 4 15 true 44 hb21 rfl rfl rfl ?_
        refine U.r (o := _) rfl (.take 10 false 39 _ hb20 rfl rfl rfl) rfl rfl (by exact Rd.pk' rfl rfl hb21 rfl) ?_
        refine U.r (o := _) rfl (.none rfl) rfl rfl (by exact Rd.pk' rfl rfl hb20 rfl) ?_
        refine U.done ?_
        exact St.wk (hJ18 _ hm) (Wk.mk' [some 0] rfl rfl (.eqs rfl) ⟨⟨_, rfl, .box rfl (.eq rfl)⟩, trivial⟩ rfl)
     ·refine U.sks 4 4 true 33 hb19 rfl rfl rfl ?_
      refine U.r (o := _) rfl (.none rfl) rfl rfl (by exact Rd.pk' rfl rfl hb19 rfl) ?_
      refine U.ps 1 T rfl ?_
      refine U.pg 5 10 false 39 rfl T rfl rfl rfl rfl ?_
      refine hm.cs (fun hb22 hm => ?_) (fun hb22 hm => ?_)
      ·refine U.pg 4 15 true 44 hb22 T rfl rfl rfl rfl ?_
       refine U.r (o := _) rfl (.take 10 false 39 _ rfl rfl rfl rfl) rfl rfl (by exact Rd.pk rfl rfl hb22 rfl) ?_
       refine U.r (o := _) rfl (.none rfl) rfl rfl (by exact Rd.pk' rfl rfl rfl rfl) ?_
       refine U.done ?_
       exact St.wk (hJ18 _ hm) (Wk.mk' [some 0] rfl rfl (.eqs rfl) ⟨⟨_, rfl, .box rfl (.eq rfl)⟩, trivial⟩ rfl)
      ·refine U.sks 4 15 true 44 hb22 rfl rfl rfl ?_
       refine U.r (o := _) rfl (.take 10 false 39 _ rfl rfl rfl rfl) rfl rfl (by exact Rd.pk' rfl rfl hb22 rfl) ?_
       refine U.r (o := _) rfl (.none rfl) rfl rfl (by exact Rd.pk' rfl rfl rfl rfl) ?_
       refine U.done ?_
       exact St.wk (hJ18 _ hm) (Wk.mk' [some 0] rfl rfl (.eqs rfl) ⟨⟨_, rfl, .box rfl (.eq rfl)⟩, trivial⟩ rfl)
   ·refine C.exit (C.ex (C.ex (C.bex ?_)))
    exact St.wk (hJ6 _ hm) (Wk.mk' [] rfl rfl trivial trivial rfl)
  ·refine U.start ?_
   refine U.ps 6 T rfl ?_
   refine hm.cs (fun hb11 hm => ?_) (fun hb11 hm => ?_)
   ·refine U.pg 2 5 true 14 hb11 T rfl rfl rfl rfl ?_
    refine U.r (o := _) rfl (.none rfl) rfl rfl (by exact Rd.pk rfl rfl hb11 rfl) ?_
    refine U.ps 1 T rfl ?_
    refine hm.cs (fun hb12 hm => ?_) (fun hb12 hm => ?_)
    ·refine U.sks 2 9 true 18 (ntF hb12) rfl rfl rfl ?_
     refine U.r (o := _) rfl (.none rfl) rfl rfl (by exact Rd.pk' rfl rfl (ntF hb12) rfl) ?_
     refine U.done ?_
     exact St.wk (hJ10 _ hm) (Wk.mk' [some 0] rfl rfl (.eqs rfl) ⟨⟨_, rfl, .box rfl (.eq rfl)⟩, trivial⟩ rfl)
    ·refine U.pg 2 9 true 18 (ntT hb12) T rfl rfl rfl rfl ?_
     refine U.r (o := _) rfl (.none rfl) rfl rfl (by exact Rd.pk rfl rfl (ntT hb12) rfl) ?_
     refine U.done ?_
     exact St.wk (hJ10 _ hm) (Wk.mk' [some 0] rfl rfl (.eqs rfl) ⟨⟨_, rfl, .box rfl (.eq rfl)⟩, trivial⟩ rfl)
   ·refine U.sks 2 5 true 14 hb11 rfl rfl rfl ?_
    refine U.r (o := _) rfl (.none rfl) rfl rfl (by exact Rd.pk' rfl rfl hb11 rfl) ?_
    refine U.ps 1 T rfl ?_
    refine U.sks 2 9 true 18 rfl rfl rfl rfl ?_
    refine U.r (o := _) rfl (.none rfl) rfl rfl (by exact Rd.pk' rfl rfl rfl rfl) ?_
    refine U.done ?_
    exact St.wk (hJ10 _ hm) (Wk.mk' [some 0] rfl rfl (.eqs rfl) ⟨⟨_, rfl, .box rfl (.eq rfl)⟩, trivial⟩ rfl)
theorem T_taquinref12_Carried (st : ApiState) (shelf : Int) (post : Int → Prop) (hm : V_taquinref12_Carried st shelf post) :
    Tr Try.prog 35 [.agg (eApiState st), .i shelf] [] 0 (fun A H' k => ∃ y, post y ∧ A = (.i y) ∧ H' = [] ∧ k = 0) := by
 refine Tr.intro (n := 26) Try.func35 rfl Try.ntmps35 rfl (fun w0 ok F β hβ => ?_)
 unfold V_taquinref12_Carried at hm
 refine C.seq (U.start ?_)
 refine U.e1 (o := _) rfl (.none rfl) (by exact Eff1.box rfl rfl rfl rfl rfl) ?_
 refine U.ps 1 T rfl ?_
 refine U.done (C.nx (C.seq (C.seq (U.start ?_))))
 refine U.ps 1 T rfl ?_
 refine U.done (C.nx ?_)
 refine C.jn (fun (x5 : Unit) => []) (fun (x5 : Unit) => []) 0 hm (fun x5 hm => ?_) (fun J6 hm hJ6 => ?_)
 ·refine C.nx (C.seq (U.start ?_))
  refine U.ps 1 T rfl ?_
  refine U.done (C.nx (C.ret ?_))
  exact C.fin T (rs' := [.i (-1)]) (H' := []) (nl' := 0) [] rfl rfl (.eq rfl) trivial rfl rfl rfl rfl hβ ⟨(-1), hm, rfl, rfl, rfl⟩
 ·refine C.block ?_
  refine St.wk (C.loop (fun (s7 : Int) => [(1, .i shelf), (2, .p 0 0), (5, .i s7)]) (fun (s7 : Int) => [(0, .box (eApiState st))]) hm (fun s7 Y8 hm => ?_)) (Wk.mk' [some 0] rfl rfl (.eqs rfl) ⟨⟨_, rfl, .box rfl (.eq rfl)⟩, trivial⟩ rfl)
  refine C.seq (C.seq ?_)
  refine C.jn (fun (x9 : Bool) => [(1, .i shelf), (2, .p 0 0), (5, .i s7), (14, .b x9)]) (fun (x9 : Bool) => [(0, .box (eApiState st))]) 1 hm (fun x9 hm => ?_) (fun J10 hm hJ10 => ?_)
  ·refine C.nx ?_
   refine C.ite rfl hm (fun hb12 hm => ?_) (fun hb12 hm => ?_)
   ·refine C.skip (C.nx (C.seq (C.block (C.seq (U.start ?_)))))
    refine U.ps 3 T rfl ?_
    obtain ⟨x15, hx15, hm⟩ := hm
    refine U.r (o := _) rfl (.none rfl) rfl rfl (by exact Rd.ix T rfl rfl rfl rfl rfl rfl hx15) ?_
    refine U.ps 4 T rfl ?_
    refine U.done (C.nx ?_)
    refine C.ite rfl hm (fun hb16 hm => ?_) (fun hb16 hm => ?_)
    ·refine C.seq (U.start ?_)
     refine U.ps 2 T rfl ?_
     refine U.done (C.nx (C.ret (C.brt (C.rt (C.rt (C.brt (C.rt ?_)))))))
     exact C.fin T (rs' := [.i s7]) (H' := []) (nl' := 0) [] rfl rfl (.eq rfl) trivial rfl rfl rfl rfl hβ ⟨s7, hm, rfl, rfl, rfl⟩
    ·refine C.skip (C.bnx (C.nx (U.start ?_)))
     refine U.ps 3 T rfl ?_
     refine U.done (C.nx ?_)
     exact St.wk (C.next hm) (Wk.mk' [some 0] rfl rfl (.eqs rfl) ⟨⟨_, rfl, .box rfl (.eq rfl)⟩, trivial⟩ rfl)
   ·refine C.exit (C.ex (C.ex (C.bex ?_)))
    exact St.wk (hJ6 _ hm) (Wk.mk' [] rfl rfl trivial trivial rfl)
  ·refine U.start ?_
   refine U.ps 6 T rfl ?_
   refine hm.cs (fun hb11 hm => ?_) (fun hb11 hm => ?_)
   ·refine U.pg 2 5 true 11 hb11 T rfl rfl rfl rfl ?_
    refine U.r (o := _) rfl (.none rfl) rfl rfl (by exact Rd.pk rfl rfl hb11 rfl) ?_
    refine U.done ?_
    exact St.wk (hJ10 _ hm) (Wk.mk' [some 0] rfl rfl (.eqs rfl) ⟨⟨_, rfl, .box rfl (.eq rfl)⟩, trivial⟩ rfl)
   ·refine U.sks 2 5 true 11 hb11 rfl rfl rfl ?_
    refine U.r (o := _) rfl (.none rfl) rfl rfl (by exact Rd.pk' rfl rfl hb11 rfl) ?_
    refine U.done ?_
    exact St.wk (hJ10 _ hm) (Wk.mk' [some 0] rfl rfl (.eqs rfl) ⟨⟨_, rfl, .box rfl (.eq rfl)⟩, trivial⟩ rfl)
theorem T_rules_At (s_1 : ApiSite) (st : ApiState) (c : Int) (post : Int → Prop) (hm : V_rules_At s_1 st c post) :
    Tr Try.prog 17 [.agg (eApiSite s_1), .agg (eApiState st), .i c] [] 0 (fun A H' k => ∃ y, post y ∧ A = (.i y) ∧ H' = [] ∧ k = 0) := by
 refine Tr.intro (n := 18) Try.func17 rfl Try.ntmps17 rfl (fun w0 ok F β hβ => ?_)
 unfold V_rules_At at hm
 refine C.seq (U.start ?_)
 refine U.e1 (o := _) rfl (.none rfl) (by exact Eff1.box rfl rfl rfl rfl rfl) ?_
 refine U.e1 (o := _) rfl (.none rfl) (by exact Eff1.box rfl rfl rfl rfl rfl) ?_
 refine U.ps 1 T rfl ?_
 refine U.done (C.nx (C.seq (C.seq (U.start ?_))))
 refine U.ps 1 T rfl ?_
 refine U.e (o := _) rfl (.none rfl) (by exact Eff.c [] (v := true) (T_rules_standing st _ hm) en51 rfl rfl rfl (.eq rfl) trivial rfl rfl rfl rfl rfl rfl (fun _ _ => ⟨(.o _), ⟨.val (.om _ _ _ fun _ => (.v _)), trivial⟩⟩) (.inr ⟨rfl, rfl⟩) (fun _ => rfl) (fun _ => rfl) rfl) (fun x5' hm => ?_)
 obtain ⟨x5⟩ := x5'
 refine U.ps 1 T rfl ?_
 refine U.r (o := _) rfl (.none rfl) rfl rfl (by exact Rd.lk2 T (ke := kI) (ve := veI) (xs := x5) (z0 := 0) (x := c) rfl rfl kt3 zt3 (fun _ => rfl) rfl (.o rfl) rfl rfl rfl) ?_
 refine U.ps 5 T rfl ?_
 refine U.done (C.nx (C.seq (U.start ?_)))
 refine U.ps 1 T rfl ?_
 refine U.done (C.nx ?_)
 refine C.ite rfl hm (fun hb8 hm => ?_) (fun hb8 hm => ?_)
 ·refine C.seq (U.start ?_)
  refine U.ps 2 T rfl ?_
  refine U.done (C.nx (C.ret (C.rt ?_)))
  exact C.fin T (rs' := [.i ((lk x5 c).getD 0)]) (H' := []) (nl' := 0) [] rfl rfl (.eq rfl) trivial rfl rfl rfl rfl hβ ⟨((lk x5 c).getD 0), hm, rfl, rfl, rfl⟩
 ·refine C.skip (C.nx (C.seq (U.start ?_)))
  refine U.ps 1 T rfl ?_
  refine U.done (C.nx (C.ret ?_))
  exact C.fin T (rs' := [.i (-1)]) (H' := []) (nl' := 0) [] rfl rfl (.eq rfl) trivial rfl rfl rfl rfl hβ ⟨(-1), hm, rfl, rfl, rfl⟩
end Go.Proofs.Ytpcdibgbijddlaa
