/- The walks: each Go function does what its verification condition says (written by a program of the prover). -/
import Derived.Test.YtdcfcldpjfepiaaW0
import Derived.KernelRfl
set_option maxRecDepth 100000
set_option maxHeartbeats 8000000
set_option linter.unusedVariables false
set_option linter.unusedSimpArgs false
namespace Go.Proofs.Ytdcfcldpjfepiaa
open Go Go.Taq
theorem T_survey_Right (s_1 : ApiSite) (post : Bool → Prop) (g : V_survey_Right s_1 post) :
    Tr Try.prog 17 [.agg (eApiSite s_1)] [] 0 (pB post) := by
 refine Tr.go Try.func17 Try.ntmps17 fun _ _ _ _ o => ?_
 unfold V_survey_Right at g
 refine C.ss (U.bx ?_)
 refine U.pd 1 T (C.xs (C.ss ?_))
 refine U.ps 2 T rfl (U.k (T_floor_Right s_1.Floor _ g) en29 (fun x5 g => ?_))
 refine U.pd 1 T (C.nx ?_)
 refine C.ite rfl g (fun b6 g => ?_) fun b6 g => ?_
 refine C.ss (U.pd 1 T (C.nx (C.ret (C.rt ?_))))
 exact C.f1 T o (pBi g)
 refine C.skip (C.xt (U.ps 2 T rfl (U.e rfl (.none rfl) (by exact Eff.c [] (v := false) (T_survey_newMaker s_1.Floor _ g) en30 rfl rfl rfl (.eq rfl) trivial rfl rfl rfl rfl rfl rfl (fun h => by cases h) (.inr ⟨rfl, rfl⟩) (fun _ => rfl) (fun _ => rfl) rfl) (fun x11' g => ?_))))
 obtain ⟨x11⟩ := x11'
 refine U.pd 1 T (C.xs (C.ss ?_))
 refine U.pd 4 T (C.nx ?_)
 refine C.jn (fun (x14 : Int × Int × Int × List Int × List Int × List ApiZone × List ApiApart × List ApiShelf × List ApiStart × List (Int × Int) × List (Int × Bool) × List (Int × Bool) × List (ByteArray × Int) × List (Int × Bool) × List Int × List Int) => [(1, .p 0 0), (3, .p 1 0)]) (fun x14 => [(0, .box (eApiSite s_1)), (1, .box [.i x14.1, .i x14.2.1, .i x14.2.2.1, .sl 1 eI x14.2.2.2.1, .sl 1 eI x14.2.2.2.2.1, .o 2, .o 3, .o 4, .o 5, .o 6, .o 7, .o 8, .o 9, .o 10, .o 11, .o 12]), (2, .val (.os 5 eApiZone x14.2.2.2.2.2.1)), (3, .val (.os 2 eApiApart x14.2.2.2.2.2.2.1)), (4, .val (.os 2 eApiShelf x14.2.2.2.2.2.2.2.1)), (5, .val (.os 2 eApiStart x14.2.2.2.2.2.2.2.2.1)), (6, .val (.om kI veI x14.2.2.2.2.2.2.2.2.2.1)), (7, .val (.om kI veB x14.2.2.2.2.2.2.2.2.2.2.1)), (8, .val (.om kI veB x14.2.2.2.2.2.2.2.2.2.2.2.1)), (9, .val (.om kS veI x14.2.2.2.2.2.2.2.2.2.2.2.2.1)), (10, .val (.om kI veB x14.2.2.2.2.2.2.2.2.2.2.2.2.2.1)), (11, .val (.os 1 eI x14.2.2.2.2.2.2.2.2.2.2.2.2.2.2.1)), (12, .val (.os 1 eI x14.2.2.2.2.2.2.2.2.2.2.2.2.2.2.2))]) 13 g (fun x14 g => ?_) fun J15 g j15 => ?_
 refine C.xs (C.ss (U.pd 4 T (C.nx ?_)))
 refine C.jn (fun (x43 : Int × Int × Int × List Int × List Int × List ApiZone × List ApiApart × List ApiShelf × List ApiStart × List (Int × Int) × List (Int × Bool) × List (Int × Bool) × List (ByteArray × Int) × List (Int × Bool) × List Int × List Int) => [(1, .p 0 0), (3, .p 1 0)]) (fun x43 => [(0, .box (eApiSite s_1)), (1, .box [.i x43.1, .i x43.2.1, .i x43.2.2.1, .sl 1 eI x43.2.2.2.1, .sl 1 eI x43.2.2.2.2.1, .o 2, .o 3, .o 4, .o 5, .o 6, .o 7, .o 8, .o 9, .o 10, .o 11, .o 12]), (2, .val (.os 5 eApiZone x43.2.2.2.2.2.1)), (3, .val (.os 2 eApiApart x43.2.2.2.2.2.2.1)), (4, .val (.os 2 eApiShelf x43.2.2.2.2.2.2.2.1)), (5, .val (.os 2 eApiStart x43.2.2.2.2.2.2.2.2.1)), (6, .val (.om kI veI x43.2.2.2.2.2.2.2.2.2.1)), (7, .val (.om kI veB x43.2.2.2.2.2.2.2.2.2.2.1)), (8, .val (.om kI veB x43.2.2.2.2.2.2.2.2.2.2.2.1)), (9, .val (.om kS veI x43.2.2.2.2.2.2.2.2.2.2.2.2.1)), (10, .val (.om kI veB x43.2.2.2.2.2.2.2.2.2.2.2.2.2.1)), (11, .val (.os 1 eI x43.2.2.2.2.2.2.2.2.2.2.2.2.2.2.1)), (12, .val (.os 1 eI x43.2.2.2.2.2.2.2.2.2.2.2.2.2.2.2))]) 13 g (fun x43 g => ?_) fun J44 g j44 => ?_
 refine C.xs (C.ss (U.pd 4 T (C.nx ?_)))
 refine C.jn (fun (x63 : Int × Int × Int × List Int × List Int × List ApiZone × List ApiApart × List ApiShelf × List ApiStart × List (Int × Int) × List (Int × Bool) × List (Int × Bool) × List (ByteArray × Int) × List (Int × Bool) × List Int × List Int) => [(1, .p 0 0), (3, .p 1 0)]) (fun x63 => [(0, .box (eApiSite s_1)), (1, .box [.i x63.1, .i x63.2.1, .i x63.2.2.1, .sl 1 eI x63.2.2.2.1, .sl 1 eI x63.2.2.2.2.1, .o 2, .o 3, .o 4, .o 5, .o 6, .o 7, .o 8, .o 9, .o 10, .o 11, .o 12]), (2, .val (.os 5 eApiZone x63.2.2.2.2.2.1)), (3, .val (.os 2 eApiApart x63.2.2.2.2.2.2.1)), (4, .val (.os 2 eApiShelf x63.2.2.2.2.2.2.2.1)), (5, .val (.os 2 eApiStart x63.2.2.2.2.2.2.2.2.1)), (6, .val (.om kI veI x63.2.2.2.2.2.2.2.2.2.1)), (7, .val (.om kI veB x63.2.2.2.2.2.2.2.2.2.2.1)), (8, .val (.om kI veB x63.2.2.2.2.2.2.2.2.2.2.2.1)), (9, .val (.om kS veI x63.2.2.2.2.2.2.2.2.2.2.2.2.1)), (10, .val (.om kI veB x63.2.2.2.2.2.2.2.2.2.2.2.2.2.1)), (11, .val (.os 1 eI x63.2.2.2.2.2.2.2.2.2.2.2.2.2.2.1)), (12, .val (.os 1 eI x63.2.2.2.2.2.2.2.2.2.2.2.2.2.2.2))]) 13 g (fun x63 g => ?_) fun J64 g j64 => ?_
 refine C.xs (C.ss (U.pd 4 T (C.nx ?_)))
 refine C.jn (fun (x83 : Int × Int × Int × List Int × List Int × List ApiZone × List ApiApart × List ApiShelf × List ApiStart × List (Int × Int) × List (Int × Bool) × List (Int × Bool) × List (ByteArray × Int) × List (Int × Bool) × List Int × List Int) => [(3, .p 0 0)]) (fun x83 => [(0, .box [.i x83.1, .i x83.2.1, .i x83.2.2.1, .sl 1 eI x83.2.2.2.1, .sl 1 eI x83.2.2.2.2.1, .o 1, .o 2, .o 3, .o 4, .o 5, .o 6, .o 7, .o 8, .o 9, .o 10, .o 11]), (1, .val (.os 5 eApiZone x83.2.2.2.2.2.1)), (2, .val (.os 2 eApiApart x83.2.2.2.2.2.2.1)), (3, .val (.os 2 eApiShelf x83.2.2.2.2.2.2.2.1)), (4, .val (.os 2 eApiStart x83.2.2.2.2.2.2.2.2.1)), (5, .val (.om kI veI x83.2.2.2.2.2.2.2.2.2.1)), (6, .val (.om kI veB x83.2.2.2.2.2.2.2.2.2.2.1)), (7, .val (.om kI veB x83.2.2.2.2.2.2.2.2.2.2.2.1)), (8, .val (.om kS veI x83.2.2.2.2.2.2.2.2.2.2.2.2.1)), (9, .val (.om kI veB x83.2.2.2.2.2.2.2.2.2.2.2.2.2.1)), (10, .val (.os 1 eI x83.2.2.2.2.2.2.2.2.2.2.2.2.2.2.1)), (11, .val (.os 1 eI x83.2.2.2.2.2.2.2.2.2.2.2.2.2.2.2))]) 12 g (fun x83 g => ?_) fun J84 g j84 => ?_
 refine C.xs ?_
 refine C.jn (fun (x101 : Bool) => [(2, .b x101)]) (fun x101 => []) 0 g (fun x101 g => ?_) fun J102 g j102 => ?_
 refine C.nx (C.ret ?_)
 exact C.f1 T o (pBi g)
 refine U.start (U.ps 1 T rfl ?_)
 refine U.k (T_survey_maker_beside ({ site := ({ Floor := ({ W := x83.1, H := x83.2.1, D := x83.2.2.1, Kind := x83.2.2.2.1, Out := x83.2.2.2.2.1 : ApiFloor }), Zones := x83.2.2.2.2.2.1, Aparts := x83.2.2.2.2.2.2.1, Shelves := x83.2.2.2.2.2.2.2.1, Robots := x83.2.2.2.2.2.2.2.2.1 : ApiSite }), shelf := x83.2.2.2.2.2.2.2.2.2.1, robot := x83.2.2.2.2.2.2.2.2.2.2.1, zoned := x83.2.2.2.2.2.2.2.2.2.2.2.1, names := x83.2.2.2.2.2.2.2.2.2.2.2.2.1, oneways := x83.2.2.2.2.2.2.2.2.2.2.2.2.2.1, shelves := x83.2.2.2.2.2.2.2.2.2.2.2.2.2.2.1, zones := x83.2.2.2.2.2.2.2.2.2.2.2.2.2.2.2 : SurveyMaker }) _ g) en39 fun x103 g => ?_
 refine U.ps 2 T rfl ?_
 refine g.cs (fun b104 g => ?_) fun b104 g => ?_
 refine U.pq 1 3 true 100 b104 T ?_
 refine U.k (T_survey_maker_crowded ({ site := ({ Floor := ({ W := x83.1, H := x83.2.1, D := x83.2.2.1, Kind := x83.2.2.2.1, Out := x83.2.2.2.2.1 : ApiFloor }), Zones := x83.2.2.2.2.2.1, Aparts := x83.2.2.2.2.2.2.1, Shelves := x83.2.2.2.2.2.2.2.1, Robots := x83.2.2.2.2.2.2.2.2.1 : ApiSite }), shelf := x83.2.2.2.2.2.2.2.2.2.1, robot := x83.2.2.2.2.2.2.2.2.2.2.1, zoned := x83.2.2.2.2.2.2.2.2.2.2.2.1, names := x83.2.2.2.2.2.2.2.2.2.2.2.2.1, oneways := x83.2.2.2.2.2.2.2.2.2.2.2.2.2.1, shelves := x83.2.2.2.2.2.2.2.2.2.2.2.2.2.2.1, zones := x83.2.2.2.2.2.2.2.2.2.2.2.2.2.2.2 : SurveyMaker }) _ g) en40 (fun x105 g => ?_) (hw := .take 3 true 100 _ b104 rfl rfl rfl)
 refine U.pq 1 3 true 100 b104 T ?_
 refine U.pk b104 ?_
 refine U.ps 1 T rfl ?_
 refine g.cs (fun b106 g => ?_) fun b106 g => ?_
 refine U.pq 1 8 true 105 b106 T ?_
 refine U.k (T_survey_maker_charger ({ site := ({ Floor := ({ W := x83.1, H := x83.2.1, D := x83.2.2.1, Kind := x83.2.2.2.1, Out := x83.2.2.2.2.1 : ApiFloor }), Zones := x83.2.2.2.2.2.1, Aparts := x83.2.2.2.2.2.2.1, Shelves := x83.2.2.2.2.2.2.2.1, Robots := x83.2.2.2.2.2.2.2.2.1 : ApiSite }), shelf := x83.2.2.2.2.2.2.2.2.2.1, robot := x83.2.2.2.2.2.2.2.2.2.2.1, zoned := x83.2.2.2.2.2.2.2.2.2.2.2.1, names := x83.2.2.2.2.2.2.2.2.2.2.2.2.1, oneways := x83.2.2.2.2.2.2.2.2.2.2.2.2.2.1, shelves := x83.2.2.2.2.2.2.2.2.2.2.2.2.2.2.1, zones := x83.2.2.2.2.2.2.2.2.2.2.2.2.2.2.2 : SurveyMaker }) _ g) en41 (fun x107 g => ?_) (hw := .take 8 true 105 _ b106 rfl rfl rfl)
 refine U.pk b106 ?_
 refine U.pd 1 T ?_
 exact St.wn (j102 _ g)
 refine U.sk' 2 8 true 105 b106 ?_
 refine U.pk' b106 ?_
 refine U.pd 1 T ?_
 exact St.wn (j102 _ g)
 refine U.sk' 3 3 true 100 b104 ?_
 refine U.pk' b104 ?_
 refine U.ps 1 T rfl (U.sk' 2 8 true 105 rfl ?_)
 refine U.pk' rfl ?_
 refine U.pd 1 T ?_
 exact St.wn (j102 _ g)
 refine C.block ?_
 refine St.wk (C.loop (fun (s85 : Int × Int × Int × List Int × List Int × List ApiZone × List ApiApart × List ApiShelf × List ApiStart × List (Int × Int) × List (Int × Bool) × List (Int × Bool) × List (ByteArray × Int) × List (Int × Bool) × List Int × List Int × Int) => [(3, .p 0 0), (86, .sl 2 eApiStart s_1.Robots), (87, .i (s_1.Robots.length : Int)), (88, .i s85.2.2.2.2.2.2.2.2.2.2.2.2.2.2.2.2)]) (fun s85 => [(0, .box [.i s85.1, .i s85.2.1, .i s85.2.2.1, .sl 1 eI s85.2.2.2.1, .sl 1 eI s85.2.2.2.2.1, .o 1, .o 2, .o 3, .o 4, .o 5, .o 6, .o 7, .o 8, .o 9, .o 10, .o 11]), (1, .val (.os 5 eApiZone s85.2.2.2.2.2.1)), (2, .val (.os 2 eApiApart s85.2.2.2.2.2.2.1)), (3, .val (.os 2 eApiShelf s85.2.2.2.2.2.2.2.1)), (4, .val (.os 2 eApiStart s85.2.2.2.2.2.2.2.2.1)), (5, .val (.om kI veI s85.2.2.2.2.2.2.2.2.2.1)), (6, .val (.om kI veB s85.2.2.2.2.2.2.2.2.2.2.1)), (7, .val (.om kI veB s85.2.2.2.2.2.2.2.2.2.2.2.1)), (8, .val (.om kS veI s85.2.2.2.2.2.2.2.2.2.2.2.2.1)), (9, .val (.om kI veB s85.2.2.2.2.2.2.2.2.2.2.2.2.2.1)), (10, .val (.os 1 eI s85.2.2.2.2.2.2.2.2.2.2.2.2.2.2.1)), (11, .val (.os 1 eI s85.2.2.2.2.2.2.2.2.2.2.2.2.2.2.2.1))]) g (fun s85 Y86 g => ?_)) (Wk.a (sqR 1 12))
 refine C.ss (U.pd 1 T (C.xs ?_))
 refine C.ite rfl g (fun b89 g => ?_) fun b89 g => ?_
 refine C.skip (C.xs (C.block (C.ss ?_)))
 obtain ⟨x92, y92, g⟩ := g
 refine U.ix T y92 ?_
 refine U.ps 1 T rfl (U.al T ?_)
 refine U.st T ?_
 refine U.done (C.xt (U.ps 2 T rfl ?_))
 refine U.c (idR 12) (T_survey_maker_addRobot__p0 x92 ({ site := ({ Floor := ({ W := s85.1, H := s85.2.1, D := s85.2.2.1, Kind := s85.2.2.2.1, Out := s85.2.2.2.2.1 : ApiFloor }), Zones := s85.2.2.2.2.2.1, Aparts := s85.2.2.2.2.2.2.1, Shelves := s85.2.2.2.2.2.2.2.1, Robots := s85.2.2.2.2.2.2.2.2.1 : ApiSite }), shelf := s85.2.2.2.2.2.2.2.2.2.1, robot := s85.2.2.2.2.2.2.2.2.2.2.1, zoned := s85.2.2.2.2.2.2.2.2.2.2.2.1, names := s85.2.2.2.2.2.2.2.2.2.2.2.2.1, oneways := s85.2.2.2.2.2.2.2.2.2.2.2.2.2.1, shelves := s85.2.2.2.2.2.2.2.2.2.2.2.2.2.2.1, zones := s85.2.2.2.2.2.2.2.2.2.2.2.2.2.2.2.1 : SurveyMaker }) _ g) en38 fun x95 g => ?_
 refine U.pd 1 T (C.nx ?_)
 refine C.ite rfl g (fun b96 g => ?_) fun b96 g => ?_
 refine C.ss (U.pd 1 T (C.nx (C.ret (C.brt (C.rt (C.rt (C.brt (C.rt ?_))))))))
 exact C.f1 T o (pBi g)
 refine C.skip (C.bnx (C.nx (U.start (U.pd 2 T (C.nx ?_)))))
 exact St.wk (C.next g) (Wk.a [some 0, some 25, some 26, some 27, some 28, some 29, some 30, some 31, some 32, some 33, some 34, some 35])
 refine C.exit (C.ex (C.ex (C.bex ?_)))
 exact St.wa (idR 12) (j84 _ g)
 refine C.block ?_
 refine St.wk (C.loop (fun (s65 : Int × Int × Int × List Int × List Int × List ApiZone × List ApiApart × List ApiShelf × List ApiStart × List (Int × Int) × List (Int × Bool) × List (Int × Bool) × List (ByteArray × Int) × List (Int × Bool) × List Int × List Int × Int) => [(1, .p 0 0), (3, .p 1 0), (74, .sl 2 eApiShelf s_1.Shelves), (75, .i (s_1.Shelves.length : Int)), (76, .i s65.2.2.2.2.2.2.2.2.2.2.2.2.2.2.2.2)]) (fun s65 => [(0, .box (eApiSite s_1)), (1, .box [.i s65.1, .i s65.2.1, .i s65.2.2.1, .sl 1 eI s65.2.2.2.1, .sl 1 eI s65.2.2.2.2.1, .o 2, .o 3, .o 4, .o 5, .o 6, .o 7, .o 8, .o 9, .o 10, .o 11, .o 12]), (2, .val (.os 5 eApiZone s65.2.2.2.2.2.1)), (3, .val (.os 2 eApiApart s65.2.2.2.2.2.2.1)), (4, .val (.os 2 eApiShelf s65.2.2.2.2.2.2.2.1)), (5, .val (.os 2 eApiStart s65.2.2.2.2.2.2.2.2.1)), (6, .val (.om kI veI s65.2.2.2.2.2.2.2.2.2.1)), (7, .val (.om kI veB s65.2.2.2.2.2.2.2.2.2.2.1)), (8, .val (.om kI veB s65.2.2.2.2.2.2.2.2.2.2.2.1)), (9, .val (.om kS veI s65.2.2.2.2.2.2.2.2.2.2.2.2.1)), (10, .val (.om kI veB s65.2.2.2.2.2.2.2.2.2.2.2.2.2.1)), (11, .val (.os 1 eI s65.2.2.2.2.2.2.2.2.2.2.2.2.2.2.1)), (12, .val (.os 1 eI s65.2.2.2.2.2.2.2.2.2.2.2.2.2.2.2.1))]) g (fun s65 Y66 g => ?_)) (Wk.a (idR 13))
 refine C.ss (U.pd 1 T (C.xs ?_))
 refine C.ite rfl g (fun b69 g => ?_) fun b69 g => ?_
 refine C.skip (C.xs (C.block (C.ss ?_)))
 obtain ⟨x72, y72, g⟩ := g
 refine U.ix T y72 ?_
 refine U.ps 1 T rfl (U.al T ?_)
 refine U.st T ?_
 refine U.done (C.xt (U.ps 2 T rfl ?_))
 refine U.c (sqR 1 12) (T_survey_maker_addShelf__p0 x72 ({ site := ({ Floor := ({ W := s65.1, H := s65.2.1, D := s65.2.2.1, Kind := s65.2.2.2.1, Out := s65.2.2.2.2.1 : ApiFloor }), Zones := s65.2.2.2.2.2.1, Aparts := s65.2.2.2.2.2.2.1, Shelves := s65.2.2.2.2.2.2.2.1, Robots := s65.2.2.2.2.2.2.2.2.1 : ApiSite }), shelf := s65.2.2.2.2.2.2.2.2.2.1, robot := s65.2.2.2.2.2.2.2.2.2.2.1, zoned := s65.2.2.2.2.2.2.2.2.2.2.2.1, names := s65.2.2.2.2.2.2.2.2.2.2.2.2.1, oneways := s65.2.2.2.2.2.2.2.2.2.2.2.2.2.1, shelves := s65.2.2.2.2.2.2.2.2.2.2.2.2.2.2.1, zones := s65.2.2.2.2.2.2.2.2.2.2.2.2.2.2.2.1 : SurveyMaker }) _ g) en37 fun x75 g => ?_
 refine U.pd 1 T (C.nx ?_)
 refine C.ite rfl g (fun b76 g => ?_) fun b76 g => ?_
 refine C.ss (U.pd 1 T (C.nx (C.ret (C.brt (C.rt (C.rt (C.brt (C.rt ?_))))))))
 exact C.f1 T o (pBi g)
 refine C.skip (C.bnx (C.nx (U.start (U.pd 2 T (C.nx ?_)))))
 exact St.wk (C.next g) (Wk.a [some 0, some 1, some 26, some 27, some 28, some 29, some 30, some 31, some 32, some 33, some 34, some 35, some 36])
 refine C.exit (C.ex (C.ex (C.bex ?_)))
 exact St.wa (idR 13) (j64 _ g)
 refine C.block ?_
 refine St.wk (C.loop (fun (s45 : Int × Int × Int × List Int × List Int × List ApiZone × List ApiApart × List ApiShelf × List ApiStart × List (Int × Int) × List (Int × Bool) × List (Int × Bool) × List (ByteArray × Int) × List (Int × Bool) × List Int × List Int × Int) => [(1, .p 0 0), (3, .p 1 0), (62, .sl 2 eApiApart s_1.Aparts), (63, .i (s_1.Aparts.length : Int)), (64, .i s45.2.2.2.2.2.2.2.2.2.2.2.2.2.2.2.2)]) (fun s45 => [(0, .box (eApiSite s_1)), (1, .box [.i s45.1, .i s45.2.1, .i s45.2.2.1, .sl 1 eI s45.2.2.2.1, .sl 1 eI s45.2.2.2.2.1, .o 2, .o 3, .o 4, .o 5, .o 6, .o 7, .o 8, .o 9, .o 10, .o 11, .o 12]), (2, .val (.os 5 eApiZone s45.2.2.2.2.2.1)), (3, .val (.os 2 eApiApart s45.2.2.2.2.2.2.1)), (4, .val (.os 2 eApiShelf s45.2.2.2.2.2.2.2.1)), (5, .val (.os 2 eApiStart s45.2.2.2.2.2.2.2.2.1)), (6, .val (.om kI veI s45.2.2.2.2.2.2.2.2.2.1)), (7, .val (.om kI veB s45.2.2.2.2.2.2.2.2.2.2.1)), (8, .val (.om kI veB s45.2.2.2.2.2.2.2.2.2.2.2.1)), (9, .val (.om kS veI s45.2.2.2.2.2.2.2.2.2.2.2.2.1)), (10, .val (.om kI veB s45.2.2.2.2.2.2.2.2.2.2.2.2.2.1)), (11, .val (.os 1 eI s45.2.2.2.2.2.2.2.2.2.2.2.2.2.2.1)), (12, .val (.os 1 eI s45.2.2.2.2.2.2.2.2.2.2.2.2.2.2.2.1))]) g (fun s45 Y46 g => ?_)) (Wk.a (idR 13))
 refine C.ss (U.pd 1 T (C.xs ?_))
 refine C.ite rfl g (fun b49 g => ?_) fun b49 g => ?_
 refine C.skip (C.xs (C.block (C.ss ?_)))
 obtain ⟨x52, y52, g⟩ := g
 refine U.ix T y52 ?_
 refine U.ps 1 T rfl (U.al T ?_)
 refine U.st T ?_
 refine U.done (C.xt (U.ps 2 T rfl ?_))
 refine U.c (sqR 1 12) (T_survey_maker_addApart__p0 x52 ({ site := ({ Floor := ({ W := s45.1, H := s45.2.1, D := s45.2.2.1, Kind := s45.2.2.2.1, Out := s45.2.2.2.2.1 : ApiFloor }), Zones := s45.2.2.2.2.2.1, Aparts := s45.2.2.2.2.2.2.1, Shelves := s45.2.2.2.2.2.2.2.1, Robots := s45.2.2.2.2.2.2.2.2.1 : ApiSite }), shelf := s45.2.2.2.2.2.2.2.2.2.1, robot := s45.2.2.2.2.2.2.2.2.2.2.1, zoned := s45.2.2.2.2.2.2.2.2.2.2.2.1, names := s45.2.2.2.2.2.2.2.2.2.2.2.2.1, oneways := s45.2.2.2.2.2.2.2.2.2.2.2.2.2.1, shelves := s45.2.2.2.2.2.2.2.2.2.2.2.2.2.2.1, zones := s45.2.2.2.2.2.2.2.2.2.2.2.2.2.2.2.1 : SurveyMaker }) _ g) en36 fun x55 g => ?_
 refine U.pd 1 T (C.nx ?_)
 refine C.ite rfl g (fun b56 g => ?_) fun b56 g => ?_
 refine C.ss (U.pd 1 T (C.nx (C.ret (C.brt (C.rt (C.rt (C.brt (C.rt ?_))))))))
 exact C.f1 T o (pBi g)
 refine C.skip (C.bnx (C.nx (U.start (U.pd 2 T (C.nx ?_)))))
 exact St.wk (C.next g) (Wk.a [some 0, some 1, some 26, some 27, some 28, some 29, some 30, some 31, some 32, some 33, some 34, some 35, some 36])
 refine C.exit (C.ex (C.ex (C.bex ?_)))
 exact St.wa (idR 13) (j44 _ g)
 refine C.block ?_
 refine St.wk (C.loop (fun (s16 : Int × Int × Int × List Int × List Int × List ApiZone × List ApiApart × List ApiShelf × List ApiStart × List (Int × Int) × List (Int × Bool) × List (Int × Bool) × List (ByteArray × Int) × List (Int × Bool) × List Int × List Int × Int) => [(1, .p 0 0), (3, .p 1 0), (20, .sl 5 eApiZone s_1.Zones), (21, .i (s_1.Zones.length : Int)), (22, .i s16.2.2.2.2.2.2.2.2.2.2.2.2.2.2.2.2)]) (fun s16 => [(0, .box (eApiSite s_1)), (1, .box [.i s16.1, .i s16.2.1, .i s16.2.2.1, .sl 1 eI s16.2.2.2.1, .sl 1 eI s16.2.2.2.2.1, .o 2, .o 3, .o 4, .o 5, .o 6, .o 7, .o 8, .o 9, .o 10, .o 11, .o 12]), (2, .val (.os 5 eApiZone s16.2.2.2.2.2.1)), (3, .val (.os 2 eApiApart s16.2.2.2.2.2.2.1)), (4, .val (.os 2 eApiShelf s16.2.2.2.2.2.2.2.1)), (5, .val (.os 2 eApiStart s16.2.2.2.2.2.2.2.2.1)), (6, .val (.om kI veI s16.2.2.2.2.2.2.2.2.2.1)), (7, .val (.om kI veB s16.2.2.2.2.2.2.2.2.2.2.1)), (8, .val (.om kI veB s16.2.2.2.2.2.2.2.2.2.2.2.1)), (9, .val (.om kS veI s16.2.2.2.2.2.2.2.2.2.2.2.2.1)), (10, .val (.om kI veB s16.2.2.2.2.2.2.2.2.2.2.2.2.2.1)), (11, .val (.os 1 eI s16.2.2.2.2.2.2.2.2.2.2.2.2.2.2.1)), (12, .val (.os 1 eI s16.2.2.2.2.2.2.2.2.2.2.2.2.2.2.2.1))]) g (fun s16 Y17 g => ?_)) (Wk.a [some 0, some 12, some 1, some 2, some 3, some 4, some 5, some 6, some 7, some 8, some 9, some 10, some 11])
 refine C.ss (U.pd 1 T (C.xs ?_))
 refine C.ite rfl g (fun b20 g => ?_) fun b20 g => ?_
 refine C.skip (C.xs (C.block (C.ss ?_)))
 obtain ⟨x23, y23, g⟩ := g
 refine U.ix T y23 ?_
 refine U.ps 1 T rfl (U.al T ?_)
 refine U.st T ?_
 refine U.done (C.xs ?_)
 refine C.jn (fun (x24 : Int × Int × Int × List Int × List Int × List ApiZone × List ApiApart × List ApiShelf × List ApiStart × List (Int × Int) × List (Int × Bool) × List (Int × Bool) × List (ByteArray × Int) × List (Int × Bool) × List Int × List Int × Bool) => [(1, .p 0 0), (3, .p 1 0), (20, .sl 5 eApiZone s_1.Zones), (21, .i (s_1.Zones.length : Int)), (22, .i s16.2.2.2.2.2.2.2.2.2.2.2.2.2.2.2.2), (59, .b x24.2.2.2.2.2.2.2.2.2.2.2.2.2.2.2.2)]) (fun x24 => [(0, .box (eApiSite s_1)), (1, .box [.i x24.1, .i x24.2.1, .i x24.2.2.1, .sl 1 eI x24.2.2.2.1, .sl 1 eI x24.2.2.2.2.1, .o 2, .o 3, .o 4, .o 5, .o 6, .o 7, .o 8, .o 9, .o 10, .o 11, .o 12]), (2, .val (.os 5 eApiZone x24.2.2.2.2.2.1)), (3, .val (.os 2 eApiApart x24.2.2.2.2.2.2.1)), (4, .val (.os 2 eApiShelf x24.2.2.2.2.2.2.2.1)), (5, .val (.os 2 eApiStart x24.2.2.2.2.2.2.2.2.1)), (6, .val (.om kI veI x24.2.2.2.2.2.2.2.2.2.1)), (7, .val (.om kI veB x24.2.2.2.2.2.2.2.2.2.2.1)), (8, .val (.om kI veB x24.2.2.2.2.2.2.2.2.2.2.2.1)), (9, .val (.om kS veI x24.2.2.2.2.2.2.2.2.2.2.2.2.1)), (10, .val (.om kI veB x24.2.2.2.2.2.2.2.2.2.2.2.2.2.1)), (11, .val (.os 1 eI x24.2.2.2.2.2.2.2.2.2.2.2.2.2.2.1)), (12, .val (.os 1 eI x24.2.2.2.2.2.2.2.2.2.2.2.2.2.2.2.1))]) 13 g (fun x24 g => ?_) fun J25 g j25 => ?_
 refine C.nx ?_
 refine C.ite rfl g (fun b36 g => ?_) fun b36 g => ?_
 refine C.ss (U.pd 1 T (C.nx (C.ret (C.brt (C.rt (C.rt (C.brt (C.rt ?_))))))))
 exact C.f1 T o (pBi g)
 refine C.skip (C.bnx (C.nx (U.start (U.pd 2 T (C.nx ?_)))))
 exact St.wk (C.next g) (Wk.a (idR 13))
 refine U.start (U.ps 2 T rfl (U.k (T_survey_Name x23.Name _ g) en31 (fun x26 g => ?_)))
 refine U.ps 2 T rfl ?_
 refine g.cs (fun b27 g => ?_) fun b27 g => ?_
 refine U.pq 2 4 false 30 (ntF b27) T ?_
 refine U.k (T_survey_within x23.Speed 1 100 _ g) en32 (fun x28 g => ?_) (hw := .take 4 false 30 _ (ntF b27) rfl rfl rfl)
 refine U.pq 1 4 false 30 (ntF b27) T ?_
 refine U.pk' (ntF b27) ?_
 refine U.ps 1 T rfl ?_
 refine g.cs (fun b29 g => ?_) fun b29 g => ?_
 refine U.pq 3 10 false 36 (ntF b29) T ?_
 refine U.pk' (ntF b29) ?_
 refine U.ps 1 T rfl ?_
 refine g.cs (fun b30 g => ?_) fun b30 g => ?_
 refine U.sk' 4 15 false 41 b30 ?_
 refine U.pk b30 ?_
 refine U.ps 1 T rfl (U.sk' 5 21 false 47 rfl ?_)
 refine U.pk rfl ?_
 refine U.ps 1 T rfl (U.sk' 4 28 false 54 rfl ?_)
 refine U.pk rfl ?_
 refine U.done ?_
 exact St.wa (idR 13) (j25 _ g)
 refine U.pq 2 15 false 41 b30 T ?_
 refine U.k (T_survey_shut x23.Shut _ g) en33 (fun x31 g => ?_) (hw := .take 15 false 41 _ b30 rfl rfl rfl)
 refine U.pq 1 15 false 41 b30 T ?_
 refine U.pk' b30 ?_
 refine U.ps 1 T rfl ?_
 refine g.cs (fun b32 g => ?_) fun b32 g => ?_
 refine U.pq 3 21 false 47 (ntF b32) T ?_
 refine U.k (T_survey_maker_cells ({ site := ({ Floor := ({ W := s16.1, H := s16.2.1, D := s16.2.2.1, Kind := s16.2.2.2.1, Out := s16.2.2.2.2.1 : ApiFloor }), Zones := s16.2.2.2.2.2.1, Aparts := s16.2.2.2.2.2.2.1, Shelves := s16.2.2.2.2.2.2.2.1, Robots := s16.2.2.2.2.2.2.2.2.1 : ApiSite }), shelf := s16.2.2.2.2.2.2.2.2.2.1, robot := s16.2.2.2.2.2.2.2.2.2.2.1, zoned := s16.2.2.2.2.2.2.2.2.2.2.2.1, names := s16.2.2.2.2.2.2.2.2.2.2.2.2.1, oneways := s16.2.2.2.2.2.2.2.2.2.2.2.2.2.1, shelves := s16.2.2.2.2.2.2.2.2.2.2.2.2.2.2.1, zones := s16.2.2.2.2.2.2.2.2.2.2.2.2.2.2.2.1 : SurveyMaker }) x23.Cells _ g) en34 (fun x33 g => ?_) (hw := .take 21 false 47 _ (ntF b32) rfl rfl rfl)
 refine U.pq 1 21 false 47 (ntF b32) T ?_
 refine U.pk' (ntF b32) ?_
 refine U.ps 1 T rfl ?_
 refine g.cs (fun b34 g => ?_) fun b34 g => ?_
 refine U.pq 2 28 false 54 (ntF b34) T ?_
 refine U.c (sqR 1 12) (T_survey_maker_addZone__p0 x23 ({ site := ({ Floor := ({ W := s16.1, H := s16.2.1, D := s16.2.2.1, Kind := s16.2.2.2.1, Out := s16.2.2.2.2.1 : ApiFloor }), Zones := s16.2.2.2.2.2.1, Aparts := s16.2.2.2.2.2.2.1, Shelves := s16.2.2.2.2.2.2.2.1, Robots := s16.2.2.2.2.2.2.2.2.1 : ApiSite }), shelf := s16.2.2.2.2.2.2.2.2.2.1, robot := s16.2.2.2.2.2.2.2.2.2.2.1, zoned := s16.2.2.2.2.2.2.2.2.2.2.2.1, names := s16.2.2.2.2.2.2.2.2.2.2.2.2.1, oneways := s16.2.2.2.2.2.2.2.2.2.2.2.2.2.1, shelves := s16.2.2.2.2.2.2.2.2.2.2.2.2.2.2.1, zones := s16.2.2.2.2.2.2.2.2.2.2.2.2.2.2.2.1 : SurveyMaker }) _ g) en35 (fun x35 g => ?_) (hw := .take 28 false 54 _ (ntF b34) rfl rfl rfl)
 refine U.pq 1 28 false 54 (ntF b34) T ?_
 refine U.pk' (ntF b34) ?_
 refine U.done ?_
 exact St.wa [some 0, some 1, some 26, some 27, some 28, some 29, some 30, some 31, some 32, some 33, some 34, some 35, some 36] (j25 _ g)
 refine U.sk' 4 28 false 54 (ntT b34) ?_
 refine U.pk (ntT b34) ?_
 refine U.done ?_
 exact St.wa (idR 13) (j25 _ g)
 refine U.sk' 5 21 false 47 (ntT b32) ?_
 refine U.pk (ntT b32) ?_
 refine U.ps 1 T rfl (U.sk' 4 28 false 54 rfl ?_)
 refine U.pk rfl ?_
 refine U.done ?_
 exact St.wa (idR 13) (j25 _ g)
 refine U.sk' 3 10 false 36 (ntT b29) ?_
 refine U.pk (ntT b29) ?_
 refine U.ps 1 T rfl (U.sk' 4 15 false 41 rfl ?_)
 refine U.pk rfl ?_
 refine U.ps 1 T rfl (U.sk' 5 21 false 47 rfl ?_)
 refine U.pk rfl ?_
 refine U.ps 1 T rfl (U.sk' 4 28 false 54 rfl ?_)
 refine U.pk rfl ?_
 refine U.done ?_
 exact St.wa (idR 13) (j25 _ g)
 refine U.sk' 4 4 false 30 (ntT b27) ?_
 refine U.pk (ntT b27) ?_
 refine U.ps 1 T rfl (U.sk' 3 10 false 36 rfl ?_)
 refine U.pk rfl ?_
 refine U.ps 1 T rfl (U.sk' 4 15 false 41 rfl ?_)
 refine U.pk rfl ?_
 refine U.ps 1 T rfl (U.sk' 5 21 false 47 rfl ?_)
 refine U.pk rfl ?_
 refine U.ps 1 T rfl (U.sk' 4 28 false 54 rfl ?_)
 refine U.pk rfl ?_
 refine U.done ?_
 exact St.wa (idR 13) (j25 _ g)
 refine C.exit (C.ex (C.ex (C.bex ?_)))
 exact St.wa (idR 13) (j15 _ g)
theorem T_taquinlaw33_fits (s_1 : ApiSite) (n : Int) (post : Bool → Prop) (g : V_taquinlaw33_fits s_1 n post) :
    Tr Try.prog 6 [.agg (eApiSite s_1), .i n] [] 0 (pB post) := by
 refine Tr.go Try.func6 Try.ntmps6 fun _ _ _ _ o => ?_
 unfold V_taquinlaw33_fits at g
 refine C.ss (U.bx ?_)
 refine U.pd 1 T (C.xs ?_)
 refine C.jn (fun (x3 : Bool) => [(4, .b x3)]) (fun x3 => []) 0 g (fun x3 g => ?_) fun J4 g j4 => ?_
 refine C.nx (C.ret ?_)
 exact C.f1 T o (pBi g)
 refine U.start (U.ps 2 T rfl (U.k (T_taquinref11_Few s_1 n 20 _ g) en16 (fun x5 g => ?_)))
 refine U.ps 1 T rfl ?_
 refine g.cs (fun b6 g => ?_) fun b6 g => ?_
 refine U.pq 1 3 true 8 b6 T ?_
 refine U.k (T_survey_Right s_1 _ g) en17 (fun x7 g => ?_) (hw := .take 3 true 8 _ b6 rfl rfl rfl)
 refine U.pk b6 ?_
 refine U.pd 1 T ?_
 exact St.wn (j4 _ g)
 refine U.sk' 2 3 true 8 b6 ?_
 refine U.pk' b6 ?_
 refine U.pd 1 T ?_
 exact St.wn (j4 _ g)
theorem T_taquinref07_Has (l : List Int) (n : Int) (post : Bool → Prop) (g : V_taquinref07_Has l n post) :
    Tr Try.prog 9 [.sl 1 eI l, .i n] [] 0 (pB post) := by
 refine Tr.go Try.func9 Try.ntmps9 fun _ _ _ _ o => ?_
 unfold V_taquinref07_Has at g
 refine C.ss (U.pd 1 T (C.xs (C.ss ?_)))
 refine U.pd 1 T (C.nx ?_)
 refine C.jn (fun (x5 : Unit) => []) (fun x5 => []) 0 g (fun x5 g => ?_) fun J6 g j6 => ?_
 refine C.xt (U.pd 1 T (C.nx (C.ret ?_)))
 exact C.f1 T o (pBi g)
 refine C.block (St.wk (C.loop (fun (s7 : Int) => [(0, .sl 1 eI l), (1, .i n), (5, .i s7)]) (fun s7 => []) g (fun s7 Y8 g => ?_)) (Wk.e))
 refine C.seq (C.ss (U.pd 4 T (C.nx ?_)))
 refine C.ite rfl g (fun b11 g => ?_) fun b11 g => ?_
 refine C.skip (C.xs (C.block (C.ss (U.ps 2 T rfl ?_))))
 obtain ⟨x14, y14, g⟩ := g
 refine U.ix T y14 ?_
 refine U.pd 3 T (C.nx ?_)
 refine C.ite rfl g (fun b15 g => ?_) fun b15 g => ?_
 refine C.ss (U.pd 1 T (C.nx (C.ret (C.brt (C.rt (C.rt (C.brt (C.rt ?_))))))))
 exact C.f1 T o (pBi g)
 refine C.skip (C.bnx (C.nx (U.start (U.pd 3 T (C.nx ?_)))))
 exact St.wk (C.next g) (Wk.e)
 refine C.exit (C.ex (C.ex (C.bex ?_)))
 exact St.wk (j6 _ g) (Wk.mk' [] rfl rfl trivial trivial rfl)
theorem T_taquinlaw33_ReachFuel (s_1 : ApiSite) (blocked : List Int) (post : Bool → Prop) (g : V_taquinlaw33_ReachFuel s_1 blocked post) :
    Tr Try.prog 3 [.agg (eApiSite s_1), .sl 1 eI blocked] [] 0 (pB post) := by
 refine Tr.go Try.func3 Try.ntmps3 fun _ _ _ _ o => ?_
 unfold V_taquinlaw33_ReachFuel at g
 refine C.ss (U.bx ?_)
 refine U.pd 1 T (C.xt ?_)
 refine U.k (T_taquinlaw33_small _ g) en5 fun x5 g => ?_
 refine U.pd 1 T (C.xs (C.seq ?_))
 refine C.jn (fun (x6 : Bool) => [(1, .sl 1 eI blocked), (2, .p 0 0), (5, .b x5), (21, .b x6)]) (fun x6 => [(0, .box (eApiSite s_1))]) 1 g (fun x6 g => ?_) fun J7 g j7 => ?_
 refine C.nx ?_
 refine C.ite rfl g (fun b10 g => ?_) fun b10 g => ?_
 refine C.ss (U.pd 2 T (C.nx (C.ret (C.rt ?_))))
 exact C.f1 T o (pBi g)
 refine C.skip (C.xt (U.ps 2 T rfl (U.k (T_reach_Fuel s_1 blocked _ g) en7 (fun x15 g => ?_))))
 refine U.pd 1 T (C.xs (C.ss ?_))
 refine U.pd 7 T (C.nx ?_)
 refine C.ite rfl g (fun b18 g => ?_) fun b18 g => ?_
 refine C.ss (U.pd 1 T (C.nx (C.ret (C.rt ?_))))
 exact C.f1 T o (pBi g)
 refine C.skip (C.xs (C.ss (U.pd 1 T (C.nx ?_))))
 refine C.jn (fun (x23 : Unit) => [(5, .b x5)]) (fun x23 => []) 0 g (fun x23 g => ?_) fun J24 g j24 => ?_
 refine C.xt (U.pd 2 T (C.nx (C.ret ?_)))
 exact C.f1 T o (pBi g)
 refine C.block (St.wk (C.loop (fun (s25 : Int) => [(1, .sl 1 eI blocked), (2, .p 0 0), (5, .b x5), (6, .o 1), (7, .i s25)]) (fun s25 => [(0, .box (eApiSite s_1)), (1, .val (.os 1 eI x15))]) g (fun s25 Y26 g => ?_)) (Wk.a (idR 2)))
 refine C.seq (C.ss (U.pd 4 T (C.nx ?_)))
 refine C.ite rfl g (fun b29 g => ?_) fun b29 g => ?_
 refine C.skip (C.xs ?_)
 refine C.jn (fun (x30 : Unit) => [(1, .sl 1 eI blocked), (2, .p 0 0), (5, .b x5), (6, .o 1), (7, .i s25)]) (fun x30 => [(0, .box (eApiSite s_1)), (1, .val (.os 1 eI x15))]) 2 g (fun x30 g => ?_) fun J31 g j31 => ?_
 refine C.nx (U.start (U.pd 3 T (C.nx ?_)))
 exact St.wk (C.next g) (Wk.a (idR 2))
 refine C.block (C.seq (C.seq ?_))
 refine C.jn (fun (x32 : Bool) => [(1, .sl 1 eI blocked), (2, .p 0 0), (5, .b x5), (6, .o 1), (7, .i s25), (58, .b x32)]) (fun x32 => [(0, .box (eApiSite s_1)), (1, .val (.os 1 eI x15))]) 2 g (fun x32 g => ?_) fun J33 g j33 => ?_
 refine C.nx ?_
 refine C.ite rfl g (fun b37 g => ?_) fun b37 g => ?_
 refine C.ss (U.pd 1 T (C.nx (C.ret (C.rt (C.brt (C.rt (C.rt (C.brt (C.rt ?_)))))))))
 exact C.f1 T o (pBi g)
 refine C.skip (C.xt (U.pd 1 T (C.xs (C.ss ?_))))
 refine U.pd 1 T (C.nx ?_)
 refine C.jn (fun (x44 : Int) => [(1, .sl 1 eI blocked), (2, .p 0 0), (5, .b x5), (6, .o 1), (7, .i s25), (8, .i x44)]) (fun x44 => [(0, .box (eApiSite s_1)), (1, .val (.os 1 eI x15))]) 2 g (fun x44 g => ?_) fun J45 g j45 => ?_
 refine C.xs ?_
 refine C.jn (fun (x82 : Bool) => [(1, .sl 1 eI blocked), (2, .p 0 0), (5, .b x5), (6, .o 1), (7, .i s25), (121, .b x82)]) (fun x82 => [(0, .box (eApiSite s_1)), (1, .val (.os 1 eI x15))]) 2 g (fun x82 g => ?_) fun J83 g j83 => ?_
 refine C.nx ?_
 refine C.ite rfl g (fun b86 g => ?_) fun b86 g => ?_
 refine C.ss (U.pd 1 T (C.nx (C.ret (C.brt (C.rt (C.rt (C.brt (C.rt ?_))))))))
 exact C.f1 T o (pBi g)
 refine C.skip (C.bnx ?_)
 exact St.wa (idR 2) (j31 _ g)
 refine U.start (U.ps 2 T rfl ?_)
 obtain ⟨x84, y84, g⟩ := g
 refine U.r rfl (.none rfl) rfl rfl (by exact Rd.io T rfl rfl rfl rfl rfl rfl rfl y84) ?_
 refine U.r rfl (.none rfl) rfl rfl (by exact Rd.le T rfl rfl rfl (idx_some y84).2.2 rfl rfl rfl) ?_
 refine U.ps 2 T rfl ?_
 refine g.cs (fun b85 g => ?_) fun b85 g => ?_
 refine U.pq 2 5 true 114 b85 T ?_
 refine U.r rfl (.tk 5 true 114 b85) rfl rfl (by exact Rd.io T rfl rfl rfl rfl rfl rfl rfl y84) ?_
 refine U.r rfl (.tk 5 true 114 b85) rfl rfl (by exact Rd.le T rfl rfl rfl (idx_some y84).2.2 rfl rfl rfl) ?_
 refine U.pq 2 5 true 114 b85 T ?_
 refine U.pk b85 ?_
 refine U.done ?_
 exact St.wa (idR 2) (j83 _ g)
 refine U.sk' 6 5 true 114 b85 ?_
 refine U.pk' b85 ?_
 refine U.done ?_
 exact St.wa (idR 2) (j83 _ g)
 refine C.block (St.wk (C.loop (fun (s46 : Int × Int) => [(1, .sl 1 eI blocked), (2, .p 0 0), (5, .b x5), (6, .o 1), (7, .i s25), (8, .i s46.1), (9, .i s46.2)]) (fun s46 => [(0, .box (eApiSite s_1)), (1, .val (.os 1 eI x15))]) g (fun s46 Y47 g => ?_)) (Wk.a (idR 2)))
 refine C.seq (C.ss (U.pd 2 T (C.nx ?_)))
 refine C.ite rfl g (fun b50 g => ?_) fun b50 g => ?_
 refine C.skip (C.xs ?_)
 refine C.jn (fun (x51 : Int) => [(1, .sl 1 eI blocked), (2, .p 0 0), (5, .b x5), (6, .o 1), (7, .i s25), (8, .i x51), (9, .i s46.2)]) (fun x51 => [(0, .box (eApiSite s_1)), (1, .val (.os 1 eI x15))]) 2 g (fun x51 g => ?_) fun J52 g j52 => ?_
 refine C.nx (U.start (U.pd 3 T (C.nx ?_)))
 exact St.wk (C.next g) (Wk.a (idR 2))
 refine C.block (C.ss (U.ps 4 T rfl (U.k (T_floor_Next s_1.Floor s25 s46.2 _ g) en8 (fun x55 g => ?_))))
 refine U.pd 5 T (C.xs (C.seq ?_))
 refine C.jn (fun (x56 : Bool) => [(1, .sl 1 eI blocked), (2, .p 0 0), (5, .b x5), (6, .o 1), (7, .i s25), (8, .i s46.1), (9, .i s46.2), (10, .i x55.1), (77, .b x56)]) (fun x56 => [(0, .box (eApiSite s_1)), (1, .val (.os 1 eI x15))]) 2 g (fun x56 g => ?_) fun J57 g j57 => ?_
 refine C.nx ?_
 refine C.ite rfl g (fun b60 g => ?_) fun b60 g => ?_
 refine C.exit (C.ex (C.bex ?_))
 exact St.wa (idR 2) (j52 _ g)
 refine C.skip (C.xt (U.ps 3 T rfl (U.k (T_reach_Price s_1 s46.2 x55.1 _ g) en10 (fun x63 g => ?_))))
 refine U.pd 1 T (C.xs (C.ss ?_))
 refine U.pd 2 T (C.nx ?_)
 refine C.ite rfl g (fun b66 g => ?_) fun b66 g => ?_
 refine C.ss (U.pd 1 T (C.nx (C.ret (C.rt (C.brt (C.rt (C.rt (C.brt (C.rt (C.brt (C.rt (C.rt (C.brt (C.rt ?_))))))))))))))
 exact C.f1 T o (pBi g)
 refine C.skip (C.xs ?_)
 refine C.jn (fun (x69 : Bool) => [(1, .sl 1 eI blocked), (2, .p 0 0), (5, .b x5), (6, .o 1), (7, .i s25), (8, .i s46.1), (9, .i s46.2), (10, .i x55.1), (12, .i x63), (102, .b x69)]) (fun x69 => [(0, .box (eApiSite s_1)), (1, .val (.os 1 eI x15))]) 2 g (fun x69 g => ?_) fun J70 g j70 => ?_
 refine C.nx ?_
 refine C.jn (fun (x74 : Int) => [(1, .sl 1 eI blocked), (2, .p 0 0), (5, .b x5), (6, .o 1), (7, .i s25), (8, .i x74), (9, .i s46.2)]) (fun x74 => [(0, .box (eApiSite s_1)), (1, .val (.os 1 eI x15))]) 2 g (fun x74 g => ?_) fun J75 g j75 => ?_
 refine C.bnx ?_
 exact St.wa (idR 2) (j52 _ g)
 refine C.ite rfl g (fun b76 g => ?_) fun b76 g => ?_
 refine U.start (U.ps 2 T rfl ?_)
 obtain ⟨x79, y79, g⟩ := g
 refine U.r rfl (.none rfl) rfl rfl (by exact Rd.io T rfl rfl rfl rfl rfl rfl rfl y79) ?_
 refine U.r rfl (.none rfl) rfl rfl (by exact Rd.le T rfl rfl rfl (idx_some y79).2.2 rfl rfl rfl) ?_
 refine U.pd 3 T ?_
 exact St.wa (idR 2) (j75 _ g)
 refine C.skip ?_
 exact St.wa (idR 2) (j75 _ g)
 refine U.start (U.ps 2 T rfl ?_)
 obtain ⟨x71, y71, g⟩ := g
 refine U.r rfl (.none rfl) rfl rfl (by exact Rd.io T rfl rfl rfl rfl rfl rfl rfl y71) ?_
 refine U.r rfl (.none rfl) rfl rfl (by exact Rd.le T rfl rfl rfl (idx_some y71).2.2 rfl rfl rfl) ?_
 refine U.ps 2 T rfl ?_
 refine g.cs (fun b72 g => ?_) fun b72 g => ?_
 refine U.pq 3 5 true 89 b72 T ?_
 refine g.cs (fun b73 g => ?_) fun b73 g => ?_
 refine U.sk' 8 8 false 92 b73 ?_
 refine U.r rfl (.tk 5 true 89 b72) rfl rfl (by exact Rd.pk rfl rfl b73 rfl) ?_
 refine U.pk b72 ?_
 refine U.done ?_
 exact St.wa (idR 2) (j70 _ g)
 refine U.pq 2 8 false 92 b73 T ?_
 refine U.r rfl (.tk 8 false 92 b73) rfl rfl (by exact Rd.io T rfl rfl rfl rfl rfl rfl rfl y71) ?_
 refine U.r rfl (.tk 8 false 92 b73) rfl rfl (by exact Rd.le T rfl rfl rfl (idx_some y71).2.2 rfl rfl rfl) ?_
 refine U.pq 4 8 false 92 b73 T ?_
 refine U.r rfl (.tk 5 true 89 b72) rfl rfl (by exact Rd.pk' rfl rfl b73 rfl) ?_
 refine U.pk b72 ?_
 refine U.done ?_
 exact St.wa (idR 2) (j70 _ g)
 refine U.sk' 3 5 true 89 b72 ?_
 refine U.sku 8 8 false 92 rfl rfl rfl ?_
 refine U.sk' 1 5 true 89 b72 ?_
 refine U.pk' b72 ?_
 refine U.done ?_
 exact St.wa (idR 2) (j70 _ g)
 refine U.start (U.ps 3 T rfl ?_)
 refine g.cs (fun b58 g => ?_) fun b58 g => ?_
 refine U.pq 2 2 false 73 (ntF b58) T ?_
 refine U.k (T_taquinref07_Has blocked x55.1 _ g) en9 (fun x59 g => ?_) (hw := .take 2 false 73 _ (ntF b58) rfl rfl rfl)
 refine U.pk' (ntF b58) ?_
 refine U.done ?_
 exact St.wa (idR 2) (j57 _ g)
 refine U.sk' 3 2 false 73 (ntT b58) ?_
 refine U.pk (ntT b58) ?_
 refine U.done ?_
 exact St.wa (idR 2) (j57 _ g)
 refine C.exit (C.ex (C.ex (C.bex ?_)))
 exact St.wa (idR 2) (j45 _ g)
 refine D.bg mix 9999 [0, 1] [] (fun hQ hS ws M' => ?_)
 refine D.pq 2 (zl [0, 1]) T ?_
 obtain ⟨x34, y34, g⟩ := g
 refine D.q 2 [] hQ hS rfl (.none rfl) rfl rfl (by exact Rd.io T rfl rfl rfl rfl rfl rfl rfl y34) rfl (by kernel_rfl) ?_
 refine D.q 3 [] hQ hS rfl (.none rfl) rfl rfl (by exact Rd.le T rfl rfl rfl (idx_some y34).2.2 rfl rfl rfl) rfl (by kernel_rfl) ?_
 refine D.pq 5 (zl [4, 5, 6, 7, 8]) T ?_
 obtain ⟨x35, y35, g⟩ := g
 refine D.ix 9 [] T y35 ?_
 refine D.pq 4 (zl [10, 11, 12, 13]) T ?_
 refine g.cs (fun b36 g => ?_) fun b36 g => ?_
 refine D.pt 14 [] 13 false 52 (ntF b36) T ?_
 refine D.pt 15 [] 13 false 52 (ntF b36) T ?_
 refine D.q 16 [] hQ hS rfl (.tk 13 false 52 (ntF b36)) rfl rfl (by exact Rd.io T rfl rfl rfl rfl rfl rfl rfl y34) rfl (by kernel_rfl) ?_
 refine D.q 17 [] hQ hS rfl (.tk 13 false 52 (ntF b36)) rfl rfl (by exact Rd.le T rfl rfl rfl (idx_some y34).2.2 rfl rfl rfl) rfl (by kernel_rfl) ?_
 refine D.pt 18 [] 13 false 52 (ntF b36) T ?_
 refine D.kf 19 [] (ntF b36) ?_
 refine D.done (by kernel_rfl) ?_
 exact St.wa (idR 2) (j33 _ g)
 refine D.sz 14 [] 13 false 52 (ntT b36) ?_
 refine D.sz 15 [] 13 false 52 (ntT b36) ?_
 refine D.sz 16 [] 13 false 52 (ntT b36) ?_
 refine D.sz 17 [] 13 false 52 (ntT b36) ?_
 refine D.sz 18 [] 13 false 52 (ntT b36) ?_
 refine D.kt 19 [] (ntT b36) ?_
 refine D.done (by kernel_rfl) ?_
 exact St.wa (idR 2) (j33 _ g)
 refine C.exit (C.ex (C.ex (C.bex ?_)))
 exact St.wn (j24 _ g)
 refine U.start (U.ps 1 T rfl (U.k (T_taquinlaw33_fits s_1 30 _ g) en6 (fun x8 g => ?_)))
 refine U.ps 2 T rfl ?_
 refine g.cs (fun b9 g => ?_) fun b9 g => ?_
 refine U.pq 3 3 false 17 (ntF b9) T ?_
 refine U.pk' (ntF b9) ?_
 refine U.done ?_
 exact St.wa [some 0] (j7 _ g)
 refine U.sk' 3 3 false 17 (ntT b9) ?_
 refine U.pk (ntT b9) ?_
 refine U.done ?_
 exact St.wa [some 0] (j7 _ g)
end Go.Proofs.Ytdcfcldpjfepiaa
