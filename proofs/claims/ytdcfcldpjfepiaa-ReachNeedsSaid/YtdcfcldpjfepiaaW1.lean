/- The walks: each Go function does what its verification condition says (written by a program of the prover). -/
import Derived.Test.YtdcfcldpjfepiaaW0
import Derived.KernelRfl
set_option maxRecDepth 100000
set_option maxHeartbeats 8000000
set_option linter.unusedVariables false
set_option linter.unusedSimpArgs false
namespace Go.Proofs.Ytdcfcldpjfepiaa
open Go Go.Taq
theorem T_survey_Right (s_1 : ApiSite) (post : Bool → Prop) (g : V_survey_Right s_1 post) :
    Tr Try.prog 17 [.agg (eApiSite s_1)] [] 0 (pB post) := by
 refine Tr.go Try.func17 Try.ntmps17 fun _ _ _ _ o => ?_
 unfold V_survey_Right at g
 refine C.ss (U.bx ?_)
 refine U.pd 1 T (C.xs (C.ss ?_))
 refine U.ps 2 T rfl (U.k (T_floor_Right s_1.Floor _ g) en29 (fun x5 g => ?_))
 refine U.pd 1 T (C.nx ?_)
 refine C.ite rfl g (fun b6 g => ?_) fun b6 g => ?_
 refine C.ss (U.pd 1 T (C.nx (C.ret (C.rt ?_))))
 exact C.f1 T o (pBi g)
 refine C.skip (C.xt (U.ps 2 T rfl (U.e rfl (.none rfl) (by exact Eff.c [] (v := false) (T_survey_newMaker s_1.Floor _ g) en30 rfl rfl rfl (.eq rfl) trivial rfl rfl rfl rfl rfl rfl (fun h => by cases h) (.inr ⟨rfl, rfl⟩) (fun _ => rfl) (fun _ => rfl) rfl) (fun x11' g => ?_))))
 obtain ⟨x11⟩ := x11'
 refine U.pd 1 T (C.xs (C.ss ?_))
 refine U.pd 4 T (C.nx ?_)
 refine C.jn (fun (x14 : Int × Int × Int × List Int × List Int × List ApiZone × List ApiApart × List ApiShelf × List ApiStart × List (Int × Int) × List (Int × Bool) × List (Int × Bool) × List (ByteArray × Int) × List (Int × Bool) × List Int × List Int) => [(1, .p 0 0), (3, .p 1 0)]) (fun x14 => [(0, .box (eApiSite s_1)), (1, .box [.i x14.1, .i x14.2.1, .i x14.2.2.1, .sl 1 eI x14.2.2.2.1, .sl 1 eI x14.2.2.2.2.1, .o 2, .o 3, .o 4, .o 5, .o 6, .o 7, .o 8, .o 9, .o 10, .o 11, .o 12]), (2, .val (.os 5 eApiZone x14.2.2.2.2.2.1)), (3, .val (.os 2 eApiApart x14.2.2.2.2.2.2.1)), (4, .val (.os 2 eApiShelf x14.2.2.2.2.2.2.2.1)), (5, .val (.os 2 eApiStart x14.2.2.2.2.2.2.2.2.1)), (6, .val (.om kI veI x14.2.2.2.2.2.2.2.2.2.1)), (7, .val (.om kI veB x14.2.2.2.2.2.2.2.2.2.2.1)), (8, .val (.om kI veB x14.2.2.2.2.2.2.2.2.2.2.2.1)), (9, .val (.om kS veI x14.2.2.2.2.2.2.2.2.2.2.2.2.1)), (10, .val (.om kI veB x14.2.2.2.2.2.2.2.2.2.2.2.2.2.1)), (11, .val (.os 1 eI x14.2.2.2.2.2.2.2.2.2.2.2.2.2.2.1)), (12, .val (.os 1 eI x14.2.2.2.2.2.2.2.2.2.2.2.2.2.2.2))]) 13 g (fun x14 g => ?_) fun J15 g j15 => ?_
 refine C.xs (C.ss (U.pd 4 T (C.nx ?_)))
 refine C.jn (fun (x43 : Int × Int × Int × List Int × List Int × List ApiZone × List ApiApart × List ApiShelf × List ApiStart × List (Int × Int) × List (Int × Bool) × List (Int × Bool) × List (ByteArray × Int) × List (Int × Bool) × List Int × List Int) => [(1, .p 0 0), (3, .p 1 0)]) (fun x43 => [(0, .box (eApiSite s_1)), (1, .box [.i x43.1, .i x43.2.1, .i x43.2.2.1, .sl 1 eI x43.2.2.2.1, .sl 1 eI x43.2.2.2.2.1, .o 2, .o 3, .o 4, .o 5, .o 6, .o 7, .o 8, .o 9, .o 10, .o 11, .o 12]), (2, .val (.os 5 eApiZone x43.2.2.2.2.2.1)), (3, .val (.os 2 eApiApart x43.2.2.2.2.2.2.1)), (4, .val (.os 2 eApiShelf x43.2.2.2.2.2.2.2.1)), (5, .val (.os 2 eApiStart x43.2.2.2.2.2.2.2.2.1)), (6, .val (.om kI veI x43.2.2.2.2.2.2.2.2.2.1)), (7, .val (.om kI veB x43.2.2.2.2.2.2.2.2.2.2.1)), (8, .val (.om kI veB x43.2.2.2.2.2.2.2.2.2.2.2.1)), (9, .val (.om kS veI x43.2.2.2.2.2.2.2.2.2.2.2.2.1)), (10, .val (.om kI veB x43.2.2.2.2.2.2.2.2.2.2.2.2.2.1)), (11, .val (.os 1 eI x43.2.2.2.2.2.2.2.2.2.2.2.2.2.2.1)), (12, .val (.os 1 eI x43.2.2.2.2.2.2.2.2.2.2.2.2.2.2.2))]) 13 g (fun x43 g => ?_) fun J44 g j44 => ?_
 refine C.xs (C.ss (U.pd 4 T (C.nx ?_)))
 refine C.jn (fun (x63 : Int × Int × Int × List Int × List Int × List ApiZone × List ApiApart × List ApiShelf × List ApiStart × List (Int × Int) × List (Int × Bool) × List (Int × Bool) × List (ByteArray × Int) × List (Int × Bool) × List Int × List Int) => [(1, .p 0 0), (3, .p 1 0)]) (fun x63 => [(0, .box (eApiSite s_1)), (1, .box [.i x63.1, .i x63.2.1, .i x63.2.2.1, .sl 1 eI x63.2.2.2.1, .sl 1 eI x63.2.2.2.2.1, .o 2, .o 3, .o 4, .o 5, .o 6, .o 7, .o 8, .o 9, .o 10, .o 11, .o 12]), (2, .val (.os 5 eApiZone x63.2.2.2.2.2.1)), (3, .val (.os 2 eApiApart x63.2.2.2.2.2.2.1)), (4, .val (.os 2 eApiShelf x63.2.2.2.2.2.2.2.1)), (5, .val (.os 2 eApiStart x63.2.2.2.2.2.2.2.2.1)), (6, .val (.om kI veI x63.2.2.2.2.2.2.2.2.2.1)), (7, .val (.om kI veB x63.2.2.2.2.2.2.2.2.2.2.1)), (8, .val (.om kI veB x63.2.2.2.2.2.2.2.2.2.2.2.1)), (9, .val (.om kS veI x63.2.2.2.2.2.2.2.2.2.2.2.2.1)), (10, .val (.om kI veB x63.2.2.2.2.2.2.2.2.2.2.2.2.2.1)), (11, .val (.os 1 eI x63.2.2.2.2.2.2.2.2.2.2.2.2.2.2.1)), (12, .val (.os 1 eI x63.2.2.2.2.2.2.2.2.2.2.2.2.2.2.2))]) 13 g (fun x63 g => ?_) fun J64 g j64 => ?_
 refine C.xs (C.ss (U.pd 4 T (C.nx ?_)))
 refine C.jn (fun (x83 : Int × Int × Int × List Int × List Int × List ApiZone × List ApiApart × List ApiShelf × List ApiStart × List (Int × Int) × List (Int × Bool) × List (Int × Bool) × List (ByteArray × Int) × List (Int × Bool) × List Int × List Int) => [(3, .p 0 0)]) (fun x83 => [(0, .box [.i x83.1, .i x83.2.1, .i x83.2.2.1, .sl 1 eI x83.2.2.2.1, .sl 1 eI x83.2.2.2.2.1, .o 1, .o 2, .o 3, .o 4, .o 5, .o 6, .o 7, .o 8, .o 9, .o 10, .o 11]), (1, .val (.os 5 eApiZone x83.2.2.2.2.2.1)), (2, .val (.os 2 eApiApart x83.2.2.2.2.2.2.1)), (3, .val (.os 2 eApiShelf x83.2.2.2.2.2.2.2.1)), (4, .val (.os 2 eApiStart x83.2.2.2.2.2.2.2.2.1)), (5, .val (.om kI veI x83.2.2.2.2.2.2.2.2.2.1)), (6, .val (.om kI veB x83.2.2.2.2.2.2.2.2.2.2.1)), (7, .val (.om kI veB x83.2.2.2.2.2.2.2.2.2.2.2.1)), (8, .val (.om kS veI x83.2.2.2.2.2.2.2.2.2.2.2.2.1)), (9, .val (.om kI veB x83.2.2.2.2.2.2.2.2.2.2.2.2.2.1)), (10, .val (.os 1 eI x83.2.2.2.2.2.2.2.2.2.2.2.2.2.2.1)), (11, .val (.os 1 eI x83.2.2.2.2.2.2.2.2.2.2.2.2.2.2.2))]) 12 g (fun x83 g => ?_) fun J84 g j84 => ?_
 refine C.xs ?_
 refine C.jn (fun (x101 : Bool) => [(2, .b x101)]) (fun x101 => []) 0 g (fun x101 g => ?_) fun J102 g j102 => ?_
 refine C.nx (C.ret ?_)
 exact C.f1 T o (pBi g)
 refine U.start (U.ps 1 T rfl ?_)
 refine U.k (T_survey_maker_beside ({ site := ({ Floor := ({ W := x83.1, H := x83.2.1, D := x83.2.2.1, Kind := x83.2.2.2.1, Out := x83.2.2.2.2.1 : ApiFloor }), Zones := x83.2.2.2.2.2.1, Aparts := x83.2.2.2.2.2.2.1, Shelves := x83.2.2.2.2.2.2.2.1, Robots := x83.2.2.2.2.2.2.2.2.1 : ApiSite }), shelf := x83.2.2.2.2.2.2.2.2.2.1, robot := x83.2.2.2.2.2.2.2.2.2.2.1, zoned := x83.2.2.2.2.2.2.2.2.2.2.2.1, names := x83.2.2.2.2.2.2.2.2.2.2.2.2.1, oneways := x83.2.2.2.2.2.2.2.2.2.2.2.2.2.1, shelves := x83.2.2.2.2.2.2.2.2.2.2.2.2.2.2.1, zones := x83.2.2.2.2.2.2.2.2.2.2.2.2.2.2.2 : SurveyMaker }) _ g) en39 fun x103 g => ?_
 refine U.ps 2 T rfl ?_
 refine g.cs (fun b104 g => ?_) fun b104 g => ?_
 refine U.pq 1 3 true 100 b104 T ?_
 refine U.k (T_survey_maker_crowded ({ site := ({ Floor := ({ W := x83.1, H := x83.2.1, D := x83.2.2.1, Kind := x83.2.2.2.1, Out := x83.2.2.2.2.1 : ApiFloor }), Zones := x83.2.2.2.2.2.1, Aparts := x83.2.2.2.2.2.2.1, Shelves := x83.2.2.2.2.2.2.2.1, Robots := x83.2.2.2.2.2.2.2.2.1 : ApiSite }), shelf := x83.2.2.2.2.2.2.2.2.2.1, robot := x83.2.2.2.2.2.2.2.2.2.2.1, zoned := x83.2.2.2.2.2.2.2.2.2.2.2.1, names := x83.2.2.2.2.2.2.2.2.2.2.2.2.1, oneways := x83.2.2.2.2.2.2.2.2.2.2.2.2.2.1, shelves := x83.2.2.2.2.2.2.2.2.2.2.2.2.2.2.1, zones := x83.2.2.2.2.2.2.2.2.2.2.2.2.2.2.2 : SurveyMaker }) _ g) en40 (fun x105 g => ?_) (hw := .take 3 true 100 _ b104 rfl rfl rfl)
 refine U.pq 1 3 true 100 b104 T ?_
 refine U.pk b104 ?_
 refine U.ps 1 T rfl ?_
 refine g.cs (fun b106 g => ?_) fun b106 g => ?_
 refine U.pq 1 8 true 105 b106 T ?_
 refine U.k (T_survey_maker_charger ({ site := ({ Floor := ({ W := x83.1, H := x83.2.1, D := x83.2.2.1, Kind := x83.2.2.2.1, Out := x83.2.2.2.2.1 : ApiFloor }), Zones := x83.2.2.2.2.2.1, Aparts := x83.2.2.2.2.2.2.1, Shelves := x83.2.2.2.2.2.2.2.1, Robots := x83.2.2.2.2.2.2.2.2.1 : ApiSite }), shelf := x83.2.2.2.2.2.2.2.2.2.1, robot := x83.2.2.2.2.2.2.2.2.2.2.1, zoned := x83.2.2.2.2.2.2.2.2.2.2.2.1, names := x83.2.2.2.2.2.2.2.2.2.2.2.2.1, oneways := x83.2.2.2.2.2.2.2.2.2.2.2.2.2.1, shelves := x83.2.2.2.2.2.2.2.2.2.2.2.2.2.2.1, zones := x83.2.2.2.2.2.2.2.2.2.2.2.2.2.2.2 : SurveyMaker }) _ g) en41 (fun x107 g => ?_) (hw := .take 8 true 105 _ b106 rfl rfl rfl)
 refine U.pk b106 ?_
 refine U.pd 1 T ?_
 exact St.wn (j102 _ g)
 refine U.sk' 2 8 true 105 b106 ?_
 refine U.pk' b106 ?_
 refine U.pd 1 T ?_
 exact St.wn (j102 _ g)
 refine U.sk' 3 3 true 100 b104 ?_
 refine U.pk' b104 ?_
 refine U.ps 1 T rfl (U.sk' 2 8 true 105 rfl ?_)
 refine U.pk' rfl ?_
 refine U.pd 1 T ?_
 exact St.wn (j102 _ g)
 refine C.block ?_
 refine St.wk (C.loop (fun (s85 : Int × Int × Int × List Int × List Int × List ApiZone × List ApiApart × List ApiShelf × List ApiStart × List (Int × Int) × List (Int × Bool) × List (Int × Bool) × List (ByteArray × Int) × List (Int × Bool) × List Int × List Int × Int) => [(3, .p 0 0), (86, .sl 2 eApiStart s_1.Robots), (87, .i (s_1.Robots.length : Int)), (88, .i s85.2.2.2.2.2.2.2.2.2.2.2.2.2.2.2.2)]) (fun s85 => [(0, .box [.i s85.1, .i s85.2.1, .i s85.2.2.1, .sl 1 eI s85.2.2.2.1, .sl 1 eI s85.2.2.2.2.1, .o 1, .o 2, .o 3, .o 4, .o 5, .o 6, .o 7, .o 8, .o 9, .o 10, .o 11]), (1, .val (.os 5 eApiZone s85.2.2.2.2.2.1)), (2, .val (.os 2 eApiApart s85.2.2.2.2.2.2.1)), (3, .val (.os 2 eApiShelf s85.2.2.2.2.2.2.2.1)), (4, .val (.os 2 eApiStart s85.2.2.2.2.2.2.2.2.1)), (5, .val (.om kI veI s85.2.2.2.2.2.2.2.2.2.1)), (6, .val (.om kI veB s85.2.2.2.2.2.2.2.2.2.2.1)), (7, .val (.om kI veB s85.2.2.2.2.2.2.2.2.2.2.2.1)), (8, .val (.om kS veI s85.2.2.2.2.2.2.2.2.2.2.2.2.1)), (9, .val (.om kI veB s85.2.2.2.2.2.2.2.2.2.2.2.2.2.1)), (10, .val (.os 1 eI s85.2.2.2.2.2.2.2.2.2.2.2.2.2.2.1)), (11, .val (.os 1 eI s85.2.2.2.2.2.2.2.2.2.2.2.2.2.2.2.1))]) g (fun s85 Y86 g => ?_)) (Wk.a (sqR 1 12))
 refine C.ss (U.pd 1 T (C.xs ?_))
 refine C.ite rfl g (fun b89 g => ?_) fun b89 g => ?_
 refine C.skip (C.xs (C.block (C.ss ?_)))
 obtain ⟨x92, y92, g⟩ := g
 refine U.ix T y92 ?_
 refine U.ps 1 T rfl (U.al T ?_)
 refine U.st T ?_
 refine U.done (C.xt (U.ps 2 T rfl ?_))
 refine U.c (idR 12) (T_survey_maker_addRobot__p0 x92 ({ site := ({ Floor := ({ W := s85.1, H := s85.2.1, D := s85.2.2.1, Kind := s85.2.2.2.1, Out := s85.2.2.2.2.1 : ApiFloor }), Zones := s85.2.2.2.2.2.1, Aparts := s85.2.2.2.2.2.2.1, Shelves := s85.2.2.2.2.2.2.2.1, Robots := s85.2.2.2.2.2.2.2.2.1 : ApiSite }), shelf := s85.2.2.2.2.2.2.2.2.2.1, robot := s85.2.2.2.2.2.2.2.2.2.2.1, zoned := s85.2.2.2.2.2.2.2.2.2.2.2.1, names := s85.2.2.2.2.2.2.2.2.2.2.2.2.1, oneways := s85.2.2.2.2.2.2.2.2.2.2.2.2.2.1, shelves := s85.2.2.2.2.2.2.2.2.2.2.2.2.2.2.1, zones := s85.2.2.2.2.2.2.2.2.2.2.2.2.2.2.2.1 : SurveyMaker }) _ g) en38 fun x95 g => ?_
 refine U.pd 1 T (C.nx ?_)
 refine C.ite rfl g (fun b96 g => ?_) fun b96 g => ?_
 refine C.ss (U.pd 1 T (C.nx (C.ret (C.brt (C.rt (C.rt (C.brt (C.rt ?_))))))))
 exact C.f1 T o (pBi g)
 refine C.skip (C.bnx (C.nx (U.start (U.pd 2 T (C.nx ?_)))))
 exact St.wk (C.next g) (Wk.a [some 0, some 25, some 26, some 27, some 28, some 29, some 30, some 31, some 32, some 33, some 34, some 35])
 refine C.exit (C.ex (C.ex (C.bex ?_)))
 exact St.wa (idR 12) (j84 _ g)
 refine C.block ?_
 refine St.wk (C.loop (fun (s65 : Int × Int × Int × List Int × List Int × List ApiZone × List ApiApart × List ApiShelf × List ApiStart × List (Int × Int) × List (Int × Bool) × List (Int × Bool) × List (ByteArray × Int) × List (Int × Bool) × List Int × List Int × Int) => [(1, .p 0 0), (3, .p 1 0), (74, .sl 2 eApiShelf s_1.Shelves), (75, .i (s_1.Shelves.length : Int)), (76, .i s65.2.2.2.2.2.2.2.2.2.2.2.2.2.2.2.2)]) (fun s65 => [(0, .box (eApiSite s_1)), (1, .box [.i s65.1, .i s65.2.1, .i s65.2.2.1, .sl 1 eI s65.2.2.2.1, .sl 1 eI s65.2.2.2.2.1, .o 2, .o 3, .o 4, .o 5, .o 6, .o 7, .o 8, .o 9, .o 10, .o 11, .o 12]), (2, .val (.os 5 eApiZone s65.2.2.2.2.2.1)), (3, .val (.os 2 eApiApart s65.2.2.2.2.2.2.1)), (4, .val (.os 2 eApiShelf s65.2.2.2.2.2.2.2.1)), (5, .val (.os 2 eApiStart s65.2.2.2.2.2.2.2.2.1)), (6, .val (.om kI veI s65.2.2.2.2.2.2.2.2.2.1)), (7, .val (.om kI veB s65.2.2.2.2.2.2.2.2.2.2.1)), (8, .val (.om kI veB s65.2.2.2.2.2.2.2.2.2.2.2.1)), (9, .val (.om kS veI s65.2.2.2.2.2.2.2.2.2.2.2.2.1)), (10, .val (.om kI veB s65.2.2.2.2.2.2.2.2.2.2.2.2.2.1)), (11, .val (.os 1 eI s65.2.2.2.2.2.2.2.2.2.2.2.2.2.2.1)), (12, .val (.os 1 eI s65.2.2.2.2.2.2.2.2.2.2.2.2.2.2.2.1))]) g (fun s65 Y66 g => ?_)) (Wk.a (idR 13))
 refine C.ss (U.pd 1 T (C.xs ?_))
 refine C.ite rfl g (fun b69 g => ?_) fun b69 g => ?_
 refine C.skip (C.xs (C.block (C.ss ?_)))
 obtain ⟨x72, y72, g⟩ := g
 refine U.ix T y72 ?_
 refine U.ps 1 T rfl (U.al T ?_)
 refine U.st T ?_
 refine U.done (C.xt (U.ps 2 T rfl ?_))
 refine U.c (sqR 1 12) (T_survey_maker_addShelf__p0 x72 ({ site := ({ Floor := ({ W := s65.1, H := s65.2.1, D := s65.2.2.1, Kind := s65.2.2.2.1, Out := s65.2.2.2.2.1 : ApiFloor }), Zones := s65.2.2.2.2.2.1, Aparts := s65.2.2.2.2.2.2.1, Shelves := s65.2.2.2.2.2.2.2.1, Robots := s65.2.2.2.2.2.2.2.2.1 : ApiSite }), shelf := s65.2.2.2.2.2.2.2.2.2.1, robot := s65.2.2.2.2.2.2.2.2.2.2.1, zoned := s65.2.2.2.2.2.2.2.2.2.2.2.1, names := s65.2.2.2.2.2.2.2.2.2.2.2.2.1, oneways := s65.2.2.2.2.2.2.2.2.2.2.2.2.2.1, shelves := s65.2.2.2.2.2.2.2.2.2.2.2.2.2.2.1, zones := s65.2.2.2.2.2.2.2.2.2.2.2.2.2.2.2.1 : SurveyMaker }) _ g) en37 fun x75 g => ?_
 refine U.pd 1 T (C.nx ?_)
 refine C.ite rfl g (fun b76 g => ?_) fun b76 g => ?_
 refine C.ss (U.pd 1 T (C.nx (C.ret (C.brt (C.rt (C.rt (C.brt (C.rt ?_))))))))
 exact C.f1 T o (pBi g)
 refine C.skip (C.bnx (C.nx (U.start (U.pd 2 T (C.nx ?_)))))
 exact St.wk (C.next g) (Wk.a [some 0, some 1, some 26, some 27, some 28, some 29, some 30, some 31, some 32, some 33, some 34, some 35, some 36])
 refine C.exit (C.ex (C.ex (C.bex ?_)))
 exact St.wa (idR 13) (j64 _ g)
 refine C.block ?_
 refine St.wk (C.loop (fun (s45 : Int × Int × Int × List Int × List Int × List ApiZone × List ApiApart × List ApiShelf × List ApiStart × List (Int × Int) × List (Int × Bool) × List (Int × Bool) × List (ByteArray × Int) × List (Int × Bool) × List Int × List Int × Int) => [(1, .p 0 0), (3, .p 1 0), (62, .sl 2 eApiApart s_1.Aparts), (63, .i (s_1.Aparts.length : Int)), (64, .i s45.2.2.2.2.2.2.2.2.2.2.2.2.2.2.2.2)]) (fun s45 => [(0, .box (eApiSite s_1)), (1, .box [.i s45.1, .i s45.2.1, .i s45.2.2.1, .sl 1 eI s45.2.2.2.1, .sl 1 eI s45.2.2.2.2.1, .o 2, .o 3, .o 4, .o 5, .o 6, .o 7, .o 8, .o 9, .o 10, .o 11, .o 12]), (2, .val (.os 5 eApiZone s45.2.2.2.2.2.1)), (3, .val (.os 2 eApiApart s45.2.2.2.2.2.2.1)), (4, .val (.os 2 eApiShelf s45.2.2.2.2.2.2.2.1)), (5, .val (.os 2 eApiStart s45.2.2.2.2.2.2.2.2.1)), (6, .val (.om kI veI s45.2.2.2.2.2.2.2.2.2.1)), (7, .val (.om kI veB s45.2.2.2.2.2.2.2.2.2.2.1)), (8, .val (.om kI veB s45.2.2.2.2.2.2.2.2.2.2.2.1)), (9, .val (.om kS veI s45.2.2.2.2.2.2.2.2.2.2.2.2.1)), (10, .val (.om kI veB s45.2.2.2.2.2.2.2.2.2.2.2.2.2.1)), (11, .val (.os 1 eI s45.2.2.2.2.2.2.2.2.2.2.2.2.2.2.1)), (12, .val (.os 1 eI s45.2.2.2.2.2.2.2.2.2.2.2.2.2.2.2.1))]) g (fun s45 Y46 g => ?_)) (Wk.a (idR 13))
 refine C.ss (U.pd 1 T (C.xs ?_))
 refine C.ite rfl g (fun b49 g => ?_) fun b49 g => ?_
 refine C.skip (C.xs (C.block (C.ss ?_)))
 obtain ⟨x52, y52, g⟩ := g
 refine U.ix T y52 ?_
 refine U.ps 1 T rfl (U.al T ?_)
 refine U.st T ?_
 refine U.done (C.xt (U.ps 2 T rfl ?_))
 refine U.c (sqR 1 12) (T_survey_maker_addApart__p0 x52 ({ site := ({ Floor := ({ W := s45.1, H := s45.2.1, D := s45.2.2.1, Kind := s45.2.2.2.1, Out := s45.2.2.2.2.1 : ApiFloor }), Zones := s45.2.2.2.2.2.1, Aparts := s45.2.2.2.2.2.2.1, Shelves := s45.2.2.2.2.2.2.2.1, Robots := s45.2.2.2.2.2.2.2.2.1 : ApiSite }), shelf := s45.2.2.2.2.2.2.2.2.2.1, robot := s45.2.2.2.2.2.2.2.2.2.2.1, zoned := s45.2.2.2.2.2.2.2.2.2.2.2.1, names := s45.2.2.2.2.2.2.2.2.2.2.2.2.1, oneways := s45.2.2.2.2.2.2.2.2.2.2.2.2.2.1, shelves := s45.2.2.2.2.2.2.2.2.2.2.2.2.2.2.1, zones := s45.2.2.2.2.2.2.2.2.2.2.2.2.2.2.2.1 : SurveyMaker }) _ g) en36 fun x55 g => ?_
 refine U.pd 1 T (C.nx ?_)
 refine C.ite rfl g (fun b56 g => ?_) fun b56 g => ?_
 refine C.ss (U.pd 1 T (C.nx (C.ret (C.brt (C.rt (C.rt (C.brt (C.rt ?_))))))))
 exact C.f1 T o (pBi g)
 refine C.skip (C.bnx (C.nx (U.start (U.pd 2 T (C.nx ?_)))))
 exact St.wk (C.next g) (Wk.a [some 0, some 1, some 26, some 27, some 28, some 29, some 30, some 31, some 32, some 33, some 34, some 35, some 36])
 refine C.exit (C.ex (C.ex (C.bex ?_)))
 exact St.wa (idR 13) (j44 _ g)
 refine C.block ?_
 refine St.wk (C.loop (fun (s16 : Int × Int × Int × List Int × List Int × List ApiZone × List ApiApart × List ApiShelf × List ApiStart × List (Int × Int) × List (Int × Bool) × List (Int × Bool) × List (ByteArray × Int) × List (Int × Bool) × List Int × List Int × Int) => [(1, .p 0 0), (3, .p 1 0), (20, .sl 5 eApiZone s_1.Zones), (21, .i (s_1.Zones.length : Int)), (22, .i s16.2.2.2.2.2.2.2.2.2.2.2.2.2.2.2.2)]) (fun s16 => [(0, .box (eApiSite s_1)), (1, .box [.i s16.1, .i s16.2.1, .i s16.2.2.1, .sl 1 eI s16.2.2.2.1, .sl 1 eI s16.2.2.2.2.1, .o 2, .o 3, .o 4, .o 5, .o 6, .o 7, .o 8, .o 9, .o 10, .o 11, .o 12]), (2, .val (.os 5 eApiZone s16.2.2.2.2.2.1)), (3, .val (.os 2 eApiApart s16.2.2.2.2.2.2.1)), (4, .val (.os 2 eApiShelf s16.2.2.2.2.2.2.2.1)), (5, .val (.os 2 eApiStart s16.2.2.2.2.2.2.2.2.1)), (6, .val (.om kI veI s16.2.2.2.2.2.2.2.2.2.1)), (7, .val (.om kI veB s16.2.2.2.2.2.2.2.2.2.2.1)), (8, .val (.om kI veB s16.2.2.2.2.2.2.2.2.2.2.2.1)), (9, .val (.om kS veI s16.2.2.2.2.2.2.2.2.2.2.2.2.1)), (10, .val (.om kI veB s16.2.2.2.2.2.2.2.2.2.2.2.2.2.1)), (11, .val (.os 1 eI s16.2.2.2.2.2.2.2.2.2.2.2.2.2.2.1)), (12, .val (.os 1 eI s16.2.2.2.2.2.2.2.2.2.2.2.2.2.2.2.1))]) g (fun s16 Y17 g => ?_)) (Wk.a [some 0, some 12, some 1, some 2, some 3, some 4, some 5, some 6, some 7, some 8, some 9, some 10, some 11])
 refine C.ss (U.pd 1 T (C.xs ?_))
 refine C.ite rfl g (fun b20 g => ?_) fun b20 g => ?_
 refine C.skip (C.xs (C.block (C.ss ?_)))
 obtain ⟨x23, y23, g⟩ := g
 refine U.ix T y23 ?_
 refine U.ps 1 T rfl (U.al T ?_)
 refine U.st T ?_
 refine U.done (C.xs ?_)
 refine C.jn (fun (x24 : Int × Int × Int × List Int × List Int × List ApiZone × List ApiApart × List ApiShelf × List ApiStart × List (Int × Int) × List (Int × Bool) × List (Int × Bool) × List (ByteArray × Int) × List (Int × Bool) × List Int × List Int × Bool) => [(1, .p 0 0), (3, .p 1 0), (20, .sl 5 eApiZone s_1.Zones), (21, .i (s_1.Zones.length : Int)), (22, .i s16.2.2.2.2.2.2.2.2.2.2.2.2.2.2.2.2), (59, .b x24.2.2.2.2.2.2.2.2.2.2.2.2.2.2.2.2)]) (fun x24 => [(0, .box (eApiSite s_1)), (1, .box [.i x24.1, .i x24.2.1, .i x24.2.2.1, .sl 1 eI x24.2.2.2.1, .sl 1 eI x24.2.2.2.2.1, .o 2, .o 3, .o 4, .o 5, .o 6, .o 7, .o 8, .o 9, .o 10, .o 11, .o 12]), (2, .val (.os 5 eApiZone x24.2.2.2.2.2.1)), (3, .val (.os 2 eApiApart x24.2.2.2.2.2.2.1)), (4, .val (.os 2 eApiShelf x24.2.2.2.2.2.2.2.1)), (5, .val (.os 2 eApiStart x24.2.2.2.2.2.2.2.2.1)), (6, .val (.om kI veI x24.2.2.2.2.2.2.2.2.2.1)), (7, .val (.om kI veB x24.2.2.2.2.2.2.2.2.2.2.1)), (8, .val (.om kI veB x24.2.2.2.2.2.2.2.2.2.2.2.1)), (9, .val (.om kS veI x24.2.2.2.2.2.2.2.2.2.2.2.2.1)), (10, .val (.om kI veB x24.2.2.2.2.2.2.2.2.2.2.2.2.2.1)), (11, .val (.os 1 eI x24.2.2.2.2.2.2.2.2.2.2.2.2.2.2.1)), (12, .val (.os 1 eI x24.2.2.2.2.2.2.2.2.2.2.2.2.2.2.2.1))]) 13 g (fun x24 g => ?_) fun J25 g j25 => ?_
 refine C.nx ?_
 refine C.ite rfl g (fun b36 g => ?_) fun b36 g => ?_
 refine C.ss (U.pd 1 T (C.nx (C.ret (C.brt (C.rt (C.rt (C.brt (C.rt ?_))))))))
 exact C.f1 T o (pBi g)
 refine C.skip (C.bnx (C.nx (U.start (U.pd 2 T (C.nx ?_)))))
 exact St.wk (C.next g) (Wk.a (idR 13))
 refine U.start (U.ps 2 T rfl (U.k (T_survey_Name x23.Name _ g) en31 (fun x26 g => ?_)))
 refine U.ps 2 T rfl ?_
 refine g.cs (fun b27 g => ?_) fun b27 g => ?_
 refine U.pq 2 4 false 30 (ntF b27) T ?_
 refine U.k (T_survey_within x23.Speed 1 100 _ g) en32 (fun x28 g => ?_) (hw := .take 4 false 30 _ (ntF b27) rfl rfl rfl)
 refine U.pq 1 4 false 30 (ntF b27) T ?_
 refine U.pk' (ntF b27) ?_
 refine U.ps 1 T rfl ?_
 refine g.cs (fun b29 g => ?_) fun b29 g => ?_
 refine U.pq 3 10 false 36 (ntF b29) T ?_
 refine U.pk' (ntF b29) ?_
 refine U.ps 1 T rfl ?_
 refine g.cs (fun b30 g => ?_) fun b30 g => ?_
 refine U.sk' 4 15 false 41 b30 ?_
 refine U.pk b30 ?_
 refine U.ps 1 T rfl (U.sk' 5 21 false 47 rfl ?_)
 refine U.pk rfl ?_
 refine U.ps 1 T rfl (U.sk' 4 28 false 54 rfl ?_)
 refine U.pk rfl ?_
 refine U.done ?_
 exact St.wa (idR 13) (j25 _ g)
 refine U.pq 2 15 false 41 b30 T ?_
 refine U.k (T_survey_shut x23.Shut _ g) en33 (fun x31 g => ?_) (hw := .take 15 false 41 _ b30 rfl rfl rfl)
 refine U.pq 1 15 false 41 b30 T ?_
 refine U.pk' b30 ?_
 refine U.ps 1 T rfl ?_
 refine g.cs (fun b32 g => ?_) fun b32 g => ?_
 refine U.pq 3 21 false 47 (ntF b32) T ?_
 refine U.k (T_survey_maker_cells ({ site := ({ Floor := ({ W := s16.1, H := s16.2.1, D := s16.2.2.1, Kind := s16.2.2.2.1, Out := s16.2.2.2.2.1 : ApiFloor }), Zones := s16.2.2.2.2.2.1, Aparts := s16.2.2.2.2.2.2.1, Shelves := s16.2.2.2.2.2.2.2.1, Robots := s16.2.2.2.2.2.2.2.2.1 : ApiSite }), shelf := s16.2.2.2.2.2.2.2.2.2.1, robot := s16.2.2.2.2.2.2.2.2.2.2.1, zoned := s16.2.2.2.2.2.2.2.2.2.2.2.1, names := s16.2.2.2.2.2.2.2.2.2.2.2.2.1, oneways := s16.2.2.2.2.2.2.2.2.2.2.2.2.2.1, shelves := s16.2.2.2.2.2.2.2.2.2.2.2.2.2.2.1, zones := s16.2.2.2.2.2.2.2.2.2.2.2.2.2.2.2.1 : SurveyMaker }) x23.Cells _ g) en34 (fun x33 g => ?_) (hw := .take 21 false 47 _ (ntF b32) rfl rfl rfl)
 refine U.pq 1 21 false 47 (ntF b32) T ?_
 refine U.pk' (ntF b32) ?_
 refine U.ps 1 T rfl ?_
 refine g.cs (fun b34 g => ?_) fun b34 g => ?_
 refine U.pq 2 28 false 54 (ntF b34) T ?_
 refine U.c (sqR 1 12) (T_survey_maker_addZone__p0 x23 ({ site := ({ Floor := ({ W := s16.1, H := s16.2.1, D := s16.2.2.1, Kind := s16.2.2.2.1, Out := s16.2.2.2.2.1 : ApiFloor }), Zones := s16.2.2.2.2.2.1, Aparts := s16.2.2.2.2.2.2.1, Shelves := s16.2.2.2.2.2.2.2.1, Robots := s16.2.2.2.2.2.2.2.2.1 : ApiSite }), shelf := s16.2.2.2.2.2.2.2.2.2.1, robot := s16.2.2.2.2.2.2.2.2.2.2.1, zoned := s16.2.2.2.2.2.2.2.2.2.2.2.1, names := s16.2.2.2.2.2.2.2.2.2.2.2.2.1, oneways := s16.2.2.2.2.2.2.2.2.2.2.2.2.2.1, shelves := s16.2.2.2.2.2.2.2.2.2.2.2.2.2.2.1, zones := s16.2.2.2.2.2.2.2.2.2.2.2.2.2.2.2.1 : SurveyMaker }) _ g) en35 (fun x35 g => ?_) (hw := .take 28 false 54 _ (ntF b34) rfl rfl rfl)
 refine U.pq 1 28 false 54 (ntF b34) T ?_
 refine U.pk' (ntF b34) ?_
 refine U.done ?_
 exact St.wa [some 0, some 1, some 26, some 27, some 28, some 29, some 30, some 31, some 32, some 33, some 34, some 35, some 36] (j25 _ g)
 refine U.sk' 4 28 false 54 (ntT b34) ?_
 refine U.pk (ntT b34) ?_
 refine U.done ?_
 exact St.wa (idR 13) (j25 _ g)
 refine U.sk' 5 21 false 47 (ntT b32) ?_
 refine U.pk (ntT b32) ?_
 refine U.ps 1 T rfl (U.sk' 4 28 false 54 rfl ?_)
 refine U.pk rfl ?_
 refine U.done ?_
 exact St.wa (idR 13) (j25 _ g)
 refine U.sk' 3 10 false 36 (ntT b29) ?_
 refine U.pk (ntT b29) ?_
 refine U.ps 1 T rfl (U.sk' 4 15 false 41 rfl ?_)
 refine U.pk rfl ?_
 refine U.ps 1 T rfl (U.sk' 5 21 false 47 rfl ?_)
 refine U.pk rfl ?_
 refine U.ps 1 T rfl (U.sk' 4 28 false 54 rfl ?_)
 refine U.pk rfl ?_
 refine U.done ?_
 exact St.wa (idR 13) (j25 _ g)
 refine U.sk' 4 4 false 30 (ntT b27) ?_
 refine U.pk (ntT b27) ?_
 refine U.ps 1 T rfl (U.sk' 3 10 false 36 rfl ?_)
 refine U.pk rfl ?_
 refine U.ps 1 T rfl (U.sk' 4 15 false 41 rfl ?_)
 refine U.pk rfl ?_
 refine U.ps 1 T rfl (U.sk' 5 21 false 47 rfl ?_)
 refine U.pk rfl ?_
 refine U.ps 1 T rfl (U.sk' 4 28 false 54 rfl ?_)
 refine U.pk rfl ?_
 refine U.done ?_
 exact St.wa (idR 13) (j25 _ g)
 refine C.exit (C.ex (C.ex (C.bex ?_)))
 exact St.wa (idR 13) (j15 _ g)
theorem T_taquinlaw33_fits (s_1 : ApiSite) (n : Int) (post : Bool → Prop) (g : V_taquinlaw33_fits s_1 n post) :
    Tr Try.prog 6 [.agg (eApiSite s_1), .i n] [] 0 (pB post) := by
 refine Tr.go Try.func6 Try.ntmps6 fun _ _ _ _ o => ?_
 unfold V_taquinlaw33_fits at g
 refine C.ss (U.bx ?_)
 refine U.pd 1 T (C.xs ?_)
 refine C.jn (fun (x3 : Bool) => [(4, .b x3)]) (fun x3 => []) 0 g (fun x3 g => ?_) fun J4 g j4 => ?_
 refine C.nx (C.ret ?_)
 exact C.f1 T o (pBi g)
 refine U.start (U.ps 2 T rfl (U.k (T_taquinref11_Few s_1 n 20 _ g) en16 (fun x5 g => ?_)))
 refine U.ps 1 T rfl ?_
 refine g.cs (fun b6 g => ?_) fun b6 g => ?_
 refine U.pq 1 3 true 8 b6 T ?_
 refine U.k (T_survey_Right s_1 _ g) en17 (fun x7 g => ?_) (hw := .take 3 true 8 _ b6 rfl rfl rfl)
 refine U.pk b6 ?_
 refine U.pd 1 T ?_
 exact St.wn (j4 _ g)
 refine U.sk' 2 3 true 8 b6 ?_
 refine U.pk' b6 ?_
 refine U.pd 1 T ?_
 exact St.wn (j4 _ g)
theorem T_taquinref07_Has (l : List Int) (n : Int) (post : Bool → Prop) (g : V_taquinref07_Has l n post) :
    Tr Try.prog 9 [.sl 1 eI l, .i n] [] 0 (pB post) := by
 refine Tr.go Try.func9 Try.ntmps9 fun _ _ _ _ o => ?_
 unfold V_taquinref07_Has at g
 refine C.ss (U.pd 1 T (C.xs (C.ss ?_)))
 refine U.pd 1 T (C.nx ?_)
 refine C.jn (fun (x5 : Unit) => []) (fun x5 => []) 0 g (fun x5 g => ?_) fun J6 g j6 => ?_
 refine C.xt (U.pd 1 T (C.nx (C.ret ?_)))
 exact C.f1 T o (pBi g)
 refine C.block (St.wk (C.loop (fun (s7 : Int) => [(0, .sl 1 eI l), (1, .i n), (5, .i s7)]) (fun s7 => []) g (fun s7 Y8 g => ?_)) (Wk.e))
 refine C.seq (C.ss (U.pd 4 T (C.nx ?_)))
 refine C.ite rfl g (fun b11 g => ?_) fun b11 g => ?_
 refine C.skip (C.xs (C.block (C.ss (U.ps 2 T rfl ?_))))
 obtain ⟨x14, y14, g⟩ := g
 refine U.ix T y14 ?_
 refine U.pd 3 T (C.nx ?_)
 refine C.ite rfl g (fun b15 g => ?_) fun b15 g => ?_
 refine C.ss (U.pd 1 T (C.nx (C.ret (C.brt (C.rt (C.rt (C.brt (C.rt ?_))))))))
 exact C.f1 T o (pBi g)
 refine C.skip (C.bnx (C.nx (U.start (U.pd 3 T (C.nx ?_)))))
 exact St.wk (C.next g) (Wk.e)
 refine C.exit (C.ex (C.ex (C.bex ?_)))
 exact St.wk (j6 _ g) (Wk.mk' [] rfl rfl trivial trivial rfl)
abbrev cE12 (blocked : List Int) : Nat × AVal := (1, .sl 1 eI blocked)
abbrev cE13 (s_1 : ApiSite) : Nat × AVal := (140, .agg (eApiSite s_1))
abbrev cE14 (delay : Int) : Nat × AVal := (143, .i (w64 (delay + 1)))
abbrev cE15 (s_1 : ApiSite) : Nat × AVal := (145, .agg (eApiSite s_1))
abbrev cE16 (s_1 : ApiSite) : Nat × Res := (0, .box (eApiSite s_1))
abbrev cE17 (s_1 : ApiSite) : Nat × AVal := (91, .agg (eApiSite s_1))
theorem T_taquinlaw33_ReachNeeds (s_1 : ApiSite) (blocked : List Int) (more : Int) (delay : Int) (post : Bool → Prop) (g : V_taquinlaw33_ReachNeeds s_1 blocked more delay post) :
    Tr Try.prog 4 [.agg (eApiSite s_1), .sl 1 eI blocked, .i more, .i delay] [] 0 (pB post) := by
 refine Tr.go Try.func4 Try.ntmps4 fun _ _ _ _ o => ?_
 unfold V_taquinlaw33_ReachNeeds at g
 refine C.ss (U.bx ?_)
 refine U.pd 1 T (C.xt ?_)
 refine U.k (T_taquinlaw33_small _ g) en5 fun x5 g => ?_
 refine U.pd 1 T (C.xs (C.seq ?_))
 refine C.jn (fun (x6 : Bool) => [(1, .sl 1 eI blocked), (2, .i more), (3, .i delay), (4, .p 0 0), (9, .b x5), (36, .b x6)]) (fun x6 => [(0, .box (eApiSite s_1))]) 1 g (fun x6 g => ?_) fun J7 g j7 => ?_
 refine C.nx ?_
 refine C.ite rfl g (fun b12 g => ?_) fun b12 g => ?_
 refine C.ss (U.pd 2 T (C.nx (C.ret (C.rt ?_))))
 exact C.f1 T o (pBi g)
 refine C.skip (C.xt (U.ps 3 T rfl (U.k (T_reach_Needs s_1 blocked delay _ g) en11 (fun x17 g => ?_))))
 refine U.pd 1 T (C.xt ?_)
 refine U.ps 2 T rfl (U.k (T_reach_Fuel s_1 blocked _ g) en7 (fun x20 g => ?_))
 refine U.pd 1 T (C.xs (C.ss ?_))
 refine U.pd 5 T (C.nx ?_)
 refine C.ite rfl g (fun b23 g => ?_) fun b23 g => ?_
 refine C.ss (U.pd 1 T (C.nx (C.ret (C.rt ?_))))
 exact C.f1 T o (pBi g)
 refine C.skip (C.xt (U.ps 2 T rfl ?_))
 obtain ⟨y28, g⟩ := g
 refine U.e1 rfl (.none rfl) (by exact Eff1.mk T (enc := eI) (z0 := 0) rfl rfl rfl rfl rfl rfl rfl rfl rfl rfl y28) ?_
 refine U.pd 1 T (C.xs (C.ss ?_))
 refine U.pd 1 T (C.nx ?_)
 refine C.jn (fun (x31 : List Int) => [(1, .sl 1 eI blocked), (2, .i more), (3, .i delay), (4, .p 0 0), (9, .b x5), (10, .o 1), (11, .o 2), (12, .o 3)]) (fun x31 => [(0, .box (eApiSite s_1)), (1, .val (.os 1 eI x17)), (2, .val (.os 1 eI x20)), (3, .val (.os 1 eI x31))]) 4 g (fun x31 g => ?_) fun J32 g j32 => ?_
 refine C.xs (C.ss (U.pd 1 T (C.nx ?_)))
 refine C.jn (fun (x54 : List Int) => [(1, .sl 1 eI blocked), (2, .i more), (3, .i delay), (4, .p 0 0), (9, .b x5), (10, .o 1), (11, .o 2), (12, .o 3)]) (fun x54 => [(0, .box (eApiSite s_1)), (1, .val (.os 1 eI x17)), (2, .val (.os 1 eI x20)), (3, .val (.os 1 eI x54))]) 4 g (fun x54 g => ?_) fun J55 g j55 => ?_
 refine C.xt (U.ps 4 T rfl (U.k (T_reach_Needs s_1 blocked (w64 (delay + 1)) _ g) en11 (fun x108 g => ?_)))
 refine U.pd 1 T (C.xs ?_)
 refine D.bg mix 9999 [0] [5, 6, 7] (fun hQ hS ws M' => ?_)
 refine D.pq 4 (zl [0, 2, 4, 7]) T ?_
 obtain ⟨y111, g⟩ := g
 refine D.have false [cE12 blocked, (2, .i more), (3, .i delay), (4, .p 0 0), (9, .b x5), (10, .o 1), (11, .o 2), (12, .o 3), (17, .o 4), cE13 s_1, (141, .sl 1 eI blocked), (142, .i delay), cE14 delay, (144, .o 4), cE15 s_1, (146, .o 5), (147, .sl 1 eI blocked), (148, .o 6), (149, .i more), (150, .o 7), (152, .i delay)] [cE16 s_1, (1, .val (.os 1 eI x17)), (2, .val (.os 1 eI x20)), (3, .val (.os 1 eI x54)), (4, .val (.os 1 eI x108)), (6, .val (.os 1 eI (([] : List Int) ++ blocked))), (7, .val (.os 1 eI ([more] : List Int)))] 8 3 (bvA 10 [6, 8, 9]) ?_ fun hd110_5 => ?_
 obtain ⟨y112, g⟩ := g
 refine D.e1 6 rfl (.none rfl) (by exact Eff1.ap T rfl rfl rfl rfl rfl rfl (.inr ⟨_, rfl, rfl⟩) rfl rfl rfl (fun _ => rfl) rfl y112) (by kernel_rfl) rfl rfl ?_
 refine D.k 8 (T_reach_Needs s_1 ((([] : List Int) ++ blocked) ++ ([more] : List Int)) delay _ g) en11 fun x113 g => ?_
 refine D.pq 1 [(9, [])] T ?_
 refine D.done (by kernel_rfl) ?_
 refine C.xs (C.ss (U.pd 1 T (C.nx ?_)))
 refine C.jn (fun (x116 : Unit) => [(9, .b x5)]) (fun x116 => []) 0 g (fun x116 g => ?_) fun J117 g j117 => ?_
 refine C.xt (U.pd 2 T (C.nx (C.ret ?_)))
 exact C.f1 T o (pBi g)
 refine C.block (St.wk (C.loop (fun (s118 : Int) => [(2, .i more), (9, .b x5), (10, .o 0), (11, .o 1), (12, .o 2), (17, .o 3), (18, .o 4), (19, .i s118)]) (fun s118 => [(0, .val (.os 1 eI x17)), (1, .val (.os 1 eI x20)), (2, .val (.os 1 eI x54)), (3, .val (.os 1 eI x108)), (4, .val (.os 1 eI x113))]) g (fun s118 Y119 g => ?_)) (Wk.a [some 1, some 2, some 3, some 4, some 9]))
 refine C.seq (C.ss (U.pd 4 T (C.nx ?_)))
 refine C.ite rfl g (fun b122 g => ?_) fun b122 g => ?_
 refine C.skip (C.xs (C.block (C.seq ?_)))
 refine C.jn (fun (x123 : Bool) => [(2, .i more), (9, .b x5), (10, .o 0), (11, .o 1), (12, .o 2), (17, .o 3), (18, .o 4), (19, .i s118), (235, .b x123)]) (fun x123 => [(0, .val (.os 1 eI x17)), (1, .val (.os 1 eI x20)), (2, .val (.os 1 eI x54)), (3, .val (.os 1 eI x108)), (4, .val (.os 1 eI x113))]) 5 g (fun x123 g => ?_) fun J124 g j124 => ?_
 refine C.nx ?_
 refine C.ite rfl g (fun b148 g => ?_) fun b148 g => ?_
 refine C.ss (U.pd 1 T (C.nx (C.ret (C.brt (C.rt (C.rt (C.brt (C.rt ?_))))))))
 exact C.f1 T o (pBi g)
 refine C.skip (C.bnx (C.nx (U.start (U.pd 3 T (C.nx ?_)))))
 exact St.wk (C.next g) (Wk.a (idR 5))
 refine D.bg mix 9999 [0, 2, 3, 4] [] (fun hQ hS ws M' => ?_)
 refine D.pq 2 (zl [0, 1]) T ?_
 obtain ⟨x125, y125, g⟩ := g
 refine D.q 2 [] hQ hS rfl (.none rfl) rfl rfl (by exact Rd.io T rfl rfl rfl rfl rfl rfl rfl y125) rfl (by kernel_rfl) ?_
 refine D.q 3 [] hQ hS rfl (.none rfl) rfl rfl (by exact Rd.le T rfl rfl rfl (idx_some y125).2.2 rfl rfl rfl) rfl (by kernel_rfl) ?_
 refine D.pq 2 (zl [4, 5]) T ?_
 obtain ⟨x126, y126, g⟩ := g
 refine D.q 6 [] hQ hS rfl (.none rfl) rfl rfl (by exact Rd.io T rfl rfl rfl rfl rfl rfl rfl y126) rfl (by kernel_rfl) ?_
 refine D.q 7 [] hQ hS rfl (.none rfl) rfl rfl (by exact Rd.le T rfl rfl rfl (idx_some y126).2.2 rfl rfl rfl) rfl (by kernel_rfl) ?_
 refine D.pq 2 (zl [8, 9]) T ?_
 refine g.cs (fun b127 g => ?_) fun b127 g => ?_
 refine D.sz 10 [] 9 false 169 b127 ?_
 refine D.sz 11 [] 9 false 169 b127 ?_
 refine D.sz 12 [] 9 false 169 b127 ?_
 refine D.sz 13 [] 9 false 169 b127 ?_
 refine D.sz 14 [] 9 false 169 b127 ?_
 refine D.sz 15 [] 9 false 169 b127 ?_
 refine D.sx 16 [] hQ hS (.und 15 true 175 rfl rfl rfl) ?_
 refine D.sx 17 [] hQ hS (.und 15 true 175 rfl rfl rfl) ?_
 refine D.sx 18 [] hQ hS (.und 15 true 175 rfl rfl rfl) ?_
 refine D.sx 19 [] hQ hS (.und 15 true 175 rfl rfl rfl) ?_
 refine D.sx 20 [] hQ hS (.und 15 true 175 rfl rfl rfl) ?_
 refine D.sx 21 [] hQ hS (.und 15 true 175 rfl rfl rfl) ?_
 refine D.sx 22 [] hQ hS (.und 15 true 175 rfl rfl rfl) ?_
 refine D.sx 23 [] hQ hS (.und 15 true 175 rfl rfl rfl) ?_
 refine D.sx 24 [] hQ hS (.und 15 true 175 rfl rfl rfl) ?_
 refine D.sz 25 [] 9 false 169 b127 ?_
 refine D.kt 26 [] b127 ?_
 refine D.pq 1 [(27, [])] T ?_
 refine D.sz 28 [] 27 false 187 rfl ?_
 refine D.sz 29 [] 27 false 187 rfl ?_
 refine D.sz 30 [] 27 false 187 rfl ?_
 refine D.sz 31 [] 27 false 187 rfl ?_
 refine D.sz 32 [] 27 false 187 rfl ?_
 refine D.sz 33 [] 27 false 187 rfl ?_
 refine D.sx 34 [] hQ hS (.und 33 true 193 rfl rfl rfl) ?_
 refine D.sx 35 [] hQ hS (.und 33 true 193 rfl rfl rfl) ?_
 refine D.sx 36 [] hQ hS (.und 33 true 193 rfl rfl rfl) ?_
 refine D.sx 37 [] hQ hS (.und 33 true 193 rfl rfl rfl) ?_
 refine D.sx 38 [] hQ hS (.und 33 true 193 rfl rfl rfl) ?_
 refine D.sx 39 [] hQ hS (.und 33 true 193 rfl rfl rfl) ?_
 refine D.sx 40 [] hQ hS (.und 39 false 199 rfl rfl rfl) ?_
 refine D.sx 41 [] hQ hS (.und 39 false 199 rfl rfl rfl) ?_
 refine D.sx 42 [] hQ hS (.und 39 false 199 rfl rfl rfl) ?_
 refine D.sx 43 [] hQ hS (.und 39 false 199 rfl rfl rfl) ?_
 refine D.sx 44 [] hQ hS (.und 39 false 199 rfl rfl rfl) ?_
 refine D.sx 45 [] hQ hS (.und 39 false 199 rfl rfl rfl) ?_
 refine D.sx 46 [] hQ hS (.und 45 true 205 rfl rfl rfl) ?_
 refine D.sx 47 [] hQ hS (.und 45 true 205 rfl rfl rfl) ?_
 refine D.sx 48 [] hQ hS (.und 45 true 205 rfl rfl rfl) ?_
 refine D.sx 49 [] hQ hS (.und 39 false 199 rfl rfl rfl) ?_
 refine D.sx 50 [] hQ hS (.und 33 true 193 rfl rfl rfl) ?_
 refine D.sz 51 [] 27 false 187 rfl ?_
 refine D.kt 52 [] rfl ?_
 refine D.pq 1 [(53, [])] T ?_
 refine D.sz 54 [] 53 false 213 rfl ?_
 refine D.sz 55 [] 53 false 213 rfl ?_
 refine D.sz 56 [] 53 false 213 rfl ?_
 refine D.sz 57 [] 53 false 213 rfl ?_
 refine D.sz 58 [] 53 false 213 rfl ?_
 refine D.sz 59 [] 53 false 213 rfl ?_
 refine D.sx 60 [] hQ hS (.und 59 true 219 rfl rfl rfl) ?_
 refine D.sx 61 [] hQ hS (.und 59 true 219 rfl rfl rfl) ?_
 refine D.sx 62 [] hQ hS (.und 59 true 219 rfl rfl rfl) ?_
 refine D.sz 63 [] 53 false 213 rfl ?_
 refine D.sz 64 [] 53 false 213 rfl ?_
 refine D.sx 65 [] hQ hS (.und 64 true 224 rfl rfl rfl) ?_
 refine D.sx 66 [] hQ hS (.und 64 true 224 rfl rfl rfl) ?_
 refine D.sx 67 [] hQ hS (.und 64 true 224 rfl rfl rfl) ?_
 refine D.sx 68 [] hQ hS (.und 64 true 224 rfl rfl rfl) ?_
 refine D.sx 69 [] hQ hS (.und 64 true 224 rfl rfl rfl) ?_
 refine D.sx 70 [] hQ hS (.und 64 true 224 rfl rfl rfl) ?_
 refine D.sx 71 [] hQ hS (.und 64 true 224 rfl rfl rfl) ?_
 refine D.sx 72 [] hQ hS (.und 64 true 224 rfl rfl rfl) ?_
 refine D.sx 73 [] hQ hS (.und 64 true 224 rfl rfl rfl) ?_
 refine D.sz 74 [] 53 false 213 rfl ?_
 refine D.kt 75 [] rfl ?_
 refine D.done (by kernel_rfl) ?_
 exact St.wa (idR 5) (j124 _ g)
 refine D.pt 10 [] 9 false 169 b127 T ?_
 refine D.pt 11 [] 9 false 169 b127 T ?_
 refine D.q 12 [] hQ hS rfl (.tk 9 false 169 b127) rfl rfl (by exact Rd.io T rfl rfl rfl rfl rfl rfl rfl y125) rfl (by kernel_rfl) ?_
 refine D.q 13 [] hQ hS rfl (.tk 9 false 169 b127) rfl rfl (by exact Rd.le T rfl rfl rfl (idx_some y125).2.2 rfl rfl rfl) rfl (by kernel_rfl) ?_
 refine D.pt 14 [] 9 false 169 b127 T ?_
 refine D.pt 15 [] 9 false 169 b127 T ?_
 refine g.cs (fun b128 g => ?_) fun b128 g => ?_
 refine D.pt 16 [] 15 true 175 b128 T ?_
 refine D.pt 17 [] 15 true 175 b128 T ?_
 obtain ⟨x129, y129, g⟩ := g
 refine D.q 18 [] hQ hS rfl (.tk 15 true 175 b128) rfl rfl (by exact Rd.io T rfl rfl rfl rfl rfl rfl rfl y129) rfl (by kernel_rfl) ?_
 refine D.q 19 [] hQ hS rfl (.tk 15 true 175 b128) rfl rfl (by exact Rd.le T rfl rfl rfl (idx_some y129).2.2 rfl rfl rfl) rfl (by kernel_rfl) ?_
 refine D.pt 20 [] 15 true 175 b128 T ?_
 refine D.pt 21 [] 15 true 175 b128 T ?_
 refine D.q 22 [] hQ hS rfl (.tk 15 true 175 b128) rfl rfl (by exact Rd.io T rfl rfl rfl rfl rfl rfl rfl y125) rfl (by kernel_rfl) ?_
 refine D.q 23 [] hQ hS rfl (.tk 15 true 175 b128) rfl rfl (by exact Rd.le T rfl rfl rfl (idx_some y125).2.2 rfl rfl rfl) rfl (by kernel_rfl) ?_
 refine D.pt 24 [] 15 true 175 b128 T ?_
 refine D.q 25 [] hQ hS rfl (.tk 9 false 169 b127) rfl rfl (by exact Rd.pk rfl rfl b128 rfl) rfl (by kernel_rfl) ?_
 refine D.kf 26 [] b127 ?_
 refine D.pq 1 [(27, [])] T ?_
 refine g.cs (fun b130 g => ?_) fun b130 g => ?_
 refine D.sz 28 [] 27 false 187 b130 ?_
 refine D.sz 29 [] 27 false 187 b130 ?_
 refine D.sz 30 [] 27 false 187 b130 ?_
 refine D.sz 31 [] 27 false 187 b130 ?_
 refine D.sz 32 [] 27 false 187 b130 ?_
 refine D.sz 33 [] 27 false 187 b130 ?_
 refine D.sx 34 [] hQ hS (.und 33 true 193 rfl rfl rfl) ?_
 refine D.sx 35 [] hQ hS (.und 33 true 193 rfl rfl rfl) ?_
 refine D.sx 36 [] hQ hS (.und 33 true 193 rfl rfl rfl) ?_
 refine D.sx 37 [] hQ hS (.und 33 true 193 rfl rfl rfl) ?_
 refine D.sx 38 [] hQ hS (.und 33 true 193 rfl rfl rfl) ?_
 refine D.sx 39 [] hQ hS (.und 33 true 193 rfl rfl rfl) ?_
 refine D.sx 40 [] hQ hS (.und 39 false 199 rfl rfl rfl) ?_
 refine D.sx 41 [] hQ hS (.und 39 false 199 rfl rfl rfl) ?_
 refine D.sx 42 [] hQ hS (.und 39 false 199 rfl rfl rfl) ?_
 refine D.sx 43 [] hQ hS (.und 39 false 199 rfl rfl rfl) ?_
 refine D.sx 44 [] hQ hS (.und 39 false 199 rfl rfl rfl) ?_
 refine D.sx 45 [] hQ hS (.und 39 false 199 rfl rfl rfl) ?_
 refine D.sx 46 [] hQ hS (.und 45 true 205 rfl rfl rfl) ?_
 refine D.sx 47 [] hQ hS (.und 45 true 205 rfl rfl rfl) ?_
 refine D.sx 48 [] hQ hS (.und 45 true 205 rfl rfl rfl) ?_
 refine D.sx 49 [] hQ hS (.und 39 false 199 rfl rfl rfl) ?_
 refine D.sx 50 [] hQ hS (.und 33 true 193 rfl rfl rfl) ?_
 refine D.sz 51 [] 27 false 187 b130 ?_
 refine D.kt 52 [] b130 ?_
 refine D.pq 1 [(53, [])] T ?_
 refine D.sz 54 [] 53 false 213 rfl ?_
 refine D.sz 55 [] 53 false 213 rfl ?_
 refine D.sz 56 [] 53 false 213 rfl ?_
 refine D.sz 57 [] 53 false 213 rfl ?_
 refine D.sz 58 [] 53 false 213 rfl ?_
 refine D.sz 59 [] 53 false 213 rfl ?_
 refine D.sx 60 [] hQ hS (.und 59 true 219 rfl rfl rfl) ?_
 refine D.sx 61 [] hQ hS (.und 59 true 219 rfl rfl rfl) ?_
 refine D.sx 62 [] hQ hS (.und 59 true 219 rfl rfl rfl) ?_
 refine D.sz 63 [] 53 false 213 rfl ?_
 refine D.sz 64 [] 53 false 213 rfl ?_
 refine D.sx 65 [] hQ hS (.und 64 true 224 rfl rfl rfl) ?_
 refine D.sx 66 [] hQ hS (.und 64 true 224 rfl rfl rfl) ?_
 refine D.sx 67 [] hQ hS (.und 64 true 224 rfl rfl rfl) ?_
 refine D.sx 68 [] hQ hS (.und 64 true 224 rfl rfl rfl) ?_
 refine D.sx 69 [] hQ hS (.und 64 true 224 rfl rfl rfl) ?_
 refine D.sx 70 [] hQ hS (.und 64 true 224 rfl rfl rfl) ?_
 refine D.sx 71 [] hQ hS (.und 64 true 224 rfl rfl rfl) ?_
 refine D.sx 72 [] hQ hS (.und 64 true 224 rfl rfl rfl) ?_
 refine D.sx 73 [] hQ hS (.und 64 true 224 rfl rfl rfl) ?_
 refine D.sz 74 [] 53 false 213 rfl ?_
 refine D.kt 75 [] rfl ?_
 refine D.done (by kernel_rfl) ?_
 exact St.wa (idR 5) (j124 _ g)
 refine D.pt 28 [] 27 false 187 b130 T ?_
 refine D.pt 29 [] 27 false 187 b130 T ?_
 refine D.q 30 [] hQ hS rfl (.tk 27 false 187 b130) rfl rfl (by exact Rd.io T rfl rfl rfl rfl rfl rfl rfl y125) rfl (by kernel_rfl) ?_
 refine D.q 31 [] hQ hS rfl (.tk 27 false 187 b130) rfl rfl (by exact Rd.le T rfl rfl rfl (idx_some y125).2.2 rfl rfl rfl) rfl (by kernel_rfl) ?_
 refine D.pt 32 [] 27 false 187 b130 T ?_
 refine D.pt 33 [] 27 false 187 b130 T ?_
 refine g.cs (fun b131 g => ?_) fun b131 g => ?_
 refine D.pt 34 [] 33 true 193 b131 T ?_
 refine D.pt 35 [] 33 true 193 b131 T ?_
 refine D.q 36 [] hQ hS rfl (.tk 33 true 193 b131) rfl rfl (by exact Rd.io T rfl rfl rfl rfl rfl rfl rfl y129) rfl (by kernel_rfl) ?_
 refine D.q 37 [] hQ hS rfl (.tk 33 true 193 b131) rfl rfl (by exact Rd.le T rfl rfl rfl (idx_some y129).2.2 rfl rfl rfl) rfl (by kernel_rfl) ?_
 refine D.pt 38 [] 33 true 193 b131 T ?_
 refine D.pt 39 [] 33 true 193 b131 T ?_
 refine g.cs (fun b132 g => ?_) fun b132 g => ?_
 refine D.sz 40 [] 39 false 199 b132 ?_
 refine D.sz 41 [] 39 false 199 b132 ?_
 refine D.sz 42 [] 39 false 199 b132 ?_
 refine D.sz 43 [] 39 false 199 b132 ?_
 refine D.sz 44 [] 39 false 199 b132 ?_
 refine D.sz 45 [] 39 false 199 b132 ?_
 refine D.sx 46 [] hQ hS (.und 45 true 205 rfl rfl rfl) ?_
 refine D.sx 47 [] hQ hS (.und 45 true 205 rfl rfl rfl) ?_
 refine D.sx 48 [] hQ hS (.und 45 true 205 rfl rfl rfl) ?_
 refine D.sz 49 [] 39 false 199 b132 ?_
 refine D.q 50 [] hQ hS rfl (.tk 33 true 193 b131) rfl rfl (by exact Rd.pk rfl rfl b132 rfl) rfl (by kernel_rfl) ?_
 refine D.q 51 [] hQ hS rfl (.tk 27 false 187 b130) rfl rfl (by exact Rd.pk rfl rfl b131 rfl) rfl (by kernel_rfl) ?_
 refine D.kf 52 [] b130 ?_
 refine D.pq 1 [(53, [])] T ?_
 refine D.sz 54 [] 53 false 213 rfl ?_
 refine D.sz 55 [] 53 false 213 rfl ?_
 refine D.sz 56 [] 53 false 213 rfl ?_
 refine D.sz 57 [] 53 false 213 rfl ?_
 refine D.sz 58 [] 53 false 213 rfl ?_
 refine D.sz 59 [] 53 false 213 rfl ?_
 refine D.sx 60 [] hQ hS (.und 59 true 219 rfl rfl rfl) ?_
 refine D.sx 61 [] hQ hS (.und 59 true 219 rfl rfl rfl) ?_
 refine D.sx 62 [] hQ hS (.und 59 true 219 rfl rfl rfl) ?_
 refine D.sz 63 [] 53 false 213 rfl ?_
 refine D.sz 64 [] 53 false 213 rfl ?_
 refine D.sx 65 [] hQ hS (.und 64 true 224 rfl rfl rfl) ?_
 refine D.sx 66 [] hQ hS (.und 64 true 224 rfl rfl rfl) ?_
 refine D.sx 67 [] hQ hS (.und 64 true 224 rfl rfl rfl) ?_
 refine D.sx 68 [] hQ hS (.und 64 true 224 rfl rfl rfl) ?_
 refine D.sx 69 [] hQ hS (.und 64 true 224 rfl rfl rfl) ?_
 refine D.sx 70 [] hQ hS (.und 64 true 224 rfl rfl rfl) ?_
 refine D.sx 71 [] hQ hS (.und 64 true 224 rfl rfl rfl) ?_
 refine D.sx 72 [] hQ hS (.und 64 true 224 rfl rfl rfl) ?_
 refine D.sx 73 [] hQ hS (.und 64 true 224 rfl rfl rfl) ?_
 refine D.sz 74 [] 53 false 213 rfl ?_
 refine D.kt 75 [] rfl ?_
 refine D.done (by kernel_rfl) ?_
 exact St.wa (idR 5) (j124 _ g)
 refine D.pt 40 [] 39 false 199 b132 T ?_
 refine D.pt 41 [] 39 false 199 b132 T ?_
 obtain ⟨x133, y133, g⟩ := g
 refine D.q 42 [] hQ hS rfl (.tk 39 false 199 b132) rfl rfl (by exact Rd.io T rfl rfl rfl rfl rfl rfl rfl y133) rfl (by kernel_rfl) ?_
 refine D.q 43 [] hQ hS rfl (.tk 39 false 199 b132) rfl rfl (by exact Rd.le T rfl rfl rfl (idx_some y133).2.2 rfl rfl rfl) rfl (by kernel_rfl) ?_
 refine D.pt 44 [] 39 false 199 b132 T ?_
 refine D.pt 45 [] 39 false 199 b132 T ?_
 refine g.cs (fun b134 g => ?_) fun b134 g => ?_
 refine D.pt 46 [] 45 true 205 b134 T ?_
 refine D.pt 47 [] 45 true 205 b134 T ?_
 refine D.pt 48 [] 45 true 205 b134 T ?_
 refine D.q 49 [] hQ hS rfl (.tk 39 false 199 b132) rfl rfl (by exact Rd.pk rfl rfl b134 rfl) rfl (by kernel_rfl) ?_
 refine D.q 50 [] hQ hS rfl (.tk 33 true 193 b131) rfl rfl (by exact Rd.pk' rfl rfl b132 rfl) rfl (by kernel_rfl) ?_
 refine D.q 51 [] hQ hS rfl (.tk 27 false 187 b130) rfl rfl (by exact Rd.pk rfl rfl b131 rfl) rfl (by kernel_rfl) ?_
 refine D.kf 52 [] b130 ?_
 refine D.pq 1 [(53, [])] T ?_
 refine g.cs (fun b135 g => ?_) fun b135 g => ?_
 refine D.sz 54 [] 53 false 213 b135 ?_
 refine D.sz 55 [] 53 false 213 b135 ?_
 refine D.sz 56 [] 53 false 213 b135 ?_
 refine D.sz 57 [] 53 false 213 b135 ?_
 refine D.sz 58 [] 53 false 213 b135 ?_
 refine D.sz 59 [] 53 false 213 b135 ?_
 refine D.sx 60 [] hQ hS (.und 59 true 219 rfl rfl rfl) ?_
 refine D.sx 61 [] hQ hS (.und 59 true 219 rfl rfl rfl) ?_
 refine D.sx 62 [] hQ hS (.und 59 true 219 rfl rfl rfl) ?_
 refine D.sz 63 [] 53 false 213 b135 ?_
 refine D.sz 64 [] 53 false 213 b135 ?_
 refine D.sx 65 [] hQ hS (.und 64 true 224 rfl rfl rfl) ?_
 refine D.sx 66 [] hQ hS (.und 64 true 224 rfl rfl rfl) ?_
 refine D.sx 67 [] hQ hS (.und 64 true 224 rfl rfl rfl) ?_
 refine D.sx 68 [] hQ hS (.und 64 true 224 rfl rfl rfl) ?_
 refine D.sx 69 [] hQ hS (.und 64 true 224 rfl rfl rfl) ?_
 refine D.sx 70 [] hQ hS (.und 64 true 224 rfl rfl rfl) ?_
 refine D.sx 71 [] hQ hS (.und 64 true 224 rfl rfl rfl) ?_
 refine D.sx 72 [] hQ hS (.und 64 true 224 rfl rfl rfl) ?_
 refine D.sx 73 [] hQ hS (.und 64 true 224 rfl rfl rfl) ?_
 refine D.sz 74 [] 53 false 213 b135 ?_
 refine D.kt 75 [] b135 ?_
 refine D.done (by kernel_rfl) ?_
 exact St.wa (idR 5) (j124 _ g)
 refine D.pt 54 [] 53 false 213 b135 T ?_
 refine D.pt 55 [] 53 false 213 b135 T ?_
 refine D.q 56 [] hQ hS rfl (.tk 53 false 213 b135) rfl rfl (by exact Rd.io T rfl rfl rfl rfl rfl rfl rfl y133) rfl (by kernel_rfl) ?_
 refine D.q 57 [] hQ hS rfl (.tk 53 false 213 b135) rfl rfl (by exact Rd.le T rfl rfl rfl (idx_some y133).2.2 rfl rfl rfl) rfl (by kernel_rfl) ?_
 refine D.pt 58 [] 53 false 213 b135 T ?_
 refine D.pt 59 [] 53 false 213 b135 T ?_
 refine D.pt 60 [] 59 true 219 b134 T ?_
 refine D.pt 61 [] 59 true 219 b134 T ?_
 refine D.pt 62 [] 59 true 219 b134 T ?_
 refine D.q 63 [] hQ hS rfl (.tk 53 false 213 b135) rfl rfl (by exact Rd.pk rfl rfl b134 rfl) rfl (by kernel_rfl) ?_
 refine D.pt 64 [] 53 false 213 b135 T ?_
 refine D.sz 65 [] 64 true 224 b135 ?_
 refine D.sz 66 [] 64 true 224 b135 ?_
 refine D.sz 67 [] 64 true 224 b135 ?_
 refine D.sz 68 [] 64 true 224 b135 ?_
 refine D.sz 69 [] 64 true 224 b135 ?_
 refine D.sz 70 [] 64 true 224 b135 ?_
 refine D.sz 71 [] 64 true 224 b135 ?_
 refine D.sz 72 [] 64 true 224 b135 ?_
 refine D.sz 73 [] 64 true 224 b135 ?_
 refine D.q 74 [] hQ hS rfl (.tk 53 false 213 b135) rfl rfl (by exact Rd.pk' rfl rfl b135 rfl) rfl (by kernel_rfl) ?_
 refine D.kf 75 [] b135 ?_
 refine D.done (by kernel_rfl) ?_
 exact St.wa (idR 5) (j124 _ g)
 refine D.sz 46 [] 45 true 205 b134 ?_
 refine D.sz 47 [] 45 true 205 b134 ?_
 refine D.sz 48 [] 45 true 205 b134 ?_
 refine D.q 49 [] hQ hS rfl (.tk 39 false 199 b132) rfl rfl (by exact Rd.pk' rfl rfl b134 rfl) rfl (by kernel_rfl) ?_
 refine D.q 50 [] hQ hS rfl (.tk 33 true 193 b131) rfl rfl (by exact Rd.pk' rfl rfl b132 rfl) rfl (by kernel_rfl) ?_
 refine D.q 51 [] hQ hS rfl (.tk 27 false 187 b130) rfl rfl (by exact Rd.pk rfl rfl b131 rfl) rfl (by kernel_rfl) ?_
 refine D.kf 52 [] b130 ?_
 refine D.pq 1 [(53, [])] T ?_
 refine D.pt 54 [] 53 false 213 rfl T ?_
 refine D.pt 55 [] 53 false 213 rfl T ?_
 refine D.q 56 [] hQ hS rfl (.tk 53 false 213 rfl) rfl rfl (by exact Rd.io T rfl rfl rfl rfl rfl rfl rfl y133) rfl (by kernel_rfl) ?_
 refine D.q 57 [] hQ hS rfl (.tk 53 false 213 rfl) rfl rfl (by exact Rd.le T rfl rfl rfl (idx_some y133).2.2 rfl rfl rfl) rfl (by kernel_rfl) ?_
 refine D.pt 58 [] 53 false 213 rfl T ?_
 refine D.pt 59 [] 53 false 213 rfl T ?_
 refine D.sz 60 [] 59 true 219 b134 ?_
 refine D.sz 61 [] 59 true 219 b134 ?_
 refine D.sz 62 [] 59 true 219 b134 ?_
 refine D.q 63 [] hQ hS rfl (.tk 53 false 213 rfl) rfl rfl (by exact Rd.pk' rfl rfl b134 rfl) rfl (by kernel_rfl) ?_
 refine D.pt 64 [] 53 false 213 rfl T ?_
 refine D.sz 65 [] 64 true 224 rfl ?_
 refine D.sz 66 [] 64 true 224 rfl ?_
 refine D.sz 67 [] 64 true 224 rfl ?_
 refine D.sz 68 [] 64 true 224 rfl ?_
 refine D.sz 69 [] 64 true 224 rfl ?_
 refine D.sz 70 [] 64 true 224 rfl ?_
 refine D.sz 71 [] 64 true 224 rfl ?_
 refine D.sz 72 [] 64 true 224 rfl ?_
 refine D.sz 73 [] 64 true 224 rfl ?_
 refine D.q 74 [] hQ hS rfl (.tk 53 false 213 rfl) rfl rfl (by exact Rd.pk' rfl rfl rfl rfl) rfl (by kernel_rfl) ?_
 refine D.kf 75 [] rfl ?_
 refine D.done (by kernel_rfl) ?_
 exact St.wa (idR 5) (j124 _ g)
 refine D.sz 34 [] 33 true 193 b131 ?_
 refine D.sz 35 [] 33 true 193 b131 ?_
 refine D.sz 36 [] 33 true 193 b131 ?_
 refine D.sz 37 [] 33 true 193 b131 ?_
 refine D.sz 38 [] 33 true 193 b131 ?_
 refine D.sz 39 [] 33 true 193 b131 ?_
 refine D.sx 40 [] hQ hS (.und 39 false 199 rfl rfl rfl) ?_
 refine D.sx 41 [] hQ hS (.und 39 false 199 rfl rfl rfl) ?_
 refine D.sx 42 [] hQ hS (.und 39 false 199 rfl rfl rfl) ?_
 refine D.sx 43 [] hQ hS (.und 39 false 199 rfl rfl rfl) ?_
 refine D.sx 44 [] hQ hS (.und 39 false 199 rfl rfl rfl) ?_
 refine D.sx 45 [] hQ hS (.und 39 false 199 rfl rfl rfl) ?_
 refine D.sx 46 [] hQ hS (.und 45 true 205 rfl rfl rfl) ?_
 refine D.sx 47 [] hQ hS (.und 45 true 205 rfl rfl rfl) ?_
 refine D.sx 48 [] hQ hS (.und 45 true 205 rfl rfl rfl) ?_
 refine D.sx 49 [] hQ hS (.und 39 false 199 rfl rfl rfl) ?_
 refine D.sz 50 [] 33 true 193 b131 ?_
 refine D.q 51 [] hQ hS rfl (.tk 27 false 187 b130) rfl rfl (by exact Rd.pk' rfl rfl b131 rfl) rfl (by kernel_rfl) ?_
 refine D.kf 52 [] b130 ?_
 refine D.pq 1 [(53, [])] T ?_
 refine D.pt 54 [] 53 false 213 rfl T ?_
 refine D.pt 55 [] 53 false 213 rfl T ?_
 obtain ⟨x136, y136, g⟩ := g
 refine D.q 56 [] hQ hS rfl (.tk 53 false 213 rfl) rfl rfl (by exact Rd.io T rfl rfl rfl rfl rfl rfl rfl y136) rfl (by kernel_rfl) ?_
 refine D.q 57 [] hQ hS rfl (.tk 53 false 213 rfl) rfl rfl (by exact Rd.le T rfl rfl rfl (idx_some y136).2.2 rfl rfl rfl) rfl (by kernel_rfl) ?_
 refine D.pt 58 [] 53 false 213 rfl T ?_
 refine D.pt 59 [] 53 false 213 rfl T ?_
 refine g.cs (fun b137 g => ?_) fun b137 g => ?_
 refine D.pt 60 [] 59 true 219 b137 T ?_
 refine D.pt 61 [] 59 true 219 b137 T ?_
 refine D.pt 62 [] 59 true 219 b137 T ?_
 refine D.q 63 [] hQ hS rfl (.tk 53 false 213 rfl) rfl rfl (by exact Rd.pk rfl rfl b137 rfl) rfl (by kernel_rfl) ?_
 refine D.pt 64 [] 53 false 213 rfl T ?_
 refine g.cs (fun b138 g => ?_) fun b138 g => ?_
 refine D.pt 65 [] 64 true 224 b138 T ?_
 refine D.pt 66 [] 64 true 224 b138 T ?_
 refine D.q 67 [] hQ hS rfl (.tk 64 true 224 b138) rfl rfl (by exact Rd.io T rfl rfl rfl rfl rfl rfl rfl y136) rfl (by kernel_rfl) ?_
 refine D.q 68 [] hQ hS rfl (.tk 64 true 224 b138) rfl rfl (by exact Rd.le T rfl rfl rfl (idx_some y136).2.2 rfl rfl rfl) rfl (by kernel_rfl) ?_
 refine D.pt 69 [] 64 true 224 b138 T ?_
 refine D.pt 70 [] 64 true 224 b138 T ?_
 refine D.q 71 [] hQ hS rfl (.tk 64 true 224 b138) rfl rfl (by exact Rd.io T rfl rfl rfl rfl rfl rfl rfl y125) rfl (by kernel_rfl) ?_
 refine D.q 72 [] hQ hS rfl (.tk 64 true 224 b138) rfl rfl (by exact Rd.le T rfl rfl rfl (idx_some y125).2.2 rfl rfl rfl) rfl (by kernel_rfl) ?_
 refine D.pt 73 [] 64 true 224 b138 T ?_
 refine D.q 74 [] hQ hS rfl (.tk 53 false 213 rfl) rfl rfl (by exact Rd.pk rfl rfl b138 rfl) rfl (by kernel_rfl) ?_
 refine D.kf 75 [] rfl ?_
 refine D.done (by kernel_rfl) ?_
 exact St.wa (idR 5) (j124 _ g)
 refine D.sz 65 [] 64 true 224 b138 ?_
 refine D.sz 66 [] 64 true 224 b138 ?_
 refine D.sz 67 [] 64 true 224 b138 ?_
 refine D.sz 68 [] 64 true 224 b138 ?_
 refine D.sz 69 [] 64 true 224 b138 ?_
 refine D.sz 70 [] 64 true 224 b138 ?_
 refine D.sz 71 [] 64 true 224 b138 ?_
 refine D.sz 72 [] 64 true 224 b138 ?_
 refine D.sz 73 [] 64 true 224 b138 ?_
 refine D.q 74 [] hQ hS rfl (.tk 53 false 213 rfl) rfl rfl (by exact Rd.pk' rfl rfl b138 rfl) rfl (by kernel_rfl) ?_
 refine D.kf 75 [] rfl ?_
 refine D.done (by kernel_rfl) ?_
 exact St.wa (idR 5) (j124 _ g)
 refine D.sz 60 [] 59 true 219 b137 ?_
 refine D.sz 61 [] 59 true 219 b137 ?_
 refine D.sz 62 [] 59 true 219 b137 ?_
 refine D.q 63 [] hQ hS rfl (.tk 53 false 213 rfl) rfl rfl (by exact Rd.pk' rfl rfl b137 rfl) rfl (by kernel_rfl) ?_
 refine D.pt 64 [] 53 false 213 rfl T ?_
 refine D.sz 65 [] 64 true 224 rfl ?_
 refine D.sz 66 [] 64 true 224 rfl ?_
 refine D.sz 67 [] 64 true 224 rfl ?_
 refine D.sz 68 [] 64 true 224 rfl ?_
 refine D.sz 69 [] 64 true 224 rfl ?_
 refine D.sz 70 [] 64 true 224 rfl ?_
 refine D.sz 71 [] 64 true 224 rfl ?_
 refine D.sz 72 [] 64 true 224 rfl ?_
 refine D.sz 73 [] 64 true 224 rfl ?_
 refine D.q 74 [] hQ hS rfl (.tk 53 false 213 rfl) rfl rfl (by exact Rd.pk' rfl rfl rfl rfl) rfl (by kernel_rfl) ?_
 refine D.kf 75 [] rfl ?_
 refine D.done (by kernel_rfl) ?_
 exact St.wa (idR 5) (j124 _ g)
 refine D.sz 16 [] 15 true 175 b128 ?_
 refine D.sz 17 [] 15 true 175 b128 ?_
 refine D.sz 18 [] 15 true 175 b128 ?_
 refine D.sz 19 [] 15 true 175 b128 ?_
 refine D.sz 20 [] 15 true 175 b128 ?_
 refine D.sz 21 [] 15 true 175 b128 ?_
 refine D.sz 22 [] 15 true 175 b128 ?_
 refine D.sz 23 [] 15 true 175 b128 ?_
 refine D.sz 24 [] 15 true 175 b128 ?_
 refine D.q 25 [] hQ hS rfl (.tk 9 false 169 b127) rfl rfl (by exact Rd.pk' rfl rfl b128 rfl) rfl (by kernel_rfl) ?_
 refine D.kf 26 [] b127 ?_
 refine D.pq 1 [(27, [])] T ?_
 refine D.pt 28 [] 27 false 187 rfl T ?_
 refine D.pt 29 [] 27 false 187 rfl T ?_
 refine D.q 30 [] hQ hS rfl (.tk 27 false 187 rfl) rfl rfl (by exact Rd.io T rfl rfl rfl rfl rfl rfl rfl y125) rfl (by kernel_rfl) ?_
 refine D.q 31 [] hQ hS rfl (.tk 27 false 187 rfl) rfl rfl (by exact Rd.le T rfl rfl rfl (idx_some y125).2.2 rfl rfl rfl) rfl (by kernel_rfl) ?_
 refine D.pt 32 [] 27 false 187 rfl T ?_
 refine D.pt 33 [] 27 false 187 rfl T ?_
 refine g.cs (fun b139 g => ?_) fun b139 g => ?_
 refine D.pt 34 [] 33 true 193 b139 T ?_
 refine D.pt 35 [] 33 true 193 b139 T ?_
 obtain ⟨x140, y140, g⟩ := g
 refine D.q 36 [] hQ hS rfl (.tk 33 true 193 b139) rfl rfl (by exact Rd.io T rfl rfl rfl rfl rfl rfl rfl y140) rfl (by kernel_rfl) ?_
 refine D.q 37 [] hQ hS rfl (.tk 33 true 193 b139) rfl rfl (by exact Rd.le T rfl rfl rfl (idx_some y140).2.2 rfl rfl rfl) rfl (by kernel_rfl) ?_
 refine D.pt 38 [] 33 true 193 b139 T ?_
 refine D.pt 39 [] 33 true 193 b139 T ?_
 refine g.cs (fun b141 g => ?_) fun b141 g => ?_
 refine D.sz 40 [] 39 false 199 b141 ?_
 refine D.sz 41 [] 39 false 199 b141 ?_
 refine D.sz 42 [] 39 false 199 b141 ?_
 refine D.sz 43 [] 39 false 199 b141 ?_
 refine D.sz 44 [] 39 false 199 b141 ?_
 refine D.sz 45 [] 39 false 199 b141 ?_
 refine D.sx 46 [] hQ hS (.und 45 true 205 rfl rfl rfl) ?_
 refine D.sx 47 [] hQ hS (.und 45 true 205 rfl rfl rfl) ?_
 refine D.sx 48 [] hQ hS (.und 45 true 205 rfl rfl rfl) ?_
 refine D.sz 49 [] 39 false 199 b141 ?_
 refine D.q 50 [] hQ hS rfl (.tk 33 true 193 b139) rfl rfl (by exact Rd.pk rfl rfl b141 rfl) rfl (by kernel_rfl) ?_
 refine D.q 51 [] hQ hS rfl (.tk 27 false 187 rfl) rfl rfl (by exact Rd.pk rfl rfl b139 rfl) rfl (by kernel_rfl) ?_
 refine D.kf 52 [] rfl ?_
 refine D.pq 1 [(53, [])] T ?_
 refine D.sz 54 [] 53 false 213 rfl ?_
 refine D.sz 55 [] 53 false 213 rfl ?_
 refine D.sz 56 [] 53 false 213 rfl ?_
 refine D.sz 57 [] 53 false 213 rfl ?_
 refine D.sz 58 [] 53 false 213 rfl ?_
 refine D.sz 59 [] 53 false 213 rfl ?_
 refine D.sx 60 [] hQ hS (.und 59 true 219 rfl rfl rfl) ?_
 refine D.sx 61 [] hQ hS (.und 59 true 219 rfl rfl rfl) ?_
 refine D.sx 62 [] hQ hS (.und 59 true 219 rfl rfl rfl) ?_
 refine D.sz 63 [] 53 false 213 rfl ?_
 refine D.sz 64 [] 53 false 213 rfl ?_
 refine D.sx 65 [] hQ hS (.und 64 true 224 rfl rfl rfl) ?_
 refine D.sx 66 [] hQ hS (.und 64 true 224 rfl rfl rfl) ?_
 refine D.sx 67 [] hQ hS (.und 64 true 224 rfl rfl rfl) ?_
 refine D.sx 68 [] hQ hS (.und 64 true 224 rfl rfl rfl) ?_
 refine D.sx 69 [] hQ hS (.und 64 true 224 rfl rfl rfl) ?_
 refine D.sx 70 [] hQ hS (.und 64 true 224 rfl rfl rfl) ?_
 refine D.sx 71 [] hQ hS (.und 64 true 224 rfl rfl rfl) ?_
 refine D.sx 72 [] hQ hS (.und 64 true 224 rfl rfl rfl) ?_
 refine D.sx 73 [] hQ hS (.und 64 true 224 rfl rfl rfl) ?_
 refine D.sz 74 [] 53 false 213 rfl ?_
 refine D.kt 75 [] rfl ?_
 refine D.done (by kernel_rfl) ?_
 exact St.wa (idR 5) (j124 _ g)
 refine D.pt 40 [] 39 false 199 b141 T ?_
 refine D.pt 41 [] 39 false 199 b141 T ?_
 obtain ⟨x142, y142, g⟩ := g
 refine D.q 42 [] hQ hS rfl (.tk 39 false 199 b141) rfl rfl (by exact Rd.io T rfl rfl rfl rfl rfl rfl rfl y142) rfl (by kernel_rfl) ?_
 refine D.q 43 [] hQ hS rfl (.tk 39 false 199 b141) rfl rfl (by exact Rd.le T rfl rfl rfl (idx_some y142).2.2 rfl rfl rfl) rfl (by kernel_rfl) ?_
 refine D.pt 44 [] 39 false 199 b141 T ?_
 refine D.pt 45 [] 39 false 199 b141 T ?_
 refine g.cs (fun b143 g => ?_) fun b143 g => ?_
 refine D.pt 46 [] 45 true 205 b143 T ?_
 refine D.pt 47 [] 45 true 205 b143 T ?_
 refine D.pt 48 [] 45 true 205 b143 T ?_
 refine D.q 49 [] hQ hS rfl (.tk 39 false 199 b141) rfl rfl (by exact Rd.pk rfl rfl b143 rfl) rfl (by kernel_rfl) ?_
 refine D.q 50 [] hQ hS rfl (.tk 33 true 193 b139) rfl rfl (by exact Rd.pk' rfl rfl b141 rfl) rfl (by kernel_rfl) ?_
 refine D.q 51 [] hQ hS rfl (.tk 27 false 187 rfl) rfl rfl (by exact Rd.pk rfl rfl b139 rfl) rfl (by kernel_rfl) ?_
 refine D.kf 52 [] rfl ?_
 refine D.pq 1 [(53, [])] T ?_
 refine g.cs (fun b144 g => ?_) fun b144 g => ?_
 refine D.sz 54 [] 53 false 213 b144 ?_
 refine D.sz 55 [] 53 false 213 b144 ?_
 refine D.sz 56 [] 53 false 213 b144 ?_
 refine D.sz 57 [] 53 false 213 b144 ?_
 refine D.sz 58 [] 53 false 213 b144 ?_
 refine D.sz 59 [] 53 false 213 b144 ?_
 refine D.sx 60 [] hQ hS (.und 59 true 219 rfl rfl rfl) ?_
 refine D.sx 61 [] hQ hS (.und 59 true 219 rfl rfl rfl) ?_
 refine D.sx 62 [] hQ hS (.und 59 true 219 rfl rfl rfl) ?_
 refine D.sz 63 [] 53 false 213 b144 ?_
 refine D.sz 64 [] 53 false 213 b144 ?_
 refine D.sx 65 [] hQ hS (.und 64 true 224 rfl rfl rfl) ?_
 refine D.sx 66 [] hQ hS (.und 64 true 224 rfl rfl rfl) ?_
 refine D.sx 67 [] hQ hS (.und 64 true 224 rfl rfl rfl) ?_
 refine D.sx 68 [] hQ hS (.und 64 true 224 rfl rfl rfl) ?_
 refine D.sx 69 [] hQ hS (.und 64 true 224 rfl rfl rfl) ?_
 refine D.sx 70 [] hQ hS (.und 64 true 224 rfl rfl rfl) ?_
 refine D.sx 71 [] hQ hS (.und 64 true 224 rfl rfl rfl) ?_
 refine D.sx 72 [] hQ hS (.und 64 true 224 rfl rfl rfl) ?_
 refine D.sx 73 [] hQ hS (.und 64 true 224 rfl rfl rfl) ?_
 refine D.sz 74 [] 53 false 213 b144 ?_
 refine D.kt 75 [] b144 ?_
 refine D.done (by kernel_rfl) ?_
 exact St.wa (idR 5) (j124 _ g)
 refine D.pt 54 [] 53 false 213 b144 T ?_
 refine D.pt 55 [] 53 false 213 b144 T ?_
 refine D.q 56 [] hQ hS rfl (.tk 53 false 213 b144) rfl rfl (by exact Rd.io T rfl rfl rfl rfl rfl rfl rfl y142) rfl (by kernel_rfl) ?_
 refine D.q 57 [] hQ hS rfl (.tk 53 false 213 b144) rfl rfl (by exact Rd.le T rfl rfl rfl (idx_some y142).2.2 rfl rfl rfl) rfl (by kernel_rfl) ?_
 refine D.pt 58 [] 53 false 213 b144 T ?_
 refine D.pt 59 [] 53 false 213 b144 T ?_
 refine D.pt 60 [] 59 true 219 b143 T ?_
 refine D.pt 61 [] 59 true 219 b143 T ?_
 refine D.pt 62 [] 59 true 219 b143 T ?_
 refine D.q 63 [] hQ hS rfl (.tk 53 false 213 b144) rfl rfl (by exact Rd.pk rfl rfl b143 rfl) rfl (by kernel_rfl) ?_
 refine D.pt 64 [] 53 false 213 b144 T ?_
 refine D.sz 65 [] 64 true 224 b144 ?_
 refine D.sz 66 [] 64 true 224 b144 ?_
 refine D.sz 67 [] 64 true 224 b144 ?_
 refine D.sz 68 [] 64 true 224 b144 ?_
 refine D.sz 69 [] 64 true 224 b144 ?_
 refine D.sz 70 [] 64 true 224 b144 ?_
 refine D.sz 71 [] 64 true 224 b144 ?_
 refine D.sz 72 [] 64 true 224 b144 ?_
 refine D.sz 73 [] 64 true 224 b144 ?_
 refine D.q 74 [] hQ hS rfl (.tk 53 false 213 b144) rfl rfl (by exact Rd.pk' rfl rfl b144 rfl) rfl (by kernel_rfl) ?_
 refine D.kf 75 [] b144 ?_
 refine D.done (by kernel_rfl) ?_
 exact St.wa (idR 5) (j124 _ g)
 refine D.sz 46 [] 45 true 205 b143 ?_
 refine D.sz 47 [] 45 true 205 b143 ?_
 refine D.sz 48 [] 45 true 205 b143 ?_
 refine D.q 49 [] hQ hS rfl (.tk 39 false 199 b141) rfl rfl (by exact Rd.pk' rfl rfl b143 rfl) rfl (by kernel_rfl) ?_
 refine D.q 50 [] hQ hS rfl (.tk 33 true 193 b139) rfl rfl (by exact Rd.pk' rfl rfl b141 rfl) rfl (by kernel_rfl) ?_
 refine D.q 51 [] hQ hS rfl (.tk 27 false 187 rfl) rfl rfl (by exact Rd.pk rfl rfl b139 rfl) rfl (by kernel_rfl) ?_
 refine D.kf 52 [] rfl ?_
 refine D.pq 1 [(53, [])] T ?_
 refine D.pt 54 [] 53 false 213 rfl T ?_
 refine D.pt 55 [] 53 false 213 rfl T ?_
 refine D.q 56 [] hQ hS rfl (.tk 53 false 213 rfl) rfl rfl (by exact Rd.io T rfl rfl rfl rfl rfl rfl rfl y142) rfl (by kernel_rfl) ?_
 refine D.q 57 [] hQ hS rfl (.tk 53 false 213 rfl) rfl rfl (by exact Rd.le T rfl rfl rfl (idx_some y142).2.2 rfl rfl rfl) rfl (by kernel_rfl) ?_
 refine D.pt 58 [] 53 false 213 rfl T ?_
 refine D.pt 59 [] 53 false 213 rfl T ?_
 refine D.sz 60 [] 59 true 219 b143 ?_
 refine D.sz 61 [] 59 true 219 b143 ?_
 refine D.sz 62 [] 59 true 219 b143 ?_
 refine D.q 63 [] hQ hS rfl (.tk 53 false 213 rfl) rfl rfl (by exact Rd.pk' rfl rfl b143 rfl) rfl (by kernel_rfl) ?_
 refine D.pt 64 [] 53 false 213 rfl T ?_
 refine D.sz 65 [] 64 true 224 rfl ?_
 refine D.sz 66 [] 64 true 224 rfl ?_
 refine D.sz 67 [] 64 true 224 rfl ?_
 refine D.sz 68 [] 64 true 224 rfl ?_
 refine D.sz 69 [] 64 true 224 rfl ?_
 refine D.sz 70 [] 64 true 224 rfl ?_
 refine D.sz 71 [] 64 true 224 rfl ?_
 refine D.sz 72 [] 64 true 224 rfl ?_
 refine D.sz 73 [] 64 true 224 rfl ?_
 refine D.q 74 [] hQ hS rfl (.tk 53 false 213 rfl) rfl rfl (by exact Rd.pk' rfl rfl rfl rfl) rfl (by kernel_rfl) ?_
 refine D.kf 75 [] rfl ?_
 refine D.done (by kernel_rfl) ?_
 exact St.wa (idR 5) (j124 _ g)
 refine D.sz 34 [] 33 true 193 b139 ?_
 refine D.sz 35 [] 33 true 193 b139 ?_
 refine D.sz 36 [] 33 true 193 b139 ?_
 refine D.sz 37 [] 33 true 193 b139 ?_
 refine D.sz 38 [] 33 true 193 b139 ?_
 refine D.sz 39 [] 33 true 193 b139 ?_
 refine D.sx 40 [] hQ hS (.und 39 false 199 rfl rfl rfl) ?_
 refine D.sx 41 [] hQ hS (.und 39 false 199 rfl rfl rfl) ?_
 refine D.sx 42 [] hQ hS (.und 39 false 199 rfl rfl rfl) ?_
 refine D.sx 43 [] hQ hS (.und 39 false 199 rfl rfl rfl) ?_
 refine D.sx 44 [] hQ hS (.und 39 false 199 rfl rfl rfl) ?_
 refine D.sx 45 [] hQ hS (.und 39 false 199 rfl rfl rfl) ?_
 refine D.sx 46 [] hQ hS (.und 45 true 205 rfl rfl rfl) ?_
 refine D.sx 47 [] hQ hS (.und 45 true 205 rfl rfl rfl) ?_
 refine D.sx 48 [] hQ hS (.und 45 true 205 rfl rfl rfl) ?_
 refine D.sx 49 [] hQ hS (.und 39 false 199 rfl rfl rfl) ?_
 refine D.sz 50 [] 33 true 193 b139 ?_
 refine D.q 51 [] hQ hS rfl (.tk 27 false 187 rfl) rfl rfl (by exact Rd.pk' rfl rfl b139 rfl) rfl (by kernel_rfl) ?_
 refine D.kf 52 [] rfl ?_
 refine D.pq 1 [(53, [])] T ?_
 refine D.pt 54 [] 53 false 213 rfl T ?_
 refine D.pt 55 [] 53 false 213 rfl T ?_
 obtain ⟨x145, y145, g⟩ := g
 refine D.q 56 [] hQ hS rfl (.tk 53 false 213 rfl) rfl rfl (by exact Rd.io T rfl rfl rfl rfl rfl rfl rfl y145) rfl (by kernel_rfl) ?_
 refine D.q 57 [] hQ hS rfl (.tk 53 false 213 rfl) rfl rfl (by exact Rd.le T rfl rfl rfl (idx_some y145).2.2 rfl rfl rfl) rfl (by kernel_rfl) ?_
 refine D.pt 58 [] 53 false 213 rfl T ?_
 refine D.pt 59 [] 53 false 213 rfl T ?_
 refine g.cs (fun b146 g => ?_) fun b146 g => ?_
 refine D.pt 60 [] 59 true 219 b146 T ?_
 refine D.pt 61 [] 59 true 219 b146 T ?_
 refine D.pt 62 [] 59 true 219 b146 T ?_
 refine D.q 63 [] hQ hS rfl (.tk 53 false 213 rfl) rfl rfl (by exact Rd.pk rfl rfl b146 rfl) rfl (by kernel_rfl) ?_
 refine D.pt 64 [] 53 false 213 rfl T ?_
 refine g.cs (fun b147 g => ?_) fun b147 g => ?_
 refine D.pt 65 [] 64 true 224 b147 T ?_
 refine D.pt 66 [] 64 true 224 b147 T ?_
 refine D.q 67 [] hQ hS rfl (.tk 64 true 224 b147) rfl rfl (by exact Rd.io T rfl rfl rfl rfl rfl rfl rfl y145) rfl (by kernel_rfl) ?_
 refine D.q 68 [] hQ hS rfl (.tk 64 true 224 b147) rfl rfl (by exact Rd.le T rfl rfl rfl (idx_some y145).2.2 rfl rfl rfl) rfl (by kernel_rfl) ?_
 refine D.pt 69 [] 64 true 224 b147 T ?_
 refine D.pt 70 [] 64 true 224 b147 T ?_
 refine D.q 71 [] hQ hS rfl (.tk 64 true 224 b147) rfl rfl (by exact Rd.io T rfl rfl rfl rfl rfl rfl rfl y125) rfl (by kernel_rfl) ?_
 refine D.q 72 [] hQ hS rfl (.tk 64 true 224 b147) rfl rfl (by exact Rd.le T rfl rfl rfl (idx_some y125).2.2 rfl rfl rfl) rfl (by kernel_rfl) ?_
 refine D.pt 73 [] 64 true 224 b147 T ?_
 refine D.q 74 [] hQ hS rfl (.tk 53 false 213 rfl) rfl rfl (by exact Rd.pk rfl rfl b147 rfl) rfl (by kernel_rfl) ?_
 refine D.kf 75 [] rfl ?_
 refine D.done (by kernel_rfl) ?_
 exact St.wa (idR 5) (j124 _ g)
 refine D.sz 65 [] 64 true 224 b147 ?_
 refine D.sz 66 [] 64 true 224 b147 ?_
 refine D.sz 67 [] 64 true 224 b147 ?_
 refine D.sz 68 [] 64 true 224 b147 ?_
 refine D.sz 69 [] 64 true 224 b147 ?_
 refine D.sz 70 [] 64 true 224 b147 ?_
 refine D.sz 71 [] 64 true 224 b147 ?_
 refine D.sz 72 [] 64 true 224 b147 ?_
 refine D.sz 73 [] 64 true 224 b147 ?_
 refine D.q 74 [] hQ hS rfl (.tk 53 false 213 rfl) rfl rfl (by exact Rd.pk' rfl rfl b147 rfl) rfl (by kernel_rfl) ?_
 refine D.kf 75 [] rfl ?_
 refine D.done (by kernel_rfl) ?_
 exact St.wa (idR 5) (j124 _ g)
 refine D.sz 60 [] 59 true 219 b146 ?_
 refine D.sz 61 [] 59 true 219 b146 ?_
 refine D.sz 62 [] 59 true 219 b146 ?_
 refine D.q 63 [] hQ hS rfl (.tk 53 false 213 rfl) rfl rfl (by exact Rd.pk' rfl rfl b146 rfl) rfl (by kernel_rfl) ?_
 refine D.pt 64 [] 53 false 213 rfl T ?_
 refine D.sz 65 [] 64 true 224 rfl ?_
 refine D.sz 66 [] 64 true 224 rfl ?_
 refine D.sz 67 [] 64 true 224 rfl ?_
 refine D.sz 68 [] 64 true 224 rfl ?_
 refine D.sz 69 [] 64 true 224 rfl ?_
 refine D.sz 70 [] 64 true 224 rfl ?_
 refine D.sz 71 [] 64 true 224 rfl ?_
 refine D.sz 72 [] 64 true 224 rfl ?_
 refine D.sz 73 [] 64 true 224 rfl ?_
 refine D.q 74 [] hQ hS rfl (.tk 53 false 213 rfl) rfl rfl (by exact Rd.pk' rfl rfl rfl rfl) rfl (by kernel_rfl) ?_
 refine D.kf 75 [] rfl ?_
 refine D.done (by kernel_rfl) ?_
 exact St.wa (idR 5) (j124 _ g)
 refine C.exit (C.ex (C.ex (C.bex ?_)))
 exact St.wn (j117 _ g)
 refine D.have false [cE12 blocked, (2, .i more), (3, .i delay), (4, .p 0 0), (9, .b x5), (10, .o 1), (11, .o 2), (12, .o 3), (17, .o 4), cE13 s_1, (141, .sl 1 eI blocked), (142, .i delay), cE14 delay, (144, .o 4), cE15 s_1, (146, .o 5), (147, .sl 1 eI blocked), (148, .o 6), (149, .i more), (152, .i delay)] [cE16 s_1, (1, .val (.os 1 eI x17)), (2, .val (.os 1 eI x20)), (3, .val (.os 1 eI x54)), (4, .val (.os 1 eI x108)), (6, .val (.os 1 eI (([] : List Int) ++ blocked)))] 7 4 (bvA 10 [5, 6, 8, 9]) ?_ fun hd110_3 => ?_
 refine D.all 5 [] (by kernel_rfl) ⟨?_, trivial⟩
 refine D.bs T eI ([more] : List Int) ?_
 exact D.tq [0, 1, 2, 3, 4, 5, 6, 7] hd110_5
 refine D.have false [cE12 blocked, (2, .i more), (3, .i delay), (4, .p 0 0), (9, .b x5), (10, .o 1), (11, .o 2), (12, .o 3), (17, .o 4), cE13 s_1, (141, .sl 1 eI blocked), (142, .i delay), cE14 delay, (144, .o 4), cE15 s_1, (146, .o 5), (147, .sl 1 eI blocked), (149, .i more), (150, .o 6), (152, .i delay)] [cE16 s_1, (1, .val (.os 1 eI x17)), (2, .val (.os 1 eI x20)), (3, .val (.os 1 eI x54)), (4, .val (.os 1 eI x108)), (5, .val (.os 1 eI ([] : List Int))), (6, .val (.os 1 eI ([more] : List Int)))] 7 4 (bvA 10 [3, 6, 8, 9]) ?_ fun hd110_4 => ?_
 refine D.all 3 [] (by kernel_rfl) ⟨?_, trivial⟩
 refine D.ef1 rfl (.none rfl) (by exact Eff1.ap T rfl rfl rfl rfl rfl rfl (.inl rfl) rfl rfl rfl (fun _ => rfl) rfl y111) rfl rfl ?_
 exact D.tq [0, 1, 2, 3, 4, 5, 7, 6] hd110_5
 refine D.have false [cE12 blocked, (2, .i more), (3, .i delay), (4, .p 0 0), (9, .b x5), (10, .o 1), (11, .o 2), (12, .o 3), (17, .o 4), cE13 s_1, (141, .sl 1 eI blocked), (142, .i delay), cE14 delay, (144, .o 4), cE15 s_1, (146, .o 5), (147, .sl 1 eI blocked), (149, .i more), (152, .i delay)] [cE16 s_1, (1, .val (.os 1 eI x17)), (2, .val (.os 1 eI x20)), (3, .val (.os 1 eI x54)), (4, .val (.os 1 eI x108)), (5, .val (.os 1 eI ([] : List Int)))] 6 5 (bvA 10 [3, 5, 6, 8, 9]) ?_ fun hd110_1 => ?_
 refine D.all 3 [5] (by kernel_rfl) ⟨?_, ?_, trivial⟩
 refine D.ef1 rfl (.none rfl) (by exact Eff1.ap T rfl rfl rfl rfl rfl rfl (.inl rfl) rfl rfl rfl (fun _ => rfl) rfl y111) rfl rfl ?_
 exact D.tq [0, 1, 2, 3, 4, 5, 6] hd110_3
 refine D.bs T eI ([more] : List Int) ?_
 exact D.tq [0, 1, 2, 3, 4, 5, 6] hd110_4
 refine D.have false [cE12 blocked, (2, .i more), (3, .i delay), (4, .p 0 0), (9, .b x5), (10, .o 1), (11, .o 2), (12, .o 3), (17, .o 4), cE13 s_1, (141, .sl 1 eI blocked), (142, .i delay), cE14 delay, (144, .o 4), cE15 s_1, (147, .sl 1 eI blocked), (149, .i more), (150, .o 5), (152, .i delay)] [cE16 s_1, (1, .val (.os 1 eI x17)), (2, .val (.os 1 eI x20)), (3, .val (.os 1 eI x54)), (4, .val (.os 1 eI x108)), (5, .val (.os 1 eI ([more] : List Int)))] 6 5 (bvA 10 [1, 3, 6, 8, 9]) ?_ fun hd110_2 => ?_
 refine D.all 1 [] (by kernel_rfl) ⟨?_, trivial⟩
 refine D.bs T eI ([] : List Int) ?_
 exact D.tq [0, 1, 2, 3, 4, 6, 5] hd110_4
 refine D.all 1 [5] (by kernel_rfl) ⟨?_, ?_, trivial⟩
 refine D.bs T eI ([] : List Int) ?_
 exact D.tq [0, 1, 2, 3, 4, 5] hd110_1
 refine D.bs T eI ([more] : List Int) ?_
 exact D.tq [0, 1, 2, 3, 4, 5] hd110_2
 refine C.block (St.wk (C.loop (fun (s56 : List Int × Int) => [(1, .sl 1 eI blocked), (2, .i more), (3, .i delay), (4, .p 0 0), (9, .b x5), (10, .o 1), (11, .o 2), (12, .o 3), (14, .i s56.2)]) (fun s56 => [(0, .box (eApiSite s_1)), (1, .val (.os 1 eI x17)), (2, .val (.os 1 eI x20)), (3, .val (.os 1 eI s56.1))]) g (fun s56 Y57 g => ?_)) (Wk.a (idR 4)))
 refine C.seq (C.ss (U.pd 4 T (C.nx ?_)))
 refine C.ite rfl g (fun b60 g => ?_) fun b60 g => ?_
 refine C.skip (C.xs ?_)
 refine C.jn (fun (x61 : List Int) => [(1, .sl 1 eI blocked), (2, .i more), (3, .i delay), (4, .p 0 0), (9, .b x5), (10, .o 1), (11, .o 2), (12, .o 3), (14, .i s56.2)]) (fun x61 => [(0, .box (eApiSite s_1)), (1, .val (.os 1 eI x17)), (2, .val (.os 1 eI x20)), (3, .val (.os 1 eI x61))]) 4 g (fun x61 g => ?_) fun J62 g j62 => ?_
 refine C.nx (U.start (U.pd 3 T (C.nx ?_)))
 exact St.wk (C.next g) (Wk.a (idR 4))
 refine C.block (C.seq (C.ss (U.ps 2 T rfl (U.k (T_taquinref07_Has blocked s56.2 _ g) en9 (fun x65 g => ?_)))))
 refine U.done (C.nx ?_)
 refine C.ite rfl g (fun b66 g => ?_) fun b66 g => ?_
 refine C.exit (C.ex (C.bex ?_))
 exact St.wa (idR 4) (j62 _ g)
 refine C.skip (C.xs (D.bg mix 9999 [0] [4, 5, 6] (fun hQ hS ws M' => ?_)))
 refine D.pq 3 (zl [0, 2, 4]) T ?_
 obtain ⟨y69, g⟩ := g
 refine D.have false [cE12 blocked, (2, .i more), (3, .i delay), (4, .p 0 0), (9, .b x5), (10, .o 1), (11, .o 2), (12, .o 3), (14, .i s56.2), (82, .i s56.2), (83, .o 2), (84, .i (x20.length : Int)), (85, .b (decide (s56.2 < (x20.length : Int)))), (88, .sl 1 eI blocked), (89, .i s56.2), (90, .b x65), cE17 s_1, (92, .o 4), (93, .sl 1 eI blocked), (94, .o 5), (95, .i s56.2), (96, .o 6)] [cE16 s_1, (1, .val (.os 1 eI x17)), (2, .val (.os 1 eI x20)), (3, .val (.os 1 eI s56.1)), (5, .val (.os 1 eI (([] : List Int) ++ blocked))), (6, .val (.os 1 eI ([s56.2] : List Int)))] 7 3 (bvA 9 [6, 7, 8]) ?_ fun hd68_5 => ?_
 obtain ⟨y70, g⟩ := g
 refine D.e1 6 rfl (.none rfl) (by exact Eff1.ap T rfl rfl rfl rfl rfl rfl (.inr ⟨_, rfl, rfl⟩) rfl rfl rfl (fun _ => rfl) rfl y70) (by kernel_rfl) rfl rfl ?_
 refine D.k 7 (T_reach_Fuel s_1 ((([] : List Int) ++ blocked) ++ ([s56.2] : List Int)) _ g) en7 fun x71 g => ?_
 refine D.pq 1 [(8, [])] T ?_
 refine D.done (by kernel_rfl) ?_
 refine C.xt (U.pd 1 T (C.nx ?_))
 refine C.jn (fun (x74 : List Int) => [(1, .sl 1 eI blocked), (2, .i more), (3, .i delay), (4, .p 0 0), (9, .b x5), (10, .o 1), (11, .o 2), (12, .o 3), (14, .i s56.2)]) (fun x74 => [(0, .box (eApiSite s_1)), (1, .val (.os 1 eI x17)), (2, .val (.os 1 eI x20)), (3, .val (.os 1 eI x74))]) 4 g (fun x74 g => ?_) fun J75 g j75 => ?_
 refine C.bnx ?_
 exact St.wa (idR 4) (j62 _ g)
 refine C.block ?_
 refine St.wk (C.loop (fun (s76 : List Int × Int) => [(1, .sl 1 eI blocked), (2, .i more), (3, .i delay), (4, .p 0 0), (9, .b x5), (10, .o 1), (11, .o 2), (12, .o 3), (14, .i s56.2), (15, .o 4), (16, .i s76.2)]) (fun s76 => [(0, .box (eApiSite s_1)), (1, .val (.os 1 eI x17)), (2, .val (.os 1 eI x20)), (3, .val (.os 1 eI s76.1)), (4, .val (.os 1 eI x71))]) g (fun s76 Y77 g => ?_)) (Wk.a [some 0, some 1, some 2, some 3, some 8])
 refine C.seq (C.ss (U.pd 4 T (C.nx ?_)))
 refine C.ite rfl g (fun b80 g => ?_) fun b80 g => ?_
 refine C.skip (C.xs (C.block (C.seq ?_)))
 refine C.jn (fun (x81 : Bool) => [(1, .sl 1 eI blocked), (2, .i more), (3, .i delay), (4, .p 0 0), (9, .b x5), (10, .o 1), (11, .o 2), (12, .o 3), (14, .i s56.2), (15, .o 4), (16, .i s76.2), (121, .b x81)]) (fun x81 => [(0, .box (eApiSite s_1)), (1, .val (.os 1 eI x17)), (2, .val (.os 1 eI x20)), (3, .val (.os 1 eI s76.1)), (4, .val (.os 1 eI x71))]) 5 g (fun x81 g => ?_) fun J82 g j82 => ?_
 refine C.nx ?_
 refine C.jn (fun (x87 : List Int) => [(1, .sl 1 eI blocked), (2, .i more), (3, .i delay), (4, .p 0 0), (9, .b x5), (10, .o 1), (11, .o 2), (12, .o 3), (14, .i s56.2), (15, .o 4), (16, .i s76.2)]) (fun x87 => [(0, .box (eApiSite s_1)), (1, .val (.os 1 eI x17)), (2, .val (.os 1 eI x20)), (3, .val (.os 1 eI x87)), (4, .val (.os 1 eI x71))]) 5 g (fun x87 g => ?_) fun J88 g j88 => ?_
 refine C.bnx (C.nx (U.start (U.pd 3 T (C.nx ?_))))
 exact St.wk (C.next g) (Wk.a (idR 5))
 refine C.ite rfl g (fun b89 g => ?_) fun b89 g => ?_
 refine U.start (U.ps 2 T rfl ?_)
 obtain ⟨x92, y92, g⟩ := g
 refine U.r rfl (.none rfl) rfl rfl (by exact Rd.io T rfl rfl rfl rfl rfl rfl rfl y92) ?_
 refine U.e1 rfl (.none rfl) (by exact Eff1.se T (z' := (-1)) rfl rfl rfl (idx_some y92).2.2 rfl rfl rfl rfl rfl rfl rfl rfl (fun _ => rfl) rfl) ?_
 refine U.done ?_
 exact St.wa (idR 5) (j88 _ g)
 refine C.ss (U.pd 3 T (C.nx ?_))
 refine C.jn (fun (x95 : List Int) => [(1, .sl 1 eI blocked), (2, .i more), (3, .i delay), (4, .p 0 0), (9, .b x5), (10, .o 1), (11, .o 2), (12, .o 3), (14, .i s56.2), (15, .o 4), (16, .i s76.2)]) (fun x95 => [(0, .box (eApiSite s_1)), (1, .val (.os 1 eI x17)), (2, .val (.os 1 eI x20)), (3, .val (.os 1 eI x95)), (4, .val (.os 1 eI x71))]) 5 g (fun x95 g => ?_) fun J96 g j96 => ?_
 exact St.wa (idR 5) (j88 _ g)
 refine C.ite rfl g (fun b97 g => ?_) fun b97 g => ?_
 refine D.bg mix 12 [3, 4] [] (fun hQ hS ws M' => ?_)
 refine D.pq 4 (zl [0, 1, 2, 3]) T ?_
 obtain ⟨x100, y100, g⟩ := g
 refine D.q 4 [] hQ hS rfl (.none rfl) rfl rfl (by exact Rd.io T rfl rfl rfl rfl rfl rfl rfl y100) rfl (by kernel_rfl) ?_
 refine D.q 5 [] hQ hS rfl (.none rfl) rfl rfl (by exact Rd.le T rfl rfl rfl (idx_some y100).2.2 rfl rfl rfl) rfl (by kernel_rfl) ?_
 refine D.pq 2 (zl [6, 7]) T ?_
 obtain ⟨x101, y101, g⟩ := g
 refine D.q 8 [] hQ hS rfl (.none rfl) rfl rfl (by exact Rd.io T rfl rfl rfl rfl rfl rfl rfl y101) rfl (by kernel_rfl) ?_
 refine D.q 9 [] hQ hS rfl (.none rfl) rfl rfl (by exact Rd.le T rfl rfl rfl (idx_some y101).2.2 rfl rfl rfl) rfl (by kernel_rfl) ?_
 refine D.pq 1 [(10, [])] T ?_
 refine D.q 11 [] hQ hS rfl (.none rfl) rfl rfl (by exact Rd.io T rfl rfl rfl rfl rfl rfl rfl y100) rfl (by kernel_rfl) ?_
 refine D.ze1 rfl (.none rfl) (by exact Eff1.se T (z' := imax x100 x101) rfl rfl rfl (idx_some y100).2.2 rfl rfl rfl rfl rfl rfl rfl rfl (fun _ => rfl) rfl) (by kernel_rfl) (by kernel_rfl) ?_
 exact St.wa (idR 5) (j96 _ g)
 refine C.skip ?_
 exact St.wa (idR 5) (j96 _ g)
 refine U.start (U.ps 4 T rfl ?_)
 refine g.cs (fun b83 g => ?_) fun b83 g => ?_
 refine U.pq 2 3 true 108 b83 T ?_
 obtain ⟨x84, y84, g⟩ := g
 refine U.r rfl (.tk 3 true 108 b83) rfl rfl (by exact Rd.io T rfl rfl rfl rfl rfl rfl rfl y84) ?_
 refine U.r rfl (.tk 3 true 108 b83) rfl rfl (by exact Rd.le T rfl rfl rfl (idx_some y84).2.2 rfl rfl rfl) ?_
 refine U.pq 2 3 true 108 b83 T ?_
 refine g.cs (fun b85 g => ?_) fun b85 g => ?_
 refine U.sk' 5 9 false 114 b85 ?_
 refine U.r rfl (.tk 3 true 108 b83) rfl rfl (by exact Rd.pk rfl rfl b85 rfl) ?_
 refine U.pk b83 ?_
 refine U.done ?_
 exact St.wa (idR 5) (j82 _ g)
 refine U.pq 2 9 false 114 b85 T ?_
 obtain ⟨x86, y86, g⟩ := g
 refine U.r rfl (.tk 9 false 114 b85) rfl rfl (by exact Rd.io T rfl rfl rfl rfl rfl rfl rfl y86) ?_
 refine U.r rfl (.tk 9 false 114 b85) rfl rfl (by exact Rd.le T rfl rfl rfl (idx_some y86).2.2 rfl rfl rfl) ?_
 refine U.pq 1 9 false 114 b85 T ?_
 refine U.r rfl (.tk 3 true 108 b83) rfl rfl (by exact Rd.pk' rfl rfl b85 rfl) ?_
 refine U.pk b83 ?_
 refine U.done ?_
 exact St.wa (idR 5) (j82 _ g)
 refine U.sk' 6 3 true 108 b83 ?_
 refine U.sku 5 9 false 114 rfl rfl rfl ?_
 refine U.sk' 1 3 true 108 b83 ?_
 refine U.pk' b83 ?_
 refine U.done ?_
 exact St.wa (idR 5) (j82 _ g)
 refine C.exit (C.ex (C.ex (C.bex ?_)))
 exact St.wa (idR 4) (j75 _ g)
 refine D.have false [cE12 blocked, (2, .i more), (3, .i delay), (4, .p 0 0), (9, .b x5), (10, .o 1), (11, .o 2), (12, .o 3), (14, .i s56.2), (82, .i s56.2), (83, .o 2), (84, .i (x20.length : Int)), (85, .b (decide (s56.2 < (x20.length : Int)))), (88, .sl 1 eI blocked), (89, .i s56.2), (90, .b x65), cE17 s_1, (92, .o 4), (93, .sl 1 eI blocked), (94, .o 5), (95, .i s56.2)] [cE16 s_1, (1, .val (.os 1 eI x17)), (2, .val (.os 1 eI x20)), (3, .val (.os 1 eI s56.1)), (5, .val (.os 1 eI (([] : List Int) ++ blocked)))] 6 4 (bvA 9 [5, 6, 7, 8]) ?_ fun hd68_3 => ?_
 refine D.all 5 [] (by kernel_rfl) ⟨?_, trivial⟩
 refine D.bs T eI ([s56.2] : List Int) ?_
 exact D.tq [0, 1, 2, 3, 4, 5, 6] hd68_5
 refine D.have false [cE12 blocked, (2, .i more), (3, .i delay), (4, .p 0 0), (9, .b x5), (10, .o 1), (11, .o 2), (12, .o 3), (14, .i s56.2), (82, .i s56.2), (83, .o 2), (84, .i (x20.length : Int)), (85, .b (decide (s56.2 < (x20.length : Int)))), (88, .sl 1 eI blocked), (89, .i s56.2), (90, .b x65), cE17 s_1, (92, .o 4), (93, .sl 1 eI blocked), (95, .i s56.2), (96, .o 5)] [cE16 s_1, (1, .val (.os 1 eI x17)), (2, .val (.os 1 eI x20)), (3, .val (.os 1 eI s56.1)), (4, .val (.os 1 eI ([] : List Int))), (5, .val (.os 1 eI ([s56.2] : List Int)))] 6 4 (bvA 9 [3, 6, 7, 8]) ?_ fun hd68_4 => ?_
 refine D.all 3 [] (by kernel_rfl) ⟨?_, trivial⟩
 refine D.ef1 rfl (.none rfl) (by exact Eff1.ap T rfl rfl rfl rfl rfl rfl (.inl rfl) rfl rfl rfl (fun _ => rfl) rfl y69) rfl rfl ?_
 exact D.tq [0, 1, 2, 3, 4, 6, 5] hd68_5
 refine D.have false [cE12 blocked, (2, .i more), (3, .i delay), (4, .p 0 0), (9, .b x5), (10, .o 1), (11, .o 2), (12, .o 3), (14, .i s56.2), (82, .i s56.2), (83, .o 2), (84, .i (x20.length : Int)), (85, .b (decide (s56.2 < (x20.length : Int)))), (88, .sl 1 eI blocked), (89, .i s56.2), (90, .b x65), cE17 s_1, (92, .o 4), (93, .sl 1 eI blocked), (95, .i s56.2)] [cE16 s_1, (1, .val (.os 1 eI x17)), (2, .val (.os 1 eI x20)), (3, .val (.os 1 eI s56.1)), (4, .val (.os 1 eI ([] : List Int)))] 5 5 (bvA 9 [3, 5, 6, 7, 8]) ?_ fun hd68_1 => ?_
 refine D.all 3 [5] (by kernel_rfl) ⟨?_, ?_, trivial⟩
 refine D.ef1 rfl (.none rfl) (by exact Eff1.ap T rfl rfl rfl rfl rfl rfl (.inl rfl) rfl rfl rfl (fun _ => rfl) rfl y69) rfl rfl ?_
 exact D.tq [0, 1, 2, 3, 4, 5] hd68_3
 refine D.bs T eI ([s56.2] : List Int) ?_
 exact D.tq [0, 1, 2, 3, 4, 5] hd68_4
 refine D.have false [cE12 blocked, (2, .i more), (3, .i delay), (4, .p 0 0), (9, .b x5), (10, .o 1), (11, .o 2), (12, .o 3), (14, .i s56.2), (82, .i s56.2), (83, .o 2), (84, .i (x20.length : Int)), (85, .b (decide (s56.2 < (x20.length : Int)))), (88, .sl 1 eI blocked), (89, .i s56.2), (90, .b x65), cE17 s_1, (93, .sl 1 eI blocked), (95, .i s56.2), (96, .o 4)] [cE16 s_1, (1, .val (.os 1 eI x17)), (2, .val (.os 1 eI x20)), (3, .val (.os 1 eI s56.1)), (4, .val (.os 1 eI ([s56.2] : List Int)))] 5 5 (bvA 9 [1, 3, 6, 7, 8]) ?_ fun hd68_2 => ?_
 refine D.all 1 [] (by kernel_rfl) ⟨?_, trivial⟩
 refine D.bs T eI ([] : List Int) ?_
 exact D.tq [0, 1, 2, 3, 5, 4] hd68_4
 refine D.all 1 [5] (by kernel_rfl) ⟨?_, ?_, trivial⟩
 refine D.bs T eI ([] : List Int) ?_
 exact D.tq [0, 1, 2, 3, 4] hd68_1
 refine D.bs T eI ([s56.2] : List Int) ?_
 exact D.tq [0, 1, 2, 3, 4] hd68_2
 refine C.exit (C.ex (C.ex (C.bex ?_)))
 exact St.wa (idR 4) (j55 _ g)
 refine C.block (St.wk (C.loop (fun (s33 : List Int × Int) => [(1, .sl 1 eI blocked), (2, .i more), (3, .i delay), (4, .p 0 0), (9, .b x5), (10, .o 1), (11, .o 2), (12, .o 3), (13, .i s33.2)]) (fun s33 => [(0, .box (eApiSite s_1)), (1, .val (.os 1 eI x17)), (2, .val (.os 1 eI x20)), (3, .val (.os 1 eI s33.1))]) g (fun s33 Y34 g => ?_)) (Wk.a (idR 4)))
 refine C.seq (C.ss (U.pd 4 T (C.nx ?_)))
 refine C.ite rfl g (fun b37 g => ?_) fun b37 g => ?_
 refine C.skip (C.xs (C.block (C.ss (U.ps 4 T rfl ?_))))
 obtain ⟨x40, y40, g⟩ := g
 refine U.r rfl (.none rfl) rfl rfl (by exact Rd.io T rfl rfl rfl rfl rfl rfl rfl y40) ?_
 refine U.r rfl (.none rfl) rfl rfl (by exact Rd.le T rfl rfl rfl (idx_some y40).2.2 rfl rfl rfl) ?_
 obtain ⟨x41, y41, g⟩ := g
 refine U.r rfl (.none rfl) rfl rfl (by exact Rd.io T rfl rfl rfl rfl rfl rfl rfl y41) ?_
 refine U.e1 rfl (.none rfl) (by exact Eff1.se T (z' := x40) rfl rfl rfl (idx_some y41).2.2 rfl rfl rfl rfl rfl rfl rfl rfl (fun _ => rfl) rfl) ?_
 refine U.done (C.xt (U.ps 2 T rfl (U.r rfl (.none rfl) rfl rfl (by exact Rd.io T rfl rfl rfl rfl rfl rfl rfl y40) ?_)))
 refine U.r rfl (.none rfl) rfl rfl (by exact Rd.le T rfl rfl rfl (idx_some y40).2.2 rfl rfl rfl) ?_
 refine U.pd 1 T (C.nx ?_)
 refine C.jn (fun (x44 : List Int) => [(1, .sl 1 eI blocked), (2, .i more), (3, .i delay), (4, .p 0 0), (9, .b x5), (10, .o 1), (11, .o 2), (12, .o 3), (13, .i s33.2)]) (fun x44 => [(0, .box (eApiSite s_1)), (1, .val (.os 1 eI x17)), (2, .val (.os 1 eI x20)), (3, .val (.os 1 eI x44))]) 4 g (fun x44 g => ?_) fun J45 g j45 => ?_
 refine C.bnx (C.nx (U.start (U.pd 3 T (C.nx ?_))))
 exact St.wk (C.next g) (Wk.a (idR 4))
 refine C.ite rfl g (fun b46 g => ?_) fun b46 g => ?_
 refine D.bg mix 11 [2] [] (fun hQ hS ws M' => ?_)
 refine D.pq 4 (zl [0, 1, 2, 3]) T ?_
 refine D.q 4 [] hQ hS rfl (.none rfl) rfl rfl (by exact Rd.io T rfl rfl rfl rfl rfl rfl rfl y40) rfl (by kernel_rfl) ?_
 refine D.q 5 [] hQ hS rfl (.none rfl) rfl rfl (by exact Rd.le T rfl rfl rfl (idx_some y40).2.2 rfl rfl rfl) rfl (by kernel_rfl) ?_
 refine D.pq 1 [(6, [])] T ?_
 refine D.k 7 (T_reach_Stay _ g) en12 fun x49 g => ?_
 refine D.pq 2 (zl [8, 9]) T ?_
 refine D.q 10 [] hQ hS rfl (.none rfl) rfl rfl (by exact Rd.io T rfl rfl rfl rfl rfl rfl rfl (idx_set y41)) rfl (by kernel_rfl) ?_
 refine D.ze1 rfl (.none rfl) (by exact Eff1.se T (z' := w64 (x40 + (w64 (delay * x49)))) rfl rfl rfl (set_get (idx_some y41).2.2) rfl rfl rfl rfl rfl rfl rfl rfl (fun _ => rfl) rfl) (by kernel_rfl) (by kernel_rfl) ?_
 exact St.wa (idR 4) (j45 _ g)
 refine C.skip ?_
 exact St.wa (idR 4) (j45 _ g)
 refine C.exit (C.ex (C.ex (C.bex ?_)))
 exact St.wa (idR 4) (j32 _ g)
 refine U.start (U.ps 1 T rfl (U.k (T_taquinlaw33_fits s_1 24 _ g) en6 (fun x8 g => ?_)))
 refine U.ps 2 T rfl ?_
 refine g.cs (fun b9 g => ?_) fun b9 g => ?_
 refine U.pq 3 3 false 24 (ntF b9) T ?_
 refine U.pk' (ntF b9) ?_
 refine U.ps 1 T rfl ?_
 refine g.cs (fun b10 g => ?_) fun b10 g => ?_
 refine U.sk' 2 8 false 29 b10 ?_
 refine U.pk b10 ?_
 refine U.ps 1 T rfl (U.sk' 2 12 false 33 rfl ?_)
 refine U.pk rfl ?_
 refine U.done ?_
 exact St.wa [some 0] (j7 _ g)
 refine U.pq 2 8 false 29 b10 T ?_
 refine U.pk' b10 ?_
 refine U.ps 1 T rfl ?_
 refine g.cs (fun b11 g => ?_) fun b11 g => ?_
 refine U.sk' 2 12 false 33 b11 ?_
 refine U.pk b11 ?_
 refine U.done ?_
 exact St.wa [some 0] (j7 _ g)
 refine U.pq 2 12 false 33 b11 T ?_
 refine U.pk' b11 ?_
 refine U.done ?_
 exact St.wa [some 0] (j7 _ g)
 refine U.sk' 3 3 false 24 (ntT b9) ?_
 refine U.pk (ntT b9) ?_
 refine U.ps 1 T rfl (U.sk' 2 8 false 29 rfl ?_)
 refine U.pk rfl ?_
 refine U.ps 1 T rfl (U.sk' 2 12 false 33 rfl ?_)
 refine U.pk rfl ?_
 refine U.done ?_
 exact St.wa [some 0] (j7 _ g)
end Go.Proofs.Ytdcfcldpjfepiaa
