/- The walks: each Go function does what its verification condition says (written by a program of the prover). -/
import Derived.Test.YtbkpekodmhkbdaaGreatW0
import Derived.KernelRfl
set_option maxRecDepth 100000
set_option maxHeartbeats 8000000
set_option linter.unusedVariables false
set_option linter.unusedSimpArgs false
namespace Go.Proofs.YtbkpekodmhkbdaaGreat
open Go Go.Taq
theorem T_survey_Right (s_1 : ApiSite) (post : Bool → Prop) (hm : V_survey_Right s_1 post) :
    Tr Tryz.prog 11 [.agg (eApiSite s_1)] [] 0 (fun A H' k => ∃ y, post y ∧ A = (.b y) ∧ H' = [] ∧ k = 0) := by
 refine Tr.intro (n := 109) Tryz.func11 rfl Tryz.ntmps11 rfl (fun w0 ok F β hβ => ?_)
 unfold V_survey_Right at hm
 refine C.seq (U.start ?_)
 refine U.bx ?_
 refine U.pd 1 T (C.nx (C.seq (C.seq (U.start ?_))))
 refine U.ps 2 T rfl ?_
 refine U.k (T_floor_Right s_1.Floor _ hm) en30 (fun x5 hm => ?_)
 refine U.pd 1 T (C.nx ?_)
 refine C.ite rfl hm (fun hb6 hm => ?_) (fun hb6 hm => ?_)
 refine C.seq (U.start ?_)
 refine U.pd 1 T (C.nx (C.ret (C.rt ?_)))
 exact C.f1 T hβ ⟨false, hm, rfl, rfl, rfl⟩
 refine C.skip (C.nx (C.seq (U.start ?_)))
 refine U.ps 2 T rfl ?_
 refine U.e rfl (.none rfl) (by exact Eff.c [] (v := false) (T_survey_newMaker s_1.Floor _ hm) en31 rfl rfl rfl (.eq rfl) trivial rfl rfl rfl rfl rfl rfl (fun h => by cases h) (.inr ⟨rfl, rfl⟩) (fun _ => rfl) (fun _ => rfl) rfl) (fun x11' hm => ?_)
 obtain ⟨x11⟩ := x11'
 refine U.pd 1 T (C.nx (C.seq (C.seq (U.start ?_))))
 refine U.pd 4 T (C.nx ?_)
 refine C.jn (fun (x14 : Int × Int × Int × List Int × List Int × List ApiZone × List ApiApart × List ApiShelf × List ApiStart × List (Int × Int) × List (Int × Bool) × List (Int × Bool) × List (ByteArray × Int) × List (Int × Bool) × List Int × List Int) => [(1, .p 0 0), (3, .p 1 0)]) (fun (x14 : Int × Int × Int × List Int × List Int × List ApiZone × List ApiApart × List ApiShelf × List ApiStart × List (Int × Int) × List (Int × Bool) × List (Int × Bool) × List (ByteArray × Int) × List (Int × Bool) × List Int × List Int) => [(0, .box (eApiSite s_1)), (1, .box [.i x14.1, .i x14.2.1, .i x14.2.2.1, .sl 1 eI x14.2.2.2.1, .sl 1 eI x14.2.2.2.2.1, .o 2, .o 3, .o 4, .o 5, .o 6, .o 7, .o 8, .o 9, .o 10, .o 11, .o 12]), (2, .val (.os 5 eApiZone x14.2.2.2.2.2.1)), (3, .val (.os 2 eApiApart x14.2.2.2.2.2.2.1)), (4, .val (.os 2 eApiShelf x14.2.2.2.2.2.2.2.1)), (5, .val (.os 2 eApiStart x14.2.2.2.2.2.2.2.2.1)), (6, .val (.om kI veI x14.2.2.2.2.2.2.2.2.2.1)), (7, .val (.om kI veB x14.2.2.2.2.2.2.2.2.2.2.1)), (8, .val (.om kI veB x14.2.2.2.2.2.2.2.2.2.2.2.1)), (9, .val (.om kS veI x14.2.2.2.2.2.2.2.2.2.2.2.2.1)), (10, .val (.om kI veB x14.2.2.2.2.2.2.2.2.2.2.2.2.2.1)), (11, .val (.os 1 eI x14.2.2.2.2.2.2.2.2.2.2.2.2.2.2.1)), (12, .val (.os 1 eI x14.2.2.2.2.2.2.2.2.2.2.2.2.2.2.2))]) 13 hm (fun x14 hm => ?_) (fun J15 hm hJ15 => ?_)
 refine C.nx (C.seq (C.seq (U.start ?_)))
 refine U.pd 4 T (C.nx ?_)
 refine C.jn (fun (x43 : Int × Int × Int × List Int × List Int × List ApiZone × List ApiApart × List ApiShelf × List ApiStart × List (Int × Int) × List (Int × Bool) × List (Int × Bool) × List (ByteArray × Int) × List (Int × Bool) × List Int × List Int) => [(1, .p 0 0), (3, .p 1 0)]) (fun (x43 : Int × Int × Int × List Int × List Int × List ApiZone × List ApiApart × List ApiShelf × List ApiStart × List (Int × Int) × List (Int × Bool) × List (Int × Bool) × List (ByteArray × Int) × List (Int × Bool) × List Int × List Int) => [(0, .box (eApiSite s_1)), (1, .box [.i x43.1, .i x43.2.1, .i x43.2.2.1, .sl 1 eI x43.2.2.2.1, .sl 1 eI x43.2.2.2.2.1, .o 2, .o 3, .o 4, .o 5, .o 6, .o 7, .o 8, .o 9, .o 10, .o 11, .o 12]), (2, .val (.os 5 eApiZone x43.2.2.2.2.2.1)), (3, .val (.os 2 eApiApart x43.2.2.2.2.2.2.1)), (4, .val (.os 2 eApiShelf x43.2.2.2.2.2.2.2.1)), (5, .val (.os 2 eApiStart x43.2.2.2.2.2.2.2.2.1)), (6, .val (.om kI veI x43.2.2.2.2.2.2.2.2.2.1)), (7, .val (.om kI veB x43.2.2.2.2.2.2.2.2.2.2.1)), (8, .val (.om kI veB x43.2.2.2.2.2.2.2.2.2.2.2.1)), (9, .val (.om kS veI x43.2.2.2.2.2.2.2.2.2.2.2.2.1)), (10, .val (.om kI veB x43.2.2.2.2.2.2.2.2.2.2.2.2.2.1)), (11, .val (.os 1 eI x43.2.2.2.2.2.2.2.2.2.2.2.2.2.2.1)), (12, .val (.os 1 eI x43.2.2.2.2.2.2.2.2.2.2.2.2.2.2.2))]) 13 hm (fun x43 hm => ?_) (fun J44 hm hJ44 => ?_)
 refine C.nx (C.seq (C.seq (U.start ?_)))
 refine U.pd 4 T (C.nx ?_)
 refine C.jn (fun (x63 : Int × Int × Int × List Int × List Int × List ApiZone × List ApiApart × List ApiShelf × List ApiStart × List (Int × Int) × List (Int × Bool) × List (Int × Bool) × List (ByteArray × Int) × List (Int × Bool) × List Int × List Int) => [(1, .p 0 0), (3, .p 1 0)]) (fun (x63 : Int × Int × Int × List Int × List Int × List ApiZone × List ApiApart × List ApiShelf × List ApiStart × List (Int × Int) × List (Int × Bool) × List (Int × Bool) × List (ByteArray × Int) × List (Int × Bool) × List Int × List Int) => [(0, .box (eApiSite s_1)), (1, .box [.i x63.1, .i x63.2.1, .i x63.2.2.1, .sl 1 eI x63.2.2.2.1, .sl 1 eI x63.2.2.2.2.1, .o 2, .o 3, .o 4, .o 5, .o 6, .o 7, .o 8, .o 9, .o 10, .o 11, .o 12]), (2, .val (.os 5 eApiZone x63.2.2.2.2.2.1)), (3, .val (.os 2 eApiApart x63.2.2.2.2.2.2.1)), (4, .val (.os 2 eApiShelf x63.2.2.2.2.2.2.2.1)), (5, .val (.os 2 eApiStart x63.2.2.2.2.2.2.2.2.1)), (6, .val (.om kI veI x63.2.2.2.2.2.2.2.2.2.1)), (7, .val (.om kI veB x63.2.2.2.2.2.2.2.2.2.2.1)), (8, .val (.om kI veB x63.2.2.2.2.2.2.2.2.2.2.2.1)), (9, .val (.om kS veI x63.2.2.2.2.2.2.2.2.2.2.2.2.1)), (10, .val (.om kI veB x63.2.2.2.2.2.2.2.2.2.2.2.2.2.1)), (11, .val (.os 1 eI x63.2.2.2.2.2.2.2.2.2.2.2.2.2.2.1)), (12, .val (.os 1 eI x63.2.2.2.2.2.2.2.2.2.2.2.2.2.2.2))]) 13 hm (fun x63 hm => ?_) (fun J64 hm hJ64 => ?_)
 refine C.nx (C.seq (C.seq (U.start ?_)))
 refine U.pd 4 T (C.nx ?_)
 refine C.jn (fun (x83 : Int × Int × Int × List Int × List Int × List ApiZone × List ApiApart × List ApiShelf × List ApiStart × List (Int × Int) × List (Int × Bool) × List (Int × Bool) × List (ByteArray × Int) × List (Int × Bool) × List Int × List Int) => [(3, .p 0 0)]) (fun (x83 : Int × Int × Int × List Int × List Int × List ApiZone × List ApiApart × List ApiShelf × List ApiStart × List (Int × Int) × List (Int × Bool) × List (Int × Bool) × List (ByteArray × Int) × List (Int × Bool) × List Int × List Int) => [(0, .box [.i x83.1, .i x83.2.1, .i x83.2.2.1, .sl 1 eI x83.2.2.2.1, .sl 1 eI x83.2.2.2.2.1, .o 1, .o 2, .o 3, .o 4, .o 5, .o 6, .o 7, .o 8, .o 9, .o 10, .o 11]), (1, .val (.os 5 eApiZone x83.2.2.2.2.2.1)), (2, .val (.os 2 eApiApart x83.2.2.2.2.2.2.1)), (3, .val (.os 2 eApiShelf x83.2.2.2.2.2.2.2.1)), (4, .val (.os 2 eApiStart x83.2.2.2.2.2.2.2.2.1)), (5, .val (.om kI veI x83.2.2.2.2.2.2.2.2.2.1)), (6, .val (.om kI veB x83.2.2.2.2.2.2.2.2.2.2.1)), (7, .val (.om kI veB x83.2.2.2.2.2.2.2.2.2.2.2.1)), (8, .val (.om kS veI x83.2.2.2.2.2.2.2.2.2.2.2.2.1)), (9, .val (.om kI veB x83.2.2.2.2.2.2.2.2.2.2.2.2.2.1)), (10, .val (.os 1 eI x83.2.2.2.2.2.2.2.2.2.2.2.2.2.2.1)), (11, .val (.os 1 eI x83.2.2.2.2.2.2.2.2.2.2.2.2.2.2.2))]) 12 hm (fun x83 hm => ?_) (fun J84 hm hJ84 => ?_)
 refine C.nx (C.seq ?_)
 refine C.jn (fun (x101 : Bool) => [(2, .b x101)]) (fun (x101 : Bool) => []) 0 hm (fun x101 hm => ?_) (fun J102 hm hJ102 => ?_)
 refine C.nx (C.ret ?_)
 exact C.f1 T hβ ⟨x101, hm, rfl, rfl, rfl⟩
 refine U.start ?_
 refine U.ps 1 T rfl ?_
 refine U.k (T_survey_maker_beside ({ site := ({ Floor := ({ W := x83.1, H := x83.2.1, D := x83.2.2.1, Kind := x83.2.2.2.1, Out := x83.2.2.2.2.1 : ApiFloor }), Zones := x83.2.2.2.2.2.1, Aparts := x83.2.2.2.2.2.2.1, Shelves := x83.2.2.2.2.2.2.2.1, Robots := x83.2.2.2.2.2.2.2.2.1 : ApiSite }), shelf := x83.2.2.2.2.2.2.2.2.2.1, robot := x83.2.2.2.2.2.2.2.2.2.2.1, zoned := x83.2.2.2.2.2.2.2.2.2.2.2.1, names := x83.2.2.2.2.2.2.2.2.2.2.2.2.1, oneways := x83.2.2.2.2.2.2.2.2.2.2.2.2.2.1, shelves := x83.2.2.2.2.2.2.2.2.2.2.2.2.2.2.1, zones := x83.2.2.2.2.2.2.2.2.2.2.2.2.2.2.2 : SurveyMaker }) _ hm) en40 (fun x103 hm => ?_)
 refine U.ps 2 T rfl ?_
 refine hm.cs (fun hb104 hm => ?_) (fun hb104 hm => ?_)
 refine U.pg 1 3 true 100 hb104 T rfl rfl rfl rfl ?_
 refine U.k (T_survey_maker_crowded ({ site := ({ Floor := ({ W := x83.1, H := x83.2.1, D := x83.2.2.1, Kind := x83.2.2.2.1, Out := x83.2.2.2.2.1 : ApiFloor }), Zones := x83.2.2.2.2.2.1, Aparts := x83.2.2.2.2.2.2.1, Shelves := x83.2.2.2.2.2.2.2.1, Robots := x83.2.2.2.2.2.2.2.2.1 : ApiSite }), shelf := x83.2.2.2.2.2.2.2.2.2.1, robot := x83.2.2.2.2.2.2.2.2.2.2.1, zoned := x83.2.2.2.2.2.2.2.2.2.2.2.1, names := x83.2.2.2.2.2.2.2.2.2.2.2.2.1, oneways := x83.2.2.2.2.2.2.2.2.2.2.2.2.2.1, shelves := x83.2.2.2.2.2.2.2.2.2.2.2.2.2.2.1, zones := x83.2.2.2.2.2.2.2.2.2.2.2.2.2.2.2 : SurveyMaker }) _ hm) en41 (fun x105 hm => ?_) (hw := .take 3 true 100 _ hb104 rfl rfl rfl)
 refine U.pg 1 3 true 100 hb104 T rfl rfl rfl rfl ?_
 refine U.pk hb104 ?_
 refine U.ps 1 T rfl ?_
 refine hm.cs (fun hb106 hm => ?_) (fun hb106 hm => ?_)
 refine U.pg 1 8 true 105 hb106 T rfl rfl rfl rfl ?_
 refine U.k (T_survey_maker_charger ({ site := ({ Floor := ({ W := x83.1, H := x83.2.1, D := x83.2.2.1, Kind := x83.2.2.2.1, Out := x83.2.2.2.2.1 : ApiFloor }), Zones := x83.2.2.2.2.2.1, Aparts := x83.2.2.2.2.2.2.1, Shelves := x83.2.2.2.2.2.2.2.1, Robots := x83.2.2.2.2.2.2.2.2.1 : ApiSite }), shelf := x83.2.2.2.2.2.2.2.2.2.1, robot := x83.2.2.2.2.2.2.2.2.2.2.1, zoned := x83.2.2.2.2.2.2.2.2.2.2.2.1, names := x83.2.2.2.2.2.2.2.2.2.2.2.2.1, oneways := x83.2.2.2.2.2.2.2.2.2.2.2.2.2.1, shelves := x83.2.2.2.2.2.2.2.2.2.2.2.2.2.2.1, zones := x83.2.2.2.2.2.2.2.2.2.2.2.2.2.2.2 : SurveyMaker }) _ hm) en42 (fun x107 hm => ?_) (hw := .take 8 true 105 _ hb106 rfl rfl rfl)
 refine U.pk hb106 ?_
 refine U.pd 1 T ?_
 exact St.wn (hJ102 _ hm)
 refine U.sks 2 8 true 105 hb106 rfl rfl rfl ?_
 refine U.pk' hb106 ?_
 refine U.pd 1 T ?_
 exact St.wn (hJ102 _ hm)
 refine U.sks 3 3 true 100 hb104 rfl rfl rfl ?_
 refine U.pk' hb104 ?_
 refine U.ps 1 T rfl ?_
 refine U.sks 2 8 true 105 rfl rfl rfl rfl ?_
 refine U.pk' rfl ?_
 refine U.pd 1 T ?_
 exact St.wn (hJ102 _ hm)
 refine C.block ?_
 refine St.wk (C.loop (fun (s85 : Int × Int × Int × List Int × List Int × List ApiZone × List ApiApart × List ApiShelf × List ApiStart × List (Int × Int) × List (Int × Bool) × List (Int × Bool) × List (ByteArray × Int) × List (Int × Bool) × List Int × List Int × Int) => [(3, .p 0 0), (86, .sl 2 eApiStart s_1.Robots), (87, .i (s_1.Robots.length : Int)), (88, .i s85.2.2.2.2.2.2.2.2.2.2.2.2.2.2.2.2)]) (fun (s85 : Int × Int × Int × List Int × List Int × List ApiZone × List ApiApart × List ApiShelf × List ApiStart × List (Int × Int) × List (Int × Bool) × List (Int × Bool) × List (ByteArray × Int) × List (Int × Bool) × List Int × List Int × Int) => [(0, .box [.i s85.1, .i s85.2.1, .i s85.2.2.1, .sl 1 eI s85.2.2.2.1, .sl 1 eI s85.2.2.2.2.1, .o 1, .o 2, .o 3, .o 4, .o 5, .o 6, .o 7, .o 8, .o 9, .o 10, .o 11]), (1, .val (.os 5 eApiZone s85.2.2.2.2.2.1)), (2, .val (.os 2 eApiApart s85.2.2.2.2.2.2.1)), (3, .val (.os 2 eApiShelf s85.2.2.2.2.2.2.2.1)), (4, .val (.os 2 eApiStart s85.2.2.2.2.2.2.2.2.1)), (5, .val (.om kI veI s85.2.2.2.2.2.2.2.2.2.1)), (6, .val (.om kI veB s85.2.2.2.2.2.2.2.2.2.2.1)), (7, .val (.om kI veB s85.2.2.2.2.2.2.2.2.2.2.2.1)), (8, .val (.om kS veI s85.2.2.2.2.2.2.2.2.2.2.2.2.1)), (9, .val (.om kI veB s85.2.2.2.2.2.2.2.2.2.2.2.2.2.1)), (10, .val (.os 1 eI s85.2.2.2.2.2.2.2.2.2.2.2.2.2.2.1)), (11, .val (.os 1 eI s85.2.2.2.2.2.2.2.2.2.2.2.2.2.2.2.1))]) hm (fun s85 Y86 hm => ?_)) (Wk.a (sqR 1 12))
 refine C.seq (U.start ?_)
 refine U.pd 1 T (C.nx (C.seq ?_))
 refine C.ite rfl hm (fun hb89 hm => ?_) (fun hb89 hm => ?_)
 refine C.skip (C.nx (C.seq (C.block (C.seq (U.start ?_)))))
 obtain ⟨x92, hx92, hm⟩ := hm
 refine U.r rfl (.none rfl) rfl rfl (by exact Rd.ix T rfl rfl rfl rfl rfl rfl hx92) ?_
 refine U.ps 1 T rfl ?_
 refine U.e1 rfl (.none rfl) (by exact Eff1.al T rfl rfl rfl rfl) ?_
 refine U.e1 rfl (.none rfl) (by exact Eff1.st T rfl rfl rfl rfl rfl rfl rfl rfl rfl rfl) ?_
 refine U.done (C.nx (C.seq (U.start ?_)))
 refine U.ps 2 T rfl ?_
 refine U.c (idR 12) (T_survey_maker_addRobot__p0 x92 ({ site := ({ Floor := ({ W := s85.1, H := s85.2.1, D := s85.2.2.1, Kind := s85.2.2.2.1, Out := s85.2.2.2.2.1 : ApiFloor }), Zones := s85.2.2.2.2.2.1, Aparts := s85.2.2.2.2.2.2.1, Shelves := s85.2.2.2.2.2.2.2.1, Robots := s85.2.2.2.2.2.2.2.2.1 : ApiSite }), shelf := s85.2.2.2.2.2.2.2.2.2.1, robot := s85.2.2.2.2.2.2.2.2.2.2.1, zoned := s85.2.2.2.2.2.2.2.2.2.2.2.1, names := s85.2.2.2.2.2.2.2.2.2.2.2.2.1, oneways := s85.2.2.2.2.2.2.2.2.2.2.2.2.2.1, shelves := s85.2.2.2.2.2.2.2.2.2.2.2.2.2.2.1, zones := s85.2.2.2.2.2.2.2.2.2.2.2.2.2.2.2.1 : SurveyMaker }) _ hm) en39 (fun x95 hm => ?_)
 refine U.pd 1 T (C.nx ?_)
 refine C.ite rfl hm (fun hb96 hm => ?_) (fun hb96 hm => ?_)
 refine C.seq (U.start ?_)
 refine U.pd 1 T (C.nx (C.ret (C.brt (C.rt (C.rt (C.brt (C.rt ?_)))))))
 exact C.f1 T hβ ⟨false, hm, rfl, rfl, rfl⟩
 refine C.skip (C.bnx (C.nx (U.start ?_)))
 refine U.pd 2 T (C.nx ?_)
 exact St.wk (C.next hm) (Wk.a [some 0, some 25, some 26, some 27, some 28, some 29, some 30, some 31, some 32, some 33, some 34, some 35])
 refine C.exit (C.ex (C.ex (C.bex ?_)))
 exact St.wa (idR 12) (hJ84 _ hm)
 refine C.block ?_
 refine St.wk (C.loop (fun (s65 : Int × Int × Int × List Int × List Int × List ApiZone × List ApiApart × List ApiShelf × List ApiStart × List (Int × Int) × List (Int × Bool) × List (Int × Bool) × List (ByteArray × Int) × List (Int × Bool) × List Int × List Int × Int) => [(1, .p 0 0), (3, .p 1 0), (74, .sl 2 eApiShelf s_1.Shelves), (75, .i (s_1.Shelves.length : Int)), (76, .i s65.2.2.2.2.2.2.2.2.2.2.2.2.2.2.2.2)]) (fun (s65 : Int × Int × Int × List Int × List Int × List ApiZone × List ApiApart × List ApiShelf × List ApiStart × List (Int × Int) × List (Int × Bool) × List (Int × Bool) × List (ByteArray × Int) × List (Int × Bool) × List Int × List Int × Int) => [(0, .box (eApiSite s_1)), (1, .box [.i s65.1, .i s65.2.1, .i s65.2.2.1, .sl 1 eI s65.2.2.2.1, .sl 1 eI s65.2.2.2.2.1, .o 2, .o 3, .o 4, .o 5, .o 6, .o 7, .o 8, .o 9, .o 10, .o 11, .o 12]), (2, .val (.os 5 eApiZone s65.2.2.2.2.2.1)), (3, .val (.os 2 eApiApart s65.2.2.2.2.2.2.1)), (4, .val (.os 2 eApiShelf s65.2.2.2.2.2.2.2.1)), (5, .val (.os 2 eApiStart s65.2.2.2.2.2.2.2.2.1)), (6, .val (.om kI veI s65.2.2.2.2.2.2.2.2.2.1)), (7, .val (.om kI veB s65.2.2.2.2.2.2.2.2.2.2.1)), (8, .val (.om kI veB s65.2.2.2.2.2.2.2.2.2.2.2.1)), (9, .val (.om kS veI s65.2.2.2.2.2.2.2.2.2.2.2.2.1)), (10, .val (.om kI veB s65.2.2.2.2.2.2.2.2.2.2.2.2.2.1)), (11, .val (.os 1 eI s65.2.2.2.2.2.2.2.2.2.2.2.2.2.2.1)), (12, .val (.os 1 eI s65.2.2.2.2.2.2.2.2.2.2.2.2.2.2.2.1))]) hm (fun s65 Y66 hm => ?_)) (Wk.a (idR 13))
 refine C.seq (U.start ?_)
 refine U.pd 1 T (C.nx (C.seq ?_))
 refine C.ite rfl hm (fun hb69 hm => ?_) (fun hb69 hm => ?_)
 refine C.skip (C.nx (C.seq (C.block (C.seq (U.start ?_)))))
 obtain ⟨x72, hx72, hm⟩ := hm
 refine U.r rfl (.none rfl) rfl rfl (by exact Rd.ix T rfl rfl rfl rfl rfl rfl hx72) ?_
 refine U.ps 1 T rfl ?_
 refine U.e1 rfl (.none rfl) (by exact Eff1.al T rfl rfl rfl rfl) ?_
 refine U.e1 rfl (.none rfl) (by exact Eff1.st T rfl rfl rfl rfl rfl rfl rfl rfl rfl rfl) ?_
 refine U.done (C.nx (C.seq (U.start ?_)))
 refine U.ps 2 T rfl ?_
 refine U.c (sqR 1 12) (T_survey_maker_addShelf__p0 x72 ({ site := ({ Floor := ({ W := s65.1, H := s65.2.1, D := s65.2.2.1, Kind := s65.2.2.2.1, Out := s65.2.2.2.2.1 : ApiFloor }), Zones := s65.2.2.2.2.2.1, Aparts := s65.2.2.2.2.2.2.1, Shelves := s65.2.2.2.2.2.2.2.1, Robots := s65.2.2.2.2.2.2.2.2.1 : ApiSite }), shelf := s65.2.2.2.2.2.2.2.2.2.1, robot := s65.2.2.2.2.2.2.2.2.2.2.1, zoned := s65.2.2.2.2.2.2.2.2.2.2.2.1, names := s65.2.2.2.2.2.2.2.2.2.2.2.2.1, oneways := s65.2.2.2.2.2.2.2.2.2.2.2.2.2.1, shelves := s65.2.2.2.2.2.2.2.2.2.2.2.2.2.2.1, zones := s65.2.2.2.2.2.2.2.2.2.2.2.2.2.2.2.1 : SurveyMaker }) _ hm) en38 (fun x75 hm => ?_)
 refine U.pd 1 T (C.nx ?_)
 refine C.ite rfl hm (fun hb76 hm => ?_) (fun hb76 hm => ?_)
 refine C.seq (U.start ?_)
 refine U.pd 1 T (C.nx (C.ret (C.brt (C.rt (C.rt (C.brt (C.rt ?_)))))))
 exact C.f1 T hβ ⟨false, hm, rfl, rfl, rfl⟩
 refine C.skip (C.bnx (C.nx (U.start ?_)))
 refine U.pd 2 T (C.nx ?_)
 exact St.wk (C.next hm) (Wk.a [some 0, some 1, some 26, some 27, some 28, some 29, some 30, some 31, some 32, some 33, some 34, some 35, some 36])
 refine C.exit (C.ex (C.ex (C.bex ?_)))
 exact St.wa (idR 13) (hJ64 _ hm)
 refine C.block ?_
 refine St.wk (C.loop (fun (s45 : Int × Int × Int × List Int × List Int × List ApiZone × List ApiApart × List ApiShelf × List ApiStart × List (Int × Int) × List (Int × Bool) × List (Int × Bool) × List (ByteArray × Int) × List (Int × Bool) × List Int × List Int × Int) => [(1, .p 0 0), (3, .p 1 0), (62, .sl 2 eApiApart s_1.Aparts), (63, .i (s_1.Aparts.length : Int)), (64, .i s45.2.2.2.2.2.2.2.2.2.2.2.2.2.2.2.2)]) (fun (s45 : Int × Int × Int × List Int × List Int × List ApiZone × List ApiApart × List ApiShelf × List ApiStart × List (Int × Int) × List (Int × Bool) × List (Int × Bool) × List (ByteArray × Int) × List (Int × Bool) × List Int × List Int × Int) => [(0, .box (eApiSite s_1)), (1, .box [.i s45.1, .i s45.2.1, .i s45.2.2.1, .sl 1 eI s45.2.2.2.1, .sl 1 eI s45.2.2.2.2.1, .o 2, .o 3, .o 4, .o 5, .o 6, .o 7, .o 8, .o 9, .o 10, .o 11, .o 12]), (2, .val (.os 5 eApiZone s45.2.2.2.2.2.1)), (3, .val (.os 2 eApiApart s45.2.2.2.2.2.2.1)), (4, .val (.os 2 eApiShelf s45.2.2.2.2.2.2.2.1)), (5, .val (.os 2 eApiStart s45.2.2.2.2.2.2.2.2.1)), (6, .val (.om kI veI s45.2.2.2.2.2.2.2.2.2.1)), (7, .val (.om kI veB s45.2.2.2.2.2.2.2.2.2.2.1)), (8, .val (.om kI veB s45.2.2.2.2.2.2.2.2.2.2.2.1)), (9, .val (.om kS veI s45.2.2.2.2.2.2.2.2.2.2.2.2.1)), (10, .val (.om kI veB s45.2.2.2.2.2.2.2.2.2.2.2.2.2.1)), (11, .val (.os 1 eI s45.2.2.2.2.2.2.2.2.2.2.2.2.2.2.1)), (12, .val (.os 1 eI s45.2.2.2.2.2.2.2.2.2.2.2.2.2.2.2.1))]) hm (fun s45 Y46 hm => ?_)) (Wk.a (idR 13))
 refine C.seq (U.start ?_)
 refine U.pd 1 T (C.nx (C.seq ?_))
 refine C.ite rfl hm (fun hb49 hm => ?_) (fun hb49 hm => ?_)
 refine C.skip (C.nx (C.seq (C.block (C.seq (U.start ?_)))))
 obtain ⟨x52, hx52, hm⟩ := hm
 refine U.r rfl (.none rfl) rfl rfl (by exact Rd.ix T rfl rfl rfl rfl rfl rfl hx52) ?_
 refine U.ps 1 T rfl ?_
 refine U.e1 rfl (.none rfl) (by exact Eff1.al T rfl rfl rfl rfl) ?_
 refine U.e1 rfl (.none rfl) (by exact Eff1.st T rfl rfl rfl rfl rfl rfl rfl rfl rfl rfl) ?_
 refine U.done (C.nx (C.seq (U.start ?_)))
 refine U.ps 2 T rfl ?_
 refine U.c (sqR 1 12) (T_survey_maker_addApart__p0 x52 ({ site := ({ Floor := ({ W := s45.1, H := s45.2.1, D := s45.2.2.1, Kind := s45.2.2.2.1, Out := s45.2.2.2.2.1 : ApiFloor }), Zones := s45.2.2.2.2.2.1, Aparts := s45.2.2.2.2.2.2.1, Shelves := s45.2.2.2.2.2.2.2.1, Robots := s45.2.2.2.2.2.2.2.2.1 : ApiSite }), shelf := s45.2.2.2.2.2.2.2.2.2.1, robot := s45.2.2.2.2.2.2.2.2.2.2.1, zoned := s45.2.2.2.2.2.2.2.2.2.2.2.1, names := s45.2.2.2.2.2.2.2.2.2.2.2.2.1, oneways := s45.2.2.2.2.2.2.2.2.2.2.2.2.2.1, shelves := s45.2.2.2.2.2.2.2.2.2.2.2.2.2.2.1, zones := s45.2.2.2.2.2.2.2.2.2.2.2.2.2.2.2.1 : SurveyMaker }) _ hm) en37 (fun x55 hm => ?_)
 refine U.pd 1 T (C.nx ?_)
 refine C.ite rfl hm (fun hb56 hm => ?_) (fun hb56 hm => ?_)
 refine C.seq (U.start ?_)
 refine U.pd 1 T (C.nx (C.ret (C.brt (C.rt (C.rt (C.brt (C.rt ?_)))))))
 exact C.f1 T hβ ⟨false, hm, rfl, rfl, rfl⟩
 refine C.skip (C.bnx (C.nx (U.start ?_)))
 refine U.pd 2 T (C.nx ?_)
 exact St.wk (C.next hm) (Wk.a [some 0, some 1, some 26, some 27, some 28, some 29, some 30, some 31, some 32, some 33, some 34, some 35, some 36])
 refine C.exit (C.ex (C.ex (C.bex ?_)))
 exact St.wa (idR 13) (hJ44 _ hm)
 refine C.block ?_
 refine St.wk (C.loop (fun (s16 : Int × Int × Int × List Int × List Int × List ApiZone × List ApiApart × List ApiShelf × List ApiStart × List (Int × Int) × List (Int × Bool) × List (Int × Bool) × List (ByteArray × Int) × List (Int × Bool) × List Int × List Int × Int) => [(1, .p 0 0), (3, .p 1 0), (20, .sl 5 eApiZone s_1.Zones), (21, .i (s_1.Zones.length : Int)), (22, .i s16.2.2.2.2.2.2.2.2.2.2.2.2.2.2.2.2)]) (fun (s16 : Int × Int × Int × List Int × List Int × List ApiZone × List ApiApart × List ApiShelf × List ApiStart × List (Int × Int) × List (Int × Bool) × List (Int × Bool) × List (ByteArray × Int) × List (Int × Bool) × List Int × List Int × Int) => [(0, .box (eApiSite s_1)), (1, .box [.i s16.1, .i s16.2.1, .i s16.2.2.1, .sl 1 eI s16.2.2.2.1, .sl 1 eI s16.2.2.2.2.1, .o 2, .o 3, .o 4, .o 5, .o 6, .o 7, .o 8, .o 9, .o 10, .o 11, .o 12]), (2, .val (.os 5 eApiZone s16.2.2.2.2.2.1)), (3, .val (.os 2 eApiApart s16.2.2.2.2.2.2.1)), (4, .val (.os 2 eApiShelf s16.2.2.2.2.2.2.2.1)), (5, .val (.os 2 eApiStart s16.2.2.2.2.2.2.2.2.1)), (6, .val (.om kI veI s16.2.2.2.2.2.2.2.2.2.1)), (7, .val (.om kI veB s16.2.2.2.2.2.2.2.2.2.2.1)), (8, .val (.om kI veB s16.2.2.2.2.2.2.2.2.2.2.2.1)), (9, .val (.om kS veI s16.2.2.2.2.2.2.2.2.2.2.2.2.1)), (10, .val (.om kI veB s16.2.2.2.2.2.2.2.2.2.2.2.2.2.1)), (11, .val (.os 1 eI s16.2.2.2.2.2.2.2.2.2.2.2.2.2.2.1)), (12, .val (.os 1 eI s16.2.2.2.2.2.2.2.2.2.2.2.2.2.2.2.1))]) hm (fun s16 Y17 hm => ?_)) (Wk.a [some 0, some 12, some 1, some 2, some 3, some 4, some 5, some 6, some 7, some 8, some 9, some 10, some 11])
 refine C.seq (U.start ?_)
 refine U.pd 1 T (C.nx (C.seq ?_))
 refine C.ite rfl hm (fun hb20 hm => ?_) (fun hb20 hm => ?_)
 refine C.skip (C.nx (C.seq (C.block (C.seq (U.start ?_)))))
 obtain ⟨x23, hx23, hm⟩ := hm
 refine U.r rfl (.none rfl) rfl rfl (by exact Rd.ix T rfl rfl rfl rfl rfl rfl hx23) ?_
 refine U.ps 1 T rfl ?_
 refine U.e1 rfl (.none rfl) (by exact Eff1.al T rfl rfl rfl rfl) ?_
 refine U.e1 rfl (.none rfl) (by exact Eff1.st T rfl rfl rfl rfl rfl rfl rfl rfl rfl rfl) ?_
 refine U.done (C.nx (C.seq ?_))
 refine C.jn (fun (x24 : Int × Int × Int × List Int × List Int × List ApiZone × List ApiApart × List ApiShelf × List ApiStart × List (Int × Int) × List (Int × Bool) × List (Int × Bool) × List (ByteArray × Int) × List (Int × Bool) × List Int × List Int × Bool) => [(1, .p 0 0), (3, .p 1 0), (20, .sl 5 eApiZone s_1.Zones), (21, .i (s_1.Zones.length : Int)), (22, .i s16.2.2.2.2.2.2.2.2.2.2.2.2.2.2.2.2), (59, .b x24.2.2.2.2.2.2.2.2.2.2.2.2.2.2.2.2)]) (fun (x24 : Int × Int × Int × List Int × List Int × List ApiZone × List ApiApart × List ApiShelf × List ApiStart × List (Int × Int) × List (Int × Bool) × List (Int × Bool) × List (ByteArray × Int) × List (Int × Bool) × List Int × List Int × Bool) => [(0, .box (eApiSite s_1)), (1, .box [.i x24.1, .i x24.2.1, .i x24.2.2.1, .sl 1 eI x24.2.2.2.1, .sl 1 eI x24.2.2.2.2.1, .o 2, .o 3, .o 4, .o 5, .o 6, .o 7, .o 8, .o 9, .o 10, .o 11, .o 12]), (2, .val (.os 5 eApiZone x24.2.2.2.2.2.1)), (3, .val (.os 2 eApiApart x24.2.2.2.2.2.2.1)), (4, .val (.os 2 eApiShelf x24.2.2.2.2.2.2.2.1)), (5, .val (.os 2 eApiStart x24.2.2.2.2.2.2.2.2.1)), (6, .val (.om kI veI x24.2.2.2.2.2.2.2.2.2.1)), (7, .val (.om kI veB x24.2.2.2.2.2.2.2.2.2.2.1)), (8, .val (.om kI veB x24.2.2.2.2.2.2.2.2.2.2.2.1)), (9, .val (.om kS veI x24.2.2.2.2.2.2.2.2.2.2.2.2.1)), (10, .val (.om kI veB x24.2.2.2.2.2.2.2.2.2.2.2.2.2.1)), (11, .val (.os 1 eI x24.2.2.2.2.2.2.2.2.2.2.2.2.2.2.1)), (12, .val (.os 1 eI x24.2.2.2.2.2.2.2.2.2.2.2.2.2.2.2.1))]) 13 hm (fun x24 hm => ?_) (fun J25 hm hJ25 => ?_)
 refine C.nx ?_
 refine C.ite rfl hm (fun hb36 hm => ?_) (fun hb36 hm => ?_)
 refine C.seq (U.start ?_)
 refine U.pd 1 T (C.nx (C.ret (C.brt (C.rt (C.rt (C.brt (C.rt ?_)))))))
 exact C.f1 T hβ ⟨false, hm, rfl, rfl, rfl⟩
 refine C.skip (C.bnx (C.nx (U.start ?_)))
 refine U.pd 2 T (C.nx ?_)
 exact St.wk (C.next hm) (Wk.a (idR 13))
 refine U.start ?_
 refine U.ps 2 T rfl ?_
 refine U.k (T_survey_Name x23.Name _ hm) en32 (fun x26 hm => ?_)
 refine U.ps 2 T rfl ?_
 refine hm.cs (fun hb27 hm => ?_) (fun hb27 hm => ?_)
 refine U.pg 2 4 false 30 (ntF hb27) T rfl rfl rfl rfl ?_
 refine U.k (T_survey_within x23.Speed 1 100 _ hm) en33 (fun x28 hm => ?_) (hw := .take 4 false 30 _ (ntF hb27) rfl rfl rfl)
 refine U.pg 1 4 false 30 (ntF hb27) T rfl rfl rfl rfl ?_
 refine U.r rfl (.none rfl) rfl rfl (by exact Rd.pk' rfl rfl (ntF hb27) rfl) ?_
 refine U.ps 1 T rfl ?_
 refine hm.cs (fun hb29 hm => ?_) (fun hb29 hm => ?_)
 refine U.pg 3 10 false 36 (ntF hb29) T rfl rfl rfl rfl ?_
 refine U.r rfl (.none rfl) rfl rfl (by exact Rd.pk' rfl rfl (ntF hb29) rfl) ?_
 refine U.ps 1 T rfl ?_
 refine hm.cs (fun hb30 hm => ?_) (fun hb30 hm => ?_)
 refine U.sks 4 15 false 41 hb30 rfl rfl rfl ?_
 refine U.pk hb30 ?_
 refine U.ps 1 T rfl ?_
 refine U.sks 5 21 false 47 rfl rfl rfl rfl ?_
 refine U.pk rfl ?_
 refine U.ps 1 T rfl ?_
 refine U.sks 4 28 false 54 rfl rfl rfl rfl ?_
 refine U.pk rfl ?_
 refine U.done ?_
 exact St.wa (idR 13) (hJ25 _ hm)
 refine U.pg 2 15 false 41 hb30 T rfl rfl rfl rfl ?_
 refine U.k (T_survey_shut x23.Shut _ hm) en34 (fun x31 hm => ?_) (hw := .take 15 false 41 _ hb30 rfl rfl rfl)
 refine U.pg 1 15 false 41 hb30 T rfl rfl rfl rfl ?_
 refine U.pk' hb30 ?_
 refine U.ps 1 T rfl ?_
 refine hm.cs (fun hb32 hm => ?_) (fun hb32 hm => ?_)
 refine U.pg 3 21 false 47 (ntF hb32) T rfl rfl rfl rfl ?_
 refine U.k (T_survey_maker_cells ({ site := ({ Floor := ({ W := s16.1, H := s16.2.1, D := s16.2.2.1, Kind := s16.2.2.2.1, Out := s16.2.2.2.2.1 : ApiFloor }), Zones := s16.2.2.2.2.2.1, Aparts := s16.2.2.2.2.2.2.1, Shelves := s16.2.2.2.2.2.2.2.1, Robots := s16.2.2.2.2.2.2.2.2.1 : ApiSite }), shelf := s16.2.2.2.2.2.2.2.2.2.1, robot := s16.2.2.2.2.2.2.2.2.2.2.1, zoned := s16.2.2.2.2.2.2.2.2.2.2.2.1, names := s16.2.2.2.2.2.2.2.2.2.2.2.2.1, oneways := s16.2.2.2.2.2.2.2.2.2.2.2.2.2.1, shelves := s16.2.2.2.2.2.2.2.2.2.2.2.2.2.2.1, zones := s16.2.2.2.2.2.2.2.2.2.2.2.2.2.2.2.1 : SurveyMaker }) x23.Cells _ hm) en35 (fun x33 hm => ?_) (hw := .take 21 false 47 _ (ntF hb32) rfl rfl rfl)
 refine U.pg 1 21 false 47 (ntF hb32) T rfl rfl rfl rfl ?_
 refine U.r rfl (.none rfl) rfl rfl (by exact Rd.pk' rfl rfl (ntF hb32) rfl) ?_
 refine U.ps 1 T rfl ?_
 refine hm.cs (fun hb34 hm => ?_) (fun hb34 hm => ?_)
 refine U.pg 2 28 false 54 (ntF hb34) T rfl rfl rfl rfl ?_
 refine U.c (sqR 1 12) (T_survey_maker_addZone__p0 x23 ({ site := ({ Floor := ({ W := s16.1, H := s16.2.1, D := s16.2.2.1, Kind := s16.2.2.2.1, Out := s16.2.2.2.2.1 : ApiFloor }), Zones := s16.2.2.2.2.2.1, Aparts := s16.2.2.2.2.2.2.1, Shelves := s16.2.2.2.2.2.2.2.1, Robots := s16.2.2.2.2.2.2.2.2.1 : ApiSite }), shelf := s16.2.2.2.2.2.2.2.2.2.1, robot := s16.2.2.2.2.2.2.2.2.2.2.1, zoned := s16.2.2.2.2.2.2.2.2.2.2.2.1, names := s16.2.2.2.2.2.2.2.2.2.2.2.2.1, oneways := s16.2.2.2.2.2.2.2.2.2.2.2.2.2.1, shelves := s16.2.2.2.2.2.2.2.2.2.2.2.2.2.2.1, zones := s16.2.2.2.2.2.2.2.2.2.2.2.2.2.2.2.1 : SurveyMaker }) _ hm) en36 (fun x35 hm => ?_) (hw := .take 28 false 54 _ (ntF hb34) rfl rfl rfl)
 refine U.pg 1 28 false 54 (ntF hb34) T rfl rfl rfl rfl ?_
 refine U.r rfl (.none rfl) rfl rfl (by exact Rd.pk' rfl rfl (ntF hb34) rfl) ?_
 refine U.done ?_
 exact St.wa [some 0, some 1, some 26, some 27, some 28, some 29, some 30, some 31, some 32, some 33, some 34, some 35, some 36] (hJ25 _ hm)
 refine U.sks 4 28 false 54 (ntT hb34) rfl rfl rfl ?_
 refine U.r rfl (.none rfl) rfl rfl (by exact Rd.pk rfl rfl (ntT hb34) rfl) ?_
 refine U.done ?_
 exact St.wa (idR 13) (hJ25 _ hm)
 refine U.sks 5 21 false 47 (ntT hb32) rfl rfl rfl ?_
 refine U.r rfl (.none rfl) rfl rfl (by exact Rd.pk rfl rfl (ntT hb32) rfl) ?_
 refine U.ps 1 T rfl ?_
 refine U.sks 4 28 false 54 rfl rfl rfl rfl ?_
 refine U.pk rfl ?_
 refine U.done ?_
 exact St.wa (idR 13) (hJ25 _ hm)
 refine U.sks 3 10 false 36 (ntT hb29) rfl rfl rfl ?_
 refine U.r rfl (.none rfl) rfl rfl (by exact Rd.pk rfl rfl (ntT hb29) rfl) ?_
 refine U.ps 1 T rfl ?_
 refine U.sks 4 15 false 41 rfl rfl rfl rfl ?_
 refine U.pk rfl ?_
 refine U.ps 1 T rfl ?_
 refine U.sks 5 21 false 47 rfl rfl rfl rfl ?_
 refine U.pk rfl ?_
 refine U.ps 1 T rfl ?_
 refine U.sks 4 28 false 54 rfl rfl rfl rfl ?_
 refine U.pk rfl ?_
 refine U.done ?_
 exact St.wa (idR 13) (hJ25 _ hm)
 refine U.sks 4 4 false 30 (ntT hb27) rfl rfl rfl ?_
 refine U.r rfl (.none rfl) rfl rfl (by exact Rd.pk rfl rfl (ntT hb27) rfl) ?_
 refine U.ps 1 T rfl ?_
 refine U.sks 3 10 false 36 rfl rfl rfl rfl ?_
 refine U.pk rfl ?_
 refine U.ps 1 T rfl ?_
 refine U.sks 4 15 false 41 rfl rfl rfl rfl ?_
 refine U.pk rfl ?_
 refine U.ps 1 T rfl ?_
 refine U.sks 5 21 false 47 rfl rfl rfl rfl ?_
 refine U.pk rfl ?_
 refine U.ps 1 T rfl ?_
 refine U.sks 4 28 false 54 rfl rfl rfl rfl ?_
 refine U.pk rfl ?_
 refine U.done ?_
 exact St.wa (idR 13) (hJ25 _ hm)
 refine C.exit (C.ex (C.ex (C.bex ?_)))
 exact St.wa (idR 13) (hJ15 _ hm)
theorem T_body_within (n : Int) (from_1 : Int) (to_1 : Int) (post : Bool → Prop) (hm : V_body_within n from_1 to_1 post) :
    Tr Tryz.prog 43 [.i n, .i from_1, .i to_1] [] 0 (fun A H' k => ∃ y, post y ∧ A = (.b y) ∧ H' = [] ∧ k = 0) := by
 refine Tr.intro (n := 15) Tryz.func43 rfl Tryz.ntmps43 rfl (fun w0 ok F β hβ => ?_)
 unfold V_body_within at hm
 refine C.seq (U.start ?_)
 refine U.pd 1 T (C.nx (C.seq ?_))
 refine C.jn (fun (x3 : Bool) => [(6, .b x3)]) (fun (x3 : Bool) => []) 0 hm (fun x3 hm => ?_) (fun J4 hm hJ4 => ?_)
 refine C.nx (C.ret ?_)
 exact C.f1 T hβ ⟨x3, hm, rfl, rfl, rfl⟩
 refine U.start ?_
 refine U.ps 4 T rfl ?_
 refine hm.cs (fun hb5 hm => ?_) (fun hb5 hm => ?_)
 refine U.pg 3 3 true 10 hb5 T rfl rfl rfl rfl ?_
 refine U.pk hb5 ?_
 refine U.pd 1 T ?_
 exact St.wn (hJ4 _ hm)
 refine U.sks 3 3 true 10 hb5 rfl rfl rfl ?_
 refine U.pk' hb5 ?_
 refine U.pd 1 T ?_
 exact St.wn (hJ4 _ hm)
theorem T_body_robots (s_1 : ApiSite) (st : ApiState) (post : Bool → Prop) (hm : V_body_robots s_1 st post) :
    Tr Tryz.prog 44 [.agg (eApiSite s_1), .agg (eApiState st)] [] 0 (fun A H' k => ∃ y, post y ∧ A = (.b y) ∧ H' = [] ∧ k = 0) := by
 refine Tr.intro (n := 88) Tryz.func44 rfl Tryz.ntmps44 rfl (fun w0 ok F β hβ => ?_)
 unfold V_body_robots at hm
 refine C.seq (U.start ?_)
 refine U.bx ?_
 refine U.bx ?_
 refine U.pd 1 T (C.nx (C.seq (U.start ?_)))
 refine U.e1 rfl (.none rfl) (by exact Eff1.mm kI veB rfl rfl rfl) ?_
 refine U.pd 1 T (C.nx (C.seq (C.seq (U.start ?_))))
 refine U.pd 4 T (C.nx ?_)
 refine C.jn (fun (x7 : Unit) => []) (fun (x7 : Unit) => []) 0 hm (fun x7 hm => ?_) (fun J8 hm hJ8 => ?_)
 refine C.nx (C.seq (U.start ?_))
 refine U.pd 1 T (C.nx (C.ret ?_))
 exact C.f1 T hβ ⟨true, hm, rfl, rfl, rfl⟩
 refine C.block ?_
 refine St.wk (C.loop (fun (s9 : List (Int × Bool) × Int) => [(2, .p 0 0), (3, .p 1 0), (5, .o 2), (10, .sl 6 eApiRobot st.Robots), (11, .i (st.Robots.length : Int)), (12, .i s9.2)]) (fun (s9 : List (Int × Bool) × Int) => [(0, .box (eApiSite s_1)), (1, .box (eApiState st)), (2, .val (.om kI veB s9.1))]) hm (fun s9 Y10 hm => ?_)) (Wk.a (idR 3))
 refine C.seq (U.start ?_)
 refine U.pd 1 T (C.nx (C.seq ?_))
 refine C.ite rfl hm (fun hb13 hm => ?_) (fun hb13 hm => ?_)
 refine C.skip (C.nx (C.seq (C.block (C.seq (U.start ?_)))))
 obtain ⟨x16, hx16, hm⟩ := hm
 refine U.r rfl (.none rfl) rfl rfl (by exact Rd.ix T rfl rfl rfl rfl rfl rfl hx16) ?_
 refine U.ps 1 T rfl ?_
 refine U.e1 rfl (.none rfl) (by exact Eff1.al T rfl rfl rfl rfl) ?_
 refine U.e1 rfl (.none rfl) (by exact Eff1.st T rfl rfl rfl rfl rfl rfl rfl rfl rfl rfl) ?_
 refine U.done (C.nx (C.seq (C.seq ?_)))
 refine C.jn (fun (x17 : Bool) => [(2, .p 0 0), (3, .p 1 0), (5, .o 2), (7, .p 3 0), (10, .sl 6 eApiRobot st.Robots), (11, .i (st.Robots.length : Int)), (12, .i s9.2), (47, .b x17)]) (fun (x17 : Bool) => [(0, .box (eApiSite s_1)), (1, .box (eApiState st)), (2, .val (.om kI veB s9.1)), (3, .box (eApiRobot x16))]) 4 hm (fun x17 hm => ?_) (fun J18 hm hJ18 => ?_)
 refine C.nx ?_
 refine C.ite rfl hm (fun hb24 hm => ?_) (fun hb24 hm => ?_)
 refine C.seq (U.start ?_)
 refine U.pd 1 T (C.nx (C.ret (C.rt (C.brt (C.rt (C.rt (C.brt (C.rt ?_))))))))
 exact C.f1 T hβ ⟨false, hm, rfl, rfl, rfl⟩
 refine C.skip (C.nx (C.seq (C.seq ?_)))
 refine C.jn (fun (x27 : Bool) => [(2, .p 0 0), (3, .p 1 0), (5, .o 2), (7, .p 3 0), (10, .sl 6 eApiRobot st.Robots), (11, .i (st.Robots.length : Int)), (12, .i s9.2), (63, .b x27)]) (fun (x27 : Bool) => [(0, .box (eApiSite s_1)), (1, .box (eApiState st)), (2, .val (.om kI veB s9.1)), (3, .box (eApiRobot x16))]) 4 hm (fun x27 hm => ?_) (fun J28 hm hJ28 => ?_)
 refine C.nx ?_
 refine C.ite rfl hm (fun hb34 hm => ?_) (fun hb34 hm => ?_)
 refine C.seq (U.start ?_)
 refine U.pd 1 T (C.nx (C.ret (C.rt (C.brt (C.rt (C.rt (C.brt (C.rt ?_))))))))
 exact C.f1 T hβ ⟨false, hm, rfl, rfl, rfl⟩
 refine C.skip (C.nx (C.seq (C.seq ?_)))
 refine C.jn (fun (x37 : Bool) => [(2, .p 0 0), (3, .p 1 0), (5, .o 2), (7, .p 3 0), (10, .sl 6 eApiRobot st.Robots), (11, .i (st.Robots.length : Int)), (12, .i s9.2), (83, .b x37)]) (fun (x37 : Bool) => [(0, .box (eApiSite s_1)), (1, .box (eApiState st)), (2, .val (.om kI veB s9.1)), (3, .box (eApiRobot x16))]) 4 hm (fun x37 hm => ?_) (fun J38 hm hJ38 => ?_)
 refine C.nx ?_
 refine C.ite rfl hm (fun hb42 hm => ?_) (fun hb42 hm => ?_)
 refine C.seq (U.start ?_)
 refine U.pd 1 T (C.nx (C.ret (C.rt (C.brt (C.rt (C.rt (C.brt (C.rt ?_))))))))
 exact C.f1 T hβ ⟨false, hm, rfl, rfl, rfl⟩
 refine C.skip (C.nx (U.start ?_))
 refine U.ps 3 T rfl ?_
 refine U.e1 rfl (.none rfl) (by exact Eff1.mu T (x := x16.Load) (y := true) (.inl rfl) rfl kt3 (fun _ => rfl) rfl rfl rfl rfl rfl (.inl rfl) rfl) ?_
 refine U.done (C.bnx (C.nx (U.start ?_)))
 refine U.pd 2 T (C.nx ?_)
 exact St.wk (C.next hm) (Wk.a (idR 3))
 refine D.beg 9999 [1, 2, 3] [] mix rfl rfl (by kernel_rfl) (by repeat (first | exact NoPanicQ.body | exact NoPanicQ.rnd | refine NoPanicQ.th ?_ | refine NoPanicQ.blk ?_ | refine NoPanicQ.ng ?_)) (fun hQ hS ws M' => ?_)
 refine D.ps 4 [(0, []), (1, []), (2, []), (3, [])] rfl hQ hS T rfl rfl (by kernel_rfl) ?_
 refine hm.cs (fun hb39 hm => ?_) (fun hb39 hm => ?_)
 refine D.q 4 [] hQ hS rfl (.take 3 true 67 _ hb39 rfl rfl rfl) rfl rfl (by exact Rd.p T rfl) rfl (by kernel_rfl) ?_
 refine D.q 5 [] hQ hS rfl (.take 3 true 67 _ hb39 rfl rfl rfl) rfl rfl (by exact Rd.p T rfl) rfl (by kernel_rfl) ?_
 refine D.q 6 [] hQ hS rfl (.take 3 true 67 _ hb39 rfl rfl rfl) rfl rfl (by exact Rd.l T rfl rfl rfl) rfl (by kernel_rfl) ?_
 refine D.q 7 [] hQ hS rfl (.take 3 true 67 _ hb39 rfl rfl rfl) rfl rfl (by exact Rd.lk T (ke := kI) (ve := veB) (xs := s9.1) (z0 := false) (x := x16.Load) rfl rfl kt3 zt4 (fun _ => rfl) rfl (.o rfl) rfl rfl rfl) rfl (by kernel_rfl) ?_
 refine D.q 8 [] hQ hS rfl (.take 3 true 67 _ hb39 rfl rfl rfl) rfl rfl (by exact Rd.p T rfl) rfl (by kernel_rfl) ?_
 refine hm.cs (fun hb40 hm => ?_) (fun hb40 hm => ?_)
 refine D.sx 9 [] hQ hS (.skip 8 false 72 _ hb40 rfl rfl rfl) ?_
 refine D.sx 10 [] hQ hS (.skip 8 false 72 _ hb40 rfl rfl rfl) ?_
 refine D.sx 11 [] hQ hS (.skip 8 false 72 _ hb40 rfl rfl rfl) ?_
 refine D.sx 12 [] hQ hS (.skip 8 false 72 _ hb40 rfl rfl rfl) ?_
 refine D.sx 13 [] hQ hS (.skip 8 false 72 _ hb40 rfl rfl rfl) ?_
 refine D.sx 14 [] hQ hS (.skip 8 false 72 _ hb40 rfl rfl rfl) ?_
 refine D.sx 15 [] hQ hS (.skip 8 false 72 _ hb40 rfl rfl rfl) ?_
 refine D.sx 16 [] hQ hS (.skip 8 false 72 _ hb40 rfl rfl rfl) ?_
 refine D.sx 17 [] hQ hS (.skip 8 false 72 _ hb40 rfl rfl rfl) ?_
 refine D.q 18 [] hQ hS rfl (.take 3 true 67 _ hb39 rfl rfl rfl) rfl rfl (by exact Rd.pk rfl rfl hb40 rfl) rfl (by kernel_rfl) ?_
 refine D.q 19 [] hQ hS rfl (.none rfl) rfl rfl (by exact Rd.pk rfl rfl hb39 rfl) rfl (by kernel_rfl) ?_
 refine D.done (by kernel_rfl) ?_
 exact St.wa (idR 4) (hJ38 _ hm)
 refine D.q 9 [] hQ hS rfl (.take 8 false 72 _ hb40 rfl rfl rfl) rfl rfl (by exact Rd.p T rfl) rfl (by kernel_rfl) ?_
 refine D.q 10 [] hQ hS rfl (.take 8 false 72 _ hb40 rfl rfl rfl) rfl rfl (by exact Rd.l T rfl rfl rfl) rfl (by kernel_rfl) ?_
 refine D.q 11 [] hQ hS rfl (.take 8 false 72 _ hb40 rfl rfl rfl) rfl rfl (by exact Rd.p T rfl) rfl (by kernel_rfl) ?_
 refine D.q 12 [] hQ hS rfl (.take 8 false 72 _ hb40 rfl rfl rfl) rfl rfl (by exact Rd.l T rfl rfl rfl) rfl (by kernel_rfl) ?_
 obtain ⟨x41, hx41, hm⟩ := hm
 refine D.q 13 [] hQ hS rfl (.take 8 false 72 _ hb40 rfl rfl rfl) rfl rfl (by exact Rd.ix T rfl rfl rfl rfl rfl rfl hx41) rfl (by kernel_rfl) ?_
 refine D.q 14 [] hQ hS rfl (.take 8 false 72 _ hb40 rfl rfl rfl) rfl rfl (by exact Rd.l T rfl rfl rfl) rfl (by kernel_rfl) ?_
 refine D.q 15 [] hQ hS rfl (.take 8 false 72 _ hb40 rfl rfl rfl) rfl rfl (by exact Rd.p T rfl) rfl (by kernel_rfl) ?_
 refine D.q 16 [] hQ hS rfl (.take 8 false 72 _ hb40 rfl rfl rfl) rfl rfl (by exact Rd.l T rfl rfl rfl) rfl (by kernel_rfl) ?_
 refine D.q 17 [] hQ hS rfl (.take 8 false 72 _ hb40 rfl rfl rfl) rfl rfl (by exact Rd.p T rfl) rfl (by kernel_rfl) ?_
 refine D.q 18 [] hQ hS rfl (.take 3 true 67 _ hb39 rfl rfl rfl) rfl rfl (by exact Rd.pk' rfl rfl hb40 rfl) rfl (by kernel_rfl) ?_
 refine D.q 19 [] hQ hS rfl (.none rfl) rfl rfl (by exact Rd.pk rfl rfl hb39 rfl) rfl (by kernel_rfl) ?_
 refine D.done (by kernel_rfl) ?_
 exact St.wa (idR 4) (hJ38 _ hm)
 refine D.sx 4 [] hQ hS (.skip 3 true 67 _ hb39 rfl rfl rfl) ?_
 refine D.sx 5 [] hQ hS (.skip 3 true 67 _ hb39 rfl rfl rfl) ?_
 refine D.sx 6 [] hQ hS (.skip 3 true 67 _ hb39 rfl rfl rfl) ?_
 refine D.sx 7 [] hQ hS (.skip 3 true 67 _ hb39 rfl rfl rfl) ?_
 refine D.sx 8 [] hQ hS (.skip 3 true 67 _ hb39 rfl rfl rfl) ?_
 refine D.sx 9 [] hQ hS (.und 8 false 72 rfl rfl rfl) ?_
 refine D.sx 10 [] hQ hS (.und 8 false 72 rfl rfl rfl) ?_
 refine D.sx 11 [] hQ hS (.und 8 false 72 rfl rfl rfl) ?_
 refine D.sx 12 [] hQ hS (.und 8 false 72 rfl rfl rfl) ?_
 refine D.sx 13 [] hQ hS (.und 8 false 72 rfl rfl rfl) ?_
 refine D.sx 14 [] hQ hS (.und 8 false 72 rfl rfl rfl) ?_
 refine D.sx 15 [] hQ hS (.und 8 false 72 rfl rfl rfl) ?_
 refine D.sx 16 [] hQ hS (.und 8 false 72 rfl rfl rfl) ?_
 refine D.sx 17 [] hQ hS (.und 8 false 72 rfl rfl rfl) ?_
 refine D.sx 18 [] hQ hS (.skip 3 true 67 _ hb39 rfl rfl rfl) ?_
 refine D.q 19 [] hQ hS rfl (.none rfl) rfl rfl (by exact Rd.pk' rfl rfl hb39 rfl) rfl (by kernel_rfl) ?_
 refine D.done (by kernel_rfl) ?_
 exact St.wa (idR 4) (hJ38 _ hm)
 refine U.start ?_
 refine U.ps 2 T rfl ?_
 refine U.k (T_body_within x16.Charge 0 1000000 _ hm) en43 (fun x29 hm => ?_)
 refine U.ps 2 T rfl ?_
 refine hm.cs (fun hb30 hm => ?_) (fun hb30 hm => ?_)
 refine U.pg 2 4 false 52 (ntF hb30) T rfl rfl rfl rfl ?_
 refine U.k (T_body_within x16.Rest 0 20000 _ hm) en43 (fun x31 hm => ?_) (hw := .take 4 false 52 _ (ntF hb30) rfl rfl rfl)
 refine U.pg 1 4 false 52 (ntF hb30) T rfl rfl rfl rfl ?_
 refine U.r rfl (.none rfl) rfl rfl (by exact Rd.pk' rfl rfl (ntF hb30) rfl) ?_
 refine U.ps 1 T rfl ?_
 refine hm.cs (fun hb32 hm => ?_) (fun hb32 hm => ?_)
 refine U.pg 2 10 false 58 (ntF hb32) T rfl rfl rfl rfl ?_
 refine U.k (T_body_within x16.Mute 0 20000 _ hm) en43 (fun x33 hm => ?_) (hw := .take 10 false 58 _ (ntF hb32) rfl rfl rfl)
 refine U.pg 1 10 false 58 (ntF hb32) T rfl rfl rfl rfl ?_
 refine U.r rfl (.none rfl) rfl rfl (by exact Rd.pk' rfl rfl (ntF hb32) rfl) ?_
 refine U.done ?_
 exact St.wa (idR 4) (hJ28 _ hm)
 refine U.sks 4 10 false 58 (ntT hb32) rfl rfl rfl ?_
 refine U.r rfl (.none rfl) rfl rfl (by exact Rd.pk rfl rfl (ntT hb32) rfl) ?_
 refine U.done ?_
 exact St.wa (idR 4) (hJ28 _ hm)
 refine U.sks 4 4 false 52 (ntT hb30) rfl rfl rfl ?_
 refine U.r rfl (.none rfl) rfl rfl (by exact Rd.pk rfl rfl (ntT hb30) rfl) ?_
 refine U.ps 1 T rfl ?_
 refine U.sks 4 10 false 58 rfl rfl rfl rfl ?_
 refine U.pk rfl ?_
 refine U.done ?_
 exact St.wa (idR 4) (hJ28 _ hm)
 refine U.start ?_
 refine U.ps 4 T rfl ?_
 refine hm.cs (fun hb19 hm => ?_) (fun hb19 hm => ?_)
 refine U.sks 7 3 false 19 hb19 rfl rfl rfl ?_
 refine U.pk hb19 ?_
 refine U.ps 1 T rfl ?_
 refine U.sks 8 12 false 28 rfl rfl rfl rfl ?_
 refine U.pk rfl ?_
 refine U.ps 1 T rfl ?_
 refine U.sks 8 22 false 38 rfl rfl rfl rfl ?_
 refine U.pk rfl ?_
 refine U.done ?_
 exact St.wa (idR 4) (hJ18 _ hm)
 refine U.pg 7 3 false 19 hb19 T rfl rfl rfl rfl ?_
 refine U.pk' hb19 ?_
 refine U.ps 1 T rfl ?_
 refine hm.cs (fun hb20 hm => ?_) (fun hb20 hm => ?_)
 refine U.sks 8 12 false 28 hb20 rfl rfl rfl ?_
 refine U.pk hb20 ?_
 refine U.ps 1 T rfl ?_
 refine U.sks 8 22 false 38 rfl rfl rfl rfl ?_
 refine U.pk rfl ?_
 refine U.done ?_
 exact St.wa (idR 4) (hJ18 _ hm)
 refine U.pg 5 12 false 28 hb20 T rfl rfl rfl rfl ?_
 obtain ⟨x21, hx21, hm⟩ := hm
 refine U.r rfl (.take 12 false 28 _ hb20 rfl rfl rfl) rfl rfl (by exact Rd.ix T rfl rfl rfl rfl rfl rfl hx21) ?_
 refine U.pg 2 12 false 28 hb20 T rfl rfl rfl rfl ?_
 refine U.pk' hb20 ?_
 refine U.ps 1 T rfl ?_
 refine hm.cs (fun hb22 hm => ?_) (fun hb22 hm => ?_)
 refine U.sks 8 22 false 38 hb22 rfl rfl rfl ?_
 refine U.pk hb22 ?_
 refine U.done ?_
 exact St.wa (idR 4) (hJ18 _ hm)
 refine U.pg 6 22 false 38 hb22 T rfl rfl rfl rfl ?_
 refine U.k (T_body_within x16.Load (-1) (w64 ((st.Shelves.length : Int) - 1)) _ hm) en43 (fun x23 hm => ?_) (hw := .take 22 false 38 _ hb22 rfl rfl rfl)
 refine U.pg 1 22 false 38 hb22 T rfl rfl rfl rfl ?_
 refine U.pk' hb22 ?_
 refine U.done ?_
 exact St.wa (idR 4) (hJ18 _ hm)
 refine C.exit (C.ex (C.ex (C.bex ?_)))
 exact St.wk (hJ8 _ hm) (Wk.mk' [] rfl rfl trivial trivial rfl)
theorem T_body_on (f : ApiFloor) (c : Int) (kinds : List Int) (post : Bool → Prop) (hm : V_body_on f c kinds post) :
    Tr Tryz.prog 47 [.agg (eApiFloor f), .i c, .sl 1 eI kinds] [] 0 (fun A H' k => ∃ y, post y ∧ A = (.b y) ∧ H' = [] ∧ k = 0) := by
 refine Tr.intro (n := 25) Tryz.func47 rfl Tryz.ntmps47 rfl (fun w0 ok F β hβ => ?_)
 unfold V_body_on at hm
 refine C.seq (U.start ?_)
 refine U.bx ?_
 refine U.pd 1 T (C.nx (C.seq ?_))
 refine C.jn (fun (x3 : Bool) => [(6, .b x3)]) (fun (x3 : Bool) => []) 0 hm (fun x3 hm => ?_) (fun J4 hm hJ4 => ?_)
 refine C.nx (C.ret ?_)
 exact C.f1 T hβ ⟨x3, hm, rfl, rfl, rfl⟩
 refine U.start ?_
 refine U.ps 3 T rfl ?_
 refine hm.cs (fun hb5 hm => ?_) (fun hb5 hm => ?_)
 refine U.pg 5 2 true 9 hb5 T rfl rfl rfl rfl ?_
 refine U.pk hb5 ?_
 refine U.ps 1 T rfl ?_
 refine hm.cs (fun hb6 hm => ?_) (fun hb6 hm => ?_)
 refine U.pg 4 9 true 16 hb6 T rfl rfl rfl rfl ?_
 obtain ⟨x7, hx7, hm⟩ := hm
 refine U.r rfl (.take 9 true 16 _ hb6 rfl rfl rfl) rfl rfl (by exact Rd.ix T rfl rfl rfl rfl rfl rfl hx7) ?_
 refine U.pg 1 9 true 16 hb6 T rfl rfl rfl rfl ?_
 refine U.k (T_slices_Contains_int_int kinds x7 _ hm) en54 (fun x8 hm => ?_) (hw := .take 9 true 16 _ hb6 rfl rfl rfl)
 refine U.pk hb6 ?_
 refine U.pd 1 T ?_
 exact St.wn (hJ4 _ hm)
 refine U.sks 7 9 true 16 hb6 rfl rfl rfl ?_
 refine U.pk' hb6 ?_
 refine U.pd 1 T ?_
 exact St.wn (hJ4 _ hm)
 refine U.sks 5 2 true 9 hb5 rfl rfl rfl ?_
 refine U.pk' hb5 ?_
 refine U.ps 1 T rfl ?_
 refine U.sks 7 9 true 16 rfl rfl rfl rfl ?_
 refine U.pk' rfl ?_
 refine U.pd 1 T ?_
 exact St.wn (hJ4 _ hm)
theorem T_body_rest (f : ApiFloor) (st : ApiState) (post : Bool → Prop) (hm : V_body_rest f st post) :
    Tr Tryz.prog 45 [.agg (eApiFloor f), .agg (eApiState st)] [] 0 (fun A H' k => ∃ y, post y ∧ A = (.b y) ∧ H' = [] ∧ k = 0) := by
 refine Tr.intro (n := 78) Tryz.func45 rfl Tryz.ntmps45 rfl (fun w0 ok F β hβ => ?_)
 unfold V_body_rest at hm
 refine C.seq (U.start ?_)
 refine U.bx ?_
 refine U.bx ?_
 refine U.pd 1 T (C.nx (C.seq (C.seq (U.start ?_))))
 refine U.pd 4 T (C.nx ?_)
 refine C.jn (fun (x5 : Unit) => [(2, .p 0 0), (3, .p 1 0)]) (fun (x5 : Unit) => [(0, .box (eApiFloor f)), (1, .box (eApiState st))]) 2 hm (fun x5 hm => ?_) (fun J6 hm hJ6 => ?_)
 refine C.nx (C.seq (C.seq (U.start ?_)))
 refine U.pd 4 T (C.nx ?_)
 refine C.jn (fun (x28 : Unit) => []) (fun (x28 : Unit) => []) 0 hm (fun x28 hm => ?_) (fun J29 hm hJ29 => ?_)
 refine C.nx (C.seq (U.start ?_))
 refine U.pd 1 T (C.nx (C.ret ?_))
 exact C.f1 T hβ ⟨true, hm, rfl, rfl, rfl⟩
 refine C.block ?_
 refine St.wk (C.loop (fun (s30 : Int) => [(2, .p 0 0), (3, .p 1 0), (42, .sl 2 eApiStuck st.Stuck), (43, .i (st.Stuck.length : Int)), (44, .i s30)]) (fun (s30 : Int) => [(0, .box (eApiFloor f)), (1, .box (eApiState st))]) hm (fun s30 Y31 hm => ?_)) (Wk.a (idR 2))
 refine C.seq (U.start ?_)
 refine U.pd 1 T (C.nx (C.seq ?_))
 refine C.ite rfl hm (fun hb34 hm => ?_) (fun hb34 hm => ?_)
 refine C.skip (C.nx (C.seq (C.block (C.seq (U.start ?_)))))
 refine U.ps 1 T rfl ?_
 obtain ⟨x37, hx37, hm⟩ := hm
 refine U.r rfl (.none rfl) rfl rfl (by exact Rd.ix T rfl rfl rfl rfl rfl rfl hx37) ?_
 refine U.ps 1 T rfl ?_
 refine U.e1 rfl (.none rfl) (by exact Eff1.al T rfl rfl rfl rfl) ?_
 refine U.ps 1 T rfl ?_
 refine U.e1 rfl (.none rfl) (by exact Eff1.st T rfl rfl rfl rfl rfl rfl rfl rfl rfl rfl) ?_
 refine U.done (C.nx (C.seq ?_))
 refine C.jn (fun (x38 : Bool) => [(2, .p 0 0), (3, .p 1 0), (42, .sl 2 eApiStuck st.Stuck), (43, .i (st.Stuck.length : Int)), (44, .i s30), (76, .b x38)]) (fun (x38 : Bool) => [(0, .box (eApiFloor f)), (1, .box (eApiState st))]) 2 hm (fun x38 hm => ?_) (fun J39 hm hJ39 => ?_)
 refine C.nx ?_
 refine C.ite rfl hm (fun hb46 hm => ?_) (fun hb46 hm => ?_)
 refine C.seq (U.start ?_)
 refine U.pd 1 T (C.nx (C.ret (C.brt (C.rt (C.rt (C.brt (C.rt ?_)))))))
 exact C.f1 T hβ ⟨false, hm, rfl, rfl, rfl⟩
 refine C.skip (C.bnx (C.nx (U.start ?_)))
 refine U.pd 2 T (C.nx ?_)
 exact St.wk (C.next hm) (Wk.a (idR 2))
 refine D.beg 9999 [0, 1, 2] [] mix rfl rfl (by kernel_rfl) (by repeat (first | exact NoPanicQ.body | exact NoPanicQ.rnd | refine NoPanicQ.th ?_ | refine NoPanicQ.blk ?_ | refine NoPanicQ.ng ?_)) (fun hQ hS ws M' => ?_)
 refine D.ps 3 [(0, []), (1, []), (2, [])] rfl hQ hS T rfl rfl (by kernel_rfl) ?_
 refine D.e1 3 rfl (.none rfl) (by exact Eff1.bs T (enc := eI) (xs := ([6] : List Int)) rfl rfl rfl rfl rfl rfl rfl rfl rfl rfl (fun _ _ => rfl) rfl rfl) (by kernel_rfl) rfl rfl ?_
 refine D.k 4 (T_body_on f x37.Cell ([6] : List Int) _ hm) en47 (fun x40 hm => ?_)
 refine D.ps 2 [(5, []), (6, [])] rfl hQ hS T rfl rfl (by kernel_rfl) ?_
 refine hm.cs (fun hb41 hm => ?_) (fun hb41 hm => ?_)
 refine D.q 7 [] hQ hS rfl (.take 6 false 55 _ (ntF hb41) rfl rfl rfl) rfl rfl (by exact Rd.p T rfl) rfl (by kernel_rfl) ?_
 refine D.q 8 [] hQ hS rfl (.take 6 false 55 _ (ntF hb41) rfl rfl rfl) rfl rfl (by exact Rd.l T rfl rfl rfl) rfl (by kernel_rfl) ?_
 refine D.k 9 (T_body_within x37.Left 1 20000 _ hm) en43 (fun x42 hm => ?_) (hw := .take 6 false 55 _ (ntF hb41) rfl rfl rfl)
 refine D.q 10 [] hQ hS rfl (.take 6 false 55 _ (ntF hb41) rfl rfl rfl) rfl rfl (by exact Rd.p T rfl) rfl (by kernel_rfl) ?_
 refine D.q 11 [] hQ hS rfl (.none rfl) rfl rfl (by exact Rd.pk' rfl rfl (ntF hb41) rfl) rfl (by kernel_rfl) ?_
 refine D.ps 1 [(12, [])] rfl hQ hS T rfl rfl (by kernel_rfl) ?_
 refine hm.cs (fun hb43 hm => ?_) (fun hb43 hm => ?_)
 refine D.q 13 [] hQ hS rfl (.take 12 false 61 _ (ntF hb43) rfl rfl rfl) rfl rfl (by exact Rd.p T rfl) rfl (by kernel_rfl) ?_
 refine D.q 14 [] hQ hS rfl (.take 12 false 61 _ (ntF hb43) rfl rfl rfl) rfl rfl (by exact Rd.p T rfl) rfl (by kernel_rfl) ?_
 refine D.q 15 [] hQ hS rfl (.take 12 false 61 _ (ntF hb43) rfl rfl rfl) rfl rfl (by exact Rd.p T rfl) rfl (by kernel_rfl) ?_
 refine hm.cs (fun hb44 hm => ?_) (fun hb44 hm => ?_)
 refine D.q 16 [] hQ hS rfl (.take 15 true 64 _ hb44 rfl rfl rfl) rfl rfl (by exact Rd.p T rfl) rfl (by kernel_rfl) ?_
 refine D.q 17 [] hQ hS rfl (.take 15 true 64 _ hb44 rfl rfl rfl) rfl rfl (by exact Rd.l T rfl rfl rfl) rfl (by kernel_rfl) ?_
 refine D.q 18 [] hQ hS rfl (.take 15 true 64 _ hb44 rfl rfl rfl) rfl rfl (by exact Rd.p T rfl) rfl (by kernel_rfl) ?_
 refine D.q 19 [] hQ hS rfl (.take 15 true 64 _ hb44 rfl rfl rfl) rfl rfl (by exact Rd.l T rfl rfl rfl) rfl (by kernel_rfl) ?_
 refine D.q 20 [] hQ hS rfl (.take 15 true 64 _ hb44 rfl rfl rfl) rfl rfl (by exact Rd.p T rfl) rfl (by kernel_rfl) ?_
 refine D.q 21 [] hQ hS rfl (.take 15 true 64 _ hb44 rfl rfl rfl) rfl rfl (by exact Rd.p T rfl) rfl (by kernel_rfl) ?_
 obtain ⟨x45, hx45, hm⟩ := hm
 refine D.q 22 [] hQ hS rfl (.take 15 true 64 _ hb44 rfl rfl rfl) rfl rfl (by exact Rd.ix T rfl rfl rfl rfl rfl rfl hx45) rfl (by kernel_rfl) ?_
 refine D.q 23 [] hQ hS rfl (.take 15 true 64 _ hb44 rfl rfl rfl) rfl rfl (by exact Rd.p T rfl) rfl (by kernel_rfl) ?_
 refine D.q 24 [] hQ hS rfl (.take 15 true 64 _ hb44 rfl rfl rfl) rfl rfl (by exact Rd.l T rfl rfl rfl) rfl (by kernel_rfl) ?_
 refine D.q 25 [] hQ hS rfl (.take 15 true 64 _ hb44 rfl rfl rfl) rfl rfl (by exact Rd.p T rfl) rfl (by kernel_rfl) ?_
 refine D.q 26 [] hQ hS rfl (.take 12 false 61 _ (ntF hb43) rfl rfl rfl) rfl rfl (by exact Rd.pk rfl rfl hb44 rfl) rfl (by kernel_rfl) ?_
 refine D.q 27 [] hQ hS rfl (.none rfl) rfl rfl (by exact Rd.pk' rfl rfl (ntF hb43) rfl) rfl (by kernel_rfl) ?_
 refine D.done (by kernel_rfl) ?_
 exact St.wa (idR 2) (hJ39 _ hm)
 refine D.sx 16 [] hQ hS (.skip 15 true 64 _ hb44 rfl rfl rfl) ?_
 refine D.sx 17 [] hQ hS (.skip 15 true 64 _ hb44 rfl rfl rfl) ?_
 refine D.sx 18 [] hQ hS (.skip 15 true 64 _ hb44 rfl rfl rfl) ?_
 refine D.sx 19 [] hQ hS (.skip 15 true 64 _ hb44 rfl rfl rfl) ?_
 refine D.sx 20 [] hQ hS (.skip 15 true 64 _ hb44 rfl rfl rfl) ?_
 refine D.sx 21 [] hQ hS (.skip 15 true 64 _ hb44 rfl rfl rfl) ?_
 refine D.sx 22 [] hQ hS (.skip 15 true 64 _ hb44 rfl rfl rfl) ?_
 refine D.sx 23 [] hQ hS (.skip 15 true 64 _ hb44 rfl rfl rfl) ?_
 refine D.sx 24 [] hQ hS (.skip 15 true 64 _ hb44 rfl rfl rfl) ?_
 refine D.sx 25 [] hQ hS (.skip 15 true 64 _ hb44 rfl rfl rfl) ?_
 refine D.q 26 [] hQ hS rfl (.take 12 false 61 _ (ntF hb43) rfl rfl rfl) rfl rfl (by exact Rd.pk' rfl rfl hb44 rfl) rfl (by kernel_rfl) ?_
 refine D.q 27 [] hQ hS rfl (.none rfl) rfl rfl (by exact Rd.pk' rfl rfl (ntF hb43) rfl) rfl (by kernel_rfl) ?_
 refine D.done (by kernel_rfl) ?_
 exact St.wa (idR 2) (hJ39 _ hm)
 refine D.sx 13 [] hQ hS (.skip 12 false 61 _ (ntT hb43) rfl rfl rfl) ?_
 refine D.sx 14 [] hQ hS (.skip 12 false 61 _ (ntT hb43) rfl rfl rfl) ?_
 refine D.sx 15 [] hQ hS (.skip 12 false 61 _ (ntT hb43) rfl rfl rfl) ?_
 refine D.sx 16 [] hQ hS (.und 15 true 64 rfl rfl rfl) ?_
 refine D.sx 17 [] hQ hS (.und 15 true 64 rfl rfl rfl) ?_
 refine D.sx 18 [] hQ hS (.und 15 true 64 rfl rfl rfl) ?_
 refine D.sx 19 [] hQ hS (.und 15 true 64 rfl rfl rfl) ?_
 refine D.sx 20 [] hQ hS (.und 15 true 64 rfl rfl rfl) ?_
 refine D.sx 21 [] hQ hS (.und 15 true 64 rfl rfl rfl) ?_
 refine D.sx 22 [] hQ hS (.und 15 true 64 rfl rfl rfl) ?_
 refine D.sx 23 [] hQ hS (.und 15 true 64 rfl rfl rfl) ?_
 refine D.sx 24 [] hQ hS (.und 15 true 64 rfl rfl rfl) ?_
 refine D.sx 25 [] hQ hS (.und 15 true 64 rfl rfl rfl) ?_
 refine D.sx 26 [] hQ hS (.skip 12 false 61 _ (ntT hb43) rfl rfl rfl) ?_
 refine D.q 27 [] hQ hS rfl (.none rfl) rfl rfl (by exact Rd.pk rfl rfl (ntT hb43) rfl) rfl (by kernel_rfl) ?_
 refine D.done (by kernel_rfl) ?_
 exact St.wa (idR 2) (hJ39 _ hm)
 refine D.sx 7 [] hQ hS (.skip 6 false 55 _ (ntT hb41) rfl rfl rfl) ?_
 refine D.sx 8 [] hQ hS (.skip 6 false 55 _ (ntT hb41) rfl rfl rfl) ?_
 refine D.sx 9 [] hQ hS (.skip 6 false 55 _ (ntT hb41) rfl rfl rfl) ?_
 refine D.sx 10 [] hQ hS (.skip 6 false 55 _ (ntT hb41) rfl rfl rfl) ?_
 refine D.q 11 [] hQ hS rfl (.none rfl) rfl rfl (by exact Rd.pk rfl rfl (ntT hb41) rfl) rfl (by kernel_rfl) ?_
 refine D.ps 1 [(12, [])] rfl hQ hS T rfl rfl (by kernel_rfl) ?_
 refine D.sx 13 [] hQ hS (.skip 12 false 61 _ rfl rfl rfl rfl) ?_
 refine D.sx 14 [] hQ hS (.skip 12 false 61 _ rfl rfl rfl rfl) ?_
 refine D.sx 15 [] hQ hS (.skip 12 false 61 _ rfl rfl rfl rfl) ?_
 refine D.sx 16 [] hQ hS (.und 15 true 64 rfl rfl rfl) ?_
 refine D.sx 17 [] hQ hS (.und 15 true 64 rfl rfl rfl) ?_
 refine D.sx 18 [] hQ hS (.und 15 true 64 rfl rfl rfl) ?_
 refine D.sx 19 [] hQ hS (.und 15 true 64 rfl rfl rfl) ?_
 refine D.sx 20 [] hQ hS (.und 15 true 64 rfl rfl rfl) ?_
 refine D.sx 21 [] hQ hS (.und 15 true 64 rfl rfl rfl) ?_
 refine D.sx 22 [] hQ hS (.und 15 true 64 rfl rfl rfl) ?_
 refine D.sx 23 [] hQ hS (.und 15 true 64 rfl rfl rfl) ?_
 refine D.sx 24 [] hQ hS (.und 15 true 64 rfl rfl rfl) ?_
 refine D.sx 25 [] hQ hS (.und 15 true 64 rfl rfl rfl) ?_
 refine D.sx 26 [] hQ hS (.skip 12 false 61 _ rfl rfl rfl rfl) ?_
 refine D.q 27 [] hQ hS rfl (.none rfl) rfl rfl (by exact Rd.pk rfl rfl rfl rfl) rfl (by kernel_rfl) ?_
 refine D.done (by kernel_rfl) ?_
 exact St.wa (idR 2) (hJ39 _ hm)
 refine C.exit (C.ex (C.ex (C.bex ?_)))
 exact St.wk (hJ29 _ hm) (Wk.mk' [] rfl rfl trivial trivial rfl)
 refine C.block ?_
 refine St.wk (C.loop (fun (s7 : Int) => [(2, .p 0 0), (3, .p 1 0), (10, .sl 1 eI st.Dead), (11, .i (st.Dead.length : Int)), (12, .i s7)]) (fun (s7 : Int) => [(0, .box (eApiFloor f)), (1, .box (eApiState st))]) hm (fun s7 Y8 hm => ?_)) (Wk.a (idR 2))
 refine C.seq (U.start ?_)
 refine U.pd 1 T (C.nx (C.seq ?_))
 refine C.ite rfl hm (fun hb11 hm => ?_) (fun hb11 hm => ?_)
 refine C.skip (C.nx (C.seq (C.block (C.seq (U.start ?_)))))
 refine U.ps 1 T rfl ?_
 obtain ⟨x14, hx14, hm⟩ := hm
 refine U.r rfl (.none rfl) rfl rfl (by exact Rd.ix T rfl rfl rfl rfl rfl rfl hx14) ?_
 refine U.pd 3 T (C.nx (C.seq ?_))
 refine C.jn (fun (x15 : Bool) => [(2, .p 0 0), (3, .p 1 0), (10, .sl 1 eI st.Dead), (11, .i (st.Dead.length : Int)), (12, .i s7), (39, .b x15)]) (fun (x15 : Bool) => [(0, .box (eApiFloor f)), (1, .box (eApiState st))]) 2 hm (fun x15 hm => ?_) (fun J16 hm hJ16 => ?_)
 refine C.nx ?_
 refine C.ite rfl hm (fun hb21 hm => ?_) (fun hb21 hm => ?_)
 refine C.seq (U.start ?_)
 refine U.pd 1 T (C.nx (C.ret (C.brt (C.rt (C.rt (C.brt (C.rt ?_)))))))
 exact C.f1 T hβ ⟨false, hm, rfl, rfl, rfl⟩
 refine C.skip (C.bnx (C.nx (U.start ?_)))
 refine U.pd 2 T (C.nx ?_)
 exact St.wk (C.next hm) (Wk.a (idR 2))
 refine U.start ?_
 refine U.ps 3 T rfl ?_
 refine hm.cs (fun hb17 hm => ?_) (fun hb17 hm => ?_)
 refine U.sks 5 2 false 19 hb17 rfl rfl rfl ?_
 refine U.pk hb17 ?_
 refine U.ps 1 T rfl ?_
 refine U.sks 3 9 false 26 rfl rfl rfl rfl ?_
 refine U.sku 8 12 true 29 rfl rfl rfl ?_
 refine U.sks 1 9 false 26 rfl rfl rfl rfl ?_
 refine U.pk rfl ?_
 refine U.done ?_
 exact St.wa (idR 2) (hJ16 _ hm)
 refine U.pg 5 2 false 19 hb17 T rfl rfl rfl rfl ?_
 refine U.pk' hb17 ?_
 refine U.ps 1 T rfl ?_
 refine hm.cs (fun hb18 hm => ?_) (fun hb18 hm => ?_)
 refine U.sks 3 9 false 26 hb18 rfl rfl rfl ?_
 refine U.sku 8 12 true 29 rfl rfl rfl ?_
 refine U.sks 1 9 false 26 hb18 rfl rfl rfl ?_
 refine U.pk hb18 ?_
 refine U.done ?_
 exact St.wa (idR 2) (hJ16 _ hm)
 refine U.pg 3 9 false 26 hb18 T rfl rfl rfl rfl ?_
 refine hm.cs (fun hb19 hm => ?_) (fun hb19 hm => ?_)
 refine U.pg 5 12 true 29 hb19 T rfl rfl rfl rfl ?_
 obtain ⟨x20, hx20, hm⟩ := hm
 refine U.r rfl (.take 12 true 29 _ hb19 rfl rfl rfl) rfl rfl (by exact Rd.ix T rfl rfl rfl rfl rfl rfl hx20) ?_
 refine U.pg 2 12 true 29 hb19 T rfl rfl rfl rfl ?_
 refine U.r rfl (.take 9 false 26 _ hb18 rfl rfl rfl) rfl rfl (by exact Rd.pk rfl rfl hb19 rfl) ?_
 refine U.pk' hb18 ?_
 refine U.done ?_
 exact St.wa (idR 2) (hJ16 _ hm)
 refine U.sks 8 12 true 29 hb19 rfl rfl rfl ?_
 refine U.r rfl (.take 9 false 26 _ hb18 rfl rfl rfl) rfl rfl (by exact Rd.pk' rfl rfl hb19 rfl) ?_
 refine U.pk' hb18 ?_
 refine U.done ?_
 exact St.wa (idR 2) (hJ16 _ hm)
 refine C.exit (C.ex (C.ex (C.bex ?_)))
 exact St.wa (idR 2) (hJ6 _ hm)
theorem T_body_Carrier_1 (r : ApiRobot) (c0 : Int) (post : Bool → Prop) (hm : V_body_Carrier_1 r c0 post) :
    Tr Tryz.prog 83 [.agg (eApiRobot r), .rp [.i c0]] [] 0 (fun A H' k => ∃ y, post y ∧ A = (.b y) ∧ H' = [] ∧ k = 0) := by
 refine Tr.intro (n := 8) Tryz.func83 rfl Tryz.ntmps83 rfl (fun w0 ok F β hβ => ?_)
 unfold V_body_Carrier_1 at hm
 refine C.seq (U.start ?_)
 refine U.bx ?_
 refine U.pd 1 T (C.nx (C.seq (U.start ?_)))
 refine U.pd 5 T (C.nx (C.ret ?_))
 exact C.f1 T hβ ⟨(r.Load == c0), hm, rfl, rfl, rfl⟩
theorem T_slices_IndexFunc_api_Robot_api_Robot__body_Carrier_1 (s_1 : List ApiRobot) (f_c0 : Int) (post : Int → Prop) (hm : V_slices_IndexFunc_api_Robot_api_Robot__body_Carrier_1 s_1 f_c0 post) :
    Tr Tryz.prog 82 [.sl 6 eApiRobot s_1, .fn (.func 83) [] [.rp [.i f_c0]]] [] 0 (fun A H' k => ∃ y, post y ∧ A = (.i y) ∧ H' = [] ∧ k = 0) := by
 refine Tr.intro (n := 19) Tryz.func82 rfl Tryz.ntmps82 rfl (fun w0 ok F β hβ => ?_)
 unfold V_slices_IndexFunc_api_Robot_api_Robot__body_Carrier_1 at hm
 refine C.seq (U.start ?_)
 refine U.pd 1 T (C.nx (C.seq (C.seq (U.start ?_))))
 refine U.pd 3 T (C.nx ?_)
 refine C.jn (fun (x5 : Unit) => []) (fun (x5 : Unit) => []) 0 hm (fun x5 hm => ?_) (fun J6 hm hJ6 => ?_)
 refine C.nx (C.seq (U.start ?_))
 refine U.pd 1 T (C.nx (C.ret ?_))
 exact C.f1 T hβ ⟨(-1), hm, rfl, rfl, rfl⟩
 refine C.block ?_
 refine St.wk (C.loop (fun (s7 : Int) => [(0, .sl 6 eApiRobot s_1), (1, .fn (.func 83) [] [.rp [.i f_c0]]), (7, .i (s_1.length : Int)), (8, .i s7)]) (fun (s7 : Int) => []) hm (fun s7 Y8 hm => ?_)) (Wk.e)
 refine C.seq (U.start ?_)
 refine U.pd 1 T (C.nx (C.seq ?_))
 refine C.ite rfl hm (fun hb11 hm => ?_) (fun hb11 hm => ?_)
 refine C.skip (C.nx (C.seq (C.block (C.seq (U.start ?_)))))
 refine U.pd 2 T (C.nx (C.seq (U.start ?_)))
 refine U.ps 3 T rfl ?_
 obtain ⟨x16, hx16, hm⟩ := hm
 refine U.r rfl (.none rfl) rfl rfl (by exact Rd.ix T rfl rfl rfl rfl rfl rfl hx16) ?_
 refine U.ps 1 T rfl ?_
 refine U.k (T_body_Carrier_1 x16 f_c0 _ hm) en83 (fun x17 hm => ?_)
 refine U.done (C.nx ?_)
 refine C.ite rfl hm (fun hb18 hm => ?_) (fun hb18 hm => ?_)
 refine C.seq (U.start ?_)
 refine U.pd 2 T (C.nx (C.ret (C.brt (C.rt (C.rt (C.brt (C.rt ?_)))))))
 exact C.f1 T hβ ⟨s7, hm, rfl, rfl, rfl⟩
 refine C.skip (C.bnx (C.nx (U.start ?_)))
 refine U.pd 2 T (C.nx ?_)
 exact St.wk (C.next hm) (Wk.e)
 refine C.exit (C.ex (C.ex (C.bex ?_)))
 exact St.wk (hJ6 _ hm) (Wk.mk' [] rfl rfl trivial trivial rfl)
theorem T_body_Carrier (st : ApiState) (shelf : Int) (post : Int → Prop) (hm : V_body_Carrier st shelf post) :
    Tr Tryz.prog 46 [.agg (eApiState st), .i shelf] [] 0 (fun A H' k => ∃ y, post y ∧ A = (.i y) ∧ H' = [] ∧ k = 0) := by
 refine Tr.intro (n := 11) Tryz.func46 rfl Tryz.ntmps46 rfl (fun w0 ok F β hβ => ?_)
 unfold V_body_Carrier at hm
 refine C.seq (U.start ?_)
 refine U.bx ?_
 refine U.bx ?_
 refine U.pd 1 T (C.nx (C.seq (C.seq (U.start ?_))))
 refine U.pd 2 T (C.nx ?_)
 refine C.ite rfl hm (fun hb5 hm => ?_) (fun hb5 hm => ?_)
 refine C.seq (U.start ?_)
 refine U.pd 1 T (C.nx (C.ret (C.rt ?_)))
 exact C.f1 T hβ ⟨(-1), hm, rfl, rfl, rfl⟩
 refine C.skip (C.nx (C.seq (U.start ?_)))
 refine U.ps 3 T rfl ?_
 refine U.k (T_slices_IndexFunc_api_Robot_api_Robot__body_Carrier_1 st.Robots shelf _ hm) en82 (fun x10 hm => ?_)
 refine U.pd 1 T (C.nx (C.ret ?_))
 exact C.f1 T hβ ⟨x10, hm, rfl, rfl, rfl⟩
theorem T_body_Low (c : Int) (post : Int → Prop) (hm : V_body_Low c post) :
    Tr Tryz.prog 127 [.i c] [] 0 (fun A H' k => ∃ y, post y ∧ A = (.i y) ∧ H' = [] ∧ k = 0) := by
 refine Tr.intro (n := 5) Tryz.func127 rfl Tryz.ntmps127 rfl (fun w0 ok F β hβ => ?_)
 unfold V_body_Low at hm
 refine C.seq (U.start ?_)
 refine U.pd 1 T (C.nx (C.seq (U.start ?_)))
 refine U.pd 3 T (C.nx (C.ret ?_))
 exact C.f1 T hβ ⟨w64 (2 * c), hm, rfl, rfl, rfl⟩
theorem T_body_High (c : Int) (post : Int → Prop) (hm : V_body_High c post) :
    Tr Tryz.prog 126 [.i c] [] 0 (fun A H' k => ∃ y, post y ∧ A = (.i y) ∧ H' = [] ∧ k = 0) := by
 refine Tr.intro (n := 6) Tryz.func126 rfl Tryz.ntmps126 rfl (fun w0 ok F β hβ => ?_)
 unfold V_body_High at hm
 refine C.seq (U.start ?_)
 refine U.pd 1 T (C.nx (C.seq (U.start ?_)))
 refine U.pd 4 T (C.nx (C.ret ?_))
 exact C.f1 T hβ ⟨w64 ((w64 (2 * c)) + 1), hm, rfl, rfl, rfl⟩
theorem T_body_at (r : ApiRobot) (c : Int) (post : (List Int) → Prop) (hm : V_body_at r c post) :
    Tr Tryz.prog 125 [.agg (eApiRobot r), .i c] [] 0 (fun A H' k => ∃ y, post y ∧ A = (.o 0) ∧ H' = [(0, .val (.os 1 eI y))] ∧ k = 1) := by
 refine Tr.intro (n := 16) Tryz.func125 rfl Tryz.ntmps125 rfl (fun w0 ok F β hβ => ?_)
 unfold V_body_at at hm
 refine C.seq (U.start ?_)
 refine U.bx ?_
 refine U.pd 1 T (C.nx (C.seq (C.seq (U.start ?_))))
 refine U.pd 3 T (C.nx ?_)
 refine C.ite rfl hm (fun hb5 hm => ?_) (fun hb5 hm => ?_)
 refine C.seq (U.start ?_)
 refine U.ps 1 T rfl ?_
 refine U.k (T_body_Low c _ hm) en127 (fun x8 hm => ?_)
 refine U.ps 1 T rfl ?_
 refine U.k (T_body_High c _ hm) en126 (fun x9 hm => ?_)
 refine U.e1 rfl (.none rfl) (by exact Eff1.bs T (enc := eI) (xs := ([x8, x9] : List Int)) rfl rfl rfl rfl rfl rfl rfl rfl rfl rfl (fun _ _ => rfl) rfl rfl) ?_
 refine U.pd 1 T (C.nx (C.ret (C.rt ?_)))
 exact C.g1 [some 1] T hβ ⟨([x8, x9] : List Int), hm, rfl, rfl, rfl⟩
 refine C.skip (C.nx (C.seq (U.start ?_)))
 refine U.ps 1 T rfl ?_
 refine U.k (T_body_Low c _ hm) en127 (fun x12 hm => ?_)
 refine U.e1 rfl (.none rfl) (by exact Eff1.bs T (enc := eI) (xs := ([x12] : List Int)) rfl rfl rfl rfl rfl rfl rfl rfl rfl rfl (fun _ _ => rfl) rfl rfl) ?_
 refine U.pd 1 T (C.nx (C.ret ?_))
 exact C.g1 [some 1] T hβ ⟨([x12] : List Int), hm, rfl, rfl, rfl⟩
theorem T_body_Robot (st : ApiState) (i : Int) (post : (List Int) → Prop) (hm : V_body_Robot st i post) :
    Tr Tryz.prog 86 [.agg (eApiState st), .i i] [] 0 (fun A H' k => ∃ y, post y ∧ A = (.o 0) ∧ H' = [(0, .val (.os 1 eI y))] ∧ k = 1) := by
 refine Tr.intro (n := 26) Tryz.func86 rfl Tryz.ntmps86 rfl (fun w0 ok F β hβ => ?_)
 unfold V_body_Robot at hm
 refine C.seq (U.start ?_)
 refine U.bx ?_
 refine U.pd 1 T (C.nx (C.seq (C.seq ?_)))
 refine C.jn (fun (x3 : Bool) => [(1, .i i), (2, .p 0 0), (13, .b x3)]) (fun (x3 : Bool) => [(0, .box (eApiState st))]) 1 hm (fun x3 hm => ?_) (fun J4 hm hJ4 => ?_)
 refine C.nx ?_
 refine C.ite rfl hm (fun hb6 hm => ?_) (fun hb6 hm => ?_)
 refine C.seq (U.start ?_)
 refine U.pd 1 T (C.nx (C.ret (C.rt ?_)))
 exact C.g1 [none] T hβ ⟨[], hm, rfl, rfl, rfl⟩
 refine C.skip (C.nx (C.seq ?_))
 refine D.beg 9999 [0] [] mix rfl rfl (by kernel_rfl) (by repeat (first | exact NoPanicQ.body | exact NoPanicQ.rnd | refine NoPanicQ.th ?_ | refine NoPanicQ.blk ?_ | refine NoPanicQ.ng ?_)) (fun hQ hS ws M' => ?_)
 refine D.ps 3 [(0, []), (1, []), (2, [])] rfl hQ hS T rfl rfl (by kernel_rfl) ?_
 obtain ⟨x11, hx11, hm⟩ := hm
 refine D.q 3 [] hQ hS rfl (.none rfl) rfl rfl (by exact Rd.ix T rfl rfl rfl rfl rfl rfl hx11) rfl (by kernel_rfl) ?_
 refine D.ps 4 [(4, []), (5, []), (6, []), (7, [])] rfl hQ hS T rfl rfl (by kernel_rfl) ?_
 refine D.q 8 [] hQ hS rfl (.none rfl) rfl rfl (by exact Rd.ix T rfl rfl rfl rfl rfl rfl hx11) rfl (by kernel_rfl) ?_
 refine D.ps 2 [(9, []), (10, [])] rfl hQ hS T rfl rfl (by kernel_rfl) ?_
 refine D.k 11 (T_body_at x11 x11.Cell _ hm) en125 (fun x12 hm => ?_)
 refine D.ps 1 [(12, [])] rfl hQ hS T rfl rfl (by kernel_rfl) ?_
 refine D.done (by kernel_rfl) ?_
 refine C.nx (C.ret ?_)
 exact C.g1 [some 1] T hβ ⟨x12, hm, rfl, rfl, rfl⟩
 refine U.start ?_
 refine U.ps 3 T rfl ?_
 refine hm.cs (fun hb5 hm => ?_) (fun hb5 hm => ?_)
 refine U.sks 5 2 false 7 hb5 rfl rfl rfl ?_
 refine U.pk hb5 ?_
 refine U.done ?_
 exact St.wa [some 0] (hJ4 _ hm)
 refine U.pg 5 2 false 7 hb5 T rfl rfl rfl rfl ?_
 refine U.pk' hb5 ?_
 refine U.done ?_
 exact St.wa [some 0] (hJ4 _ hm)
theorem T_body_Shelf (st : ApiState) (s_1 : Int) (post : (List Int) → Prop) (hm : V_body_Shelf st s_1 post) :
    Tr Tryz.prog 87 [.agg (eApiState st), .i s_1] [] 0 (fun A H' k => ∃ y, post y ∧ A = (.o 0) ∧ H' = [(0, .val (.os 1 eI y))] ∧ k = 1) := by
 refine Tr.intro (n := 27) Tryz.func87 rfl Tryz.ntmps87 rfl (fun w0 ok F β hβ => ?_)
 unfold V_body_Shelf at hm
 refine C.seq (U.start ?_)
 refine U.bx ?_
 refine U.pd 1 T (C.nx (C.seq (C.seq ?_)))
 refine C.jn (fun (x3 : Bool) => [(1, .i s_1), (2, .p 0 0), (19, .b x3)]) (fun (x3 : Bool) => [(0, .box (eApiState st))]) 1 hm (fun x3 hm => ?_) (fun J4 hm hJ4 => ?_)
 refine C.nx ?_
 refine C.ite rfl hm (fun hb8 hm => ?_) (fun hb8 hm => ?_)
 refine C.seq (U.start ?_)
 refine U.pd 1 T (C.nx (C.ret (C.rt ?_)))
 exact C.g1 [none] T hβ ⟨[], hm, rfl, rfl, rfl⟩
 refine C.skip (C.nx (C.seq (U.start ?_)))
 refine U.ps 3 T rfl ?_
 obtain ⟨x13, hx13, hm⟩ := hm
 refine U.r rfl (.none rfl) rfl rfl (by exact Rd.ix T rfl rfl rfl rfl rfl rfl hx13) ?_
 refine U.ps 1 T rfl ?_
 refine U.k (T_body_High x13 _ hm) en126 (fun x14 hm => ?_)
 refine U.e1 rfl (.none rfl) (by exact Eff1.bs T (enc := eI) (xs := ([x14] : List Int)) rfl rfl rfl rfl rfl rfl rfl rfl rfl rfl (fun _ _ => rfl) rfl rfl) ?_
 refine U.pd 1 T (C.nx (C.ret ?_))
 exact C.g1 [some 1] T hβ ⟨([x14] : List Int), hm, rfl, rfl, rfl⟩
 refine U.start ?_
 refine U.ps 3 T rfl ?_
 refine hm.cs (fun hb5 hm => ?_) (fun hb5 hm => ?_)
 refine U.sks 5 2 false 7 hb5 rfl rfl rfl ?_
 refine U.pk hb5 ?_
 refine U.ps 1 T rfl ?_
 refine U.sks 4 9 false 14 rfl rfl rfl rfl ?_
 refine U.pk rfl ?_
 refine U.done ?_
 exact St.wa [some 0] (hJ4 _ hm)
 refine U.pg 5 2 false 7 hb5 T rfl rfl rfl rfl ?_
 refine U.pk' hb5 ?_
 refine U.ps 1 T rfl ?_
 refine hm.cs (fun hb6 hm => ?_) (fun hb6 hm => ?_)
 refine U.sks 4 9 false 14 hb6 rfl rfl rfl ?_
 refine U.pk hb6 ?_
 refine U.done ?_
 exact St.wa [some 0] (hJ4 _ hm)
 refine U.pg 2 9 false 14 hb6 T rfl rfl rfl rfl ?_
 refine U.k (T_body_Carrier st s_1 _ hm) en46 (fun x7 hm => ?_) (hw := .take 9 false 14 _ hb6 rfl rfl rfl)
 refine U.pg 1 9 false 14 hb6 T rfl rfl rfl rfl ?_
 refine U.pk' hb6 ?_
 refine U.done ?_
 exact St.wa [some 0] (hJ4 _ hm)
theorem T_body_Person (st : ApiState) (p : Int) (post : (List Int) → Prop) (hm : V_body_Person st p post) :
    Tr Tryz.prog 88 [.agg (eApiState st), .i p] [] 0 (fun A H' k => ∃ y, post y ∧ A = (.o 0) ∧ H' = [(0, .val (.os 1 eI y))] ∧ k = 1) := by
 refine Tr.intro (n := 27) Tryz.func88 rfl Tryz.ntmps88 rfl (fun w0 ok F β hβ => ?_)
 unfold V_body_Person at hm
 refine C.seq (U.start ?_)
 refine U.bx ?_
 refine U.pd 1 T (C.nx (C.seq (C.seq ?_)))
 refine C.jn (fun (x3 : Bool) => [(1, .i p), (2, .p 0 0), (13, .b x3)]) (fun (x3 : Bool) => [(0, .box (eApiState st))]) 1 hm (fun x3 hm => ?_) (fun J4 hm hJ4 => ?_)
 refine C.nx ?_
 refine C.ite rfl hm (fun hb6 hm => ?_) (fun hb6 hm => ?_)
 refine C.seq (U.start ?_)
 refine U.pd 1 T (C.nx (C.ret (C.rt ?_)))
 exact C.g1 [none] T hβ ⟨[], hm, rfl, rfl, rfl⟩
 refine C.skip (C.nx (C.seq ?_))
 refine D.beg 9999 [0] [] mix rfl rfl (by kernel_rfl) (by repeat (first | exact NoPanicQ.body | exact NoPanicQ.rnd | refine NoPanicQ.th ?_ | refine NoPanicQ.blk ?_ | refine NoPanicQ.ng ?_)) (fun hQ hS ws M' => ?_)
 refine D.ps 3 [(0, []), (1, []), (2, [])] rfl hQ hS T rfl rfl (by kernel_rfl) ?_
 obtain ⟨x11, hx11, hm⟩ := hm
 refine D.q 3 [] hQ hS rfl (.none rfl) rfl rfl (by exact Rd.ix T rfl rfl rfl rfl rfl rfl hx11) rfl (by kernel_rfl) ?_
 refine D.ps 4 [(4, []), (6, []), (7, []), (8, [])] rfl hQ hS T rfl rfl (by kernel_rfl) ?_
 refine D.q 9 [] hQ hS rfl (.none rfl) rfl rfl (by exact Rd.ix T rfl rfl rfl rfl rfl rfl hx11) rfl (by kernel_rfl) ?_
 refine D.ps 1 [(10, [])] rfl hQ hS T rfl rfl (by kernel_rfl) ?_
 refine D.k 5 (T_body_Low x11 _ hm) en127 (fun x12 hm => ?_)
 refine D.k 11 (T_body_High x11 _ hm) en126 (fun x13 hm => ?_)
 refine D.e1 12 rfl (.none rfl) (by exact Eff1.bs T (enc := eI) (xs := ([x12, x13] : List Int)) rfl rfl rfl rfl rfl rfl rfl rfl rfl rfl (fun _ _ => rfl) rfl rfl) (by kernel_rfl) rfl rfl ?_
 refine D.ps 1 [(13, [])] rfl hQ hS T rfl rfl (by kernel_rfl) ?_
 refine D.done (by kernel_rfl) ?_
 refine C.nx (C.ret ?_)
 exact C.g1 [some 1] T hβ ⟨([x12, x13] : List Int), hm, rfl, rfl, rfl⟩
 refine U.start ?_
 refine U.ps 3 T rfl ?_
 refine hm.cs (fun hb5 hm => ?_) (fun hb5 hm => ?_)
 refine U.sks 5 2 false 7 hb5 rfl rfl rfl ?_
 refine U.pk hb5 ?_
 refine U.done ?_
 exact St.wa [some 0] (hJ4 _ hm)
 refine U.pg 5 2 false 7 hb5 T rfl rfl rfl rfl ?_
 refine U.pk' hb5 ?_
 refine U.done ?_
 exact St.wa [some 0] (hJ4 _ hm)
theorem T_body_all (st : ApiState) (post : (List Int) → Prop) (hm : V_body_all st post) :
    Tr Tryz.prog 49 [.agg (eApiState st)] [] 0 (fun A H' k => ∃ y, post y ∧ A = (.o 0) ∧ H' = [(0, .val (.os 1 eI y))] ∧ k = 1) := by
 refine Tr.intro (n := 44) Tryz.func49 rfl Tryz.ntmps49 rfl (fun w0 ok F β hβ => ?_)
 unfold V_body_all at hm
 refine C.seq (U.start ?_)
 refine U.bx ?_
 refine U.pd 1 T (C.nx (C.seq (U.start ?_)))
 refine U.pd 1 T (C.nx (C.seq (C.seq (U.start ?_))))
 refine U.pd 4 T (C.nx ?_)
 refine C.jn (fun (x7 : List Int) => [(1, .p 0 0), (3, .o 1)]) (fun (x7 : List Int) => [(0, .box (eApiState st)), (1, .val (.os 1 eI x7))]) 2 hm (fun x7 hm => ?_) (fun J8 hm hJ8 => ?_)
 refine C.nx (C.seq (C.seq (U.start ?_)))
 refine U.pd 4 T (C.nx ?_)
 refine C.jn (fun (x24 : List Int) => [(1, .p 0 0), (3, .o 1)]) (fun (x24 : List Int) => [(0, .box (eApiState st)), (1, .val (.os 1 eI x24))]) 2 hm (fun x24 hm => ?_) (fun J25 hm hJ25 => ?_)
 refine C.nx (C.seq (C.seq (U.start ?_)))
 refine U.pd 4 T (C.nx ?_)
 refine C.jn (fun (x41 : List Int) => [(3, .o 0)]) (fun (x41 : List Int) => [(0, .val (.os 1 eI x41))]) 1 hm (fun x41 hm => ?_) (fun J42 hm hJ42 => ?_)
 refine C.nx (C.seq (U.start ?_))
 refine U.pd 2 T (C.nx (C.ret ?_))
 exact C.g1 [some 0] T hβ ⟨x41, hm, rfl, rfl, rfl⟩
 refine C.block ?_
 refine St.wk (C.loop (fun (s43 : List Int × Int) => [(1, .p 0 0), (3, .o 1), (33, .i (st.People.length : Int)), (34, .i s43.2)]) (fun (s43 : List Int × Int) => [(0, .box (eApiState st)), (1, .val (.os 1 eI s43.1))]) hm (fun s43 Y44 hm => ?_)) (Wk.a (idR 2))
 refine C.seq (U.start ?_)
 refine U.pd 1 T (C.nx (C.seq ?_))
 refine C.ite rfl hm (fun hb47 hm => ?_) (fun hb47 hm => ?_)
 refine C.skip (C.nx (C.seq (C.block (C.seq (U.start ?_)))))
 refine U.pd 2 T (C.nx (U.start ?_))
 refine U.ps 3 T rfl ?_
 refine U.k (T_body_Person st s43.2 _ hm) en88 (fun x52 hm => ?_)
 obtain ⟨hx53, hm⟩ := hm
 refine U.e1 rfl (.none rfl) (by exact Eff1.ap T rfl rfl rfl rfl rfl rfl (.inr ⟨_, rfl, rfl⟩) rfl rfl rfl (fun _ => rfl) rfl hx53) ?_
 refine U.pd 1 T (C.bnx (C.nx (U.start ?_)))
 refine U.pd 2 T (C.nx ?_)
 exact St.wk (C.next hm) (Wk.a [some 0, some 3])
 refine C.exit (C.ex (C.ex (C.bex ?_)))
 exact St.wa [some 1] (hJ42 _ hm)
 refine C.block ?_
 refine St.wk (C.loop (fun (s26 : List Int × Int) => [(1, .p 0 0), (3, .o 1), (21, .i (st.Shelves.length : Int)), (22, .i s26.2)]) (fun (s26 : List Int × Int) => [(0, .box (eApiState st)), (1, .val (.os 1 eI s26.1))]) hm (fun s26 Y27 hm => ?_)) (Wk.a (idR 2))
 refine C.seq (U.start ?_)
 refine U.pd 1 T (C.nx (C.seq ?_))
 refine C.ite rfl hm (fun hb30 hm => ?_) (fun hb30 hm => ?_)
 refine C.skip (C.nx (C.seq (C.block (C.seq (U.start ?_)))))
 refine U.pd 2 T (C.nx (U.start ?_))
 refine U.ps 3 T rfl ?_
 refine U.k (T_body_Shelf st s26.2 _ hm) en87 (fun x35 hm => ?_)
 obtain ⟨hx36, hm⟩ := hm
 refine U.e1 rfl (.none rfl) (by exact Eff1.ap T rfl rfl rfl rfl rfl rfl (.inr ⟨_, rfl, rfl⟩) rfl rfl rfl (fun _ => rfl) rfl hx36) ?_
 refine U.pd 1 T (C.bnx (C.nx (U.start ?_)))
 refine U.pd 2 T (C.nx ?_)
 exact St.wk (C.next hm) (Wk.a [some 0, some 3])
 refine C.exit (C.ex (C.ex (C.bex ?_)))
 exact St.wa (idR 2) (hJ25 _ hm)
 refine C.block ?_
 refine St.wk (C.loop (fun (s9 : List Int × Int) => [(1, .p 0 0), (3, .o 1), (9, .i (st.Robots.length : Int)), (10, .i s9.2)]) (fun (s9 : List Int × Int) => [(0, .box (eApiState st)), (1, .val (.os 1 eI s9.1))]) hm (fun s9 Y10 hm => ?_)) (Wk.mk' [some 0, none] rfl rfl ⟨⟨_, rfl, (.eq rfl)⟩, ⟨_, rfl, (.nilO _ _ ⟨rfl, rfl⟩ rfl)⟩, ChkG.eqs rfl⟩ ⟨bX, ⟨_, rfl, .nil _ _⟩, trivial⟩ rfl)
 refine C.seq (U.start ?_)
 refine U.pd 1 T (C.nx (C.seq ?_))
 refine C.ite rfl hm (fun hb13 hm => ?_) (fun hb13 hm => ?_)
 refine C.skip (C.nx (C.seq (C.block (C.seq (U.start ?_)))))
 refine U.pd 2 T (C.nx (U.start ?_))
 refine U.ps 3 T rfl ?_
 refine U.k (T_body_Robot st s9.2 _ hm) en86 (fun x18 hm => ?_)
 obtain ⟨hx19, hm⟩ := hm
 refine U.e1 rfl (.none rfl) (by exact Eff1.ap T rfl rfl rfl rfl rfl rfl (.inr ⟨_, rfl, rfl⟩) rfl rfl rfl (fun _ => rfl) rfl hx19) ?_
 refine U.pd 1 T (C.bnx (C.nx (U.start ?_)))
 refine U.pd 2 T (C.nx ?_)
 exact St.wk (C.next hm) (Wk.a [some 0, some 3])
 refine C.exit (C.ex (C.ex (C.bex ?_)))
 exact St.wa (idR 2) (hJ8 _ hm)
theorem T_slices_Values_int_int (s_1 : List Int) (post : (List Int) → Prop) (hm : V_slices_Values_int_int s_1 post) :
    Tr Tryz.prog 85 [.sl 1 eI s_1] [] 0 (fun A H' k => ∃ y, post y ∧ A = (.fn (.func 124) [] [.p 0 0]) ∧ H' = [(0, .box [.sl 1 eI y])] ∧ k = 1) := by
 refine Tr.intro (n := 4) Tryz.func85 rfl Tryz.ntmps85 rfl (fun w0 ok F β hβ => ?_)
 unfold V_slices_Values_int_int at hm
 refine C.seq (U.start ?_)
 refine U.bx ?_
 refine U.pd 1 T (C.nx (C.seq (U.start ?_)))
 refine U.pd 2 T (C.nx (C.ret ?_))
 exact C.g1 [some 0] T hβ ⟨(s_1), hm, rfl, rfl, rfl⟩
theorem T_slices_AppendSeq_int_int__o0_slices_Values_int_int_1 (seq_c0 : List Int) (s_1 : List Int) (post : (List Int) → Prop) (hm : V_slices_AppendSeq_int_int__o0_slices_Values_int_int_1 seq_c0 s_1 post) :
    Tr Tryz.prog 154 [.o 0, .fn (.func 124) [] [.rp [.sl 1 eI seq_c0]]] [(0, .val (.os 1 eI s_1))] 1 (fun A H' k => ∃ y, post y ∧ A = (.o 1) ∧ H' = [(1, .val (.os 1 eI y))] ∧ k = 2) := by
 refine Tr.intro (n := 13) Tryz.func154 rfl Tryz.ntmps154 rfl (fun w0 ok F β hβ => ?_)
 unfold V_slices_AppendSeq_int_int__o0_slices_Values_int_int_1 at hm
 refine C.seq (U.start ?_)
 refine U.bx ?_
 refine U.pd 1 T (C.nx (C.seq (C.seq (U.start ?_))))
 refine U.pd 1 T (C.nx (C.block ?_))
 obtain ⟨hx8, hm⟩ := hm
 refine St.wk (C.range (Γ0 := [(2, .p 1 0), (6, .fn (.func 124) [] [.rp [.sl 1 eI seq_c0]])]) (Γ1 := fun (x5 : Int) => [(5, .i x5), (7, .i x5), (2, .p 1 0), (6, .fn (.func 124) [] [.rp [.sl 1 eI seq_c0]])]) (Hf := fun (s6 : List Int) => [(1, .box [.o 2]), (2, .val (.os 1 eI s6))]) 2 hm (it124 seq_c0 hx8) en124 rfl rfl rfl rfl rfl (fun _ => rfl) rfl rfl (fun _ => rfl) (fun x5 s6 Y7 hm w0 ok M β l => ?_) (fun s12 hm => ?_)) (Wk.a [some 0, some 1, some 0])
 refine CI.block ?_
 refine UI.start (by kernel_rfl) (by repeat (first | exact NoOut.rnd | refine NoOut.th ?_ | refine NoOut.blk ?_)) ?_
 refine U.ps 2 T rfl ?_
 refine U.e1 rfl (.none rfl) (by exact Eff1.bs T (enc := eI) (xs := ([x5] : List Int)) rfl rfl rfl rfl rfl rfl rfl rfl rfl rfl (fun _ _ => rfl) rfl rfl) ?_
 obtain ⟨hx11, hm⟩ := hm
 refine U.e1 rfl (.none rfl) (by exact Eff1.ap T rfl rfl rfl rfl rfl rfl (.inr ⟨_, rfl, rfl⟩) rfl rfl rfl (fun _ => rfl) rfl hx11) ?_
 refine U.e1 rfl (.none rfl) (by exact Eff1.st T rfl rfl rfl rfl rfl rfl rfl rfl rfl rfl) ?_
 refine U.done (C.bnx ?_)
 exact St.wk (CI.next hm) (Wk.mk' [some 0, some 1, some 4] rfl rfl trivial ⟨bX, vL, trivial⟩ rfl)
 refine C.bnx (C.nx (C.seq (U.start ?_)))
 refine U.pd 2 T (C.nx (C.ret ?_))
 exact C.g1 [some 0, some 2] T hβ ⟨s12, hm, rfl, rfl, rfl⟩
theorem T_slices_Collect_int__slices_Values_int_int_1 (seq_c0 : List Int) (post : (List Int) → Prop) (hm : V_slices_Collect_int__slices_Values_int_int_1 seq_c0 post) :
    Tr Tryz.prog 123 [.fn (.func 124) [] [.rp [.sl 1 eI seq_c0]]] [] 0 (fun A H' k => ∃ y, post y ∧ A = (.o 0) ∧ H' = [(0, .val (.os 1 eI y))] ∧ k = 1) := by
 refine Tr.intro (n := 5) Tryz.func123 rfl Tryz.ntmps123 rfl (fun w0 ok F β hβ => ?_)
 unfold V_slices_Collect_int__slices_Values_int_int_1 at hm
 refine C.seq (U.start ?_)
 refine U.pd 1 T (C.nx (C.seq (U.start ?_)))
 refine U.ps 1 T rfl ?_
 refine U.c [none] (T_slices_AppendSeq_int_int__o0_slices_Values_int_int_1 seq_c0 [] _ hm) en154 (fun x5 hm => ?_)
 refine U.pd 1 T (C.nx (C.ret ?_))
 exact C.g1 [some 1] T hβ ⟨x5, hm, rfl, rfl, rfl⟩
def siR92 : Go.Shelf.Ren := ⟨fun | 125 => 129 | 128 => 164 | 129 => 165 | 189 => 92 | 215 => 186 | 216 => 161 | 257 => 128 | 294 => 155 | 295 => 156 | 296 => 157 | 297 => 158 | 298 => 159 | 299 => 160 | 300 => 162 | 301 => 163 | 328 => 181 | 329 => 182 | 330 => 183 | 331 => 184 | 332 => 185 | 343 => 191 | n => n, fun | 0 => 0 | 3 => 3 | 4 => 4 | 5 => 5 | 9 => 9 | 28 => 22 | 46 => 167 | 51 => 192 | 53 => 194 | 131 => 54 | 182 => 184 | 183 => 185 | 218 => 208 | 222 => 212 | 228 => 216 | 229 => 217 | n => n, fun n => n⟩
theorem siL92 : Go.Proofs.Lays.n189 Tryz.prog siR92 where
  mixed := by kernel_rfl
  f125 := Tryz.func129.trans (congrArg some (by kernel_rfl))
  f128 := Tryz.func164.trans (congrArg some (by kernel_rfl))
  f129 := Tryz.func165.trans (congrArg some (by kernel_rfl))
  f189 := Tryz.func92.trans (congrArg some (by kernel_rfl))
  f215 := Tryz.func186.trans (congrArg some (by kernel_rfl))
  f216 := Tryz.func161.trans (congrArg some (by kernel_rfl))
  f257 := Tryz.func128.trans (congrArg some (by kernel_rfl))
  f294 := Tryz.func155.trans (congrArg some (by kernel_rfl))
  f295 := Tryz.func156.trans (congrArg some (by kernel_rfl))
  f296 := Tryz.func157.trans (congrArg some (by kernel_rfl))
  f297 := Tryz.func158.trans (congrArg some (by kernel_rfl))
  f298 := Tryz.func159.trans (congrArg some (by kernel_rfl))
  f299 := Tryz.func160.trans (congrArg some (by kernel_rfl))
  f300 := Tryz.func162.trans (congrArg some (by kernel_rfl))
  f301 := Tryz.func163.trans (congrArg some (by kernel_rfl))
  f328 := Tryz.func181.trans (congrArg some (by kernel_rfl))
  f329 := Tryz.func182.trans (congrArg some (by kernel_rfl))
  f330 := Tryz.func183.trans (congrArg some (by kernel_rfl))
  f331 := Tryz.func184.trans (congrArg some (by kernel_rfl))
  f332 := Tryz.func185.trans (congrArg some (by kernel_rfl))
  f343 := Tryz.func191.trans (congrArg some (by kernel_rfl))
  t0 := Tryz.underlying0
  a0 := Tryz.isAgg0
  z0 := Tryz.sizeOf0
  v0 := Tryz.zeroValue0
  t3 := Tryz.underlying3
  a3 := Tryz.isAgg3
  z3 := Tryz.sizeOf3
  v3 := Tryz.zeroValue3
  t4 := Tryz.underlying4
  a4 := Tryz.isAgg4
  z4 := Tryz.sizeOf4
  v4 := Tryz.zeroValue4
  t5 := Tryz.underlying5
  a5 := Tryz.isAgg5
  z5 := Tryz.sizeOf5
  v5 := Tryz.zeroValue5
  t9 := Tryz.underlying9
  a9 := Tryz.isAgg9
  z9 := Tryz.sizeOf9
  v9 := Tryz.zeroValue9
  t28 := Tryz.underlying22
  a28 := Tryz.isAgg22
  z28 := Tryz.sizeOf22
  v28 := Tryz.zeroValue22
  t46 := Tryz.underlying167
  a46 := Tryz.isAgg167
  z46 := Tryz.sizeOf167
  v46 := Tryz.zeroValue167
  t51 := Tryz.underlying192
  a51 := Tryz.isAgg192
  z51 := Tryz.sizeOf192
  v51 := Tryz.zeroValue192
  t53 := Tryz.underlying194
  a53 := Tryz.isAgg194
  z53 := Tryz.sizeOf194
  v53 := Tryz.zeroValue194
  t131 := Tryz.underlying54
  a131 := Tryz.isAgg54
  z131 := Tryz.sizeOf54
  v131 := Tryz.zeroValue54
  t182 := Tryz.underlying184
  a182 := Tryz.isAgg184
  z182 := Tryz.sizeOf184
  v182 := Tryz.zeroValue184
  t183 := Tryz.underlying185
  a183 := Tryz.isAgg185
  z183 := Tryz.sizeOf185
  v183 := Tryz.zeroValue185
  t218 := Tryz.underlying208
  a218 := Tryz.isAgg208
  z218 := Tryz.sizeOf208
  v218 := Tryz.zeroValue208
  t222 := Tryz.underlying212
  a222 := Tryz.isAgg212
  z222 := Tryz.sizeOf212
  v222 := Tryz.zeroValue212
  t228 := Tryz.underlying216
  a228 := Tryz.isAgg216
  z228 := Tryz.sizeOf216
  v228 := Tryz.zeroValue216
  t229 := Tryz.underlying217
  a229 := Tryz.isAgg217
  z229 := Tryz.sizeOf217
  v229 := Tryz.zeroValue217
theorem T_slices_Sort_int_int__o0 (p0 : List Int) (post : List Int → Prop) (hm : V_slices_Sort_int_int__o0 p0 post) :
    Tr Tryz.prog 92 [.o 0] [(0, .val (.os 1 eI p0))] 1 (fun A H' k => ∃ y, post y ∧ A = (.tup []) ∧ H' = [(0, .val (.os 1 eI y))] ∧ k = 1) := by
 unfold V_slices_Sort_int_int__o0 at hm
 exact Tr.sortInt siL92 p0 hm.1 hm.2
theorem T_slices_Sorted_int__slices_Values_int_int_1 (seq_c0 : List Int) (post : (List Int) → Prop) (hm : V_slices_Sorted_int__slices_Values_int_int_1 seq_c0 post) :
    Tr Tryz.prog 84 [.fn (.func 124) [] [.rp [.sl 1 eI seq_c0]]] [] 0 (fun A H' k => ∃ y, post y ∧ A = (.o 0) ∧ H' = [(0, .val (.os 1 eI y))] ∧ k = 1) := by
 refine Tr.intro (n := 9) Tryz.func84 rfl Tryz.ntmps84 rfl (fun w0 ok F β hβ => ?_)
 unfold V_slices_Sorted_int__slices_Values_int_int_1 at hm
 refine C.seq (U.start ?_)
 refine U.pd 1 T (C.nx (C.seq (U.start ?_)))
 refine U.ps 1 T rfl ?_
 refine U.k (T_slices_Collect_int__slices_Values_int_int_1 seq_c0 _ hm) en123 (fun x5 hm => ?_)
 refine U.pd 1 T (C.nx (C.seq (U.start ?_)))
 refine U.ps 1 T rfl ?_
 refine U.c [some 0] (T_slices_Sort_int_int__o0 x5 _ hm) en92 (fun x8 hm => ?_)
 refine U.done (C.nx (C.seq (U.start ?_)))
 refine U.pd 2 T (C.nx (C.ret ?_))
 exact C.g1 [some 0] T hβ ⟨x8, hm, rfl, rfl, rfl⟩
theorem T_body_Clash (slots : List Int) (post : (Int × Bool) → Prop) (hm : V_body_Clash slots post) :
    Tr Tryz.prog 48 [.sl 1 eI slots] [] 0 (fun A H' k => ∃ y, post y ∧ A = (.tup [.i y.1, .b y.2]) ∧ H' = [] ∧ k = 0) := by
 refine Tr.intro (n := 29) Tryz.func48 rfl Tryz.ntmps48 rfl (fun w0 ok F β hβ => ?_)
 unfold V_body_Clash at hm
 refine C.seq (U.start ?_)
 refine U.pd 2 T (C.nx (C.seq (U.start ?_)))
 refine U.ps 1 T rfl ?_
 refine U.e rfl (.none rfl) (by exact Eff.c [] (v := false) (T_slices_Values_int_int slots _ hm) en85 rfl rfl rfl (.eq rfl) trivial rfl rfl rfl rfl rfl rfl (fun h => by cases h) (.inr ⟨rfl, rfl⟩) (fun _ => rfl) (fun _ => rfl) rfl) (fun x5' hm => ?_)
 obtain ⟨x5⟩ := x5'
 refine U.k (T_slices_Sorted_int__slices_Values_int_int_1 x5 _ hm) en84 (fun x6 hm => ?_)
 refine U.pd 1 T (C.nx (C.seq (C.seq (U.start ?_))))
 refine U.pd 1 T (C.nx ?_)
 refine C.jn (fun (x9 : Unit) => []) (fun (x9 : Unit) => []) 0 hm (fun x9 hm => ?_) (fun J10 hm hJ10 => ?_)
 refine C.nx (C.seq (U.start ?_))
 refine U.pd 2 T (C.nx (C.ret ?_))
 exact C.f9 T hβ ⟨(0, false), hm, rfl, rfl, rfl⟩
 refine C.block ?_
 refine St.wk (C.loop (fun (s11 : Int) => [(4, .o 0), (5, .i s11)]) (fun (s11 : Int) => [(0, .val (.os 1 eI x6))]) hm (fun s11 Y12 hm => ?_)) (Wk.a [some 1])
 refine C.seq (C.seq (U.start ?_))
 refine U.pd 4 T (C.nx ?_)
 refine C.ite rfl hm (fun hb15 hm => ?_) (fun hb15 hm => ?_)
 refine C.skip (C.nx (C.seq (C.block (C.seq ?_))))
 refine D.beg 9999 [0] [] mix rfl rfl (by kernel_rfl) (by repeat (first | exact NoPanicQ.body | exact NoPanicQ.rnd | refine NoPanicQ.th ?_ | refine NoPanicQ.blk ?_ | refine NoPanicQ.ng ?_)) (fun hQ hS ws M' => ?_)
 refine D.ps 2 [(0, []), (1, [])] rfl hQ hS T rfl rfl (by kernel_rfl) ?_
 obtain ⟨x18, hx18, hm⟩ := hm
 refine D.q 2 [] hQ hS rfl (.none rfl) rfl rfl (by exact Rd.io T rfl rfl rfl rfl rfl rfl rfl hx18) rfl (by kernel_rfl) ?_
 refine D.q 3 [] hQ hS rfl (.none rfl) rfl rfl (by exact Rd.le T rfl rfl rfl (idx_some hx18).2.2 rfl rfl rfl) rfl (by kernel_rfl) ?_
 refine D.ps 3 [(4, []), (5, []), (6, [])] rfl hQ hS T rfl rfl (by kernel_rfl) ?_
 obtain ⟨x19, hx19, hm⟩ := hm
 refine D.q 7 [] hQ hS rfl (.none rfl) rfl rfl (by exact Rd.io T rfl rfl rfl rfl rfl rfl rfl hx19) rfl (by kernel_rfl) ?_
 refine D.q 8 [] hQ hS rfl (.none rfl) rfl rfl (by exact Rd.le T rfl rfl rfl (idx_some hx19).2.2 rfl rfl rfl) rfl (by kernel_rfl) ?_
 refine D.ps 1 [(9, [])] rfl hQ hS T rfl rfl (by kernel_rfl) ?_
 refine D.done (by kernel_rfl) ?_
 refine C.nx ?_
 refine C.ite rfl hm (fun hb20 hm => ?_) (fun hb20 hm => ?_)
 refine C.seq (U.start ?_)
 refine U.ps 2 T rfl ?_
 refine U.r rfl (.none rfl) rfl rfl (by exact Rd.io T rfl rfl rfl rfl rfl rfl rfl hx18) ?_
 refine U.r rfl (.none rfl) rfl rfl (by exact Rd.le T rfl rfl rfl (idx_some hx18).2.2 rfl rfl rfl) ?_
 refine U.pd 2 T (C.nx (C.ret (C.brt (C.rt (C.rt (C.brt (C.rt ?_)))))))
 exact C.f9 T hβ ⟨(x18, true), hm, rfl, rfl, rfl⟩
 refine C.skip (C.bnx (C.nx (U.start ?_)))
 refine U.pd 3 T (C.nx ?_)
 exact St.wk (C.next hm) (Wk.a [some 0])
 refine C.exit (C.ex (C.ex (C.bex ?_)))
 exact St.wk (hJ10 _ hm) (Wk.mk' [] rfl rfl trivial trivial rfl)
theorem T_body_Right (s_1 : ApiSite) (st : ApiState) (post : Bool → Prop) (hm : V_body_Right s_1 st post) :
    Tr Tryz.prog 12 [.agg (eApiSite s_1), .agg (eApiState st)] [] 0 (fun A H' k => ∃ y, post y ∧ A = (.b y) ∧ H' = [] ∧ k = 0) := by
 refine Tr.intro (n := 95) Tryz.func12 rfl Tryz.ntmps12 rfl (fun w0 ok F β hβ => ?_)
 unfold V_body_Right at hm
 refine C.seq (U.start ?_)
 refine U.bx ?_
 refine U.bx ?_
 refine U.pd 1 T (C.nx (C.seq (C.seq ?_)))
 refine C.jn (fun (x3 : Bool) => [(2, .p 0 0), (3, .p 1 0), (51, .b x3)]) (fun (x3 : Bool) => [(0, .box (eApiSite s_1)), (1, .box (eApiState st))]) 2 hm (fun x3 hm => ?_) (fun J4 hm hJ4 => ?_)
 refine C.nx ?_
 refine C.ite rfl hm (fun hb13 hm => ?_) (fun hb13 hm => ?_)
 refine C.seq (U.start ?_)
 refine U.pd 1 T (C.nx (C.ret (C.rt ?_)))
 exact C.f1 T hβ ⟨false, hm, rfl, rfl, rfl⟩
 refine C.skip (C.nx (C.seq (C.seq (U.start ?_))))
 refine U.pd 4 T (C.nx ?_)
 refine C.jn (fun (x18 : Unit) => [(2, .p 0 0), (3, .p 1 0)]) (fun (x18 : Unit) => [(0, .box (eApiSite s_1)), (1, .box (eApiState st))]) 2 hm (fun x18 hm => ?_) (fun J19 hm hJ19 => ?_)
 refine C.nx (C.seq (C.seq (U.start ?_)))
 refine U.pd 4 T (C.nx ?_)
 refine C.jn (fun (x40 : Unit) => [(3, .p 0 0)]) (fun (x40 : Unit) => [(0, .box (eApiState st))]) 1 hm (fun x40 hm => ?_) (fun J41 hm hJ41 => ?_)
 refine C.nx (C.seq (U.start ?_))
 refine U.ps 1 T rfl ?_
 refine U.k (T_body_all st _ hm) en49 (fun x60 hm => ?_)
 refine U.k (T_body_Clash x60 _ hm) en48 (fun x61 hm => ?_)
 refine U.pd 5 T (C.nx (C.seq (U.start ?_)))
 refine U.pd 3 T (C.nx (C.ret ?_))
 exact C.f1 T hβ ⟨!x61.2, hm, rfl, rfl, rfl⟩
 refine C.block ?_
 refine St.wk (C.loop (fun (s42 : Int) => [(2, .p 0 0), (3, .p 1 0), (74, .sl 1 eI st.People), (75, .i (st.People.length : Int)), (76, .i s42)]) (fun (s42 : Int) => [(0, .box (eApiSite s_1)), (1, .box (eApiState st))]) hm (fun s42 Y43 hm => ?_)) (Wk.a (idR 2))
 refine C.seq (U.start ?_)
 refine U.pd 1 T (C.nx (C.seq ?_))
 refine C.ite rfl hm (fun hb46 hm => ?_) (fun hb46 hm => ?_)
 refine C.skip (C.nx (C.seq (C.block (C.seq (U.start ?_)))))
 obtain ⟨x49, hx49, hm⟩ := hm
 refine U.r rfl (.none rfl) rfl rfl (by exact Rd.ix T rfl rfl rfl rfl rfl rfl hx49) ?_
 refine U.pd 2 T (C.nx (C.seq (U.start ?_)))
 refine U.ps 3 T rfl ?_
 refine U.e1 rfl (.none rfl) (by exact Eff1.bs T (enc := eI) (xs := ([4, 5] : List Int)) rfl rfl rfl rfl rfl rfl rfl rfl rfl rfl (fun _ _ => rfl) rfl rfl) ?_
 refine U.k (T_body_on s_1.Floor x49 ([4, 5] : List Int) _ hm) en47 (fun x52 hm => ?_)
 refine U.pd 1 T (C.nx ?_)
 refine C.ite rfl hm (fun hb53 hm => ?_) (fun hb53 hm => ?_)
 refine C.seq (U.start ?_)
 refine U.pd 1 T (C.nx (C.ret (C.brt (C.rt (C.rt (C.brt (C.rt ?_)))))))
 exact C.f1 T hβ ⟨false, hm, rfl, rfl, rfl⟩
 refine C.skip (C.bnx (C.nx (U.start ?_)))
 refine U.pd 2 T (C.nx ?_)
 exact St.wk (C.next hm) (Wk.a (idR 2))
 refine C.exit (C.ex (C.ex (C.bex ?_)))
 exact St.wa [some 1] (hJ41 _ hm)
 refine C.block ?_
 refine St.wk (C.loop (fun (s20 : Int) => [(2, .p 0 0), (3, .p 1 0), (53, .sl 1 eI st.Shelves), (54, .i (st.Shelves.length : Int)), (55, .i s20)]) (fun (s20 : Int) => [(0, .box (eApiSite s_1)), (1, .box (eApiState st))]) hm (fun s20 Y21 hm => ?_)) (Wk.a (idR 2))
 refine C.seq (U.start ?_)
 refine U.pd 1 T (C.nx (C.seq ?_))
 refine C.ite rfl hm (fun hb24 hm => ?_) (fun hb24 hm => ?_)
 refine C.skip (C.nx (C.seq (C.block (C.seq (U.start ?_)))))
 refine U.ps 1 T rfl ?_
 obtain ⟨x27, hx27, hm⟩ := hm
 refine U.r rfl (.none rfl) rfl rfl (by exact Rd.ix T rfl rfl rfl rfl rfl rfl hx27) ?_
 refine U.pd 3 T (C.nx (C.seq ?_))
 refine C.jn (fun (x28 : Bool) => [(2, .p 0 0), (3, .p 1 0), (53, .sl 1 eI st.Shelves), (54, .i (st.Shelves.length : Int)), (55, .i s20), (71, .b x28)]) (fun (x28 : Bool) => [(0, .box (eApiSite s_1)), (1, .box (eApiState st))]) 2 hm (fun x28 hm => ?_) (fun J29 hm hJ29 => ?_)
 refine C.nx ?_
 refine C.ite rfl hm (fun hb33 hm => ?_) (fun hb33 hm => ?_)
 refine C.seq (U.start ?_)
 refine U.pd 1 T (C.nx (C.ret (C.brt (C.rt (C.rt (C.brt (C.rt ?_)))))))
 exact C.f1 T hβ ⟨false, hm, rfl, rfl, rfl⟩
 refine C.skip (C.bnx (C.nx (U.start ?_)))
 refine U.pd 2 T (C.nx ?_)
 exact St.wk (C.next hm) (Wk.a (idR 2))
 refine U.start ?_
 refine U.ps 2 T rfl ?_
 refine U.k (T_body_Carrier st s20 _ hm) en46 (fun x30 hm => ?_)
 refine U.ps 2 T rfl ?_
 refine hm.cs (fun hb31 hm => ?_) (fun hb31 hm => ?_)
 refine U.pg 3 4 true 64 hb31 T rfl rfl rfl rfl ?_
 refine U.e1 rfl (.take 4 true 64 _ hb31 rfl rfl rfl) (by exact Eff1.bs T (enc := eI) (xs := ([1, 2] : List Int)) rfl rfl rfl rfl rfl rfl rfl rfl rfl rfl (fun _ _ => rfl) rfl rfl) ?_
 refine U.k (T_body_on s_1.Floor x27 ([1, 2] : List Int) _ hm) en47 (fun x32 hm => ?_) (hw := .take 4 true 64 _ hb31 rfl rfl rfl)
 refine U.pg 1 4 true 64 hb31 T rfl rfl rfl rfl ?_
 refine U.pk hb31 ?_
 refine U.done ?_
 exact St.wa (idR 2) (hJ29 _ hm)
 refine U.sks 6 4 true 64 hb31 rfl rfl rfl ?_
 refine U.pk' hb31 ?_
 refine U.done ?_
 exact St.wa (idR 2) (hJ29 _ hm)
 refine C.exit (C.ex (C.ex (C.bex ?_)))
 exact St.wa (idR 2) (hJ19 _ hm)
 refine U.start ?_
 refine U.ps 2 T rfl ?_
 refine U.k (T_body_within st.Tick 0 20000 _ hm) en43 (fun x5 hm => ?_)
 refine U.ps 2 T rfl ?_
 refine hm.cs (fun hb6 hm => ?_) (fun hb6 hm => ?_)
 refine U.pg 7 4 false 15 (ntF hb6) T rfl rfl rfl rfl ?_
 refine U.r rfl (.none rfl) rfl rfl (by exact Rd.pk' rfl rfl (ntF hb6) rfl) ?_
 refine U.ps 1 T rfl ?_
 refine hm.cs (fun hb7 hm => ?_) (fun hb7 hm => ?_)
 refine U.sks 7 13 false 24 hb7 rfl rfl rfl ?_
 refine U.pk hb7 ?_
 refine U.ps 1 T rfl ?_
 refine U.sks 4 22 false 33 rfl rfl rfl rfl ?_
 refine U.pk rfl ?_
 refine U.ps 1 T rfl ?_
 refine U.sks 4 28 false 39 rfl rfl rfl rfl ?_
 refine U.pk rfl ?_
 refine U.ps 1 T rfl ?_
 refine U.sks 5 34 false 45 rfl rfl rfl rfl ?_
 refine U.pk rfl ?_
 refine U.done ?_
 exact St.wa (idR 2) (hJ4 _ hm)
 refine U.pg 7 13 false 24 hb7 T rfl rfl rfl rfl ?_
 refine U.pk' hb7 ?_
 refine U.ps 1 T rfl ?_
 refine hm.cs (fun hb8 hm => ?_) (fun hb8 hm => ?_)
 refine U.sks 4 22 false 33 hb8 rfl rfl rfl ?_
 refine U.pk hb8 ?_
 refine U.ps 1 T rfl ?_
 refine U.sks 4 28 false 39 rfl rfl rfl rfl ?_
 refine U.pk rfl ?_
 refine U.ps 1 T rfl ?_
 refine U.sks 5 34 false 45 rfl rfl rfl rfl ?_
 refine U.pk rfl ?_
 refine U.done ?_
 exact St.wa (idR 2) (hJ4 _ hm)
 refine U.pg 4 22 false 33 hb8 T rfl rfl rfl rfl ?_
 refine U.pk' hb8 ?_
 refine U.ps 1 T rfl ?_
 refine hm.cs (fun hb9 hm => ?_) (fun hb9 hm => ?_)
 refine U.sks 4 28 false 39 hb9 rfl rfl rfl ?_
 refine U.pk hb9 ?_
 refine U.ps 1 T rfl ?_
 refine U.sks 5 34 false 45 rfl rfl rfl rfl ?_
 refine U.pk rfl ?_
 refine U.done ?_
 exact St.wa (idR 2) (hJ4 _ hm)
 refine U.pg 2 28 false 39 hb9 T rfl rfl rfl rfl ?_
 refine U.k (T_body_robots s_1 st _ hm) en44 (fun x10 hm => ?_) (hw := .take 28 false 39 _ hb9 rfl rfl rfl)
 refine U.pg 1 28 false 39 hb9 T rfl rfl rfl rfl ?_
 refine U.pk' hb9 ?_
 refine U.ps 1 T rfl ?_
 refine hm.cs (fun hb11 hm => ?_) (fun hb11 hm => ?_)
 refine U.pg 3 34 false 45 (ntF hb11) T rfl rfl rfl rfl ?_
 refine U.k (T_body_rest s_1.Floor st _ hm) en45 (fun x12 hm => ?_) (hw := .take 34 false 45 _ (ntF hb11) rfl rfl rfl)
 refine U.pg 1 34 false 45 (ntF hb11) T rfl rfl rfl rfl ?_
 refine U.r rfl (.none rfl) rfl rfl (by exact Rd.pk' rfl rfl (ntF hb11) rfl) ?_
 refine U.done ?_
 exact St.wa (idR 2) (hJ4 _ hm)
 refine U.sks 5 34 false 45 (ntT hb11) rfl rfl rfl ?_
 refine U.r rfl (.none rfl) rfl rfl (by exact Rd.pk rfl rfl (ntT hb11) rfl) ?_
 refine U.done ?_
 exact St.wa (idR 2) (hJ4 _ hm)
 refine U.sks 7 4 false 15 (ntT hb6) rfl rfl rfl ?_
 refine U.r rfl (.none rfl) rfl rfl (by exact Rd.pk rfl rfl (ntT hb6) rfl) ?_
 refine U.ps 1 T rfl ?_
 refine U.sks 7 13 false 24 rfl rfl rfl rfl ?_
 refine U.pk rfl ?_
 refine U.ps 1 T rfl ?_
 refine U.sks 4 22 false 33 rfl rfl rfl rfl ?_
 refine U.pk rfl ?_
 refine U.ps 1 T rfl ?_
 refine U.sks 4 28 false 39 rfl rfl rfl rfl ?_
 refine U.pk rfl ?_
 refine U.ps 1 T rfl ?_
 refine U.sks 5 34 false 45 rfl rfl rfl rfl ?_
 refine U.pk rfl ?_
 refine U.done ?_
 exact St.wa (idR 2) (hJ4 _ hm)
theorem T_slices_Clone_int_int (s_1 : List Int) (post : (List Int) → Prop) (hm : V_slices_Clone_int_int s_1 post) :
    Tr Tryz.prog 51 [.sl 1 eI s_1] [] 0 (fun A H' k => ∃ y, post y ∧ A = (.o 0) ∧ H' = [(0, .val (.os 1 eI y))] ∧ k = 1) := by
 refine Tr.intro (n := 8) Tryz.func51 rfl Tryz.ntmps51 rfl (fun w0 ok F β hβ => ?_)
 unfold V_slices_Clone_int_int at hm
 refine C.seq (U.start ?_)
 refine U.pd 1 T (C.nx (C.seq (C.seq (U.start ?_))))
 refine U.ps 1 T rfl ?_
 refine U.e rfl (.none rfl) (by exact Eff.isnil T true rfl rfl rfl rfl rfl rfl (.inl ⟨.sl, rfl⟩) rfl) (fun hb5' hhb5 => ?_)
 obtain ⟨hb5⟩ := hb5'
 replace hm := hm hb5 hhb5
 refine U.done (C.nx ?_)
 refine C.ite rfl hm (fun hb6 hm => ?_) (fun hb6 hm => ?_)
 refine C.seq (U.start ?_)
 refine U.pd 1 T (C.nx (C.ret (C.rt ?_)))
 exact C.g1 [none] T hβ ⟨[], hm, rfl, rfl, rfl⟩
 refine C.skip (C.nx (C.seq (U.start ?_)))
 refine U.e1 rfl (.none rfl) (by exact Eff1.bs T (enc := eI) (xs := ([] : List Int)) rfl rfl rfl rfl rfl rfl rfl rfl rfl rfl (fun _ _ => rfl) rfl rfl) ?_
 refine U.ps 1 T rfl ?_
 obtain ⟨hx11, hm⟩ := hm
 refine U.e1 rfl (.none rfl) (by exact Eff1.ap T rfl rfl rfl rfl rfl rfl (.inl rfl) rfl rfl rfl (fun _ => rfl) rfl hx11) ?_
 refine U.pd 1 T (C.nx (C.ret ?_))
 exact C.g1 [some 1] T hβ ⟨(([] : List Int) ++ s_1), hm, rfl, rfl, rfl⟩
theorem T_region_isCell (c : Int) (post : Bool → Prop) (hm : V_region_isCell c post) :
    Tr Tryz.prog 91 [.i c] [] 0 (fun A H' k => ∃ y, post y ∧ A = (.b y) ∧ H' = [] ∧ k = 0) := by
 refine Tr.intro (n := 9) Tryz.func91 rfl Tryz.ntmps91 rfl (fun w0 ok F β hβ => ?_)
 unfold V_region_isCell at hm
 refine C.seq (U.start ?_)
 refine U.pd 1 T (C.nx (C.seq ?_))
 refine C.jn (fun (x3 : Bool) => [(2, .b x3)]) (fun (x3 : Bool) => []) 0 hm (fun x3 hm => ?_) (fun J4 hm hJ4 => ?_)
 refine C.nx (C.ret ?_)
 exact C.f1 T hβ ⟨x3, hm, rfl, rfl, rfl⟩
 refine U.start ?_
 refine U.ps 3 T rfl ?_
 refine hm.cs (fun hb5 hm => ?_) (fun hb5 hm => ?_)
 refine U.pg 2 2 true 5 hb5 T rfl rfl rfl rfl ?_
 refine U.pk hb5 ?_
 refine U.pd 1 T ?_
 exact St.wn (hJ4 _ hm)
 refine U.sks 2 2 true 5 hb5 rfl rfl rfl ?_
 refine U.pk' hb5 ?_
 refine U.pd 1 T ?_
 exact St.wn (hJ4 _ hm)
theorem T_region_Of_1 (c : Int) (post : Bool → Prop) (hm : V_region_Of_1 c post) :
    Tr Tryz.prog 90 [.i c] [] 0 (fun A H' k => ∃ y, post y ∧ A = (.b y) ∧ H' = [] ∧ k = 0) := by
 refine Tr.intro (n := 6) Tryz.func90 rfl Tryz.ntmps90 rfl (fun w0 ok F β hβ => ?_)
 unfold V_region_Of_1 at hm
 refine C.seq (U.start ?_)
 refine U.pd 1 T (C.nx (C.seq (U.start ?_)))
 refine U.ps 1 T rfl ?_
 refine U.k (T_region_isCell c _ hm) en91 (fun x5 hm => ?_)
 refine U.pd 2 T (C.nx (C.ret ?_))
 exact C.f1 T hβ ⟨!x5, hm, rfl, rfl, rfl⟩
theorem T_slices_IndexFunc_int_int__region_Of_1 (s_1 : List Int) (post : Int → Prop) (hm : V_slices_IndexFunc_int_int__region_Of_1 s_1 post) :
    Tr Tryz.prog 94 [.sl 1 eI s_1, .fn (.func 90) [] []] [] 0 (fun A H' k => ∃ y, post y ∧ A = (.i y) ∧ H' = [] ∧ k = 0) := by
 refine Tr.intro (n := 19) Tryz.func94 rfl Tryz.ntmps94 rfl (fun w0 ok F β hβ => ?_)
 unfold V_slices_IndexFunc_int_int__region_Of_1 at hm
 refine C.seq (U.start ?_)
 refine U.pd 1 T (C.nx (C.seq (C.seq (U.start ?_))))
 refine U.pd 3 T (C.nx ?_)
 refine C.jn (fun (x5 : Unit) => []) (fun (x5 : Unit) => []) 0 hm (fun x5 hm => ?_) (fun J6 hm hJ6 => ?_)
 refine C.nx (C.seq (U.start ?_))
 refine U.pd 1 T (C.nx (C.ret ?_))
 exact C.f1 T hβ ⟨(-1), hm, rfl, rfl, rfl⟩
 refine C.block ?_
 refine St.wk (C.loop (fun (s7 : Int) => [(0, .sl 1 eI s_1), (1, .fn (.func 90) [] []), (7, .i (s_1.length : Int)), (8, .i s7)]) (fun (s7 : Int) => []) hm (fun s7 Y8 hm => ?_)) (Wk.e)
 refine C.seq (U.start ?_)
 refine U.pd 1 T (C.nx (C.seq ?_))
 refine C.ite rfl hm (fun hb11 hm => ?_) (fun hb11 hm => ?_)
 refine C.skip (C.nx (C.seq (C.block (C.seq (U.start ?_)))))
 refine U.pd 2 T (C.nx (C.seq (U.start ?_)))
 refine U.ps 3 T rfl ?_
 obtain ⟨x16, hx16, hm⟩ := hm
 refine U.r rfl (.none rfl) rfl rfl (by exact Rd.ix T rfl rfl rfl rfl rfl rfl hx16) ?_
 refine U.ps 1 T rfl ?_
 refine U.k (T_region_Of_1 x16 _ hm) en90 (fun x17 hm => ?_)
 refine U.done (C.nx ?_)
 refine C.ite rfl hm (fun hb18 hm => ?_) (fun hb18 hm => ?_)
 refine C.seq (U.start ?_)
 refine U.pd 2 T (C.nx (C.ret (C.brt (C.rt (C.rt (C.brt (C.rt ?_)))))))
 exact C.f1 T hβ ⟨s7, hm, rfl, rfl, rfl⟩
 refine C.skip (C.bnx (C.nx (U.start ?_)))
 refine U.pd 2 T (C.nx ?_)
 exact St.wk (C.next hm) (Wk.e)
 refine C.exit (C.ex (C.ex (C.bex ?_)))
 exact St.wk (hJ6 _ hm) (Wk.mk' [] rfl rfl trivial trivial rfl)
theorem T_slices_DeleteFunc_int_int__o0_region_Of_1 (s_1 : List Int) (post : (List Int) → Prop) (hm : V_slices_DeleteFunc_int_int__o0_region_Of_1 s_1 post) :
    Tr Tryz.prog 89 [.o 0, .fn (.func 90) [] []] [(0, .val (.os 1 eI s_1))] 1 (fun A H' k => ∃ y, post y ∧ A = (.o 1) ∧ H' = [(1, .val (.os 1 eI y))] ∧ k = 2) := by
 refine Tr.intro (n := 42) Tryz.func89 rfl Tryz.ntmps89 rfl (fun w0 ok F β hβ => ?_)
 unfold V_slices_DeleteFunc_int_int__o0_region_Of_1 at hm
 refine C.seq (U.start ?_)
 refine U.pd 1 T (C.nx (C.seq (U.start ?_)))
 refine U.ps 2 T rfl ?_
 refine U.k (T_slices_IndexFunc_int_int__region_Of_1 s_1 _ hm) en94 (fun x5 hm => ?_)
 refine U.pd 1 T (C.nx (C.seq (C.seq (U.start ?_))))
 refine U.pd 2 T (C.nx ?_)
 refine C.ite rfl hm (fun hb8 hm => ?_) (fun hb8 hm => ?_)
 refine C.seq (U.start ?_)
 refine U.pd 2 T (C.nx (C.ret (C.rt ?_)))
 exact C.g1 [some 0, some 0] T hβ ⟨s_1, hm, rfl, rfl, rfl⟩
 refine C.skip (C.nx (C.seq (C.seq (U.start ?_))))
 refine U.pd 3 T (C.nx ?_)
 refine C.jn (fun (x13 : List Int × Int) => [(0, .o 0), (5, .i x13.2)]) (fun (x13 : List Int × Int) => [(0, .val (.os 1 eI x13.1))]) 1 hm (fun x13 hm => ?_) (fun J14 hm hJ14 => ?_)
 refine C.nx (C.seq (U.start ?_))
 refine U.ps 2 T rfl ?_
 obtain ⟨hx38, hm⟩ := hm
 refine U.r rfl (.none rfl) rfl rfl (by exact Rd.vw T rfl rfl rfl rfl rfl rfl (.some _ rfl) (.none _) hx38) ?_
 obtain ⟨hx39, hm⟩ := hm
 refine U.e1 rfl (.none rfl) (by exact Eff1.clv T (z0 := 0) rfl rfl rfl rfl rfl rfl rfl (fun _ => rfl) rfl hx39) ?_
 refine U.done (C.nx (C.seq (U.start ?_)))
 refine U.ps 2 T rfl ?_
 obtain ⟨hx42, hm⟩ := hm
 refine U.e1 rfl (.none rfl) (by exact Eff1.sw T rfl rfl rfl rfl rfl rfl rfl rfl (.none _) (.some _ rfl) hx42) ?_
 refine U.pd 1 T (C.nx (C.ret ?_))
 exact C.g1 (idR 2) T hβ ⟨(sub (x13.1.take (Int.toNat x13.2) ++ (List.replicate (Int.toNat ((x13.1.length : Int) - x13.2)) 0 ++ x13.1.drop ((Int.toNat x13.2) + (Int.toNat ((x13.1.length : Int) - x13.2))))) 0 x13.2), hm, rfl, rfl, rfl⟩
 refine C.block ?_
 refine St.wk (C.loop (fun (s15 : List Int × Int × Int) => [(0, .o 0), (1, .fn (.func 90) [] []), (5, .i s15.2.1), (6, .i s15.2.2)]) (fun (s15 : List Int × Int × Int) => [(0, .val (.os 1 eI s15.1))]) hm (fun s15 Y16 hm => ?_)) (Wk.a [some 0])
 refine C.seq (C.seq (U.start ?_))
 refine U.pd 4 T (C.nx ?_)
 refine C.ite rfl hm (fun hb19 hm => ?_) (fun hb19 hm => ?_)
 refine C.skip (C.nx (C.seq (C.block (C.seq (U.start ?_)))))
 refine U.ps 2 T rfl ?_
 obtain ⟨x22, hx22, hm⟩ := hm
 refine U.r rfl (.none rfl) rfl rfl (by exact Rd.io T rfl rfl rfl rfl rfl rfl rfl hx22) ?_
 refine U.r rfl (.none rfl) rfl rfl (by exact Rd.le T rfl rfl rfl (idx_some hx22).2.2 rfl rfl rfl) ?_
 refine U.pd 1 T (C.nx (C.seq (U.start ?_)))
 refine U.ps 2 T rfl ?_
 refine U.k (T_region_Of_1 x22 _ hm) en90 (fun x25 hm => ?_)
 refine U.pd 1 T (C.nx ?_)
 refine C.jn (fun (x26 : List Int × Int) => [(0, .o 0), (1, .fn (.func 90) [] []), (5, .i x26.2), (6, .i s15.2.2)]) (fun (x26 : List Int × Int) => [(0, .val (.os 1 eI x26.1))]) 1 hm (fun x26 hm => ?_) (fun J27 hm hJ27 => ?_)
 refine C.bnx (C.nx (U.start ?_))
 refine U.pd 3 T (C.nx ?_)
 exact St.wk (C.next hm) (Wk.a [some 0])
 refine C.ite rfl hm (fun hb28 hm => ?_) (fun hb28 hm => ?_)
 refine C.seq (U.start ?_)
 refine U.ps 3 T rfl ?_
 obtain ⟨x31, hx31, hm⟩ := hm
 refine U.r rfl (.none rfl) rfl rfl (by exact Rd.io T rfl rfl rfl rfl rfl rfl rfl hx31) ?_
 refine U.e1 rfl (.none rfl) (by exact Eff1.se T (z' := x22) rfl rfl rfl (idx_some hx31).2.2 rfl rfl rfl rfl rfl rfl rfl rfl (fun _ => rfl) rfl) ?_
 refine U.done (C.nx (U.start ?_))
 refine U.pd 3 T ?_
 exact St.wa [some 0] (hJ27 _ hm)
 refine C.skip ?_
 exact St.wa [some 0] (hJ27 _ hm)
 refine C.exit (C.ex (C.ex (C.bex ?_)))
 exact St.wa [some 0] (hJ14 _ hm)
theorem T_slices_Compact_int_int__o0 (s_1 : List Int) (post : (List Int) → Prop) (hm : V_slices_Compact_int_int__o0 s_1 post) :
    Tr Tryz.prog 93 [.o 0] [(0, .val (.os 1 eI s_1))] 1 (fun A H' k => ∃ y, post y ∧ A = (.o 1) ∧ H' = [(1, .val (.os 1 eI y))] ∧ k = 2) := by
 refine Tr.intro (n := 61) Tryz.func93 rfl Tryz.ntmps93 rfl (fun w0 ok F β hβ => ?_)
 unfold V_slices_Compact_int_int__o0 at hm
 refine C.seq (U.start ?_)
 refine U.pd 1 T (C.nx (C.seq (C.seq (U.start ?_))))
 refine U.pd 3 T (C.nx ?_)
 refine C.ite rfl hm (fun hb5 hm => ?_) (fun hb5 hm => ?_)
 refine C.seq (U.start ?_)
 refine U.pd 2 T (C.nx (C.ret (C.rt ?_)))
 exact C.g1 [some 0, some 0] T hβ ⟨s_1, hm, rfl, rfl, rfl⟩
 refine C.skip (C.nx (C.seq (C.seq (U.start ?_))))
 refine U.pd 1 T (C.nx ?_)
 refine C.jn (fun (x10 : Unit) => [(0, .o 0)]) (fun (x10 : Unit) => [(0, .val (.os 1 eI s_1))]) 1 hm (fun x10 hm => ?_) (fun J11 hm hJ11 => ?_)
 refine C.nx (C.seq (U.start ?_))
 refine U.pd 2 T (C.nx (C.ret ?_))
 exact C.g1 [some 0, some 0] T hβ ⟨s_1, hm, rfl, rfl, rfl⟩
 refine C.block ?_
 refine St.wk (C.loop (fun (s12 : Int) => [(0, .o 0), (3, .i s12)]) (fun (s12 : Int) => [(0, .val (.os 1 eI s_1))]) hm (fun s12 Y13 hm => ?_)) (Wk.a [some 0])
 refine C.seq (C.seq (U.start ?_))
 refine U.pd 4 T (C.nx ?_)
 refine C.ite rfl hm (fun hb16 hm => ?_) (fun hb16 hm => ?_)
 refine C.skip (C.nx (C.seq ?_))
 refine C.jn (fun (x17 : Unit) => [(0, .o 0), (3, .i s12)]) (fun (x17 : Unit) => [(0, .val (.os 1 eI s_1))]) 1 hm (fun x17 hm => ?_) (fun J18 hm hJ18 => ?_)
 refine C.nx (U.start ?_)
 refine U.pd 3 T (C.nx ?_)
 exact St.wk (C.next hm) (Wk.a [some 0])
 refine C.block (C.seq ?_)
 refine D.beg 9999 [0] [] mix rfl rfl (by kernel_rfl) (by repeat (first | exact NoPanicQ.body | exact NoPanicQ.rnd | refine NoPanicQ.th ?_ | refine NoPanicQ.blk ?_ | refine NoPanicQ.ng ?_)) (fun hQ hS ws M' => ?_)
 refine D.ps 2 [(0, []), (1, [])] rfl hQ hS T rfl rfl (by kernel_rfl) ?_
 obtain ⟨x21, hx21, hm⟩ := hm
 refine D.q 2 [] hQ hS rfl (.none rfl) rfl rfl (by exact Rd.io T rfl rfl rfl rfl rfl rfl rfl hx21) rfl (by kernel_rfl) ?_
 refine D.q 3 [] hQ hS rfl (.none rfl) rfl rfl (by exact Rd.le T rfl rfl rfl (idx_some hx21).2.2 rfl rfl rfl) rfl (by kernel_rfl) ?_
 refine D.ps 3 [(4, []), (5, []), (6, [])] rfl hQ hS T rfl rfl (by kernel_rfl) ?_
 obtain ⟨x22, hx22, hm⟩ := hm
 refine D.q 7 [] hQ hS rfl (.none rfl) rfl rfl (by exact Rd.io T rfl rfl rfl rfl rfl rfl rfl hx22) rfl (by kernel_rfl) ?_
 refine D.q 8 [] hQ hS rfl (.none rfl) rfl rfl (by exact Rd.le T rfl rfl rfl (idx_some hx22).2.2 rfl rfl rfl) rfl (by kernel_rfl) ?_
 refine D.ps 1 [(9, [])] rfl hQ hS T rfl rfl (by kernel_rfl) ?_
 refine D.done (by kernel_rfl) ?_
 refine C.nx ?_
 refine C.ite rfl hm (fun hb23 hm => ?_) (fun hb23 hm => ?_)
 refine C.seq (U.start ?_)
 refine U.ps 2 T rfl ?_
 obtain ⟨hx26, hm⟩ := hm
 refine U.r rfl (.none rfl) rfl rfl (by exact Rd.vw T rfl rfl rfl rfl rfl rfl (.some _ rfl) (.none _) hx26) ?_
 refine U.pd 1 T (C.nx (C.seq (C.seq (U.start ?_))))
 refine U.pd 1 T (C.nx ?_)
 refine C.jn (fun (x29 : List Int × Int) => [(0, .o 0), (3, .i x29.2)]) (fun (x29 : List Int × Int) => [(0, .val (.os 1 eI x29.1))]) 1 hm (fun x29 hm => ?_) (fun J30 hm hJ30 => ?_)
 refine C.nx (C.seq (U.start ?_))
 refine U.ps 2 T rfl ?_
 obtain ⟨hx55, hm⟩ := hm
 refine U.r rfl (.none rfl) rfl rfl (by exact Rd.vw T rfl rfl rfl rfl rfl rfl (.some _ rfl) (.none _) hx55) ?_
 obtain ⟨hx56, hm⟩ := hm
 refine U.e1 rfl (.none rfl) (by exact Eff1.clv T (z0 := 0) rfl rfl rfl rfl rfl rfl rfl (fun _ => rfl) rfl hx56) ?_
 refine U.done (C.nx (C.seq (U.start ?_)))
 refine U.ps 2 T rfl ?_
 obtain ⟨hx59, hm⟩ := hm
 refine U.e1 rfl (.none rfl) (by exact Eff1.sw T rfl rfl rfl rfl rfl rfl rfl rfl (.none _) (.some _ rfl) hx59) ?_
 refine U.pd 1 T (C.nx (C.ret (C.brt (C.rt (C.rt (C.brt (C.rt ?_)))))))
 exact C.g1 (idR 2) T hβ ⟨(sub (x29.1.take (Int.toNat x29.2) ++ (List.replicate (Int.toNat ((x29.1.length : Int) - x29.2)) 0 ++ x29.1.drop ((Int.toNat x29.2) + (Int.toNat ((x29.1.length : Int) - x29.2))))) 0 x29.2), hm, rfl, rfl, rfl⟩
 refine C.block ?_
 refine St.wk (C.loop (fun (s31 : List Int × Int × Int) => [(0, .o 0), (3, .i s31.2.1), (4, .vw 0 1 (Int.toNat s12) (Int.toNat ((s_1.length : Int) - s12))), (5, .i s31.2.2)]) (fun (s31 : List Int × Int × Int) => [(0, .val (.os 1 eI s31.1))]) hm (fun s31 Y32 hm => ?_)) (Wk.a [some 0])
 refine C.seq (C.seq (U.start ?_))
 refine U.ps 2 T rfl ?_
 refine U.r rfl (.none rfl) rfl rfl (by exact Rd.vl T rfl rfl rfl) ?_
 refine U.pd 1 T (C.nx ?_)
 refine C.ite rfl hm (fun hb35 hm => ?_) (fun hb35 hm => ?_)
 refine C.skip (C.nx (C.seq (C.block (C.seq ?_))))
 refine D.beg 9999 [0] [] mix rfl rfl (by kernel_rfl) (by repeat (first | exact NoPanicQ.body | exact NoPanicQ.rnd | refine NoPanicQ.th ?_ | refine NoPanicQ.blk ?_ | refine NoPanicQ.ng ?_)) (fun hQ hS ws M' => ?_)
 refine D.ps 2 [(0, []), (1, [])] rfl hQ hS T rfl rfl (by kernel_rfl) ?_
 obtain ⟨hx38, hm⟩ := hm
 refine D.q 2 [] hQ hS rfl (.none rfl) rfl rfl (by exact Rd.vi T rfl rfl rfl rfl rfl rfl hx38) rfl (by kernel_rfl) ?_
 obtain ⟨x39, hx39, hm⟩ := hm
 refine D.q 3 [] hQ hS rfl (.none rfl) rfl rfl (by exact Rd.le T rfl rfl rfl hx39 rfl rfl rfl) rfl (by kernel_rfl) ?_
 refine D.ps 3 [(4, []), (5, []), (6, [])] rfl hQ hS T rfl rfl (by kernel_rfl) ?_
 obtain ⟨hx40, hm⟩ := hm
 refine D.q 7 [] hQ hS rfl (.none rfl) rfl rfl (by exact Rd.vi T rfl rfl rfl rfl rfl rfl hx40) rfl (by kernel_rfl) ?_
 obtain ⟨x41, hx41, hm⟩ := hm
 refine D.q 8 [] hQ hS rfl (.none rfl) rfl rfl (by exact Rd.le T rfl rfl rfl hx41 rfl rfl rfl) rfl (by kernel_rfl) ?_
 refine D.ps 1 [(9, [])] rfl hQ hS T rfl rfl (by kernel_rfl) ?_
 refine D.done (by kernel_rfl) ?_
 refine C.nx ?_
 refine C.jn (fun (x42 : List Int × Int) => [(0, .o 0), (3, .i x42.2), (4, .vw 0 1 (Int.toNat s12) (Int.toNat ((s_1.length : Int) - s12))), (5, .i s31.2.2)]) (fun (x42 : List Int × Int) => [(0, .val (.os 1 eI x42.1))]) 1 hm (fun x42 hm => ?_) (fun J43 hm hJ43 => ?_)
 refine C.bnx (C.nx (U.start ?_))
 refine U.pd 3 T (C.nx ?_)
 exact St.wk (C.next hm) (Wk.a [some 0])
 refine C.ite rfl hm (fun hb44 hm => ?_) (fun hb44 hm => ?_)
 refine C.seq (U.start ?_)
 refine U.ps 4 T rfl ?_
 obtain ⟨hx47, hm⟩ := hm
 refine U.r rfl (.none rfl) rfl rfl (by exact Rd.vi T rfl rfl rfl rfl rfl rfl hx47) ?_
 refine U.r rfl (.none rfl) rfl rfl (by exact Rd.le T rfl rfl rfl hx39 rfl rfl rfl) ?_
 obtain ⟨x48, hx48, hm⟩ := hm
 refine U.r rfl (.none rfl) rfl rfl (by exact Rd.io T rfl rfl rfl rfl rfl rfl rfl hx48) ?_
 refine U.e1 rfl (.none rfl) (by exact Eff1.se T (z' := x39) rfl rfl rfl (idx_some hx48).2.2 rfl rfl rfl rfl rfl rfl rfl rfl (fun _ => rfl) rfl) ?_
 refine U.done (C.nx (U.start ?_))
 refine U.pd 3 T ?_
 exact St.wa [some 0] (hJ43 _ hm)
 refine C.skip ?_
 exact St.wa [some 0] (hJ43 _ hm)
 refine C.exit (C.ex (C.ex (C.bex ?_)))
 exact St.wa [some 0] (hJ30 _ hm)
 refine C.skip (C.bnx ?_)
 exact St.wa [some 0] (hJ18 _ hm)
 refine C.exit (C.ex (C.ex (C.bex ?_)))
 exact St.wa [some 0] (hJ11 _ hm)
theorem T_region_Of (l : List Int) (post : (List Int) → Prop) (hm : V_region_Of l post) :
    Tr Tryz.prog 50 [.sl 1 eI l] [] 0 (fun A H' k => ∃ y, post y ∧ A = (.o 0) ∧ H' = [(0, .val (.os 1 eI y))] ∧ k = 1) := by
 refine Tr.intro (n := 11) Tryz.func50 rfl Tryz.ntmps50 rfl (fun w0 ok F β hβ => ?_)
 unfold V_region_Of at hm
 refine C.seq (U.start ?_)
 refine U.pd 1 T (C.nx (C.seq (U.start ?_)))
 refine U.ps 1 T rfl ?_
 refine U.k (T_slices_Clone_int_int l _ hm) en51 (fun x5 hm => ?_)
 refine U.c [some 0] (T_slices_DeleteFunc_int_int__o0_region_Of_1 x5 _ hm) en89 (fun x6 hm => ?_)
 refine U.pd 1 T (C.nx (C.seq (U.start ?_)))
 refine U.ps 1 T rfl ?_
 refine U.c [some 2] (T_slices_Sort_int_int__o0 x6 _ hm) en92 (fun x9 hm => ?_)
 refine U.done (C.nx (C.seq (U.start ?_)))
 refine U.ps 1 T rfl ?_
 refine U.c [some 2] (T_slices_Compact_int_int__o0 x9 _ hm) en93 (fun x12 hm => ?_)
 refine U.pd 1 T (C.nx (C.ret ?_))
 exact C.g1 [some 5] T hβ ⟨x12, hm, rfl, rfl, rfl⟩
theorem T_bank_Right_1 (c : Int) (c0 : ApiSite) (c1 : List Int) (post : Bool → Prop) (hm : V_bank_Right_1 c c0 c1 post) :
    Tr Tryz.prog 53 [.i c, .rp [.i c0.Floor.W, .i c0.Floor.H, .i c0.Floor.D, .sl 1 eI c0.Floor.Kind, .sl 1 eI c0.Floor.Out, .sl 5 eApiZone c0.Zones, .sl 2 eApiApart c0.Aparts, .sl 2 eApiShelf c0.Shelves, .sl 2 eApiStart c0.Robots], .rp [.sl 1 eI c1]] [] 0 (fun A H' k => ∃ y, post y ∧ A = (.b y) ∧ H' = [] ∧ k = 0) := by
 refine Tr.intro (n := 29) Tryz.func53 rfl Tryz.ntmps53 rfl (fun w0 ok F β hβ => ?_)
 unfold V_bank_Right_1 at hm
 refine C.seq (U.start ?_)
 refine U.pd 1 T (C.nx (C.seq ?_))
 refine C.jn (fun (x3 : Bool) => [(4, .b x3)]) (fun (x3 : Bool) => []) 0 hm (fun x3 hm => ?_) (fun J4 hm hJ4 => ?_)
 refine C.nx (C.ret ?_)
 exact C.f1 T hβ ⟨x3, hm, rfl, rfl, rfl⟩
 refine U.start ?_
 refine U.ps 3 T rfl ?_
 refine hm.cs (fun hb5 hm => ?_) (fun hb5 hm => ?_)
 refine U.sks 6 2 false 7 hb5 rfl rfl rfl ?_
 refine U.pk hb5 ?_
 refine U.ps 1 T rfl ?_
 refine U.sks 7 10 false 15 rfl rfl rfl rfl ?_
 refine U.pk rfl ?_
 refine U.ps 1 T rfl ?_
 refine U.sks 3 19 false 24 rfl rfl rfl rfl ?_
 refine U.pk rfl ?_
 refine U.pd 1 T ?_
 exact St.wn (hJ4 _ hm)
 refine U.pg 6 2 false 7 hb5 T rfl rfl rfl rfl ?_
 refine U.pk' hb5 ?_
 refine U.ps 1 T rfl ?_
 refine hm.cs (fun hb6 hm => ?_) (fun hb6 hm => ?_)
 refine U.sks 7 10 false 15 hb6 rfl rfl rfl ?_
 refine U.pk hb6 ?_
 refine U.ps 1 T rfl ?_
 refine U.sks 3 19 false 24 rfl rfl rfl rfl ?_
 refine U.pk rfl ?_
 refine U.pd 1 T ?_
 exact St.wn (hJ4 _ hm)
 refine U.pg 4 10 false 15 hb6 T rfl rfl rfl rfl ?_
 obtain ⟨x7, hx7, hm⟩ := hm
 refine U.r rfl (.take 10 false 15 _ hb6 rfl rfl rfl) rfl rfl (by exact Rd.ix T rfl rfl rfl rfl rfl rfl hx7) ?_
 refine U.pg 2 10 false 15 hb6 T rfl rfl rfl rfl ?_
 refine U.pk' hb6 ?_
 refine U.ps 1 T rfl ?_
 refine hm.cs (fun hb8 hm => ?_) (fun hb8 hm => ?_)
 refine U.sks 3 19 false 24 hb8 rfl rfl rfl ?_
 refine U.pk hb8 ?_
 refine U.pd 1 T ?_
 exact St.wn (hJ4 _ hm)
 refine U.pg 2 19 false 24 hb8 T rfl rfl rfl rfl ?_
 refine U.k (T_slices_Contains_int_int c1 c _ hm) en54 (fun x9 hm => ?_) (hw := .take 19 false 24 _ hb8 rfl rfl rfl)
 refine U.pk' hb8 ?_
 refine U.pd 1 T ?_
 exact St.wn (hJ4 _ hm)
theorem T_slices_IndexFunc_int_int__bank_Right_1 (s_1 : List Int) (f_c0 : ApiSite) (f_c1 : List Int) (post : Int → Prop) (hm : V_slices_IndexFunc_int_int__bank_Right_1 s_1 f_c0 f_c1 post) :
    Tr Tryz.prog 94 [.sl 1 eI s_1, .fn (.func 53) [] [.rp [.i f_c0.Floor.W, .i f_c0.Floor.H, .i f_c0.Floor.D, .sl 1 eI f_c0.Floor.Kind, .sl 1 eI f_c0.Floor.Out, .sl 5 eApiZone f_c0.Zones, .sl 2 eApiApart f_c0.Aparts, .sl 2 eApiShelf f_c0.Shelves, .sl 2 eApiStart f_c0.Robots], .rp [.sl 1 eI f_c1]]] [] 0 (fun A H' k => ∃ y, post y ∧ A = (.i y) ∧ H' = [] ∧ k = 0) := by
 refine Tr.intro (n := 19) Tryz.func94 rfl Tryz.ntmps94 rfl (fun w0 ok F β hβ => ?_)
 unfold V_slices_IndexFunc_int_int__bank_Right_1 at hm
 refine C.seq (U.start ?_)
 refine U.pd 1 T (C.nx (C.seq (C.seq (U.start ?_))))
 refine U.pd 3 T (C.nx ?_)
 refine C.jn (fun (x5 : Unit) => []) (fun (x5 : Unit) => []) 0 hm (fun x5 hm => ?_) (fun J6 hm hJ6 => ?_)
 refine C.nx (C.seq (U.start ?_))
 refine U.pd 1 T (C.nx (C.ret ?_))
 exact C.f1 T hβ ⟨(-1), hm, rfl, rfl, rfl⟩
 refine C.block ?_
 refine St.wk (C.loop (fun (s7 : Int) => [(0, .sl 1 eI s_1), (1, .fn (.func 53) [] [.rp [.i f_c0.Floor.W, .i f_c0.Floor.H, .i f_c0.Floor.D, .sl 1 eI f_c0.Floor.Kind, .sl 1 eI f_c0.Floor.Out, .sl 5 eApiZone f_c0.Zones, .sl 2 eApiApart f_c0.Aparts, .sl 2 eApiShelf f_c0.Shelves, .sl 2 eApiStart f_c0.Robots], .rp [.sl 1 eI f_c1]]), (7, .i (s_1.length : Int)), (8, .i s7)]) (fun (s7 : Int) => []) hm (fun s7 Y8 hm => ?_)) (Wk.e)
 refine C.seq (U.start ?_)
 refine U.pd 1 T (C.nx (C.seq ?_))
 refine C.ite rfl hm (fun hb11 hm => ?_) (fun hb11 hm => ?_)
 refine C.skip (C.nx (C.seq (C.block (C.seq (U.start ?_)))))
 refine U.pd 2 T (C.nx (C.seq (U.start ?_)))
 refine U.ps 3 T rfl ?_
 obtain ⟨x16, hx16, hm⟩ := hm
 refine U.r rfl (.none rfl) rfl rfl (by exact Rd.ix T rfl rfl rfl rfl rfl rfl hx16) ?_
 refine U.ps 1 T rfl ?_
 refine U.k (T_bank_Right_1 x16 f_c0 f_c1 _ hm) en53 (fun x17 hm => ?_)
 refine U.done (C.nx ?_)
 refine C.ite rfl hm (fun hb18 hm => ?_) (fun hb18 hm => ?_)
 refine C.seq (U.start ?_)
 refine U.pd 2 T (C.nx (C.ret (C.brt (C.rt (C.rt (C.brt (C.rt ?_)))))))
 exact C.f1 T hβ ⟨s7, hm, rfl, rfl, rfl⟩
 refine C.skip (C.bnx (C.nx (U.start ?_)))
 refine U.pd 2 T (C.nx ?_)
 exact St.wk (C.next hm) (Wk.e)
 refine C.exit (C.ex (C.ex (C.bex ?_)))
 exact St.wk (hJ6 _ hm) (Wk.mk' [] rfl rfl trivial trivial rfl)
theorem T_slices_ContainsFunc_int_int__bank_Right_1 (s_1 : List Int) (f_c0 : ApiSite) (f_c1 : List Int) (post : Bool → Prop) (hm : V_slices_ContainsFunc_int_int__bank_Right_1 s_1 f_c0 f_c1 post) :
    Tr Tryz.prog 52 [.sl 1 eI s_1, .fn (.func 53) [] [.rp [.i f_c0.Floor.W, .i f_c0.Floor.H, .i f_c0.Floor.D, .sl 1 eI f_c0.Floor.Kind, .sl 1 eI f_c0.Floor.Out, .sl 5 eApiZone f_c0.Zones, .sl 2 eApiApart f_c0.Aparts, .sl 2 eApiShelf f_c0.Shelves, .sl 2 eApiStart f_c0.Robots], .rp [.sl 1 eI f_c1]]] [] 0 (fun A H' k => ∃ y, post y ∧ A = (.b y) ∧ H' = [] ∧ k = 0) := by
 refine Tr.intro (n := 9) Tryz.func52 rfl Tryz.ntmps52 rfl (fun w0 ok F β hβ => ?_)
 unfold V_slices_ContainsFunc_int_int__bank_Right_1 at hm
 refine C.seq (U.start ?_)
 refine U.pd 1 T (C.nx (C.seq (U.start ?_)))
 refine U.ps 2 T rfl ?_
 refine U.k (T_slices_IndexFunc_int_int__bank_Right_1 s_1 f_c0 f_c1 _ hm) en94 (fun x5 hm => ?_)
 refine U.pd 2 T (C.nx (C.ret ?_))
 exact C.f1 T hβ ⟨decide (x5 ≥ 0), hm, rfl, rfl, rfl⟩
theorem T_bank_Right (s_1 : ApiSite) (st : ApiState) (homes : List Int) (post : Bool → Prop) (hm : V_bank_Right s_1 st homes post) :
    Tr Tryz.prog 13 [.agg (eApiSite s_1), .agg (eApiState st), .sl 1 eI homes] [] 0 (fun A H' k => ∃ y, post y ∧ A = (.b y) ∧ H' = [] ∧ k = 0) := by
 refine Tr.intro (n := 49) Tryz.func13 rfl Tryz.ntmps13 rfl (fun w0 ok F β hβ => ?_)
 unfold V_bank_Right at hm
 refine C.seq (U.start ?_)
 refine U.bx ?_
 refine U.bx ?_
 refine U.pd 1 T (C.nx (C.seq (C.seq ?_)))
 refine C.jn (fun (x3 : Bool) => [(2, .sl 1 eI homes), (3, .p 0 0), (4, .p 1 0), (23, .b x3)]) (fun (x3 : Bool) => [(0, .box (eApiSite s_1)), (1, .box (eApiState st))]) 2 hm (fun x3 hm => ?_) (fun J4 hm hJ4 => ?_)
 refine C.nx ?_
 refine C.ite rfl hm (fun hb7 hm => ?_) (fun hb7 hm => ?_)
 refine C.seq (U.start ?_)
 refine U.pd 1 T (C.nx (C.ret (C.rt ?_)))
 exact C.f1 T hβ ⟨false, hm, rfl, rfl, rfl⟩
 refine C.skip (C.nx (C.seq ?_))
 refine C.jn (fun (x10 : List Int) => [(2, .sl 1 eI homes), (3, .p 0 0), (4, .p 1 0), (7, .p 2 0)]) (fun (x10 : List Int) => [(0, .box (eApiSite s_1)), (1, .box (eApiState st)), (2, .box [.o 3]), (3, .val (.os 1 eI x10))]) 4 hm (fun x10 hm => ?_) (fun J11 hm hJ11 => ?_)
 refine C.nx (C.seq (C.seq (U.start ?_)))
 refine U.pd 4 T (C.nx ?_)
 refine C.jn (fun (x16 : List Int) => [(2, .sl 1 eI homes), (3, .p 0 0), (7, .p 1 0)]) (fun (x16 : List Int) => [(0, .box (eApiSite s_1)), (1, .box [.o 2]), (2, .val (.os 1 eI x16))]) 3 hm (fun x16 hm => ?_) (fun J17 hm hJ17 => ?_)
 refine C.nx (C.seq (U.start ?_))
 refine U.ps 2 T rfl ?_
 refine U.k (T_slices_ContainsFunc_int_int__bank_Right_1 homes s_1 x16 _ hm) en52 (fun x38 hm => ?_)
 refine U.pd 2 T (C.nx (C.ret ?_))
 exact C.f1 T hβ ⟨!x38, hm, rfl, rfl, rfl⟩
 refine C.block ?_
 refine St.wk (C.loop (fun (s18 : List Int × Int) => [(2, .sl 1 eI homes), (3, .p 0 0), (7, .p 1 0), (31, .sl 6 eApiRobot st.Robots), (32, .i (st.Robots.length : Int)), (33, .i s18.2)]) (fun (s18 : List Int × Int) => [(0, .box (eApiSite s_1)), (1, .box [.o 2]), (2, .val (.os 1 eI s18.1))]) hm (fun s18 Y19 hm => ?_)) (Wk.a [some 0, some 2, some 3])
 refine C.seq (U.start ?_)
 refine U.pd 1 T (C.nx (C.seq ?_))
 refine C.ite rfl hm (fun hb22 hm => ?_) (fun hb22 hm => ?_)
 refine C.skip (C.nx (C.seq (C.block (C.seq (U.start ?_)))))
 obtain ⟨x25, hx25, hm⟩ := hm
 refine U.r rfl (.none rfl) rfl rfl (by exact Rd.ix T rfl rfl rfl rfl rfl rfl hx25) ?_
 refine U.ps 1 T rfl ?_
 refine U.e1 rfl (.none rfl) (by exact Eff1.al T rfl rfl rfl rfl) ?_
 refine U.e1 rfl (.none rfl) (by exact Eff1.st T rfl rfl rfl rfl rfl rfl rfl rfl rfl rfl) ?_
 refine U.done (C.nx (C.seq (U.start ?_)))
 refine U.pd 2 T (C.nx ?_)
 refine C.jn (fun (x28 : List Int) => [(2, .sl 1 eI homes), (3, .p 0 0), (7, .p 1 0), (31, .sl 6 eApiRobot st.Robots), (32, .i (st.Robots.length : Int)), (33, .i s18.2)]) (fun (x28 : List Int) => [(0, .box (eApiSite s_1)), (1, .box [.o 2]), (2, .val (.os 1 eI x28))]) 3 hm (fun x28 hm => ?_) (fun J29 hm hJ29 => ?_)
 refine C.bnx (C.nx (U.start ?_))
 refine U.pd 2 T (C.nx ?_)
 exact St.wk (C.next hm) (Wk.a (idR 3))
 refine C.ite rfl hm (fun hb30 hm => ?_) (fun hb30 hm => ?_)
 refine U.start ?_
 refine U.ps 3 T rfl ?_
 refine U.e1 rfl (.none rfl) (by exact Eff1.bs T (enc := eI) (xs := ([x25.Cell] : List Int)) rfl rfl rfl rfl rfl rfl rfl rfl rfl rfl (fun _ _ => rfl) rfl rfl) ?_
 obtain ⟨hx33, hm⟩ := hm
 refine U.e1 rfl (.none rfl) (by exact Eff1.ap T rfl rfl rfl rfl rfl rfl (.inr ⟨_, rfl, rfl⟩) rfl rfl rfl (fun _ => rfl) rfl hx33) ?_
 refine U.e1 rfl (.none rfl) (by exact Eff1.st T rfl rfl rfl rfl rfl rfl rfl rfl rfl rfl) ?_
 refine U.done ?_
 exact St.wa [some 0, some 1, some 5] (hJ29 _ hm)
 refine C.skip ?_
 exact St.wa (idR 3) (hJ29 _ hm)
 refine C.exit (C.ex (C.ex (C.bex ?_)))
 exact St.wa (idR 3) (hJ17 _ hm)
 refine D.beg 7 [1] [2, 3, 4] mix rfl rfl (by kernel_rfl) (by repeat (first | exact NoPanicQ.body | exact NoPanicQ.rnd | refine NoPanicQ.th ?_ | refine NoPanicQ.blk ?_ | refine NoPanicQ.ng ?_)) (fun hQ hS ws M' => ?_)
 refine D.ps 4 [(0, []), (1, []), (3, []), (4, [])] rfl hQ hS T rfl rfl (by kernel_rfl) ?_
 refine D.two 2 6 (by kernel_rfl) ?_ ?_
 refine D.ef rfl (.none rfl) (by exact Eff.c [] (v := true) (T_slices_Clone_int_int st.Dead _ hm) en51 rfl rfl rfl (.eq rfl) trivial rfl rfl rfl rfl rfl rfl (fun _ _ => ⟨(.o _), ⟨.val (.os _ _ _ fun _ => (.cons (.v _) .nil)), trivial⟩⟩) (.inr ⟨rfl, rfl⟩) (fun _ => rfl) (fun _ => rfl) rfl) rfl rfl (fun x12' hm => ?_)
 obtain ⟨x12⟩ := x12'
 obtain ⟨hx13, hm⟩ := hm
 refine D.have false [(2, .sl 1 eI homes), (3, .p 0 0), (4, .p 1 0), (7, .p 4 0), (23, .b x3), (24, .p 1 4), (25, .sl 1 eI st.Dead), (26, .o 2), (27, .p 1 3), (28, .sl 1 eI st.People), (29, .o 3)] [(0, .box (eApiSite s_1)), (1, .box (eApiState st)), (3, .val (.os 1 eI (x12 ++ st.People))), (4, .box [.v (.slice none 0 0)])] 5 1 #[true, true, true, true, true, true, true, false] ?_ (fun hd12_3 => ?_)
 refine D.ze1 rfl (.none rfl) (by exact Eff1.st T rfl rfl rfl rfl rfl rfl rfl rfl rfl rfl) (by kernel_rfl) (by kernel_rfl) ?_
 exact St.wa [some 0, some 1, some 4, some 3] (hJ11 _ hm)
 refine D.have false [(2, .sl 1 eI homes), (3, .p 0 0), (4, .p 1 0), (23, .b x3), (24, .p 1 4), (25, .sl 1 eI st.Dead), (26, .o 2), (27, .p 1 3), (28, .sl 1 eI st.People), (29, .o 3)] [(0, .box (eApiSite s_1)), (1, .box (eApiState st)), (3, .val (.os 1 eI (x12 ++ st.People)))] 4 2 #[true, true, true, true, true, true, false, false] ?_ (fun hd12_1 => ?_)
 refine D.all 6 [] (by kernel_rfl) ⟨?_, trivial⟩
 refine D.ef1 rfl (.none rfl) (by exact Eff1.al T rfl rfl rfl rfl) rfl rfl ?_
 exact D.to [some 0, some 1, some 2, some 3, some 4] hd12_3 (by kernel_rfl) rfl rfl (.eqs rfl) ⟨bX, bX, vL, bX, trivial⟩ rfl rfl rfl
 refine D.have false [(2, .sl 1 eI homes), (3, .p 0 0), (4, .p 1 0), (7, .p 3 0), (23, .b x3), (24, .p 1 4), (25, .sl 1 eI st.Dead), (26, .o 2), (27, .p 1 3), (28, .sl 1 eI st.People)] [(0, .box (eApiSite s_1)), (1, .box (eApiState st)), (2, .val (.os 1 eI x12)), (3, .box [.v (.slice none 0 0)])] 4 2 #[true, true, true, true, true, false, true, false] ?_ (fun hd12_2 => ?_)
 refine D.all 5 [] (by kernel_rfl) ⟨?_, trivial⟩
 refine D.ef1 rfl (.none rfl) (by exact Eff1.ap T rfl rfl rfl rfl rfl rfl (.inl rfl) rfl rfl rfl (fun _ => rfl) rfl hx13) rfl rfl ?_
 exact D.to [some 0, some 1, some 2, some 4, some 3] hd12_3 (by kernel_rfl) rfl rfl (.eqs rfl) ⟨bX, bX, vL, bX, trivial⟩ rfl rfl rfl
 refine D.all 5 [6] (by kernel_rfl) ⟨?_, ?_, trivial⟩
 refine D.ef1 rfl (.none rfl) (by exact Eff1.ap T rfl rfl rfl rfl rfl rfl (.inl rfl) rfl rfl rfl (fun _ => rfl) rfl hx13) rfl rfl ?_
 exact D.to [some 0, some 1, some 2, some 3] hd12_1 (by kernel_rfl) rfl rfl (.eqs rfl) ⟨bX, bX, vL, trivial⟩ rfl rfl rfl
 refine D.ef1 rfl (.none rfl) (by exact Eff1.al T rfl rfl rfl rfl) rfl rfl ?_
 exact D.to [some 0, some 1, some 2, some 3] hd12_2 (by kernel_rfl) rfl rfl (.eqs rfl) ⟨bX, bX, vL, bX, trivial⟩ rfl rfl rfl
 refine D.ef1 rfl (.none rfl) (by exact Eff1.al T rfl rfl rfl rfl) rfl rfl ?_
 refine D.k 2 (T_slices_Clone_int_int st.Dead _ hm) en51 (fun x12 hm => ?_)
 obtain ⟨hx13, hm⟩ := hm
 refine D.e1 5 rfl (.none rfl) (by exact Eff1.ap T rfl rfl rfl rfl rfl rfl (.inl rfl) rfl rfl rfl (fun _ => rfl) rfl hx13) (by kernel_rfl) rfl rfl ?_
 refine D.ze1 rfl (.none rfl) (by exact Eff1.st T rfl rfl rfl rfl rfl rfl rfl rfl rfl rfl) (by kernel_rfl) (by kernel_rfl) ?_
 exact St.wa [some 0, some 1, some 2, some 4] (hJ11 _ hm)
 refine U.start ?_
 refine U.ps 7 T rfl ?_
 refine hm.cs (fun hb5 hm => ?_) (fun hb5 hm => ?_)
 refine U.sks 6 6 false 16 hb5 rfl rfl rfl ?_
 refine U.pk hb5 ?_
 refine U.done ?_
 exact St.wa (idR 2) (hJ4 _ hm)
 refine U.pg 1 6 false 16 hb5 T rfl rfl rfl rfl ?_
 refine U.k (T_region_Of homes _ hm) en50 (fun x6 hm => ?_) (hw := .take 6 false 16 _ hb5 rfl rfl rfl)
 refine U.pg 4 6 false 16 hb5 T rfl rfl rfl rfl ?_
 refine U.pk' hb5 ?_
 refine U.done ?_
 exact St.wa (idR 2) (hJ4 _ hm)
theorem T_taquinlaw21_fits (s_1 : ApiSite) (st : ApiState) (homes : List Int) (n : Int) (post : Bool → Prop) (hm : V_taquinlaw21_fits s_1 st homes n post) :
    Tr Tryz.prog 22 [.agg (eApiSite s_1), .agg (eApiState st), .sl 1 eI homes, .i n] [] 0 (fun A H' k => ∃ y, post y ∧ A = (.b y) ∧ H' = [] ∧ k = 0) := by
 refine Tr.intro (n := 42) Tryz.func22 rfl Tryz.ntmps22 rfl (fun w0 ok F β hβ => ?_)
 unfold V_taquinlaw21_fits at hm
 refine C.seq (U.start ?_)
 refine U.bx ?_
 refine U.bx ?_
 refine U.pd 1 T (C.nx (C.seq ?_))
 refine C.jn (fun (x3 : Bool) => [(8, .b x3)]) (fun (x3 : Bool) => []) 0 hm (fun x3 hm => ?_) (fun J4 hm hJ4 => ?_)
 refine C.nx (C.ret ?_)
 exact C.f1 T hβ ⟨x3, hm, rfl, rfl, rfl⟩
 refine U.start ?_
 refine U.ps 2 T rfl ?_
 refine U.k (T_taquinref11_Few s_1 n 20 _ hm) en9 (fun x5 hm => ?_)
 refine U.ps 1 T rfl ?_
 refine hm.cs (fun hb6 hm => ?_) (fun hb6 hm => ?_)
 refine U.pg 1 3 true 12 hb6 T rfl rfl rfl rfl ?_
 refine U.k (T_taquinref14_Few st _ hm) en10 (fun x7 hm => ?_) (hw := .take 3 true 12 _ hb6 rfl rfl rfl)
 refine U.pk hb6 ?_
 refine U.ps 1 T rfl ?_
 refine hm.cs (fun hb8 hm => ?_) (fun hb8 hm => ?_)
 refine U.pg 4 7 true 16 hb8 T rfl rfl rfl rfl ?_
 refine U.pk hb8 ?_
 refine U.ps 1 T rfl ?_
 refine hm.cs (fun hb9 hm => ?_) (fun hb9 hm => ?_)
 refine U.pg 3 13 true 22 hb9 T rfl rfl rfl rfl ?_
 refine U.pk hb9 ?_
 refine U.ps 1 T rfl ?_
 refine hm.cs (fun hb10 hm => ?_) (fun hb10 hm => ?_)
 refine U.pg 1 18 true 27 hb10 T rfl rfl rfl rfl ?_
 refine U.k (T_survey_Right s_1 _ hm) en11 (fun x11 hm => ?_) (hw := .take 18 true 27 _ hb10 rfl rfl rfl)
 refine U.pk hb10 ?_
 refine U.ps 1 T rfl ?_
 refine hm.cs (fun hb12 hm => ?_) (fun hb12 hm => ?_)
 refine U.pg 2 22 true 31 hb12 T rfl rfl rfl rfl ?_
 refine U.k (T_body_Right s_1 st _ hm) en12 (fun x13 hm => ?_) (hw := .take 22 true 31 _ hb12 rfl rfl rfl)
 refine U.pk hb12 ?_
 refine U.ps 1 T rfl ?_
 refine hm.cs (fun hb14 hm => ?_) (fun hb14 hm => ?_)
 refine U.pg 3 27 true 36 hb14 T rfl rfl rfl rfl ?_
 refine U.k (T_bank_Right s_1 st homes _ hm) en13 (fun x15 hm => ?_) (hw := .take 27 true 36 _ hb14 rfl rfl rfl)
 refine U.pk hb14 ?_
 refine U.pd 1 T ?_
 exact St.wn (hJ4 _ hm)
 refine U.sks 4 27 true 36 hb14 rfl rfl rfl ?_
 refine U.pk' hb14 ?_
 refine U.pd 1 T ?_
 exact St.wn (hJ4 _ hm)
 refine U.sks 3 22 true 31 hb12 rfl rfl rfl ?_
 refine U.pk' hb12 ?_
 refine U.ps 1 T rfl ?_
 refine U.sks 4 27 true 36 rfl rfl rfl rfl ?_
 refine U.pk' rfl ?_
 refine U.pd 1 T ?_
 exact St.wn (hJ4 _ hm)
 refine U.sks 2 18 true 27 hb10 rfl rfl rfl ?_
 refine U.pk' hb10 ?_
 refine U.ps 1 T rfl ?_
 refine U.sks 3 22 true 31 rfl rfl rfl rfl ?_
 refine U.pk' rfl ?_
 refine U.ps 1 T rfl ?_
 refine U.sks 4 27 true 36 rfl rfl rfl rfl ?_
 refine U.pk' rfl ?_
 refine U.pd 1 T ?_
 exact St.wn (hJ4 _ hm)
 refine U.sks 3 13 true 22 hb9 rfl rfl rfl ?_
 refine U.pk' hb9 ?_
 refine U.ps 1 T rfl ?_
 refine U.sks 2 18 true 27 rfl rfl rfl rfl ?_
 refine U.pk' rfl ?_
 refine U.ps 1 T rfl ?_
 refine U.sks 3 22 true 31 rfl rfl rfl rfl ?_
 refine U.pk' rfl ?_
 refine U.ps 1 T rfl ?_
 refine U.sks 4 27 true 36 rfl rfl rfl rfl ?_
 refine U.pk' rfl ?_
 refine U.pd 1 T ?_
 exact St.wn (hJ4 _ hm)
 refine U.sks 4 7 true 16 hb8 rfl rfl rfl ?_
 refine U.pk' hb8 ?_
 refine U.ps 1 T rfl ?_
 refine U.sks 3 13 true 22 rfl rfl rfl rfl ?_
 refine U.pk' rfl ?_
 refine U.ps 1 T rfl ?_
 refine U.sks 2 18 true 27 rfl rfl rfl rfl ?_
 refine U.pk' rfl ?_
 refine U.ps 1 T rfl ?_
 refine U.sks 3 22 true 31 rfl rfl rfl rfl ?_
 refine U.pk' rfl ?_
 refine U.ps 1 T rfl ?_
 refine U.sks 4 27 true 36 rfl rfl rfl rfl ?_
 refine U.pk' rfl ?_
 refine U.pd 1 T ?_
 exact St.wn (hJ4 _ hm)
 refine U.sks 2 3 true 12 hb6 rfl rfl rfl ?_
 refine U.pk' hb6 ?_
 refine U.ps 1 T rfl ?_
 refine U.sks 4 7 true 16 rfl rfl rfl rfl ?_
 refine U.pk' rfl ?_
 refine U.ps 1 T rfl ?_
 refine U.sks 3 13 true 22 rfl rfl rfl rfl ?_
 refine U.pk' rfl ?_
 refine U.ps 1 T rfl ?_
 refine U.sks 2 18 true 27 rfl rfl rfl rfl ?_
 refine U.pk' rfl ?_
 refine U.ps 1 T rfl ?_
 refine U.sks 3 22 true 31 rfl rfl rfl rfl ?_
 refine U.pk' rfl ?_
 refine U.ps 1 T rfl ?_
 refine U.sks 4 27 true 36 rfl rfl rfl rfl ?_
 refine U.pk' rfl ?_
 refine U.pd 1 T ?_
 exact St.wn (hJ4 _ hm)
theorem T_taquinref07_Has (l : List Int) (n : Int) (post : Bool → Prop) (hm : V_taquinref07_Has l n post) :
    Tr Tryz.prog 23 [.sl 1 eI l, .i n] [] 0 (fun A H' k => ∃ y, post y ∧ A = (.b y) ∧ H' = [] ∧ k = 0) := by
 refine Tr.intro (n := 18) Tryz.func23 rfl Tryz.ntmps23 rfl (fun w0 ok F β hβ => ?_)
 unfold V_taquinref07_Has at hm
 refine C.seq (U.start ?_)
 refine U.pd 1 T (C.nx (C.seq (C.seq (U.start ?_))))
 refine U.pd 1 T (C.nx ?_)
 refine C.jn (fun (x5 : Unit) => []) (fun (x5 : Unit) => []) 0 hm (fun x5 hm => ?_) (fun J6 hm hJ6 => ?_)
 refine C.nx (C.seq (U.start ?_))
 refine U.pd 1 T (C.nx (C.ret ?_))
 exact C.f1 T hβ ⟨false, hm, rfl, rfl, rfl⟩
 refine C.block ?_
 refine St.wk (C.loop (fun (s7 : Int) => [(0, .sl 1 eI l), (1, .i n), (5, .i s7)]) (fun (s7 : Int) => []) hm (fun s7 Y8 hm => ?_)) (Wk.e)
 refine C.seq (C.seq (U.start ?_))
 refine U.pd 4 T (C.nx ?_)
 refine C.ite rfl hm (fun hb11 hm => ?_) (fun hb11 hm => ?_)
 refine C.skip (C.nx (C.seq (C.block (C.seq (U.start ?_)))))
 refine U.ps 2 T rfl ?_
 obtain ⟨x14, hx14, hm⟩ := hm
 refine U.r rfl (.none rfl) rfl rfl (by exact Rd.ix T rfl rfl rfl rfl rfl rfl hx14) ?_
 refine U.pd 3 T (C.nx ?_)
 refine C.ite rfl hm (fun hb15 hm => ?_) (fun hb15 hm => ?_)
 refine C.seq (U.start ?_)
 refine U.pd 1 T (C.nx (C.ret (C.brt (C.rt (C.rt (C.brt (C.rt ?_)))))))
 exact C.f1 T hβ ⟨true, hm, rfl, rfl, rfl⟩
 refine C.skip (C.bnx (C.nx (U.start ?_)))
 refine U.pd 3 T (C.nx ?_)
 exact St.wk (C.next hm) (Wk.e)
 refine C.exit (C.ex (C.ex (C.bex ?_)))
 exact St.wk (hJ6 _ hm) (Wk.mk' [] rfl rfl trivial trivial rfl)
theorem T_taquinlaw21_BankFewer (s_1 : ApiSite) (st : ApiState) (homes : List Int) (robot : Int) (post : Bool → Prop) (hm : V_taquinlaw21_BankFewer s_1 st homes robot post) :
    Tr Tryz.prog 6 [.agg (eApiSite s_1), .agg (eApiState st), .sl 1 eI homes, .i robot] [] 0 (fun A H' k => ∃ y, post y ∧ A = (.b y) ∧ H' = [] ∧ k = 0) := by
 refine Tr.intro (n := 157) Tryz.func6 rfl Tryz.ntmps6 rfl (fun w0 ok F β hβ => ?_)
 unfold V_taquinlaw21_BankFewer at hm
 refine C.seq (U.start ?_)
 refine U.bx ?_
 refine U.bx ?_
 refine U.pd 1 T (C.nx (C.seq (U.start ?_)))
 refine U.k (T_taquinlaw21_small _ hm) en8 (fun x5 hm => ?_)
 refine U.pd 1 T (C.nx (C.seq (C.seq ?_)))
 refine C.jn (fun (x6 : Bool) => [(2, .sl 1 eI homes), (3, .i robot), (4, .p 0 0), (5, .p 1 0), (9, .b x5), (35, .b x6)]) (fun (x6 : Bool) => [(0, .box (eApiSite s_1)), (1, .box (eApiState st))]) 2 hm (fun x6 hm => ?_) (fun J7 hm hJ7 => ?_)
 refine C.nx ?_
 refine C.ite rfl hm (fun hb11 hm => ?_) (fun hb11 hm => ?_)
 refine C.seq (U.start ?_)
 refine U.pd 2 T (C.nx (C.ret (C.rt ?_)))
 exact C.f1 T hβ ⟨x5, hm, rfl, rfl, rfl⟩
 refine C.skip (C.nx (C.seq (C.seq ?_)))
 refine C.jn (fun (x14 : Bool) => [(2, .sl 1 eI homes), (3, .i robot), (4, .p 0 0), (5, .p 1 0), (9, .b x5), (52, .b x14)]) (fun (x14 : Bool) => [(0, .box (eApiSite s_1)), (1, .box (eApiState st))]) 2 hm (fun x14 hm => ?_) (fun J15 hm hJ15 => ?_)
 refine C.nx ?_
 refine C.ite rfl hm (fun hb18 hm => ?_) (fun hb18 hm => ?_)
 refine C.seq (U.start ?_)
 refine U.pd 2 T (C.nx (C.ret (C.rt ?_)))
 exact C.f1 T hβ ⟨x5, hm, rfl, rfl, rfl⟩
 refine C.skip (C.nx (C.seq (U.start ?_)))
 refine U.ps 1 T rfl ?_
 refine U.e1 rfl (.none rfl) (by exact Eff1.al T rfl rfl rfl rfl) ?_
 refine U.e1 rfl (.none rfl) (by exact Eff1.st T rfl rfl rfl rfl rfl rfl rfl rfl rfl rfl) ?_
 refine U.done (C.nx (C.seq (U.start ?_)))
 refine U.ps 1 T rfl ?_
 refine U.e1 rfl (.none rfl) (by exact Eff1.al T rfl rfl rfl rfl) ?_
 refine U.e1 rfl (.none rfl) (by exact Eff1.st T rfl rfl rfl rfl rfl rfl rfl rfl rfl rfl) ?_
 refine U.done (C.nx (C.seq ?_))
 refine D.beg 13 [0] [4, 5] mix rfl rfl (by kernel_rfl) (by repeat (first | exact NoPanicQ.body | exact NoPanicQ.rnd | refine NoPanicQ.th ?_ | refine NoPanicQ.blk ?_ | refine NoPanicQ.ng ?_)) (fun hQ hS ws M' => ?_)
 refine D.ps 3 [(1, []), (2, []), (3, [])] rfl hQ hS T rfl rfl (by kernel_rfl) ?_
 obtain ⟨hx27, hm⟩ := hm
 refine D.q 4 [] hQ hS rfl (.none rfl) rfl rfl (by exact Rd.so T rfl rfl rfl rfl rfl (.none _) (.some _ rfl) hx27) rfl (by kernel_rfl) ?_
 refine D.ps 4 [(6, []), (7, []), (8, []), (9, [])] rfl hQ hS T rfl rfl (by kernel_rfl) ?_
 obtain ⟨hx28, hm⟩ := hm
 refine D.q 10 [] hQ hS rfl (.none rfl) rfl rfl (by exact Rd.so T rfl rfl rfl rfl rfl (.some _ rfl) (.none _) hx28) rfl (by kernel_rfl) ?_
 refine D.e1 0 rfl (.none rfl) (by exact Eff1.bs T (enc := eApiStart) (xs := ([] : List ApiStart)) rfl rfl rfl rfl rfl rfl rfl rfl rfl rfl (fun _ _ => rfl) rfl rfl) (by kernel_rfl) rfl rfl ?_
 obtain ⟨hx29, hm⟩ := hm
 refine D.e1 5 rfl (.none rfl) (by exact Eff1.ap T rfl rfl rfl rfl rfl rfl (.inl rfl) rfl rfl rfl (fun _ => rfl) rfl hx29) (by kernel_rfl) rfl rfl ?_
 obtain ⟨hx30, hm⟩ := hm
 refine D.e1 11 rfl (.none rfl) (by exact Eff1.ap T rfl rfl rfl rfl rfl rfl (.inl rfl) rfl rfl rfl (fun _ => rfl) rfl hx30) (by kernel_rfl) rfl rfl ?_
 refine D.ps 1 [(12, [])] rfl hQ hS T rfl rfl (by kernel_rfl) ?_
 refine D.ze1 rfl (.none rfl) (by exact Eff1.st T rfl rfl rfl rfl rfl rfl rfl rfl rfl rfl) (by kernel_rfl) (by kernel_rfl) ?_
 refine C.nx (C.seq ?_)
 refine D.beg 13 [1] [7, 8] mix rfl rfl (by kernel_rfl) (by repeat (first | exact NoPanicQ.body | exact NoPanicQ.rnd | refine NoPanicQ.th ?_ | refine NoPanicQ.blk ?_ | refine NoPanicQ.ng ?_)) (fun hQ hS ws M' => ?_)
 refine D.ps 3 [(1, []), (2, []), (3, [])] rfl hQ hS T rfl rfl (by kernel_rfl) ?_
 obtain ⟨hx33, hm⟩ := hm
 refine D.q 4 [] hQ hS rfl (.none rfl) rfl rfl (by exact Rd.so T rfl rfl rfl rfl rfl (.none _) (.some _ rfl) hx33) rfl (by kernel_rfl) ?_
 refine D.ps 4 [(6, []), (7, []), (8, []), (9, [])] rfl hQ hS T rfl rfl (by kernel_rfl) ?_
 obtain ⟨hx34, hm⟩ := hm
 refine D.q 10 [] hQ hS rfl (.none rfl) rfl rfl (by exact Rd.so T rfl rfl rfl rfl rfl (.some _ rfl) (.none _) hx34) rfl (by kernel_rfl) ?_
 refine D.e1 0 rfl (.none rfl) (by exact Eff1.bs T (enc := eApiRobot) (xs := ([] : List ApiRobot)) rfl rfl rfl rfl rfl rfl rfl rfl rfl rfl (fun _ _ => rfl) rfl rfl) (by kernel_rfl) rfl rfl ?_
 obtain ⟨hx35, hm⟩ := hm
 refine D.e1 5 rfl (.none rfl) (by exact Eff1.ap T rfl rfl rfl rfl rfl rfl (.inl rfl) rfl rfl rfl (fun _ => rfl) rfl hx35) (by kernel_rfl) rfl rfl ?_
 obtain ⟨hx36, hm⟩ := hm
 refine D.e1 11 rfl (.none rfl) (by exact Eff1.ap T rfl rfl rfl rfl rfl rfl (.inl rfl) rfl rfl rfl (fun _ => rfl) rfl hx36) (by kernel_rfl) rfl rfl ?_
 refine D.ps 1 [(12, [])] rfl hQ hS T rfl rfl (by kernel_rfl) ?_
 refine D.ze1 rfl (.none rfl) (by exact Eff1.st T rfl rfl rfl rfl rfl rfl rfl rfl rfl rfl) (by kernel_rfl) (by kernel_rfl) ?_
 refine C.nx (C.seq ?_)
 refine D.beg 9999 [] [10, 11] mix rfl rfl (by kernel_rfl) (by repeat (first | exact NoPanicQ.body | exact NoPanicQ.rnd | refine NoPanicQ.th ?_ | refine NoPanicQ.blk ?_ | refine NoPanicQ.ng ?_)) (fun hQ hS ws M' => ?_)
 refine D.ps 2 [(1, []), (2, [])] rfl hQ hS T rfl rfl (by kernel_rfl) ?_
 obtain ⟨hx39, hm⟩ := hm
 refine D.q 3 [] hQ hS rfl (.none rfl) rfl rfl (by exact Rd.so T rfl rfl rfl rfl rfl (.none _) (.some _ rfl) hx39) rfl (by kernel_rfl) ?_
 refine D.ps 3 [(5, []), (6, []), (7, [])] rfl hQ hS T rfl rfl (by kernel_rfl) ?_
 obtain ⟨hx40, hm⟩ := hm
 refine D.q 8 [] hQ hS rfl (.none rfl) rfl rfl (by exact Rd.so T rfl rfl rfl rfl rfl (.some _ rfl) (.none _) hx40) rfl (by kernel_rfl) ?_
 refine D.e1 0 rfl (.none rfl) (by exact Eff1.bs T (enc := eI) (xs := ([] : List Int)) rfl rfl rfl rfl rfl rfl rfl rfl rfl rfl (fun _ _ => rfl) rfl rfl) (by kernel_rfl) rfl rfl ?_
 obtain ⟨hx41, hm⟩ := hm
 refine D.e1 4 rfl (.none rfl) (by exact Eff1.ap T rfl rfl rfl rfl rfl rfl (.inl rfl) rfl rfl rfl (fun _ => rfl) rfl hx41) (by kernel_rfl) rfl rfl ?_
 obtain ⟨hx42, hm⟩ := hm
 refine D.e1 9 rfl (.none rfl) (by exact Eff1.ap T rfl rfl rfl rfl rfl rfl (.inl rfl) rfl rfl rfl (fun _ => rfl) rfl hx42) (by kernel_rfl) rfl rfl ?_
 refine D.ps 1 [(10, [])] rfl hQ hS T rfl rfl (by kernel_rfl) ?_
 refine D.done (by kernel_rfl) ?_
 refine C.nx (C.seq (C.seq ?_))
 refine C.jn (fun (x43 : Bool) => [(2, .sl 1 eI homes), (3, .i robot), (4, .p 0 0), (5, .p 1 0), (9, .b x5), (10, .p 2 0), (11, .p 4 0), (12, .o 6), (107, .b x43)]) (fun (x43 : Bool) => [(0, .box (eApiSite s_1)), (1, .box (eApiState st)), (2, .box [.i s_1.Floor.W, .i s_1.Floor.H, .i s_1.Floor.D, .sl 1 eI s_1.Floor.Kind, .sl 1 eI s_1.Floor.Out, .sl 5 eApiZone s_1.Zones, .sl 2 eApiApart s_1.Aparts, .sl 2 eApiShelf s_1.Shelves, .o 3]), (3, .val (.os 2 eApiStart ((([] : List ApiStart) ++ (sub s_1.Robots 0 robot)) ++ (sub s_1.Robots (w64 (robot + 1)) (s_1.Robots.length : Int))))), (4, .box [.i st.Tick, .sl 1 eI st.Shelves, .o 5, .sl 1 eI st.People, .sl 1 eI st.Dead, .sl 2 eApiStuck st.Stuck]), (5, .val (.os 6 eApiRobot ((([] : List ApiRobot) ++ (sub st.Robots 0 robot)) ++ (sub st.Robots (w64 (robot + 1)) (st.Robots.length : Int))))), (6, .val (.os 1 eI ((([] : List Int) ++ (sub homes 0 robot)) ++ (sub homes (w64 (robot + 1)) (homes.length : Int)))))]) 7 hm (fun x43 hm => ?_) (fun J44 hm hJ44 => ?_)
 refine C.nx ?_
 refine C.ite rfl hm (fun hb50 hm => ?_) (fun hb50 hm => ?_)
 refine C.seq (U.start ?_)
 refine U.pd 1 T (C.nx (C.ret (C.rt ?_)))
 exact C.f1 T hβ ⟨false, hm, rfl, rfl, rfl⟩
 refine C.skip (C.nx (C.seq (U.start ?_)))
 refine U.ps 3 T rfl ?_
 refine U.k (T_bank_Safe s_1 st homes _ hm) en15 (fun x55 hm => ?_)
 refine U.pd 5 T (C.nx (C.seq (U.start ?_)))
 refine U.ps 3 T rfl ?_
 refine U.k (T_bank_Safe ({ Floor := s_1.Floor, Zones := s_1.Zones, Aparts := s_1.Aparts, Shelves := s_1.Shelves, Robots := ((([] : List ApiStart) ++ (sub s_1.Robots 0 robot)) ++ (sub s_1.Robots (w64 (robot + 1)) (s_1.Robots.length : Int))) : ApiSite }) ({ Tick := st.Tick, Shelves := st.Shelves, Robots := ((([] : List ApiRobot) ++ (sub st.Robots 0 robot)) ++ (sub st.Robots (w64 (robot + 1)) (st.Robots.length : Int))), People := st.People, Dead := st.Dead, Stuck := st.Stuck : ApiState }) ((([] : List Int) ++ (sub homes 0 robot)) ++ (sub homes (w64 (robot + 1)) (homes.length : Int))) _ hm) en15 (fun x58 hm => ?_)
 refine U.pd 5 T (C.nx (C.seq (C.seq (U.start ?_))))
 refine U.pd 1 T (C.nx ?_)
 refine C.jn (fun (x61 : Unit) => [(9, .b x5), (14, .b x55.2), (16, .b x58.2)]) (fun (x61 : Unit) => []) 0 hm (fun x61 hm => ?_) (fun J62 hm hJ62 => ?_)
 refine C.nx (C.seq ?_)
 refine C.jn (fun (x87 : Bool) => [(8, .b x87)]) (fun (x87 : Bool) => []) 0 hm (fun x87 hm => ?_) (fun J88 hm hJ88 => ?_)
 refine C.nx (C.ret ?_)
 exact C.f1 T hβ ⟨x87, hm, rfl, rfl, rfl⟩
 refine U.start ?_
 refine U.ps 2 T rfl ?_
 refine hm.cs (fun hb89 hm => ?_) (fun hb89 hm => ?_)
 refine U.pg 3 1 true 150 hb89 T rfl rfl rfl rfl ?_
 refine hm.cs (fun hb90 hm => ?_) (fun hb90 hm => ?_)
 refine U.pg 1 4 false 153 (ntF hb90) T rfl rfl rfl rfl ?_
 refine U.r rfl (.take 1 true 150 _ hb89 rfl rfl rfl) rfl rfl (by exact Rd.pk' rfl rfl (ntF hb90) rfl) ?_
 refine U.pk hb89 ?_
 refine U.pd 1 T ?_
 exact St.wn (hJ88 _ hm)
 refine U.sks 1 4 false 153 (ntT hb90) rfl rfl rfl ?_
 refine U.r rfl (.take 1 true 150 _ hb89 rfl rfl rfl) rfl rfl (by exact Rd.pk rfl rfl (ntT hb90) rfl) ?_
 refine U.pk hb89 ?_
 refine U.pd 1 T ?_
 exact St.wn (hJ88 _ hm)
 refine U.sks 3 1 true 150 hb89 rfl rfl rfl ?_
 refine U.sku 1 4 false 153 rfl rfl rfl ?_
 refine U.sks 1 1 true 150 hb89 rfl rfl rfl ?_
 refine U.pk' hb89 ?_
 refine U.pd 1 T ?_
 exact St.wn (hJ88 _ hm)
 refine C.block ?_
 refine St.wk (C.loop (fun (s63 : Int) => [(3, .i robot), (9, .b x5), (13, .o 0), (14, .b x55.2), (15, .o 1), (16, .b x58.2), (17, .i s63)]) (fun (s63 : Int) => [(0, .val (.os 1 eI x55.1)), (1, .val (.os 1 eI x58.1))]) hm (fun s63 Y64 hm => ?_)) (Wk.a (sqR 7 2))
 refine C.seq (C.seq (U.start ?_))
 refine U.pd 4 T (C.nx ?_)
 refine C.ite rfl hm (fun hb67 hm => ?_) (fun hb67 hm => ?_)
 refine C.skip (C.nx (C.seq (C.block (C.seq (U.start ?_)))))
 refine U.ps 2 T rfl ?_
 obtain ⟨x70, hx70, hm⟩ := hm
 refine U.r rfl (.none rfl) rfl rfl (by exact Rd.io T rfl rfl rfl rfl rfl rfl rfl hx70) ?_
 refine U.r rfl (.none rfl) rfl rfl (by exact Rd.le T rfl rfl rfl (idx_some hx70).2.2 rfl rfl rfl) ?_
 refine U.pd 1 T (C.nx (C.seq (C.seq (U.start ?_))))
 refine U.pd 3 T (C.nx ?_)
 refine C.jn (fun (x73 : Int) => [(3, .i robot), (9, .b x5), (13, .o 0), (14, .b x55.2), (15, .o 1), (16, .b x58.2), (17, .i s63), (18, .i x73)]) (fun (x73 : Int) => [(0, .val (.os 1 eI x55.1)), (1, .val (.os 1 eI x58.1))]) 2 hm (fun x73 hm => ?_) (fun J74 hm hJ74 => ?_)
 refine C.nx (C.seq ?_)
 refine C.jn (fun (x78 : Bool) => [(3, .i robot), (9, .b x5), (13, .o 0), (14, .b x55.2), (15, .o 1), (16, .b x58.2), (17, .i s63), (148, .b x78)]) (fun (x78 : Bool) => [(0, .val (.os 1 eI x55.1)), (1, .val (.os 1 eI x58.1))]) 2 hm (fun x78 hm => ?_) (fun J79 hm hJ79 => ?_)
 refine C.nx ?_
 refine C.ite rfl hm (fun hb82 hm => ?_) (fun hb82 hm => ?_)
 refine C.seq (U.start ?_)
 refine U.pd 1 T (C.nx (C.ret (C.brt (C.rt (C.rt (C.brt (C.rt ?_)))))))
 exact C.f1 T hβ ⟨false, hm, rfl, rfl, rfl⟩
 refine C.skip (C.bnx (C.nx (U.start ?_)))
 refine U.pd 3 T (C.nx ?_)
 exact St.wk (C.next hm) (Wk.a (idR 2))
 refine U.start ?_
 refine U.ps 2 T rfl ?_
 refine U.r rfl (.none rfl) rfl rfl (by exact Rd.io T rfl rfl rfl rfl rfl rfl rfl hx70) ?_
 refine U.r rfl (.none rfl) rfl rfl (by exact Rd.le T rfl rfl rfl (idx_some hx70).2.2 rfl rfl rfl) ?_
 refine U.ps 3 T rfl ?_
 refine hm.cs (fun hb80 hm => ?_) (fun hb80 hm => ?_)
 refine U.pg 2 6 true 143 hb80 T rfl rfl rfl rfl ?_
 refine U.k (T_taquinref07_Has x58.1 x73 _ hm) en23 (fun x81 hm => ?_) (hw := .take 6 true 143 _ hb80 rfl rfl rfl)
 refine U.pg 1 6 true 143 hb80 T rfl rfl rfl rfl ?_
 refine U.pk hb80 ?_
 refine U.done ?_
 exact St.wa (idR 2) (hJ79 _ hm)
 refine U.sks 4 6 true 143 hb80 rfl rfl rfl ?_
 refine U.pk' hb80 ?_
 refine U.done ?_
 exact St.wa (idR 2) (hJ79 _ hm)
 refine C.ite rfl hm (fun hb75 hm => ?_) (fun hb75 hm => ?_)
 refine U.start ?_
 refine U.pd 3 T ?_
 exact St.wa (idR 2) (hJ74 _ hm)
 refine C.skip ?_
 exact St.wa (idR 2) (hJ74 _ hm)
 refine C.exit (C.ex (C.ex (C.bex ?_)))
 exact St.wn (hJ62 _ hm)
 refine U.start ?_
 refine U.ps 1 T rfl ?_
 refine U.k (T_survey_Right ({ Floor := s_1.Floor, Zones := s_1.Zones, Aparts := s_1.Aparts, Shelves := s_1.Shelves, Robots := ((([] : List ApiStart) ++ (sub s_1.Robots 0 robot)) ++ (sub s_1.Robots (w64 (robot + 1)) (s_1.Robots.length : Int))) : ApiSite }) _ hm) en11 (fun x45 hm => ?_)
 refine U.ps 2 T rfl ?_
 refine hm.cs (fun hb46 hm => ?_) (fun hb46 hm => ?_)
 refine U.pg 2 3 false 95 (ntF hb46) T rfl rfl rfl rfl ?_
 refine U.k (T_body_Right ({ Floor := s_1.Floor, Zones := s_1.Zones, Aparts := s_1.Aparts, Shelves := s_1.Shelves, Robots := ((([] : List ApiStart) ++ (sub s_1.Robots 0 robot)) ++ (sub s_1.Robots (w64 (robot + 1)) (s_1.Robots.length : Int))) : ApiSite }) ({ Tick := st.Tick, Shelves := st.Shelves, Robots := ((([] : List ApiRobot) ++ (sub st.Robots 0 robot)) ++ (sub st.Robots (w64 (robot + 1)) (st.Robots.length : Int))), People := st.People, Dead := st.Dead, Stuck := st.Stuck : ApiState }) _ hm) en12 (fun x47 hm => ?_) (hw := .take 3 false 95 _ (ntF hb46) rfl rfl rfl)
 refine U.pg 1 3 false 95 (ntF hb46) T rfl rfl rfl rfl ?_
 refine U.r rfl (.none rfl) rfl rfl (by exact Rd.pk' rfl rfl (ntF hb46) rfl) ?_
 refine U.ps 1 T rfl ?_
 refine hm.cs (fun hb48 hm => ?_) (fun hb48 hm => ?_)
 refine U.pg 3 9 false 101 (ntF hb48) T rfl rfl rfl rfl ?_
 refine U.k (T_bank_Right ({ Floor := s_1.Floor, Zones := s_1.Zones, Aparts := s_1.Aparts, Shelves := s_1.Shelves, Robots := ((([] : List ApiStart) ++ (sub s_1.Robots 0 robot)) ++ (sub s_1.Robots (w64 (robot + 1)) (s_1.Robots.length : Int))) : ApiSite }) ({ Tick := st.Tick, Shelves := st.Shelves, Robots := ((([] : List ApiRobot) ++ (sub st.Robots 0 robot)) ++ (sub st.Robots (w64 (robot + 1)) (st.Robots.length : Int))), People := st.People, Dead := st.Dead, Stuck := st.Stuck : ApiState }) ((([] : List Int) ++ (sub homes 0 robot)) ++ (sub homes (w64 (robot + 1)) (homes.length : Int))) _ hm) en13 (fun x49 hm => ?_) (hw := .take 9 false 101 _ (ntF hb48) rfl rfl rfl)
 refine U.pg 1 9 false 101 (ntF hb48) T rfl rfl rfl rfl ?_
 refine U.r rfl (.none rfl) rfl rfl (by exact Rd.pk' rfl rfl (ntF hb48) rfl) ?_
 refine U.done ?_
 exact St.wa [some 0, some 1, some 2, some 6, some 3, some 9, some 12] (hJ44 _ hm)
 refine U.sks 5 9 false 101 (ntT hb48) rfl rfl rfl ?_
 refine U.r rfl (.none rfl) rfl rfl (by exact Rd.pk rfl rfl (ntT hb48) rfl) ?_
 refine U.done ?_
 exact St.wa [some 0, some 1, some 2, some 6, some 3, some 9, some 12] (hJ44 _ hm)
 refine U.sks 4 3 false 95 (ntT hb46) rfl rfl rfl ?_
 refine U.r rfl (.none rfl) rfl rfl (by exact Rd.pk rfl rfl (ntT hb46) rfl) ?_
 refine U.ps 1 T rfl ?_
 refine U.sks 5 9 false 101 rfl rfl rfl rfl ?_
 refine U.pk rfl ?_
 refine U.done ?_
 exact St.wa [some 0, some 1, some 2, some 6, some 3, some 9, some 12] (hJ44 _ hm)
 refine U.start ?_
 refine U.ps 3 T rfl ?_
 obtain ⟨x16, hx16, hm⟩ := hm
 refine U.r rfl (.none rfl) rfl rfl (by exact Rd.ix T rfl rfl rfl rfl rfl rfl hx16) ?_
 refine U.ps 4 T rfl ?_
 refine hm.cs (fun hb17 hm => ?_) (fun hb17 hm => ?_)
 refine U.sks 7 7 false 44 hb17 rfl rfl rfl ?_
 refine U.pk hb17 ?_
 refine U.done ?_
 exact St.wa (idR 2) (hJ15 _ hm)
 refine U.pg 7 7 false 44 hb17 T rfl rfl rfl rfl ?_
 refine U.pk' hb17 ?_
 refine U.done ?_
 exact St.wa (idR 2) (hJ15 _ hm)
 refine U.start ?_
 refine U.ps 3 T rfl ?_
 refine U.k (T_taquinlaw21_fits s_1 st homes 40 _ hm) en22 (fun x8 hm => ?_)
 refine U.ps 2 T rfl ?_
 refine hm.cs (fun hb9 hm => ?_) (fun hb9 hm => ?_)
 refine U.pg 2 5 false 25 (ntF hb9) T rfl rfl rfl rfl ?_
 refine U.r rfl (.none rfl) rfl rfl (by exact Rd.pk' rfl rfl (ntF hb9) rfl) ?_
 refine U.ps 1 T rfl ?_
 refine hm.cs (fun hb10 hm => ?_) (fun hb10 hm => ?_)
 refine U.sks 5 9 false 29 hb10 rfl rfl rfl ?_
 refine U.pk hb10 ?_
 refine U.done ?_
 exact St.wa (idR 2) (hJ7 _ hm)
 refine U.pg 5 9 false 29 hb10 T rfl rfl rfl rfl ?_
 refine U.pk' hb10 ?_
 refine U.done ?_
 exact St.wa (idR 2) (hJ7 _ hm)
 refine U.sks 2 5 false 25 (ntT hb9) rfl rfl rfl ?_
 refine U.r rfl (.none rfl) rfl rfl (by exact Rd.pk rfl rfl (ntT hb9) rfl) ?_
 refine U.ps 1 T rfl ?_
 refine U.sks 5 9 false 29 rfl rfl rfl rfl ?_
 refine U.pk rfl ?_
 refine U.done ?_
 exact St.wa (idR 2) (hJ7 _ hm)
end Go.Proofs.YtbkpekodmhkbdaaGreat
