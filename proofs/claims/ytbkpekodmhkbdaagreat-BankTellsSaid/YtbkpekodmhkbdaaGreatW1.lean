/- The walks: each Go function does what its verification condition says (written by a program of the prover). -/
import Derived.Test.YtbkpekodmhkbdaaGreatW0
import Derived.KernelRfl
set_option maxRecDepth 100000
set_option maxHeartbeats 8000000
set_option linter.unusedVariables false
set_option linter.unusedSimpArgs false
namespace Go.Proofs.YtbkpekodmhkbdaaGreat
open Go Go.Taq
theorem T_survey_Right (s_1 : ApiSite) (post : Bool → Prop) (hm : V_survey_Right s_1 post) :
    Tr Tryz.prog 11 [.agg (eApiSite s_1)] [] 0 (fun A H' k => ∃ y, post y ∧ A = (.b y) ∧ H' = [] ∧ k = 0) := by
 refine Tr.intro (n := 109) Tryz.func11 rfl Tryz.ntmps11 rfl (fun w0 ok F β hβ => ?_)
 unfold V_survey_Right at hm
 refine C.seq (U.start ?_)
 refine U.bx ?_
 refine U.pd 1 T (C.nx (C.seq (C.seq (U.start ?_))))
 refine U.ps 2 T rfl ?_
 refine U.k (T_floor_Right s_1.Floor _ hm) en30 (fun x5 hm => ?_)
 refine U.pd 1 T (C.nx ?_)
 refine C.ite rfl hm (fun hb6 hm => ?_) (fun hb6 hm => ?_)
 refine C.seq (U.start ?_)
 refine U.pd 1 T (C.nx (C.ret (C.rt ?_)))
 exact C.f1 T hβ ⟨false, hm, rfl, rfl, rfl⟩
 refine C.skip (C.nx (C.seq (U.start ?_)))
 refine U.ps 2 T rfl ?_
 refine U.e rfl (.none rfl) (by exact Eff.c [] (v := false) (T_survey_newMaker s_1.Floor _ hm) en31 rfl rfl rfl (.eq rfl) trivial rfl rfl rfl rfl rfl rfl (fun h => by cases h) (.inr ⟨rfl, rfl⟩) (fun _ => rfl) (fun _ => rfl) rfl) (fun x11' hm => ?_)
 obtain ⟨x11⟩ := x11'
 refine U.pd 1 T (C.nx (C.seq (C.seq (U.start ?_))))
 refine U.pd 4 T (C.nx ?_)
 refine C.jn (fun (x14 : Int × Int × Int × List Int × List Int × List ApiZone × List ApiApart × List ApiShelf × List ApiStart × List (Int × Int) × List (Int × Bool) × List (Int × Bool) × List (ByteArray × Int) × List (Int × Bool) × List Int × List Int) => [(1, .p 0 0), (3, .p 1 0)]) (fun (x14 : Int × Int × Int × List Int × List Int × List ApiZone × List ApiApart × List ApiShelf × List ApiStart × List (Int × Int) × List (Int × Bool) × List (Int × Bool) × List (ByteArray × Int) × List (Int × Bool) × List Int × List Int) => [(0, .box (eApiSite s_1)), (1, .box [.i x14.1, .i x14.2.1, .i x14.2.2.1, .sl 1 eI x14.2.2.2.1, .sl 1 eI x14.2.2.2.2.1, .o 2, .o 3, .o 4, .o 5, .o 6, .o 7, .o 8, .o 9, .o 10, .o 11, .o 12]), (2, .val (.os 5 eApiZone x14.2.2.2.2.2.1)), (3, .val (.os 2 eApiApart x14.2.2.2.2.2.2.1)), (4, .val (.os 2 eApiShelf x14.2.2.2.2.2.2.2.1)), (5, .val (.os 2 eApiStart x14.2.2.2.2.2.2.2.2.1)), (6, .val (.om kI veI x14.2.2.2.2.2.2.2.2.2.1)), (7, .val (.om kI veB x14.2.2.2.2.2.2.2.2.2.2.1)), (8, .val (.om kI veB x14.2.2.2.2.2.2.2.2.2.2.2.1)), (9, .val (.om kS veI x14.2.2.2.2.2.2.2.2.2.2.2.2.1)), (10, .val (.om kI veB x14.2.2.2.2.2.2.2.2.2.2.2.2.2.1)), (11, .val (.os 1 eI x14.2.2.2.2.2.2.2.2.2.2.2.2.2.2.1)), (12, .val (.os 1 eI x14.2.2.2.2.2.2.2.2.2.2.2.2.2.2.2))]) 13 hm (fun x14 hm => ?_) (fun J15 hm hJ15 => ?_)
 refine C.nx (C.seq (C.seq (U.start ?_)))
 refine U.pd 4 T (C.nx ?_)
 refine C.jn (fun (x43 : Int × Int × Int × List Int × List Int × List ApiZone × List ApiApart × List ApiShelf × List ApiStart × List (Int × Int) × List (Int × Bool) × List (Int × Bool) × List (ByteArray × Int) × List (Int × Bool) × List Int × List Int) => [(1, .p 0 0), (3, .p 1 0)]) (fun (x43 : Int × Int × Int × List Int × List Int × List ApiZone × List ApiApart × List ApiShelf × List ApiStart × List (Int × Int) × List (Int × Bool) × List (Int × Bool) × List (ByteArray × Int) × List (Int × Bool) × List Int × List Int) => [(0, .box (eApiSite s_1)), (1, .box [.i x43.1, .i x43.2.1, .i x43.2.2.1, .sl 1 eI x43.2.2.2.1, .sl 1 eI x43.2.2.2.2.1, .o 2, .o 3, .o 4, .o 5, .o 6, .o 7, .o 8, .o 9, .o 10, .o 11, .o 12]), (2, .val (.os 5 eApiZone x43.2.2.2.2.2.1)), (3, .val (.os 2 eApiApart x43.2.2.2.2.2.2.1)), (4, .val (.os 2 eApiShelf x43.2.2.2.2.2.2.2.1)), (5, .val (.os 2 eApiStart x43.2.2.2.2.2.2.2.2.1)), (6, .val (.om kI veI x43.2.2.2.2.2.2.2.2.2.1)), (7, .val (.om kI veB x43.2.2.2.2.2.2.2.2.2.2.1)), (8, .val (.om kI veB x43.2.2.2.2.2.2.2.2.2.2.2.1)), (9, .val (.om kS veI x43.2.2.2.2.2.2.2.2.2.2.2.2.1)), (10, .val (.om kI veB x43.2.2.2.2.2.2.2.2.2.2.2.2.2.1)), (11, .val (.os 1 eI x43.2.2.2.2.2.2.2.2.2.2.2.2.2.2.1)), (12, .val (.os 1 eI x43.2.2.2.2.2.2.2.2.2.2.2.2.2.2.2))]) 13 hm (fun x43 hm => ?_) (fun J44 hm hJ44 => ?_)
 refine C.nx (C.seq (C.seq (U.start ?_)))
 refine U.pd 4 T (C.nx ?_)
 refine C.jn (fun (x63 : Int × Int × Int × List Int × List Int × List ApiZone × List ApiApart × List ApiShelf × List ApiStart × List (Int × Int) × List (Int × Bool) × List (Int × Bool) × List (ByteArray × Int) × List (Int × Bool) × List Int × List Int) => [(1, .p 0 0), (3, .p 1 0)]) (fun (x63 : Int × Int × Int × List Int × List Int × List ApiZone × List ApiApart × List ApiShelf × List ApiStart × List (Int × Int) × List (Int × Bool) × List (Int × Bool) × List (ByteArray × Int) × List (Int × Bool) × List Int × List Int) => [(0, .box (eApiSite s_1)), (1, .box [.i x63.1, .i x63.2.1, .i x63.2.2.1, .sl 1 eI x63.2.2.2.1, .sl 1 eI x63.2.2.2.2.1, .o 2, .o 3, .o 4, .o 5, .o 6, .o 7, .o 8, .o 9, .o 10, .o 11, .o 12]), (2, .val (.os 5 eApiZone x63.2.2.2.2.2.1)), (3, .val (.os 2 eApiApart x63.2.2.2.2.2.2.1)), (4, .val (.os 2 eApiShelf x63.2.2.2.2.2.2.2.1)), (5, .val (.os 2 eApiStart x63.2.2.2.2.2.2.2.2.1)), (6, .val (.om kI veI x63.2.2.2.2.2.2.2.2.2.1)), (7, .val (.om kI veB x63.2.2.2.2.2.2.2.2.2.2.1)), (8, .val (.om kI veB x63.2.2.2.2.2.2.2.2.2.2.2.1)), (9, .val (.om kS veI x63.2.2.2.2.2.2.2.2.2.2.2.2.1)), (10, .val (.om kI veB x63.2.2.2.2.2.2.2.2.2.2.2.2.2.1)), (11, .val (.os 1 eI x63.2.2.2.2.2.2.2.2.2.2.2.2.2.2.1)), (12, .val (.os 1 eI x63.2.2.2.2.2.2.2.2.2.2.2.2.2.2.2))]) 13 hm (fun x63 hm => ?_) (fun J64 hm hJ64 => ?_)
 refine C.nx (C.seq (C.seq (U.start ?_)))
 refine U.pd 4 T (C.nx ?_)
 refine C.jn (fun (x83 : Int × Int × Int × List Int × List Int × List ApiZone × List ApiApart × List ApiShelf × List ApiStart × List (Int × Int) × List (Int × Bool) × List (Int × Bool) × List (ByteArray × Int) × List (Int × Bool) × List Int × List Int) => [(3, .p 0 0)]) (fun (x83 : Int × Int × Int × List Int × List Int × List ApiZone × List ApiApart × List ApiShelf × List ApiStart × List (Int × Int) × List (Int × Bool) × List (Int × Bool) × List (ByteArray × Int) × List (Int × Bool) × List Int × List Int) => [(0, .box [.i x83.1, .i x83.2.1, .i x83.2.2.1, .sl 1 eI x83.2.2.2.1, .sl 1 eI x83.2.2.2.2.1, .o 1, .o 2, .o 3, .o 4, .o 5, .o 6, .o 7, .o 8, .o 9, .o 10, .o 11]), (1, .val (.os 5 eApiZone x83.2.2.2.2.2.1)), (2, .val (.os 2 eApiApart x83.2.2.2.2.2.2.1)), (3, .val (.os 2 eApiShelf x83.2.2.2.2.2.2.2.1)), (4, .val (.os 2 eApiStart x83.2.2.2.2.2.2.2.2.1)), (5, .val (.om kI veI x83.2.2.2.2.2.2.2.2.2.1)), (6, .val (.om kI veB x83.2.2.2.2.2.2.2.2.2.2.1)), (7, .val (.om kI veB x83.2.2.2.2.2.2.2.2.2.2.2.1)), (8, .val (.om kS veI x83.2.2.2.2.2.2.2.2.2.2.2.2.1)), (9, .val (.om kI veB x83.2.2.2.2.2.2.2.2.2.2.2.2.2.1)), (10, .val (.os 1 eI x83.2.2.2.2.2.2.2.2.2.2.2.2.2.2.1)), (11, .val (.os 1 eI x83.2.2.2.2.2.2.2.2.2.2.2.2.2.2.2))]) 12 hm (fun x83 hm => ?_) (fun J84 hm hJ84 => ?_)
 refine C.nx (C.seq ?_)
 refine C.jn (fun (x101 : Bool) => [(2, .b x101)]) (fun (x101 : Bool) => []) 0 hm (fun x101 hm => ?_) (fun J102 hm hJ102 => ?_)
 refine C.nx (C.ret ?_)
 exact C.f1 T hβ ⟨x101, hm, rfl, rfl, rfl⟩
 refine U.start ?_
 refine U.ps 1 T rfl ?_
 refine U.k (T_survey_maker_beside ({ site := ({ Floor := ({ W := x83.1, H := x83.2.1, D := x83.2.2.1, Kind := x83.2.2.2.1, Out := x83.2.2.2.2.1 : ApiFloor }), Zones := x83.2.2.2.2.2.1, Aparts := x83.2.2.2.2.2.2.1, Shelves := x83.2.2.2.2.2.2.2.1, Robots := x83.2.2.2.2.2.2.2.2.1 : ApiSite }), shelf := x83.2.2.2.2.2.2.2.2.2.1, robot := x83.2.2.2.2.2.2.2.2.2.2.1, zoned := x83.2.2.2.2.2.2.2.2.2.2.2.1, names := x83.2.2.2.2.2.2.2.2.2.2.2.2.1, oneways := x83.2.2.2.2.2.2.2.2.2.2.2.2.2.1, shelves := x83.2.2.2.2.2.2.2.2.2.2.2.2.2.2.1, zones := x83.2.2.2.2.2.2.2.2.2.2.2.2.2.2.2 : SurveyMaker }) _ hm) en40 (fun x103 hm => ?_)
 refine U.ps 2 T rfl ?_
 refine hm.cs (fun hb104 hm => ?_) (fun hb104 hm => ?_)
 refine U.pg 1 3 true 100 hb104 T rfl rfl rfl rfl ?_
 refine U.k (T_survey_maker_crowded ({ site := ({ Floor := ({ W := x83.1, H := x83.2.1, D := x83.2.2.1, Kind := x83.2.2.2.1, Out := x83.2.2.2.2.1 : ApiFloor }), Zones := x83.2.2.2.2.2.1, Aparts := x83.2.2.2.2.2.2.1, Shelves := x83.2.2.2.2.2.2.2.1, Robots := x83.2.2.2.2.2.2.2.2.1 : ApiSite }), shelf := x83.2.2.2.2.2.2.2.2.2.1, robot := x83.2.2.2.2.2.2.2.2.2.2.1, zoned := x83.2.2.2.2.2.2.2.2.2.2.2.1, names := x83.2.2.2.2.2.2.2.2.2.2.2.2.1, oneways := x83.2.2.2.2.2.2.2.2.2.2.2.2.2.1, shelves := x83.2.2.2.2.2.2.2.2.2.2.2.2.2.2.1, zones := x83.2.2.2.2.2.2.2.2.2.2.2.2.2.2.2 : SurveyMaker }) _ hm) en41 (fun x105 hm => ?_) (hw := .take 3 true 100 _ hb104 rfl rfl rfl)
 refine U.pg 1 3 true 100 hb104 T rfl rfl rfl rfl ?_
 refine U.pk hb104 ?_
 refine U.ps 1 T rfl ?_
 refine hm.cs (fun hb106 hm => ?_) (fun hb106 hm => ?_)
 refine U.pg 1 8 true 105 hb106 T rfl rfl rfl rfl ?_
 refine U.k (T_survey_maker_charger ({ site := ({ Floor := ({ W := x83.1, H := x83.2.1, D := x83.2.2.1, Kind := x83.2.2.2.1, Out := x83.2.2.2.2.1 : ApiFloor }), Zones := x83.2.2.2.2.2.1, Aparts := x83.2.2.2.2.2.2.1, Shelves := x83.2.2.2.2.2.2.2.1, Robots := x83.2.2.2.2.2.2.2.2.1 : ApiSite }), shelf := x83.2.2.2.2.2.2.2.2.2.1, robot := x83.2.2.2.2.2.2.2.2.2.2.1, zoned := x83.2.2.2.2.2.2.2.2.2.2.2.1, names := x83.2.2.2.2.2.2.2.2.2.2.2.2.1, oneways := x83.2.2.2.2.2.2.2.2.2.2.2.2.2.1, shelves := x83.2.2.2.2.2.2.2.2.2.2.2.2.2.2.1, zones := x83.2.2.2.2.2.2.2.2.2.2.2.2.2.2.2 : SurveyMaker }) _ hm) en42 (fun x107 hm => ?_) (hw := .take 8 true 105 _ hb106 rfl rfl rfl)
 refine U.pk hb106 ?_
 refine U.pd 1 T ?_
 exact St.wn (hJ102 _ hm)
 refine U.sks 2 8 true 105 hb106 rfl rfl rfl ?_
 refine U.pk' hb106 ?_
 refine U.pd 1 T ?_
 exact St.wn (hJ102 _ hm)
 refine U.sks 3 3 true 100 hb104 rfl rfl rfl ?_
 refine U.pk' hb104 ?_
 refine U.ps 1 T rfl ?_
 refine U.sks 2 8 true 105 rfl rfl rfl rfl ?_
 refine U.pk' rfl ?_
 refine U.pd 1 T ?_
 exact St.wn (hJ102 _ hm)
 refine C.block ?_
 refine St.wk (C.loop (fun (s85 : Int × Int × Int × List Int × List Int × List ApiZone × List ApiApart × List ApiShelf × List ApiStart × List (Int × Int) × List (Int × Bool) × List (Int × Bool) × List (ByteArray × Int) × List (Int × Bool) × List Int × List Int × Int) => [(3, .p 0 0), (86, .sl 2 eApiStart s_1.Robots), (87, .i (s_1.Robots.length : Int)), (88, .i s85.2.2.2.2.2.2.2.2.2.2.2.2.2.2.2.2)]) (fun (s85 : Int × Int × Int × List Int × List Int × List ApiZone × List ApiApart × List ApiShelf × List ApiStart × List (Int × Int) × List (Int × Bool) × List (Int × Bool) × List (ByteArray × Int) × List (Int × Bool) × List Int × List Int × Int) => [(0, .box [.i s85.1, .i s85.2.1, .i s85.2.2.1, .sl 1 eI s85.2.2.2.1, .sl 1 eI s85.2.2.2.2.1, .o 1, .o 2, .o 3, .o 4, .o 5, .o 6, .o 7, .o 8, .o 9, .o 10, .o 11]), (1, .val (.os 5 eApiZone s85.2.2.2.2.2.1)), (2, .val (.os 2 eApiApart s85.2.2.2.2.2.2.1)), (3, .val (.os 2 eApiShelf s85.2.2.2.2.2.2.2.1)), (4, .val (.os 2 eApiStart s85.2.2.2.2.2.2.2.2.1)), (5, .val (.om kI veI s85.2.2.2.2.2.2.2.2.2.1)), (6, .val (.om kI veB s85.2.2.2.2.2.2.2.2.2.2.1)), (7, .val (.om kI veB s85.2.2.2.2.2.2.2.2.2.2.2.1)), (8, .val (.om kS veI s85.2.2.2.2.2.2.2.2.2.2.2.2.1)), (9, .val (.om kI veB s85.2.2.2.2.2.2.2.2.2.2.2.2.2.1)), (10, .val (.os 1 eI s85.2.2.2.2.2.2.2.2.2.2.2.2.2.2.1)), (11, .val (.os 1 eI s85.2.2.2.2.2.2.2.2.2.2.2.2.2.2.2.1))]) hm (fun s85 Y86 hm => ?_)) (Wk.a (sqR 1 12))
 refine C.seq (U.start ?_)
 refine U.pd 1 T (C.nx (C.seq ?_))
 refine C.ite rfl hm (fun hb89 hm => ?_) (fun hb89 hm => ?_)
 refine C.skip (C.nx (C.seq (C.block (C.seq (U.start ?_)))))
 obtain ⟨x92, hx92, hm⟩ := hm
 refine U.r rfl (.none rfl) rfl rfl (by exact Rd.ix T rfl rfl rfl rfl rfl rfl hx92) ?_
 refine U.ps 1 T rfl ?_
 refine U.e1 rfl (.none rfl) (by exact Eff1.al T rfl rfl rfl rfl) ?_
 refine U.e1 rfl (.none rfl) (by exact Eff1.st T rfl rfl rfl rfl rfl rfl rfl rfl rfl rfl) ?_
 refine U.done (C.nx (C.seq (U.start ?_)))
 refine U.ps 2 T rfl ?_
 refine U.c (idR 12) (T_survey_maker_addRobot__p0 x92 ({ site := ({ Floor := ({ W := s85.1, H := s85.2.1, D := s85.2.2.1, Kind := s85.2.2.2.1, Out := s85.2.2.2.2.1 : ApiFloor }), Zones := s85.2.2.2.2.2.1, Aparts := s85.2.2.2.2.2.2.1, Shelves := s85.2.2.2.2.2.2.2.1, Robots := s85.2.2.2.2.2.2.2.2.1 : ApiSite }), shelf := s85.2.2.2.2.2.2.2.2.2.1, robot := s85.2.2.2.2.2.2.2.2.2.2.1, zoned := s85.2.2.2.2.2.2.2.2.2.2.2.1, names := s85.2.2.2.2.2.2.2.2.2.2.2.2.1, oneways := s85.2.2.2.2.2.2.2.2.2.2.2.2.2.1, shelves := s85.2.2.2.2.2.2.2.2.2.2.2.2.2.2.1, zones := s85.2.2.2.2.2.2.2.2.2.2.2.2.2.2.2.1 : SurveyMaker }) _ hm) en39 (fun x95 hm => ?_)
 refine U.pd 1 T (C.nx ?_)
 refine C.ite rfl hm (fun hb96 hm => ?_) (fun hb96 hm => ?_)
 refine C.seq (U.start ?_)
 refine U.pd 1 T (C.nx (C.ret (C.brt (C.rt (C.rt (C.brt (C.rt ?_)))))))
 exact C.f1 T hβ ⟨false, hm, rfl, rfl, rfl⟩
 refine C.skip (C.bnx (C.nx (U.start ?_)))
 refine U.pd 2 T (C.nx ?_)
 exact St.wk (C.next hm) (Wk.a [some 0, some 25, some 26, some 27, some 28, some 29, some 30, some 31, some 32, some 33, some 34, some 35])
 refine C.exit (C.ex (C.ex (C.bex ?_)))
 exact St.wa (idR 12) (hJ84 _ hm)
 refine C.block ?_
 refine St.wk (C.loop (fun (s65 : Int × Int × Int × List Int × List Int × List ApiZone × List ApiApart × List ApiShelf × List ApiStart × List (Int × Int) × List (Int × Bool) × List (Int × Bool) × List (ByteArray × Int) × List (Int × Bool) × List Int × List Int × Int) => [(1, .p 0 0), (3, .p 1 0), (74, .sl 2 eApiShelf s_1.Shelves), (75, .i (s_1.Shelves.length : Int)), (76, .i s65.2.2.2.2.2.2.2.2.2.2.2.2.2.2.2.2)]) (fun (s65 : Int × Int × Int × List Int × List Int × List ApiZone × List ApiApart × List ApiShelf × List ApiStart × List (Int × Int) × List (Int × Bool) × List (Int × Bool) × List (ByteArray × Int) × List (Int × Bool) × List Int × List Int × Int) => [(0, .box (eApiSite s_1)), (1, .box [.i s65.1, .i s65.2.1, .i s65.2.2.1, .sl 1 eI s65.2.2.2.1, .sl 1 eI s65.2.2.2.2.1, .o 2, .o 3, .o 4, .o 5, .o 6, .o 7, .o 8, .o 9, .o 10, .o 11, .o 12]), (2, .val (.os 5 eApiZone s65.2.2.2.2.2.1)), (3, .val (.os 2 eApiApart s65.2.2.2.2.2.2.1)), (4, .val (.os 2 eApiShelf s65.2.2.2.2.2.2.2.1)), (5, .val (.os 2 eApiStart s65.2.2.2.2.2.2.2.2.1)), (6, .val (.om kI veI s65.2.2.2.2.2.2.2.2.2.1)), (7, .val (.om kI veB s65.2.2.2.2.2.2.2.2.2.2.1)), (8, .val (.om kI veB s65.2.2.2.2.2.2.2.2.2.2.2.1)), (9, .val (.om kS veI s65.2.2.2.2.2.2.2.2.2.2.2.2.1)), (10, .val (.om kI veB s65.2.2.2.2.2.2.2.2.2.2.2.2.2.1)), (11, .val (.os 1 eI s65.2.2.2.2.2.2.2.2.2.2.2.2.2.2.1)), (12, .val (.os 1 eI s65.2.2.2.2.2.2.2.2.2.2.2.2.2.2.2.1))]) hm (fun s65 Y66 hm => ?_)) (Wk.a (idR 13))
 refine C.seq (U.start ?_)
 refine U.pd 1 T (C.nx (C.seq ?_))
 refine C.ite rfl hm (fun hb69 hm => ?_) (fun hb69 hm => ?_)
 refine C.skip (C.nx (C.seq (C.block (C.seq (U.start ?_)))))
 obtain ⟨x72, hx72, hm⟩ := hm
 refine U.r rfl (.none rfl) rfl rfl (by exact Rd.ix T rfl rfl rfl rfl rfl rfl hx72) ?_
 refine U.ps 1 T rfl ?_
 refine U.e1 rfl (.none rfl) (by exact Eff1.al T rfl rfl rfl rfl) ?_
 refine U.e1 rfl (.none rfl) (by exact Eff1.st T rfl rfl rfl rfl rfl rfl rfl rfl rfl rfl) ?_
 refine U.done (C.nx (C.seq (U.start ?_)))
 refine U.ps 2 T rfl ?_
 refine U.c (sqR 1 12) (T_survey_maker_addShelf__p0 x72 ({ site := ({ Floor := ({ W := s65.1, H := s65.2.1, D := s65.2.2.1, Kind := s65.2.2.2.1, Out := s65.2.2.2.2.1 : ApiFloor }), Zones := s65.2.2.2.2.2.1, Aparts := s65.2.2.2.2.2.2.1, Shelves := s65.2.2.2.2.2.2.2.1, Robots := s65.2.2.2.2.2.2.2.2.1 : ApiSite }), shelf := s65.2.2.2.2.2.2.2.2.2.1, robot := s65.2.2.2.2.2.2.2.2.2.2.1, zoned := s65.2.2.2.2.2.2.2.2.2.2.2.1, names := s65.2.2.2.2.2.2.2.2.2.2.2.2.1, oneways := s65.2.2.2.2.2.2.2.2.2.2.2.2.2.1, shelves := s65.2.2.2.2.2.2.2.2.2.2.2.2.2.2.1, zones := s65.2.2.2.2.2.2.2.2.2.2.2.2.2.2.2.1 : SurveyMaker }) _ hm) en38 (fun x75 hm => ?_)
 refine U.pd 1 T (C.nx ?_)
 refine C.ite rfl hm (fun hb76 hm => ?_) (fun hb76 hm => ?_)
 refine C.seq (U.start ?_)
 refine U.pd 1 T (C.nx (C.ret (C.brt (C.rt (C.rt (C.brt (C.rt ?_)))))))
 exact C.f1 T hβ ⟨false, hm, rfl, rfl, rfl⟩
 refine C.skip (C.bnx (C.nx (U.start ?_)))
 refine U.pd 2 T (C.nx ?_)
 exact St.wk (C.next hm) (Wk.a [some 0, some 1, some 26, some 27, some 28, some 29, some 30, some 31, some 32, some 33, some 34, some 35, some 36])
 refine C.exit (C.ex (C.ex (C.bex ?_)))
 exact St.wa (idR 13) (hJ64 _ hm)
 refine C.block ?_
 refine St.wk (C.loop (fun (s45 : Int × Int × Int × List Int × List Int × List ApiZone × List ApiApart × List ApiShelf × List ApiStart × List (Int × Int) × List (Int × Bool) × List (Int × Bool) × List (ByteArray × Int) × List (Int × Bool) × List Int × List Int × Int) => [(1, .p 0 0), (3, .p 1 0), (62, .sl 2 eApiApart s_1.Aparts), (63, .i (s_1.Aparts.length : Int)), (64, .i s45.2.2.2.2.2.2.2.2.2.2.2.2.2.2.2.2)]) (fun (s45 : Int × Int × Int × List Int × List Int × List ApiZone × List ApiApart × List ApiShelf × List ApiStart × List (Int × Int) × List (Int × Bool) × List (Int × Bool) × List (ByteArray × Int) × List (Int × Bool) × List Int × List Int × Int) => [(0, .box (eApiSite s_1)), (1, .box [.i s45.1, .i s45.2.1, .i s45.2.2.1, .sl 1 eI s45.2.2.2.1, .sl 1 eI s45.2.2.2.2.1, .o 2, .o 3, .o 4, .o 5, .o 6, .o 7, .o 8, .o 9, .o 10, .o 11, .o 12]), (2, .val (.os 5 eApiZone s45.2.2.2.2.2.1)), (3, .val (.os 2 eApiApart s45.2.2.2.2.2.2.1)), (4, .val (.os 2 eApiShelf s45.2.2.2.2.2.2.2.1)), (5, .val (.os 2 eApiStart s45.2.2.2.2.2.2.2.2.1)), (6, .val (.om kI veI s45.2.2.2.2.2.2.2.2.2.1)), (7, .val (.om kI veB s45.2.2.2.2.2.2.2.2.2.2.1)), (8, .val (.om kI veB s45.2.2.2.2.2.2.2.2.2.2.2.1)), (9, .val (.om kS veI s45.2.2.2.2.2.2.2.2.2.2.2.2.1)), (10, .val (.om kI veB s45.2.2.2.2.2.2.2.2.2.2.2.2.2.1)), (11, .val (.os 1 eI s45.2.2.2.2.2.2.2.2.2.2.2.2.2.2.1)), (12, .val (.os 1 eI s45.2.2.2.2.2.2.2.2.2.2.2.2.2.2.2.1))]) hm (fun s45 Y46 hm => ?_)) (Wk.a (idR 13))
 refine C.seq (U.start ?_)
 refine U.pd 1 T (C.nx (C.seq ?_))
 refine C.ite rfl hm (fun hb49 hm => ?_) (fun hb49 hm => ?_)
 refine C.skip (C.nx (C.seq (C.block (C.seq (U.start ?_)))))
 obtain ⟨x52, hx52, hm⟩ := hm
 refine U.r rfl (.none rfl) rfl rfl (by exact Rd.ix T rfl rfl rfl rfl rfl rfl hx52) ?_
 refine U.ps 1 T rfl ?_
 refine U.e1 rfl (.none rfl) (by exact Eff1.al T rfl rfl rfl rfl) ?_
 refine U.e1 rfl (.none rfl) (by exact Eff1.st T rfl rfl rfl rfl rfl rfl rfl rfl rfl rfl) ?_
 refine U.done (C.nx (C.seq (U.start ?_)))
 refine U.ps 2 T rfl ?_
 refine U.c (sqR 1 12) (T_survey_maker_addApart__p0 x52 ({ site := ({ Floor := ({ W := s45.1, H := s45.2.1, D := s45.2.2.1, Kind := s45.2.2.2.1, Out := s45.2.2.2.2.1 : ApiFloor }), Zones := s45.2.2.2.2.2.1, Aparts := s45.2.2.2.2.2.2.1, Shelves := s45.2.2.2.2.2.2.2.1, Robots := s45.2.2.2.2.2.2.2.2.1 : ApiSite }), shelf := s45.2.2.2.2.2.2.2.2.2.1, robot := s45.2.2.2.2.2.2.2.2.2.2.1, zoned := s45.2.2.2.2.2.2.2.2.2.2.2.1, names := s45.2.2.2.2.2.2.2.2.2.2.2.2.1, oneways := s45.2.2.2.2.2.2.2.2.2.2.2.2.2.1, shelves := s45.2.2.2.2.2.2.2.2.2.2.2.2.2.2.1, zones := s45.2.2.2.2.2.2.2.2.2.2.2.2.2.2.2.1 : SurveyMaker }) _ hm) en37 (fun x55 hm => ?_)
 refine U.pd 1 T (C.nx ?_)
 refine C.ite rfl hm (fun hb56 hm => ?_) (fun hb56 hm => ?_)
 refine C.seq (U.start ?_)
 refine U.pd 1 T (C.nx (C.ret (C.brt (C.rt (C.rt (C.brt (C.rt ?_)))))))
 exact C.f1 T hβ ⟨false, hm, rfl, rfl, rfl⟩
 refine C.skip (C.bnx (C.nx (U.start ?_)))
 refine U.pd 2 T (C.nx ?_)
 exact St.wk (C.next hm) (Wk.a [some 0, some 1, some 26, some 27, some 28, some 29, some 30, some 31, some 32, some 33, some 34, some 35, some 36])
 refine C.exit (C.ex (C.ex (C.bex ?_)))
 exact St.wa (idR 13) (hJ44 _ hm)
 refine C.block ?_
 refine St.wk (C.loop (fun (s16 : Int × Int × Int × List Int × List Int × List ApiZone × List ApiApart × List ApiShelf × List ApiStart × List (Int × Int) × List (Int × Bool) × List (Int × Bool) × List (ByteArray × Int) × List (Int × Bool) × List Int × List Int × Int) => [(1, .p 0 0), (3, .p 1 0), (20, .sl 5 eApiZone s_1.Zones), (21, .i (s_1.Zones.length : Int)), (22, .i s16.2.2.2.2.2.2.2.2.2.2.2.2.2.2.2.2)]) (fun (s16 : Int × Int × Int × List Int × List Int × List ApiZone × List ApiApart × List ApiShelf × List ApiStart × List (Int × Int) × List (Int × Bool) × List (Int × Bool) × List (ByteArray × Int) × List (Int × Bool) × List Int × List Int × Int) => [(0, .box (eApiSite s_1)), (1, .box [.i s16.1, .i s16.2.1, .i s16.2.2.1, .sl 1 eI s16.2.2.2.1, .sl 1 eI s16.2.2.2.2.1, .o 2, .o 3, .o 4, .o 5, .o 6, .o 7, .o 8, .o 9, .o 10, .o 11, .o 12]), (2, .val (.os 5 eApiZone s16.2.2.2.2.2.1)), (3, .val (.os 2 eApiApart s16.2.2.2.2.2.2.1)), (4, .val (.os 2 eApiShelf s16.2.2.2.2.2.2.2.1)), (5, .val (.os 2 eApiStart s16.2.2.2.2.2.2.2.2.1)), (6, .val (.om kI veI s16.2.2.2.2.2.2.2.2.2.1)), (7, .val (.om kI veB s16.2.2.2.2.2.2.2.2.2.2.1)), (8, .val (.om kI veB s16.2.2.2.2.2.2.2.2.2.2.2.1)), (9, .val (.om kS veI s16.2.2.2.2.2.2.2.2.2.2.2.2.1)), (10, .val (.om kI veB s16.2.2.2.2.2.2.2.2.2.2.2.2.2.1)), (11, .val (.os 1 eI s16.2.2.2.2.2.2.2.2.2.2.2.2.2.2.1)), (12, .val (.os 1 eI s16.2.2.2.2.2.2.2.2.2.2.2.2.2.2.2.1))]) hm (fun s16 Y17 hm => ?_)) (Wk.a [some 0, some 12, some 1, some 2, some 3, some 4, some 5, some 6, some 7, some 8, some 9, some 10, some 11])
 refine C.seq (U.start ?_)
 refine U.pd 1 T (C.nx (C.seq ?_))
 refine C.ite rfl hm (fun hb20 hm => ?_) (fun hb20 hm => ?_)
 refine C.skip (C.nx (C.seq (C.block (C.seq (U.start ?_)))))
 obtain ⟨x23, hx23, hm⟩ := hm
 refine U.r rfl (.none rfl) rfl rfl (by exact Rd.ix T rfl rfl rfl rfl rfl rfl hx23) ?_
 refine U.ps 1 T rfl ?_
 refine U.e1 rfl (.none rfl) (by exact Eff1.al T rfl rfl rfl rfl) ?_
 refine U.e1 rfl (.none rfl) (by exact Eff1.st T rfl rfl rfl rfl rfl rfl rfl rfl rfl rfl) ?_
 refine U.done (C.nx (C.seq ?_))
 refine C.jn (fun (x24 : Int × Int × Int × List Int × List Int × List ApiZone × List ApiApart × List ApiShelf × List ApiStart × List (Int × Int) × List (Int × Bool) × List (Int × Bool) × List (ByteArray × Int) × List (Int × Bool) × List Int × List Int × Bool) => [(1, .p 0 0), (3, .p 1 0), (20, .sl 5 eApiZone s_1.Zones), (21, .i (s_1.Zones.length : Int)), (22, .i s16.2.2.2.2.2.2.2.2.2.2.2.2.2.2.2.2), (59, .b x24.2.2.2.2.2.2.2.2.2.2.2.2.2.2.2.2)]) (fun (x24 : Int × Int × Int × List Int × List Int × List ApiZone × List ApiApart × List ApiShelf × List ApiStart × List (Int × Int) × List (Int × Bool) × List (Int × Bool) × List (ByteArray × Int) × List (Int × Bool) × List Int × List Int × Bool) => [(0, .box (eApiSite s_1)), (1, .box [.i x24.1, .i x24.2.1, .i x24.2.2.1, .sl 1 eI x24.2.2.2.1, .sl 1 eI x24.2.2.2.2.1, .o 2, .o 3, .o 4, .o 5, .o 6, .o 7, .o 8, .o 9, .o 10, .o 11, .o 12]), (2, .val (.os 5 eApiZone x24.2.2.2.2.2.1)), (3, .val (.os 2 eApiApart x24.2.2.2.2.2.2.1)), (4, .val (.os 2 eApiShelf x24.2.2.2.2.2.2.2.1)), (5, .val (.os 2 eApiStart x24.2.2.2.2.2.2.2.2.1)), (6, .val (.om kI veI x24.2.2.2.2.2.2.2.2.2.1)), (7, .val (.om kI veB x24.2.2.2.2.2.2.2.2.2.2.1)), (8, .val (.om kI veB x24.2.2.2.2.2.2.2.2.2.2.2.1)), (9, .val (.om kS veI x24.2.2.2.2.2.2.2.2.2.2.2.2.1)), (10, .val (.om kI veB x24.2.2.2.2.2.2.2.2.2.2.2.2.2.1)), (11, .val (.os 1 eI x24.2.2.2.2.2.2.2.2.2.2.2.2.2.2.1)), (12, .val (.os 1 eI x24.2.2.2.2.2.2.2.2.2.2.2.2.2.2.2.1))]) 13 hm (fun x24 hm => ?_) (fun J25 hm hJ25 => ?_)
 refine C.nx ?_
 refine C.ite rfl hm (fun hb36 hm => ?_) (fun hb36 hm => ?_)
 refine C.seq (U.start ?_)
 refine U.pd 1 T (C.nx (C.ret (C.brt (C.rt (C.rt (C.brt (C.rt ?_)))))))
 exact C.f1 T hβ ⟨false, hm, rfl, rfl, rfl⟩
 refine C.skip (C.bnx (C.nx (U.start ?_)))
 refine U.pd 2 T (C.nx ?_)
 exact St.wk (C.next hm) (Wk.a (idR 13))
 refine U.start ?_
 refine U.ps 2 T rfl ?_
 refine U.k (T_survey_Name x23.Name _ hm) en32 (fun x26 hm => ?_)
 refine U.ps 2 T rfl ?_
 refine hm.cs (fun hb27 hm => ?_) (fun hb27 hm => ?_)
 refine U.pg 2 4 false 30 (ntF hb27) T rfl rfl rfl rfl ?_
 refine U.k (T_survey_within x23.Speed 1 100 _ hm) en33 (fun x28 hm => ?_) (hw := .take 4 false 30 _ (ntF hb27) rfl rfl rfl)
 refine U.pg 1 4 false 30 (ntF hb27) T rfl rfl rfl rfl ?_
 refine U.r rfl (.none rfl) rfl rfl (by exact Rd.pk' rfl rfl (ntF hb27) rfl) ?_
 refine U.ps 1 T rfl ?_
 refine hm.cs (fun hb29 hm => ?_) (fun hb29 hm => ?_)
 refine U.pg 3 10 false 36 (ntF hb29) T rfl rfl rfl rfl ?_
 refine U.r rfl (.none rfl) rfl rfl (by exact Rd.pk' rfl rfl (ntF hb29) rfl) ?_
 refine U.ps 1 T rfl ?_
 refine hm.cs (fun hb30 hm => ?_) (fun hb30 hm => ?_)
 refine U.sks 4 15 false 41 hb30 rfl rfl rfl ?_
 refine U.pk hb30 ?_
 refine U.ps 1 T rfl ?_
 refine U.sks 5 21 false 47 rfl rfl rfl rfl ?_
 refine U.pk rfl ?_
 refine U.ps 1 T rfl ?_
 refine U.sks 4 28 false 54 rfl rfl rfl rfl ?_
 refine U.pk rfl ?_
 refine U.done ?_
 exact St.wa (idR 13) (hJ25 _ hm)
 refine U.pg 2 15 false 41 hb30 T rfl rfl rfl rfl ?_
 refine U.k (T_survey_shut x23.Shut _ hm) en34 (fun x31 hm => ?_) (hw := .take 15 false 41 _ hb30 rfl rfl rfl)
 refine U.pg 1 15 false 41 hb30 T rfl rfl rfl rfl ?_
 refine U.pk' hb30 ?_
 refine U.ps 1 T rfl ?_
 refine hm.cs (fun hb32 hm => ?_) (fun hb32 hm => ?_)
 refine U.pg 3 21 false 47 (ntF hb32) T rfl rfl rfl rfl ?_
 refine U.k (T_survey_maker_cells ({ site := ({ Floor := ({ W := s16.1, H := s16.2.1, D := s16.2.2.1, Kind := s16.2.2.2.1, Out := s16.2.2.2.2.1 : ApiFloor }), Zones := s16.2.2.2.2.2.1, Aparts := s16.2.2.2.2.2.2.1, Shelves := s16.2.2.2.2.2.2.2.1, Robots := s16.2.2.2.2.2.2.2.2.1 : ApiSite }), shelf := s16.2.2.2.2.2.2.2.2.2.1, robot := s16.2.2.2.2.2.2.2.2.2.2.1, zoned := s16.2.2.2.2.2.2.2.2.2.2.2.1, names := s16.2.2.2.2.2.2.2.2.2.2.2.2.1, oneways := s16.2.2.2.2.2.2.2.2.2.2.2.2.2.1, shelves := s16.2.2.2.2.2.2.2.2.2.2.2.2.2.2.1, zones := s16.2.2.2.2.2.2.2.2.2.2.2.2.2.2.2.1 : SurveyMaker }) x23.Cells _ hm) en35 (fun x33 hm => ?_) (hw := .take 21 false 47 _ (ntF hb32) rfl rfl rfl)
 refine U.pg 1 21 false 47 (ntF hb32) T rfl rfl rfl rfl ?_
 refine U.r rfl (.none rfl) rfl rfl (by exact Rd.pk' rfl rfl (ntF hb32) rfl) ?_
 refine U.ps 1 T rfl ?_
 refine hm.cs (fun hb34 hm => ?_) (fun hb34 hm => ?_)
 refine U.pg 2 28 false 54 (ntF hb34) T rfl rfl rfl rfl ?_
 refine U.c (sqR 1 12) (T_survey_maker_addZone__p0 x23 ({ site := ({ Floor := ({ W := s16.1, H := s16.2.1, D := s16.2.2.1, Kind := s16.2.2.2.1, Out := s16.2.2.2.2.1 : ApiFloor }), Zones := s16.2.2.2.2.2.1, Aparts := s16.2.2.2.2.2.2.1, Shelves := s16.2.2.2.2.2.2.2.1, Robots := s16.2.2.2.2.2.2.2.2.1 : ApiSite }), shelf := s16.2.2.2.2.2.2.2.2.2.1, robot := s16.2.2.2.2.2.2.2.2.2.2.1, zoned := s16.2.2.2.2.2.2.2.2.2.2.2.1, names := s16.2.2.2.2.2.2.2.2.2.2.2.2.1, oneways := s16.2.2.2.2.2.2.2.2.2.2.2.2.2.1, shelves := s16.2.2.2.2.2.2.2.2.2.2.2.2.2.2.1, zones := s16.2.2.2.2.2.2.2.2.2.2.2.2.2.2.2.1 : SurveyMaker }) _ hm) en36 (fun x35 hm => ?_) (hw := .take 28 false 54 _ (ntF hb34) rfl rfl rfl)
 refine U.pg 1 28 false 54 (ntF hb34) T rfl rfl rfl rfl ?_
 refine U.r rfl (.none rfl) rfl rfl (by exact Rd.pk' rfl rfl (ntF hb34) rfl) ?_
 refine U.done ?_
 exact St.wa [some 0, some 1, some 26, some 27, some 28, some 29, some 30, some 31, some 32, some 33, some 34, some 35, some 36] (hJ25 _ hm)
 refine U.sks 4 28 false 54 (ntT hb34) rfl rfl rfl ?_
 refine U.r rfl (.none rfl) rfl rfl (by exact Rd.pk rfl rfl (ntT hb34) rfl) ?_
 refine U.done ?_
 exact St.wa (idR 13) (hJ25 _ hm)
 refine U.sks 5 21 false 47 (ntT hb32) rfl rfl rfl ?_
 refine U.r rfl (.none rfl) rfl rfl (by exact Rd.pk rfl rfl (ntT hb32) rfl) ?_
 refine U.ps 1 T rfl ?_
 refine U.sks 4 28 false 54 rfl rfl rfl rfl ?_
 refine U.pk rfl ?_
 refine U.done ?_
 exact St.wa (idR 13) (hJ25 _ hm)
 refine U.sks 3 10 false 36 (ntT hb29) rfl rfl rfl ?_
 refine U.r rfl (.none rfl) rfl rfl (by exact Rd.pk rfl rfl (ntT hb29) rfl) ?_
 refine U.ps 1 T rfl ?_
 refine U.sks 4 15 false 41 rfl rfl rfl rfl ?_
 refine U.pk rfl ?_
 refine U.ps 1 T rfl ?_
 refine U.sks 5 21 false 47 rfl rfl rfl rfl ?_
 refine U.pk rfl ?_
 refine U.ps 1 T rfl ?_
 refine U.sks 4 28 false 54 rfl rfl rfl rfl ?_
 refine U.pk rfl ?_
 refine U.done ?_
 exact St.wa (idR 13) (hJ25 _ hm)
 refine U.sks 4 4 false 30 (ntT hb27) rfl rfl rfl ?_
 refine U.r rfl (.none rfl) rfl rfl (by exact Rd.pk rfl rfl (ntT hb27) rfl) ?_
 refine U.ps 1 T rfl ?_
 refine U.sks 3 10 false 36 rfl rfl rfl rfl ?_
 refine U.pk rfl ?_
 refine U.ps 1 T rfl ?_
 refine U.sks 4 15 false 41 rfl rfl rfl rfl ?_
 refine U.pk rfl ?_
 refine U.ps 1 T rfl ?_
 refine U.sks 5 21 false 47 rfl rfl rfl rfl ?_
 refine U.pk rfl ?_
 refine U.ps 1 T rfl ?_
 refine U.sks 4 28 false 54 rfl rfl rfl rfl ?_
 refine U.pk rfl ?_
 refine U.done ?_
 exact St.wa (idR 13) (hJ25 _ hm)
 refine C.exit (C.ex (C.ex (C.bex ?_)))
 exact St.wa (idR 13) (hJ15 _ hm)
theorem T_body_within (n : Int) (from_1 : Int) (to_1 : Int) (post : Bool → Prop) (hm : V_body_within n from_1 to_1 post) :
    Tr Tryz.prog 43 [.i n, .i from_1, .i to_1] [] 0 (fun A H' k => ∃ y, post y ∧ A = (.b y) ∧ H' = [] ∧ k = 0) := by
 refine Tr.intro (n := 15) Tryz.func43 rfl Tryz.ntmps43 rfl (fun w0 ok F β hβ => ?_)
 unfold V_body_within at hm
 refine C.seq (U.start ?_)
 refine U.pd 1 T (C.nx (C.seq ?_))
 refine C.jn (fun (x3 : Bool) => [(6, .b x3)]) (fun (x3 : Bool) => []) 0 hm (fun x3 hm => ?_) (fun J4 hm hJ4 => ?_)
 refine C.nx (C.ret ?_)
 exact C.f1 T hβ ⟨x3, hm, rfl, rfl, rfl⟩
 refine U.start ?_
 refine U.ps 4 T rfl ?_
 refine hm.cs (fun hb5 hm => ?_) (fun hb5 hm => ?_)
 refine U.pg 3 3 true 10 hb5 T rfl rfl rfl rfl ?_
 refine U.pk hb5 ?_
 refine U.pd 1 T ?_
 exact St.wn (hJ4 _ hm)
 refine U.sks 3 3 true 10 hb5 rfl rfl rfl ?_
 refine U.pk' hb5 ?_
 refine U.pd 1 T ?_
 exact St.wn (hJ4 _ hm)
theorem T_body_robots (s_1 : ApiSite) (st : ApiState) (post : Bool → Prop) (hm : V_body_robots s_1 st post) :
    Tr Tryz.prog 44 [.agg (eApiSite s_1), .agg (eApiState st)] [] 0 (fun A H' k => ∃ y, post y ∧ A = (.b y) ∧ H' = [] ∧ k = 0) := by
 refine Tr.intro (n := 88) Tryz.func44 rfl Tryz.ntmps44 rfl (fun w0 ok F β hβ => ?_)
 unfold V_body_robots at hm
 refine C.seq (U.start ?_)
 refine U.bx ?_
 refine U.bx ?_
 refine U.pd 1 T (C.nx (C.seq (U.start ?_)))
 refine U.e1 rfl (.none rfl) (by exact Eff1.mm kI veB rfl rfl rfl) ?_
 refine U.pd 1 T (C.nx (C.seq (C.seq (U.start ?_))))
 refine U.pd 4 T (C.nx ?_)
 refine C.jn (fun (x7 : Unit) => []) (fun (x7 : Unit) => []) 0 hm (fun x7 hm => ?_) (fun J8 hm hJ8 => ?_)
 refine C.nx (C.seq (U.start ?_))
 refine U.pd 1 T (C.nx (C.ret ?_))
 exact C.f1 T hβ ⟨true, hm, rfl, rfl, rfl⟩
 refine C.block ?_
 refine St.wk (C.loop (fun (s9 : List (Int × Bool) × Int) => [(2, .p 0 0), (3, .p 1 0), (5, .o 2), (10, .sl 6 eApiRobot st.Robots), (11, .i (st.Robots.length : Int)), (12, .i s9.2)]) (fun (s9 : List (Int × Bool) × Int) => [(0, .box (eApiSite s_1)), (1, .box (eApiState st)), (2, .val (.om kI veB s9.1))]) hm (fun s9 Y10 hm => ?_)) (Wk.a (idR 3))
 refine C.seq (U.start ?_)
 refine U.pd 1 T (C.nx (C.seq ?_))
 refine C.ite rfl hm (fun hb13 hm => ?_) (fun hb13 hm => ?_)
 refine C.skip (C.nx (C.seq (C.block (C.seq (U.start ?_)))))
 obtain ⟨x16, hx16, hm⟩ := hm
 refine U.r rfl (.none rfl) rfl rfl (by exact Rd.ix T rfl rfl rfl rfl rfl rfl hx16) ?_
 refine U.ps 1 T rfl ?_
 refine U.e1 rfl (.none rfl) (by exact Eff1.al T rfl rfl rfl rfl) ?_
 refine U.e1 rfl (.none rfl) (by exact Eff1.st T rfl rfl rfl rfl rfl rfl rfl rfl rfl rfl) ?_
 refine U.done (C.nx (C.seq (C.seq ?_)))
 refine C.jn (fun (x17 : Bool) => [(2, .p 0 0), (3, .p 1 0), (5, .o 2), (7, .p 3 0), (10, .sl 6 eApiRobot st.Robots), (11, .i (st.Robots.length : Int)), (12, .i s9.2), (47, .b x17)]) (fun (x17 : Bool) => [(0, .box (eApiSite s_1)), (1, .box (eApiState st)), (2, .val (.om kI veB s9.1)), (3, .box (eApiRobot x16))]) 4 hm (fun x17 hm => ?_) (fun J18 hm hJ18 => ?_)
 refine C.nx ?_
 refine C.ite rfl hm (fun hb24 hm => ?_) (fun hb24 hm => ?_)
 refine C.seq (U.start ?_)
 refine U.pd 1 T (C.nx (C.ret (C.rt (C.brt (C.rt (C.rt (C.brt (C.rt ?_))))))))
 exact C.f1 T hβ ⟨false, hm, rfl, rfl, rfl⟩
 refine C.skip (C.nx (C.seq (C.seq ?_)))
 refine C.jn (fun (x27 : Bool) => [(2, .p 0 0), (3, .p 1 0), (5, .o 2), (7, .p 3 0), (10, .sl 6 eApiRobot st.Robots), (11, .i (st.Robots.length : Int)), (12, .i s9.2), (63, .b x27)]) (fun (x27 : Bool) => [(0, .box (eApiSite s_1)), (1, .box (eApiState st)), (2, .val (.om kI veB s9.1)), (3, .box (eApiRobot x16))]) 4 hm (fun x27 hm => ?_) (fun J28 hm hJ28 => ?_)
 refine C.nx ?_
 refine C.ite rfl hm (fun hb34 hm => ?_) (fun hb34 hm => ?_)
 refine C.seq (U.start ?_)
 refine U.pd 1 T (C.nx (C.ret (C.rt (C.brt (C.rt (C.rt (C.brt (C.rt ?_))))))))
 exact C.f1 T hβ ⟨false, hm, rfl, rfl, rfl⟩
 refine C.skip (C.nx (C.seq (C.seq ?_)))
 refine C.jn (fun (x37 : Bool) => [(2, .p 0 0), (3, .p 1 0), (5, .o 2), (7, .p 3 0), (10, .sl 6 eApiRobot st.Robots), (11, .i (st.Robots.length : Int)), (12, .i s9.2), (83, .b x37)]) (fun (x37 : Bool) => [(0, .box (eApiSite s_1)), (1, .box (eApiState st)), (2, .val (.om kI veB s9.1)), (3, .box (eApiRobot x16))]) 4 hm (fun x37 hm => ?_) (fun J38 hm hJ38 => ?_)
 refine C.nx ?_
 refine C.ite rfl hm (fun hb42 hm => ?_) (fun hb42 hm => ?_)
 refine C.seq (U.start ?_)
 refine U.pd 1 T (C.nx (C.ret (C.rt (C.brt (C.rt (C.rt (C.brt (C.rt ?_))))))))
 exact C.f1 T hβ ⟨false, hm, rfl, rfl, rfl⟩
 refine C.skip (C.nx (U.start ?_))
 refine U.ps 3 T rfl ?_
 refine U.e1 rfl (.none rfl) (by exact Eff1.mu T (x := x16.Load) (y := true) (.inl rfl) rfl kt3 (fun _ => rfl) rfl rfl rfl rfl rfl (.inl rfl) rfl) ?_
 refine U.done (C.bnx (C.nx (U.start ?_)))
 refine U.pd 2 T (C.nx ?_)
 exact St.wk (C.next hm) (Wk.a (idR 3))
 refine D.beg 9999 [1, 2, 3] [] mix rfl rfl (by kernel_rfl) (by repeat (first | exact NoPanicQ.body | exact NoPanicQ.rnd | refine NoPanicQ.th ?_ | refine NoPanicQ.blk ?_ | refine NoPanicQ.ng ?_)) (fun hQ hS ws M' => ?_)
 refine D.ps 4 [(0, []), (1, []), (2, []), (3, [])] rfl hQ hS T rfl rfl (by kernel_rfl) ?_
 refine hm.cs (fun hb39 hm => ?_) (fun hb39 hm => ?_)
 refine D.q 4 [] hQ hS rfl (.take 3 true 67 _ hb39 rfl rfl rfl) rfl rfl (by exact Rd.p T rfl) rfl (by kernel_rfl) ?_
 refine D.q 5 [] hQ hS rfl (.take 3 true 67 _ hb39 rfl rfl rfl) rfl rfl (by exact Rd.p T rfl) rfl (by kernel_rfl) ?_
 refine D.q 6 [] hQ hS rfl (.take 3 true 67 _ hb39 rfl rfl rfl) rfl rfl (by exact Rd.l T rfl rfl rfl) rfl (by kernel_rfl) ?_
 refine D.q 7 [] hQ hS rfl (.take 3 true 67 _ hb39 rfl rfl rfl) rfl rfl (by exact Rd.lk T (ke := kI) (ve := veB) (xs := s9.1) (z0 := false) (x := x16.Load) rfl rfl kt3 zt4 (fun _ => rfl) rfl (.o rfl) rfl rfl rfl) rfl (by kernel_rfl) ?_
 refine D.q 8 [] hQ hS rfl (.take 3 true 67 _ hb39 rfl rfl rfl) rfl rfl (by exact Rd.p T rfl) rfl (by kernel_rfl) ?_
 refine hm.cs (fun hb40 hm => ?_) (fun hb40 hm => ?_)
 refine D.sx 9 [] hQ hS (.skip 8 false 72 _ hb40 rfl rfl rfl) ?_
 refine D.sx 10 [] hQ hS (.skip 8 false 72 _ hb40 rfl rfl rfl) ?_
 refine D.sx 11 [] hQ hS (.skip 8 false 72 _ hb40 rfl rfl rfl) ?_
 refine D.sx 12 [] hQ hS (.skip 8 false 72 _ hb40 rfl rfl rfl) ?_
 refine D.sx 13 [] hQ hS (.skip 8 false 72 _ hb40 rfl rfl rfl) ?_
 refine D.sx 14 [] hQ hS (.skip 8 false 72 _ hb40 rfl rfl rfl) ?_
 refine D.sx 15 [] hQ hS (.skip 8 false 72 _ hb40 rfl rfl rfl) ?_
 refine D.sx 16 [] hQ hS (.skip 8 false 72 _ hb40 rfl rfl rfl) ?_
 refine D.sx 17 [] hQ hS (.skip 8 false 72 _ hb40 rfl rfl rfl) ?_
 refine D.q 18 [] hQ hS rfl (.take 3 true 67 _ hb39 rfl rfl rfl) rfl rfl (by exact Rd.pk rfl rfl hb40 rfl) rfl (by kernel_rfl) ?_
 refine D.q 19 [] hQ hS rfl (.none rfl) rfl rfl (by exact Rd.pk rfl rfl hb39 rfl) rfl (by kernel_rfl) ?_
 refine D.done (by kernel_rfl) ?_
 exact St.wa (idR 4) (hJ38 _ hm)
 refine D.q 9 [] hQ hS rfl (.take 8 false 72 _ hb40 rfl rfl rfl) rfl rfl (by exact Rd.p T rfl) rfl (by kernel_rfl) ?_
 refine D.q 10 [] hQ hS rfl (.take 8 false 72 _ hb40 rfl rfl rfl) rfl rfl (by exact Rd.l T rfl rfl rfl) rfl (by kernel_rfl) ?_
 refine D.q 11 [] hQ hS rfl (.take 8 false 72 _ hb40 rfl rfl rfl) rfl rfl (by exact Rd.p T rfl) rfl (by kernel_rfl) ?_
 refine D.q 12 [] hQ hS rfl (.take 8 false 72 _ hb40 rfl rfl rfl) rfl rfl (by exact Rd.l T rfl rfl rfl) rfl (by kernel_rfl) ?_
 obtain ⟨x41, hx41, hm⟩ := hm
 refine D.q 13 [] hQ hS rfl (.take 8 false 72 _ hb40 rfl rfl rfl) rfl rfl (by exact Rd.ix T rfl rfl rfl rfl rfl rfl hx41) rfl (by kernel_rfl) ?_
 refine D.q 14 [] hQ hS rfl (.take 8 false 72 _ hb40 rfl rfl rfl) rfl rfl (by exact Rd.l T rfl rfl rfl) rfl (by kernel_rfl) ?_
 refine D.q 15 [] hQ hS rfl (.take 8 false 72 _ hb40 rfl rfl rfl) rfl rfl (by exact Rd.p T rfl) rfl (by kernel_rfl) ?_
 refine D.q 16 [] hQ hS rfl (.take 8 false 72 _ hb40 rfl rfl rfl) rfl rfl (by exact Rd.l T rfl rfl rfl) rfl (by kernel_rfl) ?_
 refine D.q 17 [] hQ hS rfl (.take 8 false 72 _ hb40 rfl rfl rfl) rfl rfl (by exact Rd.p T rfl) rfl (by kernel_rfl) ?_
 refine D.q 18 [] hQ hS rfl (.take 3 true 67 _ hb39 rfl rfl rfl) rfl rfl (by exact Rd.pk' rfl rfl hb40 rfl) rfl (by kernel_rfl) ?_
 refine D.q 19 [] hQ hS rfl (.none rfl) rfl rfl (by exact Rd.pk rfl rfl hb39 rfl) rfl (by kernel_rfl) ?_
 refine D.done (by kernel_rfl) ?_
 exact St.wa (idR 4) (hJ38 _ hm)
 refine D.sx 4 [] hQ hS (.skip 3 true 67 _ hb39 rfl rfl rfl) ?_
 refine D.sx 5 [] hQ hS (.skip 3 true 67 _ hb39 rfl rfl rfl) ?_
 refine D.sx 6 [] hQ hS (.skip 3 true 67 _ hb39 rfl rfl rfl) ?_
 refine D.sx 7 [] hQ hS (.skip 3 true 67 _ hb39 rfl rfl rfl) ?_
 refine D.sx 8 [] hQ hS (.skip 3 true 67 _ hb39 rfl rfl rfl) ?_
 refine D.sx 9 [] hQ hS (.und 8 false 72 rfl rfl rfl) ?_
 refine D.sx 10 [] hQ hS (.und 8 false 72 rfl rfl rfl) ?_
 refine D.sx 11 [] hQ hS (.und 8 false 72 rfl rfl rfl) ?_
 refine D.sx 12 [] hQ hS (.und 8 false 72 rfl rfl rfl) ?_
 refine D.sx 13 [] hQ hS (.und 8 false 72 rfl rfl rfl) ?_
 refine D.sx 14 [] hQ hS (.und 8 false 72 rfl rfl rfl) ?_
 refine D.sx 15 [] hQ hS (.und 8 false 72 rfl rfl rfl) ?_
 refine D.sx 16 [] hQ hS (.und 8 false 72 rfl rfl rfl) ?_
 refine D.sx 17 [] hQ hS (.und 8 false 72 rfl rfl rfl) ?_
 refine D.sx 18 [] hQ hS (.skip 3 true 67 _ hb39 rfl rfl rfl) ?_
 refine D.q 19 [] hQ hS rfl (.none rfl) rfl rfl (by exact Rd.pk' rfl rfl hb39 rfl) rfl (by kernel_rfl) ?_
 refine D.done (by kernel_rfl) ?_
 exact St.wa (idR 4) (hJ38 _ hm)
 refine U.start ?_
 refine U.ps 2 T rfl ?_
 refine U.k (T_body_within x16.Charge 0 1000000 _ hm) en43 (fun x29 hm => ?_)
 refine U.ps 2 T rfl ?_
 refine hm.cs (fun hb30 hm => ?_) (fun hb30 hm => ?_)
 refine U.pg 2 4 false 52 (ntF hb30) T rfl rfl rfl rfl ?_
 refine U.k (T_body_within x16.Rest 0 20000 _ hm) en43 (fun x31 hm => ?_) (hw := .take 4 false 52 _ (ntF hb30) rfl rfl rfl)
 refine U.pg 1 4 false 52 (ntF hb30) T rfl rfl rfl rfl ?_
 refine U.r rfl (.none rfl) rfl rfl (by exact Rd.pk' rfl rfl (ntF hb30) rfl) ?_
 refine U.ps 1 T rfl ?_
 refine hm.cs (fun hb32 hm => ?_) (fun hb32 hm => ?_)
 refine U.pg 2 10 false 58 (ntF hb32) T rfl rfl rfl rfl ?_
 refine U.k (T_body_within x16.Mute 0 20000 _ hm) en43 (fun x33 hm => ?_) (hw := .take 10 false 58 _ (ntF hb32) rfl rfl rfl)
 refine U.pg 1 10 false 58 (ntF hb32) T rfl rfl rfl rfl ?_
 refine U.r rfl (.none rfl) rfl rfl (by exact Rd.pk' rfl rfl (ntF hb32) rfl) ?_
 refine U.done ?_
 exact St.wa (idR 4) (hJ28 _ hm)
 refine U.sks 4 10 false 58 (ntT hb32) rfl rfl rfl ?_
 refine U.r rfl (.none rfl) rfl rfl (by exact Rd.pk rfl rfl (ntT hb32) rfl) ?_
 refine U.done ?_
 exact St.wa (idR 4) (hJ28 _ hm)
 refine U.sks 4 4 false 52 (ntT hb30) rfl rfl rfl ?_
 refine U.r rfl (.none rfl) rfl rfl (by exact Rd.pk rfl rfl (ntT hb30) rfl) ?_
 refine U.ps 1 T rfl ?_
 refine U.sks 4 10 false 58 rfl rfl rfl rfl ?_
 refine U.pk rfl ?_
 refine U.done ?_
 exact St.wa (idR 4) (hJ28 _ hm)
 refine U.start ?_
 refine U.ps 4 T rfl ?_
 refine hm.cs (fun hb19 hm => ?_) (fun hb19 hm => ?_)
 refine U.sks 7 3 false 19 hb19 rfl rfl rfl ?_
 refine U.pk hb19 ?_
 refine U.ps 1 T rfl ?_
 refine U.sks 8 12 false 28 rfl rfl rfl rfl ?_
 refine U.pk rfl ?_
 refine U.ps 1 T rfl ?_
 refine U.sks 8 22 false 38 rfl rfl rfl rfl ?_
 refine U.pk rfl ?_
 refine U.done ?_
 exact St.wa (idR 4) (hJ18 _ hm)
 refine U.pg 7 3 false 19 hb19 T rfl rfl rfl rfl ?_
 refine U.pk' hb19 ?_
 refine U.ps 1 T rfl ?_
 refine hm.cs (fun hb20 hm => ?_) (fun hb20 hm => ?_)
 refine U.sks 8 12 false 28 hb20 rfl rfl rfl ?_
 refine U.pk hb20 ?_
 refine U.ps 1 T rfl ?_
 refine U.sks 8 22 false 38 rfl rfl rfl rfl ?_
 refine U.pk rfl ?_
 refine U.done ?_
 exact St.wa (idR 4) (hJ18 _ hm)
 refine U.pg 5 12 false 28 hb20 T rfl rfl rfl rfl ?_
 obtain ⟨x21, hx21, hm⟩ := hm
 refine U.r rfl (.take 12 false 28 _ hb20 rfl rfl rfl) rfl rfl (by exact Rd.ix T rfl rfl rfl rfl rfl rfl hx21) ?_
 refine U.pg 2 12 false 28 hb20 T rfl rfl rfl rfl ?_
 refine U.pk' hb20 ?_
 refine U.ps 1 T rfl ?_
 refine hm.cs (fun hb22 hm => ?_) (fun hb22 hm => ?_)
 refine U.sks 8 22 false 38 hb22 rfl rfl rfl ?_
 refine U.pk hb22 ?_
 refine U.done ?_
 exact St.wa (idR 4) (hJ18 _ hm)
 refine U.pg 6 22 false 38 hb22 T rfl rfl rfl rfl ?_
 refine U.k (T_body_within x16.Load (-1) (w64 ((st.Shelves.length : Int) - 1)) _ hm) en43 (fun x23 hm => ?_) (hw := .take 22 false 38 _ hb22 rfl rfl rfl)
 refine U.pg 1 22 false 38 hb22 T rfl rfl rfl rfl ?_
 refine U.pk' hb22 ?_
 refine U.done ?_
 exact St.wa (idR 4) (hJ18 _ hm)
 refine C.exit (C.ex (C.ex (C.bex ?_)))
 exact St.wk (hJ8 _ hm) (Wk.mk' [] rfl rfl trivial trivial rfl)
theorem T_body_on (f : ApiFloor) (c : Int) (kinds : List Int) (post : Bool → Prop) (hm : V_body_on f c kinds post) :
    Tr Tryz.prog 47 [.agg (eApiFloor f), .i c, .sl 1 eI kinds] [] 0 (fun A H' k => ∃ y, post y ∧ A = (.b y) ∧ H' = [] ∧ k = 0) := by
 refine Tr.intro (n := 25) Tryz.func47 rfl Tryz.ntmps47 rfl (fun w0 ok F β hβ => ?_)
 unfold V_body_on at hm
 refine C.seq (U.start ?_)
 refine U.bx ?_
 refine U.pd 1 T (C.nx (C.seq ?_))
 refine C.jn (fun (x3 : Bool) => [(6, .b x3)]) (fun (x3 : Bool) => []) 0 hm (fun x3 hm => ?_) (fun J4 hm hJ4 => ?_)
 refine C.nx (C.ret ?_)
 exact C.f1 T hβ ⟨x3, hm, rfl, rfl, rfl⟩
 refine U.start ?_
 refine U.ps 3 T rfl ?_
 refine hm.cs (fun hb5 hm => ?_) (fun hb5 hm => ?_)
 refine U.pg 5 2 true 9 hb5 T rfl rfl rfl rfl ?_
 refine U.pk hb5 ?_
 refine U.ps 1 T rfl ?_
 refine hm.cs (fun hb6 hm => ?_) (fun hb6 hm => ?_)
 refine U.pg 4 9 true 16 hb6 T rfl rfl rfl rfl ?_
 obtain ⟨x7, hx7, hm⟩ := hm
 refine U.r rfl (.take 9 true 16 _ hb6 rfl rfl rfl) rfl rfl (by exact Rd.ix T rfl rfl rfl rfl rfl rfl hx7) ?_
 refine U.pg 1 9 true 16 hb6 T rfl rfl rfl rfl ?_
 refine U.k (T_slices_Contains_int_int kinds x7 _ hm) en54 (fun x8 hm => ?_) (hw := .take 9 true 16 _ hb6 rfl rfl rfl)
 refine U.pk hb6 ?_
 refine U.pd 1 T ?_
 exact St.wn (hJ4 _ hm)
 refine U.sks 7 9 true 16 hb6 rfl rfl rfl ?_
 refine U.pk' hb6 ?_
 refine U.pd 1 T ?_
 exact St.wn (hJ4 _ hm)
 refine U.sks 5 2 true 9 hb5 rfl rfl rfl ?_
 refine U.pk' hb5 ?_
 refine U.ps 1 T rfl ?_
 refine U.sks 7 9 true 16 rfl rfl rfl rfl ?_
 refine U.pk' rfl ?_
 refine U.pd 1 T ?_
 exact St.wn (hJ4 _ hm)
theorem T_body_rest (f : ApiFloor) (st : ApiState) (post : Bool → Prop) (hm : V_body_rest f st post) :
    Tr Tryz.prog 45 [.agg (eApiFloor f), .agg (eApiState st)] [] 0 (fun A H' k => ∃ y, post y ∧ A = (.b y) ∧ H' = [] ∧ k = 0) := by
 refine Tr.intro (n := 78) Tryz.func45 rfl Tryz.ntmps45 rfl (fun w0 ok F β hβ => ?_)
 unfold V_body_rest at hm
 refine C.seq (U.start ?_)
 refine U.bx ?_
 refine U.bx ?_
 refine U.pd 1 T (C.nx (C.seq (C.seq (U.start ?_))))
 refine U.pd 4 T (C.nx ?_)
 refine C.jn (fun (x5 : Unit) => [(2, .p 0 0), (3, .p 1 0)]) (fun (x5 : Unit) => [(0, .box (eApiFloor f)), (1, .box (eApiState st))]) 2 hm (fun x5 hm => ?_) (fun J6 hm hJ6 => ?_)
 refine C.nx (C.seq (C.seq (U.start ?_)))
 refine U.pd 4 T (C.nx ?_)
 refine C.jn (fun (x28 : Unit) => []) (fun (x28 : Unit) => []) 0 hm (fun x28 hm => ?_) (fun J29 hm hJ29 => ?_)
 refine C.nx (C.seq (U.start ?_))
 refine U.pd 1 T (C.nx (C.ret ?_))
 exact C.f1 T hβ ⟨true, hm, rfl, rfl, rfl⟩
 refine C.block ?_
 refine St.wk (C.loop (fun (s30 : Int) => [(2, .p 0 0), (3, .p 1 0), (42, .sl 2 eApiStuck st.Stuck), (43, .i (st.Stuck.length : Int)), (44, .i s30)]) (fun (s30 : Int) => [(0, .box (eApiFloor f)), (1, .box (eApiState st))]) hm (fun s30 Y31 hm => ?_)) (Wk.a (idR 2))
 refine C.seq (U.start ?_)
 refine U.pd 1 T (C.nx (C.seq ?_))
 refine C.ite rfl hm (fun hb34 hm => ?_) (fun hb34 hm => ?_)
 refine C.skip (C.nx (C.seq (C.block (C.seq (U.start ?_)))))
 refine U.ps 1 T rfl ?_
 obtain ⟨x37, hx37, hm⟩ := hm
 refine U.r rfl (.none rfl) rfl rfl (by exact Rd.ix T rfl rfl rfl rfl rfl rfl hx37) ?_
 refine U.ps 1 T rfl ?_
 refine U.e1 rfl (.none rfl) (by exact Eff1.al T rfl rfl rfl rfl) ?_
 refine U.ps 1 T rfl ?_
 refine U.e1 rfl (.none rfl) (by exact Eff1.st T rfl rfl rfl rfl rfl rfl rfl rfl rfl rfl) ?_
 refine U.done (C.nx (C.seq ?_))
 refine C.jn (fun (x38 : Bool) => [(2, .p 0 0), (3, .p 1 0), (42, .sl 2 eApiStuck st.Stuck), (43, .i (st.Stuck.length : Int)), (44, .i s30), (76, .b x38)]) (fun (x38 : Bool) => [(0, .box (eApiFloor f)), (1, .box (eApiState st))]) 2 hm (fun x38 hm => ?_) (fun J39 hm hJ39 => ?_)
 refine C.nx ?_
 refine C.ite rfl hm (fun hb46 hm => ?_) (fun hb46 hm => ?_)
 refine C.seq (U.start ?_)
 refine U.pd 1 T (C.nx (C.ret (C.brt (C.rt (C.rt (C.brt (C.rt ?_)))))))
 exact C.f1 T hβ ⟨false, hm, rfl, rfl, rfl⟩
 refine C.skip (C.bnx (C.nx (U.start ?_)))
 refine U.pd 2 T (C.nx ?_)
 exact St.wk (C.next hm) (Wk.a (idR 2))
 refine D.beg 9999 [0, 1, 2] [] mix rfl rfl (by kernel_rfl) (by repeat (first | exact NoPanicQ.body | exact NoPanicQ.rnd | refine NoPanicQ.th ?_ | refine NoPanicQ.blk ?_ | refine NoPanicQ.ng ?_)) (fun hQ hS ws M' => ?_)
 refine D.ps 3 [(0, []), (1, []), (2, [])] rfl hQ hS T rfl rfl (by kernel_rfl) ?_
 refine D.e1 3 rfl (.none rfl) (by exact Eff1.bs T (enc := eI) (xs := ([6] : List Int)) rfl rfl rfl rfl rfl rfl rfl rfl rfl rfl (fun _ _ => rfl) rfl rfl) (by kernel_rfl) rfl rfl ?_
 refine D.k 4 (T_body_on f x37.Cell ([6] : List Int) _ hm) en47 (fun x40 hm => ?_)
 refine D.ps 2 [(5, []), (6, [])] rfl hQ hS T rfl rfl (by kernel_rfl) ?_
 refine hm.cs (fun hb41 hm => ?_) (fun hb41 hm => ?_)
 refine D.q 7 [] hQ hS rfl (.take 6 false 55 _ (ntF hb41) rfl rfl rfl) rfl rfl (by exact Rd.p T rfl) rfl (by kernel_rfl) ?_
 refine D.q 8 [] hQ hS rfl (.take 6 false 55 _ (ntF hb41) rfl rfl rfl) rfl rfl (by exact Rd.l T rfl rfl rfl) rfl (by kernel_rfl) ?_
 refine D.k 9 (T_body_within x37.Left 1 20000 _ hm) en43 (fun x42 hm => ?_) (hw := .take 6 false 55 _ (ntF hb41) rfl rfl rfl)
 refine D.q 10 [] hQ hS rfl (.take 6 false 55 _ (ntF hb41) rfl rfl rfl) rfl rfl (by exact Rd.p T rfl) rfl (by kernel_rfl) ?_
 refine D.q 11 [] hQ hS rfl (.none rfl) rfl rfl (by exact Rd.pk' rfl rfl (ntF hb41) rfl) rfl (by kernel_rfl) ?_
 refine D.ps 1 [(12, [])] rfl hQ hS T rfl rfl (by kernel_rfl) ?_
 refine hm.cs (fun hb43 hm => ?_) (fun hb43 hm => ?_)
 refine D.q 13 [] hQ hS rfl (.take 12 false 61 _ (ntF hb43) rfl rfl rfl) rfl rfl (by exact Rd.p T rfl) rfl (by kernel_rfl) ?_
 refine D.q 14 [] hQ hS rfl (.take 12 false 61 _ (ntF hb43) rfl rfl rfl) rfl rfl (by exact Rd.p T rfl) rfl (by kernel_rfl) ?_
 refine D.q 15 [] hQ hS rfl (.take 12 false 61 _ (ntF hb43) rfl rfl rfl) rfl rfl (by exact Rd.p T rfl) rfl (by kernel_rfl) ?_
 refine hm.cs (fun hb44 hm => ?_) (fun hb44 hm => ?_)
 refine D.q 16 [] hQ hS rfl (.take 15 true 64 _ hb44 rfl rfl rfl) rfl rfl (by exact Rd.p T rfl) rfl (by kernel_rfl) ?_
 refine D.q 17 [] hQ hS rfl (.take 15 true 64 _ hb44 rfl rfl rfl) rfl rfl (by exact Rd.l T rfl rfl rfl) rfl (by kernel_rfl) ?_
 refine D.q 18 [] hQ hS rfl (.take 15 true 64 _ hb44 rfl rfl rfl) rfl rfl (by exact Rd.p T rfl) rfl (by kernel_rfl) ?_
 refine D.q 19 [] hQ hS rfl (.take 15 true 64 _ hb44 rfl rfl rfl) rfl rfl (by exact Rd.l T rfl rfl rfl) rfl (by kernel_rfl) ?_
 refine D.q 20 [] hQ hS rfl (.take 15 true 64 _ hb44 rfl rfl rfl) rfl rfl (by exact Rd.p T rfl) rfl (by kernel_rfl) ?_
 refine D.q 21 [] hQ hS rfl (.take 15 true 64 _ hb44 rfl rfl rfl) rfl rfl (by exact Rd.p T rfl) rfl (by kernel_rfl) ?_
 obtain ⟨x45, hx45, hm⟩ := hm
 refine D.q 22 [] hQ hS rfl (.take 15 true 64 _ hb44 rfl rfl rfl) rfl rfl (by exact Rd.ix T rfl rfl rfl rfl rfl rfl hx45) rfl (by kernel_rfl) ?_
 refine D.q 23 [] hQ hS rfl (.take 15 true 64 _ hb44 rfl rfl rfl) rfl rfl (by exact Rd.p T rfl) rfl (by kernel_rfl) ?_
 refine D.q 24 [] hQ hS rfl (.take 15 true 64 _ hb44 rfl rfl rfl) rfl rfl (by exact Rd.l T rfl rfl rfl) rfl (by kernel_rfl) ?_
 refine D.q 25 [] hQ hS rfl (.take 15 true 64 _ hb44 rfl rfl rfl) rfl rfl (by exact Rd.p T rfl) rfl (by kernel_rfl) ?_
 refine D.q 26 [] hQ hS rfl (.take 12 false 61 _ (ntF hb43) rfl rfl rfl) rfl rfl (by exact Rd.pk rfl rfl hb44 rfl) rfl (by kernel_rfl) ?_
 refine D.q 27 [] hQ hS rfl (.none rfl) rfl rfl (by exact Rd.pk' rfl rfl (ntF hb43) rfl) rfl (by kernel_rfl) ?_
 refine D.done (by kernel_rfl) ?_
 exact St.wa (idR 2) (hJ39 _ hm)
 refine D.sx 16 [] hQ hS (.skip 15 true 64 _ hb44 rfl rfl rfl) ?_
 refine D.sx 17 [] hQ hS (.skip 15 true 64 _ hb44 rfl rfl rfl) ?_
 refine D.sx 18 [] hQ hS (.skip 15 true 64 _ hb44 rfl rfl rfl) ?_
 refine D.sx 19 [] hQ hS (.skip 15 true 64 _ hb44 rfl rfl rfl) ?_
 refine D.sx 20 [] hQ hS (.skip 15 true 64 _ hb44 rfl rfl rfl) ?_
 refine D.sx 21 [] hQ hS (.skip 15 true 64 _ hb44 rfl rfl rfl) ?_
 refine D.sx 22 [] hQ hS (.skip 15 true 64 _ hb44 rfl rfl rfl) ?_
 refine D.sx 23 [] hQ hS (.skip 15 true 64 _ hb44 rfl rfl rfl) ?_
 refine D.sx 24 [] hQ hS (.skip 15 true 64 _ hb44 rfl rfl rfl) ?_
 refine D.sx 25 [] hQ hS (.skip 15 true 64 _ hb44 rfl rfl rfl) ?_
 refine D.q 26 [] hQ hS rfl (.take 12 false 61 _ (ntF hb43) rfl rfl rfl) rfl rfl (by exact Rd.pk' rfl rfl hb44 rfl) rfl (by kernel_rfl) ?_
 refine D.q 27 [] hQ hS rfl (.none rfl) rfl rfl (by exact Rd.pk' rfl rfl (ntF hb43) rfl) rfl (by kernel_rfl) ?_
 refine D.done (by kernel_rfl) ?_
 exact St.wa (idR 2) (hJ39 _ hm)
 refine D.sx 13 [] hQ hS (.skip 12 false 61 _ (ntT hb43) rfl rfl rfl) ?_
 refine D.sx 14 [] hQ hS (.skip 12 false 61 _ (ntT hb43) rfl rfl rfl) ?_
 refine D.sx 15 [] hQ hS (.skip 12 false 61 _ (ntT hb43) rfl rfl rfl) ?_
 refine D.sx 16 [] hQ hS (.und 15 true 64 rfl rfl rfl) ?_
 refine D.sx 17 [] hQ hS (.und 15 true 64 rfl rfl rfl) ?_
 refine D.sx 18 [] hQ hS (.und 15 true 64 rfl rfl rfl) ?_
 refine D.sx 19 [] hQ hS (.und 15 true 64 rfl rfl rfl) ?_
 refine D.sx 20 [] hQ hS (.und 15 true 64 rfl rfl rfl) ?_
 refine D.sx 21 [] hQ hS (.und 15 true 64 rfl rfl rfl) ?_
 refine D.sx 22 [] hQ hS (.und 15 true 64 rfl rfl rfl) ?_
 refine D.sx 23 [] hQ hS (.und 15 true 64 rfl rfl rfl) ?_
 refine D.sx 24 [] hQ hS (.und 15 true 64 rfl rfl rfl) ?_
 refine D.sx 25 [] hQ hS (.und 15 true 64 rfl rfl rfl) ?_
 refine D.sx 26 [] hQ hS (.skip 12 false 61 _ (ntT hb43) rfl rfl rfl) ?_
 refine D.q 27 [] hQ hS rfl (.none rfl) rfl rfl (by exact Rd.pk rfl rfl (ntT hb43) rfl) rfl (by kernel_rfl) ?_
 refine D.done (by kernel_rfl) ?_
 exact St.wa (idR 2) (hJ39 _ hm)
 refine D.sx 7 [] hQ hS (.skip 6 false 55 _ (ntT hb41) rfl rfl rfl) ?_
 refine D.sx 8 [] hQ hS (.skip 6 false 55 _ (ntT hb41) rfl rfl rfl) ?_
 refine D.sx 9 [] hQ hS (.skip 6 false 55 _ (ntT hb41) rfl rfl rfl) ?_
 refine D.sx 10 [] hQ hS (.skip 6 false 55 _ (ntT hb41) rfl rfl rfl) ?_
 refine D.q 11 [] hQ hS rfl (.none rfl) rfl rfl (by exact Rd.pk rfl rfl (ntT hb41) rfl) rfl (by kernel_rfl) ?_
 refine D.ps 1 [(12, [])] rfl hQ hS T rfl rfl (by kernel_rfl) ?_
 refine D.sx 13 [] hQ hS (.skip 12 false 61 _ rfl rfl rfl rfl) ?_
 refine D.sx 14 [] hQ hS (.skip 12 false 61 _ rfl rfl rfl rfl) ?_
 refine D.sx 15 [] hQ hS (.skip 12 false 61 _ rfl rfl rfl rfl) ?_
 refine D.sx 16 [] hQ hS (.und 15 true 64 rfl rfl rfl) ?_
 refine D.sx 17 [] hQ hS (.und 15 true 64 rfl rfl rfl) ?_
 refine D.sx 18 [] hQ hS (.und 15 true 64 rfl rfl rfl) ?_
 refine D.sx 19 [] hQ hS (.und 15 true 64 rfl rfl rfl) ?_
 refine D.sx 20 [] hQ hS (.und 15 true 64 rfl rfl rfl) ?_
 refine D.sx 21 [] hQ hS (.und 15 true 64 rfl rfl rfl) ?_
 refine D.sx 22 [] hQ hS (.und 15 true 64 rfl rfl rfl) ?_
 refine D.sx 23 [] hQ hS (.und 15 true 64 rfl rfl rfl) ?_
 refine D.sx 24 [] hQ hS (.und 15 true 64 rfl rfl rfl) ?_
 refine D.sx 25 [] hQ hS (.und 15 true 64 rfl rfl rfl) ?_
 refine D.sx 26 [] hQ hS (.skip 12 false 61 _ rfl rfl rfl rfl) ?_
 refine D.q 27 [] hQ hS rfl (.none rfl) rfl rfl (by exact Rd.pk rfl rfl rfl rfl) rfl (by kernel_rfl) ?_
 refine D.done (by kernel_rfl) ?_
 exact St.wa (idR 2) (hJ39 _ hm)
 refine C.exit (C.ex (C.ex (C.bex ?_)))
 exact St.wk (hJ29 _ hm) (Wk.mk' [] rfl rfl trivial trivial rfl)
 refine C.block ?_
 refine St.wk (C.loop (fun (s7 : Int) => [(2, .p 0 0), (3, .p 1 0), (10, .sl 1 eI st.Dead), (11, .i (st.Dead.length : Int)), (12, .i s7)]) (fun (s7 : Int) => [(0, .box (eApiFloor f)), (1, .box (eApiState st))]) hm (fun s7 Y8 hm => ?_)) (Wk.a (idR 2))
 refine C.seq (U.start ?_)
 refine U.pd 1 T (C.nx (C.seq ?_))
 refine C.ite rfl hm (fun hb11 hm => ?_) (fun hb11 hm => ?_)
 refine C.skip (C.nx (C.seq (C.block (C.seq (U.start ?_)))))
 refine U.ps 1 T rfl ?_
 obtain ⟨x14, hx14, hm⟩ := hm
 refine U.r rfl (.none rfl) rfl rfl (by exact Rd.ix T rfl rfl rfl rfl rfl rfl hx14) ?_
 refine U.pd 3 T (C.nx (C.seq ?_))
 refine C.jn (fun (x15 : Bool) => [(2, .p 0 0), (3, .p 1 0), (10, .sl 1 eI st.Dead), (11, .i (st.Dead.length : Int)), (12, .i s7), (39, .b x15)]) (fun (x15 : Bool) => [(0, .box (eApiFloor f)), (1, .box (eApiState st))]) 2 hm (fun x15 hm => ?_) (fun J16 hm hJ16 => ?_)
 refine C.nx ?_
 refine C.ite rfl hm (fun hb21 hm => ?_) (fun hb21 hm => ?_)
 refine C.seq (U.start ?_)
 refine U.pd 1 T (C.nx (C.ret (C.brt (C.rt (C.rt (C.brt (C.rt ?_)))))))
 exact C.f1 T hβ ⟨false, hm, rfl, rfl, rfl⟩
 refine C.skip (C.bnx (C.nx (U.start ?_)))
 refine U.pd 2 T (C.nx ?_)
 exact St.wk (C.next hm) (Wk.a (idR 2))
 refine U.start ?_
 refine U.ps 3 T rfl ?_
 refine hm.cs (fun hb17 hm => ?_) (fun hb17 hm => ?_)
 refine U.sks 5 2 false 19 hb17 rfl rfl rfl ?_
 refine U.pk hb17 ?_
 refine U.ps 1 T rfl ?_
 refine U.sks 3 9 false 26 rfl rfl rfl rfl ?_
 refine U.sku 8 12 true 29 rfl rfl rfl ?_
 refine U.sks 1 9 false 26 rfl rfl rfl rfl ?_
 refine U.pk rfl ?_
 refine U.done ?_
 exact St.wa (idR 2) (hJ16 _ hm)
 refine U.pg 5 2 false 19 hb17 T rfl rfl rfl rfl ?_
 refine U.pk' hb17 ?_
 refine U.ps 1 T rfl ?_
 refine hm.cs (fun hb18 hm => ?_) (fun hb18 hm => ?_)
 refine U.sks 3 9 false 26 hb18 rfl rfl rfl ?_
 refine U.sku 8 12 true 29 rfl rfl rfl ?_
 refine U.sks 1 9 false 26 hb18 rfl rfl rfl ?_
 refine U.pk hb18 ?_
 refine U.done ?_
 exact St.wa (idR 2) (hJ16 _ hm)
 refine U.pg 3 9 false 26 hb18 T rfl rfl rfl rfl ?_
 refine hm.cs (fun hb19 hm => ?_) (fun hb19 hm => ?_)
 refine U.pg 5 12 true 29 hb19 T rfl rfl rfl rfl ?_
 obtain ⟨x20, hx20, hm⟩ := hm
 refine U.r rfl (.take 12 true 29 _ hb19 rfl rfl rfl) rfl rfl (by exact Rd.ix T rfl rfl rfl rfl rfl rfl hx20) ?_
 refine U.pg 2 12 true 29 hb19 T rfl rfl rfl rfl ?_
 refine U.r rfl (.take 9 false 26 _ hb18 rfl rfl rfl) rfl rfl (by exact Rd.pk rfl rfl hb19 rfl) ?_
 refine U.pk' hb18 ?_
 refine U.done ?_
 exact St.wa (idR 2) (hJ16 _ hm)
 refine U.sks 8 12 true 29 hb19 rfl rfl rfl ?_
 refine U.r rfl (.take 9 false 26 _ hb18 rfl rfl rfl) rfl rfl (by exact Rd.pk' rfl rfl hb19 rfl) ?_
 refine U.pk' hb18 ?_
 refine U.done ?_
 exact St.wa (idR 2) (hJ16 _ hm)
 refine C.exit (C.ex (C.ex (C.bex ?_)))
 exact St.wa (idR 2) (hJ6 _ hm)
theorem T_body_Carrier_1 (r : ApiRobot) (c0 : Int) (post : Bool → Prop) (hm : V_body_Carrier_1 r c0 post) :
    Tr Tryz.prog 83 [.agg (eApiRobot r), .rp [.i c0]] [] 0 (fun A H' k => ∃ y, post y ∧ A = (.b y) ∧ H' = [] ∧ k = 0) := by
 refine Tr.intro (n := 8) Tryz.func83 rfl Tryz.ntmps83 rfl (fun w0 ok F β hβ => ?_)
 unfold V_body_Carrier_1 at hm
 refine C.seq (U.start ?_)
 refine U.bx ?_
 refine U.pd 1 T (C.nx (C.seq (U.start ?_)))
 refine U.pd 5 T (C.nx (C.ret ?_))
 exact C.f1 T hβ ⟨(r.Load == c0), hm, rfl, rfl, rfl⟩
theorem T_slices_IndexFunc_api_Robot_api_Robot__body_Carrier_1 (s_1 : List ApiRobot) (f_c0 : Int) (post : Int → Prop) (hm : V_slices_IndexFunc_api_Robot_api_Robot__body_Carrier_1 s_1 f_c0 post) :
    Tr Tryz.prog 82 [.sl 6 eApiRobot s_1, .fn (.func 83) [] [.rp [.i f_c0]]] [] 0 (fun A H' k => ∃ y, post y ∧ A = (.i y) ∧ H' = [] ∧ k = 0) := by
 refine Tr.intro (n := 19) Tryz.func82 rfl Tryz.ntmps82 rfl (fun w0 ok F β hβ => ?_)
 unfold V_slices_IndexFunc_api_Robot_api_Robot__body_Carrier_1 at hm
 refine C.seq (U.start ?_)
 refine U.pd 1 T (C.nx (C.seq (C.seq (U.start ?_))))
 refine U.pd 3 T (C.nx ?_)
 refine C.jn (fun (x5 : Unit) => []) (fun (x5 : Unit) => []) 0 hm (fun x5 hm => ?_) (fun J6 hm hJ6 => ?_)
 refine C.nx (C.seq (U.start ?_))
 refine U.pd 1 T (C.nx (C.ret ?_))
 exact C.f1 T hβ ⟨(-1), hm, rfl, rfl, rfl⟩
 refine C.block ?_
 refine St.wk (C.loop (fun (s7 : Int) => [(0, .sl 6 eApiRobot s_1), (1, .fn (.func 83) [] [.rp [.i f_c0]]), (7, .i (s_1.length : Int)), (8, .i s7)]) (fun (s7 : Int) => []) hm (fun s7 Y8 hm => ?_)) (Wk.e)
 refine C.seq (U.start ?_)
 refine U.pd 1 T (C.nx (C.seq ?_))
 refine C.ite rfl hm (fun hb11 hm => ?_) (fun hb11 hm => ?_)
 refine C.skip (C.nx (C.seq (C.block (C.seq (U.start ?_)))))
 refine U.pd 2 T (C.nx (C.seq (U.start ?_)))
 refine U.ps 3 T rfl ?_
 obtain ⟨x16, hx16, hm⟩ := hm
 refine U.r rfl (.none rfl) rfl rfl (by exact Rd.ix T rfl rfl rfl rfl rfl rfl hx16) ?_
 refine U.ps 1 T rfl ?_
 refine U.k (T_body_Carrier_1 x16 f_c0 _ hm) en83 (fun x17 hm => ?_)
 refine U.done (C.nx ?_)
 refine C.ite rfl hm (fun hb18 hm => ?_) (fun hb18 hm => ?_)
 refine C.seq (U.start ?_)
 refine U.pd 2 T (C.nx (C.ret (C.brt (C.rt (C.rt (C.brt (C.rt ?_)))))))
 exact C.f1 T hβ ⟨s7, hm, rfl, rfl, rfl⟩
 refine C.skip (C.bnx (C.nx (U.start ?_)))
 refine U.pd 2 T (C.nx ?_)
 exact St.wk (C.next hm) (Wk.e)
 refine C.exit (C.ex (C.ex (C.bex ?_)))
 exact St.wk (hJ6 _ hm) (Wk.mk' [] rfl rfl trivial trivial rfl)
theorem T_body_Carrier (st : ApiState) (shelf : Int) (post : Int → Prop) (hm : V_body_Carrier st shelf post) :
    Tr Tryz.prog 46 [.agg (eApiState st), .i shelf] [] 0 (fun A H' k => ∃ y, post y ∧ A = (.i y) ∧ H' = [] ∧ k = 0) := by
 refine Tr.intro (n := 11) Tryz.func46 rfl Tryz.ntmps46 rfl (fun w0 ok F β hβ => ?_)
 unfold V_body_Carrier at hm
 refine C.seq (U.start ?_)
 refine U.bx ?_
 refine U.bx ?_
 refine U.pd 1 T (C.nx (C.seq (C.seq (U.start ?_))))
 refine U.pd 2 T (C.nx ?_)
 refine C.ite rfl hm (fun hb5 hm => ?_) (fun hb5 hm => ?_)
 refine C.seq (U.start ?_)
 refine U.pd 1 T (C.nx (C.ret (C.rt ?_)))
 exact C.f1 T hβ ⟨(-1), hm, rfl, rfl, rfl⟩
 refine C.skip (C.nx (C.seq (U.start ?_)))
 refine U.ps 3 T rfl ?_
 refine U.k (T_slices_IndexFunc_api_Robot_api_Robot__body_Carrier_1 st.Robots shelf _ hm) en82 (fun x10 hm => ?_)
 refine U.pd 1 T (C.nx (C.ret ?_))
 exact C.f1 T hβ ⟨x10, hm, rfl, rfl, rfl⟩
theorem T_body_Low (c : Int) (post : Int → Prop) (hm : V_body_Low c post) :
    Tr Tryz.prog 127 [.i c] [] 0 (fun A H' k => ∃ y, post y ∧ A = (.i y) ∧ H' = [] ∧ k = 0) := by
 refine Tr.intro (n := 5) Tryz.func127 rfl Tryz.ntmps127 rfl (fun w0 ok F β hβ => ?_)
 unfold V_body_Low at hm
 refine C.seq (U.start ?_)
 refine U.pd 1 T (C.nx (C.seq (U.start ?_)))
 refine U.pd 3 T (C.nx (C.ret ?_))
 exact C.f1 T hβ ⟨w64 (2 * c), hm, rfl, rfl, rfl⟩
theorem T_body_High (c : Int) (post : Int → Prop) (hm : V_body_High c post) :
    Tr Tryz.prog 126 [.i c] [] 0 (fun A H' k => ∃ y, post y ∧ A = (.i y) ∧ H' = [] ∧ k = 0) := by
 refine Tr.intro (n := 6) Tryz.func126 rfl Tryz.ntmps126 rfl (fun w0 ok F β hβ => ?_)
 unfold V_body_High at hm
 refine C.seq (U.start ?_)
 refine U.pd 1 T (C.nx (C.seq (U.start ?_)))
 refine U.pd 4 T (C.nx (C.ret ?_))
 exact C.f1 T hβ ⟨w64 ((w64 (2 * c)) + 1), hm, rfl, rfl, rfl⟩
theorem T_body_at (r : ApiRobot) (c : Int) (post : (List Int) → Prop) (hm : V_body_at r c post) :
    Tr Tryz.prog 125 [.agg (eApiRobot r), .i c] [] 0 (fun A H' k => ∃ y, post y ∧ A = (.o 0) ∧ H' = [(0, .val (.os 1 eI y))] ∧ k = 1) := by
 refine Tr.intro (n := 16) Tryz.func125 rfl Tryz.ntmps125 rfl (fun w0 ok F β hβ => ?_)
 unfold V_body_at at hm
 refine C.seq (U.start ?_)
 refine U.bx ?_
 refine U.pd 1 T (C.nx (C.seq (C.seq (U.start ?_))))
 refine U.pd 3 T (C.nx ?_)
 refine C.ite rfl hm (fun hb5 hm => ?_) (fun hb5 hm => ?_)
 refine C.seq (U.start ?_)
 refine U.ps 1 T rfl ?_
 refine U.k (T_body_Low c _ hm) en127 (fun x8 hm => ?_)
 refine U.ps 1 T rfl ?_
 refine U.k (T_body_High c _ hm) en126 (fun x9 hm => ?_)
 refine U.e1 rfl (.none rfl) (by exact Eff1.bs T (enc := eI) (xs := ([x8, x9] : List Int)) rfl rfl rfl rfl rfl rfl rfl rfl rfl rfl (fun _ _ => rfl) rfl rfl) ?_
 refine U.pd 1 T (C.nx (C.ret (C.rt ?_)))
 exact C.g1 [some 1] T hβ ⟨([x8, x9] : List Int), hm, rfl, rfl, rfl⟩
 refine C.skip (C.nx (C.seq (U.start ?_)))
 refine U.ps 1 T rfl ?_
 refine U.k (T_body_Low c _ hm) en127 (fun x12 hm => ?_)
 refine U.e1 rfl (.none rfl) (by exact Eff1.bs T (enc := eI) (xs := ([x12] : List Int)) rfl rfl rfl rfl rfl rfl rfl rfl rfl rfl (fun _ _ => rfl) rfl rfl) ?_
 refine U.pd 1 T (C.nx (C.ret ?_))
 exact C.g1 [some 1] T hβ ⟨([x12] : List Int), hm, rfl, rfl, rfl⟩
theorem T_body_Robot (st : ApiState) (i : Int) (post : (List Int) → Prop) (hm : V_body_Robot st i post) :
    Tr Tryz.prog 86 [.agg (eApiState st), .i i] [] 0 (fun A H' k => ∃ y, post y ∧ A = (.o 0) ∧ H' = [(0, .val (.os 1 eI y))] ∧ k = 1) := by
 refine Tr.intro (n := 26) Tryz.func86 rfl Tryz.ntmps86 rfl (fun w0 ok F β hβ => ?_)
 unfold V_body_Robot at hm
 refine C.seq (U.start ?_)
 refine U.bx ?_
 refine U.pd 1 T (C.nx (C.seq (C.seq ?_)))
 refine C.jn (fun (x3 : Bool) => [(1, .i i), (2, .p 0 0), (13, .b x3)]) (fun (x3 : Bool) => [(0, .box (eApiState st))]) 1 hm (fun x3 hm => ?_) (fun J4 hm hJ4 => ?_)
 refine C.nx ?_
 refine C.ite rfl hm (fun hb6 hm => ?_) (fun hb6 hm => ?_)
 refine C.seq (U.start ?_)
 refine U.pd 1 T (C.nx (C.ret (C.rt ?_)))
 exact C.g1 [none] T hβ ⟨[], hm, rfl, rfl, rfl⟩
 refine C.skip (C.nx (C.seq ?_))
 refine D.beg 9999 [0] [] mix rfl rfl (by kernel_rfl) (by repeat (first | exact NoPanicQ.body | exact NoPanicQ.rnd | refine NoPanicQ.th ?_ | refine NoPanicQ.blk ?_ | refine NoPanicQ.ng ?_)) (fun hQ hS ws M' => ?_)
 refine D.ps 3 [(0, []), (1, []), (2, [])] rfl hQ hS T rfl rfl (by kernel_rfl) ?_
 obtain ⟨x11, hx11, hm⟩ := hm
 refine D.q 3 [] hQ hS rfl (.none rfl) rfl rfl (by exact Rd.ix T rfl rfl rfl rfl rfl rfl hx11) rfl (by kernel_rfl) ?_
 refine D.ps 4 [(4, []), (5, []), (6, []), (7, [])] rfl hQ hS T rfl rfl (by kernel_rfl) ?_
 refine D.q 8 [] hQ hS rfl (.none rfl) rfl rfl (by exact Rd.ix T rfl rfl rfl rfl rfl rfl hx11) rfl (by kernel_rfl) ?_
 refine D.ps 2 [(9, []), (10, [])] rfl hQ hS T rfl rfl (by kernel_rfl) ?_
 refine D.k 11 (T_body_at x11 x11.Cell _ hm) en125 (fun x12 hm => ?_)
 refine D.ps 1 [(12, [])] rfl hQ hS T rfl rfl (by kernel_rfl) ?_
 refine D.done (by kernel_rfl) ?_
 refine C.nx (C.ret ?_)
 exact C.g1 [some 1] T hβ ⟨x12, hm, rfl, rfl, rfl⟩
 refine U.start ?_
 refine U.ps 3 T rfl ?_
 refine hm.cs (fun hb5 hm => ?_) (fun hb5 hm => ?_)
 refine U.sks 5 2 false 7 hb5 rfl rfl rfl ?_
 refine U.pk hb5 ?_
 refine U.done ?_
 exact St.wa [some 0] (hJ4 _ hm)
 refine U.pg 5 2 false 7 hb5 T rfl rfl rfl rfl ?_
 refine U.pk' hb5 ?_
 refine U.done ?_
 exact St.wa [some 0] (hJ4 _ hm)
theorem T_body_Shelf (st : ApiState) (s_1 : Int) (post : (List Int) → Prop) (hm : V_body_Shelf st s_1 post) :
    Tr Tryz.prog 87 [.agg (eApiState st), .i s_1] [] 0 (fun A H' k => ∃ y, post y ∧ A = (.o 0) ∧ H' = [(0, .val (.os 1 eI y))] ∧ k = 1) := by
 refine Tr.intro (n := 27) Tryz.func87 rfl Tryz.ntmps87 rfl (fun w0 ok F β hβ => ?_)
 unfold V_body_Shelf at hm
 refine C.seq (U.start ?_)
 refine U.bx ?_
 refine U.pd 1 T (C.nx (C.seq (C.seq ?_)))
 refine C.jn (fun (x3 : Bool) => [(1, .i s_1), (2, .p 0 0), (19, .b x3)]) (fun (x3 : Bool) => [(0, .box (eApiState st))]) 1 hm (fun x3 hm => ?_) (fun J4 hm hJ4 => ?_)
 refine C.nx ?_
 refine C.ite rfl hm (fun hb8 hm => ?_) (fun hb8 hm => ?_)
 refine C.seq (U.start ?_)
 refine U.pd 1 T (C.nx (C.ret (C.rt ?_)))
 exact C.g1 [none] T hβ ⟨[], hm, rfl, rfl, rfl⟩
 refine C.skip (C.nx (C.seq (U.start ?_)))
 refine U.ps 3 T rfl ?_
 obtain ⟨x13, hx13, hm⟩ := hm
 refine U.r rfl (.none rfl) rfl rfl (by exact Rd.ix T rfl rfl rfl rfl rfl rfl hx13) ?_
 refine U.ps 1 T rfl ?_
 refine U.k (T_body_High x13 _ hm) en126 (fun x14 hm => ?_)
 refine U.e1 rfl (.none rfl) (by exact Eff1.bs T (enc := eI) (xs := ([x14] : List Int)) rfl rfl rfl rfl rfl rfl rfl rfl rfl rfl (fun _ _ => rfl) rfl rfl) ?_
 refine U.pd 1 T (C.nx (C.ret ?_))
 exact C.g1 [some 1] T hβ ⟨([x14] : List Int), hm, rfl, rfl, rfl⟩
 refine U.start ?_
 refine U.ps 3 T rfl ?_
 refine hm.cs (fun hb5 hm => ?_) (fun hb5 hm => ?_)
 refine U.sks 5 2 false 7 hb5 rfl rfl rfl ?_
 refine U.pk hb5 ?_
 refine U.ps 1 T rfl ?_
 refine U.sks 4 9 false 14 rfl rfl rfl rfl ?_
 refine U.pk rfl ?_
 refine U.done ?_
 exact St.wa [some 0] (hJ4 _ hm)
 refine U.pg 5 2 false 7 hb5 T rfl rfl rfl rfl ?_
 refine U.pk' hb5 ?_
 refine U.ps 1 T rfl ?_
 refine hm.cs (fun hb6 hm => ?_) (fun hb6 hm => ?_)
 refine U.sks 4 9 false 14 hb6 rfl rfl rfl ?_
 refine U.pk hb6 ?_
 refine U.done ?_
 exact St.wa [some 0] (hJ4 _ hm)
 refine U.pg 2 9 false 14 hb6 T rfl rfl rfl rfl ?_
 refine U.k (T_body_Carrier st s_1 _ hm) en46 (fun x7 hm => ?_) (hw := .take 9 false 14 _ hb6 rfl rfl rfl)
 refine U.pg 1 9 false 14 hb6 T rfl rfl rfl rfl ?_
 refine U.pk' hb6 ?_
 refine U.done ?_
 exact St.wa [some 0] (hJ4 _ hm)
theorem T_body_Person (st : ApiState) (p : Int) (post : (List Int) → Prop) (hm : V_body_Person st p post) :
    Tr Tryz.prog 88 [.agg (eApiState st), .i p] [] 0 (fun A H' k => ∃ y, post y ∧ A = (.o 0) ∧ H' = [(0, .val (.os 1 eI y))] ∧ k = 1) := by
 refine Tr.intro (n := 27) Tryz.func88 rfl Tryz.ntmps88 rfl (fun w0 ok F β hβ => ?_)
 unfold V_body_Person at hm
 refine C.seq (U.start ?_)
 refine U.bx ?_
 refine U.pd 1 T (C.nx (C.seq (C.seq ?_)))
 refine C.jn (fun (x3 : Bool) => [(1, .i p), (2, .p 0 0), (13, .b x3)]) (fun (x3 : Bool) => [(0, .box (eApiState st))]) 1 hm (fun x3 hm => ?_) (fun J4 hm hJ4 => ?_)
 refine C.nx ?_
 refine C.ite rfl hm (fun hb6 hm => ?_) (fun hb6 hm => ?_)
 refine C.seq (U.start ?_)
 refine U.pd 1 T (C.nx (C.ret (C.rt ?_)))
 exact C.g1 [none] T hβ ⟨[], hm, rfl, rfl, rfl⟩
 refine C.skip (C.nx (C.seq ?_))
 refine D.beg 9999 [0] [] mix rfl rfl (by kernel_rfl) (by repeat (first | exact NoPanicQ.body | exact NoPanicQ.rnd | refine NoPanicQ.th ?_ | refine NoPanicQ.blk ?_ | refine NoPanicQ.ng ?_)) (fun hQ hS ws M' => ?_)
 refine D.ps 3 [(0, []), (1, []), (2, [])] rfl hQ hS T rfl rfl (by kernel_rfl) ?_
 obtain ⟨x11, hx11, hm⟩ := hm
 refine D.q 3 [] hQ hS rfl (.none rfl) rfl rfl (by exact Rd.ix T rfl rfl rfl rfl rfl rfl hx11) rfl (by kernel_rfl) ?_
 refine D.ps 4 [(4, []), (6, []), (7, []), (8, [])] rfl hQ hS T rfl rfl (by kernel_rfl) ?_
 refine D.q 9 [] hQ hS rfl (.none rfl) rfl rfl (by exact Rd.ix T rfl rfl rfl rfl rfl rfl hx11) rfl (by kernel_rfl) ?_
 refine D.ps 1 [(10, [])] rfl hQ hS T rfl rfl (by kernel_rfl) ?_
 refine D.k 5 (T_body_Low x11 _ hm) en127 (fun x12 hm => ?_)
 refine D.k 11 (T_body_High x11 _ hm) en126 (fun x13 hm => ?_)
 refine D.e1 12 rfl (.none rfl) (by exact Eff1.bs T (enc := eI) (xs := ([x12, x13] : List Int)) rfl rfl rfl rfl rfl rfl rfl rfl rfl rfl (fun _ _ => rfl) rfl rfl) (by kernel_rfl) rfl rfl ?_
 refine D.ps 1 [(13, [])] rfl hQ hS T rfl rfl (by kernel_rfl) ?_
 refine D.done (by kernel_rfl) ?_
 refine C.nx (C.ret ?_)
 exact C.g1 [some 1] T hβ ⟨([x12, x13] : List Int), hm, rfl, rfl, rfl⟩
 refine U.start ?_
 refine U.ps 3 T rfl ?_
 refine hm.cs (fun hb5 hm => ?_) (fun hb5 hm => ?_)
 refine U.sks 5 2 false 7 hb5 rfl rfl rfl ?_
 refine U.pk hb5 ?_
 refine U.done ?_
 exact St.wa [some 0] (hJ4 _ hm)
 refine U.pg 5 2 false 7 hb5 T rfl rfl rfl rfl ?_
 refine U.pk' hb5 ?_
 refine U.done ?_
 exact St.wa [some 0] (hJ4 _ hm)
theorem T_body_all (st : ApiState) (post : (List Int) → Prop) (hm : V_body_all st post) :
    Tr Tryz.prog 49 [.agg (eApiState st)] [] 0 (fun A H' k => ∃ y, post y ∧ A = (.o 0) ∧ H' = [(0, .val (.os 1 eI y))] ∧ k = 1) := by
 refine Tr.intro (n := 44) Tryz.func49 rfl Tryz.ntmps49 rfl (fun w0 ok F β hβ => ?_)
 unfold V_body_all at hm
 refine C.seq (U.start ?_)
 refine U.bx ?_
 refine U.pd 1 T (C.nx (C.seq (U.start ?_)))
 refine U.pd 1 T (C.nx (C.seq (C.seq (U.start ?_))))
 refine U.pd 4 T (C.nx ?_)
 refine C.jn (fun (x7 : List Int) => [(1, .p 0 0), (3, .o 1)]) (fun (x7 : List Int) => [(0, .box (eApiState st)), (1, .val (.os 1 eI x7))]) 2 hm (fun x7 hm => ?_) (fun J8 hm hJ8 => ?_)
 refine C.nx (C.seq (C.seq (U.start ?_)))
 refine U.pd 4 T (C.nx ?_)
 refine C.jn (fun (x24 : List Int) => [(1, .p 0 0), (3, .o 1)]) (fun (x24 : List Int) => [(0, .box (eApiState st)), (1, .val (.os 1 eI x24))]) 2 hm (fun x24 hm => ?_) (fun J25 hm hJ25 => ?_)
 refine C.nx (C.seq (C.seq (U.start ?_)))
 refine U.pd 4 T (C.nx ?_)
 refine C.jn (fun (x41 : List Int) => [(3, .o 0)]) (fun (x41 : List Int) => [(0, .val (.os 1 eI x41))]) 1 hm (fun x41 hm => ?_) (fun J42 hm hJ42 => ?_)
 refine C.nx (C.seq (U.start ?_))
 refine U.pd 2 T (C.nx (C.ret ?_))
 exact C.g1 [some 0] T hβ ⟨x41, hm, rfl, rfl, rfl⟩
 refine C.block ?_
 refine St.wk (C.loop (fun (s43 : List Int × Int) => [(1, .p 0 0), (3, .o 1), (33, .i (st.People.length : Int)), (34, .i s43.2)]) (fun (s43 : List Int × Int) => [(0, .box (eApiState st)), (1, .val (.os 1 eI s43.1))]) hm (fun s43 Y44 hm => ?_)) (Wk.a (idR 2))
 refine C.seq (U.start ?_)
 refine U.pd 1 T (C.nx (C.seq ?_))
 refine C.ite rfl hm (fun hb47 hm => ?_) (fun hb47 hm => ?_)
 refine C.skip (C.nx (C.seq (C.block (C.seq (U.start ?_)))))
 refine U.pd 2 T (C.nx (U.start ?_))
 refine U.ps 3 T rfl ?_
 refine U.k (T_body_Person st s43.2 _ hm) en88 (fun x52 hm => ?_)
 obtain ⟨hx53, hm⟩ := hm
 refine U.e1 rfl (.none rfl) (by exact Eff1.ap T rfl rfl rfl rfl rfl rfl (.inr ⟨_, rfl, rfl⟩) rfl rfl rfl (fun _ => rfl) rfl hx53) ?_
 refine U.pd 1 T (C.bnx (C.nx (U.start ?_)))
 refine U.pd 2 T (C.nx ?_)
 exact St.wk (C.next hm) (Wk.a [some 0, some 3])
 refine C.exit (C.ex (C.ex (C.bex ?_)))
 exact St.wa [some 1] (hJ42 _ hm)
 refine C.block ?_
 refine St.wk (C.loop (fun (s26 : List Int × Int) => [(1, .p 0 0), (3, .o 1), (21, .i (st.Shelves.length : Int)), (22, .i s26.2)]) (fun (s26 : List Int × Int) => [(0, .box (eApiState st)), (1, .val (.os 1 eI s26.1))]) hm (fun s26 Y27 hm => ?_)) (Wk.a (idR 2))
 refine C.seq (U.start ?_)
 refine U.pd 1 T (C.nx (C.seq ?_))
 refine C.ite rfl hm (fun hb30 hm => ?_) (fun hb30 hm => ?_)
 refine C.skip (C.nx (C.seq (C.block (C.seq (U.start ?_)))))
 refine U.pd 2 T (C.nx (U.start ?_))
 refine U.ps 3 T rfl ?_
 refine U.k (T_body_Shelf st s26.2 _ hm) en87 (fun x35 hm => ?_)
 obtain ⟨hx36, hm⟩ := hm
 refine U.e1 rfl (.none rfl) (by exact Eff1.ap T rfl rfl rfl rfl rfl rfl (.inr ⟨_, rfl, rfl⟩) rfl rfl rfl (fun _ => rfl) rfl hx36) ?_
 refine U.pd 1 T (C.bnx (C.nx (U.start ?_)))
 refine U.pd 2 T (C.nx ?_)
 exact St.wk (C.next hm) (Wk.a [some 0, some 3])
 refine C.exit (C.ex (C.ex (C.bex ?_)))
 exact St.wa (idR 2) (hJ25 _ hm)
 refine C.block ?_
 refine St.wk (C.loop (fun (s9 : List Int × Int) => [(1, .p 0 0), (3, .o 1), (9, .i (st.Robots.length : Int)), (10, .i s9.2)]) (fun (s9 : List Int × Int) => [(0, .box (eApiState st)), (1, .val (.os 1 eI s9.1))]) hm (fun s9 Y10 hm => ?_)) (Wk.mk' [some 0, none] rfl rfl ⟨⟨_, rfl, (.eq rfl)⟩, ⟨_, rfl, (.nilO _ _ ⟨rfl, rfl⟩ rfl)⟩, ChkG.eqs rfl⟩ ⟨bX, ⟨_, rfl, .nil _ _⟩, trivial⟩ rfl)
 refine C.seq (U.start ?_)
 refine U.pd 1 T (C.nx (C.seq ?_))
 refine C.ite rfl hm (fun hb13 hm => ?_) (fun hb13 hm => ?_)
 refine C.skip (C.nx (C.seq (C.block (C.seq (U.start ?_)))))
 refine U.pd 2 T (C.nx (U.start ?_))
 refine U.ps 3 T rfl ?_
 refine U.k (T_body_Robot st s9.2 _ hm) en86 (fun x18 hm => ?_)
 obtain ⟨hx19, hm⟩ := hm
 refine U.e1 rfl (.none rfl) (by exact Eff1.ap T rfl rfl rfl rfl rfl rfl (.inr ⟨_, rfl, rfl⟩) rfl rfl rfl (fun _ => rfl) rfl hx19) ?_
 refine U.pd 1 T (C.bnx (C.nx (U.start ?_)))
 refine U.pd 2 T (C.nx ?_)
 exact St.wk (C.next hm) (Wk.a [some 0, some 3])
 refine C.exit (C.ex (C.ex (C.bex ?_)))
 exact St.wa (idR 2) (hJ8 _ hm)
theorem T_slices_Values_int_int (s_1 : List Int) (post : (List Int) → Prop) (hm : V_slices_Values_int_int s_1 post) :
    Tr Tryz.prog 85 [.sl 1 eI s_1] [] 0 (fun A H' k => ∃ y, post y ∧ A = (.fn (.func 124) [] [.p 0 0]) ∧ H' = [(0, .box [.sl 1 eI y])] ∧ k = 1) := by
 refine Tr.intro (n := 4) Tryz.func85 rfl Tryz.ntmps85 rfl (fun w0 ok F β hβ => ?_)
 unfold V_slices_Values_int_int at hm
 refine C.seq (U.start ?_)
 refine U.bx ?_
 refine U.pd 1 T (C.nx (C.seq (U.start ?_)))
 refine U.pd 2 T (C.nx (C.ret ?_))
 exact C.g1 [some 0] T hβ ⟨(s_1), hm, rfl, rfl, rfl⟩
theorem T_slices_AppendSeq_int_int__o0_slices_Values_int_int_1 (seq_c0 : List Int) (s_1 : List Int) (post : (List Int) → Prop) (hm : V_slices_AppendSeq_int_int__o0_slices_Values_int_int_1 seq_c0 s_1 post) :
    Tr Tryz.prog 154 [.o 0, .fn (.func 124) [] [.rp [.sl 1 eI seq_c0]]] [(0, .val (.os 1 eI s_1))] 1 (fun A H' k => ∃ y, post y ∧ A = (.o 1) ∧ H' = [(1, .val (.os 1 eI y))] ∧ k = 2) := by
 refine Tr.intro (n := 13) Tryz.func154 rfl Tryz.ntmps154 rfl (fun w0 ok F β hβ => ?_)
 unfold V_slices_AppendSeq_int_int__o0_slices_Values_int_int_1 at hm
 refine C.seq (U.start ?_)
 refine U.bx ?_
 refine U.pd 1 T (C.nx (C.seq (C.seq (U.start ?_))))
 refine U.pd 1 T (C.nx (C.block ?_))
 obtain ⟨hx8, hm⟩ := hm
 refine St.wk (C.range (Γ0 := [(2, .p 1 0), (6, .fn (.func 124) [] [.rp [.sl 1 eI seq_c0]])]) (Γ1 := fun (x5 : Int) => [(5, .i x5), (7, .i x5), (2, .p 1 0), (6, .fn (.func 124) [] [.rp [.sl 1 eI seq_c0]])]) (Hf := fun (s6 : List Int) => [(1, .box [.o 2]), (2, .val (.os 1 eI s6))]) 2 hm (it124 seq_c0 hx8) en124 rfl rfl rfl rfl rfl (fun _ => rfl) rfl rfl (fun _ => rfl) (fun x5 s6 Y7 hm w0 ok M β l => ?_) (fun s12 hm => ?_)) (Wk.a [some 0, some 1, some 0])
 refine CI.block ?_
 refine UI.start (by kernel_rfl) (by repeat (first | exact NoOut.rnd | refine NoOut.th ?_ | refine NoOut.blk ?_)) ?_
 refine U.ps 2 T rfl ?_
 refine U.e1 rfl (.none rfl) (by exact Eff1.bs T (enc := eI) (xs := ([x5] : List Int)) rfl rfl rfl rfl rfl rfl rfl rfl rfl rfl (fun _ _ => rfl) rfl rfl) ?_
 obtain ⟨hx11, hm⟩ := hm
 refine U.e1 rfl (.none rfl) (by exact Eff1.ap T rfl rfl rfl rfl rfl rfl (.inr ⟨_, rfl, rfl⟩) rfl rfl rfl (fun _ => rfl) rfl hx11) ?_
 refine U.e1 rfl (.none rfl) (by exact Eff1.st T rfl rfl rfl rfl rfl rfl rfl rfl rfl rfl) ?_
 refine U.done (C.bnx ?_)
 exact St.wk (CI.next hm) (Wk.mk' [some 0, some 1, some 4] rfl rfl trivial ⟨bX, vL, trivial⟩ rfl)
 refine C.bnx (C.nx (C.seq (U.start ?_)))
 refine U.pd 2 T (C.nx (C.ret ?_))
 exact C.g1 [some 0, some 2] T hβ ⟨s12, hm, rfl, rfl, rfl⟩
theorem T_slices_Collect_int__slices_Values_int_int_1 (seq_c0 : List Int) (post : (List Int) → Prop) (hm : V_slices_Collect_int__slices_Values_int_int_1 seq_c0 post) :
    Tr Tryz.prog 123 [.fn (.func 124) [] [.rp [.sl 1 eI seq_c0]]] [] 0 (fun A H' k => ∃ y, post y ∧ A = (.o 0) ∧ H' = [(0, .val (.os 1 eI y))] ∧ k = 1) := by
 refine Tr.intro (n := 5) Tryz.func123 rfl Tryz.ntmps123 rfl (fun w0 ok F β hβ => ?_)
 unfold V_slices_Collect_int__slices_Values_int_int_1 at hm
 refine C.seq (U.start ?_)
 refine U.pd 1 T (C.nx (C.seq (U.start ?_)))
 refine U.ps 1 T rfl ?_
 refine U.c [none] (T_slices_AppendSeq_int_int__o0_slices_Values_int_int_1 seq_c0 [] _ hm) en154 (fun x5 hm => ?_)
 refine U.pd 1 T (C.nx (C.ret ?_))
 exact C.g1 [some 1] T hβ ⟨x5, hm, rfl, rfl, rfl⟩
def siR92 : Go.Shelf.Ren := ⟨fun | 125 => 129 | 128 => 164 | 129 => 165 | 189 => 92 | 215 => 186 | 216 => 161 | 257 => 128 | 294 => 155 | 295 => 156 | 296 => 157 | 297 => 158 | 298 => 159 | 299 => 160 | 300 => 162 | 301 => 163 | 328 => 181 | 329 => 182 | 330 => 183 | 331 => 184 | 332 => 185 | 343 => 191 | n => n, fun | 0 => 0 | 3 => 3 | 4 => 4 | 5 => 5 | 9 => 9 | 28 => 22 | 46 => 167 | 51 => 192 | 53 => 194 | 131 => 54 | 182 => 184 | 183 => 185 | 218 => 208 | 222 => 212 | 228 => 216 | 229 => 217 | n => n, fun n => n⟩
theorem siL92 : Go.Proofs.Lays.n189 Tryz.prog siR92 where
  mixed := by kernel_rfl
  f125 := Tryz.func129.trans (congrArg some (by kernel_rfl))
  f128 := Tryz.func164.trans (congrArg some (by kernel_rfl))
  f129 := Tryz.func165.trans (congrArg some (by kernel_rfl))
  f189 := Tryz.func92.trans (congrArg some (by kernel_rfl))
  f215 := Tryz.func186.trans (congrArg some (by kernel_rfl))
  f216 := Tryz.func161.trans (congrArg some (by kernel_rfl))
  f257 := Tryz.func128.trans (congrArg some (by kernel_rfl))
  f294 := Tryz.func155.trans (congrArg some (by kernel_rfl))
  f295 := Tryz.func156.trans (congrArg some (by kernel_rfl))
  f296 := Tryz.func157.trans (congrArg some (by kernel_rfl))
  f297 := Tryz.func158.trans (congrArg some (by kernel_rfl))
  f298 := Tryz.func159.trans (congrArg some (by kernel_rfl))
  f299 := Tryz.func160.trans (congrArg some (by kernel_rfl))
  f300 := Tryz.func162.trans (congrArg some (by kernel_rfl))
  f301 := Tryz.func163.trans (congrArg some (by kernel_rfl))
  f328 := Tryz.func181.trans (congrArg some (by kernel_rfl))
  f329 := Tryz.func182.trans (congrArg some (by kernel_rfl))
  f330 := Tryz.func183.trans (congrArg some (by kernel_rfl))
  f331 := Tryz.func184.trans (congrArg some (by kernel_rfl))
  f332 := Tryz.func185.trans (congrArg some (by kernel_rfl))
  f343 := Tryz.func191.trans (congrArg some (by kernel_rfl))
  t0 := Tryz.underlying0
  a0 := Tryz.isAgg0
  z0 := Tryz.sizeOf0
  v0 := Tryz.zeroValue0
  t3 := Tryz.underlying3
  a3 := Tryz.isAgg3
  z3 := Tryz.sizeOf3
  v3 := Tryz.zeroValue3
  t4 := Tryz.underlying4
  a4 := Tryz.isAgg4
  z4 := Tryz.sizeOf4
  v4 := Tryz.zeroValue4
  t5 := Tryz.underlying5
  a5 := Tryz.isAgg5
  z5 := Tryz.sizeOf5
  v5 := Tryz.zeroValue5
  t9 := Tryz.underlying9
  a9 := Tryz.isAgg9
  z9 := Tryz.sizeOf9
  v9 := Tryz.zeroValue9
  t28 := Tryz.underlying22
  a28 := Tryz.isAgg22
  z28 := Tryz.sizeOf22
  v28 := Tryz.zeroValue22
  t46 := Tryz.underlying167
  a46 := Tryz.isAgg167
  z46 := Tryz.sizeOf167
  v46 := Tryz.zeroValue167
  t51 := Tryz.underlying192
  a51 := Tryz.isAgg192
  z51 := Tryz.sizeOf192
  v51 := Tryz.zeroValue192
  t53 := Tryz.underlying194
  a53 := Tryz.isAgg194
  z53 := Tryz.sizeOf194
  v53 := Tryz.zeroValue194
  t131 := Tryz.underlying54
  a131 := Tryz.isAgg54
  z131 := Tryz.sizeOf54
  v131 := Tryz.zeroValue54
  t182 := Tryz.underlying184
  a182 := Tryz.isAgg184
  z182 := Tryz.sizeOf184
  v182 := Tryz.zeroValue184
  t183 := Tryz.underlying185
  a183 := Tryz.isAgg185
  z183 := Tryz.sizeOf185
  v183 := Tryz.zeroValue185
  t218 := Tryz.underlying208
  a218 := Tryz.isAgg208
  z218 := Tryz.sizeOf208
  v218 := Tryz.zeroValue208
  t222 := Tryz.underlying212
  a222 := Tryz.isAgg212
  z222 := Tryz.sizeOf212
  v222 := Tryz.zeroValue212
  t228 := Tryz.underlying216
  a228 := Tryz.isAgg216
  z228 := Tryz.sizeOf216
  v228 := Tryz.zeroValue216
  t229 := Tryz.underlying217
  a229 := Tryz.isAgg217
  z229 := Tryz.sizeOf217
  v229 := Tryz.zeroValue217
theorem T_slices_Sort_int_int__o0 (p0 : List Int) (post : List Int → Prop) (hm : V_slices_Sort_int_int__o0 p0 post) :
    Tr Tryz.prog 92 [.o 0] [(0, .val (.os 1 eI p0))] 1 (fun A H' k => ∃ y, post y ∧ A = (.tup []) ∧ H' = [(0, .val (.os 1 eI y))] ∧ k = 1) := by
 unfold V_slices_Sort_int_int__o0 at hm
 exact Tr.sortInt siL92 p0 hm.1 hm.2
theorem T_slices_Sorted_int__slices_Values_int_int_1 (seq_c0 : List Int) (post : (List Int) → Prop) (hm : V_slices_Sorted_int__slices_Values_int_int_1 seq_c0 post) :
    Tr Tryz.prog 84 [.fn (.func 124) [] [.rp [.sl 1 eI seq_c0]]] [] 0 (fun A H' k => ∃ y, post y ∧ A = (.o 0) ∧ H' = [(0, .val (.os 1 eI y))] ∧ k = 1) := by
 refine Tr.intro (n := 9) Tryz.func84 rfl Tryz.ntmps84 rfl (fun w0 ok F β hβ => ?_)
 unfold V_slices_Sorted_int__slices_Values_int_int_1 at hm
 refine C.seq (U.start ?_)
 refine U.pd 1 T (C.nx (C.seq (U.start ?_)))
 refine U.ps 1 T rfl ?_
 refine U.k (T_slices_Collect_int__slices_Values_int_int_1 seq_c0 _ hm) en123 (fun x5 hm => ?_)
 refine U.pd 1 T (C.nx (C.seq (U.start ?_)))
 refine U.ps 1 T rfl ?_
 refine U.c [some 0] (T_slices_Sort_int_int__o0 x5 _ hm) en92 (fun x8 hm => ?_)
 refine U.done (C.nx (C.seq (U.start ?_)))
 refine U.pd 2 T (C.nx (C.ret ?_))
 exact C.g1 [some 0] T hβ ⟨x8, hm, rfl, rfl, rfl⟩
theorem T_body_Clash (slots : List Int) (post : (Int × Bool) → Prop) (hm : V_body_Clash slots post) :
    Tr Tryz.prog 48 [.sl 1 eI slots] [] 0 (fun A H' k => ∃ y, post y ∧ A = (.tup [.i y.1, .b y.2]) ∧ H' = [] ∧ k = 0) := by
 refine Tr.intro (n := 29) Tryz.func48 rfl Tryz.ntmps48 rfl (fun w0 ok F β hβ => ?_)
 unfold V_body_Clash at hm
 refine C.seq (U.start ?_)
 refine U.pd 2 T (C.nx (C.seq (U.start ?_)))
 refine U.ps 1 T rfl ?_
 refine U.e rfl (.none rfl) (by exact Eff.c [] (v := false) (T_slices_Values_int_int slots _ hm) en85 rfl rfl rfl (.eq rfl) trivial rfl rfl rfl rfl rfl rfl (fun h => by cases h) (.inr ⟨rfl, rfl⟩) (fun _ => rfl) (fun _ => rfl) rfl) (fun x5' hm => ?_)
 obtain ⟨x5⟩ := x5'
 refine U.k (T_slices_Sorted_int__slices_Values_int_int_1 x5 _ hm) en84 (fun x6 hm => ?_)
 refine U.pd 1 T (C.nx (C.seq (C.seq (U.start ?_))))
 refine U.pd 1 T (C.nx ?_)
 refine C.jn (fun (x9 : Unit) => []) (fun (x9 : Unit) => []) 0 hm (fun x9 hm => ?_) (fun J10 hm hJ10 => ?_)
 refine C.nx (C.seq (U.start ?_))
 refine U.pd 2 T (C.nx (C.ret ?_))
 exact C.f9 T hβ ⟨(0, false), hm, rfl, rfl, rfl⟩
 refine C.block ?_
 refine St.wk (C.loop (fun (s11 : Int) => [(4, .o 0), (5, .i s11)]) (fun (s11 : Int) => [(0, .val (.os 1 eI x6))]) hm (fun s11 Y12 hm => ?_)) (Wk.a [some 1])
 refine C.seq (C.seq (U.start ?_))
 refine U.pd 4 T (C.nx ?_)
 refine C.ite rfl hm (fun hb15 hm => ?_) (fun hb15 hm => ?_)
 refine C.skip (C.nx (C.seq (C.block (C.seq ?_))))
 refine D.beg 9999 [0] [] mix rfl rfl (by kernel_rfl) (by repeat (first | exact NoPanicQ.body | exact NoPanicQ.rnd | refine NoPanicQ.th ?_ | refine NoPanicQ.blk ?_ | refine NoPanicQ.ng ?_)) (fun hQ hS ws M' => ?_)
 refine D.ps 2 [(0, []), (1, [])] rfl hQ hS T rfl rfl (by kernel_rfl) ?_
 obtain ⟨x18, hx18, hm⟩ := hm
 refine D.q 2 [] hQ hS rfl (.none rfl) rfl rfl (by exact Rd.io T rfl rfl rfl rfl rfl rfl rfl hx18) rfl (by kernel_rfl) ?_
 refine D.q 3 [] hQ hS rfl (.none rfl) rfl rfl (by exact Rd.le T rfl rfl rfl (idx_some hx18).2.2 rfl rfl rfl) rfl (by kernel_rfl) ?_
 refine D.ps 3 [(4, []), (5, []), (6, [])] rfl hQ hS T rfl rfl (by kernel_rfl) ?_
 obtain ⟨x19, hx19, hm⟩ := hm
 refine D.q 7 [] hQ hS rfl (.none rfl) rfl rfl (by exact Rd.io T rfl rfl rfl rfl rfl rfl rfl hx19) rfl (by kernel_rfl) ?_
 refine D.q 8 [] hQ hS rfl (.none rfl) rfl rfl (by exact Rd.le T rfl rfl rfl (idx_some hx19).2.2 rfl rfl rfl) rfl (by kernel_rfl) ?_
 refine D.ps 1 [(9, [])] rfl hQ hS T rfl rfl (by kernel_rfl) ?_
 refine D.done (by kernel_rfl) ?_
 refine C.nx ?_
 refine C.ite rfl hm (fun hb20 hm => ?_) (fun hb20 hm => ?_)
 refine C.seq (U.start ?_)
 refine U.ps 2 T rfl ?_
 refine U.r rfl (.none rfl) rfl rfl (by exact Rd.io T rfl rfl rfl rfl rfl rfl rfl hx18) ?_
 refine U.r rfl (.none rfl) rfl rfl (by exact Rd.le T rfl rfl rfl (idx_some hx18).2.2 rfl rfl rfl) ?_
 refine U.pd 2 T (C.nx (C.ret (C.brt (C.rt (C.rt (C.brt (C.rt ?_)))))))
 exact C.f9 T hβ ⟨(x18, true), hm, rfl, rfl, rfl⟩
 refine C.skip (C.bnx (C.nx (U.start ?_)))
 refine U.pd 3 T (C.nx ?_)
 exact St.wk (C.next hm) (Wk.a [some 0])
 refine C.exit (C.ex (C.ex (C.bex ?_)))
 exact St.wk (hJ10 _ hm) (Wk.mk' [] rfl rfl trivial trivial rfl)
theorem T_body_Right (s_1 : ApiSite) (st : ApiState) (post : Bool → Prop) (hm : V_body_Right s_1 st post) :
    Tr Tryz.prog 12 [.agg (eApiSite s_1), .agg (eApiState st)] [] 0 (fun A H' k => ∃ y, post y ∧ A = (.b y) ∧ H' = [] ∧ k = 0) := by
 refine Tr.intro (n := 95) Tryz.func12 rfl Tryz.ntmps12 rfl (fun w0 ok F β hβ => ?_)
 unfold V_body_Right at hm
 refine C.seq (U.start ?_)
 refine U.bx ?_
 refine U.bx ?_
 refine U.pd 1 T (C.nx (C.seq (C.seq ?_)))
 refine C.jn (fun (x3 : Bool) => [(2, .p 0 0), (3, .p 1 0), (51, .b x3)]) (fun (x3 : Bool) => [(0, .box (eApiSite s_1)), (1, .box (eApiState st))]) 2 hm (fun x3 hm => ?_) (fun J4 hm hJ4 => ?_)
 refine C.nx ?_
 refine C.ite rfl hm (fun hb13 hm => ?_) (fun hb13 hm => ?_)
 refine C.seq (U.start ?_)
 refine U.pd 1 T (C.nx (C.ret (C.rt ?_)))
 exact C.f1 T hβ ⟨false, hm, rfl, rfl, rfl⟩
 refine C.skip (C.nx (C.seq (C.seq (U.start ?_))))
 refine U.pd 4 T (C.nx ?_)
 refine C.jn (fun (x18 : Unit) => [(2, .p 0 0), (3, .p 1 0)]) (fun (x18 : Unit) => [(0, .box (eApiSite s_1)), (1, .box (eApiState st))]) 2 hm (fun x18 hm => ?_) (fun J19 hm hJ19 => ?_)
 refine C.nx (C.seq (C.seq (U.start ?_)))
 refine U.pd 4 T (C.nx ?_)
 refine C.jn (fun (x40 : Unit) => [(3, .p 0 0)]) (fun (x40 : Unit) => [(0, .box (eApiState st))]) 1 hm (fun x40 hm => ?_) (fun J41 hm hJ41 => ?_)
 refine C.nx (C.seq (U.start ?_))
 refine U.ps 1 T rfl ?_
 refine U.k (T_body_all st _ hm) en49 (fun x60 hm => ?_)
 refine U.k (T_body_Clash x60 _ hm) en48 (fun x61 hm => ?_)
 refine U.pd 5 T (C.nx (C.seq (U.start ?_)))
 refine U.pd 3 T (C.nx (C.ret ?_))
 exact C.f1 T hβ ⟨!x61.2, hm, rfl, rfl, rfl⟩
 refine C.block ?_
 refine St.wk (C.loop (fun (s42 : Int) => [(2, .p 0 0), (3, .p 1 0), (74, .sl 1 eI st.People), (75, .i (st.People.length : Int)), (76, .i s42)]) (fun (s42 : Int) => [(0, .box (eApiSite s_1)), (1, .box (eApiState st))]) hm (fun s42 Y43 hm => ?_)) (Wk.a (idR 2))
 refine C.seq (U.start ?_)
 refine U.pd 1 T (C.nx (C.seq ?_))
 refine C.ite rfl hm (fun hb46 hm => ?_) (fun hb46 hm => ?_)
 refine C.skip (C.nx (C.seq (C.block (C.seq (U.start ?_)))))
 obtain ⟨x49, hx49, hm⟩ := hm
 refine U.r rfl (.none rfl) rfl rfl (by exact Rd.ix T rfl rfl rfl rfl rfl rfl hx49) ?_
 refine U.pd 2 T (C.nx (C.seq (U.start ?_)))
 refine U.ps 3 T rfl ?_
 refine U.e1 rfl (.none rfl) (by exact Eff1.bs T (enc := eI) (xs := ([4, 5] : List Int)) rfl rfl rfl rfl rfl rfl rfl rfl rfl rfl (fun _ _ => rfl) rfl rfl) ?_
 refine U.k (T_body_on s_1.Floor x49 ([4, 5] : List Int) _ hm) en47 (fun x52 hm => ?_)
 refine U.pd 1 T (C.nx ?_)
 refine C.ite rfl hm (fun hb53 hm => ?_) (fun hb53 hm => ?_)
 refine C.seq (U.start ?_)
 refine U.pd 1 T (C.nx (C.ret (C.brt (C.rt (C.rt (C.brt (C.rt ?_)))))))
 exact C.f1 T hβ ⟨false, hm, rfl, rfl, rfl⟩
 refine C.skip (C.bnx (C.nx (U.start ?_)))
 refine U.pd 2 T (C.nx ?_)
 exact St.wk (C.next hm) (Wk.a (idR 2))
 refine C.exit (C.ex (C.ex (C.bex ?_)))
 exact St.wa [some 1] (hJ41 _ hm)
 refine C.block ?_
 refine St.wk (C.loop (fun (s20 : Int) => [(2, .p 0 0), (3, .p 1 0), (53, .sl 1 eI st.Shelves), (54, .i (st.Shelves.length : Int)), (55, .i s20)]) (fun (s20 : Int) => [(0, .box (eApiSite s_1)), (1, .box (eApiState st))]) hm (fun s20 Y21 hm => ?_)) (Wk.a (idR 2))
 refine C.seq (U.start ?_)
 refine U.pd 1 T (C.nx (C.seq ?_))
 refine C.ite rfl hm (fun hb24 hm => ?_) (fun hb24 hm => ?_)
 refine C.skip (C.nx (C.seq (C.block (C.seq (U.start ?_)))))
 refine U.ps 1 T rfl ?_
 obtain ⟨x27, hx27, hm⟩ := hm
 refine U.r rfl (.none rfl) rfl rfl (by exact Rd.ix T rfl rfl rfl rfl rfl rfl hx27) ?_
 refine U.pd 3 T (C.nx (C.seq ?_))
 refine C.jn (fun (x28 : Bool) => [(2, .p 0 0), (3, .p 1 0), (53, .sl 1 eI st.Shelves), (54, .i (st.Shelves.length : Int)), (55, .i s20), (71, .b x28)]) (fun (x28 : Bool) => [(0, .box (eApiSite s_1)), (1, .box (eApiState st))]) 2 hm (fun x28 hm => ?_) (fun J29 hm hJ29 => ?_)
 refine C.nx ?_
 refine C.ite rfl hm (fun hb33 hm => ?_) (fun hb33 hm => ?_)
 refine C.seq (U.start ?_)
 refine U.pd 1 T (C.nx (C.ret (C.brt (C.rt (C.rt (C.brt (C.rt ?_)))))))
 exact C.f1 T hβ ⟨false, hm, rfl, rfl, rfl⟩
 refine C.skip (C.bnx (C.nx (U.start ?_)))
 refine U.pd 2 T (C.nx ?_)
 exact St.wk (C.next hm) (Wk.a (idR 2))
 refine U.start ?_
 refine U.ps 2 T rfl ?_
 refine U.k (T_body_Carrier st s20 _ hm) en46 (fun x30 hm => ?_)
 refine U.ps 2 T rfl ?_
 refine hm.cs (fun hb31 hm => ?_) (fun hb31 hm => ?_)
 refine U.pg 3 4 true 64 hb31 T rfl rfl rfl rfl ?_
 refine U.e1 rfl (.take 4 true 64 _ hb31 rfl rfl rfl) (by exact Eff1.bs T (enc := eI) (xs := ([1, 2] : List Int)) rfl rfl rfl rfl rfl rfl rfl rfl rfl rfl (fun _ _ => rfl) rfl rfl) ?_
 refine U.k (T_body_on s_1.Floor x27 ([1, 2] : List Int) _ hm) en47 (fun x32 hm => ?_) (hw := .take 4 true 64 _ hb31 rfl rfl rfl)
 refine U.pg 1 4 true 64 hb31 T rfl rfl rfl rfl ?_
 refine U.pk hb31 ?_
 refine U.done ?_
 exact St.wa (idR 2) (hJ29 _ hm)
 refine U.sks 6 4 true 64 hb31 rfl rfl rfl ?_
 refine U.pk' hb31 ?_
 refine U.done ?_
 exact St.wa (idR 2) (hJ29 _ hm)
 refine C.exit (C.ex (C.ex (C.bex ?_)))
 exact St.wa (idR 2) (hJ19 _ hm)
 refine U.start ?_
 refine U.ps 2 T rfl ?_
 refine U.k (T_body_within st.Tick 0 20000 _ hm) en43 (fun x5 hm => ?_)
 refine U.ps 2 T rfl ?_
 refine hm.cs (fun hb6 hm => ?_) (fun hb6 hm => ?_)
 refine U.pg 7 4 false 15 (ntF hb6) T rfl rfl rfl rfl ?_
 refine U.r rfl (.none rfl) rfl rfl (by exact Rd.pk' rfl rfl (ntF hb6) rfl) ?_
 refine U.ps 1 T rfl ?_
 refine hm.cs (fun hb7 hm => ?_) (fun hb7 hm => ?_)
 refine U.sks 7 13 false 24 hb7 rfl rfl rfl ?_
 refine U.pk hb7 ?_
 refine U.ps 1 T rfl ?_
 refine U.sks 4 22 false 33 rfl rfl rfl rfl ?_
 refine U.pk rfl ?_
 refine U.ps 1 T rfl ?_
 refine U.sks 4 28 false 39 rfl rfl rfl rfl ?_
 refine U.pk rfl ?_
 refine U.ps 1 T rfl ?_
 refine U.sks 5 34 false 45 rfl rfl rfl rfl ?_
 refine U.pk rfl ?_
 refine U.done ?_
 exact St.wa (idR 2) (hJ4 _ hm)
 refine U.pg 7 13 false 24 hb7 T rfl rfl rfl rfl ?_
 refine U.pk' hb7 ?_
 refine U.ps 1 T rfl ?_
 refine hm.cs (fun hb8 hm => ?_) (fun hb8 hm => ?_)
 refine U.sks 4 22 false 33 hb8 rfl rfl rfl ?_
 refine U.pk hb8 ?_
 refine U.ps 1 T rfl ?_
 refine U.sks 4 28 false 39 rfl rfl rfl rfl ?_
 refine U.pk rfl ?_
 refine U.ps 1 T rfl ?_
 refine U.sks 5 34 false 45 rfl rfl rfl rfl ?_
 refine U.pk rfl ?_
 refine U.done ?_
 exact St.wa (idR 2) (hJ4 _ hm)
 refine U.pg 4 22 false 33 hb8 T rfl rfl rfl rfl ?_
 refine U.pk' hb8 ?_
 refine U.ps 1 T rfl ?_
 refine hm.cs (fun hb9 hm => ?_) (fun hb9 hm => ?_)
 refine U.sks 4 28 false 39 hb9 rfl rfl rfl ?_
 refine U.pk hb9 ?_
 refine U.ps 1 T rfl ?_
 refine U.sks 5 34 false 45 rfl rfl rfl rfl ?_
 refine U.pk rfl ?_
 refine U.done ?_
 exact St.wa (idR 2) (hJ4 _ hm)
 refine U.pg 2 28 false 39 hb9 T rfl rfl rfl rfl ?_
 refine U.k (T_body_robots s_1 st _ hm) en44 (fun x10 hm => ?_) (hw := .take 28 false 39 _ hb9 rfl rfl rfl)
 refine U.pg 1 28 false 39 hb9 T rfl rfl rfl rfl ?_
 refine U.pk' hb9 ?_
 refine U.ps 1 T rfl ?_
 refine hm.cs (fun hb11 hm => ?_) (fun hb11 hm => ?_)
 refine U.pg 3 34 false 45 (ntF hb11) T rfl rfl rfl rfl ?_
 refine U.k (T_body_rest s_1.Floor st _ hm) en45 (fun x12 hm => ?_) (hw := .take 34 false 45 _ (ntF hb11) rfl rfl rfl)
 refine U.pg 1 34 false 45 (ntF hb11) T rfl rfl rfl rfl ?_
 refine U.r rfl (.none rfl) rfl rfl (by exact Rd.pk' rfl rfl (ntF hb11) rfl) ?_
 refine U.done ?_
 exact St.wa (idR 2) (hJ4 _ hm)
 refine U.sks 5 34 false 45 (ntT hb11) rfl rfl rfl ?_
 refine U.r rfl (.none rfl) rfl rfl (by exact Rd.pk rfl rfl (ntT hb11) rfl) ?_
 refine U.done ?_
 exact St.wa (idR 2) (hJ4 _ hm)
 refine U.sks 7 4 false 15 (ntT hb6) rfl rfl rfl ?_
 refine U.r rfl (.none rfl) rfl rfl (by exact Rd.pk rfl rfl (ntT hb6) rfl) ?_
 refine U.ps 1 T rfl ?_
 refine U.sks 7 13 false 24 rfl rfl rfl rfl ?_
 refine U.pk rfl ?_
 refine U.ps 1 T rfl ?_
 refine U.sks 4 22 false 33 rfl rfl rfl rfl ?_
 refine U.pk rfl ?_
 refine U.ps 1 T rfl ?_
 refine U.sks 4 28 false 39 rfl rfl rfl rfl ?_
 refine U.pk rfl ?_
 refine U.ps 1 T rfl ?_
 refine U.sks 5 34 false 45 rfl rfl rfl rfl ?_
 refine U.pk rfl ?_
 refine U.done ?_
 exact St.wa (idR 2) (hJ4 _ hm)
theorem T_slices_Clone_int_int (s_1 : List Int) (post : (List Int) → Prop) (hm : V_slices_Clone_int_int s_1 post) :
    Tr Tryz.prog 51 [.sl 1 eI s_1] [] 0 (fun A H' k => ∃ y, post y ∧ A = (.o 0) ∧ H' = [(0, .val (.os 1 eI y))] ∧ k = 1) := by
 refine Tr.intro (n := 8) Tryz.func51 rfl Tryz.ntmps51 rfl (fun w0 ok F β hβ => ?_)
 unfold V_slices_Clone_int_int at hm
 refine C.seq (U.start ?_)
 refine U.pd 1 T (C.nx (C.seq (C.seq (U.start ?_))))
 refine U.ps 1 T rfl ?_
 refine U.e rfl (.none rfl) (by exact Eff.isnil T true rfl rfl rfl rfl rfl rfl (.inl ⟨.sl, rfl⟩) rfl) (fun hb5' hhb5 => ?_)
 obtain ⟨hb5⟩ := hb5'
 replace hm := hm hb5 hhb5
 refine U.done (C.nx ?_)
 refine C.ite rfl hm (fun hb6 hm => ?_) (fun hb6 hm => ?_)
 refine C.seq (U.start ?_)
 refine U.pd 1 T (C.nx (C.ret (C.rt ?_)))
 exact C.g1 [none] T hβ ⟨[], hm, rfl, rfl, rfl⟩
 refine C.skip (C.nx (C.seq (U.start ?_)))
 refine U.e1 rfl (.none rfl) (by exact Eff1.bs T (enc := eI) (xs := ([] : List Int)) rfl rfl rfl rfl rfl rfl rfl rfl rfl rfl (fun _ _ => rfl) rfl rfl) ?_
 refine U.ps 1 T rfl ?_
 obtain ⟨hx11, hm⟩ := hm
 refine U.e1 rfl (.none rfl) (by exact Eff1.ap T rfl rfl rfl rfl rfl rfl (.inl rfl) rfl rfl rfl (fun _ => rfl) rfl hx11) ?_
 refine U.pd 1 T (C.nx (C.ret ?_))
 exact C.g1 [some 1] T hβ ⟨(([] : List Int) ++ s_1), hm, rfl, rfl, rfl⟩
theorem T_region_isCell (c : Int) (post : Bool → Prop) (hm : V_region_isCell c post) :
    Tr Tryz.prog 91 [.i c] [] 0 (fun A H' k => ∃ y, post y ∧ A = (.b y) ∧ H' = [] ∧ k = 0) := by
 refine Tr.intro (n := 9) Tryz.func91 rfl Tryz.ntmps91 rfl (fun w0 ok F β hβ => ?_)
 unfold V_region_isCell at hm
 refine C.seq (U.start ?_)
 refine U.pd 1 T (C.nx (C.seq ?_))
 refine C.jn (fun (x3 : Bool) => [(2, .b x3)]) (fun (x3 : Bool) => []) 0 hm (fun x3 hm => ?_) (fun J4 hm hJ4 => ?_)
 refine C.nx (C.ret ?_)
 exact C.f1 T hβ ⟨x3, hm, rfl, rfl, rfl⟩
 refine U.start ?_
 refine U.ps 3 T rfl ?_
 refine hm.cs (fun hb5 hm => ?_) (fun hb5 hm => ?_)
 refine U.pg 2 2 true 5 hb5 T rfl rfl rfl rfl ?_
 refine U.pk hb5 ?_
 refine U.pd 1 T ?_
 exact St.wn (hJ4 _ hm)
 refine U.sks 2 2 true 5 hb5 rfl rfl rfl ?_
 refine U.pk' hb5 ?_
 refine U.pd 1 T ?_
 exact St.wn (hJ4 _ hm)
theorem T_region_Of_1 (c : Int) (post : Bool → Prop) (hm : V_region_Of_1 c post) :
    Tr Tryz.prog 90 [.i c] [] 0 (fun A H' k => ∃ y, post y ∧ A = (.b y) ∧ H' = [] ∧ k = 0) := by
 refine Tr.intro (n := 6) Tryz.func90 rfl Tryz.ntmps90 rfl (fun w0 ok F β hβ => ?_)
 unfold V_region_Of_1 at hm
 refine C.seq (U.start ?_)
 refine U.pd 1 T (C.nx (C.seq (U.start ?_)))
 refine U.ps 1 T rfl ?_
 refine U.k (T_region_isCell c _ hm) en91 (fun x5 hm => ?_)
 refine U.pd 2 T (C.nx (C.ret ?_))
 exact C.f1 T hβ ⟨!x5, hm, rfl, rfl, rfl⟩
theorem T_slices_IndexFunc_int_int__region_Of_1 (s_1 : List Int) (post : Int → Prop) (hm : V_slices_IndexFunc_int_int__region_Of_1 s_1 post) :
    Tr Tryz.prog 94 [.sl 1 eI s_1, .fn (.func 90) [] []] [] 0 (fun A H' k => ∃ y, post y ∧ A = (.i y) ∧ H' = [] ∧ k = 0) := by
 refine Tr.intro (n := 19) Tryz.func94 rfl Tryz.ntmps94 rfl (fun w0 ok F β hβ => ?_)
 unfold V_slices_IndexFunc_int_int__region_Of_1 at hm
 refine C.seq (U.start ?_)
 refine U.pd 1 T (C.nx (C.seq (C.seq (U.start ?_))))
 refine U.pd 3 T (C.nx ?_)
 refine C.jn (fun (x5 : Unit) => []) (fun (x5 : Unit) => []) 0 hm (fun x5 hm => ?_) (fun J6 hm hJ6 => ?_)
 refine C.nx (C.seq (U.start ?_))
 refine U.pd 1 T (C.nx (C.ret ?_))
 exact C.f1 T hβ ⟨(-1), hm, rfl, rfl, rfl⟩
 refine C.block ?_
 refine St.wk (C.loop (fun (s7 : Int) => [(0, .sl 1 eI s_1), (1, .fn (.func 90) [] []), (7, .i (s_1.length : Int)), (8, .i s7)]) (fun (s7 : Int) => []) hm (fun s7 Y8 hm => ?_)) (Wk.e)
 refine C.seq (U.start ?_)
 refine U.pd 1 T (C.nx (C.seq ?_))
 refine C.ite rfl hm (fun hb11 hm => ?_) (fun hb11 hm => ?_)
 refine C.skip (C.nx (C.seq (C.block (C.seq (U.start ?_)))))
 refine U.pd 2 T (C.nx (C.seq (U.start ?_)))
 refine U.ps 3 T rfl ?_
 obtain ⟨x16, hx16, hm⟩ := hm
 refine U.r rfl (.none rfl) rfl rfl (by exact Rd.ix T rfl rfl rfl rfl rfl rfl hx16) ?_
 refine U.ps 1 T rfl ?_
 refine U.k (T_region_Of_1 x16 _ hm) en90 (fun x17 hm => ?_)
 refine U.done (C.nx ?_)
 refine C.ite rfl hm (fun hb18 hm => ?_) (fun hb18 hm => ?_)
 refine C.seq (U.start ?_)
 refine U.pd 2 T (C.nx (C.ret (C.brt (C.rt (C.rt (C.brt (C.rt ?_)))))))
 exact C.f1 T hβ ⟨s7, hm, rfl, rfl, rfl⟩
 refine C.skip (C.bnx (C.nx (U.start ?_)))
 refine U.pd 2 T (C.nx ?_)
 exact St.wk (C.next hm) (Wk.e)
 refine C.exit (C.ex (C.ex (C.bex ?_)))
 exact St.wk (hJ6 _ hm) (Wk.mk' [] rfl rfl trivial trivial rfl)
theorem T_slices_DeleteFunc_int_int__o0_region_Of_1 (s_1 : List Int) (post : (List Int) → Prop) (hm : V_slices_DeleteFunc_int_int__o0_region_Of_1 s_1 post) :
    Tr Tryz.prog 89 [.o 0, .fn (.func 90) [] []] [(0, .val (.os 1 eI s_1))] 1 (fun A H' k => ∃ y, post y ∧ A = (.o 1) ∧ H' = [(1, .val (.os 1 eI y))] ∧ k = 2) := by
 refine Tr.intro (n := 42) Tryz.func89 rfl Tryz.ntmps89 rfl (fun w0 ok F β hβ => ?_)
 unfold V_slices_DeleteFunc_int_int__o0_region_Of_1 at hm
 refine C.seq (U.start ?_)
 refine U.pd 1 T (C.nx (C.seq (U.start ?_)))
 refine U.ps 2 T rfl ?_
 refine U.k (T_slices_IndexFunc_int_int__region_Of_1 s_1 _ hm) en94 (fun x5 hm => ?_)
 refine U.pd 1 T (C.nx (C.seq (C.seq (U.start ?_))))
 refine U.pd 2 T (C.nx ?_)
 refine C.ite rfl hm (fun hb8 hm => ?_) (fun hb8 hm => ?_)
 refine C.seq (U.start ?_)
 refine U.pd 2 T (C.nx (C.ret (C.rt ?_)))
 exact C.g1 [some 0, some 0] T hβ ⟨s_1, hm, rfl, rfl, rfl⟩
 refine C.skip (C.nx (C.seq (C.seq (U.start ?_))))
 refine U.pd 3 T (C.nx ?_)
 refine C.jn (fun (x13 : List Int × Int) => [(0, .o 0), (5, .i x13.2)]) (fun (x13 : List Int × Int) => [(0, .val (.os 1 eI x13.1))]) 1 hm (fun x13 hm => ?_) (fun J14 hm hJ14 => ?_)
 refine C.nx (C.seq (U.start ?_))
 refine U.ps 2 T rfl ?_
 obtain ⟨hx38, hm⟩ := hm
 refine U.r rfl (.none rfl) rfl rfl (by exact Rd.vw T rfl rfl rfl rfl rfl rfl (.some _ rfl) (.none _) hx38) ?_
 obtain ⟨hx39, hm⟩ := hm
 refine U.e1 rfl (.none rfl) (by exact Eff1.clv T (z0 := 0) rfl rfl rfl rfl rfl rfl rfl (fun _ => rfl) rfl hx39) ?_
 refine U.done (C.nx (C.seq (U.start ?_)))
 refine U.ps 2 T rfl ?_
 obtain ⟨hx42, hm⟩ := hm
 refine U.e1 rfl (.none rfl) (by exact Eff1.sw T rfl rfl rfl rfl rfl rfl rfl rfl (.none _) (.some _ rfl) hx42) ?_
 refine U.pd 1 T (C.nx (C.ret ?_))
 exact C.g1 (idR 2) T hβ ⟨(sub (x13.1.take (Int.toNat x13.2) ++ (List.replicate (Int.toNat ((x13.1.length : Int) - x13.2)) 0 ++ x13.1.drop ((Int.toNat x13.2) + (Int.toNat ((x13.1.length : Int) - x13.2))))) 0 x13.2), hm, rfl, rfl, rfl⟩
 refine C.block ?_
 refine St.wk (C.loop (fun (s15 : List Int × Int × Int) => [(0, .o 0), (1, .fn (.func 90) [] []), (5, .i s15.2.1), (6, .i s15.2.2)]) (fun (s15 : List Int × Int × Int) => [(0, .val (.os 1 eI s15.1))]) hm (fun s15 Y16 hm => ?_)) (Wk.a [some 0])
 refine C.seq (C.seq (U.start ?_))
 refine U.pd 4 T (C.nx ?_)
 refine C.ite rfl hm (fun hb19 hm => ?_) (fun hb19 hm => ?_)
 refine C.skip (C.nx (C.seq (C.block (C.seq (U.start ?_)))))
 refine U.ps 2 T rfl ?_
 obtain ⟨x22, hx22, hm⟩ := hm
 refine U.r rfl (.none rfl) rfl rfl (by exact Rd.io T rfl rfl rfl rfl rfl rfl rfl hx22) ?_
 refine U.r rfl (.none rfl) rfl rfl (by exact Rd.le T rfl rfl rfl (idx_some hx22).2.2 rfl rfl rfl) ?_
 refine U.pd 1 T (C.nx (C.seq (U.start ?_)))
 refine U.ps 2 T rfl ?_
 refine U.k (T_region_Of_1 x22 _ hm) en90 (fun x25 hm => ?_)
 refine U.pd 1 T (C.nx ?_)
 refine C.jn (fun (x26 : List Int × Int) => [(0, .o 0), (1, .fn (.func 90) [] []), (5, .i x26.2), (6, .i s15.2.2)]) (fun (x26 : List Int × Int) => [(0, .val (.os 1 eI x26.1))]) 1 hm (fun x26 hm => ?_) (fun J27 hm hJ27 => ?_)
 refine C.bnx (C.nx (U.start ?_))
 refine U.pd 3 T (C.nx ?_)
 exact St.wk (C.next hm) (Wk.a [some 0])
 refine C.ite rfl hm (fun hb28 hm => ?_) (fun hb28 hm => ?_)
 refine C.seq (U.start ?_)
 refine U.ps 3 T rfl ?_
 obtain ⟨x31, hx31, hm⟩ := hm
 refine U.r rfl (.none rfl) rfl rfl (by exact Rd.io T rfl rfl rfl rfl rfl rfl rfl hx31) ?_
 refine U.e1 rfl (.none rfl) (by exact Eff1.se T (z' := x22) rfl rfl rfl (idx_some hx31).2.2 rfl rfl rfl rfl rfl rfl rfl rfl (fun _ => rfl) rfl) ?_
 refine U.done (C.nx (U.start ?_))
 refine U.pd 3 T ?_
 exact St.wa [some 0] (hJ27 _ hm)
 refine C.skip ?_
 exact St.wa [some 0] (hJ27 _ hm)
 refine C.exit (C.ex (C.ex (C.bex ?_)))
 exact St.wa [some 0] (hJ14 _ hm)
theorem T_slices_Compact_int_int__o0 (s_1 : List Int) (post : (List Int) → Prop) (hm : V_slices_Compact_int_int__o0 s_1 post) :
    Tr Tryz.prog 93 [.o 0] [(0, .val (.os 1 eI s_1))] 1 (fun A H' k => ∃ y, post y ∧ A = (.o 1) ∧ H' = [(1, .val (.os 1 eI y))] ∧ k = 2) := by
 refine Tr.intro (n := 61) Tryz.func93 rfl Tryz.ntmps93 rfl (fun w0 ok F β hβ => ?_)
 unfold V_slices_Compact_int_int__o0 at hm
 refine C.seq (U.start ?_)
 refine U.pd 1 T (C.nx (C.seq (C.seq (U.start ?_))))
 refine U.pd 3 T (C.nx ?_)
 refine C.ite rfl hm (fun hb5 hm => ?_) (fun hb5 hm => ?_)
 refine C.seq (U.start ?_)
 refine U.pd 2 T (C.nx (C.ret (C.rt ?_)))
 exact C.g1 [some 0, some 0] T hβ ⟨s_1, hm, rfl, rfl, rfl⟩
 refine C.skip (C.nx (C.seq (C.seq (U.start ?_))))
 refine U.pd 1 T (C.nx ?_)
 refine C.jn (fun (x10 : Unit) => [(0, .o 0)]) (fun (x10 : Unit) => [(0, .val (.os 1 eI s_1))]) 1 hm (fun x10 hm => ?_) (fun J11 hm hJ11 => ?_)
 refine C.nx (C.seq (U.start ?_))
 refine U.pd 2 T (C.nx (C.ret ?_))
 exact C.g1 [some 0, some 0] T hβ ⟨s_1, hm, rfl, rfl, rfl⟩
 refine C.block ?_
 refine St.wk (C.loop (fun (s12 : Int) => [(0, .o 0), (3, .i s12)]) (fun (s12 : Int) => [(0, .val (.os 1 eI s_1))]) hm (fun s12 Y13 hm => ?_)) (Wk.a [some 0])
 refine C.seq (C.seq (U.start ?_))
 refine U.pd 4 T (C.nx ?_)
 refine C.ite rfl hm (fun hb16 hm => ?_) (fun hb16 hm => ?_)
 refine C.skip (C.nx (C.seq ?_))
 refine C.jn (fun (x17 : Unit) => [(0, .o 0), (3, .i s12)]) (fun (x17 : Unit) => [(0, .val (.os 1 eI s_1))]) 1 hm (fun x17 hm => ?_) (fun J18 hm hJ18 => ?_)
 refine C.nx (U.start ?_)
 refine U.pd 3 T (C.nx ?_)
 exact St.wk (C.next hm) (Wk.a [some 0])
 refine C.block (C.seq ?_)
 refine D.beg 9999 [0] [] mix rfl rfl (by kernel_rfl) (by repeat (first | exact NoPanicQ.body | exact NoPanicQ.rnd | refine NoPanicQ.th ?_ | refine NoPanicQ.blk ?_ | refine NoPanicQ.ng ?_)) (fun hQ hS ws M' => ?_)
 refine D.ps 2 [(0, []), (1, [])] rfl hQ hS T rfl rfl (by kernel_rfl) ?_
 obtain ⟨x21, hx21, hm⟩ := hm
 refine D.q 2 [] hQ hS rfl (.none rfl) rfl rfl (by exact Rd.io T rfl rfl rfl rfl rfl rfl rfl hx21) rfl (by kernel_rfl) ?_
 refine D.q 3 [] hQ hS rfl (.none rfl) rfl rfl (by exact Rd.le T rfl rfl rfl (idx_some hx21).2.2 rfl rfl rfl) rfl (by kernel_rfl) ?_
 refine D.ps 3 [(4, []), (5, []), (6, [])] rfl hQ hS T rfl rfl (by kernel_rfl) ?_
 obtain ⟨x22, hx22, hm⟩ := hm
 refine D.q 7 [] hQ hS rfl (.none rfl) rfl rfl (by exact Rd.io T rfl rfl rfl rfl rfl rfl rfl hx22) rfl (by kernel_rfl) ?_
 refine D.q 8 [] hQ hS rfl (.none rfl) rfl rfl (by exact Rd.le T rfl rfl rfl (idx_some hx22).2.2 rfl rfl rfl) rfl (by kernel_rfl) ?_
 refine D.ps 1 [(9, [])] rfl hQ hS T rfl rfl (by kernel_rfl) ?_
 refine D.done (by kernel_rfl) ?_
 refine C.nx ?_
 refine C.ite rfl hm (fun hb23 hm => ?_) (fun hb23 hm => ?_)
 refine C.seq (U.start ?_)
 refine U.ps 2 T rfl ?_
 obtain ⟨hx26, hm⟩ := hm
 refine U.r rfl (.none rfl) rfl rfl (by exact Rd.vw T rfl rfl rfl rfl rfl rfl (.some _ rfl) (.none _) hx26) ?_
 refine U.pd 1 T (C.nx (C.seq (C.seq (U.start ?_))))
 refine U.pd 1 T (C.nx ?_)
 refine C.jn (fun (x29 : List Int × Int) => [(0, .o 0), (3, .i x29.2)]) (fun (x29 : List Int × Int) => [(0, .val (.os 1 eI x29.1))]) 1 hm (fun x29 hm => ?_) (fun J30 hm hJ30 => ?_)
 refine C.nx (C.seq (U.start ?_))
 refine U.ps 2 T rfl ?_
 obtain ⟨hx55, hm⟩ := hm
 refine U.r rfl (.none rfl) rfl rfl (by exact Rd.vw T rfl rfl rfl rfl rfl rfl (.some _ rfl) (.none _) hx55) ?_
 obtain ⟨hx56, hm⟩ := hm
 refine U.e1 rfl (.none rfl) (by exact Eff1.clv T (z0 := 0) rfl rfl rfl rfl rfl rfl rfl (fun _ => rfl) rfl hx56) ?_
 refine U.done (C.nx (C.seq (U.start ?_)))
 refine U.ps 2 T rfl ?_
 obtain ⟨hx59, hm⟩ := hm
 refine U.e1 rfl (.none rfl) (by exact Eff1.sw T rfl rfl rfl rfl rfl rfl rfl rfl (.none _) (.some _ rfl) hx59) ?_
 refine U.pd 1 T (C.nx (C.ret (C.brt (C.rt (C.rt (C.brt (C.rt ?_)))))))
 exact C.g1 (idR 2) T hβ ⟨(sub (x29.1.take (Int.toNat x29.2) ++ (List.replicate (Int.toNat ((x29.1.length : Int) - x29.2)) 0 ++ x29.1.drop ((Int.toNat x29.2) + (Int.toNat ((x29.1.length : Int) - x29.2))))) 0 x29.2), hm, rfl, rfl, rfl⟩
 refine C.block ?_
 refine St.wk (C.loop (fun (s31 : List Int × Int × Int) => [(0, .o 0), (3, .i s31.2.1), (4, .vw 0 1 (Int.toNat s12) (Int.toNat ((s_1.length : Int) - s12))), (5, .i s31.2.2)]) (fun (s31 : List Int × Int × Int) => [(0, .val (.os 1 eI s31.1))]) hm (fun s31 Y32 hm => ?_)) (Wk.a [some 0])
 refine C.seq (C.seq (U.start ?_))
 refine U.ps 2 T rfl ?_
 refine U.r rfl (.none rfl) rfl rfl (by exact Rd.vl T rfl rfl rfl) ?_
 refine U.pd 1 T (C.nx ?_)
 refine C.ite rfl hm (fun hb35 hm => ?_) (fun hb35 hm => ?_)
 refine C.skip (C.nx (C.seq (C.block (C.seq ?_))))
 refine D.beg 9999 [0] [] mix rfl rfl (by kernel_rfl) (by repeat (first | exact NoPanicQ.body | exact NoPanicQ.rnd | refine NoPanicQ.th ?_ | refine NoPanicQ.blk ?_ | refine NoPanicQ.ng ?_)) (fun hQ hS ws M' => ?_)
 refine D.ps 2 [(0, []), (1, [])] rfl hQ hS T rfl rfl (by kernel_rfl) ?_
 obtain ⟨hx38, hm⟩ := hm
 refine D.q 2 [] hQ hS rfl (.none rfl) rfl rfl (by exact Rd.vi T rfl rfl rfl rfl rfl rfl hx38) rfl (by kernel_rfl) ?_
 obtain ⟨x39, hx39, hm⟩ := hm
 refine D.q 3 [] hQ hS rfl (.none rfl) rfl rfl (by exact Rd.le T rfl rfl rfl hx39 rfl rfl rfl) rfl (by kernel_rfl) ?_
 refine D.ps 3 [(4, []), (5, []), (6, [])] rfl hQ hS T rfl rfl (by kernel_rfl) ?_
 obtain ⟨hx40, hm⟩ := hm
 refine D.q 7 [] hQ hS rfl (.none rfl) rfl rfl (by exact Rd.vi T rfl rfl rfl rfl rfl rfl hx40) rfl (by kernel_rfl) ?_
 obtain ⟨x41, hx41, hm⟩ := hm
 refine D.q 8 [] hQ hS rfl (.none rfl) rfl rfl (by exact Rd.le T rfl rfl rfl hx41 rfl rfl rfl) rfl (by kernel_rfl) ?_
 refine D.ps 1 [(9, [])] rfl hQ hS T rfl rfl (by kernel_rfl) ?_
 refine D.done (by kernel_rfl) ?_
 refine C.nx ?_
 refine C.jn (fun (x42 : List Int × Int) => [(0, .o 0), (3, .i x42.2), (4, .vw 0 1 (Int.toNat s12) (Int.toNat ((s_1.length : Int) - s12))), (5, .i s31.2.2)]) (fun (x42 : List Int × Int) => [(0, .val (.os 1 eI x42.1))]) 1 hm (fun x42 hm => ?_) (fun J43 hm hJ43 => ?_)
 refine C.bnx (C.nx (U.start ?_))
 refine U.pd 3 T (C.nx ?_)
 exact St.wk (C.next hm) (Wk.a [some 0])
 refine C.ite rfl hm (fun hb44 hm => ?_) (fun hb44 hm => ?_)
 refine C.seq (U.start ?_)
 refine U.ps 4 T rfl ?_
 obtain ⟨hx47, hm⟩ := hm
 refine U.r rfl (.none rfl) rfl rfl (by exact Rd.vi T rfl rfl rfl rfl rfl rfl hx47) ?_
 refine U.r rfl (.none rfl) rfl rfl (by exact Rd.le T rfl rfl rfl hx39 rfl rfl rfl) ?_
 obtain ⟨x48, hx48, hm⟩ := hm
 refine U.r rfl (.none rfl) rfl rfl (by exact Rd.io T rfl rfl rfl rfl rfl rfl rfl hx48) ?_
 refine U.e1 rfl (.none rfl) (by exact Eff1.se T (z' := x39) rfl rfl rfl (idx_some hx48).2.2 rfl rfl rfl rfl rfl rfl rfl rfl (fun _ => rfl) rfl) ?_
 refine U.done (C.nx (U.start ?_))
 refine U.pd 3 T ?_
 exact St.wa [some 0] (hJ43 _ hm)
 refine C.skip ?_
 exact St.wa [some 0] (hJ43 _ hm)
 refine C.exit (C.ex (C.ex (C.bex ?_)))
 exact St.wa [some 0] (hJ30 _ hm)
 refine C.skip (C.bnx ?_)
 exact St.wa [some 0] (hJ18 _ hm)
 refine C.exit (C.ex (C.ex (C.bex ?_)))
 exact St.wa [some 0] (hJ11 _ hm)
theorem T_region_Of (l : List Int) (post : (List Int) → Prop) (hm : V_region_Of l post) :
    Tr Tryz.prog 50 [.sl 1 eI l] [] 0 (fun A H' k => ∃ y, post y ∧ A = (.o 0) ∧ H' = [(0, .val (.os 1 eI y))] ∧ k = 1) := by
 refine Tr.intro (n := 11) Tryz.func50 rfl Tryz.ntmps50 rfl (fun w0 ok F β hβ => ?_)
 unfold V_region_Of at hm
 refine C.seq (U.start ?_)
 refine U.pd 1 T (C.nx (C.seq (U.start ?_)))
 refine U.ps 1 T rfl ?_
 refine U.k (T_slices_Clone_int_int l _ hm) en51 (fun x5 hm => ?_)
 refine U.c [some 0] (T_slices_DeleteFunc_int_int__o0_region_Of_1 x5 _ hm) en89 (fun x6 hm => ?_)
 refine U.pd 1 T (C.nx (C.seq (U.start ?_)))
 refine U.ps 1 T rfl ?_
 refine U.c [some 2] (T_slices_Sort_int_int__o0 x6 _ hm) en92 (fun x9 hm => ?_)
 refine U.done (C.nx (C.seq (U.start ?_)))
 refine U.ps 1 T rfl ?_
 refine U.c [some 2] (T_slices_Compact_int_int__o0 x9 _ hm) en93 (fun x12 hm => ?_)
 refine U.pd 1 T (C.nx (C.ret ?_))
 exact C.g1 [some 5] T hβ ⟨x12, hm, rfl, rfl, rfl⟩
theorem T_bank_Right_1 (c : Int) (c0 : ApiSite) (c1 : List Int) (post : Bool → Prop) (hm : V_bank_Right_1 c c0 c1 post) :
    Tr Tryz.prog 53 [.i c, .rp [.i c0.Floor.W, .i c0.Floor.H, .i c0.Floor.D, .sl 1 eI c0.Floor.Kind, .sl 1 eI c0.Floor.Out, .sl 5 eApiZone c0.Zones, .sl 2 eApiApart c0.Aparts, .sl 2 eApiShelf c0.Shelves, .sl 2 eApiStart c0.Robots], .rp [.sl 1 eI c1]] [] 0 (fun A H' k => ∃ y, post y ∧ A = (.b y) ∧ H' = [] ∧ k = 0) := by
 refine Tr.intro (n := 29) Tryz.func53 rfl Tryz.ntmps53 rfl (fun w0 ok F β hβ => ?_)
 unfold V_bank_Right_1 at hm
 refine C.seq (U.start ?_)
 refine U.pd 1 T (C.nx (C.seq ?_))
 refine C.jn (fun (x3 : Bool) => [(4, .b x3)]) (fun (x3 : Bool) => []) 0 hm (fun x3 hm => ?_) (fun J4 hm hJ4 => ?_)
 refine C.nx (C.ret ?_)
 exact C.f1 T hβ ⟨x3, hm, rfl, rfl, rfl⟩
 refine U.start ?_
 refine U.ps 3 T rfl ?_
 refine hm.cs (fun hb5 hm => ?_) (fun hb5 hm => ?_)
 refine U.sks 6 2 false 7 hb5 rfl rfl rfl ?_
 refine U.pk hb5 ?_
 refine U.ps 1 T rfl ?_
 refine U.sks 7 10 false 15 rfl rfl rfl rfl ?_
 refine U.pk rfl ?_
 refine U.ps 1 T rfl ?_
 refine U.sks 3 19 false 24 rfl rfl rfl rfl ?_
 refine U.pk rfl ?_
 refine U.pd 1 T ?_
 exact St.wn (hJ4 _ hm)
 refine U.pg 6 2 false 7 hb5 T rfl rfl rfl rfl ?_
 refine U.pk' hb5 ?_
 refine U.ps 1 T rfl ?_
 refine hm.cs (fun hb6 hm => ?_) (fun hb6 hm => ?_)
 refine U.sks 7 10 false 15 hb6 rfl rfl rfl ?_
 refine U.pk hb6 ?_
 refine U.ps 1 T rfl ?_
 refine U.sks 3 19 false 24 rfl rfl rfl rfl ?_
 refine U.pk rfl ?_
 refine U.pd 1 T ?_
 exact St.wn (hJ4 _ hm)
 refine U.pg 4 10 false 15 hb6 T rfl rfl rfl rfl ?_
 obtain ⟨x7, hx7, hm⟩ := hm
 refine U.r rfl (.take 10 false 15 _ hb6 rfl rfl rfl) rfl rfl (by exact Rd.ix T rfl rfl rfl rfl rfl rfl hx7) ?_
 refine U.pg 2 10 false 15 hb6 T rfl rfl rfl rfl ?_
 refine U.pk' hb6 ?_
 refine U.ps 1 T rfl ?_
 refine hm.cs (fun hb8 hm => ?_) (fun hb8 hm => ?_)
 refine U.sks 3 19 false 24 hb8 rfl rfl rfl ?_
 refine U.pk hb8 ?_
 refine U.pd 1 T ?_
 exact St.wn (hJ4 _ hm)
 refine U.pg 2 19 false 24 hb8 T rfl rfl rfl rfl ?_
 refine U.k (T_slices_Contains_int_int c1 c _ hm) en54 (fun x9 hm => ?_) (hw := .take 19 false 24 _ hb8 rfl rfl rfl)
 refine U.pk' hb8 ?_
 refine U.pd 1 T ?_
 exact St.wn (hJ4 _ hm)
theorem T_slices_IndexFunc_int_int__bank_Right_1 (s_1 : List Int) (f_c0 : ApiSite) (f_c1 : List Int) (post : Int → Prop) (hm : V_slices_IndexFunc_int_int__bank_Right_1 s_1 f_c0 f_c1 post) :
    Tr Tryz.prog 94 [.sl 1 eI s_1, .fn (.func 53) [] [.rp [.i f_c0.Floor.W, .i f_c0.Floor.H, .i f_c0.Floor.D, .sl 1 eI f_c0.Floor.Kind, .sl 1 eI f_c0.Floor.Out, .sl 5 eApiZone f_c0.Zones, .sl 2 eApiApart f_c0.Aparts, .sl 2 eApiShelf f_c0.Shelves, .sl 2 eApiStart f_c0.Robots], .rp [.sl 1 eI f_c1]]] [] 0 (fun A H' k => ∃ y, post y ∧ A = (.i y) ∧ H' = [] ∧ k = 0) := by
 refine Tr.intro (n := 19) Tryz.func94 rfl Tryz.ntmps94 rfl (fun w0 ok F β hβ => ?_)
 unfold V_slices_IndexFunc_int_int__bank_Right_1 at hm
 refine C.seq (U.start ?_)
 refine U.pd 1 T (C.nx (C.seq (C.seq (U.start ?_))))
 refine U.pd 3 T (C.nx ?_)
 refine C.jn (fun (x5 : Unit) => []) (fun (x5 : Unit) => []) 0 hm (fun x5 hm => ?_) (fun J6 hm hJ6 => ?_)
 refine C.nx (C.seq (U.start ?_))
 refine U.pd 1 T (C.nx (C.ret ?_))
 exact C.f1 T hβ ⟨(-1), hm, rfl, rfl, rfl⟩
 refine C.block ?_
 refine St.wk (C.loop (fun (s7 : Int) => [(0, .sl 1 eI s_1), (1, .fn (.func 53) [] [.rp [.i f_c0.Floor.W, .i f_c0.Floor.H, .i f_c0.Floor.D, .sl 1 eI f_c0.Floor.Kind, .sl 1 eI f_c0.Floor.Out, .sl 5 eApiZone f_c0.Zones, .sl 2 eApiApart f_c0.Aparts, .sl 2 eApiShelf f_c0.Shelves, .sl 2 eApiStart f_c0.Robots], .rp [.sl 1 eI f_c1]]), (7, .i (s_1.length : Int)), (8, .i s7)]) (fun (s7 : Int) => []) hm (fun s7 Y8 hm => ?_)) (Wk.e)
 refine C.seq (U.start ?_)
 refine U.pd 1 T (C.nx (C.seq ?_))
 refine C.ite rfl hm (fun hb11 hm => ?_) (fun hb11 hm => ?_)
 refine C.skip (C.nx (C.seq (C.block (C.seq (U.start ?_)))))
 refine U.pd 2 T (C.nx (C.seq (U.start ?_)))
 refine U.ps 3 T rfl ?_
 obtain ⟨x16, hx16, hm⟩ := hm
 refine U.r rfl (.none rfl) rfl rfl (by exact Rd.ix T rfl rfl rfl rfl rfl rfl hx16) ?_
 refine U.ps 1 T rfl ?_
 refine U.k (T_bank_Right_1 x16 f_c0 f_c1 _ hm) en53 (fun x17 hm => ?_)
 refine U.done (C.nx ?_)
 refine C.ite rfl hm (fun hb18 hm => ?_) (fun hb18 hm => ?_)
 refine C.seq (U.start ?_)
 refine U.pd 2 T (C.nx (C.ret (C.brt (C.rt (C.rt (C.brt (C.rt ?_)))))))
 exact C.f1 T hβ ⟨s7, hm, rfl, rfl, rfl⟩
 refine C.skip (C.bnx (C.nx (U.start ?_)))
 refine U.pd 2 T (C.nx ?_)
 exact St.wk (C.next hm) (Wk.e)
 refine C.exit (C.ex (C.ex (C.bex ?_)))
 exact St.wk (hJ6 _ hm) (Wk.mk' [] rfl rfl trivial trivial rfl)
theorem T_slices_ContainsFunc_int_int__bank_Right_1 (s_1 : List Int) (f_c0 : ApiSite) (f_c1 : List Int) (post : Bool → Prop) (hm : V_slices_ContainsFunc_int_int__bank_Right_1 s_1 f_c0 f_c1 post) :
    Tr Tryz.prog 52 [.sl 1 eI s_1, .fn (.func 53) [] [.rp [.i f_c0.Floor.W, .i f_c0.Floor.H, .i f_c0.Floor.D, .sl 1 eI f_c0.Floor.Kind, .sl 1 eI f_c0.Floor.Out, .sl 5 eApiZone f_c0.Zones, .sl 2 eApiApart f_c0.Aparts, .sl 2 eApiShelf f_c0.Shelves, .sl 2 eApiStart f_c0.Robots], .rp [.sl 1 eI f_c1]]] [] 0 (fun A H' k => ∃ y, post y ∧ A = (.b y) ∧ H' = [] ∧ k = 0) := by
 refine Tr.intro (n := 9) Tryz.func52 rfl Tryz.ntmps52 rfl (fun w0 ok F β hβ => ?_)
 unfold V_slices_ContainsFunc_int_int__bank_Right_1 at hm
 refine C.seq (U.start ?_)
 refine U.pd 1 T (C.nx (C.seq (U.start ?_)))
 refine U.ps 2 T rfl ?_
 refine U.k (T_slices_IndexFunc_int_int__bank_Right_1 s_1 f_c0 f_c1 _ hm) en94 (fun x5 hm => ?_)
 refine U.pd 2 T (C.nx (C.ret ?_))
 exact C.f1 T hβ ⟨decide (x5 ≥ 0), hm, rfl, rfl, rfl⟩
theorem T_bank_Right (s_1 : ApiSite) (st : ApiState) (homes : List Int) (post : Bool → Prop) (hm : V_bank_Right s_1 st homes post) :
    Tr Tryz.prog 13 [.agg (eApiSite s_1), .agg (eApiState st), .sl 1 eI homes] [] 0 (fun A H' k => ∃ y, post y ∧ A = (.b y) ∧ H' = [] ∧ k = 0) := by
 refine Tr.intro (n := 49) Tryz.func13 rfl Tryz.ntmps13 rfl (fun w0 ok F β hβ => ?_)
 unfold V_bank_Right at hm
 refine C.seq (U.start ?_)
 refine U.bx ?_
 refine U.bx ?_
 refine U.pd 1 T (C.nx (C.seq (C.seq ?_)))
 refine C.jn (fun (x3 : Bool) => [(2, .sl 1 eI homes), (3, .p 0 0), (4, .p 1 0), (23, .b x3)]) (fun (x3 : Bool) => [(0, .box (eApiSite s_1)), (1, .box (eApiState st))]) 2 hm (fun x3 hm => ?_) (fun J4 hm hJ4 => ?_)
 refine C.nx ?_
 refine C.ite rfl hm (fun hb7 hm => ?_) (fun hb7 hm => ?_)
 refine C.seq (U.start ?_)
 refine U.pd 1 T (C.nx (C.ret (C.rt ?_)))
 exact C.f1 T hβ ⟨false, hm, rfl, rfl, rfl⟩
 refine C.skip (C.nx (C.seq ?_))
 refine C.jn (fun (x10 : List Int) => [(2, .sl 1 eI homes), (3, .p 0 0), (4, .p 1 0), (7, .p 2 0)]) (fun (x10 : List Int) => [(0, .box (eApiSite s_1)), (1, .box (eApiState st)), (2, .box [.o 3]), (3, .val (.os 1 eI x10))]) 4 hm (fun x10 hm => ?_) (fun J11 hm hJ11 => ?_)
 refine C.nx (C.seq (C.seq (U.start ?_)))
 refine U.pd 4 T (C.nx ?_)
 refine C.jn (fun (x16 : List Int) => [(2, .sl 1 eI homes), (3, .p 0 0), (7, .p 1 0)]) (fun (x16 : List Int) => [(0, .box (eApiSite s_1)), (1, .box [.o 2]), (2, .val (.os 1 eI x16))]) 3 hm (fun x16 hm => ?_) (fun J17 hm hJ17 => ?_)
 refine C.nx (C.seq (U.start ?_))
 refine U.ps 2 T rfl ?_
 refine U.k (T_slices_ContainsFunc_int_int__bank_Right_1 homes s_1 x16 _ hm) en52 (fun x38 hm => ?_)
 refine U.pd 2 T (C.nx (C.ret ?_))
 exact C.f1 T hβ ⟨!x38, hm, rfl, rfl, rfl⟩
 refine C.block ?_
 refine St.wk (C.loop (fun (s18 : List Int × Int) => [(2, .sl 1 eI homes), (3, .p 0 0), (7, .p 1 0), (31, .sl 6 eApiRobot st.Robots), (32, .i (st.Robots.length : Int)), (33, .i s18.2)]) (fun (s18 : List Int × Int) => [(0, .box (eApiSite s_1)), (1, .box [.o 2]), (2, .val (.os 1 eI s18.1))]) hm (fun s18 Y19 hm => ?_)) (Wk.a [some 0, some 2, some 3])
 refine C.seq (U.start ?_)
 refine U.pd 1 T (C.nx (C.seq ?_))
 refine C.ite rfl hm (fun hb22 hm => ?_) (fun hb22 hm => ?_)
 refine C.skip (C.nx (C.seq (C.block (C.seq (U.start ?_)))))
 obtain ⟨x25, hx25, hm⟩ := hm
 refine U.r rfl (.none rfl) rfl rfl (by exact Rd.ix T rfl rfl rfl rfl rfl rfl hx25) ?_
 refine U.ps 1 T rfl ?_
 refine U.e1 rfl (.none rfl) (by exact Eff1.al T rfl rfl rfl rfl) ?_
 refine U.e1 rfl (.none rfl) (by exact Eff1.st T rfl rfl rfl rfl rfl rfl rfl rfl rfl rfl) ?_
 refine U.done (C.nx (C.seq (U.start ?_)))
 refine U.pd 2 T (C.nx ?_)
 refine C.jn (fun (x28 : List Int) => [(2, .sl 1 eI homes), (3, .p 0 0), (7, .p 1 0), (31, .sl 6 eApiRobot st.Robots), (32, .i (st.Robots.length : Int)), (33, .i s18.2)]) (fun (x28 : List Int) => [(0, .box (eApiSite s_1)), (1, .box [.o 2]), (2, .val (.os 1 eI x28))]) 3 hm (fun x28 hm => ?_) (fun J29 hm hJ29 => ?_)
 refine C.bnx (C.nx (U.start ?_))
 refine U.pd 2 T (C.nx ?_)
 exact St.wk (C.next hm) (Wk.a (idR 3))
 refine C.ite rfl hm (fun hb30 hm => ?_) (fun hb30 hm => ?_)
 refine U.start ?_
 refine U.ps 3 T rfl ?_
 refine U.e1 rfl (.none rfl) (by exact Eff1.bs T (enc := eI) (xs := ([x25.Cell] : List Int)) rfl rfl rfl rfl rfl rfl rfl rfl rfl rfl (fun _ _ => rfl) rfl rfl) ?_
 obtain ⟨hx33, hm⟩ := hm
 refine U.e1 rfl (.none rfl) (by exact Eff1.ap T rfl rfl rfl rfl rfl rfl (.inr ⟨_, rfl, rfl⟩) rfl rfl rfl (fun _ => rfl) rfl hx33) ?_
 refine U.e1 rfl (.none rfl) (by exact Eff1.st T rfl rfl rfl rfl rfl rfl rfl rfl rfl rfl) ?_
 refine U.done ?_
 exact St.wa [some 0, some 1, some 5] (hJ29 _ hm)
 refine C.skip ?_
 exact St.wa (idR 3) (hJ29 _ hm)
 refine C.exit (C.ex (C.ex (C.bex ?_)))
 exact St.wa (idR 3) (hJ17 _ hm)
 refine D.beg 7 [1] [2, 3, 4] mix rfl rfl (by kernel_rfl) (by repeat (first | exact NoPanicQ.body | exact NoPanicQ.rnd | refine NoPanicQ.th ?_ | refine NoPanicQ.blk ?_ | refine NoPanicQ.ng ?_)) (fun hQ hS ws M' => ?_)
 refine D.ps 4 [(0, []), (1, []), (3, []), (4, [])] rfl hQ hS T rfl rfl (by kernel_rfl) ?_
 refine D.two 2 6 (by kernel_rfl) ?_ ?_
 refine D.ef rfl (.none rfl) (by exact Eff.c [] (v := true) (T_slices_Clone_int_int st.Dead _ hm) en51 rfl rfl rfl (.eq rfl) trivial rfl rfl rfl rfl rfl rfl (fun _ _ => ⟨(.o _), ⟨.val (.os _ _ _ fun _ => (.cons (.v _) .nil)), trivial⟩⟩) (.inr ⟨rfl, rfl⟩) (fun _ => rfl) (fun _ => rfl) rfl) rfl rfl (fun x12' hm => ?_)
 obtain ⟨x12⟩ := x12'
 obtain ⟨hx13, hm⟩ := hm
 refine D.have false [(2, .sl 1 eI homes), (3, .p 0 0), (4, .p 1 0), (7, .p 4 0), (23, .b x3), (24, .p 1 4), (25, .sl 1 eI st.Dead), (26, .o 2), (27, .p 1 3), (28, .sl 1 eI st.People), (29, .o 3)] [(0, .box (eApiSite s_1)), (1, .box (eApiState st)), (3, .val (.os 1 eI (x12 ++ st.People))), (4, .box [.v (.slice none 0 0)])] 5 1 #[true, true, true, true, true, true, true, false] ?_ (fun hd12_3 => ?_)
 refine D.ze1 rfl (.none rfl) (by exact Eff1.st T rfl rfl rfl rfl rfl rfl rfl rfl rfl rfl) (by kernel_rfl) (by kernel_rfl) ?_
 exact St.wa [some 0, some 1, some 4, some 3] (hJ11 _ hm)
 refine D.have false [(2, .sl 1 eI homes), (3, .p 0 0), (4, .p 1 0), (23, .b x3), (24, .p 1 4), (25, .sl 1 eI st.Dead), (26, .o 2), (27, .p 1 3), (28, .sl 1 eI st.People), (29, .o 3)] [(0, .box (eApiSite s_1)), (1, .box (eApiState st)), (3, .val (.os 1 eI (x12 ++ st.People)))] 4 2 #[true, true, true, true, true, true, false, false] ?_ (fun hd12_1 => ?_)
 refine D.all 6 [] (by kernel_rfl) ⟨?_, trivial⟩
 refine D.ef1 rfl (.none rfl) (by exact Eff1.al T rfl rfl rfl rfl) rfl rfl ?_
 exact D.to [some 0, some 1, some 2, some 3, some 4] hd12_3 (by kernel_rfl) rfl rfl (.eqs rfl) ⟨bX, bX, vL, bX, trivial⟩ rfl rfl rfl
 refine D.have false [(2, .sl 1 eI homes), (3, .p 0 0), (4, .p 1 0), (7, .p 3 0), (23, .b x3), (24, .p 1 4), (25, .sl 1 eI st.Dead), (26, .o 2), (27, .p 1 3), (28, .sl 1 eI st.People)] [(0, .box (eApiSite s_1)), (1, .box (eApiState st)), (2, .val (.os 1 eI x12)), (3, .box [.v (.slice none 0 0)])] 4 2 #[true, true, true, true, true, false, true, false] ?_ (fun hd12_2 => ?_)
 refine D.all 5 [] (by kernel_rfl) ⟨?_, trivial⟩
 refine D.ef1 rfl (.none rfl) (by exact Eff1.ap T rfl rfl rfl rfl rfl rfl (.inl rfl) rfl rfl rfl (fun _ => rfl) rfl hx13) rfl rfl ?_
 exact D.to [some 0, some 1, some 2, some 4, some 3] hd12_3 (by kernel_rfl) rfl rfl (.eqs rfl) ⟨bX, bX, vL, bX, trivial⟩ rfl rfl rfl
 refine D.all 5 [6] (by kernel_rfl) ⟨?_, ?_, trivial⟩
 refine D.ef1 rfl (.none rfl) (by exact Eff1.ap T rfl rfl rfl rfl rfl rfl (.inl rfl) rfl rfl rfl (fun _ => rfl) rfl hx13) rfl rfl ?_
 exact D.to [some 0, some 1, some 2, some 3] hd12_1 (by kernel_rfl) rfl rfl (.eqs rfl) ⟨bX, bX, vL, trivial⟩ rfl rfl rfl
 refine D.ef1 rfl (.none rfl) (by exact Eff1.al T rfl rfl rfl rfl) rfl rfl ?_
 exact D.to [some 0, some 1, some 2, some 3] hd12_2 (by kernel_rfl) rfl rfl (.eqs rfl) ⟨bX, bX, vL, bX, trivial⟩ rfl rfl rfl
 refine D.ef1 rfl (.none rfl) (by exact Eff1.al T rfl rfl rfl rfl) rfl rfl ?_
 refine D.k 2 (T_slices_Clone_int_int st.Dead _ hm) en51 (fun x12 hm => ?_)
 obtain ⟨hx13, hm⟩ := hm
 refine D.e1 5 rfl (.none rfl) (by exact Eff1.ap T rfl rfl rfl rfl rfl rfl (.inl rfl) rfl rfl rfl (fun _ => rfl) rfl hx13) (by kernel_rfl) rfl rfl ?_
 refine D.ze1 rfl (.none rfl) (by exact Eff1.st T rfl rfl rfl rfl rfl rfl rfl rfl rfl rfl) (by kernel_rfl) (by kernel_rfl) ?_
 exact St.wa [some 0, some 1, some 2, some 4] (hJ11 _ hm)
 refine U.start ?_
 refine U.ps 7 T rfl ?_
 refine hm.cs (fun hb5 hm => ?_) (fun hb5 hm => ?_)
 refine U.sks 6 6 false 16 hb5 rfl rfl rfl ?_
 refine U.pk hb5 ?_
 refine U.done ?_
 exact St.wa (idR 2) (hJ4 _ hm)
 refine U.pg 1 6 false 16 hb5 T rfl rfl rfl rfl ?_
 refine U.k (T_region_Of homes _ hm) en50 (fun x6 hm => ?_) (hw := .take 6 false 16 _ hb5 rfl rfl rfl)
 refine U.pg 4 6 false 16 hb5 T rfl rfl rfl rfl ?_
 refine U.pk' hb5 ?_
 refine U.done ?_
 exact St.wa (idR 2) (hJ4 _ hm)
theorem T_taquinref07_Size (f : ApiFloor) (post : Int → Prop) (hm : V_taquinref07_Size f post) :
    Tr Tryz.prog 96 [.agg (eApiFloor f)] [] 0 (fun A H' k => ∃ y, post y ∧ A = (.i y) ∧ H' = [] ∧ k = 0) := by
 refine Tr.intro (n := 11) Tryz.func96 rfl Tryz.ntmps96 rfl (fun w0 ok F β hβ => ?_)
 unfold V_taquinref07_Size at hm
 refine C.seq (U.start ?_)
 refine U.bx ?_
 refine U.pd 1 T (C.nx (C.seq (U.start ?_)))
 refine U.pd 9 T (C.nx (C.ret ?_))
 exact C.f1 T hβ ⟨w64 ((w64 (f.W * f.H)) * f.D), hm, rfl, rfl, rfl⟩
theorem T_taquinref07_Is (f : ApiFloor) (c : Int) (post : Bool → Prop) (hm : V_taquinref07_Is f c post) :
    Tr Tryz.prog 55 [.agg (eApiFloor f), .i c] [] 0 (fun A H' k => ∃ y, post y ∧ A = (.b y) ∧ H' = [] ∧ k = 0) := by
 refine Tr.intro (n := 13) Tryz.func55 rfl Tryz.ntmps55 rfl (fun w0 ok F β hβ => ?_)
 unfold V_taquinref07_Is at hm
 refine C.seq (U.start ?_)
 refine U.bx ?_
 refine U.pd 1 T (C.nx (C.seq ?_))
 refine C.jn (fun (x3 : Bool) => [(4, .b x3)]) (fun (x3 : Bool) => []) 0 hm (fun x3 hm => ?_) (fun J4 hm hJ4 => ?_)
 refine C.nx (C.ret ?_)
 exact C.f1 T hβ ⟨x3, hm, rfl, rfl, rfl⟩
 refine U.start ?_
 refine U.ps 3 T rfl ?_
 refine hm.cs (fun hb5 hm => ?_) (fun hb5 hm => ?_)
 refine U.pg 2 2 true 7 hb5 T rfl rfl rfl rfl ?_
 refine U.k (T_taquinref07_Size f _ hm) en96 (fun x6 hm => ?_) (hw := .take 2 true 7 _ hb5 rfl rfl rfl)
 refine U.pg 1 2 true 7 hb5 T rfl rfl rfl rfl ?_
 refine U.pk hb5 ?_
 refine U.pd 1 T ?_
 exact St.wn (hJ4 _ hm)
 refine U.sks 4 2 true 7 hb5 rfl rfl rfl ?_
 refine U.pk' hb5 ?_
 refine U.pd 1 T ?_
 exact St.wn (hJ4 _ hm)
theorem T_taquinref07_Has (l : List Int) (n : Int) (post : Bool → Prop) (hm : V_taquinref07_Has l n post) :
    Tr Tryz.prog 23 [.sl 1 eI l, .i n] [] 0 (fun A H' k => ∃ y, post y ∧ A = (.b y) ∧ H' = [] ∧ k = 0) := by
 refine Tr.intro (n := 18) Tryz.func23 rfl Tryz.ntmps23 rfl (fun w0 ok F β hβ => ?_)
 unfold V_taquinref07_Has at hm
 refine C.seq (U.start ?_)
 refine U.pd 1 T (C.nx (C.seq (C.seq (U.start ?_))))
 refine U.pd 1 T (C.nx ?_)
 refine C.jn (fun (x5 : Unit) => []) (fun (x5 : Unit) => []) 0 hm (fun x5 hm => ?_) (fun J6 hm hJ6 => ?_)
 refine C.nx (C.seq (U.start ?_))
 refine U.pd 1 T (C.nx (C.ret ?_))
 exact C.f1 T hβ ⟨false, hm, rfl, rfl, rfl⟩
 refine C.block ?_
 refine St.wk (C.loop (fun (s7 : Int) => [(0, .sl 1 eI l), (1, .i n), (5, .i s7)]) (fun (s7 : Int) => []) hm (fun s7 Y8 hm => ?_)) (Wk.e)
 refine C.seq (C.seq (U.start ?_))
 refine U.pd 4 T (C.nx ?_)
 refine C.ite rfl hm (fun hb11 hm => ?_) (fun hb11 hm => ?_)
 refine C.skip (C.nx (C.seq (C.block (C.seq (U.start ?_)))))
 refine U.ps 2 T rfl ?_
 obtain ⟨x14, hx14, hm⟩ := hm
 refine U.r rfl (.none rfl) rfl rfl (by exact Rd.ix T rfl rfl rfl rfl rfl rfl hx14) ?_
 refine U.pd 3 T (C.nx ?_)
 refine C.ite rfl hm (fun hb15 hm => ?_) (fun hb15 hm => ?_)
 refine C.seq (U.start ?_)
 refine U.pd 1 T (C.nx (C.ret (C.brt (C.rt (C.rt (C.brt (C.rt ?_)))))))
 exact C.f1 T hβ ⟨true, hm, rfl, rfl, rfl⟩
 refine C.skip (C.bnx (C.nx (U.start ?_)))
 refine U.pd 3 T (C.nx ?_)
 exact St.wk (C.next hm) (Wk.e)
 refine C.exit (C.ex (C.ex (C.bex ?_)))
 exact St.wk (hJ6 _ hm) (Wk.mk' [] rfl rfl trivial trivial rfl)
theorem T_taquinref21_Right (s_1 : ApiSite) (st : ApiState) (homes : List Int) (post : Bool → Prop) (hm : V_taquinref21_Right s_1 st homes post) :
    Tr Tryz.prog 14 [.agg (eApiSite s_1), .agg (eApiState st), .sl 1 eI homes] [] 0 (fun A H' k => ∃ y, post y ∧ A = (.b y) ∧ H' = [] ∧ k = 0) := by
 refine Tr.intro (n := 80) Tryz.func14 rfl Tryz.ntmps14 rfl (fun w0 ok F β hβ => ?_)
 unfold V_taquinref21_Right at hm
 refine C.seq (U.start ?_)
 refine U.bx ?_
 refine U.bx ?_
 refine U.pd 1 T (C.nx (C.seq (C.seq (U.start ?_))))
 refine U.pd 6 T (C.nx ?_)
 refine C.ite rfl hm (fun hb5 hm => ?_) (fun hb5 hm => ?_)
 refine C.seq (U.start ?_)
 refine U.pd 1 T (C.nx (C.ret (C.rt ?_)))
 exact C.f1 T hβ ⟨false, hm, rfl, rfl, rfl⟩
 refine C.skip (C.nx (C.seq (C.seq (U.start ?_))))
 refine U.pd 1 T (C.nx ?_)
 refine C.jn (fun (x10 : Unit) => []) (fun (x10 : Unit) => []) 0 hm (fun x10 hm => ?_) (fun J11 hm hJ11 => ?_)
 refine C.nx (C.seq (U.start ?_))
 refine U.pd 1 T (C.nx (C.ret ?_))
 exact C.f1 T hβ ⟨true, hm, rfl, rfl, rfl⟩
 refine C.block ?_
 refine St.wk (C.loop (fun (s12 : Int) => [(2, .sl 1 eI homes), (3, .p 0 0), (4, .p 1 0), (7, .i s12)]) (fun (s12 : Int) => [(0, .box (eApiSite s_1)), (1, .box (eApiState st))]) hm (fun s12 Y13 hm => ?_)) (Wk.a (idR 2))
 refine C.seq (C.seq (U.start ?_))
 refine U.pd 4 T (C.nx ?_)
 refine C.ite rfl hm (fun hb16 hm => ?_) (fun hb16 hm => ?_)
 refine C.skip (C.nx (C.seq ?_))
 refine C.jn (fun (x17 : Unit) => [(2, .sl 1 eI homes), (3, .p 0 0), (4, .p 1 0), (7, .i s12)]) (fun (x17 : Unit) => [(0, .box (eApiSite s_1)), (1, .box (eApiState st))]) 2 hm (fun x17 hm => ?_) (fun J18 hm hJ18 => ?_)
 refine C.nx (U.start ?_)
 refine U.pd 3 T (C.nx ?_)
 exact St.wk (C.next hm) (Wk.a (idR 2))
 refine C.block (C.seq (U.start ?_))
 refine U.ps 2 T rfl ?_
 obtain ⟨x21, hx21, hm⟩ := hm
 refine U.r rfl (.none rfl) rfl rfl (by exact Rd.ix T rfl rfl rfl rfl rfl rfl hx21) ?_
 refine U.pd 2 T (C.nx (C.seq (C.seq (U.start ?_))))
 refine U.ps 3 T rfl ?_
 refine U.k (T_taquinref07_Is s_1.Floor x21 _ hm) en55 (fun x24 hm => ?_)
 refine U.pd 1 T (C.nx ?_)
 refine C.ite rfl hm (fun hb25 hm => ?_) (fun hb25 hm => ?_)
 refine C.seq (U.start ?_)
 refine U.pd 1 T (C.nx (C.ret (C.rt (C.brt (C.rt (C.rt (C.brt (C.rt ?_))))))))
 exact C.f1 T hβ ⟨false, hm, rfl, rfl, rfl⟩
 refine C.skip (C.nx (C.seq (C.seq ?_)))
 refine C.jn (fun (x28 : Bool) => [(2, .sl 1 eI homes), (3, .p 0 0), (4, .p 1 0), (7, .i s12), (8, .i x21), (56, .b x28)]) (fun (x28 : Bool) => [(0, .box (eApiSite s_1)), (1, .box (eApiState st))]) 2 hm (fun x28 hm => ?_) (fun J29 hm hJ29 => ?_)
 refine C.nx ?_
 refine C.ite rfl hm (fun hb38 hm => ?_) (fun hb38 hm => ?_)
 refine C.seq (U.start ?_)
 refine U.pd 1 T (C.nx (C.ret (C.rt (C.brt (C.rt (C.rt (C.brt (C.rt ?_))))))))
 exact C.f1 T hβ ⟨false, hm, rfl, rfl, rfl⟩
 refine C.skip (C.nx (C.seq (U.start ?_)))
 refine U.pd 1 T (C.nx ?_)
 refine C.jn (fun (x43 : Unit) => [(2, .sl 1 eI homes), (3, .p 0 0), (4, .p 1 0), (7, .i s12)]) (fun (x43 : Unit) => [(0, .box (eApiSite s_1)), (1, .box (eApiState st))]) 2 hm (fun x43 hm => ?_) (fun J44 hm hJ44 => ?_)
 refine C.bnx ?_
 exact St.wa (idR 2) (hJ18 _ hm)
 refine C.block ?_
 refine St.wk (C.loop (fun (s45 : Int) => [(2, .sl 1 eI homes), (3, .p 0 0), (4, .p 1 0), (7, .i s12), (8, .i x21), (9, .i s45)]) (fun (s45 : Int) => [(0, .box (eApiSite s_1)), (1, .box (eApiState st))]) hm (fun s45 Y46 hm => ?_)) (Wk.a (idR 2))
 refine C.seq (C.seq (U.start ?_))
 refine U.pd 5 T (C.nx ?_)
 refine C.ite rfl hm (fun hb49 hm => ?_) (fun hb49 hm => ?_)
 refine C.skip (C.nx (C.seq (C.block (C.seq ?_))))
 refine C.jn (fun (x50 : Bool) => [(2, .sl 1 eI homes), (3, .p 0 0), (4, .p 1 0), (7, .i s12), (8, .i x21), (9, .i s45), (79, .b x50)]) (fun (x50 : Bool) => [(0, .box (eApiSite s_1)), (1, .box (eApiState st))]) 2 hm (fun x50 hm => ?_) (fun J51 hm hJ51 => ?_)
 refine C.nx ?_
 refine C.ite rfl hm (fun hb54 hm => ?_) (fun hb54 hm => ?_)
 refine C.seq (U.start ?_)
 refine U.pd 1 T (C.nx (C.ret (C.brt (C.rt (C.rt (C.brt (C.brt (C.rt (C.rt (C.brt (C.rt ?_)))))))))))
 exact C.f1 T hβ ⟨false, hm, rfl, rfl, rfl⟩
 refine C.skip (C.bnx (C.nx (U.start ?_)))
 refine U.pd 3 T (C.nx ?_)
 exact St.wk (C.next hm) (Wk.a (idR 2))
 refine U.start ?_
 refine U.ps 3 T rfl ?_
 obtain ⟨x52, hx52, hm⟩ := hm
 refine U.r rfl (.none rfl) rfl rfl (by exact Rd.ix T rfl rfl rfl rfl rfl rfl hx52) ?_
 refine U.ps 3 T rfl ?_
 refine hm.cs (fun hb53 hm => ?_) (fun hb53 hm => ?_)
 refine U.pg 3 6 true 70 hb53 T rfl rfl rfl rfl ?_
 refine U.r rfl (.take 6 true 70 _ hb53 rfl rfl rfl) rfl rfl (by exact Rd.ix T rfl rfl rfl rfl rfl rfl hx52) ?_
 refine U.pg 4 6 true 70 hb53 T rfl rfl rfl rfl ?_
 refine U.pk hb53 ?_
 refine U.done ?_
 exact St.wa (idR 2) (hJ51 _ hm)
 refine U.sks 8 6 true 70 hb53 rfl rfl rfl ?_
 refine U.pk' hb53 ?_
 refine U.done ?_
 exact St.wa (idR 2) (hJ51 _ hm)
 refine C.exit (C.ex (C.ex (C.bex ?_)))
 exact St.wa (idR 2) (hJ44 _ hm)
 refine U.start ?_
 refine U.ps 4 T rfl ?_
 obtain ⟨x30, hx30, hm⟩ := hm
 refine U.r rfl (.none rfl) rfl rfl (by exact Rd.ix T rfl rfl rfl rfl rfl rfl hx30) ?_
 refine U.ps 3 T rfl ?_
 refine hm.cs (fun hb31 hm => ?_) (fun hb31 hm => ?_)
 refine U.sks 4 7 false 38 hb31 rfl rfl rfl ?_
 refine U.pk hb31 ?_
 refine U.ps 1 T rfl ?_
 refine U.sks 4 13 false 44 rfl rfl rfl rfl ?_
 refine U.pk rfl ?_
 refine U.ps 1 T rfl ?_
 refine U.sks 5 19 false 50 rfl rfl rfl rfl ?_
 refine U.pk rfl ?_
 refine U.done ?_
 exact St.wa (idR 2) (hJ29 _ hm)
 refine U.pg 3 7 false 38 hb31 T rfl rfl rfl rfl ?_
 refine U.k (T_taquinref07_Has st.Dead x21 _ hm) en23 (fun x32 hm => ?_) (hw := .take 7 false 38 _ hb31 rfl rfl rfl)
 refine U.pk' hb31 ?_
 refine U.ps 1 T rfl ?_
 refine hm.cs (fun hb33 hm => ?_) (fun hb33 hm => ?_)
 refine U.sks 4 13 false 44 hb33 rfl rfl rfl ?_
 refine U.pk hb33 ?_
 refine U.ps 1 T rfl ?_
 refine U.sks 5 19 false 50 rfl rfl rfl rfl ?_
 refine U.pk rfl ?_
 refine U.done ?_
 exact St.wa (idR 2) (hJ29 _ hm)
 refine U.pg 3 13 false 44 hb33 T rfl rfl rfl rfl ?_
 refine U.k (T_taquinref07_Has st.People x21 _ hm) en23 (fun x34 hm => ?_) (hw := .take 13 false 44 _ hb33 rfl rfl rfl)
 refine U.pk' hb33 ?_
 refine U.ps 1 T rfl ?_
 refine hm.cs (fun hb35 hm => ?_) (fun hb35 hm => ?_)
 refine U.sks 5 19 false 50 hb35 rfl rfl rfl ?_
 refine U.pk hb35 ?_
 refine U.done ?_
 exact St.wa (idR 2) (hJ29 _ hm)
 refine U.pg 2 19 false 50 hb35 T rfl rfl rfl rfl ?_
 obtain ⟨hx36, hm⟩ := hm
 refine U.r rfl (.take 19 false 50 _ hb35 rfl rfl rfl) rfl rfl (by exact Rd.so T rfl rfl rfl rfl rfl (.none _) (.some _ rfl) hx36) ?_
 refine U.pg 1 19 false 50 hb35 T rfl rfl rfl rfl ?_
 refine U.k (T_taquinref07_Has (sub homes 0 s12) x21 _ hm) en23 (fun x37 hm => ?_) (hw := .take 19 false 50 _ hb35 rfl rfl rfl)
 refine U.pk' hb35 ?_
 refine U.done ?_
 exact St.wa (idR 2) (hJ29 _ hm)
 refine C.exit (C.ex (C.ex (C.bex ?_)))
 exact St.wk (hJ11 _ hm) (Wk.mk' [] rfl rfl trivial trivial rfl)
theorem T_taquinref21_there (st : ApiState) (robot : Int) (post : Bool → Prop) (hm : V_taquinref21_there st robot post) :
    Tr Tryz.prog 61 [.agg (eApiState st), .i robot] [] 0 (fun A H' k => ∃ y, post y ∧ A = (.b y) ∧ H' = [] ∧ k = 0) := by
 refine Tr.intro (n := 21) Tryz.func61 rfl Tryz.ntmps61 rfl (fun w0 ok F β hβ => ?_)
 unfold V_taquinref21_there at hm
 refine C.seq (U.start ?_)
 refine U.bx ?_
 refine U.pd 1 T (C.nx (C.seq (C.seq ?_)))
 refine C.jn (fun (x3 : Bool) => [(1, .i robot), (2, .p 0 0), (13, .b x3)]) (fun (x3 : Bool) => [(0, .box (eApiState st))]) 1 hm (fun x3 hm => ?_) (fun J4 hm hJ4 => ?_)
 refine C.nx ?_
 refine C.ite rfl hm (fun hb6 hm => ?_) (fun hb6 hm => ?_)
 refine C.seq (U.start ?_)
 refine U.pd 1 T (C.nx (C.ret (C.rt ?_)))
 exact C.f1 T hβ ⟨false, hm, rfl, rfl, rfl⟩
 refine C.skip (C.nx (C.seq (U.start ?_)))
 refine U.ps 3 T rfl ?_
 obtain ⟨x11, hx11, hm⟩ := hm
 refine U.r rfl (.none rfl) rfl rfl (by exact Rd.ix T rfl rfl rfl rfl rfl rfl hx11) ?_
 refine U.pd 4 T (C.nx (C.ret ?_))
 exact C.f1 T hβ ⟨!x11.Dead, hm, rfl, rfl, rfl⟩
 refine U.start ?_
 refine U.ps 3 T rfl ?_
 refine hm.cs (fun hb5 hm => ?_) (fun hb5 hm => ?_)
 refine U.sks 5 2 false 7 hb5 rfl rfl rfl ?_
 refine U.pk hb5 ?_
 refine U.done ?_
 exact St.wa [some 0] (hJ4 _ hm)
 refine U.pg 5 2 false 7 hb5 T rfl rfl rfl rfl ?_
 refine U.pk' hb5 ?_
 refine U.done ?_
 exact St.wa [some 0] (hJ4 _ hm)
theorem T_taquinref12_Standing (s_1 : ApiSite) (st : ApiState) (post : (List Int) → Prop) (hm : V_taquinref12_Standing s_1 st post) :
    Tr Tryz.prog 62 [.agg (eApiSite s_1), .agg (eApiState st)] [] 0 (fun A H' k => ∃ y, post y ∧ A = (.o 0) ∧ H' = [(0, .val (.os 1 eI y))] ∧ k = 1) := by
 refine Tr.intro (n := 85) Tryz.func62 rfl Tryz.ntmps62 rfl (fun w0 ok F β hβ => ?_)
 unfold V_taquinref12_Standing at hm
 refine C.seq (U.start ?_)
 refine U.bx ?_
 refine U.bx ?_
 refine U.pd 1 T (C.nx (C.seq (U.start ?_)))
 refine U.ps 4 T rfl ?_
 obtain ⟨hx5, hm⟩ := hm
 refine U.e1 rfl (.none rfl) (by exact Eff1.mk T (enc := eI) (z0 := 0) rfl rfl rfl rfl rfl rfl rfl rfl rfl rfl hx5) ?_
 refine U.pd 1 T (C.nx (C.seq (C.seq (U.start ?_))))
 refine U.pd 1 T (C.nx ?_)
 refine C.jn (fun (x8 : List Int) => [(2, .p 0 0), (3, .p 1 0), (5, .o 2)]) (fun (x8 : List Int) => [(0, .box (eApiSite s_1)), (1, .box (eApiState st)), (2, .val (.os 1 eI x8))]) 3 hm (fun x8 hm => ?_) (fun J9 hm hJ9 => ?_)
 refine C.nx (C.seq (U.start ?_))
 refine U.ps 3 T rfl ?_
 obtain ⟨hx22, hm⟩ := hm
 refine U.e1 rfl (.none rfl) (by exact Eff1.mk T (enc := eB) (z0 := false) rfl rfl rfl rfl rfl rfl rfl rfl rfl rfl hx22) ?_
 refine U.pd 1 T (C.nx (C.seq (C.seq (U.start ?_))))
 refine U.pd 1 T (C.nx ?_)
 refine C.jn (fun (x25 : List Bool) => [(2, .p 0 0), (3, .p 1 0), (5, .o 2), (7, .o 3)]) (fun (x25 : List Bool) => [(0, .box (eApiSite s_1)), (1, .box (eApiState st)), (2, .val (.os 1 eI x8)), (3, .val (.os 1 eB x25))]) 4 hm (fun x25 hm => ?_) (fun J26 hm hJ26 => ?_)
 refine C.nx (C.seq (C.seq (U.start ?_)))
 refine U.pd 5 T (C.nx ?_)
 refine C.jn (fun (x48 : List Int) => [(5, .o 0)]) (fun (x48 : List Int) => [(0, .val (.os 1 eI x48))]) 1 hm (fun x48 hm => ?_) (fun J49 hm hJ49 => ?_)
 refine C.nx (C.seq (U.start ?_))
 refine U.pd 2 T (C.nx (C.ret ?_))
 exact C.g1 [some 0] T hβ ⟨x48, hm, rfl, rfl, rfl⟩
 refine C.block ?_
 refine St.wk (C.loop (fun (s50 : List Int × Int) => [(2, .p 0 0), (3, .p 1 0), (5, .o 2), (7, .o 3), (10, .i s50.2)]) (fun (s50 : List Int × Int) => [(0, .box (eApiSite s_1)), (1, .box (eApiState st)), (2, .val (.os 1 eI s50.1)), (3, .val (.os 1 eB x25))]) hm (fun s50 Y51 hm => ?_)) (Wk.a (idR 4))
 refine C.seq (C.seq (U.start ?_))
 refine U.pd 2 T (C.nx ?_)
 refine C.ite rfl hm (fun hb54 hm => ?_) (fun hb54 hm => ?_)
 refine C.skip (C.nx (C.seq (C.block (C.seq ?_))))
 refine C.jn (fun (x55 : Bool) => [(2, .p 0 0), (3, .p 1 0), (5, .o 2), (7, .o 3), (10, .i s50.2), (75, .b x55)]) (fun (x55 : Bool) => [(0, .box (eApiSite s_1)), (1, .box (eApiState st)), (2, .val (.os 1 eI s50.1)), (3, .val (.os 1 eB x25))]) 4 hm (fun x55 hm => ?_) (fun J56 hm hJ56 => ?_)
 refine C.nx ?_
 refine C.jn (fun (x61 : List Int) => [(2, .p 0 0), (3, .p 1 0), (5, .o 2), (7, .o 3), (10, .i s50.2)]) (fun (x61 : List Int) => [(0, .box (eApiSite s_1)), (1, .box (eApiState st)), (2, .val (.os 1 eI x61)), (3, .val (.os 1 eB x25))]) 4 hm (fun x61 hm => ?_) (fun J62 hm hJ62 => ?_)
 refine C.bnx (C.nx (U.start ?_))
 refine U.pd 3 T (C.nx ?_)
 exact St.wk (C.next hm) (Wk.a (idR 4))
 refine C.ite rfl hm (fun hb63 hm => ?_) (fun hb63 hm => ?_)
 refine U.start ?_
 refine U.ps 4 T rfl ?_
 obtain ⟨x66, hx66, hm⟩ := hm
 refine U.r rfl (.none rfl) rfl rfl (by exact Rd.ix T rfl rfl rfl rfl rfl rfl hx66) ?_
 refine U.ps 2 T rfl ?_
 obtain ⟨x67, hx67, hm⟩ := hm
 refine U.r rfl (.none rfl) rfl rfl (by exact Rd.io T rfl rfl rfl rfl rfl rfl rfl hx67) ?_
 refine U.e1 rfl (.none rfl) (by exact Eff1.se T (z' := s50.2) rfl rfl rfl (idx_some hx67).2.2 rfl rfl rfl rfl rfl rfl rfl rfl (fun _ => rfl) rfl) ?_
 refine U.done ?_
 exact St.wa (idR 4) (hJ62 _ hm)
 refine C.skip ?_
 exact St.wa (idR 4) (hJ62 _ hm)
 refine D.beg 9999 [0, 1, 3] [] mix rfl rfl (by kernel_rfl) (by repeat (first | exact NoPanicQ.body | exact NoPanicQ.rnd | refine NoPanicQ.th ?_ | refine NoPanicQ.blk ?_ | refine NoPanicQ.ng ?_)) (fun hQ hS ws M' => ?_)
 refine D.ps 2 [(0, []), (1, [])] rfl hQ hS T rfl rfl (by kernel_rfl) ?_
 obtain ⟨x57, hx57, hm⟩ := hm
 refine D.q 2 [] hQ hS rfl (.none rfl) rfl rfl (by exact Rd.io T rfl rfl rfl rfl rfl rfl rfl hx57) rfl (by kernel_rfl) ?_
 refine D.q 3 [] hQ hS rfl (.none rfl) rfl rfl (by exact Rd.le T rfl rfl rfl (idx_some hx57).2.2 rfl rfl rfl) rfl (by kernel_rfl) ?_
 refine D.ps 2 [(4, []), (5, [])] rfl hQ hS T rfl rfl (by kernel_rfl) ?_
 refine hm.cs (fun hb58 hm => ?_) (fun hb58 hm => ?_)
 refine D.sx 6 [] hQ hS (.skip 5 true 66 _ (ntF hb58) rfl rfl rfl) ?_
 refine D.sx 7 [] hQ hS (.skip 5 true 66 _ (ntF hb58) rfl rfl rfl) ?_
 refine D.sx 8 [] hQ hS (.skip 5 true 66 _ (ntF hb58) rfl rfl rfl) ?_
 refine D.sx 9 [] hQ hS (.skip 5 true 66 _ (ntF hb58) rfl rfl rfl) ?_
 refine D.sx 10 [] hQ hS (.skip 5 true 66 _ (ntF hb58) rfl rfl rfl) ?_
 refine D.sx 11 [] hQ hS (.skip 5 true 66 _ (ntF hb58) rfl rfl rfl) ?_
 refine D.sx 12 [] hQ hS (.skip 5 true 66 _ (ntF hb58) rfl rfl rfl) ?_
 refine D.sx 13 [] hQ hS (.skip 5 true 66 _ (ntF hb58) rfl rfl rfl) ?_
 refine D.q 14 [] hQ hS rfl (.none rfl) rfl rfl (by exact Rd.pk' rfl rfl (ntF hb58) rfl) rfl (by kernel_rfl) ?_
 refine D.done (by kernel_rfl) ?_
 exact St.wa (idR 4) (hJ56 _ hm)
 refine D.q 6 [] hQ hS rfl (.take 5 true 66 _ (ntT hb58) rfl rfl rfl) rfl rfl (by exact Rd.p T rfl) rfl (by kernel_rfl) ?_
 refine D.q 7 [] hQ hS rfl (.take 5 true 66 _ (ntT hb58) rfl rfl rfl) rfl rfl (by exact Rd.l T rfl rfl rfl) rfl (by kernel_rfl) ?_
 refine D.q 8 [] hQ hS rfl (.take 5 true 66 _ (ntT hb58) rfl rfl rfl) rfl rfl (by exact Rd.p T rfl) rfl (by kernel_rfl) ?_
 refine D.q 9 [] hQ hS rfl (.take 5 true 66 _ (ntT hb58) rfl rfl rfl) rfl rfl (by exact Rd.l T rfl rfl rfl) rfl (by kernel_rfl) ?_
 refine D.q 10 [] hQ hS rfl (.take 5 true 66 _ (ntT hb58) rfl rfl rfl) rfl rfl (by exact Rd.p T rfl) rfl (by kernel_rfl) ?_
 obtain ⟨x59, hx59, hm⟩ := hm
 refine D.q 11 [] hQ hS rfl (.take 5 true 66 _ (ntT hb58) rfl rfl rfl) rfl rfl (by exact Rd.ix T rfl rfl rfl rfl rfl rfl hx59) rfl (by kernel_rfl) ?_
 refine D.q 12 [] hQ hS rfl (.take 5 true 66 _ (ntT hb58) rfl rfl rfl) rfl rfl (by exact Rd.l T rfl rfl rfl) rfl (by kernel_rfl) ?_
 refine D.k 13 (T_taquinref07_Is s_1.Floor x59 _ hm) en55 (fun x60 hm => ?_) (hw := .take 5 true 66 _ (ntT hb58) rfl rfl rfl)
 refine D.q 14 [] hQ hS rfl (.none rfl) rfl rfl (by exact Rd.pk rfl rfl (ntT hb58) rfl) rfl (by kernel_rfl) ?_
 refine D.done (by kernel_rfl) ?_
 exact St.wa (idR 4) (hJ56 _ hm)
 refine C.exit (C.ex (C.ex (C.bex ?_)))
 exact St.wa [some 2] (hJ49 _ hm)
 refine C.block ?_
 refine St.wk (C.loop (fun (s27 : List Bool × Int) => [(2, .p 0 0), (3, .p 1 0), (5, .o 2), (7, .o 3), (8, .i s27.2)]) (fun (s27 : List Bool × Int) => [(0, .box (eApiSite s_1)), (1, .box (eApiState st)), (2, .val (.os 1 eI x8)), (3, .val (.os 1 eB s27.1))]) hm (fun s27 Y28 hm => ?_)) (Wk.a (idR 4))
 refine C.seq (C.seq (U.start ?_))
 refine U.pd 5 T (C.nx ?_)
 refine C.ite rfl hm (fun hb31 hm => ?_) (fun hb31 hm => ?_)
 refine C.skip (C.nx (C.seq (C.block (C.seq (U.start ?_)))))
 refine U.ps 3 T rfl ?_
 obtain ⟨x34, hx34, hm⟩ := hm
 refine U.r rfl (.none rfl) rfl rfl (by exact Rd.ix T rfl rfl rfl rfl rfl rfl hx34) ?_
 refine U.pd 3 T (C.nx (C.seq ?_))
 refine C.jn (fun (x35 : Bool) => [(2, .p 0 0), (3, .p 1 0), (5, .o 2), (7, .o 3), (8, .i s27.2), (9, .i x34.Load), (49, .b x35)]) (fun (x35 : Bool) => [(0, .box (eApiSite s_1)), (1, .box (eApiState st)), (2, .val (.os 1 eI x8)), (3, .val (.os 1 eB s27.1))]) 4 hm (fun x35 hm => ?_) (fun J36 hm hJ36 => ?_)
 refine C.nx ?_
 refine C.jn (fun (x38 : List Bool) => [(2, .p 0 0), (3, .p 1 0), (5, .o 2), (7, .o 3), (8, .i s27.2)]) (fun (x38 : List Bool) => [(0, .box (eApiSite s_1)), (1, .box (eApiState st)), (2, .val (.os 1 eI x8)), (3, .val (.os 1 eB x38))]) 4 hm (fun x38 hm => ?_) (fun J39 hm hJ39 => ?_)
 refine C.bnx (C.nx (U.start ?_))
 refine U.pd 3 T (C.nx ?_)
 exact St.wk (C.next hm) (Wk.a (idR 4))
 refine C.ite rfl hm (fun hb40 hm => ?_) (fun hb40 hm => ?_)
 refine U.start ?_
 refine U.ps 2 T rfl ?_
 obtain ⟨x43, hx43, hm⟩ := hm
 refine U.r rfl (.none rfl) rfl rfl (by exact Rd.io T rfl rfl rfl rfl rfl rfl rfl hx43) ?_
 refine U.e1 rfl (.none rfl) (by exact Eff1.se T (z' := true) rfl rfl rfl (idx_some hx43).2.2 rfl rfl rfl rfl rfl rfl rfl rfl (fun _ => rfl) rfl) ?_
 refine U.done ?_
 exact St.wa (idR 4) (hJ39 _ hm)
 refine C.skip ?_
 exact St.wa (idR 4) (hJ39 _ hm)
 refine U.start ?_
 refine U.ps 3 T rfl ?_
 refine hm.cs (fun hb37 hm => ?_) (fun hb37 hm => ?_)
 refine U.pg 4 2 true 44 hb37 T rfl rfl rfl rfl ?_
 refine U.pk hb37 ?_
 refine U.done ?_
 exact St.wa (idR 4) (hJ36 _ hm)
 refine U.sks 4 2 true 44 hb37 rfl rfl rfl ?_
 refine U.pk' hb37 ?_
 refine U.done ?_
 exact St.wa (idR 4) (hJ36 _ hm)
 refine C.exit (C.ex (C.ex (C.bex ?_)))
 exact St.wa (idR 4) (hJ26 _ hm)
 refine C.block ?_
 refine St.wk (C.loop (fun (s10 : List Int × Int) => [(2, .p 0 0), (3, .p 1 0), (5, .o 2), (6, .i s10.2)]) (fun (s10 : List Int × Int) => [(0, .box (eApiSite s_1)), (1, .box (eApiState st)), (2, .val (.os 1 eI s10.1))]) hm (fun s10 Y11 hm => ?_)) (Wk.a (idR 3))
 refine C.seq (C.seq (U.start ?_))
 refine U.pd 4 T (C.nx ?_)
 refine C.ite rfl hm (fun hb14 hm => ?_) (fun hb14 hm => ?_)
 refine C.skip (C.nx (C.seq (C.block (U.start ?_))))
 refine U.ps 2 T rfl ?_
 obtain ⟨x17, hx17, hm⟩ := hm
 refine U.r rfl (.none rfl) rfl rfl (by exact Rd.io T rfl rfl rfl rfl rfl rfl rfl hx17) ?_
 refine U.e1 rfl (.none rfl) (by exact Eff1.se T (z' := (-1)) rfl rfl rfl (idx_some hx17).2.2 rfl rfl rfl rfl rfl rfl rfl rfl (fun _ => rfl) rfl) ?_
 refine U.done (C.bnx (C.nx (U.start ?_)))
 refine U.pd 3 T (C.nx ?_)
 exact St.wk (C.next hm) (Wk.a (idR 3))
 refine C.exit (C.ex (C.ex (C.bex ?_)))
 exact St.wa (idR 3) (hJ9 _ hm)
theorem T_taquinref07_At (f : ApiFloor) (c : Int) (post : (Int × Int × Int) → Prop) (hm : V_taquinref07_At f c post) :
    Tr Tryz.prog 169 [.agg (eApiFloor f), .i c] [] 0 (fun A H' k => ∃ y, post y ∧ A = (.tup [.i y.1, .i y.2.1, .i y.2.2]) ∧ H' = [] ∧ k = 0) := by
 refine Tr.intro (n := 29) Tryz.func169 rfl Tryz.ntmps169 rfl (fun w0 ok F β hβ => ?_)
 unfold V_taquinref07_At at hm
 refine C.seq (U.start ?_)
 refine U.bx ?_
 refine U.pd 3 T (C.nx (C.seq (C.seq (U.start ?_))))
 refine U.ps 2 T rfl ?_
 refine U.k (T_taquinref07_Is f c _ hm) en55 (fun x5 hm => ?_)
 refine U.pd 1 T (C.nx ?_)
 refine C.ite rfl hm (fun hb6 hm => ?_) (fun hb6 hm => ?_)
 refine C.seq (U.start ?_)
 refine U.pd 3 T (C.nx (C.ret (C.rt ?_)))
 exact C.f9 T hβ ⟨(0, 0, 0), hm, rfl, rfl, rfl⟩
 refine C.skip (C.nx (C.seq ?_))
 refine D.beg 9999 [0] [] mix rfl rfl (by kernel_rfl) (by repeat (first | exact NoPanicQ.body | exact NoPanicQ.rnd | refine NoPanicQ.th ?_ | refine NoPanicQ.blk ?_ | refine NoPanicQ.ng ?_)) (fun hQ hS ws M' => ?_)
 refine D.ps 3 [(0, []), (1, []), (2, [])] rfl hQ hS T rfl rfl (by kernel_rfl) ?_
 obtain ⟨hx11, hm⟩ := hm
 refine D.q 3 [] hQ hS rfl (.none rfl) rfl rfl (by exact Rd.rm rfl rfl rfl rfl hx11) rfl (by kernel_rfl) ?_
 refine D.ps 3 [(4, []), (5, []), (6, [])] rfl hQ hS T rfl rfl (by kernel_rfl) ?_
 obtain ⟨hx12, hm⟩ := hm
 refine D.q 7 [] hQ hS rfl (.none rfl) rfl rfl (by exact Rd.dv rfl rfl rfl rfl hx12) rfl (by kernel_rfl) ?_
 refine D.ps 2 [(8, []), (9, [])] rfl hQ hS T rfl rfl (by kernel_rfl) ?_
 obtain ⟨hx13, hm⟩ := hm
 refine D.q 10 [] hQ hS rfl (.none rfl) rfl rfl (by exact Rd.rm rfl rfl rfl rfl hx13) rfl (by kernel_rfl) ?_
 refine D.ps 3 [(11, []), (12, []), (13, [])] rfl hQ hS T rfl rfl (by kernel_rfl) ?_
 obtain ⟨hx14, hm⟩ := hm
 refine D.q 14 [] hQ hS rfl (.none rfl) rfl rfl (by exact Rd.dv rfl rfl rfl rfl hx14) rfl (by kernel_rfl) ?_
 refine D.ps 2 [(15, []), (16, [])] rfl hQ hS T rfl rfl (by kernel_rfl) ?_
 obtain ⟨hx15, hm⟩ := hm
 refine D.q 17 [] hQ hS rfl (.none rfl) rfl rfl (by exact Rd.dv rfl rfl rfl rfl hx15) rfl (by kernel_rfl) ?_
 refine D.ps 3 [(18, []), (19, []), (20, [])] rfl hQ hS T rfl rfl (by kernel_rfl) ?_
 refine D.done (by kernel_rfl) ?_
 refine C.nx (C.ret ?_)
 exact C.f9 T hβ ⟨(c.tmod f.W, (w64 (c.tdiv f.W)).tmod f.H, w64 ((w64 (c.tdiv f.W)).tdiv f.H)), hm, rfl, rfl, rfl⟩
theorem T_taquinref07_Cell (f : ApiFloor) (x_1 : Int) (y_1 : Int) (z : Int) (post : Int → Prop) (hm : V_taquinref07_Cell f x_1 y_1 z post) :
    Tr Tryz.prog 170 [.agg (eApiFloor f), .i x_1, .i y_1, .i z] [] 0 (fun A H' k => ∃ y, post y ∧ A = (.i y) ∧ H' = [] ∧ k = 0) := by
 refine Tr.intro (n := 48) Tryz.func170 rfl Tryz.ntmps170 rfl (fun w0 ok F β hβ => ?_)
 unfold V_taquinref07_Cell at hm
 refine C.seq (U.start ?_)
 refine U.bx ?_
 refine U.pd 1 T (C.nx (C.seq (C.seq ?_)))
 refine C.jn (fun (x3 : Bool) => [(1, .i x_1), (2, .i y_1), (3, .i z), (4, .p 0 0), (36, .b x3)]) (fun (x3 : Bool) => [(0, .box (eApiFloor f))]) 1 hm (fun x3 hm => ?_) (fun J4 hm hJ4 => ?_)
 refine C.nx ?_
 refine C.ite rfl hm (fun hb10 hm => ?_) (fun hb10 hm => ?_)
 refine C.seq (U.start ?_)
 refine U.pd 1 T (C.nx (C.ret (C.rt ?_)))
 exact C.f1 T hβ ⟨(-1), hm, rfl, rfl, rfl⟩
 refine C.skip (C.nx (C.seq (U.start ?_)))
 refine U.pd 12 T (C.nx (C.ret ?_))
 exact C.f1 T hβ ⟨w64 ((w64 ((w64 ((w64 (z * f.H)) + y_1)) * f.W)) + x_1), hm, rfl, rfl, rfl⟩
 refine U.start ?_
 refine U.ps 3 T rfl ?_
 refine hm.cs (fun hb5 hm => ?_) (fun hb5 hm => ?_)
 refine U.sks 4 2 false 11 hb5 rfl rfl rfl ?_
 refine U.pk hb5 ?_
 refine U.ps 1 T rfl ?_
 refine U.sks 2 8 false 17 rfl rfl rfl rfl ?_
 refine U.pk rfl ?_
 refine U.ps 1 T rfl ?_
 refine U.sks 4 12 false 21 rfl rfl rfl rfl ?_
 refine U.pk rfl ?_
 refine U.ps 1 T rfl ?_
 refine U.sks 2 18 false 27 rfl rfl rfl rfl ?_
 refine U.pk rfl ?_
 refine U.ps 1 T rfl ?_
 refine U.sks 4 22 false 31 rfl rfl rfl rfl ?_
 refine U.pk rfl ?_
 refine U.done ?_
 exact St.wa [some 0] (hJ4 _ hm)
 refine U.pg 4 2 false 11 hb5 T rfl rfl rfl rfl ?_
 refine U.pk' hb5 ?_
 refine U.ps 1 T rfl ?_
 refine hm.cs (fun hb6 hm => ?_) (fun hb6 hm => ?_)
 refine U.sks 2 8 false 17 hb6 rfl rfl rfl ?_
 refine U.pk hb6 ?_
 refine U.ps 1 T rfl ?_
 refine U.sks 4 12 false 21 rfl rfl rfl rfl ?_
 refine U.pk rfl ?_
 refine U.ps 1 T rfl ?_
 refine U.sks 2 18 false 27 rfl rfl rfl rfl ?_
 refine U.pk rfl ?_
 refine U.ps 1 T rfl ?_
 refine U.sks 4 22 false 31 rfl rfl rfl rfl ?_
 refine U.pk rfl ?_
 refine U.done ?_
 exact St.wa [some 0] (hJ4 _ hm)
 refine U.pg 2 8 false 17 hb6 T rfl rfl rfl rfl ?_
 refine U.pk' hb6 ?_
 refine U.ps 1 T rfl ?_
 refine hm.cs (fun hb7 hm => ?_) (fun hb7 hm => ?_)
 refine U.sks 4 12 false 21 hb7 rfl rfl rfl ?_
 refine U.pk hb7 ?_
 refine U.ps 1 T rfl ?_
 refine U.sks 2 18 false 27 rfl rfl rfl rfl ?_
 refine U.pk rfl ?_
 refine U.ps 1 T rfl ?_
 refine U.sks 4 22 false 31 rfl rfl rfl rfl ?_
 refine U.pk rfl ?_
 refine U.done ?_
 exact St.wa [some 0] (hJ4 _ hm)
 refine U.pg 4 12 false 21 hb7 T rfl rfl rfl rfl ?_
 refine U.pk' hb7 ?_
 refine U.ps 1 T rfl ?_
 refine hm.cs (fun hb8 hm => ?_) (fun hb8 hm => ?_)
 refine U.sks 2 18 false 27 hb8 rfl rfl rfl ?_
 refine U.pk hb8 ?_
 refine U.ps 1 T rfl ?_
 refine U.sks 4 22 false 31 rfl rfl rfl rfl ?_
 refine U.pk rfl ?_
 refine U.done ?_
 exact St.wa [some 0] (hJ4 _ hm)
 refine U.pg 2 18 false 27 hb8 T rfl rfl rfl rfl ?_
 refine U.pk' hb8 ?_
 refine U.ps 1 T rfl ?_
 refine hm.cs (fun hb9 hm => ?_) (fun hb9 hm => ?_)
 refine U.sks 4 22 false 31 hb9 rfl rfl rfl ?_
 refine U.pk hb9 ?_
 refine U.done ?_
 exact St.wa [some 0] (hJ4 _ hm)
 refine U.pg 4 22 false 31 hb9 T rfl rfl rfl rfl ?_
 refine U.pk' hb9 ?_
 refine U.done ?_
 exact St.wa [some 0] (hJ4 _ hm)
theorem T_taquinref07_Beside (f : ApiFloor) (c : Int) (d : Int) (post : Int → Prop) (hm : V_taquinref07_Beside f c d post) :
    Tr Tryz.prog 135 [.agg (eApiFloor f), .i c, .i d] [] 0 (fun A H' k => ∃ y, post y ∧ A = (.i y) ∧ H' = [] ∧ k = 0) := by
 refine Tr.intro (n := 70) Tryz.func135 rfl Tryz.ntmps135 rfl (fun w0 ok F β hβ => ?_)
 unfold V_taquinref07_Beside at hm
 refine C.seq (U.start ?_)
 refine U.bx ?_
 refine U.pd 1 T (C.nx (C.seq (C.seq (U.start ?_))))
 refine U.ps 2 T rfl ?_
 refine U.k (T_taquinref07_Is f c _ hm) en55 (fun x5 hm => ?_)
 refine U.pd 1 T (C.nx ?_)
 refine C.ite rfl hm (fun hb6 hm => ?_) (fun hb6 hm => ?_)
 refine C.seq (U.start ?_)
 refine U.pd 1 T (C.nx (C.ret (C.rt ?_)))
 exact C.f1 T hβ ⟨(-1), hm, rfl, rfl, rfl⟩
 refine C.skip (C.nx (C.seq (U.start ?_)))
 refine U.ps 2 T rfl ?_
 refine U.k (T_taquinref07_At f c _ hm) en169 (fun x11 hm => ?_)
 refine U.pd 7 T (C.nx (C.seq (C.seq (U.start ?_))))
 refine U.pd 1 T (C.nx (C.block (C.seq (U.start ?_))))
 refine U.pd 2 T (C.nx ?_)
 refine C.ite rfl hm (fun hb16 hm => ?_) (fun hb16 hm => ?_)
 refine C.seq (U.start ?_)
 refine U.ps 5 T rfl ?_
 refine U.k (T_taquinref07_Cell f (w64 (x11.1 + 1)) x11.2.1 x11.2.2 _ hm) en170 (fun x19 hm => ?_)
 refine U.pd 1 T (C.nx (C.ret (C.brt (C.rt ?_))))
 exact C.f1 T hβ ⟨x19, hm, rfl, rfl, rfl⟩
 refine C.seq (U.start ?_)
 refine U.pd 2 T (C.nx ?_)
 refine C.ite rfl hm (fun hb22 hm => ?_) (fun hb22 hm => ?_)
 refine C.seq (U.start ?_)
 refine U.ps 5 T rfl ?_
 refine U.k (T_taquinref07_Cell f x11.1 (w64 (x11.2.1 + 1)) x11.2.2 _ hm) en170 (fun x25 hm => ?_)
 refine U.pd 1 T (C.nx (C.ret (C.brt (C.rt ?_))))
 exact C.f1 T hβ ⟨x25, hm, rfl, rfl, rfl⟩
 refine C.seq (U.start ?_)
 refine U.pd 2 T (C.nx ?_)
 refine C.ite rfl hm (fun hb28 hm => ?_) (fun hb28 hm => ?_)
 refine C.seq (U.start ?_)
 refine U.ps 5 T rfl ?_
 refine U.k (T_taquinref07_Cell f (w64 (x11.1 - 1)) x11.2.1 x11.2.2 _ hm) en170 (fun x31 hm => ?_)
 refine U.pd 1 T (C.nx (C.ret (C.brt (C.rt ?_))))
 exact C.f1 T hβ ⟨x31, hm, rfl, rfl, rfl⟩
 refine C.seq (U.start ?_)
 refine U.pd 2 T (C.nx ?_)
 refine C.ite rfl hm (fun hb34 hm => ?_) (fun hb34 hm => ?_)
 refine C.seq (U.start ?_)
 refine U.ps 5 T rfl ?_
 refine U.k (T_taquinref07_Cell f x11.1 (w64 (x11.2.1 - 1)) x11.2.2 _ hm) en170 (fun x37 hm => ?_)
 refine U.pd 1 T (C.nx (C.ret (C.brt (C.rt ?_))))
 exact C.f1 T hβ ⟨x37, hm, rfl, rfl, rfl⟩
 refine C.seq (U.start ?_)
 refine U.pd 2 T (C.nx ?_)
 refine C.ite rfl hm (fun hb40 hm => ?_) (fun hb40 hm => ?_)
 refine C.seq (U.start ?_)
 refine U.ps 5 T rfl ?_
 refine U.k (T_taquinref07_Cell f x11.1 x11.2.1 (w64 (x11.2.2 + 1)) _ hm) en170 (fun x43 hm => ?_)
 refine U.pd 1 T (C.nx (C.ret (C.brt (C.rt ?_))))
 exact C.f1 T hβ ⟨x43, hm, rfl, rfl, rfl⟩
 refine C.seq (U.start ?_)
 refine U.pd 2 T (C.nx ?_)
 refine C.ite rfl hm (fun hb46 hm => ?_) (fun hb46 hm => ?_)
 refine C.seq (U.start ?_)
 refine U.ps 5 T rfl ?_
 refine U.k (T_taquinref07_Cell f x11.1 x11.2.1 (w64 (x11.2.2 - 1)) _ hm) en170 (fun x49 hm => ?_)
 refine U.pd 1 T (C.nx (C.ret (C.brt (C.rt ?_))))
 exact C.f1 T hβ ⟨x49, hm, rfl, rfl, rfl⟩
 refine C.skip (C.bnx (C.nx (C.seq (U.start ?_))))
 refine U.pd 1 T (C.nx (C.ret ?_))
 exact C.f1 T hβ ⟨(-1), hm, rfl, rfl, rfl⟩
theorem T_taquinref07_Next (f : ApiFloor) (c : Int) (d : Int) (post : (Int × Bool) → Prop) (hm : V_taquinref07_Next f c d post) :
    Tr Tryz.prog 102 [.agg (eApiFloor f), .i c, .i d] [] 0 (fun A H' k => ∃ y, post y ∧ A = (.tup [.i y.1, .b y.2]) ∧ H' = [] ∧ k = 0) := by
 refine Tr.intro (n := 60) Tryz.func102 rfl Tryz.ntmps102 rfl (fun w0 ok F β hβ => ?_)
 unfold V_taquinref07_Next at hm
 refine C.seq (U.start ?_)
 refine U.bx ?_
 refine U.pd 2 T (C.nx (C.seq (U.start ?_)))
 refine U.ps 3 T rfl ?_
 refine U.k (T_taquinref07_Beside f c d _ hm) en135 (fun x5 hm => ?_)
 refine U.pd 1 T (C.nx (C.seq (C.seq (U.start ?_))))
 refine U.pd 2 T (C.nx ?_)
 refine C.ite rfl hm (fun hb8 hm => ?_) (fun hb8 hm => ?_)
 refine C.seq (U.start ?_)
 refine U.pd 2 T (C.nx (C.ret (C.rt ?_)))
 exact C.f9 T hβ ⟨(0, false), hm, rfl, rfl, rfl⟩
 refine C.skip (C.nx (C.seq (C.seq ?_)))
 refine C.jn (fun (x11 : Bool) => [(1, .i c), (2, .i d), (3, .p 0 0), (8, .i x5), (40, .b x11)]) (fun (x11 : Bool) => [(0, .box (eApiFloor f))]) 1 hm (fun x11 hm => ?_) (fun J12 hm hJ12 => ?_)
 refine C.nx ?_
 refine C.ite rfl hm (fun hb19 hm => ?_) (fun hb19 hm => ?_)
 refine C.seq (U.start ?_)
 refine U.pd 2 T (C.nx (C.ret (C.rt ?_)))
 exact C.f9 T hβ ⟨(0, false), hm, rfl, rfl, rfl⟩
 refine C.skip (C.nx (C.seq (C.seq ?_)))
 refine C.jn (fun (x22 : Bool) => [(8, .i x5), (58, .b x22)]) (fun (x22 : Bool) => []) 0 hm (fun x22 hm => ?_) (fun J23 hm hJ23 => ?_)
 refine C.nx ?_
 refine C.ite rfl hm (fun hb28 hm => ?_) (fun hb28 hm => ?_)
 refine C.seq (U.start ?_)
 refine U.pd 2 T (C.nx (C.ret (C.rt ?_)))
 exact C.f9 T hβ ⟨(0, false), hm, rfl, rfl, rfl⟩
 refine C.skip (C.nx (C.seq (U.start ?_)))
 refine U.pd 3 T (C.nx (C.ret ?_))
 exact C.f9 T hβ ⟨(x5, true), hm, rfl, rfl, rfl⟩
 refine U.start ?_
 refine U.ps 3 T rfl ?_
 refine hm.cs (fun hb24 hm => ?_) (fun hb24 hm => ?_)
 refine U.pg 3 2 true 43 hb24 T rfl rfl rfl rfl ?_
 obtain ⟨x25, hx25, hm⟩ := hm
 refine U.r rfl (.take 2 true 43 _ hb24 rfl rfl rfl) rfl rfl (by exact Rd.ix T rfl rfl rfl rfl rfl rfl hx25) ?_
 refine U.pg 3 2 true 43 hb24 T rfl rfl rfl rfl ?_
 refine hm.cs (fun hb26 hm => ?_) (fun hb26 hm => ?_)
 refine U.sks 6 9 false 50 hb26 rfl rfl rfl ?_
 refine U.r rfl (.take 2 true 43 _ hb24 rfl rfl rfl) rfl rfl (by exact Rd.pk rfl rfl hb26 rfl) ?_
 refine U.pk hb24 ?_
 refine U.done ?_
 exact St.wn (hJ23 _ hm)
 refine U.pg 3 9 false 50 hb26 T rfl rfl rfl rfl ?_
 obtain ⟨x27, hx27, hm⟩ := hm
 refine U.r rfl (.take 9 false 50 _ hb26 rfl rfl rfl) rfl rfl (by exact Rd.ix T rfl rfl rfl rfl rfl rfl hx27) ?_
 refine U.pg 2 9 false 50 hb26 T rfl rfl rfl rfl ?_
 refine U.r rfl (.take 2 true 43 _ hb24 rfl rfl rfl) rfl rfl (by exact Rd.pk' rfl rfl hb26 rfl) ?_
 refine U.pk hb24 ?_
 refine U.done ?_
 exact St.wn (hJ23 _ hm)
 refine U.sks 7 2 true 43 hb24 rfl rfl rfl ?_
 refine U.sku 6 9 false 50 rfl rfl rfl ?_
 refine U.sks 1 2 true 43 hb24 rfl rfl rfl ?_
 refine U.pk' hb24 ?_
 refine U.done ?_
 exact St.wn (hJ23 _ hm)
 refine U.start ?_
 refine U.ps 3 T rfl ?_
 obtain ⟨x13, hx13, hm⟩ := hm
 refine U.r rfl (.none rfl) rfl rfl (by exact Rd.ix T rfl rfl rfl rfl rfl rfl hx13) ?_
 refine U.ps 3 T rfl ?_
 refine hm.cs (fun hb14 hm => ?_) (fun hb14 hm => ?_)
 refine U.sks 6 6 false 21 hb14 rfl rfl rfl ?_
 refine U.pk hb14 ?_
 refine U.ps 1 T rfl ?_
 refine U.sks 10 14 false 29 rfl rfl rfl rfl ?_
 refine U.pk rfl ?_
 refine U.done ?_
 exact St.wa [some 0] (hJ12 _ hm)
 refine U.pg 3 6 false 21 hb14 T rfl rfl rfl rfl ?_
 obtain ⟨x15, hx15, hm⟩ := hm
 refine U.r rfl (.take 6 false 21 _ hb14 rfl rfl rfl) rfl rfl (by exact Rd.ix T rfl rfl rfl rfl rfl rfl hx15) ?_
 refine U.pg 2 6 false 21 hb14 T rfl rfl rfl rfl ?_
 refine U.pk' hb14 ?_
 refine U.ps 1 T rfl ?_
 refine hm.cs (fun hb16 hm => ?_) (fun hb16 hm => ?_)
 refine U.sks 10 14 false 29 hb16 rfl rfl rfl ?_
 refine U.pk hb16 ?_
 refine U.done ?_
 exact St.wa [some 0] (hJ12 _ hm)
 refine U.pg 3 14 false 29 hb16 T rfl rfl rfl rfl ?_
 obtain ⟨x17, hx17, hm⟩ := hm
 refine U.r rfl (.take 14 false 29 _ hb16 rfl rfl rfl) rfl rfl (by exact Rd.ix T rfl rfl rfl rfl rfl rfl hx17) ?_
 refine U.pg 3 14 false 29 hb16 T rfl rfl rfl rfl ?_
 obtain ⟨hx18, hm⟩ := hm
 refine U.r rfl (.take 14 false 29 _ hb16 rfl rfl rfl) rfl rfl (by exact Rd.sh rfl rfl rfl rfl hx18) ?_
 refine U.pg 2 14 false 29 hb16 T rfl rfl rfl rfl ?_
 refine U.pk' hb16 ?_
 refine U.done ?_
 exact St.wa [some 0] (hJ12 _ hm)
theorem T_taquinref07_Opposite (d : Int) (post : Int → Prop) (hm : V_taquinref07_Opposite d post) :
    Tr Tryz.prog 168 [.i d] [] 0 (fun A H' k => ∃ y, post y ∧ A = (.i y) ∧ H' = [] ∧ k = 0) := by
 refine Tr.intro (n := 16) Tryz.func168 rfl Tryz.ntmps168 rfl (fun w0 ok F β hβ => ?_)
 unfold V_taquinref07_Opposite at hm
 refine C.seq (U.start ?_)
 refine U.pd 1 T (C.nx (C.seq (C.seq (U.start ?_))))
 refine U.pd 1 T (C.nx (C.block (C.seq (U.start ?_))))
 refine U.pd 2 T (C.nx ?_)
 refine C.ite rfl hm (fun hb7 hm => ?_) (fun hb7 hm => ?_)
 refine C.seq (U.start ?_)
 refine U.pd 1 T (C.nx (C.ret (C.brt (C.rt ?_))))
 exact C.f1 T hβ ⟨2, hm, rfl, rfl, rfl⟩
 refine C.seq (U.start ?_)
 refine U.pd 2 T (C.nx ?_)
 refine C.ite rfl hm (fun hb12 hm => ?_) (fun hb12 hm => ?_)
 refine C.seq (U.start ?_)
 refine U.pd 1 T (C.nx (C.ret (C.brt (C.rt ?_))))
 exact C.f1 T hβ ⟨0, hm, rfl, rfl, rfl⟩
 refine C.seq (U.start ?_)
 refine U.pd 2 T (C.nx ?_)
 refine C.ite rfl hm (fun hb17 hm => ?_) (fun hb17 hm => ?_)
 refine C.seq (U.start ?_)
 refine U.pd 1 T (C.nx (C.ret (C.brt (C.rt ?_))))
 exact C.f1 T hβ ⟨3, hm, rfl, rfl, rfl⟩
 refine C.seq (U.start ?_)
 refine U.pd 2 T (C.nx ?_)
 refine C.ite rfl hm (fun hb22 hm => ?_) (fun hb22 hm => ?_)
 refine C.seq (U.start ?_)
 refine U.pd 1 T (C.nx (C.ret (C.brt (C.rt ?_))))
 exact C.f1 T hβ ⟨1, hm, rfl, rfl, rfl⟩
 refine C.seq (U.start ?_)
 refine U.pd 2 T (C.nx ?_)
 refine C.ite rfl hm (fun hb27 hm => ?_) (fun hb27 hm => ?_)
 refine C.seq (U.start ?_)
 refine U.pd 1 T (C.nx (C.ret (C.brt (C.rt ?_))))
 exact C.f1 T hβ ⟨5, hm, rfl, rfl, rfl⟩
 refine C.seq (U.start ?_)
 refine U.pd 2 T (C.nx ?_)
 refine C.ite rfl hm (fun hb32 hm => ?_) (fun hb32 hm => ?_)
 refine C.seq (U.start ?_)
 refine U.pd 1 T (C.nx (C.ret (C.brt (C.rt ?_))))
 exact C.f1 T hβ ⟨4, hm, rfl, rfl, rfl⟩
 refine C.skip (C.bnx (C.nx (C.seq (U.start ?_))))
 refine U.pd 1 T (C.nx (C.ret ?_))
 exact C.f1 T hβ ⟨(-1), hm, rfl, rfl, rfl⟩
theorem T_taquinref07_Back (f : ApiFloor) (c : Int) (d : Int) (post : (Int × Bool) → Prop) (hm : V_taquinref07_Back f c d post) :
    Tr Tryz.prog 134 [.agg (eApiFloor f), .i c, .i d] [] 0 (fun A H' k => ∃ y, post y ∧ A = (.tup [.i y.1, .b y.2]) ∧ H' = [] ∧ k = 0) := by
 refine Tr.intro (n := 28) Tryz.func134 rfl Tryz.ntmps134 rfl (fun w0 ok F β hβ => ?_)
 unfold V_taquinref07_Back at hm
 refine C.seq (U.start ?_)
 refine U.bx ?_
 refine U.pd 2 T (C.nx (C.seq ?_))
 refine D.beg 9999 [0] [] mix rfl rfl (by kernel_rfl) (by repeat (first | exact NoPanicQ.body | exact NoPanicQ.rnd | refine NoPanicQ.th ?_ | refine NoPanicQ.blk ?_ | refine NoPanicQ.ng ?_)) (fun hQ hS ws M' => ?_)
 refine D.ps 3 [(0, []), (1, []), (2, [])] rfl hQ hS T rfl rfl (by kernel_rfl) ?_
 refine D.k 3 (T_taquinref07_Opposite d _ hm) en168 (fun x5 hm => ?_)
 refine D.k 4 (T_taquinref07_Beside f c x5 _ hm) en135 (fun x6 hm => ?_)
 refine D.ps 1 [(5, [])] rfl hQ hS T rfl rfl (by kernel_rfl) ?_
 refine D.done (by kernel_rfl) ?_
 refine C.nx (C.seq (C.seq (U.start ?_)))
 refine U.pd 2 T (C.nx ?_)
 refine C.ite rfl hm (fun hb9 hm => ?_) (fun hb9 hm => ?_)
 refine C.seq (U.start ?_)
 refine U.pd 2 T (C.nx (C.ret (C.rt ?_)))
 exact C.f9 T hβ ⟨(0, false), hm, rfl, rfl, rfl⟩
 refine C.skip (C.nx (C.seq (U.start ?_)))
 refine U.ps 3 T rfl ?_
 refine U.k (T_taquinref07_Next f x6 d _ hm) en102 (fun x14 hm => ?_)
 refine U.pd 5 T (C.nx (C.seq (C.seq (U.start ?_))))
 refine U.pd 2 T (C.nx ?_)
 refine C.ite rfl hm (fun hb17 hm => ?_) (fun hb17 hm => ?_)
 refine C.seq (U.start ?_)
 refine U.pd 2 T (C.nx (C.ret (C.rt ?_)))
 exact C.f9 T hβ ⟨(0, false), hm, rfl, rfl, rfl⟩
 refine C.skip (C.nx (C.seq (U.start ?_)))
 refine U.pd 3 T (C.nx (C.ret ?_))
 exact C.f9 T hβ ⟨(x6, true), hm, rfl, rfl, rfl⟩
theorem T_taquinref07_spread (f : ApiFloor) (from_1 : List Int) (avoid : List Int) (back : Bool) (post : (List Int) → Prop) (hm : V_taquinref07_spread f from_1 avoid back post) :
    Tr Tryz.prog 101 [.agg (eApiFloor f), .sl 1 eI from_1, .sl 1 eI avoid, .b back] [] 0 (fun A H' k => ∃ y, post y ∧ A = (.o 0) ∧ H' = [(0, .val (.os 1 eI y))] ∧ k = 1) := by
 refine Tr.intro (n := 170) Tryz.func101 rfl Tryz.ntmps101 rfl (fun w0 ok F β hβ => ?_)
 unfold V_taquinref07_spread at hm
 refine C.seq (U.start ?_)
 refine U.bx ?_
 refine U.pd 1 T (C.nx (C.seq (U.start ?_)))
 refine U.ps 1 T rfl ?_
 refine U.k (T_taquinref07_Size f _ hm) en96 (fun x5 hm => ?_)
 obtain ⟨hx6, hm⟩ := hm
 refine U.e1 rfl (.none rfl) (by exact Eff1.mk T (enc := eB) (z0 := false) rfl rfl rfl rfl rfl rfl rfl rfl rfl rfl hx6) ?_
 refine U.pd 1 T (C.nx (C.seq (C.seq (U.start ?_))))
 refine U.pd 1 T (C.nx ?_)
 refine C.jn (fun (x9 : List Bool) => [(1, .sl 1 eI from_1), (3, .b back), (4, .p 0 0), (9, .o 1)]) (fun (x9 : List Bool) => [(0, .box (eApiFloor f)), (1, .val (.os 1 eB x9))]) 2 hm (fun x9 hm => ?_) (fun J10 hm hJ10 => ?_)
 refine C.nx (C.seq (U.start ?_))
 refine U.ps 1 T rfl ?_
 refine U.k (T_taquinref07_Size f _ hm) en96 (fun x30 hm => ?_)
 obtain ⟨hx31, hm⟩ := hm
 refine U.e1 rfl (.none rfl) (by exact Eff1.mk T (enc := eI) (z0 := 0) rfl rfl rfl rfl rfl rfl rfl rfl rfl rfl hx31) ?_
 refine U.pd 1 T (C.nx (C.seq (C.seq (U.start ?_))))
 refine U.pd 1 T (C.nx ?_)
 refine C.jn (fun (x34 : List Bool × List Int) => [(1, .sl 1 eI from_1), (3, .b back), (4, .p 0 0), (9, .o 1), (11, .o 2)]) (fun (x34 : List Bool × List Int) => [(0, .box (eApiFloor f)), (1, .val (.os 1 eB x34.1)), (2, .val (.os 1 eI x34.2))]) 3 hm (fun x34 hm => ?_) (fun J35 hm hJ35 => ?_)
 refine C.nx (C.seq (U.start ?_))
 refine U.pd 1 T (C.nx (C.seq (C.seq (U.start ?_))))
 refine U.pd 1 T (C.nx ?_)
 refine C.jn (fun (x55 : List Int × List Int) => [(3, .b back), (4, .p 0 0), (9, .o 1), (11, .o 2), (13, .o 3)]) (fun (x55 : List Int × List Int) => [(0, .box (eApiFloor f)), (1, .val (.os 1 eB x34.1)), (2, .val (.os 1 eI x55.1)), (3, .val (.os 1 eI x55.2))]) 4 hm (fun x55 hm => ?_) (fun J56 hm hJ56 => ?_)
 refine C.nx (C.seq (C.seq (U.start ?_)))
 refine U.pd 1 T (C.nx ?_)
 refine C.jn (fun (x85 : List Int) => [(11, .o 0)]) (fun (x85 : List Int) => [(0, .val (.os 1 eI x85))]) 1 hm (fun x85 hm => ?_) (fun J86 hm hJ86 => ?_)
 refine C.nx (C.seq (U.start ?_))
 refine U.pd 2 T (C.nx (C.ret ?_))
 exact C.g1 [some 0] T hβ ⟨x85, hm, rfl, rfl, rfl⟩
 refine C.block ?_
 refine St.wk (C.loop (fun (s87 : List Int × List Int × Int) => [(3, .b back), (4, .p 0 0), (9, .o 1), (11, .o 2), (13, .o 3), (16, .i s87.2.2)]) (fun (s87 : List Int × List Int × Int) => [(0, .box (eApiFloor f)), (1, .val (.os 1 eB x34.1)), (2, .val (.os 1 eI s87.1)), (3, .val (.os 1 eI s87.2.1))]) hm (fun s87 Y88 hm => ?_)) (Wk.a (idR 4))
 refine C.seq (C.seq (U.start ?_))
 refine U.pd 4 T (C.nx ?_)
 refine C.ite rfl hm (fun hb91 hm => ?_) (fun hb91 hm => ?_)
 refine C.skip (C.nx (C.seq ?_))
 refine C.jn (fun (x92 : List Int × List Int) => [(3, .b back), (4, .p 0 0), (9, .o 1), (11, .o 2), (13, .o 3), (16, .i s87.2.2)]) (fun (x92 : List Int × List Int) => [(0, .box (eApiFloor f)), (1, .val (.os 1 eB x34.1)), (2, .val (.os 1 eI x92.1)), (3, .val (.os 1 eI x92.2))]) 4 hm (fun x92 hm => ?_) (fun J93 hm hJ93 => ?_)
 refine C.nx (U.start ?_)
 refine U.pd 3 T (C.nx ?_)
 exact St.wk (C.next hm) (Wk.a (idR 4))
 refine C.block (C.seq (U.start ?_))
 refine U.ps 2 T rfl ?_
 obtain ⟨x96, hx96, hm⟩ := hm
 refine U.r rfl (.none rfl) rfl rfl (by exact Rd.io T rfl rfl rfl rfl rfl rfl rfl hx96) ?_
 refine U.r rfl (.none rfl) rfl rfl (by exact Rd.le T rfl rfl rfl (idx_some hx96).2.2 rfl rfl rfl) ?_
 refine U.pd 1 T (C.nx (C.seq (U.start ?_)))
 refine U.pd 1 T (C.nx ?_)
 refine C.jn (fun (x99 : List Int × List Int) => [(3, .b back), (4, .p 0 0), (9, .o 1), (11, .o 2), (13, .o 3), (16, .i s87.2.2)]) (fun (x99 : List Int × List Int) => [(0, .box (eApiFloor f)), (1, .val (.os 1 eB x34.1)), (2, .val (.os 1 eI x99.1)), (3, .val (.os 1 eI x99.2))]) 4 hm (fun x99 hm => ?_) (fun J100 hm hJ100 => ?_)
 refine C.bnx ?_
 exact St.wa (idR 4) (hJ93 _ hm)
 refine C.block ?_
 refine St.wk (C.loop (fun (s101 : List Int × List Int × Int) => [(3, .b back), (4, .p 0 0), (9, .o 1), (11, .o 2), (13, .o 3), (16, .i s87.2.2), (17, .i x96), (18, .i s101.2.2)]) (fun (s101 : List Int × List Int × Int) => [(0, .box (eApiFloor f)), (1, .val (.os 1 eB x34.1)), (2, .val (.os 1 eI s101.1)), (3, .val (.os 1 eI s101.2.1))]) hm (fun s101 Y102 hm => ?_)) (Wk.a (idR 4))
 refine C.seq (C.seq (U.start ?_))
 refine U.pd 2 T (C.nx ?_)
 refine C.ite rfl hm (fun hb105 hm => ?_) (fun hb105 hm => ?_)
 refine C.skip (C.nx (C.seq (C.block (C.seq (U.start ?_)))))
 refine U.ps 3 T rfl ?_
 refine U.k (T_taquinref07_Next f x96 s101.2.2 _ hm) en102 (fun x108 hm => ?_)
 refine U.pd 5 T (C.nx (C.seq (C.seq (U.start ?_))))
 refine U.pd 1 T (C.nx ?_)
 refine C.jn (fun (x111 : Int × Bool) => [(3, .b back), (4, .p 0 0), (9, .o 1), (11, .o 2), (13, .o 3), (16, .i s87.2.2), (17, .i x96), (18, .i s101.2.2), (19, .i x111.1), (20, .b x111.2)]) (fun (x111 : Int × Bool) => [(0, .box (eApiFloor f)), (1, .val (.os 1 eB x34.1)), (2, .val (.os 1 eI s101.1)), (3, .val (.os 1 eI s101.2.1))]) 4 hm (fun x111 hm => ?_) (fun J112 hm hJ112 => ?_)
 refine C.nx (C.seq ?_)
 refine C.jn (fun (x117 : Bool) => [(3, .b back), (4, .p 0 0), (9, .o 1), (11, .o 2), (13, .o 3), (16, .i s87.2.2), (17, .i x96), (18, .i s101.2.2), (19, .i x111.1), (156, .b x117)]) (fun (x117 : Bool) => [(0, .box (eApiFloor f)), (1, .val (.os 1 eB x34.1)), (2, .val (.os 1 eI s101.1)), (3, .val (.os 1 eI s101.2.1))]) 4 hm (fun x117 hm => ?_) (fun J118 hm hJ118 => ?_)
 refine C.nx ?_
 refine C.jn (fun (x123 : List Int × List Int) => [(3, .b back), (4, .p 0 0), (9, .o 1), (11, .o 2), (13, .o 3), (16, .i s87.2.2), (17, .i x96), (18, .i s101.2.2)]) (fun (x123 : List Int × List Int) => [(0, .box (eApiFloor f)), (1, .val (.os 1 eB x34.1)), (2, .val (.os 1 eI x123.1)), (3, .val (.os 1 eI x123.2))]) 4 hm (fun x123 hm => ?_) (fun J124 hm hJ124 => ?_)
 refine C.bnx (C.nx (U.start ?_))
 refine U.pd 3 T (C.nx ?_)
 exact St.wk (C.next hm) (Wk.a (idR 4))
 refine C.ite rfl hm (fun hb125 hm => ?_) (fun hb125 hm => ?_)
 refine C.seq (U.start ?_)
 refine U.ps 4 T rfl ?_
 obtain ⟨x128, hx128, hm⟩ := hm
 refine U.r rfl (.none rfl) rfl rfl (by exact Rd.io T rfl rfl rfl rfl rfl rfl rfl hx128) ?_
 refine U.r rfl (.none rfl) rfl rfl (by exact Rd.le T rfl rfl rfl (idx_some hx128).2.2 rfl rfl rfl) ?_
 refine U.ps 1 T rfl ?_
 obtain ⟨x129, hx129, hm⟩ := hm
 refine U.r rfl (.none rfl) rfl rfl (by exact Rd.io T rfl rfl rfl rfl rfl rfl rfl hx129) ?_
 refine U.e1 rfl (.none rfl) (by exact Eff1.se T (z' := w64 (x128 + 1)) rfl rfl rfl (idx_some hx129).2.2 rfl rfl rfl rfl rfl rfl rfl rfl (fun _ => rfl) rfl) ?_
 refine U.done (C.nx (U.start ?_))
 refine U.ps 2 T rfl ?_
 refine U.e1 rfl (.none rfl) (by exact Eff1.bs T (enc := eI) (xs := ([x111.1] : List Int)) rfl rfl rfl rfl rfl rfl rfl rfl rfl rfl (fun _ _ => rfl) rfl rfl) ?_
 obtain ⟨hx132, hm⟩ := hm
 refine U.e1 rfl (.none rfl) (by exact Eff1.ap T rfl rfl rfl rfl rfl rfl (.inr ⟨_, rfl, rfl⟩) rfl rfl rfl (fun _ => rfl) rfl hx132) ?_
 refine U.pd 1 T ?_
 exact St.wa [some 0, some 1, some 2, some 5] (hJ124 _ hm)
 refine C.skip ?_
 exact St.wa (idR 4) (hJ124 _ hm)
 refine U.start ?_
 refine U.ps 2 T rfl ?_
 refine hm.cs (fun hb119 hm => ?_) (fun hb119 hm => ?_)
 refine U.pg 2 1 true 143 hb119 T rfl rfl rfl rfl ?_
 obtain ⟨x120, hx120, hm⟩ := hm
 refine U.r rfl (.take 1 true 143 _ hb119 rfl rfl rfl) rfl rfl (by exact Rd.io T rfl rfl rfl rfl rfl rfl rfl hx120) ?_
 refine U.r rfl (.take 1 true 143 _ hb119 rfl rfl rfl) rfl rfl (by exact Rd.le T rfl rfl rfl (idx_some hx120).2.2 rfl rfl rfl) ?_
 refine U.pg 1 1 true 143 hb119 T rfl rfl rfl rfl ?_
 refine U.pk hb119 ?_
 refine U.ps 1 T rfl ?_
 refine hm.cs (fun hb121 hm => ?_) (fun hb121 hm => ?_)
 refine U.sks 5 8 true 150 (ntF hb121) rfl rfl rfl ?_
 refine U.r rfl (.none rfl) rfl rfl (by exact Rd.pk' rfl rfl (ntF hb121) rfl) ?_
 refine U.done ?_
 exact St.wa (idR 4) (hJ118 _ hm)
 refine U.pg 2 8 true 150 (ntT hb121) T rfl rfl rfl rfl ?_
 obtain ⟨x122, hx122, hm⟩ := hm
 refine U.r rfl (.take 8 true 150 _ (ntT hb121) rfl rfl rfl) rfl rfl (by exact Rd.io T rfl rfl rfl rfl rfl rfl rfl hx122) ?_
 refine U.r rfl (.take 8 true 150 _ (ntT hb121) rfl rfl rfl) rfl rfl (by exact Rd.le T rfl rfl rfl (idx_some hx122).2.2 rfl rfl rfl) ?_
 refine U.pg 1 8 true 150 (ntT hb121) T rfl rfl rfl rfl ?_
 refine U.r rfl (.none rfl) rfl rfl (by exact Rd.pk rfl rfl (ntT hb121) rfl) ?_
 refine U.done ?_
 exact St.wa (idR 4) (hJ118 _ hm)
 refine U.sks 5 1 true 143 hb119 rfl rfl rfl ?_
 refine U.pk' hb119 ?_
 refine U.ps 1 T rfl ?_
 refine U.sks 5 8 true 150 rfl rfl rfl rfl ?_
 refine U.pk' rfl ?_
 refine U.done ?_
 exact St.wa (idR 4) (hJ118 _ hm)
 refine C.ite rfl hm (fun hb113 hm => ?_) (fun hb113 hm => ?_)
 refine U.start ?_
 refine U.ps 3 T rfl ?_
 refine U.k (T_taquinref07_Back f x96 s101.2.2 _ hm) en134 (fun x116 hm => ?_)
 refine U.pd 5 T ?_
 exact St.wa (idR 4) (hJ112 _ hm)
 refine C.skip ?_
 exact St.wa (idR 4) (hJ112 _ hm)
 refine C.exit (C.ex (C.ex (C.bex ?_)))
 exact St.wa (idR 4) (hJ100 _ hm)
 refine C.exit (C.ex (C.ex (C.bex ?_)))
 exact St.wa [some 2] (hJ86 _ hm)
 refine C.block ?_
 refine St.wk (C.loop (fun (s57 : List Int × List Int × Int) => [(1, .sl 1 eI from_1), (3, .b back), (4, .p 0 0), (9, .o 1), (11, .o 2), (13, .o 3), (14, .i s57.2.2)]) (fun (s57 : List Int × List Int × Int) => [(0, .box (eApiFloor f)), (1, .val (.os 1 eB x34.1)), (2, .val (.os 1 eI s57.1)), (3, .val (.os 1 eI s57.2.1))]) hm (fun s57 Y58 hm => ?_)) (Wk.mk' [some 0, some 1, some 2, none] rfl rfl ⟨⟨_, rfl, (.eq rfl)⟩, ⟨_, rfl, (.eq rfl)⟩, ⟨_, rfl, (.eq rfl)⟩, ⟨_, rfl, (.eq rfl)⟩, ⟨_, rfl, (.eq rfl)⟩, ⟨_, rfl, (.nilO _ _ ⟨rfl, rfl⟩ rfl)⟩, ChkG.eqs rfl⟩ ⟨bX, vL, vL, ⟨_, rfl, .nil _ _⟩, trivial⟩ rfl)
 refine C.seq (C.seq (U.start ?_))
 refine U.pd 4 T (C.nx ?_)
 refine C.ite rfl hm (fun hb61 hm => ?_) (fun hb61 hm => ?_)
 refine C.skip (C.nx (C.seq (C.block (C.seq (U.start ?_)))))
 refine U.ps 2 T rfl ?_
 obtain ⟨x64, hx64, hm⟩ := hm
 refine U.r rfl (.none rfl) rfl rfl (by exact Rd.ix T rfl rfl rfl rfl rfl rfl hx64) ?_
 refine U.pd 2 T (C.nx (C.seq ?_))
 refine C.jn (fun (x65 : Bool) => [(1, .sl 1 eI from_1), (3, .b back), (4, .p 0 0), (9, .o 1), (11, .o 2), (13, .o 3), (14, .i s57.2.2), (15, .i x64), (105, .b x65)]) (fun (x65 : Bool) => [(0, .box (eApiFloor f)), (1, .val (.os 1 eB x34.1)), (2, .val (.os 1 eI s57.1)), (3, .val (.os 1 eI s57.2.1))]) 4 hm (fun x65 hm => ?_) (fun J66 hm hJ66 => ?_)
 refine C.nx ?_
 refine C.jn (fun (x72 : List Int × List Int) => [(1, .sl 1 eI from_1), (3, .b back), (4, .p 0 0), (9, .o 1), (11, .o 2), (13, .o 3), (14, .i s57.2.2)]) (fun (x72 : List Int × List Int) => [(0, .box (eApiFloor f)), (1, .val (.os 1 eB x34.1)), (2, .val (.os 1 eI x72.1)), (3, .val (.os 1 eI x72.2))]) 4 hm (fun x72 hm => ?_) (fun J73 hm hJ73 => ?_)
 refine C.bnx (C.nx (U.start ?_))
 refine U.pd 3 T (C.nx ?_)
 exact St.wk (C.next hm) (Wk.a (idR 4))
 refine C.ite rfl hm (fun hb74 hm => ?_) (fun hb74 hm => ?_)
 refine C.seq (U.start ?_)
 refine U.ps 2 T rfl ?_
 obtain ⟨x77, hx77, hm⟩ := hm
 refine U.r rfl (.none rfl) rfl rfl (by exact Rd.io T rfl rfl rfl rfl rfl rfl rfl hx77) ?_
 refine U.e1 rfl (.none rfl) (by exact Eff1.se T (z' := 0) rfl rfl rfl (idx_some hx77).2.2 rfl rfl rfl rfl rfl rfl rfl rfl (fun _ => rfl) rfl) ?_
 refine U.done (C.nx (U.start ?_))
 refine U.ps 2 T rfl ?_
 refine U.e1 rfl (.none rfl) (by exact Eff1.bs T (enc := eI) (xs := ([x64] : List Int)) rfl rfl rfl rfl rfl rfl rfl rfl rfl rfl (fun _ _ => rfl) rfl rfl) ?_
 obtain ⟨hx80, hm⟩ := hm
 refine U.e1 rfl (.none rfl) (by exact Eff1.ap T rfl rfl rfl rfl rfl rfl (.inr ⟨_, rfl, rfl⟩) rfl rfl rfl (fun _ => rfl) rfl hx80) ?_
 refine U.pd 1 T ?_
 exact St.wa [some 0, some 1, some 2, some 5] (hJ73 _ hm)
 refine C.skip ?_
 exact St.wa (idR 4) (hJ73 _ hm)
 refine U.start ?_
 refine U.ps 2 T rfl ?_
 refine U.k (T_taquinref07_Is f x64 _ hm) en55 (fun x67 hm => ?_)
 refine U.ps 1 T rfl ?_
 refine hm.cs (fun hb68 hm => ?_) (fun hb68 hm => ?_)
 refine U.pg 7 3 true 82 hb68 T rfl rfl rfl rfl ?_
 obtain ⟨x69, hx69, hm⟩ := hm
 refine U.r rfl (.take 3 true 82 _ hb68 rfl rfl rfl) rfl rfl (by exact Rd.io T rfl rfl rfl rfl rfl rfl rfl hx69) ?_
 refine U.r rfl (.take 3 true 82 _ hb68 rfl rfl rfl) rfl rfl (by exact Rd.le T rfl rfl rfl (idx_some hx69).2.2 rfl rfl rfl) ?_
 refine U.pg 1 3 true 82 hb68 T rfl rfl rfl rfl ?_
 refine U.pk hb68 ?_
 refine U.ps 1 T rfl ?_
 refine hm.cs (fun hb70 hm => ?_) (fun hb70 hm => ?_)
 refine U.sks 10 15 true 94 (ntF hb70) rfl rfl rfl ?_
 refine U.r rfl (.none rfl) rfl rfl (by exact Rd.pk' rfl rfl (ntF hb70) rfl) ?_
 refine U.done ?_
 exact St.wa (idR 4) (hJ66 _ hm)
 refine U.pg 7 15 true 94 (ntT hb70) T rfl rfl rfl rfl ?_
 obtain ⟨x71, hx71, hm⟩ := hm
 refine U.r rfl (.take 15 true 94 _ (ntT hb70) rfl rfl rfl) rfl rfl (by exact Rd.io T rfl rfl rfl rfl rfl rfl rfl hx71) ?_
 refine U.r rfl (.take 15 true 94 _ (ntT hb70) rfl rfl rfl) rfl rfl (by exact Rd.le T rfl rfl rfl (idx_some hx71).2.2 rfl rfl rfl) ?_
 refine U.pg 1 15 true 94 (ntT hb70) T rfl rfl rfl rfl ?_
 refine U.r rfl (.none rfl) rfl rfl (by exact Rd.pk rfl rfl (ntT hb70) rfl) ?_
 refine U.done ?_
 exact St.wa (idR 4) (hJ66 _ hm)
 refine U.sks 10 3 true 82 hb68 rfl rfl rfl ?_
 refine U.pk' hb68 ?_
 refine U.ps 1 T rfl ?_
 refine U.sks 10 15 true 94 rfl rfl rfl rfl ?_
 refine U.pk' rfl ?_
 refine U.done ?_
 exact St.wa (idR 4) (hJ66 _ hm)
 refine C.exit (C.ex (C.ex (C.bex ?_)))
 exact St.wa (idR 4) (hJ56 _ hm)
 refine C.block ?_
 refine St.wk (C.loop (fun (s36 : List Bool × List Int × Int) => [(1, .sl 1 eI from_1), (3, .b back), (4, .p 0 0), (9, .o 1), (11, .o 2), (12, .i s36.2.2)]) (fun (s36 : List Bool × List Int × Int) => [(0, .box (eApiFloor f)), (1, .val (.os 1 eB s36.1)), (2, .val (.os 1 eI s36.2.1))]) hm (fun s36 Y37 hm => ?_)) (Wk.a (idR 3))
 refine C.seq (C.seq (U.start ?_))
 refine U.pd 4 T (C.nx ?_)
 refine C.ite rfl hm (fun hb40 hm => ?_) (fun hb40 hm => ?_)
 refine C.skip (C.nx (C.seq (C.block (C.seq (U.start ?_)))))
 refine U.ps 2 T rfl ?_
 obtain ⟨x43, hx43, hm⟩ := hm
 refine U.r rfl (.none rfl) rfl rfl (by exact Rd.io T rfl rfl rfl rfl rfl rfl rfl hx43) ?_
 refine U.e1 rfl (.none rfl) (by exact Eff1.se T (z' := (-1)) rfl rfl rfl (idx_some hx43).2.2 rfl rfl rfl rfl rfl rfl rfl rfl (fun _ => rfl) rfl) ?_
 refine U.done (C.nx ?_)
 refine C.jn (fun (x44 : List Bool) => [(1, .sl 1 eI from_1), (3, .b back), (4, .p 0 0), (9, .o 1), (11, .o 2), (12, .i s36.2.2)]) (fun (x44 : List Bool) => [(0, .box (eApiFloor f)), (1, .val (.os 1 eB x44)), (2, .val (.os 1 eI (s36.2.1.set (Int.toNat s36.2.2) (-1))))]) 3 hm (fun x44 hm => ?_) (fun J45 hm hJ45 => ?_)
 refine C.bnx (C.nx (U.start ?_))
 refine U.pd 3 T (C.nx ?_)
 exact St.wk (C.next hm) (Wk.a (idR 3))
 refine U.start ?_
 refine U.ps 4 T rfl ?_
 obtain ⟨x46, hx46, hm⟩ := hm
 refine U.r rfl (.none rfl) rfl rfl (by exact Rd.io T rfl rfl rfl rfl rfl rfl rfl hx46) ?_
 refine U.r rfl (.none rfl) rfl rfl (by exact Rd.le T rfl rfl rfl (idx_some hx46).2.2 rfl rfl rfl) ?_
 refine U.ps 1 T rfl ?_
 refine hm.cs (fun hb47 hm => ?_) (fun hb47 hm => ?_)
 refine U.sks 6 6 false 60 hb47 rfl rfl rfl ?_
 refine U.pk hb47 ?_
 refine U.r rfl (.none rfl) rfl rfl (by exact Rd.io T rfl rfl rfl rfl rfl rfl rfl hx46) ?_
 refine U.e1 rfl (.none rfl) (by exact Eff1.se T (z' := true) rfl rfl rfl (idx_some hx46).2.2 rfl rfl rfl rfl rfl rfl rfl rfl (fun _ => rfl) rfl) ?_
 refine U.done ?_
 exact St.wa (idR 3) (hJ45 _ hm)
 refine U.pg 3 6 false 60 hb47 T rfl rfl rfl rfl ?_
 obtain ⟨x48, hx48, hm⟩ := hm
 refine U.r rfl (.take 6 false 60 _ hb47 rfl rfl rfl) rfl rfl (by exact Rd.ix T rfl rfl rfl rfl rfl rfl hx48) ?_
 refine U.pg 2 6 false 60 hb47 T rfl rfl rfl rfl ?_
 refine U.pk' hb47 ?_
 refine U.r rfl (.none rfl) rfl rfl (by exact Rd.io T rfl rfl rfl rfl rfl rfl rfl hx46) ?_
 refine U.e1 rfl (.none rfl) (by exact Eff1.se T (z' := (x48 == 0)) rfl rfl rfl (idx_some hx46).2.2 rfl rfl rfl rfl rfl rfl rfl rfl (fun _ => rfl) rfl) ?_
 refine U.done ?_
 exact St.wa (idR 3) (hJ45 _ hm)
 refine C.exit (C.ex (C.ex (C.bex ?_)))
 exact St.wa (idR 3) (hJ35 _ hm)
 refine C.block ?_
 refine St.wk (C.loop (fun (s11 : List Bool × Int) => [(1, .sl 1 eI from_1), (2, .sl 1 eI avoid), (3, .b back), (4, .p 0 0), (9, .o 1), (10, .i s11.2)]) (fun (s11 : List Bool × Int) => [(0, .box (eApiFloor f)), (1, .val (.os 1 eB s11.1))]) hm (fun s11 Y12 hm => ?_)) (Wk.a (idR 2))
 refine C.seq (C.seq (U.start ?_))
 refine U.pd 4 T (C.nx ?_)
 refine C.ite rfl hm (fun hb15 hm => ?_) (fun hb15 hm => ?_)
 refine C.skip (C.nx (C.seq (C.block (C.seq ?_))))
 refine D.beg 5 [0] [] mix rfl rfl (by kernel_rfl) (by repeat (first | exact NoPanicQ.body | exact NoPanicQ.rnd | refine NoPanicQ.th ?_ | refine NoPanicQ.blk ?_ | refine NoPanicQ.ng ?_)) (fun hQ hS ws M' => ?_)
 refine D.ps 3 [(0, []), (1, [4, 3]), (2, [4, 3])] rfl hQ hS T rfl rfl (by kernel_rfl) ?_
 obtain ⟨x18, hx18, hm⟩ := hm
 refine D.q 3 [4] hQ hS rfl (.none rfl) rfl rfl (by exact Rd.ix T rfl rfl rfl rfl rfl rfl hx18) rfl (by kernel_rfl) ?_
 refine D.ps 1 [(4, [])] rfl hQ hS T rfl rfl (by kernel_rfl) ?_
 refine D.ze rfl (.none rfl) (by exact Eff.k (T_taquinref07_Is f x18 _ hm) en55 rfl rfl rfl (.eq rfl) (fun _ _ => ⟨(.v _), trivial⟩)) (by kernel_rfl) (by kernel_rfl) (fun x19' hm => ?_)
 obtain ⟨x19⟩ := x19'
 refine C.nx ?_
 refine C.jn (fun (x20 : List Bool) => [(1, .sl 1 eI from_1), (2, .sl 1 eI avoid), (3, .b back), (4, .p 0 0), (9, .o 1), (10, .i s11.2)]) (fun (x20 : List Bool) => [(0, .box (eApiFloor f)), (1, .val (.os 1 eB x20))]) 2 hm (fun x20 hm => ?_) (fun J21 hm hJ21 => ?_)
 refine C.bnx (C.nx (U.start ?_))
 refine U.pd 3 T (C.nx ?_)
 exact St.wk (C.next hm) (Wk.a (idR 2))
 refine C.ite rfl hm (fun hb22 hm => ?_) (fun hb22 hm => ?_)
 refine U.start ?_
 refine U.ps 3 T rfl ?_
 refine U.r rfl (.none rfl) rfl rfl (by exact Rd.ix T rfl rfl rfl rfl rfl rfl hx18) ?_
 refine U.ps 1 T rfl ?_
 obtain ⟨x25, hx25, hm⟩ := hm
 refine U.r rfl (.none rfl) rfl rfl (by exact Rd.io T rfl rfl rfl rfl rfl rfl rfl hx25) ?_
 refine U.e1 rfl (.none rfl) (by exact Eff1.se T (z' := true) rfl rfl rfl (idx_some hx25).2.2 rfl rfl rfl rfl rfl rfl rfl rfl (fun _ => rfl) rfl) ?_
 refine U.done ?_
 exact St.wa (idR 2) (hJ21 _ hm)
 refine C.skip ?_
 exact St.wa (idR 2) (hJ21 _ hm)
 refine C.exit (C.ex (C.ex (C.bex ?_)))
 exact St.wa (idR 2) (hJ10 _ hm)
theorem T_taquinref07_Path (f : ApiFloor) (a : Int) (b : Int) (avoid : List Int) (post : (List Int) → Prop) (hm : V_taquinref07_Path f a b avoid post) :
    Tr Tryz.prog 63 [.agg (eApiFloor f), .i a, .i b, .sl 1 eI avoid] [] 0 (fun A H' k => ∃ y, post y ∧ A = (.o 0) ∧ H' = [(0, .val (.os 1 eI y))] ∧ k = 1) := by
 refine Tr.intro (n := 73) Tryz.func63 rfl Tryz.ntmps63 rfl (fun w0 ok F β hβ => ?_)
 unfold V_taquinref07_Path at hm
 refine C.seq (U.start ?_)
 refine U.bx ?_
 refine U.pd 1 T (C.nx (C.seq (C.seq ?_)))
 refine C.jn (fun (x3 : Bool) => [(1, .i a), (2, .i b), (3, .sl 1 eI avoid), (4, .p 0 0), (24, .b x3)]) (fun (x3 : Bool) => [(0, .box (eApiFloor f))]) 1 hm (fun x3 hm => ?_) (fun J4 hm hJ4 => ?_)
 refine C.nx ?_
 refine C.ite rfl hm (fun hb8 hm => ?_) (fun hb8 hm => ?_)
 refine C.seq (U.start ?_)
 refine U.pd 1 T (C.nx (C.ret (C.rt ?_)))
 exact C.g1 [none] T hβ ⟨[], hm, rfl, rfl, rfl⟩
 refine C.skip (C.nx (C.seq (U.start ?_)))
 refine U.ps 2 T rfl ?_
 refine U.e1 rfl (.none rfl) (by exact Eff1.bs T (enc := eI) (xs := ([b] : List Int)) rfl rfl rfl rfl rfl rfl rfl rfl rfl rfl (fun _ _ => rfl) rfl rfl) ?_
 refine U.ps 1 T rfl ?_
 refine U.k (T_taquinref07_spread f ([b] : List Int) avoid true _ hm) en101 (fun x13 hm => ?_)
 refine U.pd 1 T (C.nx (C.seq (C.seq (U.start ?_))))
 refine U.ps 2 T rfl ?_
 obtain ⟨x16, hx16, hm⟩ := hm
 refine U.r rfl (.none rfl) rfl rfl (by exact Rd.io T rfl rfl rfl rfl rfl rfl rfl hx16) ?_
 refine U.r rfl (.none rfl) rfl rfl (by exact Rd.le T rfl rfl rfl (idx_some hx16).2.2 rfl rfl rfl) ?_
 refine U.pd 1 T (C.nx ?_)
 refine C.ite rfl hm (fun hb17 hm => ?_) (fun hb17 hm => ?_)
 refine C.seq (U.start ?_)
 refine U.pd 1 T (C.nx (C.ret (C.rt ?_)))
 exact C.g1 [none] T hβ ⟨[], hm, rfl, rfl, rfl⟩
 refine C.skip (C.nx (C.seq (U.start ?_)))
 refine U.ps 1 T rfl ?_
 refine U.e1 rfl (.none rfl) (by exact Eff1.bs T (enc := eI) (xs := ([a] : List Int)) rfl rfl rfl rfl rfl rfl rfl rfl rfl rfl (fun _ _ => rfl) rfl rfl) ?_
 refine U.pd 1 T (C.nx (C.seq (U.start ?_)))
 refine U.pd 2 T (C.nx (C.seq ?_))
 refine C.jn (fun (x24 : List Int) => [(10, .o 0)]) (fun (x24 : List Int) => [(0, .val (.os 1 eI x24))]) 1 hm (fun x24 hm => ?_) (fun J25 hm hJ25 => ?_)
 refine C.nx (C.seq (U.start ?_))
 refine U.pd 2 T (C.nx (C.ret ?_))
 exact C.g1 [some 0] T hβ ⟨x24, hm, rfl, rfl, rfl⟩
 refine C.block ?_
 refine St.wk (C.loop (fun (s26 : List Int × Int) => [(4, .p 0 0), (9, .o 1), (10, .o 2), (11, .i s26.2)]) (fun (s26 : List Int × Int) => [(0, .box (eApiFloor f)), (1, .val (.os 1 eI x13)), (2, .val (.os 1 eI s26.1))]) hm (fun s26 Y27 hm => ?_)) (Wk.a [some 0, some 2, some 3])
 refine C.seq (C.seq (U.start ?_))
 refine U.ps 2 T rfl ?_
 obtain ⟨x30, hx30, hm⟩ := hm
 refine U.r rfl (.none rfl) rfl rfl (by exact Rd.io T rfl rfl rfl rfl rfl rfl rfl hx30) ?_
 refine U.r rfl (.none rfl) rfl rfl (by exact Rd.le T rfl rfl rfl (idx_some hx30).2.2 rfl rfl rfl) ?_
 refine U.pd 1 T (C.nx ?_)
 refine C.ite rfl hm (fun hb31 hm => ?_) (fun hb31 hm => ?_)
 refine C.skip (C.nx ?_)
 refine C.jn (fun (x32 : List Int × Int) => [(4, .p 0 0), (9, .o 1), (10, .o 2), (11, .i x32.2)]) (fun (x32 : List Int × Int) => [(0, .box (eApiFloor f)), (1, .val (.os 1 eI x13)), (2, .val (.os 1 eI x32.1))]) 3 hm (fun x32 hm => ?_) (fun J33 hm hJ33 => ?_)
 refine C.nx ?_
 exact St.wk (C.next hm) (Wk.a (idR 3))
 refine C.block (C.seq (C.seq (U.start ?_)))
 refine U.pd 1 T (C.nx ?_)
 refine C.jn (fun (x36 : Int) => [(4, .p 0 0), (9, .o 1), (10, .o 2), (11, .i x36)]) (fun (x36 : Int) => [(0, .box (eApiFloor f)), (1, .val (.os 1 eI x13)), (2, .val (.os 1 eI s26.1))]) 3 hm (fun x36 hm => ?_) (fun J37 hm hJ37 => ?_)
 refine C.nx (U.start ?_)
 refine U.ps 2 T rfl ?_
 refine U.e1 rfl (.none rfl) (by exact Eff1.bs T (enc := eI) (xs := ([x36] : List Int)) rfl rfl rfl rfl rfl rfl rfl rfl rfl rfl (fun _ _ => rfl) rfl rfl) ?_
 obtain ⟨hx58, hm⟩ := hm
 refine U.e1 rfl (.none rfl) (by exact Eff1.ap T rfl rfl rfl rfl rfl rfl (.inr ⟨_, rfl, rfl⟩) rfl rfl rfl (fun _ => rfl) rfl hx58) ?_
 refine U.pd 1 T (C.bnx ?_)
 exact St.wa [some 0, some 1, some 4] (hJ33 _ hm)
 refine C.block ?_
 refine St.wk (C.loop (fun (s38 : Int) => [(4, .p 0 0), (9, .o 1), (10, .o 2), (11, .i s26.2), (12, .i s38)]) (fun (s38 : Int) => [(0, .box (eApiFloor f)), (1, .val (.os 1 eI x13)), (2, .val (.os 1 eI s26.1))]) hm (fun s38 Y39 hm => ?_)) (Wk.a (idR 3))
 refine C.seq (C.seq (U.start ?_))
 refine U.pd 2 T (C.nx ?_)
 refine C.ite rfl hm (fun hb42 hm => ?_) (fun hb42 hm => ?_)
 refine C.skip (C.nx (C.seq (C.block (C.seq (U.start ?_)))))
 refine U.ps 3 T rfl ?_
 refine U.k (T_taquinref07_Next f s26.2 s38 _ hm) en102 (fun x45 hm => ?_)
 refine U.pd 5 T (C.nx (C.seq ?_))
 refine C.jn (fun (x46 : Bool) => [(4, .p 0 0), (9, .o 1), (10, .o 2), (11, .i s26.2), (12, .i s38), (13, .i x45.1), (66, .b x46)]) (fun (x46 : Bool) => [(0, .box (eApiFloor f)), (1, .val (.os 1 eI x13)), (2, .val (.os 1 eI s26.1))]) 3 hm (fun x46 hm => ?_) (fun J47 hm hJ47 => ?_)
 refine C.nx ?_
 refine C.ite rfl hm (fun hb51 hm => ?_) (fun hb51 hm => ?_)
 refine C.seq (U.start ?_)
 refine U.pd 2 T (C.nx (C.exit ?_))
 refine C.bex' rfl ?_
 refine C.ex (C.ex (C.bex ?_))
 exact St.wa (idR 3) (hJ37 _ hm)
 refine C.skip (C.bnx (C.nx (U.start ?_)))
 refine U.pd 3 T (C.nx ?_)
 exact St.wk (C.next hm) (Wk.a (idR 3))
 refine D.beg 9999 [1] [] mix rfl rfl (by kernel_rfl) (by repeat (first | exact NoPanicQ.body | exact NoPanicQ.rnd | refine NoPanicQ.th ?_ | refine NoPanicQ.blk ?_ | refine NoPanicQ.ng ?_)) (fun hQ hS ws M' => ?_)
 refine D.ps 2 [(0, []), (1, [])] rfl hQ hS T rfl rfl (by kernel_rfl) ?_
 refine hm.cs (fun hb48 hm => ?_) (fun hb48 hm => ?_)
 refine D.q 2 [] hQ hS rfl (.take 1 true 55 _ hb48 rfl rfl rfl) rfl rfl (by exact Rd.p T rfl) rfl (by kernel_rfl) ?_
 refine D.q 3 [] hQ hS rfl (.take 1 true 55 _ hb48 rfl rfl rfl) rfl rfl (by exact Rd.p T rfl) rfl (by kernel_rfl) ?_
 obtain ⟨x49, hx49, hm⟩ := hm
 refine D.q 4 [] hQ hS rfl (.take 1 true 55 _ hb48 rfl rfl rfl) rfl rfl (by exact Rd.io T rfl rfl rfl rfl rfl rfl rfl hx49) rfl (by kernel_rfl) ?_
 refine D.q 5 [] hQ hS rfl (.take 1 true 55 _ hb48 rfl rfl rfl) rfl rfl (by exact Rd.le T rfl rfl rfl (idx_some hx49).2.2 rfl rfl rfl) rfl (by kernel_rfl) ?_
 refine D.q 6 [] hQ hS rfl (.take 1 true 55 _ hb48 rfl rfl rfl) rfl rfl (by exact Rd.p T rfl) rfl (by kernel_rfl) ?_
 refine D.q 7 [] hQ hS rfl (.take 1 true 55 _ hb48 rfl rfl rfl) rfl rfl (by exact Rd.p T rfl) rfl (by kernel_rfl) ?_
 obtain ⟨x50, hx50, hm⟩ := hm
 refine D.q 8 [] hQ hS rfl (.take 1 true 55 _ hb48 rfl rfl rfl) rfl rfl (by exact Rd.io T rfl rfl rfl rfl rfl rfl rfl hx50) rfl (by kernel_rfl) ?_
 refine D.q 9 [] hQ hS rfl (.take 1 true 55 _ hb48 rfl rfl rfl) rfl rfl (by exact Rd.le T rfl rfl rfl (idx_some hx50).2.2 rfl rfl rfl) rfl (by kernel_rfl) ?_
 refine D.q 10 [] hQ hS rfl (.take 1 true 55 _ hb48 rfl rfl rfl) rfl rfl (by exact Rd.p T rfl) rfl (by kernel_rfl) ?_
 refine D.q 11 [] hQ hS rfl (.take 1 true 55 _ hb48 rfl rfl rfl) rfl rfl (by exact Rd.p T rfl) rfl (by kernel_rfl) ?_
 refine D.q 12 [] hQ hS rfl (.none rfl) rfl rfl (by exact Rd.pk rfl rfl hb48 rfl) rfl (by kernel_rfl) ?_
 refine D.done (by kernel_rfl) ?_
 exact St.wa (idR 3) (hJ47 _ hm)
 refine D.sx 2 [] hQ hS (.skip 1 true 55 _ hb48 rfl rfl rfl) ?_
 refine D.sx 3 [] hQ hS (.skip 1 true 55 _ hb48 rfl rfl rfl) ?_
 refine D.sx 4 [] hQ hS (.skip 1 true 55 _ hb48 rfl rfl rfl) ?_
 refine D.sx 5 [] hQ hS (.skip 1 true 55 _ hb48 rfl rfl rfl) ?_
 refine D.sx 6 [] hQ hS (.skip 1 true 55 _ hb48 rfl rfl rfl) ?_
 refine D.sx 7 [] hQ hS (.skip 1 true 55 _ hb48 rfl rfl rfl) ?_
 refine D.sx 8 [] hQ hS (.skip 1 true 55 _ hb48 rfl rfl rfl) ?_
 refine D.sx 9 [] hQ hS (.skip 1 true 55 _ hb48 rfl rfl rfl) ?_
 refine D.sx 10 [] hQ hS (.skip 1 true 55 _ hb48 rfl rfl rfl) ?_
 refine D.sx 11 [] hQ hS (.skip 1 true 55 _ hb48 rfl rfl rfl) ?_
 refine D.q 12 [] hQ hS rfl (.none rfl) rfl rfl (by exact Rd.pk' rfl rfl hb48 rfl) rfl (by kernel_rfl) ?_
 refine D.done (by kernel_rfl) ?_
 exact St.wa (idR 3) (hJ47 _ hm)
 refine C.exit (C.ex (C.ex (C.bex ?_)))
 exact St.wa (idR 3) (hJ37 _ hm)
 refine C.exit (C.ex (C.ex (C.bex ?_)))
 exact St.wa [some 2] (hJ25 _ hm)
 refine U.start ?_
 refine U.ps 2 T rfl ?_
 refine U.k (T_taquinref07_Is f a _ hm) en55 (fun x5 hm => ?_)
 refine U.ps 2 T rfl ?_
 refine hm.cs (fun hb6 hm => ?_) (fun hb6 hm => ?_)
 refine U.pg 2 4 false 19 (ntF hb6) T rfl rfl rfl rfl ?_
 refine U.k (T_taquinref07_Is f b _ hm) en55 (fun x7 hm => ?_) (hw := .take 4 false 19 _ (ntF hb6) rfl rfl rfl)
 refine U.pg 1 4 false 19 (ntF hb6) T rfl rfl rfl rfl ?_
 refine U.r rfl (.none rfl) rfl rfl (by exact Rd.pk' rfl rfl (ntF hb6) rfl) ?_
 refine U.done ?_
 exact St.wa [some 0] (hJ4 _ hm)
 refine U.sks 4 4 false 19 (ntT hb6) rfl rfl rfl ?_
 refine U.r rfl (.none rfl) rfl rfl (by exact Rd.pk rfl rfl (ntT hb6) rfl) ?_
 refine U.done ?_
 exact St.wa [some 0] (hJ4 _ hm)
theorem T_taquinref21_Way (s_1 : ApiSite) (st : ApiState) (homes : List Int) (gone : List Int) (robot : Int) (post : (List Int) → Prop) (hm : V_taquinref21_Way s_1 st homes gone robot post) :
    Tr Tryz.prog 21 [.agg (eApiSite s_1), .agg (eApiState st), .sl 1 eI homes, .sl 1 eI gone, .i robot] [] 0 (fun A H' k => ∃ y, post y ∧ A = (.o 0) ∧ H' = [(0, .val (.os 1 eI y))] ∧ k = 1) := by
 refine Tr.intro (n := 129) Tryz.func21 rfl Tryz.ntmps21 rfl (fun w0 ok F β hβ => ?_)
 unfold V_taquinref21_Way at hm
 refine C.seq (U.start ?_)
 refine U.bx ?_
 refine U.bx ?_
 refine U.pd 1 T (C.nx (C.seq (C.seq ?_)))
 refine C.jn (fun (x3 : Bool) => [(2, .sl 1 eI homes), (3, .sl 1 eI gone), (4, .i robot), (5, .p 0 0), (6, .p 1 0), (26, .b x3)]) (fun (x3 : Bool) => [(0, .box (eApiSite s_1)), (1, .box (eApiState st))]) 2 hm (fun x3 hm => ?_) (fun J4 hm hJ4 => ?_)
 refine C.nx ?_
 refine C.ite rfl hm (fun hb8 hm => ?_) (fun hb8 hm => ?_)
 refine C.seq (U.start ?_)
 refine U.pd 1 T (C.nx (C.ret (C.rt ?_)))
 exact C.g1 [none] T hβ ⟨[], hm, rfl, rfl, rfl⟩
 refine C.skip (C.nx (C.seq (U.start ?_)))
 refine U.ps 3 T rfl ?_
 obtain ⟨x13, hx13, hm⟩ := hm
 refine U.r rfl (.none rfl) rfl rfl (by exact Rd.ix T rfl rfl rfl rfl rfl rfl hx13) ?_
 refine U.pd 3 T (C.nx (C.seq ?_))
 refine D.beg 9999 [1] [2, 3] mix rfl rfl (by kernel_rfl) (by repeat (first | exact NoPanicQ.body | exact NoPanicQ.rnd | refine NoPanicQ.th ?_ | refine NoPanicQ.blk ?_ | refine NoPanicQ.ng ?_)) (fun hQ hS ws M' => ?_)
 refine D.ps 4 [(1, []), (2, []), (4, []), (5, [])] rfl hQ hS T rfl rfl (by kernel_rfl) ?_
 refine D.e1 0 rfl (.none rfl) (by exact Eff1.bs T (enc := eI) (xs := ([] : List Int)) rfl rfl rfl rfl rfl rfl rfl rfl rfl rfl (fun _ _ => rfl) rfl rfl) (by kernel_rfl) rfl rfl ?_
 obtain ⟨hx16, hm⟩ := hm
 refine D.e1 3 rfl (.none rfl) (by exact Eff1.ap T rfl rfl rfl rfl rfl rfl (.inl rfl) rfl rfl rfl (fun _ => rfl) rfl hx16) (by kernel_rfl) rfl rfl ?_
 obtain ⟨hx17, hm⟩ := hm
 refine D.e1 6 rfl (.none rfl) (by exact Eff1.ap T rfl rfl rfl rfl rfl rfl (.inl rfl) rfl rfl rfl (fun _ => rfl) rfl hx17) (by kernel_rfl) rfl rfl ?_
 refine D.ps 1 [(7, [])] rfl hQ hS T rfl rfl (by kernel_rfl) ?_
 refine D.done (by kernel_rfl) ?_
 refine C.nx (C.seq (C.seq (U.start ?_)))
 refine U.pd 1 T (C.nx ?_)
 refine C.jn (fun (x20 : List Int) => [(2, .sl 1 eI homes), (4, .i robot), (5, .p 0 0), (6, .p 1 0), (11, .i x13.Cell), (12, .o 2)]) (fun (x20 : List Int) => [(0, .box (eApiSite s_1)), (1, .box (eApiState st)), (2, .val (.os 1 eI x20))]) 3 hm (fun x20 hm => ?_) (fun J21 hm hJ21 => ?_)
 refine C.nx (C.seq (C.seq (U.start ?_)))
 refine U.ps 3 T rfl ?_
 refine U.r rfl (.none rfl) rfl rfl (by exact Rd.ix T rfl rfl rfl rfl rfl rfl hx13) ?_
 refine U.pd 3 T (C.nx ?_)
 refine C.jn (fun (x52 : List Int) => [(2, .sl 1 eI homes), (4, .i robot), (5, .p 0 0), (11, .i x13.Cell), (12, .o 1)]) (fun (x52 : List Int) => [(0, .box (eApiSite s_1)), (1, .val (.os 1 eI x52))]) 2 hm (fun x52 hm => ?_) (fun J53 hm hJ53 => ?_)
 refine C.nx (C.seq (U.start ?_))
 refine U.pd 1 T (C.nx (C.seq (C.seq (U.start ?_))))
 refine U.pd 1 T (C.nx ?_)
 refine C.jn (fun (x82 : List Int) => [(2, .sl 1 eI homes), (4, .i robot), (5, .p 0 0), (11, .i x13.Cell), (16, .o 1)]) (fun (x82 : List Int) => [(0, .box (eApiSite s_1)), (1, .val (.os 1 eI x82))]) 2 hm (fun x82 hm => ?_) (fun J83 hm hJ83 => ?_)
 refine C.nx (C.seq ?_)
 refine D.beg 9999 [0] [] mix rfl rfl (by kernel_rfl) (by repeat (first | exact NoPanicQ.body | exact NoPanicQ.rnd | refine NoPanicQ.th ?_ | refine NoPanicQ.blk ?_ | refine NoPanicQ.ng ?_)) (fun hQ hS ws M' => ?_)
 refine D.ps 5 [(0, []), (1, []), (2, []), (3, []), (4, [])] rfl hQ hS T rfl rfl (by kernel_rfl) ?_
 obtain ⟨x102, hx102, hm⟩ := hm
 refine D.q 5 [] hQ hS rfl (.none rfl) rfl rfl (by exact Rd.ix T rfl rfl rfl rfl rfl rfl hx102) rfl (by kernel_rfl) ?_
 refine D.ps 2 [(6, []), (7, [])] rfl hQ hS T rfl rfl (by kernel_rfl) ?_
 refine D.k 8 (T_taquinref07_Path s_1.Floor x13.Cell x102 x82 _ hm) en63 (fun x103 hm => ?_)
 refine D.ps 1 [(9, [])] rfl hQ hS T rfl rfl (by kernel_rfl) ?_
 refine D.done (by kernel_rfl) ?_
 refine C.nx (C.ret ?_)
 exact C.g1 [some 2] T hβ ⟨x103, hm, rfl, rfl, rfl⟩
 refine C.block ?_
 refine St.wk (C.loop (fun (s84 : List Int × Int) => [(2, .sl 1 eI homes), (4, .i robot), (5, .p 0 0), (11, .i x13.Cell), (12, .o 1), (16, .o 2), (17, .i s84.2)]) (fun (s84 : List Int × Int) => [(0, .box (eApiSite s_1)), (1, .val (.os 1 eI x52)), (2, .val (.os 1 eI s84.1))]) hm (fun s84 Y85 hm => ?_)) (Wk.mk' [some 0, some 1, none] rfl rfl ⟨⟨_, rfl, (.eq rfl)⟩, ⟨_, rfl, (.eq rfl)⟩, ⟨_, rfl, (.eq rfl)⟩, ⟨_, rfl, (.eq rfl)⟩, ⟨_, rfl, (.eq rfl)⟩, ⟨_, rfl, (.nilO _ _ ⟨rfl, rfl⟩ rfl)⟩, ChkG.eqs rfl⟩ ⟨bX, vL, ⟨_, rfl, .nil _ _⟩, trivial⟩ rfl)
 refine C.seq (C.seq (U.start ?_))
 refine U.pd 4 T (C.nx ?_)
 refine C.ite rfl hm (fun hb88 hm => ?_) (fun hb88 hm => ?_)
 refine C.skip (C.nx (C.seq (C.block (C.seq (U.start ?_)))))
 refine U.ps 2 T rfl ?_
 obtain ⟨x91, hx91, hm⟩ := hm
 refine U.r rfl (.none rfl) rfl rfl (by exact Rd.io T rfl rfl rfl rfl rfl rfl rfl hx91) ?_
 refine U.r rfl (.none rfl) rfl rfl (by exact Rd.le T rfl rfl rfl (idx_some hx91).2.2 rfl rfl rfl) ?_
 refine U.pd 2 T (C.nx ?_)
 refine C.jn (fun (x92 : List Int) => [(2, .sl 1 eI homes), (4, .i robot), (5, .p 0 0), (11, .i x13.Cell), (12, .o 1), (16, .o 2), (17, .i s84.2)]) (fun (x92 : List Int) => [(0, .box (eApiSite s_1)), (1, .val (.os 1 eI x52)), (2, .val (.os 1 eI x92))]) 3 hm (fun x92 hm => ?_) (fun J93 hm hJ93 => ?_)
 refine C.bnx (C.nx (U.start ?_))
 refine U.pd 3 T (C.nx ?_)
 exact St.wk (C.next hm) (Wk.a (idR 3))
 refine C.ite rfl hm (fun hb94 hm => ?_) (fun hb94 hm => ?_)
 refine U.start ?_
 refine U.ps 3 T rfl ?_
 refine U.r rfl (.none rfl) rfl rfl (by exact Rd.io T rfl rfl rfl rfl rfl rfl rfl hx91) ?_
 refine U.r rfl (.none rfl) rfl rfl (by exact Rd.le T rfl rfl rfl (idx_some hx91).2.2 rfl rfl rfl) ?_
 refine U.e1 rfl (.none rfl) (by exact Eff1.bs T (enc := eI) (xs := ([x91] : List Int)) rfl rfl rfl rfl rfl rfl rfl rfl rfl rfl (fun _ _ => rfl) rfl rfl) ?_
 obtain ⟨hx97, hm⟩ := hm
 refine U.e1 rfl (.none rfl) (by exact Eff1.ap T rfl rfl rfl rfl rfl rfl (.inr ⟨_, rfl, rfl⟩) rfl rfl rfl (fun _ => rfl) rfl hx97) ?_
 refine U.pd 1 T ?_
 exact St.wa [some 0, some 1, some 4] (hJ93 _ hm)
 refine C.skip ?_
 exact St.wa (idR 3) (hJ93 _ hm)
 refine C.exit (C.ex (C.ex (C.bex ?_)))
 exact St.wa [some 0, some 2] (hJ83 _ hm)
 refine C.ite rfl hm (fun hb54 hm => ?_) (fun hb54 hm => ?_)
 refine C.seq (U.start ?_)
 refine U.ps 2 T rfl ?_
 refine U.k (T_taquinref12_Standing s_1 st _ hm) en62 (fun x57 hm => ?_)
 refine U.pd 1 T (C.nx (C.seq (U.start ?_)))
 refine U.pd 1 T (C.nx ?_)
 refine C.jn (fun (x60 : List Int) => [(2, .sl 1 eI homes), (4, .i robot), (5, .p 0 0), (11, .i x13.Cell), (12, .o 1)]) (fun (x60 : List Int) => [(0, .box (eApiSite s_1)), (1, .val (.os 1 eI x60))]) 2 hm (fun x60 hm => ?_) (fun J61 hm hJ61 => ?_)
 exact St.wa (idR 2) (hJ53 _ hm)
 refine C.block ?_
 refine St.wk (C.loop (fun (s62 : List Int × Int) => [(2, .sl 1 eI homes), (4, .i robot), (5, .p 0 0), (11, .i x13.Cell), (12, .o 1), (14, .o 2), (15, .i s62.2)]) (fun (s62 : List Int × Int) => [(0, .box (eApiSite s_1)), (1, .val (.os 1 eI s62.1)), (2, .val (.os 1 eI x57))]) hm (fun s62 Y63 hm => ?_)) (Wk.a [some 0, some 2, some 3])
 refine C.seq (C.seq (U.start ?_))
 refine U.pd 4 T (C.nx ?_)
 refine C.ite rfl hm (fun hb66 hm => ?_) (fun hb66 hm => ?_)
 refine C.skip (C.nx (C.seq (C.block (C.seq (U.start ?_)))))
 refine U.ps 2 T rfl ?_
 obtain ⟨x69, hx69, hm⟩ := hm
 refine U.r rfl (.none rfl) rfl rfl (by exact Rd.io T rfl rfl rfl rfl rfl rfl rfl hx69) ?_
 refine U.r rfl (.none rfl) rfl rfl (by exact Rd.le T rfl rfl rfl (idx_some hx69).2.2 rfl rfl rfl) ?_
 refine U.pd 1 T (C.nx ?_)
 refine C.jn (fun (x70 : List Int) => [(2, .sl 1 eI homes), (4, .i robot), (5, .p 0 0), (11, .i x13.Cell), (12, .o 1), (14, .o 2), (15, .i s62.2)]) (fun (x70 : List Int) => [(0, .box (eApiSite s_1)), (1, .val (.os 1 eI x70)), (2, .val (.os 1 eI x57))]) 3 hm (fun x70 hm => ?_) (fun J71 hm hJ71 => ?_)
 refine C.bnx (C.nx (U.start ?_))
 refine U.pd 3 T (C.nx ?_)
 exact St.wk (C.next hm) (Wk.a (idR 3))
 refine C.ite rfl hm (fun hb72 hm => ?_) (fun hb72 hm => ?_)
 refine U.start ?_
 refine U.ps 2 T rfl ?_
 refine U.e1 rfl (.none rfl) (by exact Eff1.bs T (enc := eI) (xs := ([s62.2] : List Int)) rfl rfl rfl rfl rfl rfl rfl rfl rfl rfl (fun _ _ => rfl) rfl rfl) ?_
 obtain ⟨hx75, hm⟩ := hm
 refine U.e1 rfl (.none rfl) (by exact Eff1.ap T rfl rfl rfl rfl rfl rfl (.inr ⟨_, rfl, rfl⟩) rfl rfl rfl (fun _ => rfl) rfl hx75) ?_
 refine U.pd 1 T ?_
 exact St.wa [some 0, some 4, some 2] (hJ71 _ hm)
 refine C.skip ?_
 exact St.wa (idR 3) (hJ71 _ hm)
 refine C.exit (C.ex (C.ex (C.bex ?_)))
 exact St.wa (idR 2) (hJ61 _ hm)
 refine C.skip ?_
 exact St.wa [some 0, some 2] (hJ53 _ hm)
 refine C.block ?_
 refine St.wk (C.loop (fun (s22 : List Int × Int) => [(2, .sl 1 eI homes), (3, .sl 1 eI gone), (4, .i robot), (5, .p 0 0), (6, .p 1 0), (11, .i x13.Cell), (12, .o 2), (13, .i s22.2)]) (fun (s22 : List Int × Int) => [(0, .box (eApiSite s_1)), (1, .box (eApiState st)), (2, .val (.os 1 eI s22.1))]) hm (fun s22 Y23 hm => ?_)) (Wk.a [some 0, some 1, some 4])
 refine C.seq (C.seq (U.start ?_))
 refine U.pd 5 T (C.nx ?_)
 refine C.ite rfl hm (fun hb26 hm => ?_) (fun hb26 hm => ?_)
 refine C.skip (C.nx (C.seq ?_))
 refine C.jn (fun (x27 : List Int) => [(2, .sl 1 eI homes), (3, .sl 1 eI gone), (4, .i robot), (5, .p 0 0), (6, .p 1 0), (11, .i x13.Cell), (12, .o 2), (13, .i s22.2)]) (fun (x27 : List Int) => [(0, .box (eApiSite s_1)), (1, .box (eApiState st)), (2, .val (.os 1 eI x27))]) 3 hm (fun x27 hm => ?_) (fun J28 hm hJ28 => ?_)
 refine C.nx (U.start ?_)
 refine U.pd 3 T (C.nx ?_)
 exact St.wk (C.next hm) (Wk.a (idR 3))
 refine C.block (C.seq (C.seq (U.start ?_)))
 refine U.pd 3 T (C.nx ?_)
 refine C.ite rfl hm (fun hb31 hm => ?_) (fun hb31 hm => ?_)
 refine C.exit (C.ex (C.bex ?_))
 exact St.wa (idR 3) (hJ28 _ hm)
 refine C.skip (C.nx (C.seq (U.start ?_)))
 refine U.ps 3 T rfl ?_
 obtain ⟨x34, hx34, hm⟩ := hm
 refine U.r rfl (.none rfl) rfl rfl (by exact Rd.ix T rfl rfl rfl rfl rfl rfl hx34) ?_
 refine U.ps 1 T rfl ?_
 refine U.e1 rfl (.none rfl) (by exact Eff1.bs T (enc := eI) (xs := ([x34] : List Int)) rfl rfl rfl rfl rfl rfl rfl rfl rfl rfl (fun _ _ => rfl) rfl rfl) ?_
 obtain ⟨hx35, hm⟩ := hm
 refine U.e1 rfl (.none rfl) (by exact Eff1.ap T rfl rfl rfl rfl rfl rfl (.inr ⟨_, rfl, rfl⟩) rfl rfl rfl (fun _ => rfl) rfl hx35) ?_
 refine U.pd 1 T (C.nx (C.seq ?_))
 refine C.jn (fun (x36 : Bool) => [(2, .sl 1 eI homes), (3, .sl 1 eI gone), (4, .i robot), (5, .p 0 0), (6, .p 1 0), (11, .i x13.Cell), (12, .o 2), (13, .i s22.2), (66, .b x36)]) (fun (x36 : Bool) => [(0, .box (eApiSite s_1)), (1, .box (eApiState st)), (2, .val (.os 1 eI (s22.1 ++ ([x34] : List Int))))]) 3 hm (fun x36 hm => ?_) (fun J37 hm hJ37 => ?_)
 refine C.nx ?_
 refine C.jn (fun (x41 : List Int) => [(2, .sl 1 eI homes), (3, .sl 1 eI gone), (4, .i robot), (5, .p 0 0), (6, .p 1 0), (11, .i x13.Cell), (12, .o 2), (13, .i s22.2)]) (fun (x41 : List Int) => [(0, .box (eApiSite s_1)), (1, .box (eApiState st)), (2, .val (.os 1 eI x41))]) 3 hm (fun x41 hm => ?_) (fun J42 hm hJ42 => ?_)
 refine C.bnx ?_
 exact St.wa (idR 3) (hJ28 _ hm)
 refine C.ite rfl hm (fun hb43 hm => ?_) (fun hb43 hm => ?_)
 refine U.start ?_
 refine U.ps 4 T rfl ?_
 obtain ⟨x46, hx46, hm⟩ := hm
 refine U.r rfl (.none rfl) rfl rfl (by exact Rd.ix T rfl rfl rfl rfl rfl rfl hx46) ?_
 refine U.ps 2 T rfl ?_
 refine U.e1 rfl (.none rfl) (by exact Eff1.bs T (enc := eI) (xs := ([x46.Cell] : List Int)) rfl rfl rfl rfl rfl rfl rfl rfl rfl rfl (fun _ _ => rfl) rfl rfl) ?_
 obtain ⟨hx47, hm⟩ := hm
 refine U.e1 rfl (.none rfl) (by exact Eff1.ap T rfl rfl rfl rfl rfl rfl (.inr ⟨_, rfl, rfl⟩) rfl rfl rfl (fun _ => rfl) rfl hx47) ?_
 refine U.pd 1 T ?_
 exact St.wa [some 0, some 1, some 4] (hJ42 _ hm)
 refine C.skip ?_
 exact St.wa (idR 3) (hJ42 _ hm)
 refine U.start ?_
 refine U.ps 2 T rfl ?_
 refine U.k (T_taquinref21_there st s22.2 _ hm) en61 (fun x38 hm => ?_)
 refine U.ps 2 T rfl ?_
 refine hm.cs (fun hb39 hm => ?_) (fun hb39 hm => ?_)
 refine U.pg 2 4 false 61 (ntF hb39) T rfl rfl rfl rfl ?_
 refine U.k (T_taquinref07_Has gone s22.2 _ hm) en23 (fun x40 hm => ?_) (hw := .take 4 false 61 _ (ntF hb39) rfl rfl rfl)
 refine U.pg 1 4 false 61 (ntF hb39) T rfl rfl rfl rfl ?_
 refine U.r rfl (.none rfl) rfl rfl (by exact Rd.pk' rfl rfl (ntF hb39) rfl) ?_
 refine U.done ?_
 exact St.wa [some 0, some 1, some 4] (hJ37 _ hm)
 refine U.sks 4 4 false 61 (ntT hb39) rfl rfl rfl ?_
 refine U.r rfl (.none rfl) rfl rfl (by exact Rd.pk rfl rfl (ntT hb39) rfl) ?_
 refine U.done ?_
 exact St.wa [some 0, some 1, some 4] (hJ37 _ hm)
 refine C.exit (C.ex (C.ex (C.bex ?_)))
 exact St.wa (idR 3) (hJ21 _ hm)
 refine U.start ?_
 refine U.ps 2 T rfl ?_
 refine U.k (T_taquinref21_there st robot _ hm) en61 (fun x5 hm => ?_)
 refine U.ps 2 T rfl ?_
 refine hm.cs (fun hb6 hm => ?_) (fun hb6 hm => ?_)
 refine U.pg 2 4 false 22 (ntF hb6) T rfl rfl rfl rfl ?_
 refine U.k (T_taquinref07_Has gone robot _ hm) en23 (fun x7 hm => ?_) (hw := .take 4 false 22 _ (ntF hb6) rfl rfl rfl)
 refine U.r rfl (.none rfl) rfl rfl (by exact Rd.pk' rfl rfl (ntF hb6) rfl) ?_
 refine U.done ?_
 exact St.wa (idR 2) (hJ4 _ hm)
 refine U.sks 3 4 false 22 (ntT hb6) rfl rfl rfl ?_
 refine U.r rfl (.none rfl) rfl rfl (by exact Rd.pk rfl rfl (ntT hb6) rfl) ?_
 refine U.done ?_
 exact St.wa (idR 2) (hJ4 _ hm)
theorem T_taquinref21_alive (st : ApiState) (post : Int → Prop) (hm : V_taquinref21_alive st post) :
    Tr Tryz.prog 59 [.agg (eApiState st)] [] 0 (fun A H' k => ∃ y, post y ∧ A = (.i y) ∧ H' = [] ∧ k = 0) := by
 refine Tr.intro (n := 22) Tryz.func59 rfl Tryz.ntmps59 rfl (fun w0 ok F β hβ => ?_)
 unfold V_taquinref21_alive at hm
 refine C.seq (U.start ?_)
 refine U.bx ?_
 refine U.pd 1 T (C.nx (C.seq (U.start ?_)))
 refine U.pd 1 T (C.nx (C.seq (C.seq (U.start ?_))))
 refine U.pd 1 T (C.nx ?_)
 refine C.jn (fun (x7 : Int) => [(3, .i x7)]) (fun (x7 : Int) => []) 0 hm (fun x7 hm => ?_) (fun J8 hm hJ8 => ?_)
 refine C.nx (C.seq (U.start ?_))
 refine U.pd 2 T (C.nx (C.ret ?_))
 exact C.f1 T hβ ⟨x7, hm, rfl, rfl, rfl⟩
 refine C.block ?_
 refine St.wk (C.loop (fun (s9 : Int × Int) => [(1, .p 0 0), (3, .i s9.1), (4, .i s9.2)]) (fun (s9 : Int × Int) => [(0, .box (eApiState st))]) hm (fun s9 Y10 hm => ?_)) (Wk.a [some 0])
 refine C.seq (C.seq (U.start ?_))
 refine U.pd 5 T (C.nx ?_)
 refine C.ite rfl hm (fun hb13 hm => ?_) (fun hb13 hm => ?_)
 refine C.skip (C.nx (C.seq (C.block (C.seq (U.start ?_)))))
 refine U.ps 3 T rfl ?_
 obtain ⟨x16, hx16, hm⟩ := hm
 refine U.r rfl (.none rfl) rfl rfl (by exact Rd.ix T rfl rfl rfl rfl rfl rfl hx16) ?_
 refine U.pd 3 T (C.nx ?_)
 refine C.jn (fun (x17 : Int) => [(1, .p 0 0), (3, .i x17), (4, .i s9.2)]) (fun (x17 : Int) => [(0, .box (eApiState st))]) 1 hm (fun x17 hm => ?_) (fun J18 hm hJ18 => ?_)
 refine C.bnx (C.nx (U.start ?_))
 refine U.pd 3 T (C.nx ?_)
 exact St.wk (C.next hm) (Wk.a [some 0])
 refine C.ite rfl hm (fun hb19 hm => ?_) (fun hb19 hm => ?_)
 refine U.start ?_
 refine U.pd 3 T ?_
 exact St.wa [some 0] (hJ18 _ hm)
 refine C.skip ?_
 exact St.wa [some 0] (hJ18 _ hm)
 refine C.exit (C.ex (C.ex (C.bex ?_)))
 exact St.wn (hJ8 _ hm)
theorem T_taquinref21_Safe (s_1 : ApiSite) (st : ApiState) (homes : List Int) (post : (List Int × Bool) → Prop) (hm : V_taquinref21_Safe s_1 st homes post) :
    Tr Tryz.prog 16 [.agg (eApiSite s_1), .agg (eApiState st), .sl 1 eI homes] [] 0 (fun A H' k => ∃ y, post y ∧ A = (.tup [.o 0, .b y.2]) ∧ H' = [(0, .val (.os 1 eI y.1))] ∧ k = 1) := by
 refine Tr.intro (n := 41) Tryz.func16 rfl Tryz.ntmps16 rfl (fun w0 ok F β hβ => ?_)
 unfold V_taquinref21_Safe at hm
 refine C.seq (U.start ?_)
 refine U.bx ?_
 refine U.bx ?_
 refine U.pd 2 T (C.nx (C.seq (U.start ?_)))
 refine U.pd 1 T (C.nx (C.seq (C.seq (U.start ?_))))
 refine U.pd 1 T (C.nx ?_)
 refine C.jn (fun (x7 : List Int) => [(4, .p 0 0), (8, .o 1)]) (fun (x7 : List Int) => [(0, .box (eApiState st)), (1, .val (.os 1 eI x7))]) 2 hm (fun x7 hm => ?_) (fun J8 hm hJ8 => ?_)
 refine C.nx (C.seq (U.start ?_))
 refine U.ps 4 T rfl ?_
 refine U.k (T_taquinref21_alive st _ hm) en59 (fun x43 hm => ?_)
 refine U.pd 3 T (C.nx (C.ret ?_))
 exact C.fg [some 1] T hβ ⟨(x7, ((x7.length : Int) == x43)), hm, rfl, rfl, rfl⟩
 refine C.block ?_
 refine St.wk (C.loop (fun (s9 : List Int × Bool) => [(2, .sl 1 eI homes), (3, .p 0 0), (4, .p 1 0), (8, .o 2), (9, .b s9.2)]) (fun (s9 : List Int × Bool) => [(0, .box (eApiSite s_1)), (1, .box (eApiState st)), (2, .val (.os 1 eI s9.1))]) hm (fun s9 Y10 hm => ?_)) (Wk.mk' [some 0, some 1, none] rfl rfl ⟨⟨_, rfl, (.eq rfl)⟩, ⟨_, rfl, (.eq rfl)⟩, ⟨_, rfl, (.eq rfl)⟩, ⟨_, rfl, (.nilO _ _ ⟨rfl, rfl⟩ rfl)⟩, ChkG.eqs rfl⟩ ⟨bX, bX, ⟨_, rfl, .nil _ _⟩, trivial⟩ rfl)
 refine C.seq (C.seq (U.start ?_))
 refine U.pd 1 T (C.nx ?_)
 refine C.ite rfl hm (fun hb13 hm => ?_) (fun hb13 hm => ?_)
 refine C.skip (C.nx ?_)
 refine C.jn (fun (x14 : List Int × Bool) => [(2, .sl 1 eI homes), (3, .p 0 0), (4, .p 1 0), (8, .o 2), (9, .b x14.2)]) (fun (x14 : List Int × Bool) => [(0, .box (eApiSite s_1)), (1, .box (eApiState st)), (2, .val (.os 1 eI x14.1))]) 3 hm (fun x14 hm => ?_) (fun J15 hm hJ15 => ?_)
 refine C.nx ?_
 exact St.wk (C.next hm) (Wk.a (idR 3))
 refine C.block (C.seq (U.start ?_))
 refine U.pd 1 T (C.nx (C.seq (U.start ?_)))
 refine U.pd 1 T (C.nx ?_)
 refine C.jn (fun (x20 : List Int × Bool) => [(2, .sl 1 eI homes), (3, .p 0 0), (4, .p 1 0), (8, .o 2), (9, .b x20.2)]) (fun (x20 : List Int × Bool) => [(0, .box (eApiSite s_1)), (1, .box (eApiState st)), (2, .val (.os 1 eI x20.1))]) 3 hm (fun x20 hm => ?_) (fun J21 hm hJ21 => ?_)
 refine C.bnx ?_
 exact St.wa (idR 3) (hJ15 _ hm)
 refine C.block ?_
 refine St.wk (C.loop (fun (s22 : List Int × Bool × Int) => [(2, .sl 1 eI homes), (3, .p 0 0), (4, .p 1 0), (8, .o 2), (9, .b s22.2.1), (10, .i s22.2.2)]) (fun (s22 : List Int × Bool × Int) => [(0, .box (eApiSite s_1)), (1, .box (eApiState st)), (2, .val (.os 1 eI s22.1))]) hm (fun s22 Y23 hm => ?_)) (Wk.a (idR 3))
 refine C.seq (C.seq ?_)
 refine C.jn (fun (x24 : Bool) => [(2, .sl 1 eI homes), (3, .p 0 0), (4, .p 1 0), (8, .o 2), (9, .b s22.2.1), (10, .i s22.2.2), (20, .b x24)]) (fun (x24 : Bool) => [(0, .box (eApiSite s_1)), (1, .box (eApiState st)), (2, .val (.os 1 eI s22.1))]) 3 hm (fun x24 hm => ?_) (fun J25 hm hJ25 => ?_)
 refine C.nx ?_
 refine C.ite rfl hm (fun hb27 hm => ?_) (fun hb27 hm => ?_)
 refine C.skip (C.nx (C.seq (C.block (C.seq (U.start ?_)))))
 refine U.ps 5 T rfl ?_
 refine U.k (T_taquinref21_Way s_1 st homes s22.1 s22.2.2 _ hm) en21 (fun x30 hm => ?_)
 refine U.pd 2 T (C.nx ?_)
 refine C.jn (fun (x31 : List Int × Bool) => [(2, .sl 1 eI homes), (3, .p 0 0), (4, .p 1 0), (8, .o 2), (9, .b x31.2), (10, .i s22.2.2)]) (fun (x31 : List Int × Bool) => [(0, .box (eApiSite s_1)), (1, .box (eApiState st)), (2, .val (.os 1 eI x31.1))]) 3 hm (fun x31 hm => ?_) (fun J32 hm hJ32 => ?_)
 refine C.bnx (C.nx (U.start ?_))
 refine U.pd 3 T (C.nx ?_)
 exact St.wk (C.next hm) (Wk.a (idR 3))
 refine C.ite rfl hm (fun hb33 hm => ?_) (fun hb33 hm => ?_)
 refine C.seq (U.start ?_)
 refine U.ps 2 T rfl ?_
 refine U.e1 rfl (.none rfl) (by exact Eff1.bs T (enc := eI) (xs := ([s22.2.2] : List Int)) rfl rfl rfl rfl rfl rfl rfl rfl rfl rfl (fun _ _ => rfl) rfl rfl) ?_
 obtain ⟨hx36, hm⟩ := hm
 refine U.e1 rfl (.none rfl) (by exact Eff1.ap T rfl rfl rfl rfl rfl rfl (.inr ⟨_, rfl, rfl⟩) rfl rfl rfl (fun _ => rfl) rfl hx36) ?_
 refine U.pd 1 T (C.nx (U.start ?_))
 refine U.pd 1 T ?_
 exact St.wa [some 0, some 1, some 5] (hJ32 _ hm)
 refine C.skip ?_
 exact St.wa (idR 3) (hJ32 _ hm)
 refine C.exit (C.ex (C.ex (C.bex ?_)))
 exact St.wa (idR 3) (hJ21 _ hm)
 refine U.start ?_
 refine U.ps 6 T rfl ?_
 refine hm.cs (fun hb26 hm => ?_) (fun hb26 hm => ?_)
 refine U.pg 2 5 true 17 hb26 T rfl rfl rfl rfl ?_
 refine U.pk hb26 ?_
 refine U.done ?_
 exact St.wa (idR 3) (hJ25 _ hm)
 refine U.sks 2 5 true 17 hb26 rfl rfl rfl ?_
 refine U.pk' hb26 ?_
 refine U.done ?_
 exact St.wa (idR 3) (hJ25 _ hm)
 refine C.exit (C.ex (C.ex (C.bex ?_)))
 exact St.wa (sqR 1 2) (hJ8 _ hm)
theorem T_taquinref21_Check (s_1 : ApiSite) (st : ApiState) (homes : List Int) (order : List Int) (post : (Int × Int) → Prop) (hm : V_taquinref21_Check s_1 st homes order post) :
    Tr Tryz.prog 18 [.agg (eApiSite s_1), .agg (eApiState st), .sl 1 eI homes, .sl 1 eI order] [] 0 (fun A H' k => ∃ y, post y ∧ A = (.tup [.i y.1, .i y.2]) ∧ H' = [] ∧ k = 0) := by
 refine Tr.intro (n := 63) Tryz.func18 rfl Tryz.ntmps18 rfl (fun w0 ok F β hβ => ?_)
 unfold V_taquinref21_Check at hm
 refine C.seq (U.start ?_)
 refine U.bx ?_
 refine U.bx ?_
 refine U.pd 2 T (C.nx (C.seq (C.seq (U.start ?_))))
 refine U.pd 1 T (C.nx ?_)
 refine C.jn (fun (x5 : Unit) => [(2, .sl 1 eI homes), (3, .sl 1 eI order), (4, .p 0 0), (5, .p 1 0)]) (fun (x5 : Unit) => [(0, .box (eApiSite s_1)), (1, .box (eApiState st))]) 2 hm (fun x5 hm => ?_) (fun J6 hm hJ6 => ?_)
 refine C.nx (C.seq (C.seq (U.start ?_)))
 refine U.pd 1 T (C.nx ?_)
 refine C.jn (fun (x26 : Unit) => [(3, .sl 1 eI order), (5, .p 0 0)]) (fun (x26 : Unit) => [(0, .box (eApiState st))]) 1 hm (fun x26 hm => ?_) (fun J27 hm hJ27 => ?_)
 refine C.nx (C.seq (C.seq (U.start ?_)))
 refine U.ps 3 T rfl ?_
 refine U.k (T_taquinref21_alive st _ hm) en59 (fun x45 hm => ?_)
 refine U.pd 1 T (C.nx ?_)
 refine C.ite rfl hm (fun hb46 hm => ?_) (fun hb46 hm => ?_)
 refine C.seq (U.start ?_)
 refine U.pd 4 T (C.nx (C.ret (C.rt ?_)))
 exact C.f9 T hβ ⟨((order.length : Int), 19), hm, rfl, rfl, rfl⟩
 refine C.skip (C.nx (C.seq (U.start ?_)))
 refine U.pd 2 T (C.nx (C.ret ?_))
 exact C.f9 T hβ ⟨((-1), 0), hm, rfl, rfl, rfl⟩
 refine C.block ?_
 refine St.wk (C.loop (fun (s28 : Int) => [(2, .sl 1 eI homes), (3, .sl 1 eI order), (4, .p 0 0), (5, .p 1 0), (11, .i s28)]) (fun (s28 : Int) => [(0, .box (eApiSite s_1)), (1, .box (eApiState st))]) hm (fun s28 Y29 hm => ?_)) (Wk.a (idR 2))
 refine C.seq (C.seq (U.start ?_))
 refine U.pd 4 T (C.nx ?_)
 refine C.ite rfl hm (fun hb32 hm => ?_) (fun hb32 hm => ?_)
 refine C.skip (C.nx (C.seq (C.block (C.seq ?_))))
 refine D.beg 9999 [0, 1] [] mix rfl rfl (by kernel_rfl) (by repeat (first | exact NoPanicQ.body | exact NoPanicQ.rnd | refine NoPanicQ.th ?_ | refine NoPanicQ.blk ?_ | refine NoPanicQ.ng ?_)) (fun hQ hS ws M' => ?_)
 refine D.ps 5 [(0, []), (1, []), (2, []), (3, []), (4, [])] rfl hQ hS T rfl rfl (by kernel_rfl) ?_
 obtain ⟨hx35, hm⟩ := hm
 refine D.q 5 [] hQ hS rfl (.none rfl) rfl rfl (by exact Rd.so T rfl rfl rfl rfl rfl (.none _) (.some _ rfl) hx35) rfl (by kernel_rfl) ?_
 refine D.ps 2 [(6, []), (7, [])] rfl hQ hS T rfl rfl (by kernel_rfl) ?_
 obtain ⟨x36, hx36, hm⟩ := hm
 refine D.q 8 [] hQ hS rfl (.none rfl) rfl rfl (by exact Rd.ix T rfl rfl rfl rfl rfl rfl hx36) rfl (by kernel_rfl) ?_
 refine D.ps 1 [(9, [])] rfl hQ hS T rfl rfl (by kernel_rfl) ?_
 refine D.k 10 (T_taquinref21_Way s_1 st homes (sub order 0 s28) x36 _ hm) en21 (fun x37 hm => ?_)
 refine D.ps 2 [(11, []), (12, [])] rfl hQ hS T rfl rfl (by kernel_rfl) ?_
 refine D.done (by kernel_rfl) ?_
 refine C.nx ?_
 refine C.ite rfl hm (fun hb38 hm => ?_) (fun hb38 hm => ?_)
 refine C.seq (U.start ?_)
 refine U.pd 3 T (C.nx (C.ret (C.brt (C.rt (C.rt (C.brt (C.rt ?_)))))))
 exact C.f9 T hβ ⟨(s28, 14), hm, rfl, rfl, rfl⟩
 refine C.skip (C.bnx (C.nx (U.start ?_)))
 refine U.pd 3 T (C.nx ?_)
 exact St.wk (C.next hm) (Wk.a (idR 2))
 refine C.exit (C.ex (C.ex (C.bex ?_)))
 exact St.wa [some 1] (hJ27 _ hm)
 refine C.block ?_
 refine St.wk (C.loop (fun (s7 : Int) => [(2, .sl 1 eI homes), (3, .sl 1 eI order), (4, .p 0 0), (5, .p 1 0), (10, .i s7)]) (fun (s7 : Int) => [(0, .box (eApiSite s_1)), (1, .box (eApiState st))]) hm (fun s7 Y8 hm => ?_)) (Wk.a (idR 2))
 refine C.seq (C.seq (U.start ?_))
 refine U.pd 4 T (C.nx ?_)
 refine C.ite rfl hm (fun hb11 hm => ?_) (fun hb11 hm => ?_)
 refine C.skip (C.nx (C.seq (C.block (C.seq ?_))))
 refine C.jn (fun (x12 : Bool) => [(2, .sl 1 eI homes), (3, .sl 1 eI order), (4, .p 0 0), (5, .p 1 0), (10, .i s7), (34, .b x12)]) (fun (x12 : Bool) => [(0, .box (eApiSite s_1)), (1, .box (eApiState st))]) 2 hm (fun x12 hm => ?_) (fun J13 hm hJ13 => ?_)
 refine C.nx ?_
 refine C.ite rfl hm (fun hb19 hm => ?_) (fun hb19 hm => ?_)
 refine C.seq (U.start ?_)
 refine U.pd 3 T (C.nx (C.ret (C.brt (C.rt (C.rt (C.brt (C.rt ?_)))))))
 exact C.f9 T hβ ⟨(s7, 1), hm, rfl, rfl, rfl⟩
 refine C.skip (C.bnx (C.nx (U.start ?_)))
 refine U.pd 3 T (C.nx ?_)
 exact St.wk (C.next hm) (Wk.a (idR 2))
 refine D.beg 9999 [1] [] mix rfl rfl (by kernel_rfl) (by repeat (first | exact NoPanicQ.body | exact NoPanicQ.rnd | refine NoPanicQ.th ?_ | refine NoPanicQ.blk ?_ | refine NoPanicQ.ng ?_)) (fun hQ hS ws M' => ?_)
 refine D.ps 3 [(0, []), (1, []), (2, [])] rfl hQ hS T rfl rfl (by kernel_rfl) ?_
 obtain ⟨x14, hx14, hm⟩ := hm
 refine D.q 3 [] hQ hS rfl (.none rfl) rfl rfl (by exact Rd.ix T rfl rfl rfl rfl rfl rfl hx14) rfl (by kernel_rfl) ?_
 refine D.ps 1 [(4, [])] rfl hQ hS T rfl rfl (by kernel_rfl) ?_
 refine D.k 5 (T_taquinref21_there st x14 _ hm) en61 (fun x15 hm => ?_)
 refine D.ps 2 [(6, []), (7, [])] rfl hQ hS T rfl rfl (by kernel_rfl) ?_
 refine hm.cs (fun hb16 hm => ?_) (fun hb16 hm => ?_)
 refine D.q 8 [] hQ hS rfl (.take 7 false 25 _ (ntF hb16) rfl rfl rfl) rfl rfl (by exact Rd.p T rfl) rfl (by kernel_rfl) ?_
 refine D.q 9 [] hQ hS rfl (.take 7 false 25 _ (ntF hb16) rfl rfl rfl) rfl rfl (by exact Rd.p T rfl) rfl (by kernel_rfl) ?_
 obtain ⟨hx17, hm⟩ := hm
 refine D.q 10 [] hQ hS rfl (.take 7 false 25 _ (ntF hb16) rfl rfl rfl) rfl rfl (by exact Rd.so T rfl rfl rfl rfl rfl (.none _) (.some _ rfl) hx17) rfl (by kernel_rfl) ?_
 refine D.q 11 [] hQ hS rfl (.take 7 false 25 _ (ntF hb16) rfl rfl rfl) rfl rfl (by exact Rd.p T rfl) rfl (by kernel_rfl) ?_
 refine D.q 12 [] hQ hS rfl (.take 7 false 25 _ (ntF hb16) rfl rfl rfl) rfl rfl (by exact Rd.p T rfl) rfl (by kernel_rfl) ?_
 refine D.q 13 [] hQ hS rfl (.take 7 false 25 _ (ntF hb16) rfl rfl rfl) rfl rfl (by exact Rd.ix T rfl rfl rfl rfl rfl rfl hx14) rfl (by kernel_rfl) ?_
 refine D.q 14 [] hQ hS rfl (.take 7 false 25 _ (ntF hb16) rfl rfl rfl) rfl rfl (by exact Rd.l T rfl rfl rfl) rfl (by kernel_rfl) ?_
 refine D.k 15 (T_taquinref07_Has (sub order 0 s7) x14 _ hm) en23 (fun x18 hm => ?_) (hw := .take 7 false 25 _ (ntF hb16) rfl rfl rfl)
 refine D.q 16 [] hQ hS rfl (.none rfl) rfl rfl (by exact Rd.pk' rfl rfl (ntF hb16) rfl) rfl (by kernel_rfl) ?_
 refine D.done (by kernel_rfl) ?_
 exact St.wa (idR 2) (hJ13 _ hm)
 refine D.sx 8 [] hQ hS (.skip 7 false 25 _ (ntT hb16) rfl rfl rfl) ?_
 refine D.sx 9 [] hQ hS (.skip 7 false 25 _ (ntT hb16) rfl rfl rfl) ?_
 refine D.sx 10 [] hQ hS (.skip 7 false 25 _ (ntT hb16) rfl rfl rfl) ?_
 refine D.sx 11 [] hQ hS (.skip 7 false 25 _ (ntT hb16) rfl rfl rfl) ?_
 refine D.sx 12 [] hQ hS (.skip 7 false 25 _ (ntT hb16) rfl rfl rfl) ?_
 refine D.sx 13 [] hQ hS (.skip 7 false 25 _ (ntT hb16) rfl rfl rfl) ?_
 refine D.sx 14 [] hQ hS (.skip 7 false 25 _ (ntT hb16) rfl rfl rfl) ?_
 refine D.sx 15 [] hQ hS (.skip 7 false 25 _ (ntT hb16) rfl rfl rfl) ?_
 refine D.q 16 [] hQ hS rfl (.none rfl) rfl rfl (by exact Rd.pk rfl rfl (ntT hb16) rfl) rfl (by kernel_rfl) ?_
 refine D.done (by kernel_rfl) ?_
 exact St.wa (idR 2) (hJ13 _ hm)
 refine C.exit (C.ex (C.ex (C.bex ?_)))
 exact St.wa (idR 2) (hJ6 _ hm)
theorem T_taquinlaw21_BankTells (s_1 : ApiSite) (st : ApiState) (homes : List Int) (l : List Int) (robot : Int) (post : Bool → Prop) (hm : V_taquinlaw21_BankTells s_1 st homes l robot post) :
    Tr Tryz.prog 3 [.agg (eApiSite s_1), .agg (eApiState st), .sl 1 eI homes, .sl 1 eI l, .i robot] [] 0 (fun A H' k => ∃ y, post y ∧ A = (.b y) ∧ H' = [] ∧ k = 0) := by
 refine Tr.intro (n := 138) Tryz.func3 rfl Tryz.ntmps3 rfl (fun w0 ok F β hβ => ?_)
 unfold V_taquinlaw21_BankTells at hm
 refine C.seq (U.start ?_)
 refine U.bx ?_
 refine U.bx ?_
 refine U.pd 1 T (C.nx (C.seq (U.start ?_)))
 refine U.k (T_taquinlaw21_small _ hm) en8 (fun x5 hm => ?_)
 refine U.pd 1 T (C.nx (C.seq (C.seq ?_)))
 refine C.jn (fun (x6 : Bool) => [(2, .sl 1 eI homes), (3, .sl 1 eI l), (4, .i robot), (5, .p 0 0), (6, .p 1 0), (11, .b x5), (55, .b x6)]) (fun (x6 : Bool) => [(0, .box (eApiSite s_1)), (1, .box (eApiState st))]) 2 hm (fun x6 hm => ?_) (fun J7 hm hJ7 => ?_)
 refine C.nx ?_
 refine C.ite rfl hm (fun hb18 hm => ?_) (fun hb18 hm => ?_)
 refine C.seq (U.start ?_)
 refine U.pd 2 T (C.nx (C.ret (C.rt ?_)))
 exact C.f1 T hβ ⟨x5, hm, rfl, rfl, rfl⟩
 refine C.skip (C.nx (C.seq (C.seq ?_)))
 refine D.beg 9999 [0, 1] [] mix rfl rfl (by kernel_rfl) (by repeat (first | exact NoPanicQ.body | exact NoPanicQ.rnd | refine NoPanicQ.th ?_ | refine NoPanicQ.blk ?_ | refine NoPanicQ.ng ?_)) (fun hQ hS ws M' => ?_)
 refine D.ps 6 [(0, []), (1, []), (2, []), (4, []), (5, []), (6, [])] rfl hQ hS T rfl rfl (by kernel_rfl) ?_
 refine D.k 3 (T_bank_Right s_1 st homes _ hm) en13 (fun x23 hm => ?_)
 refine D.k 7 (T_taquinref21_Right s_1 st homes _ hm) en14 (fun x24 hm => ?_)
 refine D.ps 1 [(8, [])] rfl hQ hS T rfl rfl (by kernel_rfl) ?_
 refine D.done (by kernel_rfl) ?_
 refine C.nx ?_
 refine C.ite rfl hm (fun hb25 hm => ?_) (fun hb25 hm => ?_)
 refine C.seq (U.start ?_)
 refine U.pd 1 T (C.nx (C.ret (C.rt ?_)))
 exact C.f1 T hβ ⟨false, hm, rfl, rfl, rfl⟩
 refine C.skip (C.nx (C.seq (C.seq (U.start ?_))))
 refine U.ps 3 T rfl ?_
 refine U.k (T_bank_Right s_1 st homes _ hm) en13 (fun x30 hm => ?_)
 refine U.pd 1 T (C.nx ?_)
 refine C.ite rfl hm (fun hb31 hm => ?_) (fun hb31 hm => ?_)
 refine C.seq (U.start ?_)
 refine U.pd 2 T (C.nx (C.ret (C.rt ?_)))
 exact C.f1 T hβ ⟨x5, hm, rfl, rfl, rfl⟩
 refine C.skip (C.nx (C.seq (U.start ?_)))
 refine U.ps 3 T rfl ?_
 refine U.k (T_bank_Safe s_1 st homes _ hm) en15 (fun x36 hm => ?_)
 refine U.pd 5 T (C.nx (C.seq (U.start ?_)))
 refine U.ps 3 T rfl ?_
 refine U.k (T_taquinref21_Safe s_1 st homes _ hm) en16 (fun x39 hm => ?_)
 refine U.pd 5 T (C.nx (C.seq (U.start ?_)))
 refine U.ps 4 T rfl ?_
 refine U.k (T_bank_Check s_1 st homes l _ hm) en17 (fun x42 hm => ?_)
 refine U.pd 5 T (C.nx (C.seq (U.start ?_)))
 refine U.ps 4 T rfl ?_
 refine U.k (T_taquinref21_Check s_1 st homes l _ hm) en18 (fun x45 hm => ?_)
 refine U.pd 5 T (C.nx (C.seq ?_))
 refine C.jn (fun (x46 : Bool) => [(10, .b x46)]) (fun (x46 : Bool) => []) 0 hm (fun x46 hm => ?_) (fun J47 hm hJ47 => ?_)
 refine C.nx (C.ret ?_)
 exact C.f1 T hβ ⟨x46, hm, rfl, rfl, rfl⟩
 refine D.beg 9999 [0, 1] [] mix rfl rfl (by kernel_rfl) (by repeat (first | exact NoPanicQ.body | exact NoPanicQ.rnd | refine NoPanicQ.th ?_ | refine NoPanicQ.blk ?_ | refine NoPanicQ.ng ?_)) (fun hQ hS ws M' => ?_)
 refine D.ps 2 [(0, []), (1, [])] rfl hQ hS T rfl rfl (by kernel_rfl) ?_
 refine hm.cs (fun hb48 hm => ?_) (fun hb48 hm => ?_)
 refine D.q 2 [] hQ hS rfl (.take 1 true 103 _ hb48 rfl rfl rfl) rfl rfl (by exact Rd.p T rfl) rfl (by kernel_rfl) ?_
 refine D.q 3 [] hQ hS rfl (.take 1 true 103 _ hb48 rfl rfl rfl) rfl rfl (by exact Rd.p T rfl) rfl (by kernel_rfl) ?_
 refine D.q 4 [] hQ hS rfl (.take 1 true 103 _ hb48 rfl rfl rfl) rfl rfl (by exact Rd.p T rfl) rfl (by kernel_rfl) ?_
 refine D.q 5 [] hQ hS rfl (.none rfl) rfl rfl (by exact Rd.pk rfl rfl hb48 rfl) rfl (by kernel_rfl) ?_
 refine D.ps 1 [(6, [])] rfl hQ hS T rfl rfl (by kernel_rfl) ?_
 refine hm.cs (fun hb49 hm => ?_) (fun hb49 hm => ?_)
 refine D.q 7 [] hQ hS rfl (.take 6 true 108 _ hb49 rfl rfl rfl) rfl rfl (by exact Rd.p T rfl) rfl (by kernel_rfl) ?_
 refine D.q 8 [] hQ hS rfl (.take 6 true 108 _ hb49 rfl rfl rfl) rfl rfl (by exact Rd.p T rfl) rfl (by kernel_rfl) ?_
 refine D.k 9 (T_taquinref07_Same x36.1 x39.1 _ hm) en19 (fun x50 hm => ?_) (hw := .take 6 true 108 _ hb49 rfl rfl rfl)
 refine D.q 10 [] hQ hS rfl (.none rfl) rfl rfl (by exact Rd.pk rfl rfl hb49 rfl) rfl (by kernel_rfl) ?_
 refine D.ps 1 [(11, [])] rfl hQ hS T rfl rfl (by kernel_rfl) ?_
 refine hm.cs (fun hb51 hm => ?_) (fun hb51 hm => ?_)
 refine D.q 12 [] hQ hS rfl (.take 11 true 113 _ hb51 rfl rfl rfl) rfl rfl (by exact Rd.p T rfl) rfl (by kernel_rfl) ?_
 refine D.q 13 [] hQ hS rfl (.take 11 true 113 _ hb51 rfl rfl rfl) rfl rfl (by exact Rd.p T rfl) rfl (by kernel_rfl) ?_
 refine D.q 14 [] hQ hS rfl (.take 11 true 113 _ hb51 rfl rfl rfl) rfl rfl (by exact Rd.p T rfl) rfl (by kernel_rfl) ?_
 refine D.q 15 [] hQ hS rfl (.none rfl) rfl rfl (by exact Rd.pk rfl rfl hb51 rfl) rfl (by kernel_rfl) ?_
 refine D.ps 1 [(16, [])] rfl hQ hS T rfl rfl (by kernel_rfl) ?_
 refine hm.cs (fun hb52 hm => ?_) (fun hb52 hm => ?_)
 refine D.q 17 [] hQ hS rfl (.take 16 true 118 _ hb52 rfl rfl rfl) rfl rfl (by exact Rd.p T rfl) rfl (by kernel_rfl) ?_
 refine D.q 18 [] hQ hS rfl (.take 16 true 118 _ hb52 rfl rfl rfl) rfl rfl (by exact Rd.p T rfl) rfl (by kernel_rfl) ?_
 refine D.q 19 [] hQ hS rfl (.take 16 true 118 _ hb52 rfl rfl rfl) rfl rfl (by exact Rd.p T rfl) rfl (by kernel_rfl) ?_
 refine D.q 20 [] hQ hS rfl (.none rfl) rfl rfl (by exact Rd.pk rfl rfl hb52 rfl) rfl (by kernel_rfl) ?_
 refine D.ps 1 [(21, [])] rfl hQ hS T rfl rfl (by kernel_rfl) ?_
 refine hm.cs (fun hb53 hm => ?_) (fun hb53 hm => ?_)
 refine D.q 22 [] hQ hS rfl (.take 21 true 123 _ hb53 rfl rfl rfl) rfl rfl (by exact Rd.l T rfl rfl rfl) rfl (by kernel_rfl) ?_
 refine D.q 23 [] hQ hS rfl (.take 21 true 123 _ hb53 rfl rfl rfl) rfl rfl (by exact Rd.l T rfl rfl rfl) rfl (by kernel_rfl) ?_
 refine D.q 24 [] hQ hS rfl (.take 21 true 123 _ hb53 rfl rfl rfl) rfl rfl (by exact Rd.p T rfl) rfl (by kernel_rfl) ?_
 refine D.q 25 [] hQ hS rfl (.take 21 true 123 _ hb53 rfl rfl rfl) rfl rfl (by exact Rd.p T rfl) rfl (by kernel_rfl) ?_
 refine D.q 26 [] hQ hS rfl (.take 21 true 123 _ hb53 rfl rfl rfl) rfl rfl (by exact Rd.p T rfl) rfl (by kernel_rfl) ?_
 refine D.q 28 [] hQ hS rfl (.take 21 true 123 _ hb53 rfl rfl rfl) rfl rfl (by exact Rd.l T rfl rfl rfl) rfl (by kernel_rfl) ?_
 refine D.q 29 [] hQ hS rfl (.take 21 true 123 _ hb53 rfl rfl rfl) rfl rfl (by exact Rd.l T rfl rfl rfl) rfl (by kernel_rfl) ?_
 refine D.q 30 [] hQ hS rfl (.take 21 true 123 _ hb53 rfl rfl rfl) rfl rfl (by exact Rd.p T rfl) rfl (by kernel_rfl) ?_
 refine D.q 31 [] hQ hS rfl (.take 21 true 123 _ hb53 rfl rfl rfl) rfl rfl (by exact Rd.p T rfl) rfl (by kernel_rfl) ?_
 refine D.q 32 [] hQ hS rfl (.take 21 true 123 _ hb53 rfl rfl rfl) rfl rfl (by exact Rd.p T rfl) rfl (by kernel_rfl) ?_
 refine D.k 27 (T_bank_Way s_1 st homes l robot _ hm) en20 (fun x54 hm => ?_) (hw := .take 21 true 123 _ hb53 rfl rfl rfl)
 refine D.k 33 (T_taquinref21_Way s_1 st homes l robot _ hm) en21 (fun x55 hm => ?_) (hw := .take 21 true 123 _ hb53 rfl rfl rfl)
 refine D.k 34 (T_taquinref07_Same x54 x55 _ hm) en19 (fun x56 hm => ?_) (hw := .take 21 true 123 _ hb53 rfl rfl rfl)
 refine D.q 35 [] hQ hS rfl (.none rfl) rfl rfl (by exact Rd.pk rfl rfl hb53 rfl) rfl (by kernel_rfl) ?_
 refine D.ps 1 [(36, [])] rfl hQ hS T rfl rfl (by kernel_rfl) ?_
 refine D.done (by kernel_rfl) ?_
 exact St.wn (hJ47 _ hm)
 refine D.sx 22 [] hQ hS (.skip 21 true 123 _ hb53 rfl rfl rfl) ?_
 refine D.sx 23 [] hQ hS (.skip 21 true 123 _ hb53 rfl rfl rfl) ?_
 refine D.sx 24 [] hQ hS (.skip 21 true 123 _ hb53 rfl rfl rfl) ?_
 refine D.sx 25 [] hQ hS (.skip 21 true 123 _ hb53 rfl rfl rfl) ?_
 refine D.sx 26 [] hQ hS (.skip 21 true 123 _ hb53 rfl rfl rfl) ?_
 refine D.sx 27 [] hQ hS (.skip 21 true 123 _ hb53 rfl rfl rfl) ?_
 refine D.sx 28 [] hQ hS (.skip 21 true 123 _ hb53 rfl rfl rfl) ?_
 refine D.sx 29 [] hQ hS (.skip 21 true 123 _ hb53 rfl rfl rfl) ?_
 refine D.sx 30 [] hQ hS (.skip 21 true 123 _ hb53 rfl rfl rfl) ?_
 refine D.sx 31 [] hQ hS (.skip 21 true 123 _ hb53 rfl rfl rfl) ?_
 refine D.sx 32 [] hQ hS (.skip 21 true 123 _ hb53 rfl rfl rfl) ?_
 refine D.sx 33 [] hQ hS (.skip 21 true 123 _ hb53 rfl rfl rfl) ?_
 refine D.sx 34 [] hQ hS (.skip 21 true 123 _ hb53 rfl rfl rfl) ?_
 refine D.q 35 [] hQ hS rfl (.none rfl) rfl rfl (by exact Rd.pk' rfl rfl hb53 rfl) rfl (by kernel_rfl) ?_
 refine D.ps 1 [(36, [])] rfl hQ hS T rfl rfl (by kernel_rfl) ?_
 refine D.done (by kernel_rfl) ?_
 exact St.wn (hJ47 _ hm)
 refine D.sx 17 [] hQ hS (.skip 16 true 118 _ hb52 rfl rfl rfl) ?_
 refine D.sx 18 [] hQ hS (.skip 16 true 118 _ hb52 rfl rfl rfl) ?_
 refine D.sx 19 [] hQ hS (.skip 16 true 118 _ hb52 rfl rfl rfl) ?_
 refine D.q 20 [] hQ hS rfl (.none rfl) rfl rfl (by exact Rd.pk' rfl rfl hb52 rfl) rfl (by kernel_rfl) ?_
 refine D.ps 1 [(21, [])] rfl hQ hS T rfl rfl (by kernel_rfl) ?_
 refine D.sx 22 [] hQ hS (.skip 21 true 123 _ rfl rfl rfl rfl) ?_
 refine D.sx 23 [] hQ hS (.skip 21 true 123 _ rfl rfl rfl rfl) ?_
 refine D.sx 24 [] hQ hS (.skip 21 true 123 _ rfl rfl rfl rfl) ?_
 refine D.sx 25 [] hQ hS (.skip 21 true 123 _ rfl rfl rfl rfl) ?_
 refine D.sx 26 [] hQ hS (.skip 21 true 123 _ rfl rfl rfl rfl) ?_
 refine D.sx 27 [] hQ hS (.skip 21 true 123 _ rfl rfl rfl rfl) ?_
 refine D.sx 28 [] hQ hS (.skip 21 true 123 _ rfl rfl rfl rfl) ?_
 refine D.sx 29 [] hQ hS (.skip 21 true 123 _ rfl rfl rfl rfl) ?_
 refine D.sx 30 [] hQ hS (.skip 21 true 123 _ rfl rfl rfl rfl) ?_
 refine D.sx 31 [] hQ hS (.skip 21 true 123 _ rfl rfl rfl rfl) ?_
 refine D.sx 32 [] hQ hS (.skip 21 true 123 _ rfl rfl rfl rfl) ?_
 refine D.sx 33 [] hQ hS (.skip 21 true 123 _ rfl rfl rfl rfl) ?_
 refine D.sx 34 [] hQ hS (.skip 21 true 123 _ rfl rfl rfl rfl) ?_
 refine D.q 35 [] hQ hS rfl (.none rfl) rfl rfl (by exact Rd.pk' rfl rfl rfl rfl) rfl (by kernel_rfl) ?_
 refine D.ps 1 [(36, [])] rfl hQ hS T rfl rfl (by kernel_rfl) ?_
 refine D.done (by kernel_rfl) ?_
 exact St.wn (hJ47 _ hm)
 refine D.sx 12 [] hQ hS (.skip 11 true 113 _ hb51 rfl rfl rfl) ?_
 refine D.sx 13 [] hQ hS (.skip 11 true 113 _ hb51 rfl rfl rfl) ?_
 refine D.sx 14 [] hQ hS (.skip 11 true 113 _ hb51 rfl rfl rfl) ?_
 refine D.q 15 [] hQ hS rfl (.none rfl) rfl rfl (by exact Rd.pk' rfl rfl hb51 rfl) rfl (by kernel_rfl) ?_
 refine D.ps 1 [(16, [])] rfl hQ hS T rfl rfl (by kernel_rfl) ?_
 refine D.sx 17 [] hQ hS (.skip 16 true 118 _ rfl rfl rfl rfl) ?_
 refine D.sx 18 [] hQ hS (.skip 16 true 118 _ rfl rfl rfl rfl) ?_
 refine D.sx 19 [] hQ hS (.skip 16 true 118 _ rfl rfl rfl rfl) ?_
 refine D.q 20 [] hQ hS rfl (.none rfl) rfl rfl (by exact Rd.pk' rfl rfl rfl rfl) rfl (by kernel_rfl) ?_
 refine D.ps 1 [(21, [])] rfl hQ hS T rfl rfl (by kernel_rfl) ?_
 refine D.sx 22 [] hQ hS (.skip 21 true 123 _ rfl rfl rfl rfl) ?_
 refine D.sx 23 [] hQ hS (.skip 21 true 123 _ rfl rfl rfl rfl) ?_
 refine D.sx 24 [] hQ hS (.skip 21 true 123 _ rfl rfl rfl rfl) ?_
 refine D.sx 25 [] hQ hS (.skip 21 true 123 _ rfl rfl rfl rfl) ?_
 refine D.sx 26 [] hQ hS (.skip 21 true 123 _ rfl rfl rfl rfl) ?_
 refine D.sx 27 [] hQ hS (.skip 21 true 123 _ rfl rfl rfl rfl) ?_
 refine D.sx 28 [] hQ hS (.skip 21 true 123 _ rfl rfl rfl rfl) ?_
 refine D.sx 29 [] hQ hS (.skip 21 true 123 _ rfl rfl rfl rfl) ?_
 refine D.sx 30 [] hQ hS (.skip 21 true 123 _ rfl rfl rfl rfl) ?_
 refine D.sx 31 [] hQ hS (.skip 21 true 123 _ rfl rfl rfl rfl) ?_
 refine D.sx 32 [] hQ hS (.skip 21 true 123 _ rfl rfl rfl rfl) ?_
 refine D.sx 33 [] hQ hS (.skip 21 true 123 _ rfl rfl rfl rfl) ?_
 refine D.sx 34 [] hQ hS (.skip 21 true 123 _ rfl rfl rfl rfl) ?_
 refine D.q 35 [] hQ hS rfl (.none rfl) rfl rfl (by exact Rd.pk' rfl rfl rfl rfl) rfl (by kernel_rfl) ?_
 refine D.ps 1 [(36, [])] rfl hQ hS T rfl rfl (by kernel_rfl) ?_
 refine D.done (by kernel_rfl) ?_
 exact St.wn (hJ47 _ hm)
 refine D.sx 7 [] hQ hS (.skip 6 true 108 _ hb49 rfl rfl rfl) ?_
 refine D.sx 8 [] hQ hS (.skip 6 true 108 _ hb49 rfl rfl rfl) ?_
 refine D.sx 9 [] hQ hS (.skip 6 true 108 _ hb49 rfl rfl rfl) ?_
 refine D.q 10 [] hQ hS rfl (.none rfl) rfl rfl (by exact Rd.pk' rfl rfl hb49 rfl) rfl (by kernel_rfl) ?_
 refine D.ps 1 [(11, [])] rfl hQ hS T rfl rfl (by kernel_rfl) ?_
 refine D.sx 12 [] hQ hS (.skip 11 true 113 _ rfl rfl rfl rfl) ?_
 refine D.sx 13 [] hQ hS (.skip 11 true 113 _ rfl rfl rfl rfl) ?_
 refine D.sx 14 [] hQ hS (.skip 11 true 113 _ rfl rfl rfl rfl) ?_
 refine D.q 15 [] hQ hS rfl (.none rfl) rfl rfl (by exact Rd.pk' rfl rfl rfl rfl) rfl (by kernel_rfl) ?_
 refine D.ps 1 [(16, [])] rfl hQ hS T rfl rfl (by kernel_rfl) ?_
 refine D.sx 17 [] hQ hS (.skip 16 true 118 _ rfl rfl rfl rfl) ?_
 refine D.sx 18 [] hQ hS (.skip 16 true 118 _ rfl rfl rfl rfl) ?_
 refine D.sx 19 [] hQ hS (.skip 16 true 118 _ rfl rfl rfl rfl) ?_
 refine D.q 20 [] hQ hS rfl (.none rfl) rfl rfl (by exact Rd.pk' rfl rfl rfl rfl) rfl (by kernel_rfl) ?_
 refine D.ps 1 [(21, [])] rfl hQ hS T rfl rfl (by kernel_rfl) ?_
 refine D.sx 22 [] hQ hS (.skip 21 true 123 _ rfl rfl rfl rfl) ?_
 refine D.sx 23 [] hQ hS (.skip 21 true 123 _ rfl rfl rfl rfl) ?_
 refine D.sx 24 [] hQ hS (.skip 21 true 123 _ rfl rfl rfl rfl) ?_
 refine D.sx 25 [] hQ hS (.skip 21 true 123 _ rfl rfl rfl rfl) ?_
 refine D.sx 26 [] hQ hS (.skip 21 true 123 _ rfl rfl rfl rfl) ?_
 refine D.sx 27 [] hQ hS (.skip 21 true 123 _ rfl rfl rfl rfl) ?_
 refine D.sx 28 [] hQ hS (.skip 21 true 123 _ rfl rfl rfl rfl) ?_
 refine D.sx 29 [] hQ hS (.skip 21 true 123 _ rfl rfl rfl rfl) ?_
 refine D.sx 30 [] hQ hS (.skip 21 true 123 _ rfl rfl rfl rfl) ?_
 refine D.sx 31 [] hQ hS (.skip 21 true 123 _ rfl rfl rfl rfl) ?_
 refine D.sx 32 [] hQ hS (.skip 21 true 123 _ rfl rfl rfl rfl) ?_
 refine D.sx 33 [] hQ hS (.skip 21 true 123 _ rfl rfl rfl rfl) ?_
 refine D.sx 34 [] hQ hS (.skip 21 true 123 _ rfl rfl rfl rfl) ?_
 refine D.q 35 [] hQ hS rfl (.none rfl) rfl rfl (by exact Rd.pk' rfl rfl rfl rfl) rfl (by kernel_rfl) ?_
 refine D.ps 1 [(36, [])] rfl hQ hS T rfl rfl (by kernel_rfl) ?_
 refine D.done (by kernel_rfl) ?_
 exact St.wn (hJ47 _ hm)
 refine D.sx 2 [] hQ hS (.skip 1 true 103 _ hb48 rfl rfl rfl) ?_
 refine D.sx 3 [] hQ hS (.skip 1 true 103 _ hb48 rfl rfl rfl) ?_
 refine D.sx 4 [] hQ hS (.skip 1 true 103 _ hb48 rfl rfl rfl) ?_
 refine D.q 5 [] hQ hS rfl (.none rfl) rfl rfl (by exact Rd.pk' rfl rfl hb48 rfl) rfl (by kernel_rfl) ?_
 refine D.ps 1 [(6, [])] rfl hQ hS T rfl rfl (by kernel_rfl) ?_
 refine D.sx 7 [] hQ hS (.skip 6 true 108 _ rfl rfl rfl rfl) ?_
 refine D.sx 8 [] hQ hS (.skip 6 true 108 _ rfl rfl rfl rfl) ?_
 refine D.sx 9 [] hQ hS (.skip 6 true 108 _ rfl rfl rfl rfl) ?_
 refine D.q 10 [] hQ hS rfl (.none rfl) rfl rfl (by exact Rd.pk' rfl rfl rfl rfl) rfl (by kernel_rfl) ?_
 refine D.ps 1 [(11, [])] rfl hQ hS T rfl rfl (by kernel_rfl) ?_
 refine D.sx 12 [] hQ hS (.skip 11 true 113 _ rfl rfl rfl rfl) ?_
 refine D.sx 13 [] hQ hS (.skip 11 true 113 _ rfl rfl rfl rfl) ?_
 refine D.sx 14 [] hQ hS (.skip 11 true 113 _ rfl rfl rfl rfl) ?_
 refine D.q 15 [] hQ hS rfl (.none rfl) rfl rfl (by exact Rd.pk' rfl rfl rfl rfl) rfl (by kernel_rfl) ?_
 refine D.ps 1 [(16, [])] rfl hQ hS T rfl rfl (by kernel_rfl) ?_
 refine D.sx 17 [] hQ hS (.skip 16 true 118 _ rfl rfl rfl rfl) ?_
 refine D.sx 18 [] hQ hS (.skip 16 true 118 _ rfl rfl rfl rfl) ?_
 refine D.sx 19 [] hQ hS (.skip 16 true 118 _ rfl rfl rfl rfl) ?_
 refine D.q 20 [] hQ hS rfl (.none rfl) rfl rfl (by exact Rd.pk' rfl rfl rfl rfl) rfl (by kernel_rfl) ?_
 refine D.ps 1 [(21, [])] rfl hQ hS T rfl rfl (by kernel_rfl) ?_
 refine D.sx 22 [] hQ hS (.skip 21 true 123 _ rfl rfl rfl rfl) ?_
 refine D.sx 23 [] hQ hS (.skip 21 true 123 _ rfl rfl rfl rfl) ?_
 refine D.sx 24 [] hQ hS (.skip 21 true 123 _ rfl rfl rfl rfl) ?_
 refine D.sx 25 [] hQ hS (.skip 21 true 123 _ rfl rfl rfl rfl) ?_
 refine D.sx 26 [] hQ hS (.skip 21 true 123 _ rfl rfl rfl rfl) ?_
 refine D.sx 27 [] hQ hS (.skip 21 true 123 _ rfl rfl rfl rfl) ?_
 refine D.sx 28 [] hQ hS (.skip 21 true 123 _ rfl rfl rfl rfl) ?_
 refine D.sx 29 [] hQ hS (.skip 21 true 123 _ rfl rfl rfl rfl) ?_
 refine D.sx 30 [] hQ hS (.skip 21 true 123 _ rfl rfl rfl rfl) ?_
 refine D.sx 31 [] hQ hS (.skip 21 true 123 _ rfl rfl rfl rfl) ?_
 refine D.sx 32 [] hQ hS (.skip 21 true 123 _ rfl rfl rfl rfl) ?_
 refine D.sx 33 [] hQ hS (.skip 21 true 123 _ rfl rfl rfl rfl) ?_
 refine D.sx 34 [] hQ hS (.skip 21 true 123 _ rfl rfl rfl rfl) ?_
 refine D.q 35 [] hQ hS rfl (.none rfl) rfl rfl (by exact Rd.pk' rfl rfl rfl rfl) rfl (by kernel_rfl) ?_
 refine D.ps 1 [(36, [])] rfl hQ hS T rfl rfl (by kernel_rfl) ?_
 refine D.done (by kernel_rfl) ?_
 exact St.wn (hJ47 _ hm)
 refine U.start ?_
 refine U.ps 1 T rfl ?_
 refine U.k (T_taquinref11_Few s_1 40 20 _ hm) en9 (fun x8 hm => ?_)
 refine U.ps 2 T rfl ?_
 refine hm.cs (fun hb9 hm => ?_) (fun hb9 hm => ?_)
 refine U.pg 1 3 false 24 (ntF hb9) T rfl rfl rfl rfl ?_
 refine U.k (T_taquinref14_Few st _ hm) en10 (fun x10 hm => ?_) (hw := .take 3 false 24 _ (ntF hb9) rfl rfl rfl)
 refine U.pg 1 3 false 24 (ntF hb9) T rfl rfl rfl rfl ?_
 refine U.r rfl (.none rfl) rfl rfl (by exact Rd.pk' rfl rfl (ntF hb9) rfl) ?_
 refine U.ps 1 T rfl ?_
 refine hm.cs (fun hb11 hm => ?_) (fun hb11 hm => ?_)
 refine U.pg 4 8 false 29 (ntF hb11) T rfl rfl rfl rfl ?_
 refine U.r rfl (.none rfl) rfl rfl (by exact Rd.pk' rfl rfl (ntF hb11) rfl) ?_
 refine U.ps 1 T rfl ?_
 refine hm.cs (fun hb12 hm => ?_) (fun hb12 hm => ?_)
 refine U.sks 3 14 false 35 hb12 rfl rfl rfl ?_
 refine U.pk hb12 ?_
 refine U.ps 1 T rfl ?_
 refine U.sks 3 19 false 40 rfl rfl rfl rfl ?_
 refine U.pk rfl ?_
 refine U.ps 1 T rfl ?_
 refine U.sks 3 24 false 45 rfl rfl rfl rfl ?_
 refine U.pk rfl ?_
 refine U.ps 1 T rfl ?_
 refine U.sks 4 29 false 50 rfl rfl rfl rfl ?_
 refine U.pk rfl ?_
 refine U.done ?_
 exact St.wa (idR 2) (hJ7 _ hm)
 refine U.pg 3 14 false 35 hb12 T rfl rfl rfl rfl ?_
 refine U.pk' hb12 ?_
 refine U.ps 1 T rfl ?_
 refine hm.cs (fun hb13 hm => ?_) (fun hb13 hm => ?_)
 refine U.sks 3 19 false 40 hb13 rfl rfl rfl ?_
 refine U.pk hb13 ?_
 refine U.ps 1 T rfl ?_
 refine U.sks 3 24 false 45 rfl rfl rfl rfl ?_
 refine U.pk rfl ?_
 refine U.ps 1 T rfl ?_
 refine U.sks 4 29 false 50 rfl rfl rfl rfl ?_
 refine U.pk rfl ?_
 refine U.done ?_
 exact St.wa (idR 2) (hJ7 _ hm)
 refine U.pg 3 19 false 40 hb13 T rfl rfl rfl rfl ?_
 refine U.pk' hb13 ?_
 refine U.ps 1 T rfl ?_
 refine hm.cs (fun hb14 hm => ?_) (fun hb14 hm => ?_)
 refine U.sks 3 24 false 45 hb14 rfl rfl rfl ?_
 refine U.pk hb14 ?_
 refine U.ps 1 T rfl ?_
 refine U.sks 4 29 false 50 rfl rfl rfl rfl ?_
 refine U.pk rfl ?_
 refine U.done ?_
 exact St.wa (idR 2) (hJ7 _ hm)
 refine U.pg 1 24 false 45 hb14 T rfl rfl rfl rfl ?_
 refine U.k (T_survey_Right s_1 _ hm) en11 (fun x15 hm => ?_) (hw := .take 24 false 45 _ hb14 rfl rfl rfl)
 refine U.pg 1 24 false 45 hb14 T rfl rfl rfl rfl ?_
 refine U.pk' hb14 ?_
 refine U.ps 1 T rfl ?_
 refine hm.cs (fun hb16 hm => ?_) (fun hb16 hm => ?_)
 refine U.pg 2 29 false 50 (ntF hb16) T rfl rfl rfl rfl ?_
 refine U.k (T_body_Right s_1 st _ hm) en12 (fun x17 hm => ?_) (hw := .take 29 false 50 _ (ntF hb16) rfl rfl rfl)
 refine U.pg 1 29 false 50 (ntF hb16) T rfl rfl rfl rfl ?_
 refine U.r rfl (.none rfl) rfl rfl (by exact Rd.pk' rfl rfl (ntF hb16) rfl) ?_
 refine U.done ?_
 exact St.wa (idR 2) (hJ7 _ hm)
 refine U.sks 4 29 false 50 (ntT hb16) rfl rfl rfl ?_
 refine U.r rfl (.none rfl) rfl rfl (by exact Rd.pk rfl rfl (ntT hb16) rfl) ?_
 refine U.done ?_
 exact St.wa (idR 2) (hJ7 _ hm)
 refine U.sks 4 8 false 29 (ntT hb11) rfl rfl rfl ?_
 refine U.r rfl (.none rfl) rfl rfl (by exact Rd.pk rfl rfl (ntT hb11) rfl) ?_
 refine U.ps 1 T rfl ?_
 refine U.sks 3 14 false 35 rfl rfl rfl rfl ?_
 refine U.pk rfl ?_
 refine U.ps 1 T rfl ?_
 refine U.sks 3 19 false 40 rfl rfl rfl rfl ?_
 refine U.pk rfl ?_
 refine U.ps 1 T rfl ?_
 refine U.sks 3 24 false 45 rfl rfl rfl rfl ?_
 refine U.pk rfl ?_
 refine U.ps 1 T rfl ?_
 refine U.sks 4 29 false 50 rfl rfl rfl rfl ?_
 refine U.pk rfl ?_
 refine U.done ?_
 exact St.wa (idR 2) (hJ7 _ hm)
 refine U.sks 3 3 false 24 (ntT hb9) rfl rfl rfl ?_
 refine U.r rfl (.none rfl) rfl rfl (by exact Rd.pk rfl rfl (ntT hb9) rfl) ?_
 refine U.ps 1 T rfl ?_
 refine U.sks 4 8 false 29 rfl rfl rfl rfl ?_
 refine U.pk rfl ?_
 refine U.ps 1 T rfl ?_
 refine U.sks 3 14 false 35 rfl rfl rfl rfl ?_
 refine U.pk rfl ?_
 refine U.ps 1 T rfl ?_
 refine U.sks 3 19 false 40 rfl rfl rfl rfl ?_
 refine U.pk rfl ?_
 refine U.ps 1 T rfl ?_
 refine U.sks 3 24 false 45 rfl rfl rfl rfl ?_
 refine U.pk rfl ?_
 refine U.ps 1 T rfl ?_
 refine U.sks 4 29 false 50 rfl rfl rfl rfl ?_
 refine U.pk rfl ?_
 refine U.done ?_
 exact St.wa (idR 2) (hJ7 _ hm)
end Go.Proofs.YtbkpekodmhkbdaaGreat
