/- The walks: each Go function does what its verification condition says (written by a program of the prover). -/
import Derived.Test.YtbpbennpgnjbkaaGreatW0
import Derived.KernelRfl
set_option maxRecDepth 100000
set_option maxHeartbeats 8000000
set_option linter.unusedVariables false
set_option linter.unusedSimpArgs false
namespace Go.Proofs.YtbpbennpgnjbkaaGreat
open Go Go.Taq
theorem T_arena_Step (s_1 : ApiSite) (st : ApiState) (acts : List Int) (f : ApiFault) (post : (ApiState × Int) → Prop) (hm : V_arena_Step s_1 st acts f post) :
    Tr Tryz.prog 17 [.agg (eApiSite s_1), .agg (eApiState st), .sl 1 eI acts, .agg (eApiFault f)] [] 0 (fun A H' k => ∃ y, post y ∧ A = (.tup [.agg [.i y.1.Tick, .o 0, .o 1, .o 2, .o 3, .o 4], .i y.2]) ∧ H' = [(0, .val (.os 1 eI y.1.Shelves)), (1, .val (.os 6 eApiRobot y.1.Robots)), (2, .val (.os 1 eI y.1.People)), (3, .val (.os 1 eI y.1.Dead)), (4, .val (.os 2 eApiStuck y.1.Stuck))] ∧ k = 5) := by
 refine Tr.intro (n := 58) Tryz.func17 rfl Tryz.ntmps17 rfl (fun w0 ok F β hβ => ?_)
 unfold V_arena_Step at hm
 refine C.seq (U.start ?_)
 refine U.bx ?_
 refine U.bx ?_
 refine U.bx ?_
 refine U.e1 rfl (.none rfl) (by exact Eff1.al T rfl rfl rfl rfl) ?_
 refine U.pd 1 T (C.nx (C.seq (C.seq (U.start ?_))))
 refine U.ps 3 T rfl ?_
 refine U.k (T_arena_Check s_1 st acts _ hm) en10 (fun x5 hm => ?_)
 refine U.pd 1 T (C.nx (C.seq (U.start ?_)))
 refine U.pd 2 T (C.nx ?_)
 refine C.ite rfl hm (fun hb8 hm => ?_) (fun hb8 hm => ?_)
 refine C.seq (U.start ?_)
 refine U.ps 2 T rfl ?_
 refine U.e1 rfl (.none rfl) (by exact Eff1.st T rfl rfl rfl rfl rfl rfl rfl rfl rfl rfl) ?_
 refine U.pd 1 T (C.nx (C.ret (C.rt ?_)))
 exact C.fg [none, none, none, none, none] T hβ ⟨(({ Tick := 0, Shelves := [], Robots := [], People := [], Dead := [], Stuck := [] : ApiState }), x5), hm, rfl, rfl, rfl⟩
 refine C.skip (C.nx (C.seq (C.seq (U.start ?_))))
 refine U.ps 3 T rfl ?_
 refine U.k (T_arena_Possible s_1 st f _ hm) en12 (fun x13 hm => ?_)
 refine U.pd 1 T (C.nx (C.seq (U.start ?_)))
 refine U.pd 2 T (C.nx ?_)
 refine C.ite rfl hm (fun hb16 hm => ?_) (fun hb16 hm => ?_)
 refine C.seq (U.start ?_)
 refine U.ps 2 T rfl ?_
 refine U.e1 rfl (.none rfl) (by exact Eff1.st T rfl rfl rfl rfl rfl rfl rfl rfl rfl rfl) ?_
 refine U.pd 1 T (C.nx (C.ret (C.rt ?_)))
 exact C.fg [none, none, none, none, none] T hβ ⟨(({ Tick := 0, Shelves := [], Robots := [], People := [], Dead := [], Stuck := [] : ApiState }), x13), hm, rfl, rfl, rfl⟩
 refine C.skip (C.nx (C.seq (U.start ?_)))
 refine U.ps 3 T rfl ?_
 refine U.k (T_arena_Happen s_1 st f _ hm) en15 (fun x21 hm => ?_)
 refine U.e1 rfl (.none rfl) (by exact Eff1.al T rfl rfl rfl rfl) ?_
 refine U.e1 rfl (.none rfl) (by exact Eff1.st T rfl rfl rfl rfl rfl rfl rfl rfl rfl rfl) ?_
 refine U.done (C.nx (C.seq (C.seq (U.start ?_))))
 refine U.pd 3 T (C.nx ?_)
 refine C.jn (fun (x24 : Int × List Int × List ApiRobot × List Int × List Int × List ApiStuck) => [(5, .p 0 0), (8, .p 1 0), (12, .p 2 0)]) (fun (x24 : Int × List Int × List ApiRobot × List Int × List Int × List ApiStuck) => [(0, .box (eApiState st)), (1, .box [.i 0, .v (.slice none 0 0), .v (.slice none 0 0), .v (.slice none 0 0), .v (.slice none 0 0), .v (.slice none 0 0)]), (2, .box [.i x24.1, .o 3, .o 4, .o 5, .o 6, .o 7]), (3, .val (.os 1 eI x24.2.1)), (4, .val (.os 6 eApiRobot x24.2.2.1)), (5, .val (.os 1 eI x24.2.2.2.1)), (6, .val (.os 1 eI x24.2.2.2.2.1)), (7, .val (.os 2 eApiStuck x24.2.2.2.2.2))]) 8 hm (fun x24 hm => ?_) (fun J25 hm hJ25 => ?_)
 refine C.nx (C.seq ?_)
 refine D.beg 3 [0, 2] [] mix rfl rfl (by kernel_rfl) (by repeat (first | exact NoPanicQ.body | exact NoPanicQ.rnd | refine NoPanicQ.th ?_ | refine NoPanicQ.blk ?_ | refine NoPanicQ.ng ?_)) (fun hQ hS ws M' => ?_)
 refine D.ps 2 [(0, []), (1, [2])] rfl hQ hS T rfl rfl (by kernel_rfl) ?_
 refine D.k 2 (T_body_Clone ({ Tick := x24.1, Shelves := x24.2.1, Robots := x24.2.2.1, People := x24.2.2.2.1, Dead := x24.2.2.2.2.1, Stuck := x24.2.2.2.2.2 : ApiState }) _ hm) en51 (fun x49 hm => ?_)
 refine D.zt [4, 5] rfl (.none rfl) (by exact Eff.c [some 8, some 9, some 10, some 11, some 12] (v := false) (T_arena_ends__ag st x49 _ hm) en56 rfl rfl rfl (.eq rfl) ⟨vL, vL, vL, vL, vL, trivial⟩ rfl rfl rfl rfl rfl rfl (fun h => by cases h) (.inl rfl) (fun _ => rfl) (fun _ => rfl) rfl) (by kernel_rfl) (by kernel_rfl) (by kernel_rfl) (by kernel_rfl) (fun x50' hm => ?_)
 obtain ⟨x50⟩ := x50'
 refine U.e1 rfl (.none rfl) (by exact Eff1.st T rfl rfl rfl rfl rfl rfl rfl rfl rfl rfl) ?_
 refine U.pd 1 T (C.nx (C.ret ?_))
 exact C.fg (sqR 18 5) T hβ ⟨(x50, 0), hm, rfl, rfl, rfl⟩
 refine C.block ?_
 refine St.wk (C.loop (fun (s26 : Int × List Int × List ApiRobot × List Int × List Int × List ApiStuck × Int) => [(4, .p 0 0), (5, .p 1 0), (8, .p 2 0), (12, .p 3 0), (35, .sl 1 eI acts), (36, .i (acts.length : Int)), (37, .i s26.2.2.2.2.2.2)]) (fun (s26 : Int × List Int × List ApiRobot × List Int × List Int × List ApiStuck × Int) => [(0, .box (eApiSite s_1)), (1, .box (eApiState st)), (2, .box [.i 0, .v (.slice none 0 0), .v (.slice none 0 0), .v (.slice none 0 0), .v (.slice none 0 0), .v (.slice none 0 0)]), (3, .box [.i s26.1, .o 4, .o 5, .o 6, .o 7, .o 8]), (4, .val (.os 1 eI s26.2.1)), (5, .val (.os 6 eApiRobot s26.2.2.1)), (6, .val (.os 1 eI s26.2.2.2.1)), (7, .val (.os 1 eI s26.2.2.2.2.1)), (8, .val (.os 2 eApiStuck s26.2.2.2.2.2.1))]) hm (fun s26 Y27 hm => ?_)) (Wk.a [some 0, some 1, some 3, some 9, some 4, some 5, some 6, some 7, some 8])
 refine C.seq (U.start ?_)
 refine U.pd 1 T (C.nx (C.seq ?_))
 refine C.ite rfl hm (fun hb30 hm => ?_) (fun hb30 hm => ?_)
 refine C.skip (C.nx (C.seq (C.block (C.seq (U.start ?_)))))
 refine U.ps 1 T rfl ?_
 obtain ⟨x33, hx33, hm⟩ := hm
 refine U.r rfl (.none rfl) rfl rfl (by exact Rd.ix T rfl rfl rfl rfl rfl rfl hx33) ?_
 refine U.pd 3 T (C.nx (C.seq (C.seq (U.start ?_))))
 refine U.ps 4 T rfl ?_
 refine U.k (T_act_Legal s_1 ({ Tick := s26.1, Shelves := s26.2.1, Robots := s26.2.2.1, People := s26.2.2.2.1, Dead := s26.2.2.2.2.1, Stuck := s26.2.2.2.2.2.1 : ApiState }) s26.2.2.2.2.2.2 x33 _ hm) en36 (fun x36 hm => ?_)
 refine U.pd 1 T (C.nx ?_)
 refine C.jn (fun (x37 : Int) => [(4, .p 0 0), (5, .p 1 0), (8, .p 2 0), (12, .p 3 0), (13, .i s26.2.2.2.2.2.2), (14, .i x37), (35, .sl 1 eI acts), (36, .i (acts.length : Int)), (37, .i s26.2.2.2.2.2.2)]) (fun (x37 : Int) => [(0, .box (eApiSite s_1)), (1, .box (eApiState st)), (2, .box [.i 0, .v (.slice none 0 0), .v (.slice none 0 0), .v (.slice none 0 0), .v (.slice none 0 0), .v (.slice none 0 0)]), (3, .box [.i s26.1, .o 4, .o 5, .o 6, .o 7, .o 8]), (4, .val (.os 1 eI s26.2.1)), (5, .val (.os 6 eApiRobot s26.2.2.1)), (6, .val (.os 1 eI s26.2.2.2.1)), (7, .val (.os 1 eI s26.2.2.2.2.1)), (8, .val (.os 2 eApiStuck s26.2.2.2.2.2.1))]) 9 hm (fun x37 hm => ?_) (fun J38 hm hJ38 => ?_)
 refine C.nx (U.start ?_)
 refine U.ps 4 T rfl ?_
 refine U.k (T_act_Do s_1 ({ Tick := s26.1, Shelves := s26.2.1, Robots := s26.2.2.1, People := s26.2.2.2.1, Dead := s26.2.2.2.2.1, Stuck := s26.2.2.2.2.2.1 : ApiState }) s26.2.2.2.2.2.2 x37 _ hm) en37 (fun x44 hm => ?_)
 refine U.e1 rfl (.none rfl) (by exact Eff1.st T rfl rfl rfl rfl rfl rfl rfl rfl rfl rfl) ?_
 refine U.done (C.bnx (C.nx (U.start ?_)))
 refine U.pd 2 T (C.nx ?_)
 exact St.wk (C.next hm) (Wk.a [some 0, some 1, some 2, some 3, some 9, some 10, some 11, some 12, some 13])
 refine C.ite rfl hm (fun hb39 hm => ?_) (fun hb39 hm => ?_)
 refine U.start ?_
 refine U.pd 1 T ?_
 exact St.wa (idR 9) (hJ38 _ hm)
 refine C.skip ?_
 exact St.wa (idR 9) (hJ38 _ hm)
 refine C.exit (C.ex (C.ex (C.bex ?_)))
 exact St.wa (sqR 1 8) (hJ25 _ hm)
theorem T_floor_Right (f : ApiFloor) (post : Bool → Prop) (hm : V_floor_Right f post) :
    Tr Tryz.prog 59 [.agg (eApiFloor f)] [] 0 (fun A H' k => ∃ y, post y ∧ A = (.b y) ∧ H' = [] ∧ k = 0) := by
 refine Tr.intro (n := 76) Tryz.func59 rfl Tryz.ntmps59 rfl (fun w0 ok F β hβ => ?_)
 unfold V_floor_Right at hm
 refine C.seq (U.start ?_)
 refine U.bx ?_
 refine U.pd 1 T (C.nx (C.seq (C.seq ?_)))
 refine C.jn (fun (x3 : Bool) => [(1, .p 0 0), (26, .b x3)]) (fun (x3 : Bool) => [(0, .box (eApiFloor f))]) 1 hm (fun x3 hm => ?_) (fun J4 hm hJ4 => ?_)
 refine C.nx ?_
 refine C.ite rfl hm (fun hb7 hm => ?_) (fun hb7 hm => ?_)
 refine C.seq (U.start ?_)
 refine U.pd 1 T (C.nx (C.ret (C.rt ?_)))
 exact C.f1 T hβ ⟨false, hm, rfl, rfl, rfl⟩
 refine C.skip (C.nx (C.seq (U.start ?_)))
 refine U.ps 1 T rfl ?_
 refine U.k (T_floor_size f _ hm) en136 (fun x12 hm => ?_)
 refine U.pd 1 T (C.nx (C.seq (C.seq ?_)))
 refine C.jn (fun (x13 : Bool) => [(1, .p 0 0), (44, .b x13)]) (fun (x13 : Bool) => [(0, .box (eApiFloor f))]) 1 hm (fun x13 hm => ?_) (fun J14 hm hJ14 => ?_)
 refine C.nx ?_
 refine C.ite rfl hm (fun hb17 hm => ?_) (fun hb17 hm => ?_)
 refine C.seq (U.start ?_)
 refine U.pd 1 T (C.nx (C.ret (C.rt ?_)))
 exact C.f1 T hβ ⟨false, hm, rfl, rfl, rfl⟩
 refine C.skip (C.nx (C.seq (C.seq (U.start ?_))))
 refine U.pd 4 T (C.nx ?_)
 refine C.jn (fun (x22 : Unit) => []) (fun (x22 : Unit) => []) 0 hm (fun x22 hm => ?_) (fun J23 hm hJ23 => ?_)
 refine C.nx (C.seq (U.start ?_))
 refine U.pd 1 T (C.nx (C.ret ?_))
 exact C.f1 T hβ ⟨true, hm, rfl, rfl, rfl⟩
 refine C.block ?_
 refine St.wk (C.loop (fun (s24 : Int) => [(1, .p 0 0), (46, .sl 1 eI f.Kind), (47, .i (f.Kind.length : Int)), (48, .i s24)]) (fun (s24 : Int) => [(0, .box (eApiFloor f))]) hm (fun s24 Y25 hm => ?_)) (Wk.a [some 0])
 refine C.seq (U.start ?_)
 refine U.pd 1 T (C.nx (C.seq ?_))
 refine C.ite rfl hm (fun hb28 hm => ?_) (fun hb28 hm => ?_)
 refine C.skip (C.nx (C.seq (C.block (C.seq (U.start ?_)))))
 refine U.ps 1 T rfl ?_
 obtain ⟨x31, hx31, hm⟩ := hm
 refine U.r rfl (.none rfl) rfl rfl (by exact Rd.ix T rfl rfl rfl rfl rfl rfl hx31) ?_
 refine U.pd 3 T (C.nx (C.seq ?_))
 refine C.jn (fun (x32 : Bool) => [(1, .p 0 0), (46, .sl 1 eI f.Kind), (47, .i (f.Kind.length : Int)), (48, .i s24), (74, .b x32)]) (fun (x32 : Bool) => [(0, .box (eApiFloor f))]) 1 hm (fun x32 hm => ?_) (fun J33 hm hJ33 => ?_)
 refine C.nx ?_
 refine C.ite rfl hm (fun hb38 hm => ?_) (fun hb38 hm => ?_)
 refine C.seq (U.start ?_)
 refine U.pd 1 T (C.nx (C.ret (C.brt (C.rt (C.rt (C.brt (C.rt ?_)))))))
 exact C.f1 T hβ ⟨false, hm, rfl, rfl, rfl⟩
 refine C.skip (C.bnx (C.nx (U.start ?_)))
 refine U.pd 2 T (C.nx ?_)
 exact St.wk (C.next hm) (Wk.a [some 0])
 refine U.start ?_
 refine U.ps 3 T rfl ?_
 refine hm.cs (fun hb34 hm => ?_) (fun hb34 hm => ?_)
 refine U.sks 2 2 false 55 hb34 rfl rfl rfl ?_
 refine U.pk hb34 ?_
 refine U.ps 1 T rfl ?_
 refine U.sks 6 6 false 59 rfl rfl rfl rfl ?_
 refine U.pk rfl ?_
 refine U.ps 1 T rfl ?_
 refine U.sks 6 14 false 67 rfl rfl rfl rfl ?_
 refine U.pk rfl ?_
 refine U.done ?_
 exact St.wa [some 0] (hJ33 _ hm)
 refine U.pg 2 2 false 55 hb34 T rfl rfl rfl rfl ?_
 refine U.pk' hb34 ?_
 refine U.ps 1 T rfl ?_
 refine hm.cs (fun hb35 hm => ?_) (fun hb35 hm => ?_)
 refine U.sks 6 6 false 59 hb35 rfl rfl rfl ?_
 refine U.pk hb35 ?_
 refine U.ps 1 T rfl ?_
 refine U.sks 6 14 false 67 rfl rfl rfl rfl ?_
 refine U.pk rfl ?_
 refine U.done ?_
 exact St.wa [some 0] (hJ33 _ hm)
 refine U.pg 3 6 false 59 hb35 T rfl rfl rfl rfl ?_
 obtain ⟨x36, hx36, hm⟩ := hm
 refine U.r rfl (.take 6 false 59 _ hb35 rfl rfl rfl) rfl rfl (by exact Rd.ix T rfl rfl rfl rfl rfl rfl hx36) ?_
 refine U.pg 2 6 false 59 hb35 T rfl rfl rfl rfl ?_
 refine U.pk' hb35 ?_
 refine U.ps 1 T rfl ?_
 refine hm.cs (fun hb37 hm => ?_) (fun hb37 hm => ?_)
 refine U.sks 6 14 false 67 hb37 rfl rfl rfl ?_
 refine U.pk hb37 ?_
 refine U.done ?_
 exact St.wa [some 0] (hJ33 _ hm)
 refine U.pg 3 14 false 67 hb37 T rfl rfl rfl rfl ?_
 refine U.r rfl (.take 14 false 67 _ hb37 rfl rfl rfl) rfl rfl (by exact Rd.ix T rfl rfl rfl rfl rfl rfl hx36) ?_
 refine U.pg 2 14 false 67 hb37 T rfl rfl rfl rfl ?_
 refine U.pk' hb37 ?_
 refine U.done ?_
 exact St.wa [some 0] (hJ33 _ hm)
 refine C.exit (C.ex (C.ex (C.bex ?_)))
 exact St.wk (hJ23 _ hm) (Wk.mk' [] rfl rfl trivial trivial rfl)
 refine U.start ?_
 refine U.ps 3 T rfl ?_
 refine hm.cs (fun hb15 hm => ?_) (fun hb15 hm => ?_)
 refine U.sks 5 2 false 31 hb15 rfl rfl rfl ?_
 refine U.pk hb15 ?_
 refine U.ps 1 T rfl ?_
 refine U.sks 5 9 false 38 rfl rfl rfl rfl ?_
 refine U.pk rfl ?_
 refine U.done ?_
 exact St.wa [some 0] (hJ14 _ hm)
 refine U.pg 5 2 false 31 hb15 T rfl rfl rfl rfl ?_
 refine U.pk' hb15 ?_
 refine U.ps 1 T rfl ?_
 refine hm.cs (fun hb16 hm => ?_) (fun hb16 hm => ?_)
 refine U.sks 5 9 false 38 hb16 rfl rfl rfl ?_
 refine U.pk hb16 ?_
 refine U.done ?_
 exact St.wa [some 0] (hJ14 _ hm)
 refine U.pg 5 9 false 38 hb16 T rfl rfl rfl rfl ?_
 refine U.pk' hb16 ?_
 refine U.done ?_
 exact St.wa [some 0] (hJ14 _ hm)
 refine U.start ?_
 refine U.ps 9 T rfl ?_
 refine hm.cs (fun hb5 hm => ?_) (fun hb5 hm => ?_)
 refine U.sks 3 8 false 14 hb5 rfl rfl rfl ?_
 refine U.pk hb5 ?_
 refine U.ps 1 T rfl ?_
 refine U.sks 6 13 false 19 rfl rfl rfl rfl ?_
 refine U.pk rfl ?_
 refine U.done ?_
 exact St.wa [some 0] (hJ4 _ hm)
 refine U.pg 3 8 false 14 hb5 T rfl rfl rfl rfl ?_
 refine U.pk' hb5 ?_
 refine U.ps 1 T rfl ?_
 refine hm.cs (fun hb6 hm => ?_) (fun hb6 hm => ?_)
 refine U.sks 6 13 false 19 hb6 rfl rfl rfl ?_
 refine U.pk hb6 ?_
 refine U.done ?_
 exact St.wa [some 0] (hJ4 _ hm)
 refine U.pg 6 13 false 19 hb6 T rfl rfl rfl rfl ?_
 refine U.pk' hb6 ?_
 refine U.done ?_
 exact St.wa [some 0] (hJ4 _ hm)
theorem T_survey_newMaker (f : ApiFloor) (post : SurveyMaker → Prop) (hm : V_survey_newMaker f post) :
    Tr Tryz.prog 60 [.agg (eApiFloor f)] [] 0 (fun A H' k => ∃ y, post y ∧ A = (.p 11 0) ∧ H' = [(0, .val (.os 5 eApiZone y.site.Zones)), (1, .val (.os 2 eApiApart y.site.Aparts)), (2, .val (.os 2 eApiShelf y.site.Shelves)), (3, .val (.os 2 eApiStart y.site.Robots)), (4, .val (.om kI veI y.shelf)), (5, .val (.om kI veB y.robot)), (6, .val (.om kI veB y.zoned)), (7, .val (.om kS veI y.names)), (8, .val (.om kI veB y.oneways)), (9, .val (.os 1 eI y.shelves)), (10, .val (.os 1 eI y.zones)), (11, .box [.i y.site.Floor.W, .i y.site.Floor.H, .i y.site.Floor.D, .sl 1 eI y.site.Floor.Kind, .sl 1 eI y.site.Floor.Out, .o 0, .o 1, .o 2, .o 3, .o 4, .o 5, .o 6, .o 7, .o 8, .o 9, .o 10])] ∧ k = 12) := by
 refine Tr.intro (n := 12) Tryz.func60 rfl Tryz.ntmps60 rfl (fun w0 ok F β hβ => ?_)
 unfold V_survey_newMaker at hm
 refine C.seq (U.start ?_)
 refine U.bx ?_
 refine U.pd 1 T (C.nx (C.seq (U.start ?_)))
 refine U.ps 2 T rfl ?_
 refine U.e1 rfl (.none rfl) (by exact Eff1.mm kI veI rfl rfl rfl) ?_
 refine U.e1 rfl (.none rfl) (by exact Eff1.mm kI veB rfl rfl rfl) ?_
 refine U.e1 rfl (.none rfl) (by exact Eff1.mm kI veB rfl rfl rfl) ?_
 refine U.e1 rfl (.none rfl) (by exact Eff1.mm kS veI rfl rfl rfl) ?_
 refine U.e1 rfl (.none rfl) (by exact Eff1.mm kI veB rfl rfl rfl) ?_
 refine U.ps 1 T rfl ?_
 refine U.bx ?_
 refine U.pd 1 T (C.nx (C.ret ?_))
 exact C.g1 [none, none, none, none, some 1, some 2, some 3, some 4, some 5, none, none, some 6] T hβ ⟨({ site := ({ Floor := f, Zones := [], Aparts := [], Shelves := [], Robots := [] : ApiSite }), shelf := ([] : List (Int × Int)), robot := ([] : List (Int × Bool)), zoned := ([] : List (Int × Bool)), names := ([] : List (ByteArray × Int)), oneways := ([] : List (Int × Bool)), shelves := [], zones := [] : SurveyMaker }), hm, rfl, rfl, rfl⟩
def ibR137 : Go.Shelf.Ren := ⟨fun | 137 => 137 | 217 => 198 | 266 => 220 | n => n, fun | 3 => 3 | 5 => 5 | 9 => 9 | n => n, fun n => n⟩
theorem ibL137 : Go.Proofs.Lays.n137 Tryz.prog ibR137 where
  mixed := by kernel_rfl
  f137 := Tryz.func137.trans (congrArg some (by kernel_rfl))
  f217 := Tryz.func198.trans (congrArg some (by kernel_rfl))
  f266 := Tryz.func220.trans (congrArg some (by kernel_rfl))
  t3 := Tryz.underlying3
  a3 := Tryz.isAgg3
  z3 := Tryz.sizeOf3
  v3 := Tryz.zeroValue3
  t5 := Tryz.underlying5
  a5 := Tryz.isAgg5
  z5 := Tryz.sizeOf5
  v5 := Tryz.zeroValue5
  t9 := Tryz.underlying9
  a9 := Tryz.isAgg9
  z9 := Tryz.sizeOf9
  v9 := Tryz.zeroValue9
theorem T_strings_IndexByte (s_1 : ByteArray) (c : Int) (post : Int → Prop) (hm : V_strings_IndexByte s_1 c post) :
    Tr Tryz.prog 137 [.v (.string s_1), .v (.int .u8 c)] [] 0 (fun A H' k => ∃ y, post y ∧ A = (.i y) ∧ H' = [] ∧ k = 0) := Tr.indexByte ibL137 s_1 c hm
theorem T_survey_Name (s_1 : ByteArray) (post : Bool → Prop) (hm : V_survey_Name s_1 post) :
    Tr Tryz.prog 61 [.v (.string s_1)] [] 0 (fun A H' k => ∃ y, post y ∧ A = (.b y) ∧ H' = [] ∧ k = 0) := by
 refine Tr.intro (n := 33) Tryz.func61 rfl Tryz.ntmps61 rfl (fun w0 ok F β hβ => ?_)
 unfold V_survey_Name at hm
 refine C.seq (U.start ?_)
 refine U.pd 1 T (C.nx (C.seq (C.seq ?_)))
 refine C.jn (fun (x3 : Bool) => [(0, .v (.string s_1)), (21, .b x3)]) (fun (x3 : Bool) => []) 0 hm (fun x3 hm => ?_) (fun J4 hm hJ4 => ?_)
 refine C.nx ?_
 refine C.ite rfl hm (fun hb9 hm => ?_) (fun hb9 hm => ?_)
 refine C.seq (U.start ?_)
 refine U.pd 1 T (C.nx (C.ret (C.rt ?_)))
 exact C.f1 T hβ ⟨false, hm, rfl, rfl, rfl⟩
 refine C.skip (C.nx (C.seq (C.seq (U.start ?_))))
 refine U.pd 3 T (C.nx ?_)
 refine C.jn (fun (x14 : Unit) => []) (fun (x14 : Unit) => []) 0 hm (fun x14 hm => ?_) (fun J15 hm hJ15 => ?_)
 refine C.nx (C.seq (U.start ?_))
 refine U.pd 1 T (C.nx (C.ret ?_))
 exact C.f1 T hβ ⟨true, hm, rfl, rfl, rfl⟩
 refine C.block ?_
 refine St.wk (C.loop (fun (s16 : Int) => [(0, .v (.string s_1)), (23, .i (s_1.size : Int)), (24, .i s16)]) (fun (s16 : Int) => []) hm (fun s16 Y17 hm => ?_)) (Wk.e)
 refine C.seq (U.start ?_)
 refine U.pd 1 T (C.nx (C.seq ?_))
 refine C.ite rfl hm (fun hb20 hm => ?_) (fun hb20 hm => ?_)
 refine C.skip (C.nx (C.seq (C.block (C.seq (U.start ?_)))))
 refine U.pd 2 T (C.nx (C.seq (U.start ?_)))
 refine U.ps 2 T rfl ?_
 obtain ⟨x25, hx25, hm⟩ := hm
 refine U.r rfl (.none rfl) rfl rfl (by exact Rd.ib T rfl rfl rfl rfl hx25) ?_
 refine U.k (T_strings_IndexByte (ByteArray.mk #[97, 98, 99, 100, 101, 102, 103, 104, 105, 106, 107, 108, 109, 110, 111, 112, 113, 114, 115, 116, 117, 118, 119, 120, 121, 122, 65, 66, 67, 68, 69, 70, 71, 72, 73, 74, 75, 76, 77, 78, 79, 80, 81, 82, 83, 84, 85, 86, 87, 88, 89, 90, 48, 49, 50, 51, 52, 53, 54, 55, 56, 57, 95, 45]) (x25.toNat : Int) _ hm) en137 (fun x26 hm => ?_)
 refine U.pd 1 T (C.nx ?_)
 refine C.ite rfl hm (fun hb27 hm => ?_) (fun hb27 hm => ?_)
 refine C.seq (U.start ?_)
 refine U.pd 1 T (C.nx (C.ret (C.brt (C.rt (C.rt (C.brt (C.rt ?_)))))))
 exact C.f1 T hβ ⟨false, hm, rfl, rfl, rfl⟩
 refine C.skip (C.bnx (C.nx (U.start ?_)))
 refine U.pd 2 T (C.nx ?_)
 exact St.wk (C.next hm) (Wk.e)
 refine C.exit (C.ex (C.ex (C.bex ?_)))
 exact St.wk (hJ15 _ hm) (Wk.mk' [] rfl rfl trivial trivial rfl)
 refine U.start ?_
 refine U.ps 4 T rfl ?_
 refine hm.cs (fun hb5 hm => ?_) (fun hb5 hm => ?_)
 refine U.sks 3 3 false 7 hb5 rfl rfl rfl ?_
 refine U.pk hb5 ?_
 refine U.ps 1 T rfl ?_
 refine U.sks 4 8 false 12 rfl rfl rfl rfl ?_
 refine U.sku 3 12 true 16 rfl rfl rfl ?_
 refine U.sks 1 8 false 12 rfl rfl rfl rfl ?_
 refine U.pk rfl ?_
 refine U.done ?_
 exact St.wn (hJ4 _ hm)
 refine U.pg 3 3 false 7 hb5 T rfl rfl rfl rfl ?_
 refine U.pk' hb5 ?_
 refine U.ps 1 T rfl ?_
 refine hm.cs (fun hb6 hm => ?_) (fun hb6 hm => ?_)
 refine U.sks 4 8 false 12 hb6 rfl rfl rfl ?_
 refine U.sku 3 12 true 16 rfl rfl rfl ?_
 refine U.sks 1 8 false 12 hb6 rfl rfl rfl ?_
 refine U.pk hb6 ?_
 refine U.done ?_
 exact St.wn (hJ4 _ hm)
 refine U.pg 1 8 false 12 hb6 T rfl rfl rfl rfl ?_
 obtain ⟨x7, hx7, hm⟩ := hm
 refine U.r rfl (.take 8 false 12 _ hb6 rfl rfl rfl) rfl rfl (by exact Rd.ib T rfl rfl rfl rfl hx7) ?_
 refine U.pg 2 8 false 12 hb6 T rfl rfl rfl rfl ?_
 refine hm.cs (fun hb8 hm => ?_) (fun hb8 hm => ?_)
 refine U.pg 1 12 true 16 hb8 T rfl rfl rfl rfl ?_
 refine U.r rfl (.take 12 true 16 _ hb8 rfl rfl rfl) rfl rfl (by exact Rd.ib T rfl rfl rfl rfl hx7) ?_
 refine U.pg 1 12 true 16 hb8 T rfl rfl rfl rfl ?_
 refine U.r rfl (.take 8 false 12 _ hb6 rfl rfl rfl) rfl rfl (by exact Rd.pk rfl rfl hb8 rfl) ?_
 refine U.pk' hb6 ?_
 refine U.done ?_
 exact St.wn (hJ4 _ hm)
 refine U.sks 3 12 true 16 hb8 rfl rfl rfl ?_
 refine U.r rfl (.take 8 false 12 _ hb6 rfl rfl rfl) rfl rfl (by exact Rd.pk' rfl rfl hb8 rfl) ?_
 refine U.pk' hb6 ?_
 refine U.done ?_
 exact St.wn (hJ4 _ hm)
theorem T_survey_within (n : Int) (from_1 : Int) (to_1 : Int) (post : Bool → Prop) (hm : V_survey_within n from_1 to_1 post) :
    Tr Tryz.prog 62 [.i n, .i from_1, .i to_1] [] 0 (fun A H' k => ∃ y, post y ∧ A = (.b y) ∧ H' = [] ∧ k = 0) := by
 refine Tr.intro (n := 15) Tryz.func62 rfl Tryz.ntmps62 rfl (fun w0 ok F β hβ => ?_)
 unfold V_survey_within at hm
 refine C.seq (U.start ?_)
 refine U.pd 1 T (C.nx (C.seq ?_))
 refine C.jn (fun (x3 : Bool) => [(6, .b x3)]) (fun (x3 : Bool) => []) 0 hm (fun x3 hm => ?_) (fun J4 hm hJ4 => ?_)
 refine C.nx (C.ret ?_)
 exact C.f1 T hβ ⟨x3, hm, rfl, rfl, rfl⟩
 refine U.start ?_
 refine U.ps 4 T rfl ?_
 refine hm.cs (fun hb5 hm => ?_) (fun hb5 hm => ?_)
 refine U.pg 3 3 true 10 hb5 T rfl rfl rfl rfl ?_
 refine U.pk hb5 ?_
 refine U.pd 1 T ?_
 exact St.wn (hJ4 _ hm)
 refine U.sks 3 3 true 10 hb5 rfl rfl rfl ?_
 refine U.pk' hb5 ?_
 refine U.pd 1 T ?_
 exact St.wn (hJ4 _ hm)
theorem T_survey_shut (l : List ApiSpan) (post : Bool → Prop) (hm : V_survey_shut l post) :
    Tr Tryz.prog 63 [.sl 2 eApiSpan l] [] 0 (fun A H' k => ∃ y, post y ∧ A = (.b y) ∧ H' = [] ∧ k = 0) := by
 refine Tr.intro (n := 31) Tryz.func63 rfl Tryz.ntmps63 rfl (fun w0 ok F β hβ => ?_)
 unfold V_survey_shut at hm
 refine C.seq (U.start ?_)
 refine U.pd 1 T (C.nx (C.seq (U.start ?_)))
 refine U.pd 1 T (C.nx (C.seq (C.seq (U.start ?_))))
 refine U.pd 3 T (C.nx ?_)
 refine C.jn (fun (x7 : Unit) => []) (fun (x7 : Unit) => []) 0 hm (fun x7 hm => ?_) (fun J8 hm hJ8 => ?_)
 refine C.nx (C.seq (U.start ?_))
 refine U.pd 1 T (C.nx (C.ret ?_))
 exact C.f1 T hβ ⟨true, hm, rfl, rfl, rfl⟩
 refine C.block ?_
 refine St.wk (C.loop (fun (s9 : Int × Int) => [(3, .i s9.1), (6, .sl 2 eApiSpan l), (7, .i (l.length : Int)), (8, .i s9.2)]) (fun (s9 : Int × Int) => []) hm (fun s9 Y10 hm => ?_)) (Wk.e)
 refine C.seq (U.start ?_)
 refine U.pd 1 T (C.nx (C.seq ?_))
 refine C.ite rfl hm (fun hb13 hm => ?_) (fun hb13 hm => ?_)
 refine C.skip (C.nx (C.seq (C.block (C.seq (U.start ?_)))))
 obtain ⟨x16, hx16, hm⟩ := hm
 refine U.r rfl (.none rfl) rfl rfl (by exact Rd.ix T rfl rfl rfl rfl rfl rfl hx16) ?_
 refine U.ps 1 T rfl ?_
 refine U.e1 rfl (.none rfl) (by exact Eff1.al T rfl rfl rfl rfl) ?_
 refine U.e1 rfl (.none rfl) (by exact Eff1.st T rfl rfl rfl rfl rfl rfl rfl rfl rfl rfl) ?_
 refine U.done (C.nx (C.seq (C.seq ?_)))
 refine C.jn (fun (x17 : Bool) => [(5, .p 0 0), (6, .sl 2 eApiSpan l), (7, .i (l.length : Int)), (8, .i s9.2), (27, .b x17)]) (fun (x17 : Bool) => [(0, .box [.i x16.From, .i x16.To])]) 1 hm (fun x17 hm => ?_) (fun J18 hm hJ18 => ?_)
 refine C.nx ?_
 refine C.ite rfl hm (fun hb21 hm => ?_) (fun hb21 hm => ?_)
 refine C.seq (U.start ?_)
 refine U.pd 1 T (C.nx (C.ret (C.rt (C.brt (C.rt (C.rt (C.brt (C.rt ?_))))))))
 exact C.f1 T hβ ⟨false, hm, rfl, rfl, rfl⟩
 refine C.skip (C.nx (U.start ?_))
 refine U.pd 3 T (C.bnx (C.nx (U.start ?_)))
 refine U.pd 2 T (C.nx ?_)
 exact St.wk (C.next hm) (Wk.e)
 refine U.start ?_
 refine U.ps 5 T rfl ?_
 refine hm.cs (fun hb19 hm => ?_) (fun hb19 hm => ?_)
 refine U.sks 5 4 false 16 hb19 rfl rfl rfl ?_
 refine U.pk hb19 ?_
 refine U.ps 1 T rfl ?_
 refine U.sks 3 11 false 23 rfl rfl rfl rfl ?_
 refine U.pk rfl ?_
 refine U.done ?_
 exact St.wa [some 0] (hJ18 _ hm)
 refine U.pg 5 4 false 16 hb19 T rfl rfl rfl rfl ?_
 refine U.pk' hb19 ?_
 refine U.ps 1 T rfl ?_
 refine hm.cs (fun hb20 hm => ?_) (fun hb20 hm => ?_)
 refine U.sks 3 11 false 23 hb20 rfl rfl rfl ?_
 refine U.pk hb20 ?_
 refine U.done ?_
 exact St.wa [some 0] (hJ18 _ hm)
 refine U.pg 3 11 false 23 hb20 T rfl rfl rfl rfl ?_
 refine U.pk' hb20 ?_
 refine U.done ?_
 exact St.wa [some 0] (hJ18 _ hm)
 refine C.exit (C.ex (C.ex (C.bex ?_)))
 exact St.wk (hJ8 _ hm) (Wk.mk' [] rfl rfl trivial trivial rfl)
theorem T_survey_maker_kindAt (m : SurveyMaker) (c : Int) (post : (Int × Bool) → Prop) (hm : V_survey_maker_kindAt m c post) :
    Tr Tryz.prog 138 [.rp [.i m.site.Floor.W, .i m.site.Floor.H, .i m.site.Floor.D, .sl 1 eI m.site.Floor.Kind, .sl 1 eI m.site.Floor.Out, .sl 5 eApiZone m.site.Zones, .sl 2 eApiApart m.site.Aparts, .sl 2 eApiShelf m.site.Shelves, .sl 2 eApiStart m.site.Robots, .rm kI veI m.shelf, .rm kI veB m.robot, .rm kI veB m.zoned, .rm kS veI m.names, .rm kI veB m.oneways, .sl 1 eI m.shelves, .sl 1 eI m.zones], .i c] [] 0 (fun A H' k => ∃ y, post y ∧ A = (.tup [.i y.1, .b y.2]) ∧ H' = [] ∧ k = 0) := by
 refine Tr.intro (n := 28) Tryz.func138 rfl Tryz.ntmps138 rfl (fun w0 ok F β hβ => ?_)
 unfold V_survey_maker_kindAt at hm
 refine C.seq (U.start ?_)
 refine U.pd 2 T (C.nx (C.seq (C.seq ?_)))
 refine C.jn (fun (x3 : Bool) => [(0, .rp [.i m.site.Floor.W, .i m.site.Floor.H, .i m.site.Floor.D, .sl 1 eI m.site.Floor.Kind, .sl 1 eI m.site.Floor.Out, .sl 5 eApiZone m.site.Zones, .sl 2 eApiApart m.site.Aparts, .sl 2 eApiShelf m.site.Shelves, .sl 2 eApiStart m.site.Robots, .rm kI veI m.shelf, .rm kI veB m.robot, .rm kI veB m.zoned, .rm kS veI m.names, .rm kI veB m.oneways, .sl 1 eI m.shelves, .sl 1 eI m.zones]), (1, .i c), (18, .b x3)]) (fun (x3 : Bool) => []) 0 hm (fun x3 hm => ?_) (fun J4 hm hJ4 => ?_)
 refine C.nx ?_
 refine C.ite rfl hm (fun hb6 hm => ?_) (fun hb6 hm => ?_)
 refine C.seq (U.start ?_)
 refine U.pd 2 T (C.nx (C.ret (C.rt ?_)))
 exact C.f9 T hβ ⟨(0, false), hm, rfl, rfl, rfl⟩
 refine C.skip (C.nx (C.seq (U.start ?_)))
 refine U.ps 7 T rfl ?_
 obtain ⟨x11, hx11, hm⟩ := hm
 refine U.r rfl (.none rfl) rfl rfl (by exact Rd.ix T rfl rfl rfl rfl rfl rfl hx11) ?_
 refine U.pd 3 T (C.nx (C.ret ?_))
 exact C.f9 T hβ ⟨(x11, true), hm, rfl, rfl, rfl⟩
 refine U.start ?_
 refine U.ps 3 T rfl ?_
 refine hm.cs (fun hb5 hm => ?_) (fun hb5 hm => ?_)
 refine U.sks 9 2 false 8 hb5 rfl rfl rfl ?_
 refine U.pk hb5 ?_
 refine U.done ?_
 exact St.wn (hJ4 _ hm)
 refine U.pg 9 2 false 8 hb5 T rfl rfl rfl rfl ?_
 refine U.pk' hb5 ?_
 refine U.done ?_
 exact St.wn (hJ4 _ hm)
theorem T_survey_maker_cells (m : SurveyMaker) (l : List Int) (post : Bool → Prop) (hm : V_survey_maker_cells m l post) :
    Tr Tryz.prog 64 [.rp [.i m.site.Floor.W, .i m.site.Floor.H, .i m.site.Floor.D, .sl 1 eI m.site.Floor.Kind, .sl 1 eI m.site.Floor.Out, .sl 5 eApiZone m.site.Zones, .sl 2 eApiApart m.site.Aparts, .sl 2 eApiShelf m.site.Shelves, .sl 2 eApiStart m.site.Robots, .rm kI veI m.shelf, .rm kI veB m.robot, .rm kI veB m.zoned, .rm kS veI m.names, .rm kI veB m.oneways, .sl 1 eI m.shelves, .sl 1 eI m.zones], .sl 1 eI l] [] 0 (fun A H' k => ∃ y, post y ∧ A = (.b y) ∧ H' = [] ∧ k = 0) := by
 refine Tr.intro (n := 41) Tryz.func64 rfl Tryz.ntmps64 rfl (fun w0 ok F β hβ => ?_)
 unfold V_survey_maker_cells at hm
 refine C.seq (U.start ?_)
 refine U.pd 1 T (C.nx (C.seq (C.seq (U.start ?_))))
 refine U.pd 3 T (C.nx ?_)
 refine C.jn (fun (x5 : Unit) => [(1, .sl 1 eI l)]) (fun (x5 : Unit) => []) 0 hm (fun x5 hm => ?_) (fun J6 hm hJ6 => ?_)
 refine C.nx (C.seq (U.start ?_))
 refine U.pd 4 T (C.nx (C.ret ?_))
 exact C.f1 T hβ ⟨decide ((l.length : Int) > 0), hm, rfl, rfl, rfl⟩
 refine C.block ?_
 refine St.wk (C.loop (fun (s7 : Int) => [(0, .rp [.i m.site.Floor.W, .i m.site.Floor.H, .i m.site.Floor.D, .sl 1 eI m.site.Floor.Kind, .sl 1 eI m.site.Floor.Out, .sl 5 eApiZone m.site.Zones, .sl 2 eApiApart m.site.Aparts, .sl 2 eApiShelf m.site.Shelves, .sl 2 eApiStart m.site.Robots, .rm kI veI m.shelf, .rm kI veB m.robot, .rm kI veB m.zoned, .rm kS veI m.names, .rm kI veB m.oneways, .sl 1 eI m.shelves, .sl 1 eI m.zones]), (1, .sl 1 eI l), (9, .sl 1 eI l), (10, .i (l.length : Int)), (11, .i s7)]) (fun (s7 : Int) => []) hm (fun s7 Y8 hm => ?_)) (Wk.e)
 refine C.seq (U.start ?_)
 refine U.pd 1 T (C.nx (C.seq ?_))
 refine C.ite rfl hm (fun hb11 hm => ?_) (fun hb11 hm => ?_)
 refine C.skip (C.nx (C.seq (C.block (C.seq (U.start ?_)))))
 refine U.ps 1 T rfl ?_
 obtain ⟨x14, hx14, hm⟩ := hm
 refine U.r rfl (.none rfl) rfl rfl (by exact Rd.ix T rfl rfl rfl rfl rfl rfl hx14) ?_
 refine U.pd 3 T (C.nx (C.seq (U.start ?_)))
 refine U.ps 2 T rfl ?_
 refine U.k (T_survey_maker_kindAt m x14 _ hm) en138 (fun x17 hm => ?_)
 refine U.pd 5 T (C.nx (C.seq ?_))
 refine C.jn (fun (x18 : Bool) => [(0, .rp [.i m.site.Floor.W, .i m.site.Floor.H, .i m.site.Floor.D, .sl 1 eI m.site.Floor.Kind, .sl 1 eI m.site.Floor.Out, .sl 5 eApiZone m.site.Zones, .sl 2 eApiApart m.site.Aparts, .sl 2 eApiShelf m.site.Shelves, .sl 2 eApiStart m.site.Robots, .rm kI veI m.shelf, .rm kI veB m.robot, .rm kI veB m.zoned, .rm kS veI m.names, .rm kI veB m.oneways, .sl 1 eI m.shelves, .sl 1 eI m.zones]), (1, .sl 1 eI l), (9, .sl 1 eI l), (10, .i (l.length : Int)), (11, .i s7), (36, .b x18)]) (fun (x18 : Bool) => []) 0 hm (fun x18 hm => ?_) (fun J19 hm hJ19 => ?_)
 refine C.nx ?_
 refine C.ite rfl hm (fun hb23 hm => ?_) (fun hb23 hm => ?_)
 refine C.seq (U.start ?_)
 refine U.pd 1 T (C.nx (C.ret (C.brt (C.rt (C.rt (C.brt (C.rt ?_)))))))
 exact C.f1 T hβ ⟨false, hm, rfl, rfl, rfl⟩
 refine C.skip (C.bnx (C.nx (U.start ?_)))
 refine U.pd 2 T (C.nx ?_)
 exact St.wk (C.next hm) (Wk.e)
 refine U.start ?_
 refine U.ps 3 T rfl ?_
 refine hm.cs (fun hb20 hm => ?_) (fun hb20 hm => ?_)
 refine U.pg 3 2 false 24 (ntF hb20) T rfl rfl rfl rfl ?_
 refine hm.cs (fun hb21 hm => ?_) (fun hb21 hm => ?_)
 refine U.pg 3 5 true 27 hb21 T rfl rfl rfl rfl ?_
 obtain ⟨x22, hx22, hm⟩ := hm
 refine U.r rfl (.take 5 true 27 _ hb21 rfl rfl rfl) rfl rfl (by exact Rd.ix T rfl rfl rfl rfl rfl rfl hx22) ?_
 refine U.pg 3 5 true 27 hb21 T rfl rfl rfl rfl ?_
 refine U.r rfl (.take 2 false 24 _ (ntF hb20) rfl rfl rfl) rfl rfl (by exact Rd.pk rfl rfl hb21 rfl) ?_
 refine U.r rfl (.none rfl) rfl rfl (by exact Rd.pk' rfl rfl (ntF hb20) rfl) ?_
 refine U.done ?_
 exact St.wn (hJ19 _ hm)
 refine U.sks 7 5 true 27 hb21 rfl rfl rfl ?_
 refine U.r rfl (.take 2 false 24 _ (ntF hb20) rfl rfl rfl) rfl rfl (by exact Rd.pk' rfl rfl hb21 rfl) ?_
 refine U.r rfl (.none rfl) rfl rfl (by exact Rd.pk' rfl rfl (ntF hb20) rfl) ?_
 refine U.done ?_
 exact St.wn (hJ19 _ hm)
 refine U.sks 3 2 false 24 (ntT hb20) rfl rfl rfl ?_
 refine U.sku 7 5 true 27 rfl rfl rfl ?_
 refine U.sks 1 2 false 24 (ntT hb20) rfl rfl rfl ?_
 refine U.r rfl (.none rfl) rfl rfl (by exact Rd.pk rfl rfl (ntT hb20) rfl) ?_
 refine U.done ?_
 exact St.wn (hJ19 _ hm)
 refine C.exit (C.ex (C.ex (C.bex ?_)))
 exact St.wn (hJ6 _ hm)
theorem T_survey_zoned (kind : Int) (post : Bool → Prop) (hm : V_survey_zoned kind post) :
    Tr Tryz.prog 139 [.i kind] [] 0 (fun A H' k => ∃ y, post y ∧ A = (.b y) ∧ H' = [] ∧ k = 0) := by
 refine Tr.intro (n := 13) Tryz.func139 rfl Tryz.ntmps139 rfl (fun w0 ok F β hβ => ?_)
 unfold V_survey_zoned at hm
 refine C.seq (U.start ?_)
 refine U.pd 1 T (C.nx (C.seq ?_))
 refine C.jn (fun (x3 : Bool) => [(2, .b x3)]) (fun (x3 : Bool) => []) 0 hm (fun x3 hm => ?_) (fun J4 hm hJ4 => ?_)
 refine C.nx (C.ret ?_)
 exact C.f1 T hβ ⟨x3, hm, rfl, rfl, rfl⟩
 refine U.start ?_
 refine U.ps 3 T rfl ?_
 refine hm.cs (fun hb5 hm => ?_) (fun hb5 hm => ?_)
 refine U.pg 2 2 true 5 hb5 T rfl rfl rfl rfl ?_
 refine U.pk hb5 ?_
 refine U.ps 1 T rfl ?_
 refine hm.cs (fun hb6 hm => ?_) (fun hb6 hm => ?_)
 refine U.pg 2 6 true 9 hb6 T rfl rfl rfl rfl ?_
 refine U.pk hb6 ?_
 refine U.pd 1 T ?_
 exact St.wn (hJ4 _ hm)
 refine U.sks 2 6 true 9 hb6 rfl rfl rfl ?_
 refine U.pk' hb6 ?_
 refine U.pd 1 T ?_
 exact St.wn (hJ4 _ hm)
 refine U.sks 2 2 true 5 hb5 rfl rfl rfl ?_
 refine U.pk' hb5 ?_
 refine U.ps 1 T rfl ?_
 refine U.sks 2 6 true 9 rfl rfl rfl rfl ?_
 refine U.pk' rfl ?_
 refine U.pd 1 T ?_
 exact St.wn (hJ4 _ hm)
theorem T_survey_maker_addZone__p0 (z : ApiZone) (m : SurveyMaker) (post : (Int × SurveyMaker) → Prop) (hm : V_survey_maker_addZone__p0 z m post) :
    Tr Tryz.prog 65 [.p 0 0, .agg (eApiZone z)] [(0, .box [.i m.site.Floor.W, .i m.site.Floor.H, .i m.site.Floor.D, .sl 1 eI m.site.Floor.Kind, .sl 1 eI m.site.Floor.Out, .o 1, .o 2, .o 3, .o 4, .o 5, .o 6, .o 7, .o 8, .o 9, .o 10, .o 11]), (1, .val (.os 5 eApiZone m.site.Zones)), (2, .val (.os 2 eApiApart m.site.Aparts)), (3, .val (.os 2 eApiShelf m.site.Shelves)), (4, .val (.os 2 eApiStart m.site.Robots)), (5, .val (.om kI veI m.shelf)), (6, .val (.om kI veB m.robot)), (7, .val (.om kI veB m.zoned)), (8, .val (.om kS veI m.names)), (9, .val (.om kI veB m.oneways)), (10, .val (.os 1 eI m.shelves)), (11, .val (.os 1 eI m.zones))] 12 (fun A H' k => ∃ y, post y ∧ A = (.i y.1) ∧ H' = [(0, .box [.i y.2.site.Floor.W, .i y.2.site.Floor.H, .i y.2.site.Floor.D, .sl 1 eI y.2.site.Floor.Kind, .sl 1 eI y.2.site.Floor.Out, .o 12, .o 13, .o 14, .o 15, .o 16, .o 17, .o 18, .o 19, .o 20, .o 21, .o 22]), (12, .val (.os 5 eApiZone y.2.site.Zones)), (13, .val (.os 2 eApiApart y.2.site.Aparts)), (14, .val (.os 2 eApiShelf y.2.site.Shelves)), (15, .val (.os 2 eApiStart y.2.site.Robots)), (16, .val (.om kI veI y.2.shelf)), (17, .val (.om kI veB y.2.robot)), (18, .val (.om kI veB y.2.zoned)), (19, .val (.om kS veI y.2.names)), (20, .val (.om kI veB y.2.oneways)), (21, .val (.os 1 eI y.2.shelves)), (22, .val (.os 1 eI y.2.zones))] ∧ k = 23) := by
 refine Tr.intro (n := 93) Tryz.func65 rfl Tryz.ntmps65 rfl (fun w0 ok F β hβ => ?_)
 unfold V_survey_maker_addZone__p0 at hm
 refine C.seq (U.start ?_)
 refine U.bx ?_
 refine U.pd 1 T (C.nx (C.seq (C.seq ?_)))
 refine D.beg 9999 [0, 8, 12] [] mix rfl rfl (by kernel_rfl) (by repeat (first | exact NoPanicQ.body | exact NoPanicQ.rnd | refine NoPanicQ.th ?_ | refine NoPanicQ.blk ?_ | refine NoPanicQ.ng ?_)) (fun hQ hS ws M' => ?_)
 refine D.ps 6 [(0, []), (1, []), (2, []), (3, []), (4, []), (5, [])] rfl hQ hS T rfl rfl (by kernel_rfl) ?_
 refine D.q 6 [] hQ hS rfl (.none rfl) rfl rfl (by exact Rd.lk2 T (ke := kS) (ve := veI) (xs := m.names) (z0 := 0) (x := z.Name) rfl rfl kt9 zt3 (fun _ => rfl) rfl (.o rfl) rfl rfl rfl) rfl (by kernel_rfl) ?_
 refine D.ps 5 [(7, []), (8, []), (9, []), (10, []), (11, [])] rfl hQ hS T rfl rfl (by kernel_rfl) ?_
 refine D.done (by kernel_rfl) ?_
 refine C.nx (C.seq (U.start ?_))
 refine U.pd 1 T (C.nx ?_)
 refine C.ite rfl hm (fun hb7 hm => ?_) (fun hb7 hm => ?_)
 refine C.seq (U.start ?_)
 refine U.pd 1 T (C.nx (C.ret (C.rt ?_)))
 exact C.g1 [some 0, some 1, some 2, some 3, some 4, some 5, some 6, some 7, some 8, some 9, some 10, some 11, some 1, some 2, some 3, some 4, some 5, some 6, some 7, some 8, some 9, some 10, some 11] T hβ ⟨(5, m), hm, rfl, rfl, rfl⟩
 refine C.skip (C.nx (C.seq (C.seq (U.start ?_))))
 refine U.pd 7 T (C.nx ?_)
 refine C.ite rfl hm (fun hb12 hm => ?_) (fun hb12 hm => ?_)
 refine C.seq (U.start ?_)
 refine U.pd 1 T (C.nx (C.ret (C.rt ?_)))
 exact C.g1 [some 0, some 1, some 2, some 3, some 4, some 5, some 6, some 7, some 8, some 9, some 10, some 11, some 1, some 2, some 3, some 4, some 5, some 6, some 7, some 8, some 9, some 10, some 11] T hβ ⟨(6, m), hm, rfl, rfl, rfl⟩
 refine C.skip (C.nx (C.seq (C.seq (U.start ?_))))
 refine U.pd 4 T (C.nx ?_)
 refine C.jn (fun (x17 : Unit) => [(0, .p 0 0), (3, .p 12 0)]) (fun (x17 : Unit) => [(0, .box [.i m.site.Floor.W, .i m.site.Floor.H, .i m.site.Floor.D, .sl 1 eI m.site.Floor.Kind, .sl 1 eI m.site.Floor.Out, .o 1, .o 2, .o 3, .o 4, .o 5, .o 6, .o 7, .o 8, .o 9, .o 10, .o 11]), (1, .val (.os 5 eApiZone m.site.Zones)), (2, .val (.os 2 eApiApart m.site.Aparts)), (3, .val (.os 2 eApiShelf m.site.Shelves)), (4, .val (.os 2 eApiStart m.site.Robots)), (5, .val (.om kI veI m.shelf)), (6, .val (.om kI veB m.robot)), (7, .val (.om kI veB m.zoned)), (8, .val (.om kS veI m.names)), (9, .val (.om kI veB m.oneways)), (10, .val (.os 1 eI m.shelves)), (11, .val (.os 1 eI m.zones)), (12, .box (eApiZone z))]) 13 hm (fun x17 hm => ?_) (fun J18 hm hJ18 => ?_)
 refine C.nx (C.seq (C.seq (U.start ?_)))
 refine U.pd 4 T (C.nx ?_)
 refine C.jn (fun (x41 : List (Int × Bool)) => [(0, .p 0 0), (3, .p 12 0)]) (fun (x41 : List (Int × Bool)) => [(0, .box [.i m.site.Floor.W, .i m.site.Floor.H, .i m.site.Floor.D, .sl 1 eI m.site.Floor.Kind, .sl 1 eI m.site.Floor.Out, .o 1, .o 2, .o 3, .o 4, .o 5, .o 6, .o 7, .o 8, .o 9, .o 10, .o 11]), (1, .val (.os 5 eApiZone m.site.Zones)), (2, .val (.os 2 eApiApart m.site.Aparts)), (3, .val (.os 2 eApiShelf m.site.Shelves)), (4, .val (.os 2 eApiStart m.site.Robots)), (5, .val (.om kI veI m.shelf)), (6, .val (.om kI veB m.robot)), (7, .val (.om kI veB x41)), (8, .val (.om kS veI m.names)), (9, .val (.om kI veB m.oneways)), (10, .val (.os 1 eI m.shelves)), (11, .val (.os 1 eI m.zones)), (12, .box (eApiZone z))]) 13 hm (fun x41 hm => ?_) (fun J42 hm hJ42 => ?_)
 refine C.nx (C.seq ?_)
 refine D.beg 12 [0, 12] [] mix rfl rfl (by kernel_rfl) (by repeat (first | exact NoPanicQ.body | exact NoPanicQ.rnd | refine NoPanicQ.th ?_ | refine NoPanicQ.blk ?_ | refine NoPanicQ.ng ?_)) (fun hQ hS ws M' => ?_)
 refine D.ps 12 [(0, []), (1, []), (2, []), (3, []), (4, []), (5, []), (6, []), (7, []), (8, []), (9, []), (10, []), (11, [])] rfl hQ hS T rfl rfl (by kernel_rfl) ?_
 refine D.ze1 rfl (.none rfl) (by exact Eff1.mu T (x := z.Name) (y := (m.site.Zones.length : Int)) (.inl rfl) rfl kt9 (fun _ => rfl) rfl rfl rfl rfl rfl (.inl rfl) rfl) (by kernel_rfl) (by kernel_rfl) ?_
 refine C.nx (C.seq ?_)
 refine D.beg 12 [0, 12] [1] mix rfl rfl (by kernel_rfl) (by repeat (first | exact NoPanicQ.body | exact NoPanicQ.rnd | refine NoPanicQ.th ?_ | refine NoPanicQ.blk ?_ | refine NoPanicQ.ng ?_)) (fun hQ hS ws M' => ?_)
 refine D.ps 7 [(0, []), (1, []), (2, []), (3, []), (4, []), (5, []), (6, [])] rfl hQ hS T rfl rfl (by kernel_rfl) ?_
 refine D.e1 7 rfl (.none rfl) (by exact Eff1.bs T (enc := eApiZone) (xs := ([z] : List ApiZone)) rfl rfl rfl rfl rfl rfl rfl rfl rfl rfl (fun _ _ => rfl) rfl rfl) (by kernel_rfl) rfl rfl ?_
 obtain ⟨hx59, hm⟩ := hm
 refine D.e1 8 rfl (.none rfl) (by exact Eff1.ap T rfl rfl rfl rfl rfl rfl (.inr ⟨_, rfl, rfl⟩) rfl rfl rfl (fun _ => rfl) rfl hx59) (by kernel_rfl) rfl rfl ?_
 refine D.ps 3 [(9, [11, 10]), (10, [11]), (11, [])] rfl hQ hS T rfl rfl (by kernel_rfl) ?_
 refine D.ze1 rfl (.none rfl) (by exact Eff1.st T rfl rfl rfl rfl rfl rfl rfl rfl rfl rfl) (by kernel_rfl) (by kernel_rfl) ?_
 refine C.nx (C.seq (U.start ?_))
 refine U.pd 1 T (C.nx (C.ret ?_))
 exact C.g1 [some 0, some 1, some 2, some 3, some 4, some 5, some 6, some 7, some 8, some 9, some 10, some 11, some 14, some 2, some 3, some 4, some 5, some 6, some 7, some 8, some 9, some 10, some 11] T hβ ⟨(0, ({ site := ({ Floor := m.site.Floor, Zones := (m.site.Zones ++ ([z] : List ApiZone)), Aparts := m.site.Aparts, Shelves := m.site.Shelves, Robots := m.site.Robots : ApiSite }), shelf := m.shelf, robot := m.robot, zoned := x41, names := (upd m.names z.Name (m.site.Zones.length : Int)), oneways := m.oneways, shelves := m.shelves, zones := m.zones : SurveyMaker })), hm, rfl, rfl, rfl⟩
 refine C.block ?_
 refine St.wk (C.loop (fun (s43 : List (Int × Bool) × Int) => [(0, .p 0 0), (3, .p 12 0), (57, .sl 1 eI z.Cells), (58, .i (z.Cells.length : Int)), (59, .i s43.2)]) (fun (s43 : List (Int × Bool) × Int) => [(0, .box [.i m.site.Floor.W, .i m.site.Floor.H, .i m.site.Floor.D, .sl 1 eI m.site.Floor.Kind, .sl 1 eI m.site.Floor.Out, .o 1, .o 2, .o 3, .o 4, .o 5, .o 6, .o 7, .o 8, .o 9, .o 10, .o 11]), (1, .val (.os 5 eApiZone m.site.Zones)), (2, .val (.os 2 eApiApart m.site.Aparts)), (3, .val (.os 2 eApiShelf m.site.Shelves)), (4, .val (.os 2 eApiStart m.site.Robots)), (5, .val (.om kI veI m.shelf)), (6, .val (.om kI veB m.robot)), (7, .val (.om kI veB s43.1)), (8, .val (.om kS veI m.names)), (9, .val (.om kI veB m.oneways)), (10, .val (.os 1 eI m.shelves)), (11, .val (.os 1 eI m.zones)), (12, .box (eApiZone z))]) hm (fun s43 Y44 hm => ?_)) (Wk.a (idR 13))
 refine C.seq (U.start ?_)
 refine U.pd 1 T (C.nx (C.seq ?_))
 refine C.ite rfl hm (fun hb47 hm => ?_) (fun hb47 hm => ?_)
 refine C.skip (C.nx (C.seq (C.block (C.seq (U.start ?_)))))
 obtain ⟨x50, hx50, hm⟩ := hm
 refine U.r rfl (.none rfl) rfl rfl (by exact Rd.ix T rfl rfl rfl rfl rfl rfl hx50) ?_
 refine U.pd 2 T (C.nx (U.start ?_))
 refine U.ps 5 T rfl ?_
 refine U.e1 rfl (.none rfl) (by exact Eff1.mu T (x := x50) (y := true) (.inl rfl) rfl kt3 (fun _ => rfl) rfl rfl rfl rfl rfl (.inl rfl) rfl) ?_
 refine U.done (C.bnx (C.nx (U.start ?_)))
 refine U.pd 2 T (C.nx ?_)
 exact St.wk (C.next hm) (Wk.a (idR 13))
 refine C.exit (C.ex (C.ex (C.bex ?_)))
 exact St.wa (idR 13) (hJ42 _ hm)
 refine C.block ?_
 refine St.wk (C.loop (fun (s19 : Int) => [(0, .p 0 0), (3, .p 12 0), (32, .sl 1 eI z.Cells), (33, .i (z.Cells.length : Int)), (34, .i s19)]) (fun (s19 : Int) => [(0, .box [.i m.site.Floor.W, .i m.site.Floor.H, .i m.site.Floor.D, .sl 1 eI m.site.Floor.Kind, .sl 1 eI m.site.Floor.Out, .o 1, .o 2, .o 3, .o 4, .o 5, .o 6, .o 7, .o 8, .o 9, .o 10, .o 11]), (1, .val (.os 5 eApiZone m.site.Zones)), (2, .val (.os 2 eApiApart m.site.Aparts)), (3, .val (.os 2 eApiShelf m.site.Shelves)), (4, .val (.os 2 eApiStart m.site.Robots)), (5, .val (.om kI veI m.shelf)), (6, .val (.om kI veB m.robot)), (7, .val (.om kI veB m.zoned)), (8, .val (.om kS veI m.names)), (9, .val (.om kI veB m.oneways)), (10, .val (.os 1 eI m.shelves)), (11, .val (.os 1 eI m.zones)), (12, .box (eApiZone z))]) hm (fun s19 Y20 hm => ?_)) (Wk.a (idR 13))
 refine C.seq (U.start ?_)
 refine U.pd 1 T (C.nx (C.seq ?_))
 refine C.ite rfl hm (fun hb23 hm => ?_) (fun hb23 hm => ?_)
 refine C.skip (C.nx (C.seq (C.block (C.seq (U.start ?_)))))
 obtain ⟨x26, hx26, hm⟩ := hm
 refine U.r rfl (.none rfl) rfl rfl (by exact Rd.ix T rfl rfl rfl rfl rfl rfl hx26) ?_
 refine U.pd 2 T (C.nx (C.seq (U.start ?_)))
 refine U.ps 2 T rfl ?_
 refine U.k (T_survey_maker_kindAt m x26 _ hm) en138 (fun x29 hm => ?_)
 refine U.pd 5 T (C.nx (C.seq ?_))
 refine C.jn (fun (x30 : Bool) => [(0, .p 0 0), (3, .p 12 0), (32, .sl 1 eI z.Cells), (33, .i (z.Cells.length : Int)), (34, .i s19), (54, .b x30)]) (fun (x30 : Bool) => [(0, .box [.i m.site.Floor.W, .i m.site.Floor.H, .i m.site.Floor.D, .sl 1 eI m.site.Floor.Kind, .sl 1 eI m.site.Floor.Out, .o 1, .o 2, .o 3, .o 4, .o 5, .o 6, .o 7, .o 8, .o 9, .o 10, .o 11]), (1, .val (.os 5 eApiZone m.site.Zones)), (2, .val (.os 2 eApiApart m.site.Aparts)), (3, .val (.os 2 eApiShelf m.site.Shelves)), (4, .val (.os 2 eApiStart m.site.Robots)), (5, .val (.om kI veI m.shelf)), (6, .val (.om kI veB m.robot)), (7, .val (.om kI veB m.zoned)), (8, .val (.om kS veI m.names)), (9, .val (.om kI veB m.oneways)), (10, .val (.os 1 eI m.shelves)), (11, .val (.os 1 eI m.zones)), (12, .box (eApiZone z))]) 13 hm (fun x30 hm => ?_) (fun J31 hm hJ31 => ?_)
 refine C.nx ?_
 refine C.ite rfl hm (fun hb34 hm => ?_) (fun hb34 hm => ?_)
 refine C.seq (U.start ?_)
 refine U.pd 1 T (C.nx (C.ret (C.brt (C.rt (C.rt (C.brt (C.rt ?_)))))))
 exact C.g1 [some 0, some 1, some 2, some 3, some 4, some 5, some 6, some 7, some 8, some 9, some 10, some 11, some 1, some 2, some 3, some 4, some 5, some 6, some 7, some 8, some 9, some 10, some 11] T hβ ⟨(13, m), hm, rfl, rfl, rfl⟩
 refine C.skip (C.bnx (C.nx (U.start ?_)))
 refine U.pd 2 T (C.nx ?_)
 exact St.wk (C.next hm) (Wk.a (idR 13))
 refine U.start ?_
 refine U.ps 1 T rfl ?_
 refine U.k (T_survey_zoned x29.1 _ hm) en139 (fun x32 hm => ?_)
 refine U.ps 2 T rfl ?_
 refine hm.cs (fun hb33 hm => ?_) (fun hb33 hm => ?_)
 refine U.pg 5 3 false 47 (ntF hb33) T rfl rfl rfl rfl ?_
 refine U.r rfl (.take 3 false 47 _ (ntF hb33) rfl rfl rfl) rfl rfl (by exact Rd.lk T (ke := kI) (ve := veB) (xs := m.zoned) (z0 := false) (x := x26) rfl rfl kt3 zt4 (fun _ => rfl) rfl (.o rfl) rfl rfl rfl) ?_
 refine U.r rfl (.none rfl) rfl rfl (by exact Rd.pk' rfl rfl (ntF hb33) rfl) ?_
 refine U.done ?_
 exact St.wa (idR 13) (hJ31 _ hm)
 refine U.sks 6 3 false 47 (ntT hb33) rfl rfl rfl ?_
 refine U.r rfl (.none rfl) rfl rfl (by exact Rd.pk rfl rfl (ntT hb33) rfl) ?_
 refine U.done ?_
 exact St.wa (idR 13) (hJ31 _ hm)
 refine C.exit (C.ex (C.ex (C.bex ?_)))
 exact St.wa (idR 13) (hJ18 _ hm)
theorem T_slices_Index_api_Apart_api_Apart (s_1 : List ApiApart) (v : ApiApart) (post : Int → Prop) (hm : V_slices_Index_api_Apart_api_Apart s_1 v post) :
    Tr Tryz.prog 221 [.sl 2 eApiApart s_1, .agg [.v (.string v.A), .v (.string v.B)]] [] 0 (fun A H' k => ∃ y, post y ∧ A = (.i y) ∧ H' = [] ∧ k = 0) := by
 refine Tr.intro (n := 19) Tryz.func221 rfl Tryz.ntmps221 rfl (fun w0 ok F β hβ => ?_)
 unfold V_slices_Index_api_Apart_api_Apart at hm
 refine C.seq (U.start ?_)
 refine U.bx ?_
 refine U.pd 1 T (C.nx (C.seq (C.seq (U.start ?_))))
 refine U.pd 3 T (C.nx ?_)
 refine C.jn (fun (x5 : Unit) => []) (fun (x5 : Unit) => []) 0 hm (fun x5 hm => ?_) (fun J6 hm hJ6 => ?_)
 refine C.nx (C.seq (U.start ?_))
 refine U.pd 1 T (C.nx (C.ret ?_))
 exact C.f1 T hβ ⟨(-1), hm, rfl, rfl, rfl⟩
 refine C.block ?_
 refine St.wk (C.loop (fun (s7 : Int) => [(0, .sl 2 eApiApart s_1), (3, .p 0 0), (7, .i (s_1.length : Int)), (8, .i s7)]) (fun (s7 : Int) => [(0, .box [.v (.string v.A), .v (.string v.B)])]) hm (fun s7 Y8 hm => ?_)) (Wk.a [some 0])
 refine C.seq (U.start ?_)
 refine U.pd 1 T (C.nx (C.seq ?_))
 refine C.ite rfl hm (fun hb11 hm => ?_) (fun hb11 hm => ?_)
 refine C.skip (C.nx (C.seq (C.block (C.seq (U.start ?_)))))
 refine U.pd 2 T (C.nx (C.seq ?_))
 refine D.beg 9999 [0] [] mix rfl rfl (by kernel_rfl) (by repeat (first | exact NoPanicQ.body | exact NoPanicQ.rnd | refine NoPanicQ.th ?_ | refine NoPanicQ.blk ?_ | refine NoPanicQ.ng ?_)) (fun hQ hS ws M' => ?_)
 refine D.ps 3 [(0, []), (1, []), (2, [])] rfl hQ hS T rfl rfl (by kernel_rfl) ?_
 obtain ⟨x16, hx16, hm⟩ := hm
 refine D.q 3 [] hQ hS rfl (.none rfl) rfl rfl (by exact Rd.ix T rfl rfl rfl rfl rfl rfl hx16) rfl (by kernel_rfl) ?_
 refine D.ps 1 [(4, [])] rfl hQ hS T rfl rfl (by kernel_rfl) ?_
 refine D.q 5 [] hQ hS rfl (.none rfl) rfl rfl (by exact Rd.eqs T rfl rfl eqt88 rfl rfl rfl) rfl (by kernel_rfl) ?_
 refine D.done (by kernel_rfl) ?_
 refine C.nx ?_
 refine C.ite rfl hm (fun hb17 hm => ?_) (fun hb17 hm => ?_)
 refine C.seq (U.start ?_)
 refine U.pd 2 T (C.nx (C.ret (C.brt (C.rt (C.rt (C.brt (C.rt ?_)))))))
 exact C.f1 T hβ ⟨s7, hm, rfl, rfl, rfl⟩
 refine C.skip (C.bnx (C.nx (U.start ?_)))
 refine U.pd 2 T (C.nx ?_)
 exact St.wk (C.next hm) (Wk.a [some 0])
 refine C.exit (C.ex (C.ex (C.bex ?_)))
 exact St.wk (hJ6 _ hm) (Wk.mk' [] rfl rfl trivial trivial rfl)
theorem T_slices_Contains_api_Apart_api_Apart (s_1 : List ApiApart) (v : ApiApart) (post : Bool → Prop) (hm : V_slices_Contains_api_Apart_api_Apart s_1 v post) :
    Tr Tryz.prog 199 [.sl 2 eApiApart s_1, .agg [.v (.string v.A), .v (.string v.B)]] [] 0 (fun A H' k => ∃ y, post y ∧ A = (.b y) ∧ H' = [] ∧ k = 0) := by
 refine Tr.intro (n := 9) Tryz.func199 rfl Tryz.ntmps199 rfl (fun w0 ok F β hβ => ?_)
 unfold V_slices_Contains_api_Apart_api_Apart at hm
 refine C.seq (U.start ?_)
 refine U.bx ?_
 refine U.pd 1 T (C.nx (C.seq (U.start ?_)))
 refine U.ps 2 T rfl ?_
 refine U.k (T_slices_Index_api_Apart_api_Apart s_1 v _ hm) en221 (fun x5 hm => ?_)
 refine U.pd 2 T (C.nx (C.ret ?_))
 exact C.f1 T hβ ⟨decide (x5 ≥ 0), hm, rfl, rfl, rfl⟩
theorem T_survey_Apart (l : List ApiApart) (a : ByteArray) (b : ByteArray) (post : Bool → Prop) (hm : V_survey_Apart l a b post) :
    Tr Tryz.prog 140 [.sl 2 eApiApart l, .v (.string a), .v (.string b)] [] 0 (fun A H' k => ∃ y, post y ∧ A = (.b y) ∧ H' = [] ∧ k = 0) := by
 refine Tr.intro (n := 25) Tryz.func140 rfl Tryz.ntmps140 rfl (fun w0 ok F β hβ => ?_)
 unfold V_survey_Apart at hm
 refine C.seq (U.start ?_)
 refine U.pd 1 T (C.nx (C.seq (C.seq ?_)))
 refine C.jn (fun (x3 : Bool) => [(0, .sl 2 eApiApart l), (1, .v (.string a)), (2, .v (.string b)), (12, .b x3)]) (fun (x3 : Bool) => []) 0 hm (fun x3 hm => ?_) (fun J4 hm hJ4 => ?_)
 refine C.nx ?_
 refine C.ite rfl hm (fun hb6 hm => ?_) (fun hb6 hm => ?_)
 refine C.seq (U.start ?_)
 refine U.pd 1 T (C.nx (C.ret (C.rt ?_)))
 exact C.f1 T hβ ⟨false, hm, rfl, rfl, rfl⟩
 refine C.skip (C.nx (C.seq ?_))
 refine C.jn (fun (x9 : Bool) => [(6, .b x9)]) (fun (x9 : Bool) => []) 0 hm (fun x9 hm => ?_) (fun J10 hm hJ10 => ?_)
 refine C.nx (C.ret ?_)
 exact C.f1 T hβ ⟨x9, hm, rfl, rfl, rfl⟩
 refine U.start ?_
 refine U.ps 4 T rfl ?_
 refine U.k (T_slices_Contains_api_Apart_api_Apart l ({ A := a, B := b : ApiApart }) _ hm) en199 (fun x11 hm => ?_)
 refine U.ps 1 T rfl ?_
 refine hm.cs (fun hb12 hm => ?_) (fun hb12 hm => ?_)
 refine U.sks 5 5 false 18 hb12 rfl rfl rfl ?_
 refine U.pk hb12 ?_
 refine U.pd 1 T ?_
 exact St.wn (hJ10 _ hm)
 refine U.pg 4 5 false 18 hb12 T rfl rfl rfl rfl ?_
 refine U.k (T_slices_Contains_api_Apart_api_Apart l ({ A := b, B := a : ApiApart }) _ hm) en199 (fun x13 hm => ?_) (hw := .take 5 false 18 _ hb12 rfl rfl rfl)
 refine U.pk' hb12 ?_
 refine U.pd 1 T ?_
 exact St.wn (hJ10 _ hm)
 refine U.start ?_
 refine U.ps 3 T rfl ?_
 refine hm.cs (fun hb5 hm => ?_) (fun hb5 hm => ?_)
 refine U.sks 2 2 false 9 hb5 rfl rfl rfl ?_
 refine U.pk hb5 ?_
 refine U.done ?_
 exact St.wn (hJ4 _ hm)
 refine U.pg 2 2 false 9 hb5 T rfl rfl rfl rfl ?_
 refine U.pk' hb5 ?_
 refine U.done ?_
 exact St.wn (hJ4 _ hm)
theorem T_survey_maker_addApart__p0 (x_1 : ApiApart) (m : SurveyMaker) (post : (Int × SurveyMaker) → Prop) (hm : V_survey_maker_addApart__p0 x_1 m post) :
    Tr Tryz.prog 66 [.p 0 0, .agg [.v (.string x_1.A), .v (.string x_1.B)]] [(0, .box [.i m.site.Floor.W, .i m.site.Floor.H, .i m.site.Floor.D, .sl 1 eI m.site.Floor.Kind, .sl 1 eI m.site.Floor.Out, .o 1, .o 2, .o 3, .o 4, .o 5, .o 6, .o 7, .o 8, .o 9, .o 10, .o 11]), (1, .val (.os 5 eApiZone m.site.Zones)), (2, .val (.os 2 eApiApart m.site.Aparts)), (3, .val (.os 2 eApiShelf m.site.Shelves)), (4, .val (.os 2 eApiStart m.site.Robots)), (5, .val (.om kI veI m.shelf)), (6, .val (.om kI veB m.robot)), (7, .val (.om kI veB m.zoned)), (8, .val (.om kS veI m.names)), (9, .val (.om kI veB m.oneways)), (10, .val (.os 1 eI m.shelves)), (11, .val (.os 1 eI m.zones))] 12 (fun A H' k => ∃ y, post y ∧ A = (.i y.1) ∧ H' = [(0, .box [.i y.2.site.Floor.W, .i y.2.site.Floor.H, .i y.2.site.Floor.D, .sl 1 eI y.2.site.Floor.Kind, .sl 1 eI y.2.site.Floor.Out, .o 12, .o 13, .o 14, .o 15, .o 16, .o 17, .o 18, .o 19, .o 20, .o 21, .o 22]), (12, .val (.os 5 eApiZone y.2.site.Zones)), (13, .val (.os 2 eApiApart y.2.site.Aparts)), (14, .val (.os 2 eApiShelf y.2.site.Shelves)), (15, .val (.os 2 eApiStart y.2.site.Robots)), (16, .val (.om kI veI y.2.shelf)), (17, .val (.om kI veB y.2.robot)), (18, .val (.om kI veB y.2.zoned)), (19, .val (.om kS veI y.2.names)), (20, .val (.om kI veB y.2.oneways)), (21, .val (.os 1 eI y.2.shelves)), (22, .val (.os 1 eI y.2.zones))] ∧ k = 23) := by
 refine Tr.intro (n := 37) Tryz.func66 rfl Tryz.ntmps66 rfl (fun w0 ok F β hβ => ?_)
 unfold V_survey_maker_addApart__p0 at hm
 refine C.seq (U.start ?_)
 refine U.bx ?_
 refine U.pd 1 T (C.nx (C.seq (C.seq ?_)))
 refine C.jn (fun (x3 : Bool) => [(0, .p 0 0), (3, .p 12 0), (14, .b x3)]) (fun (x3 : Bool) => [(0, .box [.i m.site.Floor.W, .i m.site.Floor.H, .i m.site.Floor.D, .sl 1 eI m.site.Floor.Kind, .sl 1 eI m.site.Floor.Out, .o 1, .o 2, .o 3, .o 4, .o 5, .o 6, .o 7, .o 8, .o 9, .o 10, .o 11]), (1, .val (.os 5 eApiZone m.site.Zones)), (2, .val (.os 2 eApiApart m.site.Aparts)), (3, .val (.os 2 eApiShelf m.site.Shelves)), (4, .val (.os 2 eApiStart m.site.Robots)), (5, .val (.om kI veI m.shelf)), (6, .val (.om kI veB m.robot)), (7, .val (.om kI veB m.zoned)), (8, .val (.om kS veI m.names)), (9, .val (.om kI veB m.oneways)), (10, .val (.os 1 eI m.shelves)), (11, .val (.os 1 eI m.zones)), (12, .box [.v (.string x_1.A), .v (.string x_1.B)])]) 13 hm (fun x3 hm => ?_) (fun J4 hm hJ4 => ?_)
 refine C.nx ?_
 refine C.ite rfl hm (fun hb8 hm => ?_) (fun hb8 hm => ?_)
 refine C.seq (U.start ?_)
 refine U.pd 1 T (C.nx (C.ret (C.rt ?_)))
 exact C.g1 [some 0, some 1, some 2, some 3, some 4, some 5, some 6, some 7, some 8, some 9, some 10, some 11, some 1, some 2, some 3, some 4, some 5, some 6, some 7, some 8, some 9, some 10, some 11] T hβ ⟨(12, m), hm, rfl, rfl, rfl⟩
 refine C.skip (C.nx (C.seq (C.seq ?_)))
 refine D.beg 9 [0, 12] [] mix rfl rfl (by kernel_rfl) (by repeat (first | exact NoPanicQ.body | exact NoPanicQ.rnd | refine NoPanicQ.th ?_ | refine NoPanicQ.blk ?_ | refine NoPanicQ.ng ?_)) (fun hQ hS ws M' => ?_)
 refine D.ps 9 [(0, [4, 3, 2, 1]), (1, [4, 3, 2]), (2, [4, 3]), (3, [4]), (4, []), (5, [6]), (6, []), (7, [8]), (8, [])] rfl hQ hS T rfl rfl (by kernel_rfl) ?_
 refine D.ze rfl (.none rfl) (by exact Eff.k (T_survey_Apart m.site.Aparts x_1.A x_1.B _ hm) en140 rfl rfl rfl (.cons (.fz rfl rfl rfl (.os fun _ => .cons (.ro rfl) (.cons (.ro rfl) .nil))) (.eq rfl)) (fun _ _ => ⟨(.v _), trivial⟩)) (by kernel_rfl) (by kernel_rfl) (fun x13' hm => ?_)
 obtain ⟨x13⟩ := x13'
 refine C.nx ?_
 refine C.ite rfl hm (fun hb14 hm => ?_) (fun hb14 hm => ?_)
 refine C.seq (U.start ?_)
 refine U.pd 1 T (C.nx (C.ret (C.rt ?_)))
 exact C.g1 [some 0, some 1, some 2, some 3, some 4, some 5, some 6, some 7, some 8, some 9, some 10, some 11, some 1, some 2, some 3, some 4, some 5, some 6, some 7, some 8, some 9, some 10, some 11] T hβ ⟨(5, m), hm, rfl, rfl, rfl⟩
 refine C.skip (C.nx (C.seq ?_))
 refine D.beg 12 [0, 12] [2] mix rfl rfl (by kernel_rfl) (by repeat (first | exact NoPanicQ.body | exact NoPanicQ.rnd | refine NoPanicQ.th ?_ | refine NoPanicQ.blk ?_ | refine NoPanicQ.ng ?_)) (fun hQ hS ws M' => ?_)
 refine D.ps 7 [(0, []), (1, []), (2, []), (3, []), (4, []), (5, []), (6, [])] rfl hQ hS T rfl rfl (by kernel_rfl) ?_
 refine D.e1 7 rfl (.none rfl) (by exact Eff1.bs T (enc := eApiApart) (xs := ([x_1] : List ApiApart)) rfl rfl rfl rfl rfl rfl rfl rfl rfl rfl (fun _ _ => rfl) rfl rfl) (by kernel_rfl) rfl rfl ?_
 obtain ⟨hx19, hm⟩ := hm
 refine D.e1 8 rfl (.none rfl) (by exact Eff1.ap T rfl rfl rfl rfl rfl rfl (.inr ⟨_, rfl, rfl⟩) rfl rfl rfl (fun _ => rfl) rfl hx19) (by kernel_rfl) rfl rfl ?_
 refine D.ps 3 [(9, [11, 10]), (10, [11]), (11, [])] rfl hQ hS T rfl rfl (by kernel_rfl) ?_
 refine D.ze1 rfl (.none rfl) (by exact Eff1.st T rfl rfl rfl rfl rfl rfl rfl rfl rfl rfl) (by kernel_rfl) (by kernel_rfl) ?_
 refine C.nx (C.seq (U.start ?_))
 refine U.pd 1 T (C.nx (C.ret ?_))
 exact C.g1 [some 0, some 1, some 2, some 3, some 4, some 5, some 6, some 7, some 8, some 9, some 10, some 11, some 1, some 14, some 3, some 4, some 5, some 6, some 7, some 8, some 9, some 10, some 11] T hβ ⟨(0, ({ site := ({ Floor := m.site.Floor, Zones := m.site.Zones, Aparts := (m.site.Aparts ++ ([x_1] : List ApiApart)), Shelves := m.site.Shelves, Robots := m.site.Robots : ApiSite }), shelf := m.shelf, robot := m.robot, zoned := m.zoned, names := m.names, oneways := m.oneways, shelves := m.shelves, zones := m.zones : SurveyMaker })), hm, rfl, rfl, rfl⟩
 refine U.start ?_
 refine U.ps 2 T rfl ?_
 refine U.k (T_survey_Name x_1.A _ hm) en61 (fun x5 hm => ?_)
 refine U.ps 2 T rfl ?_
 refine hm.cs (fun hb6 hm => ?_) (fun hb6 hm => ?_)
 refine U.pg 2 4 false 9 (ntF hb6) T rfl rfl rfl rfl ?_
 refine U.k (T_survey_Name x_1.B _ hm) en61 (fun x7 hm => ?_) (hw := .take 4 false 9 _ (ntF hb6) rfl rfl rfl)
 refine U.pg 1 4 false 9 (ntF hb6) T rfl rfl rfl rfl ?_
 refine U.r rfl (.none rfl) rfl rfl (by exact Rd.pk' rfl rfl (ntF hb6) rfl) ?_
 refine U.done ?_
 exact St.wa (idR 13) (hJ4 _ hm)
 refine U.sks 4 4 false 9 (ntT hb6) rfl rfl rfl ?_
 refine U.r rfl (.none rfl) rfl rfl (by exact Rd.pk rfl rfl (ntT hb6) rfl) ?_
 refine U.done ?_
 exact St.wa (idR 13) (hJ4 _ hm)
theorem T_survey_stands (kind : Int) (post : Bool → Prop) (hm : V_survey_stands kind post) :
    Tr Tryz.prog 141 [.i kind] [] 0 (fun A H' k => ∃ y, post y ∧ A = (.b y) ∧ H' = [] ∧ k = 0) := by
 refine Tr.intro (n := 9) Tryz.func141 rfl Tryz.ntmps141 rfl (fun w0 ok F β hβ => ?_)
 unfold V_survey_stands at hm
 refine C.seq (U.start ?_)
 refine U.pd 1 T (C.nx (C.seq ?_))
 refine C.jn (fun (x3 : Bool) => [(2, .b x3)]) (fun (x3 : Bool) => []) 0 hm (fun x3 hm => ?_) (fun J4 hm hJ4 => ?_)
 refine C.nx (C.ret ?_)
 exact C.f1 T hβ ⟨x3, hm, rfl, rfl, rfl⟩
 refine U.start ?_
 refine U.ps 3 T rfl ?_
 refine hm.cs (fun hb5 hm => ?_) (fun hb5 hm => ?_)
 refine U.sks 2 2 false 5 hb5 rfl rfl rfl ?_
 refine U.pk hb5 ?_
 refine U.pd 1 T ?_
 exact St.wn (hJ4 _ hm)
 refine U.pg 2 2 false 5 hb5 T rfl rfl rfl rfl ?_
 refine U.pk' hb5 ?_
 refine U.pd 1 T ?_
 exact St.wn (hJ4 _ hm)
theorem T_survey_maker_addShelf__p0 (x_1 : ApiShelf) (m : SurveyMaker) (post : (Int × SurveyMaker) → Prop) (hm : V_survey_maker_addShelf__p0 x_1 m post) :
    Tr Tryz.prog 67 [.p 0 0, .agg [.i x_1.Cell, .v (.string x_1.Class)]] [(0, .box [.i m.site.Floor.W, .i m.site.Floor.H, .i m.site.Floor.D, .sl 1 eI m.site.Floor.Kind, .sl 1 eI m.site.Floor.Out, .o 1, .o 2, .o 3, .o 4, .o 5, .o 6, .o 7, .o 8, .o 9, .o 10, .o 11]), (1, .val (.os 5 eApiZone m.site.Zones)), (2, .val (.os 2 eApiApart m.site.Aparts)), (3, .val (.os 2 eApiShelf m.site.Shelves)), (4, .val (.os 2 eApiStart m.site.Robots)), (5, .val (.om kI veI m.shelf)), (6, .val (.om kI veB m.robot)), (7, .val (.om kI veB m.zoned)), (8, .val (.om kS veI m.names)), (9, .val (.om kI veB m.oneways)), (10, .val (.os 1 eI m.shelves)), (11, .val (.os 1 eI m.zones))] 12 (fun A H' k => ∃ y, post y ∧ A = (.i y.1) ∧ H' = [(0, .box [.i y.2.site.Floor.W, .i y.2.site.Floor.H, .i y.2.site.Floor.D, .sl 1 eI y.2.site.Floor.Kind, .sl 1 eI y.2.site.Floor.Out, .o 12, .o 13, .o 14, .o 15, .o 16, .o 17, .o 18, .o 19, .o 20, .o 21, .o 22]), (12, .val (.os 5 eApiZone y.2.site.Zones)), (13, .val (.os 2 eApiApart y.2.site.Aparts)), (14, .val (.os 2 eApiShelf y.2.site.Shelves)), (15, .val (.os 2 eApiStart y.2.site.Robots)), (16, .val (.om kI veI y.2.shelf)), (17, .val (.om kI veB y.2.robot)), (18, .val (.om kI veB y.2.zoned)), (19, .val (.om kS veI y.2.names)), (20, .val (.om kI veB y.2.oneways)), (21, .val (.os 1 eI y.2.shelves)), (22, .val (.os 1 eI y.2.zones))] ∧ k = 23) := by
 refine Tr.intro (n := 72) Tryz.func67 rfl Tryz.ntmps67 rfl (fun w0 ok F β hβ => ?_)
 unfold V_survey_maker_addShelf__p0 at hm
 refine C.seq (U.start ?_)
 refine U.bx ?_
 refine U.pd 1 T (C.nx (C.seq (C.seq ?_)))
 refine C.jn (fun (x3 : Bool) => [(0, .p 0 0), (3, .p 12 0), (17, .b x3)]) (fun (x3 : Bool) => [(0, .box [.i m.site.Floor.W, .i m.site.Floor.H, .i m.site.Floor.D, .sl 1 eI m.site.Floor.Kind, .sl 1 eI m.site.Floor.Out, .o 1, .o 2, .o 3, .o 4, .o 5, .o 6, .o 7, .o 8, .o 9, .o 10, .o 11]), (1, .val (.os 5 eApiZone m.site.Zones)), (2, .val (.os 2 eApiApart m.site.Aparts)), (3, .val (.os 2 eApiShelf m.site.Shelves)), (4, .val (.os 2 eApiStart m.site.Robots)), (5, .val (.om kI veI m.shelf)), (6, .val (.om kI veB m.robot)), (7, .val (.om kI veB m.zoned)), (8, .val (.om kS veI m.names)), (9, .val (.om kI veB m.oneways)), (10, .val (.os 1 eI m.shelves)), (11, .val (.os 1 eI m.zones)), (12, .box [.i x_1.Cell, .v (.string x_1.Class)])]) 13 hm (fun x3 hm => ?_) (fun J4 hm hJ4 => ?_)
 refine C.nx ?_
 refine C.ite rfl hm (fun hb7 hm => ?_) (fun hb7 hm => ?_)
 refine C.seq (U.start ?_)
 refine U.pd 1 T (C.nx (C.ret (C.rt ?_)))
 exact C.g1 [some 0, some 1, some 2, some 3, some 4, some 5, some 6, some 7, some 8, some 9, some 10, some 11, some 1, some 2, some 3, some 4, some 5, some 6, some 7, some 8, some 9, some 10, some 11] T hβ ⟨(12, m), hm, rfl, rfl, rfl⟩
 refine C.skip (C.nx (C.seq (U.start ?_)))
 refine U.ps 3 T rfl ?_
 refine U.k (T_survey_maker_kindAt m x_1.Cell _ hm) en138 (fun x12 hm => ?_)
 refine U.pd 5 T (C.nx (C.seq (C.seq (U.start ?_))))
 refine U.pd 2 T (C.nx ?_)
 refine C.ite rfl hm (fun hb15 hm => ?_) (fun hb15 hm => ?_)
 refine C.seq (U.start ?_)
 refine U.pd 1 T (C.nx (C.ret (C.rt ?_)))
 exact C.g1 [some 0, some 1, some 2, some 3, some 4, some 5, some 6, some 7, some 8, some 9, some 10, some 11, some 1, some 2, some 3, some 4, some 5, some 6, some 7, some 8, some 9, some 10, some 11] T hβ ⟨(3, m), hm, rfl, rfl, rfl⟩
 refine C.skip (C.nx (C.seq (C.seq (U.start ?_))))
 refine U.ps 1 T rfl ?_
 refine U.k (T_survey_stands x12.1 _ hm) en141 (fun x20 hm => ?_)
 refine U.pd 1 T (C.nx ?_)
 refine C.ite rfl hm (fun hb21 hm => ?_) (fun hb21 hm => ?_)
 refine C.seq (U.start ?_)
 refine U.pd 1 T (C.nx (C.ret (C.rt ?_)))
 exact C.g1 [some 0, some 1, some 2, some 3, some 4, some 5, some 6, some 7, some 8, some 9, some 10, some 11, some 1, some 2, some 3, some 4, some 5, some 6, some 7, some 8, some 9, some 10, some 11] T hβ ⟨(13, m), hm, rfl, rfl, rfl⟩
 refine C.skip (C.nx (C.seq (C.seq ?_)))
 refine D.beg 9999 [0, 5, 12] [] mix rfl rfl (by kernel_rfl) (by repeat (first | exact NoPanicQ.body | exact NoPanicQ.rnd | refine NoPanicQ.th ?_ | refine NoPanicQ.blk ?_ | refine NoPanicQ.ng ?_)) (fun hQ hS ws M' => ?_)
 refine D.ps 6 [(0, []), (1, []), (2, []), (3, []), (4, []), (5, [])] rfl hQ hS T rfl rfl (by kernel_rfl) ?_
 refine D.q 6 [] hQ hS rfl (.none rfl) rfl rfl (by exact Rd.lk2 T (ke := kI) (ve := veI) (xs := m.shelf) (z0 := 0) (x := x_1.Cell) rfl rfl kt3 zt3 (fun _ => rfl) rfl (.o rfl) rfl rfl rfl) rfl (by kernel_rfl) ?_
 refine D.ps 5 [(7, []), (8, []), (9, []), (10, []), (11, [])] rfl hQ hS T rfl rfl (by kernel_rfl) ?_
 refine D.done (by kernel_rfl) ?_
 refine C.nx (C.seq (U.start ?_))
 refine U.pd 1 T (C.nx ?_)
 refine C.ite rfl hm (fun hb28 hm => ?_) (fun hb28 hm => ?_)
 refine C.seq (U.start ?_)
 refine U.pd 1 T (C.nx (C.ret (C.rt ?_)))
 exact C.g1 [some 0, some 1, some 2, some 3, some 4, some 5, some 6, some 7, some 8, some 9, some 10, some 11, some 1, some 2, some 3, some 4, some 5, some 6, some 7, some 8, some 9, some 10, some 11] T hβ ⟨(5, m), hm, rfl, rfl, rfl⟩
 refine C.skip (C.nx (C.seq (C.seq (U.start ?_))))
 refine U.pd 7 T (C.nx ?_)
 refine C.ite rfl hm (fun hb33 hm => ?_) (fun hb33 hm => ?_)
 refine C.seq (U.start ?_)
 refine U.pd 1 T (C.nx (C.ret (C.rt ?_)))
 exact C.g1 [some 0, some 1, some 2, some 3, some 4, some 5, some 6, some 7, some 8, some 9, some 10, some 11, some 1, some 2, some 3, some 4, some 5, some 6, some 7, some 8, some 9, some 10, some 11] T hβ ⟨(6, m), hm, rfl, rfl, rfl⟩
 refine C.skip (C.nx (C.seq ?_))
 refine D.beg 12 [0, 12] [] mix rfl rfl (by kernel_rfl) (by repeat (first | exact NoPanicQ.body | exact NoPanicQ.rnd | refine NoPanicQ.th ?_ | refine NoPanicQ.blk ?_ | refine NoPanicQ.ng ?_)) (fun hQ hS ws M' => ?_)
 refine D.ps 12 [(0, []), (1, []), (2, []), (3, []), (4, []), (5, []), (6, []), (7, []), (8, []), (9, []), (10, []), (11, [])] rfl hQ hS T rfl rfl (by kernel_rfl) ?_
 refine D.ze1 rfl (.none rfl) (by exact Eff1.mu T (x := x_1.Cell) (y := (m.site.Shelves.length : Int)) (.inl rfl) rfl kt3 (fun _ => rfl) rfl rfl rfl rfl rfl (.inl rfl) rfl) (by kernel_rfl) (by kernel_rfl) ?_
 refine C.nx (C.seq ?_)
 refine D.beg 12 [0, 12] [3] mix rfl rfl (by kernel_rfl) (by repeat (first | exact NoPanicQ.body | exact NoPanicQ.rnd | refine NoPanicQ.th ?_ | refine NoPanicQ.blk ?_ | refine NoPanicQ.ng ?_)) (fun hQ hS ws M' => ?_)
 refine D.ps 7 [(0, []), (1, []), (2, []), (3, []), (4, []), (5, []), (6, [])] rfl hQ hS T rfl rfl (by kernel_rfl) ?_
 refine D.e1 7 rfl (.none rfl) (by exact Eff1.bs T (enc := eApiShelf) (xs := ([x_1] : List ApiShelf)) rfl rfl rfl rfl rfl rfl rfl rfl rfl rfl (fun _ _ => rfl) rfl rfl) (by kernel_rfl) rfl rfl ?_
 obtain ⟨hx40, hm⟩ := hm
 refine D.e1 8 rfl (.none rfl) (by exact Eff1.ap T rfl rfl rfl rfl rfl rfl (.inr ⟨_, rfl, rfl⟩) rfl rfl rfl (fun _ => rfl) rfl hx40) (by kernel_rfl) rfl rfl ?_
 refine D.ps 3 [(9, [11, 10]), (10, [11]), (11, [])] rfl hQ hS T rfl rfl (by kernel_rfl) ?_
 refine D.ze1 rfl (.none rfl) (by exact Eff1.st T rfl rfl rfl rfl rfl rfl rfl rfl rfl rfl) (by kernel_rfl) (by kernel_rfl) ?_
 refine C.nx (C.seq (U.start ?_))
 refine U.pd 1 T (C.nx (C.ret ?_))
 exact C.g1 [some 0, some 1, some 2, some 3, some 4, some 5, some 6, some 7, some 8, some 9, some 10, some 11, some 1, some 2, some 14, some 4, some 5, some 6, some 7, some 8, some 9, some 10, some 11] T hβ ⟨(0, ({ site := ({ Floor := m.site.Floor, Zones := m.site.Zones, Aparts := m.site.Aparts, Shelves := (m.site.Shelves ++ ([x_1] : List ApiShelf)), Robots := m.site.Robots : ApiSite }), shelf := (upd m.shelf x_1.Cell (m.site.Shelves.length : Int)), robot := m.robot, zoned := m.zoned, names := m.names, oneways := m.oneways, shelves := m.shelves, zones := m.zones : SurveyMaker })), hm, rfl, rfl, rfl⟩
 refine U.start ?_
 refine U.ps 4 T rfl ?_
 refine hm.cs (fun hb5 hm => ?_) (fun hb5 hm => ?_)
 refine U.sks 4 3 true 12 (ntF hb5) rfl rfl rfl ?_
 refine U.r rfl (.none rfl) rfl rfl (by exact Rd.pk' rfl rfl (ntF hb5) rfl) ?_
 refine U.done ?_
 exact St.wa (idR 13) (hJ4 _ hm)
 refine U.pg 2 3 true 12 (ntT hb5) T rfl rfl rfl rfl ?_
 refine U.k (T_survey_Name x_1.Class _ hm) en61 (fun x6 hm => ?_) (hw := .take 3 true 12 _ (ntT hb5) rfl rfl rfl)
 refine U.pg 1 3 true 12 (ntT hb5) T rfl rfl rfl rfl ?_
 refine U.r rfl (.none rfl) rfl rfl (by exact Rd.pk rfl rfl (ntT hb5) rfl) ?_
 refine U.done ?_
 exact St.wa (idR 13) (hJ4 _ hm)
theorem T_survey_maker_addRobot__p0 (x_1 : ApiStart) (m : SurveyMaker) (post : (Int × SurveyMaker) → Prop) (hm : V_survey_maker_addRobot__p0 x_1 m post) :
    Tr Tryz.prog 68 [.p 0 0, .agg [.i x_1.Cell, .i x_1.Charge]] [(0, .box [.i m.site.Floor.W, .i m.site.Floor.H, .i m.site.Floor.D, .sl 1 eI m.site.Floor.Kind, .sl 1 eI m.site.Floor.Out, .o 1, .o 2, .o 3, .o 4, .o 5, .o 6, .o 7, .o 8, .o 9, .o 10, .o 11]), (1, .val (.os 5 eApiZone m.site.Zones)), (2, .val (.os 2 eApiApart m.site.Aparts)), (3, .val (.os 2 eApiShelf m.site.Shelves)), (4, .val (.os 2 eApiStart m.site.Robots)), (5, .val (.om kI veI m.shelf)), (6, .val (.om kI veB m.robot)), (7, .val (.om kI veB m.zoned)), (8, .val (.om kS veI m.names)), (9, .val (.om kI veB m.oneways)), (10, .val (.os 1 eI m.shelves)), (11, .val (.os 1 eI m.zones))] 12 (fun A H' k => ∃ y, post y ∧ A = (.i y.1) ∧ H' = [(0, .box [.i y.2.site.Floor.W, .i y.2.site.Floor.H, .i y.2.site.Floor.D, .sl 1 eI y.2.site.Floor.Kind, .sl 1 eI y.2.site.Floor.Out, .o 12, .o 13, .o 14, .o 15, .o 16, .o 17, .o 18, .o 19, .o 20, .o 21, .o 22]), (12, .val (.os 5 eApiZone y.2.site.Zones)), (13, .val (.os 2 eApiApart y.2.site.Aparts)), (14, .val (.os 2 eApiShelf y.2.site.Shelves)), (15, .val (.os 2 eApiStart y.2.site.Robots)), (16, .val (.om kI veI y.2.shelf)), (17, .val (.om kI veB y.2.robot)), (18, .val (.om kI veB y.2.zoned)), (19, .val (.om kS veI y.2.names)), (20, .val (.om kI veB y.2.oneways)), (21, .val (.os 1 eI y.2.shelves)), (22, .val (.os 1 eI y.2.zones))] ∧ k = 23) := by
 refine Tr.intro (n := 56) Tryz.func68 rfl Tryz.ntmps68 rfl (fun w0 ok F β hβ => ?_)
 unfold V_survey_maker_addRobot__p0 at hm
 refine C.seq (U.start ?_)
 refine U.bx ?_
 refine U.pd 1 T (C.nx (C.seq (U.start ?_)))
 refine U.ps 3 T rfl ?_
 refine U.k (T_survey_maker_kindAt m x_1.Cell _ hm) en138 (fun x5 hm => ?_)
 refine U.pd 5 T (C.nx (C.seq (C.seq ?_)))
 refine C.jn (fun (x6 : Bool) => [(0, .p 0 0), (3, .p 12 0), (5, .i x5.1), (21, .b x6)]) (fun (x6 : Bool) => [(0, .box [.i m.site.Floor.W, .i m.site.Floor.H, .i m.site.Floor.D, .sl 1 eI m.site.Floor.Kind, .sl 1 eI m.site.Floor.Out, .o 1, .o 2, .o 3, .o 4, .o 5, .o 6, .o 7, .o 8, .o 9, .o 10, .o 11]), (1, .val (.os 5 eApiZone m.site.Zones)), (2, .val (.os 2 eApiApart m.site.Aparts)), (3, .val (.os 2 eApiShelf m.site.Shelves)), (4, .val (.os 2 eApiStart m.site.Robots)), (5, .val (.om kI veI m.shelf)), (6, .val (.om kI veB m.robot)), (7, .val (.om kI veB m.zoned)), (8, .val (.om kS veI m.names)), (9, .val (.om kI veB m.oneways)), (10, .val (.os 1 eI m.shelves)), (11, .val (.os 1 eI m.zones)), (12, .box [.i x_1.Cell, .i x_1.Charge])]) 13 hm (fun x6 hm => ?_) (fun J7 hm hJ7 => ?_)
 refine C.nx ?_
 refine C.ite rfl hm (fun hb10 hm => ?_) (fun hb10 hm => ?_)
 refine C.seq (U.start ?_)
 refine U.pd 1 T (C.nx (C.ret (C.rt ?_)))
 exact C.g1 [some 0, some 1, some 2, some 3, some 4, some 5, some 6, some 7, some 8, some 9, some 10, some 11, some 1, some 2, some 3, some 4, some 5, some 6, some 7, some 8, some 9, some 10, some 11] T hβ ⟨(3, m), hm, rfl, rfl, rfl⟩
 refine C.skip (C.nx (C.seq (C.seq (U.start ?_))))
 refine U.pd 2 T (C.nx ?_)
 refine C.ite rfl hm (fun hb15 hm => ?_) (fun hb15 hm => ?_)
 refine C.seq (U.start ?_)
 refine U.pd 1 T (C.nx (C.ret (C.rt ?_)))
 exact C.g1 [some 0, some 1, some 2, some 3, some 4, some 5, some 6, some 7, some 8, some 9, some 10, some 11, some 1, some 2, some 3, some 4, some 5, some 6, some 7, some 8, some 9, some 10, some 11] T hβ ⟨(13, m), hm, rfl, rfl, rfl⟩
 refine C.skip (C.nx (C.seq (C.seq ?_)))
 refine D.beg 9999 [0, 6, 12] [] mix rfl rfl (by kernel_rfl) (by repeat (first | exact NoPanicQ.body | exact NoPanicQ.rnd | refine NoPanicQ.th ?_ | refine NoPanicQ.blk ?_ | refine NoPanicQ.ng ?_)) (fun hQ hS ws M' => ?_)
 refine D.ps 6 [(0, []), (1, []), (2, []), (3, []), (4, []), (5, [])] rfl hQ hS T rfl rfl (by kernel_rfl) ?_
 refine D.q 6 [] hQ hS rfl (.none rfl) rfl rfl (by exact Rd.lk T (ke := kI) (ve := veB) (xs := m.robot) (z0 := false) (x := x_1.Cell) rfl rfl kt3 zt4 (fun _ => rfl) rfl (.o rfl) rfl rfl rfl) rfl (by kernel_rfl) ?_
 refine D.done (by kernel_rfl) ?_
 refine C.nx ?_
 refine C.ite rfl hm (fun hb20 hm => ?_) (fun hb20 hm => ?_)
 refine C.seq (U.start ?_)
 refine U.pd 1 T (C.nx (C.ret (C.rt ?_)))
 exact C.g1 [some 0, some 1, some 2, some 3, some 4, some 5, some 6, some 7, some 8, some 9, some 10, some 11, some 1, some 2, some 3, some 4, some 5, some 6, some 7, some 8, some 9, some 10, some 11] T hβ ⟨(5, m), hm, rfl, rfl, rfl⟩
 refine C.skip (C.nx (C.seq (C.seq (U.start ?_))))
 refine U.pd 7 T (C.nx ?_)
 refine C.ite rfl hm (fun hb25 hm => ?_) (fun hb25 hm => ?_)
 refine C.seq (U.start ?_)
 refine U.pd 1 T (C.nx (C.ret (C.rt ?_)))
 exact C.g1 [some 0, some 1, some 2, some 3, some 4, some 5, some 6, some 7, some 8, some 9, some 10, some 11, some 1, some 2, some 3, some 4, some 5, some 6, some 7, some 8, some 9, some 10, some 11] T hβ ⟨(6, m), hm, rfl, rfl, rfl⟩
 refine C.skip (C.nx (C.seq ?_))
 refine D.beg 6 [0, 12] [] mix rfl rfl (by kernel_rfl) (by repeat (first | exact NoPanicQ.body | exact NoPanicQ.rnd | refine NoPanicQ.th ?_ | refine NoPanicQ.blk ?_ | refine NoPanicQ.ng ?_)) (fun hQ hS ws M' => ?_)
 refine D.ps 6 [(0, []), (1, []), (2, []), (3, []), (4, []), (5, [])] rfl hQ hS T rfl rfl (by kernel_rfl) ?_
 refine D.ze1 rfl (.none rfl) (by exact Eff1.mu T (x := x_1.Cell) (y := true) (.inl rfl) rfl kt3 (fun _ => rfl) rfl rfl rfl rfl rfl (.inl rfl) rfl) (by kernel_rfl) (by kernel_rfl) ?_
 refine C.nx (C.seq ?_)
 refine D.beg 12 [0, 12] [4] mix rfl rfl (by kernel_rfl) (by repeat (first | exact NoPanicQ.body | exact NoPanicQ.rnd | refine NoPanicQ.th ?_ | refine NoPanicQ.blk ?_ | refine NoPanicQ.ng ?_)) (fun hQ hS ws M' => ?_)
 refine D.ps 7 [(0, []), (1, []), (2, []), (3, []), (4, []), (5, []), (6, [])] rfl hQ hS T rfl rfl (by kernel_rfl) ?_
 refine D.e1 7 rfl (.none rfl) (by exact Eff1.bs T (enc := eApiStart) (xs := ([x_1] : List ApiStart)) rfl rfl rfl rfl rfl rfl rfl rfl rfl rfl (fun _ _ => rfl) rfl rfl) (by kernel_rfl) rfl rfl ?_
 obtain ⟨hx32, hm⟩ := hm
 refine D.e1 8 rfl (.none rfl) (by exact Eff1.ap T rfl rfl rfl rfl rfl rfl (.inr ⟨_, rfl, rfl⟩) rfl rfl rfl (fun _ => rfl) rfl hx32) (by kernel_rfl) rfl rfl ?_
 refine D.ps 3 [(9, [11, 10]), (10, [11]), (11, [])] rfl hQ hS T rfl rfl (by kernel_rfl) ?_
 refine D.ze1 rfl (.none rfl) (by exact Eff1.st T rfl rfl rfl rfl rfl rfl rfl rfl rfl rfl) (by kernel_rfl) (by kernel_rfl) ?_
 refine C.nx (C.seq (U.start ?_))
 refine U.pd 1 T (C.nx (C.ret ?_))
 exact C.g1 [some 0, some 1, some 2, some 3, some 4, some 5, some 6, some 7, some 8, some 9, some 10, some 11, some 1, some 2, some 3, some 14, some 5, some 6, some 7, some 8, some 9, some 10, some 11] T hβ ⟨(0, ({ site := ({ Floor := m.site.Floor, Zones := m.site.Zones, Aparts := m.site.Aparts, Shelves := m.site.Shelves, Robots := (m.site.Robots ++ ([x_1] : List ApiStart)) : ApiSite }), shelf := m.shelf, robot := (upd m.robot x_1.Cell true), zoned := m.zoned, names := m.names, oneways := m.oneways, shelves := m.shelves, zones := m.zones : SurveyMaker })), hm, rfl, rfl, rfl⟩
 refine U.start ?_
 refine U.ps 3 T rfl ?_
 refine hm.cs (fun hb8 hm => ?_) (fun hb8 hm => ?_)
 refine U.pg 2 2 false 16 (ntF hb8) T rfl rfl rfl rfl ?_
 refine U.k (T_survey_within x_1.Charge 0 1000000 _ hm) en62 (fun x9 hm => ?_) (hw := .take 2 false 16 _ (ntF hb8) rfl rfl rfl)
 refine U.pg 1 2 false 16 (ntF hb8) T rfl rfl rfl rfl ?_
 refine U.r rfl (.none rfl) rfl rfl (by exact Rd.pk' rfl rfl (ntF hb8) rfl) ?_
 refine U.done ?_
 exact St.wa (idR 13) (hJ7 _ hm)
 refine U.sks 4 2 false 16 (ntT hb8) rfl rfl rfl ?_
 refine U.r rfl (.none rfl) rfl rfl (by exact Rd.pk rfl rfl (ntT hb8) rfl) ?_
 refine U.done ?_
 exact St.wa (idR 13) (hJ7 _ hm)
theorem T_survey_maker_beside (m : SurveyMaker) (post : Int → Prop) (hm : V_survey_maker_beside m post) :
    Tr Tryz.prog 69 [.rp [.i m.site.Floor.W, .i m.site.Floor.H, .i m.site.Floor.D, .sl 1 eI m.site.Floor.Kind, .sl 1 eI m.site.Floor.Out, .sl 5 eApiZone m.site.Zones, .sl 2 eApiApart m.site.Aparts, .sl 2 eApiShelf m.site.Shelves, .sl 2 eApiStart m.site.Robots, .rm kI veI m.shelf, .rm kI veB m.robot, .rm kI veB m.zoned, .rm kS veI m.names, .rm kI veB m.oneways, .sl 1 eI m.shelves, .sl 1 eI m.zones]] [] 0 (fun A H' k => ∃ y, post y ∧ A = (.i y) ∧ H' = [] ∧ k = 0) := by
 refine Tr.intro (n := 104) Tryz.func69 rfl Tryz.ntmps69 rfl (fun w0 ok F β hβ => ?_)
 unfold V_survey_maker_beside at hm
 refine C.seq (U.start ?_)
 refine U.pd 1 T (C.nx (C.seq (U.start ?_)))
 refine U.ps 5 T rfl ?_
 refine U.e1 rfl (.none rfl) (by exact Eff1.al T rfl rfl rfl rfl) ?_
 refine U.e1 rfl (.none rfl) (by exact Eff1.st T rfl rfl rfl rfl rfl rfl rfl rfl rfl rfl) ?_
 refine U.done (C.nx (C.seq (C.seq (U.start ?_))))
 refine U.pd 7 T (C.nx ?_)
 refine C.jn (fun (x7 : Unit) => []) (fun (x7 : Unit) => []) 0 hm (fun x7 hm => ?_) (fun J8 hm hJ8 => ?_)
 refine C.nx (C.seq (U.start ?_))
 refine U.pd 1 T (C.nx (C.ret ?_))
 exact C.f1 T hβ ⟨(-1), hm, rfl, rfl, rfl⟩
 refine C.block ?_
 refine St.wk (C.loop (fun (s9 : Int) => [(0, .rp [.i m.site.Floor.W, .i m.site.Floor.H, .i m.site.Floor.D, .sl 1 eI m.site.Floor.Kind, .sl 1 eI m.site.Floor.Out, .sl 5 eApiZone m.site.Zones, .sl 2 eApiApart m.site.Aparts, .sl 2 eApiShelf m.site.Shelves, .sl 2 eApiStart m.site.Robots, .rm kI veI m.shelf, .rm kI veB m.robot, .rm kI veB m.zoned, .rm kS veI m.names, .rm kI veB m.oneways, .sl 1 eI m.shelves, .sl 1 eI m.zones]), (3, .p 0 0), (22, .sl 2 eApiShelf m.site.Shelves), (23, .i (m.site.Shelves.length : Int)), (24, .i s9)]) (fun (s9 : Int) => [(0, .box (eApiFloor m.site.Floor))]) hm (fun s9 Y10 hm => ?_)) (Wk.a [some 0])
 refine C.seq (U.start ?_)
 refine U.pd 1 T (C.nx (C.seq ?_))
 refine C.ite rfl hm (fun hb13 hm => ?_) (fun hb13 hm => ?_)
 refine C.skip (C.nx (C.seq ?_))
 refine C.jn (fun (x14 : Unit) => [(0, .rp [.i m.site.Floor.W, .i m.site.Floor.H, .i m.site.Floor.D, .sl 1 eI m.site.Floor.Kind, .sl 1 eI m.site.Floor.Out, .sl 5 eApiZone m.site.Zones, .sl 2 eApiApart m.site.Aparts, .sl 2 eApiShelf m.site.Shelves, .sl 2 eApiStart m.site.Robots, .rm kI veI m.shelf, .rm kI veB m.robot, .rm kI veB m.zoned, .rm kS veI m.names, .rm kI veB m.oneways, .sl 1 eI m.shelves, .sl 1 eI m.zones]), (3, .p 0 0), (22, .sl 2 eApiShelf m.site.Shelves), (23, .i (m.site.Shelves.length : Int)), (24, .i s9)]) (fun (x14 : Unit) => [(0, .box (eApiFloor m.site.Floor))]) 1 hm (fun x14 hm => ?_) (fun J15 hm hJ15 => ?_)
 refine C.nx (U.start ?_)
 refine U.pd 2 T (C.nx ?_)
 exact St.wk (C.next hm) (Wk.a [some 0])
 refine C.block (C.seq (U.start ?_))
 refine U.ps 1 T rfl ?_
 obtain ⟨x18, hx18, hm⟩ := hm
 refine U.r rfl (.none rfl) rfl rfl (by exact Rd.ix T rfl rfl rfl rfl rfl rfl hx18) ?_
 refine U.ps 1 T rfl ?_
 refine U.e1 rfl (.none rfl) (by exact Eff1.al T rfl rfl rfl rfl) ?_
 refine U.ps 1 T rfl ?_
 refine U.e1 rfl (.none rfl) (by exact Eff1.st T rfl rfl rfl rfl rfl rfl rfl rfl rfl rfl) ?_
 refine U.done (C.nx (C.seq (U.start ?_)))
 refine U.ps 3 T rfl ?_
 refine U.k (T_floor_At m.site.Floor x18.Cell _ hm) en142 (fun x21 hm => ?_)
 refine U.pd 7 T (C.nx (C.seq ?_))
 refine D.beg 9999 [0] [] mix rfl rfl (by kernel_rfl) (by repeat (first | exact NoPanicQ.body | exact NoPanicQ.rnd | refine NoPanicQ.th ?_ | refine NoPanicQ.blk ?_ | refine NoPanicQ.ng ?_)) (fun hQ hS ws M' => ?_)
 refine D.ps 21 [(0, []), (1, []), (2, []), (3, []), (4, []), (6, []), (7, []), (8, []), (9, []), (10, []), (12, []), (13, []), (14, []), (15, []), (16, []), (18, []), (19, []), (20, []), (21, []), (22, []), (26, [])] rfl hQ hS T rfl rfl (by kernel_rfl) ?_
 refine D.k 5 (T_floor_Cell m.site.Floor (w64 (x21.1 + 1)) x21.2.1 x21.2.2 _ hm) en143 (fun x24 hm => ?_)
 refine D.k 11 (T_floor_Cell m.site.Floor x21.1 (w64 (x21.2.1 + 1)) x21.2.2 _ hm) en143 (fun x25 hm => ?_)
 refine D.k 17 (T_floor_Cell m.site.Floor (w64 (x21.1 - 1)) x21.2.1 x21.2.2 _ hm) en143 (fun x26 hm => ?_)
 refine D.k 23 (T_floor_Cell m.site.Floor x21.1 (w64 (x21.2.1 - 1)) x21.2.2 _ hm) en143 (fun x27 hm => ?_)
 refine D.e1 24 rfl (.none rfl) (by exact Eff1.bs T (enc := eI) (xs := ([x24, x25, x26, x27] : List Int)) rfl rfl rfl rfl rfl rfl rfl rfl rfl rfl (fun _ _ => rfl) rfl rfl) (by kernel_rfl) rfl rfl ?_
 refine D.ps 1 [(25, [])] rfl hQ hS T rfl rfl (by kernel_rfl) ?_
 refine D.done (by kernel_rfl) ?_
 refine C.nx ?_
 refine C.jn (fun (x28 : Unit) => [(0, .rp [.i m.site.Floor.W, .i m.site.Floor.H, .i m.site.Floor.D, .sl 1 eI m.site.Floor.Kind, .sl 1 eI m.site.Floor.Out, .sl 5 eApiZone m.site.Zones, .sl 2 eApiApart m.site.Aparts, .sl 2 eApiShelf m.site.Shelves, .sl 2 eApiStart m.site.Robots, .rm kI veI m.shelf, .rm kI veB m.robot, .rm kI veB m.zoned, .rm kS veI m.names, .rm kI veB m.oneways, .sl 1 eI m.shelves, .sl 1 eI m.zones]), (3, .p 0 0), (22, .sl 2 eApiShelf m.site.Shelves), (23, .i (m.site.Shelves.length : Int)), (24, .i s9)]) (fun (x28 : Unit) => [(0, .box (eApiFloor m.site.Floor))]) 1 hm (fun x28 hm => ?_) (fun J29 hm hJ29 => ?_)
 refine C.bnx ?_
 exact St.wa [some 0] (hJ15 _ hm)
 refine C.block ?_
 refine St.wk (C.loop (fun (s30 : Int) => [(0, .rp [.i m.site.Floor.W, .i m.site.Floor.H, .i m.site.Floor.D, .sl 1 eI m.site.Floor.Kind, .sl 1 eI m.site.Floor.Out, .sl 5 eApiZone m.site.Zones, .sl 2 eApiApart m.site.Aparts, .sl 2 eApiShelf m.site.Shelves, .sl 2 eApiStart m.site.Robots, .rm kI veI m.shelf, .rm kI veB m.robot, .rm kI veB m.zoned, .rm kS veI m.names, .rm kI veB m.oneways, .sl 1 eI m.shelves, .sl 1 eI m.zones]), (3, .p 0 0), (4, .i s9), (5, .p 1 0), (22, .sl 2 eApiShelf m.site.Shelves), (23, .i (m.site.Shelves.length : Int)), (24, .i s9), (61, .o 2), (62, .i (([x24, x25, x26, x27] : List Int).length : Int)), (63, .i s30)]) (fun (s30 : Int) => [(0, .box (eApiFloor m.site.Floor)), (1, .box [.i x18.Cell, .v (.string x18.Class)]), (2, .val (.os 1 eI ([x24, x25, x26, x27] : List Int)))]) hm (fun s30 Y31 hm => ?_)) (Wk.a (idR 3))
 refine C.seq (U.start ?_)
 refine U.pd 1 T (C.nx (C.seq ?_))
 refine C.ite rfl hm (fun hb34 hm => ?_) (fun hb34 hm => ?_)
 refine C.skip (C.nx (C.seq (C.block (C.seq (U.start ?_)))))
 obtain ⟨x37, hx37, hm⟩ := hm
 refine U.r rfl (.none rfl) rfl rfl (by exact Rd.io T rfl rfl rfl rfl rfl rfl rfl hx37) ?_
 refine U.r rfl (.none rfl) rfl rfl (by exact Rd.le T rfl rfl rfl (idx_some hx37).2.2 rfl rfl rfl) ?_
 refine U.pd 1 T (C.nx (C.seq (U.start ?_)))
 refine U.ps 5 T rfl ?_
 refine U.r rfl (.none rfl) rfl rfl (by exact Rd.lk2 T (ke := kI) (ve := veI) (xs := m.shelf) (z0 := 0) (x := x37) rfl rfl kt3 zt3 (fun _ => rfl) rfl .rm rfl rfl rfl) ?_
 refine U.pd 5 T (C.nx (C.seq ?_))
 refine C.jn (fun (x40 : Bool) => [(0, .rp [.i m.site.Floor.W, .i m.site.Floor.H, .i m.site.Floor.D, .sl 1 eI m.site.Floor.Kind, .sl 1 eI m.site.Floor.Out, .sl 5 eApiZone m.site.Zones, .sl 2 eApiApart m.site.Aparts, .sl 2 eApiShelf m.site.Shelves, .sl 2 eApiStart m.site.Robots, .rm kI veI m.shelf, .rm kI veB m.robot, .rm kI veB m.zoned, .rm kS veI m.names, .rm kI veB m.oneways, .sl 1 eI m.shelves, .sl 1 eI m.zones]), (3, .p 0 0), (4, .i s9), (5, .p 1 0), (22, .sl 2 eApiShelf m.site.Shelves), (23, .i (m.site.Shelves.length : Int)), (24, .i s9), (61, .o 2), (62, .i (([x24, x25, x26, x27] : List Int).length : Int)), (63, .i s30), (100, .b x40)]) (fun (x40 : Bool) => [(0, .box (eApiFloor m.site.Floor)), (1, .box [.i x18.Cell, .v (.string x18.Class)]), (2, .val (.os 1 eI ([x24, x25, x26, x27] : List Int)))]) 3 hm (fun x40 hm => ?_) (fun J41 hm hJ41 => ?_)
 refine C.nx ?_
 refine C.ite rfl hm (fun hb46 hm => ?_) (fun hb46 hm => ?_)
 refine C.seq (U.start ?_)
 refine U.pd 2 T (C.nx (C.ret (C.brt (C.rt (C.rt (C.brt (C.brt (C.rt (C.rt (C.brt (C.rt ?_)))))))))))
 exact C.f1 T hβ ⟨s9, hm, rfl, rfl, rfl⟩
 refine C.skip (C.bnx (C.nx (U.start ?_)))
 refine U.pd 2 T (C.nx ?_)
 exact St.wk (C.next hm) (Wk.a (idR 3))
 refine D.beg 9999 [1] [] mix rfl rfl (by kernel_rfl) (by repeat (first | exact NoPanicQ.body | exact NoPanicQ.rnd | refine NoPanicQ.th ?_ | refine NoPanicQ.blk ?_ | refine NoPanicQ.ng ?_)) (fun hQ hS ws M' => ?_)
 refine D.ps 2 [(0, []), (1, [])] rfl hQ hS T rfl rfl (by kernel_rfl) ?_
 refine hm.cs (fun hb42 hm => ?_) (fun hb42 hm => ?_)
 refine D.q 2 [] hQ hS rfl (.take 1 true 77 _ hb42 rfl rfl rfl) rfl rfl (by exact Rd.p T rfl) rfl (by kernel_rfl) ?_
 refine D.q 3 [] hQ hS rfl (.take 1 true 77 _ hb42 rfl rfl rfl) rfl rfl (by exact Rd.p T rfl) rfl (by kernel_rfl) ?_
 refine D.q 4 [] hQ hS rfl (.take 1 true 77 _ hb42 rfl rfl rfl) rfl rfl (by exact Rd.p T rfl) rfl (by kernel_rfl) ?_
 refine D.q 5 [] hQ hS rfl (.none rfl) rfl rfl (by exact Rd.pk rfl rfl hb42 rfl) rfl (by kernel_rfl) ?_
 refine D.ps 1 [(6, [])] rfl hQ hS T rfl rfl (by kernel_rfl) ?_
 refine hm.cs (fun hb43 hm => ?_) (fun hb43 hm => ?_)
 refine D.q 7 [] hQ hS rfl (.take 6 true 82 _ hb43 rfl rfl rfl) rfl rfl (by exact Rd.p T rfl) rfl (by kernel_rfl) ?_
 refine D.q 8 [] hQ hS rfl (.take 6 true 82 _ hb43 rfl rfl rfl) rfl rfl (by exact Rd.p T rfl) rfl (by kernel_rfl) ?_
 refine D.q 9 [] hQ hS rfl (.take 6 true 82 _ hb43 rfl rfl rfl) rfl rfl (by exact Rd.p T rfl) rfl (by kernel_rfl) ?_
 refine D.q 10 [] hQ hS rfl (.take 6 true 82 _ hb43 rfl rfl rfl) rfl rfl (by exact Rd.p T rfl) rfl (by kernel_rfl) ?_
 refine D.q 11 [] hQ hS rfl (.take 6 true 82 _ hb43 rfl rfl rfl) rfl rfl (by exact Rd.l T rfl rfl rfl) rfl (by kernel_rfl) ?_
 refine D.q 12 [] hQ hS rfl (.take 6 true 82 _ hb43 rfl rfl rfl) rfl rfl (by exact Rd.p T rfl) rfl (by kernel_rfl) ?_
 refine D.q 13 [] hQ hS rfl (.take 6 true 82 _ hb43 rfl rfl rfl) rfl rfl (by exact Rd.l T rfl rfl rfl) rfl (by kernel_rfl) ?_
 refine D.q 14 [] hQ hS rfl (.take 6 true 82 _ hb43 rfl rfl rfl) rfl rfl (by exact Rd.p T rfl) rfl (by kernel_rfl) ?_
 refine D.q 15 [] hQ hS rfl (.take 6 true 82 _ hb43 rfl rfl rfl) rfl rfl (by exact Rd.p T rfl) rfl (by kernel_rfl) ?_
 refine D.q 16 [] hQ hS rfl (.take 6 true 82 _ hb43 rfl rfl rfl) rfl rfl (by exact Rd.p T rfl) rfl (by kernel_rfl) ?_
 refine D.q 17 [] hQ hS rfl (.take 6 true 82 _ hb43 rfl rfl rfl) rfl rfl (by exact Rd.p T rfl) rfl (by kernel_rfl) ?_
 refine D.q 18 [] hQ hS rfl (.take 6 true 82 _ hb43 rfl rfl rfl) rfl rfl (by exact Rd.l T rfl rfl rfl) rfl (by kernel_rfl) ?_
 refine D.q 19 [] hQ hS rfl (.take 6 true 82 _ hb43 rfl rfl rfl) rfl rfl (by exact Rd.p T rfl) rfl (by kernel_rfl) ?_
 obtain ⟨x44, hx44, hm⟩ := hm
 refine D.q 20 [] hQ hS rfl (.take 6 true 82 _ hb43 rfl rfl rfl) rfl rfl (by exact Rd.ix T rfl rfl rfl rfl rfl rfl hx44) rfl (by kernel_rfl) ?_
 refine D.q 21 [] hQ hS rfl (.take 6 true 82 _ hb43 rfl rfl rfl) rfl rfl (by exact Rd.p T rfl) rfl (by kernel_rfl) ?_
 refine D.q 22 [] hQ hS rfl (.take 6 true 82 _ hb43 rfl rfl rfl) rfl rfl (by exact Rd.l T rfl rfl rfl) rfl (by kernel_rfl) ?_
 refine D.k 23 (T_survey_Apart m.site.Aparts x18.Class x44.Class _ hm) en140 (fun x45 hm => ?_) (hw := .take 6 true 82 _ hb43 rfl rfl rfl)
 refine D.q 24 [] hQ hS rfl (.none rfl) rfl rfl (by exact Rd.pk rfl rfl hb43 rfl) rfl (by kernel_rfl) ?_
 refine D.done (by kernel_rfl) ?_
 exact St.wa (idR 3) (hJ41 _ hm)
 refine D.sx 7 [] hQ hS (.skip 6 true 82 _ hb43 rfl rfl rfl) ?_
 refine D.sx 8 [] hQ hS (.skip 6 true 82 _ hb43 rfl rfl rfl) ?_
 refine D.sx 9 [] hQ hS (.skip 6 true 82 _ hb43 rfl rfl rfl) ?_
 refine D.sx 10 [] hQ hS (.skip 6 true 82 _ hb43 rfl rfl rfl) ?_
 refine D.sx 11 [] hQ hS (.skip 6 true 82 _ hb43 rfl rfl rfl) ?_
 refine D.sx 12 [] hQ hS (.skip 6 true 82 _ hb43 rfl rfl rfl) ?_
 refine D.sx 13 [] hQ hS (.skip 6 true 82 _ hb43 rfl rfl rfl) ?_
 refine D.sx 14 [] hQ hS (.skip 6 true 82 _ hb43 rfl rfl rfl) ?_
 refine D.sx 15 [] hQ hS (.skip 6 true 82 _ hb43 rfl rfl rfl) ?_
 refine D.sx 16 [] hQ hS (.skip 6 true 82 _ hb43 rfl rfl rfl) ?_
 refine D.sx 17 [] hQ hS (.skip 6 true 82 _ hb43 rfl rfl rfl) ?_
 refine D.sx 18 [] hQ hS (.skip 6 true 82 _ hb43 rfl rfl rfl) ?_
 refine D.sx 19 [] hQ hS (.skip 6 true 82 _ hb43 rfl rfl rfl) ?_
 refine D.sx 20 [] hQ hS (.skip 6 true 82 _ hb43 rfl rfl rfl) ?_
 refine D.sx 21 [] hQ hS (.skip 6 true 82 _ hb43 rfl rfl rfl) ?_
 refine D.sx 22 [] hQ hS (.skip 6 true 82 _ hb43 rfl rfl rfl) ?_
 refine D.sx 23 [] hQ hS (.skip 6 true 82 _ hb43 rfl rfl rfl) ?_
 refine D.q 24 [] hQ hS rfl (.none rfl) rfl rfl (by exact Rd.pk' rfl rfl hb43 rfl) rfl (by kernel_rfl) ?_
 refine D.done (by kernel_rfl) ?_
 exact St.wa (idR 3) (hJ41 _ hm)
 refine D.sx 2 [] hQ hS (.skip 1 true 77 _ hb42 rfl rfl rfl) ?_
 refine D.sx 3 [] hQ hS (.skip 1 true 77 _ hb42 rfl rfl rfl) ?_
 refine D.sx 4 [] hQ hS (.skip 1 true 77 _ hb42 rfl rfl rfl) ?_
 refine D.q 5 [] hQ hS rfl (.none rfl) rfl rfl (by exact Rd.pk' rfl rfl hb42 rfl) rfl (by kernel_rfl) ?_
 refine D.ps 1 [(6, [])] rfl hQ hS T rfl rfl (by kernel_rfl) ?_
 refine D.sx 7 [] hQ hS (.skip 6 true 82 _ rfl rfl rfl rfl) ?_
 refine D.sx 8 [] hQ hS (.skip 6 true 82 _ rfl rfl rfl rfl) ?_
 refine D.sx 9 [] hQ hS (.skip 6 true 82 _ rfl rfl rfl rfl) ?_
 refine D.sx 10 [] hQ hS (.skip 6 true 82 _ rfl rfl rfl rfl) ?_
 refine D.sx 11 [] hQ hS (.skip 6 true 82 _ rfl rfl rfl rfl) ?_
 refine D.sx 12 [] hQ hS (.skip 6 true 82 _ rfl rfl rfl rfl) ?_
 refine D.sx 13 [] hQ hS (.skip 6 true 82 _ rfl rfl rfl rfl) ?_
 refine D.sx 14 [] hQ hS (.skip 6 true 82 _ rfl rfl rfl rfl) ?_
 refine D.sx 15 [] hQ hS (.skip 6 true 82 _ rfl rfl rfl rfl) ?_
 refine D.sx 16 [] hQ hS (.skip 6 true 82 _ rfl rfl rfl rfl) ?_
 refine D.sx 17 [] hQ hS (.skip 6 true 82 _ rfl rfl rfl rfl) ?_
 refine D.sx 18 [] hQ hS (.skip 6 true 82 _ rfl rfl rfl rfl) ?_
 refine D.sx 19 [] hQ hS (.skip 6 true 82 _ rfl rfl rfl rfl) ?_
 refine D.sx 20 [] hQ hS (.skip 6 true 82 _ rfl rfl rfl rfl) ?_
 refine D.sx 21 [] hQ hS (.skip 6 true 82 _ rfl rfl rfl rfl) ?_
 refine D.sx 22 [] hQ hS (.skip 6 true 82 _ rfl rfl rfl rfl) ?_
 refine D.sx 23 [] hQ hS (.skip 6 true 82 _ rfl rfl rfl rfl) ?_
 refine D.q 24 [] hQ hS rfl (.none rfl) rfl rfl (by exact Rd.pk' rfl rfl rfl rfl) rfl (by kernel_rfl) ?_
 refine D.done (by kernel_rfl) ?_
 exact St.wa (idR 3) (hJ41 _ hm)
 refine C.exit (C.ex (C.ex (C.bex ?_)))
 exact St.wa [some 0] (hJ29 _ hm)
 refine C.exit (C.ex (C.ex (C.bex ?_)))
 exact St.wk (hJ8 _ hm) (Wk.mk' [] rfl rfl trivial trivial rfl)
theorem T_survey_maker_crowded_1 (z : ApiZone) (c0 : SurveyMaker) (post : Bool → Prop) (hm : V_survey_maker_crowded_1 z c0 post) :
    Tr Tryz.prog 145 [.agg (eApiZone z), .rp [.rp [.i c0.site.Floor.W, .i c0.site.Floor.H, .i c0.site.Floor.D, .sl 1 eI c0.site.Floor.Kind, .sl 1 eI c0.site.Floor.Out, .sl 5 eApiZone c0.site.Zones, .sl 2 eApiApart c0.site.Aparts, .sl 2 eApiShelf c0.site.Shelves, .sl 2 eApiStart c0.site.Robots, .rm kI veI c0.shelf, .rm kI veB c0.robot, .rm kI veB c0.zoned, .rm kS veI c0.names, .rm kI veB c0.oneways, .sl 1 eI c0.shelves, .sl 1 eI c0.zones]]] [] 0 (fun A H' k => ∃ y, post y ∧ A = (.b y) ∧ H' = [] ∧ k = 0) := by
 refine Tr.intro (n := 46) Tryz.func145 rfl Tryz.ntmps145 rfl (fun w0 ok F β hβ => ?_)
 unfold V_survey_maker_crowded_1 at hm
 refine C.seq (U.start ?_)
 refine U.bx ?_
 refine U.pd 1 T (C.nx (C.seq (U.start ?_)))
 refine U.pd 1 T (C.nx (C.seq (C.seq (U.start ?_))))
 refine U.pd 4 T (C.nx ?_)
 refine C.jn (fun (x7 : Int) => [(2, .p 0 0), (4, .i x7)]) (fun (x7 : Int) => [(0, .box (eApiZone z))]) 1 hm (fun x7 hm => ?_) (fun J8 hm hJ8 => ?_)
 refine C.nx (C.seq (U.start ?_))
 refine U.pd 5 T (C.nx (C.ret ?_))
 exact C.f1 T hβ ⟨decide (x7 < z.Keep), hm, rfl, rfl, rfl⟩
 refine C.block ?_
 refine St.wk (C.loop (fun (s9 : Int × Int) => [(1, .rp [.rp [.i c0.site.Floor.W, .i c0.site.Floor.H, .i c0.site.Floor.D, .sl 1 eI c0.site.Floor.Kind, .sl 1 eI c0.site.Floor.Out, .sl 5 eApiZone c0.site.Zones, .sl 2 eApiApart c0.site.Aparts, .sl 2 eApiShelf c0.site.Shelves, .sl 2 eApiStart c0.site.Robots, .rm kI veI c0.shelf, .rm kI veB c0.robot, .rm kI veB c0.zoned, .rm kS veI c0.names, .rm kI veB c0.oneways, .sl 1 eI c0.shelves, .sl 1 eI c0.zones]]), (2, .p 0 0), (4, .i s9.1), (10, .sl 1 eI z.Cells), (11, .i (z.Cells.length : Int)), (12, .i s9.2)]) (fun (s9 : Int × Int) => [(0, .box (eApiZone z))]) hm (fun s9 Y10 hm => ?_)) (Wk.a [some 0])
 refine C.seq (U.start ?_)
 refine U.pd 1 T (C.nx (C.seq ?_))
 refine C.ite rfl hm (fun hb13 hm => ?_) (fun hb13 hm => ?_)
 refine C.skip (C.nx (C.seq (C.block (C.seq (U.start ?_)))))
 obtain ⟨x16, hx16, hm⟩ := hm
 refine U.r rfl (.none rfl) rfl rfl (by exact Rd.ix T rfl rfl rfl rfl rfl rfl hx16) ?_
 refine U.pd 2 T (C.nx (C.seq (U.start ?_)))
 refine U.ps 5 T rfl ?_
 refine U.r rfl (.none rfl) rfl rfl (by exact Rd.lk2 T (ke := kI) (ve := veI) (xs := c0.shelf) (z0 := 0) (x := x16) rfl rfl kt3 zt3 (fun _ => rfl) rfl .rm rfl rfl rfl) ?_
 refine U.pd 5 T (C.nx (C.seq ?_))
 refine C.jn (fun (x19 : Bool) => [(1, .rp [.rp [.i c0.site.Floor.W, .i c0.site.Floor.H, .i c0.site.Floor.D, .sl 1 eI c0.site.Floor.Kind, .sl 1 eI c0.site.Floor.Out, .sl 5 eApiZone c0.site.Zones, .sl 2 eApiApart c0.site.Aparts, .sl 2 eApiShelf c0.site.Shelves, .sl 2 eApiStart c0.site.Robots, .rm kI veI c0.shelf, .rm kI veB c0.robot, .rm kI veB c0.zoned, .rm kS veI c0.names, .rm kI veB c0.oneways, .sl 1 eI c0.shelves, .sl 1 eI c0.zones]]), (2, .p 0 0), (4, .i s9.1), (10, .sl 1 eI z.Cells), (11, .i (z.Cells.length : Int)), (12, .i s9.2), (38, .b x19)]) (fun (x19 : Bool) => [(0, .box (eApiZone z))]) 1 hm (fun x19 hm => ?_) (fun J20 hm hJ20 => ?_)
 refine C.nx ?_
 refine C.jn (fun (x24 : Int) => [(1, .rp [.rp [.i c0.site.Floor.W, .i c0.site.Floor.H, .i c0.site.Floor.D, .sl 1 eI c0.site.Floor.Kind, .sl 1 eI c0.site.Floor.Out, .sl 5 eApiZone c0.site.Zones, .sl 2 eApiApart c0.site.Aparts, .sl 2 eApiShelf c0.site.Shelves, .sl 2 eApiStart c0.site.Robots, .rm kI veI c0.shelf, .rm kI veB c0.robot, .rm kI veB c0.zoned, .rm kS veI c0.names, .rm kI veB c0.oneways, .sl 1 eI c0.shelves, .sl 1 eI c0.zones]]), (2, .p 0 0), (4, .i x24), (10, .sl 1 eI z.Cells), (11, .i (z.Cells.length : Int)), (12, .i s9.2)]) (fun (x24 : Int) => [(0, .box (eApiZone z))]) 1 hm (fun x24 hm => ?_) (fun J25 hm hJ25 => ?_)
 refine C.bnx (C.nx (U.start ?_))
 refine U.pd 2 T (C.nx ?_)
 exact St.wk (C.next hm) (Wk.a [some 0])
 refine C.ite rfl hm (fun hb26 hm => ?_) (fun hb26 hm => ?_)
 refine U.start ?_
 refine U.pd 3 T ?_
 exact St.wa [some 0] (hJ25 _ hm)
 refine C.skip ?_
 exact St.wa [some 0] (hJ25 _ hm)
 refine U.start ?_
 refine U.ps 3 T rfl ?_
 refine hm.cs (fun hb21 hm => ?_) (fun hb21 hm => ?_)
 refine U.sks 10 2 true 27 (ntF hb21) rfl rfl rfl ?_
 refine U.r rfl (.none rfl) rfl rfl (by exact Rd.pk' rfl rfl (ntF hb21) rfl) ?_
 refine U.done ?_
 exact St.wa [some 0] (hJ20 _ hm)
 refine U.pg 7 2 true 27 (ntT hb21) T rfl rfl rfl rfl ?_
 obtain ⟨x22, hx22, hm⟩ := hm
 refine U.r rfl (.take 2 true 27 _ (ntT hb21) rfl rfl rfl) rfl rfl (by exact Rd.ix T rfl rfl rfl rfl rfl rfl hx22) ?_
 refine U.pg 1 2 true 27 (ntT hb21) T rfl rfl rfl rfl ?_
 refine U.k (T_survey_stands x22 _ hm) en141 (fun x23 hm => ?_) (hw := .take 2 true 27 _ (ntT hb21) rfl rfl rfl)
 refine U.r rfl (.none rfl) rfl rfl (by exact Rd.pk rfl rfl (ntT hb21) rfl) ?_
 refine U.done ?_
 exact St.wa [some 0] (hJ20 _ hm)
 refine C.exit (C.ex (C.ex (C.bex ?_)))
 exact St.wa [some 0] (hJ8 _ hm)
theorem T_slices_IndexFunc_api_Zone_api_Zone__survey_maker_crowded_1 (s_1 : List ApiZone) (f_c0 : SurveyMaker) (post : Int → Prop) (hm : V_slices_IndexFunc_api_Zone_api_Zone__survey_maker_crowded_1 s_1 f_c0 post) :
    Tr Tryz.prog 144 [.sl 5 eApiZone s_1, .fn (.func 145) [] [.rp [.rp [.i f_c0.site.Floor.W, .i f_c0.site.Floor.H, .i f_c0.site.Floor.D, .sl 1 eI f_c0.site.Floor.Kind, .sl 1 eI f_c0.site.Floor.Out, .sl 5 eApiZone f_c0.site.Zones, .sl 2 eApiApart f_c0.site.Aparts, .sl 2 eApiShelf f_c0.site.Shelves, .sl 2 eApiStart f_c0.site.Robots, .rm kI veI f_c0.shelf, .rm kI veB f_c0.robot, .rm kI veB f_c0.zoned, .rm kS veI f_c0.names, .rm kI veB f_c0.oneways, .sl 1 eI f_c0.shelves, .sl 1 eI f_c0.zones]]]] [] 0 (fun A H' k => ∃ y, post y ∧ A = (.i y) ∧ H' = [] ∧ k = 0) := by
 refine Tr.intro (n := 19) Tryz.func144 rfl Tryz.ntmps144 rfl (fun w0 ok F β hβ => ?_)
 unfold V_slices_IndexFunc_api_Zone_api_Zone__survey_maker_crowded_1 at hm
 refine C.seq (U.start ?_)
 refine U.pd 1 T (C.nx (C.seq (C.seq (U.start ?_))))
 refine U.pd 3 T (C.nx ?_)
 refine C.jn (fun (x5 : Unit) => []) (fun (x5 : Unit) => []) 0 hm (fun x5 hm => ?_) (fun J6 hm hJ6 => ?_)
 refine C.nx (C.seq (U.start ?_))
 refine U.pd 1 T (C.nx (C.ret ?_))
 exact C.f1 T hβ ⟨(-1), hm, rfl, rfl, rfl⟩
 refine C.block ?_
 refine St.wk (C.loop (fun (s7 : Int) => [(0, .sl 5 eApiZone s_1), (1, .fn (.func 145) [] [.rp [.rp [.i f_c0.site.Floor.W, .i f_c0.site.Floor.H, .i f_c0.site.Floor.D, .sl 1 eI f_c0.site.Floor.Kind, .sl 1 eI f_c0.site.Floor.Out, .sl 5 eApiZone f_c0.site.Zones, .sl 2 eApiApart f_c0.site.Aparts, .sl 2 eApiShelf f_c0.site.Shelves, .sl 2 eApiStart f_c0.site.Robots, .rm kI veI f_c0.shelf, .rm kI veB f_c0.robot, .rm kI veB f_c0.zoned, .rm kS veI f_c0.names, .rm kI veB f_c0.oneways, .sl 1 eI f_c0.shelves, .sl 1 eI f_c0.zones]]]), (7, .i (s_1.length : Int)), (8, .i s7)]) (fun (s7 : Int) => []) hm (fun s7 Y8 hm => ?_)) (Wk.e)
 refine C.seq (U.start ?_)
 refine U.pd 1 T (C.nx (C.seq ?_))
 refine C.ite rfl hm (fun hb11 hm => ?_) (fun hb11 hm => ?_)
 refine C.skip (C.nx (C.seq (C.block (C.seq (U.start ?_)))))
 refine U.pd 2 T (C.nx (C.seq (U.start ?_)))
 refine U.ps 3 T rfl ?_
 obtain ⟨x16, hx16, hm⟩ := hm
 refine U.r rfl (.none rfl) rfl rfl (by exact Rd.ix T rfl rfl rfl rfl rfl rfl hx16) ?_
 refine U.ps 1 T rfl ?_
 refine U.k (T_survey_maker_crowded_1 x16 f_c0 _ hm) en145 (fun x17 hm => ?_)
 refine U.done (C.nx ?_)
 refine C.ite rfl hm (fun hb18 hm => ?_) (fun hb18 hm => ?_)
 refine C.seq (U.start ?_)
 refine U.pd 2 T (C.nx (C.ret (C.brt (C.rt (C.rt (C.brt (C.rt ?_)))))))
 exact C.f1 T hβ ⟨s7, hm, rfl, rfl, rfl⟩
 refine C.skip (C.bnx (C.nx (U.start ?_)))
 refine U.pd 2 T (C.nx ?_)
 exact St.wk (C.next hm) (Wk.e)
 refine C.exit (C.ex (C.ex (C.bex ?_)))
 exact St.wk (hJ6 _ hm) (Wk.mk' [] rfl rfl trivial trivial rfl)
theorem T_survey_maker_crowded (m : SurveyMaker) (post : Int → Prop) (hm : V_survey_maker_crowded m post) :
    Tr Tryz.prog 70 [.rp [.i m.site.Floor.W, .i m.site.Floor.H, .i m.site.Floor.D, .sl 1 eI m.site.Floor.Kind, .sl 1 eI m.site.Floor.Out, .sl 5 eApiZone m.site.Zones, .sl 2 eApiApart m.site.Aparts, .sl 2 eApiShelf m.site.Shelves, .sl 2 eApiStart m.site.Robots, .rm kI veI m.shelf, .rm kI veB m.robot, .rm kI veB m.zoned, .rm kS veI m.names, .rm kI veB m.oneways, .sl 1 eI m.shelves, .sl 1 eI m.zones]] [] 0 (fun A H' k => ∃ y, post y ∧ A = (.i y) ∧ H' = [] ∧ k = 0) := by
 refine Tr.intro (n := 10) Tryz.func70 rfl Tryz.ntmps70 rfl (fun w0 ok F β hβ => ?_)
 unfold V_survey_maker_crowded at hm
 refine C.seq (U.start ?_)
 refine U.bx ?_
 refine U.pd 1 T (C.nx (C.seq (U.start ?_)))
 refine U.ps 6 T rfl ?_
 refine U.k (T_slices_IndexFunc_api_Zone_api_Zone__survey_maker_crowded_1 m.site.Zones m _ hm) en144 (fun x5 hm => ?_)
 refine U.pd 1 T (C.nx (C.ret ?_))
 exact C.f1 T hβ ⟨x5, hm, rfl, rfl, rfl⟩
theorem T_survey_maker_charger (m : SurveyMaker) (post : Bool → Prop) (hm : V_survey_maker_charger m post) :
    Tr Tryz.prog 71 [.rp [.i m.site.Floor.W, .i m.site.Floor.H, .i m.site.Floor.D, .sl 1 eI m.site.Floor.Kind, .sl 1 eI m.site.Floor.Out, .sl 5 eApiZone m.site.Zones, .sl 2 eApiApart m.site.Aparts, .sl 2 eApiShelf m.site.Shelves, .sl 2 eApiStart m.site.Robots, .rm kI veI m.shelf, .rm kI veB m.robot, .rm kI veB m.zoned, .rm kS veI m.names, .rm kI veB m.oneways, .sl 1 eI m.shelves, .sl 1 eI m.zones]] [] 0 (fun A H' k => ∃ y, post y ∧ A = (.b y) ∧ H' = [] ∧ k = 0) := by
 refine Tr.intro (n := 10) Tryz.func71 rfl Tryz.ntmps71 rfl (fun w0 ok F β hβ => ?_)
 unfold V_survey_maker_charger at hm
 refine C.seq (U.start ?_)
 refine U.pd 1 T (C.nx (C.seq (U.start ?_)))
 refine U.ps 6 T rfl ?_
 refine U.k (T_slices_Contains_int_int m.site.Floor.Kind 3 _ hm) en44 (fun x5 hm => ?_)
 refine U.pd 1 T (C.nx (C.ret ?_))
 exact C.f1 T hβ ⟨x5, hm, rfl, rfl, rfl⟩
theorem T_survey_Right (s_1 : ApiSite) (post : Bool → Prop) (hm : V_survey_Right s_1 post) :
    Tr Tryz.prog 21 [.agg (eApiSite s_1)] [] 0 (fun A H' k => ∃ y, post y ∧ A = (.b y) ∧ H' = [] ∧ k = 0) := by
 refine Tr.intro (n := 109) Tryz.func21 rfl Tryz.ntmps21 rfl (fun w0 ok F β hβ => ?_)
 unfold V_survey_Right at hm
 refine C.seq (U.start ?_)
 refine U.bx ?_
 refine U.pd 1 T (C.nx (C.seq (C.seq (U.start ?_))))
 refine U.ps 2 T rfl ?_
 refine U.k (T_floor_Right s_1.Floor _ hm) en59 (fun x5 hm => ?_)
 refine U.pd 1 T (C.nx ?_)
 refine C.ite rfl hm (fun hb6 hm => ?_) (fun hb6 hm => ?_)
 refine C.seq (U.start ?_)
 refine U.pd 1 T (C.nx (C.ret (C.rt ?_)))
 exact C.f1 T hβ ⟨false, hm, rfl, rfl, rfl⟩
 refine C.skip (C.nx (C.seq (U.start ?_)))
 refine U.ps 2 T rfl ?_
 refine U.e rfl (.none rfl) (by exact Eff.c [] (v := false) (T_survey_newMaker s_1.Floor _ hm) en60 rfl rfl rfl (.eq rfl) trivial rfl rfl rfl rfl rfl rfl (fun h => by cases h) (.inr ⟨rfl, rfl⟩) (fun _ => rfl) (fun _ => rfl) rfl) (fun x11' hm => ?_)
 obtain ⟨x11⟩ := x11'
 refine U.pd 1 T (C.nx (C.seq (C.seq (U.start ?_))))
 refine U.pd 4 T (C.nx ?_)
 refine C.jn (fun (x14 : Int × Int × Int × List Int × List Int × List ApiZone × List ApiApart × List ApiShelf × List ApiStart × List (Int × Int) × List (Int × Bool) × List (Int × Bool) × List (ByteArray × Int) × List (Int × Bool) × List Int × List Int) => [(1, .p 0 0), (3, .p 1 0)]) (fun (x14 : Int × Int × Int × List Int × List Int × List ApiZone × List ApiApart × List ApiShelf × List ApiStart × List (Int × Int) × List (Int × Bool) × List (Int × Bool) × List (ByteArray × Int) × List (Int × Bool) × List Int × List Int) => [(0, .box (eApiSite s_1)), (1, .box [.i x14.1, .i x14.2.1, .i x14.2.2.1, .sl 1 eI x14.2.2.2.1, .sl 1 eI x14.2.2.2.2.1, .o 2, .o 3, .o 4, .o 5, .o 6, .o 7, .o 8, .o 9, .o 10, .o 11, .o 12]), (2, .val (.os 5 eApiZone x14.2.2.2.2.2.1)), (3, .val (.os 2 eApiApart x14.2.2.2.2.2.2.1)), (4, .val (.os 2 eApiShelf x14.2.2.2.2.2.2.2.1)), (5, .val (.os 2 eApiStart x14.2.2.2.2.2.2.2.2.1)), (6, .val (.om kI veI x14.2.2.2.2.2.2.2.2.2.1)), (7, .val (.om kI veB x14.2.2.2.2.2.2.2.2.2.2.1)), (8, .val (.om kI veB x14.2.2.2.2.2.2.2.2.2.2.2.1)), (9, .val (.om kS veI x14.2.2.2.2.2.2.2.2.2.2.2.2.1)), (10, .val (.om kI veB x14.2.2.2.2.2.2.2.2.2.2.2.2.2.1)), (11, .val (.os 1 eI x14.2.2.2.2.2.2.2.2.2.2.2.2.2.2.1)), (12, .val (.os 1 eI x14.2.2.2.2.2.2.2.2.2.2.2.2.2.2.2))]) 13 hm (fun x14 hm => ?_) (fun J15 hm hJ15 => ?_)
 refine C.nx (C.seq (C.seq (U.start ?_)))
 refine U.pd 4 T (C.nx ?_)
 refine C.jn (fun (x43 : Int × Int × Int × List Int × List Int × List ApiZone × List ApiApart × List ApiShelf × List ApiStart × List (Int × Int) × List (Int × Bool) × List (Int × Bool) × List (ByteArray × Int) × List (Int × Bool) × List Int × List Int) => [(1, .p 0 0), (3, .p 1 0)]) (fun (x43 : Int × Int × Int × List Int × List Int × List ApiZone × List ApiApart × List ApiShelf × List ApiStart × List (Int × Int) × List (Int × Bool) × List (Int × Bool) × List (ByteArray × Int) × List (Int × Bool) × List Int × List Int) => [(0, .box (eApiSite s_1)), (1, .box [.i x43.1, .i x43.2.1, .i x43.2.2.1, .sl 1 eI x43.2.2.2.1, .sl 1 eI x43.2.2.2.2.1, .o 2, .o 3, .o 4, .o 5, .o 6, .o 7, .o 8, .o 9, .o 10, .o 11, .o 12]), (2, .val (.os 5 eApiZone x43.2.2.2.2.2.1)), (3, .val (.os 2 eApiApart x43.2.2.2.2.2.2.1)), (4, .val (.os 2 eApiShelf x43.2.2.2.2.2.2.2.1)), (5, .val (.os 2 eApiStart x43.2.2.2.2.2.2.2.2.1)), (6, .val (.om kI veI x43.2.2.2.2.2.2.2.2.2.1)), (7, .val (.om kI veB x43.2.2.2.2.2.2.2.2.2.2.1)), (8, .val (.om kI veB x43.2.2.2.2.2.2.2.2.2.2.2.1)), (9, .val (.om kS veI x43.2.2.2.2.2.2.2.2.2.2.2.2.1)), (10, .val (.om kI veB x43.2.2.2.2.2.2.2.2.2.2.2.2.2.1)), (11, .val (.os 1 eI x43.2.2.2.2.2.2.2.2.2.2.2.2.2.2.1)), (12, .val (.os 1 eI x43.2.2.2.2.2.2.2.2.2.2.2.2.2.2.2))]) 13 hm (fun x43 hm => ?_) (fun J44 hm hJ44 => ?_)
 refine C.nx (C.seq (C.seq (U.start ?_)))
 refine U.pd 4 T (C.nx ?_)
 refine C.jn (fun (x63 : Int × Int × Int × List Int × List Int × List ApiZone × List ApiApart × List ApiShelf × List ApiStart × List (Int × Int) × List (Int × Bool) × List (Int × Bool) × List (ByteArray × Int) × List (Int × Bool) × List Int × List Int) => [(1, .p 0 0), (3, .p 1 0)]) (fun (x63 : Int × Int × Int × List Int × List Int × List ApiZone × List ApiApart × List ApiShelf × List ApiStart × List (Int × Int) × List (Int × Bool) × List (Int × Bool) × List (ByteArray × Int) × List (Int × Bool) × List Int × List Int) => [(0, .box (eApiSite s_1)), (1, .box [.i x63.1, .i x63.2.1, .i x63.2.2.1, .sl 1 eI x63.2.2.2.1, .sl 1 eI x63.2.2.2.2.1, .o 2, .o 3, .o 4, .o 5, .o 6, .o 7, .o 8, .o 9, .o 10, .o 11, .o 12]), (2, .val (.os 5 eApiZone x63.2.2.2.2.2.1)), (3, .val (.os 2 eApiApart x63.2.2.2.2.2.2.1)), (4, .val (.os 2 eApiShelf x63.2.2.2.2.2.2.2.1)), (5, .val (.os 2 eApiStart x63.2.2.2.2.2.2.2.2.1)), (6, .val (.om kI veI x63.2.2.2.2.2.2.2.2.2.1)), (7, .val (.om kI veB x63.2.2.2.2.2.2.2.2.2.2.1)), (8, .val (.om kI veB x63.2.2.2.2.2.2.2.2.2.2.2.1)), (9, .val (.om kS veI x63.2.2.2.2.2.2.2.2.2.2.2.2.1)), (10, .val (.om kI veB x63.2.2.2.2.2.2.2.2.2.2.2.2.2.1)), (11, .val (.os 1 eI x63.2.2.2.2.2.2.2.2.2.2.2.2.2.2.1)), (12, .val (.os 1 eI x63.2.2.2.2.2.2.2.2.2.2.2.2.2.2.2))]) 13 hm (fun x63 hm => ?_) (fun J64 hm hJ64 => ?_)
 refine C.nx (C.seq (C.seq (U.start ?_)))
 refine U.pd 4 T (C.nx ?_)
 refine C.jn (fun (x83 : Int × Int × Int × List Int × List Int × List ApiZone × List ApiApart × List ApiShelf × List ApiStart × List (Int × Int) × List (Int × Bool) × List (Int × Bool) × List (ByteArray × Int) × List (Int × Bool) × List Int × List Int) => [(3, .p 0 0)]) (fun (x83 : Int × Int × Int × List Int × List Int × List ApiZone × List ApiApart × List ApiShelf × List ApiStart × List (Int × Int) × List (Int × Bool) × List (Int × Bool) × List (ByteArray × Int) × List (Int × Bool) × List Int × List Int) => [(0, .box [.i x83.1, .i x83.2.1, .i x83.2.2.1, .sl 1 eI x83.2.2.2.1, .sl 1 eI x83.2.2.2.2.1, .o 1, .o 2, .o 3, .o 4, .o 5, .o 6, .o 7, .o 8, .o 9, .o 10, .o 11]), (1, .val (.os 5 eApiZone x83.2.2.2.2.2.1)), (2, .val (.os 2 eApiApart x83.2.2.2.2.2.2.1)), (3, .val (.os 2 eApiShelf x83.2.2.2.2.2.2.2.1)), (4, .val (.os 2 eApiStart x83.2.2.2.2.2.2.2.2.1)), (5, .val (.om kI veI x83.2.2.2.2.2.2.2.2.2.1)), (6, .val (.om kI veB x83.2.2.2.2.2.2.2.2.2.2.1)), (7, .val (.om kI veB x83.2.2.2.2.2.2.2.2.2.2.2.1)), (8, .val (.om kS veI x83.2.2.2.2.2.2.2.2.2.2.2.2.1)), (9, .val (.om kI veB x83.2.2.2.2.2.2.2.2.2.2.2.2.2.1)), (10, .val (.os 1 eI x83.2.2.2.2.2.2.2.2.2.2.2.2.2.2.1)), (11, .val (.os 1 eI x83.2.2.2.2.2.2.2.2.2.2.2.2.2.2.2))]) 12 hm (fun x83 hm => ?_) (fun J84 hm hJ84 => ?_)
 refine C.nx (C.seq ?_)
 refine C.jn (fun (x101 : Bool) => [(2, .b x101)]) (fun (x101 : Bool) => []) 0 hm (fun x101 hm => ?_) (fun J102 hm hJ102 => ?_)
 refine C.nx (C.ret ?_)
 exact C.f1 T hβ ⟨x101, hm, rfl, rfl, rfl⟩
 refine U.start ?_
 refine U.ps 1 T rfl ?_
 refine U.k (T_survey_maker_beside ({ site := ({ Floor := ({ W := x83.1, H := x83.2.1, D := x83.2.2.1, Kind := x83.2.2.2.1, Out := x83.2.2.2.2.1 : ApiFloor }), Zones := x83.2.2.2.2.2.1, Aparts := x83.2.2.2.2.2.2.1, Shelves := x83.2.2.2.2.2.2.2.1, Robots := x83.2.2.2.2.2.2.2.2.1 : ApiSite }), shelf := x83.2.2.2.2.2.2.2.2.2.1, robot := x83.2.2.2.2.2.2.2.2.2.2.1, zoned := x83.2.2.2.2.2.2.2.2.2.2.2.1, names := x83.2.2.2.2.2.2.2.2.2.2.2.2.1, oneways := x83.2.2.2.2.2.2.2.2.2.2.2.2.2.1, shelves := x83.2.2.2.2.2.2.2.2.2.2.2.2.2.2.1, zones := x83.2.2.2.2.2.2.2.2.2.2.2.2.2.2.2 : SurveyMaker }) _ hm) en69 (fun x103 hm => ?_)
 refine U.ps 2 T rfl ?_
 refine hm.cs (fun hb104 hm => ?_) (fun hb104 hm => ?_)
 refine U.pg 1 3 true 100 hb104 T rfl rfl rfl rfl ?_
 refine U.k (T_survey_maker_crowded ({ site := ({ Floor := ({ W := x83.1, H := x83.2.1, D := x83.2.2.1, Kind := x83.2.2.2.1, Out := x83.2.2.2.2.1 : ApiFloor }), Zones := x83.2.2.2.2.2.1, Aparts := x83.2.2.2.2.2.2.1, Shelves := x83.2.2.2.2.2.2.2.1, Robots := x83.2.2.2.2.2.2.2.2.1 : ApiSite }), shelf := x83.2.2.2.2.2.2.2.2.2.1, robot := x83.2.2.2.2.2.2.2.2.2.2.1, zoned := x83.2.2.2.2.2.2.2.2.2.2.2.1, names := x83.2.2.2.2.2.2.2.2.2.2.2.2.1, oneways := x83.2.2.2.2.2.2.2.2.2.2.2.2.2.1, shelves := x83.2.2.2.2.2.2.2.2.2.2.2.2.2.2.1, zones := x83.2.2.2.2.2.2.2.2.2.2.2.2.2.2.2 : SurveyMaker }) _ hm) en70 (fun x105 hm => ?_) (hw := .take 3 true 100 _ hb104 rfl rfl rfl)
 refine U.pg 1 3 true 100 hb104 T rfl rfl rfl rfl ?_
 refine U.pk hb104 ?_
 refine U.ps 1 T rfl ?_
 refine hm.cs (fun hb106 hm => ?_) (fun hb106 hm => ?_)
 refine U.pg 1 8 true 105 hb106 T rfl rfl rfl rfl ?_
 refine U.k (T_survey_maker_charger ({ site := ({ Floor := ({ W := x83.1, H := x83.2.1, D := x83.2.2.1, Kind := x83.2.2.2.1, Out := x83.2.2.2.2.1 : ApiFloor }), Zones := x83.2.2.2.2.2.1, Aparts := x83.2.2.2.2.2.2.1, Shelves := x83.2.2.2.2.2.2.2.1, Robots := x83.2.2.2.2.2.2.2.2.1 : ApiSite }), shelf := x83.2.2.2.2.2.2.2.2.2.1, robot := x83.2.2.2.2.2.2.2.2.2.2.1, zoned := x83.2.2.2.2.2.2.2.2.2.2.2.1, names := x83.2.2.2.2.2.2.2.2.2.2.2.2.1, oneways := x83.2.2.2.2.2.2.2.2.2.2.2.2.2.1, shelves := x83.2.2.2.2.2.2.2.2.2.2.2.2.2.2.1, zones := x83.2.2.2.2.2.2.2.2.2.2.2.2.2.2.2 : SurveyMaker }) _ hm) en71 (fun x107 hm => ?_) (hw := .take 8 true 105 _ hb106 rfl rfl rfl)
 refine U.pk hb106 ?_
 refine U.pd 1 T ?_
 exact St.wn (hJ102 _ hm)
 refine U.sks 2 8 true 105 hb106 rfl rfl rfl ?_
 refine U.pk' hb106 ?_
 refine U.pd 1 T ?_
 exact St.wn (hJ102 _ hm)
 refine U.sks 3 3 true 100 hb104 rfl rfl rfl ?_
 refine U.pk' hb104 ?_
 refine U.ps 1 T rfl ?_
 refine U.sks 2 8 true 105 rfl rfl rfl rfl ?_
 refine U.pk' rfl ?_
 refine U.pd 1 T ?_
 exact St.wn (hJ102 _ hm)
 refine C.block ?_
 refine St.wk (C.loop (fun (s85 : Int × Int × Int × List Int × List Int × List ApiZone × List ApiApart × List ApiShelf × List ApiStart × List (Int × Int) × List (Int × Bool) × List (Int × Bool) × List (ByteArray × Int) × List (Int × Bool) × List Int × List Int × Int) => [(3, .p 0 0), (86, .sl 2 eApiStart s_1.Robots), (87, .i (s_1.Robots.length : Int)), (88, .i s85.2.2.2.2.2.2.2.2.2.2.2.2.2.2.2.2)]) (fun (s85 : Int × Int × Int × List Int × List Int × List ApiZone × List ApiApart × List ApiShelf × List ApiStart × List (Int × Int) × List (Int × Bool) × List (Int × Bool) × List (ByteArray × Int) × List (Int × Bool) × List Int × List Int × Int) => [(0, .box [.i s85.1, .i s85.2.1, .i s85.2.2.1, .sl 1 eI s85.2.2.2.1, .sl 1 eI s85.2.2.2.2.1, .o 1, .o 2, .o 3, .o 4, .o 5, .o 6, .o 7, .o 8, .o 9, .o 10, .o 11]), (1, .val (.os 5 eApiZone s85.2.2.2.2.2.1)), (2, .val (.os 2 eApiApart s85.2.2.2.2.2.2.1)), (3, .val (.os 2 eApiShelf s85.2.2.2.2.2.2.2.1)), (4, .val (.os 2 eApiStart s85.2.2.2.2.2.2.2.2.1)), (5, .val (.om kI veI s85.2.2.2.2.2.2.2.2.2.1)), (6, .val (.om kI veB s85.2.2.2.2.2.2.2.2.2.2.1)), (7, .val (.om kI veB s85.2.2.2.2.2.2.2.2.2.2.2.1)), (8, .val (.om kS veI s85.2.2.2.2.2.2.2.2.2.2.2.2.1)), (9, .val (.om kI veB s85.2.2.2.2.2.2.2.2.2.2.2.2.2.1)), (10, .val (.os 1 eI s85.2.2.2.2.2.2.2.2.2.2.2.2.2.2.1)), (11, .val (.os 1 eI s85.2.2.2.2.2.2.2.2.2.2.2.2.2.2.2.1))]) hm (fun s85 Y86 hm => ?_)) (Wk.a (sqR 1 12))
 refine C.seq (U.start ?_)
 refine U.pd 1 T (C.nx (C.seq ?_))
 refine C.ite rfl hm (fun hb89 hm => ?_) (fun hb89 hm => ?_)
 refine C.skip (C.nx (C.seq (C.block (C.seq (U.start ?_)))))
 obtain ⟨x92, hx92, hm⟩ := hm
 refine U.r rfl (.none rfl) rfl rfl (by exact Rd.ix T rfl rfl rfl rfl rfl rfl hx92) ?_
 refine U.ps 1 T rfl ?_
 refine U.e1 rfl (.none rfl) (by exact Eff1.al T rfl rfl rfl rfl) ?_
 refine U.e1 rfl (.none rfl) (by exact Eff1.st T rfl rfl rfl rfl rfl rfl rfl rfl rfl rfl) ?_
 refine U.done (C.nx (C.seq (U.start ?_)))
 refine U.ps 2 T rfl ?_
 refine U.c (idR 12) (T_survey_maker_addRobot__p0 x92 ({ site := ({ Floor := ({ W := s85.1, H := s85.2.1, D := s85.2.2.1, Kind := s85.2.2.2.1, Out := s85.2.2.2.2.1 : ApiFloor }), Zones := s85.2.2.2.2.2.1, Aparts := s85.2.2.2.2.2.2.1, Shelves := s85.2.2.2.2.2.2.2.1, Robots := s85.2.2.2.2.2.2.2.2.1 : ApiSite }), shelf := s85.2.2.2.2.2.2.2.2.2.1, robot := s85.2.2.2.2.2.2.2.2.2.2.1, zoned := s85.2.2.2.2.2.2.2.2.2.2.2.1, names := s85.2.2.2.2.2.2.2.2.2.2.2.2.1, oneways := s85.2.2.2.2.2.2.2.2.2.2.2.2.2.1, shelves := s85.2.2.2.2.2.2.2.2.2.2.2.2.2.2.1, zones := s85.2.2.2.2.2.2.2.2.2.2.2.2.2.2.2.1 : SurveyMaker }) _ hm) en68 (fun x95 hm => ?_)
 refine U.pd 1 T (C.nx ?_)
 refine C.ite rfl hm (fun hb96 hm => ?_) (fun hb96 hm => ?_)
 refine C.seq (U.start ?_)
 refine U.pd 1 T (C.nx (C.ret (C.brt (C.rt (C.rt (C.brt (C.rt ?_)))))))
 exact C.f1 T hβ ⟨false, hm, rfl, rfl, rfl⟩
 refine C.skip (C.bnx (C.nx (U.start ?_)))
 refine U.pd 2 T (C.nx ?_)
 exact St.wk (C.next hm) (Wk.a [some 0, some 25, some 26, some 27, some 28, some 29, some 30, some 31, some 32, some 33, some 34, some 35])
 refine C.exit (C.ex (C.ex (C.bex ?_)))
 exact St.wa (idR 12) (hJ84 _ hm)
 refine C.block ?_
 refine St.wk (C.loop (fun (s65 : Int × Int × Int × List Int × List Int × List ApiZone × List ApiApart × List ApiShelf × List ApiStart × List (Int × Int) × List (Int × Bool) × List (Int × Bool) × List (ByteArray × Int) × List (Int × Bool) × List Int × List Int × Int) => [(1, .p 0 0), (3, .p 1 0), (74, .sl 2 eApiShelf s_1.Shelves), (75, .i (s_1.Shelves.length : Int)), (76, .i s65.2.2.2.2.2.2.2.2.2.2.2.2.2.2.2.2)]) (fun (s65 : Int × Int × Int × List Int × List Int × List ApiZone × List ApiApart × List ApiShelf × List ApiStart × List (Int × Int) × List (Int × Bool) × List (Int × Bool) × List (ByteArray × Int) × List (Int × Bool) × List Int × List Int × Int) => [(0, .box (eApiSite s_1)), (1, .box [.i s65.1, .i s65.2.1, .i s65.2.2.1, .sl 1 eI s65.2.2.2.1, .sl 1 eI s65.2.2.2.2.1, .o 2, .o 3, .o 4, .o 5, .o 6, .o 7, .o 8, .o 9, .o 10, .o 11, .o 12]), (2, .val (.os 5 eApiZone s65.2.2.2.2.2.1)), (3, .val (.os 2 eApiApart s65.2.2.2.2.2.2.1)), (4, .val (.os 2 eApiShelf s65.2.2.2.2.2.2.2.1)), (5, .val (.os 2 eApiStart s65.2.2.2.2.2.2.2.2.1)), (6, .val (.om kI veI s65.2.2.2.2.2.2.2.2.2.1)), (7, .val (.om kI veB s65.2.2.2.2.2.2.2.2.2.2.1)), (8, .val (.om kI veB s65.2.2.2.2.2.2.2.2.2.2.2.1)), (9, .val (.om kS veI s65.2.2.2.2.2.2.2.2.2.2.2.2.1)), (10, .val (.om kI veB s65.2.2.2.2.2.2.2.2.2.2.2.2.2.1)), (11, .val (.os 1 eI s65.2.2.2.2.2.2.2.2.2.2.2.2.2.2.1)), (12, .val (.os 1 eI s65.2.2.2.2.2.2.2.2.2.2.2.2.2.2.2.1))]) hm (fun s65 Y66 hm => ?_)) (Wk.a (idR 13))
 refine C.seq (U.start ?_)
 refine U.pd 1 T (C.nx (C.seq ?_))
 refine C.ite rfl hm (fun hb69 hm => ?_) (fun hb69 hm => ?_)
 refine C.skip (C.nx (C.seq (C.block (C.seq (U.start ?_)))))
 obtain ⟨x72, hx72, hm⟩ := hm
 refine U.r rfl (.none rfl) rfl rfl (by exact Rd.ix T rfl rfl rfl rfl rfl rfl hx72) ?_
 refine U.ps 1 T rfl ?_
 refine U.e1 rfl (.none rfl) (by exact Eff1.al T rfl rfl rfl rfl) ?_
 refine U.e1 rfl (.none rfl) (by exact Eff1.st T rfl rfl rfl rfl rfl rfl rfl rfl rfl rfl) ?_
 refine U.done (C.nx (C.seq (U.start ?_)))
 refine U.ps 2 T rfl ?_
 refine U.c (sqR 1 12) (T_survey_maker_addShelf__p0 x72 ({ site := ({ Floor := ({ W := s65.1, H := s65.2.1, D := s65.2.2.1, Kind := s65.2.2.2.1, Out := s65.2.2.2.2.1 : ApiFloor }), Zones := s65.2.2.2.2.2.1, Aparts := s65.2.2.2.2.2.2.1, Shelves := s65.2.2.2.2.2.2.2.1, Robots := s65.2.2.2.2.2.2.2.2.1 : ApiSite }), shelf := s65.2.2.2.2.2.2.2.2.2.1, robot := s65.2.2.2.2.2.2.2.2.2.2.1, zoned := s65.2.2.2.2.2.2.2.2.2.2.2.1, names := s65.2.2.2.2.2.2.2.2.2.2.2.2.1, oneways := s65.2.2.2.2.2.2.2.2.2.2.2.2.2.1, shelves := s65.2.2.2.2.2.2.2.2.2.2.2.2.2.2.1, zones := s65.2.2.2.2.2.2.2.2.2.2.2.2.2.2.2.1 : SurveyMaker }) _ hm) en67 (fun x75 hm => ?_)
 refine U.pd 1 T (C.nx ?_)
 refine C.ite rfl hm (fun hb76 hm => ?_) (fun hb76 hm => ?_)
 refine C.seq (U.start ?_)
 refine U.pd 1 T (C.nx (C.ret (C.brt (C.rt (C.rt (C.brt (C.rt ?_)))))))
 exact C.f1 T hβ ⟨false, hm, rfl, rfl, rfl⟩
 refine C.skip (C.bnx (C.nx (U.start ?_)))
 refine U.pd 2 T (C.nx ?_)
 exact St.wk (C.next hm) (Wk.a [some 0, some 1, some 26, some 27, some 28, some 29, some 30, some 31, some 32, some 33, some 34, some 35, some 36])
 refine C.exit (C.ex (C.ex (C.bex ?_)))
 exact St.wa (idR 13) (hJ64 _ hm)
 refine C.block ?_
 refine St.wk (C.loop (fun (s45 : Int × Int × Int × List Int × List Int × List ApiZone × List ApiApart × List ApiShelf × List ApiStart × List (Int × Int) × List (Int × Bool) × List (Int × Bool) × List (ByteArray × Int) × List (Int × Bool) × List Int × List Int × Int) => [(1, .p 0 0), (3, .p 1 0), (62, .sl 2 eApiApart s_1.Aparts), (63, .i (s_1.Aparts.length : Int)), (64, .i s45.2.2.2.2.2.2.2.2.2.2.2.2.2.2.2.2)]) (fun (s45 : Int × Int × Int × List Int × List Int × List ApiZone × List ApiApart × List ApiShelf × List ApiStart × List (Int × Int) × List (Int × Bool) × List (Int × Bool) × List (ByteArray × Int) × List (Int × Bool) × List Int × List Int × Int) => [(0, .box (eApiSite s_1)), (1, .box [.i s45.1, .i s45.2.1, .i s45.2.2.1, .sl 1 eI s45.2.2.2.1, .sl 1 eI s45.2.2.2.2.1, .o 2, .o 3, .o 4, .o 5, .o 6, .o 7, .o 8, .o 9, .o 10, .o 11, .o 12]), (2, .val (.os 5 eApiZone s45.2.2.2.2.2.1)), (3, .val (.os 2 eApiApart s45.2.2.2.2.2.2.1)), (4, .val (.os 2 eApiShelf s45.2.2.2.2.2.2.2.1)), (5, .val (.os 2 eApiStart s45.2.2.2.2.2.2.2.2.1)), (6, .val (.om kI veI s45.2.2.2.2.2.2.2.2.2.1)), (7, .val (.om kI veB s45.2.2.2.2.2.2.2.2.2.2.1)), (8, .val (.om kI veB s45.2.2.2.2.2.2.2.2.2.2.2.1)), (9, .val (.om kS veI s45.2.2.2.2.2.2.2.2.2.2.2.2.1)), (10, .val (.om kI veB s45.2.2.2.2.2.2.2.2.2.2.2.2.2.1)), (11, .val (.os 1 eI s45.2.2.2.2.2.2.2.2.2.2.2.2.2.2.1)), (12, .val (.os 1 eI s45.2.2.2.2.2.2.2.2.2.2.2.2.2.2.2.1))]) hm (fun s45 Y46 hm => ?_)) (Wk.a (idR 13))
 refine C.seq (U.start ?_)
 refine U.pd 1 T (C.nx (C.seq ?_))
 refine C.ite rfl hm (fun hb49 hm => ?_) (fun hb49 hm => ?_)
 refine C.skip (C.nx (C.seq (C.block (C.seq (U.start ?_)))))
 obtain ⟨x52, hx52, hm⟩ := hm
 refine U.r rfl (.none rfl) rfl rfl (by exact Rd.ix T rfl rfl rfl rfl rfl rfl hx52) ?_
 refine U.ps 1 T rfl ?_
 refine U.e1 rfl (.none rfl) (by exact Eff1.al T rfl rfl rfl rfl) ?_
 refine U.e1 rfl (.none rfl) (by exact Eff1.st T rfl rfl rfl rfl rfl rfl rfl rfl rfl rfl) ?_
 refine U.done (C.nx (C.seq (U.start ?_)))
 refine U.ps 2 T rfl ?_
 refine U.c (sqR 1 12) (T_survey_maker_addApart__p0 x52 ({ site := ({ Floor := ({ W := s45.1, H := s45.2.1, D := s45.2.2.1, Kind := s45.2.2.2.1, Out := s45.2.2.2.2.1 : ApiFloor }), Zones := s45.2.2.2.2.2.1, Aparts := s45.2.2.2.2.2.2.1, Shelves := s45.2.2.2.2.2.2.2.1, Robots := s45.2.2.2.2.2.2.2.2.1 : ApiSite }), shelf := s45.2.2.2.2.2.2.2.2.2.1, robot := s45.2.2.2.2.2.2.2.2.2.2.1, zoned := s45.2.2.2.2.2.2.2.2.2.2.2.1, names := s45.2.2.2.2.2.2.2.2.2.2.2.2.1, oneways := s45.2.2.2.2.2.2.2.2.2.2.2.2.2.1, shelves := s45.2.2.2.2.2.2.2.2.2.2.2.2.2.2.1, zones := s45.2.2.2.2.2.2.2.2.2.2.2.2.2.2.2.1 : SurveyMaker }) _ hm) en66 (fun x55 hm => ?_)
 refine U.pd 1 T (C.nx ?_)
 refine C.ite rfl hm (fun hb56 hm => ?_) (fun hb56 hm => ?_)
 refine C.seq (U.start ?_)
 refine U.pd 1 T (C.nx (C.ret (C.brt (C.rt (C.rt (C.brt (C.rt ?_)))))))
 exact C.f1 T hβ ⟨false, hm, rfl, rfl, rfl⟩
 refine C.skip (C.bnx (C.nx (U.start ?_)))
 refine U.pd 2 T (C.nx ?_)
 exact St.wk (C.next hm) (Wk.a [some 0, some 1, some 26, some 27, some 28, some 29, some 30, some 31, some 32, some 33, some 34, some 35, some 36])
 refine C.exit (C.ex (C.ex (C.bex ?_)))
 exact St.wa (idR 13) (hJ44 _ hm)
 refine C.block ?_
 refine St.wk (C.loop (fun (s16 : Int × Int × Int × List Int × List Int × List ApiZone × List ApiApart × List ApiShelf × List ApiStart × List (Int × Int) × List (Int × Bool) × List (Int × Bool) × List (ByteArray × Int) × List (Int × Bool) × List Int × List Int × Int) => [(1, .p 0 0), (3, .p 1 0), (20, .sl 5 eApiZone s_1.Zones), (21, .i (s_1.Zones.length : Int)), (22, .i s16.2.2.2.2.2.2.2.2.2.2.2.2.2.2.2.2)]) (fun (s16 : Int × Int × Int × List Int × List Int × List ApiZone × List ApiApart × List ApiShelf × List ApiStart × List (Int × Int) × List (Int × Bool) × List (Int × Bool) × List (ByteArray × Int) × List (Int × Bool) × List Int × List Int × Int) => [(0, .box (eApiSite s_1)), (1, .box [.i s16.1, .i s16.2.1, .i s16.2.2.1, .sl 1 eI s16.2.2.2.1, .sl 1 eI s16.2.2.2.2.1, .o 2, .o 3, .o 4, .o 5, .o 6, .o 7, .o 8, .o 9, .o 10, .o 11, .o 12]), (2, .val (.os 5 eApiZone s16.2.2.2.2.2.1)), (3, .val (.os 2 eApiApart s16.2.2.2.2.2.2.1)), (4, .val (.os 2 eApiShelf s16.2.2.2.2.2.2.2.1)), (5, .val (.os 2 eApiStart s16.2.2.2.2.2.2.2.2.1)), (6, .val (.om kI veI s16.2.2.2.2.2.2.2.2.2.1)), (7, .val (.om kI veB s16.2.2.2.2.2.2.2.2.2.2.1)), (8, .val (.om kI veB s16.2.2.2.2.2.2.2.2.2.2.2.1)), (9, .val (.om kS veI s16.2.2.2.2.2.2.2.2.2.2.2.2.1)), (10, .val (.om kI veB s16.2.2.2.2.2.2.2.2.2.2.2.2.2.1)), (11, .val (.os 1 eI s16.2.2.2.2.2.2.2.2.2.2.2.2.2.2.1)), (12, .val (.os 1 eI s16.2.2.2.2.2.2.2.2.2.2.2.2.2.2.2.1))]) hm (fun s16 Y17 hm => ?_)) (Wk.a [some 0, some 12, some 1, some 2, some 3, some 4, some 5, some 6, some 7, some 8, some 9, some 10, some 11])
 refine C.seq (U.start ?_)
 refine U.pd 1 T (C.nx (C.seq ?_))
 refine C.ite rfl hm (fun hb20 hm => ?_) (fun hb20 hm => ?_)
 refine C.skip (C.nx (C.seq (C.block (C.seq (U.start ?_)))))
 obtain ⟨x23, hx23, hm⟩ := hm
 refine U.r rfl (.none rfl) rfl rfl (by exact Rd.ix T rfl rfl rfl rfl rfl rfl hx23) ?_
 refine U.ps 1 T rfl ?_
 refine U.e1 rfl (.none rfl) (by exact Eff1.al T rfl rfl rfl rfl) ?_
 refine U.e1 rfl (.none rfl) (by exact Eff1.st T rfl rfl rfl rfl rfl rfl rfl rfl rfl rfl) ?_
 refine U.done (C.nx (C.seq ?_))
 refine C.jn (fun (x24 : Int × Int × Int × List Int × List Int × List ApiZone × List ApiApart × List ApiShelf × List ApiStart × List (Int × Int) × List (Int × Bool) × List (Int × Bool) × List (ByteArray × Int) × List (Int × Bool) × List Int × List Int × Bool) => [(1, .p 0 0), (3, .p 1 0), (20, .sl 5 eApiZone s_1.Zones), (21, .i (s_1.Zones.length : Int)), (22, .i s16.2.2.2.2.2.2.2.2.2.2.2.2.2.2.2.2), (59, .b x24.2.2.2.2.2.2.2.2.2.2.2.2.2.2.2.2)]) (fun (x24 : Int × Int × Int × List Int × List Int × List ApiZone × List ApiApart × List ApiShelf × List ApiStart × List (Int × Int) × List (Int × Bool) × List (Int × Bool) × List (ByteArray × Int) × List (Int × Bool) × List Int × List Int × Bool) => [(0, .box (eApiSite s_1)), (1, .box [.i x24.1, .i x24.2.1, .i x24.2.2.1, .sl 1 eI x24.2.2.2.1, .sl 1 eI x24.2.2.2.2.1, .o 2, .o 3, .o 4, .o 5, .o 6, .o 7, .o 8, .o 9, .o 10, .o 11, .o 12]), (2, .val (.os 5 eApiZone x24.2.2.2.2.2.1)), (3, .val (.os 2 eApiApart x24.2.2.2.2.2.2.1)), (4, .val (.os 2 eApiShelf x24.2.2.2.2.2.2.2.1)), (5, .val (.os 2 eApiStart x24.2.2.2.2.2.2.2.2.1)), (6, .val (.om kI veI x24.2.2.2.2.2.2.2.2.2.1)), (7, .val (.om kI veB x24.2.2.2.2.2.2.2.2.2.2.1)), (8, .val (.om kI veB x24.2.2.2.2.2.2.2.2.2.2.2.1)), (9, .val (.om kS veI x24.2.2.2.2.2.2.2.2.2.2.2.2.1)), (10, .val (.om kI veB x24.2.2.2.2.2.2.2.2.2.2.2.2.2.1)), (11, .val (.os 1 eI x24.2.2.2.2.2.2.2.2.2.2.2.2.2.2.1)), (12, .val (.os 1 eI x24.2.2.2.2.2.2.2.2.2.2.2.2.2.2.2.1))]) 13 hm (fun x24 hm => ?_) (fun J25 hm hJ25 => ?_)
 refine C.nx ?_
 refine C.ite rfl hm (fun hb36 hm => ?_) (fun hb36 hm => ?_)
 refine C.seq (U.start ?_)
 refine U.pd 1 T (C.nx (C.ret (C.brt (C.rt (C.rt (C.brt (C.rt ?_)))))))
 exact C.f1 T hβ ⟨false, hm, rfl, rfl, rfl⟩
 refine C.skip (C.bnx (C.nx (U.start ?_)))
 refine U.pd 2 T (C.nx ?_)
 exact St.wk (C.next hm) (Wk.a (idR 13))
 refine U.start ?_
 refine U.ps 2 T rfl ?_
 refine U.k (T_survey_Name x23.Name _ hm) en61 (fun x26 hm => ?_)
 refine U.ps 2 T rfl ?_
 refine hm.cs (fun hb27 hm => ?_) (fun hb27 hm => ?_)
 refine U.pg 2 4 false 30 (ntF hb27) T rfl rfl rfl rfl ?_
 refine U.k (T_survey_within x23.Speed 1 100 _ hm) en62 (fun x28 hm => ?_) (hw := .take 4 false 30 _ (ntF hb27) rfl rfl rfl)
 refine U.pg 1 4 false 30 (ntF hb27) T rfl rfl rfl rfl ?_
 refine U.r rfl (.none rfl) rfl rfl (by exact Rd.pk' rfl rfl (ntF hb27) rfl) ?_
 refine U.ps 1 T rfl ?_
 refine hm.cs (fun hb29 hm => ?_) (fun hb29 hm => ?_)
 refine U.pg 3 10 false 36 (ntF hb29) T rfl rfl rfl rfl ?_
 refine U.r rfl (.none rfl) rfl rfl (by exact Rd.pk' rfl rfl (ntF hb29) rfl) ?_
 refine U.ps 1 T rfl ?_
 refine hm.cs (fun hb30 hm => ?_) (fun hb30 hm => ?_)
 refine U.sks 4 15 false 41 hb30 rfl rfl rfl ?_
 refine U.pk hb30 ?_
 refine U.ps 1 T rfl ?_
 refine U.sks 5 21 false 47 rfl rfl rfl rfl ?_
 refine U.pk rfl ?_
 refine U.ps 1 T rfl ?_
 refine U.sks 4 28 false 54 rfl rfl rfl rfl ?_
 refine U.pk rfl ?_
 refine U.done ?_
 exact St.wa (idR 13) (hJ25 _ hm)
 refine U.pg 2 15 false 41 hb30 T rfl rfl rfl rfl ?_
 refine U.k (T_survey_shut x23.Shut _ hm) en63 (fun x31 hm => ?_) (hw := .take 15 false 41 _ hb30 rfl rfl rfl)
 refine U.pg 1 15 false 41 hb30 T rfl rfl rfl rfl ?_
 refine U.pk' hb30 ?_
 refine U.ps 1 T rfl ?_
 refine hm.cs (fun hb32 hm => ?_) (fun hb32 hm => ?_)
 refine U.pg 3 21 false 47 (ntF hb32) T rfl rfl rfl rfl ?_
 refine U.k (T_survey_maker_cells ({ site := ({ Floor := ({ W := s16.1, H := s16.2.1, D := s16.2.2.1, Kind := s16.2.2.2.1, Out := s16.2.2.2.2.1 : ApiFloor }), Zones := s16.2.2.2.2.2.1, Aparts := s16.2.2.2.2.2.2.1, Shelves := s16.2.2.2.2.2.2.2.1, Robots := s16.2.2.2.2.2.2.2.2.1 : ApiSite }), shelf := s16.2.2.2.2.2.2.2.2.2.1, robot := s16.2.2.2.2.2.2.2.2.2.2.1, zoned := s16.2.2.2.2.2.2.2.2.2.2.2.1, names := s16.2.2.2.2.2.2.2.2.2.2.2.2.1, oneways := s16.2.2.2.2.2.2.2.2.2.2.2.2.2.1, shelves := s16.2.2.2.2.2.2.2.2.2.2.2.2.2.2.1, zones := s16.2.2.2.2.2.2.2.2.2.2.2.2.2.2.2.1 : SurveyMaker }) x23.Cells _ hm) en64 (fun x33 hm => ?_) (hw := .take 21 false 47 _ (ntF hb32) rfl rfl rfl)
 refine U.pg 1 21 false 47 (ntF hb32) T rfl rfl rfl rfl ?_
 refine U.r rfl (.none rfl) rfl rfl (by exact Rd.pk' rfl rfl (ntF hb32) rfl) ?_
 refine U.ps 1 T rfl ?_
 refine hm.cs (fun hb34 hm => ?_) (fun hb34 hm => ?_)
 refine U.pg 2 28 false 54 (ntF hb34) T rfl rfl rfl rfl ?_
 refine U.c (sqR 1 12) (T_survey_maker_addZone__p0 x23 ({ site := ({ Floor := ({ W := s16.1, H := s16.2.1, D := s16.2.2.1, Kind := s16.2.2.2.1, Out := s16.2.2.2.2.1 : ApiFloor }), Zones := s16.2.2.2.2.2.1, Aparts := s16.2.2.2.2.2.2.1, Shelves := s16.2.2.2.2.2.2.2.1, Robots := s16.2.2.2.2.2.2.2.2.1 : ApiSite }), shelf := s16.2.2.2.2.2.2.2.2.2.1, robot := s16.2.2.2.2.2.2.2.2.2.2.1, zoned := s16.2.2.2.2.2.2.2.2.2.2.2.1, names := s16.2.2.2.2.2.2.2.2.2.2.2.2.1, oneways := s16.2.2.2.2.2.2.2.2.2.2.2.2.2.1, shelves := s16.2.2.2.2.2.2.2.2.2.2.2.2.2.2.1, zones := s16.2.2.2.2.2.2.2.2.2.2.2.2.2.2.2.1 : SurveyMaker }) _ hm) en65 (fun x35 hm => ?_) (hw := .take 28 false 54 _ (ntF hb34) rfl rfl rfl)
 refine U.pg 1 28 false 54 (ntF hb34) T rfl rfl rfl rfl ?_
 refine U.r rfl (.none rfl) rfl rfl (by exact Rd.pk' rfl rfl (ntF hb34) rfl) ?_
 refine U.done ?_
 exact St.wa [some 0, some 1, some 26, some 27, some 28, some 29, some 30, some 31, some 32, some 33, some 34, some 35, some 36] (hJ25 _ hm)
 refine U.sks 4 28 false 54 (ntT hb34) rfl rfl rfl ?_
 refine U.r rfl (.none rfl) rfl rfl (by exact Rd.pk rfl rfl (ntT hb34) rfl) ?_
 refine U.done ?_
 exact St.wa (idR 13) (hJ25 _ hm)
 refine U.sks 5 21 false 47 (ntT hb32) rfl rfl rfl ?_
 refine U.r rfl (.none rfl) rfl rfl (by exact Rd.pk rfl rfl (ntT hb32) rfl) ?_
 refine U.ps 1 T rfl ?_
 refine U.sks 4 28 false 54 rfl rfl rfl rfl ?_
 refine U.pk rfl ?_
 refine U.done ?_
 exact St.wa (idR 13) (hJ25 _ hm)
 refine U.sks 3 10 false 36 (ntT hb29) rfl rfl rfl ?_
 refine U.r rfl (.none rfl) rfl rfl (by exact Rd.pk rfl rfl (ntT hb29) rfl) ?_
 refine U.ps 1 T rfl ?_
 refine U.sks 4 15 false 41 rfl rfl rfl rfl ?_
 refine U.pk rfl ?_
 refine U.ps 1 T rfl ?_
 refine U.sks 5 21 false 47 rfl rfl rfl rfl ?_
 refine U.pk rfl ?_
 refine U.ps 1 T rfl ?_
 refine U.sks 4 28 false 54 rfl rfl rfl rfl ?_
 refine U.pk rfl ?_
 refine U.done ?_
 exact St.wa (idR 13) (hJ25 _ hm)
 refine U.sks 4 4 false 30 (ntT hb27) rfl rfl rfl ?_
 refine U.r rfl (.none rfl) rfl rfl (by exact Rd.pk rfl rfl (ntT hb27) rfl) ?_
 refine U.ps 1 T rfl ?_
 refine U.sks 3 10 false 36 rfl rfl rfl rfl ?_
 refine U.pk rfl ?_
 refine U.ps 1 T rfl ?_
 refine U.sks 4 15 false 41 rfl rfl rfl rfl ?_
 refine U.pk rfl ?_
 refine U.ps 1 T rfl ?_
 refine U.sks 5 21 false 47 rfl rfl rfl rfl ?_
 refine U.pk rfl ?_
 refine U.ps 1 T rfl ?_
 refine U.sks 4 28 false 54 rfl rfl rfl rfl ?_
 refine U.pk rfl ?_
 refine U.done ?_
 exact St.wa (idR 13) (hJ25 _ hm)
 refine C.exit (C.ex (C.ex (C.bex ?_)))
 exact St.wa (idR 13) (hJ15 _ hm)
theorem T_taquinlaw16_small (post : Bool → Prop) (hm : V_taquinlaw16_small post) :
    Tr Tryz.prog 8 [] [] 0 (fun A H' k => ∃ y, post y ∧ A = (.b y) ∧ H' = [] ∧ k = 0) := by
 refine Tr.intro (n := 102) Tryz.func8 rfl Tryz.ntmps8 rfl (fun w0 ok F β hβ => ?_)
 unfold V_taquinlaw16_small at hm
 refine C.seq (U.start ?_)
 refine U.pd 1 T (C.nx (C.seq (U.start ?_)))
 refine U.e rfl (.none rfl) (by exact Eff.c [] (v := false) (T_taquinlaw16_site _ hm) en32 rfl rfl rfl (.eq rfl) trivial rfl rfl rfl rfl rfl rfl (fun h => by cases h) (.inr ⟨rfl, rfl⟩) (fun _ => rfl) (fun _ => rfl) rfl) (fun x5' hm => ?_)
 obtain ⟨x5⟩ := x5'
 refine U.e1 rfl (.none rfl) (by exact Eff1.al T rfl rfl rfl rfl) ?_
 refine U.e1 rfl (.none rfl) (by exact Eff1.st T rfl rfl rfl rfl rfl rfl rfl rfl rfl rfl) ?_
 refine U.done (C.nx (C.seq (U.start ?_)))
 refine U.ps 1 T rfl ?_
 refine U.k (T_body_First x5 _ hm) en33 (fun x8 hm => ?_)
 refine U.e1 rfl (.none rfl) (by exact Eff1.al T rfl rfl rfl rfl) ?_
 refine U.e1 rfl (.none rfl) (by exact Eff1.st T rfl rfl rfl rfl rfl rfl rfl rfl rfl rfl) ?_
 refine U.done (C.nx (C.seq (U.start ?_)))
 refine U.pd 1 T (C.nx (C.seq (U.start ?_)))
 refine U.pd 1 T (C.nx (C.seq (U.start ?_)))
 refine U.ps 4 T rfl ?_
 refine U.e1 rfl (.none rfl) (by exact Eff1.bs T (enc := eI) (xs := ([1, 3] : List Int)) rfl rfl rfl rfl rfl rfl rfl rfl rfl rfl (fun _ _ => rfl) rfl rfl) ?_
 refine U.ps 1 T rfl ?_
 refine U.k (T_arena_Step x5 x8 ([1, 3] : List Int) ({ Kind := 0, A := 0, N := 0 : ApiFault }) _ hm) en17 (fun x15 hm => ?_)
 refine U.ps 3 T rfl ?_
 refine U.e1 rfl (.none rfl) (by exact Eff1.al T rfl rfl rfl rfl) ?_
 refine U.e1 rfl (.none rfl) (by exact Eff1.st T rfl rfl rfl rfl rfl rfl rfl rfl rfl rfl) ?_
 refine U.pd 1 T (C.nx (C.seq (U.start ?_)))
 refine U.ps 3 T rfl ?_
 refine U.e1 rfl (.none rfl) (by exact Eff1.bs T (enc := eI) (xs := ([1, 0] : List Int)) rfl rfl rfl rfl rfl rfl rfl rfl rfl rfl (fun _ _ => rfl) rfl rfl) ?_
 refine U.ps 1 T rfl ?_
 refine U.k (T_arena_Step x5 x8 ([1, 0] : List Int) ({ Kind := 2, A := 1, N := 0 : ApiFault }) _ hm) en17 (fun x18 hm => ?_)
 refine U.ps 3 T rfl ?_
 refine U.e1 rfl (.none rfl) (by exact Eff1.al T rfl rfl rfl rfl) ?_
 refine U.e1 rfl (.none rfl) (by exact Eff1.st T rfl rfl rfl rfl rfl rfl rfl rfl rfl rfl) ?_
 refine U.pd 1 T (C.nx (C.seq (U.start ?_)))
 refine U.ps 4 T rfl ?_
 refine U.e1 rfl (.none rfl) (by exact Eff1.bs T (enc := eI) (xs := ([1, 1] : List Int)) rfl rfl rfl rfl rfl rfl rfl rfl rfl rfl (fun _ _ => rfl) rfl rfl) ?_
 refine U.ps 1 T rfl ?_
 refine U.k (T_arena_Step x5 x8 ([1, 1] : List Int) ({ Kind := 0, A := 0, N := 0 : ApiFault }) _ hm) en17 (fun x21 hm => ?_)
 refine U.ps 3 T rfl ?_
 refine U.e1 rfl (.none rfl) (by exact Eff1.al T rfl rfl rfl rfl) ?_
 refine U.e1 rfl (.none rfl) (by exact Eff1.st T rfl rfl rfl rfl rfl rfl rfl rfl rfl rfl) ?_
 refine U.pd 1 T (C.nx (C.seq (C.seq ?_)))
 refine C.jn (fun (x22 : Bool) => [(1, .p 0 0), (6, .i x15.2), (7, .p 7 0), (8, .i x18.2), (9, .p 13 0), (10, .i x21.2), (58, .b x22)]) (fun (x22 : Bool) => [(0, .box [.i x5.Floor.W, .i x5.Floor.H, .i x5.Floor.D, .o 1, .o 2, .o 3, .o 4, .o 5, .o 6]), (1, .val (.os 1 eI x5.Floor.Kind)), (2, .val (.os 1 eI x5.Floor.Out)), (3, .val (.os 5 eApiZone x5.Zones)), (4, .val (.os 2 eApiApart x5.Aparts)), (5, .val (.os 2 eApiShelf x5.Shelves)), (6, .val (.os 2 eApiStart x5.Robots)), (7, .box [.i x18.1.Tick, .o 8, .o 9, .o 10, .o 11, .o 12]), (8, .val (.os 1 eI x18.1.Shelves)), (9, .val (.os 6 eApiRobot x18.1.Robots)), (10, .val (.os 1 eI x18.1.People)), (11, .val (.os 1 eI x18.1.Dead)), (12, .val (.os 2 eApiStuck x18.1.Stuck)), (13, .box [.i x21.1.Tick, .o 14, .o 15, .o 16, .o 17, .o 18]), (14, .val (.os 1 eI x21.1.Shelves)), (15, .val (.os 6 eApiRobot x21.1.Robots)), (16, .val (.os 1 eI x21.1.People)), (17, .val (.os 1 eI x21.1.Dead)), (18, .val (.os 2 eApiStuck x21.1.Stuck))]) 19 hm (fun x22 hm => ?_) (fun J23 hm hJ23 => ?_)
 refine C.nx ?_
 refine C.ite rfl hm (fun hb26 hm => ?_) (fun hb26 hm => ?_)
 refine C.seq (U.start ?_)
 refine U.pd 1 T (C.nx (C.ret (C.rt ?_)))
 exact C.f1 T hβ ⟨false, hm, rfl, rfl, rfl⟩
 refine C.skip (C.nx (C.seq ?_))
 refine C.jn (fun (x29 : Bool) => [(0, .b x29)]) (fun (x29 : Bool) => []) 0 hm (fun x29 hm => ?_) (fun J30 hm hJ30 => ?_)
 refine C.nx (C.ret ?_)
 exact C.f1 T hβ ⟨x29, hm, rfl, rfl, rfl⟩
 refine U.start ?_
 refine U.ps 3 T rfl ?_
 refine hm.cs (fun hb31 hm => ?_) (fun hb31 hm => ?_)
 refine U.pg 2 2 true 61 hb31 T rfl rfl rfl rfl ?_
 refine U.pk hb31 ?_
 refine U.ps 1 T rfl ?_
 refine hm.cs (fun hb32 hm => ?_) (fun hb32 hm => ?_)
 refine U.pg 2 6 true 65 hb32 T rfl rfl rfl rfl ?_
 obtain ⟨x33, hx33, hm⟩ := hm
 refine U.r rfl (.take 6 true 65 _ hb32 rfl rfl rfl) rfl rfl (by exact Rd.io T rfl rfl rfl rfl rfl rfl rfl hx33) ?_
 refine U.pg 1 6 true 65 hb32 T rfl rfl rfl rfl ?_
 refine U.r rfl (.take 6 true 65 _ hb32 rfl rfl rfl) rfl rfl (by exact Rd.le T rfl rfl rfl (idx_some hx33).2.2 rfl rfl rfl) ?_
 refine U.pg 1 6 true 65 hb32 T rfl rfl rfl rfl ?_
 refine U.pk hb32 ?_
 refine U.ps 1 T rfl ?_
 refine hm.cs (fun hb34 hm => ?_) (fun hb34 hm => ?_)
 refine U.pg 2 14 true 73 hb34 T rfl rfl rfl rfl ?_
 refine U.pk hb34 ?_
 refine U.ps 1 T rfl ?_
 refine hm.cs (fun hb35 hm => ?_) (fun hb35 hm => ?_)
 refine U.pg 2 18 true 77 hb35 T rfl rfl rfl rfl ?_
 obtain ⟨x36, hx36, hm⟩ := hm
 refine U.r rfl (.take 18 true 77 _ hb35 rfl rfl rfl) rfl rfl (by exact Rd.io T rfl rfl rfl rfl rfl rfl rfl hx36) ?_
 refine U.pg 1 18 true 77 hb35 T rfl rfl rfl rfl ?_
 refine U.r rfl (.take 18 true 77 _ hb35 rfl rfl rfl) rfl rfl (by exact Rd.le T rfl rfl rfl (idx_some hx36).2.2 rfl rfl rfl) ?_
 refine U.pg 1 18 true 77 hb35 T rfl rfl rfl rfl ?_
 refine U.pk hb35 ?_
 refine U.ps 1 T rfl ?_
 refine hm.cs (fun hb37 hm => ?_) (fun hb37 hm => ?_)
 refine U.pg 2 26 true 85 hb37 T rfl rfl rfl rfl ?_
 obtain ⟨x38, hx38, hm⟩ := hm
 refine U.r rfl (.take 26 true 85 _ hb37 rfl rfl rfl) rfl rfl (by exact Rd.io T rfl rfl rfl rfl rfl rfl rfl hx38) ?_
 refine U.pg 1 26 true 85 hb37 T rfl rfl rfl rfl ?_
 refine U.r rfl (.take 26 true 85 _ hb37 rfl rfl rfl) rfl rfl (by exact Rd.le T rfl rfl rfl (idx_some hx38).2.2 rfl rfl rfl) ?_
 refine U.pg 1 26 true 85 hb37 T rfl rfl rfl rfl ?_
 refine U.pk hb37 ?_
 refine U.ps 1 T rfl ?_
 refine hm.cs (fun hb39 hm => ?_) (fun hb39 hm => ?_)
 refine U.pg 3 34 true 93 hb39 T rfl rfl rfl rfl ?_
 refine U.pk hb39 ?_
 refine U.ps 1 T rfl ?_
 refine hm.cs (fun hb40 hm => ?_) (fun hb40 hm => ?_)
 refine U.pg 1 39 true 98 hb40 T rfl rfl rfl rfl ?_
 refine U.k (T_survey_Right x5 _ hm) en21 (fun x41 hm => ?_) (hw := .take 39 true 98 _ hb40 rfl rfl rfl)
 refine U.pk hb40 ?_
 refine U.pd 1 T ?_
 exact St.wn (hJ30 _ hm)
 refine U.sks 2 39 true 98 hb40 rfl rfl rfl ?_
 refine U.pk' hb40 ?_
 refine U.pd 1 T ?_
 exact St.wn (hJ30 _ hm)
 refine U.sks 3 34 true 93 hb39 rfl rfl rfl ?_
 refine U.pk' hb39 ?_
 refine U.ps 1 T rfl ?_
 refine U.sks 2 39 true 98 rfl rfl rfl rfl ?_
 refine U.pk' rfl ?_
 refine U.pd 1 T ?_
 exact St.wn (hJ30 _ hm)
 refine U.sks 6 26 true 85 hb37 rfl rfl rfl ?_
 refine U.pk' hb37 ?_
 refine U.ps 1 T rfl ?_
 refine U.sks 3 34 true 93 rfl rfl rfl rfl ?_
 refine U.pk' rfl ?_
 refine U.ps 1 T rfl ?_
 refine U.sks 2 39 true 98 rfl rfl rfl rfl ?_
 refine U.pk' rfl ?_
 refine U.pd 1 T ?_
 exact St.wn (hJ30 _ hm)
 refine U.sks 6 18 true 77 hb35 rfl rfl rfl ?_
 refine U.pk' hb35 ?_
 refine U.ps 1 T rfl ?_
 refine U.sks 6 26 true 85 rfl rfl rfl rfl ?_
 refine U.pk' rfl ?_
 refine U.ps 1 T rfl ?_
 refine U.sks 3 34 true 93 rfl rfl rfl rfl ?_
 refine U.pk' rfl ?_
 refine U.ps 1 T rfl ?_
 refine U.sks 2 39 true 98 rfl rfl rfl rfl ?_
 refine U.pk' rfl ?_
 refine U.pd 1 T ?_
 exact St.wn (hJ30 _ hm)
 refine U.sks 2 14 true 73 hb34 rfl rfl rfl ?_
 refine U.pk' hb34 ?_
 refine U.ps 1 T rfl ?_
 refine U.sks 6 18 true 77 rfl rfl rfl rfl ?_
 refine U.pk' rfl ?_
 refine U.ps 1 T rfl ?_
 refine U.sks 6 26 true 85 rfl rfl rfl rfl ?_
 refine U.pk' rfl ?_
 refine U.ps 1 T rfl ?_
 refine U.sks 3 34 true 93 rfl rfl rfl rfl ?_
 refine U.pk' rfl ?_
 refine U.ps 1 T rfl ?_
 refine U.sks 2 39 true 98 rfl rfl rfl rfl ?_
 refine U.pk' rfl ?_
 refine U.pd 1 T ?_
 exact St.wn (hJ30 _ hm)
 refine U.sks 6 6 true 65 hb32 rfl rfl rfl ?_
 refine U.pk' hb32 ?_
 refine U.ps 1 T rfl ?_
 refine U.sks 2 14 true 73 rfl rfl rfl rfl ?_
 refine U.pk' rfl ?_
 refine U.ps 1 T rfl ?_
 refine U.sks 6 18 true 77 rfl rfl rfl rfl ?_
 refine U.pk' rfl ?_
 refine U.ps 1 T rfl ?_
 refine U.sks 6 26 true 85 rfl rfl rfl rfl ?_
 refine U.pk' rfl ?_
 refine U.ps 1 T rfl ?_
 refine U.sks 3 34 true 93 rfl rfl rfl rfl ?_
 refine U.pk' rfl ?_
 refine U.ps 1 T rfl ?_
 refine U.sks 2 39 true 98 rfl rfl rfl rfl ?_
 refine U.pk' rfl ?_
 refine U.pd 1 T ?_
 exact St.wn (hJ30 _ hm)
 refine U.sks 2 2 true 61 hb31 rfl rfl rfl ?_
 refine U.pk' hb31 ?_
 refine U.ps 1 T rfl ?_
 refine U.sks 6 6 true 65 rfl rfl rfl rfl ?_
 refine U.pk' rfl ?_
 refine U.ps 1 T rfl ?_
 refine U.sks 2 14 true 73 rfl rfl rfl rfl ?_
 refine U.pk' rfl ?_
 refine U.ps 1 T rfl ?_
 refine U.sks 6 18 true 77 rfl rfl rfl rfl ?_
 refine U.pk' rfl ?_
 refine U.ps 1 T rfl ?_
 refine U.sks 6 26 true 85 rfl rfl rfl rfl ?_
 refine U.pk' rfl ?_
 refine U.ps 1 T rfl ?_
 refine U.sks 3 34 true 93 rfl rfl rfl rfl ?_
 refine U.pk' rfl ?_
 refine U.ps 1 T rfl ?_
 refine U.sks 2 39 true 98 rfl rfl rfl rfl ?_
 refine U.pk' rfl ?_
 refine U.pd 1 T ?_
 exact St.wn (hJ30 _ hm)
 refine U.start ?_
 refine U.ps 5 T rfl ?_
 refine hm.cs (fun hb24 hm => ?_) (fun hb24 hm => ?_)
 refine U.sks 4 4 false 47 hb24 rfl rfl rfl ?_
 refine U.pk hb24 ?_
 refine U.ps 1 T rfl ?_
 refine U.sks 4 10 false 53 rfl rfl rfl rfl ?_
 refine U.pk rfl ?_
 refine U.done ?_
 exact St.wa [some 6, some 0, some 1, some 2, some 3, some 4, some 5, some 26, some 21, some 22, some 23, some 24, some 25, some 33, some 28, some 29, some 30, some 31, some 32] (hJ23 _ hm)
 refine U.pg 4 4 false 47 hb24 T rfl rfl rfl rfl ?_
 refine U.pk' hb24 ?_
 refine U.ps 1 T rfl ?_
 refine hm.cs (fun hb25 hm => ?_) (fun hb25 hm => ?_)
 refine U.sks 4 10 false 53 hb25 rfl rfl rfl ?_
 refine U.pk hb25 ?_
 refine U.done ?_
 exact St.wa [some 6, some 0, some 1, some 2, some 3, some 4, some 5, some 26, some 21, some 22, some 23, some 24, some 25, some 33, some 28, some 29, some 30, some 31, some 32] (hJ23 _ hm)
 refine U.pg 4 10 false 53 hb25 T rfl rfl rfl rfl ?_
 refine U.pk' hb25 ?_
 refine U.done ?_
 exact St.wa [some 6, some 0, some 1, some 2, some 3, some 4, some 5, some 26, some 21, some 22, some 23, some 24, some 25, some 33, some 28, some 29, some 30, some 31, some 32] (hJ23 _ hm)
theorem T_taquinref07_Few (f : ApiFloor) (n : Int) (post : Bool → Prop) (hm : V_taquinref07_Few f n post) :
    Tr Tryz.prog 58 [.agg (eApiFloor f), .i n] [] 0 (fun A H' k => ∃ y, post y ∧ A = (.b y) ∧ H' = [] ∧ k = 0) := by
 refine Tr.intro (n := 17) Tryz.func58 rfl Tryz.ntmps58 rfl (fun w0 ok F β hβ => ?_)
 unfold V_taquinref07_Few at hm
 refine C.seq (U.start ?_)
 refine U.bx ?_
 refine U.pd 1 T (C.nx (C.seq ?_))
 refine C.jn (fun (x3 : Bool) => [(4, .b x3)]) (fun (x3 : Bool) => []) 0 hm (fun x3 hm => ?_) (fun J4 hm hJ4 => ?_)
 refine C.nx (C.ret ?_)
 exact C.f1 T hβ ⟨x3, hm, rfl, rfl, rfl⟩
 refine U.start ?_
 refine U.ps 6 T rfl ?_
 refine hm.cs (fun hb5 hm => ?_) (fun hb5 hm => ?_)
 refine U.pg 5 5 true 10 hb5 T rfl rfl rfl rfl ?_
 refine U.pk hb5 ?_
 refine U.pd 1 T ?_
 exact St.wn (hJ4 _ hm)
 refine U.sks 5 5 true 10 hb5 rfl rfl rfl ?_
 refine U.pk' hb5 ?_
 refine U.pd 1 T ?_
 exact St.wn (hJ4 _ hm)
theorem T_taquinref11_Few (s_1 : ApiSite) (cells : Int) (most : Int) (post : Bool → Prop) (hm : V_taquinref11_Few s_1 cells most post) :
    Tr Tryz.prog 20 [.agg (eApiSite s_1), .i cells, .i most] [] 0 (fun A H' k => ∃ y, post y ∧ A = (.b y) ∧ H' = [] ∧ k = 0) := by
 refine Tr.intro (n := 133) Tryz.func20 rfl Tryz.ntmps20 rfl (fun w0 ok F β hβ => ?_)
 unfold V_taquinref11_Few at hm
 refine C.seq (U.start ?_)
 refine U.bx ?_
 refine U.pd 1 T (C.nx (C.seq (C.seq (U.start ?_))))
 refine U.pd 1 T (C.nx ?_)
 refine C.jn (fun (x5 : Unit) => [(1, .i cells), (2, .i most), (3, .p 0 0)]) (fun (x5 : Unit) => [(0, .box (eApiSite s_1))]) 1 hm (fun x5 hm => ?_) (fun J6 hm hJ6 => ?_)
 refine C.nx (C.seq (C.seq (U.start ?_)))
 refine U.pd 1 T (C.nx ?_)
 refine C.jn (fun (x25 : Unit) => [(1, .i cells), (2, .i most), (3, .p 0 0)]) (fun (x25 : Unit) => [(0, .box (eApiSite s_1))]) 1 hm (fun x25 hm => ?_) (fun J26 hm hJ26 => ?_)
 refine C.nx (C.seq (C.seq (U.start ?_)))
 refine U.pd 1 T (C.nx ?_)
 refine C.jn (fun (x44 : Unit) => [(1, .i cells), (2, .i most), (3, .p 0 0)]) (fun (x44 : Unit) => [(0, .box (eApiSite s_1))]) 1 hm (fun x44 hm => ?_) (fun J45 hm hJ45 => ?_)
 refine C.nx (C.seq ?_)
 refine C.jn (fun (x60 : Bool) => [(6, .b x60)]) (fun (x60 : Bool) => []) 0 hm (fun x60 hm => ?_) (fun J61 hm hJ61 => ?_)
 refine C.nx (C.ret ?_)
 exact C.f1 T hβ ⟨x60, hm, rfl, rfl, rfl⟩
 refine U.start ?_
 refine U.ps 3 T rfl ?_
 refine U.k (T_taquinref07_Few s_1.Floor cells _ hm) en58 (fun x62 hm => ?_)
 refine U.ps 1 T rfl ?_
 refine hm.cs (fun hb63 hm => ?_) (fun hb63 hm => ?_)
 refine U.pg 5 4 true 105 hb63 T rfl rfl rfl rfl ?_
 refine U.pk hb63 ?_
 refine U.ps 1 T rfl ?_
 refine hm.cs (fun hb64 hm => ?_) (fun hb64 hm => ?_)
 refine U.pg 5 11 true 112 hb64 T rfl rfl rfl rfl ?_
 refine U.pk hb64 ?_
 refine U.ps 1 T rfl ?_
 refine hm.cs (fun hb65 hm => ?_) (fun hb65 hm => ?_)
 refine U.pg 5 18 true 119 hb65 T rfl rfl rfl rfl ?_
 refine U.pk hb65 ?_
 refine U.ps 1 T rfl ?_
 refine hm.cs (fun hb66 hm => ?_) (fun hb66 hm => ?_)
 refine U.pg 5 25 true 126 hb66 T rfl rfl rfl rfl ?_
 refine U.pk hb66 ?_
 refine U.pd 1 T ?_
 exact St.wn (hJ61 _ hm)
 refine U.sks 5 25 true 126 hb66 rfl rfl rfl ?_
 refine U.pk' hb66 ?_
 refine U.pd 1 T ?_
 exact St.wn (hJ61 _ hm)
 refine U.sks 5 18 true 119 hb65 rfl rfl rfl ?_
 refine U.pk' hb65 ?_
 refine U.ps 1 T rfl ?_
 refine U.sks 5 25 true 126 rfl rfl rfl rfl ?_
 refine U.pk' rfl ?_
 refine U.pd 1 T ?_
 exact St.wn (hJ61 _ hm)
 refine U.sks 5 11 true 112 hb64 rfl rfl rfl ?_
 refine U.pk' hb64 ?_
 refine U.ps 1 T rfl ?_
 refine U.sks 5 18 true 119 rfl rfl rfl rfl ?_
 refine U.pk' rfl ?_
 refine U.ps 1 T rfl ?_
 refine U.sks 5 25 true 126 rfl rfl rfl rfl ?_
 refine U.pk' rfl ?_
 refine U.pd 1 T ?_
 exact St.wn (hJ61 _ hm)
 refine U.sks 5 4 true 105 hb63 rfl rfl rfl ?_
 refine U.pk' hb63 ?_
 refine U.ps 1 T rfl ?_
 refine U.sks 5 11 true 112 rfl rfl rfl rfl ?_
 refine U.pk' rfl ?_
 refine U.ps 1 T rfl ?_
 refine U.sks 5 18 true 119 rfl rfl rfl rfl ?_
 refine U.pk' rfl ?_
 refine U.ps 1 T rfl ?_
 refine U.sks 5 25 true 126 rfl rfl rfl rfl ?_
 refine U.pk' rfl ?_
 refine U.pd 1 T ?_
 exact St.wn (hJ61 _ hm)
 refine C.block ?_
 refine St.wk (C.loop (fun (s46 : Int) => [(1, .i cells), (2, .i most), (3, .p 0 0), (9, .i s46)]) (fun (s46 : Int) => [(0, .box (eApiSite s_1))]) hm (fun s46 Y47 hm => ?_)) (Wk.a [some 0])
 refine C.seq (C.seq ?_)
 refine C.jn (fun (x48 : Bool) => [(1, .i cells), (2, .i most), (3, .p 0 0), (9, .i s46), (90, .b x48)]) (fun (x48 : Bool) => [(0, .box (eApiSite s_1))]) 1 hm (fun x48 hm => ?_) (fun J49 hm hJ49 => ?_)
 refine C.nx ?_
 refine C.ite rfl hm (fun hb51 hm => ?_) (fun hb51 hm => ?_)
 refine C.skip (C.nx (C.seq (C.block (C.seq (U.start ?_)))))
 refine U.ps 3 T rfl ?_
 obtain ⟨x54, hx54, hm⟩ := hm
 refine U.r rfl (.none rfl) rfl rfl (by exact Rd.ix T rfl rfl rfl rfl rfl rfl hx54) ?_
 refine U.pd 4 T (C.nx ?_)
 refine C.ite rfl hm (fun hb55 hm => ?_) (fun hb55 hm => ?_)
 refine C.seq (U.start ?_)
 refine U.pd 1 T (C.nx (C.ret (C.brt (C.rt (C.rt (C.brt (C.rt ?_)))))))
 exact C.f1 T hβ ⟨false, hm, rfl, rfl, rfl⟩
 refine C.skip (C.bnx (C.nx (U.start ?_)))
 refine U.pd 3 T (C.nx ?_)
 exact St.wk (C.next hm) (Wk.a [some 0])
 refine C.exit (C.ex (C.ex (C.bex ?_)))
 exact St.wa [some 0] (hJ45 _ hm)
 refine U.start ?_
 refine U.ps 6 T rfl ?_
 refine hm.cs (fun hb50 hm => ?_) (fun hb50 hm => ?_)
 refine U.pg 3 5 true 86 hb50 T rfl rfl rfl rfl ?_
 refine U.pk hb50 ?_
 refine U.done ?_
 exact St.wa [some 0] (hJ49 _ hm)
 refine U.sks 3 5 true 86 hb50 rfl rfl rfl ?_
 refine U.pk' hb50 ?_
 refine U.done ?_
 exact St.wa [some 0] (hJ49 _ hm)
 refine C.block ?_
 refine St.wk (C.loop (fun (s27 : Int) => [(1, .i cells), (2, .i most), (3, .p 0 0), (8, .i s27)]) (fun (s27 : Int) => [(0, .box (eApiSite s_1))]) hm (fun s27 Y28 hm => ?_)) (Wk.a [some 0])
 refine C.seq (C.seq ?_)
 refine C.jn (fun (x29 : Bool) => [(1, .i cells), (2, .i most), (3, .p 0 0), (8, .i s27), (60, .b x29)]) (fun (x29 : Bool) => [(0, .box (eApiSite s_1))]) 1 hm (fun x29 hm => ?_) (fun J30 hm hJ30 => ?_)
 refine C.nx ?_
 refine C.ite rfl hm (fun hb32 hm => ?_) (fun hb32 hm => ?_)
 refine C.skip (C.nx (C.seq (C.block (C.seq ?_))))
 refine C.jn (fun (x33 : Bool) => [(1, .i cells), (2, .i most), (3, .p 0 0), (8, .i s27), (80, .b x33)]) (fun (x33 : Bool) => [(0, .box (eApiSite s_1))]) 1 hm (fun x33 hm => ?_) (fun J34 hm hJ34 => ?_)
 refine C.nx ?_
 refine C.ite rfl hm (fun hb37 hm => ?_) (fun hb37 hm => ?_)
 refine C.seq (U.start ?_)
 refine U.pd 1 T (C.nx (C.ret (C.brt (C.rt (C.rt (C.brt (C.rt ?_)))))))
 exact C.f1 T hβ ⟨false, hm, rfl, rfl, rfl⟩
 refine C.skip (C.bnx (C.nx (U.start ?_)))
 refine U.pd 3 T (C.nx ?_)
 exact St.wk (C.next hm) (Wk.a [some 0])
 refine U.start ?_
 refine U.ps 3 T rfl ?_
 obtain ⟨x35, hx35, hm⟩ := hm
 refine U.r rfl (.none rfl) rfl rfl (by exact Rd.ix T rfl rfl rfl rfl rfl rfl hx35) ?_
 refine U.ps 5 T rfl ?_
 refine hm.cs (fun hb36 hm => ?_) (fun hb36 hm => ?_)
 refine U.sks 8 8 false 71 hb36 rfl rfl rfl ?_
 refine U.pk hb36 ?_
 refine U.done ?_
 exact St.wa [some 0] (hJ34 _ hm)
 refine U.pg 3 8 false 71 hb36 T rfl rfl rfl rfl ?_
 refine U.r rfl (.take 8 false 71 _ hb36 rfl rfl rfl) rfl rfl (by exact Rd.ix T rfl rfl rfl rfl rfl rfl hx35) ?_
 refine U.pg 4 8 false 71 hb36 T rfl rfl rfl rfl ?_
 refine U.pk' hb36 ?_
 refine U.done ?_
 exact St.wa [some 0] (hJ34 _ hm)
 refine C.exit (C.ex (C.ex (C.bex ?_)))
 exact St.wa [some 0] (hJ26 _ hm)
 refine U.start ?_
 refine U.ps 6 T rfl ?_
 refine hm.cs (fun hb31 hm => ?_) (fun hb31 hm => ?_)
 refine U.pg 3 5 true 56 hb31 T rfl rfl rfl rfl ?_
 refine U.pk hb31 ?_
 refine U.done ?_
 exact St.wa [some 0] (hJ30 _ hm)
 refine U.sks 3 5 true 56 hb31 rfl rfl rfl ?_
 refine U.pk' hb31 ?_
 refine U.done ?_
 exact St.wa [some 0] (hJ30 _ hm)
 refine C.block ?_
 refine St.wk (C.loop (fun (s7 : Int) => [(1, .i cells), (2, .i most), (3, .p 0 0), (7, .i s7)]) (fun (s7 : Int) => [(0, .box (eApiSite s_1))]) hm (fun s7 Y8 hm => ?_)) (Wk.a [some 0])
 refine C.seq (C.seq ?_)
 refine C.jn (fun (x9 : Bool) => [(1, .i cells), (2, .i most), (3, .p 0 0), (7, .i s7), (19, .b x9)]) (fun (x9 : Bool) => [(0, .box (eApiSite s_1))]) 1 hm (fun x9 hm => ?_) (fun J10 hm hJ10 => ?_)
 refine C.nx ?_
 refine C.ite rfl hm (fun hb12 hm => ?_) (fun hb12 hm => ?_)
 refine C.skip (C.nx (C.seq (C.block (C.seq ?_))))
 refine C.jn (fun (x13 : Bool) => [(1, .i cells), (2, .i most), (3, .p 0 0), (7, .i s7), (50, .b x13)]) (fun (x13 : Bool) => [(0, .box (eApiSite s_1))]) 1 hm (fun x13 hm => ?_) (fun J14 hm hJ14 => ?_)
 refine C.nx ?_
 refine C.ite rfl hm (fun hb18 hm => ?_) (fun hb18 hm => ?_)
 refine C.seq (U.start ?_)
 refine U.pd 1 T (C.nx (C.ret (C.brt (C.rt (C.rt (C.brt (C.rt ?_)))))))
 exact C.f1 T hβ ⟨false, hm, rfl, rfl, rfl⟩
 refine C.skip (C.bnx (C.nx (U.start ?_)))
 refine U.pd 3 T (C.nx ?_)
 exact St.wk (C.next hm) (Wk.a [some 0])
 refine U.start ?_
 refine U.ps 3 T rfl ?_
 obtain ⟨x15, hx15, hm⟩ := hm
 refine U.r rfl (.none rfl) rfl rfl (by exact Rd.ix T rfl rfl rfl rfl rfl rfl hx15) ?_
 refine U.ps 6 T rfl ?_
 refine hm.cs (fun hb16 hm => ?_) (fun hb16 hm => ?_)
 refine U.sks 8 9 false 31 hb16 rfl rfl rfl ?_
 refine U.pk hb16 ?_
 refine U.ps 1 T rfl ?_
 refine U.sks 8 19 false 41 rfl rfl rfl rfl ?_
 refine U.pk rfl ?_
 refine U.done ?_
 exact St.wa [some 0] (hJ14 _ hm)
 refine U.pg 3 9 false 31 hb16 T rfl rfl rfl rfl ?_
 refine U.r rfl (.take 9 false 31 _ hb16 rfl rfl rfl) rfl rfl (by exact Rd.ix T rfl rfl rfl rfl rfl rfl hx15) ?_
 refine U.pg 4 9 false 31 hb16 T rfl rfl rfl rfl ?_
 refine U.pk' hb16 ?_
 refine U.ps 1 T rfl ?_
 refine hm.cs (fun hb17 hm => ?_) (fun hb17 hm => ?_)
 refine U.sks 8 19 false 41 hb17 rfl rfl rfl ?_
 refine U.pk hb17 ?_
 refine U.done ?_
 exact St.wa [some 0] (hJ14 _ hm)
 refine U.pg 3 19 false 41 hb17 T rfl rfl rfl rfl ?_
 refine U.r rfl (.take 19 false 41 _ hb17 rfl rfl rfl) rfl rfl (by exact Rd.ix T rfl rfl rfl rfl rfl rfl hx15) ?_
 refine U.pg 4 19 false 41 hb17 T rfl rfl rfl rfl ?_
 refine U.pk' hb17 ?_
 refine U.done ?_
 exact St.wa [some 0] (hJ14 _ hm)
 refine C.exit (C.ex (C.ex (C.bex ?_)))
 exact St.wa [some 0] (hJ6 _ hm)
 refine U.start ?_
 refine U.ps 6 T rfl ?_
 refine hm.cs (fun hb11 hm => ?_) (fun hb11 hm => ?_)
 refine U.pg 3 5 true 15 hb11 T rfl rfl rfl rfl ?_
 refine U.pk hb11 ?_
 refine U.done ?_
 exact St.wa [some 0] (hJ10 _ hm)
 refine U.sks 3 5 true 15 hb11 rfl rfl rfl ?_
 refine U.pk' hb11 ?_
 refine U.done ?_
 exact St.wa [some 0] (hJ10 _ hm)
theorem T_taquinref14_Few (st : ApiState) (post : Bool → Prop) (hm : V_taquinref14_Few st post) :
    Tr Tryz.prog 22 [.agg (eApiState st)] [] 0 (fun A H' k => ∃ y, post y ∧ A = (.b y) ∧ H' = [] ∧ k = 0) := by
 refine Tr.intro (n := 78) Tryz.func22 rfl Tryz.ntmps22 rfl (fun w0 ok F β hβ => ?_)
 unfold V_taquinref14_Few at hm
 refine C.seq (U.start ?_)
 refine U.bx ?_
 refine U.pd 1 T (C.nx (C.seq (C.seq ?_)))
 refine C.jn (fun (x3 : Bool) => [(1, .p 0 0), (33, .b x3)]) (fun (x3 : Bool) => [(0, .box (eApiState st))]) 1 hm (fun x3 hm => ?_) (fun J4 hm hJ4 => ?_)
 refine C.nx ?_
 refine C.ite rfl hm (fun hb9 hm => ?_) (fun hb9 hm => ?_)
 refine C.seq (U.start ?_)
 refine U.pd 1 T (C.nx (C.ret (C.rt ?_)))
 exact C.f1 T hβ ⟨false, hm, rfl, rfl, rfl⟩
 refine C.skip (C.nx (C.seq ?_))
 refine D.beg 9999 [0] [1, 2, 3] mix rfl rfl (by kernel_rfl) (by repeat (first | exact NoPanicQ.body | exact NoPanicQ.rnd | refine NoPanicQ.th ?_ | refine NoPanicQ.blk ?_ | refine NoPanicQ.ng ?_)) (fun hQ hS ws M' => ?_)
 refine D.ps 6 [(1, []), (2, []), (4, []), (5, []), (7, []), (8, [])] rfl hQ hS T rfl rfl (by kernel_rfl) ?_
 refine D.e1 0 rfl (.none rfl) (by exact Eff1.bs T (enc := eI) (xs := ([] : List Int)) rfl rfl rfl rfl rfl rfl rfl rfl rfl rfl (fun _ _ => rfl) rfl rfl) (by kernel_rfl) rfl rfl ?_
 obtain ⟨hx14, hm⟩ := hm
 refine D.e1 3 rfl (.none rfl) (by exact Eff1.ap T rfl rfl rfl rfl rfl rfl (.inl rfl) rfl rfl rfl (fun _ => rfl) rfl hx14) (by kernel_rfl) rfl rfl ?_
 obtain ⟨hx15, hm⟩ := hm
 refine D.e1 6 rfl (.none rfl) (by exact Eff1.ap T rfl rfl rfl rfl rfl rfl (.inl rfl) rfl rfl rfl (fun _ => rfl) rfl hx15) (by kernel_rfl) rfl rfl ?_
 obtain ⟨hx16, hm⟩ := hm
 refine D.e1 9 rfl (.none rfl) (by exact Eff1.ap T rfl rfl rfl rfl rfl rfl (.inl rfl) rfl rfl rfl (fun _ => rfl) rfl hx16) (by kernel_rfl) rfl rfl ?_
 refine D.ps 1 [(10, [])] rfl hQ hS T rfl rfl (by kernel_rfl) ?_
 refine D.done (by kernel_rfl) ?_
 refine C.nx (C.seq (C.seq (U.start ?_)))
 refine U.pd 1 T (C.nx ?_)
 refine C.jn (fun (x19 : List Int) => [(3, .o 0)]) (fun (x19 : List Int) => [(0, .val (.os 1 eI x19))]) 1 hm (fun x19 hm => ?_) (fun J20 hm hJ20 => ?_)
 refine C.nx (C.seq (C.seq (U.start ?_)))
 refine U.pd 1 T (C.nx ?_)
 refine C.jn (fun (x34 : Unit) => []) (fun (x34 : Unit) => []) 0 hm (fun x34 hm => ?_) (fun J35 hm hJ35 => ?_)
 refine C.nx (C.seq (U.start ?_))
 refine U.pd 1 T (C.nx (C.ret ?_))
 exact C.f1 T hβ ⟨true, hm, rfl, rfl, rfl⟩
 refine C.block ?_
 refine St.wk (C.loop (fun (s36 : Int) => [(3, .o 0), (5, .i s36)]) (fun (s36 : Int) => [(0, .val (.os 1 eI x19))]) hm (fun s36 Y37 hm => ?_)) (Wk.a [some 0])
 refine C.seq (C.seq (U.start ?_))
 refine U.pd 4 T (C.nx ?_)
 refine C.ite rfl hm (fun hb40 hm => ?_) (fun hb40 hm => ?_)
 refine C.skip (C.nx (C.seq (C.block (C.seq ?_))))
 refine C.jn (fun (x41 : Bool) => [(3, .o 0), (5, .i s36), (77, .b x41)]) (fun (x41 : Bool) => [(0, .val (.os 1 eI x19))]) 1 hm (fun x41 hm => ?_) (fun J42 hm hJ42 => ?_)
 refine C.nx ?_
 refine C.ite rfl hm (fun hb45 hm => ?_) (fun hb45 hm => ?_)
 refine C.seq (U.start ?_)
 refine U.pd 1 T (C.nx (C.ret (C.brt (C.rt (C.rt (C.brt (C.rt ?_)))))))
 exact C.f1 T hβ ⟨false, hm, rfl, rfl, rfl⟩
 refine C.skip (C.bnx (C.nx (U.start ?_)))
 refine U.pd 3 T (C.nx ?_)
 exact St.wk (C.next hm) (Wk.a [some 0])
 refine U.start ?_
 refine U.ps 2 T rfl ?_
 obtain ⟨x43, hx43, hm⟩ := hm
 refine U.r rfl (.none rfl) rfl rfl (by exact Rd.io T rfl rfl rfl rfl rfl rfl rfl hx43) ?_
 refine U.r rfl (.none rfl) rfl rfl (by exact Rd.le T rfl rfl rfl (idx_some hx43).2.2 rfl rfl rfl) ?_
 refine U.ps 2 T rfl ?_
 refine hm.cs (fun hb44 hm => ?_) (fun hb44 hm => ?_)
 refine U.sks 5 5 false 71 hb44 rfl rfl rfl ?_
 refine U.pk hb44 ?_
 refine U.done ?_
 exact St.wa [some 0] (hJ42 _ hm)
 refine U.pg 2 5 false 71 hb44 T rfl rfl rfl rfl ?_
 refine U.r rfl (.take 5 false 71 _ hb44 rfl rfl rfl) rfl rfl (by exact Rd.io T rfl rfl rfl rfl rfl rfl rfl hx43) ?_
 refine U.r rfl (.take 5 false 71 _ hb44 rfl rfl rfl) rfl rfl (by exact Rd.le T rfl rfl rfl (idx_some hx43).2.2 rfl rfl rfl) ?_
 refine U.pg 1 5 false 71 hb44 T rfl rfl rfl rfl ?_
 refine U.pk' hb44 ?_
 refine U.done ?_
 exact St.wa [some 0] (hJ42 _ hm)
 refine C.exit (C.ex (C.ex (C.bex ?_)))
 exact St.wk (hJ35 _ hm) (Wk.mk' [] rfl rfl trivial trivial rfl)
 refine C.block ?_
 refine St.wk (C.loop (fun (s21 : List Int × Int) => [(1, .p 0 0), (3, .o 1), (4, .i s21.2)]) (fun (s21 : List Int × Int) => [(0, .box (eApiState st)), (1, .val (.os 1 eI s21.1))]) hm (fun s21 Y22 hm => ?_)) (Wk.a [some 0, some 4])
 refine C.seq (C.seq (U.start ?_))
 refine U.pd 5 T (C.nx ?_)
 refine C.ite rfl hm (fun hb25 hm => ?_) (fun hb25 hm => ?_)
 refine C.skip (C.nx (C.seq (C.block (U.start ?_))))
 refine U.ps 4 T rfl ?_
 obtain ⟨x28, hx28, hm⟩ := hm
 refine U.r rfl (.none rfl) rfl rfl (by exact Rd.ix T rfl rfl rfl rfl rfl rfl hx28) ?_
 refine U.ps 2 T rfl ?_
 refine U.e1 rfl (.none rfl) (by exact Eff1.bs T (enc := eI) (xs := ([x28.Cell] : List Int)) rfl rfl rfl rfl rfl rfl rfl rfl rfl rfl (fun _ _ => rfl) rfl rfl) ?_
 obtain ⟨hx29, hm⟩ := hm
 refine U.e1 rfl (.none rfl) (by exact Eff1.ap T rfl rfl rfl rfl rfl rfl (.inr ⟨_, rfl, rfl⟩) rfl rfl rfl (fun _ => rfl) rfl hx29) ?_
 refine U.pd 1 T (C.bnx (C.nx (U.start ?_)))
 refine U.pd 3 T (C.nx ?_)
 exact St.wk (C.next hm) (Wk.a [some 0, some 3])
 refine C.exit (C.ex (C.ex (C.bex ?_)))
 exact St.wa [some 1] (hJ20 _ hm)
 refine U.start ?_
 refine U.ps 5 T rfl ?_
 refine hm.cs (fun hb5 hm => ?_) (fun hb5 hm => ?_)
 refine U.sks 4 4 false 10 hb5 rfl rfl rfl ?_
 refine U.pk hb5 ?_
 refine U.ps 1 T rfl ?_
 refine U.sks 4 10 false 16 rfl rfl rfl rfl ?_
 refine U.pk rfl ?_
 refine U.ps 1 T rfl ?_
 refine U.sks 4 16 false 22 rfl rfl rfl rfl ?_
 refine U.pk rfl ?_
 refine U.ps 1 T rfl ?_
 refine U.sks 4 22 false 28 rfl rfl rfl rfl ?_
 refine U.pk rfl ?_
 refine U.done ?_
 exact St.wa [some 0] (hJ4 _ hm)
 refine U.pg 4 4 false 10 hb5 T rfl rfl rfl rfl ?_
 refine U.pk' hb5 ?_
 refine U.ps 1 T rfl ?_
 refine hm.cs (fun hb6 hm => ?_) (fun hb6 hm => ?_)
 refine U.sks 4 10 false 16 hb6 rfl rfl rfl ?_
 refine U.pk hb6 ?_
 refine U.ps 1 T rfl ?_
 refine U.sks 4 16 false 22 rfl rfl rfl rfl ?_
 refine U.pk rfl ?_
 refine U.ps 1 T rfl ?_
 refine U.sks 4 22 false 28 rfl rfl rfl rfl ?_
 refine U.pk rfl ?_
 refine U.done ?_
 exact St.wa [some 0] (hJ4 _ hm)
 refine U.pg 4 10 false 16 hb6 T rfl rfl rfl rfl ?_
 refine U.pk' hb6 ?_
 refine U.ps 1 T rfl ?_
 refine hm.cs (fun hb7 hm => ?_) (fun hb7 hm => ?_)
 refine U.sks 4 16 false 22 hb7 rfl rfl rfl ?_
 refine U.pk hb7 ?_
 refine U.ps 1 T rfl ?_
 refine U.sks 4 22 false 28 rfl rfl rfl rfl ?_
 refine U.pk rfl ?_
 refine U.done ?_
 exact St.wa [some 0] (hJ4 _ hm)
 refine U.pg 4 16 false 22 hb7 T rfl rfl rfl rfl ?_
 refine U.pk' hb7 ?_
 refine U.ps 1 T rfl ?_
 refine hm.cs (fun hb8 hm => ?_) (fun hb8 hm => ?_)
 refine U.sks 4 22 false 28 hb8 rfl rfl rfl ?_
 refine U.pk hb8 ?_
 refine U.done ?_
 exact St.wa [some 0] (hJ4 _ hm)
 refine U.pg 4 22 false 28 hb8 T rfl rfl rfl rfl ?_
 refine U.pk' hb8 ?_
 refine U.done ?_
 exact St.wa [some 0] (hJ4 _ hm)
theorem T_body_within (n : Int) (from_1 : Int) (to_1 : Int) (post : Bool → Prop) (hm : V_body_within n from_1 to_1 post) :
    Tr Tryz.prog 72 [.i n, .i from_1, .i to_1] [] 0 (fun A H' k => ∃ y, post y ∧ A = (.b y) ∧ H' = [] ∧ k = 0) := by
 refine Tr.intro (n := 15) Tryz.func72 rfl Tryz.ntmps72 rfl (fun w0 ok F β hβ => ?_)
 unfold V_body_within at hm
 refine C.seq (U.start ?_)
 refine U.pd 1 T (C.nx (C.seq ?_))
 refine C.jn (fun (x3 : Bool) => [(6, .b x3)]) (fun (x3 : Bool) => []) 0 hm (fun x3 hm => ?_) (fun J4 hm hJ4 => ?_)
 refine C.nx (C.ret ?_)
 exact C.f1 T hβ ⟨x3, hm, rfl, rfl, rfl⟩
 refine U.start ?_
 refine U.ps 4 T rfl ?_
 refine hm.cs (fun hb5 hm => ?_) (fun hb5 hm => ?_)
 refine U.pg 3 3 true 10 hb5 T rfl rfl rfl rfl ?_
 refine U.pk hb5 ?_
 refine U.pd 1 T ?_
 exact St.wn (hJ4 _ hm)
 refine U.sks 3 3 true 10 hb5 rfl rfl rfl ?_
 refine U.pk' hb5 ?_
 refine U.pd 1 T ?_
 exact St.wn (hJ4 _ hm)
theorem T_body_robots (s_1 : ApiSite) (st : ApiState) (post : Bool → Prop) (hm : V_body_robots s_1 st post) :
    Tr Tryz.prog 73 [.agg (eApiSite s_1), .agg (eApiState st)] [] 0 (fun A H' k => ∃ y, post y ∧ A = (.b y) ∧ H' = [] ∧ k = 0) := by
 refine Tr.intro (n := 88) Tryz.func73 rfl Tryz.ntmps73 rfl (fun w0 ok F β hβ => ?_)
 unfold V_body_robots at hm
 refine C.seq (U.start ?_)
 refine U.bx ?_
 refine U.bx ?_
 refine U.pd 1 T (C.nx (C.seq (U.start ?_)))
 refine U.e1 rfl (.none rfl) (by exact Eff1.mm kI veB rfl rfl rfl) ?_
 refine U.pd 1 T (C.nx (C.seq (C.seq (U.start ?_))))
 refine U.pd 4 T (C.nx ?_)
 refine C.jn (fun (x7 : Unit) => []) (fun (x7 : Unit) => []) 0 hm (fun x7 hm => ?_) (fun J8 hm hJ8 => ?_)
 refine C.nx (C.seq (U.start ?_))
 refine U.pd 1 T (C.nx (C.ret ?_))
 exact C.f1 T hβ ⟨true, hm, rfl, rfl, rfl⟩
 refine C.block ?_
 refine St.wk (C.loop (fun (s9 : List (Int × Bool) × Int) => [(2, .p 0 0), (3, .p 1 0), (5, .o 2), (10, .sl 6 eApiRobot st.Robots), (11, .i (st.Robots.length : Int)), (12, .i s9.2)]) (fun (s9 : List (Int × Bool) × Int) => [(0, .box (eApiSite s_1)), (1, .box (eApiState st)), (2, .val (.om kI veB s9.1))]) hm (fun s9 Y10 hm => ?_)) (Wk.a (idR 3))
 refine C.seq (U.start ?_)
 refine U.pd 1 T (C.nx (C.seq ?_))
 refine C.ite rfl hm (fun hb13 hm => ?_) (fun hb13 hm => ?_)
 refine C.skip (C.nx (C.seq (C.block (C.seq (U.start ?_)))))
 obtain ⟨x16, hx16, hm⟩ := hm
 refine U.r rfl (.none rfl) rfl rfl (by exact Rd.ix T rfl rfl rfl rfl rfl rfl hx16) ?_
 refine U.ps 1 T rfl ?_
 refine U.e1 rfl (.none rfl) (by exact Eff1.al T rfl rfl rfl rfl) ?_
 refine U.e1 rfl (.none rfl) (by exact Eff1.st T rfl rfl rfl rfl rfl rfl rfl rfl rfl rfl) ?_
 refine U.done (C.nx (C.seq (C.seq ?_)))
 refine C.jn (fun (x17 : Bool) => [(2, .p 0 0), (3, .p 1 0), (5, .o 2), (7, .p 3 0), (10, .sl 6 eApiRobot st.Robots), (11, .i (st.Robots.length : Int)), (12, .i s9.2), (47, .b x17)]) (fun (x17 : Bool) => [(0, .box (eApiSite s_1)), (1, .box (eApiState st)), (2, .val (.om kI veB s9.1)), (3, .box (eApiRobot x16))]) 4 hm (fun x17 hm => ?_) (fun J18 hm hJ18 => ?_)
 refine C.nx ?_
 refine C.ite rfl hm (fun hb24 hm => ?_) (fun hb24 hm => ?_)
 refine C.seq (U.start ?_)
 refine U.pd 1 T (C.nx (C.ret (C.rt (C.brt (C.rt (C.rt (C.brt (C.rt ?_))))))))
 exact C.f1 T hβ ⟨false, hm, rfl, rfl, rfl⟩
 refine C.skip (C.nx (C.seq (C.seq ?_)))
 refine C.jn (fun (x27 : Bool) => [(2, .p 0 0), (3, .p 1 0), (5, .o 2), (7, .p 3 0), (10, .sl 6 eApiRobot st.Robots), (11, .i (st.Robots.length : Int)), (12, .i s9.2), (63, .b x27)]) (fun (x27 : Bool) => [(0, .box (eApiSite s_1)), (1, .box (eApiState st)), (2, .val (.om kI veB s9.1)), (3, .box (eApiRobot x16))]) 4 hm (fun x27 hm => ?_) (fun J28 hm hJ28 => ?_)
 refine C.nx ?_
 refine C.ite rfl hm (fun hb34 hm => ?_) (fun hb34 hm => ?_)
 refine C.seq (U.start ?_)
 refine U.pd 1 T (C.nx (C.ret (C.rt (C.brt (C.rt (C.rt (C.brt (C.rt ?_))))))))
 exact C.f1 T hβ ⟨false, hm, rfl, rfl, rfl⟩
 refine C.skip (C.nx (C.seq (C.seq ?_)))
 refine C.jn (fun (x37 : Bool) => [(2, .p 0 0), (3, .p 1 0), (5, .o 2), (7, .p 3 0), (10, .sl 6 eApiRobot st.Robots), (11, .i (st.Robots.length : Int)), (12, .i s9.2), (83, .b x37)]) (fun (x37 : Bool) => [(0, .box (eApiSite s_1)), (1, .box (eApiState st)), (2, .val (.om kI veB s9.1)), (3, .box (eApiRobot x16))]) 4 hm (fun x37 hm => ?_) (fun J38 hm hJ38 => ?_)
 refine C.nx ?_
 refine C.ite rfl hm (fun hb42 hm => ?_) (fun hb42 hm => ?_)
 refine C.seq (U.start ?_)
 refine U.pd 1 T (C.nx (C.ret (C.rt (C.brt (C.rt (C.rt (C.brt (C.rt ?_))))))))
 exact C.f1 T hβ ⟨false, hm, rfl, rfl, rfl⟩
 refine C.skip (C.nx (U.start ?_))
 refine U.ps 3 T rfl ?_
 refine U.e1 rfl (.none rfl) (by exact Eff1.mu T (x := x16.Load) (y := true) (.inl rfl) rfl kt3 (fun _ => rfl) rfl rfl rfl rfl rfl (.inl rfl) rfl) ?_
 refine U.done (C.bnx (C.nx (U.start ?_)))
 refine U.pd 2 T (C.nx ?_)
 exact St.wk (C.next hm) (Wk.a (idR 3))
 refine D.beg 9999 [1, 2, 3] [] mix rfl rfl (by kernel_rfl) (by repeat (first | exact NoPanicQ.body | exact NoPanicQ.rnd | refine NoPanicQ.th ?_ | refine NoPanicQ.blk ?_ | refine NoPanicQ.ng ?_)) (fun hQ hS ws M' => ?_)
 refine D.ps 4 [(0, []), (1, []), (2, []), (3, [])] rfl hQ hS T rfl rfl (by kernel_rfl) ?_
 refine hm.cs (fun hb39 hm => ?_) (fun hb39 hm => ?_)
 refine D.q 4 [] hQ hS rfl (.take 3 true 67 _ hb39 rfl rfl rfl) rfl rfl (by exact Rd.p T rfl) rfl (by kernel_rfl) ?_
 refine D.q 5 [] hQ hS rfl (.take 3 true 67 _ hb39 rfl rfl rfl) rfl rfl (by exact Rd.p T rfl) rfl (by kernel_rfl) ?_
 refine D.q 6 [] hQ hS rfl (.take 3 true 67 _ hb39 rfl rfl rfl) rfl rfl (by exact Rd.l T rfl rfl rfl) rfl (by kernel_rfl) ?_
 refine D.q 7 [] hQ hS rfl (.take 3 true 67 _ hb39 rfl rfl rfl) rfl rfl (by exact Rd.lk T (ke := kI) (ve := veB) (xs := s9.1) (z0 := false) (x := x16.Load) rfl rfl kt3 zt4 (fun _ => rfl) rfl (.o rfl) rfl rfl rfl) rfl (by kernel_rfl) ?_
 refine D.q 8 [] hQ hS rfl (.take 3 true 67 _ hb39 rfl rfl rfl) rfl rfl (by exact Rd.p T rfl) rfl (by kernel_rfl) ?_
 refine hm.cs (fun hb40 hm => ?_) (fun hb40 hm => ?_)
 refine D.sx 9 [] hQ hS (.skip 8 false 72 _ hb40 rfl rfl rfl) ?_
 refine D.sx 10 [] hQ hS (.skip 8 false 72 _ hb40 rfl rfl rfl) ?_
 refine D.sx 11 [] hQ hS (.skip 8 false 72 _ hb40 rfl rfl rfl) ?_
 refine D.sx 12 [] hQ hS (.skip 8 false 72 _ hb40 rfl rfl rfl) ?_
 refine D.sx 13 [] hQ hS (.skip 8 false 72 _ hb40 rfl rfl rfl) ?_
 refine D.sx 14 [] hQ hS (.skip 8 false 72 _ hb40 rfl rfl rfl) ?_
 refine D.sx 15 [] hQ hS (.skip 8 false 72 _ hb40 rfl rfl rfl) ?_
 refine D.sx 16 [] hQ hS (.skip 8 false 72 _ hb40 rfl rfl rfl) ?_
 refine D.sx 17 [] hQ hS (.skip 8 false 72 _ hb40 rfl rfl rfl) ?_
 refine D.q 18 [] hQ hS rfl (.take 3 true 67 _ hb39 rfl rfl rfl) rfl rfl (by exact Rd.pk rfl rfl hb40 rfl) rfl (by kernel_rfl) ?_
 refine D.q 19 [] hQ hS rfl (.none rfl) rfl rfl (by exact Rd.pk rfl rfl hb39 rfl) rfl (by kernel_rfl) ?_
 refine D.done (by kernel_rfl) ?_
 exact St.wa (idR 4) (hJ38 _ hm)
 refine D.q 9 [] hQ hS rfl (.take 8 false 72 _ hb40 rfl rfl rfl) rfl rfl (by exact Rd.p T rfl) rfl (by kernel_rfl) ?_
 refine D.q 10 [] hQ hS rfl (.take 8 false 72 _ hb40 rfl rfl rfl) rfl rfl (by exact Rd.l T rfl rfl rfl) rfl (by kernel_rfl) ?_
 refine D.q 11 [] hQ hS rfl (.take 8 false 72 _ hb40 rfl rfl rfl) rfl rfl (by exact Rd.p T rfl) rfl (by kernel_rfl) ?_
 refine D.q 12 [] hQ hS rfl (.take 8 false 72 _ hb40 rfl rfl rfl) rfl rfl (by exact Rd.l T rfl rfl rfl) rfl (by kernel_rfl) ?_
 obtain ⟨x41, hx41, hm⟩ := hm
 refine D.q 13 [] hQ hS rfl (.take 8 false 72 _ hb40 rfl rfl rfl) rfl rfl (by exact Rd.ix T rfl rfl rfl rfl rfl rfl hx41) rfl (by kernel_rfl) ?_
 refine D.q 14 [] hQ hS rfl (.take 8 false 72 _ hb40 rfl rfl rfl) rfl rfl (by exact Rd.l T rfl rfl rfl) rfl (by kernel_rfl) ?_
 refine D.q 15 [] hQ hS rfl (.take 8 false 72 _ hb40 rfl rfl rfl) rfl rfl (by exact Rd.p T rfl) rfl (by kernel_rfl) ?_
 refine D.q 16 [] hQ hS rfl (.take 8 false 72 _ hb40 rfl rfl rfl) rfl rfl (by exact Rd.l T rfl rfl rfl) rfl (by kernel_rfl) ?_
 refine D.q 17 [] hQ hS rfl (.take 8 false 72 _ hb40 rfl rfl rfl) rfl rfl (by exact Rd.p T rfl) rfl (by kernel_rfl) ?_
 refine D.q 18 [] hQ hS rfl (.take 3 true 67 _ hb39 rfl rfl rfl) rfl rfl (by exact Rd.pk' rfl rfl hb40 rfl) rfl (by kernel_rfl) ?_
 refine D.q 19 [] hQ hS rfl (.none rfl) rfl rfl (by exact Rd.pk rfl rfl hb39 rfl) rfl (by kernel_rfl) ?_
 refine D.done (by kernel_rfl) ?_
 exact St.wa (idR 4) (hJ38 _ hm)
 refine D.sx 4 [] hQ hS (.skip 3 true 67 _ hb39 rfl rfl rfl) ?_
 refine D.sx 5 [] hQ hS (.skip 3 true 67 _ hb39 rfl rfl rfl) ?_
 refine D.sx 6 [] hQ hS (.skip 3 true 67 _ hb39 rfl rfl rfl) ?_
 refine D.sx 7 [] hQ hS (.skip 3 true 67 _ hb39 rfl rfl rfl) ?_
 refine D.sx 8 [] hQ hS (.skip 3 true 67 _ hb39 rfl rfl rfl) ?_
 refine D.sx 9 [] hQ hS (.und 8 false 72 rfl rfl rfl) ?_
 refine D.sx 10 [] hQ hS (.und 8 false 72 rfl rfl rfl) ?_
 refine D.sx 11 [] hQ hS (.und 8 false 72 rfl rfl rfl) ?_
 refine D.sx 12 [] hQ hS (.und 8 false 72 rfl rfl rfl) ?_
 refine D.sx 13 [] hQ hS (.und 8 false 72 rfl rfl rfl) ?_
 refine D.sx 14 [] hQ hS (.und 8 false 72 rfl rfl rfl) ?_
 refine D.sx 15 [] hQ hS (.und 8 false 72 rfl rfl rfl) ?_
 refine D.sx 16 [] hQ hS (.und 8 false 72 rfl rfl rfl) ?_
 refine D.sx 17 [] hQ hS (.und 8 false 72 rfl rfl rfl) ?_
 refine D.sx 18 [] hQ hS (.skip 3 true 67 _ hb39 rfl rfl rfl) ?_
 refine D.q 19 [] hQ hS rfl (.none rfl) rfl rfl (by exact Rd.pk' rfl rfl hb39 rfl) rfl (by kernel_rfl) ?_
 refine D.done (by kernel_rfl) ?_
 exact St.wa (idR 4) (hJ38 _ hm)
 refine U.start ?_
 refine U.ps 2 T rfl ?_
 refine U.k (T_body_within x16.Charge 0 1000000 _ hm) en72 (fun x29 hm => ?_)
 refine U.ps 2 T rfl ?_
 refine hm.cs (fun hb30 hm => ?_) (fun hb30 hm => ?_)
 refine U.pg 2 4 false 52 (ntF hb30) T rfl rfl rfl rfl ?_
 refine U.k (T_body_within x16.Rest 0 20000 _ hm) en72 (fun x31 hm => ?_) (hw := .take 4 false 52 _ (ntF hb30) rfl rfl rfl)
 refine U.pg 1 4 false 52 (ntF hb30) T rfl rfl rfl rfl ?_
 refine U.r rfl (.none rfl) rfl rfl (by exact Rd.pk' rfl rfl (ntF hb30) rfl) ?_
 refine U.ps 1 T rfl ?_
 refine hm.cs (fun hb32 hm => ?_) (fun hb32 hm => ?_)
 refine U.pg 2 10 false 58 (ntF hb32) T rfl rfl rfl rfl ?_
 refine U.k (T_body_within x16.Mute 0 20000 _ hm) en72 (fun x33 hm => ?_) (hw := .take 10 false 58 _ (ntF hb32) rfl rfl rfl)
 refine U.pg 1 10 false 58 (ntF hb32) T rfl rfl rfl rfl ?_
 refine U.r rfl (.none rfl) rfl rfl (by exact Rd.pk' rfl rfl (ntF hb32) rfl) ?_
 refine U.done ?_
 exact St.wa (idR 4) (hJ28 _ hm)
 refine U.sks 4 10 false 58 (ntT hb32) rfl rfl rfl ?_
 refine U.r rfl (.none rfl) rfl rfl (by exact Rd.pk rfl rfl (ntT hb32) rfl) ?_
 refine U.done ?_
 exact St.wa (idR 4) (hJ28 _ hm)
 refine U.sks 4 4 false 52 (ntT hb30) rfl rfl rfl ?_
 refine U.r rfl (.none rfl) rfl rfl (by exact Rd.pk rfl rfl (ntT hb30) rfl) ?_
 refine U.ps 1 T rfl ?_
 refine U.sks 4 10 false 58 rfl rfl rfl rfl ?_
 refine U.pk rfl ?_
 refine U.done ?_
 exact St.wa (idR 4) (hJ28 _ hm)
 refine U.start ?_
 refine U.ps 4 T rfl ?_
 refine hm.cs (fun hb19 hm => ?_) (fun hb19 hm => ?_)
 refine U.sks 7 3 false 19 hb19 rfl rfl rfl ?_
 refine U.pk hb19 ?_
 refine U.ps 1 T rfl ?_
 refine U.sks 8 12 false 28 rfl rfl rfl rfl ?_
 refine U.pk rfl ?_
 refine U.ps 1 T rfl ?_
 refine U.sks 8 22 false 38 rfl rfl rfl rfl ?_
 refine U.pk rfl ?_
 refine U.done ?_
 exact St.wa (idR 4) (hJ18 _ hm)
 refine U.pg 7 3 false 19 hb19 T rfl rfl rfl rfl ?_
 refine U.pk' hb19 ?_
 refine U.ps 1 T rfl ?_
 refine hm.cs (fun hb20 hm => ?_) (fun hb20 hm => ?_)
 refine U.sks 8 12 false 28 hb20 rfl rfl rfl ?_
 refine U.pk hb20 ?_
 refine U.ps 1 T rfl ?_
 refine U.sks 8 22 false 38 rfl rfl rfl rfl ?_
 refine U.pk rfl ?_
 refine U.done ?_
 exact St.wa (idR 4) (hJ18 _ hm)
 refine U.pg 5 12 false 28 hb20 T rfl rfl rfl rfl ?_
 obtain ⟨x21, hx21, hm⟩ := hm
 refine U.r rfl (.take 12 false 28 _ hb20 rfl rfl rfl) rfl rfl (by exact Rd.ix T rfl rfl rfl rfl rfl rfl hx21) ?_
 refine U.pg 2 12 false 28 hb20 T rfl rfl rfl rfl ?_
 refine U.pk' hb20 ?_
 refine U.ps 1 T rfl ?_
 refine hm.cs (fun hb22 hm => ?_) (fun hb22 hm => ?_)
 refine U.sks 8 22 false 38 hb22 rfl rfl rfl ?_
 refine U.pk hb22 ?_
 refine U.done ?_
 exact St.wa (idR 4) (hJ18 _ hm)
 refine U.pg 6 22 false 38 hb22 T rfl rfl rfl rfl ?_
 refine U.k (T_body_within x16.Load (-1) (w64 ((st.Shelves.length : Int) - 1)) _ hm) en72 (fun x23 hm => ?_) (hw := .take 22 false 38 _ hb22 rfl rfl rfl)
 refine U.pg 1 22 false 38 hb22 T rfl rfl rfl rfl ?_
 refine U.pk' hb22 ?_
 refine U.done ?_
 exact St.wa (idR 4) (hJ18 _ hm)
 refine C.exit (C.ex (C.ex (C.bex ?_)))
 exact St.wk (hJ8 _ hm) (Wk.mk' [] rfl rfl trivial trivial rfl)
theorem T_body_on (f : ApiFloor) (c : Int) (kinds : List Int) (post : Bool → Prop) (hm : V_body_on f c kinds post) :
    Tr Tryz.prog 75 [.agg (eApiFloor f), .i c, .sl 1 eI kinds] [] 0 (fun A H' k => ∃ y, post y ∧ A = (.b y) ∧ H' = [] ∧ k = 0) := by
 refine Tr.intro (n := 25) Tryz.func75 rfl Tryz.ntmps75 rfl (fun w0 ok F β hβ => ?_)
 unfold V_body_on at hm
 refine C.seq (U.start ?_)
 refine U.bx ?_
 refine U.pd 1 T (C.nx (C.seq ?_))
 refine C.jn (fun (x3 : Bool) => [(6, .b x3)]) (fun (x3 : Bool) => []) 0 hm (fun x3 hm => ?_) (fun J4 hm hJ4 => ?_)
 refine C.nx (C.ret ?_)
 exact C.f1 T hβ ⟨x3, hm, rfl, rfl, rfl⟩
 refine U.start ?_
 refine U.ps 3 T rfl ?_
 refine hm.cs (fun hb5 hm => ?_) (fun hb5 hm => ?_)
 refine U.pg 5 2 true 9 hb5 T rfl rfl rfl rfl ?_
 refine U.pk hb5 ?_
 refine U.ps 1 T rfl ?_
 refine hm.cs (fun hb6 hm => ?_) (fun hb6 hm => ?_)
 refine U.pg 4 9 true 16 hb6 T rfl rfl rfl rfl ?_
 obtain ⟨x7, hx7, hm⟩ := hm
 refine U.r rfl (.take 9 true 16 _ hb6 rfl rfl rfl) rfl rfl (by exact Rd.ix T rfl rfl rfl rfl rfl rfl hx7) ?_
 refine U.pg 1 9 true 16 hb6 T rfl rfl rfl rfl ?_
 refine U.k (T_slices_Contains_int_int kinds x7 _ hm) en44 (fun x8 hm => ?_) (hw := .take 9 true 16 _ hb6 rfl rfl rfl)
 refine U.pk hb6 ?_
 refine U.pd 1 T ?_
 exact St.wn (hJ4 _ hm)
 refine U.sks 7 9 true 16 hb6 rfl rfl rfl ?_
 refine U.pk' hb6 ?_
 refine U.pd 1 T ?_
 exact St.wn (hJ4 _ hm)
 refine U.sks 5 2 true 9 hb5 rfl rfl rfl ?_
 refine U.pk' hb5 ?_
 refine U.ps 1 T rfl ?_
 refine U.sks 7 9 true 16 rfl rfl rfl rfl ?_
 refine U.pk' rfl ?_
 refine U.pd 1 T ?_
 exact St.wn (hJ4 _ hm)
theorem T_body_rest (f : ApiFloor) (st : ApiState) (post : Bool → Prop) (hm : V_body_rest f st post) :
    Tr Tryz.prog 74 [.agg (eApiFloor f), .agg (eApiState st)] [] 0 (fun A H' k => ∃ y, post y ∧ A = (.b y) ∧ H' = [] ∧ k = 0) := by
 refine Tr.intro (n := 78) Tryz.func74 rfl Tryz.ntmps74 rfl (fun w0 ok F β hβ => ?_)
 unfold V_body_rest at hm
 refine C.seq (U.start ?_)
 refine U.bx ?_
 refine U.bx ?_
 refine U.pd 1 T (C.nx (C.seq (C.seq (U.start ?_))))
 refine U.pd 4 T (C.nx ?_)
 refine C.jn (fun (x5 : Unit) => [(2, .p 0 0), (3, .p 1 0)]) (fun (x5 : Unit) => [(0, .box (eApiFloor f)), (1, .box (eApiState st))]) 2 hm (fun x5 hm => ?_) (fun J6 hm hJ6 => ?_)
 refine C.nx (C.seq (C.seq (U.start ?_)))
 refine U.pd 4 T (C.nx ?_)
 refine C.jn (fun (x28 : Unit) => []) (fun (x28 : Unit) => []) 0 hm (fun x28 hm => ?_) (fun J29 hm hJ29 => ?_)
 refine C.nx (C.seq (U.start ?_))
 refine U.pd 1 T (C.nx (C.ret ?_))
 exact C.f1 T hβ ⟨true, hm, rfl, rfl, rfl⟩
 refine C.block ?_
 refine St.wk (C.loop (fun (s30 : Int) => [(2, .p 0 0), (3, .p 1 0), (42, .sl 2 eApiStuck st.Stuck), (43, .i (st.Stuck.length : Int)), (44, .i s30)]) (fun (s30 : Int) => [(0, .box (eApiFloor f)), (1, .box (eApiState st))]) hm (fun s30 Y31 hm => ?_)) (Wk.a (idR 2))
 refine C.seq (U.start ?_)
 refine U.pd 1 T (C.nx (C.seq ?_))
 refine C.ite rfl hm (fun hb34 hm => ?_) (fun hb34 hm => ?_)
 refine C.skip (C.nx (C.seq (C.block (C.seq (U.start ?_)))))
 refine U.ps 1 T rfl ?_
 obtain ⟨x37, hx37, hm⟩ := hm
 refine U.r rfl (.none rfl) rfl rfl (by exact Rd.ix T rfl rfl rfl rfl rfl rfl hx37) ?_
 refine U.ps 1 T rfl ?_
 refine U.e1 rfl (.none rfl) (by exact Eff1.al T rfl rfl rfl rfl) ?_
 refine U.ps 1 T rfl ?_
 refine U.e1 rfl (.none rfl) (by exact Eff1.st T rfl rfl rfl rfl rfl rfl rfl rfl rfl rfl) ?_
 refine U.done (C.nx (C.seq ?_))
 refine C.jn (fun (x38 : Bool) => [(2, .p 0 0), (3, .p 1 0), (42, .sl 2 eApiStuck st.Stuck), (43, .i (st.Stuck.length : Int)), (44, .i s30), (76, .b x38)]) (fun (x38 : Bool) => [(0, .box (eApiFloor f)), (1, .box (eApiState st))]) 2 hm (fun x38 hm => ?_) (fun J39 hm hJ39 => ?_)
 refine C.nx ?_
 refine C.ite rfl hm (fun hb46 hm => ?_) (fun hb46 hm => ?_)
 refine C.seq (U.start ?_)
 refine U.pd 1 T (C.nx (C.ret (C.brt (C.rt (C.rt (C.brt (C.rt ?_)))))))
 exact C.f1 T hβ ⟨false, hm, rfl, rfl, rfl⟩
 refine C.skip (C.bnx (C.nx (U.start ?_)))
 refine U.pd 2 T (C.nx ?_)
 exact St.wk (C.next hm) (Wk.a (idR 2))
 refine D.beg 9999 [0, 1, 2] [] mix rfl rfl (by kernel_rfl) (by repeat (first | exact NoPanicQ.body | exact NoPanicQ.rnd | refine NoPanicQ.th ?_ | refine NoPanicQ.blk ?_ | refine NoPanicQ.ng ?_)) (fun hQ hS ws M' => ?_)
 refine D.ps 3 [(0, []), (1, []), (2, [])] rfl hQ hS T rfl rfl (by kernel_rfl) ?_
 refine D.e1 3 rfl (.none rfl) (by exact Eff1.bs T (enc := eI) (xs := ([6] : List Int)) rfl rfl rfl rfl rfl rfl rfl rfl rfl rfl (fun _ _ => rfl) rfl rfl) (by kernel_rfl) rfl rfl ?_
 refine D.k 4 (T_body_on f x37.Cell ([6] : List Int) _ hm) en75 (fun x40 hm => ?_)
 refine D.ps 2 [(5, []), (6, [])] rfl hQ hS T rfl rfl (by kernel_rfl) ?_
 refine hm.cs (fun hb41 hm => ?_) (fun hb41 hm => ?_)
 refine D.q 7 [] hQ hS rfl (.take 6 false 55 _ (ntF hb41) rfl rfl rfl) rfl rfl (by exact Rd.p T rfl) rfl (by kernel_rfl) ?_
 refine D.q 8 [] hQ hS rfl (.take 6 false 55 _ (ntF hb41) rfl rfl rfl) rfl rfl (by exact Rd.l T rfl rfl rfl) rfl (by kernel_rfl) ?_
 refine D.k 9 (T_body_within x37.Left 1 20000 _ hm) en72 (fun x42 hm => ?_) (hw := .take 6 false 55 _ (ntF hb41) rfl rfl rfl)
 refine D.q 10 [] hQ hS rfl (.take 6 false 55 _ (ntF hb41) rfl rfl rfl) rfl rfl (by exact Rd.p T rfl) rfl (by kernel_rfl) ?_
 refine D.q 11 [] hQ hS rfl (.none rfl) rfl rfl (by exact Rd.pk' rfl rfl (ntF hb41) rfl) rfl (by kernel_rfl) ?_
 refine D.ps 1 [(12, [])] rfl hQ hS T rfl rfl (by kernel_rfl) ?_
 refine hm.cs (fun hb43 hm => ?_) (fun hb43 hm => ?_)
 refine D.q 13 [] hQ hS rfl (.take 12 false 61 _ (ntF hb43) rfl rfl rfl) rfl rfl (by exact Rd.p T rfl) rfl (by kernel_rfl) ?_
 refine D.q 14 [] hQ hS rfl (.take 12 false 61 _ (ntF hb43) rfl rfl rfl) rfl rfl (by exact Rd.p T rfl) rfl (by kernel_rfl) ?_
 refine D.q 15 [] hQ hS rfl (.take 12 false 61 _ (ntF hb43) rfl rfl rfl) rfl rfl (by exact Rd.p T rfl) rfl (by kernel_rfl) ?_
 refine hm.cs (fun hb44 hm => ?_) (fun hb44 hm => ?_)
 refine D.q 16 [] hQ hS rfl (.take 15 true 64 _ hb44 rfl rfl rfl) rfl rfl (by exact Rd.p T rfl) rfl (by kernel_rfl) ?_
 refine D.q 17 [] hQ hS rfl (.take 15 true 64 _ hb44 rfl rfl rfl) rfl rfl (by exact Rd.l T rfl rfl rfl) rfl (by kernel_rfl) ?_
 refine D.q 18 [] hQ hS rfl (.take 15 true 64 _ hb44 rfl rfl rfl) rfl rfl (by exact Rd.p T rfl) rfl (by kernel_rfl) ?_
 refine D.q 19 [] hQ hS rfl (.take 15 true 64 _ hb44 rfl rfl rfl) rfl rfl (by exact Rd.l T rfl rfl rfl) rfl (by kernel_rfl) ?_
 refine D.q 20 [] hQ hS rfl (.take 15 true 64 _ hb44 rfl rfl rfl) rfl rfl (by exact Rd.p T rfl) rfl (by kernel_rfl) ?_
 refine D.q 21 [] hQ hS rfl (.take 15 true 64 _ hb44 rfl rfl rfl) rfl rfl (by exact Rd.p T rfl) rfl (by kernel_rfl) ?_
 obtain ⟨x45, hx45, hm⟩ := hm
 refine D.q 22 [] hQ hS rfl (.take 15 true 64 _ hb44 rfl rfl rfl) rfl rfl (by exact Rd.ix T rfl rfl rfl rfl rfl rfl hx45) rfl (by kernel_rfl) ?_
 refine D.q 23 [] hQ hS rfl (.take 15 true 64 _ hb44 rfl rfl rfl) rfl rfl (by exact Rd.p T rfl) rfl (by kernel_rfl) ?_
 refine D.q 24 [] hQ hS rfl (.take 15 true 64 _ hb44 rfl rfl rfl) rfl rfl (by exact Rd.l T rfl rfl rfl) rfl (by kernel_rfl) ?_
 refine D.q 25 [] hQ hS rfl (.take 15 true 64 _ hb44 rfl rfl rfl) rfl rfl (by exact Rd.p T rfl) rfl (by kernel_rfl) ?_
 refine D.q 26 [] hQ hS rfl (.take 12 false 61 _ (ntF hb43) rfl rfl rfl) rfl rfl (by exact Rd.pk rfl rfl hb44 rfl) rfl (by kernel_rfl) ?_
 refine D.q 27 [] hQ hS rfl (.none rfl) rfl rfl (by exact Rd.pk' rfl rfl (ntF hb43) rfl) rfl (by kernel_rfl) ?_
 refine D.done (by kernel_rfl) ?_
 exact St.wa (idR 2) (hJ39 _ hm)
 refine D.sx 16 [] hQ hS (.skip 15 true 64 _ hb44 rfl rfl rfl) ?_
 refine D.sx 17 [] hQ hS (.skip 15 true 64 _ hb44 rfl rfl rfl) ?_
 refine D.sx 18 [] hQ hS (.skip 15 true 64 _ hb44 rfl rfl rfl) ?_
 refine D.sx 19 [] hQ hS (.skip 15 true 64 _ hb44 rfl rfl rfl) ?_
 refine D.sx 20 [] hQ hS (.skip 15 true 64 _ hb44 rfl rfl rfl) ?_
 refine D.sx 21 [] hQ hS (.skip 15 true 64 _ hb44 rfl rfl rfl) ?_
 refine D.sx 22 [] hQ hS (.skip 15 true 64 _ hb44 rfl rfl rfl) ?_
 refine D.sx 23 [] hQ hS (.skip 15 true 64 _ hb44 rfl rfl rfl) ?_
 refine D.sx 24 [] hQ hS (.skip 15 true 64 _ hb44 rfl rfl rfl) ?_
 refine D.sx 25 [] hQ hS (.skip 15 true 64 _ hb44 rfl rfl rfl) ?_
 refine D.q 26 [] hQ hS rfl (.take 12 false 61 _ (ntF hb43) rfl rfl rfl) rfl rfl (by exact Rd.pk' rfl rfl hb44 rfl) rfl (by kernel_rfl) ?_
 refine D.q 27 [] hQ hS rfl (.none rfl) rfl rfl (by exact Rd.pk' rfl rfl (ntF hb43) rfl) rfl (by kernel_rfl) ?_
 refine D.done (by kernel_rfl) ?_
 exact St.wa (idR 2) (hJ39 _ hm)
 refine D.sx 13 [] hQ hS (.skip 12 false 61 _ (ntT hb43) rfl rfl rfl) ?_
 refine D.sx 14 [] hQ hS (.skip 12 false 61 _ (ntT hb43) rfl rfl rfl) ?_
 refine D.sx 15 [] hQ hS (.skip 12 false 61 _ (ntT hb43) rfl rfl rfl) ?_
 refine D.sx 16 [] hQ hS (.und 15 true 64 rfl rfl rfl) ?_
 refine D.sx 17 [] hQ hS (.und 15 true 64 rfl rfl rfl) ?_
 refine D.sx 18 [] hQ hS (.und 15 true 64 rfl rfl rfl) ?_
 refine D.sx 19 [] hQ hS (.und 15 true 64 rfl rfl rfl) ?_
 refine D.sx 20 [] hQ hS (.und 15 true 64 rfl rfl rfl) ?_
 refine D.sx 21 [] hQ hS (.und 15 true 64 rfl rfl rfl) ?_
 refine D.sx 22 [] hQ hS (.und 15 true 64 rfl rfl rfl) ?_
 refine D.sx 23 [] hQ hS (.und 15 true 64 rfl rfl rfl) ?_
 refine D.sx 24 [] hQ hS (.und 15 true 64 rfl rfl rfl) ?_
 refine D.sx 25 [] hQ hS (.und 15 true 64 rfl rfl rfl) ?_
 refine D.sx 26 [] hQ hS (.skip 12 false 61 _ (ntT hb43) rfl rfl rfl) ?_
 refine D.q 27 [] hQ hS rfl (.none rfl) rfl rfl (by exact Rd.pk rfl rfl (ntT hb43) rfl) rfl (by kernel_rfl) ?_
 refine D.done (by kernel_rfl) ?_
 exact St.wa (idR 2) (hJ39 _ hm)
 refine D.sx 7 [] hQ hS (.skip 6 false 55 _ (ntT hb41) rfl rfl rfl) ?_
 refine D.sx 8 [] hQ hS (.skip 6 false 55 _ (ntT hb41) rfl rfl rfl) ?_
 refine D.sx 9 [] hQ hS (.skip 6 false 55 _ (ntT hb41) rfl rfl rfl) ?_
 refine D.sx 10 [] hQ hS (.skip 6 false 55 _ (ntT hb41) rfl rfl rfl) ?_
 refine D.q 11 [] hQ hS rfl (.none rfl) rfl rfl (by exact Rd.pk rfl rfl (ntT hb41) rfl) rfl (by kernel_rfl) ?_
 refine D.ps 1 [(12, [])] rfl hQ hS T rfl rfl (by kernel_rfl) ?_
 refine D.sx 13 [] hQ hS (.skip 12 false 61 _ rfl rfl rfl rfl) ?_
 refine D.sx 14 [] hQ hS (.skip 12 false 61 _ rfl rfl rfl rfl) ?_
 refine D.sx 15 [] hQ hS (.skip 12 false 61 _ rfl rfl rfl rfl) ?_
 refine D.sx 16 [] hQ hS (.und 15 true 64 rfl rfl rfl) ?_
 refine D.sx 17 [] hQ hS (.und 15 true 64 rfl rfl rfl) ?_
 refine D.sx 18 [] hQ hS (.und 15 true 64 rfl rfl rfl) ?_
 refine D.sx 19 [] hQ hS (.und 15 true 64 rfl rfl rfl) ?_
 refine D.sx 20 [] hQ hS (.und 15 true 64 rfl rfl rfl) ?_
 refine D.sx 21 [] hQ hS (.und 15 true 64 rfl rfl rfl) ?_
 refine D.sx 22 [] hQ hS (.und 15 true 64 rfl rfl rfl) ?_
 refine D.sx 23 [] hQ hS (.und 15 true 64 rfl rfl rfl) ?_
 refine D.sx 24 [] hQ hS (.und 15 true 64 rfl rfl rfl) ?_
 refine D.sx 25 [] hQ hS (.und 15 true 64 rfl rfl rfl) ?_
 refine D.sx 26 [] hQ hS (.skip 12 false 61 _ rfl rfl rfl rfl) ?_
 refine D.q 27 [] hQ hS rfl (.none rfl) rfl rfl (by exact Rd.pk rfl rfl rfl rfl) rfl (by kernel_rfl) ?_
 refine D.done (by kernel_rfl) ?_
 exact St.wa (idR 2) (hJ39 _ hm)
 refine C.exit (C.ex (C.ex (C.bex ?_)))
 exact St.wk (hJ29 _ hm) (Wk.mk' [] rfl rfl trivial trivial rfl)
 refine C.block ?_
 refine St.wk (C.loop (fun (s7 : Int) => [(2, .p 0 0), (3, .p 1 0), (10, .sl 1 eI st.Dead), (11, .i (st.Dead.length : Int)), (12, .i s7)]) (fun (s7 : Int) => [(0, .box (eApiFloor f)), (1, .box (eApiState st))]) hm (fun s7 Y8 hm => ?_)) (Wk.a (idR 2))
 refine C.seq (U.start ?_)
 refine U.pd 1 T (C.nx (C.seq ?_))
 refine C.ite rfl hm (fun hb11 hm => ?_) (fun hb11 hm => ?_)
 refine C.skip (C.nx (C.seq (C.block (C.seq (U.start ?_)))))
 refine U.ps 1 T rfl ?_
 obtain ⟨x14, hx14, hm⟩ := hm
 refine U.r rfl (.none rfl) rfl rfl (by exact Rd.ix T rfl rfl rfl rfl rfl rfl hx14) ?_
 refine U.pd 3 T (C.nx (C.seq ?_))
 refine C.jn (fun (x15 : Bool) => [(2, .p 0 0), (3, .p 1 0), (10, .sl 1 eI st.Dead), (11, .i (st.Dead.length : Int)), (12, .i s7), (39, .b x15)]) (fun (x15 : Bool) => [(0, .box (eApiFloor f)), (1, .box (eApiState st))]) 2 hm (fun x15 hm => ?_) (fun J16 hm hJ16 => ?_)
 refine C.nx ?_
 refine C.ite rfl hm (fun hb21 hm => ?_) (fun hb21 hm => ?_)
 refine C.seq (U.start ?_)
 refine U.pd 1 T (C.nx (C.ret (C.brt (C.rt (C.rt (C.brt (C.rt ?_)))))))
 exact C.f1 T hβ ⟨false, hm, rfl, rfl, rfl⟩
 refine C.skip (C.bnx (C.nx (U.start ?_)))
 refine U.pd 2 T (C.nx ?_)
 exact St.wk (C.next hm) (Wk.a (idR 2))
 refine U.start ?_
 refine U.ps 3 T rfl ?_
 refine hm.cs (fun hb17 hm => ?_) (fun hb17 hm => ?_)
 refine U.sks 5 2 false 19 hb17 rfl rfl rfl ?_
 refine U.pk hb17 ?_
 refine U.ps 1 T rfl ?_
 refine U.sks 3 9 false 26 rfl rfl rfl rfl ?_
 refine U.sku 8 12 true 29 rfl rfl rfl ?_
 refine U.sks 1 9 false 26 rfl rfl rfl rfl ?_
 refine U.pk rfl ?_
 refine U.done ?_
 exact St.wa (idR 2) (hJ16 _ hm)
 refine U.pg 5 2 false 19 hb17 T rfl rfl rfl rfl ?_
 refine U.pk' hb17 ?_
 refine U.ps 1 T rfl ?_
 refine hm.cs (fun hb18 hm => ?_) (fun hb18 hm => ?_)
 refine U.sks 3 9 false 26 hb18 rfl rfl rfl ?_
 refine U.sku 8 12 true 29 rfl rfl rfl ?_
 refine U.sks 1 9 false 26 hb18 rfl rfl rfl ?_
 refine U.pk hb18 ?_
 refine U.done ?_
 exact St.wa (idR 2) (hJ16 _ hm)
 refine U.pg 3 9 false 26 hb18 T rfl rfl rfl rfl ?_
 refine hm.cs (fun hb19 hm => ?_) (fun hb19 hm => ?_)
 refine U.pg 5 12 true 29 hb19 T rfl rfl rfl rfl ?_
 obtain ⟨x20, hx20, hm⟩ := hm
 refine U.r rfl (.take 12 true 29 _ hb19 rfl rfl rfl) rfl rfl (by exact Rd.ix T rfl rfl rfl rfl rfl rfl hx20) ?_
 refine U.pg 2 12 true 29 hb19 T rfl rfl rfl rfl ?_
 refine U.r rfl (.take 9 false 26 _ hb18 rfl rfl rfl) rfl rfl (by exact Rd.pk rfl rfl hb19 rfl) ?_
 refine U.pk' hb18 ?_
 refine U.done ?_
 exact St.wa (idR 2) (hJ16 _ hm)
 refine U.sks 8 12 true 29 hb19 rfl rfl rfl ?_
 refine U.r rfl (.take 9 false 26 _ hb18 rfl rfl rfl) rfl rfl (by exact Rd.pk' rfl rfl hb19 rfl) ?_
 refine U.pk' hb18 ?_
 refine U.done ?_
 exact St.wa (idR 2) (hJ16 _ hm)
 refine C.exit (C.ex (C.ex (C.bex ?_)))
 exact St.wa (idR 2) (hJ6 _ hm)
theorem T_body_Right (s_1 : ApiSite) (st : ApiState) (post : Bool → Prop) (hm : V_body_Right s_1 st post) :
    Tr Tryz.prog 23 [.agg (eApiSite s_1), .agg (eApiState st)] [] 0 (fun A H' k => ∃ y, post y ∧ A = (.b y) ∧ H' = [] ∧ k = 0) := by
 refine Tr.intro (n := 95) Tryz.func23 rfl Tryz.ntmps23 rfl (fun w0 ok F β hβ => ?_)
 unfold V_body_Right at hm
 refine C.seq (U.start ?_)
 refine U.bx ?_
 refine U.bx ?_
 refine U.pd 1 T (C.nx (C.seq (C.seq ?_)))
 refine C.jn (fun (x3 : Bool) => [(2, .p 0 0), (3, .p 1 0), (51, .b x3)]) (fun (x3 : Bool) => [(0, .box (eApiSite s_1)), (1, .box (eApiState st))]) 2 hm (fun x3 hm => ?_) (fun J4 hm hJ4 => ?_)
 refine C.nx ?_
 refine C.ite rfl hm (fun hb13 hm => ?_) (fun hb13 hm => ?_)
 refine C.seq (U.start ?_)
 refine U.pd 1 T (C.nx (C.ret (C.rt ?_)))
 exact C.f1 T hβ ⟨false, hm, rfl, rfl, rfl⟩
 refine C.skip (C.nx (C.seq (C.seq (U.start ?_))))
 refine U.pd 4 T (C.nx ?_)
 refine C.jn (fun (x18 : Unit) => [(2, .p 0 0), (3, .p 1 0)]) (fun (x18 : Unit) => [(0, .box (eApiSite s_1)), (1, .box (eApiState st))]) 2 hm (fun x18 hm => ?_) (fun J19 hm hJ19 => ?_)
 refine C.nx (C.seq (C.seq (U.start ?_)))
 refine U.pd 4 T (C.nx ?_)
 refine C.jn (fun (x40 : Unit) => [(3, .p 0 0)]) (fun (x40 : Unit) => [(0, .box (eApiState st))]) 1 hm (fun x40 hm => ?_) (fun J41 hm hJ41 => ?_)
 refine C.nx (C.seq (U.start ?_))
 refine U.ps 1 T rfl ?_
 refine U.k (T_body_all st _ hm) en76 (fun x60 hm => ?_)
 refine U.k (T_body_Clash x60 _ hm) en27 (fun x61 hm => ?_)
 refine U.pd 5 T (C.nx (C.seq (U.start ?_)))
 refine U.pd 3 T (C.nx (C.ret ?_))
 exact C.f1 T hβ ⟨!x61.2, hm, rfl, rfl, rfl⟩
 refine C.block ?_
 refine St.wk (C.loop (fun (s42 : Int) => [(2, .p 0 0), (3, .p 1 0), (74, .sl 1 eI st.People), (75, .i (st.People.length : Int)), (76, .i s42)]) (fun (s42 : Int) => [(0, .box (eApiSite s_1)), (1, .box (eApiState st))]) hm (fun s42 Y43 hm => ?_)) (Wk.a (idR 2))
 refine C.seq (U.start ?_)
 refine U.pd 1 T (C.nx (C.seq ?_))
 refine C.ite rfl hm (fun hb46 hm => ?_) (fun hb46 hm => ?_)
 refine C.skip (C.nx (C.seq (C.block (C.seq (U.start ?_)))))
 obtain ⟨x49, hx49, hm⟩ := hm
 refine U.r rfl (.none rfl) rfl rfl (by exact Rd.ix T rfl rfl rfl rfl rfl rfl hx49) ?_
 refine U.pd 2 T (C.nx (C.seq (U.start ?_)))
 refine U.ps 3 T rfl ?_
 refine U.e1 rfl (.none rfl) (by exact Eff1.bs T (enc := eI) (xs := ([4, 5] : List Int)) rfl rfl rfl rfl rfl rfl rfl rfl rfl rfl (fun _ _ => rfl) rfl rfl) ?_
 refine U.k (T_body_on s_1.Floor x49 ([4, 5] : List Int) _ hm) en75 (fun x52 hm => ?_)
 refine U.pd 1 T (C.nx ?_)
 refine C.ite rfl hm (fun hb53 hm => ?_) (fun hb53 hm => ?_)
 refine C.seq (U.start ?_)
 refine U.pd 1 T (C.nx (C.ret (C.brt (C.rt (C.rt (C.brt (C.rt ?_)))))))
 exact C.f1 T hβ ⟨false, hm, rfl, rfl, rfl⟩
 refine C.skip (C.bnx (C.nx (U.start ?_)))
 refine U.pd 2 T (C.nx ?_)
 exact St.wk (C.next hm) (Wk.a (idR 2))
 refine C.exit (C.ex (C.ex (C.bex ?_)))
 exact St.wa [some 1] (hJ41 _ hm)
 refine C.block ?_
 refine St.wk (C.loop (fun (s20 : Int) => [(2, .p 0 0), (3, .p 1 0), (53, .sl 1 eI st.Shelves), (54, .i (st.Shelves.length : Int)), (55, .i s20)]) (fun (s20 : Int) => [(0, .box (eApiSite s_1)), (1, .box (eApiState st))]) hm (fun s20 Y21 hm => ?_)) (Wk.a (idR 2))
 refine C.seq (U.start ?_)
 refine U.pd 1 T (C.nx (C.seq ?_))
 refine C.ite rfl hm (fun hb24 hm => ?_) (fun hb24 hm => ?_)
 refine C.skip (C.nx (C.seq (C.block (C.seq (U.start ?_)))))
 refine U.ps 1 T rfl ?_
 obtain ⟨x27, hx27, hm⟩ := hm
 refine U.r rfl (.none rfl) rfl rfl (by exact Rd.ix T rfl rfl rfl rfl rfl rfl hx27) ?_
 refine U.pd 3 T (C.nx (C.seq ?_))
 refine C.jn (fun (x28 : Bool) => [(2, .p 0 0), (3, .p 1 0), (53, .sl 1 eI st.Shelves), (54, .i (st.Shelves.length : Int)), (55, .i s20), (71, .b x28)]) (fun (x28 : Bool) => [(0, .box (eApiSite s_1)), (1, .box (eApiState st))]) 2 hm (fun x28 hm => ?_) (fun J29 hm hJ29 => ?_)
 refine C.nx ?_
 refine C.ite rfl hm (fun hb33 hm => ?_) (fun hb33 hm => ?_)
 refine C.seq (U.start ?_)
 refine U.pd 1 T (C.nx (C.ret (C.brt (C.rt (C.rt (C.brt (C.rt ?_)))))))
 exact C.f1 T hβ ⟨false, hm, rfl, rfl, rfl⟩
 refine C.skip (C.bnx (C.nx (U.start ?_)))
 refine U.pd 2 T (C.nx ?_)
 exact St.wk (C.next hm) (Wk.a (idR 2))
 refine U.start ?_
 refine U.ps 2 T rfl ?_
 refine U.k (T_body_Carrier st s20 _ hm) en30 (fun x30 hm => ?_)
 refine U.ps 2 T rfl ?_
 refine hm.cs (fun hb31 hm => ?_) (fun hb31 hm => ?_)
 refine U.pg 3 4 true 64 hb31 T rfl rfl rfl rfl ?_
 refine U.e1 rfl (.take 4 true 64 _ hb31 rfl rfl rfl) (by exact Eff1.bs T (enc := eI) (xs := ([1, 2] : List Int)) rfl rfl rfl rfl rfl rfl rfl rfl rfl rfl (fun _ _ => rfl) rfl rfl) ?_
 refine U.k (T_body_on s_1.Floor x27 ([1, 2] : List Int) _ hm) en75 (fun x32 hm => ?_) (hw := .take 4 true 64 _ hb31 rfl rfl rfl)
 refine U.pg 1 4 true 64 hb31 T rfl rfl rfl rfl ?_
 refine U.pk hb31 ?_
 refine U.done ?_
 exact St.wa (idR 2) (hJ29 _ hm)
 refine U.sks 6 4 true 64 hb31 rfl rfl rfl ?_
 refine U.pk' hb31 ?_
 refine U.done ?_
 exact St.wa (idR 2) (hJ29 _ hm)
 refine C.exit (C.ex (C.ex (C.bex ?_)))
 exact St.wa (idR 2) (hJ19 _ hm)
 refine U.start ?_
 refine U.ps 2 T rfl ?_
 refine U.k (T_body_within st.Tick 0 20000 _ hm) en72 (fun x5 hm => ?_)
 refine U.ps 2 T rfl ?_
 refine hm.cs (fun hb6 hm => ?_) (fun hb6 hm => ?_)
 refine U.pg 7 4 false 15 (ntF hb6) T rfl rfl rfl rfl ?_
 refine U.r rfl (.none rfl) rfl rfl (by exact Rd.pk' rfl rfl (ntF hb6) rfl) ?_
 refine U.ps 1 T rfl ?_
 refine hm.cs (fun hb7 hm => ?_) (fun hb7 hm => ?_)
 refine U.sks 7 13 false 24 hb7 rfl rfl rfl ?_
 refine U.pk hb7 ?_
 refine U.ps 1 T rfl ?_
 refine U.sks 4 22 false 33 rfl rfl rfl rfl ?_
 refine U.pk rfl ?_
 refine U.ps 1 T rfl ?_
 refine U.sks 4 28 false 39 rfl rfl rfl rfl ?_
 refine U.pk rfl ?_
 refine U.ps 1 T rfl ?_
 refine U.sks 5 34 false 45 rfl rfl rfl rfl ?_
 refine U.pk rfl ?_
 refine U.done ?_
 exact St.wa (idR 2) (hJ4 _ hm)
 refine U.pg 7 13 false 24 hb7 T rfl rfl rfl rfl ?_
 refine U.pk' hb7 ?_
 refine U.ps 1 T rfl ?_
 refine hm.cs (fun hb8 hm => ?_) (fun hb8 hm => ?_)
 refine U.sks 4 22 false 33 hb8 rfl rfl rfl ?_
 refine U.pk hb8 ?_
 refine U.ps 1 T rfl ?_
 refine U.sks 4 28 false 39 rfl rfl rfl rfl ?_
 refine U.pk rfl ?_
 refine U.ps 1 T rfl ?_
 refine U.sks 5 34 false 45 rfl rfl rfl rfl ?_
 refine U.pk rfl ?_
 refine U.done ?_
 exact St.wa (idR 2) (hJ4 _ hm)
 refine U.pg 4 22 false 33 hb8 T rfl rfl rfl rfl ?_
 refine U.pk' hb8 ?_
 refine U.ps 1 T rfl ?_
 refine hm.cs (fun hb9 hm => ?_) (fun hb9 hm => ?_)
 refine U.sks 4 28 false 39 hb9 rfl rfl rfl ?_
 refine U.pk hb9 ?_
 refine U.ps 1 T rfl ?_
 refine U.sks 5 34 false 45 rfl rfl rfl rfl ?_
 refine U.pk rfl ?_
 refine U.done ?_
 exact St.wa (idR 2) (hJ4 _ hm)
 refine U.pg 2 28 false 39 hb9 T rfl rfl rfl rfl ?_
 refine U.k (T_body_robots s_1 st _ hm) en73 (fun x10 hm => ?_) (hw := .take 28 false 39 _ hb9 rfl rfl rfl)
 refine U.pg 1 28 false 39 hb9 T rfl rfl rfl rfl ?_
 refine U.pk' hb9 ?_
 refine U.ps 1 T rfl ?_
 refine hm.cs (fun hb11 hm => ?_) (fun hb11 hm => ?_)
 refine U.pg 3 34 false 45 (ntF hb11) T rfl rfl rfl rfl ?_
 refine U.k (T_body_rest s_1.Floor st _ hm) en74 (fun x12 hm => ?_) (hw := .take 34 false 45 _ (ntF hb11) rfl rfl rfl)
 refine U.pg 1 34 false 45 (ntF hb11) T rfl rfl rfl rfl ?_
 refine U.r rfl (.none rfl) rfl rfl (by exact Rd.pk' rfl rfl (ntF hb11) rfl) ?_
 refine U.done ?_
 exact St.wa (idR 2) (hJ4 _ hm)
 refine U.sks 5 34 false 45 (ntT hb11) rfl rfl rfl ?_
 refine U.r rfl (.none rfl) rfl rfl (by exact Rd.pk rfl rfl (ntT hb11) rfl) ?_
 refine U.done ?_
 exact St.wa (idR 2) (hJ4 _ hm)
 refine U.sks 7 4 false 15 (ntT hb6) rfl rfl rfl ?_
 refine U.r rfl (.none rfl) rfl rfl (by exact Rd.pk rfl rfl (ntT hb6) rfl) ?_
 refine U.ps 1 T rfl ?_
 refine U.sks 7 13 false 24 rfl rfl rfl rfl ?_
 refine U.pk rfl ?_
 refine U.ps 1 T rfl ?_
 refine U.sks 4 22 false 33 rfl rfl rfl rfl ?_
 refine U.pk rfl ?_
 refine U.ps 1 T rfl ?_
 refine U.sks 4 28 false 39 rfl rfl rfl rfl ?_
 refine U.pk rfl ?_
 refine U.ps 1 T rfl ?_
 refine U.sks 5 34 false 45 rfl rfl rfl rfl ?_
 refine U.pk rfl ?_
 refine U.done ?_
 exact St.wa (idR 2) (hJ4 _ hm)
theorem T_taquinref16_Few (l : List Taquinref16Act) (most : Int) (post : Bool → Prop) (hm : V_taquinref16_Few l most post) :
    Tr Tryz.prog 25 [.sl 4 eTaquinref16Act l, .i most] [] 0 (fun A H' k => ∃ y, post y ∧ A = (.b y) ∧ H' = [] ∧ k = 0) := by
 refine Tr.intro (n := 28) Tryz.func25 rfl Tryz.ntmps25 rfl (fun w0 ok F β hβ => ?_)
 unfold V_taquinref16_Few at hm
 refine C.seq (U.start ?_)
 refine U.pd 1 T (C.nx (C.seq (C.seq (U.start ?_))))
 refine U.pd 1 T (C.nx ?_)
 refine C.jn (fun (x5 : Unit) => [(0, .sl 4 eTaquinref16Act l), (1, .i most)]) (fun (x5 : Unit) => []) 0 hm (fun x5 hm => ?_) (fun J6 hm hJ6 => ?_)
 refine C.nx (C.seq (U.start ?_))
 refine U.pd 5 T (C.nx (C.ret ?_))
 exact C.f1 T hβ ⟨decide ((l.length : Int) ≤ most), hm, rfl, rfl, rfl⟩
 refine C.block ?_
 refine St.wk (C.loop (fun (s7 : Int) => [(0, .sl 4 eTaquinref16Act l), (1, .i most), (5, .i s7)]) (fun (s7 : Int) => []) hm (fun s7 Y8 hm => ?_)) (Wk.e)
 refine C.seq (C.seq ?_)
 refine C.jn (fun (x9 : Bool) => [(0, .sl 4 eTaquinref16Act l), (1, .i most), (5, .i s7), (14, .b x9)]) (fun (x9 : Bool) => []) 0 hm (fun x9 hm => ?_) (fun J10 hm hJ10 => ?_)
 refine C.nx ?_
 refine C.ite rfl hm (fun hb12 hm => ?_) (fun hb12 hm => ?_)
 refine C.skip (C.nx (C.seq (C.block (C.seq (U.start ?_)))))
 refine U.ps 2 T rfl ?_
 obtain ⟨x15, hx15, hm⟩ := hm
 refine U.r rfl (.none rfl) rfl rfl (by exact Rd.ix T rfl rfl rfl rfl rfl rfl hx15) ?_
 refine U.pd 4 T (C.nx ?_)
 refine C.ite rfl hm (fun hb16 hm => ?_) (fun hb16 hm => ?_)
 refine C.seq (U.start ?_)
 refine U.pd 1 T (C.nx (C.ret (C.brt (C.rt (C.rt (C.brt (C.rt ?_)))))))
 exact C.f1 T hβ ⟨false, hm, rfl, rfl, rfl⟩
 refine C.skip (C.bnx (C.nx (U.start ?_)))
 refine U.pd 3 T (C.nx ?_)
 exact St.wk (C.next hm) (Wk.e)
 refine C.exit (C.ex (C.ex (C.bex ?_)))
 exact St.wn (hJ6 _ hm)
 refine U.start ?_
 refine U.ps 5 T rfl ?_
 refine hm.cs (fun hb11 hm => ?_) (fun hb11 hm => ?_)
 refine U.pg 3 4 true 10 hb11 T rfl rfl rfl rfl ?_
 refine U.pk hb11 ?_
 refine U.done ?_
 exact St.wn (hJ10 _ hm)
 refine U.sks 3 4 true 10 hb11 rfl rfl rfl ?_
 refine U.pk' hb11 ?_
 refine U.done ?_
 exact St.wn (hJ10 _ hm)
theorem T_math_bits_Mul64 (x_1 : Int) (y_1 : Int) (post : (Int × Int) → Prop) (hm : V_math_bits_Mul64 x_1 y_1 post) :
    Tr Tryz.prog 197 [.v (.int .u64 x_1), .v (.int .u64 y_1)] [] 0 (fun A H' k => ∃ y, post y ∧ A = (.tup [.v (.int .u64 y.1), .v (.int .u64 y.2)]) ∧ H' = [] ∧ k = 0) := by
 refine Tr.intro (n := 51) Tryz.func197 rfl Tryz.ntmps197 rfl (fun w0 ok F β hβ => ?_)
 unfold V_math_bits_Mul64 at hm
 refine C.seq (U.start ?_)
 refine U.pd 2 T (C.nx (C.seq (U.start ?_)))
 refine U.pd 3 T (C.nx (C.seq (U.start ?_)))
 refine U.ps 1 T rfl ?_
 refine U.r rfl (.none rfl) rfl rfl (by exact Rd.sh rfl rfl rfl rfl (by decide)) ?_
 refine U.pd 1 T (C.nx (C.seq (U.start ?_)))
 refine U.pd 3 T (C.nx (C.seq (U.start ?_)))
 refine U.ps 1 T rfl ?_
 refine U.r rfl (.none rfl) rfl rfl (by exact Rd.sh rfl rfl rfl rfl (by decide)) ?_
 refine U.pd 1 T (C.nx (C.seq (U.start ?_)))
 refine U.pd 4 T (C.nx (C.seq (U.start ?_)))
 refine U.ps 4 T rfl ?_
 refine U.r rfl (.none rfl) rfl rfl (by exact Rd.sh rfl rfl rfl rfl (by decide)) ?_
 refine U.pd 2 T (C.nx (C.seq (U.start ?_)))
 refine U.pd 3 T (C.nx (C.seq (U.start ?_)))
 refine U.ps 1 T rfl ?_
 refine U.r rfl (.none rfl) rfl rfl (by exact Rd.sh rfl rfl rfl rfl (by decide)) ?_
 refine U.pd 1 T (C.nx (C.seq (U.start ?_)))
 refine U.pd 6 T (C.nx (C.seq (U.start ?_)))
 refine U.ps 6 T rfl ?_
 refine U.r rfl (.none rfl) rfl rfl (by exact Rd.sh rfl rfl rfl rfl (by decide)) ?_
 refine U.pd 2 T (C.nx (C.seq (U.start ?_)))
 refine U.pd 4 T (C.nx (C.ret ?_))
 exact C.f9 T hβ ⟨(IntKind.wrap .u64 ((IntKind.wrap .u64 ((IntKind.wrap .u64 ((shrI .u64 x_1 32) * (shrI .u64 y_1 32))) + (shrI .u64 (IntKind.wrap .u64 ((IntKind.wrap .u64 ((shrI .u64 x_1 32) * (band .u64 y_1 4294967295))) + (shrI .u64 (IntKind.wrap .u64 ((band .u64 x_1 4294967295) * (band .u64 y_1 4294967295))) 32))) 32))) + (shrI .u64 (IntKind.wrap .u64 ((band .u64 (IntKind.wrap .u64 ((IntKind.wrap .u64 ((shrI .u64 x_1 32) * (band .u64 y_1 4294967295))) + (shrI .u64 (IntKind.wrap .u64 ((band .u64 x_1 4294967295) * (band .u64 y_1 4294967295))) 32))) 4294967295) + (IntKind.wrap .u64 ((band .u64 x_1 4294967295) * (shrI .u64 y_1 32))))) 32)), IntKind.wrap .u64 (x_1 * y_1)), hm, rfl, rfl, rfl⟩
theorem T_math_bits_Mul (x_1 : Int) (y_1 : Int) (post : (Int × Int) → Prop) (hm : V_math_bits_Mul x_1 y_1 post) :
    Tr Tryz.prog 135 [.v (.int .u64 x_1), .v (.int .u64 y_1)] [] 0 (fun A H' k => ∃ y, post y ∧ A = (.tup [.v (.int .u64 y.1), .v (.int .u64 y.2)]) ∧ H' = [] ∧ k = 0) := by
 refine Tr.intro (n := 30) Tryz.func135 rfl Tryz.ntmps135 rfl (fun w0 ok F β hβ => ?_)
 unfold V_math_bits_Mul at hm
 refine C.seq (U.start ?_)
 refine U.pd 2 T (C.nx (C.seq ?_))
 refine C.condF rfl rfl ?_
 refine C.skip (C.nx (C.seq (U.start ?_)))
 refine U.ps 2 T rfl ?_
 refine U.k (T_math_bits_Mul64 x_1 y_1 _ hm) en197 (fun x5 hm => ?_)
 refine U.pd 5 T (C.nx (C.seq (U.start ?_)))
 refine U.pd 4 T (C.nx (C.ret ?_))
 exact C.f9 T hβ ⟨(x5.1, x5.2), hm, rfl, rfl, rfl⟩
theorem T_slices_Repeat_int_int (x_1 : List Int) (count : Int) (post : (List Int) → Prop) (hm : V_slices_Repeat_int_int x_1 count post) :
    Tr Tryz.prog 57 [.sl 1 eI x_1, .i count] [] 0 (fun A H' k => ∃ y, post y ∧ A = (.o 0) ∧ H' = [(0, .val (.os 1 eI y))] ∧ k = 1) := by
 refine Tr.intro (n := 48) Tryz.func57 rfl Tryz.ntmps57 rfl (fun w0 ok F β hβ => ?_)
 unfold V_slices_Repeat_int_int at hm
 refine C.seq (U.start ?_)
 refine U.pd 1 T (C.nx (C.seq (C.seq (U.start ?_))))
 refine U.pd 2 T (C.nx ?_)
 refine C.ite rfl hm (fun hb7 hm => ?_) (fun hb7 hm => ?_)
 refine U.start ?_
 exact hm.elim
 refine C.skip (C.nx (C.seq (U.start ?_)))
 refine U.ps 5 T rfl ?_
 refine U.k (T_math_bits_Mul (IntKind.wrap .u64 (x_1.length : Int)) (IntKind.wrap .u64 count) _ hm) en135 (fun x12 hm => ?_)
 refine U.pd 5 T (C.nx (C.seq (C.seq ?_)))
 refine C.jn (fun (x13 : Bool) => [(0, .sl 1 eI x_1), (6, .v (.int .u64 x12.2)), (26, .b x13)]) (fun (x13 : Bool) => []) 0 hm (fun x13 hm => ?_) (fun J14 hm hJ14 => ?_)
 refine C.nx ?_
 refine C.ite rfl hm (fun hb18 hm => ?_) (fun hb18 hm => ?_)
 refine U.start ?_
 exact hm.elim
 refine C.skip (C.nx (C.seq (U.start ?_)))
 refine U.ps 2 T rfl ?_
 obtain ⟨hx23, hm⟩ := hm
 refine U.e1 rfl (.none rfl) (by exact Eff1.mk T (enc := eI) (z0 := 0) rfl rfl rfl rfl rfl rfl rfl rfl rfl rfl hx23) ?_
 refine U.pd 1 T (C.nx (C.seq (U.start ?_)))
 refine U.ps 2 T rfl ?_
 refine U.e1 rfl (.none rfl) (by exact Eff1.cp T rfl rfl rfl rfl (.inr ⟨rfl, rfl, rfl⟩) rfl rfl (.inl rfl) rfl rfl rfl (fun _ => rfl) (Nat.le_of_eq (Nat.zero_add _)) rfl) ?_
 refine U.pd 1 T (C.nx (C.seq ?_))
 refine C.jn (fun (x26 : List Int) => [(7, .o 0)]) (fun (x26 : List Int) => [(0, .val (.os 1 eI x26))]) 1 hm (fun x26 hm => ?_) (fun J27 hm hJ27 => ?_)
 refine C.nx (C.seq (U.start ?_))
 refine U.pd 2 T (C.nx (C.ret ?_))
 exact C.g1 [some 0] T hβ ⟨x26, hm, rfl, rfl, rfl⟩
 refine C.block ?_
 refine St.wk (C.loop (fun (s28 : List Int × Int) => [(7, .o 0), (8, .i s28.2)]) (fun (s28 : List Int × Int) => [(0, .val (.os 1 eI s28.1))]) hm (fun s28 Y29 hm => ?_)) (Wk.a [some 0])
 refine C.seq (C.seq (U.start ?_))
 refine U.pd 4 T (C.nx ?_)
 refine C.ite rfl hm (fun hb32 hm => ?_) (fun hb32 hm => ?_)
 refine C.skip (C.nx (C.block ?_))
 refine D.beg 9999 [] [0] mix rfl rfl (by kernel_rfl) (by repeat (first | exact NoPanicQ.body | exact NoPanicQ.rnd | refine NoPanicQ.th ?_ | refine NoPanicQ.blk ?_ | refine NoPanicQ.ng ?_)) (fun hQ hS ws M' => ?_)
 refine D.ps 3 [(0, []), (1, []), (2, [])] rfl hQ hS T rfl rfl (by kernel_rfl) ?_
 obtain ⟨hx35, hm⟩ := hm
 refine D.q 3 [] hQ hS rfl (.none rfl) rfl rfl (by exact Rd.vw T rfl rfl rfl rfl rfl rfl (.some _ rfl) (.none _) hx35) rfl (by kernel_rfl) ?_
 refine D.ps 2 [(4, []), (5, [])] rfl hQ hS T rfl rfl (by kernel_rfl) ?_
 obtain ⟨hx36, hm⟩ := hm
 refine D.q 6 [] hQ hS rfl (.none rfl) rfl rfl (by exact Rd.vw T rfl rfl rfl rfl rfl rfl (.none _) (.some _ rfl) hx36) rfl (by kernel_rfl) ?_
 obtain ⟨hx37, hm⟩ := hm
 obtain ⟨hx38, hm⟩ := hm
 refine D.e1 7 rfl (.none rfl) (by exact Eff1.cp T rfl rfl rfl rfl (.inl rfl) rfl rfl (.inr (.inr ⟨_, _, _, _, rfl, rfl, hx38, rfl⟩)) rfl rfl rfl (fun _ => rfl) hx37 rfl) (by kernel_rfl) rfl rfl ?_
 refine D.ps 2 [(8, []), (9, [])] rfl hQ hS T rfl rfl (by kernel_rfl) ?_
 refine D.done (by kernel_rfl) ?_
 refine C.bnx (C.nx ?_)
 exact St.wk (C.next hm) (Wk.a [some 0])
 refine C.exit (C.ex (C.ex (C.bex ?_)))
 exact St.wa [some 0] (hJ27 _ hm)
 refine U.start ?_
 refine U.ps 3 T rfl ?_
 refine hm.cs (fun hb15 hm => ?_) (fun hb15 hm => ?_)
 refine U.sks 2 2 false 23 hb15 rfl rfl rfl ?_
 refine U.pk hb15 ?_
 refine U.done ?_
 exact St.wn (hJ14 _ hm)
 refine U.pg 2 2 false 23 hb15 T rfl rfl rfl rfl ?_
 refine U.pk' hb15 ?_
 refine U.done ?_
 exact St.wn (hJ14 _ hm)
theorem T_arena_Stays (st : ApiState) (post : (List Int) → Prop) (hm : V_arena_Stays st post) :
    Tr Tryz.prog 19 [.agg (eApiState st)] [] 0 (fun A H' k => ∃ y, post y ∧ A = (.o 0) ∧ H' = [(0, .val (.os 1 eI y))] ∧ k = 1) := by
 refine Tr.intro (n := 8) Tryz.func19 rfl Tryz.ntmps19 rfl (fun w0 ok F β hβ => ?_)
 unfold V_arena_Stays at hm
 refine C.seq (U.start ?_)
 refine U.bx ?_
 refine U.pd 1 T (C.nx (C.seq (U.start ?_)))
 refine U.e1 rfl (.none rfl) (by exact Eff1.bs T (enc := eI) (xs := ([0] : List Int)) rfl rfl rfl rfl rfl rfl rfl rfl rfl rfl (fun _ _ => rfl) rfl rfl) ?_
 refine U.ps 3 T rfl ?_
 refine U.k (T_slices_Repeat_int_int ([0] : List Int) (st.Robots.length : Int) _ hm) en57 (fun x5 hm => ?_)
 refine U.pd 1 T (C.nx (C.ret ?_))
 exact C.g1 [some 2] T hβ ⟨x5, hm, rfl, rfl, rfl⟩
theorem T_taquinlaw16_ArenaStays (s_1 : ApiSite) (st : ApiState) (l : List Taquinref16Act) (post : Bool → Prop) (hm : V_taquinlaw16_ArenaStays s_1 st l post) :
    Tr Tryz.prog 7 [.agg (eApiSite s_1), .agg (eApiState st), .sl 4 eTaquinref16Act l] [] 0 (fun A H' k => ∃ y, post y ∧ A = (.b y) ∧ H' = [] ∧ k = 0) := by
 refine Tr.intro (n := 190) Tryz.func7 rfl Tryz.ntmps7 rfl (fun w0 ok F β hβ => ?_)
 unfold V_taquinlaw16_ArenaStays at hm
 refine C.seq (U.start ?_)
 refine U.bx ?_
 refine U.bx ?_
 refine U.pd 1 T (C.nx (C.seq (U.start ?_)))
 refine U.k (T_taquinlaw16_small _ hm) en8 (fun x5 hm => ?_)
 refine U.pd 1 T (C.nx (C.seq (C.seq ?_)))
 refine C.jn (fun (x6 : Bool) => [(2, .sl 4 eTaquinref16Act l), (3, .p 0 0), (4, .p 1 0), (7, .b x5), (41, .b x6)]) (fun (x6 : Bool) => [(0, .box (eApiSite s_1)), (1, .box (eApiState st))]) 2 hm (fun x6 hm => ?_) (fun J7 hm hJ7 => ?_)
 refine C.nx ?_
 refine C.ite rfl hm (fun hb17 hm => ?_) (fun hb17 hm => ?_)
 refine C.seq (U.start ?_)
 refine U.pd 2 T (C.nx (C.ret (C.rt ?_)))
 exact C.f1 T hβ ⟨x5, hm, rfl, rfl, rfl⟩
 refine C.skip (C.nx (C.seq (C.seq (U.start ?_))))
 refine U.pd 1 T (C.nx ?_)
 refine C.jn (fun (x22 : Unit) => [(7, .b x5)]) (fun (x22 : Unit) => []) 0 hm (fun x22 hm => ?_) (fun J23 hm hJ23 => ?_)
 refine C.nx (C.seq (U.start ?_))
 refine U.pd 2 T (C.nx (C.ret ?_))
 exact C.f1 T hβ ⟨x5, hm, rfl, rfl, rfl⟩
 refine C.block ?_
 refine St.wk (C.loop (fun (s24 : Int × List Int × List ApiRobot × List Int × List Int × List ApiStuck × Int) => [(2, .sl 4 eTaquinref16Act l), (3, .p 0 0), (4, .p 1 0), (7, .b x5), (8, .i s24.2.2.2.2.2.2)]) (fun (s24 : Int × List Int × List ApiRobot × List Int × List Int × List ApiStuck × Int) => [(0, .box (eApiSite s_1)), (1, .box [.i s24.1, .sl 1 eI s24.2.1, .sl 6 eApiRobot s24.2.2.1, .sl 1 eI s24.2.2.2.1, .sl 1 eI s24.2.2.2.2.1, .sl 2 eApiStuck s24.2.2.2.2.2.1])]) hm (fun s24 Y25 hm => ?_)) (Wk.a (idR 2))
 refine C.seq (C.seq (U.start ?_))
 refine U.pd 4 T (C.nx ?_)
 refine C.ite rfl hm (fun hb28 hm => ?_) (fun hb28 hm => ?_)
 refine C.skip (C.nx (C.seq ?_))
 refine C.jn (fun (x29 : Int × List Int × List ApiRobot × List Int × List Int × List ApiStuck) => [(2, .sl 4 eTaquinref16Act l), (3, .p 0 0), (4, .p 1 0), (7, .b x5), (8, .i s24.2.2.2.2.2.2)]) (fun (x29 : Int × List Int × List ApiRobot × List Int × List Int × List ApiStuck) => [(0, .box (eApiSite s_1)), (1, .box [.i x29.1, .sl 1 eI x29.2.1, .sl 6 eApiRobot x29.2.2.1, .sl 1 eI x29.2.2.2.1, .sl 1 eI x29.2.2.2.2.1, .sl 2 eApiStuck x29.2.2.2.2.2])]) 2 hm (fun x29 hm => ?_) (fun J30 hm hJ30 => ?_)
 refine C.nx (U.start ?_)
 refine U.pd 3 T (C.nx ?_)
 exact St.wk (C.next hm) (Wk.a (idR 2))
 refine C.block (C.seq (U.start ?_))
 refine U.ps 1 T rfl ?_
 refine U.k (T_arena_Stays ({ Tick := s24.1, Shelves := s24.2.1, Robots := s24.2.2.1, People := s24.2.2.2.1, Dead := s24.2.2.2.2.1, Stuck := s24.2.2.2.2.2.1 : ApiState }) _ hm) en19 (fun x33 hm => ?_)
 refine U.pd 1 T (C.nx (C.seq (C.seq ?_)))
 refine D.beg 9999 [0, 1] [] mix rfl rfl (by kernel_rfl) (by repeat (first | exact NoPanicQ.body | exact NoPanicQ.rnd | refine NoPanicQ.th ?_ | refine NoPanicQ.blk ?_ | refine NoPanicQ.ng ?_)) (fun hQ hS ws M' => ?_)
 refine D.ps 6 [(0, []), (1, []), (2, []), (5, []), (6, []), (7, [])] rfl hQ hS T rfl rfl (by kernel_rfl) ?_
 refine D.k 3 (T_arena_Check s_1 ({ Tick := s24.1, Shelves := s24.2.1, Robots := s24.2.2.1, People := s24.2.2.2.1, Dead := s24.2.2.2.2.1, Stuck := s24.2.2.2.2.2.1 : ApiState }) x33 _ hm) en10 (fun x36 hm => ?_)
 refine D.ps 2 [(4, []), (8, [])] rfl hQ hS T rfl rfl (by kernel_rfl) ?_
 refine D.done (by kernel_rfl) ?_
 refine C.nx ?_
 refine C.ite rfl hm (fun hb37 hm => ?_) (fun hb37 hm => ?_)
 refine C.seq (U.start ?_)
 refine U.pd 1 T (C.nx (C.ret (C.rt (C.brt (C.rt (C.rt (C.brt (C.rt ?_))))))))
 exact C.f1 T hβ ⟨false, hm, rfl, rfl, rfl⟩
 refine C.skip (C.nx (C.seq (U.start ?_)))
 refine U.ps 4 T rfl ?_
 refine U.k (T_arena_Step s_1 ({ Tick := s24.1, Shelves := s24.2.1, Robots := s24.2.2.1, People := s24.2.2.2.1, Dead := s24.2.2.2.2.1, Stuck := s24.2.2.2.2.2.1 : ApiState }) x33 ({ Kind := 0, A := 0, N := 0 : ApiFault }) _ hm) en17 (fun x42 hm => ?_)
 refine U.ps 3 T rfl ?_
 refine U.e1 rfl (.none rfl) (by exact Eff1.al T rfl rfl rfl rfl) ?_
 refine U.e1 rfl (.none rfl) (by exact Eff1.st T rfl rfl rfl rfl rfl rfl rfl rfl rfl rfl) ?_
 refine U.pd 1 T (C.nx (C.seq (C.seq (U.start ?_))))
 refine U.pd 1 T (C.nx ?_)
 refine C.jn (fun (x45 : Unit) => [(2, .sl 4 eTaquinref16Act l), (3, .p 0 0), (4, .p 1 0), (7, .b x5), (8, .i s24.2.2.2.2.2.2)]) (fun (x45 : Unit) => [(0, .box (eApiSite s_1)), (1, .box [.i s24.1, .sl 1 eI s24.2.1, .sl 6 eApiRobot s24.2.2.1, .sl 1 eI s24.2.2.2.1, .sl 1 eI s24.2.2.2.2.1, .sl 2 eApiStuck s24.2.2.2.2.2.1])]) 2 hm (fun x45 hm => ?_) (fun J46 hm hJ46 => ?_)
 refine C.nx (C.seq ?_)
 refine C.jn (fun (x63 : Int × List Int × List ApiRobot × List Int × List Int × List ApiStuck × Int) => [(2, .sl 4 eTaquinref16Act l), (3, .p 0 0), (4, .p 1 0), (7, .b x5), (8, .i s24.2.2.2.2.2.2), (13, .p 2 0), (14, .i x63.2.2.2.2.2.2)]) (fun (x63 : Int × List Int × List ApiRobot × List Int × List Int × List ApiStuck × Int) => [(0, .box (eApiSite s_1)), (1, .box [.i s24.1, .sl 1 eI s24.2.1, .sl 6 eApiRobot s24.2.2.1, .sl 1 eI s24.2.2.2.1, .sl 1 eI s24.2.2.2.2.1, .sl 2 eApiStuck s24.2.2.2.2.2.1]), (2, .box [.i x63.1, .o 3, .o 4, .o 5, .o 6, .o 7]), (3, .val (.os 1 eI x63.2.1)), (4, .val (.os 6 eApiRobot x63.2.2.1)), (5, .val (.os 1 eI x63.2.2.2.1)), (6, .val (.os 1 eI x63.2.2.2.2.1)), (7, .val (.os 2 eApiStuck x63.2.2.2.2.2.1))]) 8 hm (fun x63 hm => ?_) (fun J64 hm hJ64 => ?_)
 refine C.nx (C.seq (C.seq (U.start ?_)))
 refine U.pd 2 T (C.nx ?_)
 refine C.ite rfl hm (fun hb69 hm => ?_) (fun hb69 hm => ?_)
 refine C.exit (C.ex (C.bex ?_))
 exact St.wa (idR 2) (hJ30 _ hm)
 refine C.skip (C.nx (C.seq (C.seq (U.start ?_))))
 refine U.pd 1 T (C.nx ?_)
 refine C.jn (fun (x72 : Unit) => [(2, .sl 4 eTaquinref16Act l), (3, .p 0 0), (4, .p 1 0), (7, .b x5), (8, .i s24.2.2.2.2.2.2), (13, .p 2 0)]) (fun (x72 : Unit) => [(0, .box (eApiSite s_1)), (1, .box [.i s24.1, .sl 1 eI s24.2.1, .sl 6 eApiRobot s24.2.2.1, .sl 1 eI s24.2.2.2.1, .sl 1 eI s24.2.2.2.2.1, .sl 2 eApiStuck s24.2.2.2.2.2.1]), (2, .box [.i x63.1, .o 3, .o 4, .o 5, .o 6, .o 7]), (3, .val (.os 1 eI x63.2.1)), (4, .val (.os 6 eApiRobot x63.2.2.1)), (5, .val (.os 1 eI x63.2.2.2.1)), (6, .val (.os 1 eI x63.2.2.2.2.1)), (7, .val (.os 2 eApiStuck x63.2.2.2.2.2.1))]) 8 hm (fun x72 hm => ?_) (fun J73 hm hJ73 => ?_)
 refine C.nx (U.start ?_)
 refine U.ps 1 T rfl ?_
 refine U.e1 rfl (.none rfl) (by exact Eff1.st T rfl rfl rfl rfl rfl rfl rfl rfl rfl rfl) ?_
 refine U.done (C.bnx ?_)
 exact St.wk (hJ30 _ hm) (Wk.mk' [some 0, some 1] rfl rfl (.eqs rfl) ⟨bX, ⟨_, rfl, .box rfl (.cons (.eq rfl) (.cons (.fz rfl rfl rfl (.os fun _ => .cons (.ro rfl) .nil)) (.cons (.fz rfl rfl rfl (.os fun _ => .cons (.ro rfl) (.cons (.ro rfl) (.cons (.ro rfl) (.cons (.ro rfl) (.cons (.ro rfl) (.cons (.ro rfl) .nil))))))) (.cons (.fz rfl rfl rfl (.os fun _ => .cons (.ro rfl) .nil)) (.cons (.fz rfl rfl rfl (.os fun _ => .cons (.ro rfl) .nil)) (.cons (.fz rfl rfl rfl (.os fun _ => .cons (.ro rfl) (.cons (.ro rfl) .nil))) .nil))))))⟩, trivial⟩ rfl)
 refine C.block ?_
 refine St.wk (C.loop (fun (s74 : Int) => [(2, .sl 4 eTaquinref16Act l), (3, .p 0 0), (4, .p 1 0), (7, .b x5), (8, .i s24.2.2.2.2.2.2), (13, .p 2 0), (15, .i s74)]) (fun (s74 : Int) => [(0, .box (eApiSite s_1)), (1, .box [.i s24.1, .sl 1 eI s24.2.1, .sl 6 eApiRobot s24.2.2.1, .sl 1 eI s24.2.2.2.1, .sl 1 eI s24.2.2.2.2.1, .sl 2 eApiStuck s24.2.2.2.2.2.1]), (2, .box [.i x63.1, .o 3, .o 4, .o 5, .o 6, .o 7]), (3, .val (.os 1 eI x63.2.1)), (4, .val (.os 6 eApiRobot x63.2.2.1)), (5, .val (.os 1 eI x63.2.2.2.1)), (6, .val (.os 1 eI x63.2.2.2.2.1)), (7, .val (.os 2 eApiStuck x63.2.2.2.2.2.1))]) hm (fun s74 Y75 hm => ?_)) (Wk.a (idR 8))
 refine C.seq (C.seq (U.start ?_))
 refine U.pd 5 T (C.nx ?_)
 refine C.ite rfl hm (fun hb78 hm => ?_) (fun hb78 hm => ?_)
 refine C.skip (C.nx (C.seq (C.block (C.seq (U.start ?_)))))
 refine U.ps 3 T rfl ?_
 obtain ⟨x81, hx81, hm⟩ := hm
 refine U.r rfl (.none rfl) rfl rfl (by exact Rd.ix T rfl rfl rfl rfl rfl rfl hx81) ?_
 refine U.ps 1 T rfl ?_
 refine U.e1 rfl (.none rfl) (by exact Eff1.al T rfl rfl rfl rfl) ?_
 refine U.e1 rfl (.none rfl) (by exact Eff1.st T rfl rfl rfl rfl rfl rfl rfl rfl rfl rfl) ?_
 refine U.done (C.nx (C.seq (C.seq ?_)))
 refine C.jn (fun (x82 : Bool) => [(2, .sl 4 eTaquinref16Act l), (3, .p 0 0), (4, .p 1 0), (7, .b x5), (8, .i s24.2.2.2.2.2.2), (13, .p 2 0), (15, .i s74), (16, .p 8 0), (176, .b x82)]) (fun (x82 : Bool) => [(0, .box (eApiSite s_1)), (1, .box [.i s24.1, .sl 1 eI s24.2.1, .sl 6 eApiRobot s24.2.2.1, .sl 1 eI s24.2.2.2.1, .sl 1 eI s24.2.2.2.2.1, .sl 2 eApiStuck s24.2.2.2.2.2.1]), (2, .box [.i x63.1, .o 3, .o 4, .o 5, .o 6, .o 7]), (3, .val (.os 1 eI x63.2.1)), (4, .val (.os 6 eApiRobot x63.2.2.1)), (5, .val (.os 1 eI x63.2.2.2.1)), (6, .val (.os 1 eI x63.2.2.2.2.1)), (7, .val (.os 2 eApiStuck x63.2.2.2.2.2.1)), (8, .box (eApiRobot x81))]) 9 hm (fun x82 hm => ?_) (fun J83 hm hJ83 => ?_)
 refine C.nx ?_
 refine C.ite rfl hm (fun hb96 hm => ?_) (fun hb96 hm => ?_)
 refine C.seq (U.start ?_)
 refine U.pd 1 T (C.nx (C.ret (C.rt (C.brt (C.rt (C.rt (C.brt (C.rt (C.brt (C.rt (C.rt (C.brt (C.rt ?_)))))))))))))
 exact C.f1 T hβ ⟨false, hm, rfl, rfl, rfl⟩
 refine C.skip (C.nx (C.seq ?_))
 refine C.jn (fun (x99 : Bool) => [(2, .sl 4 eTaquinref16Act l), (3, .p 0 0), (4, .p 1 0), (7, .b x5), (8, .i s24.2.2.2.2.2.2), (13, .p 2 0), (15, .i s74), (187, .b x99)]) (fun (x99 : Bool) => [(0, .box (eApiSite s_1)), (1, .box [.i s24.1, .sl 1 eI s24.2.1, .sl 6 eApiRobot s24.2.2.1, .sl 1 eI s24.2.2.2.1, .sl 1 eI s24.2.2.2.2.1, .sl 2 eApiStuck s24.2.2.2.2.2.1]), (2, .box [.i x63.1, .o 3, .o 4, .o 5, .o 6, .o 7]), (3, .val (.os 1 eI x63.2.1)), (4, .val (.os 6 eApiRobot x63.2.2.1)), (5, .val (.os 1 eI x63.2.2.2.1)), (6, .val (.os 1 eI x63.2.2.2.2.1)), (7, .val (.os 2 eApiStuck x63.2.2.2.2.2.1))]) 8 hm (fun x99 hm => ?_) (fun J100 hm hJ100 => ?_)
 refine C.nx ?_
 refine C.ite rfl hm (fun hb103 hm => ?_) (fun hb103 hm => ?_)
 refine C.seq (U.start ?_)
 refine U.pd 1 T (C.nx (C.ret (C.brt (C.rt (C.rt (C.brt (C.rt (C.brt (C.rt (C.rt (C.brt (C.rt ?_))))))))))))
 exact C.f1 T hβ ⟨false, hm, rfl, rfl, rfl⟩
 refine C.skip (C.bnx (C.nx (U.start ?_)))
 refine U.pd 3 T (C.nx ?_)
 exact St.wk (C.next hm) (Wk.a (idR 8))
 refine U.start ?_
 refine U.ps 3 T rfl ?_
 refine hm.cs (fun hb101 hm => ?_) (fun hb101 hm => ?_)
 refine U.pg 3 2 true 179 hb101 T rfl rfl rfl rfl ?_
 obtain ⟨x102, hx102, hm⟩ := hm
 refine U.r rfl (.take 2 true 179 _ hb101 rfl rfl rfl) rfl rfl (by exact Rd.io T rfl rfl rfl rfl rfl rfl rfl hx102) ?_
 refine U.pg 1 2 true 179 hb101 T rfl rfl rfl rfl ?_
 refine U.r rfl (.take 2 true 179 _ hb101 rfl rfl rfl) rfl rfl (by exact Rd.le T rfl rfl rfl (idx_some hx102).2.2 rfl rfl rfl) ?_
 refine U.pg 1 2 true 179 hb101 T rfl rfl rfl rfl ?_
 refine U.pk hb101 ?_
 refine U.done ?_
 exact St.wa (idR 8) (hJ100 _ hm)
 refine U.sks 7 2 true 179 hb101 rfl rfl rfl ?_
 refine U.pk' hb101 ?_
 refine U.done ?_
 exact St.wa (idR 8) (hJ100 _ hm)
 refine D.beg 9999 [2, 4, 8] [] mix rfl rfl (by kernel_rfl) (by repeat (first | exact NoPanicQ.body | exact NoPanicQ.rnd | refine NoPanicQ.th ?_ | refine NoPanicQ.blk ?_ | refine NoPanicQ.ng ?_)) (fun hQ hS ws M' => ?_)
 refine D.ps 3 [(0, []), (1, []), (2, [])] rfl hQ hS T rfl rfl (by kernel_rfl) ?_
 refine hm.cs (fun hb84 hm => ?_) (fun hb84 hm => ?_)
 refine D.sx 3 [] hQ hS (.skip 2 false 139 _ hb84 rfl rfl rfl) ?_
 refine D.sx 4 [] hQ hS (.skip 2 false 139 _ hb84 rfl rfl rfl) ?_
 refine D.sx 5 [] hQ hS (.skip 2 false 139 _ hb84 rfl rfl rfl) ?_
 refine D.q 6 [] hQ hS rfl (.none rfl) rfl rfl (by exact Rd.pk rfl rfl hb84 rfl) rfl (by kernel_rfl) ?_
 refine D.ps 1 [(7, [])] rfl hQ hS T rfl rfl (by kernel_rfl) ?_
 refine D.q 8 [] hQ hS rfl (.take 7 true 144 _ rfl rfl rfl rfl) rfl rfl (by exact Rd.p T rfl) rfl (by kernel_rfl) ?_
 refine D.q 9 [] hQ hS rfl (.take 7 true 144 _ rfl rfl rfl rfl) rfl rfl (by exact Rd.p T rfl) rfl (by kernel_rfl) ?_
 obtain ⟨x85, hx85, hm⟩ := hm
 refine D.q 10 [] hQ hS rfl (.take 7 true 144 _ rfl rfl rfl rfl) rfl rfl (by exact Rd.ix T rfl rfl rfl rfl rfl rfl hx85) rfl (by kernel_rfl) ?_
 refine D.q 11 [] hQ hS rfl (.take 7 true 144 _ rfl rfl rfl rfl) rfl rfl (by exact Rd.p T rfl) rfl (by kernel_rfl) ?_
 refine D.q 12 [] hQ hS rfl (.take 7 true 144 _ rfl rfl rfl rfl) rfl rfl (by exact Rd.l T rfl rfl rfl) rfl (by kernel_rfl) ?_
 refine D.q 13 [] hQ hS rfl (.take 7 true 144 _ rfl rfl rfl rfl) rfl rfl (by exact Rd.p T rfl) rfl (by kernel_rfl) ?_
 obtain ⟨x86, hx86, hm⟩ := hm
 refine D.q 14 [] hQ hS rfl (.take 7 true 144 _ rfl rfl rfl rfl) rfl rfl (by exact Rd.ix T rfl rfl rfl rfl rfl rfl hx86) rfl (by kernel_rfl) ?_
 refine D.q 15 [] hQ hS rfl (.take 7 true 144 _ rfl rfl rfl rfl) rfl rfl (by exact Rd.l T rfl rfl rfl) rfl (by kernel_rfl) ?_
 refine D.q 16 [] hQ hS rfl (.take 7 true 144 _ rfl rfl rfl rfl) rfl rfl (by exact Rd.p T rfl) rfl (by kernel_rfl) ?_
 refine D.q 17 [] hQ hS rfl (.take 7 true 144 _ rfl rfl rfl rfl) rfl rfl (by exact Rd.p T rfl) rfl (by kernel_rfl) ?_
 refine hm.cs (fun hb87 hm => ?_) (fun hb87 hm => ?_)
 refine D.sx 18 [] hQ hS (.skip 17 false 154 _ hb87 rfl rfl rfl) ?_
 refine D.sx 19 [] hQ hS (.skip 17 false 154 _ hb87 rfl rfl rfl) ?_
 refine D.sx 20 [] hQ hS (.skip 17 false 154 _ hb87 rfl rfl rfl) ?_
 refine D.sx 21 [] hQ hS (.skip 17 false 154 _ hb87 rfl rfl rfl) ?_
 refine D.sx 22 [] hQ hS (.skip 17 false 154 _ hb87 rfl rfl rfl) ?_
 refine D.sx 23 [] hQ hS (.skip 17 false 154 _ hb87 rfl rfl rfl) ?_
 refine D.sx 24 [] hQ hS (.skip 17 false 154 _ hb87 rfl rfl rfl) ?_
 refine D.sx 25 [] hQ hS (.skip 17 false 154 _ hb87 rfl rfl rfl) ?_
 refine D.sx 26 [] hQ hS (.skip 17 false 154 _ hb87 rfl rfl rfl) ?_
 refine D.q 27 [] hQ hS rfl (.take 7 true 144 _ rfl rfl rfl rfl) rfl rfl (by exact Rd.pk rfl rfl hb87 rfl) rfl (by kernel_rfl) ?_
 refine D.q 28 [] hQ hS rfl (.take 7 true 144 _ rfl rfl rfl rfl) rfl rfl (by exact Rd.p T rfl) rfl (by kernel_rfl) ?_
 refine D.sx 29 [] hQ hS (.skip 28 false 165 _ rfl rfl rfl rfl) ?_
 refine D.sx 30 [] hQ hS (.skip 28 false 165 _ rfl rfl rfl rfl) ?_
 refine D.sx 31 [] hQ hS (.skip 28 false 165 _ rfl rfl rfl rfl) ?_
 refine D.sx 32 [] hQ hS (.skip 28 false 165 _ rfl rfl rfl rfl) ?_
 refine D.sx 33 [] hQ hS (.skip 28 false 165 _ rfl rfl rfl rfl) ?_
 refine D.sx 34 [] hQ hS (.skip 28 false 165 _ rfl rfl rfl rfl) ?_
 refine D.sx 35 [] hQ hS (.skip 28 false 165 _ rfl rfl rfl rfl) ?_
 refine D.sx 36 [] hQ hS (.skip 28 false 165 _ rfl rfl rfl rfl) ?_
 refine D.sx 37 [] hQ hS (.skip 28 false 165 _ rfl rfl rfl rfl) ?_
 refine D.q 38 [] hQ hS rfl (.take 7 true 144 _ rfl rfl rfl rfl) rfl rfl (by exact Rd.pk rfl rfl rfl rfl) rfl (by kernel_rfl) ?_
 refine D.q 39 [] hQ hS rfl (.none rfl) rfl rfl (by exact Rd.pk rfl rfl rfl rfl) rfl (by kernel_rfl) ?_
 refine D.done (by kernel_rfl) ?_
 exact St.wa (idR 9) (hJ83 _ hm)
 refine D.q 18 [] hQ hS rfl (.take 17 false 154 _ hb87 rfl rfl rfl) rfl rfl (by exact Rd.p T rfl) rfl (by kernel_rfl) ?_
 refine D.q 19 [] hQ hS rfl (.take 17 false 154 _ hb87 rfl rfl rfl) rfl rfl (by exact Rd.l T rfl rfl rfl) rfl (by kernel_rfl) ?_
 refine D.q 20 [] hQ hS rfl (.take 17 false 154 _ hb87 rfl rfl rfl) rfl rfl (by exact Rd.p T rfl) rfl (by kernel_rfl) ?_
 obtain ⟨x88, hx88, hm⟩ := hm
 refine D.q 21 [] hQ hS rfl (.take 17 false 154 _ hb87 rfl rfl rfl) rfl rfl (by exact Rd.io T rfl rfl rfl rfl rfl rfl rfl hx88) rfl (by kernel_rfl) ?_
 refine D.q 22 [] hQ hS rfl (.take 17 false 154 _ hb87 rfl rfl rfl) rfl rfl (by exact Rd.p T rfl) rfl (by kernel_rfl) ?_
 refine D.q 23 [] hQ hS rfl (.take 17 false 154 _ hb87 rfl rfl rfl) rfl rfl (by exact Rd.le T rfl rfl rfl (idx_some hx88).2.2 rfl rfl rfl) rfl (by kernel_rfl) ?_
 refine D.q 24 [] hQ hS rfl (.take 17 false 154 _ hb87 rfl rfl rfl) rfl rfl (by exact Rd.p T rfl) rfl (by kernel_rfl) ?_
 refine D.q 25 [] hQ hS rfl (.take 17 false 154 _ hb87 rfl rfl rfl) rfl rfl (by exact Rd.l T rfl rfl rfl) rfl (by kernel_rfl) ?_
 refine D.q 26 [] hQ hS rfl (.take 17 false 154 _ hb87 rfl rfl rfl) rfl rfl (by exact Rd.p T rfl) rfl (by kernel_rfl) ?_
 refine D.q 27 [] hQ hS rfl (.take 7 true 144 _ rfl rfl rfl rfl) rfl rfl (by exact Rd.pk' rfl rfl hb87 rfl) rfl (by kernel_rfl) ?_
 refine D.q 28 [] hQ hS rfl (.take 7 true 144 _ rfl rfl rfl rfl) rfl rfl (by exact Rd.p T rfl) rfl (by kernel_rfl) ?_
 refine hm.cs (fun hb89 hm => ?_) (fun hb89 hm => ?_)
 refine D.sx 29 [] hQ hS (.skip 28 false 165 _ hb89 rfl rfl rfl) ?_
 refine D.sx 30 [] hQ hS (.skip 28 false 165 _ hb89 rfl rfl rfl) ?_
 refine D.sx 31 [] hQ hS (.skip 28 false 165 _ hb89 rfl rfl rfl) ?_
 refine D.sx 32 [] hQ hS (.skip 28 false 165 _ hb89 rfl rfl rfl) ?_
 refine D.sx 33 [] hQ hS (.skip 28 false 165 _ hb89 rfl rfl rfl) ?_
 refine D.sx 34 [] hQ hS (.skip 28 false 165 _ hb89 rfl rfl rfl) ?_
 refine D.sx 35 [] hQ hS (.skip 28 false 165 _ hb89 rfl rfl rfl) ?_
 refine D.sx 36 [] hQ hS (.skip 28 false 165 _ hb89 rfl rfl rfl) ?_
 refine D.sx 37 [] hQ hS (.skip 28 false 165 _ hb89 rfl rfl rfl) ?_
 refine D.q 38 [] hQ hS rfl (.take 7 true 144 _ rfl rfl rfl rfl) rfl rfl (by exact Rd.pk rfl rfl hb89 rfl) rfl (by kernel_rfl) ?_
 refine D.q 39 [] hQ hS rfl (.none rfl) rfl rfl (by exact Rd.pk rfl rfl rfl rfl) rfl (by kernel_rfl) ?_
 refine D.done (by kernel_rfl) ?_
 exact St.wa (idR 9) (hJ83 _ hm)
 refine D.q 29 [] hQ hS rfl (.take 28 false 165 _ hb89 rfl rfl rfl) rfl rfl (by exact Rd.p T rfl) rfl (by kernel_rfl) ?_
 refine D.q 30 [] hQ hS rfl (.take 28 false 165 _ hb89 rfl rfl rfl) rfl rfl (by exact Rd.l T rfl rfl rfl) rfl (by kernel_rfl) ?_
 refine D.q 31 [] hQ hS rfl (.take 28 false 165 _ hb89 rfl rfl rfl) rfl rfl (by exact Rd.p T rfl) rfl (by kernel_rfl) ?_
 refine D.q 32 [] hQ hS rfl (.take 28 false 165 _ hb89 rfl rfl rfl) rfl rfl (by exact Rd.io T rfl rfl rfl rfl rfl rfl rfl hx88) rfl (by kernel_rfl) ?_
 refine D.q 33 [] hQ hS rfl (.take 28 false 165 _ hb89 rfl rfl rfl) rfl rfl (by exact Rd.p T rfl) rfl (by kernel_rfl) ?_
 refine D.q 34 [] hQ hS rfl (.take 28 false 165 _ hb89 rfl rfl rfl) rfl rfl (by exact Rd.le T rfl rfl rfl (idx_some hx88).2.2 rfl rfl rfl) rfl (by kernel_rfl) ?_
 refine D.q 35 [] hQ hS rfl (.take 28 false 165 _ hb89 rfl rfl rfl) rfl rfl (by exact Rd.p T rfl) rfl (by kernel_rfl) ?_
 refine D.q 36 [] hQ hS rfl (.take 28 false 165 _ hb89 rfl rfl rfl) rfl rfl (by exact Rd.l T rfl rfl rfl) rfl (by kernel_rfl) ?_
 refine D.q 37 [] hQ hS rfl (.take 28 false 165 _ hb89 rfl rfl rfl) rfl rfl (by exact Rd.p T rfl) rfl (by kernel_rfl) ?_
 refine D.q 38 [] hQ hS rfl (.take 7 true 144 _ rfl rfl rfl rfl) rfl rfl (by exact Rd.pk' rfl rfl hb89 rfl) rfl (by kernel_rfl) ?_
 refine D.q 39 [] hQ hS rfl (.none rfl) rfl rfl (by exact Rd.pk rfl rfl rfl rfl) rfl (by kernel_rfl) ?_
 refine D.done (by kernel_rfl) ?_
 exact St.wa (idR 9) (hJ83 _ hm)
 refine D.q 3 [] hQ hS rfl (.take 2 false 139 _ hb84 rfl rfl rfl) rfl rfl (by exact Rd.p T rfl) rfl (by kernel_rfl) ?_
 refine D.q 4 [] hQ hS rfl (.take 2 false 139 _ hb84 rfl rfl rfl) rfl rfl (by exact Rd.l T rfl rfl rfl) rfl (by kernel_rfl) ?_
 refine D.q 5 [] hQ hS rfl (.take 2 false 139 _ hb84 rfl rfl rfl) rfl rfl (by exact Rd.p T rfl) rfl (by kernel_rfl) ?_
 refine D.q 6 [] hQ hS rfl (.none rfl) rfl rfl (by exact Rd.pk' rfl rfl hb84 rfl) rfl (by kernel_rfl) ?_
 refine D.ps 1 [(7, [])] rfl hQ hS T rfl rfl (by kernel_rfl) ?_
 refine hm.cs (fun hb90 hm => ?_) (fun hb90 hm => ?_)
 refine D.q 8 [] hQ hS rfl (.take 7 true 144 _ hb90 rfl rfl rfl) rfl rfl (by exact Rd.p T rfl) rfl (by kernel_rfl) ?_
 refine D.q 9 [] hQ hS rfl (.take 7 true 144 _ hb90 rfl rfl rfl) rfl rfl (by exact Rd.p T rfl) rfl (by kernel_rfl) ?_
 obtain ⟨x91, hx91, hm⟩ := hm
 refine D.q 10 [] hQ hS rfl (.take 7 true 144 _ hb90 rfl rfl rfl) rfl rfl (by exact Rd.ix T rfl rfl rfl rfl rfl rfl hx91) rfl (by kernel_rfl) ?_
 refine D.q 11 [] hQ hS rfl (.take 7 true 144 _ hb90 rfl rfl rfl) rfl rfl (by exact Rd.p T rfl) rfl (by kernel_rfl) ?_
 refine D.q 12 [] hQ hS rfl (.take 7 true 144 _ hb90 rfl rfl rfl) rfl rfl (by exact Rd.l T rfl rfl rfl) rfl (by kernel_rfl) ?_
 refine D.q 13 [] hQ hS rfl (.take 7 true 144 _ hb90 rfl rfl rfl) rfl rfl (by exact Rd.p T rfl) rfl (by kernel_rfl) ?_
 obtain ⟨x92, hx92, hm⟩ := hm
 refine D.q 14 [] hQ hS rfl (.take 7 true 144 _ hb90 rfl rfl rfl) rfl rfl (by exact Rd.ix T rfl rfl rfl rfl rfl rfl hx92) rfl (by kernel_rfl) ?_
 refine D.q 15 [] hQ hS rfl (.take 7 true 144 _ hb90 rfl rfl rfl) rfl rfl (by exact Rd.l T rfl rfl rfl) rfl (by kernel_rfl) ?_
 refine D.q 16 [] hQ hS rfl (.take 7 true 144 _ hb90 rfl rfl rfl) rfl rfl (by exact Rd.p T rfl) rfl (by kernel_rfl) ?_
 refine D.q 17 [] hQ hS rfl (.take 7 true 144 _ hb90 rfl rfl rfl) rfl rfl (by exact Rd.p T rfl) rfl (by kernel_rfl) ?_
 refine hm.cs (fun hb93 hm => ?_) (fun hb93 hm => ?_)
 refine D.sx 18 [] hQ hS (.skip 17 false 154 _ hb93 rfl rfl rfl) ?_
 refine D.sx 19 [] hQ hS (.skip 17 false 154 _ hb93 rfl rfl rfl) ?_
 refine D.sx 20 [] hQ hS (.skip 17 false 154 _ hb93 rfl rfl rfl) ?_
 refine D.sx 21 [] hQ hS (.skip 17 false 154 _ hb93 rfl rfl rfl) ?_
 refine D.sx 22 [] hQ hS (.skip 17 false 154 _ hb93 rfl rfl rfl) ?_
 refine D.sx 23 [] hQ hS (.skip 17 false 154 _ hb93 rfl rfl rfl) ?_
 refine D.sx 24 [] hQ hS (.skip 17 false 154 _ hb93 rfl rfl rfl) ?_
 refine D.sx 25 [] hQ hS (.skip 17 false 154 _ hb93 rfl rfl rfl) ?_
 refine D.sx 26 [] hQ hS (.skip 17 false 154 _ hb93 rfl rfl rfl) ?_
 refine D.q 27 [] hQ hS rfl (.take 7 true 144 _ hb90 rfl rfl rfl) rfl rfl (by exact Rd.pk rfl rfl hb93 rfl) rfl (by kernel_rfl) ?_
 refine D.q 28 [] hQ hS rfl (.take 7 true 144 _ hb90 rfl rfl rfl) rfl rfl (by exact Rd.p T rfl) rfl (by kernel_rfl) ?_
 refine D.sx 29 [] hQ hS (.skip 28 false 165 _ rfl rfl rfl rfl) ?_
 refine D.sx 30 [] hQ hS (.skip 28 false 165 _ rfl rfl rfl rfl) ?_
 refine D.sx 31 [] hQ hS (.skip 28 false 165 _ rfl rfl rfl rfl) ?_
 refine D.sx 32 [] hQ hS (.skip 28 false 165 _ rfl rfl rfl rfl) ?_
 refine D.sx 33 [] hQ hS (.skip 28 false 165 _ rfl rfl rfl rfl) ?_
 refine D.sx 34 [] hQ hS (.skip 28 false 165 _ rfl rfl rfl rfl) ?_
 refine D.sx 35 [] hQ hS (.skip 28 false 165 _ rfl rfl rfl rfl) ?_
 refine D.sx 36 [] hQ hS (.skip 28 false 165 _ rfl rfl rfl rfl) ?_
 refine D.sx 37 [] hQ hS (.skip 28 false 165 _ rfl rfl rfl rfl) ?_
 refine D.q 38 [] hQ hS rfl (.take 7 true 144 _ hb90 rfl rfl rfl) rfl rfl (by exact Rd.pk rfl rfl rfl rfl) rfl (by kernel_rfl) ?_
 refine D.q 39 [] hQ hS rfl (.none rfl) rfl rfl (by exact Rd.pk rfl rfl hb90 rfl) rfl (by kernel_rfl) ?_
 refine D.done (by kernel_rfl) ?_
 exact St.wa (idR 9) (hJ83 _ hm)
 refine D.q 18 [] hQ hS rfl (.take 17 false 154 _ hb93 rfl rfl rfl) rfl rfl (by exact Rd.p T rfl) rfl (by kernel_rfl) ?_
 refine D.q 19 [] hQ hS rfl (.take 17 false 154 _ hb93 rfl rfl rfl) rfl rfl (by exact Rd.l T rfl rfl rfl) rfl (by kernel_rfl) ?_
 refine D.q 20 [] hQ hS rfl (.take 17 false 154 _ hb93 rfl rfl rfl) rfl rfl (by exact Rd.p T rfl) rfl (by kernel_rfl) ?_
 obtain ⟨x94, hx94, hm⟩ := hm
 refine D.q 21 [] hQ hS rfl (.take 17 false 154 _ hb93 rfl rfl rfl) rfl rfl (by exact Rd.io T rfl rfl rfl rfl rfl rfl rfl hx94) rfl (by kernel_rfl) ?_
 refine D.q 22 [] hQ hS rfl (.take 17 false 154 _ hb93 rfl rfl rfl) rfl rfl (by exact Rd.p T rfl) rfl (by kernel_rfl) ?_
 refine D.q 23 [] hQ hS rfl (.take 17 false 154 _ hb93 rfl rfl rfl) rfl rfl (by exact Rd.le T rfl rfl rfl (idx_some hx94).2.2 rfl rfl rfl) rfl (by kernel_rfl) ?_
 refine D.q 24 [] hQ hS rfl (.take 17 false 154 _ hb93 rfl rfl rfl) rfl rfl (by exact Rd.p T rfl) rfl (by kernel_rfl) ?_
 refine D.q 25 [] hQ hS rfl (.take 17 false 154 _ hb93 rfl rfl rfl) rfl rfl (by exact Rd.l T rfl rfl rfl) rfl (by kernel_rfl) ?_
 refine D.q 26 [] hQ hS rfl (.take 17 false 154 _ hb93 rfl rfl rfl) rfl rfl (by exact Rd.p T rfl) rfl (by kernel_rfl) ?_
 refine D.q 27 [] hQ hS rfl (.take 7 true 144 _ hb90 rfl rfl rfl) rfl rfl (by exact Rd.pk' rfl rfl hb93 rfl) rfl (by kernel_rfl) ?_
 refine D.q 28 [] hQ hS rfl (.take 7 true 144 _ hb90 rfl rfl rfl) rfl rfl (by exact Rd.p T rfl) rfl (by kernel_rfl) ?_
 refine hm.cs (fun hb95 hm => ?_) (fun hb95 hm => ?_)
 refine D.sx 29 [] hQ hS (.skip 28 false 165 _ hb95 rfl rfl rfl) ?_
 refine D.sx 30 [] hQ hS (.skip 28 false 165 _ hb95 rfl rfl rfl) ?_
 refine D.sx 31 [] hQ hS (.skip 28 false 165 _ hb95 rfl rfl rfl) ?_
 refine D.sx 32 [] hQ hS (.skip 28 false 165 _ hb95 rfl rfl rfl) ?_
 refine D.sx 33 [] hQ hS (.skip 28 false 165 _ hb95 rfl rfl rfl) ?_
 refine D.sx 34 [] hQ hS (.skip 28 false 165 _ hb95 rfl rfl rfl) ?_
 refine D.sx 35 [] hQ hS (.skip 28 false 165 _ hb95 rfl rfl rfl) ?_
 refine D.sx 36 [] hQ hS (.skip 28 false 165 _ hb95 rfl rfl rfl) ?_
 refine D.sx 37 [] hQ hS (.skip 28 false 165 _ hb95 rfl rfl rfl) ?_
 refine D.q 38 [] hQ hS rfl (.take 7 true 144 _ hb90 rfl rfl rfl) rfl rfl (by exact Rd.pk rfl rfl hb95 rfl) rfl (by kernel_rfl) ?_
 refine D.q 39 [] hQ hS rfl (.none rfl) rfl rfl (by exact Rd.pk rfl rfl hb90 rfl) rfl (by kernel_rfl) ?_
 refine D.done (by kernel_rfl) ?_
 exact St.wa (idR 9) (hJ83 _ hm)
 refine D.q 29 [] hQ hS rfl (.take 28 false 165 _ hb95 rfl rfl rfl) rfl rfl (by exact Rd.p T rfl) rfl (by kernel_rfl) ?_
 refine D.q 30 [] hQ hS rfl (.take 28 false 165 _ hb95 rfl rfl rfl) rfl rfl (by exact Rd.l T rfl rfl rfl) rfl (by kernel_rfl) ?_
 refine D.q 31 [] hQ hS rfl (.take 28 false 165 _ hb95 rfl rfl rfl) rfl rfl (by exact Rd.p T rfl) rfl (by kernel_rfl) ?_
 refine D.q 32 [] hQ hS rfl (.take 28 false 165 _ hb95 rfl rfl rfl) rfl rfl (by exact Rd.io T rfl rfl rfl rfl rfl rfl rfl hx94) rfl (by kernel_rfl) ?_
 refine D.q 33 [] hQ hS rfl (.take 28 false 165 _ hb95 rfl rfl rfl) rfl rfl (by exact Rd.p T rfl) rfl (by kernel_rfl) ?_
 refine D.q 34 [] hQ hS rfl (.take 28 false 165 _ hb95 rfl rfl rfl) rfl rfl (by exact Rd.le T rfl rfl rfl (idx_some hx94).2.2 rfl rfl rfl) rfl (by kernel_rfl) ?_
 refine D.q 35 [] hQ hS rfl (.take 28 false 165 _ hb95 rfl rfl rfl) rfl rfl (by exact Rd.p T rfl) rfl (by kernel_rfl) ?_
 refine D.q 36 [] hQ hS rfl (.take 28 false 165 _ hb95 rfl rfl rfl) rfl rfl (by exact Rd.l T rfl rfl rfl) rfl (by kernel_rfl) ?_
 refine D.q 37 [] hQ hS rfl (.take 28 false 165 _ hb95 rfl rfl rfl) rfl rfl (by exact Rd.p T rfl) rfl (by kernel_rfl) ?_
 refine D.q 38 [] hQ hS rfl (.take 7 true 144 _ hb90 rfl rfl rfl) rfl rfl (by exact Rd.pk' rfl rfl hb95 rfl) rfl (by kernel_rfl) ?_
 refine D.q 39 [] hQ hS rfl (.none rfl) rfl rfl (by exact Rd.pk rfl rfl hb90 rfl) rfl (by kernel_rfl) ?_
 refine D.done (by kernel_rfl) ?_
 exact St.wa (idR 9) (hJ83 _ hm)
 refine D.sx 8 [] hQ hS (.skip 7 true 144 _ hb90 rfl rfl rfl) ?_
 refine D.sx 9 [] hQ hS (.skip 7 true 144 _ hb90 rfl rfl rfl) ?_
 refine D.sx 10 [] hQ hS (.skip 7 true 144 _ hb90 rfl rfl rfl) ?_
 refine D.sx 11 [] hQ hS (.skip 7 true 144 _ hb90 rfl rfl rfl) ?_
 refine D.sx 12 [] hQ hS (.skip 7 true 144 _ hb90 rfl rfl rfl) ?_
 refine D.sx 13 [] hQ hS (.skip 7 true 144 _ hb90 rfl rfl rfl) ?_
 refine D.sx 14 [] hQ hS (.skip 7 true 144 _ hb90 rfl rfl rfl) ?_
 refine D.sx 15 [] hQ hS (.skip 7 true 144 _ hb90 rfl rfl rfl) ?_
 refine D.sx 16 [] hQ hS (.skip 7 true 144 _ hb90 rfl rfl rfl) ?_
 refine D.sx 17 [] hQ hS (.skip 7 true 144 _ hb90 rfl rfl rfl) ?_
 refine D.sx 18 [] hQ hS (.und 17 false 154 rfl rfl rfl) ?_
 refine D.sx 19 [] hQ hS (.und 17 false 154 rfl rfl rfl) ?_
 refine D.sx 20 [] hQ hS (.und 17 false 154 rfl rfl rfl) ?_
 refine D.sx 21 [] hQ hS (.und 17 false 154 rfl rfl rfl) ?_
 refine D.sx 22 [] hQ hS (.und 17 false 154 rfl rfl rfl) ?_
 refine D.sx 23 [] hQ hS (.und 17 false 154 rfl rfl rfl) ?_
 refine D.sx 24 [] hQ hS (.und 17 false 154 rfl rfl rfl) ?_
 refine D.sx 25 [] hQ hS (.und 17 false 154 rfl rfl rfl) ?_
 refine D.sx 26 [] hQ hS (.und 17 false 154 rfl rfl rfl) ?_
 refine D.sx 27 [] hQ hS (.skip 7 true 144 _ hb90 rfl rfl rfl) ?_
 refine D.sx 28 [] hQ hS (.skip 7 true 144 _ hb90 rfl rfl rfl) ?_
 refine D.sx 29 [] hQ hS (.und 28 false 165 rfl rfl rfl) ?_
 refine D.sx 30 [] hQ hS (.und 28 false 165 rfl rfl rfl) ?_
 refine D.sx 31 [] hQ hS (.und 28 false 165 rfl rfl rfl) ?_
 refine D.sx 32 [] hQ hS (.und 28 false 165 rfl rfl rfl) ?_
 refine D.sx 33 [] hQ hS (.und 28 false 165 rfl rfl rfl) ?_
 refine D.sx 34 [] hQ hS (.und 28 false 165 rfl rfl rfl) ?_
 refine D.sx 35 [] hQ hS (.und 28 false 165 rfl rfl rfl) ?_
 refine D.sx 36 [] hQ hS (.und 28 false 165 rfl rfl rfl) ?_
 refine D.sx 37 [] hQ hS (.und 28 false 165 rfl rfl rfl) ?_
 refine D.sx 38 [] hQ hS (.skip 7 true 144 _ hb90 rfl rfl rfl) ?_
 refine D.q 39 [] hQ hS rfl (.none rfl) rfl rfl (by exact Rd.pk' rfl rfl hb90 rfl) rfl (by kernel_rfl) ?_
 refine D.done (by kernel_rfl) ?_
 exact St.wa (idR 9) (hJ83 _ hm)
 refine C.exit (C.ex (C.ex (C.bex ?_)))
 exact St.wa (idR 8) (hJ73 _ hm)
 refine D.beg 9999 [0, 1] [2, 7] mix rfl rfl (by kernel_rfl) (by repeat (first | exact NoPanicQ.body | exact NoPanicQ.rnd | refine NoPanicQ.th ?_ | refine NoPanicQ.blk ?_ | refine NoPanicQ.ng ?_)) (fun hQ hS ws M' => ?_)
 refine D.ps 4 [(0, []), (1, []), (2, []), (3, [])] rfl hQ hS T rfl rfl (by kernel_rfl) ?_
 obtain ⟨x65, hx65, hm⟩ := hm
 refine D.q 4 [] hQ hS rfl (.none rfl) rfl rfl (by exact Rd.ix T rfl rfl rfl rfl rfl rfl hx65) rfl (by kernel_rfl) ?_
 refine D.ps 4 [(5, []), (6, []), (7, []), (8, [])] rfl hQ hS T rfl rfl (by kernel_rfl) ?_
 refine D.q 9 [] hQ hS rfl (.none rfl) rfl rfl (by exact Rd.ix T rfl rfl rfl rfl rfl rfl hx65) rfl (by kernel_rfl) ?_
 refine D.ps 2 [(10, []), (11, [])] rfl hQ hS T rfl rfl (by kernel_rfl) ?_
 refine D.two 12 16 (by kernel_rfl) ?_ ?_
 refine D.ef rfl (.none rfl) (by exact Eff.c [] (v := true) (T_arena_Step s_1 ({ Tick := s24.1, Shelves := s24.2.1, Robots := s24.2.2.1, People := s24.2.2.2.1, Dead := s24.2.2.2.2.1, Stuck := s24.2.2.2.2.2.1 : ApiState }) x65.Acts x65.Fault _ hm) en17 rfl rfl rfl (.eq rfl) trivial rfl rfl rfl rfl rfl rfl (fun _ _ => ⟨(.tup (.cons (.agg (.cons (.v _) (.cons (.o _) (.cons (.o _) (.cons (.o _) (.cons (.o _) (.cons (.o _) .nil))))))) (.cons (.v _) .nil))), ⟨.val (.os _ _ _ fun _ => (.cons (.v _) .nil)), .val (.os _ _ _ fun _ => (.cons (.v _) (.cons (.v _) (.cons (.v _) (.cons (.v _) (.cons (.v _) (.cons (.v _) .nil))))))), .val (.os _ _ _ fun _ => (.cons (.v _) .nil)), .val (.os _ _ _ fun _ => (.cons (.v _) .nil)), .val (.os _ _ _ fun _ => (.cons (.v _) (.cons (.v _) .nil))), trivial⟩⟩) (.inr ⟨rfl, rfl⟩) (fun _ => rfl) (fun _ => rfl) rfl) rfl rfl (fun x66' hm => ?_)
 obtain ⟨x66⟩ := x66'
 refine D.ps 3 [(13, []), (14, []), (15, [])] rfl hQ hS T rfl rfl (by kernel_rfl) ?_
 refine D.e1 16 rfl (.none rfl) (by exact Eff1.al T rfl rfl rfl rfl) (by kernel_rfl) rfl rfl ?_
 refine D.e1 17 rfl (.none rfl) (by exact Eff1.st T rfl rfl rfl rfl rfl rfl rfl rfl rfl rfl) (by kernel_rfl) rfl rfl ?_
 refine D.ps 1 [(18, [])] rfl hQ hS T rfl rfl (by kernel_rfl) ?_
 refine D.done (by kernel_rfl) ?_
 exact St.wa [some 0, some 1, some 7, some 2, some 3, some 4, some 5, some 6] (hJ64 _ hm)
 refine D.ef1 rfl (.none rfl) (by exact Eff1.al T rfl rfl rfl rfl) rfl rfl ?_
 refine D.k 12 (T_arena_Step s_1 ({ Tick := s24.1, Shelves := s24.2.1, Robots := s24.2.2.1, People := s24.2.2.2.1, Dead := s24.2.2.2.2.1, Stuck := s24.2.2.2.2.2.1 : ApiState }) x65.Acts x65.Fault _ hm) en17 (fun x66 hm => ?_)
 refine D.ps 3 [(13, []), (14, []), (15, [])] rfl hQ hS T rfl rfl (by kernel_rfl) ?_
 refine D.e1 17 rfl (.none rfl) (by exact Eff1.st T rfl rfl rfl rfl rfl rfl rfl rfl rfl rfl) (by kernel_rfl) rfl rfl ?_
 refine D.ps 1 [(18, [])] rfl hQ hS T rfl rfl (by kernel_rfl) ?_
 refine D.done (by kernel_rfl) ?_
 exact St.wa (idR 8) (hJ64 _ hm)
 refine C.block ?_
 refine St.wk (C.loop (fun (s47 : Int) => [(2, .sl 4 eTaquinref16Act l), (3, .p 0 0), (4, .p 1 0), (7, .b x5), (8, .i s24.2.2.2.2.2.2), (10, .p 2 0), (11, .i x42.2), (12, .i s47)]) (fun (s47 : Int) => [(0, .box (eApiSite s_1)), (1, .box [.i s24.1, .sl 1 eI s24.2.1, .sl 6 eApiRobot s24.2.2.1, .sl 1 eI s24.2.2.2.1, .sl 1 eI s24.2.2.2.2.1, .sl 2 eApiStuck s24.2.2.2.2.2.1]), (2, .box [.i x42.1.Tick, .o 3, .o 4, .o 5, .o 6, .o 7]), (3, .val (.os 1 eI x42.1.Shelves)), (4, .val (.os 6 eApiRobot x42.1.Robots)), (5, .val (.os 1 eI x42.1.People)), (6, .val (.os 1 eI x42.1.Dead)), (7, .val (.os 2 eApiStuck x42.1.Stuck))]) hm (fun s47 Y48 hm => ?_)) (Wk.a [some 0, some 1, some 8, some 3, some 4, some 5, some 6, some 7])
 refine C.seq (C.seq ?_)
 refine C.jn (fun (x49 : Bool) => [(2, .sl 4 eTaquinref16Act l), (3, .p 0 0), (4, .p 1 0), (7, .b x5), (8, .i s24.2.2.2.2.2.2), (10, .p 2 0), (11, .i x42.2), (12, .i s47), (76, .b x49)]) (fun (x49 : Bool) => [(0, .box (eApiSite s_1)), (1, .box [.i s24.1, .sl 1 eI s24.2.1, .sl 6 eApiRobot s24.2.2.1, .sl 1 eI s24.2.2.2.1, .sl 1 eI s24.2.2.2.2.1, .sl 2 eApiStuck s24.2.2.2.2.2.1]), (2, .box [.i x42.1.Tick, .o 3, .o 4, .o 5, .o 6, .o 7]), (3, .val (.os 1 eI x42.1.Shelves)), (4, .val (.os 6 eApiRobot x42.1.Robots)), (5, .val (.os 1 eI x42.1.People)), (6, .val (.os 1 eI x42.1.Dead)), (7, .val (.os 2 eApiStuck x42.1.Stuck))]) 8 hm (fun x49 hm => ?_) (fun J50 hm hJ50 => ?_)
 refine C.nx ?_
 refine C.ite rfl hm (fun hb52 hm => ?_) (fun hb52 hm => ?_)
 refine C.skip (C.nx (C.seq (C.block (C.seq ?_))))
 refine C.jn (fun (x53 : Bool) => [(2, .sl 4 eTaquinref16Act l), (3, .p 0 0), (4, .p 1 0), (7, .b x5), (8, .i s24.2.2.2.2.2.2), (10, .p 2 0), (11, .i x42.2), (12, .i s47), (106, .b x53)]) (fun (x53 : Bool) => [(0, .box (eApiSite s_1)), (1, .box [.i s24.1, .sl 1 eI s24.2.1, .sl 6 eApiRobot s24.2.2.1, .sl 1 eI s24.2.2.2.1, .sl 1 eI s24.2.2.2.2.1, .sl 2 eApiStuck s24.2.2.2.2.2.1]), (2, .box [.i x42.1.Tick, .o 3, .o 4, .o 5, .o 6, .o 7]), (3, .val (.os 1 eI x42.1.Shelves)), (4, .val (.os 6 eApiRobot x42.1.Robots)), (5, .val (.os 1 eI x42.1.People)), (6, .val (.os 1 eI x42.1.Dead)), (7, .val (.os 2 eApiStuck x42.1.Stuck))]) 8 hm (fun x53 hm => ?_) (fun J54 hm hJ54 => ?_)
 refine C.nx ?_
 refine C.ite rfl hm (fun hb58 hm => ?_) (fun hb58 hm => ?_)
 refine C.seq (U.start ?_)
 refine U.pd 1 T (C.nx (C.ret (C.brt (C.rt (C.rt (C.brt (C.rt (C.brt (C.rt (C.rt (C.brt (C.rt ?_))))))))))))
 exact C.f1 T hβ ⟨false, hm, rfl, rfl, rfl⟩
 refine C.skip (C.bnx (C.nx (U.start ?_)))
 refine U.pd 3 T (C.nx ?_)
 exact St.wk (C.next hm) (Wk.a (idR 8))
 refine D.beg 9999 [1, 2, 4] [] mix rfl rfl (by kernel_rfl) (by repeat (first | exact NoPanicQ.body | exact NoPanicQ.rnd | refine NoPanicQ.th ?_ | refine NoPanicQ.blk ?_ | refine NoPanicQ.ng ?_)) (fun hQ hS ws M' => ?_)
 refine D.ps 3 [(0, []), (1, []), (2, [])] rfl hQ hS T rfl rfl (by kernel_rfl) ?_
 obtain ⟨x55, hx55, hm⟩ := hm
 refine D.q 3 [] hQ hS rfl (.none rfl) rfl rfl (by exact Rd.io T rfl rfl rfl rfl rfl rfl rfl hx55) rfl (by kernel_rfl) ?_
 refine D.ps 1 [(4, [])] rfl hQ hS T rfl rfl (by kernel_rfl) ?_
 refine D.q 5 [] hQ hS rfl (.none rfl) rfl rfl (by exact Rd.le T rfl rfl rfl (idx_some hx55).2.2 rfl rfl rfl) rfl (by kernel_rfl) ?_
 refine D.ps 3 [(6, []), (7, []), (8, [])] rfl hQ hS T rfl rfl (by kernel_rfl) ?_
 obtain ⟨x56, hx56, hm⟩ := hm
 refine D.q 9 [] hQ hS rfl (.none rfl) rfl rfl (by exact Rd.ix T rfl rfl rfl rfl rfl rfl hx56) rfl (by kernel_rfl) ?_
 refine D.ps 4 [(10, []), (11, []), (12, []), (13, [])] rfl hQ hS T rfl rfl (by kernel_rfl) ?_
 refine hm.cs (fun hb57 hm => ?_) (fun hb57 hm => ?_)
 refine D.sx 14 [] hQ hS (.skip 13 false 92 _ hb57 rfl rfl rfl) ?_
 refine D.sx 15 [] hQ hS (.skip 13 false 92 _ hb57 rfl rfl rfl) ?_
 refine D.sx 16 [] hQ hS (.skip 13 false 92 _ hb57 rfl rfl rfl) ?_
 refine D.sx 17 [] hQ hS (.skip 13 false 92 _ hb57 rfl rfl rfl) ?_
 refine D.sx 18 [] hQ hS (.skip 13 false 92 _ hb57 rfl rfl rfl) ?_
 refine D.sx 19 [] hQ hS (.skip 13 false 92 _ hb57 rfl rfl rfl) ?_
 refine D.sx 20 [] hQ hS (.skip 13 false 92 _ hb57 rfl rfl rfl) ?_
 refine D.sx 21 [] hQ hS (.skip 13 false 92 _ hb57 rfl rfl rfl) ?_
 refine D.sx 22 [] hQ hS (.skip 13 false 92 _ hb57 rfl rfl rfl) ?_
 refine D.sx 23 [] hQ hS (.skip 13 false 92 _ hb57 rfl rfl rfl) ?_
 refine D.sx 24 [] hQ hS (.skip 13 false 92 _ hb57 rfl rfl rfl) ?_
 refine D.sx 25 [] hQ hS (.skip 13 false 92 _ hb57 rfl rfl rfl) ?_
 refine D.sx 26 [] hQ hS (.skip 13 false 92 _ hb57 rfl rfl rfl) ?_
 refine D.q 27 [] hQ hS rfl (.none rfl) rfl rfl (by exact Rd.pk rfl rfl hb57 rfl) rfl (by kernel_rfl) ?_
 refine D.done (by kernel_rfl) ?_
 exact St.wa (idR 8) (hJ54 _ hm)
 refine D.q 14 [] hQ hS rfl (.take 13 false 92 _ hb57 rfl rfl rfl) rfl rfl (by exact Rd.p T rfl) rfl (by kernel_rfl) ?_
 refine D.q 15 [] hQ hS rfl (.take 13 false 92 _ hb57 rfl rfl rfl) rfl rfl (by exact Rd.l T rfl rfl rfl) rfl (by kernel_rfl) ?_
 refine D.q 16 [] hQ hS rfl (.take 13 false 92 _ hb57 rfl rfl rfl) rfl rfl (by exact Rd.p T rfl) rfl (by kernel_rfl) ?_
 refine D.q 17 [] hQ hS rfl (.take 13 false 92 _ hb57 rfl rfl rfl) rfl rfl (by exact Rd.io T rfl rfl rfl rfl rfl rfl rfl hx55) rfl (by kernel_rfl) ?_
 refine D.q 18 [] hQ hS rfl (.take 13 false 92 _ hb57 rfl rfl rfl) rfl rfl (by exact Rd.p T rfl) rfl (by kernel_rfl) ?_
 refine D.q 19 [] hQ hS rfl (.take 13 false 92 _ hb57 rfl rfl rfl) rfl rfl (by exact Rd.le T rfl rfl rfl (idx_some hx55).2.2 rfl rfl rfl) rfl (by kernel_rfl) ?_
 refine D.q 20 [] hQ hS rfl (.take 13 false 92 _ hb57 rfl rfl rfl) rfl rfl (by exact Rd.p T rfl) rfl (by kernel_rfl) ?_
 refine D.q 21 [] hQ hS rfl (.take 13 false 92 _ hb57 rfl rfl rfl) rfl rfl (by exact Rd.l T rfl rfl rfl) rfl (by kernel_rfl) ?_
 refine D.q 22 [] hQ hS rfl (.take 13 false 92 _ hb57 rfl rfl rfl) rfl rfl (by exact Rd.p T rfl) rfl (by kernel_rfl) ?_
 refine D.q 23 [] hQ hS rfl (.take 13 false 92 _ hb57 rfl rfl rfl) rfl rfl (by exact Rd.ix T rfl rfl rfl rfl rfl rfl hx56) rfl (by kernel_rfl) ?_
 refine D.q 24 [] hQ hS rfl (.take 13 false 92 _ hb57 rfl rfl rfl) rfl rfl (by exact Rd.p T rfl) rfl (by kernel_rfl) ?_
 refine D.q 25 [] hQ hS rfl (.take 13 false 92 _ hb57 rfl rfl rfl) rfl rfl (by exact Rd.l T rfl rfl rfl) rfl (by kernel_rfl) ?_
 refine D.q 26 [] hQ hS rfl (.take 13 false 92 _ hb57 rfl rfl rfl) rfl rfl (by exact Rd.p T rfl) rfl (by kernel_rfl) ?_
 refine D.q 27 [] hQ hS rfl (.none rfl) rfl rfl (by exact Rd.pk' rfl rfl hb57 rfl) rfl (by kernel_rfl) ?_
 refine D.done (by kernel_rfl) ?_
 exact St.wa (idR 8) (hJ54 _ hm)
 refine C.exit (C.ex (C.ex (C.bex ?_)))
 exact St.wa (idR 2) (hJ46 _ hm)
 refine U.start ?_
 refine U.ps 6 T rfl ?_
 refine hm.cs (fun hb51 hm => ?_) (fun hb51 hm => ?_)
 refine U.pg 2 5 true 73 hb51 T rfl rfl rfl rfl ?_
 refine U.pk hb51 ?_
 refine U.done ?_
 exact St.wa (idR 8) (hJ50 _ hm)
 refine U.sks 2 5 true 73 hb51 rfl rfl rfl ?_
 refine U.pk' hb51 ?_
 refine U.done ?_
 exact St.wa (idR 8) (hJ50 _ hm)
 refine C.exit (C.ex (C.ex (C.bex ?_)))
 exact St.wn (hJ23 _ hm)
 refine U.start ?_
 refine U.ps 1 T rfl ?_
 refine U.k (T_taquinref11_Few s_1 30 6 _ hm) en20 (fun x8 hm => ?_)
 refine U.ps 2 T rfl ?_
 refine hm.cs (fun hb9 hm => ?_) (fun hb9 hm => ?_)
 refine U.pg 1 3 false 21 (ntF hb9) T rfl rfl rfl rfl ?_
 refine U.k (T_survey_Right s_1 _ hm) en21 (fun x10 hm => ?_) (hw := .take 3 false 21 _ (ntF hb9) rfl rfl rfl)
 refine U.pg 1 3 false 21 (ntF hb9) T rfl rfl rfl rfl ?_
 refine U.r rfl (.none rfl) rfl rfl (by exact Rd.pk' rfl rfl (ntF hb9) rfl) ?_
 refine U.ps 1 T rfl ?_
 refine hm.cs (fun hb11 hm => ?_) (fun hb11 hm => ?_)
 refine U.pg 1 8 false 26 (ntF hb11) T rfl rfl rfl rfl ?_
 refine U.k (T_taquinref14_Few st _ hm) en22 (fun x12 hm => ?_) (hw := .take 8 false 26 _ (ntF hb11) rfl rfl rfl)
 refine U.pg 1 8 false 26 (ntF hb11) T rfl rfl rfl rfl ?_
 refine U.r rfl (.none rfl) rfl rfl (by exact Rd.pk' rfl rfl (ntF hb11) rfl) ?_
 refine U.ps 1 T rfl ?_
 refine hm.cs (fun hb13 hm => ?_) (fun hb13 hm => ?_)
 refine U.pg 2 13 false 31 (ntF hb13) T rfl rfl rfl rfl ?_
 refine U.k (T_body_Right s_1 st _ hm) en23 (fun x14 hm => ?_) (hw := .take 13 false 31 _ (ntF hb13) rfl rfl rfl)
 refine U.pg 1 13 false 31 (ntF hb13) T rfl rfl rfl rfl ?_
 refine U.r rfl (.none rfl) rfl rfl (by exact Rd.pk' rfl rfl (ntF hb13) rfl) ?_
 refine U.ps 1 T rfl ?_
 refine hm.cs (fun hb15 hm => ?_) (fun hb15 hm => ?_)
 refine U.pg 1 19 false 37 (ntF hb15) T rfl rfl rfl rfl ?_
 refine U.k (T_taquinref16_Few l 12 _ hm) en25 (fun x16 hm => ?_) (hw := .take 19 false 37 _ (ntF hb15) rfl rfl rfl)
 refine U.pg 1 19 false 37 (ntF hb15) T rfl rfl rfl rfl ?_
 refine U.r rfl (.none rfl) rfl rfl (by exact Rd.pk' rfl rfl (ntF hb15) rfl) ?_
 refine U.done ?_
 exact St.wa (idR 2) (hJ7 _ hm)
 refine U.sks 3 19 false 37 (ntT hb15) rfl rfl rfl ?_
 refine U.r rfl (.none rfl) rfl rfl (by exact Rd.pk rfl rfl (ntT hb15) rfl) ?_
 refine U.done ?_
 exact St.wa (idR 2) (hJ7 _ hm)
 refine U.sks 4 13 false 31 (ntT hb13) rfl rfl rfl ?_
 refine U.r rfl (.none rfl) rfl rfl (by exact Rd.pk rfl rfl (ntT hb13) rfl) ?_
 refine U.ps 1 T rfl ?_
 refine U.sks 3 19 false 37 rfl rfl rfl rfl ?_
 refine U.pk rfl ?_
 refine U.done ?_
 exact St.wa (idR 2) (hJ7 _ hm)
 refine U.sks 3 8 false 26 (ntT hb11) rfl rfl rfl ?_
 refine U.r rfl (.none rfl) rfl rfl (by exact Rd.pk rfl rfl (ntT hb11) rfl) ?_
 refine U.ps 1 T rfl ?_
 refine U.sks 4 13 false 31 rfl rfl rfl rfl ?_
 refine U.pk rfl ?_
 refine U.ps 1 T rfl ?_
 refine U.sks 3 19 false 37 rfl rfl rfl rfl ?_
 refine U.pk rfl ?_
 refine U.done ?_
 exact St.wa (idR 2) (hJ7 _ hm)
 refine U.sks 3 3 false 21 (ntT hb9) rfl rfl rfl ?_
 refine U.r rfl (.none rfl) rfl rfl (by exact Rd.pk rfl rfl (ntT hb9) rfl) ?_
 refine U.ps 1 T rfl ?_
 refine U.sks 3 8 false 26 rfl rfl rfl rfl ?_
 refine U.pk rfl ?_
 refine U.ps 1 T rfl ?_
 refine U.sks 4 13 false 31 rfl rfl rfl rfl ?_
 refine U.pk rfl ?_
 refine U.ps 1 T rfl ?_
 refine U.sks 3 19 false 37 rfl rfl rfl rfl ?_
 refine U.pk rfl ?_
 refine U.done ?_
 exact St.wa (idR 2) (hJ7 _ hm)
end Go.Proofs.YtbpbennpgnjbkaaGreat
