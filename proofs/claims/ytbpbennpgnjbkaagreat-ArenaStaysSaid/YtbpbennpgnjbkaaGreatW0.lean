/- The walks: each Go function does what its verification condition says (written by a program of the prover). -/
import Derived.Test.YtbpbennpgnjbkaaGreatEnc
import Derived.KernelRfl
set_option maxRecDepth 100000
set_option maxHeartbeats 8000000
set_option linter.unusedVariables false
set_option linter.unusedSimpArgs false
namespace Go.Proofs.YtbpbennpgnjbkaaGreat
open Go Go.Taq
theorem T_taquinlaw16_site (post : ApiSite → Prop) (hm : V_taquinlaw16_site post) :
    Tr Tryz.prog 32 [] [] 0 (fun A H' k => ∃ y, post y ∧ A = (.agg [.i y.Floor.W, .i y.Floor.H, .i y.Floor.D, .o 0, .o 1, .o 2, .o 3, .o 4, .o 5]) ∧ H' = [(0, .val (.os 1 eI y.Floor.Kind)), (1, .val (.os 1 eI y.Floor.Out)), (2, .val (.os 5 eApiZone y.Zones)), (3, .val (.os 2 eApiApart y.Aparts)), (4, .val (.os 2 eApiShelf y.Shelves)), (5, .val (.os 2 eApiStart y.Robots))] ∧ k = 6) := by
 refine Tr.intro (n := 39) Tryz.func32 rfl Tryz.ntmps32 rfl (fun w0 ok F β hβ => ?_)
 unfold V_taquinlaw16_site at hm
 refine C.seq (U.start ?_)
 refine U.e1 rfl (.none rfl) (by exact Eff1.al T rfl rfl rfl rfl) ?_
 refine U.done (C.nx (C.seq (U.start ?_)))
 refine U.ps 3 T rfl ?_
 refine U.e1 rfl (.none rfl) (by exact Eff1.bs T (enc := eApiStart) (xs := ([({ Cell := 0, Charge := 100 : ApiStart }), ({ Cell := 2, Charge := 100 : ApiStart })] : List ApiStart)) rfl rfl rfl rfl rfl rfl rfl rfl rfl rfl (fun _ _ => rfl) rfl rfl) ?_
 refine U.ps 1 T rfl ?_
 refine U.e1 rfl (.none rfl) (by exact Eff1.al T rfl rfl rfl rfl) ?_
 refine U.e1 rfl (.none rfl) (by exact Eff1.st T rfl rfl rfl rfl rfl rfl rfl rfl rfl rfl) ?_
 refine U.done (C.nx (C.seq (C.seq (U.start ?_))))
 refine U.pd 1 T (C.nx ?_)
 refine C.jn (fun (x7 : List Int × List Int) => [(0, .p 0 0), (1, .p 1 0)]) (fun (x7 : List Int × List Int) => [(0, .box [.i 0, .i 0, .i 0, .v (.slice none 0 0), .v (.slice none 0 0), .v (.slice none 0 0), .v (.slice none 0 0), .v (.slice none 0 0), .v (.slice none 0 0)]), (1, .box [.i 6, .i 1, .i 1, .o 2, .o 3, .v (.slice none 0 0), .v (.slice none 0 0), .v (.slice none 0 0), .o 4]), (2, .val (.os 1 eI x7.1)), (3, .val (.os 1 eI x7.2)), (4, .val (.os 2 eApiStart ([({ Cell := 0, Charge := 100 : ApiStart }), ({ Cell := 2, Charge := 100 : ApiStart })] : List ApiStart)))]) 5 hm (fun x7 hm => ?_) (fun J8 hm hJ8 => ?_)
 refine C.nx (C.seq (U.start ?_))
 refine U.ps 1 T rfl ?_
 refine U.e1 rfl (.none rfl) (by exact Eff1.st T rfl rfl rfl rfl rfl rfl rfl rfl rfl rfl) ?_
 refine U.done (C.nx (C.ret ?_))
 exact C.g1 [some 2, some 3, none, none, none, some 4] T hβ ⟨({ Floor := ({ W := 6, H := 1, D := 1, Kind := x7.1, Out := x7.2 : ApiFloor }), Zones := [], Aparts := [], Shelves := [], Robots := ([({ Cell := 0, Charge := 100 : ApiStart }), ({ Cell := 2, Charge := 100 : ApiStart })] : List ApiStart) : ApiSite }), hm, rfl, rfl, rfl⟩
 refine C.block ?_
 refine St.wk (C.loop (fun (s9 : List Int × List Int × Int) => [(0, .p 0 0), (1, .p 1 0), (2, .i s9.2.2)]) (fun (s9 : List Int × List Int × Int) => [(0, .box [.i 0, .i 0, .i 0, .v (.slice none 0 0), .v (.slice none 0 0), .v (.slice none 0 0), .v (.slice none 0 0), .v (.slice none 0 0), .v (.slice none 0 0)]), (1, .box [.i 6, .i 1, .i 1, .o 2, .o 3, .v (.slice none 0 0), .v (.slice none 0 0), .v (.slice none 0 0), .o 4]), (2, .val (.os 1 eI s9.1)), (3, .val (.os 1 eI s9.2.1)), (4, .val (.os 2 eApiStart ([({ Cell := 0, Charge := 100 : ApiStart }), ({ Cell := 2, Charge := 100 : ApiStart })] : List ApiStart)))]) hm (fun s9 Y10 hm => ?_)) (Wk.mk' [some 0, some 2, none, none, some 1] rfl rfl (.eqs rfl) ⟨bX, ⟨_, rfl, .box rfl (.cons (.eq rfl) (.cons (.eq rfl) (.cons (.eq rfl) (.cons (.nilO _ _ ⟨rfl, rfl⟩ rfl) (.cons (.nilO _ _ ⟨rfl, rfl⟩ rfl) (.eq rfl))))))⟩, ⟨_, rfl, .nil _ _⟩, ⟨_, rfl, .nil _ _⟩, vL, trivial⟩ rfl)
 refine C.seq (C.seq (U.start ?_))
 refine U.pd 2 T (C.nx ?_)
 refine C.ite rfl hm (fun hb13 hm => ?_) (fun hb13 hm => ?_)
 refine C.skip (C.nx (C.seq (C.block (C.seq (U.start ?_)))))
 refine U.pd 1 T (C.nx (C.seq (C.seq (U.start ?_))))
 refine U.pd 2 T (C.nx ?_)
 refine C.jn (fun (x18 : Int) => [(0, .p 0 0), (1, .p 1 0), (2, .i s9.2.2), (3, .i x18)]) (fun (x18 : Int) => [(0, .box [.i 0, .i 0, .i 0, .v (.slice none 0 0), .v (.slice none 0 0), .v (.slice none 0 0), .v (.slice none 0 0), .v (.slice none 0 0), .v (.slice none 0 0)]), (1, .box [.i 6, .i 1, .i 1, .o 2, .o 3, .v (.slice none 0 0), .v (.slice none 0 0), .v (.slice none 0 0), .o 4]), (2, .val (.os 1 eI s9.1)), (3, .val (.os 1 eI s9.2.1)), (4, .val (.os 2 eApiStart ([({ Cell := 0, Charge := 100 : ApiStart }), ({ Cell := 2, Charge := 100 : ApiStart })] : List ApiStart)))]) 5 hm (fun x18 hm => ?_) (fun J19 hm hJ19 => ?_)
 refine C.nx (C.seq (U.start ?_))
 refine U.pd 1 T (C.nx (C.seq (C.seq (U.start ?_))))
 refine U.pd 2 T (C.nx ?_)
 refine C.jn (fun (x27 : Int) => [(0, .p 0 0), (1, .p 1 0), (2, .i s9.2.2), (3, .i x18), (4, .i x27)]) (fun (x27 : Int) => [(0, .box [.i 0, .i 0, .i 0, .v (.slice none 0 0), .v (.slice none 0 0), .v (.slice none 0 0), .v (.slice none 0 0), .v (.slice none 0 0), .v (.slice none 0 0)]), (1, .box [.i 6, .i 1, .i 1, .o 2, .o 3, .v (.slice none 0 0), .v (.slice none 0 0), .v (.slice none 0 0), .o 4]), (2, .val (.os 1 eI s9.1)), (3, .val (.os 1 eI s9.2.1)), (4, .val (.os 2 eApiStart ([({ Cell := 0, Charge := 100 : ApiStart }), ({ Cell := 2, Charge := 100 : ApiStart })] : List ApiStart)))]) 5 hm (fun x27 hm => ?_) (fun J28 hm hJ28 => ?_)
 refine C.nx (C.seq (C.seq (U.start ?_)))
 refine U.pd 2 T (C.nx ?_)
 refine C.jn (fun (x34 : Int) => [(0, .p 0 0), (1, .p 1 0), (2, .i s9.2.2), (3, .i x18), (4, .i x34)]) (fun (x34 : Int) => [(0, .box [.i 0, .i 0, .i 0, .v (.slice none 0 0), .v (.slice none 0 0), .v (.slice none 0 0), .v (.slice none 0 0), .v (.slice none 0 0), .v (.slice none 0 0)]), (1, .box [.i 6, .i 1, .i 1, .o 2, .o 3, .v (.slice none 0 0), .v (.slice none 0 0), .v (.slice none 0 0), .o 4]), (2, .val (.os 1 eI s9.1)), (3, .val (.os 1 eI s9.2.1)), (4, .val (.os 2 eApiStart ([({ Cell := 0, Charge := 100 : ApiStart }), ({ Cell := 2, Charge := 100 : ApiStart })] : List ApiStart)))]) 5 hm (fun x34 hm => ?_) (fun J35 hm hJ35 => ?_)
 refine C.nx (C.seq (U.start ?_))
 refine U.ps 4 T rfl ?_
 refine U.e1 rfl (.none rfl) (by exact Eff1.bs T (enc := eI) (xs := ([x18] : List Int)) rfl rfl rfl rfl rfl rfl rfl rfl rfl rfl (fun _ _ => rfl) rfl rfl) ?_
 obtain ⟨hx41, hm⟩ := hm
 refine U.e1 rfl (.none rfl) (by exact Eff1.ap T rfl rfl rfl rfl rfl rfl (.inr ⟨_, rfl, rfl⟩) rfl rfl rfl (fun _ => rfl) rfl hx41) ?_
 refine U.ps 2 T rfl ?_
 refine U.e1 rfl (.none rfl) (by exact Eff1.st T rfl rfl rfl rfl rfl rfl rfl rfl rfl rfl) ?_
 refine U.done (C.nx (U.start ?_))
 refine U.ps 4 T rfl ?_
 refine U.e1 rfl (.none rfl) (by exact Eff1.bs T (enc := eI) (xs := ([x34] : List Int)) rfl rfl rfl rfl rfl rfl rfl rfl rfl rfl (fun _ _ => rfl) rfl rfl) ?_
 obtain ⟨hx44, hm⟩ := hm
 refine U.e1 rfl (.none rfl) (by exact Eff1.ap T rfl rfl rfl rfl rfl rfl (.inr ⟨_, rfl, rfl⟩) rfl rfl rfl (fun _ => rfl) rfl hx44) ?_
 refine U.ps 2 T rfl ?_
 refine U.e1 rfl (.none rfl) (by exact Eff1.st T rfl rfl rfl rfl rfl rfl rfl rfl rfl rfl) ?_
 refine U.done (C.bnx (C.nx (U.start ?_)))
 refine U.pd 3 T (C.nx ?_)
 exact St.wk (C.next hm) (Wk.a [some 0, some 1, some 6, some 8, some 4])
 refine C.ite rfl hm (fun hb36 hm => ?_) (fun hb36 hm => ?_)
 refine U.start ?_
 refine U.pd 3 T ?_
 exact St.wa (idR 5) (hJ35 _ hm)
 refine C.skip ?_
 exact St.wa (idR 5) (hJ35 _ hm)
 refine C.ite rfl hm (fun hb29 hm => ?_) (fun hb29 hm => ?_)
 refine U.start ?_
 refine U.pd 1 T ?_
 exact St.wa (idR 5) (hJ28 _ hm)
 refine C.skip ?_
 exact St.wa (idR 5) (hJ28 _ hm)
 refine C.ite rfl hm (fun hb20 hm => ?_) (fun hb20 hm => ?_)
 refine U.start ?_
 refine U.pd 1 T ?_
 exact St.wa (idR 5) (hJ19 _ hm)
 refine C.skip ?_
 exact St.wa (idR 5) (hJ19 _ hm)
 refine C.exit (C.ex (C.ex (C.bex ?_)))
 exact St.wa (idR 5) (hJ8 _ hm)
theorem T_body_First (s_1 : ApiSite) (post : ApiState → Prop) (hm : V_body_First s_1 post) :
    Tr Tryz.prog 33 [.agg (eApiSite s_1)] [] 0 (fun A H' k => ∃ y, post y ∧ A = (.agg [.i y.Tick, .o 0, .o 1, .o 2, .o 3, .o 4]) ∧ H' = [(0, .val (.os 1 eI y.Shelves)), (1, .val (.os 6 eApiRobot y.Robots)), (2, .val (.os 1 eI y.People)), (3, .val (.os 1 eI y.Dead)), (4, .val (.os 2 eApiStuck y.Stuck))] ∧ k = 5) := by
 refine Tr.intro (n := 42) Tryz.func33 rfl Tryz.ntmps33 rfl (fun w0 ok F β hβ => ?_)
 unfold V_body_First at hm
 refine C.seq (U.start ?_)
 refine U.bx ?_
 refine U.e1 rfl (.none rfl) (by exact Eff1.al T rfl rfl rfl rfl) ?_
 refine U.done (C.nx (C.seq (U.start ?_)))
 refine U.e1 rfl (.none rfl) (by exact Eff1.al T rfl rfl rfl rfl) ?_
 refine U.done (C.nx (C.seq (C.seq (U.start ?_))))
 refine U.pd 4 T (C.nx ?_)
 refine C.jn (fun (x7 : List Int) => [(1, .p 0 0), (2, .p 1 0), (3, .p 2 0)]) (fun (x7 : List Int) => [(0, .box (eApiSite s_1)), (1, .box [.i 0, .v (.slice none 0 0), .v (.slice none 0 0), .v (.slice none 0 0), .v (.slice none 0 0), .v (.slice none 0 0)]), (2, .box [.i 0, .o 3, .v (.slice none 0 0), .v (.slice none 0 0), .v (.slice none 0 0), .v (.slice none 0 0)]), (3, .val (.os 1 eI x7))]) 4 hm (fun x7 hm => ?_) (fun J8 hm hJ8 => ?_)
 refine C.nx (C.seq (C.seq (U.start ?_)))
 refine U.pd 4 T (C.nx ?_)
 refine C.jn (fun (x24 : List ApiRobot) => [(2, .p 0 0), (3, .p 1 0)]) (fun (x24 : List ApiRobot) => [(0, .box [.i 0, .v (.slice none 0 0), .v (.slice none 0 0), .v (.slice none 0 0), .v (.slice none 0 0), .v (.slice none 0 0)]), (1, .box [.i 0, .o 2, .o 3, .v (.slice none 0 0), .v (.slice none 0 0), .v (.slice none 0 0)]), (2, .val (.os 1 eI x7)), (3, .val (.os 6 eApiRobot x24))]) 4 hm (fun x24 hm => ?_) (fun J25 hm hJ25 => ?_)
 refine C.nx (C.seq (U.start ?_))
 refine U.ps 1 T rfl ?_
 refine U.e1 rfl (.none rfl) (by exact Eff1.st T rfl rfl rfl rfl rfl rfl rfl rfl rfl rfl) ?_
 refine U.done (C.nx (C.ret ?_))
 exact C.g1 [some 2, some 3, none, none, none] T hβ ⟨({ Tick := 0, Shelves := x7, Robots := x24, People := [], Dead := [], Stuck := [] : ApiState }), hm, rfl, rfl, rfl⟩
 refine C.block ?_
 refine St.wk (C.loop (fun (s26 : List ApiRobot × Int) => [(2, .p 0 0), (3, .p 1 0), (24, .sl 2 eApiStart s_1.Robots), (25, .i (s_1.Robots.length : Int)), (26, .i s26.2)]) (fun (s26 : List ApiRobot × Int) => [(0, .box [.i 0, .v (.slice none 0 0), .v (.slice none 0 0), .v (.slice none 0 0), .v (.slice none 0 0), .v (.slice none 0 0)]), (1, .box [.i 0, .o 2, .o 3, .v (.slice none 0 0), .v (.slice none 0 0), .v (.slice none 0 0)]), (2, .val (.os 1 eI x7)), (3, .val (.os 6 eApiRobot s26.1))]) hm (fun s26 Y27 hm => ?_)) (Wk.mk' [some 1, some 2, some 3, none] rfl rfl (.eqs rfl) ⟨bX, ⟨_, rfl, .box rfl (.cons (.eq rfl) (.cons (.eq rfl) (.cons (.nilO _ _ ⟨rfl, rfl⟩ rfl) (.eq rfl))))⟩, vL, ⟨_, rfl, .nil _ _⟩, trivial⟩ rfl)
 refine C.seq (U.start ?_)
 refine U.pd 1 T (C.nx (C.seq ?_))
 refine C.ite rfl hm (fun hb30 hm => ?_) (fun hb30 hm => ?_)
 refine C.skip (C.nx (C.seq (C.block (C.seq (U.start ?_)))))
 obtain ⟨x33, hx33, hm⟩ := hm
 refine U.r rfl (.none rfl) rfl rfl (by exact Rd.ix T rfl rfl rfl rfl rfl rfl hx33) ?_
 refine U.ps 1 T rfl ?_
 refine U.e1 rfl (.none rfl) (by exact Eff1.al T rfl rfl rfl rfl) ?_
 refine U.e1 rfl (.none rfl) (by exact Eff1.st T rfl rfl rfl rfl rfl rfl rfl rfl rfl rfl) ?_
 refine U.done (C.nx (U.start ?_))
 refine U.ps 7 T rfl ?_
 refine U.e1 rfl (.none rfl) (by exact Eff1.bs T (enc := eApiRobot) (xs := ([({ Cell := x33.Cell, Load := (-1), Charge := x33.Charge, Rest := 0, Mute := 0, Dead := false : ApiRobot })] : List ApiRobot)) rfl rfl rfl rfl rfl rfl rfl rfl rfl rfl (fun _ _ => rfl) rfl rfl) ?_
 obtain ⟨hx36, hm⟩ := hm
 refine U.e1 rfl (.none rfl) (by exact Eff1.ap T rfl rfl rfl rfl rfl rfl (.inr ⟨_, rfl, rfl⟩) rfl rfl rfl (fun _ => rfl) rfl hx36) ?_
 refine U.ps 1 T rfl ?_
 refine U.e1 rfl (.none rfl) (by exact Eff1.st T rfl rfl rfl rfl rfl rfl rfl rfl rfl rfl) ?_
 refine U.done (C.bnx (C.nx (U.start ?_)))
 refine U.pd 2 T (C.nx ?_)
 exact St.wk (C.next hm) (Wk.a [some 0, some 1, some 2, some 6])
 refine C.exit (C.ex (C.ex (C.bex ?_)))
 exact St.wa (idR 4) (hJ25 _ hm)
 refine C.block ?_
 refine St.wk (C.loop (fun (s9 : List Int × Int) => [(1, .p 0 0), (2, .p 1 0), (3, .p 2 0), (9, .sl 2 eApiShelf s_1.Shelves), (10, .i (s_1.Shelves.length : Int)), (11, .i s9.2)]) (fun (s9 : List Int × Int) => [(0, .box (eApiSite s_1)), (1, .box [.i 0, .v (.slice none 0 0), .v (.slice none 0 0), .v (.slice none 0 0), .v (.slice none 0 0), .v (.slice none 0 0)]), (2, .box [.i 0, .o 3, .v (.slice none 0 0), .v (.slice none 0 0), .v (.slice none 0 0), .v (.slice none 0 0)]), (3, .val (.os 1 eI s9.1))]) hm (fun s9 Y10 hm => ?_)) (Wk.mk' [some 0, some 1, some 2, none] rfl rfl (.eqs rfl) ⟨bX, bX, ⟨_, rfl, .box rfl (.cons (.eq rfl) (.cons (.nilO _ _ ⟨rfl, rfl⟩ rfl) (.eq rfl)))⟩, ⟨_, rfl, .nil _ _⟩, trivial⟩ rfl)
 refine C.seq (U.start ?_)
 refine U.pd 1 T (C.nx (C.seq ?_))
 refine C.ite rfl hm (fun hb13 hm => ?_) (fun hb13 hm => ?_)
 refine C.skip (C.nx (C.seq (C.block (C.seq (U.start ?_)))))
 obtain ⟨x16, hx16, hm⟩ := hm
 refine U.r rfl (.none rfl) rfl rfl (by exact Rd.ix T rfl rfl rfl rfl rfl rfl hx16) ?_
 refine U.ps 1 T rfl ?_
 refine U.e1 rfl (.none rfl) (by exact Eff1.al T rfl rfl rfl rfl) ?_
 refine U.e1 rfl (.none rfl) (by exact Eff1.st T rfl rfl rfl rfl rfl rfl rfl rfl rfl rfl) ?_
 refine U.done (C.nx (U.start ?_))
 refine U.ps 4 T rfl ?_
 refine U.e1 rfl (.none rfl) (by exact Eff1.bs T (enc := eI) (xs := ([x16.Cell] : List Int)) rfl rfl rfl rfl rfl rfl rfl rfl rfl rfl (fun _ _ => rfl) rfl rfl) ?_
 obtain ⟨hx19, hm⟩ := hm
 refine U.e1 rfl (.none rfl) (by exact Eff1.ap T rfl rfl rfl rfl rfl rfl (.inr ⟨_, rfl, rfl⟩) rfl rfl rfl (fun _ => rfl) rfl hx19) ?_
 refine U.ps 1 T rfl ?_
 refine U.e1 rfl (.none rfl) (by exact Eff1.st T rfl rfl rfl rfl rfl rfl rfl rfl rfl rfl) ?_
 refine U.done (C.bnx (C.nx (U.start ?_)))
 refine U.pd 2 T (C.nx ?_)
 exact St.wk (C.next hm) (Wk.a [some 0, some 1, some 2, some 6])
 refine C.exit (C.ex (C.ex (C.bex ?_)))
 exact St.wa (idR 4) (hJ8 _ hm)
theorem T_act_direction (act : Int) (post : (Int × Bool) → Prop) (hm : V_act_direction act post) :
    Tr Tryz.prog 99 [.i act] [] 0 (fun A H' k => ∃ y, post y ∧ A = (.tup [.i y.1, .b y.2]) ∧ H' = [] ∧ k = 0) := by
 refine Tr.intro (n := 14) Tryz.func99 rfl Tryz.ntmps99 rfl (fun w0 ok F β hβ => ?_)
 unfold V_act_direction at hm
 refine C.seq (U.start ?_)
 refine U.pd 2 T (C.nx (C.seq (U.start ?_)))
 refine U.pd 3 T (C.nx (C.seq ?_))
 refine C.jn (fun (x5 : Bool) => [(2, .i (w64 (act - 1))), (3, .b x5)]) (fun (x5 : Bool) => []) 0 hm (fun x5 hm => ?_) (fun J6 hm hJ6 => ?_)
 refine C.nx (C.ret ?_)
 exact C.f9 T hβ ⟨(w64 (act - 1), x5), hm, rfl, rfl, rfl⟩
 refine U.start ?_
 refine U.ps 4 T rfl ?_
 refine hm.cs (fun hb7 hm => ?_) (fun hb7 hm => ?_)
 refine U.pg 2 3 true 10 hb7 T rfl rfl rfl rfl ?_
 refine U.pk hb7 ?_
 refine U.pd 2 T ?_
 exact St.wn (hJ6 _ hm)
 refine U.sks 2 3 true 10 hb7 rfl rfl rfl ?_
 refine U.pk' hb7 ?_
 refine U.pd 2 T ?_
 exact St.wn (hJ6 _ hm)
theorem T_battery_isCharge (n : Int) (post : Bool → Prop) (hm : V_battery_isCharge n post) :
    Tr Tryz.prog 158 [.i n] [] 0 (fun A H' k => ∃ y, post y ∧ A = (.b y) ∧ H' = [] ∧ k = 0) := by
 refine Tr.intro (n := 9) Tryz.func158 rfl Tryz.ntmps158 rfl (fun w0 ok F β hβ => ?_)
 unfold V_battery_isCharge at hm
 refine C.seq (U.start ?_)
 refine U.pd 1 T (C.nx (C.seq ?_))
 refine C.jn (fun (x3 : Bool) => [(2, .b x3)]) (fun (x3 : Bool) => []) 0 hm (fun x3 hm => ?_) (fun J4 hm hJ4 => ?_)
 refine C.nx (C.ret ?_)
 exact C.f1 T hβ ⟨x3, hm, rfl, rfl, rfl⟩
 refine U.start ?_
 refine U.ps 3 T rfl ?_
 refine hm.cs (fun hb5 hm => ?_) (fun hb5 hm => ?_)
 refine U.pg 2 2 true 5 hb5 T rfl rfl rfl rfl ?_
 refine U.pk hb5 ?_
 refine U.pd 1 T ?_
 exact St.wn (hJ4 _ hm)
 refine U.sks 2 2 true 5 hb5 rfl rfl rfl ?_
 refine U.pk' hb5 ?_
 refine U.pd 1 T ?_
 exact St.wn (hJ4 _ hm)
theorem T_battery_Base (act : Int) (laden : Bool) (post : Int → Prop) (hm : V_battery_Base act laden post) :
    Tr Tryz.prog 201 [.i act, .b laden] [] 0 (fun A H' k => ∃ y, post y ∧ A = (.i y) ∧ H' = [] ∧ k = 0) := by
 refine Tr.intro (n := 31) Tryz.func201 rfl Tryz.ntmps201 rfl (fun w0 ok F β hβ => ?_)
 unfold V_battery_Base at hm
 refine C.seq (U.start ?_)
 refine U.pd 1 T (C.nx (C.seq (C.seq (U.start ?_))))
 refine U.pd 1 T (C.nx (C.block (C.seq (C.seq (U.start ?_)))))
 refine U.pd 2 T (C.nx ?_)
 refine C.jn (fun (x7 : Bool) => [(0, .i act), (1, .b laden), (6, .i act), (7, .b x7)]) (fun (x7 : Bool) => []) 0 hm (fun x7 hm => ?_) (fun J8 hm hJ8 => ?_)
 refine C.nx ?_
 refine C.ite rfl hm (fun hb12 hm => ?_) (fun hb12 hm => ?_)
 refine C.seq (U.start ?_)
 refine U.pd 1 T (C.nx (C.ret (C.brt (C.rt ?_))))
 exact C.f1 T hβ ⟨1, hm, rfl, rfl, rfl⟩
 refine C.seq (U.start ?_)
 refine U.pd 2 T (C.nx ?_)
 refine C.ite rfl hm (fun hb17 hm => ?_) (fun hb17 hm => ?_)
 refine C.seq (U.start ?_)
 refine U.pd 1 T (C.nx (C.ret (C.brt (C.rt ?_))))
 exact C.f1 T hβ ⟨3, hm, rfl, rfl, rfl⟩
 refine C.skip (C.bnx (C.nx (C.seq (U.start ?_))))
 refine U.pd 1 T (C.nx (C.seq (C.seq (U.start ?_))))
 refine U.pd 2 T (C.nx (C.block (C.seq (C.seq (U.start ?_)))))
 refine U.pd 2 T (C.nx ?_)
 refine C.jn (fun (x26 : Bool) => [(1, .b laden), (5, .i 0), (13, .i (w64 (act - 1))), (14, .b x26)]) (fun (x26 : Bool) => []) 0 hm (fun x26 hm => ?_) (fun J27 hm hJ27 => ?_)
 refine C.nx ?_
 refine C.jn (fun (x41 : Int) => [(1, .b laden), (5, .i x41)]) (fun (x41 : Int) => []) 0 hm (fun x41 hm => ?_) (fun J42 hm hJ42 => ?_)
 refine C.bnx (C.nx (C.seq (C.seq ?_)))
 refine C.jn (fun (x60 : Bool) => [(5, .i x41), (27, .b x60)]) (fun (x60 : Bool) => []) 0 hm (fun x60 hm => ?_) (fun J61 hm hJ61 => ?_)
 refine C.nx ?_
 refine C.jn (fun (x63 : Int) => [(5, .i x63)]) (fun (x63 : Int) => []) 0 hm (fun x63 hm => ?_) (fun J64 hm hJ64 => ?_)
 refine C.nx (C.seq (U.start ?_))
 refine U.pd 2 T (C.nx (C.ret ?_))
 exact C.f1 T hβ ⟨x63, hm, rfl, rfl, rfl⟩
 refine C.ite rfl hm (fun hb65 hm => ?_) (fun hb65 hm => ?_)
 refine U.start ?_
 refine U.pd 3 T ?_
 exact St.wn (hJ64 _ hm)
 refine C.skip ?_
 exact St.wn (hJ64 _ hm)
 refine U.start ?_
 refine U.ps 3 T rfl ?_
 refine hm.cs (fun hb62 hm => ?_) (fun hb62 hm => ?_)
 refine U.pg 1 2 true 25 hb62 T rfl rfl rfl rfl ?_
 refine U.pk hb62 ?_
 refine U.done ?_
 exact St.wn (hJ61 _ hm)
 refine U.sks 1 2 true 25 hb62 rfl rfl rfl ?_
 refine U.pk' hb62 ?_
 refine U.done ?_
 exact St.wn (hJ61 _ hm)
 refine C.ite rfl hm (fun hb43 hm => ?_) (fun hb43 hm => ?_)
 refine U.start ?_
 refine U.pd 1 T ?_
 exact St.wn (hJ42 _ hm)
 refine C.seq (U.start ?_)
 refine U.pd 2 T (C.nx ?_)
 refine C.jn (fun (x48 : Int) => [(1, .b laden), (5, .i x48)]) (fun (x48 : Int) => []) 0 hm (fun x48 hm => ?_) (fun J49 hm hJ49 => ?_)
 exact St.wn (hJ42 _ hm)
 refine C.ite rfl hm (fun hb50 hm => ?_) (fun hb50 hm => ?_)
 refine U.start ?_
 refine U.pd 1 T ?_
 exact St.wn (hJ49 _ hm)
 refine C.seq (U.start ?_)
 refine U.pd 2 T (C.nx ?_)
 refine C.jn (fun (x55 : Int) => [(1, .b laden), (5, .i x55)]) (fun (x55 : Int) => []) 0 hm (fun x55 hm => ?_) (fun J56 hm hJ56 => ?_)
 exact St.wn (hJ49 _ hm)
 refine C.ite rfl hm (fun hb57 hm => ?_) (fun hb57 hm => ?_)
 refine U.start ?_
 refine U.pd 1 T ?_
 exact St.wn (hJ56 _ hm)
 refine C.skip ?_
 exact St.wn (hJ56 _ hm)
 refine C.ite rfl hm (fun hb28 hm => ?_) (fun hb28 hm => ?_)
 refine C.skip ?_
 exact St.wn (hJ27 _ hm)
 refine C.seq (U.start ?_)
 refine U.pd 2 T (C.nx ?_)
 refine C.jn (fun (x31 : Bool) => [(1, .b laden), (5, .i 0), (13, .i (w64 (act - 1))), (14, .b x31)]) (fun (x31 : Bool) => []) 0 hm (fun x31 hm => ?_) (fun J32 hm hJ32 => ?_)
 exact St.wn (hJ27 _ hm)
 refine C.ite rfl hm (fun hb33 hm => ?_) (fun hb33 hm => ?_)
 refine C.skip ?_
 exact St.wn (hJ32 _ hm)
 refine C.seq (U.start ?_)
 refine U.pd 2 T (C.nx ?_)
 refine C.jn (fun (x36 : Bool) => [(1, .b laden), (5, .i 0), (13, .i (w64 (act - 1))), (14, .b x36)]) (fun (x36 : Bool) => []) 0 hm (fun x36 hm => ?_) (fun J37 hm hJ37 => ?_)
 exact St.wn (hJ32 _ hm)
 refine C.ite rfl hm (fun hb38 hm => ?_) (fun hb38 hm => ?_)
 refine C.skip ?_
 exact St.wn (hJ37 _ hm)
 refine U.start ?_
 refine U.pd 2 T ?_
 exact St.wn (hJ37 _ hm)
 refine C.ite rfl hm (fun hb9 hm => ?_) (fun hb9 hm => ?_)
 refine C.skip ?_
 exact St.wn (hJ8 _ hm)
 refine U.start ?_
 refine U.pd 2 T ?_
 exact St.wn (hJ8 _ hm)
theorem T_battery_Cost (tick : Int) (act : Int) (laden : Bool) (post : Int → Prop) (hm : V_battery_Cost tick act laden post) :
    Tr Tryz.prog 160 [.i tick, .i act, .b laden] [] 0 (fun A H' k => ∃ y, post y ∧ A = (.i y) ∧ H' = [] ∧ k = 0) := by
 refine Tr.intro (n := 20) Tryz.func160 rfl Tryz.ntmps160 rfl (fun w0 ok F β hβ => ?_)
 unfold V_battery_Cost at hm
 refine C.seq (U.start ?_)
 refine U.pd 1 T (C.nx (C.seq (U.start ?_)))
 refine U.ps 3 T rfl ?_
 refine U.r rfl (.none rfl) rfl rfl (by exact Rd.dv rfl rfl rfl rfl (by decide)) ?_
 refine U.pd 1 T (C.nx (C.seq (U.start ?_)))
 refine U.ps 2 T rfl ?_
 refine U.k (T_battery_Base act laden _ hm) en201 (fun x8 hm => ?_)
 refine U.ps 4 T rfl ?_
 refine U.r rfl (.none rfl) rfl rfl (by exact Rd.dv rfl rfl rfl rfl (by decide)) ?_
 refine U.pd 1 T (C.nx (C.ret ?_))
 exact C.f1 T hβ ⟨w64 ((w64 ((w64 (x8 * (w64 (10 + (w64 ((imin (imax tick 0) 20000).tdiv 1000)))))) + 9)).tdiv 10), hm, rfl, rfl, rfl⟩
theorem T_battery_Spend (charge : Int) (cost : Int) (post : (Int × Int) → Prop) (hm : V_battery_Spend charge cost post) :
    Tr Tryz.prog 159 [.i charge, .i cost] [] 0 (fun A H' k => ∃ y, post y ∧ A = (.tup [.i y.1, .i y.2]) ∧ H' = [] ∧ k = 0) := by
 refine Tr.intro (n := 23) Tryz.func159 rfl Tryz.ntmps159 rfl (fun w0 ok F β hβ => ?_)
 unfold V_battery_Spend at hm
 refine C.seq (U.start ?_)
 refine U.pd 2 T (C.nx (C.seq (C.block (C.seq ?_))))
 refine C.jn (fun (x3 : Bool) => [(0, .i charge), (1, .i cost), (6, .b x3)]) (fun (x3 : Bool) => []) 0 hm (fun x3 hm => ?_) (fun J4 hm hJ4 => ?_)
 refine C.nx ?_
 refine C.ite rfl hm (fun hb7 hm => ?_) (fun hb7 hm => ?_)
 refine C.seq (U.start ?_)
 refine U.pd 3 T (C.nx (C.ret (C.brt (C.rt ?_))))
 exact C.f9 T hβ ⟨(charge, 1), hm, rfl, rfl, rfl⟩
 refine C.seq (U.start ?_)
 refine U.pd 4 T (C.nx ?_)
 refine C.ite rfl hm (fun hb12 hm => ?_) (fun hb12 hm => ?_)
 refine C.seq (U.start ?_)
 refine U.pd 3 T (C.nx (C.ret (C.brt (C.rt ?_))))
 exact C.f9 T hβ ⟨(charge, 16), hm, rfl, rfl, rfl⟩
 refine C.skip (C.bnx (C.nx (C.seq (U.start ?_))))
 refine U.pd 5 T (C.nx (C.ret ?_))
 exact C.f9 T hβ ⟨(w64 (charge - cost), 0), hm, rfl, rfl, rfl⟩
 refine U.start ?_
 refine U.ps 1 T rfl ?_
 refine U.k (T_battery_isCharge charge _ hm) en158 (fun x5 hm => ?_)
 refine U.ps 2 T rfl ?_
 refine hm.cs (fun hb6 hm => ?_) (fun hb6 hm => ?_)
 refine U.pg 2 3 false 10 (ntF hb6) T rfl rfl rfl rfl ?_
 refine U.r rfl (.none rfl) rfl rfl (by exact Rd.pk' rfl rfl (ntF hb6) rfl) ?_
 refine U.pd 1 T ?_
 exact St.wn (hJ4 _ hm)
 refine U.sks 2 3 false 10 (ntT hb6) rfl rfl rfl ?_
 refine U.r rfl (.none rfl) rfl rfl (by exact Rd.pk rfl rfl (ntT hb6) rfl) ?_
 refine U.pd 1 T ?_
 exact St.wn (hJ4 _ hm)
theorem T_battery_After (tick : Int) (charge : Int) (act : Int) (laden : Bool) (post : (Int × Int) → Prop) (hm : V_battery_After tick charge act laden post) :
    Tr Tryz.prog 100 [.i tick, .i charge, .i act, .b laden] [] 0 (fun A H' k => ∃ y, post y ∧ A = (.tup [.i y.1, .i y.2]) ∧ H' = [] ∧ k = 0) := by
 refine Tr.intro (n := 37) Tryz.func100 rfl Tryz.ntmps100 rfl (fun w0 ok F β hβ => ?_)
 unfold V_battery_After at hm
 refine C.seq (U.start ?_)
 refine U.pd 2 T (C.nx (C.seq (C.block (C.seq ?_))))
 refine C.jn (fun (x3 : Bool) => [(0, .i tick), (1, .i charge), (2, .i act), (3, .b laden), (10, .b x3)]) (fun (x3 : Bool) => []) 0 hm (fun x3 hm => ?_) (fun J4 hm hJ4 => ?_)
 refine C.nx ?_
 refine C.ite rfl hm (fun hb8 hm => ?_) (fun hb8 hm => ?_)
 refine C.seq (U.start ?_)
 refine U.pd 3 T (C.nx (C.ret (C.brt (C.rt ?_))))
 exact C.f9 T hβ ⟨(charge, 1), hm, rfl, rfl, rfl⟩
 refine C.seq (U.start ?_)
 refine U.pd 3 T (C.nx ?_)
 refine C.ite rfl hm (fun hb13 hm => ?_) (fun hb13 hm => ?_)
 refine C.seq (U.start ?_)
 refine U.pd 5 T (C.nx (C.ret (C.brt (C.rt ?_))))
 exact C.f9 T hβ ⟨(imin (w64 (charge + 20)) 1000000, 0), hm, rfl, rfl, rfl⟩
 refine C.skip (C.bnx (C.nx (C.seq (U.start ?_))))
 refine U.ps 4 T rfl ?_
 refine U.k (T_battery_Cost tick act laden _ hm) en160 (fun x18 hm => ?_)
 refine U.k (T_battery_Spend charge x18 _ hm) en159 (fun x19 hm => ?_)
 refine U.pd 4 T (C.nx (C.ret ?_))
 exact C.f9 T hβ ⟨(x19.1, x19.2), hm, rfl, rfl, rfl⟩
 refine U.start ?_
 refine U.ps 1 T rfl ?_
 refine U.k (T_battery_isCharge charge _ hm) en158 (fun x5 hm => ?_)
 refine U.ps 2 T rfl ?_
 refine hm.cs (fun hb6 hm => ?_) (fun hb6 hm => ?_)
 refine U.pg 2 3 false 14 (ntF hb6) T rfl rfl rfl rfl ?_
 refine U.r rfl (.none rfl) rfl rfl (by exact Rd.pk' rfl rfl (ntF hb6) rfl) ?_
 refine U.ps 1 T rfl ?_
 refine hm.cs (fun hb7 hm => ?_) (fun hb7 hm => ?_)
 refine U.sks 2 7 false 18 hb7 rfl rfl rfl ?_
 refine U.pk hb7 ?_
 refine U.pd 1 T ?_
 exact St.wn (hJ4 _ hm)
 refine U.pg 2 7 false 18 hb7 T rfl rfl rfl rfl ?_
 refine U.pk' hb7 ?_
 refine U.pd 1 T ?_
 exact St.wn (hJ4 _ hm)
 refine U.sks 2 3 false 14 (ntT hb6) rfl rfl rfl ?_
 refine U.r rfl (.none rfl) rfl rfl (by exact Rd.pk rfl rfl (ntT hb6) rfl) ?_
 refine U.ps 1 T rfl ?_
 refine U.sks 2 7 false 18 rfl rfl rfl rfl ?_
 refine U.pk rfl ?_
 refine U.pd 1 T ?_
 exact St.wn (hJ4 _ hm)
theorem T_floor_size (f : ApiFloor) (post : Int → Prop) (hm : V_floor_size f post) :
    Tr Tryz.prog 136 [.agg (eApiFloor f)] [] 0 (fun A H' k => ∃ y, post y ∧ A = (.i y) ∧ H' = [] ∧ k = 0) := by
 refine Tr.intro (n := 11) Tryz.func136 rfl Tryz.ntmps136 rfl (fun w0 ok F β hβ => ?_)
 unfold V_floor_size at hm
 refine C.seq (U.start ?_)
 refine U.bx ?_
 refine U.pd 1 T (C.nx (C.seq (U.start ?_)))
 refine U.pd 9 T (C.nx (C.ret ?_))
 exact C.f1 T hβ ⟨w64 ((w64 (f.W * f.H)) * f.D), hm, rfl, rfl, rfl⟩
theorem T_floor_is (f : ApiFloor) (c : Int) (post : Bool → Prop) (hm : V_floor_is f c post) :
    Tr Tryz.prog 149 [.agg (eApiFloor f), .i c] [] 0 (fun A H' k => ∃ y, post y ∧ A = (.b y) ∧ H' = [] ∧ k = 0) := by
 refine Tr.intro (n := 13) Tryz.func149 rfl Tryz.ntmps149 rfl (fun w0 ok F β hβ => ?_)
 unfold V_floor_is at hm
 refine C.seq (U.start ?_)
 refine U.bx ?_
 refine U.pd 1 T (C.nx (C.seq ?_))
 refine C.jn (fun (x3 : Bool) => [(4, .b x3)]) (fun (x3 : Bool) => []) 0 hm (fun x3 hm => ?_) (fun J4 hm hJ4 => ?_)
 refine C.nx (C.ret ?_)
 exact C.f1 T hβ ⟨x3, hm, rfl, rfl, rfl⟩
 refine U.start ?_
 refine U.ps 3 T rfl ?_
 refine hm.cs (fun hb5 hm => ?_) (fun hb5 hm => ?_)
 refine U.pg 2 2 true 7 hb5 T rfl rfl rfl rfl ?_
 refine U.k (T_floor_size f _ hm) en136 (fun x6 hm => ?_) (hw := .take 2 true 7 _ hb5 rfl rfl rfl)
 refine U.pg 1 2 true 7 hb5 T rfl rfl rfl rfl ?_
 refine U.pk hb5 ?_
 refine U.pd 1 T ?_
 exact St.wn (hJ4 _ hm)
 refine U.sks 4 2 true 7 hb5 rfl rfl rfl ?_
 refine U.pk' hb5 ?_
 refine U.pd 1 T ?_
 exact St.wn (hJ4 _ hm)
theorem T_floor_At (f : ApiFloor) (c : Int) (post : (Int × Int × Int) → Prop) (hm : V_floor_At f c post) :
    Tr Tryz.prog 142 [.agg (eApiFloor f), .i c] [] 0 (fun A H' k => ∃ y, post y ∧ A = (.tup [.i y.1, .i y.2.1, .i y.2.2]) ∧ H' = [] ∧ k = 0) := by
 refine Tr.intro (n := 29) Tryz.func142 rfl Tryz.ntmps142 rfl (fun w0 ok F β hβ => ?_)
 unfold V_floor_At at hm
 refine C.seq (U.start ?_)
 refine U.bx ?_
 refine U.pd 3 T (C.nx (C.seq (C.seq (U.start ?_))))
 refine U.ps 2 T rfl ?_
 refine U.k (T_floor_is f c _ hm) en149 (fun x5 hm => ?_)
 refine U.pd 1 T (C.nx ?_)
 refine C.ite rfl hm (fun hb6 hm => ?_) (fun hb6 hm => ?_)
 refine C.seq (U.start ?_)
 refine U.pd 3 T (C.nx (C.ret (C.rt ?_)))
 exact C.f9 T hβ ⟨(0, 0, 0), hm, rfl, rfl, rfl⟩
 refine C.skip (C.nx (C.seq ?_))
 refine D.beg 9999 [0] [] mix rfl rfl (by kernel_rfl) (by repeat (first | exact NoPanicQ.body | exact NoPanicQ.rnd | refine NoPanicQ.th ?_ | refine NoPanicQ.blk ?_ | refine NoPanicQ.ng ?_)) (fun hQ hS ws M' => ?_)
 refine D.ps 3 [(0, []), (1, []), (2, [])] rfl hQ hS T rfl rfl (by kernel_rfl) ?_
 obtain ⟨hx11, hm⟩ := hm
 refine D.q 3 [] hQ hS rfl (.none rfl) rfl rfl (by exact Rd.rm rfl rfl rfl rfl hx11) rfl (by kernel_rfl) ?_
 refine D.ps 3 [(4, []), (5, []), (6, [])] rfl hQ hS T rfl rfl (by kernel_rfl) ?_
 obtain ⟨hx12, hm⟩ := hm
 refine D.q 7 [] hQ hS rfl (.none rfl) rfl rfl (by exact Rd.dv rfl rfl rfl rfl hx12) rfl (by kernel_rfl) ?_
 refine D.ps 2 [(8, []), (9, [])] rfl hQ hS T rfl rfl (by kernel_rfl) ?_
 obtain ⟨hx13, hm⟩ := hm
 refine D.q 10 [] hQ hS rfl (.none rfl) rfl rfl (by exact Rd.rm rfl rfl rfl rfl hx13) rfl (by kernel_rfl) ?_
 refine D.ps 6 [(11, []), (12, []), (13, []), (14, []), (15, []), (16, [])] rfl hQ hS T rfl rfl (by kernel_rfl) ?_
 obtain ⟨hx14, hm⟩ := hm
 refine D.q 17 [] hQ hS rfl (.none rfl) rfl rfl (by exact Rd.dv rfl rfl rfl rfl hx14) rfl (by kernel_rfl) ?_
 refine D.ps 3 [(18, []), (19, []), (20, [])] rfl hQ hS T rfl rfl (by kernel_rfl) ?_
 refine D.done (by kernel_rfl) ?_
 refine C.nx (C.ret ?_)
 exact C.f9 T hβ ⟨(c.tmod f.W, (w64 (c.tdiv f.W)).tmod f.H, w64 (c.tdiv (w64 (f.W * f.H)))), hm, rfl, rfl, rfl⟩
theorem T_floor_steps (post : Arr6FloorStep → Prop) (hm : V_floor_steps post) :
    Tr Tryz.prog 150 [] [] 0 (fun A H' k => ∃ y, post y ∧ A = (.agg [.i y.e0.x, .i y.e0.y, .i y.e0.z, .i y.e1.x, .i y.e1.y, .i y.e1.z, .i y.e2.x, .i y.e2.y, .i y.e2.z, .i y.e3.x, .i y.e3.y, .i y.e3.z, .i y.e4.x, .i y.e4.y, .i y.e4.z, .i y.e5.x, .i y.e5.y, .i y.e5.z]) ∧ H' = [] ∧ k = 0) := by
 refine Tr.intro (n := 8) Tryz.func150 rfl Tryz.ntmps150 rfl (fun w0 ok F β hβ => ?_)
 unfold V_floor_steps at hm
 refine C.seq (U.start ?_)
 refine U.e1 rfl (.none rfl) (by exact Eff1.al T rfl rfl rfl rfl) ?_
 refine U.done (C.nx (C.seq (U.start ?_)))
 refine U.ps 7 T rfl ?_
 refine U.e1 rfl (.none rfl) (by exact Eff1.st T rfl rfl rfl rfl rfl rfl rfl rfl rfl rfl) ?_
 refine U.done (C.nx (C.ret ?_))
 exact C.f1 T hβ ⟨({ e0 := ({ x := 1, y := 0, z := 0 : FloorStep }), e1 := ({ x := 0, y := 1, z := 0 : FloorStep }), e2 := ({ x := (-1), y := 0, z := 0 : FloorStep }), e3 := ({ x := 0, y := (-1), z := 0 : FloorStep }), e4 := ({ x := 0, y := 0, z := 1 : FloorStep }), e5 := ({ x := 0, y := 0, z := (-1) : FloorStep }) : Arr6FloorStep }), hm, rfl, rfl, rfl⟩
theorem T_floor_Cell (f : ApiFloor) (x_1 : Int) (y_1 : Int) (z : Int) (post : Int → Prop) (hm : V_floor_Cell f x_1 y_1 z post) :
    Tr Tryz.prog 143 [.agg (eApiFloor f), .i x_1, .i y_1, .i z] [] 0 (fun A H' k => ∃ y, post y ∧ A = (.i y) ∧ H' = [] ∧ k = 0) := by
 refine Tr.intro (n := 43) Tryz.func143 rfl Tryz.ntmps143 rfl (fun w0 ok F β hβ => ?_)
 unfold V_floor_Cell at hm
 refine C.seq (U.start ?_)
 refine U.bx ?_
 refine U.pd 1 T (C.nx (C.seq (C.seq ?_)))
 refine C.jn (fun (x3 : Bool) => [(1, .i x_1), (2, .i y_1), (3, .i z), (4, .p 0 0), (31, .b x3)]) (fun (x3 : Bool) => [(0, .box (eApiFloor f))]) 1 hm (fun x3 hm => ?_) (fun J4 hm hJ4 => ?_)
 refine C.nx ?_
 refine C.ite rfl hm (fun hb8 hm => ?_) (fun hb8 hm => ?_)
 refine C.seq (U.start ?_)
 refine U.pd 1 T (C.nx (C.ret (C.rt ?_)))
 exact C.f1 T hβ ⟨(-1), hm, rfl, rfl, rfl⟩
 refine C.skip (C.nx (C.seq (U.start ?_)))
 refine U.pd 12 T (C.nx (C.ret ?_))
 exact C.f1 T hβ ⟨w64 ((w64 ((w64 ((w64 (z * f.H)) + y_1)) * f.W)) + x_1), hm, rfl, rfl, rfl⟩
 refine U.start ?_
 refine U.ps 6 T rfl ?_
 refine hm.cs (fun hb5 hm => ?_) (fun hb5 hm => ?_)
 refine U.sks 4 5 false 14 hb5 rfl rfl rfl ?_
 refine U.pk hb5 ?_
 refine U.ps 1 T rfl ?_
 refine U.sks 4 11 false 20 rfl rfl rfl rfl ?_
 refine U.pk rfl ?_
 refine U.ps 1 T rfl ?_
 refine U.sks 4 17 false 26 rfl rfl rfl rfl ?_
 refine U.pk rfl ?_
 refine U.done ?_
 exact St.wa [some 0] (hJ4 _ hm)
 refine U.pg 4 5 false 14 hb5 T rfl rfl rfl rfl ?_
 refine U.pk' hb5 ?_
 refine U.ps 1 T rfl ?_
 refine hm.cs (fun hb6 hm => ?_) (fun hb6 hm => ?_)
 refine U.sks 4 11 false 20 hb6 rfl rfl rfl ?_
 refine U.pk hb6 ?_
 refine U.ps 1 T rfl ?_
 refine U.sks 4 17 false 26 rfl rfl rfl rfl ?_
 refine U.pk rfl ?_
 refine U.done ?_
 exact St.wa [some 0] (hJ4 _ hm)
 refine U.pg 4 11 false 20 hb6 T rfl rfl rfl rfl ?_
 refine U.pk' hb6 ?_
 refine U.ps 1 T rfl ?_
 refine hm.cs (fun hb7 hm => ?_) (fun hb7 hm => ?_)
 refine U.sks 4 17 false 26 hb7 rfl rfl rfl ?_
 refine U.pk hb7 ?_
 refine U.done ?_
 exact St.wa [some 0] (hJ4 _ hm)
 refine U.pg 4 17 false 26 hb7 T rfl rfl rfl rfl ?_
 refine U.pk' hb7 ?_
 refine U.done ?_
 exact St.wa [some 0] (hJ4 _ hm)
theorem T_floor_beside (f : ApiFloor) (c : Int) (d : Int) (post : Int → Prop) (hm : V_floor_beside f c d post) :
    Tr Tryz.prog 77 [.agg (eApiFloor f), .i c, .i d] [] 0 (fun A H' k => ∃ y, post y ∧ A = (.i y) ∧ H' = [] ∧ k = 0) := by
 refine Tr.intro (n := 47) Tryz.func77 rfl Tryz.ntmps77 rfl (fun w0 ok F β hβ => ?_)
 unfold V_floor_beside at hm
 refine C.seq (U.start ?_)
 refine U.bx ?_
 refine U.pd 1 T (C.nx (C.seq (C.seq ?_)))
 refine C.jn (fun (x3 : Bool) => [(1, .i c), (2, .i d), (3, .p 0 0), (22, .b x3)]) (fun (x3 : Bool) => [(0, .box (eApiFloor f))]) 1 hm (fun x3 hm => ?_) (fun J4 hm hJ4 => ?_)
 refine C.nx ?_
 refine C.ite rfl hm (fun hb8 hm => ?_) (fun hb8 hm => ?_)
 refine C.seq (U.start ?_)
 refine U.pd 1 T (C.nx (C.ret (C.rt ?_)))
 exact C.f1 T hβ ⟨(-1), hm, rfl, rfl, rfl⟩
 refine C.skip (C.nx (C.seq (U.start ?_)))
 refine U.ps 2 T rfl ?_
 refine U.k (T_floor_At f c _ hm) en142 (fun x13 hm => ?_)
 refine U.pd 7 T (C.nx (C.seq (U.start ?_)))
 refine U.k (T_floor_steps _ hm) en150 (fun x16 hm => ?_)
 refine U.ps 1 T rfl ?_
 obtain ⟨x17, hx17, hm⟩ := hm
 refine U.r rfl (.none rfl) rfl rfl (by exact Rd.ia T (enc := eFloorStep) rfl rfl rfl rfl rfl rfl rfl rfl rfl (fun _ _ => rfl) hx17) ?_
 refine U.e1 rfl (.none rfl) (by exact Eff1.al T rfl rfl rfl rfl) ?_
 refine U.e1 rfl (.none rfl) (by exact Eff1.st T rfl rfl rfl rfl rfl rfl rfl rfl rfl rfl) ?_
 refine U.done (C.nx (C.seq (U.start ?_)))
 refine U.ps 13 T rfl ?_
 refine U.k (T_floor_Cell f (w64 (x13.1 + x17.x)) (w64 (x13.2.1 + x17.y)) (w64 (x13.2.2 + x17.z)) _ hm) en143 (fun x20 hm => ?_)
 refine U.pd 1 T (C.nx (C.ret ?_))
 exact C.f1 T hβ ⟨x20, hm, rfl, rfl, rfl⟩
 refine U.start ?_
 refine U.ps 2 T rfl ?_
 refine U.k (T_floor_is f c _ hm) en149 (fun x5 hm => ?_)
 refine U.ps 2 T rfl ?_
 refine hm.cs (fun hb6 hm => ?_) (fun hb6 hm => ?_)
 refine U.pg 2 4 false 15 (ntF hb6) T rfl rfl rfl rfl ?_
 refine U.r rfl (.none rfl) rfl rfl (by exact Rd.pk' rfl rfl (ntF hb6) rfl) ?_
 refine U.ps 1 T rfl ?_
 refine hm.cs (fun hb7 hm => ?_) (fun hb7 hm => ?_)
 refine U.sks 2 8 false 19 hb7 rfl rfl rfl ?_
 refine U.pk hb7 ?_
 refine U.done ?_
 exact St.wa [some 0] (hJ4 _ hm)
 refine U.pg 2 8 false 19 hb7 T rfl rfl rfl rfl ?_
 refine U.pk' hb7 ?_
 refine U.done ?_
 exact St.wa [some 0] (hJ4 _ hm)
 refine U.sks 2 4 false 15 (ntT hb6) rfl rfl rfl ?_
 refine U.r rfl (.none rfl) rfl rfl (by exact Rd.pk rfl rfl (ntT hb6) rfl) ?_
 refine U.ps 1 T rfl ?_
 refine U.sks 2 8 false 19 rfl rfl rfl rfl ?_
 refine U.pk rfl ?_
 refine U.done ?_
 exact St.wa [some 0] (hJ4 _ hm)
theorem T_floor_Next (f : ApiFloor) (c : Int) (d : Int) (post : (Int × Bool) → Prop) (hm : V_floor_Next f c d post) :
    Tr Tryz.prog 24 [.agg (eApiFloor f), .i c, .i d] [] 0 (fun A H' k => ∃ y, post y ∧ A = (.tup [.i y.1, .b y.2]) ∧ H' = [] ∧ k = 0) := by
 refine Tr.intro (n := 65) Tryz.func24 rfl Tryz.ntmps24 rfl (fun w0 ok F β hβ => ?_)
 unfold V_floor_Next at hm
 refine C.seq (U.start ?_)
 refine U.bx ?_
 refine U.pd 2 T (C.nx (C.seq (U.start ?_)))
 refine U.ps 3 T rfl ?_
 refine U.k (T_floor_beside f c d _ hm) en77 (fun x5 hm => ?_)
 refine U.pd 1 T (C.nx (C.seq (C.seq ?_)))
 refine C.jn (fun (x6 : Bool) => [(1, .i c), (2, .i d), (3, .p 0 0), (8, .i x5), (41, .b x6)]) (fun (x6 : Bool) => [(0, .box (eApiFloor f))]) 1 hm (fun x6 hm => ?_) (fun J7 hm hJ7 => ?_)
 refine C.nx ?_
 refine C.ite rfl hm (fun hb15 hm => ?_) (fun hb15 hm => ?_)
 refine C.seq (U.start ?_)
 refine U.pd 2 T (C.nx (C.ret (C.rt ?_)))
 exact C.f9 T hβ ⟨(0, false), hm, rfl, rfl, rfl⟩
 refine C.skip (C.nx (C.seq (C.seq ?_)))
 refine C.jn (fun (x18 : Bool) => [(8, .i x5), (63, .b x18)]) (fun (x18 : Bool) => []) 0 hm (fun x18 hm => ?_) (fun J19 hm hJ19 => ?_)
 refine C.nx ?_
 refine C.ite rfl hm (fun hb28 hm => ?_) (fun hb28 hm => ?_)
 refine C.seq (U.start ?_)
 refine U.pd 2 T (C.nx (C.ret (C.rt ?_)))
 exact C.f9 T hβ ⟨(0, false), hm, rfl, rfl, rfl⟩
 refine C.skip (C.nx (C.seq (U.start ?_)))
 refine U.pd 3 T (C.nx (C.ret ?_))
 exact C.f9 T hβ ⟨(x5, true), hm, rfl, rfl, rfl⟩
 refine U.start ?_
 refine U.ps 3 T rfl ?_
 refine hm.cs (fun hb20 hm => ?_) (fun hb20 hm => ?_)
 refine U.sks 2 2 false 44 hb20 rfl rfl rfl ?_
 refine U.pk hb20 ?_
 refine U.ps 1 T rfl ?_
 refine U.pg 3 6 true 48 rfl T rfl rfl rfl rfl ?_
 obtain ⟨x21, hx21, hm⟩ := hm
 refine U.r rfl (.take 6 true 48 _ rfl rfl rfl rfl) rfl rfl (by exact Rd.ix T rfl rfl rfl rfl rfl rfl hx21) ?_
 refine U.pg 3 6 true 48 rfl T rfl rfl rfl rfl ?_
 refine hm.cs (fun hb22 hm => ?_) (fun hb22 hm => ?_)
 refine U.sks 6 13 false 55 hb22 rfl rfl rfl ?_
 refine U.r rfl (.take 6 true 48 _ rfl rfl rfl rfl) rfl rfl (by exact Rd.pk rfl rfl hb22 rfl) ?_
 refine U.pk rfl ?_
 refine U.done ?_
 exact St.wn (hJ19 _ hm)
 refine U.pg 3 13 false 55 hb22 T rfl rfl rfl rfl ?_
 obtain ⟨x23, hx23, hm⟩ := hm
 refine U.r rfl (.take 13 false 55 _ hb22 rfl rfl rfl) rfl rfl (by exact Rd.ix T rfl rfl rfl rfl rfl rfl hx23) ?_
 refine U.pg 2 13 false 55 hb22 T rfl rfl rfl rfl ?_
 refine U.r rfl (.take 6 true 48 _ rfl rfl rfl rfl) rfl rfl (by exact Rd.pk' rfl rfl hb22 rfl) ?_
 refine U.pk rfl ?_
 refine U.done ?_
 exact St.wn (hJ19 _ hm)
 refine U.pg 2 2 false 44 hb20 T rfl rfl rfl rfl ?_
 refine U.pk' hb20 ?_
 refine U.ps 1 T rfl ?_
 refine hm.cs (fun hb24 hm => ?_) (fun hb24 hm => ?_)
 refine U.pg 3 6 true 48 hb24 T rfl rfl rfl rfl ?_
 obtain ⟨x25, hx25, hm⟩ := hm
 refine U.r rfl (.take 6 true 48 _ hb24 rfl rfl rfl) rfl rfl (by exact Rd.ix T rfl rfl rfl rfl rfl rfl hx25) ?_
 refine U.pg 3 6 true 48 hb24 T rfl rfl rfl rfl ?_
 refine hm.cs (fun hb26 hm => ?_) (fun hb26 hm => ?_)
 refine U.sks 6 13 false 55 hb26 rfl rfl rfl ?_
 refine U.r rfl (.take 6 true 48 _ hb24 rfl rfl rfl) rfl rfl (by exact Rd.pk rfl rfl hb26 rfl) ?_
 refine U.pk hb24 ?_
 refine U.done ?_
 exact St.wn (hJ19 _ hm)
 refine U.pg 3 13 false 55 hb26 T rfl rfl rfl rfl ?_
 obtain ⟨x27, hx27, hm⟩ := hm
 refine U.r rfl (.take 13 false 55 _ hb26 rfl rfl rfl) rfl rfl (by exact Rd.ix T rfl rfl rfl rfl rfl rfl hx27) ?_
 refine U.pg 2 13 false 55 hb26 T rfl rfl rfl rfl ?_
 refine U.r rfl (.take 6 true 48 _ hb24 rfl rfl rfl) rfl rfl (by exact Rd.pk' rfl rfl hb26 rfl) ?_
 refine U.pk hb24 ?_
 refine U.done ?_
 exact St.wn (hJ19 _ hm)
 refine U.sks 7 6 true 48 hb24 rfl rfl rfl ?_
 refine U.sku 6 13 false 55 rfl rfl rfl ?_
 refine U.sks 1 6 true 48 hb24 rfl rfl rfl ?_
 refine U.pk' hb24 ?_
 refine U.done ?_
 exact St.wn (hJ19 _ hm)
 refine U.start ?_
 refine U.ps 3 T rfl ?_
 refine hm.cs (fun hb8 hm => ?_) (fun hb8 hm => ?_)
 refine U.sks 6 2 false 15 hb8 rfl rfl rfl ?_
 refine U.pk hb8 ?_
 refine U.ps 1 T rfl ?_
 refine U.sks 6 10 false 23 rfl rfl rfl rfl ?_
 refine U.pk rfl ?_
 refine U.ps 1 T rfl ?_
 refine U.sks 9 18 false 31 rfl rfl rfl rfl ?_
 refine U.pk rfl ?_
 refine U.done ?_
 exact St.wa [some 0] (hJ7 _ hm)
 refine U.pg 3 2 false 15 hb8 T rfl rfl rfl rfl ?_
 obtain ⟨x9, hx9, hm⟩ := hm
 refine U.r rfl (.take 2 false 15 _ hb8 rfl rfl rfl) rfl rfl (by exact Rd.ix T rfl rfl rfl rfl rfl rfl hx9) ?_
 refine U.pg 2 2 false 15 hb8 T rfl rfl rfl rfl ?_
 refine U.pk' hb8 ?_
 refine U.ps 1 T rfl ?_
 refine hm.cs (fun hb10 hm => ?_) (fun hb10 hm => ?_)
 refine U.sks 6 10 false 23 hb10 rfl rfl rfl ?_
 refine U.pk hb10 ?_
 refine U.ps 1 T rfl ?_
 refine U.sks 9 18 false 31 rfl rfl rfl rfl ?_
 refine U.pk rfl ?_
 refine U.done ?_
 exact St.wa [some 0] (hJ7 _ hm)
 refine U.pg 3 10 false 23 hb10 T rfl rfl rfl rfl ?_
 obtain ⟨x11, hx11, hm⟩ := hm
 refine U.r rfl (.take 10 false 23 _ hb10 rfl rfl rfl) rfl rfl (by exact Rd.ix T rfl rfl rfl rfl rfl rfl hx11) ?_
 refine U.pg 2 10 false 23 hb10 T rfl rfl rfl rfl ?_
 refine U.pk' hb10 ?_
 refine U.ps 1 T rfl ?_
 refine hm.cs (fun hb12 hm => ?_) (fun hb12 hm => ?_)
 refine U.sks 9 18 false 31 hb12 rfl rfl rfl ?_
 refine U.pk hb12 ?_
 refine U.done ?_
 exact St.wa [some 0] (hJ7 _ hm)
 refine U.pg 3 18 false 31 hb12 T rfl rfl rfl rfl ?_
 obtain ⟨x13, hx13, hm⟩ := hm
 refine U.r rfl (.take 18 false 31 _ hb12 rfl rfl rfl) rfl rfl (by exact Rd.ix T rfl rfl rfl rfl rfl rfl hx13) ?_
 refine U.pg 2 18 false 31 hb12 T rfl rfl rfl rfl ?_
 obtain ⟨hx14, hm⟩ := hm
 refine U.r rfl (.take 18 false 31 _ hb12 rfl rfl rfl) rfl rfl (by exact Rd.sh rfl rfl rfl rfl hx14) ?_
 refine U.pg 2 18 false 31 hb12 T rfl rfl rfl rfl ?_
 refine U.pk' hb12 ?_
 refine U.done ?_
 exact St.wa [some 0] (hJ7 _ hm)
theorem T_slices_Index_int_int (s_1 : List Int) (v : Int) (post : Int → Prop) (hm : V_slices_Index_int_int s_1 v post) :
    Tr Tryz.prog 115 [.sl 1 eI s_1, .i v] [] 0 (fun A H' k => ∃ y, post y ∧ A = (.i y) ∧ H' = [] ∧ k = 0) := by
 refine Tr.intro (n := 19) Tryz.func115 rfl Tryz.ntmps115 rfl (fun w0 ok F β hβ => ?_)
 unfold V_slices_Index_int_int at hm
 refine C.seq (U.start ?_)
 refine U.pd 1 T (C.nx (C.seq (C.seq (U.start ?_))))
 refine U.pd 3 T (C.nx ?_)
 refine C.jn (fun (x5 : Unit) => []) (fun (x5 : Unit) => []) 0 hm (fun x5 hm => ?_) (fun J6 hm hJ6 => ?_)
 refine C.nx (C.seq (U.start ?_))
 refine U.pd 1 T (C.nx (C.ret ?_))
 exact C.f1 T hβ ⟨(-1), hm, rfl, rfl, rfl⟩
 refine C.block ?_
 refine St.wk (C.loop (fun (s7 : Int) => [(0, .sl 1 eI s_1), (1, .i v), (7, .i (s_1.length : Int)), (8, .i s7)]) (fun (s7 : Int) => []) hm (fun s7 Y8 hm => ?_)) (Wk.e)
 refine C.seq (U.start ?_)
 refine U.pd 1 T (C.nx (C.seq ?_))
 refine C.ite rfl hm (fun hb11 hm => ?_) (fun hb11 hm => ?_)
 refine C.skip (C.nx (C.seq (C.block (C.seq (U.start ?_)))))
 refine U.pd 2 T (C.nx (C.seq (U.start ?_)))
 refine U.ps 3 T rfl ?_
 obtain ⟨x16, hx16, hm⟩ := hm
 refine U.r rfl (.none rfl) rfl rfl (by exact Rd.ix T rfl rfl rfl rfl rfl rfl hx16) ?_
 refine U.pd 2 T (C.nx ?_)
 refine C.ite rfl hm (fun hb17 hm => ?_) (fun hb17 hm => ?_)
 refine C.seq (U.start ?_)
 refine U.pd 2 T (C.nx (C.ret (C.brt (C.rt (C.rt (C.brt (C.rt ?_)))))))
 exact C.f1 T hβ ⟨s7, hm, rfl, rfl, rfl⟩
 refine C.skip (C.bnx (C.nx (U.start ?_)))
 refine U.pd 2 T (C.nx ?_)
 exact St.wk (C.next hm) (Wk.e)
 refine C.exit (C.ex (C.ex (C.bex ?_)))
 exact St.wk (hJ6 _ hm) (Wk.mk' [] rfl rfl trivial trivial rfl)
theorem T_slices_Contains_int_int (s_1 : List Int) (v : Int) (post : Bool → Prop) (hm : V_slices_Contains_int_int s_1 v post) :
    Tr Tryz.prog 44 [.sl 1 eI s_1, .i v] [] 0 (fun A H' k => ∃ y, post y ∧ A = (.b y) ∧ H' = [] ∧ k = 0) := by
 refine Tr.intro (n := 9) Tryz.func44 rfl Tryz.ntmps44 rfl (fun w0 ok F β hβ => ?_)
 unfold V_slices_Contains_int_int at hm
 refine C.seq (U.start ?_)
 refine U.pd 1 T (C.nx (C.seq (U.start ?_)))
 refine U.ps 2 T rfl ?_
 refine U.k (T_slices_Index_int_int s_1 v _ hm) en115 (fun x5 hm => ?_)
 refine U.pd 2 T (C.nx (C.ret ?_))
 exact C.f1 T hβ ⟨decide (x5 ≥ 0), hm, rfl, rfl, rfl⟩
theorem T_act_move_1 (x_1 : ApiStuck) (c0 : ApiRobot) (c1 : Int) (post : Bool → Prop) (hm : V_act_move_1 x_1 c0 c1 post) :
    Tr Tryz.prog 161 [.agg [.i x_1.Cell, .i x_1.Left], .rp [.i c0.Cell, .i c0.Load, .i c0.Charge, .i c0.Rest, .i c0.Mute, .b c0.Dead], .rp [.i c1]] [] 0 (fun A H' k => ∃ y, post y ∧ A = (.b y) ∧ H' = [] ∧ k = 0) := by
 refine Tr.intro (n := 16) Tryz.func161 rfl Tryz.ntmps161 rfl (fun w0 ok F β hβ => ?_)
 unfold V_act_move_1 at hm
 refine C.seq (U.start ?_)
 refine U.bx ?_
 refine U.pd 1 T (C.nx (C.seq ?_))
 refine C.jn (fun (x3 : Bool) => [(4, .b x3)]) (fun (x3 : Bool) => []) 0 hm (fun x3 hm => ?_) (fun J4 hm hJ4 => ?_)
 refine C.nx (C.ret ?_)
 exact C.f1 T hβ ⟨x3, hm, rfl, rfl, rfl⟩
 refine U.start ?_
 refine U.ps 6 T rfl ?_
 refine hm.cs (fun hb5 hm => ?_) (fun hb5 hm => ?_)
 refine U.sks 4 5 false 10 hb5 rfl rfl rfl ?_
 refine U.pk hb5 ?_
 refine U.pd 1 T ?_
 exact St.wn (hJ4 _ hm)
 refine U.pg 4 5 false 10 hb5 T rfl rfl rfl rfl ?_
 refine U.pk' hb5 ?_
 refine U.pd 1 T ?_
 exact St.wn (hJ4 _ hm)
theorem T_slices_IndexFunc_api_Stuck_api_Stuck__act_move_1 (s_1 : List ApiStuck) (f_c0 : ApiRobot) (f_c1 : Int) (post : Int → Prop) (hm : V_slices_IndexFunc_api_Stuck_api_Stuck__act_move_1 s_1 f_c0 f_c1 post) :
    Tr Tryz.prog 129 [.sl 2 eApiStuck s_1, .fn (.func 161) [] [.rp [.i f_c0.Cell, .i f_c0.Load, .i f_c0.Charge, .i f_c0.Rest, .i f_c0.Mute, .b f_c0.Dead], .rp [.i f_c1]]] [] 0 (fun A H' k => ∃ y, post y ∧ A = (.i y) ∧ H' = [] ∧ k = 0) := by
 refine Tr.intro (n := 19) Tryz.func129 rfl Tryz.ntmps129 rfl (fun w0 ok F β hβ => ?_)
 unfold V_slices_IndexFunc_api_Stuck_api_Stuck__act_move_1 at hm
 refine C.seq (U.start ?_)
 refine U.pd 1 T (C.nx (C.seq (C.seq (U.start ?_))))
 refine U.pd 3 T (C.nx ?_)
 refine C.jn (fun (x5 : Unit) => []) (fun (x5 : Unit) => []) 0 hm (fun x5 hm => ?_) (fun J6 hm hJ6 => ?_)
 refine C.nx (C.seq (U.start ?_))
 refine U.pd 1 T (C.nx (C.ret ?_))
 exact C.f1 T hβ ⟨(-1), hm, rfl, rfl, rfl⟩
 refine C.block ?_
 refine St.wk (C.loop (fun (s7 : Int) => [(0, .sl 2 eApiStuck s_1), (1, .fn (.func 161) [] [.rp [.i f_c0.Cell, .i f_c0.Load, .i f_c0.Charge, .i f_c0.Rest, .i f_c0.Mute, .b f_c0.Dead], .rp [.i f_c1]]), (7, .i (s_1.length : Int)), (8, .i s7)]) (fun (s7 : Int) => []) hm (fun s7 Y8 hm => ?_)) (Wk.e)
 refine C.seq (U.start ?_)
 refine U.pd 1 T (C.nx (C.seq ?_))
 refine C.ite rfl hm (fun hb11 hm => ?_) (fun hb11 hm => ?_)
 refine C.skip (C.nx (C.seq (C.block (C.seq (U.start ?_)))))
 refine U.pd 2 T (C.nx (C.seq (U.start ?_)))
 refine U.ps 3 T rfl ?_
 obtain ⟨x16, hx16, hm⟩ := hm
 refine U.r rfl (.none rfl) rfl rfl (by exact Rd.ix T rfl rfl rfl rfl rfl rfl hx16) ?_
 refine U.ps 1 T rfl ?_
 refine U.k (T_act_move_1 x16 f_c0 f_c1 _ hm) en161 (fun x17 hm => ?_)
 refine U.done (C.nx ?_)
 refine C.ite rfl hm (fun hb18 hm => ?_) (fun hb18 hm => ?_)
 refine C.seq (U.start ?_)
 refine U.pd 2 T (C.nx (C.ret (C.brt (C.rt (C.rt (C.brt (C.rt ?_)))))))
 exact C.f1 T hβ ⟨s7, hm, rfl, rfl, rfl⟩
 refine C.skip (C.bnx (C.nx (U.start ?_)))
 refine U.pd 2 T (C.nx ?_)
 exact St.wk (C.next hm) (Wk.e)
 refine C.exit (C.ex (C.ex (C.bex ?_)))
 exact St.wk (hJ6 _ hm) (Wk.mk' [] rfl rfl trivial trivial rfl)
theorem T_slices_ContainsFunc_api_Stuck_api_Stuck__act_move_1 (s_1 : List ApiStuck) (f_c0 : ApiRobot) (f_c1 : Int) (post : Bool → Prop) (hm : V_slices_ContainsFunc_api_Stuck_api_Stuck__act_move_1 s_1 f_c0 f_c1 post) :
    Tr Tryz.prog 162 [.sl 2 eApiStuck s_1, .fn (.func 161) [] [.rp [.i f_c0.Cell, .i f_c0.Load, .i f_c0.Charge, .i f_c0.Rest, .i f_c0.Mute, .b f_c0.Dead], .rp [.i f_c1]]] [] 0 (fun A H' k => ∃ y, post y ∧ A = (.b y) ∧ H' = [] ∧ k = 0) := by
 refine Tr.intro (n := 9) Tryz.func162 rfl Tryz.ntmps162 rfl (fun w0 ok F β hβ => ?_)
 unfold V_slices_ContainsFunc_api_Stuck_api_Stuck__act_move_1 at hm
 refine C.seq (U.start ?_)
 refine U.pd 1 T (C.nx (C.seq (U.start ?_)))
 refine U.ps 2 T rfl ?_
 refine U.k (T_slices_IndexFunc_api_Stuck_api_Stuck__act_move_1 s_1 f_c0 f_c1 _ hm) en129 (fun x5 hm => ?_)
 refine U.pd 2 T (C.nx (C.ret ?_))
 exact C.f1 T hβ ⟨decide (x5 ≥ 0), hm, rfl, rfl, rfl⟩
theorem T_cmp_isNaN_int (x_1 : Int) (post : Bool → Prop) (hm : V_cmp_isNaN_int x_1 post) :
    Tr Tryz.prog 218 [.i x_1] [] 0 (fun A H' k => ∃ y, post y ∧ A = (.b y) ∧ H' = [] ∧ k = 0) := by
 refine Tr.intro (n := 6) Tryz.func218 rfl Tryz.ntmps218 rfl (fun w0 ok F β hβ => ?_)
 unfold V_cmp_isNaN_int at hm
 refine C.seq (U.start ?_)
 refine U.pd 1 T (C.nx (C.seq (U.start ?_)))
 refine U.pd 4 T (C.nx (C.ret ?_))
 exact C.f1 T hβ ⟨(x_1 != x_1), hm, rfl, rfl, rfl⟩
theorem T_cmp_Less_int (x_1 : Int) (y_1 : Int) (post : Bool → Prop) (hm : V_cmp_Less_int x_1 y_1 post) :
    Tr Tryz.prog 189 [.i x_1, .i y_1] [] 0 (fun A H' k => ∃ y, post y ∧ A = (.b y) ∧ H' = [] ∧ k = 0) := by
 refine Tr.intro (n := 17) Tryz.func189 rfl Tryz.ntmps189 rfl (fun w0 ok F β hβ => ?_)
 unfold V_cmp_Less_int at hm
 refine C.seq (U.start ?_)
 refine U.pd 1 T (C.nx (C.seq ?_))
 refine C.jn (fun (x3 : Bool) => [(4, .b x3)]) (fun (x3 : Bool) => []) 0 hm (fun x3 hm => ?_) (fun J4 hm hJ4 => ?_)
 refine C.nx (C.ret ?_)
 exact C.f1 T hβ ⟨x3, hm, rfl, rfl, rfl⟩
 refine U.start ?_
 refine U.ps 1 T rfl ?_
 refine U.k (T_cmp_isNaN_int x_1 _ hm) en218 (fun x5 hm => ?_)
 refine U.ps 1 T rfl ?_
 refine hm.cs (fun hb6 hm => ?_) (fun hb6 hm => ?_)
 refine U.pg 1 2 true 7 hb6 T rfl rfl rfl rfl ?_
 refine U.k (T_cmp_isNaN_int y_1 _ hm) en218 (fun x7 hm => ?_) (hw := .take 2 true 7 _ hb6 rfl rfl rfl)
 refine U.pg 1 2 true 7 hb6 T rfl rfl rfl rfl ?_
 refine U.pk hb6 ?_
 refine U.ps 1 T rfl ?_
 refine hm.cs (fun hb8 hm => ?_) (fun hb8 hm => ?_)
 refine U.pg 3 7 false 12 (ntF hb8) T rfl rfl rfl rfl ?_
 refine U.r rfl (.none rfl) rfl rfl (by exact Rd.pk' rfl rfl (ntF hb8) rfl) ?_
 refine U.pd 1 T ?_
 exact St.wn (hJ4 _ hm)
 refine U.sks 3 7 false 12 (ntT hb8) rfl rfl rfl ?_
 refine U.r rfl (.none rfl) rfl rfl (by exact Rd.pk rfl rfl (ntT hb8) rfl) ?_
 refine U.pd 1 T ?_
 exact St.wn (hJ4 _ hm)
 refine U.sks 3 2 true 7 hb6 rfl rfl rfl ?_
 refine U.pk' hb6 ?_
 refine U.ps 1 T rfl ?_
 refine U.pg 3 7 false 12 rfl T rfl rfl rfl rfl ?_
 refine U.pk' rfl ?_
 refine U.pd 1 T ?_
 exact St.wn (hJ4 _ hm)
theorem T_slices_isNaN_int (x_1 : Int) (post : Bool → Prop) (hm : V_slices_isNaN_int x_1 post) :
    Tr Tryz.prog 224 [.i x_1] [] 0 (fun A H' k => ∃ y, post y ∧ A = (.b y) ∧ H' = [] ∧ k = 0) := by
 refine Tr.intro (n := 6) Tryz.func224 rfl Tryz.ntmps224 rfl (fun w0 ok F β hβ => ?_)
 unfold V_slices_isNaN_int at hm
 refine C.seq (U.start ?_)
 refine U.pd 1 T (C.nx (C.seq (U.start ?_)))
 refine U.pd 4 T (C.nx (C.ret ?_))
 exact C.f1 T hβ ⟨(x_1 != x_1), hm, rfl, rfl, rfl⟩
theorem T_slices_BinarySearch_int_int (x_1 : List Int) (target : Int) (post : (Int × Bool) → Prop) (hm : V_slices_BinarySearch_int_int x_1 target post) :
    Tr Tryz.prog 209 [.sl 1 eI x_1, .i target] [] 0 (fun A H' k => ∃ y, post y ∧ A = (.tup [.i y.1, .b y.2]) ∧ H' = [] ∧ k = 0) := by
 refine Tr.intro (n := 54) Tryz.func209 rfl Tryz.ntmps209 rfl (fun w0 ok F β hβ => ?_)
 unfold V_slices_BinarySearch_int_int at hm
 refine C.seq (U.start ?_)
 refine U.pd 2 T (C.nx (C.seq (U.start ?_)))
 refine U.pd 3 T (C.nx (C.seq (U.start ?_)))
 refine U.pd 3 T (C.nx (C.seq ?_))
 refine C.jn (fun (x7 : Int) => [(0, .sl 1 eI x_1), (1, .i target), (6, .i (x_1.length : Int)), (7, .i x7)]) (fun (x7 : Int) => []) 0 hm (fun x7 hm => ?_) (fun J8 hm hJ8 => ?_)
 refine C.nx (C.seq ?_)
 refine C.jn (fun (x28 : Bool) => [(4, .i x7), (5, .b x28)]) (fun (x28 : Bool) => []) 0 hm (fun x28 hm => ?_) (fun J29 hm hJ29 => ?_)
 refine C.nx (C.ret ?_)
 exact C.f9 T hβ ⟨(x7, x28), hm, rfl, rfl, rfl⟩
 refine U.start ?_
 refine U.ps 5 T rfl ?_
 refine hm.cs (fun hb30 hm => ?_) (fun hb30 hm => ?_)
 refine U.pg 2 4 true 35 hb30 T rfl rfl rfl rfl ?_
 obtain ⟨x31, hx31, hm⟩ := hm
 refine U.r rfl (.take 4 true 35 _ hb30 rfl rfl rfl) rfl rfl (by exact Rd.ix T rfl rfl rfl rfl rfl rfl hx31) ?_
 refine U.pg 4 4 true 35 hb30 T rfl rfl rfl rfl ?_
 refine hm.cs (fun hb32 hm => ?_) (fun hb32 hm => ?_)
 refine U.sks 6 11 false 42 hb32 rfl rfl rfl ?_
 refine U.sku 2 17 true 48 rfl rfl rfl ?_
 refine U.sks 1 11 false 42 hb32 rfl rfl rfl ?_
 refine U.r rfl (.take 4 true 35 _ hb30 rfl rfl rfl) rfl rfl (by exact Rd.pk rfl rfl hb32 rfl) ?_
 refine U.pk hb30 ?_
 refine U.pd 2 T ?_
 exact St.wn (hJ29 _ hm)
 refine U.pg 2 11 false 42 hb32 T rfl rfl rfl rfl ?_
 refine U.r rfl (.take 11 false 42 _ hb32 rfl rfl rfl) rfl rfl (by exact Rd.ix T rfl rfl rfl rfl rfl rfl hx31) ?_
 refine U.pg 1 11 false 42 hb32 T rfl rfl rfl rfl ?_
 refine U.k (T_slices_isNaN_int x31 _ hm) en224 (fun x33 hm => ?_) (hw := .take 11 false 42 _ hb32 rfl rfl rfl)
 refine U.pg 1 11 false 42 hb32 T rfl rfl rfl rfl ?_
 refine hm.cs (fun hb34 hm => ?_) (fun hb34 hm => ?_)
 refine U.pg 1 17 true 48 hb34 T rfl rfl rfl rfl ?_
 refine U.k (T_slices_isNaN_int target _ hm) en224 (fun x35 hm => ?_) (hw := .take 17 true 48 _ hb34 rfl rfl rfl)
 refine U.r rfl (.take 11 false 42 _ hb32 rfl rfl rfl) rfl rfl (by exact Rd.pk rfl rfl hb34 rfl) ?_
 refine U.r rfl (.take 4 true 35 _ hb30 rfl rfl rfl) rfl rfl (by exact Rd.pk' rfl rfl hb32 rfl) ?_
 refine U.pk hb30 ?_
 refine U.pd 2 T ?_
 exact St.wn (hJ29 _ hm)
 refine U.sks 2 17 true 48 hb34 rfl rfl rfl ?_
 refine U.r rfl (.take 11 false 42 _ hb32 rfl rfl rfl) rfl rfl (by exact Rd.pk' rfl rfl hb34 rfl) ?_
 refine U.r rfl (.take 4 true 35 _ hb30 rfl rfl rfl) rfl rfl (by exact Rd.pk' rfl rfl hb32 rfl) ?_
 refine U.pk hb30 ?_
 refine U.pd 2 T ?_
 exact St.wn (hJ29 _ hm)
 refine U.sks 7 4 true 35 hb30 rfl rfl rfl ?_
 refine U.sku 6 11 false 42 rfl rfl rfl ?_
 refine U.sku 2 17 true 48 rfl rfl rfl ?_
 refine U.sku 1 11 false 42 rfl rfl rfl ?_
 refine U.sks 1 4 true 35 hb30 rfl rfl rfl ?_
 refine U.pk' hb30 ?_
 refine U.pd 2 T ?_
 exact St.wn (hJ29 _ hm)
 refine C.block ?_
 refine St.wk (C.loop (fun (s9 : Int × Int) => [(0, .sl 1 eI x_1), (1, .i target), (6, .i (x_1.length : Int)), (7, .i s9.1), (8, .i s9.2)]) (fun (s9 : Int × Int) => []) hm (fun s9 Y10 hm => ?_)) (Wk.e)
 refine C.seq (C.seq (U.start ?_))
 refine U.pd 3 T (C.nx ?_)
 refine C.ite rfl hm (fun hb13 hm => ?_) (fun hb13 hm => ?_)
 refine C.skip (C.nx (C.block (C.seq (U.start ?_))))
 refine U.ps 4 T rfl ?_
 refine U.r rfl (.none rfl) rfl rfl (by exact Rd.sh rfl rfl rfl rfl (by decide)) ?_
 refine U.pd 2 T (C.nx (C.seq (U.start ?_)))
 refine U.ps 2 T rfl ?_
 obtain ⟨x19, hx19, hm⟩ := hm
 refine U.r rfl (.none rfl) rfl rfl (by exact Rd.ix T rfl rfl rfl rfl rfl rfl hx19) ?_
 refine U.ps 2 T rfl ?_
 refine U.k (T_cmp_Less_int x19 target _ hm) en189 (fun x20 hm => ?_)
 refine U.done (C.nx ?_)
 refine C.jn (fun (x21 : Int × Int) => [(0, .sl 1 eI x_1), (1, .i target), (6, .i (x_1.length : Int)), (7, .i x21.1), (8, .i x21.2)]) (fun (x21 : Int × Int) => []) 0 hm (fun x21 hm => ?_) (fun J22 hm hJ22 => ?_)
 refine C.bnx (C.nx ?_)
 exact St.wk (C.next hm) (Wk.e)
 refine C.ite rfl hm (fun hb23 hm => ?_) (fun hb23 hm => ?_)
 refine U.start ?_
 refine U.pd 3 T ?_
 exact St.wn (hJ22 _ hm)
 refine U.start ?_
 refine U.pd 2 T ?_
 exact St.wn (hJ22 _ hm)
 refine C.exit (C.ex (C.ex (C.bex ?_)))
 exact St.wn (hJ8 _ hm)
theorem T_rules_ZoneOf_1 (z : ApiZone) (c0 : Int) (post : Bool → Prop) (hm : V_rules_ZoneOf_1 z c0 post) :
    Tr Tryz.prog 208 [.agg (eApiZone z), .rp [.i c0]] [] 0 (fun A H' k => ∃ y, post y ∧ A = (.b y) ∧ H' = [] ∧ k = 0) := by
 refine Tr.intro (n := 14) Tryz.func208 rfl Tryz.ntmps208 rfl (fun w0 ok F β hβ => ?_)
 unfold V_rules_ZoneOf_1 at hm
 refine C.seq (U.start ?_)
 refine U.bx ?_
 refine U.pd 1 T (C.nx (C.seq (U.start ?_)))
 refine U.ps 3 T rfl ?_
 refine U.k (T_slices_BinarySearch_int_int z.Cells c0 _ hm) en209 (fun x5 hm => ?_)
 refine U.pd 5 T (C.nx (C.seq (U.start ?_)))
 refine U.pd 2 T (C.nx (C.ret ?_))
 exact C.f1 T hβ ⟨x5.2, hm, rfl, rfl, rfl⟩
theorem T_slices_IndexFunc_api_Zone_api_Zone__rules_ZoneOf_1 (s_1 : List ApiZone) (f_c0 : Int) (post : Int → Prop) (hm : V_slices_IndexFunc_api_Zone_api_Zone__rules_ZoneOf_1 s_1 f_c0 post) :
    Tr Tryz.prog 144 [.sl 5 eApiZone s_1, .fn (.func 208) [] [.rp [.i f_c0]]] [] 0 (fun A H' k => ∃ y, post y ∧ A = (.i y) ∧ H' = [] ∧ k = 0) := by
 refine Tr.intro (n := 19) Tryz.func144 rfl Tryz.ntmps144 rfl (fun w0 ok F β hβ => ?_)
 unfold V_slices_IndexFunc_api_Zone_api_Zone__rules_ZoneOf_1 at hm
 refine C.seq (U.start ?_)
 refine U.pd 1 T (C.nx (C.seq (C.seq (U.start ?_))))
 refine U.pd 3 T (C.nx ?_)
 refine C.jn (fun (x5 : Unit) => []) (fun (x5 : Unit) => []) 0 hm (fun x5 hm => ?_) (fun J6 hm hJ6 => ?_)
 refine C.nx (C.seq (U.start ?_))
 refine U.pd 1 T (C.nx (C.ret ?_))
 exact C.f1 T hβ ⟨(-1), hm, rfl, rfl, rfl⟩
 refine C.block ?_
 refine St.wk (C.loop (fun (s7 : Int) => [(0, .sl 5 eApiZone s_1), (1, .fn (.func 208) [] [.rp [.i f_c0]]), (7, .i (s_1.length : Int)), (8, .i s7)]) (fun (s7 : Int) => []) hm (fun s7 Y8 hm => ?_)) (Wk.e)
 refine C.seq (U.start ?_)
 refine U.pd 1 T (C.nx (C.seq ?_))
 refine C.ite rfl hm (fun hb11 hm => ?_) (fun hb11 hm => ?_)
 refine C.skip (C.nx (C.seq (C.block (C.seq (U.start ?_)))))
 refine U.pd 2 T (C.nx (C.seq (U.start ?_)))
 refine U.ps 3 T rfl ?_
 obtain ⟨x16, hx16, hm⟩ := hm
 refine U.r rfl (.none rfl) rfl rfl (by exact Rd.ix T rfl rfl rfl rfl rfl rfl hx16) ?_
 refine U.ps 1 T rfl ?_
 refine U.k (T_rules_ZoneOf_1 x16 f_c0 _ hm) en208 (fun x17 hm => ?_)
 refine U.done (C.nx ?_)
 refine C.ite rfl hm (fun hb18 hm => ?_) (fun hb18 hm => ?_)
 refine C.seq (U.start ?_)
 refine U.pd 2 T (C.nx (C.ret (C.brt (C.rt (C.rt (C.brt (C.rt ?_)))))))
 exact C.f1 T hβ ⟨s7, hm, rfl, rfl, rfl⟩
 refine C.skip (C.bnx (C.nx (U.start ?_)))
 refine U.pd 2 T (C.nx ?_)
 exact St.wk (C.next hm) (Wk.e)
 refine C.exit (C.ex (C.ex (C.bex ?_)))
 exact St.wk (hJ6 _ hm) (Wk.mk' [] rfl rfl trivial trivial rfl)
theorem T_rules_ZoneOf (s_1 : ApiSite) (c : Int) (post : Int → Prop) (hm : V_rules_ZoneOf s_1 c post) :
    Tr Tryz.prog 169 [.agg (eApiSite s_1), .i c] [] 0 (fun A H' k => ∃ y, post y ∧ A = (.i y) ∧ H' = [] ∧ k = 0) := by
 refine Tr.intro (n := 9) Tryz.func169 rfl Tryz.ntmps169 rfl (fun w0 ok F β hβ => ?_)
 unfold V_rules_ZoneOf at hm
 refine C.seq (U.start ?_)
 refine U.bx ?_
 refine U.bx ?_
 refine U.pd 1 T (C.nx (C.seq (U.start ?_)))
 refine U.ps 3 T rfl ?_
 refine U.k (T_slices_IndexFunc_api_Zone_api_Zone__rules_ZoneOf_1 s_1.Zones c _ hm) en144 (fun x5 hm => ?_)
 refine U.pd 1 T (C.nx (C.ret ?_))
 exact C.f1 T hβ ⟨x5, hm, rfl, rfl, rfl⟩
theorem T_rules_isCell (s_1 : ApiSite) (c : Int) (post : Bool → Prop) (hm : V_rules_isCell s_1 c post) :
    Tr Tryz.prog 202 [.agg (eApiSite s_1), .i c] [] 0 (fun A H' k => ∃ y, post y ∧ A = (.b y) ∧ H' = [] ∧ k = 0) := by
 refine Tr.intro (n := 15) Tryz.func202 rfl Tryz.ntmps202 rfl (fun w0 ok F β hβ => ?_)
 unfold V_rules_isCell at hm
 refine C.seq (U.start ?_)
 refine U.bx ?_
 refine U.pd 1 T (C.nx (C.seq ?_))
 refine C.jn (fun (x3 : Bool) => [(4, .b x3)]) (fun (x3 : Bool) => []) 0 hm (fun x3 hm => ?_) (fun J4 hm hJ4 => ?_)
 refine C.nx (C.ret ?_)
 exact C.f1 T hβ ⟨x3, hm, rfl, rfl, rfl⟩
 refine U.start ?_
 refine U.ps 3 T rfl ?_
 refine hm.cs (fun hb5 hm => ?_) (fun hb5 hm => ?_)
 refine U.pg 6 2 true 7 hb5 T rfl rfl rfl rfl ?_
 refine U.pk hb5 ?_
 refine U.pd 1 T ?_
 exact St.wn (hJ4 _ hm)
 refine U.sks 6 2 true 7 hb5 rfl rfl rfl ?_
 refine U.pk' hb5 ?_
 refine U.pd 1 T ?_
 exact St.wn (hJ4 _ hm)
theorem T_rules_Open_1 (x_1 : ApiSpan) (c0 : Int) (post : Bool → Prop) (hm : V_rules_Open_1 x_1 c0 post) :
    Tr Tryz.prog 204 [.agg [.i x_1.From, .i x_1.To], .rp [.i c0]] [] 0 (fun A H' k => ∃ y, post y ∧ A = (.b y) ∧ H' = [] ∧ k = 0) := by
 refine Tr.intro (n := 14) Tryz.func204 rfl Tryz.ntmps204 rfl (fun w0 ok F β hβ => ?_)
 unfold V_rules_Open_1 at hm
 refine C.seq (U.start ?_)
 refine U.bx ?_
 refine U.pd 1 T (C.nx (C.seq ?_))
 refine C.jn (fun (x3 : Bool) => [(3, .b x3)]) (fun (x3 : Bool) => []) 0 hm (fun x3 hm => ?_) (fun J4 hm hJ4 => ?_)
 refine C.nx (C.ret ?_)
 exact C.f1 T hβ ⟨x3, hm, rfl, rfl, rfl⟩
 refine U.start ?_
 refine U.ps 5 T rfl ?_
 refine hm.cs (fun hb5 hm => ?_) (fun hb5 hm => ?_)
 refine U.pg 4 4 true 8 hb5 T rfl rfl rfl rfl ?_
 refine U.pk hb5 ?_
 refine U.pd 1 T ?_
 exact St.wn (hJ4 _ hm)
 refine U.sks 4 4 true 8 hb5 rfl rfl rfl ?_
 refine U.pk' hb5 ?_
 refine U.pd 1 T ?_
 exact St.wn (hJ4 _ hm)
theorem T_slices_IndexFunc_api_Span_api_Span__rules_Open_1 (s_1 : List ApiSpan) (f_c0 : Int) (post : Int → Prop) (hm : V_slices_IndexFunc_api_Span_api_Span__rules_Open_1 s_1 f_c0 post) :
    Tr Tryz.prog 222 [.sl 2 eApiSpan s_1, .fn (.func 204) [] [.rp [.i f_c0]]] [] 0 (fun A H' k => ∃ y, post y ∧ A = (.i y) ∧ H' = [] ∧ k = 0) := by
 refine Tr.intro (n := 19) Tryz.func222 rfl Tryz.ntmps222 rfl (fun w0 ok F β hβ => ?_)
 unfold V_slices_IndexFunc_api_Span_api_Span__rules_Open_1 at hm
 refine C.seq (U.start ?_)
 refine U.pd 1 T (C.nx (C.seq (C.seq (U.start ?_))))
 refine U.pd 3 T (C.nx ?_)
 refine C.jn (fun (x5 : Unit) => []) (fun (x5 : Unit) => []) 0 hm (fun x5 hm => ?_) (fun J6 hm hJ6 => ?_)
 refine C.nx (C.seq (U.start ?_))
 refine U.pd 1 T (C.nx (C.ret ?_))
 exact C.f1 T hβ ⟨(-1), hm, rfl, rfl, rfl⟩
 refine C.block ?_
 refine St.wk (C.loop (fun (s7 : Int) => [(0, .sl 2 eApiSpan s_1), (1, .fn (.func 204) [] [.rp [.i f_c0]]), (7, .i (s_1.length : Int)), (8, .i s7)]) (fun (s7 : Int) => []) hm (fun s7 Y8 hm => ?_)) (Wk.e)
 refine C.seq (U.start ?_)
 refine U.pd 1 T (C.nx (C.seq ?_))
 refine C.ite rfl hm (fun hb11 hm => ?_) (fun hb11 hm => ?_)
 refine C.skip (C.nx (C.seq (C.block (C.seq (U.start ?_)))))
 refine U.pd 2 T (C.nx (C.seq (U.start ?_)))
 refine U.ps 3 T rfl ?_
 obtain ⟨x16, hx16, hm⟩ := hm
 refine U.r rfl (.none rfl) rfl rfl (by exact Rd.ix T rfl rfl rfl rfl rfl rfl hx16) ?_
 refine U.ps 1 T rfl ?_
 refine U.k (T_rules_Open_1 x16 f_c0 _ hm) en204 (fun x17 hm => ?_)
 refine U.done (C.nx ?_)
 refine C.ite rfl hm (fun hb18 hm => ?_) (fun hb18 hm => ?_)
 refine C.seq (U.start ?_)
 refine U.pd 2 T (C.nx (C.ret (C.brt (C.rt (C.rt (C.brt (C.rt ?_)))))))
 exact C.f1 T hβ ⟨s7, hm, rfl, rfl, rfl⟩
 refine C.skip (C.bnx (C.nx (U.start ?_)))
 refine U.pd 2 T (C.nx ?_)
 exact St.wk (C.next hm) (Wk.e)
 refine C.exit (C.ex (C.ex (C.bex ?_)))
 exact St.wk (hJ6 _ hm) (Wk.mk' [] rfl rfl trivial trivial rfl)
theorem T_slices_ContainsFunc_api_Span_api_Span__rules_Open_1 (s_1 : List ApiSpan) (f_c0 : Int) (post : Bool → Prop) (hm : V_slices_ContainsFunc_api_Span_api_Span__rules_Open_1 s_1 f_c0 post) :
    Tr Tryz.prog 203 [.sl 2 eApiSpan s_1, .fn (.func 204) [] [.rp [.i f_c0]]] [] 0 (fun A H' k => ∃ y, post y ∧ A = (.b y) ∧ H' = [] ∧ k = 0) := by
 refine Tr.intro (n := 9) Tryz.func203 rfl Tryz.ntmps203 rfl (fun w0 ok F β hβ => ?_)
 unfold V_slices_ContainsFunc_api_Span_api_Span__rules_Open_1 at hm
 refine C.seq (U.start ?_)
 refine U.pd 1 T (C.nx (C.seq (U.start ?_)))
 refine U.ps 2 T rfl ?_
 refine U.k (T_slices_IndexFunc_api_Span_api_Span__rules_Open_1 s_1 f_c0 _ hm) en222 (fun x5 hm => ?_)
 refine U.pd 2 T (C.nx (C.ret ?_))
 exact C.f1 T hβ ⟨decide (x5 ≥ 0), hm, rfl, rfl, rfl⟩
theorem T_rules_Open (s_1 : ApiSite) (c : Int) (tick : Int) (post : Bool → Prop) (hm : V_rules_Open s_1 c tick post) :
    Tr Tryz.prog 163 [.agg (eApiSite s_1), .i c, .i tick] [] 0 (fun A H' k => ∃ y, post y ∧ A = (.b y) ∧ H' = [] ∧ k = 0) := by
 refine Tr.intro (n := 31) Tryz.func163 rfl Tryz.ntmps163 rfl (fun w0 ok F β hβ => ?_)
 unfold V_rules_Open at hm
 refine C.seq (U.start ?_)
 refine U.bx ?_
 refine U.bx ?_
 refine U.pd 1 T (C.nx (C.seq (U.start ?_)))
 refine U.ps 2 T rfl ?_
 refine U.k (T_rules_ZoneOf s_1 c _ hm) en169 (fun x5 hm => ?_)
 refine U.pd 1 T (C.nx (C.seq (C.seq ?_)))
 refine C.jn (fun (x6 : Bool) => [(1, .i c), (3, .p 0 0), (5, .p 1 0), (7, .i x5), (18, .b x6)]) (fun (x6 : Bool) => [(0, .box (eApiSite s_1)), (1, .box [.i tick])]) 2 hm (fun x6 hm => ?_) (fun J7 hm hJ7 => ?_)
 refine C.nx ?_
 refine C.ite rfl hm (fun hb10 hm => ?_) (fun hb10 hm => ?_)
 refine C.seq (U.start ?_)
 refine U.ps 2 T rfl ?_
 refine U.k (T_rules_isCell s_1 c _ hm) en202 (fun x13 hm => ?_)
 refine U.pd 1 T (C.nx (C.ret (C.rt ?_)))
 exact C.f1 T hβ ⟨x13, hm, rfl, rfl, rfl⟩
 refine C.skip (C.nx (C.seq (U.start ?_)))
 refine U.ps 3 T rfl ?_
 obtain ⟨x16, hx16, hm⟩ := hm
 refine U.r rfl (.none rfl) rfl rfl (by exact Rd.ix T rfl rfl rfl rfl rfl rfl hx16) ?_
 refine U.ps 3 T rfl ?_
 refine U.k (T_slices_ContainsFunc_api_Span_api_Span__rules_Open_1 x16.Shut tick _ hm) en203 (fun x17 hm => ?_)
 refine U.pd 2 T (C.nx (C.ret ?_))
 exact C.f1 T hβ ⟨!x17, hm, rfl, rfl, rfl⟩
 refine U.start ?_
 refine U.ps 2 T rfl ?_
 refine U.k (T_rules_isCell s_1 c _ hm) en202 (fun x8 hm => ?_)
 refine U.ps 2 T rfl ?_
 refine hm.cs (fun hb9 hm => ?_) (fun hb9 hm => ?_)
 refine U.pg 2 4 false 15 (ntF hb9) T rfl rfl rfl rfl ?_
 refine U.r rfl (.none rfl) rfl rfl (by exact Rd.pk' rfl rfl (ntF hb9) rfl) ?_
 refine U.done ?_
 exact St.wa (idR 2) (hJ7 _ hm)
 refine U.sks 2 4 false 15 (ntT hb9) rfl rfl rfl ?_
 refine U.r rfl (.none rfl) rfl rfl (by exact Rd.pk rfl rfl (ntT hb9) rfl) ?_
 refine U.done ?_
 exact St.wa (idR 2) (hJ7 _ hm)
theorem T_body_Low (c : Int) (post : Int → Prop) (hm : V_body_Low c post) :
    Tr Tryz.prog 117 [.i c] [] 0 (fun A H' k => ∃ y, post y ∧ A = (.i y) ∧ H' = [] ∧ k = 0) := by
 refine Tr.intro (n := 5) Tryz.func117 rfl Tryz.ntmps117 rfl (fun w0 ok F β hβ => ?_)
 unfold V_body_Low at hm
 refine C.seq (U.start ?_)
 refine U.pd 1 T (C.nx (C.seq (U.start ?_)))
 refine U.pd 3 T (C.nx (C.ret ?_))
 exact C.f1 T hβ ⟨w64 (2 * c), hm, rfl, rfl, rfl⟩
theorem T_body_High (c : Int) (post : Int → Prop) (hm : V_body_High c post) :
    Tr Tryz.prog 118 [.i c] [] 0 (fun A H' k => ∃ y, post y ∧ A = (.i y) ∧ H' = [] ∧ k = 0) := by
 refine Tr.intro (n := 6) Tryz.func118 rfl Tryz.ntmps118 rfl (fun w0 ok F β hβ => ?_)
 unfold V_body_High at hm
 refine C.seq (U.start ?_)
 refine U.pd 1 T (C.nx (C.seq (U.start ?_)))
 refine U.pd 4 T (C.nx (C.ret ?_))
 exact C.f1 T hβ ⟨w64 ((w64 (2 * c)) + 1), hm, rfl, rfl, rfl⟩
theorem T_body_at (r : ApiRobot) (c : Int) (post : (List Int) → Prop) (hm : V_body_at r c post) :
    Tr Tryz.prog 82 [.agg (eApiRobot r), .i c] [] 0 (fun A H' k => ∃ y, post y ∧ A = (.o 0) ∧ H' = [(0, .val (.os 1 eI y))] ∧ k = 1) := by
 refine Tr.intro (n := 16) Tryz.func82 rfl Tryz.ntmps82 rfl (fun w0 ok F β hβ => ?_)
 unfold V_body_at at hm
 refine C.seq (U.start ?_)
 refine U.bx ?_
 refine U.pd 1 T (C.nx (C.seq (C.seq (U.start ?_))))
 refine U.pd 3 T (C.nx ?_)
 refine C.ite rfl hm (fun hb5 hm => ?_) (fun hb5 hm => ?_)
 refine C.seq (U.start ?_)
 refine U.ps 1 T rfl ?_
 refine U.k (T_body_Low c _ hm) en117 (fun x8 hm => ?_)
 refine U.ps 1 T rfl ?_
 refine U.k (T_body_High c _ hm) en118 (fun x9 hm => ?_)
 refine U.e1 rfl (.none rfl) (by exact Eff1.bs T (enc := eI) (xs := ([x8, x9] : List Int)) rfl rfl rfl rfl rfl rfl rfl rfl rfl rfl (fun _ _ => rfl) rfl rfl) ?_
 refine U.pd 1 T (C.nx (C.ret (C.rt ?_)))
 exact C.g1 [some 1] T hβ ⟨([x8, x9] : List Int), hm, rfl, rfl, rfl⟩
 refine C.skip (C.nx (C.seq (U.start ?_)))
 refine U.ps 1 T rfl ?_
 refine U.k (T_body_Low c _ hm) en117 (fun x12 hm => ?_)
 refine U.e1 rfl (.none rfl) (by exact Eff1.bs T (enc := eI) (xs := ([x12] : List Int)) rfl rfl rfl rfl rfl rfl rfl rfl rfl rfl (fun _ _ => rfl) rfl rfl) ?_
 refine U.pd 1 T (C.nx (C.ret ?_))
 exact C.g1 [some 1] T hβ ⟨([x12] : List Int), hm, rfl, rfl, rfl⟩
theorem T_body_Robot (st : ApiState) (i : Int) (post : (List Int) → Prop) (hm : V_body_Robot st i post) :
    Tr Tryz.prog 146 [.agg (eApiState st), .i i] [] 0 (fun A H' k => ∃ y, post y ∧ A = (.o 0) ∧ H' = [(0, .val (.os 1 eI y))] ∧ k = 1) := by
 refine Tr.intro (n := 26) Tryz.func146 rfl Tryz.ntmps146 rfl (fun w0 ok F β hβ => ?_)
 unfold V_body_Robot at hm
 refine C.seq (U.start ?_)
 refine U.bx ?_
 refine U.pd 1 T (C.nx (C.seq (C.seq ?_)))
 refine C.jn (fun (x3 : Bool) => [(1, .i i), (2, .p 0 0), (13, .b x3)]) (fun (x3 : Bool) => [(0, .box (eApiState st))]) 1 hm (fun x3 hm => ?_) (fun J4 hm hJ4 => ?_)
 refine C.nx ?_
 refine C.ite rfl hm (fun hb6 hm => ?_) (fun hb6 hm => ?_)
 refine C.seq (U.start ?_)
 refine U.pd 1 T (C.nx (C.ret (C.rt ?_)))
 exact C.g1 [none] T hβ ⟨[], hm, rfl, rfl, rfl⟩
 refine C.skip (C.nx (C.seq ?_))
 refine D.beg 9999 [0] [] mix rfl rfl (by kernel_rfl) (by repeat (first | exact NoPanicQ.body | exact NoPanicQ.rnd | refine NoPanicQ.th ?_ | refine NoPanicQ.blk ?_ | refine NoPanicQ.ng ?_)) (fun hQ hS ws M' => ?_)
 refine D.ps 3 [(0, []), (1, []), (2, [])] rfl hQ hS T rfl rfl (by kernel_rfl) ?_
 obtain ⟨x11, hx11, hm⟩ := hm
 refine D.q 3 [] hQ hS rfl (.none rfl) rfl rfl (by exact Rd.ix T rfl rfl rfl rfl rfl rfl hx11) rfl (by kernel_rfl) ?_
 refine D.ps 4 [(4, []), (5, []), (6, []), (7, [])] rfl hQ hS T rfl rfl (by kernel_rfl) ?_
 refine D.q 8 [] hQ hS rfl (.none rfl) rfl rfl (by exact Rd.ix T rfl rfl rfl rfl rfl rfl hx11) rfl (by kernel_rfl) ?_
 refine D.ps 2 [(9, []), (10, [])] rfl hQ hS T rfl rfl (by kernel_rfl) ?_
 refine D.k 11 (T_body_at x11 x11.Cell _ hm) en82 (fun x12 hm => ?_)
 refine D.ps 1 [(12, [])] rfl hQ hS T rfl rfl (by kernel_rfl) ?_
 refine D.done (by kernel_rfl) ?_
 refine C.nx (C.ret ?_)
 exact C.g1 [some 1] T hβ ⟨x12, hm, rfl, rfl, rfl⟩
 refine U.start ?_
 refine U.ps 3 T rfl ?_
 refine hm.cs (fun hb5 hm => ?_) (fun hb5 hm => ?_)
 refine U.sks 5 2 false 7 hb5 rfl rfl rfl ?_
 refine U.pk hb5 ?_
 refine U.done ?_
 exact St.wa [some 0] (hJ4 _ hm)
 refine U.pg 5 2 false 7 hb5 T rfl rfl rfl rfl ?_
 refine U.pk' hb5 ?_
 refine U.done ?_
 exact St.wa [some 0] (hJ4 _ hm)
theorem T_body_Carrier_1 (r : ApiRobot) (c0 : Int) (post : Bool → Prop) (hm : V_body_Carrier_1 r c0 post) :
    Tr Tryz.prog 84 [.agg (eApiRobot r), .rp [.i c0]] [] 0 (fun A H' k => ∃ y, post y ∧ A = (.b y) ∧ H' = [] ∧ k = 0) := by
 refine Tr.intro (n := 8) Tryz.func84 rfl Tryz.ntmps84 rfl (fun w0 ok F β hβ => ?_)
 unfold V_body_Carrier_1 at hm
 refine C.seq (U.start ?_)
 refine U.bx ?_
 refine U.pd 1 T (C.nx (C.seq (U.start ?_)))
 refine U.pd 5 T (C.nx (C.ret ?_))
 exact C.f1 T hβ ⟨(r.Load == c0), hm, rfl, rfl, rfl⟩
theorem T_slices_IndexFunc_api_Robot_api_Robot__body_Carrier_1 (s_1 : List ApiRobot) (f_c0 : Int) (post : Int → Prop) (hm : V_slices_IndexFunc_api_Robot_api_Robot__body_Carrier_1 s_1 f_c0 post) :
    Tr Tryz.prog 83 [.sl 6 eApiRobot s_1, .fn (.func 84) [] [.rp [.i f_c0]]] [] 0 (fun A H' k => ∃ y, post y ∧ A = (.i y) ∧ H' = [] ∧ k = 0) := by
 refine Tr.intro (n := 19) Tryz.func83 rfl Tryz.ntmps83 rfl (fun w0 ok F β hβ => ?_)
 unfold V_slices_IndexFunc_api_Robot_api_Robot__body_Carrier_1 at hm
 refine C.seq (U.start ?_)
 refine U.pd 1 T (C.nx (C.seq (C.seq (U.start ?_))))
 refine U.pd 3 T (C.nx ?_)
 refine C.jn (fun (x5 : Unit) => []) (fun (x5 : Unit) => []) 0 hm (fun x5 hm => ?_) (fun J6 hm hJ6 => ?_)
 refine C.nx (C.seq (U.start ?_))
 refine U.pd 1 T (C.nx (C.ret ?_))
 exact C.f1 T hβ ⟨(-1), hm, rfl, rfl, rfl⟩
 refine C.block ?_
 refine St.wk (C.loop (fun (s7 : Int) => [(0, .sl 6 eApiRobot s_1), (1, .fn (.func 84) [] [.rp [.i f_c0]]), (7, .i (s_1.length : Int)), (8, .i s7)]) (fun (s7 : Int) => []) hm (fun s7 Y8 hm => ?_)) (Wk.e)
 refine C.seq (U.start ?_)
 refine U.pd 1 T (C.nx (C.seq ?_))
 refine C.ite rfl hm (fun hb11 hm => ?_) (fun hb11 hm => ?_)
 refine C.skip (C.nx (C.seq (C.block (C.seq (U.start ?_)))))
 refine U.pd 2 T (C.nx (C.seq (U.start ?_)))
 refine U.ps 3 T rfl ?_
 obtain ⟨x16, hx16, hm⟩ := hm
 refine U.r rfl (.none rfl) rfl rfl (by exact Rd.ix T rfl rfl rfl rfl rfl rfl hx16) ?_
 refine U.ps 1 T rfl ?_
 refine U.k (T_body_Carrier_1 x16 f_c0 _ hm) en84 (fun x17 hm => ?_)
 refine U.done (C.nx ?_)
 refine C.ite rfl hm (fun hb18 hm => ?_) (fun hb18 hm => ?_)
 refine C.seq (U.start ?_)
 refine U.pd 2 T (C.nx (C.ret (C.brt (C.rt (C.rt (C.brt (C.rt ?_)))))))
 exact C.f1 T hβ ⟨s7, hm, rfl, rfl, rfl⟩
 refine C.skip (C.bnx (C.nx (U.start ?_)))
 refine U.pd 2 T (C.nx ?_)
 exact St.wk (C.next hm) (Wk.e)
 refine C.exit (C.ex (C.ex (C.bex ?_)))
 exact St.wk (hJ6 _ hm) (Wk.mk' [] rfl rfl trivial trivial rfl)
theorem T_body_Carrier (st : ApiState) (shelf : Int) (post : Int → Prop) (hm : V_body_Carrier st shelf post) :
    Tr Tryz.prog 30 [.agg (eApiState st), .i shelf] [] 0 (fun A H' k => ∃ y, post y ∧ A = (.i y) ∧ H' = [] ∧ k = 0) := by
 refine Tr.intro (n := 11) Tryz.func30 rfl Tryz.ntmps30 rfl (fun w0 ok F β hβ => ?_)
 unfold V_body_Carrier at hm
 refine C.seq (U.start ?_)
 refine U.bx ?_
 refine U.bx ?_
 refine U.pd 1 T (C.nx (C.seq (C.seq (U.start ?_))))
 refine U.pd 2 T (C.nx ?_)
 refine C.ite rfl hm (fun hb5 hm => ?_) (fun hb5 hm => ?_)
 refine C.seq (U.start ?_)
 refine U.pd 1 T (C.nx (C.ret (C.rt ?_)))
 exact C.f1 T hβ ⟨(-1), hm, rfl, rfl, rfl⟩
 refine C.skip (C.nx (C.seq (U.start ?_)))
 refine U.ps 3 T rfl ?_
 refine U.k (T_slices_IndexFunc_api_Robot_api_Robot__body_Carrier_1 st.Robots shelf _ hm) en83 (fun x10 hm => ?_)
 refine U.pd 1 T (C.nx (C.ret ?_))
 exact C.f1 T hβ ⟨x10, hm, rfl, rfl, rfl⟩
theorem T_body_Shelf (st : ApiState) (s_1 : Int) (post : (List Int) → Prop) (hm : V_body_Shelf st s_1 post) :
    Tr Tryz.prog 147 [.agg (eApiState st), .i s_1] [] 0 (fun A H' k => ∃ y, post y ∧ A = (.o 0) ∧ H' = [(0, .val (.os 1 eI y))] ∧ k = 1) := by
 refine Tr.intro (n := 27) Tryz.func147 rfl Tryz.ntmps147 rfl (fun w0 ok F β hβ => ?_)
 unfold V_body_Shelf at hm
 refine C.seq (U.start ?_)
 refine U.bx ?_
 refine U.pd 1 T (C.nx (C.seq (C.seq ?_)))
 refine C.jn (fun (x3 : Bool) => [(1, .i s_1), (2, .p 0 0), (19, .b x3)]) (fun (x3 : Bool) => [(0, .box (eApiState st))]) 1 hm (fun x3 hm => ?_) (fun J4 hm hJ4 => ?_)
 refine C.nx ?_
 refine C.ite rfl hm (fun hb8 hm => ?_) (fun hb8 hm => ?_)
 refine C.seq (U.start ?_)
 refine U.pd 1 T (C.nx (C.ret (C.rt ?_)))
 exact C.g1 [none] T hβ ⟨[], hm, rfl, rfl, rfl⟩
 refine C.skip (C.nx (C.seq (U.start ?_)))
 refine U.ps 3 T rfl ?_
 obtain ⟨x13, hx13, hm⟩ := hm
 refine U.r rfl (.none rfl) rfl rfl (by exact Rd.ix T rfl rfl rfl rfl rfl rfl hx13) ?_
 refine U.ps 1 T rfl ?_
 refine U.k (T_body_High x13 _ hm) en118 (fun x14 hm => ?_)
 refine U.e1 rfl (.none rfl) (by exact Eff1.bs T (enc := eI) (xs := ([x14] : List Int)) rfl rfl rfl rfl rfl rfl rfl rfl rfl rfl (fun _ _ => rfl) rfl rfl) ?_
 refine U.pd 1 T (C.nx (C.ret ?_))
 exact C.g1 [some 1] T hβ ⟨([x14] : List Int), hm, rfl, rfl, rfl⟩
 refine U.start ?_
 refine U.ps 3 T rfl ?_
 refine hm.cs (fun hb5 hm => ?_) (fun hb5 hm => ?_)
 refine U.sks 5 2 false 7 hb5 rfl rfl rfl ?_
 refine U.pk hb5 ?_
 refine U.ps 1 T rfl ?_
 refine U.sks 4 9 false 14 rfl rfl rfl rfl ?_
 refine U.pk rfl ?_
 refine U.done ?_
 exact St.wa [some 0] (hJ4 _ hm)
 refine U.pg 5 2 false 7 hb5 T rfl rfl rfl rfl ?_
 refine U.pk' hb5 ?_
 refine U.ps 1 T rfl ?_
 refine hm.cs (fun hb6 hm => ?_) (fun hb6 hm => ?_)
 refine U.sks 4 9 false 14 hb6 rfl rfl rfl ?_
 refine U.pk hb6 ?_
 refine U.done ?_
 exact St.wa [some 0] (hJ4 _ hm)
 refine U.pg 2 9 false 14 hb6 T rfl rfl rfl rfl ?_
 refine U.k (T_body_Carrier st s_1 _ hm) en30 (fun x7 hm => ?_) (hw := .take 9 false 14 _ hb6 rfl rfl rfl)
 refine U.pg 1 9 false 14 hb6 T rfl rfl rfl rfl ?_
 refine U.pk' hb6 ?_
 refine U.done ?_
 exact St.wa [some 0] (hJ4 _ hm)
theorem T_body_Person (st : ApiState) (p : Int) (post : (List Int) → Prop) (hm : V_body_Person st p post) :
    Tr Tryz.prog 148 [.agg (eApiState st), .i p] [] 0 (fun A H' k => ∃ y, post y ∧ A = (.o 0) ∧ H' = [(0, .val (.os 1 eI y))] ∧ k = 1) := by
 refine Tr.intro (n := 27) Tryz.func148 rfl Tryz.ntmps148 rfl (fun w0 ok F β hβ => ?_)
 unfold V_body_Person at hm
 refine C.seq (U.start ?_)
 refine U.bx ?_
 refine U.pd 1 T (C.nx (C.seq (C.seq ?_)))
 refine C.jn (fun (x3 : Bool) => [(1, .i p), (2, .p 0 0), (13, .b x3)]) (fun (x3 : Bool) => [(0, .box (eApiState st))]) 1 hm (fun x3 hm => ?_) (fun J4 hm hJ4 => ?_)
 refine C.nx ?_
 refine C.ite rfl hm (fun hb6 hm => ?_) (fun hb6 hm => ?_)
 refine C.seq (U.start ?_)
 refine U.pd 1 T (C.nx (C.ret (C.rt ?_)))
 exact C.g1 [none] T hβ ⟨[], hm, rfl, rfl, rfl⟩
 refine C.skip (C.nx (C.seq ?_))
 refine D.beg 9999 [0] [] mix rfl rfl (by kernel_rfl) (by repeat (first | exact NoPanicQ.body | exact NoPanicQ.rnd | refine NoPanicQ.th ?_ | refine NoPanicQ.blk ?_ | refine NoPanicQ.ng ?_)) (fun hQ hS ws M' => ?_)
 refine D.ps 3 [(0, []), (1, []), (2, [])] rfl hQ hS T rfl rfl (by kernel_rfl) ?_
 obtain ⟨x11, hx11, hm⟩ := hm
 refine D.q 3 [] hQ hS rfl (.none rfl) rfl rfl (by exact Rd.ix T rfl rfl rfl rfl rfl rfl hx11) rfl (by kernel_rfl) ?_
 refine D.ps 4 [(4, []), (6, []), (7, []), (8, [])] rfl hQ hS T rfl rfl (by kernel_rfl) ?_
 refine D.q 9 [] hQ hS rfl (.none rfl) rfl rfl (by exact Rd.ix T rfl rfl rfl rfl rfl rfl hx11) rfl (by kernel_rfl) ?_
 refine D.ps 1 [(10, [])] rfl hQ hS T rfl rfl (by kernel_rfl) ?_
 refine D.k 5 (T_body_Low x11 _ hm) en117 (fun x12 hm => ?_)
 refine D.k 11 (T_body_High x11 _ hm) en118 (fun x13 hm => ?_)
 refine D.e1 12 rfl (.none rfl) (by exact Eff1.bs T (enc := eI) (xs := ([x12, x13] : List Int)) rfl rfl rfl rfl rfl rfl rfl rfl rfl rfl (fun _ _ => rfl) rfl rfl) (by kernel_rfl) rfl rfl ?_
 refine D.ps 1 [(13, [])] rfl hQ hS T rfl rfl (by kernel_rfl) ?_
 refine D.done (by kernel_rfl) ?_
 refine C.nx (C.ret ?_)
 exact C.g1 [some 1] T hβ ⟨([x12, x13] : List Int), hm, rfl, rfl, rfl⟩
 refine U.start ?_
 refine U.ps 3 T rfl ?_
 refine hm.cs (fun hb5 hm => ?_) (fun hb5 hm => ?_)
 refine U.sks 5 2 false 7 hb5 rfl rfl rfl ?_
 refine U.pk hb5 ?_
 refine U.done ?_
 exact St.wa [some 0] (hJ4 _ hm)
 refine U.pg 5 2 false 7 hb5 T rfl rfl rfl rfl ?_
 refine U.pk' hb5 ?_
 refine U.done ?_
 exact St.wa [some 0] (hJ4 _ hm)
theorem T_body_all (st : ApiState) (post : (List Int) → Prop) (hm : V_body_all st post) :
    Tr Tryz.prog 76 [.agg (eApiState st)] [] 0 (fun A H' k => ∃ y, post y ∧ A = (.o 0) ∧ H' = [(0, .val (.os 1 eI y))] ∧ k = 1) := by
 refine Tr.intro (n := 44) Tryz.func76 rfl Tryz.ntmps76 rfl (fun w0 ok F β hβ => ?_)
 unfold V_body_all at hm
 refine C.seq (U.start ?_)
 refine U.bx ?_
 refine U.pd 1 T (C.nx (C.seq (U.start ?_)))
 refine U.pd 1 T (C.nx (C.seq (C.seq (U.start ?_))))
 refine U.pd 4 T (C.nx ?_)
 refine C.jn (fun (x7 : List Int) => [(1, .p 0 0), (3, .o 1)]) (fun (x7 : List Int) => [(0, .box (eApiState st)), (1, .val (.os 1 eI x7))]) 2 hm (fun x7 hm => ?_) (fun J8 hm hJ8 => ?_)
 refine C.nx (C.seq (C.seq (U.start ?_)))
 refine U.pd 4 T (C.nx ?_)
 refine C.jn (fun (x24 : List Int) => [(1, .p 0 0), (3, .o 1)]) (fun (x24 : List Int) => [(0, .box (eApiState st)), (1, .val (.os 1 eI x24))]) 2 hm (fun x24 hm => ?_) (fun J25 hm hJ25 => ?_)
 refine C.nx (C.seq (C.seq (U.start ?_)))
 refine U.pd 4 T (C.nx ?_)
 refine C.jn (fun (x41 : List Int) => [(3, .o 0)]) (fun (x41 : List Int) => [(0, .val (.os 1 eI x41))]) 1 hm (fun x41 hm => ?_) (fun J42 hm hJ42 => ?_)
 refine C.nx (C.seq (U.start ?_))
 refine U.pd 2 T (C.nx (C.ret ?_))
 exact C.g1 [some 0] T hβ ⟨x41, hm, rfl, rfl, rfl⟩
 refine C.block ?_
 refine St.wk (C.loop (fun (s43 : List Int × Int) => [(1, .p 0 0), (3, .o 1), (33, .i (st.People.length : Int)), (34, .i s43.2)]) (fun (s43 : List Int × Int) => [(0, .box (eApiState st)), (1, .val (.os 1 eI s43.1))]) hm (fun s43 Y44 hm => ?_)) (Wk.a (idR 2))
 refine C.seq (U.start ?_)
 refine U.pd 1 T (C.nx (C.seq ?_))
 refine C.ite rfl hm (fun hb47 hm => ?_) (fun hb47 hm => ?_)
 refine C.skip (C.nx (C.seq (C.block (C.seq (U.start ?_)))))
 refine U.pd 2 T (C.nx (U.start ?_))
 refine U.ps 3 T rfl ?_
 refine U.k (T_body_Person st s43.2 _ hm) en148 (fun x52 hm => ?_)
 obtain ⟨hx53, hm⟩ := hm
 refine U.e1 rfl (.none rfl) (by exact Eff1.ap T rfl rfl rfl rfl rfl rfl (.inr ⟨_, rfl, rfl⟩) rfl rfl rfl (fun _ => rfl) rfl hx53) ?_
 refine U.pd 1 T (C.bnx (C.nx (U.start ?_)))
 refine U.pd 2 T (C.nx ?_)
 exact St.wk (C.next hm) (Wk.a [some 0, some 3])
 refine C.exit (C.ex (C.ex (C.bex ?_)))
 exact St.wa [some 1] (hJ42 _ hm)
 refine C.block ?_
 refine St.wk (C.loop (fun (s26 : List Int × Int) => [(1, .p 0 0), (3, .o 1), (21, .i (st.Shelves.length : Int)), (22, .i s26.2)]) (fun (s26 : List Int × Int) => [(0, .box (eApiState st)), (1, .val (.os 1 eI s26.1))]) hm (fun s26 Y27 hm => ?_)) (Wk.a (idR 2))
 refine C.seq (U.start ?_)
 refine U.pd 1 T (C.nx (C.seq ?_))
 refine C.ite rfl hm (fun hb30 hm => ?_) (fun hb30 hm => ?_)
 refine C.skip (C.nx (C.seq (C.block (C.seq (U.start ?_)))))
 refine U.pd 2 T (C.nx (U.start ?_))
 refine U.ps 3 T rfl ?_
 refine U.k (T_body_Shelf st s26.2 _ hm) en147 (fun x35 hm => ?_)
 obtain ⟨hx36, hm⟩ := hm
 refine U.e1 rfl (.none rfl) (by exact Eff1.ap T rfl rfl rfl rfl rfl rfl (.inr ⟨_, rfl, rfl⟩) rfl rfl rfl (fun _ => rfl) rfl hx36) ?_
 refine U.pd 1 T (C.bnx (C.nx (U.start ?_)))
 refine U.pd 2 T (C.nx ?_)
 exact St.wk (C.next hm) (Wk.a [some 0, some 3])
 refine C.exit (C.ex (C.ex (C.bex ?_)))
 exact St.wa (idR 2) (hJ25 _ hm)
 refine C.block ?_
 refine St.wk (C.loop (fun (s9 : List Int × Int) => [(1, .p 0 0), (3, .o 1), (9, .i (st.Robots.length : Int)), (10, .i s9.2)]) (fun (s9 : List Int × Int) => [(0, .box (eApiState st)), (1, .val (.os 1 eI s9.1))]) hm (fun s9 Y10 hm => ?_)) (Wk.mk' [some 0, none] rfl rfl ⟨⟨_, rfl, (.eq rfl)⟩, ⟨_, rfl, (.nilO _ _ ⟨rfl, rfl⟩ rfl)⟩, ChkG.eqs rfl⟩ ⟨bX, ⟨_, rfl, .nil _ _⟩, trivial⟩ rfl)
 refine C.seq (U.start ?_)
 refine U.pd 1 T (C.nx (C.seq ?_))
 refine C.ite rfl hm (fun hb13 hm => ?_) (fun hb13 hm => ?_)
 refine C.skip (C.nx (C.seq (C.block (C.seq (U.start ?_)))))
 refine U.pd 2 T (C.nx (U.start ?_))
 refine U.ps 3 T rfl ?_
 refine U.k (T_body_Robot st s9.2 _ hm) en146 (fun x18 hm => ?_)
 obtain ⟨hx19, hm⟩ := hm
 refine U.e1 rfl (.none rfl) (by exact Eff1.ap T rfl rfl rfl rfl rfl rfl (.inr ⟨_, rfl, rfl⟩) rfl rfl rfl (fun _ => rfl) rfl hx19) ?_
 refine U.pd 1 T (C.bnx (C.nx (U.start ?_)))
 refine U.pd 2 T (C.nx ?_)
 exact St.wk (C.next hm) (Wk.a [some 0, some 3])
 refine C.exit (C.ex (C.ex (C.bex ?_)))
 exact St.wa (idR 2) (hJ8 _ hm)
def siR52 : Go.Shelf.Ren := ⟨fun | 125 => 128 | 128 => 192 | 129 => 193 | 189 => 52 | 215 => 218 | 216 => 189 | 257 => 127 | 294 => 183 | 295 => 184 | 296 => 185 | 297 => 186 | 298 => 187 | 299 => 188 | 300 => 190 | 301 => 191 | 328 => 213 | 329 => 214 | 330 => 215 | 331 => 216 | 332 => 217 | 343 => 225 | n => n, fun | 0 => 0 | 3 => 3 | 4 => 4 | 5 => 5 | 9 => 9 | 28 => 22 | 46 => 139 | 51 => 184 | 53 => 186 | 131 => 57 | 182 => 176 | 183 => 177 | 218 => 204 | 222 => 208 | 228 => 212 | 229 => 213 | n => n, fun n => n⟩
theorem siL52 : Go.Proofs.Lays.n189 Tryz.prog siR52 where
  mixed := by kernel_rfl
  f125 := Tryz.func128.trans (congrArg some (by kernel_rfl))
  f128 := Tryz.func192.trans (congrArg some (by kernel_rfl))
  f129 := Tryz.func193.trans (congrArg some (by kernel_rfl))
  f189 := Tryz.func52.trans (congrArg some (by kernel_rfl))
  f215 := Tryz.func218.trans (congrArg some (by kernel_rfl))
  f216 := Tryz.func189.trans (congrArg some (by kernel_rfl))
  f257 := Tryz.func127.trans (congrArg some (by kernel_rfl))
  f294 := Tryz.func183.trans (congrArg some (by kernel_rfl))
  f295 := Tryz.func184.trans (congrArg some (by kernel_rfl))
  f296 := Tryz.func185.trans (congrArg some (by kernel_rfl))
  f297 := Tryz.func186.trans (congrArg some (by kernel_rfl))
  f298 := Tryz.func187.trans (congrArg some (by kernel_rfl))
  f299 := Tryz.func188.trans (congrArg some (by kernel_rfl))
  f300 := Tryz.func190.trans (congrArg some (by kernel_rfl))
  f301 := Tryz.func191.trans (congrArg some (by kernel_rfl))
  f328 := Tryz.func213.trans (congrArg some (by kernel_rfl))
  f329 := Tryz.func214.trans (congrArg some (by kernel_rfl))
  f330 := Tryz.func215.trans (congrArg some (by kernel_rfl))
  f331 := Tryz.func216.trans (congrArg some (by kernel_rfl))
  f332 := Tryz.func217.trans (congrArg some (by kernel_rfl))
  f343 := Tryz.func225.trans (congrArg some (by kernel_rfl))
  t0 := Tryz.underlying0
  a0 := Tryz.isAgg0
  z0 := Tryz.sizeOf0
  v0 := Tryz.zeroValue0
  t3 := Tryz.underlying3
  a3 := Tryz.isAgg3
  z3 := Tryz.sizeOf3
  v3 := Tryz.zeroValue3
  t4 := Tryz.underlying4
  a4 := Tryz.isAgg4
  z4 := Tryz.sizeOf4
  v4 := Tryz.zeroValue4
  t5 := Tryz.underlying5
  a5 := Tryz.isAgg5
  z5 := Tryz.sizeOf5
  v5 := Tryz.zeroValue5
  t9 := Tryz.underlying9
  a9 := Tryz.isAgg9
  z9 := Tryz.sizeOf9
  v9 := Tryz.zeroValue9
  t28 := Tryz.underlying22
  a28 := Tryz.isAgg22
  z28 := Tryz.sizeOf22
  v28 := Tryz.zeroValue22
  t46 := Tryz.underlying139
  a46 := Tryz.isAgg139
  z46 := Tryz.sizeOf139
  v46 := Tryz.zeroValue139
  t51 := Tryz.underlying184
  a51 := Tryz.isAgg184
  z51 := Tryz.sizeOf184
  v51 := Tryz.zeroValue184
  t53 := Tryz.underlying186
  a53 := Tryz.isAgg186
  z53 := Tryz.sizeOf186
  v53 := Tryz.zeroValue186
  t131 := Tryz.underlying57
  a131 := Tryz.isAgg57
  z131 := Tryz.sizeOf57
  v131 := Tryz.zeroValue57
  t182 := Tryz.underlying176
  a182 := Tryz.isAgg176
  z182 := Tryz.sizeOf176
  v182 := Tryz.zeroValue176
  t183 := Tryz.underlying177
  a183 := Tryz.isAgg177
  z183 := Tryz.sizeOf177
  v183 := Tryz.zeroValue177
  t218 := Tryz.underlying204
  a218 := Tryz.isAgg204
  z218 := Tryz.sizeOf204
  v218 := Tryz.zeroValue204
  t222 := Tryz.underlying208
  a222 := Tryz.isAgg208
  z222 := Tryz.sizeOf208
  v222 := Tryz.zeroValue208
  t228 := Tryz.underlying212
  a228 := Tryz.isAgg212
  z228 := Tryz.sizeOf212
  v228 := Tryz.zeroValue212
  t229 := Tryz.underlying213
  a229 := Tryz.isAgg213
  z229 := Tryz.sizeOf213
  v229 := Tryz.zeroValue213
theorem T_slices_Sort_int_int__o0 (p0 : List Int) (post : List Int → Prop) (hm : V_slices_Sort_int_int__o0 p0 post) :
    Tr Tryz.prog 52 [.o 0] [(0, .val (.os 1 eI p0))] 1 (fun A H' k => ∃ y, post y ∧ A = (.tup []) ∧ H' = [(0, .val (.os 1 eI y))] ∧ k = 1) := by
 unfold V_slices_Sort_int_int__o0 at hm
 exact Tr.sortInt siL52 p0 hm.1 hm.2
theorem T_body_All (st : ApiState) (post : (List Int) → Prop) (hm : V_body_All st post) :
    Tr Tryz.prog 116 [.agg (eApiState st)] [] 0 (fun A H' k => ∃ y, post y ∧ A = (.o 0) ∧ H' = [(0, .val (.os 1 eI y))] ∧ k = 1) := by
 refine Tr.intro (n := 9) Tryz.func116 rfl Tryz.ntmps116 rfl (fun w0 ok F β hβ => ?_)
 unfold V_body_All at hm
 refine C.seq (U.start ?_)
 refine U.bx ?_
 refine U.pd 1 T (C.nx (C.seq (U.start ?_)))
 refine U.ps 1 T rfl ?_
 refine U.k (T_body_all st _ hm) en76 (fun x5 hm => ?_)
 refine U.pd 1 T (C.nx (C.seq (U.start ?_)))
 refine U.ps 1 T rfl ?_
 refine U.c [some 1] (T_slices_Sort_int_int__o0 x5 _ hm) en52 (fun x8 hm => ?_)
 refine U.done (C.nx (C.seq (U.start ?_)))
 refine U.pd 2 T (C.nx (C.ret ?_))
 exact C.g1 [some 1] T hβ ⟨x8, hm, rfl, rfl, rfl⟩
theorem T_act_move (s_1 : ApiSite) (st : ApiState) (r : ApiRobot) (d : Int) (post : Int → Prop) (hm : V_act_move s_1 st r d post) :
    Tr Tryz.prog 101 [.agg (eApiSite s_1), .agg (eApiState st), .agg (eApiRobot r), .i d] [] 0 (fun A H' k => ∃ y, post y ∧ A = (.i y) ∧ H' = [] ∧ k = 0) := by
 refine Tr.intro (n := 64) Tryz.func101 rfl Tryz.ntmps101 rfl (fun w0 ok F β hβ => ?_)
 unfold V_act_move at hm
 refine C.seq (U.start ?_)
 refine U.bx ?_
 refine U.bx ?_
 refine U.bx ?_
 refine U.pd 1 T (C.nx (C.seq (U.start ?_)))
 refine U.ps 5 T rfl ?_
 refine U.k (T_floor_Next s_1.Floor r.Cell d _ hm) en24 (fun x5 hm => ?_)
 refine U.ps 3 T rfl ?_
 refine U.e1 rfl (.none rfl) (by exact Eff1.al T rfl rfl rfl rfl) ?_
 refine U.e1 rfl (.none rfl) (by exact Eff1.st T rfl rfl rfl rfl rfl rfl rfl rfl rfl rfl) ?_
 refine U.pd 1 T (C.nx (C.seq (C.seq ?_)))
 refine C.jn (fun (x6 : Bool) => [(3, .i d), (4, .p 0 0), (5, .p 1 0), (6, .p 2 0), (9, .p 3 0), (29, .b x6)]) (fun (x6 : Bool) => [(0, .box (eApiSite s_1)), (1, .box (eApiState st)), (2, .box (eApiRobot r)), (3, .box [.i x5.1])]) 4 hm (fun x6 hm => ?_) (fun J7 hm hJ7 => ?_)
 refine C.nx ?_
 refine C.ite rfl hm (fun hb10 hm => ?_) (fun hb10 hm => ?_)
 refine C.seq (U.start ?_)
 refine U.pd 1 T (C.nx (C.ret (C.rt ?_)))
 exact C.f1 T hβ ⟨14, hm, rfl, rfl, rfl⟩
 refine C.skip (C.nx (C.seq (C.seq ?_)))
 refine C.jn (fun (x13 : Bool) => [(4, .p 0 0), (5, .p 1 0), (6, .p 2 0), (9, .p 3 0), (35, .b x13)]) (fun (x13 : Bool) => [(0, .box (eApiSite s_1)), (1, .box (eApiState st)), (2, .box (eApiRobot r)), (3, .box [.i x5.1])]) 4 hm (fun x13 hm => ?_) (fun J14 hm hJ14 => ?_)
 refine C.nx ?_
 refine C.jn (fun (x16 : Unit) => [(4, .p 0 0), (5, .p 1 0), (6, .p 2 0), (9, .p 3 0)]) (fun (x16 : Unit) => [(0, .box (eApiSite s_1)), (1, .box (eApiState st)), (2, .box (eApiRobot r)), (3, .box [.i x5.1])]) 4 hm (fun x16 hm => ?_) (fun J17 hm hJ17 => ?_)
 refine C.nx (C.seq (C.seq (U.start ?_)))
 refine U.ps 4 T rfl ?_
 refine U.k (T_rules_Open s_1 x5.1 st.Tick _ hm) en163 (fun x29 hm => ?_)
 refine U.pd 1 T (C.nx ?_)
 refine C.ite rfl hm (fun hb30 hm => ?_) (fun hb30 hm => ?_)
 refine C.seq (U.start ?_)
 refine U.pd 1 T (C.nx (C.ret (C.rt ?_)))
 exact C.f1 T hβ ⟨18, hm, rfl, rfl, rfl⟩
 refine C.skip (C.nx (C.seq (U.start ?_)))
 refine U.ps 1 T rfl ?_
 refine U.k (T_body_All st _ hm) en116 (fun x35 hm => ?_)
 refine U.pd 1 T (C.nx (C.seq (C.seq ?_)))
 refine C.jn (fun (x36 : Bool) => [(63, .b x36)]) (fun (x36 : Bool) => []) 0 hm (fun x36 hm => ?_) (fun J37 hm hJ37 => ?_)
 refine C.nx ?_
 refine C.ite rfl hm (fun hb44 hm => ?_) (fun hb44 hm => ?_)
 refine C.seq (U.start ?_)
 refine U.pd 1 T (C.nx (C.ret (C.rt ?_)))
 exact C.f1 T hβ ⟨15, hm, rfl, rfl, rfl⟩
 refine C.skip (C.nx (C.seq (U.start ?_)))
 refine U.pd 1 T (C.nx (C.ret ?_))
 exact C.f1 T hβ ⟨0, hm, rfl, rfl, rfl⟩
 refine U.start ?_
 refine U.ps 2 T rfl ?_
 refine U.k (T_body_Low x5.1 _ hm) en117 (fun x38 hm => ?_)
 refine U.k (T_slices_Contains_int_int x35 x38 _ hm) en44 (fun x39 hm => ?_)
 refine U.ps 1 T rfl ?_
 refine hm.cs (fun hb40 hm => ?_) (fun hb40 hm => ?_)
 refine U.sks 4 4 false 53 hb40 rfl rfl rfl ?_
 refine U.sku 4 8 true 57 rfl rfl rfl ?_
 refine U.sks 1 4 false 53 hb40 rfl rfl rfl ?_
 refine U.pk hb40 ?_
 refine U.done ?_
 exact St.wn (hJ37 _ hm)
 refine U.pg 4 4 false 53 hb40 T rfl rfl rfl rfl ?_
 refine hm.cs (fun hb41 hm => ?_) (fun hb41 hm => ?_)
 refine U.pg 2 8 true 57 hb41 T rfl rfl rfl rfl ?_
 refine U.k (T_body_High x5.1 _ hm) en118 (fun x42 hm => ?_) (hw := .take 8 true 57 _ hb41 rfl rfl rfl)
 refine U.k (T_slices_Contains_int_int x35 x42 _ hm) en44 (fun x43 hm => ?_) (hw := .take 8 true 57 _ hb41 rfl rfl rfl)
 refine U.r rfl (.take 4 false 53 _ hb40 rfl rfl rfl) rfl rfl (by exact Rd.pk rfl rfl hb41 rfl) ?_
 refine U.pk' hb40 ?_
 refine U.done ?_
 exact St.wn (hJ37 _ hm)
 refine U.sks 4 8 true 57 hb41 rfl rfl rfl ?_
 refine U.r rfl (.take 4 false 53 _ hb40 rfl rfl rfl) rfl rfl (by exact Rd.pk' rfl rfl hb41 rfl) ?_
 refine U.pk' hb40 ?_
 refine U.done ?_
 exact St.wn (hJ37 _ hm)
 refine C.ite rfl hm (fun hb18 hm => ?_) (fun hb18 hm => ?_)
 refine C.seq (U.start ?_)
 refine U.pd 2 T (C.nx (C.seq (U.start ?_)))
 refine U.ps 3 T rfl ?_
 refine U.k (T_slices_ContainsFunc_api_Stuck_api_Stuck__act_move_1 st.Stuck r x5.1 _ hm) en162 (fun x23 hm => ?_)
 refine U.done (C.nx ?_)
 refine C.ite rfl hm (fun hb24 hm => ?_) (fun hb24 hm => ?_)
 refine C.seq (U.start ?_)
 refine U.pd 1 T (C.nx (C.ret (C.rt ?_)))
 exact C.f1 T hβ ⟨14, hm, rfl, rfl, rfl⟩
 refine C.skip ?_
 exact St.wa (idR 4) (hJ17 _ hm)
 refine C.skip ?_
 exact St.wa (idR 4) (hJ17 _ hm)
 refine U.start ?_
 refine U.ps 3 T rfl ?_
 refine hm.cs (fun hb15 hm => ?_) (fun hb15 hm => ?_)
 refine U.sks 2 2 false 32 hb15 rfl rfl rfl ?_
 refine U.pk hb15 ?_
 refine U.done ?_
 exact St.wa (idR 4) (hJ14 _ hm)
 refine U.pg 2 2 false 32 hb15 T rfl rfl rfl rfl ?_
 refine U.pk' hb15 ?_
 refine U.done ?_
 exact St.wa (idR 4) (hJ14 _ hm)
 refine U.start ?_
 refine U.ps 3 T rfl ?_
 refine hm.cs (fun hb8 hm => ?_) (fun hb8 hm => ?_)
 refine U.pg 3 2 false 24 (ntF hb8) T rfl rfl rfl rfl ?_
 refine U.k (T_slices_Contains_int_int st.Dead x5.1 _ hm) en44 (fun x9 hm => ?_) (hw := .take 2 false 24 _ (ntF hb8) rfl rfl rfl)
 refine U.r rfl (.none rfl) rfl rfl (by exact Rd.pk' rfl rfl (ntF hb8) rfl) ?_
 refine U.done ?_
 exact St.wa (idR 4) (hJ7 _ hm)
 refine U.sks 4 2 false 24 (ntT hb8) rfl rfl rfl ?_
 refine U.r rfl (.none rfl) rfl rfl (by exact Rd.pk rfl rfl (ntT hb8) rfl) ?_
 refine U.done ?_
 exact St.wa (idR 4) (hJ7 _ hm)
theorem T_slices_Backward_int_int (s_1 : List Int) (post : (List Int) → Prop) (hm : V_slices_Backward_int_int s_1 post) :
    Tr Tryz.prog 207 [.sl 1 eI s_1] [] 0 (fun A H' k => ∃ y, post y ∧ A = (.fn (.func 223) [] [.p 0 0]) ∧ H' = [(0, .box [.sl 1 eI y])] ∧ k = 1) := by
 refine Tr.intro (n := 4) Tryz.func207 rfl Tryz.ntmps207 rfl (fun w0 ok F β hβ => ?_)
 unfold V_slices_Backward_int_int at hm
 refine C.seq (U.start ?_)
 refine U.bx ?_
 refine U.pd 1 T (C.nx (C.seq (U.start ?_)))
 refine U.pd 2 T (C.nx (C.ret ?_))
 exact C.g1 [some 0] T hβ ⟨(s_1), hm, rfl, rfl, rfl⟩
theorem T_rules_standing (st : ApiState) (post : (List (Int × Int)) → Prop) (hm : V_rules_standing st post) :
    Tr Tryz.prog 168 [.agg (eApiState st)] [] 0 (fun A H' k => ∃ y, post y ∧ A = (.o 0) ∧ H' = [(0, .val (.om kI veI y))] ∧ k = 1) := by
 refine Tr.intro (n := 35) Tryz.func168 rfl Tryz.ntmps168 rfl (fun w0 ok F β hβ => ?_)
 unfold V_rules_standing at hm
 refine C.seq (U.start ?_)
 refine U.bx ?_
 refine U.pd 1 T (C.nx (C.seq (U.start ?_)))
 refine U.e1 rfl (.none rfl) (by exact Eff1.mm kI veB rfl rfl rfl) ?_
 refine U.e1 rfl (.none rfl) (by exact Eff1.al T rfl rfl rfl rfl) ?_
 refine U.e1 rfl (.none rfl) (by exact Eff1.st T rfl rfl rfl rfl rfl rfl rfl rfl rfl rfl) ?_
 refine U.done (C.nx (C.seq (C.seq (U.start ?_))))
 refine U.pd 4 T (C.nx ?_)
 refine C.jn (fun (x7 : List (Int × Bool)) => [(1, .p 0 0), (3, .p 1 0)]) (fun (x7 : List (Int × Bool)) => [(0, .box (eApiState st)), (1, .box [.o 2]), (2, .val (.om kI veB x7))]) 3 hm (fun x7 hm => ?_) (fun J8 hm hJ8 => ?_)
 refine C.nx (C.seq (U.start ?_))
 refine U.e1 rfl (.none rfl) (by exact Eff1.mm kI veI rfl rfl rfl) ?_
 refine U.e1 rfl (.none rfl) (by exact Eff1.al T rfl rfl rfl rfl) ?_
 refine U.e1 rfl (.none rfl) (by exact Eff1.st T rfl rfl rfl rfl rfl rfl rfl rfl rfl rfl) ?_
 refine U.done (C.nx (C.seq (C.seq (U.start ?_))))
 refine U.ps 2 T rfl ?_
 refine U.e rfl (.none rfl) (by exact Eff.c [] (v := false) (T_slices_Backward_int_int st.Shelves _ hm) en207 rfl rfl rfl (.eq rfl) trivial rfl rfl rfl rfl rfl rfl (fun h => by cases h) (.inr ⟨rfl, rfl⟩) (fun _ => rfl) (fun _ => rfl) rfl) (fun x25' hm => ?_)
 obtain ⟨x25⟩ := x25'
 refine U.done (C.nx (C.block ?_))
 refine St.wk (Γ' := [(1, .p 0 0), (3, .p 1 0), (6, .p 3 0), (21, .o 4), (22, .p 0 1), (23, .sl 1 eI st.Shelves), (24, .fn (.func 223) [] [.rp [.sl 1 eI x25]])]) (H' := [(0, .box (eApiState st)), (1, .box [.o 2]), (2, .val (.om kI veB x7)), (3, .box [.o 4]), (4, .val (.om kI veI ([] : List (Int × Int))))]) (nl' := 5) ?_ (Wk.mk' [some 0, some 1, some 2, some 4, some 3] rfl rfl ⟨⟨_, rfl, (.eq rfl)⟩, ⟨_, rfl, (.eq rfl)⟩, ⟨_, rfl, (.eq rfl)⟩, ⟨_, rfl, (.eq rfl)⟩, ⟨_, rfl, (.eq rfl)⟩, ⟨_, rfl, (.eq rfl)⟩, ⟨_, rfl, (.fn (.eq rfl) (.cons (.fzp rfl rfl rfl rfl (.eq rfl) rfl) .nil))⟩, trivial⟩ ⟨bX, bX, vL, bX, vL, trivial⟩ rfl)
 obtain ⟨hx29, hm⟩ := hm
 refine St.wk (C.range (Γ0 := [(3, .p 0 0), (6, .p 1 0), (24, .fn (.func 223) [] [.rp [.sl 1 eI x25]])]) (Γ1 := fun (x26 : Int × Int) => [(8, .i x26.2), (7, .i x26.1), (26, .i x26.2), (25, .i x26.1), (3, .p 0 0), (6, .p 1 0), (24, .fn (.func 223) [] [.rp [.sl 1 eI x25]])]) (Hf := fun (s27 : List (Int × Int)) => [(0, .box [.o 2]), (1, .box [.o 3]), (2, .val (.om kI veB x7)), (3, .val (.om kI veI s27))]) 2 hm (it223 x25 hx29) en223 rfl rfl rfl rfl rfl (fun _ => rfl) rfl rfl (fun _ => rfl) (fun x26 s27 Y28 hm w0 ok M β l => ?_) (fun s37 hm => ?_)) (Wk.a [some 1, some 3, some 2, some 4])
 refine CI.block ?_
 refine CI.seq ?_
 refine UI.start (by kernel_rfl) (by repeat (first | exact NoOut.rnd | refine NoOut.th ?_ | refine NoOut.blk ?_)) ?_
 refine U.ps 2 T rfl ?_
 refine U.r rfl (.none rfl) rfl rfl (by exact Rd.lk T (ke := kI) (ve := veB) (xs := x7) (z0 := false) (x := x26.1) rfl rfl kt3 zt4 (fun _ => rfl) rfl (.o rfl) rfl rfl rfl) ?_
 refine U.pd 1 T (C.nx ?_)
 refine CI.jn (fun (x32 : List (Int × Int)) => []) (fun (x32 : List (Int × Int)) => [(0, .box [.o 2]), (1, .box [.o 3]), (2, .val (.om kI veB x7)), (3, .val (.om kI veI x32))]) 4 hm (fun x32 hm => ?_) (fun J33 hm hJ33 => ?_)
 refine C.bnx ?_
 exact St.wk (CI.next hm) (Wk.mk' [some 0, some 1, some 2, some 3] rfl rfl trivial ⟨bX, bX, vL, vL, trivial⟩ rfl)
 refine CI.ite rfl hm (fun hb34 hm => ?_) (fun hb34 hm => ?_)
 refine UI.start (by kernel_rfl) (by repeat (first | exact NoOut.rnd | refine NoOut.th ?_ | refine NoOut.blk ?_)) ?_
 refine U.ps 3 T rfl ?_
 refine U.e1 rfl (.none rfl) (by exact Eff1.mu T (x := x26.2) (y := x26.1) (.inl rfl) rfl kt3 (fun _ => rfl) rfl rfl rfl rfl rfl (.inl rfl) rfl) ?_
 refine U.done ?_
 exact St.wk (hJ33 _ hm) (Wk.mk' [some 0, some 1, some 2, some 3] rfl rfl trivial ⟨bX, bX, vL, vL, trivial⟩ rfl)
 refine CI.skip ?_
 exact St.wk (hJ33 _ hm) (Wk.mk' [some 0, some 1, some 2, some 3] rfl rfl trivial ⟨bX, bX, vL, vL, trivial⟩ rfl)
 refine C.bnx (C.nx (C.seq (U.start ?_)))
 refine U.pd 2 T (C.nx (C.ret ?_))
 exact C.g1 [some 3] T hβ ⟨s37, hm, rfl, rfl, rfl⟩
 refine C.block ?_
 refine St.wk (C.loop (fun (s9 : List (Int × Bool) × Int) => [(1, .p 0 0), (3, .p 1 0), (11, .sl 6 eApiRobot st.Robots), (12, .i (st.Robots.length : Int)), (13, .i s9.2)]) (fun (s9 : List (Int × Bool) × Int) => [(0, .box (eApiState st)), (1, .box [.o 2]), (2, .val (.om kI veB s9.1))]) hm (fun s9 Y10 hm => ?_)) (Wk.a [some 0, some 2, some 1])
 refine C.seq (U.start ?_)
 refine U.pd 1 T (C.nx (C.seq ?_))
 refine C.ite rfl hm (fun hb13 hm => ?_) (fun hb13 hm => ?_)
 refine C.skip (C.nx (C.seq (C.block (C.seq (U.start ?_)))))
 obtain ⟨x16, hx16, hm⟩ := hm
 refine U.r rfl (.none rfl) rfl rfl (by exact Rd.ix T rfl rfl rfl rfl rfl rfl hx16) ?_
 refine U.ps 1 T rfl ?_
 refine U.e1 rfl (.none rfl) (by exact Eff1.al T rfl rfl rfl rfl) ?_
 refine U.e1 rfl (.none rfl) (by exact Eff1.st T rfl rfl rfl rfl rfl rfl rfl rfl rfl rfl) ?_
 refine U.done (C.nx (U.start ?_))
 refine U.ps 3 T rfl ?_
 refine U.e1 rfl (.none rfl) (by exact Eff1.mu T (x := x16.Load) (y := true) (.inl rfl) rfl kt3 (fun _ => rfl) rfl rfl rfl rfl rfl (.inl rfl) rfl) ?_
 refine U.done (C.bnx (C.nx (U.start ?_)))
 refine U.pd 2 T (C.nx ?_)
 exact St.wk (C.next hm) (Wk.a (idR 3))
 refine C.exit (C.ex (C.ex (C.bex ?_)))
 exact St.wa (idR 3) (hJ8 _ hm)
theorem T_rules_At (s_1 : ApiSite) (st : ApiState) (c : Int) (post : Int → Prop) (hm : V_rules_At s_1 st c post) :
    Tr Tryz.prog 104 [.agg (eApiSite s_1), .agg (eApiState st), .i c] [] 0 (fun A H' k => ∃ y, post y ∧ A = (.i y) ∧ H' = [] ∧ k = 0) := by
 refine Tr.intro (n := 18) Tryz.func104 rfl Tryz.ntmps104 rfl (fun w0 ok F β hβ => ?_)
 unfold V_rules_At at hm
 refine C.seq (U.start ?_)
 refine U.bx ?_
 refine U.bx ?_
 refine U.pd 1 T (C.nx (C.seq (C.seq (U.start ?_))))
 refine U.ps 1 T rfl ?_
 refine U.k (T_rules_standing st _ hm) en168 (fun x5 hm => ?_)
 refine U.ps 1 T rfl ?_
 refine U.r rfl (.none rfl) rfl rfl (by exact Rd.lk2 T (ke := kI) (ve := veI) (xs := x5) (z0 := 0) (x := c) rfl rfl kt3 zt3 (fun _ => rfl) rfl (.o rfl) rfl rfl rfl) ?_
 refine U.pd 5 T (C.nx (C.seq (U.start ?_)))
 refine U.pd 1 T (C.nx ?_)
 refine C.ite rfl hm (fun hb8 hm => ?_) (fun hb8 hm => ?_)
 refine C.seq (U.start ?_)
 refine U.pd 2 T (C.nx (C.ret (C.rt ?_)))
 exact C.f1 T hβ ⟨((lk x5 c).getD 0), hm, rfl, rfl, rfl⟩
 refine C.skip (C.nx (C.seq (U.start ?_)))
 refine U.pd 1 T (C.nx (C.ret ?_))
 exact C.f1 T hβ ⟨(-1), hm, rfl, rfl, rfl⟩
theorem T_act_lift (s_1 : ApiSite) (st : ApiState) (r : ApiRobot) (post : Int → Prop) (hm : V_act_lift s_1 st r post) :
    Tr Tryz.prog 102 [.agg (eApiSite s_1), .agg (eApiState st), .agg (eApiRobot r)] [] 0 (fun A H' k => ∃ y, post y ∧ A = (.i y) ∧ H' = [] ∧ k = 0) := by
 refine Tr.intro (n := 16) Tryz.func102 rfl Tryz.ntmps102 rfl (fun w0 ok F β hβ => ?_)
 unfold V_act_lift at hm
 refine C.seq (U.start ?_)
 refine U.bx ?_
 refine U.bx ?_
 refine U.bx ?_
 refine U.pd 1 T (C.nx (C.seq (C.seq (U.start ?_))))
 refine U.pd 3 T (C.nx ?_)
 refine C.ite rfl hm (fun hb5 hm => ?_) (fun hb5 hm => ?_)
 refine C.seq (U.start ?_)
 refine U.pd 1 T (C.nx (C.ret (C.rt ?_)))
 exact C.f1 T hβ ⟨7, hm, rfl, rfl, rfl⟩
 refine C.skip (C.nx (C.seq (C.seq (U.start ?_))))
 refine U.ps 4 T rfl ?_
 refine U.k (T_rules_At s_1 st r.Cell _ hm) en104 (fun x10 hm => ?_)
 refine U.pd 1 T (C.nx ?_)
 refine C.ite rfl hm (fun hb11 hm => ?_) (fun hb11 hm => ?_)
 refine C.seq (U.start ?_)
 refine U.pd 1 T (C.nx (C.ret (C.rt ?_)))
 exact C.f1 T hβ ⟨4, hm, rfl, rfl, rfl⟩
 refine C.skip (C.nx (C.seq (U.start ?_)))
 refine U.pd 1 T (C.nx (C.ret ?_))
 exact C.f1 T hβ ⟨0, hm, rfl, rfl, rfl⟩
theorem T_rules_Stands (s_1 : ApiSite) (c : Int) (post : Bool → Prop) (hm : V_rules_Stands s_1 c post) :
    Tr Tryz.prog 164 [.agg (eApiSite s_1), .i c] [] 0 (fun A H' k => ∃ y, post y ∧ A = (.b y) ∧ H' = [] ∧ k = 0) := by
 refine Tr.intro (n := 26) Tryz.func164 rfl Tryz.ntmps164 rfl (fun w0 ok F β hβ => ?_)
 unfold V_rules_Stands at hm
 refine C.seq (U.start ?_)
 refine U.bx ?_
 refine U.pd 1 T (C.nx (C.seq ?_))
 refine C.jn (fun (x3 : Bool) => [(4, .b x3)]) (fun (x3 : Bool) => []) 0 hm (fun x3 hm => ?_) (fun J4 hm hJ4 => ?_)
 refine C.nx (C.ret ?_)
 exact C.f1 T hβ ⟨x3, hm, rfl, rfl, rfl⟩
 refine U.start ?_
 refine U.ps 2 T rfl ?_
 refine U.k (T_rules_isCell s_1 c _ hm) en202 (fun x5 hm => ?_)
 refine U.ps 1 T rfl ?_
 refine hm.cs (fun hb6 hm => ?_) (fun hb6 hm => ?_)
 refine U.pg 4 3 true 8 hb6 T rfl rfl rfl rfl ?_
 obtain ⟨x7, hx7, hm⟩ := hm
 refine U.r rfl (.take 3 true 8 _ hb6 rfl rfl rfl) rfl rfl (by exact Rd.ix T rfl rfl rfl rfl rfl rfl hx7) ?_
 refine U.pg 3 3 true 8 hb6 T rfl rfl rfl rfl ?_
 refine hm.cs (fun hb8 hm => ?_) (fun hb8 hm => ?_)
 refine U.sks 7 11 false 16 hb8 rfl rfl rfl ?_
 refine U.r rfl (.take 3 true 8 _ hb6 rfl rfl rfl) rfl rfl (by exact Rd.pk rfl rfl hb8 rfl) ?_
 refine U.pk hb6 ?_
 refine U.pd 1 T ?_
 exact St.wn (hJ4 _ hm)
 refine U.pg 4 11 false 16 hb8 T rfl rfl rfl rfl ?_
 refine U.r rfl (.take 11 false 16 _ hb8 rfl rfl rfl) rfl rfl (by exact Rd.ix T rfl rfl rfl rfl rfl rfl hx7) ?_
 refine U.pg 2 11 false 16 hb8 T rfl rfl rfl rfl ?_
 refine U.r rfl (.take 3 true 8 _ hb6 rfl rfl rfl) rfl rfl (by exact Rd.pk' rfl rfl hb8 rfl) ?_
 refine U.pk hb6 ?_
 refine U.pd 1 T ?_
 exact St.wn (hJ4 _ hm)
 refine U.sks 8 3 true 8 hb6 rfl rfl rfl ?_
 refine U.sku 7 11 false 16 rfl rfl rfl ?_
 refine U.sks 1 3 true 8 hb6 rfl rfl rfl ?_
 refine U.pk' hb6 ?_
 refine U.pd 1 T ?_
 exact St.wn (hJ4 _ hm)
theorem T_floor_Near (f : ApiFloor) (a : Int) (b : Int) (post : Bool → Prop) (hm : V_floor_Near f a b post) :
    Tr Tryz.prog 119 [.agg (eApiFloor f), .i a, .i b] [] 0 (fun A H' k => ∃ y, post y ∧ A = (.b y) ∧ H' = [] ∧ k = 0) := by
 refine Tr.intro (n := 24) Tryz.func119 rfl Tryz.ntmps119 rfl (fun w0 ok F β hβ => ?_)
 unfold V_floor_Near at hm
 refine C.seq (U.start ?_)
 refine U.bx ?_
 refine U.pd 1 T (C.nx (C.seq (C.seq (U.start ?_))))
 refine U.ps 2 T rfl ?_
 refine U.k (T_floor_is f b _ hm) en149 (fun x5 hm => ?_)
 refine U.pd 1 T (C.nx ?_)
 refine C.ite rfl hm (fun hb6 hm => ?_) (fun hb6 hm => ?_)
 refine C.seq (U.start ?_)
 refine U.pd 1 T (C.nx (C.ret (C.rt ?_)))
 exact C.f1 T hβ ⟨false, hm, rfl, rfl, rfl⟩
 refine C.skip (C.nx (C.seq (C.seq (U.start ?_))))
 refine U.pd 2 T (C.nx ?_)
 refine C.jn (fun (x11 : Unit) => []) (fun (x11 : Unit) => []) 0 hm (fun x11 hm => ?_) (fun J12 hm hJ12 => ?_)
 refine C.nx (C.seq (U.start ?_))
 refine U.pd 1 T (C.nx (C.ret ?_))
 exact C.f1 T hβ ⟨false, hm, rfl, rfl, rfl⟩
 refine C.block ?_
 refine St.wk (C.loop (fun (s13 : Int) => [(1, .i a), (2, .i b), (3, .p 0 0), (13, .agg [.i 0, .i 1, .i 2, .i 3]), (14, .i s13)]) (fun (s13 : Int) => [(0, .box (eApiFloor f))]) hm (fun s13 Y14 hm => ?_)) (Wk.a [some 0])
 refine C.seq (U.start ?_)
 refine U.pd 1 T (C.nx (C.seq ?_))
 refine C.ite rfl hm (fun hb17 hm => ?_) (fun hb17 hm => ?_)
 refine C.skip (C.nx (C.seq (C.block (C.seq (U.start ?_)))))
 obtain ⟨x20, hx20, hm⟩ := hm
 refine U.r rfl (.none rfl) rfl rfl (by exact Rd.ia1 T (enc := eI) rfl rfl rfl rfl rfl rfl rfl rfl rfl (fun _ => rfl) rfl hx20) ?_
 refine U.pd 1 T (C.nx (C.seq (U.start ?_)))
 refine U.ps 3 T rfl ?_
 refine U.k (T_floor_beside f a x20 _ hm) en77 (fun x23 hm => ?_)
 refine U.pd 2 T (C.nx ?_)
 refine C.ite rfl hm (fun hb24 hm => ?_) (fun hb24 hm => ?_)
 refine C.seq (U.start ?_)
 refine U.pd 1 T (C.nx (C.ret (C.brt (C.rt (C.rt (C.brt (C.rt ?_)))))))
 exact C.f1 T hβ ⟨true, hm, rfl, rfl, rfl⟩
 refine C.skip (C.bnx (C.nx (U.start ?_)))
 refine U.pd 2 T (C.nx ?_)
 exact St.wk (C.next hm) (Wk.a [some 0])
 refine C.exit (C.ex (C.ex (C.bex ?_)))
 exact St.wk (hJ12 _ hm) (Wk.mk' [] rfl rfl trivial trivial rfl)
theorem T_rules_Carried_1 (r : ApiRobot) (c0 : Int) (post : Bool → Prop) (hm : V_rules_Carried_1 r c0 post) :
    Tr Tryz.prog 205 [.agg (eApiRobot r), .rp [.i c0]] [] 0 (fun A H' k => ∃ y, post y ∧ A = (.b y) ∧ H' = [] ∧ k = 0) := by
 refine Tr.intro (n := 8) Tryz.func205 rfl Tryz.ntmps205 rfl (fun w0 ok F β hβ => ?_)
 unfold V_rules_Carried_1 at hm
 refine C.seq (U.start ?_)
 refine U.bx ?_
 refine U.pd 1 T (C.nx (C.seq (U.start ?_)))
 refine U.pd 5 T (C.nx (C.ret ?_))
 exact C.f1 T hβ ⟨(r.Load == c0), hm, rfl, rfl, rfl⟩
theorem T_slices_IndexFunc_api_Robot_api_Robot__rules_Carried_1 (s_1 : List ApiRobot) (f_c0 : Int) (post : Int → Prop) (hm : V_slices_IndexFunc_api_Robot_api_Robot__rules_Carried_1 s_1 f_c0 post) :
    Tr Tryz.prog 83 [.sl 6 eApiRobot s_1, .fn (.func 205) [] [.rp [.i f_c0]]] [] 0 (fun A H' k => ∃ y, post y ∧ A = (.i y) ∧ H' = [] ∧ k = 0) := by
 refine Tr.intro (n := 19) Tryz.func83 rfl Tryz.ntmps83 rfl (fun w0 ok F β hβ => ?_)
 unfold V_slices_IndexFunc_api_Robot_api_Robot__rules_Carried_1 at hm
 refine C.seq (U.start ?_)
 refine U.pd 1 T (C.nx (C.seq (C.seq (U.start ?_))))
 refine U.pd 3 T (C.nx ?_)
 refine C.jn (fun (x5 : Unit) => []) (fun (x5 : Unit) => []) 0 hm (fun x5 hm => ?_) (fun J6 hm hJ6 => ?_)
 refine C.nx (C.seq (U.start ?_))
 refine U.pd 1 T (C.nx (C.ret ?_))
 exact C.f1 T hβ ⟨(-1), hm, rfl, rfl, rfl⟩
 refine C.block ?_
 refine St.wk (C.loop (fun (s7 : Int) => [(0, .sl 6 eApiRobot s_1), (1, .fn (.func 205) [] [.rp [.i f_c0]]), (7, .i (s_1.length : Int)), (8, .i s7)]) (fun (s7 : Int) => []) hm (fun s7 Y8 hm => ?_)) (Wk.e)
 refine C.seq (U.start ?_)
 refine U.pd 1 T (C.nx (C.seq ?_))
 refine C.ite rfl hm (fun hb11 hm => ?_) (fun hb11 hm => ?_)
 refine C.skip (C.nx (C.seq (C.block (C.seq (U.start ?_)))))
 refine U.pd 2 T (C.nx (C.seq (U.start ?_)))
 refine U.ps 3 T rfl ?_
 obtain ⟨x16, hx16, hm⟩ := hm
 refine U.r rfl (.none rfl) rfl rfl (by exact Rd.ix T rfl rfl rfl rfl rfl rfl hx16) ?_
 refine U.ps 1 T rfl ?_
 refine U.k (T_rules_Carried_1 x16 f_c0 _ hm) en205 (fun x17 hm => ?_)
 refine U.done (C.nx ?_)
 refine C.ite rfl hm (fun hb18 hm => ?_) (fun hb18 hm => ?_)
 refine C.seq (U.start ?_)
 refine U.pd 2 T (C.nx (C.ret (C.brt (C.rt (C.rt (C.brt (C.rt ?_)))))))
 exact C.f1 T hβ ⟨s7, hm, rfl, rfl, rfl⟩
 refine C.skip (C.bnx (C.nx (U.start ?_)))
 refine U.pd 2 T (C.nx ?_)
 exact St.wk (C.next hm) (Wk.e)
 refine C.exit (C.ex (C.ex (C.bex ?_)))
 exact St.wk (hJ6 _ hm) (Wk.mk' [] rfl rfl trivial trivial rfl)
theorem T_rules_Carried (st : ApiState) (shelf : Int) (post : Int → Prop) (hm : V_rules_Carried st shelf post) :
    Tr Tryz.prog 165 [.agg (eApiState st), .i shelf] [] 0 (fun A H' k => ∃ y, post y ∧ A = (.i y) ∧ H' = [] ∧ k = 0) := by
 refine Tr.intro (n := 11) Tryz.func165 rfl Tryz.ntmps165 rfl (fun w0 ok F β hβ => ?_)
 unfold V_rules_Carried at hm
 refine C.seq (U.start ?_)
 refine U.bx ?_
 refine U.bx ?_
 refine U.pd 1 T (C.nx (C.seq (C.seq (U.start ?_))))
 refine U.pd 2 T (C.nx ?_)
 refine C.ite rfl hm (fun hb5 hm => ?_) (fun hb5 hm => ?_)
 refine C.seq (U.start ?_)
 refine U.pd 1 T (C.nx (C.ret (C.rt ?_)))
 exact C.f1 T hβ ⟨(-1), hm, rfl, rfl, rfl⟩
 refine C.skip (C.nx (C.seq (U.start ?_)))
 refine U.ps 3 T rfl ?_
 refine U.k (T_slices_IndexFunc_api_Robot_api_Robot__rules_Carried_1 st.Robots shelf _ hm) en83 (fun x10 hm => ?_)
 refine U.pd 1 T (C.nx (C.ret ?_))
 exact C.f1 T hβ ⟨x10, hm, rfl, rfl, rfl⟩
theorem T_rules_Class (s_1 : ApiSite) (shelf : Int) (post : ByteArray → Prop) (hm : V_rules_Class s_1 shelf post) :
    Tr Tryz.prog 167 [.agg (eApiSite s_1), .i shelf] [] 0 (fun A H' k => ∃ y, post y ∧ A = (.v (.string y)) ∧ H' = [] ∧ k = 0) := by
 refine Tr.intro (n := 20) Tryz.func167 rfl Tryz.ntmps167 rfl (fun w0 ok F β hβ => ?_)
 unfold V_rules_Class at hm
 refine C.seq (U.start ?_)
 refine U.bx ?_
 refine U.pd 1 T (C.nx (C.seq (C.seq ?_)))
 refine C.jn (fun (x3 : Bool) => [(1, .i shelf), (2, .p 0 0), (13, .b x3)]) (fun (x3 : Bool) => [(0, .box (eApiSite s_1))]) 1 hm (fun x3 hm => ?_) (fun J4 hm hJ4 => ?_)
 refine C.nx ?_
 refine C.ite rfl hm (fun hb6 hm => ?_) (fun hb6 hm => ?_)
 refine C.seq (U.start ?_)
 refine U.pd 1 T (C.nx (C.ret (C.rt ?_)))
 exact C.f1 T hβ ⟨ByteArray.empty, hm, rfl, rfl, rfl⟩
 refine C.skip (C.nx (C.seq (U.start ?_)))
 refine U.ps 3 T rfl ?_
 obtain ⟨x11, hx11, hm⟩ := hm
 refine U.r rfl (.none rfl) rfl rfl (by exact Rd.ix T rfl rfl rfl rfl rfl rfl hx11) ?_
 refine U.pd 3 T (C.nx (C.ret ?_))
 exact C.f1 T hβ ⟨x11.Class, hm, rfl, rfl, rfl⟩
 refine U.start ?_
 refine U.ps 3 T rfl ?_
 refine hm.cs (fun hb5 hm => ?_) (fun hb5 hm => ?_)
 refine U.sks 5 2 false 7 hb5 rfl rfl rfl ?_
 refine U.pk hb5 ?_
 refine U.done ?_
 exact St.wa [some 0] (hJ4 _ hm)
 refine U.pg 5 2 false 7 hb5 T rfl rfl rfl rfl ?_
 refine U.pk' hb5 ?_
 refine U.done ?_
 exact St.wa [some 0] (hJ4 _ hm)
theorem T_rules_classes (s_1 : ApiSite) (post : (List (ApiApart × Bool)) → Prop) (hm : V_rules_classes s_1 post) :
    Tr Tryz.prog 206 [.agg (eApiSite s_1)] [] 0 (fun A H' k => ∃ y, post y ∧ A = (.o 0) ∧ H' = [(0, .val (.om kApiApart veB y))] ∧ k = 1) := by
 refine Tr.intro (n := 24) Tryz.func206 rfl Tryz.ntmps206 rfl (fun w0 ok F β hβ => ?_)
 unfold V_rules_classes at hm
 refine C.seq (U.start ?_)
 refine U.bx ?_
 refine U.pd 1 T (C.nx (C.seq (U.start ?_)))
 refine U.e1 rfl (.none rfl) (by exact Eff1.mm kApiApart veB rfl rfl rfl) ?_
 refine U.pd 1 T (C.nx (C.seq (C.seq (U.start ?_))))
 refine U.pd 4 T (C.nx ?_)
 refine C.jn (fun (x7 : List (ApiApart × Bool)) => [(3, .o 0)]) (fun (x7 : List (ApiApart × Bool)) => [(0, .val (.om kApiApart veB x7))]) 1 hm (fun x7 hm => ?_) (fun J8 hm hJ8 => ?_)
 refine C.nx (C.seq (U.start ?_))
 refine U.pd 2 T (C.nx (C.ret ?_))
 exact C.g1 [some 0] T hβ ⟨x7, hm, rfl, rfl, rfl⟩
 refine C.block ?_
 refine St.wk (C.loop (fun (s9 : List (ApiApart × Bool) × Int) => [(3, .o 0), (8, .sl 2 eApiApart s_1.Aparts), (9, .i (s_1.Aparts.length : Int)), (10, .i s9.2)]) (fun (s9 : List (ApiApart × Bool) × Int) => [(0, .val (.om kApiApart veB s9.1))]) hm (fun s9 Y10 hm => ?_)) (Wk.a [some 1])
 refine C.seq (U.start ?_)
 refine U.pd 1 T (C.nx (C.seq ?_))
 refine C.ite rfl hm (fun hb13 hm => ?_) (fun hb13 hm => ?_)
 refine C.skip (C.nx (C.seq (C.block (C.seq (U.start ?_)))))
 obtain ⟨x16, hx16, hm⟩ := hm
 refine U.r rfl (.none rfl) rfl rfl (by exact Rd.ix T rfl rfl rfl rfl rfl rfl hx16) ?_
 refine U.ps 1 T rfl ?_
 refine U.e1 rfl (.none rfl) (by exact Eff1.al T rfl rfl rfl rfl) ?_
 refine U.e1 rfl (.none rfl) (by exact Eff1.st T rfl rfl rfl rfl rfl rfl rfl rfl rfl rfl) ?_
 refine U.done (C.nx ?_)
 refine D.beg 9 [1] [0] mix rfl rfl (by kernel_rfl) (by repeat (first | exact NoPanicQ.body | exact NoPanicQ.rnd | refine NoPanicQ.th ?_ | refine NoPanicQ.blk ?_ | refine NoPanicQ.ng ?_)) (fun hQ hS ws M' => ?_)
 refine D.ps 8 [(0, []), (1, []), (2, []), (3, []), (4, []), (5, []), (6, []), (7, [])] rfl hQ hS T rfl rfl (by kernel_rfl) ?_
 refine D.e1 8 rfl (.none rfl) (by exact Eff1.mu T (x := x16) (y := true) (.inl rfl) rfl kt88 (fun _ => rfl) rfl rfl rfl rfl rfl (.inl rfl) rfl) (by kernel_rfl) rfl rfl ?_
 refine D.ze1 rfl (.none rfl) (by exact Eff1.mu T (x := ({ A := x16.B, B := x16.A : ApiApart })) (y := true) (.inl rfl) rfl kt88 (fun _ => rfl) rfl rfl rfl rfl rfl (.inl rfl) rfl) (by kernel_rfl) (by kernel_rfl) ?_
 refine C.bnx (C.nx (U.start ?_))
 refine U.pd 2 T (C.nx ?_)
 exact St.wk (C.next hm) (Wk.a [some 0])
 refine C.exit (C.ex (C.ex (C.bex ?_)))
 exact St.wa [some 0] (hJ8 _ hm)
theorem T_rules_Never (s_1 : ApiSite) (a : ByteArray) (b : ByteArray) (post : Bool → Prop) (hm : V_rules_Never s_1 a b post) :
    Tr Tryz.prog 166 [.agg (eApiSite s_1), .v (.string a), .v (.string b)] [] 0 (fun A H' k => ∃ y, post y ∧ A = (.b y) ∧ H' = [] ∧ k = 0) := by
 refine Tr.intro (n := 21) Tryz.func166 rfl Tryz.ntmps166 rfl (fun w0 ok F β hβ => ?_)
 unfold V_rules_Never at hm
 refine C.seq (U.start ?_)
 refine U.bx ?_
 refine U.pd 1 T (C.nx (C.seq ?_))
 refine C.jn (fun (x3 : Bool) => [(6, .b x3)]) (fun (x3 : Bool) => []) 0 hm (fun x3 hm => ?_) (fun J4 hm hJ4 => ?_)
 refine C.nx (C.ret ?_)
 exact C.f1 T hβ ⟨x3, hm, rfl, rfl, rfl⟩
 refine U.start ?_
 refine U.ps 3 T rfl ?_
 refine hm.cs (fun hb5 hm => ?_) (fun hb5 hm => ?_)
 refine U.sks 2 2 true 9 (ntF hb5) rfl rfl rfl ?_
 refine U.r rfl (.none rfl) rfl rfl (by exact Rd.pk' rfl rfl (ntF hb5) rfl) ?_
 refine U.ps 1 T rfl ?_
 refine U.sks 6 6 true 13 rfl rfl rfl rfl ?_
 refine U.pk' rfl ?_
 refine U.pd 1 T ?_
 exact St.wn (hJ4 _ hm)
 refine U.pg 2 2 true 9 (ntT hb5) T rfl rfl rfl rfl ?_
 refine U.r rfl (.none rfl) rfl rfl (by exact Rd.pk rfl rfl (ntT hb5) rfl) ?_
 refine U.ps 1 T rfl ?_
 refine hm.cs (fun hb6 hm => ?_) (fun hb6 hm => ?_)
 refine U.sks 6 6 true 13 (ntF hb6) rfl rfl rfl ?_
 refine U.r rfl (.none rfl) rfl rfl (by exact Rd.pk' rfl rfl (ntF hb6) rfl) ?_
 refine U.pd 1 T ?_
 exact St.wn (hJ4 _ hm)
 refine U.pg 1 6 true 13 (ntT hb6) T rfl rfl rfl rfl ?_
 refine U.k (T_rules_classes s_1 _ hm) en206 (fun x7 hm => ?_) (hw := .take 6 true 13 _ (ntT hb6) rfl rfl rfl)
 refine U.pg 3 6 true 13 (ntT hb6) T rfl rfl rfl rfl ?_
 refine U.r rfl (.take 6 true 13 _ (ntT hb6) rfl rfl rfl) rfl rfl (by exact Rd.lk T (ke := kApiApart) (ve := veB) (xs := x7) (z0 := false) (x := ({ A := a, B := b : ApiApart })) rfl rfl kt88 zt4 (fun _ => rfl) rfl (.o rfl) rfl rfl rfl) ?_
 refine U.r rfl (.none rfl) rfl rfl (by exact Rd.pk rfl rfl (ntT hb6) rfl) ?_
 refine U.pd 1 T ?_
 exact St.wn (hJ4 _ hm)
theorem T_rules_Drop (s_1 : ApiSite) (st : ApiState) (shelf : Int) (c : Int) (post : Int → Prop) (hm : V_rules_Drop s_1 st shelf c post) :
    Tr Tryz.prog 103 [.agg (eApiSite s_1), .agg (eApiState st), .i shelf, .i c] [] 0 (fun A H' k => ∃ y, post y ∧ A = (.i y) ∧ H' = [] ∧ k = 0) := by
 refine Tr.intro (n := 70) Tryz.func103 rfl Tryz.ntmps103 rfl (fun w0 ok F β hβ => ?_)
 unfold V_rules_Drop at hm
 refine C.seq (U.start ?_)
 refine U.bx ?_
 refine U.bx ?_
 refine U.pd 1 T (C.nx (C.seq (C.block (C.seq ?_))))
 refine C.jn (fun (x3 : Bool) => [(2, .i shelf), (3, .i c), (4, .p 0 0), (5, .p 1 0), (12, .b x3)]) (fun (x3 : Bool) => [(0, .box (eApiSite s_1)), (1, .box (eApiState st))]) 2 hm (fun x3 hm => ?_) (fun J4 hm hJ4 => ?_)
 refine C.nx ?_
 refine C.ite rfl hm (fun hb6 hm => ?_) (fun hb6 hm => ?_)
 refine C.seq (U.start ?_)
 refine U.pd 1 T (C.nx (C.ret (C.brt (C.rt ?_))))
 exact C.f1 T hβ ⟨4, hm, rfl, rfl, rfl⟩
 refine C.seq (U.start ?_)
 refine U.ps 2 T rfl ?_
 refine U.k (T_rules_Stands s_1 c _ hm) en164 (fun x11 hm => ?_)
 refine U.pd 2 T (C.nx ?_)
 refine C.ite rfl hm (fun hb12 hm => ?_) (fun hb12 hm => ?_)
 refine C.seq (U.start ?_)
 refine U.pd 1 T (C.nx (C.ret (C.brt (C.rt ?_))))
 exact C.f1 T hβ ⟨13, hm, rfl, rfl, rfl⟩
 refine C.skip (C.bnx (C.nx (C.seq (U.start ?_))))
 refine U.pd 1 T (C.nx (C.seq (C.seq (U.start ?_))))
 refine U.pd 4 T (C.nx ?_)
 refine C.jn (fun (x19 : Int) => [(9, .i x19)]) (fun (x19 : Int) => []) 0 hm (fun x19 hm => ?_) (fun J20 hm hJ20 => ?_)
 refine C.nx (C.seq (U.start ?_))
 refine U.pd 2 T (C.nx (C.ret ?_))
 exact C.f1 T hβ ⟨x19, hm, rfl, rfl, rfl⟩
 refine C.block ?_
 refine St.wk (C.loop (fun (s21 : Int × Int) => [(2, .i shelf), (3, .i c), (4, .p 0 0), (5, .p 1 0), (9, .i s21.1), (28, .sl 1 eI st.Shelves), (29, .i (st.Shelves.length : Int)), (30, .i s21.2)]) (fun (s21 : Int × Int) => [(0, .box (eApiSite s_1)), (1, .box (eApiState st))]) hm (fun s21 Y22 hm => ?_)) (Wk.a (idR 2))
 refine C.seq (U.start ?_)
 refine U.pd 1 T (C.nx (C.seq ?_))
 refine C.ite rfl hm (fun hb25 hm => ?_) (fun hb25 hm => ?_)
 refine C.skip (C.nx (C.seq ?_))
 refine C.jn (fun (x26 : Int) => [(2, .i shelf), (3, .i c), (4, .p 0 0), (5, .p 1 0), (9, .i x26), (28, .sl 1 eI st.Shelves), (29, .i (st.Shelves.length : Int)), (30, .i s21.2)]) (fun (x26 : Int) => [(0, .box (eApiSite s_1)), (1, .box (eApiState st))]) 2 hm (fun x26 hm => ?_) (fun J27 hm hJ27 => ?_)
 refine C.nx (U.start ?_)
 refine U.pd 2 T (C.nx ?_)
 exact St.wk (C.next hm) (Wk.a (idR 2))
 refine C.block (C.seq (U.start ?_))
 refine U.ps 1 T rfl ?_
 obtain ⟨x30, hx30, hm⟩ := hm
 refine U.r rfl (.none rfl) rfl rfl (by exact Rd.ix T rfl rfl rfl rfl rfl rfl hx30) ?_
 refine U.pd 3 T (C.nx (C.seq (C.seq ?_)))
 refine C.jn (fun (x31 : Bool) => [(2, .i shelf), (3, .i c), (4, .p 0 0), (5, .p 1 0), (9, .i s21.1), (10, .i s21.2), (11, .i x30), (28, .sl 1 eI st.Shelves), (29, .i (st.Shelves.length : Int)), (30, .i s21.2), (56, .b x31)]) (fun (x31 : Bool) => [(0, .box (eApiSite s_1)), (1, .box (eApiState st))]) 2 hm (fun x31 hm => ?_) (fun J32 hm hJ32 => ?_)
 refine C.nx ?_
 refine C.ite rfl hm (fun hb39 hm => ?_) (fun hb39 hm => ?_)
 refine C.exit (C.ex (C.bex ?_))
 exact St.wa (idR 2) (hJ27 _ hm)
 refine C.skip (C.nx (C.seq (C.seq (U.start ?_))))
 refine U.pd 3 T (C.nx ?_)
 refine C.ite rfl hm (fun hb42 hm => ?_) (fun hb42 hm => ?_)
 refine C.seq (U.start ?_)
 refine U.pd 1 T (C.nx (C.ret (C.rt (C.brt (C.rt (C.rt (C.brt (C.rt ?_))))))))
 exact C.f1 T hβ ⟨13, hm, rfl, rfl, rfl⟩
 refine C.skip (C.nx (C.seq ?_))
 refine D.beg 7 [0] [] mix rfl rfl (by kernel_rfl) (by repeat (first | exact NoPanicQ.body | exact NoPanicQ.rnd | refine NoPanicQ.th ?_ | refine NoPanicQ.blk ?_ | refine NoPanicQ.ng ?_)) (fun hQ hS ws M' => ?_)
 refine D.ps 5 [(0, []), (1, [3]), (2, [3]), (4, [6]), (5, [6])] rfl hQ hS T rfl rfl (by kernel_rfl) ?_
 refine D.k 3 (T_rules_Class s_1 shelf _ hm) en167 (fun x47 hm => ?_)
 refine D.k 6 (T_rules_Class s_1 s21.2 _ hm) en167 (fun x48 hm => ?_)
 refine D.ze rfl (.none rfl) (by exact Eff.k (T_rules_Never s_1 x47 x48 _ hm) en166 rfl rfl rfl (.eq rfl) (fun _ _ => ⟨(.v _), trivial⟩)) (by kernel_rfl) (by kernel_rfl) (fun x49' hm => ?_)
 obtain ⟨x49⟩ := x49'
 refine C.nx ?_
 refine C.jn (fun (x50 : Int) => [(2, .i shelf), (3, .i c), (4, .p 0 0), (5, .p 1 0), (9, .i x50), (28, .sl 1 eI st.Shelves), (29, .i (st.Shelves.length : Int)), (30, .i s21.2)]) (fun (x50 : Int) => [(0, .box (eApiSite s_1)), (1, .box (eApiState st))]) 2 hm (fun x50 hm => ?_) (fun J51 hm hJ51 => ?_)
 refine C.bnx ?_
 exact St.wa (idR 2) (hJ27 _ hm)
 refine C.ite rfl hm (fun hb52 hm => ?_) (fun hb52 hm => ?_)
 refine U.start ?_
 refine U.pd 1 T ?_
 exact St.wa (idR 2) (hJ51 _ hm)
 refine C.skip ?_
 exact St.wa (idR 2) (hJ51 _ hm)
 refine U.start ?_
 refine U.ps 4 T rfl ?_
 refine hm.cs (fun hb33 hm => ?_) (fun hb33 hm => ?_)
 refine U.sks 4 3 false 38 hb33 rfl rfl rfl ?_
 refine U.sku 6 7 true 42 rfl rfl rfl ?_
 refine U.sks 1 3 false 38 hb33 rfl rfl rfl ?_
 refine U.pk hb33 ?_
 refine U.ps 1 T rfl ?_
 refine U.sks 4 16 false 51 rfl rfl rfl rfl ?_
 refine U.pk rfl ?_
 refine U.done ?_
 exact St.wa (idR 2) (hJ32 _ hm)
 refine U.pg 4 3 false 38 hb33 T rfl rfl rfl rfl ?_
 refine hm.cs (fun hb34 hm => ?_) (fun hb34 hm => ?_)
 refine U.pg 4 7 true 42 hb34 T rfl rfl rfl rfl ?_
 refine U.k (T_floor_Near s_1.Floor x30 c _ hm) en119 (fun x35 hm => ?_) (hw := .take 7 true 42 _ hb34 rfl rfl rfl)
 refine U.pg 1 7 true 42 hb34 T rfl rfl rfl rfl ?_
 refine U.r rfl (.take 3 false 38 _ hb33 rfl rfl rfl) rfl rfl (by exact Rd.pk rfl rfl hb34 rfl) ?_
 refine U.pk' hb33 ?_
 refine U.ps 1 T rfl ?_
 refine hm.cs (fun hb36 hm => ?_) (fun hb36 hm => ?_)
 refine U.pg 2 16 false 51 (ntF hb36) T rfl rfl rfl rfl ?_
 refine U.k (T_rules_Carried st s21.2 _ hm) en165 (fun x37 hm => ?_) (hw := .take 16 false 51 _ (ntF hb36) rfl rfl rfl)
 refine U.pg 1 16 false 51 (ntF hb36) T rfl rfl rfl rfl ?_
 refine U.r rfl (.none rfl) rfl rfl (by exact Rd.pk' rfl rfl (ntF hb36) rfl) ?_
 refine U.done ?_
 exact St.wa (idR 2) (hJ32 _ hm)
 refine U.sks 4 16 false 51 (ntT hb36) rfl rfl rfl ?_
 refine U.r rfl (.none rfl) rfl rfl (by exact Rd.pk rfl rfl (ntT hb36) rfl) ?_
 refine U.done ?_
 exact St.wa (idR 2) (hJ32 _ hm)
 refine U.sks 6 7 true 42 hb34 rfl rfl rfl ?_
 refine U.r rfl (.take 3 false 38 _ hb33 rfl rfl rfl) rfl rfl (by exact Rd.pk' rfl rfl hb34 rfl) ?_
 refine U.pk' hb33 ?_
 refine U.ps 1 T rfl ?_
 refine U.pg 2 16 false 51 rfl T rfl rfl rfl rfl ?_
 refine U.k (T_rules_Carried st s21.2 _ hm) en165 (fun x38 hm => ?_) (hw := .take 16 false 51 _ rfl rfl rfl rfl)
 refine U.pg 1 16 false 51 rfl T rfl rfl rfl rfl ?_
 refine U.pk' rfl ?_
 refine U.done ?_
 exact St.wa (idR 2) (hJ32 _ hm)
 refine C.exit (C.ex (C.ex (C.bex ?_)))
 exact St.wn (hJ20 _ hm)
 refine U.start ?_
 refine U.ps 3 T rfl ?_
 refine hm.cs (fun hb5 hm => ?_) (fun hb5 hm => ?_)
 refine U.sks 5 2 false 15 hb5 rfl rfl rfl ?_
 refine U.pk hb5 ?_
 refine U.pd 1 T ?_
 exact St.wa (idR 2) (hJ4 _ hm)
 refine U.pg 5 2 false 15 hb5 T rfl rfl rfl rfl ?_
 refine U.pk' hb5 ?_
 refine U.pd 1 T ?_
 exact St.wa (idR 2) (hJ4 _ hm)
theorem T_act_Legal (s_1 : ApiSite) (st : ApiState) (robot : Int) (act : Int) (post : Int → Prop) (hm : V_act_Legal s_1 st robot act post) :
    Tr Tryz.prog 36 [.agg (eApiSite s_1), .agg (eApiState st), .i robot, .i act] [] 0 (fun A H' k => ∃ y, post y ∧ A = (.i y) ∧ H' = [] ∧ k = 0) := by
 refine Tr.intro (n := 110) Tryz.func36 rfl Tryz.ntmps36 rfl (fun w0 ok F β hβ => ?_)
 unfold V_act_Legal at hm
 refine C.seq (U.start ?_)
 refine U.bx ?_
 refine U.bx ?_
 refine U.pd 1 T (C.nx (C.seq (C.seq ?_)))
 refine C.jn (fun (x3 : Bool) => [(2, .i robot), (3, .i act), (4, .p 0 0), (5, .p 1 0), (22, .b x3)]) (fun (x3 : Bool) => [(0, .box (eApiSite s_1)), (1, .box (eApiState st))]) 2 hm (fun x3 hm => ?_) (fun J4 hm hJ4 => ?_)
 refine C.nx ?_
 refine C.ite rfl hm (fun hb6 hm => ?_) (fun hb6 hm => ?_)
 refine C.seq (U.start ?_)
 refine U.pd 1 T (C.nx (C.ret (C.rt ?_)))
 exact C.f1 T hβ ⟨4, hm, rfl, rfl, rfl⟩
 refine C.skip (C.nx (C.seq (C.seq ?_)))
 refine C.jn (fun (x9 : Bool) => [(2, .i robot), (3, .i act), (4, .p 0 0), (5, .p 1 0), (28, .b x9)]) (fun (x9 : Bool) => [(0, .box (eApiSite s_1)), (1, .box (eApiState st))]) 2 hm (fun x9 hm => ?_) (fun J10 hm hJ10 => ?_)
 refine C.nx ?_
 refine C.ite rfl hm (fun hb12 hm => ?_) (fun hb12 hm => ?_)
 refine C.seq (U.start ?_)
 refine U.pd 1 T (C.nx (C.ret (C.rt ?_)))
 exact C.f1 T hβ ⟨1, hm, rfl, rfl, rfl⟩
 refine C.skip (C.nx (C.seq (C.seq (U.start ?_))))
 refine U.pd 2 T (C.nx ?_)
 refine C.ite rfl hm (fun hb17 hm => ?_) (fun hb17 hm => ?_)
 refine C.seq (U.start ?_)
 refine U.pd 1 T (C.nx (C.ret (C.rt ?_)))
 exact C.f1 T hβ ⟨0, hm, rfl, rfl, rfl⟩
 refine C.skip (C.nx (C.seq (U.start ?_)))
 refine U.ps 3 T rfl ?_
 obtain ⟨x22, hx22, hm⟩ := hm
 refine U.r rfl (.none rfl) rfl rfl (by exact Rd.ix T rfl rfl rfl rfl rfl rfl hx22) ?_
 refine U.ps 1 T rfl ?_
 refine U.e1 rfl (.none rfl) (by exact Eff1.al T rfl rfl rfl rfl) ?_
 refine U.e1 rfl (.none rfl) (by exact Eff1.st T rfl rfl rfl rfl rfl rfl rfl rfl rfl rfl) ?_
 refine U.done (C.nx (C.seq (U.start ?_)))
 refine U.ps 1 T rfl ?_
 refine U.k (T_act_direction act _ hm) en99 (fun x25 hm => ?_)
 refine U.pd 5 T (C.nx (C.seq (C.seq ?_)))
 refine C.jn (fun (x26 : Bool) => [(3, .i act), (4, .p 0 0), (5, .p 1 0), (9, .p 2 0), (10, .i x25.1), (11, .b x25.2), (47, .b x26)]) (fun (x26 : Bool) => [(0, .box (eApiSite s_1)), (1, .box (eApiState st)), (2, .box (eApiRobot x22))]) 3 hm (fun x26 hm => ?_) (fun J27 hm hJ27 => ?_)
 refine C.nx ?_
 refine C.ite rfl hm (fun hb29 hm => ?_) (fun hb29 hm => ?_)
 refine C.seq (U.start ?_)
 refine U.pd 1 T (C.nx (C.ret (C.rt ?_)))
 exact C.f1 T hβ ⟨9, hm, rfl, rfl, rfl⟩
 refine C.skip (C.nx (C.seq (C.seq ?_)))
 refine C.jn (fun (x32 : Bool) => [(3, .i act), (4, .p 0 0), (5, .p 1 0), (9, .p 2 0), (10, .i x25.1), (11, .b x25.2), (53, .b x32)]) (fun (x32 : Bool) => [(0, .box (eApiSite s_1)), (1, .box (eApiState st)), (2, .box (eApiRobot x22))]) 3 hm (fun x32 hm => ?_) (fun J33 hm hJ33 => ?_)
 refine C.nx ?_
 refine C.ite rfl hm (fun hb35 hm => ?_) (fun hb35 hm => ?_)
 refine C.seq (U.start ?_)
 refine U.pd 1 T (C.nx (C.ret (C.rt ?_)))
 exact C.f1 T hβ ⟨8, hm, rfl, rfl, rfl⟩
 refine C.skip (C.nx (C.seq (C.seq (U.start ?_))))
 refine U.ps 8 T rfl ?_
 refine U.k (T_battery_After st.Tick x22.Charge act (decide (x22.Load ≥ 0)) _ hm) en100 (fun x40 hm => ?_)
 refine U.pd 5 T (C.nx (C.seq (U.start ?_)))
 refine U.pd 2 T (C.nx ?_)
 refine C.ite rfl hm (fun hb43 hm => ?_) (fun hb43 hm => ?_)
 refine C.seq (U.start ?_)
 refine U.pd 2 T (C.nx (C.ret (C.rt ?_)))
 exact C.f1 T hβ ⟨x40.2, hm, rfl, rfl, rfl⟩
 refine C.skip (C.nx (C.seq (C.block (C.seq (U.start ?_)))))
 refine U.pd 2 T (C.nx ?_)
 refine C.ite rfl hm (fun hb48 hm => ?_) (fun hb48 hm => ?_)
 refine C.seq (U.start ?_)
 refine U.ps 4 T rfl ?_
 refine U.k (T_act_move s_1 st x22 x25.1 _ hm) en101 (fun x51 hm => ?_)
 refine U.pd 1 T (C.nx (C.ret (C.brt (C.rt ?_))))
 exact C.f1 T hβ ⟨x51, hm, rfl, rfl, rfl⟩
 refine C.seq (U.start ?_)
 refine U.pd 3 T (C.nx ?_)
 refine C.ite rfl hm (fun hb54 hm => ?_) (fun hb54 hm => ?_)
 refine C.seq (U.start ?_)
 refine U.ps 3 T rfl ?_
 refine U.k (T_act_lift s_1 st x22 _ hm) en102 (fun x57 hm => ?_)
 refine U.pd 1 T (C.nx (C.ret (C.brt (C.rt ?_))))
 exact C.f1 T hβ ⟨x57, hm, rfl, rfl, rfl⟩
 refine C.seq ?_
 refine C.jn (fun (x58 : Bool) => [(3, .i act), (4, .p 0 0), (5, .p 1 0), (9, .p 2 0), (83, .b x58)]) (fun (x58 : Bool) => [(0, .box (eApiSite s_1)), (1, .box (eApiState st)), (2, .box (eApiRobot x22))]) 3 hm (fun x58 hm => ?_) (fun J59 hm hJ59 => ?_)
 refine C.nx ?_
 refine C.ite rfl hm (fun hb61 hm => ?_) (fun hb61 hm => ?_)
 refine C.seq (U.start ?_)
 refine U.pd 1 T (C.nx (C.ret (C.brt (C.rt ?_))))
 exact C.f1 T hβ ⟨7, hm, rfl, rfl, rfl⟩
 refine C.seq (U.start ?_)
 refine U.pd 3 T (C.nx ?_)
 refine C.ite rfl hm (fun hb66 hm => ?_) (fun hb66 hm => ?_)
 refine C.seq (U.start ?_)
 refine U.ps 6 T rfl ?_
 refine U.k (T_rules_Drop s_1 st x22.Load x22.Cell _ hm) en103 (fun x69 hm => ?_)
 refine U.pd 1 T (C.nx (C.ret (C.brt (C.rt ?_))))
 exact C.f1 T hβ ⟨x69, hm, rfl, rfl, rfl⟩
 refine C.seq (U.start ?_)
 refine U.ps 5 T rfl ?_
 obtain ⟨x72, hx72, hm⟩ := hm
 refine U.r rfl (.none rfl) rfl rfl (by exact Rd.ix T rfl rfl rfl rfl rfl rfl hx72) ?_
 refine U.pd 3 T (C.nx ?_)
 refine C.ite rfl hm (fun hb73 hm => ?_) (fun hb73 hm => ?_)
 refine C.seq (U.start ?_)
 refine U.pd 1 T (C.nx (C.ret (C.brt (C.rt ?_))))
 exact C.f1 T hβ ⟨13, hm, rfl, rfl, rfl⟩
 refine C.skip (C.bnx (C.nx (C.seq (U.start ?_))))
 refine U.pd 1 T (C.nx (C.ret ?_))
 exact C.f1 T hβ ⟨0, hm, rfl, rfl, rfl⟩
 refine U.start ?_
 refine U.ps 3 T rfl ?_
 refine hm.cs (fun hb60 hm => ?_) (fun hb60 hm => ?_)
 refine U.pg 3 2 true 86 hb60 T rfl rfl rfl rfl ?_
 refine U.pk hb60 ?_
 refine U.pd 1 T ?_
 exact St.wa (idR 3) (hJ59 _ hm)
 refine U.sks 3 2 true 86 hb60 rfl rfl rfl ?_
 refine U.pk' hb60 ?_
 refine U.pd 1 T ?_
 exact St.wa (idR 3) (hJ59 _ hm)
 refine U.start ?_
 refine U.ps 2 T rfl ?_
 refine hm.cs (fun hb34 hm => ?_) (fun hb34 hm => ?_)
 refine U.pg 3 1 true 49 hb34 T rfl rfl rfl rfl ?_
 refine U.pk hb34 ?_
 refine U.done ?_
 exact St.wa (idR 3) (hJ33 _ hm)
 refine U.sks 3 1 true 49 hb34 rfl rfl rfl ?_
 refine U.pk' hb34 ?_
 refine U.done ?_
 exact St.wa (idR 3) (hJ33 _ hm)
 refine U.start ?_
 refine U.ps 3 T rfl ?_
 refine hm.cs (fun hb28 hm => ?_) (fun hb28 hm => ?_)
 refine U.sks 3 2 false 43 hb28 rfl rfl rfl ?_
 refine U.pk hb28 ?_
 refine U.done ?_
 exact St.wa (idR 3) (hJ27 _ hm)
 refine U.pg 3 2 false 43 hb28 T rfl rfl rfl rfl ?_
 refine U.pk' hb28 ?_
 refine U.done ?_
 exact St.wa (idR 3) (hJ27 _ hm)
 refine U.start ?_
 refine U.ps 3 T rfl ?_
 refine hm.cs (fun hb11 hm => ?_) (fun hb11 hm => ?_)
 refine U.sks 2 2 false 25 hb11 rfl rfl rfl ?_
 refine U.pk hb11 ?_
 refine U.done ?_
 exact St.wa (idR 2) (hJ10 _ hm)
 refine U.pg 2 2 false 25 hb11 T rfl rfl rfl rfl ?_
 refine U.pk' hb11 ?_
 refine U.done ?_
 exact St.wa (idR 2) (hJ10 _ hm)
 refine U.start ?_
 refine U.ps 3 T rfl ?_
 refine hm.cs (fun hb5 hm => ?_) (fun hb5 hm => ?_)
 refine U.sks 5 2 false 16 hb5 rfl rfl rfl ?_
 refine U.pk hb5 ?_
 refine U.done ?_
 exact St.wa (idR 2) (hJ4 _ hm)
 refine U.pg 5 2 false 16 hb5 T rfl rfl rfl rfl ?_
 refine U.pk' hb5 ?_
 refine U.done ?_
 exact St.wa (idR 2) (hJ4 _ hm)
theorem T_body_Moving (f : ApiFloor) (st : ApiState) (acts : List Int) (post : (List Int) → Prop) (hm : V_body_Moving f st acts post) :
    Tr Tryz.prog 28 [.agg (eApiFloor f), .agg (eApiState st), .sl 1 eI acts] [] 0 (fun A H' k => ∃ y, post y ∧ A = (.o 0) ∧ H' = [(0, .val (.os 1 eI y))] ∧ k = 1) := by
 refine Tr.intro (n := 66) Tryz.func28 rfl Tryz.ntmps28 rfl (fun w0 ok F β hβ => ?_)
 unfold V_body_Moving at hm
 refine C.seq (U.start ?_)
 refine U.bx ?_
 refine U.bx ?_
 refine U.pd 1 T (C.nx (C.seq (U.start ?_)))
 refine U.ps 1 T rfl ?_
 refine U.k (T_body_all st _ hm) en76 (fun x5 hm => ?_)
 refine U.pd 1 T (C.nx (C.seq (C.seq (U.start ?_))))
 refine U.pd 4 T (C.nx ?_)
 refine C.jn (fun (x8 : List Int) => [(7, .o 0)]) (fun (x8 : List Int) => [(0, .val (.os 1 eI x8))]) 1 hm (fun x8 hm => ?_) (fun J9 hm hJ9 => ?_)
 refine C.nx (C.seq (U.start ?_))
 refine U.ps 1 T rfl ?_
 refine U.c [some 0] (T_slices_Sort_int_int__o0 x8 _ hm) en52 (fun x44 hm => ?_)
 refine U.done (C.nx (C.seq (U.start ?_)))
 refine U.pd 2 T (C.nx (C.ret ?_))
 exact C.g1 [some 0] T hβ ⟨x44, hm, rfl, rfl, rfl⟩
 refine C.block ?_
 refine St.wk (C.loop (fun (s10 : List Int × Int) => [(2, .sl 1 eI acts), (3, .p 0 0), (7, .o 1), (15, .sl 6 eApiRobot st.Robots), (16, .i (st.Robots.length : Int)), (17, .i s10.2)]) (fun (s10 : List Int × Int) => [(0, .box (eApiFloor f)), (1, .val (.os 1 eI s10.1))]) hm (fun s10 Y11 hm => ?_)) (Wk.a [some 0, some 2])
 refine C.seq (U.start ?_)
 refine U.pd 1 T (C.nx (C.seq ?_))
 refine C.ite rfl hm (fun hb14 hm => ?_) (fun hb14 hm => ?_)
 refine C.skip (C.nx (C.seq ?_))
 refine C.jn (fun (x15 : List Int) => [(2, .sl 1 eI acts), (3, .p 0 0), (7, .o 1), (15, .sl 6 eApiRobot st.Robots), (16, .i (st.Robots.length : Int)), (17, .i s10.2)]) (fun (x15 : List Int) => [(0, .box (eApiFloor f)), (1, .val (.os 1 eI x15))]) 2 hm (fun x15 hm => ?_) (fun J16 hm hJ16 => ?_)
 refine C.nx (U.start ?_)
 refine U.pd 2 T (C.nx ?_)
 exact St.wk (C.next hm) (Wk.a (idR 2))
 refine C.block (C.seq (U.start ?_))
 refine U.ps 1 T rfl ?_
 obtain ⟨x19, hx19, hm⟩ := hm
 refine U.r rfl (.none rfl) rfl rfl (by exact Rd.ix T rfl rfl rfl rfl rfl rfl hx19) ?_
 refine U.ps 1 T rfl ?_
 refine U.e1 rfl (.none rfl) (by exact Eff1.al T rfl rfl rfl rfl) ?_
 refine U.ps 1 T rfl ?_
 refine U.e1 rfl (.none rfl) (by exact Eff1.st T rfl rfl rfl rfl rfl rfl rfl rfl rfl rfl) ?_
 refine U.done (C.nx (C.seq (C.seq ?_)))
 refine C.jn (fun (x20 : Bool) => [(2, .sl 1 eI acts), (3, .p 0 0), (7, .o 1), (8, .i s10.2), (9, .p 2 0), (15, .sl 6 eApiRobot st.Robots), (16, .i (st.Robots.length : Int)), (17, .i s10.2), (43, .b x20)]) (fun (x20 : Bool) => [(0, .box (eApiFloor f)), (1, .val (.os 1 eI s10.1)), (2, .box (eApiRobot x19))]) 3 hm (fun x20 hm => ?_) (fun J21 hm hJ21 => ?_)
 refine C.nx ?_
 refine C.ite rfl hm (fun hb26 hm => ?_) (fun hb26 hm => ?_)
 refine C.exit (C.ex (C.bex ?_))
 exact St.wa (idR 2) (hJ16 _ hm)
 refine C.skip (C.nx (C.seq ?_))
 refine D.beg 9999 [0, 2] [] mix rfl rfl (by kernel_rfl) (by repeat (first | exact NoPanicQ.body | exact NoPanicQ.rnd | refine NoPanicQ.th ?_ | refine NoPanicQ.blk ?_ | refine NoPanicQ.ng ?_)) (fun hQ hS ws M' => ?_)
 refine D.ps 5 [(0, []), (1, []), (2, []), (3, []), (4, [])] rfl hQ hS T rfl rfl (by kernel_rfl) ?_
 obtain ⟨x29, hx29, hm⟩ := hm
 refine D.q 5 [] hQ hS rfl (.none rfl) rfl rfl (by exact Rd.ix T rfl rfl rfl rfl rfl rfl hx29) rfl (by kernel_rfl) ?_
 refine D.ps 2 [(6, []), (7, [])] rfl hQ hS T rfl rfl (by kernel_rfl) ?_
 refine D.k 8 (T_floor_Next f x19.Cell (w64 (x29 - 1)) _ hm) en24 (fun x30 hm => ?_)
 refine D.ps 5 [(9, []), (10, []), (11, []), (12, []), (13, [])] rfl hQ hS T rfl rfl (by kernel_rfl) ?_
 refine D.done (by kernel_rfl) ?_
 refine C.nx (C.seq (U.start ?_))
 refine U.pd 1 T (C.nx ?_)
 refine C.jn (fun (x33 : List Int) => [(2, .sl 1 eI acts), (3, .p 0 0), (7, .o 1), (15, .sl 6 eApiRobot st.Robots), (16, .i (st.Robots.length : Int)), (17, .i s10.2)]) (fun (x33 : List Int) => [(0, .box (eApiFloor f)), (1, .val (.os 1 eI x33))]) 2 hm (fun x33 hm => ?_) (fun J34 hm hJ34 => ?_)
 refine C.bnx ?_
 exact St.wa (idR 2) (hJ16 _ hm)
 refine C.ite rfl hm (fun hb35 hm => ?_) (fun hb35 hm => ?_)
 refine U.start ?_
 refine U.ps 3 T rfl ?_
 refine U.k (T_body_at x19 x30.1 _ hm) en82 (fun x38 hm => ?_)
 obtain ⟨hx39, hm⟩ := hm
 refine U.e1 rfl (.none rfl) (by exact Eff1.ap T rfl rfl rfl rfl rfl rfl (.inr ⟨_, rfl, rfl⟩) rfl rfl rfl (fun _ => rfl) rfl hx39) ?_
 refine U.pd 1 T ?_
 exact St.wa [some 0, some 4] (hJ34 _ hm)
 refine C.skip ?_
 exact St.wa (idR 2) (hJ34 _ hm)
 refine U.start ?_
 refine U.ps 5 T rfl ?_
 refine hm.cs (fun hb22 hm => ?_) (fun hb22 hm => ?_)
 refine U.sks 2 4 false 26 hb22 rfl rfl rfl ?_
 refine U.pk hb22 ?_
 refine U.ps 1 T rfl ?_
 refine U.sks 5 8 false 30 rfl rfl rfl rfl ?_
 refine U.pk rfl ?_
 refine U.ps 1 T rfl ?_
 refine U.sks 5 15 false 37 rfl rfl rfl rfl ?_
 refine U.pk rfl ?_
 refine U.done ?_
 exact St.wa (idR 3) (hJ21 _ hm)
 refine U.pg 2 4 false 26 hb22 T rfl rfl rfl rfl ?_
 refine U.pk' hb22 ?_
 refine U.ps 1 T rfl ?_
 refine hm.cs (fun hb23 hm => ?_) (fun hb23 hm => ?_)
 refine U.sks 5 8 false 30 hb23 rfl rfl rfl ?_
 refine U.pk hb23 ?_
 refine U.ps 1 T rfl ?_
 refine U.sks 5 15 false 37 rfl rfl rfl rfl ?_
 refine U.pk rfl ?_
 refine U.done ?_
 exact St.wa (idR 3) (hJ21 _ hm)
 refine U.pg 2 8 false 30 hb23 T rfl rfl rfl rfl ?_
 obtain ⟨x24, hx24, hm⟩ := hm
 refine U.r rfl (.take 8 false 30 _ hb23 rfl rfl rfl) rfl rfl (by exact Rd.ix T rfl rfl rfl rfl rfl rfl hx24) ?_
 refine U.pg 2 8 false 30 hb23 T rfl rfl rfl rfl ?_
 refine U.pk' hb23 ?_
 refine U.ps 1 T rfl ?_
 refine hm.cs (fun hb25 hm => ?_) (fun hb25 hm => ?_)
 refine U.sks 5 15 false 37 hb25 rfl rfl rfl ?_
 refine U.pk hb25 ?_
 refine U.done ?_
 exact St.wa (idR 3) (hJ21 _ hm)
 refine U.pg 2 15 false 37 hb25 T rfl rfl rfl rfl ?_
 refine U.r rfl (.take 15 false 37 _ hb25 rfl rfl rfl) rfl rfl (by exact Rd.ix T rfl rfl rfl rfl rfl rfl hx24) ?_
 refine U.pg 2 15 false 37 hb25 T rfl rfl rfl rfl ?_
 refine U.pk' hb25 ?_
 refine U.done ?_
 exact St.wa (idR 3) (hJ21 _ hm)
 refine C.exit (C.ex (C.ex (C.bex ?_)))
 exact St.wa [some 1] (hJ9 _ hm)
theorem T_slices_Values_int_int (s_1 : List Int) (post : (List Int) → Prop) (hm : V_slices_Values_int_int s_1 post) :
    Tr Tryz.prog 81 [.sl 1 eI s_1] [] 0 (fun A H' k => ∃ y, post y ∧ A = (.fn (.func 152) [] [.p 0 0]) ∧ H' = [(0, .box [.sl 1 eI y])] ∧ k = 1) := by
 refine Tr.intro (n := 4) Tryz.func81 rfl Tryz.ntmps81 rfl (fun w0 ok F β hβ => ?_)
 unfold V_slices_Values_int_int at hm
 refine C.seq (U.start ?_)
 refine U.bx ?_
 refine U.pd 1 T (C.nx (C.seq (U.start ?_)))
 refine U.pd 2 T (C.nx (C.ret ?_))
 exact C.g1 [some 0] T hβ ⟨(s_1), hm, rfl, rfl, rfl⟩
theorem T_slices_AppendSeq_int_int__o0_slices_Values_int_int_1 (seq_c0 : List Int) (s_1 : List Int) (post : (List Int) → Prop) (hm : V_slices_AppendSeq_int_int__o0_slices_Values_int_int_1 seq_c0 s_1 post) :
    Tr Tryz.prog 200 [.o 0, .fn (.func 152) [] [.rp [.sl 1 eI seq_c0]]] [(0, .val (.os 1 eI s_1))] 1 (fun A H' k => ∃ y, post y ∧ A = (.o 1) ∧ H' = [(1, .val (.os 1 eI y))] ∧ k = 2) := by
 refine Tr.intro (n := 13) Tryz.func200 rfl Tryz.ntmps200 rfl (fun w0 ok F β hβ => ?_)
 unfold V_slices_AppendSeq_int_int__o0_slices_Values_int_int_1 at hm
 refine C.seq (U.start ?_)
 refine U.bx ?_
 refine U.pd 1 T (C.nx (C.seq (C.seq (U.start ?_))))
 refine U.pd 1 T (C.nx (C.block ?_))
 obtain ⟨hx8, hm⟩ := hm
 refine St.wk (C.range (Γ0 := [(2, .p 1 0), (6, .fn (.func 152) [] [.rp [.sl 1 eI seq_c0]])]) (Γ1 := fun (x5 : Int) => [(5, .i x5), (7, .i x5), (2, .p 1 0), (6, .fn (.func 152) [] [.rp [.sl 1 eI seq_c0]])]) (Hf := fun (s6 : List Int) => [(1, .box [.o 2]), (2, .val (.os 1 eI s6))]) 2 hm (it152 seq_c0 hx8) en152 rfl rfl rfl rfl rfl (fun _ => rfl) rfl rfl (fun _ => rfl) (fun x5 s6 Y7 hm w0 ok M β l => ?_) (fun s12 hm => ?_)) (Wk.a [some 0, some 1, some 0])
 refine CI.block ?_
 refine UI.start (by kernel_rfl) (by repeat (first | exact NoOut.rnd | refine NoOut.th ?_ | refine NoOut.blk ?_)) ?_
 refine U.ps 2 T rfl ?_
 refine U.e1 rfl (.none rfl) (by exact Eff1.bs T (enc := eI) (xs := ([x5] : List Int)) rfl rfl rfl rfl rfl rfl rfl rfl rfl rfl (fun _ _ => rfl) rfl rfl) ?_
 obtain ⟨hx11, hm⟩ := hm
 refine U.e1 rfl (.none rfl) (by exact Eff1.ap T rfl rfl rfl rfl rfl rfl (.inr ⟨_, rfl, rfl⟩) rfl rfl rfl (fun _ => rfl) rfl hx11) ?_
 refine U.e1 rfl (.none rfl) (by exact Eff1.st T rfl rfl rfl rfl rfl rfl rfl rfl rfl rfl) ?_
 refine U.done (C.bnx ?_)
 exact St.wk (CI.next hm) (Wk.mk' [some 0, some 1, some 4] rfl rfl trivial ⟨bX, vL, trivial⟩ rfl)
 refine C.bnx (C.nx (C.seq (U.start ?_)))
 refine U.pd 2 T (C.nx (C.ret ?_))
 exact C.g1 [some 0, some 2] T hβ ⟨s12, hm, rfl, rfl, rfl⟩
theorem T_slices_Collect_int__slices_Values_int_int_1 (seq_c0 : List Int) (post : (List Int) → Prop) (hm : V_slices_Collect_int__slices_Values_int_int_1 seq_c0 post) :
    Tr Tryz.prog 151 [.fn (.func 152) [] [.rp [.sl 1 eI seq_c0]]] [] 0 (fun A H' k => ∃ y, post y ∧ A = (.o 0) ∧ H' = [(0, .val (.os 1 eI y))] ∧ k = 1) := by
 refine Tr.intro (n := 5) Tryz.func151 rfl Tryz.ntmps151 rfl (fun w0 ok F β hβ => ?_)
 unfold V_slices_Collect_int__slices_Values_int_int_1 at hm
 refine C.seq (U.start ?_)
 refine U.pd 1 T (C.nx (C.seq (U.start ?_)))
 refine U.ps 1 T rfl ?_
 refine U.c [none] (T_slices_AppendSeq_int_int__o0_slices_Values_int_int_1 seq_c0 [] _ hm) en200 (fun x5 hm => ?_)
 refine U.pd 1 T (C.nx (C.ret ?_))
 exact C.g1 [some 1] T hβ ⟨x5, hm, rfl, rfl, rfl⟩
theorem T_slices_Sorted_int__slices_Values_int_int_1 (seq_c0 : List Int) (post : (List Int) → Prop) (hm : V_slices_Sorted_int__slices_Values_int_int_1 seq_c0 post) :
    Tr Tryz.prog 80 [.fn (.func 152) [] [.rp [.sl 1 eI seq_c0]]] [] 0 (fun A H' k => ∃ y, post y ∧ A = (.o 0) ∧ H' = [(0, .val (.os 1 eI y))] ∧ k = 1) := by
 refine Tr.intro (n := 9) Tryz.func80 rfl Tryz.ntmps80 rfl (fun w0 ok F β hβ => ?_)
 unfold V_slices_Sorted_int__slices_Values_int_int_1 at hm
 refine C.seq (U.start ?_)
 refine U.pd 1 T (C.nx (C.seq (U.start ?_)))
 refine U.ps 1 T rfl ?_
 refine U.k (T_slices_Collect_int__slices_Values_int_int_1 seq_c0 _ hm) en151 (fun x5 hm => ?_)
 refine U.pd 1 T (C.nx (C.seq (U.start ?_)))
 refine U.ps 1 T rfl ?_
 refine U.c [some 0] (T_slices_Sort_int_int__o0 x5 _ hm) en52 (fun x8 hm => ?_)
 refine U.done (C.nx (C.seq (U.start ?_)))
 refine U.pd 2 T (C.nx (C.ret ?_))
 exact C.g1 [some 0] T hβ ⟨x8, hm, rfl, rfl, rfl⟩
theorem T_body_Clash (slots : List Int) (post : (Int × Bool) → Prop) (hm : V_body_Clash slots post) :
    Tr Tryz.prog 27 [.sl 1 eI slots] [] 0 (fun A H' k => ∃ y, post y ∧ A = (.tup [.i y.1, .b y.2]) ∧ H' = [] ∧ k = 0) := by
 refine Tr.intro (n := 29) Tryz.func27 rfl Tryz.ntmps27 rfl (fun w0 ok F β hβ => ?_)
 unfold V_body_Clash at hm
 refine C.seq (U.start ?_)
 refine U.pd 2 T (C.nx (C.seq (U.start ?_)))
 refine U.ps 1 T rfl ?_
 refine U.e rfl (.none rfl) (by exact Eff.c [] (v := false) (T_slices_Values_int_int slots _ hm) en81 rfl rfl rfl (.eq rfl) trivial rfl rfl rfl rfl rfl rfl (fun h => by cases h) (.inr ⟨rfl, rfl⟩) (fun _ => rfl) (fun _ => rfl) rfl) (fun x5' hm => ?_)
 obtain ⟨x5⟩ := x5'
 refine U.k (T_slices_Sorted_int__slices_Values_int_int_1 x5 _ hm) en80 (fun x6 hm => ?_)
 refine U.pd 1 T (C.nx (C.seq (C.seq (U.start ?_))))
 refine U.pd 1 T (C.nx ?_)
 refine C.jn (fun (x9 : Unit) => []) (fun (x9 : Unit) => []) 0 hm (fun x9 hm => ?_) (fun J10 hm hJ10 => ?_)
 refine C.nx (C.seq (U.start ?_))
 refine U.pd 2 T (C.nx (C.ret ?_))
 exact C.f9 T hβ ⟨(0, false), hm, rfl, rfl, rfl⟩
 refine C.block ?_
 refine St.wk (C.loop (fun (s11 : Int) => [(4, .o 0), (5, .i s11)]) (fun (s11 : Int) => [(0, .val (.os 1 eI x6))]) hm (fun s11 Y12 hm => ?_)) (Wk.a [some 1])
 refine C.seq (C.seq (U.start ?_))
 refine U.pd 4 T (C.nx ?_)
 refine C.ite rfl hm (fun hb15 hm => ?_) (fun hb15 hm => ?_)
 refine C.skip (C.nx (C.seq (C.block (C.seq ?_))))
 refine D.beg 9999 [0] [] mix rfl rfl (by kernel_rfl) (by repeat (first | exact NoPanicQ.body | exact NoPanicQ.rnd | refine NoPanicQ.th ?_ | refine NoPanicQ.blk ?_ | refine NoPanicQ.ng ?_)) (fun hQ hS ws M' => ?_)
 refine D.ps 2 [(0, []), (1, [])] rfl hQ hS T rfl rfl (by kernel_rfl) ?_
 obtain ⟨x18, hx18, hm⟩ := hm
 refine D.q 2 [] hQ hS rfl (.none rfl) rfl rfl (by exact Rd.io T rfl rfl rfl rfl rfl rfl rfl hx18) rfl (by kernel_rfl) ?_
 refine D.q 3 [] hQ hS rfl (.none rfl) rfl rfl (by exact Rd.le T rfl rfl rfl (idx_some hx18).2.2 rfl rfl rfl) rfl (by kernel_rfl) ?_
 refine D.ps 3 [(4, []), (5, []), (6, [])] rfl hQ hS T rfl rfl (by kernel_rfl) ?_
 obtain ⟨x19, hx19, hm⟩ := hm
 refine D.q 7 [] hQ hS rfl (.none rfl) rfl rfl (by exact Rd.io T rfl rfl rfl rfl rfl rfl rfl hx19) rfl (by kernel_rfl) ?_
 refine D.q 8 [] hQ hS rfl (.none rfl) rfl rfl (by exact Rd.le T rfl rfl rfl (idx_some hx19).2.2 rfl rfl rfl) rfl (by kernel_rfl) ?_
 refine D.ps 1 [(9, [])] rfl hQ hS T rfl rfl (by kernel_rfl) ?_
 refine D.done (by kernel_rfl) ?_
 refine C.nx ?_
 refine C.ite rfl hm (fun hb20 hm => ?_) (fun hb20 hm => ?_)
 refine C.seq (U.start ?_)
 refine U.ps 2 T rfl ?_
 refine U.r rfl (.none rfl) rfl rfl (by exact Rd.io T rfl rfl rfl rfl rfl rfl rfl hx18) ?_
 refine U.r rfl (.none rfl) rfl rfl (by exact Rd.le T rfl rfl rfl (idx_some hx18).2.2 rfl rfl rfl) ?_
 refine U.pd 2 T (C.nx (C.ret (C.brt (C.rt (C.rt (C.brt (C.rt ?_)))))))
 exact C.f9 T hβ ⟨(x18, true), hm, rfl, rfl, rfl⟩
 refine C.skip (C.bnx (C.nx (U.start ?_)))
 refine U.pd 3 T (C.nx ?_)
 exact St.wk (C.next hm) (Wk.a [some 0])
 refine C.exit (C.ex (C.ex (C.bex ?_)))
 exact St.wk (hJ10 _ hm) (Wk.mk' [] rfl rfl trivial trivial rfl)
theorem T_slices_Clone_int_int (s_1 : List Int) (post : (List Int) → Prop) (hm : V_slices_Clone_int_int s_1 post) :
    Tr Tryz.prog 124 [.sl 1 eI s_1] [] 0 (fun A H' k => ∃ y, post y ∧ A = (.o 0) ∧ H' = [(0, .val (.os 1 eI y))] ∧ k = 1) := by
 refine Tr.intro (n := 8) Tryz.func124 rfl Tryz.ntmps124 rfl (fun w0 ok F β hβ => ?_)
 unfold V_slices_Clone_int_int at hm
 refine C.seq (U.start ?_)
 refine U.pd 1 T (C.nx (C.seq (C.seq (U.start ?_))))
 refine U.ps 1 T rfl ?_
 refine U.e rfl (.none rfl) (by exact Eff.isnil T true rfl rfl rfl rfl rfl rfl (.inl ⟨.sl, rfl⟩) rfl) (fun hb5' hhb5 => ?_)
 obtain ⟨hb5⟩ := hb5'
 replace hm := hm hb5 hhb5
 refine U.done (C.nx ?_)
 refine C.ite rfl hm (fun hb6 hm => ?_) (fun hb6 hm => ?_)
 refine C.seq (U.start ?_)
 refine U.pd 1 T (C.nx (C.ret (C.rt ?_)))
 exact C.g1 [none] T hβ ⟨[], hm, rfl, rfl, rfl⟩
 refine C.skip (C.nx (C.seq (U.start ?_)))
 refine U.e1 rfl (.none rfl) (by exact Eff1.bs T (enc := eI) (xs := ([] : List Int)) rfl rfl rfl rfl rfl rfl rfl rfl rfl rfl (fun _ _ => rfl) rfl rfl) ?_
 refine U.ps 1 T rfl ?_
 obtain ⟨hx11, hm⟩ := hm
 refine U.e1 rfl (.none rfl) (by exact Eff1.ap T rfl rfl rfl rfl rfl rfl (.inl rfl) rfl rfl rfl (fun _ => rfl) rfl hx11) ?_
 refine U.pd 1 T (C.nx (C.ret ?_))
 exact C.g1 [some 1] T hβ ⟨(([] : List Int) ++ s_1), hm, rfl, rfl, rfl⟩
theorem T_slices_Clone_api_Robot_api_Robot (s_1 : List ApiRobot) (post : (List ApiRobot) → Prop) (hm : V_slices_Clone_api_Robot_api_Robot s_1 post) :
    Tr Tryz.prog 125 [.sl 6 eApiRobot s_1] [] 0 (fun A H' k => ∃ y, post y ∧ A = (.o 0) ∧ H' = [(0, .val (.os 6 eApiRobot y))] ∧ k = 1) := by
 refine Tr.intro (n := 8) Tryz.func125 rfl Tryz.ntmps125 rfl (fun w0 ok F β hβ => ?_)
 unfold V_slices_Clone_api_Robot_api_Robot at hm
 refine C.seq (U.start ?_)
 refine U.pd 1 T (C.nx (C.seq (C.seq (U.start ?_))))
 refine U.ps 1 T rfl ?_
 refine U.e rfl (.none rfl) (by exact Eff.isnil T true rfl rfl rfl rfl rfl rfl (.inl ⟨.sl, rfl⟩) rfl) (fun hb5' hhb5 => ?_)
 obtain ⟨hb5⟩ := hb5'
 replace hm := hm hb5 hhb5
 refine U.done (C.nx ?_)
 refine C.ite rfl hm (fun hb6 hm => ?_) (fun hb6 hm => ?_)
 refine C.seq (U.start ?_)
 refine U.pd 1 T (C.nx (C.ret (C.rt ?_)))
 exact C.g1 [none] T hβ ⟨[], hm, rfl, rfl, rfl⟩
 refine C.skip (C.nx (C.seq (U.start ?_)))
 refine U.e1 rfl (.none rfl) (by exact Eff1.bs T (enc := eApiRobot) (xs := ([] : List ApiRobot)) rfl rfl rfl rfl rfl rfl rfl rfl rfl rfl (fun _ _ => rfl) rfl rfl) ?_
 refine U.ps 1 T rfl ?_
 obtain ⟨hx11, hm⟩ := hm
 refine U.e1 rfl (.none rfl) (by exact Eff1.ap T rfl rfl rfl rfl rfl rfl (.inl rfl) rfl rfl rfl (fun _ => rfl) rfl hx11) ?_
 refine U.pd 1 T (C.nx (C.ret ?_))
 exact C.g1 [some 1] T hβ ⟨(([] : List ApiRobot) ++ s_1), hm, rfl, rfl, rfl⟩
theorem T_slices_Clone_api_Stuck_api_Stuck (s_1 : List ApiStuck) (post : (List ApiStuck) → Prop) (hm : V_slices_Clone_api_Stuck_api_Stuck s_1 post) :
    Tr Tryz.prog 126 [.sl 2 eApiStuck s_1] [] 0 (fun A H' k => ∃ y, post y ∧ A = (.o 0) ∧ H' = [(0, .val (.os 2 eApiStuck y))] ∧ k = 1) := by
 refine Tr.intro (n := 8) Tryz.func126 rfl Tryz.ntmps126 rfl (fun w0 ok F β hβ => ?_)
 unfold V_slices_Clone_api_Stuck_api_Stuck at hm
 refine C.seq (U.start ?_)
 refine U.pd 1 T (C.nx (C.seq (C.seq (U.start ?_))))
 refine U.ps 1 T rfl ?_
 refine U.e rfl (.none rfl) (by exact Eff.isnil T true rfl rfl rfl rfl rfl rfl (.inl ⟨.sl, rfl⟩) rfl) (fun hb5' hhb5 => ?_)
 obtain ⟨hb5⟩ := hb5'
 replace hm := hm hb5 hhb5
 refine U.done (C.nx ?_)
 refine C.ite rfl hm (fun hb6 hm => ?_) (fun hb6 hm => ?_)
 refine C.seq (U.start ?_)
 refine U.pd 1 T (C.nx (C.ret (C.rt ?_)))
 exact C.g1 [none] T hβ ⟨[], hm, rfl, rfl, rfl⟩
 refine C.skip (C.nx (C.seq (U.start ?_)))
 refine U.e1 rfl (.none rfl) (by exact Eff1.bs T (enc := eApiStuck) (xs := ([] : List ApiStuck)) rfl rfl rfl rfl rfl rfl rfl rfl rfl rfl (fun _ _ => rfl) rfl rfl) ?_
 refine U.ps 1 T rfl ?_
 obtain ⟨hx11, hm⟩ := hm
 refine U.e1 rfl (.none rfl) (by exact Eff1.ap T rfl rfl rfl rfl rfl rfl (.inl rfl) rfl rfl rfl (fun _ => rfl) rfl hx11) ?_
 refine U.pd 1 T (C.nx (C.ret ?_))
 exact C.g1 [some 1] T hβ ⟨(([] : List ApiStuck) ++ s_1), hm, rfl, rfl, rfl⟩
theorem T_body_Clone (st : ApiState) (post : ApiState → Prop) (hm : V_body_Clone st post) :
    Tr Tryz.prog 51 [.agg (eApiState st)] [] 0 (fun A H' k => ∃ y, post y ∧ A = (.agg [.i y.Tick, .o 0, .o 1, .o 2, .o 3, .o 4]) ∧ H' = [(0, .val (.os 1 eI y.Shelves)), (1, .val (.os 6 eApiRobot y.Robots)), (2, .val (.os 1 eI y.People)), (3, .val (.os 1 eI y.Dead)), (4, .val (.os 2 eApiStuck y.Stuck))] ∧ k = 5) := by
 refine Tr.intro (n := 21) Tryz.func51 rfl Tryz.ntmps51 rfl (fun w0 ok F β hβ => ?_)
 unfold V_body_Clone at hm
 refine C.seq (U.start ?_)
 refine U.bx ?_
 refine U.e1 rfl (.none rfl) (by exact Eff1.al T rfl rfl rfl rfl) ?_
 refine U.done (C.nx (C.seq ?_))
 refine D.beg 18 [0] [] mix rfl rfl (by kernel_rfl) (by repeat (first | exact NoPanicQ.body | exact NoPanicQ.rnd | refine NoPanicQ.th ?_ | refine NoPanicQ.blk ?_ | refine NoPanicQ.ng ?_)) (fun hQ hS ws M' => ?_)
 refine D.ps 12 [(0, []), (1, []), (2, []), (3, []), (5, []), (6, []), (8, []), (9, []), (11, []), (12, []), (14, []), (15, [])] rfl hQ hS T rfl rfl (by kernel_rfl) ?_
 refine D.k 4 (T_slices_Clone_int_int st.Shelves _ hm) en124 (fun x5 hm => ?_)
 refine D.k 7 (T_slices_Clone_api_Robot_api_Robot st.Robots _ hm) en125 (fun x6 hm => ?_)
 refine D.k 10 (T_slices_Clone_int_int st.People _ hm) en124 (fun x7 hm => ?_)
 refine D.k 13 (T_slices_Clone_int_int st.Dead _ hm) en124 (fun x8 hm => ?_)
 refine D.k 16 (T_slices_Clone_api_Stuck_api_Stuck st.Stuck _ hm) en126 (fun x9 hm => ?_)
 refine D.ps 1 [(17, [])] rfl hQ hS T rfl rfl (by kernel_rfl) ?_
 refine D.ze1 rfl (.none rfl) (by exact Eff1.st T rfl rfl rfl rfl rfl rfl rfl rfl rfl rfl) (by kernel_rfl) (by kernel_rfl) ?_
 refine C.nx (C.ret ?_)
 exact C.g1 (sqR 2 5) T hβ ⟨({ Tick := st.Tick, Shelves := x5, Robots := x6, People := x7, Dead := x8, Stuck := x9 : ApiState }), hm, rfl, rfl, rfl⟩
theorem T_rules_Speed (s_1 : ApiSite) (c : Int) (post : Int → Prop) (hm : V_rules_Speed s_1 c post) :
    Tr Tryz.prog 105 [.agg (eApiSite s_1), .i c] [] 0 (fun A H' k => ∃ y, post y ∧ A = (.i y) ∧ H' = [] ∧ k = 0) := by
 refine Tr.intro (n := 17) Tryz.func105 rfl Tryz.ntmps105 rfl (fun w0 ok F β hβ => ?_)
 unfold V_rules_Speed at hm
 refine C.seq (U.start ?_)
 refine U.bx ?_
 refine U.pd 1 T (C.nx (C.seq (C.seq (U.start ?_))))
 refine U.ps 2 T rfl ?_
 refine U.k (T_rules_ZoneOf s_1 c _ hm) en169 (fun x5 hm => ?_)
 refine U.pd 1 T (C.nx (C.seq (U.start ?_)))
 refine U.pd 2 T (C.nx ?_)
 refine C.ite rfl hm (fun hb8 hm => ?_) (fun hb8 hm => ?_)
 refine C.seq (U.start ?_)
 refine U.ps 3 T rfl ?_
 obtain ⟨x11, hx11, hm⟩ := hm
 refine U.r rfl (.none rfl) rfl rfl (by exact Rd.ix T rfl rfl rfl rfl rfl rfl hx11) ?_
 refine U.pd 3 T (C.nx (C.ret (C.rt ?_)))
 exact C.f1 T hβ ⟨x11.Speed, hm, rfl, rfl, rfl⟩
 refine C.skip (C.nx (C.seq (U.start ?_)))
 refine U.pd 1 T (C.nx (C.ret ?_))
 exact C.f1 T hβ ⟨1, hm, rfl, rfl, rfl⟩
theorem T_act_Do (s_1 : ApiSite) (st : ApiState) (robot : Int) (act : Int) (post : ApiState → Prop) (hm : V_act_Do s_1 st robot act post) :
    Tr Tryz.prog 37 [.agg (eApiSite s_1), .agg (eApiState st), .i robot, .i act] [] 0 (fun A H' k => ∃ y, post y ∧ A = (.agg [.i y.Tick, .o 0, .o 1, .o 2, .o 3, .o 4]) ∧ H' = [(0, .val (.os 1 eI y.Shelves)), (1, .val (.os 6 eApiRobot y.Robots)), (2, .val (.os 1 eI y.People)), (3, .val (.os 1 eI y.Dead)), (4, .val (.os 2 eApiStuck y.Stuck))] ∧ k = 5) := by
 refine Tr.intro (n := 126) Tryz.func37 rfl Tryz.ntmps37 rfl (fun w0 ok F β hβ => ?_)
 unfold V_act_Do at hm
 refine C.seq (U.start ?_)
 refine U.bx ?_
 refine U.bx ?_
 refine U.e1 rfl (.none rfl) (by exact Eff1.al T rfl rfl rfl rfl) ?_
 refine U.done (C.nx (C.seq (U.start ?_)))
 refine U.ps 1 T rfl ?_
 refine U.k (T_body_Clone st _ hm) en51 (fun x5 hm => ?_)
 refine U.e1 rfl (.none rfl) (by exact Eff1.al T rfl rfl rfl rfl) ?_
 refine U.e1 rfl (.none rfl) (by exact Eff1.st T rfl rfl rfl rfl rfl rfl rfl rfl rfl rfl) ?_
 refine U.done (C.nx (C.seq (C.seq ?_)))
 refine C.jn (fun (x6 : Bool) => [(2, .i robot), (3, .i act), (4, .p 0 0), (5, .p 1 0), (8, .p 2 0), (9, .p 3 0), (35, .b x6)]) (fun (x6 : Bool) => [(0, .box (eApiSite s_1)), (1, .box (eApiState st)), (2, .box [.i 0, .v (.slice none 0 0), .v (.slice none 0 0), .v (.slice none 0 0), .v (.slice none 0 0), .v (.slice none 0 0)]), (3, .box [.i x5.Tick, .o 4, .o 5, .o 6, .o 7, .o 8]), (4, .val (.os 1 eI x5.Shelves)), (5, .val (.os 6 eApiRobot x5.Robots)), (6, .val (.os 1 eI x5.People)), (7, .val (.os 1 eI x5.Dead)), (8, .val (.os 2 eApiStuck x5.Stuck))]) 9 hm (fun x6 hm => ?_) (fun J7 hm hJ7 => ?_)
 refine C.nx ?_
 refine C.ite rfl hm (fun hb11 hm => ?_) (fun hb11 hm => ?_)
 refine C.seq (U.start ?_)
 refine U.ps 1 T rfl ?_
 refine U.e1 rfl (.none rfl) (by exact Eff1.st T rfl rfl rfl rfl rfl rfl rfl rfl rfl rfl) ?_
 refine U.done (C.nx (C.ret (C.rt ?_)))
 exact C.g1 (sqR 4 5) T hβ ⟨x5, hm, rfl, rfl, rfl⟩
 refine C.skip (C.nx (C.seq (U.start ?_)))
 refine U.ps 3 T rfl ?_
 obtain ⟨x16, hx16, hm⟩ := hm
 refine U.r rfl (.none rfl) rfl rfl (by exact Rd.io T rfl rfl rfl rfl rfl rfl rfl hx16) ?_
 refine U.pd 1 T (C.nx (C.seq ?_))
 refine D.beg 9999 [1, 5] [] mix rfl rfl (by kernel_rfl) (by repeat (first | exact NoPanicQ.body | exact NoPanicQ.rnd | refine NoPanicQ.th ?_ | refine NoPanicQ.blk ?_ | refine NoPanicQ.ng ?_)) (fun hQ hS ws M' => ?_)
 refine D.ps 5 [(0, []), (1, []), (2, []), (3, []), (4, [])] rfl hQ hS T rfl rfl (by kernel_rfl) ?_
 refine D.q 5 [] hQ hS rfl (.none rfl) rfl rfl (by exact Rd.le T rfl rfl rfl (idx_some hx16).2.2 rfl rfl rfl) rfl (by kernel_rfl) ?_
 refine D.ps 4 [(6, []), (7, []), (8, []), (9, [])] rfl hQ hS T rfl rfl (by kernel_rfl) ?_
 refine D.q 10 [] hQ hS rfl (.none rfl) rfl rfl (by exact Rd.le T rfl rfl rfl (idx_some hx16).2.2 rfl rfl rfl) rfl (by kernel_rfl) ?_
 refine D.ps 1 [(11, [])] rfl hQ hS T rfl rfl (by kernel_rfl) ?_
 refine D.k 12 (T_battery_After st.Tick x16.Charge act (decide (x16.Load ≥ 0)) _ hm) en100 (fun x19 hm => ?_)
 refine D.ps 5 [(13, []), (14, []), (15, []), (16, []), (17, [])] rfl hQ hS T rfl rfl (by kernel_rfl) ?_
 refine D.done (by kernel_rfl) ?_
 refine C.nx (C.seq (C.seq (U.start ?_)))
 refine U.pd 2 T (C.nx ?_)
 refine C.jn (fun (x22 : Int) => [(3, .i act), (4, .p 0 0), (5, .p 1 0), (8, .p 2 0), (9, .p 3 0), (10, .ep 5 6 (Int.toNat robot) 0), (11, .i x22)]) (fun (x22 : Int) => [(0, .box (eApiSite s_1)), (1, .box (eApiState st)), (2, .box [.i 0, .v (.slice none 0 0), .v (.slice none 0 0), .v (.slice none 0 0), .v (.slice none 0 0), .v (.slice none 0 0)]), (3, .box [.i x5.Tick, .o 4, .o 5, .o 6, .o 7, .o 8]), (4, .val (.os 1 eI x5.Shelves)), (5, .val (.os 6 eApiRobot x5.Robots)), (6, .val (.os 1 eI x5.People)), (7, .val (.os 1 eI x5.Dead)), (8, .val (.os 2 eApiStuck x5.Stuck))]) 9 hm (fun x22 hm => ?_) (fun J23 hm hJ23 => ?_)
 refine C.nx (C.seq (U.start ?_))
 refine U.ps 4 T rfl ?_
 refine U.e1 rfl (.none rfl) (by exact Eff1.se T (z' := ({ Cell := x16.Cell, Load := x16.Load, Charge := x22, Rest := x16.Rest, Mute := x16.Mute, Dead := x16.Dead : ApiRobot })) rfl rfl rfl (idx_some hx16).2.2 rfl rfl rfl rfl rfl rfl rfl rfl (fun _ => rfl) rfl) ?_
 refine U.done (C.nx (C.seq (C.seq (U.start ?_))))
 refine U.pd 1 T (C.nx (C.block (C.seq (U.start ?_))))
 refine U.pd 2 T (C.nx ?_)
 refine C.jn (fun (x33 : List ApiRobot) => [(3, .i act), (4, .p 0 0), (8, .p 1 0), (9, .p 2 0), (10, .ep 4 6 (Int.toNat robot) 0)]) (fun (x33 : List ApiRobot) => [(0, .box (eApiSite s_1)), (1, .box [.i 0, .v (.slice none 0 0), .v (.slice none 0 0), .v (.slice none 0 0), .v (.slice none 0 0), .v (.slice none 0 0)]), (2, .box [.i x5.Tick, .o 3, .o 4, .o 5, .o 6, .o 7]), (3, .val (.os 1 eI x5.Shelves)), (4, .val (.os 6 eApiRobot x33)), (5, .val (.os 1 eI x5.People)), (6, .val (.os 1 eI x5.Dead)), (7, .val (.os 2 eApiStuck x5.Stuck))]) 8 hm (fun x33 hm => ?_) (fun J34 hm hJ34 => ?_)
 refine C.bnx (C.nx (C.seq (U.start ?_)))
 refine U.ps 1 T rfl ?_
 refine U.k (T_act_direction act _ hm) en99 (fun x48 hm => ?_)
 refine U.pd 5 T (C.nx (C.seq (C.seq (U.start ?_))))
 refine U.pd 2 T (C.nx ?_)
 refine C.ite rfl hm (fun hb51 hm => ?_) (fun hb51 hm => ?_)
 refine C.seq (U.start ?_)
 refine U.ps 1 T rfl ?_
 refine U.e1 rfl (.none rfl) (by exact Eff1.st T rfl rfl rfl rfl rfl rfl rfl rfl rfl rfl) ?_
 refine U.done (C.nx (C.ret (C.rt ?_)))
 exact C.g1 (sqR 3 5) T hβ ⟨({ Tick := x5.Tick, Shelves := x5.Shelves, Robots := x33, People := x5.People, Dead := x5.Dead, Stuck := x5.Stuck : ApiState }), hm, rfl, rfl, rfl⟩
 refine C.skip (C.nx (C.seq (C.seq ?_)))
 refine D.beg 9999 [0, 4] [] mix rfl rfl (by kernel_rfl) (by repeat (first | exact NoPanicQ.body | exact NoPanicQ.rnd | refine NoPanicQ.th ?_ | refine NoPanicQ.blk ?_ | refine NoPanicQ.ng ?_)) (fun hQ hS ws M' => ?_)
 refine D.ps 5 [(0, []), (1, []), (2, []), (3, []), (4, [])] rfl hQ hS T rfl rfl (by kernel_rfl) ?_
 obtain ⟨x56, hx56, hm⟩ := hm
 refine D.q 5 [] hQ hS rfl (.none rfl) rfl rfl (by exact Rd.le T rfl rfl rfl (idx_some hx56).2.2 rfl rfl rfl) rfl (by kernel_rfl) ?_
 refine D.ps 1 [(6, [])] rfl hQ hS T rfl rfl (by kernel_rfl) ?_
 refine D.k 7 (T_floor_Next s_1.Floor x56.Cell x48.1 _ hm) en24 (fun x57 hm => ?_)
 refine D.ps 5 [(8, []), (9, []), (10, []), (11, []), (12, [])] rfl hQ hS T rfl rfl (by kernel_rfl) ?_
 refine D.done (by kernel_rfl) ?_
 refine C.nx (C.seq (U.start ?_))
 refine U.pd 1 T (C.nx ?_)
 refine C.jn (fun (x60 : List Int × List ApiRobot) => [(8, .p 0 0), (9, .p 1 0)]) (fun (x60 : List Int × List ApiRobot) => [(0, .box [.i 0, .v (.slice none 0 0), .v (.slice none 0 0), .v (.slice none 0 0), .v (.slice none 0 0), .v (.slice none 0 0)]), (1, .box [.i x5.Tick, .o 2, .o 3, .o 4, .o 5, .o 6]), (2, .val (.os 1 eI x60.1)), (3, .val (.os 6 eApiRobot x60.2)), (4, .val (.os 1 eI x5.People)), (5, .val (.os 1 eI x5.Dead)), (6, .val (.os 2 eApiStuck x5.Stuck))]) 7 hm (fun x60 hm => ?_) (fun J61 hm hJ61 => ?_)
 refine C.nx (C.seq (U.start ?_))
 refine U.ps 1 T rfl ?_
 refine U.e1 rfl (.none rfl) (by exact Eff1.st T rfl rfl rfl rfl rfl rfl rfl rfl rfl rfl) ?_
 refine U.done (C.nx (C.ret ?_))
 exact C.g1 (sqR 2 5) T hβ ⟨({ Tick := x5.Tick, Shelves := x60.1, Robots := x60.2, People := x5.People, Dead := x5.Dead, Stuck := x5.Stuck : ApiState }), hm, rfl, rfl, rfl⟩
 refine C.ite rfl hm (fun hb62 hm => ?_) (fun hb62 hm => ?_)
 refine C.seq (U.start ?_)
 refine U.ps 5 T rfl ?_
 refine U.k (T_rules_Speed s_1 x57.1 _ hm) en105 (fun x65 hm => ?_)
 refine U.ps 3 T rfl ?_
 refine U.e1 rfl (.none rfl) (by exact Eff1.se T (z' := ({ Cell := x57.1, Load := x56.Load, Charge := x56.Charge, Rest := x56.Rest, Mute := x56.Mute, Dead := x56.Dead : ApiRobot })) rfl rfl rfl (idx_some hx56).2.2 rfl rfl rfl rfl rfl rfl rfl rfl (fun _ => rfl) rfl) ?_
 refine U.ps 2 T rfl ?_
 refine U.e1 rfl (.none rfl) (by exact Eff1.se T (z' := ({ Cell := ({ Cell := x57.1, Load := x56.Load, Charge := x56.Charge, Rest := x56.Rest, Mute := x56.Mute, Dead := x56.Dead : ApiRobot }).Cell, Load := ({ Cell := x57.1, Load := x56.Load, Charge := x56.Charge, Rest := x56.Rest, Mute := x56.Mute, Dead := x56.Dead : ApiRobot }).Load, Charge := ({ Cell := x57.1, Load := x56.Load, Charge := x56.Charge, Rest := x56.Rest, Mute := x56.Mute, Dead := x56.Dead : ApiRobot }).Charge, Rest := w64 (x65 - 1), Mute := ({ Cell := x57.1, Load := x56.Load, Charge := x56.Charge, Rest := x56.Rest, Mute := x56.Mute, Dead := x56.Dead : ApiRobot }).Mute, Dead := ({ Cell := x57.1, Load := x56.Load, Charge := x56.Charge, Rest := x56.Rest, Mute := x56.Mute, Dead := x56.Dead : ApiRobot }).Dead : ApiRobot })) rfl rfl rfl (set_get (idx_some hx56).2.2) rfl rfl rfl rfl rfl rfl rfl rfl (fun _ => rfl) rfl) ?_
 refine U.done (C.nx (C.seq (U.start ?_)))
 refine U.ps 3 T rfl ?_
 refine U.r rfl (.none rfl) rfl rfl (by exact Rd.le T rfl rfl rfl (set_get (set_get (idx_some hx56).2.2)) rfl rfl rfl) ?_
 refine U.pd 1 T (C.nx ?_)
 refine C.jn (fun (x68 : List Int) => [(8, .p 0 0), (9, .p 1 0)]) (fun (x68 : List Int) => [(0, .box [.i 0, .v (.slice none 0 0), .v (.slice none 0 0), .v (.slice none 0 0), .v (.slice none 0 0), .v (.slice none 0 0)]), (1, .box [.i x5.Tick, .o 2, .o 3, .o 4, .o 5, .o 6]), (2, .val (.os 1 eI x68)), (3, .val (.os 6 eApiRobot ((x33.set (Int.toNat robot) ({ Cell := x57.1, Load := x56.Load, Charge := x56.Charge, Rest := x56.Rest, Mute := x56.Mute, Dead := x56.Dead : ApiRobot })).set (Int.toNat robot) ({ Cell := ({ Cell := x57.1, Load := x56.Load, Charge := x56.Charge, Rest := x56.Rest, Mute := x56.Mute, Dead := x56.Dead : ApiRobot }).Cell, Load := ({ Cell := x57.1, Load := x56.Load, Charge := x56.Charge, Rest := x56.Rest, Mute := x56.Mute, Dead := x56.Dead : ApiRobot }).Load, Charge := ({ Cell := x57.1, Load := x56.Load, Charge := x56.Charge, Rest := x56.Rest, Mute := x56.Mute, Dead := x56.Dead : ApiRobot }).Charge, Rest := w64 (x65 - 1), Mute := ({ Cell := x57.1, Load := x56.Load, Charge := x56.Charge, Rest := x56.Rest, Mute := x56.Mute, Dead := x56.Dead : ApiRobot }).Mute, Dead := ({ Cell := x57.1, Load := x56.Load, Charge := x56.Charge, Rest := x56.Rest, Mute := x56.Mute, Dead := x56.Dead : ApiRobot }).Dead : ApiRobot })))), (4, .val (.os 1 eI x5.People)), (5, .val (.os 1 eI x5.Dead)), (6, .val (.os 2 eApiStuck x5.Stuck))]) 7 hm (fun x68 hm => ?_) (fun J69 hm hJ69 => ?_)
 exact St.wa (idR 7) (hJ61 _ hm)
 refine C.ite rfl hm (fun hb70 hm => ?_) (fun hb70 hm => ?_)
 refine D.beg 8 [2, 4] [] mix rfl rfl (by kernel_rfl) (by repeat (first | exact NoPanicQ.body | exact NoPanicQ.rnd | refine NoPanicQ.th ?_ | refine NoPanicQ.blk ?_ | refine NoPanicQ.ng ?_)) (fun hQ hS ws M' => ?_)
 refine D.ps 5 [(0, []), (1, []), (2, []), (3, []), (4, [])] rfl hQ hS T rfl rfl (by kernel_rfl) ?_
 refine D.q 5 [] hQ hS rfl (.none rfl) rfl rfl (by exact Rd.le T rfl rfl rfl (set_get (set_get (idx_some hx56).2.2)) rfl rfl rfl) rfl (by kernel_rfl) ?_
 refine D.ps 1 [(6, [])] rfl hQ hS T rfl rfl (by kernel_rfl) ?_
 obtain ⟨x73, hx73, hm⟩ := hm
 refine D.q 7 [] hQ hS rfl (.none rfl) rfl rfl (by exact Rd.io T rfl rfl rfl rfl rfl rfl rfl hx73) rfl (by kernel_rfl) ?_
 refine D.ze1 rfl (.none rfl) (by exact Eff1.se T (z' := x57.1) rfl rfl rfl (idx_some hx73).2.2 rfl rfl rfl rfl rfl rfl rfl rfl (fun _ => rfl) rfl) (by kernel_rfl) (by kernel_rfl) ?_
 exact St.wa (sqR 1 7) (hJ69 _ hm)
 refine C.skip ?_
 exact St.wa (sqR 1 7) (hJ69 _ hm)
 refine C.skip ?_
 exact St.wa (sqR 1 7) (hJ61 _ hm)
 refine C.ite rfl hm (fun hb35 hm => ?_) (fun hb35 hm => ?_)
 refine D.beg 10 [0, 1, 5] [] mix rfl rfl (by kernel_rfl) (by repeat (first | exact NoPanicQ.body | exact NoPanicQ.rnd | refine NoPanicQ.th ?_ | refine NoPanicQ.blk ?_ | refine NoPanicQ.ng ?_)) (fun hQ hS ws M' => ?_)
 refine D.ps 6 [(0, []), (1, []), (2, []), (3, []), (4, []), (5, [])] rfl hQ hS T rfl rfl (by kernel_rfl) ?_
 refine D.q 6 [] hQ hS rfl (.none rfl) rfl rfl (by exact Rd.le T rfl rfl rfl (set_get (idx_some hx16).2.2) rfl rfl rfl) rfl (by kernel_rfl) ?_
 refine D.k 7 (T_rules_At s_1 st (({ Cell := x16.Cell, Load := x16.Load, Charge := x22, Rest := x16.Rest, Mute := x16.Mute, Dead := x16.Dead : ApiRobot }).Cell) _ hm) en104 (fun x38 hm => ?_)
 refine D.ps 2 [(8, [9]), (9, [])] rfl hQ hS T rfl rfl (by kernel_rfl) ?_
 refine D.ze1 rfl (.none rfl) (by exact Eff1.se T (z' := ({ Cell := ({ Cell := x16.Cell, Load := x16.Load, Charge := x22, Rest := x16.Rest, Mute := x16.Mute, Dead := x16.Dead : ApiRobot }).Cell, Load := x38, Charge := ({ Cell := x16.Cell, Load := x16.Load, Charge := x22, Rest := x16.Rest, Mute := x16.Mute, Dead := x16.Dead : ApiRobot }).Charge, Rest := ({ Cell := x16.Cell, Load := x16.Load, Charge := x22, Rest := x16.Rest, Mute := x16.Mute, Dead := x16.Dead : ApiRobot }).Rest, Mute := ({ Cell := x16.Cell, Load := x16.Load, Charge := x22, Rest := x16.Rest, Mute := x16.Mute, Dead := x16.Dead : ApiRobot }).Mute, Dead := ({ Cell := x16.Cell, Load := x16.Load, Charge := x22, Rest := x16.Rest, Mute := x16.Mute, Dead := x16.Dead : ApiRobot }).Dead : ApiRobot })) rfl rfl rfl (set_get (idx_some hx16).2.2) rfl rfl rfl rfl rfl rfl rfl rfl (fun _ => rfl) rfl) (by kernel_rfl) (by kernel_rfl) ?_
 exact St.wa [some 0, some 2, some 3, some 4, some 5, some 6, some 7, some 8] (hJ34 _ hm)
 refine C.seq (U.start ?_)
 refine U.pd 2 T (C.nx ?_)
 refine C.jn (fun (x41 : List ApiRobot) => [(3, .i act), (4, .p 0 0), (8, .p 1 0), (9, .p 2 0), (10, .ep 4 6 (Int.toNat robot) 0)]) (fun (x41 : List ApiRobot) => [(0, .box (eApiSite s_1)), (1, .box [.i 0, .v (.slice none 0 0), .v (.slice none 0 0), .v (.slice none 0 0), .v (.slice none 0 0), .v (.slice none 0 0)]), (2, .box [.i x5.Tick, .o 3, .o 4, .o 5, .o 6, .o 7]), (3, .val (.os 1 eI x5.Shelves)), (4, .val (.os 6 eApiRobot x41)), (5, .val (.os 1 eI x5.People)), (6, .val (.os 1 eI x5.Dead)), (7, .val (.os 2 eApiStuck x5.Stuck))]) 8 hm (fun x41 hm => ?_) (fun J42 hm hJ42 => ?_)
 exact St.wa (idR 8) (hJ34 _ hm)
 refine C.ite rfl hm (fun hb43 hm => ?_) (fun hb43 hm => ?_)
 refine U.start ?_
 refine U.ps 3 T rfl ?_
 refine U.e1 rfl (.none rfl) (by exact Eff1.se T (z' := ({ Cell := ({ Cell := x16.Cell, Load := x16.Load, Charge := x22, Rest := x16.Rest, Mute := x16.Mute, Dead := x16.Dead : ApiRobot }).Cell, Load := (-1), Charge := ({ Cell := x16.Cell, Load := x16.Load, Charge := x22, Rest := x16.Rest, Mute := x16.Mute, Dead := x16.Dead : ApiRobot }).Charge, Rest := ({ Cell := x16.Cell, Load := x16.Load, Charge := x22, Rest := x16.Rest, Mute := x16.Mute, Dead := x16.Dead : ApiRobot }).Rest, Mute := ({ Cell := x16.Cell, Load := x16.Load, Charge := x22, Rest := x16.Rest, Mute := x16.Mute, Dead := x16.Dead : ApiRobot }).Mute, Dead := ({ Cell := x16.Cell, Load := x16.Load, Charge := x22, Rest := x16.Rest, Mute := x16.Mute, Dead := x16.Dead : ApiRobot }).Dead : ApiRobot })) rfl rfl rfl (set_get (idx_some hx16).2.2) rfl rfl rfl rfl rfl rfl rfl rfl (fun _ => rfl) rfl) ?_
 refine U.done ?_
 exact St.wa [some 0, some 2, some 3, some 4, some 5, some 6, some 7, some 8] (hJ42 _ hm)
 refine C.skip ?_
 exact St.wa [some 0, some 2, some 3, some 4, some 5, some 6, some 7, some 8] (hJ42 _ hm)
 refine C.ite rfl hm (fun hb24 hm => ?_) (fun hb24 hm => ?_)
 refine U.start ?_
 refine U.pd 1 T ?_
 exact St.wa (idR 9) (hJ23 _ hm)
 refine C.skip ?_
 exact St.wa (idR 9) (hJ23 _ hm)
 refine U.start ?_
 refine U.ps 3 T rfl ?_
 refine hm.cs (fun hb8 hm => ?_) (fun hb8 hm => ?_)
 refine U.sks 5 2 false 21 hb8 rfl rfl rfl ?_
 refine U.pk hb8 ?_
 refine U.ps 1 T rfl ?_
 refine U.sks 6 9 false 28 rfl rfl rfl rfl ?_
 refine U.pk rfl ?_
 refine U.done ?_
 exact St.wa [some 0, some 1, some 2, some 8, some 3, some 4, some 5, some 6, some 7] (hJ7 _ hm)
 refine U.pg 5 2 false 21 hb8 T rfl rfl rfl rfl ?_
 refine U.pk' hb8 ?_
 refine U.ps 1 T rfl ?_
 refine hm.cs (fun hb9 hm => ?_) (fun hb9 hm => ?_)
 refine U.sks 6 9 false 28 hb9 rfl rfl rfl ?_
 refine U.pk hb9 ?_
 refine U.done ?_
 exact St.wa [some 0, some 1, some 2, some 8, some 3, some 4, some 5, some 6, some 7] (hJ7 _ hm)
 refine U.pg 3 9 false 28 hb9 T rfl rfl rfl rfl ?_
 obtain ⟨x10, hx10, hm⟩ := hm
 refine U.r rfl (.take 9 false 28 _ hb9 rfl rfl rfl) rfl rfl (by exact Rd.io T rfl rfl rfl rfl rfl rfl rfl hx10) ?_
 refine U.pg 1 9 false 28 hb9 T rfl rfl rfl rfl ?_
 refine U.r rfl (.take 9 false 28 _ hb9 rfl rfl rfl) rfl rfl (by exact Rd.le T rfl rfl rfl (idx_some hx10).2.2 rfl rfl rfl) ?_
 refine U.pk' hb9 ?_
 refine U.done ?_
 exact St.wa [some 0, some 1, some 2, some 8, some 3, some 4, some 5, some 6, some 7] (hJ7 _ hm)
theorem T_arena_Check (s_1 : ApiSite) (st : ApiState) (acts : List Int) (post : Int → Prop) (hm : V_arena_Check s_1 st acts post) :
    Tr Tryz.prog 10 [.agg (eApiSite s_1), .agg (eApiState st), .sl 1 eI acts] [] 0 (fun A H' k => ∃ y, post y ∧ A = (.i y) ∧ H' = [] ∧ k = 0) := by
 refine Tr.intro (n := 73) Tryz.func10 rfl Tryz.ntmps10 rfl (fun w0 ok F β hβ => ?_)
 unfold V_arena_Check at hm
 refine C.seq (U.start ?_)
 refine U.bx ?_
 refine U.bx ?_
 refine U.pd 1 T (C.nx (C.seq (C.block (C.seq (U.start ?_)))))
 refine U.pd 4 T (C.nx ?_)
 refine C.ite rfl hm (fun hb5 hm => ?_) (fun hb5 hm => ?_)
 refine C.seq (U.start ?_)
 refine U.pd 1 T (C.nx (C.ret (C.brt (C.rt ?_))))
 exact C.f1 T hβ ⟨28, hm, rfl, rfl, rfl⟩
 refine C.seq (U.start ?_)
 refine U.pd 7 T (C.nx ?_)
 refine C.ite rfl hm (fun hb10 hm => ?_) (fun hb10 hm => ?_)
 refine C.seq (U.start ?_)
 refine U.pd 1 T (C.nx (C.ret (C.brt (C.rt ?_))))
 exact C.f1 T hβ ⟨1, hm, rfl, rfl, rfl⟩
 refine C.skip (C.bnx (C.nx (C.seq (C.seq (U.start ?_)))))
 refine U.pd 3 T (C.nx ?_)
 refine C.jn (fun (x15 : Unit) => [(2, .sl 1 eI acts), (3, .p 0 0), (4, .p 1 0)]) (fun (x15 : Unit) => [(0, .box (eApiSite s_1)), (1, .box (eApiState st))]) 2 hm (fun x15 hm => ?_) (fun J16 hm hJ16 => ?_)
 refine C.nx (C.seq (C.seq (U.start ?_)))
 refine U.ps 4 T rfl ?_
 refine U.k (T_body_Moving s_1.Floor st acts _ hm) en28 (fun x37 hm => ?_)
 refine U.k (T_body_Clash x37 _ hm) en27 (fun x38 hm => ?_)
 refine U.pd 5 T (C.nx (C.seq (U.start ?_)))
 refine U.pd 1 T (C.nx ?_)
 refine C.ite rfl hm (fun hb41 hm => ?_) (fun hb41 hm => ?_)
 refine C.seq (U.start ?_)
 refine U.pd 1 T (C.nx (C.ret (C.rt ?_)))
 exact C.f1 T hβ ⟨15, hm, rfl, rfl, rfl⟩
 refine C.skip (C.nx (C.seq (C.seq (U.start ?_))))
 refine U.pd 3 T (C.nx ?_)
 refine C.jn (fun (x46 : Unit) => []) (fun (x46 : Unit) => []) 0 hm (fun x46 hm => ?_) (fun J47 hm hJ47 => ?_)
 refine C.nx (C.seq (U.start ?_))
 refine U.pd 1 T (C.nx (C.ret ?_))
 exact C.f1 T hβ ⟨0, hm, rfl, rfl, rfl⟩
 refine C.block ?_
 refine St.wk (C.loop (fun (s48 : Int × List Int × List ApiRobot × List Int × List Int × List ApiStuck × Int) => [(3, .p 0 0), (4, .p 1 0), (52, .sl 1 eI acts), (53, .i (acts.length : Int)), (54, .i s48.2.2.2.2.2.2)]) (fun (s48 : Int × List Int × List ApiRobot × List Int × List Int × List ApiStuck × Int) => [(0, .box (eApiSite s_1)), (1, .box [.i s48.1, .sl 1 eI s48.2.1, .sl 6 eApiRobot s48.2.2.1, .sl 1 eI s48.2.2.2.1, .sl 1 eI s48.2.2.2.2.1, .sl 2 eApiStuck s48.2.2.2.2.2.1])]) hm (fun s48 Y49 hm => ?_)) (Wk.a (idR 2))
 refine C.seq (U.start ?_)
 refine U.pd 1 T (C.nx (C.seq ?_))
 refine C.ite rfl hm (fun hb52 hm => ?_) (fun hb52 hm => ?_)
 refine C.skip (C.nx (C.seq (C.block (C.seq (U.start ?_)))))
 refine U.ps 1 T rfl ?_
 obtain ⟨x55, hx55, hm⟩ := hm
 refine U.r rfl (.none rfl) rfl rfl (by exact Rd.ix T rfl rfl rfl rfl rfl rfl hx55) ?_
 refine U.pd 3 T (C.nx (C.seq (C.seq (U.start ?_))))
 refine U.ps 4 T rfl ?_
 refine U.k (T_act_Legal s_1 ({ Tick := s48.1, Shelves := s48.2.1, Robots := s48.2.2.1, People := s48.2.2.2.1, Dead := s48.2.2.2.2.1, Stuck := s48.2.2.2.2.2.1 : ApiState }) s48.2.2.2.2.2.2 x55 _ hm) en36 (fun x58 hm => ?_)
 refine U.pd 1 T (C.nx (C.seq (U.start ?_)))
 refine U.pd 2 T (C.nx ?_)
 refine C.ite rfl hm (fun hb61 hm => ?_) (fun hb61 hm => ?_)
 refine C.seq (U.start ?_)
 refine U.pd 2 T (C.nx (C.ret (C.rt (C.brt (C.rt (C.rt (C.brt (C.rt ?_))))))))
 exact C.f1 T hβ ⟨x58, hm, rfl, rfl, rfl⟩
 refine C.skip (C.nx (U.start ?_))
 refine U.ps 4 T rfl ?_
 refine U.k (T_act_Do s_1 ({ Tick := s48.1, Shelves := s48.2.1, Robots := s48.2.2.1, People := s48.2.2.2.1, Dead := s48.2.2.2.2.1, Stuck := s48.2.2.2.2.2.1 : ApiState }) s48.2.2.2.2.2.2 x55 _ hm) en37 (fun x66 hm => ?_)
 refine U.e1 rfl (.none rfl) (by exact Eff1.st T rfl rfl rfl rfl rfl rfl rfl rfl rfl rfl) ?_
 refine U.done (C.bnx (C.nx (U.start ?_)))
 refine U.pd 2 T (C.nx ?_)
 exact St.wk (C.next hm) (Wk.mk' [some 0, some 1] rfl rfl (.eqs rfl) ⟨bX, ⟨_, rfl, .box rfl (.cons (.eq rfl) (.cons (.fz rfl rfl rfl (.os fun _ => .cons (.ro rfl) .nil)) (.cons (.fz rfl rfl rfl (.os fun _ => .cons (.ro rfl) (.cons (.ro rfl) (.cons (.ro rfl) (.cons (.ro rfl) (.cons (.ro rfl) (.cons (.ro rfl) .nil))))))) (.cons (.fz rfl rfl rfl (.os fun _ => .cons (.ro rfl) .nil)) (.cons (.fz rfl rfl rfl (.os fun _ => .cons (.ro rfl) .nil)) (.cons (.fz rfl rfl rfl (.os fun _ => .cons (.ro rfl) (.cons (.ro rfl) .nil))) .nil))))))⟩, trivial⟩ rfl)
 refine C.exit (C.ex (C.ex (C.bex ?_)))
 exact St.wk (hJ47 _ hm) (Wk.mk' [] rfl rfl trivial trivial rfl)
 refine C.block ?_
 refine St.wk (C.loop (fun (s17 : Int) => [(2, .sl 1 eI acts), (3, .p 0 0), (4, .p 1 0), (26, .sl 1 eI acts), (27, .i (acts.length : Int)), (28, .i s17)]) (fun (s17 : Int) => [(0, .box (eApiSite s_1)), (1, .box (eApiState st))]) hm (fun s17 Y18 hm => ?_)) (Wk.a (idR 2))
 refine C.seq (U.start ?_)
 refine U.pd 1 T (C.nx (C.seq ?_))
 refine C.ite rfl hm (fun hb21 hm => ?_) (fun hb21 hm => ?_)
 refine C.skip (C.nx (C.seq (C.block (C.seq (U.start ?_)))))
 refine U.ps 1 T rfl ?_
 obtain ⟨x24, hx24, hm⟩ := hm
 refine U.r rfl (.none rfl) rfl rfl (by exact Rd.ix T rfl rfl rfl rfl rfl rfl hx24) ?_
 refine U.pd 3 T (C.nx (C.seq (U.start ?_)))
 refine U.ps 4 T rfl ?_
 refine U.k (T_act_Legal s_1 st s17 x24 _ hm) en36 (fun x27 hm => ?_)
 refine U.pd 1 T (C.nx (C.seq (U.start ?_)))
 refine U.pd 2 T (C.nx ?_)
 refine C.ite rfl hm (fun hb30 hm => ?_) (fun hb30 hm => ?_)
 refine C.seq (U.start ?_)
 refine U.pd 2 T (C.nx (C.ret (C.brt (C.rt (C.rt (C.brt (C.rt ?_)))))))
 exact C.f1 T hβ ⟨x27, hm, rfl, rfl, rfl⟩
 refine C.skip (C.bnx (C.nx (U.start ?_)))
 refine U.pd 2 T (C.nx ?_)
 exact St.wk (C.next hm) (Wk.a (idR 2))
 refine C.exit (C.ex (C.ex (C.bex ?_)))
 exact St.wa (idR 2) (hJ16 _ hm)
theorem T_arena_live (st : ApiState) (i : Int) (post : Bool → Prop) (hm : V_arena_live st i post) :
    Tr Tryz.prog 42 [.agg (eApiState st), .i i] [] 0 (fun A H' k => ∃ y, post y ∧ A = (.b y) ∧ H' = [] ∧ k = 0) := by
 refine Tr.intro (n := 23) Tryz.func42 rfl Tryz.ntmps42 rfl (fun w0 ok F β hβ => ?_)
 unfold V_arena_live at hm
 refine C.seq (U.start ?_)
 refine U.bx ?_
 refine U.pd 1 T (C.nx (C.seq ?_))
 refine C.jn (fun (x3 : Bool) => [(4, .b x3)]) (fun (x3 : Bool) => []) 0 hm (fun x3 hm => ?_) (fun J4 hm hJ4 => ?_)
 refine C.nx (C.ret ?_)
 exact C.f1 T hβ ⟨x3, hm, rfl, rfl, rfl⟩
 refine U.start ?_
 refine U.ps 3 T rfl ?_
 refine hm.cs (fun hb5 hm => ?_) (fun hb5 hm => ?_)
 refine U.pg 5 2 true 7 hb5 T rfl rfl rfl rfl ?_
 refine U.pk hb5 ?_
 refine U.ps 1 T rfl ?_
 refine hm.cs (fun hb6 hm => ?_) (fun hb6 hm => ?_)
 refine U.pg 3 9 true 14 hb6 T rfl rfl rfl rfl ?_
 obtain ⟨x7, hx7, hm⟩ := hm
 refine U.r rfl (.take 9 true 14 _ hb6 rfl rfl rfl) rfl rfl (by exact Rd.ix T rfl rfl rfl rfl rfl rfl hx7) ?_
 refine U.pg 3 9 true 14 hb6 T rfl rfl rfl rfl ?_
 refine U.pk hb6 ?_
 refine U.pd 1 T ?_
 exact St.wn (hJ4 _ hm)
 refine U.sks 7 9 true 14 hb6 rfl rfl rfl ?_
 refine U.pk' hb6 ?_
 refine U.pd 1 T ?_
 exact St.wn (hJ4 _ hm)
 refine U.sks 5 2 true 7 hb5 rfl rfl rfl ?_
 refine U.pk' hb5 ?_
 refine U.ps 1 T rfl ?_
 refine U.sks 7 9 true 14 rfl rfl rfl rfl ?_
 refine U.pk' rfl ?_
 refine U.pd 1 T ?_
 exact St.wn (hJ4 _ hm)
theorem T_arena_kind (f : ApiFloor) (c : Int) (post : Int → Prop) (hm : V_arena_kind f c post) :
    Tr Tryz.prog 43 [.agg (eApiFloor f), .i c] [] 0 (fun A H' k => ∃ y, post y ∧ A = (.i y) ∧ H' = [] ∧ k = 0) := by
 refine Tr.intro (n := 19) Tryz.func43 rfl Tryz.ntmps43 rfl (fun w0 ok F β hβ => ?_)
 unfold V_arena_kind at hm
 refine C.seq (U.start ?_)
 refine U.bx ?_
 refine U.pd 1 T (C.nx (C.seq (C.seq ?_)))
 refine C.jn (fun (x3 : Bool) => [(1, .i c), (2, .p 0 0), (13, .b x3)]) (fun (x3 : Bool) => [(0, .box (eApiFloor f))]) 1 hm (fun x3 hm => ?_) (fun J4 hm hJ4 => ?_)
 refine C.nx ?_
 refine C.ite rfl hm (fun hb6 hm => ?_) (fun hb6 hm => ?_)
 refine C.seq (U.start ?_)
 refine U.pd 1 T (C.nx (C.ret (C.rt ?_)))
 exact C.f1 T hβ ⟨0, hm, rfl, rfl, rfl⟩
 refine C.skip (C.nx (C.seq (U.start ?_)))
 refine U.ps 3 T rfl ?_
 obtain ⟨x11, hx11, hm⟩ := hm
 refine U.r rfl (.none rfl) rfl rfl (by exact Rd.ix T rfl rfl rfl rfl rfl rfl hx11) ?_
 refine U.pd 2 T (C.nx (C.ret ?_))
 exact C.f1 T hβ ⟨x11, hm, rfl, rfl, rfl⟩
 refine U.start ?_
 refine U.ps 3 T rfl ?_
 refine hm.cs (fun hb5 hm => ?_) (fun hb5 hm => ?_)
 refine U.sks 5 2 false 7 hb5 rfl rfl rfl ?_
 refine U.pk hb5 ?_
 refine U.done ?_
 exact St.wa [some 0] (hJ4 _ hm)
 refine U.pg 5 2 false 7 hb5 T rfl rfl rfl rfl ?_
 refine U.pk' hb5 ?_
 refine U.done ?_
 exact St.wa [some 0] (hJ4 _ hm)
theorem T_arena_steps (s_1 : ApiSite) (st : ApiState) (person : Int) (c : Int) (post : Bool → Prop) (hm : V_arena_steps s_1 st person c post) :
    Tr Tryz.prog 45 [.agg (eApiSite s_1), .agg (eApiState st), .i person, .i c] [] 0 (fun A H' k => ∃ y, post y ∧ A = (.b y) ∧ H' = [] ∧ k = 0) := by
 refine Tr.intro (n := 71) Tryz.func45 rfl Tryz.ntmps45 rfl (fun w0 ok F β hβ => ?_)
 unfold V_arena_steps at hm
 refine C.seq (U.start ?_)
 refine U.bx ?_
 refine U.bx ?_
 refine U.pd 1 T (C.nx (C.seq (U.start ?_)))
 refine U.ps 3 T rfl ?_
 refine U.k (T_arena_kind s_1.Floor c _ hm) en43 (fun x5 hm => ?_)
 refine U.pd 1 T (C.nx (C.seq (C.seq ?_)))
 refine C.jn (fun (x6 : Bool) => [(2, .i person), (3, .i c), (4, .p 0 0), (5, .p 1 0), (9, .i x5), (21, .b x6)]) (fun (x6 : Bool) => [(0, .box (eApiSite s_1)), (1, .box (eApiState st))]) 2 hm (fun x6 hm => ?_) (fun J7 hm hJ7 => ?_)
 refine C.nx ?_
 refine C.ite rfl hm (fun hb9 hm => ?_) (fun hb9 hm => ?_)
 refine C.seq (U.start ?_)
 refine U.pd 1 T (C.nx (C.ret (C.rt ?_)))
 exact C.f1 T hβ ⟨false, hm, rfl, rfl, rfl⟩
 refine C.skip (C.nx (C.seq (C.seq (U.start ?_))))
 refine U.ps 1 T rfl ?_
 refine U.k (T_body_All st _ hm) en116 (fun x14 hm => ?_)
 refine U.pd 2 T (C.nx ?_)
 refine C.jn (fun (x15 : Unit) => [(2, .i person), (3, .i c), (4, .p 0 0), (5, .p 1 0), (9, .i x5)]) (fun (x15 : Unit) => [(0, .box (eApiSite s_1)), (1, .box (eApiState st))]) 2 hm (fun x15 hm => ?_) (fun J16 hm hJ16 => ?_)
 refine C.nx (C.seq (C.seq (U.start ?_)))
 refine U.pd 5 T (C.nx ?_)
 refine C.ite rfl hm (fun hb37 hm => ?_) (fun hb37 hm => ?_)
 refine C.seq ?_
 refine C.jn (fun (x38 : Bool) => [(8, .b x38)]) (fun (x38 : Bool) => []) 0 hm (fun x38 hm => ?_) (fun J39 hm hJ39 => ?_)
 refine C.nx (C.ret (C.rt ?_))
 exact C.f1 T hβ ⟨x38, hm, rfl, rfl, rfl⟩
 refine U.start ?_
 refine U.ps 3 T rfl ?_
 refine hm.cs (fun hb40 hm => ?_) (fun hb40 hm => ?_)
 refine U.pg 2 2 true 47 hb40 T rfl rfl rfl rfl ?_
 refine U.pk hb40 ?_
 refine U.pd 1 T ?_
 exact St.wn (hJ39 _ hm)
 refine U.sks 2 2 true 47 hb40 rfl rfl rfl ?_
 refine U.pk' hb40 ?_
 refine U.pd 1 T ?_
 exact St.wn (hJ39 _ hm)
 refine C.skip (C.nx (C.seq ?_))
 refine C.jn (fun (x41 : Bool) => [(8, .b x41)]) (fun (x41 : Bool) => []) 0 hm (fun x41 hm => ?_) (fun J42 hm hJ42 => ?_)
 refine C.nx (C.ret ?_)
 exact C.f1 T hβ ⟨x41, hm, rfl, rfl, rfl⟩
 refine D.beg 9999 [0, 1] [] mix rfl rfl (by kernel_rfl) (by repeat (first | exact NoPanicQ.body | exact NoPanicQ.rnd | refine NoPanicQ.th ?_ | refine NoPanicQ.blk ?_ | refine NoPanicQ.ng ?_)) (fun hQ hS ws M' => ?_)
 refine D.ps 3 [(0, []), (1, []), (2, [])] rfl hQ hS T rfl rfl (by kernel_rfl) ?_
 refine hm.cs (fun hb43 hm => ?_) (fun hb43 hm => ?_)
 refine D.q 3 [] hQ hS rfl (.take 2 true 53 _ hb43 rfl rfl rfl) rfl rfl (by exact Rd.p T rfl) rfl (by kernel_rfl) ?_
 refine D.q 4 [] hQ hS rfl (.take 2 true 53 _ hb43 rfl rfl rfl) rfl rfl (by exact Rd.p T rfl) rfl (by kernel_rfl) ?_
 refine D.q 5 [] hQ hS rfl (.take 2 true 53 _ hb43 rfl rfl rfl) rfl rfl (by exact Rd.l T rfl rfl rfl) rfl (by kernel_rfl) ?_
 refine D.q 6 [] hQ hS rfl (.take 2 true 53 _ hb43 rfl rfl rfl) rfl rfl (by exact Rd.p T rfl) rfl (by kernel_rfl) ?_
 refine D.q 7 [] hQ hS rfl (.take 2 true 53 _ hb43 rfl rfl rfl) rfl rfl (by exact Rd.p T rfl) rfl (by kernel_rfl) ?_
 refine D.q 8 [] hQ hS rfl (.none rfl) rfl rfl (by exact Rd.pk rfl rfl hb43 rfl) rfl (by kernel_rfl) ?_
 refine D.ps 1 [(9, [])] rfl hQ hS T rfl rfl (by kernel_rfl) ?_
 refine hm.cs (fun hb44 hm => ?_) (fun hb44 hm => ?_)
 refine D.q 10 [] hQ hS rfl (.take 9 true 60 _ hb44 rfl rfl rfl) rfl rfl (by exact Rd.p T rfl) rfl (by kernel_rfl) ?_
 refine D.q 11 [] hQ hS rfl (.take 9 true 60 _ hb44 rfl rfl rfl) rfl rfl (by exact Rd.l T rfl rfl rfl) rfl (by kernel_rfl) ?_
 refine D.q 12 [] hQ hS rfl (.take 9 true 60 _ hb44 rfl rfl rfl) rfl rfl (by exact Rd.p T rfl) rfl (by kernel_rfl) ?_
 refine D.q 13 [] hQ hS rfl (.take 9 true 60 _ hb44 rfl rfl rfl) rfl rfl (by exact Rd.l T rfl rfl rfl) rfl (by kernel_rfl) ?_
 refine D.q 14 [] hQ hS rfl (.take 9 true 60 _ hb44 rfl rfl rfl) rfl rfl (by exact Rd.p T rfl) rfl (by kernel_rfl) ?_
 obtain ⟨x45, hx45, hm⟩ := hm
 refine D.q 15 [] hQ hS rfl (.take 9 true 60 _ hb44 rfl rfl rfl) rfl rfl (by exact Rd.ix T rfl rfl rfl rfl rfl rfl hx45) rfl (by kernel_rfl) ?_
 refine D.q 16 [] hQ hS rfl (.take 9 true 60 _ hb44 rfl rfl rfl) rfl rfl (by exact Rd.l T rfl rfl rfl) rfl (by kernel_rfl) ?_
 refine D.q 17 [] hQ hS rfl (.take 9 true 60 _ hb44 rfl rfl rfl) rfl rfl (by exact Rd.p T rfl) rfl (by kernel_rfl) ?_
 refine D.k 18 (T_floor_Near s_1.Floor x45 c _ hm) en119 (fun x46 hm => ?_) (hw := .take 9 true 60 _ hb44 rfl rfl rfl)
 refine D.q 19 [] hQ hS rfl (.none rfl) rfl rfl (by exact Rd.pk rfl rfl hb44 rfl) rfl (by kernel_rfl) ?_
 refine D.ps 1 [(20, [])] rfl hQ hS T rfl rfl (by kernel_rfl) ?_
 refine D.done (by kernel_rfl) ?_
 exact St.wn (hJ42 _ hm)
 refine D.sx 10 [] hQ hS (.skip 9 true 60 _ hb44 rfl rfl rfl) ?_
 refine D.sx 11 [] hQ hS (.skip 9 true 60 _ hb44 rfl rfl rfl) ?_
 refine D.sx 12 [] hQ hS (.skip 9 true 60 _ hb44 rfl rfl rfl) ?_
 refine D.sx 13 [] hQ hS (.skip 9 true 60 _ hb44 rfl rfl rfl) ?_
 refine D.sx 14 [] hQ hS (.skip 9 true 60 _ hb44 rfl rfl rfl) ?_
 refine D.sx 15 [] hQ hS (.skip 9 true 60 _ hb44 rfl rfl rfl) ?_
 refine D.sx 16 [] hQ hS (.skip 9 true 60 _ hb44 rfl rfl rfl) ?_
 refine D.sx 17 [] hQ hS (.skip 9 true 60 _ hb44 rfl rfl rfl) ?_
 refine D.sx 18 [] hQ hS (.skip 9 true 60 _ hb44 rfl rfl rfl) ?_
 refine D.q 19 [] hQ hS rfl (.none rfl) rfl rfl (by exact Rd.pk' rfl rfl hb44 rfl) rfl (by kernel_rfl) ?_
 refine D.ps 1 [(20, [])] rfl hQ hS T rfl rfl (by kernel_rfl) ?_
 refine D.done (by kernel_rfl) ?_
 exact St.wn (hJ42 _ hm)
 refine D.sx 3 [] hQ hS (.skip 2 true 53 _ hb43 rfl rfl rfl) ?_
 refine D.sx 4 [] hQ hS (.skip 2 true 53 _ hb43 rfl rfl rfl) ?_
 refine D.sx 5 [] hQ hS (.skip 2 true 53 _ hb43 rfl rfl rfl) ?_
 refine D.sx 6 [] hQ hS (.skip 2 true 53 _ hb43 rfl rfl rfl) ?_
 refine D.sx 7 [] hQ hS (.skip 2 true 53 _ hb43 rfl rfl rfl) ?_
 refine D.q 8 [] hQ hS rfl (.none rfl) rfl rfl (by exact Rd.pk' rfl rfl hb43 rfl) rfl (by kernel_rfl) ?_
 refine D.ps 1 [(9, [])] rfl hQ hS T rfl rfl (by kernel_rfl) ?_
 refine D.sx 10 [] hQ hS (.skip 9 true 60 _ rfl rfl rfl rfl) ?_
 refine D.sx 11 [] hQ hS (.skip 9 true 60 _ rfl rfl rfl rfl) ?_
 refine D.sx 12 [] hQ hS (.skip 9 true 60 _ rfl rfl rfl rfl) ?_
 refine D.sx 13 [] hQ hS (.skip 9 true 60 _ rfl rfl rfl rfl) ?_
 refine D.sx 14 [] hQ hS (.skip 9 true 60 _ rfl rfl rfl rfl) ?_
 refine D.sx 15 [] hQ hS (.skip 9 true 60 _ rfl rfl rfl rfl) ?_
 refine D.sx 16 [] hQ hS (.skip 9 true 60 _ rfl rfl rfl rfl) ?_
 refine D.sx 17 [] hQ hS (.skip 9 true 60 _ rfl rfl rfl rfl) ?_
 refine D.sx 18 [] hQ hS (.skip 9 true 60 _ rfl rfl rfl rfl) ?_
 refine D.q 19 [] hQ hS rfl (.none rfl) rfl rfl (by exact Rd.pk' rfl rfl rfl rfl) rfl (by kernel_rfl) ?_
 refine D.ps 1 [(20, [])] rfl hQ hS T rfl rfl (by kernel_rfl) ?_
 refine D.done (by kernel_rfl) ?_
 exact St.wn (hJ42 _ hm)
 refine C.block ?_
 refine St.wk (C.loop (fun (s17 : Int) => [(2, .i person), (3, .i c), (4, .p 0 0), (5, .p 1 0), (9, .i x5), (23, .o 2), (24, .i (x14.length : Int)), (25, .i s17)]) (fun (s17 : Int) => [(0, .box (eApiSite s_1)), (1, .box (eApiState st)), (2, .val (.os 1 eI x14))]) hm (fun s17 Y18 hm => ?_)) (Wk.a (idR 3))
 refine C.seq (U.start ?_)
 refine U.pd 1 T (C.nx (C.seq ?_))
 refine C.ite rfl hm (fun hb21 hm => ?_) (fun hb21 hm => ?_)
 refine C.skip (C.nx (C.seq (C.block (C.seq (U.start ?_)))))
 obtain ⟨x24, hx24, hm⟩ := hm
 refine U.r rfl (.none rfl) rfl rfl (by exact Rd.io T rfl rfl rfl rfl rfl rfl rfl hx24) ?_
 refine U.r rfl (.none rfl) rfl rfl (by exact Rd.le T rfl rfl rfl (idx_some hx24).2.2 rfl rfl rfl) ?_
 refine U.pd 1 T (C.nx (C.seq ?_))
 refine C.jn (fun (x25 : Bool) => [(2, .i person), (3, .i c), (4, .p 0 0), (5, .p 1 0), (9, .i x5), (23, .o 2), (24, .i (x14.length : Int)), (25, .i s17), (38, .b x25)]) (fun (x25 : Bool) => [(0, .box (eApiSite s_1)), (1, .box (eApiState st)), (2, .val (.os 1 eI x14))]) 3 hm (fun x25 hm => ?_) (fun J26 hm hJ26 => ?_)
 refine C.nx ?_
 refine C.ite rfl hm (fun hb30 hm => ?_) (fun hb30 hm => ?_)
 refine C.seq (U.start ?_)
 refine U.pd 1 T (C.nx (C.ret (C.brt (C.rt (C.rt (C.brt (C.rt ?_)))))))
 exact C.f1 T hβ ⟨false, hm, rfl, rfl, rfl⟩
 refine C.skip (C.bnx (C.nx (U.start ?_)))
 refine U.pd 2 T (C.nx ?_)
 exact St.wk (C.next hm) (Wk.a (idR 3))
 refine U.start ?_
 refine U.ps 2 T rfl ?_
 refine U.k (T_body_Low c _ hm) en117 (fun x27 hm => ?_)
 refine U.ps 2 T rfl ?_
 refine hm.cs (fun hb28 hm => ?_) (fun hb28 hm => ?_)
 refine U.sks 4 4 false 33 hb28 rfl rfl rfl ?_
 refine U.pk hb28 ?_
 refine U.done ?_
 exact St.wa (idR 3) (hJ26 _ hm)
 refine U.pg 2 4 false 33 hb28 T rfl rfl rfl rfl ?_
 refine U.k (T_body_High c _ hm) en118 (fun x29 hm => ?_) (hw := .take 4 false 33 _ hb28 rfl rfl rfl)
 refine U.pg 1 4 false 33 hb28 T rfl rfl rfl rfl ?_
 refine U.pk' hb28 ?_
 refine U.done ?_
 exact St.wa (idR 3) (hJ26 _ hm)
 refine C.exit (C.ex (C.ex (C.bex ?_)))
 exact St.wa (idR 2) (hJ16 _ hm)
 refine U.start ?_
 refine U.ps 3 T rfl ?_
 refine hm.cs (fun hb8 hm => ?_) (fun hb8 hm => ?_)
 refine U.pg 2 2 true 18 hb8 T rfl rfl rfl rfl ?_
 refine U.pk hb8 ?_
 refine U.done ?_
 exact St.wa (idR 2) (hJ7 _ hm)
 refine U.sks 2 2 true 18 hb8 rfl rfl rfl ?_
 refine U.pk' hb8 ?_
 refine U.done ?_
 exact St.wa (idR 2) (hJ7 _ hm)
theorem T_arena_Possible (s_1 : ApiSite) (st : ApiState) (f : ApiFault) (post : Int → Prop) (hm : V_arena_Possible s_1 st f post) :
    Tr Tryz.prog 12 [.agg (eApiSite s_1), .agg (eApiState st), .agg (eApiFault f)] [] 0 (fun A H' k => ∃ y, post y ∧ A = (.i y) ∧ H' = [] ∧ k = 0) := by
 refine Tr.intro (n := 74) Tryz.func12 rfl Tryz.ntmps12 rfl (fun w0 ok F β hβ => ?_)
 unfold V_arena_Possible at hm
 refine C.seq (U.start ?_)
 refine U.bx ?_
 refine U.bx ?_
 refine U.bx ?_
 refine U.pd 1 T (C.nx (C.seq (U.start ?_)))
 refine U.pd 1 T (C.nx (C.seq ?_))
 refine C.jn (fun (x5 : Bool) => [(3, .p 0 0), (4, .p 1 0), (5, .p 2 0), (7, .b false), (8, .b x5)]) (fun (x5 : Bool) => [(0, .box (eApiSite s_1)), (1, .box (eApiState st)), (2, .box (eApiFault f))]) 3 hm (fun x5 hm => ?_) (fun J6 hm hJ6 => ?_)
 refine C.nx (C.seq (C.seq (U.start ?_)))
 refine U.pd 2 T (C.nx (C.block (C.seq (U.start ?_))))
 refine U.pd 2 T (C.nx ?_)
 refine C.jn (fun (x12 : Bool) => [(7, .b x12)]) (fun (x12 : Bool) => []) 0 hm (fun x12 hm => ?_) (fun J13 hm hJ13 => ?_)
 refine C.bnx (C.nx (C.seq (C.seq (U.start ?_))))
 refine U.pd 2 T (C.nx ?_)
 refine C.ite rfl hm (fun hb63 hm => ?_) (fun hb63 hm => ?_)
 refine C.seq (U.start ?_)
 refine U.pd 1 T (C.nx (C.ret (C.rt ?_)))
 exact C.f1 T hβ ⟨26, hm, rfl, rfl, rfl⟩
 refine C.skip (C.nx (C.seq (U.start ?_)))
 refine U.pd 1 T (C.nx (C.ret ?_))
 exact C.f1 T hβ ⟨0, hm, rfl, rfl, rfl⟩
 refine C.ite rfl hm (fun hb14 hm => ?_) (fun hb14 hm => ?_)
 refine U.start ?_
 refine U.pd 1 T ?_
 exact St.wn (hJ13 _ hm)
 refine C.seq (U.start ?_)
 refine U.pd 2 T (C.nx ?_)
 refine C.jn (fun (x19 : Bool) => [(7, .b x19)]) (fun (x19 : Bool) => []) 0 hm (fun x19 hm => ?_) (fun J20 hm hJ20 => ?_)
 exact St.wn (hJ13 _ hm)
 refine C.ite rfl hm (fun hb21 hm => ?_) (fun hb21 hm => ?_)
 refine U.start ?_
 refine U.ps 3 T rfl ?_
 refine U.k (T_arena_live st f.A _ hm) en42 (fun x24 hm => ?_)
 refine U.pd 1 T ?_
 exact St.wn (hJ20 _ hm)
 refine C.seq (U.start ?_)
 refine U.pd 2 T (C.nx ?_)
 refine C.jn (fun (x27 : Bool) => [(7, .b x27)]) (fun (x27 : Bool) => []) 0 hm (fun x27 hm => ?_) (fun J28 hm hJ28 => ?_)
 exact St.wn (hJ20 _ hm)
 refine C.ite rfl hm (fun hb29 hm => ?_) (fun hb29 hm => ?_)
 refine C.jn (fun (x30 : Bool) => [(7, .b x30)]) (fun (x30 : Bool) => []) 0 hm (fun x30 hm => ?_) (fun J31 hm hJ31 => ?_)
 exact St.wn (hJ28 _ hm)
 refine U.start ?_
 refine U.ps 4 T rfl ?_
 refine U.k (T_arena_kind s_1.Floor f.A _ hm) en43 (fun x32 hm => ?_)
 refine U.ps 2 T rfl ?_
 refine hm.cs (fun hb33 hm => ?_) (fun hb33 hm => ?_)
 refine U.pg 4 6 true 35 hb33 T rfl rfl rfl rfl ?_
 refine U.k (T_slices_Contains_int_int st.Dead f.A _ hm) en44 (fun x34 hm => ?_) (hw := .take 6 true 35 _ hb33 rfl rfl rfl)
 refine U.pg 1 6 true 35 hb33 T rfl rfl rfl rfl ?_
 refine U.pk hb33 ?_
 refine U.pd 1 T ?_
 exact St.wn (hJ31 _ hm)
 refine U.sks 6 6 true 35 hb33 rfl rfl rfl ?_
 refine U.pk' hb33 ?_
 refine U.pd 1 T ?_
 exact St.wn (hJ31 _ hm)
 refine C.seq (U.start ?_)
 refine U.pd 2 T (C.nx ?_)
 refine C.jn (fun (x37 : Bool) => [(7, .b x37)]) (fun (x37 : Bool) => []) 0 hm (fun x37 hm => ?_) (fun J38 hm hJ38 => ?_)
 exact St.wn (hJ28 _ hm)
 refine C.ite rfl hm (fun hb39 hm => ?_) (fun hb39 hm => ?_)
 refine C.jn (fun (x40 : Bool) => [(7, .b x40)]) (fun (x40 : Bool) => []) 0 hm (fun x40 hm => ?_) (fun J41 hm hJ41 => ?_)
 exact St.wn (hJ38 _ hm)
 refine U.start ?_
 refine U.ps 3 T rfl ?_
 refine U.k (T_arena_live st f.A _ hm) en42 (fun x42 hm => ?_)
 refine U.ps 1 T rfl ?_
 refine hm.cs (fun hb43 hm => ?_) (fun hb43 hm => ?_)
 refine U.pg 1 4 true 49 hb43 T rfl rfl rfl rfl ?_
 refine U.pk hb43 ?_
 refine U.pd 1 T ?_
 exact St.wn (hJ41 _ hm)
 refine U.sks 1 4 true 49 hb43 rfl rfl rfl ?_
 refine U.pk' hb43 ?_
 refine U.pd 1 T ?_
 exact St.wn (hJ41 _ hm)
 refine C.seq (U.start ?_)
 refine U.pd 2 T (C.nx ?_)
 refine C.jn (fun (x46 : Bool) => [(7, .b x46)]) (fun (x46 : Bool) => []) 0 hm (fun x46 hm => ?_) (fun J47 hm hJ47 => ?_)
 exact St.wn (hJ38 _ hm)
 refine C.ite rfl hm (fun hb48 hm => ?_) (fun hb48 hm => ?_)
 refine C.jn (fun (x49 : Bool) => [(7, .b x49)]) (fun (x49 : Bool) => []) 0 hm (fun x49 hm => ?_) (fun J50 hm hJ50 => ?_)
 exact St.wn (hJ47 _ hm)
 refine U.start ?_
 refine U.ps 4 T rfl ?_
 refine U.k (T_arena_kind s_1.Floor f.A _ hm) en43 (fun x51 hm => ?_)
 refine U.ps 2 T rfl ?_
 refine hm.cs (fun hb52 hm => ?_) (fun hb52 hm => ?_)
 refine U.pg 1 6 true 60 hb52 T rfl rfl rfl rfl ?_
 refine U.pk hb52 ?_
 refine U.pd 1 T ?_
 exact St.wn (hJ50 _ hm)
 refine U.sks 1 6 true 60 hb52 rfl rfl rfl ?_
 refine U.pk' hb52 ?_
 refine U.pd 1 T ?_
 exact St.wn (hJ50 _ hm)
 refine C.seq (U.start ?_)
 refine U.pd 2 T (C.nx ?_)
 refine C.jn (fun (x55 : Bool) => [(7, .b x55)]) (fun (x55 : Bool) => []) 0 hm (fun x55 hm => ?_) (fun J56 hm hJ56 => ?_)
 exact St.wn (hJ47 _ hm)
 refine C.ite rfl hm (fun hb57 hm => ?_) (fun hb57 hm => ?_)
 refine U.start ?_
 refine U.ps 6 T rfl ?_
 refine U.k (T_arena_steps s_1 st f.A f.N _ hm) en45 (fun x60 hm => ?_)
 refine U.pd 1 T ?_
 exact St.wn (hJ56 _ hm)
 refine C.skip ?_
 exact St.wn (hJ56 _ hm)
 refine U.start ?_
 refine U.ps 4 T rfl ?_
 refine hm.cs (fun hb7 hm => ?_) (fun hb7 hm => ?_)
 refine U.pg 3 3 true 12 hb7 T rfl rfl rfl rfl ?_
 refine U.pk hb7 ?_
 refine U.pd 1 T ?_
 exact St.wa (idR 3) (hJ6 _ hm)
 refine U.sks 3 3 true 12 hb7 rfl rfl rfl ?_
 refine U.pk' hb7 ?_
 refine U.pd 1 T ?_
 exact St.wa (idR 3) (hJ6 _ hm)
theorem T_arena_stick_1 (x_1 : ApiStuck) (c0 : Int) (post : Bool → Prop) (hm : V_arena_stick_1 x_1 c0 post) :
    Tr Tryz.prog 130 [.agg [.i x_1.Cell, .i x_1.Left], .rp [.i c0]] [] 0 (fun A H' k => ∃ y, post y ∧ A = (.b y) ∧ H' = [] ∧ k = 0) := by
 refine Tr.intro (n := 8) Tryz.func130 rfl Tryz.ntmps130 rfl (fun w0 ok F β hβ => ?_)
 unfold V_arena_stick_1 at hm
 refine C.seq (U.start ?_)
 refine U.bx ?_
 refine U.pd 1 T (C.nx (C.seq (U.start ?_)))
 refine U.pd 5 T (C.nx (C.ret ?_))
 exact C.f1 T hβ ⟨decide (x_1.Cell ≥ c0), hm, rfl, rfl, rfl⟩
theorem T_slices_IndexFunc_api_Stuck_api_Stuck__arena_stick_1 (s_1 : List ApiStuck) (f_c0 : Int) (post : Int → Prop) (hm : V_slices_IndexFunc_api_Stuck_api_Stuck__arena_stick_1 s_1 f_c0 post) :
    Tr Tryz.prog 129 [.sl 2 eApiStuck s_1, .fn (.func 130) [] [.rp [.i f_c0]]] [] 0 (fun A H' k => ∃ y, post y ∧ A = (.i y) ∧ H' = [] ∧ k = 0) := by
 refine Tr.intro (n := 19) Tryz.func129 rfl Tryz.ntmps129 rfl (fun w0 ok F β hβ => ?_)
 unfold V_slices_IndexFunc_api_Stuck_api_Stuck__arena_stick_1 at hm
 refine C.seq (U.start ?_)
 refine U.pd 1 T (C.nx (C.seq (C.seq (U.start ?_))))
 refine U.pd 3 T (C.nx ?_)
 refine C.jn (fun (x5 : Unit) => []) (fun (x5 : Unit) => []) 0 hm (fun x5 hm => ?_) (fun J6 hm hJ6 => ?_)
 refine C.nx (C.seq (U.start ?_))
 refine U.pd 1 T (C.nx (C.ret ?_))
 exact C.f1 T hβ ⟨(-1), hm, rfl, rfl, rfl⟩
 refine C.block ?_
 refine St.wk (C.loop (fun (s7 : Int) => [(0, .sl 2 eApiStuck s_1), (1, .fn (.func 130) [] [.rp [.i f_c0]]), (7, .i (s_1.length : Int)), (8, .i s7)]) (fun (s7 : Int) => []) hm (fun s7 Y8 hm => ?_)) (Wk.e)
 refine C.seq (U.start ?_)
 refine U.pd 1 T (C.nx (C.seq ?_))
 refine C.ite rfl hm (fun hb11 hm => ?_) (fun hb11 hm => ?_)
 refine C.skip (C.nx (C.seq (C.block (C.seq (U.start ?_)))))
 refine U.pd 2 T (C.nx (C.seq (U.start ?_)))
 refine U.ps 3 T rfl ?_
 obtain ⟨x16, hx16, hm⟩ := hm
 refine U.r rfl (.none rfl) rfl rfl (by exact Rd.ix T rfl rfl rfl rfl rfl rfl hx16) ?_
 refine U.ps 1 T rfl ?_
 refine U.k (T_arena_stick_1 x16 f_c0 _ hm) en130 (fun x17 hm => ?_)
 refine U.done (C.nx ?_)
 refine C.ite rfl hm (fun hb18 hm => ?_) (fun hb18 hm => ?_)
 refine C.seq (U.start ?_)
 refine U.pd 2 T (C.nx (C.ret (C.brt (C.rt (C.rt (C.brt (C.rt ?_)))))))
 exact C.f1 T hβ ⟨s7, hm, rfl, rfl, rfl⟩
 refine C.skip (C.bnx (C.nx (U.start ?_)))
 refine U.pd 2 T (C.nx ?_)
 exact St.wk (C.next hm) (Wk.e)
 refine C.exit (C.ex (C.ex (C.bex ?_)))
 exact St.wk (hJ6 _ hm) (Wk.mk' [] rfl rfl trivial trivial rfl)
theorem ov131 (w : World) {b off lb cb vb voff m vc : Nat} {cc cv : Array Value} {Tb Tv : TypeId} (hwb : w.heap[b]? = some (.cells cc Tb (0, 0))) (hwv : w.heap[vb]? = some (.cells cv Tv (0, 0))) (hne : vb ≠ b) (hb0 : cc.size ≠ 0) :
    (callFunc 194 #[.slice (some ⟨vb, voff, none⟩) m vc, .slice (some ⟨b, off, none⟩) lb cb]).run Tryz.prog w = .ok (.value (.bool false)) w := by
  rw [run_callFunc_extern Tryz.func194 (by kernel_rfl) (by kernel_rfl) (by kernel_rfl) (e := Extern.SlicesOverlaps.overlaps #[32, 32] #[4]) (by kernel_rfl),
    Lib.run_overlaps_apart w 32 4 77 Tryz.underlying32 2 Tryz.sizeOf77 ⟨vb, voff, none⟩ ⟨b, off, none⟩ m vc lb cb hne Tv Tb cv.size cc.size (by simp [World.shape?, hwv]) (by simp [World.shape?, hwb]) hb0 (by simp [World.frozen?, hwv]) (by simp [World.frozen?, hwv])]
  rfl
set_option maxHeartbeats 4000000 in
theorem inR131 (w : World) (b off n c i vb voff m vc : Nat) (cb cv : Array Value) (Tb Tv : TypeId) (hwb : w.heap[b]? = some (.cells cb Tb (0, 0))) (hwv : w.heap[vb]? = some (.cells cv Tv (0, 0))) (hne : vb ≠ b) (hi : i < n) (hm : 0 < m) (hmv : m ≤ vc) (hcb : off + c * 2 ≤ cb.size) (hcv : voff + vc * 2 ≤ cv.size)
    (ho1 : ∀ q, q < n * 2 → (cb.getD (off + q) undef).oneCell' = true) (ho2 : ∀ q, q < m * 2 → (cv.getD (voff + q) undef).oneCell' = true) (hroom : n + m ≤ c) (hnm : n + m ≤ 1099511627776) :
    Calls Tryz.prog 131 #[.slice (some ⟨b, off, none⟩) n c, .int .i64 i, .slice (some ⟨vb, voff, none⟩) m vc] w fun e w' => e = .returned (.slice (some ⟨b, off, none⟩) (n + m) c) ∧
      w' = (w.drew.setRow b (spl cb (off + (i + m) * 2) cb (off + i * 2) ((n - i) * 2))).setRow b (spl (spl cb (off + (i + m) * 2) cb (off + i * 2) ((n - i) * 2)) (off + i * 2) cv voff (m * 2)) := by
  have u0 := run_underlying Tryz.underlying0; have u3 := run_underlying Tryz.underlying3; have u4 := run_underlying Tryz.underlying4; have uS := run_underlying Tryz.underlying32
  have zE := Tryz.sizeOf77
  have hz1 : ¬ ((m : Int) = 0) := by omega
  have hz2 : ¬ ((i : Int) = (n : Int)) := by omega
  have hz3 : ¬ ((c : Int) < (n : Int) + (m : Int)) := by omega
  have hw1 : IntKind.i64.wrap ((i : Int) + (m : Int)) = (i : Int) + (m : Int) := IntWalk.i64_in _ (by omega)
  have hw2 : IntKind.i64.wrap ((n : Int) + (m : Int)) = (n : Int) + (m : Int) := IntWalk.i64_in _ (by omega)
  have hb1 : (0 : Int) ≤ (i : Int) + (m : Int) := by omega
  have hin : i ≤ n := by omega
  have htn : ((i : Int) + (m : Int)).toNat = i + m := by omega
  have hb2 : ¬ (c = i + m) := by omega
  have hb3 : (i : Int) ≤ (n : Int) + (m : Int) := by omega
  have hb4 : ¬ (c = i) := by omega
  have hN1 : (i + m) * 2 + (n - i) * 2 = (n + m) * 2 := by rw [← Nat.add_mul]; congr 1; omega
  have hN2 : i * 2 + (n - i) * 2 = n * 2 := by rw [← Nat.add_mul]; congr 1; omega
  have hN3 : (n + m) * 2 ≤ c * 2 := Nat.mul_le_mul_right _ hroom
  have hN4 : n * 2 ≤ c * 2 := Nat.mul_le_mul_right _ (by omega)
  have hN5 : i * 2 + m * 2 = (i + m) * 2 := (Nat.add_mul _ _ _).symm
  have hN6 : (i + m) * 2 ≤ c * 2 := Nat.mul_le_mul_right _ (by omega)
  have hN7 : m * 2 ≤ vc * 2 := Nat.mul_le_mul_right _ hmv
  have hsz0 : cb.size ≠ 0 := by
    have : 1 * 2 ≤ c * 2 := Nat.mul_le_mul_right _ (by omega)
    omega
  have hov : ∀ lb cb2, (callFunc 194 #[.slice (some ⟨vb, voff, none⟩) m vc, .slice (some ⟨b, off + (i + m) * 2, none⟩) lb cb2]).run Tryz.prog w = .ok (.value (.bool false)) w := fun lb cb2 => ov131 w hwb hwv hne hsz0
  have hcp1 : ∀ ty dc sc, (Builtin.copy_ #[32, 32] ty #[.slice (some ⟨b, off + (i + m) * 2, none⟩) (n + m - (i + m)) dc, .slice (some ⟨b, off + i * 2, none⟩) (n + m - i) sc]).run Tryz.prog w.drew = .ok (goInt (n - i : Nat)) (w.drew.setRow b (spl cb (off + (i + m) * 2) cb (off + i * 2) ((n - i) * 2))) := fun ty dc sc =>
    run_copyRaw (K := 2) Tryz.underlying32 zE w.drew (k := n - i) hwb hwb (by simp only [Nat.min_def]; split <;> omega) (by omega) (by omega) (fun q hq => by rw [Nat.add_assoc]; exact ho1 _ (by omega)) ty
  have hW1 : (w.drew.setRow b (spl cb (off + (i + m) * 2) cb (off + i * 2) ((n - i) * 2))).heap[b]? = some (.cells (spl cb (off + (i + m) * 2) cb (off + i * 2) ((n - i) * 2)) Tb (0, 0)) := setRow_heap w.drew b cb _ Tb (0, 0) hwb
  have hW2 : (w.drew.setRow b (spl cb (off + (i + m) * 2) cb (off + i * 2) ((n - i) * 2))).heap[vb]? = some (.cells cv Tv (0, 0)) := by rw [setRow_other w.drew b vb _ hne]; exact hwv
  generalize hc1 : spl cb (off + (i + m) * 2) cb (off + i * 2) ((n - i) * 2) = c1 at *
  have hc1s : c1.size = cb.size := by rw [← hc1]; exact spl_size (by omega) (by omega)
  have hcp2 : ∀ ty dc, (Builtin.copy_ #[32, 32] ty #[.slice (some ⟨b, off + i * 2, none⟩) (n + m - i) dc, .slice (some ⟨vb, voff, none⟩) m vc]).run Tryz.prog (w.drew.setRow b c1) = .ok (goInt m) ((w.drew.setRow b c1).setRow b (spl c1 (off + i * 2) cv voff (m * 2))) := fun ty dc =>
    run_copyRaw (K := 2) Tryz.underlying32 zE (w.drew.setRow b c1) (k := m) hW1 hW2 (by simp only [Nat.min_def]; split <;> omega) (by omega) (by omega) ho2 ty
  clear hc1 hN1 hN2 hN3 hN4 hN5 hN6 hN7 ho1 ho2 hW1 hW2
  go_enter Tryz.func131, Tryz.ntmps131
  go_wp2_with (simp only [hov])
  go_region_law (refine step_cpI rfl _ _ 32 32 rfl _ _ (by simp [Act.eval, Act.put]) (by simp [Act.eval, Act.put]) (hcp1 _ _ _) ?_)
  go_wp2_with (at_builtin; refine wpList_cpI _ rfl _ _ 32 32 rfl _ _ rfl rfl (hcp2 _ _) ?_)
  go_ret
  exact ⟨rfl, rfl⟩
set_option maxHeartbeats 4000000 in
theorem inG131 (w : World) (b off n c i vb voff m vc : Nat) (cb cv : Array Value) (Tb Tv : TypeId) (hwb : w.heap[b]? = some (.cells cb Tb (0, 0))) (hwv : w.heap[vb]? = some (.cells cv Tv (0, 0))) (hi : i < n) (hnc : n ≤ c) (hm : 0 < m) (hmv : m ≤ vc) (hcb : off + c * 2 ≤ cb.size) (hcv : voff + vc * 2 ≤ cv.size)
    (ho1 : ∀ q, q < n * 2 → (cb.getD (off + q) undef).oneCell' = true) (ho2 : ∀ q, q < m * 2 → (cv.getD (voff + q) undef).oneCell' = true) (hroom : c < n + m) (hnm : n + m ≤ 1099511627776) :
    ∃ (G : Nat) (row : Array Value), n + m ≤ G ∧ row.size = G * 2 ∧ (∀ q, q < i * 2 → row.getD q undef = cb.getD (off + q) undef) ∧
    Calls Tryz.prog 131 #[.slice (some ⟨b, off, none⟩) n c, .int .i64 i, .slice (some ⟨vb, voff, none⟩) m vc] w fun e w' => e = .returned (.slice (some ⟨w.heap.size, 0, none⟩) (n + m) G) ∧
      w'.heap = (((w.alloc (.cells row 77)).setRow w.heap.size (spl row (i * 2) cv voff (m * 2))).setRow w.heap.size (spl (spl row (i * 2) cv voff (m * 2)) ((i + m) * 2) cb (off + i * 2) ((n - i) * 2))).heap ∧ w'.os = w.os ∧ w'.tape = w.tape ∧ w'.output = w.output ∧ w.drawn ≤ w'.drawn := by
  have u0 := run_underlying Tryz.underlying0; have u3 := run_underlying Tryz.underlying3; have u4 := run_underlying Tryz.underlying4; have uS := run_underlying Tryz.underlying32
  have zE := Tryz.sizeOf77
  obtain ⟨_, inf, z, hinf, hsz, hby, hz0, hzc, _, hzl, _⟩ := teok77
  have hzs : z.cells.size = 2 := by rw [← Array.length_toList, hzc]; exact hzl
  have hby2 : inf.bytes ≤ 128 := by rw [hby]; decide
  have hsz2 : inf.size = 2 := hsz
  have hkk : (n : Int) + (m : Int) - (i : Int) = ((n + m - i : Nat) : Int) := by omega
  have hik : i + (n + m - i) = n + m := by omega
  have hN3 : (n + m - i) * 2 = (n + m) * 2 - i * 2 := Nat.sub_mul _ _ _
  have hN4 : n * 2 ≤ c * 2 := Nat.mul_le_mul_right _ hnc
  have hN2 : i * 2 + (n - i) * 2 = n * 2 := by rw [← Nat.add_mul]; congr 1; omega
  have hN1 : (i + m) * 2 + (n - i) * 2 = (n + m) * 2 := by rw [← Nat.add_mul]; congr 1; omega
  have hN5 : i * 2 + m * 2 = (i + m) * 2 := (Nat.add_mul _ _ _).symm
  have hN7 : m * 2 ≤ vc * 2 := Nat.mul_le_mul_right _ hmv
  have hN8 : (n + m) * inf.bytes ≤ 1099511627776 * 128 := Nat.mul_le_mul hnm hby2
  have hN9 : (n + m - i) * inf.bytes ≤ (n + m) * inf.bytes := Nat.mul_le_mul_right _ (by omega)
  have hol : ((cb.toList.drop off).take (i * 2)).length = i * inf.size := by rw [hsz2]; simp; omega
  have hold : (Builtin.firstCells inf.size i (.slice (some ⟨b, off, none⟩) i c)).run Tryz.prog w.drew = .ok ((cb.toList.drop off).take (i * 2)).toArray w.drew :=
    run_firstCells_some w.drew inf.size i ⟨b, off, none⟩ i c _ hol (cells_at (w := w.drew) hwb (by omega))
  obtain ⟨G, hG⟩ : ∃ G, G = grownCap w (n + m) c 77 := ⟨_, rfl⟩
  have hGn : n + m ≤ G := by rw [hG]; exact grownCap_ge w _ _ _
  obtain ⟨row, hrow⟩ : ∃ row : Array Value, row = ((cb.toList.drop off).take (i * 2)).toArray ++ Builtin.zeroCells z.cells (n + m - i) ++ Builtin.zeroCells z.cells (G - (n + m)) := ⟨_, rfl⟩
  have hrz : ∀ ty, (Builtin.append_ #[32, 3] ty #[.slice (some ⟨b, off, none⟩) i c, .int .i64 ((n : Int) + (m : Int) - (i : Int))]).run Tryz.prog w = .ok (.slice (some ⟨w.heap.size, 0, none⟩) (n + m) G) (w.drew.alloc (.cells row 77)) := fun ty => by
    have h := Lib.run_append_grow_zeros w 32 3 ty 77 inf z .i64 .i64 Tryz.underlying32 Tryz.underlying3 hinf hz0 (some ⟨b, off, none⟩) i c _ hold (n + m - i) (by omega) (by rw [hsz2]; decide) (by omega) (by omega) (by omega) (by rw [hik]; exact growslice_fits hroom (by omega))
    rw [hik] at h
    rw [hkk, hrow, hG]
    exact h
  have hrs : row.size = G * 2 := by
    have : (G - (n + m)) * 2 = G * 2 - (n + m) * 2 := Nat.sub_mul _ _ _
    have : (n + m) * 2 ≤ G * 2 := Nat.mul_le_mul_right _ hGn
    have hl2 : ((cb.toList.drop off).take (i * 2)).length = i * 2 := by rw [hol, hsz2]
    rw [hrow]; simp only [Array.size_append, size_zeroCells, hzs, List.size_toArray]; omega
  refine ⟨G, row, hGn, hrs, fun q hq => ?_, ?_⟩
  · have h1 : q < ((cb.toList.drop off).take (i * 2)).toArray.size := by simp only [List.size_toArray]; rw [hol, hsz2]; exact hq
    rw [hrow, Array.getD_eq_getD_getElem?, Array.append_assoc, Array.getElem?_append_left h1, List.getElem?_toArray, List.getElem?_take, if_pos hq, List.getElem?_drop, Array.getD_eq_getD_getElem?]; simp
  have hw1 : IntKind.i64.wrap ((i : Int) + (m : Int)) = (i : Int) + (m : Int) := IntWalk.i64_in _ (by omega)
  have hw2 : IntKind.i64.wrap ((n : Int) + (m : Int)) = (n : Int) + (m : Int) := IntWalk.i64_in _ (by omega)
  have hw3 : IntKind.i64.wrap ((n : Int) + (m : Int) - (i : Int)) = (n : Int) + (m : Int) - (i : Int) := IntWalk.i64_in _ (by omega)
  have hGK : (n + m) * 2 ≤ G * 2 := Nat.mul_le_mul_right _ hGn
  have hbw : b < w.heap.size := heap_lt hwb
  have hvw : vb < w.heap.size := heap_lt hwv
  have hA0 : (w.alloc (.cells row 77)).heap[w.heap.size]? = some (.cells row 77 (0, 0)) := heap_alloc_new w _
  have hAb : (w.alloc (.cells row 77)).heap[b]? = some (.cells cb Tb (0, 0)) := (RowKit.Below.heap_alloc w _ b hbw).trans hwb
  have hAv : (w.alloc (.cells row 77)).heap[vb]? = some (.cells cv Tv (0, 0)) := (RowKit.Below.heap_alloc w _ vb hvw).trans hwv
  have hcpA : ∀ (W : World), W.heap = (w.alloc (.cells row 77)).heap → ∀ ty dc, (Builtin.copy_ #[32, 32] ty #[.slice (some ⟨w.heap.size, i * 2, none⟩) (n + m - i) dc, .slice (some ⟨vb, voff, none⟩) m vc]).run Tryz.prog W = .ok (goInt m) (W.setRow w.heap.size (spl row (i * 2) cv voff (m * 2))) := fun W hW ty dc => by
    exact run_copyRaw (K := 2) Tryz.underlying32 zE W (k := m) (by rw [hW]; exact hA0) (by rw [hW]; exact hAv) (by simp only [Nat.min_def]; split <;> omega) (by omega) (by omega) ho2 ty
  have hr1 : (spl row (i * 2) cv voff (m * 2)).size = row.size := spl_size (by omega) (by omega)
  have hcpB : ∀ (W : World), W.heap = ((w.alloc (.cells row 77)).setRow w.heap.size (spl row (i * 2) cv voff (m * 2))).heap → ∀ ty dc sc, (Builtin.copy_ #[32, 32] ty #[.slice (some ⟨w.heap.size, (i + m) * 2, none⟩) (n + m - (i + m)) dc, .slice (some ⟨b, off + i * 2, none⟩) (n - i) sc]).run Tryz.prog W = .ok (goInt (n - i : Nat)) (W.setRow w.heap.size (spl (spl row (i * 2) cv voff (m * 2)) ((i + m) * 2) cb (off + i * 2) ((n - i) * 2))) := fun W hW ty dc sc => by
    exact run_copyRaw (K := 2) Tryz.underlying32 zE W (k := n - i) (by rw [hW]; exact setRow_heap _ _ _ _ _ _ hA0) (by rw [hW, setRow_other _ _ _ _ (by omega : b ≠ w.heap.size)]; exact hAb) (by simp only [Nat.min_def]; split <;> omega) (by omega) (by omega) (fun q hq => by rw [Nat.add_assoc]; exact ho1 _ (by omega)) ty
  have hz1 : ¬ ((m : Int) = 0) := by omega
  have hz2 : ¬ ((i : Int) = (n : Int)) := by omega
  have hz3 : (c : Int) < (n : Int) + (m : Int) := by omega
  have hGi : ¬ (G = i) := by omega
  have hGim : ¬ (G = i + m) := by omega
  have hci : ¬ (c = i) := by omega
  have hb1 : (0 : Int) ≤ (i : Int) + (m : Int) := by omega
  have hin : i ≤ n := by omega
  have htn : ((i : Int) + (m : Int)).toNat = i + m := by omega
  have hb3 : (i : Int) ≤ (n : Int) := by omega
  have hic : i ≤ c := by omega
  have hb5 : (i : Int) ≤ (n : Int) + (m : Int) := by omega
  clear hold hol hrow hG hN1 hN2 hN3 hN4 hN5 hN7 hN8 hN9 ho1 ho2 hkk hik hr1 hGK
  go_enter Tryz.func131, Tryz.ntmps131
  go_wp2_with (first
    | (at_builtin; refine Lib.wpList_append_run _ rfl _ _ _ _ rfl _ _ rfl rfl _ _ (hrz _) ?_))
  rw [hcpA (w.alloc (.cells row 77)).drew rfl 3 (G - i)]
  go_wp2
  go_region_law (refine step_cpI rfl _ _ 32 32 rfl (.slice (some ⟨w.heap.size, (i + m) * 2, none⟩) (n + m - (i + m)) (G - (i + m))) (.slice (some ⟨b, off + i * 2, none⟩) (n - i) (c - i)) (by simp [Act.eval, Act.put]) (by simp [Act.eval, Act.put]) (hcpB ((w.alloc (.cells row 77)).drew.setRow w.heap.size (spl row (i * 2) cv voff (m * 2))).drew rfl 3 (G - (i + m)) (c - i)) ?_)
  go_wp2
  go_ret
  exact ⟨rfl, rfl, rfl, rfl, rfl, Nat.le_trans (Nat.le_succ _) (Nat.le_succ _)⟩
theorem ins131 : InsRaw Tryz.prog 131 2 := insRaw_of (E := 77) inR131 inG131
theorem T_slices_Insert_api_Stuck_api_Stuck__o0_o1 (i : Int) (xs : List ApiStuck) (ys : List ApiStuck) (post : List ApiStuck → Prop) (hm : V_slices_Insert_api_Stuck_api_Stuck__o0_o1 i xs ys post) :
    Tr Tryz.prog 131 [.o 0, .i i, .o 1] [(0, .val (.os 2 eApiStuck xs)), (1, .val (.os 2 eApiStuck ys))] 2 (fun A H' k => ∃ y, post y ∧ A = (.o 2) ∧ H' = [(2, .val (.os 2 eApiStuck y))] ∧ k = 3) := by
 unfold V_slices_Insert_api_Stuck_api_Stuck__o0_o1 at hm
 obtain ⟨⟨h0, h1⟩, h2, h3, hp⟩ := hm
 obtain ⟨n, rfl⟩ := Int.eq_ofNat_of_zero_le h0
 exact Tr.insert ins131 (enc := eApiStuck) (fun _ => rfl) xs ys n (by omega) h2 h3 hp
theorem T_arena_stick__o0 (c : Int) (n : Int) (l : List ApiStuck) (post : (List ApiStuck) → Prop) (hm : V_arena_stick__o0 c n l post) :
    Tr Tryz.prog 53 [.o 0, .i c, .i n] [(0, .val (.os 2 eApiStuck l))] 1 (fun A H' k => ∃ y, post y ∧ A = (.o 1) ∧ H' = [(1, .val (.os 2 eApiStuck y))] ∧ k = 2) := by
 refine Tr.intro (n := 47) Tryz.func53 rfl Tryz.ntmps53 rfl (fun w0 ok F β hβ => ?_)
 unfold V_arena_stick__o0 at hm
 refine C.seq (U.start ?_)
 refine U.bx ?_
 refine U.pd 1 T (C.nx (C.seq (U.start ?_)))
 refine U.ps 2 T rfl ?_
 refine U.k (T_slices_IndexFunc_api_Stuck_api_Stuck__arena_stick_1 l c _ hm) en129 (fun x5 hm => ?_)
 refine U.pd 1 T (C.nx (C.seq (C.block (C.seq (U.start ?_)))))
 refine U.pd 3 T (C.nx ?_)
 refine C.ite rfl hm (fun hb8 hm => ?_) (fun hb8 hm => ?_)
 refine C.seq (U.start ?_)
 refine U.ps 4 T rfl ?_
 refine U.e1 rfl (.none rfl) (by exact Eff1.bs T (enc := eApiStuck) (xs := ([({ Cell := c, Left := n : ApiStuck })] : List ApiStuck)) rfl rfl rfl rfl rfl rfl rfl rfl rfl rfl (fun _ _ => rfl) rfl rfl) ?_
 obtain ⟨hx11, hm⟩ := hm
 refine U.e1 rfl (.none rfl) (by exact Eff1.ap T rfl rfl rfl rfl rfl rfl (.inr ⟨_, rfl, rfl⟩) rfl rfl rfl (fun _ => rfl) rfl hx11) ?_
 refine U.pd 1 T (C.nx (C.ret (C.brt (C.rt ?_))))
 exact C.g1 [some 0, some 3] T hβ ⟨(l ++ ([({ Cell := c, Left := n : ApiStuck })] : List ApiStuck)), hm, rfl, rfl, rfl⟩
 refine C.seq ?_
 refine D.beg 9999 [0, 1] [] mix rfl rfl (by kernel_rfl) (by repeat (first | exact NoPanicQ.body | exact NoPanicQ.rnd | refine NoPanicQ.th ?_ | refine NoPanicQ.blk ?_ | refine NoPanicQ.ng ?_)) (fun hQ hS ws M' => ?_)
 refine D.ps 2 [(0, []), (1, [])] rfl hQ hS T rfl rfl (by kernel_rfl) ?_
 obtain ⟨x14, hx14, hm⟩ := hm
 refine D.q 2 [] hQ hS rfl (.none rfl) rfl rfl (by exact Rd.io T rfl rfl rfl rfl rfl rfl rfl hx14) rfl (by kernel_rfl) ?_
 refine D.ps 1 [(3, [])] rfl hQ hS T rfl rfl (by kernel_rfl) ?_
 refine D.q 4 [] hQ hS rfl (.none rfl) rfl rfl (by exact Rd.le T rfl rfl rfl (idx_some hx14).2.2 rfl rfl rfl) rfl (by kernel_rfl) ?_
 refine D.ps 3 [(5, []), (6, []), (7, [])] rfl hQ hS T rfl rfl (by kernel_rfl) ?_
 refine D.done (by kernel_rfl) ?_
 refine C.nx ?_
 refine C.ite rfl hm (fun hb15 hm => ?_) (fun hb15 hm => ?_)
 refine C.seq (U.start ?_)
 refine U.ps 4 T rfl ?_
 refine U.r rfl (.none rfl) rfl rfl (by exact Rd.io T rfl rfl rfl rfl rfl rfl rfl hx14) ?_
 refine U.ps 1 T rfl ?_
 refine U.r rfl (.none rfl) rfl rfl (by exact Rd.le T rfl rfl rfl (idx_some hx14).2.2 rfl rfl rfl) ?_
 refine U.ps 2 T rfl ?_
 refine U.r rfl (.none rfl) rfl rfl (by exact Rd.io T rfl rfl rfl rfl rfl rfl rfl hx14) ?_
 refine U.ps 1 T rfl ?_
 refine U.e1 rfl (.none rfl) (by exact Eff1.se T (z' := ({ Cell := x14.Cell, Left := imax x14.Left n : ApiStuck })) rfl rfl rfl (idx_some hx14).2.2 rfl rfl rfl rfl rfl rfl rfl rfl (fun _ => rfl) rfl) ?_
 refine U.done (C.nx (C.seq (U.start ?_)))
 refine U.pd 2 T (C.nx (C.ret (C.brt (C.rt ?_))))
 exact C.g1 [some 0, some 0] T hβ ⟨(l.set (Int.toNat x5) ({ Cell := x14.Cell, Left := imax x14.Left n : ApiStuck })), hm, rfl, rfl, rfl⟩
 refine C.skip (C.bnx (C.nx (C.seq (U.start ?_))))
 refine U.ps 5 T rfl ?_
 refine U.e1 rfl (.none rfl) (by exact Eff1.bs T (enc := eApiStuck) (xs := ([({ Cell := c, Left := n : ApiStuck })] : List ApiStuck)) rfl rfl rfl rfl rfl rfl rfl rfl rfl rfl (fun _ _ => rfl) rfl rfl) ?_
 refine U.c [some 0, some 2] (T_slices_Insert_api_Stuck_api_Stuck__o0_o1 x5 l ([({ Cell := c, Left := n : ApiStuck })] : List ApiStuck) _ hm) en131 (fun x22 hm => ?_)
 refine U.pd 1 T (C.nx (C.ret ?_))
 exact C.g1 [some 0, some 5] T hβ ⟨x22, hm, rfl, rfl, rfl⟩
theorem T_arena_Happen (s_1 : ApiSite) (st : ApiState) (f : ApiFault) (post : ApiState → Prop) (hm : V_arena_Happen s_1 st f post) :
    Tr Tryz.prog 15 [.agg (eApiSite s_1), .agg (eApiState st), .agg (eApiFault f)] [] 0 (fun A H' k => ∃ y, post y ∧ A = (.agg [.i y.Tick, .o 0, .o 1, .o 2, .o 3, .o 4]) ∧ H' = [(0, .val (.os 1 eI y.Shelves)), (1, .val (.os 6 eApiRobot y.Robots)), (2, .val (.os 1 eI y.People)), (3, .val (.os 1 eI y.Dead)), (4, .val (.os 2 eApiStuck y.Stuck))] ∧ k = 5) := by
 refine Tr.intro (n := 81) Tryz.func15 rfl Tryz.ntmps15 rfl (fun w0 ok F β hβ => ?_)
 unfold V_arena_Happen at hm
 refine C.seq (U.start ?_)
 refine U.bx ?_
 refine U.bx ?_
 refine U.bx ?_
 refine U.e1 rfl (.none rfl) (by exact Eff1.al T rfl rfl rfl rfl) ?_
 refine U.done (C.nx (C.seq (U.start ?_)))
 refine U.ps 1 T rfl ?_
 refine U.k (T_body_Clone st _ hm) en51 (fun x5 hm => ?_)
 refine U.e1 rfl (.none rfl) (by exact Eff1.al T rfl rfl rfl rfl) ?_
 refine U.e1 rfl (.none rfl) (by exact Eff1.st T rfl rfl rfl rfl rfl rfl rfl rfl rfl rfl) ?_
 refine U.done (C.nx (C.seq (C.seq (U.start ?_))))
 refine U.ps 3 T rfl ?_
 refine U.k (T_arena_Possible s_1 st f _ hm) en12 (fun x8 hm => ?_)
 refine U.pd 1 T (C.nx ?_)
 refine C.ite rfl hm (fun hb9 hm => ?_) (fun hb9 hm => ?_)
 refine C.seq (U.start ?_)
 refine U.ps 1 T rfl ?_
 refine U.e1 rfl (.none rfl) (by exact Eff1.st T rfl rfl rfl rfl rfl rfl rfl rfl rfl rfl) ?_
 refine U.done (C.nx (C.ret (C.rt ?_)))
 exact C.g1 (sqR 4 5) T hβ ⟨x5, hm, rfl, rfl, rfl⟩
 refine C.skip (C.nx (C.seq (C.seq (U.start ?_))))
 refine U.pd 2 T (C.nx (C.block (C.seq (U.start ?_))))
 refine U.pd 2 T (C.nx ?_)
 refine C.jn (fun (x16 : List ApiRobot × List Int × List Int × List ApiStuck) => [(6, .p 0 0), (7, .p 1 0)]) (fun (x16 : List ApiRobot × List Int × List Int × List ApiStuck) => [(0, .box [.i 0, .v (.slice none 0 0), .v (.slice none 0 0), .v (.slice none 0 0), .v (.slice none 0 0), .v (.slice none 0 0)]), (1, .box [.i x5.Tick, .o 2, .o 3, .o 4, .o 5, .o 6]), (2, .val (.os 1 eI x5.Shelves)), (3, .val (.os 6 eApiRobot x16.1)), (4, .val (.os 1 eI x16.2.1)), (5, .val (.os 1 eI x16.2.2.1)), (6, .val (.os 2 eApiStuck x16.2.2.2))]) 7 hm (fun x16 hm => ?_) (fun J17 hm hJ17 => ?_)
 refine C.bnx (C.nx (C.seq (U.start ?_)))
 refine U.ps 1 T rfl ?_
 refine U.e1 rfl (.none rfl) (by exact Eff1.st T rfl rfl rfl rfl rfl rfl rfl rfl rfl rfl) ?_
 refine U.done (C.nx (C.ret ?_))
 exact C.g1 (sqR 2 5) T hβ ⟨({ Tick := x5.Tick, Shelves := x5.Shelves, Robots := x16.1, People := x16.2.1, Dead := x16.2.2.1, Stuck := x16.2.2.2 : ApiState }), hm, rfl, rfl, rfl⟩
 refine C.ite rfl hm (fun hb18 hm => ?_) (fun hb18 hm => ?_)
 refine U.start ?_
 refine U.ps 4 T rfl ?_
 obtain ⟨x21, hx21, hm⟩ := hm
 refine U.r rfl (.none rfl) rfl rfl (by exact Rd.io T rfl rfl rfl rfl rfl rfl rfl hx21) ?_
 refine U.ps 1 T rfl ?_
 refine U.e1 rfl (.none rfl) (by exact Eff1.se T (z' := ({ Cell := x21.Cell, Load := x21.Load, Charge := x21.Charge, Rest := x21.Rest, Mute := x21.Mute, Dead := true : ApiRobot })) rfl rfl rfl (idx_some hx21).2.2 rfl rfl rfl rfl rfl rfl rfl rfl (fun _ => rfl) rfl) ?_
 refine U.done ?_
 exact St.wa [some 3, some 9, some 4, some 5, some 6, some 7, some 8] (hJ17 _ hm)
 refine C.seq (U.start ?_)
 refine U.pd 2 T (C.nx ?_)
 refine C.jn (fun (x24 : List ApiRobot × List Int × List Int × List ApiStuck) => [(6, .p 0 0), (7, .p 1 0)]) (fun (x24 : List ApiRobot × List Int × List Int × List ApiStuck) => [(0, .box [.i 0, .v (.slice none 0 0), .v (.slice none 0 0), .v (.slice none 0 0), .v (.slice none 0 0), .v (.slice none 0 0)]), (1, .box [.i x5.Tick, .o 2, .o 3, .o 4, .o 5, .o 6]), (2, .val (.os 1 eI x5.Shelves)), (3, .val (.os 6 eApiRobot x24.1)), (4, .val (.os 1 eI x24.2.1)), (5, .val (.os 1 eI x24.2.2.1)), (6, .val (.os 2 eApiStuck x24.2.2.2))]) 7 hm (fun x24 hm => ?_) (fun J25 hm hJ25 => ?_)
 exact St.wa (idR 7) (hJ17 _ hm)
 refine C.ite rfl hm (fun hb26 hm => ?_) (fun hb26 hm => ?_)
 refine C.seq (U.start ?_)
 refine U.ps 4 T rfl ?_
 refine U.e1 rfl (.none rfl) (by exact Eff1.bs T (enc := eI) (xs := ([f.A] : List Int)) rfl rfl rfl rfl rfl rfl rfl rfl rfl rfl (fun _ _ => rfl) rfl rfl) ?_
 obtain ⟨hx29, hm⟩ := hm
 refine U.e1 rfl (.none rfl) (by exact Eff1.ap T rfl rfl rfl rfl rfl rfl (.inr ⟨_, rfl, rfl⟩) rfl rfl rfl (fun _ => rfl) rfl hx29) ?_
 refine U.ps 1 T rfl ?_
 refine U.e1 rfl (.none rfl) (by exact Eff1.st T rfl rfl rfl rfl rfl rfl rfl rfl rfl rfl) ?_
 refine U.done (C.nx (U.start ?_))
 refine U.ps 2 T rfl ?_
 refine U.c [some 11] (T_slices_Sort_int_int__o0 (x5.Dead ++ ([f.A] : List Int)) _ hm) en52 (fun x32 hm => ?_)
 refine U.done ?_
 exact St.wa [some 3, some 9, some 4, some 5, some 6, some 11, some 8] (hJ25 _ hm)
 refine C.seq (U.start ?_)
 refine U.pd 2 T (C.nx ?_)
 refine C.jn (fun (x35 : List ApiRobot × List Int × List ApiStuck) => [(6, .p 0 0), (7, .p 1 0)]) (fun (x35 : List ApiRobot × List Int × List ApiStuck) => [(0, .box [.i 0, .v (.slice none 0 0), .v (.slice none 0 0), .v (.slice none 0 0), .v (.slice none 0 0), .v (.slice none 0 0)]), (1, .box [.i x5.Tick, .o 2, .o 3, .o 4, .o 5, .o 6]), (2, .val (.os 1 eI x5.Shelves)), (3, .val (.os 6 eApiRobot x35.1)), (4, .val (.os 1 eI x35.2.1)), (5, .val (.os 1 eI x5.Dead)), (6, .val (.os 2 eApiStuck x35.2.2))]) 7 hm (fun x35 hm => ?_) (fun J36 hm hJ36 => ?_)
 exact St.wa (idR 7) (hJ25 _ hm)
 refine C.ite rfl hm (fun hb37 hm => ?_) (fun hb37 hm => ?_)
 refine U.start ?_
 refine U.ps 6 T rfl ?_
 obtain ⟨x40, hx40, hm⟩ := hm
 refine U.r rfl (.none rfl) rfl rfl (by exact Rd.io T rfl rfl rfl rfl rfl rfl rfl hx40) ?_
 refine U.ps 1 T rfl ?_
 refine U.e1 rfl (.none rfl) (by exact Eff1.se T (z' := ({ Cell := x40.Cell, Load := x40.Load, Charge := x40.Charge, Rest := x40.Rest, Mute := f.N, Dead := x40.Dead : ApiRobot })) rfl rfl rfl (idx_some hx40).2.2 rfl rfl rfl rfl rfl rfl rfl rfl (fun _ => rfl) rfl) ?_
 refine U.done ?_
 exact St.wa [some 3, some 9, some 4, some 5, some 6, some 7, some 8] (hJ36 _ hm)
 refine C.seq (U.start ?_)
 refine U.pd 2 T (C.nx ?_)
 refine C.jn (fun (x43 : List Int × List ApiStuck) => [(6, .p 0 0), (7, .p 1 0)]) (fun (x43 : List Int × List ApiStuck) => [(0, .box [.i 0, .v (.slice none 0 0), .v (.slice none 0 0), .v (.slice none 0 0), .v (.slice none 0 0), .v (.slice none 0 0)]), (1, .box [.i x5.Tick, .o 2, .o 3, .o 4, .o 5, .o 6]), (2, .val (.os 1 eI x5.Shelves)), (3, .val (.os 6 eApiRobot x5.Robots)), (4, .val (.os 1 eI x43.1)), (5, .val (.os 1 eI x5.Dead)), (6, .val (.os 2 eApiStuck x43.2))]) 7 hm (fun x43 hm => ?_) (fun J44 hm hJ44 => ?_)
 exact St.wa (idR 7) (hJ36 _ hm)
 refine C.ite rfl hm (fun hb45 hm => ?_) (fun hb45 hm => ?_)
 refine U.start ?_
 refine U.ps 6 T rfl ?_
 refine U.c [some 8] (T_arena_stick__o0 f.A f.N x5.Stuck _ hm) en53 (fun x48 hm => ?_)
 refine U.ps 1 T rfl ?_
 refine U.e1 rfl (.none rfl) (by exact Eff1.st T rfl rfl rfl rfl rfl rfl rfl rfl rfl rfl) ?_
 refine U.done ?_
 exact St.wa [some 3, some 9, some 4, some 5, some 6, some 7, some 11] (hJ44 _ hm)
 refine C.seq (U.start ?_)
 refine U.pd 2 T (C.nx ?_)
 refine C.jn (fun (x51 : List Int) => [(6, .p 0 0), (7, .p 1 0)]) (fun (x51 : List Int) => [(0, .box [.i 0, .v (.slice none 0 0), .v (.slice none 0 0), .v (.slice none 0 0), .v (.slice none 0 0), .v (.slice none 0 0)]), (1, .box [.i x5.Tick, .o 2, .o 3, .o 4, .o 5, .o 6]), (2, .val (.os 1 eI x5.Shelves)), (3, .val (.os 6 eApiRobot x5.Robots)), (4, .val (.os 1 eI x51)), (5, .val (.os 1 eI x5.Dead)), (6, .val (.os 2 eApiStuck x5.Stuck))]) 7 hm (fun x51 hm => ?_) (fun J52 hm hJ52 => ?_)
 exact St.wa (idR 7) (hJ44 _ hm)
 refine C.ite rfl hm (fun hb53 hm => ?_) (fun hb53 hm => ?_)
 refine C.seq (C.seq (U.start ?_))
 refine U.pd 6 T (C.nx ?_)
 refine C.jn (fun (x56 : List Int) => [(5, .p 0 0), (6, .p 1 0), (7, .p 2 0)]) (fun (x56 : List Int) => [(0, .box (eApiFault f)), (1, .box [.i 0, .v (.slice none 0 0), .v (.slice none 0 0), .v (.slice none 0 0), .v (.slice none 0 0), .v (.slice none 0 0)]), (2, .box [.i x5.Tick, .o 3, .o 4, .o 5, .o 6, .o 7]), (3, .val (.os 1 eI x5.Shelves)), (4, .val (.os 6 eApiRobot x5.Robots)), (5, .val (.os 1 eI x56)), (6, .val (.os 1 eI x5.Dead)), (7, .val (.os 2 eApiStuck x5.Stuck))]) 8 hm (fun x56 hm => ?_) (fun J57 hm hJ57 => ?_)
 refine C.nx (U.start ?_)
 refine U.ps 6 T rfl ?_
 obtain ⟨x64, hx64, hm⟩ := hm
 refine U.r rfl (.none rfl) rfl rfl (by exact Rd.io T rfl rfl rfl rfl rfl rfl rfl hx64) ?_
 refine U.e1 rfl (.none rfl) (by exact Eff1.se T (z' := f.N) rfl rfl rfl (idx_some hx64).2.2 rfl rfl rfl rfl rfl rfl rfl rfl (fun _ => rfl) rfl) ?_
 refine U.done ?_
 exact St.wa (sqR 1 7) (hJ52 _ hm)
 refine C.ite rfl hm (fun hb58 hm => ?_) (fun hb58 hm => ?_)
 refine U.start ?_
 refine U.ps 4 T rfl ?_
 refine U.e1 rfl (.none rfl) (by exact Eff1.bs T (enc := eI) (xs := ([f.N] : List Int)) rfl rfl rfl rfl rfl rfl rfl rfl rfl rfl (fun _ _ => rfl) rfl rfl) ?_
 obtain ⟨hx61, hm⟩ := hm
 refine U.e1 rfl (.none rfl) (by exact Eff1.ap T rfl rfl rfl rfl rfl rfl (.inr ⟨_, rfl, rfl⟩) rfl rfl rfl (fun _ => rfl) rfl hx61) ?_
 refine U.ps 1 T rfl ?_
 refine U.e1 rfl (.none rfl) (by exact Eff1.st T rfl rfl rfl rfl rfl rfl rfl rfl rfl rfl) ?_
 refine U.done ?_
 exact St.wa [some 2, some 3, some 9, some 4, some 5, some 11, some 7, some 8] (hJ57 _ hm)
 refine C.skip ?_
 exact St.wa [some 2, some 3, some 9, some 4, some 5, some 6, some 7, some 8] (hJ57 _ hm)
 refine C.skip ?_
 exact St.wa [some 3, some 9, some 4, some 5, some 6, some 7, some 8] (hJ52 _ hm)
theorem T_arena_ends_1 (x_1 : ApiStuck) (post : Bool → Prop) (hm : V_arena_ends_1 x_1 post) :
    Tr Tryz.prog 134 [.agg [.i x_1.Cell, .i x_1.Left]] [] 0 (fun A H' k => ∃ y, post y ∧ A = (.b y) ∧ H' = [] ∧ k = 0) := by
 refine Tr.intro (n := 6) Tryz.func134 rfl Tryz.ntmps134 rfl (fun w0 ok F β hβ => ?_)
 unfold V_arena_ends_1 at hm
 refine C.seq (U.start ?_)
 refine U.bx ?_
 refine U.pd 1 T (C.nx (C.seq (U.start ?_)))
 refine U.pd 4 T (C.nx (C.ret ?_))
 exact C.f1 T hβ ⟨decide (x_1.Left ≤ 0), hm, rfl, rfl, rfl⟩
theorem T_slices_IndexFunc_api_Stuck_api_Stuck__arena_ends_1 (s_1 : List ApiStuck) (post : Int → Prop) (hm : V_slices_IndexFunc_api_Stuck_api_Stuck__arena_ends_1 s_1 post) :
    Tr Tryz.prog 129 [.sl 2 eApiStuck s_1, .fn (.func 134) [] []] [] 0 (fun A H' k => ∃ y, post y ∧ A = (.i y) ∧ H' = [] ∧ k = 0) := by
 refine Tr.intro (n := 19) Tryz.func129 rfl Tryz.ntmps129 rfl (fun w0 ok F β hβ => ?_)
 unfold V_slices_IndexFunc_api_Stuck_api_Stuck__arena_ends_1 at hm
 refine C.seq (U.start ?_)
 refine U.pd 1 T (C.nx (C.seq (C.seq (U.start ?_))))
 refine U.pd 3 T (C.nx ?_)
 refine C.jn (fun (x5 : Unit) => []) (fun (x5 : Unit) => []) 0 hm (fun x5 hm => ?_) (fun J6 hm hJ6 => ?_)
 refine C.nx (C.seq (U.start ?_))
 refine U.pd 1 T (C.nx (C.ret ?_))
 exact C.f1 T hβ ⟨(-1), hm, rfl, rfl, rfl⟩
 refine C.block ?_
 refine St.wk (C.loop (fun (s7 : Int) => [(0, .sl 2 eApiStuck s_1), (1, .fn (.func 134) [] []), (7, .i (s_1.length : Int)), (8, .i s7)]) (fun (s7 : Int) => []) hm (fun s7 Y8 hm => ?_)) (Wk.e)
 refine C.seq (U.start ?_)
 refine U.pd 1 T (C.nx (C.seq ?_))
 refine C.ite rfl hm (fun hb11 hm => ?_) (fun hb11 hm => ?_)
 refine C.skip (C.nx (C.seq (C.block (C.seq (U.start ?_)))))
 refine U.pd 2 T (C.nx (C.seq (U.start ?_)))
 refine U.ps 3 T rfl ?_
 obtain ⟨x16, hx16, hm⟩ := hm
 refine U.r rfl (.none rfl) rfl rfl (by exact Rd.ix T rfl rfl rfl rfl rfl rfl hx16) ?_
 refine U.ps 1 T rfl ?_
 refine U.k (T_arena_ends_1 x16 _ hm) en134 (fun x17 hm => ?_)
 refine U.done (C.nx ?_)
 refine C.ite rfl hm (fun hb18 hm => ?_) (fun hb18 hm => ?_)
 refine C.seq (U.start ?_)
 refine U.pd 2 T (C.nx (C.ret (C.brt (C.rt (C.rt (C.brt (C.rt ?_)))))))
 exact C.f1 T hβ ⟨s7, hm, rfl, rfl, rfl⟩
 refine C.skip (C.bnx (C.nx (U.start ?_)))
 refine U.pd 2 T (C.nx ?_)
 exact St.wk (C.next hm) (Wk.e)
 refine C.exit (C.ex (C.ex (C.bex ?_)))
 exact St.wk (hJ6 _ hm) (Wk.mk' [] rfl rfl trivial trivial rfl)
theorem T_slices_DeleteFunc_api_Stuck_api_Stuck__o0_arena_ends_1 (s_1 : List ApiStuck) (post : (List ApiStuck) → Prop) (hm : V_slices_DeleteFunc_api_Stuck_api_Stuck__o0_arena_ends_1 s_1 post) :
    Tr Tryz.prog 133 [.o 0, .fn (.func 134) [] []] [(0, .val (.os 2 eApiStuck s_1))] 1 (fun A H' k => ∃ y, post y ∧ A = (.o 1) ∧ H' = [(1, .val (.os 2 eApiStuck y))] ∧ k = 2) := by
 refine Tr.intro (n := 42) Tryz.func133 rfl Tryz.ntmps133 rfl (fun w0 ok F β hβ => ?_)
 unfold V_slices_DeleteFunc_api_Stuck_api_Stuck__o0_arena_ends_1 at hm
 refine C.seq (U.start ?_)
 refine U.pd 1 T (C.nx (C.seq (U.start ?_)))
 refine U.ps 2 T rfl ?_
 refine U.k (T_slices_IndexFunc_api_Stuck_api_Stuck__arena_ends_1 s_1 _ hm) en129 (fun x5 hm => ?_)
 refine U.pd 1 T (C.nx (C.seq (C.seq (U.start ?_))))
 refine U.pd 2 T (C.nx ?_)
 refine C.ite rfl hm (fun hb8 hm => ?_) (fun hb8 hm => ?_)
 refine C.seq (U.start ?_)
 refine U.pd 2 T (C.nx (C.ret (C.rt ?_)))
 exact C.g1 [some 0, some 0] T hβ ⟨s_1, hm, rfl, rfl, rfl⟩
 refine C.skip (C.nx (C.seq (C.seq (U.start ?_))))
 refine U.pd 3 T (C.nx ?_)
 refine C.jn (fun (x13 : List ApiStuck × Int) => [(0, .o 0), (5, .i x13.2)]) (fun (x13 : List ApiStuck × Int) => [(0, .val (.os 2 eApiStuck x13.1))]) 1 hm (fun x13 hm => ?_) (fun J14 hm hJ14 => ?_)
 refine C.nx (C.seq (U.start ?_))
 refine U.ps 2 T rfl ?_
 obtain ⟨hx38, hm⟩ := hm
 refine U.r rfl (.none rfl) rfl rfl (by exact Rd.vw T rfl rfl rfl rfl rfl rfl (.some _ rfl) (.none _) hx38) ?_
 obtain ⟨hx39, hm⟩ := hm
 refine U.e1 rfl (.none rfl) (by exact Eff1.clv T (z0 := ({ Cell := 0, Left := 0 : ApiStuck })) rfl rfl rfl rfl rfl rfl rfl (fun _ => rfl) rfl hx39) ?_
 refine U.done (C.nx (C.seq (U.start ?_)))
 refine U.ps 2 T rfl ?_
 obtain ⟨hx42, hm⟩ := hm
 refine U.e1 rfl (.none rfl) (by exact Eff1.sw T rfl rfl rfl rfl rfl rfl rfl rfl (.none _) (.some _ rfl) hx42) ?_
 refine U.pd 1 T (C.nx (C.ret ?_))
 exact C.g1 (idR 2) T hβ ⟨(sub (x13.1.take (Int.toNat x13.2) ++ (List.replicate (Int.toNat ((x13.1.length : Int) - x13.2)) ({ Cell := 0, Left := 0 : ApiStuck }) ++ x13.1.drop ((Int.toNat x13.2) + (Int.toNat ((x13.1.length : Int) - x13.2))))) 0 x13.2), hm, rfl, rfl, rfl⟩
 refine C.block ?_
 refine St.wk (C.loop (fun (s15 : List ApiStuck × Int × Int) => [(0, .o 0), (1, .fn (.func 134) [] []), (5, .i s15.2.1), (6, .i s15.2.2)]) (fun (s15 : List ApiStuck × Int × Int) => [(0, .val (.os 2 eApiStuck s15.1))]) hm (fun s15 Y16 hm => ?_)) (Wk.a [some 0])
 refine C.seq (C.seq (U.start ?_))
 refine U.pd 4 T (C.nx ?_)
 refine C.ite rfl hm (fun hb19 hm => ?_) (fun hb19 hm => ?_)
 refine C.skip (C.nx (C.seq (C.block (C.seq (U.start ?_)))))
 refine U.ps 2 T rfl ?_
 obtain ⟨x22, hx22, hm⟩ := hm
 refine U.r rfl (.none rfl) rfl rfl (by exact Rd.io T rfl rfl rfl rfl rfl rfl rfl hx22) ?_
 refine U.r rfl (.none rfl) rfl rfl (by exact Rd.le T rfl rfl rfl (idx_some hx22).2.2 rfl rfl rfl) ?_
 refine U.e1 rfl (.none rfl) (by exact Eff1.al T rfl rfl rfl rfl) ?_
 refine U.e1 rfl (.none rfl) (by exact Eff1.st T rfl rfl rfl rfl rfl rfl rfl rfl rfl rfl) ?_
 refine U.done (C.nx (C.seq (U.start ?_)))
 refine U.ps 2 T rfl ?_
 refine U.k (T_arena_ends_1 x22 _ hm) en134 (fun x25 hm => ?_)
 refine U.pd 1 T (C.nx ?_)
 refine C.jn (fun (x26 : List ApiStuck × Int) => [(0, .o 0), (1, .fn (.func 134) [] []), (5, .i x26.2), (6, .i s15.2.2)]) (fun (x26 : List ApiStuck × Int) => [(0, .val (.os 2 eApiStuck x26.1))]) 1 hm (fun x26 hm => ?_) (fun J27 hm hJ27 => ?_)
 refine C.bnx (C.nx (U.start ?_))
 refine U.pd 3 T (C.nx ?_)
 exact St.wk (C.next hm) (Wk.a [some 0])
 refine C.ite rfl hm (fun hb28 hm => ?_) (fun hb28 hm => ?_)
 refine C.seq (U.start ?_)
 refine U.ps 3 T rfl ?_
 obtain ⟨x31, hx31, hm⟩ := hm
 refine U.r rfl (.none rfl) rfl rfl (by exact Rd.io T rfl rfl rfl rfl rfl rfl rfl hx31) ?_
 refine U.e1 rfl (.none rfl) (by exact Eff1.se T (z' := x22) rfl rfl rfl (idx_some hx31).2.2 rfl rfl rfl rfl rfl rfl rfl rfl (fun _ => rfl) rfl) ?_
 refine U.done (C.nx (U.start ?_))
 refine U.pd 3 T ?_
 exact St.wa [some 0] (hJ27 _ hm)
 refine C.skip ?_
 exact St.wa [some 0] (hJ27 _ hm)
 refine C.exit (C.ex (C.ex (C.bex ?_)))
 exact St.wa [some 0] (hJ14 _ hm)
theorem T_arena_ends__ag (before : ApiState) (st : ApiState) (post : ApiState → Prop) (hm : V_arena_ends__ag before st post) :
    Tr Tryz.prog 56 [.agg (eApiState before), .agg [.i st.Tick, .o 0, .o 1, .o 2, .o 3, .o 4]] [(0, .val (.os 1 eI st.Shelves)), (1, .val (.os 6 eApiRobot st.Robots)), (2, .val (.os 1 eI st.People)), (3, .val (.os 1 eI st.Dead)), (4, .val (.os 2 eApiStuck st.Stuck))] 5 (fun A H' k => ∃ y, post y ∧ A = (.agg [.i y.Tick, .o 5, .o 6, .o 7, .o 8, .o 9]) ∧ H' = [(5, .val (.os 1 eI y.Shelves)), (6, .val (.os 6 eApiRobot y.Robots)), (7, .val (.os 1 eI y.People)), (8, .val (.os 1 eI y.Dead)), (9, .val (.os 2 eApiStuck y.Stuck))] ∧ k = 10) := by
 refine Tr.intro (n := 73) Tryz.func56 rfl Tryz.ntmps56 rfl (fun w0 ok F β hβ => ?_)
 unfold V_arena_ends__ag at hm
 refine C.seq (U.start ?_)
 refine U.bx ?_
 refine U.bx ?_
 refine U.e1 rfl (.none rfl) (by exact Eff1.al T rfl rfl rfl rfl) ?_
 refine U.done (C.nx (C.scope (C.seq (U.start ?_))))
 refine U.ps 4 T rfl ?_
 refine U.e1 rfl (.none rfl) (by exact Eff1.st T rfl rfl rfl rfl rfl rfl rfl rfl rfl rfl) ?_
 refine U.done (C.nx (C.seq (C.label (C.nx (C.seq (C.seq (U.start ?_)))))))
 refine U.pd 4 T (C.nx ?_)
 refine C.jn (fun (x7 : List ApiRobot) => [(3, .p 5 0), (4, .p 6 0)]) (fun (x7 : List ApiRobot) => [(0, .val (.os 1 eI st.Shelves)), (1, .val (.os 6 eApiRobot x7)), (2, .val (.os 1 eI st.People)), (3, .val (.os 1 eI st.Dead)), (4, .val (.os 2 eApiStuck st.Stuck)), (5, .box [.i (w64 (st.Tick + 1)), .o 0, .o 1, .o 2, .o 3, .o 4]), (6, .box [.i 0, .v (.slice none 0 0), .v (.slice none 0 0), .v (.slice none 0 0), .v (.slice none 0 0), .v (.slice none 0 0)])]) 7 hm (fun x7 hm => ?_) (fun J8 hm hJ8 => ?_)
 refine C.nx (C.seq (C.seq (U.start ?_)))
 refine U.pd 4 T (C.nx ?_)
 refine C.jn (fun (x33 : List ApiStuck) => [(3, .p 5 0), (4, .p 6 0)]) (fun (x33 : List ApiStuck) => [(0, .val (.os 1 eI st.Shelves)), (1, .val (.os 6 eApiRobot x7)), (2, .val (.os 1 eI st.People)), (3, .val (.os 1 eI st.Dead)), (4, .val (.os 2 eApiStuck x33)), (5, .box [.i (w64 (st.Tick + 1)), .o 0, .o 1, .o 2, .o 3, .o 4]), (6, .box [.i 0, .v (.slice none 0 0), .v (.slice none 0 0), .v (.slice none 0 0), .v (.slice none 0 0), .v (.slice none 0 0)])]) 7 hm (fun x33 hm => ?_) (fun J34 hm hJ34 => ?_)
 refine C.nx (C.seq (U.start ?_))
 refine U.ps 2 T rfl ?_
 refine U.c [some 4] (T_slices_DeleteFunc_api_Stuck_api_Stuck__o0_arena_ends_1 x33 _ hm) en133 (fun x49 hm => ?_)
 refine U.ps 1 T rfl ?_
 refine U.e1 rfl (.none rfl) (by exact Eff1.st T rfl rfl rfl rfl rfl rfl rfl rfl rfl rfl) ?_
 refine U.done (C.nx (C.seq (U.start ?_)))
 refine U.ps 1 T rfl ?_
 refine U.e1 rfl (.none rfl) (by exact Eff1.st T rfl rfl rfl rfl rfl rfl rfl rfl rfl rfl) ?_
 refine U.done (C.nx (C.ret (C.srt ?_)))
 exact C.g1 [some 0, some 1, some 2, some 3, some 4, some 0, some 1, some 2, some 3, some 8] T hβ ⟨({ Tick := w64 (st.Tick + 1), Shelves := st.Shelves, Robots := x7, People := st.People, Dead := st.Dead, Stuck := x49 : ApiState }), hm, rfl, rfl, rfl⟩
 refine C.block ?_
 refine St.wk (C.loop (fun (s35 : List ApiStuck × Int) => [(3, .p 5 0), (4, .p 6 0), (54, .i (st.Stuck.length : Int)), (55, .i s35.2)]) (fun (s35 : List ApiStuck × Int) => [(0, .val (.os 1 eI st.Shelves)), (1, .val (.os 6 eApiRobot x7)), (2, .val (.os 1 eI st.People)), (3, .val (.os 1 eI st.Dead)), (4, .val (.os 2 eApiStuck s35.1)), (5, .box [.i (w64 (st.Tick + 1)), .o 0, .o 1, .o 2, .o 3, .o 4]), (6, .box [.i 0, .v (.slice none 0 0), .v (.slice none 0 0), .v (.slice none 0 0), .v (.slice none 0 0), .v (.slice none 0 0)])]) hm (fun s35 Y36 hm => ?_)) (Wk.a (idR 7))
 refine C.seq (U.start ?_)
 refine U.pd 1 T (C.nx (C.seq ?_))
 refine C.ite rfl hm (fun hb39 hm => ?_) (fun hb39 hm => ?_)
 refine C.skip (C.nx (C.seq (C.block (C.seq (U.start ?_)))))
 refine U.pd 2 T (C.nx (U.start ?_))
 refine U.ps 3 T rfl ?_
 obtain ⟨x44, hx44, hm⟩ := hm
 refine U.r rfl (.none rfl) rfl rfl (by exact Rd.io T rfl rfl rfl rfl rfl rfl rfl hx44) ?_
 refine U.ps 1 T rfl ?_
 refine U.r rfl (.none rfl) rfl rfl (by exact Rd.le T rfl rfl rfl (idx_some hx44).2.2 rfl rfl rfl) ?_
 refine U.ps 1 T rfl ?_
 refine U.r rfl (.none rfl) rfl rfl (by exact Rd.io T rfl rfl rfl rfl rfl rfl rfl hx44) ?_
 refine U.ps 1 T rfl ?_
 refine U.e1 rfl (.none rfl) (by exact Eff1.se T (z' := ({ Cell := x44.Cell, Left := w64 (x44.Left - 1) : ApiStuck })) rfl rfl rfl (idx_some hx44).2.2 rfl rfl rfl rfl rfl rfl rfl rfl (fun _ => rfl) rfl) ?_
 refine U.done (C.bnx (C.nx (U.start ?_)))
 refine U.pd 2 T (C.nx ?_)
 exact St.wk (C.next hm) (Wk.a (idR 7))
 refine C.exit (C.ex (C.ex (C.bex ?_)))
 exact St.wa (idR 7) (hJ34 _ hm)
 refine C.block ?_
 refine St.wk (C.loop (fun (s9 : List ApiRobot × Int) => [(2, .p 5 0), (3, .p 6 0), (4, .p 7 0), (14, .i (st.Robots.length : Int)), (15, .i s9.2)]) (fun (s9 : List ApiRobot × Int) => [(0, .val (.os 1 eI st.Shelves)), (1, .val (.os 6 eApiRobot s9.1)), (2, .val (.os 1 eI st.People)), (3, .val (.os 1 eI st.Dead)), (4, .val (.os 2 eApiStuck st.Stuck)), (5, .box (eApiState before)), (6, .box [.i (w64 (st.Tick + 1)), .o 0, .o 1, .o 2, .o 3, .o 4]), (7, .box [.i 0, .v (.slice none 0 0), .v (.slice none 0 0), .v (.slice none 0 0), .v (.slice none 0 0), .v (.slice none 0 0)])]) hm (fun s9 Y10 hm => ?_)) (Wk.a (idR 8))
 refine C.seq (U.start ?_)
 refine U.pd 1 T (C.nx (C.seq ?_))
 refine C.ite rfl hm (fun hb13 hm => ?_) (fun hb13 hm => ?_)
 refine C.skip (C.nx (C.seq ?_))
 refine C.jn (fun (x14 : List ApiRobot) => [(2, .p 5 0), (3, .p 6 0), (4, .p 7 0), (14, .i (st.Robots.length : Int)), (15, .i s9.2)]) (fun (x14 : List ApiRobot) => [(0, .val (.os 1 eI st.Shelves)), (1, .val (.os 6 eApiRobot x14)), (2, .val (.os 1 eI st.People)), (3, .val (.os 1 eI st.Dead)), (4, .val (.os 2 eApiStuck st.Stuck)), (5, .box (eApiState before)), (6, .box [.i (w64 (st.Tick + 1)), .o 0, .o 1, .o 2, .o 3, .o 4]), (7, .box [.i 0, .v (.slice none 0 0), .v (.slice none 0 0), .v (.slice none 0 0), .v (.slice none 0 0), .v (.slice none 0 0)])]) 8 hm (fun x14 hm => ?_) (fun J15 hm hJ15 => ?_)
 refine C.nx (U.start ?_)
 refine U.pd 2 T (C.nx ?_)
 exact St.wk (C.next hm) (Wk.a (idR 8))
 refine C.block (C.seq (U.start ?_))
 refine U.pd 2 T (C.nx (C.seq (U.start ?_)))
 refine U.ps 3 T rfl ?_
 obtain ⟨x20, hx20, hm⟩ := hm
 refine U.r rfl (.none rfl) rfl rfl (by exact Rd.io T rfl rfl rfl rfl rfl rfl rfl hx20) ?_
 refine U.pd 1 T (C.nx (C.seq (U.start ?_)))
 refine U.ps 4 T rfl ?_
 refine U.r rfl (.none rfl) rfl rfl (by exact Rd.le T rfl rfl rfl (idx_some hx20).2.2 rfl rfl rfl) ?_
 refine U.ps 4 T rfl ?_
 refine U.e1 rfl (.none rfl) (by exact Eff1.se T (z' := ({ Cell := x20.Cell, Load := x20.Load, Charge := x20.Charge, Rest := x20.Rest, Mute := imax (w64 (x20.Mute - 1)) 0, Dead := x20.Dead : ApiRobot })) rfl rfl rfl (idx_some hx20).2.2 rfl rfl rfl rfl rfl rfl rfl rfl (fun _ => rfl) rfl) ?_
 refine U.done (C.nx (C.seq (C.seq ?_)))
 refine D.beg 9999 [1, 5] [] mix rfl rfl (by kernel_rfl) (by repeat (first | exact NoPanicQ.body | exact NoPanicQ.rnd | refine NoPanicQ.th ?_ | refine NoPanicQ.blk ?_ | refine NoPanicQ.ng ?_)) (fun hQ hS ws M' => ?_)
 refine D.ps 3 [(0, []), (1, []), (2, [])] rfl hQ hS T rfl rfl (by kernel_rfl) ?_
 refine D.q 3 [] hQ hS rfl (.none rfl) rfl rfl (by exact Rd.le T rfl rfl rfl (set_get (idx_some hx20).2.2) rfl rfl rfl) rfl (by kernel_rfl) ?_
 refine D.ps 3 [(4, []), (5, []), (6, [])] rfl hQ hS T rfl rfl (by kernel_rfl) ?_
 obtain ⟨x25, hx25, hm⟩ := hm
 refine D.q 7 [] hQ hS rfl (.none rfl) rfl rfl (by exact Rd.ix T rfl rfl rfl rfl rfl rfl hx25) rfl (by kernel_rfl) ?_
 refine D.ps 3 [(8, []), (9, []), (10, [])] rfl hQ hS T rfl rfl (by kernel_rfl) ?_
 refine D.done (by kernel_rfl) ?_
 refine C.nx ?_
 refine C.ite rfl hm (fun hb26 hm => ?_) (fun hb26 hm => ?_)
 refine C.exit (C.ex (C.bex ?_))
 exact St.wa (idR 8) (hJ15 _ hm)
 refine C.skip (C.nx (U.start ?_))
 refine U.ps 4 T rfl ?_
 refine U.r rfl (.none rfl) rfl rfl (by exact Rd.le T rfl rfl rfl (set_get (idx_some hx20).2.2) rfl rfl rfl) ?_
 refine U.ps 4 T rfl ?_
 refine U.e1 rfl (.none rfl) (by exact Eff1.se T (z' := ({ Cell := ({ Cell := x20.Cell, Load := x20.Load, Charge := x20.Charge, Rest := x20.Rest, Mute := imax (w64 (x20.Mute - 1)) 0, Dead := x20.Dead : ApiRobot }).Cell, Load := ({ Cell := x20.Cell, Load := x20.Load, Charge := x20.Charge, Rest := x20.Rest, Mute := imax (w64 (x20.Mute - 1)) 0, Dead := x20.Dead : ApiRobot }).Load, Charge := ({ Cell := x20.Cell, Load := x20.Load, Charge := x20.Charge, Rest := x20.Rest, Mute := imax (w64 (x20.Mute - 1)) 0, Dead := x20.Dead : ApiRobot }).Charge, Rest := imax (w64 ((({ Cell := x20.Cell, Load := x20.Load, Charge := x20.Charge, Rest := x20.Rest, Mute := imax (w64 (x20.Mute - 1)) 0, Dead := x20.Dead : ApiRobot }).Rest) - 1)) 0, Mute := ({ Cell := x20.Cell, Load := x20.Load, Charge := x20.Charge, Rest := x20.Rest, Mute := imax (w64 (x20.Mute - 1)) 0, Dead := x20.Dead : ApiRobot }).Mute, Dead := ({ Cell := x20.Cell, Load := x20.Load, Charge := x20.Charge, Rest := x20.Rest, Mute := imax (w64 (x20.Mute - 1)) 0, Dead := x20.Dead : ApiRobot }).Dead : ApiRobot })) rfl rfl rfl (set_get (idx_some hx20).2.2) rfl rfl rfl rfl rfl rfl rfl rfl (fun _ => rfl) rfl) ?_
 refine U.done (C.bnx ?_)
 exact St.wa (idR 8) (hJ15 _ hm)
 refine C.exit (C.ex (C.ex (C.bex ?_)))
 exact St.wa [some 0, some 1, some 2, some 3, some 4, some 6, some 7] (hJ8 _ hm)
end Go.Proofs.YtbpbennpgnjbkaaGreat
