/- The walks: each Go function does what its verification condition says (written by a program of the prover). -/
import Derived.Test.YtenbhocpjlmimaaGreatEnc
import Derived.KernelRfl
set_option maxRecDepth 100000
set_option maxHeartbeats 8000000
set_option linter.unusedVariables false
set_option linter.unusedSimpArgs false
namespace Go.Proofs.YtenbhocpjlmimaaGreat
open Go Go.Taq
theorem T_taquinlaw15_example (post : (ApiSite × ApiState) → Prop) (hm : V_taquinlaw15_example post) :
    Tr Tryz.prog 33 [] [] 0 (fun A H' k => ∃ y, post y ∧ A = (.tup [.agg [.i y.1.Floor.W, .i y.1.Floor.H, .i y.1.Floor.D, .o 0, .o 1, .o 2, .o 3, .o 4, .o 5], .agg [.i y.2.Tick, .o 6, .o 7, .o 8, .o 9, .o 10]]) ∧ H' = [(0, .val (.os 1 eI y.1.Floor.Kind)), (1, .val (.os 1 eI y.1.Floor.Out)), (2, .val (.os 5 eApiZone y.1.Zones)), (3, .val (.os 2 eApiApart y.1.Aparts)), (4, .val (.os 2 eApiShelf y.1.Shelves)), (5, .val (.os 2 eApiStart y.1.Robots)), (6, .val (.os 1 eI y.2.Shelves)), (7, .val (.os 6 eApiRobot y.2.Robots)), (8, .val (.os 1 eI y.2.People)), (9, .val (.os 1 eI y.2.Dead)), (10, .val (.os 2 eApiStuck y.2.Stuck))] ∧ k = 11) := by
 refine Tr.intro (n := 18) Tryz.func33 rfl Tryz.ntmps33 rfl (fun w0 ok F β hβ => ?_)
 unfold V_taquinlaw15_example at hm
 refine C.seq (U.start ?_)
 refine U.e1 rfl (.none rfl) (by exact Eff1.al T rfl rfl rfl rfl) ?_
 refine U.e1 rfl (.none rfl) (by exact Eff1.al T rfl rfl rfl rfl) ?_
 refine U.done (C.nx (C.seq (U.start ?_)))
 refine U.e1 rfl (.none rfl) (by exact Eff1.bs T (enc := eI) (xs := ([3, 1, 1, 1] : List Int)) rfl rfl rfl rfl rfl rfl rfl rfl rfl rfl (fun _ _ => rfl) rfl rfl) ?_
 refine U.e1 rfl (.none rfl) (by exact Eff1.bs T (enc := eI) (xs := ([1, 5, 5, 4] : List Int)) rfl rfl rfl rfl rfl rfl rfl rfl rfl rfl (fun _ _ => rfl) rfl rfl) ?_
 refine U.ps 2 T rfl ?_
 refine U.e1 rfl (.none rfl) (by exact Eff1.bs T (enc := eApiShelf) (xs := ([({ Cell := 1, Class := ByteArray.empty : ApiShelf })] : List ApiShelf)) rfl rfl rfl rfl rfl rfl rfl rfl rfl rfl (fun _ _ => rfl) rfl rfl) ?_
 refine U.ps 2 T rfl ?_
 refine U.e1 rfl (.none rfl) (by exact Eff1.bs T (enc := eApiStart) (xs := ([({ Cell := 0, Charge := 300 : ApiStart }), ({ Cell := 2, Charge := 300 : ApiStart })] : List ApiStart)) rfl rfl rfl rfl rfl rfl rfl rfl rfl rfl (fun _ _ => rfl) rfl rfl) ?_
 refine U.ps 1 T rfl ?_
 refine U.e1 rfl (.none rfl) (by exact Eff1.al T rfl rfl rfl rfl) ?_
 refine U.e1 rfl (.none rfl) (by exact Eff1.st T rfl rfl rfl rfl rfl rfl rfl rfl rfl rfl) ?_
 refine U.done (C.nx (C.seq (U.start ?_)))
 refine U.ps 1 T rfl ?_
 refine U.e1 rfl (.none rfl) (by exact Eff1.bs T (enc := eI) (xs := ([1] : List Int)) rfl rfl rfl rfl rfl rfl rfl rfl rfl rfl (fun _ _ => rfl) rfl rfl) ?_
 refine U.ps 2 T rfl ?_
 refine U.e1 rfl (.none rfl) (by exact Eff1.bs T (enc := eApiRobot) (xs := ([({ Cell := 0, Load := (-1), Charge := 300, Rest := 0, Mute := 0, Dead := false : ApiRobot }), ({ Cell := 2, Load := (-1), Charge := 300, Rest := 0, Mute := 0, Dead := false : ApiRobot })] : List ApiRobot)) rfl rfl rfl rfl rfl rfl rfl rfl rfl rfl (fun _ _ => rfl) rfl rfl) ?_
 refine U.ps 1 T rfl ?_
 refine U.e1 rfl (.none rfl) (by exact Eff1.st T rfl rfl rfl rfl rfl rfl rfl rfl rfl rfl) ?_
 refine U.e1 rfl (.none rfl) (by exact Eff1.st T rfl rfl rfl rfl rfl rfl rfl rfl rfl rfl) ?_
 refine U.done (C.nx (C.ret ?_))
 exact C.fin T (rs' := [.agg [.i (((({ Floor := ({ W := 4, H := 1, D := 1, Kind := ([3, 1, 1, 1] : List Int), Out := ([1, 5, 5, 4] : List Int) : ApiFloor }), Zones := [], Aparts := [], Shelves := ([({ Cell := 1, Class := ByteArray.empty : ApiShelf })] : List ApiShelf), Robots := ([({ Cell := 0, Charge := 300 : ApiStart }), ({ Cell := 2, Charge := 300 : ApiStart })] : List ApiStart) : ApiSite }), ({ Tick := 0, Shelves := ([1] : List Int), Robots := ([({ Cell := 0, Load := (-1), Charge := 300, Rest := 0, Mute := 0, Dead := false : ApiRobot }), ({ Cell := 2, Load := (-1), Charge := 300, Rest := 0, Mute := 0, Dead := false : ApiRobot })] : List ApiRobot), People := [], Dead := [], Stuck := [] : ApiState })).1).Floor.W), .i (((({ Floor := ({ W := 4, H := 1, D := 1, Kind := ([3, 1, 1, 1] : List Int), Out := ([1, 5, 5, 4] : List Int) : ApiFloor }), Zones := [], Aparts := [], Shelves := ([({ Cell := 1, Class := ByteArray.empty : ApiShelf })] : List ApiShelf), Robots := ([({ Cell := 0, Charge := 300 : ApiStart }), ({ Cell := 2, Charge := 300 : ApiStart })] : List ApiStart) : ApiSite }), ({ Tick := 0, Shelves := ([1] : List Int), Robots := ([({ Cell := 0, Load := (-1), Charge := 300, Rest := 0, Mute := 0, Dead := false : ApiRobot }), ({ Cell := 2, Load := (-1), Charge := 300, Rest := 0, Mute := 0, Dead := false : ApiRobot })] : List ApiRobot), People := [], Dead := [], Stuck := [] : ApiState })).1).Floor.H), .i (((({ Floor := ({ W := 4, H := 1, D := 1, Kind := ([3, 1, 1, 1] : List Int), Out := ([1, 5, 5, 4] : List Int) : ApiFloor }), Zones := [], Aparts := [], Shelves := ([({ Cell := 1, Class := ByteArray.empty : ApiShelf })] : List ApiShelf), Robots := ([({ Cell := 0, Charge := 300 : ApiStart }), ({ Cell := 2, Charge := 300 : ApiStart })] : List ApiStart) : ApiSite }), ({ Tick := 0, Shelves := ([1] : List Int), Robots := ([({ Cell := 0, Load := (-1), Charge := 300, Rest := 0, Mute := 0, Dead := false : ApiRobot }), ({ Cell := 2, Load := (-1), Charge := 300, Rest := 0, Mute := 0, Dead := false : ApiRobot })] : List ApiRobot), People := [], Dead := [], Stuck := [] : ApiState })).1).Floor.D), .o 0, .o 1, .o 2, .o 3, .o 4, .o 5], .agg [.i (((({ Floor := ({ W := 4, H := 1, D := 1, Kind := ([3, 1, 1, 1] : List Int), Out := ([1, 5, 5, 4] : List Int) : ApiFloor }), Zones := [], Aparts := [], Shelves := ([({ Cell := 1, Class := ByteArray.empty : ApiShelf })] : List ApiShelf), Robots := ([({ Cell := 0, Charge := 300 : ApiStart }), ({ Cell := 2, Charge := 300 : ApiStart })] : List ApiStart) : ApiSite }), ({ Tick := 0, Shelves := ([1] : List Int), Robots := ([({ Cell := 0, Load := (-1), Charge := 300, Rest := 0, Mute := 0, Dead := false : ApiRobot }), ({ Cell := 2, Load := (-1), Charge := 300, Rest := 0, Mute := 0, Dead := false : ApiRobot })] : List ApiRobot), People := [], Dead := [], Stuck := [] : ApiState })).2).Tick), .o 6, .o 7, .o 8, .o 9, .o 10]]) (H' := [(0, .val (.os 1 eI (((({ Floor := ({ W := 4, H := 1, D := 1, Kind := ([3, 1, 1, 1] : List Int), Out := ([1, 5, 5, 4] : List Int) : ApiFloor }), Zones := [], Aparts := [], Shelves := ([({ Cell := 1, Class := ByteArray.empty : ApiShelf })] : List ApiShelf), Robots := ([({ Cell := 0, Charge := 300 : ApiStart }), ({ Cell := 2, Charge := 300 : ApiStart })] : List ApiStart) : ApiSite }), ({ Tick := 0, Shelves := ([1] : List Int), Robots := ([({ Cell := 0, Load := (-1), Charge := 300, Rest := 0, Mute := 0, Dead := false : ApiRobot }), ({ Cell := 2, Load := (-1), Charge := 300, Rest := 0, Mute := 0, Dead := false : ApiRobot })] : List ApiRobot), People := [], Dead := [], Stuck := [] : ApiState })).1).Floor.Kind))), (1, .val (.os 1 eI (((({ Floor := ({ W := 4, H := 1, D := 1, Kind := ([3, 1, 1, 1] : List Int), Out := ([1, 5, 5, 4] : List Int) : ApiFloor }), Zones := [], Aparts := [], Shelves := ([({ Cell := 1, Class := ByteArray.empty : ApiShelf })] : List ApiShelf), Robots := ([({ Cell := 0, Charge := 300 : ApiStart }), ({ Cell := 2, Charge := 300 : ApiStart })] : List ApiStart) : ApiSite }), ({ Tick := 0, Shelves := ([1] : List Int), Robots := ([({ Cell := 0, Load := (-1), Charge := 300, Rest := 0, Mute := 0, Dead := false : ApiRobot }), ({ Cell := 2, Load := (-1), Charge := 300, Rest := 0, Mute := 0, Dead := false : ApiRobot })] : List ApiRobot), People := [], Dead := [], Stuck := [] : ApiState })).1).Floor.Out))), (2, .val (.os 5 eApiZone (((({ Floor := ({ W := 4, H := 1, D := 1, Kind := ([3, 1, 1, 1] : List Int), Out := ([1, 5, 5, 4] : List Int) : ApiFloor }), Zones := [], Aparts := [], Shelves := ([({ Cell := 1, Class := ByteArray.empty : ApiShelf })] : List ApiShelf), Robots := ([({ Cell := 0, Charge := 300 : ApiStart }), ({ Cell := 2, Charge := 300 : ApiStart })] : List ApiStart) : ApiSite }), ({ Tick := 0, Shelves := ([1] : List Int), Robots := ([({ Cell := 0, Load := (-1), Charge := 300, Rest := 0, Mute := 0, Dead := false : ApiRobot }), ({ Cell := 2, Load := (-1), Charge := 300, Rest := 0, Mute := 0, Dead := false : ApiRobot })] : List ApiRobot), People := [], Dead := [], Stuck := [] : ApiState })).1).Zones))), (3, .val (.os 2 eApiApart (((({ Floor := ({ W := 4, H := 1, D := 1, Kind := ([3, 1, 1, 1] : List Int), Out := ([1, 5, 5, 4] : List Int) : ApiFloor }), Zones := [], Aparts := [], Shelves := ([({ Cell := 1, Class := ByteArray.empty : ApiShelf })] : List ApiShelf), Robots := ([({ Cell := 0, Charge := 300 : ApiStart }), ({ Cell := 2, Charge := 300 : ApiStart })] : List ApiStart) : ApiSite }), ({ Tick := 0, Shelves := ([1] : List Int), Robots := ([({ Cell := 0, Load := (-1), Charge := 300, Rest := 0, Mute := 0, Dead := false : ApiRobot }), ({ Cell := 2, Load := (-1), Charge := 300, Rest := 0, Mute := 0, Dead := false : ApiRobot })] : List ApiRobot), People := [], Dead := [], Stuck := [] : ApiState })).1).Aparts))), (4, .val (.os 2 eApiShelf (((({ Floor := ({ W := 4, H := 1, D := 1, Kind := ([3, 1, 1, 1] : List Int), Out := ([1, 5, 5, 4] : List Int) : ApiFloor }), Zones := [], Aparts := [], Shelves := ([({ Cell := 1, Class := ByteArray.empty : ApiShelf })] : List ApiShelf), Robots := ([({ Cell := 0, Charge := 300 : ApiStart }), ({ Cell := 2, Charge := 300 : ApiStart })] : List ApiStart) : ApiSite }), ({ Tick := 0, Shelves := ([1] : List Int), Robots := ([({ Cell := 0, Load := (-1), Charge := 300, Rest := 0, Mute := 0, Dead := false : ApiRobot }), ({ Cell := 2, Load := (-1), Charge := 300, Rest := 0, Mute := 0, Dead := false : ApiRobot })] : List ApiRobot), People := [], Dead := [], Stuck := [] : ApiState })).1).Shelves))), (5, .val (.os 2 eApiStart (((({ Floor := ({ W := 4, H := 1, D := 1, Kind := ([3, 1, 1, 1] : List Int), Out := ([1, 5, 5, 4] : List Int) : ApiFloor }), Zones := [], Aparts := [], Shelves := ([({ Cell := 1, Class := ByteArray.empty : ApiShelf })] : List ApiShelf), Robots := ([({ Cell := 0, Charge := 300 : ApiStart }), ({ Cell := 2, Charge := 300 : ApiStart })] : List ApiStart) : ApiSite }), ({ Tick := 0, Shelves := ([1] : List Int), Robots := ([({ Cell := 0, Load := (-1), Charge := 300, Rest := 0, Mute := 0, Dead := false : ApiRobot }), ({ Cell := 2, Load := (-1), Charge := 300, Rest := 0, Mute := 0, Dead := false : ApiRobot })] : List ApiRobot), People := [], Dead := [], Stuck := [] : ApiState })).1).Robots))), (6, .val (.os 1 eI (((({ Floor := ({ W := 4, H := 1, D := 1, Kind := ([3, 1, 1, 1] : List Int), Out := ([1, 5, 5, 4] : List Int) : ApiFloor }), Zones := [], Aparts := [], Shelves := ([({ Cell := 1, Class := ByteArray.empty : ApiShelf })] : List ApiShelf), Robots := ([({ Cell := 0, Charge := 300 : ApiStart }), ({ Cell := 2, Charge := 300 : ApiStart })] : List ApiStart) : ApiSite }), ({ Tick := 0, Shelves := ([1] : List Int), Robots := ([({ Cell := 0, Load := (-1), Charge := 300, Rest := 0, Mute := 0, Dead := false : ApiRobot }), ({ Cell := 2, Load := (-1), Charge := 300, Rest := 0, Mute := 0, Dead := false : ApiRobot })] : List ApiRobot), People := [], Dead := [], Stuck := [] : ApiState })).2).Shelves))), (7, .val (.os 6 eApiRobot (((({ Floor := ({ W := 4, H := 1, D := 1, Kind := ([3, 1, 1, 1] : List Int), Out := ([1, 5, 5, 4] : List Int) : ApiFloor }), Zones := [], Aparts := [], Shelves := ([({ Cell := 1, Class := ByteArray.empty : ApiShelf })] : List ApiShelf), Robots := ([({ Cell := 0, Charge := 300 : ApiStart }), ({ Cell := 2, Charge := 300 : ApiStart })] : List ApiStart) : ApiSite }), ({ Tick := 0, Shelves := ([1] : List Int), Robots := ([({ Cell := 0, Load := (-1), Charge := 300, Rest := 0, Mute := 0, Dead := false : ApiRobot }), ({ Cell := 2, Load := (-1), Charge := 300, Rest := 0, Mute := 0, Dead := false : ApiRobot })] : List ApiRobot), People := [], Dead := [], Stuck := [] : ApiState })).2).Robots))), (8, .val (.os 1 eI (((({ Floor := ({ W := 4, H := 1, D := 1, Kind := ([3, 1, 1, 1] : List Int), Out := ([1, 5, 5, 4] : List Int) : ApiFloor }), Zones := [], Aparts := [], Shelves := ([({ Cell := 1, Class := ByteArray.empty : ApiShelf })] : List ApiShelf), Robots := ([({ Cell := 0, Charge := 300 : ApiStart }), ({ Cell := 2, Charge := 300 : ApiStart })] : List ApiStart) : ApiSite }), ({ Tick := 0, Shelves := ([1] : List Int), Robots := ([({ Cell := 0, Load := (-1), Charge := 300, Rest := 0, Mute := 0, Dead := false : ApiRobot }), ({ Cell := 2, Load := (-1), Charge := 300, Rest := 0, Mute := 0, Dead := false : ApiRobot })] : List ApiRobot), People := [], Dead := [], Stuck := [] : ApiState })).2).People))), (9, .val (.os 1 eI (((({ Floor := ({ W := 4, H := 1, D := 1, Kind := ([3, 1, 1, 1] : List Int), Out := ([1, 5, 5, 4] : List Int) : ApiFloor }), Zones := [], Aparts := [], Shelves := ([({ Cell := 1, Class := ByteArray.empty : ApiShelf })] : List ApiShelf), Robots := ([({ Cell := 0, Charge := 300 : ApiStart }), ({ Cell := 2, Charge := 300 : ApiStart })] : List ApiStart) : ApiSite }), ({ Tick := 0, Shelves := ([1] : List Int), Robots := ([({ Cell := 0, Load := (-1), Charge := 300, Rest := 0, Mute := 0, Dead := false : ApiRobot }), ({ Cell := 2, Load := (-1), Charge := 300, Rest := 0, Mute := 0, Dead := false : ApiRobot })] : List ApiRobot), People := [], Dead := [], Stuck := [] : ApiState })).2).Dead))), (10, .val (.os 2 eApiStuck (((({ Floor := ({ W := 4, H := 1, D := 1, Kind := ([3, 1, 1, 1] : List Int), Out := ([1, 5, 5, 4] : List Int) : ApiFloor }), Zones := [], Aparts := [], Shelves := ([({ Cell := 1, Class := ByteArray.empty : ApiShelf })] : List ApiShelf), Robots := ([({ Cell := 0, Charge := 300 : ApiStart }), ({ Cell := 2, Charge := 300 : ApiStart })] : List ApiStart) : ApiSite }), ({ Tick := 0, Shelves := ([1] : List Int), Robots := ([({ Cell := 0, Load := (-1), Charge := 300, Rest := 0, Mute := 0, Dead := false : ApiRobot }), ({ Cell := 2, Load := (-1), Charge := 300, Rest := 0, Mute := 0, Dead := false : ApiRobot })] : List ApiRobot), People := [], Dead := [], Stuck := [] : ApiState })).2).Stuck)))]) (nl' := 11) [some 2, some 3, none, none, some 4, some 5, some 7, some 8, none, none, none] rfl rfl (.cons (.agg (.cons (.eq rfl) (.cons (.eq rfl) (.cons (.eq rfl) (.cons (.eq rfl) (.cons (.eq rfl) (.cons (.nilO _ _ ⟨rfl, rfl⟩ rfl) (.cons (.nilO _ _ ⟨rfl, rfl⟩ rfl) (.eq rfl))))))))) (.cons (.agg (.cons (.eq rfl) (.cons (.eq rfl) (.cons (.eq rfl) (.cons (.nilO _ _ ⟨rfl, rfl⟩ rfl) (.cons (.nilO _ _ ⟨rfl, rfl⟩ rfl) (.cons (.nilO _ _ ⟨rfl, rfl⟩ rfl) .nil))))))) .nil)) ⟨vL, vL, ⟨_, rfl, .nil _ _⟩, ⟨_, rfl, .nil _ _⟩, vL, vL, vL, vL, ⟨_, rfl, .nil _ _⟩, ⟨_, rfl, .nil _ _⟩, ⟨_, rfl, .nil _ _⟩, trivial⟩ rfl rfl rfl rfl hβ ⟨(({ Floor := ({ W := 4, H := 1, D := 1, Kind := ([3, 1, 1, 1] : List Int), Out := ([1, 5, 5, 4] : List Int) : ApiFloor }), Zones := [], Aparts := [], Shelves := ([({ Cell := 1, Class := ByteArray.empty : ApiShelf })] : List ApiShelf), Robots := ([({ Cell := 0, Charge := 300 : ApiStart }), ({ Cell := 2, Charge := 300 : ApiStart })] : List ApiStart) : ApiSite }), ({ Tick := 0, Shelves := ([1] : List Int), Robots := ([({ Cell := 0, Load := (-1), Charge := 300, Rest := 0, Mute := 0, Dead := false : ApiRobot }), ({ Cell := 2, Load := (-1), Charge := 300, Rest := 0, Mute := 0, Dead := false : ApiRobot })] : List ApiRobot), People := [], Dead := [], Stuck := [] : ApiState })), hm, rfl, rfl, rfl⟩
theorem T_act_direction (act : Int) (post : (Int × Bool) → Prop) (hm : V_act_direction act post) :
    Tr Tryz.prog 38 [.i act] [] 0 (fun A H' k => ∃ y, post y ∧ A = (.tup [.i y.1, .b y.2]) ∧ H' = [] ∧ k = 0) := by
 refine Tr.intro (n := 14) Tryz.func38 rfl Tryz.ntmps38 rfl (fun w0 ok F β hβ => ?_)
 unfold V_act_direction at hm
 refine C.seq (U.start ?_)
 refine U.ps 2 T rfl ?_
 refine U.done (C.nx (C.seq (U.start ?_)))
 refine U.ps 3 T rfl ?_
 refine U.done (C.nx (C.seq ?_))
 refine C.jn (fun (x5 : Bool) => [(2, .i (w64 (act - 1))), (3, .b x5)]) (fun (x5 : Bool) => []) 0 hm (fun x5 hm => ?_) (fun J6 hm hJ6 => ?_)
 refine C.nx (C.ret ?_)
 exact C.f0 T (rs' := [.i ((w64 (act - 1), x5).1), .b ((w64 (act - 1), x5).2)]) hβ ⟨(w64 (act - 1), x5), hm, rfl, rfl, rfl⟩
 refine U.start ?_
 refine U.ps 4 T rfl ?_
 refine hm.cs (fun hb7 hm => ?_) (fun hb7 hm => ?_)
 refine U.pg 2 3 true 10 hb7 T rfl rfl rfl rfl ?_
 refine U.r rfl (.none rfl) rfl rfl (by exact Rd.pk rfl rfl hb7 rfl) ?_
 refine U.ps 2 T rfl ?_
 refine U.done ?_
 exact St.wk (hJ6 _ hm) (Wk.e)
 refine U.sks 2 3 true 10 hb7 rfl rfl rfl ?_
 refine U.r rfl (.none rfl) rfl rfl (by exact Rd.pk' rfl rfl hb7 rfl) ?_
 refine U.ps 2 T rfl ?_
 refine U.done ?_
 exact St.wk (hJ6 _ hm) (Wk.e)
theorem T_battery_isCharge (n : Int) (post : Bool → Prop) (hm : V_battery_isCharge n post) :
    Tr Tryz.prog 64 [.i n] [] 0 (fun A H' k => ∃ y, post y ∧ A = (.b y) ∧ H' = [] ∧ k = 0) := by
 refine Tr.intro (n := 9) Tryz.func64 rfl Tryz.ntmps64 rfl (fun w0 ok F β hβ => ?_)
 unfold V_battery_isCharge at hm
 refine C.seq (U.start ?_)
 refine U.ps 1 T rfl ?_
 refine U.done (C.nx (C.seq ?_))
 refine C.jn (fun (x3 : Bool) => [(2, .b x3)]) (fun (x3 : Bool) => []) 0 hm (fun x3 hm => ?_) (fun J4 hm hJ4 => ?_)
 refine C.nx (C.ret ?_)
 exact C.f0 T (rs' := [.b x3]) hβ ⟨x3, hm, rfl, rfl, rfl⟩
 refine U.start ?_
 refine U.ps 3 T rfl ?_
 refine hm.cs (fun hb5 hm => ?_) (fun hb5 hm => ?_)
 refine U.pg 2 2 true 5 hb5 T rfl rfl rfl rfl ?_
 refine U.r rfl (.none rfl) rfl rfl (by exact Rd.pk rfl rfl hb5 rfl) ?_
 refine U.ps 1 T rfl ?_
 refine U.done ?_
 exact St.wk (hJ4 _ hm) (Wk.e)
 refine U.sks 2 2 true 5 hb5 rfl rfl rfl ?_
 refine U.r rfl (.none rfl) rfl rfl (by exact Rd.pk' rfl rfl hb5 rfl) ?_
 refine U.ps 1 T rfl ?_
 refine U.done ?_
 exact St.wk (hJ4 _ hm) (Wk.e)
theorem T_battery_Base (act : Int) (laden : Bool) (post : Int → Prop) (hm : V_battery_Base act laden post) :
    Tr Tryz.prog 70 [.i act, .b laden] [] 0 (fun A H' k => ∃ y, post y ∧ A = (.i y) ∧ H' = [] ∧ k = 0) := by
 refine Tr.intro (n := 31) Tryz.func70 rfl Tryz.ntmps70 rfl (fun w0 ok F β hβ => ?_)
 unfold V_battery_Base at hm
 refine C.seq (U.start ?_)
 refine U.ps 1 T rfl ?_
 refine U.done (C.nx (C.seq (C.seq (U.start ?_))))
 refine U.ps 1 T rfl ?_
 refine U.done (C.nx (C.block (C.seq (C.seq (U.start ?_)))))
 refine U.ps 2 T rfl ?_
 refine U.done (C.nx ?_)
 refine C.jn (fun (x7 : Bool) => [(0, .i act), (1, .b laden), (6, .i act), (7, .b x7)]) (fun (x7 : Bool) => []) 0 hm (fun x7 hm => ?_) (fun J8 hm hJ8 => ?_)
 refine C.nx ?_
 refine C.ite rfl hm (fun hb12 hm => ?_) (fun hb12 hm => ?_)
 refine C.seq (U.start ?_)
 refine U.ps 1 T rfl ?_
 refine U.done (C.nx (C.ret (C.brt (C.rt ?_))))
 exact C.f0 T (rs' := [.i 1]) hβ ⟨1, hm, rfl, rfl, rfl⟩
 refine C.seq (U.start ?_)
 refine U.ps 2 T rfl ?_
 refine U.done (C.nx ?_)
 refine C.ite rfl hm (fun hb17 hm => ?_) (fun hb17 hm => ?_)
 refine C.seq (U.start ?_)
 refine U.ps 1 T rfl ?_
 refine U.done (C.nx (C.ret (C.brt (C.rt ?_))))
 exact C.f0 T (rs' := [.i 3]) hβ ⟨3, hm, rfl, rfl, rfl⟩
 refine C.skip (C.bnx (C.nx (C.seq (U.start ?_))))
 refine U.ps 1 T rfl ?_
 refine U.done (C.nx (C.seq (C.seq (U.start ?_))))
 refine U.ps 2 T rfl ?_
 refine U.done (C.nx (C.block (C.seq (C.seq (U.start ?_)))))
 refine U.ps 2 T rfl ?_
 refine U.done (C.nx ?_)
 refine C.jn (fun (x26 : Bool) => [(1, .b laden), (5, .i 0), (13, .i (w64 (act - 1))), (14, .b x26)]) (fun (x26 : Bool) => []) 0 hm (fun x26 hm => ?_) (fun J27 hm hJ27 => ?_)
 refine C.nx ?_
 refine C.jn (fun (x41 : Int) => [(1, .b laden), (5, .i x41)]) (fun (x41 : Int) => []) 0 hm (fun x41 hm => ?_) (fun J42 hm hJ42 => ?_)
 refine C.bnx (C.nx (C.seq (C.seq ?_)))
 refine C.jn (fun (x60 : Bool) => [(5, .i x41), (27, .b x60)]) (fun (x60 : Bool) => []) 0 hm (fun x60 hm => ?_) (fun J61 hm hJ61 => ?_)
 refine C.nx ?_
 refine C.jn (fun (x63 : Int) => [(5, .i x63)]) (fun (x63 : Int) => []) 0 hm (fun x63 hm => ?_) (fun J64 hm hJ64 => ?_)
 refine C.nx (C.seq (U.start ?_))
 refine U.ps 2 T rfl ?_
 refine U.done (C.nx (C.ret ?_))
 exact C.f0 T (rs' := [.i x63]) hβ ⟨x63, hm, rfl, rfl, rfl⟩
 refine C.ite rfl hm (fun hb65 hm => ?_) (fun hb65 hm => ?_)
 refine U.start ?_
 refine U.ps 3 T rfl ?_
 refine U.done ?_
 exact St.wk (hJ64 _ hm) (Wk.e)
 refine C.skip ?_
 exact St.wk (hJ64 _ hm) (Wk.e)
 refine U.start ?_
 refine U.ps 3 T rfl ?_
 refine hm.cs (fun hb62 hm => ?_) (fun hb62 hm => ?_)
 refine U.pg 1 2 true 25 hb62 T rfl rfl rfl rfl ?_
 refine U.r rfl (.none rfl) rfl rfl (by exact Rd.pk rfl rfl hb62 rfl) ?_
 refine U.done ?_
 exact St.wk (hJ61 _ hm) (Wk.e)
 refine U.sks 1 2 true 25 hb62 rfl rfl rfl ?_
 refine U.r rfl (.none rfl) rfl rfl (by exact Rd.pk' rfl rfl hb62 rfl) ?_
 refine U.done ?_
 exact St.wk (hJ61 _ hm) (Wk.e)
 refine C.ite rfl hm (fun hb43 hm => ?_) (fun hb43 hm => ?_)
 refine U.start ?_
 refine U.ps 1 T rfl ?_
 refine U.done ?_
 exact St.wk (hJ42 _ hm) (Wk.e)
 refine C.seq (U.start ?_)
 refine U.ps 2 T rfl ?_
 refine U.done (C.nx ?_)
 refine C.jn (fun (x48 : Int) => [(1, .b laden), (5, .i x48)]) (fun (x48 : Int) => []) 0 hm (fun x48 hm => ?_) (fun J49 hm hJ49 => ?_)
 exact St.wk (hJ42 _ hm) (Wk.e)
 refine C.ite rfl hm (fun hb50 hm => ?_) (fun hb50 hm => ?_)
 refine U.start ?_
 refine U.ps 1 T rfl ?_
 refine U.done ?_
 exact St.wk (hJ49 _ hm) (Wk.e)
 refine C.seq (U.start ?_)
 refine U.ps 2 T rfl ?_
 refine U.done (C.nx ?_)
 refine C.jn (fun (x55 : Int) => [(1, .b laden), (5, .i x55)]) (fun (x55 : Int) => []) 0 hm (fun x55 hm => ?_) (fun J56 hm hJ56 => ?_)
 exact St.wk (hJ49 _ hm) (Wk.e)
 refine C.ite rfl hm (fun hb57 hm => ?_) (fun hb57 hm => ?_)
 refine U.start ?_
 refine U.ps 1 T rfl ?_
 refine U.done ?_
 exact St.wk (hJ56 _ hm) (Wk.e)
 refine C.skip ?_
 exact St.wk (hJ56 _ hm) (Wk.e)
 refine C.ite rfl hm (fun hb28 hm => ?_) (fun hb28 hm => ?_)
 refine C.skip ?_
 exact St.wk (hJ27 _ hm) (Wk.e)
 refine C.seq (U.start ?_)
 refine U.ps 2 T rfl ?_
 refine U.done (C.nx ?_)
 refine C.jn (fun (x31 : Bool) => [(1, .b laden), (5, .i 0), (13, .i (w64 (act - 1))), (14, .b x31)]) (fun (x31 : Bool) => []) 0 hm (fun x31 hm => ?_) (fun J32 hm hJ32 => ?_)
 exact St.wk (hJ27 _ hm) (Wk.e)
 refine C.ite rfl hm (fun hb33 hm => ?_) (fun hb33 hm => ?_)
 refine C.skip ?_
 exact St.wk (hJ32 _ hm) (Wk.e)
 refine C.seq (U.start ?_)
 refine U.ps 2 T rfl ?_
 refine U.done (C.nx ?_)
 refine C.jn (fun (x36 : Bool) => [(1, .b laden), (5, .i 0), (13, .i (w64 (act - 1))), (14, .b x36)]) (fun (x36 : Bool) => []) 0 hm (fun x36 hm => ?_) (fun J37 hm hJ37 => ?_)
 exact St.wk (hJ32 _ hm) (Wk.e)
 refine C.ite rfl hm (fun hb38 hm => ?_) (fun hb38 hm => ?_)
 refine C.skip ?_
 exact St.wk (hJ37 _ hm) (Wk.e)
 refine U.start ?_
 refine U.ps 2 T rfl ?_
 refine U.done ?_
 exact St.wk (hJ37 _ hm) (Wk.e)
 refine C.ite rfl hm (fun hb9 hm => ?_) (fun hb9 hm => ?_)
 refine C.skip ?_
 exact St.wk (hJ8 _ hm) (Wk.e)
 refine U.start ?_
 refine U.ps 2 T rfl ?_
 refine U.done ?_
 exact St.wk (hJ8 _ hm) (Wk.e)
theorem T_battery_Cost (tick : Int) (act : Int) (laden : Bool) (post : Int → Prop) (hm : V_battery_Cost tick act laden post) :
    Tr Tryz.prog 31 [.i tick, .i act, .b laden] [] 0 (fun A H' k => ∃ y, post y ∧ A = (.i y) ∧ H' = [] ∧ k = 0) := by
 refine Tr.intro (n := 20) Tryz.func31 rfl Tryz.ntmps31 rfl (fun w0 ok F β hβ => ?_)
 unfold V_battery_Cost at hm
 refine C.seq (U.start ?_)
 refine U.ps 1 T rfl ?_
 refine U.done (C.nx (C.seq (U.start ?_)))
 refine U.ps 3 T rfl ?_
 refine U.r rfl (.none rfl) rfl rfl (by exact Rd.dv rfl rfl rfl rfl (by decide)) ?_
 refine U.ps 1 T rfl ?_
 refine U.done (C.nx (C.seq (U.start ?_)))
 refine U.ps 2 T rfl ?_
 refine U.e rfl (.none rfl) (by exact Eff.k (T_battery_Base act laden _ hm) en70 rfl rfl rfl (.eq rfl) (fun _ _ => ⟨(.v _), trivial⟩)) (fun x8' hm => ?_)
 obtain ⟨x8⟩ := x8'
 refine U.ps 4 T rfl ?_
 refine U.r rfl (.none rfl) rfl rfl (by exact Rd.dv rfl rfl rfl rfl (by decide)) ?_
 refine U.ps 1 T rfl ?_
 refine U.done (C.nx (C.ret ?_))
 exact C.f0 T (rs' := [.i (w64 ((w64 ((w64 (x8 * (w64 (10 + (w64 ((imin (imax tick 0) 20000).tdiv 1000)))))) + 9)).tdiv 10))]) hβ ⟨w64 ((w64 ((w64 (x8 * (w64 (10 + (w64 ((imin (imax tick 0) 20000).tdiv 1000)))))) + 9)).tdiv 10), hm, rfl, rfl, rfl⟩
theorem T_battery_Spend (charge : Int) (cost : Int) (post : (Int × Int) → Prop) (hm : V_battery_Spend charge cost post) :
    Tr Tryz.prog 65 [.i charge, .i cost] [] 0 (fun A H' k => ∃ y, post y ∧ A = (.tup [.i y.1, .i y.2]) ∧ H' = [] ∧ k = 0) := by
 refine Tr.intro (n := 23) Tryz.func65 rfl Tryz.ntmps65 rfl (fun w0 ok F β hβ => ?_)
 unfold V_battery_Spend at hm
 refine C.seq (U.start ?_)
 refine U.ps 2 T rfl ?_
 refine U.done (C.nx (C.seq (C.block (C.seq ?_))))
 refine C.jn (fun (x3 : Bool) => [(0, .i charge), (1, .i cost), (6, .b x3)]) (fun (x3 : Bool) => []) 0 hm (fun x3 hm => ?_) (fun J4 hm hJ4 => ?_)
 refine C.nx ?_
 refine C.ite rfl hm (fun hb7 hm => ?_) (fun hb7 hm => ?_)
 refine C.seq (U.start ?_)
 refine U.ps 3 T rfl ?_
 refine U.done (C.nx (C.ret (C.brt (C.rt ?_))))
 exact C.f0 T (rs' := [.i ((charge, 1).1), .i ((charge, 1).2)]) hβ ⟨(charge, 1), hm, rfl, rfl, rfl⟩
 refine C.seq (U.start ?_)
 refine U.ps 4 T rfl ?_
 refine U.done (C.nx ?_)
 refine C.ite rfl hm (fun hb12 hm => ?_) (fun hb12 hm => ?_)
 refine C.seq (U.start ?_)
 refine U.ps 3 T rfl ?_
 refine U.done (C.nx (C.ret (C.brt (C.rt ?_))))
 exact C.f0 T (rs' := [.i ((charge, 16).1), .i ((charge, 16).2)]) hβ ⟨(charge, 16), hm, rfl, rfl, rfl⟩
 refine C.skip (C.bnx (C.nx (C.seq (U.start ?_))))
 refine U.ps 5 T rfl ?_
 refine U.done (C.nx (C.ret ?_))
 exact C.f0 T (rs' := [.i ((w64 (charge - cost), 0).1), .i ((w64 (charge - cost), 0).2)]) hβ ⟨(w64 (charge - cost), 0), hm, rfl, rfl, rfl⟩
 refine U.start ?_
 refine U.ps 1 T rfl ?_
 refine U.e rfl (.none rfl) (by exact Eff.k (T_battery_isCharge charge _ hm) en64 rfl rfl rfl (.eq rfl) (fun _ _ => ⟨(.v _), trivial⟩)) (fun x5' hm => ?_)
 obtain ⟨x5⟩ := x5'
 refine U.ps 2 T rfl ?_
 refine hm.cs (fun hb6 hm => ?_) (fun hb6 hm => ?_)
 refine U.pg 2 3 false 10 (ntF hb6) T rfl rfl rfl rfl ?_
 refine U.r rfl (.none rfl) rfl rfl (by exact Rd.pk' rfl rfl (ntF hb6) rfl) ?_
 refine U.ps 1 T rfl ?_
 refine U.done ?_
 exact St.wk (hJ4 _ hm) (Wk.e)
 refine U.sks 2 3 false 10 (ntT hb6) rfl rfl rfl ?_
 refine U.r rfl (.none rfl) rfl rfl (by exact Rd.pk rfl rfl (ntT hb6) rfl) ?_
 refine U.ps 1 T rfl ?_
 refine U.done ?_
 exact St.wk (hJ4 _ hm) (Wk.e)
theorem T_battery_After (tick : Int) (charge : Int) (act : Int) (laden : Bool) (post : (Int × Int) → Prop) (hm : V_battery_After tick charge act laden post) :
    Tr Tryz.prog 28 [.i tick, .i charge, .i act, .b laden] [] 0 (fun A H' k => ∃ y, post y ∧ A = (.tup [.i y.1, .i y.2]) ∧ H' = [] ∧ k = 0) := by
 refine Tr.intro (n := 37) Tryz.func28 rfl Tryz.ntmps28 rfl (fun w0 ok F β hβ => ?_)
 unfold V_battery_After at hm
 refine C.seq (U.start ?_)
 refine U.ps 2 T rfl ?_
 refine U.done (C.nx (C.seq (C.block (C.seq ?_))))
 refine C.jn (fun (x3 : Bool) => [(0, .i tick), (1, .i charge), (2, .i act), (3, .b laden), (10, .b x3)]) (fun (x3 : Bool) => []) 0 hm (fun x3 hm => ?_) (fun J4 hm hJ4 => ?_)
 refine C.nx ?_
 refine C.ite rfl hm (fun hb8 hm => ?_) (fun hb8 hm => ?_)
 refine C.seq (U.start ?_)
 refine U.ps 3 T rfl ?_
 refine U.done (C.nx (C.ret (C.brt (C.rt ?_))))
 exact C.f0 T (rs' := [.i ((charge, 1).1), .i ((charge, 1).2)]) hβ ⟨(charge, 1), hm, rfl, rfl, rfl⟩
 refine C.seq (U.start ?_)
 refine U.ps 3 T rfl ?_
 refine U.done (C.nx ?_)
 refine C.ite rfl hm (fun hb13 hm => ?_) (fun hb13 hm => ?_)
 refine C.seq (U.start ?_)
 refine U.ps 5 T rfl ?_
 refine U.done (C.nx (C.ret (C.brt (C.rt ?_))))
 exact C.f0 T (rs' := [.i ((imin (w64 (charge + 20)) 1000000, 0).1), .i ((imin (w64 (charge + 20)) 1000000, 0).2)]) hβ ⟨(imin (w64 (charge + 20)) 1000000, 0), hm, rfl, rfl, rfl⟩
 refine C.skip (C.bnx (C.nx (C.seq (U.start ?_))))
 refine U.ps 4 T rfl ?_
 refine U.e rfl (.none rfl) (by exact Eff.k (T_battery_Cost tick act laden _ hm) en31 rfl rfl rfl (.eq rfl) (fun _ _ => ⟨(.v _), trivial⟩)) (fun x18' hm => ?_)
 obtain ⟨x18⟩ := x18'
 refine U.e rfl (.none rfl) (by exact Eff.k (T_battery_Spend charge x18 _ hm) en65 rfl rfl rfl (.eq rfl) (fun _ _ => ⟨(.tup (.cons (.v _) (.cons (.v _) .nil))), trivial⟩)) (fun x19' hm => ?_)
 obtain ⟨x19⟩ := x19'
 refine U.ps 4 T rfl ?_
 refine U.done (C.nx (C.ret ?_))
 exact C.f0 T (rs' := [.i ((x19.1, x19.2).1), .i ((x19.1, x19.2).2)]) hβ ⟨(x19.1, x19.2), hm, rfl, rfl, rfl⟩
 refine U.start ?_
 refine U.ps 1 T rfl ?_
 refine U.e rfl (.none rfl) (by exact Eff.k (T_battery_isCharge charge _ hm) en64 rfl rfl rfl (.eq rfl) (fun _ _ => ⟨(.v _), trivial⟩)) (fun x5' hm => ?_)
 obtain ⟨x5⟩ := x5'
 refine U.ps 2 T rfl ?_
 refine hm.cs (fun hb6 hm => ?_) (fun hb6 hm => ?_)
 refine U.pg 2 3 false 14 (ntF hb6) T rfl rfl rfl rfl ?_
 refine U.r rfl (.none rfl) rfl rfl (by exact Rd.pk' rfl rfl (ntF hb6) rfl) ?_
 refine U.ps 1 T rfl ?_
 refine hm.cs (fun hb7 hm => ?_) (fun hb7 hm => ?_)
 refine U.sks 2 7 false 18 hb7 rfl rfl rfl ?_
 refine U.r rfl (.none rfl) rfl rfl (by exact Rd.pk rfl rfl hb7 rfl) ?_
 refine U.ps 1 T rfl ?_
 refine U.done ?_
 exact St.wk (hJ4 _ hm) (Wk.e)
 refine U.pg 2 7 false 18 hb7 T rfl rfl rfl rfl ?_
 refine U.r rfl (.none rfl) rfl rfl (by exact Rd.pk' rfl rfl hb7 rfl) ?_
 refine U.ps 1 T rfl ?_
 refine U.done ?_
 exact St.wk (hJ4 _ hm) (Wk.e)
 refine U.sks 2 3 false 14 (ntT hb6) rfl rfl rfl ?_
 refine U.r rfl (.none rfl) rfl rfl (by exact Rd.pk rfl rfl (ntT hb6) rfl) ?_
 refine U.ps 1 T rfl ?_
 refine U.sks 2 7 false 18 rfl rfl rfl rfl ?_
 refine U.r rfl (.none rfl) rfl rfl (by exact Rd.pk rfl rfl rfl rfl) ?_
 refine U.ps 1 T rfl ?_
 refine U.done ?_
 exact St.wk (hJ4 _ hm) (Wk.e)
theorem T_floor_size (f : ApiFloor) (post : Int → Prop) (hm : V_floor_size f post) :
    Tr Tryz.prog 160 [.agg (eApiFloor f)] [] 0 (fun A H' k => ∃ y, post y ∧ A = (.i y) ∧ H' = [] ∧ k = 0) := by
 refine Tr.intro (n := 11) Tryz.func160 rfl Tryz.ntmps160 rfl (fun w0 ok F β hβ => ?_)
 unfold V_floor_size at hm
 refine C.seq (U.start ?_)
 refine U.e1 rfl (.none rfl) (by exact Eff1.box rfl rfl rfl rfl rfl) ?_
 refine U.ps 1 T rfl ?_
 refine U.done (C.nx (C.seq (U.start ?_)))
 refine U.ps 9 T rfl ?_
 refine U.done (C.nx (C.ret ?_))
 exact C.f0 T (rs' := [.i (w64 ((w64 (f.W * f.H)) * f.D))]) hβ ⟨w64 ((w64 (f.W * f.H)) * f.D), hm, rfl, rfl, rfl⟩
theorem T_floor_is (f : ApiFloor) (c : Int) (post : Bool → Prop) (hm : V_floor_is f c post) :
    Tr Tryz.prog 117 [.agg (eApiFloor f), .i c] [] 0 (fun A H' k => ∃ y, post y ∧ A = (.b y) ∧ H' = [] ∧ k = 0) := by
 refine Tr.intro (n := 13) Tryz.func117 rfl Tryz.ntmps117 rfl (fun w0 ok F β hβ => ?_)
 unfold V_floor_is at hm
 refine C.seq (U.start ?_)
 refine U.e1 rfl (.none rfl) (by exact Eff1.box rfl rfl rfl rfl rfl) ?_
 refine U.ps 1 T rfl ?_
 refine U.done (C.nx (C.seq ?_))
 refine C.jn (fun (x3 : Bool) => [(4, .b x3)]) (fun (x3 : Bool) => []) 0 hm (fun x3 hm => ?_) (fun J4 hm hJ4 => ?_)
 refine C.nx (C.ret ?_)
 exact C.f0 T (rs' := [.b x3]) hβ ⟨x3, hm, rfl, rfl, rfl⟩
 refine U.start ?_
 refine U.ps 3 T rfl ?_
 refine hm.cs (fun hb5 hm => ?_) (fun hb5 hm => ?_)
 refine U.pg 2 2 true 7 hb5 T rfl rfl rfl rfl ?_
 refine U.e rfl (.take 2 true 7 _ hb5 rfl rfl rfl) (by exact Eff.k (T_floor_size f _ hm) en160 rfl rfl rfl (.eq rfl) (fun _ _ => ⟨(.v _), trivial⟩)) (fun x6' hm => ?_)
 obtain ⟨x6⟩ := x6'
 refine U.pg 1 2 true 7 hb5 T rfl rfl rfl rfl ?_
 refine U.r rfl (.none rfl) rfl rfl (by exact Rd.pk rfl rfl hb5 rfl) ?_
 refine U.ps 1 T rfl ?_
 refine U.done ?_
 exact St.wk (hJ4 _ hm) (Wk.e)
 refine U.sks 4 2 true 7 hb5 rfl rfl rfl ?_
 refine U.r rfl (.none rfl) rfl rfl (by exact Rd.pk' rfl rfl hb5 rfl) ?_
 refine U.ps 1 T rfl ?_
 refine U.done ?_
 exact St.wk (hJ4 _ hm) (Wk.e)
theorem T_floor_At (f : ApiFloor) (c : Int) (post : (Int × Int × Int) → Prop) (hm : V_floor_At f c post) :
    Tr Tryz.prog 118 [.agg (eApiFloor f), .i c] [] 0 (fun A H' k => ∃ y, post y ∧ A = (.tup [.i y.1, .i y.2.1, .i y.2.2]) ∧ H' = [] ∧ k = 0) := by
 refine Tr.intro (n := 29) Tryz.func118 rfl Tryz.ntmps118 rfl (fun w0 ok F β hβ => ?_)
 unfold V_floor_At at hm
 refine C.seq (U.start ?_)
 refine U.e1 rfl (.none rfl) (by exact Eff1.box rfl rfl rfl rfl rfl) ?_
 refine U.ps 3 T rfl ?_
 refine U.done (C.nx (C.seq (C.seq (U.start ?_))))
 refine U.ps 2 T rfl ?_
 refine U.e rfl (.none rfl) (by exact Eff.k (T_floor_is f c _ hm) en117 rfl rfl rfl (.eq rfl) (fun _ _ => ⟨(.v _), trivial⟩)) (fun x5' hm => ?_)
 obtain ⟨x5⟩ := x5'
 refine U.ps 1 T rfl ?_
 refine U.done (C.nx ?_)
 refine C.ite rfl hm (fun hb6 hm => ?_) (fun hb6 hm => ?_)
 refine C.seq (U.start ?_)
 refine U.ps 3 T rfl ?_
 refine U.done (C.nx (C.ret (C.rt ?_)))
 exact C.f0 T (rs' := [.i ((0, 0, 0).1), .i ((0, 0, 0).2.1), .i ((0, 0, 0).2.2)]) hβ ⟨(0, 0, 0), hm, rfl, rfl, rfl⟩
 refine C.skip (C.nx (C.seq ?_))
 refine D.beg 9999 [0] [] mix rfl rfl (by kernel_rfl) (by repeat (first | exact NoPanicQ.body | exact NoPanicQ.rnd | refine NoPanicQ.th ?_ | refine NoPanicQ.blk ?_)) (fun hQ hS ws M' => ?_)
 refine D.ps 3 [(0, []), (1, []), (2, [])] rfl hQ hS T rfl rfl (by kernel_rfl) ?_
 obtain ⟨hx11, hm⟩ := hm
 refine D.q 3 [] hQ hS rfl (.none rfl) rfl rfl (by exact Rd.rm rfl rfl rfl rfl hx11) rfl (by kernel_rfl) ?_
 refine D.ps 3 [(4, []), (5, []), (6, [])] rfl hQ hS T rfl rfl (by kernel_rfl) ?_
 obtain ⟨hx12, hm⟩ := hm
 refine D.q 7 [] hQ hS rfl (.none rfl) rfl rfl (by exact Rd.dv rfl rfl rfl rfl hx12) rfl (by kernel_rfl) ?_
 refine D.ps 2 [(8, []), (9, [])] rfl hQ hS T rfl rfl (by kernel_rfl) ?_
 obtain ⟨hx13, hm⟩ := hm
 refine D.q 10 [] hQ hS rfl (.none rfl) rfl rfl (by exact Rd.rm rfl rfl rfl rfl hx13) rfl (by kernel_rfl) ?_
 refine D.ps 6 [(11, []), (12, []), (13, []), (14, []), (15, []), (16, [])] rfl hQ hS T rfl rfl (by kernel_rfl) ?_
 obtain ⟨hx14, hm⟩ := hm
 refine D.q 17 [] hQ hS rfl (.none rfl) rfl rfl (by exact Rd.dv rfl rfl rfl rfl hx14) rfl (by kernel_rfl) ?_
 refine D.ps 3 [(18, []), (19, []), (20, [])] rfl hQ hS T rfl rfl (by kernel_rfl) ?_
 refine D.done (by kernel_rfl) ?_
 refine C.nx (C.ret ?_)
 exact C.f0 T (rs' := [.i ((c.tmod f.W, (w64 (c.tdiv f.W)).tmod f.H, w64 (c.tdiv (w64 (f.W * f.H)))).1), .i ((c.tmod f.W, (w64 (c.tdiv f.W)).tmod f.H, w64 (c.tdiv (w64 (f.W * f.H)))).2.1), .i ((c.tmod f.W, (w64 (c.tdiv f.W)).tmod f.H, w64 (c.tdiv (w64 (f.W * f.H)))).2.2)]) hβ ⟨(c.tmod f.W, (w64 (c.tdiv f.W)).tmod f.H, w64 (c.tdiv (w64 (f.W * f.H)))), hm, rfl, rfl, rfl⟩
theorem T_floor_steps (post : Arr6FloorStep → Prop) (hm : V_floor_steps post) :
    Tr Tryz.prog 119 [] [] 0 (fun A H' k => ∃ y, post y ∧ A = (.agg [.i y.e0.x, .i y.e0.y, .i y.e0.z, .i y.e1.x, .i y.e1.y, .i y.e1.z, .i y.e2.x, .i y.e2.y, .i y.e2.z, .i y.e3.x, .i y.e3.y, .i y.e3.z, .i y.e4.x, .i y.e4.y, .i y.e4.z, .i y.e5.x, .i y.e5.y, .i y.e5.z]) ∧ H' = [] ∧ k = 0) := by
 refine Tr.intro (n := 8) Tryz.func119 rfl Tryz.ntmps119 rfl (fun w0 ok F β hβ => ?_)
 unfold V_floor_steps at hm
 refine C.seq (U.start ?_)
 refine U.e1 rfl (.none rfl) (by exact Eff1.al T rfl rfl rfl rfl) ?_
 refine U.done (C.nx (C.seq (U.start ?_)))
 refine U.ps 7 T rfl ?_
 refine U.e1 rfl (.none rfl) (by exact Eff1.st T rfl rfl rfl rfl rfl rfl rfl rfl rfl rfl) ?_
 refine U.done (C.nx (C.ret ?_))
 exact C.f0 T (rs' := [.agg [.i (({ e0 := ({ x := 1, y := 0, z := 0 : FloorStep }), e1 := ({ x := 0, y := 1, z := 0 : FloorStep }), e2 := ({ x := (-1), y := 0, z := 0 : FloorStep }), e3 := ({ x := 0, y := (-1), z := 0 : FloorStep }), e4 := ({ x := 0, y := 0, z := 1 : FloorStep }), e5 := ({ x := 0, y := 0, z := (-1) : FloorStep }) : Arr6FloorStep }).e0.x), .i (({ e0 := ({ x := 1, y := 0, z := 0 : FloorStep }), e1 := ({ x := 0, y := 1, z := 0 : FloorStep }), e2 := ({ x := (-1), y := 0, z := 0 : FloorStep }), e3 := ({ x := 0, y := (-1), z := 0 : FloorStep }), e4 := ({ x := 0, y := 0, z := 1 : FloorStep }), e5 := ({ x := 0, y := 0, z := (-1) : FloorStep }) : Arr6FloorStep }).e0.y), .i (({ e0 := ({ x := 1, y := 0, z := 0 : FloorStep }), e1 := ({ x := 0, y := 1, z := 0 : FloorStep }), e2 := ({ x := (-1), y := 0, z := 0 : FloorStep }), e3 := ({ x := 0, y := (-1), z := 0 : FloorStep }), e4 := ({ x := 0, y := 0, z := 1 : FloorStep }), e5 := ({ x := 0, y := 0, z := (-1) : FloorStep }) : Arr6FloorStep }).e0.z), .i (({ e0 := ({ x := 1, y := 0, z := 0 : FloorStep }), e1 := ({ x := 0, y := 1, z := 0 : FloorStep }), e2 := ({ x := (-1), y := 0, z := 0 : FloorStep }), e3 := ({ x := 0, y := (-1), z := 0 : FloorStep }), e4 := ({ x := 0, y := 0, z := 1 : FloorStep }), e5 := ({ x := 0, y := 0, z := (-1) : FloorStep }) : Arr6FloorStep }).e1.x), .i (({ e0 := ({ x := 1, y := 0, z := 0 : FloorStep }), e1 := ({ x := 0, y := 1, z := 0 : FloorStep }), e2 := ({ x := (-1), y := 0, z := 0 : FloorStep }), e3 := ({ x := 0, y := (-1), z := 0 : FloorStep }), e4 := ({ x := 0, y := 0, z := 1 : FloorStep }), e5 := ({ x := 0, y := 0, z := (-1) : FloorStep }) : Arr6FloorStep }).e1.y), .i (({ e0 := ({ x := 1, y := 0, z := 0 : FloorStep }), e1 := ({ x := 0, y := 1, z := 0 : FloorStep }), e2 := ({ x := (-1), y := 0, z := 0 : FloorStep }), e3 := ({ x := 0, y := (-1), z := 0 : FloorStep }), e4 := ({ x := 0, y := 0, z := 1 : FloorStep }), e5 := ({ x := 0, y := 0, z := (-1) : FloorStep }) : Arr6FloorStep }).e1.z), .i (({ e0 := ({ x := 1, y := 0, z := 0 : FloorStep }), e1 := ({ x := 0, y := 1, z := 0 : FloorStep }), e2 := ({ x := (-1), y := 0, z := 0 : FloorStep }), e3 := ({ x := 0, y := (-1), z := 0 : FloorStep }), e4 := ({ x := 0, y := 0, z := 1 : FloorStep }), e5 := ({ x := 0, y := 0, z := (-1) : FloorStep }) : Arr6FloorStep }).e2.x), .i (({ e0 := ({ x := 1, y := 0, z := 0 : FloorStep }), e1 := ({ x := 0, y := 1, z := 0 : FloorStep }), e2 := ({ x := (-1), y := 0, z := 0 : FloorStep }), e3 := ({ x := 0, y := (-1), z := 0 : FloorStep }), e4 := ({ x := 0, y := 0, z := 1 : FloorStep }), e5 := ({ x := 0, y := 0, z := (-1) : FloorStep }) : Arr6FloorStep }).e2.y), .i (({ e0 := ({ x := 1, y := 0, z := 0 : FloorStep }), e1 := ({ x := 0, y := 1, z := 0 : FloorStep }), e2 := ({ x := (-1), y := 0, z := 0 : FloorStep }), e3 := ({ x := 0, y := (-1), z := 0 : FloorStep }), e4 := ({ x := 0, y := 0, z := 1 : FloorStep }), e5 := ({ x := 0, y := 0, z := (-1) : FloorStep }) : Arr6FloorStep }).e2.z), .i (({ e0 := ({ x := 1, y := 0, z := 0 : FloorStep }), e1 := ({ x := 0, y := 1, z := 0 : FloorStep }), e2 := ({ x := (-1), y := 0, z := 0 : FloorStep }), e3 := ({ x := 0, y := (-1), z := 0 : FloorStep }), e4 := ({ x := 0, y := 0, z := 1 : FloorStep }), e5 := ({ x := 0, y := 0, z := (-1) : FloorStep }) : Arr6FloorStep }).e3.x), .i (({ e0 := ({ x := 1, y := 0, z := 0 : FloorStep }), e1 := ({ x := 0, y := 1, z := 0 : FloorStep }), e2 := ({ x := (-1), y := 0, z := 0 : FloorStep }), e3 := ({ x := 0, y := (-1), z := 0 : FloorStep }), e4 := ({ x := 0, y := 0, z := 1 : FloorStep }), e5 := ({ x := 0, y := 0, z := (-1) : FloorStep }) : Arr6FloorStep }).e3.y), .i (({ e0 := ({ x := 1, y := 0, z := 0 : FloorStep }), e1 := ({ x := 0, y := 1, z := 0 : FloorStep }), e2 := ({ x := (-1), y := 0, z := 0 : FloorStep }), e3 := ({ x := 0, y := (-1), z := 0 : FloorStep }), e4 := ({ x := 0, y := 0, z := 1 : FloorStep }), e5 := ({ x := 0, y := 0, z := (-1) : FloorStep }) : Arr6FloorStep }).e3.z), .i (({ e0 := ({ x := 1, y := 0, z := 0 : FloorStep }), e1 := ({ x := 0, y := 1, z := 0 : FloorStep }), e2 := ({ x := (-1), y := 0, z := 0 : FloorStep }), e3 := ({ x := 0, y := (-1), z := 0 : FloorStep }), e4 := ({ x := 0, y := 0, z := 1 : FloorStep }), e5 := ({ x := 0, y := 0, z := (-1) : FloorStep }) : Arr6FloorStep }).e4.x), .i (({ e0 := ({ x := 1, y := 0, z := 0 : FloorStep }), e1 := ({ x := 0, y := 1, z := 0 : FloorStep }), e2 := ({ x := (-1), y := 0, z := 0 : FloorStep }), e3 := ({ x := 0, y := (-1), z := 0 : FloorStep }), e4 := ({ x := 0, y := 0, z := 1 : FloorStep }), e5 := ({ x := 0, y := 0, z := (-1) : FloorStep }) : Arr6FloorStep }).e4.y), .i (({ e0 := ({ x := 1, y := 0, z := 0 : FloorStep }), e1 := ({ x := 0, y := 1, z := 0 : FloorStep }), e2 := ({ x := (-1), y := 0, z := 0 : FloorStep }), e3 := ({ x := 0, y := (-1), z := 0 : FloorStep }), e4 := ({ x := 0, y := 0, z := 1 : FloorStep }), e5 := ({ x := 0, y := 0, z := (-1) : FloorStep }) : Arr6FloorStep }).e4.z), .i (({ e0 := ({ x := 1, y := 0, z := 0 : FloorStep }), e1 := ({ x := 0, y := 1, z := 0 : FloorStep }), e2 := ({ x := (-1), y := 0, z := 0 : FloorStep }), e3 := ({ x := 0, y := (-1), z := 0 : FloorStep }), e4 := ({ x := 0, y := 0, z := 1 : FloorStep }), e5 := ({ x := 0, y := 0, z := (-1) : FloorStep }) : Arr6FloorStep }).e5.x), .i (({ e0 := ({ x := 1, y := 0, z := 0 : FloorStep }), e1 := ({ x := 0, y := 1, z := 0 : FloorStep }), e2 := ({ x := (-1), y := 0, z := 0 : FloorStep }), e3 := ({ x := 0, y := (-1), z := 0 : FloorStep }), e4 := ({ x := 0, y := 0, z := 1 : FloorStep }), e5 := ({ x := 0, y := 0, z := (-1) : FloorStep }) : Arr6FloorStep }).e5.y), .i (({ e0 := ({ x := 1, y := 0, z := 0 : FloorStep }), e1 := ({ x := 0, y := 1, z := 0 : FloorStep }), e2 := ({ x := (-1), y := 0, z := 0 : FloorStep }), e3 := ({ x := 0, y := (-1), z := 0 : FloorStep }), e4 := ({ x := 0, y := 0, z := 1 : FloorStep }), e5 := ({ x := 0, y := 0, z := (-1) : FloorStep }) : Arr6FloorStep }).e5.z)]]) hβ ⟨({ e0 := ({ x := 1, y := 0, z := 0 : FloorStep }), e1 := ({ x := 0, y := 1, z := 0 : FloorStep }), e2 := ({ x := (-1), y := 0, z := 0 : FloorStep }), e3 := ({ x := 0, y := (-1), z := 0 : FloorStep }), e4 := ({ x := 0, y := 0, z := 1 : FloorStep }), e5 := ({ x := 0, y := 0, z := (-1) : FloorStep }) : Arr6FloorStep }), hm, rfl, rfl, rfl⟩
theorem T_floor_Cell (f : ApiFloor) (x_1 : Int) (y_1 : Int) (z : Int) (post : Int → Prop) (hm : V_floor_Cell f x_1 y_1 z post) :
    Tr Tryz.prog 120 [.agg (eApiFloor f), .i x_1, .i y_1, .i z] [] 0 (fun A H' k => ∃ y, post y ∧ A = (.i y) ∧ H' = [] ∧ k = 0) := by
 refine Tr.intro (n := 43) Tryz.func120 rfl Tryz.ntmps120 rfl (fun w0 ok F β hβ => ?_)
 unfold V_floor_Cell at hm
 refine C.seq (U.start ?_)
 refine U.e1 rfl (.none rfl) (by exact Eff1.box rfl rfl rfl rfl rfl) ?_
 refine U.ps 1 T rfl ?_
 refine U.done (C.nx (C.seq (C.seq ?_)))
 refine C.jn (fun (x3 : Bool) => [(1, .i x_1), (2, .i y_1), (3, .i z), (4, .p 0 0), (31, .b x3)]) (fun (x3 : Bool) => [(0, .box (eApiFloor f))]) 1 hm (fun x3 hm => ?_) (fun J4 hm hJ4 => ?_)
 refine C.nx ?_
 refine C.ite rfl hm (fun hb8 hm => ?_) (fun hb8 hm => ?_)
 refine C.seq (U.start ?_)
 refine U.ps 1 T rfl ?_
 refine U.done (C.nx (C.ret (C.rt ?_)))
 exact C.f0 T (rs' := [.i (-1)]) hβ ⟨(-1), hm, rfl, rfl, rfl⟩
 refine C.skip (C.nx (C.seq (U.start ?_)))
 refine U.ps 12 T rfl ?_
 refine U.done (C.nx (C.ret ?_))
 exact C.f0 T (rs' := [.i (w64 ((w64 ((w64 ((w64 (z * f.H)) + y_1)) * f.W)) + x_1))]) hβ ⟨w64 ((w64 ((w64 ((w64 (z * f.H)) + y_1)) * f.W)) + x_1), hm, rfl, rfl, rfl⟩
 refine U.start ?_
 refine U.ps 6 T rfl ?_
 refine hm.cs (fun hb5 hm => ?_) (fun hb5 hm => ?_)
 refine U.sks 4 5 false 14 hb5 rfl rfl rfl ?_
 refine U.r rfl (.none rfl) rfl rfl (by exact Rd.pk rfl rfl hb5 rfl) ?_
 refine U.ps 1 T rfl ?_
 refine U.sks 4 11 false 20 rfl rfl rfl rfl ?_
 refine U.r rfl (.none rfl) rfl rfl (by exact Rd.pk rfl rfl rfl rfl) ?_
 refine U.ps 1 T rfl ?_
 refine U.sks 4 17 false 26 rfl rfl rfl rfl ?_
 refine U.r rfl (.none rfl) rfl rfl (by exact Rd.pk rfl rfl rfl rfl) ?_
 refine U.done ?_
 exact St.wk (hJ4 _ hm) (Wk.f [some 0] ⟨bX, trivial⟩)
 refine U.pg 4 5 false 14 hb5 T rfl rfl rfl rfl ?_
 refine U.r rfl (.none rfl) rfl rfl (by exact Rd.pk' rfl rfl hb5 rfl) ?_
 refine U.ps 1 T rfl ?_
 refine hm.cs (fun hb6 hm => ?_) (fun hb6 hm => ?_)
 refine U.sks 4 11 false 20 hb6 rfl rfl rfl ?_
 refine U.r rfl (.none rfl) rfl rfl (by exact Rd.pk rfl rfl hb6 rfl) ?_
 refine U.ps 1 T rfl ?_
 refine U.sks 4 17 false 26 rfl rfl rfl rfl ?_
 refine U.r rfl (.none rfl) rfl rfl (by exact Rd.pk rfl rfl rfl rfl) ?_
 refine U.done ?_
 exact St.wk (hJ4 _ hm) (Wk.f [some 0] ⟨bX, trivial⟩)
 refine U.pg 4 11 false 20 hb6 T rfl rfl rfl rfl ?_
 refine U.r rfl (.none rfl) rfl rfl (by exact Rd.pk' rfl rfl hb6 rfl) ?_
 refine U.ps 1 T rfl ?_
 refine hm.cs (fun hb7 hm => ?_) (fun hb7 hm => ?_)
 refine U.sks 4 17 false 26 hb7 rfl rfl rfl ?_
 refine U.r rfl (.none rfl) rfl rfl (by exact Rd.pk rfl rfl hb7 rfl) ?_
 refine U.done ?_
 exact St.wk (hJ4 _ hm) (Wk.f [some 0] ⟨bX, trivial⟩)
 refine U.pg 4 17 false 26 hb7 T rfl rfl rfl rfl ?_
 refine U.r rfl (.none rfl) rfl rfl (by exact Rd.pk' rfl rfl hb7 rfl) ?_
 refine U.done ?_
 exact St.wk (hJ4 _ hm) (Wk.f [some 0] ⟨bX, trivial⟩)
theorem T_floor_beside (f : ApiFloor) (c : Int) (d : Int) (post : Int → Prop) (hm : V_floor_beside f c d post) :
    Tr Tryz.prog 53 [.agg (eApiFloor f), .i c, .i d] [] 0 (fun A H' k => ∃ y, post y ∧ A = (.i y) ∧ H' = [] ∧ k = 0) := by
 refine Tr.intro (n := 47) Tryz.func53 rfl Tryz.ntmps53 rfl (fun w0 ok F β hβ => ?_)
 unfold V_floor_beside at hm
 refine C.seq (U.start ?_)
 refine U.e1 rfl (.none rfl) (by exact Eff1.box rfl rfl rfl rfl rfl) ?_
 refine U.ps 1 T rfl ?_
 refine U.done (C.nx (C.seq (C.seq ?_)))
 refine C.jn (fun (x3 : Bool) => [(1, .i c), (2, .i d), (3, .p 0 0), (22, .b x3)]) (fun (x3 : Bool) => [(0, .box (eApiFloor f))]) 1 hm (fun x3 hm => ?_) (fun J4 hm hJ4 => ?_)
 refine C.nx ?_
 refine C.ite rfl hm (fun hb8 hm => ?_) (fun hb8 hm => ?_)
 refine C.seq (U.start ?_)
 refine U.ps 1 T rfl ?_
 refine U.done (C.nx (C.ret (C.rt ?_)))
 exact C.f0 T (rs' := [.i (-1)]) hβ ⟨(-1), hm, rfl, rfl, rfl⟩
 refine C.skip (C.nx (C.seq (U.start ?_)))
 refine U.ps 2 T rfl ?_
 refine U.e rfl (.none rfl) (by exact Eff.k (T_floor_At f c _ hm) en118 rfl rfl rfl (.eq rfl) (fun _ _ => ⟨(.tup (.cons (.v _) (.cons (.v _) (.cons (.v _) .nil)))), trivial⟩)) (fun x13' hm => ?_)
 obtain ⟨x13⟩ := x13'
 refine U.ps 7 T rfl ?_
 refine U.done (C.nx (C.seq (U.start ?_)))
 refine U.e rfl (.none rfl) (by exact Eff.k (T_floor_steps _ hm) en119 rfl rfl rfl (.eq rfl) (fun _ _ => ⟨(.agg (.cons (.v _) (.cons (.v _) (.cons (.v _) (.cons (.v _) (.cons (.v _) (.cons (.v _) (.cons (.v _) (.cons (.v _) (.cons (.v _) (.cons (.v _) (.cons (.v _) (.cons (.v _) (.cons (.v _) (.cons (.v _) (.cons (.v _) (.cons (.v _) (.cons (.v _) (.cons (.v _) .nil))))))))))))))))))), trivial⟩)) (fun x16' hm => ?_)
 obtain ⟨x16⟩ := x16'
 refine U.ps 1 T rfl ?_
 obtain ⟨x17, hx17, hm⟩ := hm
 refine U.r rfl (.none rfl) rfl rfl (by exact Rd.ia T (enc := eFloorStep) rfl rfl rfl rfl rfl rfl rfl rfl rfl (fun _ _ => rfl) hx17) ?_
 refine U.e1 rfl (.none rfl) (by exact Eff1.al T rfl rfl rfl rfl) ?_
 refine U.e1 rfl (.none rfl) (by exact Eff1.st T rfl rfl rfl rfl rfl rfl rfl rfl rfl rfl) ?_
 refine U.done (C.nx (C.seq (U.start ?_)))
 refine U.ps 13 T rfl ?_
 refine U.e rfl (.none rfl) (by exact Eff.k (T_floor_Cell f (w64 (x13.1 + x17.x)) (w64 (x13.2.1 + x17.y)) (w64 (x13.2.2 + x17.z)) _ hm) en120 rfl rfl rfl (.eq rfl) (fun _ _ => ⟨(.v _), trivial⟩)) (fun x20' hm => ?_)
 obtain ⟨x20⟩ := x20'
 refine U.ps 1 T rfl ?_
 refine U.done (C.nx (C.ret ?_))
 exact C.f0 T (rs' := [.i x20]) hβ ⟨x20, hm, rfl, rfl, rfl⟩
 refine U.start ?_
 refine U.ps 2 T rfl ?_
 refine U.e rfl (.none rfl) (by exact Eff.k (T_floor_is f c _ hm) en117 rfl rfl rfl (.eq rfl) (fun _ _ => ⟨(.v _), trivial⟩)) (fun x5' hm => ?_)
 obtain ⟨x5⟩ := x5'
 refine U.ps 2 T rfl ?_
 refine hm.cs (fun hb6 hm => ?_) (fun hb6 hm => ?_)
 refine U.pg 2 4 false 15 (ntF hb6) T rfl rfl rfl rfl ?_
 refine U.r rfl (.none rfl) rfl rfl (by exact Rd.pk' rfl rfl (ntF hb6) rfl) ?_
 refine U.ps 1 T rfl ?_
 refine hm.cs (fun hb7 hm => ?_) (fun hb7 hm => ?_)
 refine U.sks 2 8 false 19 hb7 rfl rfl rfl ?_
 refine U.r rfl (.none rfl) rfl rfl (by exact Rd.pk rfl rfl hb7 rfl) ?_
 refine U.done ?_
 exact St.wk (hJ4 _ hm) (Wk.f [some 0] ⟨bX, trivial⟩)
 refine U.pg 2 8 false 19 hb7 T rfl rfl rfl rfl ?_
 refine U.r rfl (.none rfl) rfl rfl (by exact Rd.pk' rfl rfl hb7 rfl) ?_
 refine U.done ?_
 exact St.wk (hJ4 _ hm) (Wk.f [some 0] ⟨bX, trivial⟩)
 refine U.sks 2 4 false 15 (ntT hb6) rfl rfl rfl ?_
 refine U.r rfl (.none rfl) rfl rfl (by exact Rd.pk rfl rfl (ntT hb6) rfl) ?_
 refine U.ps 1 T rfl ?_
 refine U.sks 2 8 false 19 rfl rfl rfl rfl ?_
 refine U.r rfl (.none rfl) rfl rfl (by exact Rd.pk rfl rfl rfl rfl) ?_
 refine U.done ?_
 exact St.wk (hJ4 _ hm) (Wk.f [some 0] ⟨bX, trivial⟩)
theorem T_floor_Next (f : ApiFloor) (c : Int) (d : Int) (post : (Int × Bool) → Prop) (hm : V_floor_Next f c d post) :
    Tr Tryz.prog 19 [.agg (eApiFloor f), .i c, .i d] [] 0 (fun A H' k => ∃ y, post y ∧ A = (.tup [.i y.1, .b y.2]) ∧ H' = [] ∧ k = 0) := by
 refine Tr.intro (n := 65) Tryz.func19 rfl Tryz.ntmps19 rfl (fun w0 ok F β hβ => ?_)
 unfold V_floor_Next at hm
 refine C.seq (U.start ?_)
 refine U.e1 rfl (.none rfl) (by exact Eff1.box rfl rfl rfl rfl rfl) ?_
 refine U.ps 2 T rfl ?_
 refine U.done (C.nx (C.seq (U.start ?_)))
 refine U.ps 3 T rfl ?_
 refine U.e rfl (.none rfl) (by exact Eff.k (T_floor_beside f c d _ hm) en53 rfl rfl rfl (.eq rfl) (fun _ _ => ⟨(.v _), trivial⟩)) (fun x5' hm => ?_)
 obtain ⟨x5⟩ := x5'
 refine U.ps 1 T rfl ?_
 refine U.done (C.nx (C.seq (C.seq ?_)))
 refine C.jn (fun (x6 : Bool) => [(1, .i c), (2, .i d), (3, .p 0 0), (8, .i x5), (41, .b x6)]) (fun (x6 : Bool) => [(0, .box (eApiFloor f))]) 1 hm (fun x6 hm => ?_) (fun J7 hm hJ7 => ?_)
 refine C.nx ?_
 refine C.ite rfl hm (fun hb15 hm => ?_) (fun hb15 hm => ?_)
 refine C.seq (U.start ?_)
 refine U.ps 2 T rfl ?_
 refine U.done (C.nx (C.ret (C.rt ?_)))
 exact C.f0 T (rs' := [.i ((0, false).1), .b ((0, false).2)]) hβ ⟨(0, false), hm, rfl, rfl, rfl⟩
 refine C.skip (C.nx (C.seq (C.seq ?_)))
 refine C.jn (fun (x18 : Bool) => [(8, .i x5), (63, .b x18)]) (fun (x18 : Bool) => []) 0 hm (fun x18 hm => ?_) (fun J19 hm hJ19 => ?_)
 refine C.nx ?_
 refine C.ite rfl hm (fun hb28 hm => ?_) (fun hb28 hm => ?_)
 refine C.seq (U.start ?_)
 refine U.ps 2 T rfl ?_
 refine U.done (C.nx (C.ret (C.rt ?_)))
 exact C.f0 T (rs' := [.i ((0, false).1), .b ((0, false).2)]) hβ ⟨(0, false), hm, rfl, rfl, rfl⟩
 refine C.skip (C.nx (C.seq (U.start ?_)))
 refine U.ps 3 T rfl ?_
 refine U.done (C.nx (C.ret ?_))
 exact C.f0 T (rs' := [.i ((x5, true).1), .b ((x5, true).2)]) hβ ⟨(x5, true), hm, rfl, rfl, rfl⟩
 refine U.start ?_
 refine U.ps 3 T rfl ?_
 refine hm.cs (fun hb20 hm => ?_) (fun hb20 hm => ?_)
 refine U.sks 2 2 false 44 hb20 rfl rfl rfl ?_
 refine U.r rfl (.none rfl) rfl rfl (by exact Rd.pk rfl rfl hb20 rfl) ?_
 refine U.ps 1 T rfl ?_
 refine U.pg 3 6 true 48 rfl T rfl rfl rfl rfl ?_
 obtain ⟨x21, hx21, hm⟩ := hm
 refine U.r rfl (.take 6 true 48 _ rfl rfl rfl rfl) rfl rfl (by exact Rd.ix T rfl rfl rfl rfl rfl rfl hx21) ?_
 refine U.pg 3 6 true 48 rfl T rfl rfl rfl rfl ?_
 refine hm.cs (fun hb22 hm => ?_) (fun hb22 hm => ?_)
 refine U.sks 6 13 false 55 hb22 rfl rfl rfl ?_
 refine U.r rfl (.take 6 true 48 _ rfl rfl rfl rfl) rfl rfl (by exact Rd.pk rfl rfl hb22 rfl) ?_
 refine U.r rfl (.none rfl) rfl rfl (by exact Rd.pk rfl rfl rfl rfl) ?_
 refine U.done ?_
 exact St.wk (hJ19 _ hm) (Wk.e)
 refine U.pg 3 13 false 55 hb22 T rfl rfl rfl rfl ?_
 obtain ⟨x23, hx23, hm⟩ := hm
 refine U.r rfl (.take 13 false 55 _ hb22 rfl rfl rfl) rfl rfl (by exact Rd.ix T rfl rfl rfl rfl rfl rfl hx23) ?_
 refine U.pg 2 13 false 55 hb22 T rfl rfl rfl rfl ?_
 refine U.r rfl (.take 6 true 48 _ rfl rfl rfl rfl) rfl rfl (by exact Rd.pk' rfl rfl hb22 rfl) ?_
 refine U.r rfl (.none rfl) rfl rfl (by exact Rd.pk rfl rfl rfl rfl) ?_
 refine U.done ?_
 exact St.wk (hJ19 _ hm) (Wk.e)
 refine U.pg 2 2 false 44 hb20 T rfl rfl rfl rfl ?_
 refine U.r rfl (.none rfl) rfl rfl (by exact Rd.pk' rfl rfl hb20 rfl) ?_
 refine U.ps 1 T rfl ?_
 refine hm.cs (fun hb24 hm => ?_) (fun hb24 hm => ?_)
 refine U.pg 3 6 true 48 hb24 T rfl rfl rfl rfl ?_
 obtain ⟨x25, hx25, hm⟩ := hm
 refine U.r rfl (.take 6 true 48 _ hb24 rfl rfl rfl) rfl rfl (by exact Rd.ix T rfl rfl rfl rfl rfl rfl hx25) ?_
 refine U.pg 3 6 true 48 hb24 T rfl rfl rfl rfl ?_
 refine hm.cs (fun hb26 hm => ?_) (fun hb26 hm => ?_)
 refine U.sks 6 13 false 55 hb26 rfl rfl rfl ?_
 refine U.r rfl (.take 6 true 48 _ hb24 rfl rfl rfl) rfl rfl (by exact Rd.pk rfl rfl hb26 rfl) ?_
 refine U.r rfl (.none rfl) rfl rfl (by exact Rd.pk rfl rfl hb24 rfl) ?_
 refine U.done ?_
 exact St.wk (hJ19 _ hm) (Wk.e)
 refine U.pg 3 13 false 55 hb26 T rfl rfl rfl rfl ?_
 obtain ⟨x27, hx27, hm⟩ := hm
 refine U.r rfl (.take 13 false 55 _ hb26 rfl rfl rfl) rfl rfl (by exact Rd.ix T rfl rfl rfl rfl rfl rfl hx27) ?_
 refine U.pg 2 13 false 55 hb26 T rfl rfl rfl rfl ?_
 refine U.r rfl (.take 6 true 48 _ hb24 rfl rfl rfl) rfl rfl (by exact Rd.pk' rfl rfl hb26 rfl) ?_
 refine U.r rfl (.none rfl) rfl rfl (by exact Rd.pk rfl rfl hb24 rfl) ?_
 refine U.done ?_
 exact St.wk (hJ19 _ hm) (Wk.e)
 refine U.sks 7 6 true 48 hb24 rfl rfl rfl ?_
 refine U.sku 6 13 false 55 rfl rfl rfl ?_
 refine U.sks 1 6 true 48 hb24 rfl rfl rfl ?_
 refine U.r rfl (.none rfl) rfl rfl (by exact Rd.pk' rfl rfl hb24 rfl) ?_
 refine U.done ?_
 exact St.wk (hJ19 _ hm) (Wk.e)
 refine U.start ?_
 refine U.ps 3 T rfl ?_
 refine hm.cs (fun hb8 hm => ?_) (fun hb8 hm => ?_)
 refine U.sks 6 2 false 15 hb8 rfl rfl rfl ?_
 refine U.r rfl (.none rfl) rfl rfl (by exact Rd.pk rfl rfl hb8 rfl) ?_
 refine U.ps 1 T rfl ?_
 refine U.sks 6 10 false 23 rfl rfl rfl rfl ?_
 refine U.r rfl (.none rfl) rfl rfl (by exact Rd.pk rfl rfl rfl rfl) ?_
 refine U.ps 1 T rfl ?_
 refine U.sks 9 18 false 31 rfl rfl rfl rfl ?_
 refine U.r rfl (.none rfl) rfl rfl (by exact Rd.pk rfl rfl rfl rfl) ?_
 refine U.done ?_
 exact St.wk (hJ7 _ hm) (Wk.f [some 0] ⟨bX, trivial⟩)
 refine U.pg 3 2 false 15 hb8 T rfl rfl rfl rfl ?_
 obtain ⟨x9, hx9, hm⟩ := hm
 refine U.r rfl (.take 2 false 15 _ hb8 rfl rfl rfl) rfl rfl (by exact Rd.ix T rfl rfl rfl rfl rfl rfl hx9) ?_
 refine U.pg 2 2 false 15 hb8 T rfl rfl rfl rfl ?_
 refine U.r rfl (.none rfl) rfl rfl (by exact Rd.pk' rfl rfl hb8 rfl) ?_
 refine U.ps 1 T rfl ?_
 refine hm.cs (fun hb10 hm => ?_) (fun hb10 hm => ?_)
 refine U.sks 6 10 false 23 hb10 rfl rfl rfl ?_
 refine U.r rfl (.none rfl) rfl rfl (by exact Rd.pk rfl rfl hb10 rfl) ?_
 refine U.ps 1 T rfl ?_
 refine U.sks 9 18 false 31 rfl rfl rfl rfl ?_
 refine U.r rfl (.none rfl) rfl rfl (by exact Rd.pk rfl rfl rfl rfl) ?_
 refine U.done ?_
 exact St.wk (hJ7 _ hm) (Wk.f [some 0] ⟨bX, trivial⟩)
 refine U.pg 3 10 false 23 hb10 T rfl rfl rfl rfl ?_
 obtain ⟨x11, hx11, hm⟩ := hm
 refine U.r rfl (.take 10 false 23 _ hb10 rfl rfl rfl) rfl rfl (by exact Rd.ix T rfl rfl rfl rfl rfl rfl hx11) ?_
 refine U.pg 2 10 false 23 hb10 T rfl rfl rfl rfl ?_
 refine U.r rfl (.none rfl) rfl rfl (by exact Rd.pk' rfl rfl hb10 rfl) ?_
 refine U.ps 1 T rfl ?_
 refine hm.cs (fun hb12 hm => ?_) (fun hb12 hm => ?_)
 refine U.sks 9 18 false 31 hb12 rfl rfl rfl ?_
 refine U.r rfl (.none rfl) rfl rfl (by exact Rd.pk rfl rfl hb12 rfl) ?_
 refine U.done ?_
 exact St.wk (hJ7 _ hm) (Wk.f [some 0] ⟨bX, trivial⟩)
 refine U.pg 3 18 false 31 hb12 T rfl rfl rfl rfl ?_
 obtain ⟨x13, hx13, hm⟩ := hm
 refine U.r rfl (.take 18 false 31 _ hb12 rfl rfl rfl) rfl rfl (by exact Rd.ix T rfl rfl rfl rfl rfl rfl hx13) ?_
 refine U.pg 2 18 false 31 hb12 T rfl rfl rfl rfl ?_
 obtain ⟨hx14, hm⟩ := hm
 refine U.r rfl (.take 18 false 31 _ hb12 rfl rfl rfl) rfl rfl (by exact Rd.sh rfl rfl rfl rfl hx14) ?_
 refine U.pg 2 18 false 31 hb12 T rfl rfl rfl rfl ?_
 refine U.r rfl (.none rfl) rfl rfl (by exact Rd.pk' rfl rfl hb12 rfl) ?_
 refine U.done ?_
 exact St.wk (hJ7 _ hm) (Wk.f [some 0] ⟨bX, trivial⟩)
theorem T_slices_Index_int_int (s_1 : List Int) (v : Int) (post : Int → Prop) (hm : V_slices_Index_int_int s_1 v post) :
    Tr Tryz.prog 143 [.sl 1 eI s_1, .i v] [] 0 (fun A H' k => ∃ y, post y ∧ A = (.i y) ∧ H' = [] ∧ k = 0) := by
 refine Tr.intro (n := 19) Tryz.func143 rfl Tryz.ntmps143 rfl (fun w0 ok F β hβ => ?_)
 unfold V_slices_Index_int_int at hm
 refine C.seq (U.start ?_)
 refine U.ps 1 T rfl ?_
 refine U.done (C.nx (C.seq (C.seq (U.start ?_))))
 refine U.ps 3 T rfl ?_
 refine U.done (C.nx ?_)
 refine C.jn (fun (x5 : Unit) => []) (fun (x5 : Unit) => []) 0 hm (fun x5 hm => ?_) (fun J6 hm hJ6 => ?_)
 refine C.nx (C.seq (U.start ?_))
 refine U.ps 1 T rfl ?_
 refine U.done (C.nx (C.ret ?_))
 exact C.f0 T (rs' := [.i (-1)]) hβ ⟨(-1), hm, rfl, rfl, rfl⟩
 refine C.block ?_
 refine St.wk (C.loop (fun (s7 : Int) => [(0, .sl 1 eI s_1), (1, .i v), (7, .i (s_1.length : Int)), (8, .i s7)]) (fun (s7 : Int) => []) hm (fun s7 Y8 hm => ?_)) (Wk.e)
 refine C.seq (U.start ?_)
 refine U.ps 1 T rfl ?_
 refine U.done (C.nx (C.seq ?_))
 refine C.ite rfl hm (fun hb11 hm => ?_) (fun hb11 hm => ?_)
 refine C.skip (C.nx (C.seq (C.block (C.seq (U.start ?_)))))
 refine U.ps 2 T rfl ?_
 refine U.done (C.nx (C.seq (U.start ?_)))
 refine U.ps 3 T rfl ?_
 obtain ⟨x16, hx16, hm⟩ := hm
 refine U.r rfl (.none rfl) rfl rfl (by exact Rd.ix T rfl rfl rfl rfl rfl rfl hx16) ?_
 refine U.ps 2 T rfl ?_
 refine U.done (C.nx ?_)
 refine C.ite rfl hm (fun hb17 hm => ?_) (fun hb17 hm => ?_)
 refine C.seq (U.start ?_)
 refine U.ps 2 T rfl ?_
 refine U.done (C.nx (C.ret (C.brt (C.rt (C.rt (C.brt (C.rt ?_)))))))
 exact C.f0 T (rs' := [.i s7]) hβ ⟨s7, hm, rfl, rfl, rfl⟩
 refine C.skip (C.bnx (C.nx (U.start ?_)))
 refine U.ps 2 T rfl ?_
 refine U.done (C.nx ?_)
 exact St.wk (C.next hm) (Wk.e)
 refine C.exit (C.ex (C.ex (C.bex ?_)))
 exact St.wk (hJ6 _ hm) (Wk.mk' [] rfl rfl trivial trivial rfl)
theorem T_slices_Contains_int_int (s_1 : List Int) (v : Int) (post : Bool → Prop) (hm : V_slices_Contains_int_int s_1 v post) :
    Tr Tryz.prog 94 [.sl 1 eI s_1, .i v] [] 0 (fun A H' k => ∃ y, post y ∧ A = (.b y) ∧ H' = [] ∧ k = 0) := by
 refine Tr.intro (n := 9) Tryz.func94 rfl Tryz.ntmps94 rfl (fun w0 ok F β hβ => ?_)
 unfold V_slices_Contains_int_int at hm
 refine C.seq (U.start ?_)
 refine U.ps 1 T rfl ?_
 refine U.done (C.nx (C.seq (U.start ?_)))
 refine U.ps 2 T rfl ?_
 refine U.e rfl (.none rfl) (by exact Eff.k (T_slices_Index_int_int s_1 v _ hm) en143 rfl rfl rfl (.eq rfl) (fun _ _ => ⟨(.v _), trivial⟩)) (fun x5' hm => ?_)
 obtain ⟨x5⟩ := x5'
 refine U.ps 2 T rfl ?_
 refine U.done (C.nx (C.ret ?_))
 exact C.f0 T (rs' := [.b (decide (x5 ≥ 0))]) hβ ⟨decide (x5 ≥ 0), hm, rfl, rfl, rfl⟩
theorem T_act_move_1 (x_1 : ApiStuck) (c0 : ApiRobot) (c1 : Int) (post : Bool → Prop) (hm : V_act_move_1 x_1 c0 c1 post) :
    Tr Tryz.prog 95 [.agg [.i x_1.Cell, .i x_1.Left], .rp [.i c0.Cell, .i c0.Load, .i c0.Charge, .i c0.Rest, .i c0.Mute, .b c0.Dead], .rp [.i c1]] [] 0 (fun A H' k => ∃ y, post y ∧ A = (.b y) ∧ H' = [] ∧ k = 0) := by
 refine Tr.intro (n := 16) Tryz.func95 rfl Tryz.ntmps95 rfl (fun w0 ok F β hβ => ?_)
 unfold V_act_move_1 at hm
 refine C.seq (U.start ?_)
 refine U.e1 rfl (.none rfl) (by exact Eff1.box rfl rfl rfl rfl rfl) ?_
 refine U.ps 1 T rfl ?_
 refine U.done (C.nx (C.seq ?_))
 refine C.jn (fun (x3 : Bool) => [(4, .b x3)]) (fun (x3 : Bool) => []) 0 hm (fun x3 hm => ?_) (fun J4 hm hJ4 => ?_)
 refine C.nx (C.ret ?_)
 exact C.f0 T (rs' := [.b x3]) hβ ⟨x3, hm, rfl, rfl, rfl⟩
 refine U.start ?_
 refine U.ps 6 T rfl ?_
 refine hm.cs (fun hb5 hm => ?_) (fun hb5 hm => ?_)
 refine U.sks 4 5 false 10 hb5 rfl rfl rfl ?_
 refine U.r rfl (.none rfl) rfl rfl (by exact Rd.pk rfl rfl hb5 rfl) ?_
 refine U.ps 1 T rfl ?_
 refine U.done ?_
 exact St.wk (hJ4 _ hm) (Wk.e)
 refine U.pg 4 5 false 10 hb5 T rfl rfl rfl rfl ?_
 refine U.r rfl (.none rfl) rfl rfl (by exact Rd.pk' rfl rfl hb5 rfl) ?_
 refine U.ps 1 T rfl ?_
 refine U.done ?_
 exact St.wk (hJ4 _ hm) (Wk.e)
theorem T_slices_IndexFunc_api_Stuck_api_Stuck__act_move_1 (s_1 : List ApiStuck) (f_c0 : ApiRobot) (f_c1 : Int) (post : Int → Prop) (hm : V_slices_IndexFunc_api_Stuck_api_Stuck__act_move_1 s_1 f_c0 f_c1 post) :
    Tr Tryz.prog 144 [.sl 2 eApiStuck s_1, .fn (.func 95) [] [.rp [.i f_c0.Cell, .i f_c0.Load, .i f_c0.Charge, .i f_c0.Rest, .i f_c0.Mute, .b f_c0.Dead], .rp [.i f_c1]]] [] 0 (fun A H' k => ∃ y, post y ∧ A = (.i y) ∧ H' = [] ∧ k = 0) := by
 refine Tr.intro (n := 19) Tryz.func144 rfl Tryz.ntmps144 rfl (fun w0 ok F β hβ => ?_)
 unfold V_slices_IndexFunc_api_Stuck_api_Stuck__act_move_1 at hm
 refine C.seq (U.start ?_)
 refine U.ps 1 T rfl ?_
 refine U.done (C.nx (C.seq (C.seq (U.start ?_))))
 refine U.ps 3 T rfl ?_
 refine U.done (C.nx ?_)
 refine C.jn (fun (x5 : Unit) => []) (fun (x5 : Unit) => []) 0 hm (fun x5 hm => ?_) (fun J6 hm hJ6 => ?_)
 refine C.nx (C.seq (U.start ?_))
 refine U.ps 1 T rfl ?_
 refine U.done (C.nx (C.ret ?_))
 exact C.f0 T (rs' := [.i (-1)]) hβ ⟨(-1), hm, rfl, rfl, rfl⟩
 refine C.block ?_
 refine St.wk (C.loop (fun (s7 : Int) => [(0, .sl 2 eApiStuck s_1), (1, .fn (.func 95) [] [.rp [.i f_c0.Cell, .i f_c0.Load, .i f_c0.Charge, .i f_c0.Rest, .i f_c0.Mute, .b f_c0.Dead], .rp [.i f_c1]]), (7, .i (s_1.length : Int)), (8, .i s7)]) (fun (s7 : Int) => []) hm (fun s7 Y8 hm => ?_)) (Wk.e)
 refine C.seq (U.start ?_)
 refine U.ps 1 T rfl ?_
 refine U.done (C.nx (C.seq ?_))
 refine C.ite rfl hm (fun hb11 hm => ?_) (fun hb11 hm => ?_)
 refine C.skip (C.nx (C.seq (C.block (C.seq (U.start ?_)))))
 refine U.ps 2 T rfl ?_
 refine U.done (C.nx (C.seq (U.start ?_)))
 refine U.ps 3 T rfl ?_
 obtain ⟨x16, hx16, hm⟩ := hm
 refine U.r rfl (.none rfl) rfl rfl (by exact Rd.ix T rfl rfl rfl rfl rfl rfl hx16) ?_
 refine U.ps 1 T rfl ?_
 refine U.e rfl (.none rfl) (by exact Eff.k (T_act_move_1 x16 f_c0 f_c1 _ hm) en95 rfl rfl rfl (.eq rfl) (fun _ _ => ⟨(.v _), trivial⟩)) (fun x17' hm => ?_)
 obtain ⟨x17⟩ := x17'
 refine U.done (C.nx ?_)
 refine C.ite rfl hm (fun hb18 hm => ?_) (fun hb18 hm => ?_)
 refine C.seq (U.start ?_)
 refine U.ps 2 T rfl ?_
 refine U.done (C.nx (C.ret (C.brt (C.rt (C.rt (C.brt (C.rt ?_)))))))
 exact C.f0 T (rs' := [.i s7]) hβ ⟨s7, hm, rfl, rfl, rfl⟩
 refine C.skip (C.bnx (C.nx (U.start ?_)))
 refine U.ps 2 T rfl ?_
 refine U.done (C.nx ?_)
 exact St.wk (C.next hm) (Wk.e)
 refine C.exit (C.ex (C.ex (C.bex ?_)))
 exact St.wk (hJ6 _ hm) (Wk.mk' [] rfl rfl trivial trivial rfl)
theorem T_slices_ContainsFunc_api_Stuck_api_Stuck__act_move_1 (s_1 : List ApiStuck) (f_c0 : ApiRobot) (f_c1 : Int) (post : Bool → Prop) (hm : V_slices_ContainsFunc_api_Stuck_api_Stuck__act_move_1 s_1 f_c0 f_c1 post) :
    Tr Tryz.prog 96 [.sl 2 eApiStuck s_1, .fn (.func 95) [] [.rp [.i f_c0.Cell, .i f_c0.Load, .i f_c0.Charge, .i f_c0.Rest, .i f_c0.Mute, .b f_c0.Dead], .rp [.i f_c1]]] [] 0 (fun A H' k => ∃ y, post y ∧ A = (.b y) ∧ H' = [] ∧ k = 0) := by
 refine Tr.intro (n := 9) Tryz.func96 rfl Tryz.ntmps96 rfl (fun w0 ok F β hβ => ?_)
 unfold V_slices_ContainsFunc_api_Stuck_api_Stuck__act_move_1 at hm
 refine C.seq (U.start ?_)
 refine U.ps 1 T rfl ?_
 refine U.done (C.nx (C.seq (U.start ?_)))
 refine U.ps 2 T rfl ?_
 refine U.e rfl (.none rfl) (by exact Eff.k (T_slices_IndexFunc_api_Stuck_api_Stuck__act_move_1 s_1 f_c0 f_c1 _ hm) en144 rfl rfl rfl (.eq rfl) (fun _ _ => ⟨(.v _), trivial⟩)) (fun x5' hm => ?_)
 obtain ⟨x5⟩ := x5'
 refine U.ps 2 T rfl ?_
 refine U.done (C.nx (C.ret ?_))
 exact C.f0 T (rs' := [.b (decide (x5 ≥ 0))]) hβ ⟨decide (x5 ≥ 0), hm, rfl, rfl, rfl⟩
theorem T_cmp_isNaN_int (x_1 : Int) (post : Bool → Prop) (hm : V_cmp_isNaN_int x_1 post) :
    Tr Tryz.prog 175 [.i x_1] [] 0 (fun A H' k => ∃ y, post y ∧ A = (.b y) ∧ H' = [] ∧ k = 0) := by
 refine Tr.intro (n := 6) Tryz.func175 rfl Tryz.ntmps175 rfl (fun w0 ok F β hβ => ?_)
 unfold V_cmp_isNaN_int at hm
 refine C.seq (U.start ?_)
 refine U.ps 1 T rfl ?_
 refine U.done (C.nx (C.seq (U.start ?_)))
 refine U.ps 4 T rfl ?_
 refine U.done (C.nx (C.ret ?_))
 exact C.f0 T (rs' := [.b (x_1 != x_1)]) hβ ⟨(x_1 != x_1), hm, rfl, rfl, rfl⟩
theorem T_cmp_Less_int (x_1 : Int) (y_1 : Int) (post : Bool → Prop) (hm : V_cmp_Less_int x_1 y_1 post) :
    Tr Tryz.prog 155 [.i x_1, .i y_1] [] 0 (fun A H' k => ∃ y, post y ∧ A = (.b y) ∧ H' = [] ∧ k = 0) := by
 refine Tr.intro (n := 17) Tryz.func155 rfl Tryz.ntmps155 rfl (fun w0 ok F β hβ => ?_)
 unfold V_cmp_Less_int at hm
 refine C.seq (U.start ?_)
 refine U.ps 1 T rfl ?_
 refine U.done (C.nx (C.seq ?_))
 refine C.jn (fun (x3 : Bool) => [(4, .b x3)]) (fun (x3 : Bool) => []) 0 hm (fun x3 hm => ?_) (fun J4 hm hJ4 => ?_)
 refine C.nx (C.ret ?_)
 exact C.f0 T (rs' := [.b x3]) hβ ⟨x3, hm, rfl, rfl, rfl⟩
 refine U.start ?_
 refine U.ps 1 T rfl ?_
 refine U.e rfl (.none rfl) (by exact Eff.k (T_cmp_isNaN_int x_1 _ hm) en175 rfl rfl rfl (.eq rfl) (fun _ _ => ⟨(.v _), trivial⟩)) (fun x5' hm => ?_)
 obtain ⟨x5⟩ := x5'
 refine U.ps 1 T rfl ?_
 refine hm.cs (fun hb6 hm => ?_) (fun hb6 hm => ?_)
 refine U.pg 1 2 true 7 hb6 T rfl rfl rfl rfl ?_
 refine U.e rfl (.take 2 true 7 _ hb6 rfl rfl rfl) (by exact Eff.k (T_cmp_isNaN_int y_1 _ hm) en175 rfl rfl rfl (.eq rfl) (fun _ _ => ⟨(.v _), trivial⟩)) (fun x7' hm => ?_)
 obtain ⟨x7⟩ := x7'
 refine U.pg 1 2 true 7 hb6 T rfl rfl rfl rfl ?_
 refine U.r rfl (.none rfl) rfl rfl (by exact Rd.pk rfl rfl hb6 rfl) ?_
 refine U.ps 1 T rfl ?_
 refine hm.cs (fun hb8 hm => ?_) (fun hb8 hm => ?_)
 refine U.pg 3 7 false 12 (ntF hb8) T rfl rfl rfl rfl ?_
 refine U.r rfl (.none rfl) rfl rfl (by exact Rd.pk' rfl rfl (ntF hb8) rfl) ?_
 refine U.ps 1 T rfl ?_
 refine U.done ?_
 exact St.wk (hJ4 _ hm) (Wk.e)
 refine U.sks 3 7 false 12 (ntT hb8) rfl rfl rfl ?_
 refine U.r rfl (.none rfl) rfl rfl (by exact Rd.pk rfl rfl (ntT hb8) rfl) ?_
 refine U.ps 1 T rfl ?_
 refine U.done ?_
 exact St.wk (hJ4 _ hm) (Wk.e)
 refine U.sks 3 2 true 7 hb6 rfl rfl rfl ?_
 refine U.r rfl (.none rfl) rfl rfl (by exact Rd.pk' rfl rfl hb6 rfl) ?_
 refine U.ps 1 T rfl ?_
 refine U.pg 3 7 false 12 rfl T rfl rfl rfl rfl ?_
 refine U.r rfl (.none rfl) rfl rfl (by exact Rd.pk' rfl rfl rfl rfl) ?_
 refine U.ps 1 T rfl ?_
 refine U.done ?_
 exact St.wk (hJ4 _ hm) (Wk.e)
theorem T_slices_isNaN_int (x_1 : Int) (post : Bool → Prop) (hm : V_slices_isNaN_int x_1 post) :
    Tr Tryz.prog 162 [.i x_1] [] 0 (fun A H' k => ∃ y, post y ∧ A = (.b y) ∧ H' = [] ∧ k = 0) := by
 refine Tr.intro (n := 6) Tryz.func162 rfl Tryz.ntmps162 rfl (fun w0 ok F β hβ => ?_)
 unfold V_slices_isNaN_int at hm
 refine C.seq (U.start ?_)
 refine U.ps 1 T rfl ?_
 refine U.done (C.nx (C.seq (U.start ?_)))
 refine U.ps 4 T rfl ?_
 refine U.done (C.nx (C.ret ?_))
 exact C.f0 T (rs' := [.b (x_1 != x_1)]) hβ ⟨(x_1 != x_1), hm, rfl, rfl, rfl⟩
theorem T_slices_BinarySearch_int_int (x_1 : List Int) (target : Int) (post : (Int × Bool) → Prop) (hm : V_slices_BinarySearch_int_int x_1 target post) :
    Tr Tryz.prog 124 [.sl 1 eI x_1, .i target] [] 0 (fun A H' k => ∃ y, post y ∧ A = (.tup [.i y.1, .b y.2]) ∧ H' = [] ∧ k = 0) := by
 refine Tr.intro (n := 54) Tryz.func124 rfl Tryz.ntmps124 rfl (fun w0 ok F β hβ => ?_)
 unfold V_slices_BinarySearch_int_int at hm
 refine C.seq (U.start ?_)
 refine U.ps 2 T rfl ?_
 refine U.done (C.nx (C.seq (U.start ?_)))
 refine U.ps 3 T rfl ?_
 refine U.done (C.nx (C.seq (U.start ?_)))
 refine U.ps 3 T rfl ?_
 refine U.done (C.nx (C.seq ?_))
 refine C.jn (fun (x7 : Int) => [(0, .sl 1 eI x_1), (1, .i target), (6, .i (x_1.length : Int)), (7, .i x7)]) (fun (x7 : Int) => []) 0 hm (fun x7 hm => ?_) (fun J8 hm hJ8 => ?_)
 refine C.nx (C.seq ?_)
 refine C.jn (fun (x28 : Bool) => [(4, .i x7), (5, .b x28)]) (fun (x28 : Bool) => []) 0 hm (fun x28 hm => ?_) (fun J29 hm hJ29 => ?_)
 refine C.nx (C.ret ?_)
 exact C.f0 T (rs' := [.i ((x7, x28).1), .b ((x7, x28).2)]) hβ ⟨(x7, x28), hm, rfl, rfl, rfl⟩
 refine U.start ?_
 refine U.ps 5 T rfl ?_
 refine hm.cs (fun hb30 hm => ?_) (fun hb30 hm => ?_)
 refine U.pg 2 4 true 35 hb30 T rfl rfl rfl rfl ?_
 obtain ⟨x31, hx31, hm⟩ := hm
 refine U.r rfl (.take 4 true 35 _ hb30 rfl rfl rfl) rfl rfl (by exact Rd.ix T rfl rfl rfl rfl rfl rfl hx31) ?_
 refine U.pg 4 4 true 35 hb30 T rfl rfl rfl rfl ?_
 refine hm.cs (fun hb32 hm => ?_) (fun hb32 hm => ?_)
 refine U.sks 6 11 false 42 hb32 rfl rfl rfl ?_
 refine U.sku 2 17 true 48 rfl rfl rfl ?_
 refine U.sks 1 11 false 42 hb32 rfl rfl rfl ?_
 refine U.r rfl (.take 4 true 35 _ hb30 rfl rfl rfl) rfl rfl (by exact Rd.pk rfl rfl hb32 rfl) ?_
 refine U.r rfl (.none rfl) rfl rfl (by exact Rd.pk rfl rfl hb30 rfl) ?_
 refine U.ps 2 T rfl ?_
 refine U.done ?_
 exact St.wk (hJ29 _ hm) (Wk.e)
 refine U.pg 2 11 false 42 hb32 T rfl rfl rfl rfl ?_
 refine U.r rfl (.take 11 false 42 _ hb32 rfl rfl rfl) rfl rfl (by exact Rd.ix T rfl rfl rfl rfl rfl rfl hx31) ?_
 refine U.pg 1 11 false 42 hb32 T rfl rfl rfl rfl ?_
 refine U.e rfl (.take 11 false 42 _ hb32 rfl rfl rfl) (by exact Eff.k (T_slices_isNaN_int x31 _ hm) en162 rfl rfl rfl (.eq rfl) (fun _ _ => ⟨(.v _), trivial⟩)) (fun x33' hm => ?_)
 obtain ⟨x33⟩ := x33'
 refine U.pg 1 11 false 42 hb32 T rfl rfl rfl rfl ?_
 refine hm.cs (fun hb34 hm => ?_) (fun hb34 hm => ?_)
 refine U.pg 1 17 true 48 hb34 T rfl rfl rfl rfl ?_
 refine U.e rfl (.take 17 true 48 _ hb34 rfl rfl rfl) (by exact Eff.k (T_slices_isNaN_int target _ hm) en162 rfl rfl rfl (.eq rfl) (fun _ _ => ⟨(.v _), trivial⟩)) (fun x35' hm => ?_)
 obtain ⟨x35⟩ := x35'
 refine U.r rfl (.take 11 false 42 _ hb32 rfl rfl rfl) rfl rfl (by exact Rd.pk rfl rfl hb34 rfl) ?_
 refine U.r rfl (.take 4 true 35 _ hb30 rfl rfl rfl) rfl rfl (by exact Rd.pk' rfl rfl hb32 rfl) ?_
 refine U.r rfl (.none rfl) rfl rfl (by exact Rd.pk rfl rfl hb30 rfl) ?_
 refine U.ps 2 T rfl ?_
 refine U.done ?_
 exact St.wk (hJ29 _ hm) (Wk.e)
 refine U.sks 2 17 true 48 hb34 rfl rfl rfl ?_
 refine U.r rfl (.take 11 false 42 _ hb32 rfl rfl rfl) rfl rfl (by exact Rd.pk' rfl rfl hb34 rfl) ?_
 refine U.r rfl (.take 4 true 35 _ hb30 rfl rfl rfl) rfl rfl (by exact Rd.pk' rfl rfl hb32 rfl) ?_
 refine U.r rfl (.none rfl) rfl rfl (by exact Rd.pk rfl rfl hb30 rfl) ?_
 refine U.ps 2 T rfl ?_
 refine U.done ?_
 exact St.wk (hJ29 _ hm) (Wk.e)
 refine U.sks 7 4 true 35 hb30 rfl rfl rfl ?_
 refine U.sku 6 11 false 42 rfl rfl rfl ?_
 refine U.sku 2 17 true 48 rfl rfl rfl ?_
 refine U.sku 1 11 false 42 rfl rfl rfl ?_
 refine U.sks 1 4 true 35 hb30 rfl rfl rfl ?_
 refine U.r rfl (.none rfl) rfl rfl (by exact Rd.pk' rfl rfl hb30 rfl) ?_
 refine U.ps 2 T rfl ?_
 refine U.done ?_
 exact St.wk (hJ29 _ hm) (Wk.e)
 refine C.block ?_
 refine St.wk (C.loop (fun (s9 : Int × Int) => [(0, .sl 1 eI x_1), (1, .i target), (6, .i (x_1.length : Int)), (7, .i s9.1), (8, .i s9.2)]) (fun (s9 : Int × Int) => []) hm (fun s9 Y10 hm => ?_)) (Wk.e)
 refine C.seq (C.seq (U.start ?_))
 refine U.ps 3 T rfl ?_
 refine U.done (C.nx ?_)
 refine C.ite rfl hm (fun hb13 hm => ?_) (fun hb13 hm => ?_)
 refine C.skip (C.nx (C.block (C.seq (U.start ?_))))
 refine U.ps 4 T rfl ?_
 refine U.r rfl (.none rfl) rfl rfl (by exact Rd.sh rfl rfl rfl rfl (by decide)) ?_
 refine U.ps 2 T rfl ?_
 refine U.done (C.nx (C.seq (U.start ?_)))
 refine U.ps 2 T rfl ?_
 obtain ⟨x19, hx19, hm⟩ := hm
 refine U.r rfl (.none rfl) rfl rfl (by exact Rd.ix T rfl rfl rfl rfl rfl rfl hx19) ?_
 refine U.ps 2 T rfl ?_
 refine U.e rfl (.none rfl) (by exact Eff.k (T_cmp_Less_int x19 target _ hm) en155 rfl rfl rfl (.eq rfl) (fun _ _ => ⟨(.v _), trivial⟩)) (fun x20' hm => ?_)
 obtain ⟨x20⟩ := x20'
 refine U.done (C.nx ?_)
 refine C.jn (fun (x21 : Int × Int) => [(0, .sl 1 eI x_1), (1, .i target), (6, .i (x_1.length : Int)), (7, .i x21.1), (8, .i x21.2)]) (fun (x21 : Int × Int) => []) 0 hm (fun x21 hm => ?_) (fun J22 hm hJ22 => ?_)
 refine C.bnx (C.nx ?_)
 exact St.wk (C.next hm) (Wk.e)
 refine C.ite rfl hm (fun hb23 hm => ?_) (fun hb23 hm => ?_)
 refine U.start ?_
 refine U.ps 3 T rfl ?_
 refine U.done ?_
 exact St.wk (hJ22 _ hm) (Wk.e)
 refine U.start ?_
 refine U.ps 2 T rfl ?_
 refine U.done ?_
 exact St.wk (hJ22 _ hm) (Wk.e)
 refine C.exit (C.ex (C.ex (C.bex ?_)))
 exact St.wk (hJ8 _ hm) (Wk.e)
theorem T_rules_ZoneOf_1 (z : ApiZone) (c0 : Int) (post : Bool → Prop) (hm : V_rules_ZoneOf_1 z c0 post) :
    Tr Tryz.prog 123 [.agg (eApiZone z), .rp [.i c0]] [] 0 (fun A H' k => ∃ y, post y ∧ A = (.b y) ∧ H' = [] ∧ k = 0) := by
 refine Tr.intro (n := 14) Tryz.func123 rfl Tryz.ntmps123 rfl (fun w0 ok F β hβ => ?_)
 unfold V_rules_ZoneOf_1 at hm
 refine C.seq (U.start ?_)
 refine U.e1 rfl (.none rfl) (by exact Eff1.box rfl rfl rfl rfl rfl) ?_
 refine U.ps 1 T rfl ?_
 refine U.done (C.nx (C.seq (U.start ?_)))
 refine U.ps 3 T rfl ?_
 refine U.e rfl (.none rfl) (by exact Eff.k (T_slices_BinarySearch_int_int z.Cells c0 _ hm) en124 rfl rfl rfl (.eq rfl) (fun _ _ => ⟨(.tup (.cons (.v _) (.cons (.v _) .nil))), trivial⟩)) (fun x5' hm => ?_)
 obtain ⟨x5⟩ := x5'
 refine U.ps 5 T rfl ?_
 refine U.done (C.nx (C.seq (U.start ?_)))
 refine U.ps 2 T rfl ?_
 refine U.done (C.nx (C.ret ?_))
 exact C.f0 T (rs' := [.b x5.2]) hβ ⟨x5.2, hm, rfl, rfl, rfl⟩
theorem T_slices_IndexFunc_api_Zone_api_Zone__rules_ZoneOf_1 (s_1 : List ApiZone) (f_c0 : Int) (post : Int → Prop) (hm : V_slices_IndexFunc_api_Zone_api_Zone__rules_ZoneOf_1 s_1 f_c0 post) :
    Tr Tryz.prog 122 [.sl 5 eApiZone s_1, .fn (.func 123) [] [.rp [.i f_c0]]] [] 0 (fun A H' k => ∃ y, post y ∧ A = (.i y) ∧ H' = [] ∧ k = 0) := by
 refine Tr.intro (n := 19) Tryz.func122 rfl Tryz.ntmps122 rfl (fun w0 ok F β hβ => ?_)
 unfold V_slices_IndexFunc_api_Zone_api_Zone__rules_ZoneOf_1 at hm
 refine C.seq (U.start ?_)
 refine U.ps 1 T rfl ?_
 refine U.done (C.nx (C.seq (C.seq (U.start ?_))))
 refine U.ps 3 T rfl ?_
 refine U.done (C.nx ?_)
 refine C.jn (fun (x5 : Unit) => []) (fun (x5 : Unit) => []) 0 hm (fun x5 hm => ?_) (fun J6 hm hJ6 => ?_)
 refine C.nx (C.seq (U.start ?_))
 refine U.ps 1 T rfl ?_
 refine U.done (C.nx (C.ret ?_))
 exact C.f0 T (rs' := [.i (-1)]) hβ ⟨(-1), hm, rfl, rfl, rfl⟩
 refine C.block ?_
 refine St.wk (C.loop (fun (s7 : Int) => [(0, .sl 5 eApiZone s_1), (1, .fn (.func 123) [] [.rp [.i f_c0]]), (7, .i (s_1.length : Int)), (8, .i s7)]) (fun (s7 : Int) => []) hm (fun s7 Y8 hm => ?_)) (Wk.e)
 refine C.seq (U.start ?_)
 refine U.ps 1 T rfl ?_
 refine U.done (C.nx (C.seq ?_))
 refine C.ite rfl hm (fun hb11 hm => ?_) (fun hb11 hm => ?_)
 refine C.skip (C.nx (C.seq (C.block (C.seq (U.start ?_)))))
 refine U.ps 2 T rfl ?_
 refine U.done (C.nx (C.seq (U.start ?_)))
 refine U.ps 3 T rfl ?_
 obtain ⟨x16, hx16, hm⟩ := hm
 refine U.r rfl (.none rfl) rfl rfl (by exact Rd.ix T rfl rfl rfl rfl rfl rfl hx16) ?_
 refine U.ps 1 T rfl ?_
 refine U.e rfl (.none rfl) (by exact Eff.k (T_rules_ZoneOf_1 x16 f_c0 _ hm) en123 rfl rfl rfl (.eq rfl) (fun _ _ => ⟨(.v _), trivial⟩)) (fun x17' hm => ?_)
 obtain ⟨x17⟩ := x17'
 refine U.done (C.nx ?_)
 refine C.ite rfl hm (fun hb18 hm => ?_) (fun hb18 hm => ?_)
 refine C.seq (U.start ?_)
 refine U.ps 2 T rfl ?_
 refine U.done (C.nx (C.ret (C.brt (C.rt (C.rt (C.brt (C.rt ?_)))))))
 exact C.f0 T (rs' := [.i s7]) hβ ⟨s7, hm, rfl, rfl, rfl⟩
 refine C.skip (C.bnx (C.nx (U.start ?_)))
 refine U.ps 2 T rfl ?_
 refine U.done (C.nx ?_)
 exact St.wk (C.next hm) (Wk.e)
 refine C.exit (C.ex (C.ex (C.bex ?_)))
 exact St.wk (hJ6 _ hm) (Wk.mk' [] rfl rfl trivial trivial rfl)
theorem T_rules_ZoneOf (s_1 : ApiSite) (c : Int) (post : Int → Prop) (hm : V_rules_ZoneOf s_1 c post) :
    Tr Tryz.prog 56 [.agg (eApiSite s_1), .i c] [] 0 (fun A H' k => ∃ y, post y ∧ A = (.i y) ∧ H' = [] ∧ k = 0) := by
 refine Tr.intro (n := 9) Tryz.func56 rfl Tryz.ntmps56 rfl (fun w0 ok F β hβ => ?_)
 unfold V_rules_ZoneOf at hm
 refine C.seq (U.start ?_)
 refine U.e1 rfl (.none rfl) (by exact Eff1.box rfl rfl rfl rfl rfl) ?_
 refine U.e1 rfl (.none rfl) (by exact Eff1.box rfl rfl rfl rfl rfl) ?_
 refine U.ps 1 T rfl ?_
 refine U.done (C.nx (C.seq (U.start ?_)))
 refine U.ps 3 T rfl ?_
 refine U.e rfl (.none rfl) (by exact Eff.k (T_slices_IndexFunc_api_Zone_api_Zone__rules_ZoneOf_1 s_1.Zones c _ hm) en122 rfl rfl rfl (.cons (.eq rfl) (.cons (.fn (.eq rfl) (.cons (.fzp rfl rfl rfl rfl (.eq rfl) rfl) .nil)) .nil)) (fun _ _ => ⟨(.v _), trivial⟩)) (fun x5' hm => ?_)
 obtain ⟨x5⟩ := x5'
 refine U.ps 1 T rfl ?_
 refine U.done (C.nx (C.ret ?_))
 exact C.f0 T (rs' := [.i x5]) hβ ⟨x5, hm, rfl, rfl, rfl⟩
theorem T_rules_isCell (s_1 : ApiSite) (c : Int) (post : Bool → Prop) (hm : V_rules_isCell s_1 c post) :
    Tr Tryz.prog 55 [.agg (eApiSite s_1), .i c] [] 0 (fun A H' k => ∃ y, post y ∧ A = (.b y) ∧ H' = [] ∧ k = 0) := by
 refine Tr.intro (n := 15) Tryz.func55 rfl Tryz.ntmps55 rfl (fun w0 ok F β hβ => ?_)
 unfold V_rules_isCell at hm
 refine C.seq (U.start ?_)
 refine U.e1 rfl (.none rfl) (by exact Eff1.box rfl rfl rfl rfl rfl) ?_
 refine U.ps 1 T rfl ?_
 refine U.done (C.nx (C.seq ?_))
 refine C.jn (fun (x3 : Bool) => [(4, .b x3)]) (fun (x3 : Bool) => []) 0 hm (fun x3 hm => ?_) (fun J4 hm hJ4 => ?_)
 refine C.nx (C.ret ?_)
 exact C.f0 T (rs' := [.b x3]) hβ ⟨x3, hm, rfl, rfl, rfl⟩
 refine U.start ?_
 refine U.ps 3 T rfl ?_
 refine hm.cs (fun hb5 hm => ?_) (fun hb5 hm => ?_)
 refine U.pg 6 2 true 7 hb5 T rfl rfl rfl rfl ?_
 refine U.r rfl (.none rfl) rfl rfl (by exact Rd.pk rfl rfl hb5 rfl) ?_
 refine U.ps 1 T rfl ?_
 refine U.done ?_
 exact St.wk (hJ4 _ hm) (Wk.e)
 refine U.sks 6 2 true 7 hb5 rfl rfl rfl ?_
 refine U.r rfl (.none rfl) rfl rfl (by exact Rd.pk' rfl rfl hb5 rfl) ?_
 refine U.ps 1 T rfl ?_
 refine U.done ?_
 exact St.wk (hJ4 _ hm) (Wk.e)
theorem T_rules_Open_1 (x_1 : ApiSpan) (c0 : Int) (post : Bool → Prop) (hm : V_rules_Open_1 x_1 c0 post) :
    Tr Tryz.prog 58 [.agg [.i x_1.From, .i x_1.To], .rp [.i c0]] [] 0 (fun A H' k => ∃ y, post y ∧ A = (.b y) ∧ H' = [] ∧ k = 0) := by
 refine Tr.intro (n := 14) Tryz.func58 rfl Tryz.ntmps58 rfl (fun w0 ok F β hβ => ?_)
 unfold V_rules_Open_1 at hm
 refine C.seq (U.start ?_)
 refine U.e1 rfl (.none rfl) (by exact Eff1.box rfl rfl rfl rfl rfl) ?_
 refine U.ps 1 T rfl ?_
 refine U.done (C.nx (C.seq ?_))
 refine C.jn (fun (x3 : Bool) => [(3, .b x3)]) (fun (x3 : Bool) => []) 0 hm (fun x3 hm => ?_) (fun J4 hm hJ4 => ?_)
 refine C.nx (C.ret ?_)
 exact C.f0 T (rs' := [.b x3]) hβ ⟨x3, hm, rfl, rfl, rfl⟩
 refine U.start ?_
 refine U.ps 5 T rfl ?_
 refine hm.cs (fun hb5 hm => ?_) (fun hb5 hm => ?_)
 refine U.pg 4 4 true 8 hb5 T rfl rfl rfl rfl ?_
 refine U.r rfl (.none rfl) rfl rfl (by exact Rd.pk rfl rfl hb5 rfl) ?_
 refine U.ps 1 T rfl ?_
 refine U.done ?_
 exact St.wk (hJ4 _ hm) (Wk.e)
 refine U.sks 4 4 true 8 hb5 rfl rfl rfl ?_
 refine U.r rfl (.none rfl) rfl rfl (by exact Rd.pk' rfl rfl hb5 rfl) ?_
 refine U.ps 1 T rfl ?_
 refine U.done ?_
 exact St.wk (hJ4 _ hm) (Wk.e)
theorem T_slices_IndexFunc_api_Span_api_Span__rules_Open_1 (s_1 : List ApiSpan) (f_c0 : Int) (post : Int → Prop) (hm : V_slices_IndexFunc_api_Span_api_Span__rules_Open_1 s_1 f_c0 post) :
    Tr Tryz.prog 125 [.sl 2 eApiSpan s_1, .fn (.func 58) [] [.rp [.i f_c0]]] [] 0 (fun A H' k => ∃ y, post y ∧ A = (.i y) ∧ H' = [] ∧ k = 0) := by
 refine Tr.intro (n := 19) Tryz.func125 rfl Tryz.ntmps125 rfl (fun w0 ok F β hβ => ?_)
 unfold V_slices_IndexFunc_api_Span_api_Span__rules_Open_1 at hm
 refine C.seq (U.start ?_)
 refine U.ps 1 T rfl ?_
 refine U.done (C.nx (C.seq (C.seq (U.start ?_))))
 refine U.ps 3 T rfl ?_
 refine U.done (C.nx ?_)
 refine C.jn (fun (x5 : Unit) => []) (fun (x5 : Unit) => []) 0 hm (fun x5 hm => ?_) (fun J6 hm hJ6 => ?_)
 refine C.nx (C.seq (U.start ?_))
 refine U.ps 1 T rfl ?_
 refine U.done (C.nx (C.ret ?_))
 exact C.f0 T (rs' := [.i (-1)]) hβ ⟨(-1), hm, rfl, rfl, rfl⟩
 refine C.block ?_
 refine St.wk (C.loop (fun (s7 : Int) => [(0, .sl 2 eApiSpan s_1), (1, .fn (.func 58) [] [.rp [.i f_c0]]), (7, .i (s_1.length : Int)), (8, .i s7)]) (fun (s7 : Int) => []) hm (fun s7 Y8 hm => ?_)) (Wk.e)
 refine C.seq (U.start ?_)
 refine U.ps 1 T rfl ?_
 refine U.done (C.nx (C.seq ?_))
 refine C.ite rfl hm (fun hb11 hm => ?_) (fun hb11 hm => ?_)
 refine C.skip (C.nx (C.seq (C.block (C.seq (U.start ?_)))))
 refine U.ps 2 T rfl ?_
 refine U.done (C.nx (C.seq (U.start ?_)))
 refine U.ps 3 T rfl ?_
 obtain ⟨x16, hx16, hm⟩ := hm
 refine U.r rfl (.none rfl) rfl rfl (by exact Rd.ix T rfl rfl rfl rfl rfl rfl hx16) ?_
 refine U.ps 1 T rfl ?_
 refine U.e rfl (.none rfl) (by exact Eff.k (T_rules_Open_1 x16 f_c0 _ hm) en58 rfl rfl rfl (.eq rfl) (fun _ _ => ⟨(.v _), trivial⟩)) (fun x17' hm => ?_)
 obtain ⟨x17⟩ := x17'
 refine U.done (C.nx ?_)
 refine C.ite rfl hm (fun hb18 hm => ?_) (fun hb18 hm => ?_)
 refine C.seq (U.start ?_)
 refine U.ps 2 T rfl ?_
 refine U.done (C.nx (C.ret (C.brt (C.rt (C.rt (C.brt (C.rt ?_)))))))
 exact C.f0 T (rs' := [.i s7]) hβ ⟨s7, hm, rfl, rfl, rfl⟩
 refine C.skip (C.bnx (C.nx (U.start ?_)))
 refine U.ps 2 T rfl ?_
 refine U.done (C.nx ?_)
 exact St.wk (C.next hm) (Wk.e)
 refine C.exit (C.ex (C.ex (C.bex ?_)))
 exact St.wk (hJ6 _ hm) (Wk.mk' [] rfl rfl trivial trivial rfl)
theorem T_slices_ContainsFunc_api_Span_api_Span__rules_Open_1 (s_1 : List ApiSpan) (f_c0 : Int) (post : Bool → Prop) (hm : V_slices_ContainsFunc_api_Span_api_Span__rules_Open_1 s_1 f_c0 post) :
    Tr Tryz.prog 57 [.sl 2 eApiSpan s_1, .fn (.func 58) [] [.rp [.i f_c0]]] [] 0 (fun A H' k => ∃ y, post y ∧ A = (.b y) ∧ H' = [] ∧ k = 0) := by
 refine Tr.intro (n := 9) Tryz.func57 rfl Tryz.ntmps57 rfl (fun w0 ok F β hβ => ?_)
 unfold V_slices_ContainsFunc_api_Span_api_Span__rules_Open_1 at hm
 refine C.seq (U.start ?_)
 refine U.ps 1 T rfl ?_
 refine U.done (C.nx (C.seq (U.start ?_)))
 refine U.ps 2 T rfl ?_
 refine U.e rfl (.none rfl) (by exact Eff.k (T_slices_IndexFunc_api_Span_api_Span__rules_Open_1 s_1 f_c0 _ hm) en125 rfl rfl rfl (.eq rfl) (fun _ _ => ⟨(.v _), trivial⟩)) (fun x5' hm => ?_)
 obtain ⟨x5⟩ := x5'
 refine U.ps 2 T rfl ?_
 refine U.done (C.nx (C.ret ?_))
 exact C.f0 T (rs' := [.b (decide (x5 ≥ 0))]) hβ ⟨decide (x5 ≥ 0), hm, rfl, rfl, rfl⟩
theorem T_rules_Open (s_1 : ApiSite) (c : Int) (tick : Int) (post : Bool → Prop) (hm : V_rules_Open s_1 c tick post) :
    Tr Tryz.prog 25 [.agg (eApiSite s_1), .i c, .i tick] [] 0 (fun A H' k => ∃ y, post y ∧ A = (.b y) ∧ H' = [] ∧ k = 0) := by
 refine Tr.intro (n := 31) Tryz.func25 rfl Tryz.ntmps25 rfl (fun w0 ok F β hβ => ?_)
 unfold V_rules_Open at hm
 refine C.seq (U.start ?_)
 refine U.e1 rfl (.none rfl) (by exact Eff1.box rfl rfl rfl rfl rfl) ?_
 refine U.e1 rfl (.none rfl) (by exact Eff1.box rfl rfl rfl rfl rfl) ?_
 refine U.ps 1 T rfl ?_
 refine U.done (C.nx (C.seq (U.start ?_)))
 refine U.ps 2 T rfl ?_
 refine U.e rfl (.none rfl) (by exact Eff.k (T_rules_ZoneOf s_1 c _ hm) en56 rfl rfl rfl (.eq rfl) (fun _ _ => ⟨(.v _), trivial⟩)) (fun x5' hm => ?_)
 obtain ⟨x5⟩ := x5'
 refine U.ps 1 T rfl ?_
 refine U.done (C.nx (C.seq (C.seq ?_)))
 refine C.jn (fun (x6 : Bool) => [(1, .i c), (3, .p 0 0), (5, .p 1 0), (7, .i x5), (18, .b x6)]) (fun (x6 : Bool) => [(0, .box (eApiSite s_1)), (1, .box [.i tick])]) 2 hm (fun x6 hm => ?_) (fun J7 hm hJ7 => ?_)
 refine C.nx ?_
 refine C.ite rfl hm (fun hb10 hm => ?_) (fun hb10 hm => ?_)
 refine C.seq (U.start ?_)
 refine U.ps 2 T rfl ?_
 refine U.e rfl (.none rfl) (by exact Eff.k (T_rules_isCell s_1 c _ hm) en55 rfl rfl rfl (.eq rfl) (fun _ _ => ⟨(.v _), trivial⟩)) (fun x13' hm => ?_)
 obtain ⟨x13⟩ := x13'
 refine U.ps 1 T rfl ?_
 refine U.done (C.nx (C.ret (C.rt ?_)))
 exact C.f0 T (rs' := [.b x13]) hβ ⟨x13, hm, rfl, rfl, rfl⟩
 refine C.skip (C.nx (C.seq (U.start ?_)))
 refine U.ps 3 T rfl ?_
 obtain ⟨x16, hx16, hm⟩ := hm
 refine U.r rfl (.none rfl) rfl rfl (by exact Rd.ix T rfl rfl rfl rfl rfl rfl hx16) ?_
 refine U.ps 3 T rfl ?_
 refine U.e rfl (.none rfl) (by exact Eff.k (T_slices_ContainsFunc_api_Span_api_Span__rules_Open_1 x16.Shut tick _ hm) en57 rfl rfl rfl (.cons (.eq rfl) (.cons (.fn (.eq rfl) (.cons (.fzp rfl rfl rfl rfl (.eq rfl) rfl) .nil)) .nil)) (fun _ _ => ⟨(.v _), trivial⟩)) (fun x17' hm => ?_)
 obtain ⟨x17⟩ := x17'
 refine U.ps 2 T rfl ?_
 refine U.done (C.nx (C.ret ?_))
 exact C.f0 T (rs' := [.b (!x17)]) hβ ⟨!x17, hm, rfl, rfl, rfl⟩
 refine U.start ?_
 refine U.ps 2 T rfl ?_
 refine U.e rfl (.none rfl) (by exact Eff.k (T_rules_isCell s_1 c _ hm) en55 rfl rfl rfl (.eq rfl) (fun _ _ => ⟨(.v _), trivial⟩)) (fun x8' hm => ?_)
 obtain ⟨x8⟩ := x8'
 refine U.ps 2 T rfl ?_
 refine hm.cs (fun hb9 hm => ?_) (fun hb9 hm => ?_)
 refine U.pg 2 4 false 15 (ntF hb9) T rfl rfl rfl rfl ?_
 refine U.r rfl (.none rfl) rfl rfl (by exact Rd.pk' rfl rfl (ntF hb9) rfl) ?_
 refine U.done ?_
 exact St.wk (hJ7 _ hm) (Wk.f [some 0, some 1] ⟨bX, bX, trivial⟩)
 refine U.sks 2 4 false 15 (ntT hb9) rfl rfl rfl ?_
 refine U.r rfl (.none rfl) rfl rfl (by exact Rd.pk rfl rfl (ntT hb9) rfl) ?_
 refine U.done ?_
 exact St.wk (hJ7 _ hm) (Wk.f [some 0, some 1] ⟨bX, bX, trivial⟩)
theorem T_body_Low (c : Int) (post : Int → Prop) (hm : V_body_Low c post) :
    Tr Tryz.prog 23 [.i c] [] 0 (fun A H' k => ∃ y, post y ∧ A = (.i y) ∧ H' = [] ∧ k = 0) := by
 refine Tr.intro (n := 5) Tryz.func23 rfl Tryz.ntmps23 rfl (fun w0 ok F β hβ => ?_)
 unfold V_body_Low at hm
 refine C.seq (U.start ?_)
 refine U.ps 1 T rfl ?_
 refine U.done (C.nx (C.seq (U.start ?_)))
 refine U.ps 3 T rfl ?_
 refine U.done (C.nx (C.ret ?_))
 exact C.f0 T (rs' := [.i (w64 (2 * c))]) hβ ⟨w64 (2 * c), hm, rfl, rfl, rfl⟩
theorem T_body_High (c : Int) (post : Int → Prop) (hm : V_body_High c post) :
    Tr Tryz.prog 24 [.i c] [] 0 (fun A H' k => ∃ y, post y ∧ A = (.i y) ∧ H' = [] ∧ k = 0) := by
 refine Tr.intro (n := 6) Tryz.func24 rfl Tryz.ntmps24 rfl (fun w0 ok F β hβ => ?_)
 unfold V_body_High at hm
 refine C.seq (U.start ?_)
 refine U.ps 1 T rfl ?_
 refine U.done (C.nx (C.seq (U.start ?_)))
 refine U.ps 4 T rfl ?_
 refine U.done (C.nx (C.ret ?_))
 exact C.f0 T (rs' := [.i (w64 ((w64 (2 * c)) + 1))]) hβ ⟨w64 ((w64 (2 * c)) + 1), hm, rfl, rfl, rfl⟩
theorem T_body_at (r : ApiRobot) (c : Int) (post : (List Int) → Prop) (hm : V_body_at r c post) :
    Tr Tryz.prog 148 [.agg (eApiRobot r), .i c] [] 0 (fun A H' k => ∃ y, post y ∧ A = (.o 0) ∧ H' = [(0, .val (.os 1 eI y))] ∧ k = 1) := by
 refine Tr.intro (n := 16) Tryz.func148 rfl Tryz.ntmps148 rfl (fun w0 ok F β hβ => ?_)
 unfold V_body_at at hm
 refine C.seq (U.start ?_)
 refine U.e1 rfl (.none rfl) (by exact Eff1.box rfl rfl rfl rfl rfl) ?_
 refine U.ps 1 T rfl ?_
 refine U.done (C.nx (C.seq (C.seq (U.start ?_))))
 refine U.ps 3 T rfl ?_
 refine U.done (C.nx ?_)
 refine C.ite rfl hm (fun hb5 hm => ?_) (fun hb5 hm => ?_)
 refine C.seq (U.start ?_)
 refine U.ps 1 T rfl ?_
 refine U.e rfl (.none rfl) (by exact Eff.k (T_body_Low c _ hm) en23 rfl rfl rfl (.eq rfl) (fun _ _ => ⟨(.v _), trivial⟩)) (fun x8' hm => ?_)
 obtain ⟨x8⟩ := x8'
 refine U.ps 1 T rfl ?_
 refine U.e rfl (.none rfl) (by exact Eff.k (T_body_High c _ hm) en24 rfl rfl rfl (.eq rfl) (fun _ _ => ⟨(.v _), trivial⟩)) (fun x9' hm => ?_)
 obtain ⟨x9⟩ := x9'
 refine U.e1 rfl (.none rfl) (by exact Eff1.bs T (enc := eI) (xs := ([x8, x9] : List Int)) rfl rfl rfl rfl rfl rfl rfl rfl rfl rfl (fun _ _ => rfl) rfl rfl) ?_
 refine U.ps 1 T rfl ?_
 refine U.done (C.nx (C.ret (C.rt ?_)))
 exact C.fin T (rs' := [.o 0]) (H' := [(0, .val (.os 1 eI ([x8, x9] : List Int)))]) (nl' := 1) [some 1] rfl rfl (.eq rfl) ⟨vL, trivial⟩ rfl rfl rfl rfl hβ ⟨([x8, x9] : List Int), hm, rfl, rfl, rfl⟩
 refine C.skip (C.nx (C.seq (U.start ?_)))
 refine U.ps 1 T rfl ?_
 refine U.e rfl (.none rfl) (by exact Eff.k (T_body_Low c _ hm) en23 rfl rfl rfl (.eq rfl) (fun _ _ => ⟨(.v _), trivial⟩)) (fun x12' hm => ?_)
 obtain ⟨x12⟩ := x12'
 refine U.e1 rfl (.none rfl) (by exact Eff1.bs T (enc := eI) (xs := ([x12] : List Int)) rfl rfl rfl rfl rfl rfl rfl rfl rfl rfl (fun _ _ => rfl) rfl rfl) ?_
 refine U.ps 1 T rfl ?_
 refine U.done (C.nx (C.ret ?_))
 exact C.fin T (rs' := [.o 0]) (H' := [(0, .val (.os 1 eI ([x12] : List Int)))]) (nl' := 1) [some 1] rfl rfl (.eq rfl) ⟨vL, trivial⟩ rfl rfl rfl rfl hβ ⟨([x12] : List Int), hm, rfl, rfl, rfl⟩
theorem T_body_Robot (st : ApiState) (i : Int) (post : (List Int) → Prop) (hm : V_body_Robot st i post) :
    Tr Tryz.prog 112 [.agg (eApiState st), .i i] [] 0 (fun A H' k => ∃ y, post y ∧ A = (.o 0) ∧ H' = [(0, .val (.os 1 eI y))] ∧ k = 1) := by
 refine Tr.intro (n := 26) Tryz.func112 rfl Tryz.ntmps112 rfl (fun w0 ok F β hβ => ?_)
 unfold V_body_Robot at hm
 refine C.seq (U.start ?_)
 refine U.e1 rfl (.none rfl) (by exact Eff1.box rfl rfl rfl rfl rfl) ?_
 refine U.ps 1 T rfl ?_
 refine U.done (C.nx (C.seq (C.seq ?_)))
 refine C.jn (fun (x3 : Bool) => [(1, .i i), (2, .p 0 0), (13, .b x3)]) (fun (x3 : Bool) => [(0, .box (eApiState st))]) 1 hm (fun x3 hm => ?_) (fun J4 hm hJ4 => ?_)
 refine C.nx ?_
 refine C.ite rfl hm (fun hb6 hm => ?_) (fun hb6 hm => ?_)
 refine C.seq (U.start ?_)
 refine U.ps 1 T rfl ?_
 refine U.done (C.nx (C.ret (C.rt ?_)))
 exact C.fin T (rs' := [.o 0]) (H' := [(0, .val (.os 1 eI []))]) (nl' := 1) [none] rfl rfl (.cons (.nilO _ _ ⟨rfl, rfl⟩ rfl) .nil) ⟨⟨_, rfl, .nil _ _⟩, trivial⟩ rfl rfl rfl rfl hβ ⟨[], hm, rfl, rfl, rfl⟩
 refine C.skip (C.nx (C.seq ?_))
 refine D.beg 9999 [0] [] mix rfl rfl (by kernel_rfl) (by repeat (first | exact NoPanicQ.body | exact NoPanicQ.rnd | refine NoPanicQ.th ?_ | refine NoPanicQ.blk ?_)) (fun hQ hS ws M' => ?_)
 refine D.ps 3 [(0, []), (1, []), (2, [])] rfl hQ hS T rfl rfl (by kernel_rfl) ?_
 obtain ⟨x11, hx11, hm⟩ := hm
 refine D.q 3 [] hQ hS rfl (.none rfl) rfl rfl (by exact Rd.ix T rfl rfl rfl rfl rfl rfl hx11) rfl (by kernel_rfl) ?_
 refine D.ps 4 [(4, []), (5, []), (6, []), (7, [])] rfl hQ hS T rfl rfl (by kernel_rfl) ?_
 refine D.q 8 [] hQ hS rfl (.none rfl) rfl rfl (by exact Rd.ix T rfl rfl rfl rfl rfl rfl hx11) rfl (by kernel_rfl) ?_
 refine D.ps 2 [(9, []), (10, [])] rfl hQ hS T rfl rfl (by kernel_rfl) ?_
 refine D.e 11 rfl (.none rfl) (by exact Eff.c [] (v := true) (T_body_at x11 x11.Cell _ hm) en148 rfl rfl rfl (.eq rfl) trivial rfl rfl rfl rfl rfl rfl (fun _ _ => ⟨(.o _), ⟨.val (.os _ _ _ fun _ => (.cons (.v _) .nil)), trivial⟩⟩) (.inr ⟨rfl, rfl⟩) (fun _ => rfl) (fun _ => rfl) rfl) (by kernel_rfl) rfl rfl (fun x12' hm => ?_)
 obtain ⟨x12⟩ := x12'
 refine D.ps 1 [(12, [])] rfl hQ hS T rfl rfl (by kernel_rfl) ?_
 refine D.done (by kernel_rfl) ?_
 refine C.nx (C.ret ?_)
 exact C.fin T (rs' := [.o 0]) (H' := [(0, .val (.os 1 eI x12))]) (nl' := 1) [some 1] rfl rfl (.eq rfl) ⟨vL, trivial⟩ rfl rfl rfl rfl hβ ⟨x12, hm, rfl, rfl, rfl⟩
 refine U.start ?_
 refine U.ps 3 T rfl ?_
 refine hm.cs (fun hb5 hm => ?_) (fun hb5 hm => ?_)
 refine U.sks 5 2 false 7 hb5 rfl rfl rfl ?_
 refine U.r rfl (.none rfl) rfl rfl (by exact Rd.pk rfl rfl hb5 rfl) ?_
 refine U.done ?_
 exact St.wk (hJ4 _ hm) (Wk.f [some 0] ⟨bX, trivial⟩)
 refine U.pg 5 2 false 7 hb5 T rfl rfl rfl rfl ?_
 refine U.r rfl (.none rfl) rfl rfl (by exact Rd.pk' rfl rfl hb5 rfl) ?_
 refine U.done ?_
 exact St.wk (hJ4 _ hm) (Wk.f [some 0] ⟨bX, trivial⟩)
theorem T_body_Carrier_1 (r : ApiRobot) (c0 : Int) (post : Bool → Prop) (hm : V_body_Carrier_1 r c0 post) :
    Tr Tryz.prog 130 [.agg (eApiRobot r), .rp [.i c0]] [] 0 (fun A H' k => ∃ y, post y ∧ A = (.b y) ∧ H' = [] ∧ k = 0) := by
 refine Tr.intro (n := 8) Tryz.func130 rfl Tryz.ntmps130 rfl (fun w0 ok F β hβ => ?_)
 unfold V_body_Carrier_1 at hm
 refine C.seq (U.start ?_)
 refine U.e1 rfl (.none rfl) (by exact Eff1.box rfl rfl rfl rfl rfl) ?_
 refine U.ps 1 T rfl ?_
 refine U.done (C.nx (C.seq (U.start ?_)))
 refine U.ps 5 T rfl ?_
 refine U.done (C.nx (C.ret ?_))
 exact C.f0 T (rs' := [.b (r.Load == c0)]) hβ ⟨(r.Load == c0), hm, rfl, rfl, rfl⟩
theorem T_slices_IndexFunc_api_Robot_api_Robot__body_Carrier_1 (s_1 : List ApiRobot) (f_c0 : Int) (post : Int → Prop) (hm : V_slices_IndexFunc_api_Robot_api_Robot__body_Carrier_1 s_1 f_c0 post) :
    Tr Tryz.prog 126 [.sl 6 eApiRobot s_1, .fn (.func 130) [] [.rp [.i f_c0]]] [] 0 (fun A H' k => ∃ y, post y ∧ A = (.i y) ∧ H' = [] ∧ k = 0) := by
 refine Tr.intro (n := 19) Tryz.func126 rfl Tryz.ntmps126 rfl (fun w0 ok F β hβ => ?_)
 unfold V_slices_IndexFunc_api_Robot_api_Robot__body_Carrier_1 at hm
 refine C.seq (U.start ?_)
 refine U.ps 1 T rfl ?_
 refine U.done (C.nx (C.seq (C.seq (U.start ?_))))
 refine U.ps 3 T rfl ?_
 refine U.done (C.nx ?_)
 refine C.jn (fun (x5 : Unit) => []) (fun (x5 : Unit) => []) 0 hm (fun x5 hm => ?_) (fun J6 hm hJ6 => ?_)
 refine C.nx (C.seq (U.start ?_))
 refine U.ps 1 T rfl ?_
 refine U.done (C.nx (C.ret ?_))
 exact C.f0 T (rs' := [.i (-1)]) hβ ⟨(-1), hm, rfl, rfl, rfl⟩
 refine C.block ?_
 refine St.wk (C.loop (fun (s7 : Int) => [(0, .sl 6 eApiRobot s_1), (1, .fn (.func 130) [] [.rp [.i f_c0]]), (7, .i (s_1.length : Int)), (8, .i s7)]) (fun (s7 : Int) => []) hm (fun s7 Y8 hm => ?_)) (Wk.e)
 refine C.seq (U.start ?_)
 refine U.ps 1 T rfl ?_
 refine U.done (C.nx (C.seq ?_))
 refine C.ite rfl hm (fun hb11 hm => ?_) (fun hb11 hm => ?_)
 refine C.skip (C.nx (C.seq (C.block (C.seq (U.start ?_)))))
 refine U.ps 2 T rfl ?_
 refine U.done (C.nx (C.seq (U.start ?_)))
 refine U.ps 3 T rfl ?_
 obtain ⟨x16, hx16, hm⟩ := hm
 refine U.r rfl (.none rfl) rfl rfl (by exact Rd.ix T rfl rfl rfl rfl rfl rfl hx16) ?_
 refine U.ps 1 T rfl ?_
 refine U.e rfl (.none rfl) (by exact Eff.k (T_body_Carrier_1 x16 f_c0 _ hm) en130 rfl rfl rfl (.eq rfl) (fun _ _ => ⟨(.v _), trivial⟩)) (fun x17' hm => ?_)
 obtain ⟨x17⟩ := x17'
 refine U.done (C.nx ?_)
 refine C.ite rfl hm (fun hb18 hm => ?_) (fun hb18 hm => ?_)
 refine C.seq (U.start ?_)
 refine U.ps 2 T rfl ?_
 refine U.done (C.nx (C.ret (C.brt (C.rt (C.rt (C.brt (C.rt ?_)))))))
 exact C.f0 T (rs' := [.i s7]) hβ ⟨s7, hm, rfl, rfl, rfl⟩
 refine C.skip (C.bnx (C.nx (U.start ?_)))
 refine U.ps 2 T rfl ?_
 refine U.done (C.nx ?_)
 exact St.wk (C.next hm) (Wk.e)
 refine C.exit (C.ex (C.ex (C.bex ?_)))
 exact St.wk (hJ6 _ hm) (Wk.mk' [] rfl rfl trivial trivial rfl)
theorem T_body_Carrier (st : ApiState) (shelf : Int) (post : Int → Prop) (hm : V_body_Carrier st shelf post) :
    Tr Tryz.prog 74 [.agg (eApiState st), .i shelf] [] 0 (fun A H' k => ∃ y, post y ∧ A = (.i y) ∧ H' = [] ∧ k = 0) := by
 refine Tr.intro (n := 11) Tryz.func74 rfl Tryz.ntmps74 rfl (fun w0 ok F β hβ => ?_)
 unfold V_body_Carrier at hm
 refine C.seq (U.start ?_)
 refine U.e1 rfl (.none rfl) (by exact Eff1.box rfl rfl rfl rfl rfl) ?_
 refine U.e1 rfl (.none rfl) (by exact Eff1.box rfl rfl rfl rfl rfl) ?_
 refine U.ps 1 T rfl ?_
 refine U.done (C.nx (C.seq (C.seq (U.start ?_))))
 refine U.ps 2 T rfl ?_
 refine U.done (C.nx ?_)
 refine C.ite rfl hm (fun hb5 hm => ?_) (fun hb5 hm => ?_)
 refine C.seq (U.start ?_)
 refine U.ps 1 T rfl ?_
 refine U.done (C.nx (C.ret (C.rt ?_)))
 exact C.f0 T (rs' := [.i (-1)]) hβ ⟨(-1), hm, rfl, rfl, rfl⟩
 refine C.skip (C.nx (C.seq (U.start ?_)))
 refine U.ps 3 T rfl ?_
 refine U.e rfl (.none rfl) (by exact Eff.k (T_slices_IndexFunc_api_Robot_api_Robot__body_Carrier_1 st.Robots shelf _ hm) en126 rfl rfl rfl (.cons (.eq rfl) (.cons (.fn (.eq rfl) (.cons (.fzp rfl rfl rfl rfl (.eq rfl) rfl) .nil)) .nil)) (fun _ _ => ⟨(.v _), trivial⟩)) (fun x10' hm => ?_)
 obtain ⟨x10⟩ := x10'
 refine U.ps 1 T rfl ?_
 refine U.done (C.nx (C.ret ?_))
 exact C.f0 T (rs' := [.i x10]) hβ ⟨x10, hm, rfl, rfl, rfl⟩
theorem T_body_Shelf (st : ApiState) (s_1 : Int) (post : (List Int) → Prop) (hm : V_body_Shelf st s_1 post) :
    Tr Tryz.prog 113 [.agg (eApiState st), .i s_1] [] 0 (fun A H' k => ∃ y, post y ∧ A = (.o 0) ∧ H' = [(0, .val (.os 1 eI y))] ∧ k = 1) := by
 refine Tr.intro (n := 27) Tryz.func113 rfl Tryz.ntmps113 rfl (fun w0 ok F β hβ => ?_)
 unfold V_body_Shelf at hm
 refine C.seq (U.start ?_)
 refine U.e1 rfl (.none rfl) (by exact Eff1.box rfl rfl rfl rfl rfl) ?_
 refine U.ps 1 T rfl ?_
 refine U.done (C.nx (C.seq (C.seq ?_)))
 refine C.jn (fun (x3 : Bool) => [(1, .i s_1), (2, .p 0 0), (19, .b x3)]) (fun (x3 : Bool) => [(0, .box (eApiState st))]) 1 hm (fun x3 hm => ?_) (fun J4 hm hJ4 => ?_)
 refine C.nx ?_
 refine C.ite rfl hm (fun hb8 hm => ?_) (fun hb8 hm => ?_)
 refine C.seq (U.start ?_)
 refine U.ps 1 T rfl ?_
 refine U.done (C.nx (C.ret (C.rt ?_)))
 exact C.fin T (rs' := [.o 0]) (H' := [(0, .val (.os 1 eI []))]) (nl' := 1) [none] rfl rfl (.cons (.nilO _ _ ⟨rfl, rfl⟩ rfl) .nil) ⟨⟨_, rfl, .nil _ _⟩, trivial⟩ rfl rfl rfl rfl hβ ⟨[], hm, rfl, rfl, rfl⟩
 refine C.skip (C.nx (C.seq (U.start ?_)))
 refine U.ps 3 T rfl ?_
 obtain ⟨x13, hx13, hm⟩ := hm
 refine U.r rfl (.none rfl) rfl rfl (by exact Rd.ix T rfl rfl rfl rfl rfl rfl hx13) ?_
 refine U.ps 1 T rfl ?_
 refine U.e rfl (.none rfl) (by exact Eff.k (T_body_High x13 _ hm) en24 rfl rfl rfl (.eq rfl) (fun _ _ => ⟨(.v _), trivial⟩)) (fun x14' hm => ?_)
 obtain ⟨x14⟩ := x14'
 refine U.e1 rfl (.none rfl) (by exact Eff1.bs T (enc := eI) (xs := ([x14] : List Int)) rfl rfl rfl rfl rfl rfl rfl rfl rfl rfl (fun _ _ => rfl) rfl rfl) ?_
 refine U.ps 1 T rfl ?_
 refine U.done (C.nx (C.ret ?_))
 exact C.fin T (rs' := [.o 0]) (H' := [(0, .val (.os 1 eI ([x14] : List Int)))]) (nl' := 1) [some 1] rfl rfl (.eq rfl) ⟨vL, trivial⟩ rfl rfl rfl rfl hβ ⟨([x14] : List Int), hm, rfl, rfl, rfl⟩
 refine U.start ?_
 refine U.ps 3 T rfl ?_
 refine hm.cs (fun hb5 hm => ?_) (fun hb5 hm => ?_)
 refine U.sks 5 2 false 7 hb5 rfl rfl rfl ?_
 refine U.r rfl (.none rfl) rfl rfl (by exact Rd.pk rfl rfl hb5 rfl) ?_
 refine U.ps 1 T rfl ?_
 refine U.sks 4 9 false 14 rfl rfl rfl rfl ?_
 refine U.r rfl (.none rfl) rfl rfl (by exact Rd.pk rfl rfl rfl rfl) ?_
 refine U.done ?_
 exact St.wk (hJ4 _ hm) (Wk.f [some 0] ⟨bX, trivial⟩)
 refine U.pg 5 2 false 7 hb5 T rfl rfl rfl rfl ?_
 refine U.r rfl (.none rfl) rfl rfl (by exact Rd.pk' rfl rfl hb5 rfl) ?_
 refine U.ps 1 T rfl ?_
 refine hm.cs (fun hb6 hm => ?_) (fun hb6 hm => ?_)
 refine U.sks 4 9 false 14 hb6 rfl rfl rfl ?_
 refine U.r rfl (.none rfl) rfl rfl (by exact Rd.pk rfl rfl hb6 rfl) ?_
 refine U.done ?_
 exact St.wk (hJ4 _ hm) (Wk.f [some 0] ⟨bX, trivial⟩)
 refine U.pg 2 9 false 14 hb6 T rfl rfl rfl rfl ?_
 refine U.e rfl (.take 9 false 14 _ hb6 rfl rfl rfl) (by exact Eff.k (T_body_Carrier st s_1 _ hm) en74 rfl rfl rfl (.eq rfl) (fun _ _ => ⟨(.v _), trivial⟩)) (fun x7' hm => ?_)
 obtain ⟨x7⟩ := x7'
 refine U.pg 1 9 false 14 hb6 T rfl rfl rfl rfl ?_
 refine U.r rfl (.none rfl) rfl rfl (by exact Rd.pk' rfl rfl hb6 rfl) ?_
 refine U.done ?_
 exact St.wk (hJ4 _ hm) (Wk.f [some 0] ⟨bX, trivial⟩)
theorem T_body_Person (st : ApiState) (p : Int) (post : (List Int) → Prop) (hm : V_body_Person st p post) :
    Tr Tryz.prog 114 [.agg (eApiState st), .i p] [] 0 (fun A H' k => ∃ y, post y ∧ A = (.o 0) ∧ H' = [(0, .val (.os 1 eI y))] ∧ k = 1) := by
 refine Tr.intro (n := 27) Tryz.func114 rfl Tryz.ntmps114 rfl (fun w0 ok F β hβ => ?_)
 unfold V_body_Person at hm
 refine C.seq (U.start ?_)
 refine U.e1 rfl (.none rfl) (by exact Eff1.box rfl rfl rfl rfl rfl) ?_
 refine U.ps 1 T rfl ?_
 refine U.done (C.nx (C.seq (C.seq ?_)))
 refine C.jn (fun (x3 : Bool) => [(1, .i p), (2, .p 0 0), (13, .b x3)]) (fun (x3 : Bool) => [(0, .box (eApiState st))]) 1 hm (fun x3 hm => ?_) (fun J4 hm hJ4 => ?_)
 refine C.nx ?_
 refine C.ite rfl hm (fun hb6 hm => ?_) (fun hb6 hm => ?_)
 refine C.seq (U.start ?_)
 refine U.ps 1 T rfl ?_
 refine U.done (C.nx (C.ret (C.rt ?_)))
 exact C.fin T (rs' := [.o 0]) (H' := [(0, .val (.os 1 eI []))]) (nl' := 1) [none] rfl rfl (.cons (.nilO _ _ ⟨rfl, rfl⟩ rfl) .nil) ⟨⟨_, rfl, .nil _ _⟩, trivial⟩ rfl rfl rfl rfl hβ ⟨[], hm, rfl, rfl, rfl⟩
 refine C.skip (C.nx (C.seq ?_))
 refine D.beg 9999 [0] [] mix rfl rfl (by kernel_rfl) (by repeat (first | exact NoPanicQ.body | exact NoPanicQ.rnd | refine NoPanicQ.th ?_ | refine NoPanicQ.blk ?_)) (fun hQ hS ws M' => ?_)
 refine D.ps 3 [(0, []), (1, []), (2, [])] rfl hQ hS T rfl rfl (by kernel_rfl) ?_
 obtain ⟨x11, hx11, hm⟩ := hm
 refine D.q 3 [] hQ hS rfl (.none rfl) rfl rfl (by exact Rd.ix T rfl rfl rfl rfl rfl rfl hx11) rfl (by kernel_rfl) ?_
 refine D.ps 4 [(4, []), (6, []), (7, []), (8, [])] rfl hQ hS T rfl rfl (by kernel_rfl) ?_
 refine D.q 9 [] hQ hS rfl (.none rfl) rfl rfl (by exact Rd.ix T rfl rfl rfl rfl rfl rfl hx11) rfl (by kernel_rfl) ?_
 refine D.ps 1 [(10, [])] rfl hQ hS T rfl rfl (by kernel_rfl) ?_
 refine D.e 5 rfl (.none rfl) (by exact Eff.k (T_body_Low x11 _ hm) en23 rfl rfl rfl (.eq rfl) (fun _ _ => ⟨(.v _), trivial⟩)) (by kernel_rfl) rfl rfl (fun x12' hm => ?_)
 obtain ⟨x12⟩ := x12'
 refine D.e 11 rfl (.none rfl) (by exact Eff.k (T_body_High x11 _ hm) en24 rfl rfl rfl (.eq rfl) (fun _ _ => ⟨(.v _), trivial⟩)) (by kernel_rfl) rfl rfl (fun x13' hm => ?_)
 obtain ⟨x13⟩ := x13'
 refine D.e1 12 rfl (.none rfl) (by exact Eff1.bs T (enc := eI) (xs := ([x12, x13] : List Int)) rfl rfl rfl rfl rfl rfl rfl rfl rfl rfl (fun _ _ => rfl) rfl rfl) (by kernel_rfl) rfl rfl ?_
 refine D.ps 1 [(13, [])] rfl hQ hS T rfl rfl (by kernel_rfl) ?_
 refine D.done (by kernel_rfl) ?_
 refine C.nx (C.ret ?_)
 exact C.fin T (rs' := [.o 0]) (H' := [(0, .val (.os 1 eI ([x12, x13] : List Int)))]) (nl' := 1) [some 1] rfl rfl (.eq rfl) ⟨vL, trivial⟩ rfl rfl rfl rfl hβ ⟨([x12, x13] : List Int), hm, rfl, rfl, rfl⟩
 refine U.start ?_
 refine U.ps 3 T rfl ?_
 refine hm.cs (fun hb5 hm => ?_) (fun hb5 hm => ?_)
 refine U.sks 5 2 false 7 hb5 rfl rfl rfl ?_
 refine U.r rfl (.none rfl) rfl rfl (by exact Rd.pk rfl rfl hb5 rfl) ?_
 refine U.done ?_
 exact St.wk (hJ4 _ hm) (Wk.f [some 0] ⟨bX, trivial⟩)
 refine U.pg 5 2 false 7 hb5 T rfl rfl rfl rfl ?_
 refine U.r rfl (.none rfl) rfl rfl (by exact Rd.pk' rfl rfl hb5 rfl) ?_
 refine U.done ?_
 exact St.wk (hJ4 _ hm) (Wk.f [some 0] ⟨bX, trivial⟩)
theorem T_body_all (st : ApiState) (post : (List Int) → Prop) (hm : V_body_all st post) :
    Tr Tryz.prog 51 [.agg (eApiState st)] [] 0 (fun A H' k => ∃ y, post y ∧ A = (.o 0) ∧ H' = [(0, .val (.os 1 eI y))] ∧ k = 1) := by
 refine Tr.intro (n := 44) Tryz.func51 rfl Tryz.ntmps51 rfl (fun w0 ok F β hβ => ?_)
 unfold V_body_all at hm
 refine C.seq (U.start ?_)
 refine U.e1 rfl (.none rfl) (by exact Eff1.box rfl rfl rfl rfl rfl) ?_
 refine U.ps 1 T rfl ?_
 refine U.done (C.nx (C.seq (U.start ?_)))
 refine U.ps 1 T rfl ?_
 refine U.done (C.nx (C.seq (C.seq (U.start ?_))))
 refine U.ps 4 T rfl ?_
 refine U.done (C.nx ?_)
 refine C.jn (fun (x7 : List Int) => [(1, .p 0 0), (3, .o 1)]) (fun (x7 : List Int) => [(0, .box (eApiState st)), (1, .val (.os 1 eI x7))]) 2 hm (fun x7 hm => ?_) (fun J8 hm hJ8 => ?_)
 refine C.nx (C.seq (C.seq (U.start ?_)))
 refine U.ps 4 T rfl ?_
 refine U.done (C.nx ?_)
 refine C.jn (fun (x24 : List Int) => [(1, .p 0 0), (3, .o 1)]) (fun (x24 : List Int) => [(0, .box (eApiState st)), (1, .val (.os 1 eI x24))]) 2 hm (fun x24 hm => ?_) (fun J25 hm hJ25 => ?_)
 refine C.nx (C.seq (C.seq (U.start ?_)))
 refine U.ps 4 T rfl ?_
 refine U.done (C.nx ?_)
 refine C.jn (fun (x41 : List Int) => [(3, .o 0)]) (fun (x41 : List Int) => [(0, .val (.os 1 eI x41))]) 1 hm (fun x41 hm => ?_) (fun J42 hm hJ42 => ?_)
 refine C.nx (C.seq (U.start ?_))
 refine U.ps 2 T rfl ?_
 refine U.done (C.nx (C.ret ?_))
 exact C.fin T (rs' := [.o 0]) (H' := [(0, .val (.os 1 eI x41))]) (nl' := 1) [some 0] rfl rfl (.eq rfl) ⟨vL, trivial⟩ rfl rfl rfl rfl hβ ⟨x41, hm, rfl, rfl, rfl⟩
 refine C.block ?_
 refine St.wk (C.loop (fun (s43 : List Int × Int) => [(1, .p 0 0), (3, .o 1), (33, .i (st.People.length : Int)), (34, .i s43.2)]) (fun (s43 : List Int × Int) => [(0, .box (eApiState st)), (1, .val (.os 1 eI s43.1))]) hm (fun s43 Y44 hm => ?_)) (Wk.f [some 0, some 1] ⟨bX, vL, trivial⟩)
 refine C.seq (U.start ?_)
 refine U.ps 1 T rfl ?_
 refine U.done (C.nx (C.seq ?_))
 refine C.ite rfl hm (fun hb47 hm => ?_) (fun hb47 hm => ?_)
 refine C.skip (C.nx (C.seq (C.block (C.seq (U.start ?_)))))
 refine U.ps 2 T rfl ?_
 refine U.done (C.nx (U.start ?_))
 refine U.ps 3 T rfl ?_
 refine U.e rfl (.none rfl) (by exact Eff.c [] (v := true) (T_body_Person st s43.2 _ hm) en114 rfl rfl rfl (.eq rfl) trivial rfl rfl rfl rfl rfl rfl (fun _ _ => ⟨(.o _), ⟨.val (.os _ _ _ fun _ => (.cons (.v _) .nil)), trivial⟩⟩) (.inr ⟨rfl, rfl⟩) (fun _ => rfl) (fun _ => rfl) rfl) (fun x52' hm => ?_)
 obtain ⟨x52⟩ := x52'
 obtain ⟨hx53, hm⟩ := hm
 refine U.e1 rfl (.none rfl) (by exact Eff1.ap T rfl rfl rfl rfl rfl rfl (.inr ⟨_, rfl, rfl⟩) rfl rfl rfl (fun _ => rfl) rfl hx53) ?_
 refine U.ps 1 T rfl ?_
 refine U.done (C.bnx (C.nx (U.start ?_)))
 refine U.ps 2 T rfl ?_
 refine U.done (C.nx ?_)
 exact St.wk (C.next hm) (Wk.f [some 0, some 3] ⟨bX, vL, trivial⟩)
 refine C.exit (C.ex (C.ex (C.bex ?_)))
 exact St.wk (hJ42 _ hm) (Wk.f [some 1] ⟨vL, trivial⟩)
 refine C.block ?_
 refine St.wk (C.loop (fun (s26 : List Int × Int) => [(1, .p 0 0), (3, .o 1), (21, .i (st.Shelves.length : Int)), (22, .i s26.2)]) (fun (s26 : List Int × Int) => [(0, .box (eApiState st)), (1, .val (.os 1 eI s26.1))]) hm (fun s26 Y27 hm => ?_)) (Wk.f [some 0, some 1] ⟨bX, vL, trivial⟩)
 refine C.seq (U.start ?_)
 refine U.ps 1 T rfl ?_
 refine U.done (C.nx (C.seq ?_))
 refine C.ite rfl hm (fun hb30 hm => ?_) (fun hb30 hm => ?_)
 refine C.skip (C.nx (C.seq (C.block (C.seq (U.start ?_)))))
 refine U.ps 2 T rfl ?_
 refine U.done (C.nx (U.start ?_))
 refine U.ps 3 T rfl ?_
 refine U.e rfl (.none rfl) (by exact Eff.c [] (v := true) (T_body_Shelf st s26.2 _ hm) en113 rfl rfl rfl (.eq rfl) trivial rfl rfl rfl rfl rfl rfl (fun _ _ => ⟨(.o _), ⟨.val (.os _ _ _ fun _ => (.cons (.v _) .nil)), trivial⟩⟩) (.inr ⟨rfl, rfl⟩) (fun _ => rfl) (fun _ => rfl) rfl) (fun x35' hm => ?_)
 obtain ⟨x35⟩ := x35'
 obtain ⟨hx36, hm⟩ := hm
 refine U.e1 rfl (.none rfl) (by exact Eff1.ap T rfl rfl rfl rfl rfl rfl (.inr ⟨_, rfl, rfl⟩) rfl rfl rfl (fun _ => rfl) rfl hx36) ?_
 refine U.ps 1 T rfl ?_
 refine U.done (C.bnx (C.nx (U.start ?_)))
 refine U.ps 2 T rfl ?_
 refine U.done (C.nx ?_)
 exact St.wk (C.next hm) (Wk.f [some 0, some 3] ⟨bX, vL, trivial⟩)
 refine C.exit (C.ex (C.ex (C.bex ?_)))
 exact St.wk (hJ25 _ hm) (Wk.f [some 0, some 1] ⟨bX, vL, trivial⟩)
 refine C.block ?_
 refine St.wk (C.loop (fun (s9 : List Int × Int) => [(1, .p 0 0), (3, .o 1), (9, .i (st.Robots.length : Int)), (10, .i s9.2)]) (fun (s9 : List Int × Int) => [(0, .box (eApiState st)), (1, .val (.os 1 eI s9.1))]) hm (fun s9 Y10 hm => ?_)) (Wk.mk' [some 0, none] rfl rfl ⟨⟨_, rfl, (.eq rfl)⟩, ⟨_, rfl, (.nilO _ _ ⟨rfl, rfl⟩ rfl)⟩, ChkG.eqs rfl⟩ ⟨bX, ⟨_, rfl, .nil _ _⟩, trivial⟩ rfl)
 refine C.seq (U.start ?_)
 refine U.ps 1 T rfl ?_
 refine U.done (C.nx (C.seq ?_))
 refine C.ite rfl hm (fun hb13 hm => ?_) (fun hb13 hm => ?_)
 refine C.skip (C.nx (C.seq (C.block (C.seq (U.start ?_)))))
 refine U.ps 2 T rfl ?_
 refine U.done (C.nx (U.start ?_))
 refine U.ps 3 T rfl ?_
 refine U.e rfl (.none rfl) (by exact Eff.c [] (v := true) (T_body_Robot st s9.2 _ hm) en112 rfl rfl rfl (.eq rfl) trivial rfl rfl rfl rfl rfl rfl (fun _ _ => ⟨(.o _), ⟨.val (.os _ _ _ fun _ => (.cons (.v _) .nil)), trivial⟩⟩) (.inr ⟨rfl, rfl⟩) (fun _ => rfl) (fun _ => rfl) rfl) (fun x18' hm => ?_)
 obtain ⟨x18⟩ := x18'
 obtain ⟨hx19, hm⟩ := hm
 refine U.e1 rfl (.none rfl) (by exact Eff1.ap T rfl rfl rfl rfl rfl rfl (.inr ⟨_, rfl, rfl⟩) rfl rfl rfl (fun _ => rfl) rfl hx19) ?_
 refine U.ps 1 T rfl ?_
 refine U.done (C.bnx (C.nx (U.start ?_)))
 refine U.ps 2 T rfl ?_
 refine U.done (C.nx ?_)
 exact St.wk (C.next hm) (Wk.f [some 0, some 3] ⟨bX, vL, trivial⟩)
 refine C.exit (C.ex (C.ex (C.bex ?_)))
 exact St.wk (hJ8 _ hm) (Wk.f [some 0, some 1] ⟨bX, vL, trivial⟩)
def siR52 : Go.Shelf.Ren := ⟨fun | 125 => 116 | 128 => 158 | 129 => 159 | 189 => 52 | 215 => 175 | 216 => 155 | 257 => 115 | 294 => 149 | 295 => 150 | 296 => 151 | 297 => 152 | 298 => 153 | 299 => 154 | 300 => 156 | 301 => 157 | 328 => 170 | 329 => 171 | 330 => 172 | 331 => 173 | 332 => 174 | 343 => 177 | n => n, fun | 0 => 0 | 3 => 3 | 4 => 4 | 5 => 5 | 9 => 9 | 28 => 22 | 46 => 126 | 51 => 167 | 53 => 169 | 131 => 47 | 182 => 159 | 183 => 160 | 218 => 172 | 222 => 176 | 228 => 179 | 229 => 180 | n => n, fun n => n⟩
theorem siL52 : Go.Proofs.Lays.n189 Tryz.prog siR52 where
  mixed := by kernel_rfl
  f125 := Tryz.func116.trans (congrArg some (by kernel_rfl))
  f128 := Tryz.func158.trans (congrArg some (by kernel_rfl))
  f129 := Tryz.func159.trans (congrArg some (by kernel_rfl))
  f189 := Tryz.func52.trans (congrArg some (by kernel_rfl))
  f215 := Tryz.func175.trans (congrArg some (by kernel_rfl))
  f216 := Tryz.func155.trans (congrArg some (by kernel_rfl))
  f257 := Tryz.func115.trans (congrArg some (by kernel_rfl))
  f294 := Tryz.func149.trans (congrArg some (by kernel_rfl))
  f295 := Tryz.func150.trans (congrArg some (by kernel_rfl))
  f296 := Tryz.func151.trans (congrArg some (by kernel_rfl))
  f297 := Tryz.func152.trans (congrArg some (by kernel_rfl))
  f298 := Tryz.func153.trans (congrArg some (by kernel_rfl))
  f299 := Tryz.func154.trans (congrArg some (by kernel_rfl))
  f300 := Tryz.func156.trans (congrArg some (by kernel_rfl))
  f301 := Tryz.func157.trans (congrArg some (by kernel_rfl))
  f328 := Tryz.func170.trans (congrArg some (by kernel_rfl))
  f329 := Tryz.func171.trans (congrArg some (by kernel_rfl))
  f330 := Tryz.func172.trans (congrArg some (by kernel_rfl))
  f331 := Tryz.func173.trans (congrArg some (by kernel_rfl))
  f332 := Tryz.func174.trans (congrArg some (by kernel_rfl))
  f343 := Tryz.func177.trans (congrArg some (by kernel_rfl))
  t0 := Tryz.underlying0
  a0 := Tryz.isAgg0
  z0 := Tryz.sizeOf0
  v0 := Tryz.zeroValue0
  t3 := Tryz.underlying3
  a3 := Tryz.isAgg3
  z3 := Tryz.sizeOf3
  v3 := Tryz.zeroValue3
  t4 := Tryz.underlying4
  a4 := Tryz.isAgg4
  z4 := Tryz.sizeOf4
  v4 := Tryz.zeroValue4
  t5 := Tryz.underlying5
  a5 := Tryz.isAgg5
  z5 := Tryz.sizeOf5
  v5 := Tryz.zeroValue5
  t9 := Tryz.underlying9
  a9 := Tryz.isAgg9
  z9 := Tryz.sizeOf9
  v9 := Tryz.zeroValue9
  t28 := Tryz.underlying22
  a28 := Tryz.isAgg22
  z28 := Tryz.sizeOf22
  v28 := Tryz.zeroValue22
  t46 := Tryz.underlying126
  a46 := Tryz.isAgg126
  z46 := Tryz.sizeOf126
  v46 := Tryz.zeroValue126
  t51 := Tryz.underlying167
  a51 := Tryz.isAgg167
  z51 := Tryz.sizeOf167
  v51 := Tryz.zeroValue167
  t53 := Tryz.underlying169
  a53 := Tryz.isAgg169
  z53 := Tryz.sizeOf169
  v53 := Tryz.zeroValue169
  t131 := Tryz.underlying47
  a131 := Tryz.isAgg47
  z131 := Tryz.sizeOf47
  v131 := Tryz.zeroValue47
  t182 := Tryz.underlying159
  a182 := Tryz.isAgg159
  z182 := Tryz.sizeOf159
  v182 := Tryz.zeroValue159
  t183 := Tryz.underlying160
  a183 := Tryz.isAgg160
  z183 := Tryz.sizeOf160
  v183 := Tryz.zeroValue160
  t218 := Tryz.underlying172
  a218 := Tryz.isAgg172
  z218 := Tryz.sizeOf172
  v218 := Tryz.zeroValue172
  t222 := Tryz.underlying176
  a222 := Tryz.isAgg176
  z222 := Tryz.sizeOf176
  v222 := Tryz.zeroValue176
  t228 := Tryz.underlying179
  a228 := Tryz.isAgg179
  z228 := Tryz.sizeOf179
  v228 := Tryz.zeroValue179
  t229 := Tryz.underlying180
  a229 := Tryz.isAgg180
  z229 := Tryz.sizeOf180
  v229 := Tryz.zeroValue180
theorem T_slices_Sort_int_int__o0 (p0 : List Int) (post : List Int → Prop) (hm : V_slices_Sort_int_int__o0 p0 post) :
    Tr Tryz.prog 52 [.o 0] [(0, .val (.os 1 eI p0))] 1 (fun A H' k => ∃ y, post y ∧ A = (.tup []) ∧ H' = [(0, .val (.os 1 eI y))] ∧ k = 1) := by
 unfold V_slices_Sort_int_int__o0 at hm
 exact Tr.sortInt siL52 p0 hm.1 hm.2
theorem T_body_All (st : ApiState) (post : (List Int) → Prop) (hm : V_body_All st post) :
    Tr Tryz.prog 18 [.agg (eApiState st)] [] 0 (fun A H' k => ∃ y, post y ∧ A = (.o 0) ∧ H' = [(0, .val (.os 1 eI y))] ∧ k = 1) := by
 refine Tr.intro (n := 9) Tryz.func18 rfl Tryz.ntmps18 rfl (fun w0 ok F β hβ => ?_)
 unfold V_body_All at hm
 refine C.seq (U.start ?_)
 refine U.e1 rfl (.none rfl) (by exact Eff1.box rfl rfl rfl rfl rfl) ?_
 refine U.ps 1 T rfl ?_
 refine U.done (C.nx (C.seq (U.start ?_)))
 refine U.ps 1 T rfl ?_
 refine U.e rfl (.none rfl) (by exact Eff.c [] (v := true) (T_body_all st _ hm) en51 rfl rfl rfl (.eq rfl) trivial rfl rfl rfl rfl rfl rfl (fun _ _ => ⟨(.o _), ⟨.val (.os _ _ _ fun _ => (.cons (.v _) .nil)), trivial⟩⟩) (.inr ⟨rfl, rfl⟩) (fun _ => rfl) (fun _ => rfl) rfl) (fun x5' hm => ?_)
 obtain ⟨x5⟩ := x5'
 refine U.ps 1 T rfl ?_
 refine U.done (C.nx (C.seq (U.start ?_)))
 refine U.ps 1 T rfl ?_
 refine U.e rfl (.none rfl) (by exact Eff.c [some 1] (v := false) (T_slices_Sort_int_int__o0 x5 _ hm) en52 rfl rfl rfl (.eq rfl) ⟨vL, trivial⟩ rfl rfl rfl rfl rfl rfl (fun h => by cases h) (.inl rfl) (fun _ => rfl) (fun _ => rfl) rfl) (fun x8' hm => ?_)
 obtain ⟨x8⟩ := x8'
 refine U.done (C.nx (C.seq (U.start ?_)))
 refine U.ps 2 T rfl ?_
 refine U.done (C.nx (C.ret ?_))
 exact C.fin T (rs' := [.o 0]) (H' := [(0, .val (.os 1 eI x8))]) (nl' := 1) [some 1] rfl rfl (.eq rfl) ⟨vL, trivial⟩ rfl rfl rfl rfl hβ ⟨x8, hm, rfl, rfl, rfl⟩
theorem T_act_move (s_1 : ApiSite) (st : ApiState) (r : ApiRobot) (d : Int) (post : Int → Prop) (hm : V_act_move s_1 st r d post) :
    Tr Tryz.prog 39 [.agg (eApiSite s_1), .agg (eApiState st), .agg (eApiRobot r), .i d] [] 0 (fun A H' k => ∃ y, post y ∧ A = (.i y) ∧ H' = [] ∧ k = 0) := by
 refine Tr.intro (n := 64) Tryz.func39 rfl Tryz.ntmps39 rfl (fun w0 ok F β hβ => ?_)
 unfold V_act_move at hm
 refine C.seq (U.start ?_)
 refine U.e1 rfl (.none rfl) (by exact Eff1.box rfl rfl rfl rfl rfl) ?_
 refine U.e1 rfl (.none rfl) (by exact Eff1.box rfl rfl rfl rfl rfl) ?_
 refine U.e1 rfl (.none rfl) (by exact Eff1.box rfl rfl rfl rfl rfl) ?_
 refine U.ps 1 T rfl ?_
 refine U.done (C.nx (C.seq (U.start ?_)))
 refine U.ps 5 T rfl ?_
 refine U.e rfl (.none rfl) (by exact Eff.k (T_floor_Next s_1.Floor r.Cell d _ hm) en19 rfl rfl rfl (.eq rfl) (fun _ _ => ⟨(.tup (.cons (.v _) (.cons (.v _) .nil))), trivial⟩)) (fun x5' hm => ?_)
 obtain ⟨x5⟩ := x5'
 refine U.ps 3 T rfl ?_
 refine U.e1 rfl (.none rfl) (by exact Eff1.al T rfl rfl rfl rfl) ?_
 refine U.e1 rfl (.none rfl) (by exact Eff1.st T rfl rfl rfl rfl rfl rfl rfl rfl rfl rfl) ?_
 refine U.ps 1 T rfl ?_
 refine U.done (C.nx (C.seq (C.seq ?_)))
 refine C.jn (fun (x6 : Bool) => [(3, .i d), (4, .p 0 0), (5, .p 1 0), (6, .p 2 0), (9, .p 3 0), (29, .b x6)]) (fun (x6 : Bool) => [(0, .box (eApiSite s_1)), (1, .box (eApiState st)), (2, .box (eApiRobot r)), (3, .box [.i x5.1])]) 4 hm (fun x6 hm => ?_) (fun J7 hm hJ7 => ?_)
 refine C.nx ?_
 refine C.ite rfl hm (fun hb10 hm => ?_) (fun hb10 hm => ?_)
 refine C.seq (U.start ?_)
 refine U.ps 1 T rfl ?_
 refine U.done (C.nx (C.ret (C.rt ?_)))
 exact C.f0 T (rs' := [.i 14]) hβ ⟨14, hm, rfl, rfl, rfl⟩
 refine C.skip (C.nx (C.seq (C.seq ?_)))
 refine C.jn (fun (x13 : Bool) => [(4, .p 0 0), (5, .p 1 0), (6, .p 2 0), (9, .p 3 0), (35, .b x13)]) (fun (x13 : Bool) => [(0, .box (eApiSite s_1)), (1, .box (eApiState st)), (2, .box (eApiRobot r)), (3, .box [.i x5.1])]) 4 hm (fun x13 hm => ?_) (fun J14 hm hJ14 => ?_)
 refine C.nx ?_
 refine C.jn (fun (x16 : Unit) => [(4, .p 0 0), (5, .p 1 0), (6, .p 2 0), (9, .p 3 0)]) (fun (x16 : Unit) => [(0, .box (eApiSite s_1)), (1, .box (eApiState st)), (2, .box (eApiRobot r)), (3, .box [.i x5.1])]) 4 hm (fun x16 hm => ?_) (fun J17 hm hJ17 => ?_)
 refine C.nx (C.seq (C.seq (U.start ?_)))
 refine U.ps 4 T rfl ?_
 refine U.e rfl (.none rfl) (by exact Eff.k (T_rules_Open s_1 x5.1 st.Tick _ hm) en25 rfl rfl rfl (.eq rfl) (fun _ _ => ⟨(.v _), trivial⟩)) (fun x29' hm => ?_)
 obtain ⟨x29⟩ := x29'
 refine U.ps 1 T rfl ?_
 refine U.done (C.nx ?_)
 refine C.ite rfl hm (fun hb30 hm => ?_) (fun hb30 hm => ?_)
 refine C.seq (U.start ?_)
 refine U.ps 1 T rfl ?_
 refine U.done (C.nx (C.ret (C.rt ?_)))
 exact C.f0 T (rs' := [.i 18]) hβ ⟨18, hm, rfl, rfl, rfl⟩
 refine C.skip (C.nx (C.seq (U.start ?_)))
 refine U.ps 1 T rfl ?_
 refine U.e rfl (.none rfl) (by exact Eff.c [] (v := true) (T_body_All st _ hm) en18 rfl rfl rfl (.eq rfl) trivial rfl rfl rfl rfl rfl rfl (fun _ _ => ⟨(.o _), ⟨.val (.os _ _ _ fun _ => (.cons (.v _) .nil)), trivial⟩⟩) (.inr ⟨rfl, rfl⟩) (fun _ => rfl) (fun _ => rfl) rfl) (fun x35' hm => ?_)
 obtain ⟨x35⟩ := x35'
 refine U.ps 1 T rfl ?_
 refine U.done (C.nx (C.seq (C.seq ?_)))
 refine C.jn (fun (x36 : Bool) => [(63, .b x36)]) (fun (x36 : Bool) => []) 0 hm (fun x36 hm => ?_) (fun J37 hm hJ37 => ?_)
 refine C.nx ?_
 refine C.ite rfl hm (fun hb44 hm => ?_) (fun hb44 hm => ?_)
 refine C.seq (U.start ?_)
 refine U.ps 1 T rfl ?_
 refine U.done (C.nx (C.ret (C.rt ?_)))
 exact C.f0 T (rs' := [.i 15]) hβ ⟨15, hm, rfl, rfl, rfl⟩
 refine C.skip (C.nx (C.seq (U.start ?_)))
 refine U.ps 1 T rfl ?_
 refine U.done (C.nx (C.ret ?_))
 exact C.f0 T (rs' := [.i 0]) hβ ⟨0, hm, rfl, rfl, rfl⟩
 refine U.start ?_
 refine U.ps 2 T rfl ?_
 refine U.e rfl (.none rfl) (by exact Eff.k (T_body_Low x5.1 _ hm) en23 rfl rfl rfl (.eq rfl) (fun _ _ => ⟨(.v _), trivial⟩)) (fun x38' hm => ?_)
 obtain ⟨x38⟩ := x38'
 refine U.e rfl (.none rfl) (by exact Eff.k (T_slices_Contains_int_int x35 x38 _ hm) en94 rfl rfl rfl (.cons (.fz rfl rfl rfl (.os fun _ => .cons (.ro rfl) .nil)) (.eq rfl)) (fun _ _ => ⟨(.v _), trivial⟩)) (fun x39' hm => ?_)
 obtain ⟨x39⟩ := x39'
 refine U.ps 1 T rfl ?_
 refine hm.cs (fun hb40 hm => ?_) (fun hb40 hm => ?_)
 refine U.sks 4 4 false 53 hb40 rfl rfl rfl ?_
 refine U.sku 4 8 true 57 rfl rfl rfl ?_
 refine U.sks 1 4 false 53 hb40 rfl rfl rfl ?_
 refine U.r rfl (.none rfl) rfl rfl (by exact Rd.pk rfl rfl hb40 rfl) ?_
 refine U.done ?_
 exact St.wk (hJ37 _ hm) (Wk.e)
 refine U.pg 4 4 false 53 hb40 T rfl rfl rfl rfl ?_
 refine hm.cs (fun hb41 hm => ?_) (fun hb41 hm => ?_)
 refine U.pg 2 8 true 57 hb41 T rfl rfl rfl rfl ?_
 refine U.e rfl (.take 8 true 57 _ hb41 rfl rfl rfl) (by exact Eff.k (T_body_High x5.1 _ hm) en24 rfl rfl rfl (.eq rfl) (fun _ _ => ⟨(.v _), trivial⟩)) (fun x42' hm => ?_)
 obtain ⟨x42⟩ := x42'
 refine U.e rfl (.take 8 true 57 _ hb41 rfl rfl rfl) (by exact Eff.k (T_slices_Contains_int_int x35 x42 _ hm) en94 rfl rfl rfl (.cons (.fz rfl rfl rfl (.os fun _ => .cons (.ro rfl) .nil)) (.eq rfl)) (fun _ _ => ⟨(.v _), trivial⟩)) (fun x43' hm => ?_)
 obtain ⟨x43⟩ := x43'
 refine U.r rfl (.take 4 false 53 _ hb40 rfl rfl rfl) rfl rfl (by exact Rd.pk rfl rfl hb41 rfl) ?_
 refine U.r rfl (.none rfl) rfl rfl (by exact Rd.pk' rfl rfl hb40 rfl) ?_
 refine U.done ?_
 exact St.wk (hJ37 _ hm) (Wk.e)
 refine U.sks 4 8 true 57 hb41 rfl rfl rfl ?_
 refine U.r rfl (.take 4 false 53 _ hb40 rfl rfl rfl) rfl rfl (by exact Rd.pk' rfl rfl hb41 rfl) ?_
 refine U.r rfl (.none rfl) rfl rfl (by exact Rd.pk' rfl rfl hb40 rfl) ?_
 refine U.done ?_
 exact St.wk (hJ37 _ hm) (Wk.e)
 refine C.ite rfl hm (fun hb18 hm => ?_) (fun hb18 hm => ?_)
 refine C.seq (U.start ?_)
 refine U.ps 2 T rfl ?_
 refine U.done (C.nx (C.seq (U.start ?_)))
 refine U.ps 3 T rfl ?_
 refine U.e rfl (.none rfl) (by exact Eff.k (T_slices_ContainsFunc_api_Stuck_api_Stuck__act_move_1 st.Stuck r x5.1 _ hm) en96 rfl rfl rfl (.cons (.eq rfl) (.cons (.fn (.eq rfl) (.cons (.fzp rfl rfl rfl rfl (.eq rfl) rfl) (.cons (.fzp rfl rfl rfl rfl (.eq rfl) rfl) .nil))) .nil)) (fun _ _ => ⟨(.v _), trivial⟩)) (fun x23' hm => ?_)
 obtain ⟨x23⟩ := x23'
 refine U.done (C.nx ?_)
 refine C.ite rfl hm (fun hb24 hm => ?_) (fun hb24 hm => ?_)
 refine C.seq (U.start ?_)
 refine U.ps 1 T rfl ?_
 refine U.done (C.nx (C.ret (C.rt ?_)))
 exact C.f0 T (rs' := [.i 14]) hβ ⟨14, hm, rfl, rfl, rfl⟩
 refine C.skip ?_
 exact St.wk (hJ17 _ hm) (Wk.f [some 0, some 1, some 2, some 3] ⟨bX, bX, bX, bX, trivial⟩)
 refine C.skip ?_
 exact St.wk (hJ17 _ hm) (Wk.f [some 0, some 1, some 2, some 3] ⟨bX, bX, bX, bX, trivial⟩)
 refine U.start ?_
 refine U.ps 3 T rfl ?_
 refine hm.cs (fun hb15 hm => ?_) (fun hb15 hm => ?_)
 refine U.sks 2 2 false 32 hb15 rfl rfl rfl ?_
 refine U.r rfl (.none rfl) rfl rfl (by exact Rd.pk rfl rfl hb15 rfl) ?_
 refine U.done ?_
 exact St.wk (hJ14 _ hm) (Wk.f [some 0, some 1, some 2, some 3] ⟨bX, bX, bX, bX, trivial⟩)
 refine U.pg 2 2 false 32 hb15 T rfl rfl rfl rfl ?_
 refine U.r rfl (.none rfl) rfl rfl (by exact Rd.pk' rfl rfl hb15 rfl) ?_
 refine U.done ?_
 exact St.wk (hJ14 _ hm) (Wk.f [some 0, some 1, some 2, some 3] ⟨bX, bX, bX, bX, trivial⟩)
 refine U.start ?_
 refine U.ps 3 T rfl ?_
 refine hm.cs (fun hb8 hm => ?_) (fun hb8 hm => ?_)
 refine U.pg 3 2 false 24 (ntF hb8) T rfl rfl rfl rfl ?_
 refine U.e rfl (.take 2 false 24 _ (ntF hb8) rfl rfl rfl) (by exact Eff.k (T_slices_Contains_int_int st.Dead x5.1 _ hm) en94 rfl rfl rfl (.eq rfl) (fun _ _ => ⟨(.v _), trivial⟩)) (fun x9' hm => ?_)
 obtain ⟨x9⟩ := x9'
 refine U.r rfl (.none rfl) rfl rfl (by exact Rd.pk' rfl rfl (ntF hb8) rfl) ?_
 refine U.done ?_
 exact St.wk (hJ7 _ hm) (Wk.f [some 0, some 1, some 2, some 3] ⟨bX, bX, bX, bX, trivial⟩)
 refine U.sks 4 2 false 24 (ntT hb8) rfl rfl rfl ?_
 refine U.r rfl (.none rfl) rfl rfl (by exact Rd.pk rfl rfl (ntT hb8) rfl) ?_
 refine U.done ?_
 exact St.wk (hJ7 _ hm) (Wk.f [some 0, some 1, some 2, some 3] ⟨bX, bX, bX, bX, trivial⟩)
theorem T_slices_Backward_int_int (s_1 : List Int) (post : (List Int) → Prop) (hm : V_slices_Backward_int_int s_1 post) :
    Tr Tryz.prog 121 [.sl 1 eI s_1] [] 0 (fun A H' k => ∃ y, post y ∧ A = (.fn (.func 161) [] [.p 0 0]) ∧ H' = [(0, .box [.sl 1 eI y])] ∧ k = 1) := by
 refine Tr.intro (n := 4) Tryz.func121 rfl Tryz.ntmps121 rfl (fun w0 ok F β hβ => ?_)
 unfold V_slices_Backward_int_int at hm
 refine C.seq (U.start ?_)
 refine U.e1 rfl (.none rfl) (by exact Eff1.box rfl rfl rfl rfl rfl) ?_
 refine U.ps 1 T rfl ?_
 refine U.done (C.nx (C.seq (U.start ?_)))
 refine U.ps 2 T rfl ?_
 refine U.done (C.nx (C.ret ?_))
 exact C.fin T (rs' := [.fn (.func 161) [] [.p 0 0]]) (H' := [(0, .box [.sl 1 eI (s_1)])]) (nl' := 1) [some 0] rfl rfl (.eq rfl) ⟨bX, trivial⟩ rfl rfl rfl rfl hβ ⟨(s_1), hm, rfl, rfl, rfl⟩
theorem T_rules_standing (st : ApiState) (post : (List (Int × Int)) → Prop) (hm : V_rules_standing st post) :
    Tr Tryz.prog 54 [.agg (eApiState st)] [] 0 (fun A H' k => ∃ y, post y ∧ A = (.o 0) ∧ H' = [(0, .val (.om kI veI y))] ∧ k = 1) := by
 refine Tr.intro (n := 35) Tryz.func54 rfl Tryz.ntmps54 rfl (fun w0 ok F β hβ => ?_)
 unfold V_rules_standing at hm
 refine C.seq (U.start ?_)
 refine U.e1 rfl (.none rfl) (by exact Eff1.box rfl rfl rfl rfl rfl) ?_
 refine U.ps 1 T rfl ?_
 refine U.done (C.nx (C.seq (U.start ?_)))
 refine U.e1 rfl (.none rfl) (by exact Eff1.mm kI veB rfl rfl rfl) ?_
 refine U.e1 rfl (.none rfl) (by exact Eff1.al T rfl rfl rfl rfl) ?_
 refine U.e1 rfl (.none rfl) (by exact Eff1.st T rfl rfl rfl rfl rfl rfl rfl rfl rfl rfl) ?_
 refine U.done (C.nx (C.seq (C.seq (U.start ?_))))
 refine U.ps 4 T rfl ?_
 refine U.done (C.nx ?_)
 refine C.jn (fun (x7 : List (Int × Bool)) => [(1, .p 0 0), (3, .p 1 0)]) (fun (x7 : List (Int × Bool)) => [(0, .box (eApiState st)), (1, .box [.o 2]), (2, .val (.om kI veB x7))]) 3 hm (fun x7 hm => ?_) (fun J8 hm hJ8 => ?_)
 refine C.nx (C.seq (U.start ?_))
 refine U.e1 rfl (.none rfl) (by exact Eff1.mm kI veI rfl rfl rfl) ?_
 refine U.e1 rfl (.none rfl) (by exact Eff1.al T rfl rfl rfl rfl) ?_
 refine U.e1 rfl (.none rfl) (by exact Eff1.st T rfl rfl rfl rfl rfl rfl rfl rfl rfl rfl) ?_
 refine U.done (C.nx (C.seq (C.seq (U.start ?_))))
 refine U.ps 2 T rfl ?_
 refine U.e rfl (.none rfl) (by exact Eff.c [] (v := false) (T_slices_Backward_int_int st.Shelves _ hm) en121 rfl rfl rfl (.eq rfl) trivial rfl rfl rfl rfl rfl rfl (fun h => by cases h) (.inr ⟨rfl, rfl⟩) (fun _ => rfl) (fun _ => rfl) rfl) (fun x25' hm => ?_)
 obtain ⟨x25⟩ := x25'
 refine U.done (C.nx (C.block ?_))
 refine St.wk (Γ' := [(1, .p 0 0), (3, .p 1 0), (6, .p 3 0), (21, .o 4), (22, .p 0 1), (23, .sl 1 eI st.Shelves), (24, .fn (.func 161) [] [.rp [.sl 1 eI x25]])]) (H' := [(0, .box (eApiState st)), (1, .box [.o 2]), (2, .val (.om kI veB x7)), (3, .box [.o 4]), (4, .val (.om kI veI ([] : List (Int × Int))))]) (nl' := 5) ?_ (Wk.mk' [some 0, some 1, some 2, some 4, some 3] rfl rfl ⟨⟨_, rfl, (.eq rfl)⟩, ⟨_, rfl, (.eq rfl)⟩, ⟨_, rfl, (.eq rfl)⟩, ⟨_, rfl, (.eq rfl)⟩, ⟨_, rfl, (.eq rfl)⟩, ⟨_, rfl, (.eq rfl)⟩, ⟨_, rfl, (.fn (.eq rfl) (.cons (.fzp rfl rfl rfl rfl (.eq rfl) rfl) .nil))⟩, trivial⟩ ⟨bX, bX, vL, bX, vL, trivial⟩ rfl)
 obtain ⟨hx29, hm⟩ := hm
 refine St.wk (C.range (Γ0 := [(3, .p 0 0), (6, .p 1 0), (24, .fn (.func 161) [] [.rp [.sl 1 eI x25]])]) (Γ1 := fun (x26 : Int × Int) => [(8, .i x26.2), (7, .i x26.1), (26, .i x26.2), (25, .i x26.1), (3, .p 0 0), (6, .p 1 0), (24, .fn (.func 161) [] [.rp [.sl 1 eI x25]])]) (Hf := fun (s27 : List (Int × Int)) => [(0, .box [.o 2]), (1, .box [.o 3]), (2, .val (.om kI veB x7)), (3, .val (.om kI veI s27))]) 2 hm (it161 x25 hx29) en161 rfl rfl rfl rfl rfl (fun _ => rfl) rfl rfl (fun _ => rfl) (fun x26 s27 Y28 hm w0 ok M β l => ?_) (fun s37 hm => ?_)) (Wk.f [some 1, some 3, some 2, some 4] ⟨bX, bX, vL, vL, trivial⟩)
 refine CI.block ?_
 refine CI.seq ?_
 refine UI.start (by kernel_rfl) (by repeat (first | exact NoOut.rnd | refine NoOut.th ?_ | refine NoOut.blk ?_)) ?_
 refine U.ps 2 T rfl ?_
 refine U.r rfl (.none rfl) rfl rfl (by exact Rd.lk T (ke := kI) (ve := veB) (xs := x7) (z0 := false) (x := x26.1) rfl rfl kt3 zt4 (fun _ => rfl) rfl (.o rfl) rfl rfl rfl) ?_
 refine U.ps 1 T rfl ?_
 refine U.done (C.nx ?_)
 refine CI.jn (fun (x32 : List (Int × Int)) => []) (fun (x32 : List (Int × Int)) => [(0, .box [.o 2]), (1, .box [.o 3]), (2, .val (.om kI veB x7)), (3, .val (.om kI veI x32))]) 4 hm (fun x32 hm => ?_) (fun J33 hm hJ33 => ?_)
 refine C.bnx ?_
 exact St.wk (CI.next hm) (Wk.mk' [some 0, some 1, some 2, some 3] rfl rfl trivial ⟨bX, bX, vL, vL, trivial⟩ rfl)
 refine CI.ite rfl hm (fun hb34 hm => ?_) (fun hb34 hm => ?_)
 refine UI.start (by kernel_rfl) (by repeat (first | exact NoOut.rnd | refine NoOut.th ?_ | refine NoOut.blk ?_)) ?_
 refine U.ps 3 T rfl ?_
 refine U.e1 rfl (.none rfl) (by exact Eff1.mu T (x := x26.2) (y := x26.1) (.inl rfl) rfl kt3 (fun _ => rfl) rfl rfl rfl rfl rfl (.inl rfl) rfl) ?_
 refine U.done ?_
 exact St.wk (hJ33 _ hm) (Wk.mk' [some 0, some 1, some 2, some 3] rfl rfl trivial ⟨bX, bX, vL, vL, trivial⟩ rfl)
 refine CI.skip ?_
 exact St.wk (hJ33 _ hm) (Wk.mk' [some 0, some 1, some 2, some 3] rfl rfl trivial ⟨bX, bX, vL, vL, trivial⟩ rfl)
 refine C.bnx (C.nx (C.seq (U.start ?_)))
 refine U.ps 2 T rfl ?_
 refine U.done (C.nx (C.ret ?_))
 exact C.fin T (rs' := [.o 0]) (H' := [(0, .val (.om kI veI s37))]) (nl' := 1) [some 3] rfl rfl (.eq rfl) ⟨vL, trivial⟩ rfl rfl rfl rfl hβ ⟨s37, hm, rfl, rfl, rfl⟩
 refine C.block ?_
 refine St.wk (C.loop (fun (s9 : List (Int × Bool) × Int) => [(1, .p 0 0), (3, .p 1 0), (11, .sl 6 eApiRobot st.Robots), (12, .i (st.Robots.length : Int)), (13, .i s9.2)]) (fun (s9 : List (Int × Bool) × Int) => [(0, .box (eApiState st)), (1, .box [.o 2]), (2, .val (.om kI veB s9.1))]) hm (fun s9 Y10 hm => ?_)) (Wk.f [some 0, some 2, some 1] ⟨bX, bX, vL, trivial⟩)
 refine C.seq (U.start ?_)
 refine U.ps 1 T rfl ?_
 refine U.done (C.nx (C.seq ?_))
 refine C.ite rfl hm (fun hb13 hm => ?_) (fun hb13 hm => ?_)
 refine C.skip (C.nx (C.seq (C.block (C.seq (U.start ?_)))))
 obtain ⟨x16, hx16, hm⟩ := hm
 refine U.r rfl (.none rfl) rfl rfl (by exact Rd.ix T rfl rfl rfl rfl rfl rfl hx16) ?_
 refine U.ps 1 T rfl ?_
 refine U.e1 rfl (.none rfl) (by exact Eff1.al T rfl rfl rfl rfl) ?_
 refine U.e1 rfl (.none rfl) (by exact Eff1.st T rfl rfl rfl rfl rfl rfl rfl rfl rfl rfl) ?_
 refine U.done (C.nx (U.start ?_))
 refine U.ps 3 T rfl ?_
 refine U.e1 rfl (.none rfl) (by exact Eff1.mu T (x := x16.Load) (y := true) (.inl rfl) rfl kt3 (fun _ => rfl) rfl rfl rfl rfl rfl (.inl rfl) rfl) ?_
 refine U.done (C.bnx (C.nx (U.start ?_)))
 refine U.ps 2 T rfl ?_
 refine U.done (C.nx ?_)
 exact St.wk (C.next hm) (Wk.f [some 0, some 1, some 2] ⟨bX, bX, vL, trivial⟩)
 refine C.exit (C.ex (C.ex (C.bex ?_)))
 exact St.wk (hJ8 _ hm) (Wk.f [some 0, some 1, some 2] ⟨bX, bX, vL, trivial⟩)
theorem T_rules_At (s_1 : ApiSite) (st : ApiState) (c : Int) (post : Int → Prop) (hm : V_rules_At s_1 st c post) :
    Tr Tryz.prog 20 [.agg (eApiSite s_1), .agg (eApiState st), .i c] [] 0 (fun A H' k => ∃ y, post y ∧ A = (.i y) ∧ H' = [] ∧ k = 0) := by
 refine Tr.intro (n := 18) Tryz.func20 rfl Tryz.ntmps20 rfl (fun w0 ok F β hβ => ?_)
 unfold V_rules_At at hm
 refine C.seq (U.start ?_)
 refine U.e1 rfl (.none rfl) (by exact Eff1.box rfl rfl rfl rfl rfl) ?_
 refine U.e1 rfl (.none rfl) (by exact Eff1.box rfl rfl rfl rfl rfl) ?_
 refine U.ps 1 T rfl ?_
 refine U.done (C.nx (C.seq (C.seq (U.start ?_))))
 refine U.ps 1 T rfl ?_
 refine U.e rfl (.none rfl) (by exact Eff.c [] (v := true) (T_rules_standing st _ hm) en54 rfl rfl rfl (.eq rfl) trivial rfl rfl rfl rfl rfl rfl (fun _ _ => ⟨(.o _), ⟨.val (.om _ _ _ fun _ => (.v _)), trivial⟩⟩) (.inr ⟨rfl, rfl⟩) (fun _ => rfl) (fun _ => rfl) rfl) (fun x5' hm => ?_)
 obtain ⟨x5⟩ := x5'
 refine U.ps 1 T rfl ?_
 refine U.r rfl (.none rfl) rfl rfl (by exact Rd.lk2 T (ke := kI) (ve := veI) (xs := x5) (z0 := 0) (x := c) rfl rfl kt3 zt3 (fun _ => rfl) rfl (.o rfl) rfl rfl rfl) ?_
 refine U.ps 5 T rfl ?_
 refine U.done (C.nx (C.seq (U.start ?_)))
 refine U.ps 1 T rfl ?_
 refine U.done (C.nx ?_)
 refine C.ite rfl hm (fun hb8 hm => ?_) (fun hb8 hm => ?_)
 refine C.seq (U.start ?_)
 refine U.ps 2 T rfl ?_
 refine U.done (C.nx (C.ret (C.rt ?_)))
 exact C.f0 T (rs' := [.i ((lk x5 c).getD 0)]) hβ ⟨((lk x5 c).getD 0), hm, rfl, rfl, rfl⟩
 refine C.skip (C.nx (C.seq (U.start ?_)))
 refine U.ps 1 T rfl ?_
 refine U.done (C.nx (C.ret ?_))
 exact C.f0 T (rs' := [.i (-1)]) hβ ⟨(-1), hm, rfl, rfl, rfl⟩
theorem T_act_lift (s_1 : ApiSite) (st : ApiState) (r : ApiRobot) (post : Int → Prop) (hm : V_act_lift s_1 st r post) :
    Tr Tryz.prog 40 [.agg (eApiSite s_1), .agg (eApiState st), .agg (eApiRobot r)] [] 0 (fun A H' k => ∃ y, post y ∧ A = (.i y) ∧ H' = [] ∧ k = 0) := by
 refine Tr.intro (n := 16) Tryz.func40 rfl Tryz.ntmps40 rfl (fun w0 ok F β hβ => ?_)
 unfold V_act_lift at hm
 refine C.seq (U.start ?_)
 refine U.e1 rfl (.none rfl) (by exact Eff1.box rfl rfl rfl rfl rfl) ?_
 refine U.e1 rfl (.none rfl) (by exact Eff1.box rfl rfl rfl rfl rfl) ?_
 refine U.e1 rfl (.none rfl) (by exact Eff1.box rfl rfl rfl rfl rfl) ?_
 refine U.ps 1 T rfl ?_
 refine U.done (C.nx (C.seq (C.seq (U.start ?_))))
 refine U.ps 3 T rfl ?_
 refine U.done (C.nx ?_)
 refine C.ite rfl hm (fun hb5 hm => ?_) (fun hb5 hm => ?_)
 refine C.seq (U.start ?_)
 refine U.ps 1 T rfl ?_
 refine U.done (C.nx (C.ret (C.rt ?_)))
 exact C.f0 T (rs' := [.i 7]) hβ ⟨7, hm, rfl, rfl, rfl⟩
 refine C.skip (C.nx (C.seq (C.seq (U.start ?_))))
 refine U.ps 4 T rfl ?_
 refine U.e rfl (.none rfl) (by exact Eff.k (T_rules_At s_1 st r.Cell _ hm) en20 rfl rfl rfl (.eq rfl) (fun _ _ => ⟨(.v _), trivial⟩)) (fun x10' hm => ?_)
 obtain ⟨x10⟩ := x10'
 refine U.ps 1 T rfl ?_
 refine U.done (C.nx ?_)
 refine C.ite rfl hm (fun hb11 hm => ?_) (fun hb11 hm => ?_)
 refine C.seq (U.start ?_)
 refine U.ps 1 T rfl ?_
 refine U.done (C.nx (C.ret (C.rt ?_)))
 exact C.f0 T (rs' := [.i 4]) hβ ⟨4, hm, rfl, rfl, rfl⟩
 refine C.skip (C.nx (C.seq (U.start ?_)))
 refine U.ps 1 T rfl ?_
 refine U.done (C.nx (C.ret ?_))
 exact C.f0 T (rs' := [.i 0]) hβ ⟨0, hm, rfl, rfl, rfl⟩
theorem T_rules_Stands (s_1 : ApiSite) (c : Int) (post : Bool → Prop) (hm : V_rules_Stands s_1 c post) :
    Tr Tryz.prog 21 [.agg (eApiSite s_1), .i c] [] 0 (fun A H' k => ∃ y, post y ∧ A = (.b y) ∧ H' = [] ∧ k = 0) := by
 refine Tr.intro (n := 26) Tryz.func21 rfl Tryz.ntmps21 rfl (fun w0 ok F β hβ => ?_)
 unfold V_rules_Stands at hm
 refine C.seq (U.start ?_)
 refine U.e1 rfl (.none rfl) (by exact Eff1.box rfl rfl rfl rfl rfl) ?_
 refine U.ps 1 T rfl ?_
 refine U.done (C.nx (C.seq ?_))
 refine C.jn (fun (x3 : Bool) => [(4, .b x3)]) (fun (x3 : Bool) => []) 0 hm (fun x3 hm => ?_) (fun J4 hm hJ4 => ?_)
 refine C.nx (C.ret ?_)
 exact C.f0 T (rs' := [.b x3]) hβ ⟨x3, hm, rfl, rfl, rfl⟩
 refine U.start ?_
 refine U.ps 2 T rfl ?_
 refine U.e rfl (.none rfl) (by exact Eff.k (T_rules_isCell s_1 c _ hm) en55 rfl rfl rfl (.eq rfl) (fun _ _ => ⟨(.v _), trivial⟩)) (fun x5' hm => ?_)
 obtain ⟨x5⟩ := x5'
 refine U.ps 1 T rfl ?_
 refine hm.cs (fun hb6 hm => ?_) (fun hb6 hm => ?_)
 refine U.pg 4 3 true 8 hb6 T rfl rfl rfl rfl ?_
 obtain ⟨x7, hx7, hm⟩ := hm
 refine U.r rfl (.take 3 true 8 _ hb6 rfl rfl rfl) rfl rfl (by exact Rd.ix T rfl rfl rfl rfl rfl rfl hx7) ?_
 refine U.pg 3 3 true 8 hb6 T rfl rfl rfl rfl ?_
 refine hm.cs (fun hb8 hm => ?_) (fun hb8 hm => ?_)
 refine U.sks 7 11 false 16 hb8 rfl rfl rfl ?_
 refine U.r rfl (.take 3 true 8 _ hb6 rfl rfl rfl) rfl rfl (by exact Rd.pk rfl rfl hb8 rfl) ?_
 refine U.r rfl (.none rfl) rfl rfl (by exact Rd.pk rfl rfl hb6 rfl) ?_
 refine U.ps 1 T rfl ?_
 refine U.done ?_
 exact St.wk (hJ4 _ hm) (Wk.e)
 refine U.pg 4 11 false 16 hb8 T rfl rfl rfl rfl ?_
 refine U.r rfl (.take 11 false 16 _ hb8 rfl rfl rfl) rfl rfl (by exact Rd.ix T rfl rfl rfl rfl rfl rfl hx7) ?_
 refine U.pg 2 11 false 16 hb8 T rfl rfl rfl rfl ?_
 refine U.r rfl (.take 3 true 8 _ hb6 rfl rfl rfl) rfl rfl (by exact Rd.pk' rfl rfl hb8 rfl) ?_
 refine U.r rfl (.none rfl) rfl rfl (by exact Rd.pk rfl rfl hb6 rfl) ?_
 refine U.ps 1 T rfl ?_
 refine U.done ?_
 exact St.wk (hJ4 _ hm) (Wk.e)
 refine U.sks 8 3 true 8 hb6 rfl rfl rfl ?_
 refine U.sku 7 11 false 16 rfl rfl rfl ?_
 refine U.sks 1 3 true 8 hb6 rfl rfl rfl ?_
 refine U.r rfl (.none rfl) rfl rfl (by exact Rd.pk' rfl rfl hb6 rfl) ?_
 refine U.ps 1 T rfl ?_
 refine U.done ?_
 exact St.wk (hJ4 _ hm) (Wk.e)
theorem T_floor_Near (f : ApiFloor) (a : Int) (b : Int) (post : Bool → Prop) (hm : V_floor_Near f a b post) :
    Tr Tryz.prog 97 [.agg (eApiFloor f), .i a, .i b] [] 0 (fun A H' k => ∃ y, post y ∧ A = (.b y) ∧ H' = [] ∧ k = 0) := by
 refine Tr.intro (n := 24) Tryz.func97 rfl Tryz.ntmps97 rfl (fun w0 ok F β hβ => ?_)
 unfold V_floor_Near at hm
 refine C.seq (U.start ?_)
 refine U.e1 rfl (.none rfl) (by exact Eff1.box rfl rfl rfl rfl rfl) ?_
 refine U.ps 1 T rfl ?_
 refine U.done (C.nx (C.seq (C.seq (U.start ?_))))
 refine U.ps 2 T rfl ?_
 refine U.e rfl (.none rfl) (by exact Eff.k (T_floor_is f b _ hm) en117 rfl rfl rfl (.eq rfl) (fun _ _ => ⟨(.v _), trivial⟩)) (fun x5' hm => ?_)
 obtain ⟨x5⟩ := x5'
 refine U.ps 1 T rfl ?_
 refine U.done (C.nx ?_)
 refine C.ite rfl hm (fun hb6 hm => ?_) (fun hb6 hm => ?_)
 refine C.seq (U.start ?_)
 refine U.ps 1 T rfl ?_
 refine U.done (C.nx (C.ret (C.rt ?_)))
 exact C.f0 T (rs' := [.b false]) hβ ⟨false, hm, rfl, rfl, rfl⟩
 refine C.skip (C.nx (C.seq (C.seq (U.start ?_))))
 refine U.ps 2 T rfl ?_
 refine U.done (C.nx ?_)
 refine C.jn (fun (x11 : Unit) => []) (fun (x11 : Unit) => []) 0 hm (fun x11 hm => ?_) (fun J12 hm hJ12 => ?_)
 refine C.nx (C.seq (U.start ?_))
 refine U.ps 1 T rfl ?_
 refine U.done (C.nx (C.ret ?_))
 exact C.f0 T (rs' := [.b false]) hβ ⟨false, hm, rfl, rfl, rfl⟩
 refine C.block ?_
 refine St.wk (C.loop (fun (s13 : Int) => [(1, .i a), (2, .i b), (3, .p 0 0), (13, .agg [.i 0, .i 1, .i 2, .i 3]), (14, .i s13)]) (fun (s13 : Int) => [(0, .box (eApiFloor f))]) hm (fun s13 Y14 hm => ?_)) (Wk.f [some 0] ⟨bX, trivial⟩)
 refine C.seq (U.start ?_)
 refine U.ps 1 T rfl ?_
 refine U.done (C.nx (C.seq ?_))
 refine C.ite rfl hm (fun hb17 hm => ?_) (fun hb17 hm => ?_)
 refine C.skip (C.nx (C.seq (C.block (C.seq (U.start ?_)))))
 obtain ⟨x20, hx20, hm⟩ := hm
 refine U.r rfl (.none rfl) rfl rfl (by exact Rd.ia1 T (enc := eI) rfl rfl rfl rfl rfl rfl rfl rfl rfl (fun _ => rfl) rfl hx20) ?_
 refine U.ps 1 T rfl ?_
 refine U.done (C.nx (C.seq (U.start ?_)))
 refine U.ps 3 T rfl ?_
 refine U.e rfl (.none rfl) (by exact Eff.k (T_floor_beside f a x20 _ hm) en53 rfl rfl rfl (.eq rfl) (fun _ _ => ⟨(.v _), trivial⟩)) (fun x23' hm => ?_)
 obtain ⟨x23⟩ := x23'
 refine U.ps 2 T rfl ?_
 refine U.done (C.nx ?_)
 refine C.ite rfl hm (fun hb24 hm => ?_) (fun hb24 hm => ?_)
 refine C.seq (U.start ?_)
 refine U.ps 1 T rfl ?_
 refine U.done (C.nx (C.ret (C.brt (C.rt (C.rt (C.brt (C.rt ?_)))))))
 exact C.f0 T (rs' := [.b true]) hβ ⟨true, hm, rfl, rfl, rfl⟩
 refine C.skip (C.bnx (C.nx (U.start ?_)))
 refine U.ps 2 T rfl ?_
 refine U.done (C.nx ?_)
 exact St.wk (C.next hm) (Wk.f [some 0] ⟨bX, trivial⟩)
 refine C.exit (C.ex (C.ex (C.bex ?_)))
 exact St.wk (hJ12 _ hm) (Wk.mk' [] rfl rfl trivial trivial rfl)
theorem T_rules_Carried_1 (r : ApiRobot) (c0 : Int) (post : Bool → Prop) (hm : V_rules_Carried_1 r c0 post) :
    Tr Tryz.prog 127 [.agg (eApiRobot r), .rp [.i c0]] [] 0 (fun A H' k => ∃ y, post y ∧ A = (.b y) ∧ H' = [] ∧ k = 0) := by
 refine Tr.intro (n := 8) Tryz.func127 rfl Tryz.ntmps127 rfl (fun w0 ok F β hβ => ?_)
 unfold V_rules_Carried_1 at hm
 refine C.seq (U.start ?_)
 refine U.e1 rfl (.none rfl) (by exact Eff1.box rfl rfl rfl rfl rfl) ?_
 refine U.ps 1 T rfl ?_
 refine U.done (C.nx (C.seq (U.start ?_)))
 refine U.ps 5 T rfl ?_
 refine U.done (C.nx (C.ret ?_))
 exact C.f0 T (rs' := [.b (r.Load == c0)]) hβ ⟨(r.Load == c0), hm, rfl, rfl, rfl⟩
theorem T_slices_IndexFunc_api_Robot_api_Robot__rules_Carried_1 (s_1 : List ApiRobot) (f_c0 : Int) (post : Int → Prop) (hm : V_slices_IndexFunc_api_Robot_api_Robot__rules_Carried_1 s_1 f_c0 post) :
    Tr Tryz.prog 126 [.sl 6 eApiRobot s_1, .fn (.func 127) [] [.rp [.i f_c0]]] [] 0 (fun A H' k => ∃ y, post y ∧ A = (.i y) ∧ H' = [] ∧ k = 0) := by
 refine Tr.intro (n := 19) Tryz.func126 rfl Tryz.ntmps126 rfl (fun w0 ok F β hβ => ?_)
 unfold V_slices_IndexFunc_api_Robot_api_Robot__rules_Carried_1 at hm
 refine C.seq (U.start ?_)
 refine U.ps 1 T rfl ?_
 refine U.done (C.nx (C.seq (C.seq (U.start ?_))))
 refine U.ps 3 T rfl ?_
 refine U.done (C.nx ?_)
 refine C.jn (fun (x5 : Unit) => []) (fun (x5 : Unit) => []) 0 hm (fun x5 hm => ?_) (fun J6 hm hJ6 => ?_)
 refine C.nx (C.seq (U.start ?_))
 refine U.ps 1 T rfl ?_
 refine U.done (C.nx (C.ret ?_))
 exact C.f0 T (rs' := [.i (-1)]) hβ ⟨(-1), hm, rfl, rfl, rfl⟩
 refine C.block ?_
 refine St.wk (C.loop (fun (s7 : Int) => [(0, .sl 6 eApiRobot s_1), (1, .fn (.func 127) [] [.rp [.i f_c0]]), (7, .i (s_1.length : Int)), (8, .i s7)]) (fun (s7 : Int) => []) hm (fun s7 Y8 hm => ?_)) (Wk.e)
 refine C.seq (U.start ?_)
 refine U.ps 1 T rfl ?_
 refine U.done (C.nx (C.seq ?_))
 refine C.ite rfl hm (fun hb11 hm => ?_) (fun hb11 hm => ?_)
 refine C.skip (C.nx (C.seq (C.block (C.seq (U.start ?_)))))
 refine U.ps 2 T rfl ?_
 refine U.done (C.nx (C.seq (U.start ?_)))
 refine U.ps 3 T rfl ?_
 obtain ⟨x16, hx16, hm⟩ := hm
 refine U.r rfl (.none rfl) rfl rfl (by exact Rd.ix T rfl rfl rfl rfl rfl rfl hx16) ?_
 refine U.ps 1 T rfl ?_
 refine U.e rfl (.none rfl) (by exact Eff.k (T_rules_Carried_1 x16 f_c0 _ hm) en127 rfl rfl rfl (.eq rfl) (fun _ _ => ⟨(.v _), trivial⟩)) (fun x17' hm => ?_)
 obtain ⟨x17⟩ := x17'
 refine U.done (C.nx ?_)
 refine C.ite rfl hm (fun hb18 hm => ?_) (fun hb18 hm => ?_)
 refine C.seq (U.start ?_)
 refine U.ps 2 T rfl ?_
 refine U.done (C.nx (C.ret (C.brt (C.rt (C.rt (C.brt (C.rt ?_)))))))
 exact C.f0 T (rs' := [.i s7]) hβ ⟨s7, hm, rfl, rfl, rfl⟩
 refine C.skip (C.bnx (C.nx (U.start ?_)))
 refine U.ps 2 T rfl ?_
 refine U.done (C.nx ?_)
 exact St.wk (C.next hm) (Wk.e)
 refine C.exit (C.ex (C.ex (C.bex ?_)))
 exact St.wk (hJ6 _ hm) (Wk.mk' [] rfl rfl trivial trivial rfl)
theorem T_rules_Carried (st : ApiState) (shelf : Int) (post : Int → Prop) (hm : V_rules_Carried st shelf post) :
    Tr Tryz.prog 68 [.agg (eApiState st), .i shelf] [] 0 (fun A H' k => ∃ y, post y ∧ A = (.i y) ∧ H' = [] ∧ k = 0) := by
 refine Tr.intro (n := 11) Tryz.func68 rfl Tryz.ntmps68 rfl (fun w0 ok F β hβ => ?_)
 unfold V_rules_Carried at hm
 refine C.seq (U.start ?_)
 refine U.e1 rfl (.none rfl) (by exact Eff1.box rfl rfl rfl rfl rfl) ?_
 refine U.e1 rfl (.none rfl) (by exact Eff1.box rfl rfl rfl rfl rfl) ?_
 refine U.ps 1 T rfl ?_
 refine U.done (C.nx (C.seq (C.seq (U.start ?_))))
 refine U.ps 2 T rfl ?_
 refine U.done (C.nx ?_)
 refine C.ite rfl hm (fun hb5 hm => ?_) (fun hb5 hm => ?_)
 refine C.seq (U.start ?_)
 refine U.ps 1 T rfl ?_
 refine U.done (C.nx (C.ret (C.rt ?_)))
 exact C.f0 T (rs' := [.i (-1)]) hβ ⟨(-1), hm, rfl, rfl, rfl⟩
 refine C.skip (C.nx (C.seq (U.start ?_)))
 refine U.ps 3 T rfl ?_
 refine U.e rfl (.none rfl) (by exact Eff.k (T_slices_IndexFunc_api_Robot_api_Robot__rules_Carried_1 st.Robots shelf _ hm) en126 rfl rfl rfl (.cons (.eq rfl) (.cons (.fn (.eq rfl) (.cons (.fzp rfl rfl rfl rfl (.eq rfl) rfl) .nil)) .nil)) (fun _ _ => ⟨(.v _), trivial⟩)) (fun x10' hm => ?_)
 obtain ⟨x10⟩ := x10'
 refine U.ps 1 T rfl ?_
 refine U.done (C.nx (C.ret ?_))
 exact C.f0 T (rs' := [.i x10]) hβ ⟨x10, hm, rfl, rfl, rfl⟩
theorem T_rules_Class (s_1 : ApiSite) (shelf : Int) (post : ByteArray → Prop) (hm : V_rules_Class s_1 shelf post) :
    Tr Tryz.prog 67 [.agg (eApiSite s_1), .i shelf] [] 0 (fun A H' k => ∃ y, post y ∧ A = (.v (.string y)) ∧ H' = [] ∧ k = 0) := by
 refine Tr.intro (n := 20) Tryz.func67 rfl Tryz.ntmps67 rfl (fun w0 ok F β hβ => ?_)
 unfold V_rules_Class at hm
 refine C.seq (U.start ?_)
 refine U.e1 rfl (.none rfl) (by exact Eff1.box rfl rfl rfl rfl rfl) ?_
 refine U.ps 1 T rfl ?_
 refine U.done (C.nx (C.seq (C.seq ?_)))
 refine C.jn (fun (x3 : Bool) => [(1, .i shelf), (2, .p 0 0), (13, .b x3)]) (fun (x3 : Bool) => [(0, .box (eApiSite s_1))]) 1 hm (fun x3 hm => ?_) (fun J4 hm hJ4 => ?_)
 refine C.nx ?_
 refine C.ite rfl hm (fun hb6 hm => ?_) (fun hb6 hm => ?_)
 refine C.seq (U.start ?_)
 refine U.ps 1 T rfl ?_
 refine U.done (C.nx (C.ret (C.rt ?_)))
 exact C.f0 T (rs' := [.v (.string ByteArray.empty)]) hβ ⟨ByteArray.empty, hm, rfl, rfl, rfl⟩
 refine C.skip (C.nx (C.seq (U.start ?_)))
 refine U.ps 3 T rfl ?_
 obtain ⟨x11, hx11, hm⟩ := hm
 refine U.r rfl (.none rfl) rfl rfl (by exact Rd.ix T rfl rfl rfl rfl rfl rfl hx11) ?_
 refine U.ps 3 T rfl ?_
 refine U.done (C.nx (C.ret ?_))
 exact C.f0 T (rs' := [.v (.string x11.Class)]) hβ ⟨x11.Class, hm, rfl, rfl, rfl⟩
 refine U.start ?_
 refine U.ps 3 T rfl ?_
 refine hm.cs (fun hb5 hm => ?_) (fun hb5 hm => ?_)
 refine U.sks 5 2 false 7 hb5 rfl rfl rfl ?_
 refine U.r rfl (.none rfl) rfl rfl (by exact Rd.pk rfl rfl hb5 rfl) ?_
 refine U.done ?_
 exact St.wk (hJ4 _ hm) (Wk.f [some 0] ⟨bX, trivial⟩)
 refine U.pg 5 2 false 7 hb5 T rfl rfl rfl rfl ?_
 refine U.r rfl (.none rfl) rfl rfl (by exact Rd.pk' rfl rfl hb5 rfl) ?_
 refine U.done ?_
 exact St.wk (hJ4 _ hm) (Wk.f [some 0] ⟨bX, trivial⟩)
theorem T_rules_classes (s_1 : ApiSite) (post : (List (ApiApart × Bool)) → Prop) (hm : V_rules_classes s_1 post) :
    Tr Tryz.prog 66 [.agg (eApiSite s_1)] [] 0 (fun A H' k => ∃ y, post y ∧ A = (.o 0) ∧ H' = [(0, .val (.om kApiApart veB y))] ∧ k = 1) := by
 refine Tr.intro (n := 24) Tryz.func66 rfl Tryz.ntmps66 rfl (fun w0 ok F β hβ => ?_)
 unfold V_rules_classes at hm
 refine C.seq (U.start ?_)
 refine U.e1 rfl (.none rfl) (by exact Eff1.box rfl rfl rfl rfl rfl) ?_
 refine U.ps 1 T rfl ?_
 refine U.done (C.nx (C.seq (U.start ?_)))
 refine U.e1 rfl (.none rfl) (by exact Eff1.mm kApiApart veB rfl rfl rfl) ?_
 refine U.ps 1 T rfl ?_
 refine U.done (C.nx (C.seq (C.seq (U.start ?_))))
 refine U.ps 4 T rfl ?_
 refine U.done (C.nx ?_)
 refine C.jn (fun (x7 : List (ApiApart × Bool)) => [(3, .o 0)]) (fun (x7 : List (ApiApart × Bool)) => [(0, .val (.om kApiApart veB x7))]) 1 hm (fun x7 hm => ?_) (fun J8 hm hJ8 => ?_)
 refine C.nx (C.seq (U.start ?_))
 refine U.ps 2 T rfl ?_
 refine U.done (C.nx (C.ret ?_))
 exact C.fin T (rs' := [.o 0]) (H' := [(0, .val (.om kApiApart veB x7))]) (nl' := 1) [some 0] rfl rfl (.eq rfl) ⟨vL, trivial⟩ rfl rfl rfl rfl hβ ⟨x7, hm, rfl, rfl, rfl⟩
 refine C.block ?_
 refine St.wk (C.loop (fun (s9 : List (ApiApart × Bool) × Int) => [(3, .o 0), (8, .sl 2 eApiApart s_1.Aparts), (9, .i (s_1.Aparts.length : Int)), (10, .i s9.2)]) (fun (s9 : List (ApiApart × Bool) × Int) => [(0, .val (.om kApiApart veB s9.1))]) hm (fun s9 Y10 hm => ?_)) (Wk.f [some 1] ⟨vL, trivial⟩)
 refine C.seq (U.start ?_)
 refine U.ps 1 T rfl ?_
 refine U.done (C.nx (C.seq ?_))
 refine C.ite rfl hm (fun hb13 hm => ?_) (fun hb13 hm => ?_)
 refine C.skip (C.nx (C.seq (C.block (C.seq (U.start ?_)))))
 obtain ⟨x16, hx16, hm⟩ := hm
 refine U.r rfl (.none rfl) rfl rfl (by exact Rd.ix T rfl rfl rfl rfl rfl rfl hx16) ?_
 refine U.ps 1 T rfl ?_
 refine U.e1 rfl (.none rfl) (by exact Eff1.al T rfl rfl rfl rfl) ?_
 refine U.e1 rfl (.none rfl) (by exact Eff1.st T rfl rfl rfl rfl rfl rfl rfl rfl rfl rfl) ?_
 refine U.done (C.nx ?_)
 refine D.beg 9 [1] [0] mix rfl rfl (by kernel_rfl) (by repeat (first | exact NoPanicQ.body | exact NoPanicQ.rnd | refine NoPanicQ.th ?_ | refine NoPanicQ.blk ?_)) (fun hQ hS ws M' => ?_)
 refine D.ps 8 [(0, []), (1, []), (2, []), (3, []), (4, []), (5, []), (6, []), (7, [])] rfl hQ hS T rfl rfl (by kernel_rfl) ?_
 refine D.e1 8 rfl (.none rfl) (by exact Eff1.mu T (x := x16) (y := true) (.inl rfl) rfl kt98 (fun _ => rfl) rfl rfl rfl rfl rfl (.inl rfl) rfl) (by kernel_rfl) rfl rfl ?_
 refine D.ze1 rfl (.none rfl) (by exact Eff1.mu T (x := ({ A := x16.B, B := x16.A : ApiApart })) (y := true) (.inl rfl) rfl kt98 (fun _ => rfl) rfl rfl rfl rfl rfl (.inl rfl) rfl) (by kernel_rfl) (by kernel_rfl) ?_
 refine C.bnx (C.nx (U.start ?_))
 refine U.ps 2 T rfl ?_
 refine U.done (C.nx ?_)
 exact St.wk (C.next hm) (Wk.f [some 0] ⟨vL, trivial⟩)
 refine C.exit (C.ex (C.ex (C.bex ?_)))
 exact St.wk (hJ8 _ hm) (Wk.f [some 0] ⟨vL, trivial⟩)
theorem T_rules_Never (s_1 : ApiSite) (a : ByteArray) (b : ByteArray) (post : Bool → Prop) (hm : V_rules_Never s_1 a b post) :
    Tr Tryz.prog 98 [.agg (eApiSite s_1), .v (.string a), .v (.string b)] [] 0 (fun A H' k => ∃ y, post y ∧ A = (.b y) ∧ H' = [] ∧ k = 0) := by
 refine Tr.intro (n := 21) Tryz.func98 rfl Tryz.ntmps98 rfl (fun w0 ok F β hβ => ?_)
 unfold V_rules_Never at hm
 refine C.seq (U.start ?_)
 refine U.e1 rfl (.none rfl) (by exact Eff1.box rfl rfl rfl rfl rfl) ?_
 refine U.ps 1 T rfl ?_
 refine U.done (C.nx (C.seq ?_))
 refine C.jn (fun (x3 : Bool) => [(6, .b x3)]) (fun (x3 : Bool) => []) 0 hm (fun x3 hm => ?_) (fun J4 hm hJ4 => ?_)
 refine C.nx (C.ret ?_)
 exact C.f0 T (rs' := [.b x3]) hβ ⟨x3, hm, rfl, rfl, rfl⟩
 refine U.start ?_
 refine U.ps 3 T rfl ?_
 refine hm.cs (fun hb5 hm => ?_) (fun hb5 hm => ?_)
 refine U.sks 2 2 true 9 (ntF hb5) rfl rfl rfl ?_
 refine U.r rfl (.none rfl) rfl rfl (by exact Rd.pk' rfl rfl (ntF hb5) rfl) ?_
 refine U.ps 1 T rfl ?_
 refine U.sks 6 6 true 13 rfl rfl rfl rfl ?_
 refine U.r rfl (.none rfl) rfl rfl (by exact Rd.pk' rfl rfl rfl rfl) ?_
 refine U.ps 1 T rfl ?_
 refine U.done ?_
 exact St.wk (hJ4 _ hm) (Wk.e)
 refine U.pg 2 2 true 9 (ntT hb5) T rfl rfl rfl rfl ?_
 refine U.r rfl (.none rfl) rfl rfl (by exact Rd.pk rfl rfl (ntT hb5) rfl) ?_
 refine U.ps 1 T rfl ?_
 refine hm.cs (fun hb6 hm => ?_) (fun hb6 hm => ?_)
 refine U.sks 6 6 true 13 (ntF hb6) rfl rfl rfl ?_
 refine U.r rfl (.none rfl) rfl rfl (by exact Rd.pk' rfl rfl (ntF hb6) rfl) ?_
 refine U.ps 1 T rfl ?_
 refine U.done ?_
 exact St.wk (hJ4 _ hm) (Wk.e)
 refine U.pg 1 6 true 13 (ntT hb6) T rfl rfl rfl rfl ?_
 refine U.e rfl (.take 6 true 13 _ (ntT hb6) rfl rfl rfl) (by exact Eff.c [] (v := true) (T_rules_classes s_1 _ hm) en66 rfl rfl rfl (.eq rfl) trivial rfl rfl rfl rfl rfl rfl (fun _ _ => ⟨(.o _), ⟨.val (.om _ _ _ fun _ => (.v _)), trivial⟩⟩) (.inr ⟨rfl, rfl⟩) (fun _ => rfl) (fun _ => rfl) rfl) (fun x7' hm => ?_)
 obtain ⟨x7⟩ := x7'
 refine U.pg 3 6 true 13 (ntT hb6) T rfl rfl rfl rfl ?_
 refine U.r rfl (.take 6 true 13 _ (ntT hb6) rfl rfl rfl) rfl rfl (by exact Rd.lk T (ke := kApiApart) (ve := veB) (xs := x7) (z0 := false) (x := ({ A := a, B := b : ApiApart })) rfl rfl kt98 zt4 (fun _ => rfl) rfl (.o rfl) rfl rfl rfl) ?_
 refine U.r rfl (.none rfl) rfl rfl (by exact Rd.pk rfl rfl (ntT hb6) rfl) ?_
 refine U.ps 1 T rfl ?_
 refine U.done ?_
 exact St.wk (hJ4 _ hm) (Wk.e)
theorem T_rules_Drop (s_1 : ApiSite) (st : ApiState) (shelf : Int) (c : Int) (post : Int → Prop) (hm : V_rules_Drop s_1 st shelf c post) :
    Tr Tryz.prog 41 [.agg (eApiSite s_1), .agg (eApiState st), .i shelf, .i c] [] 0 (fun A H' k => ∃ y, post y ∧ A = (.i y) ∧ H' = [] ∧ k = 0) := by
 refine Tr.intro (n := 70) Tryz.func41 rfl Tryz.ntmps41 rfl (fun w0 ok F β hβ => ?_)
 unfold V_rules_Drop at hm
 refine C.seq (U.start ?_)
 refine U.e1 rfl (.none rfl) (by exact Eff1.box rfl rfl rfl rfl rfl) ?_
 refine U.e1 rfl (.none rfl) (by exact Eff1.box rfl rfl rfl rfl rfl) ?_
 refine U.ps 1 T rfl ?_
 refine U.done (C.nx (C.seq (C.block (C.seq ?_))))
 refine C.jn (fun (x3 : Bool) => [(2, .i shelf), (3, .i c), (4, .p 0 0), (5, .p 1 0), (12, .b x3)]) (fun (x3 : Bool) => [(0, .box (eApiSite s_1)), (1, .box (eApiState st))]) 2 hm (fun x3 hm => ?_) (fun J4 hm hJ4 => ?_)
 refine C.nx ?_
 refine C.ite rfl hm (fun hb6 hm => ?_) (fun hb6 hm => ?_)
 refine C.seq (U.start ?_)
 refine U.ps 1 T rfl ?_
 refine U.done (C.nx (C.ret (C.brt (C.rt ?_))))
 exact C.f0 T (rs' := [.i 4]) hβ ⟨4, hm, rfl, rfl, rfl⟩
 refine C.seq (U.start ?_)
 refine U.ps 2 T rfl ?_
 refine U.e rfl (.none rfl) (by exact Eff.k (T_rules_Stands s_1 c _ hm) en21 rfl rfl rfl (.eq rfl) (fun _ _ => ⟨(.v _), trivial⟩)) (fun x11' hm => ?_)
 obtain ⟨x11⟩ := x11'
 refine U.ps 2 T rfl ?_
 refine U.done (C.nx ?_)
 refine C.ite rfl hm (fun hb12 hm => ?_) (fun hb12 hm => ?_)
 refine C.seq (U.start ?_)
 refine U.ps 1 T rfl ?_
 refine U.done (C.nx (C.ret (C.brt (C.rt ?_))))
 exact C.f0 T (rs' := [.i 13]) hβ ⟨13, hm, rfl, rfl, rfl⟩
 refine C.skip (C.bnx (C.nx (C.seq (U.start ?_))))
 refine U.ps 1 T rfl ?_
 refine U.done (C.nx (C.seq (C.seq (U.start ?_))))
 refine U.ps 4 T rfl ?_
 refine U.done (C.nx ?_)
 refine C.jn (fun (x19 : Int) => [(9, .i x19)]) (fun (x19 : Int) => []) 0 hm (fun x19 hm => ?_) (fun J20 hm hJ20 => ?_)
 refine C.nx (C.seq (U.start ?_))
 refine U.ps 2 T rfl ?_
 refine U.done (C.nx (C.ret ?_))
 exact C.f0 T (rs' := [.i x19]) hβ ⟨x19, hm, rfl, rfl, rfl⟩
 refine C.block ?_
 refine St.wk (C.loop (fun (s21 : Int × Int) => [(2, .i shelf), (3, .i c), (4, .p 0 0), (5, .p 1 0), (9, .i s21.1), (28, .sl 1 eI st.Shelves), (29, .i (st.Shelves.length : Int)), (30, .i s21.2)]) (fun (s21 : Int × Int) => [(0, .box (eApiSite s_1)), (1, .box (eApiState st))]) hm (fun s21 Y22 hm => ?_)) (Wk.f [some 0, some 1] ⟨bX, bX, trivial⟩)
 refine C.seq (U.start ?_)
 refine U.ps 1 T rfl ?_
 refine U.done (C.nx (C.seq ?_))
 refine C.ite rfl hm (fun hb25 hm => ?_) (fun hb25 hm => ?_)
 refine C.skip (C.nx (C.seq ?_))
 refine C.jn (fun (x26 : Int) => [(2, .i shelf), (3, .i c), (4, .p 0 0), (5, .p 1 0), (9, .i x26), (28, .sl 1 eI st.Shelves), (29, .i (st.Shelves.length : Int)), (30, .i s21.2)]) (fun (x26 : Int) => [(0, .box (eApiSite s_1)), (1, .box (eApiState st))]) 2 hm (fun x26 hm => ?_) (fun J27 hm hJ27 => ?_)
 refine C.nx (U.start ?_)
 refine U.ps 2 T rfl ?_
 refine U.done (C.nx ?_)
 exact St.wk (C.next hm) (Wk.f [some 0, some 1] ⟨bX, bX, trivial⟩)
 refine C.block (C.seq (U.start ?_))
 refine U.ps 1 T rfl ?_
 obtain ⟨x30, hx30, hm⟩ := hm
 refine U.r rfl (.none rfl) rfl rfl (by exact Rd.ix T rfl rfl rfl rfl rfl rfl hx30) ?_
 refine U.ps 3 T rfl ?_
 refine U.done (C.nx (C.seq (C.seq ?_)))
 refine C.jn (fun (x31 : Bool) => [(2, .i shelf), (3, .i c), (4, .p 0 0), (5, .p 1 0), (9, .i s21.1), (10, .i s21.2), (11, .i x30), (28, .sl 1 eI st.Shelves), (29, .i (st.Shelves.length : Int)), (30, .i s21.2), (56, .b x31)]) (fun (x31 : Bool) => [(0, .box (eApiSite s_1)), (1, .box (eApiState st))]) 2 hm (fun x31 hm => ?_) (fun J32 hm hJ32 => ?_)
 refine C.nx ?_
 refine C.ite rfl hm (fun hb39 hm => ?_) (fun hb39 hm => ?_)
 refine C.exit (C.ex (C.bex ?_))
 exact St.wk (hJ27 _ hm) (Wk.f [some 0, some 1] ⟨bX, bX, trivial⟩)
 refine C.skip (C.nx (C.seq (C.seq (U.start ?_))))
 refine U.ps 3 T rfl ?_
 refine U.done (C.nx ?_)
 refine C.ite rfl hm (fun hb42 hm => ?_) (fun hb42 hm => ?_)
 refine C.seq (U.start ?_)
 refine U.ps 1 T rfl ?_
 refine U.done (C.nx (C.ret (C.rt (C.brt (C.rt (C.rt (C.brt (C.rt ?_))))))))
 exact C.f0 T (rs' := [.i 13]) hβ ⟨13, hm, rfl, rfl, rfl⟩
 refine C.skip (C.nx (C.seq ?_))
 refine D.beg 7 [0] [] mix rfl rfl (by kernel_rfl) (by repeat (first | exact NoPanicQ.body | exact NoPanicQ.rnd | refine NoPanicQ.th ?_ | refine NoPanicQ.blk ?_)) (fun hQ hS ws M' => ?_)
 refine D.ps 5 [(0, []), (1, [3]), (2, [3]), (4, [6]), (5, [6])] rfl hQ hS T rfl rfl (by kernel_rfl) ?_
 refine D.e 3 rfl (.none rfl) (by exact Eff.k (T_rules_Class s_1 shelf _ hm) en67 rfl rfl rfl (.eq rfl) (fun _ _ => ⟨(.v _), trivial⟩)) (by kernel_rfl) rfl rfl (fun x47' hm => ?_)
 obtain ⟨x47⟩ := x47'
 refine D.e 6 rfl (.none rfl) (by exact Eff.k (T_rules_Class s_1 s21.2 _ hm) en67 rfl rfl rfl (.eq rfl) (fun _ _ => ⟨(.v _), trivial⟩)) (by kernel_rfl) rfl rfl (fun x48' hm => ?_)
 obtain ⟨x48⟩ := x48'
 refine D.ze rfl (.none rfl) (by exact Eff.k (T_rules_Never s_1 x47 x48 _ hm) en98 rfl rfl rfl (.eq rfl) (fun _ _ => ⟨(.v _), trivial⟩)) (by kernel_rfl) (by kernel_rfl) (fun x49' hm => ?_)
 obtain ⟨x49⟩ := x49'
 refine C.nx ?_
 refine C.jn (fun (x50 : Int) => [(2, .i shelf), (3, .i c), (4, .p 0 0), (5, .p 1 0), (9, .i x50), (28, .sl 1 eI st.Shelves), (29, .i (st.Shelves.length : Int)), (30, .i s21.2)]) (fun (x50 : Int) => [(0, .box (eApiSite s_1)), (1, .box (eApiState st))]) 2 hm (fun x50 hm => ?_) (fun J51 hm hJ51 => ?_)
 refine C.bnx ?_
 exact St.wk (hJ27 _ hm) (Wk.f [some 0, some 1] ⟨bX, bX, trivial⟩)
 refine C.ite rfl hm (fun hb52 hm => ?_) (fun hb52 hm => ?_)
 refine U.start ?_
 refine U.ps 1 T rfl ?_
 refine U.done ?_
 exact St.wk (hJ51 _ hm) (Wk.f [some 0, some 1] ⟨bX, bX, trivial⟩)
 refine C.skip ?_
 exact St.wk (hJ51 _ hm) (Wk.f [some 0, some 1] ⟨bX, bX, trivial⟩)
 refine U.start ?_
 refine U.ps 4 T rfl ?_
 refine hm.cs (fun hb33 hm => ?_) (fun hb33 hm => ?_)
 refine U.sks 4 3 false 38 hb33 rfl rfl rfl ?_
 refine U.sku 6 7 true 42 rfl rfl rfl ?_
 refine U.sks 1 3 false 38 hb33 rfl rfl rfl ?_
 refine U.r rfl (.none rfl) rfl rfl (by exact Rd.pk rfl rfl hb33 rfl) ?_
 refine U.ps 1 T rfl ?_
 refine U.sks 4 16 false 51 rfl rfl rfl rfl ?_
 refine U.r rfl (.none rfl) rfl rfl (by exact Rd.pk rfl rfl rfl rfl) ?_
 refine U.done ?_
 exact St.wk (hJ32 _ hm) (Wk.f [some 0, some 1] ⟨bX, bX, trivial⟩)
 refine U.pg 4 3 false 38 hb33 T rfl rfl rfl rfl ?_
 refine hm.cs (fun hb34 hm => ?_) (fun hb34 hm => ?_)
 refine U.pg 4 7 true 42 hb34 T rfl rfl rfl rfl ?_
 refine U.e rfl (.take 7 true 42 _ hb34 rfl rfl rfl) (by exact Eff.k (T_floor_Near s_1.Floor x30 c _ hm) en97 rfl rfl rfl (.eq rfl) (fun _ _ => ⟨(.v _), trivial⟩)) (fun x35' hm => ?_)
 obtain ⟨x35⟩ := x35'
 refine U.pg 1 7 true 42 hb34 T rfl rfl rfl rfl ?_
 refine U.r rfl (.take 3 false 38 _ hb33 rfl rfl rfl) rfl rfl (by exact Rd.pk rfl rfl hb34 rfl) ?_
 refine U.r rfl (.none rfl) rfl rfl (by exact Rd.pk' rfl rfl hb33 rfl) ?_
 refine U.ps 1 T rfl ?_
 refine hm.cs (fun hb36 hm => ?_) (fun hb36 hm => ?_)
 refine U.pg 2 16 false 51 (ntF hb36) T rfl rfl rfl rfl ?_
 refine U.e rfl (.take 16 false 51 _ (ntF hb36) rfl rfl rfl) (by exact Eff.k (T_rules_Carried st s21.2 _ hm) en68 rfl rfl rfl (.eq rfl) (fun _ _ => ⟨(.v _), trivial⟩)) (fun x37' hm => ?_)
 obtain ⟨x37⟩ := x37'
 refine U.pg 1 16 false 51 (ntF hb36) T rfl rfl rfl rfl ?_
 refine U.r rfl (.none rfl) rfl rfl (by exact Rd.pk' rfl rfl (ntF hb36) rfl) ?_
 refine U.done ?_
 exact St.wk (hJ32 _ hm) (Wk.f [some 0, some 1] ⟨bX, bX, trivial⟩)
 refine U.sks 4 16 false 51 (ntT hb36) rfl rfl rfl ?_
 refine U.r rfl (.none rfl) rfl rfl (by exact Rd.pk rfl rfl (ntT hb36) rfl) ?_
 refine U.done ?_
 exact St.wk (hJ32 _ hm) (Wk.f [some 0, some 1] ⟨bX, bX, trivial⟩)
 refine U.sks 6 7 true 42 hb34 rfl rfl rfl ?_
 refine U.r rfl (.take 3 false 38 _ hb33 rfl rfl rfl) rfl rfl (by exact Rd.pk' rfl rfl hb34 rfl) ?_
 refine U.r rfl (.none rfl) rfl rfl (by exact Rd.pk' rfl rfl hb33 rfl) ?_
 refine U.ps 1 T rfl ?_
 refine U.pg 2 16 false 51 rfl T rfl rfl rfl rfl ?_
 refine U.e rfl (.take 16 false 51 _ rfl rfl rfl rfl) (by exact Eff.k (T_rules_Carried st s21.2 _ hm) en68 rfl rfl rfl (.eq rfl) (fun _ _ => ⟨(.v _), trivial⟩)) (fun x38' hm => ?_)
 obtain ⟨x38⟩ := x38'
 refine U.pg 1 16 false 51 rfl T rfl rfl rfl rfl ?_
 refine U.r rfl (.none rfl) rfl rfl (by exact Rd.pk' rfl rfl rfl rfl) ?_
 refine U.done ?_
 exact St.wk (hJ32 _ hm) (Wk.f [some 0, some 1] ⟨bX, bX, trivial⟩)
 refine C.exit (C.ex (C.ex (C.bex ?_)))
 exact St.wk (hJ20 _ hm) (Wk.e)
 refine U.start ?_
 refine U.ps 3 T rfl ?_
 refine hm.cs (fun hb5 hm => ?_) (fun hb5 hm => ?_)
 refine U.sks 5 2 false 15 hb5 rfl rfl rfl ?_
 refine U.r rfl (.none rfl) rfl rfl (by exact Rd.pk rfl rfl hb5 rfl) ?_
 refine U.ps 1 T rfl ?_
 refine U.done ?_
 exact St.wk (hJ4 _ hm) (Wk.f [some 0, some 1] ⟨bX, bX, trivial⟩)
 refine U.pg 5 2 false 15 hb5 T rfl rfl rfl rfl ?_
 refine U.r rfl (.none rfl) rfl rfl (by exact Rd.pk' rfl rfl hb5 rfl) ?_
 refine U.ps 1 T rfl ?_
 refine U.done ?_
 exact St.wk (hJ4 _ hm) (Wk.f [some 0, some 1] ⟨bX, bX, trivial⟩)
theorem T_act_Legal (s_1 : ApiSite) (st : ApiState) (robot : Int) (act : Int) (post : Int → Prop) (hm : V_act_Legal s_1 st robot act post) :
    Tr Tryz.prog 10 [.agg (eApiSite s_1), .agg (eApiState st), .i robot, .i act] [] 0 (fun A H' k => ∃ y, post y ∧ A = (.i y) ∧ H' = [] ∧ k = 0) := by
 refine Tr.intro (n := 110) Tryz.func10 rfl Tryz.ntmps10 rfl (fun w0 ok F β hβ => ?_)
 unfold V_act_Legal at hm
 refine C.seq (U.start ?_)
 refine U.e1 rfl (.none rfl) (by exact Eff1.box rfl rfl rfl rfl rfl) ?_
 refine U.e1 rfl (.none rfl) (by exact Eff1.box rfl rfl rfl rfl rfl) ?_
 refine U.ps 1 T rfl ?_
 refine U.done (C.nx (C.seq (C.seq ?_)))
 refine C.jn (fun (x3 : Bool) => [(2, .i robot), (3, .i act), (4, .p 0 0), (5, .p 1 0), (22, .b x3)]) (fun (x3 : Bool) => [(0, .box (eApiSite s_1)), (1, .box (eApiState st))]) 2 hm (fun x3 hm => ?_) (fun J4 hm hJ4 => ?_)
 refine C.nx ?_
 refine C.ite rfl hm (fun hb6 hm => ?_) (fun hb6 hm => ?_)
 refine C.seq (U.start ?_)
 refine U.ps 1 T rfl ?_
 refine U.done (C.nx (C.ret (C.rt ?_)))
 exact C.f0 T (rs' := [.i 4]) hβ ⟨4, hm, rfl, rfl, rfl⟩
 refine C.skip (C.nx (C.seq (C.seq ?_)))
 refine C.jn (fun (x9 : Bool) => [(2, .i robot), (3, .i act), (4, .p 0 0), (5, .p 1 0), (28, .b x9)]) (fun (x9 : Bool) => [(0, .box (eApiSite s_1)), (1, .box (eApiState st))]) 2 hm (fun x9 hm => ?_) (fun J10 hm hJ10 => ?_)
 refine C.nx ?_
 refine C.ite rfl hm (fun hb12 hm => ?_) (fun hb12 hm => ?_)
 refine C.seq (U.start ?_)
 refine U.ps 1 T rfl ?_
 refine U.done (C.nx (C.ret (C.rt ?_)))
 exact C.f0 T (rs' := [.i 1]) hβ ⟨1, hm, rfl, rfl, rfl⟩
 refine C.skip (C.nx (C.seq (C.seq (U.start ?_))))
 refine U.ps 2 T rfl ?_
 refine U.done (C.nx ?_)
 refine C.ite rfl hm (fun hb17 hm => ?_) (fun hb17 hm => ?_)
 refine C.seq (U.start ?_)
 refine U.ps 1 T rfl ?_
 refine U.done (C.nx (C.ret (C.rt ?_)))
 exact C.f0 T (rs' := [.i 0]) hβ ⟨0, hm, rfl, rfl, rfl⟩
 refine C.skip (C.nx (C.seq (U.start ?_)))
 refine U.ps 3 T rfl ?_
 obtain ⟨x22, hx22, hm⟩ := hm
 refine U.r rfl (.none rfl) rfl rfl (by exact Rd.ix T rfl rfl rfl rfl rfl rfl hx22) ?_
 refine U.ps 1 T rfl ?_
 refine U.e1 rfl (.none rfl) (by exact Eff1.al T rfl rfl rfl rfl) ?_
 refine U.e1 rfl (.none rfl) (by exact Eff1.st T rfl rfl rfl rfl rfl rfl rfl rfl rfl rfl) ?_
 refine U.done (C.nx (C.seq (U.start ?_)))
 refine U.ps 1 T rfl ?_
 refine U.e rfl (.none rfl) (by exact Eff.k (T_act_direction act _ hm) en38 rfl rfl rfl (.eq rfl) (fun _ _ => ⟨(.tup (.cons (.v _) (.cons (.v _) .nil))), trivial⟩)) (fun x25' hm => ?_)
 obtain ⟨x25⟩ := x25'
 refine U.ps 5 T rfl ?_
 refine U.done (C.nx (C.seq (C.seq ?_)))
 refine C.jn (fun (x26 : Bool) => [(3, .i act), (4, .p 0 0), (5, .p 1 0), (9, .p 2 0), (10, .i x25.1), (11, .b x25.2), (47, .b x26)]) (fun (x26 : Bool) => [(0, .box (eApiSite s_1)), (1, .box (eApiState st)), (2, .box (eApiRobot x22))]) 3 hm (fun x26 hm => ?_) (fun J27 hm hJ27 => ?_)
 refine C.nx ?_
 refine C.ite rfl hm (fun hb29 hm => ?_) (fun hb29 hm => ?_)
 refine C.seq (U.start ?_)
 refine U.ps 1 T rfl ?_
 refine U.done (C.nx (C.ret (C.rt ?_)))
 exact C.f0 T (rs' := [.i 9]) hβ ⟨9, hm, rfl, rfl, rfl⟩
 refine C.skip (C.nx (C.seq (C.seq ?_)))
 refine C.jn (fun (x32 : Bool) => [(3, .i act), (4, .p 0 0), (5, .p 1 0), (9, .p 2 0), (10, .i x25.1), (11, .b x25.2), (53, .b x32)]) (fun (x32 : Bool) => [(0, .box (eApiSite s_1)), (1, .box (eApiState st)), (2, .box (eApiRobot x22))]) 3 hm (fun x32 hm => ?_) (fun J33 hm hJ33 => ?_)
 refine C.nx ?_
 refine C.ite rfl hm (fun hb35 hm => ?_) (fun hb35 hm => ?_)
 refine C.seq (U.start ?_)
 refine U.ps 1 T rfl ?_
 refine U.done (C.nx (C.ret (C.rt ?_)))
 exact C.f0 T (rs' := [.i 8]) hβ ⟨8, hm, rfl, rfl, rfl⟩
 refine C.skip (C.nx (C.seq (C.seq (U.start ?_))))
 refine U.ps 8 T rfl ?_
 refine U.e rfl (.none rfl) (by exact Eff.k (T_battery_After st.Tick x22.Charge act (decide (x22.Load ≥ 0)) _ hm) en28 rfl rfl rfl (.eq rfl) (fun _ _ => ⟨(.tup (.cons (.v _) (.cons (.v _) .nil))), trivial⟩)) (fun x40' hm => ?_)
 obtain ⟨x40⟩ := x40'
 refine U.ps 5 T rfl ?_
 refine U.done (C.nx (C.seq (U.start ?_)))
 refine U.ps 2 T rfl ?_
 refine U.done (C.nx ?_)
 refine C.ite rfl hm (fun hb43 hm => ?_) (fun hb43 hm => ?_)
 refine C.seq (U.start ?_)
 refine U.ps 2 T rfl ?_
 refine U.done (C.nx (C.ret (C.rt ?_)))
 exact C.f0 T (rs' := [.i x40.2]) hβ ⟨x40.2, hm, rfl, rfl, rfl⟩
 refine C.skip (C.nx (C.seq (C.block (C.seq (U.start ?_)))))
 refine U.ps 2 T rfl ?_
 refine U.done (C.nx ?_)
 refine C.ite rfl hm (fun hb48 hm => ?_) (fun hb48 hm => ?_)
 refine C.seq (U.start ?_)
 refine U.ps 4 T rfl ?_
 refine U.e rfl (.none rfl) (by exact Eff.k (T_act_move s_1 st x22 x25.1 _ hm) en39 rfl rfl rfl (.eq rfl) (fun _ _ => ⟨(.v _), trivial⟩)) (fun x51' hm => ?_)
 obtain ⟨x51⟩ := x51'
 refine U.ps 1 T rfl ?_
 refine U.done (C.nx (C.ret (C.brt (C.rt ?_))))
 exact C.f0 T (rs' := [.i x51]) hβ ⟨x51, hm, rfl, rfl, rfl⟩
 refine C.seq (U.start ?_)
 refine U.ps 3 T rfl ?_
 refine U.done (C.nx ?_)
 refine C.ite rfl hm (fun hb54 hm => ?_) (fun hb54 hm => ?_)
 refine C.seq (U.start ?_)
 refine U.ps 3 T rfl ?_
 refine U.e rfl (.none rfl) (by exact Eff.k (T_act_lift s_1 st x22 _ hm) en40 rfl rfl rfl (.eq rfl) (fun _ _ => ⟨(.v _), trivial⟩)) (fun x57' hm => ?_)
 obtain ⟨x57⟩ := x57'
 refine U.ps 1 T rfl ?_
 refine U.done (C.nx (C.ret (C.brt (C.rt ?_))))
 exact C.f0 T (rs' := [.i x57]) hβ ⟨x57, hm, rfl, rfl, rfl⟩
 refine C.seq ?_
 refine C.jn (fun (x58 : Bool) => [(3, .i act), (4, .p 0 0), (5, .p 1 0), (9, .p 2 0), (83, .b x58)]) (fun (x58 : Bool) => [(0, .box (eApiSite s_1)), (1, .box (eApiState st)), (2, .box (eApiRobot x22))]) 3 hm (fun x58 hm => ?_) (fun J59 hm hJ59 => ?_)
 refine C.nx ?_
 refine C.ite rfl hm (fun hb61 hm => ?_) (fun hb61 hm => ?_)
 refine C.seq (U.start ?_)
 refine U.ps 1 T rfl ?_
 refine U.done (C.nx (C.ret (C.brt (C.rt ?_))))
 exact C.f0 T (rs' := [.i 7]) hβ ⟨7, hm, rfl, rfl, rfl⟩
 refine C.seq (U.start ?_)
 refine U.ps 3 T rfl ?_
 refine U.done (C.nx ?_)
 refine C.ite rfl hm (fun hb66 hm => ?_) (fun hb66 hm => ?_)
 refine C.seq (U.start ?_)
 refine U.ps 6 T rfl ?_
 refine U.e rfl (.none rfl) (by exact Eff.k (T_rules_Drop s_1 st x22.Load x22.Cell _ hm) en41 rfl rfl rfl (.eq rfl) (fun _ _ => ⟨(.v _), trivial⟩)) (fun x69' hm => ?_)
 obtain ⟨x69⟩ := x69'
 refine U.ps 1 T rfl ?_
 refine U.done (C.nx (C.ret (C.brt (C.rt ?_))))
 exact C.f0 T (rs' := [.i x69]) hβ ⟨x69, hm, rfl, rfl, rfl⟩
 refine C.seq (U.start ?_)
 refine U.ps 5 T rfl ?_
 obtain ⟨x72, hx72, hm⟩ := hm
 refine U.r rfl (.none rfl) rfl rfl (by exact Rd.ix T rfl rfl rfl rfl rfl rfl hx72) ?_
 refine U.ps 3 T rfl ?_
 refine U.done (C.nx ?_)
 refine C.ite rfl hm (fun hb73 hm => ?_) (fun hb73 hm => ?_)
 refine C.seq (U.start ?_)
 refine U.ps 1 T rfl ?_
 refine U.done (C.nx (C.ret (C.brt (C.rt ?_))))
 exact C.f0 T (rs' := [.i 13]) hβ ⟨13, hm, rfl, rfl, rfl⟩
 refine C.skip (C.bnx (C.nx (C.seq (U.start ?_))))
 refine U.ps 1 T rfl ?_
 refine U.done (C.nx (C.ret ?_))
 exact C.f0 T (rs' := [.i 0]) hβ ⟨0, hm, rfl, rfl, rfl⟩
 refine U.start ?_
 refine U.ps 3 T rfl ?_
 refine hm.cs (fun hb60 hm => ?_) (fun hb60 hm => ?_)
 refine U.pg 3 2 true 86 hb60 T rfl rfl rfl rfl ?_
 refine U.r rfl (.none rfl) rfl rfl (by exact Rd.pk rfl rfl hb60 rfl) ?_
 refine U.ps 1 T rfl ?_
 refine U.done ?_
 exact St.wk (hJ59 _ hm) (Wk.f [some 0, some 1, some 2] ⟨bX, bX, bX, trivial⟩)
 refine U.sks 3 2 true 86 hb60 rfl rfl rfl ?_
 refine U.r rfl (.none rfl) rfl rfl (by exact Rd.pk' rfl rfl hb60 rfl) ?_
 refine U.ps 1 T rfl ?_
 refine U.done ?_
 exact St.wk (hJ59 _ hm) (Wk.f [some 0, some 1, some 2] ⟨bX, bX, bX, trivial⟩)
 refine U.start ?_
 refine U.ps 2 T rfl ?_
 refine hm.cs (fun hb34 hm => ?_) (fun hb34 hm => ?_)
 refine U.pg 3 1 true 49 hb34 T rfl rfl rfl rfl ?_
 refine U.r rfl (.none rfl) rfl rfl (by exact Rd.pk rfl rfl hb34 rfl) ?_
 refine U.done ?_
 exact St.wk (hJ33 _ hm) (Wk.f [some 0, some 1, some 2] ⟨bX, bX, bX, trivial⟩)
 refine U.sks 3 1 true 49 hb34 rfl rfl rfl ?_
 refine U.r rfl (.none rfl) rfl rfl (by exact Rd.pk' rfl rfl hb34 rfl) ?_
 refine U.done ?_
 exact St.wk (hJ33 _ hm) (Wk.f [some 0, some 1, some 2] ⟨bX, bX, bX, trivial⟩)
 refine U.start ?_
 refine U.ps 3 T rfl ?_
 refine hm.cs (fun hb28 hm => ?_) (fun hb28 hm => ?_)
 refine U.sks 3 2 false 43 hb28 rfl rfl rfl ?_
 refine U.r rfl (.none rfl) rfl rfl (by exact Rd.pk rfl rfl hb28 rfl) ?_
 refine U.done ?_
 exact St.wk (hJ27 _ hm) (Wk.f [some 0, some 1, some 2] ⟨bX, bX, bX, trivial⟩)
 refine U.pg 3 2 false 43 hb28 T rfl rfl rfl rfl ?_
 refine U.r rfl (.none rfl) rfl rfl (by exact Rd.pk' rfl rfl hb28 rfl) ?_
 refine U.done ?_
 exact St.wk (hJ27 _ hm) (Wk.f [some 0, some 1, some 2] ⟨bX, bX, bX, trivial⟩)
 refine U.start ?_
 refine U.ps 3 T rfl ?_
 refine hm.cs (fun hb11 hm => ?_) (fun hb11 hm => ?_)
 refine U.sks 2 2 false 25 hb11 rfl rfl rfl ?_
 refine U.r rfl (.none rfl) rfl rfl (by exact Rd.pk rfl rfl hb11 rfl) ?_
 refine U.done ?_
 exact St.wk (hJ10 _ hm) (Wk.f [some 0, some 1] ⟨bX, bX, trivial⟩)
 refine U.pg 2 2 false 25 hb11 T rfl rfl rfl rfl ?_
 refine U.r rfl (.none rfl) rfl rfl (by exact Rd.pk' rfl rfl hb11 rfl) ?_
 refine U.done ?_
 exact St.wk (hJ10 _ hm) (Wk.f [some 0, some 1] ⟨bX, bX, trivial⟩)
 refine U.start ?_
 refine U.ps 3 T rfl ?_
 refine hm.cs (fun hb5 hm => ?_) (fun hb5 hm => ?_)
 refine U.sks 5 2 false 16 hb5 rfl rfl rfl ?_
 refine U.r rfl (.none rfl) rfl rfl (by exact Rd.pk rfl rfl hb5 rfl) ?_
 refine U.done ?_
 exact St.wk (hJ4 _ hm) (Wk.f [some 0, some 1] ⟨bX, bX, trivial⟩)
 refine U.pg 5 2 false 16 hb5 T rfl rfl rfl rfl ?_
 refine U.r rfl (.none rfl) rfl rfl (by exact Rd.pk' rfl rfl hb5 rfl) ?_
 refine U.done ?_
 exact St.wk (hJ4 _ hm) (Wk.f [some 0, some 1] ⟨bX, bX, trivial⟩)
theorem T_slices_Clone_int_int (s_1 : List Int) (post : (List Int) → Prop) (hm : V_slices_Clone_int_int s_1 post) :
    Tr Tryz.prog 59 [.sl 1 eI s_1] [] 0 (fun A H' k => ∃ y, post y ∧ A = (.o 0) ∧ H' = [(0, .val (.os 1 eI y))] ∧ k = 1) := by
 refine Tr.intro (n := 8) Tryz.func59 rfl Tryz.ntmps59 rfl (fun w0 ok F β hβ => ?_)
 unfold V_slices_Clone_int_int at hm
 refine C.seq (U.start ?_)
 refine U.ps 1 T rfl ?_
 refine U.done (C.nx (C.seq (C.seq (U.start ?_))))
 refine U.ps 1 T rfl ?_
 refine U.e rfl (.none rfl) (by exact Eff.isnil T true rfl rfl rfl rfl rfl rfl (.inl ⟨.sl, rfl⟩) rfl) (fun hb5' hhb5 => ?_)
 obtain ⟨hb5⟩ := hb5'
 replace hm := hm hb5 hhb5
 refine U.done (C.nx ?_)
 refine C.ite rfl hm (fun hb6 hm => ?_) (fun hb6 hm => ?_)
 refine C.seq (U.start ?_)
 refine U.ps 1 T rfl ?_
 refine U.done (C.nx (C.ret (C.rt ?_)))
 exact C.fin T (rs' := [.o 0]) (H' := [(0, .val (.os 1 eI []))]) (nl' := 1) [none] rfl rfl (.cons (.nilO _ _ ⟨rfl, rfl⟩ rfl) .nil) ⟨⟨_, rfl, .nil _ _⟩, trivial⟩ rfl rfl rfl rfl hβ ⟨[], hm, rfl, rfl, rfl⟩
 refine C.skip (C.nx (C.seq (U.start ?_)))
 refine U.e1 rfl (.none rfl) (by exact Eff1.bs T (enc := eI) (xs := ([] : List Int)) rfl rfl rfl rfl rfl rfl rfl rfl rfl rfl (fun _ _ => rfl) rfl rfl) ?_
 refine U.ps 1 T rfl ?_
 obtain ⟨hx11, hm⟩ := hm
 refine U.e1 rfl (.none rfl) (by exact Eff1.ap T rfl rfl rfl rfl rfl rfl (.inl rfl) rfl rfl rfl (fun _ => rfl) rfl hx11) ?_
 refine U.ps 1 T rfl ?_
 refine U.done (C.nx (C.ret ?_))
 exact C.fin T (rs' := [.o 0]) (H' := [(0, .val (.os 1 eI (([] : List Int) ++ s_1)))]) (nl' := 1) [some 1] rfl rfl (.eq rfl) ⟨vL, trivial⟩ rfl rfl rfl rfl hβ ⟨(([] : List Int) ++ s_1), hm, rfl, rfl, rfl⟩
theorem T_slices_Clone_api_Robot_api_Robot (s_1 : List ApiRobot) (post : (List ApiRobot) → Prop) (hm : V_slices_Clone_api_Robot_api_Robot s_1 post) :
    Tr Tryz.prog 60 [.sl 6 eApiRobot s_1] [] 0 (fun A H' k => ∃ y, post y ∧ A = (.o 0) ∧ H' = [(0, .val (.os 6 eApiRobot y))] ∧ k = 1) := by
 refine Tr.intro (n := 8) Tryz.func60 rfl Tryz.ntmps60 rfl (fun w0 ok F β hβ => ?_)
 unfold V_slices_Clone_api_Robot_api_Robot at hm
 refine C.seq (U.start ?_)
 refine U.ps 1 T rfl ?_
 refine U.done (C.nx (C.seq (C.seq (U.start ?_))))
 refine U.ps 1 T rfl ?_
 refine U.e rfl (.none rfl) (by exact Eff.isnil T true rfl rfl rfl rfl rfl rfl (.inl ⟨.sl, rfl⟩) rfl) (fun hb5' hhb5 => ?_)
 obtain ⟨hb5⟩ := hb5'
 replace hm := hm hb5 hhb5
 refine U.done (C.nx ?_)
 refine C.ite rfl hm (fun hb6 hm => ?_) (fun hb6 hm => ?_)
 refine C.seq (U.start ?_)
 refine U.ps 1 T rfl ?_
 refine U.done (C.nx (C.ret (C.rt ?_)))
 exact C.fin T (rs' := [.o 0]) (H' := [(0, .val (.os 6 eApiRobot []))]) (nl' := 1) [none] rfl rfl (.cons (.nilO _ _ ⟨rfl, rfl⟩ rfl) .nil) ⟨⟨_, rfl, .nil _ _⟩, trivial⟩ rfl rfl rfl rfl hβ ⟨[], hm, rfl, rfl, rfl⟩
 refine C.skip (C.nx (C.seq (U.start ?_)))
 refine U.e1 rfl (.none rfl) (by exact Eff1.bs T (enc := eApiRobot) (xs := ([] : List ApiRobot)) rfl rfl rfl rfl rfl rfl rfl rfl rfl rfl (fun _ _ => rfl) rfl rfl) ?_
 refine U.ps 1 T rfl ?_
 obtain ⟨hx11, hm⟩ := hm
 refine U.e1 rfl (.none rfl) (by exact Eff1.ap T rfl rfl rfl rfl rfl rfl (.inl rfl) rfl rfl rfl (fun _ => rfl) rfl hx11) ?_
 refine U.ps 1 T rfl ?_
 refine U.done (C.nx (C.ret ?_))
 exact C.fin T (rs' := [.o 0]) (H' := [(0, .val (.os 6 eApiRobot (([] : List ApiRobot) ++ s_1)))]) (nl' := 1) [some 1] rfl rfl (.eq rfl) ⟨vL, trivial⟩ rfl rfl rfl rfl hβ ⟨(([] : List ApiRobot) ++ s_1), hm, rfl, rfl, rfl⟩
theorem T_slices_Clone_api_Stuck_api_Stuck (s_1 : List ApiStuck) (post : (List ApiStuck) → Prop) (hm : V_slices_Clone_api_Stuck_api_Stuck s_1 post) :
    Tr Tryz.prog 61 [.sl 2 eApiStuck s_1] [] 0 (fun A H' k => ∃ y, post y ∧ A = (.o 0) ∧ H' = [(0, .val (.os 2 eApiStuck y))] ∧ k = 1) := by
 refine Tr.intro (n := 8) Tryz.func61 rfl Tryz.ntmps61 rfl (fun w0 ok F β hβ => ?_)
 unfold V_slices_Clone_api_Stuck_api_Stuck at hm
 refine C.seq (U.start ?_)
 refine U.ps 1 T rfl ?_
 refine U.done (C.nx (C.seq (C.seq (U.start ?_))))
 refine U.ps 1 T rfl ?_
 refine U.e rfl (.none rfl) (by exact Eff.isnil T true rfl rfl rfl rfl rfl rfl (.inl ⟨.sl, rfl⟩) rfl) (fun hb5' hhb5 => ?_)
 obtain ⟨hb5⟩ := hb5'
 replace hm := hm hb5 hhb5
 refine U.done (C.nx ?_)
 refine C.ite rfl hm (fun hb6 hm => ?_) (fun hb6 hm => ?_)
 refine C.seq (U.start ?_)
 refine U.ps 1 T rfl ?_
 refine U.done (C.nx (C.ret (C.rt ?_)))
 exact C.fin T (rs' := [.o 0]) (H' := [(0, .val (.os 2 eApiStuck []))]) (nl' := 1) [none] rfl rfl (.cons (.nilO _ _ ⟨rfl, rfl⟩ rfl) .nil) ⟨⟨_, rfl, .nil _ _⟩, trivial⟩ rfl rfl rfl rfl hβ ⟨[], hm, rfl, rfl, rfl⟩
 refine C.skip (C.nx (C.seq (U.start ?_)))
 refine U.e1 rfl (.none rfl) (by exact Eff1.bs T (enc := eApiStuck) (xs := ([] : List ApiStuck)) rfl rfl rfl rfl rfl rfl rfl rfl rfl rfl (fun _ _ => rfl) rfl rfl) ?_
 refine U.ps 1 T rfl ?_
 obtain ⟨hx11, hm⟩ := hm
 refine U.e1 rfl (.none rfl) (by exact Eff1.ap T rfl rfl rfl rfl rfl rfl (.inl rfl) rfl rfl rfl (fun _ => rfl) rfl hx11) ?_
 refine U.ps 1 T rfl ?_
 refine U.done (C.nx (C.ret ?_))
 exact C.fin T (rs' := [.o 0]) (H' := [(0, .val (.os 2 eApiStuck (([] : List ApiStuck) ++ s_1)))]) (nl' := 1) [some 1] rfl rfl (.eq rfl) ⟨vL, trivial⟩ rfl rfl rfl rfl hβ ⟨(([] : List ApiStuck) ++ s_1), hm, rfl, rfl, rfl⟩
theorem T_body_Clone (st : ApiState) (post : ApiState → Prop) (hm : V_body_Clone st post) :
    Tr Tryz.prog 26 [.agg (eApiState st)] [] 0 (fun A H' k => ∃ y, post y ∧ A = (.agg [.i y.Tick, .o 0, .o 1, .o 2, .o 3, .o 4]) ∧ H' = [(0, .val (.os 1 eI y.Shelves)), (1, .val (.os 6 eApiRobot y.Robots)), (2, .val (.os 1 eI y.People)), (3, .val (.os 1 eI y.Dead)), (4, .val (.os 2 eApiStuck y.Stuck))] ∧ k = 5) := by
 refine Tr.intro (n := 21) Tryz.func26 rfl Tryz.ntmps26 rfl (fun w0 ok F β hβ => ?_)
 unfold V_body_Clone at hm
 refine C.seq (U.start ?_)
 refine U.e1 rfl (.none rfl) (by exact Eff1.box rfl rfl rfl rfl rfl) ?_
 refine U.e1 rfl (.none rfl) (by exact Eff1.al T rfl rfl rfl rfl) ?_
 refine U.done (C.nx (C.seq ?_))
 refine D.beg 18 [0] [] mix rfl rfl (by kernel_rfl) (by repeat (first | exact NoPanicQ.body | exact NoPanicQ.rnd | refine NoPanicQ.th ?_ | refine NoPanicQ.blk ?_)) (fun hQ hS ws M' => ?_)
 refine D.ps 12 [(0, []), (1, []), (2, []), (3, []), (5, []), (6, []), (8, []), (9, []), (11, []), (12, []), (14, []), (15, [])] rfl hQ hS T rfl rfl (by kernel_rfl) ?_
 refine D.e 4 rfl (.none rfl) (by exact Eff.c [] (v := true) (T_slices_Clone_int_int st.Shelves _ hm) en59 rfl rfl rfl (.eq rfl) trivial rfl rfl rfl rfl rfl rfl (fun _ _ => ⟨(.o _), ⟨.val (.os _ _ _ fun _ => (.cons (.v _) .nil)), trivial⟩⟩) (.inr ⟨rfl, rfl⟩) (fun _ => rfl) (fun _ => rfl) rfl) (by kernel_rfl) rfl rfl (fun x5' hm => ?_)
 obtain ⟨x5⟩ := x5'
 refine D.e 7 rfl (.none rfl) (by exact Eff.c [] (v := true) (T_slices_Clone_api_Robot_api_Robot st.Robots _ hm) en60 rfl rfl rfl (.eq rfl) trivial rfl rfl rfl rfl rfl rfl (fun _ _ => ⟨(.o _), ⟨.val (.os _ _ _ fun _ => (.cons (.v _) (.cons (.v _) (.cons (.v _) (.cons (.v _) (.cons (.v _) (.cons (.v _) .nil))))))), trivial⟩⟩) (.inr ⟨rfl, rfl⟩) (fun _ => rfl) (fun _ => rfl) rfl) (by kernel_rfl) rfl rfl (fun x6' hm => ?_)
 obtain ⟨x6⟩ := x6'
 refine D.e 10 rfl (.none rfl) (by exact Eff.c [] (v := true) (T_slices_Clone_int_int st.People _ hm) en59 rfl rfl rfl (.eq rfl) trivial rfl rfl rfl rfl rfl rfl (fun _ _ => ⟨(.o _), ⟨.val (.os _ _ _ fun _ => (.cons (.v _) .nil)), trivial⟩⟩) (.inr ⟨rfl, rfl⟩) (fun _ => rfl) (fun _ => rfl) rfl) (by kernel_rfl) rfl rfl (fun x7' hm => ?_)
 obtain ⟨x7⟩ := x7'
 refine D.e 13 rfl (.none rfl) (by exact Eff.c [] (v := true) (T_slices_Clone_int_int st.Dead _ hm) en59 rfl rfl rfl (.eq rfl) trivial rfl rfl rfl rfl rfl rfl (fun _ _ => ⟨(.o _), ⟨.val (.os _ _ _ fun _ => (.cons (.v _) .nil)), trivial⟩⟩) (.inr ⟨rfl, rfl⟩) (fun _ => rfl) (fun _ => rfl) rfl) (by kernel_rfl) rfl rfl (fun x8' hm => ?_)
 obtain ⟨x8⟩ := x8'
 refine D.e 16 rfl (.none rfl) (by exact Eff.c [] (v := true) (T_slices_Clone_api_Stuck_api_Stuck st.Stuck _ hm) en61 rfl rfl rfl (.eq rfl) trivial rfl rfl rfl rfl rfl rfl (fun _ _ => ⟨(.o _), ⟨.val (.os _ _ _ fun _ => (.cons (.v _) (.cons (.v _) .nil))), trivial⟩⟩) (.inr ⟨rfl, rfl⟩) (fun _ => rfl) (fun _ => rfl) rfl) (by kernel_rfl) rfl rfl (fun x9' hm => ?_)
 obtain ⟨x9⟩ := x9'
 refine D.ps 1 [(17, [])] rfl hQ hS T rfl rfl (by kernel_rfl) ?_
 refine D.ze1 rfl (.none rfl) (by exact Eff1.st T rfl rfl rfl rfl rfl rfl rfl rfl rfl rfl) (by kernel_rfl) (by kernel_rfl) ?_
 refine C.nx (C.ret ?_)
 exact C.fin T (rs' := [.agg [.i (({ Tick := st.Tick, Shelves := x5, Robots := x6, People := x7, Dead := x8, Stuck := x9 : ApiState }).Tick), .o 0, .o 1, .o 2, .o 3, .o 4]]) (H' := [(0, .val (.os 1 eI (({ Tick := st.Tick, Shelves := x5, Robots := x6, People := x7, Dead := x8, Stuck := x9 : ApiState }).Shelves))), (1, .val (.os 6 eApiRobot (({ Tick := st.Tick, Shelves := x5, Robots := x6, People := x7, Dead := x8, Stuck := x9 : ApiState }).Robots))), (2, .val (.os 1 eI (({ Tick := st.Tick, Shelves := x5, Robots := x6, People := x7, Dead := x8, Stuck := x9 : ApiState }).People))), (3, .val (.os 1 eI (({ Tick := st.Tick, Shelves := x5, Robots := x6, People := x7, Dead := x8, Stuck := x9 : ApiState }).Dead))), (4, .val (.os 2 eApiStuck (({ Tick := st.Tick, Shelves := x5, Robots := x6, People := x7, Dead := x8, Stuck := x9 : ApiState }).Stuck)))]) (nl' := 5) [some 2, some 3, some 4, some 5, some 6] rfl rfl (.eq rfl) ⟨vL, vL, vL, vL, vL, trivial⟩ rfl rfl rfl rfl hβ ⟨({ Tick := st.Tick, Shelves := x5, Robots := x6, People := x7, Dead := x8, Stuck := x9 : ApiState }), hm, rfl, rfl, rfl⟩
theorem T_rules_Speed (s_1 : ApiSite) (c : Int) (post : Int → Prop) (hm : V_rules_Speed s_1 c post) :
    Tr Tryz.prog 29 [.agg (eApiSite s_1), .i c] [] 0 (fun A H' k => ∃ y, post y ∧ A = (.i y) ∧ H' = [] ∧ k = 0) := by
 refine Tr.intro (n := 17) Tryz.func29 rfl Tryz.ntmps29 rfl (fun w0 ok F β hβ => ?_)
 unfold V_rules_Speed at hm
 refine C.seq (U.start ?_)
 refine U.e1 rfl (.none rfl) (by exact Eff1.box rfl rfl rfl rfl rfl) ?_
 refine U.ps 1 T rfl ?_
 refine U.done (C.nx (C.seq (C.seq (U.start ?_))))
 refine U.ps 2 T rfl ?_
 refine U.e rfl (.none rfl) (by exact Eff.k (T_rules_ZoneOf s_1 c _ hm) en56 rfl rfl rfl (.eq rfl) (fun _ _ => ⟨(.v _), trivial⟩)) (fun x5' hm => ?_)
 obtain ⟨x5⟩ := x5'
 refine U.ps 1 T rfl ?_
 refine U.done (C.nx (C.seq (U.start ?_)))
 refine U.ps 2 T rfl ?_
 refine U.done (C.nx ?_)
 refine C.ite rfl hm (fun hb8 hm => ?_) (fun hb8 hm => ?_)
 refine C.seq (U.start ?_)
 refine U.ps 3 T rfl ?_
 obtain ⟨x11, hx11, hm⟩ := hm
 refine U.r rfl (.none rfl) rfl rfl (by exact Rd.ix T rfl rfl rfl rfl rfl rfl hx11) ?_
 refine U.ps 3 T rfl ?_
 refine U.done (C.nx (C.ret (C.rt ?_)))
 exact C.f0 T (rs' := [.i x11.Speed]) hβ ⟨x11.Speed, hm, rfl, rfl, rfl⟩
 refine C.skip (C.nx (C.seq (U.start ?_)))
 refine U.ps 1 T rfl ?_
 refine U.done (C.nx (C.ret ?_))
 exact C.f0 T (rs' := [.i 1]) hβ ⟨1, hm, rfl, rfl, rfl⟩
theorem T_act_Do (s_1 : ApiSite) (st : ApiState) (robot : Int) (act : Int) (post : ApiState → Prop) (hm : V_act_Do s_1 st robot act post) :
    Tr Tryz.prog 16 [.agg (eApiSite s_1), .agg (eApiState st), .i robot, .i act] [] 0 (fun A H' k => ∃ y, post y ∧ A = (.agg [.i y.Tick, .o 0, .o 1, .o 2, .o 3, .o 4]) ∧ H' = [(0, .val (.os 1 eI y.Shelves)), (1, .val (.os 6 eApiRobot y.Robots)), (2, .val (.os 1 eI y.People)), (3, .val (.os 1 eI y.Dead)), (4, .val (.os 2 eApiStuck y.Stuck))] ∧ k = 5) := by
 refine Tr.intro (n := 126) Tryz.func16 rfl Tryz.ntmps16 rfl (fun w0 ok F β hβ => ?_)
 unfold V_act_Do at hm
 refine C.seq (U.start ?_)
 refine U.e1 rfl (.none rfl) (by exact Eff1.box rfl rfl rfl rfl rfl) ?_
 refine U.e1 rfl (.none rfl) (by exact Eff1.box rfl rfl rfl rfl rfl) ?_
 refine U.e1 rfl (.none rfl) (by exact Eff1.al T rfl rfl rfl rfl) ?_
 refine U.done (C.nx (C.seq (U.start ?_)))
 refine U.ps 1 T rfl ?_
 refine U.e rfl (.none rfl) (by exact Eff.c [] (v := true) (T_body_Clone st _ hm) en26 rfl rfl rfl (.eq rfl) trivial rfl rfl rfl rfl rfl rfl (fun _ _ => ⟨(.agg (.cons (.v _) (.cons (.o _) (.cons (.o _) (.cons (.o _) (.cons (.o _) (.cons (.o _) .nil))))))), ⟨.val (.os _ _ _ fun _ => (.cons (.v _) .nil)), .val (.os _ _ _ fun _ => (.cons (.v _) (.cons (.v _) (.cons (.v _) (.cons (.v _) (.cons (.v _) (.cons (.v _) .nil))))))), .val (.os _ _ _ fun _ => (.cons (.v _) .nil)), .val (.os _ _ _ fun _ => (.cons (.v _) .nil)), .val (.os _ _ _ fun _ => (.cons (.v _) (.cons (.v _) .nil))), trivial⟩⟩) (.inr ⟨rfl, rfl⟩) (fun _ => rfl) (fun _ => rfl) rfl) (fun x5' hm => ?_)
 obtain ⟨x5⟩ := x5'
 refine U.e1 rfl (.none rfl) (by exact Eff1.al T rfl rfl rfl rfl) ?_
 refine U.e1 rfl (.none rfl) (by exact Eff1.st T rfl rfl rfl rfl rfl rfl rfl rfl rfl rfl) ?_
 refine U.done (C.nx (C.seq (C.seq ?_)))
 refine C.jn (fun (x6 : Bool) => [(2, .i robot), (3, .i act), (4, .p 0 0), (5, .p 1 0), (8, .p 2 0), (9, .p 3 0), (35, .b x6)]) (fun (x6 : Bool) => [(0, .box (eApiSite s_1)), (1, .box (eApiState st)), (2, .box [.i 0, .v (.slice none 0 0), .v (.slice none 0 0), .v (.slice none 0 0), .v (.slice none 0 0), .v (.slice none 0 0)]), (3, .box [.i x5.Tick, .o 4, .o 5, .o 6, .o 7, .o 8]), (4, .val (.os 1 eI x5.Shelves)), (5, .val (.os 6 eApiRobot x5.Robots)), (6, .val (.os 1 eI x5.People)), (7, .val (.os 1 eI x5.Dead)), (8, .val (.os 2 eApiStuck x5.Stuck))]) 9 hm (fun x6 hm => ?_) (fun J7 hm hJ7 => ?_)
 refine C.nx ?_
 refine C.ite rfl hm (fun hb11 hm => ?_) (fun hb11 hm => ?_)
 refine C.seq (U.start ?_)
 refine U.ps 1 T rfl ?_
 refine U.e1 rfl (.none rfl) (by exact Eff1.st T rfl rfl rfl rfl rfl rfl rfl rfl rfl rfl) ?_
 refine U.done (C.nx (C.ret (C.rt ?_)))
 exact C.fin T (rs' := [.agg [.i x5.Tick, .o 0, .o 1, .o 2, .o 3, .o 4]]) (H' := [(0, .val (.os 1 eI x5.Shelves)), (1, .val (.os 6 eApiRobot x5.Robots)), (2, .val (.os 1 eI x5.People)), (3, .val (.os 1 eI x5.Dead)), (4, .val (.os 2 eApiStuck x5.Stuck))]) (nl' := 5) [some 4, some 5, some 6, some 7, some 8] rfl rfl (.eq rfl) ⟨vL, vL, vL, vL, vL, trivial⟩ rfl rfl rfl rfl hβ ⟨x5, hm, rfl, rfl, rfl⟩
 refine C.skip (C.nx (C.seq (U.start ?_)))
 refine U.ps 3 T rfl ?_
 obtain ⟨x16, hx16, hm⟩ := hm
 refine U.r rfl (.none rfl) rfl rfl (by exact Rd.io T rfl rfl rfl rfl rfl rfl rfl hx16) ?_
 refine U.ps 1 T rfl ?_
 refine U.done (C.nx (C.seq ?_))
 refine D.beg 9999 [1, 5] [] mix rfl rfl (by kernel_rfl) (by repeat (first | exact NoPanicQ.body | exact NoPanicQ.rnd | refine NoPanicQ.th ?_ | refine NoPanicQ.blk ?_)) (fun hQ hS ws M' => ?_)
 refine D.ps 5 [(0, []), (1, []), (2, []), (3, []), (4, [])] rfl hQ hS T rfl rfl (by kernel_rfl) ?_
 refine D.q 5 [] hQ hS rfl (.none rfl) rfl rfl (by exact Rd.le T rfl rfl rfl (idx_some hx16).2.2 rfl rfl rfl) rfl (by kernel_rfl) ?_
 refine D.ps 4 [(6, []), (7, []), (8, []), (9, [])] rfl hQ hS T rfl rfl (by kernel_rfl) ?_
 refine D.q 10 [] hQ hS rfl (.none rfl) rfl rfl (by exact Rd.le T rfl rfl rfl (idx_some hx16).2.2 rfl rfl rfl) rfl (by kernel_rfl) ?_
 refine D.ps 1 [(11, [])] rfl hQ hS T rfl rfl (by kernel_rfl) ?_
 refine D.e 12 rfl (.none rfl) (by exact Eff.k (T_battery_After st.Tick x16.Charge act (decide (x16.Load ≥ 0)) _ hm) en28 rfl rfl rfl (.eq rfl) (fun _ _ => ⟨(.tup (.cons (.v _) (.cons (.v _) .nil))), trivial⟩)) (by kernel_rfl) rfl rfl (fun x19' hm => ?_)
 obtain ⟨x19⟩ := x19'
 refine D.ps 5 [(13, []), (14, []), (15, []), (16, []), (17, [])] rfl hQ hS T rfl rfl (by kernel_rfl) ?_
 refine D.done (by kernel_rfl) ?_
 refine C.nx (C.seq (C.seq (U.start ?_)))
 refine U.ps 2 T rfl ?_
 refine U.done (C.nx ?_)
 refine C.jn (fun (x22 : Int) => [(3, .i act), (4, .p 0 0), (5, .p 1 0), (8, .p 2 0), (9, .p 3 0), (10, .ep 5 6 (Int.toNat robot) 0), (11, .i x22)]) (fun (x22 : Int) => [(0, .box (eApiSite s_1)), (1, .box (eApiState st)), (2, .box [.i 0, .v (.slice none 0 0), .v (.slice none 0 0), .v (.slice none 0 0), .v (.slice none 0 0), .v (.slice none 0 0)]), (3, .box [.i x5.Tick, .o 4, .o 5, .o 6, .o 7, .o 8]), (4, .val (.os 1 eI x5.Shelves)), (5, .val (.os 6 eApiRobot x5.Robots)), (6, .val (.os 1 eI x5.People)), (7, .val (.os 1 eI x5.Dead)), (8, .val (.os 2 eApiStuck x5.Stuck))]) 9 hm (fun x22 hm => ?_) (fun J23 hm hJ23 => ?_)
 refine C.nx (C.seq (U.start ?_))
 refine U.ps 4 T rfl ?_
 refine U.e1 rfl (.none rfl) (by exact Eff1.se T (z' := ({ Cell := x16.Cell, Load := x16.Load, Charge := x22, Rest := x16.Rest, Mute := x16.Mute, Dead := x16.Dead : ApiRobot })) rfl rfl rfl (idx_some hx16).2.2 rfl rfl rfl rfl rfl rfl rfl rfl (fun _ => rfl) rfl) ?_
 refine U.done (C.nx (C.seq (C.seq (U.start ?_))))
 refine U.ps 1 T rfl ?_
 refine U.done (C.nx (C.block (C.seq (U.start ?_))))
 refine U.ps 2 T rfl ?_
 refine U.done (C.nx ?_)
 refine C.jn (fun (x33 : List ApiRobot) => [(3, .i act), (4, .p 0 0), (8, .p 1 0), (9, .p 2 0), (10, .ep 4 6 (Int.toNat robot) 0)]) (fun (x33 : List ApiRobot) => [(0, .box (eApiSite s_1)), (1, .box [.i 0, .v (.slice none 0 0), .v (.slice none 0 0), .v (.slice none 0 0), .v (.slice none 0 0), .v (.slice none 0 0)]), (2, .box [.i x5.Tick, .o 3, .o 4, .o 5, .o 6, .o 7]), (3, .val (.os 1 eI x5.Shelves)), (4, .val (.os 6 eApiRobot x33)), (5, .val (.os 1 eI x5.People)), (6, .val (.os 1 eI x5.Dead)), (7, .val (.os 2 eApiStuck x5.Stuck))]) 8 hm (fun x33 hm => ?_) (fun J34 hm hJ34 => ?_)
 refine C.bnx (C.nx (C.seq (U.start ?_)))
 refine U.ps 1 T rfl ?_
 refine U.e rfl (.none rfl) (by exact Eff.k (T_act_direction act _ hm) en38 rfl rfl rfl (.eq rfl) (fun _ _ => ⟨(.tup (.cons (.v _) (.cons (.v _) .nil))), trivial⟩)) (fun x48' hm => ?_)
 obtain ⟨x48⟩ := x48'
 refine U.ps 5 T rfl ?_
 refine U.done (C.nx (C.seq (C.seq (U.start ?_))))
 refine U.ps 2 T rfl ?_
 refine U.done (C.nx ?_)
 refine C.ite rfl hm (fun hb51 hm => ?_) (fun hb51 hm => ?_)
 refine C.seq (U.start ?_)
 refine U.ps 1 T rfl ?_
 refine U.e1 rfl (.none rfl) (by exact Eff1.st T rfl rfl rfl rfl rfl rfl rfl rfl rfl rfl) ?_
 refine U.done (C.nx (C.ret (C.rt ?_)))
 exact C.fin T (rs' := [.agg [.i (({ Tick := x5.Tick, Shelves := x5.Shelves, Robots := x33, People := x5.People, Dead := x5.Dead, Stuck := x5.Stuck : ApiState }).Tick), .o 0, .o 1, .o 2, .o 3, .o 4]]) (H' := [(0, .val (.os 1 eI (({ Tick := x5.Tick, Shelves := x5.Shelves, Robots := x33, People := x5.People, Dead := x5.Dead, Stuck := x5.Stuck : ApiState }).Shelves))), (1, .val (.os 6 eApiRobot (({ Tick := x5.Tick, Shelves := x5.Shelves, Robots := x33, People := x5.People, Dead := x5.Dead, Stuck := x5.Stuck : ApiState }).Robots))), (2, .val (.os 1 eI (({ Tick := x5.Tick, Shelves := x5.Shelves, Robots := x33, People := x5.People, Dead := x5.Dead, Stuck := x5.Stuck : ApiState }).People))), (3, .val (.os 1 eI (({ Tick := x5.Tick, Shelves := x5.Shelves, Robots := x33, People := x5.People, Dead := x5.Dead, Stuck := x5.Stuck : ApiState }).Dead))), (4, .val (.os 2 eApiStuck (({ Tick := x5.Tick, Shelves := x5.Shelves, Robots := x33, People := x5.People, Dead := x5.Dead, Stuck := x5.Stuck : ApiState }).Stuck)))]) (nl' := 5) [some 3, some 4, some 5, some 6, some 7] rfl rfl (.eq rfl) ⟨vL, vL, vL, vL, vL, trivial⟩ rfl rfl rfl rfl hβ ⟨({ Tick := x5.Tick, Shelves := x5.Shelves, Robots := x33, People := x5.People, Dead := x5.Dead, Stuck := x5.Stuck : ApiState }), hm, rfl, rfl, rfl⟩
 refine C.skip (C.nx (C.seq (C.seq ?_)))
 refine D.beg 9999 [0, 4] [] mix rfl rfl (by kernel_rfl) (by repeat (first | exact NoPanicQ.body | exact NoPanicQ.rnd | refine NoPanicQ.th ?_ | refine NoPanicQ.blk ?_)) (fun hQ hS ws M' => ?_)
 refine D.ps 5 [(0, []), (1, []), (2, []), (3, []), (4, [])] rfl hQ hS T rfl rfl (by kernel_rfl) ?_
 obtain ⟨x56, hx56, hm⟩ := hm
 refine D.q 5 [] hQ hS rfl (.none rfl) rfl rfl (by exact Rd.le T rfl rfl rfl (idx_some hx56).2.2 rfl rfl rfl) rfl (by kernel_rfl) ?_
 refine D.ps 1 [(6, [])] rfl hQ hS T rfl rfl (by kernel_rfl) ?_
 refine D.e 7 rfl (.none rfl) (by exact Eff.k (T_floor_Next s_1.Floor x56.Cell x48.1 _ hm) en19 rfl rfl rfl (.eq rfl) (fun _ _ => ⟨(.tup (.cons (.v _) (.cons (.v _) .nil))), trivial⟩)) (by kernel_rfl) rfl rfl (fun x57' hm => ?_)
 obtain ⟨x57⟩ := x57'
 refine D.ps 5 [(8, []), (9, []), (10, []), (11, []), (12, [])] rfl hQ hS T rfl rfl (by kernel_rfl) ?_
 refine D.done (by kernel_rfl) ?_
 refine C.nx (C.seq (U.start ?_))
 refine U.ps 1 T rfl ?_
 refine U.done (C.nx ?_)
 refine C.jn (fun (x60 : List Int × List ApiRobot) => [(8, .p 0 0), (9, .p 1 0)]) (fun (x60 : List Int × List ApiRobot) => [(0, .box [.i 0, .v (.slice none 0 0), .v (.slice none 0 0), .v (.slice none 0 0), .v (.slice none 0 0), .v (.slice none 0 0)]), (1, .box [.i x5.Tick, .o 2, .o 3, .o 4, .o 5, .o 6]), (2, .val (.os 1 eI x60.1)), (3, .val (.os 6 eApiRobot x60.2)), (4, .val (.os 1 eI x5.People)), (5, .val (.os 1 eI x5.Dead)), (6, .val (.os 2 eApiStuck x5.Stuck))]) 7 hm (fun x60 hm => ?_) (fun J61 hm hJ61 => ?_)
 refine C.nx (C.seq (U.start ?_))
 refine U.ps 1 T rfl ?_
 refine U.e1 rfl (.none rfl) (by exact Eff1.st T rfl rfl rfl rfl rfl rfl rfl rfl rfl rfl) ?_
 refine U.done (C.nx (C.ret ?_))
 exact C.fin T (rs' := [.agg [.i (({ Tick := x5.Tick, Shelves := x60.1, Robots := x60.2, People := x5.People, Dead := x5.Dead, Stuck := x5.Stuck : ApiState }).Tick), .o 0, .o 1, .o 2, .o 3, .o 4]]) (H' := [(0, .val (.os 1 eI (({ Tick := x5.Tick, Shelves := x60.1, Robots := x60.2, People := x5.People, Dead := x5.Dead, Stuck := x5.Stuck : ApiState }).Shelves))), (1, .val (.os 6 eApiRobot (({ Tick := x5.Tick, Shelves := x60.1, Robots := x60.2, People := x5.People, Dead := x5.Dead, Stuck := x5.Stuck : ApiState }).Robots))), (2, .val (.os 1 eI (({ Tick := x5.Tick, Shelves := x60.1, Robots := x60.2, People := x5.People, Dead := x5.Dead, Stuck := x5.Stuck : ApiState }).People))), (3, .val (.os 1 eI (({ Tick := x5.Tick, Shelves := x60.1, Robots := x60.2, People := x5.People, Dead := x5.Dead, Stuck := x5.Stuck : ApiState }).Dead))), (4, .val (.os 2 eApiStuck (({ Tick := x5.Tick, Shelves := x60.1, Robots := x60.2, People := x5.People, Dead := x5.Dead, Stuck := x5.Stuck : ApiState }).Stuck)))]) (nl' := 5) [some 2, some 3, some 4, some 5, some 6] rfl rfl (.eq rfl) ⟨vL, vL, vL, vL, vL, trivial⟩ rfl rfl rfl rfl hβ ⟨({ Tick := x5.Tick, Shelves := x60.1, Robots := x60.2, People := x5.People, Dead := x5.Dead, Stuck := x5.Stuck : ApiState }), hm, rfl, rfl, rfl⟩
 refine C.ite rfl hm (fun hb62 hm => ?_) (fun hb62 hm => ?_)
 refine C.seq (U.start ?_)
 refine U.ps 5 T rfl ?_
 refine U.e rfl (.none rfl) (by exact Eff.k (T_rules_Speed s_1 x57.1 _ hm) en29 rfl rfl rfl (.eq rfl) (fun _ _ => ⟨(.v _), trivial⟩)) (fun x65' hm => ?_)
 obtain ⟨x65⟩ := x65'
 refine U.ps 3 T rfl ?_
 refine U.e1 rfl (.none rfl) (by exact Eff1.se T (z' := ({ Cell := x57.1, Load := x56.Load, Charge := x56.Charge, Rest := x56.Rest, Mute := x56.Mute, Dead := x56.Dead : ApiRobot })) rfl rfl rfl (idx_some hx56).2.2 rfl rfl rfl rfl rfl rfl rfl rfl (fun _ => rfl) rfl) ?_
 refine U.ps 2 T rfl ?_
 refine U.e1 rfl (.none rfl) (by exact Eff1.se T (z' := ({ Cell := ({ Cell := x57.1, Load := x56.Load, Charge := x56.Charge, Rest := x56.Rest, Mute := x56.Mute, Dead := x56.Dead : ApiRobot }).Cell, Load := ({ Cell := x57.1, Load := x56.Load, Charge := x56.Charge, Rest := x56.Rest, Mute := x56.Mute, Dead := x56.Dead : ApiRobot }).Load, Charge := ({ Cell := x57.1, Load := x56.Load, Charge := x56.Charge, Rest := x56.Rest, Mute := x56.Mute, Dead := x56.Dead : ApiRobot }).Charge, Rest := w64 (x65 - 1), Mute := ({ Cell := x57.1, Load := x56.Load, Charge := x56.Charge, Rest := x56.Rest, Mute := x56.Mute, Dead := x56.Dead : ApiRobot }).Mute, Dead := ({ Cell := x57.1, Load := x56.Load, Charge := x56.Charge, Rest := x56.Rest, Mute := x56.Mute, Dead := x56.Dead : ApiRobot }).Dead : ApiRobot })) rfl rfl rfl (set_get (idx_some hx56).2.2) rfl rfl rfl rfl rfl rfl rfl rfl (fun _ => rfl) rfl) ?_
 refine U.done (C.nx (C.seq (U.start ?_)))
 refine U.ps 3 T rfl ?_
 refine U.r rfl (.none rfl) rfl rfl (by exact Rd.le T rfl rfl rfl (set_get (set_get (idx_some hx56).2.2)) rfl rfl rfl) ?_
 refine U.ps 1 T rfl ?_
 refine U.done (C.nx ?_)
 refine C.jn (fun (x68 : List Int) => [(8, .p 0 0), (9, .p 1 0)]) (fun (x68 : List Int) => [(0, .box [.i 0, .v (.slice none 0 0), .v (.slice none 0 0), .v (.slice none 0 0), .v (.slice none 0 0), .v (.slice none 0 0)]), (1, .box [.i x5.Tick, .o 2, .o 3, .o 4, .o 5, .o 6]), (2, .val (.os 1 eI x68)), (3, .val (.os 6 eApiRobot ((x33.set (Int.toNat robot) ({ Cell := x57.1, Load := x56.Load, Charge := x56.Charge, Rest := x56.Rest, Mute := x56.Mute, Dead := x56.Dead : ApiRobot })).set (Int.toNat robot) ({ Cell := ({ Cell := x57.1, Load := x56.Load, Charge := x56.Charge, Rest := x56.Rest, Mute := x56.Mute, Dead := x56.Dead : ApiRobot }).Cell, Load := ({ Cell := x57.1, Load := x56.Load, Charge := x56.Charge, Rest := x56.Rest, Mute := x56.Mute, Dead := x56.Dead : ApiRobot }).Load, Charge := ({ Cell := x57.1, Load := x56.Load, Charge := x56.Charge, Rest := x56.Rest, Mute := x56.Mute, Dead := x56.Dead : ApiRobot }).Charge, Rest := w64 (x65 - 1), Mute := ({ Cell := x57.1, Load := x56.Load, Charge := x56.Charge, Rest := x56.Rest, Mute := x56.Mute, Dead := x56.Dead : ApiRobot }).Mute, Dead := ({ Cell := x57.1, Load := x56.Load, Charge := x56.Charge, Rest := x56.Rest, Mute := x56.Mute, Dead := x56.Dead : ApiRobot }).Dead : ApiRobot })))), (4, .val (.os 1 eI x5.People)), (5, .val (.os 1 eI x5.Dead)), (6, .val (.os 2 eApiStuck x5.Stuck))]) 7 hm (fun x68 hm => ?_) (fun J69 hm hJ69 => ?_)
 exact St.wk (hJ61 _ hm) (Wk.f [some 0, some 1, some 2, some 3, some 4, some 5, some 6] ⟨bX, bX, vL, vL, vL, vL, vL, trivial⟩)
 refine C.ite rfl hm (fun hb70 hm => ?_) (fun hb70 hm => ?_)
 refine D.beg 8 [2, 4] [] mix rfl rfl (by kernel_rfl) (by repeat (first | exact NoPanicQ.body | exact NoPanicQ.rnd | refine NoPanicQ.th ?_ | refine NoPanicQ.blk ?_)) (fun hQ hS ws M' => ?_)
 refine D.ps 5 [(0, []), (1, []), (2, []), (3, []), (4, [])] rfl hQ hS T rfl rfl (by kernel_rfl) ?_
 refine D.q 5 [] hQ hS rfl (.none rfl) rfl rfl (by exact Rd.le T rfl rfl rfl (set_get (set_get (idx_some hx56).2.2)) rfl rfl rfl) rfl (by kernel_rfl) ?_
 refine D.ps 1 [(6, [])] rfl hQ hS T rfl rfl (by kernel_rfl) ?_
 obtain ⟨x73, hx73, hm⟩ := hm
 refine D.q 7 [] hQ hS rfl (.none rfl) rfl rfl (by exact Rd.io T rfl rfl rfl rfl rfl rfl rfl hx73) rfl (by kernel_rfl) ?_
 refine D.ze1 rfl (.none rfl) (by exact Eff1.se T (z' := x57.1) rfl rfl rfl (idx_some hx73).2.2 rfl rfl rfl rfl rfl rfl rfl rfl (fun _ => rfl) rfl) (by kernel_rfl) (by kernel_rfl) ?_
 exact St.wk (hJ69 _ hm) (Wk.f [some 1, some 2, some 3, some 4, some 5, some 6, some 7] ⟨bX, bX, vL, vL, vL, vL, vL, trivial⟩)
 refine C.skip ?_
 exact St.wk (hJ69 _ hm) (Wk.f [some 1, some 2, some 3, some 4, some 5, some 6, some 7] ⟨bX, bX, vL, vL, vL, vL, vL, trivial⟩)
 refine C.skip ?_
 exact St.wk (hJ61 _ hm) (Wk.f [some 1, some 2, some 3, some 4, some 5, some 6, some 7] ⟨bX, bX, vL, vL, vL, vL, vL, trivial⟩)
 refine C.ite rfl hm (fun hb35 hm => ?_) (fun hb35 hm => ?_)
 refine D.beg 10 [0, 1, 5] [] mix rfl rfl (by kernel_rfl) (by repeat (first | exact NoPanicQ.body | exact NoPanicQ.rnd | refine NoPanicQ.th ?_ | refine NoPanicQ.blk ?_)) (fun hQ hS ws M' => ?_)
 refine D.ps 6 [(0, []), (1, []), (2, []), (3, []), (4, []), (5, [])] rfl hQ hS T rfl rfl (by kernel_rfl) ?_
 refine D.q 6 [] hQ hS rfl (.none rfl) rfl rfl (by exact Rd.le T rfl rfl rfl (set_get (idx_some hx16).2.2) rfl rfl rfl) rfl (by kernel_rfl) ?_
 refine D.e 7 rfl (.none rfl) (by exact Eff.k (T_rules_At s_1 st (({ Cell := x16.Cell, Load := x16.Load, Charge := x22, Rest := x16.Rest, Mute := x16.Mute, Dead := x16.Dead : ApiRobot }).Cell) _ hm) en20 rfl rfl rfl (.eq rfl) (fun _ _ => ⟨(.v _), trivial⟩)) (by kernel_rfl) rfl rfl (fun x38' hm => ?_)
 obtain ⟨x38⟩ := x38'
 refine D.ps 2 [(8, [9]), (9, [])] rfl hQ hS T rfl rfl (by kernel_rfl) ?_
 refine D.ze1 rfl (.none rfl) (by exact Eff1.se T (z' := ({ Cell := ({ Cell := x16.Cell, Load := x16.Load, Charge := x22, Rest := x16.Rest, Mute := x16.Mute, Dead := x16.Dead : ApiRobot }).Cell, Load := x38, Charge := ({ Cell := x16.Cell, Load := x16.Load, Charge := x22, Rest := x16.Rest, Mute := x16.Mute, Dead := x16.Dead : ApiRobot }).Charge, Rest := ({ Cell := x16.Cell, Load := x16.Load, Charge := x22, Rest := x16.Rest, Mute := x16.Mute, Dead := x16.Dead : ApiRobot }).Rest, Mute := ({ Cell := x16.Cell, Load := x16.Load, Charge := x22, Rest := x16.Rest, Mute := x16.Mute, Dead := x16.Dead : ApiRobot }).Mute, Dead := ({ Cell := x16.Cell, Load := x16.Load, Charge := x22, Rest := x16.Rest, Mute := x16.Mute, Dead := x16.Dead : ApiRobot }).Dead : ApiRobot })) rfl rfl rfl (set_get (idx_some hx16).2.2) rfl rfl rfl rfl rfl rfl rfl rfl (fun _ => rfl) rfl) (by kernel_rfl) (by kernel_rfl) ?_
 exact St.wk (hJ34 _ hm) (Wk.f [some 0, some 2, some 3, some 4, some 5, some 6, some 7, some 8] ⟨bX, bX, bX, vL, vL, vL, vL, vL, trivial⟩)
 refine C.seq (U.start ?_)
 refine U.ps 2 T rfl ?_
 refine U.done (C.nx ?_)
 refine C.jn (fun (x41 : List ApiRobot) => [(3, .i act), (4, .p 0 0), (8, .p 1 0), (9, .p 2 0), (10, .ep 4 6 (Int.toNat robot) 0)]) (fun (x41 : List ApiRobot) => [(0, .box (eApiSite s_1)), (1, .box [.i 0, .v (.slice none 0 0), .v (.slice none 0 0), .v (.slice none 0 0), .v (.slice none 0 0), .v (.slice none 0 0)]), (2, .box [.i x5.Tick, .o 3, .o 4, .o 5, .o 6, .o 7]), (3, .val (.os 1 eI x5.Shelves)), (4, .val (.os 6 eApiRobot x41)), (5, .val (.os 1 eI x5.People)), (6, .val (.os 1 eI x5.Dead)), (7, .val (.os 2 eApiStuck x5.Stuck))]) 8 hm (fun x41 hm => ?_) (fun J42 hm hJ42 => ?_)
 exact St.wk (hJ34 _ hm) (Wk.f [some 0, some 1, some 2, some 3, some 4, some 5, some 6, some 7] ⟨bX, bX, bX, vL, vL, vL, vL, vL, trivial⟩)
 refine C.ite rfl hm (fun hb43 hm => ?_) (fun hb43 hm => ?_)
 refine U.start ?_
 refine U.ps 3 T rfl ?_
 refine U.e1 rfl (.none rfl) (by exact Eff1.se T (z' := ({ Cell := ({ Cell := x16.Cell, Load := x16.Load, Charge := x22, Rest := x16.Rest, Mute := x16.Mute, Dead := x16.Dead : ApiRobot }).Cell, Load := (-1), Charge := ({ Cell := x16.Cell, Load := x16.Load, Charge := x22, Rest := x16.Rest, Mute := x16.Mute, Dead := x16.Dead : ApiRobot }).Charge, Rest := ({ Cell := x16.Cell, Load := x16.Load, Charge := x22, Rest := x16.Rest, Mute := x16.Mute, Dead := x16.Dead : ApiRobot }).Rest, Mute := ({ Cell := x16.Cell, Load := x16.Load, Charge := x22, Rest := x16.Rest, Mute := x16.Mute, Dead := x16.Dead : ApiRobot }).Mute, Dead := ({ Cell := x16.Cell, Load := x16.Load, Charge := x22, Rest := x16.Rest, Mute := x16.Mute, Dead := x16.Dead : ApiRobot }).Dead : ApiRobot })) rfl rfl rfl (set_get (idx_some hx16).2.2) rfl rfl rfl rfl rfl rfl rfl rfl (fun _ => rfl) rfl) ?_
 refine U.done ?_
 exact St.wk (hJ42 _ hm) (Wk.f [some 0, some 2, some 3, some 4, some 5, some 6, some 7, some 8] ⟨bX, bX, bX, vL, vL, vL, vL, vL, trivial⟩)
 refine C.skip ?_
 exact St.wk (hJ42 _ hm) (Wk.f [some 0, some 2, some 3, some 4, some 5, some 6, some 7, some 8] ⟨bX, bX, bX, vL, vL, vL, vL, vL, trivial⟩)
 refine C.ite rfl hm (fun hb24 hm => ?_) (fun hb24 hm => ?_)
 refine U.start ?_
 refine U.ps 1 T rfl ?_
 refine U.done ?_
 exact St.wk (hJ23 _ hm) (Wk.f [some 0, some 1, some 2, some 3, some 4, some 5, some 6, some 7, some 8] ⟨bX, bX, bX, bX, vL, vL, vL, vL, vL, trivial⟩)
 refine C.skip ?_
 exact St.wk (hJ23 _ hm) (Wk.f [some 0, some 1, some 2, some 3, some 4, some 5, some 6, some 7, some 8] ⟨bX, bX, bX, bX, vL, vL, vL, vL, vL, trivial⟩)
 refine U.start ?_
 refine U.ps 3 T rfl ?_
 refine hm.cs (fun hb8 hm => ?_) (fun hb8 hm => ?_)
 refine U.sks 5 2 false 21 hb8 rfl rfl rfl ?_
 refine U.r rfl (.none rfl) rfl rfl (by exact Rd.pk rfl rfl hb8 rfl) ?_
 refine U.ps 1 T rfl ?_
 refine U.sks 6 9 false 28 rfl rfl rfl rfl ?_
 refine U.r rfl (.none rfl) rfl rfl (by exact Rd.pk rfl rfl rfl rfl) ?_
 refine U.done ?_
 exact St.wk (hJ7 _ hm) (Wk.f [some 0, some 1, some 2, some 8, some 3, some 4, some 5, some 6, some 7] ⟨bX, bX, bX, bX, vL, vL, vL, vL, vL, trivial⟩)
 refine U.pg 5 2 false 21 hb8 T rfl rfl rfl rfl ?_
 refine U.r rfl (.none rfl) rfl rfl (by exact Rd.pk' rfl rfl hb8 rfl) ?_
 refine U.ps 1 T rfl ?_
 refine hm.cs (fun hb9 hm => ?_) (fun hb9 hm => ?_)
 refine U.sks 6 9 false 28 hb9 rfl rfl rfl ?_
 refine U.r rfl (.none rfl) rfl rfl (by exact Rd.pk rfl rfl hb9 rfl) ?_
 refine U.done ?_
 exact St.wk (hJ7 _ hm) (Wk.f [some 0, some 1, some 2, some 8, some 3, some 4, some 5, some 6, some 7] ⟨bX, bX, bX, bX, vL, vL, vL, vL, vL, trivial⟩)
 refine U.pg 3 9 false 28 hb9 T rfl rfl rfl rfl ?_
 obtain ⟨x10, hx10, hm⟩ := hm
 refine U.r rfl (.take 9 false 28 _ hb9 rfl rfl rfl) rfl rfl (by exact Rd.io T rfl rfl rfl rfl rfl rfl rfl hx10) ?_
 refine U.pg 1 9 false 28 hb9 T rfl rfl rfl rfl ?_
 refine U.r rfl (.take 9 false 28 _ hb9 rfl rfl rfl) rfl rfl (by exact Rd.le T rfl rfl rfl (idx_some hx10).2.2 rfl rfl rfl) ?_
 refine U.r rfl (.none rfl) rfl rfl (by exact Rd.pk' rfl rfl hb9 rfl) ?_
 refine U.done ?_
 exact St.wk (hJ7 _ hm) (Wk.f [some 0, some 1, some 2, some 8, some 3, some 4, some 5, some 6, some 7] ⟨bX, bX, bX, bX, vL, vL, vL, vL, vL, trivial⟩)
theorem T_taquinlaw15_small (post : Bool → Prop) (hm : V_taquinlaw15_small post) :
    Tr Tryz.prog 8 [] [] 0 (fun A H' k => ∃ y, post y ∧ A = (.b y) ∧ H' = [] ∧ k = 0) := by
 refine Tr.intro (n := 77) Tryz.func8 rfl Tryz.ntmps8 rfl (fun w0 ok F β hβ => ?_)
 unfold V_taquinlaw15_small at hm
 refine C.seq (U.start ?_)
 refine U.ps 1 T rfl ?_
 refine U.done (C.nx (C.seq (U.start ?_)))
 refine U.e rfl (.none rfl) (by exact Eff.c [] (v := false) (T_taquinlaw15_example _ hm) en33 rfl rfl rfl (.eq rfl) trivial rfl rfl rfl rfl rfl rfl (fun h => by cases h) (.inr ⟨rfl, rfl⟩) (fun _ => rfl) (fun _ => rfl) rfl) (fun x5' hm => ?_)
 obtain ⟨x5⟩ := x5'
 refine U.ps 3 T rfl ?_
 refine U.e1 rfl (.none rfl) (by exact Eff1.al T rfl rfl rfl rfl) ?_
 refine U.e1 rfl (.none rfl) (by exact Eff1.al T rfl rfl rfl rfl) ?_
 refine U.e1 rfl (.none rfl) (by exact Eff1.st T rfl rfl rfl rfl rfl rfl rfl rfl rfl rfl) ?_
 refine U.e1 rfl (.none rfl) (by exact Eff1.st T rfl rfl rfl rfl rfl rfl rfl rfl rfl rfl) ?_
 refine U.done (C.nx (C.seq (U.start ?_)))
 refine U.ps 2 T rfl ?_
 refine U.e rfl (.none rfl) (by exact Eff.k (T_act_Legal x5.1 x5.2 0 1 _ hm) en10 rfl rfl rfl (.cons (.agg (.cons (.eq rfl) (.cons (.eq rfl) (.cons (.eq rfl) (.cons (.fz rfl rfl rfl (.os fun _ => .cons (.ro rfl) .nil)) (.cons (.fz rfl rfl rfl (.os fun _ => .cons (.ro rfl) .nil)) (.cons (.fz rfl rfl rfl (.os fun _ => .cons (.ro rfl) (.cons (.ro rfl) (.cons (.ro rfl) (.cons (.ro rfl) (.cons (.ro rfl) .nil)))))) (.cons (.fz rfl rfl rfl (.os fun _ => .cons (.ro rfl) (.cons (.ro rfl) .nil))) (.cons (.fz rfl rfl rfl (.os fun _ => .cons (.ro rfl) (.cons (.ro rfl) .nil))) (.cons (.fz rfl rfl rfl (.os fun _ => .cons (.ro rfl) (.cons (.ro rfl) .nil))) .nil)))))))))) (.cons (.agg (.cons (.eq rfl) (.cons (.fz rfl rfl rfl (.os fun _ => .cons (.ro rfl) .nil)) (.cons (.fz rfl rfl rfl (.os fun _ => .cons (.ro rfl) (.cons (.ro rfl) (.cons (.ro rfl) (.cons (.ro rfl) (.cons (.ro rfl) (.cons (.ro rfl) .nil))))))) (.cons (.fz rfl rfl rfl (.os fun _ => .cons (.ro rfl) .nil)) (.cons (.fz rfl rfl rfl (.os fun _ => .cons (.ro rfl) .nil)) (.cons (.fz rfl rfl rfl (.os fun _ => .cons (.ro rfl) (.cons (.ro rfl) .nil))) .nil))))))) (.eq rfl))) (fun _ _ => ⟨(.v _), trivial⟩)) (fun x8' hm => ?_)
 obtain ⟨x8⟩ := x8'
 refine U.ps 1 T rfl ?_
 refine U.done (C.nx (C.seq (U.start ?_)))
 refine U.ps 2 T rfl ?_
 refine U.e rfl (.none rfl) (by exact Eff.k (T_act_Legal x5.1 x5.2 0 3 _ hm) en10 rfl rfl rfl (.cons (.agg (.cons (.eq rfl) (.cons (.eq rfl) (.cons (.eq rfl) (.cons (.fz rfl rfl rfl (.os fun _ => .cons (.ro rfl) .nil)) (.cons (.fz rfl rfl rfl (.os fun _ => .cons (.ro rfl) .nil)) (.cons (.fz rfl rfl rfl (.os fun _ => .cons (.ro rfl) (.cons (.ro rfl) (.cons (.ro rfl) (.cons (.ro rfl) (.cons (.ro rfl) .nil)))))) (.cons (.fz rfl rfl rfl (.os fun _ => .cons (.ro rfl) (.cons (.ro rfl) .nil))) (.cons (.fz rfl rfl rfl (.os fun _ => .cons (.ro rfl) (.cons (.ro rfl) .nil))) (.cons (.fz rfl rfl rfl (.os fun _ => .cons (.ro rfl) (.cons (.ro rfl) .nil))) .nil)))))))))) (.cons (.agg (.cons (.eq rfl) (.cons (.fz rfl rfl rfl (.os fun _ => .cons (.ro rfl) .nil)) (.cons (.fz rfl rfl rfl (.os fun _ => .cons (.ro rfl) (.cons (.ro rfl) (.cons (.ro rfl) (.cons (.ro rfl) (.cons (.ro rfl) (.cons (.ro rfl) .nil))))))) (.cons (.fz rfl rfl rfl (.os fun _ => .cons (.ro rfl) .nil)) (.cons (.fz rfl rfl rfl (.os fun _ => .cons (.ro rfl) .nil)) (.cons (.fz rfl rfl rfl (.os fun _ => .cons (.ro rfl) (.cons (.ro rfl) .nil))) .nil))))))) (.eq rfl))) (fun _ _ => ⟨(.v _), trivial⟩)) (fun x11' hm => ?_)
 obtain ⟨x11⟩ := x11'
 refine U.ps 1 T rfl ?_
 refine U.done (C.nx (C.seq (U.start ?_)))
 refine U.ps 2 T rfl ?_
 refine U.e rfl (.none rfl) (by exact Eff.k (T_act_Legal x5.1 x5.2 0 7 _ hm) en10 rfl rfl rfl (.cons (.agg (.cons (.eq rfl) (.cons (.eq rfl) (.cons (.eq rfl) (.cons (.fz rfl rfl rfl (.os fun _ => .cons (.ro rfl) .nil)) (.cons (.fz rfl rfl rfl (.os fun _ => .cons (.ro rfl) .nil)) (.cons (.fz rfl rfl rfl (.os fun _ => .cons (.ro rfl) (.cons (.ro rfl) (.cons (.ro rfl) (.cons (.ro rfl) (.cons (.ro rfl) .nil)))))) (.cons (.fz rfl rfl rfl (.os fun _ => .cons (.ro rfl) (.cons (.ro rfl) .nil))) (.cons (.fz rfl rfl rfl (.os fun _ => .cons (.ro rfl) (.cons (.ro rfl) .nil))) (.cons (.fz rfl rfl rfl (.os fun _ => .cons (.ro rfl) (.cons (.ro rfl) .nil))) .nil)))))))))) (.cons (.agg (.cons (.eq rfl) (.cons (.fz rfl rfl rfl (.os fun _ => .cons (.ro rfl) .nil)) (.cons (.fz rfl rfl rfl (.os fun _ => .cons (.ro rfl) (.cons (.ro rfl) (.cons (.ro rfl) (.cons (.ro rfl) (.cons (.ro rfl) (.cons (.ro rfl) .nil))))))) (.cons (.fz rfl rfl rfl (.os fun _ => .cons (.ro rfl) .nil)) (.cons (.fz rfl rfl rfl (.os fun _ => .cons (.ro rfl) .nil)) (.cons (.fz rfl rfl rfl (.os fun _ => .cons (.ro rfl) (.cons (.ro rfl) .nil))) .nil))))))) (.eq rfl))) (fun _ _ => ⟨(.v _), trivial⟩)) (fun x14' hm => ?_)
 obtain ⟨x14⟩ := x14'
 refine U.ps 1 T rfl ?_
 refine U.done (C.nx (C.seq (U.start ?_)))
 refine U.ps 2 T rfl ?_
 refine U.e rfl (.none rfl) (by exact Eff.c [] (v := true) (T_act_Do x5.1 x5.2 0 1 _ hm) en16 rfl rfl rfl (.cons (.agg (.cons (.eq rfl) (.cons (.eq rfl) (.cons (.eq rfl) (.cons (.fz rfl rfl rfl (.os fun _ => .cons (.ro rfl) .nil)) (.cons (.fz rfl rfl rfl (.os fun _ => .cons (.ro rfl) .nil)) (.cons (.fz rfl rfl rfl (.os fun _ => .cons (.ro rfl) (.cons (.ro rfl) (.cons (.ro rfl) (.cons (.ro rfl) (.cons (.ro rfl) .nil)))))) (.cons (.fz rfl rfl rfl (.os fun _ => .cons (.ro rfl) (.cons (.ro rfl) .nil))) (.cons (.fz rfl rfl rfl (.os fun _ => .cons (.ro rfl) (.cons (.ro rfl) .nil))) (.cons (.fz rfl rfl rfl (.os fun _ => .cons (.ro rfl) (.cons (.ro rfl) .nil))) .nil)))))))))) (.cons (.agg (.cons (.eq rfl) (.cons (.fz rfl rfl rfl (.os fun _ => .cons (.ro rfl) .nil)) (.cons (.fz rfl rfl rfl (.os fun _ => .cons (.ro rfl) (.cons (.ro rfl) (.cons (.ro rfl) (.cons (.ro rfl) (.cons (.ro rfl) (.cons (.ro rfl) .nil))))))) (.cons (.fz rfl rfl rfl (.os fun _ => .cons (.ro rfl) .nil)) (.cons (.fz rfl rfl rfl (.os fun _ => .cons (.ro rfl) .nil)) (.cons (.fz rfl rfl rfl (.os fun _ => .cons (.ro rfl) (.cons (.ro rfl) .nil))) .nil))))))) (.eq rfl))) trivial rfl rfl rfl rfl rfl rfl (fun _ _ => ⟨(.agg (.cons (.v _) (.cons (.o _) (.cons (.o _) (.cons (.o _) (.cons (.o _) (.cons (.o _) .nil))))))), ⟨.val (.os _ _ _ fun _ => (.cons (.v _) .nil)), .val (.os _ _ _ fun _ => (.cons (.v _) (.cons (.v _) (.cons (.v _) (.cons (.v _) (.cons (.v _) (.cons (.v _) .nil))))))), .val (.os _ _ _ fun _ => (.cons (.v _) .nil)), .val (.os _ _ _ fun _ => (.cons (.v _) .nil)), .val (.os _ _ _ fun _ => (.cons (.v _) (.cons (.v _) .nil))), trivial⟩⟩) (.inr ⟨rfl, rfl⟩) (fun _ => rfl) (fun _ => rfl) rfl) (fun x17' hm => ?_)
 obtain ⟨x17⟩ := x17'
 refine U.e1 rfl (.none rfl) (by exact Eff1.al T rfl rfl rfl rfl) ?_
 refine U.e1 rfl (.none rfl) (by exact Eff1.st T rfl rfl rfl rfl rfl rfl rfl rfl rfl rfl) ?_
 refine U.done (C.nx (C.seq (U.start ?_)))
 refine U.ps 2 T rfl ?_
 refine U.e rfl (.none rfl) (by exact Eff.c [] (v := true) (T_act_Do x5.1 x17 0 7 _ hm) en16 rfl rfl rfl (.cons (.agg (.cons (.eq rfl) (.cons (.eq rfl) (.cons (.eq rfl) (.cons (.fz rfl rfl rfl (.os fun _ => .cons (.ro rfl) .nil)) (.cons (.fz rfl rfl rfl (.os fun _ => .cons (.ro rfl) .nil)) (.cons (.fz rfl rfl rfl (.os fun _ => .cons (.ro rfl) (.cons (.ro rfl) (.cons (.ro rfl) (.cons (.ro rfl) (.cons (.ro rfl) .nil)))))) (.cons (.fz rfl rfl rfl (.os fun _ => .cons (.ro rfl) (.cons (.ro rfl) .nil))) (.cons (.fz rfl rfl rfl (.os fun _ => .cons (.ro rfl) (.cons (.ro rfl) .nil))) (.cons (.fz rfl rfl rfl (.os fun _ => .cons (.ro rfl) (.cons (.ro rfl) .nil))) .nil)))))))))) (.cons (.agg (.cons (.eq rfl) (.cons (.fz rfl rfl rfl (.os fun _ => .cons (.ro rfl) .nil)) (.cons (.fz rfl rfl rfl (.os fun _ => .cons (.ro rfl) (.cons (.ro rfl) (.cons (.ro rfl) (.cons (.ro rfl) (.cons (.ro rfl) (.cons (.ro rfl) .nil))))))) (.cons (.fz rfl rfl rfl (.os fun _ => .cons (.ro rfl) .nil)) (.cons (.fz rfl rfl rfl (.os fun _ => .cons (.ro rfl) .nil)) (.cons (.fz rfl rfl rfl (.os fun _ => .cons (.ro rfl) (.cons (.ro rfl) .nil))) .nil))))))) (.eq rfl))) trivial rfl rfl rfl rfl rfl rfl (fun _ _ => ⟨(.agg (.cons (.v _) (.cons (.o _) (.cons (.o _) (.cons (.o _) (.cons (.o _) (.cons (.o _) .nil))))))), ⟨.val (.os _ _ _ fun _ => (.cons (.v _) .nil)), .val (.os _ _ _ fun _ => (.cons (.v _) (.cons (.v _) (.cons (.v _) (.cons (.v _) (.cons (.v _) (.cons (.v _) .nil))))))), .val (.os _ _ _ fun _ => (.cons (.v _) .nil)), .val (.os _ _ _ fun _ => (.cons (.v _) .nil)), .val (.os _ _ _ fun _ => (.cons (.v _) (.cons (.v _) .nil))), trivial⟩⟩) (.inr ⟨rfl, rfl⟩) (fun _ => rfl) (fun _ => rfl) rfl) (fun x20' hm => ?_)
 obtain ⟨x20⟩ := x20'
 refine U.e1 rfl (.none rfl) (by exact Eff1.al T rfl rfl rfl rfl) ?_
 refine U.e1 rfl (.none rfl) (by exact Eff1.st T rfl rfl rfl rfl rfl rfl rfl rfl rfl rfl) ?_
 refine U.done (C.nx (C.seq (C.seq ?_)))
 refine C.jn (fun (x21 : Bool) => [(1, .p 0 0), (3, .i x8), (4, .i x11), (5, .i x14), (7, .p 7 0), (36, .b x21)]) (fun (x21 : Bool) => [(0, .box [.i x5.1.Floor.W, .i x5.1.Floor.H, .i x5.1.Floor.D, .o 1, .o 2, .o 3, .o 4, .o 5, .o 6]), (1, .val (.os 1 eI x5.1.Floor.Kind)), (2, .val (.os 1 eI x5.1.Floor.Out)), (3, .val (.os 5 eApiZone x5.1.Zones)), (4, .val (.os 2 eApiApart x5.1.Aparts)), (5, .val (.os 2 eApiShelf x5.1.Shelves)), (6, .val (.os 2 eApiStart x5.1.Robots)), (7, .box [.i x20.Tick, .o 8, .o 9, .o 10, .o 11, .o 12]), (8, .val (.os 1 eI x20.Shelves)), (9, .val (.os 6 eApiRobot x20.Robots)), (10, .val (.os 1 eI x20.People)), (11, .val (.os 1 eI x20.Dead)), (12, .val (.os 2 eApiStuck x20.Stuck))]) 13 hm (fun x21 hm => ?_) (fun J22 hm hJ22 => ?_)
 refine C.nx ?_
 refine C.ite rfl hm (fun hb24 hm => ?_) (fun hb24 hm => ?_)
 refine C.seq (U.start ?_)
 refine U.ps 1 T rfl ?_
 refine U.done (C.nx (C.ret (C.rt ?_)))
 exact C.f0 T (rs' := [.b false]) hβ ⟨false, hm, rfl, rfl, rfl⟩
 refine C.skip (C.nx (C.seq ?_))
 refine C.jn (fun (x27 : Bool) => [(0, .b x27)]) (fun (x27 : Bool) => []) 0 hm (fun x27 hm => ?_) (fun J28 hm hJ28 => ?_)
 refine C.nx (C.ret ?_)
 exact C.f0 T (rs' := [.b x27]) hβ ⟨x27, hm, rfl, rfl, rfl⟩
 refine U.start ?_
 refine U.ps 3 T rfl ?_
 refine hm.cs (fun hb29 hm => ?_) (fun hb29 hm => ?_)
 refine U.pg 2 2 true 39 hb29 T rfl rfl rfl rfl ?_
 refine U.r rfl (.none rfl) rfl rfl (by exact Rd.pk rfl rfl hb29 rfl) ?_
 refine U.ps 1 T rfl ?_
 refine hm.cs (fun hb30 hm => ?_) (fun hb30 hm => ?_)
 refine U.pg 2 6 true 43 hb30 T rfl rfl rfl rfl ?_
 refine U.r rfl (.none rfl) rfl rfl (by exact Rd.pk rfl rfl hb30 rfl) ?_
 refine U.ps 1 T rfl ?_
 refine hm.cs (fun hb31 hm => ?_) (fun hb31 hm => ?_)
 refine U.pg 2 10 true 47 hb31 T rfl rfl rfl rfl ?_
 obtain ⟨x32, hx32, hm⟩ := hm
 refine U.r rfl (.take 10 true 47 _ hb31 rfl rfl rfl) rfl rfl (by exact Rd.io T rfl rfl rfl rfl rfl rfl rfl hx32) ?_
 refine U.pg 1 10 true 47 hb31 T rfl rfl rfl rfl ?_
 refine U.r rfl (.take 10 true 47 _ hb31 rfl rfl rfl) rfl rfl (by exact Rd.le T rfl rfl rfl (idx_some hx32).2.2 rfl rfl rfl) ?_
 refine U.pg 1 10 true 47 hb31 T rfl rfl rfl rfl ?_
 refine U.r rfl (.none rfl) rfl rfl (by exact Rd.pk rfl rfl hb31 rfl) ?_
 refine U.ps 1 T rfl ?_
 refine hm.cs (fun hb33 hm => ?_) (fun hb33 hm => ?_)
 refine U.pg 2 18 true 55 hb33 T rfl rfl rfl rfl ?_
 refine U.r rfl (.take 18 true 55 _ hb33 rfl rfl rfl) rfl rfl (by exact Rd.io T rfl rfl rfl rfl rfl rfl rfl hx32) ?_
 refine U.pg 1 18 true 55 hb33 T rfl rfl rfl rfl ?_
 refine U.r rfl (.take 18 true 55 _ hb33 rfl rfl rfl) rfl rfl (by exact Rd.le T rfl rfl rfl (idx_some hx32).2.2 rfl rfl rfl) ?_
 refine U.pg 1 18 true 55 hb33 T rfl rfl rfl rfl ?_
 refine U.r rfl (.none rfl) rfl rfl (by exact Rd.pk rfl rfl hb33 rfl) ?_
 refine U.ps 1 T rfl ?_
 refine hm.cs (fun hb34 hm => ?_) (fun hb34 hm => ?_)
 refine U.pg 2 26 true 63 hb34 T rfl rfl rfl rfl ?_
 refine U.r rfl (.take 26 true 63 _ hb34 rfl rfl rfl) rfl rfl (by exact Rd.io T rfl rfl rfl rfl rfl rfl rfl hx32) ?_
 refine U.pg 1 26 true 63 hb34 T rfl rfl rfl rfl ?_
 refine U.r rfl (.take 26 true 63 _ hb34 rfl rfl rfl) rfl rfl (by exact Rd.le T rfl rfl rfl (idx_some hx32).2.2 rfl rfl rfl) ?_
 refine U.pg 1 26 true 63 hb34 T rfl rfl rfl rfl ?_
 refine U.r rfl (.none rfl) rfl rfl (by exact Rd.pk rfl rfl hb34 rfl) ?_
 refine U.ps 1 T rfl ?_
 refine hm.cs (fun hb35 hm => ?_) (fun hb35 hm => ?_)
 refine U.pg 2 34 true 71 hb35 T rfl rfl rfl rfl ?_
 refine U.e rfl (.take 34 true 71 _ hb35 rfl rfl rfl) (by exact Eff.k (T_act_Legal x5.1 x20 0 1 _ hm) en10 rfl rfl rfl (.cons (.agg (.cons (.eq rfl) (.cons (.eq rfl) (.cons (.eq rfl) (.cons (.fz rfl rfl rfl (.os fun _ => .cons (.ro rfl) .nil)) (.cons (.fz rfl rfl rfl (.os fun _ => .cons (.ro rfl) .nil)) (.cons (.fz rfl rfl rfl (.os fun _ => .cons (.ro rfl) (.cons (.ro rfl) (.cons (.ro rfl) (.cons (.ro rfl) (.cons (.ro rfl) .nil)))))) (.cons (.fz rfl rfl rfl (.os fun _ => .cons (.ro rfl) (.cons (.ro rfl) .nil))) (.cons (.fz rfl rfl rfl (.os fun _ => .cons (.ro rfl) (.cons (.ro rfl) .nil))) (.cons (.fz rfl rfl rfl (.os fun _ => .cons (.ro rfl) (.cons (.ro rfl) .nil))) .nil)))))))))) (.cons (.agg (.cons (.eq rfl) (.cons (.fz rfl rfl rfl (.os fun _ => .cons (.ro rfl) .nil)) (.cons (.fz rfl rfl rfl (.os fun _ => .cons (.ro rfl) (.cons (.ro rfl) (.cons (.ro rfl) (.cons (.ro rfl) (.cons (.ro rfl) (.cons (.ro rfl) .nil))))))) (.cons (.fz rfl rfl rfl (.os fun _ => .cons (.ro rfl) .nil)) (.cons (.fz rfl rfl rfl (.os fun _ => .cons (.ro rfl) .nil)) (.cons (.fz rfl rfl rfl (.os fun _ => .cons (.ro rfl) (.cons (.ro rfl) .nil))) .nil))))))) (.eq rfl))) (fun _ _ => ⟨(.v _), trivial⟩)) (fun x36' hm => ?_)
 obtain ⟨x36⟩ := x36'
 refine U.pg 1 34 true 71 hb35 T rfl rfl rfl rfl ?_
 refine U.r rfl (.none rfl) rfl rfl (by exact Rd.pk rfl rfl hb35 rfl) ?_
 refine U.ps 1 T rfl ?_
 refine U.done ?_
 exact St.wk (hJ28 _ hm) (Wk.e)
 refine U.sks 4 34 true 71 hb35 rfl rfl rfl ?_
 refine U.r rfl (.none rfl) rfl rfl (by exact Rd.pk' rfl rfl hb35 rfl) ?_
 refine U.ps 1 T rfl ?_
 refine U.done ?_
 exact St.wk (hJ28 _ hm) (Wk.e)
 refine U.sks 6 26 true 63 hb34 rfl rfl rfl ?_
 refine U.r rfl (.none rfl) rfl rfl (by exact Rd.pk' rfl rfl hb34 rfl) ?_
 refine U.ps 1 T rfl ?_
 refine U.sks 4 34 true 71 rfl rfl rfl rfl ?_
 refine U.r rfl (.none rfl) rfl rfl (by exact Rd.pk' rfl rfl rfl rfl) ?_
 refine U.ps 1 T rfl ?_
 refine U.done ?_
 exact St.wk (hJ28 _ hm) (Wk.e)
 refine U.sks 6 18 true 55 hb33 rfl rfl rfl ?_
 refine U.r rfl (.none rfl) rfl rfl (by exact Rd.pk' rfl rfl hb33 rfl) ?_
 refine U.ps 1 T rfl ?_
 refine U.sks 6 26 true 63 rfl rfl rfl rfl ?_
 refine U.r rfl (.none rfl) rfl rfl (by exact Rd.pk' rfl rfl rfl rfl) ?_
 refine U.ps 1 T rfl ?_
 refine U.sks 4 34 true 71 rfl rfl rfl rfl ?_
 refine U.r rfl (.none rfl) rfl rfl (by exact Rd.pk' rfl rfl rfl rfl) ?_
 refine U.ps 1 T rfl ?_
 refine U.done ?_
 exact St.wk (hJ28 _ hm) (Wk.e)
 refine U.sks 6 10 true 47 hb31 rfl rfl rfl ?_
 refine U.r rfl (.none rfl) rfl rfl (by exact Rd.pk' rfl rfl hb31 rfl) ?_
 refine U.ps 1 T rfl ?_
 refine U.sks 6 18 true 55 rfl rfl rfl rfl ?_
 refine U.r rfl (.none rfl) rfl rfl (by exact Rd.pk' rfl rfl rfl rfl) ?_
 refine U.ps 1 T rfl ?_
 refine U.sks 6 26 true 63 rfl rfl rfl rfl ?_
 refine U.r rfl (.none rfl) rfl rfl (by exact Rd.pk' rfl rfl rfl rfl) ?_
 refine U.ps 1 T rfl ?_
 refine U.sks 4 34 true 71 rfl rfl rfl rfl ?_
 refine U.r rfl (.none rfl) rfl rfl (by exact Rd.pk' rfl rfl rfl rfl) ?_
 refine U.ps 1 T rfl ?_
 refine U.done ?_
 exact St.wk (hJ28 _ hm) (Wk.e)
 refine U.sks 2 6 true 43 hb30 rfl rfl rfl ?_
 refine U.r rfl (.none rfl) rfl rfl (by exact Rd.pk' rfl rfl hb30 rfl) ?_
 refine U.ps 1 T rfl ?_
 refine U.sks 6 10 true 47 rfl rfl rfl rfl ?_
 refine U.r rfl (.none rfl) rfl rfl (by exact Rd.pk' rfl rfl rfl rfl) ?_
 refine U.ps 1 T rfl ?_
 refine U.sks 6 18 true 55 rfl rfl rfl rfl ?_
 refine U.r rfl (.none rfl) rfl rfl (by exact Rd.pk' rfl rfl rfl rfl) ?_
 refine U.ps 1 T rfl ?_
 refine U.sks 6 26 true 63 rfl rfl rfl rfl ?_
 refine U.r rfl (.none rfl) rfl rfl (by exact Rd.pk' rfl rfl rfl rfl) ?_
 refine U.ps 1 T rfl ?_
 refine U.sks 4 34 true 71 rfl rfl rfl rfl ?_
 refine U.r rfl (.none rfl) rfl rfl (by exact Rd.pk' rfl rfl rfl rfl) ?_
 refine U.ps 1 T rfl ?_
 refine U.done ?_
 exact St.wk (hJ28 _ hm) (Wk.e)
 refine U.sks 2 2 true 39 hb29 rfl rfl rfl ?_
 refine U.r rfl (.none rfl) rfl rfl (by exact Rd.pk' rfl rfl hb29 rfl) ?_
 refine U.ps 1 T rfl ?_
 refine U.sks 2 6 true 43 rfl rfl rfl rfl ?_
 refine U.r rfl (.none rfl) rfl rfl (by exact Rd.pk' rfl rfl rfl rfl) ?_
 refine U.ps 1 T rfl ?_
 refine U.sks 6 10 true 47 rfl rfl rfl rfl ?_
 refine U.r rfl (.none rfl) rfl rfl (by exact Rd.pk' rfl rfl rfl rfl) ?_
 refine U.ps 1 T rfl ?_
 refine U.sks 6 18 true 55 rfl rfl rfl rfl ?_
 refine U.r rfl (.none rfl) rfl rfl (by exact Rd.pk' rfl rfl rfl rfl) ?_
 refine U.ps 1 T rfl ?_
 refine U.sks 6 26 true 63 rfl rfl rfl rfl ?_
 refine U.r rfl (.none rfl) rfl rfl (by exact Rd.pk' rfl rfl rfl rfl) ?_
 refine U.ps 1 T rfl ?_
 refine U.sks 4 34 true 71 rfl rfl rfl rfl ?_
 refine U.r rfl (.none rfl) rfl rfl (by exact Rd.pk' rfl rfl rfl rfl) ?_
 refine U.ps 1 T rfl ?_
 refine U.done ?_
 exact St.wk (hJ28 _ hm) (Wk.e)
 refine U.start ?_
 refine U.ps 5 T rfl ?_
 refine hm.cs (fun hb23 hm => ?_) (fun hb23 hm => ?_)
 refine U.sks 4 4 false 31 hb23 rfl rfl rfl ?_
 refine U.r rfl (.none rfl) rfl rfl (by exact Rd.pk rfl rfl hb23 rfl) ?_
 refine U.done ?_
 exact St.wk (hJ22 _ hm) (Wk.f [some 11, some 0, some 1, some 2, some 3, some 4, some 5, some 24, some 19, some 20, some 21, some 22, some 23] ⟨bX, vL, vL, vL, vL, vL, vL, bX, vL, vL, vL, vL, vL, trivial⟩)
 refine U.pg 4 4 false 31 hb23 T rfl rfl rfl rfl ?_
 refine U.r rfl (.none rfl) rfl rfl (by exact Rd.pk' rfl rfl hb23 rfl) ?_
 refine U.done ?_
 exact St.wk (hJ22 _ hm) (Wk.f [some 11, some 0, some 1, some 2, some 3, some 4, some 5, some 24, some 19, some 20, some 21, some 22, some 23] ⟨bX, vL, vL, vL, vL, vL, vL, bX, vL, vL, vL, vL, vL, trivial⟩)
theorem T_taquinref07_Few (f : ApiFloor) (n : Int) (post : Bool → Prop) (hm : V_taquinref07_Few f n post) :
    Tr Tryz.prog 77 [.agg (eApiFloor f), .i n] [] 0 (fun A H' k => ∃ y, post y ∧ A = (.b y) ∧ H' = [] ∧ k = 0) := by
 refine Tr.intro (n := 17) Tryz.func77 rfl Tryz.ntmps77 rfl (fun w0 ok F β hβ => ?_)
 unfold V_taquinref07_Few at hm
 refine C.seq (U.start ?_)
 refine U.e1 rfl (.none rfl) (by exact Eff1.box rfl rfl rfl rfl rfl) ?_
 refine U.ps 1 T rfl ?_
 refine U.done (C.nx (C.seq ?_))
 refine C.jn (fun (x3 : Bool) => [(4, .b x3)]) (fun (x3 : Bool) => []) 0 hm (fun x3 hm => ?_) (fun J4 hm hJ4 => ?_)
 refine C.nx (C.ret ?_)
 exact C.f0 T (rs' := [.b x3]) hβ ⟨x3, hm, rfl, rfl, rfl⟩
 refine U.start ?_
 refine U.ps 6 T rfl ?_
 refine hm.cs (fun hb5 hm => ?_) (fun hb5 hm => ?_)
 refine U.pg 5 5 true 10 hb5 T rfl rfl rfl rfl ?_
 refine U.r rfl (.none rfl) rfl rfl (by exact Rd.pk rfl rfl hb5 rfl) ?_
 refine U.ps 1 T rfl ?_
 refine U.done ?_
 exact St.wk (hJ4 _ hm) (Wk.e)
 refine U.sks 5 5 true 10 hb5 rfl rfl rfl ?_
 refine U.r rfl (.none rfl) rfl rfl (by exact Rd.pk' rfl rfl hb5 rfl) ?_
 refine U.ps 1 T rfl ?_
 refine U.done ?_
 exact St.wk (hJ4 _ hm) (Wk.e)
theorem T_taquinref11_Few (s_1 : ApiSite) (cells : Int) (most : Int) (post : Bool → Prop) (hm : V_taquinref11_Few s_1 cells most post) :
    Tr Tryz.prog 34 [.agg (eApiSite s_1), .i cells, .i most] [] 0 (fun A H' k => ∃ y, post y ∧ A = (.b y) ∧ H' = [] ∧ k = 0) := by
 refine Tr.intro (n := 133) Tryz.func34 rfl Tryz.ntmps34 rfl (fun w0 ok F β hβ => ?_)
 unfold V_taquinref11_Few at hm
 refine C.seq (U.start ?_)
 refine U.e1 rfl (.none rfl) (by exact Eff1.box rfl rfl rfl rfl rfl) ?_
 refine U.ps 1 T rfl ?_
 refine U.done (C.nx (C.seq (C.seq (U.start ?_))))
 refine U.ps 1 T rfl ?_
 refine U.done (C.nx ?_)
 refine C.jn (fun (x5 : Unit) => [(1, .i cells), (2, .i most), (3, .p 0 0)]) (fun (x5 : Unit) => [(0, .box (eApiSite s_1))]) 1 hm (fun x5 hm => ?_) (fun J6 hm hJ6 => ?_)
 refine C.nx (C.seq (C.seq (U.start ?_)))
 refine U.ps 1 T rfl ?_
 refine U.done (C.nx ?_)
 refine C.jn (fun (x25 : Unit) => [(1, .i cells), (2, .i most), (3, .p 0 0)]) (fun (x25 : Unit) => [(0, .box (eApiSite s_1))]) 1 hm (fun x25 hm => ?_) (fun J26 hm hJ26 => ?_)
 refine C.nx (C.seq (C.seq (U.start ?_)))
 refine U.ps 1 T rfl ?_
 refine U.done (C.nx ?_)
 refine C.jn (fun (x44 : Unit) => [(1, .i cells), (2, .i most), (3, .p 0 0)]) (fun (x44 : Unit) => [(0, .box (eApiSite s_1))]) 1 hm (fun x44 hm => ?_) (fun J45 hm hJ45 => ?_)
 refine C.nx (C.seq ?_)
 refine C.jn (fun (x60 : Bool) => [(6, .b x60)]) (fun (x60 : Bool) => []) 0 hm (fun x60 hm => ?_) (fun J61 hm hJ61 => ?_)
 refine C.nx (C.ret ?_)
 exact C.f0 T (rs' := [.b x60]) hβ ⟨x60, hm, rfl, rfl, rfl⟩
 refine U.start ?_
 refine U.ps 3 T rfl ?_
 refine U.e rfl (.none rfl) (by exact Eff.k (T_taquinref07_Few s_1.Floor cells _ hm) en77 rfl rfl rfl (.eq rfl) (fun _ _ => ⟨(.v _), trivial⟩)) (fun x62' hm => ?_)
 obtain ⟨x62⟩ := x62'
 refine U.ps 1 T rfl ?_
 refine hm.cs (fun hb63 hm => ?_) (fun hb63 hm => ?_)
 refine U.pg 5 4 true 105 hb63 T rfl rfl rfl rfl ?_
 refine U.r rfl (.none rfl) rfl rfl (by exact Rd.pk rfl rfl hb63 rfl) ?_
 refine U.ps 1 T rfl ?_
 refine hm.cs (fun hb64 hm => ?_) (fun hb64 hm => ?_)
 refine U.pg 5 11 true 112 hb64 T rfl rfl rfl rfl ?_
 refine U.r rfl (.none rfl) rfl rfl (by exact Rd.pk rfl rfl hb64 rfl) ?_
 refine U.ps 1 T rfl ?_
 refine hm.cs (fun hb65 hm => ?_) (fun hb65 hm => ?_)
 refine U.pg 5 18 true 119 hb65 T rfl rfl rfl rfl ?_
 refine U.r rfl (.none rfl) rfl rfl (by exact Rd.pk rfl rfl hb65 rfl) ?_
 refine U.ps 1 T rfl ?_
 refine hm.cs (fun hb66 hm => ?_) (fun hb66 hm => ?_)
 refine U.pg 5 25 true 126 hb66 T rfl rfl rfl rfl ?_
 refine U.r rfl (.none rfl) rfl rfl (by exact Rd.pk rfl rfl hb66 rfl) ?_
 refine U.ps 1 T rfl ?_
 refine U.done ?_
 exact St.wk (hJ61 _ hm) (Wk.e)
 refine U.sks 5 25 true 126 hb66 rfl rfl rfl ?_
 refine U.r rfl (.none rfl) rfl rfl (by exact Rd.pk' rfl rfl hb66 rfl) ?_
 refine U.ps 1 T rfl ?_
 refine U.done ?_
 exact St.wk (hJ61 _ hm) (Wk.e)
 refine U.sks 5 18 true 119 hb65 rfl rfl rfl ?_
 refine U.r rfl (.none rfl) rfl rfl (by exact Rd.pk' rfl rfl hb65 rfl) ?_
 refine U.ps 1 T rfl ?_
 refine U.sks 5 25 true 126 rfl rfl rfl rfl ?_
 refine U.r rfl (.none rfl) rfl rfl (by exact Rd.pk' rfl rfl rfl rfl) ?_
 refine U.ps 1 T rfl ?_
 refine U.done ?_
 exact St.wk (hJ61 _ hm) (Wk.e)
 refine U.sks 5 11 true 112 hb64 rfl rfl rfl ?_
 refine U.r rfl (.none rfl) rfl rfl (by exact Rd.pk' rfl rfl hb64 rfl) ?_
 refine U.ps 1 T rfl ?_
 refine U.sks 5 18 true 119 rfl rfl rfl rfl ?_
 refine U.r rfl (.none rfl) rfl rfl (by exact Rd.pk' rfl rfl rfl rfl) ?_
 refine U.ps 1 T rfl ?_
 refine U.sks 5 25 true 126 rfl rfl rfl rfl ?_
 refine U.r rfl (.none rfl) rfl rfl (by exact Rd.pk' rfl rfl rfl rfl) ?_
 refine U.ps 1 T rfl ?_
 refine U.done ?_
 exact St.wk (hJ61 _ hm) (Wk.e)
 refine U.sks 5 4 true 105 hb63 rfl rfl rfl ?_
 refine U.r rfl (.none rfl) rfl rfl (by exact Rd.pk' rfl rfl hb63 rfl) ?_
 refine U.ps 1 T rfl ?_
 refine U.sks 5 11 true 112 rfl rfl rfl rfl ?_
 refine U.r rfl (.none rfl) rfl rfl (by exact Rd.pk' rfl rfl rfl rfl) ?_
 refine U.ps 1 T rfl ?_
 refine U.sks 5 18 true 119 rfl rfl rfl rfl ?_
 refine U.r rfl (.none rfl) rfl rfl (by exact Rd.pk' rfl rfl rfl rfl) ?_
 refine U.ps 1 T rfl ?_
 refine U.sks 5 25 true 126 rfl rfl rfl rfl ?_
 refine U.r rfl (.none rfl) rfl rfl (by exact Rd.pk' rfl rfl rfl rfl) ?_
 refine U.ps 1 T rfl ?_
 refine U.done ?_
 exact St.wk (hJ61 _ hm) (Wk.e)
 refine C.block ?_
 refine St.wk (C.loop (fun (s46 : Int) => [(1, .i cells), (2, .i most), (3, .p 0 0), (9, .i s46)]) (fun (s46 : Int) => [(0, .box (eApiSite s_1))]) hm (fun s46 Y47 hm => ?_)) (Wk.f [some 0] ⟨bX, trivial⟩)
 refine C.seq (C.seq ?_)
 refine C.jn (fun (x48 : Bool) => [(1, .i cells), (2, .i most), (3, .p 0 0), (9, .i s46), (90, .b x48)]) (fun (x48 : Bool) => [(0, .box (eApiSite s_1))]) 1 hm (fun x48 hm => ?_) (fun J49 hm hJ49 => ?_)
 refine C.nx ?_
 refine C.ite rfl hm (fun hb51 hm => ?_) (fun hb51 hm => ?_)
 refine C.skip (C.nx (C.seq (C.block (C.seq (U.start ?_)))))
 refine U.ps 3 T rfl ?_
 obtain ⟨x54, hx54, hm⟩ := hm
 refine U.r rfl (.none rfl) rfl rfl (by exact Rd.ix T rfl rfl rfl rfl rfl rfl hx54) ?_
 refine U.ps 4 T rfl ?_
 refine U.done (C.nx ?_)
 refine C.ite rfl hm (fun hb55 hm => ?_) (fun hb55 hm => ?_)
 refine C.seq (U.start ?_)
 refine U.ps 1 T rfl ?_
 refine U.done (C.nx (C.ret (C.brt (C.rt (C.rt (C.brt (C.rt ?_)))))))
 exact C.f0 T (rs' := [.b false]) hβ ⟨false, hm, rfl, rfl, rfl⟩
 refine C.skip (C.bnx (C.nx (U.start ?_)))
 refine U.ps 3 T rfl ?_
 refine U.done (C.nx ?_)
 exact St.wk (C.next hm) (Wk.f [some 0] ⟨bX, trivial⟩)
 refine C.exit (C.ex (C.ex (C.bex ?_)))
 exact St.wk (hJ45 _ hm) (Wk.f [some 0] ⟨bX, trivial⟩)
 refine U.start ?_
 refine U.ps 6 T rfl ?_
 refine hm.cs (fun hb50 hm => ?_) (fun hb50 hm => ?_)
 refine U.pg 3 5 true 86 hb50 T rfl rfl rfl rfl ?_
 refine U.r rfl (.none rfl) rfl rfl (by exact Rd.pk rfl rfl hb50 rfl) ?_
 refine U.done ?_
 exact St.wk (hJ49 _ hm) (Wk.f [some 0] ⟨bX, trivial⟩)
 refine U.sks 3 5 true 86 hb50 rfl rfl rfl ?_
 refine U.r rfl (.none rfl) rfl rfl (by exact Rd.pk' rfl rfl hb50 rfl) ?_
 refine U.done ?_
 exact St.wk (hJ49 _ hm) (Wk.f [some 0] ⟨bX, trivial⟩)
 refine C.block ?_
 refine St.wk (C.loop (fun (s27 : Int) => [(1, .i cells), (2, .i most), (3, .p 0 0), (8, .i s27)]) (fun (s27 : Int) => [(0, .box (eApiSite s_1))]) hm (fun s27 Y28 hm => ?_)) (Wk.f [some 0] ⟨bX, trivial⟩)
 refine C.seq (C.seq ?_)
 refine C.jn (fun (x29 : Bool) => [(1, .i cells), (2, .i most), (3, .p 0 0), (8, .i s27), (60, .b x29)]) (fun (x29 : Bool) => [(0, .box (eApiSite s_1))]) 1 hm (fun x29 hm => ?_) (fun J30 hm hJ30 => ?_)
 refine C.nx ?_
 refine C.ite rfl hm (fun hb32 hm => ?_) (fun hb32 hm => ?_)
 refine C.skip (C.nx (C.seq (C.block (C.seq ?_))))
 refine C.jn (fun (x33 : Bool) => [(1, .i cells), (2, .i most), (3, .p 0 0), (8, .i s27), (80, .b x33)]) (fun (x33 : Bool) => [(0, .box (eApiSite s_1))]) 1 hm (fun x33 hm => ?_) (fun J34 hm hJ34 => ?_)
 refine C.nx ?_
 refine C.ite rfl hm (fun hb37 hm => ?_) (fun hb37 hm => ?_)
 refine C.seq (U.start ?_)
 refine U.ps 1 T rfl ?_
 refine U.done (C.nx (C.ret (C.brt (C.rt (C.rt (C.brt (C.rt ?_)))))))
 exact C.f0 T (rs' := [.b false]) hβ ⟨false, hm, rfl, rfl, rfl⟩
 refine C.skip (C.bnx (C.nx (U.start ?_)))
 refine U.ps 3 T rfl ?_
 refine U.done (C.nx ?_)
 exact St.wk (C.next hm) (Wk.f [some 0] ⟨bX, trivial⟩)
 refine U.start ?_
 refine U.ps 3 T rfl ?_
 obtain ⟨x35, hx35, hm⟩ := hm
 refine U.r rfl (.none rfl) rfl rfl (by exact Rd.ix T rfl rfl rfl rfl rfl rfl hx35) ?_
 refine U.ps 5 T rfl ?_
 refine hm.cs (fun hb36 hm => ?_) (fun hb36 hm => ?_)
 refine U.sks 8 8 false 71 hb36 rfl rfl rfl ?_
 refine U.r rfl (.none rfl) rfl rfl (by exact Rd.pk rfl rfl hb36 rfl) ?_
 refine U.done ?_
 exact St.wk (hJ34 _ hm) (Wk.f [some 0] ⟨bX, trivial⟩)
 refine U.pg 3 8 false 71 hb36 T rfl rfl rfl rfl ?_
 refine U.r rfl (.take 8 false 71 _ hb36 rfl rfl rfl) rfl rfl (by exact Rd.ix T rfl rfl rfl rfl rfl rfl hx35) ?_
 refine U.pg 4 8 false 71 hb36 T rfl rfl rfl rfl ?_
 refine U.r rfl (.none rfl) rfl rfl (by exact Rd.pk' rfl rfl hb36 rfl) ?_
 refine U.done ?_
 exact St.wk (hJ34 _ hm) (Wk.f [some 0] ⟨bX, trivial⟩)
 refine C.exit (C.ex (C.ex (C.bex ?_)))
 exact St.wk (hJ26 _ hm) (Wk.f [some 0] ⟨bX, trivial⟩)
 refine U.start ?_
 refine U.ps 6 T rfl ?_
 refine hm.cs (fun hb31 hm => ?_) (fun hb31 hm => ?_)
 refine U.pg 3 5 true 56 hb31 T rfl rfl rfl rfl ?_
 refine U.r rfl (.none rfl) rfl rfl (by exact Rd.pk rfl rfl hb31 rfl) ?_
 refine U.done ?_
 exact St.wk (hJ30 _ hm) (Wk.f [some 0] ⟨bX, trivial⟩)
 refine U.sks 3 5 true 56 hb31 rfl rfl rfl ?_
 refine U.r rfl (.none rfl) rfl rfl (by exact Rd.pk' rfl rfl hb31 rfl) ?_
 refine U.done ?_
 exact St.wk (hJ30 _ hm) (Wk.f [some 0] ⟨bX, trivial⟩)
 refine C.block ?_
 refine St.wk (C.loop (fun (s7 : Int) => [(1, .i cells), (2, .i most), (3, .p 0 0), (7, .i s7)]) (fun (s7 : Int) => [(0, .box (eApiSite s_1))]) hm (fun s7 Y8 hm => ?_)) (Wk.f [some 0] ⟨bX, trivial⟩)
 refine C.seq (C.seq ?_)
 refine C.jn (fun (x9 : Bool) => [(1, .i cells), (2, .i most), (3, .p 0 0), (7, .i s7), (19, .b x9)]) (fun (x9 : Bool) => [(0, .box (eApiSite s_1))]) 1 hm (fun x9 hm => ?_) (fun J10 hm hJ10 => ?_)
 refine C.nx ?_
 refine C.ite rfl hm (fun hb12 hm => ?_) (fun hb12 hm => ?_)
 refine C.skip (C.nx (C.seq (C.block (C.seq ?_))))
 refine C.jn (fun (x13 : Bool) => [(1, .i cells), (2, .i most), (3, .p 0 0), (7, .i s7), (50, .b x13)]) (fun (x13 : Bool) => [(0, .box (eApiSite s_1))]) 1 hm (fun x13 hm => ?_) (fun J14 hm hJ14 => ?_)
 refine C.nx ?_
 refine C.ite rfl hm (fun hb18 hm => ?_) (fun hb18 hm => ?_)
 refine C.seq (U.start ?_)
 refine U.ps 1 T rfl ?_
 refine U.done (C.nx (C.ret (C.brt (C.rt (C.rt (C.brt (C.rt ?_)))))))
 exact C.f0 T (rs' := [.b false]) hβ ⟨false, hm, rfl, rfl, rfl⟩
 refine C.skip (C.bnx (C.nx (U.start ?_)))
 refine U.ps 3 T rfl ?_
 refine U.done (C.nx ?_)
 exact St.wk (C.next hm) (Wk.f [some 0] ⟨bX, trivial⟩)
 refine U.start ?_
 refine U.ps 3 T rfl ?_
 obtain ⟨x15, hx15, hm⟩ := hm
 refine U.r rfl (.none rfl) rfl rfl (by exact Rd.ix T rfl rfl rfl rfl rfl rfl hx15) ?_
 refine U.ps 6 T rfl ?_
 refine hm.cs (fun hb16 hm => ?_) (fun hb16 hm => ?_)
 refine U.sks 8 9 false 31 hb16 rfl rfl rfl ?_
 refine U.r rfl (.none rfl) rfl rfl (by exact Rd.pk rfl rfl hb16 rfl) ?_
 refine U.ps 1 T rfl ?_
 refine U.sks 8 19 false 41 rfl rfl rfl rfl ?_
 refine U.r rfl (.none rfl) rfl rfl (by exact Rd.pk rfl rfl rfl rfl) ?_
 refine U.done ?_
 exact St.wk (hJ14 _ hm) (Wk.f [some 0] ⟨bX, trivial⟩)
 refine U.pg 3 9 false 31 hb16 T rfl rfl rfl rfl ?_
 refine U.r rfl (.take 9 false 31 _ hb16 rfl rfl rfl) rfl rfl (by exact Rd.ix T rfl rfl rfl rfl rfl rfl hx15) ?_
 refine U.pg 4 9 false 31 hb16 T rfl rfl rfl rfl ?_
 refine U.r rfl (.none rfl) rfl rfl (by exact Rd.pk' rfl rfl hb16 rfl) ?_
 refine U.ps 1 T rfl ?_
 refine hm.cs (fun hb17 hm => ?_) (fun hb17 hm => ?_)
 refine U.sks 8 19 false 41 hb17 rfl rfl rfl ?_
 refine U.r rfl (.none rfl) rfl rfl (by exact Rd.pk rfl rfl hb17 rfl) ?_
 refine U.done ?_
 exact St.wk (hJ14 _ hm) (Wk.f [some 0] ⟨bX, trivial⟩)
 refine U.pg 3 19 false 41 hb17 T rfl rfl rfl rfl ?_
 refine U.r rfl (.take 19 false 41 _ hb17 rfl rfl rfl) rfl rfl (by exact Rd.ix T rfl rfl rfl rfl rfl rfl hx15) ?_
 refine U.pg 4 19 false 41 hb17 T rfl rfl rfl rfl ?_
 refine U.r rfl (.none rfl) rfl rfl (by exact Rd.pk' rfl rfl hb17 rfl) ?_
 refine U.done ?_
 exact St.wk (hJ14 _ hm) (Wk.f [some 0] ⟨bX, trivial⟩)
 refine C.exit (C.ex (C.ex (C.bex ?_)))
 exact St.wk (hJ6 _ hm) (Wk.f [some 0] ⟨bX, trivial⟩)
 refine U.start ?_
 refine U.ps 6 T rfl ?_
 refine hm.cs (fun hb11 hm => ?_) (fun hb11 hm => ?_)
 refine U.pg 3 5 true 15 hb11 T rfl rfl rfl rfl ?_
 refine U.r rfl (.none rfl) rfl rfl (by exact Rd.pk rfl rfl hb11 rfl) ?_
 refine U.done ?_
 exact St.wk (hJ10 _ hm) (Wk.f [some 0] ⟨bX, trivial⟩)
 refine U.sks 3 5 true 15 hb11 rfl rfl rfl ?_
 refine U.r rfl (.none rfl) rfl rfl (by exact Rd.pk' rfl rfl hb11 rfl) ?_
 refine U.done ?_
 exact St.wk (hJ10 _ hm) (Wk.f [some 0] ⟨bX, trivial⟩)
end Go.Proofs.YtenbhocpjlmimaaGreat
