/- The walks: each Go function does what its verification condition says (written by a program of the prover). -/
import Derived.Test.YtpcdibgbijddlaaEnc
import Derived.KernelRfl
set_option maxRecDepth 100000
set_option maxHeartbeats 8000000
set_option linter.unusedVariables false
set_option linter.unusedSimpArgs false
namespace Go.Proofs.Ytpcdibgbijddlaa
open Go Go.Taq
theorem T_taquinlaw12_sample (post : (ApiSite × ApiState) → Prop) (hm : V_taquinlaw12_sample post) :
    Tr Try.prog 41 [] [] 0 (fun A H' k => ∃ y, post y ∧ A = (.tup [.agg [.i y.1.Floor.W, .i y.1.Floor.H, .i y.1.Floor.D, .o 0, .o 1, .o 2, .o 3, .o 4, .o 5], .agg [.i y.2.Tick, .o 6, .o 7, .o 8, .o 9, .o 10]]) ∧ H' = [(0, .val (.os 1 eI y.1.Floor.Kind)), (1, .val (.os 1 eI y.1.Floor.Out)), (2, .val (.os 5 eApiZone y.1.Zones)), (3, .val (.os 2 eApiApart y.1.Aparts)), (4, .val (.os 2 eApiShelf y.1.Shelves)), (5, .val (.os 2 eApiStart y.1.Robots)), (6, .val (.os 1 eI y.2.Shelves)), (7, .val (.os 6 eApiRobot y.2.Robots)), (8, .val (.os 1 eI y.2.People)), (9, .val (.os 1 eI y.2.Dead)), (10, .val (.os 2 eApiStuck y.2.Stuck))] ∧ k = 11) := by
 refine Tr.intro (n := 24) Try.func41 rfl Try.ntmps41 rfl (fun w0 ok F β hβ => ?_)
 unfold V_taquinlaw12_sample at hm
 refine C.seq (U.start ?_)
 refine U.e1 rfl (.none rfl) (by exact Eff1.al T rfl rfl rfl rfl) ?_
 refine U.e1 rfl (.none rfl) (by exact Eff1.al T rfl rfl rfl rfl) ?_
 refine U.done (C.nx (C.seq (U.start ?_)))
 refine U.e1 rfl (.none rfl) (by exact Eff1.bs T (enc := eI) (xs := ([1, 1, 1, 3] : List Int)) rfl rfl rfl rfl rfl rfl rfl rfl rfl rfl (fun _ _ => rfl) rfl rfl) ?_
 refine U.e1 rfl (.none rfl) (by exact Eff1.bs T (enc := eI) (xs := ([1, 5, 5, 4] : List Int)) rfl rfl rfl rfl rfl rfl rfl rfl rfl rfl (fun _ _ => rfl) rfl rfl) ?_
 refine U.ps 1 T rfl ?_
 refine U.e1 rfl (.none rfl) (by exact Eff1.al T rfl rfl rfl rfl) ?_
 refine U.e1 rfl (.none rfl) (by exact Eff1.st T rfl rfl rfl rfl rfl rfl rfl rfl rfl rfl) ?_
 refine U.done (C.nx (C.seq (U.start ?_)))
 refine U.e1 rfl (.none rfl) (by exact Eff1.bs T (enc := eI) (xs := ([0, 1] : List Int)) rfl rfl rfl rfl rfl rfl rfl rfl rfl rfl (fun _ _ => rfl) rfl rfl) ?_
 refine U.ps 1 T rfl ?_
 refine U.e1 rfl (.none rfl) (by exact Eff1.bs T (enc := eApiSpan) (xs := ([({ From := 5, To := 8 : ApiSpan })] : List ApiSpan)) rfl rfl rfl rfl rfl rfl rfl rfl rfl rfl (fun _ _ => rfl) rfl rfl) ?_
 refine U.ps 1 T rfl ?_
 refine St.wk (Γ' := [(0, .p 0 0), (1, .p 1 0), (2, .p 2 0), (5, .o 3), (6, .o 4), (7, .agg [.i 4, .i 1, .i 1, .o 3, .o 4]), (8, .sl 1 eI ([0, 1] : List Int)), (9, .agg [.i 5, .i 8]), (10, .sl 2 eApiSpan ([({ From := 5, To := 8 : ApiSpan })] : List ApiSpan)), (11, .agg [.v (.string (ByteArray.mk #[122])), .sl 1 eI ([0, 1] : List Int), .i 2, .i 1, .sl 2 eApiSpan ([({ From := 5, To := 8 : ApiSpan })] : List ApiSpan)])]) (H' := [(0, .box [.i 0, .i 0, .i 0, .v (.slice none 0 0), .v (.slice none 0 0), .v (.slice none 0 0), .v (.slice none 0 0), .v (.slice none 0 0), .v (.slice none 0 0)]), (1, .box [.i 0, .v (.slice none 0 0), .v (.slice none 0 0), .v (.slice none 0 0), .v (.slice none 0 0), .v (.slice none 0 0)]), (2, .box [.i 4, .i 1, .i 1, .o 3, .o 4]), (3, .val (.os 1 eI ([1, 1, 1, 3] : List Int))), (4, .val (.os 1 eI ([1, 5, 5, 4] : List Int)))]) (nl' := 5) ?_ (Wk.mk' [some 0, some 1, some 4, some 2, some 3] rfl rfl ⟨⟨_, rfl, (.eq rfl)⟩, ⟨_, rfl, (.eq rfl)⟩, ⟨_, rfl, (.eq rfl)⟩, ⟨_, rfl, (.eq rfl)⟩, ⟨_, rfl, (.eq rfl)⟩, ⟨_, rfl, (.eq rfl)⟩, ⟨_, rfl, (.fz rfl rfl rfl (.os fun _ => .cons (.ro rfl) .nil))⟩, ⟨_, rfl, (.eq rfl)⟩, ⟨_, rfl, (.fz rfl rfl rfl (.os fun _ => .cons (.ro rfl) (.cons (.ro rfl) .nil)))⟩, ⟨_, rfl, (.agg (.cons (.eq rfl) (.cons (.fz rfl rfl rfl (.os fun _ => .cons (.ro rfl) .nil)) (.cons (.eq rfl) (.cons (.eq rfl) (.cons (.fz rfl rfl rfl (.os fun _ => .cons (.ro rfl) (.cons (.ro rfl) .nil))) .nil))))))⟩, trivial⟩ ⟨bX, bX, bX, vL, vL, trivial⟩ rfl)
 refine U.e1 rfl (.none rfl) (by exact Eff1.bs T (enc := eApiZone) (xs := ([({ Name := (ByteArray.mk #[122]), Cells := ([0, 1] : List Int), Speed := 2, Keep := 1, Shut := ([({ From := 5, To := 8 : ApiSpan })] : List ApiSpan) : ApiZone })] : List ApiZone)) rfl rfl rfl rfl rfl rfl rfl rfl rfl rfl (fun _ _ => rfl) rfl rfl) ?_
 refine U.ps 1 T rfl ?_
 refine U.done (C.nx (C.seq (U.start ?_)))
 refine U.ps 3 T rfl ?_
 refine U.e1 rfl (.none rfl) (by exact Eff1.bs T (enc := eApiApart) (xs := ([({ A := (ByteArray.mk #[65]), B := (ByteArray.mk #[66]) : ApiApart })] : List ApiApart)) rfl rfl rfl rfl rfl rfl rfl rfl rfl rfl (fun _ _ => rfl) rfl rfl) ?_
 refine U.ps 2 T rfl ?_
 refine U.e1 rfl (.none rfl) (by exact Eff1.bs T (enc := eApiShelf) (xs := ([({ Cell := 0, Class := (ByteArray.mk #[65]) : ApiShelf }), ({ Cell := 2, Class := (ByteArray.mk #[66]) : ApiShelf })] : List ApiShelf)) rfl rfl rfl rfl rfl rfl rfl rfl rfl rfl (fun _ _ => rfl) rfl rfl) ?_
 refine U.ps 1 T rfl ?_
 refine U.e1 rfl (.none rfl) (by exact Eff1.al T rfl rfl rfl rfl) ?_
 refine U.e1 rfl (.none rfl) (by exact Eff1.st T rfl rfl rfl rfl rfl rfl rfl rfl rfl rfl) ?_
 refine U.done (C.nx (C.seq (U.start ?_)))
 refine U.ps 1 T rfl ?_
 refine U.e1 rfl (.none rfl) (by exact Eff1.bs T (enc := eI) (xs := ([0, 2] : List Int)) rfl rfl rfl rfl rfl rfl rfl rfl rfl rfl (fun _ _ => rfl) rfl rfl) ?_
 refine U.ps 1 T rfl ?_
 refine U.e1 rfl (.none rfl) (by exact Eff1.st T rfl rfl rfl rfl rfl rfl rfl rfl rfl rfl) ?_
 refine U.e1 rfl (.none rfl) (by exact Eff1.st T rfl rfl rfl rfl rfl rfl rfl rfl rfl rfl) ?_
 refine U.done (C.nx (C.ret ?_))
 exact C.fin T (rs' := [.agg [.i (((({ Floor := ({ W := 4, H := 1, D := 1, Kind := ([1, 1, 1, 3] : List Int), Out := ([1, 5, 5, 4] : List Int) : ApiFloor }), Zones := ([({ Name := (ByteArray.mk #[122]), Cells := ([0, 1] : List Int), Speed := 2, Keep := 1, Shut := ([({ From := 5, To := 8 : ApiSpan })] : List ApiSpan) : ApiZone })] : List ApiZone), Aparts := ([({ A := (ByteArray.mk #[65]), B := (ByteArray.mk #[66]) : ApiApart })] : List ApiApart), Shelves := ([({ Cell := 0, Class := (ByteArray.mk #[65]) : ApiShelf }), ({ Cell := 2, Class := (ByteArray.mk #[66]) : ApiShelf })] : List ApiShelf), Robots := [] : ApiSite }), ({ Tick := 0, Shelves := ([0, 2] : List Int), Robots := [], People := [], Dead := [], Stuck := [] : ApiState })).1).Floor.W), .i (((({ Floor := ({ W := 4, H := 1, D := 1, Kind := ([1, 1, 1, 3] : List Int), Out := ([1, 5, 5, 4] : List Int) : ApiFloor }), Zones := ([({ Name := (ByteArray.mk #[122]), Cells := ([0, 1] : List Int), Speed := 2, Keep := 1, Shut := ([({ From := 5, To := 8 : ApiSpan })] : List ApiSpan) : ApiZone })] : List ApiZone), Aparts := ([({ A := (ByteArray.mk #[65]), B := (ByteArray.mk #[66]) : ApiApart })] : List ApiApart), Shelves := ([({ Cell := 0, Class := (ByteArray.mk #[65]) : ApiShelf }), ({ Cell := 2, Class := (ByteArray.mk #[66]) : ApiShelf })] : List ApiShelf), Robots := [] : ApiSite }), ({ Tick := 0, Shelves := ([0, 2] : List Int), Robots := [], People := [], Dead := [], Stuck := [] : ApiState })).1).Floor.H), .i (((({ Floor := ({ W := 4, H := 1, D := 1, Kind := ([1, 1, 1, 3] : List Int), Out := ([1, 5, 5, 4] : List Int) : ApiFloor }), Zones := ([({ Name := (ByteArray.mk #[122]), Cells := ([0, 1] : List Int), Speed := 2, Keep := 1, Shut := ([({ From := 5, To := 8 : ApiSpan })] : List ApiSpan) : ApiZone })] : List ApiZone), Aparts := ([({ A := (ByteArray.mk #[65]), B := (ByteArray.mk #[66]) : ApiApart })] : List ApiApart), Shelves := ([({ Cell := 0, Class := (ByteArray.mk #[65]) : ApiShelf }), ({ Cell := 2, Class := (ByteArray.mk #[66]) : ApiShelf })] : List ApiShelf), Robots := [] : ApiSite }), ({ Tick := 0, Shelves := ([0, 2] : List Int), Robots := [], People := [], Dead := [], Stuck := [] : ApiState })).1).Floor.D), .o 0, .o 1, .o 2, .o 3, .o 4, .o 5], .agg [.i (((({ Floor := ({ W := 4, H := 1, D := 1, Kind := ([1, 1, 1, 3] : List Int), Out := ([1, 5, 5, 4] : List Int) : ApiFloor }), Zones := ([({ Name := (ByteArray.mk #[122]), Cells := ([0, 1] : List Int), Speed := 2, Keep := 1, Shut := ([({ From := 5, To := 8 : ApiSpan })] : List ApiSpan) : ApiZone })] : List ApiZone), Aparts := ([({ A := (ByteArray.mk #[65]), B := (ByteArray.mk #[66]) : ApiApart })] : List ApiApart), Shelves := ([({ Cell := 0, Class := (ByteArray.mk #[65]) : ApiShelf }), ({ Cell := 2, Class := (ByteArray.mk #[66]) : ApiShelf })] : List ApiShelf), Robots := [] : ApiSite }), ({ Tick := 0, Shelves := ([0, 2] : List Int), Robots := [], People := [], Dead := [], Stuck := [] : ApiState })).2).Tick), .o 6, .o 7, .o 8, .o 9, .o 10]]) (H' := [(0, .val (.os 1 eI (((({ Floor := ({ W := 4, H := 1, D := 1, Kind := ([1, 1, 1, 3] : List Int), Out := ([1, 5, 5, 4] : List Int) : ApiFloor }), Zones := ([({ Name := (ByteArray.mk #[122]), Cells := ([0, 1] : List Int), Speed := 2, Keep := 1, Shut := ([({ From := 5, To := 8 : ApiSpan })] : List ApiSpan) : ApiZone })] : List ApiZone), Aparts := ([({ A := (ByteArray.mk #[65]), B := (ByteArray.mk #[66]) : ApiApart })] : List ApiApart), Shelves := ([({ Cell := 0, Class := (ByteArray.mk #[65]) : ApiShelf }), ({ Cell := 2, Class := (ByteArray.mk #[66]) : ApiShelf })] : List ApiShelf), Robots := [] : ApiSite }), ({ Tick := 0, Shelves := ([0, 2] : List Int), Robots := [], People := [], Dead := [], Stuck := [] : ApiState })).1).Floor.Kind))), (1, .val (.os 1 eI (((({ Floor := ({ W := 4, H := 1, D := 1, Kind := ([1, 1, 1, 3] : List Int), Out := ([1, 5, 5, 4] : List Int) : ApiFloor }), Zones := ([({ Name := (ByteArray.mk #[122]), Cells := ([0, 1] : List Int), Speed := 2, Keep := 1, Shut := ([({ From := 5, To := 8 : ApiSpan })] : List ApiSpan) : ApiZone })] : List ApiZone), Aparts := ([({ A := (ByteArray.mk #[65]), B := (ByteArray.mk #[66]) : ApiApart })] : List ApiApart), Shelves := ([({ Cell := 0, Class := (ByteArray.mk #[65]) : ApiShelf }), ({ Cell := 2, Class := (ByteArray.mk #[66]) : ApiShelf })] : List ApiShelf), Robots := [] : ApiSite }), ({ Tick := 0, Shelves := ([0, 2] : List Int), Robots := [], People := [], Dead := [], Stuck := [] : ApiState })).1).Floor.Out))), (2, .val (.os 5 eApiZone (((({ Floor := ({ W := 4, H := 1, D := 1, Kind := ([1, 1, 1, 3] : List Int), Out := ([1, 5, 5, 4] : List Int) : ApiFloor }), Zones := ([({ Name := (ByteArray.mk #[122]), Cells := ([0, 1] : List Int), Speed := 2, Keep := 1, Shut := ([({ From := 5, To := 8 : ApiSpan })] : List ApiSpan) : ApiZone })] : List ApiZone), Aparts := ([({ A := (ByteArray.mk #[65]), B := (ByteArray.mk #[66]) : ApiApart })] : List ApiApart), Shelves := ([({ Cell := 0, Class := (ByteArray.mk #[65]) : ApiShelf }), ({ Cell := 2, Class := (ByteArray.mk #[66]) : ApiShelf })] : List ApiShelf), Robots := [] : ApiSite }), ({ Tick := 0, Shelves := ([0, 2] : List Int), Robots := [], People := [], Dead := [], Stuck := [] : ApiState })).1).Zones))), (3, .val (.os 2 eApiApart (((({ Floor := ({ W := 4, H := 1, D := 1, Kind := ([1, 1, 1, 3] : List Int), Out := ([1, 5, 5, 4] : List Int) : ApiFloor }), Zones := ([({ Name := (ByteArray.mk #[122]), Cells := ([0, 1] : List Int), Speed := 2, Keep := 1, Shut := ([({ From := 5, To := 8 : ApiSpan })] : List ApiSpan) : ApiZone })] : List ApiZone), Aparts := ([({ A := (ByteArray.mk #[65]), B := (ByteArray.mk #[66]) : ApiApart })] : List ApiApart), Shelves := ([({ Cell := 0, Class := (ByteArray.mk #[65]) : ApiShelf }), ({ Cell := 2, Class := (ByteArray.mk #[66]) : ApiShelf })] : List ApiShelf), Robots := [] : ApiSite }), ({ Tick := 0, Shelves := ([0, 2] : List Int), Robots := [], People := [], Dead := [], Stuck := [] : ApiState })).1).Aparts))), (4, .val (.os 2 eApiShelf (((({ Floor := ({ W := 4, H := 1, D := 1, Kind := ([1, 1, 1, 3] : List Int), Out := ([1, 5, 5, 4] : List Int) : ApiFloor }), Zones := ([({ Name := (ByteArray.mk #[122]), Cells := ([0, 1] : List Int), Speed := 2, Keep := 1, Shut := ([({ From := 5, To := 8 : ApiSpan })] : List ApiSpan) : ApiZone })] : List ApiZone), Aparts := ([({ A := (ByteArray.mk #[65]), B := (ByteArray.mk #[66]) : ApiApart })] : List ApiApart), Shelves := ([({ Cell := 0, Class := (ByteArray.mk #[65]) : ApiShelf }), ({ Cell := 2, Class := (ByteArray.mk #[66]) : ApiShelf })] : List ApiShelf), Robots := [] : ApiSite }), ({ Tick := 0, Shelves := ([0, 2] : List Int), Robots := [], People := [], Dead := [], Stuck := [] : ApiState })).1).Shelves))), (5, .val (.os 2 eApiStart (((({ Floor := ({ W := 4, H := 1, D := 1, Kind := ([1, 1, 1, 3] : List Int), Out := ([1, 5, 5, 4] : List Int) : ApiFloor }), Zones := ([({ Name := (ByteArray.mk #[122]), Cells := ([0, 1] : List Int), Speed := 2, Keep := 1, Shut := ([({ From := 5, To := 8 : ApiSpan })] : List ApiSpan) : ApiZone })] : List ApiZone), Aparts := ([({ A := (ByteArray.mk #[65]), B := (ByteArray.mk #[66]) : ApiApart })] : List ApiApart), Shelves := ([({ Cell := 0, Class := (ByteArray.mk #[65]) : ApiShelf }), ({ Cell := 2, Class := (ByteArray.mk #[66]) : ApiShelf })] : List ApiShelf), Robots := [] : ApiSite }), ({ Tick := 0, Shelves := ([0, 2] : List Int), Robots := [], People := [], Dead := [], Stuck := [] : ApiState })).1).Robots))), (6, .val (.os 1 eI (((({ Floor := ({ W := 4, H := 1, D := 1, Kind := ([1, 1, 1, 3] : List Int), Out := ([1, 5, 5, 4] : List Int) : ApiFloor }), Zones := ([({ Name := (ByteArray.mk #[122]), Cells := ([0, 1] : List Int), Speed := 2, Keep := 1, Shut := ([({ From := 5, To := 8 : ApiSpan })] : List ApiSpan) : ApiZone })] : List ApiZone), Aparts := ([({ A := (ByteArray.mk #[65]), B := (ByteArray.mk #[66]) : ApiApart })] : List ApiApart), Shelves := ([({ Cell := 0, Class := (ByteArray.mk #[65]) : ApiShelf }), ({ Cell := 2, Class := (ByteArray.mk #[66]) : ApiShelf })] : List ApiShelf), Robots := [] : ApiSite }), ({ Tick := 0, Shelves := ([0, 2] : List Int), Robots := [], People := [], Dead := [], Stuck := [] : ApiState })).2).Shelves))), (7, .val (.os 6 eApiRobot (((({ Floor := ({ W := 4, H := 1, D := 1, Kind := ([1, 1, 1, 3] : List Int), Out := ([1, 5, 5, 4] : List Int) : ApiFloor }), Zones := ([({ Name := (ByteArray.mk #[122]), Cells := ([0, 1] : List Int), Speed := 2, Keep := 1, Shut := ([({ From := 5, To := 8 : ApiSpan })] : List ApiSpan) : ApiZone })] : List ApiZone), Aparts := ([({ A := (ByteArray.mk #[65]), B := (ByteArray.mk #[66]) : ApiApart })] : List ApiApart), Shelves := ([({ Cell := 0, Class := (ByteArray.mk #[65]) : ApiShelf }), ({ Cell := 2, Class := (ByteArray.mk #[66]) : ApiShelf })] : List ApiShelf), Robots := [] : ApiSite }), ({ Tick := 0, Shelves := ([0, 2] : List Int), Robots := [], People := [], Dead := [], Stuck := [] : ApiState })).2).Robots))), (8, .val (.os 1 eI (((({ Floor := ({ W := 4, H := 1, D := 1, Kind := ([1, 1, 1, 3] : List Int), Out := ([1, 5, 5, 4] : List Int) : ApiFloor }), Zones := ([({ Name := (ByteArray.mk #[122]), Cells := ([0, 1] : List Int), Speed := 2, Keep := 1, Shut := ([({ From := 5, To := 8 : ApiSpan })] : List ApiSpan) : ApiZone })] : List ApiZone), Aparts := ([({ A := (ByteArray.mk #[65]), B := (ByteArray.mk #[66]) : ApiApart })] : List ApiApart), Shelves := ([({ Cell := 0, Class := (ByteArray.mk #[65]) : ApiShelf }), ({ Cell := 2, Class := (ByteArray.mk #[66]) : ApiShelf })] : List ApiShelf), Robots := [] : ApiSite }), ({ Tick := 0, Shelves := ([0, 2] : List Int), Robots := [], People := [], Dead := [], Stuck := [] : ApiState })).2).People))), (9, .val (.os 1 eI (((({ Floor := ({ W := 4, H := 1, D := 1, Kind := ([1, 1, 1, 3] : List Int), Out := ([1, 5, 5, 4] : List Int) : ApiFloor }), Zones := ([({ Name := (ByteArray.mk #[122]), Cells := ([0, 1] : List Int), Speed := 2, Keep := 1, Shut := ([({ From := 5, To := 8 : ApiSpan })] : List ApiSpan) : ApiZone })] : List ApiZone), Aparts := ([({ A := (ByteArray.mk #[65]), B := (ByteArray.mk #[66]) : ApiApart })] : List ApiApart), Shelves := ([({ Cell := 0, Class := (ByteArray.mk #[65]) : ApiShelf }), ({ Cell := 2, Class := (ByteArray.mk #[66]) : ApiShelf })] : List ApiShelf), Robots := [] : ApiSite }), ({ Tick := 0, Shelves := ([0, 2] : List Int), Robots := [], People := [], Dead := [], Stuck := [] : ApiState })).2).Dead))), (10, .val (.os 2 eApiStuck (((({ Floor := ({ W := 4, H := 1, D := 1, Kind := ([1, 1, 1, 3] : List Int), Out := ([1, 5, 5, 4] : List Int) : ApiFloor }), Zones := ([({ Name := (ByteArray.mk #[122]), Cells := ([0, 1] : List Int), Speed := 2, Keep := 1, Shut := ([({ From := 5, To := 8 : ApiSpan })] : List ApiSpan) : ApiZone })] : List ApiZone), Aparts := ([({ A := (ByteArray.mk #[65]), B := (ByteArray.mk #[66]) : ApiApart })] : List ApiApart), Shelves := ([({ Cell := 0, Class := (ByteArray.mk #[65]) : ApiShelf }), ({ Cell := 2, Class := (ByteArray.mk #[66]) : ApiShelf })] : List ApiShelf), Robots := [] : ApiSite }), ({ Tick := 0, Shelves := ([0, 2] : List Int), Robots := [], People := [], Dead := [], Stuck := [] : ApiState })).2).Stuck)))]) (nl' := 11) [some 3, some 4, some 5, some 6, some 7, none, some 9, none, none, none, none] rfl rfl (.cons (.agg (.cons (.eq rfl) (.cons (.eq rfl) (.cons (.eq rfl) (.cons (.eq rfl) (.cons (.eq rfl) (.cons (.eq rfl) (.cons (.eq rfl) (.cons (.eq rfl) (.cons (.nilO _ _ ⟨rfl, rfl⟩ rfl) .nil)))))))))) (.cons (.agg (.cons (.eq rfl) (.cons (.eq rfl) (.cons (.nilO _ _ ⟨rfl, rfl⟩ rfl) (.cons (.nilO _ _ ⟨rfl, rfl⟩ rfl) (.cons (.nilO _ _ ⟨rfl, rfl⟩ rfl) (.cons (.nilO _ _ ⟨rfl, rfl⟩ rfl) .nil))))))) .nil)) ⟨vL, vL, vL, vL, vL, ⟨_, rfl, .nil _ _⟩, vL, ⟨_, rfl, .nil _ _⟩, ⟨_, rfl, .nil _ _⟩, ⟨_, rfl, .nil _ _⟩, ⟨_, rfl, .nil _ _⟩, trivial⟩ rfl rfl rfl rfl hβ ⟨(({ Floor := ({ W := 4, H := 1, D := 1, Kind := ([1, 1, 1, 3] : List Int), Out := ([1, 5, 5, 4] : List Int) : ApiFloor }), Zones := ([({ Name := (ByteArray.mk #[122]), Cells := ([0, 1] : List Int), Speed := 2, Keep := 1, Shut := ([({ From := 5, To := 8 : ApiSpan })] : List ApiSpan) : ApiZone })] : List ApiZone), Aparts := ([({ A := (ByteArray.mk #[65]), B := (ByteArray.mk #[66]) : ApiApart })] : List ApiApart), Shelves := ([({ Cell := 0, Class := (ByteArray.mk #[65]) : ApiShelf }), ({ Cell := 2, Class := (ByteArray.mk #[66]) : ApiShelf })] : List ApiShelf), Robots := [] : ApiSite }), ({ Tick := 0, Shelves := ([0, 2] : List Int), Robots := [], People := [], Dead := [], Stuck := [] : ApiState })), hm, rfl, rfl, rfl⟩
theorem T_rules_classes (s_1 : ApiSite) (post : (List (ApiApart × Bool)) → Prop) (hm : V_rules_classes s_1 post) :
    Tr Try.prog 44 [.agg (eApiSite s_1)] [] 0 (fun A H' k => ∃ y, post y ∧ A = (.o 0) ∧ H' = [(0, .val (.om kApiApart veB y))] ∧ k = 1) := by
 refine Tr.intro (n := 24) Try.func44 rfl Try.ntmps44 rfl (fun w0 ok F β hβ => ?_)
 unfold V_rules_classes at hm
 refine C.seq (U.start ?_)
 refine U.e1 rfl (.none rfl) (by exact Eff1.box rfl rfl rfl rfl rfl) ?_
 refine U.ps 1 T rfl ?_
 refine U.done (C.nx (C.seq (U.start ?_)))
 refine U.e1 rfl (.none rfl) (by exact Eff1.mm kApiApart veB rfl rfl rfl) ?_
 refine U.ps 1 T rfl ?_
 refine U.done (C.nx (C.seq (C.seq (U.start ?_))))
 refine U.ps 4 T rfl ?_
 refine U.done (C.nx ?_)
 refine C.jn (fun (x7 : List (ApiApart × Bool)) => [(3, .o 0)]) (fun (x7 : List (ApiApart × Bool)) => [(0, .val (.om kApiApart veB x7))]) 1 hm (fun x7 hm => ?_) (fun J8 hm hJ8 => ?_)
 refine C.nx (C.seq (U.start ?_))
 refine U.ps 2 T rfl ?_
 refine U.done (C.nx (C.ret ?_))
 exact C.fin T (rs' := [.o 0]) (H' := [(0, .val (.om kApiApart veB x7))]) (nl' := 1) [some 0] rfl rfl (.eq rfl) ⟨vL, trivial⟩ rfl rfl rfl rfl hβ ⟨x7, hm, rfl, rfl, rfl⟩
 refine C.block ?_
 refine St.wk (C.loop (fun (s9 : List (ApiApart × Bool) × Int) => [(3, .o 0), (8, .sl 2 eApiApart s_1.Aparts), (9, .i (s_1.Aparts.length : Int)), (10, .i s9.2)]) (fun (s9 : List (ApiApart × Bool) × Int) => [(0, .val (.om kApiApart veB s9.1))]) hm (fun s9 Y10 hm => ?_)) (Wk.f [some 1] ⟨vL, trivial⟩)
 refine C.seq (U.start ?_)
 refine U.ps 1 T rfl ?_
 refine U.done (C.nx (C.seq ?_))
 refine C.ite rfl hm (fun hb13 hm => ?_) (fun hb13 hm => ?_)
 refine C.skip (C.nx (C.seq (C.block (C.seq (U.start ?_)))))
 obtain ⟨x16, hx16, hm⟩ := hm
 refine U.r rfl (.none rfl) rfl rfl (by exact Rd.ix T rfl rfl rfl rfl rfl rfl hx16) ?_
 refine U.ps 1 T rfl ?_
 refine U.e1 rfl (.none rfl) (by exact Eff1.al T rfl rfl rfl rfl) ?_
 refine U.e1 rfl (.none rfl) (by exact Eff1.st T rfl rfl rfl rfl rfl rfl rfl rfl rfl rfl) ?_
 refine U.done (C.nx ?_)
 refine D.beg 9 [1] [0] mix rfl rfl (by kernel_rfl) (by repeat (first | exact NoPanicQ.body | exact NoPanicQ.rnd | refine NoPanicQ.th ?_ | refine NoPanicQ.blk ?_)) (fun hQ hS ws M' => ?_)
 refine D.ps 8 [(0, []), (1, []), (2, []), (3, []), (4, []), (5, []), (6, []), (7, [])] rfl hQ hS T rfl rfl (by kernel_rfl) ?_
 refine D.e1 8 rfl (.none rfl) (by exact Eff1.mu T (x := x16) (y := true) (.inl rfl) rfl kt73 (fun _ => rfl) rfl rfl rfl rfl rfl (.inl rfl) rfl) (by kernel_rfl) rfl rfl ?_
 refine D.ze1 rfl (.none rfl) (by exact Eff1.mu T (x := ({ A := x16.B, B := x16.A : ApiApart })) (y := true) (.inl rfl) rfl kt73 (fun _ => rfl) rfl rfl rfl rfl rfl (.inl rfl) rfl) (by kernel_rfl) (by kernel_rfl) ?_
 refine C.bnx (C.nx (U.start ?_))
 refine U.ps 2 T rfl ?_
 refine U.done (C.nx ?_)
 exact St.wk (C.next hm) (Wk.f [some 0] ⟨vL, trivial⟩)
 refine C.exit (C.ex (C.ex (C.bex ?_)))
 exact St.wk (hJ8 _ hm) (Wk.f [some 0] ⟨vL, trivial⟩)
theorem T_rules_Class (s_1 : ApiSite) (shelf : Int) (post : ByteArray → Prop) (hm : V_rules_Class s_1 shelf post) :
    Tr Try.prog 12 [.agg (eApiSite s_1), .i shelf] [] 0 (fun A H' k => ∃ y, post y ∧ A = (.v (.string y)) ∧ H' = [] ∧ k = 0) := by
 refine Tr.intro (n := 20) Try.func12 rfl Try.ntmps12 rfl (fun w0 ok F β hβ => ?_)
 unfold V_rules_Class at hm
 refine C.seq (U.start ?_)
 refine U.e1 rfl (.none rfl) (by exact Eff1.box rfl rfl rfl rfl rfl) ?_
 refine U.ps 1 T rfl ?_
 refine U.done (C.nx (C.seq (C.seq ?_)))
 refine C.jn (fun (x3 : Bool) => [(1, .i shelf), (2, .p 0 0), (13, .b x3)]) (fun (x3 : Bool) => [(0, .box (eApiSite s_1))]) 1 hm (fun x3 hm => ?_) (fun J4 hm hJ4 => ?_)
 refine C.nx ?_
 refine C.ite rfl hm (fun hb6 hm => ?_) (fun hb6 hm => ?_)
 refine C.seq (U.start ?_)
 refine U.ps 1 T rfl ?_
 refine U.done (C.nx (C.ret (C.rt ?_)))
 exact C.f0 T (rs' := [.v (.string ByteArray.empty)]) hβ ⟨ByteArray.empty, hm, rfl, rfl, rfl⟩
 refine C.skip (C.nx (C.seq (U.start ?_)))
 refine U.ps 3 T rfl ?_
 obtain ⟨x11, hx11, hm⟩ := hm
 refine U.r rfl (.none rfl) rfl rfl (by exact Rd.ix T rfl rfl rfl rfl rfl rfl hx11) ?_
 refine U.ps 3 T rfl ?_
 refine U.done (C.nx (C.ret ?_))
 exact C.f0 T (rs' := [.v (.string x11.Class)]) hβ ⟨x11.Class, hm, rfl, rfl, rfl⟩
 refine U.start ?_
 refine U.ps 3 T rfl ?_
 refine hm.cs (fun hb5 hm => ?_) (fun hb5 hm => ?_)
 refine U.sks 5 2 false 7 hb5 rfl rfl rfl ?_
 refine U.r rfl (.none rfl) rfl rfl (by exact Rd.pk rfl rfl hb5 rfl) ?_
 refine U.done ?_
 exact St.wk (hJ4 _ hm) (Wk.f [some 0] ⟨bX, trivial⟩)
 refine U.pg 5 2 false 7 hb5 T rfl rfl rfl rfl ?_
 refine U.r rfl (.none rfl) rfl rfl (by exact Rd.pk' rfl rfl hb5 rfl) ?_
 refine U.done ?_
 exact St.wk (hJ4 _ hm) (Wk.f [some 0] ⟨bX, trivial⟩)
theorem T_rules_Carried_1 (r : ApiRobot) (c0 : Int) (post : Bool → Prop) (hm : V_rules_Carried_1 r c0 post) :
    Tr Try.prog 48 [.agg (eApiRobot r), .rp [.i c0]] [] 0 (fun A H' k => ∃ y, post y ∧ A = (.b y) ∧ H' = [] ∧ k = 0) := by
 refine Tr.intro (n := 8) Try.func48 rfl Try.ntmps48 rfl (fun w0 ok F β hβ => ?_)
 unfold V_rules_Carried_1 at hm
 refine C.seq (U.start ?_)
 refine U.e1 rfl (.none rfl) (by exact Eff1.box rfl rfl rfl rfl rfl) ?_
 refine U.ps 1 T rfl ?_
 refine U.done (C.nx (C.seq (U.start ?_)))
 refine U.ps 5 T rfl ?_
 refine U.done (C.nx (C.ret ?_))
 exact C.f0 T (rs' := [.b (r.Load == c0)]) hβ ⟨(r.Load == c0), hm, rfl, rfl, rfl⟩
theorem T_slices_IndexFunc_api_Robot_api_Robot__rules_Carried_1 (s_1 : List ApiRobot) (f_c0 : Int) (post : Int → Prop) (hm : V_slices_IndexFunc_api_Robot_api_Robot__rules_Carried_1 s_1 f_c0 post) :
    Tr Try.prog 47 [.sl 6 eApiRobot s_1, .fn (.func 48) [] [.rp [.i f_c0]]] [] 0 (fun A H' k => ∃ y, post y ∧ A = (.i y) ∧ H' = [] ∧ k = 0) := by
 refine Tr.intro (n := 19) Try.func47 rfl Try.ntmps47 rfl (fun w0 ok F β hβ => ?_)
 unfold V_slices_IndexFunc_api_Robot_api_Robot__rules_Carried_1 at hm
 refine C.seq (U.start ?_)
 refine U.ps 1 T rfl ?_
 refine U.done (C.nx (C.seq (C.seq (U.start ?_))))
 refine U.ps 3 T rfl ?_
 refine U.done (C.nx ?_)
 refine C.jn (fun (x5 : Unit) => []) (fun (x5 : Unit) => []) 0 hm (fun x5 hm => ?_) (fun J6 hm hJ6 => ?_)
 refine C.nx (C.seq (U.start ?_))
 refine U.ps 1 T rfl ?_
 refine U.done (C.nx (C.ret ?_))
 exact C.f0 T (rs' := [.i (-1)]) hβ ⟨(-1), hm, rfl, rfl, rfl⟩
 refine C.block ?_
 refine St.wk (C.loop (fun (s7 : Int) => [(0, .sl 6 eApiRobot s_1), (1, .fn (.func 48) [] [.rp [.i f_c0]]), (7, .i (s_1.length : Int)), (8, .i s7)]) (fun (s7 : Int) => []) hm (fun s7 Y8 hm => ?_)) (Wk.e)
 refine C.seq (U.start ?_)
 refine U.ps 1 T rfl ?_
 refine U.done (C.nx (C.seq ?_))
 refine C.ite rfl hm (fun hb11 hm => ?_) (fun hb11 hm => ?_)
 refine C.skip (C.nx (C.seq (C.block (C.seq (U.start ?_)))))
 refine U.ps 2 T rfl ?_
 refine U.done (C.nx (C.seq (U.start ?_)))
 refine U.ps 3 T rfl ?_
 obtain ⟨x16, hx16, hm⟩ := hm
 refine U.r rfl (.none rfl) rfl rfl (by exact Rd.ix T rfl rfl rfl rfl rfl rfl hx16) ?_
 refine U.ps 1 T rfl ?_
 refine U.e rfl (.none rfl) (by exact Eff.k (T_rules_Carried_1 x16 f_c0 _ hm) en48 rfl rfl rfl (.eq rfl) (fun _ _ => ⟨(.v _), trivial⟩)) (fun x17' hm => ?_)
 obtain ⟨x17⟩ := x17'
 refine U.done (C.nx ?_)
 refine C.ite rfl hm (fun hb18 hm => ?_) (fun hb18 hm => ?_)
 refine C.seq (U.start ?_)
 refine U.ps 2 T rfl ?_
 refine U.done (C.nx (C.ret (C.brt (C.rt (C.rt (C.brt (C.rt ?_)))))))
 exact C.f0 T (rs' := [.i s7]) hβ ⟨s7, hm, rfl, rfl, rfl⟩
 refine C.skip (C.bnx (C.nx (U.start ?_)))
 refine U.ps 2 T rfl ?_
 refine U.done (C.nx ?_)
 exact St.wk (C.next hm) (Wk.e)
 refine C.exit (C.ex (C.ex (C.bex ?_)))
 exact St.wk (hJ6 _ hm) (Wk.mk' [] rfl rfl trivial trivial rfl)
theorem T_rules_Carried (st : ApiState) (shelf : Int) (post : Int → Prop) (hm : V_rules_Carried st shelf post) :
    Tr Try.prog 14 [.agg (eApiState st), .i shelf] [] 0 (fun A H' k => ∃ y, post y ∧ A = (.i y) ∧ H' = [] ∧ k = 0) := by
 refine Tr.intro (n := 11) Try.func14 rfl Try.ntmps14 rfl (fun w0 ok F β hβ => ?_)
 unfold V_rules_Carried at hm
 refine C.seq (U.start ?_)
 refine U.e1 rfl (.none rfl) (by exact Eff1.box rfl rfl rfl rfl rfl) ?_
 refine U.e1 rfl (.none rfl) (by exact Eff1.box rfl rfl rfl rfl rfl) ?_
 refine U.ps 1 T rfl ?_
 refine U.done (C.nx (C.seq (C.seq (U.start ?_))))
 refine U.ps 2 T rfl ?_
 refine U.done (C.nx ?_)
 refine C.ite rfl hm (fun hb5 hm => ?_) (fun hb5 hm => ?_)
 refine C.seq (U.start ?_)
 refine U.ps 1 T rfl ?_
 refine U.done (C.nx (C.ret (C.rt ?_)))
 exact C.f0 T (rs' := [.i (-1)]) hβ ⟨(-1), hm, rfl, rfl, rfl⟩
 refine C.skip (C.nx (C.seq (U.start ?_)))
 refine U.ps 3 T rfl ?_
 refine U.e rfl (.none rfl) (by exact Eff.k (T_slices_IndexFunc_api_Robot_api_Robot__rules_Carried_1 st.Robots shelf _ hm) en47 rfl rfl rfl (.cons (.eq rfl) (.cons (.fn (.eq rfl) (.cons (.fzp rfl rfl rfl rfl (.eq rfl) rfl) .nil)) .nil)) (fun _ _ => ⟨(.v _), trivial⟩)) (fun x10' hm => ?_)
 obtain ⟨x10⟩ := x10'
 refine U.ps 1 T rfl ?_
 refine U.done (C.nx (C.ret ?_))
 exact C.f0 T (rs' := [.i x10]) hβ ⟨x10, hm, rfl, rfl, rfl⟩
theorem T_floor_size (f : ApiFloor) (post : Int → Prop) (hm : V_floor_size f post) :
    Tr Try.prog 86 [.agg (eApiFloor f)] [] 0 (fun A H' k => ∃ y, post y ∧ A = (.i y) ∧ H' = [] ∧ k = 0) := by
 refine Tr.intro (n := 11) Try.func86 rfl Try.ntmps86 rfl (fun w0 ok F β hβ => ?_)
 unfold V_floor_size at hm
 refine C.seq (U.start ?_)
 refine U.e1 rfl (.none rfl) (by exact Eff1.box rfl rfl rfl rfl rfl) ?_
 refine U.ps 1 T rfl ?_
 refine U.done (C.nx (C.seq (U.start ?_)))
 refine U.ps 9 T rfl ?_
 refine U.done (C.nx (C.ret ?_))
 exact C.f0 T (rs' := [.i (w64 ((w64 (f.W * f.H)) * f.D))]) hβ ⟨w64 ((w64 (f.W * f.H)) * f.D), hm, rfl, rfl, rfl⟩
theorem T_floor_is (f : ApiFloor) (c : Int) (post : Bool → Prop) (hm : V_floor_is f c post) :
    Tr Try.prog 80 [.agg (eApiFloor f), .i c] [] 0 (fun A H' k => ∃ y, post y ∧ A = (.b y) ∧ H' = [] ∧ k = 0) := by
 refine Tr.intro (n := 13) Try.func80 rfl Try.ntmps80 rfl (fun w0 ok F β hβ => ?_)
 unfold V_floor_is at hm
 refine C.seq (U.start ?_)
 refine U.e1 rfl (.none rfl) (by exact Eff1.box rfl rfl rfl rfl rfl) ?_
 refine U.ps 1 T rfl ?_
 refine U.done (C.nx (C.seq ?_))
 refine C.jn (fun (x3 : Bool) => [(4, .b x3)]) (fun (x3 : Bool) => []) 0 hm (fun x3 hm => ?_) (fun J4 hm hJ4 => ?_)
 refine C.nx (C.ret ?_)
 exact C.f0 T (rs' := [.b x3]) hβ ⟨x3, hm, rfl, rfl, rfl⟩
 refine U.start ?_
 refine U.ps 3 T rfl ?_
 refine hm.cs (fun hb5 hm => ?_) (fun hb5 hm => ?_)
 refine U.pg 2 2 true 7 hb5 T rfl rfl rfl rfl ?_
 refine U.e rfl (.take 2 true 7 _ hb5 rfl rfl rfl) (by exact Eff.k (T_floor_size f _ hm) en86 rfl rfl rfl (.eq rfl) (fun _ _ => ⟨(.v _), trivial⟩)) (fun x6' hm => ?_)
 obtain ⟨x6⟩ := x6'
 refine U.pg 1 2 true 7 hb5 T rfl rfl rfl rfl ?_
 refine U.r rfl (.none rfl) rfl rfl (by exact Rd.pk rfl rfl hb5 rfl) ?_
 refine U.ps 1 T rfl ?_
 refine U.done ?_
 exact St.wk (hJ4 _ hm) (Wk.e)
 refine U.sks 4 2 true 7 hb5 rfl rfl rfl ?_
 refine U.r rfl (.none rfl) rfl rfl (by exact Rd.pk' rfl rfl hb5 rfl) ?_
 refine U.ps 1 T rfl ?_
 refine U.done ?_
 exact St.wk (hJ4 _ hm) (Wk.e)
theorem T_floor_At (f : ApiFloor) (c : Int) (post : (Int × Int × Int) → Prop) (hm : V_floor_At f c post) :
    Tr Try.prog 74 [.agg (eApiFloor f), .i c] [] 0 (fun A H' k => ∃ y, post y ∧ A = (.tup [.i y.1, .i y.2.1, .i y.2.2]) ∧ H' = [] ∧ k = 0) := by
 refine Tr.intro (n := 29) Try.func74 rfl Try.ntmps74 rfl (fun w0 ok F β hβ => ?_)
 unfold V_floor_At at hm
 refine C.seq (U.start ?_)
 refine U.e1 rfl (.none rfl) (by exact Eff1.box rfl rfl rfl rfl rfl) ?_
 refine U.ps 3 T rfl ?_
 refine U.done (C.nx (C.seq (C.seq (U.start ?_))))
 refine U.ps 2 T rfl ?_
 refine U.e rfl (.none rfl) (by exact Eff.k (T_floor_is f c _ hm) en80 rfl rfl rfl (.eq rfl) (fun _ _ => ⟨(.v _), trivial⟩)) (fun x5' hm => ?_)
 obtain ⟨x5⟩ := x5'
 refine U.ps 1 T rfl ?_
 refine U.done (C.nx ?_)
 refine C.ite rfl hm (fun hb6 hm => ?_) (fun hb6 hm => ?_)
 refine C.seq (U.start ?_)
 refine U.ps 3 T rfl ?_
 refine U.done (C.nx (C.ret (C.rt ?_)))
 exact C.f0 T (rs' := [.i ((0, 0, 0).1), .i ((0, 0, 0).2.1), .i ((0, 0, 0).2.2)]) hβ ⟨(0, 0, 0), hm, rfl, rfl, rfl⟩
 refine C.skip (C.nx (C.seq ?_))
 refine D.beg 9999 [0] [] mix rfl rfl (by kernel_rfl) (by repeat (first | exact NoPanicQ.body | exact NoPanicQ.rnd | refine NoPanicQ.th ?_ | refine NoPanicQ.blk ?_)) (fun hQ hS ws M' => ?_)
 refine D.ps 3 [(0, []), (1, []), (2, [])] rfl hQ hS T rfl rfl (by kernel_rfl) ?_
 obtain ⟨hx11, hm⟩ := hm
 refine D.q 3 [] hQ hS rfl (.none rfl) rfl rfl (by exact Rd.rm rfl rfl rfl rfl hx11) rfl (by kernel_rfl) ?_
 refine D.ps 3 [(4, []), (5, []), (6, [])] rfl hQ hS T rfl rfl (by kernel_rfl) ?_
 obtain ⟨hx12, hm⟩ := hm
 refine D.q 7 [] hQ hS rfl (.none rfl) rfl rfl (by exact Rd.dv rfl rfl rfl rfl hx12) rfl (by kernel_rfl) ?_
 refine D.ps 2 [(8, []), (9, [])] rfl hQ hS T rfl rfl (by kernel_rfl) ?_
 obtain ⟨hx13, hm⟩ := hm
 refine D.q 10 [] hQ hS rfl (.none rfl) rfl rfl (by exact Rd.rm rfl rfl rfl rfl hx13) rfl (by kernel_rfl) ?_
 refine D.ps 6 [(11, []), (12, []), (13, []), (14, []), (15, []), (16, [])] rfl hQ hS T rfl rfl (by kernel_rfl) ?_
 obtain ⟨hx14, hm⟩ := hm
 refine D.q 17 [] hQ hS rfl (.none rfl) rfl rfl (by exact Rd.dv rfl rfl rfl rfl hx14) rfl (by kernel_rfl) ?_
 refine D.ps 3 [(18, []), (19, []), (20, [])] rfl hQ hS T rfl rfl (by kernel_rfl) ?_
 refine D.done (by kernel_rfl) ?_
 refine C.nx (C.ret ?_)
 exact C.f0 T (rs' := [.i ((c.tmod f.W, (w64 (c.tdiv f.W)).tmod f.H, w64 (c.tdiv (w64 (f.W * f.H)))).1), .i ((c.tmod f.W, (w64 (c.tdiv f.W)).tmod f.H, w64 (c.tdiv (w64 (f.W * f.H)))).2.1), .i ((c.tmod f.W, (w64 (c.tdiv f.W)).tmod f.H, w64 (c.tdiv (w64 (f.W * f.H)))).2.2)]) hβ ⟨(c.tmod f.W, (w64 (c.tdiv f.W)).tmod f.H, w64 (c.tdiv (w64 (f.W * f.H)))), hm, rfl, rfl, rfl⟩
theorem T_floor_Cell (f : ApiFloor) (x_1 : Int) (y_1 : Int) (z : Int) (post : Int → Prop) (hm : V_floor_Cell f x_1 y_1 z post) :
    Tr Try.prog 75 [.agg (eApiFloor f), .i x_1, .i y_1, .i z] [] 0 (fun A H' k => ∃ y, post y ∧ A = (.i y) ∧ H' = [] ∧ k = 0) := by
 refine Tr.intro (n := 43) Try.func75 rfl Try.ntmps75 rfl (fun w0 ok F β hβ => ?_)
 unfold V_floor_Cell at hm
 refine C.seq (U.start ?_)
 refine U.e1 rfl (.none rfl) (by exact Eff1.box rfl rfl rfl rfl rfl) ?_
 refine U.ps 1 T rfl ?_
 refine U.done (C.nx (C.seq (C.seq ?_)))
 refine C.jn (fun (x3 : Bool) => [(1, .i x_1), (2, .i y_1), (3, .i z), (4, .p 0 0), (31, .b x3)]) (fun (x3 : Bool) => [(0, .box (eApiFloor f))]) 1 hm (fun x3 hm => ?_) (fun J4 hm hJ4 => ?_)
 refine C.nx ?_
 refine C.ite rfl hm (fun hb8 hm => ?_) (fun hb8 hm => ?_)
 refine C.seq (U.start ?_)
 refine U.ps 1 T rfl ?_
 refine U.done (C.nx (C.ret (C.rt ?_)))
 exact C.f0 T (rs' := [.i (-1)]) hβ ⟨(-1), hm, rfl, rfl, rfl⟩
 refine C.skip (C.nx (C.seq (U.start ?_)))
 refine U.ps 12 T rfl ?_
 refine U.done (C.nx (C.ret ?_))
 exact C.f0 T (rs' := [.i (w64 ((w64 ((w64 ((w64 (z * f.H)) + y_1)) * f.W)) + x_1))]) hβ ⟨w64 ((w64 ((w64 ((w64 (z * f.H)) + y_1)) * f.W)) + x_1), hm, rfl, rfl, rfl⟩
 refine U.start ?_
 refine U.ps 6 T rfl ?_
 refine hm.cs (fun hb5 hm => ?_) (fun hb5 hm => ?_)
 refine U.sks 4 5 false 14 hb5 rfl rfl rfl ?_
 refine U.r rfl (.none rfl) rfl rfl (by exact Rd.pk rfl rfl hb5 rfl) ?_
 refine U.ps 1 T rfl ?_
 refine U.sks 4 11 false 20 rfl rfl rfl rfl ?_
 refine U.r rfl (.none rfl) rfl rfl (by exact Rd.pk rfl rfl rfl rfl) ?_
 refine U.ps 1 T rfl ?_
 refine U.sks 4 17 false 26 rfl rfl rfl rfl ?_
 refine U.r rfl (.none rfl) rfl rfl (by exact Rd.pk rfl rfl rfl rfl) ?_
 refine U.done ?_
 exact St.wk (hJ4 _ hm) (Wk.f [some 0] ⟨bX, trivial⟩)
 refine U.pg 4 5 false 14 hb5 T rfl rfl rfl rfl ?_
 refine U.r rfl (.none rfl) rfl rfl (by exact Rd.pk' rfl rfl hb5 rfl) ?_
 refine U.ps 1 T rfl ?_
 refine hm.cs (fun hb6 hm => ?_) (fun hb6 hm => ?_)
 refine U.sks 4 11 false 20 hb6 rfl rfl rfl ?_
 refine U.r rfl (.none rfl) rfl rfl (by exact Rd.pk rfl rfl hb6 rfl) ?_
 refine U.ps 1 T rfl ?_
 refine U.sks 4 17 false 26 rfl rfl rfl rfl ?_
 refine U.r rfl (.none rfl) rfl rfl (by exact Rd.pk rfl rfl rfl rfl) ?_
 refine U.done ?_
 exact St.wk (hJ4 _ hm) (Wk.f [some 0] ⟨bX, trivial⟩)
 refine U.pg 4 11 false 20 hb6 T rfl rfl rfl rfl ?_
 refine U.r rfl (.none rfl) rfl rfl (by exact Rd.pk' rfl rfl hb6 rfl) ?_
 refine U.ps 1 T rfl ?_
 refine hm.cs (fun hb7 hm => ?_) (fun hb7 hm => ?_)
 refine U.sks 4 17 false 26 hb7 rfl rfl rfl ?_
 refine U.r rfl (.none rfl) rfl rfl (by exact Rd.pk rfl rfl hb7 rfl) ?_
 refine U.done ?_
 exact St.wk (hJ4 _ hm) (Wk.f [some 0] ⟨bX, trivial⟩)
 refine U.pg 4 17 false 26 hb7 T rfl rfl rfl rfl ?_
 refine U.r rfl (.none rfl) rfl rfl (by exact Rd.pk' rfl rfl hb7 rfl) ?_
 refine U.done ?_
 exact St.wk (hJ4 _ hm) (Wk.f [some 0] ⟨bX, trivial⟩)
theorem T_rules_beside_1 (c : Int) (post : Bool → Prop) (hm : V_rules_beside_1 c post) :
    Tr Try.prog 77 [.i c] [] 0 (fun A H' k => ∃ y, post y ∧ A = (.b y) ∧ H' = [] ∧ k = 0) := by
 refine Tr.intro (n := 5) Try.func77 rfl Try.ntmps77 rfl (fun w0 ok F β hβ => ?_)
 unfold V_rules_beside_1 at hm
 refine C.seq (U.start ?_)
 refine U.ps 1 T rfl ?_
 refine U.done (C.nx (C.seq (U.start ?_)))
 refine U.ps 3 T rfl ?_
 refine U.done (C.nx (C.ret ?_))
 exact C.f0 T (rs' := [.b (decide (c < 0))]) hβ ⟨decide (c < 0), hm, rfl, rfl, rfl⟩
theorem T_slices_IndexFunc_int_int__rules_beside_1 (s_1 : List Int) (post : Int → Prop) (hm : V_slices_IndexFunc_int_int__rules_beside_1 s_1 post) :
    Tr Try.prog 94 [.sl 1 eI s_1, .fn (.func 77) [] []] [] 0 (fun A H' k => ∃ y, post y ∧ A = (.i y) ∧ H' = [] ∧ k = 0) := by
 refine Tr.intro (n := 19) Try.func94 rfl Try.ntmps94 rfl (fun w0 ok F β hβ => ?_)
 unfold V_slices_IndexFunc_int_int__rules_beside_1 at hm
 refine C.seq (U.start ?_)
 refine U.ps 1 T rfl ?_
 refine U.done (C.nx (C.seq (C.seq (U.start ?_))))
 refine U.ps 3 T rfl ?_
 refine U.done (C.nx ?_)
 refine C.jn (fun (x5 : Unit) => []) (fun (x5 : Unit) => []) 0 hm (fun x5 hm => ?_) (fun J6 hm hJ6 => ?_)
 refine C.nx (C.seq (U.start ?_))
 refine U.ps 1 T rfl ?_
 refine U.done (C.nx (C.ret ?_))
 exact C.f0 T (rs' := [.i (-1)]) hβ ⟨(-1), hm, rfl, rfl, rfl⟩
 refine C.block ?_
 refine St.wk (C.loop (fun (s7 : Int) => [(0, .sl 1 eI s_1), (1, .fn (.func 77) [] []), (7, .i (s_1.length : Int)), (8, .i s7)]) (fun (s7 : Int) => []) hm (fun s7 Y8 hm => ?_)) (Wk.e)
 refine C.seq (U.start ?_)
 refine U.ps 1 T rfl ?_
 refine U.done (C.nx (C.seq ?_))
 refine C.ite rfl hm (fun hb11 hm => ?_) (fun hb11 hm => ?_)
 refine C.skip (C.nx (C.seq (C.block (C.seq (U.start ?_)))))
 refine U.ps 2 T rfl ?_
 refine U.done (C.nx (C.seq (U.start ?_)))
 refine U.ps 3 T rfl ?_
 obtain ⟨x16, hx16, hm⟩ := hm
 refine U.r rfl (.none rfl) rfl rfl (by exact Rd.ix T rfl rfl rfl rfl rfl rfl hx16) ?_
 refine U.ps 1 T rfl ?_
 refine U.e rfl (.none rfl) (by exact Eff.k (T_rules_beside_1 x16 _ hm) en77 rfl rfl rfl (.eq rfl) (fun _ _ => ⟨(.v _), trivial⟩)) (fun x17' hm => ?_)
 obtain ⟨x17⟩ := x17'
 refine U.done (C.nx ?_)
 refine C.ite rfl hm (fun hb18 hm => ?_) (fun hb18 hm => ?_)
 refine C.seq (U.start ?_)
 refine U.ps 2 T rfl ?_
 refine U.done (C.nx (C.ret (C.brt (C.rt (C.rt (C.brt (C.rt ?_)))))))
 exact C.f0 T (rs' := [.i s7]) hβ ⟨s7, hm, rfl, rfl, rfl⟩
 refine C.skip (C.bnx (C.nx (U.start ?_)))
 refine U.ps 2 T rfl ?_
 refine U.done (C.nx ?_)
 exact St.wk (C.next hm) (Wk.e)
 refine C.exit (C.ex (C.ex (C.bex ?_)))
 exact St.wk (hJ6 _ hm) (Wk.mk' [] rfl rfl trivial trivial rfl)
theorem T_slices_DeleteFunc_int_int__o0_rules_beside_1 (s_1 : List Int) (post : (List Int) → Prop) (hm : V_slices_DeleteFunc_int_int__o0_rules_beside_1 s_1 post) :
    Tr Try.prog 76 [.o 0, .fn (.func 77) [] []] [(0, .val (.os 1 eI s_1))] 1 (fun A H' k => ∃ y, post y ∧ A = (.o 1) ∧ H' = [(1, .val (.os 1 eI y))] ∧ k = 2) := by
 refine Tr.intro (n := 42) Try.func76 rfl Try.ntmps76 rfl (fun w0 ok F β hβ => ?_)
 unfold V_slices_DeleteFunc_int_int__o0_rules_beside_1 at hm
 refine C.seq (U.start ?_)
 refine U.ps 1 T rfl ?_
 refine U.done (C.nx (C.seq (U.start ?_)))
 refine U.ps 2 T rfl ?_
 refine U.e rfl (.none rfl) (by exact Eff.k (T_slices_IndexFunc_int_int__rules_beside_1 s_1 _ hm) en94 rfl rfl rfl (.cons (.fz rfl rfl rfl (.os fun _ => .cons (.ro rfl) .nil)) (.eq rfl)) (fun _ _ => ⟨(.v _), trivial⟩)) (fun x5' hm => ?_)
 obtain ⟨x5⟩ := x5'
 refine U.ps 1 T rfl ?_
 refine U.done (C.nx (C.seq (C.seq (U.start ?_))))
 refine U.ps 2 T rfl ?_
 refine U.done (C.nx ?_)
 refine C.ite rfl hm (fun hb8 hm => ?_) (fun hb8 hm => ?_)
 refine C.seq (U.start ?_)
 refine U.ps 2 T rfl ?_
 refine U.done (C.nx (C.ret (C.rt ?_)))
 exact C.fin T (rs' := [.o 1]) (H' := [(1, .val (.os 1 eI s_1))]) (nl' := 2) [some 0, some 0] rfl rfl (.eq rfl) ⟨vL, trivial⟩ rfl rfl rfl rfl hβ ⟨s_1, hm, rfl, rfl, rfl⟩
 refine C.skip (C.nx (C.seq (C.seq (U.start ?_))))
 refine U.ps 3 T rfl ?_
 refine U.done (C.nx ?_)
 refine C.jn (fun (x13 : List Int × Int) => [(0, .o 0), (5, .i x13.2)]) (fun (x13 : List Int × Int) => [(0, .val (.os 1 eI x13.1))]) 1 hm (fun x13 hm => ?_) (fun J14 hm hJ14 => ?_)
 refine C.nx (C.seq (U.start ?_))
 refine U.ps 2 T rfl ?_
 obtain ⟨hx38, hm⟩ := hm
 refine U.r rfl (.none rfl) rfl rfl (by exact Rd.vw T rfl rfl rfl rfl rfl rfl (.some _ rfl) (.none _) hx38) ?_
 obtain ⟨hx39, hm⟩ := hm
 refine U.e1 rfl (.none rfl) (by exact Eff1.clv T (z0 := 0) rfl rfl rfl rfl rfl rfl rfl (fun _ => rfl) rfl hx39) ?_
 refine U.done (C.nx (C.seq (U.start ?_)))
 refine U.ps 2 T rfl ?_
 obtain ⟨hx42, hm⟩ := hm
 refine U.e1 rfl (.none rfl) (by exact Eff1.sw T rfl rfl rfl rfl rfl rfl rfl rfl (.none _) (.some _ rfl) hx42) ?_
 refine U.ps 1 T rfl ?_
 refine U.done (C.nx (C.ret ?_))
 exact C.fin T (rs' := [.o 1]) (H' := [(1, .val (.os 1 eI (sub (x13.1.take (Int.toNat x13.2) ++ (List.replicate (Int.toNat ((x13.1.length : Int) - x13.2)) 0 ++ x13.1.drop ((Int.toNat x13.2) + (Int.toNat ((x13.1.length : Int) - x13.2))))) 0 x13.2)))]) (nl' := 2) [some 0, some 1] rfl rfl (.eq rfl) ⟨vL, trivial⟩ rfl rfl rfl rfl hβ ⟨(sub (x13.1.take (Int.toNat x13.2) ++ (List.replicate (Int.toNat ((x13.1.length : Int) - x13.2)) 0 ++ x13.1.drop ((Int.toNat x13.2) + (Int.toNat ((x13.1.length : Int) - x13.2))))) 0 x13.2), hm, rfl, rfl, rfl⟩
 refine C.block ?_
 refine St.wk (C.loop (fun (s15 : List Int × Int × Int) => [(0, .o 0), (1, .fn (.func 77) [] []), (5, .i s15.2.1), (6, .i s15.2.2)]) (fun (s15 : List Int × Int × Int) => [(0, .val (.os 1 eI s15.1))]) hm (fun s15 Y16 hm => ?_)) (Wk.f [some 0] ⟨vL, trivial⟩)
 refine C.seq (C.seq (U.start ?_))
 refine U.ps 4 T rfl ?_
 refine U.done (C.nx ?_)
 refine C.ite rfl hm (fun hb19 hm => ?_) (fun hb19 hm => ?_)
 refine C.skip (C.nx (C.seq (C.block (C.seq (U.start ?_)))))
 refine U.ps 2 T rfl ?_
 obtain ⟨x22, hx22, hm⟩ := hm
 refine U.r rfl (.none rfl) rfl rfl (by exact Rd.io T rfl rfl rfl rfl rfl rfl rfl hx22) ?_
 refine U.r rfl (.none rfl) rfl rfl (by exact Rd.le T rfl rfl rfl (idx_some hx22).2.2 rfl rfl rfl) ?_
 refine U.ps 1 T rfl ?_
 refine U.done (C.nx (C.seq (U.start ?_)))
 refine U.ps 2 T rfl ?_
 refine U.e rfl (.none rfl) (by exact Eff.k (T_rules_beside_1 x22 _ hm) en77 rfl rfl rfl (.eq rfl) (fun _ _ => ⟨(.v _), trivial⟩)) (fun x25' hm => ?_)
 obtain ⟨x25⟩ := x25'
 refine U.ps 1 T rfl ?_
 refine U.done (C.nx ?_)
 refine C.jn (fun (x26 : List Int × Int) => [(0, .o 0), (1, .fn (.func 77) [] []), (5, .i x26.2), (6, .i s15.2.2)]) (fun (x26 : List Int × Int) => [(0, .val (.os 1 eI x26.1))]) 1 hm (fun x26 hm => ?_) (fun J27 hm hJ27 => ?_)
 refine C.bnx (C.nx (U.start ?_))
 refine U.ps 3 T rfl ?_
 refine U.done (C.nx ?_)
 exact St.wk (C.next hm) (Wk.f [some 0] ⟨vL, trivial⟩)
 refine C.ite rfl hm (fun hb28 hm => ?_) (fun hb28 hm => ?_)
 refine C.seq (U.start ?_)
 refine U.ps 3 T rfl ?_
 obtain ⟨x31, hx31, hm⟩ := hm
 refine U.r rfl (.none rfl) rfl rfl (by exact Rd.io T rfl rfl rfl rfl rfl rfl rfl hx31) ?_
 refine U.e1 rfl (.none rfl) (by exact Eff1.se T (z' := x22) rfl rfl rfl (idx_some hx31).2.2 rfl rfl rfl rfl rfl rfl rfl rfl (fun _ => rfl) rfl) ?_
 refine U.done (C.nx (U.start ?_))
 refine U.ps 3 T rfl ?_
 refine U.done ?_
 exact St.wk (hJ27 _ hm) (Wk.f [some 0] ⟨vL, trivial⟩)
 refine C.skip ?_
 exact St.wk (hJ27 _ hm) (Wk.f [some 0] ⟨vL, trivial⟩)
 refine C.exit (C.ex (C.ex (C.bex ?_)))
 exact St.wk (hJ14 _ hm) (Wk.f [some 0] ⟨vL, trivial⟩)
theorem T_rules_beside (s_1 : ApiSite) (c : Int) (post : (List Int) → Prop) (hm : V_rules_beside s_1 c post) :
    Tr Try.prog 45 [.agg (eApiSite s_1), .i c] [] 0 (fun A H' k => ∃ y, post y ∧ A = (.o 0) ∧ H' = [(0, .val (.os 1 eI y))] ∧ k = 1) := by
 refine Tr.intro (n := 48) Try.func45 rfl Try.ntmps45 rfl (fun w0 ok F β hβ => ?_)
 unfold V_rules_beside at hm
 refine C.seq (U.start ?_)
 refine U.e1 rfl (.none rfl) (by exact Eff1.box rfl rfl rfl rfl rfl) ?_
 refine U.ps 1 T rfl ?_
 refine U.done (C.nx (C.seq (U.start ?_)))
 refine U.ps 3 T rfl ?_
 refine U.e rfl (.none rfl) (by exact Eff.k (T_floor_At s_1.Floor c _ hm) en74 rfl rfl rfl (.eq rfl) (fun _ _ => ⟨(.tup (.cons (.v _) (.cons (.v _) (.cons (.v _) .nil)))), trivial⟩)) (fun x5' hm => ?_)
 obtain ⟨x5⟩ := x5'
 refine U.ps 7 T rfl ?_
 refine U.done (C.nx (C.seq ?_))
 refine D.beg 9999 [0] [] mix rfl rfl (by kernel_rfl) (by repeat (first | exact NoPanicQ.body | exact NoPanicQ.rnd | refine NoPanicQ.th ?_ | refine NoPanicQ.blk ?_)) (fun hQ hS ws M' => ?_)
 refine D.ps 24 [(0, []), (1, []), (2, []), (3, []), (4, []), (5, []), (7, []), (8, []), (9, []), (10, []), (11, []), (12, []), (14, []), (15, []), (16, []), (17, []), (18, []), (19, []), (21, []), (22, []), (23, []), (24, []), (25, []), (26, [])] rfl hQ hS T rfl rfl (by kernel_rfl) ?_
 refine D.e 6 rfl (.none rfl) (by exact Eff.k (T_floor_Cell s_1.Floor (w64 (x5.1 + 1)) x5.2.1 x5.2.2 _ hm) en75 rfl rfl rfl (.eq rfl) (fun _ _ => ⟨(.v _), trivial⟩)) (by kernel_rfl) rfl rfl (fun x8' hm => ?_)
 obtain ⟨x8⟩ := x8'
 refine D.e 13 rfl (.none rfl) (by exact Eff.k (T_floor_Cell s_1.Floor x5.1 (w64 (x5.2.1 + 1)) x5.2.2 _ hm) en75 rfl rfl rfl (.eq rfl) (fun _ _ => ⟨(.v _), trivial⟩)) (by kernel_rfl) rfl rfl (fun x9' hm => ?_)
 obtain ⟨x9⟩ := x9'
 refine D.e 20 rfl (.none rfl) (by exact Eff.k (T_floor_Cell s_1.Floor (w64 (x5.1 - 1)) x5.2.1 x5.2.2 _ hm) en75 rfl rfl rfl (.eq rfl) (fun _ _ => ⟨(.v _), trivial⟩)) (by kernel_rfl) rfl rfl (fun x10' hm => ?_)
 obtain ⟨x10⟩ := x10'
 refine D.e 27 rfl (.none rfl) (by exact Eff.k (T_floor_Cell s_1.Floor x5.1 (w64 (x5.2.1 - 1)) x5.2.2 _ hm) en75 rfl rfl rfl (.eq rfl) (fun _ _ => ⟨(.v _), trivial⟩)) (by kernel_rfl) rfl rfl (fun x11' hm => ?_)
 obtain ⟨x11⟩ := x11'
 refine D.e1 28 rfl (.none rfl) (by exact Eff1.bs T (enc := eI) (xs := ([x8, x9, x10, x11] : List Int)) rfl rfl rfl rfl rfl rfl rfl rfl rfl rfl (fun _ _ => rfl) rfl rfl) (by kernel_rfl) rfl rfl ?_
 refine D.ps 1 [(29, [])] rfl hQ hS T rfl rfl (by kernel_rfl) ?_
 refine D.done (by kernel_rfl) ?_
 refine C.nx (C.seq (U.start ?_))
 refine U.ps 1 T rfl ?_
 refine U.e rfl (.none rfl) (by exact Eff.c [some 1] (v := false) (T_slices_DeleteFunc_int_int__o0_rules_beside_1 ([x8, x9, x10, x11] : List Int) _ hm) en76 rfl rfl rfl (.eq rfl) ⟨vL, trivial⟩ rfl rfl rfl rfl rfl rfl (fun h => by cases h) (.inl rfl) (fun _ => rfl) (fun _ => rfl) rfl) (fun x14' hm => ?_)
 obtain ⟨x14⟩ := x14'
 refine U.ps 1 T rfl ?_
 refine U.done (C.nx (C.ret ?_))
 exact C.fin T (rs' := [.o 0]) (H' := [(0, .val (.os 1 eI x14))]) (nl' := 1) [some 3] rfl rfl (.eq rfl) ⟨vL, trivial⟩ rfl rfl rfl rfl hβ ⟨x14, hm, rfl, rfl, rfl⟩
theorem T_rules_Apart (s_1 : ApiSite) (st : ApiState) (post : (Int × Int × Bool) → Prop) (hm : V_rules_Apart s_1 st post) :
    Tr Try.prog 10 [.agg (eApiSite s_1), .agg (eApiState st)] [] 0 (fun A H' k => ∃ y, post y ∧ A = (.tup [.i y.1, .i y.2.1, .b y.2.2]) ∧ H' = [] ∧ k = 0) := by
 refine Tr.intro (n := 113) Try.func10 rfl Try.ntmps10 rfl (fun w0 ok F β hβ => ?_)
 unfold V_rules_Apart at hm
 refine C.seq (U.start ?_)
 refine U.e1 rfl (.none rfl) (by exact Eff1.box rfl rfl rfl rfl rfl) ?_
 refine U.e1 rfl (.none rfl) (by exact Eff1.box rfl rfl rfl rfl rfl) ?_
 refine U.ps 3 T rfl ?_
 refine U.done (C.nx (C.seq (U.start ?_)))
 refine U.ps 1 T rfl ?_
 refine U.e rfl (.none rfl) (by exact Eff.c [] (v := true) (T_rules_classes s_1 _ hm) en44 rfl rfl rfl (.eq rfl) trivial rfl rfl rfl rfl rfl rfl (fun _ _ => ⟨(.o _), ⟨.val (.om _ _ _ fun _ => (.v _)), trivial⟩⟩) (.inr ⟨rfl, rfl⟩) (fun _ => rfl) (fun _ => rfl) rfl) (fun x5' hm => ?_)
 obtain ⟨x5⟩ := x5'
 refine U.ps 1 T rfl ?_
 refine U.done (C.nx (C.seq (U.start ?_)))
 refine U.e1 rfl (.none rfl) (by exact Eff1.mm kI veOeI rfl rfl rfl) ?_
 refine U.ps 1 T rfl ?_
 refine U.done (C.nx (C.seq (C.seq (U.start ?_))))
 refine U.ps 4 T rfl ?_
 refine U.done (C.nx ?_)
 refine C.jn (fun (x10 : List (Int × List Int)) => [(2, .p 0 0), (3, .p 1 0), (7, .o 2), (8, .o 3)]) (fun (x10 : List (Int × List Int)) => [(0, .box (eApiSite s_1)), (1, .box (eApiState st)), (2, .val (.om kApiApart veB x5)), (3, .val (.om kI veOeI x10))]) 4 hm (fun x10 hm => ?_) (fun J11 hm hJ11 => ?_)
 refine C.nx (C.seq (C.seq (U.start ?_)))
 refine U.ps 4 T rfl ?_
 refine U.done (C.nx ?_)
 refine C.jn (fun (x38 : Unit) => []) (fun (x38 : Unit) => []) 0 hm (fun x38 hm => ?_) (fun J39 hm hJ39 => ?_)
 refine C.nx (C.seq (U.start ?_))
 refine U.ps 3 T rfl ?_
 refine U.done (C.nx (C.ret ?_))
 exact C.f0 T (rs' := [.i ((0, 0, false).1), .i ((0, 0, false).2.1), .b ((0, 0, false).2.2)]) hβ ⟨(0, 0, false), hm, rfl, rfl, rfl⟩
 refine C.block ?_
 refine St.wk (C.loop (fun (s40 : Int) => [(2, .p 0 0), (3, .p 1 0), (7, .o 2), (8, .rm kI veLeI x10), (49, .sl 1 eI st.Shelves), (50, .i (st.Shelves.length : Int)), (51, .i s40)]) (fun (s40 : Int) => [(0, .box (eApiSite s_1)), (1, .box (eApiState st)), (2, .val (.om kApiApart veB x5))]) hm (fun s40 Y41 hm => ?_)) (Wk.mk' [some 0, some 1, some 2] rfl rfl ⟨⟨_, rfl, (.eq rfl)⟩, ⟨_, rfl, (.eq rfl)⟩, ⟨_, rfl, (.eq rfl)⟩, ⟨_, rfl, (.fz rfl rfl rfl (.om fun _ => .os fun _ => .cons (.ro rfl) .nil))⟩, ChkG.eqs rfl⟩ ⟨bX, bX, vL, trivial⟩ rfl)
 refine C.seq (U.start ?_)
 refine U.ps 1 T rfl ?_
 refine U.done (C.nx (C.seq ?_))
 refine C.ite rfl hm (fun hb44 hm => ?_) (fun hb44 hm => ?_)
 refine C.skip (C.nx (C.seq ?_))
 refine C.jn (fun (x45 : Unit) => [(2, .p 0 0), (3, .p 1 0), (7, .o 2), (8, .rm kI veLeI x10), (49, .sl 1 eI st.Shelves), (50, .i (st.Shelves.length : Int)), (51, .i s40)]) (fun (x45 : Unit) => [(0, .box (eApiSite s_1)), (1, .box (eApiState st)), (2, .val (.om kApiApart veB x5))]) 3 hm (fun x45 hm => ?_) (fun J46 hm hJ46 => ?_)
 refine C.nx (U.start ?_)
 refine U.ps 2 T rfl ?_
 refine U.done (C.nx ?_)
 exact St.wk (C.next hm) (Wk.f [some 0, some 1, some 2] ⟨bX, bX, vL, trivial⟩)
 refine C.block (C.seq (U.start ?_))
 refine U.ps 1 T rfl ?_
 obtain ⟨x49, hx49, hm⟩ := hm
 refine U.r rfl (.none rfl) rfl rfl (by exact Rd.ix T rfl rfl rfl rfl rfl rfl hx49) ?_
 refine U.ps 3 T rfl ?_
 refine U.done (C.nx (C.seq (U.start ?_)))
 refine U.ps 1 T rfl ?_
 refine U.done (C.nx (C.seq (C.seq ?_)))
 refine C.jn (fun (x52 : Bool) => [(2, .p 0 0), (3, .p 1 0), (7, .o 2), (8, .rm kI veLeI x10), (11, .i s40), (12, .i x49), (13, .i (-1)), (49, .sl 1 eI st.Shelves), (50, .i (st.Shelves.length : Int)), (51, .i s40), (65, .b x52)]) (fun (x52 : Bool) => [(0, .box (eApiSite s_1)), (1, .box (eApiState st)), (2, .val (.om kApiApart veB x5))]) 3 hm (fun x52 hm => ?_) (fun J53 hm hJ53 => ?_)
 refine C.nx ?_
 refine C.ite rfl hm (fun hb57 hm => ?_) (fun hb57 hm => ?_)
 refine C.exit (C.ex (C.bex ?_))
 exact St.wk (hJ46 _ hm) (Wk.f [some 0, some 1, some 2] ⟨bX, bX, vL, trivial⟩)
 refine C.skip (C.nx (C.seq (C.seq (U.start ?_))))
 refine U.ps 2 T rfl ?_
 refine U.e rfl (.none rfl) (by exact Eff.c [] (v := true) (T_rules_beside s_1 x49 _ hm) en45 rfl rfl rfl (.eq rfl) trivial rfl rfl rfl rfl rfl rfl (fun _ _ => ⟨(.o _), ⟨.val (.os _ _ _ fun _ => (.cons (.v _) .nil)), trivial⟩⟩) (.inr ⟨rfl, rfl⟩) (fun _ => rfl) (fun _ => rfl) rfl) (fun x60' hm => ?_)
 obtain ⟨x60⟩ := x60'
 refine U.ps 2 T rfl ?_
 refine U.done (C.nx ?_)
 refine C.jn (fun (x61 : Int) => [(2, .p 0 0), (3, .p 1 0), (7, .o 2), (8, .rm kI veLeI x10), (11, .i s40), (13, .i x61), (49, .sl 1 eI st.Shelves), (50, .i (st.Shelves.length : Int)), (51, .i s40)]) (fun (x61 : Int) => [(0, .box (eApiSite s_1)), (1, .box (eApiState st)), (2, .val (.om kApiApart veB x5))]) 3 hm (fun x61 hm => ?_) (fun J62 hm hJ62 => ?_)
 refine C.nx (C.seq (U.start ?_))
 refine U.ps 2 T rfl ?_
 refine U.done (C.nx ?_)
 refine C.ite rfl hm (fun hb105 hm => ?_) (fun hb105 hm => ?_)
 refine C.seq (U.start ?_)
 refine U.ps 5 T rfl ?_
 refine U.done (C.nx (C.ret (C.brt (C.rt (C.rt (C.brt (C.rt ?_)))))))
 exact C.f0 T (rs' := [.i ((s40, x61, true).1), .i ((s40, x61, true).2.1), .b ((s40, x61, true).2.2)]) hβ ⟨(s40, x61, true), hm, rfl, rfl, rfl⟩
 refine C.skip (C.bnx ?_)
 exact St.wk (hJ46 _ hm) (Wk.f [some 0, some 1, some 2] ⟨bX, bX, vL, trivial⟩)
 refine C.block ?_
 refine St.wk (C.loop (fun (s63 : Int × Int) => [(2, .p 0 0), (3, .p 1 0), (7, .o 2), (8, .rm kI veLeI x10), (11, .i s40), (13, .i s63.1), (49, .sl 1 eI st.Shelves), (50, .i (st.Shelves.length : Int)), (51, .i s40), (68, .sl 1 eI x60), (69, .i (x60.length : Int)), (70, .i s63.2)]) (fun (s63 : Int × Int) => [(0, .box (eApiSite s_1)), (1, .box (eApiState st)), (2, .val (.om kApiApart veB x5))]) hm (fun s63 Y64 hm => ?_)) (Wk.mk' [some 0, some 1, some 2] rfl rfl ⟨⟨_, rfl, (.eq rfl)⟩, ⟨_, rfl, (.eq rfl)⟩, ⟨_, rfl, (.eq rfl)⟩, ⟨_, rfl, (.eq rfl)⟩, ⟨_, rfl, (.eq rfl)⟩, ⟨_, rfl, (.eq rfl)⟩, ⟨_, rfl, (.eq rfl)⟩, ⟨_, rfl, (.eq rfl)⟩, ⟨_, rfl, (.eq rfl)⟩, ⟨_, rfl, (.fz rfl rfl rfl (.os fun _ => .cons (.ro rfl) .nil))⟩, ChkG.eqs rfl⟩ ⟨bX, bX, vL, trivial⟩ rfl)
 refine C.seq (U.start ?_)
 refine U.ps 1 T rfl ?_
 refine U.done (C.nx (C.seq ?_))
 refine C.ite rfl hm (fun hb67 hm => ?_) (fun hb67 hm => ?_)
 refine C.skip (C.nx (C.seq ?_))
 refine C.jn (fun (x68 : Int) => [(2, .p 0 0), (3, .p 1 0), (7, .o 2), (8, .rm kI veLeI x10), (11, .i s40), (13, .i x68), (49, .sl 1 eI st.Shelves), (50, .i (st.Shelves.length : Int)), (51, .i s40), (68, .sl 1 eI x60), (69, .i (x60.length : Int)), (70, .i s63.2)]) (fun (x68 : Int) => [(0, .box (eApiSite s_1)), (1, .box (eApiState st)), (2, .val (.om kApiApart veB x5))]) 3 hm (fun x68 hm => ?_) (fun J69 hm hJ69 => ?_)
 refine C.nx (U.start ?_)
 refine U.ps 2 T rfl ?_
 refine U.done (C.nx ?_)
 exact St.wk (C.next hm) (Wk.f [some 0, some 1, some 2] ⟨bX, bX, vL, trivial⟩)
 refine C.block (C.seq (U.start ?_))
 obtain ⟨x72, hx72, hm⟩ := hm
 refine U.r rfl (.none rfl) rfl rfl (by exact Rd.ix T rfl rfl rfl rfl rfl rfl hx72) ?_
 refine U.ps 2 T rfl ?_
 refine U.done (C.nx (C.seq (U.start ?_)))
 refine U.ps 2 T rfl ?_
 refine U.r rfl (.none rfl) rfl rfl (by exact Rd.lk T (ke := kI) (ve := veLeI) (xs := x10) (z0 := []) (x := x72) rfl rfl kt3 zt22 (fun _ => rfl) rfl .rm rfl rfl rfl) ?_
 refine U.ps 2 T rfl ?_
 refine U.done (C.nx ?_)
 refine C.jn (fun (x75 : Int) => [(2, .p 0 0), (3, .p 1 0), (7, .o 2), (8, .rm kI veLeI x10), (11, .i s40), (13, .i x75), (49, .sl 1 eI st.Shelves), (50, .i (st.Shelves.length : Int)), (51, .i s40), (68, .sl 1 eI x60), (69, .i (x60.length : Int)), (70, .i s63.2)]) (fun (x75 : Int) => [(0, .box (eApiSite s_1)), (1, .box (eApiState st)), (2, .val (.om kApiApart veB x5))]) 3 hm (fun x75 hm => ?_) (fun J76 hm hJ76 => ?_)
 refine C.bnx ?_
 exact St.wk (hJ69 _ hm) (Wk.f [some 0, some 1, some 2] ⟨bX, bX, vL, trivial⟩)
 refine C.block ?_
 refine St.wk (C.loop (fun (s77 : Int × Int) => [(2, .p 0 0), (3, .p 1 0), (7, .o 2), (8, .rm kI veLeI x10), (11, .i s40), (13, .i s77.1), (49, .sl 1 eI st.Shelves), (50, .i (st.Shelves.length : Int)), (51, .i s40), (68, .sl 1 eI x60), (69, .i (x60.length : Int)), (70, .i s63.2), (76, .sl 1 eI ((lk x10 x72).getD [])), (77, .i (((lk x10 x72).getD []).length : Int)), (78, .i s77.2)]) (fun (s77 : Int × Int) => [(0, .box (eApiSite s_1)), (1, .box (eApiState st)), (2, .val (.om kApiApart veB x5))]) hm (fun s77 Y78 hm => ?_)) (Wk.f [some 0, some 1, some 2] ⟨bX, bX, vL, trivial⟩)
 refine C.seq (U.start ?_)
 refine U.ps 1 T rfl ?_
 refine U.done (C.nx (C.seq ?_))
 refine C.ite rfl hm (fun hb81 hm => ?_) (fun hb81 hm => ?_)
 refine C.skip (C.nx (C.seq (C.block (C.seq (U.start ?_)))))
 obtain ⟨x84, hx84, hm⟩ := hm
 refine U.r rfl (.none rfl) rfl rfl (by exact Rd.ix T rfl rfl rfl rfl rfl rfl hx84) ?_
 refine U.ps 2 T rfl ?_
 refine U.done (C.nx (C.seq ?_))
 refine C.jn (fun (x85 : Bool) => [(2, .p 0 0), (3, .p 1 0), (7, .o 2), (8, .rm kI veLeI x10), (11, .i s40), (13, .i s77.1), (17, .i x84), (49, .sl 1 eI st.Shelves), (50, .i (st.Shelves.length : Int)), (51, .i s40), (68, .sl 1 eI x60), (69, .i (x60.length : Int)), (70, .i s63.2), (76, .sl 1 eI ((lk x10 x72).getD [])), (77, .i (((lk x10 x72).getD []).length : Int)), (78, .i s77.2), (104, .b x85)]) (fun (x85 : Bool) => [(0, .box (eApiSite s_1)), (1, .box (eApiState st)), (2, .val (.om kApiApart veB x5))]) 3 hm (fun x85 hm => ?_) (fun J86 hm hJ86 => ?_)
 refine C.nx ?_
 refine C.jn (fun (x94 : Int) => [(2, .p 0 0), (3, .p 1 0), (7, .o 2), (8, .rm kI veLeI x10), (11, .i s40), (13, .i x94), (49, .sl 1 eI st.Shelves), (50, .i (st.Shelves.length : Int)), (51, .i s40), (68, .sl 1 eI x60), (69, .i (x60.length : Int)), (70, .i s63.2), (76, .sl 1 eI ((lk x10 x72).getD [])), (77, .i (((lk x10 x72).getD []).length : Int)), (78, .i s77.2)]) (fun (x94 : Int) => [(0, .box (eApiSite s_1)), (1, .box (eApiState st)), (2, .val (.om kApiApart veB x5))]) 3 hm (fun x94 hm => ?_) (fun J95 hm hJ95 => ?_)
 refine C.bnx (C.nx (U.start ?_))
 refine U.ps 2 T rfl ?_
 refine U.done (C.nx ?_)
 exact St.wk (C.next hm) (Wk.f [some 0, some 1, some 2] ⟨bX, bX, vL, trivial⟩)
 refine C.ite rfl hm (fun hb96 hm => ?_) (fun hb96 hm => ?_)
 refine U.start ?_
 refine U.ps 2 T rfl ?_
 refine U.done ?_
 exact St.wk (hJ95 _ hm) (Wk.f [some 0, some 1, some 2] ⟨bX, bX, vL, trivial⟩)
 refine C.skip ?_
 exact St.wk (hJ95 _ hm) (Wk.f [some 0, some 1, some 2] ⟨bX, bX, vL, trivial⟩)
 refine D.beg 9999 [0, 2] [] mix rfl rfl (by kernel_rfl) (by repeat (first | exact NoPanicQ.body | exact NoPanicQ.rnd | refine NoPanicQ.th ?_ | refine NoPanicQ.blk ?_)) (fun hQ hS ws M' => ?_)
 refine D.ps 4 [(0, []), (1, []), (2, []), (3, [])] rfl hQ hS T rfl rfl (by kernel_rfl) ?_
 refine hm.cs (fun hb87 hm => ?_) (fun hb87 hm => ?_)
 refine D.q 4 [] hQ hS rfl (.take 3 true 85 _ hb87 rfl rfl rfl) rfl rfl (by exact Rd.p T rfl) rfl (by kernel_rfl) ?_
 refine D.q 5 [] hQ hS rfl (.take 3 true 85 _ hb87 rfl rfl rfl) rfl rfl (by exact Rd.p T rfl) rfl (by kernel_rfl) ?_
 refine D.q 6 [] hQ hS rfl (.take 3 true 85 _ hb87 rfl rfl rfl) rfl rfl (by exact Rd.p T rfl) rfl (by kernel_rfl) ?_
 refine hm.cs (fun hb88 hm => ?_) (fun hb88 hm => ?_)
 refine D.sq 7 [] hQ hS rfl (.skip 6 false 88 _ hb88 rfl rfl rfl) rfl rfl (by kernel_rfl) ?_
 refine D.sq 8 [] hQ hS rfl (.skip 6 false 88 _ hb88 rfl rfl rfl) rfl rfl (by kernel_rfl) ?_
 refine D.sq 9 [] hQ hS rfl (.skip 6 false 88 _ hb88 rfl rfl rfl) rfl rfl (by kernel_rfl) ?_
 refine D.q 10 [] hQ hS rfl (.take 3 true 85 _ hb87 rfl rfl rfl) rfl rfl (by exact Rd.pk rfl rfl hb88 rfl) rfl (by kernel_rfl) ?_
 refine D.q 11 [] hQ hS rfl (.none rfl) rfl rfl (by exact Rd.pk rfl rfl hb87 rfl) rfl (by kernel_rfl) ?_
 refine D.ps 1 [(12, [])] rfl hQ hS T rfl rfl (by kernel_rfl) ?_
 refine D.q 13 [] hQ hS rfl (.take 12 true 94 _ rfl rfl rfl rfl) rfl rfl (by exact Rd.p T rfl) rfl (by kernel_rfl) ?_
 refine D.q 14 [] hQ hS rfl (.take 12 true 94 _ rfl rfl rfl rfl) rfl rfl (by exact Rd.l T rfl rfl rfl) rfl (by kernel_rfl) ?_
 refine D.q 15 [] hQ hS rfl (.take 12 true 94 _ rfl rfl rfl rfl) rfl rfl (by exact Rd.p T rfl) rfl (by kernel_rfl) ?_
 refine D.q 17 [] hQ hS rfl (.take 12 true 94 _ rfl rfl rfl rfl) rfl rfl (by exact Rd.l T rfl rfl rfl) rfl (by kernel_rfl) ?_
 refine D.q 18 [] hQ hS rfl (.take 12 true 94 _ rfl rfl rfl rfl) rfl rfl (by exact Rd.p T rfl) rfl (by kernel_rfl) ?_
 refine D.e 16 rfl (.take 12 true 94 _ rfl rfl rfl rfl) (by exact Eff.k (T_rules_Class s_1 s40 _ hm) en12 rfl rfl rfl (.eq rfl) (fun _ _ => ⟨(.v _), trivial⟩)) (by kernel_rfl) rfl rfl (fun x89' hm => ?_)
 obtain ⟨x89⟩ := x89'
 refine D.e 19 rfl (.take 12 true 94 _ rfl rfl rfl rfl) (by exact Eff.k (T_rules_Class s_1 x84 _ hm) en12 rfl rfl rfl (.eq rfl) (fun _ _ => ⟨(.v _), trivial⟩)) (by kernel_rfl) rfl rfl (fun x90' hm => ?_)
 obtain ⟨x90⟩ := x90'
 refine D.q 20 [] hQ hS rfl (.take 12 true 94 _ rfl rfl rfl rfl) rfl rfl (by exact Rd.p T rfl) rfl (by kernel_rfl) ?_
 refine D.q 21 [] hQ hS rfl (.take 12 true 94 _ rfl rfl rfl rfl) rfl rfl (by exact Rd.lk T (ke := kApiApart) (ve := veB) (xs := x5) (z0 := false) (x := ({ A := x89, B := x90 : ApiApart })) rfl rfl kt73 zt4 (fun _ => rfl) rfl (.o rfl) rfl rfl rfl) rfl (by kernel_rfl) ?_
 refine D.q 22 [] hQ hS rfl (.none rfl) rfl rfl (by exact Rd.pk rfl rfl rfl rfl) rfl (by kernel_rfl) ?_
 refine D.done (by kernel_rfl) ?_
 exact St.wk (hJ86 _ hm) (Wk.f [some 0, some 1, some 2] ⟨bX, bX, vL, trivial⟩)
 refine D.q 7 [] hQ hS rfl (.take 6 false 88 _ hb88 rfl rfl rfl) rfl rfl (by exact Rd.p T rfl) rfl (by kernel_rfl) ?_
 refine D.q 8 [] hQ hS rfl (.take 6 false 88 _ hb88 rfl rfl rfl) rfl rfl (by exact Rd.p T rfl) rfl (by kernel_rfl) ?_
 refine D.q 9 [] hQ hS rfl (.take 6 false 88 _ hb88 rfl rfl rfl) rfl rfl (by exact Rd.p T rfl) rfl (by kernel_rfl) ?_
 refine D.q 10 [] hQ hS rfl (.take 3 true 85 _ hb87 rfl rfl rfl) rfl rfl (by exact Rd.pk' rfl rfl hb88 rfl) rfl (by kernel_rfl) ?_
 refine D.q 11 [] hQ hS rfl (.none rfl) rfl rfl (by exact Rd.pk rfl rfl hb87 rfl) rfl (by kernel_rfl) ?_
 refine D.ps 1 [(12, [])] rfl hQ hS T rfl rfl (by kernel_rfl) ?_
 refine hm.cs (fun hb91 hm => ?_) (fun hb91 hm => ?_)
 refine D.q 13 [] hQ hS rfl (.take 12 true 94 _ hb91 rfl rfl rfl) rfl rfl (by exact Rd.p T rfl) rfl (by kernel_rfl) ?_
 refine D.q 14 [] hQ hS rfl (.take 12 true 94 _ hb91 rfl rfl rfl) rfl rfl (by exact Rd.l T rfl rfl rfl) rfl (by kernel_rfl) ?_
 refine D.q 15 [] hQ hS rfl (.take 12 true 94 _ hb91 rfl rfl rfl) rfl rfl (by exact Rd.p T rfl) rfl (by kernel_rfl) ?_
 refine D.q 17 [] hQ hS rfl (.take 12 true 94 _ hb91 rfl rfl rfl) rfl rfl (by exact Rd.l T rfl rfl rfl) rfl (by kernel_rfl) ?_
 refine D.q 18 [] hQ hS rfl (.take 12 true 94 _ hb91 rfl rfl rfl) rfl rfl (by exact Rd.p T rfl) rfl (by kernel_rfl) ?_
 refine D.e 16 rfl (.take 12 true 94 _ hb91 rfl rfl rfl) (by exact Eff.k (T_rules_Class s_1 s40 _ hm) en12 rfl rfl rfl (.eq rfl) (fun _ _ => ⟨(.v _), trivial⟩)) (by kernel_rfl) rfl rfl (fun x92' hm => ?_)
 obtain ⟨x92⟩ := x92'
 refine D.e 19 rfl (.take 12 true 94 _ hb91 rfl rfl rfl) (by exact Eff.k (T_rules_Class s_1 x84 _ hm) en12 rfl rfl rfl (.eq rfl) (fun _ _ => ⟨(.v _), trivial⟩)) (by kernel_rfl) rfl rfl (fun x93' hm => ?_)
 obtain ⟨x93⟩ := x93'
 refine D.q 20 [] hQ hS rfl (.take 12 true 94 _ hb91 rfl rfl rfl) rfl rfl (by exact Rd.p T rfl) rfl (by kernel_rfl) ?_
 refine D.q 21 [] hQ hS rfl (.take 12 true 94 _ hb91 rfl rfl rfl) rfl rfl (by exact Rd.lk T (ke := kApiApart) (ve := veB) (xs := x5) (z0 := false) (x := ({ A := x92, B := x93 : ApiApart })) rfl rfl kt73 zt4 (fun _ => rfl) rfl (.o rfl) rfl rfl rfl) rfl (by kernel_rfl) ?_
 refine D.q 22 [] hQ hS rfl (.none rfl) rfl rfl (by exact Rd.pk rfl rfl hb91 rfl) rfl (by kernel_rfl) ?_
 refine D.done (by kernel_rfl) ?_
 exact St.wk (hJ86 _ hm) (Wk.f [some 0, some 1, some 2] ⟨bX, bX, vL, trivial⟩)
 refine D.sq 13 [] hQ hS rfl (.skip 12 true 94 _ hb91 rfl rfl rfl) rfl rfl (by kernel_rfl) ?_
 refine D.sq 14 [] hQ hS rfl (.skip 12 true 94 _ hb91 rfl rfl rfl) rfl rfl (by kernel_rfl) ?_
 refine D.sq 15 [] hQ hS rfl (.skip 12 true 94 _ hb91 rfl rfl rfl) rfl rfl (by kernel_rfl) ?_
 refine D.sq 16 [] hQ hS rfl (.skip 12 true 94 _ hb91 rfl rfl rfl) rfl rfl (by kernel_rfl) ?_
 refine D.sq 17 [] hQ hS rfl (.skip 12 true 94 _ hb91 rfl rfl rfl) rfl rfl (by kernel_rfl) ?_
 refine D.sq 18 [] hQ hS rfl (.skip 12 true 94 _ hb91 rfl rfl rfl) rfl rfl (by kernel_rfl) ?_
 refine D.sq 19 [] hQ hS rfl (.skip 12 true 94 _ hb91 rfl rfl rfl) rfl rfl (by kernel_rfl) ?_
 refine D.sq 20 [] hQ hS rfl (.skip 12 true 94 _ hb91 rfl rfl rfl) rfl rfl (by kernel_rfl) ?_
 refine D.sq 21 [] hQ hS rfl (.skip 12 true 94 _ hb91 rfl rfl rfl) rfl rfl (by kernel_rfl) ?_
 refine D.q 22 [] hQ hS rfl (.none rfl) rfl rfl (by exact Rd.pk' rfl rfl hb91 rfl) rfl (by kernel_rfl) ?_
 refine D.done (by kernel_rfl) ?_
 exact St.wk (hJ86 _ hm) (Wk.f [some 0, some 1, some 2] ⟨bX, bX, vL, trivial⟩)
 refine D.sq 4 [] hQ hS rfl (.skip 3 true 85 _ hb87 rfl rfl rfl) rfl rfl (by kernel_rfl) ?_
 refine D.sq 5 [] hQ hS rfl (.skip 3 true 85 _ hb87 rfl rfl rfl) rfl rfl (by kernel_rfl) ?_
 refine D.sq 6 [] hQ hS rfl (.skip 3 true 85 _ hb87 rfl rfl rfl) rfl rfl (by kernel_rfl) ?_
 refine D.sq 7 [] hQ hS rfl (.und 6 false 88 rfl rfl rfl) rfl rfl (by kernel_rfl) ?_
 refine D.sq 8 [] hQ hS rfl (.und 6 false 88 rfl rfl rfl) rfl rfl (by kernel_rfl) ?_
 refine D.sq 9 [] hQ hS rfl (.und 6 false 88 rfl rfl rfl) rfl rfl (by kernel_rfl) ?_
 refine D.sq 10 [] hQ hS rfl (.skip 3 true 85 _ hb87 rfl rfl rfl) rfl rfl (by kernel_rfl) ?_
 refine D.q 11 [] hQ hS rfl (.none rfl) rfl rfl (by exact Rd.pk' rfl rfl hb87 rfl) rfl (by kernel_rfl) ?_
 refine D.ps 1 [(12, [])] rfl hQ hS T rfl rfl (by kernel_rfl) ?_
 refine D.sq 13 [] hQ hS rfl (.skip 12 true 94 _ rfl rfl rfl rfl) rfl rfl (by kernel_rfl) ?_
 refine D.sq 14 [] hQ hS rfl (.skip 12 true 94 _ rfl rfl rfl rfl) rfl rfl (by kernel_rfl) ?_
 refine D.sq 15 [] hQ hS rfl (.skip 12 true 94 _ rfl rfl rfl rfl) rfl rfl (by kernel_rfl) ?_
 refine D.sq 16 [] hQ hS rfl (.skip 12 true 94 _ rfl rfl rfl rfl) rfl rfl (by kernel_rfl) ?_
 refine D.sq 17 [] hQ hS rfl (.skip 12 true 94 _ rfl rfl rfl rfl) rfl rfl (by kernel_rfl) ?_
 refine D.sq 18 [] hQ hS rfl (.skip 12 true 94 _ rfl rfl rfl rfl) rfl rfl (by kernel_rfl) ?_
 refine D.sq 19 [] hQ hS rfl (.skip 12 true 94 _ rfl rfl rfl rfl) rfl rfl (by kernel_rfl) ?_
 refine D.sq 20 [] hQ hS rfl (.skip 12 true 94 _ rfl rfl rfl rfl) rfl rfl (by kernel_rfl) ?_
 refine D.sq 21 [] hQ hS rfl (.skip 12 true 94 _ rfl rfl rfl rfl) rfl rfl (by kernel_rfl) ?_
 refine D.q 22 [] hQ hS rfl (.none rfl) rfl rfl (by exact Rd.pk' rfl rfl rfl rfl) rfl (by kernel_rfl) ?_
 refine D.done (by kernel_rfl) ?_
 exact St.wk (hJ86 _ hm) (Wk.f [some 0, some 1, some 2] ⟨bX, bX, vL, trivial⟩)
 refine C.exit (C.ex (C.ex (C.bex ?_)))
 exact St.wk (hJ76 _ hm) (Wk.f [some 0, some 1, some 2] ⟨bX, bX, vL, trivial⟩)
 refine C.exit (C.ex (C.ex (C.bex ?_)))
 exact St.wk (hJ62 _ hm) (Wk.f [some 0, some 1, some 2] ⟨bX, bX, vL, trivial⟩)
 refine U.start ?_
 refine U.ps 2 T rfl ?_
 refine U.e rfl (.none rfl) (by exact Eff.k (T_rules_Class s_1 s40 _ hm) en12 rfl rfl rfl (.eq rfl) (fun _ _ => ⟨(.v _), trivial⟩)) (fun x54' hm => ?_)
 obtain ⟨x54⟩ := x54'
 refine U.ps 2 T rfl ?_
 refine hm.cs (fun hb55 hm => ?_) (fun hb55 hm => ?_)
 refine U.sks 4 4 false 60 hb55 rfl rfl rfl ?_
 refine U.r rfl (.none rfl) rfl rfl (by exact Rd.pk rfl rfl hb55 rfl) ?_
 refine U.done ?_
 exact St.wk (hJ53 _ hm) (Wk.f [some 0, some 1, some 2] ⟨bX, bX, vL, trivial⟩)
 refine U.pg 2 4 false 60 hb55 T rfl rfl rfl rfl ?_
 refine U.e rfl (.take 4 false 60 _ hb55 rfl rfl rfl) (by exact Eff.k (T_rules_Carried st s40 _ hm) en14 rfl rfl rfl (.eq rfl) (fun _ _ => ⟨(.v _), trivial⟩)) (fun x56' hm => ?_)
 obtain ⟨x56⟩ := x56'
 refine U.pg 1 4 false 60 hb55 T rfl rfl rfl rfl ?_
 refine U.r rfl (.none rfl) rfl rfl (by exact Rd.pk' rfl rfl hb55 rfl) ?_
 refine U.done ?_
 exact St.wk (hJ53 _ hm) (Wk.f [some 0, some 1, some 2] ⟨bX, bX, vL, trivial⟩)
 refine C.exit (C.ex (C.ex (C.bex ?_)))
 exact St.wk (hJ39 _ hm) (Wk.mk' [] rfl rfl trivial trivial rfl)
 refine C.block ?_
 refine St.wk (C.loop (fun (s12 : List (Int × List Int) × Int) => [(2, .p 0 0), (3, .p 1 0), (7, .o 2), (8, .o 3), (22, .sl 1 eI st.Shelves), (23, .i (st.Shelves.length : Int)), (24, .i s12.2)]) (fun (s12 : List (Int × List Int) × Int) => [(0, .box (eApiSite s_1)), (1, .box (eApiState st)), (2, .val (.om kApiApart veB x5)), (3, .val (.om kI veOeI s12.1))]) hm (fun s12 Y13 hm => ?_)) (Wk.f [some 0, some 1, some 2, some 3] ⟨bX, bX, vL, vL, trivial⟩)
 refine C.seq (U.start ?_)
 refine U.ps 1 T rfl ?_
 refine U.done (C.nx (C.seq ?_))
 refine C.ite rfl hm (fun hb16 hm => ?_) (fun hb16 hm => ?_)
 refine C.skip (C.nx (C.seq (C.block (C.seq (U.start ?_)))))
 refine U.ps 1 T rfl ?_
 obtain ⟨x19, hx19, hm⟩ := hm
 refine U.r rfl (.none rfl) rfl rfl (by exact Rd.ix T rfl rfl rfl rfl rfl rfl hx19) ?_
 refine U.ps 3 T rfl ?_
 refine U.done (C.nx (C.seq ?_))
 refine C.jn (fun (x20 : Bool) => [(2, .p 0 0), (3, .p 1 0), (7, .o 2), (8, .o 3), (9, .i s12.2), (10, .i x19), (22, .sl 1 eI st.Shelves), (23, .i (st.Shelves.length : Int)), (24, .i s12.2), (38, .b x20)]) (fun (x20 : Bool) => [(0, .box (eApiSite s_1)), (1, .box (eApiState st)), (2, .val (.om kApiApart veB x5)), (3, .val (.om kI veOeI s12.1))]) 4 hm (fun x20 hm => ?_) (fun J21 hm hJ21 => ?_)
 refine C.nx ?_
 refine C.jn (fun (x25 : List (Int × List Int)) => [(2, .p 0 0), (3, .p 1 0), (7, .o 2), (8, .o 3), (22, .sl 1 eI st.Shelves), (23, .i (st.Shelves.length : Int)), (24, .i s12.2)]) (fun (x25 : List (Int × List Int)) => [(0, .box (eApiSite s_1)), (1, .box (eApiState st)), (2, .val (.om kApiApart veB x5)), (3, .val (.om kI veOeI x25))]) 4 hm (fun x25 hm => ?_) (fun J26 hm hJ26 => ?_)
 refine C.bnx (C.nx (U.start ?_))
 refine U.ps 2 T rfl ?_
 refine U.done (C.nx ?_)
 exact St.wk (C.next hm) (Wk.f [some 0, some 1, some 2, some 3] ⟨bX, bX, vL, vL, trivial⟩)
 refine C.ite rfl hm (fun hb27 hm => ?_) (fun hb27 hm => ?_)
 refine C.jn (fun (x28 : List (Int × List Int)) => [(2, .p 0 0), (3, .p 1 0), (7, .o 2), (8, .o 3), (22, .sl 1 eI st.Shelves), (23, .i (st.Shelves.length : Int)), (24, .i s12.2)]) (fun (x28 : List (Int × List Int)) => [(0, .box (eApiSite s_1)), (1, .box (eApiState st)), (2, .val (.om kApiApart veB x5)), (3, .val (.om kI veOeI x28))]) 4 hm (fun x28 hm => ?_) (fun J29 hm hJ29 => ?_)
 exact St.wk (hJ26 _ hm) (Wk.f [some 0, some 1, some 2, some 3] ⟨bX, bX, vL, vL, trivial⟩)
 refine U.start ?_
 refine U.ps 4 T rfl ?_
 rcases lk_cases s12.1 x19 with ⟨x30, hx31⟩ | hx31
 replace hm := hm.1 x30 hx31
 refine St.lendm (l := 3) rfl hx31 rfl ?_
 refine U.r rfl (.none rfl) rfl rfl (by exact Rd.lkl T rfl rfl kt3 rfl rfl (.head _) rfl rfl rfl rfl) ?_
 refine U.ps 1 T rfl ?_
 refine U.e1 rfl (.none rfl) (by exact Eff1.bs T (enc := eI) (xs := ([s12.2] : List Int)) rfl rfl rfl rfl rfl rfl rfl rfl rfl rfl (fun _ _ => rfl) rfl rfl) ?_
 obtain ⟨hx32, hm⟩ := hm
 refine U.e1 rfl (.none rfl) (by exact Eff1.ap T rfl rfl rfl rfl rfl rfl (.inr ⟨_, rfl, rfl⟩) rfl rfl rfl (fun _ => rfl) rfl hx32) ?_
 refine U.e1 rfl (.none rfl) (by exact Eff1.mul T (x := x19) rfl rfl kt3 rfl rfl (fun _ h => nomatch h) rfl rfl rfl rfl) ?_
 refine U.done ?_
 refine St.putm (l := 3) (l' := 6) (y := (x30 ++ ([s12.2] : List Int))) rfl rfl rfl rfl ?_
 exact St.wk (hJ29 _ hm) (Wk.f [some 0, some 1, some 2, some 3] ⟨bX, bX, vL, vL, trivial⟩)
 replace hm := hm.2 hx31
 refine U.r rfl (.none rfl) rfl rfl (by exact Rd.lkn (z := .slice none 0 0) T rfl rfl kt3 (fun w => by kernel_rfl) rfl rfl hx31 rfl rfl) ?_
 refine U.ps 1 T rfl ?_
 refine U.e1 rfl (.none rfl) (by exact Eff1.bs T (enc := eI) (xs := ([s12.2] : List Int)) rfl rfl rfl rfl rfl rfl rfl rfl rfl rfl (fun _ _ => rfl) rfl rfl) ?_
 obtain ⟨hx33, hm⟩ := hm
 refine U.e1 rfl (.none rfl) (by exact Eff1.apn T rfl rfl rfl rfl rfl (.inr ⟨_, rfl, rfl⟩) rfl rfl rfl (fun _ => rfl) rfl (fun _ => rfl) hx33) ?_
 refine U.e1 rfl (.none rfl) (by exact Eff1.mun T (x := x19) [] rfl rfl kt3 rfl rfl hx31 rfl rfl rfl rfl) ?_
 refine U.done ?_
 refine St.putm (l := 3) (l' := 5) (y := ([s12.2] : List Int)) rfl rfl rfl rfl ?_
 exact St.wk (hJ29 _ hm) (Wk.f [some 0, some 1, some 2, some 3] ⟨bX, bX, vL, vL, trivial⟩)
 refine C.skip ?_
 exact St.wk (hJ26 _ hm) (Wk.f [some 0, some 1, some 2, some 3] ⟨bX, bX, vL, vL, trivial⟩)
 refine U.start ?_
 refine U.ps 2 T rfl ?_
 refine U.e rfl (.none rfl) (by exact Eff.k (T_rules_Class s_1 s12.2 _ hm) en12 rfl rfl rfl (.eq rfl) (fun _ _ => ⟨(.v _), trivial⟩)) (fun x22' hm => ?_)
 obtain ⟨x22⟩ := x22'
 refine U.ps 2 T rfl ?_
 refine hm.cs (fun hb23 hm => ?_) (fun hb23 hm => ?_)
 refine U.sks 4 4 true 33 (ntF hb23) rfl rfl rfl ?_
 refine U.r rfl (.none rfl) rfl rfl (by exact Rd.pk' rfl rfl (ntF hb23) rfl) ?_
 refine U.done ?_
 exact St.wk (hJ21 _ hm) (Wk.f [some 0, some 1, some 2, some 3] ⟨bX, bX, vL, vL, trivial⟩)
 refine U.pg 2 4 true 33 (ntT hb23) T rfl rfl rfl rfl ?_
 refine U.e rfl (.take 4 true 33 _ (ntT hb23) rfl rfl rfl) (by exact Eff.k (T_rules_Carried st s12.2 _ hm) en14 rfl rfl rfl (.eq rfl) (fun _ _ => ⟨(.v _), trivial⟩)) (fun x24' hm => ?_)
 obtain ⟨x24⟩ := x24'
 refine U.pg 1 4 true 33 (ntT hb23) T rfl rfl rfl rfl ?_
 refine U.r rfl (.none rfl) rfl rfl (by exact Rd.pk rfl rfl (ntT hb23) rfl) ?_
 refine U.done ?_
 exact St.wk (hJ21 _ hm) (Wk.f [some 0, some 1, some 2, some 3] ⟨bX, bX, vL, vL, trivial⟩)
 refine C.exit (C.ex (C.ex (C.bex ?_)))
 exact St.wk (hJ11 _ hm) (Wk.f [some 0, some 1, some 2, some 3] ⟨bX, bX, vL, vL, trivial⟩)
theorem T_cmp_isNaN_int (x_1 : Int) (post : Bool → Prop) (hm : V_cmp_isNaN_int x_1 post) :
    Tr Try.prog 97 [.i x_1] [] 0 (fun A H' k => ∃ y, post y ∧ A = (.b y) ∧ H' = [] ∧ k = 0) := by
 refine Tr.intro (n := 6) Try.func97 rfl Try.ntmps97 rfl (fun w0 ok F β hβ => ?_)
 unfold V_cmp_isNaN_int at hm
 refine C.seq (U.start ?_)
 refine U.ps 1 T rfl ?_
 refine U.done (C.nx (C.seq (U.start ?_)))
 refine U.ps 4 T rfl ?_
 refine U.done (C.nx (C.ret ?_))
 exact C.f0 T (rs' := [.b (x_1 != x_1)]) hβ ⟨(x_1 != x_1), hm, rfl, rfl, rfl⟩
theorem T_cmp_Less_int (x_1 : Int) (y_1 : Int) (post : Bool → Prop) (hm : V_cmp_Less_int x_1 y_1 post) :
    Tr Try.prog 83 [.i x_1, .i y_1] [] 0 (fun A H' k => ∃ y, post y ∧ A = (.b y) ∧ H' = [] ∧ k = 0) := by
 refine Tr.intro (n := 17) Try.func83 rfl Try.ntmps83 rfl (fun w0 ok F β hβ => ?_)
 unfold V_cmp_Less_int at hm
 refine C.seq (U.start ?_)
 refine U.ps 1 T rfl ?_
 refine U.done (C.nx (C.seq ?_))
 refine C.jn (fun (x3 : Bool) => [(4, .b x3)]) (fun (x3 : Bool) => []) 0 hm (fun x3 hm => ?_) (fun J4 hm hJ4 => ?_)
 refine C.nx (C.ret ?_)
 exact C.f0 T (rs' := [.b x3]) hβ ⟨x3, hm, rfl, rfl, rfl⟩
 refine U.start ?_
 refine U.ps 1 T rfl ?_
 refine U.e rfl (.none rfl) (by exact Eff.k (T_cmp_isNaN_int x_1 _ hm) en97 rfl rfl rfl (.eq rfl) (fun _ _ => ⟨(.v _), trivial⟩)) (fun x5' hm => ?_)
 obtain ⟨x5⟩ := x5'
 refine U.ps 1 T rfl ?_
 refine hm.cs (fun hb6 hm => ?_) (fun hb6 hm => ?_)
 refine U.pg 1 2 true 7 hb6 T rfl rfl rfl rfl ?_
 refine U.e rfl (.take 2 true 7 _ hb6 rfl rfl rfl) (by exact Eff.k (T_cmp_isNaN_int y_1 _ hm) en97 rfl rfl rfl (.eq rfl) (fun _ _ => ⟨(.v _), trivial⟩)) (fun x7' hm => ?_)
 obtain ⟨x7⟩ := x7'
 refine U.pg 1 2 true 7 hb6 T rfl rfl rfl rfl ?_
 refine U.r rfl (.none rfl) rfl rfl (by exact Rd.pk rfl rfl hb6 rfl) ?_
 refine U.ps 1 T rfl ?_
 refine hm.cs (fun hb8 hm => ?_) (fun hb8 hm => ?_)
 refine U.pg 3 7 false 12 (ntF hb8) T rfl rfl rfl rfl ?_
 refine U.r rfl (.none rfl) rfl rfl (by exact Rd.pk' rfl rfl (ntF hb8) rfl) ?_
 refine U.ps 1 T rfl ?_
 refine U.done ?_
 exact St.wk (hJ4 _ hm) (Wk.e)
 refine U.sks 3 7 false 12 (ntT hb8) rfl rfl rfl ?_
 refine U.r rfl (.none rfl) rfl rfl (by exact Rd.pk rfl rfl (ntT hb8) rfl) ?_
 refine U.ps 1 T rfl ?_
 refine U.done ?_
 exact St.wk (hJ4 _ hm) (Wk.e)
 refine U.sks 3 2 true 7 hb6 rfl rfl rfl ?_
 refine U.r rfl (.none rfl) rfl rfl (by exact Rd.pk' rfl rfl hb6 rfl) ?_
 refine U.ps 1 T rfl ?_
 refine U.pg 3 7 false 12 rfl T rfl rfl rfl rfl ?_
 refine U.r rfl (.none rfl) rfl rfl (by exact Rd.pk' rfl rfl rfl rfl) ?_
 refine U.ps 1 T rfl ?_
 refine U.done ?_
 exact St.wk (hJ4 _ hm) (Wk.e)
theorem T_slices_isNaN_int (x_1 : Int) (post : Bool → Prop) (hm : V_slices_isNaN_int x_1 post) :
    Tr Try.prog 84 [.i x_1] [] 0 (fun A H' k => ∃ y, post y ∧ A = (.b y) ∧ H' = [] ∧ k = 0) := by
 refine Tr.intro (n := 6) Try.func84 rfl Try.ntmps84 rfl (fun w0 ok F β hβ => ?_)
 unfold V_slices_isNaN_int at hm
 refine C.seq (U.start ?_)
 refine U.ps 1 T rfl ?_
 refine U.done (C.nx (C.seq (U.start ?_)))
 refine U.ps 4 T rfl ?_
 refine U.done (C.nx (C.ret ?_))
 exact C.f0 T (rs' := [.b (x_1 != x_1)]) hβ ⟨(x_1 != x_1), hm, rfl, rfl, rfl⟩
theorem T_slices_BinarySearch_int_int (x_1 : List Int) (target : Int) (post : (Int × Bool) → Prop) (hm : V_slices_BinarySearch_int_int x_1 target post) :
    Tr Try.prog 54 [.sl 1 eI x_1, .i target] [] 0 (fun A H' k => ∃ y, post y ∧ A = (.tup [.i y.1, .b y.2]) ∧ H' = [] ∧ k = 0) := by
 refine Tr.intro (n := 54) Try.func54 rfl Try.ntmps54 rfl (fun w0 ok F β hβ => ?_)
 unfold V_slices_BinarySearch_int_int at hm
 refine C.seq (U.start ?_)
 refine U.ps 2 T rfl ?_
 refine U.done (C.nx (C.seq (U.start ?_)))
 refine U.ps 3 T rfl ?_
 refine U.done (C.nx (C.seq (U.start ?_)))
 refine U.ps 3 T rfl ?_
 refine U.done (C.nx (C.seq ?_))
 refine C.jn (fun (x7 : Int) => [(0, .sl 1 eI x_1), (1, .i target), (6, .i (x_1.length : Int)), (7, .i x7)]) (fun (x7 : Int) => []) 0 hm (fun x7 hm => ?_) (fun J8 hm hJ8 => ?_)
 refine C.nx (C.seq ?_)
 refine C.jn (fun (x28 : Bool) => [(4, .i x7), (5, .b x28)]) (fun (x28 : Bool) => []) 0 hm (fun x28 hm => ?_) (fun J29 hm hJ29 => ?_)
 refine C.nx (C.ret ?_)
 exact C.f0 T (rs' := [.i ((x7, x28).1), .b ((x7, x28).2)]) hβ ⟨(x7, x28), hm, rfl, rfl, rfl⟩
 refine U.start ?_
 refine U.ps 5 T rfl ?_
 refine hm.cs (fun hb30 hm => ?_) (fun hb30 hm => ?_)
 refine U.pg 2 4 true 35 hb30 T rfl rfl rfl rfl ?_
 obtain ⟨x31, hx31, hm⟩ := hm
 refine U.r rfl (.take 4 true 35 _ hb30 rfl rfl rfl) rfl rfl (by exact Rd.ix T rfl rfl rfl rfl rfl rfl hx31) ?_
 refine U.pg 4 4 true 35 hb30 T rfl rfl rfl rfl ?_
 refine hm.cs (fun hb32 hm => ?_) (fun hb32 hm => ?_)
 refine U.sks 6 11 false 42 hb32 rfl rfl rfl ?_
 refine U.sku 2 17 true 48 rfl rfl rfl ?_
 refine U.sks 1 11 false 42 hb32 rfl rfl rfl ?_
 refine U.r rfl (.take 4 true 35 _ hb30 rfl rfl rfl) rfl rfl (by exact Rd.pk rfl rfl hb32 rfl) ?_
 refine U.r rfl (.none rfl) rfl rfl (by exact Rd.pk rfl rfl hb30 rfl) ?_
 refine U.ps 2 T rfl ?_
 refine U.done ?_
 exact St.wk (hJ29 _ hm) (Wk.e)
 refine U.pg 2 11 false 42 hb32 T rfl rfl rfl rfl ?_
 refine U.r rfl (.take 11 false 42 _ hb32 rfl rfl rfl) rfl rfl (by exact Rd.ix T rfl rfl rfl rfl rfl rfl hx31) ?_
 refine U.pg 1 11 false 42 hb32 T rfl rfl rfl rfl ?_
 refine U.e rfl (.take 11 false 42 _ hb32 rfl rfl rfl) (by exact Eff.k (T_slices_isNaN_int x31 _ hm) en84 rfl rfl rfl (.eq rfl) (fun _ _ => ⟨(.v _), trivial⟩)) (fun x33' hm => ?_)
 obtain ⟨x33⟩ := x33'
 refine U.pg 1 11 false 42 hb32 T rfl rfl rfl rfl ?_
 refine hm.cs (fun hb34 hm => ?_) (fun hb34 hm => ?_)
 refine U.pg 1 17 true 48 hb34 T rfl rfl rfl rfl ?_
 refine U.e rfl (.take 17 true 48 _ hb34 rfl rfl rfl) (by exact Eff.k (T_slices_isNaN_int target _ hm) en84 rfl rfl rfl (.eq rfl) (fun _ _ => ⟨(.v _), trivial⟩)) (fun x35' hm => ?_)
 obtain ⟨x35⟩ := x35'
 refine U.r rfl (.take 11 false 42 _ hb32 rfl rfl rfl) rfl rfl (by exact Rd.pk rfl rfl hb34 rfl) ?_
 refine U.r rfl (.take 4 true 35 _ hb30 rfl rfl rfl) rfl rfl (by exact Rd.pk' rfl rfl hb32 rfl) ?_
 refine U.r rfl (.none rfl) rfl rfl (by exact Rd.pk rfl rfl hb30 rfl) ?_
 refine U.ps 2 T rfl ?_
 refine U.done ?_
 exact St.wk (hJ29 _ hm) (Wk.e)
 refine U.sks 2 17 true 48 hb34 rfl rfl rfl ?_
 refine U.r rfl (.take 11 false 42 _ hb32 rfl rfl rfl) rfl rfl (by exact Rd.pk' rfl rfl hb34 rfl) ?_
 refine U.r rfl (.take 4 true 35 _ hb30 rfl rfl rfl) rfl rfl (by exact Rd.pk' rfl rfl hb32 rfl) ?_
 refine U.r rfl (.none rfl) rfl rfl (by exact Rd.pk rfl rfl hb30 rfl) ?_
 refine U.ps 2 T rfl ?_
 refine U.done ?_
 exact St.wk (hJ29 _ hm) (Wk.e)
 refine U.sks 7 4 true 35 hb30 rfl rfl rfl ?_
 refine U.sku 6 11 false 42 rfl rfl rfl ?_
 refine U.sku 2 17 true 48 rfl rfl rfl ?_
 refine U.sku 1 11 false 42 rfl rfl rfl ?_
 refine U.sks 1 4 true 35 hb30 rfl rfl rfl ?_
 refine U.r rfl (.none rfl) rfl rfl (by exact Rd.pk' rfl rfl hb30 rfl) ?_
 refine U.ps 2 T rfl ?_
 refine U.done ?_
 exact St.wk (hJ29 _ hm) (Wk.e)
 refine C.block ?_
 refine St.wk (C.loop (fun (s9 : Int × Int) => [(0, .sl 1 eI x_1), (1, .i target), (6, .i (x_1.length : Int)), (7, .i s9.1), (8, .i s9.2)]) (fun (s9 : Int × Int) => []) hm (fun s9 Y10 hm => ?_)) (Wk.e)
 refine C.seq (C.seq (U.start ?_))
 refine U.ps 3 T rfl ?_
 refine U.done (C.nx ?_)
 refine C.ite rfl hm (fun hb13 hm => ?_) (fun hb13 hm => ?_)
 refine C.skip (C.nx (C.block (C.seq (U.start ?_))))
 refine U.ps 4 T rfl ?_
 refine U.r rfl (.none rfl) rfl rfl (by exact Rd.sh rfl rfl rfl rfl (by decide)) ?_
 refine U.ps 2 T rfl ?_
 refine U.done (C.nx (C.seq (U.start ?_)))
 refine U.ps 2 T rfl ?_
 obtain ⟨x19, hx19, hm⟩ := hm
 refine U.r rfl (.none rfl) rfl rfl (by exact Rd.ix T rfl rfl rfl rfl rfl rfl hx19) ?_
 refine U.ps 2 T rfl ?_
 refine U.e rfl (.none rfl) (by exact Eff.k (T_cmp_Less_int x19 target _ hm) en83 rfl rfl rfl (.eq rfl) (fun _ _ => ⟨(.v _), trivial⟩)) (fun x20' hm => ?_)
 obtain ⟨x20⟩ := x20'
 refine U.done (C.nx ?_)
 refine C.jn (fun (x21 : Int × Int) => [(0, .sl 1 eI x_1), (1, .i target), (6, .i (x_1.length : Int)), (7, .i x21.1), (8, .i x21.2)]) (fun (x21 : Int × Int) => []) 0 hm (fun x21 hm => ?_) (fun J22 hm hJ22 => ?_)
 refine C.bnx (C.nx ?_)
 exact St.wk (C.next hm) (Wk.e)
 refine C.ite rfl hm (fun hb23 hm => ?_) (fun hb23 hm => ?_)
 refine U.start ?_
 refine U.ps 3 T rfl ?_
 refine U.done ?_
 exact St.wk (hJ22 _ hm) (Wk.e)
 refine U.start ?_
 refine U.ps 2 T rfl ?_
 refine U.done ?_
 exact St.wk (hJ22 _ hm) (Wk.e)
 refine C.exit (C.ex (C.ex (C.bex ?_)))
 exact St.wk (hJ8 _ hm) (Wk.e)
theorem T_rules_ZoneOf_1 (z : ApiZone) (c0 : Int) (post : Bool → Prop) (hm : V_rules_ZoneOf_1 z c0 post) :
    Tr Try.prog 53 [.agg (eApiZone z), .rp [.i c0]] [] 0 (fun A H' k => ∃ y, post y ∧ A = (.b y) ∧ H' = [] ∧ k = 0) := by
 refine Tr.intro (n := 14) Try.func53 rfl Try.ntmps53 rfl (fun w0 ok F β hβ => ?_)
 unfold V_rules_ZoneOf_1 at hm
 refine C.seq (U.start ?_)
 refine U.e1 rfl (.none rfl) (by exact Eff1.box rfl rfl rfl rfl rfl) ?_
 refine U.ps 1 T rfl ?_
 refine U.done (C.nx (C.seq (U.start ?_)))
 refine U.ps 3 T rfl ?_
 refine U.e rfl (.none rfl) (by exact Eff.k (T_slices_BinarySearch_int_int z.Cells c0 _ hm) en54 rfl rfl rfl (.eq rfl) (fun _ _ => ⟨(.tup (.cons (.v _) (.cons (.v _) .nil))), trivial⟩)) (fun x5' hm => ?_)
 obtain ⟨x5⟩ := x5'
 refine U.ps 5 T rfl ?_
 refine U.done (C.nx (C.seq (U.start ?_)))
 refine U.ps 2 T rfl ?_
 refine U.done (C.nx (C.ret ?_))
 exact C.f0 T (rs' := [.b x5.2]) hβ ⟨x5.2, hm, rfl, rfl, rfl⟩
theorem T_slices_IndexFunc_api_Zone_api_Zone__rules_ZoneOf_1 (s_1 : List ApiZone) (f_c0 : Int) (post : Int → Prop) (hm : V_slices_IndexFunc_api_Zone_api_Zone__rules_ZoneOf_1 s_1 f_c0 post) :
    Tr Try.prog 52 [.sl 5 eApiZone s_1, .fn (.func 53) [] [.rp [.i f_c0]]] [] 0 (fun A H' k => ∃ y, post y ∧ A = (.i y) ∧ H' = [] ∧ k = 0) := by
 refine Tr.intro (n := 19) Try.func52 rfl Try.ntmps52 rfl (fun w0 ok F β hβ => ?_)
 unfold V_slices_IndexFunc_api_Zone_api_Zone__rules_ZoneOf_1 at hm
 refine C.seq (U.start ?_)
 refine U.ps 1 T rfl ?_
 refine U.done (C.nx (C.seq (C.seq (U.start ?_))))
 refine U.ps 3 T rfl ?_
 refine U.done (C.nx ?_)
 refine C.jn (fun (x5 : Unit) => []) (fun (x5 : Unit) => []) 0 hm (fun x5 hm => ?_) (fun J6 hm hJ6 => ?_)
 refine C.nx (C.seq (U.start ?_))
 refine U.ps 1 T rfl ?_
 refine U.done (C.nx (C.ret ?_))
 exact C.f0 T (rs' := [.i (-1)]) hβ ⟨(-1), hm, rfl, rfl, rfl⟩
 refine C.block ?_
 refine St.wk (C.loop (fun (s7 : Int) => [(0, .sl 5 eApiZone s_1), (1, .fn (.func 53) [] [.rp [.i f_c0]]), (7, .i (s_1.length : Int)), (8, .i s7)]) (fun (s7 : Int) => []) hm (fun s7 Y8 hm => ?_)) (Wk.e)
 refine C.seq (U.start ?_)
 refine U.ps 1 T rfl ?_
 refine U.done (C.nx (C.seq ?_))
 refine C.ite rfl hm (fun hb11 hm => ?_) (fun hb11 hm => ?_)
 refine C.skip (C.nx (C.seq (C.block (C.seq (U.start ?_)))))
 refine U.ps 2 T rfl ?_
 refine U.done (C.nx (C.seq (U.start ?_)))
 refine U.ps 3 T rfl ?_
 obtain ⟨x16, hx16, hm⟩ := hm
 refine U.r rfl (.none rfl) rfl rfl (by exact Rd.ix T rfl rfl rfl rfl rfl rfl hx16) ?_
 refine U.ps 1 T rfl ?_
 refine U.e rfl (.none rfl) (by exact Eff.k (T_rules_ZoneOf_1 x16 f_c0 _ hm) en53 rfl rfl rfl (.eq rfl) (fun _ _ => ⟨(.v _), trivial⟩)) (fun x17' hm => ?_)
 obtain ⟨x17⟩ := x17'
 refine U.done (C.nx ?_)
 refine C.ite rfl hm (fun hb18 hm => ?_) (fun hb18 hm => ?_)
 refine C.seq (U.start ?_)
 refine U.ps 2 T rfl ?_
 refine U.done (C.nx (C.ret (C.brt (C.rt (C.rt (C.brt (C.rt ?_)))))))
 exact C.f0 T (rs' := [.i s7]) hβ ⟨s7, hm, rfl, rfl, rfl⟩
 refine C.skip (C.bnx (C.nx (U.start ?_)))
 refine U.ps 2 T rfl ?_
 refine U.done (C.nx ?_)
 exact St.wk (C.next hm) (Wk.e)
 refine C.exit (C.ex (C.ex (C.bex ?_)))
 exact St.wk (hJ6 _ hm) (Wk.mk' [] rfl rfl trivial trivial rfl)
theorem T_rules_ZoneOf (s_1 : ApiSite) (c : Int) (post : Int → Prop) (hm : V_rules_ZoneOf s_1 c post) :
    Tr Try.prog 20 [.agg (eApiSite s_1), .i c] [] 0 (fun A H' k => ∃ y, post y ∧ A = (.i y) ∧ H' = [] ∧ k = 0) := by
 refine Tr.intro (n := 9) Try.func20 rfl Try.ntmps20 rfl (fun w0 ok F β hβ => ?_)
 unfold V_rules_ZoneOf at hm
 refine C.seq (U.start ?_)
 refine U.e1 rfl (.none rfl) (by exact Eff1.box rfl rfl rfl rfl rfl) ?_
 refine U.e1 rfl (.none rfl) (by exact Eff1.box rfl rfl rfl rfl rfl) ?_
 refine U.ps 1 T rfl ?_
 refine U.done (C.nx (C.seq (U.start ?_)))
 refine U.ps 3 T rfl ?_
 refine U.e rfl (.none rfl) (by exact Eff.k (T_slices_IndexFunc_api_Zone_api_Zone__rules_ZoneOf_1 s_1.Zones c _ hm) en52 rfl rfl rfl (.cons (.eq rfl) (.cons (.fn (.eq rfl) (.cons (.fzp rfl rfl rfl rfl (.eq rfl) rfl) .nil)) .nil)) (fun _ _ => ⟨(.v _), trivial⟩)) (fun x5' hm => ?_)
 obtain ⟨x5⟩ := x5'
 refine U.ps 1 T rfl ?_
 refine U.done (C.nx (C.ret ?_))
 exact C.f0 T (rs' := [.i x5]) hβ ⟨x5, hm, rfl, rfl, rfl⟩
theorem T_rules_Speed (s_1 : ApiSite) (c : Int) (post : Int → Prop) (hm : V_rules_Speed s_1 c post) :
    Tr Try.prog 24 [.agg (eApiSite s_1), .i c] [] 0 (fun A H' k => ∃ y, post y ∧ A = (.i y) ∧ H' = [] ∧ k = 0) := by
 refine Tr.intro (n := 17) Try.func24 rfl Try.ntmps24 rfl (fun w0 ok F β hβ => ?_)
 unfold V_rules_Speed at hm
 refine C.seq (U.start ?_)
 refine U.e1 rfl (.none rfl) (by exact Eff1.box rfl rfl rfl rfl rfl) ?_
 refine U.ps 1 T rfl ?_
 refine U.done (C.nx (C.seq (C.seq (U.start ?_))))
 refine U.ps 2 T rfl ?_
 refine U.e rfl (.none rfl) (by exact Eff.k (T_rules_ZoneOf s_1 c _ hm) en20 rfl rfl rfl (.eq rfl) (fun _ _ => ⟨(.v _), trivial⟩)) (fun x5' hm => ?_)
 obtain ⟨x5⟩ := x5'
 refine U.ps 1 T rfl ?_
 refine U.done (C.nx (C.seq (U.start ?_)))
 refine U.ps 2 T rfl ?_
 refine U.done (C.nx ?_)
 refine C.ite rfl hm (fun hb8 hm => ?_) (fun hb8 hm => ?_)
 refine C.seq (U.start ?_)
 refine U.ps 3 T rfl ?_
 obtain ⟨x11, hx11, hm⟩ := hm
 refine U.r rfl (.none rfl) rfl rfl (by exact Rd.ix T rfl rfl rfl rfl rfl rfl hx11) ?_
 refine U.ps 3 T rfl ?_
 refine U.done (C.nx (C.ret (C.rt ?_)))
 exact C.f0 T (rs' := [.i x11.Speed]) hβ ⟨x11.Speed, hm, rfl, rfl, rfl⟩
 refine C.skip (C.nx (C.seq (U.start ?_)))
 refine U.ps 1 T rfl ?_
 refine U.done (C.nx (C.ret ?_))
 exact C.f0 T (rs' := [.i 1]) hβ ⟨1, hm, rfl, rfl, rfl⟩
theorem T_rules_isCell (s_1 : ApiSite) (c : Int) (post : Bool → Prop) (hm : V_rules_isCell s_1 c post) :
    Tr Try.prog 50 [.agg (eApiSite s_1), .i c] [] 0 (fun A H' k => ∃ y, post y ∧ A = (.b y) ∧ H' = [] ∧ k = 0) := by
 refine Tr.intro (n := 15) Try.func50 rfl Try.ntmps50 rfl (fun w0 ok F β hβ => ?_)
 unfold V_rules_isCell at hm
 refine C.seq (U.start ?_)
 refine U.e1 rfl (.none rfl) (by exact Eff1.box rfl rfl rfl rfl rfl) ?_
 refine U.ps 1 T rfl ?_
 refine U.done (C.nx (C.seq ?_))
 refine C.jn (fun (x3 : Bool) => [(4, .b x3)]) (fun (x3 : Bool) => []) 0 hm (fun x3 hm => ?_) (fun J4 hm hJ4 => ?_)
 refine C.nx (C.ret ?_)
 exact C.f0 T (rs' := [.b x3]) hβ ⟨x3, hm, rfl, rfl, rfl⟩
 refine U.start ?_
 refine U.ps 3 T rfl ?_
 refine hm.cs (fun hb5 hm => ?_) (fun hb5 hm => ?_)
 refine U.pg 6 2 true 7 hb5 T rfl rfl rfl rfl ?_
 refine U.r rfl (.none rfl) rfl rfl (by exact Rd.pk rfl rfl hb5 rfl) ?_
 refine U.ps 1 T rfl ?_
 refine U.done ?_
 exact St.wk (hJ4 _ hm) (Wk.e)
 refine U.sks 6 2 true 7 hb5 rfl rfl rfl ?_
 refine U.r rfl (.none rfl) rfl rfl (by exact Rd.pk' rfl rfl hb5 rfl) ?_
 refine U.ps 1 T rfl ?_
 refine U.done ?_
 exact St.wk (hJ4 _ hm) (Wk.e)
theorem T_rules_Open_1 (x_1 : ApiSpan) (c0 : Int) (post : Bool → Prop) (hm : V_rules_Open_1 x_1 c0 post) :
    Tr Try.prog 57 [.agg [.i x_1.From, .i x_1.To], .rp [.i c0]] [] 0 (fun A H' k => ∃ y, post y ∧ A = (.b y) ∧ H' = [] ∧ k = 0) := by
 refine Tr.intro (n := 14) Try.func57 rfl Try.ntmps57 rfl (fun w0 ok F β hβ => ?_)
 unfold V_rules_Open_1 at hm
 refine C.seq (U.start ?_)
 refine U.e1 rfl (.none rfl) (by exact Eff1.box rfl rfl rfl rfl rfl) ?_
 refine U.ps 1 T rfl ?_
 refine U.done (C.nx (C.seq ?_))
 refine C.jn (fun (x3 : Bool) => [(3, .b x3)]) (fun (x3 : Bool) => []) 0 hm (fun x3 hm => ?_) (fun J4 hm hJ4 => ?_)
 refine C.nx (C.ret ?_)
 exact C.f0 T (rs' := [.b x3]) hβ ⟨x3, hm, rfl, rfl, rfl⟩
 refine U.start ?_
 refine U.ps 5 T rfl ?_
 refine hm.cs (fun hb5 hm => ?_) (fun hb5 hm => ?_)
 refine U.pg 4 4 true 8 hb5 T rfl rfl rfl rfl ?_
 refine U.r rfl (.none rfl) rfl rfl (by exact Rd.pk rfl rfl hb5 rfl) ?_
 refine U.ps 1 T rfl ?_
 refine U.done ?_
 exact St.wk (hJ4 _ hm) (Wk.e)
 refine U.sks 4 4 true 8 hb5 rfl rfl rfl ?_
 refine U.r rfl (.none rfl) rfl rfl (by exact Rd.pk' rfl rfl hb5 rfl) ?_
 refine U.ps 1 T rfl ?_
 refine U.done ?_
 exact St.wk (hJ4 _ hm) (Wk.e)
theorem T_slices_IndexFunc_api_Span_api_Span__rules_Open_1 (s_1 : List ApiSpan) (f_c0 : Int) (post : Int → Prop) (hm : V_slices_IndexFunc_api_Span_api_Span__rules_Open_1 s_1 f_c0 post) :
    Tr Try.prog 85 [.sl 2 eApiSpan s_1, .fn (.func 57) [] [.rp [.i f_c0]]] [] 0 (fun A H' k => ∃ y, post y ∧ A = (.i y) ∧ H' = [] ∧ k = 0) := by
 refine Tr.intro (n := 19) Try.func85 rfl Try.ntmps85 rfl (fun w0 ok F β hβ => ?_)
 unfold V_slices_IndexFunc_api_Span_api_Span__rules_Open_1 at hm
 refine C.seq (U.start ?_)
 refine U.ps 1 T rfl ?_
 refine U.done (C.nx (C.seq (C.seq (U.start ?_))))
 refine U.ps 3 T rfl ?_
 refine U.done (C.nx ?_)
 refine C.jn (fun (x5 : Unit) => []) (fun (x5 : Unit) => []) 0 hm (fun x5 hm => ?_) (fun J6 hm hJ6 => ?_)
 refine C.nx (C.seq (U.start ?_))
 refine U.ps 1 T rfl ?_
 refine U.done (C.nx (C.ret ?_))
 exact C.f0 T (rs' := [.i (-1)]) hβ ⟨(-1), hm, rfl, rfl, rfl⟩
 refine C.block ?_
 refine St.wk (C.loop (fun (s7 : Int) => [(0, .sl 2 eApiSpan s_1), (1, .fn (.func 57) [] [.rp [.i f_c0]]), (7, .i (s_1.length : Int)), (8, .i s7)]) (fun (s7 : Int) => []) hm (fun s7 Y8 hm => ?_)) (Wk.e)
 refine C.seq (U.start ?_)
 refine U.ps 1 T rfl ?_
 refine U.done (C.nx (C.seq ?_))
 refine C.ite rfl hm (fun hb11 hm => ?_) (fun hb11 hm => ?_)
 refine C.skip (C.nx (C.seq (C.block (C.seq (U.start ?_)))))
 refine U.ps 2 T rfl ?_
 refine U.done (C.nx (C.seq (U.start ?_)))
 refine U.ps 3 T rfl ?_
 obtain ⟨x16, hx16, hm⟩ := hm
 refine U.r rfl (.none rfl) rfl rfl (by exact Rd.ix T rfl rfl rfl rfl rfl rfl hx16) ?_
 refine U.ps 1 T rfl ?_
 refine U.e rfl (.none rfl) (by exact Eff.k (T_rules_Open_1 x16 f_c0 _ hm) en57 rfl rfl rfl (.eq rfl) (fun _ _ => ⟨(.v _), trivial⟩)) (fun x17' hm => ?_)
 obtain ⟨x17⟩ := x17'
 refine U.done (C.nx ?_)
 refine C.ite rfl hm (fun hb18 hm => ?_) (fun hb18 hm => ?_)
 refine C.seq (U.start ?_)
 refine U.ps 2 T rfl ?_
 refine U.done (C.nx (C.ret (C.brt (C.rt (C.rt (C.brt (C.rt ?_)))))))
 exact C.f0 T (rs' := [.i s7]) hβ ⟨s7, hm, rfl, rfl, rfl⟩
 refine C.skip (C.bnx (C.nx (U.start ?_)))
 refine U.ps 2 T rfl ?_
 refine U.done (C.nx ?_)
 exact St.wk (C.next hm) (Wk.e)
 refine C.exit (C.ex (C.ex (C.bex ?_)))
 exact St.wk (hJ6 _ hm) (Wk.mk' [] rfl rfl trivial trivial rfl)
theorem T_slices_ContainsFunc_api_Span_api_Span__rules_Open_1 (s_1 : List ApiSpan) (f_c0 : Int) (post : Bool → Prop) (hm : V_slices_ContainsFunc_api_Span_api_Span__rules_Open_1 s_1 f_c0 post) :
    Tr Try.prog 56 [.sl 2 eApiSpan s_1, .fn (.func 57) [] [.rp [.i f_c0]]] [] 0 (fun A H' k => ∃ y, post y ∧ A = (.b y) ∧ H' = [] ∧ k = 0) := by
 refine Tr.intro (n := 9) Try.func56 rfl Try.ntmps56 rfl (fun w0 ok F β hβ => ?_)
 unfold V_slices_ContainsFunc_api_Span_api_Span__rules_Open_1 at hm
 refine C.seq (U.start ?_)
 refine U.ps 1 T rfl ?_
 refine U.done (C.nx (C.seq (U.start ?_)))
 refine U.ps 2 T rfl ?_
 refine U.e rfl (.none rfl) (by exact Eff.k (T_slices_IndexFunc_api_Span_api_Span__rules_Open_1 s_1 f_c0 _ hm) en85 rfl rfl rfl (.eq rfl) (fun _ _ => ⟨(.v _), trivial⟩)) (fun x5' hm => ?_)
 obtain ⟨x5⟩ := x5'
 refine U.ps 2 T rfl ?_
 refine U.done (C.nx (C.ret ?_))
 exact C.f0 T (rs' := [.b (decide (x5 ≥ 0))]) hβ ⟨decide (x5 ≥ 0), hm, rfl, rfl, rfl⟩
theorem T_rules_Open (s_1 : ApiSite) (c : Int) (tick : Int) (post : Bool → Prop) (hm : V_rules_Open s_1 c tick post) :
    Tr Try.prog 25 [.agg (eApiSite s_1), .i c, .i tick] [] 0 (fun A H' k => ∃ y, post y ∧ A = (.b y) ∧ H' = [] ∧ k = 0) := by
 refine Tr.intro (n := 31) Try.func25 rfl Try.ntmps25 rfl (fun w0 ok F β hβ => ?_)
 unfold V_rules_Open at hm
 refine C.seq (U.start ?_)
 refine U.e1 rfl (.none rfl) (by exact Eff1.box rfl rfl rfl rfl rfl) ?_
 refine U.e1 rfl (.none rfl) (by exact Eff1.box rfl rfl rfl rfl rfl) ?_
 refine U.ps 1 T rfl ?_
 refine U.done (C.nx (C.seq (U.start ?_)))
 refine U.ps 2 T rfl ?_
 refine U.e rfl (.none rfl) (by exact Eff.k (T_rules_ZoneOf s_1 c _ hm) en20 rfl rfl rfl (.eq rfl) (fun _ _ => ⟨(.v _), trivial⟩)) (fun x5' hm => ?_)
 obtain ⟨x5⟩ := x5'
 refine U.ps 1 T rfl ?_
 refine U.done (C.nx (C.seq (C.seq ?_)))
 refine C.jn (fun (x6 : Bool) => [(1, .i c), (3, .p 0 0), (5, .p 1 0), (7, .i x5), (18, .b x6)]) (fun (x6 : Bool) => [(0, .box (eApiSite s_1)), (1, .box [.i tick])]) 2 hm (fun x6 hm => ?_) (fun J7 hm hJ7 => ?_)
 refine C.nx ?_
 refine C.ite rfl hm (fun hb10 hm => ?_) (fun hb10 hm => ?_)
 refine C.seq (U.start ?_)
 refine U.ps 2 T rfl ?_
 refine U.e rfl (.none rfl) (by exact Eff.k (T_rules_isCell s_1 c _ hm) en50 rfl rfl rfl (.eq rfl) (fun _ _ => ⟨(.v _), trivial⟩)) (fun x13' hm => ?_)
 obtain ⟨x13⟩ := x13'
 refine U.ps 1 T rfl ?_
 refine U.done (C.nx (C.ret (C.rt ?_)))
 exact C.f0 T (rs' := [.b x13]) hβ ⟨x13, hm, rfl, rfl, rfl⟩
 refine C.skip (C.nx (C.seq (U.start ?_)))
 refine U.ps 3 T rfl ?_
 obtain ⟨x16, hx16, hm⟩ := hm
 refine U.r rfl (.none rfl) rfl rfl (by exact Rd.ix T rfl rfl rfl rfl rfl rfl hx16) ?_
 refine U.ps 3 T rfl ?_
 refine U.e rfl (.none rfl) (by exact Eff.k (T_slices_ContainsFunc_api_Span_api_Span__rules_Open_1 x16.Shut tick _ hm) en56 rfl rfl rfl (.cons (.eq rfl) (.cons (.fn (.eq rfl) (.cons (.fzp rfl rfl rfl rfl (.eq rfl) rfl) .nil)) .nil)) (fun _ _ => ⟨(.v _), trivial⟩)) (fun x17' hm => ?_)
 obtain ⟨x17⟩ := x17'
 refine U.ps 2 T rfl ?_
 refine U.done (C.nx (C.ret ?_))
 exact C.f0 T (rs' := [.b (!x17)]) hβ ⟨!x17, hm, rfl, rfl, rfl⟩
 refine U.start ?_
 refine U.ps 2 T rfl ?_
 refine U.e rfl (.none rfl) (by exact Eff.k (T_rules_isCell s_1 c _ hm) en50 rfl rfl rfl (.eq rfl) (fun _ _ => ⟨(.v _), trivial⟩)) (fun x8' hm => ?_)
 obtain ⟨x8⟩ := x8'
 refine U.ps 2 T rfl ?_
 refine hm.cs (fun hb9 hm => ?_) (fun hb9 hm => ?_)
 refine U.pg 2 4 false 15 (ntF hb9) T rfl rfl rfl rfl ?_
 refine U.r rfl (.none rfl) rfl rfl (by exact Rd.pk' rfl rfl (ntF hb9) rfl) ?_
 refine U.done ?_
 exact St.wk (hJ7 _ hm) (Wk.f [some 0, some 1] ⟨bX, bX, trivial⟩)
 refine U.sks 2 4 false 15 (ntT hb9) rfl rfl rfl ?_
 refine U.r rfl (.none rfl) rfl rfl (by exact Rd.pk rfl rfl (ntT hb9) rfl) ?_
 refine U.done ?_
 exact St.wk (hJ7 _ hm) (Wk.f [some 0, some 1] ⟨bX, bX, trivial⟩)
theorem T_slices_Backward_int_int (s_1 : List Int) (post : (List Int) → Prop) (hm : V_slices_Backward_int_int s_1 post) :
    Tr Try.prog 82 [.sl 1 eI s_1] [] 0 (fun A H' k => ∃ y, post y ∧ A = (.fn (.func 96) [] [.p 0 0]) ∧ H' = [(0, .box [.sl 1 eI y])] ∧ k = 1) := by
 refine Tr.intro (n := 4) Try.func82 rfl Try.ntmps82 rfl (fun w0 ok F β hβ => ?_)
 unfold V_slices_Backward_int_int at hm
 refine C.seq (U.start ?_)
 refine U.e1 rfl (.none rfl) (by exact Eff1.box rfl rfl rfl rfl rfl) ?_
 refine U.ps 1 T rfl ?_
 refine U.done (C.nx (C.seq (U.start ?_)))
 refine U.ps 2 T rfl ?_
 refine U.done (C.nx (C.ret ?_))
 exact C.fin T (rs' := [.fn (.func 96) [] [.p 0 0]]) (H' := [(0, .box [.sl 1 eI (s_1)])]) (nl' := 1) [some 0] rfl rfl (.eq rfl) ⟨bX, trivial⟩ rfl rfl rfl rfl hβ ⟨(s_1), hm, rfl, rfl, rfl⟩
theorem T_rules_standing (st : ApiState) (post : (List (Int × Int)) → Prop) (hm : V_rules_standing st post) :
    Tr Try.prog 51 [.agg (eApiState st)] [] 0 (fun A H' k => ∃ y, post y ∧ A = (.o 0) ∧ H' = [(0, .val (.om kI veI y))] ∧ k = 1) := by
 refine Tr.intro (n := 35) Try.func51 rfl Try.ntmps51 rfl (fun w0 ok F β hβ => ?_)
 unfold V_rules_standing at hm
 refine C.seq (U.start ?_)
 refine U.e1 rfl (.none rfl) (by exact Eff1.box rfl rfl rfl rfl rfl) ?_
 refine U.ps 1 T rfl ?_
 refine U.done (C.nx (C.seq (U.start ?_)))
 refine U.e1 rfl (.none rfl) (by exact Eff1.mm kI veB rfl rfl rfl) ?_
 refine U.e1 rfl (.none rfl) (by exact Eff1.al T rfl rfl rfl rfl) ?_
 refine U.e1 rfl (.none rfl) (by exact Eff1.st T rfl rfl rfl rfl rfl rfl rfl rfl rfl rfl) ?_
 refine U.done (C.nx (C.seq (C.seq (U.start ?_))))
 refine U.ps 4 T rfl ?_
 refine U.done (C.nx ?_)
 refine C.jn (fun (x7 : List (Int × Bool)) => [(1, .p 0 0), (3, .p 1 0)]) (fun (x7 : List (Int × Bool)) => [(0, .box (eApiState st)), (1, .box [.o 2]), (2, .val (.om kI veB x7))]) 3 hm (fun x7 hm => ?_) (fun J8 hm hJ8 => ?_)
 refine C.nx (C.seq (U.start ?_))
 refine U.e1 rfl (.none rfl) (by exact Eff1.mm kI veI rfl rfl rfl) ?_
 refine U.e1 rfl (.none rfl) (by exact Eff1.al T rfl rfl rfl rfl) ?_
 refine U.e1 rfl (.none rfl) (by exact Eff1.st T rfl rfl rfl rfl rfl rfl rfl rfl rfl rfl) ?_
 refine U.done (C.nx (C.seq (C.seq (U.start ?_))))
 refine U.ps 2 T rfl ?_
 refine U.e rfl (.none rfl) (by exact Eff.c [] (v := false) (T_slices_Backward_int_int st.Shelves _ hm) en82 rfl rfl rfl (.eq rfl) trivial rfl rfl rfl rfl rfl rfl (fun h => by cases h) (.inr ⟨rfl, rfl⟩) (fun _ => rfl) (fun _ => rfl) rfl) (fun x25' hm => ?_)
 obtain ⟨x25⟩ := x25'
 refine U.done (C.nx (C.block ?_))
 refine St.wk (Γ' := [(1, .p 0 0), (3, .p 1 0), (6, .p 3 0), (21, .o 4), (22, .p 0 1), (23, .sl 1 eI st.Shelves), (24, .fn (.func 96) [] [.rp [.sl 1 eI x25]])]) (H' := [(0, .box (eApiState st)), (1, .box [.o 2]), (2, .val (.om kI veB x7)), (3, .box [.o 4]), (4, .val (.om kI veI ([] : List (Int × Int))))]) (nl' := 5) ?_ (Wk.mk' [some 0, some 1, some 2, some 4, some 3] rfl rfl ⟨⟨_, rfl, (.eq rfl)⟩, ⟨_, rfl, (.eq rfl)⟩, ⟨_, rfl, (.eq rfl)⟩, ⟨_, rfl, (.eq rfl)⟩, ⟨_, rfl, (.eq rfl)⟩, ⟨_, rfl, (.eq rfl)⟩, ⟨_, rfl, (.fn (.eq rfl) (.cons (.fzp rfl rfl rfl rfl (.eq rfl) rfl) .nil))⟩, trivial⟩ ⟨bX, bX, vL, bX, vL, trivial⟩ rfl)
 obtain ⟨hx29, hm⟩ := hm
 refine St.wk (C.range (Γ0 := [(3, .p 0 0), (6, .p 1 0), (24, .fn (.func 96) [] [.rp [.sl 1 eI x25]])]) (Γ1 := fun (x26 : Int × Int) => [(8, .i x26.2), (7, .i x26.1), (26, .i x26.2), (25, .i x26.1), (3, .p 0 0), (6, .p 1 0), (24, .fn (.func 96) [] [.rp [.sl 1 eI x25]])]) (Hf := fun (s27 : List (Int × Int)) => [(0, .box [.o 2]), (1, .box [.o 3]), (2, .val (.om kI veB x7)), (3, .val (.om kI veI s27))]) 2 hm (it96 x25 hx29) en96 rfl rfl rfl rfl rfl (fun _ => rfl) rfl rfl (fun _ => rfl) (fun x26 s27 Y28 hm w0 ok M β l => ?_) (fun s37 hm => ?_)) (Wk.f [some 1, some 3, some 2, some 4] ⟨bX, bX, vL, vL, trivial⟩)
 refine CI.block ?_
 refine CI.seq ?_
 refine UI.start (by kernel_rfl) (by repeat (first | exact NoOut.rnd | refine NoOut.th ?_ | refine NoOut.blk ?_)) ?_
 refine U.ps 2 T rfl ?_
 refine U.r rfl (.none rfl) rfl rfl (by exact Rd.lk T (ke := kI) (ve := veB) (xs := x7) (z0 := false) (x := x26.1) rfl rfl kt3 zt4 (fun _ => rfl) rfl (.o rfl) rfl rfl rfl) ?_
 refine U.ps 1 T rfl ?_
 refine U.done (C.nx ?_)
 refine CI.jn (fun (x32 : List (Int × Int)) => []) (fun (x32 : List (Int × Int)) => [(0, .box [.o 2]), (1, .box [.o 3]), (2, .val (.om kI veB x7)), (3, .val (.om kI veI x32))]) 4 hm (fun x32 hm => ?_) (fun J33 hm hJ33 => ?_)
 refine C.bnx ?_
 exact St.wk (CI.next hm) (Wk.mk' [some 0, some 1, some 2, some 3] rfl rfl trivial ⟨bX, bX, vL, vL, trivial⟩ rfl)
 refine CI.ite rfl hm (fun hb34 hm => ?_) (fun hb34 hm => ?_)
 refine UI.start (by kernel_rfl) (by repeat (first | exact NoOut.rnd | refine NoOut.th ?_ | refine NoOut.blk ?_)) ?_
 refine U.ps 3 T rfl ?_
 refine U.e1 rfl (.none rfl) (by exact Eff1.mu T (x := x26.2) (y := x26.1) (.inl rfl) rfl kt3 (fun _ => rfl) rfl rfl rfl rfl rfl (.inl rfl) rfl) ?_
 refine U.done ?_
 exact St.wk (hJ33 _ hm) (Wk.mk' [some 0, some 1, some 2, some 3] rfl rfl trivial ⟨bX, bX, vL, vL, trivial⟩ rfl)
 refine CI.skip ?_
 exact St.wk (hJ33 _ hm) (Wk.mk' [some 0, some 1, some 2, some 3] rfl rfl trivial ⟨bX, bX, vL, vL, trivial⟩ rfl)
 refine C.bnx (C.nx (C.seq (U.start ?_)))
 refine U.ps 2 T rfl ?_
 refine U.done (C.nx (C.ret ?_))
 exact C.fin T (rs' := [.o 0]) (H' := [(0, .val (.om kI veI s37))]) (nl' := 1) [some 3] rfl rfl (.eq rfl) ⟨vL, trivial⟩ rfl rfl rfl rfl hβ ⟨s37, hm, rfl, rfl, rfl⟩
 refine C.block ?_
 refine St.wk (C.loop (fun (s9 : List (Int × Bool) × Int) => [(1, .p 0 0), (3, .p 1 0), (11, .sl 6 eApiRobot st.Robots), (12, .i (st.Robots.length : Int)), (13, .i s9.2)]) (fun (s9 : List (Int × Bool) × Int) => [(0, .box (eApiState st)), (1, .box [.o 2]), (2, .val (.om kI veB s9.1))]) hm (fun s9 Y10 hm => ?_)) (Wk.f [some 0, some 2, some 1] ⟨bX, bX, vL, trivial⟩)
 refine C.seq (U.start ?_)
 refine U.ps 1 T rfl ?_
 refine U.done (C.nx (C.seq ?_))
 refine C.ite rfl hm (fun hb13 hm => ?_) (fun hb13 hm => ?_)
 refine C.skip (C.nx (C.seq (C.block (C.seq (U.start ?_)))))
 obtain ⟨x16, hx16, hm⟩ := hm
 refine U.r rfl (.none rfl) rfl rfl (by exact Rd.ix T rfl rfl rfl rfl rfl rfl hx16) ?_
 refine U.ps 1 T rfl ?_
 refine U.e1 rfl (.none rfl) (by exact Eff1.al T rfl rfl rfl rfl) ?_
 refine U.e1 rfl (.none rfl) (by exact Eff1.st T rfl rfl rfl rfl rfl rfl rfl rfl rfl rfl) ?_
 refine U.done (C.nx (U.start ?_))
 refine U.ps 3 T rfl ?_
 refine U.e1 rfl (.none rfl) (by exact Eff1.mu T (x := x16.Load) (y := true) (.inl rfl) rfl kt3 (fun _ => rfl) rfl rfl rfl rfl rfl (.inl rfl) rfl) ?_
 refine U.done (C.bnx (C.nx (U.start ?_)))
 refine U.ps 2 T rfl ?_
 refine U.done (C.nx ?_)
 exact St.wk (C.next hm) (Wk.f [some 0, some 1, some 2] ⟨bX, bX, vL, trivial⟩)
 refine C.exit (C.ex (C.ex (C.bex ?_)))
 exact St.wk (hJ8 _ hm) (Wk.f [some 0, some 1, some 2] ⟨bX, bX, vL, trivial⟩)
theorem T_rules_Stands (s_1 : ApiSite) (c : Int) (post : Bool → Prop) (hm : V_rules_Stands s_1 c post) :
    Tr Try.prog 16 [.agg (eApiSite s_1), .i c] [] 0 (fun A H' k => ∃ y, post y ∧ A = (.b y) ∧ H' = [] ∧ k = 0) := by
 refine Tr.intro (n := 26) Try.func16 rfl Try.ntmps16 rfl (fun w0 ok F β hβ => ?_)
 unfold V_rules_Stands at hm
 refine C.seq (U.start ?_)
 refine U.e1 rfl (.none rfl) (by exact Eff1.box rfl rfl rfl rfl rfl) ?_
 refine U.ps 1 T rfl ?_
 refine U.done (C.nx (C.seq ?_))
 refine C.jn (fun (x3 : Bool) => [(4, .b x3)]) (fun (x3 : Bool) => []) 0 hm (fun x3 hm => ?_) (fun J4 hm hJ4 => ?_)
 refine C.nx (C.ret ?_)
 exact C.f0 T (rs' := [.b x3]) hβ ⟨x3, hm, rfl, rfl, rfl⟩
 refine U.start ?_
 refine U.ps 2 T rfl ?_
 refine U.e rfl (.none rfl) (by exact Eff.k (T_rules_isCell s_1 c _ hm) en50 rfl rfl rfl (.eq rfl) (fun _ _ => ⟨(.v _), trivial⟩)) (fun x5' hm => ?_)
 obtain ⟨x5⟩ := x5'
 refine U.ps 1 T rfl ?_
 refine hm.cs (fun hb6 hm => ?_) (fun hb6 hm => ?_)
 refine U.pg 4 3 true 8 hb6 T rfl rfl rfl rfl ?_
 obtain ⟨x7, hx7, hm⟩ := hm
 refine U.r rfl (.take 3 true 8 _ hb6 rfl rfl rfl) rfl rfl (by exact Rd.ix T rfl rfl rfl rfl rfl rfl hx7) ?_
 refine U.pg 3 3 true 8 hb6 T rfl rfl rfl rfl ?_
 refine hm.cs (fun hb8 hm => ?_) (fun hb8 hm => ?_)
 refine U.sks 7 11 false 16 hb8 rfl rfl rfl ?_
 refine U.r rfl (.take 3 true 8 _ hb6 rfl rfl rfl) rfl rfl (by exact Rd.pk rfl rfl hb8 rfl) ?_
 refine U.r rfl (.none rfl) rfl rfl (by exact Rd.pk rfl rfl hb6 rfl) ?_
 refine U.ps 1 T rfl ?_
 refine U.done ?_
 exact St.wk (hJ4 _ hm) (Wk.e)
 refine U.pg 4 11 false 16 hb8 T rfl rfl rfl rfl ?_
 refine U.r rfl (.take 11 false 16 _ hb8 rfl rfl rfl) rfl rfl (by exact Rd.ix T rfl rfl rfl rfl rfl rfl hx7) ?_
 refine U.pg 2 11 false 16 hb8 T rfl rfl rfl rfl ?_
 refine U.r rfl (.take 3 true 8 _ hb6 rfl rfl rfl) rfl rfl (by exact Rd.pk' rfl rfl hb8 rfl) ?_
 refine U.r rfl (.none rfl) rfl rfl (by exact Rd.pk rfl rfl hb6 rfl) ?_
 refine U.ps 1 T rfl ?_
 refine U.done ?_
 exact St.wk (hJ4 _ hm) (Wk.e)
 refine U.sks 8 3 true 8 hb6 rfl rfl rfl ?_
 refine U.sku 7 11 false 16 rfl rfl rfl ?_
 refine U.sks 1 3 true 8 hb6 rfl rfl rfl ?_
 refine U.r rfl (.none rfl) rfl rfl (by exact Rd.pk' rfl rfl hb6 rfl) ?_
 refine U.ps 1 T rfl ?_
 refine U.done ?_
 exact St.wk (hJ4 _ hm) (Wk.e)
theorem T_rules_Room (s_1 : ApiSite) (st : ApiState) (zone : Int) (post : Int → Prop) (hm : V_rules_Room s_1 st zone post) :
    Tr Try.prog 19 [.agg (eApiSite s_1), .agg (eApiState st), .i zone] [] 0 (fun A H' k => ∃ y, post y ∧ A = (.i y) ∧ H' = [] ∧ k = 0) := by
 refine Tr.intro (n := 59) Try.func19 rfl Try.ntmps19 rfl (fun w0 ok F β hβ => ?_)
 unfold V_rules_Room at hm
 refine C.seq (U.start ?_)
 refine U.e1 rfl (.none rfl) (by exact Eff1.box rfl rfl rfl rfl rfl) ?_
 refine U.e1 rfl (.none rfl) (by exact Eff1.box rfl rfl rfl rfl rfl) ?_
 refine U.ps 1 T rfl ?_
 refine U.done (C.nx (C.seq (C.seq ?_)))
 refine C.jn (fun (x3 : Bool) => [(2, .i zone), (3, .p 0 0), (4, .p 1 0), (21, .b x3)]) (fun (x3 : Bool) => [(0, .box (eApiSite s_1)), (1, .box (eApiState st))]) 2 hm (fun x3 hm => ?_) (fun J4 hm hJ4 => ?_)
 refine C.nx ?_
 refine C.ite rfl hm (fun hb6 hm => ?_) (fun hb6 hm => ?_)
 refine C.seq (U.start ?_)
 refine U.ps 1 T rfl ?_
 refine U.done (C.nx (C.ret (C.rt ?_)))
 exact C.f0 T (rs' := [.i 0]) hβ ⟨0, hm, rfl, rfl, rfl⟩
 refine C.skip (C.nx (C.seq ?_))
 refine D.beg 9999 [0, 1] [] mix rfl rfl (by kernel_rfl) (by repeat (first | exact NoPanicQ.body | exact NoPanicQ.rnd | refine NoPanicQ.th ?_ | refine NoPanicQ.blk ?_)) (fun hQ hS ws M' => ?_)
 refine D.ps 3 [(0, []), (1, []), (2, [])] rfl hQ hS T rfl rfl (by kernel_rfl) ?_
 obtain ⟨x11, hx11, hm⟩ := hm
 refine D.q 3 [] hQ hS rfl (.none rfl) rfl rfl (by exact Rd.ix T rfl rfl rfl rfl rfl rfl hx11) rfl (by kernel_rfl) ?_
 refine D.ps 4 [(4, []), (5, []), (6, []), (7, [])] rfl hQ hS T rfl rfl (by kernel_rfl) ?_
 refine D.e 8 rfl (.none rfl) (by exact Eff.c [] (v := true) (T_rules_standing st _ hm) en51 rfl rfl rfl (.eq rfl) trivial rfl rfl rfl rfl rfl rfl (fun _ _ => ⟨(.o _), ⟨.val (.om _ _ _ fun _ => (.v _)), trivial⟩⟩) (.inr ⟨rfl, rfl⟩) (fun _ => rfl) (fun _ => rfl) rfl) (by kernel_rfl) rfl rfl (fun x12' hm => ?_)
 obtain ⟨x12⟩ := x12'
 refine D.ps 2 [(9, []), (10, [])] rfl hQ hS T rfl rfl (by kernel_rfl) ?_
 refine D.done (by kernel_rfl) ?_
 refine C.nx (C.seq (C.seq (U.start ?_)))
 refine U.ps 3 T rfl ?_
 refine U.r rfl (.none rfl) rfl rfl (by exact Rd.ix T rfl rfl rfl rfl rfl rfl hx11) ?_
 refine U.ps 4 T rfl ?_
 refine U.done (C.nx ?_)
 refine C.jn (fun (x15 : Int) => [(7, .i x15)]) (fun (x15 : Int) => []) 0 hm (fun x15 hm => ?_) (fun J16 hm hJ16 => ?_)
 refine C.nx (C.seq (U.start ?_))
 refine U.ps 2 T rfl ?_
 refine U.done (C.nx (C.ret ?_))
 exact C.f0 T (rs' := [.i x15]) hβ ⟨x15, hm, rfl, rfl, rfl⟩
 refine C.block ?_
 refine St.wk (C.loop (fun (s17 : Int × Int) => [(3, .p 0 0), (7, .i s17.1), (8, .o 1), (36, .sl 1 eI x11.Cells), (37, .i (x11.Cells.length : Int)), (38, .i s17.2)]) (fun (s17 : Int × Int) => [(0, .box (eApiSite s_1)), (1, .val (.om kI veI x12))]) hm (fun s17 Y18 hm => ?_)) (Wk.f [some 0, some 2] ⟨bX, vL, trivial⟩)
 refine C.seq (U.start ?_)
 refine U.ps 1 T rfl ?_
 refine U.done (C.nx (C.seq ?_))
 refine C.ite rfl hm (fun hb21 hm => ?_) (fun hb21 hm => ?_)
 refine C.skip (C.nx (C.seq (C.block (C.seq (U.start ?_)))))
 obtain ⟨x24, hx24, hm⟩ := hm
 refine U.r rfl (.none rfl) rfl rfl (by exact Rd.ix T rfl rfl rfl rfl rfl rfl hx24) ?_
 refine U.ps 2 T rfl ?_
 refine U.done (C.nx (C.seq (U.start ?_)))
 refine U.ps 2 T rfl ?_
 refine U.r rfl (.none rfl) rfl rfl (by exact Rd.lk2 T (ke := kI) (ve := veI) (xs := x12) (z0 := 0) (x := x24) rfl rfl kt3 zt3 (fun _ => rfl) rfl (.o rfl) rfl rfl rfl) ?_
 refine U.ps 5 T rfl ?_
 refine U.done (C.nx (C.seq ?_))
 refine C.jn (fun (x27 : Bool) => [(3, .p 0 0), (7, .i s17.1), (8, .o 1), (36, .sl 1 eI x11.Cells), (37, .i (x11.Cells.length : Int)), (38, .i s17.2), (54, .b x27)]) (fun (x27 : Bool) => [(0, .box (eApiSite s_1)), (1, .val (.om kI veI x12))]) 2 hm (fun x27 hm => ?_) (fun J28 hm hJ28 => ?_)
 refine C.nx ?_
 refine C.jn (fun (x31 : Int) => [(3, .p 0 0), (7, .i x31), (8, .o 1), (36, .sl 1 eI x11.Cells), (37, .i (x11.Cells.length : Int)), (38, .i s17.2)]) (fun (x31 : Int) => [(0, .box (eApiSite s_1)), (1, .val (.om kI veI x12))]) 2 hm (fun x31 hm => ?_) (fun J32 hm hJ32 => ?_)
 refine C.bnx (C.nx (U.start ?_))
 refine U.ps 2 T rfl ?_
 refine U.done (C.nx ?_)
 exact St.wk (C.next hm) (Wk.f [some 0, some 1] ⟨bX, vL, trivial⟩)
 refine C.ite rfl hm (fun hb33 hm => ?_) (fun hb33 hm => ?_)
 refine U.start ?_
 refine U.ps 3 T rfl ?_
 refine U.done ?_
 exact St.wk (hJ32 _ hm) (Wk.f [some 0, some 1] ⟨bX, vL, trivial⟩)
 refine C.skip ?_
 exact St.wk (hJ32 _ hm) (Wk.f [some 0, some 1] ⟨bX, vL, trivial⟩)
 refine U.start ?_
 refine U.ps 3 T rfl ?_
 refine hm.cs (fun hb29 hm => ?_) (fun hb29 hm => ?_)
 refine U.sks 3 2 true 50 (ntF hb29) rfl rfl rfl ?_
 refine U.r rfl (.none rfl) rfl rfl (by exact Rd.pk' rfl rfl (ntF hb29) rfl) ?_
 refine U.done ?_
 exact St.wk (hJ28 _ hm) (Wk.f [some 0, some 1] ⟨bX, vL, trivial⟩)
 refine U.pg 2 2 true 50 (ntT hb29) T rfl rfl rfl rfl ?_
 refine U.e rfl (.take 2 true 50 _ (ntT hb29) rfl rfl rfl) (by exact Eff.k (T_rules_Stands s_1 x24 _ hm) en16 rfl rfl rfl (.eq rfl) (fun _ _ => ⟨(.v _), trivial⟩)) (fun x30' hm => ?_)
 obtain ⟨x30⟩ := x30'
 refine U.r rfl (.none rfl) rfl rfl (by exact Rd.pk rfl rfl (ntT hb29) rfl) ?_
 refine U.done ?_
 exact St.wk (hJ28 _ hm) (Wk.f [some 0, some 1] ⟨bX, vL, trivial⟩)
 refine C.exit (C.ex (C.ex (C.bex ?_)))
 exact St.wk (hJ16 _ hm) (Wk.e)
 refine U.start ?_
 refine U.ps 3 T rfl ?_
 refine hm.cs (fun hb5 hm => ?_) (fun hb5 hm => ?_)
 refine U.sks 5 2 false 15 hb5 rfl rfl rfl ?_
 refine U.r rfl (.none rfl) rfl rfl (by exact Rd.pk rfl rfl hb5 rfl) ?_
 refine U.done ?_
 exact St.wk (hJ4 _ hm) (Wk.f [some 0, some 1] ⟨bX, bX, trivial⟩)
 refine U.pg 5 2 false 15 hb5 T rfl rfl rfl rfl ?_
 refine U.r rfl (.none rfl) rfl rfl (by exact Rd.pk' rfl rfl hb5 rfl) ?_
 refine U.done ?_
 exact St.wk (hJ4 _ hm) (Wk.f [some 0, some 1] ⟨bX, bX, trivial⟩)
theorem T_floor_steps (post : Arr6FloorStep → Prop) (hm : V_floor_steps post) :
    Tr Try.prog 95 [] [] 0 (fun A H' k => ∃ y, post y ∧ A = (.agg [.i y.e0.x, .i y.e0.y, .i y.e0.z, .i y.e1.x, .i y.e1.y, .i y.e1.z, .i y.e2.x, .i y.e2.y, .i y.e2.z, .i y.e3.x, .i y.e3.y, .i y.e3.z, .i y.e4.x, .i y.e4.y, .i y.e4.z, .i y.e5.x, .i y.e5.y, .i y.e5.z]) ∧ H' = [] ∧ k = 0) := by
 refine Tr.intro (n := 8) Try.func95 rfl Try.ntmps95 rfl (fun w0 ok F β hβ => ?_)
 unfold V_floor_steps at hm
 refine C.seq (U.start ?_)
 refine U.e1 rfl (.none rfl) (by exact Eff1.al T rfl rfl rfl rfl) ?_
 refine U.done (C.nx (C.seq (U.start ?_)))
 refine U.ps 7 T rfl ?_
 refine U.e1 rfl (.none rfl) (by exact Eff1.st T rfl rfl rfl rfl rfl rfl rfl rfl rfl rfl) ?_
 refine U.done (C.nx (C.ret ?_))
 exact C.f0 T (rs' := [.agg [.i (({ e0 := ({ x := 1, y := 0, z := 0 : FloorStep }), e1 := ({ x := 0, y := 1, z := 0 : FloorStep }), e2 := ({ x := (-1), y := 0, z := 0 : FloorStep }), e3 := ({ x := 0, y := (-1), z := 0 : FloorStep }), e4 := ({ x := 0, y := 0, z := 1 : FloorStep }), e5 := ({ x := 0, y := 0, z := (-1) : FloorStep }) : Arr6FloorStep }).e0.x), .i (({ e0 := ({ x := 1, y := 0, z := 0 : FloorStep }), e1 := ({ x := 0, y := 1, z := 0 : FloorStep }), e2 := ({ x := (-1), y := 0, z := 0 : FloorStep }), e3 := ({ x := 0, y := (-1), z := 0 : FloorStep }), e4 := ({ x := 0, y := 0, z := 1 : FloorStep }), e5 := ({ x := 0, y := 0, z := (-1) : FloorStep }) : Arr6FloorStep }).e0.y), .i (({ e0 := ({ x := 1, y := 0, z := 0 : FloorStep }), e1 := ({ x := 0, y := 1, z := 0 : FloorStep }), e2 := ({ x := (-1), y := 0, z := 0 : FloorStep }), e3 := ({ x := 0, y := (-1), z := 0 : FloorStep }), e4 := ({ x := 0, y := 0, z := 1 : FloorStep }), e5 := ({ x := 0, y := 0, z := (-1) : FloorStep }) : Arr6FloorStep }).e0.z), .i (({ e0 := ({ x := 1, y := 0, z := 0 : FloorStep }), e1 := ({ x := 0, y := 1, z := 0 : FloorStep }), e2 := ({ x := (-1), y := 0, z := 0 : FloorStep }), e3 := ({ x := 0, y := (-1), z := 0 : FloorStep }), e4 := ({ x := 0, y := 0, z := 1 : FloorStep }), e5 := ({ x := 0, y := 0, z := (-1) : FloorStep }) : Arr6FloorStep }).e1.x), .i (({ e0 := ({ x := 1, y := 0, z := 0 : FloorStep }), e1 := ({ x := 0, y := 1, z := 0 : FloorStep }), e2 := ({ x := (-1), y := 0, z := 0 : FloorStep }), e3 := ({ x := 0, y := (-1), z := 0 : FloorStep }), e4 := ({ x := 0, y := 0, z := 1 : FloorStep }), e5 := ({ x := 0, y := 0, z := (-1) : FloorStep }) : Arr6FloorStep }).e1.y), .i (({ e0 := ({ x := 1, y := 0, z := 0 : FloorStep }), e1 := ({ x := 0, y := 1, z := 0 : FloorStep }), e2 := ({ x := (-1), y := 0, z := 0 : FloorStep }), e3 := ({ x := 0, y := (-1), z := 0 : FloorStep }), e4 := ({ x := 0, y := 0, z := 1 : FloorStep }), e5 := ({ x := 0, y := 0, z := (-1) : FloorStep }) : Arr6FloorStep }).e1.z), .i (({ e0 := ({ x := 1, y := 0, z := 0 : FloorStep }), e1 := ({ x := 0, y := 1, z := 0 : FloorStep }), e2 := ({ x := (-1), y := 0, z := 0 : FloorStep }), e3 := ({ x := 0, y := (-1), z := 0 : FloorStep }), e4 := ({ x := 0, y := 0, z := 1 : FloorStep }), e5 := ({ x := 0, y := 0, z := (-1) : FloorStep }) : Arr6FloorStep }).e2.x), .i (({ e0 := ({ x := 1, y := 0, z := 0 : FloorStep }), e1 := ({ x := 0, y := 1, z := 0 : FloorStep }), e2 := ({ x := (-1), y := 0, z := 0 : FloorStep }), e3 := ({ x := 0, y := (-1), z := 0 : FloorStep }), e4 := ({ x := 0, y := 0, z := 1 : FloorStep }), e5 := ({ x := 0, y := 0, z := (-1) : FloorStep }) : Arr6FloorStep }).e2.y), .i (({ e0 := ({ x := 1, y := 0, z := 0 : FloorStep }), e1 := ({ x := 0, y := 1, z := 0 : FloorStep }), e2 := ({ x := (-1), y := 0, z := 0 : FloorStep }), e3 := ({ x := 0, y := (-1), z := 0 : FloorStep }), e4 := ({ x := 0, y := 0, z := 1 : FloorStep }), e5 := ({ x := 0, y := 0, z := (-1) : FloorStep }) : Arr6FloorStep }).e2.z), .i (({ e0 := ({ x := 1, y := 0, z := 0 : FloorStep }), e1 := ({ x := 0, y := 1, z := 0 : FloorStep }), e2 := ({ x := (-1), y := 0, z := 0 : FloorStep }), e3 := ({ x := 0, y := (-1), z := 0 : FloorStep }), e4 := ({ x := 0, y := 0, z := 1 : FloorStep }), e5 := ({ x := 0, y := 0, z := (-1) : FloorStep }) : Arr6FloorStep }).e3.x), .i (({ e0 := ({ x := 1, y := 0, z := 0 : FloorStep }), e1 := ({ x := 0, y := 1, z := 0 : FloorStep }), e2 := ({ x := (-1), y := 0, z := 0 : FloorStep }), e3 := ({ x := 0, y := (-1), z := 0 : FloorStep }), e4 := ({ x := 0, y := 0, z := 1 : FloorStep }), e5 := ({ x := 0, y := 0, z := (-1) : FloorStep }) : Arr6FloorStep }).e3.y), .i (({ e0 := ({ x := 1, y := 0, z := 0 : FloorStep }), e1 := ({ x := 0, y := 1, z := 0 : FloorStep }), e2 := ({ x := (-1), y := 0, z := 0 : FloorStep }), e3 := ({ x := 0, y := (-1), z := 0 : FloorStep }), e4 := ({ x := 0, y := 0, z := 1 : FloorStep }), e5 := ({ x := 0, y := 0, z := (-1) : FloorStep }) : Arr6FloorStep }).e3.z), .i (({ e0 := ({ x := 1, y := 0, z := 0 : FloorStep }), e1 := ({ x := 0, y := 1, z := 0 : FloorStep }), e2 := ({ x := (-1), y := 0, z := 0 : FloorStep }), e3 := ({ x := 0, y := (-1), z := 0 : FloorStep }), e4 := ({ x := 0, y := 0, z := 1 : FloorStep }), e5 := ({ x := 0, y := 0, z := (-1) : FloorStep }) : Arr6FloorStep }).e4.x), .i (({ e0 := ({ x := 1, y := 0, z := 0 : FloorStep }), e1 := ({ x := 0, y := 1, z := 0 : FloorStep }), e2 := ({ x := (-1), y := 0, z := 0 : FloorStep }), e3 := ({ x := 0, y := (-1), z := 0 : FloorStep }), e4 := ({ x := 0, y := 0, z := 1 : FloorStep }), e5 := ({ x := 0, y := 0, z := (-1) : FloorStep }) : Arr6FloorStep }).e4.y), .i (({ e0 := ({ x := 1, y := 0, z := 0 : FloorStep }), e1 := ({ x := 0, y := 1, z := 0 : FloorStep }), e2 := ({ x := (-1), y := 0, z := 0 : FloorStep }), e3 := ({ x := 0, y := (-1), z := 0 : FloorStep }), e4 := ({ x := 0, y := 0, z := 1 : FloorStep }), e5 := ({ x := 0, y := 0, z := (-1) : FloorStep }) : Arr6FloorStep }).e4.z), .i (({ e0 := ({ x := 1, y := 0, z := 0 : FloorStep }), e1 := ({ x := 0, y := 1, z := 0 : FloorStep }), e2 := ({ x := (-1), y := 0, z := 0 : FloorStep }), e3 := ({ x := 0, y := (-1), z := 0 : FloorStep }), e4 := ({ x := 0, y := 0, z := 1 : FloorStep }), e5 := ({ x := 0, y := 0, z := (-1) : FloorStep }) : Arr6FloorStep }).e5.x), .i (({ e0 := ({ x := 1, y := 0, z := 0 : FloorStep }), e1 := ({ x := 0, y := 1, z := 0 : FloorStep }), e2 := ({ x := (-1), y := 0, z := 0 : FloorStep }), e3 := ({ x := 0, y := (-1), z := 0 : FloorStep }), e4 := ({ x := 0, y := 0, z := 1 : FloorStep }), e5 := ({ x := 0, y := 0, z := (-1) : FloorStep }) : Arr6FloorStep }).e5.y), .i (({ e0 := ({ x := 1, y := 0, z := 0 : FloorStep }), e1 := ({ x := 0, y := 1, z := 0 : FloorStep }), e2 := ({ x := (-1), y := 0, z := 0 : FloorStep }), e3 := ({ x := 0, y := (-1), z := 0 : FloorStep }), e4 := ({ x := 0, y := 0, z := 1 : FloorStep }), e5 := ({ x := 0, y := 0, z := (-1) : FloorStep }) : Arr6FloorStep }).e5.z)]]) hβ ⟨({ e0 := ({ x := 1, y := 0, z := 0 : FloorStep }), e1 := ({ x := 0, y := 1, z := 0 : FloorStep }), e2 := ({ x := (-1), y := 0, z := 0 : FloorStep }), e3 := ({ x := 0, y := (-1), z := 0 : FloorStep }), e4 := ({ x := 0, y := 0, z := 1 : FloorStep }), e5 := ({ x := 0, y := 0, z := (-1) : FloorStep }) : Arr6FloorStep }), hm, rfl, rfl, rfl⟩
theorem T_floor_beside (f : ApiFloor) (c : Int) (d : Int) (post : Int → Prop) (hm : V_floor_beside f c d post) :
    Tr Try.prog 81 [.agg (eApiFloor f), .i c, .i d] [] 0 (fun A H' k => ∃ y, post y ∧ A = (.i y) ∧ H' = [] ∧ k = 0) := by
 refine Tr.intro (n := 47) Try.func81 rfl Try.ntmps81 rfl (fun w0 ok F β hβ => ?_)
 unfold V_floor_beside at hm
 refine C.seq (U.start ?_)
 refine U.e1 rfl (.none rfl) (by exact Eff1.box rfl rfl rfl rfl rfl) ?_
 refine U.ps 1 T rfl ?_
 refine U.done (C.nx (C.seq (C.seq ?_)))
 refine C.jn (fun (x3 : Bool) => [(1, .i c), (2, .i d), (3, .p 0 0), (22, .b x3)]) (fun (x3 : Bool) => [(0, .box (eApiFloor f))]) 1 hm (fun x3 hm => ?_) (fun J4 hm hJ4 => ?_)
 refine C.nx ?_
 refine C.ite rfl hm (fun hb8 hm => ?_) (fun hb8 hm => ?_)
 refine C.seq (U.start ?_)
 refine U.ps 1 T rfl ?_
 refine U.done (C.nx (C.ret (C.rt ?_)))
 exact C.f0 T (rs' := [.i (-1)]) hβ ⟨(-1), hm, rfl, rfl, rfl⟩
 refine C.skip (C.nx (C.seq (U.start ?_)))
 refine U.ps 2 T rfl ?_
 refine U.e rfl (.none rfl) (by exact Eff.k (T_floor_At f c _ hm) en74 rfl rfl rfl (.eq rfl) (fun _ _ => ⟨(.tup (.cons (.v _) (.cons (.v _) (.cons (.v _) .nil)))), trivial⟩)) (fun x13' hm => ?_)
 obtain ⟨x13⟩ := x13'
 refine U.ps 7 T rfl ?_
 refine U.done (C.nx (C.seq (U.start ?_)))
 refine U.e rfl (.none rfl) (by exact Eff.k (T_floor_steps _ hm) en95 rfl rfl rfl (.eq rfl) (fun _ _ => ⟨(.agg (.cons (.v _) (.cons (.v _) (.cons (.v _) (.cons (.v _) (.cons (.v _) (.cons (.v _) (.cons (.v _) (.cons (.v _) (.cons (.v _) (.cons (.v _) (.cons (.v _) (.cons (.v _) (.cons (.v _) (.cons (.v _) (.cons (.v _) (.cons (.v _) (.cons (.v _) (.cons (.v _) .nil))))))))))))))))))), trivial⟩)) (fun x16' hm => ?_)
 obtain ⟨x16⟩ := x16'
 refine U.ps 1 T rfl ?_
 obtain ⟨x17, hx17, hm⟩ := hm
 refine U.r rfl (.none rfl) rfl rfl (by exact Rd.ia T (enc := eFloorStep) rfl rfl rfl rfl rfl rfl rfl rfl rfl (fun _ _ => rfl) hx17) ?_
 refine U.e1 rfl (.none rfl) (by exact Eff1.al T rfl rfl rfl rfl) ?_
 refine U.e1 rfl (.none rfl) (by exact Eff1.st T rfl rfl rfl rfl rfl rfl rfl rfl rfl rfl) ?_
 refine U.done (C.nx (C.seq (U.start ?_)))
 refine U.ps 13 T rfl ?_
 refine U.e rfl (.none rfl) (by exact Eff.k (T_floor_Cell f (w64 (x13.1 + x17.x)) (w64 (x13.2.1 + x17.y)) (w64 (x13.2.2 + x17.z)) _ hm) en75 rfl rfl rfl (.eq rfl) (fun _ _ => ⟨(.v _), trivial⟩)) (fun x20' hm => ?_)
 obtain ⟨x20⟩ := x20'
 refine U.ps 1 T rfl ?_
 refine U.done (C.nx (C.ret ?_))
 exact C.f0 T (rs' := [.i x20]) hβ ⟨x20, hm, rfl, rfl, rfl⟩
 refine U.start ?_
 refine U.ps 2 T rfl ?_
 refine U.e rfl (.none rfl) (by exact Eff.k (T_floor_is f c _ hm) en80 rfl rfl rfl (.eq rfl) (fun _ _ => ⟨(.v _), trivial⟩)) (fun x5' hm => ?_)
 obtain ⟨x5⟩ := x5'
 refine U.ps 2 T rfl ?_
 refine hm.cs (fun hb6 hm => ?_) (fun hb6 hm => ?_)
 refine U.pg 2 4 false 15 (ntF hb6) T rfl rfl rfl rfl ?_
 refine U.r rfl (.none rfl) rfl rfl (by exact Rd.pk' rfl rfl (ntF hb6) rfl) ?_
 refine U.ps 1 T rfl ?_
 refine hm.cs (fun hb7 hm => ?_) (fun hb7 hm => ?_)
 refine U.sks 2 8 false 19 hb7 rfl rfl rfl ?_
 refine U.r rfl (.none rfl) rfl rfl (by exact Rd.pk rfl rfl hb7 rfl) ?_
 refine U.done ?_
 exact St.wk (hJ4 _ hm) (Wk.f [some 0] ⟨bX, trivial⟩)
 refine U.pg 2 8 false 19 hb7 T rfl rfl rfl rfl ?_
 refine U.r rfl (.none rfl) rfl rfl (by exact Rd.pk' rfl rfl hb7 rfl) ?_
 refine U.done ?_
 exact St.wk (hJ4 _ hm) (Wk.f [some 0] ⟨bX, trivial⟩)
 refine U.sks 2 4 false 15 (ntT hb6) rfl rfl rfl ?_
 refine U.r rfl (.none rfl) rfl rfl (by exact Rd.pk rfl rfl (ntT hb6) rfl) ?_
 refine U.ps 1 T rfl ?_
 refine U.sks 2 8 false 19 rfl rfl rfl rfl ?_
 refine U.r rfl (.none rfl) rfl rfl (by exact Rd.pk rfl rfl rfl rfl) ?_
 refine U.done ?_
 exact St.wk (hJ4 _ hm) (Wk.f [some 0] ⟨bX, trivial⟩)
theorem T_floor_Near (f : ApiFloor) (a : Int) (b : Int) (post : Bool → Prop) (hm : V_floor_Near f a b post) :
    Tr Try.prog 49 [.agg (eApiFloor f), .i a, .i b] [] 0 (fun A H' k => ∃ y, post y ∧ A = (.b y) ∧ H' = [] ∧ k = 0) := by
 refine Tr.intro (n := 24) Try.func49 rfl Try.ntmps49 rfl (fun w0 ok F β hβ => ?_)
 unfold V_floor_Near at hm
 refine C.seq (U.start ?_)
 refine U.e1 rfl (.none rfl) (by exact Eff1.box rfl rfl rfl rfl rfl) ?_
 refine U.ps 1 T rfl ?_
 refine U.done (C.nx (C.seq (C.seq (U.start ?_))))
 refine U.ps 2 T rfl ?_
 refine U.e rfl (.none rfl) (by exact Eff.k (T_floor_is f b _ hm) en80 rfl rfl rfl (.eq rfl) (fun _ _ => ⟨(.v _), trivial⟩)) (fun x5' hm => ?_)
 obtain ⟨x5⟩ := x5'
 refine U.ps 1 T rfl ?_
 refine U.done (C.nx ?_)
 refine C.ite rfl hm (fun hb6 hm => ?_) (fun hb6 hm => ?_)
 refine C.seq (U.start ?_)
 refine U.ps 1 T rfl ?_
 refine U.done (C.nx (C.ret (C.rt ?_)))
 exact C.f0 T (rs' := [.b false]) hβ ⟨false, hm, rfl, rfl, rfl⟩
 refine C.skip (C.nx (C.seq (C.seq (U.start ?_))))
 refine U.ps 2 T rfl ?_
 refine U.done (C.nx ?_)
 refine C.jn (fun (x11 : Unit) => []) (fun (x11 : Unit) => []) 0 hm (fun x11 hm => ?_) (fun J12 hm hJ12 => ?_)
 refine C.nx (C.seq (U.start ?_))
 refine U.ps 1 T rfl ?_
 refine U.done (C.nx (C.ret ?_))
 exact C.f0 T (rs' := [.b false]) hβ ⟨false, hm, rfl, rfl, rfl⟩
 refine C.block ?_
 refine St.wk (C.loop (fun (s13 : Int) => [(1, .i a), (2, .i b), (3, .p 0 0), (13, .agg [.i 0, .i 1, .i 2, .i 3]), (14, .i s13)]) (fun (s13 : Int) => [(0, .box (eApiFloor f))]) hm (fun s13 Y14 hm => ?_)) (Wk.f [some 0] ⟨bX, trivial⟩)
 refine C.seq (U.start ?_)
 refine U.ps 1 T rfl ?_
 refine U.done (C.nx (C.seq ?_))
 refine C.ite rfl hm (fun hb17 hm => ?_) (fun hb17 hm => ?_)
 refine C.skip (C.nx (C.seq (C.block (C.seq (U.start ?_)))))
 obtain ⟨x20, hx20, hm⟩ := hm
 refine U.r rfl (.none rfl) rfl rfl (by exact Rd.ia1 T (enc := eI) rfl rfl rfl rfl rfl rfl rfl rfl rfl (fun _ => rfl) rfl hx20) ?_
 refine U.ps 1 T rfl ?_
 refine U.done (C.nx (C.seq (U.start ?_)))
 refine U.ps 3 T rfl ?_
 refine U.e rfl (.none rfl) (by exact Eff.k (T_floor_beside f a x20 _ hm) en81 rfl rfl rfl (.eq rfl) (fun _ _ => ⟨(.v _), trivial⟩)) (fun x23' hm => ?_)
 obtain ⟨x23⟩ := x23'
 refine U.ps 2 T rfl ?_
 refine U.done (C.nx ?_)
 refine C.ite rfl hm (fun hb24 hm => ?_) (fun hb24 hm => ?_)
 refine C.seq (U.start ?_)
 refine U.ps 1 T rfl ?_
 refine U.done (C.nx (C.ret (C.brt (C.rt (C.rt (C.brt (C.rt ?_)))))))
 exact C.f0 T (rs' := [.b true]) hβ ⟨true, hm, rfl, rfl, rfl⟩
 refine C.skip (C.bnx (C.nx (U.start ?_)))
 refine U.ps 2 T rfl ?_
 refine U.done (C.nx ?_)
 exact St.wk (C.next hm) (Wk.f [some 0] ⟨bX, trivial⟩)
 refine C.exit (C.ex (C.ex (C.bex ?_)))
 exact St.wk (hJ12 _ hm) (Wk.mk' [] rfl rfl trivial trivial rfl)
theorem T_rules_Never (s_1 : ApiSite) (a : ByteArray) (b : ByteArray) (post : Bool → Prop) (hm : V_rules_Never s_1 a b post) :
    Tr Try.prog 11 [.agg (eApiSite s_1), .v (.string a), .v (.string b)] [] 0 (fun A H' k => ∃ y, post y ∧ A = (.b y) ∧ H' = [] ∧ k = 0) := by
 refine Tr.intro (n := 21) Try.func11 rfl Try.ntmps11 rfl (fun w0 ok F β hβ => ?_)
 unfold V_rules_Never at hm
 refine C.seq (U.start ?_)
 refine U.e1 rfl (.none rfl) (by exact Eff1.box rfl rfl rfl rfl rfl) ?_
 refine U.ps 1 T rfl ?_
 refine U.done (C.nx (C.seq ?_))
 refine C.jn (fun (x3 : Bool) => [(6, .b x3)]) (fun (x3 : Bool) => []) 0 hm (fun x3 hm => ?_) (fun J4 hm hJ4 => ?_)
 refine C.nx (C.ret ?_)
 exact C.f0 T (rs' := [.b x3]) hβ ⟨x3, hm, rfl, rfl, rfl⟩
 refine U.start ?_
 refine U.ps 3 T rfl ?_
 refine hm.cs (fun hb5 hm => ?_) (fun hb5 hm => ?_)
 refine U.sks 2 2 true 9 (ntF hb5) rfl rfl rfl ?_
 refine U.r rfl (.none rfl) rfl rfl (by exact Rd.pk' rfl rfl (ntF hb5) rfl) ?_
 refine U.ps 1 T rfl ?_
 refine U.sks 6 6 true 13 rfl rfl rfl rfl ?_
 refine U.r rfl (.none rfl) rfl rfl (by exact Rd.pk' rfl rfl rfl rfl) ?_
 refine U.ps 1 T rfl ?_
 refine U.done ?_
 exact St.wk (hJ4 _ hm) (Wk.e)
 refine U.pg 2 2 true 9 (ntT hb5) T rfl rfl rfl rfl ?_
 refine U.r rfl (.none rfl) rfl rfl (by exact Rd.pk rfl rfl (ntT hb5) rfl) ?_
 refine U.ps 1 T rfl ?_
 refine hm.cs (fun hb6 hm => ?_) (fun hb6 hm => ?_)
 refine U.sks 6 6 true 13 (ntF hb6) rfl rfl rfl ?_
 refine U.r rfl (.none rfl) rfl rfl (by exact Rd.pk' rfl rfl (ntF hb6) rfl) ?_
 refine U.ps 1 T rfl ?_
 refine U.done ?_
 exact St.wk (hJ4 _ hm) (Wk.e)
 refine U.pg 1 6 true 13 (ntT hb6) T rfl rfl rfl rfl ?_
 refine U.e rfl (.take 6 true 13 _ (ntT hb6) rfl rfl rfl) (by exact Eff.c [] (v := true) (T_rules_classes s_1 _ hm) en44 rfl rfl rfl (.eq rfl) trivial rfl rfl rfl rfl rfl rfl (fun _ _ => ⟨(.o _), ⟨.val (.om _ _ _ fun _ => (.v _)), trivial⟩⟩) (.inr ⟨rfl, rfl⟩) (fun _ => rfl) (fun _ => rfl) rfl) (fun x7' hm => ?_)
 obtain ⟨x7⟩ := x7'
 refine U.pg 3 6 true 13 (ntT hb6) T rfl rfl rfl rfl ?_
 refine U.r rfl (.take 6 true 13 _ (ntT hb6) rfl rfl rfl) rfl rfl (by exact Rd.lk T (ke := kApiApart) (ve := veB) (xs := x7) (z0 := false) (x := ({ A := a, B := b : ApiApart })) rfl rfl kt73 zt4 (fun _ => rfl) rfl (.o rfl) rfl rfl rfl) ?_
 refine U.r rfl (.none rfl) rfl rfl (by exact Rd.pk rfl rfl (ntT hb6) rfl) ?_
 refine U.ps 1 T rfl ?_
 refine U.done ?_
 exact St.wk (hJ4 _ hm) (Wk.e)
theorem T_rules_Drop (s_1 : ApiSite) (st : ApiState) (shelf : Int) (c : Int) (post : Int → Prop) (hm : V_rules_Drop s_1 st shelf c post) :
    Tr Try.prog 15 [.agg (eApiSite s_1), .agg (eApiState st), .i shelf, .i c] [] 0 (fun A H' k => ∃ y, post y ∧ A = (.i y) ∧ H' = [] ∧ k = 0) := by
 refine Tr.intro (n := 70) Try.func15 rfl Try.ntmps15 rfl (fun w0 ok F β hβ => ?_)
 unfold V_rules_Drop at hm
 refine C.seq (U.start ?_)
 refine U.e1 rfl (.none rfl) (by exact Eff1.box rfl rfl rfl rfl rfl) ?_
 refine U.e1 rfl (.none rfl) (by exact Eff1.box rfl rfl rfl rfl rfl) ?_
 refine U.ps 1 T rfl ?_
 refine U.done (C.nx (C.seq (C.block (C.seq ?_))))
 refine C.jn (fun (x3 : Bool) => [(2, .i shelf), (3, .i c), (4, .p 0 0), (5, .p 1 0), (12, .b x3)]) (fun (x3 : Bool) => [(0, .box (eApiSite s_1)), (1, .box (eApiState st))]) 2 hm (fun x3 hm => ?_) (fun J4 hm hJ4 => ?_)
 refine C.nx ?_
 refine C.ite rfl hm (fun hb6 hm => ?_) (fun hb6 hm => ?_)
 refine C.seq (U.start ?_)
 refine U.ps 1 T rfl ?_
 refine U.done (C.nx (C.ret (C.brt (C.rt ?_))))
 exact C.f0 T (rs' := [.i 4]) hβ ⟨4, hm, rfl, rfl, rfl⟩
 refine C.seq (U.start ?_)
 refine U.ps 2 T rfl ?_
 refine U.e rfl (.none rfl) (by exact Eff.k (T_rules_Stands s_1 c _ hm) en16 rfl rfl rfl (.eq rfl) (fun _ _ => ⟨(.v _), trivial⟩)) (fun x11' hm => ?_)
 obtain ⟨x11⟩ := x11'
 refine U.ps 2 T rfl ?_
 refine U.done (C.nx ?_)
 refine C.ite rfl hm (fun hb12 hm => ?_) (fun hb12 hm => ?_)
 refine C.seq (U.start ?_)
 refine U.ps 1 T rfl ?_
 refine U.done (C.nx (C.ret (C.brt (C.rt ?_))))
 exact C.f0 T (rs' := [.i 13]) hβ ⟨13, hm, rfl, rfl, rfl⟩
 refine C.skip (C.bnx (C.nx (C.seq (U.start ?_))))
 refine U.ps 1 T rfl ?_
 refine U.done (C.nx (C.seq (C.seq (U.start ?_))))
 refine U.ps 4 T rfl ?_
 refine U.done (C.nx ?_)
 refine C.jn (fun (x19 : Int) => [(9, .i x19)]) (fun (x19 : Int) => []) 0 hm (fun x19 hm => ?_) (fun J20 hm hJ20 => ?_)
 refine C.nx (C.seq (U.start ?_))
 refine U.ps 2 T rfl ?_
 refine U.done (C.nx (C.ret ?_))
 exact C.f0 T (rs' := [.i x19]) hβ ⟨x19, hm, rfl, rfl, rfl⟩
 refine C.block ?_
 refine St.wk (C.loop (fun (s21 : Int × Int) => [(2, .i shelf), (3, .i c), (4, .p 0 0), (5, .p 1 0), (9, .i s21.1), (28, .sl 1 eI st.Shelves), (29, .i (st.Shelves.length : Int)), (30, .i s21.2)]) (fun (s21 : Int × Int) => [(0, .box (eApiSite s_1)), (1, .box (eApiState st))]) hm (fun s21 Y22 hm => ?_)) (Wk.f [some 0, some 1] ⟨bX, bX, trivial⟩)
 refine C.seq (U.start ?_)
 refine U.ps 1 T rfl ?_
 refine U.done (C.nx (C.seq ?_))
 refine C.ite rfl hm (fun hb25 hm => ?_) (fun hb25 hm => ?_)
 refine C.skip (C.nx (C.seq ?_))
 refine C.jn (fun (x26 : Int) => [(2, .i shelf), (3, .i c), (4, .p 0 0), (5, .p 1 0), (9, .i x26), (28, .sl 1 eI st.Shelves), (29, .i (st.Shelves.length : Int)), (30, .i s21.2)]) (fun (x26 : Int) => [(0, .box (eApiSite s_1)), (1, .box (eApiState st))]) 2 hm (fun x26 hm => ?_) (fun J27 hm hJ27 => ?_)
 refine C.nx (U.start ?_)
 refine U.ps 2 T rfl ?_
 refine U.done (C.nx ?_)
 exact St.wk (C.next hm) (Wk.f [some 0, some 1] ⟨bX, bX, trivial⟩)
 refine C.block (C.seq (U.start ?_))
 refine U.ps 1 T rfl ?_
 obtain ⟨x30, hx30, hm⟩ := hm
 refine U.r rfl (.none rfl) rfl rfl (by exact Rd.ix T rfl rfl rfl rfl rfl rfl hx30) ?_
 refine U.ps 3 T rfl ?_
 refine U.done (C.nx (C.seq (C.seq ?_)))
 refine C.jn (fun (x31 : Bool) => [(2, .i shelf), (3, .i c), (4, .p 0 0), (5, .p 1 0), (9, .i s21.1), (10, .i s21.2), (11, .i x30), (28, .sl 1 eI st.Shelves), (29, .i (st.Shelves.length : Int)), (30, .i s21.2), (56, .b x31)]) (fun (x31 : Bool) => [(0, .box (eApiSite s_1)), (1, .box (eApiState st))]) 2 hm (fun x31 hm => ?_) (fun J32 hm hJ32 => ?_)
 refine C.nx ?_
 refine C.ite rfl hm (fun hb39 hm => ?_) (fun hb39 hm => ?_)
 refine C.exit (C.ex (C.bex ?_))
 exact St.wk (hJ27 _ hm) (Wk.f [some 0, some 1] ⟨bX, bX, trivial⟩)
 refine C.skip (C.nx (C.seq (C.seq (U.start ?_))))
 refine U.ps 3 T rfl ?_
 refine U.done (C.nx ?_)
 refine C.ite rfl hm (fun hb42 hm => ?_) (fun hb42 hm => ?_)
 refine C.seq (U.start ?_)
 refine U.ps 1 T rfl ?_
 refine U.done (C.nx (C.ret (C.rt (C.brt (C.rt (C.rt (C.brt (C.rt ?_))))))))
 exact C.f0 T (rs' := [.i 13]) hβ ⟨13, hm, rfl, rfl, rfl⟩
 refine C.skip (C.nx (C.seq ?_))
 refine D.beg 7 [0] [] mix rfl rfl (by kernel_rfl) (by repeat (first | exact NoPanicQ.body | exact NoPanicQ.rnd | refine NoPanicQ.th ?_ | refine NoPanicQ.blk ?_)) (fun hQ hS ws M' => ?_)
 refine D.ps 5 [(0, []), (1, [3]), (2, [3]), (4, [6]), (5, [6])] rfl hQ hS T rfl rfl (by kernel_rfl) ?_
 refine D.e 3 rfl (.none rfl) (by exact Eff.k (T_rules_Class s_1 shelf _ hm) en12 rfl rfl rfl (.eq rfl) (fun _ _ => ⟨(.v _), trivial⟩)) (by kernel_rfl) rfl rfl (fun x47' hm => ?_)
 obtain ⟨x47⟩ := x47'
 refine D.e 6 rfl (.none rfl) (by exact Eff.k (T_rules_Class s_1 s21.2 _ hm) en12 rfl rfl rfl (.eq rfl) (fun _ _ => ⟨(.v _), trivial⟩)) (by kernel_rfl) rfl rfl (fun x48' hm => ?_)
 obtain ⟨x48⟩ := x48'
 refine D.ze rfl (.none rfl) (by exact Eff.k (T_rules_Never s_1 x47 x48 _ hm) en11 rfl rfl rfl (.eq rfl) (fun _ _ => ⟨(.v _), trivial⟩)) (by kernel_rfl) (by kernel_rfl) (fun x49' hm => ?_)
 obtain ⟨x49⟩ := x49'
 refine C.nx ?_
 refine C.jn (fun (x50 : Int) => [(2, .i shelf), (3, .i c), (4, .p 0 0), (5, .p 1 0), (9, .i x50), (28, .sl 1 eI st.Shelves), (29, .i (st.Shelves.length : Int)), (30, .i s21.2)]) (fun (x50 : Int) => [(0, .box (eApiSite s_1)), (1, .box (eApiState st))]) 2 hm (fun x50 hm => ?_) (fun J51 hm hJ51 => ?_)
 refine C.bnx ?_
 exact St.wk (hJ27 _ hm) (Wk.f [some 0, some 1] ⟨bX, bX, trivial⟩)
 refine C.ite rfl hm (fun hb52 hm => ?_) (fun hb52 hm => ?_)
 refine U.start ?_
 refine U.ps 1 T rfl ?_
 refine U.done ?_
 exact St.wk (hJ51 _ hm) (Wk.f [some 0, some 1] ⟨bX, bX, trivial⟩)
 refine C.skip ?_
 exact St.wk (hJ51 _ hm) (Wk.f [some 0, some 1] ⟨bX, bX, trivial⟩)
 refine U.start ?_
 refine U.ps 4 T rfl ?_
 refine hm.cs (fun hb33 hm => ?_) (fun hb33 hm => ?_)
 refine U.sks 4 3 false 38 hb33 rfl rfl rfl ?_
 refine U.sku 6 7 true 42 rfl rfl rfl ?_
 refine U.sks 1 3 false 38 hb33 rfl rfl rfl ?_
 refine U.r rfl (.none rfl) rfl rfl (by exact Rd.pk rfl rfl hb33 rfl) ?_
 refine U.ps 1 T rfl ?_
 refine U.sks 4 16 false 51 rfl rfl rfl rfl ?_
 refine U.r rfl (.none rfl) rfl rfl (by exact Rd.pk rfl rfl rfl rfl) ?_
 refine U.done ?_
 exact St.wk (hJ32 _ hm) (Wk.f [some 0, some 1] ⟨bX, bX, trivial⟩)
 refine U.pg 4 3 false 38 hb33 T rfl rfl rfl rfl ?_
 refine hm.cs (fun hb34 hm => ?_) (fun hb34 hm => ?_)
 refine U.pg 4 7 true 42 hb34 T rfl rfl rfl rfl ?_
 refine U.e rfl (.take 7 true 42 _ hb34 rfl rfl rfl) (by exact Eff.k (T_floor_Near s_1.Floor x30 c _ hm) en49 rfl rfl rfl (.eq rfl) (fun _ _ => ⟨(.v _), trivial⟩)) (fun x35' hm => ?_)
 obtain ⟨x35⟩ := x35'
 refine U.pg 1 7 true 42 hb34 T rfl rfl rfl rfl ?_
 refine U.r rfl (.take 3 false 38 _ hb33 rfl rfl rfl) rfl rfl (by exact Rd.pk rfl rfl hb34 rfl) ?_
 refine U.r rfl (.none rfl) rfl rfl (by exact Rd.pk' rfl rfl hb33 rfl) ?_
 refine U.ps 1 T rfl ?_
 refine hm.cs (fun hb36 hm => ?_) (fun hb36 hm => ?_)
 refine U.pg 2 16 false 51 (ntF hb36) T rfl rfl rfl rfl ?_
 refine U.e rfl (.take 16 false 51 _ (ntF hb36) rfl rfl rfl) (by exact Eff.k (T_rules_Carried st s21.2 _ hm) en14 rfl rfl rfl (.eq rfl) (fun _ _ => ⟨(.v _), trivial⟩)) (fun x37' hm => ?_)
 obtain ⟨x37⟩ := x37'
 refine U.pg 1 16 false 51 (ntF hb36) T rfl rfl rfl rfl ?_
 refine U.r rfl (.none rfl) rfl rfl (by exact Rd.pk' rfl rfl (ntF hb36) rfl) ?_
 refine U.done ?_
 exact St.wk (hJ32 _ hm) (Wk.f [some 0, some 1] ⟨bX, bX, trivial⟩)
 refine U.sks 4 16 false 51 (ntT hb36) rfl rfl rfl ?_
 refine U.r rfl (.none rfl) rfl rfl (by exact Rd.pk rfl rfl (ntT hb36) rfl) ?_
 refine U.done ?_
 exact St.wk (hJ32 _ hm) (Wk.f [some 0, some 1] ⟨bX, bX, trivial⟩)
 refine U.sks 6 7 true 42 hb34 rfl rfl rfl ?_
 refine U.r rfl (.take 3 false 38 _ hb33 rfl rfl rfl) rfl rfl (by exact Rd.pk' rfl rfl hb34 rfl) ?_
 refine U.r rfl (.none rfl) rfl rfl (by exact Rd.pk' rfl rfl hb33 rfl) ?_
 refine U.ps 1 T rfl ?_
 refine U.pg 2 16 false 51 rfl T rfl rfl rfl rfl ?_
 refine U.e rfl (.take 16 false 51 _ rfl rfl rfl rfl) (by exact Eff.k (T_rules_Carried st s21.2 _ hm) en14 rfl rfl rfl (.eq rfl) (fun _ _ => ⟨(.v _), trivial⟩)) (fun x38' hm => ?_)
 obtain ⟨x38⟩ := x38'
 refine U.pg 1 16 false 51 rfl T rfl rfl rfl rfl ?_
 refine U.r rfl (.none rfl) rfl rfl (by exact Rd.pk' rfl rfl rfl rfl) ?_
 refine U.done ?_
 exact St.wk (hJ32 _ hm) (Wk.f [some 0, some 1] ⟨bX, bX, trivial⟩)
 refine C.exit (C.ex (C.ex (C.bex ?_)))
 exact St.wk (hJ20 _ hm) (Wk.e)
 refine U.start ?_
 refine U.ps 3 T rfl ?_
 refine hm.cs (fun hb5 hm => ?_) (fun hb5 hm => ?_)
 refine U.sks 5 2 false 15 hb5 rfl rfl rfl ?_
 refine U.r rfl (.none rfl) rfl rfl (by exact Rd.pk rfl rfl hb5 rfl) ?_
 refine U.ps 1 T rfl ?_
 refine U.done ?_
 exact St.wk (hJ4 _ hm) (Wk.f [some 0, some 1] ⟨bX, bX, trivial⟩)
 refine U.pg 5 2 false 15 hb5 T rfl rfl rfl rfl ?_
 refine U.r rfl (.none rfl) rfl rfl (by exact Rd.pk' rfl rfl hb5 rfl) ?_
 refine U.ps 1 T rfl ?_
 refine U.done ?_
 exact St.wk (hJ4 _ hm) (Wk.f [some 0, some 1] ⟨bX, bX, trivial⟩)
theorem T_taquinlaw12_small (post : Bool → Prop) (hm : V_taquinlaw12_small post) :
    Tr Try.prog 8 [] [] 0 (fun A H' k => ∃ y, post y ∧ A = (.b y) ∧ H' = [] ∧ k = 0) := by
 refine Tr.intro (n := 50) Try.func8 rfl Try.ntmps8 rfl (fun w0 ok F β hβ => ?_)
 unfold V_taquinlaw12_small at hm
 refine C.seq (U.start ?_)
 refine U.ps 1 T rfl ?_
 refine U.done (C.nx (C.seq (U.start ?_)))
 refine U.e rfl (.none rfl) (by exact Eff.c [] (v := false) (T_taquinlaw12_sample _ hm) en41 rfl rfl rfl (.eq rfl) trivial rfl rfl rfl rfl rfl rfl (fun h => by cases h) (.inr ⟨rfl, rfl⟩) (fun _ => rfl) (fun _ => rfl) rfl) (fun x5' hm => ?_)
 obtain ⟨x5⟩ := x5'
 refine U.ps 3 T rfl ?_
 refine U.e1 rfl (.none rfl) (by exact Eff1.al T rfl rfl rfl rfl) ?_
 refine U.e1 rfl (.none rfl) (by exact Eff1.al T rfl rfl rfl rfl) ?_
 refine U.e1 rfl (.none rfl) (by exact Eff1.st T rfl rfl rfl rfl rfl rfl rfl rfl rfl rfl) ?_
 refine U.e1 rfl (.none rfl) (by exact Eff1.st T rfl rfl rfl rfl rfl rfl rfl rfl rfl rfl) ?_
 refine U.done (C.nx (C.seq (U.start ?_)))
 refine U.ps 2 T rfl ?_
 refine U.e rfl (.none rfl) (by exact Eff.k (T_rules_Apart x5.1 x5.2 _ hm) en10 rfl rfl rfl (.cons (.agg (.cons (.eq rfl) (.cons (.eq rfl) (.cons (.eq rfl) (.cons (.fz rfl rfl rfl (.os fun _ => .cons (.ro rfl) .nil)) (.cons (.fz rfl rfl rfl (.os fun _ => .cons (.ro rfl) .nil)) (.cons (.fz rfl rfl rfl (.os fun _ => .cons (.ro rfl) (.cons (.ro rfl) (.cons (.ro rfl) (.cons (.ro rfl) (.cons (.ro rfl) .nil)))))) (.cons (.fz rfl rfl rfl (.os fun _ => .cons (.ro rfl) (.cons (.ro rfl) .nil))) (.cons (.fz rfl rfl rfl (.os fun _ => .cons (.ro rfl) (.cons (.ro rfl) .nil))) (.cons (.fz rfl rfl rfl (.os fun _ => .cons (.ro rfl) (.cons (.ro rfl) .nil))) .nil)))))))))) (.cons (.agg (.cons (.eq rfl) (.cons (.fz rfl rfl rfl (.os fun _ => .cons (.ro rfl) .nil)) (.cons (.fz rfl rfl rfl (.os fun _ => .cons (.ro rfl) (.cons (.ro rfl) (.cons (.ro rfl) (.cons (.ro rfl) (.cons (.ro rfl) (.cons (.ro rfl) .nil))))))) (.cons (.fz rfl rfl rfl (.os fun _ => .cons (.ro rfl) .nil)) (.cons (.fz rfl rfl rfl (.os fun _ => .cons (.ro rfl) .nil)) (.cons (.fz rfl rfl rfl (.os fun _ => .cons (.ro rfl) (.cons (.ro rfl) .nil))) .nil))))))) .nil)) (fun _ _ => ⟨(.tup (.cons (.v _) (.cons (.v _) (.cons (.v _) .nil)))), trivial⟩)) (fun x8' hm => ?_)
 obtain ⟨x8⟩ := x8'
 refine U.ps 7 T rfl ?_
 refine U.done (C.nx (C.seq ?_))
 refine C.jn (fun (x9 : Bool) => [(0, .b x9)]) (fun (x9 : Bool) => []) 0 hm (fun x9 hm => ?_) (fun J10 hm hJ10 => ?_)
 refine C.nx (C.ret ?_)
 exact C.f0 T (rs' := [.b x9]) hβ ⟨x9, hm, rfl, rfl, rfl⟩
 refine U.start ?_
 refine U.ps 1 T rfl ?_
 refine U.e rfl (.none rfl) (by exact Eff.k (T_rules_Speed x5.1 1 _ hm) en24 rfl rfl rfl (.cons (.agg (.cons (.eq rfl) (.cons (.eq rfl) (.cons (.eq rfl) (.cons (.fz rfl rfl rfl (.os fun _ => .cons (.ro rfl) .nil)) (.cons (.fz rfl rfl rfl (.os fun _ => .cons (.ro rfl) .nil)) (.cons (.fz rfl rfl rfl (.os fun _ => .cons (.ro rfl) (.cons (.ro rfl) (.cons (.ro rfl) (.cons (.ro rfl) (.cons (.ro rfl) .nil)))))) (.cons (.fz rfl rfl rfl (.os fun _ => .cons (.ro rfl) (.cons (.ro rfl) .nil))) (.cons (.fz rfl rfl rfl (.os fun _ => .cons (.ro rfl) (.cons (.ro rfl) .nil))) (.cons (.fz rfl rfl rfl (.os fun _ => .cons (.ro rfl) (.cons (.ro rfl) .nil))) .nil)))))))))) (.eq rfl)) (fun _ _ => ⟨(.v _), trivial⟩)) (fun x11' hm => ?_)
 obtain ⟨x11⟩ := x11'
 refine U.ps 2 T rfl ?_
 refine hm.cs (fun hb12 hm => ?_) (fun hb12 hm => ?_)
 refine U.pg 1 3 true 20 hb12 T rfl rfl rfl rfl ?_
 refine U.e rfl (.take 3 true 20 _ hb12 rfl rfl rfl) (by exact Eff.k (T_rules_Speed x5.1 2 _ hm) en24 rfl rfl rfl (.cons (.agg (.cons (.eq rfl) (.cons (.eq rfl) (.cons (.eq rfl) (.cons (.fz rfl rfl rfl (.os fun _ => .cons (.ro rfl) .nil)) (.cons (.fz rfl rfl rfl (.os fun _ => .cons (.ro rfl) .nil)) (.cons (.fz rfl rfl rfl (.os fun _ => .cons (.ro rfl) (.cons (.ro rfl) (.cons (.ro rfl) (.cons (.ro rfl) (.cons (.ro rfl) .nil)))))) (.cons (.fz rfl rfl rfl (.os fun _ => .cons (.ro rfl) (.cons (.ro rfl) .nil))) (.cons (.fz rfl rfl rfl (.os fun _ => .cons (.ro rfl) (.cons (.ro rfl) .nil))) (.cons (.fz rfl rfl rfl (.os fun _ => .cons (.ro rfl) (.cons (.ro rfl) .nil))) .nil)))))))))) (.eq rfl)) (fun _ _ => ⟨(.v _), trivial⟩)) (fun x13' hm => ?_)
 obtain ⟨x13⟩ := x13'
 refine U.pg 1 3 true 20 hb12 T rfl rfl rfl rfl ?_
 refine U.r rfl (.none rfl) rfl rfl (by exact Rd.pk rfl rfl hb12 rfl) ?_
 refine U.ps 1 T rfl ?_
 refine hm.cs (fun hb14 hm => ?_) (fun hb14 hm => ?_)
 refine U.pg 1 8 true 25 hb14 T rfl rfl rfl rfl ?_
 refine U.e rfl (.take 8 true 25 _ hb14 rfl rfl rfl) (by exact Eff.k (T_rules_Open x5.1 0 7 _ hm) en25 rfl rfl rfl (.cons (.agg (.cons (.eq rfl) (.cons (.eq rfl) (.cons (.eq rfl) (.cons (.fz rfl rfl rfl (.os fun _ => .cons (.ro rfl) .nil)) (.cons (.fz rfl rfl rfl (.os fun _ => .cons (.ro rfl) .nil)) (.cons (.fz rfl rfl rfl (.os fun _ => .cons (.ro rfl) (.cons (.ro rfl) (.cons (.ro rfl) (.cons (.ro rfl) (.cons (.ro rfl) .nil)))))) (.cons (.fz rfl rfl rfl (.os fun _ => .cons (.ro rfl) (.cons (.ro rfl) .nil))) (.cons (.fz rfl rfl rfl (.os fun _ => .cons (.ro rfl) (.cons (.ro rfl) .nil))) (.cons (.fz rfl rfl rfl (.os fun _ => .cons (.ro rfl) (.cons (.ro rfl) .nil))) .nil)))))))))) (.eq rfl)) (fun _ _ => ⟨(.v _), trivial⟩)) (fun x15' hm => ?_)
 obtain ⟨x15⟩ := x15'
 refine U.pg 1 8 true 25 hb14 T rfl rfl rfl rfl ?_
 refine U.r rfl (.none rfl) rfl rfl (by exact Rd.pk rfl rfl hb14 rfl) ?_
 refine U.ps 1 T rfl ?_
 refine hm.cs (fun hb16 hm => ?_) (fun hb16 hm => ?_)
 refine U.sks 2 13 true 30 (ntF hb16) rfl rfl rfl ?_
 refine U.r rfl (.none rfl) rfl rfl (by exact Rd.pk' rfl rfl (ntF hb16) rfl) ?_
 refine U.ps 1 T rfl ?_
 refine U.sks 4 17 true 34 rfl rfl rfl rfl ?_
 refine U.r rfl (.none rfl) rfl rfl (by exact Rd.pk' rfl rfl rfl rfl) ?_
 refine U.ps 1 T rfl ?_
 refine U.sks 4 23 true 40 rfl rfl rfl rfl ?_
 refine U.r rfl (.none rfl) rfl rfl (by exact Rd.pk' rfl rfl rfl rfl) ?_
 refine U.ps 1 T rfl ?_
 refine U.sks 2 29 true 46 rfl rfl rfl rfl ?_
 refine U.r rfl (.none rfl) rfl rfl (by exact Rd.pk' rfl rfl rfl rfl) ?_
 refine U.ps 1 T rfl ?_
 refine U.done ?_
 exact St.wk (hJ10 _ hm) (Wk.e)
 refine U.pg 1 13 true 30 (ntT hb16) T rfl rfl rfl rfl ?_
 refine U.e rfl (.take 13 true 30 _ (ntT hb16) rfl rfl rfl) (by exact Eff.k (T_rules_Open x5.1 0 8 _ hm) en25 rfl rfl rfl (.cons (.agg (.cons (.eq rfl) (.cons (.eq rfl) (.cons (.eq rfl) (.cons (.fz rfl rfl rfl (.os fun _ => .cons (.ro rfl) .nil)) (.cons (.fz rfl rfl rfl (.os fun _ => .cons (.ro rfl) .nil)) (.cons (.fz rfl rfl rfl (.os fun _ => .cons (.ro rfl) (.cons (.ro rfl) (.cons (.ro rfl) (.cons (.ro rfl) (.cons (.ro rfl) .nil)))))) (.cons (.fz rfl rfl rfl (.os fun _ => .cons (.ro rfl) (.cons (.ro rfl) .nil))) (.cons (.fz rfl rfl rfl (.os fun _ => .cons (.ro rfl) (.cons (.ro rfl) .nil))) (.cons (.fz rfl rfl rfl (.os fun _ => .cons (.ro rfl) (.cons (.ro rfl) .nil))) .nil)))))))))) (.eq rfl)) (fun _ _ => ⟨(.v _), trivial⟩)) (fun x17' hm => ?_)
 obtain ⟨x17⟩ := x17'
 refine U.r rfl (.none rfl) rfl rfl (by exact Rd.pk rfl rfl (ntT hb16) rfl) ?_
 refine U.ps 1 T rfl ?_
 refine hm.cs (fun hb18 hm => ?_) (fun hb18 hm => ?_)
 refine U.pg 2 17 true 34 hb18 T rfl rfl rfl rfl ?_
 refine U.e rfl (.take 17 true 34 _ hb18 rfl rfl rfl) (by exact Eff.k (T_rules_Room x5.1 x5.2 0 _ hm) en19 rfl rfl rfl (.cons (.agg (.cons (.eq rfl) (.cons (.eq rfl) (.cons (.eq rfl) (.cons (.fz rfl rfl rfl (.os fun _ => .cons (.ro rfl) .nil)) (.cons (.fz rfl rfl rfl (.os fun _ => .cons (.ro rfl) .nil)) (.cons (.fz rfl rfl rfl (.os fun _ => .cons (.ro rfl) (.cons (.ro rfl) (.cons (.ro rfl) (.cons (.ro rfl) (.cons (.ro rfl) .nil)))))) (.cons (.fz rfl rfl rfl (.os fun _ => .cons (.ro rfl) (.cons (.ro rfl) .nil))) (.cons (.fz rfl rfl rfl (.os fun _ => .cons (.ro rfl) (.cons (.ro rfl) .nil))) (.cons (.fz rfl rfl rfl (.os fun _ => .cons (.ro rfl) (.cons (.ro rfl) .nil))) .nil)))))))))) (.cons (.agg (.cons (.eq rfl) (.cons (.fz rfl rfl rfl (.os fun _ => .cons (.ro rfl) .nil)) (.cons (.fz rfl rfl rfl (.os fun _ => .cons (.ro rfl) (.cons (.ro rfl) (.cons (.ro rfl) (.cons (.ro rfl) (.cons (.ro rfl) (.cons (.ro rfl) .nil))))))) (.cons (.fz rfl rfl rfl (.os fun _ => .cons (.ro rfl) .nil)) (.cons (.fz rfl rfl rfl (.os fun _ => .cons (.ro rfl) .nil)) (.cons (.fz rfl rfl rfl (.os fun _ => .cons (.ro rfl) (.cons (.ro rfl) .nil))) .nil))))))) (.eq rfl))) (fun _ _ => ⟨(.v _), trivial⟩)) (fun x19' hm => ?_)
 obtain ⟨x19⟩ := x19'
 refine U.pg 1 17 true 34 hb18 T rfl rfl rfl rfl ?_
 refine U.r rfl (.none rfl) rfl rfl (by exact Rd.pk rfl rfl hb18 rfl) ?_
 refine U.ps 1 T rfl ?_
 refine hm.cs (fun hb20 hm => ?_) (fun hb20 hm => ?_)
 refine U.pg 2 23 true 40 hb20 T rfl rfl rfl rfl ?_
 refine U.e rfl (.take 23 true 40 _ hb20 rfl rfl rfl) (by exact Eff.k (T_rules_Drop x5.1 x5.2 1 1 _ hm) en15 rfl rfl rfl (.cons (.agg (.cons (.eq rfl) (.cons (.eq rfl) (.cons (.eq rfl) (.cons (.fz rfl rfl rfl (.os fun _ => .cons (.ro rfl) .nil)) (.cons (.fz rfl rfl rfl (.os fun _ => .cons (.ro rfl) .nil)) (.cons (.fz rfl rfl rfl (.os fun _ => .cons (.ro rfl) (.cons (.ro rfl) (.cons (.ro rfl) (.cons (.ro rfl) (.cons (.ro rfl) .nil)))))) (.cons (.fz rfl rfl rfl (.os fun _ => .cons (.ro rfl) (.cons (.ro rfl) .nil))) (.cons (.fz rfl rfl rfl (.os fun _ => .cons (.ro rfl) (.cons (.ro rfl) .nil))) (.cons (.fz rfl rfl rfl (.os fun _ => .cons (.ro rfl) (.cons (.ro rfl) .nil))) .nil)))))))))) (.cons (.agg (.cons (.eq rfl) (.cons (.fz rfl rfl rfl (.os fun _ => .cons (.ro rfl) .nil)) (.cons (.fz rfl rfl rfl (.os fun _ => .cons (.ro rfl) (.cons (.ro rfl) (.cons (.ro rfl) (.cons (.ro rfl) (.cons (.ro rfl) (.cons (.ro rfl) .nil))))))) (.cons (.fz rfl rfl rfl (.os fun _ => .cons (.ro rfl) .nil)) (.cons (.fz rfl rfl rfl (.os fun _ => .cons (.ro rfl) .nil)) (.cons (.fz rfl rfl rfl (.os fun _ => .cons (.ro rfl) (.cons (.ro rfl) .nil))) .nil))))))) (.eq rfl))) (fun _ _ => ⟨(.v _), trivial⟩)) (fun x21' hm => ?_)
 obtain ⟨x21⟩ := x21'
 refine U.pg 1 23 true 40 hb20 T rfl rfl rfl rfl ?_
 refine U.r rfl (.none rfl) rfl rfl (by exact Rd.pk rfl rfl hb20 rfl) ?_
 refine U.ps 1 T rfl ?_
 refine hm.cs (fun hb22 hm => ?_) (fun hb22 hm => ?_)
 refine U.pg 2 29 true 46 hb22 T rfl rfl rfl rfl ?_
 refine U.r rfl (.none rfl) rfl rfl (by exact Rd.pk rfl rfl hb22 rfl) ?_
 refine U.ps 1 T rfl ?_
 refine U.done ?_
 exact St.wk (hJ10 _ hm) (Wk.e)
 refine U.sks 2 29 true 46 hb22 rfl rfl rfl ?_
 refine U.r rfl (.none rfl) rfl rfl (by exact Rd.pk' rfl rfl hb22 rfl) ?_
 refine U.ps 1 T rfl ?_
 refine U.done ?_
 exact St.wk (hJ10 _ hm) (Wk.e)
 refine U.sks 4 23 true 40 hb20 rfl rfl rfl ?_
 refine U.r rfl (.none rfl) rfl rfl (by exact Rd.pk' rfl rfl hb20 rfl) ?_
 refine U.ps 1 T rfl ?_
 refine U.sks 2 29 true 46 rfl rfl rfl rfl ?_
 refine U.r rfl (.none rfl) rfl rfl (by exact Rd.pk' rfl rfl rfl rfl) ?_
 refine U.ps 1 T rfl ?_
 refine U.done ?_
 exact St.wk (hJ10 _ hm) (Wk.e)
 refine U.sks 4 17 true 34 hb18 rfl rfl rfl ?_
 refine U.r rfl (.none rfl) rfl rfl (by exact Rd.pk' rfl rfl hb18 rfl) ?_
 refine U.ps 1 T rfl ?_
 refine U.sks 4 23 true 40 rfl rfl rfl rfl ?_
 refine U.r rfl (.none rfl) rfl rfl (by exact Rd.pk' rfl rfl rfl rfl) ?_
 refine U.ps 1 T rfl ?_
 refine U.sks 2 29 true 46 rfl rfl rfl rfl ?_
 refine U.r rfl (.none rfl) rfl rfl (by exact Rd.pk' rfl rfl rfl rfl) ?_
 refine U.ps 1 T rfl ?_
 refine U.done ?_
 exact St.wk (hJ10 _ hm) (Wk.e)
 refine U.sks 3 8 true 25 hb14 rfl rfl rfl ?_
 refine U.r rfl (.none rfl) rfl rfl (by exact Rd.pk' rfl rfl hb14 rfl) ?_
 refine U.ps 1 T rfl ?_
 refine U.sks 2 13 true 30 rfl rfl rfl rfl ?_
 refine U.r rfl (.none rfl) rfl rfl (by exact Rd.pk' rfl rfl rfl rfl) ?_
 refine U.ps 1 T rfl ?_
 refine U.sks 4 17 true 34 rfl rfl rfl rfl ?_
 refine U.r rfl (.none rfl) rfl rfl (by exact Rd.pk' rfl rfl rfl rfl) ?_
 refine U.ps 1 T rfl ?_
 refine U.sks 4 23 true 40 rfl rfl rfl rfl ?_
 refine U.r rfl (.none rfl) rfl rfl (by exact Rd.pk' rfl rfl rfl rfl) ?_
 refine U.ps 1 T rfl ?_
 refine U.sks 2 29 true 46 rfl rfl rfl rfl ?_
 refine U.r rfl (.none rfl) rfl rfl (by exact Rd.pk' rfl rfl rfl rfl) ?_
 refine U.ps 1 T rfl ?_
 refine U.done ?_
 exact St.wk (hJ10 _ hm) (Wk.e)
 refine U.sks 3 3 true 20 hb12 rfl rfl rfl ?_
 refine U.r rfl (.none rfl) rfl rfl (by exact Rd.pk' rfl rfl hb12 rfl) ?_
 refine U.ps 1 T rfl ?_
 refine U.sks 3 8 true 25 rfl rfl rfl rfl ?_
 refine U.r rfl (.none rfl) rfl rfl (by exact Rd.pk' rfl rfl rfl rfl) ?_
 refine U.ps 1 T rfl ?_
 refine U.sks 2 13 true 30 rfl rfl rfl rfl ?_
 refine U.r rfl (.none rfl) rfl rfl (by exact Rd.pk' rfl rfl rfl rfl) ?_
 refine U.ps 1 T rfl ?_
 refine U.sks 4 17 true 34 rfl rfl rfl rfl ?_
 refine U.r rfl (.none rfl) rfl rfl (by exact Rd.pk' rfl rfl rfl rfl) ?_
 refine U.ps 1 T rfl ?_
 refine U.sks 4 23 true 40 rfl rfl rfl rfl ?_
 refine U.r rfl (.none rfl) rfl rfl (by exact Rd.pk' rfl rfl rfl rfl) ?_
 refine U.ps 1 T rfl ?_
 refine U.sks 2 29 true 46 rfl rfl rfl rfl ?_
 refine U.r rfl (.none rfl) rfl rfl (by exact Rd.pk' rfl rfl rfl rfl) ?_
 refine U.ps 1 T rfl ?_
 refine U.done ?_
 exact St.wk (hJ10 _ hm) (Wk.e)
theorem T_taquinref07_Few (f : ApiFloor) (n : Int) (post : Bool → Prop) (hm : V_taquinref07_Few f n post) :
    Tr Try.prog 60 [.agg (eApiFloor f), .i n] [] 0 (fun A H' k => ∃ y, post y ∧ A = (.b y) ∧ H' = [] ∧ k = 0) := by
 refine Tr.intro (n := 17) Try.func60 rfl Try.ntmps60 rfl (fun w0 ok F β hβ => ?_)
 unfold V_taquinref07_Few at hm
 refine C.seq (U.start ?_)
 refine U.e1 rfl (.none rfl) (by exact Eff1.box rfl rfl rfl rfl rfl) ?_
 refine U.ps 1 T rfl ?_
 refine U.done (C.nx (C.seq ?_))
 refine C.jn (fun (x3 : Bool) => [(4, .b x3)]) (fun (x3 : Bool) => []) 0 hm (fun x3 hm => ?_) (fun J4 hm hJ4 => ?_)
 refine C.nx (C.ret ?_)
 exact C.f0 T (rs' := [.b x3]) hβ ⟨x3, hm, rfl, rfl, rfl⟩
 refine U.start ?_
 refine U.ps 6 T rfl ?_
 refine hm.cs (fun hb5 hm => ?_) (fun hb5 hm => ?_)
 refine U.pg 5 5 true 10 hb5 T rfl rfl rfl rfl ?_
 refine U.r rfl (.none rfl) rfl rfl (by exact Rd.pk rfl rfl hb5 rfl) ?_
 refine U.ps 1 T rfl ?_
 refine U.done ?_
 exact St.wk (hJ4 _ hm) (Wk.e)
 refine U.sks 5 5 true 10 hb5 rfl rfl rfl ?_
 refine U.r rfl (.none rfl) rfl rfl (by exact Rd.pk' rfl rfl hb5 rfl) ?_
 refine U.ps 1 T rfl ?_
 refine U.done ?_
 exact St.wk (hJ4 _ hm) (Wk.e)
theorem T_taquinref11_Few (s_1 : ApiSite) (cells : Int) (most : Int) (post : Bool → Prop) (hm : V_taquinref11_Few s_1 cells most post) :
    Tr Try.prog 42 [.agg (eApiSite s_1), .i cells, .i most] [] 0 (fun A H' k => ∃ y, post y ∧ A = (.b y) ∧ H' = [] ∧ k = 0) := by
 refine Tr.intro (n := 133) Try.func42 rfl Try.ntmps42 rfl (fun w0 ok F β hβ => ?_)
 unfold V_taquinref11_Few at hm
 refine C.seq (U.start ?_)
 refine U.e1 rfl (.none rfl) (by exact Eff1.box rfl rfl rfl rfl rfl) ?_
 refine U.ps 1 T rfl ?_
 refine U.done (C.nx (C.seq (C.seq (U.start ?_))))
 refine U.ps 1 T rfl ?_
 refine U.done (C.nx ?_)
 refine C.jn (fun (x5 : Unit) => [(1, .i cells), (2, .i most), (3, .p 0 0)]) (fun (x5 : Unit) => [(0, .box (eApiSite s_1))]) 1 hm (fun x5 hm => ?_) (fun J6 hm hJ6 => ?_)
 refine C.nx (C.seq (C.seq (U.start ?_)))
 refine U.ps 1 T rfl ?_
 refine U.done (C.nx ?_)
 refine C.jn (fun (x25 : Unit) => [(1, .i cells), (2, .i most), (3, .p 0 0)]) (fun (x25 : Unit) => [(0, .box (eApiSite s_1))]) 1 hm (fun x25 hm => ?_) (fun J26 hm hJ26 => ?_)
 refine C.nx (C.seq (C.seq (U.start ?_)))
 refine U.ps 1 T rfl ?_
 refine U.done (C.nx ?_)
 refine C.jn (fun (x44 : Unit) => [(1, .i cells), (2, .i most), (3, .p 0 0)]) (fun (x44 : Unit) => [(0, .box (eApiSite s_1))]) 1 hm (fun x44 hm => ?_) (fun J45 hm hJ45 => ?_)
 refine C.nx (C.seq ?_)
 refine C.jn (fun (x60 : Bool) => [(6, .b x60)]) (fun (x60 : Bool) => []) 0 hm (fun x60 hm => ?_) (fun J61 hm hJ61 => ?_)
 refine C.nx (C.ret ?_)
 exact C.f0 T (rs' := [.b x60]) hβ ⟨x60, hm, rfl, rfl, rfl⟩
 refine U.start ?_
 refine U.ps 3 T rfl ?_
 refine U.e rfl (.none rfl) (by exact Eff.k (T_taquinref07_Few s_1.Floor cells _ hm) en60 rfl rfl rfl (.eq rfl) (fun _ _ => ⟨(.v _), trivial⟩)) (fun x62' hm => ?_)
 obtain ⟨x62⟩ := x62'
 refine U.ps 1 T rfl ?_
 refine hm.cs (fun hb63 hm => ?_) (fun hb63 hm => ?_)
 refine U.pg 5 4 true 105 hb63 T rfl rfl rfl rfl ?_
 refine U.r rfl (.none rfl) rfl rfl (by exact Rd.pk rfl rfl hb63 rfl) ?_
 refine U.ps 1 T rfl ?_
 refine hm.cs (fun hb64 hm => ?_) (fun hb64 hm => ?_)
 refine U.pg 5 11 true 112 hb64 T rfl rfl rfl rfl ?_
 refine U.r rfl (.none rfl) rfl rfl (by exact Rd.pk rfl rfl hb64 rfl) ?_
 refine U.ps 1 T rfl ?_
 refine hm.cs (fun hb65 hm => ?_) (fun hb65 hm => ?_)
 refine U.pg 5 18 true 119 hb65 T rfl rfl rfl rfl ?_
 refine U.r rfl (.none rfl) rfl rfl (by exact Rd.pk rfl rfl hb65 rfl) ?_
 refine U.ps 1 T rfl ?_
 refine hm.cs (fun hb66 hm => ?_) (fun hb66 hm => ?_)
 refine U.pg 5 25 true 126 hb66 T rfl rfl rfl rfl ?_
 refine U.r rfl (.none rfl) rfl rfl (by exact Rd.pk rfl rfl hb66 rfl) ?_
 refine U.ps 1 T rfl ?_
 refine U.done ?_
 exact St.wk (hJ61 _ hm) (Wk.e)
 refine U.sks 5 25 true 126 hb66 rfl rfl rfl ?_
 refine U.r rfl (.none rfl) rfl rfl (by exact Rd.pk' rfl rfl hb66 rfl) ?_
 refine U.ps 1 T rfl ?_
 refine U.done ?_
 exact St.wk (hJ61 _ hm) (Wk.e)
 refine U.sks 5 18 true 119 hb65 rfl rfl rfl ?_
 refine U.r rfl (.none rfl) rfl rfl (by exact Rd.pk' rfl rfl hb65 rfl) ?_
 refine U.ps 1 T rfl ?_
 refine U.sks 5 25 true 126 rfl rfl rfl rfl ?_
 refine U.r rfl (.none rfl) rfl rfl (by exact Rd.pk' rfl rfl rfl rfl) ?_
 refine U.ps 1 T rfl ?_
 refine U.done ?_
 exact St.wk (hJ61 _ hm) (Wk.e)
 refine U.sks 5 11 true 112 hb64 rfl rfl rfl ?_
 refine U.r rfl (.none rfl) rfl rfl (by exact Rd.pk' rfl rfl hb64 rfl) ?_
 refine U.ps 1 T rfl ?_
 refine U.sks 5 18 true 119 rfl rfl rfl rfl ?_
 refine U.r rfl (.none rfl) rfl rfl (by exact Rd.pk' rfl rfl rfl rfl) ?_
 refine U.ps 1 T rfl ?_
 refine U.sks 5 25 true 126 rfl rfl rfl rfl ?_
 refine U.r rfl (.none rfl) rfl rfl (by exact Rd.pk' rfl rfl rfl rfl) ?_
 refine U.ps 1 T rfl ?_
 refine U.done ?_
 exact St.wk (hJ61 _ hm) (Wk.e)
 refine U.sks 5 4 true 105 hb63 rfl rfl rfl ?_
 refine U.r rfl (.none rfl) rfl rfl (by exact Rd.pk' rfl rfl hb63 rfl) ?_
 refine U.ps 1 T rfl ?_
 refine U.sks 5 11 true 112 rfl rfl rfl rfl ?_
 refine U.r rfl (.none rfl) rfl rfl (by exact Rd.pk' rfl rfl rfl rfl) ?_
 refine U.ps 1 T rfl ?_
 refine U.sks 5 18 true 119 rfl rfl rfl rfl ?_
 refine U.r rfl (.none rfl) rfl rfl (by exact Rd.pk' rfl rfl rfl rfl) ?_
 refine U.ps 1 T rfl ?_
 refine U.sks 5 25 true 126 rfl rfl rfl rfl ?_
 refine U.r rfl (.none rfl) rfl rfl (by exact Rd.pk' rfl rfl rfl rfl) ?_
 refine U.ps 1 T rfl ?_
 refine U.done ?_
 exact St.wk (hJ61 _ hm) (Wk.e)
 refine C.block ?_
 refine St.wk (C.loop (fun (s46 : Int) => [(1, .i cells), (2, .i most), (3, .p 0 0), (9, .i s46)]) (fun (s46 : Int) => [(0, .box (eApiSite s_1))]) hm (fun s46 Y47 hm => ?_)) (Wk.f [some 0] ⟨bX, trivial⟩)
 refine C.seq (C.seq ?_)
 refine C.jn (fun (x48 : Bool) => [(1, .i cells), (2, .i most), (3, .p 0 0), (9, .i s46), (90, .b x48)]) (fun (x48 : Bool) => [(0, .box (eApiSite s_1))]) 1 hm (fun x48 hm => ?_) (fun J49 hm hJ49 => ?_)
 refine C.nx ?_
 refine C.ite rfl hm (fun hb51 hm => ?_) (fun hb51 hm => ?_)
 refine C.skip (C.nx (C.seq (C.block (C.seq (U.start ?_)))))
 refine U.ps 3 T rfl ?_
 obtain ⟨x54, hx54, hm⟩ := hm
 refine U.r rfl (.none rfl) rfl rfl (by exact Rd.ix T rfl rfl rfl rfl rfl rfl hx54) ?_
 refine U.ps 4 T rfl ?_
 refine U.done (C.nx ?_)
 refine C.ite rfl hm (fun hb55 hm => ?_) (fun hb55 hm => ?_)
 refine C.seq (U.start ?_)
 refine U.ps 1 T rfl ?_
 refine U.done (C.nx (C.ret (C.brt (C.rt (C.rt (C.brt (C.rt ?_)))))))
 exact C.f0 T (rs' := [.b false]) hβ ⟨false, hm, rfl, rfl, rfl⟩
 refine C.skip (C.bnx (C.nx (U.start ?_)))
 refine U.ps 3 T rfl ?_
 refine U.done (C.nx ?_)
 exact St.wk (C.next hm) (Wk.f [some 0] ⟨bX, trivial⟩)
 refine C.exit (C.ex (C.ex (C.bex ?_)))
 exact St.wk (hJ45 _ hm) (Wk.f [some 0] ⟨bX, trivial⟩)
 refine U.start ?_
 refine U.ps 6 T rfl ?_
 refine hm.cs (fun hb50 hm => ?_) (fun hb50 hm => ?_)
 refine U.pg 3 5 true 86 hb50 T rfl rfl rfl rfl ?_
 refine U.r rfl (.none rfl) rfl rfl (by exact Rd.pk rfl rfl hb50 rfl) ?_
 refine U.done ?_
 exact St.wk (hJ49 _ hm) (Wk.f [some 0] ⟨bX, trivial⟩)
 refine U.sks 3 5 true 86 hb50 rfl rfl rfl ?_
 refine U.r rfl (.none rfl) rfl rfl (by exact Rd.pk' rfl rfl hb50 rfl) ?_
 refine U.done ?_
 exact St.wk (hJ49 _ hm) (Wk.f [some 0] ⟨bX, trivial⟩)
 refine C.block ?_
 refine St.wk (C.loop (fun (s27 : Int) => [(1, .i cells), (2, .i most), (3, .p 0 0), (8, .i s27)]) (fun (s27 : Int) => [(0, .box (eApiSite s_1))]) hm (fun s27 Y28 hm => ?_)) (Wk.f [some 0] ⟨bX, trivial⟩)
 refine C.seq (C.seq ?_)
 refine C.jn (fun (x29 : Bool) => [(1, .i cells), (2, .i most), (3, .p 0 0), (8, .i s27), (60, .b x29)]) (fun (x29 : Bool) => [(0, .box (eApiSite s_1))]) 1 hm (fun x29 hm => ?_) (fun J30 hm hJ30 => ?_)
 refine C.nx ?_
 refine C.ite rfl hm (fun hb32 hm => ?_) (fun hb32 hm => ?_)
 refine C.skip (C.nx (C.seq (C.block (C.seq ?_))))
 refine C.jn (fun (x33 : Bool) => [(1, .i cells), (2, .i most), (3, .p 0 0), (8, .i s27), (80, .b x33)]) (fun (x33 : Bool) => [(0, .box (eApiSite s_1))]) 1 hm (fun x33 hm => ?_) (fun J34 hm hJ34 => ?_)
 refine C.nx ?_
 refine C.ite rfl hm (fun hb37 hm => ?_) (fun hb37 hm => ?_)
 refine C.seq (U.start ?_)
 refine U.ps 1 T rfl ?_
 refine U.done (C.nx (C.ret (C.brt (C.rt (C.rt (C.brt (C.rt ?_)))))))
 exact C.f0 T (rs' := [.b false]) hβ ⟨false, hm, rfl, rfl, rfl⟩
 refine C.skip (C.bnx (C.nx (U.start ?_)))
 refine U.ps 3 T rfl ?_
 refine U.done (C.nx ?_)
 exact St.wk (C.next hm) (Wk.f [some 0] ⟨bX, trivial⟩)
 refine U.start ?_
 refine U.ps 3 T rfl ?_
 obtain ⟨x35, hx35, hm⟩ := hm
 refine U.r rfl (.none rfl) rfl rfl (by exact Rd.ix T rfl rfl rfl rfl rfl rfl hx35) ?_
 refine U.ps 5 T rfl ?_
 refine hm.cs (fun hb36 hm => ?_) (fun hb36 hm => ?_)
 refine U.sks 8 8 false 71 hb36 rfl rfl rfl ?_
 refine U.r rfl (.none rfl) rfl rfl (by exact Rd.pk rfl rfl hb36 rfl) ?_
 refine U.done ?_
 exact St.wk (hJ34 _ hm) (Wk.f [some 0] ⟨bX, trivial⟩)
 refine U.pg 3 8 false 71 hb36 T rfl rfl rfl rfl ?_
 refine U.r rfl (.take 8 false 71 _ hb36 rfl rfl rfl) rfl rfl (by exact Rd.ix T rfl rfl rfl rfl rfl rfl hx35) ?_
 refine U.pg 4 8 false 71 hb36 T rfl rfl rfl rfl ?_
 refine U.r rfl (.none rfl) rfl rfl (by exact Rd.pk' rfl rfl hb36 rfl) ?_
 refine U.done ?_
 exact St.wk (hJ34 _ hm) (Wk.f [some 0] ⟨bX, trivial⟩)
 refine C.exit (C.ex (C.ex (C.bex ?_)))
 exact St.wk (hJ26 _ hm) (Wk.f [some 0] ⟨bX, trivial⟩)
 refine U.start ?_
 refine U.ps 6 T rfl ?_
 refine hm.cs (fun hb31 hm => ?_) (fun hb31 hm => ?_)
 refine U.pg 3 5 true 56 hb31 T rfl rfl rfl rfl ?_
 refine U.r rfl (.none rfl) rfl rfl (by exact Rd.pk rfl rfl hb31 rfl) ?_
 refine U.done ?_
 exact St.wk (hJ30 _ hm) (Wk.f [some 0] ⟨bX, trivial⟩)
 refine U.sks 3 5 true 56 hb31 rfl rfl rfl ?_
 refine U.r rfl (.none rfl) rfl rfl (by exact Rd.pk' rfl rfl hb31 rfl) ?_
 refine U.done ?_
 exact St.wk (hJ30 _ hm) (Wk.f [some 0] ⟨bX, trivial⟩)
 refine C.block ?_
 refine St.wk (C.loop (fun (s7 : Int) => [(1, .i cells), (2, .i most), (3, .p 0 0), (7, .i s7)]) (fun (s7 : Int) => [(0, .box (eApiSite s_1))]) hm (fun s7 Y8 hm => ?_)) (Wk.f [some 0] ⟨bX, trivial⟩)
 refine C.seq (C.seq ?_)
 refine C.jn (fun (x9 : Bool) => [(1, .i cells), (2, .i most), (3, .p 0 0), (7, .i s7), (19, .b x9)]) (fun (x9 : Bool) => [(0, .box (eApiSite s_1))]) 1 hm (fun x9 hm => ?_) (fun J10 hm hJ10 => ?_)
 refine C.nx ?_
 refine C.ite rfl hm (fun hb12 hm => ?_) (fun hb12 hm => ?_)
 refine C.skip (C.nx (C.seq (C.block (C.seq ?_))))
 refine C.jn (fun (x13 : Bool) => [(1, .i cells), (2, .i most), (3, .p 0 0), (7, .i s7), (50, .b x13)]) (fun (x13 : Bool) => [(0, .box (eApiSite s_1))]) 1 hm (fun x13 hm => ?_) (fun J14 hm hJ14 => ?_)
 refine C.nx ?_
 refine C.ite rfl hm (fun hb18 hm => ?_) (fun hb18 hm => ?_)
 refine C.seq (U.start ?_)
 refine U.ps 1 T rfl ?_
 refine U.done (C.nx (C.ret (C.brt (C.rt (C.rt (C.brt (C.rt ?_)))))))
 exact C.f0 T (rs' := [.b false]) hβ ⟨false, hm, rfl, rfl, rfl⟩
 refine C.skip (C.bnx (C.nx (U.start ?_)))
 refine U.ps 3 T rfl ?_
 refine U.done (C.nx ?_)
 exact St.wk (C.next hm) (Wk.f [some 0] ⟨bX, trivial⟩)
 refine U.start ?_
 refine U.ps 3 T rfl ?_
 obtain ⟨x15, hx15, hm⟩ := hm
 refine U.r rfl (.none rfl) rfl rfl (by exact Rd.ix T rfl rfl rfl rfl rfl rfl hx15) ?_
 refine U.ps 6 T rfl ?_
 refine hm.cs (fun hb16 hm => ?_) (fun hb16 hm => ?_)
 refine U.sks 8 9 false 31 hb16 rfl rfl rfl ?_
 refine U.r rfl (.none rfl) rfl rfl (by exact Rd.pk rfl rfl hb16 rfl) ?_
 refine U.ps 1 T rfl ?_
 refine U.sks 8 19 false 41 rfl rfl rfl rfl ?_
 refine U.r rfl (.none rfl) rfl rfl (by exact Rd.pk rfl rfl rfl rfl) ?_
 refine U.done ?_
 exact St.wk (hJ14 _ hm) (Wk.f [some 0] ⟨bX, trivial⟩)
 refine U.pg 3 9 false 31 hb16 T rfl rfl rfl rfl ?_
 refine U.r rfl (.take 9 false 31 _ hb16 rfl rfl rfl) rfl rfl (by exact Rd.ix T rfl rfl rfl rfl rfl rfl hx15) ?_
 refine U.pg 4 9 false 31 hb16 T rfl rfl rfl rfl ?_
 refine U.r rfl (.none rfl) rfl rfl (by exact Rd.pk' rfl rfl hb16 rfl) ?_
 refine U.ps 1 T rfl ?_
 refine hm.cs (fun hb17 hm => ?_) (fun hb17 hm => ?_)
 refine U.sks 8 19 false 41 hb17 rfl rfl rfl ?_
 refine U.r rfl (.none rfl) rfl rfl (by exact Rd.pk rfl rfl hb17 rfl) ?_
 refine U.done ?_
 exact St.wk (hJ14 _ hm) (Wk.f [some 0] ⟨bX, trivial⟩)
 refine U.pg 3 19 false 41 hb17 T rfl rfl rfl rfl ?_
 refine U.r rfl (.take 19 false 41 _ hb17 rfl rfl rfl) rfl rfl (by exact Rd.ix T rfl rfl rfl rfl rfl rfl hx15) ?_
 refine U.pg 4 19 false 41 hb17 T rfl rfl rfl rfl ?_
 refine U.r rfl (.none rfl) rfl rfl (by exact Rd.pk' rfl rfl hb17 rfl) ?_
 refine U.done ?_
 exact St.wk (hJ14 _ hm) (Wk.f [some 0] ⟨bX, trivial⟩)
 refine C.exit (C.ex (C.ex (C.bex ?_)))
 exact St.wk (hJ6 _ hm) (Wk.f [some 0] ⟨bX, trivial⟩)
 refine U.start ?_
 refine U.ps 6 T rfl ?_
 refine hm.cs (fun hb11 hm => ?_) (fun hb11 hm => ?_)
 refine U.pg 3 5 true 15 hb11 T rfl rfl rfl rfl ?_
 refine U.r rfl (.none rfl) rfl rfl (by exact Rd.pk rfl rfl hb11 rfl) ?_
 refine U.done ?_
 exact St.wk (hJ10 _ hm) (Wk.f [some 0] ⟨bX, trivial⟩)
 refine U.sks 3 5 true 15 hb11 rfl rfl rfl ?_
 refine U.r rfl (.none rfl) rfl rfl (by exact Rd.pk' rfl rfl hb11 rfl) ?_
 refine U.done ?_
 exact St.wk (hJ10 _ hm) (Wk.f [some 0] ⟨bX, trivial⟩)
theorem T_floor_Right (f : ApiFloor) (post : Bool → Prop) (hm : V_floor_Right f post) :
    Tr Try.prog 61 [.agg (eApiFloor f)] [] 0 (fun A H' k => ∃ y, post y ∧ A = (.b y) ∧ H' = [] ∧ k = 0) := by
 refine Tr.intro (n := 76) Try.func61 rfl Try.ntmps61 rfl (fun w0 ok F β hβ => ?_)
 unfold V_floor_Right at hm
 refine C.seq (U.start ?_)
 refine U.e1 rfl (.none rfl) (by exact Eff1.box rfl rfl rfl rfl rfl) ?_
 refine U.ps 1 T rfl ?_
 refine U.done (C.nx (C.seq (C.seq ?_)))
 refine C.jn (fun (x3 : Bool) => [(1, .p 0 0), (26, .b x3)]) (fun (x3 : Bool) => [(0, .box (eApiFloor f))]) 1 hm (fun x3 hm => ?_) (fun J4 hm hJ4 => ?_)
 refine C.nx ?_
 refine C.ite rfl hm (fun hb7 hm => ?_) (fun hb7 hm => ?_)
 refine C.seq (U.start ?_)
 refine U.ps 1 T rfl ?_
 refine U.done (C.nx (C.ret (C.rt ?_)))
 exact C.f0 T (rs' := [.b false]) hβ ⟨false, hm, rfl, rfl, rfl⟩
 refine C.skip (C.nx (C.seq (U.start ?_)))
 refine U.ps 1 T rfl ?_
 refine U.e rfl (.none rfl) (by exact Eff.k (T_floor_size f _ hm) en86 rfl rfl rfl (.eq rfl) (fun _ _ => ⟨(.v _), trivial⟩)) (fun x12' hm => ?_)
 obtain ⟨x12⟩ := x12'
 refine U.ps 1 T rfl ?_
 refine U.done (C.nx (C.seq (C.seq ?_)))
 refine C.jn (fun (x13 : Bool) => [(1, .p 0 0), (44, .b x13)]) (fun (x13 : Bool) => [(0, .box (eApiFloor f))]) 1 hm (fun x13 hm => ?_) (fun J14 hm hJ14 => ?_)
 refine C.nx ?_
 refine C.ite rfl hm (fun hb17 hm => ?_) (fun hb17 hm => ?_)
 refine C.seq (U.start ?_)
 refine U.ps 1 T rfl ?_
 refine U.done (C.nx (C.ret (C.rt ?_)))
 exact C.f0 T (rs' := [.b false]) hβ ⟨false, hm, rfl, rfl, rfl⟩
 refine C.skip (C.nx (C.seq (C.seq (U.start ?_))))
 refine U.ps 4 T rfl ?_
 refine U.done (C.nx ?_)
 refine C.jn (fun (x22 : Unit) => []) (fun (x22 : Unit) => []) 0 hm (fun x22 hm => ?_) (fun J23 hm hJ23 => ?_)
 refine C.nx (C.seq (U.start ?_))
 refine U.ps 1 T rfl ?_
 refine U.done (C.nx (C.ret ?_))
 exact C.f0 T (rs' := [.b true]) hβ ⟨true, hm, rfl, rfl, rfl⟩
 refine C.block ?_
 refine St.wk (C.loop (fun (s24 : Int) => [(1, .p 0 0), (46, .sl 1 eI f.Kind), (47, .i (f.Kind.length : Int)), (48, .i s24)]) (fun (s24 : Int) => [(0, .box (eApiFloor f))]) hm (fun s24 Y25 hm => ?_)) (Wk.f [some 0] ⟨bX, trivial⟩)
 refine C.seq (U.start ?_)
 refine U.ps 1 T rfl ?_
 refine U.done (C.nx (C.seq ?_))
 refine C.ite rfl hm (fun hb28 hm => ?_) (fun hb28 hm => ?_)
 refine C.skip (C.nx (C.seq (C.block (C.seq (U.start ?_)))))
 refine U.ps 1 T rfl ?_
 obtain ⟨x31, hx31, hm⟩ := hm
 refine U.r rfl (.none rfl) rfl rfl (by exact Rd.ix T rfl rfl rfl rfl rfl rfl hx31) ?_
 refine U.ps 3 T rfl ?_
 refine U.done (C.nx (C.seq ?_))
 refine C.jn (fun (x32 : Bool) => [(1, .p 0 0), (46, .sl 1 eI f.Kind), (47, .i (f.Kind.length : Int)), (48, .i s24), (74, .b x32)]) (fun (x32 : Bool) => [(0, .box (eApiFloor f))]) 1 hm (fun x32 hm => ?_) (fun J33 hm hJ33 => ?_)
 refine C.nx ?_
 refine C.ite rfl hm (fun hb38 hm => ?_) (fun hb38 hm => ?_)
 refine C.seq (U.start ?_)
 refine U.ps 1 T rfl ?_
 refine U.done (C.nx (C.ret (C.brt (C.rt (C.rt (C.brt (C.rt ?_)))))))
 exact C.f0 T (rs' := [.b false]) hβ ⟨false, hm, rfl, rfl, rfl⟩
 refine C.skip (C.bnx (C.nx (U.start ?_)))
 refine U.ps 2 T rfl ?_
 refine U.done (C.nx ?_)
 exact St.wk (C.next hm) (Wk.f [some 0] ⟨bX, trivial⟩)
 refine U.start ?_
 refine U.ps 3 T rfl ?_
 refine hm.cs (fun hb34 hm => ?_) (fun hb34 hm => ?_)
 refine U.sks 2 2 false 55 hb34 rfl rfl rfl ?_
 refine U.r rfl (.none rfl) rfl rfl (by exact Rd.pk rfl rfl hb34 rfl) ?_
 refine U.ps 1 T rfl ?_
 refine U.sks 6 6 false 59 rfl rfl rfl rfl ?_
 refine U.r rfl (.none rfl) rfl rfl (by exact Rd.pk rfl rfl rfl rfl) ?_
 refine U.ps 1 T rfl ?_
 refine U.sks 6 14 false 67 rfl rfl rfl rfl ?_
 refine U.r rfl (.none rfl) rfl rfl (by exact Rd.pk rfl rfl rfl rfl) ?_
 refine U.done ?_
 exact St.wk (hJ33 _ hm) (Wk.f [some 0] ⟨bX, trivial⟩)
 refine U.pg 2 2 false 55 hb34 T rfl rfl rfl rfl ?_
 refine U.r rfl (.none rfl) rfl rfl (by exact Rd.pk' rfl rfl hb34 rfl) ?_
 refine U.ps 1 T rfl ?_
 refine hm.cs (fun hb35 hm => ?_) (fun hb35 hm => ?_)
 refine U.sks 6 6 false 59 hb35 rfl rfl rfl ?_
 refine U.r rfl (.none rfl) rfl rfl (by exact Rd.pk rfl rfl hb35 rfl) ?_
 refine U.ps 1 T rfl ?_
 refine U.sks 6 14 false 67 rfl rfl rfl rfl ?_
 refine U.r rfl (.none rfl) rfl rfl (by exact Rd.pk rfl rfl rfl rfl) ?_
 refine U.done ?_
 exact St.wk (hJ33 _ hm) (Wk.f [some 0] ⟨bX, trivial⟩)
 refine U.pg 3 6 false 59 hb35 T rfl rfl rfl rfl ?_
 obtain ⟨x36, hx36, hm⟩ := hm
 refine U.r rfl (.take 6 false 59 _ hb35 rfl rfl rfl) rfl rfl (by exact Rd.ix T rfl rfl rfl rfl rfl rfl hx36) ?_
 refine U.pg 2 6 false 59 hb35 T rfl rfl rfl rfl ?_
 refine U.r rfl (.none rfl) rfl rfl (by exact Rd.pk' rfl rfl hb35 rfl) ?_
 refine U.ps 1 T rfl ?_
 refine hm.cs (fun hb37 hm => ?_) (fun hb37 hm => ?_)
 refine U.sks 6 14 false 67 hb37 rfl rfl rfl ?_
 refine U.r rfl (.none rfl) rfl rfl (by exact Rd.pk rfl rfl hb37 rfl) ?_
 refine U.done ?_
 exact St.wk (hJ33 _ hm) (Wk.f [some 0] ⟨bX, trivial⟩)
 refine U.pg 3 14 false 67 hb37 T rfl rfl rfl rfl ?_
 refine U.r rfl (.take 14 false 67 _ hb37 rfl rfl rfl) rfl rfl (by exact Rd.ix T rfl rfl rfl rfl rfl rfl hx36) ?_
 refine U.pg 2 14 false 67 hb37 T rfl rfl rfl rfl ?_
 refine U.r rfl (.none rfl) rfl rfl (by exact Rd.pk' rfl rfl hb37 rfl) ?_
 refine U.done ?_
 exact St.wk (hJ33 _ hm) (Wk.f [some 0] ⟨bX, trivial⟩)
 refine C.exit (C.ex (C.ex (C.bex ?_)))
 exact St.wk (hJ23 _ hm) (Wk.mk' [] rfl rfl trivial trivial rfl)
 refine U.start ?_
 refine U.ps 3 T rfl ?_
 refine hm.cs (fun hb15 hm => ?_) (fun hb15 hm => ?_)
 refine U.sks 5 2 false 31 hb15 rfl rfl rfl ?_
 refine U.r rfl (.none rfl) rfl rfl (by exact Rd.pk rfl rfl hb15 rfl) ?_
 refine U.ps 1 T rfl ?_
 refine U.sks 5 9 false 38 rfl rfl rfl rfl ?_
 refine U.r rfl (.none rfl) rfl rfl (by exact Rd.pk rfl rfl rfl rfl) ?_
 refine U.done ?_
 exact St.wk (hJ14 _ hm) (Wk.f [some 0] ⟨bX, trivial⟩)
 refine U.pg 5 2 false 31 hb15 T rfl rfl rfl rfl ?_
 refine U.r rfl (.none rfl) rfl rfl (by exact Rd.pk' rfl rfl hb15 rfl) ?_
 refine U.ps 1 T rfl ?_
 refine hm.cs (fun hb16 hm => ?_) (fun hb16 hm => ?_)
 refine U.sks 5 9 false 38 hb16 rfl rfl rfl ?_
 refine U.r rfl (.none rfl) rfl rfl (by exact Rd.pk rfl rfl hb16 rfl) ?_
 refine U.done ?_
 exact St.wk (hJ14 _ hm) (Wk.f [some 0] ⟨bX, trivial⟩)
 refine U.pg 5 9 false 38 hb16 T rfl rfl rfl rfl ?_
 refine U.r rfl (.none rfl) rfl rfl (by exact Rd.pk' rfl rfl hb16 rfl) ?_
 refine U.done ?_
 exact St.wk (hJ14 _ hm) (Wk.f [some 0] ⟨bX, trivial⟩)
 refine U.start ?_
 refine U.ps 9 T rfl ?_
 refine hm.cs (fun hb5 hm => ?_) (fun hb5 hm => ?_)
 refine U.sks 3 8 false 14 hb5 rfl rfl rfl ?_
 refine U.r rfl (.none rfl) rfl rfl (by exact Rd.pk rfl rfl hb5 rfl) ?_
 refine U.ps 1 T rfl ?_
 refine U.sks 6 13 false 19 rfl rfl rfl rfl ?_
 refine U.r rfl (.none rfl) rfl rfl (by exact Rd.pk rfl rfl rfl rfl) ?_
 refine U.done ?_
 exact St.wk (hJ4 _ hm) (Wk.f [some 0] ⟨bX, trivial⟩)
 refine U.pg 3 8 false 14 hb5 T rfl rfl rfl rfl ?_
 refine U.r rfl (.none rfl) rfl rfl (by exact Rd.pk' rfl rfl hb5 rfl) ?_
 refine U.ps 1 T rfl ?_
 refine hm.cs (fun hb6 hm => ?_) (fun hb6 hm => ?_)
 refine U.sks 6 13 false 19 hb6 rfl rfl rfl ?_
 refine U.r rfl (.none rfl) rfl rfl (by exact Rd.pk rfl rfl hb6 rfl) ?_
 refine U.done ?_
 exact St.wk (hJ4 _ hm) (Wk.f [some 0] ⟨bX, trivial⟩)
 refine U.pg 6 13 false 19 hb6 T rfl rfl rfl rfl ?_
 refine U.r rfl (.none rfl) rfl rfl (by exact Rd.pk' rfl rfl hb6 rfl) ?_
 refine U.done ?_
 exact St.wk (hJ4 _ hm) (Wk.f [some 0] ⟨bX, trivial⟩)
theorem T_survey_newMaker (f : ApiFloor) (post : SurveyMaker → Prop) (hm : V_survey_newMaker f post) :
    Tr Try.prog 62 [.agg (eApiFloor f)] [] 0 (fun A H' k => ∃ y, post y ∧ A = (.p 11 0) ∧ H' = [(0, .val (.os 5 eApiZone y.site.Zones)), (1, .val (.os 2 eApiApart y.site.Aparts)), (2, .val (.os 2 eApiShelf y.site.Shelves)), (3, .val (.os 2 eApiStart y.site.Robots)), (4, .val (.om kI veI y.shelf)), (5, .val (.om kI veB y.robot)), (6, .val (.om kI veB y.zoned)), (7, .val (.om kS veI y.names)), (8, .val (.om kI veB y.oneways)), (9, .val (.os 1 eI y.shelves)), (10, .val (.os 1 eI y.zones)), (11, .box [.i y.site.Floor.W, .i y.site.Floor.H, .i y.site.Floor.D, .sl 1 eI y.site.Floor.Kind, .sl 1 eI y.site.Floor.Out, .o 0, .o 1, .o 2, .o 3, .o 4, .o 5, .o 6, .o 7, .o 8, .o 9, .o 10])] ∧ k = 12) := by
 refine Tr.intro (n := 12) Try.func62 rfl Try.ntmps62 rfl (fun w0 ok F β hβ => ?_)
 unfold V_survey_newMaker at hm
 refine C.seq (U.start ?_)
 refine U.e1 rfl (.none rfl) (by exact Eff1.box rfl rfl rfl rfl rfl) ?_
 refine U.ps 1 T rfl ?_
 refine U.done (C.nx (C.seq (U.start ?_)))
 refine U.ps 2 T rfl ?_
 refine U.e1 rfl (.none rfl) (by exact Eff1.mm kI veI rfl rfl rfl) ?_
 refine U.e1 rfl (.none rfl) (by exact Eff1.mm kI veB rfl rfl rfl) ?_
 refine U.e1 rfl (.none rfl) (by exact Eff1.mm kI veB rfl rfl rfl) ?_
 refine U.e1 rfl (.none rfl) (by exact Eff1.mm kS veI rfl rfl rfl) ?_
 refine U.e1 rfl (.none rfl) (by exact Eff1.mm kI veB rfl rfl rfl) ?_
 refine U.ps 1 T rfl ?_
 refine U.e1 rfl (.none rfl) (by exact Eff1.box rfl rfl rfl rfl rfl) ?_
 refine U.ps 1 T rfl ?_
 refine U.done (C.nx (C.ret ?_))
 exact C.fin T (rs' := [.p 11 0]) (H' := [(0, .val (.os 5 eApiZone (({ site := ({ Floor := f, Zones := [], Aparts := [], Shelves := [], Robots := [] : ApiSite }), shelf := ([] : List (Int × Int)), robot := ([] : List (Int × Bool)), zoned := ([] : List (Int × Bool)), names := ([] : List (ByteArray × Int)), oneways := ([] : List (Int × Bool)), shelves := [], zones := [] : SurveyMaker }).site.Zones))), (1, .val (.os 2 eApiApart (({ site := ({ Floor := f, Zones := [], Aparts := [], Shelves := [], Robots := [] : ApiSite }), shelf := ([] : List (Int × Int)), robot := ([] : List (Int × Bool)), zoned := ([] : List (Int × Bool)), names := ([] : List (ByteArray × Int)), oneways := ([] : List (Int × Bool)), shelves := [], zones := [] : SurveyMaker }).site.Aparts))), (2, .val (.os 2 eApiShelf (({ site := ({ Floor := f, Zones := [], Aparts := [], Shelves := [], Robots := [] : ApiSite }), shelf := ([] : List (Int × Int)), robot := ([] : List (Int × Bool)), zoned := ([] : List (Int × Bool)), names := ([] : List (ByteArray × Int)), oneways := ([] : List (Int × Bool)), shelves := [], zones := [] : SurveyMaker }).site.Shelves))), (3, .val (.os 2 eApiStart (({ site := ({ Floor := f, Zones := [], Aparts := [], Shelves := [], Robots := [] : ApiSite }), shelf := ([] : List (Int × Int)), robot := ([] : List (Int × Bool)), zoned := ([] : List (Int × Bool)), names := ([] : List (ByteArray × Int)), oneways := ([] : List (Int × Bool)), shelves := [], zones := [] : SurveyMaker }).site.Robots))), (4, .val (.om kI veI (({ site := ({ Floor := f, Zones := [], Aparts := [], Shelves := [], Robots := [] : ApiSite }), shelf := ([] : List (Int × Int)), robot := ([] : List (Int × Bool)), zoned := ([] : List (Int × Bool)), names := ([] : List (ByteArray × Int)), oneways := ([] : List (Int × Bool)), shelves := [], zones := [] : SurveyMaker }).shelf))), (5, .val (.om kI veB (({ site := ({ Floor := f, Zones := [], Aparts := [], Shelves := [], Robots := [] : ApiSite }), shelf := ([] : List (Int × Int)), robot := ([] : List (Int × Bool)), zoned := ([] : List (Int × Bool)), names := ([] : List (ByteArray × Int)), oneways := ([] : List (Int × Bool)), shelves := [], zones := [] : SurveyMaker }).robot))), (6, .val (.om kI veB (({ site := ({ Floor := f, Zones := [], Aparts := [], Shelves := [], Robots := [] : ApiSite }), shelf := ([] : List (Int × Int)), robot := ([] : List (Int × Bool)), zoned := ([] : List (Int × Bool)), names := ([] : List (ByteArray × Int)), oneways := ([] : List (Int × Bool)), shelves := [], zones := [] : SurveyMaker }).zoned))), (7, .val (.om kS veI (({ site := ({ Floor := f, Zones := [], Aparts := [], Shelves := [], Robots := [] : ApiSite }), shelf := ([] : List (Int × Int)), robot := ([] : List (Int × Bool)), zoned := ([] : List (Int × Bool)), names := ([] : List (ByteArray × Int)), oneways := ([] : List (Int × Bool)), shelves := [], zones := [] : SurveyMaker }).names))), (8, .val (.om kI veB (({ site := ({ Floor := f, Zones := [], Aparts := [], Shelves := [], Robots := [] : ApiSite }), shelf := ([] : List (Int × Int)), robot := ([] : List (Int × Bool)), zoned := ([] : List (Int × Bool)), names := ([] : List (ByteArray × Int)), oneways := ([] : List (Int × Bool)), shelves := [], zones := [] : SurveyMaker }).oneways))), (9, .val (.os 1 eI (({ site := ({ Floor := f, Zones := [], Aparts := [], Shelves := [], Robots := [] : ApiSite }), shelf := ([] : List (Int × Int)), robot := ([] : List (Int × Bool)), zoned := ([] : List (Int × Bool)), names := ([] : List (ByteArray × Int)), oneways := ([] : List (Int × Bool)), shelves := [], zones := [] : SurveyMaker }).shelves))), (10, .val (.os 1 eI (({ site := ({ Floor := f, Zones := [], Aparts := [], Shelves := [], Robots := [] : ApiSite }), shelf := ([] : List (Int × Int)), robot := ([] : List (Int × Bool)), zoned := ([] : List (Int × Bool)), names := ([] : List (ByteArray × Int)), oneways := ([] : List (Int × Bool)), shelves := [], zones := [] : SurveyMaker }).zones))), (11, .box [.i (({ site := ({ Floor := f, Zones := [], Aparts := [], Shelves := [], Robots := [] : ApiSite }), shelf := ([] : List (Int × Int)), robot := ([] : List (Int × Bool)), zoned := ([] : List (Int × Bool)), names := ([] : List (ByteArray × Int)), oneways := ([] : List (Int × Bool)), shelves := [], zones := [] : SurveyMaker }).site.Floor.W), .i (({ site := ({ Floor := f, Zones := [], Aparts := [], Shelves := [], Robots := [] : ApiSite }), shelf := ([] : List (Int × Int)), robot := ([] : List (Int × Bool)), zoned := ([] : List (Int × Bool)), names := ([] : List (ByteArray × Int)), oneways := ([] : List (Int × Bool)), shelves := [], zones := [] : SurveyMaker }).site.Floor.H), .i (({ site := ({ Floor := f, Zones := [], Aparts := [], Shelves := [], Robots := [] : ApiSite }), shelf := ([] : List (Int × Int)), robot := ([] : List (Int × Bool)), zoned := ([] : List (Int × Bool)), names := ([] : List (ByteArray × Int)), oneways := ([] : List (Int × Bool)), shelves := [], zones := [] : SurveyMaker }).site.Floor.D), .sl 1 eI (({ site := ({ Floor := f, Zones := [], Aparts := [], Shelves := [], Robots := [] : ApiSite }), shelf := ([] : List (Int × Int)), robot := ([] : List (Int × Bool)), zoned := ([] : List (Int × Bool)), names := ([] : List (ByteArray × Int)), oneways := ([] : List (Int × Bool)), shelves := [], zones := [] : SurveyMaker }).site.Floor.Kind), .sl 1 eI (({ site := ({ Floor := f, Zones := [], Aparts := [], Shelves := [], Robots := [] : ApiSite }), shelf := ([] : List (Int × Int)), robot := ([] : List (Int × Bool)), zoned := ([] : List (Int × Bool)), names := ([] : List (ByteArray × Int)), oneways := ([] : List (Int × Bool)), shelves := [], zones := [] : SurveyMaker }).site.Floor.Out), .o 0, .o 1, .o 2, .o 3, .o 4, .o 5, .o 6, .o 7, .o 8, .o 9, .o 10])]) (nl' := 12) [none, none, none, none, some 1, some 2, some 3, some 4, some 5, none, none, some 6] rfl rfl (.eq rfl) ⟨⟨_, rfl, .nil _ _⟩, ⟨_, rfl, .nil _ _⟩, ⟨_, rfl, .nil _ _⟩, ⟨_, rfl, .nil _ _⟩, vL, vL, vL, vL, vL, ⟨_, rfl, .nil _ _⟩, ⟨_, rfl, .nil _ _⟩, ⟨_, rfl, .box rfl (.cons (.eq rfl) (.cons (.eq rfl) (.cons (.eq rfl) (.cons (.eq rfl) (.cons (.eq rfl) (.cons (.nilO _ _ ⟨rfl, rfl⟩ rfl) (.cons (.nilO _ _ ⟨rfl, rfl⟩ rfl) (.cons (.nilO _ _ ⟨rfl, rfl⟩ rfl) (.cons (.nilO _ _ ⟨rfl, rfl⟩ rfl) (.cons (.eq rfl) (.cons (.eq rfl) (.cons (.eq rfl) (.cons (.eq rfl) (.cons (.eq rfl) (.cons (.nilO _ _ ⟨rfl, rfl⟩ rfl) (.cons (.nilO _ _ ⟨rfl, rfl⟩ rfl) .nil))))))))))))))))⟩, trivial⟩ rfl rfl rfl rfl hβ ⟨({ site := ({ Floor := f, Zones := [], Aparts := [], Shelves := [], Robots := [] : ApiSite }), shelf := ([] : List (Int × Int)), robot := ([] : List (Int × Bool)), zoned := ([] : List (Int × Bool)), names := ([] : List (ByteArray × Int)), oneways := ([] : List (Int × Bool)), shelves := [], zones := [] : SurveyMaker }), hm, rfl, rfl, rfl⟩
def ibR87 : Go.Shelf.Ren := ⟨fun | 137 => 87 | 217 => 98 | 266 => 101 | n => n, fun | 3 => 3 | 5 => 5 | 9 => 9 | n => n, fun n => n⟩
theorem ibL87 : Go.Proofs.Lays.n137 Try.prog ibR87 where
  mixed := by kernel_rfl
  f137 := Try.func87.trans (congrArg some (by kernel_rfl))
  f217 := Try.func98.trans (congrArg some (by kernel_rfl))
  f266 := Try.func101.trans (congrArg some (by kernel_rfl))
  t3 := Try.underlying3
  a3 := Try.isAgg3
  z3 := Try.sizeOf3
  v3 := Try.zeroValue3
  t5 := Try.underlying5
  a5 := Try.isAgg5
  z5 := Try.sizeOf5
  v5 := Try.zeroValue5
  t9 := Try.underlying9
  a9 := Try.isAgg9
  z9 := Try.sizeOf9
  v9 := Try.zeroValue9
theorem T_strings_IndexByte (s_1 : ByteArray) (c : Int) (post : Int → Prop) (hm : V_strings_IndexByte s_1 c post) :
    Tr Try.prog 87 [.v (.string s_1), .v (.int .u8 c)] [] 0 (fun A H' k => ∃ y, post y ∧ A = (.i y) ∧ H' = [] ∧ k = 0) := Tr.indexByte ibL87 s_1 c hm
theorem T_survey_Name (s_1 : ByteArray) (post : Bool → Prop) (hm : V_survey_Name s_1 post) :
    Tr Try.prog 63 [.v (.string s_1)] [] 0 (fun A H' k => ∃ y, post y ∧ A = (.b y) ∧ H' = [] ∧ k = 0) := by
 refine Tr.intro (n := 33) Try.func63 rfl Try.ntmps63 rfl (fun w0 ok F β hβ => ?_)
 unfold V_survey_Name at hm
 refine C.seq (U.start ?_)
 refine U.ps 1 T rfl ?_
 refine U.done (C.nx (C.seq (C.seq ?_)))
 refine C.jn (fun (x3 : Bool) => [(0, .v (.string s_1)), (21, .b x3)]) (fun (x3 : Bool) => []) 0 hm (fun x3 hm => ?_) (fun J4 hm hJ4 => ?_)
 refine C.nx ?_
 refine C.ite rfl hm (fun hb9 hm => ?_) (fun hb9 hm => ?_)
 refine C.seq (U.start ?_)
 refine U.ps 1 T rfl ?_
 refine U.done (C.nx (C.ret (C.rt ?_)))
 exact C.f0 T (rs' := [.b false]) hβ ⟨false, hm, rfl, rfl, rfl⟩
 refine C.skip (C.nx (C.seq (C.seq (U.start ?_))))
 refine U.ps 3 T rfl ?_
 refine U.done (C.nx ?_)
 refine C.jn (fun (x14 : Unit) => []) (fun (x14 : Unit) => []) 0 hm (fun x14 hm => ?_) (fun J15 hm hJ15 => ?_)
 refine C.nx (C.seq (U.start ?_))
 refine U.ps 1 T rfl ?_
 refine U.done (C.nx (C.ret ?_))
 exact C.f0 T (rs' := [.b true]) hβ ⟨true, hm, rfl, rfl, rfl⟩
 refine C.block ?_
 refine St.wk (C.loop (fun (s16 : Int) => [(0, .v (.string s_1)), (23, .i (s_1.size : Int)), (24, .i s16)]) (fun (s16 : Int) => []) hm (fun s16 Y17 hm => ?_)) (Wk.e)
 refine C.seq (U.start ?_)
 refine U.ps 1 T rfl ?_
 refine U.done (C.nx (C.seq ?_))
 refine C.ite rfl hm (fun hb20 hm => ?_) (fun hb20 hm => ?_)
 refine C.skip (C.nx (C.seq (C.block (C.seq (U.start ?_)))))
 refine U.ps 2 T rfl ?_
 refine U.done (C.nx (C.seq (U.start ?_)))
 refine U.ps 2 T rfl ?_
 obtain ⟨x25, hx25, hm⟩ := hm
 refine U.r rfl (.none rfl) rfl rfl (by exact Rd.ib T rfl rfl rfl rfl hx25) ?_
 refine U.e rfl (.none rfl) (by exact Eff.k (T_strings_IndexByte (ByteArray.mk #[97, 98, 99, 100, 101, 102, 103, 104, 105, 106, 107, 108, 109, 110, 111, 112, 113, 114, 115, 116, 117, 118, 119, 120, 121, 122, 65, 66, 67, 68, 69, 70, 71, 72, 73, 74, 75, 76, 77, 78, 79, 80, 81, 82, 83, 84, 85, 86, 87, 88, 89, 90, 48, 49, 50, 51, 52, 53, 54, 55, 56, 57, 95, 45]) (x25.toNat : Int) _ hm) en87 rfl rfl rfl (.eq rfl) (fun _ _ => ⟨(.v _), trivial⟩)) (fun x26' hm => ?_)
 obtain ⟨x26⟩ := x26'
 refine U.ps 1 T rfl ?_
 refine U.done (C.nx ?_)
 refine C.ite rfl hm (fun hb27 hm => ?_) (fun hb27 hm => ?_)
 refine C.seq (U.start ?_)
 refine U.ps 1 T rfl ?_
 refine U.done (C.nx (C.ret (C.brt (C.rt (C.rt (C.brt (C.rt ?_)))))))
 exact C.f0 T (rs' := [.b false]) hβ ⟨false, hm, rfl, rfl, rfl⟩
 refine C.skip (C.bnx (C.nx (U.start ?_)))
 refine U.ps 2 T rfl ?_
 refine U.done (C.nx ?_)
 exact St.wk (C.next hm) (Wk.e)
 refine C.exit (C.ex (C.ex (C.bex ?_)))
 exact St.wk (hJ15 _ hm) (Wk.mk' [] rfl rfl trivial trivial rfl)
 refine U.start ?_
 refine U.ps 4 T rfl ?_
 refine hm.cs (fun hb5 hm => ?_) (fun hb5 hm => ?_)
 refine U.sks 3 3 false 7 hb5 rfl rfl rfl ?_
 refine U.r rfl (.none rfl) rfl rfl (by exact Rd.pk rfl rfl hb5 rfl) ?_
 refine U.ps 1 T rfl ?_
 refine U.sks 4 8 false 12 rfl rfl rfl rfl ?_
 refine U.sku 3 12 true 16 rfl rfl rfl ?_
 refine U.sks 1 8 false 12 rfl rfl rfl rfl ?_
 refine U.r rfl (.none rfl) rfl rfl (by exact Rd.pk rfl rfl rfl rfl) ?_
 refine U.done ?_
 exact St.wk (hJ4 _ hm) (Wk.e)
 refine U.pg 3 3 false 7 hb5 T rfl rfl rfl rfl ?_
 refine U.r rfl (.none rfl) rfl rfl (by exact Rd.pk' rfl rfl hb5 rfl) ?_
 refine U.ps 1 T rfl ?_
 refine hm.cs (fun hb6 hm => ?_) (fun hb6 hm => ?_)
 refine U.sks 4 8 false 12 hb6 rfl rfl rfl ?_
 refine U.sku 3 12 true 16 rfl rfl rfl ?_
 refine U.sks 1 8 false 12 hb6 rfl rfl rfl ?_
 refine U.r rfl (.none rfl) rfl rfl (by exact Rd.pk rfl rfl hb6 rfl) ?_
 refine U.done ?_
 exact St.wk (hJ4 _ hm) (Wk.e)
 refine U.pg 1 8 false 12 hb6 T rfl rfl rfl rfl ?_
 obtain ⟨x7, hx7, hm⟩ := hm
 refine U.r rfl (.take 8 false 12 _ hb6 rfl rfl rfl) rfl rfl (by exact Rd.ib T rfl rfl rfl rfl hx7) ?_
 refine U.pg 2 8 false 12 hb6 T rfl rfl rfl rfl ?_
 refine hm.cs (fun hb8 hm => ?_) (fun hb8 hm => ?_)
 refine U.pg 1 12 true 16 hb8 T rfl rfl rfl rfl ?_
 refine U.r rfl (.take 12 true 16 _ hb8 rfl rfl rfl) rfl rfl (by exact Rd.ib T rfl rfl rfl rfl hx7) ?_
 refine U.pg 1 12 true 16 hb8 T rfl rfl rfl rfl ?_
 refine U.r rfl (.take 8 false 12 _ hb6 rfl rfl rfl) rfl rfl (by exact Rd.pk rfl rfl hb8 rfl) ?_
 refine U.r rfl (.none rfl) rfl rfl (by exact Rd.pk' rfl rfl hb6 rfl) ?_
 refine U.done ?_
 exact St.wk (hJ4 _ hm) (Wk.e)
 refine U.sks 3 12 true 16 hb8 rfl rfl rfl ?_
 refine U.r rfl (.take 8 false 12 _ hb6 rfl rfl rfl) rfl rfl (by exact Rd.pk' rfl rfl hb8 rfl) ?_
 refine U.r rfl (.none rfl) rfl rfl (by exact Rd.pk' rfl rfl hb6 rfl) ?_
 refine U.done ?_
 exact St.wk (hJ4 _ hm) (Wk.e)
theorem T_survey_within (n : Int) (from_1 : Int) (to_1 : Int) (post : Bool → Prop) (hm : V_survey_within n from_1 to_1 post) :
    Tr Try.prog 64 [.i n, .i from_1, .i to_1] [] 0 (fun A H' k => ∃ y, post y ∧ A = (.b y) ∧ H' = [] ∧ k = 0) := by
 refine Tr.intro (n := 15) Try.func64 rfl Try.ntmps64 rfl (fun w0 ok F β hβ => ?_)
 unfold V_survey_within at hm
 refine C.seq (U.start ?_)
 refine U.ps 1 T rfl ?_
 refine U.done (C.nx (C.seq ?_))
 refine C.jn (fun (x3 : Bool) => [(6, .b x3)]) (fun (x3 : Bool) => []) 0 hm (fun x3 hm => ?_) (fun J4 hm hJ4 => ?_)
 refine C.nx (C.ret ?_)
 exact C.f0 T (rs' := [.b x3]) hβ ⟨x3, hm, rfl, rfl, rfl⟩
 refine U.start ?_
 refine U.ps 4 T rfl ?_
 refine hm.cs (fun hb5 hm => ?_) (fun hb5 hm => ?_)
 refine U.pg 3 3 true 10 hb5 T rfl rfl rfl rfl ?_
 refine U.r rfl (.none rfl) rfl rfl (by exact Rd.pk rfl rfl hb5 rfl) ?_
 refine U.ps 1 T rfl ?_
 refine U.done ?_
 exact St.wk (hJ4 _ hm) (Wk.e)
 refine U.sks 3 3 true 10 hb5 rfl rfl rfl ?_
 refine U.r rfl (.none rfl) rfl rfl (by exact Rd.pk' rfl rfl hb5 rfl) ?_
 refine U.ps 1 T rfl ?_
 refine U.done ?_
 exact St.wk (hJ4 _ hm) (Wk.e)
theorem T_survey_shut (l : List ApiSpan) (post : Bool → Prop) (hm : V_survey_shut l post) :
    Tr Try.prog 65 [.sl 2 eApiSpan l] [] 0 (fun A H' k => ∃ y, post y ∧ A = (.b y) ∧ H' = [] ∧ k = 0) := by
 refine Tr.intro (n := 31) Try.func65 rfl Try.ntmps65 rfl (fun w0 ok F β hβ => ?_)
 unfold V_survey_shut at hm
 refine C.seq (U.start ?_)
 refine U.ps 1 T rfl ?_
 refine U.done (C.nx (C.seq (U.start ?_)))
 refine U.ps 1 T rfl ?_
 refine U.done (C.nx (C.seq (C.seq (U.start ?_))))
 refine U.ps 3 T rfl ?_
 refine U.done (C.nx ?_)
 refine C.jn (fun (x7 : Unit) => []) (fun (x7 : Unit) => []) 0 hm (fun x7 hm => ?_) (fun J8 hm hJ8 => ?_)
 refine C.nx (C.seq (U.start ?_))
 refine U.ps 1 T rfl ?_
 refine U.done (C.nx (C.ret ?_))
 exact C.f0 T (rs' := [.b true]) hβ ⟨true, hm, rfl, rfl, rfl⟩
 refine C.block ?_
 refine St.wk (C.loop (fun (s9 : Int × Int) => [(3, .i s9.1), (6, .sl 2 eApiSpan l), (7, .i (l.length : Int)), (8, .i s9.2)]) (fun (s9 : Int × Int) => []) hm (fun s9 Y10 hm => ?_)) (Wk.e)
 refine C.seq (U.start ?_)
 refine U.ps 1 T rfl ?_
 refine U.done (C.nx (C.seq ?_))
 refine C.ite rfl hm (fun hb13 hm => ?_) (fun hb13 hm => ?_)
 refine C.skip (C.nx (C.seq (C.block (C.seq (U.start ?_)))))
 obtain ⟨x16, hx16, hm⟩ := hm
 refine U.r rfl (.none rfl) rfl rfl (by exact Rd.ix T rfl rfl rfl rfl rfl rfl hx16) ?_
 refine U.ps 1 T rfl ?_
 refine U.e1 rfl (.none rfl) (by exact Eff1.al T rfl rfl rfl rfl) ?_
 refine U.e1 rfl (.none rfl) (by exact Eff1.st T rfl rfl rfl rfl rfl rfl rfl rfl rfl rfl) ?_
 refine U.done (C.nx (C.seq (C.seq ?_)))
 refine C.jn (fun (x17 : Bool) => [(5, .p 0 0), (6, .sl 2 eApiSpan l), (7, .i (l.length : Int)), (8, .i s9.2), (27, .b x17)]) (fun (x17 : Bool) => [(0, .box [.i x16.From, .i x16.To])]) 1 hm (fun x17 hm => ?_) (fun J18 hm hJ18 => ?_)
 refine C.nx ?_
 refine C.ite rfl hm (fun hb21 hm => ?_) (fun hb21 hm => ?_)
 refine C.seq (U.start ?_)
 refine U.ps 1 T rfl ?_
 refine U.done (C.nx (C.ret (C.rt (C.brt (C.rt (C.rt (C.brt (C.rt ?_))))))))
 exact C.f0 T (rs' := [.b false]) hβ ⟨false, hm, rfl, rfl, rfl⟩
 refine C.skip (C.nx (U.start ?_))
 refine U.ps 3 T rfl ?_
 refine U.done (C.bnx (C.nx (U.start ?_)))
 refine U.ps 2 T rfl ?_
 refine U.done (C.nx ?_)
 exact St.wk (C.next hm) (Wk.e)
 refine U.start ?_
 refine U.ps 5 T rfl ?_
 refine hm.cs (fun hb19 hm => ?_) (fun hb19 hm => ?_)
 refine U.sks 5 4 false 16 hb19 rfl rfl rfl ?_
 refine U.r rfl (.none rfl) rfl rfl (by exact Rd.pk rfl rfl hb19 rfl) ?_
 refine U.ps 1 T rfl ?_
 refine U.sks 3 11 false 23 rfl rfl rfl rfl ?_
 refine U.r rfl (.none rfl) rfl rfl (by exact Rd.pk rfl rfl rfl rfl) ?_
 refine U.done ?_
 exact St.wk (hJ18 _ hm) (Wk.f [some 0] ⟨bX, trivial⟩)
 refine U.pg 5 4 false 16 hb19 T rfl rfl rfl rfl ?_
 refine U.r rfl (.none rfl) rfl rfl (by exact Rd.pk' rfl rfl hb19 rfl) ?_
 refine U.ps 1 T rfl ?_
 refine hm.cs (fun hb20 hm => ?_) (fun hb20 hm => ?_)
 refine U.sks 3 11 false 23 hb20 rfl rfl rfl ?_
 refine U.r rfl (.none rfl) rfl rfl (by exact Rd.pk rfl rfl hb20 rfl) ?_
 refine U.done ?_
 exact St.wk (hJ18 _ hm) (Wk.f [some 0] ⟨bX, trivial⟩)
 refine U.pg 3 11 false 23 hb20 T rfl rfl rfl rfl ?_
 refine U.r rfl (.none rfl) rfl rfl (by exact Rd.pk' rfl rfl hb20 rfl) ?_
 refine U.done ?_
 exact St.wk (hJ18 _ hm) (Wk.f [some 0] ⟨bX, trivial⟩)
 refine C.exit (C.ex (C.ex (C.bex ?_)))
 exact St.wk (hJ8 _ hm) (Wk.mk' [] rfl rfl trivial trivial rfl)
theorem T_survey_maker_kindAt (m : SurveyMaker) (c : Int) (post : (Int × Bool) → Prop) (hm : V_survey_maker_kindAt m c post) :
    Tr Try.prog 88 [.rp [.i m.site.Floor.W, .i m.site.Floor.H, .i m.site.Floor.D, .sl 1 eI m.site.Floor.Kind, .sl 1 eI m.site.Floor.Out, .sl 5 eApiZone m.site.Zones, .sl 2 eApiApart m.site.Aparts, .sl 2 eApiShelf m.site.Shelves, .sl 2 eApiStart m.site.Robots, .rm kI veI m.shelf, .rm kI veB m.robot, .rm kI veB m.zoned, .rm kS veI m.names, .rm kI veB m.oneways, .sl 1 eI m.shelves, .sl 1 eI m.zones], .i c] [] 0 (fun A H' k => ∃ y, post y ∧ A = (.tup [.i y.1, .b y.2]) ∧ H' = [] ∧ k = 0) := by
 refine Tr.intro (n := 28) Try.func88 rfl Try.ntmps88 rfl (fun w0 ok F β hβ => ?_)
 unfold V_survey_maker_kindAt at hm
 refine C.seq (U.start ?_)
 refine U.ps 2 T rfl ?_
 refine U.done (C.nx (C.seq (C.seq ?_)))
 refine C.jn (fun (x3 : Bool) => [(0, .rp [.i m.site.Floor.W, .i m.site.Floor.H, .i m.site.Floor.D, .sl 1 eI m.site.Floor.Kind, .sl 1 eI m.site.Floor.Out, .sl 5 eApiZone m.site.Zones, .sl 2 eApiApart m.site.Aparts, .sl 2 eApiShelf m.site.Shelves, .sl 2 eApiStart m.site.Robots, .rm kI veI m.shelf, .rm kI veB m.robot, .rm kI veB m.zoned, .rm kS veI m.names, .rm kI veB m.oneways, .sl 1 eI m.shelves, .sl 1 eI m.zones]), (1, .i c), (18, .b x3)]) (fun (x3 : Bool) => []) 0 hm (fun x3 hm => ?_) (fun J4 hm hJ4 => ?_)
 refine C.nx ?_
 refine C.ite rfl hm (fun hb6 hm => ?_) (fun hb6 hm => ?_)
 refine C.seq (U.start ?_)
 refine U.ps 2 T rfl ?_
 refine U.done (C.nx (C.ret (C.rt ?_)))
 exact C.f0 T (rs' := [.i ((0, false).1), .b ((0, false).2)]) hβ ⟨(0, false), hm, rfl, rfl, rfl⟩
 refine C.skip (C.nx (C.seq (U.start ?_)))
 refine U.ps 7 T rfl ?_
 obtain ⟨x11, hx11, hm⟩ := hm
 refine U.r rfl (.none rfl) rfl rfl (by exact Rd.ix T rfl rfl rfl rfl rfl rfl hx11) ?_
 refine U.ps 3 T rfl ?_
 refine U.done (C.nx (C.ret ?_))
 exact C.f0 T (rs' := [.i ((x11, true).1), .b ((x11, true).2)]) hβ ⟨(x11, true), hm, rfl, rfl, rfl⟩
 refine U.start ?_
 refine U.ps 3 T rfl ?_
 refine hm.cs (fun hb5 hm => ?_) (fun hb5 hm => ?_)
 refine U.sks 9 2 false 8 hb5 rfl rfl rfl ?_
 refine U.r rfl (.none rfl) rfl rfl (by exact Rd.pk rfl rfl hb5 rfl) ?_
 refine U.done ?_
 exact St.wk (hJ4 _ hm) (Wk.e)
 refine U.pg 9 2 false 8 hb5 T rfl rfl rfl rfl ?_
 refine U.r rfl (.none rfl) rfl rfl (by exact Rd.pk' rfl rfl hb5 rfl) ?_
 refine U.done ?_
 exact St.wk (hJ4 _ hm) (Wk.e)
theorem T_survey_maker_cells (m : SurveyMaker) (l : List Int) (post : Bool → Prop) (hm : V_survey_maker_cells m l post) :
    Tr Try.prog 66 [.rp [.i m.site.Floor.W, .i m.site.Floor.H, .i m.site.Floor.D, .sl 1 eI m.site.Floor.Kind, .sl 1 eI m.site.Floor.Out, .sl 5 eApiZone m.site.Zones, .sl 2 eApiApart m.site.Aparts, .sl 2 eApiShelf m.site.Shelves, .sl 2 eApiStart m.site.Robots, .rm kI veI m.shelf, .rm kI veB m.robot, .rm kI veB m.zoned, .rm kS veI m.names, .rm kI veB m.oneways, .sl 1 eI m.shelves, .sl 1 eI m.zones], .sl 1 eI l] [] 0 (fun A H' k => ∃ y, post y ∧ A = (.b y) ∧ H' = [] ∧ k = 0) := by
 refine Tr.intro (n := 41) Try.func66 rfl Try.ntmps66 rfl (fun w0 ok F β hβ => ?_)
 unfold V_survey_maker_cells at hm
 refine C.seq (U.start ?_)
 refine U.ps 1 T rfl ?_
 refine U.done (C.nx (C.seq (C.seq (U.start ?_))))
 refine U.ps 3 T rfl ?_
 refine U.done (C.nx ?_)
 refine C.jn (fun (x5 : Unit) => [(1, .sl 1 eI l)]) (fun (x5 : Unit) => []) 0 hm (fun x5 hm => ?_) (fun J6 hm hJ6 => ?_)
 refine C.nx (C.seq (U.start ?_))
 refine U.ps 4 T rfl ?_
 refine U.done (C.nx (C.ret ?_))
 exact C.f0 T (rs' := [.b (decide ((l.length : Int) > 0))]) hβ ⟨decide ((l.length : Int) > 0), hm, rfl, rfl, rfl⟩
 refine C.block ?_
 refine St.wk (C.loop (fun (s7 : Int) => [(0, .rp [.i m.site.Floor.W, .i m.site.Floor.H, .i m.site.Floor.D, .sl 1 eI m.site.Floor.Kind, .sl 1 eI m.site.Floor.Out, .sl 5 eApiZone m.site.Zones, .sl 2 eApiApart m.site.Aparts, .sl 2 eApiShelf m.site.Shelves, .sl 2 eApiStart m.site.Robots, .rm kI veI m.shelf, .rm kI veB m.robot, .rm kI veB m.zoned, .rm kS veI m.names, .rm kI veB m.oneways, .sl 1 eI m.shelves, .sl 1 eI m.zones]), (1, .sl 1 eI l), (9, .sl 1 eI l), (10, .i (l.length : Int)), (11, .i s7)]) (fun (s7 : Int) => []) hm (fun s7 Y8 hm => ?_)) (Wk.e)
 refine C.seq (U.start ?_)
 refine U.ps 1 T rfl ?_
 refine U.done (C.nx (C.seq ?_))
 refine C.ite rfl hm (fun hb11 hm => ?_) (fun hb11 hm => ?_)
 refine C.skip (C.nx (C.seq (C.block (C.seq (U.start ?_)))))
 refine U.ps 1 T rfl ?_
 obtain ⟨x14, hx14, hm⟩ := hm
 refine U.r rfl (.none rfl) rfl rfl (by exact Rd.ix T rfl rfl rfl rfl rfl rfl hx14) ?_
 refine U.ps 3 T rfl ?_
 refine U.done (C.nx (C.seq (U.start ?_)))
 refine U.ps 2 T rfl ?_
 refine U.e rfl (.none rfl) (by exact Eff.k (T_survey_maker_kindAt m x14 _ hm) en88 rfl rfl rfl (.eq rfl) (fun _ _ => ⟨(.tup (.cons (.v _) (.cons (.v _) .nil))), trivial⟩)) (fun x17' hm => ?_)
 obtain ⟨x17⟩ := x17'
 refine U.ps 5 T rfl ?_
 refine U.done (C.nx (C.seq ?_))
 refine C.jn (fun (x18 : Bool) => [(0, .rp [.i m.site.Floor.W, .i m.site.Floor.H, .i m.site.Floor.D, .sl 1 eI m.site.Floor.Kind, .sl 1 eI m.site.Floor.Out, .sl 5 eApiZone m.site.Zones, .sl 2 eApiApart m.site.Aparts, .sl 2 eApiShelf m.site.Shelves, .sl 2 eApiStart m.site.Robots, .rm kI veI m.shelf, .rm kI veB m.robot, .rm kI veB m.zoned, .rm kS veI m.names, .rm kI veB m.oneways, .sl 1 eI m.shelves, .sl 1 eI m.zones]), (1, .sl 1 eI l), (9, .sl 1 eI l), (10, .i (l.length : Int)), (11, .i s7), (36, .b x18)]) (fun (x18 : Bool) => []) 0 hm (fun x18 hm => ?_) (fun J19 hm hJ19 => ?_)
 refine C.nx ?_
 refine C.ite rfl hm (fun hb23 hm => ?_) (fun hb23 hm => ?_)
 refine C.seq (U.start ?_)
 refine U.ps 1 T rfl ?_
 refine U.done (C.nx (C.ret (C.brt (C.rt (C.rt (C.brt (C.rt ?_)))))))
 exact C.f0 T (rs' := [.b false]) hβ ⟨false, hm, rfl, rfl, rfl⟩
 refine C.skip (C.bnx (C.nx (U.start ?_)))
 refine U.ps 2 T rfl ?_
 refine U.done (C.nx ?_)
 exact St.wk (C.next hm) (Wk.e)
 refine U.start ?_
 refine U.ps 3 T rfl ?_
 refine hm.cs (fun hb20 hm => ?_) (fun hb20 hm => ?_)
 refine U.pg 3 2 false 24 (ntF hb20) T rfl rfl rfl rfl ?_
 refine hm.cs (fun hb21 hm => ?_) (fun hb21 hm => ?_)
 refine U.pg 3 5 true 27 hb21 T rfl rfl rfl rfl ?_
 obtain ⟨x22, hx22, hm⟩ := hm
 refine U.r rfl (.take 5 true 27 _ hb21 rfl rfl rfl) rfl rfl (by exact Rd.ix T rfl rfl rfl rfl rfl rfl hx22) ?_
 refine U.pg 3 5 true 27 hb21 T rfl rfl rfl rfl ?_
 refine U.r rfl (.take 2 false 24 _ (ntF hb20) rfl rfl rfl) rfl rfl (by exact Rd.pk rfl rfl hb21 rfl) ?_
 refine U.r rfl (.none rfl) rfl rfl (by exact Rd.pk' rfl rfl (ntF hb20) rfl) ?_
 refine U.done ?_
 exact St.wk (hJ19 _ hm) (Wk.e)
 refine U.sks 7 5 true 27 hb21 rfl rfl rfl ?_
 refine U.r rfl (.take 2 false 24 _ (ntF hb20) rfl rfl rfl) rfl rfl (by exact Rd.pk' rfl rfl hb21 rfl) ?_
 refine U.r rfl (.none rfl) rfl rfl (by exact Rd.pk' rfl rfl (ntF hb20) rfl) ?_
 refine U.done ?_
 exact St.wk (hJ19 _ hm) (Wk.e)
 refine U.sks 3 2 false 24 (ntT hb20) rfl rfl rfl ?_
 refine U.sku 7 5 true 27 rfl rfl rfl ?_
 refine U.sks 1 2 false 24 (ntT hb20) rfl rfl rfl ?_
 refine U.r rfl (.none rfl) rfl rfl (by exact Rd.pk rfl rfl (ntT hb20) rfl) ?_
 refine U.done ?_
 exact St.wk (hJ19 _ hm) (Wk.e)
 refine C.exit (C.ex (C.ex (C.bex ?_)))
 exact St.wk (hJ6 _ hm) (Wk.e)
theorem T_survey_zoned (kind : Int) (post : Bool → Prop) (hm : V_survey_zoned kind post) :
    Tr Try.prog 89 [.i kind] [] 0 (fun A H' k => ∃ y, post y ∧ A = (.b y) ∧ H' = [] ∧ k = 0) := by
 refine Tr.intro (n := 13) Try.func89 rfl Try.ntmps89 rfl (fun w0 ok F β hβ => ?_)
 unfold V_survey_zoned at hm
 refine C.seq (U.start ?_)
 refine U.ps 1 T rfl ?_
 refine U.done (C.nx (C.seq ?_))
 refine C.jn (fun (x3 : Bool) => [(2, .b x3)]) (fun (x3 : Bool) => []) 0 hm (fun x3 hm => ?_) (fun J4 hm hJ4 => ?_)
 refine C.nx (C.ret ?_)
 exact C.f0 T (rs' := [.b x3]) hβ ⟨x3, hm, rfl, rfl, rfl⟩
 refine U.start ?_
 refine U.ps 3 T rfl ?_
 refine hm.cs (fun hb5 hm => ?_) (fun hb5 hm => ?_)
 refine U.pg 2 2 true 5 hb5 T rfl rfl rfl rfl ?_
 refine U.r rfl (.none rfl) rfl rfl (by exact Rd.pk rfl rfl hb5 rfl) ?_
 refine U.ps 1 T rfl ?_
 refine hm.cs (fun hb6 hm => ?_) (fun hb6 hm => ?_)
 refine U.pg 2 6 true 9 hb6 T rfl rfl rfl rfl ?_
 refine U.r rfl (.none rfl) rfl rfl (by exact Rd.pk rfl rfl hb6 rfl) ?_
 refine U.ps 1 T rfl ?_
 refine U.done ?_
 exact St.wk (hJ4 _ hm) (Wk.e)
 refine U.sks 2 6 true 9 hb6 rfl rfl rfl ?_
 refine U.r rfl (.none rfl) rfl rfl (by exact Rd.pk' rfl rfl hb6 rfl) ?_
 refine U.ps 1 T rfl ?_
 refine U.done ?_
 exact St.wk (hJ4 _ hm) (Wk.e)
 refine U.sks 2 2 true 5 hb5 rfl rfl rfl ?_
 refine U.r rfl (.none rfl) rfl rfl (by exact Rd.pk' rfl rfl hb5 rfl) ?_
 refine U.ps 1 T rfl ?_
 refine U.sks 2 6 true 9 rfl rfl rfl rfl ?_
 refine U.r rfl (.none rfl) rfl rfl (by exact Rd.pk' rfl rfl rfl rfl) ?_
 refine U.ps 1 T rfl ?_
 refine U.done ?_
 exact St.wk (hJ4 _ hm) (Wk.e)
theorem T_survey_maker_addZone__p0 (z : ApiZone) (m : SurveyMaker) (post : (Int × SurveyMaker) → Prop) (hm : V_survey_maker_addZone__p0 z m post) :
    Tr Try.prog 67 [.p 0 0, .agg (eApiZone z)] [(0, .box [.i m.site.Floor.W, .i m.site.Floor.H, .i m.site.Floor.D, .sl 1 eI m.site.Floor.Kind, .sl 1 eI m.site.Floor.Out, .o 1, .o 2, .o 3, .o 4, .o 5, .o 6, .o 7, .o 8, .o 9, .o 10, .o 11]), (1, .val (.os 5 eApiZone m.site.Zones)), (2, .val (.os 2 eApiApart m.site.Aparts)), (3, .val (.os 2 eApiShelf m.site.Shelves)), (4, .val (.os 2 eApiStart m.site.Robots)), (5, .val (.om kI veI m.shelf)), (6, .val (.om kI veB m.robot)), (7, .val (.om kI veB m.zoned)), (8, .val (.om kS veI m.names)), (9, .val (.om kI veB m.oneways)), (10, .val (.os 1 eI m.shelves)), (11, .val (.os 1 eI m.zones))] 12 (fun A H' k => ∃ y, post y ∧ A = (.i y.1) ∧ H' = [(0, .box [.i y.2.site.Floor.W, .i y.2.site.Floor.H, .i y.2.site.Floor.D, .sl 1 eI y.2.site.Floor.Kind, .sl 1 eI y.2.site.Floor.Out, .o 12, .o 13, .o 14, .o 15, .o 16, .o 17, .o 18, .o 19, .o 20, .o 21, .o 22]), (12, .val (.os 5 eApiZone y.2.site.Zones)), (13, .val (.os 2 eApiApart y.2.site.Aparts)), (14, .val (.os 2 eApiShelf y.2.site.Shelves)), (15, .val (.os 2 eApiStart y.2.site.Robots)), (16, .val (.om kI veI y.2.shelf)), (17, .val (.om kI veB y.2.robot)), (18, .val (.om kI veB y.2.zoned)), (19, .val (.om kS veI y.2.names)), (20, .val (.om kI veB y.2.oneways)), (21, .val (.os 1 eI y.2.shelves)), (22, .val (.os 1 eI y.2.zones))] ∧ k = 23) := by
 refine Tr.intro (n := 93) Try.func67 rfl Try.ntmps67 rfl (fun w0 ok F β hβ => ?_)
 unfold V_survey_maker_addZone__p0 at hm
 refine C.seq (U.start ?_)
 refine U.e1 rfl (.none rfl) (by exact Eff1.box rfl rfl rfl rfl rfl) ?_
 refine U.ps 1 T rfl ?_
 refine U.done (C.nx (C.seq (C.seq ?_)))
 refine D.beg 9999 [0, 8, 12] [] mix rfl rfl (by kernel_rfl) (by repeat (first | exact NoPanicQ.body | exact NoPanicQ.rnd | refine NoPanicQ.th ?_ | refine NoPanicQ.blk ?_)) (fun hQ hS ws M' => ?_)
 refine D.ps 6 [(0, []), (1, []), (2, []), (3, []), (4, []), (5, [])] rfl hQ hS T rfl rfl (by kernel_rfl) ?_
 refine D.q 6 [] hQ hS rfl (.none rfl) rfl rfl (by exact Rd.lk2 T (ke := kS) (ve := veI) (xs := m.names) (z0 := 0) (x := z.Name) rfl rfl kt9 zt3 (fun _ => rfl) rfl (.o rfl) rfl rfl rfl) rfl (by kernel_rfl) ?_
 refine D.ps 5 [(7, []), (8, []), (9, []), (10, []), (11, [])] rfl hQ hS T rfl rfl (by kernel_rfl) ?_
 refine D.done (by kernel_rfl) ?_
 refine C.nx (C.seq (U.start ?_))
 refine U.ps 1 T rfl ?_
 refine U.done (C.nx ?_)
 refine C.ite rfl hm (fun hb7 hm => ?_) (fun hb7 hm => ?_)
 refine C.seq (U.start ?_)
 refine U.ps 1 T rfl ?_
 refine U.done (C.nx (C.ret (C.rt ?_)))
 exact C.fin T (rs' := [.i ((5, m).1)]) (H' := [(0, .box [.i (((5, m).2).site.Floor.W), .i (((5, m).2).site.Floor.H), .i (((5, m).2).site.Floor.D), .sl 1 eI (((5, m).2).site.Floor.Kind), .sl 1 eI (((5, m).2).site.Floor.Out), .o 12, .o 13, .o 14, .o 15, .o 16, .o 17, .o 18, .o 19, .o 20, .o 21, .o 22]), (12, .val (.os 5 eApiZone (((5, m).2).site.Zones))), (13, .val (.os 2 eApiApart (((5, m).2).site.Aparts))), (14, .val (.os 2 eApiShelf (((5, m).2).site.Shelves))), (15, .val (.os 2 eApiStart (((5, m).2).site.Robots))), (16, .val (.om kI veI (((5, m).2).shelf))), (17, .val (.om kI veB (((5, m).2).robot))), (18, .val (.om kI veB (((5, m).2).zoned))), (19, .val (.om kS veI (((5, m).2).names))), (20, .val (.om kI veB (((5, m).2).oneways))), (21, .val (.os 1 eI (((5, m).2).shelves))), (22, .val (.os 1 eI (((5, m).2).zones)))]) (nl' := 23) [some 0, some 1, some 2, some 3, some 4, some 5, some 6, some 7, some 8, some 9, some 10, some 11, some 1, some 2, some 3, some 4, some 5, some 6, some 7, some 8, some 9, some 10, some 11] rfl rfl (.eq rfl) ⟨bX, vL, vL, vL, vL, vL, vL, vL, vL, vL, vL, vL, trivial⟩ rfl rfl rfl rfl hβ ⟨(5, m), hm, rfl, rfl, rfl⟩
 refine C.skip (C.nx (C.seq (C.seq (U.start ?_))))
 refine U.ps 7 T rfl ?_
 refine U.done (C.nx ?_)
 refine C.ite rfl hm (fun hb12 hm => ?_) (fun hb12 hm => ?_)
 refine C.seq (U.start ?_)
 refine U.ps 1 T rfl ?_
 refine U.done (C.nx (C.ret (C.rt ?_)))
 exact C.fin T (rs' := [.i ((6, m).1)]) (H' := [(0, .box [.i (((6, m).2).site.Floor.W), .i (((6, m).2).site.Floor.H), .i (((6, m).2).site.Floor.D), .sl 1 eI (((6, m).2).site.Floor.Kind), .sl 1 eI (((6, m).2).site.Floor.Out), .o 12, .o 13, .o 14, .o 15, .o 16, .o 17, .o 18, .o 19, .o 20, .o 21, .o 22]), (12, .val (.os 5 eApiZone (((6, m).2).site.Zones))), (13, .val (.os 2 eApiApart (((6, m).2).site.Aparts))), (14, .val (.os 2 eApiShelf (((6, m).2).site.Shelves))), (15, .val (.os 2 eApiStart (((6, m).2).site.Robots))), (16, .val (.om kI veI (((6, m).2).shelf))), (17, .val (.om kI veB (((6, m).2).robot))), (18, .val (.om kI veB (((6, m).2).zoned))), (19, .val (.om kS veI (((6, m).2).names))), (20, .val (.om kI veB (((6, m).2).oneways))), (21, .val (.os 1 eI (((6, m).2).shelves))), (22, .val (.os 1 eI (((6, m).2).zones)))]) (nl' := 23) [some 0, some 1, some 2, some 3, some 4, some 5, some 6, some 7, some 8, some 9, some 10, some 11, some 1, some 2, some 3, some 4, some 5, some 6, some 7, some 8, some 9, some 10, some 11] rfl rfl (.eq rfl) ⟨bX, vL, vL, vL, vL, vL, vL, vL, vL, vL, vL, vL, trivial⟩ rfl rfl rfl rfl hβ ⟨(6, m), hm, rfl, rfl, rfl⟩
 refine C.skip (C.nx (C.seq (C.seq (U.start ?_))))
 refine U.ps 4 T rfl ?_
 refine U.done (C.nx ?_)
 refine C.jn (fun (x17 : Unit) => [(0, .p 0 0), (3, .p 12 0)]) (fun (x17 : Unit) => [(0, .box [.i m.site.Floor.W, .i m.site.Floor.H, .i m.site.Floor.D, .sl 1 eI m.site.Floor.Kind, .sl 1 eI m.site.Floor.Out, .o 1, .o 2, .o 3, .o 4, .o 5, .o 6, .o 7, .o 8, .o 9, .o 10, .o 11]), (1, .val (.os 5 eApiZone m.site.Zones)), (2, .val (.os 2 eApiApart m.site.Aparts)), (3, .val (.os 2 eApiShelf m.site.Shelves)), (4, .val (.os 2 eApiStart m.site.Robots)), (5, .val (.om kI veI m.shelf)), (6, .val (.om kI veB m.robot)), (7, .val (.om kI veB m.zoned)), (8, .val (.om kS veI m.names)), (9, .val (.om kI veB m.oneways)), (10, .val (.os 1 eI m.shelves)), (11, .val (.os 1 eI m.zones)), (12, .box (eApiZone z))]) 13 hm (fun x17 hm => ?_) (fun J18 hm hJ18 => ?_)
 refine C.nx (C.seq (C.seq (U.start ?_)))
 refine U.ps 4 T rfl ?_
 refine U.done (C.nx ?_)
 refine C.jn (fun (x41 : List (Int × Bool)) => [(0, .p 0 0), (3, .p 12 0)]) (fun (x41 : List (Int × Bool)) => [(0, .box [.i m.site.Floor.W, .i m.site.Floor.H, .i m.site.Floor.D, .sl 1 eI m.site.Floor.Kind, .sl 1 eI m.site.Floor.Out, .o 1, .o 2, .o 3, .o 4, .o 5, .o 6, .o 7, .o 8, .o 9, .o 10, .o 11]), (1, .val (.os 5 eApiZone m.site.Zones)), (2, .val (.os 2 eApiApart m.site.Aparts)), (3, .val (.os 2 eApiShelf m.site.Shelves)), (4, .val (.os 2 eApiStart m.site.Robots)), (5, .val (.om kI veI m.shelf)), (6, .val (.om kI veB m.robot)), (7, .val (.om kI veB x41)), (8, .val (.om kS veI m.names)), (9, .val (.om kI veB m.oneways)), (10, .val (.os 1 eI m.shelves)), (11, .val (.os 1 eI m.zones)), (12, .box (eApiZone z))]) 13 hm (fun x41 hm => ?_) (fun J42 hm hJ42 => ?_)
 refine C.nx (C.seq ?_)
 refine D.beg 12 [0, 12] [] mix rfl rfl (by kernel_rfl) (by repeat (first | exact NoPanicQ.body | exact NoPanicQ.rnd | refine NoPanicQ.th ?_ | refine NoPanicQ.blk ?_)) (fun hQ hS ws M' => ?_)
 refine D.ps 12 [(0, []), (1, []), (2, []), (3, []), (4, []), (5, []), (6, []), (7, []), (8, []), (9, []), (10, []), (11, [])] rfl hQ hS T rfl rfl (by kernel_rfl) ?_
 refine D.ze1 rfl (.none rfl) (by exact Eff1.mu T (x := z.Name) (y := (m.site.Zones.length : Int)) (.inl rfl) rfl kt9 (fun _ => rfl) rfl rfl rfl rfl rfl (.inl rfl) rfl) (by kernel_rfl) (by kernel_rfl) ?_
 refine C.nx (C.seq ?_)
 refine D.beg 12 [0, 12] [1] mix rfl rfl (by kernel_rfl) (by repeat (first | exact NoPanicQ.body | exact NoPanicQ.rnd | refine NoPanicQ.th ?_ | refine NoPanicQ.blk ?_)) (fun hQ hS ws M' => ?_)
 refine D.ps 7 [(0, []), (1, []), (2, []), (3, []), (4, []), (5, []), (6, [])] rfl hQ hS T rfl rfl (by kernel_rfl) ?_
 refine D.e1 7 rfl (.none rfl) (by exact Eff1.bs T (enc := eApiZone) (xs := ([z] : List ApiZone)) rfl rfl rfl rfl rfl rfl rfl rfl rfl rfl (fun _ _ => rfl) rfl rfl) (by kernel_rfl) rfl rfl ?_
 obtain ⟨hx59, hm⟩ := hm
 refine D.e1 8 rfl (.none rfl) (by exact Eff1.ap T rfl rfl rfl rfl rfl rfl (.inr ⟨_, rfl, rfl⟩) rfl rfl rfl (fun _ => rfl) rfl hx59) (by kernel_rfl) rfl rfl ?_
 refine D.ps 3 [(9, [11, 10]), (10, [11]), (11, [])] rfl hQ hS T rfl rfl (by kernel_rfl) ?_
 refine D.ze1 rfl (.none rfl) (by exact Eff1.st T rfl rfl rfl rfl rfl rfl rfl rfl rfl rfl) (by kernel_rfl) (by kernel_rfl) ?_
 refine C.nx (C.seq (U.start ?_))
 refine U.ps 1 T rfl ?_
 refine U.done (C.nx (C.ret ?_))
 exact C.fin T (rs' := [.i ((0, ({ site := ({ Floor := m.site.Floor, Zones := (m.site.Zones ++ ([z] : List ApiZone)), Aparts := m.site.Aparts, Shelves := m.site.Shelves, Robots := m.site.Robots : ApiSite }), shelf := m.shelf, robot := m.robot, zoned := x41, names := (upd m.names z.Name (m.site.Zones.length : Int)), oneways := m.oneways, shelves := m.shelves, zones := m.zones : SurveyMaker })).1)]) (H' := [(0, .box [.i (((0, ({ site := ({ Floor := m.site.Floor, Zones := (m.site.Zones ++ ([z] : List ApiZone)), Aparts := m.site.Aparts, Shelves := m.site.Shelves, Robots := m.site.Robots : ApiSite }), shelf := m.shelf, robot := m.robot, zoned := x41, names := (upd m.names z.Name (m.site.Zones.length : Int)), oneways := m.oneways, shelves := m.shelves, zones := m.zones : SurveyMaker })).2).site.Floor.W), .i (((0, ({ site := ({ Floor := m.site.Floor, Zones := (m.site.Zones ++ ([z] : List ApiZone)), Aparts := m.site.Aparts, Shelves := m.site.Shelves, Robots := m.site.Robots : ApiSite }), shelf := m.shelf, robot := m.robot, zoned := x41, names := (upd m.names z.Name (m.site.Zones.length : Int)), oneways := m.oneways, shelves := m.shelves, zones := m.zones : SurveyMaker })).2).site.Floor.H), .i (((0, ({ site := ({ Floor := m.site.Floor, Zones := (m.site.Zones ++ ([z] : List ApiZone)), Aparts := m.site.Aparts, Shelves := m.site.Shelves, Robots := m.site.Robots : ApiSite }), shelf := m.shelf, robot := m.robot, zoned := x41, names := (upd m.names z.Name (m.site.Zones.length : Int)), oneways := m.oneways, shelves := m.shelves, zones := m.zones : SurveyMaker })).2).site.Floor.D), .sl 1 eI (((0, ({ site := ({ Floor := m.site.Floor, Zones := (m.site.Zones ++ ([z] : List ApiZone)), Aparts := m.site.Aparts, Shelves := m.site.Shelves, Robots := m.site.Robots : ApiSite }), shelf := m.shelf, robot := m.robot, zoned := x41, names := (upd m.names z.Name (m.site.Zones.length : Int)), oneways := m.oneways, shelves := m.shelves, zones := m.zones : SurveyMaker })).2).site.Floor.Kind), .sl 1 eI (((0, ({ site := ({ Floor := m.site.Floor, Zones := (m.site.Zones ++ ([z] : List ApiZone)), Aparts := m.site.Aparts, Shelves := m.site.Shelves, Robots := m.site.Robots : ApiSite }), shelf := m.shelf, robot := m.robot, zoned := x41, names := (upd m.names z.Name (m.site.Zones.length : Int)), oneways := m.oneways, shelves := m.shelves, zones := m.zones : SurveyMaker })).2).site.Floor.Out), .o 12, .o 13, .o 14, .o 15, .o 16, .o 17, .o 18, .o 19, .o 20, .o 21, .o 22]), (12, .val (.os 5 eApiZone (((0, ({ site := ({ Floor := m.site.Floor, Zones := (m.site.Zones ++ ([z] : List ApiZone)), Aparts := m.site.Aparts, Shelves := m.site.Shelves, Robots := m.site.Robots : ApiSite }), shelf := m.shelf, robot := m.robot, zoned := x41, names := (upd m.names z.Name (m.site.Zones.length : Int)), oneways := m.oneways, shelves := m.shelves, zones := m.zones : SurveyMaker })).2).site.Zones))), (13, .val (.os 2 eApiApart (((0, ({ site := ({ Floor := m.site.Floor, Zones := (m.site.Zones ++ ([z] : List ApiZone)), Aparts := m.site.Aparts, Shelves := m.site.Shelves, Robots := m.site.Robots : ApiSite }), shelf := m.shelf, robot := m.robot, zoned := x41, names := (upd m.names z.Name (m.site.Zones.length : Int)), oneways := m.oneways, shelves := m.shelves, zones := m.zones : SurveyMaker })).2).site.Aparts))), (14, .val (.os 2 eApiShelf (((0, ({ site := ({ Floor := m.site.Floor, Zones := (m.site.Zones ++ ([z] : List ApiZone)), Aparts := m.site.Aparts, Shelves := m.site.Shelves, Robots := m.site.Robots : ApiSite }), shelf := m.shelf, robot := m.robot, zoned := x41, names := (upd m.names z.Name (m.site.Zones.length : Int)), oneways := m.oneways, shelves := m.shelves, zones := m.zones : SurveyMaker })).2).site.Shelves))), (15, .val (.os 2 eApiStart (((0, ({ site := ({ Floor := m.site.Floor, Zones := (m.site.Zones ++ ([z] : List ApiZone)), Aparts := m.site.Aparts, Shelves := m.site.Shelves, Robots := m.site.Robots : ApiSite }), shelf := m.shelf, robot := m.robot, zoned := x41, names := (upd m.names z.Name (m.site.Zones.length : Int)), oneways := m.oneways, shelves := m.shelves, zones := m.zones : SurveyMaker })).2).site.Robots))), (16, .val (.om kI veI (((0, ({ site := ({ Floor := m.site.Floor, Zones := (m.site.Zones ++ ([z] : List ApiZone)), Aparts := m.site.Aparts, Shelves := m.site.Shelves, Robots := m.site.Robots : ApiSite }), shelf := m.shelf, robot := m.robot, zoned := x41, names := (upd m.names z.Name (m.site.Zones.length : Int)), oneways := m.oneways, shelves := m.shelves, zones := m.zones : SurveyMaker })).2).shelf))), (17, .val (.om kI veB (((0, ({ site := ({ Floor := m.site.Floor, Zones := (m.site.Zones ++ ([z] : List ApiZone)), Aparts := m.site.Aparts, Shelves := m.site.Shelves, Robots := m.site.Robots : ApiSite }), shelf := m.shelf, robot := m.robot, zoned := x41, names := (upd m.names z.Name (m.site.Zones.length : Int)), oneways := m.oneways, shelves := m.shelves, zones := m.zones : SurveyMaker })).2).robot))), (18, .val (.om kI veB (((0, ({ site := ({ Floor := m.site.Floor, Zones := (m.site.Zones ++ ([z] : List ApiZone)), Aparts := m.site.Aparts, Shelves := m.site.Shelves, Robots := m.site.Robots : ApiSite }), shelf := m.shelf, robot := m.robot, zoned := x41, names := (upd m.names z.Name (m.site.Zones.length : Int)), oneways := m.oneways, shelves := m.shelves, zones := m.zones : SurveyMaker })).2).zoned))), (19, .val (.om kS veI (((0, ({ site := ({ Floor := m.site.Floor, Zones := (m.site.Zones ++ ([z] : List ApiZone)), Aparts := m.site.Aparts, Shelves := m.site.Shelves, Robots := m.site.Robots : ApiSite }), shelf := m.shelf, robot := m.robot, zoned := x41, names := (upd m.names z.Name (m.site.Zones.length : Int)), oneways := m.oneways, shelves := m.shelves, zones := m.zones : SurveyMaker })).2).names))), (20, .val (.om kI veB (((0, ({ site := ({ Floor := m.site.Floor, Zones := (m.site.Zones ++ ([z] : List ApiZone)), Aparts := m.site.Aparts, Shelves := m.site.Shelves, Robots := m.site.Robots : ApiSite }), shelf := m.shelf, robot := m.robot, zoned := x41, names := (upd m.names z.Name (m.site.Zones.length : Int)), oneways := m.oneways, shelves := m.shelves, zones := m.zones : SurveyMaker })).2).oneways))), (21, .val (.os 1 eI (((0, ({ site := ({ Floor := m.site.Floor, Zones := (m.site.Zones ++ ([z] : List ApiZone)), Aparts := m.site.Aparts, Shelves := m.site.Shelves, Robots := m.site.Robots : ApiSite }), shelf := m.shelf, robot := m.robot, zoned := x41, names := (upd m.names z.Name (m.site.Zones.length : Int)), oneways := m.oneways, shelves := m.shelves, zones := m.zones : SurveyMaker })).2).shelves))), (22, .val (.os 1 eI (((0, ({ site := ({ Floor := m.site.Floor, Zones := (m.site.Zones ++ ([z] : List ApiZone)), Aparts := m.site.Aparts, Shelves := m.site.Shelves, Robots := m.site.Robots : ApiSite }), shelf := m.shelf, robot := m.robot, zoned := x41, names := (upd m.names z.Name (m.site.Zones.length : Int)), oneways := m.oneways, shelves := m.shelves, zones := m.zones : SurveyMaker })).2).zones)))]) (nl' := 23) [some 0, some 1, some 2, some 3, some 4, some 5, some 6, some 7, some 8, some 9, some 10, some 11, some 14, some 2, some 3, some 4, some 5, some 6, some 7, some 8, some 9, some 10, some 11] rfl rfl (.eq rfl) ⟨bX, vL, vL, vL, vL, vL, vL, vL, vL, vL, vL, vL, trivial⟩ rfl rfl rfl rfl hβ ⟨(0, ({ site := ({ Floor := m.site.Floor, Zones := (m.site.Zones ++ ([z] : List ApiZone)), Aparts := m.site.Aparts, Shelves := m.site.Shelves, Robots := m.site.Robots : ApiSite }), shelf := m.shelf, robot := m.robot, zoned := x41, names := (upd m.names z.Name (m.site.Zones.length : Int)), oneways := m.oneways, shelves := m.shelves, zones := m.zones : SurveyMaker })), hm, rfl, rfl, rfl⟩
 refine C.block ?_
 refine St.wk (C.loop (fun (s43 : List (Int × Bool) × Int) => [(0, .p 0 0), (3, .p 12 0), (57, .sl 1 eI z.Cells), (58, .i (z.Cells.length : Int)), (59, .i s43.2)]) (fun (s43 : List (Int × Bool) × Int) => [(0, .box [.i m.site.Floor.W, .i m.site.Floor.H, .i m.site.Floor.D, .sl 1 eI m.site.Floor.Kind, .sl 1 eI m.site.Floor.Out, .o 1, .o 2, .o 3, .o 4, .o 5, .o 6, .o 7, .o 8, .o 9, .o 10, .o 11]), (1, .val (.os 5 eApiZone m.site.Zones)), (2, .val (.os 2 eApiApart m.site.Aparts)), (3, .val (.os 2 eApiShelf m.site.Shelves)), (4, .val (.os 2 eApiStart m.site.Robots)), (5, .val (.om kI veI m.shelf)), (6, .val (.om kI veB m.robot)), (7, .val (.om kI veB s43.1)), (8, .val (.om kS veI m.names)), (9, .val (.om kI veB m.oneways)), (10, .val (.os 1 eI m.shelves)), (11, .val (.os 1 eI m.zones)), (12, .box (eApiZone z))]) hm (fun s43 Y44 hm => ?_)) (Wk.f [some 0, some 1, some 2, some 3, some 4, some 5, some 6, some 7, some 8, some 9, some 10, some 11, some 12] ⟨bX, vL, vL, vL, vL, vL, vL, vL, vL, vL, vL, vL, bX, trivial⟩)
 refine C.seq (U.start ?_)
 refine U.ps 1 T rfl ?_
 refine U.done (C.nx (C.seq ?_))
 refine C.ite rfl hm (fun hb47 hm => ?_) (fun hb47 hm => ?_)
 refine C.skip (C.nx (C.seq (C.block (C.seq (U.start ?_)))))
 obtain ⟨x50, hx50, hm⟩ := hm
 refine U.r rfl (.none rfl) rfl rfl (by exact Rd.ix T rfl rfl rfl rfl rfl rfl hx50) ?_
 refine U.ps 2 T rfl ?_
 refine U.done (C.nx (U.start ?_))
 refine U.ps 5 T rfl ?_
 refine U.e1 rfl (.none rfl) (by exact Eff1.mu T (x := x50) (y := true) (.inl rfl) rfl kt3 (fun _ => rfl) rfl rfl rfl rfl rfl (.inl rfl) rfl) ?_
 refine U.done (C.bnx (C.nx (U.start ?_)))
 refine U.ps 2 T rfl ?_
 refine U.done (C.nx ?_)
 exact St.wk (C.next hm) (Wk.f [some 0, some 1, some 2, some 3, some 4, some 5, some 6, some 7, some 8, some 9, some 10, some 11, some 12] ⟨bX, vL, vL, vL, vL, vL, vL, vL, vL, vL, vL, vL, bX, trivial⟩)
 refine C.exit (C.ex (C.ex (C.bex ?_)))
 exact St.wk (hJ42 _ hm) (Wk.f [some 0, some 1, some 2, some 3, some 4, some 5, some 6, some 7, some 8, some 9, some 10, some 11, some 12] ⟨bX, vL, vL, vL, vL, vL, vL, vL, vL, vL, vL, vL, bX, trivial⟩)
 refine C.block ?_
 refine St.wk (C.loop (fun (s19 : Int) => [(0, .p 0 0), (3, .p 12 0), (32, .sl 1 eI z.Cells), (33, .i (z.Cells.length : Int)), (34, .i s19)]) (fun (s19 : Int) => [(0, .box [.i m.site.Floor.W, .i m.site.Floor.H, .i m.site.Floor.D, .sl 1 eI m.site.Floor.Kind, .sl 1 eI m.site.Floor.Out, .o 1, .o 2, .o 3, .o 4, .o 5, .o 6, .o 7, .o 8, .o 9, .o 10, .o 11]), (1, .val (.os 5 eApiZone m.site.Zones)), (2, .val (.os 2 eApiApart m.site.Aparts)), (3, .val (.os 2 eApiShelf m.site.Shelves)), (4, .val (.os 2 eApiStart m.site.Robots)), (5, .val (.om kI veI m.shelf)), (6, .val (.om kI veB m.robot)), (7, .val (.om kI veB m.zoned)), (8, .val (.om kS veI m.names)), (9, .val (.om kI veB m.oneways)), (10, .val (.os 1 eI m.shelves)), (11, .val (.os 1 eI m.zones)), (12, .box (eApiZone z))]) hm (fun s19 Y20 hm => ?_)) (Wk.f [some 0, some 1, some 2, some 3, some 4, some 5, some 6, some 7, some 8, some 9, some 10, some 11, some 12] ⟨bX, vL, vL, vL, vL, vL, vL, vL, vL, vL, vL, vL, bX, trivial⟩)
 refine C.seq (U.start ?_)
 refine U.ps 1 T rfl ?_
 refine U.done (C.nx (C.seq ?_))
 refine C.ite rfl hm (fun hb23 hm => ?_) (fun hb23 hm => ?_)
 refine C.skip (C.nx (C.seq (C.block (C.seq (U.start ?_)))))
 obtain ⟨x26, hx26, hm⟩ := hm
 refine U.r rfl (.none rfl) rfl rfl (by exact Rd.ix T rfl rfl rfl rfl rfl rfl hx26) ?_
 refine U.ps 2 T rfl ?_
 refine U.done (C.nx (C.seq (U.start ?_)))
 refine U.ps 2 T rfl ?_
 refine U.e rfl (.none rfl) (by exact Eff.k (T_survey_maker_kindAt m x26 _ hm) en88 rfl rfl rfl (.cons (.fzp rfl rfl rfl rfl (.cons (.eq rfl) (.cons (.eq rfl) (.cons (.eq rfl) (.cons (.eq rfl) (.cons (.eq rfl) (.cons (.fz rfl rfl rfl (.os fun _ => .cons (.ro rfl) (.cons (.ro rfl) (.cons (.ro rfl) (.cons (.ro rfl) (.cons (.ro rfl) .nil)))))) (.cons (.fz rfl rfl rfl (.os fun _ => .cons (.ro rfl) (.cons (.ro rfl) .nil))) (.cons (.fz rfl rfl rfl (.os fun _ => .cons (.ro rfl) (.cons (.ro rfl) .nil))) (.cons (.fz rfl rfl rfl (.os fun _ => .cons (.ro rfl) (.cons (.ro rfl) .nil))) (.cons (.fz rfl rfl rfl (.om fun _ => .ro rfl)) (.cons (.fz rfl rfl rfl (.om fun _ => .ro rfl)) (.cons (.fz rfl rfl rfl (.om fun _ => .ro rfl)) (.cons (.fz rfl rfl rfl (.om fun _ => .ro rfl)) (.cons (.fz rfl rfl rfl (.om fun _ => .ro rfl)) (.cons (.fz rfl rfl rfl (.os fun _ => .cons (.ro rfl) .nil)) (.cons (.fz rfl rfl rfl (.os fun _ => .cons (.ro rfl) .nil)) .nil)))))))))))))))) rfl) (.eq rfl)) (fun _ _ => ⟨(.tup (.cons (.v _) (.cons (.v _) .nil))), trivial⟩)) (fun x29' hm => ?_)
 obtain ⟨x29⟩ := x29'
 refine U.ps 5 T rfl ?_
 refine U.done (C.nx (C.seq ?_))
 refine C.jn (fun (x30 : Bool) => [(0, .p 0 0), (3, .p 12 0), (32, .sl 1 eI z.Cells), (33, .i (z.Cells.length : Int)), (34, .i s19), (54, .b x30)]) (fun (x30 : Bool) => [(0, .box [.i m.site.Floor.W, .i m.site.Floor.H, .i m.site.Floor.D, .sl 1 eI m.site.Floor.Kind, .sl 1 eI m.site.Floor.Out, .o 1, .o 2, .o 3, .o 4, .o 5, .o 6, .o 7, .o 8, .o 9, .o 10, .o 11]), (1, .val (.os 5 eApiZone m.site.Zones)), (2, .val (.os 2 eApiApart m.site.Aparts)), (3, .val (.os 2 eApiShelf m.site.Shelves)), (4, .val (.os 2 eApiStart m.site.Robots)), (5, .val (.om kI veI m.shelf)), (6, .val (.om kI veB m.robot)), (7, .val (.om kI veB m.zoned)), (8, .val (.om kS veI m.names)), (9, .val (.om kI veB m.oneways)), (10, .val (.os 1 eI m.shelves)), (11, .val (.os 1 eI m.zones)), (12, .box (eApiZone z))]) 13 hm (fun x30 hm => ?_) (fun J31 hm hJ31 => ?_)
 refine C.nx ?_
 refine C.ite rfl hm (fun hb34 hm => ?_) (fun hb34 hm => ?_)
 refine C.seq (U.start ?_)
 refine U.ps 1 T rfl ?_
 refine U.done (C.nx (C.ret (C.brt (C.rt (C.rt (C.brt (C.rt ?_)))))))
 exact C.fin T (rs' := [.i ((13, m).1)]) (H' := [(0, .box [.i (((13, m).2).site.Floor.W), .i (((13, m).2).site.Floor.H), .i (((13, m).2).site.Floor.D), .sl 1 eI (((13, m).2).site.Floor.Kind), .sl 1 eI (((13, m).2).site.Floor.Out), .o 12, .o 13, .o 14, .o 15, .o 16, .o 17, .o 18, .o 19, .o 20, .o 21, .o 22]), (12, .val (.os 5 eApiZone (((13, m).2).site.Zones))), (13, .val (.os 2 eApiApart (((13, m).2).site.Aparts))), (14, .val (.os 2 eApiShelf (((13, m).2).site.Shelves))), (15, .val (.os 2 eApiStart (((13, m).2).site.Robots))), (16, .val (.om kI veI (((13, m).2).shelf))), (17, .val (.om kI veB (((13, m).2).robot))), (18, .val (.om kI veB (((13, m).2).zoned))), (19, .val (.om kS veI (((13, m).2).names))), (20, .val (.om kI veB (((13, m).2).oneways))), (21, .val (.os 1 eI (((13, m).2).shelves))), (22, .val (.os 1 eI (((13, m).2).zones)))]) (nl' := 23) [some 0, some 1, some 2, some 3, some 4, some 5, some 6, some 7, some 8, some 9, some 10, some 11, some 1, some 2, some 3, some 4, some 5, some 6, some 7, some 8, some 9, some 10, some 11] rfl rfl (.eq rfl) ⟨bX, vL, vL, vL, vL, vL, vL, vL, vL, vL, vL, vL, trivial⟩ rfl rfl rfl rfl hβ ⟨(13, m), hm, rfl, rfl, rfl⟩
 refine C.skip (C.bnx (C.nx (U.start ?_)))
 refine U.ps 2 T rfl ?_
 refine U.done (C.nx ?_)
 exact St.wk (C.next hm) (Wk.f [some 0, some 1, some 2, some 3, some 4, some 5, some 6, some 7, some 8, some 9, some 10, some 11, some 12] ⟨bX, vL, vL, vL, vL, vL, vL, vL, vL, vL, vL, vL, bX, trivial⟩)
 refine U.start ?_
 refine U.ps 1 T rfl ?_
 refine U.e rfl (.none rfl) (by exact Eff.k (T_survey_zoned x29.1 _ hm) en89 rfl rfl rfl (.eq rfl) (fun _ _ => ⟨(.v _), trivial⟩)) (fun x32' hm => ?_)
 obtain ⟨x32⟩ := x32'
 refine U.ps 2 T rfl ?_
 refine hm.cs (fun hb33 hm => ?_) (fun hb33 hm => ?_)
 refine U.pg 5 3 false 47 (ntF hb33) T rfl rfl rfl rfl ?_
 refine U.r rfl (.take 3 false 47 _ (ntF hb33) rfl rfl rfl) rfl rfl (by exact Rd.lk T (ke := kI) (ve := veB) (xs := m.zoned) (z0 := false) (x := x26) rfl rfl kt3 zt4 (fun _ => rfl) rfl (.o rfl) rfl rfl rfl) ?_
 refine U.r rfl (.none rfl) rfl rfl (by exact Rd.pk' rfl rfl (ntF hb33) rfl) ?_
 refine U.done ?_
 exact St.wk (hJ31 _ hm) (Wk.f [some 0, some 1, some 2, some 3, some 4, some 5, some 6, some 7, some 8, some 9, some 10, some 11, some 12] ⟨bX, vL, vL, vL, vL, vL, vL, vL, vL, vL, vL, vL, bX, trivial⟩)
 refine U.sks 6 3 false 47 (ntT hb33) rfl rfl rfl ?_
 refine U.r rfl (.none rfl) rfl rfl (by exact Rd.pk rfl rfl (ntT hb33) rfl) ?_
 refine U.done ?_
 exact St.wk (hJ31 _ hm) (Wk.f [some 0, some 1, some 2, some 3, some 4, some 5, some 6, some 7, some 8, some 9, some 10, some 11, some 12] ⟨bX, vL, vL, vL, vL, vL, vL, vL, vL, vL, vL, vL, bX, trivial⟩)
 refine C.exit (C.ex (C.ex (C.bex ?_)))
 exact St.wk (hJ18 _ hm) (Wk.f [some 0, some 1, some 2, some 3, some 4, some 5, some 6, some 7, some 8, some 9, some 10, some 11, some 12] ⟨bX, vL, vL, vL, vL, vL, vL, vL, vL, vL, vL, vL, bX, trivial⟩)
theorem T_slices_Index_api_Apart_api_Apart (s_1 : List ApiApart) (v : ApiApart) (post : Int → Prop) (hm : V_slices_Index_api_Apart_api_Apart s_1 v post) :
    Tr Try.prog 102 [.sl 2 eApiApart s_1, .agg [.v (.string v.A), .v (.string v.B)]] [] 0 (fun A H' k => ∃ y, post y ∧ A = (.i y) ∧ H' = [] ∧ k = 0) := by
 refine Tr.intro (n := 19) Try.func102 rfl Try.ntmps102 rfl (fun w0 ok F β hβ => ?_)
 unfold V_slices_Index_api_Apart_api_Apart at hm
 refine C.seq (U.start ?_)
 refine U.e1 rfl (.none rfl) (by exact Eff1.box rfl rfl rfl rfl rfl) ?_
 refine U.ps 1 T rfl ?_
 refine U.done (C.nx (C.seq (C.seq (U.start ?_))))
 refine U.ps 3 T rfl ?_
 refine U.done (C.nx ?_)
 refine C.jn (fun (x5 : Unit) => []) (fun (x5 : Unit) => []) 0 hm (fun x5 hm => ?_) (fun J6 hm hJ6 => ?_)
 refine C.nx (C.seq (U.start ?_))
 refine U.ps 1 T rfl ?_
 refine U.done (C.nx (C.ret ?_))
 exact C.f0 T (rs' := [.i (-1)]) hβ ⟨(-1), hm, rfl, rfl, rfl⟩
 refine C.block ?_
 refine St.wk (C.loop (fun (s7 : Int) => [(0, .sl 2 eApiApart s_1), (3, .p 0 0), (7, .i (s_1.length : Int)), (8, .i s7)]) (fun (s7 : Int) => [(0, .box [.v (.string v.A), .v (.string v.B)])]) hm (fun s7 Y8 hm => ?_)) (Wk.f [some 0] ⟨bX, trivial⟩)
 refine C.seq (U.start ?_)
 refine U.ps 1 T rfl ?_
 refine U.done (C.nx (C.seq ?_))
 refine C.ite rfl hm (fun hb11 hm => ?_) (fun hb11 hm => ?_)
 refine C.skip (C.nx (C.seq (C.block (C.seq (U.start ?_)))))
 refine U.ps 2 T rfl ?_
 refine U.done (C.nx (C.seq ?_))
 refine D.beg 9999 [0] [] mix rfl rfl (by kernel_rfl) (by repeat (first | exact NoPanicQ.body | exact NoPanicQ.rnd | refine NoPanicQ.th ?_ | refine NoPanicQ.blk ?_)) (fun hQ hS ws M' => ?_)
 refine D.ps 3 [(0, []), (1, []), (2, [])] rfl hQ hS T rfl rfl (by kernel_rfl) ?_
 obtain ⟨x16, hx16, hm⟩ := hm
 refine D.q 3 [] hQ hS rfl (.none rfl) rfl rfl (by exact Rd.ix T rfl rfl rfl rfl rfl rfl hx16) rfl (by kernel_rfl) ?_
 refine D.ps 1 [(4, [])] rfl hQ hS T rfl rfl (by kernel_rfl) ?_
 refine D.q 5 [] hQ hS rfl (.none rfl) rfl rfl (by exact Rd.eqs T rfl rfl eqt73 rfl rfl rfl) rfl (by kernel_rfl) ?_
 refine D.done (by kernel_rfl) ?_
 refine C.nx ?_
 refine C.ite rfl hm (fun hb17 hm => ?_) (fun hb17 hm => ?_)
 refine C.seq (U.start ?_)
 refine U.ps 2 T rfl ?_
 refine U.done (C.nx (C.ret (C.brt (C.rt (C.rt (C.brt (C.rt ?_)))))))
 exact C.f0 T (rs' := [.i s7]) hβ ⟨s7, hm, rfl, rfl, rfl⟩
 refine C.skip (C.bnx (C.nx (U.start ?_)))
 refine U.ps 2 T rfl ?_
 refine U.done (C.nx ?_)
 exact St.wk (C.next hm) (Wk.f [some 0] ⟨bX, trivial⟩)
 refine C.exit (C.ex (C.ex (C.bex ?_)))
 exact St.wk (hJ6 _ hm) (Wk.mk' [] rfl rfl trivial trivial rfl)
theorem T_slices_Contains_api_Apart_api_Apart (s_1 : List ApiApart) (v : ApiApart) (post : Bool → Prop) (hm : V_slices_Contains_api_Apart_api_Apart s_1 v post) :
    Tr Try.prog 99 [.sl 2 eApiApart s_1, .agg [.v (.string v.A), .v (.string v.B)]] [] 0 (fun A H' k => ∃ y, post y ∧ A = (.b y) ∧ H' = [] ∧ k = 0) := by
 refine Tr.intro (n := 9) Try.func99 rfl Try.ntmps99 rfl (fun w0 ok F β hβ => ?_)
 unfold V_slices_Contains_api_Apart_api_Apart at hm
 refine C.seq (U.start ?_)
 refine U.e1 rfl (.none rfl) (by exact Eff1.box rfl rfl rfl rfl rfl) ?_
 refine U.ps 1 T rfl ?_
 refine U.done (C.nx (C.seq (U.start ?_)))
 refine U.ps 2 T rfl ?_
 refine U.e rfl (.none rfl) (by exact Eff.k (T_slices_Index_api_Apart_api_Apart s_1 v _ hm) en102 rfl rfl rfl (.eq rfl) (fun _ _ => ⟨(.v _), trivial⟩)) (fun x5' hm => ?_)
 obtain ⟨x5⟩ := x5'
 refine U.ps 2 T rfl ?_
 refine U.done (C.nx (C.ret ?_))
 exact C.f0 T (rs' := [.b (decide (x5 ≥ 0))]) hβ ⟨decide (x5 ≥ 0), hm, rfl, rfl, rfl⟩
theorem T_survey_Apart (l : List ApiApart) (a : ByteArray) (b : ByteArray) (post : Bool → Prop) (hm : V_survey_Apart l a b post) :
    Tr Try.prog 90 [.sl 2 eApiApart l, .v (.string a), .v (.string b)] [] 0 (fun A H' k => ∃ y, post y ∧ A = (.b y) ∧ H' = [] ∧ k = 0) := by
 refine Tr.intro (n := 25) Try.func90 rfl Try.ntmps90 rfl (fun w0 ok F β hβ => ?_)
 unfold V_survey_Apart at hm
 refine C.seq (U.start ?_)
 refine U.ps 1 T rfl ?_
 refine U.done (C.nx (C.seq (C.seq ?_)))
 refine C.jn (fun (x3 : Bool) => [(0, .sl 2 eApiApart l), (1, .v (.string a)), (2, .v (.string b)), (12, .b x3)]) (fun (x3 : Bool) => []) 0 hm (fun x3 hm => ?_) (fun J4 hm hJ4 => ?_)
 refine C.nx ?_
 refine C.ite rfl hm (fun hb6 hm => ?_) (fun hb6 hm => ?_)
 refine C.seq (U.start ?_)
 refine U.ps 1 T rfl ?_
 refine U.done (C.nx (C.ret (C.rt ?_)))
 exact C.f0 T (rs' := [.b false]) hβ ⟨false, hm, rfl, rfl, rfl⟩
 refine C.skip (C.nx (C.seq ?_))
 refine C.jn (fun (x9 : Bool) => [(6, .b x9)]) (fun (x9 : Bool) => []) 0 hm (fun x9 hm => ?_) (fun J10 hm hJ10 => ?_)
 refine C.nx (C.ret ?_)
 exact C.f0 T (rs' := [.b x9]) hβ ⟨x9, hm, rfl, rfl, rfl⟩
 refine U.start ?_
 refine U.ps 4 T rfl ?_
 refine U.e rfl (.none rfl) (by exact Eff.k (T_slices_Contains_api_Apart_api_Apart l ({ A := a, B := b : ApiApart }) _ hm) en99 rfl rfl rfl (.eq rfl) (fun _ _ => ⟨(.v _), trivial⟩)) (fun x11' hm => ?_)
 obtain ⟨x11⟩ := x11'
 refine U.ps 1 T rfl ?_
 refine hm.cs (fun hb12 hm => ?_) (fun hb12 hm => ?_)
 refine U.sks 5 5 false 18 hb12 rfl rfl rfl ?_
 refine U.r rfl (.none rfl) rfl rfl (by exact Rd.pk rfl rfl hb12 rfl) ?_
 refine U.ps 1 T rfl ?_
 refine U.done ?_
 exact St.wk (hJ10 _ hm) (Wk.e)
 refine U.pg 4 5 false 18 hb12 T rfl rfl rfl rfl ?_
 refine U.e rfl (.take 5 false 18 _ hb12 rfl rfl rfl) (by exact Eff.k (T_slices_Contains_api_Apart_api_Apart l ({ A := b, B := a : ApiApart }) _ hm) en99 rfl rfl rfl (.eq rfl) (fun _ _ => ⟨(.v _), trivial⟩)) (fun x13' hm => ?_)
 obtain ⟨x13⟩ := x13'
 refine U.r rfl (.none rfl) rfl rfl (by exact Rd.pk' rfl rfl hb12 rfl) ?_
 refine U.ps 1 T rfl ?_
 refine U.done ?_
 exact St.wk (hJ10 _ hm) (Wk.e)
 refine U.start ?_
 refine U.ps 3 T rfl ?_
 refine hm.cs (fun hb5 hm => ?_) (fun hb5 hm => ?_)
 refine U.sks 2 2 false 9 hb5 rfl rfl rfl ?_
 refine U.r rfl (.none rfl) rfl rfl (by exact Rd.pk rfl rfl hb5 rfl) ?_
 refine U.done ?_
 exact St.wk (hJ4 _ hm) (Wk.e)
 refine U.pg 2 2 false 9 hb5 T rfl rfl rfl rfl ?_
 refine U.r rfl (.none rfl) rfl rfl (by exact Rd.pk' rfl rfl hb5 rfl) ?_
 refine U.done ?_
 exact St.wk (hJ4 _ hm) (Wk.e)
end Go.Proofs.Ytpcdibgbijddlaa
