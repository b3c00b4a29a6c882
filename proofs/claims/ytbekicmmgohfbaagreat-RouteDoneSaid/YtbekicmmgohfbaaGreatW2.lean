/- The walks: each Go function does what its verification condition says (written by a program of the prover). -/
import Derived.Test.YtbekicmmgohfbaaGreatW1
import Derived.KernelRfl
set_option maxRecDepth 100000
set_option maxHeartbeats 8000000
set_option linter.unusedVariables false
set_option linter.unusedSimpArgs false
namespace Go.Proofs.YtbekicmmgohfbaaGreat
open Go Go.Taq
theorem T_taquinlaw23_RouteDone (s_1 : ApiSite) (from_1 : Int) (to_1 : Int) (tick : Int) (dead : List Int) (post : Bool → Prop) (hm : V_taquinlaw23_RouteDone s_1 from_1 to_1 tick dead post) :
    Tr Tryz.prog 3 [.agg (eApiSite s_1), .i from_1, .i to_1, .i tick, .sl 1 eI dead] [] 0 (fun A H' k => ∃ y, post y ∧ A = (.b y) ∧ H' = [] ∧ k = 0) := by
 refine Tr.intro (n := 148) Tryz.func3 rfl Tryz.ntmps3 rfl (fun w0 ok F β hβ => ?_)
 unfold V_taquinlaw23_RouteDone at hm
 refine C.seq (U.start ?_)
 refine U.e1 rfl (.none rfl) (by exact Eff1.box rfl rfl rfl rfl rfl) ?_
 refine U.ps 1 T rfl ?_
 refine U.done (C.nx (C.seq (U.start ?_)))
 refine U.e rfl (.none rfl) (by exact Eff.k (T_taquinlaw23_small _ hm) en4 rfl rfl rfl (.eq rfl) (fun _ _ => ⟨(.v _), trivial⟩)) (fun x5' hm => ?_)
 obtain ⟨x5⟩ := x5'
 refine U.ps 1 T rfl ?_
 refine U.done (C.nx (C.seq (U.start ?_)))
 refine U.ps 1 T rfl ?_
 refine U.e1 rfl (.none rfl) (by exact Eff1.st T rfl rfl rfl rfl rfl rfl rfl rfl rfl rfl) ?_
 refine U.done (C.nx (C.seq (U.start ?_)))
 refine U.ps 1 T rfl ?_
 refine U.e1 rfl (.none rfl) (by exact Eff1.st T rfl rfl rfl rfl rfl rfl rfl rfl rfl rfl) ?_
 refine U.done (C.nx (C.seq (C.seq ?_)))
 refine C.jn (fun (x10 : Bool) => [(1, .i from_1), (2, .i to_1), (3, .i tick), (4, .sl 1 eI dead), (5, .p 0 0), (11, .b x5), (28, .b x10)]) (fun (x10 : Bool) => [(0, .box [.i s_1.Floor.W, .i s_1.Floor.H, .i s_1.Floor.D, .sl 1 eI s_1.Floor.Kind, .sl 1 eI s_1.Floor.Out, .sl 5 eApiZone s_1.Zones, .sl 2 eApiApart s_1.Aparts, .v (.slice none 0 0), .v (.slice none 0 0)])]) 1 hm (fun x10 hm => ?_) (fun J11 hm hJ11 => ?_)
 refine C.nx ?_
 refine C.ite rfl hm (fun hb14 hm => ?_) (fun hb14 hm => ?_)
 refine C.seq (U.start ?_)
 refine U.ps 2 T rfl ?_
 refine U.done (C.nx (C.ret (C.rt ?_)))
 exact C.f0 T (rs' := [.b x5]) hβ ⟨x5, hm, rfl, rfl, rfl⟩
 refine C.skip (C.nx (C.seq (C.seq (U.start ?_))))
 refine U.ps 1 T rfl ?_
 refine U.done (C.nx ?_)
 refine C.jn (fun (x19 : Unit) => [(1, .i from_1), (2, .i to_1), (3, .i tick), (4, .sl 1 eI dead), (5, .p 0 0), (11, .b x5)]) (fun (x19 : Unit) => [(0, .box [.i s_1.Floor.W, .i s_1.Floor.H, .i s_1.Floor.D, .sl 1 eI s_1.Floor.Kind, .sl 1 eI s_1.Floor.Out, .sl 5 eApiZone s_1.Zones, .sl 2 eApiApart s_1.Aparts, .v (.slice none 0 0), .v (.slice none 0 0)])]) 1 hm (fun x19 hm => ?_) (fun J20 hm hJ20 => ?_)
 refine C.nx (C.seq (U.start ?_))
 refine U.ps 5 T rfl ?_
 refine U.e rfl (.none rfl) (by exact Eff.c [] (v := true) (T_route_Find ({ Floor := s_1.Floor, Zones := s_1.Zones, Aparts := s_1.Aparts, Shelves := [], Robots := [] : ApiSite }) from_1 to_1 tick [] dead 25 _ hm) en6 rfl rfl rfl (.cons (.agg (.cons (.eq rfl) (.cons (.eq rfl) (.cons (.eq rfl) (.cons (.eq rfl) (.cons (.eq rfl) (.cons (.eq rfl) (.cons (.eq rfl) (.cons (.nil _ _ _ _ ⟨rfl, rfl⟩) (.cons (.nil _ _ _ _ ⟨rfl, rfl⟩) .nil)))))))))) (.cons (.eq rfl) (.cons (.eq rfl) (.cons (.eq rfl) (.cons (.nil _ _ _ _ ⟨rfl, rfl⟩) (.eq rfl)))))) trivial rfl rfl rfl rfl rfl rfl (fun _ _ => ⟨(.tup (.cons (.o _) (.cons (.v _) .nil))), ⟨.val (.os _ _ _ fun _ => (.cons (.v _) .nil)), trivial⟩⟩) (.inr ⟨rfl, rfl⟩) (fun _ => rfl) (fun _ => rfl) rfl) (fun x40' hm => ?_)
 obtain ⟨x40⟩ := x40'
 refine U.ps 5 T rfl ?_
 refine U.done (C.nx (C.seq (C.seq (U.start ?_))))
 refine U.ps 2 T rfl ?_
 refine U.done (C.nx ?_)
 refine C.ite rfl hm (fun hb43 hm => ?_) (fun hb43 hm => ?_)
 refine C.seq (U.start ?_)
 refine U.ps 2 T rfl ?_
 refine U.done (C.nx (C.ret (C.rt ?_)))
 exact C.f0 T (rs' := [.b x5]) hβ ⟨x5, hm, rfl, rfl, rfl⟩
 refine C.skip (C.nx (C.seq (U.start ?_)))
 refine U.ps 2 T rfl ?_
 refine U.e1 rfl (.none rfl) (by exact Eff1.bs T (enc := eApiStart) (xs := ([({ Cell := from_1, Charge := 1000000 : ApiStart })] : List ApiStart)) rfl rfl rfl rfl rfl rfl rfl rfl rfl rfl (fun _ _ => rfl) rfl rfl) ?_
 refine U.ps 1 T rfl ?_
 refine U.e1 rfl (.none rfl) (by exact Eff1.st T rfl rfl rfl rfl rfl rfl rfl rfl rfl rfl) ?_
 refine U.done (C.nx (C.seq (U.start ?_)))
 refine U.ps 3 T rfl ?_
 refine U.e1 rfl (.none rfl) (by exact Eff1.bs T (enc := eApiRobot) (xs := ([({ Cell := from_1, Load := (-1), Charge := 1000000, Rest := 0, Mute := 0, Dead := false : ApiRobot })] : List ApiRobot)) rfl rfl rfl rfl rfl rfl rfl rfl rfl rfl (fun _ _ => rfl) rfl rfl) ?_
 refine U.ps 2 T rfl ?_
 refine U.e1 rfl (.none rfl) (by exact Eff1.al T rfl rfl rfl rfl) ?_
 refine U.e1 rfl (.none rfl) (by exact Eff1.st T rfl rfl rfl rfl rfl rfl rfl rfl rfl rfl) ?_
 refine U.done (C.nx (C.seq (C.seq (U.start ?_))))
 refine U.ps 1 T rfl ?_
 refine U.done (C.nx ?_)
 refine C.jn (fun (x52 : Int × List Int × List ApiRobot × List Int × List Int × List ApiStuck) => [(2, .i to_1), (11, .b x5), (15, .p 0 0)]) (fun (x52 : Int × List Int × List ApiRobot × List Int × List Int × List ApiStuck) => [(0, .box [.i x52.1, .o 1, .o 2, .o 3, .sl 1 eI x52.2.2.2.2.1, .o 4]), (1, .val (.os 1 eI x52.2.1)), (2, .val (.os 6 eApiRobot x52.2.2.1)), (3, .val (.os 1 eI x52.2.2.2.1)), (4, .val (.os 2 eApiStuck x52.2.2.2.2.2))]) 5 hm (fun x52 hm => ?_) (fun J53 hm hJ53 => ?_)
 refine C.nx (C.seq ?_)
 refine C.jn (fun (x89 : Bool) => [(10, .b x89)]) (fun (x89 : Bool) => []) 0 hm (fun x89 hm => ?_) (fun J90 hm hJ90 => ?_)
 refine C.nx (C.ret ?_)
 exact C.f0 T (rs' := [.b x89]) hβ ⟨x89, hm, rfl, rfl, rfl⟩
 refine U.start ?_
 refine U.ps 2 T rfl ?_
 refine hm.cs (fun hb91 hm => ?_) (fun hb91 hm => ?_)
 refine U.pg 2 1 true 139 hb91 T rfl rfl rfl rfl ?_
 obtain ⟨x92, hx92, hm⟩ := hm
 refine U.r rfl (.take 1 true 139 _ hb91 rfl rfl rfl) rfl rfl (by exact Rd.io T rfl rfl rfl rfl rfl rfl rfl hx92) ?_
 refine U.pg 1 1 true 139 hb91 T rfl rfl rfl rfl ?_
 refine U.r rfl (.take 1 true 139 _ hb91 rfl rfl rfl) rfl rfl (by exact Rd.le T rfl rfl rfl (idx_some hx92).2.2 rfl rfl rfl) ?_
 refine U.pg 2 1 true 139 hb91 T rfl rfl rfl rfl ?_
 refine U.r rfl (.none rfl) rfl rfl (by exact Rd.pk rfl rfl hb91 rfl) ?_
 refine U.ps 1 T rfl ?_
 refine U.done ?_
 exact St.wk (hJ90 _ hm) (Wk.e)
 refine U.sks 7 1 true 139 hb91 rfl rfl rfl ?_
 refine U.r rfl (.none rfl) rfl rfl (by exact Rd.pk' rfl rfl hb91 rfl) ?_
 refine U.ps 1 T rfl ?_
 refine U.done ?_
 exact St.wk (hJ90 _ hm) (Wk.e)
 refine C.block ?_
 refine St.wk (C.loop (fun (s54 : Int × List Int × List ApiRobot × List Int × List Int × List ApiStuck × Int) => [(2, .i to_1), (5, .p 0 0), (11, .b x5), (13, .o 2), (15, .p 3 0), (16, .i s54.2.2.2.2.2.2)]) (fun (s54 : Int × List Int × List ApiRobot × List Int × List Int × List ApiStuck × Int) => [(0, .box [.i s_1.Floor.W, .i s_1.Floor.H, .i s_1.Floor.D, .sl 1 eI s_1.Floor.Kind, .sl 1 eI s_1.Floor.Out, .sl 5 eApiZone s_1.Zones, .sl 2 eApiApart s_1.Aparts, .v (.slice none 0 0), .o 1]), (1, .val (.os 2 eApiStart ([({ Cell := from_1, Charge := 1000000 : ApiStart })] : List ApiStart))), (2, .val (.os 1 eI x40.1)), (3, .box [.i s54.1, .o 4, .o 5, .o 6, .sl 1 eI s54.2.2.2.2.1, .o 7]), (4, .val (.os 1 eI s54.2.1)), (5, .val (.os 6 eApiRobot s54.2.2.1)), (6, .val (.os 1 eI s54.2.2.2.1)), (7, .val (.os 2 eApiStuck s54.2.2.2.2.2.1))]) hm (fun s54 Y55 hm => ?_)) (Wk.mk' [some 0, some 2, some 1, some 4, none, some 3, none, none] rfl rfl (.eqs rfl) ⟨bX, vL, vL, ⟨_, rfl, .box rfl (.cons (.eq rfl) (.cons (.nilO _ _ ⟨rfl, rfl⟩ rfl) (.cons (.eq rfl) (.cons (.nilO _ _ ⟨rfl, rfl⟩ rfl) (.cons (.eq rfl) (.cons (.nilO _ _ ⟨rfl, rfl⟩ rfl) .nil))))))⟩, ⟨_, rfl, .nil _ _⟩, vL, ⟨_, rfl, .nil _ _⟩, ⟨_, rfl, .nil _ _⟩, trivial⟩ rfl)
 refine C.seq (C.seq (U.start ?_))
 refine U.ps 4 T rfl ?_
 refine U.done (C.nx ?_)
 refine C.ite rfl hm (fun hb58 hm => ?_) (fun hb58 hm => ?_)
 refine C.skip (C.nx (C.seq (C.block (C.seq (C.seq ?_)))))
 refine D.beg 9999 [0, 2, 3] [] mix rfl rfl (by kernel_rfl) (by repeat (first | exact NoPanicQ.body | exact NoPanicQ.rnd | refine NoPanicQ.th ?_ | refine NoPanicQ.blk ?_)) (fun hQ hS ws M' => ?_)
 refine D.ps 4 [(0, []), (1, []), (2, []), (3, [])] rfl hQ hS T rfl rfl (by kernel_rfl) ?_
 obtain ⟨x61, hx61, hm⟩ := hm
 refine D.q 4 [] hQ hS rfl (.none rfl) rfl rfl (by exact Rd.io T rfl rfl rfl rfl rfl rfl rfl hx61) rfl (by kernel_rfl) ?_
 refine D.q 5 [] hQ hS rfl (.none rfl) rfl rfl (by exact Rd.le T rfl rfl rfl (idx_some hx61).2.2 rfl rfl rfl) rfl (by kernel_rfl) ?_
 refine D.e 6 rfl (.none rfl) (by exact Eff.k (T_act_Legal ({ Floor := s_1.Floor, Zones := s_1.Zones, Aparts := s_1.Aparts, Shelves := [], Robots := ([({ Cell := from_1, Charge := 1000000 : ApiStart })] : List ApiStart) : ApiSite }) ({ Tick := s54.1, Shelves := s54.2.1, Robots := s54.2.2.1, People := s54.2.2.2.1, Dead := s54.2.2.2.2.1, Stuck := s54.2.2.2.2.2.1 : ApiState }) 0 x61 _ hm) en7 rfl rfl rfl (.cons (.agg (.cons (.eq rfl) (.cons (.eq rfl) (.cons (.eq rfl) (.cons (.eq rfl) (.cons (.eq rfl) (.cons (.eq rfl) (.cons (.eq rfl) (.cons (.nil _ _ _ _ ⟨rfl, rfl⟩) (.cons (.fz rfl rfl rfl (.os fun _ => .cons (.ro rfl) (.cons (.ro rfl) .nil))) .nil)))))))))) (.cons (.agg (.cons (.eq rfl) (.cons (.fz rfl rfl rfl (.os fun _ => .cons (.ro rfl) .nil)) (.cons (.fz rfl rfl rfl (.os fun _ => .cons (.ro rfl) (.cons (.ro rfl) (.cons (.ro rfl) (.cons (.ro rfl) (.cons (.ro rfl) (.cons (.ro rfl) .nil))))))) (.cons (.fz rfl rfl rfl (.os fun _ => .cons (.ro rfl) .nil)) (.cons (.eq rfl) (.cons (.fz rfl rfl rfl (.os fun _ => .cons (.ro rfl) (.cons (.ro rfl) .nil))) .nil))))))) (.eq rfl))) (fun _ _ => ⟨(.v _), trivial⟩)) (by kernel_rfl) rfl rfl (fun x62' hm => ?_)
 obtain ⟨x62⟩ := x62'
 refine D.ps 1 [(7, [])] rfl hQ hS T rfl rfl (by kernel_rfl) ?_
 refine D.done (by kernel_rfl) ?_
 refine C.nx ?_
 refine C.ite rfl hm (fun hb63 hm => ?_) (fun hb63 hm => ?_)
 refine C.seq (U.start ?_)
 refine U.ps 1 T rfl ?_
 refine U.done (C.nx (C.ret (C.rt (C.brt (C.rt (C.rt (C.brt (C.rt ?_))))))))
 exact C.f0 T (rs' := [.b false]) hβ ⟨false, hm, rfl, rfl, rfl⟩
 refine C.skip (C.nx (C.seq (U.start ?_)))
 refine U.ps 2 T rfl ?_
 obtain ⟨x68, hx68, hm⟩ := hm
 refine U.r rfl (.none rfl) rfl rfl (by exact Rd.io T rfl rfl rfl rfl rfl rfl rfl hx68) ?_
 refine U.ps 1 T rfl ?_
 refine U.r rfl (.none rfl) rfl rfl (by exact Rd.le T rfl rfl rfl (idx_some hx68).2.2 rfl rfl rfl) ?_
 refine U.ps 1 T rfl ?_
 refine U.done (C.nx (C.seq ?_))
 refine D.beg 7 [0, 2, 3] [] mix rfl rfl (by kernel_rfl) (by repeat (first | exact NoPanicQ.body | exact NoPanicQ.rnd | refine NoPanicQ.th ?_ | refine NoPanicQ.blk ?_)) (fun hQ hS ws M' => ?_)
 refine D.ps 4 [(0, []), (1, []), (2, []), (3, [])] rfl hQ hS T rfl rfl (by kernel_rfl) ?_
 refine D.q 4 [] hQ hS rfl (.none rfl) rfl rfl (by exact Rd.io T rfl rfl rfl rfl rfl rfl rfl hx61) rfl (by kernel_rfl) ?_
 refine D.q 5 [] hQ hS rfl (.none rfl) rfl rfl (by exact Rd.le T rfl rfl rfl (idx_some hx61).2.2 rfl rfl rfl) rfl (by kernel_rfl) ?_
 refine D.e 6 rfl (.none rfl) (by exact Eff.c [] (v := true) (T_act_Do ({ Floor := s_1.Floor, Zones := s_1.Zones, Aparts := s_1.Aparts, Shelves := [], Robots := ([({ Cell := from_1, Charge := 1000000 : ApiStart })] : List ApiStart) : ApiSite }) ({ Tick := s54.1, Shelves := s54.2.1, Robots := s54.2.2.1, People := s54.2.2.2.1, Dead := s54.2.2.2.2.1, Stuck := s54.2.2.2.2.2.1 : ApiState }) 0 x61 _ hm) en8 rfl rfl rfl (.cons (.agg (.cons (.eq rfl) (.cons (.eq rfl) (.cons (.eq rfl) (.cons (.eq rfl) (.cons (.eq rfl) (.cons (.eq rfl) (.cons (.eq rfl) (.cons (.nil _ _ _ _ ⟨rfl, rfl⟩) (.cons (.fz rfl rfl rfl (.os fun _ => .cons (.ro rfl) (.cons (.ro rfl) .nil))) .nil)))))))))) (.cons (.agg (.cons (.eq rfl) (.cons (.fz rfl rfl rfl (.os fun _ => .cons (.ro rfl) .nil)) (.cons (.fz rfl rfl rfl (.os fun _ => .cons (.ro rfl) (.cons (.ro rfl) (.cons (.ro rfl) (.cons (.ro rfl) (.cons (.ro rfl) (.cons (.ro rfl) .nil))))))) (.cons (.fz rfl rfl rfl (.os fun _ => .cons (.ro rfl) .nil)) (.cons (.eq rfl) (.cons (.fz rfl rfl rfl (.os fun _ => .cons (.ro rfl) (.cons (.ro rfl) .nil))) .nil))))))) (.eq rfl))) trivial rfl rfl rfl rfl rfl rfl (fun _ _ => ⟨(.agg (.cons (.v _) (.cons (.o _) (.cons (.o _) (.cons (.o _) (.cons (.o _) (.cons (.o _) .nil))))))), ⟨.val (.os _ _ _ fun _ => (.cons (.v _) .nil)), .val (.os _ _ _ fun _ => (.cons (.v _) (.cons (.v _) (.cons (.v _) (.cons (.v _) (.cons (.v _) (.cons (.v _) .nil))))))), .val (.os _ _ _ fun _ => (.cons (.v _) .nil)), .val (.os _ _ _ fun _ => (.cons (.v _) .nil)), .val (.os _ _ _ fun _ => (.cons (.v _) (.cons (.v _) .nil))), trivial⟩⟩) (.inr ⟨rfl, rfl⟩) (fun _ => rfl) (fun _ => rfl) rfl) (by kernel_rfl) rfl rfl (fun x71' hm => ?_)
 obtain ⟨x71⟩ := x71'
 refine D.ze1 rfl (.none rfl) (by exact Eff1.st T rfl rfl rfl rfl rfl rfl rfl rfl rfl rfl) (by kernel_rfl) (by kernel_rfl) ?_
 refine C.nx (C.seq (C.seq (U.start ?_)))
 refine U.ps 4 T rfl ?_
 refine U.done (C.nx ?_)
 refine C.ite rfl hm (fun hb74 hm => ?_) (fun hb74 hm => ?_)
 refine C.seq (U.start ?_)
 refine U.ps 1 T rfl ?_
 refine U.done (C.nx (C.ret (C.rt (C.brt (C.rt (C.rt (C.brt (C.rt ?_))))))))
 exact C.f0 T (rs' := [.b false]) hβ ⟨false, hm, rfl, rfl, rfl⟩
 refine C.skip (C.nx (C.seq (C.seq (U.start ?_))))
 refine U.ps 2 T rfl ?_
 refine U.r rfl (.none rfl) rfl rfl (by exact Rd.io T rfl rfl rfl rfl rfl rfl rfl hx61) ?_
 refine U.r rfl (.none rfl) rfl rfl (by exact Rd.le T rfl rfl rfl (idx_some hx61).2.2 rfl rfl rfl) ?_
 refine U.ps 1 T rfl ?_
 refine U.done (C.nx ?_)
 refine C.jn (fun (x79 : List ApiRobot) => [(2, .i to_1), (5, .p 0 0), (11, .b x5), (13, .o 2), (15, .p 3 0), (16, .i s54.2.2.2.2.2.2)]) (fun (x79 : List ApiRobot) => [(0, .box [.i s_1.Floor.W, .i s_1.Floor.H, .i s_1.Floor.D, .sl 1 eI s_1.Floor.Kind, .sl 1 eI s_1.Floor.Out, .sl 5 eApiZone s_1.Zones, .sl 2 eApiApart s_1.Aparts, .v (.slice none 0 0), .o 1]), (1, .val (.os 2 eApiStart ([({ Cell := from_1, Charge := 1000000 : ApiStart })] : List ApiStart))), (2, .val (.os 1 eI x40.1)), (3, .box [.i x71.Tick, .o 4, .o 5, .o 6, .o 7, .o 8]), (4, .val (.os 1 eI x71.Shelves)), (5, .val (.os 6 eApiRobot x79)), (6, .val (.os 1 eI x71.People)), (7, .val (.os 1 eI x71.Dead)), (8, .val (.os 2 eApiStuck x71.Stuck))]) 9 hm (fun x79 hm => ?_) (fun J80 hm hJ80 => ?_)
 refine C.nx (U.start ?_)
 refine U.ps 4 T rfl ?_
 refine U.e1 rfl (.none rfl) (by exact Eff1.st T rfl rfl rfl rfl rfl rfl rfl rfl rfl rfl) ?_
 refine U.done (C.bnx (C.nx (U.start ?_)))
 refine U.ps 3 T rfl ?_
 refine U.done (C.nx ?_)
 exact St.wk (C.next hm) (Wk.mk' [some 0, some 1, some 2, some 3, some 4, some 5, some 6, some 8] rfl rfl (.eqs rfl) ⟨bX, vL, vL, ⟨_, rfl, .box rfl (.cons (.eq rfl) (.cons (.eq rfl) (.cons (.eq rfl) (.cons (.eq rfl) (.cons (.fz rfl rfl rfl (.os fun _ => .cons (.ro rfl) .nil)) (.eq rfl))))))⟩, vL, vL, vL, vL, trivial⟩ rfl)
 refine C.ite rfl hm (fun hb81 hm => ?_) (fun hb81 hm => ?_)
 refine U.start ?_
 refine U.ps 5 T rfl ?_
 obtain ⟨x84, hx84, hm⟩ := hm
 refine U.r rfl (.none rfl) rfl rfl (by exact Rd.io T rfl rfl rfl rfl rfl rfl rfl hx84) ?_
 refine U.ps 1 T rfl ?_
 refine U.e1 rfl (.none rfl) (by exact Eff1.se T (z' := ({ Cell := x84.Cell, Load := x84.Load, Charge := x84.Charge, Rest := imax (w64 (x68.Rest - 1)) 0, Mute := x84.Mute, Dead := x84.Dead : ApiRobot })) rfl rfl rfl (idx_some hx84).2.2 rfl rfl rfl rfl rfl rfl rfl rfl (fun _ => rfl) rfl) ?_
 refine U.done ?_
 exact St.wk (hJ80 _ hm) (Wk.f [some 0, some 1, some 2, some 3, some 8, some 9, some 10, some 11, some 12] ⟨bX, vL, vL, bX, vL, vL, vL, vL, vL, trivial⟩)
 refine C.skip ?_
 exact St.wk (hJ80 _ hm) (Wk.f [some 0, some 1, some 2, some 3, some 8, some 9, some 10, some 11, some 12] ⟨bX, vL, vL, bX, vL, vL, vL, vL, vL, trivial⟩)
 refine C.exit (C.ex (C.ex (C.bex ?_)))
 exact St.wk (hJ53 _ hm) (Wk.f [some 3, some 4, some 5, some 6, some 7] ⟨bX, vL, vL, vL, vL, trivial⟩)
 refine C.block ?_
 refine St.wk (C.loop (fun (s21 : Int) => [(1, .i from_1), (2, .i to_1), (3, .i tick), (4, .sl 1 eI dead), (5, .p 0 0), (11, .b x5), (12, .i s21)]) (fun (s21 : Int) => [(0, .box [.i s_1.Floor.W, .i s_1.Floor.H, .i s_1.Floor.D, .sl 1 eI s_1.Floor.Kind, .sl 1 eI s_1.Floor.Out, .sl 5 eApiZone s_1.Zones, .sl 2 eApiApart s_1.Aparts, .v (.slice none 0 0), .v (.slice none 0 0)])]) hm (fun s21 Y22 hm => ?_)) (Wk.f [some 0] ⟨bX, trivial⟩)
 refine C.seq (C.seq (U.start ?_))
 refine U.ps 4 T rfl ?_
 refine U.done (C.nx ?_)
 refine C.ite rfl hm (fun hb25 hm => ?_) (fun hb25 hm => ?_)
 refine C.skip (C.nx (C.seq (C.block (C.seq ?_))))
 refine C.jn (fun (x26 : Bool) => [(1, .i from_1), (2, .i to_1), (3, .i tick), (4, .sl 1 eI dead), (5, .p 0 0), (11, .b x5), (12, .i s21), (68, .b x26)]) (fun (x26 : Bool) => [(0, .box [.i s_1.Floor.W, .i s_1.Floor.H, .i s_1.Floor.D, .sl 1 eI s_1.Floor.Kind, .sl 1 eI s_1.Floor.Out, .sl 5 eApiZone s_1.Zones, .sl 2 eApiApart s_1.Aparts, .v (.slice none 0 0), .v (.slice none 0 0)])]) 1 hm (fun x26 hm => ?_) (fun J27 hm hJ27 => ?_)
 refine C.nx ?_
 refine C.ite rfl hm (fun hb33 hm => ?_) (fun hb33 hm => ?_)
 refine C.seq (U.start ?_)
 refine U.ps 2 T rfl ?_
 refine U.done (C.nx (C.ret (C.brt (C.rt (C.rt (C.brt (C.rt ?_)))))))
 exact C.f0 T (rs' := [.b x5]) hβ ⟨x5, hm, rfl, rfl, rfl⟩
 refine C.skip (C.bnx (C.nx (U.start ?_)))
 refine U.ps 3 T rfl ?_
 refine U.done (C.nx ?_)
 exact St.wk (C.next hm) (Wk.f [some 0] ⟨bX, trivial⟩)
 refine D.beg 9999 [0] [] mix rfl rfl (by kernel_rfl) (by repeat (first | exact NoPanicQ.body | exact NoPanicQ.rnd | refine NoPanicQ.th ?_ | refine NoPanicQ.blk ?_)) (fun hQ hS ws M' => ?_)
 refine D.ps 2 [(0, []), (1, [])] rfl hQ hS T rfl rfl (by kernel_rfl) ?_
 obtain ⟨x28, hx28, hm⟩ := hm
 refine D.q 2 [] hQ hS rfl (.none rfl) rfl rfl (by exact Rd.ix T rfl rfl rfl rfl rfl rfl hx28) rfl (by kernel_rfl) ?_
 refine D.ps 3 [(3, []), (4, []), (5, [])] rfl hQ hS T rfl rfl (by kernel_rfl) ?_
 refine hm.cs (fun hb29 hm => ?_) (fun hb29 hm => ?_)
 refine D.sq 6 [] hQ hS rfl (.skip 5 false 41 _ hb29 rfl rfl rfl) rfl rfl (by kernel_rfl) ?_
 refine D.sq 7 [] hQ hS rfl (.skip 5 false 41 _ hb29 rfl rfl rfl) rfl rfl (by kernel_rfl) ?_
 refine D.sq 8 [] hQ hS rfl (.skip 5 false 41 _ hb29 rfl rfl rfl) rfl rfl (by kernel_rfl) ?_
 refine D.sq 9 [] hQ hS rfl (.skip 5 false 41 _ hb29 rfl rfl rfl) rfl rfl (by kernel_rfl) ?_
 refine D.sq 10 [] hQ hS rfl (.skip 5 false 41 _ hb29 rfl rfl rfl) rfl rfl (by kernel_rfl) ?_
 refine D.sq 11 [] hQ hS rfl (.skip 5 false 41 _ hb29 rfl rfl rfl) rfl rfl (by kernel_rfl) ?_
 refine D.sq 12 [] hQ hS rfl (.skip 5 false 41 _ hb29 rfl rfl rfl) rfl rfl (by kernel_rfl) ?_
 refine D.sq 13 [] hQ hS rfl (.skip 5 false 41 _ hb29 rfl rfl rfl) rfl rfl (by kernel_rfl) ?_
 refine D.sq 14 [] hQ hS rfl (.skip 5 false 41 _ hb29 rfl rfl rfl) rfl rfl (by kernel_rfl) ?_
 refine D.q 15 [] hQ hS rfl (.none rfl) rfl rfl (by exact Rd.pk rfl rfl hb29 rfl) rfl (by kernel_rfl) ?_
 refine D.ps 1 [(16, [])] rfl hQ hS T rfl rfl (by kernel_rfl) ?_
 refine D.sq 17 [] hQ hS rfl (.skip 16 false 52 _ rfl rfl rfl rfl) rfl rfl (by kernel_rfl) ?_
 refine D.sq 18 [] hQ hS rfl (.skip 16 false 52 _ rfl rfl rfl rfl) rfl rfl (by kernel_rfl) ?_
 refine D.sq 19 [] hQ hS rfl (.skip 16 false 52 _ rfl rfl rfl rfl) rfl rfl (by kernel_rfl) ?_
 refine D.sq 20 [] hQ hS rfl (.und 19 true 55 rfl rfl rfl) rfl rfl (by kernel_rfl) ?_
 refine D.sq 21 [] hQ hS rfl (.und 19 true 55 rfl rfl rfl) rfl rfl (by kernel_rfl) ?_
 refine D.sq 22 [] hQ hS rfl (.und 19 true 55 rfl rfl rfl) rfl rfl (by kernel_rfl) ?_
 refine D.sq 23 [] hQ hS rfl (.und 19 true 55 rfl rfl rfl) rfl rfl (by kernel_rfl) ?_
 refine D.sq 24 [] hQ hS rfl (.und 19 true 55 rfl rfl rfl) rfl rfl (by kernel_rfl) ?_
 refine D.sq 25 [] hQ hS rfl (.und 19 true 55 rfl rfl rfl) rfl rfl (by kernel_rfl) ?_
 refine D.sq 26 [] hQ hS rfl (.und 19 true 55 rfl rfl rfl) rfl rfl (by kernel_rfl) ?_
 refine D.sq 27 [] hQ hS rfl (.und 19 true 55 rfl rfl rfl) rfl rfl (by kernel_rfl) ?_
 refine D.sq 28 [] hQ hS rfl (.und 19 true 55 rfl rfl rfl) rfl rfl (by kernel_rfl) ?_
 refine D.sq 29 [] hQ hS rfl (.und 19 true 55 rfl rfl rfl) rfl rfl (by kernel_rfl) ?_
 refine D.sq 30 [] hQ hS rfl (.und 19 true 55 rfl rfl rfl) rfl rfl (by kernel_rfl) ?_
 refine D.sq 31 [] hQ hS rfl (.skip 16 false 52 _ rfl rfl rfl rfl) rfl rfl (by kernel_rfl) ?_
 refine D.q 32 [] hQ hS rfl (.none rfl) rfl rfl (by exact Rd.pk rfl rfl rfl rfl) rfl (by kernel_rfl) ?_
 refine D.done (by kernel_rfl) ?_
 exact St.wk (hJ27 _ hm) (Wk.f [some 0] ⟨bX, trivial⟩)
 refine D.q 6 [] hQ hS rfl (.take 5 false 41 _ hb29 rfl rfl rfl) rfl rfl (by exact Rd.p T rfl) rfl (by kernel_rfl) ?_
 refine D.q 7 [] hQ hS rfl (.take 5 false 41 _ hb29 rfl rfl rfl) rfl rfl (by exact Rd.p T rfl) rfl (by kernel_rfl) ?_
 refine D.q 8 [] hQ hS rfl (.take 5 false 41 _ hb29 rfl rfl rfl) rfl rfl (by exact Rd.ix T rfl rfl rfl rfl rfl rfl hx28) rfl (by kernel_rfl) ?_
 refine D.q 9 [] hQ hS rfl (.take 5 false 41 _ hb29 rfl rfl rfl) rfl rfl (by exact Rd.l T rfl rfl rfl) rfl (by kernel_rfl) ?_
 refine D.q 10 [] hQ hS rfl (.take 5 false 41 _ hb29 rfl rfl rfl) rfl rfl (by exact Rd.p T rfl) rfl (by kernel_rfl) ?_
 refine D.q 11 [] hQ hS rfl (.take 5 false 41 _ hb29 rfl rfl rfl) rfl rfl (by exact Rd.p T rfl) rfl (by kernel_rfl) ?_
 refine D.q 12 [] hQ hS rfl (.take 5 false 41 _ hb29 rfl rfl rfl) rfl rfl (by exact Rd.l T rfl rfl rfl) rfl (by kernel_rfl) ?_
 refine D.q 13 [] hQ hS rfl (.take 5 false 41 _ hb29 rfl rfl rfl) rfl rfl (by exact Rd.p T rfl) rfl (by kernel_rfl) ?_
 refine D.q 14 [] hQ hS rfl (.take 5 false 41 _ hb29 rfl rfl rfl) rfl rfl (by exact Rd.p T rfl) rfl (by kernel_rfl) ?_
 refine D.q 15 [] hQ hS rfl (.none rfl) rfl rfl (by exact Rd.pk' rfl rfl hb29 rfl) rfl (by kernel_rfl) ?_
 refine D.ps 1 [(16, [])] rfl hQ hS T rfl rfl (by kernel_rfl) ?_
 refine hm.cs (fun hb30 hm => ?_) (fun hb30 hm => ?_)
 refine D.sq 17 [] hQ hS rfl (.skip 16 false 52 _ hb30 rfl rfl rfl) rfl rfl (by kernel_rfl) ?_
 refine D.sq 18 [] hQ hS rfl (.skip 16 false 52 _ hb30 rfl rfl rfl) rfl rfl (by kernel_rfl) ?_
 refine D.sq 19 [] hQ hS rfl (.skip 16 false 52 _ hb30 rfl rfl rfl) rfl rfl (by kernel_rfl) ?_
 refine D.sq 20 [] hQ hS rfl (.und 19 true 55 rfl rfl rfl) rfl rfl (by kernel_rfl) ?_
 refine D.sq 21 [] hQ hS rfl (.und 19 true 55 rfl rfl rfl) rfl rfl (by kernel_rfl) ?_
 refine D.sq 22 [] hQ hS rfl (.und 19 true 55 rfl rfl rfl) rfl rfl (by kernel_rfl) ?_
 refine D.sq 23 [] hQ hS rfl (.und 19 true 55 rfl rfl rfl) rfl rfl (by kernel_rfl) ?_
 refine D.sq 24 [] hQ hS rfl (.und 19 true 55 rfl rfl rfl) rfl rfl (by kernel_rfl) ?_
 refine D.sq 25 [] hQ hS rfl (.und 19 true 55 rfl rfl rfl) rfl rfl (by kernel_rfl) ?_
 refine D.sq 26 [] hQ hS rfl (.und 19 true 55 rfl rfl rfl) rfl rfl (by kernel_rfl) ?_
 refine D.sq 27 [] hQ hS rfl (.und 19 true 55 rfl rfl rfl) rfl rfl (by kernel_rfl) ?_
 refine D.sq 28 [] hQ hS rfl (.und 19 true 55 rfl rfl rfl) rfl rfl (by kernel_rfl) ?_
 refine D.sq 29 [] hQ hS rfl (.und 19 true 55 rfl rfl rfl) rfl rfl (by kernel_rfl) ?_
 refine D.sq 30 [] hQ hS rfl (.und 19 true 55 rfl rfl rfl) rfl rfl (by kernel_rfl) ?_
 refine D.sq 31 [] hQ hS rfl (.skip 16 false 52 _ hb30 rfl rfl rfl) rfl rfl (by kernel_rfl) ?_
 refine D.q 32 [] hQ hS rfl (.none rfl) rfl rfl (by exact Rd.pk rfl rfl hb30 rfl) rfl (by kernel_rfl) ?_
 refine D.done (by kernel_rfl) ?_
 exact St.wk (hJ27 _ hm) (Wk.f [some 0] ⟨bX, trivial⟩)
 refine D.q 17 [] hQ hS rfl (.take 16 false 52 _ hb30 rfl rfl rfl) rfl rfl (by exact Rd.p T rfl) rfl (by kernel_rfl) ?_
 refine D.q 18 [] hQ hS rfl (.take 16 false 52 _ hb30 rfl rfl rfl) rfl rfl (by exact Rd.p T rfl) rfl (by kernel_rfl) ?_
 refine D.q 19 [] hQ hS rfl (.take 16 false 52 _ hb30 rfl rfl rfl) rfl rfl (by exact Rd.p T rfl) rfl (by kernel_rfl) ?_
 refine hm.cs (fun hb31 hm => ?_) (fun hb31 hm => ?_)
 refine D.q 20 [] hQ hS rfl (.take 19 true 55 _ hb31 rfl rfl rfl) rfl rfl (by exact Rd.p T rfl) rfl (by kernel_rfl) ?_
 refine D.q 21 [] hQ hS rfl (.take 19 true 55 _ hb31 rfl rfl rfl) rfl rfl (by exact Rd.p T rfl) rfl (by kernel_rfl) ?_
 refine D.q 22 [] hQ hS rfl (.take 19 true 55 _ hb31 rfl rfl rfl) rfl rfl (by exact Rd.p T rfl) rfl (by kernel_rfl) ?_
 refine D.q 23 [] hQ hS rfl (.take 19 true 55 _ hb31 rfl rfl rfl) rfl rfl (by exact Rd.p T rfl) rfl (by kernel_rfl) ?_
 obtain ⟨x32, hx32, hm⟩ := hm
 refine D.q 24 [] hQ hS rfl (.take 19 true 55 _ hb31 rfl rfl rfl) rfl rfl (by exact Rd.ix T rfl rfl rfl rfl rfl rfl hx32) rfl (by kernel_rfl) ?_
 refine D.q 25 [] hQ hS rfl (.take 19 true 55 _ hb31 rfl rfl rfl) rfl rfl (by exact Rd.l T rfl rfl rfl) rfl (by kernel_rfl) ?_
 refine D.q 26 [] hQ hS rfl (.take 19 true 55 _ hb31 rfl rfl rfl) rfl rfl (by exact Rd.p T rfl) rfl (by kernel_rfl) ?_
 refine D.q 27 [] hQ hS rfl (.take 19 true 55 _ hb31 rfl rfl rfl) rfl rfl (by exact Rd.p T rfl) rfl (by kernel_rfl) ?_
 refine D.q 28 [] hQ hS rfl (.take 19 true 55 _ hb31 rfl rfl rfl) rfl rfl (by exact Rd.ix T rfl rfl rfl rfl rfl rfl hx28) rfl (by kernel_rfl) ?_
 refine D.q 29 [] hQ hS rfl (.take 19 true 55 _ hb31 rfl rfl rfl) rfl rfl (by exact Rd.l T rfl rfl rfl) rfl (by kernel_rfl) ?_
 refine D.q 30 [] hQ hS rfl (.take 19 true 55 _ hb31 rfl rfl rfl) rfl rfl (by exact Rd.p T rfl) rfl (by kernel_rfl) ?_
 refine D.q 31 [] hQ hS rfl (.take 16 false 52 _ hb30 rfl rfl rfl) rfl rfl (by exact Rd.pk rfl rfl hb31 rfl) rfl (by kernel_rfl) ?_
 refine D.q 32 [] hQ hS rfl (.none rfl) rfl rfl (by exact Rd.pk' rfl rfl hb30 rfl) rfl (by kernel_rfl) ?_
 refine D.done (by kernel_rfl) ?_
 exact St.wk (hJ27 _ hm) (Wk.f [some 0] ⟨bX, trivial⟩)
 refine D.sq 20 [] hQ hS rfl (.skip 19 true 55 _ hb31 rfl rfl rfl) rfl rfl (by kernel_rfl) ?_
 refine D.sq 21 [] hQ hS rfl (.skip 19 true 55 _ hb31 rfl rfl rfl) rfl rfl (by kernel_rfl) ?_
 refine D.sq 22 [] hQ hS rfl (.skip 19 true 55 _ hb31 rfl rfl rfl) rfl rfl (by kernel_rfl) ?_
 refine D.sq 23 [] hQ hS rfl (.skip 19 true 55 _ hb31 rfl rfl rfl) rfl rfl (by kernel_rfl) ?_
 refine D.sq 24 [] hQ hS rfl (.skip 19 true 55 _ hb31 rfl rfl rfl) rfl rfl (by kernel_rfl) ?_
 refine D.sq 25 [] hQ hS rfl (.skip 19 true 55 _ hb31 rfl rfl rfl) rfl rfl (by kernel_rfl) ?_
 refine D.sq 26 [] hQ hS rfl (.skip 19 true 55 _ hb31 rfl rfl rfl) rfl rfl (by kernel_rfl) ?_
 refine D.sq 27 [] hQ hS rfl (.skip 19 true 55 _ hb31 rfl rfl rfl) rfl rfl (by kernel_rfl) ?_
 refine D.sq 28 [] hQ hS rfl (.skip 19 true 55 _ hb31 rfl rfl rfl) rfl rfl (by kernel_rfl) ?_
 refine D.sq 29 [] hQ hS rfl (.skip 19 true 55 _ hb31 rfl rfl rfl) rfl rfl (by kernel_rfl) ?_
 refine D.sq 30 [] hQ hS rfl (.skip 19 true 55 _ hb31 rfl rfl rfl) rfl rfl (by kernel_rfl) ?_
 refine D.q 31 [] hQ hS rfl (.take 16 false 52 _ hb30 rfl rfl rfl) rfl rfl (by exact Rd.pk' rfl rfl hb31 rfl) rfl (by kernel_rfl) ?_
 refine D.q 32 [] hQ hS rfl (.none rfl) rfl rfl (by exact Rd.pk' rfl rfl hb30 rfl) rfl (by kernel_rfl) ?_
 refine D.done (by kernel_rfl) ?_
 exact St.wk (hJ27 _ hm) (Wk.f [some 0] ⟨bX, trivial⟩)
 refine C.exit (C.ex (C.ex (C.bex ?_)))
 exact St.wk (hJ20 _ hm) (Wk.f [some 0] ⟨bX, trivial⟩)
 refine U.start ?_
 refine U.ps 2 T rfl ?_
 refine U.e rfl (.none rfl) (by exact Eff.k (T_taquinlaw23_fair ({ Floor := s_1.Floor, Zones := s_1.Zones, Aparts := s_1.Aparts, Shelves := [], Robots := [] : ApiSite }) [] dead _ hm) en5 rfl rfl rfl (.cons (.agg (.cons (.eq rfl) (.cons (.eq rfl) (.cons (.eq rfl) (.cons (.eq rfl) (.cons (.eq rfl) (.cons (.eq rfl) (.cons (.eq rfl) (.cons (.nil _ _ _ _ ⟨rfl, rfl⟩) (.cons (.nil _ _ _ _ ⟨rfl, rfl⟩) .nil)))))))))) (.cons (.nil _ _ _ _ ⟨rfl, rfl⟩) (.eq rfl))) (fun _ _ => ⟨(.v _), trivial⟩)) (fun x12' hm => ?_)
 obtain ⟨x12⟩ := x12'
 refine U.ps 2 T rfl ?_
 refine hm.cs (fun hb13 hm => ?_) (fun hb13 hm => ?_)
 refine U.pg 2 4 false 25 (ntF hb13) T rfl rfl rfl rfl ?_
 refine U.r rfl (.none rfl) rfl rfl (by exact Rd.pk' rfl rfl (ntF hb13) rfl) ?_
 refine U.done ?_
 exact St.wk (hJ11 _ hm) (Wk.f [some 0] ⟨bX, trivial⟩)
 refine U.sks 2 4 false 25 (ntT hb13) rfl rfl rfl ?_
 refine U.r rfl (.none rfl) rfl rfl (by exact Rd.pk rfl rfl (ntT hb13) rfl) ?_
 refine U.done ?_
 exact St.wk (hJ11 _ hm) (Wk.f [some 0] ⟨bX, trivial⟩)
end Go.Proofs.YtbekicmmgohfbaaGreat
