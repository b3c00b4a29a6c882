/- The walks: each Go function does what its verification condition says (written by a program of the prover). -/
import Derived.Test.YtliikemkgfjpaaaW1
import Derived.KernelRfl
set_option maxRecDepth 100000
set_option maxHeartbeats 8000000
set_option linter.unusedVariables false
namespace Go.Proofs.Ytliikemkgfjpaaa
open Go Go.Taq
theorem T_taquinref11_Right (s_1 : ApiSite) (post : Bool → Prop) (hm : V_taquinref11_Right s_1 post) :
    Tr Try.prog 20 [.agg [.v (.int .i64 s_1.Floor.W), .v (.int .i64 s_1.Floor.H), .v (.int .i64 s_1.Floor.D), .sl 1 eI s_1.Floor.Kind, .sl 1 eI s_1.Floor.Out, .sl 5 eApiZone s_1.Zones, .sl 2 eApiApart s_1.Aparts, .sl 2 eApiShelf s_1.Shelves, .sl 2 eApiStart s_1.Robots]] [] 0 (fun A H' k => ∃ y, post y ∧ A = (.v (.bool y)) ∧ H' = [] ∧ k = 0) := by
  refine Tr.intro (n := 186) Try.func20 rfl Try.ntmps20 rfl (fun w0 ok F β hβ => ?_)
  unfold V_taquinref11_Right at hm
  refine C.seq ?_
  refine U.start ?_
  refine U.e1 (o := _) rfl (.none rfl) (by exact Eff1.box rfl rfl rfl rfl rfl) ?_
  refine U.p T rfl (.none rfl) rfl rfl rfl ?_
  refine U.done ?_
  refine C.nx ?_
  refine C.seq ?_
  refine C.seq ?_
  refine C.jn (fun (x1 : Bool) => [(1, .p 0 0), (30, .v (.bool x1))]) (fun (x1 : Bool) => [(0, .box [.v (.int .i64 s_1.Floor.W), .v (.int .i64 s_1.Floor.H), .v (.int .i64 s_1.Floor.D), .sl 1 eI s_1.Floor.Kind, .sl 1 eI s_1.Floor.Out, .sl 5 eApiZone s_1.Zones, .sl 2 eApiApart s_1.Aparts, .sl 2 eApiShelf s_1.Shelves, .sl 2 eApiStart s_1.Robots])]) 1 hm (fun x1 hm => ?_) (fun J2 hm hJ2 => ?_)
  · refine C.nx ?_
    refine C.ite rfl hm (fun hb8 hm => ?_) (fun hb8 hm => ?_)
    · refine C.seq ?_
      refine U.start ?_
      refine U.p T rfl (.none rfl) rfl rfl rfl ?_
      refine U.done ?_
      refine C.nx ?_
      refine C.ret ?_
      refine C.rt ?_
      exact C.fin T (rs' := [.v (.bool false)]) (H' := []) (nl' := 0) [] rfl rfl (.eq rfl) trivial rfl rfl rfl rfl hβ ⟨false, hm, rfl, rfl, rfl⟩
    · refine C.skip ?_
      refine C.nx ?_
      refine C.seq ?_
      refine C.seq ?_
      refine U.start ?_
      refine U.p T rfl (.none rfl) rfl rfl rfl ?_
      refine U.done ?_
      refine C.nx ?_
      refine C.jn (fun (x9 : Unit) => [(1, .p 0 0)]) (fun (x9 : Unit) => [(0, .box [.v (.int .i64 s_1.Floor.W), .v (.int .i64 s_1.Floor.H), .v (.int .i64 s_1.Floor.D), .sl 1 eI s_1.Floor.Kind, .sl 1 eI s_1.Floor.Out, .sl 5 eApiZone s_1.Zones, .sl 2 eApiApart s_1.Aparts, .sl 2 eApiShelf s_1.Shelves, .sl 2 eApiStart s_1.Robots])]) 1 hm (fun x9 hm => ?_) (fun J10 hm hJ10 => ?_)
      · refine C.nx ?_
        refine C.seq ?_
        refine C.seq ?_
        refine U.start ?_
        refine U.p T rfl (.none rfl) rfl rfl rfl ?_
        refine U.done ?_
        refine C.nx ?_
        refine C.jn (fun (x24 : Unit) => [(1, .p 0 0)]) (fun (x24 : Unit) => [(0, .box [.v (.int .i64 s_1.Floor.W), .v (.int .i64 s_1.Floor.H), .v (.int .i64 s_1.Floor.D), .sl 1 eI s_1.Floor.Kind, .sl 1 eI s_1.Floor.Out, .sl 5 eApiZone s_1.Zones, .sl 2 eApiApart s_1.Aparts, .sl 2 eApiShelf s_1.Shelves, .sl 2 eApiStart s_1.Robots])]) 1 hm (fun x24 hm => ?_) (fun J25 hm hJ25 => ?_)
        · refine C.nx ?_
          refine C.seq ?_
          refine C.seq ?_
          refine U.start ?_
          refine U.p T rfl (.none rfl) rfl rfl rfl ?_
          refine U.done ?_
          refine C.nx ?_
          refine C.jn (fun (x45 : Unit) => [(1, .p 0 0)]) (fun (x45 : Unit) => [(0, .box [.v (.int .i64 s_1.Floor.W), .v (.int .i64 s_1.Floor.H), .v (.int .i64 s_1.Floor.D), .sl 1 eI s_1.Floor.Kind, .sl 1 eI s_1.Floor.Out, .sl 5 eApiZone s_1.Zones, .sl 2 eApiApart s_1.Aparts, .sl 2 eApiShelf s_1.Shelves, .sl 2 eApiStart s_1.Robots])]) 1 hm (fun x45 hm => ?_) (fun J46 hm hJ46 => ?_)
          · refine C.nx ?_
            refine C.seq ?_
            refine C.seq ?_
            refine U.start ?_
            refine U.p T rfl (.none rfl) rfl rfl rfl ?_
            refine U.done ?_
            refine C.nx ?_
            refine C.jn (fun (x64 : Unit) => [(1, .p 0 0)]) (fun (x64 : Unit) => [(0, .box [.v (.int .i64 s_1.Floor.W), .v (.int .i64 s_1.Floor.H), .v (.int .i64 s_1.Floor.D), .sl 1 eI s_1.Floor.Kind, .sl 1 eI s_1.Floor.Out, .sl 5 eApiZone s_1.Zones, .sl 2 eApiApart s_1.Aparts, .sl 2 eApiShelf s_1.Shelves, .sl 2 eApiStart s_1.Robots])]) 1 hm (fun x64 hm => ?_) (fun J65 hm hJ65 => ?_)
            · refine C.nx ?_
              refine C.seq ?_
              refine C.jn (fun (x72 : Bool) => [(2, .v (.bool x72))]) (fun (x72 : Bool) => []) 0 hm (fun x72 hm => ?_) (fun J73 hm hJ73 => ?_)
              · refine C.nx ?_
                refine C.ret ?_
                exact C.fin T (rs' := [.v (.bool x72)]) (H' := []) (nl' := 0) [] rfl rfl (.eq rfl) trivial rfl rfl rfl rfl hβ ⟨x72, hm, rfl, rfl, rfl⟩
              · refine U.start ?_
                refine U.l T rfl (.none rfl) rfl rfl rfl rfl rfl ?_
                refine U.e (o := _) rfl (.none rfl) (by exact Eff.c [] (v := true) (T_taquinref11_Beside s_1 _ hm) en47 rfl rfl rfl (.eq rfl) trivial rfl rfl rfl rfl rfl rfl (fun _ _ => ⟨(.v _), trivial⟩) (.inr ⟨rfl, rfl⟩) (fun _ => rfl) (fun _ => rfl) rfl) (fun x74' hm => ?_)
                obtain ⟨x74⟩ := x74'
                refine U.ps 2 T rfl ?_
                refine hm.cs (fun hb75 hm => ?_) (fun hb75 hm => ?_)
                · refine U.p T rfl (.take 3 true 181 _ hb75 rfl rfl rfl) rfl rfl rfl ?_
                  refine U.l T rfl (.take 3 true 181 _ hb75 rfl rfl rfl) rfl rfl rfl rfl rfl ?_
                  refine U.e (o := _) rfl (.take 3 true 181 _ hb75 rfl rfl rfl) (by exact Eff.c [] (v := true) (T_taquinref11_charger s_1.Floor _ hm) en48 rfl rfl rfl (.eq rfl) trivial rfl rfl rfl rfl rfl rfl (fun _ _ => ⟨(.v _), trivial⟩) (.inr ⟨rfl, rfl⟩) (fun _ => rfl) (fun _ => rfl) rfl) (fun x76' hm => ?_)
                  obtain ⟨x76⟩ := x76'
                  refine U.r (o := _) rfl (.none rfl) rfl rfl (by exact Rd.pk rfl rfl hb75 rfl) ?_
                  refine U.p T rfl (.none rfl) rfl rfl rfl ?_
                  refine U.done ?_
                  exact St.wk (hJ73 _ hm) (Wk.mk' [] rfl rfl (.eqs rfl) trivial rfl)
                · refine U.skip (o := _) rfl (.skip 3 true 181 _ hb75 rfl rfl rfl) rfl rfl ?_
                  refine U.sks 2 3 true 181 hb75 rfl rfl rfl ?_
                  refine U.r (o := _) rfl (.none rfl) rfl rfl (by exact Rd.pk' rfl rfl hb75 rfl) ?_
                  refine U.p T rfl (.none rfl) rfl rfl rfl ?_
                  refine U.done ?_
                  exact St.wk (hJ73 _ hm) (Wk.mk' [] rfl rfl (.eqs rfl) trivial rfl)
            · refine C.block ?_
              refine St.wk (C.loop (fun (s66 : Int) => [(1, .p 0 0), (9, .v (.int .i64 s66))]) (fun (s66 : Int) => [(0, .box [.v (.int .i64 s_1.Floor.W), .v (.int .i64 s_1.Floor.H), .v (.int .i64 s_1.Floor.D), .sl 1 eI s_1.Floor.Kind, .sl 1 eI s_1.Floor.Out, .sl 5 eApiZone s_1.Zones, .sl 2 eApiApart s_1.Aparts, .sl 2 eApiShelf s_1.Shelves, .sl 2 eApiStart s_1.Robots])]) hm (fun s66 Y67 hm => ?_)) (Wk.mk' [some 0] rfl rfl (.eqs rfl) ⟨⟨_, rfl, .box rfl (.eq rfl)⟩, trivial⟩ rfl)
              refine C.seq ?_
              refine C.seq ?_
              refine U.start ?_
              refine U.ps 5 T rfl ?_
              refine U.done ?_
              refine C.nx ?_
              refine C.ite rfl hm (fun hb68 hm => ?_) (fun hb68 hm => ?_)
              · refine C.skip ?_
                refine C.nx ?_
                refine C.seq ?_
                refine C.block ?_
                refine C.seq ?_
                refine D.beg 9999 [0] [] mix rfl rfl (by kernel_rfl) (by repeat (first | exact NoPanicQ.body | refine NoPanicQ.th ?_ | refine NoPanicQ.blk ?_)) (fun hQ hS ws M' => ?_)
                refine D.ps 4 [(0, []), (1, []), (2, []), (3, [])] rfl hQ hS T rfl rfl (by kernel_rfl) ?_
                obtain ⟨x69, hx69, hm⟩ := hm
                refine D.q (o := _) 4 [] hQ hS rfl (.none rfl) rfl rfl (by exact Rd.ix T rfl rfl rfl rfl rfl rfl hx69) rfl (by kernel_rfl) ?_
                refine D.ps 4 [(5, []), (7, []), (8, []), (9, [])] rfl hQ hS T rfl rfl (by kernel_rfl) ?_
                refine D.q (o := _) 10 [] hQ hS rfl (.none rfl) rfl rfl (by exact Rd.ix T rfl rfl rfl rfl rfl rfl hx69) rfl (by kernel_rfl) ?_
                refine D.ps 2 [(11, []), (12, [])] rfl hQ hS T rfl rfl (by kernel_rfl) ?_
                refine D.e (o := _) 6 rfl (.none rfl) (by exact Eff.c [] (v := true) (T_taquinref11_blanks s_1 x69 _ hm) en46 rfl rfl rfl (.eq rfl) trivial rfl rfl rfl rfl rfl rfl (fun _ _ => ⟨(.v _), trivial⟩) (.inr ⟨rfl, rfl⟩) (fun _ => rfl) (fun _ => rfl) rfl) (by kernel_rfl) rfl rfl (fun x70' hm => ?_)
                obtain ⟨x70⟩ := x70'
                refine D.ps 1 [(13, [])] rfl hQ hS T rfl rfl (by kernel_rfl) ?_
                refine D.done (by kernel_rfl) ?_
                refine C.nx ?_
                refine C.ite rfl hm (fun hb71 hm => ?_) (fun hb71 hm => ?_)
                · refine C.seq ?_
                  refine U.start ?_
                  refine U.p T rfl (.none rfl) rfl rfl rfl ?_
                  refine U.done ?_
                  refine C.nx ?_
                  refine C.ret ?_
                  refine C.brt ?_
                  refine C.rt ?_
                  refine C.rt ?_
                  refine C.brt ?_
                  refine C.rt ?_
                  exact C.fin T (rs' := [.v (.bool false)]) (H' := []) (nl' := 0) [] rfl rfl (.eq rfl) trivial rfl rfl rfl rfl hβ ⟨false, hm, rfl, rfl, rfl⟩
                · refine C.skip ?_
                  refine C.bnx ?_
                  refine C.nx ?_
                  refine U.start ?_
                  refine U.ps 3 T rfl ?_
                  refine U.done ?_
                  refine C.nx ?_
                  exact St.wk (C.next hm) (Wk.mk' [some 0] rfl rfl (.eqs rfl) ⟨⟨_, rfl, .box rfl (.eq rfl)⟩, trivial⟩ rfl)
              · refine C.exit ?_
                refine C.ex ?_
                refine C.ex ?_
                refine C.bex ?_
                exact St.wk (hJ65 _ hm) (Wk.mk' [some 0] rfl rfl (.eqs rfl) ⟨⟨_, rfl, .box rfl (.eq rfl)⟩, trivial⟩ rfl)
          · refine C.block ?_
            refine St.wk (C.loop (fun (s47 : Int) => [(1, .p 0 0), (7, .v (.int .i64 s47))]) (fun (s47 : Int) => [(0, .box [.v (.int .i64 s_1.Floor.W), .v (.int .i64 s_1.Floor.H), .v (.int .i64 s_1.Floor.D), .sl 1 eI s_1.Floor.Kind, .sl 1 eI s_1.Floor.Out, .sl 5 eApiZone s_1.Zones, .sl 2 eApiApart s_1.Aparts, .sl 2 eApiShelf s_1.Shelves, .sl 2 eApiStart s_1.Robots])]) hm (fun s47 Y48 hm => ?_)) (Wk.mk' [some 0] rfl rfl (.eqs rfl) ⟨⟨_, rfl, .box rfl (.eq rfl)⟩, trivial⟩ rfl)
            refine C.seq ?_
            refine C.seq ?_
            refine U.start ?_
            refine U.ps 5 T rfl ?_
            refine U.done ?_
            refine C.nx ?_
            refine C.ite rfl hm (fun hb49 hm => ?_) (fun hb49 hm => ?_)
            · refine C.skip ?_
              refine C.nx ?_
              refine C.seq ?_
              refine C.block ?_
              refine C.seq ?_
              refine U.start ?_
              refine U.ps 3 T rfl ?_
              obtain ⟨x50, hx50, hm⟩ := hm
              refine U.r (o := _) rfl (.none rfl) rfl rfl (by exact Rd.ix T rfl rfl rfl rfl rfl rfl hx50) ?_
              refine U.l T rfl (.none rfl) rfl rfl rfl rfl rfl ?_
              refine U.e1 (o := _) rfl (.none rfl) (by exact Eff1.al T rfl rfl rfl rfl) ?_
              refine U.e1 (o := _) rfl (.none rfl) (by exact Eff1.st T rfl rfl rfl rfl rfl rfl rfl rfl rfl rfl) ?_
              refine U.done ?_
              refine C.nx ?_
              refine C.seq ?_
              refine C.seq ?_
              refine C.jn (fun (x51 : Bool) => [(1, .p 0 0), (7, .v (.int .i64 s47)), (8, .p 1 0), (139, .v (.bool x51))]) (fun (x51 : Bool) => [(0, .box [.v (.int .i64 s_1.Floor.W), .v (.int .i64 s_1.Floor.H), .v (.int .i64 s_1.Floor.D), .sl 1 eI s_1.Floor.Kind, .sl 1 eI s_1.Floor.Out, .sl 5 eApiZone s_1.Zones, .sl 2 eApiApart s_1.Aparts, .sl 2 eApiShelf s_1.Shelves, .sl 2 eApiStart s_1.Robots]), (1, .box [.v (.int .i64 x50.Cell), .v (.int .i64 x50.Charge)])]) 2 hm (fun x51 hm => ?_) (fun J52 hm hJ52 => ?_)
              · refine C.nx ?_
                refine C.ite rfl hm (fun hb56 hm => ?_) (fun hb56 hm => ?_)
                · refine C.seq ?_
                  refine U.start ?_
                  refine U.p T rfl (.none rfl) rfl rfl rfl ?_
                  refine U.done ?_
                  refine C.nx ?_
                  refine C.ret ?_
                  refine C.rt ?_
                  refine C.brt ?_
                  refine C.rt ?_
                  refine C.rt ?_
                  refine C.brt ?_
                  refine C.rt ?_
                  exact C.fin T (rs' := [.v (.bool false)]) (H' := []) (nl' := 0) [] rfl rfl (.eq rfl) trivial rfl rfl rfl rfl hβ ⟨false, hm, rfl, rfl, rfl⟩
                · refine C.skip ?_
                  refine C.nx ?_
                  refine C.seq ?_
                  refine C.jn (fun (x57 : Bool) => [(1, .p 0 0), (7, .v (.int .i64 s47)), (156, .v (.bool x57))]) (fun (x57 : Bool) => [(0, .box [.v (.int .i64 s_1.Floor.W), .v (.int .i64 s_1.Floor.H), .v (.int .i64 s_1.Floor.D), .sl 1 eI s_1.Floor.Kind, .sl 1 eI s_1.Floor.Out, .sl 5 eApiZone s_1.Zones, .sl 2 eApiApart s_1.Aparts, .sl 2 eApiShelf s_1.Shelves, .sl 2 eApiStart s_1.Robots])]) 1 hm (fun x57 hm => ?_) (fun J58 hm hJ58 => ?_)
                  · refine C.nx ?_
                    refine C.ite rfl hm (fun hb63 hm => ?_) (fun hb63 hm => ?_)
                    · refine C.seq ?_
                      refine U.start ?_
                      refine U.p T rfl (.none rfl) rfl rfl rfl ?_
                      refine U.done ?_
                      refine C.nx ?_
                      refine C.ret ?_
                      refine C.brt ?_
                      refine C.rt ?_
                      refine C.rt ?_
                      refine C.brt ?_
                      refine C.rt ?_
                      exact C.fin T (rs' := [.v (.bool false)]) (H' := []) (nl' := 0) [] rfl rfl (.eq rfl) trivial rfl rfl rfl rfl hβ ⟨false, hm, rfl, rfl, rfl⟩
                    · refine C.skip ?_
                      refine C.bnx ?_
                      refine C.nx ?_
                      refine U.start ?_
                      refine U.ps 3 T rfl ?_
                      refine U.done ?_
                      refine C.nx ?_
                      exact St.wk (C.next hm) (Wk.mk' [some 0] rfl rfl (.eqs rfl) ⟨⟨_, rfl, .box rfl (.eq rfl)⟩, trivial⟩ rfl)
                  · refine D.beg 9999 [0, 1] [] mix rfl rfl (by kernel_rfl) (by repeat (first | exact NoPanicQ.body | refine NoPanicQ.th ?_ | refine NoPanicQ.blk ?_)) (fun hQ hS ws M' => ?_)
                    refine D.ps 5 [(0, []), (1, []), (2, []), (3, []), (4, [])] rfl hQ hS T rfl rfl (by kernel_rfl) ?_
                    obtain ⟨x59, hx59, hm⟩ := hm
                    refine D.q (o := _) 5 [] hQ hS rfl (.none rfl) rfl rfl (by exact Rd.ix T rfl rfl rfl rfl rfl rfl hx59) rfl (by kernel_rfl) ?_
                    refine D.ps 3 [(6, []), (7, []), (8, [])] rfl hQ hS T rfl rfl (by kernel_rfl) ?_
                    refine hm.cs (fun hb60 hm => ?_) (fun hb60 hm => ?_)
                    · refine D.sq (o := _) 9 [] hQ hS rfl (.skip 8 false 148 _ hb60 rfl rfl rfl) rfl rfl (by kernel_rfl) ?_
                      refine D.sq (o := _) 10 [] hQ hS rfl (.skip 8 false 148 _ hb60 rfl rfl rfl) rfl rfl (by kernel_rfl) ?_
                      refine D.sq (o := _) 11 [] hQ hS rfl (.skip 8 false 148 _ hb60 rfl rfl rfl) rfl rfl (by kernel_rfl) ?_
                      refine D.sq (o := _) 12 [] hQ hS rfl (.skip 8 false 148 _ hb60 rfl rfl rfl) rfl rfl (by kernel_rfl) ?_
                      refine D.sq (o := _) 13 [] hQ hS rfl (.skip 8 false 148 _ hb60 rfl rfl rfl) rfl rfl (by kernel_rfl) ?_
                      refine D.sq (o := _) 14 [] hQ hS rfl (.skip 8 false 148 _ hb60 rfl rfl rfl) rfl rfl (by kernel_rfl) ?_
                      refine D.sq (o := _) 15 [] hQ hS rfl (.skip 8 false 148 _ hb60 rfl rfl rfl) rfl rfl (by kernel_rfl) ?_
                      refine D.q (o := _) 16 [] hQ hS rfl (.none rfl) rfl rfl (by exact Rd.pk rfl rfl hb60 rfl) rfl (by kernel_rfl) ?_
                      refine D.done (by kernel_rfl) ?_
                      exact St.wk (hJ58 _ hm) (Wk.mk' [some 0] rfl rfl (.eqs rfl) ⟨⟨_, rfl, .box rfl (.eq rfl)⟩, trivial⟩ rfl)
                    · refine D.q (o := _) 9 [] hQ hS rfl (.take 8 false 148 _ hb60 rfl rfl rfl) rfl rfl (by exact Rd.p T rfl) rfl (by kernel_rfl) ?_
                      refine D.q (o := _) 10 [] hQ hS rfl (.take 8 false 148 _ hb60 rfl rfl rfl) rfl rfl (by exact Rd.l T rfl rfl rfl) rfl (by kernel_rfl) ?_
                      refine D.q (o := _) 11 [] hQ hS rfl (.take 8 false 148 _ hb60 rfl rfl rfl) rfl rfl (by exact Rd.p T rfl) rfl (by kernel_rfl) ?_
                      obtain ⟨hx61, hm⟩ := hm
                      refine D.q (o := _) 12 [] hQ hS rfl (.take 8 false 148 _ hb60 rfl rfl rfl) rfl rfl (by exact Rd.so T rfl rfl rfl rfl rfl (.none _) (.some _ rfl) hx61) rfl (by kernel_rfl) ?_
                      refine D.q (o := _) 13 [] hQ hS rfl (.take 8 false 148 _ hb60 rfl rfl rfl) rfl rfl (by exact Rd.p T rfl) rfl (by kernel_rfl) ?_
                      refine D.q (o := _) 14 [] hQ hS rfl (.take 8 false 148 _ hb60 rfl rfl rfl) rfl rfl (by exact Rd.l T rfl rfl rfl) rfl (by kernel_rfl) ?_
                      refine D.e (o := _) 15 rfl (.take 8 false 148 _ hb60 rfl rfl rfl) (by exact Eff.c [] (v := true) (T_taquinref11_robotAt (sub s_1.Robots 0 s47) x50.Cell _ hm) en45 rfl rfl rfl (.eq rfl) trivial rfl rfl rfl rfl rfl rfl (fun _ _ => ⟨(.v _), trivial⟩) (.inr ⟨rfl, rfl⟩) (fun _ => rfl) (fun _ => rfl) rfl) (by kernel_rfl) rfl rfl (fun x62' hm => ?_)
                      obtain ⟨x62⟩ := x62'
                      refine D.q (o := _) 16 [] hQ hS rfl (.none rfl) rfl rfl (by exact Rd.pk' rfl rfl hb60 rfl) rfl (by kernel_rfl) ?_
                      refine D.done (by kernel_rfl) ?_
                      exact St.wk (hJ58 _ hm) (Wk.mk' [some 0] rfl rfl (.eqs rfl) ⟨⟨_, rfl, .box rfl (.eq rfl)⟩, trivial⟩ rfl)
              · refine U.start ?_
                refine U.ps 4 T rfl ?_
                refine U.e (o := _) rfl (.none rfl) (by exact Eff.c [] (v := true) (T_taquinref07_Is s_1.Floor x50.Cell _ hm) en34 rfl rfl rfl (.eq rfl) trivial rfl rfl rfl rfl rfl rfl (fun _ _ => ⟨(.v _), trivial⟩) (.inr ⟨rfl, rfl⟩) (fun _ => rfl) (fun _ => rfl) rfl) (fun x53' hm => ?_)
                obtain ⟨x53⟩ := x53'
                refine U.ps 2 T rfl ?_
                refine hm.cs (fun hb54 hm => ?_) (fun hb54 hm => ?_)
                · refine U.p T rfl (.take 6 false 130 _ (ntF hb54) rfl rfl rfl) rfl rfl rfl ?_
                  refine U.pg 2 6 false 130 (ntF hb54) T rfl rfl rfl rfl ?_
                  refine U.r (o := _) rfl (.none rfl) rfl rfl (by exact Rd.pk' rfl rfl (ntF hb54) rfl) ?_
                  refine U.p T rfl (.none rfl) rfl rfl rfl ?_
                  refine hm.cs (fun hb55 hm => ?_) (fun hb55 hm => ?_)
                  · refine U.skip (o := _) rfl (.skip 11 false 135 _ hb55 rfl rfl rfl) rfl rfl ?_
                    refine U.sks 2 11 false 135 hb55 rfl rfl rfl ?_
                    refine U.r (o := _) rfl (.none rfl) rfl rfl (by exact Rd.pk rfl rfl hb55 rfl) ?_
                    refine U.done ?_
                    exact St.wk (hJ52 _ hm) (Wk.mk' [some 0, some 1] rfl rfl (.eqs rfl) ⟨⟨_, rfl, .box rfl (.eq rfl)⟩, ⟨_, rfl, .box rfl (.eq rfl)⟩, trivial⟩ rfl)
                  · refine U.p T rfl (.take 11 false 135 _ hb55 rfl rfl rfl) rfl rfl rfl ?_
                    refine U.pg 2 11 false 135 hb55 T rfl rfl rfl rfl ?_
                    refine U.r (o := _) rfl (.none rfl) rfl rfl (by exact Rd.pk' rfl rfl hb55 rfl) ?_
                    refine U.done ?_
                    exact St.wk (hJ52 _ hm) (Wk.mk' [some 0, some 1] rfl rfl (.eqs rfl) ⟨⟨_, rfl, .box rfl (.eq rfl)⟩, ⟨_, rfl, .box rfl (.eq rfl)⟩, trivial⟩ rfl)
                · refine U.skip (o := _) rfl (.skip 6 false 130 _ (ntT hb54) rfl rfl rfl) rfl rfl ?_
                  refine U.sks 2 6 false 130 (ntT hb54) rfl rfl rfl ?_
                  refine U.r (o := _) rfl (.none rfl) rfl rfl (by exact Rd.pk rfl rfl (ntT hb54) rfl) ?_
                  refine U.p T rfl (.none rfl) rfl rfl rfl ?_
                  refine U.sks 3 11 false 135 rfl rfl rfl rfl ?_
                  refine U.r (o := _) rfl (.none rfl) rfl rfl (by exact Rd.pk rfl rfl rfl rfl) ?_
                  refine U.done ?_
                  exact St.wk (hJ52 _ hm) (Wk.mk' [some 0, some 1] rfl rfl (.eqs rfl) ⟨⟨_, rfl, .box rfl (.eq rfl)⟩, ⟨_, rfl, .box rfl (.eq rfl)⟩, trivial⟩ rfl)
            · refine C.exit ?_
              refine C.ex ?_
              refine C.ex ?_
              refine C.bex ?_
              exact St.wk (hJ46 _ hm) (Wk.mk' [some 0] rfl rfl (.eqs rfl) ⟨⟨_, rfl, .box rfl (.eq rfl)⟩, trivial⟩ rfl)
        · refine C.block ?_
          refine St.wk (C.loop (fun (s26 : Int) => [(1, .p 0 0), (5, .v (.int .i64 s26))]) (fun (s26 : Int) => [(0, .box [.v (.int .i64 s_1.Floor.W), .v (.int .i64 s_1.Floor.H), .v (.int .i64 s_1.Floor.D), .sl 1 eI s_1.Floor.Kind, .sl 1 eI s_1.Floor.Out, .sl 5 eApiZone s_1.Zones, .sl 2 eApiApart s_1.Aparts, .sl 2 eApiShelf s_1.Shelves, .sl 2 eApiStart s_1.Robots])]) hm (fun s26 Y27 hm => ?_)) (Wk.mk' [some 0] rfl rfl (.eqs rfl) ⟨⟨_, rfl, .box rfl (.eq rfl)⟩, trivial⟩ rfl)
          refine C.seq ?_
          refine C.seq ?_
          refine U.start ?_
          refine U.ps 5 T rfl ?_
          refine U.done ?_
          refine C.nx ?_
          refine C.ite rfl hm (fun hb28 hm => ?_) (fun hb28 hm => ?_)
          · refine C.skip ?_
            refine C.nx ?_
            refine C.seq ?_
            refine C.block ?_
            refine C.seq ?_
            refine U.start ?_
            refine U.ps 3 T rfl ?_
            obtain ⟨x29, hx29, hm⟩ := hm
            refine U.r (o := _) rfl (.none rfl) rfl rfl (by exact Rd.ix T rfl rfl rfl rfl rfl rfl hx29) ?_
            refine U.l T rfl (.none rfl) rfl rfl rfl rfl rfl ?_
            refine U.e1 (o := _) rfl (.none rfl) (by exact Eff1.al T rfl rfl rfl rfl) ?_
            refine U.e1 (o := _) rfl (.none rfl) (by exact Eff1.st T rfl rfl rfl rfl rfl rfl rfl rfl rfl rfl) ?_
            refine U.done ?_
            refine C.nx ?_
            refine C.seq ?_
            refine C.seq ?_
            refine C.jn (fun (x30 : Bool) => [(1, .p 0 0), (5, .v (.int .i64 s26)), (6, .p 1 0), (92, .v (.bool x30))]) (fun (x30 : Bool) => [(0, .box [.v (.int .i64 s_1.Floor.W), .v (.int .i64 s_1.Floor.H), .v (.int .i64 s_1.Floor.D), .sl 1 eI s_1.Floor.Kind, .sl 1 eI s_1.Floor.Out, .sl 5 eApiZone s_1.Zones, .sl 2 eApiApart s_1.Aparts, .sl 2 eApiShelf s_1.Shelves, .sl 2 eApiStart s_1.Robots]), (1, .box [.v (.int .i64 x29.Cell), .v (.string x29.Class)])]) 2 hm (fun x30 hm => ?_) (fun J31 hm hJ31 => ?_)
            · refine C.nx ?_
              refine C.ite rfl hm (fun hb36 hm => ?_) (fun hb36 hm => ?_)
              · refine C.seq ?_
                refine U.start ?_
                refine U.p T rfl (.none rfl) rfl rfl rfl ?_
                refine U.done ?_
                refine C.nx ?_
                refine C.ret ?_
                refine C.rt ?_
                refine C.brt ?_
                refine C.rt ?_
                refine C.rt ?_
                refine C.brt ?_
                refine C.rt ?_
                exact C.fin T (rs' := [.v (.bool false)]) (H' := []) (nl' := 0) [] rfl rfl (.eq rfl) trivial rfl rfl rfl rfl hβ ⟨false, hm, rfl, rfl, rfl⟩
              · refine C.skip ?_
                refine C.nx ?_
                refine C.seq ?_
                refine C.jn (fun (x37 : Bool) => [(1, .p 0 0), (5, .v (.int .i64 s26)), (111, .v (.bool x37))]) (fun (x37 : Bool) => [(0, .box [.v (.int .i64 s_1.Floor.W), .v (.int .i64 s_1.Floor.H), .v (.int .i64 s_1.Floor.D), .sl 1 eI s_1.Floor.Kind, .sl 1 eI s_1.Floor.Out, .sl 5 eApiZone s_1.Zones, .sl 2 eApiApart s_1.Aparts, .sl 2 eApiShelf s_1.Shelves, .sl 2 eApiStart s_1.Robots])]) 1 hm (fun x37 hm => ?_) (fun J38 hm hJ38 => ?_)
                · refine C.nx ?_
                  refine C.ite rfl hm (fun hb44 hm => ?_) (fun hb44 hm => ?_)
                  · refine C.seq ?_
                    refine U.start ?_
                    refine U.p T rfl (.none rfl) rfl rfl rfl ?_
                    refine U.done ?_
                    refine C.nx ?_
                    refine C.ret ?_
                    refine C.brt ?_
                    refine C.rt ?_
                    refine C.rt ?_
                    refine C.brt ?_
                    refine C.rt ?_
                    exact C.fin T (rs' := [.v (.bool false)]) (H' := []) (nl' := 0) [] rfl rfl (.eq rfl) trivial rfl rfl rfl rfl hβ ⟨false, hm, rfl, rfl, rfl⟩
                  · refine C.skip ?_
                    refine C.bnx ?_
                    refine C.nx ?_
                    refine U.start ?_
                    refine U.ps 3 T rfl ?_
                    refine U.done ?_
                    refine C.nx ?_
                    exact St.wk (C.next hm) (Wk.mk' [some 0] rfl rfl (.eqs rfl) ⟨⟨_, rfl, .box rfl (.eq rfl)⟩, trivial⟩ rfl)
                · refine D.beg 9999 [0, 1] [] mix rfl rfl (by kernel_rfl) (by repeat (first | exact NoPanicQ.body | refine NoPanicQ.th ?_ | refine NoPanicQ.blk ?_)) (fun hQ hS ws M' => ?_)
                  refine D.ps 5 [(0, []), (1, []), (2, []), (3, []), (4, [])] rfl hQ hS T rfl rfl (by kernel_rfl) ?_
                  obtain ⟨x39, hx39, hm⟩ := hm
                  refine D.q (o := _) 5 [] hQ hS rfl (.none rfl) rfl rfl (by exact Rd.ix T rfl rfl rfl rfl rfl rfl hx39) rfl (by kernel_rfl) ?_
                  refine D.ps 1 [(6, [])] rfl hQ hS T rfl rfl (by kernel_rfl) ?_
                  refine D.e (o := _) 7 rfl (.none rfl) (by exact Eff.c [] (v := true) (T_taquinref11_stands x39 _ hm) en43 rfl rfl rfl (.eq rfl) trivial rfl rfl rfl rfl rfl rfl (fun _ _ => ⟨(.v _), trivial⟩) (.inr ⟨rfl, rfl⟩) (fun _ => rfl) (fun _ => rfl) rfl) (by kernel_rfl) rfl rfl (fun x40' hm => ?_)
                  obtain ⟨x40⟩ := x40'
                  refine D.ps 2 [(8, []), (9, [])] rfl hQ hS T rfl rfl (by kernel_rfl) ?_
                  refine hm.cs (fun hb41 hm => ?_) (fun hb41 hm => ?_)
                  · refine D.q (o := _) 10 [] hQ hS rfl (.take 9 false 102 _ (ntF hb41) rfl rfl rfl) rfl rfl (by exact Rd.p T rfl) rfl (by kernel_rfl) ?_
                    refine D.q (o := _) 11 [] hQ hS rfl (.take 9 false 102 _ (ntF hb41) rfl rfl rfl) rfl rfl (by exact Rd.l T rfl rfl rfl) rfl (by kernel_rfl) ?_
                    refine D.q (o := _) 12 [] hQ hS rfl (.take 9 false 102 _ (ntF hb41) rfl rfl rfl) rfl rfl (by exact Rd.p T rfl) rfl (by kernel_rfl) ?_
                    obtain ⟨hx42, hm⟩ := hm
                    refine D.q (o := _) 13 [] hQ hS rfl (.take 9 false 102 _ (ntF hb41) rfl rfl rfl) rfl rfl (by exact Rd.so T rfl rfl rfl rfl rfl (.none _) (.some _ rfl) hx42) rfl (by kernel_rfl) ?_
                    refine D.q (o := _) 14 [] hQ hS rfl (.take 9 false 102 _ (ntF hb41) rfl rfl rfl) rfl rfl (by exact Rd.p T rfl) rfl (by kernel_rfl) ?_
                    refine D.q (o := _) 15 [] hQ hS rfl (.take 9 false 102 _ (ntF hb41) rfl rfl rfl) rfl rfl (by exact Rd.l T rfl rfl rfl) rfl (by kernel_rfl) ?_
                    refine D.e (o := _) 16 rfl (.take 9 false 102 _ (ntF hb41) rfl rfl rfl) (by exact Eff.c [] (v := true) (T_taquinref11_shelfAt (sub s_1.Shelves 0 s26) x29.Cell _ hm) en44 rfl rfl rfl (.eq rfl) trivial rfl rfl rfl rfl rfl rfl (fun _ _ => ⟨(.v _), trivial⟩) (.inr ⟨rfl, rfl⟩) (fun _ => rfl) (fun _ => rfl) rfl) (by kernel_rfl) rfl rfl (fun x43' hm => ?_)
                    obtain ⟨x43⟩ := x43'
                    refine D.q (o := _) 17 [] hQ hS rfl (.take 9 false 102 _ (ntF hb41) rfl rfl rfl) rfl rfl (by exact Rd.p T rfl) rfl (by kernel_rfl) ?_
                    refine D.q (o := _) 18 [] hQ hS rfl (.none rfl) rfl rfl (by exact Rd.pk' rfl rfl (ntF hb41) rfl) rfl (by kernel_rfl) ?_
                    refine D.done (by kernel_rfl) ?_
                    exact St.wk (hJ38 _ hm) (Wk.mk' [some 0] rfl rfl (.eqs rfl) ⟨⟨_, rfl, .box rfl (.eq rfl)⟩, trivial⟩ rfl)
                  · refine D.sq (o := _) 10 [] hQ hS rfl (.skip 9 false 102 _ (ntT hb41) rfl rfl rfl) rfl rfl (by kernel_rfl) ?_
                    refine D.sq (o := _) 11 [] hQ hS rfl (.skip 9 false 102 _ (ntT hb41) rfl rfl rfl) rfl rfl (by kernel_rfl) ?_
                    refine D.sq (o := _) 12 [] hQ hS rfl (.skip 9 false 102 _ (ntT hb41) rfl rfl rfl) rfl rfl (by kernel_rfl) ?_
                    refine D.sq (o := _) 13 [] hQ hS rfl (.skip 9 false 102 _ (ntT hb41) rfl rfl rfl) rfl rfl (by kernel_rfl) ?_
                    refine D.sq (o := _) 14 [] hQ hS rfl (.skip 9 false 102 _ (ntT hb41) rfl rfl rfl) rfl rfl (by kernel_rfl) ?_
                    refine D.sq (o := _) 15 [] hQ hS rfl (.skip 9 false 102 _ (ntT hb41) rfl rfl rfl) rfl rfl (by kernel_rfl) ?_
                    refine D.sq (o := _) 16 [] hQ hS rfl (.skip 9 false 102 _ (ntT hb41) rfl rfl rfl) rfl rfl (by kernel_rfl) ?_
                    refine D.sq (o := _) 17 [] hQ hS rfl (.skip 9 false 102 _ (ntT hb41) rfl rfl rfl) rfl rfl (by kernel_rfl) ?_
                    refine D.q (o := _) 18 [] hQ hS rfl (.none rfl) rfl rfl (by exact Rd.pk rfl rfl (ntT hb41) rfl) rfl (by kernel_rfl) ?_
                    refine D.done (by kernel_rfl) ?_
                    exact St.wk (hJ38 _ hm) (Wk.mk' [some 0] rfl rfl (.eqs rfl) ⟨⟨_, rfl, .box rfl (.eq rfl)⟩, trivial⟩ rfl)
            · refine U.start ?_
              refine U.ps 4 T rfl ?_
              refine U.e (o := _) rfl (.none rfl) (by exact Eff.c [] (v := true) (T_taquinref07_Is s_1.Floor x29.Cell _ hm) en34 rfl rfl rfl (.eq rfl) trivial rfl rfl rfl rfl rfl rfl (fun _ _ => ⟨(.v _), trivial⟩) (.inr ⟨rfl, rfl⟩) (fun _ => rfl) (fun _ => rfl) rfl) (fun x32' hm => ?_)
              obtain ⟨x32⟩ := x32'
              refine U.ps 2 T rfl ?_
              refine hm.cs (fun hb33 hm => ?_) (fun hb33 hm => ?_)
              · refine U.p T rfl (.take 6 false 82 _ (ntF hb33) rfl rfl rfl) rfl rfl rfl ?_
                refine U.pg 3 6 false 82 (ntF hb33) T rfl rfl rfl rfl ?_
                refine hm.cs (fun hb34 hm => ?_) (fun hb34 hm => ?_)
                · refine U.skip (o := _) rfl (.skip 10 true 86 _ (ntF hb34) rfl rfl rfl) rfl rfl ?_
                  refine U.sks 3 10 true 86 (ntF hb34) rfl rfl rfl ?_
                  refine U.r (o := _) rfl (.take 6 false 82 _ (ntF hb33) rfl rfl rfl) rfl rfl (by exact Rd.pk' rfl rfl (ntF hb34) rfl) ?_
                  refine U.r (o := _) rfl (.none rfl) rfl rfl (by exact Rd.pk' rfl rfl (ntF hb33) rfl) ?_
                  refine U.done ?_
                  exact St.wk (hJ31 _ hm) (Wk.mk' [some 0, some 1] rfl rfl (.eqs rfl) ⟨⟨_, rfl, .box rfl (.eq rfl)⟩, ⟨_, rfl, .box rfl (.eq rfl)⟩, trivial⟩ rfl)
                · refine U.p T rfl (.take 10 true 86 _ (ntT hb34) rfl rfl rfl) rfl rfl rfl ?_
                  refine U.l T rfl (.take 10 true 86 _ (ntT hb34) rfl rfl rfl) rfl rfl rfl rfl rfl ?_
                  refine U.e (o := _) rfl (.take 10 true 86 _ (ntT hb34) rfl rfl rfl) (by exact Eff.c [] (v := true) (T_taquinref11_Name x29.Class _ hm) en41 rfl rfl rfl (.eq rfl) trivial rfl rfl rfl rfl rfl rfl (fun _ _ => ⟨(.v _), trivial⟩) (.inr ⟨rfl, rfl⟩) (fun _ => rfl) (fun _ => rfl) rfl) (fun x35' hm => ?_)
                  obtain ⟨x35⟩ := x35'
                  refine U.p T rfl (.take 10 true 86 _ (ntT hb34) rfl rfl rfl) rfl rfl rfl ?_
                  refine U.r (o := _) rfl (.take 6 false 82 _ (ntF hb33) rfl rfl rfl) rfl rfl (by exact Rd.pk rfl rfl (ntT hb34) rfl) ?_
                  refine U.r (o := _) rfl (.none rfl) rfl rfl (by exact Rd.pk' rfl rfl (ntF hb33) rfl) ?_
                  refine U.done ?_
                  exact St.wk (hJ31 _ hm) (Wk.mk' [some 0, some 1] rfl rfl (.eqs rfl) ⟨⟨_, rfl, .box rfl (.eq rfl)⟩, ⟨_, rfl, .box rfl (.eq rfl)⟩, trivial⟩ rfl)
              · refine U.skip (o := _) rfl (.skip 6 false 82 _ (ntT hb33) rfl rfl rfl) rfl rfl ?_
                refine U.sks 3 6 false 82 (ntT hb33) rfl rfl rfl ?_
                refine U.sku 4 10 true 86 rfl rfl rfl ?_
                refine U.skip (o := _) rfl (.skip 6 false 82 _ (ntT hb33) rfl rfl rfl) rfl rfl ?_
                refine U.r (o := _) rfl (.none rfl) rfl rfl (by exact Rd.pk rfl rfl (ntT hb33) rfl) ?_
                refine U.done ?_
                exact St.wk (hJ31 _ hm) (Wk.mk' [some 0, some 1] rfl rfl (.eqs rfl) ⟨⟨_, rfl, .box rfl (.eq rfl)⟩, ⟨_, rfl, .box rfl (.eq rfl)⟩, trivial⟩ rfl)
          · refine C.exit ?_
            refine C.ex ?_
            refine C.ex ?_
            refine C.bex ?_
            exact St.wk (hJ25 _ hm) (Wk.mk' [some 0] rfl rfl (.eqs rfl) ⟨⟨_, rfl, .box rfl (.eq rfl)⟩, trivial⟩ rfl)
      · refine C.block ?_
        refine St.wk (C.loop (fun (s11 : Int) => [(1, .p 0 0), (3, .v (.int .i64 s11))]) (fun (s11 : Int) => [(0, .box [.v (.int .i64 s_1.Floor.W), .v (.int .i64 s_1.Floor.H), .v (.int .i64 s_1.Floor.D), .sl 1 eI s_1.Floor.Kind, .sl 1 eI s_1.Floor.Out, .sl 5 eApiZone s_1.Zones, .sl 2 eApiApart s_1.Aparts, .sl 2 eApiShelf s_1.Shelves, .sl 2 eApiStart s_1.Robots])]) hm (fun s11 Y12 hm => ?_)) (Wk.mk' [some 0] rfl rfl (.eqs rfl) ⟨⟨_, rfl, .box rfl (.eq rfl)⟩, trivial⟩ rfl)
        refine C.seq ?_
        refine C.seq ?_
        refine U.start ?_
        refine U.ps 5 T rfl ?_
        refine U.done ?_
        refine C.nx ?_
        refine C.ite rfl hm (fun hb13 hm => ?_) (fun hb13 hm => ?_)
        · refine C.skip ?_
          refine C.nx ?_
          refine C.seq ?_
          refine C.block ?_
          refine C.seq ?_
          refine U.start ?_
          refine U.ps 3 T rfl ?_
          obtain ⟨x14, hx14, hm⟩ := hm
          refine U.r (o := _) rfl (.none rfl) rfl rfl (by exact Rd.ix T rfl rfl rfl rfl rfl rfl hx14) ?_
          refine U.l T rfl (.none rfl) rfl rfl rfl rfl rfl ?_
          refine U.e1 (o := _) rfl (.none rfl) (by exact Eff1.al T rfl rfl rfl rfl) ?_
          refine U.e1 (o := _) rfl (.none rfl) (by exact Eff1.st T rfl rfl rfl rfl rfl rfl rfl rfl rfl rfl) ?_
          refine U.done ?_
          refine C.nx ?_
          refine C.seq ?_
          refine C.jn (fun (x15 : Bool) => [(1, .p 0 0), (3, .v (.int .i64 s11)), (63, .v (.bool x15))]) (fun (x15 : Bool) => [(0, .box [.v (.int .i64 s_1.Floor.W), .v (.int .i64 s_1.Floor.H), .v (.int .i64 s_1.Floor.D), .sl 1 eI s_1.Floor.Kind, .sl 1 eI s_1.Floor.Out, .sl 5 eApiZone s_1.Zones, .sl 2 eApiApart s_1.Aparts, .sl 2 eApiShelf s_1.Shelves, .sl 2 eApiStart s_1.Robots])]) 1 hm (fun x15 hm => ?_) (fun J16 hm hJ16 => ?_)
          · refine C.nx ?_
            refine C.ite rfl hm (fun hb23 hm => ?_) (fun hb23 hm => ?_)
            · refine C.seq ?_
              refine U.start ?_
              refine U.p T rfl (.none rfl) rfl rfl rfl ?_
              refine U.done ?_
              refine C.nx ?_
              refine C.ret ?_
              refine C.brt ?_
              refine C.rt ?_
              refine C.rt ?_
              refine C.brt ?_
              refine C.rt ?_
              exact C.fin T (rs' := [.v (.bool false)]) (H' := []) (nl' := 0) [] rfl rfl (.eq rfl) trivial rfl rfl rfl rfl hβ ⟨false, hm, rfl, rfl, rfl⟩
            · refine C.skip ?_
              refine C.bnx ?_
              refine C.nx ?_
              refine U.start ?_
              refine U.ps 3 T rfl ?_
              refine U.done ?_
              refine C.nx ?_
              exact St.wk (C.next hm) (Wk.mk' [some 0] rfl rfl (.eqs rfl) ⟨⟨_, rfl, .box rfl (.eq rfl)⟩, trivial⟩ rfl)
          · refine D.beg 9999 [0, 1] [] mix rfl rfl (by kernel_rfl) (by repeat (first | exact NoPanicQ.body | refine NoPanicQ.th ?_ | refine NoPanicQ.blk ?_)) (fun hQ hS ws M' => ?_)
            refine D.ps 2 [(0, []), (1, [])] rfl hQ hS T rfl rfl (by kernel_rfl) ?_
            refine D.e (o := _) 2 rfl (.none rfl) (by exact Eff.c [] (v := true) (T_taquinref11_Name x14.A _ hm) en41 rfl rfl rfl (.eq rfl) trivial rfl rfl rfl rfl rfl rfl (fun _ _ => ⟨(.v _), trivial⟩) (.inr ⟨rfl, rfl⟩) (fun _ => rfl) (fun _ => rfl) rfl) (by kernel_rfl) rfl rfl (fun x17' hm => ?_)
            obtain ⟨x17⟩ := x17'
            refine D.ps 2 [(3, []), (4, [])] rfl hQ hS T rfl rfl (by kernel_rfl) ?_
            refine hm.cs (fun hb18 hm => ?_) (fun hb18 hm => ?_)
            · refine D.q (o := _) 5 [] hQ hS rfl (.take 4 false 47 _ (ntF hb18) rfl rfl rfl) rfl rfl (by exact Rd.p T rfl) rfl (by kernel_rfl) ?_
              refine D.q (o := _) 6 [] hQ hS rfl (.take 4 false 47 _ (ntF hb18) rfl rfl rfl) rfl rfl (by exact Rd.l T rfl rfl rfl) rfl (by kernel_rfl) ?_
              refine D.e (o := _) 7 rfl (.take 4 false 47 _ (ntF hb18) rfl rfl rfl) (by exact Eff.c [] (v := true) (T_taquinref11_Name x14.B _ hm) en41 rfl rfl rfl (.eq rfl) trivial rfl rfl rfl rfl rfl rfl (fun _ _ => ⟨(.v _), trivial⟩) (.inr ⟨rfl, rfl⟩) (fun _ => rfl) (fun _ => rfl) rfl) (by kernel_rfl) rfl rfl (fun x19' hm => ?_)
              obtain ⟨x19⟩ := x19'
              refine D.q (o := _) 8 [] hQ hS rfl (.take 4 false 47 _ (ntF hb18) rfl rfl rfl) rfl rfl (by exact Rd.p T rfl) rfl (by kernel_rfl) ?_
              refine D.q (o := _) 9 [] hQ hS rfl (.none rfl) rfl rfl (by exact Rd.pk' rfl rfl (ntF hb18) rfl) rfl (by kernel_rfl) ?_
              refine D.ps 1 [(10, [])] rfl hQ hS T rfl rfl (by kernel_rfl) ?_
              refine hm.cs (fun hb20 hm => ?_) (fun hb20 hm => ?_)
              · refine D.q (o := _) 11 [] hQ hS rfl (.take 10 false 53 _ (ntF hb20) rfl rfl rfl) rfl rfl (by exact Rd.p T rfl) rfl (by kernel_rfl) ?_
                refine D.q (o := _) 12 [] hQ hS rfl (.take 10 false 53 _ (ntF hb20) rfl rfl rfl) rfl rfl (by exact Rd.l T rfl rfl rfl) rfl (by kernel_rfl) ?_
                refine D.q (o := _) 13 [] hQ hS rfl (.take 10 false 53 _ (ntF hb20) rfl rfl rfl) rfl rfl (by exact Rd.p T rfl) rfl (by kernel_rfl) ?_
                obtain ⟨hx21, hm⟩ := hm
                refine D.q (o := _) 14 [] hQ hS rfl (.take 10 false 53 _ (ntF hb20) rfl rfl rfl) rfl rfl (by exact Rd.so T rfl rfl rfl rfl rfl (.none _) (.some _ rfl) hx21) rfl (by kernel_rfl) ?_
                refine D.q (o := _) 15 [] hQ hS rfl (.take 10 false 53 _ (ntF hb20) rfl rfl rfl) rfl rfl (by exact Rd.p T rfl) rfl (by kernel_rfl) ?_
                refine D.q (o := _) 16 [] hQ hS rfl (.take 10 false 53 _ (ntF hb20) rfl rfl rfl) rfl rfl (by exact Rd.l T rfl rfl rfl) rfl (by kernel_rfl) ?_
                refine D.q (o := _) 17 [] hQ hS rfl (.take 10 false 53 _ (ntF hb20) rfl rfl rfl) rfl rfl (by exact Rd.p T rfl) rfl (by kernel_rfl) ?_
                refine D.q (o := _) 18 [] hQ hS rfl (.take 10 false 53 _ (ntF hb20) rfl rfl rfl) rfl rfl (by exact Rd.l T rfl rfl rfl) rfl (by kernel_rfl) ?_
                refine D.e (o := _) 19 rfl (.take 10 false 53 _ (ntF hb20) rfl rfl rfl) (by exact Eff.c [] (v := true) (T_taquinref11_Apart (sub s_1.Aparts 0 s11) x14.A x14.B _ hm) en42 rfl rfl rfl (.eq rfl) trivial rfl rfl rfl rfl rfl rfl (fun _ _ => ⟨(.v _), trivial⟩) (.inr ⟨rfl, rfl⟩) (fun _ => rfl) (fun _ => rfl) rfl) (by kernel_rfl) rfl rfl (fun x22' hm => ?_)
                obtain ⟨x22⟩ := x22'
                refine D.q (o := _) 20 [] hQ hS rfl (.none rfl) rfl rfl (by exact Rd.pk' rfl rfl (ntF hb20) rfl) rfl (by kernel_rfl) ?_
                refine D.done (by kernel_rfl) ?_
                exact St.wk (hJ16 _ hm) (Wk.mk' [some 0] rfl rfl (.eqs rfl) ⟨⟨_, rfl, .box rfl (.eq rfl)⟩, trivial⟩ rfl)
              · refine D.sq (o := _) 11 [] hQ hS rfl (.skip 10 false 53 _ (ntT hb20) rfl rfl rfl) rfl rfl (by kernel_rfl) ?_
                refine D.sq (o := _) 12 [] hQ hS rfl (.skip 10 false 53 _ (ntT hb20) rfl rfl rfl) rfl rfl (by kernel_rfl) ?_
                refine D.sq (o := _) 13 [] hQ hS rfl (.skip 10 false 53 _ (ntT hb20) rfl rfl rfl) rfl rfl (by kernel_rfl) ?_
                refine D.sq (o := _) 14 [] hQ hS rfl (.skip 10 false 53 _ (ntT hb20) rfl rfl rfl) rfl rfl (by kernel_rfl) ?_
                refine D.sq (o := _) 15 [] hQ hS rfl (.skip 10 false 53 _ (ntT hb20) rfl rfl rfl) rfl rfl (by kernel_rfl) ?_
                refine D.sq (o := _) 16 [] hQ hS rfl (.skip 10 false 53 _ (ntT hb20) rfl rfl rfl) rfl rfl (by kernel_rfl) ?_
                refine D.sq (o := _) 17 [] hQ hS rfl (.skip 10 false 53 _ (ntT hb20) rfl rfl rfl) rfl rfl (by kernel_rfl) ?_
                refine D.sq (o := _) 18 [] hQ hS rfl (.skip 10 false 53 _ (ntT hb20) rfl rfl rfl) rfl rfl (by kernel_rfl) ?_
                refine D.sq (o := _) 19 [] hQ hS rfl (.skip 10 false 53 _ (ntT hb20) rfl rfl rfl) rfl rfl (by kernel_rfl) ?_
                refine D.q (o := _) 20 [] hQ hS rfl (.none rfl) rfl rfl (by exact Rd.pk rfl rfl (ntT hb20) rfl) rfl (by kernel_rfl) ?_
                refine D.done (by kernel_rfl) ?_
                exact St.wk (hJ16 _ hm) (Wk.mk' [some 0] rfl rfl (.eqs rfl) ⟨⟨_, rfl, .box rfl (.eq rfl)⟩, trivial⟩ rfl)
            · refine D.sq (o := _) 5 [] hQ hS rfl (.skip 4 false 47 _ (ntT hb18) rfl rfl rfl) rfl rfl (by kernel_rfl) ?_
              refine D.sq (o := _) 6 [] hQ hS rfl (.skip 4 false 47 _ (ntT hb18) rfl rfl rfl) rfl rfl (by kernel_rfl) ?_
              refine D.sq (o := _) 7 [] hQ hS rfl (.skip 4 false 47 _ (ntT hb18) rfl rfl rfl) rfl rfl (by kernel_rfl) ?_
              refine D.sq (o := _) 8 [] hQ hS rfl (.skip 4 false 47 _ (ntT hb18) rfl rfl rfl) rfl rfl (by kernel_rfl) ?_
              refine D.q (o := _) 9 [] hQ hS rfl (.none rfl) rfl rfl (by exact Rd.pk rfl rfl (ntT hb18) rfl) rfl (by kernel_rfl) ?_
              refine D.ps 1 [(10, [])] rfl hQ hS T rfl rfl (by kernel_rfl) ?_
              refine D.sq (o := _) 11 [] hQ hS rfl (.skip 10 false 53 _ rfl rfl rfl rfl) rfl rfl (by kernel_rfl) ?_
              refine D.sq (o := _) 12 [] hQ hS rfl (.skip 10 false 53 _ rfl rfl rfl rfl) rfl rfl (by kernel_rfl) ?_
              refine D.sq (o := _) 13 [] hQ hS rfl (.skip 10 false 53 _ rfl rfl rfl rfl) rfl rfl (by kernel_rfl) ?_
              refine D.sq (o := _) 14 [] hQ hS rfl (.skip 10 false 53 _ rfl rfl rfl rfl) rfl rfl (by kernel_rfl) ?_
              refine D.sq (o := _) 15 [] hQ hS rfl (.skip 10 false 53 _ rfl rfl rfl rfl) rfl rfl (by kernel_rfl) ?_
              refine D.sq (o := _) 16 [] hQ hS rfl (.skip 10 false 53 _ rfl rfl rfl rfl) rfl rfl (by kernel_rfl) ?_
              refine D.sq (o := _) 17 [] hQ hS rfl (.skip 10 false 53 _ rfl rfl rfl rfl) rfl rfl (by kernel_rfl) ?_
              refine D.sq (o := _) 18 [] hQ hS rfl (.skip 10 false 53 _ rfl rfl rfl rfl) rfl rfl (by kernel_rfl) ?_
              refine D.sq (o := _) 19 [] hQ hS rfl (.skip 10 false 53 _ rfl rfl rfl rfl) rfl rfl (by kernel_rfl) ?_
              refine D.q (o := _) 20 [] hQ hS rfl (.none rfl) rfl rfl (by exact Rd.pk rfl rfl rfl rfl) rfl (by kernel_rfl) ?_
              refine D.done (by kernel_rfl) ?_
              exact St.wk (hJ16 _ hm) (Wk.mk' [some 0] rfl rfl (.eqs rfl) ⟨⟨_, rfl, .box rfl (.eq rfl)⟩, trivial⟩ rfl)
        · refine C.exit ?_
          refine C.ex ?_
          refine C.ex ?_
          refine C.bex ?_
          exact St.wk (hJ10 _ hm) (Wk.mk' [some 0] rfl rfl (.eqs rfl) ⟨⟨_, rfl, .box rfl (.eq rfl)⟩, trivial⟩ rfl)
  · refine U.start ?_
    refine U.ps 2 T rfl ?_
    refine U.e (o := _) rfl (.none rfl) (by exact Eff.c [] (v := true) (T_taquinref07_Right s_1.Floor _ hm) en39 rfl rfl rfl (.eq rfl) trivial rfl rfl rfl rfl rfl rfl (fun _ _ => ⟨(.v _), trivial⟩) (.inr ⟨rfl, rfl⟩) (fun _ => rfl) (fun _ => rfl) rfl) (fun x3' hm => ?_)
    obtain ⟨x3⟩ := x3'
    refine U.ps 2 T rfl ?_
    refine hm.cs (fun hb4 hm => ?_) (fun hb4 hm => ?_)
    · refine U.l T rfl (.take 4 false 14 _ (ntF hb4) rfl rfl rfl) rfl rfl rfl rfl rfl ?_
      refine U.e (o := _) rfl (.take 4 false 14 _ (ntF hb4) rfl rfl rfl) (by exact Eff.c [] (v := true) (T_taquinref11_rightZones s_1 _ hm) en40 rfl rfl rfl (.eq rfl) trivial rfl rfl rfl rfl rfl rfl (fun _ _ => ⟨(.v _), trivial⟩) (.inr ⟨rfl, rfl⟩) (fun _ => rfl) (fun _ => rfl) rfl) (fun x5' hm => ?_)
      obtain ⟨x5⟩ := x5'
      refine U.p T rfl (.take 4 false 14 _ (ntF hb4) rfl rfl rfl) rfl rfl rfl ?_
      refine U.r (o := _) rfl (.none rfl) rfl rfl (by exact Rd.pk' rfl rfl (ntF hb4) rfl) ?_
      refine U.p T rfl (.none rfl) rfl rfl rfl ?_
      refine hm.cs (fun hb6 hm => ?_) (fun hb6 hm => ?_)
      · refine U.p T rfl (.take 9 false 19 _ (ntF hb6) rfl rfl rfl) rfl rfl rfl ?_
        refine U.pg 3 9 false 19 (ntF hb6) T rfl rfl rfl rfl ?_
        refine U.r (o := _) rfl (.none rfl) rfl rfl (by exact Rd.pk' rfl rfl (ntF hb6) rfl) ?_
        refine U.p T rfl (.none rfl) rfl rfl rfl ?_
        refine hm.cs (fun hb7 hm => ?_) (fun hb7 hm => ?_)
        · refine U.skip (o := _) rfl (.skip 15 false 25 _ hb7 rfl rfl rfl) rfl rfl ?_
          refine U.sks 3 15 false 25 hb7 rfl rfl rfl ?_
          refine U.r (o := _) rfl (.none rfl) rfl rfl (by exact Rd.pk rfl rfl hb7 rfl) ?_
          refine U.done ?_
          exact St.wk (hJ2 _ hm) (Wk.mk' [some 0] rfl rfl (.eqs rfl) ⟨⟨_, rfl, .box rfl (.eq rfl)⟩, trivial⟩ rfl)
        · refine U.p T rfl (.take 15 false 25 _ hb7 rfl rfl rfl) rfl rfl rfl ?_
          refine U.pg 3 15 false 25 hb7 T rfl rfl rfl rfl ?_
          refine U.r (o := _) rfl (.none rfl) rfl rfl (by exact Rd.pk' rfl rfl hb7 rfl) ?_
          refine U.done ?_
          exact St.wk (hJ2 _ hm) (Wk.mk' [some 0] rfl rfl (.eqs rfl) ⟨⟨_, rfl, .box rfl (.eq rfl)⟩, trivial⟩ rfl)
      · refine U.skip (o := _) rfl (.skip 9 false 19 _ (ntT hb6) rfl rfl rfl) rfl rfl ?_
        refine U.sks 3 9 false 19 (ntT hb6) rfl rfl rfl ?_
        refine U.r (o := _) rfl (.none rfl) rfl rfl (by exact Rd.pk rfl rfl (ntT hb6) rfl) ?_
        refine U.p T rfl (.none rfl) rfl rfl rfl ?_
        refine U.sks 4 15 false 25 rfl rfl rfl rfl ?_
        refine U.r (o := _) rfl (.none rfl) rfl rfl (by exact Rd.pk rfl rfl rfl rfl) ?_
        refine U.done ?_
        exact St.wk (hJ2 _ hm) (Wk.mk' [some 0] rfl rfl (.eqs rfl) ⟨⟨_, rfl, .box rfl (.eq rfl)⟩, trivial⟩ rfl)
    · refine U.skip (o := _) rfl (.skip 4 false 14 _ (ntT hb4) rfl rfl rfl) rfl rfl ?_
      refine U.sks 2 4 false 14 (ntT hb4) rfl rfl rfl ?_
      refine U.r (o := _) rfl (.none rfl) rfl rfl (by exact Rd.pk rfl rfl (ntT hb4) rfl) ?_
      refine U.p T rfl (.none rfl) rfl rfl rfl ?_
      refine U.sks 4 9 false 19 rfl rfl rfl rfl ?_
      refine U.r (o := _) rfl (.none rfl) rfl rfl (by exact Rd.pk rfl rfl rfl rfl) ?_
      refine U.p T rfl (.none rfl) rfl rfl rfl ?_
      refine U.sks 4 15 false 25 rfl rfl rfl rfl ?_
      refine U.r (o := _) rfl (.none rfl) rfl rfl (by exact Rd.pk rfl rfl rfl rfl) ?_
      refine U.done ?_
      exact St.wk (hJ2 _ hm) (Wk.mk' [some 0] rfl rfl (.eqs rfl) ⟨⟨_, rfl, .box rfl (.eq rfl)⟩, trivial⟩ rfl)
theorem T_taquinlaw23_fair (s_1 : ApiSite) (taken : List ApiTaken) (avoid : List Int) (post : Bool → Prop) (hm : V_taquinlaw23_fair s_1 taken avoid post) :
    Tr Try.prog 8 [.agg [.v (.int .i64 s_1.Floor.W), .v (.int .i64 s_1.Floor.H), .v (.int .i64 s_1.Floor.D), .sl 1 eI s_1.Floor.Kind, .sl 1 eI s_1.Floor.Out, .sl 5 eApiZone s_1.Zones, .sl 2 eApiApart s_1.Aparts, .sl 2 eApiShelf s_1.Shelves, .sl 2 eApiStart s_1.Robots], .sl 3 eApiTaken taken, .sl 1 eI avoid] [] 0 (fun A H' k => ∃ y, post y ∧ A = (.v (.bool y)) ∧ H' = [] ∧ k = 0) := by
  refine Tr.intro (n := 42) Try.func8 rfl Try.ntmps8 rfl (fun w0 ok F β hβ => ?_)
  unfold V_taquinlaw23_fair at hm
  refine C.seq ?_
  refine U.start ?_
  refine U.e1 (o := _) rfl (.none rfl) (by exact Eff1.box rfl rfl rfl rfl rfl) ?_
  refine U.p T rfl (.none rfl) rfl rfl rfl ?_
  refine U.done ?_
  refine C.nx ?_
  refine C.seq ?_
  refine C.seq ?_
  refine U.start ?_
  refine U.p T rfl (.none rfl) rfl rfl rfl ?_
  refine U.done ?_
  refine C.nx ?_
  refine C.jn (fun (x1 : Unit) => [(1, .sl 3 eApiTaken taken), (2, .sl 1 eI avoid), (3, .p 0 0)]) (fun (x1 : Unit) => [(0, .box [.v (.int .i64 s_1.Floor.W), .v (.int .i64 s_1.Floor.H), .v (.int .i64 s_1.Floor.D), .sl 1 eI s_1.Floor.Kind, .sl 1 eI s_1.Floor.Out, .sl 5 eApiZone s_1.Zones, .sl 2 eApiApart s_1.Aparts, .sl 2 eApiShelf s_1.Shelves, .sl 2 eApiStart s_1.Robots])]) 1 hm (fun x1 hm => ?_) (fun J2 hm hJ2 => ?_)
  · refine C.nx ?_
    refine C.seq ?_
    refine C.jn (fun (x11 : Bool) => [(6, .v (.bool x11))]) (fun (x11 : Bool) => []) 0 hm (fun x11 hm => ?_) (fun J12 hm hJ12 => ?_)
    · refine C.nx ?_
      refine C.ret ?_
      exact C.fin T (rs' := [.v (.bool x11)]) (H' := []) (nl' := 0) [] rfl rfl (.eq rfl) trivial rfl rfl rfl rfl hβ ⟨x11, hm, rfl, rfl, rfl⟩
    · refine U.start ?_
      refine U.l T rfl (.none rfl) rfl rfl rfl rfl rfl ?_
      refine U.e (o := _) rfl (.none rfl) (by exact Eff.c [] (v := true) (T_taquinref11_Few s_1 50 20 _ hm) en19 rfl rfl rfl (.eq rfl) trivial rfl rfl rfl rfl rfl rfl (fun _ _ => ⟨(.v _), trivial⟩) (.inr ⟨rfl, rfl⟩) (fun _ => rfl) (fun _ => rfl) rfl) (fun x13' hm => ?_)
      obtain ⟨x13⟩ := x13'
      refine U.p T rfl (.none rfl) rfl rfl rfl ?_
      refine hm.cs (fun hb14 hm => ?_) (fun hb14 hm => ?_)
      · refine U.l T rfl (.take 2 true 28 _ hb14 rfl rfl rfl) rfl rfl rfl rfl rfl ?_
        refine U.e (o := _) rfl (.take 2 true 28 _ hb14 rfl rfl rfl) (by exact Eff.c [] (v := true) (T_taquinref11_Right s_1 _ hm) en20 rfl rfl rfl (.eq rfl) trivial rfl rfl rfl rfl rfl rfl (fun _ _ => ⟨(.v _), trivial⟩) (.inr ⟨rfl, rfl⟩) (fun _ => rfl) (fun _ => rfl) rfl) (fun x15' hm => ?_)
        obtain ⟨x15⟩ := x15'
        refine U.r (o := _) rfl (.none rfl) rfl rfl (by exact Rd.pk rfl rfl hb14 rfl) ?_
        refine U.p T rfl (.none rfl) rfl rfl rfl ?_
        refine hm.cs (fun hb16 hm => ?_) (fun hb16 hm => ?_)
        · refine U.p T rfl (.take 6 true 32 _ hb16 rfl rfl rfl) rfl rfl rfl ?_
          refine U.pg 2 6 true 32 hb16 T rfl rfl rfl rfl ?_
          refine U.r (o := _) rfl (.none rfl) rfl rfl (by exact Rd.pk rfl rfl hb16 rfl) ?_
          refine U.p T rfl (.none rfl) rfl rfl rfl ?_
          refine hm.cs (fun hb17 hm => ?_) (fun hb17 hm => ?_)
          · refine U.p T rfl (.take 11 true 37 _ hb17 rfl rfl rfl) rfl rfl rfl ?_
            refine U.pg 2 11 true 37 hb17 T rfl rfl rfl rfl ?_
            refine U.r (o := _) rfl (.none rfl) rfl rfl (by exact Rd.pk rfl rfl hb17 rfl) ?_
            refine U.p T rfl (.none rfl) rfl rfl rfl ?_
            refine U.done ?_
            exact St.wk (hJ12 _ hm) (Wk.mk' [] rfl rfl (.eqs rfl) trivial rfl)
          · refine U.skip (o := _) rfl (.skip 11 true 37 _ hb17 rfl rfl rfl) rfl rfl ?_
            refine U.sks 2 11 true 37 hb17 rfl rfl rfl ?_
            refine U.r (o := _) rfl (.none rfl) rfl rfl (by exact Rd.pk' rfl rfl hb17 rfl) ?_
            refine U.p T rfl (.none rfl) rfl rfl rfl ?_
            refine U.done ?_
            exact St.wk (hJ12 _ hm) (Wk.mk' [] rfl rfl (.eqs rfl) trivial rfl)
        · refine U.skip (o := _) rfl (.skip 6 true 32 _ hb16 rfl rfl rfl) rfl rfl ?_
          refine U.sks 2 6 true 32 hb16 rfl rfl rfl ?_
          refine U.r (o := _) rfl (.none rfl) rfl rfl (by exact Rd.pk' rfl rfl hb16 rfl) ?_
          refine U.p T rfl (.none rfl) rfl rfl rfl ?_
          refine U.sks 3 11 true 37 rfl rfl rfl rfl ?_
          refine U.r (o := _) rfl (.none rfl) rfl rfl (by exact Rd.pk' rfl rfl rfl rfl) ?_
          refine U.p T rfl (.none rfl) rfl rfl rfl ?_
          refine U.done ?_
          exact St.wk (hJ12 _ hm) (Wk.mk' [] rfl rfl (.eqs rfl) trivial rfl)
      · refine U.skip (o := _) rfl (.skip 2 true 28 _ hb14 rfl rfl rfl) rfl rfl ?_
        refine U.skip (o := _) rfl (.skip 2 true 28 _ hb14 rfl rfl rfl) rfl rfl ?_
        refine U.r (o := _) rfl (.none rfl) rfl rfl (by exact Rd.pk' rfl rfl hb14 rfl) ?_
        refine U.p T rfl (.none rfl) rfl rfl rfl ?_
        refine U.sks 3 6 true 32 rfl rfl rfl rfl ?_
        refine U.r (o := _) rfl (.none rfl) rfl rfl (by exact Rd.pk' rfl rfl rfl rfl) ?_
        refine U.p T rfl (.none rfl) rfl rfl rfl ?_
        refine U.sks 3 11 true 37 rfl rfl rfl rfl ?_
        refine U.r (o := _) rfl (.none rfl) rfl rfl (by exact Rd.pk' rfl rfl rfl rfl) ?_
        refine U.p T rfl (.none rfl) rfl rfl rfl ?_
        refine U.done ?_
        exact St.wk (hJ12 _ hm) (Wk.mk' [] rfl rfl (.eqs rfl) trivial rfl)
  · refine C.block ?_
    refine St.wk (C.loop (fun (s3 : Int) => [(1, .sl 3 eApiTaken taken), (2, .sl 1 eI avoid), (3, .p 0 0), (7, .v (.int .i64 s3))]) (fun (s3 : Int) => [(0, .box [.v (.int .i64 s_1.Floor.W), .v (.int .i64 s_1.Floor.H), .v (.int .i64 s_1.Floor.D), .sl 1 eI s_1.Floor.Kind, .sl 1 eI s_1.Floor.Out, .sl 5 eApiZone s_1.Zones, .sl 2 eApiApart s_1.Aparts, .sl 2 eApiShelf s_1.Shelves, .sl 2 eApiStart s_1.Robots])]) hm (fun s3 Y4 hm => ?_)) (Wk.mk' [some 0] rfl rfl (.eqs rfl) ⟨⟨_, rfl, .box rfl (.eq rfl)⟩, trivial⟩ rfl)
    refine C.seq ?_
    refine C.seq ?_
    refine C.jn (fun (x5 : Bool) => [(1, .sl 3 eApiTaken taken), (2, .sl 1 eI avoid), (3, .p 0 0), (7, .v (.int .i64 s3)), (16, .v (.bool x5))]) (fun (x5 : Bool) => [(0, .box [.v (.int .i64 s_1.Floor.W), .v (.int .i64 s_1.Floor.H), .v (.int .i64 s_1.Floor.D), .sl 1 eI s_1.Floor.Kind, .sl 1 eI s_1.Floor.Out, .sl 5 eApiZone s_1.Zones, .sl 2 eApiApart s_1.Aparts, .sl 2 eApiShelf s_1.Shelves, .sl 2 eApiStart s_1.Robots])]) 1 hm (fun x5 hm => ?_) (fun J6 hm hJ6 => ?_)
    · refine C.nx ?_
      refine C.ite rfl hm (fun hb8 hm => ?_) (fun hb8 hm => ?_)
      · refine C.skip ?_
        refine C.nx ?_
        refine C.seq ?_
        refine C.block ?_
        refine C.seq ?_
        refine U.start ?_
        refine U.ps 3 T rfl ?_
        obtain ⟨x9, hx9, hm⟩ := hm
        refine U.r (o := _) rfl (.none rfl) rfl rfl (by exact Rd.ix T rfl rfl rfl rfl rfl rfl hx9) ?_
        refine U.ps 3 T rfl ?_
        refine U.done ?_
        refine C.nx ?_
        refine C.ite rfl hm (fun hb10 hm => ?_) (fun hb10 hm => ?_)
        · refine C.seq ?_
          refine U.start ?_
          refine U.p T rfl (.none rfl) rfl rfl rfl ?_
          refine U.done ?_
          refine C.nx ?_
          refine C.ret ?_
          refine C.brt ?_
          refine C.rt ?_
          refine C.rt ?_
          refine C.brt ?_
          refine C.rt ?_
          exact C.fin T (rs' := [.v (.bool false)]) (H' := []) (nl' := 0) [] rfl rfl (.eq rfl) trivial rfl rfl rfl rfl hβ ⟨false, hm, rfl, rfl, rfl⟩
        · refine C.skip ?_
          refine C.bnx ?_
          refine C.nx ?_
          refine U.start ?_
          refine U.ps 3 T rfl ?_
          refine U.done ?_
          refine C.nx ?_
          exact St.wk (C.next hm) (Wk.mk' [some 0] rfl rfl (.eqs rfl) ⟨⟨_, rfl, .box rfl (.eq rfl)⟩, trivial⟩ rfl)
      · refine C.exit ?_
        refine C.ex ?_
        refine C.ex ?_
        refine C.bex ?_
        exact St.wk (hJ2 _ hm) (Wk.mk' [some 0] rfl rfl (.eqs rfl) ⟨⟨_, rfl, .box rfl (.eq rfl)⟩, trivial⟩ rfl)
    · refine U.start ?_
      refine U.ps 6 T rfl ?_
      refine hm.cs (fun hb7 hm => ?_) (fun hb7 hm => ?_)
      · refine U.p T rfl (.take 5 true 13 _ hb7 rfl rfl rfl) rfl rfl rfl ?_
        refine U.p T rfl (.take 5 true 13 _ hb7 rfl rfl rfl) rfl rfl rfl ?_
        refine U.r (o := _) rfl (.none rfl) rfl rfl (by exact Rd.pk rfl rfl hb7 rfl) ?_
        refine U.done ?_
        exact St.wk (hJ6 _ hm) (Wk.mk' [some 0] rfl rfl (.eqs rfl) ⟨⟨_, rfl, .box rfl (.eq rfl)⟩, trivial⟩ rfl)
      · refine U.skip (o := _) rfl (.skip 5 true 13 _ hb7 rfl rfl rfl) rfl rfl ?_
        refine U.skip (o := _) rfl (.skip 5 true 13 _ hb7 rfl rfl rfl) rfl rfl ?_
        refine U.r (o := _) rfl (.none rfl) rfl rfl (by exact Rd.pk' rfl rfl hb7 rfl) ?_
        refine U.done ?_
        exact St.wk (hJ6 _ hm) (Wk.mk' [some 0] rfl rfl (.eqs rfl) ⟨⟨_, rfl, .box rfl (.eq rfl)⟩, trivial⟩ rfl)
theorem T_taquinlaw23_RouteBest (s_1 : ApiSite) (from_1 : Int) (to_1 : Int) (tick : Int) (taken : List ApiTaken) (avoid : List Int) (most : Int) (other : List Int) (post : Bool → Prop) (hm : V_taquinlaw23_RouteBest s_1 from_1 to_1 tick taken avoid most other post) :
    Tr Try.prog 3 [.agg [.v (.int .i64 s_1.Floor.W), .v (.int .i64 s_1.Floor.H), .v (.int .i64 s_1.Floor.D), .sl 1 eI s_1.Floor.Kind, .sl 1 eI s_1.Floor.Out, .sl 5 eApiZone s_1.Zones, .sl 2 eApiApart s_1.Aparts, .sl 2 eApiShelf s_1.Shelves, .sl 2 eApiStart s_1.Robots], .v (.int .i64 from_1), .v (.int .i64 to_1), .v (.int .i64 tick), .sl 3 eApiTaken taken, .sl 1 eI avoid, .v (.int .i64 most), .sl 1 eI other] [] 0 (fun A H' k => ∃ y, post y ∧ A = (.v (.bool y)) ∧ H' = [] ∧ k = 0) := by
  refine Tr.intro (n := 153) Try.func3 rfl Try.ntmps3 rfl (fun w0 ok F β hβ => ?_)
  unfold V_taquinlaw23_RouteBest at hm
  refine C.seq ?_
  refine U.start ?_
  refine U.e1 (o := _) rfl (.none rfl) (by exact Eff1.box rfl rfl rfl rfl rfl) ?_
  refine U.p T rfl (.none rfl) rfl rfl rfl ?_
  refine U.done ?_
  refine C.nx ?_
  refine C.seq ?_
  refine U.start ?_
  refine U.e (o := _) rfl (.none rfl) (by exact Eff.c [] (v := true) (T_taquinlaw23_small _ hm) en7 rfl rfl rfl (.eq rfl) trivial rfl rfl rfl rfl rfl rfl (fun _ _ => ⟨(.v _), trivial⟩) (.inr ⟨rfl, rfl⟩) (fun _ => rfl) (fun _ => rfl) rfl) (fun x1' hm => ?_)
  obtain ⟨x1⟩ := x1'
  refine U.p T rfl (.none rfl) rfl rfl rfl ?_
  refine U.done ?_
  refine C.nx ?_
  refine C.seq ?_
  refine C.seq ?_
  refine C.jn (fun (x2 : Bool) => [(1, .v (.int .i64 from_1)), (2, .v (.int .i64 to_1)), (3, .v (.int .i64 tick)), (4, .sl 3 eApiTaken taken), (5, .sl 1 eI avoid), (6, .v (.int .i64 most)), (7, .sl 1 eI other), (8, .p 0 0), (17, .v (.bool x1)), (40, .v (.bool x2))]) (fun (x2 : Bool) => [(0, .box [.v (.int .i64 s_1.Floor.W), .v (.int .i64 s_1.Floor.H), .v (.int .i64 s_1.Floor.D), .sl 1 eI s_1.Floor.Kind, .sl 1 eI s_1.Floor.Out, .sl 5 eApiZone s_1.Zones, .sl 2 eApiApart s_1.Aparts, .sl 2 eApiShelf s_1.Shelves, .sl 2 eApiStart s_1.Robots])]) 1 hm (fun x2 hm => ?_) (fun J3 hm hJ3 => ?_)
  · refine C.nx ?_
    refine C.ite rfl hm (fun hb8 hm => ?_) (fun hb8 hm => ?_)
    · refine C.seq ?_
      refine U.start ?_
      refine U.ps 2 T rfl ?_
      refine U.done ?_
      refine C.nx ?_
      refine C.ret ?_
      refine C.rt ?_
      exact C.fin T (rs' := [.v (.bool x1)]) (H' := []) (nl' := 0) [] rfl rfl (.eq rfl) trivial rfl rfl rfl rfl hβ ⟨x1, hm, rfl, rfl, rfl⟩
    · refine C.skip ?_
      refine C.nx ?_
      refine C.seq ?_
      refine U.start ?_
      refine U.ps 7 T rfl ?_
      refine U.e (o := _) rfl (.none rfl) (by exact Eff.c [] (v := true) (T_route_Find s_1 from_1 to_1 tick taken avoid most _ hm) en9 rfl rfl rfl (.eq rfl) trivial rfl rfl rfl rfl rfl rfl (fun _ _ => ⟨(.tup (.cons (.o _) (.cons (.v _) .nil))), ⟨.val (.os _ _ _ fun _ => (.cons (.v _) .nil)), trivial⟩⟩) (.inr ⟨rfl, rfl⟩) (fun _ => rfl) (fun _ => rfl) rfl) (fun x9' hm => ?_)
      obtain ⟨x9⟩ := x9'
      refine U.ps 5 T rfl ?_
      refine U.done ?_
      refine C.nx ?_
      refine C.seq ?_
      refine U.start ?_
      refine U.ps 7 T rfl ?_
      refine U.e (o := _) rfl (.none rfl) (by exact Eff.c [] (v := true) (T_route_Check s_1 from_1 to_1 tick taken avoid other _ hm) en10 rfl rfl rfl (.eq rfl) trivial rfl rfl rfl rfl rfl rfl (fun _ _ => ⟨(.v _), trivial⟩) (.inr ⟨rfl, rfl⟩) (fun _ => rfl) (fun _ => rfl) rfl) (fun x10' hm => ?_)
      obtain ⟨x10⟩ := x10'
      refine U.p T rfl (.none rfl) rfl rfl rfl ?_
      refine U.done ?_
      refine C.nx ?_
      refine C.seq ?_
      refine C.seq ?_
      refine U.start ?_
      refine U.ps 2 T rfl ?_
      refine U.done ?_
      refine C.nx ?_
      refine C.ite rfl hm (fun hb11 hm => ?_) (fun hb11 hm => ?_)
      · refine C.seq ?_
        refine C.jn (fun (x12 : Bool) => [(16, .v (.bool x12))]) (fun (x12 : Bool) => []) 0 hm (fun x12 hm => ?_) (fun J13 hm hJ13 => ?_)
        · refine C.nx ?_
          refine C.ret ?_
          refine C.rt ?_
          exact C.fin T (rs' := [.v (.bool x12)]) (H' := []) (nl' := 0) [] rfl rfl (.eq rfl) trivial rfl rfl rfl rfl hβ ⟨x12, hm, rfl, rfl, rfl⟩
        · refine U.start ?_
          refine U.ps 2 T rfl ?_
          refine hm.cs (fun hb14 hm => ?_) (fun hb14 hm => ?_)
          · refine U.p T rfl (.take 1 true 64 _ hb14 rfl rfl rfl) rfl rfl rfl ?_
            refine U.p T rfl (.take 1 true 64 _ hb14 rfl rfl rfl) rfl rfl rfl ?_
            refine U.r (o := _) rfl (.none rfl) rfl rfl (by exact Rd.pk rfl rfl hb14 rfl) ?_
            refine U.p T rfl (.none rfl) rfl rfl rfl ?_
            refine hm.cs (fun hb15 hm => ?_) (fun hb15 hm => ?_)
            · refine U.p T rfl (.take 5 true 68 _ hb15 rfl rfl rfl) rfl rfl rfl ?_
              refine U.pg 2 5 true 68 hb15 T rfl rfl rfl rfl ?_
              refine U.r (o := _) rfl (.none rfl) rfl rfl (by exact Rd.pk rfl rfl hb15 rfl) ?_
              refine U.p T rfl (.none rfl) rfl rfl rfl ?_
              refine U.done ?_
              exact St.wk (hJ13 _ hm) (Wk.mk' [] rfl rfl (.eqs rfl) trivial rfl)
            · refine U.skip (o := _) rfl (.skip 5 true 68 _ hb15 rfl rfl rfl) rfl rfl ?_
              refine U.sks 2 5 true 68 hb15 rfl rfl rfl ?_
              refine U.r (o := _) rfl (.none rfl) rfl rfl (by exact Rd.pk' rfl rfl hb15 rfl) ?_
              refine U.p T rfl (.none rfl) rfl rfl rfl ?_
              refine U.done ?_
              exact St.wk (hJ13 _ hm) (Wk.mk' [] rfl rfl (.eqs rfl) trivial rfl)
          · refine U.skip (o := _) rfl (.skip 1 true 64 _ hb14 rfl rfl rfl) rfl rfl ?_
            refine U.skip (o := _) rfl (.skip 1 true 64 _ hb14 rfl rfl rfl) rfl rfl ?_
            refine U.r (o := _) rfl (.none rfl) rfl rfl (by exact Rd.pk' rfl rfl hb14 rfl) ?_
            refine U.p T rfl (.none rfl) rfl rfl rfl ?_
            refine U.sks 3 5 true 68 rfl rfl rfl rfl ?_
            refine U.r (o := _) rfl (.none rfl) rfl rfl (by exact Rd.pk' rfl rfl rfl rfl) ?_
            refine U.p T rfl (.none rfl) rfl rfl rfl ?_
            refine U.done ?_
            exact St.wk (hJ13 _ hm) (Wk.mk' [] rfl rfl (.eqs rfl) trivial rfl)
      · refine C.skip ?_
        refine C.nx ?_
        refine C.seq ?_
        refine C.seq ?_
        refine U.start ?_
        refine U.ps 2 T rfl ?_
        refine U.done ?_
        refine C.nx ?_
        refine C.ite rfl hm (fun hb16 hm => ?_) (fun hb16 hm => ?_)
        · refine C.seq ?_
          refine C.jn (fun (x17 : Bool) => [(16, .v (.bool x17))]) (fun (x17 : Bool) => []) 0 hm (fun x17 hm => ?_) (fun J18 hm hJ18 => ?_)
          · refine C.nx ?_
            refine C.ret ?_
            refine C.rt ?_
            exact C.fin T (rs' := [.v (.bool x17)]) (H' := []) (nl' := 0) [] rfl rfl (.eq rfl) trivial rfl rfl rfl rfl hβ ⟨x17, hm, rfl, rfl, rfl⟩
          · refine U.start ?_
            refine U.ps 2 T rfl ?_
            refine hm.cs (fun hb19 hm => ?_) (fun hb19 hm => ?_)
            · refine U.p T rfl (.take 1 true 76 _ hb19 rfl rfl rfl) rfl rfl rfl ?_
              refine U.pg 2 1 true 76 hb19 T rfl rfl rfl rfl ?_
              refine U.r (o := _) rfl (.none rfl) rfl rfl (by exact Rd.pk rfl rfl hb19 rfl) ?_
              refine U.p T rfl (.none rfl) rfl rfl rfl ?_
              refine hm.cs (fun hb20 hm => ?_) (fun hb20 hm => ?_)
              · refine U.p T rfl (.take 6 true 81 _ hb20 rfl rfl rfl) rfl rfl rfl ?_
                refine U.pg 2 6 true 81 hb20 T rfl rfl rfl rfl ?_
                refine hm.cs (fun hb21 hm => ?_) (fun hb21 hm => ?_)
                · refine U.skip (o := _) rfl (.skip 9 false 84 _ hb21 rfl rfl rfl) rfl rfl ?_
                  refine U.sks 3 9 false 84 hb21 rfl rfl rfl ?_
                  refine U.r (o := _) rfl (.take 6 true 81 _ hb20 rfl rfl rfl) rfl rfl (by exact Rd.pk rfl rfl hb21 rfl) ?_
                  refine U.r (o := _) rfl (.none rfl) rfl rfl (by exact Rd.pk rfl rfl hb20 rfl) ?_
                  refine U.p T rfl (.none rfl) rfl rfl rfl ?_
                  refine U.done ?_
                  exact St.wk (hJ18 _ hm) (Wk.mk' [] rfl rfl (.eqs rfl) trivial rfl)
                · refine U.p T rfl (.take 9 false 84 _ hb21 rfl rfl rfl) rfl rfl rfl ?_
                  refine U.pg 3 9 false 84 hb21 T rfl rfl rfl rfl ?_
                  refine U.r (o := _) rfl (.take 6 true 81 _ hb20 rfl rfl rfl) rfl rfl (by exact Rd.pk' rfl rfl hb21 rfl) ?_
                  refine U.r (o := _) rfl (.none rfl) rfl rfl (by exact Rd.pk rfl rfl hb20 rfl) ?_
                  refine U.p T rfl (.none rfl) rfl rfl rfl ?_
                  refine U.done ?_
                  exact St.wk (hJ18 _ hm) (Wk.mk' [] rfl rfl (.eqs rfl) trivial rfl)
              · refine U.skip (o := _) rfl (.skip 6 true 81 _ hb20 rfl rfl rfl) rfl rfl ?_
                refine U.sks 2 6 true 81 hb20 rfl rfl rfl ?_
                refine U.sku 4 9 false 84 rfl rfl rfl ?_
                refine U.skip (o := _) rfl (.skip 6 true 81 _ hb20 rfl rfl rfl) rfl rfl ?_
                refine U.r (o := _) rfl (.none rfl) rfl rfl (by exact Rd.pk' rfl rfl hb20 rfl) ?_
                refine U.p T rfl (.none rfl) rfl rfl rfl ?_
                refine U.done ?_
                exact St.wk (hJ18 _ hm) (Wk.mk' [] rfl rfl (.eqs rfl) trivial rfl)
            · refine U.skip (o := _) rfl (.skip 1 true 76 _ hb19 rfl rfl rfl) rfl rfl ?_
              refine U.sks 2 1 true 76 hb19 rfl rfl rfl ?_
              refine U.r (o := _) rfl (.none rfl) rfl rfl (by exact Rd.pk' rfl rfl hb19 rfl) ?_
              refine U.p T rfl (.none rfl) rfl rfl rfl ?_
              refine U.sks 3 6 true 81 rfl rfl rfl rfl ?_
              refine U.sku 4 9 false 84 rfl rfl rfl ?_
              refine U.skip (o := _) rfl (.skip 6 true 81 _ rfl rfl rfl rfl) rfl rfl ?_
              refine U.r (o := _) rfl (.none rfl) rfl rfl (by exact Rd.pk' rfl rfl rfl rfl) ?_
              refine U.p T rfl (.none rfl) rfl rfl rfl ?_
              refine U.done ?_
              exact St.wk (hJ18 _ hm) (Wk.mk' [] rfl rfl (.eqs rfl) trivial rfl)
        · refine C.skip ?_
          refine C.nx ?_
          refine C.seq ?_
          refine C.seq ?_
          refine C.jn (fun (x22 : Bool) => [(7, .sl 1 eI other), (17, .v (.bool x1)), (18, .o 0), (20, .v (.int .i64 x10)), (109, .v (.bool x22))]) (fun (x22 : Bool) => [(0, .val (.os 1 eI x9.1))]) 1 hm (fun x22 hm => ?_) (fun J23 hm hJ23 => ?_)
          · refine C.nx ?_
            refine C.ite rfl hm (fun hb27 hm => ?_) (fun hb27 hm => ?_)
            · refine C.seq ?_
              refine U.start ?_
              refine U.p T rfl (.none rfl) rfl rfl rfl ?_
              refine U.done ?_
              refine C.nx ?_
              refine C.ret ?_
              refine C.rt ?_
              exact C.fin T (rs' := [.v (.bool false)]) (H' := []) (nl' := 0) [] rfl rfl (.eq rfl) trivial rfl rfl rfl rfl hβ ⟨false, hm, rfl, rfl, rfl⟩
            · refine C.skip ?_
              refine C.nx ?_
              refine C.seq ?_
              refine C.seq ?_
              refine C.jn (fun (x28 : Bool) => [(7, .sl 1 eI other), (17, .v (.bool x1)), (18, .o 0), (118, .v (.bool x28))]) (fun (x28 : Bool) => [(0, .val (.os 1 eI x9.1))]) 1 hm (fun x28 hm => ?_) (fun J29 hm hJ29 => ?_)
              · refine C.nx ?_
                refine C.ite rfl hm (fun hb31 hm => ?_) (fun hb31 hm => ?_)
                · refine C.seq ?_
                  refine U.start ?_
                  refine U.ps 2 T rfl ?_
                  refine U.done ?_
                  refine C.nx ?_
                  refine C.ret ?_
                  refine C.rt ?_
                  exact C.fin T (rs' := [.v (.bool x1)]) (H' := []) (nl' := 0) [] rfl rfl (.eq rfl) trivial rfl rfl rfl rfl hβ ⟨x1, hm, rfl, rfl, rfl⟩
                · refine C.skip ?_
                  refine C.nx ?_
                  refine C.seq ?_
                  refine C.seq ?_
                  refine U.start ?_
                  refine U.ps 5 T rfl ?_
                  refine U.done ?_
                  refine C.nx ?_
                  refine C.ite rfl hm (fun hb32 hm => ?_) (fun hb32 hm => ?_)
                  · refine C.seq ?_
                    refine U.start ?_
                    refine U.p T rfl (.none rfl) rfl rfl rfl ?_
                    refine U.done ?_
                    refine C.nx ?_
                    refine C.ret ?_
                    refine C.rt ?_
                    exact C.fin T (rs' := [.v (.bool false)]) (H' := []) (nl' := 0) [] rfl rfl (.eq rfl) trivial rfl rfl rfl rfl hβ ⟨false, hm, rfl, rfl, rfl⟩
                  · refine C.skip ?_
                    refine C.nx ?_
                    refine C.seq ?_
                    refine C.seq ?_
                    refine U.start ?_
                    refine U.p T rfl (.none rfl) rfl rfl rfl ?_
                    refine U.done ?_
                    refine C.nx ?_
                    refine C.jn (fun (x33 : Unit) => [(17, .v (.bool x1))]) (fun (x33 : Unit) => []) 0 hm (fun x33 hm => ?_) (fun J34 hm hJ34 => ?_)
                    · refine C.nx ?_
                      refine C.seq ?_
                      refine U.start ?_
                      refine U.ps 2 T rfl ?_
                      refine U.done ?_
                      refine C.nx ?_
                      refine C.ret ?_
                      exact C.fin T (rs' := [.v (.bool x1)]) (H' := []) (nl' := 0) [] rfl rfl (.eq rfl) trivial rfl rfl rfl rfl hβ ⟨x1, hm, rfl, rfl, rfl⟩
                    · refine C.block ?_
                      refine St.wk (C.loop (fun (s35 : Int) => [(7, .sl 1 eI other), (17, .v (.bool x1)), (18, .o 0), (21, .v (.int .i64 s35))]) (fun (s35 : Int) => [(0, .val (.os 1 eI x9.1))]) hm (fun s35 Y36 hm => ?_)) (Wk.mk' [some 0] rfl rfl (.eqs rfl) ⟨⟨_, rfl, .val rfl⟩, trivial⟩ rfl)
                      refine C.seq ?_
                      refine C.seq ?_
                      refine U.start ?_
                      refine U.ps 4 T rfl ?_
                      refine U.done ?_
                      refine C.nx ?_
                      refine C.ite rfl hm (fun hb37 hm => ?_) (fun hb37 hm => ?_)
                      · refine C.skip ?_
                        refine C.nx ?_
                        refine C.seq ?_
                        refine C.block ?_
                        refine C.seq ?_
                        refine D.beg 9999 [0] [] mix rfl rfl (by kernel_rfl) (by repeat (first | exact NoPanicQ.body | refine NoPanicQ.th ?_ | refine NoPanicQ.blk ?_)) (fun hQ hS ws M' => ?_)
                        refine D.ps 2 [(0, []), (1, [])] rfl hQ hS T rfl rfl (by kernel_rfl) ?_
                        obtain ⟨x38, hx38, hm⟩ := hm
                        refine D.q (o := _) 2 [] hQ hS rfl (.none rfl) rfl rfl (by exact Rd.io T rfl rfl rfl rfl rfl rfl rfl hx38) rfl (by kernel_rfl) ?_
                        refine D.q (o := _) 3 [] hQ hS rfl (.none rfl) rfl rfl (by exact Rd.le T rfl rfl rfl (idx_some hx38).2.2 rfl rfl rfl) rfl (by kernel_rfl) ?_
                        refine D.ps 2 [(4, []), (5, [])] rfl hQ hS T rfl rfl (by kernel_rfl) ?_
                        obtain ⟨x39, hx39, hm⟩ := hm
                        refine D.q (o := _) 6 [] hQ hS rfl (.none rfl) rfl rfl (by exact Rd.ix T rfl rfl rfl rfl rfl rfl hx39) rfl (by kernel_rfl) ?_
                        refine D.ps 2 [(7, []), (8, [])] rfl hQ hS T rfl rfl (by kernel_rfl) ?_
                        refine D.done (by kernel_rfl) ?_
                        refine C.nx ?_
                        refine C.ite rfl hm (fun hb40 hm => ?_) (fun hb40 hm => ?_)
                        · refine C.seq ?_
                          refine C.jn (fun (x41 : Bool) => [(16, .v (.bool x41))]) (fun (x41 : Bool) => []) 0 hm (fun x41 hm => ?_) (fun J42 hm hJ42 => ?_)
                          · refine C.nx ?_
                            refine C.ret ?_
                            refine C.brt ?_
                            refine C.rt ?_
                            refine C.rt ?_
                            refine C.brt ?_
                            refine C.rt ?_
                            exact C.fin T (rs' := [.v (.bool x41)]) (H' := []) (nl' := 0) [] rfl rfl (.eq rfl) trivial rfl rfl rfl rfl hβ ⟨x41, hm, rfl, rfl, rfl⟩
                          · refine D.beg 9999 [0] [] mix rfl rfl (by kernel_rfl) (by repeat (first | exact NoPanicQ.body | refine NoPanicQ.th ?_ | refine NoPanicQ.blk ?_)) (fun hQ hS ws M' => ?_)
                            refine D.ps 2 [(0, []), (1, [])] rfl hQ hS T rfl rfl (by kernel_rfl) ?_
                            refine hm.cs (fun hb43 hm => ?_) (fun hb43 hm => ?_)
                            · refine D.q (o := _) 2 [] hQ hS rfl (.take 1 true 141 _ hb43 rfl rfl rfl) rfl rfl (by exact Rd.p T rfl) rfl (by kernel_rfl) ?_
                              refine D.q (o := _) 3 [] hQ hS rfl (.take 1 true 141 _ hb43 rfl rfl rfl) rfl rfl (by exact Rd.p T rfl) rfl (by kernel_rfl) ?_
                              refine D.q (o := _) 4 [] hQ hS rfl (.take 1 true 141 _ hb43 rfl rfl rfl) rfl rfl (by exact Rd.io T rfl rfl rfl rfl rfl rfl rfl hx38) rfl (by kernel_rfl) ?_
                              refine D.q (o := _) 5 [] hQ hS rfl (.take 1 true 141 _ hb43 rfl rfl rfl) rfl rfl (by exact Rd.le T rfl rfl rfl (idx_some hx38).2.2 rfl rfl rfl) rfl (by kernel_rfl) ?_
                              refine D.q (o := _) 6 [] hQ hS rfl (.take 1 true 141 _ hb43 rfl rfl rfl) rfl rfl (by exact Rd.p T rfl) rfl (by kernel_rfl) ?_
                              refine D.q (o := _) 7 [] hQ hS rfl (.take 1 true 141 _ hb43 rfl rfl rfl) rfl rfl (by exact Rd.p T rfl) rfl (by kernel_rfl) ?_
                              refine D.q (o := _) 8 [] hQ hS rfl (.take 1 true 141 _ hb43 rfl rfl rfl) rfl rfl (by exact Rd.ix T rfl rfl rfl rfl rfl rfl hx39) rfl (by kernel_rfl) ?_
                              refine D.q (o := _) 9 [] hQ hS rfl (.take 1 true 141 _ hb43 rfl rfl rfl) rfl rfl (by exact Rd.l T rfl rfl rfl) rfl (by kernel_rfl) ?_
                              refine D.q (o := _) 10 [] hQ hS rfl (.take 1 true 141 _ hb43 rfl rfl rfl) rfl rfl (by exact Rd.p T rfl) rfl (by kernel_rfl) ?_
                              refine D.q (o := _) 11 [] hQ hS rfl (.none rfl) rfl rfl (by exact Rd.pk rfl rfl hb43 rfl) rfl (by kernel_rfl) ?_
                              refine D.ps 1 [(12, [])] rfl hQ hS T rfl rfl (by kernel_rfl) ?_
                              refine D.done (by kernel_rfl) ?_
                              exact St.wk (hJ42 _ hm) (Wk.mk' [] rfl rfl (.eqs rfl) trivial rfl)
                            · refine D.sq (o := _) 2 [] hQ hS rfl (.skip 1 true 141 _ hb43 rfl rfl rfl) rfl rfl (by kernel_rfl) ?_
                              refine D.sq (o := _) 3 [] hQ hS rfl (.skip 1 true 141 _ hb43 rfl rfl rfl) rfl rfl (by kernel_rfl) ?_
                              refine D.sq (o := _) 4 [] hQ hS rfl (.skip 1 true 141 _ hb43 rfl rfl rfl) rfl rfl (by kernel_rfl) ?_
                              refine D.sq (o := _) 5 [] hQ hS rfl (.skip 1 true 141 _ hb43 rfl rfl rfl) rfl rfl (by kernel_rfl) ?_
                              refine D.sq (o := _) 6 [] hQ hS rfl (.skip 1 true 141 _ hb43 rfl rfl rfl) rfl rfl (by kernel_rfl) ?_
                              refine D.sq (o := _) 7 [] hQ hS rfl (.skip 1 true 141 _ hb43 rfl rfl rfl) rfl rfl (by kernel_rfl) ?_
                              refine D.sq (o := _) 8 [] hQ hS rfl (.skip 1 true 141 _ hb43 rfl rfl rfl) rfl rfl (by kernel_rfl) ?_
                              refine D.sq (o := _) 9 [] hQ hS rfl (.skip 1 true 141 _ hb43 rfl rfl rfl) rfl rfl (by kernel_rfl) ?_
                              refine D.sq (o := _) 10 [] hQ hS rfl (.skip 1 true 141 _ hb43 rfl rfl rfl) rfl rfl (by kernel_rfl) ?_
                              refine D.q (o := _) 11 [] hQ hS rfl (.none rfl) rfl rfl (by exact Rd.pk' rfl rfl hb43 rfl) rfl (by kernel_rfl) ?_
                              refine D.ps 1 [(12, [])] rfl hQ hS T rfl rfl (by kernel_rfl) ?_
                              refine D.done (by kernel_rfl) ?_
                              exact St.wk (hJ42 _ hm) (Wk.mk' [] rfl rfl (.eqs rfl) trivial rfl)
                        · refine C.skip ?_
                          refine C.bnx ?_
                          refine C.nx ?_
                          refine U.start ?_
                          refine U.ps 3 T rfl ?_
                          refine U.done ?_
                          refine C.nx ?_
                          exact St.wk (C.next hm) (Wk.mk' [some 0] rfl rfl (.eqs rfl) ⟨⟨_, rfl, .val rfl⟩, trivial⟩ rfl)
                      · refine C.exit ?_
                        refine C.ex ?_
                        refine C.ex ?_
                        refine C.bex ?_
                        exact St.wk (hJ34 _ hm) (Wk.mk' [] rfl rfl (.eqs rfl) trivial rfl)
              · refine U.start ?_
                refine U.ps 3 T rfl ?_
                refine hm.cs (fun hb30 hm => ?_) (fun hb30 hm => ?_)
                · refine U.skip (o := _) rfl (.skip 2 false 112 _ hb30 rfl rfl rfl) rfl rfl ?_
                  refine U.sks 4 2 false 112 hb30 rfl rfl rfl ?_
                  refine U.r (o := _) rfl (.none rfl) rfl rfl (by exact Rd.pk rfl rfl hb30 rfl) ?_
                  refine U.done ?_
                  exact St.wk (hJ29 _ hm) (Wk.mk' [some 0] rfl rfl (.eqs rfl) ⟨⟨_, rfl, .val rfl⟩, trivial⟩ rfl)
                · refine U.p T rfl (.take 2 false 112 _ hb30 rfl rfl rfl) rfl rfl rfl ?_
                  refine U.pg 4 2 false 112 hb30 T rfl rfl rfl rfl ?_
                  refine U.r (o := _) rfl (.none rfl) rfl rfl (by exact Rd.pk' rfl rfl hb30 rfl) ?_
                  refine U.done ?_
                  exact St.wk (hJ29 _ hm) (Wk.mk' [some 0] rfl rfl (.eqs rfl) ⟨⟨_, rfl, .val rfl⟩, trivial⟩ rfl)
          · refine U.start ?_
            refine U.ps 3 T rfl ?_
            refine hm.cs (fun hb24 hm => ?_) (fun hb24 hm => ?_)
            · refine U.skip (o := _) rfl (.skip 2 false 93 _ hb24 rfl rfl rfl) rfl rfl ?_
              refine U.sks 3 2 false 93 hb24 rfl rfl rfl ?_
              refine U.r (o := _) rfl (.none rfl) rfl rfl (by exact Rd.pk rfl rfl hb24 rfl) ?_
              refine U.p T rfl (.none rfl) rfl rfl rfl ?_
              refine U.sks 9 8 false 99 rfl rfl rfl rfl ?_
              refine U.r (o := _) rfl (.none rfl) rfl rfl (by exact Rd.pk rfl rfl rfl rfl) ?_
              refine U.done ?_
              exact St.wk (hJ23 _ hm) (Wk.mk' [some 1] rfl rfl (.eqs rfl) ⟨⟨_, rfl, .val rfl⟩, trivial⟩ rfl)
            · refine U.p T rfl (.take 2 false 93 _ hb24 rfl rfl rfl) rfl rfl rfl ?_
              refine U.pg 3 2 false 93 hb24 T rfl rfl rfl rfl ?_
              refine U.r (o := _) rfl (.none rfl) rfl rfl (by exact Rd.pk' rfl rfl hb24 rfl) ?_
              refine U.p T rfl (.none rfl) rfl rfl rfl ?_
              refine hm.cs (fun hb25 hm => ?_) (fun hb25 hm => ?_)
              · refine U.skip (o := _) rfl (.skip 8 false 99 _ hb25 rfl rfl rfl) rfl rfl ?_
                refine U.sks 8 8 false 99 hb25 rfl rfl rfl ?_
                refine U.r (o := _) rfl (.none rfl) rfl rfl (by exact Rd.pk rfl rfl hb25 rfl) ?_
                refine U.done ?_
                exact St.wk (hJ23 _ hm) (Wk.mk' [some 1] rfl rfl (.eqs rfl) ⟨⟨_, rfl, .val rfl⟩, trivial⟩ rfl)
              · refine U.l T rfl (.take 8 false 99 _ hb25 rfl rfl rfl) rfl rfl rfl rfl rfl ?_
                refine U.pg 6 8 false 99 hb25 T rfl rfl rfl rfl ?_
                refine U.e (o := _) rfl (.take 8 false 99 _ hb25 rfl rfl rfl) (by exact Eff.c [] (v := true) (T_route_Check s_1 from_1 to_1 tick taken avoid x9.1 _ hm) en10 rfl rfl rfl (.cons (.eq rfl) (.cons (.eq rfl) (.cons (.eq rfl) (.cons (.eq rfl) (.cons (.eq rfl) (.cons (.eq rfl) (.cons (.fz rfl rfl rfl (.os fun _ => .cons (.ro rfl) .nil)) .nil))))))) trivial rfl rfl rfl rfl rfl rfl (fun _ _ => ⟨(.v _), trivial⟩) (.inr ⟨rfl, rfl⟩) (fun _ => rfl) (fun _ => rfl) rfl) (fun x26' hm => ?_)
                obtain ⟨x26⟩ := x26'
                refine U.p T rfl (.take 8 false 99 _ hb25 rfl rfl rfl) rfl rfl rfl ?_
                refine U.r (o := _) rfl (.none rfl) rfl rfl (by exact Rd.pk' rfl rfl hb25 rfl) ?_
                refine U.done ?_
                exact St.wk (hJ23 _ hm) (Wk.mk' [some 1] rfl rfl (.eqs rfl) ⟨⟨_, rfl, .val rfl⟩, trivial⟩ rfl)
  · refine U.start ?_
    refine U.ps 3 T rfl ?_
    refine U.e (o := _) rfl (.none rfl) (by exact Eff.c [] (v := true) (T_taquinlaw23_fair s_1 taken avoid _ hm) en8 rfl rfl rfl (.eq rfl) trivial rfl rfl rfl rfl rfl rfl (fun _ _ => ⟨(.v _), trivial⟩) (.inr ⟨rfl, rfl⟩) (fun _ => rfl) (fun _ => rfl) rfl) (fun x4' hm => ?_)
    obtain ⟨x4⟩ := x4'
    refine U.ps 2 T rfl ?_
    refine hm.cs (fun hb5 hm => ?_) (fun hb5 hm => ?_)
    · refine U.p T rfl (.take 5 false 28 _ (ntF hb5) rfl rfl rfl) rfl rfl rfl ?_
      refine U.p T rfl (.take 5 false 28 _ (ntF hb5) rfl rfl rfl) rfl rfl rfl ?_
      refine U.r (o := _) rfl (.none rfl) rfl rfl (by exact Rd.pk' rfl rfl (ntF hb5) rfl) ?_
      refine U.p T rfl (.none rfl) rfl rfl rfl ?_
      refine hm.cs (fun hb6 hm => ?_) (fun hb6 hm => ?_)
      · refine U.skip (o := _) rfl (.skip 9 false 32 _ hb6 rfl rfl rfl) rfl rfl ?_
        refine U.skip (o := _) rfl (.skip 9 false 32 _ hb6 rfl rfl rfl) rfl rfl ?_
        refine U.r (o := _) rfl (.none rfl) rfl rfl (by exact Rd.pk rfl rfl hb6 rfl) ?_
        refine U.p T rfl (.none rfl) rfl rfl rfl ?_
        refine U.sks 3 13 false 36 rfl rfl rfl rfl ?_
        refine U.r (o := _) rfl (.none rfl) rfl rfl (by exact Rd.pk rfl rfl rfl rfl) ?_
        refine U.done ?_
        exact St.wk (hJ3 _ hm) (Wk.mk' [some 0] rfl rfl (.eqs rfl) ⟨⟨_, rfl, .box rfl (.eq rfl)⟩, trivial⟩ rfl)
      · refine U.p T rfl (.take 9 false 32 _ hb6 rfl rfl rfl) rfl rfl rfl ?_
        refine U.p T rfl (.take 9 false 32 _ hb6 rfl rfl rfl) rfl rfl rfl ?_
        refine U.r (o := _) rfl (.none rfl) rfl rfl (by exact Rd.pk' rfl rfl hb6 rfl) ?_
        refine U.p T rfl (.none rfl) rfl rfl rfl ?_
        refine hm.cs (fun hb7 hm => ?_) (fun hb7 hm => ?_)
        · refine U.skip (o := _) rfl (.skip 13 false 36 _ hb7 rfl rfl rfl) rfl rfl ?_
          refine U.sks 2 13 false 36 hb7 rfl rfl rfl ?_
          refine U.r (o := _) rfl (.none rfl) rfl rfl (by exact Rd.pk rfl rfl hb7 rfl) ?_
          refine U.done ?_
          exact St.wk (hJ3 _ hm) (Wk.mk' [some 0] rfl rfl (.eqs rfl) ⟨⟨_, rfl, .box rfl (.eq rfl)⟩, trivial⟩ rfl)
        · refine U.p T rfl (.take 13 false 36 _ hb7 rfl rfl rfl) rfl rfl rfl ?_
          refine U.pg 2 13 false 36 hb7 T rfl rfl rfl rfl ?_
          refine U.r (o := _) rfl (.none rfl) rfl rfl (by exact Rd.pk' rfl rfl hb7 rfl) ?_
          refine U.done ?_
          exact St.wk (hJ3 _ hm) (Wk.mk' [some 0] rfl rfl (.eqs rfl) ⟨⟨_, rfl, .box rfl (.eq rfl)⟩, trivial⟩ rfl)
    · refine U.skip (o := _) rfl (.skip 5 false 28 _ (ntT hb5) rfl rfl rfl) rfl rfl ?_
      refine U.skip (o := _) rfl (.skip 5 false 28 _ (ntT hb5) rfl rfl rfl) rfl rfl ?_
      refine U.r (o := _) rfl (.none rfl) rfl rfl (by exact Rd.pk rfl rfl (ntT hb5) rfl) ?_
      refine U.p T rfl (.none rfl) rfl rfl rfl ?_
      refine U.sks 2 9 false 32 rfl rfl rfl rfl ?_
      refine U.r (o := _) rfl (.none rfl) rfl rfl (by exact Rd.pk rfl rfl rfl rfl) ?_
      refine U.p T rfl (.none rfl) rfl rfl rfl ?_
      refine U.sks 3 13 false 36 rfl rfl rfl rfl ?_
      refine U.r (o := _) rfl (.none rfl) rfl rfl (by exact Rd.pk rfl rfl rfl rfl) ?_
      refine U.done ?_
      exact St.wk (hJ3 _ hm) (Wk.mk' [some 0] rfl rfl (.eqs rfl) ⟨⟨_, rfl, .box rfl (.eq rfl)⟩, trivial⟩ rfl)
end Go.Proofs.Ytliikemkgfjpaaa
