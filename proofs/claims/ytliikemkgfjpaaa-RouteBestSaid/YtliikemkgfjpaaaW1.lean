/- The walks: each Go function does what its verification condition says (written by a program of the prover). -/
import Derived.Test.YtliikemkgfjpaaaW0
import Derived.KernelRfl
set_option maxRecDepth 100000
set_option maxHeartbeats 8000000
set_option linter.unusedVariables false
namespace Go.Proofs.Ytliikemkgfjpaaa
open Go Go.Taq
theorem T_taquinref11_Few (s_1 : ApiSite) (cells : Int) (most : Int) (post : Bool → Prop) (hm : V_taquinref11_Few s_1 cells most post) :
    Tr Try.prog 19 [.agg [.v (.int .i64 s_1.Floor.W), .v (.int .i64 s_1.Floor.H), .v (.int .i64 s_1.Floor.D), .sl 1 eI s_1.Floor.Kind, .sl 1 eI s_1.Floor.Out, .sl 5 eApiZone s_1.Zones, .sl 2 eApiApart s_1.Aparts, .sl 2 eApiShelf s_1.Shelves, .sl 2 eApiStart s_1.Robots], .v (.int .i64 cells), .v (.int .i64 most)] [] 0 (fun A H' k => ∃ y, post y ∧ A = (.v (.bool y)) ∧ H' = [] ∧ k = 0) := by
  refine Tr.intro (n := 133) Try.func19 rfl Try.ntmps19 rfl (fun w0 ok F β hβ => ?_)
  unfold V_taquinref11_Few at hm
  refine C.seq ?_
  refine U.start ?_
  refine U.e1 (o := _) rfl (.none rfl) (by exact Eff1.box rfl rfl rfl rfl rfl) ?_
  refine U.p T rfl (.none rfl) rfl rfl rfl ?_
  refine U.done ?_
  refine C.nx ?_
  refine C.seq ?_
  refine C.seq ?_
  refine U.start ?_
  refine U.p T rfl (.none rfl) rfl rfl rfl ?_
  refine U.done ?_
  refine C.nx ?_
  refine C.jn (fun (x1 : Unit) => [(1, .v (.int .i64 cells)), (2, .v (.int .i64 most)), (3, .p 0 0)]) (fun (x1 : Unit) => [(0, .box [.v (.int .i64 s_1.Floor.W), .v (.int .i64 s_1.Floor.H), .v (.int .i64 s_1.Floor.D), .sl 1 eI s_1.Floor.Kind, .sl 1 eI s_1.Floor.Out, .sl 5 eApiZone s_1.Zones, .sl 2 eApiApart s_1.Aparts, .sl 2 eApiShelf s_1.Shelves, .sl 2 eApiStart s_1.Robots])]) 1 hm (fun x1 hm => ?_) (fun J2 hm hJ2 => ?_)
  · refine C.nx ?_
    refine C.seq ?_
    refine C.seq ?_
    refine U.start ?_
    refine U.p T rfl (.none rfl) rfl rfl rfl ?_
    refine U.done ?_
    refine C.nx ?_
    refine C.jn (fun (x15 : Unit) => [(1, .v (.int .i64 cells)), (2, .v (.int .i64 most)), (3, .p 0 0)]) (fun (x15 : Unit) => [(0, .box [.v (.int .i64 s_1.Floor.W), .v (.int .i64 s_1.Floor.H), .v (.int .i64 s_1.Floor.D), .sl 1 eI s_1.Floor.Kind, .sl 1 eI s_1.Floor.Out, .sl 5 eApiZone s_1.Zones, .sl 2 eApiApart s_1.Aparts, .sl 2 eApiShelf s_1.Shelves, .sl 2 eApiStart s_1.Robots])]) 1 hm (fun x15 hm => ?_) (fun J16 hm hJ16 => ?_)
    · refine C.nx ?_
      refine C.seq ?_
      refine C.seq ?_
      refine U.start ?_
      refine U.p T rfl (.none rfl) rfl rfl rfl ?_
      refine U.done ?_
      refine C.nx ?_
      refine C.jn (fun (x28 : Unit) => [(1, .v (.int .i64 cells)), (2, .v (.int .i64 most)), (3, .p 0 0)]) (fun (x28 : Unit) => [(0, .box [.v (.int .i64 s_1.Floor.W), .v (.int .i64 s_1.Floor.H), .v (.int .i64 s_1.Floor.D), .sl 1 eI s_1.Floor.Kind, .sl 1 eI s_1.Floor.Out, .sl 5 eApiZone s_1.Zones, .sl 2 eApiApart s_1.Aparts, .sl 2 eApiShelf s_1.Shelves, .sl 2 eApiStart s_1.Robots])]) 1 hm (fun x28 hm => ?_) (fun J29 hm hJ29 => ?_)
      · refine C.nx ?_
        refine C.seq ?_
        refine C.jn (fun (x38 : Bool) => [(6, .v (.bool x38))]) (fun (x38 : Bool) => []) 0 hm (fun x38 hm => ?_) (fun J39 hm hJ39 => ?_)
        · refine C.nx ?_
          refine C.ret ?_
          exact C.fin T (rs' := [.v (.bool x38)]) (H' := []) (nl' := 0) [] rfl rfl (.eq rfl) trivial rfl rfl rfl rfl hβ ⟨x38, hm, rfl, rfl, rfl⟩
        · refine U.start ?_
          refine U.ps 3 T rfl ?_
          refine U.e (o := _) rfl (.none rfl) (by exact Eff.c [] (v := true) (T_taquinref07_Few s_1.Floor cells _ hm) en38 rfl rfl rfl (.eq rfl) trivial rfl rfl rfl rfl rfl rfl (fun _ _ => ⟨(.v _), trivial⟩) (.inr ⟨rfl, rfl⟩) (fun _ => rfl) (fun _ => rfl) rfl) (fun x40' hm => ?_)
          obtain ⟨x40⟩ := x40'
          refine U.p T rfl (.none rfl) rfl rfl rfl ?_
          refine hm.cs (fun hb41 hm => ?_) (fun hb41 hm => ?_)
          · refine U.p T rfl (.take 4 true 105 _ hb41 rfl rfl rfl) rfl rfl rfl ?_
            refine U.pg 4 4 true 105 hb41 T rfl rfl rfl rfl ?_
            refine U.r (o := _) rfl (.none rfl) rfl rfl (by exact Rd.pk rfl rfl hb41 rfl) ?_
            refine U.p T rfl (.none rfl) rfl rfl rfl ?_
            refine hm.cs (fun hb42 hm => ?_) (fun hb42 hm => ?_)
            · refine U.p T rfl (.take 11 true 112 _ hb42 rfl rfl rfl) rfl rfl rfl ?_
              refine U.pg 4 11 true 112 hb42 T rfl rfl rfl rfl ?_
              refine U.r (o := _) rfl (.none rfl) rfl rfl (by exact Rd.pk rfl rfl hb42 rfl) ?_
              refine U.p T rfl (.none rfl) rfl rfl rfl ?_
              refine hm.cs (fun hb43 hm => ?_) (fun hb43 hm => ?_)
              · refine U.p T rfl (.take 18 true 119 _ hb43 rfl rfl rfl) rfl rfl rfl ?_
                refine U.pg 4 18 true 119 hb43 T rfl rfl rfl rfl ?_
                refine U.r (o := _) rfl (.none rfl) rfl rfl (by exact Rd.pk rfl rfl hb43 rfl) ?_
                refine U.p T rfl (.none rfl) rfl rfl rfl ?_
                refine hm.cs (fun hb44 hm => ?_) (fun hb44 hm => ?_)
                · refine U.p T rfl (.take 25 true 126 _ hb44 rfl rfl rfl) rfl rfl rfl ?_
                  refine U.pg 4 25 true 126 hb44 T rfl rfl rfl rfl ?_
                  refine U.r (o := _) rfl (.none rfl) rfl rfl (by exact Rd.pk rfl rfl hb44 rfl) ?_
                  refine U.p T rfl (.none rfl) rfl rfl rfl ?_
                  refine U.done ?_
                  exact St.wk (hJ39 _ hm) (Wk.mk' [] rfl rfl (.eqs rfl) trivial rfl)
                · refine U.skip (o := _) rfl (.skip 25 true 126 _ hb44 rfl rfl rfl) rfl rfl ?_
                  refine U.sks 4 25 true 126 hb44 rfl rfl rfl ?_
                  refine U.r (o := _) rfl (.none rfl) rfl rfl (by exact Rd.pk' rfl rfl hb44 rfl) ?_
                  refine U.p T rfl (.none rfl) rfl rfl rfl ?_
                  refine U.done ?_
                  exact St.wk (hJ39 _ hm) (Wk.mk' [] rfl rfl (.eqs rfl) trivial rfl)
              · refine U.skip (o := _) rfl (.skip 18 true 119 _ hb43 rfl rfl rfl) rfl rfl ?_
                refine U.sks 4 18 true 119 hb43 rfl rfl rfl ?_
                refine U.r (o := _) rfl (.none rfl) rfl rfl (by exact Rd.pk' rfl rfl hb43 rfl) ?_
                refine U.p T rfl (.none rfl) rfl rfl rfl ?_
                refine U.sks 5 25 true 126 rfl rfl rfl rfl ?_
                refine U.r (o := _) rfl (.none rfl) rfl rfl (by exact Rd.pk' rfl rfl rfl rfl) ?_
                refine U.p T rfl (.none rfl) rfl rfl rfl ?_
                refine U.done ?_
                exact St.wk (hJ39 _ hm) (Wk.mk' [] rfl rfl (.eqs rfl) trivial rfl)
            · refine U.skip (o := _) rfl (.skip 11 true 112 _ hb42 rfl rfl rfl) rfl rfl ?_
              refine U.sks 4 11 true 112 hb42 rfl rfl rfl ?_
              refine U.r (o := _) rfl (.none rfl) rfl rfl (by exact Rd.pk' rfl rfl hb42 rfl) ?_
              refine U.p T rfl (.none rfl) rfl rfl rfl ?_
              refine U.sks 5 18 true 119 rfl rfl rfl rfl ?_
              refine U.r (o := _) rfl (.none rfl) rfl rfl (by exact Rd.pk' rfl rfl rfl rfl) ?_
              refine U.p T rfl (.none rfl) rfl rfl rfl ?_
              refine U.sks 5 25 true 126 rfl rfl rfl rfl ?_
              refine U.r (o := _) rfl (.none rfl) rfl rfl (by exact Rd.pk' rfl rfl rfl rfl) ?_
              refine U.p T rfl (.none rfl) rfl rfl rfl ?_
              refine U.done ?_
              exact St.wk (hJ39 _ hm) (Wk.mk' [] rfl rfl (.eqs rfl) trivial rfl)
          · refine U.skip (o := _) rfl (.skip 4 true 105 _ hb41 rfl rfl rfl) rfl rfl ?_
            refine U.sks 4 4 true 105 hb41 rfl rfl rfl ?_
            refine U.r (o := _) rfl (.none rfl) rfl rfl (by exact Rd.pk' rfl rfl hb41 rfl) ?_
            refine U.p T rfl (.none rfl) rfl rfl rfl ?_
            refine U.sks 5 11 true 112 rfl rfl rfl rfl ?_
            refine U.r (o := _) rfl (.none rfl) rfl rfl (by exact Rd.pk' rfl rfl rfl rfl) ?_
            refine U.p T rfl (.none rfl) rfl rfl rfl ?_
            refine U.sks 5 18 true 119 rfl rfl rfl rfl ?_
            refine U.r (o := _) rfl (.none rfl) rfl rfl (by exact Rd.pk' rfl rfl rfl rfl) ?_
            refine U.p T rfl (.none rfl) rfl rfl rfl ?_
            refine U.sks 5 25 true 126 rfl rfl rfl rfl ?_
            refine U.r (o := _) rfl (.none rfl) rfl rfl (by exact Rd.pk' rfl rfl rfl rfl) ?_
            refine U.p T rfl (.none rfl) rfl rfl rfl ?_
            refine U.done ?_
            exact St.wk (hJ39 _ hm) (Wk.mk' [] rfl rfl (.eqs rfl) trivial rfl)
      · refine C.block ?_
        refine St.wk (C.loop (fun (s30 : Int) => [(1, .v (.int .i64 cells)), (2, .v (.int .i64 most)), (3, .p 0 0), (9, .v (.int .i64 s30))]) (fun (s30 : Int) => [(0, .box [.v (.int .i64 s_1.Floor.W), .v (.int .i64 s_1.Floor.H), .v (.int .i64 s_1.Floor.D), .sl 1 eI s_1.Floor.Kind, .sl 1 eI s_1.Floor.Out, .sl 5 eApiZone s_1.Zones, .sl 2 eApiApart s_1.Aparts, .sl 2 eApiShelf s_1.Shelves, .sl 2 eApiStart s_1.Robots])]) hm (fun s30 Y31 hm => ?_)) (Wk.mk' [some 0] rfl rfl (.eqs rfl) ⟨⟨_, rfl, .box rfl (.eq rfl)⟩, trivial⟩ rfl)
        refine C.seq ?_
        refine C.seq ?_
        refine C.jn (fun (x32 : Bool) => [(1, .v (.int .i64 cells)), (2, .v (.int .i64 most)), (3, .p 0 0), (9, .v (.int .i64 s30)), (90, .v (.bool x32))]) (fun (x32 : Bool) => [(0, .box [.v (.int .i64 s_1.Floor.W), .v (.int .i64 s_1.Floor.H), .v (.int .i64 s_1.Floor.D), .sl 1 eI s_1.Floor.Kind, .sl 1 eI s_1.Floor.Out, .sl 5 eApiZone s_1.Zones, .sl 2 eApiApart s_1.Aparts, .sl 2 eApiShelf s_1.Shelves, .sl 2 eApiStart s_1.Robots])]) 1 hm (fun x32 hm => ?_) (fun J33 hm hJ33 => ?_)
        · refine C.nx ?_
          refine C.ite rfl hm (fun hb35 hm => ?_) (fun hb35 hm => ?_)
          · refine C.skip ?_
            refine C.nx ?_
            refine C.seq ?_
            refine C.block ?_
            refine C.seq ?_
            refine U.start ?_
            refine U.ps 3 T rfl ?_
            obtain ⟨x36, hx36, hm⟩ := hm
            refine U.r (o := _) rfl (.none rfl) rfl rfl (by exact Rd.ix T rfl rfl rfl rfl rfl rfl hx36) ?_
            refine U.ps 4 T rfl ?_
            refine U.done ?_
            refine C.nx ?_
            refine C.ite rfl hm (fun hb37 hm => ?_) (fun hb37 hm => ?_)
            · refine C.seq ?_
              refine U.start ?_
              refine U.p T rfl (.none rfl) rfl rfl rfl ?_
              refine U.done ?_
              refine C.nx ?_
              refine C.ret ?_
              refine C.brt ?_
              refine C.rt ?_
              refine C.rt ?_
              refine C.brt ?_
              refine C.rt ?_
              exact C.fin T (rs' := [.v (.bool false)]) (H' := []) (nl' := 0) [] rfl rfl (.eq rfl) trivial rfl rfl rfl rfl hβ ⟨false, hm, rfl, rfl, rfl⟩
            · refine C.skip ?_
              refine C.bnx ?_
              refine C.nx ?_
              refine U.start ?_
              refine U.ps 3 T rfl ?_
              refine U.done ?_
              refine C.nx ?_
              exact St.wk (C.next hm) (Wk.mk' [some 0] rfl rfl (.eqs rfl) ⟨⟨_, rfl, .box rfl (.eq rfl)⟩, trivial⟩ rfl)
          · refine C.exit ?_
            refine C.ex ?_
            refine C.ex ?_
            refine C.bex ?_
            exact St.wk (hJ29 _ hm) (Wk.mk' [some 0] rfl rfl (.eqs rfl) ⟨⟨_, rfl, .box rfl (.eq rfl)⟩, trivial⟩ rfl)
        · refine U.start ?_
          refine U.ps 6 T rfl ?_
          refine hm.cs (fun hb34 hm => ?_) (fun hb34 hm => ?_)
          · refine U.p T rfl (.take 5 true 86 _ hb34 rfl rfl rfl) rfl rfl rfl ?_
            refine U.pg 2 5 true 86 hb34 T rfl rfl rfl rfl ?_
            refine U.r (o := _) rfl (.none rfl) rfl rfl (by exact Rd.pk rfl rfl hb34 rfl) ?_
            refine U.done ?_
            exact St.wk (hJ33 _ hm) (Wk.mk' [some 0] rfl rfl (.eqs rfl) ⟨⟨_, rfl, .box rfl (.eq rfl)⟩, trivial⟩ rfl)
          · refine U.skip (o := _) rfl (.skip 5 true 86 _ hb34 rfl rfl rfl) rfl rfl ?_
            refine U.sks 2 5 true 86 hb34 rfl rfl rfl ?_
            refine U.r (o := _) rfl (.none rfl) rfl rfl (by exact Rd.pk' rfl rfl hb34 rfl) ?_
            refine U.done ?_
            exact St.wk (hJ33 _ hm) (Wk.mk' [some 0] rfl rfl (.eqs rfl) ⟨⟨_, rfl, .box rfl (.eq rfl)⟩, trivial⟩ rfl)
    · refine C.block ?_
      refine St.wk (C.loop (fun (s17 : Int) => [(1, .v (.int .i64 cells)), (2, .v (.int .i64 most)), (3, .p 0 0), (8, .v (.int .i64 s17))]) (fun (s17 : Int) => [(0, .box [.v (.int .i64 s_1.Floor.W), .v (.int .i64 s_1.Floor.H), .v (.int .i64 s_1.Floor.D), .sl 1 eI s_1.Floor.Kind, .sl 1 eI s_1.Floor.Out, .sl 5 eApiZone s_1.Zones, .sl 2 eApiApart s_1.Aparts, .sl 2 eApiShelf s_1.Shelves, .sl 2 eApiStart s_1.Robots])]) hm (fun s17 Y18 hm => ?_)) (Wk.mk' [some 0] rfl rfl (.eqs rfl) ⟨⟨_, rfl, .box rfl (.eq rfl)⟩, trivial⟩ rfl)
      refine C.seq ?_
      refine C.seq ?_
      refine C.jn (fun (x19 : Bool) => [(1, .v (.int .i64 cells)), (2, .v (.int .i64 most)), (3, .p 0 0), (8, .v (.int .i64 s17)), (60, .v (.bool x19))]) (fun (x19 : Bool) => [(0, .box [.v (.int .i64 s_1.Floor.W), .v (.int .i64 s_1.Floor.H), .v (.int .i64 s_1.Floor.D), .sl 1 eI s_1.Floor.Kind, .sl 1 eI s_1.Floor.Out, .sl 5 eApiZone s_1.Zones, .sl 2 eApiApart s_1.Aparts, .sl 2 eApiShelf s_1.Shelves, .sl 2 eApiStart s_1.Robots])]) 1 hm (fun x19 hm => ?_) (fun J20 hm hJ20 => ?_)
      · refine C.nx ?_
        refine C.ite rfl hm (fun hb22 hm => ?_) (fun hb22 hm => ?_)
        · refine C.skip ?_
          refine C.nx ?_
          refine C.seq ?_
          refine C.block ?_
          refine C.seq ?_
          refine C.jn (fun (x23 : Bool) => [(1, .v (.int .i64 cells)), (2, .v (.int .i64 most)), (3, .p 0 0), (8, .v (.int .i64 s17)), (80, .v (.bool x23))]) (fun (x23 : Bool) => [(0, .box [.v (.int .i64 s_1.Floor.W), .v (.int .i64 s_1.Floor.H), .v (.int .i64 s_1.Floor.D), .sl 1 eI s_1.Floor.Kind, .sl 1 eI s_1.Floor.Out, .sl 5 eApiZone s_1.Zones, .sl 2 eApiApart s_1.Aparts, .sl 2 eApiShelf s_1.Shelves, .sl 2 eApiStart s_1.Robots])]) 1 hm (fun x23 hm => ?_) (fun J24 hm hJ24 => ?_)
          · refine C.nx ?_
            refine C.ite rfl hm (fun hb27 hm => ?_) (fun hb27 hm => ?_)
            · refine C.seq ?_
              refine U.start ?_
              refine U.p T rfl (.none rfl) rfl rfl rfl ?_
              refine U.done ?_
              refine C.nx ?_
              refine C.ret ?_
              refine C.brt ?_
              refine C.rt ?_
              refine C.rt ?_
              refine C.brt ?_
              refine C.rt ?_
              exact C.fin T (rs' := [.v (.bool false)]) (H' := []) (nl' := 0) [] rfl rfl (.eq rfl) trivial rfl rfl rfl rfl hβ ⟨false, hm, rfl, rfl, rfl⟩
            · refine C.skip ?_
              refine C.bnx ?_
              refine C.nx ?_
              refine U.start ?_
              refine U.ps 3 T rfl ?_
              refine U.done ?_
              refine C.nx ?_
              exact St.wk (C.next hm) (Wk.mk' [some 0] rfl rfl (.eqs rfl) ⟨⟨_, rfl, .box rfl (.eq rfl)⟩, trivial⟩ rfl)
          · refine U.start ?_
            refine U.ps 3 T rfl ?_
            obtain ⟨x25, hx25, hm⟩ := hm
            refine U.r (o := _) rfl (.none rfl) rfl rfl (by exact Rd.ix T rfl rfl rfl rfl rfl rfl hx25) ?_
            refine U.ps 5 T rfl ?_
            refine hm.cs (fun hb26 hm => ?_) (fun hb26 hm => ?_)
            · refine U.skip (o := _) rfl (.skip 8 false 71 _ hb26 rfl rfl rfl) rfl rfl ?_
              refine U.sks 7 8 false 71 hb26 rfl rfl rfl ?_
              refine U.r (o := _) rfl (.none rfl) rfl rfl (by exact Rd.pk rfl rfl hb26 rfl) ?_
              refine U.done ?_
              exact St.wk (hJ24 _ hm) (Wk.mk' [some 0] rfl rfl (.eqs rfl) ⟨⟨_, rfl, .box rfl (.eq rfl)⟩, trivial⟩ rfl)
            · refine U.p T rfl (.take 8 false 71 _ hb26 rfl rfl rfl) rfl rfl rfl ?_
              refine U.pg 2 8 false 71 hb26 T rfl rfl rfl rfl ?_
              refine U.r (o := _) rfl (.take 8 false 71 _ hb26 rfl rfl rfl) rfl rfl (by exact Rd.ix T rfl rfl rfl rfl rfl rfl hx25) ?_
              refine U.pg 4 8 false 71 hb26 T rfl rfl rfl rfl ?_
              refine U.r (o := _) rfl (.none rfl) rfl rfl (by exact Rd.pk' rfl rfl hb26 rfl) ?_
              refine U.done ?_
              exact St.wk (hJ24 _ hm) (Wk.mk' [some 0] rfl rfl (.eqs rfl) ⟨⟨_, rfl, .box rfl (.eq rfl)⟩, trivial⟩ rfl)
        · refine C.exit ?_
          refine C.ex ?_
          refine C.ex ?_
          refine C.bex ?_
          exact St.wk (hJ16 _ hm) (Wk.mk' [some 0] rfl rfl (.eqs rfl) ⟨⟨_, rfl, .box rfl (.eq rfl)⟩, trivial⟩ rfl)
      · refine U.start ?_
        refine U.ps 6 T rfl ?_
        refine hm.cs (fun hb21 hm => ?_) (fun hb21 hm => ?_)
        · refine U.p T rfl (.take 5 true 56 _ hb21 rfl rfl rfl) rfl rfl rfl ?_
          refine U.pg 2 5 true 56 hb21 T rfl rfl rfl rfl ?_
          refine U.r (o := _) rfl (.none rfl) rfl rfl (by exact Rd.pk rfl rfl hb21 rfl) ?_
          refine U.done ?_
          exact St.wk (hJ20 _ hm) (Wk.mk' [some 0] rfl rfl (.eqs rfl) ⟨⟨_, rfl, .box rfl (.eq rfl)⟩, trivial⟩ rfl)
        · refine U.skip (o := _) rfl (.skip 5 true 56 _ hb21 rfl rfl rfl) rfl rfl ?_
          refine U.sks 2 5 true 56 hb21 rfl rfl rfl ?_
          refine U.r (o := _) rfl (.none rfl) rfl rfl (by exact Rd.pk' rfl rfl hb21 rfl) ?_
          refine U.done ?_
          exact St.wk (hJ20 _ hm) (Wk.mk' [some 0] rfl rfl (.eqs rfl) ⟨⟨_, rfl, .box rfl (.eq rfl)⟩, trivial⟩ rfl)
  · refine C.block ?_
    refine St.wk (C.loop (fun (s3 : Int) => [(1, .v (.int .i64 cells)), (2, .v (.int .i64 most)), (3, .p 0 0), (7, .v (.int .i64 s3))]) (fun (s3 : Int) => [(0, .box [.v (.int .i64 s_1.Floor.W), .v (.int .i64 s_1.Floor.H), .v (.int .i64 s_1.Floor.D), .sl 1 eI s_1.Floor.Kind, .sl 1 eI s_1.Floor.Out, .sl 5 eApiZone s_1.Zones, .sl 2 eApiApart s_1.Aparts, .sl 2 eApiShelf s_1.Shelves, .sl 2 eApiStart s_1.Robots])]) hm (fun s3 Y4 hm => ?_)) (Wk.mk' [some 0] rfl rfl (.eqs rfl) ⟨⟨_, rfl, .box rfl (.eq rfl)⟩, trivial⟩ rfl)
    refine C.seq ?_
    refine C.seq ?_
    refine C.jn (fun (x5 : Bool) => [(1, .v (.int .i64 cells)), (2, .v (.int .i64 most)), (3, .p 0 0), (7, .v (.int .i64 s3)), (19, .v (.bool x5))]) (fun (x5 : Bool) => [(0, .box [.v (.int .i64 s_1.Floor.W), .v (.int .i64 s_1.Floor.H), .v (.int .i64 s_1.Floor.D), .sl 1 eI s_1.Floor.Kind, .sl 1 eI s_1.Floor.Out, .sl 5 eApiZone s_1.Zones, .sl 2 eApiApart s_1.Aparts, .sl 2 eApiShelf s_1.Shelves, .sl 2 eApiStart s_1.Robots])]) 1 hm (fun x5 hm => ?_) (fun J6 hm hJ6 => ?_)
    · refine C.nx ?_
      refine C.ite rfl hm (fun hb8 hm => ?_) (fun hb8 hm => ?_)
      · refine C.skip ?_
        refine C.nx ?_
        refine C.seq ?_
        refine C.block ?_
        refine C.seq ?_
        refine C.jn (fun (x9 : Bool) => [(1, .v (.int .i64 cells)), (2, .v (.int .i64 most)), (3, .p 0 0), (7, .v (.int .i64 s3)), (50, .v (.bool x9))]) (fun (x9 : Bool) => [(0, .box [.v (.int .i64 s_1.Floor.W), .v (.int .i64 s_1.Floor.H), .v (.int .i64 s_1.Floor.D), .sl 1 eI s_1.Floor.Kind, .sl 1 eI s_1.Floor.Out, .sl 5 eApiZone s_1.Zones, .sl 2 eApiApart s_1.Aparts, .sl 2 eApiShelf s_1.Shelves, .sl 2 eApiStart s_1.Robots])]) 1 hm (fun x9 hm => ?_) (fun J10 hm hJ10 => ?_)
        · refine C.nx ?_
          refine C.ite rfl hm (fun hb14 hm => ?_) (fun hb14 hm => ?_)
          · refine C.seq ?_
            refine U.start ?_
            refine U.p T rfl (.none rfl) rfl rfl rfl ?_
            refine U.done ?_
            refine C.nx ?_
            refine C.ret ?_
            refine C.brt ?_
            refine C.rt ?_
            refine C.rt ?_
            refine C.brt ?_
            refine C.rt ?_
            exact C.fin T (rs' := [.v (.bool false)]) (H' := []) (nl' := 0) [] rfl rfl (.eq rfl) trivial rfl rfl rfl rfl hβ ⟨false, hm, rfl, rfl, rfl⟩
          · refine C.skip ?_
            refine C.bnx ?_
            refine C.nx ?_
            refine U.start ?_
            refine U.ps 3 T rfl ?_
            refine U.done ?_
            refine C.nx ?_
            exact St.wk (C.next hm) (Wk.mk' [some 0] rfl rfl (.eqs rfl) ⟨⟨_, rfl, .box rfl (.eq rfl)⟩, trivial⟩ rfl)
        · refine U.start ?_
          refine U.ps 3 T rfl ?_
          obtain ⟨x11, hx11, hm⟩ := hm
          refine U.r (o := _) rfl (.none rfl) rfl rfl (by exact Rd.ix T rfl rfl rfl rfl rfl rfl hx11) ?_
          refine U.ps 6 T rfl ?_
          refine hm.cs (fun hb12 hm => ?_) (fun hb12 hm => ?_)
          · refine U.skip (o := _) rfl (.skip 9 false 31 _ hb12 rfl rfl rfl) rfl rfl ?_
            refine U.sks 7 9 false 31 hb12 rfl rfl rfl ?_
            refine U.r (o := _) rfl (.none rfl) rfl rfl (by exact Rd.pk rfl rfl hb12 rfl) ?_
            refine U.p T rfl (.none rfl) rfl rfl rfl ?_
            refine U.sks 8 19 false 41 rfl rfl rfl rfl ?_
            refine U.r (o := _) rfl (.none rfl) rfl rfl (by exact Rd.pk rfl rfl rfl rfl) ?_
            refine U.done ?_
            exact St.wk (hJ10 _ hm) (Wk.mk' [some 0] rfl rfl (.eqs rfl) ⟨⟨_, rfl, .box rfl (.eq rfl)⟩, trivial⟩ rfl)
          · refine U.p T rfl (.take 9 false 31 _ hb12 rfl rfl rfl) rfl rfl rfl ?_
            refine U.pg 2 9 false 31 hb12 T rfl rfl rfl rfl ?_
            refine U.r (o := _) rfl (.take 9 false 31 _ hb12 rfl rfl rfl) rfl rfl (by exact Rd.ix T rfl rfl rfl rfl rfl rfl hx11) ?_
            refine U.pg 4 9 false 31 hb12 T rfl rfl rfl rfl ?_
            refine U.r (o := _) rfl (.none rfl) rfl rfl (by exact Rd.pk' rfl rfl hb12 rfl) ?_
            refine U.p T rfl (.none rfl) rfl rfl rfl ?_
            refine hm.cs (fun hb13 hm => ?_) (fun hb13 hm => ?_)
            · refine U.skip (o := _) rfl (.skip 19 false 41 _ hb13 rfl rfl rfl) rfl rfl ?_
              refine U.sks 7 19 false 41 hb13 rfl rfl rfl ?_
              refine U.r (o := _) rfl (.none rfl) rfl rfl (by exact Rd.pk rfl rfl hb13 rfl) ?_
              refine U.done ?_
              exact St.wk (hJ10 _ hm) (Wk.mk' [some 0] rfl rfl (.eqs rfl) ⟨⟨_, rfl, .box rfl (.eq rfl)⟩, trivial⟩ rfl)
            · refine U.p T rfl (.take 19 false 41 _ hb13 rfl rfl rfl) rfl rfl rfl ?_
              refine U.pg 2 19 false 41 hb13 T rfl rfl rfl rfl ?_
              refine U.r (o := _) rfl (.take 19 false 41 _ hb13 rfl rfl rfl) rfl rfl (by exact Rd.ix T rfl rfl rfl rfl rfl rfl hx11) ?_
              refine U.pg 4 19 false 41 hb13 T rfl rfl rfl rfl ?_
              refine U.r (o := _) rfl (.none rfl) rfl rfl (by exact Rd.pk' rfl rfl hb13 rfl) ?_
              refine U.done ?_
              exact St.wk (hJ10 _ hm) (Wk.mk' [some 0] rfl rfl (.eqs rfl) ⟨⟨_, rfl, .box rfl (.eq rfl)⟩, trivial⟩ rfl)
      · refine C.exit ?_
        refine C.ex ?_
        refine C.ex ?_
        refine C.bex ?_
        exact St.wk (hJ2 _ hm) (Wk.mk' [some 0] rfl rfl (.eqs rfl) ⟨⟨_, rfl, .box rfl (.eq rfl)⟩, trivial⟩ rfl)
    · refine U.start ?_
      refine U.ps 6 T rfl ?_
      refine hm.cs (fun hb7 hm => ?_) (fun hb7 hm => ?_)
      · refine U.p T rfl (.take 5 true 15 _ hb7 rfl rfl rfl) rfl rfl rfl ?_
        refine U.pg 2 5 true 15 hb7 T rfl rfl rfl rfl ?_
        refine U.r (o := _) rfl (.none rfl) rfl rfl (by exact Rd.pk rfl rfl hb7 rfl) ?_
        refine U.done ?_
        exact St.wk (hJ6 _ hm) (Wk.mk' [some 0] rfl rfl (.eqs rfl) ⟨⟨_, rfl, .box rfl (.eq rfl)⟩, trivial⟩ rfl)
      · refine U.skip (o := _) rfl (.skip 5 true 15 _ hb7 rfl rfl rfl) rfl rfl ?_
        refine U.sks 2 5 true 15 hb7 rfl rfl rfl ?_
        refine U.r (o := _) rfl (.none rfl) rfl rfl (by exact Rd.pk' rfl rfl hb7 rfl) ?_
        refine U.done ?_
        exact St.wk (hJ6 _ hm) (Wk.mk' [some 0] rfl rfl (.eqs rfl) ⟨⟨_, rfl, .box rfl (.eq rfl)⟩, trivial⟩ rfl)
theorem T_taquinref07_Right (f : ApiFloor) (post : Bool → Prop) (hm : V_taquinref07_Right f post) :
    Tr Try.prog 39 [.agg [.v (.int .i64 f.W), .v (.int .i64 f.H), .v (.int .i64 f.D), .sl 1 eI f.Kind, .sl 1 eI f.Out]] [] 0 (fun A H' k => ∃ y, post y ∧ A = (.v (.bool y)) ∧ H' = [] ∧ k = 0) := by
  refine Tr.intro (n := 92) Try.func39 rfl Try.ntmps39 rfl (fun w0 ok F β hβ => ?_)
  unfold V_taquinref07_Right at hm
  refine C.seq ?_
  refine U.start ?_
  refine U.e1 (o := _) rfl (.none rfl) (by exact Eff1.box rfl rfl rfl rfl rfl) ?_
  refine U.p T rfl (.none rfl) rfl rfl rfl ?_
  refine U.done ?_
  refine C.nx ?_
  refine C.seq ?_
  refine C.seq ?_
  refine C.jn (fun (x1 : Bool) => [(1, .p 0 0), (32, .v (.bool x1))]) (fun (x1 : Bool) => [(0, .box [.v (.int .i64 f.W), .v (.int .i64 f.H), .v (.int .i64 f.D), .sl 1 eI f.Kind, .sl 1 eI f.Out])]) 1 hm (fun x1 hm => ?_) (fun J2 hm hJ2 => ?_)
  · refine C.nx ?_
    refine C.ite rfl hm (fun hb8 hm => ?_) (fun hb8 hm => ?_)
    · refine C.seq ?_
      refine U.start ?_
      refine U.p T rfl (.none rfl) rfl rfl rfl ?_
      refine U.done ?_
      refine C.nx ?_
      refine C.ret ?_
      refine C.rt ?_
      exact C.fin T (rs' := [.v (.bool false)]) (H' := []) (nl' := 0) [] rfl rfl (.eq rfl) trivial rfl rfl rfl rfl hβ ⟨false, hm, rfl, rfl, rfl⟩
    · refine C.skip ?_
      refine C.nx ?_
      refine C.seq ?_
      refine U.start ?_
      refine U.ps 9 T rfl ?_
      refine U.done ?_
      refine C.nx ?_
      refine C.seq ?_
      refine C.seq ?_
      refine C.jn (fun (x9 : Bool) => [(1, .p 0 0), (3, .v (.int .i64 (w64 ((w64 (f.W * f.H)) * f.D)))), (56, .v (.bool x9))]) (fun (x9 : Bool) => [(0, .box [.v (.int .i64 f.W), .v (.int .i64 f.H), .v (.int .i64 f.D), .sl 1 eI f.Kind, .sl 1 eI f.Out])]) 1 hm (fun x9 hm => ?_) (fun J10 hm hJ10 => ?_)
      · refine C.nx ?_
        refine C.ite rfl hm (fun hb13 hm => ?_) (fun hb13 hm => ?_)
        · refine C.seq ?_
          refine U.start ?_
          refine U.p T rfl (.none rfl) rfl rfl rfl ?_
          refine U.done ?_
          refine C.nx ?_
          refine C.ret ?_
          refine C.rt ?_
          exact C.fin T (rs' := [.v (.bool false)]) (H' := []) (nl' := 0) [] rfl rfl (.eq rfl) trivial rfl rfl rfl rfl hβ ⟨false, hm, rfl, rfl, rfl⟩
        · refine C.skip ?_
          refine C.nx ?_
          refine C.seq ?_
          refine C.seq ?_
          refine U.start ?_
          refine U.p T rfl (.none rfl) rfl rfl rfl ?_
          refine U.done ?_
          refine C.nx ?_
          refine C.jn (fun (x14 : Unit) => []) (fun (x14 : Unit) => []) 0 hm (fun x14 hm => ?_) (fun J15 hm hJ15 => ?_)
          · refine C.nx ?_
            refine C.seq ?_
            refine U.start ?_
            refine U.p T rfl (.none rfl) rfl rfl rfl ?_
            refine U.done ?_
            refine C.nx ?_
            refine C.ret ?_
            exact C.fin T (rs' := [.v (.bool true)]) (H' := []) (nl' := 0) [] rfl rfl (.eq rfl) trivial rfl rfl rfl rfl hβ ⟨true, hm, rfl, rfl, rfl⟩
          · refine C.block ?_
            refine St.wk (C.loop (fun (s16 : Int) => [(1, .p 0 0), (3, .v (.int .i64 (w64 ((w64 (f.W * f.H)) * f.D)))), (4, .v (.int .i64 s16))]) (fun (s16 : Int) => [(0, .box [.v (.int .i64 f.W), .v (.int .i64 f.H), .v (.int .i64 f.D), .sl 1 eI f.Kind, .sl 1 eI f.Out])]) hm (fun s16 Y17 hm => ?_)) (Wk.mk' [some 0] rfl rfl (.eqs rfl) ⟨⟨_, rfl, .box rfl (.eq rfl)⟩, trivial⟩ rfl)
            refine C.seq ?_
            refine C.seq ?_
            refine U.start ?_
            refine U.ps 3 T rfl ?_
            refine U.done ?_
            refine C.nx ?_
            refine C.ite rfl hm (fun hb18 hm => ?_) (fun hb18 hm => ?_)
            · refine C.skip ?_
              refine C.nx ?_
              refine C.seq ?_
              refine C.block ?_
              refine C.seq ?_
              refine C.jn (fun (x19 : Bool) => [(1, .p 0 0), (3, .v (.int .i64 (w64 ((w64 (f.W * f.H)) * f.D)))), (4, .v (.int .i64 s16)), (91, .v (.bool x19))]) (fun (x19 : Bool) => [(0, .box [.v (.int .i64 f.W), .v (.int .i64 f.H), .v (.int .i64 f.D), .sl 1 eI f.Kind, .sl 1 eI f.Out])]) 1 hm (fun x19 hm => ?_) (fun J20 hm hJ20 => ?_)
              · refine C.nx ?_
                refine C.ite rfl hm (fun hb26 hm => ?_) (fun hb26 hm => ?_)
                · refine C.seq ?_
                  refine U.start ?_
                  refine U.p T rfl (.none rfl) rfl rfl rfl ?_
                  refine U.done ?_
                  refine C.nx ?_
                  refine C.ret ?_
                  refine C.brt ?_
                  refine C.rt ?_
                  refine C.rt ?_
                  refine C.brt ?_
                  refine C.rt ?_
                  exact C.fin T (rs' := [.v (.bool false)]) (H' := []) (nl' := 0) [] rfl rfl (.eq rfl) trivial rfl rfl rfl rfl hβ ⟨false, hm, rfl, rfl, rfl⟩
                · refine C.skip ?_
                  refine C.bnx ?_
                  refine C.nx ?_
                  refine U.start ?_
                  refine U.ps 3 T rfl ?_
                  refine U.done ?_
                  refine C.nx ?_
                  exact St.wk (C.next hm) (Wk.mk' [some 0] rfl rfl (.eqs rfl) ⟨⟨_, rfl, .box rfl (.eq rfl)⟩, trivial⟩ rfl)
              · refine U.start ?_
                refine U.ps 3 T rfl ?_
                obtain ⟨x21, hx21, hm⟩ := hm
                refine U.r (o := _) rfl (.none rfl) rfl rfl (by exact Rd.ix T rfl rfl rfl rfl rfl rfl hx21) ?_
                refine U.ps 3 T rfl ?_
                refine hm.cs (fun hb22 hm => ?_) (fun hb22 hm => ?_)
                · refine U.skip (o := _) rfl (.skip 6 false 68 _ hb22 rfl rfl rfl) rfl rfl ?_
                  refine U.sks 5 6 false 68 hb22 rfl rfl rfl ?_
                  refine U.r (o := _) rfl (.none rfl) rfl rfl (by exact Rd.pk rfl rfl hb22 rfl) ?_
                  refine U.p T rfl (.none rfl) rfl rfl rfl ?_
                  refine U.sks 6 14 false 76 rfl rfl rfl rfl ?_
                  refine U.r (o := _) rfl (.none rfl) rfl rfl (by exact Rd.pk rfl rfl rfl rfl) ?_
                  refine U.p T rfl (.none rfl) rfl rfl rfl ?_
                  refine U.sks 6 22 false 84 rfl rfl rfl rfl ?_
                  refine U.r (o := _) rfl (.none rfl) rfl rfl (by exact Rd.pk rfl rfl rfl rfl) ?_
                  refine U.done ?_
                  exact St.wk (hJ20 _ hm) (Wk.mk' [some 0] rfl rfl (.eqs rfl) ⟨⟨_, rfl, .box rfl (.eq rfl)⟩, trivial⟩ rfl)
                · refine U.p T rfl (.take 6 false 68 _ hb22 rfl rfl rfl) rfl rfl rfl ?_
                  refine U.pg 2 6 false 68 hb22 T rfl rfl rfl rfl ?_
                  refine U.r (o := _) rfl (.take 6 false 68 _ hb22 rfl rfl rfl) rfl rfl (by exact Rd.ix T rfl rfl rfl rfl rfl rfl hx21) ?_
                  refine U.pg 2 6 false 68 hb22 T rfl rfl rfl rfl ?_
                  refine U.r (o := _) rfl (.none rfl) rfl rfl (by exact Rd.pk' rfl rfl hb22 rfl) ?_
                  refine U.p T rfl (.none rfl) rfl rfl rfl ?_
                  refine hm.cs (fun hb23 hm => ?_) (fun hb23 hm => ?_)
                  · refine U.skip (o := _) rfl (.skip 14 false 76 _ hb23 rfl rfl rfl) rfl rfl ?_
                    refine U.sks 5 14 false 76 hb23 rfl rfl rfl ?_
                    refine U.r (o := _) rfl (.none rfl) rfl rfl (by exact Rd.pk rfl rfl hb23 rfl) ?_
                    refine U.p T rfl (.none rfl) rfl rfl rfl ?_
                    refine U.sks 6 22 false 84 rfl rfl rfl rfl ?_
                    refine U.r (o := _) rfl (.none rfl) rfl rfl (by exact Rd.pk rfl rfl rfl rfl) ?_
                    refine U.done ?_
                    exact St.wk (hJ20 _ hm) (Wk.mk' [some 0] rfl rfl (.eqs rfl) ⟨⟨_, rfl, .box rfl (.eq rfl)⟩, trivial⟩ rfl)
                  · refine U.p T rfl (.take 14 false 76 _ hb23 rfl rfl rfl) rfl rfl rfl ?_
                    refine U.pg 2 14 false 76 hb23 T rfl rfl rfl rfl ?_
                    obtain ⟨x24, hx24, hm⟩ := hm
                    refine U.r (o := _) rfl (.take 14 false 76 _ hb23 rfl rfl rfl) rfl rfl (by exact Rd.ix T rfl rfl rfl rfl rfl rfl hx24) ?_
                    refine U.pg 2 14 false 76 hb23 T rfl rfl rfl rfl ?_
                    refine U.r (o := _) rfl (.none rfl) rfl rfl (by exact Rd.pk' rfl rfl hb23 rfl) ?_
                    refine U.p T rfl (.none rfl) rfl rfl rfl ?_
                    refine hm.cs (fun hb25 hm => ?_) (fun hb25 hm => ?_)
                    · refine U.skip (o := _) rfl (.skip 22 false 84 _ hb25 rfl rfl rfl) rfl rfl ?_
                      refine U.sks 5 22 false 84 hb25 rfl rfl rfl ?_
                      refine U.r (o := _) rfl (.none rfl) rfl rfl (by exact Rd.pk rfl rfl hb25 rfl) ?_
                      refine U.done ?_
                      exact St.wk (hJ20 _ hm) (Wk.mk' [some 0] rfl rfl (.eqs rfl) ⟨⟨_, rfl, .box rfl (.eq rfl)⟩, trivial⟩ rfl)
                    · refine U.p T rfl (.take 22 false 84 _ hb25 rfl rfl rfl) rfl rfl rfl ?_
                      refine U.pg 2 22 false 84 hb25 T rfl rfl rfl rfl ?_
                      refine U.r (o := _) rfl (.take 22 false 84 _ hb25 rfl rfl rfl) rfl rfl (by exact Rd.ix T rfl rfl rfl rfl rfl rfl hx24) ?_
                      refine U.pg 2 22 false 84 hb25 T rfl rfl rfl rfl ?_
                      refine U.r (o := _) rfl (.none rfl) rfl rfl (by exact Rd.pk' rfl rfl hb25 rfl) ?_
                      refine U.done ?_
                      exact St.wk (hJ20 _ hm) (Wk.mk' [some 0] rfl rfl (.eqs rfl) ⟨⟨_, rfl, .box rfl (.eq rfl)⟩, trivial⟩ rfl)
            · refine C.exit ?_
              refine C.ex ?_
              refine C.ex ?_
              refine C.bex ?_
              exact St.wk (hJ15 _ hm) (Wk.mk' [] rfl rfl trivial trivial rfl)
      · refine U.start ?_
        refine U.ps 3 T rfl ?_
        refine hm.cs (fun hb11 hm => ?_) (fun hb11 hm => ?_)
        · refine U.skip (o := _) rfl (.skip 2 false 43 _ hb11 rfl rfl rfl) rfl rfl ?_
          refine U.sks 4 2 false 43 hb11 rfl rfl rfl ?_
          refine U.r (o := _) rfl (.none rfl) rfl rfl (by exact Rd.pk rfl rfl hb11 rfl) ?_
          refine U.p T rfl (.none rfl) rfl rfl rfl ?_
          refine U.sks 5 9 false 50 rfl rfl rfl rfl ?_
          refine U.r (o := _) rfl (.none rfl) rfl rfl (by exact Rd.pk rfl rfl rfl rfl) ?_
          refine U.done ?_
          exact St.wk (hJ10 _ hm) (Wk.mk' [some 0] rfl rfl (.eqs rfl) ⟨⟨_, rfl, .box rfl (.eq rfl)⟩, trivial⟩ rfl)
        · refine U.p T rfl (.take 2 false 43 _ hb11 rfl rfl rfl) rfl rfl rfl ?_
          refine U.pg 4 2 false 43 hb11 T rfl rfl rfl rfl ?_
          refine U.r (o := _) rfl (.none rfl) rfl rfl (by exact Rd.pk' rfl rfl hb11 rfl) ?_
          refine U.p T rfl (.none rfl) rfl rfl rfl ?_
          refine hm.cs (fun hb12 hm => ?_) (fun hb12 hm => ?_)
          · refine U.skip (o := _) rfl (.skip 9 false 50 _ hb12 rfl rfl rfl) rfl rfl ?_
            refine U.sks 4 9 false 50 hb12 rfl rfl rfl ?_
            refine U.r (o := _) rfl (.none rfl) rfl rfl (by exact Rd.pk rfl rfl hb12 rfl) ?_
            refine U.done ?_
            exact St.wk (hJ10 _ hm) (Wk.mk' [some 0] rfl rfl (.eqs rfl) ⟨⟨_, rfl, .box rfl (.eq rfl)⟩, trivial⟩ rfl)
          · refine U.p T rfl (.take 9 false 50 _ hb12 rfl rfl rfl) rfl rfl rfl ?_
            refine U.pg 4 9 false 50 hb12 T rfl rfl rfl rfl ?_
            refine U.r (o := _) rfl (.none rfl) rfl rfl (by exact Rd.pk' rfl rfl hb12 rfl) ?_
            refine U.done ?_
            exact St.wk (hJ10 _ hm) (Wk.mk' [some 0] rfl rfl (.eqs rfl) ⟨⟨_, rfl, .box rfl (.eq rfl)⟩, trivial⟩ rfl)
  · refine U.start ?_
    refine U.ps 4 T rfl ?_
    refine hm.cs (fun hb3 hm => ?_) (fun hb3 hm => ?_)
    · refine U.skip (o := _) rfl (.skip 3 false 8 _ hb3 rfl rfl rfl) rfl rfl ?_
      refine U.sks 2 3 false 8 hb3 rfl rfl rfl ?_
      refine U.r (o := _) rfl (.none rfl) rfl rfl (by exact Rd.pk rfl rfl hb3 rfl) ?_
      refine U.p T rfl (.none rfl) rfl rfl rfl ?_
      refine U.sks 3 8 false 13 rfl rfl rfl rfl ?_
      refine U.r (o := _) rfl (.none rfl) rfl rfl (by exact Rd.pk rfl rfl rfl rfl) ?_
      refine U.p T rfl (.none rfl) rfl rfl rfl ?_
      refine U.sks 3 13 false 18 rfl rfl rfl rfl ?_
      refine U.r (o := _) rfl (.none rfl) rfl rfl (by exact Rd.pk rfl rfl rfl rfl) ?_
      refine U.p T rfl (.none rfl) rfl rfl rfl ?_
      refine U.sks 3 18 false 23 rfl rfl rfl rfl ?_
      refine U.r (o := _) rfl (.none rfl) rfl rfl (by exact Rd.pk rfl rfl rfl rfl) ?_
      refine U.p T rfl (.none rfl) rfl rfl rfl ?_
      refine U.sks 3 23 false 28 rfl rfl rfl rfl ?_
      refine U.r (o := _) rfl (.none rfl) rfl rfl (by exact Rd.pk rfl rfl rfl rfl) ?_
      refine U.done ?_
      exact St.wk (hJ2 _ hm) (Wk.mk' [some 0] rfl rfl (.eqs rfl) ⟨⟨_, rfl, .box rfl (.eq rfl)⟩, trivial⟩ rfl)
    · refine U.p T rfl (.take 3 false 8 _ hb3 rfl rfl rfl) rfl rfl rfl ?_
      refine U.pg 2 3 false 8 hb3 T rfl rfl rfl rfl ?_
      refine U.r (o := _) rfl (.none rfl) rfl rfl (by exact Rd.pk' rfl rfl hb3 rfl) ?_
      refine U.p T rfl (.none rfl) rfl rfl rfl ?_
      refine hm.cs (fun hb4 hm => ?_) (fun hb4 hm => ?_)
      · refine U.skip (o := _) rfl (.skip 8 false 13 _ hb4 rfl rfl rfl) rfl rfl ?_
        refine U.sks 2 8 false 13 hb4 rfl rfl rfl ?_
        refine U.r (o := _) rfl (.none rfl) rfl rfl (by exact Rd.pk rfl rfl hb4 rfl) ?_
        refine U.p T rfl (.none rfl) rfl rfl rfl ?_
        refine U.sks 3 13 false 18 rfl rfl rfl rfl ?_
        refine U.r (o := _) rfl (.none rfl) rfl rfl (by exact Rd.pk rfl rfl rfl rfl) ?_
        refine U.p T rfl (.none rfl) rfl rfl rfl ?_
        refine U.sks 3 18 false 23 rfl rfl rfl rfl ?_
        refine U.r (o := _) rfl (.none rfl) rfl rfl (by exact Rd.pk rfl rfl rfl rfl) ?_
        refine U.p T rfl (.none rfl) rfl rfl rfl ?_
        refine U.sks 3 23 false 28 rfl rfl rfl rfl ?_
        refine U.r (o := _) rfl (.none rfl) rfl rfl (by exact Rd.pk rfl rfl rfl rfl) ?_
        refine U.done ?_
        exact St.wk (hJ2 _ hm) (Wk.mk' [some 0] rfl rfl (.eqs rfl) ⟨⟨_, rfl, .box rfl (.eq rfl)⟩, trivial⟩ rfl)
      · refine U.p T rfl (.take 8 false 13 _ hb4 rfl rfl rfl) rfl rfl rfl ?_
        refine U.pg 2 8 false 13 hb4 T rfl rfl rfl rfl ?_
        refine U.r (o := _) rfl (.none rfl) rfl rfl (by exact Rd.pk' rfl rfl hb4 rfl) ?_
        refine U.p T rfl (.none rfl) rfl rfl rfl ?_
        refine hm.cs (fun hb5 hm => ?_) (fun hb5 hm => ?_)
        · refine U.skip (o := _) rfl (.skip 13 false 18 _ hb5 rfl rfl rfl) rfl rfl ?_
          refine U.sks 2 13 false 18 hb5 rfl rfl rfl ?_
          refine U.r (o := _) rfl (.none rfl) rfl rfl (by exact Rd.pk rfl rfl hb5 rfl) ?_
          refine U.p T rfl (.none rfl) rfl rfl rfl ?_
          refine U.sks 3 18 false 23 rfl rfl rfl rfl ?_
          refine U.r (o := _) rfl (.none rfl) rfl rfl (by exact Rd.pk rfl rfl rfl rfl) ?_
          refine U.p T rfl (.none rfl) rfl rfl rfl ?_
          refine U.sks 3 23 false 28 rfl rfl rfl rfl ?_
          refine U.r (o := _) rfl (.none rfl) rfl rfl (by exact Rd.pk rfl rfl rfl rfl) ?_
          refine U.done ?_
          exact St.wk (hJ2 _ hm) (Wk.mk' [some 0] rfl rfl (.eqs rfl) ⟨⟨_, rfl, .box rfl (.eq rfl)⟩, trivial⟩ rfl)
        · refine U.p T rfl (.take 13 false 18 _ hb5 rfl rfl rfl) rfl rfl rfl ?_
          refine U.pg 2 13 false 18 hb5 T rfl rfl rfl rfl ?_
          refine U.r (o := _) rfl (.none rfl) rfl rfl (by exact Rd.pk' rfl rfl hb5 rfl) ?_
          refine U.p T rfl (.none rfl) rfl rfl rfl ?_
          refine hm.cs (fun hb6 hm => ?_) (fun hb6 hm => ?_)
          · refine U.skip (o := _) rfl (.skip 18 false 23 _ hb6 rfl rfl rfl) rfl rfl ?_
            refine U.sks 2 18 false 23 hb6 rfl rfl rfl ?_
            refine U.r (o := _) rfl (.none rfl) rfl rfl (by exact Rd.pk rfl rfl hb6 rfl) ?_
            refine U.p T rfl (.none rfl) rfl rfl rfl ?_
            refine U.sks 3 23 false 28 rfl rfl rfl rfl ?_
            refine U.r (o := _) rfl (.none rfl) rfl rfl (by exact Rd.pk rfl rfl rfl rfl) ?_
            refine U.done ?_
            exact St.wk (hJ2 _ hm) (Wk.mk' [some 0] rfl rfl (.eqs rfl) ⟨⟨_, rfl, .box rfl (.eq rfl)⟩, trivial⟩ rfl)
          · refine U.p T rfl (.take 18 false 23 _ hb6 rfl rfl rfl) rfl rfl rfl ?_
            refine U.pg 2 18 false 23 hb6 T rfl rfl rfl rfl ?_
            refine U.r (o := _) rfl (.none rfl) rfl rfl (by exact Rd.pk' rfl rfl hb6 rfl) ?_
            refine U.p T rfl (.none rfl) rfl rfl rfl ?_
            refine hm.cs (fun hb7 hm => ?_) (fun hb7 hm => ?_)
            · refine U.skip (o := _) rfl (.skip 23 false 28 _ hb7 rfl rfl rfl) rfl rfl ?_
              refine U.sks 2 23 false 28 hb7 rfl rfl rfl ?_
              refine U.r (o := _) rfl (.none rfl) rfl rfl (by exact Rd.pk rfl rfl hb7 rfl) ?_
              refine U.done ?_
              exact St.wk (hJ2 _ hm) (Wk.mk' [some 0] rfl rfl (.eqs rfl) ⟨⟨_, rfl, .box rfl (.eq rfl)⟩, trivial⟩ rfl)
            · refine U.p T rfl (.take 23 false 28 _ hb7 rfl rfl rfl) rfl rfl rfl ?_
              refine U.pg 2 23 false 28 hb7 T rfl rfl rfl rfl ?_
              refine U.r (o := _) rfl (.none rfl) rfl rfl (by exact Rd.pk' rfl rfl hb7 rfl) ?_
              refine U.done ?_
              exact St.wk (hJ2 _ hm) (Wk.mk' [some 0] rfl rfl (.eqs rfl) ⟨⟨_, rfl, .box rfl (.eq rfl)⟩, trivial⟩ rfl)
theorem T_taquinref11_Name (s_1 : ByteArray) (post : Bool → Prop) (hm : V_taquinref11_Name s_1 post) :
    Tr Try.prog 41 [.v (.string s_1)] [] 0 (fun A H' k => ∃ y, post y ∧ A = (.v (.bool y)) ∧ H' = [] ∧ k = 0) := by
  refine Tr.intro (n := 62) Try.func41 rfl Try.ntmps41 rfl (fun w0 ok F β hβ => ?_)
  unfold V_taquinref11_Name at hm
  refine C.seq ?_
  refine U.start ?_
  refine U.p T rfl (.none rfl) rfl rfl rfl ?_
  refine U.done ?_
  refine C.nx ?_
  refine C.seq ?_
  refine C.seq ?_
  refine U.start ?_
  refine U.p T rfl (.none rfl) rfl rfl rfl ?_
  refine U.done ?_
  refine C.nx ?_
  refine C.jn (fun (x1 : Unit) => [(0, .v (.string s_1))]) (fun (x1 : Unit) => []) 0 hm (fun x1 hm => ?_) (fun J2 hm hJ2 => ?_)
  · refine C.nx ?_
    refine C.seq ?_
    refine C.jn (fun (x46 : Bool) => [(2, .v (.bool x46))]) (fun (x46 : Bool) => []) 0 hm (fun x46 hm => ?_) (fun J47 hm hJ47 => ?_)
    · refine C.nx ?_
      refine C.ret ?_
      exact C.fin T (rs' := [.v (.bool x46)]) (H' := []) (nl' := 0) [] rfl rfl (.eq rfl) trivial rfl rfl rfl rfl hβ ⟨x46, hm, rfl, rfl, rfl⟩
    · refine U.start ?_
      refine U.ps 4 T rfl ?_
      refine hm.cs (fun hb48 hm => ?_) (fun hb48 hm => ?_)
      · refine U.p T rfl (.take 3 true 57 _ hb48 rfl rfl rfl) rfl rfl rfl ?_
        refine U.pg 2 3 true 57 hb48 T rfl rfl rfl rfl ?_
        refine U.r (o := _) rfl (.none rfl) rfl rfl (by exact Rd.pk rfl rfl hb48 rfl) ?_
        refine U.p T rfl (.none rfl) rfl rfl rfl ?_
        refine U.done ?_
        exact St.wk (hJ47 _ hm) (Wk.mk' [] rfl rfl (.eqs rfl) trivial rfl)
      · refine U.skip (o := _) rfl (.skip 3 true 57 _ hb48 rfl rfl rfl) rfl rfl ?_
        refine U.sks 2 3 true 57 hb48 rfl rfl rfl ?_
        refine U.r (o := _) rfl (.none rfl) rfl rfl (by exact Rd.pk' rfl rfl hb48 rfl) ?_
        refine U.p T rfl (.none rfl) rfl rfl rfl ?_
        refine U.done ?_
        exact St.wk (hJ47 _ hm) (Wk.mk' [] rfl rfl (.eqs rfl) trivial rfl)
  · refine C.block ?_
    refine St.wk (C.loop (fun (s3 : Int) => [(0, .v (.string s_1)), (3, .v (.int .i64 s3))]) (fun (s3 : Int) => []) hm (fun s3 Y4 hm => ?_)) (Wk.mk' [] rfl rfl (.eqs rfl) trivial rfl)
    refine C.seq ?_
    refine C.seq ?_
    refine U.start ?_
    refine U.ps 4 T rfl ?_
    refine U.done ?_
    refine C.nx ?_
    refine C.ite rfl hm (fun hb5 hm => ?_) (fun hb5 hm => ?_)
    · refine C.skip ?_
      refine C.nx ?_
      refine C.seq ?_
      refine C.block ?_
      refine C.seq ?_
      refine U.start ?_
      refine U.ps 2 T rfl ?_
      obtain ⟨x6, hx6, hm⟩ := hm
      refine U.r (o := _) rfl (.none rfl) rfl rfl (by exact Rd.ib T rfl rfl rfl rfl hx6) ?_
      refine U.p T rfl (.none rfl) rfl rfl rfl ?_
      refine U.done ?_
      refine C.nx ?_
      refine C.seq ?_
      refine C.jn (fun (x7 : Bool) => [(0, .v (.string s_1)), (3, .v (.int .i64 s3)), (4, .v (.int .u8 (x6.toNat : Int))), (5, .v (.bool x7))]) (fun (x7 : Bool) => []) 0 hm (fun x7 hm => ?_) (fun J8 hm hJ8 => ?_)
      · refine C.nx ?_
        refine C.seq ?_
        refine C.jn (fun (x10 : Bool) => [(0, .v (.string s_1)), (3, .v (.int .i64 s3)), (53, .v (.bool x10))]) (fun (x10 : Bool) => []) 0 hm (fun x10 hm => ?_) (fun J11 hm hJ11 => ?_)
        · refine C.nx ?_
          refine C.ite rfl hm (fun hb45 hm => ?_) (fun hb45 hm => ?_)
          · refine C.seq ?_
            refine U.start ?_
            refine U.p T rfl (.none rfl) rfl rfl rfl ?_
            refine U.done ?_
            refine C.nx ?_
            refine C.ret ?_
            refine C.brt ?_
            refine C.rt ?_
            refine C.rt ?_
            refine C.brt ?_
            refine C.rt ?_
            exact C.fin T (rs' := [.v (.bool false)]) (H' := []) (nl' := 0) [] rfl rfl (.eq rfl) trivial rfl rfl rfl rfl hβ ⟨false, hm, rfl, rfl, rfl⟩
          · refine C.skip ?_
            refine C.bnx ?_
            refine C.nx ?_
            refine U.start ?_
            refine U.ps 3 T rfl ?_
            refine U.done ?_
            refine C.nx ?_
            exact St.wk (C.next hm) (Wk.mk' [] rfl rfl (.eqs rfl) trivial rfl)
        · refine U.start ?_
          refine U.ps 3 T rfl ?_
          refine hm.cs (fun hb12 hm => ?_) (fun hb12 hm => ?_)
          · refine U.p T rfl (.take 2 true 23 _ hb12 rfl rfl rfl) rfl rfl rfl ?_
            refine U.p T rfl (.take 2 true 23 _ hb12 rfl rfl rfl) rfl rfl rfl ?_
            refine U.r (o := _) rfl (.none rfl) rfl rfl (by exact Rd.pk rfl rfl hb12 rfl) ?_
            refine U.p T rfl (.none rfl) rfl rfl rfl ?_
            refine hm.cs (fun hb13 hm => ?_) (fun hb13 hm => ?_)
            · refine U.skip (o := _) rfl (.skip 6 false 27 _ hb13 rfl rfl rfl) rfl rfl ?_
              refine U.sks 2 6 false 27 hb13 rfl rfl rfl ?_
              refine U.sku 2 9 true 30 rfl rfl rfl ?_
              refine U.skip (o := _) rfl (.skip 6 false 27 _ hb13 rfl rfl rfl) rfl rfl ?_
              refine U.r (o := _) rfl (.none rfl) rfl rfl (by exact Rd.pk rfl rfl hb13 rfl) ?_
              refine U.p T rfl (.none rfl) rfl rfl rfl ?_
              refine U.skip (o := _) rfl (.skip 14 false 35 _ rfl rfl rfl rfl) rfl rfl ?_
              refine U.r (o := _) rfl (.none rfl) rfl rfl (by exact Rd.pk rfl rfl rfl rfl) ?_
              refine U.p T rfl (.none rfl) rfl rfl rfl ?_
              refine U.sks 2 17 false 38 rfl rfl rfl rfl ?_
              refine U.r (o := _) rfl (.none rfl) rfl rfl (by exact Rd.pk rfl rfl rfl rfl) ?_
              refine U.p T rfl (.none rfl) rfl rfl rfl ?_
              refine U.sks 2 21 false 42 rfl rfl rfl rfl ?_
              refine U.r (o := _) rfl (.none rfl) rfl rfl (by exact Rd.pk rfl rfl rfl rfl) ?_
              refine U.ps 2 T rfl ?_
              refine U.pg 3 26 false 47 rfl T rfl rfl rfl rfl ?_
              refine hm.cs (fun hb14 hm => ?_) (fun hb14 hm => ?_)
              · refine U.p T rfl (.take 29 true 50 _ hb14 rfl rfl rfl) rfl rfl rfl ?_
                refine U.r (o := _) rfl (.take 26 false 47 _ rfl rfl rfl rfl) rfl rfl (by exact Rd.pk rfl rfl hb14 rfl) ?_
                refine U.r (o := _) rfl (.none rfl) rfl rfl (by exact Rd.pk' rfl rfl rfl rfl) ?_
                refine U.done ?_
                exact St.wk (hJ11 _ hm) (Wk.mk' [] rfl rfl (.eqs rfl) trivial rfl)
              · refine U.skip (o := _) rfl (.skip 29 true 50 _ hb14 rfl rfl rfl) rfl rfl ?_
                refine U.r (o := _) rfl (.take 26 false 47 _ rfl rfl rfl rfl) rfl rfl (by exact Rd.pk' rfl rfl hb14 rfl) ?_
                refine U.r (o := _) rfl (.none rfl) rfl rfl (by exact Rd.pk' rfl rfl rfl rfl) ?_
                refine U.done ?_
                exact St.wk (hJ11 _ hm) (Wk.mk' [] rfl rfl (.eqs rfl) trivial rfl)
            · refine U.p T rfl (.take 6 false 27 _ hb13 rfl rfl rfl) rfl rfl rfl ?_
              refine U.pg 2 6 false 27 hb13 T rfl rfl rfl rfl ?_
              refine hm.cs (fun hb15 hm => ?_) (fun hb15 hm => ?_)
              · refine U.p T rfl (.take 9 true 30 _ hb15 rfl rfl rfl) rfl rfl rfl ?_
                refine U.p T rfl (.take 9 true 30 _ hb15 rfl rfl rfl) rfl rfl rfl ?_
                refine U.r (o := _) rfl (.take 6 false 27 _ hb13 rfl rfl rfl) rfl rfl (by exact Rd.pk rfl rfl hb15 rfl) ?_
                refine U.r (o := _) rfl (.none rfl) rfl rfl (by exact Rd.pk' rfl rfl hb13 rfl) ?_
                refine U.p T rfl (.none rfl) rfl rfl rfl ?_
                refine hm.cs (fun hb16 hm => ?_) (fun hb16 hm => ?_)
                · refine U.skip (o := _) rfl (.skip 14 false 35 _ hb16 rfl rfl rfl) rfl rfl ?_
                  refine U.r (o := _) rfl (.none rfl) rfl rfl (by exact Rd.pk rfl rfl hb16 rfl) ?_
                  refine U.p T rfl (.none rfl) rfl rfl rfl ?_
                  refine U.sks 2 17 false 38 rfl rfl rfl rfl ?_
                  refine U.r (o := _) rfl (.none rfl) rfl rfl (by exact Rd.pk rfl rfl rfl rfl) ?_
                  refine U.p T rfl (.none rfl) rfl rfl rfl ?_
                  refine U.sks 2 21 false 42 rfl rfl rfl rfl ?_
                  refine U.r (o := _) rfl (.none rfl) rfl rfl (by exact Rd.pk rfl rfl rfl rfl) ?_
                  refine U.ps 2 T rfl ?_
                  refine U.pg 3 26 false 47 rfl T rfl rfl rfl rfl ?_
                  refine hm.cs (fun hb17 hm => ?_) (fun hb17 hm => ?_)
                  · refine U.p T rfl (.take 29 true 50 _ hb17 rfl rfl rfl) rfl rfl rfl ?_
                    refine U.r (o := _) rfl (.take 26 false 47 _ rfl rfl rfl rfl) rfl rfl (by exact Rd.pk rfl rfl hb17 rfl) ?_
                    refine U.r (o := _) rfl (.none rfl) rfl rfl (by exact Rd.pk' rfl rfl rfl rfl) ?_
                    refine U.done ?_
                    exact St.wk (hJ11 _ hm) (Wk.mk' [] rfl rfl (.eqs rfl) trivial rfl)
                  · refine U.skip (o := _) rfl (.skip 29 true 50 _ hb17 rfl rfl rfl) rfl rfl ?_
                    refine U.r (o := _) rfl (.take 26 false 47 _ rfl rfl rfl rfl) rfl rfl (by exact Rd.pk' rfl rfl hb17 rfl) ?_
                    refine U.r (o := _) rfl (.none rfl) rfl rfl (by exact Rd.pk' rfl rfl rfl rfl) ?_
                    refine U.done ?_
                    exact St.wk (hJ11 _ hm) (Wk.mk' [] rfl rfl (.eqs rfl) trivial rfl)
                · refine U.p T rfl (.take 14 false 35 _ hb16 rfl rfl rfl) rfl rfl rfl ?_
                  refine U.r (o := _) rfl (.none rfl) rfl rfl (by exact Rd.pk' rfl rfl hb16 rfl) ?_
                  refine U.p T rfl (.none rfl) rfl rfl rfl ?_
                  refine hm.cs (fun hb18 hm => ?_) (fun hb18 hm => ?_)
                  · refine U.skip (o := _) rfl (.skip 17 false 38 _ hb18 rfl rfl rfl) rfl rfl ?_
                    refine U.skip (o := _) rfl (.skip 17 false 38 _ hb18 rfl rfl rfl) rfl rfl ?_
                    refine U.r (o := _) rfl (.none rfl) rfl rfl (by exact Rd.pk rfl rfl hb18 rfl) ?_
                    refine U.p T rfl (.none rfl) rfl rfl rfl ?_
                    refine U.sks 2 21 false 42 rfl rfl rfl rfl ?_
                    refine U.r (o := _) rfl (.none rfl) rfl rfl (by exact Rd.pk rfl rfl rfl rfl) ?_
                    refine U.ps 2 T rfl ?_
                    refine U.pg 3 26 false 47 rfl T rfl rfl rfl rfl ?_
                    refine hm.cs (fun hb19 hm => ?_) (fun hb19 hm => ?_)
                    · refine U.p T rfl (.take 29 true 50 _ hb19 rfl rfl rfl) rfl rfl rfl ?_
                      refine U.r (o := _) rfl (.take 26 false 47 _ rfl rfl rfl rfl) rfl rfl (by exact Rd.pk rfl rfl hb19 rfl) ?_
                      refine U.r (o := _) rfl (.none rfl) rfl rfl (by exact Rd.pk' rfl rfl rfl rfl) ?_
                      refine U.done ?_
                      exact St.wk (hJ11 _ hm) (Wk.mk' [] rfl rfl (.eqs rfl) trivial rfl)
                    · refine U.skip (o := _) rfl (.skip 29 true 50 _ hb19 rfl rfl rfl) rfl rfl ?_
                      refine U.r (o := _) rfl (.take 26 false 47 _ rfl rfl rfl rfl) rfl rfl (by exact Rd.pk' rfl rfl hb19 rfl) ?_
                      refine U.r (o := _) rfl (.none rfl) rfl rfl (by exact Rd.pk' rfl rfl rfl rfl) ?_
                      refine U.done ?_
                      exact St.wk (hJ11 _ hm) (Wk.mk' [] rfl rfl (.eqs rfl) trivial rfl)
                  · refine U.p T rfl (.take 17 false 38 _ hb18 rfl rfl rfl) rfl rfl rfl ?_
                    refine U.p T rfl (.take 17 false 38 _ hb18 rfl rfl rfl) rfl rfl rfl ?_
                    refine U.r (o := _) rfl (.none rfl) rfl rfl (by exact Rd.pk' rfl rfl hb18 rfl) ?_
                    refine U.p T rfl (.none rfl) rfl rfl rfl ?_
                    refine hm.cs (fun hb20 hm => ?_) (fun hb20 hm => ?_)
                    · refine U.skip (o := _) rfl (.skip 21 false 42 _ hb20 rfl rfl rfl) rfl rfl ?_
                      refine U.skip (o := _) rfl (.skip 21 false 42 _ hb20 rfl rfl rfl) rfl rfl ?_
                      refine U.r (o := _) rfl (.none rfl) rfl rfl (by exact Rd.pk rfl rfl hb20 rfl) ?_
                      refine U.ps 2 T rfl ?_
                      refine U.pg 3 26 false 47 rfl T rfl rfl rfl rfl ?_
                      refine hm.cs (fun hb21 hm => ?_) (fun hb21 hm => ?_)
                      · refine U.p T rfl (.take 29 true 50 _ hb21 rfl rfl rfl) rfl rfl rfl ?_
                        refine U.r (o := _) rfl (.take 26 false 47 _ rfl rfl rfl rfl) rfl rfl (by exact Rd.pk rfl rfl hb21 rfl) ?_
                        refine U.r (o := _) rfl (.none rfl) rfl rfl (by exact Rd.pk' rfl rfl rfl rfl) ?_
                        refine U.done ?_
                        exact St.wk (hJ11 _ hm) (Wk.mk' [] rfl rfl (.eqs rfl) trivial rfl)
                      · refine U.skip (o := _) rfl (.skip 29 true 50 _ hb21 rfl rfl rfl) rfl rfl ?_
                        refine U.r (o := _) rfl (.take 26 false 47 _ rfl rfl rfl rfl) rfl rfl (by exact Rd.pk' rfl rfl hb21 rfl) ?_
                        refine U.r (o := _) rfl (.none rfl) rfl rfl (by exact Rd.pk' rfl rfl rfl rfl) ?_
                        refine U.done ?_
                        exact St.wk (hJ11 _ hm) (Wk.mk' [] rfl rfl (.eqs rfl) trivial rfl)
                    · refine U.p T rfl (.take 21 false 42 _ hb20 rfl rfl rfl) rfl rfl rfl ?_
                      refine U.p T rfl (.take 21 false 42 _ hb20 rfl rfl rfl) rfl rfl rfl ?_
                      refine U.r (o := _) rfl (.none rfl) rfl rfl (by exact Rd.pk' rfl rfl hb20 rfl) ?_
                      refine U.ps 2 T rfl ?_
                      refine hm.cs (fun hb22 hm => ?_) (fun hb22 hm => ?_)
                      · refine U.p T rfl (.take 26 false 47 _ (ntF hb22) rfl rfl rfl) rfl rfl rfl ?_
                        refine U.pg 2 26 false 47 (ntF hb22) T rfl rfl rfl rfl ?_
                        refine hm.cs (fun hb23 hm => ?_) (fun hb23 hm => ?_)
                        · refine U.p T rfl (.take 29 true 50 _ hb23 rfl rfl rfl) rfl rfl rfl ?_
                          refine U.r (o := _) rfl (.take 26 false 47 _ (ntF hb22) rfl rfl rfl) rfl rfl (by exact Rd.pk rfl rfl hb23 rfl) ?_
                          refine U.r (o := _) rfl (.none rfl) rfl rfl (by exact Rd.pk' rfl rfl (ntF hb22) rfl) ?_
                          refine U.done ?_
                          exact St.wk (hJ11 _ hm) (Wk.mk' [] rfl rfl (.eqs rfl) trivial rfl)
                        · refine U.skip (o := _) rfl (.skip 29 true 50 _ hb23 rfl rfl rfl) rfl rfl ?_
                          refine U.r (o := _) rfl (.take 26 false 47 _ (ntF hb22) rfl rfl rfl) rfl rfl (by exact Rd.pk' rfl rfl hb23 rfl) ?_
                          refine U.r (o := _) rfl (.none rfl) rfl rfl (by exact Rd.pk' rfl rfl (ntF hb22) rfl) ?_
                          refine U.done ?_
                          exact St.wk (hJ11 _ hm) (Wk.mk' [] rfl rfl (.eqs rfl) trivial rfl)
                      · refine U.skip (o := _) rfl (.skip 26 false 47 _ (ntT hb22) rfl rfl rfl) rfl rfl ?_
                        refine U.sks 2 26 false 47 (ntT hb22) rfl rfl rfl ?_
                        refine U.skip (o := _) rfl (.und 29 true 50 rfl rfl rfl) rfl rfl ?_
                        refine U.skip (o := _) rfl (.skip 26 false 47 _ (ntT hb22) rfl rfl rfl) rfl rfl ?_
                        refine U.r (o := _) rfl (.none rfl) rfl rfl (by exact Rd.pk rfl rfl (ntT hb22) rfl) ?_
                        refine U.done ?_
                        exact St.wk (hJ11 _ hm) (Wk.mk' [] rfl rfl (.eqs rfl) trivial rfl)
              · refine U.skip (o := _) rfl (.skip 9 true 30 _ hb15 rfl rfl rfl) rfl rfl ?_
                refine U.skip (o := _) rfl (.skip 9 true 30 _ hb15 rfl rfl rfl) rfl rfl ?_
                refine U.r (o := _) rfl (.take 6 false 27 _ hb13 rfl rfl rfl) rfl rfl (by exact Rd.pk' rfl rfl hb15 rfl) ?_
                refine U.r (o := _) rfl (.none rfl) rfl rfl (by exact Rd.pk' rfl rfl hb13 rfl) ?_
                refine U.p T rfl (.none rfl) rfl rfl rfl ?_
                refine U.p T rfl (.take 14 false 35 _ rfl rfl rfl rfl) rfl rfl rfl ?_
                refine U.r (o := _) rfl (.none rfl) rfl rfl (by exact Rd.pk' rfl rfl rfl rfl) ?_
                refine U.p T rfl (.none rfl) rfl rfl rfl ?_
                refine hm.cs (fun hb24 hm => ?_) (fun hb24 hm => ?_)
                · refine U.skip (o := _) rfl (.skip 17 false 38 _ hb24 rfl rfl rfl) rfl rfl ?_
                  refine U.skip (o := _) rfl (.skip 17 false 38 _ hb24 rfl rfl rfl) rfl rfl ?_
                  refine U.r (o := _) rfl (.none rfl) rfl rfl (by exact Rd.pk rfl rfl hb24 rfl) ?_
                  refine U.p T rfl (.none rfl) rfl rfl rfl ?_
                  refine U.sks 2 21 false 42 rfl rfl rfl rfl ?_
                  refine U.r (o := _) rfl (.none rfl) rfl rfl (by exact Rd.pk rfl rfl rfl rfl) ?_
                  refine U.ps 2 T rfl ?_
                  refine U.pg 3 26 false 47 rfl T rfl rfl rfl rfl ?_
                  refine hm.cs (fun hb25 hm => ?_) (fun hb25 hm => ?_)
                  · refine U.p T rfl (.take 29 true 50 _ hb25 rfl rfl rfl) rfl rfl rfl ?_
                    refine U.r (o := _) rfl (.take 26 false 47 _ rfl rfl rfl rfl) rfl rfl (by exact Rd.pk rfl rfl hb25 rfl) ?_
                    refine U.r (o := _) rfl (.none rfl) rfl rfl (by exact Rd.pk' rfl rfl rfl rfl) ?_
                    refine U.done ?_
                    exact St.wk (hJ11 _ hm) (Wk.mk' [] rfl rfl (.eqs rfl) trivial rfl)
                  · refine U.skip (o := _) rfl (.skip 29 true 50 _ hb25 rfl rfl rfl) rfl rfl ?_
                    refine U.r (o := _) rfl (.take 26 false 47 _ rfl rfl rfl rfl) rfl rfl (by exact Rd.pk' rfl rfl hb25 rfl) ?_
                    refine U.r (o := _) rfl (.none rfl) rfl rfl (by exact Rd.pk' rfl rfl rfl rfl) ?_
                    refine U.done ?_
                    exact St.wk (hJ11 _ hm) (Wk.mk' [] rfl rfl (.eqs rfl) trivial rfl)
                · refine U.p T rfl (.take 17 false 38 _ hb24 rfl rfl rfl) rfl rfl rfl ?_
                  refine U.p T rfl (.take 17 false 38 _ hb24 rfl rfl rfl) rfl rfl rfl ?_
                  refine U.r (o := _) rfl (.none rfl) rfl rfl (by exact Rd.pk' rfl rfl hb24 rfl) ?_
                  refine U.p T rfl (.none rfl) rfl rfl rfl ?_
                  refine hm.cs (fun hb26 hm => ?_) (fun hb26 hm => ?_)
                  · refine U.skip (o := _) rfl (.skip 21 false 42 _ hb26 rfl rfl rfl) rfl rfl ?_
                    refine U.skip (o := _) rfl (.skip 21 false 42 _ hb26 rfl rfl rfl) rfl rfl ?_
                    refine U.r (o := _) rfl (.none rfl) rfl rfl (by exact Rd.pk rfl rfl hb26 rfl) ?_
                    refine U.ps 2 T rfl ?_
                    refine U.pg 3 26 false 47 rfl T rfl rfl rfl rfl ?_
                    refine hm.cs (fun hb27 hm => ?_) (fun hb27 hm => ?_)
                    · refine U.p T rfl (.take 29 true 50 _ hb27 rfl rfl rfl) rfl rfl rfl ?_
                      refine U.r (o := _) rfl (.take 26 false 47 _ rfl rfl rfl rfl) rfl rfl (by exact Rd.pk rfl rfl hb27 rfl) ?_
                      refine U.r (o := _) rfl (.none rfl) rfl rfl (by exact Rd.pk' rfl rfl rfl rfl) ?_
                      refine U.done ?_
                      exact St.wk (hJ11 _ hm) (Wk.mk' [] rfl rfl (.eqs rfl) trivial rfl)
                    · refine U.skip (o := _) rfl (.skip 29 true 50 _ hb27 rfl rfl rfl) rfl rfl ?_
                      refine U.r (o := _) rfl (.take 26 false 47 _ rfl rfl rfl rfl) rfl rfl (by exact Rd.pk' rfl rfl hb27 rfl) ?_
                      refine U.r (o := _) rfl (.none rfl) rfl rfl (by exact Rd.pk' rfl rfl rfl rfl) ?_
                      refine U.done ?_
                      exact St.wk (hJ11 _ hm) (Wk.mk' [] rfl rfl (.eqs rfl) trivial rfl)
                  · refine U.p T rfl (.take 21 false 42 _ hb26 rfl rfl rfl) rfl rfl rfl ?_
                    refine U.p T rfl (.take 21 false 42 _ hb26 rfl rfl rfl) rfl rfl rfl ?_
                    refine U.r (o := _) rfl (.none rfl) rfl rfl (by exact Rd.pk' rfl rfl hb26 rfl) ?_
                    refine U.ps 2 T rfl ?_
                    refine hm.cs (fun hb28 hm => ?_) (fun hb28 hm => ?_)
                    · refine U.p T rfl (.take 26 false 47 _ (ntF hb28) rfl rfl rfl) rfl rfl rfl ?_
                      refine U.pg 2 26 false 47 (ntF hb28) T rfl rfl rfl rfl ?_
                      refine hm.cs (fun hb29 hm => ?_) (fun hb29 hm => ?_)
                      · refine U.p T rfl (.take 29 true 50 _ hb29 rfl rfl rfl) rfl rfl rfl ?_
                        refine U.r (o := _) rfl (.take 26 false 47 _ (ntF hb28) rfl rfl rfl) rfl rfl (by exact Rd.pk rfl rfl hb29 rfl) ?_
                        refine U.r (o := _) rfl (.none rfl) rfl rfl (by exact Rd.pk' rfl rfl (ntF hb28) rfl) ?_
                        refine U.done ?_
                        exact St.wk (hJ11 _ hm) (Wk.mk' [] rfl rfl (.eqs rfl) trivial rfl)
                      · refine U.skip (o := _) rfl (.skip 29 true 50 _ hb29 rfl rfl rfl) rfl rfl ?_
                        refine U.r (o := _) rfl (.take 26 false 47 _ (ntF hb28) rfl rfl rfl) rfl rfl (by exact Rd.pk' rfl rfl hb29 rfl) ?_
                        refine U.r (o := _) rfl (.none rfl) rfl rfl (by exact Rd.pk' rfl rfl (ntF hb28) rfl) ?_
                        refine U.done ?_
                        exact St.wk (hJ11 _ hm) (Wk.mk' [] rfl rfl (.eqs rfl) trivial rfl)
                    · refine U.skip (o := _) rfl (.skip 26 false 47 _ (ntT hb28) rfl rfl rfl) rfl rfl ?_
                      refine U.sks 2 26 false 47 (ntT hb28) rfl rfl rfl ?_
                      refine U.skip (o := _) rfl (.und 29 true 50 rfl rfl rfl) rfl rfl ?_
                      refine U.skip (o := _) rfl (.skip 26 false 47 _ (ntT hb28) rfl rfl rfl) rfl rfl ?_
                      refine U.r (o := _) rfl (.none rfl) rfl rfl (by exact Rd.pk rfl rfl (ntT hb28) rfl) ?_
                      refine U.done ?_
                      exact St.wk (hJ11 _ hm) (Wk.mk' [] rfl rfl (.eqs rfl) trivial rfl)
          · refine U.skip (o := _) rfl (.skip 2 true 23 _ hb12 rfl rfl rfl) rfl rfl ?_
            refine U.skip (o := _) rfl (.skip 2 true 23 _ hb12 rfl rfl rfl) rfl rfl ?_
            refine U.r (o := _) rfl (.none rfl) rfl rfl (by exact Rd.pk' rfl rfl hb12 rfl) ?_
            refine U.p T rfl (.none rfl) rfl rfl rfl ?_
            refine U.pg 3 6 false 27 rfl T rfl rfl rfl rfl ?_
            refine hm.cs (fun hb30 hm => ?_) (fun hb30 hm => ?_)
            · refine U.p T rfl (.take 9 true 30 _ hb30 rfl rfl rfl) rfl rfl rfl ?_
              refine U.p T rfl (.take 9 true 30 _ hb30 rfl rfl rfl) rfl rfl rfl ?_
              refine U.r (o := _) rfl (.take 6 false 27 _ rfl rfl rfl rfl) rfl rfl (by exact Rd.pk rfl rfl hb30 rfl) ?_
              refine U.r (o := _) rfl (.none rfl) rfl rfl (by exact Rd.pk' rfl rfl rfl rfl) ?_
              refine U.p T rfl (.none rfl) rfl rfl rfl ?_
              refine hm.cs (fun hb31 hm => ?_) (fun hb31 hm => ?_)
              · refine U.skip (o := _) rfl (.skip 14 false 35 _ hb31 rfl rfl rfl) rfl rfl ?_
                refine U.r (o := _) rfl (.none rfl) rfl rfl (by exact Rd.pk rfl rfl hb31 rfl) ?_
                refine U.p T rfl (.none rfl) rfl rfl rfl ?_
                refine U.sks 2 17 false 38 rfl rfl rfl rfl ?_
                refine U.r (o := _) rfl (.none rfl) rfl rfl (by exact Rd.pk rfl rfl rfl rfl) ?_
                refine U.p T rfl (.none rfl) rfl rfl rfl ?_
                refine U.sks 2 21 false 42 rfl rfl rfl rfl ?_
                refine U.r (o := _) rfl (.none rfl) rfl rfl (by exact Rd.pk rfl rfl rfl rfl) ?_
                refine U.ps 2 T rfl ?_
                refine U.pg 3 26 false 47 rfl T rfl rfl rfl rfl ?_
                refine hm.cs (fun hb32 hm => ?_) (fun hb32 hm => ?_)
                · refine U.p T rfl (.take 29 true 50 _ hb32 rfl rfl rfl) rfl rfl rfl ?_
                  refine U.r (o := _) rfl (.take 26 false 47 _ rfl rfl rfl rfl) rfl rfl (by exact Rd.pk rfl rfl hb32 rfl) ?_
                  refine U.r (o := _) rfl (.none rfl) rfl rfl (by exact Rd.pk' rfl rfl rfl rfl) ?_
                  refine U.done ?_
                  exact St.wk (hJ11 _ hm) (Wk.mk' [] rfl rfl (.eqs rfl) trivial rfl)
                · refine U.skip (o := _) rfl (.skip 29 true 50 _ hb32 rfl rfl rfl) rfl rfl ?_
                  refine U.r (o := _) rfl (.take 26 false 47 _ rfl rfl rfl rfl) rfl rfl (by exact Rd.pk' rfl rfl hb32 rfl) ?_
                  refine U.r (o := _) rfl (.none rfl) rfl rfl (by exact Rd.pk' rfl rfl rfl rfl) ?_
                  refine U.done ?_
                  exact St.wk (hJ11 _ hm) (Wk.mk' [] rfl rfl (.eqs rfl) trivial rfl)
              · refine U.p T rfl (.take 14 false 35 _ hb31 rfl rfl rfl) rfl rfl rfl ?_
                refine U.r (o := _) rfl (.none rfl) rfl rfl (by exact Rd.pk' rfl rfl hb31 rfl) ?_
                refine U.p T rfl (.none rfl) rfl rfl rfl ?_
                refine hm.cs (fun hb33 hm => ?_) (fun hb33 hm => ?_)
                · refine U.skip (o := _) rfl (.skip 17 false 38 _ hb33 rfl rfl rfl) rfl rfl ?_
                  refine U.skip (o := _) rfl (.skip 17 false 38 _ hb33 rfl rfl rfl) rfl rfl ?_
                  refine U.r (o := _) rfl (.none rfl) rfl rfl (by exact Rd.pk rfl rfl hb33 rfl) ?_
                  refine U.p T rfl (.none rfl) rfl rfl rfl ?_
                  refine U.sks 2 21 false 42 rfl rfl rfl rfl ?_
                  refine U.r (o := _) rfl (.none rfl) rfl rfl (by exact Rd.pk rfl rfl rfl rfl) ?_
                  refine U.ps 2 T rfl ?_
                  refine U.pg 3 26 false 47 rfl T rfl rfl rfl rfl ?_
                  refine hm.cs (fun hb34 hm => ?_) (fun hb34 hm => ?_)
                  · refine U.p T rfl (.take 29 true 50 _ hb34 rfl rfl rfl) rfl rfl rfl ?_
                    refine U.r (o := _) rfl (.take 26 false 47 _ rfl rfl rfl rfl) rfl rfl (by exact Rd.pk rfl rfl hb34 rfl) ?_
                    refine U.r (o := _) rfl (.none rfl) rfl rfl (by exact Rd.pk' rfl rfl rfl rfl) ?_
                    refine U.done ?_
                    exact St.wk (hJ11 _ hm) (Wk.mk' [] rfl rfl (.eqs rfl) trivial rfl)
                  · refine U.skip (o := _) rfl (.skip 29 true 50 _ hb34 rfl rfl rfl) rfl rfl ?_
                    refine U.r (o := _) rfl (.take 26 false 47 _ rfl rfl rfl rfl) rfl rfl (by exact Rd.pk' rfl rfl hb34 rfl) ?_
                    refine U.r (o := _) rfl (.none rfl) rfl rfl (by exact Rd.pk' rfl rfl rfl rfl) ?_
                    refine U.done ?_
                    exact St.wk (hJ11 _ hm) (Wk.mk' [] rfl rfl (.eqs rfl) trivial rfl)
                · refine U.p T rfl (.take 17 false 38 _ hb33 rfl rfl rfl) rfl rfl rfl ?_
                  refine U.p T rfl (.take 17 false 38 _ hb33 rfl rfl rfl) rfl rfl rfl ?_
                  refine U.r (o := _) rfl (.none rfl) rfl rfl (by exact Rd.pk' rfl rfl hb33 rfl) ?_
                  refine U.p T rfl (.none rfl) rfl rfl rfl ?_
                  refine hm.cs (fun hb35 hm => ?_) (fun hb35 hm => ?_)
                  · refine U.skip (o := _) rfl (.skip 21 false 42 _ hb35 rfl rfl rfl) rfl rfl ?_
                    refine U.skip (o := _) rfl (.skip 21 false 42 _ hb35 rfl rfl rfl) rfl rfl ?_
                    refine U.r (o := _) rfl (.none rfl) rfl rfl (by exact Rd.pk rfl rfl hb35 rfl) ?_
                    refine U.ps 2 T rfl ?_
                    refine U.pg 3 26 false 47 rfl T rfl rfl rfl rfl ?_
                    refine hm.cs (fun hb36 hm => ?_) (fun hb36 hm => ?_)
                    · refine U.p T rfl (.take 29 true 50 _ hb36 rfl rfl rfl) rfl rfl rfl ?_
                      refine U.r (o := _) rfl (.take 26 false 47 _ rfl rfl rfl rfl) rfl rfl (by exact Rd.pk rfl rfl hb36 rfl) ?_
                      refine U.r (o := _) rfl (.none rfl) rfl rfl (by exact Rd.pk' rfl rfl rfl rfl) ?_
                      refine U.done ?_
                      exact St.wk (hJ11 _ hm) (Wk.mk' [] rfl rfl (.eqs rfl) trivial rfl)
                    · refine U.skip (o := _) rfl (.skip 29 true 50 _ hb36 rfl rfl rfl) rfl rfl ?_
                      refine U.r (o := _) rfl (.take 26 false 47 _ rfl rfl rfl rfl) rfl rfl (by exact Rd.pk' rfl rfl hb36 rfl) ?_
                      refine U.r (o := _) rfl (.none rfl) rfl rfl (by exact Rd.pk' rfl rfl rfl rfl) ?_
                      refine U.done ?_
                      exact St.wk (hJ11 _ hm) (Wk.mk' [] rfl rfl (.eqs rfl) trivial rfl)
                  · refine U.p T rfl (.take 21 false 42 _ hb35 rfl rfl rfl) rfl rfl rfl ?_
                    refine U.p T rfl (.take 21 false 42 _ hb35 rfl rfl rfl) rfl rfl rfl ?_
                    refine U.r (o := _) rfl (.none rfl) rfl rfl (by exact Rd.pk' rfl rfl hb35 rfl) ?_
                    refine U.ps 2 T rfl ?_
                    refine hm.cs (fun hb37 hm => ?_) (fun hb37 hm => ?_)
                    · refine U.p T rfl (.take 26 false 47 _ (ntF hb37) rfl rfl rfl) rfl rfl rfl ?_
                      refine U.pg 2 26 false 47 (ntF hb37) T rfl rfl rfl rfl ?_
                      refine hm.cs (fun hb38 hm => ?_) (fun hb38 hm => ?_)
                      · refine U.p T rfl (.take 29 true 50 _ hb38 rfl rfl rfl) rfl rfl rfl ?_
                        refine U.r (o := _) rfl (.take 26 false 47 _ (ntF hb37) rfl rfl rfl) rfl rfl (by exact Rd.pk rfl rfl hb38 rfl) ?_
                        refine U.r (o := _) rfl (.none rfl) rfl rfl (by exact Rd.pk' rfl rfl (ntF hb37) rfl) ?_
                        refine U.done ?_
                        exact St.wk (hJ11 _ hm) (Wk.mk' [] rfl rfl (.eqs rfl) trivial rfl)
                      · refine U.skip (o := _) rfl (.skip 29 true 50 _ hb38 rfl rfl rfl) rfl rfl ?_
                        refine U.r (o := _) rfl (.take 26 false 47 _ (ntF hb37) rfl rfl rfl) rfl rfl (by exact Rd.pk' rfl rfl hb38 rfl) ?_
                        refine U.r (o := _) rfl (.none rfl) rfl rfl (by exact Rd.pk' rfl rfl (ntF hb37) rfl) ?_
                        refine U.done ?_
                        exact St.wk (hJ11 _ hm) (Wk.mk' [] rfl rfl (.eqs rfl) trivial rfl)
                    · refine U.skip (o := _) rfl (.skip 26 false 47 _ (ntT hb37) rfl rfl rfl) rfl rfl ?_
                      refine U.sks 2 26 false 47 (ntT hb37) rfl rfl rfl ?_
                      refine U.skip (o := _) rfl (.und 29 true 50 rfl rfl rfl) rfl rfl ?_
                      refine U.skip (o := _) rfl (.skip 26 false 47 _ (ntT hb37) rfl rfl rfl) rfl rfl ?_
                      refine U.r (o := _) rfl (.none rfl) rfl rfl (by exact Rd.pk rfl rfl (ntT hb37) rfl) ?_
                      refine U.done ?_
                      exact St.wk (hJ11 _ hm) (Wk.mk' [] rfl rfl (.eqs rfl) trivial rfl)
            · refine U.skip (o := _) rfl (.skip 9 true 30 _ hb30 rfl rfl rfl) rfl rfl ?_
              refine U.skip (o := _) rfl (.skip 9 true 30 _ hb30 rfl rfl rfl) rfl rfl ?_
              refine U.r (o := _) rfl (.take 6 false 27 _ rfl rfl rfl rfl) rfl rfl (by exact Rd.pk' rfl rfl hb30 rfl) ?_
              refine U.r (o := _) rfl (.none rfl) rfl rfl (by exact Rd.pk' rfl rfl rfl rfl) ?_
              refine U.p T rfl (.none rfl) rfl rfl rfl ?_
              refine U.p T rfl (.take 14 false 35 _ rfl rfl rfl rfl) rfl rfl rfl ?_
              refine U.r (o := _) rfl (.none rfl) rfl rfl (by exact Rd.pk' rfl rfl rfl rfl) ?_
              refine U.p T rfl (.none rfl) rfl rfl rfl ?_
              refine hm.cs (fun hb39 hm => ?_) (fun hb39 hm => ?_)
              · refine U.skip (o := _) rfl (.skip 17 false 38 _ hb39 rfl rfl rfl) rfl rfl ?_
                refine U.skip (o := _) rfl (.skip 17 false 38 _ hb39 rfl rfl rfl) rfl rfl ?_
                refine U.r (o := _) rfl (.none rfl) rfl rfl (by exact Rd.pk rfl rfl hb39 rfl) ?_
                refine U.p T rfl (.none rfl) rfl rfl rfl ?_
                refine U.sks 2 21 false 42 rfl rfl rfl rfl ?_
                refine U.r (o := _) rfl (.none rfl) rfl rfl (by exact Rd.pk rfl rfl rfl rfl) ?_
                refine U.ps 2 T rfl ?_
                refine U.pg 3 26 false 47 rfl T rfl rfl rfl rfl ?_
                refine hm.cs (fun hb40 hm => ?_) (fun hb40 hm => ?_)
                · refine U.p T rfl (.take 29 true 50 _ hb40 rfl rfl rfl) rfl rfl rfl ?_
                  refine U.r (o := _) rfl (.take 26 false 47 _ rfl rfl rfl rfl) rfl rfl (by exact Rd.pk rfl rfl hb40 rfl) ?_
                  refine U.r (o := _) rfl (.none rfl) rfl rfl (by exact Rd.pk' rfl rfl rfl rfl) ?_
                  refine U.done ?_
                  exact St.wk (hJ11 _ hm) (Wk.mk' [] rfl rfl (.eqs rfl) trivial rfl)
                · refine U.skip (o := _) rfl (.skip 29 true 50 _ hb40 rfl rfl rfl) rfl rfl ?_
                  refine U.r (o := _) rfl (.take 26 false 47 _ rfl rfl rfl rfl) rfl rfl (by exact Rd.pk' rfl rfl hb40 rfl) ?_
                  refine U.r (o := _) rfl (.none rfl) rfl rfl (by exact Rd.pk' rfl rfl rfl rfl) ?_
                  refine U.done ?_
                  exact St.wk (hJ11 _ hm) (Wk.mk' [] rfl rfl (.eqs rfl) trivial rfl)
              · refine U.p T rfl (.take 17 false 38 _ hb39 rfl rfl rfl) rfl rfl rfl ?_
                refine U.p T rfl (.take 17 false 38 _ hb39 rfl rfl rfl) rfl rfl rfl ?_
                refine U.r (o := _) rfl (.none rfl) rfl rfl (by exact Rd.pk' rfl rfl hb39 rfl) ?_
                refine U.p T rfl (.none rfl) rfl rfl rfl ?_
                refine hm.cs (fun hb41 hm => ?_) (fun hb41 hm => ?_)
                · refine U.skip (o := _) rfl (.skip 21 false 42 _ hb41 rfl rfl rfl) rfl rfl ?_
                  refine U.skip (o := _) rfl (.skip 21 false 42 _ hb41 rfl rfl rfl) rfl rfl ?_
                  refine U.r (o := _) rfl (.none rfl) rfl rfl (by exact Rd.pk rfl rfl hb41 rfl) ?_
                  refine U.ps 2 T rfl ?_
                  refine U.pg 3 26 false 47 rfl T rfl rfl rfl rfl ?_
                  refine hm.cs (fun hb42 hm => ?_) (fun hb42 hm => ?_)
                  · refine U.p T rfl (.take 29 true 50 _ hb42 rfl rfl rfl) rfl rfl rfl ?_
                    refine U.r (o := _) rfl (.take 26 false 47 _ rfl rfl rfl rfl) rfl rfl (by exact Rd.pk rfl rfl hb42 rfl) ?_
                    refine U.r (o := _) rfl (.none rfl) rfl rfl (by exact Rd.pk' rfl rfl rfl rfl) ?_
                    refine U.done ?_
                    exact St.wk (hJ11 _ hm) (Wk.mk' [] rfl rfl (.eqs rfl) trivial rfl)
                  · refine U.skip (o := _) rfl (.skip 29 true 50 _ hb42 rfl rfl rfl) rfl rfl ?_
                    refine U.r (o := _) rfl (.take 26 false 47 _ rfl rfl rfl rfl) rfl rfl (by exact Rd.pk' rfl rfl hb42 rfl) ?_
                    refine U.r (o := _) rfl (.none rfl) rfl rfl (by exact Rd.pk' rfl rfl rfl rfl) ?_
                    refine U.done ?_
                    exact St.wk (hJ11 _ hm) (Wk.mk' [] rfl rfl (.eqs rfl) trivial rfl)
                · refine U.p T rfl (.take 21 false 42 _ hb41 rfl rfl rfl) rfl rfl rfl ?_
                  refine U.p T rfl (.take 21 false 42 _ hb41 rfl rfl rfl) rfl rfl rfl ?_
                  refine U.r (o := _) rfl (.none rfl) rfl rfl (by exact Rd.pk' rfl rfl hb41 rfl) ?_
                  refine U.ps 2 T rfl ?_
                  refine hm.cs (fun hb43 hm => ?_) (fun hb43 hm => ?_)
                  · refine U.p T rfl (.take 26 false 47 _ (ntF hb43) rfl rfl rfl) rfl rfl rfl ?_
                    refine U.pg 2 26 false 47 (ntF hb43) T rfl rfl rfl rfl ?_
                    refine hm.cs (fun hb44 hm => ?_) (fun hb44 hm => ?_)
                    · refine U.p T rfl (.take 29 true 50 _ hb44 rfl rfl rfl) rfl rfl rfl ?_
                      refine U.r (o := _) rfl (.take 26 false 47 _ (ntF hb43) rfl rfl rfl) rfl rfl (by exact Rd.pk rfl rfl hb44 rfl) ?_
                      refine U.r (o := _) rfl (.none rfl) rfl rfl (by exact Rd.pk' rfl rfl (ntF hb43) rfl) ?_
                      refine U.done ?_
                      exact St.wk (hJ11 _ hm) (Wk.mk' [] rfl rfl (.eqs rfl) trivial rfl)
                    · refine U.skip (o := _) rfl (.skip 29 true 50 _ hb44 rfl rfl rfl) rfl rfl ?_
                      refine U.r (o := _) rfl (.take 26 false 47 _ (ntF hb43) rfl rfl rfl) rfl rfl (by exact Rd.pk' rfl rfl hb44 rfl) ?_
                      refine U.r (o := _) rfl (.none rfl) rfl rfl (by exact Rd.pk' rfl rfl (ntF hb43) rfl) ?_
                      refine U.done ?_
                      exact St.wk (hJ11 _ hm) (Wk.mk' [] rfl rfl (.eqs rfl) trivial rfl)
                  · refine U.skip (o := _) rfl (.skip 26 false 47 _ (ntT hb43) rfl rfl rfl) rfl rfl ?_
                    refine U.sks 2 26 false 47 (ntT hb43) rfl rfl rfl ?_
                    refine U.skip (o := _) rfl (.und 29 true 50 rfl rfl rfl) rfl rfl ?_
                    refine U.skip (o := _) rfl (.skip 26 false 47 _ (ntT hb43) rfl rfl rfl) rfl rfl ?_
                    refine U.r (o := _) rfl (.none rfl) rfl rfl (by exact Rd.pk rfl rfl (ntT hb43) rfl) ?_
                    refine U.done ?_
                    exact St.wk (hJ11 _ hm) (Wk.mk' [] rfl rfl (.eqs rfl) trivial rfl)
      · refine U.start ?_
        refine U.ps 3 T rfl ?_
        refine hm.cs (fun hb9 hm => ?_) (fun hb9 hm => ?_)
        · refine U.p T rfl (.take 2 true 17 _ hb9 rfl rfl rfl) rfl rfl rfl ?_
          refine U.p T rfl (.take 2 true 17 _ hb9 rfl rfl rfl) rfl rfl rfl ?_
          refine U.r (o := _) rfl (.none rfl) rfl rfl (by exact Rd.pk rfl rfl hb9 rfl) ?_
          refine U.p T rfl (.none rfl) rfl rfl rfl ?_
          refine U.done ?_
          exact St.wk (hJ8 _ hm) (Wk.mk' [] rfl rfl (.eqs rfl) trivial rfl)
        · refine U.skip (o := _) rfl (.skip 2 true 17 _ hb9 rfl rfl rfl) rfl rfl ?_
          refine U.skip (o := _) rfl (.skip 2 true 17 _ hb9 rfl rfl rfl) rfl rfl ?_
          refine U.r (o := _) rfl (.none rfl) rfl rfl (by exact Rd.pk' rfl rfl hb9 rfl) ?_
          refine U.p T rfl (.none rfl) rfl rfl rfl ?_
          refine U.done ?_
          exact St.wk (hJ8 _ hm) (Wk.mk' [] rfl rfl (.eqs rfl) trivial rfl)
    · refine C.exit ?_
      refine C.ex ?_
      refine C.ex ?_
      refine C.bex ?_
      exact St.wk (hJ2 _ hm) (Wk.mk' [] rfl rfl (.eqs rfl) trivial rfl)
theorem T_taquinref11_named (l : List ApiZone) (name : ByteArray) (post : Int → Prop) (hm : V_taquinref11_named l name post) :
    Tr Try.prog 65 [.sl 5 eApiZone l, .v (.string name)] [] 0 (fun A H' k => ∃ y, post y ∧ A = (.v (.int .i64 y)) ∧ H' = [] ∧ k = 0) := by
  refine Tr.intro (n := 20) Try.func65 rfl Try.ntmps65 rfl (fun w0 ok F β hβ => ?_)
  unfold V_taquinref11_named at hm
  refine C.seq ?_
  refine U.start ?_
  refine U.p T rfl (.none rfl) rfl rfl rfl ?_
  refine U.done ?_
  refine C.nx ?_
  refine C.seq ?_
  refine C.seq ?_
  refine U.start ?_
  refine U.p T rfl (.none rfl) rfl rfl rfl ?_
  refine U.done ?_
  refine C.nx ?_
  refine C.jn (fun (x1 : Unit) => []) (fun (x1 : Unit) => []) 0 hm (fun x1 hm => ?_) (fun J2 hm hJ2 => ?_)
  · refine C.nx ?_
    refine C.seq ?_
    refine U.start ?_
    refine U.p T rfl (.none rfl) rfl rfl rfl ?_
    refine U.done ?_
    refine C.nx ?_
    refine C.ret ?_
    exact C.fin T (rs' := [.v (.int .i64 (-1))]) (H' := []) (nl' := 0) [] rfl rfl (.eq rfl) trivial rfl rfl rfl rfl hβ ⟨(-1), hm, rfl, rfl, rfl⟩
  · refine C.block ?_
    refine St.wk (C.loop (fun (s3 : Int) => [(0, .sl 5 eApiZone l), (1, .v (.string name)), (5, .v (.int .i64 s3))]) (fun (s3 : Int) => []) hm (fun s3 Y4 hm => ?_)) (Wk.mk' [] rfl rfl (.eqs rfl) trivial rfl)
    refine C.seq ?_
    refine C.seq ?_
    refine U.start ?_
    refine U.ps 4 T rfl ?_
    refine U.done ?_
    refine C.nx ?_
    refine C.ite rfl hm (fun hb5 hm => ?_) (fun hb5 hm => ?_)
    · refine C.skip ?_
      refine C.nx ?_
      refine C.seq ?_
      refine C.block ?_
      refine C.seq ?_
      refine U.start ?_
      refine U.ps 2 T rfl ?_
      obtain ⟨x6, hx6, hm⟩ := hm
      refine U.r (o := _) rfl (.none rfl) rfl rfl (by exact Rd.ix T rfl rfl rfl rfl rfl rfl hx6) ?_
      refine U.ps 4 T rfl ?_
      refine U.done ?_
      refine C.nx ?_
      refine C.ite rfl hm (fun hb7 hm => ?_) (fun hb7 hm => ?_)
      · refine C.seq ?_
        refine U.start ?_
        refine U.ps 2 T rfl ?_
        refine U.done ?_
        refine C.nx ?_
        refine C.ret ?_
        refine C.brt ?_
        refine C.rt ?_
        refine C.rt ?_
        refine C.brt ?_
        refine C.rt ?_
        exact C.fin T (rs' := [.v (.int .i64 s3)]) (H' := []) (nl' := 0) [] rfl rfl (.eq rfl) trivial rfl rfl rfl rfl hβ ⟨s3, hm, rfl, rfl, rfl⟩
      · refine C.skip ?_
        refine C.bnx ?_
        refine C.nx ?_
        refine U.start ?_
        refine U.ps 3 T rfl ?_
        refine U.done ?_
        refine C.nx ?_
        exact St.wk (C.next hm) (Wk.mk' [] rfl rfl (.eqs rfl) trivial rfl)
    · refine C.exit ?_
      refine C.ex ?_
      refine C.ex ?_
      refine C.bex ?_
      exact St.wk (hJ2 _ hm) (Wk.mk' [] rfl rfl trivial trivial rfl)
theorem T_taquinref11_spans (l : List ApiSpan) (post : Bool → Prop) (hm : V_taquinref11_spans l post) :
    Tr Try.prog 66 [.sl 2 eApiSpan l] [] 0 (fun A H' k => ∃ y, post y ∧ A = (.v (.bool y)) ∧ H' = [] ∧ k = 0) := by
  refine Tr.intro (n := 44) Try.func66 rfl Try.ntmps66 rfl (fun w0 ok F β hβ => ?_)
  unfold V_taquinref11_spans at hm
  refine C.seq ?_
  refine U.start ?_
  refine U.p T rfl (.none rfl) rfl rfl rfl ?_
  refine U.done ?_
  refine C.nx ?_
  refine C.seq ?_
  refine U.start ?_
  refine U.p T rfl (.none rfl) rfl rfl rfl ?_
  refine U.done ?_
  refine C.nx ?_
  refine C.seq ?_
  refine C.seq ?_
  refine U.start ?_
  refine U.p T rfl (.none rfl) rfl rfl rfl ?_
  refine U.done ?_
  refine C.nx ?_
  refine C.jn (fun (x1 : Unit) => []) (fun (x1 : Unit) => []) 0 hm (fun x1 hm => ?_) (fun J2 hm hJ2 => ?_)
  · refine C.nx ?_
    refine C.seq ?_
    refine U.start ?_
    refine U.p T rfl (.none rfl) rfl rfl rfl ?_
    refine U.done ?_
    refine C.nx ?_
    refine C.ret ?_
    exact C.fin T (rs' := [.v (.bool true)]) (H' := []) (nl' := 0) [] rfl rfl (.eq rfl) trivial rfl rfl rfl rfl hβ ⟨true, hm, rfl, rfl, rfl⟩
  · refine C.block ?_
    refine St.wk (C.loop (fun (s3 : Int × Int) => [(0, .sl 2 eApiSpan l), (3, .v (.int .i64 s3.1)), (4, .v (.int .i64 s3.2))]) (fun (s3 : Int × Int) => []) hm (fun s3 Y4 hm => ?_)) (Wk.mk' [] rfl rfl (.eqs rfl) trivial rfl)
    refine C.seq ?_
    refine C.seq ?_
    refine U.start ?_
    refine U.ps 4 T rfl ?_
    refine U.done ?_
    refine C.nx ?_
    refine C.ite rfl hm (fun hb5 hm => ?_) (fun hb5 hm => ?_)
    · refine C.skip ?_
      refine C.nx ?_
      refine C.seq ?_
      refine C.block ?_
      refine C.seq ?_
      refine C.seq ?_
      refine C.jn (fun (x6 : Bool) => [(0, .sl 2 eApiSpan l), (4, .v (.int .i64 s3.2)), (38, .v (.bool x6))]) (fun (x6 : Bool) => []) 0 hm (fun x6 hm => ?_) (fun J7 hm hJ7 => ?_)
      · refine C.nx ?_
        refine C.ite rfl hm (fun hb11 hm => ?_) (fun hb11 hm => ?_)
        · refine C.seq ?_
          refine U.start ?_
          refine U.p T rfl (.none rfl) rfl rfl rfl ?_
          refine U.done ?_
          refine C.nx ?_
          refine C.ret ?_
          refine C.rt ?_
          refine C.brt ?_
          refine C.rt ?_
          refine C.rt ?_
          refine C.brt ?_
          refine C.rt ?_
          exact C.fin T (rs' := [.v (.bool false)]) (H' := []) (nl' := 0) [] rfl rfl (.eq rfl) trivial rfl rfl rfl rfl hβ ⟨false, hm, rfl, rfl, rfl⟩
        · refine C.skip ?_
          refine C.nx ?_
          refine U.start ?_
          refine U.ps 2 T rfl ?_
          obtain ⟨x12, hx12, hm⟩ := hm
          refine U.r (o := _) rfl (.none rfl) rfl rfl (by exact Rd.ix T rfl rfl rfl rfl rfl rfl hx12) ?_
          refine U.ps 3 T rfl ?_
          refine U.done ?_
          refine C.bnx ?_
          refine C.nx ?_
          refine U.start ?_
          refine U.ps 3 T rfl ?_
          refine U.done ?_
          refine C.nx ?_
          exact St.wk (C.next hm) (Wk.mk' [] rfl rfl (.eqs rfl) trivial rfl)
      · refine D.beg 9999 [] [] mix rfl rfl (by kernel_rfl) (by repeat (first | exact NoPanicQ.body | refine NoPanicQ.th ?_ | refine NoPanicQ.blk ?_)) (fun hQ hS ws M' => ?_)
        refine D.ps 2 [(0, []), (1, [])] rfl hQ hS T rfl rfl (by kernel_rfl) ?_
        obtain ⟨x8, hx8, hm⟩ := hm
        refine D.q (o := _) 2 [] hQ hS rfl (.none rfl) rfl rfl (by exact Rd.ix T rfl rfl rfl rfl rfl rfl hx8) rfl (by kernel_rfl) ?_
        refine D.ps 5 [(3, []), (4, []), (5, []), (6, []), (7, [])] rfl hQ hS T rfl rfl (by kernel_rfl) ?_
        refine hm.cs (fun hb9 hm => ?_) (fun hb9 hm => ?_)
        · refine D.sq (o := _) 8 [] hQ hS rfl (.skip 7 false 18 _ hb9 rfl rfl rfl) rfl rfl (by kernel_rfl) ?_
          refine D.sq (o := _) 9 [] hQ hS rfl (.skip 7 false 18 _ hb9 rfl rfl rfl) rfl rfl (by kernel_rfl) ?_
          refine D.sq (o := _) 10 [] hQ hS rfl (.skip 7 false 18 _ hb9 rfl rfl rfl) rfl rfl (by kernel_rfl) ?_
          refine D.sq (o := _) 11 [] hQ hS rfl (.skip 7 false 18 _ hb9 rfl rfl rfl) rfl rfl (by kernel_rfl) ?_
          refine D.sq (o := _) 12 [] hQ hS rfl (.skip 7 false 18 _ hb9 rfl rfl rfl) rfl rfl (by kernel_rfl) ?_
          refine D.sq (o := _) 13 [] hQ hS rfl (.skip 7 false 18 _ hb9 rfl rfl rfl) rfl rfl (by kernel_rfl) ?_
          refine D.sq (o := _) 14 [] hQ hS rfl (.skip 7 false 18 _ hb9 rfl rfl rfl) rfl rfl (by kernel_rfl) ?_
          refine D.sq (o := _) 15 [] hQ hS rfl (.skip 7 false 18 _ hb9 rfl rfl rfl) rfl rfl (by kernel_rfl) ?_
          refine D.sq (o := _) 16 [] hQ hS rfl (.skip 7 false 18 _ hb9 rfl rfl rfl) rfl rfl (by kernel_rfl) ?_
          refine D.sq (o := _) 17 [] hQ hS rfl (.skip 7 false 18 _ hb9 rfl rfl rfl) rfl rfl (by kernel_rfl) ?_
          refine D.sq (o := _) 18 [] hQ hS rfl (.skip 7 false 18 _ hb9 rfl rfl rfl) rfl rfl (by kernel_rfl) ?_
          refine D.q (o := _) 19 [] hQ hS rfl (.none rfl) rfl rfl (by exact Rd.pk rfl rfl hb9 rfl) rfl (by kernel_rfl) ?_
          refine D.ps 1 [(20, [])] rfl hQ hS T rfl rfl (by kernel_rfl) ?_
          refine D.sq (o := _) 21 [] hQ hS rfl (.skip 20 false 31 _ rfl rfl rfl rfl) rfl rfl (by kernel_rfl) ?_
          refine D.sq (o := _) 22 [] hQ hS rfl (.skip 20 false 31 _ rfl rfl rfl rfl) rfl rfl (by kernel_rfl) ?_
          refine D.sq (o := _) 23 [] hQ hS rfl (.skip 20 false 31 _ rfl rfl rfl rfl) rfl rfl (by kernel_rfl) ?_
          refine D.sq (o := _) 24 [] hQ hS rfl (.skip 20 false 31 _ rfl rfl rfl rfl) rfl rfl (by kernel_rfl) ?_
          refine D.sq (o := _) 25 [] hQ hS rfl (.skip 20 false 31 _ rfl rfl rfl rfl) rfl rfl (by kernel_rfl) ?_
          refine D.sq (o := _) 26 [] hQ hS rfl (.skip 20 false 31 _ rfl rfl rfl rfl) rfl rfl (by kernel_rfl) ?_
          refine D.q (o := _) 27 [] hQ hS rfl (.none rfl) rfl rfl (by exact Rd.pk rfl rfl rfl rfl) rfl (by kernel_rfl) ?_
          refine D.done (by kernel_rfl) ?_
          exact St.wk (hJ7 _ hm) (Wk.mk' [] rfl rfl (.eqs rfl) trivial rfl)
        · refine D.q (o := _) 8 [] hQ hS rfl (.take 7 false 18 _ hb9 rfl rfl rfl) rfl rfl (by exact Rd.p T rfl) rfl (by kernel_rfl) ?_
          refine D.q (o := _) 9 [] hQ hS rfl (.take 7 false 18 _ hb9 rfl rfl rfl) rfl rfl (by exact Rd.p T rfl) rfl (by kernel_rfl) ?_
          refine D.q (o := _) 10 [] hQ hS rfl (.take 7 false 18 _ hb9 rfl rfl rfl) rfl rfl (by exact Rd.ix T rfl rfl rfl rfl rfl rfl hx8) rfl (by kernel_rfl) ?_
          refine D.q (o := _) 11 [] hQ hS rfl (.take 7 false 18 _ hb9 rfl rfl rfl) rfl rfl (by exact Rd.p T rfl) rfl (by kernel_rfl) ?_
          refine D.q (o := _) 12 [] hQ hS rfl (.take 7 false 18 _ hb9 rfl rfl rfl) rfl rfl (by exact Rd.l T rfl rfl rfl) rfl (by kernel_rfl) ?_
          refine D.q (o := _) 13 [] hQ hS rfl (.take 7 false 18 _ hb9 rfl rfl rfl) rfl rfl (by exact Rd.p T rfl) rfl (by kernel_rfl) ?_
          refine D.q (o := _) 14 [] hQ hS rfl (.take 7 false 18 _ hb9 rfl rfl rfl) rfl rfl (by exact Rd.p T rfl) rfl (by kernel_rfl) ?_
          refine D.q (o := _) 15 [] hQ hS rfl (.take 7 false 18 _ hb9 rfl rfl rfl) rfl rfl (by exact Rd.ix T rfl rfl rfl rfl rfl rfl hx8) rfl (by kernel_rfl) ?_
          refine D.q (o := _) 16 [] hQ hS rfl (.take 7 false 18 _ hb9 rfl rfl rfl) rfl rfl (by exact Rd.p T rfl) rfl (by kernel_rfl) ?_
          refine D.q (o := _) 17 [] hQ hS rfl (.take 7 false 18 _ hb9 rfl rfl rfl) rfl rfl (by exact Rd.l T rfl rfl rfl) rfl (by kernel_rfl) ?_
          refine D.q (o := _) 18 [] hQ hS rfl (.take 7 false 18 _ hb9 rfl rfl rfl) rfl rfl (by exact Rd.p T rfl) rfl (by kernel_rfl) ?_
          refine D.q (o := _) 19 [] hQ hS rfl (.none rfl) rfl rfl (by exact Rd.pk' rfl rfl hb9 rfl) rfl (by kernel_rfl) ?_
          refine D.ps 1 [(20, [])] rfl hQ hS T rfl rfl (by kernel_rfl) ?_
          refine hm.cs (fun hb10 hm => ?_) (fun hb10 hm => ?_)
          · refine D.sq (o := _) 21 [] hQ hS rfl (.skip 20 false 31 _ hb10 rfl rfl rfl) rfl rfl (by kernel_rfl) ?_
            refine D.sq (o := _) 22 [] hQ hS rfl (.skip 20 false 31 _ hb10 rfl rfl rfl) rfl rfl (by kernel_rfl) ?_
            refine D.sq (o := _) 23 [] hQ hS rfl (.skip 20 false 31 _ hb10 rfl rfl rfl) rfl rfl (by kernel_rfl) ?_
            refine D.sq (o := _) 24 [] hQ hS rfl (.skip 20 false 31 _ hb10 rfl rfl rfl) rfl rfl (by kernel_rfl) ?_
            refine D.sq (o := _) 25 [] hQ hS rfl (.skip 20 false 31 _ hb10 rfl rfl rfl) rfl rfl (by kernel_rfl) ?_
            refine D.sq (o := _) 26 [] hQ hS rfl (.skip 20 false 31 _ hb10 rfl rfl rfl) rfl rfl (by kernel_rfl) ?_
            refine D.q (o := _) 27 [] hQ hS rfl (.none rfl) rfl rfl (by exact Rd.pk rfl rfl hb10 rfl) rfl (by kernel_rfl) ?_
            refine D.done (by kernel_rfl) ?_
            exact St.wk (hJ7 _ hm) (Wk.mk' [] rfl rfl (.eqs rfl) trivial rfl)
          · refine D.q (o := _) 21 [] hQ hS rfl (.take 20 false 31 _ hb10 rfl rfl rfl) rfl rfl (by exact Rd.p T rfl) rfl (by kernel_rfl) ?_
            refine D.q (o := _) 22 [] hQ hS rfl (.take 20 false 31 _ hb10 rfl rfl rfl) rfl rfl (by exact Rd.p T rfl) rfl (by kernel_rfl) ?_
            refine D.q (o := _) 23 [] hQ hS rfl (.take 20 false 31 _ hb10 rfl rfl rfl) rfl rfl (by exact Rd.ix T rfl rfl rfl rfl rfl rfl hx8) rfl (by kernel_rfl) ?_
            refine D.q (o := _) 24 [] hQ hS rfl (.take 20 false 31 _ hb10 rfl rfl rfl) rfl rfl (by exact Rd.p T rfl) rfl (by kernel_rfl) ?_
            refine D.q (o := _) 25 [] hQ hS rfl (.take 20 false 31 _ hb10 rfl rfl rfl) rfl rfl (by exact Rd.l T rfl rfl rfl) rfl (by kernel_rfl) ?_
            refine D.q (o := _) 26 [] hQ hS rfl (.take 20 false 31 _ hb10 rfl rfl rfl) rfl rfl (by exact Rd.p T rfl) rfl (by kernel_rfl) ?_
            refine D.q (o := _) 27 [] hQ hS rfl (.none rfl) rfl rfl (by exact Rd.pk' rfl rfl hb10 rfl) rfl (by kernel_rfl) ?_
            refine D.done (by kernel_rfl) ?_
            exact St.wk (hJ7 _ hm) (Wk.mk' [] rfl rfl (.eqs rfl) trivial rfl)
    · refine C.exit ?_
      refine C.ex ?_
      refine C.ex ?_
      refine C.bex ?_
      exact St.wk (hJ2 _ hm) (Wk.mk' [] rfl rfl trivial trivial rfl)
theorem T_taquinref07_Size (f : ApiFloor) (post : Int → Prop) (hm : V_taquinref07_Size f post) :
    Tr Try.prog 31 [.agg [.v (.int .i64 f.W), .v (.int .i64 f.H), .v (.int .i64 f.D), .sl 1 eI f.Kind, .sl 1 eI f.Out]] [] 0 (fun A H' k => ∃ y, post y ∧ A = (.v (.int .i64 y)) ∧ H' = [] ∧ k = 0) := by
  refine Tr.intro (n := 11) Try.func31 rfl Try.ntmps31 rfl (fun w0 ok F β hβ => ?_)
  unfold V_taquinref07_Size at hm
  refine C.seq ?_
  refine U.start ?_
  refine U.e1 (o := _) rfl (.none rfl) (by exact Eff1.box rfl rfl rfl rfl rfl) ?_
  refine U.p T rfl (.none rfl) rfl rfl rfl ?_
  refine U.done ?_
  refine C.nx ?_
  refine C.seq ?_
  refine U.start ?_
  refine U.ps 9 T rfl ?_
  refine U.done ?_
  refine C.nx ?_
  refine C.ret ?_
  exact C.fin T (rs' := [.v (.int .i64 (w64 ((w64 (f.W * f.H)) * f.D)))]) (H' := []) (nl' := 0) [] rfl rfl (.eq rfl) trivial rfl rfl rfl rfl hβ ⟨w64 ((w64 (f.W * f.H)) * f.D), hm, rfl, rfl, rfl⟩
theorem T_taquinref07_Is (f : ApiFloor) (c : Int) (post : Bool → Prop) (hm : V_taquinref07_Is f c post) :
    Tr Try.prog 34 [.agg [.v (.int .i64 f.W), .v (.int .i64 f.H), .v (.int .i64 f.D), .sl 1 eI f.Kind, .sl 1 eI f.Out], .v (.int .i64 c)] [] 0 (fun A H' k => ∃ y, post y ∧ A = (.v (.bool y)) ∧ H' = [] ∧ k = 0) := by
  refine Tr.intro (n := 13) Try.func34 rfl Try.ntmps34 rfl (fun w0 ok F β hβ => ?_)
  unfold V_taquinref07_Is at hm
  refine C.seq ?_
  refine U.start ?_
  refine U.e1 (o := _) rfl (.none rfl) (by exact Eff1.box rfl rfl rfl rfl rfl) ?_
  refine U.p T rfl (.none rfl) rfl rfl rfl ?_
  refine U.done ?_
  refine C.nx ?_
  refine C.seq ?_
  refine C.jn (fun (x1 : Bool) => [(4, .v (.bool x1))]) (fun (x1 : Bool) => []) 0 hm (fun x1 hm => ?_) (fun J2 hm hJ2 => ?_)
  · refine C.nx ?_
    refine C.ret ?_
    exact C.fin T (rs' := [.v (.bool x1)]) (H' := []) (nl' := 0) [] rfl rfl (.eq rfl) trivial rfl rfl rfl rfl hβ ⟨x1, hm, rfl, rfl, rfl⟩
  · refine U.start ?_
    refine U.ps 3 T rfl ?_
    refine hm.cs (fun hb3 hm => ?_) (fun hb3 hm => ?_)
    · refine U.p T rfl (.take 2 true 7 _ hb3 rfl rfl rfl) rfl rfl rfl ?_
      refine U.l T rfl (.take 2 true 7 _ hb3 rfl rfl rfl) rfl rfl rfl rfl rfl ?_
      refine U.e (o := _) rfl (.take 2 true 7 _ hb3 rfl rfl rfl) (by exact Eff.c [] (v := true) (T_taquinref07_Size f _ hm) en31 rfl rfl rfl (.eq rfl) trivial rfl rfl rfl rfl rfl rfl (fun _ _ => ⟨(.v _), trivial⟩) (.inr ⟨rfl, rfl⟩) (fun _ => rfl) (fun _ => rfl) rfl) (fun x4' hm => ?_)
      obtain ⟨x4⟩ := x4'
      refine U.p T rfl (.take 2 true 7 _ hb3 rfl rfl rfl) rfl rfl rfl ?_
      refine U.r (o := _) rfl (.none rfl) rfl rfl (by exact Rd.pk rfl rfl hb3 rfl) ?_
      refine U.p T rfl (.none rfl) rfl rfl rfl ?_
      refine U.done ?_
      exact St.wk (hJ2 _ hm) (Wk.mk' [] rfl rfl (.eqs rfl) trivial rfl)
    · refine U.skip (o := _) rfl (.skip 2 true 7 _ hb3 rfl rfl rfl) rfl rfl ?_
      refine U.sks 3 2 true 7 hb3 rfl rfl rfl ?_
      refine U.r (o := _) rfl (.none rfl) rfl rfl (by exact Rd.pk' rfl rfl hb3 rfl) ?_
      refine U.p T rfl (.none rfl) rfl rfl rfl ?_
      refine U.done ?_
      exact St.wk (hJ2 _ hm) (Wk.mk' [] rfl rfl (.eqs rfl) trivial rfl)
theorem T_taquinref11_zoned (kind : Int) (post : Bool → Prop) (hm : V_taquinref11_zoned kind post) :
    Tr Try.prog 67 [.v (.int .i64 kind)] [] 0 (fun A H' k => ∃ y, post y ∧ A = (.v (.bool y)) ∧ H' = [] ∧ k = 0) := by
  refine Tr.intro (n := 13) Try.func67 rfl Try.ntmps67 rfl (fun w0 ok F β hβ => ?_)
  unfold V_taquinref11_zoned at hm
  refine C.seq ?_
  refine U.start ?_
  refine U.p T rfl (.none rfl) rfl rfl rfl ?_
  refine U.done ?_
  refine C.nx ?_
  refine C.seq ?_
  refine C.jn (fun (x1 : Bool) => [(2, .v (.bool x1))]) (fun (x1 : Bool) => []) 0 hm (fun x1 hm => ?_) (fun J2 hm hJ2 => ?_)
  · refine C.nx ?_
    refine C.ret ?_
    exact C.fin T (rs' := [.v (.bool x1)]) (H' := []) (nl' := 0) [] rfl rfl (.eq rfl) trivial rfl rfl rfl rfl hβ ⟨x1, hm, rfl, rfl, rfl⟩
  · refine U.start ?_
    refine U.ps 3 T rfl ?_
    refine hm.cs (fun hb3 hm => ?_) (fun hb3 hm => ?_)
    · refine U.p T rfl (.take 2 true 5 _ hb3 rfl rfl rfl) rfl rfl rfl ?_
      refine U.p T rfl (.take 2 true 5 _ hb3 rfl rfl rfl) rfl rfl rfl ?_
      refine U.r (o := _) rfl (.none rfl) rfl rfl (by exact Rd.pk rfl rfl hb3 rfl) ?_
      refine U.p T rfl (.none rfl) rfl rfl rfl ?_
      refine hm.cs (fun hb4 hm => ?_) (fun hb4 hm => ?_)
      · refine U.p T rfl (.take 6 true 9 _ hb4 rfl rfl rfl) rfl rfl rfl ?_
        refine U.p T rfl (.take 6 true 9 _ hb4 rfl rfl rfl) rfl rfl rfl ?_
        refine U.r (o := _) rfl (.none rfl) rfl rfl (by exact Rd.pk rfl rfl hb4 rfl) ?_
        refine U.p T rfl (.none rfl) rfl rfl rfl ?_
        refine U.done ?_
        exact St.wk (hJ2 _ hm) (Wk.mk' [] rfl rfl (.eqs rfl) trivial rfl)
      · refine U.skip (o := _) rfl (.skip 6 true 9 _ hb4 rfl rfl rfl) rfl rfl ?_
        refine U.skip (o := _) rfl (.skip 6 true 9 _ hb4 rfl rfl rfl) rfl rfl ?_
        refine U.r (o := _) rfl (.none rfl) rfl rfl (by exact Rd.pk' rfl rfl hb4 rfl) ?_
        refine U.p T rfl (.none rfl) rfl rfl rfl ?_
        refine U.done ?_
        exact St.wk (hJ2 _ hm) (Wk.mk' [] rfl rfl (.eqs rfl) trivial rfl)
    · refine U.skip (o := _) rfl (.skip 2 true 5 _ hb3 rfl rfl rfl) rfl rfl ?_
      refine U.skip (o := _) rfl (.skip 2 true 5 _ hb3 rfl rfl rfl) rfl rfl ?_
      refine U.r (o := _) rfl (.none rfl) rfl rfl (by exact Rd.pk' rfl rfl hb3 rfl) ?_
      refine U.p T rfl (.none rfl) rfl rfl rfl ?_
      refine U.sks 2 6 true 9 rfl rfl rfl rfl ?_
      refine U.r (o := _) rfl (.none rfl) rfl rfl (by exact Rd.pk' rfl rfl rfl rfl) ?_
      refine U.p T rfl (.none rfl) rfl rfl rfl ?_
      refine U.done ?_
      exact St.wk (hJ2 _ hm) (Wk.mk' [] rfl rfl (.eqs rfl) trivial rfl)
theorem T_taquinref07_Has (l : List Int) (n : Int) (post : Bool → Prop) (hm : V_taquinref07_Has l n post) :
    Tr Try.prog 55 [.sl 1 eI l, .v (.int .i64 n)] [] 0 (fun A H' k => ∃ y, post y ∧ A = (.v (.bool y)) ∧ H' = [] ∧ k = 0) := by
  refine Tr.intro (n := 18) Try.func55 rfl Try.ntmps55 rfl (fun w0 ok F β hβ => ?_)
  unfold V_taquinref07_Has at hm
  refine C.seq ?_
  refine U.start ?_
  refine U.p T rfl (.none rfl) rfl rfl rfl ?_
  refine U.done ?_
  refine C.nx ?_
  refine C.seq ?_
  refine C.seq ?_
  refine U.start ?_
  refine U.p T rfl (.none rfl) rfl rfl rfl ?_
  refine U.done ?_
  refine C.nx ?_
  refine C.jn (fun (x1 : Unit) => []) (fun (x1 : Unit) => []) 0 hm (fun x1 hm => ?_) (fun J2 hm hJ2 => ?_)
  · refine C.nx ?_
    refine C.seq ?_
    refine U.start ?_
    refine U.p T rfl (.none rfl) rfl rfl rfl ?_
    refine U.done ?_
    refine C.nx ?_
    refine C.ret ?_
    exact C.fin T (rs' := [.v (.bool false)]) (H' := []) (nl' := 0) [] rfl rfl (.eq rfl) trivial rfl rfl rfl rfl hβ ⟨false, hm, rfl, rfl, rfl⟩
  · refine C.block ?_
    refine St.wk (C.loop (fun (s3 : Int) => [(0, .sl 1 eI l), (1, .v (.int .i64 n)), (5, .v (.int .i64 s3))]) (fun (s3 : Int) => []) hm (fun s3 Y4 hm => ?_)) (Wk.mk' [] rfl rfl (.eqs rfl) trivial rfl)
    refine C.seq ?_
    refine C.seq ?_
    refine U.start ?_
    refine U.ps 4 T rfl ?_
    refine U.done ?_
    refine C.nx ?_
    refine C.ite rfl hm (fun hb5 hm => ?_) (fun hb5 hm => ?_)
    · refine C.skip ?_
      refine C.nx ?_
      refine C.seq ?_
      refine C.block ?_
      refine C.seq ?_
      refine U.start ?_
      refine U.ps 2 T rfl ?_
      obtain ⟨x6, hx6, hm⟩ := hm
      refine U.r (o := _) rfl (.none rfl) rfl rfl (by exact Rd.ix T rfl rfl rfl rfl rfl rfl hx6) ?_
      refine U.ps 3 T rfl ?_
      refine U.done ?_
      refine C.nx ?_
      refine C.ite rfl hm (fun hb7 hm => ?_) (fun hb7 hm => ?_)
      · refine C.seq ?_
        refine U.start ?_
        refine U.p T rfl (.none rfl) rfl rfl rfl ?_
        refine U.done ?_
        refine C.nx ?_
        refine C.ret ?_
        refine C.brt ?_
        refine C.rt ?_
        refine C.rt ?_
        refine C.brt ?_
        refine C.rt ?_
        exact C.fin T (rs' := [.v (.bool true)]) (H' := []) (nl' := 0) [] rfl rfl (.eq rfl) trivial rfl rfl rfl rfl hβ ⟨true, hm, rfl, rfl, rfl⟩
      · refine C.skip ?_
        refine C.bnx ?_
        refine C.nx ?_
        refine U.start ?_
        refine U.ps 3 T rfl ?_
        refine U.done ?_
        refine C.nx ?_
        exact St.wk (C.next hm) (Wk.mk' [] rfl rfl (.eqs rfl) trivial rfl)
    · refine C.exit ?_
      refine C.ex ?_
      refine C.ex ?_
      refine C.bex ?_
      exact St.wk (hJ2 _ hm) (Wk.mk' [] rfl rfl trivial trivial rfl)
theorem T_taquinref11_zoneAt (l : List ApiZone) (c : Int) (post : Bool → Prop) (hm : V_taquinref11_zoneAt l c post) :
    Tr Try.prog 68 [.sl 5 eApiZone l, .v (.int .i64 c)] [] 0 (fun A H' k => ∃ y, post y ∧ A = (.v (.bool y)) ∧ H' = [] ∧ k = 0) := by
  refine Tr.intro (n := 19) Try.func68 rfl Try.ntmps68 rfl (fun w0 ok F β hβ => ?_)
  unfold V_taquinref11_zoneAt at hm
  refine C.seq ?_
  refine U.start ?_
  refine U.p T rfl (.none rfl) rfl rfl rfl ?_
  refine U.done ?_
  refine C.nx ?_
  refine C.seq ?_
  refine C.seq ?_
  refine U.start ?_
  refine U.p T rfl (.none rfl) rfl rfl rfl ?_
  refine U.done ?_
  refine C.nx ?_
  refine C.jn (fun (x1 : Unit) => []) (fun (x1 : Unit) => []) 0 hm (fun x1 hm => ?_) (fun J2 hm hJ2 => ?_)
  · refine C.nx ?_
    refine C.seq ?_
    refine U.start ?_
    refine U.p T rfl (.none rfl) rfl rfl rfl ?_
    refine U.done ?_
    refine C.nx ?_
    refine C.ret ?_
    exact C.fin T (rs' := [.v (.bool false)]) (H' := []) (nl' := 0) [] rfl rfl (.eq rfl) trivial rfl rfl rfl rfl hβ ⟨false, hm, rfl, rfl, rfl⟩
  · refine C.block ?_
    refine St.wk (C.loop (fun (s3 : Int) => [(0, .sl 5 eApiZone l), (1, .v (.int .i64 c)), (5, .v (.int .i64 s3))]) (fun (s3 : Int) => []) hm (fun s3 Y4 hm => ?_)) (Wk.mk' [] rfl rfl (.eqs rfl) trivial rfl)
    refine C.seq ?_
    refine C.seq ?_
    refine U.start ?_
    refine U.ps 4 T rfl ?_
    refine U.done ?_
    refine C.nx ?_
    refine C.ite rfl hm (fun hb5 hm => ?_) (fun hb5 hm => ?_)
    · refine C.skip ?_
      refine C.nx ?_
      refine C.seq ?_
      refine C.block ?_
      refine C.seq ?_
      refine U.start ?_
      refine U.ps 2 T rfl ?_
      obtain ⟨x6, hx6, hm⟩ := hm
      refine U.r (o := _) rfl (.none rfl) rfl rfl (by exact Rd.ix T rfl rfl rfl rfl rfl rfl hx6) ?_
      refine U.ps 3 T rfl ?_
      refine U.e (o := _) rfl (.none rfl) (by exact Eff.c [] (v := true) (T_taquinref07_Has x6.Cells c _ hm) en55 rfl rfl rfl (.eq rfl) trivial rfl rfl rfl rfl rfl rfl (fun _ _ => ⟨(.v _), trivial⟩) (.inr ⟨rfl, rfl⟩) (fun _ => rfl) (fun _ => rfl) rfl) (fun x7' hm => ?_)
      obtain ⟨x7⟩ := x7'
      refine U.done ?_
      refine C.nx ?_
      refine C.ite rfl hm (fun hb8 hm => ?_) (fun hb8 hm => ?_)
      · refine C.seq ?_
        refine U.start ?_
        refine U.p T rfl (.none rfl) rfl rfl rfl ?_
        refine U.done ?_
        refine C.nx ?_
        refine C.ret ?_
        refine C.brt ?_
        refine C.rt ?_
        refine C.rt ?_
        refine C.brt ?_
        refine C.rt ?_
        exact C.fin T (rs' := [.v (.bool true)]) (H' := []) (nl' := 0) [] rfl rfl (.eq rfl) trivial rfl rfl rfl rfl hβ ⟨true, hm, rfl, rfl, rfl⟩
      · refine C.skip ?_
        refine C.bnx ?_
        refine C.nx ?_
        refine U.start ?_
        refine U.ps 3 T rfl ?_
        refine U.done ?_
        refine C.nx ?_
        exact St.wk (C.next hm) (Wk.mk' [] rfl rfl (.eqs rfl) trivial rfl)
    · refine C.exit ?_
      refine C.ex ?_
      refine C.ex ?_
      refine C.bex ?_
      exact St.wk (hJ2 _ hm) (Wk.mk' [] rfl rfl trivial trivial rfl)
theorem T_taquinref11_rightZones (s_1 : ApiSite) (post : Bool → Prop) (hm : V_taquinref11_rightZones s_1 post) :
    Tr Try.prog 40 [.agg [.v (.int .i64 s_1.Floor.W), .v (.int .i64 s_1.Floor.H), .v (.int .i64 s_1.Floor.D), .sl 1 eI s_1.Floor.Kind, .sl 1 eI s_1.Floor.Out, .sl 5 eApiZone s_1.Zones, .sl 2 eApiApart s_1.Aparts, .sl 2 eApiShelf s_1.Shelves, .sl 2 eApiStart s_1.Robots]] [] 0 (fun A H' k => ∃ y, post y ∧ A = (.v (.bool y)) ∧ H' = [] ∧ k = 0) := by
  refine Tr.intro (n := 112) Try.func40 rfl Try.ntmps40 rfl (fun w0 ok F β hβ => ?_)
  unfold V_taquinref11_rightZones at hm
  refine C.seq ?_
  refine U.start ?_
  refine U.e1 (o := _) rfl (.none rfl) (by exact Eff1.box rfl rfl rfl rfl rfl) ?_
  refine U.p T rfl (.none rfl) rfl rfl rfl ?_
  refine U.done ?_
  refine C.nx ?_
  refine C.seq ?_
  refine C.seq ?_
  refine U.start ?_
  refine U.p T rfl (.none rfl) rfl rfl rfl ?_
  refine U.done ?_
  refine C.nx ?_
  refine C.jn (fun (x1 : Unit) => [(1, .p 0 0)]) (fun (x1 : Unit) => [(0, .box [.v (.int .i64 s_1.Floor.W), .v (.int .i64 s_1.Floor.H), .v (.int .i64 s_1.Floor.D), .sl 1 eI s_1.Floor.Kind, .sl 1 eI s_1.Floor.Out, .sl 5 eApiZone s_1.Zones, .sl 2 eApiApart s_1.Aparts, .sl 2 eApiShelf s_1.Shelves, .sl 2 eApiStart s_1.Robots])]) 1 hm (fun x1 hm => ?_) (fun J2 hm hJ2 => ?_)
  · refine C.nx ?_
    refine C.seq ?_
    refine U.start ?_
    refine U.ps 5 T rfl ?_
    refine U.done ?_
    refine C.nx ?_
    refine C.ret ?_
    exact C.fin T (rs' := [.v (.bool (decide ((s_1.Zones.length : Int) ≤ 64)))]) (H' := []) (nl' := 0) [] rfl rfl (.eq rfl) trivial rfl rfl rfl rfl hβ ⟨decide ((s_1.Zones.length : Int) ≤ 64), hm, rfl, rfl, rfl⟩
  · refine C.block ?_
    refine St.wk (C.loop (fun (s3 : Int) => [(1, .p 0 0), (3, .v (.int .i64 s3))]) (fun (s3 : Int) => [(0, .box [.v (.int .i64 s_1.Floor.W), .v (.int .i64 s_1.Floor.H), .v (.int .i64 s_1.Floor.D), .sl 1 eI s_1.Floor.Kind, .sl 1 eI s_1.Floor.Out, .sl 5 eApiZone s_1.Zones, .sl 2 eApiApart s_1.Aparts, .sl 2 eApiShelf s_1.Shelves, .sl 2 eApiStart s_1.Robots])]) hm (fun s3 Y4 hm => ?_)) (Wk.mk' [some 0] rfl rfl (.eqs rfl) ⟨⟨_, rfl, .box rfl (.eq rfl)⟩, trivial⟩ rfl)
    refine C.seq ?_
    refine C.seq ?_
    refine U.start ?_
    refine U.ps 5 T rfl ?_
    refine U.done ?_
    refine C.nx ?_
    refine C.ite rfl hm (fun hb5 hm => ?_) (fun hb5 hm => ?_)
    · refine C.skip ?_
      refine C.nx ?_
      refine C.seq ?_
      refine C.jn (fun (x6 : Unit) => [(1, .p 0 0), (3, .v (.int .i64 s3))]) (fun (x6 : Unit) => [(0, .box [.v (.int .i64 s_1.Floor.W), .v (.int .i64 s_1.Floor.H), .v (.int .i64 s_1.Floor.D), .sl 1 eI s_1.Floor.Kind, .sl 1 eI s_1.Floor.Out, .sl 5 eApiZone s_1.Zones, .sl 2 eApiApart s_1.Aparts, .sl 2 eApiShelf s_1.Shelves, .sl 2 eApiStart s_1.Robots])]) 1 hm (fun x6 hm => ?_) (fun J7 hm hJ7 => ?_)
      · refine C.nx ?_
        refine U.start ?_
        refine U.ps 3 T rfl ?_
        refine U.done ?_
        refine C.nx ?_
        exact St.wk (C.next hm) (Wk.mk' [some 0] rfl rfl (.eqs rfl) ⟨⟨_, rfl, .box rfl (.eq rfl)⟩, trivial⟩ rfl)
      · refine C.block ?_
        refine C.seq ?_
        refine U.start ?_
        refine U.ps 3 T rfl ?_
        obtain ⟨x8, hx8, hm⟩ := hm
        refine U.r (o := _) rfl (.none rfl) rfl rfl (by exact Rd.ix T rfl rfl rfl rfl rfl rfl hx8) ?_
        refine U.l T rfl (.none rfl) rfl rfl rfl rfl rfl ?_
        refine U.e1 (o := _) rfl (.none rfl) (by exact Eff1.al T rfl rfl rfl rfl) ?_
        refine U.e1 (o := _) rfl (.none rfl) (by exact Eff1.st T rfl rfl rfl rfl rfl rfl rfl rfl rfl rfl) ?_
        refine U.done ?_
        refine C.nx ?_
        refine C.seq ?_
        refine C.seq ?_
        refine C.jn (fun (x9 : Bool) => [(1, .p 0 0), (3, .v (.int .i64 s3)), (4, .p 1 0), (59, .v (.bool x9))]) (fun (x9 : Bool) => [(0, .box [.v (.int .i64 s_1.Floor.W), .v (.int .i64 s_1.Floor.H), .v (.int .i64 s_1.Floor.D), .sl 1 eI s_1.Floor.Kind, .sl 1 eI s_1.Floor.Out, .sl 5 eApiZone s_1.Zones, .sl 2 eApiApart s_1.Aparts, .sl 2 eApiShelf s_1.Shelves, .sl 2 eApiStart s_1.Robots]), (1, .box [.v (.string x8.Name), .sl 1 eI x8.Cells, .v (.int .i64 x8.Speed), .v (.int .i64 x8.Keep), .sl 2 eApiSpan x8.Shut])]) 2 hm (fun x9 hm => ?_) (fun J10 hm hJ10 => ?_)
        · refine C.nx ?_
          refine C.ite rfl hm (fun hb21 hm => ?_) (fun hb21 hm => ?_)
          · refine C.seq ?_
            refine U.start ?_
            refine U.p T rfl (.none rfl) rfl rfl rfl ?_
            refine U.done ?_
            refine C.nx ?_
            refine C.ret ?_
            refine C.rt ?_
            refine C.brt ?_
            refine C.rt ?_
            refine C.rt ?_
            refine C.brt ?_
            refine C.rt ?_
            exact C.fin T (rs' := [.v (.bool false)]) (H' := []) (nl' := 0) [] rfl rfl (.eq rfl) trivial rfl rfl rfl rfl hβ ⟨false, hm, rfl, rfl, rfl⟩
          · refine C.skip ?_
            refine C.nx ?_
            refine C.seq ?_
            refine U.start ?_
            refine U.p T rfl (.none rfl) rfl rfl rfl ?_
            refine U.done ?_
            refine C.nx ?_
            refine C.jn (fun (x22 : Unit) => [(1, .p 0 0), (3, .v (.int .i64 s3))]) (fun (x22 : Unit) => [(0, .box [.v (.int .i64 s_1.Floor.W), .v (.int .i64 s_1.Floor.H), .v (.int .i64 s_1.Floor.D), .sl 1 eI s_1.Floor.Kind, .sl 1 eI s_1.Floor.Out, .sl 5 eApiZone s_1.Zones, .sl 2 eApiApart s_1.Aparts, .sl 2 eApiShelf s_1.Shelves, .sl 2 eApiStart s_1.Robots])]) 1 hm (fun x22 hm => ?_) (fun J23 hm hJ23 => ?_)
            · refine C.bnx ?_
              exact St.wk (hJ7 _ hm) (Wk.mk' [some 0] rfl rfl (.eqs rfl) ⟨⟨_, rfl, .box rfl (.eq rfl)⟩, trivial⟩ rfl)
            · refine C.block ?_
              refine St.wk (C.loop (fun (s24 : Int) => [(1, .p 0 0), (3, .v (.int .i64 s3)), (4, .p 1 0), (5, .v (.int .i64 s24))]) (fun (s24 : Int) => [(0, .box [.v (.int .i64 s_1.Floor.W), .v (.int .i64 s_1.Floor.H), .v (.int .i64 s_1.Floor.D), .sl 1 eI s_1.Floor.Kind, .sl 1 eI s_1.Floor.Out, .sl 5 eApiZone s_1.Zones, .sl 2 eApiApart s_1.Aparts, .sl 2 eApiShelf s_1.Shelves, .sl 2 eApiStart s_1.Robots]), (1, .box [.v (.string x8.Name), .sl 1 eI x8.Cells, .v (.int .i64 x8.Speed), .v (.int .i64 x8.Keep), .sl 2 eApiSpan x8.Shut])]) hm (fun s24 Y25 hm => ?_)) (Wk.mk' [some 0, some 1] rfl rfl (.eqs rfl) ⟨⟨_, rfl, .box rfl (.eq rfl)⟩, ⟨_, rfl, .box rfl (.eq rfl)⟩, trivial⟩ rfl)
              refine C.seq ?_
              refine C.seq ?_
              refine U.start ?_
              refine U.ps 5 T rfl ?_
              refine U.done ?_
              refine C.nx ?_
              refine C.ite rfl hm (fun hb26 hm => ?_) (fun hb26 hm => ?_)
              · refine C.skip ?_
                refine C.nx ?_
                refine C.seq ?_
                refine C.block ?_
                refine C.seq ?_
                refine U.start ?_
                refine U.ps 3 T rfl ?_
                obtain ⟨x27, hx27, hm⟩ := hm
                refine U.r (o := _) rfl (.none rfl) rfl rfl (by exact Rd.ix T rfl rfl rfl rfl rfl rfl hx27) ?_
                refine U.ps 2 T rfl ?_
                refine U.done ?_
                refine C.nx ?_
                refine C.seq ?_
                refine C.seq ?_
                refine C.jn (fun (x28 : Bool) => [(1, .p 0 0), (3, .v (.int .i64 s3)), (4, .p 1 0), (5, .v (.int .i64 s24)), (6, .v (.int .i64 x27)), (91, .v (.bool x28))]) (fun (x28 : Bool) => [(0, .box [.v (.int .i64 s_1.Floor.W), .v (.int .i64 s_1.Floor.H), .v (.int .i64 s_1.Floor.D), .sl 1 eI s_1.Floor.Kind, .sl 1 eI s_1.Floor.Out, .sl 5 eApiZone s_1.Zones, .sl 2 eApiApart s_1.Aparts, .sl 2 eApiShelf s_1.Shelves, .sl 2 eApiStart s_1.Robots]), (1, .box [.v (.string x8.Name), .sl 1 eI x8.Cells, .v (.int .i64 x8.Speed), .v (.int .i64 x8.Keep), .sl 2 eApiSpan x8.Shut])]) 2 hm (fun x28 hm => ?_) (fun J29 hm hJ29 => ?_)
                · refine C.nx ?_
                  refine C.ite rfl hm (fun hb34 hm => ?_) (fun hb34 hm => ?_)
                  · refine C.seq ?_
                    refine U.start ?_
                    refine U.p T rfl (.none rfl) rfl rfl rfl ?_
                    refine U.done ?_
                    refine C.nx ?_
                    refine C.ret ?_
                    refine C.rt ?_
                    refine C.brt ?_
                    refine C.rt ?_
                    refine C.rt ?_
                    refine C.brt ?_
                    refine C.brt ?_
                    refine C.rt ?_
                    refine C.rt ?_
                    refine C.brt ?_
                    refine C.rt ?_
                    exact C.fin T (rs' := [.v (.bool false)]) (H' := []) (nl' := 0) [] rfl rfl (.eq rfl) trivial rfl rfl rfl rfl hβ ⟨false, hm, rfl, rfl, rfl⟩
                  · refine C.skip ?_
                    refine C.nx ?_
                    refine C.seq ?_
                    refine C.jn (fun (x35 : Bool) => [(1, .p 0 0), (3, .v (.int .i64 s3)), (4, .p 1 0), (5, .v (.int .i64 s24)), (107, .v (.bool x35))]) (fun (x35 : Bool) => [(0, .box [.v (.int .i64 s_1.Floor.W), .v (.int .i64 s_1.Floor.H), .v (.int .i64 s_1.Floor.D), .sl 1 eI s_1.Floor.Kind, .sl 1 eI s_1.Floor.Out, .sl 5 eApiZone s_1.Zones, .sl 2 eApiApart s_1.Aparts, .sl 2 eApiShelf s_1.Shelves, .sl 2 eApiStart s_1.Robots]), (1, .box [.v (.string x8.Name), .sl 1 eI x8.Cells, .v (.int .i64 x8.Speed), .v (.int .i64 x8.Keep), .sl 2 eApiSpan x8.Shut])]) 2 hm (fun x35 hm => ?_) (fun J36 hm hJ36 => ?_)
                    · refine C.nx ?_
                      refine C.ite rfl hm (fun hb42 hm => ?_) (fun hb42 hm => ?_)
                      · refine C.seq ?_
                        refine U.start ?_
                        refine U.p T rfl (.none rfl) rfl rfl rfl ?_
                        refine U.done ?_
                        refine C.nx ?_
                        refine C.ret ?_
                        refine C.brt ?_
                        refine C.rt ?_
                        refine C.rt ?_
                        refine C.brt ?_
                        refine C.brt ?_
                        refine C.rt ?_
                        refine C.rt ?_
                        refine C.brt ?_
                        refine C.rt ?_
                        exact C.fin T (rs' := [.v (.bool false)]) (H' := []) (nl' := 0) [] rfl rfl (.eq rfl) trivial rfl rfl rfl rfl hβ ⟨false, hm, rfl, rfl, rfl⟩
                      · refine C.skip ?_
                        refine C.bnx ?_
                        refine C.nx ?_
                        refine U.start ?_
                        refine U.ps 3 T rfl ?_
                        refine U.done ?_
                        refine C.nx ?_
                        exact St.wk (C.next hm) (Wk.mk' [some 0, some 1] rfl rfl (.eqs rfl) ⟨⟨_, rfl, .box rfl (.eq rfl)⟩, ⟨_, rfl, .box rfl (.eq rfl)⟩, trivial⟩ rfl)
                    · refine U.start ?_
                      refine U.ps 4 T rfl ?_
                      obtain ⟨x37, hx37, hm⟩ := hm
                      refine U.r (o := _) rfl (.none rfl) rfl rfl (by exact Rd.ix T rfl rfl rfl rfl rfl rfl hx37) ?_
                      refine U.l T rfl (.none rfl) rfl rfl rfl rfl rfl ?_
                      refine U.e (o := _) rfl (.none rfl) (by exact Eff.c [] (v := true) (T_taquinref11_zoned x37 _ hm) en67 rfl rfl rfl (.eq rfl) trivial rfl rfl rfl rfl rfl rfl (fun _ _ => ⟨(.v _), trivial⟩) (.inr ⟨rfl, rfl⟩) (fun _ => rfl) (fun _ => rfl) rfl) (fun x38' hm => ?_)
                      obtain ⟨x38⟩ := x38'
                      refine U.ps 2 T rfl ?_
                      refine hm.cs (fun hb39 hm => ?_) (fun hb39 hm => ?_)
                      · refine U.p T rfl (.take 8 false 100 _ (ntF hb39) rfl rfl rfl) rfl rfl rfl ?_
                        refine U.pg 2 8 false 100 (ntF hb39) T rfl rfl rfl rfl ?_
                        obtain ⟨hx40, hm⟩ := hm
                        refine U.r (o := _) rfl (.take 8 false 100 _ (ntF hb39) rfl rfl rfl) rfl rfl (by exact Rd.so T rfl rfl rfl rfl rfl (.none _) (.some _ rfl) hx40) ?_
                        refine U.p T rfl (.take 8 false 100 _ (ntF hb39) rfl rfl rfl) rfl rfl rfl ?_
                        refine U.e (o := _) rfl (.take 8 false 100 _ (ntF hb39) rfl rfl rfl) (by exact Eff.c [] (v := true) (T_taquinref11_zoneAt (sub s_1.Zones 0 s3) x27 _ hm) en68 rfl rfl rfl (.eq rfl) trivial rfl rfl rfl rfl rfl rfl (fun _ _ => ⟨(.v _), trivial⟩) (.inr ⟨rfl, rfl⟩) (fun _ => rfl) (fun _ => rfl) rfl) (fun x41' hm => ?_)
                        obtain ⟨x41⟩ := x41'
                        refine U.r (o := _) rfl (.none rfl) rfl rfl (by exact Rd.pk' rfl rfl (ntF hb39) rfl) ?_
                        refine U.done ?_
                        exact St.wk (hJ36 _ hm) (Wk.mk' [some 0, some 1] rfl rfl (.eqs rfl) ⟨⟨_, rfl, .box rfl (.eq rfl)⟩, ⟨_, rfl, .box rfl (.eq rfl)⟩, trivial⟩ rfl)
                      · refine U.skip (o := _) rfl (.skip 8 false 100 _ (ntT hb39) rfl rfl rfl) rfl rfl ?_
                        refine U.sks 5 8 false 100 (ntT hb39) rfl rfl rfl ?_
                        refine U.r (o := _) rfl (.none rfl) rfl rfl (by exact Rd.pk rfl rfl (ntT hb39) rfl) ?_
                        refine U.done ?_
                        exact St.wk (hJ36 _ hm) (Wk.mk' [some 0, some 1] rfl rfl (.eqs rfl) ⟨⟨_, rfl, .box rfl (.eq rfl)⟩, ⟨_, rfl, .box rfl (.eq rfl)⟩, trivial⟩ rfl)
                · refine U.start ?_
                  refine U.ps 3 T rfl ?_
                  refine U.e (o := _) rfl (.none rfl) (by exact Eff.c [] (v := true) (T_taquinref07_Is s_1.Floor x27 _ hm) en34 rfl rfl rfl (.eq rfl) trivial rfl rfl rfl rfl rfl rfl (fun _ _ => ⟨(.v _), trivial⟩) (.inr ⟨rfl, rfl⟩) (fun _ => rfl) (fun _ => rfl) rfl) (fun x30' hm => ?_)
                  obtain ⟨x30⟩ := x30'
                  refine U.ps 2 T rfl ?_
                  refine hm.cs (fun hb31 hm => ?_) (fun hb31 hm => ?_)
                  · refine U.p T rfl (.take 5 false 77 _ (ntF hb31) rfl rfl rfl) rfl rfl rfl ?_
                    refine U.pg 2 5 false 77 (ntF hb31) T rfl rfl rfl rfl ?_
                    refine hm.cs (fun hb32 hm => ?_) (fun hb32 hm => ?_)
                    · refine U.p T rfl (.take 8 true 80 _ hb32 rfl rfl rfl) rfl rfl rfl ?_
                      refine U.pg 4 8 true 80 hb32 T rfl rfl rfl rfl ?_
                      obtain ⟨x33, hx33, hm⟩ := hm
                      refine U.r (o := _) rfl (.take 8 true 80 _ hb32 rfl rfl rfl) rfl rfl (by exact Rd.ix T rfl rfl rfl rfl rfl rfl hx33) ?_
                      refine U.pg 3 8 true 80 hb32 T rfl rfl rfl rfl ?_
                      refine U.r (o := _) rfl (.take 5 false 77 _ (ntF hb31) rfl rfl rfl) rfl rfl (by exact Rd.pk rfl rfl hb32 rfl) ?_
                      refine U.r (o := _) rfl (.none rfl) rfl rfl (by exact Rd.pk' rfl rfl (ntF hb31) rfl) ?_
                      refine U.done ?_
                      exact St.wk (hJ29 _ hm) (Wk.mk' [some 0, some 1] rfl rfl (.eqs rfl) ⟨⟨_, rfl, .box rfl (.eq rfl)⟩, ⟨_, rfl, .box rfl (.eq rfl)⟩, trivial⟩ rfl)
                    · refine U.skip (o := _) rfl (.skip 8 true 80 _ hb32 rfl rfl rfl) rfl rfl ?_
                      refine U.sks 8 8 true 80 hb32 rfl rfl rfl ?_
                      refine U.r (o := _) rfl (.take 5 false 77 _ (ntF hb31) rfl rfl rfl) rfl rfl (by exact Rd.pk' rfl rfl hb32 rfl) ?_
                      refine U.r (o := _) rfl (.none rfl) rfl rfl (by exact Rd.pk' rfl rfl (ntF hb31) rfl) ?_
                      refine U.done ?_
                      exact St.wk (hJ29 _ hm) (Wk.mk' [some 0, some 1] rfl rfl (.eqs rfl) ⟨⟨_, rfl, .box rfl (.eq rfl)⟩, ⟨_, rfl, .box rfl (.eq rfl)⟩, trivial⟩ rfl)
                  · refine U.skip (o := _) rfl (.skip 5 false 77 _ (ntT hb31) rfl rfl rfl) rfl rfl ?_
                    refine U.sks 2 5 false 77 (ntT hb31) rfl rfl rfl ?_
                    refine U.sku 9 8 true 80 rfl rfl rfl ?_
                    refine U.skip (o := _) rfl (.skip 5 false 77 _ (ntT hb31) rfl rfl rfl) rfl rfl ?_
                    refine U.r (o := _) rfl (.none rfl) rfl rfl (by exact Rd.pk rfl rfl (ntT hb31) rfl) ?_
                    refine U.done ?_
                    exact St.wk (hJ29 _ hm) (Wk.mk' [some 0, some 1] rfl rfl (.eqs rfl) ⟨⟨_, rfl, .box rfl (.eq rfl)⟩, ⟨_, rfl, .box rfl (.eq rfl)⟩, trivial⟩ rfl)
              · refine C.exit ?_
                refine C.ex ?_
                refine C.ex ?_
                refine C.bex ?_
                exact St.wk (hJ23 _ hm) (Wk.mk' [some 0] rfl rfl (.eqs rfl) ⟨⟨_, rfl, .box rfl (.eq rfl)⟩, trivial⟩ rfl)
        · refine D.beg 9999 [0, 1] [] mix rfl rfl (by kernel_rfl) (by repeat (first | exact NoPanicQ.body | refine NoPanicQ.th ?_ | refine NoPanicQ.blk ?_)) (fun hQ hS ws M' => ?_)
          refine D.ps 2 [(0, []), (1, [])] rfl hQ hS T rfl rfl (by kernel_rfl) ?_
          refine D.e (o := _) 2 rfl (.none rfl) (by exact Eff.c [] (v := true) (T_taquinref11_Name x8.Name _ hm) en41 rfl rfl rfl (.eq rfl) trivial rfl rfl rfl rfl rfl rfl (fun _ _ => ⟨(.v _), trivial⟩) (.inr ⟨rfl, rfl⟩) (fun _ => rfl) (fun _ => rfl) rfl) (by kernel_rfl) rfl rfl (fun x11' hm => ?_)
          obtain ⟨x11⟩ := x11'
          refine D.ps 2 [(3, []), (4, [])] rfl hQ hS T rfl rfl (by kernel_rfl) ?_
          refine hm.cs (fun hb12 hm => ?_) (fun hb12 hm => ?_)
          · refine D.q (o := _) 5 [] hQ hS rfl (.take 4 false 23 _ (ntF hb12) rfl rfl rfl) rfl rfl (by exact Rd.p T rfl) rfl (by kernel_rfl) ?_
            refine D.q (o := _) 6 [] hQ hS rfl (.take 4 false 23 _ (ntF hb12) rfl rfl rfl) rfl rfl (by exact Rd.l T rfl rfl rfl) rfl (by kernel_rfl) ?_
            refine D.q (o := _) 7 [] hQ hS rfl (.take 4 false 23 _ (ntF hb12) rfl rfl rfl) rfl rfl (by exact Rd.p T rfl) rfl (by kernel_rfl) ?_
            obtain ⟨hx13, hm⟩ := hm
            refine D.q (o := _) 8 [] hQ hS rfl (.take 4 false 23 _ (ntF hb12) rfl rfl rfl) rfl rfl (by exact Rd.so T rfl rfl rfl rfl rfl (.none _) (.some _ rfl) hx13) rfl (by kernel_rfl) ?_
            refine D.q (o := _) 9 [] hQ hS rfl (.take 4 false 23 _ (ntF hb12) rfl rfl rfl) rfl rfl (by exact Rd.p T rfl) rfl (by kernel_rfl) ?_
            refine D.q (o := _) 10 [] hQ hS rfl (.take 4 false 23 _ (ntF hb12) rfl rfl rfl) rfl rfl (by exact Rd.l T rfl rfl rfl) rfl (by kernel_rfl) ?_
            refine D.e (o := _) 11 rfl (.take 4 false 23 _ (ntF hb12) rfl rfl rfl) (by exact Eff.c [] (v := true) (T_taquinref11_named (sub s_1.Zones 0 s3) x8.Name _ hm) en65 rfl rfl rfl (.eq rfl) trivial rfl rfl rfl rfl rfl rfl (fun _ _ => ⟨(.v _), trivial⟩) (.inr ⟨rfl, rfl⟩) (fun _ => rfl) (fun _ => rfl) rfl) (by kernel_rfl) rfl rfl (fun x14' hm => ?_)
            obtain ⟨x14⟩ := x14'
            refine D.q (o := _) 12 [] hQ hS rfl (.take 4 false 23 _ (ntF hb12) rfl rfl rfl) rfl rfl (by exact Rd.p T rfl) rfl (by kernel_rfl) ?_
            refine D.q (o := _) 13 [] hQ hS rfl (.none rfl) rfl rfl (by exact Rd.pk' rfl rfl (ntF hb12) rfl) rfl (by kernel_rfl) ?_
            refine D.ps 1 [(14, [])] rfl hQ hS T rfl rfl (by kernel_rfl) ?_
            refine hm.cs (fun hb15 hm => ?_) (fun hb15 hm => ?_)
            · refine D.sq (o := _) 15 [] hQ hS rfl (.skip 14 false 33 _ hb15 rfl rfl rfl) rfl rfl (by kernel_rfl) ?_
              refine D.sq (o := _) 16 [] hQ hS rfl (.skip 14 false 33 _ hb15 rfl rfl rfl) rfl rfl (by kernel_rfl) ?_
              refine D.sq (o := _) 17 [] hQ hS rfl (.skip 14 false 33 _ hb15 rfl rfl rfl) rfl rfl (by kernel_rfl) ?_
              refine D.sq (o := _) 18 [] hQ hS rfl (.skip 14 false 33 _ hb15 rfl rfl rfl) rfl rfl (by kernel_rfl) ?_
              refine D.q (o := _) 19 [] hQ hS rfl (.none rfl) rfl rfl (by exact Rd.pk rfl rfl hb15 rfl) rfl (by kernel_rfl) ?_
              refine D.ps 1 [(20, [])] rfl hQ hS T rfl rfl (by kernel_rfl) ?_
              refine D.sq (o := _) 21 [] hQ hS rfl (.skip 20 false 39 _ rfl rfl rfl rfl) rfl rfl (by kernel_rfl) ?_
              refine D.sq (o := _) 22 [] hQ hS rfl (.skip 20 false 39 _ rfl rfl rfl rfl) rfl rfl (by kernel_rfl) ?_
              refine D.sq (o := _) 23 [] hQ hS rfl (.skip 20 false 39 _ rfl rfl rfl rfl) rfl rfl (by kernel_rfl) ?_
              refine D.q (o := _) 24 [] hQ hS rfl (.none rfl) rfl rfl (by exact Rd.pk rfl rfl rfl rfl) rfl (by kernel_rfl) ?_
              refine D.ps 1 [(25, [])] rfl hQ hS T rfl rfl (by kernel_rfl) ?_
              refine D.sq (o := _) 26 [] hQ hS rfl (.skip 25 false 44 _ rfl rfl rfl rfl) rfl rfl (by kernel_rfl) ?_
              refine D.sq (o := _) 27 [] hQ hS rfl (.skip 25 false 44 _ rfl rfl rfl rfl) rfl rfl (by kernel_rfl) ?_
              refine D.sq (o := _) 28 [] hQ hS rfl (.skip 25 false 44 _ rfl rfl rfl rfl) rfl rfl (by kernel_rfl) ?_
              refine D.q (o := _) 29 [] hQ hS rfl (.none rfl) rfl rfl (by exact Rd.pk rfl rfl rfl rfl) rfl (by kernel_rfl) ?_
              refine D.ps 1 [(30, [])] rfl hQ hS T rfl rfl (by kernel_rfl) ?_
              refine D.sq (o := _) 31 [] hQ hS rfl (.skip 30 false 49 _ rfl rfl rfl rfl) rfl rfl (by kernel_rfl) ?_
              refine D.sq (o := _) 32 [] hQ hS rfl (.skip 30 false 49 _ rfl rfl rfl rfl) rfl rfl (by kernel_rfl) ?_
              refine D.sq (o := _) 33 [] hQ hS rfl (.skip 30 false 49 _ rfl rfl rfl rfl) rfl rfl (by kernel_rfl) ?_
              refine D.q (o := _) 34 [] hQ hS rfl (.none rfl) rfl rfl (by exact Rd.pk rfl rfl rfl rfl) rfl (by kernel_rfl) ?_
              refine D.ps 1 [(35, [])] rfl hQ hS T rfl rfl (by kernel_rfl) ?_
              refine D.sq (o := _) 36 [] hQ hS rfl (.skip 35 false 54 _ rfl rfl rfl rfl) rfl rfl (by kernel_rfl) ?_
              refine D.sq (o := _) 37 [] hQ hS rfl (.skip 35 false 54 _ rfl rfl rfl rfl) rfl rfl (by kernel_rfl) ?_
              refine D.sq (o := _) 38 [] hQ hS rfl (.skip 35 false 54 _ rfl rfl rfl rfl) rfl rfl (by kernel_rfl) ?_
              refine D.sq (o := _) 39 [] hQ hS rfl (.skip 35 false 54 _ rfl rfl rfl rfl) rfl rfl (by kernel_rfl) ?_
              refine D.q (o := _) 40 [] hQ hS rfl (.none rfl) rfl rfl (by exact Rd.pk rfl rfl rfl rfl) rfl (by kernel_rfl) ?_
              refine D.done (by kernel_rfl) ?_
              exact St.wk (hJ10 _ hm) (Wk.mk' [some 0, some 1] rfl rfl (.eqs rfl) ⟨⟨_, rfl, .box rfl (.eq rfl)⟩, ⟨_, rfl, .box rfl (.eq rfl)⟩, trivial⟩ rfl)
            · refine D.q (o := _) 15 [] hQ hS rfl (.take 14 false 33 _ hb15 rfl rfl rfl) rfl rfl (by exact Rd.p T rfl) rfl (by kernel_rfl) ?_
              refine D.q (o := _) 16 [] hQ hS rfl (.take 14 false 33 _ hb15 rfl rfl rfl) rfl rfl (by exact Rd.l T rfl rfl rfl) rfl (by kernel_rfl) ?_
              refine D.q (o := _) 17 [] hQ hS rfl (.take 14 false 33 _ hb15 rfl rfl rfl) rfl rfl (by exact Rd.p T rfl) rfl (by kernel_rfl) ?_
              refine D.q (o := _) 18 [] hQ hS rfl (.take 14 false 33 _ hb15 rfl rfl rfl) rfl rfl (by exact Rd.p T rfl) rfl (by kernel_rfl) ?_
              refine D.q (o := _) 19 [] hQ hS rfl (.none rfl) rfl rfl (by exact Rd.pk' rfl rfl hb15 rfl) rfl (by kernel_rfl) ?_
              refine D.ps 1 [(20, [])] rfl hQ hS T rfl rfl (by kernel_rfl) ?_
              refine hm.cs (fun hb16 hm => ?_) (fun hb16 hm => ?_)
              · refine D.sq (o := _) 21 [] hQ hS rfl (.skip 20 false 39 _ hb16 rfl rfl rfl) rfl rfl (by kernel_rfl) ?_
                refine D.sq (o := _) 22 [] hQ hS rfl (.skip 20 false 39 _ hb16 rfl rfl rfl) rfl rfl (by kernel_rfl) ?_
                refine D.sq (o := _) 23 [] hQ hS rfl (.skip 20 false 39 _ hb16 rfl rfl rfl) rfl rfl (by kernel_rfl) ?_
                refine D.q (o := _) 24 [] hQ hS rfl (.none rfl) rfl rfl (by exact Rd.pk rfl rfl hb16 rfl) rfl (by kernel_rfl) ?_
                refine D.ps 1 [(25, [])] rfl hQ hS T rfl rfl (by kernel_rfl) ?_
                refine D.sq (o := _) 26 [] hQ hS rfl (.skip 25 false 44 _ rfl rfl rfl rfl) rfl rfl (by kernel_rfl) ?_
                refine D.sq (o := _) 27 [] hQ hS rfl (.skip 25 false 44 _ rfl rfl rfl rfl) rfl rfl (by kernel_rfl) ?_
                refine D.sq (o := _) 28 [] hQ hS rfl (.skip 25 false 44 _ rfl rfl rfl rfl) rfl rfl (by kernel_rfl) ?_
                refine D.q (o := _) 29 [] hQ hS rfl (.none rfl) rfl rfl (by exact Rd.pk rfl rfl rfl rfl) rfl (by kernel_rfl) ?_
                refine D.ps 1 [(30, [])] rfl hQ hS T rfl rfl (by kernel_rfl) ?_
                refine D.sq (o := _) 31 [] hQ hS rfl (.skip 30 false 49 _ rfl rfl rfl rfl) rfl rfl (by kernel_rfl) ?_
                refine D.sq (o := _) 32 [] hQ hS rfl (.skip 30 false 49 _ rfl rfl rfl rfl) rfl rfl (by kernel_rfl) ?_
                refine D.sq (o := _) 33 [] hQ hS rfl (.skip 30 false 49 _ rfl rfl rfl rfl) rfl rfl (by kernel_rfl) ?_
                refine D.q (o := _) 34 [] hQ hS rfl (.none rfl) rfl rfl (by exact Rd.pk rfl rfl rfl rfl) rfl (by kernel_rfl) ?_
                refine D.ps 1 [(35, [])] rfl hQ hS T rfl rfl (by kernel_rfl) ?_
                refine D.sq (o := _) 36 [] hQ hS rfl (.skip 35 false 54 _ rfl rfl rfl rfl) rfl rfl (by kernel_rfl) ?_
                refine D.sq (o := _) 37 [] hQ hS rfl (.skip 35 false 54 _ rfl rfl rfl rfl) rfl rfl (by kernel_rfl) ?_
                refine D.sq (o := _) 38 [] hQ hS rfl (.skip 35 false 54 _ rfl rfl rfl rfl) rfl rfl (by kernel_rfl) ?_
                refine D.sq (o := _) 39 [] hQ hS rfl (.skip 35 false 54 _ rfl rfl rfl rfl) rfl rfl (by kernel_rfl) ?_
                refine D.q (o := _) 40 [] hQ hS rfl (.none rfl) rfl rfl (by exact Rd.pk rfl rfl rfl rfl) rfl (by kernel_rfl) ?_
                refine D.done (by kernel_rfl) ?_
                exact St.wk (hJ10 _ hm) (Wk.mk' [some 0, some 1] rfl rfl (.eqs rfl) ⟨⟨_, rfl, .box rfl (.eq rfl)⟩, ⟨_, rfl, .box rfl (.eq rfl)⟩, trivial⟩ rfl)
              · refine D.q (o := _) 21 [] hQ hS rfl (.take 20 false 39 _ hb16 rfl rfl rfl) rfl rfl (by exact Rd.p T rfl) rfl (by kernel_rfl) ?_
                refine D.q (o := _) 22 [] hQ hS rfl (.take 20 false 39 _ hb16 rfl rfl rfl) rfl rfl (by exact Rd.l T rfl rfl rfl) rfl (by kernel_rfl) ?_
                refine D.q (o := _) 23 [] hQ hS rfl (.take 20 false 39 _ hb16 rfl rfl rfl) rfl rfl (by exact Rd.p T rfl) rfl (by kernel_rfl) ?_
                refine D.q (o := _) 24 [] hQ hS rfl (.none rfl) rfl rfl (by exact Rd.pk' rfl rfl hb16 rfl) rfl (by kernel_rfl) ?_
                refine D.ps 1 [(25, [])] rfl hQ hS T rfl rfl (by kernel_rfl) ?_
                refine hm.cs (fun hb17 hm => ?_) (fun hb17 hm => ?_)
                · refine D.sq (o := _) 26 [] hQ hS rfl (.skip 25 false 44 _ hb17 rfl rfl rfl) rfl rfl (by kernel_rfl) ?_
                  refine D.sq (o := _) 27 [] hQ hS rfl (.skip 25 false 44 _ hb17 rfl rfl rfl) rfl rfl (by kernel_rfl) ?_
                  refine D.sq (o := _) 28 [] hQ hS rfl (.skip 25 false 44 _ hb17 rfl rfl rfl) rfl rfl (by kernel_rfl) ?_
                  refine D.q (o := _) 29 [] hQ hS rfl (.none rfl) rfl rfl (by exact Rd.pk rfl rfl hb17 rfl) rfl (by kernel_rfl) ?_
                  refine D.ps 1 [(30, [])] rfl hQ hS T rfl rfl (by kernel_rfl) ?_
                  refine D.sq (o := _) 31 [] hQ hS rfl (.skip 30 false 49 _ rfl rfl rfl rfl) rfl rfl (by kernel_rfl) ?_
                  refine D.sq (o := _) 32 [] hQ hS rfl (.skip 30 false 49 _ rfl rfl rfl rfl) rfl rfl (by kernel_rfl) ?_
                  refine D.sq (o := _) 33 [] hQ hS rfl (.skip 30 false 49 _ rfl rfl rfl rfl) rfl rfl (by kernel_rfl) ?_
                  refine D.q (o := _) 34 [] hQ hS rfl (.none rfl) rfl rfl (by exact Rd.pk rfl rfl rfl rfl) rfl (by kernel_rfl) ?_
                  refine D.ps 1 [(35, [])] rfl hQ hS T rfl rfl (by kernel_rfl) ?_
                  refine D.sq (o := _) 36 [] hQ hS rfl (.skip 35 false 54 _ rfl rfl rfl rfl) rfl rfl (by kernel_rfl) ?_
                  refine D.sq (o := _) 37 [] hQ hS rfl (.skip 35 false 54 _ rfl rfl rfl rfl) rfl rfl (by kernel_rfl) ?_
                  refine D.sq (o := _) 38 [] hQ hS rfl (.skip 35 false 54 _ rfl rfl rfl rfl) rfl rfl (by kernel_rfl) ?_
                  refine D.sq (o := _) 39 [] hQ hS rfl (.skip 35 false 54 _ rfl rfl rfl rfl) rfl rfl (by kernel_rfl) ?_
                  refine D.q (o := _) 40 [] hQ hS rfl (.none rfl) rfl rfl (by exact Rd.pk rfl rfl rfl rfl) rfl (by kernel_rfl) ?_
                  refine D.done (by kernel_rfl) ?_
                  exact St.wk (hJ10 _ hm) (Wk.mk' [some 0, some 1] rfl rfl (.eqs rfl) ⟨⟨_, rfl, .box rfl (.eq rfl)⟩, ⟨_, rfl, .box rfl (.eq rfl)⟩, trivial⟩ rfl)
                · refine D.q (o := _) 26 [] hQ hS rfl (.take 25 false 44 _ hb17 rfl rfl rfl) rfl rfl (by exact Rd.p T rfl) rfl (by kernel_rfl) ?_
                  refine D.q (o := _) 27 [] hQ hS rfl (.take 25 false 44 _ hb17 rfl rfl rfl) rfl rfl (by exact Rd.l T rfl rfl rfl) rfl (by kernel_rfl) ?_
                  refine D.q (o := _) 28 [] hQ hS rfl (.take 25 false 44 _ hb17 rfl rfl rfl) rfl rfl (by exact Rd.p T rfl) rfl (by kernel_rfl) ?_
                  refine D.q (o := _) 29 [] hQ hS rfl (.none rfl) rfl rfl (by exact Rd.pk' rfl rfl hb17 rfl) rfl (by kernel_rfl) ?_
                  refine D.ps 1 [(30, [])] rfl hQ hS T rfl rfl (by kernel_rfl) ?_
                  refine hm.cs (fun hb18 hm => ?_) (fun hb18 hm => ?_)
                  · refine D.sq (o := _) 31 [] hQ hS rfl (.skip 30 false 49 _ hb18 rfl rfl rfl) rfl rfl (by kernel_rfl) ?_
                    refine D.sq (o := _) 32 [] hQ hS rfl (.skip 30 false 49 _ hb18 rfl rfl rfl) rfl rfl (by kernel_rfl) ?_
                    refine D.sq (o := _) 33 [] hQ hS rfl (.skip 30 false 49 _ hb18 rfl rfl rfl) rfl rfl (by kernel_rfl) ?_
                    refine D.q (o := _) 34 [] hQ hS rfl (.none rfl) rfl rfl (by exact Rd.pk rfl rfl hb18 rfl) rfl (by kernel_rfl) ?_
                    refine D.ps 1 [(35, [])] rfl hQ hS T rfl rfl (by kernel_rfl) ?_
                    refine D.sq (o := _) 36 [] hQ hS rfl (.skip 35 false 54 _ rfl rfl rfl rfl) rfl rfl (by kernel_rfl) ?_
                    refine D.sq (o := _) 37 [] hQ hS rfl (.skip 35 false 54 _ rfl rfl rfl rfl) rfl rfl (by kernel_rfl) ?_
                    refine D.sq (o := _) 38 [] hQ hS rfl (.skip 35 false 54 _ rfl rfl rfl rfl) rfl rfl (by kernel_rfl) ?_
                    refine D.sq (o := _) 39 [] hQ hS rfl (.skip 35 false 54 _ rfl rfl rfl rfl) rfl rfl (by kernel_rfl) ?_
                    refine D.q (o := _) 40 [] hQ hS rfl (.none rfl) rfl rfl (by exact Rd.pk rfl rfl rfl rfl) rfl (by kernel_rfl) ?_
                    refine D.done (by kernel_rfl) ?_
                    exact St.wk (hJ10 _ hm) (Wk.mk' [some 0, some 1] rfl rfl (.eqs rfl) ⟨⟨_, rfl, .box rfl (.eq rfl)⟩, ⟨_, rfl, .box rfl (.eq rfl)⟩, trivial⟩ rfl)
                  · refine D.q (o := _) 31 [] hQ hS rfl (.take 30 false 49 _ hb18 rfl rfl rfl) rfl rfl (by exact Rd.p T rfl) rfl (by kernel_rfl) ?_
                    refine D.q (o := _) 32 [] hQ hS rfl (.take 30 false 49 _ hb18 rfl rfl rfl) rfl rfl (by exact Rd.l T rfl rfl rfl) rfl (by kernel_rfl) ?_
                    refine D.q (o := _) 33 [] hQ hS rfl (.take 30 false 49 _ hb18 rfl rfl rfl) rfl rfl (by exact Rd.p T rfl) rfl (by kernel_rfl) ?_
                    refine D.q (o := _) 34 [] hQ hS rfl (.none rfl) rfl rfl (by exact Rd.pk' rfl rfl hb18 rfl) rfl (by kernel_rfl) ?_
                    refine D.ps 1 [(35, [])] rfl hQ hS T rfl rfl (by kernel_rfl) ?_
                    refine hm.cs (fun hb19 hm => ?_) (fun hb19 hm => ?_)
                    · refine D.sq (o := _) 36 [] hQ hS rfl (.skip 35 false 54 _ hb19 rfl rfl rfl) rfl rfl (by kernel_rfl) ?_
                      refine D.sq (o := _) 37 [] hQ hS rfl (.skip 35 false 54 _ hb19 rfl rfl rfl) rfl rfl (by kernel_rfl) ?_
                      refine D.sq (o := _) 38 [] hQ hS rfl (.skip 35 false 54 _ hb19 rfl rfl rfl) rfl rfl (by kernel_rfl) ?_
                      refine D.sq (o := _) 39 [] hQ hS rfl (.skip 35 false 54 _ hb19 rfl rfl rfl) rfl rfl (by kernel_rfl) ?_
                      refine D.q (o := _) 40 [] hQ hS rfl (.none rfl) rfl rfl (by exact Rd.pk rfl rfl hb19 rfl) rfl (by kernel_rfl) ?_
                      refine D.done (by kernel_rfl) ?_
                      exact St.wk (hJ10 _ hm) (Wk.mk' [some 0, some 1] rfl rfl (.eqs rfl) ⟨⟨_, rfl, .box rfl (.eq rfl)⟩, ⟨_, rfl, .box rfl (.eq rfl)⟩, trivial⟩ rfl)
                    · refine D.q (o := _) 36 [] hQ hS rfl (.take 35 false 54 _ hb19 rfl rfl rfl) rfl rfl (by exact Rd.p T rfl) rfl (by kernel_rfl) ?_
                      refine D.q (o := _) 37 [] hQ hS rfl (.take 35 false 54 _ hb19 rfl rfl rfl) rfl rfl (by exact Rd.l T rfl rfl rfl) rfl (by kernel_rfl) ?_
                      refine D.e (o := _) 38 rfl (.take 35 false 54 _ hb19 rfl rfl rfl) (by exact Eff.c [] (v := true) (T_taquinref11_spans x8.Shut _ hm) en66 rfl rfl rfl (.eq rfl) trivial rfl rfl rfl rfl rfl rfl (fun _ _ => ⟨(.v _), trivial⟩) (.inr ⟨rfl, rfl⟩) (fun _ => rfl) (fun _ => rfl) rfl) (by kernel_rfl) rfl rfl (fun x20' hm => ?_)
                      obtain ⟨x20⟩ := x20'
                      refine D.q (o := _) 39 [] hQ hS rfl (.take 35 false 54 _ hb19 rfl rfl rfl) rfl rfl (by exact Rd.p T rfl) rfl (by kernel_rfl) ?_
                      refine D.q (o := _) 40 [] hQ hS rfl (.none rfl) rfl rfl (by exact Rd.pk' rfl rfl hb19 rfl) rfl (by kernel_rfl) ?_
                      refine D.done (by kernel_rfl) ?_
                      exact St.wk (hJ10 _ hm) (Wk.mk' [some 0, some 1] rfl rfl (.eqs rfl) ⟨⟨_, rfl, .box rfl (.eq rfl)⟩, ⟨_, rfl, .box rfl (.eq rfl)⟩, trivial⟩ rfl)
          · refine D.sq (o := _) 5 [] hQ hS rfl (.skip 4 false 23 _ (ntT hb12) rfl rfl rfl) rfl rfl (by kernel_rfl) ?_
            refine D.sq (o := _) 6 [] hQ hS rfl (.skip 4 false 23 _ (ntT hb12) rfl rfl rfl) rfl rfl (by kernel_rfl) ?_
            refine D.sq (o := _) 7 [] hQ hS rfl (.skip 4 false 23 _ (ntT hb12) rfl rfl rfl) rfl rfl (by kernel_rfl) ?_
            refine D.sq (o := _) 8 [] hQ hS rfl (.skip 4 false 23 _ (ntT hb12) rfl rfl rfl) rfl rfl (by kernel_rfl) ?_
            refine D.sq (o := _) 9 [] hQ hS rfl (.skip 4 false 23 _ (ntT hb12) rfl rfl rfl) rfl rfl (by kernel_rfl) ?_
            refine D.sq (o := _) 10 [] hQ hS rfl (.skip 4 false 23 _ (ntT hb12) rfl rfl rfl) rfl rfl (by kernel_rfl) ?_
            refine D.sq (o := _) 11 [] hQ hS rfl (.skip 4 false 23 _ (ntT hb12) rfl rfl rfl) rfl rfl (by kernel_rfl) ?_
            refine D.sq (o := _) 12 [] hQ hS rfl (.skip 4 false 23 _ (ntT hb12) rfl rfl rfl) rfl rfl (by kernel_rfl) ?_
            refine D.q (o := _) 13 [] hQ hS rfl (.none rfl) rfl rfl (by exact Rd.pk rfl rfl (ntT hb12) rfl) rfl (by kernel_rfl) ?_
            refine D.ps 1 [(14, [])] rfl hQ hS T rfl rfl (by kernel_rfl) ?_
            refine D.sq (o := _) 15 [] hQ hS rfl (.skip 14 false 33 _ rfl rfl rfl rfl) rfl rfl (by kernel_rfl) ?_
            refine D.sq (o := _) 16 [] hQ hS rfl (.skip 14 false 33 _ rfl rfl rfl rfl) rfl rfl (by kernel_rfl) ?_
            refine D.sq (o := _) 17 [] hQ hS rfl (.skip 14 false 33 _ rfl rfl rfl rfl) rfl rfl (by kernel_rfl) ?_
            refine D.sq (o := _) 18 [] hQ hS rfl (.skip 14 false 33 _ rfl rfl rfl rfl) rfl rfl (by kernel_rfl) ?_
            refine D.q (o := _) 19 [] hQ hS rfl (.none rfl) rfl rfl (by exact Rd.pk rfl rfl rfl rfl) rfl (by kernel_rfl) ?_
            refine D.ps 1 [(20, [])] rfl hQ hS T rfl rfl (by kernel_rfl) ?_
            refine D.sq (o := _) 21 [] hQ hS rfl (.skip 20 false 39 _ rfl rfl rfl rfl) rfl rfl (by kernel_rfl) ?_
            refine D.sq (o := _) 22 [] hQ hS rfl (.skip 20 false 39 _ rfl rfl rfl rfl) rfl rfl (by kernel_rfl) ?_
            refine D.sq (o := _) 23 [] hQ hS rfl (.skip 20 false 39 _ rfl rfl rfl rfl) rfl rfl (by kernel_rfl) ?_
            refine D.q (o := _) 24 [] hQ hS rfl (.none rfl) rfl rfl (by exact Rd.pk rfl rfl rfl rfl) rfl (by kernel_rfl) ?_
            refine D.ps 1 [(25, [])] rfl hQ hS T rfl rfl (by kernel_rfl) ?_
            refine D.sq (o := _) 26 [] hQ hS rfl (.skip 25 false 44 _ rfl rfl rfl rfl) rfl rfl (by kernel_rfl) ?_
            refine D.sq (o := _) 27 [] hQ hS rfl (.skip 25 false 44 _ rfl rfl rfl rfl) rfl rfl (by kernel_rfl) ?_
            refine D.sq (o := _) 28 [] hQ hS rfl (.skip 25 false 44 _ rfl rfl rfl rfl) rfl rfl (by kernel_rfl) ?_
            refine D.q (o := _) 29 [] hQ hS rfl (.none rfl) rfl rfl (by exact Rd.pk rfl rfl rfl rfl) rfl (by kernel_rfl) ?_
            refine D.ps 1 [(30, [])] rfl hQ hS T rfl rfl (by kernel_rfl) ?_
            refine D.sq (o := _) 31 [] hQ hS rfl (.skip 30 false 49 _ rfl rfl rfl rfl) rfl rfl (by kernel_rfl) ?_
            refine D.sq (o := _) 32 [] hQ hS rfl (.skip 30 false 49 _ rfl rfl rfl rfl) rfl rfl (by kernel_rfl) ?_
            refine D.sq (o := _) 33 [] hQ hS rfl (.skip 30 false 49 _ rfl rfl rfl rfl) rfl rfl (by kernel_rfl) ?_
            refine D.q (o := _) 34 [] hQ hS rfl (.none rfl) rfl rfl (by exact Rd.pk rfl rfl rfl rfl) rfl (by kernel_rfl) ?_
            refine D.ps 1 [(35, [])] rfl hQ hS T rfl rfl (by kernel_rfl) ?_
            refine D.sq (o := _) 36 [] hQ hS rfl (.skip 35 false 54 _ rfl rfl rfl rfl) rfl rfl (by kernel_rfl) ?_
            refine D.sq (o := _) 37 [] hQ hS rfl (.skip 35 false 54 _ rfl rfl rfl rfl) rfl rfl (by kernel_rfl) ?_
            refine D.sq (o := _) 38 [] hQ hS rfl (.skip 35 false 54 _ rfl rfl rfl rfl) rfl rfl (by kernel_rfl) ?_
            refine D.sq (o := _) 39 [] hQ hS rfl (.skip 35 false 54 _ rfl rfl rfl rfl) rfl rfl (by kernel_rfl) ?_
            refine D.q (o := _) 40 [] hQ hS rfl (.none rfl) rfl rfl (by exact Rd.pk rfl rfl rfl rfl) rfl (by kernel_rfl) ?_
            refine D.done (by kernel_rfl) ?_
            exact St.wk (hJ10 _ hm) (Wk.mk' [some 0, some 1] rfl rfl (.eqs rfl) ⟨⟨_, rfl, .box rfl (.eq rfl)⟩, ⟨_, rfl, .box rfl (.eq rfl)⟩, trivial⟩ rfl)
    · refine C.exit ?_
      refine C.ex ?_
      refine C.ex ?_
      refine C.bex ?_
      exact St.wk (hJ2 _ hm) (Wk.mk' [some 0] rfl rfl (.eqs rfl) ⟨⟨_, rfl, .box rfl (.eq rfl)⟩, trivial⟩ rfl)
theorem T_taquinref11_Apart (l : List ApiApart) (a : ByteArray) (b : ByteArray) (post : Bool → Prop) (hm : V_taquinref11_Apart l a b post) :
    Tr Try.prog 42 [.sl 2 eApiApart l, .v (.string a), .v (.string b)] [] 0 (fun A H' k => ∃ y, post y ∧ A = (.v (.bool y)) ∧ H' = [] ∧ k = 0) := by
  refine Tr.intro (n := 56) Try.func42 rfl Try.ntmps42 rfl (fun w0 ok F β hβ => ?_)
  unfold V_taquinref11_Apart at hm
  refine C.seq ?_
  refine U.start ?_
  refine U.p T rfl (.none rfl) rfl rfl rfl ?_
  refine U.done ?_
  refine C.nx ?_
  refine C.seq ?_
  refine C.seq ?_
  refine U.start ?_
  refine U.p T rfl (.none rfl) rfl rfl rfl ?_
  refine U.done ?_
  refine C.nx ?_
  refine C.jn (fun (x1 : Unit) => []) (fun (x1 : Unit) => []) 0 hm (fun x1 hm => ?_) (fun J2 hm hJ2 => ?_)
  · refine C.nx ?_
    refine C.seq ?_
    refine U.start ?_
    refine U.p T rfl (.none rfl) rfl rfl rfl ?_
    refine U.done ?_
    refine C.nx ?_
    refine C.ret ?_
    exact C.fin T (rs' := [.v (.bool false)]) (H' := []) (nl' := 0) [] rfl rfl (.eq rfl) trivial rfl rfl rfl rfl hβ ⟨false, hm, rfl, rfl, rfl⟩
  · refine C.block ?_
    refine St.wk (C.loop (fun (s3 : Int) => [(0, .sl 2 eApiApart l), (1, .v (.string a)), (2, .v (.string b)), (7, .v (.int .i64 s3))]) (fun (s3 : Int) => []) hm (fun s3 Y4 hm => ?_)) (Wk.mk' [] rfl rfl (.eqs rfl) trivial rfl)
    refine C.seq ?_
    refine C.seq ?_
    refine C.jn (fun (x5 : Bool) => [(0, .sl 2 eApiApart l), (1, .v (.string a)), (2, .v (.string b)), (7, .v (.int .i64 s3)), (19, .v (.bool x5))]) (fun (x5 : Bool) => []) 0 hm (fun x5 hm => ?_) (fun J6 hm hJ6 => ?_)
    · refine C.nx ?_
      refine C.ite rfl hm (fun hb9 hm => ?_) (fun hb9 hm => ?_)
      · refine C.skip ?_
        refine C.nx ?_
        refine C.seq ?_
        refine C.block ?_
        refine C.seq ?_
        refine C.jn (fun (x10 : Bool) => [(0, .sl 2 eApiApart l), (1, .v (.string a)), (2, .v (.string b)), (7, .v (.int .i64 s3)), (55, .v (.bool x10))]) (fun (x10 : Bool) => []) 0 hm (fun x10 hm => ?_) (fun J11 hm hJ11 => ?_)
        · refine C.nx ?_
          refine C.ite rfl hm (fun hb17 hm => ?_) (fun hb17 hm => ?_)
          · refine C.seq ?_
            refine U.start ?_
            refine U.p T rfl (.none rfl) rfl rfl rfl ?_
            refine U.done ?_
            refine C.nx ?_
            refine C.ret ?_
            refine C.brt ?_
            refine C.rt ?_
            refine C.rt ?_
            refine C.brt ?_
            refine C.rt ?_
            exact C.fin T (rs' := [.v (.bool true)]) (H' := []) (nl' := 0) [] rfl rfl (.eq rfl) trivial rfl rfl rfl rfl hβ ⟨true, hm, rfl, rfl, rfl⟩
          · refine C.skip ?_
            refine C.bnx ?_
            refine C.nx ?_
            refine U.start ?_
            refine U.ps 3 T rfl ?_
            refine U.done ?_
            refine C.nx ?_
            exact St.wk (C.next hm) (Wk.mk' [] rfl rfl (.eqs rfl) trivial rfl)
        · refine U.start ?_
          refine U.ps 2 T rfl ?_
          obtain ⟨x12, hx12, hm⟩ := hm
          refine U.r (o := _) rfl (.none rfl) rfl rfl (by exact Rd.ix T rfl rfl rfl rfl rfl rfl hx12) ?_
          refine U.ps 5 T rfl ?_
          refine hm.cs (fun hb13 hm => ?_) (fun hb13 hm => ?_)
          · refine U.p T rfl (.take 7 true 29 _ hb13 rfl rfl rfl) rfl rfl rfl ?_
            refine U.p T rfl (.take 7 true 29 _ hb13 rfl rfl rfl) rfl rfl rfl ?_
            refine U.r (o := _) rfl (.take 7 true 29 _ hb13 rfl rfl rfl) rfl rfl (by exact Rd.ix T rfl rfl rfl rfl rfl rfl hx12) ?_
            refine U.pg 4 7 true 29 hb13 T rfl rfl rfl rfl ?_
            refine U.r (o := _) rfl (.none rfl) rfl rfl (by exact Rd.pk rfl rfl hb13 rfl) ?_
            refine U.p T rfl (.none rfl) rfl rfl rfl ?_
            refine hm.cs (fun hb14 hm => ?_) (fun hb14 hm => ?_)
            · refine U.skip (o := _) rfl (.skip 16 false 38 _ hb14 rfl rfl rfl) rfl rfl ?_
              refine U.sks 7 16 false 38 hb14 rfl rfl rfl ?_
              refine U.sku 7 24 true 46 rfl rfl rfl ?_
              refine U.skip (o := _) rfl (.skip 16 false 38 _ hb14 rfl rfl rfl) rfl rfl ?_
              refine U.r (o := _) rfl (.none rfl) rfl rfl (by exact Rd.pk rfl rfl hb14 rfl) ?_
              refine U.done ?_
              exact St.wk (hJ11 _ hm) (Wk.mk' [] rfl rfl (.eqs rfl) trivial rfl)
            · refine U.p T rfl (.take 16 false 38 _ hb14 rfl rfl rfl) rfl rfl rfl ?_
              refine U.p T rfl (.take 16 false 38 _ hb14 rfl rfl rfl) rfl rfl rfl ?_
              refine U.r (o := _) rfl (.take 16 false 38 _ hb14 rfl rfl rfl) rfl rfl (by exact Rd.ix T rfl rfl rfl rfl rfl rfl hx12) ?_
              refine U.pg 5 16 false 38 hb14 T rfl rfl rfl rfl ?_
              refine hm.cs (fun hb15 hm => ?_) (fun hb15 hm => ?_)
              · refine U.p T rfl (.take 24 true 46 _ hb15 rfl rfl rfl) rfl rfl rfl ?_
                refine U.p T rfl (.take 24 true 46 _ hb15 rfl rfl rfl) rfl rfl rfl ?_
                refine U.r (o := _) rfl (.take 24 true 46 _ hb15 rfl rfl rfl) rfl rfl (by exact Rd.ix T rfl rfl rfl rfl rfl rfl hx12) ?_
                refine U.pg 4 24 true 46 hb15 T rfl rfl rfl rfl ?_
                refine U.r (o := _) rfl (.take 16 false 38 _ hb14 rfl rfl rfl) rfl rfl (by exact Rd.pk rfl rfl hb15 rfl) ?_
                refine U.r (o := _) rfl (.none rfl) rfl rfl (by exact Rd.pk' rfl rfl hb14 rfl) ?_
                refine U.done ?_
                exact St.wk (hJ11 _ hm) (Wk.mk' [] rfl rfl (.eqs rfl) trivial rfl)
              · refine U.skip (o := _) rfl (.skip 24 true 46 _ hb15 rfl rfl rfl) rfl rfl ?_
                refine U.sks 6 24 true 46 hb15 rfl rfl rfl ?_
                refine U.r (o := _) rfl (.take 16 false 38 _ hb14 rfl rfl rfl) rfl rfl (by exact Rd.pk' rfl rfl hb15 rfl) ?_
                refine U.r (o := _) rfl (.none rfl) rfl rfl (by exact Rd.pk' rfl rfl hb14 rfl) ?_
                refine U.done ?_
                exact St.wk (hJ11 _ hm) (Wk.mk' [] rfl rfl (.eqs rfl) trivial rfl)
          · refine U.skip (o := _) rfl (.skip 7 true 29 _ hb13 rfl rfl rfl) rfl rfl ?_
            refine U.sks 6 7 true 29 hb13 rfl rfl rfl ?_
            refine U.r (o := _) rfl (.none rfl) rfl rfl (by exact Rd.pk' rfl rfl hb13 rfl) ?_
            refine U.p T rfl (.none rfl) rfl rfl rfl ?_
            refine U.pg 2 16 false 38 rfl T rfl rfl rfl rfl ?_
            refine U.r (o := _) rfl (.take 16 false 38 _ rfl rfl rfl rfl) rfl rfl (by exact Rd.ix T rfl rfl rfl rfl rfl rfl hx12) ?_
            refine U.pg 5 16 false 38 rfl T rfl rfl rfl rfl ?_
            refine hm.cs (fun hb16 hm => ?_) (fun hb16 hm => ?_)
            · refine U.p T rfl (.take 24 true 46 _ hb16 rfl rfl rfl) rfl rfl rfl ?_
              refine U.p T rfl (.take 24 true 46 _ hb16 rfl rfl rfl) rfl rfl rfl ?_
              refine U.r (o := _) rfl (.take 24 true 46 _ hb16 rfl rfl rfl) rfl rfl (by exact Rd.ix T rfl rfl rfl rfl rfl rfl hx12) ?_
              refine U.pg 4 24 true 46 hb16 T rfl rfl rfl rfl ?_
              refine U.r (o := _) rfl (.take 16 false 38 _ rfl rfl rfl rfl) rfl rfl (by exact Rd.pk rfl rfl hb16 rfl) ?_
              refine U.r (o := _) rfl (.none rfl) rfl rfl (by exact Rd.pk' rfl rfl rfl rfl) ?_
              refine U.done ?_
              exact St.wk (hJ11 _ hm) (Wk.mk' [] rfl rfl (.eqs rfl) trivial rfl)
            · refine U.skip (o := _) rfl (.skip 24 true 46 _ hb16 rfl rfl rfl) rfl rfl ?_
              refine U.sks 6 24 true 46 hb16 rfl rfl rfl ?_
              refine U.r (o := _) rfl (.take 16 false 38 _ rfl rfl rfl rfl) rfl rfl (by exact Rd.pk' rfl rfl hb16 rfl) ?_
              refine U.r (o := _) rfl (.none rfl) rfl rfl (by exact Rd.pk' rfl rfl rfl rfl) ?_
              refine U.done ?_
              exact St.wk (hJ11 _ hm) (Wk.mk' [] rfl rfl (.eqs rfl) trivial rfl)
      · refine C.exit ?_
        refine C.ex ?_
        refine C.ex ?_
        refine C.bex ?_
        exact St.wk (hJ2 _ hm) (Wk.mk' [] rfl rfl trivial trivial rfl)
    · refine U.start ?_
      refine U.ps 5 T rfl ?_
      refine hm.cs (fun hb7 hm => ?_) (fun hb7 hm => ?_)
      · refine U.p T rfl (.take 4 true 12 _ hb7 rfl rfl rfl) rfl rfl rfl ?_
        refine U.p T rfl (.take 4 true 12 _ hb7 rfl rfl rfl) rfl rfl rfl ?_
        refine U.r (o := _) rfl (.none rfl) rfl rfl (by exact Rd.pk rfl rfl hb7 rfl) ?_
        refine U.p T rfl (.none rfl) rfl rfl rfl ?_
        refine hm.cs (fun hb8 hm => ?_) (fun hb8 hm => ?_)
        · refine U.skip (o := _) rfl (.skip 8 true 16 _ (ntF hb8) rfl rfl rfl) rfl rfl ?_
          refine U.skip (o := _) rfl (.skip 8 true 16 _ (ntF hb8) rfl rfl rfl) rfl rfl ?_
          refine U.r (o := _) rfl (.none rfl) rfl rfl (by exact Rd.pk' rfl rfl (ntF hb8) rfl) ?_
          refine U.done ?_
          exact St.wk (hJ6 _ hm) (Wk.mk' [] rfl rfl (.eqs rfl) trivial rfl)
        · refine U.p T rfl (.take 8 true 16 _ (ntT hb8) rfl rfl rfl) rfl rfl rfl ?_
          refine U.p T rfl (.take 8 true 16 _ (ntT hb8) rfl rfl rfl) rfl rfl rfl ?_
          refine U.r (o := _) rfl (.none rfl) rfl rfl (by exact Rd.pk rfl rfl (ntT hb8) rfl) ?_
          refine U.done ?_
          exact St.wk (hJ6 _ hm) (Wk.mk' [] rfl rfl (.eqs rfl) trivial rfl)
      · refine U.skip (o := _) rfl (.skip 4 true 12 _ hb7 rfl rfl rfl) rfl rfl ?_
        refine U.skip (o := _) rfl (.skip 4 true 12 _ hb7 rfl rfl rfl) rfl rfl ?_
        refine U.r (o := _) rfl (.none rfl) rfl rfl (by exact Rd.pk' rfl rfl hb7 rfl) ?_
        refine U.p T rfl (.none rfl) rfl rfl rfl ?_
        refine U.sks 2 8 true 16 rfl rfl rfl rfl ?_
        refine U.r (o := _) rfl (.none rfl) rfl rfl (by exact Rd.pk' rfl rfl rfl rfl) ?_
        refine U.done ?_
        exact St.wk (hJ6 _ hm) (Wk.mk' [] rfl rfl (.eqs rfl) trivial rfl)
theorem T_taquinref11_stands (kind : Int) (post : Bool → Prop) (hm : V_taquinref11_stands kind post) :
    Tr Try.prog 43 [.v (.int .i64 kind)] [] 0 (fun A H' k => ∃ y, post y ∧ A = (.v (.bool y)) ∧ H' = [] ∧ k = 0) := by
  refine Tr.intro (n := 9) Try.func43 rfl Try.ntmps43 rfl (fun w0 ok F β hβ => ?_)
  unfold V_taquinref11_stands at hm
  refine C.seq ?_
  refine U.start ?_
  refine U.p T rfl (.none rfl) rfl rfl rfl ?_
  refine U.done ?_
  refine C.nx ?_
  refine C.seq ?_
  refine C.jn (fun (x1 : Bool) => [(2, .v (.bool x1))]) (fun (x1 : Bool) => []) 0 hm (fun x1 hm => ?_) (fun J2 hm hJ2 => ?_)
  · refine C.nx ?_
    refine C.ret ?_
    exact C.fin T (rs' := [.v (.bool x1)]) (H' := []) (nl' := 0) [] rfl rfl (.eq rfl) trivial rfl rfl rfl rfl hβ ⟨x1, hm, rfl, rfl, rfl⟩
  · refine U.start ?_
    refine U.ps 3 T rfl ?_
    refine hm.cs (fun hb3 hm => ?_) (fun hb3 hm => ?_)
    · refine U.skip (o := _) rfl (.skip 2 false 5 _ hb3 rfl rfl rfl) rfl rfl ?_
      refine U.skip (o := _) rfl (.skip 2 false 5 _ hb3 rfl rfl rfl) rfl rfl ?_
      refine U.r (o := _) rfl (.none rfl) rfl rfl (by exact Rd.pk rfl rfl hb3 rfl) ?_
      refine U.p T rfl (.none rfl) rfl rfl rfl ?_
      refine U.done ?_
      exact St.wk (hJ2 _ hm) (Wk.mk' [] rfl rfl (.eqs rfl) trivial rfl)
    · refine U.p T rfl (.take 2 false 5 _ hb3 rfl rfl rfl) rfl rfl rfl ?_
      refine U.p T rfl (.take 2 false 5 _ hb3 rfl rfl rfl) rfl rfl rfl ?_
      refine U.r (o := _) rfl (.none rfl) rfl rfl (by exact Rd.pk' rfl rfl hb3 rfl) ?_
      refine U.p T rfl (.none rfl) rfl rfl rfl ?_
      refine U.done ?_
      exact St.wk (hJ2 _ hm) (Wk.mk' [] rfl rfl (.eqs rfl) trivial rfl)
theorem T_taquinref11_shelfAt (l : List ApiShelf) (c : Int) (post : Int → Prop) (hm : V_taquinref11_shelfAt l c post) :
    Tr Try.prog 44 [.sl 2 eApiShelf l, .v (.int .i64 c)] [] 0 (fun A H' k => ∃ y, post y ∧ A = (.v (.int .i64 y)) ∧ H' = [] ∧ k = 0) := by
  refine Tr.intro (n := 20) Try.func44 rfl Try.ntmps44 rfl (fun w0 ok F β hβ => ?_)
  unfold V_taquinref11_shelfAt at hm
  refine C.seq ?_
  refine U.start ?_
  refine U.p T rfl (.none rfl) rfl rfl rfl ?_
  refine U.done ?_
  refine C.nx ?_
  refine C.seq ?_
  refine C.seq ?_
  refine U.start ?_
  refine U.p T rfl (.none rfl) rfl rfl rfl ?_
  refine U.done ?_
  refine C.nx ?_
  refine C.jn (fun (x1 : Unit) => []) (fun (x1 : Unit) => []) 0 hm (fun x1 hm => ?_) (fun J2 hm hJ2 => ?_)
  · refine C.nx ?_
    refine C.seq ?_
    refine U.start ?_
    refine U.p T rfl (.none rfl) rfl rfl rfl ?_
    refine U.done ?_
    refine C.nx ?_
    refine C.ret ?_
    exact C.fin T (rs' := [.v (.int .i64 (-1))]) (H' := []) (nl' := 0) [] rfl rfl (.eq rfl) trivial rfl rfl rfl rfl hβ ⟨(-1), hm, rfl, rfl, rfl⟩
  · refine C.block ?_
    refine St.wk (C.loop (fun (s3 : Int) => [(0, .sl 2 eApiShelf l), (1, .v (.int .i64 c)), (5, .v (.int .i64 s3))]) (fun (s3 : Int) => []) hm (fun s3 Y4 hm => ?_)) (Wk.mk' [] rfl rfl (.eqs rfl) trivial rfl)
    refine C.seq ?_
    refine C.seq ?_
    refine U.start ?_
    refine U.ps 4 T rfl ?_
    refine U.done ?_
    refine C.nx ?_
    refine C.ite rfl hm (fun hb5 hm => ?_) (fun hb5 hm => ?_)
    · refine C.skip ?_
      refine C.nx ?_
      refine C.seq ?_
      refine C.block ?_
      refine C.seq ?_
      refine U.start ?_
      refine U.ps 2 T rfl ?_
      obtain ⟨x6, hx6, hm⟩ := hm
      refine U.r (o := _) rfl (.none rfl) rfl rfl (by exact Rd.ix T rfl rfl rfl rfl rfl rfl hx6) ?_
      refine U.ps 4 T rfl ?_
      refine U.done ?_
      refine C.nx ?_
      refine C.ite rfl hm (fun hb7 hm => ?_) (fun hb7 hm => ?_)
      · refine C.seq ?_
        refine U.start ?_
        refine U.ps 2 T rfl ?_
        refine U.done ?_
        refine C.nx ?_
        refine C.ret ?_
        refine C.brt ?_
        refine C.rt ?_
        refine C.rt ?_
        refine C.brt ?_
        refine C.rt ?_
        exact C.fin T (rs' := [.v (.int .i64 s3)]) (H' := []) (nl' := 0) [] rfl rfl (.eq rfl) trivial rfl rfl rfl rfl hβ ⟨s3, hm, rfl, rfl, rfl⟩
      · refine C.skip ?_
        refine C.bnx ?_
        refine C.nx ?_
        refine U.start ?_
        refine U.ps 3 T rfl ?_
        refine U.done ?_
        refine C.nx ?_
        exact St.wk (C.next hm) (Wk.mk' [] rfl rfl (.eqs rfl) trivial rfl)
    · refine C.exit ?_
      refine C.ex ?_
      refine C.ex ?_
      refine C.bex ?_
      exact St.wk (hJ2 _ hm) (Wk.mk' [] rfl rfl trivial trivial rfl)
theorem T_taquinref11_robotAt (l : List ApiStart) (c : Int) (post : Bool → Prop) (hm : V_taquinref11_robotAt l c post) :
    Tr Try.prog 45 [.sl 2 eApiStart l, .v (.int .i64 c)] [] 0 (fun A H' k => ∃ y, post y ∧ A = (.v (.bool y)) ∧ H' = [] ∧ k = 0) := by
  refine Tr.intro (n := 19) Try.func45 rfl Try.ntmps45 rfl (fun w0 ok F β hβ => ?_)
  unfold V_taquinref11_robotAt at hm
  refine C.seq ?_
  refine U.start ?_
  refine U.p T rfl (.none rfl) rfl rfl rfl ?_
  refine U.done ?_
  refine C.nx ?_
  refine C.seq ?_
  refine C.seq ?_
  refine U.start ?_
  refine U.p T rfl (.none rfl) rfl rfl rfl ?_
  refine U.done ?_
  refine C.nx ?_
  refine C.jn (fun (x1 : Unit) => []) (fun (x1 : Unit) => []) 0 hm (fun x1 hm => ?_) (fun J2 hm hJ2 => ?_)
  · refine C.nx ?_
    refine C.seq ?_
    refine U.start ?_
    refine U.p T rfl (.none rfl) rfl rfl rfl ?_
    refine U.done ?_
    refine C.nx ?_
    refine C.ret ?_
    exact C.fin T (rs' := [.v (.bool false)]) (H' := []) (nl' := 0) [] rfl rfl (.eq rfl) trivial rfl rfl rfl rfl hβ ⟨false, hm, rfl, rfl, rfl⟩
  · refine C.block ?_
    refine St.wk (C.loop (fun (s3 : Int) => [(0, .sl 2 eApiStart l), (1, .v (.int .i64 c)), (5, .v (.int .i64 s3))]) (fun (s3 : Int) => []) hm (fun s3 Y4 hm => ?_)) (Wk.mk' [] rfl rfl (.eqs rfl) trivial rfl)
    refine C.seq ?_
    refine C.seq ?_
    refine U.start ?_
    refine U.ps 4 T rfl ?_
    refine U.done ?_
    refine C.nx ?_
    refine C.ite rfl hm (fun hb5 hm => ?_) (fun hb5 hm => ?_)
    · refine C.skip ?_
      refine C.nx ?_
      refine C.seq ?_
      refine C.block ?_
      refine C.seq ?_
      refine U.start ?_
      refine U.ps 2 T rfl ?_
      obtain ⟨x6, hx6, hm⟩ := hm
      refine U.r (o := _) rfl (.none rfl) rfl rfl (by exact Rd.ix T rfl rfl rfl rfl rfl rfl hx6) ?_
      refine U.ps 4 T rfl ?_
      refine U.done ?_
      refine C.nx ?_
      refine C.ite rfl hm (fun hb7 hm => ?_) (fun hb7 hm => ?_)
      · refine C.seq ?_
        refine U.start ?_
        refine U.p T rfl (.none rfl) rfl rfl rfl ?_
        refine U.done ?_
        refine C.nx ?_
        refine C.ret ?_
        refine C.brt ?_
        refine C.rt ?_
        refine C.rt ?_
        refine C.brt ?_
        refine C.rt ?_
        exact C.fin T (rs' := [.v (.bool true)]) (H' := []) (nl' := 0) [] rfl rfl (.eq rfl) trivial rfl rfl rfl rfl hβ ⟨true, hm, rfl, rfl, rfl⟩
      · refine C.skip ?_
        refine C.bnx ?_
        refine C.nx ?_
        refine U.start ?_
        refine U.ps 3 T rfl ?_
        refine U.done ?_
        refine C.nx ?_
        exact St.wk (C.next hm) (Wk.mk' [] rfl rfl (.eqs rfl) trivial rfl)
    · refine C.exit ?_
      refine C.ex ?_
      refine C.ex ?_
      refine C.bex ?_
      exact St.wk (hJ2 _ hm) (Wk.mk' [] rfl rfl trivial trivial rfl)
theorem T_taquinref11_blanks (s_1 : ApiSite) (z : ApiZone) (post : Int → Prop) (hm : V_taquinref11_blanks s_1 z post) :
    Tr Try.prog 46 [.agg [.v (.int .i64 s_1.Floor.W), .v (.int .i64 s_1.Floor.H), .v (.int .i64 s_1.Floor.D), .sl 1 eI s_1.Floor.Kind, .sl 1 eI s_1.Floor.Out, .sl 5 eApiZone s_1.Zones, .sl 2 eApiApart s_1.Aparts, .sl 2 eApiShelf s_1.Shelves, .sl 2 eApiStart s_1.Robots], .agg [.v (.string z.Name), .sl 1 eI z.Cells, .v (.int .i64 z.Speed), .v (.int .i64 z.Keep), .sl 2 eApiSpan z.Shut]] [] 0 (fun A H' k => ∃ y, post y ∧ A = (.v (.int .i64 y)) ∧ H' = [] ∧ k = 0) := by
  refine Tr.intro (n := 39) Try.func46 rfl Try.ntmps46 rfl (fun w0 ok F β hβ => ?_)
  unfold V_taquinref11_blanks at hm
  refine C.seq ?_
  refine U.start ?_
  refine U.e1 (o := _) rfl (.none rfl) (by exact Eff1.box rfl rfl rfl rfl rfl) ?_
  refine U.e1 (o := _) rfl (.none rfl) (by exact Eff1.box rfl rfl rfl rfl rfl) ?_
  refine U.p T rfl (.none rfl) rfl rfl rfl ?_
  refine U.done ?_
  refine C.nx ?_
  refine C.seq ?_
  refine U.start ?_
  refine U.p T rfl (.none rfl) rfl rfl rfl ?_
  refine U.done ?_
  refine C.nx ?_
  refine C.seq ?_
  refine C.seq ?_
  refine U.start ?_
  refine U.p T rfl (.none rfl) rfl rfl rfl ?_
  refine U.done ?_
  refine C.nx ?_
  refine C.jn (fun (x1 : Int) => [(5, .v (.int .i64 x1))]) (fun (x1 : Int) => []) 0 hm (fun x1 hm => ?_) (fun J2 hm hJ2 => ?_)
  · refine C.nx ?_
    refine C.seq ?_
    refine U.start ?_
    refine U.ps 2 T rfl ?_
    refine U.done ?_
    refine C.nx ?_
    refine C.ret ?_
    exact C.fin T (rs' := [.v (.int .i64 x1)]) (H' := []) (nl' := 0) [] rfl rfl (.eq rfl) trivial rfl rfl rfl rfl hβ ⟨x1, hm, rfl, rfl, rfl⟩
  · refine C.block ?_
    refine St.wk (C.loop (fun (s3 : Int × Int) => [(2, .p 0 0), (3, .p 1 0), (5, .v (.int .i64 s3.1)), (6, .v (.int .i64 s3.2))]) (fun (s3 : Int × Int) => [(0, .box [.v (.int .i64 s_1.Floor.W), .v (.int .i64 s_1.Floor.H), .v (.int .i64 s_1.Floor.D), .sl 1 eI s_1.Floor.Kind, .sl 1 eI s_1.Floor.Out, .sl 5 eApiZone s_1.Zones, .sl 2 eApiApart s_1.Aparts, .sl 2 eApiShelf s_1.Shelves, .sl 2 eApiStart s_1.Robots]), (1, .box [.v (.string z.Name), .sl 1 eI z.Cells, .v (.int .i64 z.Speed), .v (.int .i64 z.Keep), .sl 2 eApiSpan z.Shut])]) hm (fun s3 Y4 hm => ?_)) (Wk.mk' [some 0, some 1] rfl rfl (.eqs rfl) ⟨⟨_, rfl, .box rfl (.eq rfl)⟩, ⟨_, rfl, .box rfl (.eq rfl)⟩, trivial⟩ rfl)
    refine C.seq ?_
    refine C.seq ?_
    refine U.start ?_
    refine U.ps 5 T rfl ?_
    refine U.done ?_
    refine C.nx ?_
    refine C.ite rfl hm (fun hb5 hm => ?_) (fun hb5 hm => ?_)
    · refine C.skip ?_
      refine C.nx ?_
      refine C.seq ?_
      refine C.block ?_
      refine C.seq ?_
      refine C.jn (fun (x6 : Bool) => [(2, .p 0 0), (3, .p 1 0), (5, .v (.int .i64 s3.1)), (6, .v (.int .i64 s3.2)), (35, .v (.bool x6))]) (fun (x6 : Bool) => [(0, .box [.v (.int .i64 s_1.Floor.W), .v (.int .i64 s_1.Floor.H), .v (.int .i64 s_1.Floor.D), .sl 1 eI s_1.Floor.Kind, .sl 1 eI s_1.Floor.Out, .sl 5 eApiZone s_1.Zones, .sl 2 eApiApart s_1.Aparts, .sl 2 eApiShelf s_1.Shelves, .sl 2 eApiStart s_1.Robots]), (1, .box [.v (.string z.Name), .sl 1 eI z.Cells, .v (.int .i64 z.Speed), .v (.int .i64 z.Keep), .sl 2 eApiSpan z.Shut])]) 2 hm (fun x6 hm => ?_) (fun J7 hm hJ7 => ?_)
      · refine C.nx ?_
        refine C.jn (fun (x13 : Int) => [(2, .p 0 0), (3, .p 1 0), (5, .v (.int .i64 x13)), (6, .v (.int .i64 s3.2))]) (fun (x13 : Int) => [(0, .box [.v (.int .i64 s_1.Floor.W), .v (.int .i64 s_1.Floor.H), .v (.int .i64 s_1.Floor.D), .sl 1 eI s_1.Floor.Kind, .sl 1 eI s_1.Floor.Out, .sl 5 eApiZone s_1.Zones, .sl 2 eApiApart s_1.Aparts, .sl 2 eApiShelf s_1.Shelves, .sl 2 eApiStart s_1.Robots]), (1, .box [.v (.string z.Name), .sl 1 eI z.Cells, .v (.int .i64 z.Speed), .v (.int .i64 z.Keep), .sl 2 eApiSpan z.Shut])]) 2 hm (fun x13 hm => ?_) (fun J14 hm hJ14 => ?_)
        · refine C.bnx ?_
          refine C.nx ?_
          refine U.start ?_
          refine U.ps 3 T rfl ?_
          refine U.done ?_
          refine C.nx ?_
          exact St.wk (C.next hm) (Wk.mk' [some 0, some 1] rfl rfl (.eqs rfl) ⟨⟨_, rfl, .box rfl (.eq rfl)⟩, ⟨_, rfl, .box rfl (.eq rfl)⟩, trivial⟩ rfl)
        · refine C.ite rfl hm (fun hb15 hm => ?_) (fun hb15 hm => ?_)
          · refine U.start ?_
            refine U.ps 3 T rfl ?_
            refine U.done ?_
            exact St.wk (hJ14 _ hm) (Wk.mk' [some 0, some 1] rfl rfl (.eqs rfl) ⟨⟨_, rfl, .box rfl (.eq rfl)⟩, ⟨_, rfl, .box rfl (.eq rfl)⟩, trivial⟩ rfl)
          · refine C.skip ?_
            exact St.wk (hJ14 _ hm) (Wk.mk' [some 0, some 1] rfl rfl (.eqs rfl) ⟨⟨_, rfl, .box rfl (.eq rfl)⟩, ⟨_, rfl, .box rfl (.eq rfl)⟩, trivial⟩ rfl)
      · refine D.beg 9999 [0, 1] [] mix rfl rfl (by kernel_rfl) (by repeat (first | exact NoPanicQ.body | refine NoPanicQ.th ?_ | refine NoPanicQ.blk ?_)) (fun hQ hS ws M' => ?_)
        refine D.ps 6 [(0, []), (1, []), (2, []), (3, []), (4, []), (5, [])] rfl hQ hS T rfl rfl (by kernel_rfl) ?_
        obtain ⟨x8, hx8, hm⟩ := hm
        refine D.q (o := _) 6 [] hQ hS rfl (.none rfl) rfl rfl (by exact Rd.ix T rfl rfl rfl rfl rfl rfl hx8) rfl (by kernel_rfl) ?_
        refine D.ps 1 [(7, [])] rfl hQ hS T rfl rfl (by kernel_rfl) ?_
        obtain ⟨x9, hx9, hm⟩ := hm
        refine D.q (o := _) 8 [] hQ hS rfl (.none rfl) rfl rfl (by exact Rd.ix T rfl rfl rfl rfl rfl rfl hx9) rfl (by kernel_rfl) ?_
        refine D.ps 1 [(9, [])] rfl hQ hS T rfl rfl (by kernel_rfl) ?_
        refine D.e (o := _) 10 rfl (.none rfl) (by exact Eff.c [] (v := true) (T_taquinref11_stands x9 _ hm) en43 rfl rfl rfl (.eq rfl) trivial rfl rfl rfl rfl rfl rfl (fun _ _ => ⟨(.v _), trivial⟩) (.inr ⟨rfl, rfl⟩) (fun _ => rfl) (fun _ => rfl) rfl) (by kernel_rfl) rfl rfl (fun x10' hm => ?_)
        obtain ⟨x10⟩ := x10'
        refine D.ps 1 [(11, [])] rfl hQ hS T rfl rfl (by kernel_rfl) ?_
        refine hm.cs (fun hb11 hm => ?_) (fun hb11 hm => ?_)
        · refine D.q (o := _) 12 [] hQ hS rfl (.take 11 true 25 _ hb11 rfl rfl rfl) rfl rfl (by exact Rd.p T rfl) rfl (by kernel_rfl) ?_
          refine D.q (o := _) 13 [] hQ hS rfl (.take 11 true 25 _ hb11 rfl rfl rfl) rfl rfl (by exact Rd.l T rfl rfl rfl) rfl (by kernel_rfl) ?_
          refine D.q (o := _) 14 [] hQ hS rfl (.take 11 true 25 _ hb11 rfl rfl rfl) rfl rfl (by exact Rd.p T rfl) rfl (by kernel_rfl) ?_
          refine D.q (o := _) 15 [] hQ hS rfl (.take 11 true 25 _ hb11 rfl rfl rfl) rfl rfl (by exact Rd.l T rfl rfl rfl) rfl (by kernel_rfl) ?_
          refine D.q (o := _) 16 [] hQ hS rfl (.take 11 true 25 _ hb11 rfl rfl rfl) rfl rfl (by exact Rd.p T rfl) rfl (by kernel_rfl) ?_
          refine D.q (o := _) 17 [] hQ hS rfl (.take 11 true 25 _ hb11 rfl rfl rfl) rfl rfl (by exact Rd.ix T rfl rfl rfl rfl rfl rfl hx8) rfl (by kernel_rfl) ?_
          refine D.q (o := _) 18 [] hQ hS rfl (.take 11 true 25 _ hb11 rfl rfl rfl) rfl rfl (by exact Rd.l T rfl rfl rfl) rfl (by kernel_rfl) ?_
          refine D.e (o := _) 19 rfl (.take 11 true 25 _ hb11 rfl rfl rfl) (by exact Eff.c [] (v := true) (T_taquinref11_shelfAt s_1.Shelves x8 _ hm) en44 rfl rfl rfl (.eq rfl) trivial rfl rfl rfl rfl rfl rfl (fun _ _ => ⟨(.v _), trivial⟩) (.inr ⟨rfl, rfl⟩) (fun _ => rfl) (fun _ => rfl) rfl) (by kernel_rfl) rfl rfl (fun x12' hm => ?_)
          obtain ⟨x12⟩ := x12'
          refine D.q (o := _) 20 [] hQ hS rfl (.take 11 true 25 _ hb11 rfl rfl rfl) rfl rfl (by exact Rd.p T rfl) rfl (by kernel_rfl) ?_
          refine D.q (o := _) 21 [] hQ hS rfl (.none rfl) rfl rfl (by exact Rd.pk rfl rfl hb11 rfl) rfl (by kernel_rfl) ?_
          refine D.done (by kernel_rfl) ?_
          exact St.wk (hJ7 _ hm) (Wk.mk' [some 0, some 1] rfl rfl (.eqs rfl) ⟨⟨_, rfl, .box rfl (.eq rfl)⟩, ⟨_, rfl, .box rfl (.eq rfl)⟩, trivial⟩ rfl)
        · refine D.sq (o := _) 12 [] hQ hS rfl (.skip 11 true 25 _ hb11 rfl rfl rfl) rfl rfl (by kernel_rfl) ?_
          refine D.sq (o := _) 13 [] hQ hS rfl (.skip 11 true 25 _ hb11 rfl rfl rfl) rfl rfl (by kernel_rfl) ?_
          refine D.sq (o := _) 14 [] hQ hS rfl (.skip 11 true 25 _ hb11 rfl rfl rfl) rfl rfl (by kernel_rfl) ?_
          refine D.sq (o := _) 15 [] hQ hS rfl (.skip 11 true 25 _ hb11 rfl rfl rfl) rfl rfl (by kernel_rfl) ?_
          refine D.sq (o := _) 16 [] hQ hS rfl (.skip 11 true 25 _ hb11 rfl rfl rfl) rfl rfl (by kernel_rfl) ?_
          refine D.sq (o := _) 17 [] hQ hS rfl (.skip 11 true 25 _ hb11 rfl rfl rfl) rfl rfl (by kernel_rfl) ?_
          refine D.sq (o := _) 18 [] hQ hS rfl (.skip 11 true 25 _ hb11 rfl rfl rfl) rfl rfl (by kernel_rfl) ?_
          refine D.sq (o := _) 19 [] hQ hS rfl (.skip 11 true 25 _ hb11 rfl rfl rfl) rfl rfl (by kernel_rfl) ?_
          refine D.sq (o := _) 20 [] hQ hS rfl (.skip 11 true 25 _ hb11 rfl rfl rfl) rfl rfl (by kernel_rfl) ?_
          refine D.q (o := _) 21 [] hQ hS rfl (.none rfl) rfl rfl (by exact Rd.pk' rfl rfl hb11 rfl) rfl (by kernel_rfl) ?_
          refine D.done (by kernel_rfl) ?_
          exact St.wk (hJ7 _ hm) (Wk.mk' [some 0, some 1] rfl rfl (.eqs rfl) ⟨⟨_, rfl, .box rfl (.eq rfl)⟩, ⟨_, rfl, .box rfl (.eq rfl)⟩, trivial⟩ rfl)
    · refine C.exit ?_
      refine C.ex ?_
      refine C.ex ?_
      refine C.bex ?_
      exact St.wk (hJ2 _ hm) (Wk.mk' [] rfl rfl (.eqs rfl) trivial rfl)
theorem T_taquinref07_At (f : ApiFloor) (c : Int) (post : (Int × Int × Int) → Prop) (hm : V_taquinref07_At f c post) :
    Tr Try.prog 75 [.agg [.v (.int .i64 f.W), .v (.int .i64 f.H), .v (.int .i64 f.D), .sl 1 eI f.Kind, .sl 1 eI f.Out], .v (.int .i64 c)] [] 0 (fun A H' k => ∃ y, post y ∧ A = (.tup [.v (.int .i64 y.1), .v (.int .i64 y.2.1), .v (.int .i64 y.2.2)]) ∧ H' = [] ∧ k = 0) := by
  refine Tr.intro (n := 29) Try.func75 rfl Try.ntmps75 rfl (fun w0 ok F β hβ => ?_)
  unfold V_taquinref07_At at hm
  refine C.seq ?_
  refine U.start ?_
  refine U.e1 (o := _) rfl (.none rfl) (by exact Eff1.box rfl rfl rfl rfl rfl) ?_
  refine U.ps 3 T rfl ?_
  refine U.done ?_
  refine C.nx ?_
  refine C.seq ?_
  refine C.seq ?_
  refine U.start ?_
  refine U.ps 2 T rfl ?_
  refine U.e (o := _) rfl (.none rfl) (by exact Eff.c [] (v := true) (T_taquinref07_Is f c _ hm) en34 rfl rfl rfl (.eq rfl) trivial rfl rfl rfl rfl rfl rfl (fun _ _ => ⟨(.v _), trivial⟩) (.inr ⟨rfl, rfl⟩) (fun _ => rfl) (fun _ => rfl) rfl) (fun x1' hm => ?_)
  obtain ⟨x1⟩ := x1'
  refine U.p T rfl (.none rfl) rfl rfl rfl ?_
  refine U.done ?_
  refine C.nx ?_
  refine C.ite rfl hm (fun hb2 hm => ?_) (fun hb2 hm => ?_)
  · refine C.seq ?_
    refine U.start ?_
    refine U.ps 3 T rfl ?_
    refine U.done ?_
    refine C.nx ?_
    refine C.ret ?_
    refine C.rt ?_
    exact C.fin T (rs' := [.v (.int .i64 ((0, 0, 0).1)), .v (.int .i64 ((0, 0, 0).2.1)), .v (.int .i64 ((0, 0, 0).2.2))]) (H' := []) (nl' := 0) [] rfl rfl (.eq rfl) trivial rfl rfl rfl rfl hβ ⟨(0, 0, 0), hm, rfl, rfl, rfl⟩
  · refine C.skip ?_
    refine C.nx ?_
    refine C.seq ?_
    refine D.beg 9999 [0] [] mix rfl rfl (by kernel_rfl) (by repeat (first | exact NoPanicQ.body | refine NoPanicQ.th ?_ | refine NoPanicQ.blk ?_)) (fun hQ hS ws M' => ?_)
    refine D.ps 3 [(0, []), (1, []), (2, [])] rfl hQ hS T rfl rfl (by kernel_rfl) ?_
    obtain ⟨hx3, hm⟩ := hm
    refine D.q (o := _) 3 [] hQ hS rfl (.none rfl) rfl rfl (by exact Rd.rm rfl rfl rfl rfl hx3) rfl (by kernel_rfl) ?_
    refine D.ps 3 [(4, []), (5, []), (6, [])] rfl hQ hS T rfl rfl (by kernel_rfl) ?_
    obtain ⟨hx4, hm⟩ := hm
    refine D.q (o := _) 7 [] hQ hS rfl (.none rfl) rfl rfl (by exact Rd.dv rfl rfl rfl rfl hx4) rfl (by kernel_rfl) ?_
    refine D.ps 2 [(8, []), (9, [])] rfl hQ hS T rfl rfl (by kernel_rfl) ?_
    obtain ⟨hx5, hm⟩ := hm
    refine D.q (o := _) 10 [] hQ hS rfl (.none rfl) rfl rfl (by exact Rd.rm rfl rfl rfl rfl hx5) rfl (by kernel_rfl) ?_
    refine D.ps 3 [(11, []), (12, []), (13, [])] rfl hQ hS T rfl rfl (by kernel_rfl) ?_
    obtain ⟨hx6, hm⟩ := hm
    refine D.q (o := _) 14 [] hQ hS rfl (.none rfl) rfl rfl (by exact Rd.dv rfl rfl rfl rfl hx6) rfl (by kernel_rfl) ?_
    refine D.ps 2 [(15, []), (16, [])] rfl hQ hS T rfl rfl (by kernel_rfl) ?_
    obtain ⟨hx7, hm⟩ := hm
    refine D.q (o := _) 17 [] hQ hS rfl (.none rfl) rfl rfl (by exact Rd.dv rfl rfl rfl rfl hx7) rfl (by kernel_rfl) ?_
    refine D.ps 3 [(18, []), (19, []), (20, [])] rfl hQ hS T rfl rfl (by kernel_rfl) ?_
    refine D.done (by kernel_rfl) ?_
    refine C.nx ?_
    refine C.ret ?_
    exact C.fin T (rs' := [.v (.int .i64 ((c.tmod f.W, (w64 (c.tdiv f.W)).tmod f.H, w64 ((w64 (c.tdiv f.W)).tdiv f.H)).1)), .v (.int .i64 ((c.tmod f.W, (w64 (c.tdiv f.W)).tmod f.H, w64 ((w64 (c.tdiv f.W)).tdiv f.H)).2.1)), .v (.int .i64 ((c.tmod f.W, (w64 (c.tdiv f.W)).tmod f.H, w64 ((w64 (c.tdiv f.W)).tdiv f.H)).2.2))]) (H' := []) (nl' := 0) [] rfl rfl (.eq rfl) trivial rfl rfl rfl rfl hβ ⟨(c.tmod f.W, (w64 (c.tdiv f.W)).tmod f.H, w64 ((w64 (c.tdiv f.W)).tdiv f.H)), hm, rfl, rfl, rfl⟩
theorem T_taquinref07_Cell (f : ApiFloor) (x_1 : Int) (y_1 : Int) (z : Int) (post : Int → Prop) (hm : V_taquinref07_Cell f x_1 y_1 z post) :
    Tr Try.prog 76 [.agg [.v (.int .i64 f.W), .v (.int .i64 f.H), .v (.int .i64 f.D), .sl 1 eI f.Kind, .sl 1 eI f.Out], .v (.int .i64 x_1), .v (.int .i64 y_1), .v (.int .i64 z)] [] 0 (fun A H' k => ∃ y, post y ∧ A = (.v (.int .i64 y)) ∧ H' = [] ∧ k = 0) := by
  refine Tr.intro (n := 48) Try.func76 rfl Try.ntmps76 rfl (fun w0 ok F β hβ => ?_)
  unfold V_taquinref07_Cell at hm
  refine C.seq ?_
  refine U.start ?_
  refine U.e1 (o := _) rfl (.none rfl) (by exact Eff1.box rfl rfl rfl rfl rfl) ?_
  refine U.p T rfl (.none rfl) rfl rfl rfl ?_
  refine U.done ?_
  refine C.nx ?_
  refine C.seq ?_
  refine C.seq ?_
  refine C.jn (fun (x1 : Bool) => [(1, .v (.int .i64 x_1)), (2, .v (.int .i64 y_1)), (3, .v (.int .i64 z)), (4, .p 0 0), (36, .v (.bool x1))]) (fun (x1 : Bool) => [(0, .box [.v (.int .i64 f.W), .v (.int .i64 f.H), .v (.int .i64 f.D), .sl 1 eI f.Kind, .sl 1 eI f.Out])]) 1 hm (fun x1 hm => ?_) (fun J2 hm hJ2 => ?_)
  · refine C.nx ?_
    refine C.ite rfl hm (fun hb8 hm => ?_) (fun hb8 hm => ?_)
    · refine C.seq ?_
      refine U.start ?_
      refine U.p T rfl (.none rfl) rfl rfl rfl ?_
      refine U.done ?_
      refine C.nx ?_
      refine C.ret ?_
      refine C.rt ?_
      exact C.fin T (rs' := [.v (.int .i64 (-1))]) (H' := []) (nl' := 0) [] rfl rfl (.eq rfl) trivial rfl rfl rfl rfl hβ ⟨(-1), hm, rfl, rfl, rfl⟩
    · refine C.skip ?_
      refine C.nx ?_
      refine C.seq ?_
      refine U.start ?_
      refine U.ps 12 T rfl ?_
      refine U.done ?_
      refine C.nx ?_
      refine C.ret ?_
      exact C.fin T (rs' := [.v (.int .i64 (w64 ((w64 ((w64 ((w64 (z * f.H)) + y_1)) * f.W)) + x_1)))]) (H' := []) (nl' := 0) [] rfl rfl (.eq rfl) trivial rfl rfl rfl rfl hβ ⟨w64 ((w64 ((w64 ((w64 (z * f.H)) + y_1)) * f.W)) + x_1), hm, rfl, rfl, rfl⟩
  · refine U.start ?_
    refine U.ps 3 T rfl ?_
    refine hm.cs (fun hb3 hm => ?_) (fun hb3 hm => ?_)
    · refine U.skip (o := _) rfl (.skip 2 false 11 _ hb3 rfl rfl rfl) rfl rfl ?_
      refine U.sks 3 2 false 11 hb3 rfl rfl rfl ?_
      refine U.r (o := _) rfl (.none rfl) rfl rfl (by exact Rd.pk rfl rfl hb3 rfl) ?_
      refine U.p T rfl (.none rfl) rfl rfl rfl ?_
      refine U.sks 2 8 false 17 rfl rfl rfl rfl ?_
      refine U.r (o := _) rfl (.none rfl) rfl rfl (by exact Rd.pk rfl rfl rfl rfl) ?_
      refine U.p T rfl (.none rfl) rfl rfl rfl ?_
      refine U.sks 4 12 false 21 rfl rfl rfl rfl ?_
      refine U.r (o := _) rfl (.none rfl) rfl rfl (by exact Rd.pk rfl rfl rfl rfl) ?_
      refine U.p T rfl (.none rfl) rfl rfl rfl ?_
      refine U.sks 2 18 false 27 rfl rfl rfl rfl ?_
      refine U.r (o := _) rfl (.none rfl) rfl rfl (by exact Rd.pk rfl rfl rfl rfl) ?_
      refine U.p T rfl (.none rfl) rfl rfl rfl ?_
      refine U.sks 4 22 false 31 rfl rfl rfl rfl ?_
      refine U.r (o := _) rfl (.none rfl) rfl rfl (by exact Rd.pk rfl rfl rfl rfl) ?_
      refine U.done ?_
      exact St.wk (hJ2 _ hm) (Wk.mk' [some 0] rfl rfl (.eqs rfl) ⟨⟨_, rfl, .box rfl (.eq rfl)⟩, trivial⟩ rfl)
    · refine U.p T rfl (.take 2 false 11 _ hb3 rfl rfl rfl) rfl rfl rfl ?_
      refine U.pg 3 2 false 11 hb3 T rfl rfl rfl rfl ?_
      refine U.r (o := _) rfl (.none rfl) rfl rfl (by exact Rd.pk' rfl rfl hb3 rfl) ?_
      refine U.p T rfl (.none rfl) rfl rfl rfl ?_
      refine hm.cs (fun hb4 hm => ?_) (fun hb4 hm => ?_)
      · refine U.skip (o := _) rfl (.skip 8 false 17 _ hb4 rfl rfl rfl) rfl rfl ?_
        refine U.skip (o := _) rfl (.skip 8 false 17 _ hb4 rfl rfl rfl) rfl rfl ?_
        refine U.r (o := _) rfl (.none rfl) rfl rfl (by exact Rd.pk rfl rfl hb4 rfl) ?_
        refine U.p T rfl (.none rfl) rfl rfl rfl ?_
        refine U.sks 4 12 false 21 rfl rfl rfl rfl ?_
        refine U.r (o := _) rfl (.none rfl) rfl rfl (by exact Rd.pk rfl rfl rfl rfl) ?_
        refine U.p T rfl (.none rfl) rfl rfl rfl ?_
        refine U.sks 2 18 false 27 rfl rfl rfl rfl ?_
        refine U.r (o := _) rfl (.none rfl) rfl rfl (by exact Rd.pk rfl rfl rfl rfl) ?_
        refine U.p T rfl (.none rfl) rfl rfl rfl ?_
        refine U.sks 4 22 false 31 rfl rfl rfl rfl ?_
        refine U.r (o := _) rfl (.none rfl) rfl rfl (by exact Rd.pk rfl rfl rfl rfl) ?_
        refine U.done ?_
        exact St.wk (hJ2 _ hm) (Wk.mk' [some 0] rfl rfl (.eqs rfl) ⟨⟨_, rfl, .box rfl (.eq rfl)⟩, trivial⟩ rfl)
      · refine U.p T rfl (.take 8 false 17 _ hb4 rfl rfl rfl) rfl rfl rfl ?_
        refine U.p T rfl (.take 8 false 17 _ hb4 rfl rfl rfl) rfl rfl rfl ?_
        refine U.r (o := _) rfl (.none rfl) rfl rfl (by exact Rd.pk' rfl rfl hb4 rfl) ?_
        refine U.p T rfl (.none rfl) rfl rfl rfl ?_
        refine hm.cs (fun hb5 hm => ?_) (fun hb5 hm => ?_)
        · refine U.skip (o := _) rfl (.skip 12 false 21 _ hb5 rfl rfl rfl) rfl rfl ?_
          refine U.sks 3 12 false 21 hb5 rfl rfl rfl ?_
          refine U.r (o := _) rfl (.none rfl) rfl rfl (by exact Rd.pk rfl rfl hb5 rfl) ?_
          refine U.p T rfl (.none rfl) rfl rfl rfl ?_
          refine U.sks 2 18 false 27 rfl rfl rfl rfl ?_
          refine U.r (o := _) rfl (.none rfl) rfl rfl (by exact Rd.pk rfl rfl rfl rfl) ?_
          refine U.p T rfl (.none rfl) rfl rfl rfl ?_
          refine U.sks 4 22 false 31 rfl rfl rfl rfl ?_
          refine U.r (o := _) rfl (.none rfl) rfl rfl (by exact Rd.pk rfl rfl rfl rfl) ?_
          refine U.done ?_
          exact St.wk (hJ2 _ hm) (Wk.mk' [some 0] rfl rfl (.eqs rfl) ⟨⟨_, rfl, .box rfl (.eq rfl)⟩, trivial⟩ rfl)
        · refine U.p T rfl (.take 12 false 21 _ hb5 rfl rfl rfl) rfl rfl rfl ?_
          refine U.pg 3 12 false 21 hb5 T rfl rfl rfl rfl ?_
          refine U.r (o := _) rfl (.none rfl) rfl rfl (by exact Rd.pk' rfl rfl hb5 rfl) ?_
          refine U.p T rfl (.none rfl) rfl rfl rfl ?_
          refine hm.cs (fun hb6 hm => ?_) (fun hb6 hm => ?_)
          · refine U.skip (o := _) rfl (.skip 18 false 27 _ hb6 rfl rfl rfl) rfl rfl ?_
            refine U.skip (o := _) rfl (.skip 18 false 27 _ hb6 rfl rfl rfl) rfl rfl ?_
            refine U.r (o := _) rfl (.none rfl) rfl rfl (by exact Rd.pk rfl rfl hb6 rfl) ?_
            refine U.p T rfl (.none rfl) rfl rfl rfl ?_
            refine U.sks 4 22 false 31 rfl rfl rfl rfl ?_
            refine U.r (o := _) rfl (.none rfl) rfl rfl (by exact Rd.pk rfl rfl rfl rfl) ?_
            refine U.done ?_
            exact St.wk (hJ2 _ hm) (Wk.mk' [some 0] rfl rfl (.eqs rfl) ⟨⟨_, rfl, .box rfl (.eq rfl)⟩, trivial⟩ rfl)
          · refine U.p T rfl (.take 18 false 27 _ hb6 rfl rfl rfl) rfl rfl rfl ?_
            refine U.p T rfl (.take 18 false 27 _ hb6 rfl rfl rfl) rfl rfl rfl ?_
            refine U.r (o := _) rfl (.none rfl) rfl rfl (by exact Rd.pk' rfl rfl hb6 rfl) ?_
            refine U.p T rfl (.none rfl) rfl rfl rfl ?_
            refine hm.cs (fun hb7 hm => ?_) (fun hb7 hm => ?_)
            · refine U.skip (o := _) rfl (.skip 22 false 31 _ hb7 rfl rfl rfl) rfl rfl ?_
              refine U.sks 3 22 false 31 hb7 rfl rfl rfl ?_
              refine U.r (o := _) rfl (.none rfl) rfl rfl (by exact Rd.pk rfl rfl hb7 rfl) ?_
              refine U.done ?_
              exact St.wk (hJ2 _ hm) (Wk.mk' [some 0] rfl rfl (.eqs rfl) ⟨⟨_, rfl, .box rfl (.eq rfl)⟩, trivial⟩ rfl)
            · refine U.p T rfl (.take 22 false 31 _ hb7 rfl rfl rfl) rfl rfl rfl ?_
              refine U.pg 3 22 false 31 hb7 T rfl rfl rfl rfl ?_
              refine U.r (o := _) rfl (.none rfl) rfl rfl (by exact Rd.pk' rfl rfl hb7 rfl) ?_
              refine U.done ?_
              exact St.wk (hJ2 _ hm) (Wk.mk' [some 0] rfl rfl (.eqs rfl) ⟨⟨_, rfl, .box rfl (.eq rfl)⟩, trivial⟩ rfl)
theorem T_taquinref07_Beside (f : ApiFloor) (c : Int) (d : Int) (post : Int → Prop) (hm : V_taquinref07_Beside f c d post) :
    Tr Try.prog 58 [.agg [.v (.int .i64 f.W), .v (.int .i64 f.H), .v (.int .i64 f.D), .sl 1 eI f.Kind, .sl 1 eI f.Out], .v (.int .i64 c), .v (.int .i64 d)] [] 0 (fun A H' k => ∃ y, post y ∧ A = (.v (.int .i64 y)) ∧ H' = [] ∧ k = 0) := by
  refine Tr.intro (n := 70) Try.func58 rfl Try.ntmps58 rfl (fun w0 ok F β hβ => ?_)
  unfold V_taquinref07_Beside at hm
  refine C.seq ?_
  refine U.start ?_
  refine U.e1 (o := _) rfl (.none rfl) (by exact Eff1.box rfl rfl rfl rfl rfl) ?_
  refine U.p T rfl (.none rfl) rfl rfl rfl ?_
  refine U.done ?_
  refine C.nx ?_
  refine C.seq ?_
  refine C.seq ?_
  refine U.start ?_
  refine U.ps 2 T rfl ?_
  refine U.e (o := _) rfl (.none rfl) (by exact Eff.c [] (v := true) (T_taquinref07_Is f c _ hm) en34 rfl rfl rfl (.eq rfl) trivial rfl rfl rfl rfl rfl rfl (fun _ _ => ⟨(.v _), trivial⟩) (.inr ⟨rfl, rfl⟩) (fun _ => rfl) (fun _ => rfl) rfl) (fun x1' hm => ?_)
  obtain ⟨x1⟩ := x1'
  refine U.p T rfl (.none rfl) rfl rfl rfl ?_
  refine U.done ?_
  refine C.nx ?_
  refine C.ite rfl hm (fun hb2 hm => ?_) (fun hb2 hm => ?_)
  · refine C.seq ?_
    refine U.start ?_
    refine U.p T rfl (.none rfl) rfl rfl rfl ?_
    refine U.done ?_
    refine C.nx ?_
    refine C.ret ?_
    refine C.rt ?_
    exact C.fin T (rs' := [.v (.int .i64 (-1))]) (H' := []) (nl' := 0) [] rfl rfl (.eq rfl) trivial rfl rfl rfl rfl hβ ⟨(-1), hm, rfl, rfl, rfl⟩
  · refine C.skip ?_
    refine C.nx ?_
    refine C.seq ?_
    refine U.start ?_
    refine U.ps 2 T rfl ?_
    refine U.e (o := _) rfl (.none rfl) (by exact Eff.c [] (v := true) (T_taquinref07_At f c _ hm) en75 rfl rfl rfl (.eq rfl) trivial rfl rfl rfl rfl rfl rfl (fun _ _ => ⟨(.tup (.cons (.v _) (.cons (.v _) (.cons (.v _) .nil)))), trivial⟩) (.inr ⟨rfl, rfl⟩) (fun _ => rfl) (fun _ => rfl) rfl) (fun x3' hm => ?_)
    obtain ⟨x3⟩ := x3'
    refine U.ps 7 T rfl ?_
    refine U.done ?_
    refine C.nx ?_
    refine C.seq ?_
    refine C.seq ?_
    refine U.start ?_
    refine U.p T rfl (.none rfl) rfl rfl rfl ?_
    refine U.done ?_
    refine C.nx ?_
    refine C.block ?_
    refine C.seq ?_
    refine U.start ?_
    refine U.ps 2 T rfl ?_
    refine U.done ?_
    refine C.nx ?_
    refine C.ite rfl hm (fun hb4 hm => ?_) (fun hb4 hm => ?_)
    · refine C.seq ?_
      refine U.start ?_
      refine U.ps 5 T rfl ?_
      refine U.e (o := _) rfl (.none rfl) (by exact Eff.c [] (v := true) (T_taquinref07_Cell f (w64 (x3.1 + 1)) x3.2.1 x3.2.2 _ hm) en76 rfl rfl rfl (.eq rfl) trivial rfl rfl rfl rfl rfl rfl (fun _ _ => ⟨(.v _), trivial⟩) (.inr ⟨rfl, rfl⟩) (fun _ => rfl) (fun _ => rfl) rfl) (fun x5' hm => ?_)
      obtain ⟨x5⟩ := x5'
      refine U.p T rfl (.none rfl) rfl rfl rfl ?_
      refine U.done ?_
      refine C.nx ?_
      refine C.ret ?_
      refine C.brt ?_
      refine C.rt ?_
      exact C.fin T (rs' := [.v (.int .i64 x5)]) (H' := []) (nl' := 0) [] rfl rfl (.eq rfl) trivial rfl rfl rfl rfl hβ ⟨x5, hm, rfl, rfl, rfl⟩
    · refine C.seq ?_
      refine U.start ?_
      refine U.ps 2 T rfl ?_
      refine U.done ?_
      refine C.nx ?_
      refine C.ite rfl hm (fun hb6 hm => ?_) (fun hb6 hm => ?_)
      · refine C.seq ?_
        refine U.start ?_
        refine U.ps 5 T rfl ?_
        refine U.e (o := _) rfl (.none rfl) (by exact Eff.c [] (v := true) (T_taquinref07_Cell f x3.1 (w64 (x3.2.1 + 1)) x3.2.2 _ hm) en76 rfl rfl rfl (.eq rfl) trivial rfl rfl rfl rfl rfl rfl (fun _ _ => ⟨(.v _), trivial⟩) (.inr ⟨rfl, rfl⟩) (fun _ => rfl) (fun _ => rfl) rfl) (fun x7' hm => ?_)
        obtain ⟨x7⟩ := x7'
        refine U.p T rfl (.none rfl) rfl rfl rfl ?_
        refine U.done ?_
        refine C.nx ?_
        refine C.ret ?_
        refine C.brt ?_
        refine C.rt ?_
        exact C.fin T (rs' := [.v (.int .i64 x7)]) (H' := []) (nl' := 0) [] rfl rfl (.eq rfl) trivial rfl rfl rfl rfl hβ ⟨x7, hm, rfl, rfl, rfl⟩
      · refine C.seq ?_
        refine U.start ?_
        refine U.ps 2 T rfl ?_
        refine U.done ?_
        refine C.nx ?_
        refine C.ite rfl hm (fun hb8 hm => ?_) (fun hb8 hm => ?_)
        · refine C.seq ?_
          refine U.start ?_
          refine U.ps 5 T rfl ?_
          refine U.e (o := _) rfl (.none rfl) (by exact Eff.c [] (v := true) (T_taquinref07_Cell f (w64 (x3.1 - 1)) x3.2.1 x3.2.2 _ hm) en76 rfl rfl rfl (.eq rfl) trivial rfl rfl rfl rfl rfl rfl (fun _ _ => ⟨(.v _), trivial⟩) (.inr ⟨rfl, rfl⟩) (fun _ => rfl) (fun _ => rfl) rfl) (fun x9' hm => ?_)
          obtain ⟨x9⟩ := x9'
          refine U.p T rfl (.none rfl) rfl rfl rfl ?_
          refine U.done ?_
          refine C.nx ?_
          refine C.ret ?_
          refine C.brt ?_
          refine C.rt ?_
          exact C.fin T (rs' := [.v (.int .i64 x9)]) (H' := []) (nl' := 0) [] rfl rfl (.eq rfl) trivial rfl rfl rfl rfl hβ ⟨x9, hm, rfl, rfl, rfl⟩
        · refine C.seq ?_
          refine U.start ?_
          refine U.ps 2 T rfl ?_
          refine U.done ?_
          refine C.nx ?_
          refine C.ite rfl hm (fun hb10 hm => ?_) (fun hb10 hm => ?_)
          · refine C.seq ?_
            refine U.start ?_
            refine U.ps 5 T rfl ?_
            refine U.e (o := _) rfl (.none rfl) (by exact Eff.c [] (v := true) (T_taquinref07_Cell f x3.1 (w64 (x3.2.1 - 1)) x3.2.2 _ hm) en76 rfl rfl rfl (.eq rfl) trivial rfl rfl rfl rfl rfl rfl (fun _ _ => ⟨(.v _), trivial⟩) (.inr ⟨rfl, rfl⟩) (fun _ => rfl) (fun _ => rfl) rfl) (fun x11' hm => ?_)
            obtain ⟨x11⟩ := x11'
            refine U.p T rfl (.none rfl) rfl rfl rfl ?_
            refine U.done ?_
            refine C.nx ?_
            refine C.ret ?_
            refine C.brt ?_
            refine C.rt ?_
            exact C.fin T (rs' := [.v (.int .i64 x11)]) (H' := []) (nl' := 0) [] rfl rfl (.eq rfl) trivial rfl rfl rfl rfl hβ ⟨x11, hm, rfl, rfl, rfl⟩
          · refine C.seq ?_
            refine U.start ?_
            refine U.ps 2 T rfl ?_
            refine U.done ?_
            refine C.nx ?_
            refine C.ite rfl hm (fun hb12 hm => ?_) (fun hb12 hm => ?_)
            · refine C.seq ?_
              refine U.start ?_
              refine U.ps 5 T rfl ?_
              refine U.e (o := _) rfl (.none rfl) (by exact Eff.c [] (v := true) (T_taquinref07_Cell f x3.1 x3.2.1 (w64 (x3.2.2 + 1)) _ hm) en76 rfl rfl rfl (.eq rfl) trivial rfl rfl rfl rfl rfl rfl (fun _ _ => ⟨(.v _), trivial⟩) (.inr ⟨rfl, rfl⟩) (fun _ => rfl) (fun _ => rfl) rfl) (fun x13' hm => ?_)
              obtain ⟨x13⟩ := x13'
              refine U.p T rfl (.none rfl) rfl rfl rfl ?_
              refine U.done ?_
              refine C.nx ?_
              refine C.ret ?_
              refine C.brt ?_
              refine C.rt ?_
              exact C.fin T (rs' := [.v (.int .i64 x13)]) (H' := []) (nl' := 0) [] rfl rfl (.eq rfl) trivial rfl rfl rfl rfl hβ ⟨x13, hm, rfl, rfl, rfl⟩
            · refine C.seq ?_
              refine U.start ?_
              refine U.ps 2 T rfl ?_
              refine U.done ?_
              refine C.nx ?_
              refine C.ite rfl hm (fun hb14 hm => ?_) (fun hb14 hm => ?_)
              · refine C.seq ?_
                refine U.start ?_
                refine U.ps 5 T rfl ?_
                refine U.e (o := _) rfl (.none rfl) (by exact Eff.c [] (v := true) (T_taquinref07_Cell f x3.1 x3.2.1 (w64 (x3.2.2 - 1)) _ hm) en76 rfl rfl rfl (.eq rfl) trivial rfl rfl rfl rfl rfl rfl (fun _ _ => ⟨(.v _), trivial⟩) (.inr ⟨rfl, rfl⟩) (fun _ => rfl) (fun _ => rfl) rfl) (fun x15' hm => ?_)
                obtain ⟨x15⟩ := x15'
                refine U.p T rfl (.none rfl) rfl rfl rfl ?_
                refine U.done ?_
                refine C.nx ?_
                refine C.ret ?_
                refine C.brt ?_
                refine C.rt ?_
                exact C.fin T (rs' := [.v (.int .i64 x15)]) (H' := []) (nl' := 0) [] rfl rfl (.eq rfl) trivial rfl rfl rfl rfl hβ ⟨x15, hm, rfl, rfl, rfl⟩
              · refine C.skip ?_
                refine C.bnx ?_
                refine C.nx ?_
                refine C.seq ?_
                refine U.start ?_
                refine U.p T rfl (.none rfl) rfl rfl rfl ?_
                refine U.done ?_
                refine C.nx ?_
                refine C.ret ?_
                exact C.fin T (rs' := [.v (.int .i64 (-1))]) (H' := []) (nl' := 0) [] rfl rfl (.eq rfl) trivial rfl rfl rfl rfl hβ ⟨(-1), hm, rfl, rfl, rfl⟩
theorem T_taquinref11_Beside (s_1 : ApiSite) (post : Int → Prop) (hm : V_taquinref11_Beside s_1 post) :
    Tr Try.prog 47 [.agg [.v (.int .i64 s_1.Floor.W), .v (.int .i64 s_1.Floor.H), .v (.int .i64 s_1.Floor.D), .sl 1 eI s_1.Floor.Kind, .sl 1 eI s_1.Floor.Out, .sl 5 eApiZone s_1.Zones, .sl 2 eApiApart s_1.Aparts, .sl 2 eApiShelf s_1.Shelves, .sl 2 eApiStart s_1.Robots]] [] 0 (fun A H' k => ∃ y, post y ∧ A = (.v (.int .i64 y)) ∧ H' = [] ∧ k = 0) := by
  refine Tr.intro (n := 62) Try.func47 rfl Try.ntmps47 rfl (fun w0 ok F β hβ => ?_)
  unfold V_taquinref11_Beside at hm
  refine C.seq ?_
  refine U.start ?_
  refine U.e1 (o := _) rfl (.none rfl) (by exact Eff1.box rfl rfl rfl rfl rfl) ?_
  refine U.p T rfl (.none rfl) rfl rfl rfl ?_
  refine U.done ?_
  refine C.nx ?_
  refine C.seq ?_
  refine C.seq ?_
  refine U.start ?_
  refine U.p T rfl (.none rfl) rfl rfl rfl ?_
  refine U.done ?_
  refine C.nx ?_
  refine C.jn (fun (x1 : Unit) => []) (fun (x1 : Unit) => []) 0 hm (fun x1 hm => ?_) (fun J2 hm hJ2 => ?_)
  · refine C.nx ?_
    refine C.seq ?_
    refine U.start ?_
    refine U.p T rfl (.none rfl) rfl rfl rfl ?_
    refine U.done ?_
    refine C.nx ?_
    refine C.ret ?_
    exact C.fin T (rs' := [.v (.int .i64 (-1))]) (H' := []) (nl' := 0) [] rfl rfl (.eq rfl) trivial rfl rfl rfl rfl hβ ⟨(-1), hm, rfl, rfl, rfl⟩
  · refine C.block ?_
    refine St.wk (C.loop (fun (s3 : Int) => [(1, .p 0 0), (3, .v (.int .i64 s3))]) (fun (s3 : Int) => [(0, .box [.v (.int .i64 s_1.Floor.W), .v (.int .i64 s_1.Floor.H), .v (.int .i64 s_1.Floor.D), .sl 1 eI s_1.Floor.Kind, .sl 1 eI s_1.Floor.Out, .sl 5 eApiZone s_1.Zones, .sl 2 eApiApart s_1.Aparts, .sl 2 eApiShelf s_1.Shelves, .sl 2 eApiStart s_1.Robots])]) hm (fun s3 Y4 hm => ?_)) (Wk.mk' [some 0] rfl rfl (.eqs rfl) ⟨⟨_, rfl, .box rfl (.eq rfl)⟩, trivial⟩ rfl)
    refine C.seq ?_
    refine C.seq ?_
    refine U.start ?_
    refine U.ps 5 T rfl ?_
    refine U.done ?_
    refine C.nx ?_
    refine C.ite rfl hm (fun hb5 hm => ?_) (fun hb5 hm => ?_)
    · refine C.skip ?_
      refine C.nx ?_
      refine C.seq ?_
      refine C.jn (fun (x6 : Unit) => [(1, .p 0 0), (3, .v (.int .i64 s3))]) (fun (x6 : Unit) => [(0, .box [.v (.int .i64 s_1.Floor.W), .v (.int .i64 s_1.Floor.H), .v (.int .i64 s_1.Floor.D), .sl 1 eI s_1.Floor.Kind, .sl 1 eI s_1.Floor.Out, .sl 5 eApiZone s_1.Zones, .sl 2 eApiApart s_1.Aparts, .sl 2 eApiShelf s_1.Shelves, .sl 2 eApiStart s_1.Robots])]) 1 hm (fun x6 hm => ?_) (fun J7 hm hJ7 => ?_)
      · refine C.nx ?_
        refine U.start ?_
        refine U.ps 3 T rfl ?_
        refine U.done ?_
        refine C.nx ?_
        exact St.wk (C.next hm) (Wk.mk' [some 0] rfl rfl (.eqs rfl) ⟨⟨_, rfl, .box rfl (.eq rfl)⟩, trivial⟩ rfl)
      · refine C.block ?_
        refine C.seq ?_
        refine U.start ?_
        refine U.p T rfl (.none rfl) rfl rfl rfl ?_
        refine U.done ?_
        refine C.nx ?_
        refine C.jn (fun (x8 : Unit) => [(1, .p 0 0), (3, .v (.int .i64 s3))]) (fun (x8 : Unit) => [(0, .box [.v (.int .i64 s_1.Floor.W), .v (.int .i64 s_1.Floor.H), .v (.int .i64 s_1.Floor.D), .sl 1 eI s_1.Floor.Kind, .sl 1 eI s_1.Floor.Out, .sl 5 eApiZone s_1.Zones, .sl 2 eApiApart s_1.Aparts, .sl 2 eApiShelf s_1.Shelves, .sl 2 eApiStart s_1.Robots])]) 1 hm (fun x8 hm => ?_) (fun J9 hm hJ9 => ?_)
        · refine C.bnx ?_
          exact St.wk (hJ7 _ hm) (Wk.mk' [some 0] rfl rfl (.eqs rfl) ⟨⟨_, rfl, .box rfl (.eq rfl)⟩, trivial⟩ rfl)
        · refine C.block ?_
          refine St.wk (C.loop (fun (s10 : Int) => [(1, .p 0 0), (3, .v (.int .i64 s3)), (4, .v (.int .i64 s10))]) (fun (s10 : Int) => [(0, .box [.v (.int .i64 s_1.Floor.W), .v (.int .i64 s_1.Floor.H), .v (.int .i64 s_1.Floor.D), .sl 1 eI s_1.Floor.Kind, .sl 1 eI s_1.Floor.Out, .sl 5 eApiZone s_1.Zones, .sl 2 eApiApart s_1.Aparts, .sl 2 eApiShelf s_1.Shelves, .sl 2 eApiStart s_1.Robots])]) hm (fun s10 Y11 hm => ?_)) (Wk.mk' [some 0] rfl rfl (.eqs rfl) ⟨⟨_, rfl, .box rfl (.eq rfl)⟩, trivial⟩ rfl)
          refine C.seq ?_
          refine C.seq ?_
          refine U.start ?_
          refine U.ps 2 T rfl ?_
          refine U.done ?_
          refine C.nx ?_
          refine C.ite rfl hm (fun hb12 hm => ?_) (fun hb12 hm => ?_)
          · refine C.skip ?_
            refine C.nx ?_
            refine C.seq ?_
            refine C.block ?_
            refine C.seq ?_
            refine D.beg 9999 [0] [] mix rfl rfl (by kernel_rfl) (by repeat (first | exact NoPanicQ.body | refine NoPanicQ.th ?_ | refine NoPanicQ.blk ?_)) (fun hQ hS ws M' => ?_)
            refine D.ps 5 [(0, []), (1, []), (2, []), (3, []), (4, [])] rfl hQ hS T rfl rfl (by kernel_rfl) ?_
            obtain ⟨x13, hx13, hm⟩ := hm
            refine D.q (o := _) 5 [] hQ hS rfl (.none rfl) rfl rfl (by exact Rd.ix T rfl rfl rfl rfl rfl rfl hx13) rfl (by kernel_rfl) ?_
            refine D.ps 3 [(6, []), (7, []), (8, [])] rfl hQ hS T rfl rfl (by kernel_rfl) ?_
            refine D.e (o := _) 9 rfl (.none rfl) (by exact Eff.c [] (v := true) (T_taquinref07_Beside s_1.Floor x13.Cell s10 _ hm) en58 rfl rfl rfl (.eq rfl) trivial rfl rfl rfl rfl rfl rfl (fun _ _ => ⟨(.v _), trivial⟩) (.inr ⟨rfl, rfl⟩) (fun _ => rfl) (fun _ => rfl) rfl) (by kernel_rfl) rfl rfl (fun x14' hm => ?_)
            obtain ⟨x14⟩ := x14'
            refine D.ps 1 [(10, [])] rfl hQ hS T rfl rfl (by kernel_rfl) ?_
            refine D.done (by kernel_rfl) ?_
            refine C.nx ?_
            refine C.seq ?_
            refine U.start ?_
            refine U.ps 3 T rfl ?_
            refine U.e (o := _) rfl (.none rfl) (by exact Eff.c [] (v := true) (T_taquinref11_shelfAt s_1.Shelves x14 _ hm) en44 rfl rfl rfl (.eq rfl) trivial rfl rfl rfl rfl rfl rfl (fun _ _ => ⟨(.v _), trivial⟩) (.inr ⟨rfl, rfl⟩) (fun _ => rfl) (fun _ => rfl) rfl) (fun x15' hm => ?_)
            obtain ⟨x15⟩ := x15'
            refine U.p T rfl (.none rfl) rfl rfl rfl ?_
            refine U.done ?_
            refine C.nx ?_
            refine C.seq ?_
            refine C.jn (fun (x16 : Bool) => [(1, .p 0 0), (3, .v (.int .i64 s3)), (4, .v (.int .i64 s10)), (60, .v (.bool x16))]) (fun (x16 : Bool) => [(0, .box [.v (.int .i64 s_1.Floor.W), .v (.int .i64 s_1.Floor.H), .v (.int .i64 s_1.Floor.D), .sl 1 eI s_1.Floor.Kind, .sl 1 eI s_1.Floor.Out, .sl 5 eApiZone s_1.Zones, .sl 2 eApiApart s_1.Aparts, .sl 2 eApiShelf s_1.Shelves, .sl 2 eApiStart s_1.Robots])]) 1 hm (fun x16 hm => ?_) (fun J17 hm hJ17 => ?_)
            · refine C.nx ?_
              refine C.ite rfl hm (fun hb23 hm => ?_) (fun hb23 hm => ?_)
              · refine C.seq ?_
                refine U.start ?_
                refine U.ps 2 T rfl ?_
                refine U.done ?_
                refine C.nx ?_
                refine C.ret ?_
                refine C.brt ?_
                refine C.rt ?_
                refine C.rt ?_
                refine C.brt ?_
                refine C.brt ?_
                refine C.rt ?_
                refine C.rt ?_
                refine C.brt ?_
                refine C.rt ?_
                exact C.fin T (rs' := [.v (.int .i64 s3)]) (H' := []) (nl' := 0) [] rfl rfl (.eq rfl) trivial rfl rfl rfl rfl hβ ⟨s3, hm, rfl, rfl, rfl⟩
              · refine C.skip ?_
                refine C.bnx ?_
                refine C.nx ?_
                refine U.start ?_
                refine U.ps 3 T rfl ?_
                refine U.done ?_
                refine C.nx ?_
                exact St.wk (C.next hm) (Wk.mk' [some 0] rfl rfl (.eqs rfl) ⟨⟨_, rfl, .box rfl (.eq rfl)⟩, trivial⟩ rfl)
            · refine D.beg 9999 [0] [] mix rfl rfl (by kernel_rfl) (by repeat (first | exact NoPanicQ.body | refine NoPanicQ.th ?_ | refine NoPanicQ.blk ?_)) (fun hQ hS ws M' => ?_)
              refine D.ps 3 [(0, []), (1, []), (2, [])] rfl hQ hS T rfl rfl (by kernel_rfl) ?_
              refine hm.cs (fun hb18 hm => ?_) (fun hb18 hm => ?_)
              · refine D.q (o := _) 3 [] hQ hS rfl (.take 2 true 34 _ hb18 rfl rfl rfl) rfl rfl (by exact Rd.p T rfl) rfl (by kernel_rfl) ?_
                refine D.q (o := _) 4 [] hQ hS rfl (.take 2 true 34 _ hb18 rfl rfl rfl) rfl rfl (by exact Rd.p T rfl) rfl (by kernel_rfl) ?_
                refine D.q (o := _) 5 [] hQ hS rfl (.none rfl) rfl rfl (by exact Rd.pk rfl rfl hb18 rfl) rfl (by kernel_rfl) ?_
                refine D.ps 1 [(6, [])] rfl hQ hS T rfl rfl (by kernel_rfl) ?_
                refine hm.cs (fun hb19 hm => ?_) (fun hb19 hm => ?_)
                · refine D.q (o := _) 7 [] hQ hS rfl (.take 6 true 38 _ hb19 rfl rfl rfl) rfl rfl (by exact Rd.p T rfl) rfl (by kernel_rfl) ?_
                  refine D.q (o := _) 8 [] hQ hS rfl (.take 6 true 38 _ hb19 rfl rfl rfl) rfl rfl (by exact Rd.p T rfl) rfl (by kernel_rfl) ?_
                  refine D.q (o := _) 9 [] hQ hS rfl (.take 6 true 38 _ hb19 rfl rfl rfl) rfl rfl (by exact Rd.p T rfl) rfl (by kernel_rfl) ?_
                  refine D.q (o := _) 10 [] hQ hS rfl (.none rfl) rfl rfl (by exact Rd.pk rfl rfl hb19 rfl) rfl (by kernel_rfl) ?_
                  refine D.ps 1 [(11, [])] rfl hQ hS T rfl rfl (by kernel_rfl) ?_
                  refine hm.cs (fun hb20 hm => ?_) (fun hb20 hm => ?_)
                  · refine D.q (o := _) 12 [] hQ hS rfl (.take 11 true 43 _ hb20 rfl rfl rfl) rfl rfl (by exact Rd.p T rfl) rfl (by kernel_rfl) ?_
                    refine D.q (o := _) 13 [] hQ hS rfl (.take 11 true 43 _ hb20 rfl rfl rfl) rfl rfl (by exact Rd.l T rfl rfl rfl) rfl (by kernel_rfl) ?_
                    refine D.q (o := _) 14 [] hQ hS rfl (.take 11 true 43 _ hb20 rfl rfl rfl) rfl rfl (by exact Rd.p T rfl) rfl (by kernel_rfl) ?_
                    refine D.q (o := _) 15 [] hQ hS rfl (.take 11 true 43 _ hb20 rfl rfl rfl) rfl rfl (by exact Rd.l T rfl rfl rfl) rfl (by kernel_rfl) ?_
                    refine D.q (o := _) 16 [] hQ hS rfl (.take 11 true 43 _ hb20 rfl rfl rfl) rfl rfl (by exact Rd.p T rfl) rfl (by kernel_rfl) ?_
                    refine D.q (o := _) 17 [] hQ hS rfl (.take 11 true 43 _ hb20 rfl rfl rfl) rfl rfl (by exact Rd.ix T rfl rfl rfl rfl rfl rfl hx13) rfl (by kernel_rfl) ?_
                    refine D.q (o := _) 18 [] hQ hS rfl (.take 11 true 43 _ hb20 rfl rfl rfl) rfl rfl (by exact Rd.p T rfl) rfl (by kernel_rfl) ?_
                    refine D.q (o := _) 19 [] hQ hS rfl (.take 11 true 43 _ hb20 rfl rfl rfl) rfl rfl (by exact Rd.l T rfl rfl rfl) rfl (by kernel_rfl) ?_
                    refine D.q (o := _) 20 [] hQ hS rfl (.take 11 true 43 _ hb20 rfl rfl rfl) rfl rfl (by exact Rd.p T rfl) rfl (by kernel_rfl) ?_
                    refine D.q (o := _) 21 [] hQ hS rfl (.take 11 true 43 _ hb20 rfl rfl rfl) rfl rfl (by exact Rd.l T rfl rfl rfl) rfl (by kernel_rfl) ?_
                    refine D.q (o := _) 22 [] hQ hS rfl (.take 11 true 43 _ hb20 rfl rfl rfl) rfl rfl (by exact Rd.p T rfl) rfl (by kernel_rfl) ?_
                    refine D.q (o := _) 23 [] hQ hS rfl (.take 11 true 43 _ hb20 rfl rfl rfl) rfl rfl (by exact Rd.p T rfl) rfl (by kernel_rfl) ?_
                    obtain ⟨x21, hx21, hm⟩ := hm
                    refine D.q (o := _) 24 [] hQ hS rfl (.take 11 true 43 _ hb20 rfl rfl rfl) rfl rfl (by exact Rd.ix T rfl rfl rfl rfl rfl rfl hx21) rfl (by kernel_rfl) ?_
                    refine D.q (o := _) 25 [] hQ hS rfl (.take 11 true 43 _ hb20 rfl rfl rfl) rfl rfl (by exact Rd.p T rfl) rfl (by kernel_rfl) ?_
                    refine D.q (o := _) 26 [] hQ hS rfl (.take 11 true 43 _ hb20 rfl rfl rfl) rfl rfl (by exact Rd.l T rfl rfl rfl) rfl (by kernel_rfl) ?_
                    refine D.e (o := _) 27 rfl (.take 11 true 43 _ hb20 rfl rfl rfl) (by exact Eff.c [] (v := true) (T_taquinref11_Apart s_1.Aparts x13.Class x21.Class _ hm) en42 rfl rfl rfl (.eq rfl) trivial rfl rfl rfl rfl rfl rfl (fun _ _ => ⟨(.v _), trivial⟩) (.inr ⟨rfl, rfl⟩) (fun _ => rfl) (fun _ => rfl) rfl) (by kernel_rfl) rfl rfl (fun x22' hm => ?_)
                    obtain ⟨x22⟩ := x22'
                    refine D.q (o := _) 28 [] hQ hS rfl (.none rfl) rfl rfl (by exact Rd.pk rfl rfl hb20 rfl) rfl (by kernel_rfl) ?_
                    refine D.done (by kernel_rfl) ?_
                    exact St.wk (hJ17 _ hm) (Wk.mk' [some 0] rfl rfl (.eqs rfl) ⟨⟨_, rfl, .box rfl (.eq rfl)⟩, trivial⟩ rfl)
                  · refine D.sq (o := _) 12 [] hQ hS rfl (.skip 11 true 43 _ hb20 rfl rfl rfl) rfl rfl (by kernel_rfl) ?_
                    refine D.sq (o := _) 13 [] hQ hS rfl (.skip 11 true 43 _ hb20 rfl rfl rfl) rfl rfl (by kernel_rfl) ?_
                    refine D.sq (o := _) 14 [] hQ hS rfl (.skip 11 true 43 _ hb20 rfl rfl rfl) rfl rfl (by kernel_rfl) ?_
                    refine D.sq (o := _) 15 [] hQ hS rfl (.skip 11 true 43 _ hb20 rfl rfl rfl) rfl rfl (by kernel_rfl) ?_
                    refine D.sq (o := _) 16 [] hQ hS rfl (.skip 11 true 43 _ hb20 rfl rfl rfl) rfl rfl (by kernel_rfl) ?_
                    refine D.sq (o := _) 17 [] hQ hS rfl (.skip 11 true 43 _ hb20 rfl rfl rfl) rfl rfl (by kernel_rfl) ?_
                    refine D.sq (o := _) 18 [] hQ hS rfl (.skip 11 true 43 _ hb20 rfl rfl rfl) rfl rfl (by kernel_rfl) ?_
                    refine D.sq (o := _) 19 [] hQ hS rfl (.skip 11 true 43 _ hb20 rfl rfl rfl) rfl rfl (by kernel_rfl) ?_
                    refine D.sq (o := _) 20 [] hQ hS rfl (.skip 11 true 43 _ hb20 rfl rfl rfl) rfl rfl (by kernel_rfl) ?_
                    refine D.sq (o := _) 21 [] hQ hS rfl (.skip 11 true 43 _ hb20 rfl rfl rfl) rfl rfl (by kernel_rfl) ?_
                    refine D.sq (o := _) 22 [] hQ hS rfl (.skip 11 true 43 _ hb20 rfl rfl rfl) rfl rfl (by kernel_rfl) ?_
                    refine D.sq (o := _) 23 [] hQ hS rfl (.skip 11 true 43 _ hb20 rfl rfl rfl) rfl rfl (by kernel_rfl) ?_
                    refine D.sq (o := _) 24 [] hQ hS rfl (.skip 11 true 43 _ hb20 rfl rfl rfl) rfl rfl (by kernel_rfl) ?_
                    refine D.sq (o := _) 25 [] hQ hS rfl (.skip 11 true 43 _ hb20 rfl rfl rfl) rfl rfl (by kernel_rfl) ?_
                    refine D.sq (o := _) 26 [] hQ hS rfl (.skip 11 true 43 _ hb20 rfl rfl rfl) rfl rfl (by kernel_rfl) ?_
                    refine D.sq (o := _) 27 [] hQ hS rfl (.skip 11 true 43 _ hb20 rfl rfl rfl) rfl rfl (by kernel_rfl) ?_
                    refine D.q (o := _) 28 [] hQ hS rfl (.none rfl) rfl rfl (by exact Rd.pk' rfl rfl hb20 rfl) rfl (by kernel_rfl) ?_
                    refine D.done (by kernel_rfl) ?_
                    exact St.wk (hJ17 _ hm) (Wk.mk' [some 0] rfl rfl (.eqs rfl) ⟨⟨_, rfl, .box rfl (.eq rfl)⟩, trivial⟩ rfl)
                · refine D.sq (o := _) 7 [] hQ hS rfl (.skip 6 true 38 _ hb19 rfl rfl rfl) rfl rfl (by kernel_rfl) ?_
                  refine D.sq (o := _) 8 [] hQ hS rfl (.skip 6 true 38 _ hb19 rfl rfl rfl) rfl rfl (by kernel_rfl) ?_
                  refine D.sq (o := _) 9 [] hQ hS rfl (.skip 6 true 38 _ hb19 rfl rfl rfl) rfl rfl (by kernel_rfl) ?_
                  refine D.q (o := _) 10 [] hQ hS rfl (.none rfl) rfl rfl (by exact Rd.pk' rfl rfl hb19 rfl) rfl (by kernel_rfl) ?_
                  refine D.ps 1 [(11, [])] rfl hQ hS T rfl rfl (by kernel_rfl) ?_
                  refine D.sq (o := _) 12 [] hQ hS rfl (.skip 11 true 43 _ rfl rfl rfl rfl) rfl rfl (by kernel_rfl) ?_
                  refine D.sq (o := _) 13 [] hQ hS rfl (.skip 11 true 43 _ rfl rfl rfl rfl) rfl rfl (by kernel_rfl) ?_
                  refine D.sq (o := _) 14 [] hQ hS rfl (.skip 11 true 43 _ rfl rfl rfl rfl) rfl rfl (by kernel_rfl) ?_
                  refine D.sq (o := _) 15 [] hQ hS rfl (.skip 11 true 43 _ rfl rfl rfl rfl) rfl rfl (by kernel_rfl) ?_
                  refine D.sq (o := _) 16 [] hQ hS rfl (.skip 11 true 43 _ rfl rfl rfl rfl) rfl rfl (by kernel_rfl) ?_
                  refine D.sq (o := _) 17 [] hQ hS rfl (.skip 11 true 43 _ rfl rfl rfl rfl) rfl rfl (by kernel_rfl) ?_
                  refine D.sq (o := _) 18 [] hQ hS rfl (.skip 11 true 43 _ rfl rfl rfl rfl) rfl rfl (by kernel_rfl) ?_
                  refine D.sq (o := _) 19 [] hQ hS rfl (.skip 11 true 43 _ rfl rfl rfl rfl) rfl rfl (by kernel_rfl) ?_
                  refine D.sq (o := _) 20 [] hQ hS rfl (.skip 11 true 43 _ rfl rfl rfl rfl) rfl rfl (by kernel_rfl) ?_
                  refine D.sq (o := _) 21 [] hQ hS rfl (.skip 11 true 43 _ rfl rfl rfl rfl) rfl rfl (by kernel_rfl) ?_
                  refine D.sq (o := _) 22 [] hQ hS rfl (.skip 11 true 43 _ rfl rfl rfl rfl) rfl rfl (by kernel_rfl) ?_
                  refine D.sq (o := _) 23 [] hQ hS rfl (.skip 11 true 43 _ rfl rfl rfl rfl) rfl rfl (by kernel_rfl) ?_
                  refine D.sq (o := _) 24 [] hQ hS rfl (.skip 11 true 43 _ rfl rfl rfl rfl) rfl rfl (by kernel_rfl) ?_
                  refine D.sq (o := _) 25 [] hQ hS rfl (.skip 11 true 43 _ rfl rfl rfl rfl) rfl rfl (by kernel_rfl) ?_
                  refine D.sq (o := _) 26 [] hQ hS rfl (.skip 11 true 43 _ rfl rfl rfl rfl) rfl rfl (by kernel_rfl) ?_
                  refine D.sq (o := _) 27 [] hQ hS rfl (.skip 11 true 43 _ rfl rfl rfl rfl) rfl rfl (by kernel_rfl) ?_
                  refine D.q (o := _) 28 [] hQ hS rfl (.none rfl) rfl rfl (by exact Rd.pk' rfl rfl rfl rfl) rfl (by kernel_rfl) ?_
                  refine D.done (by kernel_rfl) ?_
                  exact St.wk (hJ17 _ hm) (Wk.mk' [some 0] rfl rfl (.eqs rfl) ⟨⟨_, rfl, .box rfl (.eq rfl)⟩, trivial⟩ rfl)
              · refine D.sq (o := _) 3 [] hQ hS rfl (.skip 2 true 34 _ hb18 rfl rfl rfl) rfl rfl (by kernel_rfl) ?_
                refine D.sq (o := _) 4 [] hQ hS rfl (.skip 2 true 34 _ hb18 rfl rfl rfl) rfl rfl (by kernel_rfl) ?_
                refine D.q (o := _) 5 [] hQ hS rfl (.none rfl) rfl rfl (by exact Rd.pk' rfl rfl hb18 rfl) rfl (by kernel_rfl) ?_
                refine D.ps 1 [(6, [])] rfl hQ hS T rfl rfl (by kernel_rfl) ?_
                refine D.sq (o := _) 7 [] hQ hS rfl (.skip 6 true 38 _ rfl rfl rfl rfl) rfl rfl (by kernel_rfl) ?_
                refine D.sq (o := _) 8 [] hQ hS rfl (.skip 6 true 38 _ rfl rfl rfl rfl) rfl rfl (by kernel_rfl) ?_
                refine D.sq (o := _) 9 [] hQ hS rfl (.skip 6 true 38 _ rfl rfl rfl rfl) rfl rfl (by kernel_rfl) ?_
                refine D.q (o := _) 10 [] hQ hS rfl (.none rfl) rfl rfl (by exact Rd.pk' rfl rfl rfl rfl) rfl (by kernel_rfl) ?_
                refine D.ps 1 [(11, [])] rfl hQ hS T rfl rfl (by kernel_rfl) ?_
                refine D.sq (o := _) 12 [] hQ hS rfl (.skip 11 true 43 _ rfl rfl rfl rfl) rfl rfl (by kernel_rfl) ?_
                refine D.sq (o := _) 13 [] hQ hS rfl (.skip 11 true 43 _ rfl rfl rfl rfl) rfl rfl (by kernel_rfl) ?_
                refine D.sq (o := _) 14 [] hQ hS rfl (.skip 11 true 43 _ rfl rfl rfl rfl) rfl rfl (by kernel_rfl) ?_
                refine D.sq (o := _) 15 [] hQ hS rfl (.skip 11 true 43 _ rfl rfl rfl rfl) rfl rfl (by kernel_rfl) ?_
                refine D.sq (o := _) 16 [] hQ hS rfl (.skip 11 true 43 _ rfl rfl rfl rfl) rfl rfl (by kernel_rfl) ?_
                refine D.sq (o := _) 17 [] hQ hS rfl (.skip 11 true 43 _ rfl rfl rfl rfl) rfl rfl (by kernel_rfl) ?_
                refine D.sq (o := _) 18 [] hQ hS rfl (.skip 11 true 43 _ rfl rfl rfl rfl) rfl rfl (by kernel_rfl) ?_
                refine D.sq (o := _) 19 [] hQ hS rfl (.skip 11 true 43 _ rfl rfl rfl rfl) rfl rfl (by kernel_rfl) ?_
                refine D.sq (o := _) 20 [] hQ hS rfl (.skip 11 true 43 _ rfl rfl rfl rfl) rfl rfl (by kernel_rfl) ?_
                refine D.sq (o := _) 21 [] hQ hS rfl (.skip 11 true 43 _ rfl rfl rfl rfl) rfl rfl (by kernel_rfl) ?_
                refine D.sq (o := _) 22 [] hQ hS rfl (.skip 11 true 43 _ rfl rfl rfl rfl) rfl rfl (by kernel_rfl) ?_
                refine D.sq (o := _) 23 [] hQ hS rfl (.skip 11 true 43 _ rfl rfl rfl rfl) rfl rfl (by kernel_rfl) ?_
                refine D.sq (o := _) 24 [] hQ hS rfl (.skip 11 true 43 _ rfl rfl rfl rfl) rfl rfl (by kernel_rfl) ?_
                refine D.sq (o := _) 25 [] hQ hS rfl (.skip 11 true 43 _ rfl rfl rfl rfl) rfl rfl (by kernel_rfl) ?_
                refine D.sq (o := _) 26 [] hQ hS rfl (.skip 11 true 43 _ rfl rfl rfl rfl) rfl rfl (by kernel_rfl) ?_
                refine D.sq (o := _) 27 [] hQ hS rfl (.skip 11 true 43 _ rfl rfl rfl rfl) rfl rfl (by kernel_rfl) ?_
                refine D.q (o := _) 28 [] hQ hS rfl (.none rfl) rfl rfl (by exact Rd.pk' rfl rfl rfl rfl) rfl (by kernel_rfl) ?_
                refine D.done (by kernel_rfl) ?_
                exact St.wk (hJ17 _ hm) (Wk.mk' [some 0] rfl rfl (.eqs rfl) ⟨⟨_, rfl, .box rfl (.eq rfl)⟩, trivial⟩ rfl)
          · refine C.exit ?_
            refine C.ex ?_
            refine C.ex ?_
            refine C.bex ?_
            exact St.wk (hJ9 _ hm) (Wk.mk' [some 0] rfl rfl (.eqs rfl) ⟨⟨_, rfl, .box rfl (.eq rfl)⟩, trivial⟩ rfl)
    · refine C.exit ?_
      refine C.ex ?_
      refine C.ex ?_
      refine C.bex ?_
      exact St.wk (hJ2 _ hm) (Wk.mk' [] rfl rfl trivial trivial rfl)
theorem T_taquinref11_charger (f : ApiFloor) (post : Bool → Prop) (hm : V_taquinref11_charger f post) :
    Tr Try.prog 48 [.agg [.v (.int .i64 f.W), .v (.int .i64 f.H), .v (.int .i64 f.D), .sl 1 eI f.Kind, .sl 1 eI f.Out]] [] 0 (fun A H' k => ∃ y, post y ∧ A = (.v (.bool y)) ∧ H' = [] ∧ k = 0) := by
  refine Tr.intro (n := 6) Try.func48 rfl Try.ntmps48 rfl (fun w0 ok F β hβ => ?_)
  unfold V_taquinref11_charger at hm
  refine C.seq ?_
  refine U.start ?_
  refine U.e1 (o := _) rfl (.none rfl) (by exact Eff1.box rfl rfl rfl rfl rfl) ?_
  refine U.p T rfl (.none rfl) rfl rfl rfl ?_
  refine U.done ?_
  refine C.nx ?_
  refine C.seq ?_
  refine U.start ?_
  refine U.ps 2 T rfl ?_
  refine U.e (o := _) rfl (.none rfl) (by exact Eff.c [] (v := true) (T_taquinref07_Has f.Kind 3 _ hm) en55 rfl rfl rfl (.eq rfl) trivial rfl rfl rfl rfl rfl rfl (fun _ _ => ⟨(.v _), trivial⟩) (.inr ⟨rfl, rfl⟩) (fun _ => rfl) (fun _ => rfl) rfl) (fun x1' hm => ?_)
  obtain ⟨x1⟩ := x1'
  refine U.p T rfl (.none rfl) rfl rfl rfl ?_
  refine U.done ?_
  refine C.nx ?_
  refine C.ret ?_
  exact C.fin T (rs' := [.v (.bool x1)]) (H' := []) (nl' := 0) [] rfl rfl (.eq rfl) trivial rfl rfl rfl rfl hβ ⟨x1, hm, rfl, rfl, rfl⟩
end Go.Proofs.Ytliikemkgfjpaaa
