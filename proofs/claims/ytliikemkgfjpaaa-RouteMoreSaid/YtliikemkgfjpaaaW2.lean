/- The walks: each Go function does what its verification condition says (written by a program of the prover). -/
import Derived.Test.YtliikemkgfjpaaaW1
import Derived.KernelRfl
set_option maxRecDepth 100000
set_option maxHeartbeats 8000000
set_option linter.unusedVariables false
namespace Go.Proofs.Ytliikemkgfjpaaa
open Go Go.Taq
theorem T_taquinlaw23_RouteMore (s_1 : ApiSite) (from_1 : Int) (to_1 : Int) (tick : Int) (taken : List ApiTaken) (avoid : List Int) (most : Int) (one : ApiTaken) (two : Int) (post : Bool → Prop) (hm : V_taquinlaw23_RouteMore s_1 from_1 to_1 tick taken avoid most one two post) :
    Tr Try.prog 4 [.agg (eApiSite s_1), .i from_1, .i to_1, .i tick, .sl 3 eApiTaken taken, .sl 1 eI avoid, .i most, .agg (eApiTaken one), .i two] [] 0 (fun A H' k => ∃ y, post y ∧ A = (.b y) ∧ H' = [] ∧ k = 0) := by
 refine Tr.intro (n := 136) Try.func4 rfl Try.ntmps4 rfl (fun w0 ok F β hβ => ?_)
 unfold V_taquinlaw23_RouteMore at hm
 refine C.seq (U.start ?_)
 refine U.e1 (o := _) rfl (.none rfl) (by exact Eff1.box rfl rfl rfl rfl rfl) ?_
 refine U.e1 (o := _) rfl (.none rfl) (by exact Eff1.box rfl rfl rfl rfl rfl) ?_
 refine U.ps 1 T rfl ?_
 refine U.done (C.nx (C.seq (U.start ?_)))
 refine U.e (o := _) rfl (.none rfl) (by exact Eff.c [] (v := true) (T_taquinlaw23_small _ hm) en7 rfl rfl rfl (.eq rfl) trivial rfl rfl rfl rfl rfl rfl (fun _ _ => ⟨(.v _), trivial⟩) (.inr ⟨rfl, rfl⟩) (fun _ => rfl) (fun _ => rfl) rfl) (fun x5' hm => ?_)
 obtain ⟨x5⟩ := x5'
 refine U.ps 1 T rfl ?_
 refine U.done (C.nx (C.seq (C.seq ?_)))
 refine C.jn (fun (x6 : Bool) => [(1, .i from_1), (2, .i to_1), (3, .i tick), (4, .sl 3 eApiTaken taken), (5, .sl 1 eI avoid), (6, .i most), (8, .i two), (9, .p 0 0), (16, .p 1 0), (19, .b x5), (39, .b x6)]) (fun (x6 : Bool) => [(0, .box (eApiSite s_1)), (1, .box (eApiTaken one))]) 2 hm (fun x6 hm => ?_) (fun J7 hm hJ7 => ?_)
 ·refine C.nx ?_
  refine C.ite rfl hm (fun hb11 hm => ?_) (fun hb11 hm => ?_)
  ·refine C.seq (U.start ?_)
   refine U.ps 2 T rfl ?_
   refine U.done (C.nx (C.ret (C.rt ?_)))
   exact C.fin T (rs' := [.b x5]) (H' := []) (nl' := 0) [] rfl rfl (.eq rfl) trivial rfl rfl rfl rfl hβ ⟨x5, hm, rfl, rfl, rfl⟩
  ·refine C.skip (C.nx (C.seq (U.start ?_)))
   refine U.ps 7 T rfl ?_
   refine U.e (o := _) rfl (.none rfl) (by exact Eff.c [] (v := true) (T_route_Find s_1 from_1 to_1 tick taken avoid most _ hm) en9 rfl rfl rfl (.eq rfl) trivial rfl rfl rfl rfl rfl rfl (fun _ _ => ⟨(.tup (.cons (.o _) (.cons (.v _) .nil))), ⟨.val (.os _ _ _ fun _ => (.cons (.v _) .nil)), trivial⟩⟩) (.inr ⟨rfl, rfl⟩) (fun _ => rfl) (fun _ => rfl) rfl) (fun x16' hm => ?_)
   obtain ⟨x16⟩ := x16'
   refine U.ps 5 T rfl ?_
   refine U.done (C.nx (C.seq ?_))
   refine D.beg 9999 [0, 1] [3, 4, 5, 6, 7, 8, 9] mix rfl rfl (by kernel_rfl) (by repeat (first | exact NoPanicQ.body | refine NoPanicQ.th ?_ | refine NoPanicQ.blk ?_)) (fun hQ hS ws M' => ?_)
   refine D.ps 9 [(0, []), (1, []), (2, []), (3, []), (5, []), (7, []), (11, []), (13, []), (16, [])] rfl hQ hS T rfl rfl (by kernel_rfl) ?_
   obtain ⟨hx19, hm⟩ := hm
   obtain ⟨hx20, hm⟩ := hm
   obtain ⟨hx21, hm⟩ := hm
   refine D.have false [(1, .i from_1), (2, .i to_1), (3, .i tick), (4, .sl 3 eApiTaken taken), (5, .sl 1 eI avoid), (6, .i most), (8, .i two), (9, .p 0 0), (16, .p 1 0), (19, .b x5), (20, .o 2), (21, .i x16.2), (39, .b x6), (41, .tup [.o 2, .i x16.2]), (42, .agg (eApiSite s_1)), (43, .i from_1), (44, .i to_1), (45, .i tick), (46, .sl 3 eApiTaken taken), (47, .sl 1 eI avoid), (48, .i most), (49, .tup [.o 2, .i x16.2]), (50, .o 2), (51, .i x16.2), (53, .agg (eApiSite s_1)), (54, .i from_1), (55, .i to_1), (56, .i tick), (57, .o 3), (58, .sl 3 eApiTaken taken), (59, .o 4), (60, .agg (eApiTaken one)), (61, .o 5), (62, .o 6), (63, .o 7), (64, .sl 1 eI avoid), (65, .o 8), (66, .i two), (67, .o 9), (69, .i most)] [(0, .box (eApiSite s_1)), (1, .box (eApiTaken one)), (2, .val (.os 1 eI x16.1)), (5, .val (.os 3 eApiTaken ([one] : List ApiTaken))), (6, .val (.os 3 eApiTaken ((([] : List ApiTaken) ++ taken) ++ ([one] : List ApiTaken)))), (8, .val (.os 1 eI (([] : List Int) ++ avoid))), (9, .val (.os 1 eI ([two] : List Int)))] 10 7 #[true, true, true, true, true, true, true, true, true, true, true, true, true, true, true, false, true, false, false, false, false, false, false] ?_ (fun hd18_29 => ?_)
   ·obtain ⟨hx22, hm⟩ := hm
    refine D.e1 (o := _) 15 rfl (.none rfl) (by exact Eff1.ap T rfl rfl rfl rfl rfl rfl (.inr ⟨_, rfl, rfl⟩) rfl rfl rfl (fun _ => rfl) rfl hx22) (by kernel_rfl) rfl rfl ?_
    refine D.e (o := _) 17 rfl (.none rfl) (by exact Eff.c [] (v := true) (T_route_Find s_1 from_1 to_1 tick ((([] : List ApiTaken) ++ taken) ++ ([one] : List ApiTaken)) ((([] : List Int) ++ avoid) ++ ([two] : List Int)) most _ hm) en9 rfl rfl rfl (.cons (.eq rfl) (.cons (.eq rfl) (.cons (.eq rfl) (.cons (.eq rfl) (.cons (.fz rfl rfl rfl (.os fun _ => .cons (.ro rfl) (.cons (.ro rfl) (.cons (.ro rfl) .nil)))) (.cons (.fz rfl rfl rfl (.os fun _ => .cons (.ro rfl) .nil)) (.eq rfl))))))) trivial rfl rfl rfl rfl rfl rfl (fun _ _ => ⟨(.tup (.cons (.o _) (.cons (.v _) .nil))), ⟨.val (.os _ _ _ fun _ => (.cons (.v _) .nil)), trivial⟩⟩) (.inr ⟨rfl, rfl⟩) (fun _ => rfl) (fun _ => rfl) rfl) (by kernel_rfl) rfl rfl (fun x23' hm => ?_)
    obtain ⟨x23⟩ := x23'
    refine D.ps 5 [(18, []), (19, []), (20, []), (21, []), (22, [])] rfl hQ hS T rfl rfl (by kernel_rfl) ?_
    refine D.done (by kernel_rfl) ?_
    refine C.nx (C.seq (U.start ?_))
    refine U.ps 8 T rfl ?_
    refine U.e (o := _) rfl (.none rfl) (by exact Eff.c [] (v := true) (T_route_Find s_1 from_1 to_1 tick taken avoid (w64 (most + 4)) _ hm) en9 rfl rfl rfl (.eq rfl) trivial rfl rfl rfl rfl rfl rfl (fun _ _ => ⟨(.tup (.cons (.o _) (.cons (.v _) .nil))), ⟨.val (.os _ _ _ fun _ => (.cons (.v _) .nil)), trivial⟩⟩) (.inr ⟨rfl, rfl⟩) (fun _ => rfl) (fun _ => rfl) rfl) (fun x26' hm => ?_)
    obtain ⟨x26⟩ := x26'
    refine U.ps 5 T rfl ?_
    refine U.done (C.nx (C.seq (C.seq ?_)))
    refine C.jn (fun (x27 : Bool) => [(6, .i most), (19, .b x5), (20, .o 0), (21, .i x16.2), (24, .o 1), (25, .i x26.2), (108, .b x27)]) (fun (x27 : Bool) => [(0, .val (.os 1 eI x16.1)), (1, .val (.os 1 eI x26.1))]) 2 hm (fun x27 hm => ?_) (fun J28 hm hJ28 => ?_)
    ·refine C.nx ?_
     refine C.ite rfl hm (fun hb33 hm => ?_) (fun hb33 hm => ?_)
     ·refine C.seq (U.start ?_)
      refine U.ps 1 T rfl ?_
      refine U.done (C.nx (C.ret (C.rt ?_)))
      exact C.fin T (rs' := [.b false]) (H' := []) (nl' := 0) [] rfl rfl (.eq rfl) trivial rfl rfl rfl rfl hβ ⟨false, hm, rfl, rfl, rfl⟩
     ·refine C.skip (C.nx (C.seq (C.seq ?_)))
      refine C.jn (fun (x36 : Bool) => [(6, .i most), (19, .b x5), (21, .i x16.2), (24, .o 0), (25, .i x26.2), (120, .b x36)]) (fun (x36 : Bool) => [(0, .val (.os 1 eI x26.1))]) 1 hm (fun x36 hm => ?_) (fun J37 hm hJ37 => ?_)
      ·refine C.nx ?_
       refine C.ite rfl hm (fun hb41 hm => ?_) (fun hb41 hm => ?_)
       ·refine C.seq (U.start ?_)
        refine U.ps 1 T rfl ?_
        refine U.done (C.nx (C.ret (C.rt ?_)))
        exact C.fin T (rs' := [.b false]) (H' := []) (nl' := 0) [] rfl rfl (.eq rfl) trivial rfl rfl rfl rfl hβ ⟨false, hm, rfl, rfl, rfl⟩
       ·refine C.skip (C.nx (C.seq ?_))
        refine C.jn (fun (x44 : Bool) => [(18, .b x44)]) (fun (x44 : Bool) => []) 0 hm (fun x44 hm => ?_) (fun J45 hm hJ45 => ?_)
        ·refine C.nx (C.ret ?_)
         exact C.fin T (rs' := [.b x44]) (H' := []) (nl' := 0) [] rfl rfl (.eq rfl) trivial rfl rfl rfl rfl hβ ⟨x44, hm, rfl, rfl, rfl⟩
        ·refine U.start ?_
         refine U.ps 2 T rfl ?_
         refine hm.cs (fun hb46 hm => ?_) (fun hb46 hm => ?_)
         ·refine U.pg 3 1 true 122 hb46 T rfl rfl rfl rfl ?_
          refine hm.cs (fun hb47 hm => ?_) (fun hb47 hm => ?_)
          ·refine U.sks 2 4 false 125 hb47 rfl rfl rfl ?_
           refine U.r (o := _) rfl (.take 1 true 122 _ hb46 rfl rfl rfl) rfl rfl (by exact Rd.pk rfl rfl hb47 rfl) ?_
           refine U.pg 1 1 true 122 hb46 T rfl rfl rfl rfl ?_
           refine U.sks 4 8 false 129 rfl rfl rfl rfl ?_
           refine U.r (o := _) rfl (.take 1 true 122 _ hb46 rfl rfl rfl) rfl rfl (by exact Rd.pk rfl rfl rfl rfl) ?_
           refine U.r (o := _) rfl (.none rfl) rfl rfl (by exact Rd.pk rfl rfl hb46 rfl) ?_
           refine U.ps 1 T rfl ?_
           refine U.done ?_
           exact St.wk (hJ45 _ hm) (Wk.mk' [] rfl rfl (.eqs rfl) trivial rfl)
          ·refine U.pg 2 4 false 125 hb47 T rfl rfl rfl rfl ?_
           refine U.r (o := _) rfl (.take 1 true 122 _ hb46 rfl rfl rfl) rfl rfl (by exact Rd.pk' rfl rfl hb47 rfl) ?_
           refine U.pg 1 1 true 122 hb46 T rfl rfl rfl rfl ?_
           refine hm.cs (fun hb48 hm => ?_) (fun hb48 hm => ?_)
           ·refine U.sks 4 8 false 129 hb48 rfl rfl rfl ?_
            refine U.r (o := _) rfl (.take 1 true 122 _ hb46 rfl rfl rfl) rfl rfl (by exact Rd.pk rfl rfl hb48 rfl) ?_
            refine U.r (o := _) rfl (.none rfl) rfl rfl (by exact Rd.pk rfl rfl hb46 rfl) ?_
            refine U.ps 1 T rfl ?_
            refine U.done ?_
            exact St.wk (hJ45 _ hm) (Wk.mk' [] rfl rfl (.eqs rfl) trivial rfl)
           ·refine U.pg 4 8 false 129 hb48 T rfl rfl rfl rfl ?_
            refine U.r (o := _) rfl (.take 1 true 122 _ hb46 rfl rfl rfl) rfl rfl (by exact Rd.pk' rfl rfl hb48 rfl) ?_
            refine U.r (o := _) rfl (.none rfl) rfl rfl (by exact Rd.pk rfl rfl hb46 rfl) ?_
            refine U.ps 1 T rfl ?_
            refine U.done ?_
            exact St.wk (hJ45 _ hm) (Wk.mk' [] rfl rfl (.eqs rfl) trivial rfl)
         ·refine U.sks 3 1 true 122 hb46 rfl rfl rfl ?_
          refine U.sku 2 4 false 125 rfl rfl rfl ?_
          refine U.sks 2 1 true 122 hb46 rfl rfl rfl ?_
          refine U.sku 4 8 false 129 rfl rfl rfl ?_
          refine U.sks 1 1 true 122 hb46 rfl rfl rfl ?_
          refine U.r (o := _) rfl (.none rfl) rfl rfl (by exact Rd.pk' rfl rfl hb46 rfl) ?_
          refine U.ps 1 T rfl ?_
          refine U.done ?_
          exact St.wk (hJ45 _ hm) (Wk.mk' [] rfl rfl (.eqs rfl) trivial rfl)
      ·refine U.start ?_
       refine U.ps 3 T rfl ?_
       refine hm.cs (fun hb38 hm => ?_) (fun hb38 hm => ?_)
       ·refine U.pg 3 2 true 111 hb38 T rfl rfl rfl rfl ?_
        refine hm.cs (fun hb39 hm => ?_) (fun hb39 hm => ?_)
        ·refine U.sks 4 5 false 114 hb39 rfl rfl rfl ?_
         refine U.r (o := _) rfl (.take 2 true 111 _ hb38 rfl rfl rfl) rfl rfl (by exact Rd.pk rfl rfl hb39 rfl) ?_
         refine U.r (o := _) rfl (.none rfl) rfl rfl (by exact Rd.pk rfl rfl hb38 rfl) ?_
         refine U.done ?_
         exact St.wk (hJ37 _ hm) (Wk.mk' [some 1] rfl rfl (.eqs rfl) ⟨⟨_, rfl, .val rfl⟩, trivial⟩ rfl)
        ·refine U.pg 2 5 false 114 hb39 T rfl rfl rfl rfl ?_
         refine U.e (o := _) rfl (.take 5 false 114 _ hb39 rfl rfl rfl) (by exact Eff.c [] (v := true) (T_taquinref07_Same x16.1 x26.1 _ hm) en11 rfl rfl rfl (.cons (.fz rfl rfl rfl (.os fun _ => .cons (.ro rfl) .nil)) (.cons (.fz rfl rfl rfl (.os fun _ => .cons (.ro rfl) .nil)) .nil)) trivial rfl rfl rfl rfl rfl rfl (fun _ _ => ⟨(.v _), trivial⟩) (.inr ⟨rfl, rfl⟩) (fun _ => rfl) (fun _ => rfl) rfl) (fun x40' hm => ?_)
         obtain ⟨x40⟩ := x40'
         refine U.pg 1 5 false 114 hb39 T rfl rfl rfl rfl ?_
         refine U.r (o := _) rfl (.take 2 true 111 _ hb38 rfl rfl rfl) rfl rfl (by exact Rd.pk' rfl rfl hb39 rfl) ?_
         refine U.r (o := _) rfl (.none rfl) rfl rfl (by exact Rd.pk rfl rfl hb38 rfl) ?_
         refine U.done ?_
         exact St.wk (hJ37 _ hm) (Wk.mk' [some 1] rfl rfl (.eqs rfl) ⟨⟨_, rfl, .val rfl⟩, trivial⟩ rfl)
       ·refine U.sks 3 2 true 111 hb38 rfl rfl rfl ?_
        refine U.sku 4 5 false 114 rfl rfl rfl ?_
        refine U.sks 1 2 true 111 hb38 rfl rfl rfl ?_
        refine U.r (o := _) rfl (.none rfl) rfl rfl (by exact Rd.pk' rfl rfl hb38 rfl) ?_
        refine U.done ?_
        exact St.wk (hJ37 _ hm) (Wk.mk' [some 1] rfl rfl (.eqs rfl) ⟨⟨_, rfl, .val rfl⟩, trivial⟩ rfl)
    ·refine U.start ?_
     refine U.ps 3 T rfl ?_
     refine hm.cs (fun hb29 hm => ?_) (fun hb29 hm => ?_)
     ·refine U.pg 3 2 true 87 hb29 T rfl rfl rfl rfl ?_
      refine hm.cs (fun hb30 hm => ?_) (fun hb30 hm => ?_)
      ·refine U.sks 5 5 false 90 hb30 rfl rfl rfl ?_
       refine U.r (o := _) rfl (.take 2 true 87 _ hb29 rfl rfl rfl) rfl rfl (by exact Rd.pk rfl rfl hb30 rfl) ?_
       refine U.pg 1 2 true 87 hb29 T rfl rfl rfl rfl ?_
       refine U.sks 9 12 false 97 rfl rfl rfl rfl ?_
       refine U.r (o := _) rfl (.take 2 true 87 _ hb29 rfl rfl rfl) rfl rfl (by exact Rd.pk rfl rfl rfl rfl) ?_
       refine U.r (o := _) rfl (.none rfl) rfl rfl (by exact Rd.pk rfl rfl hb29 rfl) ?_
       refine U.done ?_
       exact St.wk (hJ28 _ hm) (Wk.mk' [some 2, some 12] rfl rfl (.eqs rfl) ⟨⟨_, rfl, .val rfl⟩, ⟨_, rfl, .val rfl⟩, trivial⟩ rfl)
      ·refine U.pg 5 5 false 90 hb30 T rfl rfl rfl rfl ?_
       refine U.r (o := _) rfl (.take 2 true 87 _ hb29 rfl rfl rfl) rfl rfl (by exact Rd.pk' rfl rfl hb30 rfl) ?_
       refine U.pg 1 2 true 87 hb29 T rfl rfl rfl rfl ?_
       refine hm.cs (fun hb31 hm => ?_) (fun hb31 hm => ?_)
       ·refine U.sks 9 12 false 97 hb31 rfl rfl rfl ?_
        refine U.r (o := _) rfl (.take 2 true 87 _ hb29 rfl rfl rfl) rfl rfl (by exact Rd.pk rfl rfl hb31 rfl) ?_
        refine U.r (o := _) rfl (.none rfl) rfl rfl (by exact Rd.pk rfl rfl hb29 rfl) ?_
        refine U.done ?_
        exact St.wk (hJ28 _ hm) (Wk.mk' [some 2, some 12] rfl rfl (.eqs rfl) ⟨⟨_, rfl, .val rfl⟩, ⟨_, rfl, .val rfl⟩, trivial⟩ rfl)
       ·refine U.pg 7 12 false 97 hb31 T rfl rfl rfl rfl ?_
        refine U.e (o := _) rfl (.take 12 false 97 _ hb31 rfl rfl rfl) (by exact Eff.c [] (v := true) (T_route_Check s_1 from_1 to_1 tick taken avoid x23.1 _ hm) en10 rfl rfl rfl (.cons (.eq rfl) (.cons (.eq rfl) (.cons (.eq rfl) (.cons (.eq rfl) (.cons (.eq rfl) (.cons (.eq rfl) (.cons (.fz rfl rfl rfl (.os fun _ => .cons (.ro rfl) .nil)) .nil))))))) trivial rfl rfl rfl rfl rfl rfl (fun _ _ => ⟨(.v _), trivial⟩) (.inr ⟨rfl, rfl⟩) (fun _ => rfl) (fun _ => rfl) rfl) (fun x32' hm => ?_)
        obtain ⟨x32⟩ := x32'
        refine U.pg 1 12 false 97 hb31 T rfl rfl rfl rfl ?_
        refine U.r (o := _) rfl (.take 2 true 87 _ hb29 rfl rfl rfl) rfl rfl (by exact Rd.pk' rfl rfl hb31 rfl) ?_
        refine U.r (o := _) rfl (.none rfl) rfl rfl (by exact Rd.pk rfl rfl hb29 rfl) ?_
        refine U.done ?_
        exact St.wk (hJ28 _ hm) (Wk.mk' [some 2, some 12] rfl rfl (.eqs rfl) ⟨⟨_, rfl, .val rfl⟩, ⟨_, rfl, .val rfl⟩, trivial⟩ rfl)
     ·refine U.sks 3 2 true 87 hb29 rfl rfl rfl ?_
      refine U.sku 5 5 false 90 rfl rfl rfl ?_
      refine U.sks 2 2 true 87 hb29 rfl rfl rfl ?_
      refine U.sku 9 12 false 97 rfl rfl rfl ?_
      refine U.sks 1 2 true 87 hb29 rfl rfl rfl ?_
      refine U.r (o := _) rfl (.none rfl) rfl rfl (by exact Rd.pk' rfl rfl hb29 rfl) ?_
      refine U.done ?_
      exact St.wk (hJ28 _ hm) (Wk.mk' [some 2, some 12] rfl rfl (.eqs rfl) ⟨⟨_, rfl, .val rfl⟩, ⟨_, rfl, .val rfl⟩, trivial⟩ rfl)
   refine D.have false [(1, .i from_1), (2, .i to_1), (3, .i tick), (4, .sl 3 eApiTaken taken), (5, .sl 1 eI avoid), (6, .i most), (8, .i two), (9, .p 0 0), (16, .p 1 0), (19, .b x5), (20, .o 2), (21, .i x16.2), (39, .b x6), (41, .tup [.o 2, .i x16.2]), (42, .agg (eApiSite s_1)), (43, .i from_1), (44, .i to_1), (45, .i tick), (46, .sl 3 eApiTaken taken), (47, .sl 1 eI avoid), (48, .i most), (49, .tup [.o 2, .i x16.2]), (50, .o 2), (51, .i x16.2), (53, .agg (eApiSite s_1)), (54, .i from_1), (55, .i to_1), (56, .i tick), (57, .o 3), (58, .sl 3 eApiTaken taken), (59, .o 4), (60, .agg (eApiTaken one)), (61, .o 5), (62, .o 6), (63, .o 7), (64, .sl 1 eI avoid), (65, .o 8), (66, .i two), (69, .i most)] [(0, .box (eApiSite s_1)), (1, .box (eApiTaken one)), (2, .val (.os 1 eI x16.1)), (5, .val (.os 3 eApiTaken ([one] : List ApiTaken))), (6, .val (.os 3 eApiTaken ((([] : List ApiTaken) ++ taken) ++ ([one] : List ApiTaken)))), (8, .val (.os 1 eI (([] : List Int) ++ avoid)))] 9 8 #[true, true, true, true, true, true, true, true, true, true, true, true, true, true, false, false, true, false, false, false, false, false, false] ?_ (fun hd18_27 => ?_)
   ·refine D.all 14 [] (by kernel_rfl) ⟨?_, trivial⟩
    ·refine D.ef1 (o := _) rfl (.none rfl) (by exact Eff1.bs T (enc := eI) (xs := ([two] : List Int)) rfl rfl rfl rfl rfl rfl rfl rfl rfl rfl (fun _ _ => rfl) rfl rfl) rfl rfl ?_
     exact D.to [some 0, some 1, some 2, some 3, some 4, some 5, some 6, some 7, some 8, some 9] hd18_29 (by kernel_rfl) rfl rfl (.eqs rfl) ⟨⟨_, rfl, .box rfl (.eq rfl)⟩, ⟨_, rfl, .box rfl (.eq rfl)⟩, ⟨_, rfl, .val rfl⟩, ⟨_, rfl, .val rfl⟩, ⟨_, rfl, .val rfl⟩, ⟨_, rfl, .val rfl⟩, ⟨_, rfl, .val rfl⟩, trivial⟩ rfl rfl rfl
   refine D.have false [(1, .i from_1), (2, .i to_1), (3, .i tick), (4, .sl 3 eApiTaken taken), (5, .sl 1 eI avoid), (6, .i most), (8, .i two), (9, .p 0 0), (16, .p 1 0), (19, .b x5), (20, .o 2), (21, .i x16.2), (39, .b x6), (41, .tup [.o 2, .i x16.2]), (42, .agg (eApiSite s_1)), (43, .i from_1), (44, .i to_1), (45, .i tick), (46, .sl 3 eApiTaken taken), (47, .sl 1 eI avoid), (48, .i most), (49, .tup [.o 2, .i x16.2]), (50, .o 2), (51, .i x16.2), (53, .agg (eApiSite s_1)), (54, .i from_1), (55, .i to_1), (56, .i tick), (57, .o 3), (58, .sl 3 eApiTaken taken), (59, .o 4), (60, .agg (eApiTaken one)), (61, .o 5), (62, .o 6), (63, .o 7), (64, .sl 1 eI avoid), (66, .i two), (67, .o 8), (69, .i most)] [(0, .box (eApiSite s_1)), (1, .box (eApiTaken one)), (2, .val (.os 1 eI x16.1)), (5, .val (.os 3 eApiTaken ([one] : List ApiTaken))), (6, .val (.os 3 eApiTaken ((([] : List ApiTaken) ++ taken) ++ ([one] : List ApiTaken)))), (7, .val (.os 1 eI ([] : List Int))), (8, .val (.os 1 eI ([two] : List Int)))] 9 8 #[true, true, true, true, true, true, true, true, true, true, true, true, false, true, true, false, true, false, false, false, false, false, false] ?_ (fun hd18_28 => ?_)
   ·refine D.all 12 [] (by kernel_rfl) ⟨?_, trivial⟩
    ·refine D.ef1 (o := _) rfl (.none rfl) (by exact Eff1.ap T rfl rfl rfl rfl rfl rfl (.inl rfl) rfl rfl rfl (fun _ => rfl) rfl hx21) rfl rfl ?_
     exact D.to [some 0, some 1, some 2, some 3, some 4, some 5, some 6, some 7, some 9, some 8] hd18_29 (by kernel_rfl) rfl rfl (.eqs rfl) ⟨⟨_, rfl, .box rfl (.eq rfl)⟩, ⟨_, rfl, .box rfl (.eq rfl)⟩, ⟨_, rfl, .val rfl⟩, ⟨_, rfl, .val rfl⟩, ⟨_, rfl, .val rfl⟩, ⟨_, rfl, .val rfl⟩, ⟨_, rfl, .val rfl⟩, trivial⟩ rfl rfl rfl
   refine D.have false [(1, .i from_1), (2, .i to_1), (3, .i tick), (4, .sl 3 eApiTaken taken), (5, .sl 1 eI avoid), (6, .i most), (8, .i two), (9, .p 0 0), (16, .p 1 0), (19, .b x5), (20, .o 2), (21, .i x16.2), (39, .b x6), (41, .tup [.o 2, .i x16.2]), (42, .agg (eApiSite s_1)), (43, .i from_1), (44, .i to_1), (45, .i tick), (46, .sl 3 eApiTaken taken), (47, .sl 1 eI avoid), (48, .i most), (49, .tup [.o 2, .i x16.2]), (50, .o 2), (51, .i x16.2), (53, .agg (eApiSite s_1)), (54, .i from_1), (55, .i to_1), (56, .i tick), (57, .o 3), (58, .sl 3 eApiTaken taken), (59, .o 4), (60, .agg (eApiTaken one)), (61, .o 5), (62, .o 6), (63, .o 7), (64, .sl 1 eI avoid), (66, .i two), (69, .i most)] [(0, .box (eApiSite s_1)), (1, .box (eApiTaken one)), (2, .val (.os 1 eI x16.1)), (5, .val (.os 3 eApiTaken ([one] : List ApiTaken))), (6, .val (.os 3 eApiTaken ((([] : List ApiTaken) ++ taken) ++ ([one] : List ApiTaken)))), (7, .val (.os 1 eI ([] : List Int)))] 8 9 #[true, true, true, true, true, true, true, true, true, true, true, true, false, true, false, false, true, false, false, false, false, false, false] ?_ (fun hd18_24 => ?_)
   ·refine D.all 12 [14] (by kernel_rfl) ⟨?_, ?_, trivial⟩
    ·refine D.ef1 (o := _) rfl (.none rfl) (by exact Eff1.ap T rfl rfl rfl rfl rfl rfl (.inl rfl) rfl rfl rfl (fun _ => rfl) rfl hx21) rfl rfl ?_
     exact D.to [some 0, some 1, some 2, some 3, some 4, some 5, some 6, some 7, some 8] hd18_27 (by kernel_rfl) rfl rfl (.eqs rfl) ⟨⟨_, rfl, .box rfl (.eq rfl)⟩, ⟨_, rfl, .box rfl (.eq rfl)⟩, ⟨_, rfl, .val rfl⟩, ⟨_, rfl, .val rfl⟩, ⟨_, rfl, .val rfl⟩, ⟨_, rfl, .val rfl⟩, trivial⟩ rfl rfl rfl
    ·refine D.ef1 (o := _) rfl (.none rfl) (by exact Eff1.bs T (enc := eI) (xs := ([two] : List Int)) rfl rfl rfl rfl rfl rfl rfl rfl rfl rfl (fun _ _ => rfl) rfl rfl) rfl rfl ?_
     exact D.to [some 0, some 1, some 2, some 3, some 4, some 5, some 6, some 7, some 8] hd18_28 (by kernel_rfl) rfl rfl (.eqs rfl) ⟨⟨_, rfl, .box rfl (.eq rfl)⟩, ⟨_, rfl, .box rfl (.eq rfl)⟩, ⟨_, rfl, .val rfl⟩, ⟨_, rfl, .val rfl⟩, ⟨_, rfl, .val rfl⟩, ⟨_, rfl, .val rfl⟩, ⟨_, rfl, .val rfl⟩, trivial⟩ rfl rfl rfl
   refine D.have false [(1, .i from_1), (2, .i to_1), (3, .i tick), (4, .sl 3 eApiTaken taken), (5, .sl 1 eI avoid), (6, .i most), (8, .i two), (9, .p 0 0), (16, .p 1 0), (19, .b x5), (20, .o 2), (21, .i x16.2), (39, .b x6), (41, .tup [.o 2, .i x16.2]), (42, .agg (eApiSite s_1)), (43, .i from_1), (44, .i to_1), (45, .i tick), (46, .sl 3 eApiTaken taken), (47, .sl 1 eI avoid), (48, .i most), (49, .tup [.o 2, .i x16.2]), (50, .o 2), (51, .i x16.2), (53, .agg (eApiSite s_1)), (54, .i from_1), (55, .i to_1), (56, .i tick), (57, .o 3), (58, .sl 3 eApiTaken taken), (59, .o 4), (60, .agg (eApiTaken one)), (61, .o 5), (62, .o 6), (64, .sl 1 eI avoid), (66, .i two), (67, .o 7), (69, .i most)] [(0, .box (eApiSite s_1)), (1, .box (eApiTaken one)), (2, .val (.os 1 eI x16.1)), (5, .val (.os 3 eApiTaken ([one] : List ApiTaken))), (6, .val (.os 3 eApiTaken ((([] : List ApiTaken) ++ taken) ++ ([one] : List ApiTaken)))), (7, .val (.os 1 eI ([two] : List Int)))] 8 9 #[true, true, true, true, true, true, true, true, true, true, false, true, false, true, true, false, true, false, false, false, false, false, false] ?_ (fun hd18_25 => ?_)
   ·refine D.all 10 [] (by kernel_rfl) ⟨?_, trivial⟩
    ·refine D.ef1 (o := _) rfl (.none rfl) (by exact Eff1.bs T (enc := eI) (xs := ([] : List Int)) rfl rfl rfl rfl rfl rfl rfl rfl rfl rfl (fun _ _ => rfl) rfl rfl) rfl rfl ?_
     exact D.to [some 0, some 1, some 2, some 3, some 4, some 5, some 6, some 8, some 7] hd18_28 (by kernel_rfl) rfl rfl (.eqs rfl) ⟨⟨_, rfl, .box rfl (.eq rfl)⟩, ⟨_, rfl, .box rfl (.eq rfl)⟩, ⟨_, rfl, .val rfl⟩, ⟨_, rfl, .val rfl⟩, ⟨_, rfl, .val rfl⟩, ⟨_, rfl, .val rfl⟩, ⟨_, rfl, .val rfl⟩, trivial⟩ rfl rfl rfl
   refine D.have false [(1, .i from_1), (2, .i to_1), (3, .i tick), (4, .sl 3 eApiTaken taken), (5, .sl 1 eI avoid), (6, .i most), (8, .i two), (9, .p 0 0), (16, .p 1 0), (19, .b x5), (20, .o 2), (21, .i x16.2), (39, .b x6), (41, .tup [.o 2, .i x16.2]), (42, .agg (eApiSite s_1)), (43, .i from_1), (44, .i to_1), (45, .i tick), (46, .sl 3 eApiTaken taken), (47, .sl 1 eI avoid), (48, .i most), (49, .tup [.o 2, .i x16.2]), (50, .o 2), (51, .i x16.2), (53, .agg (eApiSite s_1)), (54, .i from_1), (55, .i to_1), (56, .i tick), (57, .o 3), (58, .sl 3 eApiTaken taken), (59, .o 4), (60, .agg (eApiTaken one)), (61, .o 5), (63, .o 6), (64, .sl 1 eI avoid), (66, .i two), (67, .o 7), (69, .i most)] [(0, .box (eApiSite s_1)), (1, .box (eApiTaken one)), (2, .val (.os 1 eI x16.1)), (4, .val (.os 3 eApiTaken (([] : List ApiTaken) ++ taken))), (5, .val (.os 3 eApiTaken ([one] : List ApiTaken))), (6, .val (.os 1 eI ([] : List Int))), (7, .val (.os 1 eI ([two] : List Int)))] 8 9 #[true, true, true, true, true, true, true, true, true, false, true, true, false, true, true, false, true, false, false, false, false, false, false] ?_ (fun hd18_26 => ?_)
   ·refine D.all 9 [] (by kernel_rfl) ⟨?_, trivial⟩
    ·refine D.ef1 (o := _) rfl (.none rfl) (by exact Eff1.ap T rfl rfl rfl rfl rfl rfl (.inr ⟨_, rfl, rfl⟩) rfl rfl rfl (fun _ => rfl) rfl hx20) rfl rfl ?_
     exact D.to [some 0, some 1, some 2, some 3, some 4, some 5, some 8, some 6, some 7] hd18_28 (by kernel_rfl) rfl rfl (.eqs rfl) ⟨⟨_, rfl, .box rfl (.eq rfl)⟩, ⟨_, rfl, .box rfl (.eq rfl)⟩, ⟨_, rfl, .val rfl⟩, ⟨_, rfl, .val rfl⟩, ⟨_, rfl, .val rfl⟩, ⟨_, rfl, .val rfl⟩, ⟨_, rfl, .val rfl⟩, trivial⟩ rfl rfl rfl
   refine D.have false [(1, .i from_1), (2, .i to_1), (3, .i tick), (4, .sl 3 eApiTaken taken), (5, .sl 1 eI avoid), (6, .i most), (8, .i two), (9, .p 0 0), (16, .p 1 0), (19, .b x5), (20, .o 2), (21, .i x16.2), (39, .b x6), (41, .tup [.o 2, .i x16.2]), (42, .agg (eApiSite s_1)), (43, .i from_1), (44, .i to_1), (45, .i tick), (46, .sl 3 eApiTaken taken), (47, .sl 1 eI avoid), (48, .i most), (49, .tup [.o 2, .i x16.2]), (50, .o 2), (51, .i x16.2), (53, .agg (eApiSite s_1)), (54, .i from_1), (55, .i to_1), (56, .i tick), (57, .o 3), (58, .sl 3 eApiTaken taken), (59, .o 4), (60, .agg (eApiTaken one)), (61, .o 5), (62, .o 6), (64, .sl 1 eI avoid), (66, .i two), (69, .i most)] [(0, .box (eApiSite s_1)), (1, .box (eApiTaken one)), (2, .val (.os 1 eI x16.1)), (5, .val (.os 3 eApiTaken ([one] : List ApiTaken))), (6, .val (.os 3 eApiTaken ((([] : List ApiTaken) ++ taken) ++ ([one] : List ApiTaken))))] 7 10 #[true, true, true, true, true, true, true, true, true, true, false, true, false, true, false, false, true, false, false, false, false, false, false] ?_ (fun hd18_19 => ?_)
   ·refine D.all 10 [14] (by kernel_rfl) ⟨?_, ?_, trivial⟩
    ·refine D.ef1 (o := _) rfl (.none rfl) (by exact Eff1.bs T (enc := eI) (xs := ([] : List Int)) rfl rfl rfl rfl rfl rfl rfl rfl rfl rfl (fun _ _ => rfl) rfl rfl) rfl rfl ?_
     exact D.to [some 0, some 1, some 2, some 3, some 4, some 5, some 6, some 7] hd18_24 (by kernel_rfl) rfl rfl (.eqs rfl) ⟨⟨_, rfl, .box rfl (.eq rfl)⟩, ⟨_, rfl, .box rfl (.eq rfl)⟩, ⟨_, rfl, .val rfl⟩, ⟨_, rfl, .val rfl⟩, ⟨_, rfl, .val rfl⟩, ⟨_, rfl, .val rfl⟩, trivial⟩ rfl rfl rfl
    ·refine D.ef1 (o := _) rfl (.none rfl) (by exact Eff1.bs T (enc := eI) (xs := ([two] : List Int)) rfl rfl rfl rfl rfl rfl rfl rfl rfl rfl (fun _ _ => rfl) rfl rfl) rfl rfl ?_
     exact D.to [some 0, some 1, some 2, some 3, some 4, some 5, some 6, some 7] hd18_25 (by kernel_rfl) rfl rfl (.eqs rfl) ⟨⟨_, rfl, .box rfl (.eq rfl)⟩, ⟨_, rfl, .box rfl (.eq rfl)⟩, ⟨_, rfl, .val rfl⟩, ⟨_, rfl, .val rfl⟩, ⟨_, rfl, .val rfl⟩, ⟨_, rfl, .val rfl⟩, trivial⟩ rfl rfl rfl
   refine D.have false [(1, .i from_1), (2, .i to_1), (3, .i tick), (4, .sl 3 eApiTaken taken), (5, .sl 1 eI avoid), (6, .i most), (8, .i two), (9, .p 0 0), (16, .p 1 0), (19, .b x5), (20, .o 2), (21, .i x16.2), (39, .b x6), (41, .tup [.o 2, .i x16.2]), (42, .agg (eApiSite s_1)), (43, .i from_1), (44, .i to_1), (45, .i tick), (46, .sl 3 eApiTaken taken), (47, .sl 1 eI avoid), (48, .i most), (49, .tup [.o 2, .i x16.2]), (50, .o 2), (51, .i x16.2), (53, .agg (eApiSite s_1)), (54, .i from_1), (55, .i to_1), (56, .i tick), (57, .o 3), (58, .sl 3 eApiTaken taken), (59, .o 4), (60, .agg (eApiTaken one)), (61, .o 5), (63, .o 6), (64, .sl 1 eI avoid), (66, .i two), (69, .i most)] [(0, .box (eApiSite s_1)), (1, .box (eApiTaken one)), (2, .val (.os 1 eI x16.1)), (4, .val (.os 3 eApiTaken (([] : List ApiTaken) ++ taken))), (5, .val (.os 3 eApiTaken ([one] : List ApiTaken))), (6, .val (.os 1 eI ([] : List Int)))] 7 10 #[true, true, true, true, true, true, true, true, true, false, true, true, false, true, false, false, true, false, false, false, false, false, false] ?_ (fun hd18_20 => ?_)
   ·refine D.all 9 [14] (by kernel_rfl) ⟨?_, ?_, trivial⟩
    ·refine D.ef1 (o := _) rfl (.none rfl) (by exact Eff1.ap T rfl rfl rfl rfl rfl rfl (.inr ⟨_, rfl, rfl⟩) rfl rfl rfl (fun _ => rfl) rfl hx20) rfl rfl ?_
     exact D.to [some 0, some 1, some 2, some 3, some 4, some 5, some 7, some 6] hd18_24 (by kernel_rfl) rfl rfl (.eqs rfl) ⟨⟨_, rfl, .box rfl (.eq rfl)⟩, ⟨_, rfl, .box rfl (.eq rfl)⟩, ⟨_, rfl, .val rfl⟩, ⟨_, rfl, .val rfl⟩, ⟨_, rfl, .val rfl⟩, ⟨_, rfl, .val rfl⟩, trivial⟩ rfl rfl rfl
    ·refine D.ef1 (o := _) rfl (.none rfl) (by exact Eff1.bs T (enc := eI) (xs := ([two] : List Int)) rfl rfl rfl rfl rfl rfl rfl rfl rfl rfl (fun _ _ => rfl) rfl rfl) rfl rfl ?_
     exact D.to [some 0, some 1, some 2, some 3, some 4, some 5, some 6, some 7] hd18_26 (by kernel_rfl) rfl rfl (.eqs rfl) ⟨⟨_, rfl, .box rfl (.eq rfl)⟩, ⟨_, rfl, .box rfl (.eq rfl)⟩, ⟨_, rfl, .val rfl⟩, ⟨_, rfl, .val rfl⟩, ⟨_, rfl, .val rfl⟩, ⟨_, rfl, .val rfl⟩, ⟨_, rfl, .val rfl⟩, trivial⟩ rfl rfl rfl
   refine D.have false [(1, .i from_1), (2, .i to_1), (3, .i tick), (4, .sl 3 eApiTaken taken), (5, .sl 1 eI avoid), (6, .i most), (8, .i two), (9, .p 0 0), (16, .p 1 0), (19, .b x5), (20, .o 2), (21, .i x16.2), (39, .b x6), (41, .tup [.o 2, .i x16.2]), (42, .agg (eApiSite s_1)), (43, .i from_1), (44, .i to_1), (45, .i tick), (46, .sl 3 eApiTaken taken), (47, .sl 1 eI avoid), (48, .i most), (49, .tup [.o 2, .i x16.2]), (50, .o 2), (51, .i x16.2), (53, .agg (eApiSite s_1)), (54, .i from_1), (55, .i to_1), (56, .i tick), (57, .o 3), (58, .sl 3 eApiTaken taken), (59, .o 4), (60, .agg (eApiTaken one)), (61, .o 5), (64, .sl 1 eI avoid), (66, .i two), (67, .o 6), (69, .i most)] [(0, .box (eApiSite s_1)), (1, .box (eApiTaken one)), (2, .val (.os 1 eI x16.1)), (4, .val (.os 3 eApiTaken (([] : List ApiTaken) ++ taken))), (5, .val (.os 3 eApiTaken ([one] : List ApiTaken))), (6, .val (.os 1 eI ([two] : List Int)))] 7 10 #[true, true, true, true, true, true, true, true, true, false, false, true, false, true, true, false, true, false, false, false, false, false, false] ?_ (fun hd18_21 => ?_)
   ·refine D.all 9 [10] (by kernel_rfl) ⟨?_, ?_, trivial⟩
    ·refine D.ef1 (o := _) rfl (.none rfl) (by exact Eff1.ap T rfl rfl rfl rfl rfl rfl (.inr ⟨_, rfl, rfl⟩) rfl rfl rfl (fun _ => rfl) rfl hx20) rfl rfl ?_
     exact D.to [some 0, some 1, some 2, some 3, some 4, some 5, some 7, some 6] hd18_25 (by kernel_rfl) rfl rfl (.eqs rfl) ⟨⟨_, rfl, .box rfl (.eq rfl)⟩, ⟨_, rfl, .box rfl (.eq rfl)⟩, ⟨_, rfl, .val rfl⟩, ⟨_, rfl, .val rfl⟩, ⟨_, rfl, .val rfl⟩, ⟨_, rfl, .val rfl⟩, trivial⟩ rfl rfl rfl
    ·refine D.ef1 (o := _) rfl (.none rfl) (by exact Eff1.bs T (enc := eI) (xs := ([] : List Int)) rfl rfl rfl rfl rfl rfl rfl rfl rfl rfl (fun _ _ => rfl) rfl rfl) rfl rfl ?_
     exact D.to [some 0, some 1, some 2, some 3, some 4, some 5, some 7, some 6] hd18_26 (by kernel_rfl) rfl rfl (.eqs rfl) ⟨⟨_, rfl, .box rfl (.eq rfl)⟩, ⟨_, rfl, .box rfl (.eq rfl)⟩, ⟨_, rfl, .val rfl⟩, ⟨_, rfl, .val rfl⟩, ⟨_, rfl, .val rfl⟩, ⟨_, rfl, .val rfl⟩, ⟨_, rfl, .val rfl⟩, trivial⟩ rfl rfl rfl
   refine D.have false [(1, .i from_1), (2, .i to_1), (3, .i tick), (4, .sl 3 eApiTaken taken), (5, .sl 1 eI avoid), (6, .i most), (8, .i two), (9, .p 0 0), (16, .p 1 0), (19, .b x5), (20, .o 2), (21, .i x16.2), (39, .b x6), (41, .tup [.o 2, .i x16.2]), (42, .agg (eApiSite s_1)), (43, .i from_1), (44, .i to_1), (45, .i tick), (46, .sl 3 eApiTaken taken), (47, .sl 1 eI avoid), (48, .i most), (49, .tup [.o 2, .i x16.2]), (50, .o 2), (51, .i x16.2), (53, .agg (eApiSite s_1)), (54, .i from_1), (55, .i to_1), (56, .i tick), (57, .o 3), (58, .sl 3 eApiTaken taken), (59, .o 4), (60, .agg (eApiTaken one)), (63, .o 5), (64, .sl 1 eI avoid), (66, .i two), (67, .o 6), (69, .i most)] [(0, .box (eApiSite s_1)), (1, .box (eApiTaken one)), (2, .val (.os 1 eI x16.1)), (4, .val (.os 3 eApiTaken (([] : List ApiTaken) ++ taken))), (5, .val (.os 1 eI ([] : List Int))), (6, .val (.os 1 eI ([two] : List Int)))] 7 10 #[true, true, true, true, true, true, true, true, false, false, true, true, false, true, true, false, true, false, false, false, false, false, false] ?_ (fun hd18_22 => ?_)
   ·refine D.all 8 [] (by kernel_rfl) ⟨?_, trivial⟩
    ·refine D.ef1 (o := _) rfl (.none rfl) (by exact Eff1.bs T (enc := eApiTaken) (xs := ([one] : List ApiTaken)) rfl rfl rfl rfl rfl rfl rfl rfl rfl rfl (fun _ _ => rfl) rfl rfl) rfl rfl ?_
     exact D.to [some 0, some 1, some 2, some 3, some 4, some 7, some 5, some 6] hd18_26 (by kernel_rfl) rfl rfl (.eqs rfl) ⟨⟨_, rfl, .box rfl (.eq rfl)⟩, ⟨_, rfl, .box rfl (.eq rfl)⟩, ⟨_, rfl, .val rfl⟩, ⟨_, rfl, .val rfl⟩, ⟨_, rfl, .val rfl⟩, ⟨_, rfl, .val rfl⟩, ⟨_, rfl, .val rfl⟩, trivial⟩ rfl rfl rfl
   refine D.have false [(1, .i from_1), (2, .i to_1), (3, .i tick), (4, .sl 3 eApiTaken taken), (5, .sl 1 eI avoid), (6, .i most), (8, .i two), (9, .p 0 0), (16, .p 1 0), (19, .b x5), (20, .o 2), (21, .i x16.2), (39, .b x6), (41, .tup [.o 2, .i x16.2]), (42, .agg (eApiSite s_1)), (43, .i from_1), (44, .i to_1), (45, .i tick), (46, .sl 3 eApiTaken taken), (47, .sl 1 eI avoid), (48, .i most), (49, .tup [.o 2, .i x16.2]), (50, .o 2), (51, .i x16.2), (53, .agg (eApiSite s_1)), (54, .i from_1), (55, .i to_1), (56, .i tick), (57, .o 3), (58, .sl 3 eApiTaken taken), (60, .agg (eApiTaken one)), (61, .o 4), (63, .o 5), (64, .sl 1 eI avoid), (66, .i two), (67, .o 6), (69, .i most)] [(0, .box (eApiSite s_1)), (1, .box (eApiTaken one)), (2, .val (.os 1 eI x16.1)), (3, .val (.os 3 eApiTaken ([] : List ApiTaken))), (4, .val (.os 3 eApiTaken ([one] : List ApiTaken))), (5, .val (.os 1 eI ([] : List Int))), (6, .val (.os 1 eI ([two] : List Int)))] 7 10 #[true, true, true, true, true, true, false, true, true, false, true, true, false, true, true, false, true, false, false, false, false, false, false] ?_ (fun hd18_23 => ?_)
   ·refine D.all 6 [] (by kernel_rfl) ⟨?_, trivial⟩
    ·refine D.ef1 (o := _) rfl (.none rfl) (by exact Eff1.ap T rfl rfl rfl rfl rfl rfl (.inl rfl) rfl rfl rfl (fun _ => rfl) rfl hx19) rfl rfl ?_
     exact D.to [some 0, some 1, some 2, some 3, some 7, some 4, some 5, some 6] hd18_26 (by kernel_rfl) rfl rfl (.eqs rfl) ⟨⟨_, rfl, .box rfl (.eq rfl)⟩, ⟨_, rfl, .box rfl (.eq rfl)⟩, ⟨_, rfl, .val rfl⟩, ⟨_, rfl, .val rfl⟩, ⟨_, rfl, .val rfl⟩, ⟨_, rfl, .val rfl⟩, ⟨_, rfl, .val rfl⟩, trivial⟩ rfl rfl rfl
   refine D.have false [(1, .i from_1), (2, .i to_1), (3, .i tick), (4, .sl 3 eApiTaken taken), (5, .sl 1 eI avoid), (6, .i most), (8, .i two), (9, .p 0 0), (16, .p 1 0), (19, .b x5), (20, .o 2), (21, .i x16.2), (39, .b x6), (41, .tup [.o 2, .i x16.2]), (42, .agg (eApiSite s_1)), (43, .i from_1), (44, .i to_1), (45, .i tick), (46, .sl 3 eApiTaken taken), (47, .sl 1 eI avoid), (48, .i most), (49, .tup [.o 2, .i x16.2]), (50, .o 2), (51, .i x16.2), (53, .agg (eApiSite s_1)), (54, .i from_1), (55, .i to_1), (56, .i tick), (57, .o 3), (58, .sl 3 eApiTaken taken), (59, .o 4), (60, .agg (eApiTaken one)), (61, .o 5), (64, .sl 1 eI avoid), (66, .i two), (69, .i most)] [(0, .box (eApiSite s_1)), (1, .box (eApiTaken one)), (2, .val (.os 1 eI x16.1)), (4, .val (.os 3 eApiTaken (([] : List ApiTaken) ++ taken))), (5, .val (.os 3 eApiTaken ([one] : List ApiTaken)))] 6 11 #[true, true, true, true, true, true, true, true, true, false, false, true, false, true, false, false, true, false, false, false, false, false, false] ?_ (fun hd18_12 => ?_)
   ·refine D.all 9 [10, 14] (by kernel_rfl) ⟨?_, ?_, ?_, trivial⟩
    ·refine D.ef1 (o := _) rfl (.none rfl) (by exact Eff1.ap T rfl rfl rfl rfl rfl rfl (.inr ⟨_, rfl, rfl⟩) rfl rfl rfl (fun _ => rfl) rfl hx20) rfl rfl ?_
     exact D.to [some 0, some 1, some 2, some 3, some 4, some 5, some 6] hd18_19 (by kernel_rfl) rfl rfl (.eqs rfl) ⟨⟨_, rfl, .box rfl (.eq rfl)⟩, ⟨_, rfl, .box rfl (.eq rfl)⟩, ⟨_, rfl, .val rfl⟩, ⟨_, rfl, .val rfl⟩, ⟨_, rfl, .val rfl⟩, trivial⟩ rfl rfl rfl
    ·refine D.ef1 (o := _) rfl (.none rfl) (by exact Eff1.bs T (enc := eI) (xs := ([] : List Int)) rfl rfl rfl rfl rfl rfl rfl rfl rfl rfl (fun _ _ => rfl) rfl rfl) rfl rfl ?_
     exact D.to [some 0, some 1, some 2, some 3, some 4, some 5, some 6] hd18_20 (by kernel_rfl) rfl rfl (.eqs rfl) ⟨⟨_, rfl, .box rfl (.eq rfl)⟩, ⟨_, rfl, .box rfl (.eq rfl)⟩, ⟨_, rfl, .val rfl⟩, ⟨_, rfl, .val rfl⟩, ⟨_, rfl, .val rfl⟩, ⟨_, rfl, .val rfl⟩, trivial⟩ rfl rfl rfl
    ·refine D.ef1 (o := _) rfl (.none rfl) (by exact Eff1.bs T (enc := eI) (xs := ([two] : List Int)) rfl rfl rfl rfl rfl rfl rfl rfl rfl rfl (fun _ _ => rfl) rfl rfl) rfl rfl ?_
     exact D.to [some 0, some 1, some 2, some 3, some 4, some 5, some 6] hd18_21 (by kernel_rfl) rfl rfl (.eqs rfl) ⟨⟨_, rfl, .box rfl (.eq rfl)⟩, ⟨_, rfl, .box rfl (.eq rfl)⟩, ⟨_, rfl, .val rfl⟩, ⟨_, rfl, .val rfl⟩, ⟨_, rfl, .val rfl⟩, ⟨_, rfl, .val rfl⟩, trivial⟩ rfl rfl rfl
   refine D.have false [(1, .i from_1), (2, .i to_1), (3, .i tick), (4, .sl 3 eApiTaken taken), (5, .sl 1 eI avoid), (6, .i most), (8, .i two), (9, .p 0 0), (16, .p 1 0), (19, .b x5), (20, .o 2), (21, .i x16.2), (39, .b x6), (41, .tup [.o 2, .i x16.2]), (42, .agg (eApiSite s_1)), (43, .i from_1), (44, .i to_1), (45, .i tick), (46, .sl 3 eApiTaken taken), (47, .sl 1 eI avoid), (48, .i most), (49, .tup [.o 2, .i x16.2]), (50, .o 2), (51, .i x16.2), (53, .agg (eApiSite s_1)), (54, .i from_1), (55, .i to_1), (56, .i tick), (57, .o 3), (58, .sl 3 eApiTaken taken), (59, .o 4), (60, .agg (eApiTaken one)), (63, .o 5), (64, .sl 1 eI avoid), (66, .i two), (69, .i most)] [(0, .box (eApiSite s_1)), (1, .box (eApiTaken one)), (2, .val (.os 1 eI x16.1)), (4, .val (.os 3 eApiTaken (([] : List ApiTaken) ++ taken))), (5, .val (.os 1 eI ([] : List Int)))] 6 11 #[true, true, true, true, true, true, true, true, false, false, true, true, false, true, false, false, true, false, false, false, false, false, false] ?_ (fun hd18_13 => ?_)
   ·refine D.all 8 [14] (by kernel_rfl) ⟨?_, ?_, trivial⟩
    ·refine D.ef1 (o := _) rfl (.none rfl) (by exact Eff1.bs T (enc := eApiTaken) (xs := ([one] : List ApiTaken)) rfl rfl rfl rfl rfl rfl rfl rfl rfl rfl (fun _ _ => rfl) rfl rfl) rfl rfl ?_
     exact D.to [some 0, some 1, some 2, some 3, some 4, some 6, some 5] hd18_20 (by kernel_rfl) rfl rfl (.eqs rfl) ⟨⟨_, rfl, .box rfl (.eq rfl)⟩, ⟨_, rfl, .box rfl (.eq rfl)⟩, ⟨_, rfl, .val rfl⟩, ⟨_, rfl, .val rfl⟩, ⟨_, rfl, .val rfl⟩, ⟨_, rfl, .val rfl⟩, trivial⟩ rfl rfl rfl
    ·refine D.ef1 (o := _) rfl (.none rfl) (by exact Eff1.bs T (enc := eI) (xs := ([two] : List Int)) rfl rfl rfl rfl rfl rfl rfl rfl rfl rfl (fun _ _ => rfl) rfl rfl) rfl rfl ?_
     exact D.to [some 0, some 1, some 2, some 3, some 4, some 5, some 6] hd18_22 (by kernel_rfl) rfl rfl (.eqs rfl) ⟨⟨_, rfl, .box rfl (.eq rfl)⟩, ⟨_, rfl, .box rfl (.eq rfl)⟩, ⟨_, rfl, .val rfl⟩, ⟨_, rfl, .val rfl⟩, ⟨_, rfl, .val rfl⟩, ⟨_, rfl, .val rfl⟩, trivial⟩ rfl rfl rfl
   refine D.have false [(1, .i from_1), (2, .i to_1), (3, .i tick), (4, .sl 3 eApiTaken taken), (5, .sl 1 eI avoid), (6, .i most), (8, .i two), (9, .p 0 0), (16, .p 1 0), (19, .b x5), (20, .o 2), (21, .i x16.2), (39, .b x6), (41, .tup [.o 2, .i x16.2]), (42, .agg (eApiSite s_1)), (43, .i from_1), (44, .i to_1), (45, .i tick), (46, .sl 3 eApiTaken taken), (47, .sl 1 eI avoid), (48, .i most), (49, .tup [.o 2, .i x16.2]), (50, .o 2), (51, .i x16.2), (53, .agg (eApiSite s_1)), (54, .i from_1), (55, .i to_1), (56, .i tick), (57, .o 3), (58, .sl 3 eApiTaken taken), (59, .o 4), (60, .agg (eApiTaken one)), (64, .sl 1 eI avoid), (66, .i two), (67, .o 5), (69, .i most)] [(0, .box (eApiSite s_1)), (1, .box (eApiTaken one)), (2, .val (.os 1 eI x16.1)), (4, .val (.os 3 eApiTaken (([] : List ApiTaken) ++ taken))), (5, .val (.os 1 eI ([two] : List Int)))] 6 11 #[true, true, true, true, true, true, true, true, false, false, false, true, false, true, true, false, true, false, false, false, false, false, false] ?_ (fun hd18_14 => ?_)
   ·refine D.all 8 [10] (by kernel_rfl) ⟨?_, ?_, trivial⟩
    ·refine D.ef1 (o := _) rfl (.none rfl) (by exact Eff1.bs T (enc := eApiTaken) (xs := ([one] : List ApiTaken)) rfl rfl rfl rfl rfl rfl rfl rfl rfl rfl (fun _ _ => rfl) rfl rfl) rfl rfl ?_
     exact D.to [some 0, some 1, some 2, some 3, some 4, some 6, some 5] hd18_21 (by kernel_rfl) rfl rfl (.eqs rfl) ⟨⟨_, rfl, .box rfl (.eq rfl)⟩, ⟨_, rfl, .box rfl (.eq rfl)⟩, ⟨_, rfl, .val rfl⟩, ⟨_, rfl, .val rfl⟩, ⟨_, rfl, .val rfl⟩, ⟨_, rfl, .val rfl⟩, trivial⟩ rfl rfl rfl
    ·refine D.ef1 (o := _) rfl (.none rfl) (by exact Eff1.bs T (enc := eI) (xs := ([] : List Int)) rfl rfl rfl rfl rfl rfl rfl rfl rfl rfl (fun _ _ => rfl) rfl rfl) rfl rfl ?_
     exact D.to [some 0, some 1, some 2, some 3, some 4, some 6, some 5] hd18_22 (by kernel_rfl) rfl rfl (.eqs rfl) ⟨⟨_, rfl, .box rfl (.eq rfl)⟩, ⟨_, rfl, .box rfl (.eq rfl)⟩, ⟨_, rfl, .val rfl⟩, ⟨_, rfl, .val rfl⟩, ⟨_, rfl, .val rfl⟩, ⟨_, rfl, .val rfl⟩, trivial⟩ rfl rfl rfl
   refine D.have false [(1, .i from_1), (2, .i to_1), (3, .i tick), (4, .sl 3 eApiTaken taken), (5, .sl 1 eI avoid), (6, .i most), (8, .i two), (9, .p 0 0), (16, .p 1 0), (19, .b x5), (20, .o 2), (21, .i x16.2), (39, .b x6), (41, .tup [.o 2, .i x16.2]), (42, .agg (eApiSite s_1)), (43, .i from_1), (44, .i to_1), (45, .i tick), (46, .sl 3 eApiTaken taken), (47, .sl 1 eI avoid), (48, .i most), (49, .tup [.o 2, .i x16.2]), (50, .o 2), (51, .i x16.2), (53, .agg (eApiSite s_1)), (54, .i from_1), (55, .i to_1), (56, .i tick), (57, .o 3), (58, .sl 3 eApiTaken taken), (60, .agg (eApiTaken one)), (61, .o 4), (63, .o 5), (64, .sl 1 eI avoid), (66, .i two), (69, .i most)] [(0, .box (eApiSite s_1)), (1, .box (eApiTaken one)), (2, .val (.os 1 eI x16.1)), (3, .val (.os 3 eApiTaken ([] : List ApiTaken))), (4, .val (.os 3 eApiTaken ([one] : List ApiTaken))), (5, .val (.os 1 eI ([] : List Int)))] 6 11 #[true, true, true, true, true, true, false, true, true, false, true, true, false, true, false, false, true, false, false, false, false, false, false] ?_ (fun hd18_15 => ?_)
   ·refine D.all 6 [14] (by kernel_rfl) ⟨?_, ?_, trivial⟩
    ·refine D.ef1 (o := _) rfl (.none rfl) (by exact Eff1.ap T rfl rfl rfl rfl rfl rfl (.inl rfl) rfl rfl rfl (fun _ => rfl) rfl hx19) rfl rfl ?_
     exact D.to [some 0, some 1, some 2, some 3, some 6, some 4, some 5] hd18_20 (by kernel_rfl) rfl rfl (.eqs rfl) ⟨⟨_, rfl, .box rfl (.eq rfl)⟩, ⟨_, rfl, .box rfl (.eq rfl)⟩, ⟨_, rfl, .val rfl⟩, ⟨_, rfl, .val rfl⟩, ⟨_, rfl, .val rfl⟩, ⟨_, rfl, .val rfl⟩, trivial⟩ rfl rfl rfl
    ·refine D.ef1 (o := _) rfl (.none rfl) (by exact Eff1.bs T (enc := eI) (xs := ([two] : List Int)) rfl rfl rfl rfl rfl rfl rfl rfl rfl rfl (fun _ _ => rfl) rfl rfl) rfl rfl ?_
     exact D.to [some 0, some 1, some 2, some 3, some 4, some 5, some 6] hd18_23 (by kernel_rfl) rfl rfl (.eqs rfl) ⟨⟨_, rfl, .box rfl (.eq rfl)⟩, ⟨_, rfl, .box rfl (.eq rfl)⟩, ⟨_, rfl, .val rfl⟩, ⟨_, rfl, .val rfl⟩, ⟨_, rfl, .val rfl⟩, ⟨_, rfl, .val rfl⟩, ⟨_, rfl, .val rfl⟩, trivial⟩ rfl rfl rfl
   refine D.have false [(1, .i from_1), (2, .i to_1), (3, .i tick), (4, .sl 3 eApiTaken taken), (5, .sl 1 eI avoid), (6, .i most), (8, .i two), (9, .p 0 0), (16, .p 1 0), (19, .b x5), (20, .o 2), (21, .i x16.2), (39, .b x6), (41, .tup [.o 2, .i x16.2]), (42, .agg (eApiSite s_1)), (43, .i from_1), (44, .i to_1), (45, .i tick), (46, .sl 3 eApiTaken taken), (47, .sl 1 eI avoid), (48, .i most), (49, .tup [.o 2, .i x16.2]), (50, .o 2), (51, .i x16.2), (53, .agg (eApiSite s_1)), (54, .i from_1), (55, .i to_1), (56, .i tick), (57, .o 3), (58, .sl 3 eApiTaken taken), (60, .agg (eApiTaken one)), (61, .o 4), (64, .sl 1 eI avoid), (66, .i two), (67, .o 5), (69, .i most)] [(0, .box (eApiSite s_1)), (1, .box (eApiTaken one)), (2, .val (.os 1 eI x16.1)), (3, .val (.os 3 eApiTaken ([] : List ApiTaken))), (4, .val (.os 3 eApiTaken ([one] : List ApiTaken))), (5, .val (.os 1 eI ([two] : List Int)))] 6 11 #[true, true, true, true, true, true, false, true, true, false, false, true, false, true, true, false, true, false, false, false, false, false, false] ?_ (fun hd18_16 => ?_)
   ·refine D.all 6 [10] (by kernel_rfl) ⟨?_, ?_, trivial⟩
    ·refine D.ef1 (o := _) rfl (.none rfl) (by exact Eff1.ap T rfl rfl rfl rfl rfl rfl (.inl rfl) rfl rfl rfl (fun _ => rfl) rfl hx19) rfl rfl ?_
     exact D.to [some 0, some 1, some 2, some 3, some 6, some 4, some 5] hd18_21 (by kernel_rfl) rfl rfl (.eqs rfl) ⟨⟨_, rfl, .box rfl (.eq rfl)⟩, ⟨_, rfl, .box rfl (.eq rfl)⟩, ⟨_, rfl, .val rfl⟩, ⟨_, rfl, .val rfl⟩, ⟨_, rfl, .val rfl⟩, ⟨_, rfl, .val rfl⟩, trivial⟩ rfl rfl rfl
    ·refine D.ef1 (o := _) rfl (.none rfl) (by exact Eff1.bs T (enc := eI) (xs := ([] : List Int)) rfl rfl rfl rfl rfl rfl rfl rfl rfl rfl (fun _ _ => rfl) rfl rfl) rfl rfl ?_
     exact D.to [some 0, some 1, some 2, some 3, some 4, some 6, some 5] hd18_23 (by kernel_rfl) rfl rfl (.eqs rfl) ⟨⟨_, rfl, .box rfl (.eq rfl)⟩, ⟨_, rfl, .box rfl (.eq rfl)⟩, ⟨_, rfl, .val rfl⟩, ⟨_, rfl, .val rfl⟩, ⟨_, rfl, .val rfl⟩, ⟨_, rfl, .val rfl⟩, ⟨_, rfl, .val rfl⟩, trivial⟩ rfl rfl rfl
   refine D.have false [(1, .i from_1), (2, .i to_1), (3, .i tick), (4, .sl 3 eApiTaken taken), (5, .sl 1 eI avoid), (6, .i most), (8, .i two), (9, .p 0 0), (16, .p 1 0), (19, .b x5), (20, .o 2), (21, .i x16.2), (39, .b x6), (41, .tup [.o 2, .i x16.2]), (42, .agg (eApiSite s_1)), (43, .i from_1), (44, .i to_1), (45, .i tick), (46, .sl 3 eApiTaken taken), (47, .sl 1 eI avoid), (48, .i most), (49, .tup [.o 2, .i x16.2]), (50, .o 2), (51, .i x16.2), (53, .agg (eApiSite s_1)), (54, .i from_1), (55, .i to_1), (56, .i tick), (57, .o 3), (58, .sl 3 eApiTaken taken), (60, .agg (eApiTaken one)), (63, .o 4), (64, .sl 1 eI avoid), (66, .i two), (67, .o 5), (69, .i most)] [(0, .box (eApiSite s_1)), (1, .box (eApiTaken one)), (2, .val (.os 1 eI x16.1)), (3, .val (.os 3 eApiTaken ([] : List ApiTaken))), (4, .val (.os 1 eI ([] : List Int))), (5, .val (.os 1 eI ([two] : List Int)))] 6 11 #[true, true, true, true, true, true, false, true, false, false, true, true, false, true, true, false, true, false, false, false, false, false, false] ?_ (fun hd18_17 => ?_)
   ·refine D.all 6 [8] (by kernel_rfl) ⟨?_, ?_, trivial⟩
    ·refine D.ef1 (o := _) rfl (.none rfl) (by exact Eff1.ap T rfl rfl rfl rfl rfl rfl (.inl rfl) rfl rfl rfl (fun _ => rfl) rfl hx19) rfl rfl ?_
     exact D.to [some 0, some 1, some 2, some 3, some 6, some 4, some 5] hd18_22 (by kernel_rfl) rfl rfl (.eqs rfl) ⟨⟨_, rfl, .box rfl (.eq rfl)⟩, ⟨_, rfl, .box rfl (.eq rfl)⟩, ⟨_, rfl, .val rfl⟩, ⟨_, rfl, .val rfl⟩, ⟨_, rfl, .val rfl⟩, ⟨_, rfl, .val rfl⟩, trivial⟩ rfl rfl rfl
    ·refine D.ef1 (o := _) rfl (.none rfl) (by exact Eff1.bs T (enc := eApiTaken) (xs := ([one] : List ApiTaken)) rfl rfl rfl rfl rfl rfl rfl rfl rfl rfl (fun _ _ => rfl) rfl rfl) rfl rfl ?_
     exact D.to [some 0, some 1, some 2, some 3, some 6, some 4, some 5] hd18_23 (by kernel_rfl) rfl rfl (.eqs rfl) ⟨⟨_, rfl, .box rfl (.eq rfl)⟩, ⟨_, rfl, .box rfl (.eq rfl)⟩, ⟨_, rfl, .val rfl⟩, ⟨_, rfl, .val rfl⟩, ⟨_, rfl, .val rfl⟩, ⟨_, rfl, .val rfl⟩, ⟨_, rfl, .val rfl⟩, trivial⟩ rfl rfl rfl
   refine D.have false [(1, .i from_1), (2, .i to_1), (3, .i tick), (4, .sl 3 eApiTaken taken), (5, .sl 1 eI avoid), (6, .i most), (8, .i two), (9, .p 0 0), (16, .p 1 0), (19, .b x5), (20, .o 2), (21, .i x16.2), (39, .b x6), (41, .tup [.o 2, .i x16.2]), (42, .agg (eApiSite s_1)), (43, .i from_1), (44, .i to_1), (45, .i tick), (46, .sl 3 eApiTaken taken), (47, .sl 1 eI avoid), (48, .i most), (49, .tup [.o 2, .i x16.2]), (50, .o 2), (51, .i x16.2), (53, .agg (eApiSite s_1)), (54, .i from_1), (55, .i to_1), (56, .i tick), (58, .sl 3 eApiTaken taken), (60, .agg (eApiTaken one)), (61, .o 3), (63, .o 4), (64, .sl 1 eI avoid), (66, .i two), (67, .o 5), (69, .i most)] [(0, .box (eApiSite s_1)), (1, .box (eApiTaken one)), (2, .val (.os 1 eI x16.1)), (3, .val (.os 3 eApiTaken ([one] : List ApiTaken))), (4, .val (.os 1 eI ([] : List Int))), (5, .val (.os 1 eI ([two] : List Int)))] 6 11 #[true, true, true, true, false, true, false, true, true, false, true, true, false, true, true, false, true, false, false, false, false, false, false] ?_ (fun hd18_18 => ?_)
   ·refine D.all 4 [] (by kernel_rfl) ⟨?_, trivial⟩
    ·refine D.ef1 (o := _) rfl (.none rfl) (by exact Eff1.bs T (enc := eApiTaken) (xs := ([] : List ApiTaken)) rfl rfl rfl rfl rfl rfl rfl rfl rfl rfl (fun _ _ => rfl) rfl rfl) rfl rfl ?_
     exact D.to [some 0, some 1, some 2, some 6, some 3, some 4, some 5] hd18_23 (by kernel_rfl) rfl rfl (.eqs rfl) ⟨⟨_, rfl, .box rfl (.eq rfl)⟩, ⟨_, rfl, .box rfl (.eq rfl)⟩, ⟨_, rfl, .val rfl⟩, ⟨_, rfl, .val rfl⟩, ⟨_, rfl, .val rfl⟩, ⟨_, rfl, .val rfl⟩, ⟨_, rfl, .val rfl⟩, trivial⟩ rfl rfl rfl
   refine D.have false [(1, .i from_1), (2, .i to_1), (3, .i tick), (4, .sl 3 eApiTaken taken), (5, .sl 1 eI avoid), (6, .i most), (8, .i two), (9, .p 0 0), (16, .p 1 0), (19, .b x5), (20, .o 2), (21, .i x16.2), (39, .b x6), (41, .tup [.o 2, .i x16.2]), (42, .agg (eApiSite s_1)), (43, .i from_1), (44, .i to_1), (45, .i tick), (46, .sl 3 eApiTaken taken), (47, .sl 1 eI avoid), (48, .i most), (49, .tup [.o 2, .i x16.2]), (50, .o 2), (51, .i x16.2), (53, .agg (eApiSite s_1)), (54, .i from_1), (55, .i to_1), (56, .i tick), (57, .o 3), (58, .sl 3 eApiTaken taken), (59, .o 4), (60, .agg (eApiTaken one)), (64, .sl 1 eI avoid), (66, .i two), (69, .i most)] [(0, .box (eApiSite s_1)), (1, .box (eApiTaken one)), (2, .val (.os 1 eI x16.1)), (4, .val (.os 3 eApiTaken (([] : List ApiTaken) ++ taken)))] 5 12 #[true, true, true, true, true, true, true, true, false, false, false, true, false, true, false, false, true, false, false, false, false, false, false] ?_ (fun hd18_5 => ?_)
   ·refine D.all 8 [10, 14] (by kernel_rfl) ⟨?_, ?_, ?_, trivial⟩
    ·refine D.ef1 (o := _) rfl (.none rfl) (by exact Eff1.bs T (enc := eApiTaken) (xs := ([one] : List ApiTaken)) rfl rfl rfl rfl rfl rfl rfl rfl rfl rfl (fun _ _ => rfl) rfl rfl) rfl rfl ?_
     exact D.to [some 0, some 1, some 2, some 3, some 4, some 5] hd18_12 (by kernel_rfl) rfl rfl (.eqs rfl) ⟨⟨_, rfl, .box rfl (.eq rfl)⟩, ⟨_, rfl, .box rfl (.eq rfl)⟩, ⟨_, rfl, .val rfl⟩, ⟨_, rfl, .val rfl⟩, ⟨_, rfl, .val rfl⟩, trivial⟩ rfl rfl rfl
    ·refine D.ef1 (o := _) rfl (.none rfl) (by exact Eff1.bs T (enc := eI) (xs := ([] : List Int)) rfl rfl rfl rfl rfl rfl rfl rfl rfl rfl (fun _ _ => rfl) rfl rfl) rfl rfl ?_
     exact D.to [some 0, some 1, some 2, some 3, some 4, some 5] hd18_13 (by kernel_rfl) rfl rfl (.eqs rfl) ⟨⟨_, rfl, .box rfl (.eq rfl)⟩, ⟨_, rfl, .box rfl (.eq rfl)⟩, ⟨_, rfl, .val rfl⟩, ⟨_, rfl, .val rfl⟩, ⟨_, rfl, .val rfl⟩, trivial⟩ rfl rfl rfl
    ·refine D.ef1 (o := _) rfl (.none rfl) (by exact Eff1.bs T (enc := eI) (xs := ([two] : List Int)) rfl rfl rfl rfl rfl rfl rfl rfl rfl rfl (fun _ _ => rfl) rfl rfl) rfl rfl ?_
     exact D.to [some 0, some 1, some 2, some 3, some 4, some 5] hd18_14 (by kernel_rfl) rfl rfl (.eqs rfl) ⟨⟨_, rfl, .box rfl (.eq rfl)⟩, ⟨_, rfl, .box rfl (.eq rfl)⟩, ⟨_, rfl, .val rfl⟩, ⟨_, rfl, .val rfl⟩, ⟨_, rfl, .val rfl⟩, trivial⟩ rfl rfl rfl
   refine D.have false [(1, .i from_1), (2, .i to_1), (3, .i tick), (4, .sl 3 eApiTaken taken), (5, .sl 1 eI avoid), (6, .i most), (8, .i two), (9, .p 0 0), (16, .p 1 0), (19, .b x5), (20, .o 2), (21, .i x16.2), (39, .b x6), (41, .tup [.o 2, .i x16.2]), (42, .agg (eApiSite s_1)), (43, .i from_1), (44, .i to_1), (45, .i tick), (46, .sl 3 eApiTaken taken), (47, .sl 1 eI avoid), (48, .i most), (49, .tup [.o 2, .i x16.2]), (50, .o 2), (51, .i x16.2), (53, .agg (eApiSite s_1)), (54, .i from_1), (55, .i to_1), (56, .i tick), (57, .o 3), (58, .sl 3 eApiTaken taken), (60, .agg (eApiTaken one)), (61, .o 4), (64, .sl 1 eI avoid), (66, .i two), (69, .i most)] [(0, .box (eApiSite s_1)), (1, .box (eApiTaken one)), (2, .val (.os 1 eI x16.1)), (3, .val (.os 3 eApiTaken ([] : List ApiTaken))), (4, .val (.os 3 eApiTaken ([one] : List ApiTaken)))] 5 12 #[true, true, true, true, true, true, false, true, true, false, false, true, false, true, false, false, true, false, false, false, false, false, false] ?_ (fun hd18_6 => ?_)
   ·refine D.all 6 [10, 14] (by kernel_rfl) ⟨?_, ?_, ?_, trivial⟩
    ·refine D.ef1 (o := _) rfl (.none rfl) (by exact Eff1.ap T rfl rfl rfl rfl rfl rfl (.inl rfl) rfl rfl rfl (fun _ => rfl) rfl hx19) rfl rfl ?_
     exact D.to [some 0, some 1, some 2, some 3, some 5, some 4] hd18_12 (by kernel_rfl) rfl rfl (.eqs rfl) ⟨⟨_, rfl, .box rfl (.eq rfl)⟩, ⟨_, rfl, .box rfl (.eq rfl)⟩, ⟨_, rfl, .val rfl⟩, ⟨_, rfl, .val rfl⟩, ⟨_, rfl, .val rfl⟩, trivial⟩ rfl rfl rfl
    ·refine D.ef1 (o := _) rfl (.none rfl) (by exact Eff1.bs T (enc := eI) (xs := ([] : List Int)) rfl rfl rfl rfl rfl rfl rfl rfl rfl rfl (fun _ _ => rfl) rfl rfl) rfl rfl ?_
     exact D.to [some 0, some 1, some 2, some 3, some 4, some 5] hd18_15 (by kernel_rfl) rfl rfl (.eqs rfl) ⟨⟨_, rfl, .box rfl (.eq rfl)⟩, ⟨_, rfl, .box rfl (.eq rfl)⟩, ⟨_, rfl, .val rfl⟩, ⟨_, rfl, .val rfl⟩, ⟨_, rfl, .val rfl⟩, ⟨_, rfl, .val rfl⟩, trivial⟩ rfl rfl rfl
    ·refine D.ef1 (o := _) rfl (.none rfl) (by exact Eff1.bs T (enc := eI) (xs := ([two] : List Int)) rfl rfl rfl rfl rfl rfl rfl rfl rfl rfl (fun _ _ => rfl) rfl rfl) rfl rfl ?_
     exact D.to [some 0, some 1, some 2, some 3, some 4, some 5] hd18_16 (by kernel_rfl) rfl rfl (.eqs rfl) ⟨⟨_, rfl, .box rfl (.eq rfl)⟩, ⟨_, rfl, .box rfl (.eq rfl)⟩, ⟨_, rfl, .val rfl⟩, ⟨_, rfl, .val rfl⟩, ⟨_, rfl, .val rfl⟩, ⟨_, rfl, .val rfl⟩, trivial⟩ rfl rfl rfl
   refine D.have false [(1, .i from_1), (2, .i to_1), (3, .i tick), (4, .sl 3 eApiTaken taken), (5, .sl 1 eI avoid), (6, .i most), (8, .i two), (9, .p 0 0), (16, .p 1 0), (19, .b x5), (20, .o 2), (21, .i x16.2), (39, .b x6), (41, .tup [.o 2, .i x16.2]), (42, .agg (eApiSite s_1)), (43, .i from_1), (44, .i to_1), (45, .i tick), (46, .sl 3 eApiTaken taken), (47, .sl 1 eI avoid), (48, .i most), (49, .tup [.o 2, .i x16.2]), (50, .o 2), (51, .i x16.2), (53, .agg (eApiSite s_1)), (54, .i from_1), (55, .i to_1), (56, .i tick), (57, .o 3), (58, .sl 3 eApiTaken taken), (60, .agg (eApiTaken one)), (63, .o 4), (64, .sl 1 eI avoid), (66, .i two), (69, .i most)] [(0, .box (eApiSite s_1)), (1, .box (eApiTaken one)), (2, .val (.os 1 eI x16.1)), (3, .val (.os 3 eApiTaken ([] : List ApiTaken))), (4, .val (.os 1 eI ([] : List Int)))] 5 12 #[true, true, true, true, true, true, false, true, false, false, true, true, false, true, false, false, true, false, false, false, false, false, false] ?_ (fun hd18_7 => ?_)
   ·refine D.all 6 [8, 14] (by kernel_rfl) ⟨?_, ?_, ?_, trivial⟩
    ·refine D.ef1 (o := _) rfl (.none rfl) (by exact Eff1.ap T rfl rfl rfl rfl rfl rfl (.inl rfl) rfl rfl rfl (fun _ => rfl) rfl hx19) rfl rfl ?_
     exact D.to [some 0, some 1, some 2, some 3, some 5, some 4] hd18_13 (by kernel_rfl) rfl rfl (.eqs rfl) ⟨⟨_, rfl, .box rfl (.eq rfl)⟩, ⟨_, rfl, .box rfl (.eq rfl)⟩, ⟨_, rfl, .val rfl⟩, ⟨_, rfl, .val rfl⟩, ⟨_, rfl, .val rfl⟩, trivial⟩ rfl rfl rfl
    ·refine D.ef1 (o := _) rfl (.none rfl) (by exact Eff1.bs T (enc := eApiTaken) (xs := ([one] : List ApiTaken)) rfl rfl rfl rfl rfl rfl rfl rfl rfl rfl (fun _ _ => rfl) rfl rfl) rfl rfl ?_
     exact D.to [some 0, some 1, some 2, some 3, some 5, some 4] hd18_15 (by kernel_rfl) rfl rfl (.eqs rfl) ⟨⟨_, rfl, .box rfl (.eq rfl)⟩, ⟨_, rfl, .box rfl (.eq rfl)⟩, ⟨_, rfl, .val rfl⟩, ⟨_, rfl, .val rfl⟩, ⟨_, rfl, .val rfl⟩, ⟨_, rfl, .val rfl⟩, trivial⟩ rfl rfl rfl
    ·refine D.ef1 (o := _) rfl (.none rfl) (by exact Eff1.bs T (enc := eI) (xs := ([two] : List Int)) rfl rfl rfl rfl rfl rfl rfl rfl rfl rfl (fun _ _ => rfl) rfl rfl) rfl rfl ?_
     exact D.to [some 0, some 1, some 2, some 3, some 4, some 5] hd18_17 (by kernel_rfl) rfl rfl (.eqs rfl) ⟨⟨_, rfl, .box rfl (.eq rfl)⟩, ⟨_, rfl, .box rfl (.eq rfl)⟩, ⟨_, rfl, .val rfl⟩, ⟨_, rfl, .val rfl⟩, ⟨_, rfl, .val rfl⟩, ⟨_, rfl, .val rfl⟩, trivial⟩ rfl rfl rfl
   refine D.have false [(1, .i from_1), (2, .i to_1), (3, .i tick), (4, .sl 3 eApiTaken taken), (5, .sl 1 eI avoid), (6, .i most), (8, .i two), (9, .p 0 0), (16, .p 1 0), (19, .b x5), (20, .o 2), (21, .i x16.2), (39, .b x6), (41, .tup [.o 2, .i x16.2]), (42, .agg (eApiSite s_1)), (43, .i from_1), (44, .i to_1), (45, .i tick), (46, .sl 3 eApiTaken taken), (47, .sl 1 eI avoid), (48, .i most), (49, .tup [.o 2, .i x16.2]), (50, .o 2), (51, .i x16.2), (53, .agg (eApiSite s_1)), (54, .i from_1), (55, .i to_1), (56, .i tick), (57, .o 3), (58, .sl 3 eApiTaken taken), (60, .agg (eApiTaken one)), (64, .sl 1 eI avoid), (66, .i two), (67, .o 4), (69, .i most)] [(0, .box (eApiSite s_1)), (1, .box (eApiTaken one)), (2, .val (.os 1 eI x16.1)), (3, .val (.os 3 eApiTaken ([] : List ApiTaken))), (4, .val (.os 1 eI ([two] : List Int)))] 5 12 #[true, true, true, true, true, true, false, true, false, false, false, true, false, true, true, false, true, false, false, false, false, false, false] ?_ (fun hd18_8 => ?_)
   ·refine D.all 6 [8, 10] (by kernel_rfl) ⟨?_, ?_, ?_, trivial⟩
    ·refine D.ef1 (o := _) rfl (.none rfl) (by exact Eff1.ap T rfl rfl rfl rfl rfl rfl (.inl rfl) rfl rfl rfl (fun _ => rfl) rfl hx19) rfl rfl ?_
     exact D.to [some 0, some 1, some 2, some 3, some 5, some 4] hd18_14 (by kernel_rfl) rfl rfl (.eqs rfl) ⟨⟨_, rfl, .box rfl (.eq rfl)⟩, ⟨_, rfl, .box rfl (.eq rfl)⟩, ⟨_, rfl, .val rfl⟩, ⟨_, rfl, .val rfl⟩, ⟨_, rfl, .val rfl⟩, trivial⟩ rfl rfl rfl
    ·refine D.ef1 (o := _) rfl (.none rfl) (by exact Eff1.bs T (enc := eApiTaken) (xs := ([one] : List ApiTaken)) rfl rfl rfl rfl rfl rfl rfl rfl rfl rfl (fun _ _ => rfl) rfl rfl) rfl rfl ?_
     exact D.to [some 0, some 1, some 2, some 3, some 5, some 4] hd18_16 (by kernel_rfl) rfl rfl (.eqs rfl) ⟨⟨_, rfl, .box rfl (.eq rfl)⟩, ⟨_, rfl, .box rfl (.eq rfl)⟩, ⟨_, rfl, .val rfl⟩, ⟨_, rfl, .val rfl⟩, ⟨_, rfl, .val rfl⟩, ⟨_, rfl, .val rfl⟩, trivial⟩ rfl rfl rfl
    ·refine D.ef1 (o := _) rfl (.none rfl) (by exact Eff1.bs T (enc := eI) (xs := ([] : List Int)) rfl rfl rfl rfl rfl rfl rfl rfl rfl rfl (fun _ _ => rfl) rfl rfl) rfl rfl ?_
     exact D.to [some 0, some 1, some 2, some 3, some 5, some 4] hd18_17 (by kernel_rfl) rfl rfl (.eqs rfl) ⟨⟨_, rfl, .box rfl (.eq rfl)⟩, ⟨_, rfl, .box rfl (.eq rfl)⟩, ⟨_, rfl, .val rfl⟩, ⟨_, rfl, .val rfl⟩, ⟨_, rfl, .val rfl⟩, ⟨_, rfl, .val rfl⟩, trivial⟩ rfl rfl rfl
   refine D.have false [(1, .i from_1), (2, .i to_1), (3, .i tick), (4, .sl 3 eApiTaken taken), (5, .sl 1 eI avoid), (6, .i most), (8, .i two), (9, .p 0 0), (16, .p 1 0), (19, .b x5), (20, .o 2), (21, .i x16.2), (39, .b x6), (41, .tup [.o 2, .i x16.2]), (42, .agg (eApiSite s_1)), (43, .i from_1), (44, .i to_1), (45, .i tick), (46, .sl 3 eApiTaken taken), (47, .sl 1 eI avoid), (48, .i most), (49, .tup [.o 2, .i x16.2]), (50, .o 2), (51, .i x16.2), (53, .agg (eApiSite s_1)), (54, .i from_1), (55, .i to_1), (56, .i tick), (58, .sl 3 eApiTaken taken), (60, .agg (eApiTaken one)), (61, .o 3), (63, .o 4), (64, .sl 1 eI avoid), (66, .i two), (69, .i most)] [(0, .box (eApiSite s_1)), (1, .box (eApiTaken one)), (2, .val (.os 1 eI x16.1)), (3, .val (.os 3 eApiTaken ([one] : List ApiTaken))), (4, .val (.os 1 eI ([] : List Int)))] 5 12 #[true, true, true, true, false, true, false, true, true, false, true, true, false, true, false, false, true, false, false, false, false, false, false] ?_ (fun hd18_9 => ?_)
   ·refine D.all 4 [14] (by kernel_rfl) ⟨?_, ?_, trivial⟩
    ·refine D.ef1 (o := _) rfl (.none rfl) (by exact Eff1.bs T (enc := eApiTaken) (xs := ([] : List ApiTaken)) rfl rfl rfl rfl rfl rfl rfl rfl rfl rfl (fun _ _ => rfl) rfl rfl) rfl rfl ?_
     exact D.to [some 0, some 1, some 2, some 5, some 3, some 4] hd18_15 (by kernel_rfl) rfl rfl (.eqs rfl) ⟨⟨_, rfl, .box rfl (.eq rfl)⟩, ⟨_, rfl, .box rfl (.eq rfl)⟩, ⟨_, rfl, .val rfl⟩, ⟨_, rfl, .val rfl⟩, ⟨_, rfl, .val rfl⟩, ⟨_, rfl, .val rfl⟩, trivial⟩ rfl rfl rfl
    ·refine D.ef1 (o := _) rfl (.none rfl) (by exact Eff1.bs T (enc := eI) (xs := ([two] : List Int)) rfl rfl rfl rfl rfl rfl rfl rfl rfl rfl (fun _ _ => rfl) rfl rfl) rfl rfl ?_
     exact D.to [some 0, some 1, some 2, some 3, some 4, some 5] hd18_18 (by kernel_rfl) rfl rfl (.eqs rfl) ⟨⟨_, rfl, .box rfl (.eq rfl)⟩, ⟨_, rfl, .box rfl (.eq rfl)⟩, ⟨_, rfl, .val rfl⟩, ⟨_, rfl, .val rfl⟩, ⟨_, rfl, .val rfl⟩, ⟨_, rfl, .val rfl⟩, trivial⟩ rfl rfl rfl
   refine D.have false [(1, .i from_1), (2, .i to_1), (3, .i tick), (4, .sl 3 eApiTaken taken), (5, .sl 1 eI avoid), (6, .i most), (8, .i two), (9, .p 0 0), (16, .p 1 0), (19, .b x5), (20, .o 2), (21, .i x16.2), (39, .b x6), (41, .tup [.o 2, .i x16.2]), (42, .agg (eApiSite s_1)), (43, .i from_1), (44, .i to_1), (45, .i tick), (46, .sl 3 eApiTaken taken), (47, .sl 1 eI avoid), (48, .i most), (49, .tup [.o 2, .i x16.2]), (50, .o 2), (51, .i x16.2), (53, .agg (eApiSite s_1)), (54, .i from_1), (55, .i to_1), (56, .i tick), (58, .sl 3 eApiTaken taken), (60, .agg (eApiTaken one)), (61, .o 3), (64, .sl 1 eI avoid), (66, .i two), (67, .o 4), (69, .i most)] [(0, .box (eApiSite s_1)), (1, .box (eApiTaken one)), (2, .val (.os 1 eI x16.1)), (3, .val (.os 3 eApiTaken ([one] : List ApiTaken))), (4, .val (.os 1 eI ([two] : List Int)))] 5 12 #[true, true, true, true, false, true, false, true, true, false, false, true, false, true, true, false, true, false, false, false, false, false, false] ?_ (fun hd18_10 => ?_)
   ·refine D.all 4 [10] (by kernel_rfl) ⟨?_, ?_, trivial⟩
    ·refine D.ef1 (o := _) rfl (.none rfl) (by exact Eff1.bs T (enc := eApiTaken) (xs := ([] : List ApiTaken)) rfl rfl rfl rfl rfl rfl rfl rfl rfl rfl (fun _ _ => rfl) rfl rfl) rfl rfl ?_
     exact D.to [some 0, some 1, some 2, some 5, some 3, some 4] hd18_16 (by kernel_rfl) rfl rfl (.eqs rfl) ⟨⟨_, rfl, .box rfl (.eq rfl)⟩, ⟨_, rfl, .box rfl (.eq rfl)⟩, ⟨_, rfl, .val rfl⟩, ⟨_, rfl, .val rfl⟩, ⟨_, rfl, .val rfl⟩, ⟨_, rfl, .val rfl⟩, trivial⟩ rfl rfl rfl
    ·refine D.ef1 (o := _) rfl (.none rfl) (by exact Eff1.bs T (enc := eI) (xs := ([] : List Int)) rfl rfl rfl rfl rfl rfl rfl rfl rfl rfl (fun _ _ => rfl) rfl rfl) rfl rfl ?_
     exact D.to [some 0, some 1, some 2, some 3, some 5, some 4] hd18_18 (by kernel_rfl) rfl rfl (.eqs rfl) ⟨⟨_, rfl, .box rfl (.eq rfl)⟩, ⟨_, rfl, .box rfl (.eq rfl)⟩, ⟨_, rfl, .val rfl⟩, ⟨_, rfl, .val rfl⟩, ⟨_, rfl, .val rfl⟩, ⟨_, rfl, .val rfl⟩, trivial⟩ rfl rfl rfl
   refine D.have false [(1, .i from_1), (2, .i to_1), (3, .i tick), (4, .sl 3 eApiTaken taken), (5, .sl 1 eI avoid), (6, .i most), (8, .i two), (9, .p 0 0), (16, .p 1 0), (19, .b x5), (20, .o 2), (21, .i x16.2), (39, .b x6), (41, .tup [.o 2, .i x16.2]), (42, .agg (eApiSite s_1)), (43, .i from_1), (44, .i to_1), (45, .i tick), (46, .sl 3 eApiTaken taken), (47, .sl 1 eI avoid), (48, .i most), (49, .tup [.o 2, .i x16.2]), (50, .o 2), (51, .i x16.2), (53, .agg (eApiSite s_1)), (54, .i from_1), (55, .i to_1), (56, .i tick), (58, .sl 3 eApiTaken taken), (60, .agg (eApiTaken one)), (63, .o 3), (64, .sl 1 eI avoid), (66, .i two), (67, .o 4), (69, .i most)] [(0, .box (eApiSite s_1)), (1, .box (eApiTaken one)), (2, .val (.os 1 eI x16.1)), (3, .val (.os 1 eI ([] : List Int))), (4, .val (.os 1 eI ([two] : List Int)))] 5 12 #[true, true, true, true, false, true, false, true, false, false, true, true, false, true, true, false, true, false, false, false, false, false, false] ?_ (fun hd18_11 => ?_)
   ·refine D.all 4 [8] (by kernel_rfl) ⟨?_, ?_, trivial⟩
    ·refine D.ef1 (o := _) rfl (.none rfl) (by exact Eff1.bs T (enc := eApiTaken) (xs := ([] : List ApiTaken)) rfl rfl rfl rfl rfl rfl rfl rfl rfl rfl (fun _ _ => rfl) rfl rfl) rfl rfl ?_
     exact D.to [some 0, some 1, some 2, some 5, some 3, some 4] hd18_17 (by kernel_rfl) rfl rfl (.eqs rfl) ⟨⟨_, rfl, .box rfl (.eq rfl)⟩, ⟨_, rfl, .box rfl (.eq rfl)⟩, ⟨_, rfl, .val rfl⟩, ⟨_, rfl, .val rfl⟩, ⟨_, rfl, .val rfl⟩, ⟨_, rfl, .val rfl⟩, trivial⟩ rfl rfl rfl
    ·refine D.ef1 (o := _) rfl (.none rfl) (by exact Eff1.bs T (enc := eApiTaken) (xs := ([one] : List ApiTaken)) rfl rfl rfl rfl rfl rfl rfl rfl rfl rfl (fun _ _ => rfl) rfl rfl) rfl rfl ?_
     exact D.to [some 0, some 1, some 2, some 5, some 3, some 4] hd18_18 (by kernel_rfl) rfl rfl (.eqs rfl) ⟨⟨_, rfl, .box rfl (.eq rfl)⟩, ⟨_, rfl, .box rfl (.eq rfl)⟩, ⟨_, rfl, .val rfl⟩, ⟨_, rfl, .val rfl⟩, ⟨_, rfl, .val rfl⟩, ⟨_, rfl, .val rfl⟩, trivial⟩ rfl rfl rfl
   refine D.have false [(1, .i from_1), (2, .i to_1), (3, .i tick), (4, .sl 3 eApiTaken taken), (5, .sl 1 eI avoid), (6, .i most), (8, .i two), (9, .p 0 0), (16, .p 1 0), (19, .b x5), (20, .o 2), (21, .i x16.2), (39, .b x6), (41, .tup [.o 2, .i x16.2]), (42, .agg (eApiSite s_1)), (43, .i from_1), (44, .i to_1), (45, .i tick), (46, .sl 3 eApiTaken taken), (47, .sl 1 eI avoid), (48, .i most), (49, .tup [.o 2, .i x16.2]), (50, .o 2), (51, .i x16.2), (53, .agg (eApiSite s_1)), (54, .i from_1), (55, .i to_1), (56, .i tick), (57, .o 3), (58, .sl 3 eApiTaken taken), (60, .agg (eApiTaken one)), (64, .sl 1 eI avoid), (66, .i two), (69, .i most)] [(0, .box (eApiSite s_1)), (1, .box (eApiTaken one)), (2, .val (.os 1 eI x16.1)), (3, .val (.os 3 eApiTaken ([] : List ApiTaken)))] 4 13 #[true, true, true, true, true, true, false, true, false, false, false, true, false, true, false, false, true, false, false, false, false, false, false] ?_ (fun hd18_1 => ?_)
   ·refine D.all 6 [8, 10, 14] (by kernel_rfl) ⟨?_, ?_, ?_, ?_, trivial⟩
    ·refine D.ef1 (o := _) rfl (.none rfl) (by exact Eff1.ap T rfl rfl rfl rfl rfl rfl (.inl rfl) rfl rfl rfl (fun _ => rfl) rfl hx19) rfl rfl ?_
     exact D.to [some 0, some 1, some 2, some 3, some 4] hd18_5 (by kernel_rfl) rfl rfl (.eqs rfl) ⟨⟨_, rfl, .box rfl (.eq rfl)⟩, ⟨_, rfl, .box rfl (.eq rfl)⟩, ⟨_, rfl, .val rfl⟩, ⟨_, rfl, .val rfl⟩, trivial⟩ rfl rfl rfl
    ·refine D.ef1 (o := _) rfl (.none rfl) (by exact Eff1.bs T (enc := eApiTaken) (xs := ([one] : List ApiTaken)) rfl rfl rfl rfl rfl rfl rfl rfl rfl rfl (fun _ _ => rfl) rfl rfl) rfl rfl ?_
     exact D.to [some 0, some 1, some 2, some 3, some 4] hd18_6 (by kernel_rfl) rfl rfl (.eqs rfl) ⟨⟨_, rfl, .box rfl (.eq rfl)⟩, ⟨_, rfl, .box rfl (.eq rfl)⟩, ⟨_, rfl, .val rfl⟩, ⟨_, rfl, .val rfl⟩, ⟨_, rfl, .val rfl⟩, trivial⟩ rfl rfl rfl
    ·refine D.ef1 (o := _) rfl (.none rfl) (by exact Eff1.bs T (enc := eI) (xs := ([] : List Int)) rfl rfl rfl rfl rfl rfl rfl rfl rfl rfl (fun _ _ => rfl) rfl rfl) rfl rfl ?_
     exact D.to [some 0, some 1, some 2, some 3, some 4] hd18_7 (by kernel_rfl) rfl rfl (.eqs rfl) ⟨⟨_, rfl, .box rfl (.eq rfl)⟩, ⟨_, rfl, .box rfl (.eq rfl)⟩, ⟨_, rfl, .val rfl⟩, ⟨_, rfl, .val rfl⟩, ⟨_, rfl, .val rfl⟩, trivial⟩ rfl rfl rfl
    ·refine D.ef1 (o := _) rfl (.none rfl) (by exact Eff1.bs T (enc := eI) (xs := ([two] : List Int)) rfl rfl rfl rfl rfl rfl rfl rfl rfl rfl (fun _ _ => rfl) rfl rfl) rfl rfl ?_
     exact D.to [some 0, some 1, some 2, some 3, some 4] hd18_8 (by kernel_rfl) rfl rfl (.eqs rfl) ⟨⟨_, rfl, .box rfl (.eq rfl)⟩, ⟨_, rfl, .box rfl (.eq rfl)⟩, ⟨_, rfl, .val rfl⟩, ⟨_, rfl, .val rfl⟩, ⟨_, rfl, .val rfl⟩, trivial⟩ rfl rfl rfl
   refine D.have false [(1, .i from_1), (2, .i to_1), (3, .i tick), (4, .sl 3 eApiTaken taken), (5, .sl 1 eI avoid), (6, .i most), (8, .i two), (9, .p 0 0), (16, .p 1 0), (19, .b x5), (20, .o 2), (21, .i x16.2), (39, .b x6), (41, .tup [.o 2, .i x16.2]), (42, .agg (eApiSite s_1)), (43, .i from_1), (44, .i to_1), (45, .i tick), (46, .sl 3 eApiTaken taken), (47, .sl 1 eI avoid), (48, .i most), (49, .tup [.o 2, .i x16.2]), (50, .o 2), (51, .i x16.2), (53, .agg (eApiSite s_1)), (54, .i from_1), (55, .i to_1), (56, .i tick), (58, .sl 3 eApiTaken taken), (60, .agg (eApiTaken one)), (61, .o 3), (64, .sl 1 eI avoid), (66, .i two), (69, .i most)] [(0, .box (eApiSite s_1)), (1, .box (eApiTaken one)), (2, .val (.os 1 eI x16.1)), (3, .val (.os 3 eApiTaken ([one] : List ApiTaken)))] 4 13 #[true, true, true, true, false, true, false, true, true, false, false, true, false, true, false, false, true, false, false, false, false, false, false] ?_ (fun hd18_2 => ?_)
   ·refine D.all 4 [10, 14] (by kernel_rfl) ⟨?_, ?_, ?_, trivial⟩
    ·refine D.ef1 (o := _) rfl (.none rfl) (by exact Eff1.bs T (enc := eApiTaken) (xs := ([] : List ApiTaken)) rfl rfl rfl rfl rfl rfl rfl rfl rfl rfl (fun _ _ => rfl) rfl rfl) rfl rfl ?_
     exact D.to [some 0, some 1, some 2, some 4, some 3] hd18_6 (by kernel_rfl) rfl rfl (.eqs rfl) ⟨⟨_, rfl, .box rfl (.eq rfl)⟩, ⟨_, rfl, .box rfl (.eq rfl)⟩, ⟨_, rfl, .val rfl⟩, ⟨_, rfl, .val rfl⟩, ⟨_, rfl, .val rfl⟩, trivial⟩ rfl rfl rfl
    ·refine D.ef1 (o := _) rfl (.none rfl) (by exact Eff1.bs T (enc := eI) (xs := ([] : List Int)) rfl rfl rfl rfl rfl rfl rfl rfl rfl rfl (fun _ _ => rfl) rfl rfl) rfl rfl ?_
     exact D.to [some 0, some 1, some 2, some 3, some 4] hd18_9 (by kernel_rfl) rfl rfl (.eqs rfl) ⟨⟨_, rfl, .box rfl (.eq rfl)⟩, ⟨_, rfl, .box rfl (.eq rfl)⟩, ⟨_, rfl, .val rfl⟩, ⟨_, rfl, .val rfl⟩, ⟨_, rfl, .val rfl⟩, trivial⟩ rfl rfl rfl
    ·refine D.ef1 (o := _) rfl (.none rfl) (by exact Eff1.bs T (enc := eI) (xs := ([two] : List Int)) rfl rfl rfl rfl rfl rfl rfl rfl rfl rfl (fun _ _ => rfl) rfl rfl) rfl rfl ?_
     exact D.to [some 0, some 1, some 2, some 3, some 4] hd18_10 (by kernel_rfl) rfl rfl (.eqs rfl) ⟨⟨_, rfl, .box rfl (.eq rfl)⟩, ⟨_, rfl, .box rfl (.eq rfl)⟩, ⟨_, rfl, .val rfl⟩, ⟨_, rfl, .val rfl⟩, ⟨_, rfl, .val rfl⟩, trivial⟩ rfl rfl rfl
   refine D.have false [(1, .i from_1), (2, .i to_1), (3, .i tick), (4, .sl 3 eApiTaken taken), (5, .sl 1 eI avoid), (6, .i most), (8, .i two), (9, .p 0 0), (16, .p 1 0), (19, .b x5), (20, .o 2), (21, .i x16.2), (39, .b x6), (41, .tup [.o 2, .i x16.2]), (42, .agg (eApiSite s_1)), (43, .i from_1), (44, .i to_1), (45, .i tick), (46, .sl 3 eApiTaken taken), (47, .sl 1 eI avoid), (48, .i most), (49, .tup [.o 2, .i x16.2]), (50, .o 2), (51, .i x16.2), (53, .agg (eApiSite s_1)), (54, .i from_1), (55, .i to_1), (56, .i tick), (58, .sl 3 eApiTaken taken), (60, .agg (eApiTaken one)), (63, .o 3), (64, .sl 1 eI avoid), (66, .i two), (69, .i most)] [(0, .box (eApiSite s_1)), (1, .box (eApiTaken one)), (2, .val (.os 1 eI x16.1)), (3, .val (.os 1 eI ([] : List Int)))] 4 13 #[true, true, true, true, false, true, false, true, false, false, true, true, false, true, false, false, true, false, false, false, false, false, false] ?_ (fun hd18_3 => ?_)
   ·refine D.all 4 [8, 14] (by kernel_rfl) ⟨?_, ?_, ?_, trivial⟩
    ·refine D.ef1 (o := _) rfl (.none rfl) (by exact Eff1.bs T (enc := eApiTaken) (xs := ([] : List ApiTaken)) rfl rfl rfl rfl rfl rfl rfl rfl rfl rfl (fun _ _ => rfl) rfl rfl) rfl rfl ?_
     exact D.to [some 0, some 1, some 2, some 4, some 3] hd18_7 (by kernel_rfl) rfl rfl (.eqs rfl) ⟨⟨_, rfl, .box rfl (.eq rfl)⟩, ⟨_, rfl, .box rfl (.eq rfl)⟩, ⟨_, rfl, .val rfl⟩, ⟨_, rfl, .val rfl⟩, ⟨_, rfl, .val rfl⟩, trivial⟩ rfl rfl rfl
    ·refine D.ef1 (o := _) rfl (.none rfl) (by exact Eff1.bs T (enc := eApiTaken) (xs := ([one] : List ApiTaken)) rfl rfl rfl rfl rfl rfl rfl rfl rfl rfl (fun _ _ => rfl) rfl rfl) rfl rfl ?_
     exact D.to [some 0, some 1, some 2, some 4, some 3] hd18_9 (by kernel_rfl) rfl rfl (.eqs rfl) ⟨⟨_, rfl, .box rfl (.eq rfl)⟩, ⟨_, rfl, .box rfl (.eq rfl)⟩, ⟨_, rfl, .val rfl⟩, ⟨_, rfl, .val rfl⟩, ⟨_, rfl, .val rfl⟩, trivial⟩ rfl rfl rfl
    ·refine D.ef1 (o := _) rfl (.none rfl) (by exact Eff1.bs T (enc := eI) (xs := ([two] : List Int)) rfl rfl rfl rfl rfl rfl rfl rfl rfl rfl (fun _ _ => rfl) rfl rfl) rfl rfl ?_
     exact D.to [some 0, some 1, some 2, some 3, some 4] hd18_11 (by kernel_rfl) rfl rfl (.eqs rfl) ⟨⟨_, rfl, .box rfl (.eq rfl)⟩, ⟨_, rfl, .box rfl (.eq rfl)⟩, ⟨_, rfl, .val rfl⟩, ⟨_, rfl, .val rfl⟩, ⟨_, rfl, .val rfl⟩, trivial⟩ rfl rfl rfl
   refine D.have false [(1, .i from_1), (2, .i to_1), (3, .i tick), (4, .sl 3 eApiTaken taken), (5, .sl 1 eI avoid), (6, .i most), (8, .i two), (9, .p 0 0), (16, .p 1 0), (19, .b x5), (20, .o 2), (21, .i x16.2), (39, .b x6), (41, .tup [.o 2, .i x16.2]), (42, .agg (eApiSite s_1)), (43, .i from_1), (44, .i to_1), (45, .i tick), (46, .sl 3 eApiTaken taken), (47, .sl 1 eI avoid), (48, .i most), (49, .tup [.o 2, .i x16.2]), (50, .o 2), (51, .i x16.2), (53, .agg (eApiSite s_1)), (54, .i from_1), (55, .i to_1), (56, .i tick), (58, .sl 3 eApiTaken taken), (60, .agg (eApiTaken one)), (64, .sl 1 eI avoid), (66, .i two), (67, .o 3), (69, .i most)] [(0, .box (eApiSite s_1)), (1, .box (eApiTaken one)), (2, .val (.os 1 eI x16.1)), (3, .val (.os 1 eI ([two] : List Int)))] 4 13 #[true, true, true, true, false, true, false, true, false, false, false, true, false, true, true, false, true, false, false, false, false, false, false] ?_ (fun hd18_4 => ?_)
   ·refine D.all 4 [8, 10] (by kernel_rfl) ⟨?_, ?_, ?_, trivial⟩
    ·refine D.ef1 (o := _) rfl (.none rfl) (by exact Eff1.bs T (enc := eApiTaken) (xs := ([] : List ApiTaken)) rfl rfl rfl rfl rfl rfl rfl rfl rfl rfl (fun _ _ => rfl) rfl rfl) rfl rfl ?_
     exact D.to [some 0, some 1, some 2, some 4, some 3] hd18_8 (by kernel_rfl) rfl rfl (.eqs rfl) ⟨⟨_, rfl, .box rfl (.eq rfl)⟩, ⟨_, rfl, .box rfl (.eq rfl)⟩, ⟨_, rfl, .val rfl⟩, ⟨_, rfl, .val rfl⟩, ⟨_, rfl, .val rfl⟩, trivial⟩ rfl rfl rfl
    ·refine D.ef1 (o := _) rfl (.none rfl) (by exact Eff1.bs T (enc := eApiTaken) (xs := ([one] : List ApiTaken)) rfl rfl rfl rfl rfl rfl rfl rfl rfl rfl (fun _ _ => rfl) rfl rfl) rfl rfl ?_
     exact D.to [some 0, some 1, some 2, some 4, some 3] hd18_10 (by kernel_rfl) rfl rfl (.eqs rfl) ⟨⟨_, rfl, .box rfl (.eq rfl)⟩, ⟨_, rfl, .box rfl (.eq rfl)⟩, ⟨_, rfl, .val rfl⟩, ⟨_, rfl, .val rfl⟩, ⟨_, rfl, .val rfl⟩, trivial⟩ rfl rfl rfl
    ·refine D.ef1 (o := _) rfl (.none rfl) (by exact Eff1.bs T (enc := eI) (xs := ([] : List Int)) rfl rfl rfl rfl rfl rfl rfl rfl rfl rfl (fun _ _ => rfl) rfl rfl) rfl rfl ?_
     exact D.to [some 0, some 1, some 2, some 4, some 3] hd18_11 (by kernel_rfl) rfl rfl (.eqs rfl) ⟨⟨_, rfl, .box rfl (.eq rfl)⟩, ⟨_, rfl, .box rfl (.eq rfl)⟩, ⟨_, rfl, .val rfl⟩, ⟨_, rfl, .val rfl⟩, ⟨_, rfl, .val rfl⟩, trivial⟩ rfl rfl rfl
   refine D.all 4 [8, 10, 14] (by kernel_rfl) ⟨?_, ?_, ?_, ?_, trivial⟩
   ·refine D.ef1 (o := _) rfl (.none rfl) (by exact Eff1.bs T (enc := eApiTaken) (xs := ([] : List ApiTaken)) rfl rfl rfl rfl rfl rfl rfl rfl rfl rfl (fun _ _ => rfl) rfl rfl) rfl rfl ?_
    exact D.to [some 0, some 1, some 2, some 3] hd18_1 (by kernel_rfl) rfl rfl (.eqs rfl) ⟨⟨_, rfl, .box rfl (.eq rfl)⟩, ⟨_, rfl, .box rfl (.eq rfl)⟩, ⟨_, rfl, .val rfl⟩, ⟨_, rfl, .val rfl⟩, trivial⟩ rfl rfl rfl
   ·refine D.ef1 (o := _) rfl (.none rfl) (by exact Eff1.bs T (enc := eApiTaken) (xs := ([one] : List ApiTaken)) rfl rfl rfl rfl rfl rfl rfl rfl rfl rfl (fun _ _ => rfl) rfl rfl) rfl rfl ?_
    exact D.to [some 0, some 1, some 2, some 3] hd18_2 (by kernel_rfl) rfl rfl (.eqs rfl) ⟨⟨_, rfl, .box rfl (.eq rfl)⟩, ⟨_, rfl, .box rfl (.eq rfl)⟩, ⟨_, rfl, .val rfl⟩, ⟨_, rfl, .val rfl⟩, trivial⟩ rfl rfl rfl
   ·refine D.ef1 (o := _) rfl (.none rfl) (by exact Eff1.bs T (enc := eI) (xs := ([] : List Int)) rfl rfl rfl rfl rfl rfl rfl rfl rfl rfl (fun _ _ => rfl) rfl rfl) rfl rfl ?_
    exact D.to [some 0, some 1, some 2, some 3] hd18_3 (by kernel_rfl) rfl rfl (.eqs rfl) ⟨⟨_, rfl, .box rfl (.eq rfl)⟩, ⟨_, rfl, .box rfl (.eq rfl)⟩, ⟨_, rfl, .val rfl⟩, ⟨_, rfl, .val rfl⟩, trivial⟩ rfl rfl rfl
   ·refine D.ef1 (o := _) rfl (.none rfl) (by exact Eff1.bs T (enc := eI) (xs := ([two] : List Int)) rfl rfl rfl rfl rfl rfl rfl rfl rfl rfl (fun _ _ => rfl) rfl rfl) rfl rfl ?_
    exact D.to [some 0, some 1, some 2, some 3] hd18_4 (by kernel_rfl) rfl rfl (.eqs rfl) ⟨⟨_, rfl, .box rfl (.eq rfl)⟩, ⟨_, rfl, .box rfl (.eq rfl)⟩, ⟨_, rfl, .val rfl⟩, ⟨_, rfl, .val rfl⟩, trivial⟩ rfl rfl rfl
 ·refine U.start ?_
  refine U.ps 3 T rfl ?_
  refine U.e (o := _) rfl (.none rfl) (by exact Eff.c [] (v := true) (T_taquinlaw23_fair s_1 taken avoid _ hm) en8 rfl rfl rfl (.eq rfl) trivial rfl rfl rfl rfl rfl rfl (fun _ _ => ⟨(.v _), trivial⟩) (.inr ⟨rfl, rfl⟩) (fun _ => rfl) (fun _ => rfl) rfl) (fun x8' hm => ?_)
  obtain ⟨x8⟩ := x8'
  refine U.ps 2 T rfl ?_
  refine hm.cs (fun hb9 hm => ?_) (fun hb9 hm => ?_)
  ·refine U.pg 2 5 false 32 (ntF hb9) T rfl rfl rfl rfl ?_
   refine U.r (o := _) rfl (.none rfl) rfl rfl (by exact Rd.pk' rfl rfl (ntF hb9) rfl) ?_
   refine U.ps 1 T rfl ?_
   refine hm.cs (fun hb10 hm => ?_) (fun hb10 hm => ?_)
   ·refine U.sks 2 9 false 36 hb10 rfl rfl rfl ?_
    refine U.r (o := _) rfl (.none rfl) rfl rfl (by exact Rd.pk rfl rfl hb10 rfl) ?_
    refine U.done ?_
    exact St.wk (hJ7 _ hm) (Wk.mk' [some 0, some 1] rfl rfl (.eqs rfl) ⟨⟨_, rfl, .box rfl (.eq rfl)⟩, ⟨_, rfl, .box rfl (.eq rfl)⟩, trivial⟩ rfl)
   ·refine U.pg 2 9 false 36 hb10 T rfl rfl rfl rfl ?_
    refine U.r (o := _) rfl (.none rfl) rfl rfl (by exact Rd.pk' rfl rfl hb10 rfl) ?_
    refine U.done ?_
    exact St.wk (hJ7 _ hm) (Wk.mk' [some 0, some 1] rfl rfl (.eqs rfl) ⟨⟨_, rfl, .box rfl (.eq rfl)⟩, ⟨_, rfl, .box rfl (.eq rfl)⟩, trivial⟩ rfl)
  ·refine U.sks 2 5 false 32 (ntT hb9) rfl rfl rfl ?_
   refine U.r (o := _) rfl (.none rfl) rfl rfl (by exact Rd.pk rfl rfl (ntT hb9) rfl) ?_
   refine U.ps 1 T rfl ?_
   refine U.sks 2 9 false 36 rfl rfl rfl rfl ?_
   refine U.r (o := _) rfl (.none rfl) rfl rfl (by exact Rd.pk rfl rfl rfl rfl) ?_
   refine U.done ?_
   exact St.wk (hJ7 _ hm) (Wk.mk' [some 0, some 1] rfl rfl (.eqs rfl) ⟨⟨_, rfl, .box rfl (.eq rfl)⟩, ⟨_, rfl, .box rfl (.eq rfl)⟩, trivial⟩ rfl)
end Go.Proofs.Ytliikemkgfjpaaa
