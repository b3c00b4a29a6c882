/- The walks: each Go function does what its verification condition says (written by a program of the prover). -/
import Derived.Test.YtpcdibgbijddlaaW1
import Derived.KernelRfl
set_option maxRecDepth 100000
set_option maxHeartbeats 8000000
set_option linter.unusedVariables false
set_option linter.unusedSimpArgs false
namespace Go.Proofs.Ytpcdibgbijddlaa
open Go Go.Taq
theorem T_taquinref12_Standing (s_1 : ApiSite) (st : ApiState) (post : (List Int) → Prop) (hm : V_taquinref12_Standing s_1 st post) :
    Tr Try.prog 59 [.agg (eApiSite s_1), .agg (eApiState st)] [] 0 (fun A H' k => ∃ y, post y ∧ A = (.o 0) ∧ H' = [(0, .val (.os 1 eI y))] ∧ k = 1) := by
 refine Tr.intro (n := 85) Try.func59 rfl Try.ntmps59 rfl (fun w0 ok F β hβ => ?_)
 unfold V_taquinref12_Standing at hm
 refine C.seq (U.start ?_)
 refine U.e1 (o := _) rfl (.none rfl) (by exact Eff1.box rfl rfl rfl rfl rfl) ?_
 refine U.e1 (o := _) rfl (.none rfl) (by exact Eff1.box rfl rfl rfl rfl rfl) ?_
 refine U.ps 1 T rfl ?_
 refine U.done (C.nx (C.seq (U.start ?_)))
 refine U.ps 4 T rfl ?_
 obtain ⟨hx5, hm⟩ := hm
 refine U.e1 (o := _) rfl (.none rfl) (by exact Eff1.mk T (enc := eI) (z0 := 0) rfl rfl rfl rfl rfl rfl rfl rfl rfl rfl hx5) ?_
 refine U.ps 1 T rfl ?_
 refine U.done (C.nx (C.seq (C.seq (U.start ?_))))
 refine U.ps 1 T rfl ?_
 refine U.done (C.nx ?_)
 refine C.jn (fun (x8 : List Int) => [(2, .p 0 0), (3, .p 1 0), (5, .o 2)]) (fun (x8 : List Int) => [(0, .box (eApiSite s_1)), (1, .box (eApiState st)), (2, .val (.os 1 eI x8))]) 3 hm (fun x8 hm => ?_) (fun J9 hm hJ9 => ?_)
 ·refine C.nx (C.seq (U.start ?_))
  refine U.ps 3 T rfl ?_
  obtain ⟨hx22, hm⟩ := hm
  refine U.e1 (o := _) rfl (.none rfl) (by exact Eff1.mk T (enc := eB) (z0 := false) rfl rfl rfl rfl rfl rfl rfl rfl rfl rfl hx22) ?_
  refine U.ps 1 T rfl ?_
  refine U.done (C.nx (C.seq (C.seq (U.start ?_))))
  refine U.ps 1 T rfl ?_
  refine U.done (C.nx ?_)
  refine C.jn (fun (x25 : List Bool) => [(2, .p 0 0), (3, .p 1 0), (5, .o 2), (7, .o 3)]) (fun (x25 : List Bool) => [(0, .box (eApiSite s_1)), (1, .box (eApiState st)), (2, .val (.os 1 eI x8)), (3, .val (.os 1 eB x25))]) 4 hm (fun x25 hm => ?_) (fun J26 hm hJ26 => ?_)
  ·refine C.nx (C.seq (C.seq (U.start ?_)))
   refine U.ps 5 T rfl ?_
   refine U.done (C.nx ?_)
   refine C.jn (fun (x48 : List Int) => [(5, .o 0)]) (fun (x48 : List Int) => [(0, .val (.os 1 eI x48))]) 1 hm (fun x48 hm => ?_) (fun J49 hm hJ49 => ?_)
   ·refine C.nx (C.seq (U.start ?_))
    refine U.ps 2 T rfl ?_
    refine U.done (C.nx (C.ret ?_))
    exact C.fin T (rs' := [.o 0]) (H' := [(0, .val (.os 1 eI x48))]) (nl' := 1) [some 0] rfl rfl (.eq rfl) ⟨⟨_, rfl, .val rfl⟩, trivial⟩ rfl rfl rfl rfl hβ ⟨x48, hm, rfl, rfl, rfl⟩
   ·refine C.block ?_
    refine St.wk (C.loop (fun (s50 : List Int × Int) => [(2, .p 0 0), (3, .p 1 0), (5, .o 2), (7, .o 3), (10, .i s50.2)]) (fun (s50 : List Int × Int) => [(0, .box (eApiSite s_1)), (1, .box (eApiState st)), (2, .val (.os 1 eI s50.1)), (3, .val (.os 1 eB x25))]) hm (fun s50 Y51 hm => ?_)) (Wk.mk' [some 0, some 1, some 2, some 3] rfl rfl (.eqs rfl) ⟨⟨_, rfl, .box rfl (.eq rfl)⟩, ⟨_, rfl, .box rfl (.eq rfl)⟩, ⟨_, rfl, .val rfl⟩, ⟨_, rfl, .val rfl⟩, trivial⟩ rfl)
    refine C.seq (C.seq (U.start ?_))
    refine U.ps 2 T rfl ?_
    refine U.done (C.nx ?_)
    refine C.ite rfl hm (fun hb54 hm => ?_) (fun hb54 hm => ?_)
    ·refine C.skip (C.nx (C.seq (C.block (C.seq ?_))))
     refine C.jn (fun (x55 : Bool) => [(2, .p 0 0), (3, .p 1 0), (5, .o 2), (7, .o 3), (10, .i s50.2), (75, .b x55)]) (fun (x55 : Bool) => [(0, .box (eApiSite s_1)), (1, .box (eApiState st)), (2, .val (.os 1 eI s50.1)), (3, .val (.os 1 eB x25))]) 4 hm (fun x55 hm => ?_) (fun J56 hm hJ56 => ?_)
     ·refine C.nx ?_
      refine C.jn (fun (x61 : List Int) => [(2, .p 0 0), (3, .p 1 0), (5, .o 2), (7, .o 3), (10, .i s50.2)]) (fun (x61 : List Int) => [(0, .box (eApiSite s_1)), (1, .box (eApiState st)), (2, .val (.os 1 eI x61)), (3, .val (.os 1 eB x25))]) 4 hm (fun x61 hm => ?_) (fun J62 hm hJ62 => ?_)
      ·refine C.bnx (C.nx (U.start ?_))
       refine U.ps 3 T rfl ?_
       refine U.done (C.nx ?_)
       exact St.wk (C.next hm) (Wk.mk' [some 0, some 1, some 2, some 3] rfl rfl (.eqs rfl) ⟨⟨_, rfl, .box rfl (.eq rfl)⟩, ⟨_, rfl, .box rfl (.eq rfl)⟩, ⟨_, rfl, .val rfl⟩, ⟨_, rfl, .val rfl⟩, trivial⟩ rfl)
      ·refine C.ite rfl hm (fun hb63 hm => ?_) (fun hb63 hm => ?_)
       ·refine U.start ?_
        refine U.ps 4 T rfl ?_
        obtain ⟨x66, hx66, hm⟩ := hm
        refine U.r (o := _) rfl (.none rfl) rfl rfl (by exact Rd.ix T rfl rfl rfl rfl rfl rfl hx66) ?_
        refine U.ps 2 T rfl ?_
        obtain ⟨x67, hx67, hm⟩ := hm
        refine U.r (o := _) rfl (.none rfl) rfl rfl (by exact Rd.io T rfl rfl rfl rfl rfl rfl rfl hx67) ?_
        refine U.e1 (o := _) rfl (.none rfl) (by exact Eff1.se T (z' := s50.2) rfl rfl rfl (idx_some hx67).2.2 rfl rfl rfl rfl rfl rfl rfl rfl (fun _ => rfl) rfl) ?_
        refine U.done ?_
        exact St.wk (hJ62 _ hm) (Wk.mk' [some 0, some 1, some 2, some 3] rfl rfl (.eqs rfl) ⟨⟨_, rfl, .box rfl (.eq rfl)⟩, ⟨_, rfl, .box rfl (.eq rfl)⟩, ⟨_, rfl, .val rfl⟩, ⟨_, rfl, .val rfl⟩, trivial⟩ rfl)
       ·refine C.skip ?_
        exact St.wk (hJ62 _ hm) (Wk.mk' [some 0, some 1, some 2, some 3] rfl rfl (.eqs rfl) ⟨⟨_, rfl, .box rfl (.eq rfl)⟩, ⟨_, rfl, .box rfl (.eq rfl)⟩, ⟨_, rfl, .val rfl⟩, ⟨_, rfl, .val rfl⟩, trivial⟩ rfl)
     ·refine D.beg 9999 [0, 1, 3] [] mix rfl rfl (by kernel_rfl) (by repeat (first | exact NoPanicQ.body | exact NoPanicQ.rnd | refine NoPanicQ.th ?_ | refine NoPanicQ.blk ?_)) (fun hQ hS ws M' => ?_)
      refine D.ps 2 [(0, []), (1, [])] rfl hQ hS T rfl rfl (by kernel_rfl) ?_
      obtain ⟨x57, hx57, hm⟩ := hm
      refine D.q (o := _) 2 [] hQ hS rfl (.none rfl) rfl rfl (by exact Rd.io T rfl rfl rfl rfl rfl rfl rfl hx57) rfl (by kernel_rfl) ?_
      refine D.q (o := _) 3 [] hQ hS rfl (.none rfl) rfl rfl (by exact Rd.le T rfl rfl rfl (idx_some hx57).2.2 rfl rfl rfl) rfl (by kernel_rfl) ?_
      refine D.ps 2 [(4, []), (5, [])] rfl hQ hS T rfl rfl (by kernel_rfl) ?_
      refine hm.cs (fun hb58 hm => ?_) (fun hb58 hm => ?_)
      ·refine D.sq (o := _) 6 [] hQ hS rfl (.skip 5 true 66 _ (ntF hb58) rfl rfl rfl) rfl rfl (by kernel_rfl) ?_
       refine D.sq (o := _) 7 [] hQ hS rfl (.skip 5 true 66 _ (ntF hb58) rfl rfl rfl) rfl rfl (by kernel_rfl) ?_
       refine D.sq (o := _) 8 [] hQ hS rfl (.skip 5 true 66 _ (ntF hb58) rfl rfl rfl) rfl rfl (by kernel_rfl) ?_
       refine D.sq (o := _) 9 [] hQ hS rfl (.skip 5 true 66 _ (ntF hb58) rfl rfl rfl) rfl rfl (by kernel_rfl) ?_
       refine D.sq (o := _) 10 [] hQ hS rfl (.skip 5 true 66 _ (ntF hb58) rfl rfl rfl) rfl rfl (by kernel_rfl) ?_
       refine D.sq (o := _) 11 [] hQ hS rfl (.skip 5 true 66 _ (ntF hb58) rfl rfl rfl) rfl rfl (by kernel_rfl) ?_
       refine D.sq (o := _) 12 [] hQ hS rfl (.skip 5 true 66 _ (ntF hb58) rfl rfl rfl) rfl rfl (by kernel_rfl) ?_
       refine D.sq (o := _) 13 [] hQ hS rfl (.skip 5 true 66 _ (ntF hb58) rfl rfl rfl) rfl rfl (by kernel_rfl) ?_
       refine D.q (o := _) 14 [] hQ hS rfl (.none rfl) rfl rfl (by exact Rd.pk' rfl rfl (ntF hb58) rfl) rfl (by kernel_rfl) ?_
       refine D.done (by kernel_rfl) ?_
       exact St.wk (hJ56 _ hm) (Wk.mk' [some 0, some 1, some 2, some 3] rfl rfl (.eqs rfl) ⟨⟨_, rfl, .box rfl (.eq rfl)⟩, ⟨_, rfl, .box rfl (.eq rfl)⟩, ⟨_, rfl, .val rfl⟩, ⟨_, rfl, .val rfl⟩, trivial⟩ rfl)
      ·refine D.q (o := _) 6 [] hQ hS rfl (.take 5 true 66 _ (ntT hb58) rfl rfl rfl) rfl rfl (by exact Rd.p T rfl) rfl (by kernel_rfl) ?_
       refine D.q (o := _) 7 [] hQ hS rfl (.take 5 true 66 _ (ntT hb58) rfl rfl rfl) rfl rfl (by exact Rd.l T rfl rfl rfl) rfl (by kernel_rfl) ?_
       refine D.q (o := _) 8 [] hQ hS rfl (.take 5 true 66 _ (ntT hb58) rfl rfl rfl) rfl rfl (by exact Rd.p T rfl) rfl (by kernel_rfl) ?_
       refine D.q (o := _) 9 [] hQ hS rfl (.take 5 true 66 _ (ntT hb58) rfl rfl rfl) rfl rfl (by exact Rd.l T rfl rfl rfl) rfl (by kernel_rfl) ?_
       refine D.q (o := _) 10 [] hQ hS rfl (.take 5 true 66 _ (ntT hb58) rfl rfl rfl) rfl rfl (by exact Rd.p T rfl) rfl (by kernel_rfl) ?_
       obtain ⟨x59, hx59, hm⟩ := hm
       refine D.q (o := _) 11 [] hQ hS rfl (.take 5 true 66 _ (ntT hb58) rfl rfl rfl) rfl rfl (by exact Rd.ix T rfl rfl rfl rfl rfl rfl hx59) rfl (by kernel_rfl) ?_
       refine D.q (o := _) 12 [] hQ hS rfl (.take 5 true 66 _ (ntT hb58) rfl rfl rfl) rfl rfl (by exact Rd.l T rfl rfl rfl) rfl (by kernel_rfl) ?_
       refine D.e (o := _) 13 rfl (.take 5 true 66 _ (ntT hb58) rfl rfl rfl) (by exact Eff.c [] (v := true) (T_taquinref07_Is s_1.Floor x59 _ hm) en22 rfl rfl rfl (.eq rfl) trivial rfl rfl rfl rfl rfl rfl (fun _ _ => ⟨(.v _), trivial⟩) (.inr ⟨rfl, rfl⟩) (fun _ => rfl) (fun _ => rfl) rfl) (by kernel_rfl) rfl rfl (fun x60' hm => ?_)
       obtain ⟨x60⟩ := x60'
       refine D.q (o := _) 14 [] hQ hS rfl (.none rfl) rfl rfl (by exact Rd.pk rfl rfl (ntT hb58) rfl) rfl (by kernel_rfl) ?_
       refine D.done (by kernel_rfl) ?_
       exact St.wk (hJ56 _ hm) (Wk.mk' [some 0, some 1, some 2, some 3] rfl rfl (.eqs rfl) ⟨⟨_, rfl, .box rfl (.eq rfl)⟩, ⟨_, rfl, .box rfl (.eq rfl)⟩, ⟨_, rfl, .val rfl⟩, ⟨_, rfl, .val rfl⟩, trivial⟩ rfl)
    ·refine C.exit (C.ex (C.ex (C.bex ?_)))
     exact St.wk (hJ49 _ hm) (Wk.mk' [some 2] rfl rfl (.eqs rfl) ⟨⟨_, rfl, .val rfl⟩, trivial⟩ rfl)
  ·refine C.block ?_
   refine St.wk (C.loop (fun (s27 : List Bool × Int) => [(2, .p 0 0), (3, .p 1 0), (5, .o 2), (7, .o 3), (8, .i s27.2)]) (fun (s27 : List Bool × Int) => [(0, .box (eApiSite s_1)), (1, .box (eApiState st)), (2, .val (.os 1 eI x8)), (3, .val (.os 1 eB s27.1))]) hm (fun s27 Y28 hm => ?_)) (Wk.mk' [some 0, some 1, some 2, some 3] rfl rfl (.eqs rfl) ⟨⟨_, rfl, .box rfl (.eq rfl)⟩, ⟨_, rfl, .box rfl (.eq rfl)⟩, ⟨_, rfl, .val rfl⟩, ⟨_, rfl, .val rfl⟩, trivial⟩ rfl)
   refine C.seq (C.seq (U.start ?_))
   refine U.ps 5 T rfl ?_
   refine U.done (C.nx ?_)
   refine C.ite rfl hm (fun hb31 hm => ?_) (fun hb31 hm => ?_)
   ·refine C.skip (C.nx (C.seq (C.block (C.seq (U.start ?_)))))
    refine U.ps 3 T rfl ?_
    obtain ⟨x34, hx34, hm⟩ := hm
    refine U.r (o := _) rfl (.none rfl) rfl rfl (by exact Rd.ix T rfl rfl rfl rfl rfl rfl hx34) ?_
    refine U.ps 3 T rfl ?_
    refine U.done (C.nx (C.seq ?_))
    refine C.jn (fun (x35 : Bool) => [(2, .p 0 0), (3, .p 1 0), (5, .o 2), (7, .o 3), (8, .i s27.2), (9, .i x34.Load), (49, .b x35)]) (fun (x35 : Bool) => [(0, .box (eApiSite s_1)), (1, .box (eApiState st)), (2, .val (.os 1 eI x8)), (3, .val (.os 1 eB s27.1))]) 4 hm (fun x35 hm => ?_) (fun J36 hm hJ36 => ?_)
    ·refine C.nx ?_
     refine C.jn (fun (x38 : List Bool) => [(2, .p 0 0), (3, .p 1 0), (5, .o 2), (7, .o 3), (8, .i s27.2)]) (fun (x38 : List Bool) => [(0, .box (eApiSite s_1)), (1, .box (eApiState st)), (2, .val (.os 1 eI x8)), (3, .val (.os 1 eB x38))]) 4 hm (fun x38 hm => ?_) (fun J39 hm hJ39 => ?_)
     ·refine C.bnx (C.nx (U.start ?_))
      refine U.ps 3 T rfl ?_
      refine U.done (C.nx ?_)
      exact St.wk (C.next hm) (Wk.mk' [some 0, some 1, some 2, some 3] rfl rfl (.eqs rfl) ⟨⟨_, rfl, .box rfl (.eq rfl)⟩, ⟨_, rfl, .box rfl (.eq rfl)⟩, ⟨_, rfl, .val rfl⟩, ⟨_, rfl, .val rfl⟩, trivial⟩ rfl)
     ·refine C.ite rfl hm (fun hb40 hm => ?_) (fun hb40 hm => ?_)
      ·refine U.start ?_
       refine U.ps 2 T rfl ?_
       obtain ⟨x43, hx43, hm⟩ := hm
       refine U.r (o := _) rfl (.none rfl) rfl rfl (by exact Rd.io T rfl rfl rfl rfl rfl rfl rfl hx43) ?_
       refine U.e1 (o := _) rfl (.none rfl) (by exact Eff1.se T (z' := true) rfl rfl rfl (idx_some hx43).2.2 rfl rfl rfl rfl rfl rfl rfl rfl (fun _ => rfl) rfl) ?_
       refine U.done ?_
       exact St.wk (hJ39 _ hm) (Wk.mk' [some 0, some 1, some 2, some 3] rfl rfl (.eqs rfl) ⟨⟨_, rfl, .box rfl (.eq rfl)⟩, ⟨_, rfl, .box rfl (.eq rfl)⟩, ⟨_, rfl, .val rfl⟩, ⟨_, rfl, .val rfl⟩, trivial⟩ rfl)
      ·refine C.skip ?_
       exact St.wk (hJ39 _ hm) (Wk.mk' [some 0, some 1, some 2, some 3] rfl rfl (.eqs rfl) ⟨⟨_, rfl, .box rfl (.eq rfl)⟩, ⟨_, rfl, .box rfl (.eq rfl)⟩, ⟨_, rfl, .val rfl⟩, ⟨_, rfl, .val rfl⟩, trivial⟩ rfl)
    ·refine U.start ?_
     refine U.ps 3 T rfl ?_
     refine hm.cs (fun hb37 hm => ?_) (fun hb37 hm => ?_)
     ·refine U.pg 4 2 true 44 hb37 T rfl rfl rfl rfl ?_
      refine U.r (o := _) rfl (.none rfl) rfl rfl (by exact Rd.pk rfl rfl hb37 rfl) ?_
      refine U.done ?_
      exact St.wk (hJ36 _ hm) (Wk.mk' [some 0, some 1, some 2, some 3] rfl rfl (.eqs rfl) ⟨⟨_, rfl, .box rfl (.eq rfl)⟩, ⟨_, rfl, .box rfl (.eq rfl)⟩, ⟨_, rfl, .val rfl⟩, ⟨_, rfl, .val rfl⟩, trivial⟩ rfl)
     ·refine U.sks 4 2 true 44 hb37 rfl rfl rfl ?_
      refine U.r (o := _) rfl (.none rfl) rfl rfl (by exact Rd.pk' rfl rfl hb37 rfl) ?_
      refine U.done ?_
      exact St.wk (hJ36 _ hm) (Wk.mk' [some 0, some 1, some 2, some 3] rfl rfl (.eqs rfl) ⟨⟨_, rfl, .box rfl (.eq rfl)⟩, ⟨_, rfl, .box rfl (.eq rfl)⟩, ⟨_, rfl, .val rfl⟩, ⟨_, rfl, .val rfl⟩, trivial⟩ rfl)
   ·refine C.exit (C.ex (C.ex (C.bex ?_)))
    exact St.wk (hJ26 _ hm) (Wk.mk' [some 0, some 1, some 2, some 3] rfl rfl (.eqs rfl) ⟨⟨_, rfl, .box rfl (.eq rfl)⟩, ⟨_, rfl, .box rfl (.eq rfl)⟩, ⟨_, rfl, .val rfl⟩, ⟨_, rfl, .val rfl⟩, trivial⟩ rfl)
 ·refine C.block ?_
  refine St.wk (C.loop (fun (s10 : List Int × Int) => [(2, .p 0 0), (3, .p 1 0), (5, .o 2), (6, .i s10.2)]) (fun (s10 : List Int × Int) => [(0, .box (eApiSite s_1)), (1, .box (eApiState st)), (2, .val (.os 1 eI s10.1))]) hm (fun s10 Y11 hm => ?_)) (Wk.mk' [some 0, some 1, some 2] rfl rfl (.eqs rfl) ⟨⟨_, rfl, .box rfl (.eq rfl)⟩, ⟨_, rfl, .box rfl (.eq rfl)⟩, ⟨_, rfl, .val rfl⟩, trivial⟩ rfl)
  refine C.seq (C.seq (U.start ?_))
  refine U.ps 4 T rfl ?_
  refine U.done (C.nx ?_)
  refine C.ite rfl hm (fun hb14 hm => ?_) (fun hb14 hm => ?_)
  ·refine C.skip (C.nx (C.seq (C.block (U.start ?_))))
   refine U.ps 2 T rfl ?_
   obtain ⟨x17, hx17, hm⟩ := hm
   refine U.r (o := _) rfl (.none rfl) rfl rfl (by exact Rd.io T rfl rfl rfl rfl rfl rfl rfl hx17) ?_
   refine U.e1 (o := _) rfl (.none rfl) (by exact Eff1.se T (z' := (-1)) rfl rfl rfl (idx_some hx17).2.2 rfl rfl rfl rfl rfl rfl rfl rfl (fun _ => rfl) rfl) ?_
   refine U.done (C.bnx (C.nx (U.start ?_)))
   refine U.ps 3 T rfl ?_
   refine U.done (C.nx ?_)
   exact St.wk (C.next hm) (Wk.mk' [some 0, some 1, some 2] rfl rfl (.eqs rfl) ⟨⟨_, rfl, .box rfl (.eq rfl)⟩, ⟨_, rfl, .box rfl (.eq rfl)⟩, ⟨_, rfl, .val rfl⟩, trivial⟩ rfl)
  ·refine C.exit (C.ex (C.ex (C.bex ?_)))
   exact St.wk (hJ9 _ hm) (Wk.mk' [some 0, some 1, some 2] rfl rfl (.eqs rfl) ⟨⟨_, rfl, .box rfl (.eq rfl)⟩, ⟨_, rfl, .box rfl (.eq rfl)⟩, ⟨_, rfl, .val rfl⟩, trivial⟩ rfl)
theorem T_taquinref12_At (s_1 : ApiSite) (st : ApiState) (c : Int) (post : Int → Prop) (hm : V_taquinref12_At s_1 st c post) :
    Tr Try.prog 36 [.agg (eApiSite s_1), .agg (eApiState st), .i c] [] 0 (fun A H' k => ∃ y, post y ∧ A = (.i y) ∧ H' = [] ∧ k = 0) := by
 refine Tr.intro (n := 18) Try.func36 rfl Try.ntmps36 rfl (fun w0 ok F β hβ => ?_)
 unfold V_taquinref12_At at hm
 refine C.seq (U.start ?_)
 refine U.e1 (o := _) rfl (.none rfl) (by exact Eff1.box rfl rfl rfl rfl rfl) ?_
 refine U.e1 (o := _) rfl (.none rfl) (by exact Eff1.box rfl rfl rfl rfl rfl) ?_
 refine U.ps 1 T rfl ?_
 refine U.done (C.nx (C.seq (C.seq (U.start ?_))))
 refine U.ps 3 T rfl ?_
 refine U.e (o := _) rfl (.none rfl) (by exact Eff.c [] (v := true) (T_taquinref07_Is s_1.Floor c _ hm) en22 rfl rfl rfl (.eq rfl) trivial rfl rfl rfl rfl rfl rfl (fun _ _ => ⟨(.v _), trivial⟩) (.inr ⟨rfl, rfl⟩) (fun _ => rfl) (fun _ => rfl) rfl) (fun x5' hm => ?_)
 obtain ⟨x5⟩ := x5'
 refine U.ps 1 T rfl ?_
 refine U.done (C.nx ?_)
 refine C.ite rfl hm (fun hb6 hm => ?_) (fun hb6 hm => ?_)
 ·refine C.seq (U.start ?_)
  refine U.ps 1 T rfl ?_
  refine U.done (C.nx (C.ret (C.rt ?_)))
  exact C.fin T (rs' := [.i (-1)]) (H' := []) (nl' := 0) [] rfl rfl (.eq rfl) trivial rfl rfl rfl rfl hβ ⟨(-1), hm, rfl, rfl, rfl⟩
 ·refine C.skip (C.nx (C.seq (U.start ?_)))
  refine U.ps 2 T rfl ?_
  refine U.e (o := _) rfl (.none rfl) (by exact Eff.c [] (v := true) (T_taquinref12_Standing s_1 st _ hm) en59 rfl rfl rfl (.eq rfl) trivial rfl rfl rfl rfl rfl rfl (fun _ _ => ⟨(.o _), ⟨.val (.os _ _ _ fun _ => (.cons (.v _) .nil)), trivial⟩⟩) (.inr ⟨rfl, rfl⟩) (fun _ => rfl) (fun _ => rfl) rfl) (fun x11' hm => ?_)
  obtain ⟨x11⟩ := x11'
  refine U.ps 1 T rfl ?_
  obtain ⟨x12, hx12, hm⟩ := hm
  refine U.r (o := _) rfl (.none rfl) rfl rfl (by exact Rd.io T rfl rfl rfl rfl rfl rfl rfl hx12) ?_
  refine U.r (o := _) rfl (.none rfl) rfl rfl (by exact Rd.le T rfl rfl rfl (idx_some hx12).2.2 rfl rfl rfl) ?_
  refine U.ps 1 T rfl ?_
  refine U.done (C.nx (C.ret ?_))
  exact C.fin T (rs' := [.i x12]) (H' := []) (nl' := 0) [] rfl rfl (.eq rfl) trivial rfl rfl rfl rfl hβ ⟨x12, hm, rfl, rfl, rfl⟩
theorem T_taquinref12_Room (s_1 : ApiSite) (st : ApiState) (zone : Int) (post : Int → Prop) (hm : V_taquinref12_Room s_1 st zone post) :
    Tr Try.prog 37 [.agg (eApiSite s_1), .agg (eApiState st), .i zone] [] 0 (fun A H' k => ∃ y, post y ∧ A = (.i y) ∧ H' = [] ∧ k = 0) := by
 refine Tr.intro (n := 63) Try.func37 rfl Try.ntmps37 rfl (fun w0 ok F β hβ => ?_)
 unfold V_taquinref12_Room at hm
 refine C.seq (U.start ?_)
 refine U.e1 (o := _) rfl (.none rfl) (by exact Eff1.box rfl rfl rfl rfl rfl) ?_
 refine U.e1 (o := _) rfl (.none rfl) (by exact Eff1.box rfl rfl rfl rfl rfl) ?_
 refine U.ps 1 T rfl ?_
 refine U.done (C.nx (C.seq (C.seq ?_)))
 refine C.jn (fun (x3 : Bool) => [(2, .i zone), (3, .p 0 0), (4, .p 1 0), (19, .b x3)]) (fun (x3 : Bool) => [(0, .box (eApiSite s_1)), (1, .box (eApiState st))]) 2 hm (fun x3 hm => ?_) (fun J4 hm hJ4 => ?_)
 ·refine C.nx ?_
  refine C.ite rfl hm (fun hb6 hm => ?_) (fun hb6 hm => ?_)
  ·refine C.seq (U.start ?_)
   refine U.ps 1 T rfl ?_
   refine U.done (C.nx (C.ret (C.rt ?_)))
   exact C.fin T (rs' := [.i 0]) (H' := []) (nl' := 0) [] rfl rfl (.eq rfl) trivial rfl rfl rfl rfl hβ ⟨0, hm, rfl, rfl, rfl⟩
  ·refine C.skip (C.nx (C.seq (U.start ?_)))
   refine U.ps 2 T rfl ?_
   refine U.e (o := _) rfl (.none rfl) (by exact Eff.c [] (v := true) (T_taquinref12_Standing s_1 st _ hm) en59 rfl rfl rfl (.eq rfl) trivial rfl rfl rfl rfl rfl rfl (fun _ _ => ⟨(.o _), ⟨.val (.os _ _ _ fun _ => (.cons (.v _) .nil)), trivial⟩⟩) (.inr ⟨rfl, rfl⟩) (fun _ => rfl) (fun _ => rfl) rfl) (fun x11' hm => ?_)
   obtain ⟨x11⟩ := x11'
   refine U.ps 1 T rfl ?_
   refine U.done (C.nx (C.seq (U.start ?_)))
   refine U.ps 3 T rfl ?_
   obtain ⟨x14, hx14, hm⟩ := hm
   refine U.r (o := _) rfl (.none rfl) rfl rfl (by exact Rd.ix T rfl rfl rfl rfl rfl rfl hx14) ?_
   refine U.ps 4 T rfl ?_
   refine U.done (C.nx (C.seq (C.seq (U.start ?_))))
   refine U.ps 1 T rfl ?_
   refine U.done (C.nx ?_)
   refine C.jn (fun (x17 : Int) => [(8, .i x17)]) (fun (x17 : Int) => []) 0 hm (fun x17 hm => ?_) (fun J18 hm hJ18 => ?_)
   ·refine C.nx (C.seq (U.start ?_))
    refine U.ps 2 T rfl ?_
    refine U.done (C.nx (C.ret ?_))
    exact C.fin T (rs' := [.i x17]) (H' := []) (nl' := 0) [] rfl rfl (.eq rfl) trivial rfl rfl rfl rfl hβ ⟨x17, hm, rfl, rfl, rfl⟩
   ·refine C.block ?_
    refine St.wk (C.loop (fun (s19 : Int × Int) => [(2, .i zone), (3, .p 0 0), (7, .o 1), (8, .i s19.1), (9, .i s19.2)]) (fun (s19 : Int × Int) => [(0, .box (eApiSite s_1)), (1, .val (.os 1 eI x11))]) hm (fun s19 Y20 hm => ?_)) (Wk.mk' [some 0, some 2] rfl rfl (.eqs rfl) ⟨⟨_, rfl, .box rfl (.eq rfl)⟩, ⟨_, rfl, .val rfl⟩, trivial⟩ rfl)
    refine C.seq (C.seq (U.start ?_))
    refine U.ps 4 T rfl ?_
    obtain ⟨x23, hx23, hm⟩ := hm
    refine U.r (o := _) rfl (.none rfl) rfl rfl (by exact Rd.ix T rfl rfl rfl rfl rfl rfl hx23) ?_
    refine U.ps 4 T rfl ?_
    refine U.done (C.nx ?_)
    refine C.ite rfl hm (fun hb24 hm => ?_) (fun hb24 hm => ?_)
    ·refine C.skip (C.nx (C.seq (C.block (C.seq (U.start ?_)))))
     refine U.ps 3 T rfl ?_
     refine U.r (o := _) rfl (.none rfl) rfl rfl (by exact Rd.ix T rfl rfl rfl rfl rfl rfl hx23) ?_
     refine U.ps 3 T rfl ?_
     obtain ⟨x27, hx27, hm⟩ := hm
     refine U.r (o := _) rfl (.none rfl) rfl rfl (by exact Rd.ix T rfl rfl rfl rfl rfl rfl hx27) ?_
     refine U.ps 2 T rfl ?_
     refine U.done (C.nx (C.seq ?_))
     refine C.jn (fun (x28 : Bool) => [(2, .i zone), (3, .p 0 0), (7, .o 1), (8, .i s19.1), (9, .i s19.2), (59, .b x28)]) (fun (x28 : Bool) => [(0, .box (eApiSite s_1)), (1, .val (.os 1 eI x11))]) 2 hm (fun x28 hm => ?_) (fun J29 hm hJ29 => ?_)
     ·refine C.nx ?_
      refine C.jn (fun (x33 : Int) => [(2, .i zone), (3, .p 0 0), (7, .o 1), (8, .i x33), (9, .i s19.2)]) (fun (x33 : Int) => [(0, .box (eApiSite s_1)), (1, .val (.os 1 eI x11))]) 2 hm (fun x33 hm => ?_) (fun J34 hm hJ34 => ?_)
      ·refine C.bnx (C.nx (U.start ?_))
       refine U.ps 3 T rfl ?_
       refine U.done (C.nx ?_)
       exact St.wk (C.next hm) (Wk.mk' [some 0, some 1] rfl rfl (.eqs rfl) ⟨⟨_, rfl, .box rfl (.eq rfl)⟩, ⟨_, rfl, .val rfl⟩, trivial⟩ rfl)
      ·refine C.ite rfl hm (fun hb35 hm => ?_) (fun hb35 hm => ?_)
       ·refine U.start ?_
        refine U.ps 3 T rfl ?_
        refine U.done ?_
        exact St.wk (hJ34 _ hm) (Wk.mk' [some 0, some 1] rfl rfl (.eqs rfl) ⟨⟨_, rfl, .box rfl (.eq rfl)⟩, ⟨_, rfl, .val rfl⟩, trivial⟩ rfl)
       ·refine C.skip ?_
        exact St.wk (hJ34 _ hm) (Wk.mk' [some 0, some 1] rfl rfl (.eqs rfl) ⟨⟨_, rfl, .box rfl (.eq rfl)⟩, ⟨_, rfl, .val rfl⟩, trivial⟩ rfl)
     ·refine U.start ?_
      refine U.ps 2 T rfl ?_
      refine U.e (o := _) rfl (.none rfl) (by exact Eff.c [] (v := true) (T_taquinref12_Stands s_1 x27 _ hm) en30 rfl rfl rfl (.eq rfl) trivial rfl rfl rfl rfl rfl rfl (fun _ _ => ⟨(.v _), trivial⟩) (.inr ⟨rfl, rfl⟩) (fun _ => rfl) (fun _ => rfl) rfl) (fun x30' hm => ?_)
      obtain ⟨x30⟩ := x30'
      refine U.ps 1 T rfl ?_
      refine hm.cs (fun hb31 hm => ?_) (fun hb31 hm => ?_)
      ·refine U.pg 2 3 true 53 hb31 T rfl rfl rfl rfl ?_
       obtain ⟨x32, hx32, hm⟩ := hm
       refine U.r (o := _) rfl (.take 3 true 53 _ hb31 rfl rfl rfl) rfl rfl (by exact Rd.io T rfl rfl rfl rfl rfl rfl rfl hx32) ?_
       refine U.r (o := _) rfl (.take 3 true 53 _ hb31 rfl rfl rfl) rfl rfl (by exact Rd.le T rfl rfl rfl (idx_some hx32).2.2 rfl rfl rfl) ?_
       refine U.pg 1 3 true 53 hb31 T rfl rfl rfl rfl ?_
       refine U.r (o := _) rfl (.none rfl) rfl rfl (by exact Rd.pk rfl rfl hb31 rfl) ?_
       refine U.done ?_
       exact St.wk (hJ29 _ hm) (Wk.mk' [some 0, some 1] rfl rfl (.eqs rfl) ⟨⟨_, rfl, .box rfl (.eq rfl)⟩, ⟨_, rfl, .val rfl⟩, trivial⟩ rfl)
      ·refine U.sks 5 3 true 53 hb31 rfl rfl rfl ?_
       refine U.r (o := _) rfl (.none rfl) rfl rfl (by exact Rd.pk' rfl rfl hb31 rfl) ?_
       refine U.done ?_
       exact St.wk (hJ29 _ hm) (Wk.mk' [some 0, some 1] rfl rfl (.eqs rfl) ⟨⟨_, rfl, .box rfl (.eq rfl)⟩, ⟨_, rfl, .val rfl⟩, trivial⟩ rfl)
    ·refine C.exit (C.ex (C.ex (C.bex ?_)))
     exact St.wk (hJ18 _ hm) (Wk.mk' [] rfl rfl (.eqs rfl) trivial rfl)
 ·refine U.start ?_
  refine U.ps 3 T rfl ?_
  refine hm.cs (fun hb5 hm => ?_) (fun hb5 hm => ?_)
  ·refine U.sks 5 2 false 13 hb5 rfl rfl rfl ?_
   refine U.r (o := _) rfl (.none rfl) rfl rfl (by exact Rd.pk rfl rfl hb5 rfl) ?_
   refine U.done ?_
   exact St.wk (hJ4 _ hm) (Wk.mk' [some 0, some 1] rfl rfl (.eqs rfl) ⟨⟨_, rfl, .box rfl (.eq rfl)⟩, ⟨_, rfl, .box rfl (.eq rfl)⟩, trivial⟩ rfl)
  ·refine U.pg 5 2 false 13 hb5 T rfl rfl rfl rfl ?_
   refine U.r (o := _) rfl (.none rfl) rfl rfl (by exact Rd.pk' rfl rfl hb5 rfl) ?_
   refine U.done ?_
   exact St.wk (hJ4 _ hm) (Wk.mk' [some 0, some 1] rfl rfl (.eqs rfl) ⟨⟨_, rfl, .box rfl (.eq rfl)⟩, ⟨_, rfl, .box rfl (.eq rfl)⟩, trivial⟩ rfl)
theorem T_rules_Keeps (s_1 : ApiSite) (st : ApiState) (post : Int → Prop) (hm : V_rules_Keeps s_1 st post) :
    Tr Try.prog 26 [.agg (eApiSite s_1), .agg (eApiState st)] [] 0 (fun A H' k => ∃ y, post y ∧ A = (.i y) ∧ H' = [] ∧ k = 0) := by
 refine Tr.intro (n := 19) Try.func26 rfl Try.ntmps26 rfl (fun w0 ok F β hβ => ?_)
 unfold V_rules_Keeps at hm
 refine C.seq (U.start ?_)
 refine U.e1 (o := _) rfl (.none rfl) (by exact Eff1.box rfl rfl rfl rfl rfl) ?_
 refine U.e1 (o := _) rfl (.none rfl) (by exact Eff1.box rfl rfl rfl rfl rfl) ?_
 refine U.ps 1 T rfl ?_
 refine U.done (C.nx (C.seq (C.seq (U.start ?_))))
 refine U.ps 4 T rfl ?_
 refine U.done (C.nx ?_)
 refine C.jn (fun (x5 : Unit) => []) (fun (x5 : Unit) => []) 0 hm (fun x5 hm => ?_) (fun J6 hm hJ6 => ?_)
 ·refine C.nx (C.seq (U.start ?_))
  refine U.ps 1 T rfl ?_
  refine U.done (C.nx (C.ret ?_))
  exact C.fin T (rs' := [.i (-1)]) (H' := []) (nl' := 0) [] rfl rfl (.eq rfl) trivial rfl rfl rfl rfl hβ ⟨(-1), hm, rfl, rfl, rfl⟩
 ·refine C.block ?_
  refine St.wk (C.loop (fun (s7 : Int) => [(2, .p 0 0), (3, .p 1 0), (8, .i (s_1.Zones.length : Int)), (9, .i s7)]) (fun (s7 : Int) => [(0, .box (eApiSite s_1)), (1, .box (eApiState st))]) hm (fun s7 Y8 hm => ?_)) (Wk.mk' [some 0, some 1] rfl rfl (.eqs rfl) ⟨⟨_, rfl, .box rfl (.eq rfl)⟩, ⟨_, rfl, .box rfl (.eq rfl)⟩, trivial⟩ rfl)
  refine C.seq (U.start ?_)
  refine U.ps 1 T rfl ?_
  refine U.done (C.nx (C.seq ?_))
  refine C.ite rfl hm (fun hb11 hm => ?_) (fun hb11 hm => ?_)
  ·refine C.skip (C.nx (C.seq (C.block (C.seq (U.start ?_)))))
   refine U.ps 2 T rfl ?_
   refine U.done (C.nx (C.seq (U.start ?_)))
   refine U.ps 3 T rfl ?_
   refine U.e (o := _) rfl (.none rfl) (by exact Eff.c [] (v := true) (T_rules_Room s_1 st s7 _ hm) en19 rfl rfl rfl (.eq rfl) trivial rfl rfl rfl rfl rfl rfl (fun _ _ => ⟨(.v _), trivial⟩) (.inr ⟨rfl, rfl⟩) (fun _ => rfl) (fun _ => rfl) rfl) (fun x16' hm => ?_)
   obtain ⟨x16⟩ := x16'
   refine U.ps 1 T rfl ?_
   refine U.done (C.nx ?_)
   refine C.ite rfl hm (fun hb17 hm => ?_) (fun hb17 hm => ?_)
   ·refine C.seq (U.start ?_)
    refine U.ps 2 T rfl ?_
    refine U.done (C.nx (C.ret (C.brt (C.rt (C.rt (C.brt (C.rt ?_)))))))
    exact C.fin T (rs' := [.i s7]) (H' := []) (nl' := 0) [] rfl rfl (.eq rfl) trivial rfl rfl rfl rfl hβ ⟨s7, hm, rfl, rfl, rfl⟩
   ·refine C.skip (C.bnx (C.nx (U.start ?_)))
    refine U.ps 2 T rfl ?_
    refine U.done (C.nx ?_)
    exact St.wk (C.next hm) (Wk.mk' [some 0, some 1] rfl rfl (.eqs rfl) ⟨⟨_, rfl, .box rfl (.eq rfl)⟩, ⟨_, rfl, .box rfl (.eq rfl)⟩, trivial⟩ rfl)
  ·refine C.exit (C.ex (C.ex (C.bex ?_)))
   exact St.wk (hJ6 _ hm) (Wk.mk' [] rfl rfl trivial trivial rfl)
theorem T_taquinref12_Keeps (s_1 : ApiSite) (st : ApiState) (post : Int → Prop) (hm : V_taquinref12_Keeps s_1 st post) :
    Tr Try.prog 38 [.agg (eApiSite s_1), .agg (eApiState st)] [] 0 (fun A H' k => ∃ y, post y ∧ A = (.i y) ∧ H' = [] ∧ k = 0) := by
 refine Tr.intro (n := 19) Try.func38 rfl Try.ntmps38 rfl (fun w0 ok F β hβ => ?_)
 unfold V_taquinref12_Keeps at hm
 refine C.seq (U.start ?_)
 refine U.e1 (o := _) rfl (.none rfl) (by exact Eff1.box rfl rfl rfl rfl rfl) ?_
 refine U.e1 (o := _) rfl (.none rfl) (by exact Eff1.box rfl rfl rfl rfl rfl) ?_
 refine U.ps 1 T rfl ?_
 refine U.done (C.nx (C.seq (C.seq (U.start ?_))))
 refine U.ps 1 T rfl ?_
 refine U.done (C.nx ?_)
 refine C.jn (fun (x5 : Unit) => []) (fun (x5 : Unit) => []) 0 hm (fun x5 hm => ?_) (fun J6 hm hJ6 => ?_)
 ·refine C.nx (C.seq (U.start ?_))
  refine U.ps 1 T rfl ?_
  refine U.done (C.nx (C.ret ?_))
  exact C.fin T (rs' := [.i (-1)]) (H' := []) (nl' := 0) [] rfl rfl (.eq rfl) trivial rfl rfl rfl rfl hβ ⟨(-1), hm, rfl, rfl, rfl⟩
 ·refine C.block ?_
  refine St.wk (C.loop (fun (s7 : Int) => [(2, .p 0 0), (3, .p 1 0), (5, .i s7)]) (fun (s7 : Int) => [(0, .box (eApiSite s_1)), (1, .box (eApiState st))]) hm (fun s7 Y8 hm => ?_)) (Wk.mk' [some 0, some 1] rfl rfl (.eqs rfl) ⟨⟨_, rfl, .box rfl (.eq rfl)⟩, ⟨_, rfl, .box rfl (.eq rfl)⟩, trivial⟩ rfl)
  refine C.seq (C.seq (U.start ?_))
  refine U.ps 5 T rfl ?_
  refine U.done (C.nx ?_)
  refine C.ite rfl hm (fun hb11 hm => ?_) (fun hb11 hm => ?_)
  ·refine C.skip (C.nx (C.seq (C.block (C.seq (U.start ?_)))))
   refine U.ps 3 T rfl ?_
   refine U.e (o := _) rfl (.none rfl) (by exact Eff.c [] (v := true) (T_taquinref12_Room s_1 st s7 _ hm) en37 rfl rfl rfl (.eq rfl) trivial rfl rfl rfl rfl rfl rfl (fun _ _ => ⟨(.v _), trivial⟩) (.inr ⟨rfl, rfl⟩) (fun _ => rfl) (fun _ => rfl) rfl) (fun x14' hm => ?_)
   obtain ⟨x14⟩ := x14'
   refine U.ps 1 T rfl ?_
   refine U.done (C.nx ?_)
   refine C.ite rfl hm (fun hb15 hm => ?_) (fun hb15 hm => ?_)
   ·refine C.seq (U.start ?_)
    refine U.ps 2 T rfl ?_
    refine U.done (C.nx (C.ret (C.brt (C.rt (C.rt (C.brt (C.rt ?_)))))))
    exact C.fin T (rs' := [.i s7]) (H' := []) (nl' := 0) [] rfl rfl (.eq rfl) trivial rfl rfl rfl rfl hβ ⟨s7, hm, rfl, rfl, rfl⟩
   ·refine C.skip (C.bnx (C.nx (U.start ?_)))
    refine U.ps 3 T rfl ?_
    refine U.done (C.nx ?_)
    exact St.wk (C.next hm) (Wk.mk' [some 0, some 1] rfl rfl (.eqs rfl) ⟨⟨_, rfl, .box rfl (.eq rfl)⟩, ⟨_, rfl, .box rfl (.eq rfl)⟩, trivial⟩ rfl)
  ·refine C.exit (C.ex (C.ex (C.bex ?_)))
   exact St.wk (hJ6 _ hm) (Wk.mk' [] rfl rfl trivial trivial rfl)
theorem T_taquinref07_At (f : ApiFloor) (c : Int) (post : (Int × Int × Int) → Prop) (hm : V_taquinref07_At f c post) :
    Tr Try.prog 78 [.agg (eApiFloor f), .i c] [] 0 (fun A H' k => ∃ y, post y ∧ A = (.tup [.i y.1, .i y.2.1, .i y.2.2]) ∧ H' = [] ∧ k = 0) := by
 refine Tr.intro (n := 29) Try.func78 rfl Try.ntmps78 rfl (fun w0 ok F β hβ => ?_)
 unfold V_taquinref07_At at hm
 refine C.seq (U.start ?_)
 refine U.e1 (o := _) rfl (.none rfl) (by exact Eff1.box rfl rfl rfl rfl rfl) ?_
 refine U.ps 3 T rfl ?_
 refine U.done (C.nx (C.seq (C.seq (U.start ?_))))
 refine U.ps 2 T rfl ?_
 refine U.e (o := _) rfl (.none rfl) (by exact Eff.c [] (v := true) (T_taquinref07_Is f c _ hm) en22 rfl rfl rfl (.eq rfl) trivial rfl rfl rfl rfl rfl rfl (fun _ _ => ⟨(.v _), trivial⟩) (.inr ⟨rfl, rfl⟩) (fun _ => rfl) (fun _ => rfl) rfl) (fun x5' hm => ?_)
 obtain ⟨x5⟩ := x5'
 refine U.ps 1 T rfl ?_
 refine U.done (C.nx ?_)
 refine C.ite rfl hm (fun hb6 hm => ?_) (fun hb6 hm => ?_)
 ·refine C.seq (U.start ?_)
  refine U.ps 3 T rfl ?_
  refine U.done (C.nx (C.ret (C.rt ?_)))
  exact C.fin T (rs' := [.i ((0, 0, 0).1), .i ((0, 0, 0).2.1), .i ((0, 0, 0).2.2)]) (H' := []) (nl' := 0) [] rfl rfl (.eq rfl) trivial rfl rfl rfl rfl hβ ⟨(0, 0, 0), hm, rfl, rfl, rfl⟩
 ·refine C.skip (C.nx (C.seq ?_))
  refine D.beg 9999 [0] [] mix rfl rfl (by kernel_rfl) (by repeat (first | exact NoPanicQ.body | exact NoPanicQ.rnd | refine NoPanicQ.th ?_ | refine NoPanicQ.blk ?_)) (fun hQ hS ws M' => ?_)
  refine D.ps 3 [(0, []), (1, []), (2, [])] rfl hQ hS T rfl rfl (by kernel_rfl) ?_
  obtain ⟨hx11, hm⟩ := hm
  refine D.q (o := _) 3 [] hQ hS rfl (.none rfl) rfl rfl (by exact Rd.rm rfl rfl rfl rfl hx11) rfl (by kernel_rfl) ?_
  refine D.ps 3 [(4, []), (5, []), (6, [])] rfl hQ hS T rfl rfl (by kernel_rfl) ?_
  obtain ⟨hx12, hm⟩ := hm
  refine D.q (o := _) 7 [] hQ hS rfl (.none rfl) rfl rfl (by exact Rd.dv rfl rfl rfl rfl hx12) rfl (by kernel_rfl) ?_
  refine D.ps 2 [(8, []), (9, [])] rfl hQ hS T rfl rfl (by kernel_rfl) ?_
  obtain ⟨hx13, hm⟩ := hm
  refine D.q (o := _) 10 [] hQ hS rfl (.none rfl) rfl rfl (by exact Rd.rm rfl rfl rfl rfl hx13) rfl (by kernel_rfl) ?_
  refine D.ps 3 [(11, []), (12, []), (13, [])] rfl hQ hS T rfl rfl (by kernel_rfl) ?_
  obtain ⟨hx14, hm⟩ := hm
  refine D.q (o := _) 14 [] hQ hS rfl (.none rfl) rfl rfl (by exact Rd.dv rfl rfl rfl rfl hx14) rfl (by kernel_rfl) ?_
  refine D.ps 2 [(15, []), (16, [])] rfl hQ hS T rfl rfl (by kernel_rfl) ?_
  obtain ⟨hx15, hm⟩ := hm
  refine D.q (o := _) 17 [] hQ hS rfl (.none rfl) rfl rfl (by exact Rd.dv rfl rfl rfl rfl hx15) rfl (by kernel_rfl) ?_
  refine D.ps 3 [(18, []), (19, []), (20, [])] rfl hQ hS T rfl rfl (by kernel_rfl) ?_
  refine D.done (by kernel_rfl) ?_
  refine C.nx (C.ret ?_)
  exact C.fin T (rs' := [.i ((c.tmod f.W, (w64 (c.tdiv f.W)).tmod f.H, w64 ((w64 (c.tdiv f.W)).tdiv f.H)).1), .i ((c.tmod f.W, (w64 (c.tdiv f.W)).tmod f.H, w64 ((w64 (c.tdiv f.W)).tdiv f.H)).2.1), .i ((c.tmod f.W, (w64 (c.tdiv f.W)).tmod f.H, w64 ((w64 (c.tdiv f.W)).tdiv f.H)).2.2)]) (H' := []) (nl' := 0) [] rfl rfl (.eq rfl) trivial rfl rfl rfl rfl hβ ⟨(c.tmod f.W, (w64 (c.tdiv f.W)).tmod f.H, w64 ((w64 (c.tdiv f.W)).tdiv f.H)), hm, rfl, rfl, rfl⟩
theorem T_taquinref07_Cell (f : ApiFloor) (x_1 : Int) (y_1 : Int) (z : Int) (post : Int → Prop) (hm : V_taquinref07_Cell f x_1 y_1 z post) :
    Tr Try.prog 79 [.agg (eApiFloor f), .i x_1, .i y_1, .i z] [] 0 (fun A H' k => ∃ y, post y ∧ A = (.i y) ∧ H' = [] ∧ k = 0) := by
 refine Tr.intro (n := 48) Try.func79 rfl Try.ntmps79 rfl (fun w0 ok F β hβ => ?_)
 unfold V_taquinref07_Cell at hm
 refine C.seq (U.start ?_)
 refine U.e1 (o := _) rfl (.none rfl) (by exact Eff1.box rfl rfl rfl rfl rfl) ?_
 refine U.ps 1 T rfl ?_
 refine U.done (C.nx (C.seq (C.seq ?_)))
 refine C.jn (fun (x3 : Bool) => [(1, .i x_1), (2, .i y_1), (3, .i z), (4, .p 0 0), (36, .b x3)]) (fun (x3 : Bool) => [(0, .box (eApiFloor f))]) 1 hm (fun x3 hm => ?_) (fun J4 hm hJ4 => ?_)
 ·refine C.nx ?_
  refine C.ite rfl hm (fun hb10 hm => ?_) (fun hb10 hm => ?_)
  ·refine C.seq (U.start ?_)
   refine U.ps 1 T rfl ?_
   refine U.done (C.nx (C.ret (C.rt ?_)))
   exact C.fin T (rs' := [.i (-1)]) (H' := []) (nl' := 0) [] rfl rfl (.eq rfl) trivial rfl rfl rfl rfl hβ ⟨(-1), hm, rfl, rfl, rfl⟩
  ·refine C.skip (C.nx (C.seq (U.start ?_)))
   refine U.ps 12 T rfl ?_
   refine U.done (C.nx (C.ret ?_))
   exact C.fin T (rs' := [.i (w64 ((w64 ((w64 ((w64 (z * f.H)) + y_1)) * f.W)) + x_1))]) (H' := []) (nl' := 0) [] rfl rfl (.eq rfl) trivial rfl rfl rfl rfl hβ ⟨w64 ((w64 ((w64 ((w64 (z * f.H)) + y_1)) * f.W)) + x_1), hm, rfl, rfl, rfl⟩
 ·refine U.start ?_
  refine U.ps 3 T rfl ?_
  refine hm.cs (fun hb5 hm => ?_) (fun hb5 hm => ?_)
  ·refine U.sks 4 2 false 11 hb5 rfl rfl rfl ?_
   refine U.r (o := _) rfl (.none rfl) rfl rfl (by exact Rd.pk rfl rfl hb5 rfl) ?_
   refine U.ps 1 T rfl ?_
   refine U.sks 2 8 false 17 rfl rfl rfl rfl ?_
   refine U.r (o := _) rfl (.none rfl) rfl rfl (by exact Rd.pk rfl rfl rfl rfl) ?_
   refine U.ps 1 T rfl ?_
   refine U.sks 4 12 false 21 rfl rfl rfl rfl ?_
   refine U.r (o := _) rfl (.none rfl) rfl rfl (by exact Rd.pk rfl rfl rfl rfl) ?_
   refine U.ps 1 T rfl ?_
   refine U.sks 2 18 false 27 rfl rfl rfl rfl ?_
   refine U.r (o := _) rfl (.none rfl) rfl rfl (by exact Rd.pk rfl rfl rfl rfl) ?_
   refine U.ps 1 T rfl ?_
   refine U.sks 4 22 false 31 rfl rfl rfl rfl ?_
   refine U.r (o := _) rfl (.none rfl) rfl rfl (by exact Rd.pk rfl rfl rfl rfl) ?_
   refine U.done ?_
   exact St.wk (hJ4 _ hm) (Wk.mk' [some 0] rfl rfl (.eqs rfl) ⟨⟨_, rfl, .box rfl (.eq rfl)⟩, trivial⟩ rfl)
  ·refine U.pg 4 2 false 11 hb5 T rfl rfl rfl rfl ?_
   refine U.r (o := _) rfl (.none rfl) rfl rfl (by exact Rd.pk' rfl rfl hb5 rfl) ?_
   refine U.ps 1 T rfl ?_
   refine hm.cs (fun hb6 hm => ?_) (fun hb6 hm => ?_)
   ·refine U.sks 2 8 false 17 hb6 rfl rfl rfl ?_
    refine U.r (o := _) rfl (.none rfl) rfl rfl (by exact Rd.pk rfl rfl hb6 rfl) ?_
    refine U.ps 1 T rfl ?_
    refine U.sks 4 12 false 21 rfl rfl rfl rfl ?_
    refine U.r (o := _) rfl (.none rfl) rfl rfl (by exact Rd.pk rfl rfl rfl rfl) ?_
    refine U.ps 1 T rfl ?_
    refine U.sks 2 18 false 27 rfl rfl rfl rfl ?_
    refine U.r (o := _) rfl (.none rfl) rfl rfl (by exact Rd.pk rfl rfl rfl rfl) ?_
    refine U.ps 1 T rfl ?_
    refine U.sks 4 22 false 31 rfl rfl rfl rfl ?_
    refine U.r (o := _) rfl (.none rfl) rfl rfl (by exact Rd.pk rfl rfl rfl rfl) ?_
    refine U.done ?_
    exact St.wk (hJ4 _ hm) (Wk.mk' [some 0] rfl rfl (.eqs rfl) ⟨⟨_, rfl, .box rfl (.eq rfl)⟩, trivial⟩ rfl)
   ·refine U.pg 2 8 false 17 hb6 T rfl rfl rfl rfl ?_
    refine U.r (o := _) rfl (.none rfl) rfl rfl (by exact Rd.pk' rfl rfl hb6 rfl) ?_
    refine U.ps 1 T rfl ?_
    refine hm.cs (fun hb7 hm => ?_) (fun hb7 hm => ?_)
    ·refine U.sks 4 12 false 21 hb7 rfl rfl rfl ?_
     refine U.r (o := _) rfl (.none rfl) rfl rfl (by exact Rd.pk rfl rfl hb7 rfl) ?_
     refine U.ps 1 T rfl ?_
     refine U.sks 2 18 false 27 rfl rfl rfl rfl ?_
     refine U.r (o := _) rfl (.none rfl) rfl rfl (by exact Rd.pk rfl rfl rfl rfl) ?_
     refine U.ps 1 T rfl ?_
     refine U.sks 4 22 false 31 rfl rfl rfl rfl ?_
     refine U.r (o := _) rfl (.none rfl) rfl rfl (by exact Rd.pk rfl rfl rfl rfl) ?_
     refine U.done ?_
     exact St.wk (hJ4 _ hm) (Wk.mk' [some 0] rfl rfl (.eqs rfl) ⟨⟨_, rfl, .box rfl (.eq rfl)⟩, trivial⟩ rfl)
    ·refine U.pg 4 12 false 21 hb7 T rfl rfl rfl rfl ?_
     refine U.r (o := _) rfl (.none rfl) rfl rfl (by exact Rd.pk' rfl rfl hb7 rfl) ?_
     refine U.ps 1 T rfl ?_
     refine hm.cs (fun hb8 hm => ?_) (fun hb8 hm => ?_)
     ·refine U.sks 2 18 false 27 hb8 rfl rfl rfl ?_
      refine U.r (o := _) rfl (.none rfl) rfl rfl (by exact Rd.pk rfl rfl hb8 rfl) ?_
      refine U.ps 1 T rfl ?_
      refine U.sks 4 22 false 31 rfl rfl rfl rfl ?_
      refine U.r (o := _) rfl (.none rfl) rfl rfl (by exact Rd.pk rfl rfl rfl rfl) ?_
      refine U.done ?_
      exact St.wk (hJ4 _ hm) (Wk.mk' [some 0] rfl rfl (.eqs rfl) ⟨⟨_, rfl, .box rfl (.eq rfl)⟩, trivial⟩ rfl)
     ·refine U.pg 2 18 false 27 hb8 T rfl rfl rfl rfl ?_
      refine U.r (o := _) rfl (.none rfl) rfl rfl (by exact Rd.pk' rfl rfl hb8 rfl) ?_
      refine U.ps 1 T rfl ?_
      refine hm.cs (fun hb9 hm => ?_) (fun hb9 hm => ?_)
      ·refine U.sks 4 22 false 31 hb9 rfl rfl rfl ?_
       refine U.r (o := _) rfl (.none rfl) rfl rfl (by exact Rd.pk rfl rfl hb9 rfl) ?_
       refine U.done ?_
       exact St.wk (hJ4 _ hm) (Wk.mk' [some 0] rfl rfl (.eqs rfl) ⟨⟨_, rfl, .box rfl (.eq rfl)⟩, trivial⟩ rfl)
      ·refine U.pg 4 22 false 31 hb9 T rfl rfl rfl rfl ?_
       refine U.r (o := _) rfl (.none rfl) rfl rfl (by exact Rd.pk' rfl rfl hb9 rfl) ?_
       refine U.done ?_
       exact St.wk (hJ4 _ hm) (Wk.mk' [some 0] rfl rfl (.eqs rfl) ⟨⟨_, rfl, .box rfl (.eq rfl)⟩, trivial⟩ rfl)
theorem T_taquinref07_Beside (f : ApiFloor) (c : Int) (d : Int) (post : Int → Prop) (hm : V_taquinref07_Beside f c d post) :
    Tr Try.prog 46 [.agg (eApiFloor f), .i c, .i d] [] 0 (fun A H' k => ∃ y, post y ∧ A = (.i y) ∧ H' = [] ∧ k = 0) := by
 refine Tr.intro (n := 70) Try.func46 rfl Try.ntmps46 rfl (fun w0 ok F β hβ => ?_)
 unfold V_taquinref07_Beside at hm
 refine C.seq (U.start ?_)
 refine U.e1 (o := _) rfl (.none rfl) (by exact Eff1.box rfl rfl rfl rfl rfl) ?_
 refine U.ps 1 T rfl ?_
 refine U.done (C.nx (C.seq (C.seq (U.start ?_))))
 refine U.ps 2 T rfl ?_
 refine U.e (o := _) rfl (.none rfl) (by exact Eff.c [] (v := true) (T_taquinref07_Is f c _ hm) en22 rfl rfl rfl (.eq rfl) trivial rfl rfl rfl rfl rfl rfl (fun _ _ => ⟨(.v _), trivial⟩) (.inr ⟨rfl, rfl⟩) (fun _ => rfl) (fun _ => rfl) rfl) (fun x5' hm => ?_)
 obtain ⟨x5⟩ := x5'
 refine U.ps 1 T rfl ?_
 refine U.done (C.nx ?_)
 refine C.ite rfl hm (fun hb6 hm => ?_) (fun hb6 hm => ?_)
 ·refine C.seq (U.start ?_)
  refine U.ps 1 T rfl ?_
  refine U.done (C.nx (C.ret (C.rt ?_)))
  exact C.fin T (rs' := [.i (-1)]) (H' := []) (nl' := 0) [] rfl rfl (.eq rfl) trivial rfl rfl rfl rfl hβ ⟨(-1), hm, rfl, rfl, rfl⟩
 ·refine C.skip (C.nx (C.seq (U.start ?_)))
  refine U.ps 2 T rfl ?_
  refine U.e (o := _) rfl (.none rfl) (by exact Eff.c [] (v := true) (T_taquinref07_At f c _ hm) en78 rfl rfl rfl (.eq rfl) trivial rfl rfl rfl rfl rfl rfl (fun _ _ => ⟨(.tup (.cons (.v _) (.cons (.v _) (.cons (.v _) .nil)))), trivial⟩) (.inr ⟨rfl, rfl⟩) (fun _ => rfl) (fun _ => rfl) rfl) (fun x11' hm => ?_)
  obtain ⟨x11⟩ := x11'
  refine U.ps 7 T rfl ?_
  refine U.done (C.nx (C.seq (C.seq (U.start ?_))))
  refine U.ps 1 T rfl ?_
  refine U.done (C.nx (C.block (C.seq (U.start ?_))))
  refine U.ps 2 T rfl ?_
  refine U.done (C.nx ?_)
  refine C.ite rfl hm (fun hb16 hm => ?_) (fun hb16 hm => ?_)
  ·refine C.seq (U.start ?_)
   refine U.ps 5 T rfl ?_
   refine U.e (o := _) rfl (.none rfl) (by exact Eff.c [] (v := true) (T_taquinref07_Cell f (w64 (x11.1 + 1)) x11.2.1 x11.2.2 _ hm) en79 rfl rfl rfl (.eq rfl) trivial rfl rfl rfl rfl rfl rfl (fun _ _ => ⟨(.v _), trivial⟩) (.inr ⟨rfl, rfl⟩) (fun _ => rfl) (fun _ => rfl) rfl) (fun x19' hm => ?_)
   obtain ⟨x19⟩ := x19'
   refine U.ps 1 T rfl ?_
   refine U.done (C.nx (C.ret (C.brt (C.rt ?_))))
   exact C.fin T (rs' := [.i x19]) (H' := []) (nl' := 0) [] rfl rfl (.eq rfl) trivial rfl rfl rfl rfl hβ ⟨x19, hm, rfl, rfl, rfl⟩
  ·refine C.seq (U.start ?_)
   refine U.ps 2 T rfl ?_
   refine U.done (C.nx ?_)
   refine C.ite rfl hm (fun hb22 hm => ?_) (fun hb22 hm => ?_)
   ·refine C.seq (U.start ?_)
    refine U.ps 5 T rfl ?_
    refine U.e (o := _) rfl (.none rfl) (by exact Eff.c [] (v := true) (T_taquinref07_Cell f x11.1 (w64 (x11.2.1 + 1)) x11.2.2 _ hm) en79 rfl rfl rfl (.eq rfl) trivial rfl rfl rfl rfl rfl rfl (fun _ _ => ⟨(.v _), trivial⟩) (.inr ⟨rfl, rfl⟩) (fun _ => rfl) (fun _ => rfl) rfl) (fun x25' hm => ?_)
    obtain ⟨x25⟩ := x25'
    refine U.ps 1 T rfl ?_
    refine U.done (C.nx (C.ret (C.brt (C.rt ?_))))
    exact C.fin T (rs' := [.i x25]) (H' := []) (nl' := 0) [] rfl rfl (.eq rfl) trivial rfl rfl rfl rfl hβ ⟨x25, hm, rfl, rfl, rfl⟩
   ·refine C.seq (U.start ?_)
    refine U.ps 2 T rfl ?_
    refine U.done (C.nx ?_)
    refine C.ite rfl hm (fun hb28 hm => ?_) (fun hb28 hm => ?_)
    ·refine C.seq (U.start ?_)
     refine U.ps 5 T rfl ?_
     refine U.e (o := _) rfl (.none rfl) (by exact Eff.c [] (v := true) (T_taquinref07_Cell f (w64 (x11.1 - 1)) x11.2.1 x11.2.2 _ hm) en79 rfl rfl rfl (.eq rfl) trivial rfl rfl rfl rfl rfl rfl (fun _ _ => ⟨(.v _), trivial⟩) (.inr ⟨rfl, rfl⟩) (fun _ => rfl) (fun _ => rfl) rfl) (fun x31' hm => ?_)
     obtain ⟨x31⟩ := x31'
     refine U.ps 1 T rfl ?_
     refine U.done (C.nx (C.ret (C.brt (C.rt ?_))))
     exact C.fin T (rs' := [.i x31]) (H' := []) (nl' := 0) [] rfl rfl (.eq rfl) trivial rfl rfl rfl rfl hβ ⟨x31, hm, rfl, rfl, rfl⟩
    ·refine C.seq (U.start ?_)
     refine U.ps 2 T rfl ?_
     refine U.done (C.nx ?_)
     refine C.ite rfl hm (fun hb34 hm => ?_) (fun hb34 hm => ?_)
     ·refine C.seq (U.start ?_)
      refine U.ps 5 T rfl ?_
      refine U.e (o := _) rfl (.none rfl) (by exact Eff.c [] (v := true) (T_taquinref07_Cell f x11.1 (w64 (x11.2.1 - 1)) x11.2.2 _ hm) en79 rfl rfl rfl (.eq rfl) trivial rfl rfl rfl rfl rfl rfl (fun _ _ => ⟨(.v _), trivial⟩) (.inr ⟨rfl, rfl⟩) (fun _ => rfl) (fun _ => rfl) rfl) (fun x37' hm => ?_)
      obtain ⟨x37⟩ := x37'
      refine U.ps 1 T rfl ?_
      refine U.done (C.nx (C.ret (C.brt (C.rt ?_))))
      exact C.fin T (rs' := [.i x37]) (H' := []) (nl' := 0) [] rfl rfl (.eq rfl) trivial rfl rfl rfl rfl hβ ⟨x37, hm, rfl, rfl, rfl⟩
     ·refine C.seq (U.start ?_)
      refine U.ps 2 T rfl ?_
      refine U.done (C.nx ?_)
      refine C.ite rfl hm (fun hb40 hm => ?_) (fun hb40 hm => ?_)
      ·refine C.seq (U.start ?_)
       refine U.ps 5 T rfl ?_
       refine U.e (o := _) rfl (.none rfl) (by exact Eff.c [] (v := true) (T_taquinref07_Cell f x11.1 x11.2.1 (w64 (x11.2.2 + 1)) _ hm) en79 rfl rfl rfl (.eq rfl) trivial rfl rfl rfl rfl rfl rfl (fun _ _ => ⟨(.v _), trivial⟩) (.inr ⟨rfl, rfl⟩) (fun _ => rfl) (fun _ => rfl) rfl) (fun x43' hm => ?_)
       obtain ⟨x43⟩ := x43'
       refine U.ps 1 T rfl ?_
       refine U.done (C.nx (C.ret (C.brt (C.rt ?_))))
       exact C.fin T (rs' := [.i x43]) (H' := []) (nl' := 0) [] rfl rfl (.eq rfl) trivial rfl rfl rfl rfl hβ ⟨x43, hm, rfl, rfl, rfl⟩
      ·refine C.seq (U.start ?_)
       refine U.ps 2 T rfl ?_
       refine U.done (C.nx ?_)
       refine C.ite rfl hm (fun hb46 hm => ?_) (fun hb46 hm => ?_)
       ·refine C.seq (U.start ?_)
        refine U.ps 5 T rfl ?_
        refine U.e (o := _) rfl (.none rfl) (by exact Eff.c [] (v := true) (T_taquinref07_Cell f x11.1 x11.2.1 (w64 (x11.2.2 - 1)) _ hm) en79 rfl rfl rfl (.eq rfl) trivial rfl rfl rfl rfl rfl rfl (fun _ _ => ⟨(.v _), trivial⟩) (.inr ⟨rfl, rfl⟩) (fun _ => rfl) (fun _ => rfl) rfl) (fun x49' hm => ?_)
        obtain ⟨x49⟩ := x49'
        refine U.ps 1 T rfl ?_
        refine U.done (C.nx (C.ret (C.brt (C.rt ?_))))
        exact C.fin T (rs' := [.i x49]) (H' := []) (nl' := 0) [] rfl rfl (.eq rfl) trivial rfl rfl rfl rfl hβ ⟨x49, hm, rfl, rfl, rfl⟩
       ·refine C.skip (C.bnx (C.nx (C.seq (U.start ?_))))
        refine U.ps 1 T rfl ?_
        refine U.done (C.nx (C.ret ?_))
        exact C.fin T (rs' := [.i (-1)]) (H' := []) (nl' := 0) [] rfl rfl (.eq rfl) trivial rfl rfl rfl rfl hβ ⟨(-1), hm, rfl, rfl, rfl⟩
theorem T_taquinref07_Near (f : ApiFloor) (a : Int) (b : Int) (post : Bool → Prop) (hm : V_taquinref07_Near f a b post) :
    Tr Try.prog 13 [.agg (eApiFloor f), .i a, .i b] [] 0 (fun A H' k => ∃ y, post y ∧ A = (.b y) ∧ H' = [] ∧ k = 0) := by
 refine Tr.intro (n := 23) Try.func13 rfl Try.ntmps13 rfl (fun w0 ok F β hβ => ?_)
 unfold V_taquinref07_Near at hm
 refine C.seq (U.start ?_)
 refine U.e1 (o := _) rfl (.none rfl) (by exact Eff1.box rfl rfl rfl rfl rfl) ?_
 refine U.ps 1 T rfl ?_
 refine U.done (C.nx (C.seq (C.seq (U.start ?_))))
 refine U.ps 1 T rfl ?_
 refine U.done (C.nx ?_)
 refine C.jn (fun (x5 : Unit) => []) (fun (x5 : Unit) => []) 0 hm (fun x5 hm => ?_) (fun J6 hm hJ6 => ?_)
 ·refine C.nx (C.seq (U.start ?_))
  refine U.ps 1 T rfl ?_
  refine U.done (C.nx (C.ret ?_))
  exact C.fin T (rs' := [.b false]) (H' := []) (nl' := 0) [] rfl rfl (.eq rfl) trivial rfl rfl rfl rfl hβ ⟨false, hm, rfl, rfl, rfl⟩
 ·refine C.block ?_
  refine St.wk (C.loop (fun (s7 : Int) => [(1, .i a), (2, .i b), (3, .p 0 0), (7, .i s7)]) (fun (s7 : Int) => [(0, .box (eApiFloor f))]) hm (fun s7 Y8 hm => ?_)) (Wk.mk' [some 0] rfl rfl (.eqs rfl) ⟨⟨_, rfl, .box rfl (.eq rfl)⟩, trivial⟩ rfl)
  refine C.seq (C.seq (U.start ?_))
  refine U.ps 2 T rfl ?_
  refine U.done (C.nx ?_)
  refine C.ite rfl hm (fun hb11 hm => ?_) (fun hb11 hm => ?_)
  ·refine C.skip (C.nx (C.seq (C.block (C.seq ?_))))
   refine C.jn (fun (x12 : Bool) => [(1, .i a), (2, .i b), (3, .p 0 0), (7, .i s7), (22, .b x12)]) (fun (x12 : Bool) => [(0, .box (eApiFloor f))]) 1 hm (fun x12 hm => ?_) (fun J13 hm hJ13 => ?_)
   ·refine C.nx ?_
    refine C.ite rfl hm (fun hb17 hm => ?_) (fun hb17 hm => ?_)
    ·refine C.seq (U.start ?_)
     refine U.ps 1 T rfl ?_
     refine U.done (C.nx (C.ret (C.brt (C.rt (C.rt (C.brt (C.rt ?_)))))))
     exact C.fin T (rs' := [.b true]) (H' := []) (nl' := 0) [] rfl rfl (.eq rfl) trivial rfl rfl rfl rfl hβ ⟨true, hm, rfl, rfl, rfl⟩
    ·refine C.skip (C.bnx (C.nx (U.start ?_)))
     refine U.ps 3 T rfl ?_
     refine U.done (C.nx ?_)
     exact St.wk (C.next hm) (Wk.mk' [some 0] rfl rfl (.eqs rfl) ⟨⟨_, rfl, .box rfl (.eq rfl)⟩, trivial⟩ rfl)
   ·refine U.start ?_
    refine U.ps 2 T rfl ?_
    refine U.e (o := _) rfl (.none rfl) (by exact Eff.c [] (v := true) (T_taquinref07_Is f b _ hm) en22 rfl rfl rfl (.eq rfl) trivial rfl rfl rfl rfl rfl rfl (fun _ _ => ⟨(.v _), trivial⟩) (.inr ⟨rfl, rfl⟩) (fun _ => rfl) (fun _ => rfl) rfl) (fun x14' hm => ?_)
    obtain ⟨x14⟩ := x14'
    refine U.ps 1 T rfl ?_
    refine hm.cs (fun hb15 hm => ?_) (fun hb15 hm => ?_)
    ·refine U.pg 3 3 true 15 hb15 T rfl rfl rfl rfl ?_
     refine U.e (o := _) rfl (.take 3 true 15 _ hb15 rfl rfl rfl) (by exact Eff.c [] (v := true) (T_taquinref07_Beside f a s7 _ hm) en46 rfl rfl rfl (.eq rfl) trivial rfl rfl rfl rfl rfl rfl (fun _ _ => ⟨(.v _), trivial⟩) (.inr ⟨rfl, rfl⟩) (fun _ => rfl) (fun _ => rfl) rfl) (fun x16' hm => ?_)
     obtain ⟨x16⟩ := x16'
     refine U.pg 2 3 true 15 hb15 T rfl rfl rfl rfl ?_
     refine U.r (o := _) rfl (.none rfl) rfl rfl (by exact Rd.pk rfl rfl hb15 rfl) ?_
     refine U.done ?_
     exact St.wk (hJ13 _ hm) (Wk.mk' [some 0] rfl rfl (.eqs rfl) ⟨⟨_, rfl, .box rfl (.eq rfl)⟩, trivial⟩ rfl)
    ·refine U.sks 6 3 true 15 hb15 rfl rfl rfl ?_
     refine U.r (o := _) rfl (.none rfl) rfl rfl (by exact Rd.pk' rfl rfl hb15 rfl) ?_
     refine U.done ?_
     exact St.wk (hJ13 _ hm) (Wk.mk' [some 0] rfl rfl (.eqs rfl) ⟨⟨_, rfl, .box rfl (.eq rfl)⟩, trivial⟩ rfl)
  ·refine C.exit (C.ex (C.ex (C.bex ?_)))
   exact St.wk (hJ6 _ hm) (Wk.mk' [] rfl rfl trivial trivial rfl)
theorem T_taquinref12_Drop (s_1 : ApiSite) (st : ApiState) (shelf : Int) (c : Int) (post : Int → Prop) (hm : V_taquinref12_Drop s_1 st shelf c post) :
    Tr Try.prog 39 [.agg (eApiSite s_1), .agg (eApiState st), .i shelf, .i c] [] 0 (fun A H' k => ∃ y, post y ∧ A = (.i y) ∧ H' = [] ∧ k = 0) := by
 refine Tr.intro (n := 67) Try.func39 rfl Try.ntmps39 rfl (fun w0 ok F β hβ => ?_)
 unfold V_taquinref12_Drop at hm
 refine C.seq (U.start ?_)
 refine U.e1 (o := _) rfl (.none rfl) (by exact Eff1.box rfl rfl rfl rfl rfl) ?_
 refine U.e1 (o := _) rfl (.none rfl) (by exact Eff1.box rfl rfl rfl rfl rfl) ?_
 refine U.ps 1 T rfl ?_
 refine U.done (C.nx (C.seq (C.seq ?_)))
 refine C.jn (fun (x3 : Bool) => [(2, .i shelf), (3, .i c), (4, .p 0 0), (5, .p 1 0), (19, .b x3)]) (fun (x3 : Bool) => [(0, .box (eApiSite s_1)), (1, .box (eApiState st))]) 2 hm (fun x3 hm => ?_) (fun J4 hm hJ4 => ?_)
 ·refine C.nx ?_
  refine C.ite rfl hm (fun hb6 hm => ?_) (fun hb6 hm => ?_)
  ·refine C.seq (U.start ?_)
   refine U.ps 1 T rfl ?_
   refine U.done (C.nx (C.ret (C.rt ?_)))
   exact C.fin T (rs' := [.i 4]) (H' := []) (nl' := 0) [] rfl rfl (.eq rfl) trivial rfl rfl rfl rfl hβ ⟨4, hm, rfl, rfl, rfl⟩
  ·refine C.skip (C.nx (C.seq (C.seq (U.start ?_))))
   refine U.ps 2 T rfl ?_
   refine U.e (o := _) rfl (.none rfl) (by exact Eff.c [] (v := true) (T_taquinref12_Stands s_1 c _ hm) en30 rfl rfl rfl (.eq rfl) trivial rfl rfl rfl rfl rfl rfl (fun _ _ => ⟨(.v _), trivial⟩) (.inr ⟨rfl, rfl⟩) (fun _ => rfl) (fun _ => rfl) rfl) (fun x11' hm => ?_)
   obtain ⟨x11⟩ := x11'
   refine U.ps 1 T rfl ?_
   refine U.done (C.nx ?_)
   refine C.ite rfl hm (fun hb12 hm => ?_) (fun hb12 hm => ?_)
   ·refine C.seq (U.start ?_)
    refine U.ps 1 T rfl ?_
    refine U.done (C.nx (C.ret (C.rt ?_)))
    exact C.fin T (rs' := [.i 13]) (H' := []) (nl' := 0) [] rfl rfl (.eq rfl) trivial rfl rfl rfl rfl hβ ⟨13, hm, rfl, rfl, rfl⟩
   ·refine C.skip (C.nx (C.seq (U.start ?_)))
    refine U.ps 1 T rfl ?_
    refine U.done (C.nx (C.seq (C.seq (U.start ?_))))
    refine U.ps 1 T rfl ?_
    refine U.done (C.nx ?_)
    refine C.jn (fun (x19 : Int) => [(9, .i x19)]) (fun (x19 : Int) => []) 0 hm (fun x19 hm => ?_) (fun J20 hm hJ20 => ?_)
    ·refine C.nx (C.seq (U.start ?_))
     refine U.ps 2 T rfl ?_
     refine U.done (C.nx (C.ret ?_))
     exact C.fin T (rs' := [.i x19]) (H' := []) (nl' := 0) [] rfl rfl (.eq rfl) trivial rfl rfl rfl rfl hβ ⟨x19, hm, rfl, rfl, rfl⟩
    ·refine C.block ?_
     refine St.wk (C.loop (fun (s21 : Int × Int) => [(2, .i shelf), (3, .i c), (4, .p 0 0), (5, .p 1 0), (9, .i s21.1), (10, .i s21.2)]) (fun (s21 : Int × Int) => [(0, .box (eApiSite s_1)), (1, .box (eApiState st))]) hm (fun s21 Y22 hm => ?_)) (Wk.mk' [some 0, some 1] rfl rfl (.eqs rfl) ⟨⟨_, rfl, .box rfl (.eq rfl)⟩, ⟨_, rfl, .box rfl (.eq rfl)⟩, trivial⟩ rfl)
     refine C.seq (C.seq (U.start ?_))
     refine U.ps 5 T rfl ?_
     refine U.done (C.nx ?_)
     refine C.ite rfl hm (fun hb25 hm => ?_) (fun hb25 hm => ?_)
     ·refine C.skip (C.nx (C.seq ?_))
      refine C.jn (fun (x26 : Int) => [(2, .i shelf), (3, .i c), (4, .p 0 0), (5, .p 1 0), (9, .i x26), (10, .i s21.2)]) (fun (x26 : Int) => [(0, .box (eApiSite s_1)), (1, .box (eApiState st))]) 2 hm (fun x26 hm => ?_) (fun J27 hm hJ27 => ?_)
      ·refine C.nx (U.start ?_)
       refine U.ps 3 T rfl ?_
       refine U.done (C.nx ?_)
       exact St.wk (C.next hm) (Wk.mk' [some 0, some 1] rfl rfl (.eqs rfl) ⟨⟨_, rfl, .box rfl (.eq rfl)⟩, ⟨_, rfl, .box rfl (.eq rfl)⟩, trivial⟩ rfl)
      ·refine C.block (C.seq (C.seq ?_))
       refine C.jn (fun (x28 : Bool) => [(2, .i shelf), (3, .i c), (4, .p 0 0), (5, .p 1 0), (9, .i s21.1), (10, .i s21.2), (39, .b x28)]) (fun (x28 : Bool) => [(0, .box (eApiSite s_1)), (1, .box (eApiState st))]) 2 hm (fun x28 hm => ?_) (fun J29 hm hJ29 => ?_)
       ·refine C.nx ?_
        refine C.ite rfl hm (fun hb32 hm => ?_) (fun hb32 hm => ?_)
        ·refine C.exit (C.ex (C.bex ?_))
         exact St.wk (hJ27 _ hm) (Wk.mk' [some 0, some 1] rfl rfl (.eqs rfl) ⟨⟨_, rfl, .box rfl (.eq rfl)⟩, ⟨_, rfl, .box rfl (.eq rfl)⟩, trivial⟩ rfl)
        ·refine C.skip (C.nx (C.seq (C.seq (U.start ?_))))
         refine U.ps 3 T rfl ?_
         obtain ⟨x35, hx35, hm⟩ := hm
         refine U.r (o := _) rfl (.none rfl) rfl rfl (by exact Rd.ix T rfl rfl rfl rfl rfl rfl hx35) ?_
         refine U.ps 3 T rfl ?_
         refine U.done (C.nx ?_)
         refine C.ite rfl hm (fun hb36 hm => ?_) (fun hb36 hm => ?_)
         ·refine C.seq (U.start ?_)
          refine U.ps 1 T rfl ?_
          refine U.done (C.nx (C.ret (C.rt (C.brt (C.rt (C.rt (C.brt (C.rt ?_))))))))
          exact C.fin T (rs' := [.i 13]) (H' := []) (nl' := 0) [] rfl rfl (.eq rfl) trivial rfl rfl rfl rfl hβ ⟨13, hm, rfl, rfl, rfl⟩
         ·refine C.skip (C.nx (C.seq ?_))
          refine C.jn (fun (x39 : Bool) => [(2, .i shelf), (3, .i c), (4, .p 0 0), (5, .p 1 0), (9, .i s21.1), (10, .i s21.2), (65, .b x39)]) (fun (x39 : Bool) => [(0, .box (eApiSite s_1)), (1, .box (eApiState st))]) 2 hm (fun x39 hm => ?_) (fun J40 hm hJ40 => ?_)
          ·refine C.nx ?_
           refine C.jn (fun (x46 : Int) => [(2, .i shelf), (3, .i c), (4, .p 0 0), (5, .p 1 0), (9, .i x46), (10, .i s21.2)]) (fun (x46 : Int) => [(0, .box (eApiSite s_1)), (1, .box (eApiState st))]) 2 hm (fun x46 hm => ?_) (fun J47 hm hJ47 => ?_)
           ·refine C.bnx ?_
            exact St.wk (hJ27 _ hm) (Wk.mk' [some 0, some 1] rfl rfl (.eqs rfl) ⟨⟨_, rfl, .box rfl (.eq rfl)⟩, ⟨_, rfl, .box rfl (.eq rfl)⟩, trivial⟩ rfl)
           ·refine C.ite rfl hm (fun hb48 hm => ?_) (fun hb48 hm => ?_)
            ·refine U.start ?_
             refine U.ps 1 T rfl ?_
             refine U.done ?_
             exact St.wk (hJ47 _ hm) (Wk.mk' [some 0, some 1] rfl rfl (.eqs rfl) ⟨⟨_, rfl, .box rfl (.eq rfl)⟩, ⟨_, rfl, .box rfl (.eq rfl)⟩, trivial⟩ rfl)
            ·refine C.skip ?_
             exact St.wk (hJ47 _ hm) (Wk.mk' [some 0, some 1] rfl rfl (.eqs rfl) ⟨⟨_, rfl, .box rfl (.eq rfl)⟩, ⟨_, rfl, .box rfl (.eq rfl)⟩, trivial⟩ rfl)
          ·refine D.beg 9999 [0, 1] [] mix rfl rfl (by kernel_rfl) (by repeat (first | exact NoPanicQ.body | exact NoPanicQ.rnd | refine NoPanicQ.th ?_ | refine NoPanicQ.blk ?_)) (fun hQ hS ws M' => ?_)
           refine D.ps 5 [(0, []), (1, []), (2, []), (3, []), (4, [])] rfl hQ hS T rfl rfl (by kernel_rfl) ?_
           refine D.q (o := _) 5 [] hQ hS rfl (.none rfl) rfl rfl (by exact Rd.ix T rfl rfl rfl rfl rfl rfl hx35) rfl (by kernel_rfl) ?_
           refine D.ps 2 [(6, []), (7, [])] rfl hQ hS T rfl rfl (by kernel_rfl) ?_
           refine D.e (o := _) 8 rfl (.none rfl) (by exact Eff.c [] (v := true) (T_taquinref07_Near s_1.Floor x35 c _ hm) en13 rfl rfl rfl (.eq rfl) trivial rfl rfl rfl rfl rfl rfl (fun _ _ => ⟨(.v _), trivial⟩) (.inr ⟨rfl, rfl⟩) (fun _ => rfl) (fun _ => rfl) rfl) (by kernel_rfl) rfl rfl (fun x41' hm => ?_)
           obtain ⟨x41⟩ := x41'
           refine D.ps 1 [(9, [])] rfl hQ hS T rfl rfl (by kernel_rfl) ?_
           refine hm.cs (fun hb42 hm => ?_) (fun hb42 hm => ?_)
           ·refine D.q (o := _) 10 [] hQ hS rfl (.take 9 true 56 _ hb42 rfl rfl rfl) rfl rfl (by exact Rd.l T rfl rfl rfl) rfl (by kernel_rfl) ?_
            refine D.q (o := _) 11 [] hQ hS rfl (.take 9 true 56 _ hb42 rfl rfl rfl) rfl rfl (by exact Rd.l T rfl rfl rfl) rfl (by kernel_rfl) ?_
            refine D.q (o := _) 12 [] hQ hS rfl (.take 9 true 56 _ hb42 rfl rfl rfl) rfl rfl (by exact Rd.p T rfl) rfl (by kernel_rfl) ?_
            refine D.q (o := _) 14 [] hQ hS rfl (.take 9 true 56 _ hb42 rfl rfl rfl) rfl rfl (by exact Rd.l T rfl rfl rfl) rfl (by kernel_rfl) ?_
            refine D.q (o := _) 15 [] hQ hS rfl (.take 9 true 56 _ hb42 rfl rfl rfl) rfl rfl (by exact Rd.p T rfl) rfl (by kernel_rfl) ?_
            refine D.e (o := _) 13 rfl (.take 9 true 56 _ hb42 rfl rfl rfl) (by exact Eff.c [] (v := true) (T_taquinref12_Class s_1 shelf _ hm) en33 rfl rfl rfl (.eq rfl) trivial rfl rfl rfl rfl rfl rfl (fun _ _ => ⟨(.v _), trivial⟩) (.inr ⟨rfl, rfl⟩) (fun _ => rfl) (fun _ => rfl) rfl) (by kernel_rfl) rfl rfl (fun x43' hm => ?_)
            obtain ⟨x43⟩ := x43'
            refine D.e (o := _) 16 rfl (.take 9 true 56 _ hb42 rfl rfl rfl) (by exact Eff.c [] (v := true) (T_taquinref12_Class s_1 s21.2 _ hm) en33 rfl rfl rfl (.eq rfl) trivial rfl rfl rfl rfl rfl rfl (fun _ _ => ⟨(.v _), trivial⟩) (.inr ⟨rfl, rfl⟩) (fun _ => rfl) (fun _ => rfl) rfl) (by kernel_rfl) rfl rfl (fun x44' hm => ?_)
            obtain ⟨x44⟩ := x44'
            refine D.e (o := _) 17 rfl (.take 9 true 56 _ hb42 rfl rfl rfl) (by exact Eff.c [] (v := true) (T_taquinref12_Never s_1 x43 x44 _ hm) en34 rfl rfl rfl (.eq rfl) trivial rfl rfl rfl rfl rfl rfl (fun _ _ => ⟨(.v _), trivial⟩) (.inr ⟨rfl, rfl⟩) (fun _ => rfl) (fun _ => rfl) rfl) (by kernel_rfl) rfl rfl (fun x45' hm => ?_)
            obtain ⟨x45⟩ := x45'
            refine D.q (o := _) 18 [] hQ hS rfl (.none rfl) rfl rfl (by exact Rd.pk rfl rfl hb42 rfl) rfl (by kernel_rfl) ?_
            refine D.done (by kernel_rfl) ?_
            exact St.wk (hJ40 _ hm) (Wk.mk' [some 0, some 1] rfl rfl (.eqs rfl) ⟨⟨_, rfl, .box rfl (.eq rfl)⟩, ⟨_, rfl, .box rfl (.eq rfl)⟩, trivial⟩ rfl)
           ·refine D.sq (o := _) 10 [] hQ hS rfl (.skip 9 true 56 _ hb42 rfl rfl rfl) rfl rfl (by kernel_rfl) ?_
            refine D.sq (o := _) 11 [] hQ hS rfl (.skip 9 true 56 _ hb42 rfl rfl rfl) rfl rfl (by kernel_rfl) ?_
            refine D.sq (o := _) 12 [] hQ hS rfl (.skip 9 true 56 _ hb42 rfl rfl rfl) rfl rfl (by kernel_rfl) ?_
            refine D.sq (o := _) 13 [] hQ hS rfl (.skip 9 true 56 _ hb42 rfl rfl rfl) rfl rfl (by kernel_rfl) ?_
            refine D.sq (o := _) 14 [] hQ hS rfl (.skip 9 true 56 _ hb42 rfl rfl rfl) rfl rfl (by kernel_rfl) ?_
            refine D.sq (o := _) 15 [] hQ hS rfl (.skip 9 true 56 _ hb42 rfl rfl rfl) rfl rfl (by kernel_rfl) ?_
            refine D.sq (o := _) 16 [] hQ hS rfl (.skip 9 true 56 _ hb42 rfl rfl rfl) rfl rfl (by kernel_rfl) ?_
            refine D.sq (o := _) 17 [] hQ hS rfl (.skip 9 true 56 _ hb42 rfl rfl rfl) rfl rfl (by kernel_rfl) ?_
            refine D.q (o := _) 18 [] hQ hS rfl (.none rfl) rfl rfl (by exact Rd.pk' rfl rfl hb42 rfl) rfl (by kernel_rfl) ?_
            refine D.done (by kernel_rfl) ?_
            exact St.wk (hJ40 _ hm) (Wk.mk' [some 0, some 1] rfl rfl (.eqs rfl) ⟨⟨_, rfl, .box rfl (.eq rfl)⟩, ⟨_, rfl, .box rfl (.eq rfl)⟩, trivial⟩ rfl)
       ·refine U.start ?_
        refine U.ps 4 T rfl ?_
        refine hm.cs (fun hb30 hm => ?_) (fun hb30 hm => ?_)
        ·refine U.sks 4 3 false 34 hb30 rfl rfl rfl ?_
         refine U.r (o := _) rfl (.none rfl) rfl rfl (by exact Rd.pk rfl rfl hb30 rfl) ?_
         refine U.done ?_
         exact St.wk (hJ29 _ hm) (Wk.mk' [some 0, some 1] rfl rfl (.eqs rfl) ⟨⟨_, rfl, .box rfl (.eq rfl)⟩, ⟨_, rfl, .box rfl (.eq rfl)⟩, trivial⟩ rfl)
        ·refine U.pg 2 3 false 34 hb30 T rfl rfl rfl rfl ?_
         refine U.e (o := _) rfl (.take 3 false 34 _ hb30 rfl rfl rfl) (by exact Eff.c [] (v := true) (T_taquinref12_Carried st s21.2 _ hm) en35 rfl rfl rfl (.eq rfl) trivial rfl rfl rfl rfl rfl rfl (fun _ _ => ⟨(.v _), trivial⟩) (.inr ⟨rfl, rfl⟩) (fun _ => rfl) (fun _ => rfl) rfl) (fun x31' hm => ?_)
         obtain ⟨x31⟩ := x31'
         refine U.pg 1 3 false 34 hb30 T rfl rfl rfl rfl ?_
         refine U.r (o := _) rfl (.none rfl) rfl rfl (by exact Rd.pk' rfl rfl hb30 rfl) ?_
         refine U.done ?_
         exact St.wk (hJ29 _ hm) (Wk.mk' [some 0, some 1] rfl rfl (.eqs rfl) ⟨⟨_, rfl, .box rfl (.eq rfl)⟩, ⟨_, rfl, .box rfl (.eq rfl)⟩, trivial⟩ rfl)
     ·refine C.exit (C.ex (C.ex (C.bex ?_)))
      exact St.wk (hJ20 _ hm) (Wk.mk' [] rfl rfl (.eqs rfl) trivial rfl)
 ·refine U.start ?_
  refine U.ps 3 T rfl ?_
  refine hm.cs (fun hb5 hm => ?_) (fun hb5 hm => ?_)
  ·refine U.sks 5 2 false 13 hb5 rfl rfl rfl ?_
   refine U.r (o := _) rfl (.none rfl) rfl rfl (by exact Rd.pk rfl rfl hb5 rfl) ?_
   refine U.done ?_
   exact St.wk (hJ4 _ hm) (Wk.mk' [some 0, some 1] rfl rfl (.eqs rfl) ⟨⟨_, rfl, .box rfl (.eq rfl)⟩, ⟨_, rfl, .box rfl (.eq rfl)⟩, trivial⟩ rfl)
  ·refine U.pg 5 2 false 13 hb5 T rfl rfl rfl rfl ?_
   refine U.r (o := _) rfl (.none rfl) rfl rfl (by exact Rd.pk' rfl rfl hb5 rfl) ?_
   refine U.done ?_
   exact St.wk (hJ4 _ hm) (Wk.mk' [some 0, some 1] rfl rfl (.eqs rfl) ⟨⟨_, rfl, .box rfl (.eq rfl)⟩, ⟨_, rfl, .box rfl (.eq rfl)⟩, trivial⟩ rfl)
theorem T_taquinref12_Apart (s_1 : ApiSite) (st : ApiState) (post : (Int × Int × Bool) → Prop) (hm : V_taquinref12_Apart s_1 st post) :
    Tr Try.prog 40 [.agg (eApiSite s_1), .agg (eApiState st)] [] 0 (fun A H' k => ∃ y, post y ∧ A = (.tup [.i y.1, .i y.2.1, .b y.2.2]) ∧ H' = [] ∧ k = 0) := by
 refine Tr.intro (n := 62) Try.func40 rfl Try.ntmps40 rfl (fun w0 ok F β hβ => ?_)
 unfold V_taquinref12_Apart at hm
 refine C.seq (U.start ?_)
 refine U.e1 (o := _) rfl (.none rfl) (by exact Eff1.box rfl rfl rfl rfl rfl) ?_
 refine U.e1 (o := _) rfl (.none rfl) (by exact Eff1.box rfl rfl rfl rfl rfl) ?_
 refine U.ps 3 T rfl ?_
 refine U.done (C.nx (C.seq (C.seq (U.start ?_))))
 refine U.ps 1 T rfl ?_
 refine U.done (C.nx ?_)
 refine C.jn (fun (x5 : Unit) => []) (fun (x5 : Unit) => []) 0 hm (fun x5 hm => ?_) (fun J6 hm hJ6 => ?_)
 ·refine C.nx (C.seq (U.start ?_))
  refine U.ps 3 T rfl ?_
  refine U.done (C.nx (C.ret ?_))
  exact C.fin T (rs' := [.i ((0, 0, false).1), .i ((0, 0, false).2.1), .b ((0, 0, false).2.2)]) (H' := []) (nl' := 0) [] rfl rfl (.eq rfl) trivial rfl rfl rfl rfl hβ ⟨(0, 0, false), hm, rfl, rfl, rfl⟩
 ·refine C.block ?_
  refine St.wk (C.loop (fun (s7 : Int) => [(2, .p 0 0), (3, .p 1 0), (7, .i s7)]) (fun (s7 : Int) => [(0, .box (eApiSite s_1)), (1, .box (eApiState st))]) hm (fun s7 Y8 hm => ?_)) (Wk.mk' [some 0, some 1] rfl rfl (.eqs rfl) ⟨⟨_, rfl, .box rfl (.eq rfl)⟩, ⟨_, rfl, .box rfl (.eq rfl)⟩, trivial⟩ rfl)
  refine C.seq (C.seq (U.start ?_))
  refine U.ps 5 T rfl ?_
  refine U.done (C.nx ?_)
  refine C.ite rfl hm (fun hb11 hm => ?_) (fun hb11 hm => ?_)
  ·refine C.skip (C.nx (C.seq ?_))
   refine C.jn (fun (x12 : Unit) => [(2, .p 0 0), (3, .p 1 0), (7, .i s7)]) (fun (x12 : Unit) => [(0, .box (eApiSite s_1)), (1, .box (eApiState st))]) 2 hm (fun x12 hm => ?_) (fun J13 hm hJ13 => ?_)
   ·refine C.nx (U.start ?_)
    refine U.ps 3 T rfl ?_
    refine U.done (C.nx ?_)
    exact St.wk (C.next hm) (Wk.mk' [some 0, some 1] rfl rfl (.eqs rfl) ⟨⟨_, rfl, .box rfl (.eq rfl)⟩, ⟨_, rfl, .box rfl (.eq rfl)⟩, trivial⟩ rfl)
   ·refine C.block (C.seq (U.start ?_))
    refine U.ps 3 T rfl ?_
    refine U.done (C.nx ?_)
    refine C.jn (fun (x16 : Unit) => [(2, .p 0 0), (3, .p 1 0), (7, .i s7)]) (fun (x16 : Unit) => [(0, .box (eApiSite s_1)), (1, .box (eApiState st))]) 2 hm (fun x16 hm => ?_) (fun J17 hm hJ17 => ?_)
    ·refine C.bnx ?_
     exact St.wk (hJ13 _ hm) (Wk.mk' [some 0, some 1] rfl rfl (.eqs rfl) ⟨⟨_, rfl, .box rfl (.eq rfl)⟩, ⟨_, rfl, .box rfl (.eq rfl)⟩, trivial⟩ rfl)
    ·refine C.block ?_
     refine St.wk (C.loop (fun (s18 : Int) => [(2, .p 0 0), (3, .p 1 0), (7, .i s7), (8, .i s18)]) (fun (s18 : Int) => [(0, .box (eApiSite s_1)), (1, .box (eApiState st))]) hm (fun s18 Y19 hm => ?_)) (Wk.mk' [some 0, some 1] rfl rfl (.eqs rfl) ⟨⟨_, rfl, .box rfl (.eq rfl)⟩, ⟨_, rfl, .box rfl (.eq rfl)⟩, trivial⟩ rfl)
     refine C.seq (C.seq (U.start ?_))
     refine U.ps 5 T rfl ?_
     refine U.done (C.nx ?_)
     refine C.ite rfl hm (fun hb22 hm => ?_) (fun hb22 hm => ?_)
     ·refine C.skip (C.nx (C.seq (C.block (C.seq ?_))))
      refine C.jn (fun (x23 : Bool) => [(2, .p 0 0), (3, .p 1 0), (7, .i s7), (8, .i s18), (59, .b x23)]) (fun (x23 : Bool) => [(0, .box (eApiSite s_1)), (1, .box (eApiState st))]) 2 hm (fun x23 hm => ?_) (fun J24 hm hJ24 => ?_)
      ·refine C.nx ?_
       refine C.ite rfl hm (fun hb36 hm => ?_) (fun hb36 hm => ?_)
       ·refine C.seq (U.start ?_)
        refine U.ps 5 T rfl ?_
        refine U.done (C.nx (C.ret (C.brt (C.rt (C.rt (C.brt (C.brt (C.rt (C.rt (C.brt (C.rt ?_)))))))))))
        exact C.fin T (rs' := [.i ((s7, s18, true).1), .i ((s7, s18, true).2.1), .b ((s7, s18, true).2.2)]) (H' := []) (nl' := 0) [] rfl rfl (.eq rfl) trivial rfl rfl rfl rfl hβ ⟨(s7, s18, true), hm, rfl, rfl, rfl⟩
       ·refine C.skip (C.bnx (C.nx (U.start ?_)))
        refine U.ps 3 T rfl ?_
        refine U.done (C.nx ?_)
        exact St.wk (C.next hm) (Wk.mk' [some 0, some 1] rfl rfl (.eqs rfl) ⟨⟨_, rfl, .box rfl (.eq rfl)⟩, ⟨_, rfl, .box rfl (.eq rfl)⟩, trivial⟩ rfl)
      ·refine D.beg 9999 [0, 1] [] mix rfl rfl (by kernel_rfl) (by repeat (first | exact NoPanicQ.body | exact NoPanicQ.rnd | refine NoPanicQ.th ?_ | refine NoPanicQ.blk ?_)) (fun hQ hS ws M' => ?_)
       refine D.ps 5 [(0, []), (1, []), (2, []), (3, []), (4, [])] rfl hQ hS T rfl rfl (by kernel_rfl) ?_
       obtain ⟨x25, hx25, hm⟩ := hm
       refine D.q (o := _) 5 [] hQ hS rfl (.none rfl) rfl rfl (by exact Rd.ix T rfl rfl rfl rfl rfl rfl hx25) rfl (by kernel_rfl) ?_
       refine D.ps 4 [(6, []), (7, []), (8, []), (9, [])] rfl hQ hS T rfl rfl (by kernel_rfl) ?_
       obtain ⟨x26, hx26, hm⟩ := hm
       refine D.q (o := _) 10 [] hQ hS rfl (.none rfl) rfl rfl (by exact Rd.ix T rfl rfl rfl rfl rfl rfl hx26) rfl (by kernel_rfl) ?_
       refine D.ps 1 [(11, [])] rfl hQ hS T rfl rfl (by kernel_rfl) ?_
       refine D.e (o := _) 12 rfl (.none rfl) (by exact Eff.c [] (v := true) (T_taquinref07_Near s_1.Floor x25 x26 _ hm) en13 rfl rfl rfl (.eq rfl) trivial rfl rfl rfl rfl rfl rfl (fun _ _ => ⟨(.v _), trivial⟩) (.inr ⟨rfl, rfl⟩) (fun _ => rfl) (fun _ => rfl) rfl) (by kernel_rfl) rfl rfl (fun x27' hm => ?_)
       obtain ⟨x27⟩ := x27'
       refine D.ps 1 [(13, [])] rfl hQ hS T rfl rfl (by kernel_rfl) ?_
       refine hm.cs (fun hb28 hm => ?_) (fun hb28 hm => ?_)
       ·refine D.q (o := _) 14 [] hQ hS rfl (.take 13 true 38 _ hb28 rfl rfl rfl) rfl rfl (by exact Rd.l T rfl rfl rfl) rfl (by kernel_rfl) ?_
        refine D.q (o := _) 15 [] hQ hS rfl (.take 13 true 38 _ hb28 rfl rfl rfl) rfl rfl (by exact Rd.l T rfl rfl rfl) rfl (by kernel_rfl) ?_
        refine D.q (o := _) 16 [] hQ hS rfl (.take 13 true 38 _ hb28 rfl rfl rfl) rfl rfl (by exact Rd.p T rfl) rfl (by kernel_rfl) ?_
        refine D.q (o := _) 18 [] hQ hS rfl (.take 13 true 38 _ hb28 rfl rfl rfl) rfl rfl (by exact Rd.l T rfl rfl rfl) rfl (by kernel_rfl) ?_
        refine D.q (o := _) 19 [] hQ hS rfl (.take 13 true 38 _ hb28 rfl rfl rfl) rfl rfl (by exact Rd.p T rfl) rfl (by kernel_rfl) ?_
        refine D.e (o := _) 17 rfl (.take 13 true 38 _ hb28 rfl rfl rfl) (by exact Eff.c [] (v := true) (T_taquinref12_Class s_1 s7 _ hm) en33 rfl rfl rfl (.eq rfl) trivial rfl rfl rfl rfl rfl rfl (fun _ _ => ⟨(.v _), trivial⟩) (.inr ⟨rfl, rfl⟩) (fun _ => rfl) (fun _ => rfl) rfl) (by kernel_rfl) rfl rfl (fun x29' hm => ?_)
        obtain ⟨x29⟩ := x29'
        refine D.e (o := _) 20 rfl (.take 13 true 38 _ hb28 rfl rfl rfl) (by exact Eff.c [] (v := true) (T_taquinref12_Class s_1 s18 _ hm) en33 rfl rfl rfl (.eq rfl) trivial rfl rfl rfl rfl rfl rfl (fun _ _ => ⟨(.v _), trivial⟩) (.inr ⟨rfl, rfl⟩) (fun _ => rfl) (fun _ => rfl) rfl) (by kernel_rfl) rfl rfl (fun x30' hm => ?_)
        obtain ⟨x30⟩ := x30'
        refine D.e (o := _) 21 rfl (.take 13 true 38 _ hb28 rfl rfl rfl) (by exact Eff.c [] (v := true) (T_taquinref12_Never s_1 x29 x30 _ hm) en34 rfl rfl rfl (.eq rfl) trivial rfl rfl rfl rfl rfl rfl (fun _ _ => ⟨(.v _), trivial⟩) (.inr ⟨rfl, rfl⟩) (fun _ => rfl) (fun _ => rfl) rfl) (by kernel_rfl) rfl rfl (fun x31' hm => ?_)
        obtain ⟨x31⟩ := x31'
        refine D.q (o := _) 22 [] hQ hS rfl (.none rfl) rfl rfl (by exact Rd.pk rfl rfl hb28 rfl) rfl (by kernel_rfl) ?_
        refine D.ps 1 [(23, [])] rfl hQ hS T rfl rfl (by kernel_rfl) ?_
        refine hm.cs (fun hb32 hm => ?_) (fun hb32 hm => ?_)
        ·refine D.q (o := _) 24 [] hQ hS rfl (.take 23 true 48 _ hb32 rfl rfl rfl) rfl rfl (by exact Rd.l T rfl rfl rfl) rfl (by kernel_rfl) ?_
         refine D.q (o := _) 25 [] hQ hS rfl (.take 23 true 48 _ hb32 rfl rfl rfl) rfl rfl (by exact Rd.p T rfl) rfl (by kernel_rfl) ?_
         refine D.e (o := _) 26 rfl (.take 23 true 48 _ hb32 rfl rfl rfl) (by exact Eff.c [] (v := true) (T_taquinref12_Carried st s7 _ hm) en35 rfl rfl rfl (.eq rfl) trivial rfl rfl rfl rfl rfl rfl (fun _ _ => ⟨(.v _), trivial⟩) (.inr ⟨rfl, rfl⟩) (fun _ => rfl) (fun _ => rfl) rfl) (by kernel_rfl) rfl rfl (fun x33' hm => ?_)
         obtain ⟨x33⟩ := x33'
         refine D.q (o := _) 27 [] hQ hS rfl (.take 23 true 48 _ hb32 rfl rfl rfl) rfl rfl (by exact Rd.p T rfl) rfl (by kernel_rfl) ?_
         refine D.q (o := _) 28 [] hQ hS rfl (.none rfl) rfl rfl (by exact Rd.pk rfl rfl hb32 rfl) rfl (by kernel_rfl) ?_
         refine D.ps 1 [(29, [])] rfl hQ hS T rfl rfl (by kernel_rfl) ?_
         refine hm.cs (fun hb34 hm => ?_) (fun hb34 hm => ?_)
         ·refine D.q (o := _) 30 [] hQ hS rfl (.take 29 true 54 _ hb34 rfl rfl rfl) rfl rfl (by exact Rd.l T rfl rfl rfl) rfl (by kernel_rfl) ?_
          refine D.q (o := _) 31 [] hQ hS rfl (.take 29 true 54 _ hb34 rfl rfl rfl) rfl rfl (by exact Rd.p T rfl) rfl (by kernel_rfl) ?_
          refine D.e (o := _) 32 rfl (.take 29 true 54 _ hb34 rfl rfl rfl) (by exact Eff.c [] (v := true) (T_taquinref12_Carried st s18 _ hm) en35 rfl rfl rfl (.eq rfl) trivial rfl rfl rfl rfl rfl rfl (fun _ _ => ⟨(.v _), trivial⟩) (.inr ⟨rfl, rfl⟩) (fun _ => rfl) (fun _ => rfl) rfl) (by kernel_rfl) rfl rfl (fun x35' hm => ?_)
          obtain ⟨x35⟩ := x35'
          refine D.q (o := _) 33 [] hQ hS rfl (.take 29 true 54 _ hb34 rfl rfl rfl) rfl rfl (by exact Rd.p T rfl) rfl (by kernel_rfl) ?_
          refine D.q (o := _) 34 [] hQ hS rfl (.none rfl) rfl rfl (by exact Rd.pk rfl rfl hb34 rfl) rfl (by kernel_rfl) ?_
          refine D.done (by kernel_rfl) ?_
          exact St.wk (hJ24 _ hm) (Wk.mk' [some 0, some 1] rfl rfl (.eqs rfl) ⟨⟨_, rfl, .box rfl (.eq rfl)⟩, ⟨_, rfl, .box rfl (.eq rfl)⟩, trivial⟩ rfl)
         ·refine D.sq (o := _) 30 [] hQ hS rfl (.skip 29 true 54 _ hb34 rfl rfl rfl) rfl rfl (by kernel_rfl) ?_
          refine D.sq (o := _) 31 [] hQ hS rfl (.skip 29 true 54 _ hb34 rfl rfl rfl) rfl rfl (by kernel_rfl) ?_
          refine D.sq (o := _) 32 [] hQ hS rfl (.skip 29 true 54 _ hb34 rfl rfl rfl) rfl rfl (by kernel_rfl) ?_
          refine D.sq (o := _) 33 [] hQ hS rfl (.skip 29 true 54 _ hb34 rfl rfl rfl) rfl rfl (by kernel_rfl) ?_
          refine D.q (o := _) 34 [] hQ hS rfl (.none rfl) rfl rfl (by exact Rd.pk' rfl rfl hb34 rfl) rfl (by kernel_rfl) ?_
          refine D.done (by kernel_rfl) ?_
          exact St.wk (hJ24 _ hm) (Wk.mk' [some 0, some 1] rfl rfl (.eqs rfl) ⟨⟨_, rfl, .box rfl (.eq rfl)⟩, ⟨_, rfl, .box rfl (.eq rfl)⟩, trivial⟩ rfl)
        ·refine D.sq (o := _) 24 [] hQ hS rfl (.skip 23 true 48 _ hb32 rfl rfl rfl) rfl rfl (by kernel_rfl) ?_
         refine D.sq (o := _) 25 [] hQ hS rfl (.skip 23 true 48 _ hb32 rfl rfl rfl) rfl rfl (by kernel_rfl) ?_
         refine D.sq (o := _) 26 [] hQ hS rfl (.skip 23 true 48 _ hb32 rfl rfl rfl) rfl rfl (by kernel_rfl) ?_
         refine D.sq (o := _) 27 [] hQ hS rfl (.skip 23 true 48 _ hb32 rfl rfl rfl) rfl rfl (by kernel_rfl) ?_
         refine D.q (o := _) 28 [] hQ hS rfl (.none rfl) rfl rfl (by exact Rd.pk' rfl rfl hb32 rfl) rfl (by kernel_rfl) ?_
         refine D.ps 1 [(29, [])] rfl hQ hS T rfl rfl (by kernel_rfl) ?_
         refine D.sq (o := _) 30 [] hQ hS rfl (.skip 29 true 54 _ rfl rfl rfl rfl) rfl rfl (by kernel_rfl) ?_
         refine D.sq (o := _) 31 [] hQ hS rfl (.skip 29 true 54 _ rfl rfl rfl rfl) rfl rfl (by kernel_rfl) ?_
         refine D.sq (o := _) 32 [] hQ hS rfl (.skip 29 true 54 _ rfl rfl rfl rfl) rfl rfl (by kernel_rfl) ?_
         refine D.sq (o := _) 33 [] hQ hS rfl (.skip 29 true 54 _ rfl rfl rfl rfl) rfl rfl (by kernel_rfl) ?_
         refine D.q (o := _) 34 [] hQ hS rfl (.none rfl) rfl rfl (by exact Rd.pk' rfl rfl rfl rfl) rfl (by kernel_rfl) ?_
         refine D.done (by kernel_rfl) ?_
         exact St.wk (hJ24 _ hm) (Wk.mk' [some 0, some 1] rfl rfl (.eqs rfl) ⟨⟨_, rfl, .box rfl (.eq rfl)⟩, ⟨_, rfl, .box rfl (.eq rfl)⟩, trivial⟩ rfl)
       ·refine D.sq (o := _) 14 [] hQ hS rfl (.skip 13 true 38 _ hb28 rfl rfl rfl) rfl rfl (by kernel_rfl) ?_
        refine D.sq (o := _) 15 [] hQ hS rfl (.skip 13 true 38 _ hb28 rfl rfl rfl) rfl rfl (by kernel_rfl) ?_
        refine D.sq (o := _) 16 [] hQ hS rfl (.skip 13 true 38 _ hb28 rfl rfl rfl) rfl rfl (by kernel_rfl) ?_
        refine D.sq (o := _) 17 [] hQ hS rfl (.skip 13 true 38 _ hb28 rfl rfl rfl) rfl rfl (by kernel_rfl) ?_
        refine D.sq (o := _) 18 [] hQ hS rfl (.skip 13 true 38 _ hb28 rfl rfl rfl) rfl rfl (by kernel_rfl) ?_
        refine D.sq (o := _) 19 [] hQ hS rfl (.skip 13 true 38 _ hb28 rfl rfl rfl) rfl rfl (by kernel_rfl) ?_
        refine D.sq (o := _) 20 [] hQ hS rfl (.skip 13 true 38 _ hb28 rfl rfl rfl) rfl rfl (by kernel_rfl) ?_
        refine D.sq (o := _) 21 [] hQ hS rfl (.skip 13 true 38 _ hb28 rfl rfl rfl) rfl rfl (by kernel_rfl) ?_
        refine D.q (o := _) 22 [] hQ hS rfl (.none rfl) rfl rfl (by exact Rd.pk' rfl rfl hb28 rfl) rfl (by kernel_rfl) ?_
        refine D.ps 1 [(23, [])] rfl hQ hS T rfl rfl (by kernel_rfl) ?_
        refine D.sq (o := _) 24 [] hQ hS rfl (.skip 23 true 48 _ rfl rfl rfl rfl) rfl rfl (by kernel_rfl) ?_
        refine D.sq (o := _) 25 [] hQ hS rfl (.skip 23 true 48 _ rfl rfl rfl rfl) rfl rfl (by kernel_rfl) ?_
        refine D.sq (o := _) 26 [] hQ hS rfl (.skip 23 true 48 _ rfl rfl rfl rfl) rfl rfl (by kernel_rfl) ?_
        refine D.sq (o := _) 27 [] hQ hS rfl (.skip 23 true 48 _ rfl rfl rfl rfl) rfl rfl (by kernel_rfl) ?_
        refine D.q (o := _) 28 [] hQ hS rfl (.none rfl) rfl rfl (by exact Rd.pk' rfl rfl rfl rfl) rfl (by kernel_rfl) ?_
        refine D.ps 1 [(29, [])] rfl hQ hS T rfl rfl (by kernel_rfl) ?_
        refine D.sq (o := _) 30 [] hQ hS rfl (.skip 29 true 54 _ rfl rfl rfl rfl) rfl rfl (by kernel_rfl) ?_
        refine D.sq (o := _) 31 [] hQ hS rfl (.skip 29 true 54 _ rfl rfl rfl rfl) rfl rfl (by kernel_rfl) ?_
        refine D.sq (o := _) 32 [] hQ hS rfl (.skip 29 true 54 _ rfl rfl rfl rfl) rfl rfl (by kernel_rfl) ?_
        refine D.sq (o := _) 33 [] hQ hS rfl (.skip 29 true 54 _ rfl rfl rfl rfl) rfl rfl (by kernel_rfl) ?_
        refine D.q (o := _) 34 [] hQ hS rfl (.none rfl) rfl rfl (by exact Rd.pk' rfl rfl rfl rfl) rfl (by kernel_rfl) ?_
        refine D.done (by kernel_rfl) ?_
        exact St.wk (hJ24 _ hm) (Wk.mk' [some 0, some 1] rfl rfl (.eqs rfl) ⟨⟨_, rfl, .box rfl (.eq rfl)⟩, ⟨_, rfl, .box rfl (.eq rfl)⟩, trivial⟩ rfl)
     ·refine C.exit (C.ex (C.ex (C.bex ?_)))
      exact St.wk (hJ17 _ hm) (Wk.mk' [some 0, some 1] rfl rfl (.eqs rfl) ⟨⟨_, rfl, .box rfl (.eq rfl)⟩, ⟨_, rfl, .box rfl (.eq rfl)⟩, trivial⟩ rfl)
  ·refine C.exit (C.ex (C.ex (C.bex ?_)))
   exact St.wk (hJ6 _ hm) (Wk.mk' [] rfl rfl trivial trivial rfl)
theorem T_taquinlaw12_RulesTell (s_1 : ApiSite) (st : ApiState) (c : Int) (n : Int) (a : ByteArray) (b : ByteArray) (post : Bool → Prop) (hm : V_taquinlaw12_RulesTell s_1 st c n a b post) :
    Tr Try.prog 7 [.agg (eApiSite s_1), .agg (eApiState st), .i c, .i n, .v (.string a), .v (.string b)] [] 0 (fun A H' k => ∃ y, post y ∧ A = (.b y) ∧ H' = [] ∧ k = 0) := by
 refine Tr.intro (n := 192) Try.func7 rfl Try.ntmps7 rfl (fun w0 ok F β hβ => ?_)
 unfold V_taquinlaw12_RulesTell at hm
 refine C.seq (U.start ?_)
 refine U.e1 (o := _) rfl (.none rfl) (by exact Eff1.box rfl rfl rfl rfl rfl) ?_
 refine U.e1 (o := _) rfl (.none rfl) (by exact Eff1.box rfl rfl rfl rfl rfl) ?_
 refine U.ps 1 T rfl ?_
 refine U.done (C.nx (C.seq (U.start ?_)))
 refine U.e (o := _) rfl (.none rfl) (by exact Eff.c [] (v := true) (T_taquinlaw12_small _ hm) en8 rfl rfl rfl (.eq rfl) trivial rfl rfl rfl rfl rfl rfl (fun _ _ => ⟨(.v _), trivial⟩) (.inr ⟨rfl, rfl⟩) (fun _ => rfl) (fun _ => rfl) rfl) (fun x5' hm => ?_)
 obtain ⟨x5⟩ := x5'
 refine U.ps 1 T rfl ?_
 refine U.done (C.nx (C.seq (C.seq ?_)))
 refine C.jn (fun (x6 : Bool) => [(2, .i c), (3, .i n), (4, .v (.string a)), (5, .v (.string b)), (6, .p 0 0), (7, .p 1 0), (13, .b x5), (37, .b x6)]) (fun (x6 : Bool) => [(0, .box (eApiSite s_1)), (1, .box (eApiState st))]) 2 hm (fun x6 hm => ?_) (fun J7 hm hJ7 => ?_)
 ·refine C.nx ?_
  refine C.ite rfl hm (fun hb11 hm => ?_) (fun hb11 hm => ?_)
  ·refine C.seq (U.start ?_)
   refine U.ps 2 T rfl ?_
   refine U.done (C.nx (C.ret (C.rt ?_)))
   exact C.fin T (rs' := [.b x5]) (H' := []) (nl' := 0) [] rfl rfl (.eq rfl) trivial rfl rfl rfl rfl hβ ⟨x5, hm, rfl, rfl, rfl⟩
  ·refine C.skip (C.nx (C.seq ?_))
   refine C.jn (fun (x14 : Bool) => [(2, .i c), (3, .i n), (4, .v (.string a)), (5, .v (.string b)), (6, .p 0 0), (7, .p 1 0), (13, .b x5), (14, .b x14)]) (fun (x14 : Bool) => [(0, .box (eApiSite s_1)), (1, .box (eApiState st))]) 2 hm (fun x14 hm => ?_) (fun J15 hm hJ15 => ?_)
   ·refine C.nx (C.seq ?_)
    refine C.jn (fun (x27 : Bool) => [(2, .i c), (3, .i n), (6, .p 0 0), (7, .p 1 0), (13, .b x5), (14, .b x14), (15, .b x27)]) (fun (x27 : Bool) => [(0, .box (eApiSite s_1)), (1, .box (eApiState st))]) 2 hm (fun x27 hm => ?_) (fun J28 hm hJ28 => ?_)
    ·refine C.nx (C.seq ?_)
     refine C.jn (fun (x41 : Bool) => [(6, .p 0 0), (7, .p 1 0), (13, .b x5), (14, .b x14), (15, .b x27), (16, .b x41)]) (fun (x41 : Bool) => [(0, .box (eApiSite s_1)), (1, .box (eApiState st))]) 2 hm (fun x41 hm => ?_) (fun J42 hm hJ42 => ?_)
     ·refine C.nx (C.seq (U.start ?_))
      refine U.ps 2 T rfl ?_
      refine U.e (o := _) rfl (.none rfl) (by exact Eff.c [] (v := true) (T_rules_Apart s_1 st _ hm) en10 rfl rfl rfl (.eq rfl) trivial rfl rfl rfl rfl rfl rfl (fun _ _ => ⟨(.tup (.cons (.v _) (.cons (.v _) (.cons (.v _) .nil)))), trivial⟩) (.inr ⟨rfl, rfl⟩) (fun _ => rfl) (fun _ => rfl) rfl) (fun x56' hm => ?_)
      obtain ⟨x56⟩ := x56'
      refine U.ps 7 T rfl ?_
      refine U.done (C.nx (C.seq (U.start ?_)))
      refine U.ps 2 T rfl ?_
      refine U.e (o := _) rfl (.none rfl) (by exact Eff.c [] (v := true) (T_taquinref12_Apart s_1 st _ hm) en40 rfl rfl rfl (.eq rfl) trivial rfl rfl rfl rfl rfl rfl (fun _ _ => ⟨(.tup (.cons (.v _) (.cons (.v _) (.cons (.v _) .nil)))), trivial⟩) (.inr ⟨rfl, rfl⟩) (fun _ => rfl) (fun _ => rfl) rfl) (fun x59' hm => ?_)
      obtain ⟨x59⟩ := x59'
      refine U.ps 7 T rfl ?_
      refine U.done (C.nx (C.seq ?_))
      refine C.jn (fun (x60 : Bool) => [(12, .b x60)]) (fun (x60 : Bool) => []) 0 hm (fun x60 hm => ?_) (fun J61 hm hJ61 => ?_)
      ·refine C.nx (C.ret ?_)
       exact C.fin T (rs' := [.b x60]) (H' := []) (nl' := 0) [] rfl rfl (.eq rfl) trivial rfl rfl rfl rfl hβ ⟨x60, hm, rfl, rfl, rfl⟩
      ·refine U.start ?_
       refine U.ps 2 T rfl ?_
       refine hm.cs (fun hb62 hm => ?_) (fun hb62 hm => ?_)
       ·refine U.pg 1 1 true 168 hb62 T rfl rfl rfl rfl ?_
        refine U.r (o := _) rfl (.none rfl) rfl rfl (by exact Rd.pk rfl rfl hb62 rfl) ?_
        refine U.ps 1 T rfl ?_
        refine hm.cs (fun hb63 hm => ?_) (fun hb63 hm => ?_)
        ·refine U.pg 1 4 true 171 hb63 T rfl rfl rfl rfl ?_
         refine U.r (o := _) rfl (.none rfl) rfl rfl (by exact Rd.pk rfl rfl hb63 rfl) ?_
         refine U.ps 1 T rfl ?_
         refine hm.cs (fun hb64 hm => ?_) (fun hb64 hm => ?_)
         ·refine U.pg 1 7 true 174 hb64 T rfl rfl rfl rfl ?_
          refine U.r (o := _) rfl (.none rfl) rfl rfl (by exact Rd.pk rfl rfl hb64 rfl) ?_
          refine U.ps 1 T rfl ?_
          refine hm.cs (fun hb65 hm => ?_) (fun hb65 hm => ?_)
          ·refine U.pg 3 10 true 177 hb65 T rfl rfl rfl rfl ?_
           refine U.r (o := _) rfl (.none rfl) rfl rfl (by exact Rd.pk rfl rfl hb65 rfl) ?_
           refine U.ps 1 T rfl ?_
           refine hm.cs (fun hb66 hm => ?_) (fun hb66 hm => ?_)
           ·refine U.pg 3 15 true 182 hb66 T rfl rfl rfl rfl ?_
            refine U.r (o := _) rfl (.none rfl) rfl rfl (by exact Rd.pk rfl rfl hb66 rfl) ?_
            refine U.ps 1 T rfl ?_
            refine hm.cs (fun hb67 hm => ?_) (fun hb67 hm => ?_)
            ·refine U.pg 3 20 true 187 hb67 T rfl rfl rfl rfl ?_
             refine U.r (o := _) rfl (.none rfl) rfl rfl (by exact Rd.pk rfl rfl hb67 rfl) ?_
             refine U.ps 1 T rfl ?_
             refine U.done ?_
             exact St.wk (hJ61 _ hm) (Wk.mk' [] rfl rfl (.eqs rfl) trivial rfl)
            ·refine U.sks 3 20 true 187 hb67 rfl rfl rfl ?_
             refine U.r (o := _) rfl (.none rfl) rfl rfl (by exact Rd.pk' rfl rfl hb67 rfl) ?_
             refine U.ps 1 T rfl ?_
             refine U.done ?_
             exact St.wk (hJ61 _ hm) (Wk.mk' [] rfl rfl (.eqs rfl) trivial rfl)
           ·refine U.sks 3 15 true 182 hb66 rfl rfl rfl ?_
            refine U.r (o := _) rfl (.none rfl) rfl rfl (by exact Rd.pk' rfl rfl hb66 rfl) ?_
            refine U.ps 1 T rfl ?_
            refine U.sks 3 20 true 187 rfl rfl rfl rfl ?_
            refine U.r (o := _) rfl (.none rfl) rfl rfl (by exact Rd.pk' rfl rfl rfl rfl) ?_
            refine U.ps 1 T rfl ?_
            refine U.done ?_
            exact St.wk (hJ61 _ hm) (Wk.mk' [] rfl rfl (.eqs rfl) trivial rfl)
          ·refine U.sks 3 10 true 177 hb65 rfl rfl rfl ?_
           refine U.r (o := _) rfl (.none rfl) rfl rfl (by exact Rd.pk' rfl rfl hb65 rfl) ?_
           refine U.ps 1 T rfl ?_
           refine U.sks 3 15 true 182 rfl rfl rfl rfl ?_
           refine U.r (o := _) rfl (.none rfl) rfl rfl (by exact Rd.pk' rfl rfl rfl rfl) ?_
           refine U.ps 1 T rfl ?_
           refine U.sks 3 20 true 187 rfl rfl rfl rfl ?_
           refine U.r (o := _) rfl (.none rfl) rfl rfl (by exact Rd.pk' rfl rfl rfl rfl) ?_
           refine U.ps 1 T rfl ?_
           refine U.done ?_
           exact St.wk (hJ61 _ hm) (Wk.mk' [] rfl rfl (.eqs rfl) trivial rfl)
         ·refine U.sks 1 7 true 174 hb64 rfl rfl rfl ?_
          refine U.r (o := _) rfl (.none rfl) rfl rfl (by exact Rd.pk' rfl rfl hb64 rfl) ?_
          refine U.ps 1 T rfl ?_
          refine U.sks 3 10 true 177 rfl rfl rfl rfl ?_
          refine U.r (o := _) rfl (.none rfl) rfl rfl (by exact Rd.pk' rfl rfl rfl rfl) ?_
          refine U.ps 1 T rfl ?_
          refine U.sks 3 15 true 182 rfl rfl rfl rfl ?_
          refine U.r (o := _) rfl (.none rfl) rfl rfl (by exact Rd.pk' rfl rfl rfl rfl) ?_
          refine U.ps 1 T rfl ?_
          refine U.sks 3 20 true 187 rfl rfl rfl rfl ?_
          refine U.r (o := _) rfl (.none rfl) rfl rfl (by exact Rd.pk' rfl rfl rfl rfl) ?_
          refine U.ps 1 T rfl ?_
          refine U.done ?_
          exact St.wk (hJ61 _ hm) (Wk.mk' [] rfl rfl (.eqs rfl) trivial rfl)
        ·refine U.sks 1 4 true 171 hb63 rfl rfl rfl ?_
         refine U.r (o := _) rfl (.none rfl) rfl rfl (by exact Rd.pk' rfl rfl hb63 rfl) ?_
         refine U.ps 1 T rfl ?_
         refine U.sks 1 7 true 174 rfl rfl rfl rfl ?_
         refine U.r (o := _) rfl (.none rfl) rfl rfl (by exact Rd.pk' rfl rfl rfl rfl) ?_
         refine U.ps 1 T rfl ?_
         refine U.sks 3 10 true 177 rfl rfl rfl rfl ?_
         refine U.r (o := _) rfl (.none rfl) rfl rfl (by exact Rd.pk' rfl rfl rfl rfl) ?_
         refine U.ps 1 T rfl ?_
         refine U.sks 3 15 true 182 rfl rfl rfl rfl ?_
         refine U.r (o := _) rfl (.none rfl) rfl rfl (by exact Rd.pk' rfl rfl rfl rfl) ?_
         refine U.ps 1 T rfl ?_
         refine U.sks 3 20 true 187 rfl rfl rfl rfl ?_
         refine U.r (o := _) rfl (.none rfl) rfl rfl (by exact Rd.pk' rfl rfl rfl rfl) ?_
         refine U.ps 1 T rfl ?_
         refine U.done ?_
         exact St.wk (hJ61 _ hm) (Wk.mk' [] rfl rfl (.eqs rfl) trivial rfl)
       ·refine U.sks 1 1 true 168 hb62 rfl rfl rfl ?_
        refine U.r (o := _) rfl (.none rfl) rfl rfl (by exact Rd.pk' rfl rfl hb62 rfl) ?_
        refine U.ps 1 T rfl ?_
        refine U.sks 1 4 true 171 rfl rfl rfl rfl ?_
        refine U.r (o := _) rfl (.none rfl) rfl rfl (by exact Rd.pk' rfl rfl rfl rfl) ?_
        refine U.ps 1 T rfl ?_
        refine U.sks 1 7 true 174 rfl rfl rfl rfl ?_
        refine U.r (o := _) rfl (.none rfl) rfl rfl (by exact Rd.pk' rfl rfl rfl rfl) ?_
        refine U.ps 1 T rfl ?_
        refine U.sks 3 10 true 177 rfl rfl rfl rfl ?_
        refine U.r (o := _) rfl (.none rfl) rfl rfl (by exact Rd.pk' rfl rfl rfl rfl) ?_
        refine U.ps 1 T rfl ?_
        refine U.sks 3 15 true 182 rfl rfl rfl rfl ?_
        refine U.r (o := _) rfl (.none rfl) rfl rfl (by exact Rd.pk' rfl rfl rfl rfl) ?_
        refine U.ps 1 T rfl ?_
        refine U.sks 3 20 true 187 rfl rfl rfl rfl ?_
        refine U.r (o := _) rfl (.none rfl) rfl rfl (by exact Rd.pk' rfl rfl rfl rfl) ?_
        refine U.ps 1 T rfl ?_
        refine U.done ?_
        exact St.wk (hJ61 _ hm) (Wk.mk' [] rfl rfl (.eqs rfl) trivial rfl)
     ·refine D.beg 9999 [0, 1] [] mix rfl rfl (by kernel_rfl) (by repeat (first | exact NoPanicQ.body | exact NoPanicQ.rnd | refine NoPanicQ.th ?_ | refine NoPanicQ.blk ?_)) (fun hQ hS ws M' => ?_)
      refine D.ps 6 [(0, []), (1, []), (2, []), (4, []), (5, []), (6, [])] rfl hQ hS T rfl rfl (by kernel_rfl) ?_
      refine D.e (o := _) 3 rfl (.none rfl) (by exact Eff.c [] (v := true) (T_rules_At s_1 st c _ hm) en17 rfl rfl rfl (.eq rfl) trivial rfl rfl rfl rfl rfl rfl (fun _ _ => ⟨(.v _), trivial⟩) (.inr ⟨rfl, rfl⟩) (fun _ => rfl) (fun _ => rfl) rfl) (by kernel_rfl) rfl rfl (fun x43' hm => ?_)
      obtain ⟨x43⟩ := x43'
      refine D.e (o := _) 7 rfl (.none rfl) (by exact Eff.c [] (v := true) (T_taquinref12_At s_1 st c _ hm) en36 rfl rfl rfl (.eq rfl) trivial rfl rfl rfl rfl rfl rfl (fun _ _ => ⟨(.v _), trivial⟩) (.inr ⟨rfl, rfl⟩) (fun _ => rfl) (fun _ => rfl) rfl) (by kernel_rfl) rfl rfl (fun x44' hm => ?_)
      obtain ⟨x44⟩ := x44'
      refine D.ps 2 [(8, []), (9, [])] rfl hQ hS T rfl rfl (by kernel_rfl) ?_
      refine hm.cs (fun hb45 hm => ?_) (fun hb45 hm => ?_)
      ·refine D.q (o := _) 10 [] hQ hS rfl (.take 9 true 120 _ hb45 rfl rfl rfl) rfl rfl (by exact Rd.l T rfl rfl rfl) rfl (by kernel_rfl) ?_
       refine D.q (o := _) 11 [] hQ hS rfl (.take 9 true 120 _ hb45 rfl rfl rfl) rfl rfl (by exact Rd.l T rfl rfl rfl) rfl (by kernel_rfl) ?_
       refine D.q (o := _) 12 [] hQ hS rfl (.take 9 true 120 _ hb45 rfl rfl rfl) rfl rfl (by exact Rd.p T rfl) rfl (by kernel_rfl) ?_
       refine D.q (o := _) 14 [] hQ hS rfl (.take 9 true 120 _ hb45 rfl rfl rfl) rfl rfl (by exact Rd.l T rfl rfl rfl) rfl (by kernel_rfl) ?_
       refine D.q (o := _) 15 [] hQ hS rfl (.take 9 true 120 _ hb45 rfl rfl rfl) rfl rfl (by exact Rd.l T rfl rfl rfl) rfl (by kernel_rfl) ?_
       refine D.q (o := _) 16 [] hQ hS rfl (.take 9 true 120 _ hb45 rfl rfl rfl) rfl rfl (by exact Rd.p T rfl) rfl (by kernel_rfl) ?_
       refine D.e (o := _) 13 rfl (.take 9 true 120 _ hb45 rfl rfl rfl) (by exact Eff.c [] (v := true) (T_rules_Room s_1 st n _ hm) en19 rfl rfl rfl (.eq rfl) trivial rfl rfl rfl rfl rfl rfl (fun _ _ => ⟨(.v _), trivial⟩) (.inr ⟨rfl, rfl⟩) (fun _ => rfl) (fun _ => rfl) rfl) (by kernel_rfl) rfl rfl (fun x46' hm => ?_)
       obtain ⟨x46⟩ := x46'
       refine D.e (o := _) 17 rfl (.take 9 true 120 _ hb45 rfl rfl rfl) (by exact Eff.c [] (v := true) (T_taquinref12_Room s_1 st n _ hm) en37 rfl rfl rfl (.eq rfl) trivial rfl rfl rfl rfl rfl rfl (fun _ _ => ⟨(.v _), trivial⟩) (.inr ⟨rfl, rfl⟩) (fun _ => rfl) (fun _ => rfl) rfl) (by kernel_rfl) rfl rfl (fun x47' hm => ?_)
       obtain ⟨x47⟩ := x47'
       refine D.q (o := _) 18 [] hQ hS rfl (.take 9 true 120 _ hb45 rfl rfl rfl) rfl rfl (by exact Rd.p T rfl) rfl (by kernel_rfl) ?_
       refine D.q (o := _) 19 [] hQ hS rfl (.none rfl) rfl rfl (by exact Rd.pk rfl rfl hb45 rfl) rfl (by kernel_rfl) ?_
       refine D.ps 1 [(20, [])] rfl hQ hS T rfl rfl (by kernel_rfl) ?_
       refine hm.cs (fun hb48 hm => ?_) (fun hb48 hm => ?_)
       ·refine D.q (o := _) 21 [] hQ hS rfl (.take 20 true 131 _ hb48 rfl rfl rfl) rfl rfl (by exact Rd.l T rfl rfl rfl) rfl (by kernel_rfl) ?_
        refine D.q (o := _) 22 [] hQ hS rfl (.take 20 true 131 _ hb48 rfl rfl rfl) rfl rfl (by exact Rd.l T rfl rfl rfl) rfl (by kernel_rfl) ?_
        refine D.q (o := _) 24 [] hQ hS rfl (.take 20 true 131 _ hb48 rfl rfl rfl) rfl rfl (by exact Rd.l T rfl rfl rfl) rfl (by kernel_rfl) ?_
        refine D.q (o := _) 25 [] hQ hS rfl (.take 20 true 131 _ hb48 rfl rfl rfl) rfl rfl (by exact Rd.l T rfl rfl rfl) rfl (by kernel_rfl) ?_
        refine D.e (o := _) 23 rfl (.take 20 true 131 _ hb48 rfl rfl rfl) (by exact Eff.c [] (v := true) (T_rules_Keeps s_1 st _ hm) en26 rfl rfl rfl (.eq rfl) trivial rfl rfl rfl rfl rfl rfl (fun _ _ => ⟨(.v _), trivial⟩) (.inr ⟨rfl, rfl⟩) (fun _ => rfl) (fun _ => rfl) rfl) (by kernel_rfl) rfl rfl (fun x49' hm => ?_)
        obtain ⟨x49⟩ := x49'
        refine D.e (o := _) 26 rfl (.take 20 true 131 _ hb48 rfl rfl rfl) (by exact Eff.c [] (v := true) (T_taquinref12_Keeps s_1 st _ hm) en38 rfl rfl rfl (.eq rfl) trivial rfl rfl rfl rfl rfl rfl (fun _ _ => ⟨(.v _), trivial⟩) (.inr ⟨rfl, rfl⟩) (fun _ => rfl) (fun _ => rfl) rfl) (by kernel_rfl) rfl rfl (fun x50' hm => ?_)
        obtain ⟨x50⟩ := x50'
        refine D.q (o := _) 27 [] hQ hS rfl (.take 20 true 131 _ hb48 rfl rfl rfl) rfl rfl (by exact Rd.p T rfl) rfl (by kernel_rfl) ?_
        refine D.q (o := _) 28 [] hQ hS rfl (.none rfl) rfl rfl (by exact Rd.pk rfl rfl hb48 rfl) rfl (by kernel_rfl) ?_
        refine D.ps 1 [(29, [])] rfl hQ hS T rfl rfl (by kernel_rfl) ?_
        refine hm.cs (fun hb51 hm => ?_) (fun hb51 hm => ?_)
        ·refine D.q (o := _) 30 [] hQ hS rfl (.take 29 true 140 _ hb51 rfl rfl rfl) rfl rfl (by exact Rd.l T rfl rfl rfl) rfl (by kernel_rfl) ?_
         refine D.q (o := _) 31 [] hQ hS rfl (.take 29 true 140 _ hb51 rfl rfl rfl) rfl rfl (by exact Rd.l T rfl rfl rfl) rfl (by kernel_rfl) ?_
         refine D.q (o := _) 32 [] hQ hS rfl (.take 29 true 140 _ hb51 rfl rfl rfl) rfl rfl (by exact Rd.p T rfl) rfl (by kernel_rfl) ?_
         refine D.q (o := _) 33 [] hQ hS rfl (.take 29 true 140 _ hb51 rfl rfl rfl) rfl rfl (by exact Rd.p T rfl) rfl (by kernel_rfl) ?_
         refine D.q (o := _) 35 [] hQ hS rfl (.take 29 true 140 _ hb51 rfl rfl rfl) rfl rfl (by exact Rd.l T rfl rfl rfl) rfl (by kernel_rfl) ?_
         refine D.q (o := _) 36 [] hQ hS rfl (.take 29 true 140 _ hb51 rfl rfl rfl) rfl rfl (by exact Rd.l T rfl rfl rfl) rfl (by kernel_rfl) ?_
         refine D.q (o := _) 37 [] hQ hS rfl (.take 29 true 140 _ hb51 rfl rfl rfl) rfl rfl (by exact Rd.p T rfl) rfl (by kernel_rfl) ?_
         refine D.q (o := _) 38 [] hQ hS rfl (.take 29 true 140 _ hb51 rfl rfl rfl) rfl rfl (by exact Rd.p T rfl) rfl (by kernel_rfl) ?_
         refine D.e (o := _) 34 rfl (.take 29 true 140 _ hb51 rfl rfl rfl) (by exact Eff.c [] (v := true) (T_rules_Drop s_1 st n c _ hm) en15 rfl rfl rfl (.eq rfl) trivial rfl rfl rfl rfl rfl rfl (fun _ _ => ⟨(.v _), trivial⟩) (.inr ⟨rfl, rfl⟩) (fun _ => rfl) (fun _ => rfl) rfl) (by kernel_rfl) rfl rfl (fun x52' hm => ?_)
         obtain ⟨x52⟩ := x52'
         refine D.e (o := _) 39 rfl (.take 29 true 140 _ hb51 rfl rfl rfl) (by exact Eff.c [] (v := true) (T_taquinref12_Drop s_1 st n c _ hm) en39 rfl rfl rfl (.eq rfl) trivial rfl rfl rfl rfl rfl rfl (fun _ _ => ⟨(.v _), trivial⟩) (.inr ⟨rfl, rfl⟩) (fun _ => rfl) (fun _ => rfl) rfl) (by kernel_rfl) rfl rfl (fun x53' hm => ?_)
         obtain ⟨x53⟩ := x53'
         refine D.q (o := _) 40 [] hQ hS rfl (.take 29 true 140 _ hb51 rfl rfl rfl) rfl rfl (by exact Rd.p T rfl) rfl (by kernel_rfl) ?_
         refine D.q (o := _) 41 [] hQ hS rfl (.none rfl) rfl rfl (by exact Rd.pk rfl rfl hb51 rfl) rfl (by kernel_rfl) ?_
         refine D.ps 1 [(42, [])] rfl hQ hS T rfl rfl (by kernel_rfl) ?_
         refine D.done (by kernel_rfl) ?_
         exact St.wk (hJ42 _ hm) (Wk.mk' [some 0, some 1] rfl rfl (.eqs rfl) ⟨⟨_, rfl, .box rfl (.eq rfl)⟩, ⟨_, rfl, .box rfl (.eq rfl)⟩, trivial⟩ rfl)
        ·refine D.sq (o := _) 30 [] hQ hS rfl (.skip 29 true 140 _ hb51 rfl rfl rfl) rfl rfl (by kernel_rfl) ?_
         refine D.sq (o := _) 31 [] hQ hS rfl (.skip 29 true 140 _ hb51 rfl rfl rfl) rfl rfl (by kernel_rfl) ?_
         refine D.sq (o := _) 32 [] hQ hS rfl (.skip 29 true 140 _ hb51 rfl rfl rfl) rfl rfl (by kernel_rfl) ?_
         refine D.sq (o := _) 33 [] hQ hS rfl (.skip 29 true 140 _ hb51 rfl rfl rfl) rfl rfl (by kernel_rfl) ?_
         refine D.sq (o := _) 34 [] hQ hS rfl (.skip 29 true 140 _ hb51 rfl rfl rfl) rfl rfl (by kernel_rfl) ?_
         refine D.sq (o := _) 35 [] hQ hS rfl (.skip 29 true 140 _ hb51 rfl rfl rfl) rfl rfl (by kernel_rfl) ?_
         refine D.sq (o := _) 36 [] hQ hS rfl (.skip 29 true 140 _ hb51 rfl rfl rfl) rfl rfl (by kernel_rfl) ?_
         refine D.sq (o := _) 37 [] hQ hS rfl (.skip 29 true 140 _ hb51 rfl rfl rfl) rfl rfl (by kernel_rfl) ?_
         refine D.sq (o := _) 38 [] hQ hS rfl (.skip 29 true 140 _ hb51 rfl rfl rfl) rfl rfl (by kernel_rfl) ?_
         refine D.sq (o := _) 39 [] hQ hS rfl (.skip 29 true 140 _ hb51 rfl rfl rfl) rfl rfl (by kernel_rfl) ?_
         refine D.sq (o := _) 40 [] hQ hS rfl (.skip 29 true 140 _ hb51 rfl rfl rfl) rfl rfl (by kernel_rfl) ?_
         refine D.q (o := _) 41 [] hQ hS rfl (.none rfl) rfl rfl (by exact Rd.pk' rfl rfl hb51 rfl) rfl (by kernel_rfl) ?_
         refine D.ps 1 [(42, [])] rfl hQ hS T rfl rfl (by kernel_rfl) ?_
         refine D.done (by kernel_rfl) ?_
         exact St.wk (hJ42 _ hm) (Wk.mk' [some 0, some 1] rfl rfl (.eqs rfl) ⟨⟨_, rfl, .box rfl (.eq rfl)⟩, ⟨_, rfl, .box rfl (.eq rfl)⟩, trivial⟩ rfl)
       ·refine D.sq (o := _) 21 [] hQ hS rfl (.skip 20 true 131 _ hb48 rfl rfl rfl) rfl rfl (by kernel_rfl) ?_
        refine D.sq (o := _) 22 [] hQ hS rfl (.skip 20 true 131 _ hb48 rfl rfl rfl) rfl rfl (by kernel_rfl) ?_
        refine D.sq (o := _) 23 [] hQ hS rfl (.skip 20 true 131 _ hb48 rfl rfl rfl) rfl rfl (by kernel_rfl) ?_
        refine D.sq (o := _) 24 [] hQ hS rfl (.skip 20 true 131 _ hb48 rfl rfl rfl) rfl rfl (by kernel_rfl) ?_
        refine D.sq (o := _) 25 [] hQ hS rfl (.skip 20 true 131 _ hb48 rfl rfl rfl) rfl rfl (by kernel_rfl) ?_
        refine D.sq (o := _) 26 [] hQ hS rfl (.skip 20 true 131 _ hb48 rfl rfl rfl) rfl rfl (by kernel_rfl) ?_
        refine D.sq (o := _) 27 [] hQ hS rfl (.skip 20 true 131 _ hb48 rfl rfl rfl) rfl rfl (by kernel_rfl) ?_
        refine D.q (o := _) 28 [] hQ hS rfl (.none rfl) rfl rfl (by exact Rd.pk' rfl rfl hb48 rfl) rfl (by kernel_rfl) ?_
        refine D.ps 1 [(29, [])] rfl hQ hS T rfl rfl (by kernel_rfl) ?_
        refine D.sq (o := _) 30 [] hQ hS rfl (.skip 29 true 140 _ rfl rfl rfl rfl) rfl rfl (by kernel_rfl) ?_
        refine D.sq (o := _) 31 [] hQ hS rfl (.skip 29 true 140 _ rfl rfl rfl rfl) rfl rfl (by kernel_rfl) ?_
        refine D.sq (o := _) 32 [] hQ hS rfl (.skip 29 true 140 _ rfl rfl rfl rfl) rfl rfl (by kernel_rfl) ?_
        refine D.sq (o := _) 33 [] hQ hS rfl (.skip 29 true 140 _ rfl rfl rfl rfl) rfl rfl (by kernel_rfl) ?_
        refine D.sq (o := _) 34 [] hQ hS rfl (.skip 29 true 140 _ rfl rfl rfl rfl) rfl rfl (by kernel_rfl) ?_
        refine D.sq (o := _) 35 [] hQ hS rfl (.skip 29 true 140 _ rfl rfl rfl rfl) rfl rfl (by kernel_rfl) ?_
        refine D.sq (o := _) 36 [] hQ hS rfl (.skip 29 true 140 _ rfl rfl rfl rfl) rfl rfl (by kernel_rfl) ?_
        refine D.sq (o := _) 37 [] hQ hS rfl (.skip 29 true 140 _ rfl rfl rfl rfl) rfl rfl (by kernel_rfl) ?_
        refine D.sq (o := _) 38 [] hQ hS rfl (.skip 29 true 140 _ rfl rfl rfl rfl) rfl rfl (by kernel_rfl) ?_
        refine D.sq (o := _) 39 [] hQ hS rfl (.skip 29 true 140 _ rfl rfl rfl rfl) rfl rfl (by kernel_rfl) ?_
        refine D.sq (o := _) 40 [] hQ hS rfl (.skip 29 true 140 _ rfl rfl rfl rfl) rfl rfl (by kernel_rfl) ?_
        refine D.q (o := _) 41 [] hQ hS rfl (.none rfl) rfl rfl (by exact Rd.pk' rfl rfl rfl rfl) rfl (by kernel_rfl) ?_
        refine D.ps 1 [(42, [])] rfl hQ hS T rfl rfl (by kernel_rfl) ?_
        refine D.done (by kernel_rfl) ?_
        exact St.wk (hJ42 _ hm) (Wk.mk' [some 0, some 1] rfl rfl (.eqs rfl) ⟨⟨_, rfl, .box rfl (.eq rfl)⟩, ⟨_, rfl, .box rfl (.eq rfl)⟩, trivial⟩ rfl)
      ·refine D.sq (o := _) 10 [] hQ hS rfl (.skip 9 true 120 _ hb45 rfl rfl rfl) rfl rfl (by kernel_rfl) ?_
       refine D.sq (o := _) 11 [] hQ hS rfl (.skip 9 true 120 _ hb45 rfl rfl rfl) rfl rfl (by kernel_rfl) ?_
       refine D.sq (o := _) 12 [] hQ hS rfl (.skip 9 true 120 _ hb45 rfl rfl rfl) rfl rfl (by kernel_rfl) ?_
       refine D.sq (o := _) 13 [] hQ hS rfl (.skip 9 true 120 _ hb45 rfl rfl rfl) rfl rfl (by kernel_rfl) ?_
       refine D.sq (o := _) 14 [] hQ hS rfl (.skip 9 true 120 _ hb45 rfl rfl rfl) rfl rfl (by kernel_rfl) ?_
       refine D.sq (o := _) 15 [] hQ hS rfl (.skip 9 true 120 _ hb45 rfl rfl rfl) rfl rfl (by kernel_rfl) ?_
       refine D.sq (o := _) 16 [] hQ hS rfl (.skip 9 true 120 _ hb45 rfl rfl rfl) rfl rfl (by kernel_rfl) ?_
       refine D.sq (o := _) 17 [] hQ hS rfl (.skip 9 true 120 _ hb45 rfl rfl rfl) rfl rfl (by kernel_rfl) ?_
       refine D.sq (o := _) 18 [] hQ hS rfl (.skip 9 true 120 _ hb45 rfl rfl rfl) rfl rfl (by kernel_rfl) ?_
       refine D.q (o := _) 19 [] hQ hS rfl (.none rfl) rfl rfl (by exact Rd.pk' rfl rfl hb45 rfl) rfl (by kernel_rfl) ?_
       refine D.ps 1 [(20, [])] rfl hQ hS T rfl rfl (by kernel_rfl) ?_
       refine D.sq (o := _) 21 [] hQ hS rfl (.skip 20 true 131 _ rfl rfl rfl rfl) rfl rfl (by kernel_rfl) ?_
       refine D.sq (o := _) 22 [] hQ hS rfl (.skip 20 true 131 _ rfl rfl rfl rfl) rfl rfl (by kernel_rfl) ?_
       refine D.sq (o := _) 23 [] hQ hS rfl (.skip 20 true 131 _ rfl rfl rfl rfl) rfl rfl (by kernel_rfl) ?_
       refine D.sq (o := _) 24 [] hQ hS rfl (.skip 20 true 131 _ rfl rfl rfl rfl) rfl rfl (by kernel_rfl) ?_
       refine D.sq (o := _) 25 [] hQ hS rfl (.skip 20 true 131 _ rfl rfl rfl rfl) rfl rfl (by kernel_rfl) ?_
       refine D.sq (o := _) 26 [] hQ hS rfl (.skip 20 true 131 _ rfl rfl rfl rfl) rfl rfl (by kernel_rfl) ?_
       refine D.sq (o := _) 27 [] hQ hS rfl (.skip 20 true 131 _ rfl rfl rfl rfl) rfl rfl (by kernel_rfl) ?_
       refine D.q (o := _) 28 [] hQ hS rfl (.none rfl) rfl rfl (by exact Rd.pk' rfl rfl rfl rfl) rfl (by kernel_rfl) ?_
       refine D.ps 1 [(29, [])] rfl hQ hS T rfl rfl (by kernel_rfl) ?_
       refine D.sq (o := _) 30 [] hQ hS rfl (.skip 29 true 140 _ rfl rfl rfl rfl) rfl rfl (by kernel_rfl) ?_
       refine D.sq (o := _) 31 [] hQ hS rfl (.skip 29 true 140 _ rfl rfl rfl rfl) rfl rfl (by kernel_rfl) ?_
       refine D.sq (o := _) 32 [] hQ hS rfl (.skip 29 true 140 _ rfl rfl rfl rfl) rfl rfl (by kernel_rfl) ?_
       refine D.sq (o := _) 33 [] hQ hS rfl (.skip 29 true 140 _ rfl rfl rfl rfl) rfl rfl (by kernel_rfl) ?_
       refine D.sq (o := _) 34 [] hQ hS rfl (.skip 29 true 140 _ rfl rfl rfl rfl) rfl rfl (by kernel_rfl) ?_
       refine D.sq (o := _) 35 [] hQ hS rfl (.skip 29 true 140 _ rfl rfl rfl rfl) rfl rfl (by kernel_rfl) ?_
       refine D.sq (o := _) 36 [] hQ hS rfl (.skip 29 true 140 _ rfl rfl rfl rfl) rfl rfl (by kernel_rfl) ?_
       refine D.sq (o := _) 37 [] hQ hS rfl (.skip 29 true 140 _ rfl rfl rfl rfl) rfl rfl (by kernel_rfl) ?_
       refine D.sq (o := _) 38 [] hQ hS rfl (.skip 29 true 140 _ rfl rfl rfl rfl) rfl rfl (by kernel_rfl) ?_
       refine D.sq (o := _) 39 [] hQ hS rfl (.skip 29 true 140 _ rfl rfl rfl rfl) rfl rfl (by kernel_rfl) ?_
       refine D.sq (o := _) 40 [] hQ hS rfl (.skip 29 true 140 _ rfl rfl rfl rfl) rfl rfl (by kernel_rfl) ?_
       refine D.q (o := _) 41 [] hQ hS rfl (.none rfl) rfl rfl (by exact Rd.pk' rfl rfl rfl rfl) rfl (by kernel_rfl) ?_
       refine D.ps 1 [(42, [])] rfl hQ hS T rfl rfl (by kernel_rfl) ?_
       refine D.done (by kernel_rfl) ?_
       exact St.wk (hJ42 _ hm) (Wk.mk' [some 0, some 1] rfl rfl (.eqs rfl) ⟨⟨_, rfl, .box rfl (.eq rfl)⟩, ⟨_, rfl, .box rfl (.eq rfl)⟩, trivial⟩ rfl)
    ·refine D.beg 9999 [0, 1] [] mix rfl rfl (by kernel_rfl) (by repeat (first | exact NoPanicQ.body | exact NoPanicQ.rnd | refine NoPanicQ.th ?_ | refine NoPanicQ.blk ?_)) (fun hQ hS ws M' => ?_)
     refine D.ps 4 [(0, []), (1, []), (3, []), (4, [])] rfl hQ hS T rfl rfl (by kernel_rfl) ?_
     refine D.e (o := _) 2 rfl (.none rfl) (by exact Eff.c [] (v := true) (T_rules_OfKind s_1 n _ hm) en21 rfl rfl rfl (.eq rfl) trivial rfl rfl rfl rfl rfl rfl (fun _ _ => ⟨(.o _), ⟨.val (.os _ _ _ fun _ => (.cons (.v _) .nil)), trivial⟩⟩) (.inr ⟨rfl, rfl⟩) (fun _ => rfl) (fun _ => rfl) rfl) (by kernel_rfl) rfl rfl (fun x29' hm => ?_)
     obtain ⟨x29⟩ := x29'
     refine D.e (o := _) 5 rfl (.none rfl) (by exact Eff.c [] (v := true) (T_taquinref12_OfKind s_1 n _ hm) en32 rfl rfl rfl (.eq rfl) trivial rfl rfl rfl rfl rfl rfl (fun _ _ => ⟨(.o _), ⟨.val (.os _ _ _ fun _ => (.cons (.v _) .nil)), trivial⟩⟩) (.inr ⟨rfl, rfl⟩) (fun _ => rfl) (fun _ => rfl) rfl) (by kernel_rfl) rfl rfl (fun x30' hm => ?_)
     obtain ⟨x30⟩ := x30'
     refine D.e (o := _) 6 rfl (.none rfl) (by exact Eff.c [] (v := true) (T_taquinref07_Same x29 x30 _ hm) en31 rfl rfl rfl (.cons (.fz rfl rfl rfl (.os fun _ => .cons (.ro rfl) .nil)) (.cons (.fz rfl rfl rfl (.os fun _ => .cons (.ro rfl) .nil)) .nil)) trivial rfl rfl rfl rfl rfl rfl (fun _ _ => ⟨(.v _), trivial⟩) (.inr ⟨rfl, rfl⟩) (fun _ => rfl) (fun _ => rfl) rfl) (by kernel_rfl) rfl rfl (fun x31' hm => ?_)
     obtain ⟨x31⟩ := x31'
     refine D.ps 1 [(7, [])] rfl hQ hS T rfl rfl (by kernel_rfl) ?_
     refine hm.cs (fun hb32 hm => ?_) (fun hb32 hm => ?_)
     ·refine D.q (o := _) 8 [] hQ hS rfl (.take 7 true 82 _ hb32 rfl rfl rfl) rfl rfl (by exact Rd.l T rfl rfl rfl) rfl (by kernel_rfl) ?_
      refine D.q (o := _) 9 [] hQ hS rfl (.take 7 true 82 _ hb32 rfl rfl rfl) rfl rfl (by exact Rd.p T rfl) rfl (by kernel_rfl) ?_
      refine D.q (o := _) 11 [] hQ hS rfl (.take 7 true 82 _ hb32 rfl rfl rfl) rfl rfl (by exact Rd.l T rfl rfl rfl) rfl (by kernel_rfl) ?_
      refine D.q (o := _) 12 [] hQ hS rfl (.take 7 true 82 _ hb32 rfl rfl rfl) rfl rfl (by exact Rd.p T rfl) rfl (by kernel_rfl) ?_
      refine D.e (o := _) 10 rfl (.take 7 true 82 _ hb32 rfl rfl rfl) (by exact Eff.c [] (v := true) (T_rules_Class s_1 n _ hm) en12 rfl rfl rfl (.eq rfl) trivial rfl rfl rfl rfl rfl rfl (fun _ _ => ⟨(.v _), trivial⟩) (.inr ⟨rfl, rfl⟩) (fun _ => rfl) (fun _ => rfl) rfl) (by kernel_rfl) rfl rfl (fun x33' hm => ?_)
      obtain ⟨x33⟩ := x33'
      refine D.e (o := _) 13 rfl (.take 7 true 82 _ hb32 rfl rfl rfl) (by exact Eff.c [] (v := true) (T_taquinref12_Class s_1 n _ hm) en33 rfl rfl rfl (.eq rfl) trivial rfl rfl rfl rfl rfl rfl (fun _ _ => ⟨(.v _), trivial⟩) (.inr ⟨rfl, rfl⟩) (fun _ => rfl) (fun _ => rfl) rfl) (by kernel_rfl) rfl rfl (fun x34' hm => ?_)
      obtain ⟨x34⟩ := x34'
      refine D.q (o := _) 14 [] hQ hS rfl (.take 7 true 82 _ hb32 rfl rfl rfl) rfl rfl (by exact Rd.p T rfl) rfl (by kernel_rfl) ?_
      refine D.q (o := _) 15 [] hQ hS rfl (.none rfl) rfl rfl (by exact Rd.pk rfl rfl hb32 rfl) rfl (by kernel_rfl) ?_
      refine D.ps 1 [(16, [])] rfl hQ hS T rfl rfl (by kernel_rfl) ?_
      refine hm.cs (fun hb35 hm => ?_) (fun hb35 hm => ?_)
      ·refine D.q (o := _) 17 [] hQ hS rfl (.take 16 true 91 _ hb35 rfl rfl rfl) rfl rfl (by exact Rd.l T rfl rfl rfl) rfl (by kernel_rfl) ?_
       refine D.q (o := _) 18 [] hQ hS rfl (.take 16 true 91 _ hb35 rfl rfl rfl) rfl rfl (by exact Rd.p T rfl) rfl (by kernel_rfl) ?_
       refine D.q (o := _) 19 [] hQ hS rfl (.take 16 true 91 _ hb35 rfl rfl rfl) rfl rfl (by exact Rd.p T rfl) rfl (by kernel_rfl) ?_
       refine D.q (o := _) 21 [] hQ hS rfl (.take 16 true 91 _ hb35 rfl rfl rfl) rfl rfl (by exact Rd.l T rfl rfl rfl) rfl (by kernel_rfl) ?_
       refine D.q (o := _) 22 [] hQ hS rfl (.take 16 true 91 _ hb35 rfl rfl rfl) rfl rfl (by exact Rd.p T rfl) rfl (by kernel_rfl) ?_
       refine D.q (o := _) 23 [] hQ hS rfl (.take 16 true 91 _ hb35 rfl rfl rfl) rfl rfl (by exact Rd.p T rfl) rfl (by kernel_rfl) ?_
       refine D.e (o := _) 20 rfl (.take 16 true 91 _ hb35 rfl rfl rfl) (by exact Eff.c [] (v := true) (T_rules_Never s_1 a b _ hm) en11 rfl rfl rfl (.eq rfl) trivial rfl rfl rfl rfl rfl rfl (fun _ _ => ⟨(.v _), trivial⟩) (.inr ⟨rfl, rfl⟩) (fun _ => rfl) (fun _ => rfl) rfl) (by kernel_rfl) rfl rfl (fun x36' hm => ?_)
       obtain ⟨x36⟩ := x36'
       refine D.e (o := _) 24 rfl (.take 16 true 91 _ hb35 rfl rfl rfl) (by exact Eff.c [] (v := true) (T_taquinref12_Never s_1 a b _ hm) en34 rfl rfl rfl (.eq rfl) trivial rfl rfl rfl rfl rfl rfl (fun _ _ => ⟨(.v _), trivial⟩) (.inr ⟨rfl, rfl⟩) (fun _ => rfl) (fun _ => rfl) rfl) (by kernel_rfl) rfl rfl (fun x37' hm => ?_)
       obtain ⟨x37⟩ := x37'
       refine D.q (o := _) 25 [] hQ hS rfl (.take 16 true 91 _ hb35 rfl rfl rfl) rfl rfl (by exact Rd.p T rfl) rfl (by kernel_rfl) ?_
       refine D.q (o := _) 26 [] hQ hS rfl (.none rfl) rfl rfl (by exact Rd.pk rfl rfl hb35 rfl) rfl (by kernel_rfl) ?_
       refine D.ps 1 [(27, [])] rfl hQ hS T rfl rfl (by kernel_rfl) ?_
       refine hm.cs (fun hb38 hm => ?_) (fun hb38 hm => ?_)
       ·refine D.q (o := _) 28 [] hQ hS rfl (.take 27 true 102 _ hb38 rfl rfl rfl) rfl rfl (by exact Rd.l T rfl rfl rfl) rfl (by kernel_rfl) ?_
        refine D.q (o := _) 29 [] hQ hS rfl (.take 27 true 102 _ hb38 rfl rfl rfl) rfl rfl (by exact Rd.p T rfl) rfl (by kernel_rfl) ?_
        refine D.q (o := _) 31 [] hQ hS rfl (.take 27 true 102 _ hb38 rfl rfl rfl) rfl rfl (by exact Rd.l T rfl rfl rfl) rfl (by kernel_rfl) ?_
        refine D.q (o := _) 32 [] hQ hS rfl (.take 27 true 102 _ hb38 rfl rfl rfl) rfl rfl (by exact Rd.p T rfl) rfl (by kernel_rfl) ?_
        refine D.e (o := _) 30 rfl (.take 27 true 102 _ hb38 rfl rfl rfl) (by exact Eff.c [] (v := true) (T_rules_Carried st n _ hm) en14 rfl rfl rfl (.eq rfl) trivial rfl rfl rfl rfl rfl rfl (fun _ _ => ⟨(.v _), trivial⟩) (.inr ⟨rfl, rfl⟩) (fun _ => rfl) (fun _ => rfl) rfl) (by kernel_rfl) rfl rfl (fun x39' hm => ?_)
        obtain ⟨x39⟩ := x39'
        refine D.e (o := _) 33 rfl (.take 27 true 102 _ hb38 rfl rfl rfl) (by exact Eff.c [] (v := true) (T_taquinref12_Carried st n _ hm) en35 rfl rfl rfl (.eq rfl) trivial rfl rfl rfl rfl rfl rfl (fun _ _ => ⟨(.v _), trivial⟩) (.inr ⟨rfl, rfl⟩) (fun _ => rfl) (fun _ => rfl) rfl) (by kernel_rfl) rfl rfl (fun x40' hm => ?_)
        obtain ⟨x40⟩ := x40'
        refine D.q (o := _) 34 [] hQ hS rfl (.take 27 true 102 _ hb38 rfl rfl rfl) rfl rfl (by exact Rd.p T rfl) rfl (by kernel_rfl) ?_
        refine D.q (o := _) 35 [] hQ hS rfl (.none rfl) rfl rfl (by exact Rd.pk rfl rfl hb38 rfl) rfl (by kernel_rfl) ?_
        refine D.ps 1 [(36, [])] rfl hQ hS T rfl rfl (by kernel_rfl) ?_
        refine D.done (by kernel_rfl) ?_
        exact St.wk (hJ28 _ hm) (Wk.mk' [some 0, some 1] rfl rfl (.eqs rfl) ⟨⟨_, rfl, .box rfl (.eq rfl)⟩, ⟨_, rfl, .box rfl (.eq rfl)⟩, trivial⟩ rfl)
       ·refine D.sq (o := _) 28 [] hQ hS rfl (.skip 27 true 102 _ hb38 rfl rfl rfl) rfl rfl (by kernel_rfl) ?_
        refine D.sq (o := _) 29 [] hQ hS rfl (.skip 27 true 102 _ hb38 rfl rfl rfl) rfl rfl (by kernel_rfl) ?_
        refine D.sq (o := _) 30 [] hQ hS rfl (.skip 27 true 102 _ hb38 rfl rfl rfl) rfl rfl (by kernel_rfl) ?_
        refine D.sq (o := _) 31 [] hQ hS rfl (.skip 27 true 102 _ hb38 rfl rfl rfl) rfl rfl (by kernel_rfl) ?_
        refine D.sq (o := _) 32 [] hQ hS rfl (.skip 27 true 102 _ hb38 rfl rfl rfl) rfl rfl (by kernel_rfl) ?_
        refine D.sq (o := _) 33 [] hQ hS rfl (.skip 27 true 102 _ hb38 rfl rfl rfl) rfl rfl (by kernel_rfl) ?_
        refine D.sq (o := _) 34 [] hQ hS rfl (.skip 27 true 102 _ hb38 rfl rfl rfl) rfl rfl (by kernel_rfl) ?_
        refine D.q (o := _) 35 [] hQ hS rfl (.none rfl) rfl rfl (by exact Rd.pk' rfl rfl hb38 rfl) rfl (by kernel_rfl) ?_
        refine D.ps 1 [(36, [])] rfl hQ hS T rfl rfl (by kernel_rfl) ?_
        refine D.done (by kernel_rfl) ?_
        exact St.wk (hJ28 _ hm) (Wk.mk' [some 0, some 1] rfl rfl (.eqs rfl) ⟨⟨_, rfl, .box rfl (.eq rfl)⟩, ⟨_, rfl, .box rfl (.eq rfl)⟩, trivial⟩ rfl)
      ·refine D.sq (o := _) 17 [] hQ hS rfl (.skip 16 true 91 _ hb35 rfl rfl rfl) rfl rfl (by kernel_rfl) ?_
       refine D.sq (o := _) 18 [] hQ hS rfl (.skip 16 true 91 _ hb35 rfl rfl rfl) rfl rfl (by kernel_rfl) ?_
       refine D.sq (o := _) 19 [] hQ hS rfl (.skip 16 true 91 _ hb35 rfl rfl rfl) rfl rfl (by kernel_rfl) ?_
       refine D.sq (o := _) 20 [] hQ hS rfl (.skip 16 true 91 _ hb35 rfl rfl rfl) rfl rfl (by kernel_rfl) ?_
       refine D.sq (o := _) 21 [] hQ hS rfl (.skip 16 true 91 _ hb35 rfl rfl rfl) rfl rfl (by kernel_rfl) ?_
       refine D.sq (o := _) 22 [] hQ hS rfl (.skip 16 true 91 _ hb35 rfl rfl rfl) rfl rfl (by kernel_rfl) ?_
       refine D.sq (o := _) 23 [] hQ hS rfl (.skip 16 true 91 _ hb35 rfl rfl rfl) rfl rfl (by kernel_rfl) ?_
       refine D.sq (o := _) 24 [] hQ hS rfl (.skip 16 true 91 _ hb35 rfl rfl rfl) rfl rfl (by kernel_rfl) ?_
       refine D.sq (o := _) 25 [] hQ hS rfl (.skip 16 true 91 _ hb35 rfl rfl rfl) rfl rfl (by kernel_rfl) ?_
       refine D.q (o := _) 26 [] hQ hS rfl (.none rfl) rfl rfl (by exact Rd.pk' rfl rfl hb35 rfl) rfl (by kernel_rfl) ?_
       refine D.ps 1 [(27, [])] rfl hQ hS T rfl rfl (by kernel_rfl) ?_
       refine D.sq (o := _) 28 [] hQ hS rfl (.skip 27 true 102 _ rfl rfl rfl rfl) rfl rfl (by kernel_rfl) ?_
       refine D.sq (o := _) 29 [] hQ hS rfl (.skip 27 true 102 _ rfl rfl rfl rfl) rfl rfl (by kernel_rfl) ?_
       refine D.sq (o := _) 30 [] hQ hS rfl (.skip 27 true 102 _ rfl rfl rfl rfl) rfl rfl (by kernel_rfl) ?_
       refine D.sq (o := _) 31 [] hQ hS rfl (.skip 27 true 102 _ rfl rfl rfl rfl) rfl rfl (by kernel_rfl) ?_
       refine D.sq (o := _) 32 [] hQ hS rfl (.skip 27 true 102 _ rfl rfl rfl rfl) rfl rfl (by kernel_rfl) ?_
       refine D.sq (o := _) 33 [] hQ hS rfl (.skip 27 true 102 _ rfl rfl rfl rfl) rfl rfl (by kernel_rfl) ?_
       refine D.sq (o := _) 34 [] hQ hS rfl (.skip 27 true 102 _ rfl rfl rfl rfl) rfl rfl (by kernel_rfl) ?_
       refine D.q (o := _) 35 [] hQ hS rfl (.none rfl) rfl rfl (by exact Rd.pk' rfl rfl rfl rfl) rfl (by kernel_rfl) ?_
       refine D.ps 1 [(36, [])] rfl hQ hS T rfl rfl (by kernel_rfl) ?_
       refine D.done (by kernel_rfl) ?_
       exact St.wk (hJ28 _ hm) (Wk.mk' [some 0, some 1] rfl rfl (.eqs rfl) ⟨⟨_, rfl, .box rfl (.eq rfl)⟩, ⟨_, rfl, .box rfl (.eq rfl)⟩, trivial⟩ rfl)
     ·refine D.sq (o := _) 8 [] hQ hS rfl (.skip 7 true 82 _ hb32 rfl rfl rfl) rfl rfl (by kernel_rfl) ?_
      refine D.sq (o := _) 9 [] hQ hS rfl (.skip 7 true 82 _ hb32 rfl rfl rfl) rfl rfl (by kernel_rfl) ?_
      refine D.sq (o := _) 10 [] hQ hS rfl (.skip 7 true 82 _ hb32 rfl rfl rfl) rfl rfl (by kernel_rfl) ?_
      refine D.sq (o := _) 11 [] hQ hS rfl (.skip 7 true 82 _ hb32 rfl rfl rfl) rfl rfl (by kernel_rfl) ?_
      refine D.sq (o := _) 12 [] hQ hS rfl (.skip 7 true 82 _ hb32 rfl rfl rfl) rfl rfl (by kernel_rfl) ?_
      refine D.sq (o := _) 13 [] hQ hS rfl (.skip 7 true 82 _ hb32 rfl rfl rfl) rfl rfl (by kernel_rfl) ?_
      refine D.sq (o := _) 14 [] hQ hS rfl (.skip 7 true 82 _ hb32 rfl rfl rfl) rfl rfl (by kernel_rfl) ?_
      refine D.q (o := _) 15 [] hQ hS rfl (.none rfl) rfl rfl (by exact Rd.pk' rfl rfl hb32 rfl) rfl (by kernel_rfl) ?_
      refine D.ps 1 [(16, [])] rfl hQ hS T rfl rfl (by kernel_rfl) ?_
      refine D.sq (o := _) 17 [] hQ hS rfl (.skip 16 true 91 _ rfl rfl rfl rfl) rfl rfl (by kernel_rfl) ?_
      refine D.sq (o := _) 18 [] hQ hS rfl (.skip 16 true 91 _ rfl rfl rfl rfl) rfl rfl (by kernel_rfl) ?_
      refine D.sq (o := _) 19 [] hQ hS rfl (.skip 16 true 91 _ rfl rfl rfl rfl) rfl rfl (by kernel_rfl) ?_
      refine D.sq (o := _) 20 [] hQ hS rfl (.skip 16 true 91 _ rfl rfl rfl rfl) rfl rfl (by kernel_rfl) ?_
      refine D.sq (o := _) 21 [] hQ hS rfl (.skip 16 true 91 _ rfl rfl rfl rfl) rfl rfl (by kernel_rfl) ?_
      refine D.sq (o := _) 22 [] hQ hS rfl (.skip 16 true 91 _ rfl rfl rfl rfl) rfl rfl (by kernel_rfl) ?_
      refine D.sq (o := _) 23 [] hQ hS rfl (.skip 16 true 91 _ rfl rfl rfl rfl) rfl rfl (by kernel_rfl) ?_
      refine D.sq (o := _) 24 [] hQ hS rfl (.skip 16 true 91 _ rfl rfl rfl rfl) rfl rfl (by kernel_rfl) ?_
      refine D.sq (o := _) 25 [] hQ hS rfl (.skip 16 true 91 _ rfl rfl rfl rfl) rfl rfl (by kernel_rfl) ?_
      refine D.q (o := _) 26 [] hQ hS rfl (.none rfl) rfl rfl (by exact Rd.pk' rfl rfl rfl rfl) rfl (by kernel_rfl) ?_
      refine D.ps 1 [(27, [])] rfl hQ hS T rfl rfl (by kernel_rfl) ?_
      refine D.sq (o := _) 28 [] hQ hS rfl (.skip 27 true 102 _ rfl rfl rfl rfl) rfl rfl (by kernel_rfl) ?_
      refine D.sq (o := _) 29 [] hQ hS rfl (.skip 27 true 102 _ rfl rfl rfl rfl) rfl rfl (by kernel_rfl) ?_
      refine D.sq (o := _) 30 [] hQ hS rfl (.skip 27 true 102 _ rfl rfl rfl rfl) rfl rfl (by kernel_rfl) ?_
      refine D.sq (o := _) 31 [] hQ hS rfl (.skip 27 true 102 _ rfl rfl rfl rfl) rfl rfl (by kernel_rfl) ?_
      refine D.sq (o := _) 32 [] hQ hS rfl (.skip 27 true 102 _ rfl rfl rfl rfl) rfl rfl (by kernel_rfl) ?_
      refine D.sq (o := _) 33 [] hQ hS rfl (.skip 27 true 102 _ rfl rfl rfl rfl) rfl rfl (by kernel_rfl) ?_
      refine D.sq (o := _) 34 [] hQ hS rfl (.skip 27 true 102 _ rfl rfl rfl rfl) rfl rfl (by kernel_rfl) ?_
      refine D.q (o := _) 35 [] hQ hS rfl (.none rfl) rfl rfl (by exact Rd.pk' rfl rfl rfl rfl) rfl (by kernel_rfl) ?_
      refine D.ps 1 [(36, [])] rfl hQ hS T rfl rfl (by kernel_rfl) ?_
      refine D.done (by kernel_rfl) ?_
      exact St.wk (hJ28 _ hm) (Wk.mk' [some 0, some 1] rfl rfl (.eqs rfl) ⟨⟨_, rfl, .box rfl (.eq rfl)⟩, ⟨_, rfl, .box rfl (.eq rfl)⟩, trivial⟩ rfl)
   ·refine D.beg 9999 [0] [] mix rfl rfl (by kernel_rfl) (by repeat (first | exact NoPanicQ.body | exact NoPanicQ.rnd | refine NoPanicQ.th ?_ | refine NoPanicQ.blk ?_)) (fun hQ hS ws M' => ?_)
    refine D.ps 4 [(0, []), (1, []), (3, []), (4, [])] rfl hQ hS T rfl rfl (by kernel_rfl) ?_
    refine D.e (o := _) 2 rfl (.none rfl) (by exact Eff.c [] (v := true) (T_rules_ZoneOf s_1 c _ hm) en20 rfl rfl rfl (.eq rfl) trivial rfl rfl rfl rfl rfl rfl (fun _ _ => ⟨(.v _), trivial⟩) (.inr ⟨rfl, rfl⟩) (fun _ => rfl) (fun _ => rfl) rfl) (by kernel_rfl) rfl rfl (fun x16' hm => ?_)
    obtain ⟨x16⟩ := x16'
    refine D.e (o := _) 5 rfl (.none rfl) (by exact Eff.c [] (v := true) (T_taquinref12_ZoneOf s_1 c _ hm) en27 rfl rfl rfl (.eq rfl) trivial rfl rfl rfl rfl rfl rfl (fun _ _ => ⟨(.v _), trivial⟩) (.inr ⟨rfl, rfl⟩) (fun _ => rfl) (fun _ => rfl) rfl) (by kernel_rfl) rfl rfl (fun x17' hm => ?_)
    obtain ⟨x17⟩ := x17'
    refine D.ps 2 [(6, []), (7, [])] rfl hQ hS T rfl rfl (by kernel_rfl) ?_
    refine hm.cs (fun hb18 hm => ?_) (fun hb18 hm => ?_)
    ·refine D.q (o := _) 8 [] hQ hS rfl (.take 7 true 46 _ hb18 rfl rfl rfl) rfl rfl (by exact Rd.l T rfl rfl rfl) rfl (by kernel_rfl) ?_
     refine D.q (o := _) 9 [] hQ hS rfl (.take 7 true 46 _ hb18 rfl rfl rfl) rfl rfl (by exact Rd.p T rfl) rfl (by kernel_rfl) ?_
     refine D.q (o := _) 11 [] hQ hS rfl (.take 7 true 46 _ hb18 rfl rfl rfl) rfl rfl (by exact Rd.l T rfl rfl rfl) rfl (by kernel_rfl) ?_
     refine D.q (o := _) 12 [] hQ hS rfl (.take 7 true 46 _ hb18 rfl rfl rfl) rfl rfl (by exact Rd.p T rfl) rfl (by kernel_rfl) ?_
     refine D.e (o := _) 10 rfl (.take 7 true 46 _ hb18 rfl rfl rfl) (by exact Eff.c [] (v := true) (T_rules_Speed s_1 c _ hm) en24 rfl rfl rfl (.eq rfl) trivial rfl rfl rfl rfl rfl rfl (fun _ _ => ⟨(.v _), trivial⟩) (.inr ⟨rfl, rfl⟩) (fun _ => rfl) (fun _ => rfl) rfl) (by kernel_rfl) rfl rfl (fun x19' hm => ?_)
     obtain ⟨x19⟩ := x19'
     refine D.e (o := _) 13 rfl (.take 7 true 46 _ hb18 rfl rfl rfl) (by exact Eff.c [] (v := true) (T_taquinref12_Speed s_1 c _ hm) en28 rfl rfl rfl (.eq rfl) trivial rfl rfl rfl rfl rfl rfl (fun _ _ => ⟨(.v _), trivial⟩) (.inr ⟨rfl, rfl⟩) (fun _ => rfl) (fun _ => rfl) rfl) (by kernel_rfl) rfl rfl (fun x20' hm => ?_)
     obtain ⟨x20⟩ := x20'
     refine D.q (o := _) 14 [] hQ hS rfl (.take 7 true 46 _ hb18 rfl rfl rfl) rfl rfl (by exact Rd.p T rfl) rfl (by kernel_rfl) ?_
     refine D.q (o := _) 15 [] hQ hS rfl (.none rfl) rfl rfl (by exact Rd.pk rfl rfl hb18 rfl) rfl (by kernel_rfl) ?_
     refine D.ps 1 [(16, [])] rfl hQ hS T rfl rfl (by kernel_rfl) ?_
     refine hm.cs (fun hb21 hm => ?_) (fun hb21 hm => ?_)
     ·refine D.q (o := _) 17 [] hQ hS rfl (.take 16 true 55 _ hb21 rfl rfl rfl) rfl rfl (by exact Rd.l T rfl rfl rfl) rfl (by kernel_rfl) ?_
      refine D.q (o := _) 18 [] hQ hS rfl (.take 16 true 55 _ hb21 rfl rfl rfl) rfl rfl (by exact Rd.p T rfl) rfl (by kernel_rfl) ?_
      refine D.q (o := _) 19 [] hQ hS rfl (.take 16 true 55 _ hb21 rfl rfl rfl) rfl rfl (by exact Rd.p T rfl) rfl (by kernel_rfl) ?_
      refine D.q (o := _) 21 [] hQ hS rfl (.take 16 true 55 _ hb21 rfl rfl rfl) rfl rfl (by exact Rd.l T rfl rfl rfl) rfl (by kernel_rfl) ?_
      refine D.q (o := _) 22 [] hQ hS rfl (.take 16 true 55 _ hb21 rfl rfl rfl) rfl rfl (by exact Rd.p T rfl) rfl (by kernel_rfl) ?_
      refine D.q (o := _) 23 [] hQ hS rfl (.take 16 true 55 _ hb21 rfl rfl rfl) rfl rfl (by exact Rd.p T rfl) rfl (by kernel_rfl) ?_
      refine D.e (o := _) 20 rfl (.take 16 true 55 _ hb21 rfl rfl rfl) (by exact Eff.c [] (v := true) (T_rules_Open s_1 c n _ hm) en25 rfl rfl rfl (.eq rfl) trivial rfl rfl rfl rfl rfl rfl (fun _ _ => ⟨(.v _), trivial⟩) (.inr ⟨rfl, rfl⟩) (fun _ => rfl) (fun _ => rfl) rfl) (by kernel_rfl) rfl rfl (fun x22' hm => ?_)
      obtain ⟨x22⟩ := x22'
      refine D.e (o := _) 24 rfl (.take 16 true 55 _ hb21 rfl rfl rfl) (by exact Eff.c [] (v := true) (T_taquinref12_Open s_1 c n _ hm) en29 rfl rfl rfl (.eq rfl) trivial rfl rfl rfl rfl rfl rfl (fun _ _ => ⟨(.v _), trivial⟩) (.inr ⟨rfl, rfl⟩) (fun _ => rfl) (fun _ => rfl) rfl) (by kernel_rfl) rfl rfl (fun x23' hm => ?_)
      obtain ⟨x23⟩ := x23'
      refine D.q (o := _) 25 [] hQ hS rfl (.take 16 true 55 _ hb21 rfl rfl rfl) rfl rfl (by exact Rd.p T rfl) rfl (by kernel_rfl) ?_
      refine D.q (o := _) 26 [] hQ hS rfl (.none rfl) rfl rfl (by exact Rd.pk rfl rfl hb21 rfl) rfl (by kernel_rfl) ?_
      refine D.ps 1 [(27, [])] rfl hQ hS T rfl rfl (by kernel_rfl) ?_
      refine hm.cs (fun hb24 hm => ?_) (fun hb24 hm => ?_)
      ·refine D.q (o := _) 28 [] hQ hS rfl (.take 27 true 66 _ hb24 rfl rfl rfl) rfl rfl (by exact Rd.l T rfl rfl rfl) rfl (by kernel_rfl) ?_
       refine D.q (o := _) 29 [] hQ hS rfl (.take 27 true 66 _ hb24 rfl rfl rfl) rfl rfl (by exact Rd.p T rfl) rfl (by kernel_rfl) ?_
       refine D.q (o := _) 31 [] hQ hS rfl (.take 27 true 66 _ hb24 rfl rfl rfl) rfl rfl (by exact Rd.l T rfl rfl rfl) rfl (by kernel_rfl) ?_
       refine D.q (o := _) 32 [] hQ hS rfl (.take 27 true 66 _ hb24 rfl rfl rfl) rfl rfl (by exact Rd.p T rfl) rfl (by kernel_rfl) ?_
       refine D.e (o := _) 30 rfl (.take 27 true 66 _ hb24 rfl rfl rfl) (by exact Eff.c [] (v := true) (T_rules_Stands s_1 c _ hm) en16 rfl rfl rfl (.eq rfl) trivial rfl rfl rfl rfl rfl rfl (fun _ _ => ⟨(.v _), trivial⟩) (.inr ⟨rfl, rfl⟩) (fun _ => rfl) (fun _ => rfl) rfl) (by kernel_rfl) rfl rfl (fun x25' hm => ?_)
       obtain ⟨x25⟩ := x25'
       refine D.e (o := _) 33 rfl (.take 27 true 66 _ hb24 rfl rfl rfl) (by exact Eff.c [] (v := true) (T_taquinref12_Stands s_1 c _ hm) en30 rfl rfl rfl (.eq rfl) trivial rfl rfl rfl rfl rfl rfl (fun _ _ => ⟨(.v _), trivial⟩) (.inr ⟨rfl, rfl⟩) (fun _ => rfl) (fun _ => rfl) rfl) (by kernel_rfl) rfl rfl (fun x26' hm => ?_)
       obtain ⟨x26⟩ := x26'
       refine D.q (o := _) 34 [] hQ hS rfl (.take 27 true 66 _ hb24 rfl rfl rfl) rfl rfl (by exact Rd.p T rfl) rfl (by kernel_rfl) ?_
       refine D.q (o := _) 35 [] hQ hS rfl (.none rfl) rfl rfl (by exact Rd.pk rfl rfl hb24 rfl) rfl (by kernel_rfl) ?_
       refine D.ps 1 [(36, [])] rfl hQ hS T rfl rfl (by kernel_rfl) ?_
       refine D.done (by kernel_rfl) ?_
       exact St.wk (hJ15 _ hm) (Wk.mk' [some 0, some 1] rfl rfl (.eqs rfl) ⟨⟨_, rfl, .box rfl (.eq rfl)⟩, ⟨_, rfl, .box rfl (.eq rfl)⟩, trivial⟩ rfl)
      ·refine D.sq (o := _) 28 [] hQ hS rfl (.skip 27 true 66 _ hb24 rfl rfl rfl) rfl rfl (by kernel_rfl) ?_
       refine D.sq (o := _) 29 [] hQ hS rfl (.skip 27 true 66 _ hb24 rfl rfl rfl) rfl rfl (by kernel_rfl) ?_
       refine D.sq (o := _) 30 [] hQ hS rfl (.skip 27 true 66 _ hb24 rfl rfl rfl) rfl rfl (by kernel_rfl) ?_
       refine D.sq (o := _) 31 [] hQ hS rfl (.skip 27 true 66 _ hb24 rfl rfl rfl) rfl rfl (by kernel_rfl) ?_
       refine D.sq (o := _) 32 [] hQ hS rfl (.skip 27 true 66 _ hb24 rfl rfl rfl) rfl rfl (by kernel_rfl) ?_
       refine D.sq (o := _) 33 [] hQ hS rfl (.skip 27 true 66 _ hb24 rfl rfl rfl) rfl rfl (by kernel_rfl) ?_
       refine D.sq (o := _) 34 [] hQ hS rfl (.skip 27 true 66 _ hb24 rfl rfl rfl) rfl rfl (by kernel_rfl) ?_
       refine D.q (o := _) 35 [] hQ hS rfl (.none rfl) rfl rfl (by exact Rd.pk' rfl rfl hb24 rfl) rfl (by kernel_rfl) ?_
       refine D.ps 1 [(36, [])] rfl hQ hS T rfl rfl (by kernel_rfl) ?_
       refine D.done (by kernel_rfl) ?_
       exact St.wk (hJ15 _ hm) (Wk.mk' [some 0, some 1] rfl rfl (.eqs rfl) ⟨⟨_, rfl, .box rfl (.eq rfl)⟩, ⟨_, rfl, .box rfl (.eq rfl)⟩, trivial⟩ rfl)
     ·refine D.sq (o := _) 17 [] hQ hS rfl (.skip 16 true 55 _ hb21 rfl rfl rfl) rfl rfl (by kernel_rfl) ?_
      refine D.sq (o := _) 18 [] hQ hS rfl (.skip 16 true 55 _ hb21 rfl rfl rfl) rfl rfl (by kernel_rfl) ?_
      refine D.sq (o := _) 19 [] hQ hS rfl (.skip 16 true 55 _ hb21 rfl rfl rfl) rfl rfl (by kernel_rfl) ?_
      refine D.sq (o := _) 20 [] hQ hS rfl (.skip 16 true 55 _ hb21 rfl rfl rfl) rfl rfl (by kernel_rfl) ?_
      refine D.sq (o := _) 21 [] hQ hS rfl (.skip 16 true 55 _ hb21 rfl rfl rfl) rfl rfl (by kernel_rfl) ?_
      refine D.sq (o := _) 22 [] hQ hS rfl (.skip 16 true 55 _ hb21 rfl rfl rfl) rfl rfl (by kernel_rfl) ?_
      refine D.sq (o := _) 23 [] hQ hS rfl (.skip 16 true 55 _ hb21 rfl rfl rfl) rfl rfl (by kernel_rfl) ?_
      refine D.sq (o := _) 24 [] hQ hS rfl (.skip 16 true 55 _ hb21 rfl rfl rfl) rfl rfl (by kernel_rfl) ?_
      refine D.sq (o := _) 25 [] hQ hS rfl (.skip 16 true 55 _ hb21 rfl rfl rfl) rfl rfl (by kernel_rfl) ?_
      refine D.q (o := _) 26 [] hQ hS rfl (.none rfl) rfl rfl (by exact Rd.pk' rfl rfl hb21 rfl) rfl (by kernel_rfl) ?_
      refine D.ps 1 [(27, [])] rfl hQ hS T rfl rfl (by kernel_rfl) ?_
      refine D.sq (o := _) 28 [] hQ hS rfl (.skip 27 true 66 _ rfl rfl rfl rfl) rfl rfl (by kernel_rfl) ?_
      refine D.sq (o := _) 29 [] hQ hS rfl (.skip 27 true 66 _ rfl rfl rfl rfl) rfl rfl (by kernel_rfl) ?_
      refine D.sq (o := _) 30 [] hQ hS rfl (.skip 27 true 66 _ rfl rfl rfl rfl) rfl rfl (by kernel_rfl) ?_
      refine D.sq (o := _) 31 [] hQ hS rfl (.skip 27 true 66 _ rfl rfl rfl rfl) rfl rfl (by kernel_rfl) ?_
      refine D.sq (o := _) 32 [] hQ hS rfl (.skip 27 true 66 _ rfl rfl rfl rfl) rfl rfl (by kernel_rfl) ?_
      refine D.sq (o := _) 33 [] hQ hS rfl (.skip 27 true 66 _ rfl rfl rfl rfl) rfl rfl (by kernel_rfl) ?_
      refine D.sq (o := _) 34 [] hQ hS rfl (.skip 27 true 66 _ rfl rfl rfl rfl) rfl rfl (by kernel_rfl) ?_
      refine D.q (o := _) 35 [] hQ hS rfl (.none rfl) rfl rfl (by exact Rd.pk' rfl rfl rfl rfl) rfl (by kernel_rfl) ?_
      refine D.ps 1 [(36, [])] rfl hQ hS T rfl rfl (by kernel_rfl) ?_
      refine D.done (by kernel_rfl) ?_
      exact St.wk (hJ15 _ hm) (Wk.mk' [some 0, some 1] rfl rfl (.eqs rfl) ⟨⟨_, rfl, .box rfl (.eq rfl)⟩, ⟨_, rfl, .box rfl (.eq rfl)⟩, trivial⟩ rfl)
    ·refine D.sq (o := _) 8 [] hQ hS rfl (.skip 7 true 46 _ hb18 rfl rfl rfl) rfl rfl (by kernel_rfl) ?_
     refine D.sq (o := _) 9 [] hQ hS rfl (.skip 7 true 46 _ hb18 rfl rfl rfl) rfl rfl (by kernel_rfl) ?_
     refine D.sq (o := _) 10 [] hQ hS rfl (.skip 7 true 46 _ hb18 rfl rfl rfl) rfl rfl (by kernel_rfl) ?_
     refine D.sq (o := _) 11 [] hQ hS rfl (.skip 7 true 46 _ hb18 rfl rfl rfl) rfl rfl (by kernel_rfl) ?_
     refine D.sq (o := _) 12 [] hQ hS rfl (.skip 7 true 46 _ hb18 rfl rfl rfl) rfl rfl (by kernel_rfl) ?_
     refine D.sq (o := _) 13 [] hQ hS rfl (.skip 7 true 46 _ hb18 rfl rfl rfl) rfl rfl (by kernel_rfl) ?_
     refine D.sq (o := _) 14 [] hQ hS rfl (.skip 7 true 46 _ hb18 rfl rfl rfl) rfl rfl (by kernel_rfl) ?_
     refine D.q (o := _) 15 [] hQ hS rfl (.none rfl) rfl rfl (by exact Rd.pk' rfl rfl hb18 rfl) rfl (by kernel_rfl) ?_
     refine D.ps 1 [(16, [])] rfl hQ hS T rfl rfl (by kernel_rfl) ?_
     refine D.sq (o := _) 17 [] hQ hS rfl (.skip 16 true 55 _ rfl rfl rfl rfl) rfl rfl (by kernel_rfl) ?_
     refine D.sq (o := _) 18 [] hQ hS rfl (.skip 16 true 55 _ rfl rfl rfl rfl) rfl rfl (by kernel_rfl) ?_
     refine D.sq (o := _) 19 [] hQ hS rfl (.skip 16 true 55 _ rfl rfl rfl rfl) rfl rfl (by kernel_rfl) ?_
     refine D.sq (o := _) 20 [] hQ hS rfl (.skip 16 true 55 _ rfl rfl rfl rfl) rfl rfl (by kernel_rfl) ?_
     refine D.sq (o := _) 21 [] hQ hS rfl (.skip 16 true 55 _ rfl rfl rfl rfl) rfl rfl (by kernel_rfl) ?_
     refine D.sq (o := _) 22 [] hQ hS rfl (.skip 16 true 55 _ rfl rfl rfl rfl) rfl rfl (by kernel_rfl) ?_
     refine D.sq (o := _) 23 [] hQ hS rfl (.skip 16 true 55 _ rfl rfl rfl rfl) rfl rfl (by kernel_rfl) ?_
     refine D.sq (o := _) 24 [] hQ hS rfl (.skip 16 true 55 _ rfl rfl rfl rfl) rfl rfl (by kernel_rfl) ?_
     refine D.sq (o := _) 25 [] hQ hS rfl (.skip 16 true 55 _ rfl rfl rfl rfl) rfl rfl (by kernel_rfl) ?_
     refine D.q (o := _) 26 [] hQ hS rfl (.none rfl) rfl rfl (by exact Rd.pk' rfl rfl rfl rfl) rfl (by kernel_rfl) ?_
     refine D.ps 1 [(27, [])] rfl hQ hS T rfl rfl (by kernel_rfl) ?_
     refine D.sq (o := _) 28 [] hQ hS rfl (.skip 27 true 66 _ rfl rfl rfl rfl) rfl rfl (by kernel_rfl) ?_
     refine D.sq (o := _) 29 [] hQ hS rfl (.skip 27 true 66 _ rfl rfl rfl rfl) rfl rfl (by kernel_rfl) ?_
     refine D.sq (o := _) 30 [] hQ hS rfl (.skip 27 true 66 _ rfl rfl rfl rfl) rfl rfl (by kernel_rfl) ?_
     refine D.sq (o := _) 31 [] hQ hS rfl (.skip 27 true 66 _ rfl rfl rfl rfl) rfl rfl (by kernel_rfl) ?_
     refine D.sq (o := _) 32 [] hQ hS rfl (.skip 27 true 66 _ rfl rfl rfl rfl) rfl rfl (by kernel_rfl) ?_
     refine D.sq (o := _) 33 [] hQ hS rfl (.skip 27 true 66 _ rfl rfl rfl rfl) rfl rfl (by kernel_rfl) ?_
     refine D.sq (o := _) 34 [] hQ hS rfl (.skip 27 true 66 _ rfl rfl rfl rfl) rfl rfl (by kernel_rfl) ?_
     refine D.q (o := _) 35 [] hQ hS rfl (.none rfl) rfl rfl (by exact Rd.pk' rfl rfl rfl rfl) rfl (by kernel_rfl) ?_
     refine D.ps 1 [(36, [])] rfl hQ hS T rfl rfl (by kernel_rfl) ?_
     refine D.done (by kernel_rfl) ?_
     exact St.wk (hJ15 _ hm) (Wk.mk' [some 0, some 1] rfl rfl (.eqs rfl) ⟨⟨_, rfl, .box rfl (.eq rfl)⟩, ⟨_, rfl, .box rfl (.eq rfl)⟩, trivial⟩ rfl)
 ·refine U.start ?_
  refine U.ps 2 T rfl ?_
  refine U.e (o := _) rfl (.none rfl) (by exact Eff.c [] (v := true) (T_taquinlaw12_fits s_1 st _ hm) en9 rfl rfl rfl (.eq rfl) trivial rfl rfl rfl rfl rfl rfl (fun _ _ => ⟨(.v _), trivial⟩) (.inr ⟨rfl, rfl⟩) (fun _ => rfl) (fun _ => rfl) rfl) (fun x8' hm => ?_)
  obtain ⟨x8⟩ := x8'
  refine U.ps 2 T rfl ?_
  refine hm.cs (fun hb9 hm => ?_) (fun hb9 hm => ?_)
  ·refine U.pg 3 4 false 28 (ntF hb9) T rfl rfl rfl rfl ?_
   refine U.r (o := _) rfl (.none rfl) rfl rfl (by exact Rd.pk' rfl rfl (ntF hb9) rfl) ?_
   refine U.ps 1 T rfl ?_
   refine hm.cs (fun hb10 hm => ?_) (fun hb10 hm => ?_)
   ·refine U.sks 3 9 false 33 hb10 rfl rfl rfl ?_
    refine U.r (o := _) rfl (.none rfl) rfl rfl (by exact Rd.pk rfl rfl hb10 rfl) ?_
    refine U.done ?_
    exact St.wk (hJ7 _ hm) (Wk.mk' [some 0, some 1] rfl rfl (.eqs rfl) ⟨⟨_, rfl, .box rfl (.eq rfl)⟩, ⟨_, rfl, .box rfl (.eq rfl)⟩, trivial⟩ rfl)
   ·refine U.pg 3 9 false 33 hb10 T rfl rfl rfl rfl ?_
    refine U.r (o := _) rfl (.none rfl) rfl rfl (by exact Rd.pk' rfl rfl hb10 rfl) ?_
    refine U.done ?_
    exact St.wk (hJ7 _ hm) (Wk.mk' [some 0, some 1] rfl rfl (.eqs rfl) ⟨⟨_, rfl, .box rfl (.eq rfl)⟩, ⟨_, rfl, .box rfl (.eq rfl)⟩, trivial⟩ rfl)
  ·refine U.sks 3 4 false 28 (ntT hb9) rfl rfl rfl ?_
   refine U.r (o := _) rfl (.none rfl) rfl rfl (by exact Rd.pk rfl rfl (ntT hb9) rfl) ?_
   refine U.ps 1 T rfl ?_
   refine U.sks 3 9 false 33 rfl rfl rfl rfl ?_
   refine U.r (o := _) rfl (.none rfl) rfl rfl (by exact Rd.pk rfl rfl rfl rfl) ?_
   refine U.done ?_
   exact St.wk (hJ7 _ hm) (Wk.mk' [some 0, some 1] rfl rfl (.eqs rfl) ⟨⟨_, rfl, .box rfl (.eq rfl)⟩, ⟨_, rfl, .box rfl (.eq rfl)⟩, trivial⟩ rfl)
end Go.Proofs.Ytpcdibgbijddlaa
